/- What the calls that this law reaches answer, part 6 of 16. -/
import Derived.Test.YthkbckkghnbonaaGreatDoorJElaborate5
import Derived.Test.YthkbckkghnbonaaGreatDoorJElaborate4
set_option maxRecDepth 100000
set_option maxHeartbeats 16000000
set_option linter.unusedVariables false
namespace Go.Proofs.YthkbckkghnbonaaGreatDoor
open Go.RowKit
set_option linter.unusedVariables false
def okO (N B K:Int) (o:Opt):Bool:=validOp o N B&&(!decide (K<o.cond)&&!(o.k==2&&o.bit != K))
def vst (N B:Int) (s:Option Int) (o:Opt):Option Int:=match s with
 | none=>none
 | some K=>if okO N B K o=true then some (K+if o.k=2 then 1 else 0) else none
def vrun (N B:Int) (l:List Opt):Option Int:=l.foldl (vst N B) (some 0)
def validRt (N I B:Int) (l:List Opt):Bool:=inB N 1 4&&(inB I 1 N&&(inB B 0 3&&(decide (l.length≤120)&&vrun N B l==some B)))
theorem validRt_in {N I B:Int} {l:List Opt} (e1:inB N 1 4=true) (e2:inB I 1 N=true) (e3:inB B 0 3=true) (h:l.length≤120):validRt N I B l=(vrun N B l==some B):=by
 unfold validRt;rw[e1,e2,e3];simp [h]
theorem vrun_good {N B K:Int} {l:List Opt} {t:Nat} {o:Opt} (h:vrun N B (l.take t)=some K) (ho:l[t]?=some o) (hk:okO N B K o=true):vrun N B (l.take (t+1))=some (K+if o.k=2 then 1 else 0):=by
 rw[List.take_add_one,ho]
 unfold vrun at h ⊢
 rw[List.foldl_append,h]
 simp [vst,hk]
theorem vst_none (N B:Int) (l:List Opt):l.foldl (vst N B) none=none:=by
 induction l with
 | nil=>rfl
 | cons x l ih=>exact ih
theorem vrun_bad {N B K:Int} {l:List Opt} {t:Nat} {o:Opt} (h:vrun N B (l.take t)=some K) (ho:l[t]?=some o) (hk:okO N B K o=false):vrun N B l=none:=by
 have hlt:=(List.getElem?_eq_some_iff.1 ho).1
 have e:l=l.take t++o :: l.drop (t+1):=by
  have h1:=List.drop_eq_getElem_cons hlt
  have h2:l[t]=o:=by have:=(List.getElem?_eq_some_iff.1 ho).2;exact this
  rw[h2] at h1
  rw[←h1,List.take_append_drop]
 unfold vrun at h ⊢
 rw[e,List.foldl_append,h,List.foldl_cons]
 have:vst N B (some K) o=none:=by simp [vst,hk]
 rw[this]
 exact vst_none N B _
theorem o2_of {o:Opt} (h:(o.k==2)=true):o.k=2:=by simpa using h
theorem o2_not {o:Opt} (h:(o.k==2)=false):¬ o.k=2:=by simpa using h
theorem IsValidRoutine_spec (N I B:Int) (A:Option Addr) (n c:Nat) (l:List Opt) (w:World) (h:Rd w 8 A n (l.flatMap ocells)) (hl:l.length=n) (hn:n≤1099511627776) :
  Calls Tryz.prog 63 #[.agg #[.int .i64 N,.int .i64 I,.int .i64 B,.slice A n c]] w fun e w'=>e=.returned (.bool (validRt N I B l))∧Below w.heap.size w w'∧w.heap.size≤w'.heap.size:=by
 have b0:Below w.heap.size w (w.alloc (.cells #[.int .i64 N,.int .i64 I,.int .i64 B,.slice A n c] 40)):=Zq0
 have H:=hD (h.below b0)
 have HL:=hD hl
 clear h hl b0
 cases e1:inB N 1 4
 ·have HF:=hD (show validRt N I B l=false by simp [validRt,e1])
  go_enter Tryz.func63,Tryz.ntmps63
  go_wp2_with (go_at_call 47;refine(l1In_any _ _ _ _).mono ?_;rintro e w' ⟨rfl,rfl⟩)
  go_ret
  exact ⟨by rw[HF.out];rfl,Zq0,Zq5⟩
 cases e2:inB I 1 N
 ·have HF:=hD (show validRt N I B l=false by simp [validRt,e2])
  go_enter Tryz.func63,Tryz.ntmps63
  go_wp2_with (go_at_call 47;refine(l1In_any _ _ _ _).mono ?_;rintro e w' ⟨rfl,rfl⟩)
  go_ret
  exact ⟨by rw[HF.out];rfl,Zq0,Zq5⟩
 cases e3:inB B 0 3
 ·have HF:=hD (show validRt N I B l=false by simp [validRt,e3])
  go_enter Tryz.func63,Tryz.ntmps63
  go_wp2_with (go_at_call 47;refine(l1In_any _ _ _ _).mono ?_;rintro e w' ⟨rfl,rfl⟩)
  go_ret
  exact ⟨by rw[HF.out];rfl,Zq0,Zq5⟩
 by_cases hle:n≤120
 case neg =>
  have HF:=hD (show validRt N I B l=false by have:=HL.out;simp [validRt];omega)
  have hgt:120<n:=by omega
  clear hle
  go_enter Tryz.func63,Tryz.ntmps63
  go_wp2_with (go_at_call 47;refine(l1In_any _ _ _ _).mono ?_;rintro e w' ⟨rfl,rfl⟩)
  go_ret
  exact ⟨by rw[HF.out];rfl,Zq0,Zq5⟩
 have HF:=hD (validRt_in e1 e2 e3 (show l.length≤120 by rw[HL.out];exact hle))
 have hBB:=inB_iff.1 e3
 go_enter Tryz.func63,Tryz.ntmps63
 go_wp2_with (go_at_call 47;refine(l1In_any _ _ _ _).mono ?_;rintro e w' ⟨rfl,rfl⟩)
 obtain ⟨w0,hw0⟩:∃ w0,w0=w.alloc (.cells #[.int .i64 N,.int .i64 I,.int .i64 B,.slice A n c] 40):=⟨_,rfl⟩
 rw[←hw0] at H ⊢
 have x0:Hid (w0.heap[w.heap.size]?=some (.cells #[.int .i64 N,.int .i64 I,.int .i64 B,.slice A n c] 40 (0,0))):=by rw[hw0];exact boxed1_0 _ _
 have b0:Below w.heap.size w w0:=by rw[hw0];exact Zq0
 have S0:=hD (show w.heap.size+1=w0.heap.size by rw[hw0];simp)
 clear hw0
 go_loopw [3,4] (fun m i wr=>∃ (t:Nat) (K:Int),t≤n∧i=.int .i64 t∧m=.int .i64 K∧0≤K∧K≤t∧vrun N B (l.take t)=some K∧Below w0.heap.size w0 wr) (fun _ i _=>n - (intOf i).toNat)
 case atStart=>exact ⟨0,0,Nat.zero_le _,rfl,rfl,by omega,by omega,rfl,Below.refl _ _⟩
 case round =>
  obtain ⟨t,K,ht,rfl,rfl,hK0,hK1,hcg,hb⟩:=hrel
  have hbs:=hb.size
  have hlt0:w.heap.size<wr.heap.size:=by have:=S0.out;omega
  have HC:=hD hcg
  clear hcg
  obtain ⟨p0,p1,p2,p3⟩:=boxcells4 (lay:=hb) x0.out
  by_cases hlt:t<n
  ·have htl:t<l.length:=by rw[HL.out];exact hlt
   obtain ⟨o,ho⟩:∃ o,l[t]?=some o:=⟨_,List.getElem?_eq_getElem htl⟩
   obtain ⟨b,off,rfl,hbl,hc⟩:=H.out.2 Zq6
   have q0:wr.cell? ⟨b,off+t*8,none⟩=some (.int .i64 o.k):=(hb.cell (by have:=hbl;simp;omega)).trans (hc (t*8+0) _ (flat_at ocells_len l t o 0 ho Zq8))
   have q1:wr.cell? ⟨b,off+t*8+1,none⟩=some (.int .i64 o.g.k):=(hb.cell (by have:=hbl;simp;omega)).trans (hc (t*8+1) _ (flat_at ocells_len l t o 1 ho Zq8))
   have q2:wr.cell? ⟨b,off+t*8+2,none⟩=some (.int .i64 o.g.a):=(hb.cell (by have:=hbl;simp;omega)).trans (hc (t*8+2) _ (flat_at ocells_len l t o 2 ho Zq8))
   have q3:wr.cell? ⟨b,off+t*8+3,none⟩=some (.int .i64 o.g.b):=(hb.cell (by have:=hbl;simp;omega)).trans (hc (t*8+3) _ (flat_at ocells_len l t o 3 ho Zq8))
   have q4:wr.cell? ⟨b,off+t*8+4,none⟩=some (.int .i64 o.g.c):=(hb.cell (by have:=hbl;simp;omega)).trans (hc (t*8+4) _ (flat_at ocells_len l t o 4 ho Zq8))
   have q5:wr.cell? ⟨b,off+t*8+5,none⟩=some (.int .i64 o.q):=(hb.cell (by have:=hbl;simp;omega)).trans (hc (t*8+5) _ (flat_at ocells_len l t o 5 ho Zq8))
   have q6:wr.cell? ⟨b,off+t*8+6,none⟩=some (.int .i64 o.bit):=(hb.cell (by have:=hbl;simp;omega)).trans (hc (t*8+6) _ (flat_at ocells_len l t o 6 ho Zq8))
   have q7:wr.cell? ⟨b,off+t*8+7,none⟩=some (.int .i64 o.cond):=(hb.cell (by have:=hbl;simp;omega)).trans (hc (t*8+7) _ (flat_at ocells_len l t o 7 ho Zq8))
   have HO:=hD ho
   clear hc ho htl
   go_wp2_with fail
   obtain ⟨w1,hw1⟩:∃ w1,w1=wr.alloc (.cells #[.int .i64 o.k,.int .i64 o.g.k,.int .i64 o.g.a,.int .i64 o.g.b,.int .i64 o.g.c,.int .i64 o.q,.int .i64 o.bit,.int .i64 o.cond] 104):=⟨_,rfl⟩
   rw[←hw1]
   have x1:Hid (w1.heap[wr.heap.size]?=some (.cells #[.int .i64 o.k,.int .i64 o.g.k,.int .i64 o.g.a,.int .i64 o.g.b,.int .i64 o.g.c,.int .i64 o.q,.int .i64 o.bit,.int .i64 o.cond] 104 (0,0))):=by rw[hw1];exact boxed1_0 _ _
   have b1:Below w0.heap.size w0 w1:=by rw[hw1];exact hb.alloc hbs _
   have s1:wr.heap.size+1=w1.heap.size:=by rw[hw1];simp
   have S1:=hD s1
   clear hw1 s1 p0 p1 p2 p3 q0 q1 q2 q3 q4 q5 q6 q7
   refine(IsValidOp_spec _ _ _ _ _ _ _ _ _ _ _).mono ?_
   rintro e w2 ⟨rfl,b2,s2⟩
   have hs1:=S1.out
   have b12:Below w0.heap.size w0 w2:=b1.trans (b2.mono Zq6)
   have hle2:wr.heap.size<w2.heap.size:=by omega
   clear hs1
   obtain ⟨p0,p1,p2,p3⟩:=boxcells4 (lay:=b12) x0.out
   obtain ⟨z0,z1,z2,z3,z4,z5,z6,z7⟩:=boxcells8 (lay:=b2) x1.out
   cases hv:validOp ⟨o.k,⟨o.g.k,o.g.a,o.g.b,o.g.c⟩,o.q,o.bit,o.cond⟩ N B
   ·have HE:=hD (vrun_bad HC.out HO.out (by simp only[okO];rw[show validOp o N B=false from hv];rfl))
    go_wp2_with fail
    all_goals go_ret
    all_goals exact ⟨by rw[HF.out,HE.out];rfl,b0.trans (b12.mono (by have:=S0.out;omega)),by have:=S0.out;have:=S1.out;omega⟩
   by_cases hco:K<o.cond
   ·have HE:=hD (vrun_bad HC.out HO.out (by simp [okO,hco]))
    go_wp2_with fail
    all_goals go_ret
    all_goals exact ⟨by rw[HF.out,HE.out];rfl,b0.trans (b12.mono (by have:=S0.out;omega)),by have:=S0.out;have:=S1.out;omega⟩
   have hco2:o.cond≤K:=by omega
   have HCO:=hD hco
   clear hco
   cases hk:(o.k==2)
   ·have HS:=hD (vrun_good HC.out HO.out (by simp only[okO];rw[show validOp o N B=true from hv,hk];simp [HCO.out]))
    have HK:=hD hk
    go_wp2_with fail
    go_roundw
    case rel=>exact ⟨t+1,K,by omega,by go_num,rfl,by omega,by omega,by rw[HS.out];exact congrArg some (by simp [o2_not HK.out]),b12⟩
    case measure=>simp [intOf];omega
   cases hbt:(o.bit==K)
   ·have hbt':(o.bit != K)=true:=by simp only[bne,hbt];rfl
    have HE:=hD (vrun_bad HC.out HO.out (by simp only[okO];rw[hk,hbt'];simp))
    go_wp2_with fail
    all_goals go_ret
    all_goals exact ⟨by rw[HF.out,HE.out];rfl,b0.trans (b12.mono (by have:=S0.out;omega)),by have:=S0.out;have:=S1.out;omega⟩
   ·have hbt':(o.bit != K)=false:=by simp only[bne,hbt];rfl
    have HS:=hD (vrun_good HC.out HO.out (by simp only[okO];rw[show validOp o N B=true from hv,hk,hbt'];simp [HCO.out]))
    have HK:=hD hk
    go_wp2_with fail
    go_roundw
    case rel=>exact ⟨t+1,K+1,by omega,by go_num,rfl,by omega,by omega,by rw[HS.out];exact congrArg some (by simp [o2_of HK.out]),b12⟩
    case measure=>simp [intOf];omega
  ·obtain rfl:t=n:=by omega
   have HT:Hid (vrun N B l=some K):=by
    have h:=HC.out
    rw[List.take_of_length_le (by rw[HL.out];exact Nat.le_refl _)] at h
    exact h
   go_wp2_with fail
   go_ret
   exact ⟨by rw[HF.out,HT.out];rfl,b0.trans (hb.mono (by have:=S0.out;omega)),by have:=hb.size;have:=S0.out;omega⟩
theorem IsValidRoutine_impl (N I B:Int) (A:Option Addr) (n c:Nat) (l:List Opt) (w:World) (h:Rd w 8 A n (l.flatMap ocells)) (hl:l.length=n) (hn:n≤1099511627776) :
  Calls Tryz.prog 28 #[.agg #[.int .i64 N,.int .i64 I,.int .i64 B,.slice A n c]] w fun e w'=>e=.returned (.bool (validRt N I B l))∧Below w.heap.size w w'∧w.heap.size≤w'.heap.size:=by
 have b0:Below w.heap.size w (w.alloc (.cells #[.int .i64 N,.int .i64 I,.int .i64 B,.slice A n c] 40)):=Zq0
 have H:=hD (h.below b0)
 have HL:=hD hl
 clear h hl b0
 cases e1:inB N 1 4
 ·have HF:=hD (show validRt N I B l=false by simp [validRt,e1])
  go_enter Tryz.func28,Tryz.ntmps28
  go_wp2_with (go_at_call 44;refine(in_any _ _ _ _).mono ?_;rintro e w' ⟨rfl,rfl⟩)
  go_ret
  exact ⟨by rw[HF.out];rfl,Zq0,Zq5⟩
 cases e2:inB I 1 N
 ·have HF:=hD (show validRt N I B l=false by simp [validRt,e2])
  go_enter Tryz.func28,Tryz.ntmps28
  go_wp2_with (go_at_call 44;refine(in_any _ _ _ _).mono ?_;rintro e w' ⟨rfl,rfl⟩)
  go_ret
  exact ⟨by rw[HF.out];rfl,Zq0,Zq5⟩
 cases e3:inB B 0 3
 ·have HF:=hD (show validRt N I B l=false by simp [validRt,e3])
  go_enter Tryz.func28,Tryz.ntmps28
  go_wp2_with (go_at_call 44;refine(in_any _ _ _ _).mono ?_;rintro e w' ⟨rfl,rfl⟩)
  go_ret
  exact ⟨by rw[HF.out];rfl,Zq0,Zq5⟩
 by_cases hle:n≤120
 case neg =>
  have HF:=hD (show validRt N I B l=false by have:=HL.out;simp [validRt];omega)
  have hgt:120<n:=by omega
  clear hle
  go_enter Tryz.func28,Tryz.ntmps28
  go_wp2_with (go_at_call 44;refine(in_any _ _ _ _).mono ?_;rintro e w' ⟨rfl,rfl⟩)
  go_ret
  exact ⟨by rw[HF.out];rfl,Zq0,Zq5⟩
 have HF:=hD (validRt_in e1 e2 e3 (show l.length≤120 by rw[HL.out];exact hle))
 have hBB:=inB_iff.1 e3
 go_enter Tryz.func28,Tryz.ntmps28
 go_wp2_with (go_at_call 44;refine(in_any _ _ _ _).mono ?_;rintro e w' ⟨rfl,rfl⟩)
 obtain ⟨w0,hw0⟩:∃ w0,w0=w.alloc (.cells #[.int .i64 N,.int .i64 I,.int .i64 B,.slice A n c] 40):=⟨_,rfl⟩
 rw[←hw0] at H ⊢
 have x0:Hid (w0.heap[w.heap.size]?=some (.cells #[.int .i64 N,.int .i64 I,.int .i64 B,.slice A n c] 40 (0,0))):=by rw[hw0];exact boxed1_0 _ _
 have b0:Below w.heap.size w w0:=by rw[hw0];exact Zq0
 have S0:=hD (show w.heap.size+1=w0.heap.size by rw[hw0];simp)
 clear hw0
 go_loopw [3,33] (fun m i wr=>∃ (t:Nat) (K:Int),t≤n∧i=.int .i64 t∧m=.int .i64 K∧0≤K∧K≤t∧vrun N B (l.take t)=some K∧Below w0.heap.size w0 wr) (fun _ i _=>n - (intOf i).toNat)
 case atStart=>exact ⟨0,0,Nat.zero_le _,rfl,rfl,by omega,by omega,rfl,Below.refl _ _⟩
 case round =>
  obtain ⟨t,K,ht,rfl,rfl,hK0,hK1,hcg,hb⟩:=hrel
  have hbs:=hb.size
  have hlt0:w.heap.size<wr.heap.size:=by have:=S0.out;omega
  have HC:=hD hcg
  clear hcg
  obtain ⟨p0,p1,p2,p3⟩:=boxcells4 (lay:=hb) x0.out
  by_cases hlt:t<n
  ·have htl:t<l.length:=by rw[HL.out];exact hlt
   obtain ⟨o,ho⟩:∃ o,l[t]?=some o:=⟨_,List.getElem?_eq_getElem htl⟩
   obtain ⟨b,off,rfl,hbl,hc⟩:=H.out.2 Zq6
   have q0:wr.cell? ⟨b,off+t*8,none⟩=some (.int .i64 o.k):=(hb.cell (by have:=hbl;simp;omega)).trans (hc (t*8+0) _ (flat_at ocells_len l t o 0 ho Zq8))
   have q1:wr.cell? ⟨b,off+t*8+1,none⟩=some (.int .i64 o.g.k):=(hb.cell (by have:=hbl;simp;omega)).trans (hc (t*8+1) _ (flat_at ocells_len l t o 1 ho Zq8))
   have q2:wr.cell? ⟨b,off+t*8+2,none⟩=some (.int .i64 o.g.a):=(hb.cell (by have:=hbl;simp;omega)).trans (hc (t*8+2) _ (flat_at ocells_len l t o 2 ho Zq8))
   have q3:wr.cell? ⟨b,off+t*8+3,none⟩=some (.int .i64 o.g.b):=(hb.cell (by have:=hbl;simp;omega)).trans (hc (t*8+3) _ (flat_at ocells_len l t o 3 ho Zq8))
   have q4:wr.cell? ⟨b,off+t*8+4,none⟩=some (.int .i64 o.g.c):=(hb.cell (by have:=hbl;simp;omega)).trans (hc (t*8+4) _ (flat_at ocells_len l t o 4 ho Zq8))
   have q5:wr.cell? ⟨b,off+t*8+5,none⟩=some (.int .i64 o.q):=(hb.cell (by have:=hbl;simp;omega)).trans (hc (t*8+5) _ (flat_at ocells_len l t o 5 ho Zq8))
   have q6:wr.cell? ⟨b,off+t*8+6,none⟩=some (.int .i64 o.bit):=(hb.cell (by have:=hbl;simp;omega)).trans (hc (t*8+6) _ (flat_at ocells_len l t o 6 ho Zq8))
   have q7:wr.cell? ⟨b,off+t*8+7,none⟩=some (.int .i64 o.cond):=(hb.cell (by have:=hbl;simp;omega)).trans (hc (t*8+7) _ (flat_at ocells_len l t o 7 ho Zq8))
   have HO:=hD ho
   clear hc ho htl
   go_wp2_with fail
   obtain ⟨w1,hw1⟩:∃ w1,w1=wr.alloc (.cells #[.int .i64 o.k,.int .i64 o.g.k,.int .i64 o.g.a,.int .i64 o.g.b,.int .i64 o.g.c,.int .i64 o.q,.int .i64 o.bit,.int .i64 o.cond] 104):=⟨_,rfl⟩
   rw[←hw1]
   have x1:Hid (w1.heap[wr.heap.size]?=some (.cells #[.int .i64 o.k,.int .i64 o.g.k,.int .i64 o.g.a,.int .i64 o.g.b,.int .i64 o.g.c,.int .i64 o.q,.int .i64 o.bit,.int .i64 o.cond] 104 (0,0))):=by rw[hw1];exact boxed1_0 _ _
   have b1:Below w0.heap.size w0 w1:=by rw[hw1];exact hb.alloc hbs _
   have s1:wr.heap.size+1=w1.heap.size:=by rw[hw1];simp
   have S1:=hD s1
   clear hw1 s1 p0 p1 p2 p3 q0 q1 q2 q3 q4 q5 q6 q7
   refine(IsValidOp_impl _ _ _ _ _ _ _ _ _ _ _).mono ?_
   rintro e w2 ⟨rfl,b2,s2⟩
   have hs1:=S1.out
   have b12:Below w0.heap.size w0 w2:=b1.trans (b2.mono Zq6)
   have hle2:wr.heap.size<w2.heap.size:=by omega
   clear hs1
   obtain ⟨p0,p1,p2,p3⟩:=boxcells4 (lay:=b12) x0.out
   obtain ⟨z0,z1,z2,z3,z4,z5,z6,z7⟩:=boxcells8 (lay:=b2) x1.out
   cases hv:validOp ⟨o.k,⟨o.g.k,o.g.a,o.g.b,o.g.c⟩,o.q,o.bit,o.cond⟩ N B
   ·have HE:=hD (vrun_bad HC.out HO.out (by simp only[okO];rw[show validOp o N B=false from hv];rfl))
    go_wp2_with fail
    all_goals go_ret
    all_goals exact ⟨by rw[HF.out,HE.out];rfl,b0.trans (b12.mono (by have:=S0.out;omega)),by have:=S0.out;have:=S1.out;omega⟩
   by_cases hco:K<o.cond
   ·have HE:=hD (vrun_bad HC.out HO.out (by simp [okO,hco]))
    go_wp2_with fail
    all_goals go_ret
    all_goals exact ⟨by rw[HF.out,HE.out];rfl,b0.trans (b12.mono (by have:=S0.out;omega)),by have:=S0.out;have:=S1.out;omega⟩
   have hco2:o.cond≤K:=by omega
   have HCO:=hD hco
   clear hco
   cases hk:(o.k==2)
   ·have HS:=hD (vrun_good HC.out HO.out (by simp only[okO];rw[show validOp o N B=true from hv,hk];simp [HCO.out]))
    have HK:=hD hk
    go_wp2_with fail
    go_roundw
    case rel=>exact ⟨t+1,K,by omega,by go_num,rfl,by omega,by omega,by rw[HS.out];exact congrArg some (by simp [o2_not HK.out]),b12⟩
    case measure=>simp [intOf];omega
   cases hbt:(o.bit==K)
   ·have hbt':(o.bit != K)=true:=by simp only[bne,hbt];rfl
    have HE:=hD (vrun_bad HC.out HO.out (by simp only[okO];rw[hk,hbt'];simp))
    go_wp2_with fail
    all_goals go_ret
    all_goals exact ⟨by rw[HF.out,HE.out];rfl,b0.trans (b12.mono (by have:=S0.out;omega)),by have:=S0.out;have:=S1.out;omega⟩
   ·have hbt':(o.bit != K)=false:=by simp only[bne,hbt];rfl
    have HS:=hD (vrun_good HC.out HO.out (by simp only[okO];rw[show validOp o N B=true from hv,hk,hbt'];simp [HCO.out]))
    have HK:=hD hk
    go_wp2_with fail
    go_roundw
    case rel=>exact ⟨t+1,K+1,by omega,by go_num,rfl,by omega,by omega,by rw[HS.out];exact congrArg some (by simp [o2_of HK.out]),b12⟩
    case measure=>simp [intOf];omega
  ·obtain rfl:t=n:=by omega
   have HT:Hid (vrun N B l=some K):=by
    have h:=HC.out
    rw[List.take_of_length_le (by rw[HL.out];exact Nat.le_refl _)] at h
    exact h
   go_wp2_with fail
   go_ret
   exact ⟨by rw[HF.out,HT.out];rfl,b0.trans (hb.mono (by have:=S0.out;omega)),by have:=hb.size;have:=S0.out;omega⟩
def RelS (r D:List Opt × Es):Prop:=(r.2.bad=false→r=D)∧(r.2.bad=true→120<D.1.length)
theorem dL_len {α:Type} {one:α→Es→List Opt × Es}:∀ (l:List α) (out:List Opt) (e:Es),out.length≤(dL one l out e).1.length:=by
 intro l
 induction l with
 | nil=>intro out e;exact Nat.le_refl _
 | cons s l ih =>
  intro out e
  have:=ih (out++(one s e).1) (one s e).2
  rw[List.length_append] at this
  show out.length≤(dL one l (out++(one s e).1) (one s e).2).1.length
  omega
section
variable {α:Type} {one oned:α→Es→List Opt × Es} (Q:List α→Es→Prop)
 (hQ:∀ s l e,Q (s :: l) e→e.bad=false→RelS (one s e) (oned s e)∧(oned s e).2.bad=false∧Q l (oned s e).2)
include hQ
theorem relS_list (hm:∀ s e,e.bad=true→(one s e).2.bad=true):∀ (l:List α) (out:List Opt) (e:Es) (outD:List Opt) (eD:Es),Q l eD→eD.bad=false →
  ((e.bad=false∧out=outD∧e=eD)∨(e.bad=true∧120<outD.length))→RelS (sL one l out e) (dL oned l outD eD):=by
 intro l
 induction l with
 | nil =>
  intro out e outD eD hq hb h
  rcases h with ⟨h1,rfl,rfl⟩|⟨h1,h2⟩
  ·exact ⟨fun _=>rfl,fun h=>by rw[show(sL one [] out e).2=e from rfl,h1] at h;cases h⟩
  ·exact ⟨fun h=>(by rw[show(sL one [] out e).2=e from rfl,h1] at h;cases h),fun _=>h2⟩
 | cons s l ih =>
  intro out e outD eD hq hb h
  obtain ⟨g1,g2,g3⟩:=hQ s l eD hq hb
  have hlen:=dL_len (one:=oned) l (outD++(oned s eD).1) (oned s eD).2
  rw[List.length_append] at hlen
  show RelS (if 2000<(out++(one s e).1).length then ([],⟨(one s e).2.bits,(one s e).2.most,true⟩) else sL one l (out++(one s e).1) (one s e).2) (dL oned l (outD++(oned s eD).1) (oned s eD).2)
  split
  ·rename_i hbig
   refine ⟨fun h=>(by cases h),fun _=>?_⟩
   rcases h with ⟨h1,rfl,rfl⟩|⟨h1,h2⟩
   ·cases hr:(one s e).2.bad
    ·rw[g1.1 hr,List.length_append] at hbig
     omega
    ·have:=g1.2 hr
     omega
   ·omega
  ·refine ih _ _ _ _ g3 g2 ?_
   rcases h with ⟨h1,rfl,rfl⟩|⟨h1,h2⟩
   ·cases hr:(one s e).2.bad
    ·have:=g1.1 hr
     exact .inl ⟨rfl,by rw[this],by rw[this]⟩
    ·have:=g1.2 hr
     exact .inr ⟨rfl,by rw[List.length_append];omega⟩
   ·exact .inr ⟨hm s e h1,by rw[List.length_append];omega⟩
theorem relI_list:∀ (l:List α) (out:List Opt) (e:Es) (outD:List Opt) (eD:Es),Q l eD→eD.bad=false →
  ((e.bad=false∧out=outD∧e=eD)∨(e.bad=true∧120<outD.length))→RelS (iL one l out e) (dL oned l outD eD):=by
 intro l
 induction l with
 | nil =>
  intro out e outD eD hq hb h
  rcases h with ⟨h1,rfl,rfl⟩|⟨h1,h2⟩
  ·exact ⟨fun _=>rfl,fun h=>by rw[show(iL one [] out e).2=e from rfl,h1] at h;cases h⟩
  ·exact ⟨fun h=>(by rw[show(iL one [] out e).2=e from rfl,h1] at h;cases h),fun _=>h2⟩
 | cons s l ih =>
  intro out e outD eD hq hb h
  obtain ⟨g1,g2,g3⟩:=hQ s l eD hq hb
  have hlen:=dL_len (one:=oned) l (outD++(oned s eD).1) (oned s eD).2
  rw[List.length_append] at hlen
  show RelS (if e.bad=true then ([],e) else iL one l (out++(one s e).1) ⟨(one s e).2.bits,(one s e).2.most,(one s e).2.bad || decide (120<(out++(one s e).1).length)⟩) (dL oned l (outD++(oned s eD).1) (oned s eD).2)
  rcases h with ⟨h1,rfl,rfl⟩|⟨h1,h2⟩
  ·rw[if_neg (by rw[h1];exact Bool.false_ne_true)]
   refine ih _ _ _ _ g3 g2 ?_
   cases hr:(one s e).2.bad
   ·have hone:=g1.1 hr
    by_cases hbig:120<(out++(one s e).1).length
    ·exact .inr ⟨by simp only[decide_eq_true hbig,Bool.or_true],by rw[hone] at hbig;exact hbig⟩
    ·refine .inl ⟨by simp only[decide_eq_false hbig,Bool.or_false],by rw[hone],?_⟩
     rw[decide_eq_false hbig,Bool.or_false]
     have e1:(⟨(one s e).2.bits,(one s e).2.most,false⟩:Es)=(one s e).2:=by rw[←hr]
     rw[e1,hone]
   ·have:=g1.2 hr
    exact .inr ⟨by simp only[Bool.true_or],by rw[List.length_append];omega⟩
  ·rw[if_pos h1]
   exact ⟨fun h=>(by rw[show(([]:List Opt),e).2=e from rfl,h1] at h;cases h),fun _=>by omega⟩
end
def Ctl (names held:List ByteArray) (o:Opt):Prop:=o.k=1→validG o.g 4=true∧(∀ a,hasS held a=true→actsG o.g (fS names a)=false)∧ctlS o.g.k held.length=true
def Cx (names held:List ByteArray):Prop:=names.length≤4∧∀ a,hasS held a=true→hasS names a=true
theorem acts_iff {g:Gt} {q:Int}:actsG g q=true ↔ q∈(qsOf g).take (ar g.k):=by unfold actsG hasI;simp
theorem ar_1 {k:Int} (h1:1≤k) (h2:k≤8):ar k=1:=if_pos (inB_iff.2 ⟨h1,h2⟩)
theorem ar_2 {k:Int} (h1:9≤k) (h2:k≤11):ar k=2:=by
 unfold ar
 rw[if_neg (fun h=>by have:=inB_iff.1 h;omega),if_pos (inB_iff.2 ⟨h1,h2⟩)]
theorem ar_3:ar 12=3:=by decide
theorem valid_1 {g:Gt} (ha:ar g.k=1):validG g 4=true ↔ (0≤g.a∧g.a≤3)∧g.b=0∧g.c=0:=by
 unfold validG
 rw[ha]
 simp [vupto,vstep,qsOf,inB_iff,and_assoc,show inB 4 1 4=true from by decide]
theorem valid_2 {g:Gt} (ha:ar g.k=2):validG g 4=true ↔ (0≤g.a∧g.a≤3)∧(0≤g.b∧g.b≤3)∧g.b≠g.a∧g.c=0:=by
 unfold validG
 rw[ha]
 simp [vupto,vstep,qsOf,inB_iff,and_assoc,show inB 4 1 4=true from by decide]
theorem valid_3 {g:Gt} (ha:ar g.k=3):validG g 4=true ↔ (0≤g.a∧g.a≤3)∧(0≤g.b∧g.b≤3)∧g.b≠g.a∧(0≤g.c∧g.c≤3)∧g.c≠g.a∧g.c≠g.b:=by
 unfold validG
 rw[ha]
 simp [vupto,vstep,qsOf,inB_iff,and_assoc,show inB 4 1 4=true from by decide]
theorem acts_1 {g:Gt} {q:Int} (ha:ar g.k=1):actsG g q=true ↔ q=g.a:=by rw[acts_iff,ha];simp [qsOf]
theorem acts_2 {g:Gt} {q:Int} (ha:ar g.k=2):actsG g q=true ↔ q=g.a∨q=g.b:=by rw[acts_iff,ha];simp [qsOf]
theorem acts_3 {g:Gt} {q:Int} (ha:ar g.k=3):actsG g q=true ↔ q=g.a∨q=g.b∨q=g.c:=by rw[acts_iff,ha];simp [qsOf]
theorem cgl_ok {q:Int} {g:Gt} {L:List Gt} (hv:validG g 4=true) (hq:0≤q∧q≤3) (ha:actsG g q=false) (h:cgl q g=some L) :
  1≤L.length∧∀ g'∈L,validG g' 4=true∧∀ p,actsG g' p=true→p=q∨actsG g p=true:=by
 have hk:=valid_k hv
 obtain ⟨k,a,b,c⟩:=g
 have hk:1≤k∧k≤12:=hk
 by_cases h8:k≤8
 ·have a1:ar (⟨k,a,b,c⟩:Gt).k=1:=ar_1 hk.1 h8
  have v1:=(valid_1 a1).1 hv
  have n1:q≠a:=fun e=>by have:=(acts_1 a1).2 e;rw[this] at ha;cases ha
  have v1:(0≤a∧a≤3)∧b=0∧c=0:=v1
  have hA:actsG (⟨k,a,b,c⟩:Gt) a=true:=(acts_1 a1).2 rfl
  have one:∀ j:Int,1≤j→j≤8→∀ x,(x=a∨x=q)→validG (g1 j x) 4=true∧∀ p,actsG (g1 j x) p=true→p=q∨actsG (⟨k,a,b,c⟩:Gt) p=true:=by
   intro j j1 j2 x hx
   have aj:ar (g1 j x).k=1:=ar_1 j1 j2
   refine ⟨(valid_1 aj).2 ⟨show 0≤x∧x≤3 by rcases hx with rfl|rfl;exact v1.1;exact hq,rfl,rfl⟩,fun p hp=>?_⟩
   have hp:p=x:=(acts_1 aj).1 hp
   subst hp
   rcases hx with rfl|rfl
   ·exact .inr hA
   ·exact .inl rfl
  have two:∀ j:Int,9≤j→j≤11→validG ⟨j,q,a,0⟩ 4=true∧∀ p,actsG ⟨j,q,a,0⟩ p=true→p=q∨actsG (⟨k,a,b,c⟩:Gt) p=true:=by
   intro j j1 j2
   have aj:ar (⟨j,q,a,0⟩:Gt).k=2:=ar_2 j1 j2
   refine ⟨(valid_2 aj).2 ⟨hq,v1.1,fun e=>n1 e.symm,rfl⟩,fun p hp=>?_⟩
   rcases (acts_2 aj).1 hp with hp|hp
   ·exact .inl hp
   ·have hp:p=a:=hp
    subst hp
    exact .inr hA
  have cx:validG (gcx q a) 4=true∧∀ p,actsG (gcx q a) p=true→p=q∨actsG (⟨k,a,b,c⟩:Gt) p=true:=two 9 Zq6 Zq6
  simp only[cgl] at h
  repeat' (split at h)
  all_goals (first|(cases h;done)|(injection h with h;subst h;refine ⟨by simp,fun g' hg'=>?_⟩;simp only[List.mem_cons,List.not_mem_nil,or_false] at hg'))
  ·subst hg';exact cx
  ·rcases hg' with rfl|rfl|rfl
   ·exact one 6 Zq6 Zq6 a (.inl rfl)
   ·exact cx
   ·exact one 5 Zq6 Zq6 a (.inl rfl)
  ·subst hg';exact two 10 Zq6 Zq6
  ·rcases hg' with rfl|rfl|rfl|rfl|rfl|rfl|rfl
   ·exact one 6 Zq6 Zq6 a (.inl rfl)
   ·exact one 4 Zq6 Zq6 a (.inl rfl)
   ·exact one 8 Zq6 Zq6 a (.inl rfl)
   ·exact cx
   ·exact one 7 Zq6 Zq6 a (.inl rfl)
   ·exact one 4 Zq6 Zq6 a (.inl rfl)
   ·exact one 5 Zq6 Zq6 a (.inl rfl)
  ·rcases hg' with rfl|rfl|rfl|rfl|rfl
   ·exact one 7 Zq6 Zq6 q (.inr rfl)
   ·exact one 7 Zq6 Zq6 a (.inl rfl)
   ·exact cx
   ·exact one 8 Zq6 Zq6 a (.inl rfl)
   ·exact cx
  ·rcases hg' with rfl|rfl|rfl|rfl|rfl
   ·exact one 8 Zq6 Zq6 q (.inr rfl)
   ·exact one 8 Zq6 Zq6 a (.inl rfl)
   ·exact cx
   ·exact one 7 Zq6 Zq6 a (.inl rfl)
   ·exact cx
  all_goals omega
 ·by_cases h12:k=12
  ·subst h12
   simp [cgl] at h
  ·have a2:ar (⟨k,a,b,c⟩:Gt).k=2:=ar_2 (by show 9≤k;omega) (by show k≤11;omega)
   have v2:(0≤a∧a≤3)∧(0≤b∧b≤3)∧b≠a∧c=0:=(valid_2 a2).1 hv
   have n1:q≠a:=fun e=>by have:=(acts_2 a2).2 (.inl e);rw[this] at ha;cases ha
   have n2:q≠b:=fun e=>by have:=(acts_2 a2).2 (.inr e);rw[this] at ha;cases ha
   have hA:actsG (⟨k,a,b,c⟩:Gt) a=true:=(acts_2 a2).2 (.inl rfl)
   have hB:actsG (⟨k,a,b,c⟩:Gt) b=true:=(acts_2 a2).2 (.inr rfl)
   have h4:validG (g1 4 b) 4=true∧∀ p,actsG (g1 4 b) p=true→p=q∨actsG (⟨k,a,b,c⟩:Gt) p=true:=by
    have aj:ar (g1 4 b).k=1:=ar_1 (k:=4) Zq8 Zq8
    refine ⟨(valid_1 aj).2 ⟨v2.2.1,rfl,rfl⟩,fun p hp=>?_⟩
    have hp:p=b:=(acts_1 aj).1 hp
    subst hp
    exact .inr hB
   have hba:validG (gcx b a) 4=true∧∀ p,actsG (gcx b a) p=true→p=q∨actsG (⟨k,a,b,c⟩:Gt) p=true:=by
    have aj:ar (gcx b a).k=2:=ar_2 (k:=9) Zq8 Zq8
    refine ⟨(valid_2 aj).2 ⟨v2.2.1,v2.1,fun e=>v2.2.2.1 e.symm,rfl⟩,fun p hp=>?_⟩
    rcases (acts_2 aj).1 hp with hp|hp
    ·have hp:p=b:=hp
     subst hp
     exact .inr hB
    ·have hp:p=a:=hp
     subst hp
     exact .inr hA
   have ccx:validG ⟨12,q,a,b⟩ 4=true∧∀ p,actsG ⟨12,q,a,b⟩ p=true→p=q∨actsG (⟨k,a,b,c⟩:Gt) p=true:=by
    have aj:ar (⟨12,q,a,b⟩:Gt).k=3:=ar_3
    refine ⟨(valid_3 aj).2 ⟨hq,v2.1,fun e=>n1 e.symm,v2.2.1,fun e=>n2 e.symm,v2.2.2.1⟩,fun p hp=>?_⟩
    rcases (acts_3 aj).1 hp with hp|hp|hp
    ·exact .inl hp
    ·have hp:p=a:=hp
     subst hp
     exact .inr hA
    ·have hp:p=b:=hp
     subst hp
     exact .inr hB
   simp only[cgl] at h
   repeat' (split at h)
   all_goals (first|(exfalso;omega)|(cases h;done)|(injection h with h;subst h;refine ⟨by simp,fun g' hg'=>?_⟩;simp only[List.mem_cons,List.not_mem_nil,or_false] at hg'))
   ·subst hg';exact ccx
   ·rcases hg' with rfl|rfl|rfl
    ·exact h4
    ·exact ccx
    ·exact h4
   ·rcases hg' with rfl|rfl|rfl
    ·exact hba
    ·exact ccx
    ·exact hba
theorem cgate_ctl {q:Int} {g:Gt} {c:Nat} (hv:validG g 4=true) (hq:0≤q∧q≤3) (ha:actsG g q=false) (hc:ctlS g.k (c+1)=true) :
  ∃ L,cgate q g=some L∧1≤L.length∧∀ g'∈L,validG g' 4=true∧(∀ p,actsG g' p=true→p=q∨actsG g p=true)∧ctlS g'.k c=true:=by
 have hqb:inB q 0 3=true:=inB_iff.2 hq
 have hk:=valid_k hv
 rw[cgate_t hv hqb ha]
 have key:∃ L,cgl q g=some L∧∀ g'∈L,ctlS g'.k c=true:=by
  obtain ⟨k,a,b,z⟩:=g
  have hk:1≤k∧k≤12:=hk
  have hc:ctlS k (c+1)=true:=hc
  cases c with
  | zero =>
   unfold ctlS at hc
   rw[if_neg Zq6,if_pos Zq6] at hc
   simp only[Bool.and_eq_true,bne_iff_ne,ne_eq] at hc
   have h9:k=1∨k=2∨k=3∨k=4∨k=5∨k=6∨k=9∨k=10∨k=11:=by omega
   rcases h9 with rfl|rfl|rfl|rfl|rfl|rfl|rfl|rfl|rfl <;> exact ⟨_,rfl,fun _ _=>rfl⟩
  | succ c =>
   unfold ctlS at hc
   rw[if_neg Zq6,if_neg Zq6] at hc
   simp only[Bool.and_eq_true,Bool.or_eq_true,decide_eq_true_eq,beq_iff_eq] at hc
   obtain ⟨h2,h13⟩:=hc
   obtain rfl:c=0:=by omega
   rcases h13 with rfl|rfl
   ·exact ⟨_,rfl,fun g' hg=>by simp only[List.mem_singleton] at hg;subst hg;show ctlS 9 1=true;decide⟩
   ·exact ⟨_,rfl,fun g' hg=>by simp only[List.mem_singleton] at hg;subst hg;show ctlS 10 1=true;decide⟩
 obtain ⟨L,h1,h2⟩:=key
 obtain ⟨h3,h4⟩:=cgl_ok hv hq ha h1
 exact ⟨L,h1,h3,fun g' hg=>⟨(h4 g' hg).1,(h4 g' hg).2,h2 g' hg⟩⟩
theorem os_ok {q:Int}:∀ {D:List Opt},(∀ o∈D,o.k=1→∃ L,cgate q o.g=some L∧1≤L.length) →
  ∃ R,cos q D=some R∧D.length≤R.length∧∀ o'∈R,(o'∈D∧o'.k≠1)∨∃ o∈D,o.k=1∧∃ L,cgate q o.g=some L∧∃ g'∈L,o'=gop o.cond g':=by
 intro D
 induction D with
 | nil=>intro _;exact ⟨[],rfl,Nat.le_refl _,fun _ h=>by cases h⟩
 | cons o D ih =>
  intro h
  obtain ⟨R,h1,h2,h3⟩:=ih (fun x hx=>h x (List.mem_cons_of_mem _ hx))
  by_cases hk:o.k=1
  ·obtain ⟨L,h4,h5⟩:=h o (List.mem_cons_self ..) hk
   have hB:coB q o=true:=by unfold coB cgB;rw[if_pos hk,h4];rfl
   have hL:coL q o=L.map (gop o.cond):=by unfold coL cgL;rw[if_pos hk,h4];rfl
   refine ⟨coL q o++R,by simp only[cos,hB,if_true,h1,Option.map_some],by rw[List.length_append,hL,List.length_map,List.length_cons];omega,fun o' ho=>?_⟩
   rcases List.mem_append.1 ho with ho|ho
   ·rw[hL] at ho
    obtain ⟨g',hg,rfl⟩:=List.mem_map.1 ho
    exact .inr ⟨o,List.mem_cons_self ..,hk,L,h4,g',hg,rfl⟩
   ·rcases h3 o' ho with ⟨a1,a2⟩|⟨x,a1,a2⟩
    ·exact .inl ⟨List.mem_cons_of_mem _ a1,a2⟩
    ·exact .inr ⟨x,List.mem_cons_of_mem _ a1,a2⟩
  ·have hB:coB q o=true:=by unfold coB;rw[if_neg hk]
   have hL:coL q o=[o]:=by unfold coL;rw[if_neg hk]
   refine ⟨coL q o++R,by simp only[cos,hB,if_true,h1,Option.map_some],by rw[hL];simp only[List.length_append,List.length_cons,List.length_nil];omega,fun o' ho=>?_⟩
   rcases List.mem_append.1 ho with ho|ho
   ·rw[hL] at ho
    simp only[List.mem_singleton] at ho
    subst ho
    exact .inl ⟨List.mem_cons_self ..,hk⟩
   ·rcases h3 o' ho with ⟨a1,a2⟩|⟨x,a1,a2⟩
    ·exact .inl ⟨List.mem_cons_of_mem _ a1,a2⟩
    ·exact .inr ⟨x,List.mem_cons_of_mem _ a1,a2⟩
theorem chkA_all {names held args:List ByteArray}:∀ (r:List ByteArray) (i:Nat),args.drop i=r→(chkA names held args i r).1=0→∀ j a,i≤j→args[j]?=some a→hasS names a=true∧hasS held a=false∧hasS (args.take j) a=false:=by
 intro r
 induction r with
 | nil =>
  intro i hd _ j a hj ha
  have h1:=(List.getElem?_eq_some_iff.1 ha).1
  have h2:args.length≤i:=by simpa using hd
  omega
 | cons x r ih =>
  intro i hd hc j a hj ha
  have hx:args[i]?=some x:=by
   have:=congrArg (·[0]?) hd
   simpa using this
  unfold chkA at hc
  split at hc
  ·have hc:(2:Int)=0:=hc
   omega
  ·rename_i h1
   split at hc
   ·have hc:(4:Int)=0:=hc
    omega
   ·rename_i h2
    split at hc
    ·have hc:(3:Int)=0:=hc
     omega
    ·rename_i h3
     by_cases hij:i=j
     ·subst hij
      rw[hx] at ha
      injection ha with ha
      subst ha
      exact ⟨by simpa using h1,by simpa using h2,by simpa using h3⟩
     ·refine ih (i+1) ?_ hc j a Zq6 ha
      rw[←List.drop_drop,hd]
      rfl
theorem ar_cases (k:Int):ar k=0∨ar k=1∨ar k=2∨ar k=3:=by
 unfold ar
 split
 ·exact .inr (.inl rfl)
 ·split
  ·exact .inr (.inr (.inl rfl))
  ·split
   ·exact .inr (.inr (.inr rfl))
   ·exact .inl rfl
theorem hasS_refl {l:List ByteArray} {a:ByteArray} (h:a∈l):hasS l a=true:=List.any_eq_true.2 ⟨a,h,eqSt_refl a⟩
theorem gat_ok {names held:List ByteArray} {h:SH} (hcx:Cx names held) (hl:h.args.length=ar (gkind h.word)) (h0:ar (gkind h.word)≠0) (hc:(chkA names held h.args 0 h.args).1=0) :
  (validG (gat (fS names) h) 4=true∧∀ a,hasS held a=true→actsG (gat (fS names) h) (fS names a)=false)∧gat (ixI names) h=gat (fS names) h:=by
 obtain ⟨k,word,args,count⟩:=h
 have hl:args.length=ar (gkind word):=hl
 have h0:ar (gkind word)≠0:=h0
 have hA:=chkA_all (args:=args) args 0 rfl hc
 have inr4:∀ a,hasS names a=true→0≤fS names a∧fS names a≤3:=fun a ha=>by have:=atS_lt ha;have:=hcx.1;unfold fS;omega
 have ne4:∀ a b,hasS names a=true→hasS names b=true→a≠b→fS names a≠fS names b:=fun a b ha hb hne e=>hne (atS_inj ha hb (by unfold fS at e;omega))
 have nh:∀ a b,hasS held b=true→hasS names a=true→hasS held a=false→fS names b≠fS names a:=fun a b hb ha hn=>ne4 _ _ (hcx.2 b hb) ha (fun e=>by rw[e,hn] at hb;cases hb)
 rcases ar_cases (gkind word) with e|e|e|e
 ·exact absurd e h0
 ·rw[e] at hl
  match args,hl,hA with
  | [x],_,hA =>
   obtain ⟨n1,n2,_⟩:=hA 0 x (Nat.zero_le _) rfl
   have eg:∀ f,gat f ⟨k,word,[x],count⟩=⟨gkind word,f x,0,0⟩:=fun f=>rfl
   rw[eg,eg]
   have a1:ar (⟨gkind word,fS names x,0,0⟩:Gt).k=1:=e
   refine ⟨⟨(valid_1 a1).2 ⟨inr4 x n1,rfl,rfl⟩,fun a ha=>?_⟩,by rw[ix_at n1];rfl⟩
   rw[Bool.eq_false_iff]
   intro h
   exact nh x a ha n1 n2 ((acts_1 a1).1 h)
 ·rw[e] at hl
  match args,hl,hA with
  | [x,y],_,hA =>
   obtain ⟨n1,n2,_⟩:=hA 0 x (Nat.zero_le _) rfl
   obtain ⟨m1,m2,m3⟩:=hA 1 y (Nat.zero_le _) rfl
   have hxy:y≠x:=fun e=>by rw[hasS_refl (show y∈[x,y].take 1 by rw[e];simp)] at m3;cases m3
   have eg:∀ f,gat f ⟨k,word,[x,y],count⟩=⟨gkind word,f x,f y,0⟩:=fun f=>rfl
   rw[eg,eg]
   have a1:ar (⟨gkind word,fS names x,fS names y,0⟩:Gt).k=2:=e
   refine ⟨⟨(valid_2 a1).2 ⟨inr4 x n1,inr4 y m1,ne4 y x m1 n1 hxy,rfl⟩,fun a ha=>?_⟩,by rw[ix_at n1,ix_at m1];rfl⟩
   rw[Bool.eq_false_iff]
   intro h
   rcases (acts_2 a1).1 h with h|h
   ·exact nh x a ha n1 n2 h
   ·exact nh y a ha m1 m2 h
 ·rw[e] at hl
  match args,hl,hA with
  | [x,y,z],_,hA =>
   obtain ⟨n1,n2,_⟩:=hA 0 x (Nat.zero_le _) rfl
   obtain ⟨m1,m2,m3⟩:=hA 1 y (Nat.zero_le _) rfl
   obtain ⟨k1,k2,k3⟩:=hA 2 z (Nat.zero_le _) rfl
   have hxy:y≠x:=fun e=>by rw[hasS_refl (show y∈[x,y,z].take 1 by rw[e];simp)] at m3;cases m3
   have hxz:z≠x:=fun e=>by rw[hasS_refl (show z∈[x,y,z].take 2 by rw[e];simp)] at k3;cases k3
   have hyz:z≠y:=fun e=>by rw[hasS_refl (show z∈[x,y,z].take 2 by rw[e];simp)] at k3;cases k3
   have eg:∀ f,gat f ⟨k,word,[x,y,z],count⟩=⟨gkind word,f x,f y,f z⟩:=fun f=>rfl
   rw[eg,eg]
   have a1:ar (⟨gkind word,fS names x,fS names y,fS names z⟩:Gt).k=3:=e
   refine ⟨⟨(valid_3 a1).2 ⟨inr4 x n1,inr4 y m1,ne4 y x m1 n1 hxy,inr4 z k1,ne4 z x k1 n1 hxz,ne4 z y k1 m1 hyz⟩,fun a ha=>?_⟩,by rw[ix_at n1,ix_at m1,ix_at k1];rfl⟩
   rw[Bool.eq_false_iff]
   intro h
   rcases (acts_3 a1).1 h with h|h|h
   ·exact nh x a ha n1 n2 h
   ·exact nh y a ha m1 m2 h
   ·exact nh z a ha k1 k2 h
theorem dL_ind {α:Type} {one:α→Es→List Opt × Es} (Q:Es→Prop) (P:Opt→Prop):∀ (l:List α) (out:List Opt) (e:Es),(∀ s∈l,∀ e,Q e→Q (one s e).2∧∀ o∈(one s e).1,P o)→Q e→(∀ o∈out,P o)→Q (dL one l out e).2∧∀ o∈(dL one l out e).1,P o:=by
 intro l
 induction l with
 | nil=>intro out e _ h1 h2;exact ⟨h1,h2⟩
 | cons s l ih =>
  intro out e h h1 h2
  obtain ⟨a,b⟩:=h s (List.mem_cons_self ..) e h1
  exact ih _ _ (fun x hx=>h x (List.mem_cons_of_mem _ hx)) a (fun o ho=>(List.mem_append.1 ho).elim (h2 o) (b o))
theorem firstB_ok {L:List Bad}:(firstB L).1=0→∀ c∈L,c.1=0:=by
 induction L with
 | nil=>intro _ c hc;cases hc
 | cons x L ih =>
  intro h c hc
  unfold firstB at h
  split at h
  ·rename_i hx
   rcases List.mem_cons.1 hc with rfl|hc
   ·exact hx
   ·exact ih h c hc
  ·rename_i hx
   exact absurd h hx
def NestOk (d:Nat):Prop:=∀ (l:List (Tr d)) (names held:List ByteArray) (e:Es),validT d l=true→(chkN d l names held).1=0→Cx names held →
 ((dA d l names e).2.bits=e.bits∧(dA d l names e).2.bad=e.bad∧e.most≤(dA d l names e).2.most)∧∀ o∈(dA d l names e).1,Ctl names held o
theorem inv_ctl {names held:List ByteArray} {o:Opt} (h:Ctl names held o):Ctl names held (invO o):=by
 unfold invO
 split
 ·rename_i hk
  intro _
  obtain ⟨h1,h2,h3⟩:=h hk
  obtain ⟨k,⟨gk,a,b,c⟩,q,bit,cond⟩:=o
  have ha:ar (invk gk)=ar gk:=by
   have hk:=valid_k h1
   have hk:1≤gk∧gk≤12:=hk
   unfold invk
   repeat' split
   all_goals (first|rfl|(subst gk;decide)|(rename_i e;rw[e];decide))
  have e1:∀ q,actsG ⟨invk gk,a,b,c⟩ q=actsG ⟨gk,a,b,c⟩ q:=fun q=>by
   unfold actsG qsOf
   simp only[ha]
  refine ⟨?_,fun x hx=>(e1 _).trans (h2 x hx),?_⟩
  ·have h1:validG ⟨gk,a,b,c⟩ 4=true:=h1
   show validG ⟨invk gk,a,b,c⟩ 4=true
   unfold validG qsOf at h1 ⊢
   simp only[ha]
   exact h1
  ·have h3:ctlS gk held.length=true:=h3
   show ctlS (invk gk) held.length=true
   unfold ctlS at h3 ⊢
   split
   ·rfl
   ·rename_i n0
    rw[if_neg n0] at h3
    split
    ·rename_i n1
     rw[if_pos n1] at h3
     simp only[Bool.and_eq_true,bne_iff_ne,ne_eq] at h3
     unfold invk
     repeat' split
     all_goals (simp only[Bool.and_eq_true,bne_iff_ne,ne_eq];omega)
    ·rename_i n1
     rw[if_neg n1] at h3
     simp only[Bool.and_eq_true,Bool.or_eq_true,decide_eq_true_eq,beq_iff_eq] at h3 ⊢
     refine ⟨h3.1,?_⟩
     unfold invk
     repeat' split
     all_goals omega
 ·exact h
theorem oneN_step {h:SH} {body:List ByteArray→List ByteArray→Bad} {names held:List ByteArray} (hc:(oneN h body names held).1=0):(stepN h names held).1.1=0∧(body (stepN h names held).2.1 (stepN h names held).2.2).1=0:=by
 unfold oneN at hc
 split at hc
 ·rename_i h0
  exact ⟨h0,hc⟩
 ·rename_i h0
  exact absurd hc h0
theorem oneN_kind {d:Nat} {h:SH} {bd:List (Tr d)} {names held:List ByteArray} (hv:vOne d (validT d) h bd=true) (hc:(oneN h (chkN d bd) names held).1=0) :
  (h.k=1∧h.args.length=ar (gkind h.word)∧ar (gkind h.word)≠0∧(chkA names held h.args 0 h.args).1=0∧ctlS (gkind h.word) held.length=true) ∨
  (h.k=2∧(1≤h.count∧h.count≤9)∧(chkN d bd names held).1=0)∨(h.k=3∧(chkN d bd names held).1=0) ∨
  (h.k=4∧hasS names (arg0 h)=true∧hasS held (arg0 h)=false∧(chkN d bd names (held++[arg0 h])).1=0) ∨
  (h.k=5∧hasS names (arg0 h)=false∧names.length≠4∧(chkN d bd (names++[arg0 h]) held).1=0):=by
 obtain ⟨hk,ha,hk1,_,_,hc2,_,_⟩:=vOne_all hv
 obtain ⟨h1,h2⟩:=oneN_step hc
 have h7:h.k=1∨h.k=2∨h.k=3∨h.k=4∨h.k=5∨h.k=6∨h.k=7:=by omega
 unfold stepN at h1 h2
 rcases h7 with e|e|e|e|e|e|e
 ·rw[if_pos e] at h1
  have hn:nargs h.k h.word=ar (gkind h.word):=by unfold nargs;rw[if_pos e]
  rw[hn] at ha hk1
  have h1:(gateBad names held h.args h.word).1=0:=h1
  unfold gateBad at h1
  split at h1
  ·rename_i h3
   split at h1
   ·rename_i h4
    exact .inl ⟨e,ha,hk1.resolve_left (fun h=>h e),h3,h4⟩
   ·have h1:(9:Int)=0:=h1
    omega
  ·rename_i h3
   exact absurd h1 h3
 ·simp only[e] at h2
  exact .inr (.inl ⟨e,hc2 e,h2⟩)
 ·simp only[e] at h2
  exact .inr (.inr (.inl ⟨e,h2⟩))
 ·simp only[e] at h1 h2
  have h1:(argBad names held (arg0 h)).1=0:=h1
  unfold argBad at h1
  split at h1
  ·have h1:(2:Int)=0:=h1
   omega
  ·rename_i h3
   split at h1
   ·have h1:(4:Int)=0:=h1
    omega
   ·rename_i h4
    exact .inr (.inr (.inr (.inl ⟨e,by simpa using h3,by simpa using h4,h2⟩)))
 ·simp only[e] at h1 h2
  by_cases hn:hasS names (arg0 h)=true
  ·simp [hn] at h1
  ·by_cases h4:names.length=4
   ·simp [hn,h4] at h1
   ·simp only[hn,h4] at h2
    exact .inr (.inr (.inr (.inr ⟨e,by simpa using hn,h4,h2⟩)))
 ·simp only[e] at h1
  have h1:(6:Int)=0:=h1
  omega
 ·simp only[e] at h1
  have h1:(6:Int)=0:=h1
  omega
section
variable {d:Nat} {h:SH} {bd:List (Tr d)} {names:List ByteArray} {e:Es} {all:List (Tr d)→List ByteArray→Es→List Opt × Es}
theorem sS_1 (hk:h.k=1):sS all h bd names e=([gop 0 (gat (fS names) h)],e):=by unfold sS;rw[if_pos hk]
theorem sS_2 (hk:h.k=2):sS all h bd names e=(repO (all bd names e).1 (reps h.count),(all bd names e).2):=by unfold sS;rw[if_neg Zq6,if_pos hk]
theorem sS_3 (hk:h.k=3):sS all h bd names e=(adjO (all bd names e).1,(all bd names e).2):=by unfold sS;rw[if_neg Zq6,if_neg Zq6,if_pos hk]
theorem sS_4 (hk:h.k=4):sS all h bd names e=(osL (fS names (arg0 h)) (all bd names e).1,(all bd names e).2):=by unfold sS;rw[if_neg Zq6,if_neg Zq6,if_neg Zq6,if_pos hk]
theorem sS_5 (hk:h.k=5):sS all h bd names e=([opClean names.length]++(all bd (names++[arg0 h]) ⟨e.bits,max e.most (names.length+1),e.bad⟩).1++[opClean names.length],(all bd (names++[arg0 h]) ⟨e.bits,max e.most (names.length+1),e.bad⟩).2):=by
 unfold sS;rw[if_neg Zq6,if_neg Zq6,if_neg Zq6,if_neg Zq6,if_pos hk]
theorem sS_6 (hk:h.k=6):sS all h bd names e=([opMeas (fS names (arg0 h)) e.bits.length],⟨e.bits++[arg1 h],e.most,e.bad⟩):=by
 unfold sS;rw[if_neg Zq6,if_neg Zq6,if_neg Zq6,if_neg Zq6,if_neg Zq6,if_pos hk]
theorem sS_7 (hk:h.k=7):sS all h bd names e=(setIf (fS (all bd names e).2.bits (arg0 h)+1) (all bd names e).1,(all bd names e).2):=by
 unfold sS;rw[if_neg Zq6,if_neg Zq6,if_neg Zq6,if_neg Zq6,if_neg Zq6,if_neg Zq6]
theorem iS_1 (hk:h.k=1):iS all h bd names e=([gop 0 (gat (ixI names) h)],e):=by unfold iS;rw[if_pos hk]
theorem iS_2 (hk:h.k=2):iS all h bd names e=(repO (all bd names e).1 (reps h.count),(all bd names e).2):=by unfold iS;rw[if_neg Zq6,if_pos hk]
theorem iS_3 (hk:h.k=3):iS all h bd names e=(adjO (all bd names e).1,(all bd names e).2):=by unfold iS;rw[if_neg Zq6,if_neg Zq6,if_pos hk]
theorem iS_4 (hk:h.k=4):iS all h bd names e=(osL (ixI names (arg0 h)) (all bd names e).1,⟨(all bd names e).2.bits,(all bd names e).2.most,(all bd names e).2.bad || !osB (ixI names (arg0 h)) (all bd names e).1⟩):=by
 unfold iS;rw[if_neg Zq6,if_neg Zq6,if_neg Zq6,if_pos hk]
theorem iS_5 (hk:h.k=5):iS all h bd names e=([opClean names.length]++(all bd (names++[arg0 h]) e).1++[opClean names.length],(all bd (names++[arg0 h]) e).2):=by
 unfold iS;rw[if_neg Zq6,if_neg Zq6,if_neg Zq6,if_neg Zq6,if_pos hk]
theorem iS_6 (hk:h.k=6):iS all h bd names e=([opMeas (ixI names (arg0 h)) e.bits.length],⟨e.bits++[arg1 h],e.most,e.bad⟩):=by
 unfold iS;rw[if_neg Zq6,if_neg Zq6,if_neg Zq6,if_neg Zq6,if_neg Zq6,if_pos hk]
theorem iS_7 (hk:h.k=7):iS all h bd names e=(setIf (1+ixI (all bd names e).2.bits (arg0 h)) (all bd names e).1,(all bd names e).2):=by
 unfold iS;rw[if_neg Zq6,if_neg Zq6,if_neg Zq6,if_neg Zq6,if_neg Zq6,if_neg Zq6]
end
theorem cx_more {names held:List ByteArray} {a:ByteArray} (h:Cx names held) (ha:hasS names a=true):Cx names (held++[a]):=by
 refine ⟨h.1,fun b hb=>?_⟩
 unfold hasS at hb
 rw[List.any_append,Bool.or_eq_true] at hb
 rcases hb with hb|hb
 ·exact h.2 b hb
 ·simp only[List.any_cons,List.any_nil,Bool.or_false] at hb
  rw[←eqSt_eq hb]
  exact ha
theorem cx_name {names held:List ByteArray} {a:ByteArray} (h:Cx names held) (ha:names.length≠4):Cx (names++[a]) held :=
 ⟨by have:=h.1;simp;omega,fun b hb=>has_app (h.2 b hb)⟩
theorem ctl_os {names held:List ByteArray} {a:ByteArray} {D:List Opt} (hcx:Cx names held) (ha:hasS names a=true) (hn:hasS held a=false) (h:∀ o∈D,Ctl names (held++[a]) o) :
  osB (fS names a) D=true∧D.length≤(osL (fS names a) D).length∧∀ o∈osL (fS names a) D,Ctl names held o:=by
 have hq:0≤fS names a∧fS names a≤3:=by have:=atS_lt ha;have:=hcx.1;unfold fS;omega
 have hself:hasS (held++[a]) a=true:=hasS_refl Zq11
 have hlen:(held++[a]).length=held.length+1:=by simp
 have key:∀ o∈D,o.k=1→∃ L,cgate (fS names a) o.g=some L∧1≤L.length∧∀ g'∈L,validG g' 4=true∧(∀ p,actsG g' p=true→p=fS names a∨actsG o.g p=true)∧ctlS g'.k held.length=true:=by
  intro o ho hk
  obtain ⟨h1,h2,h3⟩:=h o ho hk
  rw[hlen] at h3
  exact cgate_ctl h1 hq (h2 a hself) h3
 obtain ⟨R,r1,r2,r3⟩:=os_ok (q:=fS names a) (D:=D) (fun o ho hk=>by obtain ⟨L,l1,l2,_⟩:=key o ho hk;exact ⟨L,l1,l2⟩)
 have hB:osB (fS names a) D=true:=by unfold osB;rw[r1];rfl
 have hL:osL (fS names a) D=R:=by unfold osL;rw[r1];rfl
 rw[hL]
 refine ⟨hB,r2,fun o' ho' hk'=>?_⟩
 rcases r3 o' ho' with ⟨a1,a2⟩|⟨o,a1,a2,L,a3,g',a4,rfl⟩
 ·exact absurd hk' a2
 ·obtain ⟨L',l1,l2,l3⟩:=key o a1 a2
  rw[a3] at l1
  injection l1 with l1
  subst l1
  obtain ⟨b1,b2,b3⟩:=l3 g' a4
  refine ⟨b1,fun x hx=>?_,b3⟩
  rw[Bool.eq_false_iff]
  intro hact
  rcases b2 _ hact with e|e
  ·have:=atS_inj (hcx.2 x hx) ha (by unfold fS at e;omega)
   rw[this,hn] at hx
   cases hx
  ·rw[(h o a1 a2).2.1 x (has_app hx)] at e
   cases e
theorem ctl_name {names held:List ByteArray} {a:ByteArray} {o:Opt} (hcx:Cx names held) (h:Ctl (names++[a]) held o):Ctl names held o:=fun hk=>by
 obtain ⟨h1,h2,h3⟩:=h hk
 refine ⟨h1,fun x hx=>?_,h3⟩
 have:=h2 x hx
 unfold fS at this ⊢
 rwa [atS_app (hcx.2 x hx)] at this
theorem rep_mem {l:List Opt} {t:Nat} {o:Opt} (h:o∈repO l t):o∈l:=by
 unfold repO at h
 obtain ⟨l',h1,h2⟩:=List.mem_flatten.1 h
 rw[List.eq_of_mem_replicate h1] at h2
 exact h2
theorem rep_ge {l:List Opt} {t:Nat} (ht:1≤t):l.length≤(repO l t).length:=by
 unfold repO
 rw[List.length_flatten,List.map_replicate,List.sum_replicate_nat]
 exact Nat.le_mul_of_pos_left _ ht
theorem adj_len (l:List Opt):(adjO l).length=l.length:=by simp [adjO]
def OneOk (names held:List ByteArray) (e:Es) (r:List Opt × Es):Prop:=(r.2.bits=e.bits∧r.2.bad=e.bad∧e.most≤r.2.most)∧∀ o∈r.1,Ctl names held o
theorem one_ok {d:Nat} (hn:NestOk d) {h:SH} {bd:List (Tr d)} {names held:List ByteArray} (e:Es) (hv:vOne d (validT d) h bd=true) (hc:(oneN h (chkN d bd) names held).1=0) (hx:Cx names held) :
  OneOk names held e (sS (dA d) h bd names e):=by
 have hvb:=(vOne_all hv).2.2.2.2.2.2.2
 rcases oneN_kind hv hc with ⟨hk,hl,h0,h3,h4⟩|⟨hk,hct,hb⟩|⟨hk,hb⟩|⟨hk,ha,hnh,hb⟩|⟨hk,ha,h4,hb⟩
 ·rw[sS_1 hk]
  refine ⟨⟨rfl,rfl,Nat.le_refl _⟩,fun o ho=>?_⟩
  simp only[List.mem_singleton] at ho
  subst ho
  intro _
  have:=(gat_ok hx hl h0 h3).1
  exact ⟨this.1,this.2,h4⟩
 ·rw[sS_2 hk]
  obtain ⟨b1,b2⟩:=hn bd names held e hvb hb hx
  exact ⟨b1,fun o ho=>b2 o (rep_mem ho)⟩
 ·rw[sS_3 hk]
  obtain ⟨b1,b2⟩:=hn bd names held e hvb hb hx
  refine ⟨b1,fun o ho=>?_⟩
  have ho:o∈((dA d bd names e).1.map invO).reverse:=ho
  rw[List.mem_reverse] at ho
  obtain ⟨x,hx',rfl⟩:=List.mem_map.1 ho
  exact inv_ctl (b2 x hx')
 ·rw[sS_4 hk]
  obtain ⟨b1,b2⟩:=hn bd names (held++[arg0 h]) e hvb hb (cx_more hx ha)
  exact ⟨b1,(ctl_os hx ha hnh b2).2.2⟩
 ·rw[sS_5 hk]
  obtain ⟨⟨b1,b2,b3⟩,b4⟩:=hn bd (names++[arg0 h]) held ⟨e.bits,max e.most (names.length+1),e.bad⟩ hvb hb (cx_name hx h4)
  refine ⟨⟨b1,b2,Nat.le_trans (Nat.le_max_left _ _) b3⟩,fun o ho=>?_⟩
  have hcl:Ctl names held (opClean names.length):=fun hk=>by cases hk
  rcases List.mem_append.1 ho with ho|ho
  ·rcases List.mem_append.1 ho with ho|ho
   ·simp only[List.mem_singleton] at ho
    subst ho
    exact hcl
   ·exact ctl_name hx (b4 o ho)
  ·simp only[List.mem_singleton] at ho
   subst ho
   exact hcl
theorem validT_all {d:Nat} {l:List (Tr (d+1))} (h:validT (d+1) l=true):∀ s∈l,vOne d (validT d) (hdT s) (bdT s)=true:=List.all_eq_true.1 h
theorem nest_ok:∀ d,NestOk d:=by
 intro d
 induction d with
 | zero=>intro l names held e _ _ _;exact ⟨⟨rfl,rfl,Nat.le_refl _⟩,fun o ho=>by cases ho⟩
 | succ d ih =>
  intro l names held e hv hc hx
  have hz:=firstB_ok (show(firstB (l.map fun s=>oneN (hdT s) (chkN d (bdT s)) names held)).1=0 from hc)
  refine dL_ind (fun e'=>e'.bits=e.bits∧e'.bad=e.bad∧e.most≤e'.most) (Ctl names held) l [] e (fun s hs e' hq=>?_) ⟨rfl,rfl,Nat.le_refl _⟩ (fun o ho=>by cases ho)
  obtain ⟨⟨a1,a2,a3⟩,a4⟩:=one_ok ih e' (validT_all hv s hs) (hz _ (List.mem_map.2 ⟨s,hs,rfl⟩)) hx
  exact ⟨⟨a1.trans hq.1,a2.trans hq.2.1,Nat.le_trans hq.2.2 a3⟩,a4⟩
section
variable {r D:List Opt × Es}
theorem RelS.refl (h:D.2.bad=false):RelS D D:=⟨fun _=>rfl,fun h1=>by rw[h] at h1;cases h1⟩
theorem RelS.map (h:RelS r D) {f:List Opt→List Opt} (hf:D.1.length≤(f D.1).length):RelS (f r.1,r.2) (f D.1,D.2) :=
 ⟨fun hb=>by rw[h.1 hb],fun hb=>by have:=h.2 hb;show 120<(f D.1).length;omega⟩
theorem RelS.mapE (h:RelS r D) {f g:List Opt→Es→List Opt} (hf:D.1.length≤(f D.1 D.2).length) (hg:g D.1 D.2=f D.1 D.2):RelS (g r.1 r.2,r.2) (f D.1 D.2,D.2) :=
 ⟨fun hb=>by rw[h.1 hb,hg],fun hb=>by have:=h.2 hb;show 120<(f D.1 D.2).length;omega⟩
theorem RelS.ctl (h:RelS r D) {f:List Opt→List Opt} {g:List Opt→Bool} (hf:D.1.length≤(f D.1).length) (hg:g D.1=true):RelS (f r.1,⟨r.2.bits,r.2.most,r.2.bad || !g r.1⟩) (f D.1,D.2):=by
 refine ⟨fun hb=>?_,fun hb=>?_⟩
 ·have hb:(r.2.bad || !g r.1)=false:=hb
  have h1:r.2.bad=false:=by cases h2:r.2.bad <;> simp_all
  rw[h.1 h1,hg]
  simp
 ·have hb:(r.2.bad || !g r.1)=true:=hb
  cases h2:r.2.bad
  ·rw[h.1 h2,hg] at hb
   rw[h.1 h2] at h2
   rw[h2] at hb
   cases hb
  ·have:=h.2 h2
   show 120<(f D.1).length
   omega
end
def RelN (d:Nat):Prop:=∀ (l:List (Tr d)) (names held:List ByteArray),validT d l=true→(chkN d l names held).1=0→Cx names held→∀ e:Es,e.bad=false →
 RelS (sA d l names e) (dA d l names e)∧RelS (iA d l names e) (dA d l names ⟨e.bits,max e.most names.length,e.bad⟩)
theorem reps_pos {k:Int} (h1:1≤k):1≤reps k:=by unfold reps;omega
theorem es_same {names:List ByteArray} {e:Es} (hm:names.length≤e.most):(⟨e.bits,max e.most names.length,e.bad⟩:Es)=e:=by rw[Nat.max_eq_left hm]
theorem one_relS {d:Nat} (hr:RelN d) {h:SH} {bd:List (Tr d)} {names held:List ByteArray} (e:Es) (he:e.bad=false) (hv:vOne d (validT d) h bd=true) (hc:(oneN h (chkN d bd) names held).1=0) (hx:Cx names held) :
  RelS (sS (sA d) h bd names e) (sS (dA d) h bd names e):=by
 have hvb:=(vOne_all hv).2.2.2.2.2.2.2
 rcases oneN_kind hv hc with ⟨hk,hl,h0,h3,h4⟩|⟨hk,hct,hb⟩|⟨hk,hb⟩|⟨hk,ha,hnh,hb⟩|⟨hk,ha,h4,hb⟩
 ·rw[sS_1 hk,sS_1 hk]
  exact RelS.refl he
 ·rw[sS_2 hk,sS_2 hk]
  obtain ⟨r1,_⟩:=hr bd names held hvb hb hx e he
  exact r1.map (f:=fun x=>repO x (reps h.count)) (rep_ge (reps_pos hct.1))
 ·rw[sS_3 hk,sS_3 hk]
  obtain ⟨r1,_⟩:=hr bd names held hvb hb hx e he
  exact r1.map (f:=adjO) (Nat.le_of_eq (adj_len _).symm)
 ·rw[sS_4 hk,sS_4 hk]
  obtain ⟨r1,_⟩:=hr bd names (held++[arg0 h]) hvb hb (cx_more hx ha) e he
  obtain ⟨c1,c2,_⟩:=ctl_os hx ha hnh (nest_ok d bd names (held++[arg0 h]) e hvb hb (cx_more hx ha)).2
  exact r1.map (f:=osL (fS names (arg0 h))) c2
 ·rw[sS_5 hk,sS_5 hk]
  obtain ⟨r1,_⟩:=hr bd (names++[arg0 h]) held hvb hb (cx_name hx h4) ⟨e.bits,max e.most (names.length+1),e.bad⟩ he
  exact r1.map (f:=fun x=>[opClean names.length]++x++[opClean names.length]) Zq9
theorem one_rel {d:Nat} (hr:RelN d) {h:SH} {bd:List (Tr d)} {names held:List ByteArray} (e:Es) (he:e.bad=false) (hm:names.length≤e.most) (hv:vOne d (validT d) h bd=true) (hc:(oneN h (chkN d bd) names held).1=0) (hx:Cx names held) :
  RelS (sS (sA d) h bd names e) (sS (dA d) h bd names e)∧RelS (iS (iA d) h bd names e) (sS (dA d) h bd names e):=by
 have hvb:=(vOne_all hv).2.2.2.2.2.2.2
 rcases oneN_kind hv hc with ⟨hk,hl,h0,h3,h4⟩|⟨hk,hct,hb⟩|⟨hk,hb⟩|⟨hk,ha,hnh,hb⟩|⟨hk,ha,h4,hb⟩
 ·rw[sS_1 hk,sS_1 hk,iS_1 hk,(gat_ok hx hl h0 h3).2]
  exact ⟨RelS.refl he,RelS.refl he⟩
 ·rw[sS_2 hk,sS_2 hk,iS_2 hk]
  obtain ⟨r1,r2⟩:=hr bd names held hvb hb hx e he
  rw[es_same hm] at r2
  exact ⟨r1.map (f:=fun x=>repO x (reps h.count)) (rep_ge (reps_pos hct.1)),r2.map (f:=fun x=>repO x (reps h.count)) (rep_ge (reps_pos hct.1))⟩
 ·rw[sS_3 hk,sS_3 hk,iS_3 hk]
  obtain ⟨r1,r2⟩:=hr bd names held hvb hb hx e he
  rw[es_same hm] at r2
  exact ⟨r1.map (f:=adjO) (Nat.le_of_eq (adj_len _).symm),r2.map (f:=adjO) (Nat.le_of_eq (adj_len _).symm)⟩
 ·rw[sS_4 hk,sS_4 hk,iS_4 hk]
  obtain ⟨r1,r2⟩:=hr bd names (held++[arg0 h]) hvb hb (cx_more hx ha) e he
  rw[es_same hm] at r2
  obtain ⟨c1,c2,_⟩:=ctl_os hx ha hnh (nest_ok d bd names (held++[arg0 h]) e hvb hb (cx_more hx ha)).2
  have e1:ixI names (arg0 h)=fS names (arg0 h):=ix_at ha
  rw[e1]
  exact ⟨r1.map (f:=osL (fS names (arg0 h))) c2,r2.ctl (f:=osL (fS names (arg0 h))) (g:=osB (fS names (arg0 h))) c2 c1⟩
 ·rw[sS_5 hk,sS_5 hk,iS_5 hk]
  obtain ⟨r1,_⟩:=hr bd (names++[arg0 h]) held hvb hb (cx_name hx h4) ⟨e.bits,max e.most (names.length+1),e.bad⟩ he
  obtain ⟨_,r2⟩:=hr bd (names++[arg0 h]) held hvb hb (cx_name hx h4) e he
  have e1:(names++[arg0 h]).length=names.length+1:=by simp
  rw[e1] at r2
  exact ⟨r1.map (f:=fun x=>[opClean names.length]++x++[opClean names.length]) Zq9,r2.map (f:=fun x=>[opClean names.length]++x++[opClean names.length]) Zq9⟩
theorem sL_bad {α:Type} {one:α→Es→List Opt × Es} (hm:∀ s e,e.bad=true→(one s e).2.bad=true):∀ (l:List α) (out:List Opt) (e:Es),e.bad=true→(sL one l out e).2.bad=true:=by
 intro l
 induction l with
 | nil=>intro out e h;exact h
 | cons s l ih =>
  intro out e h
  unfold sL
  split
  ·rfl
  ·exact ih _ _ (hm s e h)
theorem sS_bad {d:Nat} {all:List (Tr d)→List ByteArray→Es→List Opt × Es} (ha:∀ l names e,e.bad=true→(all l names e).2.bad=true) (h:SH) (bd:List (Tr d)) (names:List ByteArray) (e:Es) (he:e.bad=true):(sS all h bd names e).2.bad=true:=by
 unfold sS
 repeat' split
 ·exact he
 ·exact ha _ _ _ he
 ·exact ha _ _ _ he
 ·exact ha _ _ _ he
 ·exact ha _ _ _ he
 ·exact he
 ·exact ha _ _ _ he
theorem sA_bad:∀ (d:Nat) (l:List (Tr d)) (names:List ByteArray) (e:Es),e.bad=true→(sA d l names e).2.bad=true:=by
 intro d
 induction d with
 | zero=>intro l names e h;exact h
 | succ d ih=>intro l names e h;exact sL_bad (fun s e he=>sS_bad ih _ _ _ _ he) l [] e h
theorem rel_nest:∀ d,RelN d:=by
 intro d
 induction d with
 | zero =>
  intro l names held _ _ _ e he
  exact ⟨RelS.refl he,RelS.refl he⟩
 | succ d ih =>
  intro l names held hv hc hx e he
  have hz:=firstB_ok (show(firstB (l.map fun s=>oneN (hdT s) (chkN d (bdT s)) names held)).1=0 from hc)
  have hv':=validT_all hv
  refine ⟨?_,?_⟩
  ·refine relS_list (fun (l':List (Tr (d+1))) (_:Es)=>∀ s∈l',vOne d (validT d) (hdT s) (bdT s)=true∧(oneN (hdT s) (chkN d (bdT s)) names held).1=0) (fun s l' e' hq hb'=>?_) (fun s e' he'=>sS_bad (sA_bad d) _ _ _ _ he') l [] e [] e (fun s hs=>⟨hv' s hs,hz _ (List.mem_map.2 ⟨s,hs,rfl⟩)⟩) he (.inl ⟨he,rfl,rfl⟩)
   obtain ⟨q1,q2⟩:=hq s (List.mem_cons_self ..)
   have hone:=one_ok (nest_ok d) e' q1 q2 hx
   refine ⟨?_,hone.1.2.1.trans hb',fun x hx'=>hq x (List.mem_cons_of_mem _ hx')⟩
   exact one_relS ih e' hb' q1 q2 hx
  ·refine relI_list (fun (l':List (Tr (d+1))) (e':Es)=>names.length≤e'.most∧∀ s∈l',vOne d (validT d) (hdT s) (bdT s)=true∧(oneN (hdT s) (chkN d (bdT s)) names held).1=0) (fun s l' e' hq hb'=>?_) l [] ⟨e.bits,max e.most names.length,e.bad⟩ [] ⟨e.bits,max e.most names.length,e.bad⟩ ⟨Nat.le_max_right _ _,fun s hs=>⟨hv' s hs,hz _ (List.mem_map.2 ⟨s,hs,rfl⟩)⟩⟩ he (.inl ⟨he,rfl,rfl⟩)
   obtain ⟨q1,q2⟩:=hq.2 s (List.mem_cons_self ..)
   have hone:=one_ok (nest_ok d) e' q1 q2 hx
   exact ⟨(one_rel ih e' hb' hq.1 q1 q2 hx).2,hone.1.2.1.trans hb',Nat.le_trans hq.1 hone.1.2.2,fun x hx'=>hq.2 x (List.mem_cons_of_mem _ hx')⟩
theorem setE {W:World} {R j:Nat} (u:Value):W.grownBy (W.setCell ⟨R,j,none⟩ u) (some R):=only_setCell (World.grownBy.refl W (some R)) rfl u
theorem grE {w w' w'':World} {R:Nat} (h:w.grownBy w' (some R)) (k:w'.grownBy w'' (some R)):w.grownBy w'' (some R):=h.andThen k (fun j hj=>.inr hj)
theorem grBelow {w W W':World} {R:Nat} (h:w.grownBy W (some R)) (hb:Below W.heap.size W W'):w.grownBy W' (some R):=h.andThen (only_of_below hb none) Zq11
theorem grOwn {w W W':World} {R:Nat} {row:Option Nat} (h:w.grownBy W (some R)) (hg:W.grownBy W' row) (hr:∀ k,row=some k→w.heap.size≤k):w.grownBy W' (some R):=h.andThen hg (fun j hj=>.inl (hr j hj))
def EnvS (W:World) (E:Nat) (P:Nat→Prop) (names:List ByteArray) (e:Es):Prop :=
 ∃ An nn cn Bn nb cb,W.heap[E]?=some (.cells #[.slice An nn cn,.slice Bn nb cb,.int .i64 (e.most:Int),.bool e.bad] 83 (0,0))∧names.length=nn∧RdQ W P 1 An nn (strs names)∧e.bits.length=nb∧RdQ W P 1 Bn nb (strs e.bits)
def Aft (w:World) (P:Nat→Prop) (v:Value) (b:Nat):Prop:=(P b∧b<w.heap.size)∨(w.heap.size≤b∧some b≠v.ownBlock)
section
variable {w W W':World} {E:Nat} {P Q:Nat→Prop} {names:List ByteArray} {e:Es}
theorem EnvS.lt (h:EnvS W E P names e):E<W.heap.size:=by
 obtain ⟨An,nn,cn,Bn,nb,cb,h1,_⟩:=h
 exact lt_of_block h1
theorem rdQ_keep2 {size n:Nat} {A:Option Addr} {xs:List Value} (h:RdQ W P size A n xs) (hk:∀ b,P b→b<W.heap.size→W'.heap[b]?=W.heap[b]?) (hs:W.heap.size≤W'.heap.size) (hp:∀ b,b<W.heap.size→P b→Q b):RdQ W' Q size A n xs :=
 ((h.mono (P':=fun b=>P b∧b<W.heap.size) (fun b hl hb=>⟨hb,hl⟩)).keep (fun b hb hlt=>hk b hb.1 hlt) hs).mono (fun b _ hb=>hp b hb.2 hb.1)
theorem trQ_keep2 {d n:Nat} {A:Option Addr} {l:List (Tr d)} (h:TrQ W P d A n l) (hk:∀ b,P b→b<W.heap.size→W'.heap[b]?=W.heap[b]?) (hs:W.heap.size≤W'.heap.size) (hp:∀ b,b<W.heap.size→P b→Q b):TrQ W' Q d A n l :=
 TrQ.mono (fun b _ hb=>hp b hb.2 hb.1) (TrQ.keep (P:=fun b=>P b∧b<W.heap.size) (fun b hb hlt=>hk b hb.1 hlt) hs (TrQ.mono (fun b hl hb=>⟨hb,hl⟩) h))
theorem EnvS.keep (h:EnvS W E P names e) (hk:∀ b,(b=E∨P b)→b<W.heap.size→W'.heap[b]?=W.heap[b]?) (hs:W.heap.size≤W'.heap.size) (hp:∀ b,b<W.heap.size→P b→Q b):EnvS W' E Q names e:=by
 obtain ⟨An,nn,cn,Bn,nb,cb,h1,h2,h3,h4,h5⟩:=h
 exact ⟨An,nn,cn,Bn,nb,cb,(hk E (.inl rfl) (lt_of_block h1)).trans h1,h2,rdQ_keep2 h3 (fun b hb hlt=>hk b (.inr hb) hlt) hs hp,h4,rdQ_keep2 h5 (fun b hb hlt=>hk b (.inr hb) hlt) hs hp⟩
theorem EnvS.below (h:EnvS W E P names e) (hb:Below W.heap.size W W') (hp:∀ b,b<W.heap.size→P b→Q b):EnvS W' E Q names e:=h.keep (fun b _ hlt=>hb.block b hlt) hb.size hp
theorem EnvS.push {v v6:Value} (h:EnvS W E (Aft w P v) names e) (hE:E<w.heap.size) (hg:W.grownBy W' v.ownBlock) (hat:v6.ownBlock=v.ownBlock∨v6.ownBlock=some W.heap.size) (hv:∀ k,v.ownBlock=some k→w.heap.size≤k):EnvS W' E (Aft w P v6) names e:=by
 refine h.keep (fun b hb hlt=>hg.block b hlt (fun e=>?_)) hg.size (fun b hlt hb=>?_)
 ·have:=hv b e.symm
  rcases hb with rfl|⟨_,hb⟩|⟨_,hb⟩
  ·omega
  ·omega
  ·exact hb e
 ·rcases hb with hb|⟨h1,h2⟩
  ·exact .inl hb
  ·refine .inr ⟨h1,fun e=>?_⟩
   rcases hat with ha|ha
   ·exact h2 (e.trans ha)
   ·rw[ha] at e
    injection e with e
    omega
theorem EnvS.fresh {v:Value} (h:EnvS W E (Aft w P v) names e) {v6:Value} (hv:∀ k,v6.ownBlock=some k→W.heap.size≤k) (hb:Below W.heap.size W W'):EnvS W' E (Aft w P v6) names e:=by
 refine h.below hb (fun b hlt hb=>?_)
 rcases hb with hb|⟨h1,h2⟩
 ·exact .inl hb
 ·exact .inr ⟨h1,fun e=>by have:=hv b e.symm;omega⟩
theorem aft_not {v:Value} (hP:¬ P E) (hE:E<w.heap.size):¬ Aft w P v E:=by
 rintro (⟨h,_⟩|⟨h,_⟩)
 ·exact hP h
 ·omega
theorem aft_aft {v r:Value} (hs:w.heap.size≤W.heap.size) (hv:∀ k,v.ownBlock=some k→k<W.heap.size):∀ b,Aft W (Aft w P v) r b→Aft w P v b:=by
 rintro b (⟨h,_⟩|⟨h1,h2⟩)
 ·exact h
 ·exact .inr ⟨by omega,fun e=>by have:=hv b e.symm;omega⟩
theorem EnvS.mono (h:EnvS W E P names e) (hp:∀ b,b<W.heap.size→P b→Q b):EnvS W E Q names e:=h.keep (fun _ _ _=>rfl) (Nat.le_refl _) hp
theorem EnvS.long (h:EnvS W E P names e) (hP:¬ P E):EnvS (W.setCell ⟨E,3,none⟩ (.bool true)) E P names ⟨e.bits,e.most,true⟩:=by
 obtain ⟨An,nn,cn,Bn,nb,cb,h1,h2,h3,h4,h5⟩:=h
 exact ⟨An,nn,cn,Bn,nb,cb,heap_set_selfG h1 _,h2,h3.set_ hP _,h4,h5.set_ hP _⟩
end
def RetEl (w:World) (E:Nat) (P:Nat→Prop) (names:List ByteArray) (r:List Opt × Es) (x:Ending) (w':World):Prop :=
 ∃ v,x=.returned v∧w'.ownsRow w.heap.size 104 8 v r.1.length (r.1.flatMap ocells)∧EnvS w' E (Aft w P v) names r.2∧w.grownBy w' (some E)
def OneS (d:Nat):Prop:=∀ (P:Nat→Prop) (h:SH) (bd:List (Tr d)) (Aa:Option Addr) (ca:Nat) (Ab:Option Addr) (nb cb E:Nat) (names:List ByteArray) (e:Es) (w:World),RdQ w P 1 Aa h.args.length (strs h.args)→TrQ w P d Ab nb bd→vOne d (validT d) h bd=true→¬ P E→EnvS w E P names e →
 names.length+(if hasB h.k then 1+nestT d bd else 0)≤1000→e.bits.length+szT d bd+1≤1048577 →
 Calls Tryz.prog 115 #[.agg #[.int .i64 h.k,.string h.word,.slice Aa h.args.length ca,.int .i64 h.count,.slice Ab nb cb],.pointer (some ⟨E,0,none⟩)] w (RetEl w E P names (sS (sA d) h bd names e))
def AllS (d:Nat):Prop:=∀ (P:Nat→Prop) (l:List (Tr d)) (A:Option Addr) (n c E:Nat) (names:List ByteArray) (e:Es) (w:World),TrQ w P d A n l→validT d l=true→¬ P E→EnvS w E P names e →
 names.length+nestT d l≤1000→e.bits.length+szT d l≤1048577 →
 Calls Tryz.prog 61 #[.slice A n c,.pointer (some ⟨E,0,none⟩)] w (RetEl w E P names (sA d l names e))
theorem sL_len {α:Type} {one:α→Es→List Opt × Es}:∀ (l:List α) (out:List Opt) (e:Es),out.length≤2000→(sL one l out e).1.length≤2000:=by
 intro l
 induction l with
 | nil=>intro out e h;exact h
 | cons s l ih =>
  intro out e h
  unfold sL
  split
  ·exact Nat.zero_le _
  ·exact ih _ _ Zq6
theorem sA_len (d:Nat) (l:List (Tr d)) (names:List ByteArray) (e:Es):(sA d l names e).1.length≤2000:=by
 cases d with
 | zero=>exact Nat.zero_le _
 | succ d=>exact sL_len _ _ _ (Nat.zero_le _)
theorem reps_le (k:Int):reps k≤9:=by unfold reps;omega
theorem sS_len {d:Nat} (h:SH) (bd:List (Tr d)) (names:List ByteArray) (e:Es):(sS (sA d) h bd names e).1.length≤20000:=by
 have h1:=fun n e=>sA_len d bd n e
 unfold sS
 repeat' split
 ·show 1≤_;omega
 ·show(repO _ _).length≤_
  rw[rep_len]
  have:=Nat.mul_le_mul (reps_le h.count) (h1 names e)
  omega
 ·show((_:List Opt).map _).reverse.length≤_
  rw[List.length_reverse,List.length_map]
  have:=h1 names e
  omega
 ·have:=osL_le (fS names (arg0 h)) (sA d bd names e).1
  have:=h1 names e
  show(osL _ _).length≤_
  omega
 ·have:=h1 (names++[arg0 h]) ⟨e.bits,max e.most (names.length+1),e.bad⟩
  simp only[List.length_append,List.length_singleton]
  omega
 ·show 1≤_;omega
 ·have:=h1 names e
  show((_:List Opt).map _).length≤_
  rw[List.length_map]
  omega
theorem sL_bits {α:Type} {one:α→Es→List Opt × Es} (g:α→Nat) (h1:∀ s e,(one s e).2.bits.length≤e.bits.length+g s):∀ (l:List α) (out:List Opt) (e:Es),(sL one l out e).2.bits.length≤e.bits.length+(l.map g).sum:=by
 intro l
 induction l with
 | nil=>intro out e;exact Nat.le_add_right _ _
 | cons s l ih =>
  intro out e
  have a:=h1 s e
  have b:=ih (out++(one s e).1) (one s e).2
  rw[List.map_cons,List.sum_cons]
  unfold sL
  split
  ·show(one s e).2.bits.length≤_
   omega
  ·omega
theorem sS_bits {d:Nat} {h:SH} {bd:List (Tr d)} {names:List ByteArray} {e:Es} (ih:∀ names (e:Es),(sA d bd names e).2.bits.length≤e.bits.length+szT d bd):(sS (sA d) h bd names e).2.bits.length≤e.bits.length+szT d bd+1:=by
 unfold sS
 repeat' split
 ·show e.bits.length≤_;omega
 ·have:=ih names e;show(sA d bd names e).2.bits.length≤_;omega
 ·have:=ih names e;show(sA d bd names e).2.bits.length≤_;omega
 ·have:=ih names e;show(sA d bd names e).2.bits.length≤_;omega
 ·have:=ih (names++[arg0 h]) ⟨e.bits,max e.most (names.length+1),e.bad⟩;show(sA d bd (names++[arg0 h]) ⟨e.bits,max e.most (names.length+1),e.bad⟩).2.bits.length≤_;exact Nat.le_trans this (Nat.le_succ _)
 ·show(e.bits++[arg1 h]).length≤_;rw[List.length_append];show e.bits.length+1≤_;omega
 ·have:=ih names e;show(sA d bd names e).2.bits.length≤_;omega
theorem sA_bits:∀ (d:Nat) (l:List (Tr d)) (names:List ByteArray) (e:Es),(sA d l names e).2.bits.length≤e.bits.length+szT d l:=by
 intro d
 induction d with
 | zero=>intro l names e;exact Nat.le_add_right _ _
 | succ d ih =>
  intro l names e
  have h:=sL_bits (one:=fun s e=>sS (sA d) (hdT s) (bdT s) names e) (fun s=>szT d (bdT s)+1) (fun s e=>sS_bits (fun n e=>ih _ n e)) l [] e
  refine Nat.le_trans h (Nat.add_le_add_left ?_ _)
  rw[szT_succ]
  clear h
  induction l with
  | nil=>exact Nat.zero_le _
  | cons s l ihl =>
   have e1:sumE (s :: l)=szE s+sumE l:=by simp [sumE]
   have e2:szE s=(hdT s).word.size+((hdT s).args.length+szS (hdT s).args+szT d (bdT s)):=rfl
   rw[List.map_cons,List.sum_cons,List.length_cons,e1]
   omega
theorem nest_mem {d:Nat} {s:Tr (d+1)}:∀ {l:List (Tr (d+1))},s∈l→(if hasB (hdT s).k then 1+nestT d (bdT s) else 0)≤nestT (d+1) l:=by
 intro l
 induction l with
 | nil=>intro h;cases h
 | cons x l ih =>
  intro h
  rw[nest_cons]
  rcases List.mem_cons.1 h with rfl|h
  ·exact Nat.le_max_left _ _
  ·exact Nat.le_trans (ih h) (Nat.le_max_right _ _)
theorem sz_drop {d:Nat} {s:Tr (d+1)} {l:List (Tr (d+1))} {t:Nat} (h:l[t]?=some s):szT d (bdT s)+1+szT (d+1) (l.drop (t+1))≤szT (d+1) (l.drop t):=by
 have e:l.drop t=s :: l.drop (t+1):=by
  obtain ⟨hl,rfl⟩:=List.getElem?_eq_some_iff.1 h
  exact List.drop_eq_getElem_cons hl
 have e1:sumE (s :: l.drop (t+1))=szE s+sumE (l.drop (t+1)):=by simp [sumE]
 have e2:szE s=(hdT s).word.size+((hdT s).args.length+szS (hdT s).args+szT d (bdT s)):=rfl
 rw[e,szT_succ,szT_succ,e1,List.length_cons]
 omega
theorem drop_cons {α:Type} {s:α} {l:List α} {t:Nat} (h:l[t]?=some s):l.drop t=s :: l.drop (t+1):=by
 obtain ⟨hl,rfl⟩:=List.getElem?_eq_some_iff.1 h
 exact List.drop_eq_getElem_cons hl
theorem all_zeroS:AllS 0:=by
 intro P l A n c E names e w h _ hP hE _ _
 obtain rfl:n=0:=h.2
 have hlt:=hE.lt
 go_enter Tryz.func61,Tryz.ntmps61
 go_wp2
 refine wp_loop_rounds 1 ?_
 rw[rounds_succ]
 go_wp2
 go_ret
 refine ⟨_,rfl,own_empty w _ 8,hE.below below_allocE (fun b hb hp=>.inl ⟨hp,hb⟩),only_of_below below_allocE _⟩
theorem all_succS {d:Nat} (hone:OneS d):AllS (d+1):=by
 obtain ⟨i0,hi,hz0,hz1,hz2⟩:=info_parts info_OpE
 intro P l A n c E names e w h hv hP hE hnm hsz
 have hElt:=hE.lt
 have hl:=h.1
 have H:=hD h
 have HV:=hD hv
 have HNM:=hD hnm
 have HSZ:=hD hsz
 have hn:n≤1048577:=by rw[szT_succ] at hsz;omega
 have HE:=hD hE
 have HL:=hD hl
 have HP:=hD hP
 clear h hv hnm hsz hE hl hP
 have own0:=own_empty w 104 8
 go_enter Tryz.func61,Tryz.ntmps61
 go_wp2
 go_loopw [5,6] (fun v i wr=>∃ (t:Nat) (out:List Opt) (et:Es),t≤n∧i=.int .i64 t∧out.length≤2000∧Hid (sA (d+1) l names e=sL (fun s e=>sS (sA d) (hdT s) (bdT s) names e) (l.drop t) out et)∧Hid (et.bits.length+szT (d+1) (l.drop t)≤1048577) ∧
  Hid (wr.ownsRow w.heap.size 104 8 v out.length (out.flatMap ocells))∧Hid (EnvS wr E (Aft w P v) names et)∧Hid (w.grownBy wr (some E))) (fun _ i _=>n - (intOf i).toNat)
 case atStart=>exact ⟨0,[],e,Nat.zero_le _,rfl,Nat.zero_le _,rfl,by rw[List.drop_zero];exact HSZ.out,own0,HE.out.below below_allocE (fun b hb hp=>.inl ⟨hp,hb⟩),only_of_below below_allocE _⟩
 case round =>
  clear own0
  obtain ⟨t,out,et,ht,rfl,hol,hsA,hbz,hown,henv,hgr⟩:=hrel
  obtain ⟨A0,c0,rfl,_,_,_⟩:=rd_of_own hown.out
  have hws:=hgr.out.size
  by_cases hlt:t<n
  ·obtain ⟨s,hs⟩:∃ s,l[t]?=some s:=⟨_,List.getElem?_eq_getElem (by have:=HL.out;omega)⟩
   have hv1:=validT_all HV.out s (List.mem_of_getElem? hs)
   have h0:=trQ_keep2 (Q:=Aft w P (.slice A0 out.length c0)) H.out (fun b hb hl=>hgr.out.block b hl (fun e=>by injection e with e;subst e;exact HP.out hb)) hgr.out.size (fun b hl hb=>.inl ⟨hb,hl⟩)
   obtain ⟨b,off,rfl,_,hbl,hc⟩:=h0.2 Zq6
   obtain ⟨Aa,ca,Ab,nb,cb,⟨q0,q1,q2,q3,q4⟩,ha,hb,_⟩:=hc t s hs
   have hnm1:names.length+(if hasB (hdT s).k then 1+nestT d (bdT s) else 0)≤1000:=by have:=nest_mem (List.mem_of_getElem? hs);have:=HNM.out;omega
   have hz1:=sz_drop hs
   have hz2:=hbz.out
   have HC:=hone (Aft w P (.slice A0 out.length c0)) (hdT s) (bdT s) Aa ca Ab nb cb E names et wr ha hb hv1 (aft_not HP.out hElt) henv.out hnm1 Zq6
   have hlen:=sS_len (hdT s) (bdT s) names et
   have hbits:=sS_bits (h:=hdT s) (names:=names) (e:=et) (fun n e=>sA_bits d (bdT s) n e)
   have hsa:=hsA.out
   rw[drop_cons hs] at hsa
   have hsa:sA (d+1) l names e=if 2000<(out++(sS (sA d) (hdT s) (bdT s) names et).1).length then ([],⟨(sS (sA d) (hdT s) (bdT s) names et).2.bits,(sS (sA d) (hdT s) (bdT s) names et).2.most,true⟩) else sL (fun s e=>sS (sA d) (hdT s) (bdT s) names e) (l.drop (t+1)) (out++(sS (sA d) (hdT s) (bdT s) names et).1) (sS (sA d) (hdT s) (bdT s) names et).2:=hsa
   obtain ⟨R,hR⟩:∃ R,R=sS (sA d) (hdT s) (bdT s) names et:=⟨_,rfl⟩
   rw[←hR] at HC hlen hbits hsa
   have HC:=hD HC
   have HSA:=hD hsa
   have hzn:R.2.bits.length+szT (d+1) (l.drop (t+1))≤1048577:=by omega
   have HZN:=hD hzn
   clear h0 hc hs hsa hR ha hb hv1 hz1 hz2 hbits hzn hnm1
   go_wp2_with fail
   refine HC.out.mono ?_
   rintro e1 w1 ⟨r,rfl,hor,hen,hg1⟩
   have hs1:=hg1.size
   obtain ⟨Ar,cr,rfl,_,_,rr⟩:=rd_of_own hor
   have own1:=own_drawG hown.out hg1 hElt
   have hvlt:∀ k,(Value.slice A0 out.length c0).ownBlock=some k→k<wr.heap.size:=fun k hk=>(hown.out.lt k hk).2
   have en1:=hD (hen.mono (fun b _ hb=>aft_aft hws hvlt b hb))
   have gr1:=hD (grE hgr.out hg1)
   clear hor hen hg1 q0 q1 q2 q3 q4 HC
   go_wp2_with (at_builtin;refine wpList_append_rd _ rfl _ _ 38 rfl w.heap.size 104 i0 _ 8 64 Tryz.underlying38 hi hz0 hz1 hz2 rfl Zq8 _ _ _ rfl own1 _ _ _ _ rfl rr ?c2 ?c3 ?c4 ?c5 ?_)
   case c2=>exact one_flat ocells_one R.1
   case c3=>simp only[maxLen];omega
   case c4=>omega
   case c5=>omega
   intro v6 w6 own6 gr6 hat
   have en6:=hD (en1.out.push hElt gr6 hat (own_ge own1))
   have g6:=hD (grOwn gr1.out gr6 (own_ge own1))
   have hs6:=gr6.size
   have e6:out.flatMap ocells++R.1.flatMap ocells=(out++R.1).flatMap ocells:=by rw[List.flatMap_append]
   rw[e6] at own6
   obtain ⟨N,hN⟩:∃ N,N=out.length+R.1.length:=⟨_,rfl⟩
   rw[←hN] at own6
   have hNl:(out++R.1).length=N:=by rw[List.length_append,hN]
   have HN:=hD hNl
   have O6:=hD own6
   obtain ⟨A6,c6,rfl,_,_,_⟩:=rd_of_own own6
   clear own6 gr6 hat own1 e6 rr hN en1 gr1
   by_cases hbig:2000<N
   ·have hd:decide ((2000:Int)<(N:Int))=true:=decide_eq_true Zq6
    have HF:Hid (sA (d+1) l names e=([],⟨R.2.bits,R.2.most,true⟩)):=by show _=_;rw[HSA.out,if_pos (by rw[hNl];exact hbig)]
    obtain ⟨An,nn,cn,Bn,nbb,cbb,hh,_⟩:=id en6.out
    have z3:=cell_at (j:=3) hh rfl
    have f3:=free_at (j:=3) hh
    have lE:=lt_of_block hh
    clear hh hNl
    go_wp2_with fail
    go_ret
    refine ⟨.slice (some ⟨w6.heap.size,0,none⟩) 0 0,rfl,?_,?_,?_⟩
    ·rw[HF.out]
     have ho:=own_empty (w6.setCell ⟨E,3,none⟩ (.bool true)) 104 8
     rw[size_setCell] at ho
     exact own_lowT ho Zq6
    ·rw[HF.out]
     exact(en6.out.long (aft_not HP.out hElt)).fresh (fun k hk=>by have hk:some w6.heap.size=some k:=hk;injection hk with hk;rw[size_setCell];omega) below_allocE
    ·exact grBelow (grE g6.out (setE _)) below_allocE
   ·have hd:decide ((2000:Int)<(N:Int))=false:=decide_eq_false Zq6
    have HF:Hid (sA (d+1) l names e=sL (fun s e=>sS (sA d) (hdT s) (bdT s) names e) (l.drop (t+1)) (out++R.1) R.2):=by show _=_;rw[HSA.out,if_neg (by rw[hNl];exact hbig)]
    clear hNl
    go_wp2_with fail
    go_roundw
    case rel=>exact ⟨t+1,out++R.1,R.2,by omega,by go_num,by rw[HN.out];omega,HF.out,HZN.out,by rw[HN.out];exact O6.out,en6.out,g6.out⟩
    case measure=>simp [intOf];omega
  ·obtain rfl:t=n:=by omega
   have HF:Hid (sA (d+1) l names e=(out,et)):=by
    show _=_
    rw[hsA.out,List.drop_of_length_le (by rw[HL.out];exact Nat.le_refl _)]
    rfl
   go_wp2_with fail
   go_ret
   exact ⟨_,rfl,by rw[HF.out];exact hown.out,by rw[HF.out];exact henv.out,hgr.out⟩
theorem all_listedB {md:Region.Mode} {ops:Array Oper} {Lz:Array Bool} (hz:Lz.size=ops.size) (hac:(ops.toList.zipIdx.all fun x=>x.1.after.all fun e=>!Region.binds md e || decide (e.on<x.2))=true) (hr:Region.ready md ops Lz=[]):∀ i,i<ops.size→Ls Lz i:=by
 intro i
 induction i using Nat.strongRecOn with
 | ind i ih =>
  intro hi
  apply Classical.byContradiction
  intro hn
  have ho:ops[i]?=some ops[i]:=Array.getElem?_eq_getElem hi
  have hmem:i∈Region.ready md ops Lz:=mem_ready.2 ⟨by
   unfold Ls at hn
   have hj:i<Lz.size:=by rw[hz];exact hi
   simp [hj] at hn ⊢
   exact hn,ops[i],ho,fun e he hb=>by
   have h1:=List.all_eq_true.1 hac (ops[i],i) (by
    rw[List.mk_mem_zipIdx_iff_getElem?]
    simp)
   have h2:=Array.all_eq_true'.1 h1 e he
   rw[hb] at h2
   have h3:e.on<i:=by simpa using h2
   exact ih e.on h3 Zq6⟩
  rw[hr] at hmem
  simp at hmem
end Go.Proofs.YthkbckkghnbonaaGreatDoor
