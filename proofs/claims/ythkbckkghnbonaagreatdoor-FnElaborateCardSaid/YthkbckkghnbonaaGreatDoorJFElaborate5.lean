/- What the calls that this law reaches answer, part 5 of 20. -/
import Derived.Test.YthkbckkghnbonaaGreatDoorJFElaborate4
import Derived.Test.YthkbckkghnbonaaGreatDoorJFElaborate1
import Derived.Test.YthkbckkghnbonaaGreatDoorJFElaborate3
import Derived.Laws.IdiomStrings
set_option maxRecDepth 100000
set_option maxHeartbeats 16000000
set_option linter.unusedVariables false
namespace Go.Proofs.YthkbckkghnbonaaGreatDoor
open Go.RowKit
set_option linter.unusedVariables false
def InN (n:Nat) (L:List Int):Prop:=∀ x∈L,0≤x∧x<n
def DPn (w:World) (p n:Nat) (e:Ending) (w':World):Prop:=∃ (v:Value) (L:List Int),e=.returned v∧L.length=n∧InN n L∧w'.ownsRow w.heap.size 3 1 v n (L.map (Value.int .i64))∧ybt w' p∧w.grownBy w' (some p)
def yse (w:World) (n:Nat) (e:Ending) (w':World):Prop:=∃ (v:Value) (L:List Int),e=.returned v∧L.length=n∧InN n L∧w'.ownsRow w.heap.size 3 1 v n (L.map (Value.int .i64))∧Below w.heap.size w w'∧w.heap.size≤w'.heap.size
def DGk (kind:Int) (w:World) (p:Nat) (e:Ending) (w':World):Prop:=∃ a b c:Int,e=.returned (.agg #[.int .i64 kind,.int .i64 a,.int .i64 b,.int .i64 c])∧ybt w' p∧w.grownBy w' (some p)
def DGn (n:Nat) (w:World) (p:Nat) (e:Ending) (w':World):Prop:=∃ k a b c:Int,(1≤k∧k≤12∧ar k≤n)∧e=.returned (.agg #[.int .i64 k,.int .i64 a,.int .i64 b,.int .i64 c])∧ybt w' p∧w.grownBy w' (some p)
theorem yoj {n:Nat} {L:List Int} {y:Int} (h:InN n L) (hy:y∈L) (i:Nat):InN n (L.set i y):=by
 intro x hx
 rcases List.mem_or_eq_of_mem_set hx with h1|h1
 ·exact h x h1
 ·rw[h1];exact h y hy
theorem ysf {n:Nat} {L:List Int} {y:Int} (h:InN n L) (h0:0≤y) (h1:y<n):InN n (L++[y]):=by
 intro x hx
 rcases List.mem_append.1 hx with h2|h2
 ·exact h x h2
 ·rw[List.mem_singleton.1 h2];exact ⟨h0,h1⟩
theorem ytw {n m:Nat} {L:List Int} (h:InN n L) (hm:n≤m):InN m L:=fun x hx=>by have:=h x hx;omega
theorem yke {y:Int} (h:y∈([4,7,5,8,9,9,9,9]:List Int)):1≤y∧y≤12:=by
 simp only[List.mem_cons,List.not_mem_nil,or_false] at h
 omega
theorem yis {w:World} {L:List Int} {b:Nat} (hb:b=w.heap.size):Rd (w.alloc (.cells (L.map (Value.int .i64)).toArray 3)) 1 (some ⟨b,0,none⟩) L.length (L.map (Value.int .i64)):=by
 have h:=yc4 (w:=w) (cs:=(L.map (Value.int .i64)).toArray) (e:=3) (n:=L.length) (size:=1) hb Zq11
 simpa using h
theorem ysg {n:Nat} {L:List Int} {y z:Int} (h:InN n L) (hy:y∈L) (hz:z∈L) {i j:Nat}:InN n ((L.set i y).set j z):=by
 intro x hx
 rcases List.mem_or_eq_of_mem_set hx with h1|h1
 ·exact yoj h hy i x h1
 ·rw[h1];exact h z hz
theorem yg4 (n:Nat) (w:World) (h1:1≤n) (h4:n≤4):Calls Tryz.prog 179 #[.int .i64 n] w (yse w n):=by
 obtain ⟨i0,hi,hz0,hz1,hz2⟩:=info_parts ymf
 have hin:inB (n:Int) 1 4=true:=ycf.2 Zq6
 go_enter Tryz.func179,Tryz.ntmps179
 go_wp2_with fail
 go_loopw [3,4] (fun v i wr=>∃ (t:Nat) (L:List Int),t≤n∧i=.int .i64 t∧L.length=t∧Hid (InN t L)∧wr.ownsRow w.heap.size 3 1 v t (L.map (Value.int .i64))∧Below w.heap.size w wr) (fun _ i _=>n - (intOf i).toNat)
 case atStart=>exact ⟨0,[],Nat.zero_le _,rfl,rfl,(fun x hx=>absurd hx Zq11),by simpa using yb2 w _ 1,Zq0⟩
 case round =>
  obtain ⟨t,L,ht,rfl,hL,hin2,hown,hb⟩:=hrel
  have HL:=hD hL
  clear hL
  by_cases hlt:t<n
  ·go_wp2_with (first|(go_at_call 47;refine(yag _ _ _ _).mono ?_;rintro e w' ⟨rfl,rfl⟩)|(at_builtin;refine yae _ rfl _ _ 123 rfl w.heap.size 3 i0 _ 1 8 Tryz.underlying123 hi hz0 hz1 hz2 rfl Zq9 _ _ _ rfl (hown.alloc _) _ 1 1 _ rfl (yc4 ?c0 rfl) ?c2 ?c3 ?c4 ?c5 ?_))
   case c0=>first|rfl|simp
   case c2=>repeat' (first|rfl|apply And.intro)
   case c3=>simp only[maxLen];omega
   case c4=>omega
   case c5=>have:=hb.size;simp;omega
   intro v3 w3 own3 gr3 _
   have b3:=(hb.alloc hb.size _).grown gr3 (by have:=hb.size;simp;omega) (ybe hown)
   clear hown gr3
   go_wp2_with fail
   go_roundw
   case rel=>exact ⟨t+1,L++[(t:Int)],by omega,by go_num,by simp [HL.out],ysf (ytw hin2.out Zq6) Zq6 Zq6,by simpa using own3,b3⟩
   case measure=>simp [intOf];omega
  ·obtain rfl:t=n:=by omega
   go_wp2_with (go_at_call 47;refine(yag _ _ _ _).mono ?_;rintro e w' ⟨rfl,rfl⟩)
   go_ret
   exact ⟨_,L,rfl,HL.out,hin2.out,hown,hb,hb.size⟩
theorem yms (n:Nat) (w:World) (p:Nat) (hcur:ybt w p) (h1:1≤n) (h4:n≤4):Calls Tryz.prog 160 #[.pointer (some ⟨p,0,none⟩),.int .i64 n] w (DPn w p n):=by
 have hp:=hcur.lt
 go_enter Tryz.func160,Tryz.ntmps160
 go_wp2_with fail
 refine(yg4 n w h1 h4).mono ?_
 rintro e w1 ⟨v,L,rfl,hL,hin,hown,hb,hs⟩
 have HIN:=hD hin
 clear hin
 have hfr:Fr w p w1:=(Fr.start hcur).below hb
 rcases hown.2 with ⟨_,h0⟩|⟨g,cap,cur,rfl,hgb,hh,hcp,hm,_,_⟩
 ·omega
 have HL:=hD hL
 clear hL hh hb
 go_wp2_with fail
 go_loopw [6,7,8] (fun i _ _ wr=>∃ (t:Nat) (L:List Int),t+1≤n∧i=.int .i64 t∧L.length=n∧Hid (InN n L)∧wr.ownsRow w.heap.size 3 1 (.slice (some ⟨g,0,none⟩) n cap) n (L.map (Value.int .i64))∧Fr w p wr) (fun i _ _ _=>(intOf i).toNat)
 case atStart=>exact ⟨n - 1,L,by omega,by congr 1;omega,HL.out,HIN.out,hown,hfr⟩
 case round =>
  clear hown hfr
  obtain ⟨t,L,ht,rfl,hL,hin,hown,hfr⟩:=hrel
  have HL2:=hD hL
  clear hL
  by_cases hlt:0<t
  ·go_wp2_with fail
   refine(ybu (t+1) t wr p hfr.cur Zq6 Zq6 Zq6).mono ?_
   rintro e w2 ⟨x,hx0,hx1,rfl,hc2,hg2⟩
   obtain ⟨k,rfl⟩:∃ k:Nat,x=k:=⟨x.toNat,by omega⟩
   have hfr2:=hfr.call hc2 hg2
   have hown2:w2.ownsRow w.heap.size 3 1 (.slice (some ⟨g,0,none⟩) n cap) n (L.map (Value.int .i64)):=hown.kept hg2 (.inr (by
    intro e
    simp [Value.ownBlock] at e
    omega))
   obtain ⟨y1,hy1⟩:∃ y,L[t]?=some y:=⟨_,List.getElem?_eq_getElem (by rw[HL2.out];omega)⟩
   obtain ⟨y2,hy2⟩:∃ y,L[k]?=some y:=⟨_,List.getElem?_eq_getElem (by rw[HL2.out];omega)⟩
   have z1:w2.cell? ⟨g,t,none⟩=some (.int .i64 y1):=(hown2.cellAt t Zq6).trans (by simp [hy1])
   have z2:w2.cell? ⟨g,k,none⟩=some (.int .i64 y2):=(hown2.cellAt k Zq6).trans (by simp [hy2])
   have f1:=hown2.frozenAt t
   have f2:=hown2.frozenAt k
   have HO:=hD hown2
   have HFR:=hD hfr2
   have hm1:=List.mem_of_getElem? hy1
   have hm2:=List.mem_of_getElem? hy2
   have HM1:=hD hm1
   have HM2:=hD hm2
   clear hown hown2 hfr hfr2 hy1 hy2 hc2 hg2 hm1 hm2
   by_cases hkt:k=t
   ·subst hkt
    have s0:=(HO.out.stored k (.int .i64 y2))
    have s1:=(s0.1.stored k (.int .i64 y2))
    have HS:=hD (And.intro s0 s1)
    clear s0 s1 z1
    go_wp2_with fail
    go_roundw
    case rel=>exact ⟨k - 1,(L.set k y2).set k y2,by omega,by congr 1;omega,by simp [HL2.out],by rw[List.set_set];exact yoj hin.out HM2.out k,by simpa using HS.out.2.1,(HFR.out.own hp HS.out.1.2 (fun j hj=>by injection hj with hj;omega)).own hp HS.out.2.2 (fun j hj=>by injection hj with hj;omega)⟩
    case measure=>simp [intOf];omega
   ·have s0:=(HO.out.stored t (.int .i64 y2))
    have s1:=(s0.1.stored k (.int .i64 y1))
    have HS:=hD (And.intro s0 s1)
    clear s0 s1
    go_wp2_with fail
    go_roundw
    case rel=>exact ⟨t - 1,(L.set t y2).set k y1,by omega,by congr 1;omega,by simp [HL2.out],ysg hin.out HM2.out HM1.out,by simpa using HS.out.2.1,(HFR.out.own hp HS.out.1.2 (fun j hj=>by injection hj with hj;omega)).own hp HS.out.2.2 (fun j hj=>by injection hj with hj;omega)⟩
    case measure=>simp [intOf];omega
  ·obtain rfl:t=0:=by omega
   go_wp2_with fail
   go_ret
   exact ⟨_,L,rfl,HL2.out,hin.out,hown,hfr.cur,hfr.gr⟩
theorem ydr (kind:Int) (n:Nat) (w:World) (p:Nat) (hcur:ybt w p) (h1:1≤n) (h4:n≤4) (hk:ar kind≤n):Calls Tryz.prog 178 #[.pointer (some ⟨p,0,none⟩),.int .i64 kind,.int .i64 n] w (DGk kind w p):=by
 have hp:=hcur.lt
 go_enter Tryz.func178,Tryz.ntmps178
 go_wp2_with fail
 obtain ⟨w0,hw0⟩:∃ w0,w0=w.alloc (.cells #[.int .i64 0,.int .i64 0,.int .i64 0,.int .i64 0] 102):=⟨_,rfl⟩
 rw[←hw0]
 have x0:w0.heap[w.heap.size]?=some (.cells #[.int .i64 0,.int .i64 0,.int .i64 0,.int .i64 0] 102 (0,0)):=by rw[hw0];exact yac _ _
 have hfr0:Fr w p w0:=by rw[hw0];exact(Fr.start hcur).alloc _
 have s0:w.heap.size<w0.heap.size:=by rw[hw0];simp
 clear hw0
 refine(yms n w0 p hfr0.cur h1 h4).mono ?_
 rintro e w1 ⟨v,L,rfl,hL,_,hown,hc1,hg1⟩
 have x1:=ybl x0 hg1 Zq6
 have hfr1:=hfr0.call hc1 hg1
 have s1:w.heap.size<w1.heap.size:=by have:=hg1.size;omega
 rcases hown.2 with ⟨_,h0⟩|⟨g,cap,cur,rfl,hgb,hh,hcp,hm,_,_⟩
 ·omega
 obtain ⟨y0,hy0⟩:∃ y,L[0]?=some y:=⟨_,List.getElem?_eq_getElem Zq6⟩
 have z0:w1.cell? ⟨g,0,none⟩=some (.int .i64 y0):=(hown.cellAt 0 Zq6).trans (by simp [hy0])
 obtain ⟨q0,q1,q2,q3⟩:=yai (lay:=Below.refl _ _) x1
 have f0:=yab (j:=0) x1
 have f1:=yab (j:=1) x1
 have f2:=yab (j:=2) x1
 have f3:=yab (j:=3) x1
 have hglt:g<w1.heap.size:=(hown.lt g rfl).2
 have hne:g≠w.heap.size:=by omega
 have HL:=hD hL
 have HO:=hD hown
 have har:=yfz kind
 clear hy0 hL hown hh x0 x1 hc1 hg1 hfr0
 by_cases a1:1<ar kind
 ·obtain ⟨y1,hy1⟩:∃ y,L[1]?=some y:=⟨_,List.getElem?_eq_getElem (by rw[HL.out];omega)⟩
  have z1:w1.cell? ⟨g,1,none⟩=some (.int .i64 y1):=(HO.out.cellAt 1 Zq6).trans (by simp [hy1])
  clear hy1
  by_cases a2:2<ar kind
  ·obtain ⟨y2,hy2⟩:∃ y,L[2]?=some y:=⟨_,List.getElem?_eq_getElem (by rw[HL.out];omega)⟩
   have z2:w1.cell? ⟨g,2,none⟩=some (.int .i64 y2):=(HO.out.cellAt 2 Zq6).trans (by simp [hy2])
   clear hy2
   go_wp2_with (go_at_call 135;refine(ybq _ _).mono ?_;rintro e w' ⟨rfl,rfl⟩)
   exact bodyPost_ret (v:=.agg #[.int .i64 kind,.int .i64 y0,.int .i64 y1,.int .i64 y2]) (by simp [results,Tryz.results178,go_sem,s1,q0,q1,q2,q3]) rfl ⟨_,_,_,rfl,(Fr.cur (w:=w) (by repeat (first|assumption|(with_reducible refine Fr.alloc ?_ _)|(with_reducible refine Fr.set ?_ hp Zq5 _)))),(Fr.gr (by repeat (first|assumption|(with_reducible refine Fr.alloc ?_ _)|(with_reducible refine Fr.set ?_ hp Zq5 _))))⟩
  ·go_wp2_with (go_at_call 135;refine(ybq _ _).mono ?_;rintro e w' ⟨rfl,rfl⟩)
   exact bodyPost_ret (v:=.agg #[.int .i64 kind,.int .i64 y0,.int .i64 y1,.int .i64 0]) (by simp [results,Tryz.results178,go_sem,s1,q0,q1,q2,q3]) rfl ⟨_,_,_,rfl,(Fr.cur (w:=w) (by repeat (first|assumption|(with_reducible refine Fr.alloc ?_ _)|(with_reducible refine Fr.set ?_ hp Zq5 _)))),(Fr.gr (by repeat (first|assumption|(with_reducible refine Fr.alloc ?_ _)|(with_reducible refine Fr.set ?_ hp Zq5 _))))⟩
 ·go_wp2_with (go_at_call 135;refine(ybq _ _).mono ?_;rintro e w' ⟨rfl,rfl⟩)
  exact bodyPost_ret (v:=.agg #[.int .i64 kind,.int .i64 y0,.int .i64 0,.int .i64 0]) (by simp [results,Tryz.results178,go_sem,s1,q0,q1,q2,q3]) rfl ⟨_,_,_,rfl,(Fr.cur (w:=w) (by repeat (first|assumption|(with_reducible refine Fr.alloc ?_ _)|(with_reducible refine Fr.set ?_ hp Zq5 _)))),(Fr.gr (by repeat (first|assumption|(with_reducible refine Fr.alloc ?_ _)|(with_reducible refine Fr.set ?_ hp Zq5 _))))⟩
theorem yqs (w:World) (p:Nat) (hcur:ybt w p):Calls Tryz.prog 158 #[.pointer (some ⟨p,0,none⟩),.int .i64 1] w (DGn 1 w p):=by
 have hp:=hcur.lt
 go_enter Tryz.func158,Tryz.ntmps158
 go_wp2_with fail
 obtain ⟨w0,hw0⟩:∃ w0,w0=(w.alloc (.cells #[.int .i64 0,.int .i64 0,.int .i64 0,.int .i64 0] 102)).alloc (.cells #[.int .i64 0,.int .i64 8,.int .i64 11,.int .i64 12,.int .i64 12] 3):=⟨_,rfl⟩
 rw[←hw0]
 have x0:w0.heap[w.heap.size]?=some (.cells #[.int .i64 0,.int .i64 0,.int .i64 0,.int .i64 0] 102 (0,0)):=by rw[hw0];exact ydo _ _ _
 have hfr0:Fr w p w0:=by rw[hw0];exact((Fr.start hcur).alloc _).alloc _
 have s0:w.heap.size<w0.heap.size:=by rw[hw0];simp;omega
 clear hw0
 refine(ybu 8 11 w0 p hfr0.cur Zq6 Zq6 Zq6).mono ?_
 rintro e w1 ⟨x,hx0,hx1,rfl,hc1,hg1⟩
 have x1:=ybl x0 hg1 Zq6
 have hfr1:=hfr0.call hc1 hg1
 have s1:w.heap.size<w1.heap.size:=by have:=hg1.size;omega
 have X1:=hD x1
 clear x0 x1 hc1 hg1 hfr0
 go_wp2_with fail
 refine(yee 2 w1 p hfr1.cur Zq6 Zq6).mono ?_
 rintro e w2 ⟨b,rfl,hc2,hg2⟩
 have x2:=ybl X1.out hg2 Zq6
 have hfr2:=hfr1.call hc2 hg2
 have s2:w.heap.size<w2.heap.size:=by have:=hg2.size;omega
 have X2:=hD x2
 clear X1 x2 hc2 hg2 hfr1
 cases b
 ·by_cases hA:1<ar (1+x)
  ·go_wp2_with (go_at_call 135;refine(ybq _ _).mono ?_;rintro e w' ⟨rfl,rfl⟩)
   refine(ydr (4) 1 w2 p hfr2.cur Zq6 Zq6 (show ar 4≤1 by decide)).mono ?_
   rintro e w3 ⟨a,b,c,rfl,hc,hg⟩
   have x3:=ybl X2.out hg Zq6
   have hfr3:=hfr2.call hc hg
   have s3:w.heap.size<w3.heap.size:=by have:=hg.size;omega
   obtain ⟨q0,q1,q2,q3⟩:=yai (lay:=Below.refl _ _) x3
   have f0:=yab (j:=0) x3
   have f1:=yab (j:=1) x3
   have f2:=yab (j:=2) x3
   have f3:=yab (j:=3) x3
   clear X2 x3 hc hg hfr2
   go_wp2_with fail
   exact bodyPost_ret (v:=.agg #[.int .i64 (4),.int .i64 a,.int .i64 b,.int .i64 c]) (by simp [results,Tryz.results158,go_sem,q0,q1,q2,q3]) rfl ⟨_,_,_,_,⟨by omega,by omega,show ar 4≤1 by decide⟩,rfl,(Fr.cur (w:=w) (by repeat (first|assumption|(with_reducible refine Fr.alloc ?_ _)|(with_reducible refine Fr.set ?_ hp Zq5 _)))),(Fr.gr (by repeat (first|assumption|(with_reducible refine Fr.alloc ?_ _)|(with_reducible refine Fr.set ?_ hp Zq5 _))))⟩
  ·go_wp2_with (go_at_call 135;refine(ybq _ _).mono ?_;rintro e w' ⟨rfl,rfl⟩)
   refine(ydr (1+x) 1 w2 p hfr2.cur Zq6 Zq6 Zq6).mono ?_
   rintro e w3 ⟨a,b,c,rfl,hc,hg⟩
   have x3:=ybl X2.out hg Zq6
   have hfr3:=hfr2.call hc hg
   have s3:w.heap.size<w3.heap.size:=by have:=hg.size;omega
   obtain ⟨q0,q1,q2,q3⟩:=yai (lay:=Below.refl _ _) x3
   have f0:=yab (j:=0) x3
   have f1:=yab (j:=1) x3
   have f2:=yab (j:=2) x3
   have f3:=yab (j:=3) x3
   clear X2 x3 hc hg hfr2
   go_wp2_with fail
   exact bodyPost_ret (v:=.agg #[.int .i64 (1+x),.int .i64 a,.int .i64 b,.int .i64 c]) (by simp [results,Tryz.results158,go_sem,q0,q1,q2,q3]) rfl ⟨_,_,_,_,⟨by omega,by omega,by omega⟩,rfl,(Fr.cur (w:=w) (by repeat (first|assumption|(with_reducible refine Fr.alloc ?_ _)|(with_reducible refine Fr.set ?_ hp Zq5 _)))),(Fr.gr (by repeat (first|assumption|(with_reducible refine Fr.alloc ?_ _)|(with_reducible refine Fr.set ?_ hp Zq5 _))))⟩
 ·go_wp2_with fail
  obtain ⟨w3,hw3⟩:∃ w3,w3=w2.alloc (.cells #[.int .i64 4,.int .i64 7,.int .i64 5,.int .i64 8,.int .i64 9,.int .i64 9,.int .i64 9,.int .i64 9] 3):=⟨_,rfl⟩
  rw[←hw3]
  have x3:w3.heap[w.heap.size]?=some (.cells #[.int .i64 0,.int .i64 0,.int .i64 0,.int .i64 0] 102 (0,0)):=by rw[hw3];exact(Below.heap_alloc _ _ _ s2).trans X2.out
  have hfr3:Fr w p w3:=by rw[hw3];exact hfr2.alloc _
  have hpk:=yis (w:=w2) (L:=[4,7,5,8,9,9,9,9]) rfl
  have hr3:Rd w3 1 (some ⟨w2.heap.size,0,none⟩) 8 (([4,7,5,8,9,9,9,9]:List Int).map (Value.int .i64)):=by rw[hw3];exact hpk
  have s3:w.heap.size<w3.heap.size:=by rw[hw3];simp;omega
  clear hw3 hpk X2
  refine(yeg w2.heap.size 8 8 [4,7,5,8,9,9,9,9] w3 p hfr3.cur rfl Zq6 Zq6 hr3 Zq6).mono ?_
  rintro e w4 ⟨y,hy,rfl,hc4,hg4⟩
  have hyb:=yke hy
  clear hy
  have x4:=ybl x3 hg4 Zq6
  have hfr4:=hfr3.call hc4 hg4
  have s4:w.heap.size<w4.heap.size:=by have:=hg4.size;omega
  have X4:=hD x4
  clear x3 x4 hc4 hg4 hfr3 hr3
  by_cases hA:1<ar (y)
  ·go_wp2_with (go_at_call 135;refine(ybq _ _).mono ?_;rintro e w' ⟨rfl,rfl⟩)
   refine(ydr (4) 1 w4 p hfr4.cur Zq6 Zq6 (show ar 4≤1 by decide)).mono ?_
   rintro e w5 ⟨a,b,c,rfl,hc,hg⟩
   have x5:=ybl X4.out hg Zq6
   have hfr5:=hfr4.call hc hg
   have s5:w.heap.size<w5.heap.size:=by have:=hg.size;omega
   obtain ⟨q0,q1,q2,q3⟩:=yai (lay:=Below.refl _ _) x5
   have f0:=yab (j:=0) x5
   have f1:=yab (j:=1) x5
   have f2:=yab (j:=2) x5
   have f3:=yab (j:=3) x5
   clear X4 x5 hc hg hfr4
   go_wp2_with fail
   exact bodyPost_ret (v:=.agg #[.int .i64 (4),.int .i64 a,.int .i64 b,.int .i64 c]) (by simp [results,Tryz.results158,go_sem,q0,q1,q2,q3]) rfl ⟨_,_,_,_,⟨by omega,by omega,show ar 4≤1 by decide⟩,rfl,(Fr.cur (w:=w) (by repeat (first|assumption|(with_reducible refine Fr.alloc ?_ _)|(with_reducible refine Fr.set ?_ hp Zq5 _)))),(Fr.gr (by repeat (first|assumption|(with_reducible refine Fr.alloc ?_ _)|(with_reducible refine Fr.set ?_ hp Zq5 _))))⟩
  ·go_wp2_with (go_at_call 135;refine(ybq _ _).mono ?_;rintro e w' ⟨rfl,rfl⟩)
   refine(ydr (y) 1 w4 p hfr4.cur Zq6 Zq6 Zq6).mono ?_
   rintro e w5 ⟨a,b,c,rfl,hc,hg⟩
   have x5:=ybl X4.out hg Zq6
   have hfr5:=hfr4.call hc hg
   have s5:w.heap.size<w5.heap.size:=by have:=hg.size;omega
   obtain ⟨q0,q1,q2,q3⟩:=yai (lay:=Below.refl _ _) x5
   have f0:=yab (j:=0) x5
   have f1:=yab (j:=1) x5
   have f2:=yab (j:=2) x5
   have f3:=yab (j:=3) x5
   clear X4 x5 hc hg hfr4
   go_wp2_with fail
   exact bodyPost_ret (v:=.agg #[.int .i64 (y),.int .i64 a,.int .i64 b,.int .i64 c]) (by simp [results,Tryz.results158,go_sem,q0,q1,q2,q3]) rfl ⟨_,_,_,_,⟨by omega,by omega,by omega⟩,rfl,(Fr.cur (w:=w) (by repeat (first|assumption|(with_reducible refine Fr.alloc ?_ _)|(with_reducible refine Fr.set ?_ hp Zq5 _)))),(Fr.gr (by repeat (first|assumption|(with_reducible refine Fr.alloc ?_ _)|(with_reducible refine Fr.set ?_ hp Zq5 _))))⟩
theorem yqt (w:World) (p:Nat) (hcur:ybt w p):Calls Tryz.prog 158 #[.pointer (some ⟨p,0,none⟩),.int .i64 2] w (DGn 2 w p):=by
 have hp:=hcur.lt
 go_enter Tryz.func158,Tryz.ntmps158
 go_wp2_with fail
 obtain ⟨w0,hw0⟩:∃ w0,w0=(w.alloc (.cells #[.int .i64 0,.int .i64 0,.int .i64 0,.int .i64 0] 102)).alloc (.cells #[.int .i64 0,.int .i64 8,.int .i64 11,.int .i64 12,.int .i64 12] 3):=⟨_,rfl⟩
 rw[←hw0]
 have x0:w0.heap[w.heap.size]?=some (.cells #[.int .i64 0,.int .i64 0,.int .i64 0,.int .i64 0] 102 (0,0)):=by rw[hw0];exact ydo _ _ _
 have hfr0:Fr w p w0:=by rw[hw0];exact((Fr.start hcur).alloc _).alloc _
 have s0:w.heap.size<w0.heap.size:=by rw[hw0];simp;omega
 clear hw0
 refine(ybu 11 11 w0 p hfr0.cur Zq6 Zq6 Zq6).mono ?_
 rintro e w1 ⟨x,hx0,hx1,rfl,hc1,hg1⟩
 have x1:=ybl x0 hg1 Zq6
 have hfr1:=hfr0.call hc1 hg1
 have s1:w.heap.size<w1.heap.size:=by have:=hg1.size;omega
 have X1:=hD x1
 clear x0 x1 hc1 hg1 hfr0
 go_wp2_with fail
 refine(yee 2 w1 p hfr1.cur Zq6 Zq6).mono ?_
 rintro e w2 ⟨b,rfl,hc2,hg2⟩
 have x2:=ybl X1.out hg2 Zq6
 have hfr2:=hfr1.call hc2 hg2
 have s2:w.heap.size<w2.heap.size:=by have:=hg2.size;omega
 have X2:=hD x2
 clear X1 x2 hc2 hg2 hfr1
 cases b
 ·by_cases hA:2<ar (1+x)
  ·go_wp2_with (go_at_call 135;refine(ybq _ _).mono ?_;rintro e w' ⟨rfl,rfl⟩)
   refine(ydr (4) 2 w2 p hfr2.cur Zq6 Zq6 (show ar 4≤2 by decide)).mono ?_
   rintro e w3 ⟨a,b,c,rfl,hc,hg⟩
   have x3:=ybl X2.out hg Zq6
   have hfr3:=hfr2.call hc hg
   have s3:w.heap.size<w3.heap.size:=by have:=hg.size;omega
   obtain ⟨q0,q1,q2,q3⟩:=yai (lay:=Below.refl _ _) x3
   have f0:=yab (j:=0) x3
   have f1:=yab (j:=1) x3
   have f2:=yab (j:=2) x3
   have f3:=yab (j:=3) x3
   clear X2 x3 hc hg hfr2
   go_wp2_with fail
   exact bodyPost_ret (v:=.agg #[.int .i64 (4),.int .i64 a,.int .i64 b,.int .i64 c]) (by simp [results,Tryz.results158,go_sem,q0,q1,q2,q3]) rfl ⟨_,_,_,_,⟨by omega,by omega,show ar 4≤2 by decide⟩,rfl,(Fr.cur (w:=w) (by repeat (first|assumption|(with_reducible refine Fr.alloc ?_ _)|(with_reducible refine Fr.set ?_ hp Zq5 _)))),(Fr.gr (by repeat (first|assumption|(with_reducible refine Fr.alloc ?_ _)|(with_reducible refine Fr.set ?_ hp Zq5 _))))⟩
  ·go_wp2_with (go_at_call 135;refine(ybq _ _).mono ?_;rintro e w' ⟨rfl,rfl⟩)
   refine(ydr (1+x) 2 w2 p hfr2.cur Zq6 Zq6 Zq6).mono ?_
   rintro e w3 ⟨a,b,c,rfl,hc,hg⟩
   have x3:=ybl X2.out hg Zq6
   have hfr3:=hfr2.call hc hg
   have s3:w.heap.size<w3.heap.size:=by have:=hg.size;omega
   obtain ⟨q0,q1,q2,q3⟩:=yai (lay:=Below.refl _ _) x3
   have f0:=yab (j:=0) x3
   have f1:=yab (j:=1) x3
   have f2:=yab (j:=2) x3
   have f3:=yab (j:=3) x3
   clear X2 x3 hc hg hfr2
   go_wp2_with fail
   exact bodyPost_ret (v:=.agg #[.int .i64 (1+x),.int .i64 a,.int .i64 b,.int .i64 c]) (by simp [results,Tryz.results158,go_sem,q0,q1,q2,q3]) rfl ⟨_,_,_,_,⟨by omega,by omega,by omega⟩,rfl,(Fr.cur (w:=w) (by repeat (first|assumption|(with_reducible refine Fr.alloc ?_ _)|(with_reducible refine Fr.set ?_ hp Zq5 _)))),(Fr.gr (by repeat (first|assumption|(with_reducible refine Fr.alloc ?_ _)|(with_reducible refine Fr.set ?_ hp Zq5 _))))⟩
 ·go_wp2_with fail
  obtain ⟨w3,hw3⟩:∃ w3,w3=w2.alloc (.cells #[.int .i64 4,.int .i64 7,.int .i64 5,.int .i64 8,.int .i64 9,.int .i64 9,.int .i64 9,.int .i64 9] 3):=⟨_,rfl⟩
  rw[←hw3]
  have x3:w3.heap[w.heap.size]?=some (.cells #[.int .i64 0,.int .i64 0,.int .i64 0,.int .i64 0] 102 (0,0)):=by rw[hw3];exact(Below.heap_alloc _ _ _ s2).trans X2.out
  have hfr3:Fr w p w3:=by rw[hw3];exact hfr2.alloc _
  have hpk:=yis (w:=w2) (L:=[4,7,5,8,9,9,9,9]) rfl
  have hr3:Rd w3 1 (some ⟨w2.heap.size,0,none⟩) 8 (([4,7,5,8,9,9,9,9]:List Int).map (Value.int .i64)):=by rw[hw3];exact hpk
  have s3:w.heap.size<w3.heap.size:=by rw[hw3];simp;omega
  clear hw3 hpk X2
  refine(yeg w2.heap.size 8 8 [4,7,5,8,9,9,9,9] w3 p hfr3.cur rfl Zq6 Zq6 hr3 Zq6).mono ?_
  rintro e w4 ⟨y,hy,rfl,hc4,hg4⟩
  have hyb:=yke hy
  clear hy
  have x4:=ybl x3 hg4 Zq6
  have hfr4:=hfr3.call hc4 hg4
  have s4:w.heap.size<w4.heap.size:=by have:=hg4.size;omega
  have X4:=hD x4
  clear x3 x4 hc4 hg4 hfr3 hr3
  by_cases hA:2<ar (y)
  ·go_wp2_with (go_at_call 135;refine(ybq _ _).mono ?_;rintro e w' ⟨rfl,rfl⟩)
   refine(ydr (4) 2 w4 p hfr4.cur Zq6 Zq6 (show ar 4≤2 by decide)).mono ?_
   rintro e w5 ⟨a,b,c,rfl,hc,hg⟩
   have x5:=ybl X4.out hg Zq6
   have hfr5:=hfr4.call hc hg
   have s5:w.heap.size<w5.heap.size:=by have:=hg.size;omega
   obtain ⟨q0,q1,q2,q3⟩:=yai (lay:=Below.refl _ _) x5
   have f0:=yab (j:=0) x5
   have f1:=yab (j:=1) x5
   have f2:=yab (j:=2) x5
   have f3:=yab (j:=3) x5
   clear X4 x5 hc hg hfr4
   go_wp2_with fail
   exact bodyPost_ret (v:=.agg #[.int .i64 (4),.int .i64 a,.int .i64 b,.int .i64 c]) (by simp [results,Tryz.results158,go_sem,q0,q1,q2,q3]) rfl ⟨_,_,_,_,⟨by omega,by omega,show ar 4≤2 by decide⟩,rfl,(Fr.cur (w:=w) (by repeat (first|assumption|(with_reducible refine Fr.alloc ?_ _)|(with_reducible refine Fr.set ?_ hp Zq5 _)))),(Fr.gr (by repeat (first|assumption|(with_reducible refine Fr.alloc ?_ _)|(with_reducible refine Fr.set ?_ hp Zq5 _))))⟩
  ·go_wp2_with (go_at_call 135;refine(ybq _ _).mono ?_;rintro e w' ⟨rfl,rfl⟩)
   refine(ydr (y) 2 w4 p hfr4.cur Zq6 Zq6 Zq6).mono ?_
   rintro e w5 ⟨a,b,c,rfl,hc,hg⟩
   have x5:=ybl X4.out hg Zq6
   have hfr5:=hfr4.call hc hg
   have s5:w.heap.size<w5.heap.size:=by have:=hg.size;omega
   obtain ⟨q0,q1,q2,q3⟩:=yai (lay:=Below.refl _ _) x5
   have f0:=yab (j:=0) x5
   have f1:=yab (j:=1) x5
   have f2:=yab (j:=2) x5
   have f3:=yab (j:=3) x5
   clear X4 x5 hc hg hfr4
   go_wp2_with fail
   exact bodyPost_ret (v:=.agg #[.int .i64 (y),.int .i64 a,.int .i64 b,.int .i64 c]) (by simp [results,Tryz.results158,go_sem,q0,q1,q2,q3]) rfl ⟨_,_,_,_,⟨by omega,by omega,by omega⟩,rfl,(Fr.cur (w:=w) (by repeat (first|assumption|(with_reducible refine Fr.alloc ?_ _)|(with_reducible refine Fr.set ?_ hp Zq5 _)))),(Fr.gr (by repeat (first|assumption|(with_reducible refine Fr.alloc ?_ _)|(with_reducible refine Fr.set ?_ hp Zq5 _))))⟩
theorem yqu (w:World) (p:Nat) (hcur:ybt w p):Calls Tryz.prog 158 #[.pointer (some ⟨p,0,none⟩),.int .i64 3] w (DGn 3 w p):=by
 have hp:=hcur.lt
 go_enter Tryz.func158,Tryz.ntmps158
 go_wp2_with fail
 obtain ⟨w0,hw0⟩:∃ w0,w0=(w.alloc (.cells #[.int .i64 0,.int .i64 0,.int .i64 0,.int .i64 0] 102)).alloc (.cells #[.int .i64 0,.int .i64 8,.int .i64 11,.int .i64 12,.int .i64 12] 3):=⟨_,rfl⟩
 rw[←hw0]
 have x0:w0.heap[w.heap.size]?=some (.cells #[.int .i64 0,.int .i64 0,.int .i64 0,.int .i64 0] 102 (0,0)):=by rw[hw0];exact ydo _ _ _
 have hfr0:Fr w p w0:=by rw[hw0];exact((Fr.start hcur).alloc _).alloc _
 have s0:w.heap.size<w0.heap.size:=by rw[hw0];simp;omega
 clear hw0
 refine(ybu 12 11 w0 p hfr0.cur Zq6 Zq6 Zq6).mono ?_
 rintro e w1 ⟨x,hx0,hx1,rfl,hc1,hg1⟩
 have x1:=ybl x0 hg1 Zq6
 have hfr1:=hfr0.call hc1 hg1
 have s1:w.heap.size<w1.heap.size:=by have:=hg1.size;omega
 have X1:=hD x1
 clear x0 x1 hc1 hg1 hfr0
 go_wp2_with fail
 refine(yee 2 w1 p hfr1.cur Zq6 Zq6).mono ?_
 rintro e w2 ⟨b,rfl,hc2,hg2⟩
 have x2:=ybl X1.out hg2 Zq6
 have hfr2:=hfr1.call hc2 hg2
 have s2:w.heap.size<w2.heap.size:=by have:=hg2.size;omega
 have X2:=hD x2
 clear X1 x2 hc2 hg2 hfr1
 cases b
 ·by_cases hA:3<ar (1+x)
  ·go_wp2_with (go_at_call 135;refine(ybq _ _).mono ?_;rintro e w' ⟨rfl,rfl⟩)
   refine(ydr (4) 3 w2 p hfr2.cur Zq6 Zq6 (show ar 4≤3 by decide)).mono ?_
   rintro e w3 ⟨a,b,c,rfl,hc,hg⟩
   have x3:=ybl X2.out hg Zq6
   have hfr3:=hfr2.call hc hg
   have s3:w.heap.size<w3.heap.size:=by have:=hg.size;omega
   obtain ⟨q0,q1,q2,q3⟩:=yai (lay:=Below.refl _ _) x3
   have f0:=yab (j:=0) x3
   have f1:=yab (j:=1) x3
   have f2:=yab (j:=2) x3
   have f3:=yab (j:=3) x3
   clear X2 x3 hc hg hfr2
   go_wp2_with fail
   exact bodyPost_ret (v:=.agg #[.int .i64 (4),.int .i64 a,.int .i64 b,.int .i64 c]) (by simp [results,Tryz.results158,go_sem,q0,q1,q2,q3]) rfl ⟨_,_,_,_,⟨by omega,by omega,show ar 4≤3 by decide⟩,rfl,(Fr.cur (w:=w) (by repeat (first|assumption|(with_reducible refine Fr.alloc ?_ _)|(with_reducible refine Fr.set ?_ hp Zq5 _)))),(Fr.gr (by repeat (first|assumption|(with_reducible refine Fr.alloc ?_ _)|(with_reducible refine Fr.set ?_ hp Zq5 _))))⟩
  ·go_wp2_with (go_at_call 135;refine(ybq _ _).mono ?_;rintro e w' ⟨rfl,rfl⟩)
   refine(ydr (1+x) 3 w2 p hfr2.cur Zq6 Zq6 Zq6).mono ?_
   rintro e w3 ⟨a,b,c,rfl,hc,hg⟩
   have x3:=ybl X2.out hg Zq6
   have hfr3:=hfr2.call hc hg
   have s3:w.heap.size<w3.heap.size:=by have:=hg.size;omega
   obtain ⟨q0,q1,q2,q3⟩:=yai (lay:=Below.refl _ _) x3
   have f0:=yab (j:=0) x3
   have f1:=yab (j:=1) x3
   have f2:=yab (j:=2) x3
   have f3:=yab (j:=3) x3
   clear X2 x3 hc hg hfr2
   go_wp2_with fail
   exact bodyPost_ret (v:=.agg #[.int .i64 (1+x),.int .i64 a,.int .i64 b,.int .i64 c]) (by simp [results,Tryz.results158,go_sem,q0,q1,q2,q3]) rfl ⟨_,_,_,_,⟨by omega,by omega,by omega⟩,rfl,(Fr.cur (w:=w) (by repeat (first|assumption|(with_reducible refine Fr.alloc ?_ _)|(with_reducible refine Fr.set ?_ hp Zq5 _)))),(Fr.gr (by repeat (first|assumption|(with_reducible refine Fr.alloc ?_ _)|(with_reducible refine Fr.set ?_ hp Zq5 _))))⟩
 ·go_wp2_with fail
  obtain ⟨w3,hw3⟩:∃ w3,w3=w2.alloc (.cells #[.int .i64 4,.int .i64 7,.int .i64 5,.int .i64 8,.int .i64 9,.int .i64 9,.int .i64 9,.int .i64 9] 3):=⟨_,rfl⟩
  rw[←hw3]
  have x3:w3.heap[w.heap.size]?=some (.cells #[.int .i64 0,.int .i64 0,.int .i64 0,.int .i64 0] 102 (0,0)):=by rw[hw3];exact(Below.heap_alloc _ _ _ s2).trans X2.out
  have hfr3:Fr w p w3:=by rw[hw3];exact hfr2.alloc _
  have hpk:=yis (w:=w2) (L:=[4,7,5,8,9,9,9,9]) rfl
  have hr3:Rd w3 1 (some ⟨w2.heap.size,0,none⟩) 8 (([4,7,5,8,9,9,9,9]:List Int).map (Value.int .i64)):=by rw[hw3];exact hpk
  have s3:w.heap.size<w3.heap.size:=by rw[hw3];simp;omega
  clear hw3 hpk X2
  refine(yeg w2.heap.size 8 8 [4,7,5,8,9,9,9,9] w3 p hfr3.cur rfl Zq6 Zq6 hr3 Zq6).mono ?_
  rintro e w4 ⟨y,hy,rfl,hc4,hg4⟩
  have hyb:=yke hy
  clear hy
  have x4:=ybl x3 hg4 Zq6
  have hfr4:=hfr3.call hc4 hg4
  have s4:w.heap.size<w4.heap.size:=by have:=hg4.size;omega
  have X4:=hD x4
  clear x3 x4 hc4 hg4 hfr3 hr3
  by_cases hA:3<ar (y)
  ·go_wp2_with (go_at_call 135;refine(ybq _ _).mono ?_;rintro e w' ⟨rfl,rfl⟩)
   refine(ydr (4) 3 w4 p hfr4.cur Zq6 Zq6 (show ar 4≤3 by decide)).mono ?_
   rintro e w5 ⟨a,b,c,rfl,hc,hg⟩
   have x5:=ybl X4.out hg Zq6
   have hfr5:=hfr4.call hc hg
   have s5:w.heap.size<w5.heap.size:=by have:=hg.size;omega
   obtain ⟨q0,q1,q2,q3⟩:=yai (lay:=Below.refl _ _) x5
   have f0:=yab (j:=0) x5
   have f1:=yab (j:=1) x5
   have f2:=yab (j:=2) x5
   have f3:=yab (j:=3) x5
   clear X4 x5 hc hg hfr4
   go_wp2_with fail
   exact bodyPost_ret (v:=.agg #[.int .i64 (4),.int .i64 a,.int .i64 b,.int .i64 c]) (by simp [results,Tryz.results158,go_sem,q0,q1,q2,q3]) rfl ⟨_,_,_,_,⟨by omega,by omega,show ar 4≤3 by decide⟩,rfl,(Fr.cur (w:=w) (by repeat (first|assumption|(with_reducible refine Fr.alloc ?_ _)|(with_reducible refine Fr.set ?_ hp Zq5 _)))),(Fr.gr (by repeat (first|assumption|(with_reducible refine Fr.alloc ?_ _)|(with_reducible refine Fr.set ?_ hp Zq5 _))))⟩
  ·go_wp2_with (go_at_call 135;refine(ybq _ _).mono ?_;rintro e w' ⟨rfl,rfl⟩)
   refine(ydr (y) 3 w4 p hfr4.cur Zq6 Zq6 Zq6).mono ?_
   rintro e w5 ⟨a,b,c,rfl,hc,hg⟩
   have x5:=ybl X4.out hg Zq6
   have hfr5:=hfr4.call hc hg
   have s5:w.heap.size<w5.heap.size:=by have:=hg.size;omega
   obtain ⟨q0,q1,q2,q3⟩:=yai (lay:=Below.refl _ _) x5
   have f0:=yab (j:=0) x5
   have f1:=yab (j:=1) x5
   have f2:=yab (j:=2) x5
   have f3:=yab (j:=3) x5
   clear X4 x5 hc hg hfr4
   go_wp2_with fail
   exact bodyPost_ret (v:=.agg #[.int .i64 (y),.int .i64 a,.int .i64 b,.int .i64 c]) (by simp [results,Tryz.results158,go_sem,q0,q1,q2,q3]) rfl ⟨_,_,_,_,⟨by omega,by omega,by omega⟩,rfl,(Fr.cur (w:=w) (by repeat (first|assumption|(with_reducible refine Fr.alloc ?_ _)|(with_reducible refine Fr.set ?_ hp Zq5 _)))),(Fr.gr (by repeat (first|assumption|(with_reducible refine Fr.alloc ?_ _)|(with_reducible refine Fr.set ?_ hp Zq5 _))))⟩
theorem yqv (w:World) (p:Nat) (hcur:ybt w p):Calls Tryz.prog 158 #[.pointer (some ⟨p,0,none⟩),.int .i64 4] w (DGn 4 w p):=by
 have hp:=hcur.lt
 go_enter Tryz.func158,Tryz.ntmps158
 go_wp2_with fail
 obtain ⟨w0,hw0⟩:∃ w0,w0=(w.alloc (.cells #[.int .i64 0,.int .i64 0,.int .i64 0,.int .i64 0] 102)).alloc (.cells #[.int .i64 0,.int .i64 8,.int .i64 11,.int .i64 12,.int .i64 12] 3):=⟨_,rfl⟩
 rw[←hw0]
 have x0:w0.heap[w.heap.size]?=some (.cells #[.int .i64 0,.int .i64 0,.int .i64 0,.int .i64 0] 102 (0,0)):=by rw[hw0];exact ydo _ _ _
 have hfr0:Fr w p w0:=by rw[hw0];exact((Fr.start hcur).alloc _).alloc _
 have s0:w.heap.size<w0.heap.size:=by rw[hw0];simp;omega
 clear hw0
 refine(ybu 12 11 w0 p hfr0.cur Zq6 Zq6 Zq6).mono ?_
 rintro e w1 ⟨x,hx0,hx1,rfl,hc1,hg1⟩
 have x1:=ybl x0 hg1 Zq6
 have hfr1:=hfr0.call hc1 hg1
 have s1:w.heap.size<w1.heap.size:=by have:=hg1.size;omega
 have X1:=hD x1
 clear x0 x1 hc1 hg1 hfr0
 go_wp2_with fail
 refine(yee 2 w1 p hfr1.cur Zq6 Zq6).mono ?_
 rintro e w2 ⟨b,rfl,hc2,hg2⟩
 have x2:=ybl X1.out hg2 Zq6
 have hfr2:=hfr1.call hc2 hg2
 have s2:w.heap.size<w2.heap.size:=by have:=hg2.size;omega
 have X2:=hD x2
 clear X1 x2 hc2 hg2 hfr1
 cases b
 ·by_cases hA:4<ar (1+x)
  ·go_wp2_with (go_at_call 135;refine(ybq _ _).mono ?_;rintro e w' ⟨rfl,rfl⟩)
   refine(ydr (4) 4 w2 p hfr2.cur Zq6 Zq6 (show ar 4≤4 by decide)).mono ?_
   rintro e w3 ⟨a,b,c,rfl,hc,hg⟩
   have x3:=ybl X2.out hg Zq6
   have hfr3:=hfr2.call hc hg
   have s3:w.heap.size<w3.heap.size:=by have:=hg.size;omega
   obtain ⟨q0,q1,q2,q3⟩:=yai (lay:=Below.refl _ _) x3
   have f0:=yab (j:=0) x3
   have f1:=yab (j:=1) x3
   have f2:=yab (j:=2) x3
   have f3:=yab (j:=3) x3
   clear X2 x3 hc hg hfr2
   go_wp2_with fail
   exact bodyPost_ret (v:=.agg #[.int .i64 (4),.int .i64 a,.int .i64 b,.int .i64 c]) (by simp [results,Tryz.results158,go_sem,q0,q1,q2,q3]) rfl ⟨_,_,_,_,⟨by omega,by omega,show ar 4≤4 by decide⟩,rfl,(Fr.cur (w:=w) (by repeat (first|assumption|(with_reducible refine Fr.alloc ?_ _)|(with_reducible refine Fr.set ?_ hp Zq5 _)))),(Fr.gr (by repeat (first|assumption|(with_reducible refine Fr.alloc ?_ _)|(with_reducible refine Fr.set ?_ hp Zq5 _))))⟩
  ·go_wp2_with (go_at_call 135;refine(ybq _ _).mono ?_;rintro e w' ⟨rfl,rfl⟩)
   refine(ydr (1+x) 4 w2 p hfr2.cur Zq6 Zq6 Zq6).mono ?_
   rintro e w3 ⟨a,b,c,rfl,hc,hg⟩
   have x3:=ybl X2.out hg Zq6
   have hfr3:=hfr2.call hc hg
   have s3:w.heap.size<w3.heap.size:=by have:=hg.size;omega
   obtain ⟨q0,q1,q2,q3⟩:=yai (lay:=Below.refl _ _) x3
   have f0:=yab (j:=0) x3
   have f1:=yab (j:=1) x3
   have f2:=yab (j:=2) x3
   have f3:=yab (j:=3) x3
   clear X2 x3 hc hg hfr2
   go_wp2_with fail
   exact bodyPost_ret (v:=.agg #[.int .i64 (1+x),.int .i64 a,.int .i64 b,.int .i64 c]) (by simp [results,Tryz.results158,go_sem,q0,q1,q2,q3]) rfl ⟨_,_,_,_,⟨by omega,by omega,by omega⟩,rfl,(Fr.cur (w:=w) (by repeat (first|assumption|(with_reducible refine Fr.alloc ?_ _)|(with_reducible refine Fr.set ?_ hp Zq5 _)))),(Fr.gr (by repeat (first|assumption|(with_reducible refine Fr.alloc ?_ _)|(with_reducible refine Fr.set ?_ hp Zq5 _))))⟩
 ·go_wp2_with fail
  obtain ⟨w3,hw3⟩:∃ w3,w3=w2.alloc (.cells #[.int .i64 4,.int .i64 7,.int .i64 5,.int .i64 8,.int .i64 9,.int .i64 9,.int .i64 9,.int .i64 9] 3):=⟨_,rfl⟩
  rw[←hw3]
  have x3:w3.heap[w.heap.size]?=some (.cells #[.int .i64 0,.int .i64 0,.int .i64 0,.int .i64 0] 102 (0,0)):=by rw[hw3];exact(Below.heap_alloc _ _ _ s2).trans X2.out
  have hfr3:Fr w p w3:=by rw[hw3];exact hfr2.alloc _
  have hpk:=yis (w:=w2) (L:=[4,7,5,8,9,9,9,9]) rfl
  have hr3:Rd w3 1 (some ⟨w2.heap.size,0,none⟩) 8 (([4,7,5,8,9,9,9,9]:List Int).map (Value.int .i64)):=by rw[hw3];exact hpk
  have s3:w.heap.size<w3.heap.size:=by rw[hw3];simp;omega
  clear hw3 hpk X2
  refine(yeg w2.heap.size 8 8 [4,7,5,8,9,9,9,9] w3 p hfr3.cur rfl Zq6 Zq6 hr3 Zq6).mono ?_
  rintro e w4 ⟨y,hy,rfl,hc4,hg4⟩
  have hyb:=yke hy
  clear hy
  have x4:=ybl x3 hg4 Zq6
  have hfr4:=hfr3.call hc4 hg4
  have s4:w.heap.size<w4.heap.size:=by have:=hg4.size;omega
  have X4:=hD x4
  clear x3 x4 hc4 hg4 hfr3 hr3
  by_cases hA:4<ar (y)
  ·go_wp2_with (go_at_call 135;refine(ybq _ _).mono ?_;rintro e w' ⟨rfl,rfl⟩)
   refine(ydr (4) 4 w4 p hfr4.cur Zq6 Zq6 (show ar 4≤4 by decide)).mono ?_
   rintro e w5 ⟨a,b,c,rfl,hc,hg⟩
   have x5:=ybl X4.out hg Zq6
   have hfr5:=hfr4.call hc hg
   have s5:w.heap.size<w5.heap.size:=by have:=hg.size;omega
   obtain ⟨q0,q1,q2,q3⟩:=yai (lay:=Below.refl _ _) x5
   have f0:=yab (j:=0) x5
   have f1:=yab (j:=1) x5
   have f2:=yab (j:=2) x5
   have f3:=yab (j:=3) x5
   clear X4 x5 hc hg hfr4
   go_wp2_with fail
   exact bodyPost_ret (v:=.agg #[.int .i64 (4),.int .i64 a,.int .i64 b,.int .i64 c]) (by simp [results,Tryz.results158,go_sem,q0,q1,q2,q3]) rfl ⟨_,_,_,_,⟨by omega,by omega,show ar 4≤4 by decide⟩,rfl,(Fr.cur (w:=w) (by repeat (first|assumption|(with_reducible refine Fr.alloc ?_ _)|(with_reducible refine Fr.set ?_ hp Zq5 _)))),(Fr.gr (by repeat (first|assumption|(with_reducible refine Fr.alloc ?_ _)|(with_reducible refine Fr.set ?_ hp Zq5 _))))⟩
  ·go_wp2_with (go_at_call 135;refine(ybq _ _).mono ?_;rintro e w' ⟨rfl,rfl⟩)
   refine(ydr (y) 4 w4 p hfr4.cur Zq6 Zq6 Zq6).mono ?_
   rintro e w5 ⟨a,b,c,rfl,hc,hg⟩
   have x5:=ybl X4.out hg Zq6
   have hfr5:=hfr4.call hc hg
   have s5:w.heap.size<w5.heap.size:=by have:=hg.size;omega
   obtain ⟨q0,q1,q2,q3⟩:=yai (lay:=Below.refl _ _) x5
   have f0:=yab (j:=0) x5
   have f1:=yab (j:=1) x5
   have f2:=yab (j:=2) x5
   have f3:=yab (j:=3) x5
   clear X4 x5 hc hg hfr4
   go_wp2_with fail
   exact bodyPost_ret (v:=.agg #[.int .i64 (y),.int .i64 a,.int .i64 b,.int .i64 c]) (by simp [results,Tryz.results158,go_sem,q0,q1,q2,q3]) rfl ⟨_,_,_,_,⟨by omega,by omega,by omega⟩,rfl,(Fr.cur (w:=w) (by repeat (first|assumption|(with_reducible refine Fr.alloc ?_ _)|(with_reducible refine Fr.set ?_ hp Zq5 _)))),(Fr.gr (by repeat (first|assumption|(with_reducible refine Fr.alloc ?_ _)|(with_reducible refine Fr.set ?_ hp Zq5 _))))⟩
theorem ynt (n:Nat) (w:World) (p:Nat) (hcur:ybt w p) (h1:1≤n) (h4:n≤4):Calls Tryz.prog 158 #[.pointer (some ⟨p,0,none⟩),.int .i64 n] w (DGn n w p):=by
 have h:n=1∨n=2∨n=3∨n=4:=by omega
 rcases h with rfl|rfl|rfl|rfl
 ·exact yqs w p hcur
 ·exact yqt w p hcur
 ·exact yqu w p hcur
 ·exact yqv w p hcur
def imin (a b:Int):Int:=if a<b then a else b
theorem yqw (a b:Int) (w:World):Calls Tryz.prog 159 #[.int .i64 a,.int .i64 b] w fun e w'=>e=.returned (.int .i64 (imin a b))∧w=w':=by
 by_cases h:a<b
 ·rw[show imin a b=a from if_pos h]
  go_enter Tryz.func159,Tryz.ntmps159
  go_wp2
  go_ret
  exact ⟨rfl,rfl⟩
 ·rw[show imin a b=b from if_neg h]
  go_enter Tryz.func159,Tryz.ntmps159
  go_wp2
  go_ret
  exact ⟨rfl,rfl⟩
theorem yit {w:World} {L:List ByteArray} {b:Nat} (hb:b=w.heap.size):Rd (w.alloc (.cells (L.map Value.string).toArray 9)) 1 (some ⟨b,0,none⟩) L.length (L.map Value.string):=by
 have h:=yc4 (w:=w) (cs:=(L.map Value.string).toArray) (e:=9) (n:=L.length) (size:=1) hb Zq11
 simpa using h
def DSm (L:List ByteArray) (w:World) (p:Nat) (e:Ending) (w':World):Prop:=∃ x:ByteArray,x∈L∧e=.returned (.string x)∧ybt w' p∧w.grownBy w' (some p)
theorem ydc (b k c:Nat) (L:List ByteArray) (w:World) (p:Nat) (hcur:ybt w p) (hL:L.length=k) (hk:0<k) (hk2:k≤1000) (hr:Rd w 1 (some ⟨b,0,none⟩) k (L.map Value.string)) (hne:b≠p):Calls Tryz.prog 91 #[.pointer (some ⟨p,0,none⟩),.slice (some ⟨b,0,none⟩) k c] w (DSm L w p):=by
 have HL:=hD hL
 have HR:=hD hr
 clear hL hr
 go_enter Tryz.func91,Tryz.ntmps91
 go_wp2_with fail
 refine(ybu k (k - 1) w p hcur Zq6 Zq6 Zq6).mono ?_
 rintro e w1 ⟨x,hx0,hx1,rfl,hc1,hg1⟩
 obtain ⟨j,rfl⟩:∃ j:Nat,x=j:=⟨x.toNat,by omega⟩
 have hjk:j<k:=by omega
 obtain ⟨y,hy⟩:∃ y,L[j]?=some y:=⟨_,List.getElem?_eq_getElem (by rw[HL.out];exact hjk)⟩
 have hq:w1.cell? ⟨b,j,none⟩=some (.string y):=by
  obtain ⟨b',off,e,hl,hc⟩:=(yjh HR.out hg1 (fun _ ad e=>by cases e;exact hne)).2 hk
  injection e with e
  injection e with e1 e2
  subst e1 e2
  have:=hc j (.string y) (by simp [hy])
  simpa using this
 have HY:=hD (List.mem_of_getElem? hy)
 clear hy
 go_wp2_with fail
 go_ret
 exact ⟨y,HY.out,rfl,hc1,hg1⟩
theorem yeq {w:World} {base e size n g:Nat} {v:Value} {xs:List Value} {cs:Array Value} {t:TypeId} (h:w.ownsRow base e size v n xs) (hg:w.heap[g]?=some (.cells cs t (0,0))) (hne:e≠t):v.ownBlock≠some g:=by
 rcases h.2 with ⟨rfl,_⟩|⟨g',cap,cur,rfl,_,hh,_⟩
 ·simp [Value.ownBlock]
 ·intro he
  have e1:g'=g:=by simpa [Value.ownBlock] using he
  subst e1
  rw[hh] at hg
  injection hg with hg
  injection hg with _ ht
  exact hne ht
theorem yfx {w:World} {g:Nat} {o:Obj} {p:Addr} (h:w.heap[g]?=some o) (hp:g≠p.block) (u:Value):(w.setCell p u).heap[g]?=some o:=(Below.heap_setCell w p u g hp).trans h
theorem ya1 {w:World} {g i:Nat} {t:TypeId} {cs:Array Value} (h:w.heap[g]?=some (.cells cs t (0,0))) (u:Value):(w.setCell ⟨g,i,none⟩ u).heap[g]?=some (.cells (cs.setIfInBounds i u) t (0,0)):=by
 simp [World.setCell,Array.getElem?_modify,h]
theorem yc8 {w:World} {base e size n:Nat} {v:Value} {xs:List Value} (h:w.ownsRow base e size v n xs) {p:Addr} (hp:v.ownBlock≠some p.block) (u:Value):(w.setCell p u).ownsRow base e size v n xs:=by
 refine ⟨h.1,?_⟩
 rcases h.2 with hn|⟨g,cap,cur,rfl,hb,hh,rest⟩
 ·exact .inl hn
 ·exact .inr ⟨g,cap,cur,rfl,hb,yfx hh (fun e=>hp (by simp [Value.ownBlock,e])) u,rest⟩
theorem yqx {w:World} {base e size n:Nat} {v:Value} {xs:List Value} (h:w.ownsRow base e size v n xs):w.drew.ownsRow base e size v n xs:=h
theorem ydv {w1 w2:World} {B e size n p:Nat} {v:Value} {xs:List Value} (h:w1.ownsRow B e size v n xs) (hg:w1.grownBy w2 (some p)) (hp:p<B):w2.ownsRow B e size v n xs:=h.kept hg (by
 cases hk:v.ownBlock with
 | none=>exact .inl rfl
 | some k =>
  refine .inr fun e=>?_
  injection e with e
  have:=(h.lt k hk).1
  omega)
theorem yb9 {w w':World} {b:Nat} {x0 x1 x2 x3 x4:Value} {t:TypeId} (lay:Below w'.heap.size w' w) (h:w'.heap[b]?=some (.cells #[x0,x1,x2,x3,x4] t (0,0))) :
  w.cell? ⟨b,0,none⟩=some x0∧w.cell? ⟨b,1,none⟩=some x1∧w.cell? ⟨b,2,none⟩=some x2∧w.cell? ⟨b,3,none⟩=some x3∧w.cell? ⟨b,4,none⟩=some x4:=by
 have h':w.heap[b]?=some (.cells #[x0,x1,x2,x3,x4] t (0,0)):=(lay.block b (lt_of_block h)).trans h
 exact ⟨by simp [World.cell?,h'],by simp [World.cell?,h'],by simp [World.cell?,h'],by simp [World.cell?,h'],by simp [World.cell?,h']⟩
theorem yhj (a:ByteArray):∀ u∈[Value.string a],u.oneCell'=true:=by
 intro u hu
 rw[List.mem_singleton.1 hu]
 rfl
theorem yhk (l:List ByteArray) (a:ByteArray):strs (l++[a])=strs l++[.string a]:=by simp [strs]
theorem yif:∀ l:List ByteArray,∀ u∈strs l,u.oneCell'=true:=by
 intro l u hu
 obtain ⟨s,_,rfl⟩:=List.mem_map.1 hu
 rfl
theorem RdQ.set_ {w:World} {P:Nat→Prop} {size n:Nat} {A:Option Addr} {xs:List Value} (h:RdQ w P size A n xs) {p:Addr} (hp:¬ P p.block) (u:Value):RdQ (w.setCell p u) P size A n xs :=
 h.keep (fun b hb _=>Below.heap_setCell w p u b (fun e=>hp (e▸hb))) (by simp [World.setCell])
theorem RdQ.below {w w':World} {P:Nat→Prop} {size n:Nat} {A:Option Addr} {xs:List Value} (h:RdQ w P size A n xs) (hb:Below w.heap.size w w'):RdQ w' P size A n xs :=
 h.keep (fun b _ hlt=>hb.block b hlt) hb.size
theorem RdQ.call {w w':World} {P:Nat→Prop} {size n p:Nat} {A:Option Addr} {xs:List Value} (h:RdQ w P size A n xs) (hg:w.grownBy w' (some p)) (hp:¬ P p):RdQ w' P size A n xs :=
 h.keep (fun b hb hlt=>hg.block b hlt (fun e=>by injection e with e;exact hp (e▸hb))) hg.size
theorem TrQ.below {w w':World} {P:Nat→Prop} {d n:Nat} {A:Option Addr} {l:List (Tr d)} (h:TrQ w P d A n l) (hb:Below w.heap.size w w'):TrQ w' P d A n l :=
 h.keep (fun b _ hlt=>hb.block b hlt) hb.size
theorem TrQ.call {w w':World} {P:Nat→Prop} {d n p:Nat} {A:Option Addr} {l:List (Tr d)} (h:TrQ w P d A n l) (hg:w.grownBy w' (some p)) (hp:¬ P p):TrQ w' P d A n l :=
 h.keep (fun b hb hlt=>hg.block b hlt (fun e=>by injection e with e;exact hp (e▸hb))) hg.size
theorem yc5 {w:World} {P:Nat→Prop} {A:Option Addr}:∀ d:Nat,TrQ w P d A 0 []
 | 0=>⟨rfl,rfl⟩
 | _+1=>⟨rfl,fun h=>absurd h Zq6⟩
theorem ymt {w w':World} {p size n:Nat} {A:Option Addr} {xs:List Value} (h:Rd w size A n xs) (hg:w.grownBy w' (some p)) (hne:∀ ad,A=some ad→ad.block≠p):Rd w' size A n xs:=yjh h hg (fun _=>hne)
theorem yhl {w:World} {o ob:Obj} {n:Nat} (hn:n<w.heap.size) (h:w.heap[n]?=some ob):(w.alloc o).heap[n]?=some ob:=(Below.heap_alloc _ _ _ hn).trans h
theorem yji {w:World} {cs:Array Value} {e n size b:Nat} {P:Nat→Prop} (h0:b=w.heap.size) (hs:cs.size=n*size) (hP:P b):RdQ (w.alloc (.cells cs e)) P size (some ⟨b,0,none⟩) n cs.toList:=by
 have r:=yc4 (e:=e) h0 hs
 refine ⟨r.1,fun h=>?_⟩
 obtain ⟨b',off,e,hb,hc⟩:=r.2 h
 injection e with e
 injection e with e1 e2
 subst e1 e2
 exact ⟨b,0,rfl,hP,hb,hc⟩
theorem yez {P:Program} {c:Code} {Q:Exit→Act→World→Prop} {a:Act} {w:World} (h:∀ wz,wz=w→Code.wp P c Q a wz):Code.wp P c Q a w:=h w rfl
theorem yqy {w:World} {b:Nat} {t:TypeId} {z0 z1 z2 z3 z4 v0 v1 v2 v3 v4:Value} (h:w.heap[b]?=some (.cells #[z0,z1,z2,z3,z4] t (0,0))) :
  (((((w.setCell ⟨b,0,none⟩ v0).setCell ⟨b,1,none⟩ v1).setCell ⟨b,2,none⟩ v2).setCell ⟨b,3,none⟩ v3).setCell ⟨b,4,none⟩ v4).heap[b]?=some (.cells #[v0,v1,v2,v3,v4] t (0,0)) :=
 ya1 (ya1 (ya1 (ya1 (ya1 h v0) v1) v2) v3) v4
theorem ytx (m:Nat):∀ l:List ByteArray,(∀ s∈l,s.size≤m)→szS l≤l.length*m:=by
 intro l
 induction l with
 | nil=>intro _;exact Nat.zero_le _
 | cons s l ih =>
  intro h
  have h1:=h s Zq11
  have h2:=ih (fun x hx=>h x (by simp [hx]))
  rw[szS,List.length_cons,Nat.add_mul,Nat.one_mul]
  omega
theorem yo3 (k:Nat) (h:k≤12):(⟨(ydg k).toArray⟩:ByteArray).size≤4:=by
 have hk:k=0∨k=1∨k=2∨k=3∨k=4∨k=5∨k=6∨k=7∨k=8∨k=9∨k=10∨k=11∨k=12:=by omega
 rcases hk with rfl|rfl|rfl|rfl|rfl|rfl|rfl|rfl|rfl|rfl|rfl|rfl|rfl <;> decide
structure yd3 (w:World) (p:Nat) (A:Option Addr) (m:Nat) (N:List ByteArray):Prop where
 rd:Rd w 1 A m (strs N)
 len:N.length=m
 lo:1≤m
 hi:m≤4
 small:∀ s∈N,s.size≤9
 ne:∀ ad,A=some ad→ad.block≠p
theorem yd3.below {w w':World} {p m:Nat} {A:Option Addr} {N:List ByteArray} (h:yd3 w p A m N) (hb:Below w.heap.size w w'):yd3 w' p A m N:=⟨h.rd.below hb,h.len,h.lo,h.hi,h.small,h.ne⟩
theorem yd3.call {w w':World} {p m:Nat} {A:Option Addr} {N:List ByteArray} (h:yd3 w p A m N) (hg:w.grownBy w' (some p)):yd3 w' p A m N:=⟨ymt h.rd hg h.ne,h.len,h.lo,h.hi,h.small,h.ne⟩
theorem yd3.fr {w w':World} {p m:Nat} {A:Option Addr} {N:List ByteArray} (h:yd3 w p A m N) (hf:Fr w p w'):yd3 w' p A m N:=h.call hf.gr
theorem yd3.at_ {w:World} {p m t:Nat} {A:Option Addr} {N:List ByteArray} (h:yd3 w p A m N) (ht:t<m):∃ b off s,A=some ⟨b,off,none⟩∧b<w.heap.size∧w.cell? ⟨b,off+t,none⟩=some (.string s)∧s∈N∧s.size≤9:=by
 obtain ⟨s,hs⟩:∃ s,N[t]?=some s:=⟨_,List.getElem?_eq_getElem (by rw[h.len];exact ht)⟩
 obtain ⟨b,off,e,hb,hc⟩:=h.rd.2 Zq6
 have hm:=List.mem_of_getElem? hs
 exact ⟨b,off,s,e,hb,hc t _ (ybr hs),hm,h.small s hm⟩
def DGt (w:World) (p:Nat) (e:Ending) (w':World):Prop:=∃ (word:ByteArray) (args:List ByteArray) (Aa:Option Addr) (ca:Nat),e=.returned (.agg #[.int .i64 1,.string word,.slice Aa args.length ca,.int .i64 0,.slice none 0 0]) ∧
 RdQ w' (w.heap.size≤·) 1 Aa args.length (strs args)∧(args.length≤ca∧word.size≤4∧args.length≤3∧szS args≤27)∧ybt w' p∧w.grownBy w' (some p)
theorem ycb {B:Nat} {w w':World} (h:Below B w w'):Below B w w'.drew:=⟨h.os,h.tape,h.output,h.size,h.block⟩
theorem belE {w w1 w2:World} (f:Below w.heap.size w w1) (h:Below w1.heap.size w1 w2):Below w.heap.size w w2:=f.trans (h.mono f.size)
theorem yap {w:World} {o:Obj}:Below w.heap.size w (w.alloc o):=(Below.refl _ _).alloc (Nat.le_refl _) _
theorem yi9 {w w':World} {g n:Nat} {o:Obj} (f:w.heap[g]?=some o∧n≤g) (st:Below w.heap.size w w'):w'.heap[g]?=some o∧n≤g:=⟨(st.block _ (lt_of_block f.1)).trans f.1,f.2⟩
theorem ycm {w:World} {b:Nat} {x0 x1 x2 x3:Value} {t:TypeId} (h:w.heap[b]?=some (.cells #[x0,x1,x2,x3] t (0,0))):w.cell? ⟨b,0,none⟩=some x0∧w.cell? ⟨b,1,none⟩=some x1∧w.cell? ⟨b,2,none⟩=some x2∧w.cell? ⟨b,3,none⟩=some x3:=⟨yaj h rfl,yaj h rfl,yaj h rfl,yaj h rfl⟩
theorem yf4 {w:World} {b:Nat} {t:TypeId} {z0 z1 z2 z3 v0 v1 v2 v3:Value} (h:w.heap[b]?=some (.cells #[z0,z1,z2,z3] t (0,0))) :
  ((((w.setCell ⟨b,0,none⟩ v0).setCell ⟨b,1,none⟩ v1).setCell ⟨b,2,none⟩ v2).setCell ⟨b,3,none⟩ v3).heap[b]?=some (.cells #[v0,v1,v2,v3] t (0,0)) :=
 ya1 (ya1 (ya1 (ya1 h v0) v1) v2) v3
theorem yco {w:World} {b B:Nat} {v0 v1 v2 v3:Value} (h:B≤b):Below B w ((((w.setCell ⟨b,0,none⟩ v0).setCell ⟨b,1,none⟩ v1).setCell ⟨b,2,none⟩ v2).setCell ⟨b,3,none⟩ v3) :=
 ((((Below.refl B w).setCell h _).setCell h _).setCell h _).setCell h _
theorem yfl {w w':World} {b:Nat} {v0 v1 v2 v3:Value} (f:Below w.heap.size w w') (h:w.heap.size≤b):Below w.heap.size w ((((w'.setCell ⟨b,0,none⟩ v0).setCell ⟨b,1,none⟩ v1).setCell ⟨b,2,none⟩ v2).setCell ⟨b,3,none⟩ v3) :=
 f.trans (yco h)
theorem ynu (h:SH) (Aa:Option Addr) (ca:Nat) (Ab:Option Addr) (nb cb:Nat) (names:List ByteArray) (An:Option Addr) (nn cn:Nat) (w:World) (ra:Rd w 1 Aa h.args.length (strs h.args)) (rn:Rd w 1 An nn (strs names)) (hn:names.length=nn) (hnn:nn≤1048576) (h1:1≤h.args.length) (h3:h.args.length≤3) :
  Calls Tryz.prog 139 #[.agg #[.int .i64 h.k,.string h.word,.slice Aa h.args.length ca,.int .i64 h.count,.slice Ab nb cb],.slice An nn cn] w fun e w' =>
   e=.returned (.agg #[.int .i64 (gat (fS names) h).k,.int .i64 (gat (fS names) h).a,.int .i64 (gat (fS names) h).b,.int .i64 (gat (fS names) h).c])∧Below w.heap.size w w':=by
 obtain ⟨m,hm⟩:∃ m,h.args.length=m:=⟨_,rfl⟩
 obtain ⟨b,off,rfl,hbw,hc⟩:=ra.2 Zq6
 have ha0:=yc3 (h:=h) Zq6
 obtain ⟨a0,hA0⟩:∃ a0,a0=arg0 h:=⟨_,rfl⟩
 rw[←hA0] at ha0
 obtain ⟨x0,hx0⟩:∃ x0,x0=fS names a0:=⟨_,rfl⟩
 rw[hm] at h1 h3 ⊢
 obtain ⟨X,hX⟩:∃ X,X=w.heap.size:=⟨_,rfl⟩
 obtain ⟨w0,hw0⟩:∃ w0,w0=(w.alloc (.cells #[.int .i64 h.k,.string h.word,.slice (some ⟨b,off,none⟩) m ca,.int .i64 h.count,.slice Ab nb cb] 66)).alloc (.cells #[.int .i64 0,.int .i64 0,.int .i64 0,.int .i64 0] 102):=⟨_,rfl⟩
 have B0:=hD (show Below w.heap.size w w0 by rw[hw0];exact Zq0)
 have X0:=hD (show w0.heap[X]?=some (.cells #[.int .i64 h.k,.string h.word,.slice (some ⟨b,off,none⟩) m ca,.int .i64 h.count,.slice Ab nb cb] 66 (0,0)) by rw[hw0,hX];exact ydo _ _ _)
 have Y0:=hD (show w0.heap[X+1]?=some (.cells #[.int .i64 0,.int .i64 0,.int .i64 0,.int .i64 0] 102 (0,0)) by rw[hw0,hX];exact yem _ _ _)
 have hX0:=lt_of_block X0.out
 have hY0:=lt_of_block Y0.out
 have hb0:b<w0.heap.size:=Nat.lt_of_lt_of_le hbw B0.out.size
 have HC:=hD (fun j u (h:(strs h.args)[j]?=some u)=>(B0.out.cell (p:=⟨b,off+j,none⟩) hbw).trans (hc j u h))
 have c0:w0.cell? ⟨b,off,none⟩=some (.string a0):=HC.out 0 _ (by unfold strs;rw[List.getElem?_map,ha0];rfl)
 have RN:=hD (rn.below B0.out)
 have HNN:=hD hn
 have HM:=hD hm
 have HX0:=hD hx0
 have HA0:=hD hA0
 have HW0:=hD hw0
 have HX:=hD hX
 have hXw:w.heap.size≤X:=by omega
 have hbX:b<X:=by omega
 clear hm hn ra rn hc ha0 hA0 hx0 hw0 hX
 obtain ⟨_,k1,k2,_,_⟩:=yb9 (lay:=Below.refl _ _) X0.out
 go_enter Tryz.func139,Tryz.ntmps139
 go_upto_region 1 with (fail)
 rw[←HW0.out,←HX.out]
 obtain ⟨J0,hJ0⟩:∃ J:Array Value→Array Bool→Act→World→Prop,J=(fun A0 Lz a W=>∃ (g0:Nat),∃ x6 x7 x8 x9 x10 x11 x12 x13 x14 x15 x5:Value,a=⟨(((((((((((A0.setIfInBounds 6 x6).setIfInBounds 7 x7).setIfInBounds 8 x8).setIfInBounds 9 x9).setIfInBounds 10 x10).setIfInBounds 11 x11).setIfInBounds 12 x12).setIfInBounds 13 x13).setIfInBounds 14 x14).setIfInBounds 15 x15).setIfInBounds 5 x5),[]⟩∧(Ls Lz 0→x6=.pointer (some ⟨X,1,none⟩))∧(Ls Lz 1→x7=.string h.word)∧(Ls Lz 2→x8=.int .i64 (yao h.word))∧(Ls Lz 3→x9=.slice An nn cn)∧(Ls Lz 4→x10=.pointer (some ⟨X,2,none⟩))∧(Ls Lz 5→x11=.slice (some ⟨b,off,none⟩) m ca)∧(Ls Lz 6→x12=.pointer (some ⟨b,off,none⟩))∧(Ls Lz 7→x13=.string a0)∧(Ls Lz 8→x14=.int .i64 x0)∧(Ls Lz 9→x15=.agg #[.int .i64 (yao h.word),.int .i64 x0,.int .i64 0,.int .i64 0])∧(Ls Lz 10→x5=.pointer (some ⟨g0,0,none⟩))∧(Ls Lz 11→(x5=.pointer (some ⟨g0,0,none⟩)∧W.heap[g0]?=some (.cells #[.int .i64 (yao h.word),.int .i64 x0,.int .i64 0,.int .i64 0] 102 (0,0))∧w0.heap.size≤g0∧Below w0.heap.size w0 W))∧(Ls Lz 10→¬ Ls Lz 11→(W.heap[g0]?=some (.cells #[.int .i64 0,.int .i64 0,.int .i64 0,.int .i64 0] 102 (0,0))∧w0.heap.size≤g0))∧(¬ Ls Lz 11→Below w0.heap.size w0 W)∧(Ls Lz 11→¬ Ls Lz 11→True)):=⟨_,rfl⟩
 have HJ0:=hD hJ0
 clear hJ0
 refine ya3 Zq8 J0 ?_ ?_ ?_
 ·intro A0
  rw[HJ0.out]
  exact ⟨0,A0.getD 6 undef,A0.getD 7 undef,A0.getD 8 undef,A0.getD 9 undef,A0.getD 10 undef,A0.getD 11 undef,A0.getD 12 undef,A0.getD 13 undef,A0.getD 14 undef,A0.getD 15 undef,A0.getD 5 undef,by simp only[ybm],zn,zn,zn,zn,zn,zn,zn,zn,zn,zn,zn,zn,zn,fun _=>ycb (Below.refl _ _),zn⟩
 ·intro Lz a W hsize hcl hJ i hi
  have hil:=ybn hi
  have hnl:=ybi hi
  have hnow:=ybh hi hsize
  have HCL:=hD hcl
  rw[HJ0.out] at hJ
  obtain ⟨g0,x6,x7,x8,x9,x10,x11,x12,x13,x14,x15,x5,rfl,HF⟩:=hJ
  have HH:=hD HF
  have hi2:i=0∨i=1∨i=2∨i=3∨i=4∨i=5∨i=6∨i=7∨i=8∨i=9∨i=10∨i=11:=by simp at hil;omega
  clear hil hcl HF
  rcases hi2 with rfl|rfl|rfl|rfl|rfl|rfl|rfl|rfl|rfl|rfl|rfl|rfl
  ·clear hi HCL
   simp only[zA,zB,zC]
   refine yaa rfl rfl fun K hK=>?_
   go_wp2_with fail
   rw[HJ0.out]
   exact ⟨g0,.pointer (some ⟨X,1,none⟩),x7,x8,x9,x10,x11,x12,x13,x14,x15,x5,(by simp only[zA,zB,zC]),zT HH⟩
  ·have hns:¬ Ls Lz 11:=fun h=>hnl (dq HCL (dq HCL (dq HCL h 9) 2) 1)
   have D0:=(pj0 HH.out) (rq hi 0)
   have V0:=(pj13 HH.out) hns
   clear hi HCL
   simp only[zA,zB,zC,D0]
   have k0:=(V0.cell (p:=⟨X,1,none⟩) hX0).trans k1
   refine yaa rfl rfl fun K hK=>?_
   go_wp2_with fail
   rw[HJ0.out]
   exact ⟨g0,x6,.string h.word,x8,x9,x10,x11,x12,x13,x14,x15,x5,(by simp only[zA,zB,zC,D0]),zT HH⟩
  ·have hns:¬ Ls Lz 11:=fun h=>hnl (dq HCL (dq HCL h 9) 2)
   have D1:=(pj1 HH.out) (rq hi 1)
   have V0:=(pj13 HH.out) hns
   clear hi HCL
   simp only[zA,zB,zC,D1]
   refine yaa rfl rfl fun K hK=>?_
   go_wp2_with fail
   refine(yfw h.word W).mono ?_
   rintro e y ⟨rfl,hb,hs⟩
   go_wp2_with fail
   rw[HJ0.out]
   exact ⟨g0,x6,x7,.int .i64 (yao h.word),x9,x10,x11,x12,x13,x14,x15,x5,(by simp only[zA,zB,zC,D1]),zk HH,zk HH,fun _=>rfl,zk HH,zk HH,zk HH,zk HH,zk HH,zk HH,zk HH,zk HH,Ba hns,(Bt (pj12 HH.out) fun x=>yi9 x hb),fun h=>belE ((pj13 HH.out) (fun h2=>h h2.fwd)) hb,Bb hns⟩
  ·clear hi HCL
   simp only[zA,zB,zC]
   refine yaa rfl rfl fun K hK=>?_
   go_wp2_with fail
   rw[HJ0.out]
   exact ⟨g0,x6,x7,x8,.slice An nn cn,x10,x11,x12,x13,x14,x15,x5,(by simp only[zA,zB,zC]),zT HH⟩
  ·clear hi HCL
   simp only[zA,zB,zC]
   refine yaa rfl rfl fun K hK=>?_
   go_wp2_with fail
   rw[HJ0.out]
   exact ⟨g0,x6,x7,x8,x9,.pointer (some ⟨X,2,none⟩),x11,x12,x13,x14,x15,x5,(by simp only[zA,zB,zC]),zT HH⟩
  ·have hns:¬ Ls Lz 11:=fun h=>hnl (dq HCL (dq HCL (dq HCL (dq HCL (dq HCL h 9) 8) 7) 6) 5)
   have D4:=(pj4 HH.out) (rq hi 4)
   have V0:=(pj13 HH.out) hns
   clear hi HCL
   simp only[zA,zB,zC,D4]
   have k0:=(V0.cell (p:=⟨X,2,none⟩) hX0).trans k2
   refine yaa rfl rfl fun K hK=>?_
   go_wp2_with fail
   rw[HJ0.out]
   exact ⟨g0,x6,x7,x8,x9,x10,.slice (some ⟨b,off,none⟩) m ca,x12,x13,x14,x15,x5,(by simp only[zA,zB,zC,D4]),zT HH⟩
  ·have D5:=(pj5 HH.out) (rq hi 5)
   clear hi HCL
   simp only[zA,zB,zC,D5]
   refine yaa rfl rfl fun K hK=>?_
   go_wp2_with fail
   rw[HJ0.out]
   exact ⟨g0,x6,x7,x8,x9,x10,x11,.pointer (some ⟨b,off,none⟩),x13,x14,x15,x5,(by simp only[zA,zB,zC,D5]),zT HH⟩
  ·have hns:¬ Ls Lz 11:=fun h=>hnl (dq HCL (dq HCL (dq HCL h 9) 8) 7)
   have D6:=(pj6 HH.out) (rq hi 6)
   have V0:=(pj13 HH.out) hns
   clear hi HCL
   simp only[zA,zB,zC,D6]
   have q:=(V0.cell (p:=⟨b,off,none⟩) hb0).trans c0
   refine yaa rfl rfl fun K hK=>?_
   go_wp2_with fail
   rw[HJ0.out]
   exact ⟨g0,x6,x7,x8,x9,x10,x11,x12,.string a0,x14,x15,x5,(by simp only[zA,zB,zC,D6]),zT HH⟩
  ·have hns:¬ Ls Lz 11:=fun h=>hnl (dq HCL (dq HCL h 9) 8)
   have D3:=(pj3 HH.out) (rq hi 3)
   have D7:=(pj7 HH.out) (rq hi 7)
   have V0:=(pj13 HH.out) hns
   clear hi HCL
   simp only[zA,zB,zC,D3,D7]
   refine yaa rfl rfl fun K hK=>?_
   go_wp2_with fail
   refine(yep An nn cn names a0 W (RN.out.below V0) HNN.out Zq6).mono ?_
   rintro e y ⟨rfl,rfl⟩
   rw[←HX0.out]
   go_wp2_with fail
   rw[HJ0.out]
   exact ⟨g0,x6,x7,x8,x9,x10,x11,x12,x13,.int .i64 x0,x15,x5,(by simp only[zA,zB,zC,D3,D7]),zT HH⟩
  ·have D2:=(pj2 HH.out) (rq hi 2)
   have D8:=(pj8 HH.out) (rq hi 8)
   clear hi HCL
   simp only[zA,zB,zC,D2,D8]
   refine yaa rfl rfl fun K hK=>?_
   go_wp2_with fail
   rw[HJ0.out]
   exact ⟨g0,x6,x7,x8,x9,x10,x11,x12,x13,x14,.agg #[.int .i64 (yao h.word),.int .i64 x0,.int .i64 0,.int .i64 0],x5,(by simp only[zA,zB,zC,D2,D8]),zT HH⟩
  ·have hns:¬ Ls Lz 11:=fun h=>hnl (dq HCL h 10)
   have V0:=(pj13 HH.out) hns
   clear hi HCL
   simp only[zA,zB,zC]
   refine yaa rfl rfl fun K hK=>?_
   go_wp2_with fail
   rw[HJ0.out]
   exact ⟨W.heap.size,x6,x7,x8,x9,x10,x11,x12,x13,x14,x15,.pointer (some ⟨W.heap.size,0,none⟩),(by simp only[zA,zB,zC]),zk HH,zk HH,zk HH,zk HH,zk HH,zk HH,zk HH,zk HH,zk HH,zk HH,fun _=>rfl,Ba hns,fun _ _=>⟨heap_alloc_new W _,V0.size⟩,fun h=>belE ((pj13 HH.out) (fun h2=>h h2.fwd)) yap,Bb hns⟩
  ·have hns:¬ Ls Lz 11:=hnl
   have D9:=(pj9 HH.out) (rq hi 9)
   have D10:=(pj10 HH.out) (rq hi 10)
   have E10:=(pj12 HH.out) (rq hi 10) hns
   have V0:=(pj13 HH.out) hns
   clear hi HCL
   simp only[zA,zB,zC,D9,D10]
   have z0:=yaj (j:=0) E10.1 rfl
   have z1:=yaj (j:=1) E10.1 rfl
   have z2:=yaj (j:=2) E10.1 rfl
   have z3:=yaj (j:=3) E10.1 rfl
   have f0:=yab (j:=0) E10.1
   have f1:=yab (j:=1) E10.1
   have f2:=yab (j:=2) E10.1
   have f3:=yab (j:=3) E10.1
   have lg:=lt_of_block E10.1
   have HE:=hD E10
   clear E10
   refine yaa rfl rfl fun K hK=>?_
   go_wp2_with fail
   rw[HJ0.out]
   exact ⟨g0,x6,x7,x8,x9,x10,x11,x12,x13,x14,x15,x5,(by first|(simp only[zA,zB,zC,D9,D10] <;> fail)|simp only[Act.put,zA,zB,zC,D9,D10]),zk HH,zk HH,zk HH,zk HH,zk HH,zk HH,zk HH,zk HH,zk HH,zk HH,zk HH,fun _=>⟨D10,yf4 HE.out.1,HE.out.2,yfl V0 HE.out.2⟩,zx hnow,zy hnow,zx hnow⟩
 ·intro Lz a W hsize hJ hr
  rw[HJ0.out] at hJ
  have hall:=ybj hsize Zq8 hr
  obtain ⟨g0,x6,x7,x8,x9,x10,x11,x12,x13,x14,x15,x5,rfl,HF⟩:=hJ
  have HH:=hD HF
  have HEND:=(pj11 HH.out) (hall 11 Zq9)
  clear HF HH hall hr hsize
  simp only[zA,zB,zC]
  obtain ⟨rfl,hg,hg0,hbF⟩:=HEND
  obtain ⟨w1,rfl⟩:∃ w1:World,w1=W:=⟨_,rfl⟩
  have hs1:=hbF.size
  have hgn:g0≠X∧g0≠X+1∧g0≠b:=by omega
  have BB:=hD hbF
  have GG:=hD hg
  have XX:=hD ((hbF.block X Zq6).trans X0.out)
  have YY:=hD ((hbF.block (X+1) Zq6).trans Y0.out)
  have CC:=hD (fun j u (h:(strs h.args)[j]?=some u)=>(hbF.cell (p:=⟨b,off+j,none⟩) hb0).trans (HC.out j u h))
  have RN1:=hD (RN.out.below hbF)
  clear hg hbF
  have cells:∀ (W:World) (b0 c0:Int),W.heap[g0]?=some (.cells #[.int .i64 (yao h.word),.int .i64 x0,.int .i64 b0,.int .i64 c0] 102 (0,0))→W.cell? ⟨g0,0,none⟩=some (.int .i64 (yao h.word))∧W.cell? ⟨g0,1,none⟩=some (.int .i64 x0)∧W.cell? ⟨g0,2,none⟩=some (.int .i64 b0)∧W.cell? ⟨g0,3,none⟩=some (.int .i64 c0):=fun W b0 c0 h=>⟨yaj h rfl,yaj h rfl,yaj h rfl,yaj h rfl⟩
  have BBw1:=BB
  have GGw1:=GG
  have XXw1:=XX
  have YYw1:=YY
  have CCw1:=CC
  have RNw1:=RN1
  clear BB GG XX YY CC RN1
  have hm3:m=1∨m=2∨m=3:=by omega
  rcases hm3 with rfl|rfl|rfl
  ·have HG:Hid (gat (fS names) h=⟨yao h.word,x0,0,0⟩):=by
    show _=_
    unfold gat
    rw[HM.out,HX0.out,HA0.out]
    rfl
   obtain ⟨p0,p1,p2,p3,p4⟩:=yb9 (lay:=Below.refl _ _) XXw1.out
   obtain ⟨g1,g2,g3,g4⟩:=cells w1 _ _ GGw1.out
   obtain ⟨r0,r1,r2,r3⟩:=ycm YYw1.out
   have f0:=yab (j:=0) YYw1.out
   have f1:=yab (j:=1) YYw1.out
   have f2:=yab (j:=2) YYw1.out
   have f3:=yab (j:=3) YYw1.out
   have lX:=lt_of_block XXw1.out
   have lY:=lt_of_block YYw1.out
   have lG:=lt_of_block GGw1.out
   clear cells
   go_wp2_with fail
   refine bodyPost_ret (v:=.agg #[.int .i64 (yao h.word),.int .i64 x0,.int .i64 0,.int .i64 0]) (by simp [results,Tryz.results139,go_sem,r0,r1,r2,r3]) rfl ⟨by rw[HG.out],?_⟩
   exact(B0.out.trans (BBw1.out.mono Zq6)).trans (yco Zq6)
  ·obtain ⟨a1,ha1⟩:∃ a,h.args[1]?=some a:=⟨_,List.getElem?_eq_getElem (by have:=HM.out;omega)⟩
   have HG1:=hD ha1
   obtain ⟨x1,hx1⟩:∃ x,x=fS names a1:=⟨_,rfl⟩
   have HX1:=hD hx1
   clear ha1 hx1
   have HB1:Hid (arg1 h=a1):=by
    show _=_
    unfold arg1
    rw[List.getD_eq_getElem?_getD,HG1.out]
    rfl
   have HG:Hid (gat (fS names) h=⟨yao h.word,x0,x1,0⟩):=by
    show _=_
    unfold gat
    rw[HM.out,HX0.out,HA0.out,HB1.out,HX1.out]
    rfl
   obtain ⟨p0,p1,p2,p3,p4⟩:=yb9 (lay:=Below.refl _ _) XXw1.out
   obtain ⟨g1,g2,g3,g4⟩:=cells w1 _ _ GGw1.out
   have f2:=yab (j:=2) GGw1.out
   have lX:=lt_of_block XXw1.out
   have lG:=lt_of_block GGw1.out
   have cj:w1.cell? ⟨b,off+1,none⟩=some (.string a1):=CCw1.out 1 _ (by unfold strs;rw[List.getElem?_map,HG1.out];rfl)
   go_upto_region 4 with (go_at_call 143;refine(yep An nn cn names a1 w1 RNw1.out HNN.out Zq6).mono ?_;rintro e y ⟨rfl,rfl⟩;rw[←HX1.out])
   refine yez (fun w2 hwn=>?_)
   have GGw2:=hD (show w2.heap[g0]?=some (.cells #[.int .i64 (yao h.word),.int .i64 x0,.int .i64 x1,.int .i64 0] 102 (0,0)) by rw[hwn];exact ya1 GGw1.out _)
   have bn:Below w0.heap.size w1 w2:=by rw[hwn];exact(Below.refl _ _).setCell hg0 _
   have BBw2:=hD (BBw1.out.trans bn)
   have XXw2:=hD ((BBw2.out.block X Zq6).trans X0.out)
   have YYw2:=hD ((BBw2.out.block (X+1) Zq6).trans Y0.out)
   have CCw2:=hD (fun j u (h:(strs h.args)[j]?=some u)=>(BBw2.out.cell (p:=⟨b,off+j,none⟩) hb0).trans (HC.out j u h))
   have RNw2:=hD (RN.out.below BBw2.out)
   clear hwn bn p0 p1 p2 p3 p4 g1 g2 g3 g4 f2 lX lG cj
   obtain ⟨p0,p1,p2,p3,p4⟩:=yb9 (lay:=Below.refl _ _) XXw2.out
   obtain ⟨g1,g2,g3,g4⟩:=cells w2 _ _ GGw2.out
   obtain ⟨r0,r1,r2,r3⟩:=ycm YYw2.out
   have f0:=yab (j:=0) YYw2.out
   have f1:=yab (j:=1) YYw2.out
   have f2:=yab (j:=2) YYw2.out
   have f3:=yab (j:=3) YYw2.out
   have lX:=lt_of_block XXw2.out
   have lY:=lt_of_block YYw2.out
   have lG:=lt_of_block GGw2.out
   clear cells
   go_wp2_with fail
   refine bodyPost_ret (v:=.agg #[.int .i64 (yao h.word),.int .i64 x0,.int .i64 x1,.int .i64 0]) (by simp [results,Tryz.results139,go_sem,r0,r1,r2,r3]) rfl ⟨by rw[HG.out],?_⟩
   exact(B0.out.trans (BBw2.out.mono Zq6)).trans (yco Zq6)
  ·obtain ⟨a1,ha1⟩:∃ a,h.args[1]?=some a:=⟨_,List.getElem?_eq_getElem (by have:=HM.out;omega)⟩
   have HG1:=hD ha1
   obtain ⟨x1,hx1⟩:∃ x,x=fS names a1:=⟨_,rfl⟩
   have HX1:=hD hx1
   clear ha1 hx1
   obtain ⟨a2,ha2⟩:∃ a,h.args[2]?=some a:=⟨_,List.getElem?_eq_getElem (by have:=HM.out;omega)⟩
   have HG2:=hD ha2
   obtain ⟨x2,hx2⟩:∃ x,x=fS names a2:=⟨_,rfl⟩
   have HX2:=hD hx2
   clear ha2 hx2
   have HB1:Hid (arg1 h=a1):=by
    show _=_
    unfold arg1
    rw[List.getD_eq_getElem?_getD,HG1.out]
    rfl
   have HB2:Hid (h.args.getD 2 ⟨#[]⟩=a2):=by
    show _=_
    rw[List.getD_eq_getElem?_getD,HG2.out]
    rfl
   have HG:Hid (gat (fS names) h=⟨yao h.word,x0,x1,x2⟩):=by
    show _=_
    unfold gat
    rw[HM.out,HX0.out,HA0.out,HB1.out,HX1.out,HB2.out,HX2.out]
    rfl
   obtain ⟨p0,p1,p2,p3,p4⟩:=yb9 (lay:=Below.refl _ _) XXw1.out
   obtain ⟨g1,g2,g3,g4⟩:=cells w1 _ _ GGw1.out
   have f2:=yab (j:=2) GGw1.out
   have lX:=lt_of_block XXw1.out
   have lG:=lt_of_block GGw1.out
   have cj:w1.cell? ⟨b,off+1,none⟩=some (.string a1):=CCw1.out 1 _ (by unfold strs;rw[List.getElem?_map,HG1.out];rfl)
   go_upto_region 4 with (go_at_call 143;refine(yep An nn cn names a1 w1 RNw1.out HNN.out Zq6).mono ?_;rintro e y ⟨rfl,rfl⟩;rw[←HX1.out])
   refine yez (fun w2 hwn=>?_)
   have GGw2:=hD (show w2.heap[g0]?=some (.cells #[.int .i64 (yao h.word),.int .i64 x0,.int .i64 x1,.int .i64 0] 102 (0,0)) by rw[hwn];exact ya1 GGw1.out _)
   have bn:Below w0.heap.size w1 w2:=by rw[hwn];exact(Below.refl _ _).setCell hg0 _
   have BBw2:=hD (BBw1.out.trans bn)
   have XXw2:=hD ((BBw2.out.block X Zq6).trans X0.out)
   have YYw2:=hD ((BBw2.out.block (X+1) Zq6).trans Y0.out)
   have CCw2:=hD (fun j u (h:(strs h.args)[j]?=some u)=>(BBw2.out.cell (p:=⟨b,off+j,none⟩) hb0).trans (HC.out j u h))
   have RNw2:=hD (RN.out.below BBw2.out)
   clear hwn bn p0 p1 p2 p3 p4 g1 g2 g3 g4 f2 lX lG cj
   obtain ⟨p0,p1,p2,p3,p4⟩:=yb9 (lay:=Below.refl _ _) XXw2.out
   obtain ⟨g1,g2,g3,g4⟩:=cells w2 _ _ GGw2.out
   have f3:=yab (j:=3) GGw2.out
   have lX:=lt_of_block XXw2.out
   have lG:=lt_of_block GGw2.out
   have cj:w2.cell? ⟨b,off+2,none⟩=some (.string a2):=CCw2.out 2 _ (by unfold strs;rw[List.getElem?_map,HG2.out];rfl)
   go_upto_region 6 with (go_at_call 143;refine(yep An nn cn names a2 w2 RNw2.out HNN.out Zq6).mono ?_;rintro e y ⟨rfl,rfl⟩;rw[←HX2.out])
   refine yez (fun w3 hwn=>?_)
   have GGw3:=hD (show w3.heap[g0]?=some (.cells #[.int .i64 (yao h.word),.int .i64 x0,.int .i64 x1,.int .i64 x2] 102 (0,0)) by rw[hwn];exact ya1 GGw2.out _)
   have bn:Below w0.heap.size w2 w3:=by rw[hwn];exact(Below.refl _ _).setCell hg0 _
   have BBw3:=hD (BBw2.out.trans bn)
   have XXw3:=hD ((BBw3.out.block X Zq6).trans X0.out)
   have YYw3:=hD ((BBw3.out.block (X+1) Zq6).trans Y0.out)
   have CCw3:=hD (fun j u (h:(strs h.args)[j]?=some u)=>(BBw3.out.cell (p:=⟨b,off+j,none⟩) hb0).trans (HC.out j u h))
   have RNw3:=hD (RN.out.below BBw3.out)
   clear hwn bn p0 p1 p2 p3 p4 g1 g2 g3 g4 f3 lX lG cj
   obtain ⟨p0,p1,p2,p3,p4⟩:=yb9 (lay:=Below.refl _ _) XXw3.out
   obtain ⟨g1,g2,g3,g4⟩:=cells w3 _ _ GGw3.out
   obtain ⟨r0,r1,r2,r3⟩:=ycm YYw3.out
   have f0:=yab (j:=0) YYw3.out
   have f1:=yab (j:=1) YYw3.out
   have f2:=yab (j:=2) YYw3.out
   have f3:=yab (j:=3) YYw3.out
   have lX:=lt_of_block XXw3.out
   have lY:=lt_of_block YYw3.out
   have lG:=lt_of_block GGw3.out
   clear cells
   go_wp2_with fail
   refine bodyPost_ret (v:=.agg #[.int .i64 (yao h.word),.int .i64 x0,.int .i64 x1,.int .i64 x2]) (by simp [results,Tryz.results139,go_sem,r0,r1,r2,r3]) rfl ⟨by rw[HG.out],?_⟩
   exact(B0.out.trans (BBw3.out.mono Zq6)).trans (yco Zq6)
def dig (x:Int):ByteArray:=⟨#[48+x.toNat.toUInt8]⟩
theorem ys8 {x:Int} (h0:0≤x) (h1:x≤9):x=0∨x=1∨x=2∨x=3∨x=4∨x=5∨x=6∨x=7∨x=8∨x=9:=by omega
theorem yef (W:World) (b:UInt8):(convert 22 9 (.slice (some ⟨W.heap.size,0,none⟩) 1 1)).run Tryz.prog (W.alloc (.cells #[.int .u8 (b.toNat:Int)] 5))=.ok (.string ⟨#[b]⟩) (W.alloc (.cells #[.int .u8 (b.toNat:Int)] 5)):=by
 refine run_convert_bytes_back _ _ _ 5 ⟨W.heap.size,0,none⟩ 1 [b] Tryz.underlying22 Tryz.underlying5 Tryz.underlying9 (fun j hj=>?_)
 obtain rfl:j=0:=by simpa using hj
 exact World.cell?_alloc_mark W _ _ _ 0
theorem yjj (w:World):Calls Tryz.prog 124 #[.int .i64 0] w fun e w'=>e=.returned (.string (dig 0))∧Below w.heap.size w w'∧w.heap.size≤w'.heap.size:=by
 go_enter Tryz.func124,Tryz.ntmps124
 go_wp2
 go_ret
 exact ⟨rfl,Zq0,Zq5⟩
theorem yjk (w:World):Calls Tryz.prog 124 #[.int .i64 1] w fun e w'=>e=.returned (.string (dig 1))∧Below w.heap.size w w'∧w.heap.size≤w'.heap.size:=by
 have kc:∀ W:World,(convert 22 9 (.slice (some ⟨W.heap.size,0,none⟩) 1 1)).run Tryz.prog (W.alloc (.cells #[.int .u8 49] 5))=.ok (.string ⟨#[49]⟩) (W.alloc (.cells #[.int .u8 49] 5)):=fun W=>yef W 49
 go_enter Tryz.func124,Tryz.ntmps124
 go_wp2
 refine wp_loop_rounds 2 ?_
 rw[rounds_succ]
 go_wp2
 rw[rounds_succ]
 go_wp2
 go_ret
 exact ⟨rfl,Zq0,Zq5⟩
theorem yjl (w:World):Calls Tryz.prog 124 #[.int .i64 2] w fun e w'=>e=.returned (.string (dig 2))∧Below w.heap.size w w'∧w.heap.size≤w'.heap.size:=by
 have kc:∀ W:World,(convert 22 9 (.slice (some ⟨W.heap.size,0,none⟩) 1 1)).run Tryz.prog (W.alloc (.cells #[.int .u8 50] 5))=.ok (.string ⟨#[50]⟩) (W.alloc (.cells #[.int .u8 50] 5)):=fun W=>yef W 50
 go_enter Tryz.func124,Tryz.ntmps124
 go_wp2
 refine wp_loop_rounds 2 ?_
 rw[rounds_succ]
 go_wp2
 rw[rounds_succ]
 go_wp2
 go_ret
 exact ⟨rfl,Zq0,Zq5⟩
theorem yjm (w:World):Calls Tryz.prog 124 #[.int .i64 3] w fun e w'=>e=.returned (.string (dig 3))∧Below w.heap.size w w'∧w.heap.size≤w'.heap.size:=by
 have kc:∀ W:World,(convert 22 9 (.slice (some ⟨W.heap.size,0,none⟩) 1 1)).run Tryz.prog (W.alloc (.cells #[.int .u8 51] 5))=.ok (.string ⟨#[51]⟩) (W.alloc (.cells #[.int .u8 51] 5)):=fun W=>yef W 51
 go_enter Tryz.func124,Tryz.ntmps124
 go_wp2
 refine wp_loop_rounds 2 ?_
 rw[rounds_succ]
 go_wp2
 rw[rounds_succ]
 go_wp2
 go_ret
 exact ⟨rfl,Zq0,Zq5⟩
theorem yjn (w:World):Calls Tryz.prog 124 #[.int .i64 4] w fun e w'=>e=.returned (.string (dig 4))∧Below w.heap.size w w'∧w.heap.size≤w'.heap.size:=by
 have kc:∀ W:World,(convert 22 9 (.slice (some ⟨W.heap.size,0,none⟩) 1 1)).run Tryz.prog (W.alloc (.cells #[.int .u8 52] 5))=.ok (.string ⟨#[52]⟩) (W.alloc (.cells #[.int .u8 52] 5)):=fun W=>yef W 52
 go_enter Tryz.func124,Tryz.ntmps124
 go_wp2
 refine wp_loop_rounds 2 ?_
 rw[rounds_succ]
 go_wp2
 rw[rounds_succ]
 go_wp2
 go_ret
 exact ⟨rfl,Zq0,Zq5⟩
theorem yjo (w:World):Calls Tryz.prog 124 #[.int .i64 5] w fun e w'=>e=.returned (.string (dig 5))∧Below w.heap.size w w'∧w.heap.size≤w'.heap.size:=by
 have kc:∀ W:World,(convert 22 9 (.slice (some ⟨W.heap.size,0,none⟩) 1 1)).run Tryz.prog (W.alloc (.cells #[.int .u8 53] 5))=.ok (.string ⟨#[53]⟩) (W.alloc (.cells #[.int .u8 53] 5)):=fun W=>yef W 53
 go_enter Tryz.func124,Tryz.ntmps124
 go_wp2
 refine wp_loop_rounds 2 ?_
 rw[rounds_succ]
 go_wp2
 rw[rounds_succ]
 go_wp2
 go_ret
 exact ⟨rfl,Zq0,Zq5⟩
theorem yjp (w:World):Calls Tryz.prog 124 #[.int .i64 6] w fun e w'=>e=.returned (.string (dig 6))∧Below w.heap.size w w'∧w.heap.size≤w'.heap.size:=by
 have kc:∀ W:World,(convert 22 9 (.slice (some ⟨W.heap.size,0,none⟩) 1 1)).run Tryz.prog (W.alloc (.cells #[.int .u8 54] 5))=.ok (.string ⟨#[54]⟩) (W.alloc (.cells #[.int .u8 54] 5)):=fun W=>yef W 54
 go_enter Tryz.func124,Tryz.ntmps124
 go_wp2
 refine wp_loop_rounds 2 ?_
 rw[rounds_succ]
 go_wp2
 rw[rounds_succ]
 go_wp2
 go_ret
 exact ⟨rfl,Zq0,Zq5⟩
theorem yjq (w:World):Calls Tryz.prog 124 #[.int .i64 7] w fun e w'=>e=.returned (.string (dig 7))∧Below w.heap.size w w'∧w.heap.size≤w'.heap.size:=by
 have kc:∀ W:World,(convert 22 9 (.slice (some ⟨W.heap.size,0,none⟩) 1 1)).run Tryz.prog (W.alloc (.cells #[.int .u8 55] 5))=.ok (.string ⟨#[55]⟩) (W.alloc (.cells #[.int .u8 55] 5)):=fun W=>yef W 55
 go_enter Tryz.func124,Tryz.ntmps124
 go_wp2
 refine wp_loop_rounds 2 ?_
 rw[rounds_succ]
 go_wp2
 rw[rounds_succ]
 go_wp2
 go_ret
 exact ⟨rfl,Zq0,Zq5⟩
theorem yjr (w:World):Calls Tryz.prog 124 #[.int .i64 8] w fun e w'=>e=.returned (.string (dig 8))∧Below w.heap.size w w'∧w.heap.size≤w'.heap.size:=by
 have kc:∀ W:World,(convert 22 9 (.slice (some ⟨W.heap.size,0,none⟩) 1 1)).run Tryz.prog (W.alloc (.cells #[.int .u8 56] 5))=.ok (.string ⟨#[56]⟩) (W.alloc (.cells #[.int .u8 56] 5)):=fun W=>yef W 56
 go_enter Tryz.func124,Tryz.ntmps124
 go_wp2
 refine wp_loop_rounds 2 ?_
 rw[rounds_succ]
 go_wp2
 rw[rounds_succ]
 go_wp2
 go_ret
 exact ⟨rfl,Zq0,Zq5⟩
theorem yjs (w:World):Calls Tryz.prog 124 #[.int .i64 9] w fun e w'=>e=.returned (.string (dig 9))∧Below w.heap.size w w'∧w.heap.size≤w'.heap.size:=by
 have kc:∀ W:World,(convert 22 9 (.slice (some ⟨W.heap.size,0,none⟩) 1 1)).run Tryz.prog (W.alloc (.cells #[.int .u8 57] 5))=.ok (.string ⟨#[57]⟩) (W.alloc (.cells #[.int .u8 57] 5)):=fun W=>yef W 57
 go_enter Tryz.func124,Tryz.ntmps124
 go_wp2
 refine wp_loop_rounds 2 ?_
 rw[rounds_succ]
 go_wp2
 rw[rounds_succ]
 go_wp2
 go_ret
 exact ⟨rfl,Zq0,Zq5⟩
theorem ykf (x:Int) (h0:0≤x) (h1:x≤9) (w:World):Calls Tryz.prog 124 #[.int .i64 x] w fun e w'=>e=.returned (.string (dig x))∧Below w.heap.size w w'∧w.heap.size≤w'.heap.size:=by
 rcases ys8 h0 h1 with rfl|rfl|rfl|rfl|rfl|rfl|rfl|rfl|rfl|rfl
 ·exact yjj w
 ·exact yjk w
 ·exact yjl w
 ·exact yjm w
 ·exact yjn w
 ·exact yjo w
 ·exact yjp w
 ·exact yjq w
 ·exact yjr w
 ·exact yjs w
theorem Zq13 {p:Prop} (h:p:=by simp only[maxLen];omega):p:=h
theorem yew (A:Option Addr) (m c:Nat) (N:List ByteArray) (w:World) (p:Nat) (hcur:ybt w p) (hN:yd3 w p A m N):Calls Tryz.prog 127 #[.pointer (some ⟨p,0,none⟩),.slice A m c] w (DGt w p):=by
 obtain ⟨i0,hi,hz0,hz1,hz2⟩:=info_parts ydh
 have hp:=hcur.lt
 have h1:=hN.lo
 have h4:=hN.hi
 have HN:=hD hN
 clear hN
 go_enter Tryz.func127,Tryz.ntmps127
 go_wp2_with fail
 obtain ⟨w0,hw0⟩:∃ w0,w0=w.alloc (.cells #[.int .i64 0,.string ⟨#[]⟩,.slice none 0 0,.int .i64 0,.slice none 0 0] 66):=⟨_,rfl⟩
 rw[←hw0]
 have x0:w0.heap[w.heap.size]?=some (.cells #[.int .i64 0,.string ⟨#[]⟩,.slice none 0 0,.int .i64 0,.slice none 0 0] 66 (0,0)):=by rw[hw0];exact yac _ _
 have hfr0:Fr w p w0:=by rw[hw0];exact(Fr.start hcur).alloc _
 have s0:w.heap.size<w0.heap.size:=by rw[hw0];simp
 clear hw0
 obtain ⟨q,hq,hq1,hq3,hqm⟩:∃ q:Nat,imin 3 m=q∧1≤q∧q≤3∧q≤m:=⟨min 3 m,by unfold imin;split <;> omega,by omega,by omega,by omega⟩
 have HQ:=hD hq
 clear hq
 refine(yqw _ _ _).mono ?_
 rintro e w' ⟨rfl,rfl⟩
 rw[HQ.out]
 go_wp2_with fail
 refine(ynt q w0 p hfr0.cur Zq6 Zq6).mono ?_
 rintro e w1 ⟨k,a,b,c2,⟨hk1,hk2,hka⟩,rfl,hc1,hg1⟩
 obtain ⟨k,rfl⟩:∃ k':Nat,k=k':=⟨k.toNat,by omega⟩
 have x1:=ybl x0 hg1 Zq6
 have hfr1:=hfr0.call hc1 hg1
 have X1:=hD x1
 have FR1:=hD hfr1
 have s1:w.heap.size<w1.heap.size:=by have:=hg1.size;omega
 clear x0 x1 hc1 hg1 hfr0 hfr1
 go_wp2_with fail
 obtain ⟨w2,hw2⟩:∃ w2,w2=w1.alloc (.cells #[.int .i64 k,.int .i64 a,.int .i64 b,.int .i64 c2] 102):=⟨_,rfl⟩
 rw[←hw2]
 have y2:w2.heap[w1.heap.size]?=some (.cells #[.int .i64 k,.int .i64 a,.int .i64 b,.int .i64 c2] 102 (0,0)):=by rw[hw2];exact yac _ _
 have ba:Below w1.heap.size w1 w2:=by rw[hw2];exact Zq0
 have x2:=(ba.block _ s1).trans X1.out
 have hfr2:=FR1.out.below ba
 have hp1:p<w1.heap.size:=FR1.out.cur.lt
 have s2:w1.heap.size<w2.heap.size:=by rw[hw2];simp
 clear hw2 X1
 refine(yms m w2 p hfr2.cur h1 h4).mono ?_
 rintro e w3 ⟨v,L,rfl,hL,hin,hown,hc3,hg3⟩
 have x3:=ybl x2 hg3 Zq6
 have y3:=ybl y2 hg3 Zq6
 have hfr3:=hfr2.call hc3 hg3
 have s3:w2.heap.size≤w3.heap.size:=hg3.size
 obtain ⟨Ap,cp,rfl,_,_,rp⟩:=yah hown
 have X3:=hD x3
 have Y3:=hD y3
 have FR3:=hD hfr3
 have RP:=hD rp
 have HL:=hD hL
 have HIN:=hD hin
 obtain ⟨q0,q1,q2,q3⟩:=yai (lay:=Below.refl _ _) y3
 clear x2 x3 y2 y3 ba hfr2 hfr3 hc3 hg3 hown rp hL hin
 go_wp2_with fail
 refine(yfv k Zq6 Zq6 _).mono ?_
 rintro e w4 ⟨rfl,b4,s4⟩
 have hgn:=yo3 k Zq6
 obtain ⟨wd,hwd⟩:∃ wd:ByteArray,wd=⟨(ydg k).toArray⟩:=⟨_,rfl⟩
 rw[←hwd] at hgn ⊢
 have X4:=hD ((b4.block _ (lt_of_block X3.out)).trans X3.out)
 have Y4:=hD ((b4.block _ (lt_of_block Y3.out)).trans Y3.out)
 have FR4:=hD (FR3.out.below b4)
 have RP4:=hD (RP.out.below b4)
 clear hwd X3 Y3 FR3 RP b4 q0 q1 q2 q3
 go_wp2_with fail
 obtain ⟨X,hX⟩:∃ X,X=w4.heap.size:=⟨_,rfl⟩
 obtain ⟨w5,hw5⟩:∃ w5,w5=w4.alloc (.cells #[.int .i64 1,.string wd,.slice none 0 0,.int .i64 0,.slice none 0 0] 66):=⟨_,rfl⟩
 rw[←hw5,←hX]
 have z5:w5.heap[X]?=some (.cells #[.int .i64 1,.string wd,.slice none 0 0,.int .i64 0,.slice none 0 0] 66 (0,0)):=by rw[hw5,hX];exact yac _ _
 have b5:Below X w4 w5:=by rw[hw5,hX];exact Zq0
 have s5:X+1=w5.heap.size:=by rw[hw5,hX];simp
 have Z5:=hD z5
 have B5:=hD b5
 have HN4:=hD (HN.out.fr FR4.out)
 have hXs:w2.heap.size≤X:=by omega
 have HX:=hD hX
 clear hw5 z5 b5 hX
 go_loopw [8] (fun i wr=>∃ (t ca:Nat) (Aa:Option Addr) (args:List ByteArray),i=.int .i64 t∧t≤ar k∧args.length=t∧Hid (∀ s∈args,s.size≤9)∧Hid (wr.heap[X]?=some (.cells #[.int .i64 1,.string wd,.slice Aa t ca,.int .i64 0,.slice none 0 0] 66 (0,0)))∧Hid (wr.ownsRow (X+1) 9 1 (.slice Aa t ca) t (strs args))∧Hid (Below X w4 wr)) (fun i _=>ar k - (intOf i).toNat)
 case atStart=>exact ⟨0,0,none,[],rfl,Nat.zero_le _,rfl,(fun s hs=>absurd hs Zq11:∀ s∈([]:List ByteArray),s.size≤9),Z5.out,⟨rfl,.inl ⟨rfl,rfl⟩⟩,B5.out⟩
 case round =>
  obtain ⟨t,ca,Aa,args,rfl,ht,hal,hsm,hx,hown,hb⟩:=hrel
  obtain ⟨wE,rfl⟩:∃ wE:World,wE=wr:=⟨_,rfl⟩
  have hbs:=hb.out.size
  have hlX:=lt_of_block hx.out
  have y:=(hb.out.block _ Zq6).trans Y4.out
  obtain ⟨q0,q1,q2,q3⟩:=yai (lay:=Below.refl _ _) y
  obtain ⟨x0,x1,x2,x3,x4⟩:=yb9 (lay:=Below.refl _ _) hx.out
  have f2:=yab (j:=2) hx.out
  have hk9:ar k≤3:=yfz k
  have HAL:=hD hal
  clear y hal
  by_cases hlt:t<ar k
  ·obtain ⟨y,hy⟩:∃ y,L[t]?=some y:=⟨_,List.getElem?_eq_getElem (by rw[HL.out];omega)⟩
   have hyr:=HIN.out y (List.mem_of_getElem? hy)
   obtain ⟨j,rfl⟩:∃ j:Nat,y=j:=⟨y.toNat,by omega⟩
   have hbw:Below w4.heap.size w4 w4:=Below.refl _ _
   have hbx:Below w4.heap.size w4 wE:=by rw[←HX.out];exact hb.out
   obtain ⟨bp,op,rfl,hbp,hcp⟩:=(RP4.out.below hbx).2 Zq6
   have pj:wE.cell? ⟨bp,op+t,none⟩=some (.int .i64 j):=hcp t _ (by simp [hy])
   obtain ⟨bn,on,s,rfl,hbn,nj,hsN,hs9⟩:=(HN4.out.below hbx).at_ (t:=j) Zq6
   have hjm:j<m:=by omega
   have htm:t<m:=by omega
   have hS:=hD (show ∀ x∈args++[s],x.size≤9 from fun x hx=>by
    rcases List.mem_append.1 hx with h|h
    ·exact hsm.out x h
    ·rw[List.mem_singleton.1 h];exact hs9)
   have hbaX:∀ ob:Obj,(wE.drew.alloc ob).cell? ⟨X,2,none⟩=some (.slice Aa t ca):=fun ob=>(World.cell?_alloc_lt wE.drew ob ⟨X,2,none⟩ hlX).trans x2
   clear hcp hy hbw hbx
   go_wp2_with (go_at_call 135;refine(ybq _ _).mono ?_;rintro e w' ⟨rfl,rfl⟩)
   go_region_law (first|(refine ydl _ (by rfl) (.tmp 30) (.tmp 38) 24 (by rfl) (X+1) 9 i0 _ 1 16 Tryz.underlying24 hi hz0 hz1 hz2 (by rfl) Zq9 _ t _ (by rfl) (by exact((yqx hown.out).alloc _)) _ 1 _ [.string s] (by rfl) (by exact yc4 (w:=wE.drew) (by rfl) rfl) (by exact yhj s) Zq13 Zq6 Zq5 ?_;intro v3 w3 own3 gr3 _;obtain ⟨A3,c3,rfl,_,_,_⟩:=yah own3;have hx3:w3.heap[X]?=some (.cells #[.int .i64 1,.string wd,.slice Aa t ca,.int .i64 0,.slice none 0 0] 66 (0,0)):=(gr3.block X Zq5 (fun e=>yeq hown.out hx.out Zq9 e.symm)).trans ((Below.heap_alloc _ _ _ Zq5).trans hx.out);have px3:=yaj (j:=2) (u:=.slice Aa t ca) hx3 rfl;have fx3:=yab (j:=2) hx3;have hlx3:=lt_of_block hx3))
   all_goals
    obtain ⟨w6,hw6⟩:∃ w6,w6=w3.setCell ⟨X,2,none⟩ (.slice A3 (t+1) c3):=⟨_,rfl⟩
    have x6:w6.heap[X]?=some (.cells #[.int .i64 1,.string wd,.slice A3 (t+1) c3,.int .i64 0,.slice none 0 0] 66 (0,0)):=by rw[hw6];exact ya1 hx3 _
    have own6:w6.ownsRow (X+1) 9 1 (.slice A3 (t+1) c3) (t+1) (strs (args++[s])):=by rw[hw6,yhk];exact yc8 own3 (yeq own3 hx3 Zq9) _
    have b6:Below X w4 w6:=by rw[hw6];exact(((yaq hb.out 1).alloc (show X≤wE.heap.size by omega) _).grown gr3 Zq5 (ybe (ybd hown.out Zq6))).setCell (Nat.le_refl _) _
    have H6:=hD (And.intro x6 (And.intro own6 b6))
    go_wp2_with fail
    rw[←hw6]
    go_roundw
    case rel=>exact ⟨t+1,c3,A3,args++[s],by go_num,by omega,by rw[List.length_append,HAL.out];rfl,hS,H6.out.1,H6.out.2.1,H6.out.2.2⟩
    case measure=>simp [intOf];omega
  ·obtain rfl:t=ar k:=by omega
   have rX:=(hb.out.block _ (show w.heap.size<X by omega)).trans X4.out
   obtain ⟨r0,r1,r2,r3,r4⟩:=yb9 (lay:=Below.refl _ _) rX
   have g0:=yab (j:=0) rX
   have g1:=yab (j:=1) rX
   have g2:=yab (j:=2) rX
   have g3:=yab (j:=3) rX
   have g4:=yab (j:=4) rX
   have FRE:=hD (FR4.out.below (show Below w4.heap.size w4 wE by rw[←HX.out];exact hb.out))
   have HQE:=hD (yck (ybd hown.out (show w.heap.size+1≤X+1 by omega)))
   have hz:=hD (ytx 9 args hsm.out)
   clear rX
   go_wp2_with (go_at_call 135;refine(ybq _ _).mono ?_;rintro e w' ⟨rfl,rfl⟩)
   have hfrE:=FRE.out
   have hcap:ar k≤ca:=by
    obtain ⟨_,_,e,h,_,_⟩:=yah hown.out
    injection e with _ _ e
    omega
   have hzz:=hz.out
   rw[HAL.out] at hzz
   exact bodyPost_ret (v:=.agg #[.int .i64 1,.string wd,.slice Aa (ar k) ca,.int .i64 0,.slice none 0 0]) (by simp [results,Tryz.results127,go_sem,r0,r1,r2,r3,r4]) rfl ⟨wd,args,Aa,ca,by rw[HAL.out],by rw[HAL.out];exact RdQ.mono (P:=(w.heap.size+1≤·)) (by repeat (first|exact HQE.out|(with_reducible refine RdQ.set_ ?_ Zq11 _))) (fun b _ h=>Nat.le_of_succ_le h),by rw[HAL.out];exact ⟨hcap,hgn,hk9,by omega⟩,(Fr.cur (w:=w) (by repeat (first|assumption|(with_reducible refine Fr.alloc ?_ _)|(with_reducible refine Fr.set ?_ hp Zq5 _)))),(Fr.gr (by repeat (first|assumption|(with_reducible refine Fr.alloc ?_ _)|(with_reducible refine Fr.set ?_ hp Zq5 _))))⟩
theorem ye0 {w:World} {cs:Array Value} {e n size b base:Nat} (h0:b=w.heap.size) (hs:cs.size=n*size) (hB:base≤b):RdQ (w.alloc (.cells cs e)) (base≤·) size (some ⟨b,0,none⟩) n cs.toList:=by
 have r:=yc4 (e:=e) h0 hs
 refine ⟨r.1,fun h=>?_⟩
 obtain ⟨b',off,e,hb,hc⟩:=r.2 h
 injection e with e
 injection e with e1 e2
 subst e1 e2
 exact ⟨b,0,rfl,hB,hb,hc⟩
theorem yb3 {w:World} {Q:Nat→Prop} {d:Nat} {h:SH} {Aa Ab:Option Addr} {ca nb cb:Nat} {bd:List (Tr d)} (h1:RdQ w Q 1 Aa h.args.length (strs h.args)) (h2:TrQ w Q d Ab nb bd) (h3:h.args.length≤ca):StQ w Q d (scl h Aa ca Ab nb cb) (mkT h bd) :=
 ⟨Aa,ca,Ab,nb,cb,rfl,h1,h2,h3⟩
theorem yb5 {d:Nat} (h:SH) (bd:List (Tr d)):szE (mkT h bd)=h.word.size+(h.args.length+szS h.args+szT d bd):=rfl
theorem ydd (d:Nat):szT d []=0:=by cases d <;> rfl
theorem ynv {d:Nat} (l m:List (Tr (d+1))):sumE (l++m)=sumE l+sumE m:=by simp [sumE]
theorem ysh {d:Nat} (s:Tr (d+1)):sumE [s]=szE s:=by simp [sumE]
theorem yf5 {d:Nat} (l m:List (Tr (d+1))):szT (d+1) (l++m)=szT (d+1) l+szT (d+1) m:=by rw[ybb,ybb,ybb,ynv,List.length_append];omega
theorem yde {d:Nat} (s:Tr (d+1)):szT (d+1) [s]=1+szE s:=by rw[ybb,ysh];rfl
def yud (m:Nat) (w:World) (e:Ending) (w':World):Prop:=∃ (A:Option Addr) (n c:Nat) (F:List ByteArray),e=.returned (.slice A n c)∧F.length=n∧n≤m∧(∀ s∈F,s.size≤9)∧RdQ w' (w.heap.size≤·) 1 A n (strs F)∧Below w.heap.size w w'∧w.heap.size≤w'.heap.size
theorem ynw (A A':Option Addr) (m c m' c':Nat) (N M:List ByteArray) (w:World) (hN:Rd w 1 A m (strs N)) (hl:N.length=m) (h9:∀ s∈N,s.size≤9) (hm:m≤4) (hM:Rd w 1 A' m' (strs M)) (hl':M.length=m') (hm':m'≤4) :
  Calls Tryz.prog 162 #[.slice A m c,.slice A' m' c'] w (yud m w):=by
 obtain ⟨i0,hi,hz0,hz1,hz2⟩:=info_parts ydh
 have HN:=hD hN
 have HM:=hD hM
 have HL:=hD hl
 have HL':=hD hl'
 have H9:=hD h9
 clear hN hM hl hl' h9
 go_enter Tryz.func162,Tryz.ntmps162
 go_wp2_with fail
 obtain ⟨w0,hw0⟩:∃ w0,w0=w.alloc (.cells #[] 9):=⟨_,rfl⟩
 rw[←hw0]
 have own0:w0.ownsRow w.heap.size 9 1 (.slice (some ⟨w.heap.size,0,none⟩) 0 0) 0 []:=by rw[hw0];exact yb2 w _ _
 have b0:Below w.heap.size w w0:=by rw[hw0];exact Zq0
 have OW:=hD own0
 have B0:=hD b0
 clear own0 b0 hw0
 go_loopw [5,6] (fun v i wr=>∃ (t:Nat) (F:List ByteArray),t≤m∧i=.int .i64 t∧F.length≤t∧Hid (∀ s∈F,s.size≤9)∧Hid (wr.ownsRow w.heap.size 9 1 v F.length (strs F))∧Hid (Below w.heap.size w wr)) (fun _ i _=>m - (intOf i).toNat)
 case atStart=>exact ⟨0,[],Nat.zero_le _,rfl,Nat.zero_le _,(fun s hs=>absurd hs Zq11:∀ s∈([]:List ByteArray),s.size≤9),OW.out,B0.out⟩
 case round =>
  obtain ⟨t,F,ht,rfl,hF,h9,hown,hb⟩:=hrel
  have hbs:=hb.out.size
  by_cases hlt:t<m
  ·obtain ⟨x,hx⟩:∃ x,N[t]?=some x:=⟨_,List.getElem?_eq_getElem (by rw[HL.out];exact hlt)⟩
   obtain ⟨b,off,rfl,hbl,hc⟩:=(HN.out.below hb.out).2 Zq6
   have q0:wr.cell? ⟨b,off+t,none⟩=some (.string x):=hc t _ (ybr hx)
   have HX:=hD (show ∀ s∈F++[x],s.size≤9 from fun s hs=>by
    rcases List.mem_append.1 hs with h|h
    ·exact h9.out s h
    ·rw[List.mem_singleton.1 h];exact H9.out x (List.mem_of_getElem? hx))
   clear hc hx
   cases hh:hasS M x
   ·have hown':=hown.out
    go_wp2_with (first|(go_at_call 77;refine(ybx _ _ _ M x _ (HM.out.below hb.out) HL'.out Zq6).mono ?_;rintro e w' ⟨rfl,rfl⟩;rw[hh])|(at_builtin;refine yae _ rfl _ _ 24 rfl w.heap.size 9 i0 _ 1 16 Tryz.underlying24 hi hz0 hz1 hz2 rfl Zq9 _ _ _ rfl (hown'.alloc _) _ 1 1 _ rfl (yc4 ?c0 rfl) ?c2 ?c3 ?c4 ?c5 ?_))
    case c0=>first|rfl|simp
    case c2=>repeat' (first|rfl|apply And.intro)
    case c3=>simp only[maxLen];omega
    case c4=>omega
    case c5=>first|omega|(simp;omega)
    intro v6 w6 own6 gr6 _
    have hb6:=hD ((hb.out.alloc hbs _).grown gr6 Zq5 (ybe hown'))
    have O6:=hD own6
    clear gr6 own6 hown'
    go_wp2_with fail
    go_roundw
    case rel=>exact ⟨t+1,F++[x],by omega,by go_num,by rw[List.length_append];exact Nat.succ_le_succ hF,HX,by rw[List.length_append,yhk];exact O6.out,hb6⟩
    case measure=>simp [intOf];omega
   ·go_wp2_with (go_at_call 77;refine(ybx _ _ _ M x _ (HM.out.below hb.out) HL'.out Zq6).mono ?_;rintro e w' ⟨rfl,rfl⟩;rw[hh])
    go_roundw
    case rel=>exact ⟨t+1,F,by omega,by go_num,by omega,h9,hown,hb⟩
    case measure=>simp [intOf];omega
  ·obtain ⟨B,d,rfl,_,_,_⟩:=yah hown.out
   go_wp2_with fail
   go_ret
   exact ⟨B,_,d,F,rfl,rfl,by omega,h9.out,yck hown.out,hb.out,hbs⟩
def DCl (w:World) (p:Nat) (e:Ending) (w':World):Prop:=∃ (A:Option Addr) (c:Nat) (l:List (Tr 1)),e=.returned (.slice A 3 c)∧TrQ w' (w.heap.size≤·) 1 A 3 l∧szT 1 l≤100∧ybt w' p∧w.grownBy w' (some p)
theorem ymu (A:Option Addr) (m c:Nat) (N:List ByteArray) (z:ByteArray) (w:World) (p:Nat) (hcur:ybt w p) (hN:yd3 w p A m N) (hz:z.size≤9):Calls Tryz.prog 163 #[.pointer (some ⟨p,0,none⟩),.slice A m c,.string z] w (DCl w p):=by
 have hp:=hcur.lt
 have h1:=hN.lo
 have h4:=hN.hi
 have HN:=hD hN
 clear hN
 go_enter Tryz.func163,Tryz.ntmps163
 go_wp2_with fail
 refine(ybu m (m - 1) w p hcur Zq6 Zq6 Zq6).mono ?_
 rintro e w1 ⟨j,hj0,hj1,rfl,hc1,hg1⟩
 obtain ⟨j,rfl⟩:∃ j':Nat,j=j':=⟨j.toNat,by omega⟩
 have FR1:=hD ((Fr.start hcur).call hc1 hg1)
 obtain ⟨b,off,a,rfl,hbl,q0,_,ha9⟩:=(HN.out.call hg1).at_ (t:=j) Zq6
 clear hc1 hg1
 have s1:=FR1.out.gr.size
 have hp1:p<w1.heap.size:=FR1.out.cur.lt
 go_wp2_with fail
 obtain ⟨wa,hwa⟩:∃ wa,wa=w1.alloc (.cells #[.string a,.string z] 9):=⟨_,rfl⟩
 rw[←hwa]
 obtain ⟨wb,hwb⟩:∃ wb,wb=wa.alloc (.cells #[.int .i64 1,.string ⟨#[99,120]⟩,.slice (some ⟨w1.heap.size,0,none⟩) 2 2,.int .i64 0,.slice none 0 0] 66):=⟨_,rfl⟩
 rw[←hwb]
 obtain ⟨wc,hwc⟩:∃ wc,wc=wb.alloc (.cells #[.string ⟨#[122]⟩,.string ⟨#[115]⟩,.string ⟨#[116]⟩,.string ⟨#[116,100]⟩] 9):=⟨_,rfl⟩
 rw[←hwc]
 have za:wa.heap.size=w1.heap.size+1:=by rw[hwa];simp
 have zb:wb.heap.size=w1.heap.size+1+1:=by rw[hwb];simp [za]
 have zc:wc.heap.size=w1.heap.size+1+1+1:=by rw[hwc];simp [zb]
 have ba:Below w1.heap.size w1 wa:=by rw[hwa];exact Zq0
 have bb:Below wa.heap.size wa wb:=by rw[hwb];exact Zq0
 have bc:Below wb.heap.size wb wc:=by rw[hwc];exact Zq0
 have ra:RdQ wa (w.heap.size≤·) 1 (some ⟨w1.heap.size,0,none⟩) 2 (strs [a,z]):=by rw[hwa];exact ye0 rfl rfl s1
 have rc:Rd wc 1 (some ⟨w1.heap.size+1+1,0,none⟩) 4 (([⟨#[122]⟩,⟨#[115]⟩,⟨#[116]⟩,⟨#[116,100]⟩]:List ByteArray).map Value.string):=by rw[hwc];exact yit (w:=wb) zb.symm
 have xb:wb.heap[w1.heap.size+1]?=some (.cells #[.int .i64 1,.string ⟨#[99,120]⟩,.slice (some ⟨w1.heap.size,0,none⟩) 2 2,.int .i64 0,.slice none 0 0] 66 (0,0)):=by rw[hwb,←za];exact yac _ _
 have frc:Fr w p wc:=((FR1.out.below ba).below bb).below bc
 have rac:=(ra.below bb).below bc
 have xc:=(bc.block _ Zq6).trans xb
 have RA:=hD rac
 have XC:=hD xc
 clear hwa hwb hwc ba bb bc ra rac xb xc
 refine(ydc _ 4 4 _ wc p frc.cur rfl Zq6 Zq6 rc Zq6).mono ?_
 rintro e w2 ⟨y,hy,rfl,hc2,hg2⟩
 have hy9:y.size≤9:=by
  simp only[List.mem_cons,List.not_mem_nil,or_false] at hy
  rcases hy with rfl|rfl|rfl|rfl <;> decide
 have FR2:=hD (frc.call hc2 hg2)
 have RA2:=hD (RA.out.call hg2 Zq6)
 have XC2:=hD (ybl XC.out hg2 Zq6)
 have s2:=hg2.size
 clear frc hc2 hg2 rc hy RA XC
 go_upto_region 4 with (fail)
 obtain ⟨wd,hwd⟩:∃ wd,wd=w2.alloc (.cells #[.string z] 9):=⟨_,rfl⟩
 rw[←hwd]
 obtain ⟨we,hwe⟩:∃ we,we=wd.alloc (.cells #[.int .i64 1,.string y,.slice (some ⟨w2.heap.size,0,none⟩) 1 1,.int .i64 0,.slice none 0 0] 66):=⟨_,rfl⟩
 rw[←hwe]
 have zd:wd.heap.size=w2.heap.size+1:=by rw[hwd];simp
 have bd:Below w2.heap.size w2 wd:=by rw[hwd];exact Zq0
 have rd:RdQ wd (w.heap.size≤·) 1 (some ⟨w2.heap.size,0,none⟩) 1 (strs [z]):=by rw[hwd];exact ye0 rfl rfl FR2.out.gr.size
 have ze:we.heap.size=w2.heap.size+1+1:=by rw[hwe];simp [zd]
 have be:Below wd.heap.size wd we:=by rw[hwe];exact Zq0
 have xe:we.heap[w2.heap.size+1]?=some (.cells #[.int .i64 1,.string y,.slice (some ⟨w2.heap.size,0,none⟩) 1 1,.int .i64 0,.slice none 0 0] 66 (0,0)):=by rw[hwe,←zd];exact yac _ _
 have xd:=(be.block _ Zq6).trans ((bd.block _ Zq6).trans XC2.out)
 obtain ⟨q0,q1,q2,q3,q4⟩:=yb9 (lay:=Below.refl _ _) xe
 obtain ⟨r0,r1,r2,r3,r4⟩:=yb9 (lay:=Below.refl _ _) xd
 have HB:=hD (And.intro rd (And.intro bd be))
 clear hwd hwe xe xd rd bd be
 go_wp2_with fail
 go_ret
 obtain ⟨rd,bd,be⟩:=HB.out
 have bf:Below we.heap.size we (we.alloc (.cells #[.int .i64 1,.string ⟨#[99,120]⟩,.slice (some ⟨w1.heap.size,0,none⟩) 2 2,.int .i64 0,.slice none 0 0,.int .i64 1,.string y,.slice (some ⟨w2.heap.size,0,none⟩) 1 1,.int .i64 0,.slice none 0 0,.int .i64 1,.string ⟨#[99,120]⟩,.slice (some ⟨w1.heap.size,0,none⟩) 2 2,.int .i64 0,.slice none 0 0] 66)):=Zq0
 have rl:=ye0 (w:=we) (base:=w.heap.size) (cs:=#[.int .i64 1,.string ⟨#[99,120]⟩,.slice (some ⟨w1.heap.size,0,none⟩) 2 2,.int .i64 0,.slice none 0 0,.int .i64 1,.string y,.slice (some ⟨w2.heap.size,0,none⟩) 1 1,.int .i64 0,.slice none 0 0,.int .i64 1,.string ⟨#[99,120]⟩,.slice (some ⟨w1.heap.size,0,none⟩) 2 2,.int .i64 0,.slice none 0 0]) (e:=66) (n:=3) (size:=5) ze.symm rfl Zq6
 have f1:=yb3 (d:=0) (h:=⟨1,⟨#[99,120]⟩,[a,z],0⟩) (ca:=2) (cb:=0) (((RA2.out.below bd).below be).below bf) (yc5 (A:=none) 0) (Nat.le_refl _)
 have f2:=yb3 (d:=0) (h:=⟨1,y,[z],0⟩) (ca:=1) (cb:=0) ((rd.below be).below bf) (yc5 (A:=none) 0) (Nat.le_refl _)
 have hf:=((ElQ.one f1).append (ElQ.one f2)).append (ElQ.one f1)
 have fr:=((FR2.out.below bd).below be).below bf
 refine ⟨_,3,_,rfl,ElQ.tr hf rl rfl,?_,fr.cur,fr.gr⟩
 rw[yf5,yf5,yde,yde,yb5,yb5]
 simp only[ydd,szS,List.length_cons,List.length_nil]
 have:(⟨#[99,120]⟩:ByteArray).size=2:=rfl
 omega
theorem yqz {s:ByteArray} (h:s.toList=[]):s=⟨#[]⟩:=by
 rw[Lib.toList_data] at h
 cases s with
 | mk a =>
  have:a=#[]:=by simpa using h
  rw[this]
theorem ybp {d:Nat} {h:SH} {bd:List (Tr d)} (hv:vOne d (ya7 d) h bd=true):(1≤h.k∧h.k≤7)∧h.args.length=yar h.k h.word∧(h.k≠1∨yar h.k h.word≠0)∧(h.k=1∨h.word=⟨#[]⟩)∧(hasB h.k=true∨bd=[])∧(h.k=2→1≤h.count∧h.count≤9)∧(h.k≠2→h.count=0)∧ya7 d bd=true:=by
 unfold vOne ya4 at hv
 simp only[Bool.and_eq_true,decide_eq_true_eq] at hv
 obtain ⟨⟨h1,h2,h3,h4,h5,h6⟩,_,h7⟩:=hv
 unfold ya2 at h6
 refine ⟨ycf.1 h1,h2,h3,h4.imp id yqz,h5.imp id List.eq_nil_of_length_eq_zero,fun hk=>?_,fun hk=>?_,h7⟩
 ·rw[if_pos hk] at h6
  exact ycf.1 h6
 ·rw[if_neg hk] at h6
  simpa using h6
end Go.Proofs.YthkbckkghnbonaaGreatDoor
