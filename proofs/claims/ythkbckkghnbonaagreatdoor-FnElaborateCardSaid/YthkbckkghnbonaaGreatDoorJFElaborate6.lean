/- What the calls that this law reaches answer, part 6 of 20. -/
import Derived.Test.YthkbckkghnbonaaGreatDoorJFElaborate1
import Derived.Test.YthkbckkghnbonaaGreatDoorJFElaborate3
import Derived.Test.YthkbckkghnbonaaGreatDoorJFElaborate5
import Derived.Test.YthkbckkghnbonaaGreatDoorJFElaborate4
set_option maxRecDepth 100000
set_option maxHeartbeats 16000000
set_option linter.unusedVariables false
namespace Go.Proofs.YthkbckkghnbonaaGreatDoor
open Go.RowKit
set_option linter.unusedVariables false
theorem ymv {k:Int} (h:hasB k=false):(k==2)=false:=by
 unfold hasB at h
 cases h2:(k==2)
 ·rfl
 ·rw[h2] at h
  exact absurd h Zq11
def tokT:(d:Nat)→List (Tr d)→Nat
 | 0,_=>0
 | d+1,l=>(l.map fun (s:Tr (d+1))=>(if (hdT s).k==2 then 3 else 2)+(hdT s).args.length+(if hasB (hdT s).k then 1+tokT d (bdT s) else 0)).sum
def tokE {d:Nat} (s:Tr (d+1)):Nat:=(if (hdT s).k==2 then 3 else 2)+(hdT s).args.length+(if hasB (hdT s).k then 1+tokT d (bdT s) else 0)
theorem yig {d:Nat} (l:List (Tr (d+1))):tokT (d+1) l=(l.map tokE).sum:=rfl
theorem yq0 {d:Nat} {s:Tr (d+1)} (hk:hasB (hdT s).k=false) (hq:((hdT s).k==2)=false):tokE s=2+(hdT s).args.length:=by
 simp only[tokE,hk,hq];simp
theorem yq1 {d:Nat} {s:Tr (d+1)} (hk:hasB (hdT s).k=true) (hq:((hdT s).k==2)=false):tokE s=2+(hdT s).args.length+(1+tokT d (bdT s)):=by
 simp only[tokE,hk,hq];simp
theorem yq2 {d:Nat} {s:Tr (d+1)} (hk:hasB (hdT s).k=true) (hq:((hdT s).k==2)=true):tokE s=3+(hdT s).args.length+(1+tokT d (bdT s)):=by
 simp only[tokE,hk,hq];simp
theorem yg5:∀ (d:Nat) (l:List (Tr d)),tokT d l≤4*szT d l:=by
 intro d
 induction d with
 | zero=>intro l;exact Nat.zero_le _
 | succ d ih =>
  intro l
  rw[yig,ybb]
  unfold sumE
  induction l with
  | nil=>simp
  | cons s l ih2 =>
   have h1:=ih (bdT s)
   simp only[List.map_cons,List.sum_cons,List.length_cons]
   have h2:tokE s≤4+4*szE s:=by
    unfold tokE szE
    split <;> split <;> omega
   omega
theorem yja {d:Nat} (l:List (Tr (d+1))) (t:Nat):tokT (d+1) (l.take t)≤4*szT (d+1) l:=by
 refine Nat.le_trans (yg5 _ _) ?_
 rw[ybb,ybb]
 have:=ygd l t
 have:=List.length_take_le' t l
 omega
theorem ymw {d:Nat} (l:List (Tr (d+1))) (t:Nat) (s:Tr (d+1)) (h:l[t]?=some s):tokT (d+1) (l.take (t+1))=tokT (d+1) (l.take t)+tokE s:=by
 rw[List.take_add_one,h,yig,yig]
 simp
def ymx (d:Nat):Prop:=∀ (lo:Nat) (A:Option Addr) (n c:Nat) (l:List (Tr d)) (w:World),RdT w lo d A n l→szT d l≤1048576 →
 Calls Tryz.prog 46 #[.slice A n c] w fun e w'=>e=.returned (.int .i64 (tokT d l))∧Below w.heap.size w w'∧w.heap.size≤w'.heap.size
theorem yhz:∀ (d:Nat),ymx d:=by
 intro d
 induction d with
 | zero =>
  intro lo A n c l w h _
  obtain rfl:=ycl h
  go_enter Tryz.func46,Tryz.ntmps46
  go_wp2
  refine wp_loop_rounds 1 ?_
  rw[rounds_succ]
  go_wp2
  go_ret
  exact ⟨rfl,Below.refl _ _,Nat.le_refl _⟩
 | succ d ih =>
  intro lo A n c l w h hsz
  have hln:=h.len
  have hn:n≤1048576:=by rw[ybb] at hsz;omega
  have HQ:=hD hsz
  have HL:=hD hln
  have H:=hD h
  clear h hln hsz
  go_enter Tryz.func46,Tryz.ntmps46
  go_wp2
  go_loopw [3,8] (fun m i wr=>∃ t:Nat,t≤n∧i=.int .i64 t∧m=.int .i64 (tokT (d+1) (l.take t))∧Below w.heap.size w wr) (fun _ i _=>n - (intOf i).toNat)
  case atStart=>exact ⟨0,Nat.zero_le _,rfl,rfl,Below.refl _ _⟩
  case round =>
   obtain ⟨t,ht,rfl,rfl,hb⟩:=hrel
   have hN:tokT (d+1) (l.take t)≤4194304:=Nat.le_trans (yja l t) (by have:=HQ.out;omega)
   obtain ⟨N,hNN⟩:∃ N,N=tokT (d+1) (l.take t):=⟨_,rfl⟩
   rw[←hNN] at hN ⊢
   have HN:=hD hNN
   clear hNN
   have hbs:=hb.size
   by_cases hlt:t<n
   ·obtain ⟨b,off,s,Aa,ca,Ab,nb,cb,rfl,hbl,hs,hcs,hra,hrb⟩:=(H.out.below hb).at_ hlt
    obtain ⟨q0,q1,q2,q3,q4⟩:=hcs
    have hme:=ydw hs
    have hz2:szT d (bdT s)≤1048576:=by have:=HQ.out;rw[ybb] at this;unfold szE at hme;omega
    have hz3:(hdT s).args.length≤1048576:=by have:=HQ.out;rw[ybb] at this;unfold szE at hme;omega
    have hnb:=yg5 d (bdT s)
    have HT:=hD (ymw l t s hs)
    have HB:=hD (hrb.below (w':=wr.alloc (.cells #[.int .i64 (hdT s).k,.string (hdT s).word,.slice Aa (hdT s).args.length ca,.int .i64 (hdT s).count,.slice Ab nb cb] 66)) Zq0)
    clear hs hra hrb hme
    obtain ⟨M,hM⟩:∃ M,M=tokT d (bdT s):=⟨_,rfl⟩
    rw[←hM] at hnb
    have HM:=hD hM
    clear hM
    cases hk:hasB (hdT s).k
    ·have hq:((hdT s).k==2)=false:=ymv hk
     have HT2:Hid (tokT (d+1) (l.take (t+1))=N+(2+(hdT s).args.length)):=by
      have h:=HT.out
      rw[←HN.out,yq0 hk hq] at h
      exact h
     go_wp2_with (go_at_call 103;refine(yba _ _).mono ?_;rintro e w' ⟨rfl,rfl⟩)
     go_roundw
     case rel=>exact ⟨t+1,by omega,by go_num,by rw[HT2.out];congr 1;omega,(hb.alloc hb.size _)⟩
     case measure=>simp [intOf];omega
    ·cases hq:((hdT s).k==2)
     ·have HT2:Hid (tokT (d+1) (l.take (t+1))=N+(2+(hdT s).args.length+(1+M))):=by
       have h:=HT.out
       rw[←HN.out,yq1 hk hq] at h
       rw[HM.out]
       exact h
      go_wp2_with (first|(go_at_call 103;refine(yba _ _).mono ?_;rintro e w' ⟨rfl,rfl⟩)|(go_at_call 46;refine(ih lo _ _ _ (bdT s) _ HB.out hz2).mono ?_;rintro e w1 ⟨rfl,b1,s1⟩;rw[←HM.out]))
      go_roundw
      case rel=>exact ⟨t+1,by omega,by go_num,by rw[HT2.out];congr 1;omega,(hb.alloc hb.size _).trans (b1.mono Zq10)⟩
      case measure=>simp [intOf];omega
     ·have HT2:Hid (tokT (d+1) (l.take (t+1))=N+(3+(hdT s).args.length+(1+M))):=by
       have h:=HT.out
       rw[←HN.out,yq2 hk hq] at h
       rw[HM.out]
       exact h
      go_wp2_with (first|(go_at_call 103;refine(yba _ _).mono ?_;rintro e w' ⟨rfl,rfl⟩)|(go_at_call 46;refine(ih lo _ _ _ (bdT s) _ HB.out hz2).mono ?_;rintro e w1 ⟨rfl,b1,s1⟩;rw[←HM.out]))
      go_roundw
      case rel=>exact ⟨t+1,by omega,by go_num,by rw[HT2.out];congr 1;omega,(hb.alloc hb.size _).trans (b1.mono Zq10)⟩
      case measure=>simp [intOf];omega
   ·obtain rfl:t=n:=by omega
    have HF:Hid (N=tokT (d+1) l):=by
     have h:=HN.out
     rw[List.take_of_length_le (by rw[HL.out];exact Nat.le_refl _)] at h
     exact h
    go_wp2
    go_ret
    exact ⟨by rw[←HF.out];rfl,hb,hb.size⟩
def ymy (d:Nat):Prop:=∀ (lo:Nat) (A:Option Addr) (n c:Nat) (l:List (Tr d)) (w:World),RdT w lo d A n l→szT d l≤1048576 →
 Calls Tryz.prog 51 #[.slice A n c] w fun e w'=>e=.returned (.int .i64 (tokT d l))∧Below w.heap.size w w'∧w.heap.size≤w'.heap.size
theorem yh0:∀ (d:Nat),ymy d:=by
 intro d
 induction d with
 | zero =>
  intro lo A n c l w h _
  obtain rfl:=ycl h
  go_enter Tryz.func51,Tryz.ntmps51
  go_wp2
  refine wp_loop_rounds 1 ?_
  rw[rounds_succ]
  go_wp2
  go_ret
  exact ⟨rfl,Below.refl _ _,Nat.le_refl _⟩
 | succ d ih =>
  intro lo A n c l w h hsz
  have hln:=h.len
  have hn:n≤1048576:=by rw[ybb] at hsz;omega
  have HQ:=hD hsz
  have HL:=hD hln
  have H:=hD h
  clear h hln hsz
  go_enter Tryz.func51,Tryz.ntmps51
  go_wp2
  go_loopw [3,4] (fun m i wr=>∃ t:Nat,t≤n∧i=.int .i64 t∧m=.int .i64 (tokT (d+1) (l.take t))∧Below w.heap.size w wr) (fun _ i _=>n - (intOf i).toNat)
  case atStart=>exact ⟨0,Nat.zero_le _,rfl,rfl,Below.refl _ _⟩
  case round =>
   obtain ⟨t,ht,rfl,rfl,hb⟩:=hrel
   have hN:tokT (d+1) (l.take t)≤4194304:=Nat.le_trans (yja l t) (by have:=HQ.out;omega)
   obtain ⟨N,hNN⟩:∃ N,N=tokT (d+1) (l.take t):=⟨_,rfl⟩
   rw[←hNN] at hN ⊢
   have HN:=hD hNN
   clear hNN
   have hbs:=hb.size
   by_cases hlt:t<n
   ·obtain ⟨b,off,s,Aa,ca,Ab,nb,cb,rfl,hbl,hs,hcs,hra,hrb⟩:=(H.out.below hb).at_ hlt
    obtain ⟨q0,q1,q2,q3,q4⟩:=hcs
    have hme:=ydw hs
    have hz2:szT d (bdT s)≤1048576:=by have:=HQ.out;rw[ybb] at this;unfold szE at hme;omega
    have hz3:(hdT s).args.length≤1048576:=by have:=HQ.out;rw[ybb] at this;unfold szE at hme;omega
    have hnb:=yg5 d (bdT s)
    have HT:=hD (ymw l t s hs)
    have HB:=hD hrb
    clear hs hra hrb hme
    obtain ⟨M,hM⟩:∃ M,M=tokT d (bdT s):=⟨_,rfl⟩
    rw[←hM] at hnb
    have HM:=hD hM
    clear hM
    cases hk:hasB (hdT s).k
    ·have hq:((hdT s).k==2)=false:=ymv hk
     have HT2:Hid (tokT (d+1) (l.take (t+1))=N+(2+(hdT s).args.length)):=by
      have h:=HT.out
      rw[←HN.out,yq0 hk hq] at h
      exact h
     go_wp2_with fail
     refine(yax _ _ _ _ _ _ ⟨_,_,_,rfl⟩ ⟨_,_,_,rfl⟩).mono ?_
     rintro e w1 ⟨rfl,b1,s1⟩
     rw[hk]
     have r0:=(b1.cell (p:=⟨b,off+t*5,none⟩) hbl).trans q0
     have r2:=(b1.cell (p:=⟨b,off+t*5+2,none⟩) hbl).trans q2
     have r4:=(b1.cell (p:=⟨b,off+t*5+4,none⟩) hbl).trans q4
     clear q0 q1 q2 q3 q4
     go_wp2_with fail
     go_roundw
     case rel=>exact ⟨t+1,by omega,by go_num,by rw[HT2.out];congr 1;omega,(hb.trans (b1.mono hb.size))⟩
     case measure=>simp [intOf];omega
    ·cases hq:((hdT s).k==2)
     ·have HT2:Hid (tokT (d+1) (l.take (t+1))=N+(2+(hdT s).args.length+(1+M))):=by
       have h:=HT.out
       rw[←HN.out,yq1 hk hq] at h
       rw[HM.out]
       exact h
      go_wp2_with fail
      refine(yax _ _ _ _ _ _ ⟨_,_,_,rfl⟩ ⟨_,_,_,rfl⟩).mono ?_
      rintro e w1 ⟨rfl,b1,s1⟩
      rw[hk]
      have r0:=(b1.cell (p:=⟨b,off+t*5,none⟩) hbl).trans q0
      have r2:=(b1.cell (p:=⟨b,off+t*5+2,none⟩) hbl).trans q2
      have r4:=(b1.cell (p:=⟨b,off+t*5+4,none⟩) hbl).trans q4
      clear q0 q1 q2 q3 q4
      go_wp2_with fail
      refine(ih lo _ _ _ (bdT s) _ (HB.out.below b1) hz2).mono ?_
      rintro e w2 ⟨rfl,b2,s2⟩
      rw[←HM.out]
      go_wp2_with fail
      go_roundw
      case rel=>exact ⟨t+1,by omega,by go_num,by rw[HT2.out];congr 1;omega,((hb.trans (b1.mono hb.size)).trans (b2.mono Zq6))⟩
      case measure=>simp [intOf];omega
     ·have HT2:Hid (tokT (d+1) (l.take (t+1))=N+(3+(hdT s).args.length+(1+M))):=by
       have h:=HT.out
       rw[←HN.out,yq2 hk hq] at h
       rw[HM.out]
       exact h
      go_wp2_with fail
      refine(yax _ _ _ _ _ _ ⟨_,_,_,rfl⟩ ⟨_,_,_,rfl⟩).mono ?_
      rintro e w1 ⟨rfl,b1,s1⟩
      rw[hk]
      have r0:=(b1.cell (p:=⟨b,off+t*5,none⟩) hbl).trans q0
      have r2:=(b1.cell (p:=⟨b,off+t*5+2,none⟩) hbl).trans q2
      have r4:=(b1.cell (p:=⟨b,off+t*5+4,none⟩) hbl).trans q4
      clear q0 q1 q2 q3 q4
      go_wp2_with fail
      refine(ih lo _ _ _ (bdT s) _ (HB.out.below b1) hz2).mono ?_
      rintro e w2 ⟨rfl,b2,s2⟩
      rw[←HM.out]
      go_wp2_with fail
      go_roundw
      case rel=>exact ⟨t+1,by omega,by go_num,by rw[HT2.out];congr 1;omega,((hb.trans (b1.mono hb.size)).trans (b2.mono Zq6))⟩
      case measure=>simp [intOf];omega
   ·obtain rfl:t=n:=by omega
    have HF:Hid (N=tokT (d+1) l):=by
     have h:=HN.out
     rw[List.take_of_length_le (by rw[HL.out];exact Nat.le_refl _)] at h
     exact h
    go_wp2
    go_ret
    exact ⟨by rw[←HF.out];rfl,hb,hb.size⟩
theorem RdT.take {w:World} {lo d n:Nat} {A:Option Addr} {l:List (Tr (d+1))} (h:RdT w lo (d+1) A n l) {t:Nat} (ht:t≤n):RdT w lo (d+1) A t (l.take t):=by
 refine ⟨by rw[List.length_take,h.1];omega,fun h0=>?_⟩
 obtain ⟨b,off,e,h1,hb,hc⟩:=h.2 Zq6
 refine ⟨b,off,e,h1,hb,fun i s hi=>hc i s ?_⟩
 rw[List.getElem?_take] at hi
 split at hi
 ·exact hi
 ·cases hi
theorem RdT.drop {w:World} {lo d n b off:Nat} {l:List (Tr (d+1))} (h:RdT w lo (d+1) (some ⟨b,off,none⟩) n l) {t:Nat} (ht:t≤n):RdT w lo (d+1) (some ⟨b,off+t*5,none⟩) (n - t) (l.drop t):=by
 refine ⟨by rw[List.length_drop,h.1],fun h0=>?_⟩
 obtain ⟨b',off',e,h1,hb,hc⟩:=h.2 Zq6
 injection e with e
 injection e with e1 e2
 subst e1 e2
 refine ⟨b,off+t*5,rfl,h1,hb,fun i s hi=>?_⟩
 rw[List.getElem?_drop] at hi
 obtain ⟨Aa,ca,Ab,nb,cb,h1,h2⟩:=hc _ s hi
 rw[show off+(t+i)*5=off+t*5+i*5 by omega] at h1
 exact ⟨Aa,ca,Ab,nb,cb,h1,h2⟩
theorem RdT.nil {w:World} {lo d:Nat} {A:Option Addr}:RdT w lo (d+1) A 0 []:=⟨rfl,fun h=>absurd h Zq6⟩
theorem yq3 {d:Nat} (l:List (Tr (d+1))):∀ m:Nat,l.foldl (fun (m:Nat) (s:Tr (d+1))=>if hasB (hdT s).k then max m (1+ybf d (bdT s)) else m) m=max m (ybf (d+1) l):=by
 induction l with
 | nil=>intro m;simp [ybf]
 | cons s l ih =>
  intro m
  show l.foldl _ (if hasB (hdT s).k then max m (1+ybf d (bdT s)) else m)=max m (l.foldl _ (if hasB (hdT s).k then max 0 (1+ybf d (bdT s)) else 0))
  rw[ih,ih]
  split <;> omega
theorem yq4 {d:Nat} (s:Tr (d+1)) (l:List (Tr (d+1))):ybf (d+1) (s :: l)=max (if hasB (hdT s).k then 1+ybf d (bdT s) else 0) (ybf (d+1) l):=by
 show l.foldl _ (if hasB (hdT s).k then max 0 (1+ybf d (bdT s)) else 0)=_
 rw[yq3]
 split <;> simp
def eqO (a b:Opt):Bool:=a.k==b.k&&(a.g.k==b.g.k&&(a.g.a==b.g.a&&(a.g.b==b.g.b&&(a.g.c==b.g.c&&(a.q==b.q&&(a.bit==b.bit&&(a.cond==b.cond)))))))
theorem yty {a b:Opt} (h:eqO a b=true):a=b:=by
 simp [eqO] at h
 obtain ⟨k,⟨gk,ga,gb,gc⟩,q,bit,cond⟩:=a
 obtain ⟨k,⟨gk,ga,gb,gc⟩,q,bit,cond⟩:=b
 simp_all
def eqOs (l l':List Opt):Bool:=(l.length==l'.length)&&(List.zip l l').all (fun p=>eqO p.1 p.2)
def yiu (l l':List Opt) (t:Nat):Prop:=∀ j,j<t→∀ x y,l[j]?=some x→l'[j]?=some y→eqO x y=true
theorem ysi {l l':List Opt} (h:l.length≠l'.length):eqOs l l'=false:=by simp [eqOs,h]
theorem ytz {l l':List Opt} {k:Nat} {x y:Opt} (hx:l[k]?=some x) (hy:l'[k]?=some y) (h:eqO x y=false):eqOs l l'=false:=by
 have hm:(x,y)∈List.zip l l':=by
  have:(List.zip l l')[k]?=some (x,y):=by rw[List.getElem?_zip_eq_some];exact ⟨hx,hy⟩
  exact List.mem_of_getElem? this
 rw[eqOs,Bool.and_eq_false_iff]
 right
 rw[List.all_eq_false]
 exact ⟨_,hm,by simp [h]⟩
theorem yq5 {l l':List Opt} {t:Nat} (hl:l.length=l'.length) (h:yiu l l' t) (ht:l.length≤t):eqOs l l'=true:=by
 rw[eqOs,Bool.and_eq_true]
 refine ⟨by simp [hl],List.all_eq_true.2 fun p hp=>?_⟩
 obtain ⟨j,hj⟩:=List.getElem?_of_mem hp
 rw[List.getElem?_zip_eq_some] at hj
 have:=(List.getElem?_eq_some_iff.1 hj.1).1
 exact h j Zq6 _ _ hj.1 hj.2
theorem ysj {l l':List Opt} {t:Nat} {x y:Opt} (h:yiu l l' t) (hx:l[t]?=some x) (hy:l'[t]?=some y) (he:eqO x y=true):yiu l l' (t+1):=by
 intro j hj a b ha hb
 by_cases hjt:j<t
 ·exact h j hjt a b ha hb
 ·obtain rfl:j=t:=by omega
  rw[hx] at ha
  rw[hy] at hb
  injection ha with ha
  injection hb with hb
  subst ha hb
  exact he
theorem yue (w:World) (a b:Opt):(binOp .neq 104 (.agg #[.int .i64 a.k,.int .i64 a.g.k,.int .i64 a.g.a,.int .i64 a.g.b,.int .i64 a.g.c,.int .i64 a.q,.int .i64 a.bit,.int .i64 a.cond]) (.agg #[.int .i64 b.k,.int .i64 b.g.k,.int .i64 b.g.a,.int .i64 b.g.b,.int .i64 b.g.c,.int .i64 b.q,.int .i64 b.bit,.int .i64 b.cond])).run Tryz.prog w=.ok (.bool (!eqO a b)) w:=by
 simp [go_sem,eqO]
 repeat' split
 all_goals simp_all
theorem ynx (A A':Option Addr) (n n' c c':Nat) (l l':List Opt) (w:World) (hl:l.length=n) (hl':l'.length=n') (hn:n≤1099511627776) (h1:Rd w 8 A n (l.flatMap yan)) (h2:Rd w 8 A' n' (l'.flatMap yan)) :
  Calls Tryz.prog 76 #[.slice A n c,.slice A' n' c'] w fun e w'=>e=.returned (.bool (eqOs l l'))∧Below w.heap.size w w'∧w.heap.size≤w'.heap.size:=by
 have HL:=hD hl
 have HL':=hD hl'
 by_cases hnn:n=n'
 ·subst hnn
  have H1:=hD h1
  have H2:=hD h2
  clear h1 h2 hl hl'
  go_enter Tryz.func76,Tryz.ntmps76
  go_wp2
  go_loopw [5] (fun i wr=>∃ k:Nat,k≤n∧i=.int .i64 k∧yiu l l' k∧Below w.heap.size w wr) (fun i _=>n - (intOf i).toNat)
  case atStart=>exact ⟨0,Nat.zero_le _,rfl,fun j hj=>absurd hj Zq6,Below.refl _ _⟩
  case round =>
  obtain ⟨k,hk,rfl,hup,hb⟩:=hrel
  by_cases hlt:k<n
  ·have hkl:k<l.length:=by rw[HL.out];exact hlt
   have hkl':k<l'.length:=by rw[HL'.out];exact hlt
   obtain ⟨g,hg⟩:∃ g,l[k]?=some g:=⟨_,List.getElem?_eq_getElem hkl⟩
   obtain ⟨g',hg'⟩:∃ g,l'[k]?=some g:=⟨_,List.getElem?_eq_getElem hkl'⟩
   obtain ⟨b,off,rfl,_,hc⟩:=(H1.out.below hb).2 Zq6
   obtain ⟨b',off',rfl,_,hc'⟩:=(H2.out.below hb).2 Zq6
   have q0:=hc (k*8+0) _ (yal yad l k g 0 hg Zq9)
   have q0':=hc' (k*8+0) _ (yal yad l' k g' 0 hg' Zq9)
   have q1:=hc (k*8+1) _ (yal yad l k g 1 hg Zq9)
   have q1':=hc' (k*8+1) _ (yal yad l' k g' 1 hg' Zq9)
   have q2:=hc (k*8+2) _ (yal yad l k g 2 hg Zq9)
   have q2':=hc' (k*8+2) _ (yal yad l' k g' 2 hg' Zq9)
   have q3:=hc (k*8+3) _ (yal yad l k g 3 hg Zq9)
   have q3':=hc' (k*8+3) _ (yal yad l' k g' 3 hg' Zq9)
   have q4:=hc (k*8+4) _ (yal yad l k g 4 hg Zq9)
   have q4':=hc' (k*8+4) _ (yal yad l' k g' 4 hg' Zq9)
   have q5:=hc (k*8+5) _ (yal yad l k g 5 hg Zq9)
   have q5':=hc' (k*8+5) _ (yal yad l' k g' 5 hg' Zq9)
   have q6:=hc (k*8+6) _ (yal yad l k g 6 hg Zq9)
   have q6':=hc' (k*8+6) _ (yal yad l' k g' 6 hg' Zq9)
   have q7:=hc (k*8+7) _ (yal yad l k g 7 hg Zq9)
   have q7':=hc' (k*8+7) _ (yal yad l' k g' 7 hg' Zq9)
   rw[←Nat.add_assoc] at q1 q1' q2 q2' q3 q3' q4 q4' q5 q5' q6 q6' q7 q7'
   rw[Nat.add_zero] at q0 q0'
   cases he:eqO g g'
   ·have HF:=hD (ytz hg hg' he)
    have hne:=fun w=>yue w g g'
    rw[he] at hne
    clear hc hc' hg hg' hkl hkl' hup he
    go_wp2_with fail
    go_quiet (fail)
    go_wp2_with fail
    go_ret
    exact ⟨by rw[HF.out];rfl,yaq hb _,by have:=hb.size;simpa using this⟩
   ·have hgg:=yty he
    subst hgg
    have HU:=hD (ysj hup hg hg' he)
    clear hc hc' hg hg' hkl hkl' hup he
    go_wp2_with fail
    go_quiet (fail)
    go_wp2_with fail
    go_roundw
    case rel=>exact ⟨k+1,by omega,by go_num,HU.out,yaq hb _⟩
    case measure=>simp [intOf];omega
  ·obtain rfl:k=n:=by omega
   have HF:=hD (yq5 (by rw[HL.out,HL'.out]) hup (by rw[HL.out];exact Nat.le_refl _))
   go_wp2_with fail
   go_ret
   exact ⟨by rw[HF.out];rfl,hb,hb.size⟩
 ·have HF:=hD (ysi (l:=l) (l':=l') (by rw[HL.out,HL'.out];exact hnn))
  have hne:((n:Int) != (n':Int))=true:=by rw[bne_iff_ne];omega
  clear h1 h2 hl hl' hnn
  go_enter Tryz.func76,Tryz.ntmps76
  go_wp2
  go_ret
  exact ⟨by rw[HF.out];rfl,Below.refl _ _,Nat.le_refl _⟩
def ycc:List Opt→Nat
 | []=>0
 | o :: l=>(if o.k=1 then 1 else 0)+ycc l
theorem yny (l:List Opt) (o:Opt):ycc (l++[o])=ycc l+(if o.k=1 then 1 else 0):=by
 induction l with
 | nil=>simp [ycc]
 | cons x l ih=>simp only[List.cons_append,ycc,ih];omega
theorem yih:∀ l:List Opt,ycc l≤l.length
 | []=>by simp [ycc]
 | o :: l=>by have:=yih l;simp only[ycc,List.length_cons];split <;> omega
theorem yjb (l:List Opt) (t:Nat) (o:Opt) (h:l[t]?=some o):ycc (l.take (t+1))=ycc (l.take t)+(if o.k=1 then 1 else 0):=by
 rw[List.take_add_one,h]
 exact yny _ _
theorem yea (N I B:Int) (A:Option Addr) (n c:Nat) (l:List Opt) (w:World) (h:Rd w 8 A n (l.flatMap yan)) (hl:l.length=n) (hn:n≤1099511627776) :
  Calls Tryz.prog 62 #[.agg #[.int .i64 N,.int .i64 I,.int .i64 B,.slice A n c]] w fun e w'=>e=.returned (.int .i64 (ycc l))∧Below w.heap.size w w'∧w.heap.size≤w'.heap.size:=by
 have b0:Below w.heap.size w (w.alloc (.cells #[.int .i64 N,.int .i64 I,.int .i64 B,.slice A n c] 40)):=Zq0
 have H:=hD (h.below b0)
 have HL:=hD hl
 clear h hl b0
 go_enter Tryz.func62,Tryz.ntmps62
 go_wp2
 obtain ⟨w0,hw0⟩:∃ w0,w0=w.alloc (.cells #[.int .i64 N,.int .i64 I,.int .i64 B,.slice A n c] 40):=⟨_,rfl⟩
 rw[←hw0] at H ⊢
 have x0:Hid (w0.heap[w.heap.size]?=some (.cells #[.int .i64 N,.int .i64 I,.int .i64 B,.slice A n c] 40 (0,0))):=by rw[hw0];exact yac _ _
 have b0:Below w.heap.size w w0:=by rw[hw0];exact Zq0
 have S0:=hD (show w.heap.size+1=w0.heap.size by rw[hw0];simp)
 clear hw0
 go_loopw [3,4] (fun m i wr=>∃ t:Nat,t≤n∧i=.int .i64 t∧m=.int .i64 (ycc (l.take t))∧Below w0.heap.size w0 wr) (fun _ i _=>n - (intOf i).toNat)
 case atStart=>exact ⟨0,Nat.zero_le _,rfl,rfl,Below.refl _ _⟩
 case round =>
  obtain ⟨t,ht,rfl,rfl,hb⟩:=hrel
  have hbs:=hb.size
  have hgc:ycc (l.take t)≤t:=Nat.le_trans (yih _) (List.length_take_le t l)
  obtain ⟨G,hG⟩:∃ G,G=ycc (l.take t):=⟨_,rfl⟩
  rw[←hG] at hgc ⊢
  have HG:=hD hG
  clear hG
  obtain ⟨_,_,_,p3⟩:=yai (lay:=hb) x0.out
  by_cases hlt:t<n
  ·have htl:t<l.length:=by rw[HL.out];exact hlt
   obtain ⟨o,ho⟩:∃ o,l[t]?=some o:=⟨_,List.getElem?_eq_getElem htl⟩
   obtain ⟨b,off,rfl,hbl,hc⟩:=H.out.2 Zq6
   have q0:wr.cell? ⟨b,off+t*8,none⟩=some (.int .i64 o.k):=(hb.cell (by have:=hbl;simp;omega)).trans (hc (t*8+0) _ (yal yad l t o 0 ho Zq9))
   have q1:wr.cell? ⟨b,off+t*8+1,none⟩=some (.int .i64 o.g.k):=(hb.cell (by have:=hbl;simp;omega)).trans (hc (t*8+1) _ (yal yad l t o 1 ho Zq9))
   have q2:wr.cell? ⟨b,off+t*8+2,none⟩=some (.int .i64 o.g.a):=(hb.cell (by have:=hbl;simp;omega)).trans (hc (t*8+2) _ (yal yad l t o 2 ho Zq9))
   have q3:wr.cell? ⟨b,off+t*8+3,none⟩=some (.int .i64 o.g.b):=(hb.cell (by have:=hbl;simp;omega)).trans (hc (t*8+3) _ (yal yad l t o 3 ho Zq9))
   have q4:wr.cell? ⟨b,off+t*8+4,none⟩=some (.int .i64 o.g.c):=(hb.cell (by have:=hbl;simp;omega)).trans (hc (t*8+4) _ (yal yad l t o 4 ho Zq9))
   have q5:wr.cell? ⟨b,off+t*8+5,none⟩=some (.int .i64 o.q):=(hb.cell (by have:=hbl;simp;omega)).trans (hc (t*8+5) _ (yal yad l t o 5 ho Zq9))
   have q6:wr.cell? ⟨b,off+t*8+6,none⟩=some (.int .i64 o.bit):=(hb.cell (by have:=hbl;simp;omega)).trans (hc (t*8+6) _ (yal yad l t o 6 ho Zq9))
   have q7:wr.cell? ⟨b,off+t*8+7,none⟩=some (.int .i64 o.cond):=(hb.cell (by have:=hbl;simp;omega)).trans (hc (t*8+7) _ (yal yad l t o 7 ho Zq9))
   have HS:=hD (yjb l t o ho)
   clear hc ho htl
   by_cases hk:o.k=1
   ·have hk':(o.k==1)=true:=by simp [hk]
    have HK:=hD hk
    clear hk
    go_wp2
    go_roundw
    case rel=>exact ⟨t+1,by omega,by go_num,by rw[HS.out,if_pos HK.out,←HG.out];go_num,Zq0⟩
    case measure=>simp [intOf];omega
   ·have hk':(o.k==1)=false:=by simp [hk]
    have HK:=hD hk
    clear hk
    go_wp2
    go_roundw
    case rel=>exact ⟨t+1,by omega,by go_num,by rw[HS.out,if_neg HK.out,←HG.out];go_num,Zq0⟩
    case measure=>simp [intOf];omega
  ·obtain rfl:t=n:=by omega
   have HT:Hid (G=ycc l):=by
    have h:=HG.out
    rw[List.take_of_length_le (by rw[HL.out];exact Nat.le_refl _)] at h
    exact h
   go_wp2
   go_ret
   exact ⟨by rw[←HT.out];rfl,b0.trans (hb.mono (by have:=S0.out;omega)),by have:=hb.size;have:=S0.out;omega⟩
theorem ydn (N I B:Int) (A:Option Addr) (n c:Nat) (l:List Opt) (w:World) (h:Rd w 8 A n (l.flatMap yan)) (hl:l.length=n) (hn:n≤1099511627776) :
  Calls Tryz.prog 29 #[.agg #[.int .i64 N,.int .i64 I,.int .i64 B,.slice A n c]] w fun e w'=>e=.returned (.int .i64 (ycc l))∧Below w.heap.size w w'∧w.heap.size≤w'.heap.size:=by
 have b0:Below w.heap.size w (w.alloc (.cells #[.int .i64 N,.int .i64 I,.int .i64 B,.slice A n c] 40)):=Zq0
 have H:=hD (h.below b0)
 have HL:=hD hl
 clear h hl b0
 go_enter Tryz.func29,Tryz.ntmps29
 go_wp2
 obtain ⟨w0,hw0⟩:∃ w0,w0=w.alloc (.cells #[.int .i64 N,.int .i64 I,.int .i64 B,.slice A n c] 40):=⟨_,rfl⟩
 rw[←hw0] at H ⊢
 have x0:Hid (w0.heap[w.heap.size]?=some (.cells #[.int .i64 N,.int .i64 I,.int .i64 B,.slice A n c] 40 (0,0))):=by rw[hw0];exact yac _ _
 have b0:Below w.heap.size w w0:=by rw[hw0];exact Zq0
 have S0:=hD (show w.heap.size+1=w0.heap.size by rw[hw0];simp)
 clear hw0
 go_loopw [3,9] (fun m i wr=>∃ t:Nat,t≤n∧i=.int .i64 t∧m=.int .i64 (ycc (l.take t))∧Below w0.heap.size w0 wr) (fun _ i _=>n - (intOf i).toNat)
 case atStart=>exact ⟨0,Nat.zero_le _,rfl,rfl,Below.refl _ _⟩
 case round =>
  obtain ⟨t,ht,rfl,rfl,hb⟩:=hrel
  have hbs:=hb.size
  have hgc:ycc (l.take t)≤t:=Nat.le_trans (yih _) (List.length_take_le t l)
  obtain ⟨G,hG⟩:∃ G,G=ycc (l.take t):=⟨_,rfl⟩
  rw[←hG] at hgc ⊢
  have HG:=hD hG
  clear hG
  obtain ⟨_,_,_,p3⟩:=yai (lay:=hb) x0.out
  by_cases hlt:t<n
  ·have htl:t<l.length:=by rw[HL.out];exact hlt
   obtain ⟨o,ho⟩:∃ o,l[t]?=some o:=⟨_,List.getElem?_eq_getElem htl⟩
   obtain ⟨b,off,rfl,hbl,hc⟩:=H.out.2 Zq6
   have q0:wr.cell? ⟨b,off+t*8,none⟩=some (.int .i64 o.k):=(hb.cell (by have:=hbl;simp;omega)).trans (hc (t*8+0) _ (yal yad l t o 0 ho Zq9))
   have q1:wr.cell? ⟨b,off+t*8+1,none⟩=some (.int .i64 o.g.k):=(hb.cell (by have:=hbl;simp;omega)).trans (hc (t*8+1) _ (yal yad l t o 1 ho Zq9))
   have q2:wr.cell? ⟨b,off+t*8+2,none⟩=some (.int .i64 o.g.a):=(hb.cell (by have:=hbl;simp;omega)).trans (hc (t*8+2) _ (yal yad l t o 2 ho Zq9))
   have q3:wr.cell? ⟨b,off+t*8+3,none⟩=some (.int .i64 o.g.b):=(hb.cell (by have:=hbl;simp;omega)).trans (hc (t*8+3) _ (yal yad l t o 3 ho Zq9))
   have q4:wr.cell? ⟨b,off+t*8+4,none⟩=some (.int .i64 o.g.c):=(hb.cell (by have:=hbl;simp;omega)).trans (hc (t*8+4) _ (yal yad l t o 4 ho Zq9))
   have q5:wr.cell? ⟨b,off+t*8+5,none⟩=some (.int .i64 o.q):=(hb.cell (by have:=hbl;simp;omega)).trans (hc (t*8+5) _ (yal yad l t o 5 ho Zq9))
   have q6:wr.cell? ⟨b,off+t*8+6,none⟩=some (.int .i64 o.bit):=(hb.cell (by have:=hbl;simp;omega)).trans (hc (t*8+6) _ (yal yad l t o 6 ho Zq9))
   have q7:wr.cell? ⟨b,off+t*8+7,none⟩=some (.int .i64 o.cond):=(hb.cell (by have:=hbl;simp;omega)).trans (hc (t*8+7) _ (yal yad l t o 7 ho Zq9))
   have HS:=hD (yjb l t o ho)
   clear hc ho htl
   by_cases hk:o.k=1
   ·have hk':(o.k==1)=true:=by simp [hk]
    have HK:=hD hk
    clear hk
    go_wp2
    go_roundw
    case rel=>exact ⟨t+1,by omega,by go_num,by rw[HS.out,if_pos HK.out,←HG.out];go_num,Zq0⟩
    case measure=>simp [intOf];omega
   ·have hk':(o.k==1)=false:=by simp [hk]
    have HK:=hD hk
    clear hk
    go_wp2
    go_roundw
    case rel=>exact ⟨t+1,by omega,by go_num,by rw[HS.out,if_neg HK.out,←HG.out];go_num,Zq0⟩
    case measure=>simp [intOf];omega
  ·obtain rfl:t=n:=by omega
   have HT:Hid (G=ycc l):=by
    have h:=HG.out
    rw[List.take_of_length_le (by rw[HL.out];exact Nat.le_refl _)] at h
    exact h
   go_wp2
   go_ret
   exact ⟨by rw[←HT.out];rfl,b0.trans (hb.mono (by have:=S0.out;omega)),by have:=hb.size;have:=S0.out;omega⟩
def eqRt (N I B:Int) (l:List Opt) (N' I' B':Int) (l':List Opt):Bool:=N==N'&&(I==I'&&(B==B'&&eqOs l l'))
theorem yi2 (N I B N' I' B':Int) (A A':Option Addr) (n n' c c':Nat) (l l':List Opt) (w:World) (hl:l.length=n) (hl':l'.length=n') (hn:n≤1099511627776) (h1:Rd w 8 A n (l.flatMap yan)) (h2:Rd w 8 A' n' (l'.flatMap yan)) :
  Calls Tryz.prog 26 #[.agg #[.int .i64 N,.int .i64 I,.int .i64 B,.slice A n c],.agg #[.int .i64 N',.int .i64 I',.int .i64 B',.slice A' n' c']] w fun e w'=>e=.returned (.bool (eqRt N I B l N' I' B' l'))∧Below w.heap.size w w'∧w.heap.size≤w'.heap.size:=by
 have b0:Below w.heap.size w ((w.alloc (.cells #[.int .i64 N,.int .i64 I,.int .i64 B,.slice A n c] 40)).alloc (.cells #[.int .i64 N',.int .i64 I',.int .i64 B',.slice A' n' c'] 40)):=Zq0
 have H1:=hD (h1.below b0)
 have H2:=hD (h2.below b0)
 have HL:=hD hl
 have HL':=hD hl'
 clear h1 h2 hl hl' b0
 cases e1:(N==N')
 ·have HF:=hD (show eqRt N I B l N' I' B' l'=false by simp [eqRt,e1])
  go_enter Tryz.func26,Tryz.ntmps26
  go_wp2_with fail
  go_ret
  exact ⟨by rw[HF.out];rfl,Zq0,Zq5⟩
 cases e2:(I==I')
 ·have HF:=hD (show eqRt N I B l N' I' B' l'=false by simp [eqRt,e2])
  go_enter Tryz.func26,Tryz.ntmps26
  go_wp2_with fail
  go_ret
  exact ⟨by rw[HF.out];rfl,Zq0,Zq5⟩
 cases e3:(B==B')
 ·have HF:=hD (show eqRt N I B l N' I' B' l'=false by simp [eqRt,e3])
  go_enter Tryz.func26,Tryz.ntmps26
  go_wp2_with fail
  go_ret
  exact ⟨by rw[HF.out];rfl,Zq0,Zq5⟩
 have HF:=hD (show eqRt N I B l N' I' B' l'=eqOs l l' by rw[eqRt,e1,e2,e3];simp)
 go_enter Tryz.func26,Tryz.ntmps26
 go_wp2_with fail
 refine(ynx _ _ _ _ _ _ l l' _ HL.out HL'.out hn H1.out H2.out).mono ?_
 rintro e w1 ⟨rfl,b1,s1⟩
 simp at s1
 go_wp2_with fail
 go_ret
 exact ⟨by rw[HF.out];rfl,Zq0,Zq5⟩
def okO (N B K:Int) (o:Opt):Bool:=yaf o N B&&(!decide (K<o.cond)&&!(o.k==2&&o.bit != K))
def vst (N B:Int) (s:Option Int) (o:Opt):Option Int:=match s with
 | none=>none
 | some K=>if okO N B K o=true then some (K+if o.k=2 then 1 else 0) else none
def vrun (N B:Int) (l:List Opt):Option Int:=l.foldl (vst N B) (some 0)
def yb0 (N I B:Int) (l:List Opt):Bool:=inB N 1 4&&(inB I 1 N&&(inB B 0 3&&(decide (l.length≤120)&&vrun N B l==some B)))
theorem ykg {N I B:Int} {l:List Opt} (e1:inB N 1 4=true) (e2:inB I 1 N=true) (e3:inB B 0 3=true) (h:l.length≤120):yb0 N I B l=(vrun N B l==some B):=by
 unfold yb0;rw[e1,e2,e3];simp [h]
theorem ygq {N B K:Int} {l:List Opt} {t:Nat} {o:Opt} (h:vrun N B (l.take t)=some K) (ho:l[t]?=some o) (hk:okO N B K o=true):vrun N B (l.take (t+1))=some (K+if o.k=2 then 1 else 0):=by
 rw[List.take_add_one,ho]
 unfold vrun at h ⊢
 rw[List.foldl_append,h]
 simp [vst,hk]
theorem ysk (N B:Int) (l:List Opt):l.foldl (vst N B) none=none:=by
 induction l with
 | nil=>rfl
 | cons x l ih=>exact ih
theorem yfg {N B K:Int} {l:List Opt} {t:Nat} {o:Opt} (h:vrun N B (l.take t)=some K) (ho:l[t]?=some o) (hk:okO N B K o=false):vrun N B l=none:=by
 have hlt:=(List.getElem?_eq_some_iff.1 ho).1
 have e:l=l.take t++o :: l.drop (t+1):=by
  have h1:=List.drop_eq_getElem_cons hlt
  have h2:l[t]=o:=by have:=(List.getElem?_eq_some_iff.1 ho).2;exact this
  rw[h2] at h1
  rw[←h1,List.take_append_drop]
 unfold vrun at h ⊢
 rw[e,List.foldl_append,h,List.foldl_cons]
 have:vst N B (some K) o=none:=by simp [vst,hk]
 rw[this]
 exact ysk N B _
theorem ys0 {o:Opt} (h:(o.k==2)=true):o.k=2:=by simpa using h
theorem yq6 {o:Opt} (h:(o.k==2)=false):¬ o.k=2:=by simpa using h
theorem yfc (N I B:Int) (A:Option Addr) (n c:Nat) (l:List Opt) (w:World) (h:Rd w 8 A n (l.flatMap yan)) (hl:l.length=n) (hn:n≤1099511627776) :
  Calls Tryz.prog 63 #[.agg #[.int .i64 N,.int .i64 I,.int .i64 B,.slice A n c]] w fun e w'=>e=.returned (.bool (yb0 N I B l))∧Below w.heap.size w w'∧w.heap.size≤w'.heap.size:=by
 have b0:Below w.heap.size w (w.alloc (.cells #[.int .i64 N,.int .i64 I,.int .i64 B,.slice A n c] 40)):=Zq0
 have H:=hD (h.below b0)
 have HL:=hD hl
 clear h hl b0
 cases e1:inB N 1 4
 ·have HF:=hD (show yb0 N I B l=false by simp [yb0,e1])
  go_enter Tryz.func63,Tryz.ntmps63
  go_wp2_with (go_at_call 47;refine(yag _ _ _ _).mono ?_;rintro e w' ⟨rfl,rfl⟩)
  go_ret
  exact ⟨by rw[HF.out];rfl,Zq0,Zq5⟩
 cases e2:inB I 1 N
 ·have HF:=hD (show yb0 N I B l=false by simp [yb0,e2])
  go_enter Tryz.func63,Tryz.ntmps63
  go_wp2_with (go_at_call 47;refine(yag _ _ _ _).mono ?_;rintro e w' ⟨rfl,rfl⟩)
  go_ret
  exact ⟨by rw[HF.out];rfl,Zq0,Zq5⟩
 cases e3:inB B 0 3
 ·have HF:=hD (show yb0 N I B l=false by simp [yb0,e3])
  go_enter Tryz.func63,Tryz.ntmps63
  go_wp2_with (go_at_call 47;refine(yag _ _ _ _).mono ?_;rintro e w' ⟨rfl,rfl⟩)
  go_ret
  exact ⟨by rw[HF.out];rfl,Zq0,Zq5⟩
 by_cases hle:n≤120
 case neg =>
  have HF:=hD (show yb0 N I B l=false by have:=HL.out;simp [yb0];omega)
  have hgt:120<n:=by omega
  clear hle
  go_enter Tryz.func63,Tryz.ntmps63
  go_wp2_with (go_at_call 47;refine(yag _ _ _ _).mono ?_;rintro e w' ⟨rfl,rfl⟩)
  go_ret
  exact ⟨by rw[HF.out];rfl,Zq0,Zq5⟩
 have HF:=hD (ykg e1 e2 e3 (show l.length≤120 by rw[HL.out];exact hle))
 have hBB:=ycf.1 e3
 go_enter Tryz.func63,Tryz.ntmps63
 go_wp2_with (go_at_call 47;refine(yag _ _ _ _).mono ?_;rintro e w' ⟨rfl,rfl⟩)
 obtain ⟨w0,hw0⟩:∃ w0,w0=w.alloc (.cells #[.int .i64 N,.int .i64 I,.int .i64 B,.slice A n c] 40):=⟨_,rfl⟩
 rw[←hw0] at H ⊢
 have x0:Hid (w0.heap[w.heap.size]?=some (.cells #[.int .i64 N,.int .i64 I,.int .i64 B,.slice A n c] 40 (0,0))):=by rw[hw0];exact yac _ _
 have b0:Below w.heap.size w w0:=by rw[hw0];exact Zq0
 have S0:=hD (show w.heap.size+1=w0.heap.size by rw[hw0];simp)
 clear hw0
 go_loopw [3,4] (fun m i wr=>∃ (t:Nat) (K:Int),t≤n∧i=.int .i64 t∧m=.int .i64 K∧0≤K∧K≤t∧vrun N B (l.take t)=some K∧Below w0.heap.size w0 wr) (fun _ i _=>n - (intOf i).toNat)
 case atStart=>exact ⟨0,0,Nat.zero_le _,rfl,rfl,by omega,by omega,rfl,Below.refl _ _⟩
 case round =>
  obtain ⟨t,K,ht,rfl,rfl,hK0,hK1,hcg,hb⟩:=hrel
  have hbs:=hb.size
  have hlt0:w.heap.size<wr.heap.size:=by have:=S0.out;omega
  have HC:=hD hcg
  clear hcg
  obtain ⟨p0,p1,p2,p3⟩:=yai (lay:=hb) x0.out
  by_cases hlt:t<n
  ·have htl:t<l.length:=by rw[HL.out];exact hlt
   obtain ⟨o,ho⟩:∃ o,l[t]?=some o:=⟨_,List.getElem?_eq_getElem htl⟩
   obtain ⟨b,off,rfl,hbl,hc⟩:=H.out.2 Zq6
   have q0:wr.cell? ⟨b,off+t*8,none⟩=some (.int .i64 o.k):=(hb.cell (by have:=hbl;simp;omega)).trans (hc (t*8+0) _ (yal yad l t o 0 ho Zq9))
   have q1:wr.cell? ⟨b,off+t*8+1,none⟩=some (.int .i64 o.g.k):=(hb.cell (by have:=hbl;simp;omega)).trans (hc (t*8+1) _ (yal yad l t o 1 ho Zq9))
   have q2:wr.cell? ⟨b,off+t*8+2,none⟩=some (.int .i64 o.g.a):=(hb.cell (by have:=hbl;simp;omega)).trans (hc (t*8+2) _ (yal yad l t o 2 ho Zq9))
   have q3:wr.cell? ⟨b,off+t*8+3,none⟩=some (.int .i64 o.g.b):=(hb.cell (by have:=hbl;simp;omega)).trans (hc (t*8+3) _ (yal yad l t o 3 ho Zq9))
   have q4:wr.cell? ⟨b,off+t*8+4,none⟩=some (.int .i64 o.g.c):=(hb.cell (by have:=hbl;simp;omega)).trans (hc (t*8+4) _ (yal yad l t o 4 ho Zq9))
   have q5:wr.cell? ⟨b,off+t*8+5,none⟩=some (.int .i64 o.q):=(hb.cell (by have:=hbl;simp;omega)).trans (hc (t*8+5) _ (yal yad l t o 5 ho Zq9))
   have q6:wr.cell? ⟨b,off+t*8+6,none⟩=some (.int .i64 o.bit):=(hb.cell (by have:=hbl;simp;omega)).trans (hc (t*8+6) _ (yal yad l t o 6 ho Zq9))
   have q7:wr.cell? ⟨b,off+t*8+7,none⟩=some (.int .i64 o.cond):=(hb.cell (by have:=hbl;simp;omega)).trans (hc (t*8+7) _ (yal yad l t o 7 ho Zq9))
   have HO:=hD ho
   clear hc ho htl
   go_wp2_with fail
   obtain ⟨w1,hw1⟩:∃ w1,w1=wr.alloc (.cells #[.int .i64 o.k,.int .i64 o.g.k,.int .i64 o.g.a,.int .i64 o.g.b,.int .i64 o.g.c,.int .i64 o.q,.int .i64 o.bit,.int .i64 o.cond] 104):=⟨_,rfl⟩
   rw[←hw1]
   have x1:Hid (w1.heap[wr.heap.size]?=some (.cells #[.int .i64 o.k,.int .i64 o.g.k,.int .i64 o.g.a,.int .i64 o.g.b,.int .i64 o.g.c,.int .i64 o.q,.int .i64 o.bit,.int .i64 o.cond] 104 (0,0))):=by rw[hw1];exact yac _ _
   have b1:Below w0.heap.size w0 w1:=by rw[hw1];exact hb.alloc hbs _
   have s1:wr.heap.size+1=w1.heap.size:=by rw[hw1];simp
   have S1:=hD s1
   clear hw1 s1 p0 p1 p2 p3 q0 q1 q2 q3 q4 q5 q6 q7
   refine(yku _ _ _ _ _ _ _ _ _ _ _).mono ?_
   rintro e w2 ⟨rfl,b2,s2⟩
   have hs1:=S1.out
   have b12:Below w0.heap.size w0 w2:=b1.trans (b2.mono Zq6)
   have hle2:wr.heap.size<w2.heap.size:=by omega
   clear hs1
   obtain ⟨p0,p1,p2,p3⟩:=yai (lay:=b12) x0.out
   obtain ⟨z0,z1,z2,z3,z4,z5,z6,z7⟩:=ya0 (lay:=b2) x1.out
   cases hv:yaf ⟨o.k,⟨o.g.k,o.g.a,o.g.b,o.g.c⟩,o.q,o.bit,o.cond⟩ N B
   ·have HE:=hD (yfg HC.out HO.out (by simp only[okO];rw[show yaf o N B=false from hv];rfl))
    go_wp2_with fail
    all_goals go_ret
    all_goals exact ⟨by rw[HF.out,HE.out];rfl,b0.trans (b12.mono (by have:=S0.out;omega)),by have:=S0.out;have:=S1.out;omega⟩
   by_cases hco:K<o.cond
   ·have HE:=hD (yfg HC.out HO.out (by simp [okO,hco]))
    go_wp2_with fail
    all_goals go_ret
    all_goals exact ⟨by rw[HF.out,HE.out];rfl,b0.trans (b12.mono (by have:=S0.out;omega)),by have:=S0.out;have:=S1.out;omega⟩
   have hco2:o.cond≤K:=by omega
   have HCO:=hD hco
   clear hco
   cases hk:(o.k==2)
   ·have HS:=hD (ygq HC.out HO.out (by simp only[okO];rw[show yaf o N B=true from hv,hk];simp [HCO.out]))
    have HK:=hD hk
    go_wp2_with fail
    go_roundw
    case rel=>exact ⟨t+1,K,by omega,by go_num,rfl,by omega,by omega,by rw[HS.out];exact congrArg some (by simp [yq6 HK.out]),b12⟩
    case measure=>simp [intOf];omega
   cases hbt:(o.bit==K)
   ·have hbt':(o.bit != K)=true:=by simp only[bne,hbt];rfl
    have HE:=hD (yfg HC.out HO.out (by simp only[okO];rw[hk,hbt'];simp))
    go_wp2_with fail
    all_goals go_ret
    all_goals exact ⟨by rw[HF.out,HE.out];rfl,b0.trans (b12.mono (by have:=S0.out;omega)),by have:=S0.out;have:=S1.out;omega⟩
   ·have hbt':(o.bit != K)=false:=by simp only[bne,hbt];rfl
    have HS:=hD (ygq HC.out HO.out (by simp only[okO];rw[show yaf o N B=true from hv,hk,hbt'];simp [HCO.out]))
    have HK:=hD hk
    go_wp2_with fail
    go_roundw
    case rel=>exact ⟨t+1,K+1,by omega,by go_num,rfl,by omega,by omega,by rw[HS.out];exact congrArg some (by simp [ys0 HK.out]),b12⟩
    case measure=>simp [intOf];omega
  ·obtain rfl:t=n:=by omega
   have HT:Hid (vrun N B l=some K):=by
    have h:=HC.out
    rw[List.take_of_length_le (by rw[HL.out];exact Nat.le_refl _)] at h
    exact h
   go_wp2_with fail
   go_ret
   exact ⟨by rw[HF.out,HT.out];rfl,b0.trans (hb.mono (by have:=S0.out;omega)),by have:=hb.size;have:=S0.out;omega⟩
theorem yek (N I B:Int) (A:Option Addr) (n c:Nat) (l:List Opt) (w:World) (h:Rd w 8 A n (l.flatMap yan)) (hl:l.length=n) (hn:n≤1099511627776) :
  Calls Tryz.prog 28 #[.agg #[.int .i64 N,.int .i64 I,.int .i64 B,.slice A n c]] w fun e w'=>e=.returned (.bool (yb0 N I B l))∧Below w.heap.size w w'∧w.heap.size≤w'.heap.size:=by
 have b0:Below w.heap.size w (w.alloc (.cells #[.int .i64 N,.int .i64 I,.int .i64 B,.slice A n c] 40)):=Zq0
 have H:=hD (h.below b0)
 have HL:=hD hl
 clear h hl b0
 cases e1:inB N 1 4
 ·have HF:=hD (show yb0 N I B l=false by simp [yb0,e1])
  go_enter Tryz.func28,Tryz.ntmps28
  go_wp2_with (go_at_call 44;refine(yav _ _ _ _).mono ?_;rintro e w' ⟨rfl,rfl⟩)
  go_ret
  exact ⟨by rw[HF.out];rfl,Zq0,Zq5⟩
 cases e2:inB I 1 N
 ·have HF:=hD (show yb0 N I B l=false by simp [yb0,e2])
  go_enter Tryz.func28,Tryz.ntmps28
  go_wp2_with (go_at_call 44;refine(yav _ _ _ _).mono ?_;rintro e w' ⟨rfl,rfl⟩)
  go_ret
  exact ⟨by rw[HF.out];rfl,Zq0,Zq5⟩
 cases e3:inB B 0 3
 ·have HF:=hD (show yb0 N I B l=false by simp [yb0,e3])
  go_enter Tryz.func28,Tryz.ntmps28
  go_wp2_with (go_at_call 44;refine(yav _ _ _ _).mono ?_;rintro e w' ⟨rfl,rfl⟩)
  go_ret
  exact ⟨by rw[HF.out];rfl,Zq0,Zq5⟩
 by_cases hle:n≤120
 case neg =>
  have HF:=hD (show yb0 N I B l=false by have:=HL.out;simp [yb0];omega)
  have hgt:120<n:=by omega
  clear hle
  go_enter Tryz.func28,Tryz.ntmps28
  go_wp2_with (go_at_call 44;refine(yav _ _ _ _).mono ?_;rintro e w' ⟨rfl,rfl⟩)
  go_ret
  exact ⟨by rw[HF.out];rfl,Zq0,Zq5⟩
 have HF:=hD (ykg e1 e2 e3 (show l.length≤120 by rw[HL.out];exact hle))
 have hBB:=ycf.1 e3
 go_enter Tryz.func28,Tryz.ntmps28
 go_wp2_with (go_at_call 44;refine(yav _ _ _ _).mono ?_;rintro e w' ⟨rfl,rfl⟩)
 obtain ⟨w0,hw0⟩:∃ w0,w0=w.alloc (.cells #[.int .i64 N,.int .i64 I,.int .i64 B,.slice A n c] 40):=⟨_,rfl⟩
 rw[←hw0] at H ⊢
 have x0:Hid (w0.heap[w.heap.size]?=some (.cells #[.int .i64 N,.int .i64 I,.int .i64 B,.slice A n c] 40 (0,0))):=by rw[hw0];exact yac _ _
 have b0:Below w.heap.size w w0:=by rw[hw0];exact Zq0
 have S0:=hD (show w.heap.size+1=w0.heap.size by rw[hw0];simp)
 clear hw0
 go_loopw [3,33] (fun m i wr=>∃ (t:Nat) (K:Int),t≤n∧i=.int .i64 t∧m=.int .i64 K∧0≤K∧K≤t∧vrun N B (l.take t)=some K∧Below w0.heap.size w0 wr) (fun _ i _=>n - (intOf i).toNat)
 case atStart=>exact ⟨0,0,Nat.zero_le _,rfl,rfl,by omega,by omega,rfl,Below.refl _ _⟩
 case round =>
  obtain ⟨t,K,ht,rfl,rfl,hK0,hK1,hcg,hb⟩:=hrel
  have hbs:=hb.size
  have hlt0:w.heap.size<wr.heap.size:=by have:=S0.out;omega
  have HC:=hD hcg
  clear hcg
  obtain ⟨p0,p1,p2,p3⟩:=yai (lay:=hb) x0.out
  by_cases hlt:t<n
  ·have htl:t<l.length:=by rw[HL.out];exact hlt
   obtain ⟨o,ho⟩:∃ o,l[t]?=some o:=⟨_,List.getElem?_eq_getElem htl⟩
   obtain ⟨b,off,rfl,hbl,hc⟩:=H.out.2 Zq6
   have q0:wr.cell? ⟨b,off+t*8,none⟩=some (.int .i64 o.k):=(hb.cell (by have:=hbl;simp;omega)).trans (hc (t*8+0) _ (yal yad l t o 0 ho Zq9))
   have q1:wr.cell? ⟨b,off+t*8+1,none⟩=some (.int .i64 o.g.k):=(hb.cell (by have:=hbl;simp;omega)).trans (hc (t*8+1) _ (yal yad l t o 1 ho Zq9))
   have q2:wr.cell? ⟨b,off+t*8+2,none⟩=some (.int .i64 o.g.a):=(hb.cell (by have:=hbl;simp;omega)).trans (hc (t*8+2) _ (yal yad l t o 2 ho Zq9))
   have q3:wr.cell? ⟨b,off+t*8+3,none⟩=some (.int .i64 o.g.b):=(hb.cell (by have:=hbl;simp;omega)).trans (hc (t*8+3) _ (yal yad l t o 3 ho Zq9))
   have q4:wr.cell? ⟨b,off+t*8+4,none⟩=some (.int .i64 o.g.c):=(hb.cell (by have:=hbl;simp;omega)).trans (hc (t*8+4) _ (yal yad l t o 4 ho Zq9))
   have q5:wr.cell? ⟨b,off+t*8+5,none⟩=some (.int .i64 o.q):=(hb.cell (by have:=hbl;simp;omega)).trans (hc (t*8+5) _ (yal yad l t o 5 ho Zq9))
   have q6:wr.cell? ⟨b,off+t*8+6,none⟩=some (.int .i64 o.bit):=(hb.cell (by have:=hbl;simp;omega)).trans (hc (t*8+6) _ (yal yad l t o 6 ho Zq9))
   have q7:wr.cell? ⟨b,off+t*8+7,none⟩=some (.int .i64 o.cond):=(hb.cell (by have:=hbl;simp;omega)).trans (hc (t*8+7) _ (yal yad l t o 7 ho Zq9))
   have HO:=hD ho
   clear hc ho htl
   go_wp2_with fail
   obtain ⟨w1,hw1⟩:∃ w1,w1=wr.alloc (.cells #[.int .i64 o.k,.int .i64 o.g.k,.int .i64 o.g.a,.int .i64 o.g.b,.int .i64 o.g.c,.int .i64 o.q,.int .i64 o.bit,.int .i64 o.cond] 104):=⟨_,rfl⟩
   rw[←hw1]
   have x1:Hid (w1.heap[wr.heap.size]?=some (.cells #[.int .i64 o.k,.int .i64 o.g.k,.int .i64 o.g.a,.int .i64 o.g.b,.int .i64 o.g.c,.int .i64 o.q,.int .i64 o.bit,.int .i64 o.cond] 104 (0,0))):=by rw[hw1];exact yac _ _
   have b1:Below w0.heap.size w0 w1:=by rw[hw1];exact hb.alloc hbs _
   have s1:wr.heap.size+1=w1.heap.size:=by rw[hw1];simp
   have S1:=hD s1
   clear hw1 s1 p0 p1 p2 p3 q0 q1 q2 q3 q4 q5 q6 q7
   refine(ykt _ _ _ _ _ _ _ _ _ _ _).mono ?_
   rintro e w2 ⟨rfl,b2,s2⟩
   have hs1:=S1.out
   have b12:Below w0.heap.size w0 w2:=b1.trans (b2.mono Zq6)
   have hle2:wr.heap.size<w2.heap.size:=by omega
   clear hs1
   obtain ⟨p0,p1,p2,p3⟩:=yai (lay:=b12) x0.out
   obtain ⟨z0,z1,z2,z3,z4,z5,z6,z7⟩:=ya0 (lay:=b2) x1.out
   cases hv:yaf ⟨o.k,⟨o.g.k,o.g.a,o.g.b,o.g.c⟩,o.q,o.bit,o.cond⟩ N B
   ·have HE:=hD (yfg HC.out HO.out (by simp only[okO];rw[show yaf o N B=false from hv];rfl))
    go_wp2_with fail
    all_goals go_ret
    all_goals exact ⟨by rw[HF.out,HE.out];rfl,b0.trans (b12.mono (by have:=S0.out;omega)),by have:=S0.out;have:=S1.out;omega⟩
   by_cases hco:K<o.cond
   ·have HE:=hD (yfg HC.out HO.out (by simp [okO,hco]))
    go_wp2_with fail
    all_goals go_ret
    all_goals exact ⟨by rw[HF.out,HE.out];rfl,b0.trans (b12.mono (by have:=S0.out;omega)),by have:=S0.out;have:=S1.out;omega⟩
   have hco2:o.cond≤K:=by omega
   have HCO:=hD hco
   clear hco
   cases hk:(o.k==2)
   ·have HS:=hD (ygq HC.out HO.out (by simp only[okO];rw[show yaf o N B=true from hv,hk];simp [HCO.out]))
    have HK:=hD hk
    go_wp2_with fail
    go_roundw
    case rel=>exact ⟨t+1,K,by omega,by go_num,rfl,by omega,by omega,by rw[HS.out];exact congrArg some (by simp [yq6 HK.out]),b12⟩
    case measure=>simp [intOf];omega
   cases hbt:(o.bit==K)
   ·have hbt':(o.bit != K)=true:=by simp only[bne,hbt];rfl
    have HE:=hD (yfg HC.out HO.out (by simp only[okO];rw[hk,hbt'];simp))
    go_wp2_with fail
    all_goals go_ret
    all_goals exact ⟨by rw[HF.out,HE.out];rfl,b0.trans (b12.mono (by have:=S0.out;omega)),by have:=S0.out;have:=S1.out;omega⟩
   ·have hbt':(o.bit != K)=false:=by simp only[bne,hbt];rfl
    have HS:=hD (ygq HC.out HO.out (by simp only[okO];rw[show yaf o N B=true from hv,hk,hbt'];simp [HCO.out]))
    have HK:=hD hk
    go_wp2_with fail
    go_roundw
    case rel=>exact ⟨t+1,K+1,by omega,by go_num,rfl,by omega,by omega,by rw[HS.out];exact congrArg some (by simp [ys0 HK.out]),b12⟩
    case measure=>simp [intOf];omega
  ·obtain rfl:t=n:=by omega
   have HT:Hid (vrun N B l=some K):=by
    have h:=HC.out
    rw[List.take_of_length_le (by rw[HL.out];exact Nat.le_refl _)] at h
    exact h
   go_wp2_with fail
   go_ret
   exact ⟨by rw[HF.out,HT.out];rfl,b0.trans (hb.mono (by have:=S0.out;omega)),by have:=hb.size;have:=S0.out;omega⟩
def RelS (r D:List Opt × Es):Prop:=(r.2.bad=false→r=D)∧(r.2.bad=true→120<D.1.length)
theorem yq7 {α:Type} {one:α→Es→List Opt × Es}:∀ (l:List α) (out:List Opt) (e:Es),out.length≤(dL one l out e).1.length:=by
 intro l
 induction l with
 | nil=>intro out e;exact Nat.le_refl _
 | cons s l ih =>
  intro out e
  have:=ih (out++(one s e).1) (one s e).2
  rw[List.length_append] at this
  show out.length≤(dL one l (out++(one s e).1) (one s e).2).1.length
  omega
section
variable {α:Type} {one oned:α→Es→List Opt × Es} (Q:List α→Es→Prop)
 (hQ:∀ s l e,Q (s :: l) e→e.bad=false→RelS (one s e) (oned s e)∧(oned s e).2.bad=false∧Q l (oned s e).2)
include hQ
theorem yli (hm:∀ s e,e.bad=true→(one s e).2.bad=true):∀ (l:List α) (out:List Opt) (e:Es) (outD:List Opt) (eD:Es),Q l eD→eD.bad=false →
  ((e.bad=false∧out=outD∧e=eD)∨(e.bad=true∧120<outD.length))→RelS (sL one l out e) (dL oned l outD eD):=by
 intro l
 induction l with
 | nil =>
  intro out e outD eD hq hb h
  rcases h with ⟨h1,rfl,rfl⟩|⟨h1,h2⟩
  ·exact ⟨fun _=>rfl,fun h=>by rw[show(sL one [] out e).2=e from rfl,h1] at h;cases h⟩
  ·exact ⟨fun h=>(by rw[show(sL one [] out e).2=e from rfl,h1] at h;cases h),fun _=>h2⟩
 | cons s l ih =>
  intro out e outD eD hq hb h
  obtain ⟨g1,g2,g3⟩:=hQ s l eD hq hb
  have hlen:=yq7 (one:=oned) l (outD++(oned s eD).1) (oned s eD).2
  rw[List.length_append] at hlen
  show RelS (if 2000<(out++(one s e).1).length then ([],⟨(one s e).2.bits,(one s e).2.most,true⟩) else sL one l (out++(one s e).1) (one s e).2) (dL oned l (outD++(oned s eD).1) (oned s eD).2)
  split
  ·rename_i hbig
   refine ⟨fun h=>(by cases h),fun _=>?_⟩
   rcases h with ⟨h1,rfl,rfl⟩|⟨h1,h2⟩
   ·cases hr:(one s e).2.bad
    ·rw[g1.1 hr,List.length_append] at hbig
     omega
    ·have:=g1.2 hr
     omega
   ·omega
  ·refine ih _ _ _ _ g3 g2 ?_
   rcases h with ⟨h1,rfl,rfl⟩|⟨h1,h2⟩
   ·cases hr:(one s e).2.bad
    ·have:=g1.1 hr
     exact .inl ⟨rfl,by rw[this],by rw[this]⟩
    ·have:=g1.2 hr
     exact .inr ⟨rfl,by rw[List.length_append];omega⟩
   ·exact .inr ⟨hm s e h1,by rw[List.length_append];omega⟩
theorem ylj:∀ (l:List α) (out:List Opt) (e:Es) (outD:List Opt) (eD:Es),Q l eD→eD.bad=false →
  ((e.bad=false∧out=outD∧e=eD)∨(e.bad=true∧120<outD.length))→RelS (iL one l out e) (dL oned l outD eD):=by
 intro l
 induction l with
 | nil =>
  intro out e outD eD hq hb h
  rcases h with ⟨h1,rfl,rfl⟩|⟨h1,h2⟩
  ·exact ⟨fun _=>rfl,fun h=>by rw[show(iL one [] out e).2=e from rfl,h1] at h;cases h⟩
  ·exact ⟨fun h=>(by rw[show(iL one [] out e).2=e from rfl,h1] at h;cases h),fun _=>h2⟩
 | cons s l ih =>
  intro out e outD eD hq hb h
  obtain ⟨g1,g2,g3⟩:=hQ s l eD hq hb
  have hlen:=yq7 (one:=oned) l (outD++(oned s eD).1) (oned s eD).2
  rw[List.length_append] at hlen
  show RelS (if e.bad=true then ([],e) else iL one l (out++(one s e).1) ⟨(one s e).2.bits,(one s e).2.most,(one s e).2.bad || decide (120<(out++(one s e).1).length)⟩) (dL oned l (outD++(oned s eD).1) (oned s eD).2)
  rcases h with ⟨h1,rfl,rfl⟩|⟨h1,h2⟩
  ·rw[if_neg (by rw[h1];exact Bool.false_ne_true)]
   refine ih _ _ _ _ g3 g2 ?_
   cases hr:(one s e).2.bad
   ·have hone:=g1.1 hr
    by_cases hbig:120<(out++(one s e).1).length
    ·exact .inr ⟨by simp only[decide_eq_true hbig,Bool.or_true],by rw[hone] at hbig;exact hbig⟩
    ·refine .inl ⟨by simp only[decide_eq_false hbig,Bool.or_false],by rw[hone],?_⟩
     rw[decide_eq_false hbig,Bool.or_false]
     have e1:(⟨(one s e).2.bits,(one s e).2.most,false⟩:Es)=(one s e).2:=by rw[←hr]
     rw[e1,hone]
   ·have:=g1.2 hr
    exact .inr ⟨by simp only[Bool.true_or],by rw[List.length_append];omega⟩
  ·rw[if_pos h1]
   exact ⟨fun h=>(by rw[show(([]:List Opt),e).2=e from rfl,h1] at h;cases h),fun _=>by omega⟩
end
def Ctl (names held:List ByteArray) (o:Opt):Prop:=o.k=1→ybs o.g 4=true∧(∀ a,hasS held a=true→yb4 o.g (fS names a)=false)∧ctlS o.g.k held.length=true
def Cx (names held:List ByteArray):Prop:=names.length≤4∧∀ a,hasS held a=true→hasS names a=true
theorem yjt {g:Gt} {q:Int}:yb4 g q=true ↔ q∈(qsOf g).take (ar g.k):=by unfold yb4 hasI;simp
theorem ar_1 {k:Int} (h1:1≤k) (h2:k≤8):ar k=1:=if_pos (ycf.2 ⟨h1,h2⟩)
theorem ar_2 {k:Int} (h1:9≤k) (h2:k≤11):ar k=2:=by
 unfold ar
 rw[if_neg (fun h=>by have:=ycf.1 h;omega),if_pos (ycf.2 ⟨h1,h2⟩)]
theorem ar_3:ar 12=3:=by decide
theorem yiv {g:Gt} (ha:ar g.k=1):ybs g 4=true ↔ (0≤g.a∧g.a≤3)∧g.b=0∧g.c=0:=by
 unfold ybs
 rw[ha]
 simp [yd9,yd8,qsOf,ycf,and_assoc,show inB 4 1 4=true from by decide]
theorem yiw {g:Gt} (ha:ar g.k=2):ybs g 4=true ↔ (0≤g.a∧g.a≤3)∧(0≤g.b∧g.b≤3)∧g.b≠g.a∧g.c=0:=by
 unfold ybs
 rw[ha]
 simp [yd9,yd8,qsOf,ycf,and_assoc,show inB 4 1 4=true from by decide]
theorem yok {g:Gt} (ha:ar g.k=3):ybs g 4=true ↔ (0≤g.a∧g.a≤3)∧(0≤g.b∧g.b≤3)∧g.b≠g.a∧(0≤g.c∧g.c≤3)∧g.c≠g.a∧g.c≠g.b:=by
 unfold ybs
 rw[ha]
 simp [yd9,yd8,qsOf,ycf,and_assoc,show inB 4 1 4=true from by decide]
theorem yii {g:Gt} {q:Int} (ha:ar g.k=1):yb4 g q=true ↔ q=g.a:=by rw[yjt,ha];simp [qsOf]
theorem ygm {g:Gt} {q:Int} (ha:ar g.k=2):yb4 g q=true ↔ q=g.a∨q=g.b:=by rw[yjt,ha];simp [qsOf]
theorem yq8 {g:Gt} {q:Int} (ha:ar g.k=3):yb4 g q=true ↔ q=g.a∨q=g.b∨q=g.c:=by rw[yjt,ha];simp [qsOf]
theorem yt0 {q:Int} {g:Gt} {L:List Gt} (hv:ybs g 4=true) (hq:0≤q∧q≤3) (ha:yb4 g q=false) (h:cgl q g=some L) :
  1≤L.length∧∀ g'∈L,ybs g' 4=true∧∀ p,yb4 g' p=true→p=q∨yb4 g p=true:=by
 have hk:=ygy hv
 obtain ⟨k,a,b,c⟩:=g
 have hk:1≤k∧k≤12:=hk
 by_cases h8:k≤8
 ·have a1:ar (⟨k,a,b,c⟩:Gt).k=1:=ar_1 hk.1 h8
  have v1:=(yiv a1).1 hv
  have n1:q≠a:=fun e=>by have:=(yii a1).2 e;rw[this] at ha;cases ha
  have v1:(0≤a∧a≤3)∧b=0∧c=0:=v1
  have hA:yb4 (⟨k,a,b,c⟩:Gt) a=true:=(yii a1).2 rfl
  have one:∀ j:Int,1≤j→j≤8→∀ x,(x=a∨x=q)→ybs (g1 j x) 4=true∧∀ p,yb4 (g1 j x) p=true→p=q∨yb4 (⟨k,a,b,c⟩:Gt) p=true:=by
   intro j j1 j2 x hx
   have aj:ar (g1 j x).k=1:=ar_1 j1 j2
   refine ⟨(yiv aj).2 ⟨show 0≤x∧x≤3 by rcases hx with rfl|rfl;exact v1.1;exact hq,rfl,rfl⟩,fun p hp=>?_⟩
   have hp:p=x:=(yii aj).1 hp
   subst hp
   rcases hx with rfl|rfl
   ·exact .inr hA
   ·exact .inl rfl
  have two:∀ j:Int,9≤j→j≤11→ybs ⟨j,q,a,0⟩ 4=true∧∀ p,yb4 ⟨j,q,a,0⟩ p=true→p=q∨yb4 (⟨k,a,b,c⟩:Gt) p=true:=by
   intro j j1 j2
   have aj:ar (⟨j,q,a,0⟩:Gt).k=2:=ar_2 j1 j2
   refine ⟨(yiw aj).2 ⟨hq,v1.1,fun e=>n1 e.symm,rfl⟩,fun p hp=>?_⟩
   rcases (ygm aj).1 hp with hp|hp
   ·exact .inl hp
   ·have hp:p=a:=hp
    subst hp
    exact .inr hA
  have cx:ybs (gcx q a) 4=true∧∀ p,yb4 (gcx q a) p=true→p=q∨yb4 (⟨k,a,b,c⟩:Gt) p=true:=two 9 Zq6 Zq6
  simp only[cgl] at h
  repeat' (split at h)
  all_goals (first|(cases h;done)|(injection h with h;subst h;refine ⟨by simp,fun g' hg'=>?_⟩;simp only[List.mem_cons,List.not_mem_nil,or_false] at hg'))
  ·subst hg';exact cx
  ·rcases hg' with rfl|rfl|rfl
   ·exact one 6 Zq6 Zq6 a (.inl rfl)
   ·exact cx
   ·exact one 5 Zq6 Zq6 a (.inl rfl)
  ·subst hg';exact two 10 Zq6 Zq6
  ·rcases hg' with rfl|rfl|rfl|rfl|rfl|rfl|rfl
   ·exact one 6 Zq6 Zq6 a (.inl rfl)
   ·exact one 4 Zq6 Zq6 a (.inl rfl)
   ·exact one 8 Zq6 Zq6 a (.inl rfl)
   ·exact cx
   ·exact one 7 Zq6 Zq6 a (.inl rfl)
   ·exact one 4 Zq6 Zq6 a (.inl rfl)
   ·exact one 5 Zq6 Zq6 a (.inl rfl)
  ·rcases hg' with rfl|rfl|rfl|rfl|rfl
   ·exact one 7 Zq6 Zq6 q (.inr rfl)
   ·exact one 7 Zq6 Zq6 a (.inl rfl)
   ·exact cx
   ·exact one 8 Zq6 Zq6 a (.inl rfl)
   ·exact cx
  ·rcases hg' with rfl|rfl|rfl|rfl|rfl
   ·exact one 8 Zq6 Zq6 q (.inr rfl)
   ·exact one 8 Zq6 Zq6 a (.inl rfl)
   ·exact cx
   ·exact one 7 Zq6 Zq6 a (.inl rfl)
   ·exact cx
  all_goals omega
 ·by_cases h12:k=12
  ·subst h12
   simp [cgl] at h
  ·have a2:ar (⟨k,a,b,c⟩:Gt).k=2:=ar_2 (by show 9≤k;omega) (by show k≤11;omega)
   have v2:(0≤a∧a≤3)∧(0≤b∧b≤3)∧b≠a∧c=0:=(yiw a2).1 hv
   have n1:q≠a:=fun e=>by have:=(ygm a2).2 (.inl e);rw[this] at ha;cases ha
   have n2:q≠b:=fun e=>by have:=(ygm a2).2 (.inr e);rw[this] at ha;cases ha
   have hA:yb4 (⟨k,a,b,c⟩:Gt) a=true:=(ygm a2).2 (.inl rfl)
   have hB:yb4 (⟨k,a,b,c⟩:Gt) b=true:=(ygm a2).2 (.inr rfl)
   have h4:ybs (g1 4 b) 4=true∧∀ p,yb4 (g1 4 b) p=true→p=q∨yb4 (⟨k,a,b,c⟩:Gt) p=true:=by
    have aj:ar (g1 4 b).k=1:=ar_1 (k:=4) Zq9 Zq9
    refine ⟨(yiv aj).2 ⟨v2.2.1,rfl,rfl⟩,fun p hp=>?_⟩
    have hp:p=b:=(yii aj).1 hp
    subst hp
    exact .inr hB
   have hba:ybs (gcx b a) 4=true∧∀ p,yb4 (gcx b a) p=true→p=q∨yb4 (⟨k,a,b,c⟩:Gt) p=true:=by
    have aj:ar (gcx b a).k=2:=ar_2 (k:=9) Zq9 Zq9
    refine ⟨(yiw aj).2 ⟨v2.2.1,v2.1,fun e=>v2.2.2.1 e.symm,rfl⟩,fun p hp=>?_⟩
    rcases (ygm aj).1 hp with hp|hp
    ·have hp:p=b:=hp
     subst hp
     exact .inr hB
    ·have hp:p=a:=hp
     subst hp
     exact .inr hA
   have ccx:ybs ⟨12,q,a,b⟩ 4=true∧∀ p,yb4 ⟨12,q,a,b⟩ p=true→p=q∨yb4 (⟨k,a,b,c⟩:Gt) p=true:=by
    have aj:ar (⟨12,q,a,b⟩:Gt).k=3:=ar_3
    refine ⟨(yok aj).2 ⟨hq,v2.1,fun e=>n1 e.symm,v2.2.1,fun e=>n2 e.symm,v2.2.2.1⟩,fun p hp=>?_⟩
    rcases (yq8 aj).1 hp with hp|hp|hp
    ·exact .inl hp
    ·have hp:p=a:=hp
     subst hp
     exact .inr hA
    ·have hp:p=b:=hp
     subst hp
     exact .inr hB
   simp only[cgl] at h
   repeat' (split at h)
   all_goals (first|(exfalso;omega)|(cases h;done)|(injection h with h;subst h;refine ⟨by simp,fun g' hg'=>?_⟩;simp only[List.mem_cons,List.not_mem_nil,or_false] at hg'))
   ·subst hg';exact ccx
   ·rcases hg' with rfl|rfl|rfl
    ·exact h4
    ·exact ccx
    ·exact h4
   ·rcases hg' with rfl|rfl|rfl
    ·exact hba
    ·exact ccx
    ·exact hba
theorem yq9 {q:Int} {g:Gt} {c:Nat} (hv:ybs g 4=true) (hq:0≤q∧q≤3) (ha:yb4 g q=false) (hc:ctlS g.k (c+1)=true) :
  ∃ L,ydj q g=some L∧1≤L.length∧∀ g'∈L,ybs g' 4=true∧(∀ p,yb4 g' p=true→p=q∨yb4 g p=true)∧ctlS g'.k c=true:=by
 have hqb:inB q 0 3=true:=ycf.2 hq
 have hk:=ygy hv
 rw[ykr hv hqb ha]
 have key:∃ L,cgl q g=some L∧∀ g'∈L,ctlS g'.k c=true:=by
  obtain ⟨k,a,b,z⟩:=g
  have hk:1≤k∧k≤12:=hk
  have hc:ctlS k (c+1)=true:=hc
  cases c with
  | zero =>
   unfold ctlS at hc
   rw[if_neg Zq6,if_pos Zq6] at hc
   simp only[Bool.and_eq_true,bne_iff_ne,ne_eq] at hc
   have h9:k=1∨k=2∨k=3∨k=4∨k=5∨k=6∨k=9∨k=10∨k=11:=by omega
   rcases h9 with rfl|rfl|rfl|rfl|rfl|rfl|rfl|rfl|rfl <;> exact ⟨_,rfl,fun _ _=>rfl⟩
  | succ c =>
   unfold ctlS at hc
   rw[if_neg Zq6,if_neg Zq6] at hc
   simp only[Bool.and_eq_true,Bool.or_eq_true,decide_eq_true_eq,beq_iff_eq] at hc
   obtain ⟨h2,h13⟩:=hc
   obtain rfl:c=0:=by omega
   rcases h13 with rfl|rfl
   ·exact ⟨_,rfl,fun g' hg=>by simp only[List.mem_singleton] at hg;subst hg;show ctlS 9 1=true;decide⟩
   ·exact ⟨_,rfl,fun g' hg=>by simp only[List.mem_singleton] at hg;subst hg;show ctlS 10 1=true;decide⟩
 obtain ⟨L,h1,h2⟩:=key
 obtain ⟨h3,h4⟩:=yt0 hv hq ha h1
 exact ⟨L,h1,h3,fun g' hg=>⟨(h4 g' hg).1,(h4 g' hg).2,h2 g' hg⟩⟩
theorem yuf {q:Int}:∀ {D:List Opt},(∀ o∈D,o.k=1→∃ L,ydj q o.g=some L∧1≤L.length) →
  ∃ R,cos q D=some R∧D.length≤R.length∧∀ o'∈R,(o'∈D∧o'.k≠1)∨∃ o∈D,o.k=1∧∃ L,ydj q o.g=some L∧∃ g'∈L,o'=gop o.cond g':=by
 intro D
 induction D with
 | nil=>intro _;exact ⟨[],rfl,Nat.le_refl _,fun _ h=>by cases h⟩
 | cons o D ih =>
  intro h
  obtain ⟨R,h1,h2,h3⟩:=ih (fun x hx=>h x (List.mem_cons_of_mem _ hx))
  by_cases hk:o.k=1
  ·obtain ⟨L,h4,h5⟩:=h o (List.mem_cons_self ..) hk
   have hB:coB q o=true:=by unfold coB cgB;rw[if_pos hk,h4];rfl
   have hL:coL q o=L.map (gop o.cond):=by unfold coL cgL;rw[if_pos hk,h4];rfl
   refine ⟨coL q o++R,by simp only[cos,hB,if_true,h1,Option.map_some],by rw[List.length_append,hL,List.length_map,List.length_cons];omega,fun o' ho=>?_⟩
   rcases List.mem_append.1 ho with ho|ho
   ·rw[hL] at ho
    obtain ⟨g',hg,rfl⟩:=List.mem_map.1 ho
    exact .inr ⟨o,List.mem_cons_self ..,hk,L,h4,g',hg,rfl⟩
   ·rcases h3 o' ho with ⟨a1,a2⟩|⟨x,a1,a2⟩
    ·exact .inl ⟨List.mem_cons_of_mem _ a1,a2⟩
    ·exact .inr ⟨x,List.mem_cons_of_mem _ a1,a2⟩
  ·have hB:coB q o=true:=by unfold coB;rw[if_neg hk]
   have hL:coL q o=[o]:=by unfold coL;rw[if_neg hk]
   refine ⟨coL q o++R,by simp only[cos,hB,if_true,h1,Option.map_some],by rw[hL];simp only[List.length_append,List.length_cons,List.length_nil];omega,fun o' ho=>?_⟩
   rcases List.mem_append.1 ho with ho|ho
   ·rw[hL] at ho
    simp only[List.mem_singleton] at ho
    subst ho
    exact .inl ⟨List.mem_cons_self ..,hk⟩
   ·rcases h3 o' ho with ⟨a1,a2⟩|⟨x,a1,a2⟩
    ·exact .inl ⟨List.mem_cons_of_mem _ a1,a2⟩
    ·exact .inr ⟨x,List.mem_cons_of_mem _ a1,a2⟩
theorem ysl {names held args:List ByteArray}:∀ (r:List ByteArray) (i:Nat),args.drop i=r→(chkA names held args i r).1=0→∀ j a,i≤j→args[j]?=some a→hasS names a=true∧hasS held a=false∧hasS (args.take j) a=false:=by
 intro r
 induction r with
 | nil =>
  intro i hd _ j a hj ha
  have h1:=(List.getElem?_eq_some_iff.1 ha).1
  have h2:args.length≤i:=by simpa using hd
  omega
 | cons x r ih =>
  intro i hd hc j a hj ha
  have hx:args[i]?=some x:=by
   have:=congrArg (·[0]?) hd
   simpa using this
  unfold chkA at hc
  split at hc
  ·have hc:(2:Int)=0:=hc
   omega
  ·rename_i h1
   split at hc
   ·have hc:(4:Int)=0:=hc
    omega
   ·rename_i h2
    split at hc
    ·have hc:(3:Int)=0:=hc
     omega
    ·rename_i h3
     by_cases hij:i=j
     ·subst hij
      rw[hx] at ha
      injection ha with ha
      subst ha
      exact ⟨by simpa using h1,by simpa using h2,by simpa using h3⟩
     ·refine ih (i+1) ?_ hc j a Zq6 ha
      rw[←List.drop_drop,hd]
      rfl
theorem yju (k:Int):ar k=0∨ar k=1∨ar k=2∨ar k=3:=by
 unfold ar
 split
 ·exact .inr (.inl rfl)
 ·split
  ·exact .inr (.inr (.inl rfl))
  ·split
   ·exact .inr (.inr (.inr rfl))
   ·exact .inl rfl
theorem yfs {l:List ByteArray} {a:ByteArray} (h:a∈l):hasS l a=true:=List.any_eq_true.2 ⟨a,h,yqd a⟩
theorem yra {names held:List ByteArray} {h:SH} (hcx:Cx names held) (hl:h.args.length=ar (yao h.word)) (h0:ar (yao h.word)≠0) (hc:(chkA names held h.args 0 h.args).1=0) :
  (ybs (gat (fS names) h) 4=true∧∀ a,hasS held a=true→yb4 (gat (fS names) h) (fS names a)=false)∧gat (ixI names) h=gat (fS names) h:=by
 obtain ⟨k,word,args,count⟩:=h
 have hl:args.length=ar (yao word):=hl
 have h0:ar (yao word)≠0:=h0
 have hA:=ysl (args:=args) args 0 rfl hc
 have inr4:∀ a,hasS names a=true→0≤fS names a∧fS names a≤3:=fun a ha=>by have:=yqk ha;have:=hcx.1;unfold fS;omega
 have ne4:∀ a b,hasS names a=true→hasS names b=true→a≠b→fS names a≠fS names b:=fun a b ha hb hne e=>hne (yof ha hb (by unfold fS at e;omega))
 have nh:∀ a b,hasS held b=true→hasS names a=true→hasS held a=false→fS names b≠fS names a:=fun a b hb ha hn=>ne4 _ _ (hcx.2 b hb) ha (fun e=>by rw[e,hn] at hb;cases hb)
 rcases yju (yao word) with e|e|e|e
 ·exact absurd e h0
 ·rw[e] at hl
  match args,hl,hA with
  | [x],_,hA =>
   obtain ⟨n1,n2,_⟩:=hA 0 x (Nat.zero_le _) rfl
   have eg:∀ f,gat f ⟨k,word,[x],count⟩=⟨yao word,f x,0,0⟩:=fun f=>rfl
   rw[eg,eg]
   have a1:ar (⟨yao word,fS names x,0,0⟩:Gt).k=1:=e
   refine ⟨⟨(yiv a1).2 ⟨inr4 x n1,rfl,rfl⟩,fun a ha=>?_⟩,by rw[yf2 n1];rfl⟩
   rw[Bool.eq_false_iff]
   intro h
   exact nh x a ha n1 n2 ((yii a1).1 h)
 ·rw[e] at hl
  match args,hl,hA with
  | [x,y],_,hA =>
   obtain ⟨n1,n2,_⟩:=hA 0 x (Nat.zero_le _) rfl
   obtain ⟨m1,m2,m3⟩:=hA 1 y (Nat.zero_le _) rfl
   have hxy:y≠x:=fun e=>by rw[yfs (show y∈[x,y].take 1 by rw[e];simp)] at m3;cases m3
   have eg:∀ f,gat f ⟨k,word,[x,y],count⟩=⟨yao word,f x,f y,0⟩:=fun f=>rfl
   rw[eg,eg]
   have a1:ar (⟨yao word,fS names x,fS names y,0⟩:Gt).k=2:=e
   refine ⟨⟨(yiw a1).2 ⟨inr4 x n1,inr4 y m1,ne4 y x m1 n1 hxy,rfl⟩,fun a ha=>?_⟩,by rw[yf2 n1,yf2 m1];rfl⟩
   rw[Bool.eq_false_iff]
   intro h
   rcases (ygm a1).1 h with h|h
   ·exact nh x a ha n1 n2 h
   ·exact nh y a ha m1 m2 h
 ·rw[e] at hl
  match args,hl,hA with
  | [x,y,z],_,hA =>
   obtain ⟨n1,n2,_⟩:=hA 0 x (Nat.zero_le _) rfl
   obtain ⟨m1,m2,m3⟩:=hA 1 y (Nat.zero_le _) rfl
   obtain ⟨k1,k2,k3⟩:=hA 2 z (Nat.zero_le _) rfl
   have hxy:y≠x:=fun e=>by rw[yfs (show y∈[x,y,z].take 1 by rw[e];simp)] at m3;cases m3
   have hxz:z≠x:=fun e=>by rw[yfs (show z∈[x,y,z].take 2 by rw[e];simp)] at k3;cases k3
   have hyz:z≠y:=fun e=>by rw[yfs (show z∈[x,y,z].take 2 by rw[e];simp)] at k3;cases k3
   have eg:∀ f,gat f ⟨k,word,[x,y,z],count⟩=⟨yao word,f x,f y,f z⟩:=fun f=>rfl
   rw[eg,eg]
   have a1:ar (⟨yao word,fS names x,fS names y,fS names z⟩:Gt).k=3:=e
   refine ⟨⟨(yok a1).2 ⟨inr4 x n1,inr4 y m1,ne4 y x m1 n1 hxy,inr4 z k1,ne4 z x k1 n1 hxz,ne4 z y k1 m1 hyz⟩,fun a ha=>?_⟩,by rw[yf2 n1,yf2 m1,yf2 k1];rfl⟩
   rw[Bool.eq_false_iff]
   intro h
   rcases (yq8 a1).1 h with h|h|h
   ·exact nh x a ha n1 n2 h
   ·exact nh y a ha m1 m2 h
   ·exact nh z a ha k1 k2 h
theorem yt1 {α:Type} {one:α→Es→List Opt × Es} (Q:Es→Prop) (P:Opt→Prop):∀ (l:List α) (out:List Opt) (e:Es),(∀ s∈l,∀ e,Q e→Q (one s e).2∧∀ o∈(one s e).1,P o)→Q e→(∀ o∈out,P o)→Q (dL one l out e).2∧∀ o∈(dL one l out e).1,P o:=by
 intro l
 induction l with
 | nil=>intro out e _ h1 h2;exact ⟨h1,h2⟩
 | cons s l ih =>
  intro out e h h1 h2
  obtain ⟨a,b⟩:=h s (List.mem_cons_self ..) e h1
  exact ih _ _ (fun x hx=>h x (List.mem_cons_of_mem _ hx)) a (fun o ho=>(List.mem_append.1 ho).elim (h2 o) (b o))
theorem ylk {L:List Bad}:(ydq L).1=0→∀ c∈L,c.1=0:=by
 induction L with
 | nil=>intro _ c hc;cases hc
 | cons x L ih =>
  intro h c hc
  unfold ydq at h
  split at h
  ·rename_i hx
   rcases List.mem_cons.1 hc with rfl|hc
   ·exact hx
   ·exact ih h c hc
  ·rename_i hx
   exact absurd h hx
def yrb (d:Nat):Prop:=∀ (l:List (Tr d)) (names held:List ByteArray) (e:Es),ya7 d l=true→(chkN d l names held).1=0→Cx names held →
 ((dA d l names e).2.bits=e.bits∧(dA d l names e).2.bad=e.bad∧e.most≤(dA d l names e).2.most)∧∀ o∈(dA d l names e).1,Ctl names held o
theorem ys9 {names held:List ByteArray} {o:Opt} (h:Ctl names held o):Ctl names held (invO o):=by
 unfold invO
 split
 ·rename_i hk
  intro _
  obtain ⟨h1,h2,h3⟩:=h hk
  obtain ⟨k,⟨gk,a,b,c⟩,q,bit,cond⟩:=o
  have ha:ar (invk gk)=ar gk:=by
   have hk:=ygy h1
   have hk:1≤gk∧gk≤12:=hk
   unfold invk
   repeat' split
   all_goals (first|rfl|(subst gk;decide)|(rename_i e;rw[e];decide))
  have e1:∀ q,yb4 ⟨invk gk,a,b,c⟩ q=yb4 ⟨gk,a,b,c⟩ q:=fun q=>by
   unfold yb4 qsOf
   simp only[ha]
  refine ⟨?_,fun x hx=>(e1 _).trans (h2 x hx),?_⟩
  ·have h1:ybs ⟨gk,a,b,c⟩ 4=true:=h1
   show ybs ⟨invk gk,a,b,c⟩ 4=true
   unfold ybs qsOf at h1 ⊢
   simp only[ha]
   exact h1
  ·have h3:ctlS gk held.length=true:=h3
   show ctlS (invk gk) held.length=true
   unfold ctlS at h3 ⊢
   split
   ·rfl
   ·rename_i n0
    rw[if_neg n0] at h3
    split
    ·rename_i n1
     rw[if_pos n1] at h3
     simp only[Bool.and_eq_true,bne_iff_ne,ne_eq] at h3
     unfold invk
     repeat' split
     all_goals (simp only[Bool.and_eq_true,bne_iff_ne,ne_eq];omega)
    ·rename_i n1
     rw[if_neg n1] at h3
     simp only[Bool.and_eq_true,Bool.or_eq_true,decide_eq_true_eq,beq_iff_eq] at h3 ⊢
     refine ⟨h3.1,?_⟩
     unfold invk
     repeat' split
     all_goals omega
 ·exact h
theorem yrc {h:SH} {body:List ByteArray→List ByteArray→Bad} {names held:List ByteArray} (hc:(oneN h body names held).1=0):(yb8 h names held).1.1=0∧(body (yb8 h names held).2.1 (yb8 h names held).2.2).1=0:=by
 unfold oneN at hc
 split at hc
 ·rename_i h0
  exact ⟨h0,hc⟩
 ·rename_i h0
  exact absurd hc h0
theorem yij {d:Nat} {h:SH} {bd:List (Tr d)} {names held:List ByteArray} (hv:vOne d (ya7 d) h bd=true) (hc:(oneN h (chkN d bd) names held).1=0) :
  (h.k=1∧h.args.length=ar (yao h.word)∧ar (yao h.word)≠0∧(chkA names held h.args 0 h.args).1=0∧ctlS (yao h.word) held.length=true) ∨
  (h.k=2∧(1≤h.count∧h.count≤9)∧(chkN d bd names held).1=0)∨(h.k=3∧(chkN d bd names held).1=0) ∨
  (h.k=4∧hasS names (arg0 h)=true∧hasS held (arg0 h)=false∧(chkN d bd names (held++[arg0 h])).1=0) ∨
  (h.k=5∧hasS names (arg0 h)=false∧names.length≠4∧(chkN d bd (names++[arg0 h]) held).1=0):=by
 obtain ⟨hk,ha,hk1,_,_,hc2,_,_⟩:=ybp hv
 obtain ⟨h1,h2⟩:=yrc hc
 have h7:h.k=1∨h.k=2∨h.k=3∨h.k=4∨h.k=5∨h.k=6∨h.k=7:=by omega
 unfold yb8 at h1 h2
 rcases h7 with e|e|e|e|e|e|e
 ·rw[if_pos e] at h1
  have hn:yar h.k h.word=ar (yao h.word):=by unfold yar;rw[if_pos e]
  rw[hn] at ha hk1
  have h1:(yc0 names held h.args h.word).1=0:=h1
  unfold yc0 at h1
  split at h1
  ·rename_i h3
   split at h1
   ·rename_i h4
    exact .inl ⟨e,ha,hk1.resolve_left (fun h=>h e),h3,h4⟩
   ·have h1:(9:Int)=0:=h1
    omega
  ·rename_i h3
   exact absurd h1 h3
 ·simp only[e] at h2
  exact .inr (.inl ⟨e,hc2 e,h2⟩)
 ·simp only[e] at h2
  exact .inr (.inr (.inl ⟨e,h2⟩))
 ·simp only[e] at h1 h2
  have h1:(ycn names held (arg0 h)).1=0:=h1
  unfold ycn at h1
  split at h1
  ·have h1:(2:Int)=0:=h1
   omega
  ·rename_i h3
   split at h1
   ·have h1:(4:Int)=0:=h1
    omega
   ·rename_i h4
    exact .inr (.inr (.inr (.inl ⟨e,by simpa using h3,by simpa using h4,h2⟩)))
 ·simp only[e] at h1 h2
  by_cases hn:hasS names (arg0 h)=true
  ·simp [hn] at h1
  ·by_cases h4:names.length=4
   ·simp [hn,h4] at h1
   ·simp only[hn,h4] at h2
    exact .inr (.inr (.inr (.inr ⟨e,by simpa using hn,h4,h2⟩)))
 ·simp only[e] at h1
  have h1:(6:Int)=0:=h1
  omega
 ·simp only[e] at h1
  have h1:(6:Int)=0:=h1
  omega
section
variable {d:Nat} {h:SH} {bd:List (Tr d)} {names:List ByteArray} {e:Es} {all:List (Tr d)→List ByteArray→Es→List Opt × Es}
theorem sS_1 (hk:h.k=1):sS all h bd names e=([gop 0 (gat (fS names) h)],e):=by unfold sS;rw[if_pos hk]
theorem sS_2 (hk:h.k=2):sS all h bd names e=(repO (all bd names e).1 (reps h.count),(all bd names e).2):=by unfold sS;rw[if_neg Zq6,if_pos hk]
theorem sS_3 (hk:h.k=3):sS all h bd names e=(adjO (all bd names e).1,(all bd names e).2):=by unfold sS;rw[if_neg Zq6,if_neg Zq6,if_pos hk]
theorem sS_4 (hk:h.k=4):sS all h bd names e=(osL (fS names (arg0 h)) (all bd names e).1,(all bd names e).2):=by unfold sS;rw[if_neg Zq6,if_neg Zq6,if_neg Zq6,if_pos hk]
theorem sS_5 (hk:h.k=5):sS all h bd names e=([ybc names.length]++(all bd (names++[arg0 h]) ⟨e.bits,max e.most (names.length+1),e.bad⟩).1++[ybc names.length],(all bd (names++[arg0 h]) ⟨e.bits,max e.most (names.length+1),e.bad⟩).2):=by
 unfold sS;rw[if_neg Zq6,if_neg Zq6,if_neg Zq6,if_neg Zq6,if_pos hk]
theorem sS_6 (hk:h.k=6):sS all h bd names e=([yev (fS names (arg0 h)) e.bits.length],⟨e.bits++[arg1 h],e.most,e.bad⟩):=by
 unfold sS;rw[if_neg Zq6,if_neg Zq6,if_neg Zq6,if_neg Zq6,if_neg Zq6,if_pos hk]
theorem sS_7 (hk:h.k=7):sS all h bd names e=(yci (fS (all bd names e).2.bits (arg0 h)+1) (all bd names e).1,(all bd names e).2):=by
 unfold sS;rw[if_neg Zq6,if_neg Zq6,if_neg Zq6,if_neg Zq6,if_neg Zq6,if_neg Zq6]
theorem iS_1 (hk:h.k=1):iS all h bd names e=([gop 0 (gat (ixI names) h)],e):=by unfold iS;rw[if_pos hk]
theorem iS_2 (hk:h.k=2):iS all h bd names e=(repO (all bd names e).1 (reps h.count),(all bd names e).2):=by unfold iS;rw[if_neg Zq6,if_pos hk]
theorem iS_3 (hk:h.k=3):iS all h bd names e=(adjO (all bd names e).1,(all bd names e).2):=by unfold iS;rw[if_neg Zq6,if_neg Zq6,if_pos hk]
theorem iS_4 (hk:h.k=4):iS all h bd names e=(osL (ixI names (arg0 h)) (all bd names e).1,⟨(all bd names e).2.bits,(all bd names e).2.most,(all bd names e).2.bad || !osB (ixI names (arg0 h)) (all bd names e).1⟩):=by
 unfold iS;rw[if_neg Zq6,if_neg Zq6,if_neg Zq6,if_pos hk]
theorem iS_5 (hk:h.k=5):iS all h bd names e=([ybc names.length]++(all bd (names++[arg0 h]) e).1++[ybc names.length],(all bd (names++[arg0 h]) e).2):=by
 unfold iS;rw[if_neg Zq6,if_neg Zq6,if_neg Zq6,if_neg Zq6,if_pos hk]
theorem iS_6 (hk:h.k=6):iS all h bd names e=([yev (ixI names (arg0 h)) e.bits.length],⟨e.bits++[arg1 h],e.most,e.bad⟩):=by
 unfold iS;rw[if_neg Zq6,if_neg Zq6,if_neg Zq6,if_neg Zq6,if_neg Zq6,if_pos hk]
theorem iS_7 (hk:h.k=7):iS all h bd names e=(yci (1+ixI (all bd names e).2.bits (arg0 h)) (all bd names e).1,(all bd names e).2):=by
 unfold iS;rw[if_neg Zq6,if_neg Zq6,if_neg Zq6,if_neg Zq6,if_neg Zq6,if_neg Zq6]
end
theorem yg6 {names held:List ByteArray} {a:ByteArray} (h:Cx names held) (ha:hasS names a=true):Cx names (held++[a]):=by
 refine ⟨h.1,fun b hb=>?_⟩
 unfold hasS at hb
 rw[List.any_append,Bool.or_eq_true] at hb
 rcases hb with hb|hb
 ·exact h.2 b hb
 ·simp only[List.any_cons,List.any_nil,Bool.or_false] at hb
  rw[←yoc hb]
  exact ha
theorem yix {names held:List ByteArray} {a:ByteArray} (h:Cx names held) (ha:names.length≠4):Cx (names++[a]) held :=
 ⟨by have:=h.1;simp;omega,fun b hb=>yog (h.2 b hb)⟩
theorem ymz {names held:List ByteArray} {a:ByteArray} {D:List Opt} (hcx:Cx names held) (ha:hasS names a=true) (hn:hasS held a=false) (h:∀ o∈D,Ctl names (held++[a]) o) :
  osB (fS names a) D=true∧D.length≤(osL (fS names a) D).length∧∀ o∈osL (fS names a) D,Ctl names held o:=by
 have hq:0≤fS names a∧fS names a≤3:=by have:=yqk ha;have:=hcx.1;unfold fS;omega
 have hself:hasS (held++[a]) a=true:=yfs Zq11
 have hlen:(held++[a]).length=held.length+1:=by simp
 have key:∀ o∈D,o.k=1→∃ L,ydj (fS names a) o.g=some L∧1≤L.length∧∀ g'∈L,ybs g' 4=true∧(∀ p,yb4 g' p=true→p=fS names a∨yb4 o.g p=true)∧ctlS g'.k held.length=true:=by
  intro o ho hk
  obtain ⟨h1,h2,h3⟩:=h o ho hk
  rw[hlen] at h3
  exact yq9 h1 hq (h2 a hself) h3
 obtain ⟨R,r1,r2,r3⟩:=yuf (q:=fS names a) (D:=D) (fun o ho hk=>by obtain ⟨L,l1,l2,_⟩:=key o ho hk;exact ⟨L,l1,l2⟩)
 have hB:osB (fS names a) D=true:=by unfold osB;rw[r1];rfl
 have hL:osL (fS names a) D=R:=by unfold osL;rw[r1];rfl
 rw[hL]
 refine ⟨hB,r2,fun o' ho' hk'=>?_⟩
 rcases r3 o' ho' with ⟨a1,a2⟩|⟨o,a1,a2,L,a3,g',a4,rfl⟩
 ·exact absurd hk' a2
 ·obtain ⟨L',l1,l2,l3⟩:=key o a1 a2
  rw[a3] at l1
  injection l1 with l1
  subst l1
  obtain ⟨b1,b2,b3⟩:=l3 g' a4
  refine ⟨b1,fun x hx=>?_,b3⟩
  rw[Bool.eq_false_iff]
  intro hact
  rcases b2 _ hact with e|e
  ·have:=yof (hcx.2 x hx) ha (by unfold fS at e;omega)
   rw[this,hn] at hx
   cases hx
  ·rw[(h o a1 a2).2.1 x (yog hx)] at e
   cases e
theorem ysm {names held:List ByteArray} {a:ByteArray} {o:Opt} (hcx:Cx names held) (h:Ctl (names++[a]) held o):Ctl names held o:=fun hk=>by
 obtain ⟨h1,h2,h3⟩:=h hk
 refine ⟨h1,fun x hx=>?_,h3⟩
 have:=h2 x hx
 unfold fS at this ⊢
 rwa [ys7 (hcx.2 x hx)] at this
theorem yta {l:List Opt} {t:Nat} {o:Opt} (h:o∈repO l t):o∈l:=by
 unfold repO at h
 obtain ⟨l',h1,h2⟩:=List.mem_flatten.1 h
 rw[List.eq_of_mem_replicate h1] at h2
 exact h2
theorem ym0 {l:List Opt} {t:Nat} (ht:1≤t):l.length≤(repO l t).length:=by
 unfold repO
 rw[List.length_flatten,List.map_replicate,List.sum_replicate_nat]
 exact Nat.le_mul_of_pos_left _ ht
theorem yf7 (l:List Opt):(adjO l).length=l.length:=by simp [adjO]
def yug (names held:List ByteArray) (e:Es) (r:List Opt × Es):Prop:=(r.2.bits=e.bits∧r.2.bad=e.bad∧e.most≤r.2.most)∧∀ o∈r.1,Ctl names held o
theorem ykh {d:Nat} (hn:yrb d) {h:SH} {bd:List (Tr d)} {names held:List ByteArray} (e:Es) (hv:vOne d (ya7 d) h bd=true) (hc:(oneN h (chkN d bd) names held).1=0) (hx:Cx names held) :
  yug names held e (sS (dA d) h bd names e):=by
 have hvb:=(ybp hv).2.2.2.2.2.2.2
 rcases yij hv hc with ⟨hk,hl,h0,h3,h4⟩|⟨hk,hct,hb⟩|⟨hk,hb⟩|⟨hk,ha,hnh,hb⟩|⟨hk,ha,h4,hb⟩
 ·rw[sS_1 hk]
  refine ⟨⟨rfl,rfl,Nat.le_refl _⟩,fun o ho=>?_⟩
  simp only[List.mem_singleton] at ho
  subst ho
  intro _
  have:=(yra hx hl h0 h3).1
  exact ⟨this.1,this.2,h4⟩
 ·rw[sS_2 hk]
  obtain ⟨b1,b2⟩:=hn bd names held e hvb hb hx
  exact ⟨b1,fun o ho=>b2 o (yta ho)⟩
 ·rw[sS_3 hk]
  obtain ⟨b1,b2⟩:=hn bd names held e hvb hb hx
  refine ⟨b1,fun o ho=>?_⟩
  have ho:o∈((dA d bd names e).1.map invO).reverse:=ho
  rw[List.mem_reverse] at ho
  obtain ⟨x,hx',rfl⟩:=List.mem_map.1 ho
  exact ys9 (b2 x hx')
 ·rw[sS_4 hk]
  obtain ⟨b1,b2⟩:=hn bd names (held++[arg0 h]) e hvb hb (yg6 hx ha)
  exact ⟨b1,(ymz hx ha hnh b2).2.2⟩
 ·rw[sS_5 hk]
  obtain ⟨⟨b1,b2,b3⟩,b4⟩:=hn bd (names++[arg0 h]) held ⟨e.bits,max e.most (names.length+1),e.bad⟩ hvb hb (yix hx h4)
  refine ⟨⟨b1,b2,Nat.le_trans (Nat.le_max_left _ _) b3⟩,fun o ho=>?_⟩
  have hcl:Ctl names held (ybc names.length):=fun hk=>by cases hk
  rcases List.mem_append.1 ho with ho|ho
  ·rcases List.mem_append.1 ho with ho|ho
   ·simp only[List.mem_singleton] at ho
    subst ho
    exact hcl
   ·exact ysm hx (b4 o ho)
  ·simp only[List.mem_singleton] at ho
   subst ho
   exact hcl
theorem yeu {d:Nat} {l:List (Tr (d+1))} (h:ya7 (d+1) l=true):∀ s∈l,vOne d (ya7 d) (hdT s) (bdT s)=true:=List.all_eq_true.1 h
theorem yf8:∀ d,yrb d:=by
 intro d
 induction d with
 | zero=>intro l names held e _ _ _;exact ⟨⟨rfl,rfl,Nat.le_refl _⟩,fun o ho=>by cases ho⟩
 | succ d ih =>
  intro l names held e hv hc hx
  have hz:=ylk (show(ydq (l.map fun s=>oneN (hdT s) (chkN d (bdT s)) names held)).1=0 from hc)
  refine yt1 (fun e'=>e'.bits=e.bits∧e'.bad=e.bad∧e.most≤e'.most) (Ctl names held) l [] e (fun s hs e' hq=>?_) ⟨rfl,rfl,Nat.le_refl _⟩ (fun o ho=>by cases ho)
  obtain ⟨⟨a1,a2,a3⟩,a4⟩:=ykh ih e' (yeu hv s hs) (hz _ (List.mem_map.2 ⟨s,hs,rfl⟩)) hx
  exact ⟨⟨a1.trans hq.1,a2.trans hq.2.1,Nat.le_trans hq.2.2 a3⟩,a4⟩
section
variable {r D:List Opt × Es}
theorem RelS.refl (h:D.2.bad=false):RelS D D:=⟨fun _=>rfl,fun h1=>by rw[h] at h1;cases h1⟩
theorem RelS.map (h:RelS r D) {f:List Opt→List Opt} (hf:D.1.length≤(f D.1).length):RelS (f r.1,r.2) (f D.1,D.2) :=
 ⟨fun hb=>by rw[h.1 hb],fun hb=>by have:=h.2 hb;show 120<(f D.1).length;omega⟩
theorem RelS.mapE (h:RelS r D) {f g:List Opt→Es→List Opt} (hf:D.1.length≤(f D.1 D.2).length) (hg:g D.1 D.2=f D.1 D.2):RelS (g r.1 r.2,r.2) (f D.1 D.2,D.2) :=
 ⟨fun hb=>by rw[h.1 hb,hg],fun hb=>by have:=h.2 hb;show 120<(f D.1 D.2).length;omega⟩
theorem RelS.ctl (h:RelS r D) {f:List Opt→List Opt} {g:List Opt→Bool} (hf:D.1.length≤(f D.1).length) (hg:g D.1=true):RelS (f r.1,⟨r.2.bits,r.2.most,r.2.bad || !g r.1⟩) (f D.1,D.2):=by
 refine ⟨fun hb=>?_,fun hb=>?_⟩
 ·have hb:(r.2.bad || !g r.1)=false:=hb
  have h1:r.2.bad=false:=by cases h2:r.2.bad <;> simp_all
  rw[h.1 h1,hg]
  simp
 ·have hb:(r.2.bad || !g r.1)=true:=hb
  cases h2:r.2.bad
  ·rw[h.1 h2,hg] at hb
   rw[h.1 h2] at h2
   rw[h2] at hb
   cases hb
  ·have:=h.2 h2
   show 120<(f D.1).length
   omega
end
def RelN (d:Nat):Prop:=∀ (l:List (Tr d)) (names held:List ByteArray),ya7 d l=true→(chkN d l names held).1=0→Cx names held→∀ e:Es,e.bad=false →
 RelS (sA d l names e) (dA d l names e)∧RelS (iA d l names e) (dA d l names ⟨e.bits,max e.most names.length,e.bad⟩)
theorem yjv {k:Int} (h1:1≤k):1≤reps k:=by unfold reps;omega
theorem yiy {names:List ByteArray} {e:Es} (hm:names.length≤e.most):(⟨e.bits,max e.most names.length,e.bad⟩:Es)=e:=by rw[Nat.max_eq_left hm]
theorem ysn {d:Nat} (hr:RelN d) {h:SH} {bd:List (Tr d)} {names held:List ByteArray} (e:Es) (he:e.bad=false) (hv:vOne d (ya7 d) h bd=true) (hc:(oneN h (chkN d bd) names held).1=0) (hx:Cx names held) :
  RelS (sS (sA d) h bd names e) (sS (dA d) h bd names e):=by
 have hvb:=(ybp hv).2.2.2.2.2.2.2
 rcases yij hv hc with ⟨hk,hl,h0,h3,h4⟩|⟨hk,hct,hb⟩|⟨hk,hb⟩|⟨hk,ha,hnh,hb⟩|⟨hk,ha,h4,hb⟩
 ·rw[sS_1 hk,sS_1 hk]
  exact RelS.refl he
 ·rw[sS_2 hk,sS_2 hk]
  obtain ⟨r1,_⟩:=hr bd names held hvb hb hx e he
  exact r1.map (f:=fun x=>repO x (reps h.count)) (ym0 (yjv hct.1))
 ·rw[sS_3 hk,sS_3 hk]
  obtain ⟨r1,_⟩:=hr bd names held hvb hb hx e he
  exact r1.map (f:=adjO) (Nat.le_of_eq (yf7 _).symm)
 ·rw[sS_4 hk,sS_4 hk]
  obtain ⟨r1,_⟩:=hr bd names (held++[arg0 h]) hvb hb (yg6 hx ha) e he
  obtain ⟨c1,c2,_⟩:=ymz hx ha hnh (yf8 d bd names (held++[arg0 h]) e hvb hb (yg6 hx ha)).2
  exact r1.map (f:=osL (fS names (arg0 h))) c2
 ·rw[sS_5 hk,sS_5 hk]
  obtain ⟨r1,_⟩:=hr bd (names++[arg0 h]) held hvb hb (yix hx h4) ⟨e.bits,max e.most (names.length+1),e.bad⟩ he
  exact r1.map (f:=fun x=>[ybc names.length]++x++[ybc names.length]) Zq10
theorem yol {d:Nat} (hr:RelN d) {h:SH} {bd:List (Tr d)} {names held:List ByteArray} (e:Es) (he:e.bad=false) (hm:names.length≤e.most) (hv:vOne d (ya7 d) h bd=true) (hc:(oneN h (chkN d bd) names held).1=0) (hx:Cx names held) :
  RelS (sS (sA d) h bd names e) (sS (dA d) h bd names e)∧RelS (iS (iA d) h bd names e) (sS (dA d) h bd names e):=by
 have hvb:=(ybp hv).2.2.2.2.2.2.2
 rcases yij hv hc with ⟨hk,hl,h0,h3,h4⟩|⟨hk,hct,hb⟩|⟨hk,hb⟩|⟨hk,ha,hnh,hb⟩|⟨hk,ha,h4,hb⟩
 ·rw[sS_1 hk,sS_1 hk,iS_1 hk,(yra hx hl h0 h3).2]
  exact ⟨RelS.refl he,RelS.refl he⟩
 ·rw[sS_2 hk,sS_2 hk,iS_2 hk]
  obtain ⟨r1,r2⟩:=hr bd names held hvb hb hx e he
  rw[yiy hm] at r2
  exact ⟨r1.map (f:=fun x=>repO x (reps h.count)) (ym0 (yjv hct.1)),r2.map (f:=fun x=>repO x (reps h.count)) (ym0 (yjv hct.1))⟩
 ·rw[sS_3 hk,sS_3 hk,iS_3 hk]
  obtain ⟨r1,r2⟩:=hr bd names held hvb hb hx e he
  rw[yiy hm] at r2
  exact ⟨r1.map (f:=adjO) (Nat.le_of_eq (yf7 _).symm),r2.map (f:=adjO) (Nat.le_of_eq (yf7 _).symm)⟩
 ·rw[sS_4 hk,sS_4 hk,iS_4 hk]
  obtain ⟨r1,r2⟩:=hr bd names (held++[arg0 h]) hvb hb (yg6 hx ha) e he
  rw[yiy hm] at r2
  obtain ⟨c1,c2,_⟩:=ymz hx ha hnh (yf8 d bd names (held++[arg0 h]) e hvb hb (yg6 hx ha)).2
  have e1:ixI names (arg0 h)=fS names (arg0 h):=yf2 ha
  rw[e1]
  exact ⟨r1.map (f:=osL (fS names (arg0 h))) c2,r2.ctl (f:=osL (fS names (arg0 h))) (g:=osB (fS names (arg0 h))) c2 c1⟩
 ·rw[sS_5 hk,sS_5 hk,iS_5 hk]
  obtain ⟨r1,_⟩:=hr bd (names++[arg0 h]) held hvb hb (yix hx h4) ⟨e.bits,max e.most (names.length+1),e.bad⟩ he
  obtain ⟨_,r2⟩:=hr bd (names++[arg0 h]) held hvb hb (yix hx h4) e he
  have e1:(names++[arg0 h]).length=names.length+1:=by simp
  rw[e1] at r2
  exact ⟨r1.map (f:=fun x=>[ybc names.length]++x++[ybc names.length]) Zq10,r2.map (f:=fun x=>[ybc names.length]++x++[ybc names.length]) Zq10⟩
theorem yt2 {α:Type} {one:α→Es→List Opt × Es} (hm:∀ s e,e.bad=true→(one s e).2.bad=true):∀ (l:List α) (out:List Opt) (e:Es),e.bad=true→(sL one l out e).2.bad=true:=by
 intro l
 induction l with
 | nil=>intro out e h;exact h
 | cons s l ih =>
  intro out e h
  unfold sL
  split
  ·rfl
  ·exact ih _ _ (hm s e h)
theorem ym1 {d:Nat} {all:List (Tr d)→List ByteArray→Es→List Opt × Es} (ha:∀ l names e,e.bad=true→(all l names e).2.bad=true) (h:SH) (bd:List (Tr d)) (names:List ByteArray) (e:Es) (he:e.bad=true):(sS all h bd names e).2.bad=true:=by
 unfold sS
 repeat' split
 ·exact he
 ·exact ha _ _ _ he
 ·exact ha _ _ _ he
 ·exact ha _ _ _ he
 ·exact ha _ _ _ he
 ·exact he
 ·exact ha _ _ _ he
theorem yrd:∀ (d:Nat) (l:List (Tr d)) (names:List ByteArray) (e:Es),e.bad=true→(sA d l names e).2.bad=true:=by
 intro d
 induction d with
 | zero=>intro l names e h;exact h
 | succ d ih=>intro l names e h;exact yt2 (fun s e he=>ym1 ih _ _ _ _ he) l [] e h
theorem ym2:∀ d,RelN d:=by
 intro d
 induction d with
 | zero =>
  intro l names held _ _ _ e he
  exact ⟨RelS.refl he,RelS.refl he⟩
 | succ d ih =>
  intro l names held hv hc hx e he
  have hz:=ylk (show(ydq (l.map fun s=>oneN (hdT s) (chkN d (bdT s)) names held)).1=0 from hc)
  have hv':=yeu hv
  refine ⟨?_,?_⟩
  ·refine yli (fun (l':List (Tr (d+1))) (_:Es)=>∀ s∈l',vOne d (ya7 d) (hdT s) (bdT s)=true∧(oneN (hdT s) (chkN d (bdT s)) names held).1=0) (fun s l' e' hq hb'=>?_) (fun s e' he'=>ym1 (yrd d) _ _ _ _ he') l [] e [] e (fun s hs=>⟨hv' s hs,hz _ (List.mem_map.2 ⟨s,hs,rfl⟩)⟩) he (.inl ⟨he,rfl,rfl⟩)
   obtain ⟨q1,q2⟩:=hq s (List.mem_cons_self ..)
   have hone:=ykh (yf8 d) e' q1 q2 hx
   refine ⟨?_,hone.1.2.1.trans hb',fun x hx'=>hq x (List.mem_cons_of_mem _ hx')⟩
   exact ysn ih e' hb' q1 q2 hx
  ·refine ylj (fun (l':List (Tr (d+1))) (e':Es)=>names.length≤e'.most∧∀ s∈l',vOne d (ya7 d) (hdT s) (bdT s)=true∧(oneN (hdT s) (chkN d (bdT s)) names held).1=0) (fun s l' e' hq hb'=>?_) l [] ⟨e.bits,max e.most names.length,e.bad⟩ [] ⟨e.bits,max e.most names.length,e.bad⟩ ⟨Nat.le_max_right _ _,fun s hs=>⟨hv' s hs,hz _ (List.mem_map.2 ⟨s,hs,rfl⟩)⟩⟩ he (.inl ⟨he,rfl,rfl⟩)
   obtain ⟨q1,q2⟩:=hq.2 s (List.mem_cons_self ..)
   have hone:=ykh (yf8 d) e' q1 q2 hx
   exact ⟨(yol ih e' hb' hq.1 q1 q2 hx).2,hone.1.2.1.trans hb',Nat.le_trans hq.1 hone.1.2.2,fun x hx'=>hq.2 x (List.mem_cons_of_mem _ hx')⟩
end Go.Proofs.YthkbckkghnbonaaGreatDoor
