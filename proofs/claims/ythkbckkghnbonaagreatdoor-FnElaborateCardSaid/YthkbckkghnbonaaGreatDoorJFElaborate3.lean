/- What the calls that this law reaches answer, part 3 of 20. -/
import Derived.Test.YthkbckkghnbonaaGreatDoorJFElaborate2
import Derived.Test.YthkbckkghnbonaaGreatDoorJFElaborate1
set_option maxRecDepth 100000
set_option maxHeartbeats 16000000
set_option linter.unusedVariables false
namespace Go.Proofs.YthkbckkghnbonaaGreatDoor
open Go.RowKit
set_option linter.unusedVariables false
def invO (o:Opt):Opt:=if o.k=1 then ⟨o.k,invG o.g,o.q,o.bit,o.cond⟩ else o
def adjO (l:List Opt):List Opt:=(l.map invO).reverse
theorem yhg (l:List Opt) (s:Nat) (o:Opt) (h:l[s]?=some o):adjO (l.drop s)=adjO (l.drop (s+1))++[invO o]:=by
 have hs:=(List.getElem?_eq_some_iff.1 h).1
 have e:l[s]=o:=(List.getElem?_eq_some_iff.1 h).2
 rw[List.drop_eq_getElem_cons hs,e]
 simp [adjO]
def repO (l:List Opt) (t:Nat):List Opt:=(List.replicate t l).flatten
def reps (k:Int):Nat:=(min k 9).toNat
theorem yjf (l:List Opt) (t:Nat):repO l (t+1)=repO l t++l:=by
 simp [repO,List.replicate_succ']
theorem yip (l:List Opt) (t:Nat):(repO l t).length=t*l.length:=by
 simp [repO]
theorem yj6 (A:Option Addr) (n c:Nat) (l:List Opt) (w:World) (h:Rd w 8 A n (l.flatMap yan)) (hl:l.length=n) (hn:n≤1073741824) :
  Calls Tryz.prog 141 #[.slice A n c] w (ye2 104 8 w n ((adjO l).flatMap yan)):=by
 obtain ⟨i0,hi,hz0,hz1,hz2⟩:=info_parts yda
 have H:=hD h
 have HL:=hD hl
 clear h hl
 go_enter Tryz.func141,Tryz.ntmps141
 go_wp2
 go_loopw [3,4] (fun v i wr=>∃ t:Nat,t≤n∧i=.int .i64 ((t:Int) - 1)∧wr.ownsRow w.heap.size 104 8 v (n - t) ((adjO (l.drop t)).flatMap yan)∧Below w.heap.size w wr) (fun _ i _=>(intOf i+1).toNat)
 case atStart=>exact ⟨n,Nat.le_refl _,rfl,by rw[List.drop_of_length_le (by rw[HL.out];exact Nat.le_refl _),Nat.sub_self];exact yb2 w _ 8,Zq0⟩
 case round =>
  obtain ⟨t,ht,hit,hown,hb⟩:=hrel
  rcases t with _|s
  ·subst hit
   have HF:Hid (adjO (l.drop 0)=adjO l):=by rw[List.drop_zero];exact rfl
   go_wp2
   go_ret
   exact ⟨_,rfl,by rw[HF.out,Nat.sub_zero] at hown;exact hown,hb,hb.size⟩
  ·have hit':=hit.trans (show Value.int .i64 (((s+1:Nat):Int) - 1)=.int .i64 (s:Int) by congr 1;omega)
   subst hit'
   clear hit
   have hsl:s<l.length:=by rw[HL.out];omega
   obtain ⟨o,ho⟩:∃ o,l[s]?=some o:=⟨_,List.getElem?_eq_getElem hsl⟩
   obtain ⟨b,off,rfl,hbl,hc⟩:=H.out.2 Zq6
   have q0:wr.cell? ⟨b,off+s*8,none⟩=some (.int .i64 o.k):=(hb.cell (by exact hbl)).trans (hc (s*8+0) _ (yal yad l s o 0 ho Zq9))
   have q1:wr.cell? ⟨b,off+s*8+1,none⟩=some (.int .i64 o.g.k):=(hb.cell (by exact hbl)).trans (hc (s*8+1) _ (yal yad l s o 1 ho Zq9))
   have q2:wr.cell? ⟨b,off+s*8+2,none⟩=some (.int .i64 o.g.a):=(hb.cell (by exact hbl)).trans (hc (s*8+2) _ (yal yad l s o 2 ho Zq9))
   have q3:wr.cell? ⟨b,off+s*8+3,none⟩=some (.int .i64 o.g.b):=(hb.cell (by exact hbl)).trans (hc (s*8+3) _ (yal yad l s o 3 ho Zq9))
   have q4:wr.cell? ⟨b,off+s*8+4,none⟩=some (.int .i64 o.g.c):=(hb.cell (by exact hbl)).trans (hc (s*8+4) _ (yal yad l s o 4 ho Zq9))
   have q5:wr.cell? ⟨b,off+s*8+5,none⟩=some (.int .i64 o.q):=(hb.cell (by exact hbl)).trans (hc (s*8+5) _ (yal yad l s o 5 ho Zq9))
   have q6:wr.cell? ⟨b,off+s*8+6,none⟩=some (.int .i64 o.bit):=(hb.cell (by exact hbl)).trans (hc (s*8+6) _ (yal yad l s o 6 ho Zq9))
   have q7:wr.cell? ⟨b,off+s*8+7,none⟩=some (.int .i64 o.cond):=(hb.cell (by exact hbl)).trans (hc (s*8+7) _ (yal yad l s o 7 ho Zq9))
   have HO:=hD ho
   obtain ⟨L,hL⟩:∃ L,L=(adjO (l.drop (s+1))).flatMap yan:=⟨_,rfl⟩
   rw[←hL] at hown
   have HL2:=hD hL
   clear hc ho hsl hL
   by_cases hk:o.k=1
   ·have hk':(o.k==1)=true:=by simp [hk]
    have HK:=hD (show invO o=⟨o.k,⟨invk o.g.k,o.g.a,o.g.b,o.g.c⟩,o.q,o.bit,o.cond⟩ by rw[invO,if_pos hk];rfl)
    clear hk
    go_wp2_with (first|(go_at_call 168;refine(ygg _ _ _ _ _).mono ?_;rintro e w' ⟨rfl,rfl⟩)|(at_builtin;refine yae _ rfl _ _ 38 rfl w.heap.size 104 i0 _ 8 64 Tryz.underlying38 hi hz0 hz1 hz2 rfl Zq9 _ _ _ rfl ((((hown.alloc _).alloc _).alloc _).alloc _) _ 1 1 _ rfl (yd2 ?c0 rfl) ?c2 ?c3 ?c4 ?c5 ?_))
    case c0=>first|rfl|simp
    case c2=>repeat' (first|rfl|apply And.intro)
    case c3=>simp only[maxLen];omega
    case c4=>omega
    case c5=>have:=hb.size;simp;omega
    intro v3 w3 own3 gr3 _
    have b3:=((((hb.alloc hb.size _).alloc (by have:=hb.size;simp;omega) _).alloc (by have:=hb.size;simp;omega) _).alloc (by have:=hb.size;simp;omega) _).grown gr3 (by have:=hb.size;simp;omega) (ybe hown)
    clear hown gr3
    go_wp2
    go_roundw
    case rel =>
     refine ⟨s,by omega,rfl,?_,b3⟩
     rw[yhg l s o HO.out,List.flatMap_append,←HL2.out,show n - s=n - (s+1)+1 from by omega]
     rw[HK.out]
     exact own3
    case measure=>first|(simp [intOf];done)|(simp [intOf];omega)
   ·have hk':(o.k==1)=false:=by simp [hk]
    have HK:=hD (show invO o=o by rw[invO,if_neg hk])
    clear hk
    go_wp2_with (first|(go_at_call 168;refine(ygg _ _ _ _ _).mono ?_;rintro e w' ⟨rfl,rfl⟩)|(at_builtin;refine yae _ rfl _ _ 38 rfl w.heap.size 104 i0 _ 8 64 Tryz.underlying38 hi hz0 hz1 hz2 rfl Zq9 _ _ _ rfl ((hown.alloc _).alloc _) _ 1 1 _ rfl (yd2 ?c0 rfl) ?c2 ?c3 ?c4 ?c5 ?_))
    case c0=>first|rfl|simp
    case c2=>repeat' (first|rfl|apply And.intro)
    case c3=>simp only[maxLen];omega
    case c4=>omega
    case c5=>have:=hb.size;simp;omega
    intro v3 w3 own3 gr3 _
    have b3:=((hb.alloc hb.size _).alloc (by have:=hb.size;simp;omega) _).grown gr3 (by have:=hb.size;simp;omega) (ybe hown)
    clear hown gr3
    go_wp2
    go_roundw
    case rel =>
     refine ⟨s,by omega,rfl,?_,b3⟩
     rw[yhg l s o HO.out,List.flatMap_append,←HL2.out,show n - s=n - (s+1)+1 from by omega]
     rw[HK.out]
     exact own3
    case measure=>first|(simp [intOf];done)|(simp [intOf];omega)
theorem yj7 (A:Option Addr) (n c:Nat) (l:List Opt) (w:World) (h:Rd w 8 A n (l.flatMap yan)) (hl:l.length=n) (hn:n≤1073741824) :
  Calls Tryz.prog 152 #[.slice A n c] w (ye2 104 8 w n ((adjO l).flatMap yan)):=by
 obtain ⟨i0,hi,hz0,hz1,hz2⟩:=info_parts yda
 have H:=hD h
 have HL:=hD hl
 clear h hl
 go_enter Tryz.func152,Tryz.ntmps152
 go_wp2
 go_loopw [3,4] (fun v i wr=>∃ t:Nat,t≤n∧i=.int .i64 ((t:Int) - 1)∧wr.ownsRow w.heap.size 104 8 v (n - t) ((adjO (l.drop t)).flatMap yan)∧Below w.heap.size w wr) (fun _ i _=>(intOf i+1).toNat)
 case atStart=>exact ⟨n,Nat.le_refl _,rfl,by rw[List.drop_of_length_le (by rw[HL.out];exact Nat.le_refl _),Nat.sub_self];exact yb2 w _ 8,Zq0⟩
 case round =>
  obtain ⟨t,ht,hit,hown,hb⟩:=hrel
  rcases t with _|s
  ·subst hit
   have HF:Hid (adjO (l.drop 0)=adjO l):=by rw[List.drop_zero];exact rfl
   go_wp2
   go_ret
   exact ⟨_,rfl,by rw[HF.out,Nat.sub_zero] at hown;exact hown,hb,hb.size⟩
  ·have hit':=hit.trans (show Value.int .i64 (((s+1:Nat):Int) - 1)=.int .i64 (s:Int) by congr 1;omega)
   subst hit'
   clear hit
   have hsl:s<l.length:=by rw[HL.out];omega
   obtain ⟨o,ho⟩:∃ o,l[s]?=some o:=⟨_,List.getElem?_eq_getElem hsl⟩
   obtain ⟨b,off,rfl,hbl,hc⟩:=H.out.2 Zq6
   have q0:wr.cell? ⟨b,off+s*8,none⟩=some (.int .i64 o.k):=(hb.cell (by exact hbl)).trans (hc (s*8+0) _ (yal yad l s o 0 ho Zq9))
   have q1:wr.cell? ⟨b,off+s*8+1,none⟩=some (.int .i64 o.g.k):=(hb.cell (by exact hbl)).trans (hc (s*8+1) _ (yal yad l s o 1 ho Zq9))
   have q2:wr.cell? ⟨b,off+s*8+2,none⟩=some (.int .i64 o.g.a):=(hb.cell (by exact hbl)).trans (hc (s*8+2) _ (yal yad l s o 2 ho Zq9))
   have q3:wr.cell? ⟨b,off+s*8+3,none⟩=some (.int .i64 o.g.b):=(hb.cell (by exact hbl)).trans (hc (s*8+3) _ (yal yad l s o 3 ho Zq9))
   have q4:wr.cell? ⟨b,off+s*8+4,none⟩=some (.int .i64 o.g.c):=(hb.cell (by exact hbl)).trans (hc (s*8+4) _ (yal yad l s o 4 ho Zq9))
   have q5:wr.cell? ⟨b,off+s*8+5,none⟩=some (.int .i64 o.q):=(hb.cell (by exact hbl)).trans (hc (s*8+5) _ (yal yad l s o 5 ho Zq9))
   have q6:wr.cell? ⟨b,off+s*8+6,none⟩=some (.int .i64 o.bit):=(hb.cell (by exact hbl)).trans (hc (s*8+6) _ (yal yad l s o 6 ho Zq9))
   have q7:wr.cell? ⟨b,off+s*8+7,none⟩=some (.int .i64 o.cond):=(hb.cell (by exact hbl)).trans (hc (s*8+7) _ (yal yad l s o 7 ho Zq9))
   have HO:=hD ho
   obtain ⟨L,hL⟩:∃ L,L=(adjO (l.drop (s+1))).flatMap yan:=⟨_,rfl⟩
   rw[←hL] at hown
   have HL2:=hD hL
   clear hc ho hsl hL
   by_cases hk:o.k=1
   ·have hk':(o.k==1)=true:=by simp [hk]
    have HK:=hD (show invO o=⟨o.k,⟨invk o.g.k,o.g.a,o.g.b,o.g.c⟩,o.q,o.bit,o.cond⟩ by rw[invO,if_pos hk];rfl)
    clear hk
    go_wp2_with (first|(go_at_call 175;refine(ygh _ _ _ _ _).mono ?_;rintro e w' ⟨rfl,rfl⟩)|(at_builtin;refine yae _ rfl _ _ 38 rfl w.heap.size 104 i0 _ 8 64 Tryz.underlying38 hi hz0 hz1 hz2 rfl Zq9 _ _ _ rfl ((((hown.alloc _).alloc _).alloc _).alloc _) _ 1 1 _ rfl (yd2 ?c0 rfl) ?c2 ?c3 ?c4 ?c5 ?_))
    case c0=>first|rfl|simp
    case c2=>repeat' (first|rfl|apply And.intro)
    case c3=>simp only[maxLen];omega
    case c4=>omega
    case c5=>have:=hb.size;simp;omega
    intro v3 w3 own3 gr3 _
    have b3:=((((hb.alloc hb.size _).alloc (by have:=hb.size;simp;omega) _).alloc (by have:=hb.size;simp;omega) _).alloc (by have:=hb.size;simp;omega) _).grown gr3 (by have:=hb.size;simp;omega) (ybe hown)
    clear hown gr3
    go_wp2
    go_roundw
    case rel =>
     refine ⟨s,by omega,rfl,?_,b3⟩
     rw[yhg l s o HO.out,List.flatMap_append,←HL2.out,show n - s=n - (s+1)+1 from by omega]
     rw[HK.out]
     exact own3
    case measure=>first|(simp [intOf];done)|(simp [intOf];omega)
   ·have hk':(o.k==1)=false:=by simp [hk]
    have HK:=hD (show invO o=o by rw[invO,if_neg hk])
    clear hk
    go_wp2_with (first|(go_at_call 175;refine(ygh _ _ _ _ _).mono ?_;rintro e w' ⟨rfl,rfl⟩)|(at_builtin;refine yae _ rfl _ _ 38 rfl w.heap.size 104 i0 _ 8 64 Tryz.underlying38 hi hz0 hz1 hz2 rfl Zq9 _ _ _ rfl ((hown.alloc _).alloc _) _ 1 1 _ rfl (yd2 ?c0 rfl) ?c2 ?c3 ?c4 ?c5 ?_))
    case c0=>first|rfl|simp
    case c2=>repeat' (first|rfl|apply And.intro)
    case c3=>simp only[maxLen];omega
    case c4=>omega
    case c5=>have:=hb.size;simp;omega
    intro v3 w3 own3 gr3 _
    have b3:=((hb.alloc hb.size _).alloc (by have:=hb.size;simp;omega) _).grown gr3 (by have:=hb.size;simp;omega) (ybe hown)
    clear hown gr3
    go_wp2
    go_roundw
    case rel =>
     refine ⟨s,by omega,rfl,?_,b3⟩
     rw[yhg l s o HO.out,List.flatMap_append,←HL2.out,show n - s=n - (s+1)+1 from by omega]
     rw[HK.out]
     exact own3
    case measure=>first|(simp [intOf];done)|(simp [intOf];omega)
theorem ykw (A:Option Addr) (n c:Nat) (l:List Opt) (k:Int) (w:World) (h:Rd w 8 A n (l.flatMap yan)) (hl:l.length=n) (hn:n≤1073741824) :
  Calls Tryz.prog 140 #[.slice A n c,.int .i64 k] w (ye2 104 8 w ((reps k)*n) ((repO l (reps k)).flatMap yan)):=by
 obtain ⟨i0,hi,hz0,hz1,hz2⟩:=info_parts yda
 obtain ⟨m,hm⟩:∃ m,m=reps k:=⟨_,rfl⟩
 rw[←hm]
 have hm9:m≤9:=by rw[hm];unfold reps;omega
 have HM:Hid (m=(min k 9).toNat):=hm
 have H:=hD h
 clear h hl hm
 go_enter Tryz.func140,Tryz.ntmps140
 go_wp2
 go_loopw [5,6] (fun v i wr=>∃ t:Nat,t≤m∧i=.int .i64 t∧wr.ownsRow w.heap.size 104 8 v (t*n) ((repO l t).flatMap yan)∧Below w.heap.size w wr) (fun _ i _=>9 - (intOf i).toNat)
 case atStart=>exact ⟨0,Nat.zero_le _,rfl,by simpa [repO] using yb2 w _ 8,Zq0⟩
 case round =>
  obtain ⟨t,ht,rfl,hown,hb⟩:=hrel
  have hmn:t*n≤9*n:=Nat.mul_le_mul_right _ Zq6
  obtain ⟨L,hL⟩:∃ L,L=(repO l t).flatMap yan:=⟨_,rfl⟩
  rw[←hL] at hown
  have HL2:=hD hL
  obtain ⟨N,hN⟩:∃ N,N=t*n:=⟨_,rfl⟩
  rw[←hN] at hown hmn
  have HN:=hD hN
  clear hL hN
  by_cases hlt:t<m
  ·have hk1:(t:Int)<k:=by have:=HM.out;omega
   have hk2:(t:Int)<9:=by omega
   have hr:=H.out.below hb
   go_wp2_with (at_builtin;refine yae _ rfl _ _ 38 rfl w.heap.size 104 i0 _ 8 64 Tryz.underlying38 hi hz0 hz1 hz2 rfl Zq9 _ _ _ rfl hown _ _ _ _ rfl hr (yed ydt _) ?c3 ?c4 ?c5 ?_)
   case c3=>simp only[maxLen];omega
   case c4=>omega
   case c5=>exact hb.size
   intro v3 w3 own3 gr3 _
   have b3:=hb.grown gr3 hb.size (ybe hown)
   clear hown gr3 hr
   go_wp2
   go_roundw
   case rel =>
    refine ⟨t+1,by omega,by go_num,?_,b3⟩
    rw[yjf,List.flatMap_append,←HL2.out,Nat.add_mul,Nat.one_mul,←HN.out]
    exact own3
   case measure=>simp [intOf];omega
  ·obtain rfl:t=m:=by omega
   by_cases hk:k≤t
   ·have hk1:decide ((t:Int)<k)=false:=by simp;omega
    go_wp2
    go_ret
    exact ⟨_,rfl,by rw[HL2.out,HN.out] at hown;exact hown,hb,hb.size⟩
   ·have hk2:t=9:=by have:=HM.out;omega
    subst hk2
    have hk3:(9:Int)<k:=by omega
    go_wp2
    go_ret
    exact ⟨_,rfl,by rw[HL2.out,HN.out] at hown;exact hown,hb,hb.size⟩
theorem ykx (A:Option Addr) (n c:Nat) (l:List Opt) (k:Int) (w:World) (h:Rd w 8 A n (l.flatMap yan)) (hl:l.length=n) (hn:n≤1073741824) :
  Calls Tryz.prog 151 #[.slice A n c,.int .i64 k] w (ye2 104 8 w ((reps k)*n) ((repO l (reps k)).flatMap yan)):=by
 obtain ⟨i0,hi,hz0,hz1,hz2⟩:=info_parts yda
 obtain ⟨m,hm⟩:∃ m,m=reps k:=⟨_,rfl⟩
 rw[←hm]
 have hm9:m≤9:=by rw[hm];unfold reps;omega
 have HM:Hid (m=(min k 9).toNat):=hm
 have H:=hD h
 clear h hl hm
 go_enter Tryz.func151,Tryz.ntmps151
 go_wp2
 go_loopw [5,6] (fun v i wr=>∃ t:Nat,t≤m∧i=.int .i64 t∧wr.ownsRow w.heap.size 104 8 v (t*n) ((repO l t).flatMap yan)∧Below w.heap.size w wr) (fun _ i _=>9 - (intOf i).toNat)
 case atStart=>exact ⟨0,Nat.zero_le _,rfl,by simpa [repO] using yb2 w _ 8,Zq0⟩
 case round =>
  obtain ⟨t,ht,rfl,hown,hb⟩:=hrel
  have hmn:t*n≤9*n:=Nat.mul_le_mul_right _ Zq6
  obtain ⟨L,hL⟩:∃ L,L=(repO l t).flatMap yan:=⟨_,rfl⟩
  rw[←hL] at hown
  have HL2:=hD hL
  obtain ⟨N,hN⟩:∃ N,N=t*n:=⟨_,rfl⟩
  rw[←hN] at hown hmn
  have HN:=hD hN
  clear hL hN
  by_cases hlt:t<m
  ·have hk1:(t:Int)<k:=by have:=HM.out;omega
   have hk2:(t:Int)<9:=by omega
   by_cases hk9:k≤9
   ·have hk9':k≤9:=hk9
    have hr:=H.out.below hb
    go_wp2_with (at_builtin;refine yae _ rfl _ _ 38 rfl w.heap.size 104 i0 _ 8 64 Tryz.underlying38 hi hz0 hz1 hz2 rfl Zq9 _ _ _ rfl hown _ _ _ _ rfl hr (yed ydt _) ?c3 ?c4 ?c5 ?_)
    case c3=>simp only[maxLen];omega
    case c4=>omega
    case c5=>exact hb.size
    intro v3 w3 own3 gr3 _
    have b3:=hb.grown gr3 hb.size (ybe hown)
    clear hown gr3 hr
    go_wp2
    go_roundw
    case rel =>
     refine ⟨t+1,by omega,by go_num,?_,b3⟩
     rw[yjf,List.flatMap_append,←HL2.out,Nat.add_mul,Nat.one_mul,←HN.out]
     exact own3
    case measure=>simp [intOf];omega
   ·have hk9':9<k:=by omega
    have hr:=H.out.below hb
    go_wp2_with (at_builtin;refine yae _ rfl _ _ 38 rfl w.heap.size 104 i0 _ 8 64 Tryz.underlying38 hi hz0 hz1 hz2 rfl Zq9 _ _ _ rfl hown _ _ _ _ rfl hr (yed ydt _) ?c3 ?c4 ?c5 ?_)
    case c3=>simp only[maxLen];omega
    case c4=>omega
    case c5=>exact hb.size
    intro v3 w3 own3 gr3 _
    have b3:=hb.grown gr3 hb.size (ybe hown)
    clear hown gr3 hr
    go_wp2
    go_roundw
    case rel =>
     refine ⟨t+1,by omega,by go_num,?_,b3⟩
     rw[yjf,List.flatMap_append,←HL2.out,Nat.add_mul,Nat.one_mul,←HN.out]
     exact own3
    case measure=>simp [intOf];omega
  ·obtain rfl:t=m:=by omega
   by_cases hk:k≤t
   ·have hk1:decide ((t:Int)<k)=false:=by simp;omega
    go_wp2
    go_ret
    exact ⟨_,rfl,by rw[HL2.out,HN.out] at hown;exact hown,hb,hb.size⟩
   ·have hk2:t=9:=by have:=HM.out;omega
    subst hk2
    have hk3:(9:Int)<k:=by omega
    go_wp2
    go_ret
    exact ⟨_,rfl,by rw[HL2.out,HN.out] at hown;exact hown,hb,hb.size⟩
end Go.Proofs.YthkbckkghnbonaaGreatDoor
namespace Go.Proofs.YthkbckkghnbonaaGreatDoor
def eqSt (a b:ByteArray):Bool:=a.toList==b.toList
theorem yi6 (a:ByteArray):a.toList=a.data.toList:=Lib.toList_data a
theorem yqd (a:ByteArray):eqSt a a=true:=by simp [eqSt]
theorem yoc {a b:ByteArray} (h:eqSt a b=true):a=b:=by
 have h':a.toList=b.toList:=by simpa [eqSt] using h
 rw[yi6,yi6] at h'
 cases a
 cases b
 simp_all
end Go.Proofs.YthkbckkghnbonaaGreatDoor
namespace Go.Proofs.YthkbckkghnbonaaGreatDoor
open Go.RowKit
set_option linter.unusedVariables false
def hasS (l:List ByteArray) (s:ByteArray):Bool:=l.any fun x=>eqSt x s
theorem yml {l:List ByteArray} {s x:ByteArray} {t:Nat} (h:l[t]?=some x) (he:eqSt x s=true):hasS l s=true:=List.any_eq_true.2 ⟨x,List.mem_of_getElem? h,he⟩
theorem ygp {l:List ByteArray} {s x:ByteArray} {t:Nat} (h:l[t]?=some x) (he:eqSt x s=false) (h0:hasS (l.take t) s=false):hasS (l.take (t+1)) s=false:=by
 unfold hasS at h0 ⊢
 rw[List.take_add_one,h]
 simp only[Option.toList_some,List.any_append,h0,List.any_cons,List.any_nil,he]
 rfl
theorem yay (A:Option Addr) (n c:Nat) (l:List ByteArray) (s:ByteArray) (w:World) (h:Rd w 1 A n (strs l)) (hl:l.length=n) (hn:n≤1099511627776) :
  Calls Tryz.prog 118 #[.slice A n c,.string s] w fun e w'=>e=.returned (.bool (hasS l s))∧w=w':=by
 have H:=hD h
 have HL:=hD hl
 clear h hl
 go_enter Tryz.func118,Tryz.ntmps118
 go_wp2
 go_loop [9] (fun i=>∃ t:Nat,t≤n∧i=.int .i64 t∧hasS (l.take t) s=false) (fun i=>n - (intOf i).toNat)
 case atStart=>exact ⟨0,Nat.zero_le _,rfl,rfl⟩
 case round =>
  obtain ⟨t,ht,rfl,hok⟩:=hrel
  have HOK:=hD hok
  clear hok
  by_cases hlt:t<n
  ·obtain ⟨x,hx⟩:∃ x,l[t]?=some x:=⟨_,List.getElem?_eq_getElem (by rw[HL.out];exact hlt)⟩
   obtain ⟨b,off,rfl,_,hc⟩:=H.out.2 Zq6
   have q0:=hc t _ (ybr hx)
   have HX:=hD hx
   clear hc hx
   cases he:eqSt x s
   ·have hne:(x.toList==s.toList)=false:=he
    have HN:=hD (ygp HX.out he HOK.out)
    clear he
    go_wp2_with fail
    go_round
    case rel=>exact ⟨t+1,by omega,by go_num,HN.out⟩
    case measure=>simp [intOf];omega
   ·have hne:(x.toList==s.toList)=true:=he
    have HF:=hD (yml HX.out he)
    clear he
    go_wp2_with fail
    go_ret
    exact ⟨by rw[HF.out];rfl,rfl⟩
  ·obtain rfl:t=n:=by omega
   have HF:Hid (hasS l s=false):=by
    have h:=HOK.out
    rw[List.take_of_length_le (by rw[HL.out];exact Nat.le_refl _)] at h
    exact h
   go_wp2_with fail
   go_ret
   exact ⟨by rw[HF.out];rfl,rfl⟩
theorem ybx (A:Option Addr) (n c:Nat) (l:List ByteArray) (s:ByteArray) (w:World) (h:Rd w 1 A n (strs l)) (hl:l.length=n) (hn:n≤1099511627776) :
  Calls Tryz.prog 77 #[.slice A n c,.string s] w fun e w'=>e=.returned (.bool (hasS l s))∧w=w':=by
 have H:=hD h
 have HL:=hD hl
 clear h hl
 go_enter Tryz.func77,Tryz.ntmps77
 go_wp2
 go_loop [5] (fun i=>∃ t:Nat,t≤n∧i=.int .i64 t∧hasS (l.take t) s=false) (fun i=>n - (intOf i).toNat)
 case atStart=>exact ⟨0,Nat.zero_le _,rfl,rfl⟩
 case round =>
  obtain ⟨t,ht,rfl,hok⟩:=hrel
  have HOK:=hD hok
  clear hok
  by_cases hlt:t<n
  ·obtain ⟨x,hx⟩:∃ x,l[t]?=some x:=⟨_,List.getElem?_eq_getElem (by rw[HL.out];exact hlt)⟩
   obtain ⟨b,off,rfl,_,hc⟩:=H.out.2 Zq6
   have q0:=hc t _ (ybr hx)
   have HX:=hD hx
   clear hc hx
   cases he:eqSt x s
   ·have hne:(x.toList==s.toList)=false:=he
    have HN:=hD (ygp HX.out he HOK.out)
    clear he
    go_wp2_with fail
    go_round
    case rel=>exact ⟨t+1,by omega,by go_num,HN.out⟩
    case measure=>simp [intOf];omega
   ·have hne:(x.toList==s.toList)=true:=he
    have HF:=hD (yml HX.out he)
    clear he
    go_wp2_with fail
    go_ret
    exact ⟨by rw[HF.out];rfl,rfl⟩
  ·obtain rfl:t=n:=by omega
   have HF:Hid (hasS l s=false):=by
    have h:=HOK.out
    rw[List.take_of_length_le (by rw[HL.out];exact Nat.le_refl _)] at h
    exact h
   go_wp2_with fail
   go_ret
   exact ⟨by rw[HF.out];rfl,rfl⟩
def ltrB (x:Int):Bool:=decide (97≤x∧x≤122) || decide (48≤x∧x≤57)
theorem yqe {x:Int} (h1:97≤x) (h2:x≤122):ltrB x=true:=by simp [ltrB,h1,h2]
theorem yqf {x:Int} (h1:48≤x) (h2:x≤57):ltrB x=true:=by simp [ltrB,h1,h2]
theorem ygz {x:Int} (h1:x<97∨122<x) (h2:x<48∨57<x):ltrB x=false:=by simp [ltrB];omega
theorem yh8 (x:Int) (w:World):Calls Tryz.prog 100 #[.int .u8 x] w fun e w'=>e=.returned (.bool (ltrB x))∧w=w':=by
 by_cases h1:97≤x
 ·by_cases h2:x≤122
  ·rw[yqe h1 h2]
   go_enter Tryz.func100,Tryz.ntmps100
   go_wp2
   go_ret
   exact ⟨rfl,rfl⟩
  ·rw[ygz Zq6 Zq6]
   have h3:decide (x≤122)=false:=by simpa using h2
   have h4:decide (x≤57)=false:=by simp;omega
   have h5:(48:Int)≤x:=by omega
   clear h2
   go_enter Tryz.func100,Tryz.ntmps100
   go_wp2
   go_ret
   exact ⟨rfl,rfl⟩
 ·have h3:decide (97≤x)=false:=by simpa using h1
  by_cases h4:48≤x
  ·by_cases h5:x≤57
   ·rw[yqf h4 h5]
    clear h1
    go_enter Tryz.func100,Tryz.ntmps100
    go_wp2
    go_ret
    exact ⟨rfl,rfl⟩
   ·rw[ygz Zq6 Zq6]
    have h6:decide (x≤57)=false:=by simpa using h5
    clear h1 h5
    go_enter Tryz.func100,Tryz.ntmps100
    go_wp2
    go_ret
    exact ⟨rfl,rfl⟩
  ·rw[ygz Zq6 Zq6]
   have h6:decide (48≤x)=false:=by simpa using h4
   clear h1 h4
   go_enter Tryz.func100,Tryz.ntmps100
   go_wp2
   go_ret
   exact ⟨rfl,rfl⟩
theorem yhv (x:Int) (w:World):Calls Tryz.prog 89 #[.int .u8 x] w fun e w'=>e=.returned (.bool (ltrB x))∧w=w':=by
 by_cases h1:97≤x
 ·by_cases h2:x≤122
  ·rw[yqe h1 h2]
   go_enter Tryz.func89,Tryz.ntmps89
   go_wp2
   go_ret
   exact ⟨rfl,rfl⟩
  ·rw[ygz Zq6 Zq6]
   have h3:decide (x≤122)=false:=by simpa using h2
   have h4:decide (x≤57)=false:=by simp;omega
   have h5:(48:Int)≤x:=by omega
   clear h2
   go_enter Tryz.func89,Tryz.ntmps89
   go_wp2
   go_ret
   exact ⟨rfl,rfl⟩
 ·have h3:decide (97≤x)=false:=by simpa using h1
  by_cases h4:48≤x
  ·by_cases h5:x≤57
   ·rw[yqf h4 h5]
    clear h1
    go_enter Tryz.func89,Tryz.ntmps89
    go_wp2
    go_ret
    exact ⟨rfl,rfl⟩
   ·rw[ygz Zq6 Zq6]
    have h6:decide (x≤57)=false:=by simpa using h5
    clear h1 h5
    go_enter Tryz.func89,Tryz.ntmps89
    go_wp2
    go_ret
    exact ⟨rfl,rfl⟩
  ·rw[ygz Zq6 Zq6]
   have h6:decide (48≤x)=false:=by simpa using h4
   clear h1 h4
   go_enter Tryz.func89,Tryz.ntmps89
   go_wp2
   go_ret
   exact ⟨rfl,rfl⟩
def ydb (s:ByteArray) (k:Nat):Bool:=(s.data.toList.take k).all fun c=>ltrB c.toNat
def ya9 (s:ByteArray):Bool:=ydb s s.size&&inB s.size 1 8
theorem yh9 {s:ByteArray} {k:Nat} (h:k<s.size):ydb s (k+1)=(ydb s k&&ltrB (s[k].toNat:Int)):=by
 unfold ydb
 rw[List.take_succ_eq_append_getElem (by simpa using h)]
 simp
 rfl
theorem ys6 {s:ByteArray} {k:Nat} (h:k≤s.size) (hf:ydb s k=false):ydb s s.size=false:=by
 unfold ydb at hf ⊢
 rw[List.all_eq_false] at hf ⊢
 obtain ⟨x,hx,hn⟩:=hf
 exact ⟨x,List.mem_of_mem_take (by rwa [List.take_take,Nat.min_eq_left h]:x∈List.take k (List.take s.size s.data.toList)),hn⟩
theorem ymm {s:ByteArray} {k:Nat} (h:k<s.size) (hp:ydb s k=true) (hf:ltrB (s[k].toNat:Int)=false):ya9 s=false:=by
 have:ydb s (k+1)=false:=by rw[yh9 h,hf];simp
 rw[ya9,ys6 Zq6 this]
 rfl
theorem ymn {s:ByteArray} (hp:ydb s s.size=true):ya9 s=inB s.size 1 8:=by rw[ya9,hp];rfl
theorem ybk (s:ByteArray) (w:World) (hs:s.size≤9223372036854775807):Calls Tryz.prog 42 #[.string s] w fun e w'=>e=.returned (.bool (ya9 s))∧w=w':=by
 go_enter Tryz.func42,Tryz.ntmps42
 go_wp2
 go_loop [3] (fun i=>∃ k:Nat,k≤s.size∧i=.int .i64 k∧ydb s k=true) (fun i=>s.size - (intOf i).toNat)
 case atStart=>exact ⟨0,Nat.zero_le _,rfl,rfl⟩
 case round =>
  obtain ⟨k,hk,rfl,hp⟩:=hrel
  have HP:=hD hp
  clear hp
  by_cases hlt:k<s.size
  ·cases hl:ltrB (s[k].toNat:Int)
   ·have HF:=hD (ymm hlt HP.out hl)
    go_wp2_with (go_at_call 100;refine(yh8 _ _).mono ?_;rintro e w' ⟨rfl,rfl⟩)
    go_ret
    exact ⟨by rw[HF.out];rfl,rfl⟩
   ·have HS:=hD (show ydb s (k+1)=true by rw[yh9 hlt,HP.out,hl];rfl)
    go_wp2_with (go_at_call 100;refine(yh8 _ _).mono ?_;rintro e w' ⟨rfl,rfl⟩)
    go_round
    case rel=>exact ⟨k+1,by omega,by go_num,HS.out⟩
    case measure=>simp [intOf];omega
  ·obtain rfl:k=s.size:=by omega
   have HF:=hD (ymn HP.out)
   go_wp2_with (go_at_call 44;refine(yav _ _ _ _).mono ?_;rintro e w' ⟨rfl,rfl⟩)
   go_ret
   exact ⟨by rw[HF.out];rfl,rfl⟩
theorem ygi (s:ByteArray) (w:World) (hs:s.size≤9223372036854775807):Calls Tryz.prog 104 #[.string s] w fun e w'=>e=.returned (.bool (ya9 s))∧w=w':=by
 go_enter Tryz.func104,Tryz.ntmps104
 go_wp2
 go_loop [3] (fun i=>∃ k:Nat,k≤s.size∧i=.int .i64 k∧ydb s k=true) (fun i=>s.size - (intOf i).toNat)
 case atStart=>exact ⟨0,Nat.zero_le _,rfl,rfl⟩
 case round =>
  obtain ⟨k,hk,rfl,hp⟩:=hrel
  have HP:=hD hp
  clear hp
  by_cases hlt:k<s.size
  ·cases hl:ltrB (s[k].toNat:Int)
   ·have HF:=hD (ymm hlt HP.out hl)
    go_wp2_with (go_at_call 89;refine(yhv _ _).mono ?_;rintro e w' ⟨rfl,rfl⟩)
    go_ret
    exact ⟨by rw[HF.out];rfl,rfl⟩
   ·have HS:=hD (show ydb s (k+1)=true by rw[yh9 hlt,HP.out,hl];rfl)
    go_wp2_with (go_at_call 89;refine(yhv _ _).mono ?_;rintro e w' ⟨rfl,rfl⟩)
    go_round
    case rel=>exact ⟨k+1,by omega,by go_num,HS.out⟩
    case measure=>simp [intOf];omega
  ·obtain rfl:k=s.size:=by omega
   have HF:=hD (ymn HP.out)
   go_wp2_with (go_at_call 47;refine(yag _ _ _ _).mono ?_;rintro e w' ⟨rfl,rfl⟩)
   go_ret
   exact ⟨by rw[HF.out];rfl,rfl⟩
def ya2 (k count:Int):Bool:=if k=2 then inB count 1 9 else decide (count=0)
def ya4 (k:Int) (word:ByteArray) (na:Nat) (count:Int) (bl:Nat):Bool :=
 inB k 1 7&&(decide (na=yar k word)&&(decide (k≠1∨yar k word≠0)&&(decide (k=1∨word.toList=[])&&(decide (hasB k=true∨bl=0)&&ya2 k count))))
theorem yno {word:ByteArray} (h:word.toList=[]):yao word=0:=by
 unfold yao
 rw[h]
 decide
def vRes (k:Int) (word:ByteArray) (args:List ByteArray) (count:Int) (nb:Nat) (rs:List Bool):Bool:=ya4 k word args.length count nb&&(args.all ya9&&rs.all id)
section
variable {k:Int} {word:ByteArray} {args:List ByteArray} {count:Int} {nb:Nat} {rs:List Bool}
theorem ycq (h:ya4 k word args.length count nb=false):vRes k word args count nb rs=false:=by simp [vRes,h]
theorem yia {t:Nat} {s:ByteArray} (hs:args[t]?=some s) (h:ya9 s=false):vRes k word args count nb rs=false:=by
 have:args.all ya9=false:=by
  rw[List.all_eq_false]
  exact ⟨s,List.mem_of_getElem? hs,by simp [h]⟩
 simp [vRes,this]
theorem ygj {t:Nat} (hs:rs[t]?=some false):vRes k word args count nb rs=false:=by
 have:rs.all id=false:=by
  rw[List.all_eq_false]
  exact ⟨false,List.mem_of_getElem? hs,by simp⟩
 simp [vRes,this]
theorem ygk (h1:ya4 k word args.length count nb=true) (h2:args.all ya9=true) (h3:rs.all id=true):vRes k word args count nb rs=true:=by rw[vRes,h1,h2,h3];rfl
end
theorem ycg {α:Type} (p:α→Bool) {l:List α} {t:Nat} {x:α} (h:l[t]?=some x):(l.take (t+1)).all p=((l.take t).all p&&p x):=by
 rw[List.take_add_one,h]
 simp
def Elts (f:Nat) (w:World) (Ab:Option Addr) (nb:Nat) (rs:List Bool):Prop:=∀ t,t<nb→∃ (b off:Nat) (k:Int) (wd:ByteArray) (Aa:Option Addr) (na ca:Nat) (ct:Int) (Ab':Option Addr) (nb' cb':Nat) (r:Bool),
 Ab=some ⟨b,off,none⟩∧b<w.heap.size∧(w.cell? ⟨b,off+t*5,none⟩=some (.int .i64 k)∧w.cell? ⟨b,off+t*5+1,none⟩=some (.string wd)∧w.cell? ⟨b,off+t*5+2,none⟩=some (.slice Aa na ca)∧w.cell? ⟨b,off+t*5+3,none⟩=some (.int .i64 ct)∧w.cell? ⟨b,off+t*5+4,none⟩=some (.slice Ab' nb' cb')) ∧
 rs[t]?=some r∧∀ w',Below w.heap.size w w'→Calls Tryz.prog f #[.agg #[.int .i64 k,.string wd,.slice Aa na ca,.int .i64 ct,.slice Ab' nb' cb']] w' fun e w''=>e=.returned (.bool r)∧Below w'.heap.size w' w''∧w'.heap.size≤w''.heap.size
def vOne (d:Nat) (vt:List (Tr d)→Bool) (h:SH) (bd:List (Tr d)):Bool:=ya4 h.k h.word h.args.length h.count bd.length&&(h.args.all ya9&&vt bd)
def ya7:(d:Nat)→List (Tr d)→Bool
 | 0,_=>true
 | d+1,l=>l.all fun s=>vOne d (ya7 d) (hdT s) (bdT s)
theorem ymo {d:Nat} {k:Int} {word:ByteArray} {args:List ByteArray} {count:Int} {bd:List (Tr d)} {rs:List Bool} (h:rs.all id=ya7 d bd):vRes k word args count bd.length rs=vOne d (ya7 d) ⟨k,word,args,count⟩ bd:=by
 simp only[vRes,vOne,h]
theorem ymp {d:Nat} (l:List (Tr (d+1))):(l.map fun s=>vOne d (ya7 d) (hdT s) (bdT s)).all id=ya7 (d+1) l:=by simp [ya7,List.all_map]
abbrev Bad:=Int × ByteArray
def bad0:Bad:=(0,⟨#[]⟩)
def ycn (names held:List ByteArray) (a:ByteArray):Bad:=if hasS names a=false then (2,a) else if hasS held a=true then (4,a) else bad0
def chkA (names held args:List ByteArray):Nat→List ByteArray→Bad
 | _,[]=>bad0
 | i,a :: r=>if hasS names a=false then (2,a) else if hasS held a=true then (4,a) else if hasS (args.take i) a=true then (3,a) else chkA names held args (i+1) r
def ctlS (k:Int) (n:Nat):Bool:=if n=0 then true else if n=1 then (k != 7&&(k != 8&&k != 12)) else decide (n=2)&&(k==1 || k==3)
def ycy (word:ByteArray):Bool:=word.toList==[116] || (word.toList==[116,100] || word.toList==[99,99,120])
def badI (word:ByteArray) (n:Nat):Bool:=(decide (n=1)&&ycy word) || ((decide (n=2)&&(!(word.toList==[120])&&!(word.toList==[122]))) || decide (2<n))
def yc0 (names held args:List ByteArray) (word:ByteArray):Bad:=if (chkA names held args 0 args).1=0 then (if ctlS (yao word) held.length=true then bad0 else (9,word)) else chkA names held args 0 args
section
variable {names held args:List ByteArray} {t:Nat} {a:ByteArray}
theorem yg0 (h:args[t]?=some a):args.drop t=a :: args.drop (t+1):=by
 obtain ⟨hl,rfl⟩:=List.getElem?_eq_some_iff.1 h
 exact List.drop_eq_getElem_cons hl
theorem ytu (h:args[t]?=some a) (h1:hasS names a=false):chkA names held args t (args.drop t)=(2,a):=by rw[yg0 h,chkA,if_pos h1]
theorem ytv (h:args[t]?=some a) (h1:hasS names a=true) (h2:hasS held a=true):chkA names held args t (args.drop t)=(4,a):=by rw[yg0 h,chkA,if_neg (by simp [h1]),if_pos h2]
theorem yqg (h:args[t]?=some a) (h1:hasS names a=true) (h2:hasS held a=false) (h3:hasS (args.take t) a=true):chkA names held args t (args.drop t)=(3,a):=by rw[yg0 h,chkA,if_neg (by simp [h1]),if_neg (by simp [h2]),if_pos h3]
theorem yqh (h:args[t]?=some a) (h1:hasS names a=true) (h2:hasS held a=false) (h3:hasS (args.take t) a=false):chkA names held args t (args.drop t)=chkA names held args (t+1) (args.drop (t+1)):=by rw[yg0 h,chkA,if_neg (by simp [h1]),if_neg (by simp [h2]),if_neg (by simp [h3])]
theorem yfq {word:ByteArray} {c:Bad} (h:chkA names held args 0 args=c) (hc:c.1≠0):yc0 names held args word=c:=by rw[yc0,h,if_neg hc]
theorem ycz {word:ByteArray} (h:chkA names held args 0 args=bad0) (hc:ctlS (yao word) held.length=true):yc0 names held args word=bad0:=by rw[yc0,h,if_pos (show bad0.1=0 from rfl),if_pos hc]
theorem ydf {word:ByteArray} (h:chkA names held args 0 args=bad0) (hc:ctlS (yao word) held.length=false):yc0 names held args word=(9,word):=by rw[yc0,h,if_pos (show bad0.1=0 from rfl),if_neg (by simp [hc])]
end
theorem yr7:∀ k,k<13→0<k→yct (ydg k) 12 1=k:=by decide
theorem ysz {word:ByteArray} {k:Nat} (hk:k<13) (h0:0<k):(yao word=k) ↔ word.toList=ydg k:=by
 constructor
 ·intro h
  have key:∀ f j,j+f≤13→yct word.toList f j=k→word.toList=ydg k:=by
   intro f
   induction f with
   | zero=>intro j _ e;simp [yct] at e;omega
   | succ f ih =>
    intro j hj e
    simp only[yct] at e
    split at e
    ·rename_i hh
     have:=LawfulBEq.eq_of_beq hh
     rw[←e]
     exact this.symm
    ·exact ih (j+1) Zq6 e
  exact key 12 1 Zq6 h
 ·intro h
  unfold yao
  rw[h]
  exact yr7 k hk h0
theorem yj8 {word:ByteArray} {k:Nat} (hk:k<13) (h0:0<k):((yao word:Int) != (k:Int))=!(word.toList==ydg k):=by
 by_cases h:word.toList=ydg k
 ·have:=(ysz hk h0).2 h
  rw[this,h]
  simp
 ·have:yao word≠k:=fun e=>h ((ysz hk h0).1 e)
  have h1:(word.toList==ydg k)=false:=by simpa using h
  rw[h1]
  simp
  omega
theorem yr8 (word:ByteArray) (n:Nat):badI word n=!ctlS (yao word) n:=by
 have e7:=yj8 (word:=word) (k:=7) Zq9 Zq9
 have e8:=yj8 (word:=word) (k:=8) Zq9 Zq9
 have e12:=yj8 (word:=word) (k:=12) Zq9 Zq9
 have e1:=yj8 (word:=word) (k:=1) Zq9 Zq9
 have e3:=yj8 (word:=word) (k:=3) Zq9 Zq9
 have g7:ydg 7=[116]:=rfl
 have g8:ydg 8=[116,100]:=rfl
 have g12:ydg 12=[99,99,120]:=rfl
 have g1:ydg 1=[120]:=rfl
 have g3:ydg 3=[122]:=rfl
 rw[g7] at e7;rw[g8] at e8;rw[g12] at e12;rw[g1] at e1;rw[g3] at e3
 have f1:((yao word:Int)==1)=(word.toList==[120]):=by
  have:((yao word:Int)==1)=!((yao word:Int) != 1):=by simp [bne]
  rw[this]
  have e1':((yao word:Int) != 1)=!(word.toList==[120]):=e1
  rw[e1']
  simp
 have f3:((yao word:Int)==3)=(word.toList==[122]):=by
  have:((yao word:Int)==3)=!((yao word:Int) != 3):=by simp [bne]
  rw[this]
  have e3':((yao word:Int) != 3)=!(word.toList==[122]):=e3
  rw[e3']
  simp
 have e7':((yao word:Int) != 7)=!(word.toList==[116]):=e7
 have e8':((yao word:Int) != 8)=!(word.toList==[116,100]):=e8
 have e12':((yao word:Int) != 12)=!(word.toList==[99,99,120]):=e12
 unfold badI ctlS ycy
 rw[f1,f3,e7',e8',e12']
 by_cases n0:n=0
 ·subst n0;simp
 ·by_cases n1:n=1
  ·subst n1
   cases word.toList==[116] <;> cases word.toList==[116,100] <;> cases word.toList==[99,99,120] <;> simp
  ·by_cases n2:n=2
   ·subst n2
    cases word.toList==[120] <;> cases word.toList==[122] <;> simp
   ·have:2<n:=by omega
    simp [n0,n1,n2,this]
theorem ybz {w w':World} {b:Nat} {x0 x1 x2:Value} {t:TypeId} (lay:Below w'.heap.size w' w) (h:w'.heap[b]?=some (.cells #[x0,x1,x2] t (0,0))) :
  w.cell? ⟨b,0,none⟩=some x0∧w.cell? ⟨b,1,none⟩=some x1∧w.cell? ⟨b,2,none⟩=some x2:=by
 have h':w.heap[b]?=some (.cells #[x0,x1,x2] t (0,0)):=(lay.block b (lt_of_block h)).trans h
 exact ⟨by simp [World.cell?,h'],by simp [World.cell?,h'],by simp [World.cell?,h']⟩
def yky (c:Bad) (w:World) (e:Ending) (w':World):Prop:=e=.returned (.tuple #[.int .i64 c.1,.string c.2])∧Below w.heap.size w w'∧w.heap.size≤w'.heap.size
theorem yqi (C:Value) (word:ByteArray) (args names held:List ByteArray) (count:Int) (Aa:Option Addr) (m ca:Nat) (vb:Value) (An Ah:Option Addr) (nn cn nh ch:Nat) (nested:Bool) (w:World)
  (hm:args.length=m) (hra:Rd w 1 Aa m (strs args)) (hca:m≤ca) (hnn:names.length=nn) (hrn:Rd w 1 An nn (strs names)) (hnh:held.length=nh) (hrh:Rd w 1 Ah nh (strs held)) (h1:m≤1048576) (h2:nn≤1048576) (h3:nh≤1048576) (hvb:∃ A n c,vb=.slice A n c) :
  Calls Tryz.prog 173 #[C,.agg #[.int .i64 1,.string word,.slice Aa m ca,.int .i64 count,vb],.agg #[.slice An nn cn,.slice Ah nh ch,.bool nested]] w (yky (yc0 names held args word) w):=by
 obtain ⟨Ab,nb,cb,rfl⟩:=hvb
 obtain ⟨w0,hw0⟩:∃ w0,w0=(w.alloc (.cells #[.int .i64 1,.string word,.slice Aa m ca,.int .i64 count,.slice Ab nb cb] 66)).alloc (.cells #[.slice An nn cn,.slice Ah nh ch,.bool nested] 151):=⟨_,rfl⟩
 have X0:=hD (show w0.heap[w.heap.size]?=some (.cells #[.int .i64 1,.string word,.slice Aa m ca,.int .i64 count,.slice Ab nb cb] 66 (0,0)) by rw[hw0];exact ydo _ _ _)
 have X1:=hD (show w0.heap[w.heap.size+1]?=some (.cells #[.slice An nn cn,.slice Ah nh ch,.bool nested] 151 (0,0)) by rw[hw0];exact yem _ _ _)
 have b0:Below w.heap.size w w0:=by rw[hw0];exact Zq0
 have hz:w.heap.size+1<w0.heap.size:=by rw[hw0];simp
 have HW:=hD hw0
 have HA:=hD (hra.below b0)
 have HN:=hD (hrn.below b0)
 have HH:=hD (hrh.below b0)
 have HM:=hD hm
 have HNN:=hD hnn
 have HNH:=hD hnh
 have B0:=hD b0
 clear hw0 b0 hra hrn hrh hm hnn hnh
 obtain ⟨p0,p1,p2,p3,p4⟩:=yas (lay:=Below.refl _ _) X0.out
 obtain ⟨q0,q1,q2⟩:=ybz (lay:=Below.refl _ _) X1.out
 have hz0:w.heap.size<w0.heap.size:=by omega
 go_enter Tryz.func173,Tryz.ntmps173
 go_wp2_with fail
 rw[←HW.out]
 go_loop [15] (fun i=>∃ t:Nat,t≤m∧i=.int .i64 t∧Hid (chkA names held args 0 args=chkA names held args t (args.drop t))) (fun i=>m - (intOf i).toNat)
 case atStart=>exact ⟨0,Nat.zero_le _,rfl,rfl⟩
 case round =>
  obtain ⟨t,ht,rfl,hc⟩:=hrel
  by_cases hlt:t<m
  ·obtain ⟨a,ha⟩:∃ a,args[t]?=some a:=⟨_,List.getElem?_eq_getElem (by rw[HM.out];exact hlt)⟩
   obtain ⟨b,off,rfl,hbl,hcl⟩:=HA.out.2 Zq6
   have r0:=hcl t _ (ybr ha)
   have HAT:=hD ha
   have RT:Hid (Rd w0 1 (some ⟨b,off,none⟩) t (strs (args.take t))):=by
    have:=HA.out.take (t:=t) Zq6
    rw[show(strs args).take t=strs (args.take t) by simp [strs]] at this
    exact this
   clear hcl ha
   cases e1:hasS names a
   ·have HF:=hD (yfq (word:=word) (hc.out.trans (ytu HAT.out e1)) (show(2:Int)≠0 by decide))
    go_wp2_with (first|(go_at_call 118;(with_reducible refine(yay An nn cn names a w0 HN.out HNN.out Zq6).mono ?_);rintro e w' ⟨rfl,rfl⟩)|(go_at_call 118;(with_reducible refine(yay Ah nh ch held a w0 HH.out HNH.out Zq6).mono ?_);rintro e w' ⟨rfl,rfl⟩)|(go_at_call 118;(with_reducible refine(yay (some ⟨b,off,none⟩) t _ (args.take t) a w0 RT.out (by rw[List.length_take,HM.out];omega) Zq6).mono ?_);rintro e w' ⟨rfl,rfl⟩))
    go_ret2
    exact ⟨by rw[HF.out];rfl,B0.out,B0.out.size⟩
   ·cases e2:hasS held a
    ·cases e3:hasS (args.take t) a
     ·have HN1:=hD (hc.out.trans (yqh HAT.out e1 e2 e3))
      go_wp2_with (first|(go_at_call 118;(with_reducible refine(yay An nn cn names a w0 HN.out HNN.out Zq6).mono ?_);rintro e w' ⟨rfl,rfl⟩)|(go_at_call 118;(with_reducible refine(yay Ah nh ch held a w0 HH.out HNH.out Zq6).mono ?_);rintro e w' ⟨rfl,rfl⟩)|(go_at_call 118;(with_reducible refine(yay (some ⟨b,off,none⟩) t _ (args.take t) a w0 RT.out (by rw[List.length_take,HM.out];omega) Zq6).mono ?_);rintro e w' ⟨rfl,rfl⟩))
      go_round
      case rel=>exact ⟨t+1,by omega,by go_num,HN1⟩
      case measure=>simp [intOf];omega
     ·have HF:=hD (yfq (word:=word) (hc.out.trans (yqg HAT.out e1 e2 e3)) (show(3:Int)≠0 by decide))
      go_wp2_with (first|(go_at_call 118;(with_reducible refine(yay An nn cn names a w0 HN.out HNN.out Zq6).mono ?_);rintro e w' ⟨rfl,rfl⟩)|(go_at_call 118;(with_reducible refine(yay Ah nh ch held a w0 HH.out HNH.out Zq6).mono ?_);rintro e w' ⟨rfl,rfl⟩)|(go_at_call 118;(with_reducible refine(yay (some ⟨b,off,none⟩) t _ (args.take t) a w0 RT.out (by rw[List.length_take,HM.out];omega) Zq6).mono ?_);rintro e w' ⟨rfl,rfl⟩))
      go_ret2
      exact ⟨by rw[HF.out];rfl,B0.out,B0.out.size⟩
    ·have HF:=hD (yfq (word:=word) (hc.out.trans (ytv HAT.out e1 e2)) (show(4:Int)≠0 by decide))
     go_wp2_with (first|(go_at_call 118;(with_reducible refine(yay An nn cn names a w0 HN.out HNN.out Zq6).mono ?_);rintro e w' ⟨rfl,rfl⟩)|(go_at_call 118;(with_reducible refine(yay Ah nh ch held a w0 HH.out HNH.out Zq6).mono ?_);rintro e w' ⟨rfl,rfl⟩)|(go_at_call 118;(with_reducible refine(yay (some ⟨b,off,none⟩) t _ (args.take t) a w0 RT.out (by rw[List.length_take,HM.out];omega) Zq6).mono ?_);rintro e w' ⟨rfl,rfl⟩))
     go_ret2
     exact ⟨by rw[HF.out];rfl,B0.out,B0.out.size⟩
  ·obtain rfl:t=m:=by omega
   have hc':Hid (chkA names held args 0 args=bad0):=by
    have:=hc.out
    rw[List.drop_of_length_le (by rw[HM.out];exact Nat.le_refl _)] at this
    exact this.trans rfl
   have hctl:=yr8 word held.length
   rw[HNH.out] at hctl
   have HCT:=hD hctl
   clear hctl
   cases e16:word.toList==[116]
   ·cases e17:word.toList==[116,100]
    ·cases e18:word.toList==[99,99,120]
     ·have hnn4:nh=0∨nh=1∨nh=2∨2<nh:=by omega
      rcases hnn4 with hn0|hn1|hn2|hn3
      ·have hb:badI word nh=false:=by simp [badI,ycy,e16,e17,e18,hn0]
       have hcc:ctlS (yao word) nh=true:=by have:=HCT.out;rw[hb] at this;simpa using this.symm
       have HF:=hD (ycz hc'.out (by rw[HNH.out];exact hcc))
       have d1:((nh:Int)==1)=false:=by rw[beq_eq_false_iff_ne];omega
       have d2:((nh:Int)==2)=false:=by rw[beq_eq_false_iff_ne];omega
       have d3:decide (2<(nh:Int))=false:=by simp;omega
       have d4:decide (2<nh)=false:=by simp;omega
       have ne16:(!(word.toList==[116]))=true:=by rw[e16];rfl
       have ne17:(!(word.toList==[116,100]))=true:=by rw[e17];rfl
       have ne18:(!(word.toList==[99,99,120]))=true:=by rw[e18];rfl
       clear hb hcc hn0 hc'
       go_wp2_with fail
       go_ret2
       exact ⟨by rw[HF.out];rfl,B0.out,B0.out.size⟩
      ·have hb:badI word nh=false:=by simp [badI,ycy,e16,e17,e18,hn1]
       have hcc:ctlS (yao word) nh=true:=by have:=HCT.out;rw[hb] at this;simpa using this.symm
       have HF:=hD (ycz hc'.out (by rw[HNH.out];exact hcc))
       have d1:((nh:Int)==1)=true:=by simp;omega
       have d2:((nh:Int)==2)=false:=by rw[beq_eq_false_iff_ne];omega
       have d3:decide (2<(nh:Int))=false:=by simp;omega
       have d4:decide (2<nh)=false:=by simp;omega
       have ne16:(!(word.toList==[116]))=true:=by rw[e16];rfl
       have ne17:(!(word.toList==[116,100]))=true:=by rw[e17];rfl
       have ne18:(!(word.toList==[99,99,120]))=true:=by rw[e18];rfl
       clear hb hcc hn1 hc'
       go_wp2_with fail
       go_ret2
       exact ⟨by rw[HF.out];rfl,B0.out,B0.out.size⟩
      ·cases e19:word.toList==[120]
       ·cases e20:word.toList==[122]
        ·have hb:badI word nh=true:=by simp [badI,ycy,e16,e17,e18,e19,e20,hn2]
         have hcc:ctlS (yao word) nh=false:=by have:=HCT.out;rw[hb] at this;simpa using this.symm
         have HF:=hD (ydf hc'.out (by rw[HNH.out];exact hcc))
         have d1:((nh:Int)==1)=false:=by rw[beq_eq_false_iff_ne];omega
         have d2:((nh:Int)==2)=true:=by simp;omega
         have d3:decide (2<(nh:Int))=false:=by simp;omega
         have d4:decide (2<nh)=false:=by simp;omega
         have ne16:(!(word.toList==[116]))=true:=by rw[e16];rfl
         have ne17:(!(word.toList==[116,100]))=true:=by rw[e17];rfl
         have ne18:(!(word.toList==[99,99,120]))=true:=by rw[e18];rfl
         have ne19:(!(word.toList==[120]))=true:=by rw[e19];rfl
         have ne20:(!(word.toList==[122]))=true:=by rw[e20];rfl
         clear hb hcc hn2 hc'
         go_wp2_with fail
         go_quiet (fail)
         go_wp2_with fail
         go_ret2
         exact ⟨by rw[HF.out];rfl,yaq B0.out _,(yaq B0.out _).size⟩
        ·have hb:badI word nh=false:=by simp [badI,ycy,e16,e17,e18,e19,e20,hn2]
         have hcc:ctlS (yao word) nh=true:=by have:=HCT.out;rw[hb] at this;simpa using this.symm
         have HF:=hD (ycz hc'.out (by rw[HNH.out];exact hcc))
         have d1:((nh:Int)==1)=false:=by rw[beq_eq_false_iff_ne];omega
         have d2:((nh:Int)==2)=true:=by simp;omega
         have d3:decide (2<(nh:Int))=false:=by simp;omega
         have d4:decide (2<nh)=false:=by simp;omega
         have ne16:(!(word.toList==[116]))=true:=by rw[e16];rfl
         have ne17:(!(word.toList==[116,100]))=true:=by rw[e17];rfl
         have ne18:(!(word.toList==[99,99,120]))=true:=by rw[e18];rfl
         have ne19:(!(word.toList==[120]))=true:=by rw[e19];rfl
         have ne20:(!(word.toList==[122]))=false:=by rw[e20];rfl
         clear hb hcc hn2 hc'
         go_wp2_with fail
         go_ret2
         exact ⟨by rw[HF.out];rfl,B0.out,B0.out.size⟩
       ·have hb:badI word nh=false:=by simp [badI,ycy,e16,e17,e18,e19,hn2]
        have hcc:ctlS (yao word) nh=true:=by have:=HCT.out;rw[hb] at this;simpa using this.symm
        have HF:=hD (ycz hc'.out (by rw[HNH.out];exact hcc))
        have d1:((nh:Int)==1)=false:=by rw[beq_eq_false_iff_ne];omega
        have d2:((nh:Int)==2)=true:=by simp;omega
        have d3:decide (2<(nh:Int))=false:=by simp;omega
        have d4:decide (2<nh)=false:=by simp;omega
        have ne16:(!(word.toList==[116]))=true:=by rw[e16];rfl
        have ne17:(!(word.toList==[116,100]))=true:=by rw[e17];rfl
        have ne18:(!(word.toList==[99,99,120]))=true:=by rw[e18];rfl
        have ne19:(!(word.toList==[120]))=false:=by rw[e19];rfl
        clear hb hcc hn2 hc'
        go_wp2_with fail
        go_ret2
        exact ⟨by rw[HF.out];rfl,B0.out,B0.out.size⟩
      ·have hx:nh≠1∧nh≠2:=by omega
       have hb:badI word nh=true:=by simp [badI,ycy,e16,e17,e18,hn3,hx.1,hx.2]
       have hcc:ctlS (yao word) nh=false:=by have:=HCT.out;rw[hb] at this;simpa using this.symm
       have HF:=hD (ydf hc'.out (by rw[HNH.out];exact hcc))
       have d1:((nh:Int)==1)=false:=by rw[beq_eq_false_iff_ne];omega
       have d2:((nh:Int)==2)=false:=by rw[beq_eq_false_iff_ne];omega
       have d3:decide (2<(nh:Int))=true:=by simp;omega
       have d4:decide (2<nh)=true:=by simp;omega
       have ne16:(!(word.toList==[116]))=true:=by rw[e16];rfl
       have ne17:(!(word.toList==[116,100]))=true:=by rw[e17];rfl
       have ne18:(!(word.toList==[99,99,120]))=true:=by rw[e18];rfl
       clear hb hcc hn3 hc'
       go_wp2_with fail
       go_quiet (fail)
       go_wp2_with fail
       go_ret2
       exact ⟨by rw[HF.out];rfl,yaq B0.out _,(yaq B0.out _).size⟩
     ·have hnn4:nh=0∨nh=1∨nh=2∨2<nh:=by omega
      rcases hnn4 with hn0|hn1|hn2|hn3
      ·have hb:badI word nh=false:=by simp [badI,ycy,e16,e17,e18,hn0]
       have hcc:ctlS (yao word) nh=true:=by have:=HCT.out;rw[hb] at this;simpa using this.symm
       have HF:=hD (ycz hc'.out (by rw[HNH.out];exact hcc))
       have d1:((nh:Int)==1)=false:=by rw[beq_eq_false_iff_ne];omega
       have d2:((nh:Int)==2)=false:=by rw[beq_eq_false_iff_ne];omega
       have d3:decide (2<(nh:Int))=false:=by simp;omega
       have d4:decide (2<nh)=false:=by simp;omega
       have ne16:(!(word.toList==[116]))=true:=by rw[e16];rfl
       have ne17:(!(word.toList==[116,100]))=true:=by rw[e17];rfl
       have ne18:(!(word.toList==[99,99,120]))=false:=by rw[e18];rfl
       clear hb hcc hn0 hc'
       go_wp2_with fail
       go_ret2
       exact ⟨by rw[HF.out];rfl,B0.out,B0.out.size⟩
      ·have hb:badI word nh=true:=by simp [badI,ycy,e16,e17,e18,hn1]
       have hcc:ctlS (yao word) nh=false:=by have:=HCT.out;rw[hb] at this;simpa using this.symm
       have HF:=hD (ydf hc'.out (by rw[HNH.out];exact hcc))
       have d1:((nh:Int)==1)=true:=by simp;omega
       have d2:((nh:Int)==2)=false:=by rw[beq_eq_false_iff_ne];omega
       have d3:decide (2<(nh:Int))=false:=by simp;omega
       have d4:decide (2<nh)=false:=by simp;omega
       have ne16:(!(word.toList==[116]))=true:=by rw[e16];rfl
       have ne17:(!(word.toList==[116,100]))=true:=by rw[e17];rfl
       have ne18:(!(word.toList==[99,99,120]))=false:=by rw[e18];rfl
       clear hb hcc hn1 hc'
       go_wp2_with fail
       go_quiet (fail)
       go_wp2_with fail
       go_ret2
       exact ⟨by rw[HF.out];rfl,yaq B0.out _,(yaq B0.out _).size⟩
      ·cases e19:word.toList==[120]
       ·cases e20:word.toList==[122]
        ·have hb:badI word nh=true:=by simp [badI,ycy,e16,e17,e18,e19,e20,hn2]
         have hcc:ctlS (yao word) nh=false:=by have:=HCT.out;rw[hb] at this;simpa using this.symm
         have HF:=hD (ydf hc'.out (by rw[HNH.out];exact hcc))
         have d1:((nh:Int)==1)=false:=by rw[beq_eq_false_iff_ne];omega
         have d2:((nh:Int)==2)=true:=by simp;omega
         have d3:decide (2<(nh:Int))=false:=by simp;omega
         have d4:decide (2<nh)=false:=by simp;omega
         have ne16:(!(word.toList==[116]))=true:=by rw[e16];rfl
         have ne17:(!(word.toList==[116,100]))=true:=by rw[e17];rfl
         have ne18:(!(word.toList==[99,99,120]))=false:=by rw[e18];rfl
         have ne19:(!(word.toList==[120]))=true:=by rw[e19];rfl
         have ne20:(!(word.toList==[122]))=true:=by rw[e20];rfl
         clear hb hcc hn2 hc'
         go_wp2_with fail
         go_quiet (fail)
         go_wp2_with fail
         go_ret2
         exact ⟨by rw[HF.out];rfl,yaq B0.out _,(yaq B0.out _).size⟩
        ·have hb:badI word nh=false:=by simp [badI,ycy,e16,e17,e18,e19,e20,hn2]
         have hcc:ctlS (yao word) nh=true:=by have:=HCT.out;rw[hb] at this;simpa using this.symm
         have HF:=hD (ycz hc'.out (by rw[HNH.out];exact hcc))
         have d1:((nh:Int)==1)=false:=by rw[beq_eq_false_iff_ne];omega
         have d2:((nh:Int)==2)=true:=by simp;omega
         have d3:decide (2<(nh:Int))=false:=by simp;omega
         have d4:decide (2<nh)=false:=by simp;omega
         have ne16:(!(word.toList==[116]))=true:=by rw[e16];rfl
         have ne17:(!(word.toList==[116,100]))=true:=by rw[e17];rfl
         have ne18:(!(word.toList==[99,99,120]))=false:=by rw[e18];rfl
         have ne19:(!(word.toList==[120]))=true:=by rw[e19];rfl
         have ne20:(!(word.toList==[122]))=false:=by rw[e20];rfl
         clear hb hcc hn2 hc'
         go_wp2_with fail
         go_ret2
         exact ⟨by rw[HF.out];rfl,B0.out,B0.out.size⟩
       ·have hb:badI word nh=false:=by simp [badI,ycy,e16,e17,e18,e19,hn2]
        have hcc:ctlS (yao word) nh=true:=by have:=HCT.out;rw[hb] at this;simpa using this.symm
        have HF:=hD (ycz hc'.out (by rw[HNH.out];exact hcc))
        have d1:((nh:Int)==1)=false:=by rw[beq_eq_false_iff_ne];omega
        have d2:((nh:Int)==2)=true:=by simp;omega
        have d3:decide (2<(nh:Int))=false:=by simp;omega
        have d4:decide (2<nh)=false:=by simp;omega
        have ne16:(!(word.toList==[116]))=true:=by rw[e16];rfl
        have ne17:(!(word.toList==[116,100]))=true:=by rw[e17];rfl
        have ne18:(!(word.toList==[99,99,120]))=false:=by rw[e18];rfl
        have ne19:(!(word.toList==[120]))=false:=by rw[e19];rfl
        clear hb hcc hn2 hc'
        go_wp2_with fail
        go_ret2
        exact ⟨by rw[HF.out];rfl,B0.out,B0.out.size⟩
      ·have hx:nh≠1∧nh≠2:=by omega
       have hb:badI word nh=true:=by simp [badI,ycy,e16,e17,e18,hn3,hx.1,hx.2]
       have hcc:ctlS (yao word) nh=false:=by have:=HCT.out;rw[hb] at this;simpa using this.symm
       have HF:=hD (ydf hc'.out (by rw[HNH.out];exact hcc))
       have d1:((nh:Int)==1)=false:=by rw[beq_eq_false_iff_ne];omega
       have d2:((nh:Int)==2)=false:=by rw[beq_eq_false_iff_ne];omega
       have d3:decide (2<(nh:Int))=true:=by simp;omega
       have d4:decide (2<nh)=true:=by simp;omega
       have ne16:(!(word.toList==[116]))=true:=by rw[e16];rfl
       have ne17:(!(word.toList==[116,100]))=true:=by rw[e17];rfl
       have ne18:(!(word.toList==[99,99,120]))=false:=by rw[e18];rfl
       clear hb hcc hn3 hc'
       go_wp2_with fail
       go_quiet (fail)
       go_wp2_with fail
       go_ret2
       exact ⟨by rw[HF.out];rfl,yaq B0.out _,(yaq B0.out _).size⟩
    ·have hnn4:nh=0∨nh=1∨nh=2∨2<nh:=by omega
     rcases hnn4 with hn0|hn1|hn2|hn3
     ·have hb:badI word nh=false:=by simp [badI,ycy,e16,e17,hn0]
      have hcc:ctlS (yao word) nh=true:=by have:=HCT.out;rw[hb] at this;simpa using this.symm
      have HF:=hD (ycz hc'.out (by rw[HNH.out];exact hcc))
      have d1:((nh:Int)==1)=false:=by rw[beq_eq_false_iff_ne];omega
      have d2:((nh:Int)==2)=false:=by rw[beq_eq_false_iff_ne];omega
      have d3:decide (2<(nh:Int))=false:=by simp;omega
      have d4:decide (2<nh)=false:=by simp;omega
      have ne16:(!(word.toList==[116]))=true:=by rw[e16];rfl
      have ne17:(!(word.toList==[116,100]))=false:=by rw[e17];rfl
      clear hb hcc hn0 hc'
      go_wp2_with fail
      go_ret2
      exact ⟨by rw[HF.out];rfl,B0.out,B0.out.size⟩
     ·have hb:badI word nh=true:=by simp [badI,ycy,e16,e17,hn1]
      have hcc:ctlS (yao word) nh=false:=by have:=HCT.out;rw[hb] at this;simpa using this.symm
      have HF:=hD (ydf hc'.out (by rw[HNH.out];exact hcc))
      have d1:((nh:Int)==1)=true:=by simp;omega
      have d2:((nh:Int)==2)=false:=by rw[beq_eq_false_iff_ne];omega
      have d3:decide (2<(nh:Int))=false:=by simp;omega
      have d4:decide (2<nh)=false:=by simp;omega
      have ne16:(!(word.toList==[116]))=true:=by rw[e16];rfl
      have ne17:(!(word.toList==[116,100]))=false:=by rw[e17];rfl
      clear hb hcc hn1 hc'
      go_wp2_with fail
      go_quiet (fail)
      go_wp2_with fail
      go_ret2
      exact ⟨by rw[HF.out];rfl,yaq B0.out _,(yaq B0.out _).size⟩
     ·cases e19:word.toList==[120]
      ·cases e20:word.toList==[122]
       ·have hb:badI word nh=true:=by simp [badI,ycy,e16,e17,e19,e20,hn2]
        have hcc:ctlS (yao word) nh=false:=by have:=HCT.out;rw[hb] at this;simpa using this.symm
        have HF:=hD (ydf hc'.out (by rw[HNH.out];exact hcc))
        have d1:((nh:Int)==1)=false:=by rw[beq_eq_false_iff_ne];omega
        have d2:((nh:Int)==2)=true:=by simp;omega
        have d3:decide (2<(nh:Int))=false:=by simp;omega
        have d4:decide (2<nh)=false:=by simp;omega
        have ne16:(!(word.toList==[116]))=true:=by rw[e16];rfl
        have ne17:(!(word.toList==[116,100]))=false:=by rw[e17];rfl
        have ne19:(!(word.toList==[120]))=true:=by rw[e19];rfl
        have ne20:(!(word.toList==[122]))=true:=by rw[e20];rfl
        clear hb hcc hn2 hc'
        go_wp2_with fail
        go_quiet (fail)
        go_wp2_with fail
        go_ret2
        exact ⟨by rw[HF.out];rfl,yaq B0.out _,(yaq B0.out _).size⟩
       ·have hb:badI word nh=false:=by simp [badI,ycy,e16,e17,e19,e20,hn2]
        have hcc:ctlS (yao word) nh=true:=by have:=HCT.out;rw[hb] at this;simpa using this.symm
        have HF:=hD (ycz hc'.out (by rw[HNH.out];exact hcc))
        have d1:((nh:Int)==1)=false:=by rw[beq_eq_false_iff_ne];omega
        have d2:((nh:Int)==2)=true:=by simp;omega
        have d3:decide (2<(nh:Int))=false:=by simp;omega
        have d4:decide (2<nh)=false:=by simp;omega
        have ne16:(!(word.toList==[116]))=true:=by rw[e16];rfl
        have ne17:(!(word.toList==[116,100]))=false:=by rw[e17];rfl
        have ne19:(!(word.toList==[120]))=true:=by rw[e19];rfl
        have ne20:(!(word.toList==[122]))=false:=by rw[e20];rfl
        clear hb hcc hn2 hc'
        go_wp2_with fail
        go_ret2
        exact ⟨by rw[HF.out];rfl,B0.out,B0.out.size⟩
      ·have hb:badI word nh=false:=by simp [badI,ycy,e16,e17,e19,hn2]
       have hcc:ctlS (yao word) nh=true:=by have:=HCT.out;rw[hb] at this;simpa using this.symm
       have HF:=hD (ycz hc'.out (by rw[HNH.out];exact hcc))
       have d1:((nh:Int)==1)=false:=by rw[beq_eq_false_iff_ne];omega
       have d2:((nh:Int)==2)=true:=by simp;omega
       have d3:decide (2<(nh:Int))=false:=by simp;omega
       have d4:decide (2<nh)=false:=by simp;omega
       have ne16:(!(word.toList==[116]))=true:=by rw[e16];rfl
       have ne17:(!(word.toList==[116,100]))=false:=by rw[e17];rfl
       have ne19:(!(word.toList==[120]))=false:=by rw[e19];rfl
       clear hb hcc hn2 hc'
       go_wp2_with fail
       go_ret2
       exact ⟨by rw[HF.out];rfl,B0.out,B0.out.size⟩
     ·have hx:nh≠1∧nh≠2:=by omega
      have hb:badI word nh=true:=by simp [badI,ycy,e16,e17,hn3,hx.1,hx.2]
      have hcc:ctlS (yao word) nh=false:=by have:=HCT.out;rw[hb] at this;simpa using this.symm
      have HF:=hD (ydf hc'.out (by rw[HNH.out];exact hcc))
      have d1:((nh:Int)==1)=false:=by rw[beq_eq_false_iff_ne];omega
      have d2:((nh:Int)==2)=false:=by rw[beq_eq_false_iff_ne];omega
      have d3:decide (2<(nh:Int))=true:=by simp;omega
      have d4:decide (2<nh)=true:=by simp;omega
      have ne16:(!(word.toList==[116]))=true:=by rw[e16];rfl
      have ne17:(!(word.toList==[116,100]))=false:=by rw[e17];rfl
      clear hb hcc hn3 hc'
      go_wp2_with fail
      go_quiet (fail)
      go_wp2_with fail
      go_ret2
      exact ⟨by rw[HF.out];rfl,yaq B0.out _,(yaq B0.out _).size⟩
   ·have hnn4:nh=0∨nh=1∨nh=2∨2<nh:=by omega
    rcases hnn4 with hn0|hn1|hn2|hn3
    ·have hb:badI word nh=false:=by simp [badI,ycy,e16,hn0]
     have hcc:ctlS (yao word) nh=true:=by have:=HCT.out;rw[hb] at this;simpa using this.symm
     have HF:=hD (ycz hc'.out (by rw[HNH.out];exact hcc))
     have d1:((nh:Int)==1)=false:=by rw[beq_eq_false_iff_ne];omega
     have d2:((nh:Int)==2)=false:=by rw[beq_eq_false_iff_ne];omega
     have d3:decide (2<(nh:Int))=false:=by simp;omega
     have d4:decide (2<nh)=false:=by simp;omega
     have ne16:(!(word.toList==[116]))=false:=by rw[e16];rfl
     clear hb hcc hn0 hc'
     go_wp2_with fail
     go_ret2
     exact ⟨by rw[HF.out];rfl,B0.out,B0.out.size⟩
    ·have hb:badI word nh=true:=by simp [badI,ycy,e16,hn1]
     have hcc:ctlS (yao word) nh=false:=by have:=HCT.out;rw[hb] at this;simpa using this.symm
     have HF:=hD (ydf hc'.out (by rw[HNH.out];exact hcc))
     have d1:((nh:Int)==1)=true:=by simp;omega
     have d2:((nh:Int)==2)=false:=by rw[beq_eq_false_iff_ne];omega
     have d3:decide (2<(nh:Int))=false:=by simp;omega
     have d4:decide (2<nh)=false:=by simp;omega
     have ne16:(!(word.toList==[116]))=false:=by rw[e16];rfl
     clear hb hcc hn1 hc'
     go_wp2_with fail
     go_quiet (fail)
     go_wp2_with fail
     go_ret2
     exact ⟨by rw[HF.out];rfl,yaq B0.out _,(yaq B0.out _).size⟩
    ·cases e19:word.toList==[120]
     ·cases e20:word.toList==[122]
      ·have hb:badI word nh=true:=by simp [badI,ycy,e16,e19,e20,hn2]
       have hcc:ctlS (yao word) nh=false:=by have:=HCT.out;rw[hb] at this;simpa using this.symm
       have HF:=hD (ydf hc'.out (by rw[HNH.out];exact hcc))
       have d1:((nh:Int)==1)=false:=by rw[beq_eq_false_iff_ne];omega
       have d2:((nh:Int)==2)=true:=by simp;omega
       have d3:decide (2<(nh:Int))=false:=by simp;omega
       have d4:decide (2<nh)=false:=by simp;omega
       have ne16:(!(word.toList==[116]))=false:=by rw[e16];rfl
       have ne19:(!(word.toList==[120]))=true:=by rw[e19];rfl
       have ne20:(!(word.toList==[122]))=true:=by rw[e20];rfl
       clear hb hcc hn2 hc'
       go_wp2_with fail
       go_quiet (fail)
       go_wp2_with fail
       go_ret2
       exact ⟨by rw[HF.out];rfl,yaq B0.out _,(yaq B0.out _).size⟩
      ·have hb:badI word nh=false:=by simp [badI,ycy,e16,e19,e20,hn2]
       have hcc:ctlS (yao word) nh=true:=by have:=HCT.out;rw[hb] at this;simpa using this.symm
       have HF:=hD (ycz hc'.out (by rw[HNH.out];exact hcc))
       have d1:((nh:Int)==1)=false:=by rw[beq_eq_false_iff_ne];omega
       have d2:((nh:Int)==2)=true:=by simp;omega
       have d3:decide (2<(nh:Int))=false:=by simp;omega
       have d4:decide (2<nh)=false:=by simp;omega
       have ne16:(!(word.toList==[116]))=false:=by rw[e16];rfl
       have ne19:(!(word.toList==[120]))=true:=by rw[e19];rfl
       have ne20:(!(word.toList==[122]))=false:=by rw[e20];rfl
       clear hb hcc hn2 hc'
       go_wp2_with fail
       go_ret2
       exact ⟨by rw[HF.out];rfl,B0.out,B0.out.size⟩
     ·have hb:badI word nh=false:=by simp [badI,ycy,e16,e19,hn2]
      have hcc:ctlS (yao word) nh=true:=by have:=HCT.out;rw[hb] at this;simpa using this.symm
      have HF:=hD (ycz hc'.out (by rw[HNH.out];exact hcc))
      have d1:((nh:Int)==1)=false:=by rw[beq_eq_false_iff_ne];omega
      have d2:((nh:Int)==2)=true:=by simp;omega
      have d3:decide (2<(nh:Int))=false:=by simp;omega
      have d4:decide (2<nh)=false:=by simp;omega
      have ne16:(!(word.toList==[116]))=false:=by rw[e16];rfl
      have ne19:(!(word.toList==[120]))=false:=by rw[e19];rfl
      clear hb hcc hn2 hc'
      go_wp2_with fail
      go_ret2
      exact ⟨by rw[HF.out];rfl,B0.out,B0.out.size⟩
    ·have hx:nh≠1∧nh≠2:=by omega
     have hb:badI word nh=true:=by simp [badI,ycy,e16,hn3,hx.1,hx.2]
     have hcc:ctlS (yao word) nh=false:=by have:=HCT.out;rw[hb] at this;simpa using this.symm
     have HF:=hD (ydf hc'.out (by rw[HNH.out];exact hcc))
     have d1:((nh:Int)==1)=false:=by rw[beq_eq_false_iff_ne];omega
     have d2:((nh:Int)==2)=false:=by rw[beq_eq_false_iff_ne];omega
     have d3:decide (2<(nh:Int))=true:=by simp;omega
     have d4:decide (2<nh)=true:=by simp;omega
     have ne16:(!(word.toList==[116]))=false:=by rw[e16];rfl
     clear hb hcc hn3 hc'
     go_wp2_with fail
     go_quiet (fail)
     go_wp2_with fail
     go_ret2
     exact ⟨by rw[HF.out];rfl,yaq B0.out _,(yaq B0.out _).size⟩
def ydi (c:Bad) (w:World) (e:Ending) (w':World):Prop:=e=.returned (.agg #[.int .i64 c.1,.string c.2])∧Below w.heap.size w w'∧w.heap.size≤w'.heap.size
theorem yr9 {names held:List ByteArray} {a:ByteArray} (h:hasS names a=false):ycn names held a=(2,a):=if_pos h
theorem ysa {names held:List ByteArray} {a:ByteArray} (h:hasS names a=true) (h2:hasS held a=true):ycn names held a=(4,a):=by rw[ycn,if_neg (by simp [h]),if_pos h2]
theorem ysb {names held:List ByteArray} {a:ByteArray} (h:hasS names a=true) (h2:hasS held a=false):ycn names held a=bad0:=by rw[ycn,if_neg (by simp [h]),if_neg (by simp [h2])]
theorem yhh (a:ByteArray) (names held:List ByteArray) (An Ah Ab:Option Addr) (nn cn nh ch nb cb:Nat) (inside:Bool) (w:World)
  (hnn:names.length=nn) (hrn:Rd w 1 An nn (strs names)) (hnh:held.length=nh) (hrh:Rd w 1 Ah nh (strs held)) (h2:nn≤1048576) (h3:nh≤1048576) :
  Calls Tryz.prog 156 #[.agg #[.slice An nn cn,.slice Ah nh ch,.bool inside,.slice Ab nb cb],.string a] w (ydi (ycn names held a) w):=by
 have b0:Below w.heap.size w ((w.alloc (.cells #[.slice An nn cn,.slice Ah nh ch,.bool inside,.slice Ab nb cb] 100)).alloc (.cells #[.int .i64 0,.string ⟨#[]⟩] 96)):=Zq0
 have HN:=hD (hrn.below b0)
 have HH:=hD (hrh.below b0)
 have HNN:=hD hnn
 have HNH:=hD hnh
 clear b0 hrn hrh hnn hnh
 cases e1:hasS names a
 ·have HF:=hD (yr9 (held:=held) e1)
  go_enter Tryz.func156,Tryz.ntmps156
  go_wp2_with (go_at_call 77;(with_reducible refine(ybx An nn cn names a _ HN.out HNN.out Zq6).mono ?_);rintro e w' ⟨rfl,rfl⟩)
  exact bodyPost_ret (v:=.agg #[.int .i64 2,.string a]) (by simp [results,Tryz.results156,go_sem]) rfl ⟨by rw[HF.out],Zq0,Zq5⟩
 ·cases e2:hasS held a
  ·have HF:=hD (ysb e1 e2)
   go_enter Tryz.func156,Tryz.ntmps156
   go_wp2_with (first|(go_at_call 77;(with_reducible refine(ybx An nn cn names a _ HN.out HNN.out Zq6).mono ?_);rintro e w' ⟨rfl,rfl⟩)|(go_at_call 77;(with_reducible refine(ybx Ah nh ch held a _ HH.out HNH.out Zq6).mono ?_);rintro e w' ⟨rfl,rfl⟩))
   exact bodyPost_ret (v:=.agg #[.int .i64 0,.string ⟨#[]⟩]) (by simp [results,Tryz.results156,go_sem]) rfl ⟨by rw[HF.out];rfl,Zq0,Zq5⟩
  ·have HF:=hD (ysa e1 e2)
   go_enter Tryz.func156,Tryz.ntmps156
   go_wp2_with (first|(go_at_call 77;(with_reducible refine(ybx An nn cn names a _ HN.out HNN.out Zq6).mono ?_);rintro e w' ⟨rfl,rfl⟩)|(go_at_call 77;(with_reducible refine(ybx Ah nh ch held a _ HH.out HNH.out Zq6).mono ?_);rintro e w' ⟨rfl,rfl⟩))
   exact bodyPost_ret (v:=.agg #[.int .i64 4,.string a]) (by simp [results,Tryz.results156,go_sem]) rfl ⟨by rw[HF.out],Zq0,Zq5⟩
theorem ykz (k n:Nat) (w:World) (hk:k≤12) (hn:n≤1048576):Calls Tryz.prog 177 #[.int .i64 k,.int .i64 n] w fun e w'=>e=.returned (.bool (ctlS k n))∧w=w':=by
 obtain ⟨v,hv⟩:∃ v,v=ctlS k n:=⟨_,rfl⟩
 have HV:=hD hv
 rw[←hv]
 clear hv
 by_cases n0:n=0
 ·subst n0
  have HF:Hid (v=true):=HV.out.trans rfl
  go_enter Tryz.func177,Tryz.ntmps177
  go_wp2
  go_ret
  exact ⟨by rw[HF.out];rfl,rfl⟩
 ·by_cases n1:n=1
  ·subst n1
   have hk':k=0∨k=1∨k=2∨k=3∨k=4∨k=5∨k=6∨k=7∨k=8∨k=9∨k=10∨k=11∨k=12:=by omega
   rcases hk' with rfl|rfl|rfl|rfl|rfl|rfl|rfl|rfl|rfl|rfl|rfl|rfl|rfl
   all_goals
    have HF:=hD (HV.out.trans (show ctlS _ _=_ from rfl))
    clear HV hk n0 hn
    go_enter Tryz.func177,Tryz.ntmps177
    go_wp2
    go_ret
    exact ⟨by rw[HF.out];rfl,rfl⟩
  ·by_cases n2:n=2
   ·subst n2
    have hk':k=0∨k=1∨k=2∨k=3∨k=4∨k=5∨k=6∨k=7∨k=8∨k=9∨k=10∨k=11∨k=12:=by omega
    rcases hk' with rfl|rfl|rfl|rfl|rfl|rfl|rfl|rfl|rfl|rfl|rfl|rfl|rfl
    all_goals
     have HF:=hD (HV.out.trans (show ctlS _ _=_ from rfl))
     clear HV hk n0 n1 hn
     go_enter Tryz.func177,Tryz.ntmps177
     go_wp2
     go_ret
     exact ⟨by rw[HF.out];rfl,rfl⟩
   ·have HF:Hid (v=false):=HV.out.trans (by simp [ctlS,n0,n1,n2])
    have d0:((n:Int)==0)=false:=by rw[beq_eq_false_iff_ne];omega
    have d1:((n:Int)==1)=false:=by rw[beq_eq_false_iff_ne];omega
    have d2:((n:Int)==2)=false:=by rw[beq_eq_false_iff_ne];omega
    have c0:(n==0)=false:=by rw[beq_eq_false_iff_ne];omega
    have c1:(n==1)=false:=by rw[beq_eq_false_iff_ne];omega
    have c2:(n==2)=false:=by rw[beq_eq_false_iff_ne];omega
    clear n0 n1 n2
    go_enter Tryz.func177,Tryz.ntmps177
    go_wp2
    go_ret
    exact ⟨by rw[HF.out];rfl,rfl⟩
theorem yfr (l:List ByteArray):∀ u∈strs l,u.oneCell'=true:=by
 intro u hu
 obtain ⟨s,_,rfl⟩:=List.mem_map.1 hu
 rfl
theorem yg1 {w:World} {cs:Array Value} {e n size b:Nat} (h0:b=w.heap.size) (hs:cs.size=n*size):Rd (w.alloc (.cells cs e)) size (some ⟨b,0,none⟩) n cs.toList:=by
 subst h0
 refine ⟨by simpa using hs,fun _=>⟨_,0,rfl,by simp,fun j u hu=>?_⟩⟩
 have h:=heap_alloc_new w (.cells cs e)
 have hc:cs[j]?=some u:=by rw[←Array.getElem?_toList];exact hu
 rw[Nat.zero_add]
 exact yaj h hc
theorem ye5 (l:List ByteArray) (a:ByteArray):strs (l++[a])=strs l++[.string a]:=by simp [strs]
theorem yf0 (A:Option Addr) (n c:Nat) (l:List ByteArray) (s:ByteArray) (w:World) (h:Rd w 1 A n (strs l)) (hl:l.length=n) (hn:n≤1048576) :
  Calls Tryz.prog 145 #[.slice A n c,.string s] w (ye2 9 1 w (n+1) (strs (l++[s]))):=by
 obtain ⟨i0,hi,hz0,hz1,hz2⟩:=info_parts ydh
 have H:=hD (h.below (show Below w.heap.size w (w.alloc (.cells #[] 9)) from Zq0))
 have HE:=hD (yb2 w 9 1)
 clear h
 go_enter Tryz.func145,Tryz.ntmps145
 go_wp2_with (at_builtin;refine yae _ rfl _ _ 24 rfl w.heap.size 9 i0 _ 1 16 Tryz.underlying24 hi hz0 hz1 hz2 rfl Zq9 _ _ _ rfl HE.out _ _ _ _ rfl H.out (yfr l) ?c3 ?c4 ?c5 ?_)
 case c3=>simp only[maxLen];omega
 case c4=>omega
 case c5=>simp
 intro v1 w1 own1 gr1 _
 have b1:Below w.heap.size w w1:=((Below.refl _ _).alloc (Nat.le_refl _) _).grown gr1 Zq5 (ybe HE.out)
 have hs1:=b1.size
 clear gr1
 go_wp2_with (at_builtin;refine yae _ rfl _ _ 24 rfl w.heap.size 9 i0 _ 1 16 Tryz.underlying24 hi hz0 hz1 hz2 rfl Zq9 _ _ _ rfl (own1.alloc _) _ 1 1 _ rfl (yg1 ?c0 rfl) ?c2 ?c3 ?c4 ?c5 ?_)
 case c0=>first|omega|rfl|(simp;done)
 case c2=>repeat' (first|rfl|apply And.intro)
 case c3=>simp only[maxLen];omega
 case c4=>omega
 case c5=>simp;omega
 intro v2 w2 own2 gr2 _
 have b2:=(b1.alloc hs1 _).grown gr2 Zq10 (ybe own1)
 have hs2:=b2.size
 clear own1 gr2
 go_wp2_with fail
 go_ret
 exact ⟨_,rfl,by rw[ye5];exact own2,b2,hs2⟩
theorem ydz {w w':World} (h:Below w.drew.heap.size w.drew w'):Below w.heap.size w w':=⟨h.os,h.tape,h.output,h.size,h.block⟩
theorem yb1 {w w':World} {b:Nat} {x0 x1 x2 x3:Value} {t:TypeId} (lay:Below w'.heap.size w' w) (h:w'.heap[b]?=some (.cells #[x0,x1,x2,x3] t (0,0))) :
  w.cell? ⟨b,0,none⟩=some x0∧w.cell? ⟨b,1,none⟩=some x1∧w.cell? ⟨b,2,none⟩=some x2∧w.cell? ⟨b,3,none⟩=some x3:=yai lay h
theorem ycd {w w':World} {b:Nat} {x0 x1:Value} {t:TypeId} (lay:Below w'.heap.size w' w) (h:w'.heap[b]?=some (.cells #[x0,x1] t (0,0))) :
  w.cell? ⟨b,0,none⟩=some x0∧w.cell? ⟨b,1,none⟩=some x1:=by
 have h':w.heap[b]?=some (.cells #[x0,x1] t (0,0)):=(lay.block b (lt_of_block h)).trans h
 exact ⟨by simp [World.cell?,h'],by simp [World.cell?,h']⟩
theorem ynp {names held args:List ByteArray} {t:Nat} {a:ByteArray} (h:args[t]?=some a) (hb:(ycn names held a).1≠0):chkA names held args t (args.drop t)=ycn names held a:=by
 rw[yg0 h,chkA]
 unfold ycn at hb ⊢
 split
 ·rfl
 ·split
  ·rfl
  ·rename_i h1 h2
   rw[if_neg h1,if_neg h2] at hb
   exact absurd rfl hb
theorem yi7 {names held:List ByteArray} {a:ByteArray} (hb:(ycn names held a).1=0):ycn names held a=bad0∧hasS names a=true∧hasS held a=false:=by
 unfold ycn at hb ⊢
 split at hb
 ·simp at hb
 ·split at hb
  ·simp at hb
  ·rename_i h1 h2
   rw[if_neg h1,if_neg h2]
   exact ⟨rfl,by simpa using h1,by simpa using h2⟩
theorem ynq (word:ByteArray) (args names held:List ByteArray) (count:Int) (Aa:Option Addr) (m ca:Nat) (Ac:Option Addr) (nc cc:Nat) (An Ah Ab:Option Addr) (nn cn nh ch nb cb:Nat) (inside:Bool) (w:World)
    (hm:args.length=m) (hra:Rd w 1 Aa m (strs args)) (hca:m≤ca) (hnn:names.length=nn) (hrn:Rd w 1 An nn (strs names)) (hnh:held.length=nh) (hrh:Rd w 1 Ah nh (strs held)) (h1:m≤1048576) (h2:nn≤1048576) (h3:nh≤1048576) :
    Calls Tryz.prog 155 #[.agg #[.int .i64 1,.string word,.slice Aa m ca,.int .i64 count,.slice Ac nc cc],.agg #[.slice An nn cn,.slice Ah nh ch,.bool inside,.slice Ab nb cb]] w (ydi (yc0 names held args word) w):=by
  obtain ⟨w0,hw0⟩:∃ w0,w0=((w.alloc (.cells #[.int .i64 1,.string word,.slice Aa m ca,.int .i64 count,.slice Ac nc cc] 66)).alloc (.cells #[.slice An nn cn,.slice Ah nh ch,.bool inside,.slice Ab nb cb] 100)).alloc (.cells #[.int .i64 0,.string ⟨#[]⟩] 96):=⟨_,rfl⟩
  have X0:=hD (show w0.heap[w.heap.size]?=some (.cells #[.int .i64 1,.string word,.slice Aa m ca,.int .i64 count,.slice Ac nc cc] 66 (0,0)) by rw[hw0];exact ydp _ _ _ _)
  have X1:=hD (show w0.heap[w.heap.size+1]?=some (.cells #[.slice An nn cn,.slice Ah nh ch,.bool inside,.slice Ab nb cb] 100 (0,0)) by rw[hw0];exact ycw _ _ _ _)
  have X2:=hD (show w0.heap[w.heap.size+1+1]?=some (.cells #[.int .i64 0,.string ⟨#[]⟩] 96 (0,0)) by rw[hw0];exact ycx _ _ _ _)
  have b0:Below w.heap.size w w0:=by rw[hw0];exact Zq0
  have hz:w.heap.size+2<w0.heap.size:=by rw[hw0];simp
  have HW:=hD hw0
  have HA:=hD (hra.below b0)
  have HN:=hD (hrn.below b0)
  have HH:=hD (hrh.below b0)
  have HM:=hD hm
  have HNN:=hD hnn
  have HNH:=hD hnh
  have B0:=hD b0
  have al:∀ (W:World) (ob:Obj),Below W.heap.size W (W.alloc ob):=fun W ob=>(Below.refl _ _).alloc (Nat.le_refl _) _
  have AL:=hD al
  clear hw0 b0 hra hrn hrh hm hnn hnh al
  go_enter Tryz.func155,Tryz.ntmps155
  go_wp2_with fail
  rw[←HW.out]
  go_loopw [5] (fun i wr=>∃ t:Nat,t≤m∧i=.int .i64 t∧Hid (chkA names held args 0 args=chkA names held args t (args.drop t))∧Below w0.heap.size w0 wr) (fun i _=>m - (intOf i).toNat)
  case atStart=>exact ⟨0,Nat.zero_le _,rfl,rfl,Below.refl _ _⟩
  case round =>
    obtain ⟨t,ht,rfl,hc,hb⟩:=hrel
    have hbs:=hb.size
    obtain ⟨p0,p1,p2,p3,p4⟩:=yas (lay:=hb) X0.out
    have hlz:w.heap.size<wr.heap.size:=by omega
    have hlz1:w.heap.size+1<wr.heap.size:=by omega
    obtain ⟨q0,q1,q2,q3⟩:=yb1 (lay:=hb) X1.out
    by_cases hlt:t<m
    · obtain ⟨a,ha⟩:∃ a,args[t]?=some a:=⟨_,List.getElem?_eq_getElem (by rw[HM.out];exact hlt)⟩
      obtain ⟨b,off,rfl,hbl,hcl⟩:=(HA.out.below hb).2 Zq6
      have r0:=hcl t _ (ybr ha)
      have HAT:=hD ha
      have RT:Hid (Rd wr 1 (some ⟨b,off,none⟩) t (strs (args.take t))):=by
        have:=(HA.out.below hb).take (t:=t) Zq6
        rw[show(strs args).take t=strs (args.take t) by simp [strs]] at this
        exact this
      have RN:=hD (HN.out.below hb)
      have RH:=hD (HH.out.below hb)
      have KS:Hid (∀ W:World,Below wr.heap.size wr W→(W.cell? ⟨w.heap.size+1,0,none⟩=some (.slice An nn cn)∧W.cell? ⟨w.heap.size+1,1,none⟩=some (.slice Ah nh ch)∧W.cell? ⟨w.heap.size+1,2,none⟩=some (.bool inside)∧W.cell? ⟨w.heap.size+1,3,none⟩=some (.slice Ab nb cb)∧W.cell? ⟨w.heap.size,2,none⟩=some (.slice (some ⟨b,off,none⟩) m ca)∧W.cell? ⟨b,off+t,none⟩=some (.string a))):=fun W hW =>
        ⟨(hW.cell (p:=⟨w.heap.size+1,0,none⟩) hlz1).trans q0,(hW.cell (p:=⟨w.heap.size+1,1,none⟩) hlz1).trans q1,(hW.cell (p:=⟨w.heap.size+1,2,none⟩) hlz1).trans q2,(hW.cell (p:=⟨w.heap.size+1,3,none⟩) hlz1).trans q3,(hW.cell (p:=⟨w.heap.size,2,none⟩) hlz).trans p2,(hW.cell (p:=⟨b,off+t,none⟩) hbl).trans r0⟩
      obtain ⟨c,hcd⟩:∃ c,c=ycn names held a:=⟨_,rfl⟩
      have HC:=hD hcd
      clear hcl ha hcd
      go_wp2_with fail
      go_region_held3 (fun W=>W.cell? ⟨w.heap.size+1,0,none⟩=some (.slice An nn cn)∧W.cell? ⟨w.heap.size+1,1,none⟩=some (.slice Ah nh ch)∧W.cell? ⟨w.heap.size+1,2,none⟩=some (.bool inside)∧W.cell? ⟨w.heap.size+1,3,none⟩=some (.slice Ab nb cb)∧W.cell? ⟨w.heap.size,2,none⟩=some (.slice (some ⟨b,off,none⟩) m ca)∧W.cell? ⟨b,off+t,none⟩=some (.string a)) ((refine KS.out _ ?_;first|exact Below.refl _ _|exact(Below.refl _ _).drew|exact b1|exact(Below.refl _ _).drew.alloc (Nat.le_refl _) _|exact b1.alloc b1.size _|exact(b1.alloc b1.size _).setCell Zq10 _|exact((b1.alloc b1.size _).setCell Zq10 _).setCell Zq10 _|exact(b1.setCell Zq11 _).setCell Zq11 _)) (first|(go_at_call 156;(with_reducible refine(yhh a names held An Ah Ab nn cn nh ch nb cb inside _ HNN.out (by first|exact RN.out.drew|exact RN.out.drew.below (AL.out _ _)) HNH.out (by first|exact RH.out.drew|exact RH.out.drew.below (AL.out _ _)) Zq6 Zq6).mono ?_);rintro e w1 ⟨rfl,b1d,s1d⟩;rw[←HC.out];first|(have b1:Below wr.heap.size wr w1:=ydz b1d)|(have b1:Below wr.heap.size wr w1:=((Below.refl _ _).drew.alloc (Nat.le_refl _) _).trans (b1d.mono Zq11);obtain ⟨y0,y1⟩:w1.cell? ⟨wr.heap.size,0,none⟩=some (.int .i64 0)∧w1.cell? ⟨wr.heap.size,1,none⟩=some (.string ⟨#[]⟩):=ycd (lay:=b1d) (heap_alloc_new wr.drew (.cells #[.int .i64 0,.string ⟨#[]⟩] 96));have y2:w1.frozen? ⟨wr.heap.size,0,none⟩=false:=ya6 b1d (heap_alloc_new wr.drew (.cells #[.int .i64 0,.string ⟨#[]⟩] 96)) 0;have y3:w1.frozen? ⟨wr.heap.size,1,none⟩=false:=ya6 b1d (heap_alloc_new wr.drew (.cells #[.int .i64 0,.string ⟨#[]⟩] 96)) 1;have y6:w1.heap[wr.heap.size]?=some (.cells #[.int .i64 0,.string ⟨#[]⟩] 96 (0,0)):=(b1d.block _ Zq11).trans (heap_alloc_new wr.drew _);have y4:wr.heap.size<w1.heap.size:=Nat.lt_of_lt_of_le (Nat.lt_succ_self _) (Nat.le_trans Zq11 b1d.size))))
      all_goals
        have hs1:=b1.size
        first
        | (have y5:=y4
           obtain ⟨G,hGe⟩:∃ G,G=wr.heap.size:=⟨_,rfl⟩
           have hg0:wr.heap.size≤G:=by omega
           obtain ⟨w2,hw2⟩:∃ w2,w2=(w1.setCell ⟨wr.heap.size,0,none⟩ (.int .i64 c.1)).setCell ⟨wr.heap.size,1,none⟩ (.string c.2):=⟨_,rfl⟩
           have hx2:w2.heap[G]?=some (.cells #[.int .i64 c.1,.string c.2] 96 (0,0)):=by rw[hw2,hGe];exact yb6 (yb6 y6 _) _
           have b2:Below wr.heap.size wr w2:=by rw[hw2];exact(b1.setCell (Nat.le_refl _) _).setCell (Nat.le_refl _) _
           rw[←hw2,←hGe]
           clear hw2 hGe y0 y1 y2 y3 y4 y5 y6)
        | (obtain ⟨G,hGe⟩:∃ G,G=w1.heap.size:=⟨_,rfl⟩
           have hg0:wr.heap.size≤G:=by omega
           obtain ⟨w2,hw2⟩:∃ w2,w2=w1.alloc (.cells #[.int .i64 c.1,.string c.2] 96):=⟨_,rfl⟩
           have hx2:w2.heap[G]?=some (.cells #[.int .i64 c.1,.string c.2] 96 (0,0)):=by rw[hw2,hGe];exact heap_alloc_new _ _
           have b2:Below wr.heap.size wr w2:=by rw[hw2];exact b1.alloc hs1 _
           rw[←hw2,←hGe]
           clear hw2 hGe)
        clear b1 hs1 p0 p1 p2 p3 p4 q0 q1 q2 q3 r0
        have hs2:=b2.size
        have bb:=hb.trans (b2.mono hbs)
        have hgl:=lt_of_block hx2
        obtain ⟨z0,z1⟩:=ycd (lay:=Below.refl _ _) hx2
        obtain ⟨k0,k1⟩:=ycd (lay:=bb) X2.out
        have f0:=ya6 bb X2.out 0
        have f1:=ya6 bb X2.out 1
        have hl2:w.heap.size+1+1<w2.heap.size:=by omega
        have hl0:w.heap.size<w2.heap.size:=by omega
        by_cases hc0:c.1=0
        · obtain ⟨ec,e1,e2⟩:=yi7 (HC.out▸hc0)
          have hcz:c=bad0:=by rw[HC.out];exact ec
          subst hcz
          have z0':w2.cell? ⟨G,0,none⟩=some (.int .i64 0):=z0
          have z1':w2.cell? ⟨G,1,none⟩=some (.string ⟨#[]⟩):=z1
          clear z0 z1 hx2
          have RT2:=hD (RT.out.below b2)
          obtain ⟨p0,p1,p2,p3,p4⟩:=yas (lay:=bb) X0.out
          have r0:=(KS.out _ b2).2.2.2.2.2
          have hbl2:b<w2.heap.size:=by omega
          clear ec hc0
          go_wp2_with fail
          cases e3:hasS (args.take t) a
          · have HN1:=hD (hc.out.trans (yqh HAT.out e1 e2 e3))
            go_quiet ((go_at_call 77;exact Calls.quiet_of_same ((ybx _ _ _ (args.take t) a _ (RT2.out.drewN _) (by rw[List.length_take,HM.out];omega) Zq6).mono fun e W h=>(⟨h.1.trans (by rw[e3]),h.2.symm⟩:e=.returned (.bool false)∧W=_))))
            go_wp2_with fail
            go_roundw
            case rel=>exact ⟨t+1,by omega,by go_num,HN1,yaq bb _⟩
            case measure=>simp [intOf];omega
          · have HF:=hD (yfq (word:=word) (hc.out.trans (yqg HAT.out e1 e2 e3)) (show(3:Int)≠0 by decide))
            go_quiet ((go_at_call 77;exact Calls.quiet_of_same ((ybx _ _ _ (args.take t) a _ (RT2.out.drewN _) (by rw[List.length_take,HM.out];omega) Zq6).mono fun e W h=>(⟨h.1.trans (by rw[e3]),h.2.symm⟩:e=.returned (.bool true)∧W=_))))
            go_wp2_with fail
            exact bodyPost_ret (v:=.agg #[.int .i64 3,.string a]) (by simp [results,Tryz.results155,go_sem,k0,k1]) rfl ⟨by rw[HF.out],((B0.out.trans ((yaq bb _).mono Zq6)).setCell Zq10 _).setCell Zq10 _,by simp [World.setCell];omega⟩
        · have HF:=hD (yfq (word:=word) (hc.out.trans (ynp HAT.out (HC.out▸hc0))) (HC.out▸hc0))
          have hne:(c.1 != 0)=true:=by rw[bne_iff_ne];exact hc0
          go_wp2_with fail
          exact bodyPost_ret (v:=.agg #[.int .i64 c.1,.string c.2]) (by simp [results,Tryz.results155,go_sem,k0,k1]) rfl ⟨by rw[HF.out,←HC.out],((B0.out.trans (bb.mono Zq6)).setCell Zq10 _).setCell Zq10 _,by simp [World.setCell];omega⟩
    · obtain rfl:t=m:=by omega
      have hc':Hid (chkA names held args 0 args=bad0):=by
        have:=hc.out
        rw[List.drop_of_length_le (by rw[HM.out];exact Nat.le_refl _)] at this
        exact this.trans rfl
      have hkk:yao word≤12:=ymg _ 12 1 Zq6
      have HCT:=hD (fun W=>ykz (yao word) nh W hkk h3)
      obtain ⟨v,hv⟩:∃ v,v=ctlS (yao word) nh:=⟨_,rfl⟩
      rw[←hv] at HCT
      have HV:=hD hv
      clear hv
      have KS:Hid (∀ W:World,Below wr.heap.size wr W→(W.cell? ⟨w.heap.size,1,none⟩=some (.string word)∧W.cell? ⟨w.heap.size+1,1,none⟩=some (.slice Ah nh ch))):=fun W hW=>⟨(hW.cell (p:=⟨w.heap.size,1,none⟩) hlz).trans p1,(hW.cell (p:=⟨w.heap.size+1,1,none⟩) hlz1).trans q1⟩
      cases v
      all_goals
        go_wp2_with fail
        go_region_held3 (fun W=>W.cell? ⟨w.heap.size,1,none⟩=some (.string word)∧W.cell? ⟨w.heap.size+1,1,none⟩=some (.slice Ah nh ch)) ((refine KS.out _ ?_;first|exact Below.refl _ _|exact(Below.refl _ _).drew|exact b1)) (first|(go_at_call 136;(with_reducible refine(yfw word _).mono ?_);rintro e w1 ⟨rfl,b1d,s1d⟩;have b1:=ydz b1d)|(go_at_call 177;(with_reducible refine(HCT.out _).mono ?_);rintro e w' ⟨rfl,rfl⟩))
        have hs1:=b1.size
        have bb:=hb.trans (b1.mono hbs)
        have r1:=(KS.out _ b1).1
        clear p0 p1 p2 p3 p4 q0 q1 q2 q3
        obtain ⟨k0,k1⟩:=ycd (lay:=bb) X2.out
        have f0:=ya6 bb X2.out 0
        have f1:=ya6 bb X2.out 1
        have hl2:w.heap.size+1+1<w1.heap.size:=by omega
        have hl0:w.heap.size<w1.heap.size:=by omega
        go_wp2_with fail
      · have HF:=hD (ydf (word:=word) hc'.out (by rw[HNH.out];exact HV.out.symm))
        exact bodyPost_ret (v:=.agg #[.int .i64 9,.string word]) (by simp [results,Tryz.results155,go_sem,k0,k1]) rfl ⟨by rw[HF.out],((B0.out.trans (bb.mono Zq6)).setCell Zq10 _).setCell Zq10 _,by simp [World.setCell];omega⟩
      · have HF:=hD (ycz (word:=word) hc'.out (by rw[HNH.out];exact HV.out.symm))
        exact bodyPost_ret (v:=.agg #[.int .i64 0,.string ⟨#[]⟩]) (by simp [results,Tryz.results155,go_sem,k0,k1]) rfl ⟨by rw[HF.out];rfl,((B0.out.trans (bb.mono Zq6)).setCell Zq10 _).setCell Zq10 _,by simp [World.setCell];omega⟩
theorem yf1 {d:Nat} {l:List (Tr (d+1))} {t:Nat} {s:Tr (d+1)} (h:ya7 (d+1) l=true) (hs:l[t]?=some s):vOne d (ya7 d) (hdT s) (bdT s)=true:=List.all_eq_true.1 h s (List.mem_of_getElem? hs)
theorem yet {d:Nat} {k:Int} {word:ByteArray} {args:List ByteArray} {count:Int} {bd:List (Tr d)} (h:vOne d (ya7 d) ⟨k,word,args,count⟩ bd=true):(1≤k∧k≤7)∧(k=2→1≤count∧count≤9)∧ya7 d bd=true:=by
 unfold vOne ya4 at h
 simp only[Bool.and_eq_true] at h
 obtain ⟨⟨h1,_,_,_,_,h2⟩,_,h3⟩:=h
 refine ⟨ycf.1 h1,fun hk=>?_,h3⟩
 unfold ya2 at h2
 rw[if_pos hk] at h2
 exact ycf.1 h2
theorem yod {w:World} {B B' e size n:Nat} {v:Value} {xs:List Value} (h:w.ownsRow B e size v n xs) (hB:B'≤B):w.ownsRow B' e size v n xs:=by
 refine ⟨h.1,?_⟩
 rcases h.2 with h2|⟨g,cap,cur,h1,h2,h3⟩
 ·exact .inl h2
 ·exact .inr ⟨g,cap,cur,h1,Nat.le_trans hB h2,h3⟩
def arg0 (h:SH):ByteArray:=h.args.getD 0 ⟨#[]⟩
theorem yc3 {h:SH} (hl:0<h.args.length):h.args[0]?=some (arg0 h):=by
 unfold arg0
 rw[List.getD_eq_getElem?_getD,List.getElem?_eq_getElem hl]
 rfl
def yb8 (h:SH) (names held:List ByteArray):Bad × (List ByteArray × List ByteArray) :=
 if h.k=1 then (yc0 names held h.args h.word,(names,held))
 else if h.k=6 then ((6,arg0 h),(names,held))
 else if h.k=7 then ((6,arg0 h),(names,held))
 else if h.k=4 then (ycn names held (arg0 h),(names,held++[arg0 h]))
 else if h.k=5 then (if hasS names (arg0 h)=true then ((1,arg0 h),(names,held)) else if names.length=4 then ((5,arg0 h),(names,held)) else (bad0,(names++[arg0 h],held)))
 else (bad0,(names,held))
def oneN (h:SH) (body:List ByteArray→List ByteArray→Bad) (names held:List ByteArray):Bad :=
 if (yb8 h names held).1.1=0 then body (yb8 h names held).2.1 (yb8 h names held).2.2 else (yb8 h names held).1
def ydq:List Bad→Bad
 | []=>bad0
 | c :: r=>if c.1=0 then ydq r else c
def chkN:(d:Nat)→List (Tr d)→List ByteArray→List ByteArray→Bad
 | 0,_,_,_=>bad0
 | d+1,l,names,held=>ydq (l.map fun s=>oneN (hdT s) (chkN d (bdT s)) names held)
theorem ymq (d:Nat) (names held:List ByteArray):chkN d [] names held=bad0:=by cases d <;> rfl
theorem ynr {L:List Bad} {t:Nat} {c:Bad} (h:L[t]?=some c) (h0:ydq (L.take t)=bad0) (hz:∀ x∈L.take t,x.1=0) (hc:c.1≠0):ydq L=c:=by
 induction L generalizing t with
 | nil=>simp at h
 | cons x L ih =>
  cases t with
  | zero =>
   simp at h
   subst h
   rw[ydq,if_neg hc]
  | succ t =>
   have hx:=hz x Zq11
   rw[ydq,if_pos hx]
   rw[List.take_succ_cons,ydq,if_pos hx] at h0
   exact ih (by simpa using h) h0 (fun y hy=>hz y (by simp [hy]))
theorem ygv {L:List Bad} (hz:∀ x∈L,x.1=0):ydq L=bad0:=by
 induction L with
 | nil=>rfl
 | cons x L ih=>rw[ydq,if_pos (hz x Zq11),ih (fun y hy=>hz y (by simp [hy]))]
theorem yj9 {h:SH} {body:List ByteArray→List ByteArray→Bad} {names held:List ByteArray} {p:List ByteArray × List ByteArray} (hs:yb8 h names held=(bad0,p)):oneN h body names held=body p.1 p.2:=by rw[oneN,hs,if_pos (show(bad0,p).1.1=0 from rfl)]
theorem yib {h:SH} {body:List ByteArray→List ByteArray→Bad} {names held:List ByteArray} {c:Bad} {p:List ByteArray × List ByteArray} (hs:yb8 h names held=(c,p)) (hc:c.1≠0):oneN h body names held=c:=by rw[oneN,hs,if_neg hc]
theorem yqj {d:Nat} {h:SH} {bd:List (Tr d)} {names held:List ByteArray} (hk:h.k=1) (hb:bd=[]):oneN h (chkN d bd) names held=yc0 names held h.args h.word:=by
 subst hb
 have hs:yb8 h names held=(yc0 names held h.args h.word,(names,held)):=by rw[yb8,if_pos hk]
 rw[oneN,hs,ymq]
 split
 ·rename_i e
  unfold yc0 at e ⊢
  split at e
  ·rename_i h1
   rw[if_pos h1]
   split at e
   ·rename_i h2;rw[if_pos h2]
   ·exact absurd e Zq11
  ·rename_i h1
   exact absurd e h1
 ·rfl
theorem yka {d:Nat} {h:SH} {bd:List (Tr d)} (hv:vOne d (ya7 d) h bd=true) (hk:hasB h.k=false):bd=[]:=by
 unfold vOne ya4 at hv
 simp only[Bool.and_eq_true] at hv
 obtain ⟨⟨_,_,_,_,h5,_⟩,_⟩:=hv
 have:=of_decide_eq_true h5
 rcases this with h|h
 ·rw[hk] at h;cases h
 ·exact List.eq_nil_of_length_eq_zero h
theorem ye6 {d:Nat} {h:SH} {bd:List (Tr d)} (hv:vOne d (ya7 d) h bd=true):h.args.length=yar h.k h.word:=by
 unfold vOne ya4 at hv
 simp only[Bool.and_eq_true] at hv
 exact of_decide_eq_true hv.1.2.1
theorem yl3 (word:ByteArray) (args:List ByteArray) (a:ByteArray) (count:Int) (Aa:Option Addr) (m ca:Nat) (Ac:Option Addr) (nc cc E:Nat) (An Ah Ab:Option Addr) (nn cn nh ch nb cb:Nat) (w:World)
  (hx:w.heap[E]?=some (.cells #[.slice An nn cn,.slice Ah nh ch,.bool true,.slice Ab nb cb] 100 (0,0))) (hra:Rd w 1 Aa m (strs args)) (ha:args[0]?=some a) (hm:0<m) (hm2:m≤1048576) :
  Calls Tryz.prog 157 #[.agg #[.int .i64 6,.string word,.slice Aa m ca,.int .i64 count,.slice Ac nc cc],.pointer (some ⟨E,0,none⟩)] w (ydi (6,a) w):=by
 obtain ⟨b,off,rfl,hbl,hc⟩:=hra.2 hm
 have r0:=hc 0 _ (ybr ha)
 rw[Nat.add_zero] at r0
 obtain ⟨q0,q1,q2,q3⟩:=yb1 (lay:=Below.refl _ _) hx
 have hEl:=lt_of_block hx
 have hm3:(0:Int)<(m:Int):=by omega
 clear hc hra hx ha
 go_enter Tryz.func157,Tryz.ntmps157
 go_wp2_with fail
 exact bodyPost_ret (v:=.agg #[.int .i64 6,.string a]) (by simp [results,Tryz.results157,go_sem]) rfl ⟨rfl,Zq0,Zq5⟩
theorem ydl {P:Program} (w:World) {ops:Array Oper} {o:Oper} {a:Act} {K:Act→World→Prop} {Q:Exit→Act→World→Prop} {E:Prop} (hgd:o.guard=none) (s x:Operand) (t:TypeId)
  (ho:o.op=.call { callee:=.builtin .append,args:=#[s,x],argTypes:=#[t,t] })
  (base:Nat) (e:TypeId) (i:TypeInfo) (z:Value) (size bytes:Nat) (ht:P.underlying t=some (.slice e)) (hi:P.info? e=some i) (hz:i.zero=some z)
  (hsize:i.size=size) (hby:i.bytes=bytes) (hzs:z.cells.size=size) (hsz:0<size)
  (v:Value) (n:Nat) (xs:List Value) (hs:a.eval s=v) (hown:w.ownsRow base e size v n xs)
  (A:Option Addr) (m c:Nat) (news:List Value) (hx:a.eval x=.slice A m c) (hr:Rd w size A m news) (h1:∀ u∈news,u.oneCell'=true)
  (h63:n+m≤maxLen) (hbytes:(n+m)*bytes≤140737488355328) (hbase:base≤w.heap.size)
  (h:∀ v' w',w'.ownsRow base e size v' (n+m) (xs++news)→w.grownBy w' v.ownBlock→(v'.ownBlock=v.ownBlock∨v'.ownBlock=some w.heap.size)→K (a.put o.dst v') w') :
  if Region.wanted o (yielded ops a.tmps)=true then Oper.wp P o a w K Q else E:=by
 have hw:Region.wanted o (yielded ops a.tmps)=true:=by simp [Region.wanted,hgd]
 rw[if_pos hw]
 obtain ⟨v',w',hrun,h2,h3,h4⟩:=yht (P:=P) w base t o.type e i z size bytes ht hi hz hsize hby hzs hsz v n xs hown A m c news hr h1 h63 hbytes hbase
 unfold Oper.wp execOp
 simp only[ho,resolve,invoke,builtin,Sem.run_bind,Sem.run_pure,Result.andThen_ok,List.map_toArray,List.map_cons,List.map_nil,hs,hx,hrun]
 exact h v' w' h2 h3 h4
end Go.Proofs.YthkbckkghnbonaaGreatDoor
