/- What the calls that this law reaches answer, part 12 of 20. -/
import Derived.Test.YthkbckkghnbonaaGreatDoorJFElaborate11
import Derived.Test.YthkbckkghnbonaaGreatDoorJFElaborate6
import Derived.Test.YthkbckkghnbonaaGreatDoorJFElaborate1
set_option maxRecDepth 100000
set_option maxHeartbeats 16000000
set_option linter.unusedVariables false
namespace Go.Proofs.YthkbckkghnbonaaGreatDoor
open Go.RowKit
set_option linter.unusedVariables false
def allW (l:List ByteArray):Bool:=l.all ya9
def vR3 (k:Int) (word:ByteArray) (args:List ByteArray) (count:Int) (nb:Nat) (V:Bool):Bool:=ya4 k word args.length count nb&&(args.all ya9&&V)
section
variable {k:Int} {word:ByteArray} {args:List ByteArray} {count:Int} {nb:Nat} {V:Bool}
theorem yc2 (h:ya4 k word args.length count nb=false):vR3 k word args count nb V=false:=by simp [vR3,h]
theorem yhp (h:args.all ya9=false):vR3 k word args count nb V=false:=by simp [vR3,h]
theorem yhq (h1:ya4 k word args.length count nb=true) (h2:args.all ya9=true):vR3 k word args count nb V=V:=by rw[vR3,h1,h2];simp
end
theorem yaz (A:Option Addr) (n c:Nat) (l:List ByteArray) (w:World) (h:Rd w 1 A n (strs l)) (hl:l.length=n) (hn:n≤1099511627776) (hz:szS l≤1048576) :
  Calls Tryz.prog 48 #[.slice A n c] w fun e w'=>e=.returned (.bool (allW l))∧w=w':=by
 have H:=hD h
 have HL:=hD hl
 clear h hl
 go_enter Tryz.func48,Tryz.ntmps48
 go_wp2
 go_loop [3] (fun i=>∃ t:Nat,t≤n∧i=.int .i64 t∧allW (l.take t)=true) (fun i=>n - (intOf i).toNat)
 case atStart=>exact ⟨0,Nat.zero_le _,rfl,rfl⟩
 case round =>
  obtain ⟨t,ht,rfl,hok⟩:=hrel
  have HOK:=hD hok
  clear hok
  by_cases hlt:t<n
  ·have htl:t<l.length:=by rw[HL.out];exact hlt
   obtain ⟨s,hs⟩:∃ s,l[t]?=some s:=⟨_,List.getElem?_eq_getElem htl⟩
   obtain ⟨b,off,rfl,_,hc⟩:=H.out.2 Zq6
   have q0:=hc t _ (ybr hs)
   have hsz:=yei hs
   have HS:=hD hs
   have hs63:s.size≤9223372036854775807:=by omega
   clear hc hs htl hsz
   cases hw:ya9 s
   ·have HF:=hD (show allW l=false by rw[allW,List.all_eq_false];exact ⟨s,List.mem_of_getElem? HS.out,by simp [hw]⟩)
    go_wp2_with (go_at_call 104;refine(ygi _ _ hs63).mono ?_;rintro e w' ⟨rfl,rfl⟩)
    go_ret
    exact ⟨by rw[HF.out];rfl,rfl⟩
   ·have HN:=hD (show allW (l.take (t+1))=true by
     have h:=HOK.out
     rw[allW] at h ⊢
     rw[ycg _ HS.out,h,hw]
     rfl)
    go_wp2_with (go_at_call 104;refine(ygi _ _ hs63).mono ?_;rintro e w' ⟨rfl,rfl⟩)
    go_round
    case rel=>exact ⟨t+1,by omega,by go_num,HN.out⟩
    case measure=>simp [intOf];omega
  ·obtain rfl:t=n:=by omega
   have HF:Hid (allW l=true):=by
    have h:=HOK.out
    rw[List.take_of_length_le (by rw[HL.out];exact Nat.le_refl _)] at h
    exact h
   go_wp2_with fail
   go_ret
   exact ⟨by rw[HF.out];rfl,rfl⟩
theorem ypk (word:ByteArray) (args:List ByteArray) (count:Int) (Aa:Option Addr) (ca:Nat) (Ab:Option Addr) (nb cb:Nat) (w:World) (V:Bool) (hra:Rd w 1 Aa args.length (strs args)) (hz:szS args≤1048576) (hl:args.length≤1048576) (hn:nb≤1048576)
  (hall:∀ w',Below w.heap.size w w'→Calls Tryz.prog 49 #[.slice Ab nb cb] w' fun e w''=>e=.returned (.bool V)∧Below w'.heap.size w' w''∧w'.heap.size≤w''.heap.size) :
  Calls Tryz.prog 105 #[.agg #[.int .i64 1,.string word,.slice Aa args.length ca,.int .i64 count,.slice Ab nb cb]] w fun e w'=>e=.returned (.bool (vR3 1 word args count nb V))∧Below w.heap.size w w'∧w.heap.size≤w'.heap.size:=by
 obtain ⟨m,hm0⟩:∃ m,m=args.length:=⟨_,rfl⟩
 rw[←hm0] at hl hra ⊢
 have HM:=hD hm0
 have HRA:=hD hra
 have HALL:=hD hall
 clear hra hall hm0
 have hB:hasB 1=false:=rfl
 have hIN:inB 1 1 7=true:=rfl
 have HAW:Hid (allW args=args.all ya9):=hD rfl
 obtain ⟨w0,hw0⟩:∃ w0,w0=w.alloc (.cells #[.int .i64 1,.string word,.slice Aa m ca,.int .i64 count,.slice Ab nb cb] 66):=⟨_,rfl⟩
 have X0:=hD (show w0.heap[w.heap.size]?=some (.cells #[.int .i64 1,.string word,.slice Aa m ca,.int .i64 count,.slice Ab nb cb] 66 (0,0)) by rw[hw0];exact yac _ _)
 have b0:Below w.heap.size w w0:=by rw[hw0];exact Zq0
 have hs0:w.heap.size≤w0.heap.size:=b0.size
 have B0:=hD b0
 have HW:=hD hw0
 clear b0 hw0
 by_cases hm:(m:Int)=(yar 1 word:Int)
 ·have e1:((m:Int) != (yar 1 word:Int))=false:=by simpa using hm
  have hmn:m=ar (yao word):=by have:yar 1 word=ar (yao word):=rfl;omega
  have HMN:=hD hmn
  clear hm hmn
  cases hwo:args.all ya9
  ·have HWO:=hD hwo
   have hAW:=HAW.out.trans hwo
   clear hwo
   have HF:=hD (yhp (k:=1) (word:=word) (args:=args) (count:=count) (nb:=nb) (V:=V) HWO.out)
   go_enter Tryz.func105,Tryz.ntmps105
   go_wp2_with fail
   rw[←HW.out]
   refine(yax _ _ _ _ _ _ ⟨_,_,_,rfl⟩ ⟨_,_,_,rfl⟩).mono ?_
   rintro e w1 ⟨rfl,b1,s1⟩
   obtain ⟨p0,p1,p2,p3,p4⟩:=yas (lay:=b1) X0.out
   have hB1:Below w.heap.size w w1:=B0.out.trans (b1.mono hs0)
   have hS1:w.heap.size≤w1.heap.size:=hB1.size
   have HR1:=hD (HRA.out.below hB1)
   have HBB:=hD hB1
   clear hB1
   go_wp2_with (first|(go_at_call 47;refine(yag _ _ _ _).mono ?_;rintro e w' ⟨rfl,rfl⟩)|(go_at_call 48;refine(yaz _ _ _ args _ (by exact HR1.out) HM.out.symm Zq6 hz).mono ?_;rintro e w' ⟨rfl,rfl⟩))
   go_ret
   exact ⟨by rw[HF.out];rfl,HBB.out,hS1⟩
  ·have HWO:=hD hwo
   have hAW:=HAW.out.trans hwo
   clear hwo
   by_cases hb:nb=0
   ·have e3:decide (0<(nb:Int))=false:=by simp;omega
    have e3n:decide (0<nb)=false:=by simp;omega
    have HNB:=hD hb
    clear hb
    by_cases hw:word.toList=[]
    ·have e2:word.toList.isEmpty=true:=by simp [hw]
     have HWE:=hD hw
     have HGE:=hD (show ar (yao word)=0 by rw[yno hw];rfl)
     clear hw
     have HF:=hD (yc2 (k:=1) (word:=word) (args:=args) (count:=count) (nb:=nb) (V:=V) (by rw[←HM.out];simp [ya4,yar,ya2,hasB,inB,HMN.out,HNB.out,HWE.out,HGE.out]))
     go_enter Tryz.func105,Tryz.ntmps105
     go_wp2_with fail
     rw[←HW.out]
     refine(yax _ _ _ _ _ _ ⟨_,_,_,rfl⟩ ⟨_,_,_,rfl⟩).mono ?_
     rintro e w1 ⟨rfl,b1,s1⟩
     obtain ⟨p0,p1,p2,p3,p4⟩:=yas (lay:=b1) X0.out
     have hB1:Below w.heap.size w w1:=B0.out.trans (b1.mono hs0)
     have hS1:w.heap.size≤w1.heap.size:=hB1.size
     have HR1:=hD (HRA.out.below hB1)
     have HBB:=hD hB1
     clear hB1
     go_wp2_with (first|(go_at_call 47;refine(yag _ _ _ _).mono ?_;rintro e w' ⟨rfl,rfl⟩)|(go_at_call 48;refine(yaz _ _ _ args _ (by exact HR1.out) HM.out.symm Zq6 hz).mono ?_;rintro e w' ⟨rfl,rfl⟩))
     go_ret
     exact ⟨by rw[HF.out];rfl,HBB.out,hS1⟩
    ·have e2:word.toList.isEmpty=false:=by rw[List.isEmpty_eq_false_iff];exact hw
     have HWE:=hD hw
     clear hw
     by_cases g0:yar 1 word=0
     ·have e0:((yar 1 word:Int)==0)=true:=by rw[g0];rfl
      have HG0:=hD (show ar (yao word)=0 from g0)
      clear g0
      have HF:=hD (yc2 (k:=1) (word:=word) (args:=args) (count:=count) (nb:=nb) (V:=V) (by rw[←HM.out];simp [ya4,yar,ya2,hasB,inB,HG0.out]))
      go_enter Tryz.func105,Tryz.ntmps105
      go_wp2_with fail
      rw[←HW.out]
      refine(yax _ _ _ _ _ _ ⟨_,_,_,rfl⟩ ⟨_,_,_,rfl⟩).mono ?_
      rintro e w1 ⟨rfl,b1,s1⟩
      obtain ⟨p0,p1,p2,p3,p4⟩:=yas (lay:=b1) X0.out
      have hB1:Below w.heap.size w w1:=B0.out.trans (b1.mono hs0)
      have hS1:w.heap.size≤w1.heap.size:=hB1.size
      have HR1:=hD (HRA.out.below hB1)
      have HBB:=hD hB1
      clear hB1
      go_wp2_with (first|(go_at_call 47;refine(yag _ _ _ _).mono ?_;rintro e w' ⟨rfl,rfl⟩)|(go_at_call 48;refine(yaz _ _ _ args _ (by exact HR1.out) HM.out.symm Zq6 hz).mono ?_;rintro e w' ⟨rfl,rfl⟩))
      go_ret
      exact ⟨by rw[HF.out];rfl,HBB.out,hS1⟩
     ·have e0:((yar 1 word:Int)==0)=false:=by rw[beq_eq_false_iff_ne];omega
      have HGW:=hD (show ar (yao word)≠0 from g0)
      clear g0
      by_cases hc:count=0
      ·subst hc
       have HH:=hD (show ya4 1 word args.length 0 nb=true by rw[←HM.out];simp [ya4,yar,ya2,hasB,inB,HMN.out,HNB.out,HWE.out,HGW.out])
       have HF:=hD (yhq (V:=V) HH.out HWO.out)
       go_enter Tryz.func105,Tryz.ntmps105
       go_wp2_with fail
       rw[←HW.out]
       refine(yax _ _ _ _ _ _ ⟨_,_,_,rfl⟩ ⟨_,_,_,rfl⟩).mono ?_
       rintro e w1 ⟨rfl,b1,s1⟩
       obtain ⟨p0,p1,p2,p3,p4⟩:=yas (lay:=b1) X0.out
       have hB1:Below w.heap.size w w1:=B0.out.trans (b1.mono hs0)
       have hS1:w.heap.size≤w1.heap.size:=hB1.size
       have HR1:=hD (HRA.out.below hB1)
       have HBB:=hD hB1
       clear hB1
       go_wp2_with (first|(go_at_call 47;refine(yag _ _ _ _).mono ?_;rintro e w' ⟨rfl,rfl⟩)|(go_at_call 48;refine(yaz _ _ _ args _ (by exact HR1.out) HM.out.symm Zq6 hz).mono ?_;rintro e w' ⟨rfl,rfl⟩))
       refine(HALL.out _ HBB.out).mono ?_
       rintro e w2 ⟨rfl,b2,s2⟩
       go_wp2_with fail
       go_ret
       exact ⟨by rw[HF.out];rfl,HBB.out.trans (b2.mono hS1),by omega⟩
      ·have e4:(count != 0)=true:=by rw[bne_iff_ne];exact hc
       have HF:=hD (yc2 (k:=1) (word:=word) (args:=args) (count:=count) (nb:=nb) (V:=V) (by rw[←HM.out];simp [ya4,yar,ya2,hasB,inB,HMN.out,HNB.out,HWE.out,HGW.out,hc]))
       go_enter Tryz.func105,Tryz.ntmps105
       go_wp2_with fail
       rw[←HW.out]
       refine(yax _ _ _ _ _ _ ⟨_,_,_,rfl⟩ ⟨_,_,_,rfl⟩).mono ?_
       rintro e w1 ⟨rfl,b1,s1⟩
       obtain ⟨p0,p1,p2,p3,p4⟩:=yas (lay:=b1) X0.out
       have hB1:Below w.heap.size w w1:=B0.out.trans (b1.mono hs0)
       have hS1:w.heap.size≤w1.heap.size:=hB1.size
       have HR1:=hD (HRA.out.below hB1)
       have HBB:=hD hB1
       clear hB1
       go_wp2_with (first|(go_at_call 47;refine(yag _ _ _ _).mono ?_;rintro e w' ⟨rfl,rfl⟩)|(go_at_call 48;refine(yaz _ _ _ args _ (by exact HR1.out) HM.out.symm Zq6 hz).mono ?_;rintro e w' ⟨rfl,rfl⟩))
       go_ret
       exact ⟨by rw[HF.out];rfl,HBB.out,hS1⟩
   ·have e3:decide (0<(nb:Int))=true:=by simp;omega
    have e3n:decide (0<nb)=true:=by simp;omega
    have HNB:=hD hb
    clear hb
    have HF:=hD (yc2 (k:=1) (word:=word) (args:=args) (count:=count) (nb:=nb) (V:=V) (by rw[←HM.out];simp [ya4,yar,ya2,hasB,inB,HNB.out]))
    go_enter Tryz.func105,Tryz.ntmps105
    go_wp2_with fail
    rw[←HW.out]
    refine(yax _ _ _ _ _ _ ⟨_,_,_,rfl⟩ ⟨_,_,_,rfl⟩).mono ?_
    rintro e w1 ⟨rfl,b1,s1⟩
    obtain ⟨p0,p1,p2,p3,p4⟩:=yas (lay:=b1) X0.out
    have hB1:Below w.heap.size w w1:=B0.out.trans (b1.mono hs0)
    have hS1:w.heap.size≤w1.heap.size:=hB1.size
    have HR1:=hD (HRA.out.below hB1)
    have HBB:=hD hB1
    clear hB1
    go_wp2_with (first|(go_at_call 47;refine(yag _ _ _ _).mono ?_;rintro e w' ⟨rfl,rfl⟩)|(go_at_call 48;refine(yaz _ _ _ args _ (by exact HR1.out) HM.out.symm Zq6 hz).mono ?_;rintro e w' ⟨rfl,rfl⟩))
    go_ret
    exact ⟨by rw[HF.out];rfl,HBB.out,hS1⟩
 ·have e1:((m:Int) != (yar 1 word:Int))=true:=by rw[bne_iff_ne];exact hm
  have hmn:m≠ar (yao word):=by have:yar 1 word=ar (yao word):=rfl;omega
  have HMN:=hD hmn
  clear hm hmn
  have HF:=hD (yc2 (k:=1) (word:=word) (args:=args) (count:=count) (nb:=nb) (V:=V) (by rw[←HM.out];simp [ya4,yar,ya2,hasB,inB,HMN.out]))
  go_enter Tryz.func105,Tryz.ntmps105
  go_wp2_with fail
  rw[←HW.out]
  refine(yax _ _ _ _ _ _ ⟨_,_,_,rfl⟩ ⟨_,_,_,rfl⟩).mono ?_
  rintro e w1 ⟨rfl,b1,s1⟩
  obtain ⟨p0,p1,p2,p3,p4⟩:=yas (lay:=b1) X0.out
  have hB1:Below w.heap.size w w1:=B0.out.trans (b1.mono hs0)
  have hS1:w.heap.size≤w1.heap.size:=hB1.size
  have HR1:=hD (HRA.out.below hB1)
  have HBB:=hD hB1
  clear hB1
  go_wp2_with (first|(go_at_call 47;refine(yag _ _ _ _).mono ?_;rintro e w' ⟨rfl,rfl⟩)|(go_at_call 48;refine(yaz _ _ _ args _ (by exact HR1.out) HM.out.symm Zq6 hz).mono ?_;rintro e w' ⟨rfl,rfl⟩))
  go_ret
  exact ⟨by rw[HF.out];rfl,HBB.out,hS1⟩
theorem ypl (word:ByteArray) (args:List ByteArray) (count:Int) (Aa:Option Addr) (ca:Nat) (Ab:Option Addr) (nb cb:Nat) (w:World) (V:Bool) (hra:Rd w 1 Aa args.length (strs args)) (hz:szS args≤1048576) (hl:args.length≤1048576) (hn:nb≤1048576)
  (hall:∀ w',Below w.heap.size w w'→Calls Tryz.prog 49 #[.slice Ab nb cb] w' fun e w''=>e=.returned (.bool V)∧Below w'.heap.size w' w''∧w'.heap.size≤w''.heap.size) :
  Calls Tryz.prog 105 #[.agg #[.int .i64 2,.string word,.slice Aa args.length ca,.int .i64 count,.slice Ab nb cb]] w fun e w'=>e=.returned (.bool (vR3 2 word args count nb V))∧Below w.heap.size w w'∧w.heap.size≤w'.heap.size:=by
 obtain ⟨m,hm0⟩:∃ m,m=args.length:=⟨_,rfl⟩
 rw[←hm0] at hl hra ⊢
 have HM:=hD hm0
 have HRA:=hD hra
 have HALL:=hD hall
 clear hra hall hm0
 have hB:hasB 2=true:=rfl
 have hIN:inB 2 1 7=true:=rfl
 have HAW:Hid (allW args=args.all ya9):=hD rfl
 obtain ⟨w0,hw0⟩:∃ w0,w0=w.alloc (.cells #[.int .i64 2,.string word,.slice Aa m ca,.int .i64 count,.slice Ab nb cb] 66):=⟨_,rfl⟩
 have X0:=hD (show w0.heap[w.heap.size]?=some (.cells #[.int .i64 2,.string word,.slice Aa m ca,.int .i64 count,.slice Ab nb cb] 66 (0,0)) by rw[hw0];exact yac _ _)
 have b0:Below w.heap.size w w0:=by rw[hw0];exact Zq0
 have hs0:w.heap.size≤w0.heap.size:=b0.size
 have B0:=hD b0
 have HW:=hD hw0
 clear b0 hw0
 by_cases hm:m=0
 ·subst hm
  have e1:((0:Int) != (yar 2 word:Int))=false:=rfl
  cases hwo:args.all ya9
  ·have HWO:=hD hwo
   have hAW:=HAW.out.trans hwo
   clear hwo
   have HF:=hD (yhp (k:=2) (word:=word) (args:=args) (count:=count) (nb:=nb) (V:=V) HWO.out)
   go_enter Tryz.func105,Tryz.ntmps105
   go_wp2_with fail
   rw[←HW.out]
   refine(yax _ _ _ _ _ _ ⟨_,_,_,rfl⟩ ⟨_,_,_,rfl⟩).mono ?_
   rintro e w1 ⟨rfl,b1,s1⟩
   obtain ⟨p0,p1,p2,p3,p4⟩:=yas (lay:=b1) X0.out
   have hB1:Below w.heap.size w w1:=B0.out.trans (b1.mono hs0)
   have hS1:w.heap.size≤w1.heap.size:=hB1.size
   have HR1:=hD (HRA.out.below hB1)
   have HBB:=hD hB1
   clear hB1
   go_wp2_with (first|(go_at_call 47;refine(yag _ _ _ _).mono ?_;rintro e w' ⟨rfl,rfl⟩)|(go_at_call 48;refine(yaz _ _ _ args _ (by exact HR1.out) HM.out.symm Zq6 hz).mono ?_;rintro e w' ⟨rfl,rfl⟩))
   go_ret
   exact ⟨by rw[HF.out];rfl,HBB.out,hS1⟩
  ·have HWO:=hD hwo
   have hAW:=HAW.out.trans hwo
   clear hwo
   by_cases hw:word.toList=[]
   ·have e2:word.toList.isEmpty=true:=by simp [hw]
    have HWE:=hD hw
    clear hw
    cases hc:inB count 1 9
    ·have HC9:=hD (show ¬ (1≤count∧count≤9) from by simpa [inB] using hc)
     have HF:=hD (yc2 (k:=2) (word:=word) (args:=args) (count:=count) (nb:=nb) (V:=V) (by rw[←HM.out];simp [ya4,yar,ya2,hasB,inB,HWE.out,HC9.out]))
     go_enter Tryz.func105,Tryz.ntmps105
     go_wp2_with fail
     rw[←HW.out]
     refine(yax _ _ _ _ _ _ ⟨_,_,_,rfl⟩ ⟨_,_,_,rfl⟩).mono ?_
     rintro e w1 ⟨rfl,b1,s1⟩
     obtain ⟨p0,p1,p2,p3,p4⟩:=yas (lay:=b1) X0.out
     have hB1:Below w.heap.size w w1:=B0.out.trans (b1.mono hs0)
     have hS1:w.heap.size≤w1.heap.size:=hB1.size
     have HR1:=hD (HRA.out.below hB1)
     have HBB:=hD hB1
     clear hB1
     go_wp2_with (first|(go_at_call 47;refine(yag _ _ _ _).mono ?_;rintro e w' ⟨rfl,rfl⟩)|(go_at_call 48;refine(yaz _ _ _ args _ (by exact HR1.out) HM.out.symm Zq6 hz).mono ?_;rintro e w' ⟨rfl,rfl⟩))
     go_ret
     exact ⟨by rw[HF.out];rfl,HBB.out,hS1⟩
    ·have HC9:=hD (show 1≤count∧count≤9 from by simpa [inB] using hc)
     have HH:=hD (show ya4 2 word args.length count nb=true by rw[←HM.out];simp [ya4,yar,ya2,hasB,inB,HWE.out,HC9.out])
     have HF:=hD (yhq (V:=V) HH.out HWO.out)
     go_enter Tryz.func105,Tryz.ntmps105
     go_wp2_with fail
     rw[←HW.out]
     refine(yax _ _ _ _ _ _ ⟨_,_,_,rfl⟩ ⟨_,_,_,rfl⟩).mono ?_
     rintro e w1 ⟨rfl,b1,s1⟩
     obtain ⟨p0,p1,p2,p3,p4⟩:=yas (lay:=b1) X0.out
     have hB1:Below w.heap.size w w1:=B0.out.trans (b1.mono hs0)
     have hS1:w.heap.size≤w1.heap.size:=hB1.size
     have HR1:=hD (HRA.out.below hB1)
     have HBB:=hD hB1
     clear hB1
     go_wp2_with (first|(go_at_call 47;refine(yag _ _ _ _).mono ?_;rintro e w' ⟨rfl,rfl⟩)|(go_at_call 48;refine(yaz _ _ _ args _ (by exact HR1.out) HM.out.symm Zq6 hz).mono ?_;rintro e w' ⟨rfl,rfl⟩))
     refine(HALL.out _ HBB.out).mono ?_
     rintro e w2 ⟨rfl,b2,s2⟩
     go_wp2_with fail
     go_ret
     exact ⟨by rw[HF.out];rfl,HBB.out.trans (b2.mono hS1),by omega⟩
   ·have e2:word.toList.isEmpty=false:=by rw[List.isEmpty_eq_false_iff];exact hw
    have HWE:=hD hw
    clear hw
    have HF:=hD (yc2 (k:=2) (word:=word) (args:=args) (count:=count) (nb:=nb) (V:=V) (by rw[←HM.out];simp [ya4,yar,ya2,hasB,inB,HWE.out]))
    go_enter Tryz.func105,Tryz.ntmps105
    go_wp2_with fail
    rw[←HW.out]
    refine(yax _ _ _ _ _ _ ⟨_,_,_,rfl⟩ ⟨_,_,_,rfl⟩).mono ?_
    rintro e w1 ⟨rfl,b1,s1⟩
    obtain ⟨p0,p1,p2,p3,p4⟩:=yas (lay:=b1) X0.out
    have hB1:Below w.heap.size w w1:=B0.out.trans (b1.mono hs0)
    have hS1:w.heap.size≤w1.heap.size:=hB1.size
    have HR1:=hD (HRA.out.below hB1)
    have HBB:=hD hB1
    clear hB1
    go_wp2_with (first|(go_at_call 47;refine(yag _ _ _ _).mono ?_;rintro e w' ⟨rfl,rfl⟩)|(go_at_call 48;refine(yaz _ _ _ args _ (by exact HR1.out) HM.out.symm Zq6 hz).mono ?_;rintro e w' ⟨rfl,rfl⟩))
    go_ret
    exact ⟨by rw[HF.out];rfl,HBB.out,hS1⟩
 ·have e1:((m:Int) != (yar 2 word:Int))=true:=by rw[bne_iff_ne];have:yar 2 word=0:=rfl;omega
  have HF:=hD (yc2 (k:=2) (word:=word) (args:=args) (count:=count) (nb:=nb) (V:=V) (by rw[←HM.out];simp [ya4,yar,ya2,hasB,inB,hm]))
  go_enter Tryz.func105,Tryz.ntmps105
  go_wp2_with fail
  rw[←HW.out]
  refine(yax _ _ _ _ _ _ ⟨_,_,_,rfl⟩ ⟨_,_,_,rfl⟩).mono ?_
  rintro e w1 ⟨rfl,b1,s1⟩
  obtain ⟨p0,p1,p2,p3,p4⟩:=yas (lay:=b1) X0.out
  have hB1:Below w.heap.size w w1:=B0.out.trans (b1.mono hs0)
  have hS1:w.heap.size≤w1.heap.size:=hB1.size
  have HR1:=hD (HRA.out.below hB1)
  have HBB:=hD hB1
  clear hB1
  go_wp2_with (first|(go_at_call 47;refine(yag _ _ _ _).mono ?_;rintro e w' ⟨rfl,rfl⟩)|(go_at_call 48;refine(yaz _ _ _ args _ (by exact HR1.out) HM.out.symm Zq6 hz).mono ?_;rintro e w' ⟨rfl,rfl⟩))
  go_ret
  exact ⟨by rw[HF.out];rfl,HBB.out,hS1⟩
theorem ypm (word:ByteArray) (args:List ByteArray) (count:Int) (Aa:Option Addr) (ca:Nat) (Ab:Option Addr) (nb cb:Nat) (w:World) (V:Bool) (hra:Rd w 1 Aa args.length (strs args)) (hz:szS args≤1048576) (hl:args.length≤1048576) (hn:nb≤1048576)
  (hall:∀ w',Below w.heap.size w w'→Calls Tryz.prog 49 #[.slice Ab nb cb] w' fun e w''=>e=.returned (.bool V)∧Below w'.heap.size w' w''∧w'.heap.size≤w''.heap.size) :
  Calls Tryz.prog 105 #[.agg #[.int .i64 3,.string word,.slice Aa args.length ca,.int .i64 count,.slice Ab nb cb]] w fun e w'=>e=.returned (.bool (vR3 3 word args count nb V))∧Below w.heap.size w w'∧w.heap.size≤w'.heap.size:=by
 obtain ⟨m,hm0⟩:∃ m,m=args.length:=⟨_,rfl⟩
 rw[←hm0] at hl hra ⊢
 have HM:=hD hm0
 have HRA:=hD hra
 have HALL:=hD hall
 clear hra hall hm0
 have hB:hasB 3=true:=rfl
 have hIN:inB 3 1 7=true:=rfl
 have HAW:Hid (allW args=args.all ya9):=hD rfl
 obtain ⟨w0,hw0⟩:∃ w0,w0=w.alloc (.cells #[.int .i64 3,.string word,.slice Aa m ca,.int .i64 count,.slice Ab nb cb] 66):=⟨_,rfl⟩
 have X0:=hD (show w0.heap[w.heap.size]?=some (.cells #[.int .i64 3,.string word,.slice Aa m ca,.int .i64 count,.slice Ab nb cb] 66 (0,0)) by rw[hw0];exact yac _ _)
 have b0:Below w.heap.size w w0:=by rw[hw0];exact Zq0
 have hs0:w.heap.size≤w0.heap.size:=b0.size
 have B0:=hD b0
 have HW:=hD hw0
 clear b0 hw0
 by_cases hm:m=0
 ·subst hm
  have e1:((0:Int) != (yar 3 word:Int))=false:=rfl
  cases hwo:args.all ya9
  ·have HWO:=hD hwo
   have hAW:=HAW.out.trans hwo
   clear hwo
   have HF:=hD (yhp (k:=3) (word:=word) (args:=args) (count:=count) (nb:=nb) (V:=V) HWO.out)
   go_enter Tryz.func105,Tryz.ntmps105
   go_wp2_with fail
   rw[←HW.out]
   refine(yax _ _ _ _ _ _ ⟨_,_,_,rfl⟩ ⟨_,_,_,rfl⟩).mono ?_
   rintro e w1 ⟨rfl,b1,s1⟩
   obtain ⟨p0,p1,p2,p3,p4⟩:=yas (lay:=b1) X0.out
   have hB1:Below w.heap.size w w1:=B0.out.trans (b1.mono hs0)
   have hS1:w.heap.size≤w1.heap.size:=hB1.size
   have HR1:=hD (HRA.out.below hB1)
   have HBB:=hD hB1
   clear hB1
   go_wp2_with (first|(go_at_call 47;refine(yag _ _ _ _).mono ?_;rintro e w' ⟨rfl,rfl⟩)|(go_at_call 48;refine(yaz _ _ _ args _ (by exact HR1.out) HM.out.symm Zq6 hz).mono ?_;rintro e w' ⟨rfl,rfl⟩))
   go_ret
   exact ⟨by rw[HF.out];rfl,HBB.out,hS1⟩
  ·have HWO:=hD hwo
   have hAW:=HAW.out.trans hwo
   clear hwo
   by_cases hw:word.toList=[]
   ·have e2:word.toList.isEmpty=true:=by simp [hw]
    have HWE:=hD hw
    clear hw
    by_cases hc:count=0
    ·subst hc
     have HH:=hD (show ya4 3 word args.length 0 nb=true by rw[←HM.out];simp [ya4,yar,ya2,hasB,inB,HWE.out])
     have HF:=hD (yhq (V:=V) HH.out HWO.out)
     go_enter Tryz.func105,Tryz.ntmps105
     go_wp2_with fail
     rw[←HW.out]
     refine(yax _ _ _ _ _ _ ⟨_,_,_,rfl⟩ ⟨_,_,_,rfl⟩).mono ?_
     rintro e w1 ⟨rfl,b1,s1⟩
     obtain ⟨p0,p1,p2,p3,p4⟩:=yas (lay:=b1) X0.out
     have hB1:Below w.heap.size w w1:=B0.out.trans (b1.mono hs0)
     have hS1:w.heap.size≤w1.heap.size:=hB1.size
     have HR1:=hD (HRA.out.below hB1)
     have HBB:=hD hB1
     clear hB1
     go_wp2_with (first|(go_at_call 47;refine(yag _ _ _ _).mono ?_;rintro e w' ⟨rfl,rfl⟩)|(go_at_call 48;refine(yaz _ _ _ args _ (by exact HR1.out) HM.out.symm Zq6 hz).mono ?_;rintro e w' ⟨rfl,rfl⟩))
     refine(HALL.out _ HBB.out).mono ?_
     rintro e w2 ⟨rfl,b2,s2⟩
     go_wp2_with fail
     go_ret
     exact ⟨by rw[HF.out];rfl,HBB.out.trans (b2.mono hS1),by omega⟩
    ·have e4:(count != 0)=true:=by rw[bne_iff_ne];exact hc
     have HF:=hD (yc2 (k:=3) (word:=word) (args:=args) (count:=count) (nb:=nb) (V:=V) (by rw[←HM.out];simp [ya4,yar,ya2,hasB,inB,HWE.out,hc]))
     go_enter Tryz.func105,Tryz.ntmps105
     go_wp2_with fail
     rw[←HW.out]
     refine(yax _ _ _ _ _ _ ⟨_,_,_,rfl⟩ ⟨_,_,_,rfl⟩).mono ?_
     rintro e w1 ⟨rfl,b1,s1⟩
     obtain ⟨p0,p1,p2,p3,p4⟩:=yas (lay:=b1) X0.out
     have hB1:Below w.heap.size w w1:=B0.out.trans (b1.mono hs0)
     have hS1:w.heap.size≤w1.heap.size:=hB1.size
     have HR1:=hD (HRA.out.below hB1)
     have HBB:=hD hB1
     clear hB1
     go_wp2_with (first|(go_at_call 47;refine(yag _ _ _ _).mono ?_;rintro e w' ⟨rfl,rfl⟩)|(go_at_call 48;refine(yaz _ _ _ args _ (by exact HR1.out) HM.out.symm Zq6 hz).mono ?_;rintro e w' ⟨rfl,rfl⟩))
     go_ret
     exact ⟨by rw[HF.out];rfl,HBB.out,hS1⟩
   ·have e2:word.toList.isEmpty=false:=by rw[List.isEmpty_eq_false_iff];exact hw
    have HWE:=hD hw
    clear hw
    have HF:=hD (yc2 (k:=3) (word:=word) (args:=args) (count:=count) (nb:=nb) (V:=V) (by rw[←HM.out];simp [ya4,yar,ya2,hasB,inB,HWE.out]))
    go_enter Tryz.func105,Tryz.ntmps105
    go_wp2_with fail
    rw[←HW.out]
    refine(yax _ _ _ _ _ _ ⟨_,_,_,rfl⟩ ⟨_,_,_,rfl⟩).mono ?_
    rintro e w1 ⟨rfl,b1,s1⟩
    obtain ⟨p0,p1,p2,p3,p4⟩:=yas (lay:=b1) X0.out
    have hB1:Below w.heap.size w w1:=B0.out.trans (b1.mono hs0)
    have hS1:w.heap.size≤w1.heap.size:=hB1.size
    have HR1:=hD (HRA.out.below hB1)
    have HBB:=hD hB1
    clear hB1
    go_wp2_with (first|(go_at_call 47;refine(yag _ _ _ _).mono ?_;rintro e w' ⟨rfl,rfl⟩)|(go_at_call 48;refine(yaz _ _ _ args _ (by exact HR1.out) HM.out.symm Zq6 hz).mono ?_;rintro e w' ⟨rfl,rfl⟩))
    go_ret
    exact ⟨by rw[HF.out];rfl,HBB.out,hS1⟩
 ·have e1:((m:Int) != (yar 3 word:Int))=true:=by rw[bne_iff_ne];have:yar 3 word=0:=rfl;omega
  have HF:=hD (yc2 (k:=3) (word:=word) (args:=args) (count:=count) (nb:=nb) (V:=V) (by rw[←HM.out];simp [ya4,yar,ya2,hasB,inB,hm]))
  go_enter Tryz.func105,Tryz.ntmps105
  go_wp2_with fail
  rw[←HW.out]
  refine(yax _ _ _ _ _ _ ⟨_,_,_,rfl⟩ ⟨_,_,_,rfl⟩).mono ?_
  rintro e w1 ⟨rfl,b1,s1⟩
  obtain ⟨p0,p1,p2,p3,p4⟩:=yas (lay:=b1) X0.out
  have hB1:Below w.heap.size w w1:=B0.out.trans (b1.mono hs0)
  have hS1:w.heap.size≤w1.heap.size:=hB1.size
  have HR1:=hD (HRA.out.below hB1)
  have HBB:=hD hB1
  clear hB1
  go_wp2_with (first|(go_at_call 47;refine(yag _ _ _ _).mono ?_;rintro e w' ⟨rfl,rfl⟩)|(go_at_call 48;refine(yaz _ _ _ args _ (by exact HR1.out) HM.out.symm Zq6 hz).mono ?_;rintro e w' ⟨rfl,rfl⟩))
  go_ret
  exact ⟨by rw[HF.out];rfl,HBB.out,hS1⟩
theorem ypn (word:ByteArray) (args:List ByteArray) (count:Int) (Aa:Option Addr) (ca:Nat) (Ab:Option Addr) (nb cb:Nat) (w:World) (V:Bool) (hra:Rd w 1 Aa args.length (strs args)) (hz:szS args≤1048576) (hl:args.length≤1048576) (hn:nb≤1048576)
  (hall:∀ w',Below w.heap.size w w'→Calls Tryz.prog 49 #[.slice Ab nb cb] w' fun e w''=>e=.returned (.bool V)∧Below w'.heap.size w' w''∧w'.heap.size≤w''.heap.size) :
  Calls Tryz.prog 105 #[.agg #[.int .i64 4,.string word,.slice Aa args.length ca,.int .i64 count,.slice Ab nb cb]] w fun e w'=>e=.returned (.bool (vR3 4 word args count nb V))∧Below w.heap.size w w'∧w.heap.size≤w'.heap.size:=by
 obtain ⟨m,hm0⟩:∃ m,m=args.length:=⟨_,rfl⟩
 rw[←hm0] at hl hra ⊢
 have HM:=hD hm0
 have HRA:=hD hra
 have HALL:=hD hall
 clear hra hall hm0
 have hB:hasB 4=true:=rfl
 have hIN:inB 4 1 7=true:=rfl
 have HAW:Hid (allW args=args.all ya9):=hD rfl
 obtain ⟨w0,hw0⟩:∃ w0,w0=w.alloc (.cells #[.int .i64 4,.string word,.slice Aa m ca,.int .i64 count,.slice Ab nb cb] 66):=⟨_,rfl⟩
 have X0:=hD (show w0.heap[w.heap.size]?=some (.cells #[.int .i64 4,.string word,.slice Aa m ca,.int .i64 count,.slice Ab nb cb] 66 (0,0)) by rw[hw0];exact yac _ _)
 have b0:Below w.heap.size w w0:=by rw[hw0];exact Zq0
 have hs0:w.heap.size≤w0.heap.size:=b0.size
 have B0:=hD b0
 have HW:=hD hw0
 clear b0 hw0
 by_cases hm:m=1
 ·subst hm
  have e1:((1:Int) != (yar 4 word:Int))=false:=rfl
  cases hwo:args.all ya9
  ·have HWO:=hD hwo
   have hAW:=HAW.out.trans hwo
   clear hwo
   have HF:=hD (yhp (k:=4) (word:=word) (args:=args) (count:=count) (nb:=nb) (V:=V) HWO.out)
   go_enter Tryz.func105,Tryz.ntmps105
   go_wp2_with fail
   rw[←HW.out]
   refine(yax _ _ _ _ _ _ ⟨_,_,_,rfl⟩ ⟨_,_,_,rfl⟩).mono ?_
   rintro e w1 ⟨rfl,b1,s1⟩
   obtain ⟨p0,p1,p2,p3,p4⟩:=yas (lay:=b1) X0.out
   have hB1:Below w.heap.size w w1:=B0.out.trans (b1.mono hs0)
   have hS1:w.heap.size≤w1.heap.size:=hB1.size
   have HR1:=hD (HRA.out.below hB1)
   have HBB:=hD hB1
   clear hB1
   go_wp2_with (first|(go_at_call 47;refine(yag _ _ _ _).mono ?_;rintro e w' ⟨rfl,rfl⟩)|(go_at_call 48;refine(yaz _ _ _ args _ (by exact HR1.out) HM.out.symm Zq6 hz).mono ?_;rintro e w' ⟨rfl,rfl⟩))
   go_ret
   exact ⟨by rw[HF.out];rfl,HBB.out,hS1⟩
  ·have HWO:=hD hwo
   have hAW:=HAW.out.trans hwo
   clear hwo
   by_cases hw:word.toList=[]
   ·have e2:word.toList.isEmpty=true:=by simp [hw]
    have HWE:=hD hw
    clear hw
    by_cases hc:count=0
    ·subst hc
     have HH:=hD (show ya4 4 word args.length 0 nb=true by rw[←HM.out];simp [ya4,yar,ya2,hasB,inB,HWE.out])
     have HF:=hD (yhq (V:=V) HH.out HWO.out)
     go_enter Tryz.func105,Tryz.ntmps105
     go_wp2_with fail
     rw[←HW.out]
     refine(yax _ _ _ _ _ _ ⟨_,_,_,rfl⟩ ⟨_,_,_,rfl⟩).mono ?_
     rintro e w1 ⟨rfl,b1,s1⟩
     obtain ⟨p0,p1,p2,p3,p4⟩:=yas (lay:=b1) X0.out
     have hB1:Below w.heap.size w w1:=B0.out.trans (b1.mono hs0)
     have hS1:w.heap.size≤w1.heap.size:=hB1.size
     have HR1:=hD (HRA.out.below hB1)
     have HBB:=hD hB1
     clear hB1
     go_wp2_with (first|(go_at_call 47;refine(yag _ _ _ _).mono ?_;rintro e w' ⟨rfl,rfl⟩)|(go_at_call 48;refine(yaz _ _ _ args _ (by exact HR1.out) HM.out.symm Zq6 hz).mono ?_;rintro e w' ⟨rfl,rfl⟩))
     refine(HALL.out _ HBB.out).mono ?_
     rintro e w2 ⟨rfl,b2,s2⟩
     go_wp2_with fail
     go_ret
     exact ⟨by rw[HF.out];rfl,HBB.out.trans (b2.mono hS1),by omega⟩
    ·have e4:(count != 0)=true:=by rw[bne_iff_ne];exact hc
     have HF:=hD (yc2 (k:=4) (word:=word) (args:=args) (count:=count) (nb:=nb) (V:=V) (by rw[←HM.out];simp [ya4,yar,ya2,hasB,inB,HWE.out,hc]))
     go_enter Tryz.func105,Tryz.ntmps105
     go_wp2_with fail
     rw[←HW.out]
     refine(yax _ _ _ _ _ _ ⟨_,_,_,rfl⟩ ⟨_,_,_,rfl⟩).mono ?_
     rintro e w1 ⟨rfl,b1,s1⟩
     obtain ⟨p0,p1,p2,p3,p4⟩:=yas (lay:=b1) X0.out
     have hB1:Below w.heap.size w w1:=B0.out.trans (b1.mono hs0)
     have hS1:w.heap.size≤w1.heap.size:=hB1.size
     have HR1:=hD (HRA.out.below hB1)
     have HBB:=hD hB1
     clear hB1
     go_wp2_with (first|(go_at_call 47;refine(yag _ _ _ _).mono ?_;rintro e w' ⟨rfl,rfl⟩)|(go_at_call 48;refine(yaz _ _ _ args _ (by exact HR1.out) HM.out.symm Zq6 hz).mono ?_;rintro e w' ⟨rfl,rfl⟩))
     go_ret
     exact ⟨by rw[HF.out];rfl,HBB.out,hS1⟩
   ·have e2:word.toList.isEmpty=false:=by rw[List.isEmpty_eq_false_iff];exact hw
    have HWE:=hD hw
    clear hw
    have HF:=hD (yc2 (k:=4) (word:=word) (args:=args) (count:=count) (nb:=nb) (V:=V) (by rw[←HM.out];simp [ya4,yar,ya2,hasB,inB,HWE.out]))
    go_enter Tryz.func105,Tryz.ntmps105
    go_wp2_with fail
    rw[←HW.out]
    refine(yax _ _ _ _ _ _ ⟨_,_,_,rfl⟩ ⟨_,_,_,rfl⟩).mono ?_
    rintro e w1 ⟨rfl,b1,s1⟩
    obtain ⟨p0,p1,p2,p3,p4⟩:=yas (lay:=b1) X0.out
    have hB1:Below w.heap.size w w1:=B0.out.trans (b1.mono hs0)
    have hS1:w.heap.size≤w1.heap.size:=hB1.size
    have HR1:=hD (HRA.out.below hB1)
    have HBB:=hD hB1
    clear hB1
    go_wp2_with (first|(go_at_call 47;refine(yag _ _ _ _).mono ?_;rintro e w' ⟨rfl,rfl⟩)|(go_at_call 48;refine(yaz _ _ _ args _ (by exact HR1.out) HM.out.symm Zq6 hz).mono ?_;rintro e w' ⟨rfl,rfl⟩))
    go_ret
    exact ⟨by rw[HF.out];rfl,HBB.out,hS1⟩
 ·have e1:((m:Int) != (yar 4 word:Int))=true:=by rw[bne_iff_ne];have:yar 4 word=1:=rfl;omega
  have HF:=hD (yc2 (k:=4) (word:=word) (args:=args) (count:=count) (nb:=nb) (V:=V) (by rw[←HM.out];simp [ya4,yar,ya2,hasB,inB,hm]))
  go_enter Tryz.func105,Tryz.ntmps105
  go_wp2_with fail
  rw[←HW.out]
  refine(yax _ _ _ _ _ _ ⟨_,_,_,rfl⟩ ⟨_,_,_,rfl⟩).mono ?_
  rintro e w1 ⟨rfl,b1,s1⟩
  obtain ⟨p0,p1,p2,p3,p4⟩:=yas (lay:=b1) X0.out
  have hB1:Below w.heap.size w w1:=B0.out.trans (b1.mono hs0)
  have hS1:w.heap.size≤w1.heap.size:=hB1.size
  have HR1:=hD (HRA.out.below hB1)
  have HBB:=hD hB1
  clear hB1
  go_wp2_with (first|(go_at_call 47;refine(yag _ _ _ _).mono ?_;rintro e w' ⟨rfl,rfl⟩)|(go_at_call 48;refine(yaz _ _ _ args _ (by exact HR1.out) HM.out.symm Zq6 hz).mono ?_;rintro e w' ⟨rfl,rfl⟩))
  go_ret
  exact ⟨by rw[HF.out];rfl,HBB.out,hS1⟩
theorem ypo (word:ByteArray) (args:List ByteArray) (count:Int) (Aa:Option Addr) (ca:Nat) (Ab:Option Addr) (nb cb:Nat) (w:World) (V:Bool) (hra:Rd w 1 Aa args.length (strs args)) (hz:szS args≤1048576) (hl:args.length≤1048576) (hn:nb≤1048576)
  (hall:∀ w',Below w.heap.size w w'→Calls Tryz.prog 49 #[.slice Ab nb cb] w' fun e w''=>e=.returned (.bool V)∧Below w'.heap.size w' w''∧w'.heap.size≤w''.heap.size) :
  Calls Tryz.prog 105 #[.agg #[.int .i64 5,.string word,.slice Aa args.length ca,.int .i64 count,.slice Ab nb cb]] w fun e w'=>e=.returned (.bool (vR3 5 word args count nb V))∧Below w.heap.size w w'∧w.heap.size≤w'.heap.size:=by
 obtain ⟨m,hm0⟩:∃ m,m=args.length:=⟨_,rfl⟩
 rw[←hm0] at hl hra ⊢
 have HM:=hD hm0
 have HRA:=hD hra
 have HALL:=hD hall
 clear hra hall hm0
 have hB:hasB 5=true:=rfl
 have hIN:inB 5 1 7=true:=rfl
 have HAW:Hid (allW args=args.all ya9):=hD rfl
 obtain ⟨w0,hw0⟩:∃ w0,w0=w.alloc (.cells #[.int .i64 5,.string word,.slice Aa m ca,.int .i64 count,.slice Ab nb cb] 66):=⟨_,rfl⟩
 have X0:=hD (show w0.heap[w.heap.size]?=some (.cells #[.int .i64 5,.string word,.slice Aa m ca,.int .i64 count,.slice Ab nb cb] 66 (0,0)) by rw[hw0];exact yac _ _)
 have b0:Below w.heap.size w w0:=by rw[hw0];exact Zq0
 have hs0:w.heap.size≤w0.heap.size:=b0.size
 have B0:=hD b0
 have HW:=hD hw0
 clear b0 hw0
 by_cases hm:m=1
 ·subst hm
  have e1:((1:Int) != (yar 5 word:Int))=false:=rfl
  cases hwo:args.all ya9
  ·have HWO:=hD hwo
   have hAW:=HAW.out.trans hwo
   clear hwo
   have HF:=hD (yhp (k:=5) (word:=word) (args:=args) (count:=count) (nb:=nb) (V:=V) HWO.out)
   go_enter Tryz.func105,Tryz.ntmps105
   go_wp2_with fail
   rw[←HW.out]
   refine(yax _ _ _ _ _ _ ⟨_,_,_,rfl⟩ ⟨_,_,_,rfl⟩).mono ?_
   rintro e w1 ⟨rfl,b1,s1⟩
   obtain ⟨p0,p1,p2,p3,p4⟩:=yas (lay:=b1) X0.out
   have hB1:Below w.heap.size w w1:=B0.out.trans (b1.mono hs0)
   have hS1:w.heap.size≤w1.heap.size:=hB1.size
   have HR1:=hD (HRA.out.below hB1)
   have HBB:=hD hB1
   clear hB1
   go_wp2_with (first|(go_at_call 47;refine(yag _ _ _ _).mono ?_;rintro e w' ⟨rfl,rfl⟩)|(go_at_call 48;refine(yaz _ _ _ args _ (by exact HR1.out) HM.out.symm Zq6 hz).mono ?_;rintro e w' ⟨rfl,rfl⟩))
   go_ret
   exact ⟨by rw[HF.out];rfl,HBB.out,hS1⟩
  ·have HWO:=hD hwo
   have hAW:=HAW.out.trans hwo
   clear hwo
   by_cases hw:word.toList=[]
   ·have e2:word.toList.isEmpty=true:=by simp [hw]
    have HWE:=hD hw
    clear hw
    by_cases hc:count=0
    ·subst hc
     have HH:=hD (show ya4 5 word args.length 0 nb=true by rw[←HM.out];simp [ya4,yar,ya2,hasB,inB,HWE.out])
     have HF:=hD (yhq (V:=V) HH.out HWO.out)
     go_enter Tryz.func105,Tryz.ntmps105
     go_wp2_with fail
     rw[←HW.out]
     refine(yax _ _ _ _ _ _ ⟨_,_,_,rfl⟩ ⟨_,_,_,rfl⟩).mono ?_
     rintro e w1 ⟨rfl,b1,s1⟩
     obtain ⟨p0,p1,p2,p3,p4⟩:=yas (lay:=b1) X0.out
     have hB1:Below w.heap.size w w1:=B0.out.trans (b1.mono hs0)
     have hS1:w.heap.size≤w1.heap.size:=hB1.size
     have HR1:=hD (HRA.out.below hB1)
     have HBB:=hD hB1
     clear hB1
     go_wp2_with (first|(go_at_call 47;refine(yag _ _ _ _).mono ?_;rintro e w' ⟨rfl,rfl⟩)|(go_at_call 48;refine(yaz _ _ _ args _ (by exact HR1.out) HM.out.symm Zq6 hz).mono ?_;rintro e w' ⟨rfl,rfl⟩))
     refine(HALL.out _ HBB.out).mono ?_
     rintro e w2 ⟨rfl,b2,s2⟩
     go_wp2_with fail
     go_ret
     exact ⟨by rw[HF.out];rfl,HBB.out.trans (b2.mono hS1),by omega⟩
    ·have e4:(count != 0)=true:=by rw[bne_iff_ne];exact hc
     have HF:=hD (yc2 (k:=5) (word:=word) (args:=args) (count:=count) (nb:=nb) (V:=V) (by rw[←HM.out];simp [ya4,yar,ya2,hasB,inB,HWE.out,hc]))
     go_enter Tryz.func105,Tryz.ntmps105
     go_wp2_with fail
     rw[←HW.out]
     refine(yax _ _ _ _ _ _ ⟨_,_,_,rfl⟩ ⟨_,_,_,rfl⟩).mono ?_
     rintro e w1 ⟨rfl,b1,s1⟩
     obtain ⟨p0,p1,p2,p3,p4⟩:=yas (lay:=b1) X0.out
     have hB1:Below w.heap.size w w1:=B0.out.trans (b1.mono hs0)
     have hS1:w.heap.size≤w1.heap.size:=hB1.size
     have HR1:=hD (HRA.out.below hB1)
     have HBB:=hD hB1
     clear hB1
     go_wp2_with (first|(go_at_call 47;refine(yag _ _ _ _).mono ?_;rintro e w' ⟨rfl,rfl⟩)|(go_at_call 48;refine(yaz _ _ _ args _ (by exact HR1.out) HM.out.symm Zq6 hz).mono ?_;rintro e w' ⟨rfl,rfl⟩))
     go_ret
     exact ⟨by rw[HF.out];rfl,HBB.out,hS1⟩
   ·have e2:word.toList.isEmpty=false:=by rw[List.isEmpty_eq_false_iff];exact hw
    have HWE:=hD hw
    clear hw
    have HF:=hD (yc2 (k:=5) (word:=word) (args:=args) (count:=count) (nb:=nb) (V:=V) (by rw[←HM.out];simp [ya4,yar,ya2,hasB,inB,HWE.out]))
    go_enter Tryz.func105,Tryz.ntmps105
    go_wp2_with fail
    rw[←HW.out]
    refine(yax _ _ _ _ _ _ ⟨_,_,_,rfl⟩ ⟨_,_,_,rfl⟩).mono ?_
    rintro e w1 ⟨rfl,b1,s1⟩
    obtain ⟨p0,p1,p2,p3,p4⟩:=yas (lay:=b1) X0.out
    have hB1:Below w.heap.size w w1:=B0.out.trans (b1.mono hs0)
    have hS1:w.heap.size≤w1.heap.size:=hB1.size
    have HR1:=hD (HRA.out.below hB1)
    have HBB:=hD hB1
    clear hB1
    go_wp2_with (first|(go_at_call 47;refine(yag _ _ _ _).mono ?_;rintro e w' ⟨rfl,rfl⟩)|(go_at_call 48;refine(yaz _ _ _ args _ (by exact HR1.out) HM.out.symm Zq6 hz).mono ?_;rintro e w' ⟨rfl,rfl⟩))
    go_ret
    exact ⟨by rw[HF.out];rfl,HBB.out,hS1⟩
 ·have e1:((m:Int) != (yar 5 word:Int))=true:=by rw[bne_iff_ne];have:yar 5 word=1:=rfl;omega
  have HF:=hD (yc2 (k:=5) (word:=word) (args:=args) (count:=count) (nb:=nb) (V:=V) (by rw[←HM.out];simp [ya4,yar,ya2,hasB,inB,hm]))
  go_enter Tryz.func105,Tryz.ntmps105
  go_wp2_with fail
  rw[←HW.out]
  refine(yax _ _ _ _ _ _ ⟨_,_,_,rfl⟩ ⟨_,_,_,rfl⟩).mono ?_
  rintro e w1 ⟨rfl,b1,s1⟩
  obtain ⟨p0,p1,p2,p3,p4⟩:=yas (lay:=b1) X0.out
  have hB1:Below w.heap.size w w1:=B0.out.trans (b1.mono hs0)
  have hS1:w.heap.size≤w1.heap.size:=hB1.size
  have HR1:=hD (HRA.out.below hB1)
  have HBB:=hD hB1
  clear hB1
  go_wp2_with (first|(go_at_call 47;refine(yag _ _ _ _).mono ?_;rintro e w' ⟨rfl,rfl⟩)|(go_at_call 48;refine(yaz _ _ _ args _ (by exact HR1.out) HM.out.symm Zq6 hz).mono ?_;rintro e w' ⟨rfl,rfl⟩))
  go_ret
  exact ⟨by rw[HF.out];rfl,HBB.out,hS1⟩
theorem ypp (word:ByteArray) (args:List ByteArray) (count:Int) (Aa:Option Addr) (ca:Nat) (Ab:Option Addr) (nb cb:Nat) (w:World) (V:Bool) (hra:Rd w 1 Aa args.length (strs args)) (hz:szS args≤1048576) (hl:args.length≤1048576) (hn:nb≤1048576)
  (hall:∀ w',Below w.heap.size w w'→Calls Tryz.prog 49 #[.slice Ab nb cb] w' fun e w''=>e=.returned (.bool V)∧Below w'.heap.size w' w''∧w'.heap.size≤w''.heap.size) :
  Calls Tryz.prog 105 #[.agg #[.int .i64 6,.string word,.slice Aa args.length ca,.int .i64 count,.slice Ab nb cb]] w fun e w'=>e=.returned (.bool (vR3 6 word args count nb V))∧Below w.heap.size w w'∧w.heap.size≤w'.heap.size:=by
 obtain ⟨m,hm0⟩:∃ m,m=args.length:=⟨_,rfl⟩
 rw[←hm0] at hl hra ⊢
 have HM:=hD hm0
 have HRA:=hD hra
 have HALL:=hD hall
 clear hra hall hm0
 have hB:hasB 6=false:=rfl
 have hIN:inB 6 1 7=true:=rfl
 have HAW:Hid (allW args=args.all ya9):=hD rfl
 obtain ⟨w0,hw0⟩:∃ w0,w0=w.alloc (.cells #[.int .i64 6,.string word,.slice Aa m ca,.int .i64 count,.slice Ab nb cb] 66):=⟨_,rfl⟩
 have X0:=hD (show w0.heap[w.heap.size]?=some (.cells #[.int .i64 6,.string word,.slice Aa m ca,.int .i64 count,.slice Ab nb cb] 66 (0,0)) by rw[hw0];exact yac _ _)
 have b0:Below w.heap.size w w0:=by rw[hw0];exact Zq0
 have hs0:w.heap.size≤w0.heap.size:=b0.size
 have B0:=hD b0
 have HW:=hD hw0
 clear b0 hw0
 by_cases hm:m=2
 ·subst hm
  have e1:((2:Int) != (yar 6 word:Int))=false:=rfl
  cases hwo:args.all ya9
  ·have HWO:=hD hwo
   have hAW:=HAW.out.trans hwo
   clear hwo
   have HF:=hD (yhp (k:=6) (word:=word) (args:=args) (count:=count) (nb:=nb) (V:=V) HWO.out)
   go_enter Tryz.func105,Tryz.ntmps105
   go_wp2_with fail
   rw[←HW.out]
   refine(yax _ _ _ _ _ _ ⟨_,_,_,rfl⟩ ⟨_,_,_,rfl⟩).mono ?_
   rintro e w1 ⟨rfl,b1,s1⟩
   obtain ⟨p0,p1,p2,p3,p4⟩:=yas (lay:=b1) X0.out
   have hB1:Below w.heap.size w w1:=B0.out.trans (b1.mono hs0)
   have hS1:w.heap.size≤w1.heap.size:=hB1.size
   have HR1:=hD (HRA.out.below hB1)
   have HBB:=hD hB1
   clear hB1
   go_wp2_with (first|(go_at_call 47;refine(yag _ _ _ _).mono ?_;rintro e w' ⟨rfl,rfl⟩)|(go_at_call 48;refine(yaz _ _ _ args _ (by exact HR1.out) HM.out.symm Zq6 hz).mono ?_;rintro e w' ⟨rfl,rfl⟩))
   go_ret
   exact ⟨by rw[HF.out];rfl,HBB.out,hS1⟩
  ·have HWO:=hD hwo
   have hAW:=HAW.out.trans hwo
   clear hwo
   by_cases hb:nb=0
   ·have e3:decide (0<(nb:Int))=false:=by simp;omega
    have e3n:decide (0<nb)=false:=by simp;omega
    have HNB:=hD hb
    clear hb
    by_cases hw:word.toList=[]
    ·have e2:word.toList.isEmpty=true:=by simp [hw]
     have HWE:=hD hw
     clear hw
     by_cases hc:count=0
     ·subst hc
      have HH:=hD (show ya4 6 word args.length 0 nb=true by rw[←HM.out];simp [ya4,yar,ya2,hasB,inB,HNB.out,HWE.out])
      have HF:=hD (yhq (V:=V) HH.out HWO.out)
      go_enter Tryz.func105,Tryz.ntmps105
      go_wp2_with fail
      rw[←HW.out]
      refine(yax _ _ _ _ _ _ ⟨_,_,_,rfl⟩ ⟨_,_,_,rfl⟩).mono ?_
      rintro e w1 ⟨rfl,b1,s1⟩
      obtain ⟨p0,p1,p2,p3,p4⟩:=yas (lay:=b1) X0.out
      have hB1:Below w.heap.size w w1:=B0.out.trans (b1.mono hs0)
      have hS1:w.heap.size≤w1.heap.size:=hB1.size
      have HR1:=hD (HRA.out.below hB1)
      have HBB:=hD hB1
      clear hB1
      go_wp2_with (first|(go_at_call 47;refine(yag _ _ _ _).mono ?_;rintro e w' ⟨rfl,rfl⟩)|(go_at_call 48;refine(yaz _ _ _ args _ (by exact HR1.out) HM.out.symm Zq6 hz).mono ?_;rintro e w' ⟨rfl,rfl⟩))
      refine(HALL.out _ HBB.out).mono ?_
      rintro e w2 ⟨rfl,b2,s2⟩
      go_wp2_with fail
      go_ret
      exact ⟨by rw[HF.out];rfl,HBB.out.trans (b2.mono hS1),by omega⟩
     ·have e4:(count != 0)=true:=by rw[bne_iff_ne];exact hc
      have HF:=hD (yc2 (k:=6) (word:=word) (args:=args) (count:=count) (nb:=nb) (V:=V) (by rw[←HM.out];simp [ya4,yar,ya2,hasB,inB,HNB.out,HWE.out,hc]))
      go_enter Tryz.func105,Tryz.ntmps105
      go_wp2_with fail
      rw[←HW.out]
      refine(yax _ _ _ _ _ _ ⟨_,_,_,rfl⟩ ⟨_,_,_,rfl⟩).mono ?_
      rintro e w1 ⟨rfl,b1,s1⟩
      obtain ⟨p0,p1,p2,p3,p4⟩:=yas (lay:=b1) X0.out
      have hB1:Below w.heap.size w w1:=B0.out.trans (b1.mono hs0)
      have hS1:w.heap.size≤w1.heap.size:=hB1.size
      have HR1:=hD (HRA.out.below hB1)
      have HBB:=hD hB1
      clear hB1
      go_wp2_with (first|(go_at_call 47;refine(yag _ _ _ _).mono ?_;rintro e w' ⟨rfl,rfl⟩)|(go_at_call 48;refine(yaz _ _ _ args _ (by exact HR1.out) HM.out.symm Zq6 hz).mono ?_;rintro e w' ⟨rfl,rfl⟩))
      go_ret
      exact ⟨by rw[HF.out];rfl,HBB.out,hS1⟩
    ·have e2:word.toList.isEmpty=false:=by rw[List.isEmpty_eq_false_iff];exact hw
     have HWE:=hD hw
     clear hw
     have HF:=hD (yc2 (k:=6) (word:=word) (args:=args) (count:=count) (nb:=nb) (V:=V) (by rw[←HM.out];simp [ya4,yar,ya2,hasB,inB,HNB.out,HWE.out]))
     go_enter Tryz.func105,Tryz.ntmps105
     go_wp2_with fail
     rw[←HW.out]
     refine(yax _ _ _ _ _ _ ⟨_,_,_,rfl⟩ ⟨_,_,_,rfl⟩).mono ?_
     rintro e w1 ⟨rfl,b1,s1⟩
     obtain ⟨p0,p1,p2,p3,p4⟩:=yas (lay:=b1) X0.out
     have hB1:Below w.heap.size w w1:=B0.out.trans (b1.mono hs0)
     have hS1:w.heap.size≤w1.heap.size:=hB1.size
     have HR1:=hD (HRA.out.below hB1)
     have HBB:=hD hB1
     clear hB1
     go_wp2_with (first|(go_at_call 47;refine(yag _ _ _ _).mono ?_;rintro e w' ⟨rfl,rfl⟩)|(go_at_call 48;refine(yaz _ _ _ args _ (by exact HR1.out) HM.out.symm Zq6 hz).mono ?_;rintro e w' ⟨rfl,rfl⟩))
     go_ret
     exact ⟨by rw[HF.out];rfl,HBB.out,hS1⟩
   ·have e3:decide (0<(nb:Int))=true:=by simp;omega
    have e3n:decide (0<nb)=true:=by simp;omega
    have HNB:=hD hb
    clear hb
    have HF:=hD (yc2 (k:=6) (word:=word) (args:=args) (count:=count) (nb:=nb) (V:=V) (by rw[←HM.out];simp [ya4,yar,ya2,hasB,inB,HNB.out]))
    go_enter Tryz.func105,Tryz.ntmps105
    go_wp2_with fail
    rw[←HW.out]
    refine(yax _ _ _ _ _ _ ⟨_,_,_,rfl⟩ ⟨_,_,_,rfl⟩).mono ?_
    rintro e w1 ⟨rfl,b1,s1⟩
    obtain ⟨p0,p1,p2,p3,p4⟩:=yas (lay:=b1) X0.out
    have hB1:Below w.heap.size w w1:=B0.out.trans (b1.mono hs0)
    have hS1:w.heap.size≤w1.heap.size:=hB1.size
    have HR1:=hD (HRA.out.below hB1)
    have HBB:=hD hB1
    clear hB1
    go_wp2_with (first|(go_at_call 47;refine(yag _ _ _ _).mono ?_;rintro e w' ⟨rfl,rfl⟩)|(go_at_call 48;refine(yaz _ _ _ args _ (by exact HR1.out) HM.out.symm Zq6 hz).mono ?_;rintro e w' ⟨rfl,rfl⟩))
    go_ret
    exact ⟨by rw[HF.out];rfl,HBB.out,hS1⟩
 ·have e1:((m:Int) != (yar 6 word:Int))=true:=by rw[bne_iff_ne];have:yar 6 word=2:=rfl;omega
  have HF:=hD (yc2 (k:=6) (word:=word) (args:=args) (count:=count) (nb:=nb) (V:=V) (by rw[←HM.out];simp [ya4,yar,ya2,hasB,inB,hm]))
  go_enter Tryz.func105,Tryz.ntmps105
  go_wp2_with fail
  rw[←HW.out]
  refine(yax _ _ _ _ _ _ ⟨_,_,_,rfl⟩ ⟨_,_,_,rfl⟩).mono ?_
  rintro e w1 ⟨rfl,b1,s1⟩
  obtain ⟨p0,p1,p2,p3,p4⟩:=yas (lay:=b1) X0.out
  have hB1:Below w.heap.size w w1:=B0.out.trans (b1.mono hs0)
  have hS1:w.heap.size≤w1.heap.size:=hB1.size
  have HR1:=hD (HRA.out.below hB1)
  have HBB:=hD hB1
  clear hB1
  go_wp2_with (first|(go_at_call 47;refine(yag _ _ _ _).mono ?_;rintro e w' ⟨rfl,rfl⟩)|(go_at_call 48;refine(yaz _ _ _ args _ (by exact HR1.out) HM.out.symm Zq6 hz).mono ?_;rintro e w' ⟨rfl,rfl⟩))
  go_ret
  exact ⟨by rw[HF.out];rfl,HBB.out,hS1⟩
theorem ypq (word:ByteArray) (args:List ByteArray) (count:Int) (Aa:Option Addr) (ca:Nat) (Ab:Option Addr) (nb cb:Nat) (w:World) (V:Bool) (hra:Rd w 1 Aa args.length (strs args)) (hz:szS args≤1048576) (hl:args.length≤1048576) (hn:nb≤1048576)
  (hall:∀ w',Below w.heap.size w w'→Calls Tryz.prog 49 #[.slice Ab nb cb] w' fun e w''=>e=.returned (.bool V)∧Below w'.heap.size w' w''∧w'.heap.size≤w''.heap.size) :
  Calls Tryz.prog 105 #[.agg #[.int .i64 7,.string word,.slice Aa args.length ca,.int .i64 count,.slice Ab nb cb]] w fun e w'=>e=.returned (.bool (vR3 7 word args count nb V))∧Below w.heap.size w w'∧w.heap.size≤w'.heap.size:=by
 obtain ⟨m,hm0⟩:∃ m,m=args.length:=⟨_,rfl⟩
 rw[←hm0] at hl hra ⊢
 have HM:=hD hm0
 have HRA:=hD hra
 have HALL:=hD hall
 clear hra hall hm0
 have hB:hasB 7=true:=rfl
 have hIN:inB 7 1 7=true:=rfl
 have HAW:Hid (allW args=args.all ya9):=hD rfl
 obtain ⟨w0,hw0⟩:∃ w0,w0=w.alloc (.cells #[.int .i64 7,.string word,.slice Aa m ca,.int .i64 count,.slice Ab nb cb] 66):=⟨_,rfl⟩
 have X0:=hD (show w0.heap[w.heap.size]?=some (.cells #[.int .i64 7,.string word,.slice Aa m ca,.int .i64 count,.slice Ab nb cb] 66 (0,0)) by rw[hw0];exact yac _ _)
 have b0:Below w.heap.size w w0:=by rw[hw0];exact Zq0
 have hs0:w.heap.size≤w0.heap.size:=b0.size
 have B0:=hD b0
 have HW:=hD hw0
 clear b0 hw0
 by_cases hm:m=1
 ·subst hm
  have e1:((1:Int) != (yar 7 word:Int))=false:=rfl
  cases hwo:args.all ya9
  ·have HWO:=hD hwo
   have hAW:=HAW.out.trans hwo
   clear hwo
   have HF:=hD (yhp (k:=7) (word:=word) (args:=args) (count:=count) (nb:=nb) (V:=V) HWO.out)
   go_enter Tryz.func105,Tryz.ntmps105
   go_wp2_with fail
   rw[←HW.out]
   refine(yax _ _ _ _ _ _ ⟨_,_,_,rfl⟩ ⟨_,_,_,rfl⟩).mono ?_
   rintro e w1 ⟨rfl,b1,s1⟩
   obtain ⟨p0,p1,p2,p3,p4⟩:=yas (lay:=b1) X0.out
   have hB1:Below w.heap.size w w1:=B0.out.trans (b1.mono hs0)
   have hS1:w.heap.size≤w1.heap.size:=hB1.size
   have HR1:=hD (HRA.out.below hB1)
   have HBB:=hD hB1
   clear hB1
   go_wp2_with (first|(go_at_call 47;refine(yag _ _ _ _).mono ?_;rintro e w' ⟨rfl,rfl⟩)|(go_at_call 48;refine(yaz _ _ _ args _ (by exact HR1.out) HM.out.symm Zq6 hz).mono ?_;rintro e w' ⟨rfl,rfl⟩))
   go_ret
   exact ⟨by rw[HF.out];rfl,HBB.out,hS1⟩
  ·have HWO:=hD hwo
   have hAW:=HAW.out.trans hwo
   clear hwo
   by_cases hw:word.toList=[]
   ·have e2:word.toList.isEmpty=true:=by simp [hw]
    have HWE:=hD hw
    clear hw
    by_cases hc:count=0
    ·subst hc
     have HH:=hD (show ya4 7 word args.length 0 nb=true by rw[←HM.out];simp [ya4,yar,ya2,hasB,inB,HWE.out])
     have HF:=hD (yhq (V:=V) HH.out HWO.out)
     go_enter Tryz.func105,Tryz.ntmps105
     go_wp2_with fail
     rw[←HW.out]
     refine(yax _ _ _ _ _ _ ⟨_,_,_,rfl⟩ ⟨_,_,_,rfl⟩).mono ?_
     rintro e w1 ⟨rfl,b1,s1⟩
     obtain ⟨p0,p1,p2,p3,p4⟩:=yas (lay:=b1) X0.out
     have hB1:Below w.heap.size w w1:=B0.out.trans (b1.mono hs0)
     have hS1:w.heap.size≤w1.heap.size:=hB1.size
     have HR1:=hD (HRA.out.below hB1)
     have HBB:=hD hB1
     clear hB1
     go_wp2_with (first|(go_at_call 47;refine(yag _ _ _ _).mono ?_;rintro e w' ⟨rfl,rfl⟩)|(go_at_call 48;refine(yaz _ _ _ args _ (by exact HR1.out) HM.out.symm Zq6 hz).mono ?_;rintro e w' ⟨rfl,rfl⟩))
     refine(HALL.out _ HBB.out).mono ?_
     rintro e w2 ⟨rfl,b2,s2⟩
     go_wp2_with fail
     go_ret
     exact ⟨by rw[HF.out];rfl,HBB.out.trans (b2.mono hS1),by omega⟩
    ·have e4:(count != 0)=true:=by rw[bne_iff_ne];exact hc
     have HF:=hD (yc2 (k:=7) (word:=word) (args:=args) (count:=count) (nb:=nb) (V:=V) (by rw[←HM.out];simp [ya4,yar,ya2,hasB,inB,HWE.out,hc]))
     go_enter Tryz.func105,Tryz.ntmps105
     go_wp2_with fail
     rw[←HW.out]
     refine(yax _ _ _ _ _ _ ⟨_,_,_,rfl⟩ ⟨_,_,_,rfl⟩).mono ?_
     rintro e w1 ⟨rfl,b1,s1⟩
     obtain ⟨p0,p1,p2,p3,p4⟩:=yas (lay:=b1) X0.out
     have hB1:Below w.heap.size w w1:=B0.out.trans (b1.mono hs0)
     have hS1:w.heap.size≤w1.heap.size:=hB1.size
     have HR1:=hD (HRA.out.below hB1)
     have HBB:=hD hB1
     clear hB1
     go_wp2_with (first|(go_at_call 47;refine(yag _ _ _ _).mono ?_;rintro e w' ⟨rfl,rfl⟩)|(go_at_call 48;refine(yaz _ _ _ args _ (by exact HR1.out) HM.out.symm Zq6 hz).mono ?_;rintro e w' ⟨rfl,rfl⟩))
     go_ret
     exact ⟨by rw[HF.out];rfl,HBB.out,hS1⟩
   ·have e2:word.toList.isEmpty=false:=by rw[List.isEmpty_eq_false_iff];exact hw
    have HWE:=hD hw
    clear hw
    have HF:=hD (yc2 (k:=7) (word:=word) (args:=args) (count:=count) (nb:=nb) (V:=V) (by rw[←HM.out];simp [ya4,yar,ya2,hasB,inB,HWE.out]))
    go_enter Tryz.func105,Tryz.ntmps105
    go_wp2_with fail
    rw[←HW.out]
    refine(yax _ _ _ _ _ _ ⟨_,_,_,rfl⟩ ⟨_,_,_,rfl⟩).mono ?_
    rintro e w1 ⟨rfl,b1,s1⟩
    obtain ⟨p0,p1,p2,p3,p4⟩:=yas (lay:=b1) X0.out
    have hB1:Below w.heap.size w w1:=B0.out.trans (b1.mono hs0)
    have hS1:w.heap.size≤w1.heap.size:=hB1.size
    have HR1:=hD (HRA.out.below hB1)
    have HBB:=hD hB1
    clear hB1
    go_wp2_with (first|(go_at_call 47;refine(yag _ _ _ _).mono ?_;rintro e w' ⟨rfl,rfl⟩)|(go_at_call 48;refine(yaz _ _ _ args _ (by exact HR1.out) HM.out.symm Zq6 hz).mono ?_;rintro e w' ⟨rfl,rfl⟩))
    go_ret
    exact ⟨by rw[HF.out];rfl,HBB.out,hS1⟩
 ·have e1:((m:Int) != (yar 7 word:Int))=true:=by rw[bne_iff_ne];have:yar 7 word=1:=rfl;omega
  have HF:=hD (yc2 (k:=7) (word:=word) (args:=args) (count:=count) (nb:=nb) (V:=V) (by rw[←HM.out];simp [ya4,yar,ya2,hasB,inB,hm]))
  go_enter Tryz.func105,Tryz.ntmps105
  go_wp2_with fail
  rw[←HW.out]
  refine(yax _ _ _ _ _ _ ⟨_,_,_,rfl⟩ ⟨_,_,_,rfl⟩).mono ?_
  rintro e w1 ⟨rfl,b1,s1⟩
  obtain ⟨p0,p1,p2,p3,p4⟩:=yas (lay:=b1) X0.out
  have hB1:Below w.heap.size w w1:=B0.out.trans (b1.mono hs0)
  have hS1:w.heap.size≤w1.heap.size:=hB1.size
  have HR1:=hD (HRA.out.below hB1)
  have HBB:=hD hB1
  clear hB1
  go_wp2_with (first|(go_at_call 47;refine(yag _ _ _ _).mono ?_;rintro e w' ⟨rfl,rfl⟩)|(go_at_call 48;refine(yaz _ _ _ args _ (by exact HR1.out) HM.out.symm Zq6 hz).mono ?_;rintro e w' ⟨rfl,rfl⟩))
  go_ret
  exact ⟨by rw[HF.out];rfl,HBB.out,hS1⟩
theorem ym7 {k:Int} (h:inB k 1 7=false) (word:ByteArray) (na:Nat) (count:Int) (nb:Nat):ya4 k word na count nb=false:=by simp [ya4,h]
theorem yn0 (k:Int) (word:ByteArray) (args:List ByteArray) (count:Int) (Aa:Option Addr) (ca:Nat) (Ab:Option Addr) (nb cb:Nat) (w:World) (rs:List Bool) (hk:inB k 1 7=false) :
  Calls Tryz.prog 43 #[.agg #[.int .i64 k,.string word,.slice Aa args.length ca,.int .i64 count,.slice Ab nb cb]] w fun e w'=>e=.returned (.bool (vRes k word args count nb rs))∧Below w.heap.size w w'∧w.heap.size≤w'.heap.size:=by
 have hk':=ys2.1 hk
 have HF:=hD (ycq (rs:=rs) (ym7 hk word args.length count nb))
 have e1:(k==1)=false:=beq_eq_false_iff_ne.2 Zq6
 have e2:(k==2)=false:=beq_eq_false_iff_ne.2 Zq6
 have e3:(k==3)=false:=beq_eq_false_iff_ne.2 Zq6
 have e4:(k==4)=false:=beq_eq_false_iff_ne.2 Zq6
 have e5:(k==5)=false:=beq_eq_false_iff_ne.2 Zq6
 have e6:(k==6)=false:=beq_eq_false_iff_ne.2 Zq6
 have e7:(k==7)=false:=beq_eq_false_iff_ne.2 Zq6
 obtain ⟨m,hm⟩:∃ m,m=args.length:=⟨_,rfl⟩
 rw[←hm]
 clear hk hk' hm
 go_enter Tryz.func43,Tryz.ntmps43
 go_wp2_with fail
 go_ret
 exact ⟨by rw[HF.out];rfl,Zq0,Zq5⟩
theorem ykl (k:Int) (word:ByteArray) (args:List ByteArray) (count:Int) (Aa:Option Addr) (ca:Nat) (Ab:Option Addr) (nb cb:Nat) (w:World) (rs:List Bool) (hra:Rd w 1 Aa args.length (strs args)) (hG:GN w) (hz:szS args≤1048576) (hl:args.length≤1048576) (hn:nb≤1048576) (hrs:rs.length=nb) (hel:Elts 43 w Ab nb rs) :
  Calls Tryz.prog 43 #[.agg #[.int .i64 k,.string word,.slice Aa args.length ca,.int .i64 count,.slice Ab nb cb]] w fun e w'=>e=.returned (.bool (vRes k word args count nb rs))∧Below w.heap.size w w'∧w.heap.size≤w'.heap.size:=by
 cases hk:inB k 1 7
 ·exact yn0 k word args count Aa ca Ab nb cb w rs hk
 ·have h:=ycf.1 hk
  have hc:k=1∨k=2∨k=3∨k=4∨k=5∨k=6∨k=7:=by omega
  rcases hc with rfl|rfl|rfl|rfl|rfl|rfl|rfl
  ·exact ypd word args count Aa ca Ab nb cb w rs hra hG hz hl hn hrs hel
  ·exact ype word args count Aa ca Ab nb cb w rs hra hG hz hl hn hrs hel
  ·exact ypf word args count Aa ca Ab nb cb w rs hra hG hz hl hn hrs hel
  ·exact ypg word args count Aa ca Ab nb cb w rs hra hG hz hl hn hrs hel
  ·exact yph word args count Aa ca Ab nb cb w rs hra hG hz hl hn hrs hel
  ·exact ypi word args count Aa ca Ab nb cb w rs hra hG hz hl hn hrs hel
  ·exact ypj word args count Aa ca Ab nb cb w rs hra hG hz hl hn hrs hel
def yt5 (d:Nat):Prop:=∀ (lo:Nat) (k:Int) (word:ByteArray) (args:List ByteArray) (count:Int) (bd:List (Tr d)) (Aa:Option Addr) (ca:Nat) (Ab:Option Addr) (nb cb:Nat) (w:World),RdL w lo 1 Aa args.length (strs args)→RdT w lo d Ab nb bd→GN w→szS args≤1048576→args.length≤1048576→szT d bd≤1048576 →
 Calls Tryz.prog 43 #[.agg #[.int .i64 k,.string word,.slice Aa args.length ca,.int .i64 count,.slice Ab nb cb]] w fun e w'=>e=.returned (.bool (vOne d (ya7 d) ⟨k,word,args,count⟩ bd))∧Below w.heap.size w w'∧w.heap.size≤w'.heap.size
theorem yjw:∀ (d:Nat),yt5 d:=by
 intro d
 induction d with
 | zero =>
  intro lo k word args count bd Aa ca Ab nb cb w hra hrb hG hz hl hsz
  obtain rfl:=ycl hrb
  obtain rfl:bd=[]:=List.eq_nil_of_length_eq_zero hrb.len
  exact(ykl k word args count Aa ca Ab 0 cb w [] hra.rd hG hz hl Zq6 rfl (fun t ht=>absurd ht Zq6)).mono fun e w' ⟨h1,h2⟩=>⟨by rw[h1];exact congrArg (fun b=>Ending.returned (Value.bool b)) (ymo (d:=0) (bd:=[]) rfl),h2⟩
 | succ d ih =>
  intro lo k word args count bd Aa ca Ab nb cb w hra hrb hG hz hl hsz
  have hlen:=hrb.len
  subst hlen
  have hn:bd.length≤1048576:=by rw[ybb] at hsz;omega
  refine(ykl k word args count Aa ca Ab bd.length cb w (bd.map fun s=>vOne d (ya7 d) (hdT s) (bdT s)) hra.rd hG hz hl hn Zq11 (fun t ht=>?_)).mono fun e w' ⟨h1,h2⟩=>⟨by rw[h1];exact congrArg (fun b=>Ending.returned (Value.bool b)) (ymo (ymp bd)),h2⟩
  obtain ⟨b,off,s,Aa',ca',Ab',nb',cb',rfl,hbl,hs,⟨c0,c1,c2,c3,c4⟩,h2,h3⟩:=hrb.at_ ht
  refine ⟨b,off,(hdT s).k,(hdT s).word,Aa',(hdT s).args.length,ca',(hdT s).count,Ab',nb',cb',_,rfl,hbl,⟨c0,c1,c2,c3,c4⟩,by rw[List.getElem?_map,hs];rfl,fun w' hw'=>?_⟩
  have hme:=ydw hs
  have hq:=hsz
  rw[ybb] at hq
  unfold szE at hme
  exact ih lo _ _ _ _ (bdT s) _ _ _ _ _ _ (h2.below hw') (h3.below hw') (hG.below hw') Zq6 Zq6 Zq6
theorem yn1 (k:Int) (word:ByteArray) (args:List ByteArray) (count:Int) (Aa:Option Addr) (ca:Nat) (Ab:Option Addr) (nb cb:Nat) (w:World) (V:Bool) (hk:inB k 1 7=false) :
  Calls Tryz.prog 105 #[.agg #[.int .i64 k,.string word,.slice Aa args.length ca,.int .i64 count,.slice Ab nb cb]] w fun e w'=>e=.returned (.bool (vR3 k word args count nb V))∧Below w.heap.size w w'∧w.heap.size≤w'.heap.size:=by
 have HF:=hD (yc2 (V:=V) (args:=args) (ym7 hk word args.length count nb))
 obtain ⟨m,hm⟩:∃ m,m=args.length:=⟨_,rfl⟩
 rw[←hm]
 clear hm
 obtain ⟨w0,hw0⟩:∃ w0,w0=w.alloc (.cells #[.int .i64 k,.string word,.slice Aa m ca,.int .i64 count,.slice Ab nb cb] 66):=⟨_,rfl⟩
 have X0:=hD (show w0.heap[w.heap.size]?=some (.cells #[.int .i64 k,.string word,.slice Aa m ca,.int .i64 count,.slice Ab nb cb] 66 (0,0)) by rw[hw0];exact yac _ _)
 have b0:Below w.heap.size w w0:=by rw[hw0];exact Zq0
 have hs0:w.heap.size≤w0.heap.size:=b0.size
 have B0:=hD b0
 have HW:=hD hw0
 clear b0 hw0
 go_enter Tryz.func105,Tryz.ntmps105
 go_wp2_with fail
 rw[←HW.out]
 refine(yax _ _ _ _ _ _ ⟨_,_,_,rfl⟩ ⟨_,_,_,rfl⟩).mono ?_
 rintro e w1 ⟨rfl,b1,s1⟩
 obtain ⟨p0,p1,p2,p3,p4⟩:=yas (lay:=b1) X0.out
 have hB1:Below w.heap.size w w1:=B0.out.trans (b1.mono hs0)
 have HBB:=hD hB1
 have hS1:w.heap.size≤w1.heap.size:=hB1.size
 clear hB1
 go_wp2_with (go_at_call 47;refine(yag _ _ _ _).mono ?_;rintro e w' ⟨rfl,rfl⟩)
 go_ret
 exact ⟨by rw[HF.out];rfl,HBB.out,hS1⟩
theorem ypr (k:Int) (word:ByteArray) (args:List ByteArray) (count:Int) (Aa:Option Addr) (ca:Nat) (Ab:Option Addr) (nb cb:Nat) (w:World) (V:Bool) (hra:Rd w 1 Aa args.length (strs args)) (hz:szS args≤1048576) (hl:args.length≤1048576) (hn:nb≤1048576)
  (hall:∀ w',Below w.heap.size w w'→Calls Tryz.prog 49 #[.slice Ab nb cb] w' fun e w''=>e=.returned (.bool V)∧Below w'.heap.size w' w''∧w'.heap.size≤w''.heap.size) :
  Calls Tryz.prog 105 #[.agg #[.int .i64 k,.string word,.slice Aa args.length ca,.int .i64 count,.slice Ab nb cb]] w fun e w'=>e=.returned (.bool (vR3 k word args count nb V))∧Below w.heap.size w w'∧w.heap.size≤w'.heap.size:=by
 cases hk:inB k 1 7
 ·exact yn1 k word args count Aa ca Ab nb cb w V hk
 ·have h:=ycf.1 hk
  have hc:k=1∨k=2∨k=3∨k=4∨k=5∨k=6∨k=7:=by omega
  rcases hc with rfl|rfl|rfl|rfl|rfl|rfl|rfl
  ·exact ypk word args count Aa ca Ab nb cb w V hra hz hl hn hall
  ·exact ypl word args count Aa ca Ab nb cb w V hra hz hl hn hall
  ·exact ypm word args count Aa ca Ab nb cb w V hra hz hl hn hall
  ·exact ypn word args count Aa ca Ab nb cb w V hra hz hl hn hall
  ·exact ypo word args count Aa ca Ab nb cb w V hra hz hl hn hall
  ·exact ypp word args count Aa ca Ab nb cb w V hra hz hl hn hall
  ·exact ypq word args count Aa ca Ab nb cb w V hra hz hl hn hall
def yos (d:Nat):Prop:=∀ (lo:Nat) (A:Option Addr) (n c:Nat) (l:List (Tr d)) (w:World),RdT w lo d A n l→szT d l≤1048576 →
 Calls Tryz.prog 49 #[.slice A n c] w fun e w'=>e=.returned (.bool (ya7 d l))∧Below w.heap.size w w'∧w.heap.size≤w'.heap.size
def yt6 (d:Nat):Prop:=∀ (lo:Nat) (k:Int) (word:ByteArray) (args:List ByteArray) (count:Int) (bd:List (Tr d)) (Aa:Option Addr) (ca:Nat) (Ab:Option Addr) (nb cb:Nat) (w:World),RdL w lo 1 Aa args.length (strs args)→RdT w lo d Ab nb bd→szS args≤1048576→args.length≤1048576→szT d bd≤1048576 →
 Calls Tryz.prog 105 #[.agg #[.int .i64 k,.string word,.slice Aa args.length ca,.int .i64 count,.slice Ab nb cb]] w fun e w'=>e=.returned (.bool (vOne d (ya7 d) ⟨k,word,args,count⟩ bd))∧Below w.heap.size w w'∧w.heap.size≤w'.heap.size
theorem yps {d:Nat} (h:yos d):yt6 d:=by
 intro lo k word args count bd Aa ca Ab nb cb w hra hrb hz hl hsz
 have hlen:=hrb.len
 subst hlen
 have hn:bd.length≤1048576:=by
  cases d with
  | zero=>have:=ycl hrb;omega
  | succ d=>rw[ybb] at hsz;omega
 exact(ypr k word args count Aa ca Ab bd.length cb w (ya7 d bd) hra.rd hz hl hn (fun w' hw'=>h lo _ _ _ bd w' (hrb.below hw') hsz))
theorem ypt:∀ (d:Nat),yos d:=by
 intro d
 induction d with
 | zero =>
  intro lo A n c l w h _
  obtain rfl:=ycl h
  go_enter Tryz.func49,Tryz.ntmps49
  go_wp2
  refine wp_loop_rounds 1 ?_
  rw[rounds_succ]
  go_wp2
  go_ret
  exact ⟨rfl,Below.refl _ _,Nat.le_refl _⟩
 | succ d ih =>
  intro lo A n c l w h hsz
  have hq:=hsz
  rw[ybb] at hq
  have hl:=h.len
  have hn:n≤1048576:=by omega
  have H:=hD h
  have HL:=hD hl
  have ih':=hD (yps ih)
  have HQ:=hD hq
  clear h hl hsz hq
  go_enter Tryz.func49,Tryz.ntmps49
  go_wp2
  go_loopw [3] (fun i wr=>∃ t:Nat,t≤n∧i=.int .i64 t∧ya7 (d+1) (l.take t)=true∧Below w.heap.size w wr) (fun i _=>n - (intOf i).toNat)
  case atStart=>exact ⟨0,Nat.zero_le _,rfl,rfl,Below.refl _ _⟩
  case round =>
   obtain ⟨t,ht,rfl,hok,hb⟩:=hrel
   have HOK:=hD hok
   have hbs:=hb.size
   clear hok
   by_cases hlt:t<n
   ·obtain ⟨b,off,s,Aa',ca',Ab',nb',cb',rfl,hbl,hs,⟨c0,c1,c2,c3,c4⟩,h2,h3⟩:=(H.out.below hb).at_ hlt
    have hme:=ydw hs
    unfold szE at hme
    have hq:=HQ.out
    have HC:=hD (ih'.out lo (hdT s).k (hdT s).word (hdT s).args (hdT s).count (bdT s) Aa' ca' Ab' nb' cb' wr h2 h3 Zq6 Zq6 Zq6)
    obtain ⟨V,hV⟩:∃ V,V=vOne d (ya7 d) (hdT s) (bdT s):=⟨_,rfl⟩
    have HV:=hD hV
    have HS:=hD hs
    have HC2:Hid (Calls Tryz.prog 105 #[.agg #[.int .i64 (hdT s).k,.string (hdT s).word,.slice Aa' (hdT s).args.length ca',.int .i64 (hdT s).count,.slice Ab' nb' cb']] wr fun e w'=>e=.returned (.bool V)∧Below wr.heap.size wr w'∧wr.heap.size≤w'.heap.size):=by
     rw[hV]
     exact HC.out
    clear hV hs hme hq HC h2 h3
    cases V
    ·have HF:=hD (show ya7 (d+1) l=false by
      simp only[ya7]
      rw[List.all_eq_false]
      exact ⟨s,List.mem_of_getElem? HS.out,by rw[←HV.out];simp⟩)
     go_wp2_with fail
     refine HC2.out.mono ?_
     rintro e w2 ⟨rfl,hb2,hs2⟩
     go_wp2_with fail
     go_ret
     exact ⟨by rw[HF.out];rfl,hb.trans (hb2.mono hbs),by omega⟩
    ·have HN:=hD (show ya7 (d+1) (l.take (t+1))=true by
      have h:=HOK.out
      simp only[ya7] at h ⊢
      rw[ycg _ HS.out,h,←HV.out]
      rfl)
     go_wp2_with fail
     refine HC2.out.mono ?_
     rintro e w2 ⟨rfl,hb2,hs2⟩
     go_wp2_with fail
     go_roundw
     case rel=>exact ⟨t+1,by omega,by go_num,HN.out,hb.trans (hb2.mono hbs)⟩
     case measure=>simp [intOf];omega
   ·obtain rfl:t=n:=by omega
    have HF:Hid (ya7 (d+1) l=true):=by
     have h:=HOK.out
     rw[List.take_of_length_le (by rw[HL.out];exact Nat.le_refl _)] at h
     exact h
    go_wp2_with fail
    go_ret
    exact ⟨by rw[HF.out];rfl,hb,hb.size⟩
theorem ybo {w w':World} {b:Nat} {x0 x1:Value} {t:TypeId} (lay:Below w'.heap.size w' w) (h:w'.heap[b]?=some (.cells #[x0,x1] t (0,0))) :
  w.cell? ⟨b,0,none⟩=some x0∧w.cell? ⟨b,1,none⟩=some x1:=by
 have h':w.heap[b]?=some (.cells #[x0,x1] t (0,0)):=(lay.block b (lt_of_block h)).trans h
 exact ⟨by simp [World.cell?,h'],by simp [World.cell?,h']⟩
theorem yhr {w w':World} (h:Below w.drew.heap.size w.drew w'):Below w.heap.size w w':=⟨h.os,h.tape,h.output,h.size,h.block⟩
def pgR (c1 c2 c3:Bool) (N T m:Nat):Bool:=c1&&(c2&&(c3&&(decide (N≤4)&&decide (T+m+2≤160))))
def yc7 (d:Nat) (qs:List ByteArray) (bd:List (Tr d)):Bool:=pgR (inB qs.length 1 4) (allW qs) (ya7 d bd) (ybf d bd) (tokT d bd) qs.length
theorem ypu (Aq:Option Addr) (m cq:Nat) (Ab:Option Addr) (nb cb:Nat) (w:World) (c1 c2 c3:Bool) (N T:Nat) (hm:m≤1048576) (hT0:T≤8388608) (hc1:c1=false)
  (h1:∀ w',Calls Tryz.prog 47 #[.int .i64 m,.int .i64 1,.int .i64 4] w' fun e w''=>e=.returned (.bool c1)∧w'=w'')
  (h2:∀ w',Below w.heap.size w w'→Calls Tryz.prog 48 #[.slice Aq m cq] w' fun e w''=>e=.returned (.bool c2)∧w'=w'')
  (h3:∀ w',Below w.heap.size w w'→Calls Tryz.prog 49 #[.slice Ab nb cb] w' fun e w''=>e=.returned (.bool c3)∧Below w'.heap.size w' w''∧w'.heap.size≤w''.heap.size)
  (h4:∀ w',Below w.heap.size w w'→Calls Tryz.prog 50 #[.slice Ab nb cb] w' fun e w''=>e=.returned (.int .i64 N)∧Below w'.heap.size w' w''∧w'.heap.size≤w''.heap.size)
  (h5:∀ w',Below w.heap.size w w'→Calls Tryz.prog 51 #[.slice Ab nb cb] w' fun e w''=>e=.returned (.int .i64 T)∧Below w'.heap.size w' w''∧w'.heap.size≤w''.heap.size) :
  Calls Tryz.prog 12 #[.agg #[.slice Aq m cq,.slice Ab nb cb]] w fun e w'=>e=.returned (.bool (pgR c1 c2 c3 N T m))∧Below w.heap.size w w'∧w.heap.size≤w'.heap.size:=by
 subst hc1
 obtain ⟨w0,hw0⟩:∃ w0,w0=w.alloc (.cells #[.slice Aq m cq,.slice Ab nb cb] 27):=⟨_,rfl⟩
 have X0:=hD (show w0.heap[w.heap.size]?=some (.cells #[.slice Aq m cq,.slice Ab nb cb] 27 (0,0)) by rw[hw0];exact yac _ _)
 have b0:Below w.heap.size w w0:=by rw[hw0];exact Zq0
 have hs0:w.heap.size≤w0.heap.size:=b0.size
 obtain ⟨p0,p1⟩:=ybo (lay:=Below.refl _ _) X0.out
 have B0:=hD b0
 have HW:=hD hw0
 have H1:=hD h1
 have H2:=hD h2
 have H3:=hD h3
 have H4:=hD h4
 have H5:=hD h5
 clear b0 hw0 h1 h2 h3 h4 h5
 have HF:=hD (show pgR false c2 c3 N T m=false by simp [pgR])
 go_enter Tryz.func12,Tryz.ntmps12
 go_wp2_with fail
 rw[←HW.out]
 go_quiet (first|(go_at_call 47;exact Calls.quiet_of_same ((H1.out _).mono fun _ _ h=>⟨h.1,h.2.symm⟩)))
 go_wp2_with fail
 go_ret
 exact ⟨by rw[HF.out];rfl,yaq B0.out _,(yaq B0.out _).size⟩
theorem ypv (Aq:Option Addr) (m cq:Nat) (Ab:Option Addr) (nb cb:Nat) (w:World) (c1 c2 c3:Bool) (N T:Nat) (hm:m≤1048576) (hT0:T≤8388608) (hc1:c1=true) (hc2:c2=false)
  (h1:∀ w',Calls Tryz.prog 47 #[.int .i64 m,.int .i64 1,.int .i64 4] w' fun e w''=>e=.returned (.bool c1)∧w'=w'')
  (h2:∀ w',Below w.heap.size w w'→Calls Tryz.prog 48 #[.slice Aq m cq] w' fun e w''=>e=.returned (.bool c2)∧w'=w'')
  (h3:∀ w',Below w.heap.size w w'→Calls Tryz.prog 49 #[.slice Ab nb cb] w' fun e w''=>e=.returned (.bool c3)∧Below w'.heap.size w' w''∧w'.heap.size≤w''.heap.size)
  (h4:∀ w',Below w.heap.size w w'→Calls Tryz.prog 50 #[.slice Ab nb cb] w' fun e w''=>e=.returned (.int .i64 N)∧Below w'.heap.size w' w''∧w'.heap.size≤w''.heap.size)
  (h5:∀ w',Below w.heap.size w w'→Calls Tryz.prog 51 #[.slice Ab nb cb] w' fun e w''=>e=.returned (.int .i64 T)∧Below w'.heap.size w' w''∧w'.heap.size≤w''.heap.size) :
  Calls Tryz.prog 12 #[.agg #[.slice Aq m cq,.slice Ab nb cb]] w fun e w'=>e=.returned (.bool (pgR c1 c2 c3 N T m))∧Below w.heap.size w w'∧w.heap.size≤w'.heap.size:=by
 subst hc1
 subst hc2
 obtain ⟨w0,hw0⟩:∃ w0,w0=w.alloc (.cells #[.slice Aq m cq,.slice Ab nb cb] 27):=⟨_,rfl⟩
 have X0:=hD (show w0.heap[w.heap.size]?=some (.cells #[.slice Aq m cq,.slice Ab nb cb] 27 (0,0)) by rw[hw0];exact yac _ _)
 have b0:Below w.heap.size w w0:=by rw[hw0];exact Zq0
 have hs0:w.heap.size≤w0.heap.size:=b0.size
 obtain ⟨p0,p1⟩:=ybo (lay:=Below.refl _ _) X0.out
 have B0:=hD b0
 have HW:=hD hw0
 have H1:=hD h1
 have H2:=hD h2
 have H3:=hD h3
 have H4:=hD h4
 have H5:=hD h5
 clear b0 hw0 h1 h2 h3 h4 h5
 have HF:=hD (show pgR true false c3 N T m=false by simp [pgR])
 go_enter Tryz.func12,Tryz.ntmps12
 go_wp2_with fail
 rw[←HW.out]
 go_quiet (first|(go_at_call 47;exact Calls.quiet_of_same ((H1.out _).mono fun _ _ h=>⟨h.1,h.2.symm⟩))|(go_at_call 48;exact Calls.quiet_of_same ((H2.out _ (yaq B0.out _)).mono fun _ _ h=>⟨h.1,h.2.symm⟩)))
 go_wp2_with fail
 go_ret
 exact ⟨by rw[HF.out];rfl,yaq B0.out _,(yaq B0.out _).size⟩
theorem ypw (Aq:Option Addr) (m cq:Nat) (Ab:Option Addr) (nb cb:Nat) (w:World) (c1 c2 c3:Bool) (N T:Nat) (hm:m≤1048576) (hT0:T≤8388608) (hc1:c1=true) (hc2:c2=true) (hc3:c3=false)
  (h1:∀ w',Calls Tryz.prog 47 #[.int .i64 m,.int .i64 1,.int .i64 4] w' fun e w''=>e=.returned (.bool c1)∧w'=w'')
  (h2:∀ w',Below w.heap.size w w'→Calls Tryz.prog 48 #[.slice Aq m cq] w' fun e w''=>e=.returned (.bool c2)∧w'=w'')
  (h3:∀ w',Below w.heap.size w w'→Calls Tryz.prog 49 #[.slice Ab nb cb] w' fun e w''=>e=.returned (.bool c3)∧Below w'.heap.size w' w''∧w'.heap.size≤w''.heap.size)
  (h4:∀ w',Below w.heap.size w w'→Calls Tryz.prog 50 #[.slice Ab nb cb] w' fun e w''=>e=.returned (.int .i64 N)∧Below w'.heap.size w' w''∧w'.heap.size≤w''.heap.size)
  (h5:∀ w',Below w.heap.size w w'→Calls Tryz.prog 51 #[.slice Ab nb cb] w' fun e w''=>e=.returned (.int .i64 T)∧Below w'.heap.size w' w''∧w'.heap.size≤w''.heap.size) :
  Calls Tryz.prog 12 #[.agg #[.slice Aq m cq,.slice Ab nb cb]] w fun e w'=>e=.returned (.bool (pgR c1 c2 c3 N T m))∧Below w.heap.size w w'∧w.heap.size≤w'.heap.size:=by
 subst hc1
 subst hc2
 subst hc3
 obtain ⟨w0,hw0⟩:∃ w0,w0=w.alloc (.cells #[.slice Aq m cq,.slice Ab nb cb] 27):=⟨_,rfl⟩
 have X0:=hD (show w0.heap[w.heap.size]?=some (.cells #[.slice Aq m cq,.slice Ab nb cb] 27 (0,0)) by rw[hw0];exact yac _ _)
 have b0:Below w.heap.size w w0:=by rw[hw0];exact Zq0
 have hs0:w.heap.size≤w0.heap.size:=b0.size
 obtain ⟨p0,p1⟩:=ybo (lay:=Below.refl _ _) X0.out
 have B0:=hD b0
 have HW:=hD hw0
 have H1:=hD h1
 have H2:=hD h2
 have H3:=hD h3
 have H4:=hD h4
 have H5:=hD h5
 clear b0 hw0 h1 h2 h3 h4 h5
 have HF:=hD (show pgR true true false N T m=false by simp [pgR])
 go_enter Tryz.func12,Tryz.ntmps12
 go_wp2_with fail
 rw[←HW.out]
 first | (go_region_with (first | (go_at_call 47; (with_reducible refine (H1.out _).mono ?_); rintro e w' ⟨rfl, rfl⟩) | (go_at_call 48; (with_reducible refine (H2.out _ ?_).mono ?_); exact B0.out.drew; rintro e w' ⟨rfl, rfl⟩) | (go_at_call 49; (with_reducible refine (H3.out _ ?_).mono ?_); exact B0.out.drew; rintro e y3 ⟨rfl, d3, _⟩; have u3 := yhr d3; obtain ⟨a0, a1⟩ := ybo (lay := u3) X0.out))) | fail "no"
 all_goals (go_wp2_with fail;go_ret;exact ⟨by rw[HF.out];first|rfl|exact congrArg (fun b=>Ending.returned (Value.bool b)) HTw.out,B0.out.trans (u3.mono hs0),(B0.out.trans (u3.mono hs0)).size⟩)
theorem ypx (Aq:Option Addr) (m cq:Nat) (Ab:Option Addr) (nb cb:Nat) (w:World) (c1 c2 c3:Bool) (N T:Nat) (hm:m≤1048576) (hT0:T≤8388608) (hc1:c1=true) (hc2:c2=true) (hc3:c3=true) (hN:¬ N≤4)
  (h1:∀ w',Calls Tryz.prog 47 #[.int .i64 m,.int .i64 1,.int .i64 4] w' fun e w''=>e=.returned (.bool c1)∧w'=w'')
  (h2:∀ w',Below w.heap.size w w'→Calls Tryz.prog 48 #[.slice Aq m cq] w' fun e w''=>e=.returned (.bool c2)∧w'=w'')
  (h3:∀ w',Below w.heap.size w w'→Calls Tryz.prog 49 #[.slice Ab nb cb] w' fun e w''=>e=.returned (.bool c3)∧Below w'.heap.size w' w''∧w'.heap.size≤w''.heap.size)
  (h4:∀ w',Below w.heap.size w w'→Calls Tryz.prog 50 #[.slice Ab nb cb] w' fun e w''=>e=.returned (.int .i64 N)∧Below w'.heap.size w' w''∧w'.heap.size≤w''.heap.size)
  (h5:∀ w',Below w.heap.size w w'→Calls Tryz.prog 51 #[.slice Ab nb cb] w' fun e w''=>e=.returned (.int .i64 T)∧Below w'.heap.size w' w''∧w'.heap.size≤w''.heap.size) :
  Calls Tryz.prog 12 #[.agg #[.slice Aq m cq,.slice Ab nb cb]] w fun e w'=>e=.returned (.bool (pgR c1 c2 c3 N T m))∧Below w.heap.size w w'∧w.heap.size≤w'.heap.size:=by
 subst hc1
 subst hc2
 subst hc3
 have hNi:decide ((N:Int)≤4)=false:=by simp;omega
 have hNn:decide (N≤4)=false:=by simp;omega
 obtain ⟨w0,hw0⟩:∃ w0,w0=w.alloc (.cells #[.slice Aq m cq,.slice Ab nb cb] 27):=⟨_,rfl⟩
 have X0:=hD (show w0.heap[w.heap.size]?=some (.cells #[.slice Aq m cq,.slice Ab nb cb] 27 (0,0)) by rw[hw0];exact yac _ _)
 have b0:Below w.heap.size w w0:=by rw[hw0];exact Zq0
 have hs0:w.heap.size≤w0.heap.size:=b0.size
 obtain ⟨p0,p1⟩:=ybo (lay:=Below.refl _ _) X0.out
 have B0:=hD b0
 have HW:=hD hw0
 have H1:=hD h1
 have H2:=hD h2
 have H3:=hD h3
 have H4:=hD h4
 have H5:=hD h5
 clear b0 hw0 h1 h2 h3 h4 h5
 have HF:=hD (show pgR true true true N T m=false by simp [pgR,hN])
 go_enter Tryz.func12,Tryz.ntmps12
 go_wp2_with fail
 rw[←HW.out]
 first | (go_region_with (first | (go_at_call 47; (with_reducible refine (H1.out _).mono ?_); rintro e w' ⟨rfl, rfl⟩) | (go_at_call 48; (with_reducible refine (H2.out _ ?_).mono ?_); exact B0.out.drew; rintro e w' ⟨rfl, rfl⟩) | (go_at_call 49; (with_reducible refine (H3.out _ ?_).mono ?_); exact B0.out.drew; rintro e y3 ⟨rfl, d3, _⟩; have u3 := yhr d3; obtain ⟨a0, a1⟩ := ybo (lay := u3) X0.out) | (go_at_call 50; (with_reducible refine (H4.out _ ?_).mono ?_); exact B0.out.trans (u3.mono hs0); rintro e y4 ⟨rfl, d4, _⟩; have u4 := u3.trans (d4.mono u3.size); obtain ⟨a2, a3⟩ := ybo (lay := u4) X0.out))) | fail "no"
 all_goals (go_wp2_with fail;go_ret;exact ⟨by rw[HF.out];first|rfl|exact congrArg (fun b=>Ending.returned (Value.bool b)) HTw.out,B0.out.trans (u4.mono hs0),(B0.out.trans (u4.mono hs0)).size⟩)
theorem ypy (Aq:Option Addr) (m cq:Nat) (Ab:Option Addr) (nb cb:Nat) (w:World) (c1 c2 c3:Bool) (N T:Nat) (hm:m≤1048576) (hT0:T≤8388608) (hc1:c1=true) (hc2:c2=true) (hc3:c3=true) (hN:N≤4) (hT:¬ T+m+2≤160)
  (h1:∀ w',Calls Tryz.prog 47 #[.int .i64 m,.int .i64 1,.int .i64 4] w' fun e w''=>e=.returned (.bool c1)∧w'=w'')
  (h2:∀ w',Below w.heap.size w w'→Calls Tryz.prog 48 #[.slice Aq m cq] w' fun e w''=>e=.returned (.bool c2)∧w'=w'')
  (h3:∀ w',Below w.heap.size w w'→Calls Tryz.prog 49 #[.slice Ab nb cb] w' fun e w''=>e=.returned (.bool c3)∧Below w'.heap.size w' w''∧w'.heap.size≤w''.heap.size)
  (h4:∀ w',Below w.heap.size w w'→Calls Tryz.prog 50 #[.slice Ab nb cb] w' fun e w''=>e=.returned (.int .i64 N)∧Below w'.heap.size w' w''∧w'.heap.size≤w''.heap.size)
  (h5:∀ w',Below w.heap.size w w'→Calls Tryz.prog 51 #[.slice Ab nb cb] w' fun e w''=>e=.returned (.int .i64 T)∧Below w'.heap.size w' w''∧w'.heap.size≤w''.heap.size) :
  Calls Tryz.prog 12 #[.agg #[.slice Aq m cq,.slice Ab nb cb]] w fun e w'=>e=.returned (.bool (pgR c1 c2 c3 N T m))∧Below w.heap.size w w'∧w.heap.size≤w'.heap.size:=by
 subst hc1
 subst hc2
 subst hc3
 have hNi:decide ((N:Int)≤4)=true:=by simp;omega
 have hNn:decide (N≤4)=true:=by simp;omega
 have HTw:=hD (show decide (IntKind.i64.wrap (IntKind.i64.wrap ((T:Int)+(m:Int))+2)≤160)=false by rw[IntWalk.i64_in ((T:Int)+(m:Int)) Zq6,IntWalk.i64_in _ Zq6];simp;omega)
 have hTi:decide ((T:Int)+(m:Int)+2≤160)=false:=by simp;omega
 have hTj:decide ((T:Int)+(m:Int)≤158)=false:=by simp;omega
 obtain ⟨w0,hw0⟩:∃ w0,w0=w.alloc (.cells #[.slice Aq m cq,.slice Ab nb cb] 27):=⟨_,rfl⟩
 have X0:=hD (show w0.heap[w.heap.size]?=some (.cells #[.slice Aq m cq,.slice Ab nb cb] 27 (0,0)) by rw[hw0];exact yac _ _)
 have b0:Below w.heap.size w w0:=by rw[hw0];exact Zq0
 have hs0:w.heap.size≤w0.heap.size:=b0.size
 obtain ⟨p0,p1⟩:=ybo (lay:=Below.refl _ _) X0.out
 have B0:=hD b0
 have HW:=hD hw0
 have H1:=hD h1
 have H2:=hD h2
 have H3:=hD h3
 have H4:=hD h4
 have H5:=hD h5
 clear b0 hw0 h1 h2 h3 h4 h5
 have HF:=hD (show pgR true true true N T m=false by simp [pgR,hN,hT])
 go_enter Tryz.func12,Tryz.ntmps12
 go_wp2_with fail
 rw[←HW.out]
 first | (go_region_held3 (fun W => W.cell? ⟨w.heap.size, 0, none⟩ = some (.slice Aq m cq) ∧ W.cell? ⟨w.heap.size, 1, none⟩ = some (.slice Ab nb cb)) (first | exact ⟨p0, p1⟩ | exact ⟨a0, a1⟩ | exact ⟨a2, a3⟩ | exact ⟨a4, a5⟩) (first | (go_at_call 47; (with_reducible refine (H1.out _).mono ?_); rintro e w' ⟨rfl, rfl⟩) | (go_at_call 48; (with_reducible refine (H2.out _ ?_).mono ?_); exact B0.out.drew; rintro e w' ⟨rfl, rfl⟩) | (go_at_call 49; (with_reducible refine (H3.out _ ?_).mono ?_); exact B0.out.drew; rintro e y3 ⟨rfl, d3, _⟩; have u3 := yhr d3; obtain ⟨a0, a1⟩ := ybo (lay := u3) X0.out) | (go_at_call 50; (with_reducible refine (H4.out _ ?_).mono ?_); exact B0.out.trans (u3.mono hs0); rintro e y4 ⟨rfl, d4, _⟩; have u4 := u3.trans (d4.mono u3.size); obtain ⟨a2, a3⟩ := ybo (lay := u4) X0.out) | (go_at_call 51; (with_reducible refine (H5.out _ ?_).mono ?_); exact B0.out.trans (u4.mono hs0); rintro e y5 ⟨rfl, d5, _⟩; have u5 := u4.trans (d5.mono u4.size); obtain ⟨a4, a5⟩ := ybo (lay := u5) X0.out))) | fail "no"
 all_goals (go_wp2_with fail;go_ret;exact ⟨by rw[HF.out];first|rfl|exact congrArg (fun b=>Ending.returned (Value.bool b)) HTw.out,B0.out.trans (u5.mono hs0),(B0.out.trans (u5.mono hs0)).size⟩)
theorem ypz (Aq:Option Addr) (m cq:Nat) (Ab:Option Addr) (nb cb:Nat) (w:World) (c1 c2 c3:Bool) (N T:Nat) (hm:m≤1048576) (hT0:T≤8388608) (hc1:c1=true) (hc2:c2=true) (hc3:c3=true) (hN:N≤4) (hT:T+m+2≤160)
  (h1:∀ w',Calls Tryz.prog 47 #[.int .i64 m,.int .i64 1,.int .i64 4] w' fun e w''=>e=.returned (.bool c1)∧w'=w'')
  (h2:∀ w',Below w.heap.size w w'→Calls Tryz.prog 48 #[.slice Aq m cq] w' fun e w''=>e=.returned (.bool c2)∧w'=w'')
  (h3:∀ w',Below w.heap.size w w'→Calls Tryz.prog 49 #[.slice Ab nb cb] w' fun e w''=>e=.returned (.bool c3)∧Below w'.heap.size w' w''∧w'.heap.size≤w''.heap.size)
  (h4:∀ w',Below w.heap.size w w'→Calls Tryz.prog 50 #[.slice Ab nb cb] w' fun e w''=>e=.returned (.int .i64 N)∧Below w'.heap.size w' w''∧w'.heap.size≤w''.heap.size)
  (h5:∀ w',Below w.heap.size w w'→Calls Tryz.prog 51 #[.slice Ab nb cb] w' fun e w''=>e=.returned (.int .i64 T)∧Below w'.heap.size w' w''∧w'.heap.size≤w''.heap.size) :
  Calls Tryz.prog 12 #[.agg #[.slice Aq m cq,.slice Ab nb cb]] w fun e w'=>e=.returned (.bool (pgR c1 c2 c3 N T m))∧Below w.heap.size w w'∧w.heap.size≤w'.heap.size:=by
 subst hc1
 subst hc2
 subst hc3
 have hNi:decide ((N:Int)≤4)=true:=by simp;omega
 have hNn:decide (N≤4)=true:=by simp;omega
 have HTw:=hD (show decide (IntKind.i64.wrap (IntKind.i64.wrap ((T:Int)+(m:Int))+2)≤160)=true by rw[IntWalk.i64_in ((T:Int)+(m:Int)) Zq6,IntWalk.i64_in _ Zq6];simp;omega)
 have hTi:decide ((T:Int)+(m:Int)+2≤160)=true:=by simp;omega
 have hTj:decide ((T:Int)+(m:Int)≤158)=true:=by simp;omega
 obtain ⟨w0,hw0⟩:∃ w0,w0=w.alloc (.cells #[.slice Aq m cq,.slice Ab nb cb] 27):=⟨_,rfl⟩
 have X0:=hD (show w0.heap[w.heap.size]?=some (.cells #[.slice Aq m cq,.slice Ab nb cb] 27 (0,0)) by rw[hw0];exact yac _ _)
 have b0:Below w.heap.size w w0:=by rw[hw0];exact Zq0
 have hs0:w.heap.size≤w0.heap.size:=b0.size
 obtain ⟨p0,p1⟩:=ybo (lay:=Below.refl _ _) X0.out
 have B0:=hD b0
 have HW:=hD hw0
 have H1:=hD h1
 have H2:=hD h2
 have H3:=hD h3
 have H4:=hD h4
 have H5:=hD h5
 clear b0 hw0 h1 h2 h3 h4 h5
 have HF:=hD (show pgR true true true N T m=true by simp [pgR,hN,hT])
 go_enter Tryz.func12,Tryz.ntmps12
 go_wp2_with fail
 rw[←HW.out]
 first | (go_region_held3 (fun W => W.cell? ⟨w.heap.size, 0, none⟩ = some (.slice Aq m cq) ∧ W.cell? ⟨w.heap.size, 1, none⟩ = some (.slice Ab nb cb)) (first | exact ⟨p0, p1⟩ | exact ⟨a0, a1⟩ | exact ⟨a2, a3⟩ | exact ⟨a4, a5⟩) (first | (go_at_call 47; (with_reducible refine (H1.out _).mono ?_); rintro e w' ⟨rfl, rfl⟩) | (go_at_call 48; (with_reducible refine (H2.out _ ?_).mono ?_); exact B0.out.drew; rintro e w' ⟨rfl, rfl⟩) | (go_at_call 49; (with_reducible refine (H3.out _ ?_).mono ?_); exact B0.out.drew; rintro e y3 ⟨rfl, d3, _⟩; have u3 := yhr d3; obtain ⟨a0, a1⟩ := ybo (lay := u3) X0.out) | (go_at_call 50; (with_reducible refine (H4.out _ ?_).mono ?_); exact B0.out.trans (u3.mono hs0); rintro e y4 ⟨rfl, d4, _⟩; have u4 := u3.trans (d4.mono u3.size); obtain ⟨a2, a3⟩ := ybo (lay := u4) X0.out) | (go_at_call 51; (with_reducible refine (H5.out _ ?_).mono ?_); exact B0.out.trans (u4.mono hs0); rintro e y5 ⟨rfl, d5, _⟩; have u5 := u4.trans (d5.mono u4.size); obtain ⟨a4, a5⟩ := ybo (lay := u5) X0.out))) | fail "no"
 all_goals (go_wp2_with fail;go_ret;exact ⟨by rw[HF.out];first|rfl|exact congrArg (fun b=>Ending.returned (Value.bool b)) HTw.out,B0.out.trans (u5.mono hs0),(B0.out.trans (u5.mono hs0)).size⟩)
theorem yel (d lo lo':Nat) (Aq:Option Addr) (cq:Nat) (qs:List ByteArray) (bd:List (Tr d)) (Ab:Option Addr) (nb cb:Nat) (w:World) (hra:RdL w lo 1 Aq qs.length (strs qs)) (hrb:RdT w lo' d Ab nb bd) (hm:qs.length≤1048576) (hz:szS qs≤1048576) (hsz:szT d bd≤1048576) :
  Calls Tryz.prog 12 #[.agg #[.slice Aq qs.length cq,.slice Ab nb cb]] w fun e w'=>e=.returned (.bool (yc7 d qs bd))∧Below w.heap.size w w'∧w.heap.size≤w'.heap.size:=by
 have h1:∀ w',Calls Tryz.prog 47 #[.int .i64 qs.length,.int .i64 1,.int .i64 4] w' fun e w''=>e=.returned (.bool (inB qs.length 1 4))∧w'=w'':=fun w'=>yag _ _ _ _
 have h2:∀ w',Below w.heap.size w w'→Calls Tryz.prog 48 #[.slice Aq qs.length cq] w' fun e w''=>e=.returned (.bool (allW qs))∧w'=w'':=fun w' hb=>yaz _ _ _ qs _ (hra.rd.below hb) rfl Zq6 hz
 have h3:∀ w',Below w.heap.size w w'→Calls Tryz.prog 49 #[.slice Ab nb cb] w' fun e w''=>e=.returned (.bool (ya7 d bd))∧Below w'.heap.size w' w''∧w'.heap.size≤w''.heap.size:=fun w' hb=>ypt d _ _ _ _ _ _ (hrb.below hb) hsz
 have h4:∀ w',Below w.heap.size w w'→Calls Tryz.prog 50 #[.slice Ab nb cb] w' fun e w''=>e=.returned (.int .i64 (ybf d bd))∧Below w'.heap.size w' w''∧w'.heap.size≤w''.heap.size:=fun w' hb=>yi1 d _ _ _ _ _ _ (hrb.below hb) hsz
 have h5:∀ w',Below w.heap.size w w'→Calls Tryz.prog 51 #[.slice Ab nb cb] w' fun e w''=>e=.returned (.int .i64 (tokT d bd))∧Below w'.heap.size w' w''∧w'.heap.size≤w''.heap.size:=fun w' hb=>yh0 d _ _ _ _ _ _ (hrb.below hb) hsz
 have hT:=yg5 d bd
 unfold yc7
 cases hc1:inB qs.length 1 4
 ·exact ypu _ _ _ _ _ _ w _ _ _ _ _ hm Zq6 rfl (hc1▸h1) h2 h3 h4 h5
 cases hc2:allW qs
 ·exact ypv _ _ _ _ _ _ w _ _ _ _ _ hm Zq6 rfl rfl (hc1▸h1) (hc2▸h2) h3 h4 h5
 cases hc3:ya7 d bd
 ·exact ypw _ _ _ _ _ _ w _ _ _ _ _ hm Zq6 rfl rfl rfl (hc1▸h1) (hc2▸h2) (hc3▸h3) h4 h5
 by_cases hN:ybf d bd≤4
 ·by_cases hT':tokT d bd+qs.length+2≤160
  ·exact ypz _ _ _ _ _ _ w _ _ _ _ _ hm Zq6 rfl rfl rfl hN hT' (hc1▸h1) (hc2▸h2) (hc3▸h3) h4 h5
  ·exact ypy _ _ _ _ _ _ w _ _ _ _ _ hm Zq6 rfl rfl rfl hN hT' (hc1▸h1) (hc2▸h2) (hc3▸h3) h4 h5
 ·exact ypx _ _ _ _ _ _ w _ _ _ _ _ hm Zq6 rfl rfl rfl hN (hc1▸h1) (hc2▸h2) (hc3▸h3) h4 h5
end Go.Proofs.YthkbckkghnbonaaGreatDoor
