/- What the calls that this law reaches answer, part 12 of 16. -/
import Derived.Test.YthkbckkghnbonaaGreatDoorJElaborate11
import Derived.Test.YthkbckkghnbonaaGreatDoorJElaborate5
import Derived.Test.YthkbckkghnbonaaGreatDoorJElaborate1
import Derived.Test.YthkbckkghnbonaaGreatDoorJElaborate3
set_option maxRecDepth 100000
set_option maxHeartbeats 16000000
set_option linter.unusedVariables false
namespace Go.Proofs.YthkbckkghnbonaaGreatDoor
open Go.RowKit
set_option linter.unusedVariables false
def allW (l:List ByteArray):Bool:=l.all wordOk
def vR3 (k:Int) (word:ByteArray) (args:List ByteArray) (count:Int) (nb:Nat) (V:Bool):Bool:=headV k word args.length count nb&&(args.all wordOk&&V)
section
variable {k:Int} {word:ByteArray} {args:List ByteArray} {count:Int} {nb:Nat} {V:Bool}
theorem vR3_h (h:headV k word args.length count nb=false):vR3 k word args count nb V=false:=by simp [vR3,h]
theorem vR3_w (h:args.all wordOk=false):vR3 k word args count nb V=false:=by simp [vR3,h]
theorem vR3_t (h1:headV k word args.length count nb=true) (h2:args.all wordOk=true):vR3 k word args count nb V=V:=by rw[vR3,h1,h2];simp
end
theorem l17Words_any (A:Option Addr) (n c:Nat) (l:List ByteArray) (w:World) (h:Rd w 1 A n (strs l)) (hl:l.length=n) (hn:n≤1099511627776) (hz:szS l≤1048576) :
  Calls Tryz.prog 48 #[.slice A n c] w fun e w'=>e=.returned (.bool (allW l))∧w=w':=by
 have H:=hD h
 have HL:=hD hl
 clear h hl
 go_enter Tryz.func48,Tryz.ntmps48
 go_wp2
 go_loop [3] (fun i=>∃ t:Nat,t≤n∧i=.int .i64 t∧allW (l.take t)=true) (fun i=>n - (intOf i).toNat)
 case atStart=>exact ⟨0,Nat.zero_le _,rfl,rfl⟩
 case round =>
  obtain ⟨t,ht,rfl,hok⟩:=hrel
  have HOK:=hD hok
  clear hok
  by_cases hlt:t<n
  ·have htl:t<l.length:=by rw[HL.out];exact hlt
   obtain ⟨s,hs⟩:∃ s,l[t]?=some s:=⟨_,List.getElem?_eq_getElem htl⟩
   obtain ⟨b,off,rfl,_,hc⟩:=H.out.2 Zq6
   have q0:=hc t _ (strs_at hs)
   have hsz:=szS_mem hs
   have HS:=hD hs
   have hs63:s.size≤9223372036854775807:=by omega
   clear hc hs htl hsz
   cases hw:wordOk s
   ·have HF:=hD (show allW l=false by rw[allW,List.all_eq_false];exact ⟨s,List.mem_of_getElem? HS.out,by simp [hw]⟩)
    go_wp2_with (go_at_call 104;refine(IsValidWord_spec _ _ hs63).mono ?_;rintro e w' ⟨rfl,rfl⟩)
    go_ret
    exact ⟨by rw[HF.out];rfl,rfl⟩
   ·have HN:=hD (show allW (l.take (t+1))=true by
     have h:=HOK.out
     rw[allW] at h ⊢
     rw[all_take _ HS.out,h,hw]
     rfl)
    go_wp2_with (go_at_call 104;refine(IsValidWord_spec _ _ hs63).mono ?_;rintro e w' ⟨rfl,rfl⟩)
    go_round
    case rel=>exact ⟨t+1,by omega,by go_num,HN.out⟩
    case measure=>simp [intOf];omega
  ·obtain rfl:t=n:=by omega
   have HF:Hid (allW l=true):=by
    have h:=HOK.out
    rw[List.take_of_length_le (by rw[HL.out];exact Nat.le_refl _)] at h
    exact h
   go_wp2_with fail
   go_ret
   exact ⟨by rw[HF.out];rfl,rfl⟩
theorem vst_spec_1 (word:ByteArray) (args:List ByteArray) (count:Int) (Aa:Option Addr) (ca:Nat) (Ab:Option Addr) (nb cb:Nat) (w:World) (V:Bool) (hra:Rd w 1 Aa args.length (strs args)) (hz:szS args≤1048576) (hl:args.length≤1048576) (hn:nb≤1048576)
  (hall:∀ w',Below w.heap.size w w'→Calls Tryz.prog 49 #[.slice Ab nb cb] w' fun e w''=>e=.returned (.bool V)∧Below w'.heap.size w' w''∧w'.heap.size≤w''.heap.size) :
  Calls Tryz.prog 105 #[.agg #[.int .i64 1,.string word,.slice Aa args.length ca,.int .i64 count,.slice Ab nb cb]] w fun e w'=>e=.returned (.bool (vR3 1 word args count nb V))∧Below w.heap.size w w'∧w.heap.size≤w'.heap.size:=by
 obtain ⟨m,hm0⟩:∃ m,m=args.length:=⟨_,rfl⟩
 rw[←hm0] at hl hra ⊢
 have HM:=hD hm0
 have HRA:=hD hra
 have HALL:=hD hall
 clear hra hall hm0
 have hB:hasB 1=false:=rfl
 have hIN:inB 1 1 7=true:=rfl
 have HAW:Hid (allW args=args.all wordOk):=hD rfl
 obtain ⟨w0,hw0⟩:∃ w0,w0=w.alloc (.cells #[.int .i64 1,.string word,.slice Aa m ca,.int .i64 count,.slice Ab nb cb] 66):=⟨_,rfl⟩
 have X0:=hD (show w0.heap[w.heap.size]?=some (.cells #[.int .i64 1,.string word,.slice Aa m ca,.int .i64 count,.slice Ab nb cb] 66 (0,0)) by rw[hw0];exact boxed1_0 _ _)
 have b0:Below w.heap.size w w0:=by rw[hw0];exact Zq0
 have hs0:w.heap.size≤w0.heap.size:=b0.size
 have B0:=hD b0
 have HW:=hD hw0
 clear b0 hw0
 by_cases hm:(m:Int)=(nargs 1 word:Int)
 ·have e1:((m:Int) != (nargs 1 word:Int))=false:=by simpa using hm
  have hmn:m=ar (gkind word):=by have:nargs 1 word=ar (gkind word):=rfl;omega
  have HMN:=hD hmn
  clear hm hmn
  cases hwo:args.all wordOk
  ·have HWO:=hD hwo
   have hAW:=HAW.out.trans hwo
   clear hwo
   have HF:=hD (vR3_w (k:=1) (word:=word) (args:=args) (count:=count) (nb:=nb) (V:=V) HWO.out)
   go_enter Tryz.func105,Tryz.ntmps105
   go_wp2_with fail
   rw[←HW.out]
   refine(l17Args_any _ _ _ _ _ _ ⟨_,_,_,rfl⟩ ⟨_,_,_,rfl⟩).mono ?_
   rintro e w1 ⟨rfl,b1,s1⟩
   obtain ⟨p0,p1,p2,p3,p4⟩:=boxcells5 (lay:=b1) X0.out
   have hB1:Below w.heap.size w w1:=B0.out.trans (b1.mono hs0)
   have hS1:w.heap.size≤w1.heap.size:=hB1.size
   have HR1:=hD (HRA.out.below hB1)
   have HBB:=hD hB1
   clear hB1
   go_wp2_with (first|(go_at_call 47;refine(l1In_any _ _ _ _).mono ?_;rintro e w' ⟨rfl,rfl⟩)|(go_at_call 48;refine(l17Words_any _ _ _ args _ (by exact HR1.out) HM.out.symm Zq6 hz).mono ?_;rintro e w' ⟨rfl,rfl⟩))
   go_ret
   exact ⟨by rw[HF.out];rfl,HBB.out,hS1⟩
  ·have HWO:=hD hwo
   have hAW:=HAW.out.trans hwo
   clear hwo
   by_cases hb:nb=0
   ·have e3:decide (0<(nb:Int))=false:=by simp;omega
    have e3n:decide (0<nb)=false:=by simp;omega
    have HNB:=hD hb
    clear hb
    by_cases hw:word.toList=[]
    ·have e2:word.toList.isEmpty=true:=by simp [hw]
     have HWE:=hD hw
     have HGE:=hD (show ar (gkind word)=0 by rw[gkind_empty hw];rfl)
     clear hw
     have HF:=hD (vR3_h (k:=1) (word:=word) (args:=args) (count:=count) (nb:=nb) (V:=V) (by rw[←HM.out];simp [headV,nargs,okCount,hasB,inB,HMN.out,HNB.out,HWE.out,HGE.out]))
     go_enter Tryz.func105,Tryz.ntmps105
     go_wp2_with fail
     rw[←HW.out]
     refine(l17Args_any _ _ _ _ _ _ ⟨_,_,_,rfl⟩ ⟨_,_,_,rfl⟩).mono ?_
     rintro e w1 ⟨rfl,b1,s1⟩
     obtain ⟨p0,p1,p2,p3,p4⟩:=boxcells5 (lay:=b1) X0.out
     have hB1:Below w.heap.size w w1:=B0.out.trans (b1.mono hs0)
     have hS1:w.heap.size≤w1.heap.size:=hB1.size
     have HR1:=hD (HRA.out.below hB1)
     have HBB:=hD hB1
     clear hB1
     go_wp2_with (first|(go_at_call 47;refine(l1In_any _ _ _ _).mono ?_;rintro e w' ⟨rfl,rfl⟩)|(go_at_call 48;refine(l17Words_any _ _ _ args _ (by exact HR1.out) HM.out.symm Zq6 hz).mono ?_;rintro e w' ⟨rfl,rfl⟩))
     go_ret
     exact ⟨by rw[HF.out];rfl,HBB.out,hS1⟩
    ·have e2:word.toList.isEmpty=false:=by rw[List.isEmpty_eq_false_iff];exact hw
     have HWE:=hD hw
     clear hw
     by_cases g0:nargs 1 word=0
     ·have e0:((nargs 1 word:Int)==0)=true:=by rw[g0];rfl
      have HG0:=hD (show ar (gkind word)=0 from g0)
      clear g0
      have HF:=hD (vR3_h (k:=1) (word:=word) (args:=args) (count:=count) (nb:=nb) (V:=V) (by rw[←HM.out];simp [headV,nargs,okCount,hasB,inB,HG0.out]))
      go_enter Tryz.func105,Tryz.ntmps105
      go_wp2_with fail
      rw[←HW.out]
      refine(l17Args_any _ _ _ _ _ _ ⟨_,_,_,rfl⟩ ⟨_,_,_,rfl⟩).mono ?_
      rintro e w1 ⟨rfl,b1,s1⟩
      obtain ⟨p0,p1,p2,p3,p4⟩:=boxcells5 (lay:=b1) X0.out
      have hB1:Below w.heap.size w w1:=B0.out.trans (b1.mono hs0)
      have hS1:w.heap.size≤w1.heap.size:=hB1.size
      have HR1:=hD (HRA.out.below hB1)
      have HBB:=hD hB1
      clear hB1
      go_wp2_with (first|(go_at_call 47;refine(l1In_any _ _ _ _).mono ?_;rintro e w' ⟨rfl,rfl⟩)|(go_at_call 48;refine(l17Words_any _ _ _ args _ (by exact HR1.out) HM.out.symm Zq6 hz).mono ?_;rintro e w' ⟨rfl,rfl⟩))
      go_ret
      exact ⟨by rw[HF.out];rfl,HBB.out,hS1⟩
     ·have e0:((nargs 1 word:Int)==0)=false:=by rw[beq_eq_false_iff_ne];omega
      have HGW:=hD (show ar (gkind word)≠0 from g0)
      clear g0
      by_cases hc:count=0
      ·subst hc
       have HH:=hD (show headV 1 word args.length 0 nb=true by rw[←HM.out];simp [headV,nargs,okCount,hasB,inB,HMN.out,HNB.out,HWE.out,HGW.out])
       have HF:=hD (vR3_t (V:=V) HH.out HWO.out)
       go_enter Tryz.func105,Tryz.ntmps105
       go_wp2_with fail
       rw[←HW.out]
       refine(l17Args_any _ _ _ _ _ _ ⟨_,_,_,rfl⟩ ⟨_,_,_,rfl⟩).mono ?_
       rintro e w1 ⟨rfl,b1,s1⟩
       obtain ⟨p0,p1,p2,p3,p4⟩:=boxcells5 (lay:=b1) X0.out
       have hB1:Below w.heap.size w w1:=B0.out.trans (b1.mono hs0)
       have hS1:w.heap.size≤w1.heap.size:=hB1.size
       have HR1:=hD (HRA.out.below hB1)
       have HBB:=hD hB1
       clear hB1
       go_wp2_with (first|(go_at_call 47;refine(l1In_any _ _ _ _).mono ?_;rintro e w' ⟨rfl,rfl⟩)|(go_at_call 48;refine(l17Words_any _ _ _ args _ (by exact HR1.out) HM.out.symm Zq6 hz).mono ?_;rintro e w' ⟨rfl,rfl⟩))
       refine(HALL.out _ HBB.out).mono ?_
       rintro e w2 ⟨rfl,b2,s2⟩
       go_wp2_with fail
       go_ret
       exact ⟨by rw[HF.out];rfl,HBB.out.trans (b2.mono hS1),by omega⟩
      ·have e4:(count != 0)=true:=by rw[bne_iff_ne];exact hc
       have HF:=hD (vR3_h (k:=1) (word:=word) (args:=args) (count:=count) (nb:=nb) (V:=V) (by rw[←HM.out];simp [headV,nargs,okCount,hasB,inB,HMN.out,HNB.out,HWE.out,HGW.out,hc]))
       go_enter Tryz.func105,Tryz.ntmps105
       go_wp2_with fail
       rw[←HW.out]
       refine(l17Args_any _ _ _ _ _ _ ⟨_,_,_,rfl⟩ ⟨_,_,_,rfl⟩).mono ?_
       rintro e w1 ⟨rfl,b1,s1⟩
       obtain ⟨p0,p1,p2,p3,p4⟩:=boxcells5 (lay:=b1) X0.out
       have hB1:Below w.heap.size w w1:=B0.out.trans (b1.mono hs0)
       have hS1:w.heap.size≤w1.heap.size:=hB1.size
       have HR1:=hD (HRA.out.below hB1)
       have HBB:=hD hB1
       clear hB1
       go_wp2_with (first|(go_at_call 47;refine(l1In_any _ _ _ _).mono ?_;rintro e w' ⟨rfl,rfl⟩)|(go_at_call 48;refine(l17Words_any _ _ _ args _ (by exact HR1.out) HM.out.symm Zq6 hz).mono ?_;rintro e w' ⟨rfl,rfl⟩))
       go_ret
       exact ⟨by rw[HF.out];rfl,HBB.out,hS1⟩
   ·have e3:decide (0<(nb:Int))=true:=by simp;omega
    have e3n:decide (0<nb)=true:=by simp;omega
    have HNB:=hD hb
    clear hb
    have HF:=hD (vR3_h (k:=1) (word:=word) (args:=args) (count:=count) (nb:=nb) (V:=V) (by rw[←HM.out];simp [headV,nargs,okCount,hasB,inB,HNB.out]))
    go_enter Tryz.func105,Tryz.ntmps105
    go_wp2_with fail
    rw[←HW.out]
    refine(l17Args_any _ _ _ _ _ _ ⟨_,_,_,rfl⟩ ⟨_,_,_,rfl⟩).mono ?_
    rintro e w1 ⟨rfl,b1,s1⟩
    obtain ⟨p0,p1,p2,p3,p4⟩:=boxcells5 (lay:=b1) X0.out
    have hB1:Below w.heap.size w w1:=B0.out.trans (b1.mono hs0)
    have hS1:w.heap.size≤w1.heap.size:=hB1.size
    have HR1:=hD (HRA.out.below hB1)
    have HBB:=hD hB1
    clear hB1
    go_wp2_with (first|(go_at_call 47;refine(l1In_any _ _ _ _).mono ?_;rintro e w' ⟨rfl,rfl⟩)|(go_at_call 48;refine(l17Words_any _ _ _ args _ (by exact HR1.out) HM.out.symm Zq6 hz).mono ?_;rintro e w' ⟨rfl,rfl⟩))
    go_ret
    exact ⟨by rw[HF.out];rfl,HBB.out,hS1⟩
 ·have e1:((m:Int) != (nargs 1 word:Int))=true:=by rw[bne_iff_ne];exact hm
  have hmn:m≠ar (gkind word):=by have:nargs 1 word=ar (gkind word):=rfl;omega
  have HMN:=hD hmn
  clear hm hmn
  have HF:=hD (vR3_h (k:=1) (word:=word) (args:=args) (count:=count) (nb:=nb) (V:=V) (by rw[←HM.out];simp [headV,nargs,okCount,hasB,inB,HMN.out]))
  go_enter Tryz.func105,Tryz.ntmps105
  go_wp2_with fail
  rw[←HW.out]
  refine(l17Args_any _ _ _ _ _ _ ⟨_,_,_,rfl⟩ ⟨_,_,_,rfl⟩).mono ?_
  rintro e w1 ⟨rfl,b1,s1⟩
  obtain ⟨p0,p1,p2,p3,p4⟩:=boxcells5 (lay:=b1) X0.out
  have hB1:Below w.heap.size w w1:=B0.out.trans (b1.mono hs0)
  have hS1:w.heap.size≤w1.heap.size:=hB1.size
  have HR1:=hD (HRA.out.below hB1)
  have HBB:=hD hB1
  clear hB1
  go_wp2_with (first|(go_at_call 47;refine(l1In_any _ _ _ _).mono ?_;rintro e w' ⟨rfl,rfl⟩)|(go_at_call 48;refine(l17Words_any _ _ _ args _ (by exact HR1.out) HM.out.symm Zq6 hz).mono ?_;rintro e w' ⟨rfl,rfl⟩))
  go_ret
  exact ⟨by rw[HF.out];rfl,HBB.out,hS1⟩
theorem vst_spec_2 (word:ByteArray) (args:List ByteArray) (count:Int) (Aa:Option Addr) (ca:Nat) (Ab:Option Addr) (nb cb:Nat) (w:World) (V:Bool) (hra:Rd w 1 Aa args.length (strs args)) (hz:szS args≤1048576) (hl:args.length≤1048576) (hn:nb≤1048576)
  (hall:∀ w',Below w.heap.size w w'→Calls Tryz.prog 49 #[.slice Ab nb cb] w' fun e w''=>e=.returned (.bool V)∧Below w'.heap.size w' w''∧w'.heap.size≤w''.heap.size) :
  Calls Tryz.prog 105 #[.agg #[.int .i64 2,.string word,.slice Aa args.length ca,.int .i64 count,.slice Ab nb cb]] w fun e w'=>e=.returned (.bool (vR3 2 word args count nb V))∧Below w.heap.size w w'∧w.heap.size≤w'.heap.size:=by
 obtain ⟨m,hm0⟩:∃ m,m=args.length:=⟨_,rfl⟩
 rw[←hm0] at hl hra ⊢
 have HM:=hD hm0
 have HRA:=hD hra
 have HALL:=hD hall
 clear hra hall hm0
 have hB:hasB 2=true:=rfl
 have hIN:inB 2 1 7=true:=rfl
 have HAW:Hid (allW args=args.all wordOk):=hD rfl
 obtain ⟨w0,hw0⟩:∃ w0,w0=w.alloc (.cells #[.int .i64 2,.string word,.slice Aa m ca,.int .i64 count,.slice Ab nb cb] 66):=⟨_,rfl⟩
 have X0:=hD (show w0.heap[w.heap.size]?=some (.cells #[.int .i64 2,.string word,.slice Aa m ca,.int .i64 count,.slice Ab nb cb] 66 (0,0)) by rw[hw0];exact boxed1_0 _ _)
 have b0:Below w.heap.size w w0:=by rw[hw0];exact Zq0
 have hs0:w.heap.size≤w0.heap.size:=b0.size
 have B0:=hD b0
 have HW:=hD hw0
 clear b0 hw0
 by_cases hm:m=0
 ·subst hm
  have e1:((0:Int) != (nargs 2 word:Int))=false:=rfl
  cases hwo:args.all wordOk
  ·have HWO:=hD hwo
   have hAW:=HAW.out.trans hwo
   clear hwo
   have HF:=hD (vR3_w (k:=2) (word:=word) (args:=args) (count:=count) (nb:=nb) (V:=V) HWO.out)
   go_enter Tryz.func105,Tryz.ntmps105
   go_wp2_with fail
   rw[←HW.out]
   refine(l17Args_any _ _ _ _ _ _ ⟨_,_,_,rfl⟩ ⟨_,_,_,rfl⟩).mono ?_
   rintro e w1 ⟨rfl,b1,s1⟩
   obtain ⟨p0,p1,p2,p3,p4⟩:=boxcells5 (lay:=b1) X0.out
   have hB1:Below w.heap.size w w1:=B0.out.trans (b1.mono hs0)
   have hS1:w.heap.size≤w1.heap.size:=hB1.size
   have HR1:=hD (HRA.out.below hB1)
   have HBB:=hD hB1
   clear hB1
   go_wp2_with (first|(go_at_call 47;refine(l1In_any _ _ _ _).mono ?_;rintro e w' ⟨rfl,rfl⟩)|(go_at_call 48;refine(l17Words_any _ _ _ args _ (by exact HR1.out) HM.out.symm Zq6 hz).mono ?_;rintro e w' ⟨rfl,rfl⟩))
   go_ret
   exact ⟨by rw[HF.out];rfl,HBB.out,hS1⟩
  ·have HWO:=hD hwo
   have hAW:=HAW.out.trans hwo
   clear hwo
   by_cases hw:word.toList=[]
   ·have e2:word.toList.isEmpty=true:=by simp [hw]
    have HWE:=hD hw
    clear hw
    cases hc:inB count 1 9
    ·have HC9:=hD (show ¬ (1≤count∧count≤9) from by simpa [inB] using hc)
     have HF:=hD (vR3_h (k:=2) (word:=word) (args:=args) (count:=count) (nb:=nb) (V:=V) (by rw[←HM.out];simp [headV,nargs,okCount,hasB,inB,HWE.out,HC9.out]))
     go_enter Tryz.func105,Tryz.ntmps105
     go_wp2_with fail
     rw[←HW.out]
     refine(l17Args_any _ _ _ _ _ _ ⟨_,_,_,rfl⟩ ⟨_,_,_,rfl⟩).mono ?_
     rintro e w1 ⟨rfl,b1,s1⟩
     obtain ⟨p0,p1,p2,p3,p4⟩:=boxcells5 (lay:=b1) X0.out
     have hB1:Below w.heap.size w w1:=B0.out.trans (b1.mono hs0)
     have hS1:w.heap.size≤w1.heap.size:=hB1.size
     have HR1:=hD (HRA.out.below hB1)
     have HBB:=hD hB1
     clear hB1
     go_wp2_with (first|(go_at_call 47;refine(l1In_any _ _ _ _).mono ?_;rintro e w' ⟨rfl,rfl⟩)|(go_at_call 48;refine(l17Words_any _ _ _ args _ (by exact HR1.out) HM.out.symm Zq6 hz).mono ?_;rintro e w' ⟨rfl,rfl⟩))
     go_ret
     exact ⟨by rw[HF.out];rfl,HBB.out,hS1⟩
    ·have HC9:=hD (show 1≤count∧count≤9 from by simpa [inB] using hc)
     have HH:=hD (show headV 2 word args.length count nb=true by rw[←HM.out];simp [headV,nargs,okCount,hasB,inB,HWE.out,HC9.out])
     have HF:=hD (vR3_t (V:=V) HH.out HWO.out)
     go_enter Tryz.func105,Tryz.ntmps105
     go_wp2_with fail
     rw[←HW.out]
     refine(l17Args_any _ _ _ _ _ _ ⟨_,_,_,rfl⟩ ⟨_,_,_,rfl⟩).mono ?_
     rintro e w1 ⟨rfl,b1,s1⟩
     obtain ⟨p0,p1,p2,p3,p4⟩:=boxcells5 (lay:=b1) X0.out
     have hB1:Below w.heap.size w w1:=B0.out.trans (b1.mono hs0)
     have hS1:w.heap.size≤w1.heap.size:=hB1.size
     have HR1:=hD (HRA.out.below hB1)
     have HBB:=hD hB1
     clear hB1
     go_wp2_with (first|(go_at_call 47;refine(l1In_any _ _ _ _).mono ?_;rintro e w' ⟨rfl,rfl⟩)|(go_at_call 48;refine(l17Words_any _ _ _ args _ (by exact HR1.out) HM.out.symm Zq6 hz).mono ?_;rintro e w' ⟨rfl,rfl⟩))
     refine(HALL.out _ HBB.out).mono ?_
     rintro e w2 ⟨rfl,b2,s2⟩
     go_wp2_with fail
     go_ret
     exact ⟨by rw[HF.out];rfl,HBB.out.trans (b2.mono hS1),by omega⟩
   ·have e2:word.toList.isEmpty=false:=by rw[List.isEmpty_eq_false_iff];exact hw
    have HWE:=hD hw
    clear hw
    have HF:=hD (vR3_h (k:=2) (word:=word) (args:=args) (count:=count) (nb:=nb) (V:=V) (by rw[←HM.out];simp [headV,nargs,okCount,hasB,inB,HWE.out]))
    go_enter Tryz.func105,Tryz.ntmps105
    go_wp2_with fail
    rw[←HW.out]
    refine(l17Args_any _ _ _ _ _ _ ⟨_,_,_,rfl⟩ ⟨_,_,_,rfl⟩).mono ?_
    rintro e w1 ⟨rfl,b1,s1⟩
    obtain ⟨p0,p1,p2,p3,p4⟩:=boxcells5 (lay:=b1) X0.out
    have hB1:Below w.heap.size w w1:=B0.out.trans (b1.mono hs0)
    have hS1:w.heap.size≤w1.heap.size:=hB1.size
    have HR1:=hD (HRA.out.below hB1)
    have HBB:=hD hB1
    clear hB1
    go_wp2_with (first|(go_at_call 47;refine(l1In_any _ _ _ _).mono ?_;rintro e w' ⟨rfl,rfl⟩)|(go_at_call 48;refine(l17Words_any _ _ _ args _ (by exact HR1.out) HM.out.symm Zq6 hz).mono ?_;rintro e w' ⟨rfl,rfl⟩))
    go_ret
    exact ⟨by rw[HF.out];rfl,HBB.out,hS1⟩
 ·have e1:((m:Int) != (nargs 2 word:Int))=true:=by rw[bne_iff_ne];have:nargs 2 word=0:=rfl;omega
  have HF:=hD (vR3_h (k:=2) (word:=word) (args:=args) (count:=count) (nb:=nb) (V:=V) (by rw[←HM.out];simp [headV,nargs,okCount,hasB,inB,hm]))
  go_enter Tryz.func105,Tryz.ntmps105
  go_wp2_with fail
  rw[←HW.out]
  refine(l17Args_any _ _ _ _ _ _ ⟨_,_,_,rfl⟩ ⟨_,_,_,rfl⟩).mono ?_
  rintro e w1 ⟨rfl,b1,s1⟩
  obtain ⟨p0,p1,p2,p3,p4⟩:=boxcells5 (lay:=b1) X0.out
  have hB1:Below w.heap.size w w1:=B0.out.trans (b1.mono hs0)
  have hS1:w.heap.size≤w1.heap.size:=hB1.size
  have HR1:=hD (HRA.out.below hB1)
  have HBB:=hD hB1
  clear hB1
  go_wp2_with (first|(go_at_call 47;refine(l1In_any _ _ _ _).mono ?_;rintro e w' ⟨rfl,rfl⟩)|(go_at_call 48;refine(l17Words_any _ _ _ args _ (by exact HR1.out) HM.out.symm Zq6 hz).mono ?_;rintro e w' ⟨rfl,rfl⟩))
  go_ret
  exact ⟨by rw[HF.out];rfl,HBB.out,hS1⟩
theorem vst_spec_3 (word:ByteArray) (args:List ByteArray) (count:Int) (Aa:Option Addr) (ca:Nat) (Ab:Option Addr) (nb cb:Nat) (w:World) (V:Bool) (hra:Rd w 1 Aa args.length (strs args)) (hz:szS args≤1048576) (hl:args.length≤1048576) (hn:nb≤1048576)
  (hall:∀ w',Below w.heap.size w w'→Calls Tryz.prog 49 #[.slice Ab nb cb] w' fun e w''=>e=.returned (.bool V)∧Below w'.heap.size w' w''∧w'.heap.size≤w''.heap.size) :
  Calls Tryz.prog 105 #[.agg #[.int .i64 3,.string word,.slice Aa args.length ca,.int .i64 count,.slice Ab nb cb]] w fun e w'=>e=.returned (.bool (vR3 3 word args count nb V))∧Below w.heap.size w w'∧w.heap.size≤w'.heap.size:=by
 obtain ⟨m,hm0⟩:∃ m,m=args.length:=⟨_,rfl⟩
 rw[←hm0] at hl hra ⊢
 have HM:=hD hm0
 have HRA:=hD hra
 have HALL:=hD hall
 clear hra hall hm0
 have hB:hasB 3=true:=rfl
 have hIN:inB 3 1 7=true:=rfl
 have HAW:Hid (allW args=args.all wordOk):=hD rfl
 obtain ⟨w0,hw0⟩:∃ w0,w0=w.alloc (.cells #[.int .i64 3,.string word,.slice Aa m ca,.int .i64 count,.slice Ab nb cb] 66):=⟨_,rfl⟩
 have X0:=hD (show w0.heap[w.heap.size]?=some (.cells #[.int .i64 3,.string word,.slice Aa m ca,.int .i64 count,.slice Ab nb cb] 66 (0,0)) by rw[hw0];exact boxed1_0 _ _)
 have b0:Below w.heap.size w w0:=by rw[hw0];exact Zq0
 have hs0:w.heap.size≤w0.heap.size:=b0.size
 have B0:=hD b0
 have HW:=hD hw0
 clear b0 hw0
 by_cases hm:m=0
 ·subst hm
  have e1:((0:Int) != (nargs 3 word:Int))=false:=rfl
  cases hwo:args.all wordOk
  ·have HWO:=hD hwo
   have hAW:=HAW.out.trans hwo
   clear hwo
   have HF:=hD (vR3_w (k:=3) (word:=word) (args:=args) (count:=count) (nb:=nb) (V:=V) HWO.out)
   go_enter Tryz.func105,Tryz.ntmps105
   go_wp2_with fail
   rw[←HW.out]
   refine(l17Args_any _ _ _ _ _ _ ⟨_,_,_,rfl⟩ ⟨_,_,_,rfl⟩).mono ?_
   rintro e w1 ⟨rfl,b1,s1⟩
   obtain ⟨p0,p1,p2,p3,p4⟩:=boxcells5 (lay:=b1) X0.out
   have hB1:Below w.heap.size w w1:=B0.out.trans (b1.mono hs0)
   have hS1:w.heap.size≤w1.heap.size:=hB1.size
   have HR1:=hD (HRA.out.below hB1)
   have HBB:=hD hB1
   clear hB1
   go_wp2_with (first|(go_at_call 47;refine(l1In_any _ _ _ _).mono ?_;rintro e w' ⟨rfl,rfl⟩)|(go_at_call 48;refine(l17Words_any _ _ _ args _ (by exact HR1.out) HM.out.symm Zq6 hz).mono ?_;rintro e w' ⟨rfl,rfl⟩))
   go_ret
   exact ⟨by rw[HF.out];rfl,HBB.out,hS1⟩
  ·have HWO:=hD hwo
   have hAW:=HAW.out.trans hwo
   clear hwo
   by_cases hw:word.toList=[]
   ·have e2:word.toList.isEmpty=true:=by simp [hw]
    have HWE:=hD hw
    clear hw
    by_cases hc:count=0
    ·subst hc
     have HH:=hD (show headV 3 word args.length 0 nb=true by rw[←HM.out];simp [headV,nargs,okCount,hasB,inB,HWE.out])
     have HF:=hD (vR3_t (V:=V) HH.out HWO.out)
     go_enter Tryz.func105,Tryz.ntmps105
     go_wp2_with fail
     rw[←HW.out]
     refine(l17Args_any _ _ _ _ _ _ ⟨_,_,_,rfl⟩ ⟨_,_,_,rfl⟩).mono ?_
     rintro e w1 ⟨rfl,b1,s1⟩
     obtain ⟨p0,p1,p2,p3,p4⟩:=boxcells5 (lay:=b1) X0.out
     have hB1:Below w.heap.size w w1:=B0.out.trans (b1.mono hs0)
     have hS1:w.heap.size≤w1.heap.size:=hB1.size
     have HR1:=hD (HRA.out.below hB1)
     have HBB:=hD hB1
     clear hB1
     go_wp2_with (first|(go_at_call 47;refine(l1In_any _ _ _ _).mono ?_;rintro e w' ⟨rfl,rfl⟩)|(go_at_call 48;refine(l17Words_any _ _ _ args _ (by exact HR1.out) HM.out.symm Zq6 hz).mono ?_;rintro e w' ⟨rfl,rfl⟩))
     refine(HALL.out _ HBB.out).mono ?_
     rintro e w2 ⟨rfl,b2,s2⟩
     go_wp2_with fail
     go_ret
     exact ⟨by rw[HF.out];rfl,HBB.out.trans (b2.mono hS1),by omega⟩
    ·have e4:(count != 0)=true:=by rw[bne_iff_ne];exact hc
     have HF:=hD (vR3_h (k:=3) (word:=word) (args:=args) (count:=count) (nb:=nb) (V:=V) (by rw[←HM.out];simp [headV,nargs,okCount,hasB,inB,HWE.out,hc]))
     go_enter Tryz.func105,Tryz.ntmps105
     go_wp2_with fail
     rw[←HW.out]
     refine(l17Args_any _ _ _ _ _ _ ⟨_,_,_,rfl⟩ ⟨_,_,_,rfl⟩).mono ?_
     rintro e w1 ⟨rfl,b1,s1⟩
     obtain ⟨p0,p1,p2,p3,p4⟩:=boxcells5 (lay:=b1) X0.out
     have hB1:Below w.heap.size w w1:=B0.out.trans (b1.mono hs0)
     have hS1:w.heap.size≤w1.heap.size:=hB1.size
     have HR1:=hD (HRA.out.below hB1)
     have HBB:=hD hB1
     clear hB1
     go_wp2_with (first|(go_at_call 47;refine(l1In_any _ _ _ _).mono ?_;rintro e w' ⟨rfl,rfl⟩)|(go_at_call 48;refine(l17Words_any _ _ _ args _ (by exact HR1.out) HM.out.symm Zq6 hz).mono ?_;rintro e w' ⟨rfl,rfl⟩))
     go_ret
     exact ⟨by rw[HF.out];rfl,HBB.out,hS1⟩
   ·have e2:word.toList.isEmpty=false:=by rw[List.isEmpty_eq_false_iff];exact hw
    have HWE:=hD hw
    clear hw
    have HF:=hD (vR3_h (k:=3) (word:=word) (args:=args) (count:=count) (nb:=nb) (V:=V) (by rw[←HM.out];simp [headV,nargs,okCount,hasB,inB,HWE.out]))
    go_enter Tryz.func105,Tryz.ntmps105
    go_wp2_with fail
    rw[←HW.out]
    refine(l17Args_any _ _ _ _ _ _ ⟨_,_,_,rfl⟩ ⟨_,_,_,rfl⟩).mono ?_
    rintro e w1 ⟨rfl,b1,s1⟩
    obtain ⟨p0,p1,p2,p3,p4⟩:=boxcells5 (lay:=b1) X0.out
    have hB1:Below w.heap.size w w1:=B0.out.trans (b1.mono hs0)
    have hS1:w.heap.size≤w1.heap.size:=hB1.size
    have HR1:=hD (HRA.out.below hB1)
    have HBB:=hD hB1
    clear hB1
    go_wp2_with (first|(go_at_call 47;refine(l1In_any _ _ _ _).mono ?_;rintro e w' ⟨rfl,rfl⟩)|(go_at_call 48;refine(l17Words_any _ _ _ args _ (by exact HR1.out) HM.out.symm Zq6 hz).mono ?_;rintro e w' ⟨rfl,rfl⟩))
    go_ret
    exact ⟨by rw[HF.out];rfl,HBB.out,hS1⟩
 ·have e1:((m:Int) != (nargs 3 word:Int))=true:=by rw[bne_iff_ne];have:nargs 3 word=0:=rfl;omega
  have HF:=hD (vR3_h (k:=3) (word:=word) (args:=args) (count:=count) (nb:=nb) (V:=V) (by rw[←HM.out];simp [headV,nargs,okCount,hasB,inB,hm]))
  go_enter Tryz.func105,Tryz.ntmps105
  go_wp2_with fail
  rw[←HW.out]
  refine(l17Args_any _ _ _ _ _ _ ⟨_,_,_,rfl⟩ ⟨_,_,_,rfl⟩).mono ?_
  rintro e w1 ⟨rfl,b1,s1⟩
  obtain ⟨p0,p1,p2,p3,p4⟩:=boxcells5 (lay:=b1) X0.out
  have hB1:Below w.heap.size w w1:=B0.out.trans (b1.mono hs0)
  have hS1:w.heap.size≤w1.heap.size:=hB1.size
  have HR1:=hD (HRA.out.below hB1)
  have HBB:=hD hB1
  clear hB1
  go_wp2_with (first|(go_at_call 47;refine(l1In_any _ _ _ _).mono ?_;rintro e w' ⟨rfl,rfl⟩)|(go_at_call 48;refine(l17Words_any _ _ _ args _ (by exact HR1.out) HM.out.symm Zq6 hz).mono ?_;rintro e w' ⟨rfl,rfl⟩))
  go_ret
  exact ⟨by rw[HF.out];rfl,HBB.out,hS1⟩
theorem vst_spec_4 (word:ByteArray) (args:List ByteArray) (count:Int) (Aa:Option Addr) (ca:Nat) (Ab:Option Addr) (nb cb:Nat) (w:World) (V:Bool) (hra:Rd w 1 Aa args.length (strs args)) (hz:szS args≤1048576) (hl:args.length≤1048576) (hn:nb≤1048576)
  (hall:∀ w',Below w.heap.size w w'→Calls Tryz.prog 49 #[.slice Ab nb cb] w' fun e w''=>e=.returned (.bool V)∧Below w'.heap.size w' w''∧w'.heap.size≤w''.heap.size) :
  Calls Tryz.prog 105 #[.agg #[.int .i64 4,.string word,.slice Aa args.length ca,.int .i64 count,.slice Ab nb cb]] w fun e w'=>e=.returned (.bool (vR3 4 word args count nb V))∧Below w.heap.size w w'∧w.heap.size≤w'.heap.size:=by
 obtain ⟨m,hm0⟩:∃ m,m=args.length:=⟨_,rfl⟩
 rw[←hm0] at hl hra ⊢
 have HM:=hD hm0
 have HRA:=hD hra
 have HALL:=hD hall
 clear hra hall hm0
 have hB:hasB 4=true:=rfl
 have hIN:inB 4 1 7=true:=rfl
 have HAW:Hid (allW args=args.all wordOk):=hD rfl
 obtain ⟨w0,hw0⟩:∃ w0,w0=w.alloc (.cells #[.int .i64 4,.string word,.slice Aa m ca,.int .i64 count,.slice Ab nb cb] 66):=⟨_,rfl⟩
 have X0:=hD (show w0.heap[w.heap.size]?=some (.cells #[.int .i64 4,.string word,.slice Aa m ca,.int .i64 count,.slice Ab nb cb] 66 (0,0)) by rw[hw0];exact boxed1_0 _ _)
 have b0:Below w.heap.size w w0:=by rw[hw0];exact Zq0
 have hs0:w.heap.size≤w0.heap.size:=b0.size
 have B0:=hD b0
 have HW:=hD hw0
 clear b0 hw0
 by_cases hm:m=1
 ·subst hm
  have e1:((1:Int) != (nargs 4 word:Int))=false:=rfl
  cases hwo:args.all wordOk
  ·have HWO:=hD hwo
   have hAW:=HAW.out.trans hwo
   clear hwo
   have HF:=hD (vR3_w (k:=4) (word:=word) (args:=args) (count:=count) (nb:=nb) (V:=V) HWO.out)
   go_enter Tryz.func105,Tryz.ntmps105
   go_wp2_with fail
   rw[←HW.out]
   refine(l17Args_any _ _ _ _ _ _ ⟨_,_,_,rfl⟩ ⟨_,_,_,rfl⟩).mono ?_
   rintro e w1 ⟨rfl,b1,s1⟩
   obtain ⟨p0,p1,p2,p3,p4⟩:=boxcells5 (lay:=b1) X0.out
   have hB1:Below w.heap.size w w1:=B0.out.trans (b1.mono hs0)
   have hS1:w.heap.size≤w1.heap.size:=hB1.size
   have HR1:=hD (HRA.out.below hB1)
   have HBB:=hD hB1
   clear hB1
   go_wp2_with (first|(go_at_call 47;refine(l1In_any _ _ _ _).mono ?_;rintro e w' ⟨rfl,rfl⟩)|(go_at_call 48;refine(l17Words_any _ _ _ args _ (by exact HR1.out) HM.out.symm Zq6 hz).mono ?_;rintro e w' ⟨rfl,rfl⟩))
   go_ret
   exact ⟨by rw[HF.out];rfl,HBB.out,hS1⟩
  ·have HWO:=hD hwo
   have hAW:=HAW.out.trans hwo
   clear hwo
   by_cases hw:word.toList=[]
   ·have e2:word.toList.isEmpty=true:=by simp [hw]
    have HWE:=hD hw
    clear hw
    by_cases hc:count=0
    ·subst hc
     have HH:=hD (show headV 4 word args.length 0 nb=true by rw[←HM.out];simp [headV,nargs,okCount,hasB,inB,HWE.out])
     have HF:=hD (vR3_t (V:=V) HH.out HWO.out)
     go_enter Tryz.func105,Tryz.ntmps105
     go_wp2_with fail
     rw[←HW.out]
     refine(l17Args_any _ _ _ _ _ _ ⟨_,_,_,rfl⟩ ⟨_,_,_,rfl⟩).mono ?_
     rintro e w1 ⟨rfl,b1,s1⟩
     obtain ⟨p0,p1,p2,p3,p4⟩:=boxcells5 (lay:=b1) X0.out
     have hB1:Below w.heap.size w w1:=B0.out.trans (b1.mono hs0)
     have hS1:w.heap.size≤w1.heap.size:=hB1.size
     have HR1:=hD (HRA.out.below hB1)
     have HBB:=hD hB1
     clear hB1
     go_wp2_with (first|(go_at_call 47;refine(l1In_any _ _ _ _).mono ?_;rintro e w' ⟨rfl,rfl⟩)|(go_at_call 48;refine(l17Words_any _ _ _ args _ (by exact HR1.out) HM.out.symm Zq6 hz).mono ?_;rintro e w' ⟨rfl,rfl⟩))
     refine(HALL.out _ HBB.out).mono ?_
     rintro e w2 ⟨rfl,b2,s2⟩
     go_wp2_with fail
     go_ret
     exact ⟨by rw[HF.out];rfl,HBB.out.trans (b2.mono hS1),by omega⟩
    ·have e4:(count != 0)=true:=by rw[bne_iff_ne];exact hc
     have HF:=hD (vR3_h (k:=4) (word:=word) (args:=args) (count:=count) (nb:=nb) (V:=V) (by rw[←HM.out];simp [headV,nargs,okCount,hasB,inB,HWE.out,hc]))
     go_enter Tryz.func105,Tryz.ntmps105
     go_wp2_with fail
     rw[←HW.out]
     refine(l17Args_any _ _ _ _ _ _ ⟨_,_,_,rfl⟩ ⟨_,_,_,rfl⟩).mono ?_
     rintro e w1 ⟨rfl,b1,s1⟩
     obtain ⟨p0,p1,p2,p3,p4⟩:=boxcells5 (lay:=b1) X0.out
     have hB1:Below w.heap.size w w1:=B0.out.trans (b1.mono hs0)
     have hS1:w.heap.size≤w1.heap.size:=hB1.size
     have HR1:=hD (HRA.out.below hB1)
     have HBB:=hD hB1
     clear hB1
     go_wp2_with (first|(go_at_call 47;refine(l1In_any _ _ _ _).mono ?_;rintro e w' ⟨rfl,rfl⟩)|(go_at_call 48;refine(l17Words_any _ _ _ args _ (by exact HR1.out) HM.out.symm Zq6 hz).mono ?_;rintro e w' ⟨rfl,rfl⟩))
     go_ret
     exact ⟨by rw[HF.out];rfl,HBB.out,hS1⟩
   ·have e2:word.toList.isEmpty=false:=by rw[List.isEmpty_eq_false_iff];exact hw
    have HWE:=hD hw
    clear hw
    have HF:=hD (vR3_h (k:=4) (word:=word) (args:=args) (count:=count) (nb:=nb) (V:=V) (by rw[←HM.out];simp [headV,nargs,okCount,hasB,inB,HWE.out]))
    go_enter Tryz.func105,Tryz.ntmps105
    go_wp2_with fail
    rw[←HW.out]
    refine(l17Args_any _ _ _ _ _ _ ⟨_,_,_,rfl⟩ ⟨_,_,_,rfl⟩).mono ?_
    rintro e w1 ⟨rfl,b1,s1⟩
    obtain ⟨p0,p1,p2,p3,p4⟩:=boxcells5 (lay:=b1) X0.out
    have hB1:Below w.heap.size w w1:=B0.out.trans (b1.mono hs0)
    have hS1:w.heap.size≤w1.heap.size:=hB1.size
    have HR1:=hD (HRA.out.below hB1)
    have HBB:=hD hB1
    clear hB1
    go_wp2_with (first|(go_at_call 47;refine(l1In_any _ _ _ _).mono ?_;rintro e w' ⟨rfl,rfl⟩)|(go_at_call 48;refine(l17Words_any _ _ _ args _ (by exact HR1.out) HM.out.symm Zq6 hz).mono ?_;rintro e w' ⟨rfl,rfl⟩))
    go_ret
    exact ⟨by rw[HF.out];rfl,HBB.out,hS1⟩
 ·have e1:((m:Int) != (nargs 4 word:Int))=true:=by rw[bne_iff_ne];have:nargs 4 word=1:=rfl;omega
  have HF:=hD (vR3_h (k:=4) (word:=word) (args:=args) (count:=count) (nb:=nb) (V:=V) (by rw[←HM.out];simp [headV,nargs,okCount,hasB,inB,hm]))
  go_enter Tryz.func105,Tryz.ntmps105
  go_wp2_with fail
  rw[←HW.out]
  refine(l17Args_any _ _ _ _ _ _ ⟨_,_,_,rfl⟩ ⟨_,_,_,rfl⟩).mono ?_
  rintro e w1 ⟨rfl,b1,s1⟩
  obtain ⟨p0,p1,p2,p3,p4⟩:=boxcells5 (lay:=b1) X0.out
  have hB1:Below w.heap.size w w1:=B0.out.trans (b1.mono hs0)
  have hS1:w.heap.size≤w1.heap.size:=hB1.size
  have HR1:=hD (HRA.out.below hB1)
  have HBB:=hD hB1
  clear hB1
  go_wp2_with (first|(go_at_call 47;refine(l1In_any _ _ _ _).mono ?_;rintro e w' ⟨rfl,rfl⟩)|(go_at_call 48;refine(l17Words_any _ _ _ args _ (by exact HR1.out) HM.out.symm Zq6 hz).mono ?_;rintro e w' ⟨rfl,rfl⟩))
  go_ret
  exact ⟨by rw[HF.out];rfl,HBB.out,hS1⟩
theorem vst_spec_5 (word:ByteArray) (args:List ByteArray) (count:Int) (Aa:Option Addr) (ca:Nat) (Ab:Option Addr) (nb cb:Nat) (w:World) (V:Bool) (hra:Rd w 1 Aa args.length (strs args)) (hz:szS args≤1048576) (hl:args.length≤1048576) (hn:nb≤1048576)
  (hall:∀ w',Below w.heap.size w w'→Calls Tryz.prog 49 #[.slice Ab nb cb] w' fun e w''=>e=.returned (.bool V)∧Below w'.heap.size w' w''∧w'.heap.size≤w''.heap.size) :
  Calls Tryz.prog 105 #[.agg #[.int .i64 5,.string word,.slice Aa args.length ca,.int .i64 count,.slice Ab nb cb]] w fun e w'=>e=.returned (.bool (vR3 5 word args count nb V))∧Below w.heap.size w w'∧w.heap.size≤w'.heap.size:=by
 obtain ⟨m,hm0⟩:∃ m,m=args.length:=⟨_,rfl⟩
 rw[←hm0] at hl hra ⊢
 have HM:=hD hm0
 have HRA:=hD hra
 have HALL:=hD hall
 clear hra hall hm0
 have hB:hasB 5=true:=rfl
 have hIN:inB 5 1 7=true:=rfl
 have HAW:Hid (allW args=args.all wordOk):=hD rfl
 obtain ⟨w0,hw0⟩:∃ w0,w0=w.alloc (.cells #[.int .i64 5,.string word,.slice Aa m ca,.int .i64 count,.slice Ab nb cb] 66):=⟨_,rfl⟩
 have X0:=hD (show w0.heap[w.heap.size]?=some (.cells #[.int .i64 5,.string word,.slice Aa m ca,.int .i64 count,.slice Ab nb cb] 66 (0,0)) by rw[hw0];exact boxed1_0 _ _)
 have b0:Below w.heap.size w w0:=by rw[hw0];exact Zq0
 have hs0:w.heap.size≤w0.heap.size:=b0.size
 have B0:=hD b0
 have HW:=hD hw0
 clear b0 hw0
 by_cases hm:m=1
 ·subst hm
  have e1:((1:Int) != (nargs 5 word:Int))=false:=rfl
  cases hwo:args.all wordOk
  ·have HWO:=hD hwo
   have hAW:=HAW.out.trans hwo
   clear hwo
   have HF:=hD (vR3_w (k:=5) (word:=word) (args:=args) (count:=count) (nb:=nb) (V:=V) HWO.out)
   go_enter Tryz.func105,Tryz.ntmps105
   go_wp2_with fail
   rw[←HW.out]
   refine(l17Args_any _ _ _ _ _ _ ⟨_,_,_,rfl⟩ ⟨_,_,_,rfl⟩).mono ?_
   rintro e w1 ⟨rfl,b1,s1⟩
   obtain ⟨p0,p1,p2,p3,p4⟩:=boxcells5 (lay:=b1) X0.out
   have hB1:Below w.heap.size w w1:=B0.out.trans (b1.mono hs0)
   have hS1:w.heap.size≤w1.heap.size:=hB1.size
   have HR1:=hD (HRA.out.below hB1)
   have HBB:=hD hB1
   clear hB1
   go_wp2_with (first|(go_at_call 47;refine(l1In_any _ _ _ _).mono ?_;rintro e w' ⟨rfl,rfl⟩)|(go_at_call 48;refine(l17Words_any _ _ _ args _ (by exact HR1.out) HM.out.symm Zq6 hz).mono ?_;rintro e w' ⟨rfl,rfl⟩))
   go_ret
   exact ⟨by rw[HF.out];rfl,HBB.out,hS1⟩
  ·have HWO:=hD hwo
   have hAW:=HAW.out.trans hwo
   clear hwo
   by_cases hw:word.toList=[]
   ·have e2:word.toList.isEmpty=true:=by simp [hw]
    have HWE:=hD hw
    clear hw
    by_cases hc:count=0
    ·subst hc
     have HH:=hD (show headV 5 word args.length 0 nb=true by rw[←HM.out];simp [headV,nargs,okCount,hasB,inB,HWE.out])
     have HF:=hD (vR3_t (V:=V) HH.out HWO.out)
     go_enter Tryz.func105,Tryz.ntmps105
     go_wp2_with fail
     rw[←HW.out]
     refine(l17Args_any _ _ _ _ _ _ ⟨_,_,_,rfl⟩ ⟨_,_,_,rfl⟩).mono ?_
     rintro e w1 ⟨rfl,b1,s1⟩
     obtain ⟨p0,p1,p2,p3,p4⟩:=boxcells5 (lay:=b1) X0.out
     have hB1:Below w.heap.size w w1:=B0.out.trans (b1.mono hs0)
     have hS1:w.heap.size≤w1.heap.size:=hB1.size
     have HR1:=hD (HRA.out.below hB1)
     have HBB:=hD hB1
     clear hB1
     go_wp2_with (first|(go_at_call 47;refine(l1In_any _ _ _ _).mono ?_;rintro e w' ⟨rfl,rfl⟩)|(go_at_call 48;refine(l17Words_any _ _ _ args _ (by exact HR1.out) HM.out.symm Zq6 hz).mono ?_;rintro e w' ⟨rfl,rfl⟩))
     refine(HALL.out _ HBB.out).mono ?_
     rintro e w2 ⟨rfl,b2,s2⟩
     go_wp2_with fail
     go_ret
     exact ⟨by rw[HF.out];rfl,HBB.out.trans (b2.mono hS1),by omega⟩
    ·have e4:(count != 0)=true:=by rw[bne_iff_ne];exact hc
     have HF:=hD (vR3_h (k:=5) (word:=word) (args:=args) (count:=count) (nb:=nb) (V:=V) (by rw[←HM.out];simp [headV,nargs,okCount,hasB,inB,HWE.out,hc]))
     go_enter Tryz.func105,Tryz.ntmps105
     go_wp2_with fail
     rw[←HW.out]
     refine(l17Args_any _ _ _ _ _ _ ⟨_,_,_,rfl⟩ ⟨_,_,_,rfl⟩).mono ?_
     rintro e w1 ⟨rfl,b1,s1⟩
     obtain ⟨p0,p1,p2,p3,p4⟩:=boxcells5 (lay:=b1) X0.out
     have hB1:Below w.heap.size w w1:=B0.out.trans (b1.mono hs0)
     have hS1:w.heap.size≤w1.heap.size:=hB1.size
     have HR1:=hD (HRA.out.below hB1)
     have HBB:=hD hB1
     clear hB1
     go_wp2_with (first|(go_at_call 47;refine(l1In_any _ _ _ _).mono ?_;rintro e w' ⟨rfl,rfl⟩)|(go_at_call 48;refine(l17Words_any _ _ _ args _ (by exact HR1.out) HM.out.symm Zq6 hz).mono ?_;rintro e w' ⟨rfl,rfl⟩))
     go_ret
     exact ⟨by rw[HF.out];rfl,HBB.out,hS1⟩
   ·have e2:word.toList.isEmpty=false:=by rw[List.isEmpty_eq_false_iff];exact hw
    have HWE:=hD hw
    clear hw
    have HF:=hD (vR3_h (k:=5) (word:=word) (args:=args) (count:=count) (nb:=nb) (V:=V) (by rw[←HM.out];simp [headV,nargs,okCount,hasB,inB,HWE.out]))
    go_enter Tryz.func105,Tryz.ntmps105
    go_wp2_with fail
    rw[←HW.out]
    refine(l17Args_any _ _ _ _ _ _ ⟨_,_,_,rfl⟩ ⟨_,_,_,rfl⟩).mono ?_
    rintro e w1 ⟨rfl,b1,s1⟩
    obtain ⟨p0,p1,p2,p3,p4⟩:=boxcells5 (lay:=b1) X0.out
    have hB1:Below w.heap.size w w1:=B0.out.trans (b1.mono hs0)
    have hS1:w.heap.size≤w1.heap.size:=hB1.size
    have HR1:=hD (HRA.out.below hB1)
    have HBB:=hD hB1
    clear hB1
    go_wp2_with (first|(go_at_call 47;refine(l1In_any _ _ _ _).mono ?_;rintro e w' ⟨rfl,rfl⟩)|(go_at_call 48;refine(l17Words_any _ _ _ args _ (by exact HR1.out) HM.out.symm Zq6 hz).mono ?_;rintro e w' ⟨rfl,rfl⟩))
    go_ret
    exact ⟨by rw[HF.out];rfl,HBB.out,hS1⟩
 ·have e1:((m:Int) != (nargs 5 word:Int))=true:=by rw[bne_iff_ne];have:nargs 5 word=1:=rfl;omega
  have HF:=hD (vR3_h (k:=5) (word:=word) (args:=args) (count:=count) (nb:=nb) (V:=V) (by rw[←HM.out];simp [headV,nargs,okCount,hasB,inB,hm]))
  go_enter Tryz.func105,Tryz.ntmps105
  go_wp2_with fail
  rw[←HW.out]
  refine(l17Args_any _ _ _ _ _ _ ⟨_,_,_,rfl⟩ ⟨_,_,_,rfl⟩).mono ?_
  rintro e w1 ⟨rfl,b1,s1⟩
  obtain ⟨p0,p1,p2,p3,p4⟩:=boxcells5 (lay:=b1) X0.out
  have hB1:Below w.heap.size w w1:=B0.out.trans (b1.mono hs0)
  have hS1:w.heap.size≤w1.heap.size:=hB1.size
  have HR1:=hD (HRA.out.below hB1)
  have HBB:=hD hB1
  clear hB1
  go_wp2_with (first|(go_at_call 47;refine(l1In_any _ _ _ _).mono ?_;rintro e w' ⟨rfl,rfl⟩)|(go_at_call 48;refine(l17Words_any _ _ _ args _ (by exact HR1.out) HM.out.symm Zq6 hz).mono ?_;rintro e w' ⟨rfl,rfl⟩))
  go_ret
  exact ⟨by rw[HF.out];rfl,HBB.out,hS1⟩
theorem vst_spec_6 (word:ByteArray) (args:List ByteArray) (count:Int) (Aa:Option Addr) (ca:Nat) (Ab:Option Addr) (nb cb:Nat) (w:World) (V:Bool) (hra:Rd w 1 Aa args.length (strs args)) (hz:szS args≤1048576) (hl:args.length≤1048576) (hn:nb≤1048576)
  (hall:∀ w',Below w.heap.size w w'→Calls Tryz.prog 49 #[.slice Ab nb cb] w' fun e w''=>e=.returned (.bool V)∧Below w'.heap.size w' w''∧w'.heap.size≤w''.heap.size) :
  Calls Tryz.prog 105 #[.agg #[.int .i64 6,.string word,.slice Aa args.length ca,.int .i64 count,.slice Ab nb cb]] w fun e w'=>e=.returned (.bool (vR3 6 word args count nb V))∧Below w.heap.size w w'∧w.heap.size≤w'.heap.size:=by
 obtain ⟨m,hm0⟩:∃ m,m=args.length:=⟨_,rfl⟩
 rw[←hm0] at hl hra ⊢
 have HM:=hD hm0
 have HRA:=hD hra
 have HALL:=hD hall
 clear hra hall hm0
 have hB:hasB 6=false:=rfl
 have hIN:inB 6 1 7=true:=rfl
 have HAW:Hid (allW args=args.all wordOk):=hD rfl
 obtain ⟨w0,hw0⟩:∃ w0,w0=w.alloc (.cells #[.int .i64 6,.string word,.slice Aa m ca,.int .i64 count,.slice Ab nb cb] 66):=⟨_,rfl⟩
 have X0:=hD (show w0.heap[w.heap.size]?=some (.cells #[.int .i64 6,.string word,.slice Aa m ca,.int .i64 count,.slice Ab nb cb] 66 (0,0)) by rw[hw0];exact boxed1_0 _ _)
 have b0:Below w.heap.size w w0:=by rw[hw0];exact Zq0
 have hs0:w.heap.size≤w0.heap.size:=b0.size
 have B0:=hD b0
 have HW:=hD hw0
 clear b0 hw0
 by_cases hm:m=2
 ·subst hm
  have e1:((2:Int) != (nargs 6 word:Int))=false:=rfl
  cases hwo:args.all wordOk
  ·have HWO:=hD hwo
   have hAW:=HAW.out.trans hwo
   clear hwo
   have HF:=hD (vR3_w (k:=6) (word:=word) (args:=args) (count:=count) (nb:=nb) (V:=V) HWO.out)
   go_enter Tryz.func105,Tryz.ntmps105
   go_wp2_with fail
   rw[←HW.out]
   refine(l17Args_any _ _ _ _ _ _ ⟨_,_,_,rfl⟩ ⟨_,_,_,rfl⟩).mono ?_
   rintro e w1 ⟨rfl,b1,s1⟩
   obtain ⟨p0,p1,p2,p3,p4⟩:=boxcells5 (lay:=b1) X0.out
   have hB1:Below w.heap.size w w1:=B0.out.trans (b1.mono hs0)
   have hS1:w.heap.size≤w1.heap.size:=hB1.size
   have HR1:=hD (HRA.out.below hB1)
   have HBB:=hD hB1
   clear hB1
   go_wp2_with (first|(go_at_call 47;refine(l1In_any _ _ _ _).mono ?_;rintro e w' ⟨rfl,rfl⟩)|(go_at_call 48;refine(l17Words_any _ _ _ args _ (by exact HR1.out) HM.out.symm Zq6 hz).mono ?_;rintro e w' ⟨rfl,rfl⟩))
   go_ret
   exact ⟨by rw[HF.out];rfl,HBB.out,hS1⟩
  ·have HWO:=hD hwo
   have hAW:=HAW.out.trans hwo
   clear hwo
   by_cases hb:nb=0
   ·have e3:decide (0<(nb:Int))=false:=by simp;omega
    have e3n:decide (0<nb)=false:=by simp;omega
    have HNB:=hD hb
    clear hb
    by_cases hw:word.toList=[]
    ·have e2:word.toList.isEmpty=true:=by simp [hw]
     have HWE:=hD hw
     clear hw
     by_cases hc:count=0
     ·subst hc
      have HH:=hD (show headV 6 word args.length 0 nb=true by rw[←HM.out];simp [headV,nargs,okCount,hasB,inB,HNB.out,HWE.out])
      have HF:=hD (vR3_t (V:=V) HH.out HWO.out)
      go_enter Tryz.func105,Tryz.ntmps105
      go_wp2_with fail
      rw[←HW.out]
      refine(l17Args_any _ _ _ _ _ _ ⟨_,_,_,rfl⟩ ⟨_,_,_,rfl⟩).mono ?_
      rintro e w1 ⟨rfl,b1,s1⟩
      obtain ⟨p0,p1,p2,p3,p4⟩:=boxcells5 (lay:=b1) X0.out
      have hB1:Below w.heap.size w w1:=B0.out.trans (b1.mono hs0)
      have hS1:w.heap.size≤w1.heap.size:=hB1.size
      have HR1:=hD (HRA.out.below hB1)
      have HBB:=hD hB1
      clear hB1
      go_wp2_with (first|(go_at_call 47;refine(l1In_any _ _ _ _).mono ?_;rintro e w' ⟨rfl,rfl⟩)|(go_at_call 48;refine(l17Words_any _ _ _ args _ (by exact HR1.out) HM.out.symm Zq6 hz).mono ?_;rintro e w' ⟨rfl,rfl⟩))
      refine(HALL.out _ HBB.out).mono ?_
      rintro e w2 ⟨rfl,b2,s2⟩
      go_wp2_with fail
      go_ret
      exact ⟨by rw[HF.out];rfl,HBB.out.trans (b2.mono hS1),by omega⟩
     ·have e4:(count != 0)=true:=by rw[bne_iff_ne];exact hc
      have HF:=hD (vR3_h (k:=6) (word:=word) (args:=args) (count:=count) (nb:=nb) (V:=V) (by rw[←HM.out];simp [headV,nargs,okCount,hasB,inB,HNB.out,HWE.out,hc]))
      go_enter Tryz.func105,Tryz.ntmps105
      go_wp2_with fail
      rw[←HW.out]
      refine(l17Args_any _ _ _ _ _ _ ⟨_,_,_,rfl⟩ ⟨_,_,_,rfl⟩).mono ?_
      rintro e w1 ⟨rfl,b1,s1⟩
      obtain ⟨p0,p1,p2,p3,p4⟩:=boxcells5 (lay:=b1) X0.out
      have hB1:Below w.heap.size w w1:=B0.out.trans (b1.mono hs0)
      have hS1:w.heap.size≤w1.heap.size:=hB1.size
      have HR1:=hD (HRA.out.below hB1)
      have HBB:=hD hB1
      clear hB1
      go_wp2_with (first|(go_at_call 47;refine(l1In_any _ _ _ _).mono ?_;rintro e w' ⟨rfl,rfl⟩)|(go_at_call 48;refine(l17Words_any _ _ _ args _ (by exact HR1.out) HM.out.symm Zq6 hz).mono ?_;rintro e w' ⟨rfl,rfl⟩))
      go_ret
      exact ⟨by rw[HF.out];rfl,HBB.out,hS1⟩
    ·have e2:word.toList.isEmpty=false:=by rw[List.isEmpty_eq_false_iff];exact hw
     have HWE:=hD hw
     clear hw
     have HF:=hD (vR3_h (k:=6) (word:=word) (args:=args) (count:=count) (nb:=nb) (V:=V) (by rw[←HM.out];simp [headV,nargs,okCount,hasB,inB,HNB.out,HWE.out]))
     go_enter Tryz.func105,Tryz.ntmps105
     go_wp2_with fail
     rw[←HW.out]
     refine(l17Args_any _ _ _ _ _ _ ⟨_,_,_,rfl⟩ ⟨_,_,_,rfl⟩).mono ?_
     rintro e w1 ⟨rfl,b1,s1⟩
     obtain ⟨p0,p1,p2,p3,p4⟩:=boxcells5 (lay:=b1) X0.out
     have hB1:Below w.heap.size w w1:=B0.out.trans (b1.mono hs0)
     have hS1:w.heap.size≤w1.heap.size:=hB1.size
     have HR1:=hD (HRA.out.below hB1)
     have HBB:=hD hB1
     clear hB1
     go_wp2_with (first|(go_at_call 47;refine(l1In_any _ _ _ _).mono ?_;rintro e w' ⟨rfl,rfl⟩)|(go_at_call 48;refine(l17Words_any _ _ _ args _ (by exact HR1.out) HM.out.symm Zq6 hz).mono ?_;rintro e w' ⟨rfl,rfl⟩))
     go_ret
     exact ⟨by rw[HF.out];rfl,HBB.out,hS1⟩
   ·have e3:decide (0<(nb:Int))=true:=by simp;omega
    have e3n:decide (0<nb)=true:=by simp;omega
    have HNB:=hD hb
    clear hb
    have HF:=hD (vR3_h (k:=6) (word:=word) (args:=args) (count:=count) (nb:=nb) (V:=V) (by rw[←HM.out];simp [headV,nargs,okCount,hasB,inB,HNB.out]))
    go_enter Tryz.func105,Tryz.ntmps105
    go_wp2_with fail
    rw[←HW.out]
    refine(l17Args_any _ _ _ _ _ _ ⟨_,_,_,rfl⟩ ⟨_,_,_,rfl⟩).mono ?_
    rintro e w1 ⟨rfl,b1,s1⟩
    obtain ⟨p0,p1,p2,p3,p4⟩:=boxcells5 (lay:=b1) X0.out
    have hB1:Below w.heap.size w w1:=B0.out.trans (b1.mono hs0)
    have hS1:w.heap.size≤w1.heap.size:=hB1.size
    have HR1:=hD (HRA.out.below hB1)
    have HBB:=hD hB1
    clear hB1
    go_wp2_with (first|(go_at_call 47;refine(l1In_any _ _ _ _).mono ?_;rintro e w' ⟨rfl,rfl⟩)|(go_at_call 48;refine(l17Words_any _ _ _ args _ (by exact HR1.out) HM.out.symm Zq6 hz).mono ?_;rintro e w' ⟨rfl,rfl⟩))
    go_ret
    exact ⟨by rw[HF.out];rfl,HBB.out,hS1⟩
 ·have e1:((m:Int) != (nargs 6 word:Int))=true:=by rw[bne_iff_ne];have:nargs 6 word=2:=rfl;omega
  have HF:=hD (vR3_h (k:=6) (word:=word) (args:=args) (count:=count) (nb:=nb) (V:=V) (by rw[←HM.out];simp [headV,nargs,okCount,hasB,inB,hm]))
  go_enter Tryz.func105,Tryz.ntmps105
  go_wp2_with fail
  rw[←HW.out]
  refine(l17Args_any _ _ _ _ _ _ ⟨_,_,_,rfl⟩ ⟨_,_,_,rfl⟩).mono ?_
  rintro e w1 ⟨rfl,b1,s1⟩
  obtain ⟨p0,p1,p2,p3,p4⟩:=boxcells5 (lay:=b1) X0.out
  have hB1:Below w.heap.size w w1:=B0.out.trans (b1.mono hs0)
  have hS1:w.heap.size≤w1.heap.size:=hB1.size
  have HR1:=hD (HRA.out.below hB1)
  have HBB:=hD hB1
  clear hB1
  go_wp2_with (first|(go_at_call 47;refine(l1In_any _ _ _ _).mono ?_;rintro e w' ⟨rfl,rfl⟩)|(go_at_call 48;refine(l17Words_any _ _ _ args _ (by exact HR1.out) HM.out.symm Zq6 hz).mono ?_;rintro e w' ⟨rfl,rfl⟩))
  go_ret
  exact ⟨by rw[HF.out];rfl,HBB.out,hS1⟩
theorem vst_spec_7 (word:ByteArray) (args:List ByteArray) (count:Int) (Aa:Option Addr) (ca:Nat) (Ab:Option Addr) (nb cb:Nat) (w:World) (V:Bool) (hra:Rd w 1 Aa args.length (strs args)) (hz:szS args≤1048576) (hl:args.length≤1048576) (hn:nb≤1048576)
  (hall:∀ w',Below w.heap.size w w'→Calls Tryz.prog 49 #[.slice Ab nb cb] w' fun e w''=>e=.returned (.bool V)∧Below w'.heap.size w' w''∧w'.heap.size≤w''.heap.size) :
  Calls Tryz.prog 105 #[.agg #[.int .i64 7,.string word,.slice Aa args.length ca,.int .i64 count,.slice Ab nb cb]] w fun e w'=>e=.returned (.bool (vR3 7 word args count nb V))∧Below w.heap.size w w'∧w.heap.size≤w'.heap.size:=by
 obtain ⟨m,hm0⟩:∃ m,m=args.length:=⟨_,rfl⟩
 rw[←hm0] at hl hra ⊢
 have HM:=hD hm0
 have HRA:=hD hra
 have HALL:=hD hall
 clear hra hall hm0
 have hB:hasB 7=true:=rfl
 have hIN:inB 7 1 7=true:=rfl
 have HAW:Hid (allW args=args.all wordOk):=hD rfl
 obtain ⟨w0,hw0⟩:∃ w0,w0=w.alloc (.cells #[.int .i64 7,.string word,.slice Aa m ca,.int .i64 count,.slice Ab nb cb] 66):=⟨_,rfl⟩
 have X0:=hD (show w0.heap[w.heap.size]?=some (.cells #[.int .i64 7,.string word,.slice Aa m ca,.int .i64 count,.slice Ab nb cb] 66 (0,0)) by rw[hw0];exact boxed1_0 _ _)
 have b0:Below w.heap.size w w0:=by rw[hw0];exact Zq0
 have hs0:w.heap.size≤w0.heap.size:=b0.size
 have B0:=hD b0
 have HW:=hD hw0
 clear b0 hw0
 by_cases hm:m=1
 ·subst hm
  have e1:((1:Int) != (nargs 7 word:Int))=false:=rfl
  cases hwo:args.all wordOk
  ·have HWO:=hD hwo
   have hAW:=HAW.out.trans hwo
   clear hwo
   have HF:=hD (vR3_w (k:=7) (word:=word) (args:=args) (count:=count) (nb:=nb) (V:=V) HWO.out)
   go_enter Tryz.func105,Tryz.ntmps105
   go_wp2_with fail
   rw[←HW.out]
   refine(l17Args_any _ _ _ _ _ _ ⟨_,_,_,rfl⟩ ⟨_,_,_,rfl⟩).mono ?_
   rintro e w1 ⟨rfl,b1,s1⟩
   obtain ⟨p0,p1,p2,p3,p4⟩:=boxcells5 (lay:=b1) X0.out
   have hB1:Below w.heap.size w w1:=B0.out.trans (b1.mono hs0)
   have hS1:w.heap.size≤w1.heap.size:=hB1.size
   have HR1:=hD (HRA.out.below hB1)
   have HBB:=hD hB1
   clear hB1
   go_wp2_with (first|(go_at_call 47;refine(l1In_any _ _ _ _).mono ?_;rintro e w' ⟨rfl,rfl⟩)|(go_at_call 48;refine(l17Words_any _ _ _ args _ (by exact HR1.out) HM.out.symm Zq6 hz).mono ?_;rintro e w' ⟨rfl,rfl⟩))
   go_ret
   exact ⟨by rw[HF.out];rfl,HBB.out,hS1⟩
  ·have HWO:=hD hwo
   have hAW:=HAW.out.trans hwo
   clear hwo
   by_cases hw:word.toList=[]
   ·have e2:word.toList.isEmpty=true:=by simp [hw]
    have HWE:=hD hw
    clear hw
    by_cases hc:count=0
    ·subst hc
     have HH:=hD (show headV 7 word args.length 0 nb=true by rw[←HM.out];simp [headV,nargs,okCount,hasB,inB,HWE.out])
     have HF:=hD (vR3_t (V:=V) HH.out HWO.out)
     go_enter Tryz.func105,Tryz.ntmps105
     go_wp2_with fail
     rw[←HW.out]
     refine(l17Args_any _ _ _ _ _ _ ⟨_,_,_,rfl⟩ ⟨_,_,_,rfl⟩).mono ?_
     rintro e w1 ⟨rfl,b1,s1⟩
     obtain ⟨p0,p1,p2,p3,p4⟩:=boxcells5 (lay:=b1) X0.out
     have hB1:Below w.heap.size w w1:=B0.out.trans (b1.mono hs0)
     have hS1:w.heap.size≤w1.heap.size:=hB1.size
     have HR1:=hD (HRA.out.below hB1)
     have HBB:=hD hB1
     clear hB1
     go_wp2_with (first|(go_at_call 47;refine(l1In_any _ _ _ _).mono ?_;rintro e w' ⟨rfl,rfl⟩)|(go_at_call 48;refine(l17Words_any _ _ _ args _ (by exact HR1.out) HM.out.symm Zq6 hz).mono ?_;rintro e w' ⟨rfl,rfl⟩))
     refine(HALL.out _ HBB.out).mono ?_
     rintro e w2 ⟨rfl,b2,s2⟩
     go_wp2_with fail
     go_ret
     exact ⟨by rw[HF.out];rfl,HBB.out.trans (b2.mono hS1),by omega⟩
    ·have e4:(count != 0)=true:=by rw[bne_iff_ne];exact hc
     have HF:=hD (vR3_h (k:=7) (word:=word) (args:=args) (count:=count) (nb:=nb) (V:=V) (by rw[←HM.out];simp [headV,nargs,okCount,hasB,inB,HWE.out,hc]))
     go_enter Tryz.func105,Tryz.ntmps105
     go_wp2_with fail
     rw[←HW.out]
     refine(l17Args_any _ _ _ _ _ _ ⟨_,_,_,rfl⟩ ⟨_,_,_,rfl⟩).mono ?_
     rintro e w1 ⟨rfl,b1,s1⟩
     obtain ⟨p0,p1,p2,p3,p4⟩:=boxcells5 (lay:=b1) X0.out
     have hB1:Below w.heap.size w w1:=B0.out.trans (b1.mono hs0)
     have hS1:w.heap.size≤w1.heap.size:=hB1.size
     have HR1:=hD (HRA.out.below hB1)
     have HBB:=hD hB1
     clear hB1
     go_wp2_with (first|(go_at_call 47;refine(l1In_any _ _ _ _).mono ?_;rintro e w' ⟨rfl,rfl⟩)|(go_at_call 48;refine(l17Words_any _ _ _ args _ (by exact HR1.out) HM.out.symm Zq6 hz).mono ?_;rintro e w' ⟨rfl,rfl⟩))
     go_ret
     exact ⟨by rw[HF.out];rfl,HBB.out,hS1⟩
   ·have e2:word.toList.isEmpty=false:=by rw[List.isEmpty_eq_false_iff];exact hw
    have HWE:=hD hw
    clear hw
    have HF:=hD (vR3_h (k:=7) (word:=word) (args:=args) (count:=count) (nb:=nb) (V:=V) (by rw[←HM.out];simp [headV,nargs,okCount,hasB,inB,HWE.out]))
    go_enter Tryz.func105,Tryz.ntmps105
    go_wp2_with fail
    rw[←HW.out]
    refine(l17Args_any _ _ _ _ _ _ ⟨_,_,_,rfl⟩ ⟨_,_,_,rfl⟩).mono ?_
    rintro e w1 ⟨rfl,b1,s1⟩
    obtain ⟨p0,p1,p2,p3,p4⟩:=boxcells5 (lay:=b1) X0.out
    have hB1:Below w.heap.size w w1:=B0.out.trans (b1.mono hs0)
    have hS1:w.heap.size≤w1.heap.size:=hB1.size
    have HR1:=hD (HRA.out.below hB1)
    have HBB:=hD hB1
    clear hB1
    go_wp2_with (first|(go_at_call 47;refine(l1In_any _ _ _ _).mono ?_;rintro e w' ⟨rfl,rfl⟩)|(go_at_call 48;refine(l17Words_any _ _ _ args _ (by exact HR1.out) HM.out.symm Zq6 hz).mono ?_;rintro e w' ⟨rfl,rfl⟩))
    go_ret
    exact ⟨by rw[HF.out];rfl,HBB.out,hS1⟩
 ·have e1:((m:Int) != (nargs 7 word:Int))=true:=by rw[bne_iff_ne];have:nargs 7 word=1:=rfl;omega
  have HF:=hD (vR3_h (k:=7) (word:=word) (args:=args) (count:=count) (nb:=nb) (V:=V) (by rw[←HM.out];simp [headV,nargs,okCount,hasB,inB,hm]))
  go_enter Tryz.func105,Tryz.ntmps105
  go_wp2_with fail
  rw[←HW.out]
  refine(l17Args_any _ _ _ _ _ _ ⟨_,_,_,rfl⟩ ⟨_,_,_,rfl⟩).mono ?_
  rintro e w1 ⟨rfl,b1,s1⟩
  obtain ⟨p0,p1,p2,p3,p4⟩:=boxcells5 (lay:=b1) X0.out
  have hB1:Below w.heap.size w w1:=B0.out.trans (b1.mono hs0)
  have hS1:w.heap.size≤w1.heap.size:=hB1.size
  have HR1:=hD (HRA.out.below hB1)
  have HBB:=hD hB1
  clear hB1
  go_wp2_with (first|(go_at_call 47;refine(l1In_any _ _ _ _).mono ?_;rintro e w' ⟨rfl,rfl⟩)|(go_at_call 48;refine(l17Words_any _ _ _ args _ (by exact HR1.out) HM.out.symm Zq6 hz).mono ?_;rintro e w' ⟨rfl,rfl⟩))
  go_ret
  exact ⟨by rw[HF.out];rfl,HBB.out,hS1⟩
theorem headV_no {k:Int} (h:inB k 1 7=false) (word:ByteArray) (na:Nat) (count:Int) (nb:Nat):headV k word na count nb=false:=by simp [headV,h]
theorem vst_impl_no (k:Int) (word:ByteArray) (args:List ByteArray) (count:Int) (Aa:Option Addr) (ca:Nat) (Ab:Option Addr) (nb cb:Nat) (w:World) (rs:List Bool) (hk:inB k 1 7=false) :
  Calls Tryz.prog 43 #[.agg #[.int .i64 k,.string word,.slice Aa args.length ca,.int .i64 count,.slice Ab nb cb]] w fun e w'=>e=.returned (.bool (vRes k word args count nb rs))∧Below w.heap.size w w'∧w.heap.size≤w'.heap.size:=by
 have hk':=inB_not.1 hk
 have HF:=hD (vRes_h (rs:=rs) (headV_no hk word args.length count nb))
 have e1:(k==1)=false:=beq_eq_false_iff_ne.2 Zq6
 have e2:(k==2)=false:=beq_eq_false_iff_ne.2 Zq6
 have e3:(k==3)=false:=beq_eq_false_iff_ne.2 Zq6
 have e4:(k==4)=false:=beq_eq_false_iff_ne.2 Zq6
 have e5:(k==5)=false:=beq_eq_false_iff_ne.2 Zq6
 have e6:(k==6)=false:=beq_eq_false_iff_ne.2 Zq6
 have e7:(k==7)=false:=beq_eq_false_iff_ne.2 Zq6
 obtain ⟨m,hm⟩:∃ m,m=args.length:=⟨_,rfl⟩
 rw[←hm]
 clear hk hk' hm
 go_enter Tryz.func43,Tryz.ntmps43
 go_wp2_with fail
 go_ret
 exact ⟨by rw[HF.out];rfl,Zq0,Zq5⟩
theorem vst_impl_k (k:Int) (word:ByteArray) (args:List ByteArray) (count:Int) (Aa:Option Addr) (ca:Nat) (Ab:Option Addr) (nb cb:Nat) (w:World) (rs:List Bool) (hra:Rd w 1 Aa args.length (strs args)) (hG:GN w) (hz:szS args≤1048576) (hl:args.length≤1048576) (hn:nb≤1048576) (hrs:rs.length=nb) (hel:Elts 43 w Ab nb rs) :
  Calls Tryz.prog 43 #[.agg #[.int .i64 k,.string word,.slice Aa args.length ca,.int .i64 count,.slice Ab nb cb]] w fun e w'=>e=.returned (.bool (vRes k word args count nb rs))∧Below w.heap.size w w'∧w.heap.size≤w'.heap.size:=by
 cases hk:inB k 1 7
 ·exact vst_impl_no k word args count Aa ca Ab nb cb w rs hk
 ·have h:=inB_iff.1 hk
  have hc:k=1∨k=2∨k=3∨k=4∨k=5∨k=6∨k=7:=by omega
  rcases hc with rfl|rfl|rfl|rfl|rfl|rfl|rfl
  ·exact vst_impl_1 word args count Aa ca Ab nb cb w rs hra hG hz hl hn hrs hel
  ·exact vst_impl_2 word args count Aa ca Ab nb cb w rs hra hG hz hl hn hrs hel
  ·exact vst_impl_3 word args count Aa ca Ab nb cb w rs hra hG hz hl hn hrs hel
  ·exact vst_impl_4 word args count Aa ca Ab nb cb w rs hra hG hz hl hn hrs hel
  ·exact vst_impl_5 word args count Aa ca Ab nb cb w rs hra hG hz hl hn hrs hel
  ·exact vst_impl_6 word args count Aa ca Ab nb cb w rs hra hG hz hl hn hrs hel
  ·exact vst_impl_7 word args count Aa ca Ab nb cb w rs hra hG hz hl hn hrs hel
def VSaidI (d:Nat):Prop:=∀ (lo:Nat) (k:Int) (word:ByteArray) (args:List ByteArray) (count:Int) (bd:List (Tr d)) (Aa:Option Addr) (ca:Nat) (Ab:Option Addr) (nb cb:Nat) (w:World),RdL w lo 1 Aa args.length (strs args)→RdT w lo d Ab nb bd→GN w→szS args≤1048576→args.length≤1048576→szT d bd≤1048576 →
 Calls Tryz.prog 43 #[.agg #[.int .i64 k,.string word,.slice Aa args.length ca,.int .i64 count,.slice Ab nb cb]] w fun e w'=>e=.returned (.bool (vOne d (validT d) ⟨k,word,args,count⟩ bd))∧Below w.heap.size w w'∧w.heap.size≤w'.heap.size
theorem IsValidStmt_impl:∀ (d:Nat),VSaidI d:=by
 intro d
 induction d with
 | zero =>
  intro lo k word args count bd Aa ca Ab nb cb w hra hrb hG hz hl hsz
  obtain rfl:=szT_zero_len hrb
  obtain rfl:bd=[]:=List.eq_nil_of_length_eq_zero hrb.len
  exact(vst_impl_k k word args count Aa ca Ab 0 cb w [] hra.rd hG hz hl Zq6 rfl (fun t ht=>absurd ht Zq6)).mono fun e w' ⟨h1,h2⟩=>⟨by rw[h1];exact congrArg (fun b=>Ending.returned (Value.bool b)) (vRes_one (d:=0) (bd:=[]) rfl),h2⟩
 | succ d ih =>
  intro lo k word args count bd Aa ca Ab nb cb w hra hrb hG hz hl hsz
  have hlen:=hrb.len
  subst hlen
  have hn:bd.length≤1048576:=by rw[szT_succ] at hsz;omega
  refine(vst_impl_k k word args count Aa ca Ab bd.length cb w (bd.map fun s=>vOne d (validT d) (hdT s) (bdT s)) hra.rd hG hz hl hn Zq11 (fun t ht=>?_)).mono fun e w' ⟨h1,h2⟩=>⟨by rw[h1];exact congrArg (fun b=>Ending.returned (Value.bool b)) (vRes_one (rs_valid bd)),h2⟩
  obtain ⟨b,off,s,Aa',ca',Ab',nb',cb',rfl,hbl,hs,⟨c0,c1,c2,c3,c4⟩,h2,h3⟩:=hrb.at_ ht
  refine ⟨b,off,(hdT s).k,(hdT s).word,Aa',(hdT s).args.length,ca',(hdT s).count,Ab',nb',cb',_,rfl,hbl,⟨c0,c1,c2,c3,c4⟩,by rw[List.getElem?_map,hs];rfl,fun w' hw'=>?_⟩
  have hme:=szT_mem hs
  have hq:=hsz
  rw[szT_succ] at hq
  unfold szE at hme
  exact ih lo _ _ _ _ (bdT s) _ _ _ _ _ _ (h2.below hw') (h3.below hw') (hG.below hw') Zq6 Zq6 Zq6
theorem vst_spec_no (k:Int) (word:ByteArray) (args:List ByteArray) (count:Int) (Aa:Option Addr) (ca:Nat) (Ab:Option Addr) (nb cb:Nat) (w:World) (V:Bool) (hk:inB k 1 7=false) :
  Calls Tryz.prog 105 #[.agg #[.int .i64 k,.string word,.slice Aa args.length ca,.int .i64 count,.slice Ab nb cb]] w fun e w'=>e=.returned (.bool (vR3 k word args count nb V))∧Below w.heap.size w w'∧w.heap.size≤w'.heap.size:=by
 have HF:=hD (vR3_h (V:=V) (args:=args) (headV_no hk word args.length count nb))
 obtain ⟨m,hm⟩:∃ m,m=args.length:=⟨_,rfl⟩
 rw[←hm]
 clear hm
 obtain ⟨w0,hw0⟩:∃ w0,w0=w.alloc (.cells #[.int .i64 k,.string word,.slice Aa m ca,.int .i64 count,.slice Ab nb cb] 66):=⟨_,rfl⟩
 have X0:=hD (show w0.heap[w.heap.size]?=some (.cells #[.int .i64 k,.string word,.slice Aa m ca,.int .i64 count,.slice Ab nb cb] 66 (0,0)) by rw[hw0];exact boxed1_0 _ _)
 have b0:Below w.heap.size w w0:=by rw[hw0];exact Zq0
 have hs0:w.heap.size≤w0.heap.size:=b0.size
 have B0:=hD b0
 have HW:=hD hw0
 clear b0 hw0
 go_enter Tryz.func105,Tryz.ntmps105
 go_wp2_with fail
 rw[←HW.out]
 refine(l17Args_any _ _ _ _ _ _ ⟨_,_,_,rfl⟩ ⟨_,_,_,rfl⟩).mono ?_
 rintro e w1 ⟨rfl,b1,s1⟩
 obtain ⟨p0,p1,p2,p3,p4⟩:=boxcells5 (lay:=b1) X0.out
 have hB1:Below w.heap.size w w1:=B0.out.trans (b1.mono hs0)
 have HBB:=hD hB1
 have hS1:w.heap.size≤w1.heap.size:=hB1.size
 clear hB1
 go_wp2_with (go_at_call 47;refine(l1In_any _ _ _ _).mono ?_;rintro e w' ⟨rfl,rfl⟩)
 go_ret
 exact ⟨by rw[HF.out];rfl,HBB.out,hS1⟩
theorem vst_spec_k (k:Int) (word:ByteArray) (args:List ByteArray) (count:Int) (Aa:Option Addr) (ca:Nat) (Ab:Option Addr) (nb cb:Nat) (w:World) (V:Bool) (hra:Rd w 1 Aa args.length (strs args)) (hz:szS args≤1048576) (hl:args.length≤1048576) (hn:nb≤1048576)
  (hall:∀ w',Below w.heap.size w w'→Calls Tryz.prog 49 #[.slice Ab nb cb] w' fun e w''=>e=.returned (.bool V)∧Below w'.heap.size w' w''∧w'.heap.size≤w''.heap.size) :
  Calls Tryz.prog 105 #[.agg #[.int .i64 k,.string word,.slice Aa args.length ca,.int .i64 count,.slice Ab nb cb]] w fun e w'=>e=.returned (.bool (vR3 k word args count nb V))∧Below w.heap.size w w'∧w.heap.size≤w'.heap.size:=by
 cases hk:inB k 1 7
 ·exact vst_spec_no k word args count Aa ca Ab nb cb w V hk
 ·have h:=inB_iff.1 hk
  have hc:k=1∨k=2∨k=3∨k=4∨k=5∨k=6∨k=7:=by omega
  rcases hc with rfl|rfl|rfl|rfl|rfl|rfl|rfl
  ·exact vst_spec_1 word args count Aa ca Ab nb cb w V hra hz hl hn hall
  ·exact vst_spec_2 word args count Aa ca Ab nb cb w V hra hz hl hn hall
  ·exact vst_spec_3 word args count Aa ca Ab nb cb w V hra hz hl hn hall
  ·exact vst_spec_4 word args count Aa ca Ab nb cb w V hra hz hl hn hall
  ·exact vst_spec_5 word args count Aa ca Ab nb cb w V hra hz hl hn hall
  ·exact vst_spec_6 word args count Aa ca Ab nb cb w V hra hz hl hn hall
  ·exact vst_spec_7 word args count Aa ca Ab nb cb w V hra hz hl hn hall
def AllSaid (d:Nat):Prop:=∀ (lo:Nat) (A:Option Addr) (n c:Nat) (l:List (Tr d)) (w:World),RdT w lo d A n l→szT d l≤1048576 →
 Calls Tryz.prog 49 #[.slice A n c] w fun e w'=>e=.returned (.bool (validT d l))∧Below w.heap.size w w'∧w.heap.size≤w'.heap.size
def VSaidS (d:Nat):Prop:=∀ (lo:Nat) (k:Int) (word:ByteArray) (args:List ByteArray) (count:Int) (bd:List (Tr d)) (Aa:Option Addr) (ca:Nat) (Ab:Option Addr) (nb cb:Nat) (w:World),RdL w lo 1 Aa args.length (strs args)→RdT w lo d Ab nb bd→szS args≤1048576→args.length≤1048576→szT d bd≤1048576 →
 Calls Tryz.prog 105 #[.agg #[.int .i64 k,.string word,.slice Aa args.length ca,.int .i64 count,.slice Ab nb cb]] w fun e w'=>e=.returned (.bool (vOne d (validT d) ⟨k,word,args,count⟩ bd))∧Below w.heap.size w w'∧w.heap.size≤w'.heap.size
theorem one_of_all {d:Nat} (h:AllSaid d):VSaidS d:=by
 intro lo k word args count bd Aa ca Ab nb cb w hra hrb hz hl hsz
 have hlen:=hrb.len
 subst hlen
 have hn:bd.length≤1048576:=by
  cases d with
  | zero=>have:=szT_zero_len hrb;omega
  | succ d=>rw[szT_succ] at hsz;omega
 exact(vst_spec_k k word args count Aa ca Ab bd.length cb w (validT d bd) hra.rd hz hl hn (fun w' hw'=>h lo _ _ _ bd w' (hrb.below hw') hsz))
theorem l17All_any:∀ (d:Nat),AllSaid d:=by
 intro d
 induction d with
 | zero =>
  intro lo A n c l w h _
  obtain rfl:=szT_zero_len h
  go_enter Tryz.func49,Tryz.ntmps49
  go_wp2
  refine wp_loop_rounds 1 ?_
  rw[rounds_succ]
  go_wp2
  go_ret
  exact ⟨rfl,Below.refl _ _,Nat.le_refl _⟩
 | succ d ih =>
  intro lo A n c l w h hsz
  have hq:=hsz
  rw[szT_succ] at hq
  have hl:=h.len
  have hn:n≤1048576:=by omega
  have H:=hD h
  have HL:=hD hl
  have ih':=hD (one_of_all ih)
  have HQ:=hD hq
  clear h hl hsz hq
  go_enter Tryz.func49,Tryz.ntmps49
  go_wp2
  go_loopw [3] (fun i wr=>∃ t:Nat,t≤n∧i=.int .i64 t∧validT (d+1) (l.take t)=true∧Below w.heap.size w wr) (fun i _=>n - (intOf i).toNat)
  case atStart=>exact ⟨0,Nat.zero_le _,rfl,rfl,Below.refl _ _⟩
  case round =>
   obtain ⟨t,ht,rfl,hok,hb⟩:=hrel
   have HOK:=hD hok
   have hbs:=hb.size
   clear hok
   by_cases hlt:t<n
   ·obtain ⟨b,off,s,Aa',ca',Ab',nb',cb',rfl,hbl,hs,⟨c0,c1,c2,c3,c4⟩,h2,h3⟩:=(H.out.below hb).at_ hlt
    have hme:=szT_mem hs
    unfold szE at hme
    have hq:=HQ.out
    have HC:=hD (ih'.out lo (hdT s).k (hdT s).word (hdT s).args (hdT s).count (bdT s) Aa' ca' Ab' nb' cb' wr h2 h3 Zq6 Zq6 Zq6)
    obtain ⟨V,hV⟩:∃ V,V=vOne d (validT d) (hdT s) (bdT s):=⟨_,rfl⟩
    have HV:=hD hV
    have HS:=hD hs
    have HC2:Hid (Calls Tryz.prog 105 #[.agg #[.int .i64 (hdT s).k,.string (hdT s).word,.slice Aa' (hdT s).args.length ca',.int .i64 (hdT s).count,.slice Ab' nb' cb']] wr fun e w'=>e=.returned (.bool V)∧Below wr.heap.size wr w'∧wr.heap.size≤w'.heap.size):=by
     rw[hV]
     exact HC.out
    clear hV hs hme hq HC h2 h3
    cases V
    ·have HF:=hD (show validT (d+1) l=false by
      simp only[validT]
      rw[List.all_eq_false]
      exact ⟨s,List.mem_of_getElem? HS.out,by rw[←HV.out];simp⟩)
     go_wp2_with fail
     refine HC2.out.mono ?_
     rintro e w2 ⟨rfl,hb2,hs2⟩
     go_wp2_with fail
     go_ret
     exact ⟨by rw[HF.out];rfl,hb.trans (hb2.mono hbs),by omega⟩
    ·have HN:=hD (show validT (d+1) (l.take (t+1))=true by
      have h:=HOK.out
      simp only[validT] at h ⊢
      rw[all_take _ HS.out,h,←HV.out]
      rfl)
     go_wp2_with fail
     refine HC2.out.mono ?_
     rintro e w2 ⟨rfl,hb2,hs2⟩
     go_wp2_with fail
     go_roundw
     case rel=>exact ⟨t+1,by omega,by go_num,HN.out,hb.trans (hb2.mono hbs)⟩
     case measure=>simp [intOf];omega
   ·obtain rfl:t=n:=by omega
    have HF:Hid (validT (d+1) l=true):=by
     have h:=HOK.out
     rw[List.take_of_length_le (by rw[HL.out];exact Nat.le_refl _)] at h
     exact h
    go_wp2_with fail
    go_ret
    exact ⟨by rw[HF.out];rfl,hb,hb.size⟩
end Go.Proofs.YthkbckkghnbonaaGreatDoor
namespace Go.Proofs.YthkbckkghnbonaaGreatDoor
open Go.ChangeShapes Go.WideShapes Go.RowKit Go.Deep
theorem list5 {α:Type} {l:List α} (h:l.length=5):∃ a b c d e,l=[a,b,c,d,e]:=by
 match l,h with
 | [a,b,c,d,e],_=>exact ⟨a,b,c,d,e,rfl⟩
theorem subSz_le {m:Nat} (h:¬ subSz 1048576 m<0):m≤1048576:=by
 unfold subSz at h
 split at h <;> omega
section
variable {H:Type} {enc:TypeId × Value→H} {P:Program} {w:World} {base:Nat} {spare:Nat→Bool} {held:Bool}
theorem cells_string:Tryz.prog.cellsOf 9=1:=by kernel_rfl
theorem cells_strings:Tryz.prog.cellsOf 24=1:=by kernel_rfl
theorem cells_Stmts:Tryz.prog.cellsOf 34=1:=by kernel_rfl
theorem cells_Stmt:Tryz.prog.cellsOf 143=5:=by kernel_rfl
theorem open_strings_c {n:Nat} {v:Value} {y:DataW H × List MemPlace} (h:DataW.trod enc Tryz.prog w base spare held n 24 [v]=some y) :
  ∃ (A:Option Addr) (c:Nat) (l:List ByteArray),v=.slice A l.length c∧l.length≤maxLen∧(∀ a∈l,a.size≤maxLen)∧Rd w 1 A l.length (strs l)∧l.length≤c:=by
 obtain ⟨A,n,c,l,rfl,hn,hc,hl,hr⟩:=rd_of_slice (α:={ a:ByteArray // a.size≤maxLen }) (cellsf:=fun g=>[Value.string g.1]) Tryz.underlying24 cells_string Zq8 (fun n cs y h=>by
  obtain ⟨s,rfl,_,hs⟩:=DataW.trod_string Tryz.underlying9 h
  exact ⟨⟨s,hs⟩,rfl⟩) (fun _=>rfl) h
 subst hl
 refine ⟨A,c,l.map Subtype.val,by simp,by simp;omega,fun a ha=>by obtain ⟨g,_,rfl⟩:=List.mem_map.1 ha;exact g.2,?_,by simpa using hn⟩
 have e:l.flatMap (fun g=>[Value.string g.1])=strs (l.map Subtype.val):=by
  clear hr hn h
  induction l with
  | nil=>rfl
  | cons x l ih=>rw[List.flatMap_cons,ih];rfl
 rw[e] at hr
 simpa using hr
theorem open_strings {n:Nat} {v:Value} {y:DataW H × List MemPlace} (h:DataW.trod enc Tryz.prog w base spare held n 24 [v]=some y) :
  ∃ (A:Option Addr) (c:Nat) (l:List ByteArray),v=.slice A l.length c∧l.length≤maxLen∧(∀ a∈l,a.size≤maxLen)∧Rd w 1 A l.length (strs l):=by
 obtain ⟨A,c,l,h1,h2,h3,h4,_⟩:=open_strings_c h
 exact ⟨A,c,l,h1,h2,h3,h4⟩
theorem open_stmt {n:Nat} {cs:List Value} {y:DataW H × List MemPlace} (h:DataW.trod enc Tryz.prog w base spare held n 143 cs=some y) :
  ∃ (k:Int) (word:ByteArray) (v2:Value) (count:Int) (v4:Value) (m:Nat) (y2 y4:DataW H × List MemPlace),cs=[.int .i64 k,.string word,v2,.int .i64 count,v4]∧n=m+1∧word.size≤maxLen ∧
   DataW.trod enc Tryz.prog w base spare held m 24 [v2]=some y2∧DataW.trod enc Tryz.prog w base spare held m 34 [v4]=some y4:=by
 obtain ⟨ys,m,hm,_,hl,hyl,hf⟩:=DataW.trod_struct Tryz.underlying143 h
 rw[cells_Stmt] at hl
 obtain ⟨c0,c1,c2,c3,c4,rfl⟩:=list5 hl
 obtain ⟨y0,y1,y2,y3,y4,rfl⟩:=list5 hyl
 have f0:=hf 0 _ rfl
 change DataW.trod enc Tryz.prog w base spare held m 3 (([c0,c1,c2,c3,c4].drop 0).take (Tryz.prog.cellsOf 3))=some y0 at f0
 have f1:=hf 1 _ rfl
 change DataW.trod enc Tryz.prog w base spare held m 9 (([c0,c1,c2,c3,c4].drop 1).take (Tryz.prog.cellsOf 9))=some y1 at f1
 have f2:=hf 2 _ rfl
 change DataW.trod enc Tryz.prog w base spare held m 24 (([c0,c1,c2,c3,c4].drop 2).take (Tryz.prog.cellsOf 24))=some y2 at f2
 have f3:=hf 3 _ rfl
 change DataW.trod enc Tryz.prog w base spare held m 3 (([c0,c1,c2,c3,c4].drop 3).take (Tryz.prog.cellsOf 3))=some y3 at f3
 have f4:=hf 4 _ rfl
 change DataW.trod enc Tryz.prog w base spare held m 34 (([c0,c1,c2,c3,c4].drop 4).take (Tryz.prog.cellsOf 34))=some y4 at f4
 rw[cells_int] at f0 f3
 rw[cells_string] at f1
 rw[cells_strings] at f2
 rw[cells_Stmts] at f4
 obtain ⟨k,e0,_,_⟩:=DataW.trod_int Tryz.underlying3 f0
 obtain ⟨wd,e1,_,hw⟩:=DataW.trod_string Tryz.underlying9 f1
 obtain ⟨ct,e3,_,_⟩:=DataW.trod_int Tryz.underlying3 f3
 simp at e0 e1 e3
 subst e0 e1 e3
 exact ⟨k,wd,c2,ct,c4,m,y2,y4,rfl,hm,hw,f2,f4⟩
theorem open_stmts:∀ (d f:Nat),f≤d→∀ (v:Value) (y:DataW H × List MemPlace),DataW.trod enc Tryz.prog w base spare held f 34 [v]=some y →
  ∃ (A:Option Addr) (n c:Nat) (l:List (Tr d)),v=.slice A n c∧n≤c∧c≤maxLen∧RdT w 0 d A n l∧OkT d l:=by
 intro d
 induction d with
 | zero =>
  intro f hf v y h
  obtain rfl:f=0:=by omega
  simp [DataW.trod] at h
 | succ d ih =>
  intro f hf v y h
  rcases DataW.trod_slice Tryz.underlying34 h with ⟨h0,_⟩|⟨a,len,cap,elems,rest,n,hfn,hcs,_,hb,hl,hm,hlen,hel,_,_⟩
  ·simp at h0
   subst h0
   exact ⟨none,0,0,[],rfl,Nat.le_refl _,Nat.zero_le _,⟨rfl,fun h=>absurd h Zq6⟩,⟨by simp,by simp⟩⟩
  ·simp at hcs
   subst hcs
   obtain ⟨l,hll,hp⟩:=exists_list (n:=len) (p:=fun i (s:Tr (d+1))=>(∃ Aa ca Ab nb cb,w.cells? base (a.add (i*5)) 5=some [.int .i64 (hdT s).k,.string (hdT s).word,.slice Aa (hdT s).args.length ca,.int .i64 (hdT s).count,.slice Ab nb cb] ∧
     RdL w 0 1 Aa (hdT s).args.length (strs (hdT s).args)∧RdT w 0 d Ab nb (bdT s)∧(hdT s).args.length≤ca)∧(hdT s).word.size≤9223372036854775807∧(hdT s).args.length≤9223372036854775807∧(∀ a∈(hdT s).args,a.size≤9223372036854775807)∧OkT d (bdT s)) (fun i hi=>by
    have h1:=hel i hi
    rw[List.getElem?_eq_getElem Zq6,cells_Stmt] at h1
    obtain ⟨cs',hc,ht'⟩:=Option.bind_eq_some_iff.1 h1
    obtain ⟨k,wd,v2,ct,v4,m,y2,y4,rfl,hm',hw,t2,t4⟩:=open_stmt ht'
    obtain ⟨Aa,ca,args,rfl,ha,hs,hr,hcap⟩:=open_strings_c t2
    obtain ⟨Ab,nb,cb,bd,rfl,_,_,hrb,hok⟩:=ih m Zq6 v4 y4 t4
    exact ⟨mkT ⟨k,wd,args,ct⟩ bd,⟨Aa,ca,Ab,nb,cb,hc,hr.rdl,hrb,hcap⟩,hw,ha,hs,hok⟩)
   refine ⟨some a,len,cap,l,rfl,hl,hm,⟨hll,fun h0=>?_⟩,⟨by have:maxLen=9223372036854775807:=rfl;omega,fun s hs=>?_⟩⟩
   ·have hcells:∀ (i:Nat) (s:Tr (d+1)),l[i]?=some s→∃ Aa ca Ab nb cb,(∀ j u,([.int .i64 (hdT s).k,.string (hdT s).word,.slice Aa (hdT s).args.length ca,.int .i64 (hdT s).count,.slice Ab nb cb]:List Value)[j]?=some u→w.cell? (a.add (i*5+j))=some u) ∧
      RdL w 0 1 Aa (hdT s).args.length (strs (hdT s).args)∧RdT w 0 d Ab nb (bdT s)∧(hdT s).args.length≤ca:=by
     intro i s hi
     obtain ⟨⟨Aa,ca,Ab,nb,cb,hc,h2,h3,h4'⟩,_⟩:=hp i s hi
     refine ⟨Aa,ca,Ab,nb,cb,fun j u hu=>?_,h2,h3,h4'⟩
     obtain ⟨_,_,hat⟩:=World.cells?_some hc
     have hj:j<5:=by
      have:=(List.getElem?_eq_some_iff.1 hu).1
      simpa using this
     have h4:=hat j hj
     rw[Go.Deep.add_add,hu] at h4
     exact h4
    obtain ⟨s0,hs0⟩:∃ s,l[0]?=some s:=⟨_,List.getElem?_eq_getElem Zq6⟩
    obtain ⟨_,_,_,_,_,hc0,_,_,_⟩:=hcells 0 s0 hs0
    have hc00:=hc0 0 _ rfl
    obtain ⟨b,off,spot⟩:=a
    have hspot:spot=none:=by simpa [Addr.add] using World.cell?_spot hc00
    subst hspot
    refine ⟨b,off,rfl,Nat.zero_le _,by simpa [Addr.add] using block_of_cell hc00,fun i s hi=>?_⟩
    obtain ⟨Aa,ca,Ab,nb,cb,hc,h2,h3,h4⟩:=hcells i s hi
    refine ⟨Aa,ca,Ab,nb,cb,⟨?_,?_,?_,?_,?_⟩,h2,h3,h4⟩
    ·have:=hc 0 _ rfl;rwa [add_plain] at this
    ·have:=hc 1 _ rfl;rwa [add_plain] at this
    ·have:=hc 2 _ rfl;rwa [add_plain] at this
    ·have:=hc 3 _ rfl;rwa [add_plain] at this
    ·have:=hc 4 _ rfl;rwa [add_plain] at this
   ·obtain ⟨i,hi⟩:=List.getElem?_of_mem hs
    exact(hp i s hi).2
end
end Go.Proofs.YthkbckkghnbonaaGreatDoor
namespace Go.Proofs.YthkbckkghnbonaaGreatDoor
open Go.RowKit
set_option linter.unusedVariables false
theorem boxcells2 {w w':World} {b:Nat} {x0 x1:Value} {t:TypeId} (lay:Below w'.heap.size w' w) (h:w'.heap[b]?=some (.cells #[x0,x1] t (0,0))) :
  w.cell? ⟨b,0,none⟩=some x0∧w.cell? ⟨b,1,none⟩=some x1:=by
 have h':w.heap[b]?=some (.cells #[x0,x1] t (0,0)):=(lay.block b (lt_of_block h)).trans h
 exact ⟨by simp [World.cell?,h'],by simp [World.cell?,h']⟩
theorem szProgram_any (d lo:Nat) (Aq:Option Addr) (m cq:Nat) (qs:List ByteArray) (l:List (Tr d)) (Ab:Option Addr) (nb cb:Nat) (left:Int) (w:World)
  (hra:Rd w 1 Aq m (strs qs)) (hrb:RdT w lo d Ab nb l) (hm:qs.length=m) (h2:m≤9223372036854775807) (h3:∀ a∈qs,a.size≤9223372036854775807) (h4:OkT d l) (h5:0≤left) (h6:left≤1099511627776) :
  Calls Tryz.prog 16 #[.agg #[.slice Aq m cq,.slice Ab nb cb],.int .i64 left] w fun e w' =>
   e=.returned (.int .i64 (subSz left (m+szS qs+szT d l)))∧Below w.heap.size w w'∧w.heap.size≤w'.heap.size:=by
 have b0:Below w.heap.size w (w.alloc (.cells #[.slice Aq m cq,.slice Ab nb cb] 36)):=Zq0
 have HA:=hD (hra.below b0)
 have HB:=hD (hrb.below b0)
 have H3:=hD h3
 have H4:=hD h4
 obtain ⟨z,hz⟩:∃ z,z=szS qs:=⟨_,rfl⟩
 obtain ⟨y,hy⟩:∃ y,y=szT d l:=⟨_,rfl⟩
 rw[←hz,←hy]
 have HM:=hD hm
 have HZ:=hD hz
 have HY:=hD hy
 clear b0 hra hrb h3 h4 hm hz hy
 by_cases c2:left<m+z
 ·have HF:=hD (subSz_neg (left:=left) (m:=m+z+y) Zq6)
  have HS:=hD (subSz_neg (left:=left) (m:=m+z) Zq6)
  go_enter Tryz.func16,Tryz.ntmps16
  go_wp2_with fail
  refine(szStringS_any _ _ _ qs _ _ HA.out HM.out h2 H3.out Zq6 Zq6).mono ?_
  rintro e w' ⟨rfl,rfl⟩
  rw[←HZ.out,HS.out]
  go_wp2_with fail
  go_ret
  exact ⟨by rw[HF.out];rfl,Zq0,Zq5⟩
 have HS:=hD (subSz_pos (left:=left) (m:=m+z) Zq6)
 have c2':0≤left - ((m:Int)+(z:Int)):=by omega
 by_cases c3:left - ((m:Int)+(z:Int))<y
 ·have HF:=hD (subSz_neg (left:=left) (m:=m+z+y) Zq6)
  have HT:=hD (subSz_neg (left:=left - ((m:Int)+(z:Int))) (m:=y) Zq6)
  go_enter Tryz.func16,Tryz.ntmps16
  go_wp2_with fail
  refine(szStringS_any _ _ _ qs _ _ HA.out HM.out h2 H3.out Zq6 Zq6).mono ?_
  rintro e w' ⟨rfl,rfl⟩
  rw[←HZ.out,HS.out]
  go_wp2_with fail
  refine(szStmtS_any d lo _ _ _ l _ _ HB.out H4.out Zq6 Zq6).mono ?_
  rintro e w1 ⟨rfl,b1,s1⟩
  simp at s1
  rw[←HY.out,HT.out]
  go_wp2_with fail
  go_ret
  exact ⟨by rw[HF.out];rfl,Zq0,Zq5⟩
 have HT:=hD (subSz_pos (left:=left - ((m:Int)+(z:Int))) (m:=y) Zq6)
 have HF:=hD ((subSz_pos (left:=left) (m:=m+z+y) Zq6).trans (show left - ((m+z+y:Nat):Int)=left - ((m:Int)+(z:Int)) - (y:Int) by omega))
 go_enter Tryz.func16,Tryz.ntmps16
 go_wp2_with fail
 refine(szStringS_any _ _ _ qs _ _ HA.out HM.out h2 H3.out Zq6 Zq6).mono ?_
 rintro e w' ⟨rfl,rfl⟩
 rw[←HZ.out,HS.out]
 go_wp2_with fail
 refine(szStmtS_any d lo _ _ _ l _ _ HB.out H4.out Zq6 Zq6).mono ?_
 rintro e w1 ⟨rfl,b1,s1⟩
 simp at s1
 rw[←HY.out,HT.out]
 go_wp2_with fail
 go_ret
 exact ⟨by rw[HF.out];rfl,Zq0,Zq5⟩
def RetP (d m nb:Nat) (qs:List ByteArray) (l:List (Tr d)) (w:World) (e:Ending) (w':World):Prop :=
 ∃ Aq cq Ab cb,e=.returned (.agg #[.slice Aq m cq,.slice Ab nb cb])∧RdL w' w.heap.size 1 Aq m (strs qs)∧RdT w' w.heap.size d Ab nb l∧Below w.heap.size w w'∧w.heap.size≤w'.heap.size
theorem toProgram_any (d lo:Nat) (Aq:Option Addr) (m cq:Nat) (qs:List ByteArray) (l:List (Tr d)) (Ab:Option Addr) (nb cb:Nat) (w:World)
  (hra:Rd w 1 Aq m (strs qs)) (hrb:RdT w lo d Ab nb l) (hm:qs.length=m) (h1:m≤1048576) (h2:szT d l≤1048576) :
  Calls Tryz.prog 18 #[.agg #[.slice Aq m cq,.slice Ab nb cb]] w (RetP d m nb qs l w):=by
 have HM:=hD hm
 have HA:=hD hra
 have HB:=hD hrb
 clear hm hra hrb
 go_enter Tryz.func18,Tryz.ntmps18
 go_wp2_with fail
 obtain ⟨w0,hw0⟩:∃ w0,w0=((w.alloc (.cells #[.slice Aq m cq,.slice Ab nb cb] 36)).alloc (.cells #[.slice none 0 0,.slice none 0 0] 27)).alloc (.cells #[.slice none 0 0,.slice none 0 0] 27):=⟨_,rfl⟩
 rw[←hw0]
 have x0:w0.heap[w.heap.size]?=some (.cells #[.slice Aq m cq,.slice Ab nb cb] 36 (0,0)):=by rw[hw0];exact boxed3_0 _ _ _ _
 have x1:w0.heap[w.heap.size+1]?=some (.cells #[.slice none 0 0,.slice none 0 0] 27 (0,0)):=by rw[hw0];exact boxed3_1 _ _ _ _
 have x2:w0.heap[w.heap.size+2]?=some (.cells #[.slice none 0 0,.slice none 0 0] 27 (0,0)):=by rw[hw0];exact boxed3_2 _ _ _ _
 have b0:Below w.heap.size w w0:=by rw[hw0];exact Zq0
 have s0:w.heap.size+3=w0.heap.size:=by rw[hw0];simp
 have S0:=hD s0
 have X0:=hD x0
 have X1:=hD x1
 have X2:=hD x2
 clear hw0 s0 x0 x1 x2
 refine(toStringS_any _ _ _ qs _ (HA.out.below b0) HM.out Zq6).mono ?_
 rintro e w1 ⟨v1,rfl,o1,b1,s1⟩
 obtain ⟨A1,c1,rfl,_,_,_⟩:=rd_of_own o1
 obtain ⟨p0,p1⟩:=boxcells2 (lay:=b1) X0.out
 obtain ⟨q0,q1⟩:=boxcells2 (lay:=b1) X2.out
 have f0:=boxfree b1 X2.out 0
 go_wp2_with fail
 obtain ⟨w2,hw2⟩:∃ w2,w2=w1.setCell ⟨w.heap.size+2,0,none⟩ (.slice A1 m c1):=⟨_,rfl⟩
 rw[←hw2]
 have hS:=S0.out
 have y1:w2.heap[w.heap.size+1]?=some (.cells #[.slice none 0 0,.slice none 0 0] 27 (0,0)):=by
  rw[hw2];exact heap_set_far ((b1.block _ Zq6).trans X1.out) Zq11 _
 have y2:w2.heap[w.heap.size+2]?=some (.cells #[.slice A1 m c1,.slice none 0 0] 27 (0,0)):=by
  rw[hw2];exact heap_set_self ((b1.block _ Zq6).trans X2.out) _
 have b2:Below w.heap.size w w2:=by rw[hw2];exact(b0.trans (b1.mono Zq6)).setCell Zq11 _
 have s2:w1.heap.size=w2.heap.size:=by rw[hw2,size_setCell]
 have r1:RdL w2 (w.heap.size+3) 1 A1 m (strs qs):=by
  rw[hw2];exact(rdl_own o1).lower Zq6 |>.set_ Zq11 _
 have Y1:=hD y1
 have Y2:=hD y2
 have R1:=hD r1
 have S2:=hD s2
 clear hw2 y1 y2 r1 s2 p0 p1 q0 q1 f0 o1 hS
 refine(toStmtS_any d lo _ _ _ l _ (HB.out.below b2) h2).mono ?_
 rintro e w3 ⟨A3,c3,rfl,r3,b3,s3⟩
 obtain ⟨t0,t1⟩:=boxcells2 (lay:=b3) Y1.out
 obtain ⟨u0,u1⟩:=boxcells2 (lay:=b3) Y2.out
 have g0:=boxfree b3 Y1.out 0
 have g1:=boxfree b3 Y1.out 1
 have g5:=boxfree b3 Y2.out 1
 have R3:=hD r3
 clear r3
 go_wp2_with fail
 have hS:=S0.out
 have hS2:=S2.out
 refine bodyPost_ret (v:=.agg #[.slice A1 m c1,.slice A3 nb c3]) (by simp [results,Tryz.results18,go_sem,t0,t1]) rfl ⟨A1,c1,A3,c3,rfl,?_,?_,?_,?_⟩
 ·exact RdL.lower (lo:=w.heap.size+3) ((((R1.out.below b3).set_ Zq11 _).set_ Zq11 _).set_ Zq11 _) Zq6
 ·exact RdT.lower (lo:=w2.heap.size) Zq6 (((R3.out.set_ Zq9 _).set_ Zq9 _).set_ Zq9 _)
 ·exact((((b2.trans (b3.mono Zq6)).setCell Zq5 _).setCell Zq5 _).setCell Zq5 _)
 ·simp [World.setCell];omega
theorem eqProgram_any (d lo lo':Nat) (m nb:Nat) (qs:List ByteArray) (l:List (Tr d)) (Aq:Option Addr) (cq:Nat) (Ab:Option Addr) (cb:Nat) (Aq':Option Addr) (cq':Nat) (Ab':Option Addr) (cb':Nat) (w:World)
  (hra:Rd w 1 Aq m (strs qs)) (hrb:RdT w lo d Ab nb l) (hra':Rd w 1 Aq' m (strs qs)) (hrb':RdT w lo' d Ab' nb l) (hm:qs.length=m) (h1:m≤1048576) (h2:szT d l≤1048576) :
  Calls Tryz.prog 21 #[.agg #[.slice Aq m cq,.slice Ab nb cb],.agg #[.slice Aq' m cq',.slice Ab' nb cb']] w fun e w' =>
   e=.returned (.bool true)∧Below w.heap.size w w'∧w.heap.size≤w'.heap.size:=by
 have HM:=hD hm
 have HA:=hD hra
 have HB:=hD hrb
 have HA':=hD hra'
 have HB':=hD hrb'
 clear hm hra hrb hra' hrb'
 go_enter Tryz.func21,Tryz.ntmps21
 go_wp2_with fail
 obtain ⟨w0,hw0⟩:∃ w0,w0=(w.alloc (.cells #[.slice Aq m cq,.slice Ab nb cb] 27)).alloc (.cells #[.slice Aq' m cq',.slice Ab' nb cb'] 27):=⟨_,rfl⟩
 rw[←hw0]
 have X0:=hD (show w0.heap[w.heap.size]?=some (.cells #[.slice Aq m cq,.slice Ab nb cb] 27 (0,0)) by rw[hw0];exact boxed2_0 _ _ _)
 have X1:=hD (show w0.heap[w.heap.size+1]?=some (.cells #[.slice Aq' m cq',.slice Ab' nb cb'] 27 (0,0)) by rw[hw0];exact boxed2_1 _ _ _)
 have b0:Below w.heap.size w w0:=by rw[hw0];exact Zq0
 have s0:w.heap.size≤w0.heap.size:=b0.size
 clear hw0
 refine(eqStringS_same _ _ _ _ _ qs _ HM.out Zq6 (HA.out.below b0) (HA'.out.below b0)).mono ?_
 rintro e w1 ⟨rfl,b1,s1⟩
 obtain ⟨_,p4⟩:=boxcells2 (lay:=b1) X0.out
 obtain ⟨_,q4⟩:=boxcells2 (lay:=b1) X1.out
 have b01:Below w.heap.size w w1:=b0.trans (b1.mono s0)
 go_wp2_with fail
 refine(eqStmtS_any d lo lo' _ _ _ _ _ l _ (HB.out.below b01) (HB'.out.below b01) h2).mono ?_
 rintro e w2 ⟨rfl,b2,s2⟩
 go_wp2_with fail
 go_ret
 exact ⟨rfl,b01.trans (b2.mono Zq6),by omega⟩
end Go.Proofs.YthkbckkghnbonaaGreatDoor
