/- What the calls that this law reaches answer, part 9 of 15. -/
import Derived.Test.YthkbckkghnbonaaJFBits8
import Derived.Test.YthkbckkghnbonaaJFBits4
import Derived.Test.YthkbckkghnbonaaJFBits1
import Derived.Test.YthkbckkghnbonaaJFBits2
set_option maxRecDepth 100000
set_option maxHeartbeats 16000000
set_option linter.unusedVariables false
namespace Go.Proofs.Ythkbckkghnbonaa
open Go.RowKit
set_option linter.unusedVariables false
def allW (l:List ByteArray):Bool:=l.all wordOk
def vR3 (k:Int) (word:ByteArray) (args:List ByteArray) (count:Int) (nb:Nat) (V:Bool):Bool:=headV k word args.length count nb&&(args.all wordOk&&V)
section
variable {k:Int} {word:ByteArray} {args:List ByteArray} {count:Int} {nb:Nat} {V:Bool}
theorem vR3_h (h:headV k word args.length count nb=false):vR3 k word args count nb V=false:=by simp [vR3,h]
theorem vR3_w (h:args.all wordOk=false):vR3 k word args count nb V=false:=by simp [vR3,h]
theorem vR3_t (h1:headV k word args.length count nb=true) (h2:args.all wordOk=true):vR3 k word args count nb V=V:=by rw[vR3,h1,h2];simp
end
theorem l17Words_any (A:Option Addr) (n c:Nat) (l:List ByteArray) (w:World) (h:Rd w 1 A n (strs l)) (hl:l.length=n) (hn:n≤1099511627776) (hz:szS l≤1048576) :
  Calls Try.prog 33 #[.slice A n c] w fun e w'=>e=.returned (.bool (allW l))∧w=w':=by
 have H:=hD h
 have HL:=hD hl
 clear h hl
 go_enter Try.func33,Try.ntmps33
 go_wp2
 go_loop [3] (fun i=>∃ t:Nat,t≤n∧i=.int .i64 t∧allW (l.take t)=true) (fun i=>n - (intOf i).toNat)
 case atStart=>exact ⟨0,Nat.zero_le _,rfl,rfl⟩
 case round =>
  obtain ⟨t,ht,rfl,hok⟩:=hrel
  have HOK:=hD hok
  clear hok
  by_cases hlt:t<n
  ·have htl:t<l.length:=by rw[HL.out];exact hlt
   obtain ⟨s,hs⟩:∃ s,l[t]?=some s:=⟨_,List.getElem?_eq_getElem htl⟩
   obtain ⟨b,off,rfl,_,hc⟩:=H.out.2 Zq1
   have q0:=hc t _ (strs_at hs)
   have hsz:=szS_mem hs
   have HS:=hD hs
   have hs63:s.size≤9223372036854775807:=by omega
   clear hc hs htl hsz
   cases hw:wordOk s
   ·have HF:=hD (show allW l=false by rw[allW,List.all_eq_false];exact ⟨s,List.mem_of_getElem? HS.out,by simp [hw]⟩)
    go_wp2_with (go_at_call 43;refine(IsValidWord_spec _ _ hs63).mono ?_;rintro e w' ⟨rfl,rfl⟩)
    go_ret
    exact ⟨by rw[HF.out];rfl,rfl⟩
   ·have HN:=hD (show allW (l.take (t+1))=true by
     have h:=HOK.out
     rw[allW] at h ⊢
     rw[all_take _ HS.out,h,hw]
     rfl)
    go_wp2_with (go_at_call 43;refine(IsValidWord_spec _ _ hs63).mono ?_;rintro e w' ⟨rfl,rfl⟩)
    go_round
    case rel=>exact ⟨t+1,by omega,by go_num,HN.out⟩
    case measure=>simp [intOf];omega
  ·obtain rfl:t=n:=by omega
   have HF:Hid (allW l=true):=by
    have h:=HOK.out
    rw[List.take_of_length_le (by rw[HL.out];exact Nat.le_refl _)] at h
    exact h
   go_wp2_with fail
   go_ret
   exact ⟨by rw[HF.out];rfl,rfl⟩
theorem vst_spec_1 (word:ByteArray) (args:List ByteArray) (count:Int) (Aa:Option Addr) (ca:Nat) (Ab:Option Addr) (nb cb:Nat) (w:World) (V:Bool) (hra:Rd w 1 Aa args.length (strs args)) (hz:szS args≤1048576) (hl:args.length≤1048576) (hn:nb≤1048576)
  (hall:∀ w',Below w.heap.size w w'→Calls Try.prog 34 #[.slice Ab nb cb] w' fun e w''=>e=.returned (.bool V)∧Below w'.heap.size w' w''∧w'.heap.size≤w''.heap.size) :
  Calls Try.prog 44 #[.agg #[.int .i64 1,.string word,.slice Aa args.length ca,.int .i64 count,.slice Ab nb cb]] w fun e w'=>e=.returned (.bool (vR3 1 word args count nb V))∧Below w.heap.size w w'∧w.heap.size≤w'.heap.size:=by
 obtain ⟨m,hm0⟩:∃ m,m=args.length:=⟨_,rfl⟩
 rw[←hm0] at hl hra ⊢
 have HM:=hD hm0
 have HRA:=hD hra
 have HALL:=hD hall
 clear hra hall hm0
 have hB:hasB 1=false:=rfl
 have hIN:inB 1 1 7=true:=rfl
 have HAW:Hid (allW args=args.all wordOk):=hD rfl
 obtain ⟨w0,hw0⟩:∃ w0,w0=w.alloc (.cells #[.int .i64 1,.string word,.slice Aa m ca,.int .i64 count,.slice Ab nb cb] 42):=⟨_,rfl⟩
 have X0:=hD (show w0.heap[w.heap.size]?=some (.cells #[.int .i64 1,.string word,.slice Aa m ca,.int .i64 count,.slice Ab nb cb] 42 (0,0)) by rw[hw0];exact boxed1_0 _ _)
 have b0:Below w.heap.size w w0:=by rw[hw0];exact Zq0
 have hs0:w.heap.size≤w0.heap.size:=b0.size
 have B0:=hD b0
 have HW:=hD hw0
 clear b0 hw0
 by_cases hm:(m:Int)=(nargs 1 word:Int)
 ·have e1:((m:Int) != (nargs 1 word:Int))=false:=by simpa using hm
  have hmn:m=ar (gkind word):=by have:nargs 1 word=ar (gkind word):=rfl;omega
  have HMN:=hD hmn
  clear hm hmn
  cases hwo:args.all wordOk
  ·have HWO:=hD hwo
   have hAW:=HAW.out.trans hwo
   clear hwo
   have HF:=hD (vR3_w (k:=1) (word:=word) (args:=args) (count:=count) (nb:=nb) (V:=V) HWO.out)
   go_enter Try.func44,Try.ntmps44
   go_wp2_with fail
   rw[←HW.out]
   refine(l17Args_any _ _ _ _ _ _ ⟨_,_,_,rfl⟩ ⟨_,_,_,rfl⟩).mono ?_
   rintro e w1 ⟨rfl,b1,s1⟩
   obtain ⟨p0,p1,p2,p3,p4⟩:=boxcells5 (lay:=b1) X0.out
   have hB1:Below w.heap.size w w1:=B0.out.trans (b1.mono hs0)
   have hS1:w.heap.size≤w1.heap.size:=hB1.size
   have HR1:=hD (HRA.out.below hB1)
   have HBB:=hD hB1
   clear hB1
   go_wp2_with (first|(go_at_call 32;refine(l1In_any _ _ _ _).mono ?_;rintro e w' ⟨rfl,rfl⟩)|(go_at_call 33;refine(l17Words_any _ _ _ args _ (by exact HR1.out) HM.out.symm Zq1 hz).mono ?_;rintro e w' ⟨rfl,rfl⟩))
   go_ret
   exact ⟨by rw[HF.out];rfl,HBB.out,hS1⟩
  ·have HWO:=hD hwo
   have hAW:=HAW.out.trans hwo
   clear hwo
   by_cases hb:nb=0
   ·have e3:decide (0<(nb:Int))=false:=by simp;omega
    have e3n:decide (0<nb)=false:=by simp;omega
    have HNB:=hD hb
    clear hb
    by_cases hw:word.toList=[]
    ·have e2:word.toList.isEmpty=true:=by simp [hw]
     have HWE:=hD hw
     have HGE:=hD (show ar (gkind word)=0 by rw[gkind_empty hw];rfl)
     clear hw
     have HF:=hD (vR3_h (k:=1) (word:=word) (args:=args) (count:=count) (nb:=nb) (V:=V) (by rw[←HM.out];simp [headV,nargs,okCount,hasB,inB,HMN.out,HNB.out,HWE.out,HGE.out]))
     go_enter Try.func44,Try.ntmps44
     go_wp2_with fail
     rw[←HW.out]
     refine(l17Args_any _ _ _ _ _ _ ⟨_,_,_,rfl⟩ ⟨_,_,_,rfl⟩).mono ?_
     rintro e w1 ⟨rfl,b1,s1⟩
     obtain ⟨p0,p1,p2,p3,p4⟩:=boxcells5 (lay:=b1) X0.out
     have hB1:Below w.heap.size w w1:=B0.out.trans (b1.mono hs0)
     have hS1:w.heap.size≤w1.heap.size:=hB1.size
     have HR1:=hD (HRA.out.below hB1)
     have HBB:=hD hB1
     clear hB1
     go_wp2_with (first|(go_at_call 32;refine(l1In_any _ _ _ _).mono ?_;rintro e w' ⟨rfl,rfl⟩)|(go_at_call 33;refine(l17Words_any _ _ _ args _ (by exact HR1.out) HM.out.symm Zq1 hz).mono ?_;rintro e w' ⟨rfl,rfl⟩))
     go_ret
     exact ⟨by rw[HF.out];rfl,HBB.out,hS1⟩
    ·have e2:word.toList.isEmpty=false:=by rw[List.isEmpty_eq_false_iff];exact hw
     have HWE:=hD hw
     clear hw
     by_cases g0:nargs 1 word=0
     ·have e0:((nargs 1 word:Int)==0)=true:=by rw[g0];rfl
      have HG0:=hD (show ar (gkind word)=0 from g0)
      clear g0
      have HF:=hD (vR3_h (k:=1) (word:=word) (args:=args) (count:=count) (nb:=nb) (V:=V) (by rw[←HM.out];simp [headV,nargs,okCount,hasB,inB,HG0.out]))
      go_enter Try.func44,Try.ntmps44
      go_wp2_with fail
      rw[←HW.out]
      refine(l17Args_any _ _ _ _ _ _ ⟨_,_,_,rfl⟩ ⟨_,_,_,rfl⟩).mono ?_
      rintro e w1 ⟨rfl,b1,s1⟩
      obtain ⟨p0,p1,p2,p3,p4⟩:=boxcells5 (lay:=b1) X0.out
      have hB1:Below w.heap.size w w1:=B0.out.trans (b1.mono hs0)
      have hS1:w.heap.size≤w1.heap.size:=hB1.size
      have HR1:=hD (HRA.out.below hB1)
      have HBB:=hD hB1
      clear hB1
      go_wp2_with (first|(go_at_call 32;refine(l1In_any _ _ _ _).mono ?_;rintro e w' ⟨rfl,rfl⟩)|(go_at_call 33;refine(l17Words_any _ _ _ args _ (by exact HR1.out) HM.out.symm Zq1 hz).mono ?_;rintro e w' ⟨rfl,rfl⟩))
      go_ret
      exact ⟨by rw[HF.out];rfl,HBB.out,hS1⟩
     ·have e0:((nargs 1 word:Int)==0)=false:=by rw[beq_eq_false_iff_ne];omega
      have HGW:=hD (show ar (gkind word)≠0 from g0)
      clear g0
      by_cases hc:count=0
      ·subst hc
       have HH:=hD (show headV 1 word args.length 0 nb=true by rw[←HM.out];simp [headV,nargs,okCount,hasB,inB,HMN.out,HNB.out,HWE.out,HGW.out])
       have HF:=hD (vR3_t (V:=V) HH.out HWO.out)
       go_enter Try.func44,Try.ntmps44
       go_wp2_with fail
       rw[←HW.out]
       refine(l17Args_any _ _ _ _ _ _ ⟨_,_,_,rfl⟩ ⟨_,_,_,rfl⟩).mono ?_
       rintro e w1 ⟨rfl,b1,s1⟩
       obtain ⟨p0,p1,p2,p3,p4⟩:=boxcells5 (lay:=b1) X0.out
       have hB1:Below w.heap.size w w1:=B0.out.trans (b1.mono hs0)
       have hS1:w.heap.size≤w1.heap.size:=hB1.size
       have HR1:=hD (HRA.out.below hB1)
       have HBB:=hD hB1
       clear hB1
       go_wp2_with (first|(go_at_call 32;refine(l1In_any _ _ _ _).mono ?_;rintro e w' ⟨rfl,rfl⟩)|(go_at_call 33;refine(l17Words_any _ _ _ args _ (by exact HR1.out) HM.out.symm Zq1 hz).mono ?_;rintro e w' ⟨rfl,rfl⟩))
       refine(HALL.out _ HBB.out).mono ?_
       rintro e w2 ⟨rfl,b2,s2⟩
       go_wp2_with fail
       go_ret
       exact ⟨by rw[HF.out];rfl,HBB.out.trans (b2.mono hS1),by omega⟩
      ·have e4:(count != 0)=true:=by rw[bne_iff_ne];exact hc
       have HF:=hD (vR3_h (k:=1) (word:=word) (args:=args) (count:=count) (nb:=nb) (V:=V) (by rw[←HM.out];simp [headV,nargs,okCount,hasB,inB,HMN.out,HNB.out,HWE.out,HGW.out,hc]))
       go_enter Try.func44,Try.ntmps44
       go_wp2_with fail
       rw[←HW.out]
       refine(l17Args_any _ _ _ _ _ _ ⟨_,_,_,rfl⟩ ⟨_,_,_,rfl⟩).mono ?_
       rintro e w1 ⟨rfl,b1,s1⟩
       obtain ⟨p0,p1,p2,p3,p4⟩:=boxcells5 (lay:=b1) X0.out
       have hB1:Below w.heap.size w w1:=B0.out.trans (b1.mono hs0)
       have hS1:w.heap.size≤w1.heap.size:=hB1.size
       have HR1:=hD (HRA.out.below hB1)
       have HBB:=hD hB1
       clear hB1
       go_wp2_with (first|(go_at_call 32;refine(l1In_any _ _ _ _).mono ?_;rintro e w' ⟨rfl,rfl⟩)|(go_at_call 33;refine(l17Words_any _ _ _ args _ (by exact HR1.out) HM.out.symm Zq1 hz).mono ?_;rintro e w' ⟨rfl,rfl⟩))
       go_ret
       exact ⟨by rw[HF.out];rfl,HBB.out,hS1⟩
   ·have e3:decide (0<(nb:Int))=true:=by simp;omega
    have e3n:decide (0<nb)=true:=by simp;omega
    have HNB:=hD hb
    clear hb
    have HF:=hD (vR3_h (k:=1) (word:=word) (args:=args) (count:=count) (nb:=nb) (V:=V) (by rw[←HM.out];simp [headV,nargs,okCount,hasB,inB,HNB.out]))
    go_enter Try.func44,Try.ntmps44
    go_wp2_with fail
    rw[←HW.out]
    refine(l17Args_any _ _ _ _ _ _ ⟨_,_,_,rfl⟩ ⟨_,_,_,rfl⟩).mono ?_
    rintro e w1 ⟨rfl,b1,s1⟩
    obtain ⟨p0,p1,p2,p3,p4⟩:=boxcells5 (lay:=b1) X0.out
    have hB1:Below w.heap.size w w1:=B0.out.trans (b1.mono hs0)
    have hS1:w.heap.size≤w1.heap.size:=hB1.size
    have HR1:=hD (HRA.out.below hB1)
    have HBB:=hD hB1
    clear hB1
    go_wp2_with (first|(go_at_call 32;refine(l1In_any _ _ _ _).mono ?_;rintro e w' ⟨rfl,rfl⟩)|(go_at_call 33;refine(l17Words_any _ _ _ args _ (by exact HR1.out) HM.out.symm Zq1 hz).mono ?_;rintro e w' ⟨rfl,rfl⟩))
    go_ret
    exact ⟨by rw[HF.out];rfl,HBB.out,hS1⟩
 ·have e1:((m:Int) != (nargs 1 word:Int))=true:=by rw[bne_iff_ne];exact hm
  have hmn:m≠ar (gkind word):=by have:nargs 1 word=ar (gkind word):=rfl;omega
  have HMN:=hD hmn
  clear hm hmn
  have HF:=hD (vR3_h (k:=1) (word:=word) (args:=args) (count:=count) (nb:=nb) (V:=V) (by rw[←HM.out];simp [headV,nargs,okCount,hasB,inB,HMN.out]))
  go_enter Try.func44,Try.ntmps44
  go_wp2_with fail
  rw[←HW.out]
  refine(l17Args_any _ _ _ _ _ _ ⟨_,_,_,rfl⟩ ⟨_,_,_,rfl⟩).mono ?_
  rintro e w1 ⟨rfl,b1,s1⟩
  obtain ⟨p0,p1,p2,p3,p4⟩:=boxcells5 (lay:=b1) X0.out
  have hB1:Below w.heap.size w w1:=B0.out.trans (b1.mono hs0)
  have hS1:w.heap.size≤w1.heap.size:=hB1.size
  have HR1:=hD (HRA.out.below hB1)
  have HBB:=hD hB1
  clear hB1
  go_wp2_with (first|(go_at_call 32;refine(l1In_any _ _ _ _).mono ?_;rintro e w' ⟨rfl,rfl⟩)|(go_at_call 33;refine(l17Words_any _ _ _ args _ (by exact HR1.out) HM.out.symm Zq1 hz).mono ?_;rintro e w' ⟨rfl,rfl⟩))
  go_ret
  exact ⟨by rw[HF.out];rfl,HBB.out,hS1⟩
theorem vst_spec_2 (word:ByteArray) (args:List ByteArray) (count:Int) (Aa:Option Addr) (ca:Nat) (Ab:Option Addr) (nb cb:Nat) (w:World) (V:Bool) (hra:Rd w 1 Aa args.length (strs args)) (hz:szS args≤1048576) (hl:args.length≤1048576) (hn:nb≤1048576)
  (hall:∀ w',Below w.heap.size w w'→Calls Try.prog 34 #[.slice Ab nb cb] w' fun e w''=>e=.returned (.bool V)∧Below w'.heap.size w' w''∧w'.heap.size≤w''.heap.size) :
  Calls Try.prog 44 #[.agg #[.int .i64 2,.string word,.slice Aa args.length ca,.int .i64 count,.slice Ab nb cb]] w fun e w'=>e=.returned (.bool (vR3 2 word args count nb V))∧Below w.heap.size w w'∧w.heap.size≤w'.heap.size:=by
 obtain ⟨m,hm0⟩:∃ m,m=args.length:=⟨_,rfl⟩
 rw[←hm0] at hl hra ⊢
 have HM:=hD hm0
 have HRA:=hD hra
 have HALL:=hD hall
 clear hra hall hm0
 have hB:hasB 2=true:=rfl
 have hIN:inB 2 1 7=true:=rfl
 have HAW:Hid (allW args=args.all wordOk):=hD rfl
 obtain ⟨w0,hw0⟩:∃ w0,w0=w.alloc (.cells #[.int .i64 2,.string word,.slice Aa m ca,.int .i64 count,.slice Ab nb cb] 42):=⟨_,rfl⟩
 have X0:=hD (show w0.heap[w.heap.size]?=some (.cells #[.int .i64 2,.string word,.slice Aa m ca,.int .i64 count,.slice Ab nb cb] 42 (0,0)) by rw[hw0];exact boxed1_0 _ _)
 have b0:Below w.heap.size w w0:=by rw[hw0];exact Zq0
 have hs0:w.heap.size≤w0.heap.size:=b0.size
 have B0:=hD b0
 have HW:=hD hw0
 clear b0 hw0
 by_cases hm:m=0
 ·subst hm
  have e1:((0:Int) != (nargs 2 word:Int))=false:=rfl
  cases hwo:args.all wordOk
  ·have HWO:=hD hwo
   have hAW:=HAW.out.trans hwo
   clear hwo
   have HF:=hD (vR3_w (k:=2) (word:=word) (args:=args) (count:=count) (nb:=nb) (V:=V) HWO.out)
   go_enter Try.func44,Try.ntmps44
   go_wp2_with fail
   rw[←HW.out]
   refine(l17Args_any _ _ _ _ _ _ ⟨_,_,_,rfl⟩ ⟨_,_,_,rfl⟩).mono ?_
   rintro e w1 ⟨rfl,b1,s1⟩
   obtain ⟨p0,p1,p2,p3,p4⟩:=boxcells5 (lay:=b1) X0.out
   have hB1:Below w.heap.size w w1:=B0.out.trans (b1.mono hs0)
   have hS1:w.heap.size≤w1.heap.size:=hB1.size
   have HR1:=hD (HRA.out.below hB1)
   have HBB:=hD hB1
   clear hB1
   go_wp2_with (first|(go_at_call 32;refine(l1In_any _ _ _ _).mono ?_;rintro e w' ⟨rfl,rfl⟩)|(go_at_call 33;refine(l17Words_any _ _ _ args _ (by exact HR1.out) HM.out.symm Zq1 hz).mono ?_;rintro e w' ⟨rfl,rfl⟩))
   go_ret
   exact ⟨by rw[HF.out];rfl,HBB.out,hS1⟩
  ·have HWO:=hD hwo
   have hAW:=HAW.out.trans hwo
   clear hwo
   by_cases hw:word.toList=[]
   ·have e2:word.toList.isEmpty=true:=by simp [hw]
    have HWE:=hD hw
    clear hw
    cases hc:inB count 1 9
    ·have HC9:=hD (show ¬ (1≤count∧count≤9) from by simpa [inB] using hc)
     have HF:=hD (vR3_h (k:=2) (word:=word) (args:=args) (count:=count) (nb:=nb) (V:=V) (by rw[←HM.out];simp [headV,nargs,okCount,hasB,inB,HWE.out,HC9.out]))
     go_enter Try.func44,Try.ntmps44
     go_wp2_with fail
     rw[←HW.out]
     refine(l17Args_any _ _ _ _ _ _ ⟨_,_,_,rfl⟩ ⟨_,_,_,rfl⟩).mono ?_
     rintro e w1 ⟨rfl,b1,s1⟩
     obtain ⟨p0,p1,p2,p3,p4⟩:=boxcells5 (lay:=b1) X0.out
     have hB1:Below w.heap.size w w1:=B0.out.trans (b1.mono hs0)
     have hS1:w.heap.size≤w1.heap.size:=hB1.size
     have HR1:=hD (HRA.out.below hB1)
     have HBB:=hD hB1
     clear hB1
     go_wp2_with (first|(go_at_call 32;refine(l1In_any _ _ _ _).mono ?_;rintro e w' ⟨rfl,rfl⟩)|(go_at_call 33;refine(l17Words_any _ _ _ args _ (by exact HR1.out) HM.out.symm Zq1 hz).mono ?_;rintro e w' ⟨rfl,rfl⟩))
     go_ret
     exact ⟨by rw[HF.out];rfl,HBB.out,hS1⟩
    ·have HC9:=hD (show 1≤count∧count≤9 from by simpa [inB] using hc)
     have HH:=hD (show headV 2 word args.length count nb=true by rw[←HM.out];simp [headV,nargs,okCount,hasB,inB,HWE.out,HC9.out])
     have HF:=hD (vR3_t (V:=V) HH.out HWO.out)
     go_enter Try.func44,Try.ntmps44
     go_wp2_with fail
     rw[←HW.out]
     refine(l17Args_any _ _ _ _ _ _ ⟨_,_,_,rfl⟩ ⟨_,_,_,rfl⟩).mono ?_
     rintro e w1 ⟨rfl,b1,s1⟩
     obtain ⟨p0,p1,p2,p3,p4⟩:=boxcells5 (lay:=b1) X0.out
     have hB1:Below w.heap.size w w1:=B0.out.trans (b1.mono hs0)
     have hS1:w.heap.size≤w1.heap.size:=hB1.size
     have HR1:=hD (HRA.out.below hB1)
     have HBB:=hD hB1
     clear hB1
     go_wp2_with (first|(go_at_call 32;refine(l1In_any _ _ _ _).mono ?_;rintro e w' ⟨rfl,rfl⟩)|(go_at_call 33;refine(l17Words_any _ _ _ args _ (by exact HR1.out) HM.out.symm Zq1 hz).mono ?_;rintro e w' ⟨rfl,rfl⟩))
     refine(HALL.out _ HBB.out).mono ?_
     rintro e w2 ⟨rfl,b2,s2⟩
     go_wp2_with fail
     go_ret
     exact ⟨by rw[HF.out];rfl,HBB.out.trans (b2.mono hS1),by omega⟩
   ·have e2:word.toList.isEmpty=false:=by rw[List.isEmpty_eq_false_iff];exact hw
    have HWE:=hD hw
    clear hw
    have HF:=hD (vR3_h (k:=2) (word:=word) (args:=args) (count:=count) (nb:=nb) (V:=V) (by rw[←HM.out];simp [headV,nargs,okCount,hasB,inB,HWE.out]))
    go_enter Try.func44,Try.ntmps44
    go_wp2_with fail
    rw[←HW.out]
    refine(l17Args_any _ _ _ _ _ _ ⟨_,_,_,rfl⟩ ⟨_,_,_,rfl⟩).mono ?_
    rintro e w1 ⟨rfl,b1,s1⟩
    obtain ⟨p0,p1,p2,p3,p4⟩:=boxcells5 (lay:=b1) X0.out
    have hB1:Below w.heap.size w w1:=B0.out.trans (b1.mono hs0)
    have hS1:w.heap.size≤w1.heap.size:=hB1.size
    have HR1:=hD (HRA.out.below hB1)
    have HBB:=hD hB1
    clear hB1
    go_wp2_with (first|(go_at_call 32;refine(l1In_any _ _ _ _).mono ?_;rintro e w' ⟨rfl,rfl⟩)|(go_at_call 33;refine(l17Words_any _ _ _ args _ (by exact HR1.out) HM.out.symm Zq1 hz).mono ?_;rintro e w' ⟨rfl,rfl⟩))
    go_ret
    exact ⟨by rw[HF.out];rfl,HBB.out,hS1⟩
 ·have e1:((m:Int) != (nargs 2 word:Int))=true:=by rw[bne_iff_ne];have:nargs 2 word=0:=rfl;omega
  have HF:=hD (vR3_h (k:=2) (word:=word) (args:=args) (count:=count) (nb:=nb) (V:=V) (by rw[←HM.out];simp [headV,nargs,okCount,hasB,inB,hm]))
  go_enter Try.func44,Try.ntmps44
  go_wp2_with fail
  rw[←HW.out]
  refine(l17Args_any _ _ _ _ _ _ ⟨_,_,_,rfl⟩ ⟨_,_,_,rfl⟩).mono ?_
  rintro e w1 ⟨rfl,b1,s1⟩
  obtain ⟨p0,p1,p2,p3,p4⟩:=boxcells5 (lay:=b1) X0.out
  have hB1:Below w.heap.size w w1:=B0.out.trans (b1.mono hs0)
  have hS1:w.heap.size≤w1.heap.size:=hB1.size
  have HR1:=hD (HRA.out.below hB1)
  have HBB:=hD hB1
  clear hB1
  go_wp2_with (first|(go_at_call 32;refine(l1In_any _ _ _ _).mono ?_;rintro e w' ⟨rfl,rfl⟩)|(go_at_call 33;refine(l17Words_any _ _ _ args _ (by exact HR1.out) HM.out.symm Zq1 hz).mono ?_;rintro e w' ⟨rfl,rfl⟩))
  go_ret
  exact ⟨by rw[HF.out];rfl,HBB.out,hS1⟩
theorem vst_spec_3 (word:ByteArray) (args:List ByteArray) (count:Int) (Aa:Option Addr) (ca:Nat) (Ab:Option Addr) (nb cb:Nat) (w:World) (V:Bool) (hra:Rd w 1 Aa args.length (strs args)) (hz:szS args≤1048576) (hl:args.length≤1048576) (hn:nb≤1048576)
  (hall:∀ w',Below w.heap.size w w'→Calls Try.prog 34 #[.slice Ab nb cb] w' fun e w''=>e=.returned (.bool V)∧Below w'.heap.size w' w''∧w'.heap.size≤w''.heap.size) :
  Calls Try.prog 44 #[.agg #[.int .i64 3,.string word,.slice Aa args.length ca,.int .i64 count,.slice Ab nb cb]] w fun e w'=>e=.returned (.bool (vR3 3 word args count nb V))∧Below w.heap.size w w'∧w.heap.size≤w'.heap.size:=by
 obtain ⟨m,hm0⟩:∃ m,m=args.length:=⟨_,rfl⟩
 rw[←hm0] at hl hra ⊢
 have HM:=hD hm0
 have HRA:=hD hra
 have HALL:=hD hall
 clear hra hall hm0
 have hB:hasB 3=true:=rfl
 have hIN:inB 3 1 7=true:=rfl
 have HAW:Hid (allW args=args.all wordOk):=hD rfl
 obtain ⟨w0,hw0⟩:∃ w0,w0=w.alloc (.cells #[.int .i64 3,.string word,.slice Aa m ca,.int .i64 count,.slice Ab nb cb] 42):=⟨_,rfl⟩
 have X0:=hD (show w0.heap[w.heap.size]?=some (.cells #[.int .i64 3,.string word,.slice Aa m ca,.int .i64 count,.slice Ab nb cb] 42 (0,0)) by rw[hw0];exact boxed1_0 _ _)
 have b0:Below w.heap.size w w0:=by rw[hw0];exact Zq0
 have hs0:w.heap.size≤w0.heap.size:=b0.size
 have B0:=hD b0
 have HW:=hD hw0
 clear b0 hw0
 by_cases hm:m=0
 ·subst hm
  have e1:((0:Int) != (nargs 3 word:Int))=false:=rfl
  cases hwo:args.all wordOk
  ·have HWO:=hD hwo
   have hAW:=HAW.out.trans hwo
   clear hwo
   have HF:=hD (vR3_w (k:=3) (word:=word) (args:=args) (count:=count) (nb:=nb) (V:=V) HWO.out)
   go_enter Try.func44,Try.ntmps44
   go_wp2_with fail
   rw[←HW.out]
   refine(l17Args_any _ _ _ _ _ _ ⟨_,_,_,rfl⟩ ⟨_,_,_,rfl⟩).mono ?_
   rintro e w1 ⟨rfl,b1,s1⟩
   obtain ⟨p0,p1,p2,p3,p4⟩:=boxcells5 (lay:=b1) X0.out
   have hB1:Below w.heap.size w w1:=B0.out.trans (b1.mono hs0)
   have hS1:w.heap.size≤w1.heap.size:=hB1.size
   have HR1:=hD (HRA.out.below hB1)
   have HBB:=hD hB1
   clear hB1
   go_wp2_with (first|(go_at_call 32;refine(l1In_any _ _ _ _).mono ?_;rintro e w' ⟨rfl,rfl⟩)|(go_at_call 33;refine(l17Words_any _ _ _ args _ (by exact HR1.out) HM.out.symm Zq1 hz).mono ?_;rintro e w' ⟨rfl,rfl⟩))
   go_ret
   exact ⟨by rw[HF.out];rfl,HBB.out,hS1⟩
  ·have HWO:=hD hwo
   have hAW:=HAW.out.trans hwo
   clear hwo
   by_cases hw:word.toList=[]
   ·have e2:word.toList.isEmpty=true:=by simp [hw]
    have HWE:=hD hw
    clear hw
    by_cases hc:count=0
    ·subst hc
     have HH:=hD (show headV 3 word args.length 0 nb=true by rw[←HM.out];simp [headV,nargs,okCount,hasB,inB,HWE.out])
     have HF:=hD (vR3_t (V:=V) HH.out HWO.out)
     go_enter Try.func44,Try.ntmps44
     go_wp2_with fail
     rw[←HW.out]
     refine(l17Args_any _ _ _ _ _ _ ⟨_,_,_,rfl⟩ ⟨_,_,_,rfl⟩).mono ?_
     rintro e w1 ⟨rfl,b1,s1⟩
     obtain ⟨p0,p1,p2,p3,p4⟩:=boxcells5 (lay:=b1) X0.out
     have hB1:Below w.heap.size w w1:=B0.out.trans (b1.mono hs0)
     have hS1:w.heap.size≤w1.heap.size:=hB1.size
     have HR1:=hD (HRA.out.below hB1)
     have HBB:=hD hB1
     clear hB1
     go_wp2_with (first|(go_at_call 32;refine(l1In_any _ _ _ _).mono ?_;rintro e w' ⟨rfl,rfl⟩)|(go_at_call 33;refine(l17Words_any _ _ _ args _ (by exact HR1.out) HM.out.symm Zq1 hz).mono ?_;rintro e w' ⟨rfl,rfl⟩))
     refine(HALL.out _ HBB.out).mono ?_
     rintro e w2 ⟨rfl,b2,s2⟩
     go_wp2_with fail
     go_ret
     exact ⟨by rw[HF.out];rfl,HBB.out.trans (b2.mono hS1),by omega⟩
    ·have e4:(count != 0)=true:=by rw[bne_iff_ne];exact hc
     have HF:=hD (vR3_h (k:=3) (word:=word) (args:=args) (count:=count) (nb:=nb) (V:=V) (by rw[←HM.out];simp [headV,nargs,okCount,hasB,inB,HWE.out,hc]))
     go_enter Try.func44,Try.ntmps44
     go_wp2_with fail
     rw[←HW.out]
     refine(l17Args_any _ _ _ _ _ _ ⟨_,_,_,rfl⟩ ⟨_,_,_,rfl⟩).mono ?_
     rintro e w1 ⟨rfl,b1,s1⟩
     obtain ⟨p0,p1,p2,p3,p4⟩:=boxcells5 (lay:=b1) X0.out
     have hB1:Below w.heap.size w w1:=B0.out.trans (b1.mono hs0)
     have hS1:w.heap.size≤w1.heap.size:=hB1.size
     have HR1:=hD (HRA.out.below hB1)
     have HBB:=hD hB1
     clear hB1
     go_wp2_with (first|(go_at_call 32;refine(l1In_any _ _ _ _).mono ?_;rintro e w' ⟨rfl,rfl⟩)|(go_at_call 33;refine(l17Words_any _ _ _ args _ (by exact HR1.out) HM.out.symm Zq1 hz).mono ?_;rintro e w' ⟨rfl,rfl⟩))
     go_ret
     exact ⟨by rw[HF.out];rfl,HBB.out,hS1⟩
   ·have e2:word.toList.isEmpty=false:=by rw[List.isEmpty_eq_false_iff];exact hw
    have HWE:=hD hw
    clear hw
    have HF:=hD (vR3_h (k:=3) (word:=word) (args:=args) (count:=count) (nb:=nb) (V:=V) (by rw[←HM.out];simp [headV,nargs,okCount,hasB,inB,HWE.out]))
    go_enter Try.func44,Try.ntmps44
    go_wp2_with fail
    rw[←HW.out]
    refine(l17Args_any _ _ _ _ _ _ ⟨_,_,_,rfl⟩ ⟨_,_,_,rfl⟩).mono ?_
    rintro e w1 ⟨rfl,b1,s1⟩
    obtain ⟨p0,p1,p2,p3,p4⟩:=boxcells5 (lay:=b1) X0.out
    have hB1:Below w.heap.size w w1:=B0.out.trans (b1.mono hs0)
    have hS1:w.heap.size≤w1.heap.size:=hB1.size
    have HR1:=hD (HRA.out.below hB1)
    have HBB:=hD hB1
    clear hB1
    go_wp2_with (first|(go_at_call 32;refine(l1In_any _ _ _ _).mono ?_;rintro e w' ⟨rfl,rfl⟩)|(go_at_call 33;refine(l17Words_any _ _ _ args _ (by exact HR1.out) HM.out.symm Zq1 hz).mono ?_;rintro e w' ⟨rfl,rfl⟩))
    go_ret
    exact ⟨by rw[HF.out];rfl,HBB.out,hS1⟩
 ·have e1:((m:Int) != (nargs 3 word:Int))=true:=by rw[bne_iff_ne];have:nargs 3 word=0:=rfl;omega
  have HF:=hD (vR3_h (k:=3) (word:=word) (args:=args) (count:=count) (nb:=nb) (V:=V) (by rw[←HM.out];simp [headV,nargs,okCount,hasB,inB,hm]))
  go_enter Try.func44,Try.ntmps44
  go_wp2_with fail
  rw[←HW.out]
  refine(l17Args_any _ _ _ _ _ _ ⟨_,_,_,rfl⟩ ⟨_,_,_,rfl⟩).mono ?_
  rintro e w1 ⟨rfl,b1,s1⟩
  obtain ⟨p0,p1,p2,p3,p4⟩:=boxcells5 (lay:=b1) X0.out
  have hB1:Below w.heap.size w w1:=B0.out.trans (b1.mono hs0)
  have hS1:w.heap.size≤w1.heap.size:=hB1.size
  have HR1:=hD (HRA.out.below hB1)
  have HBB:=hD hB1
  clear hB1
  go_wp2_with (first|(go_at_call 32;refine(l1In_any _ _ _ _).mono ?_;rintro e w' ⟨rfl,rfl⟩)|(go_at_call 33;refine(l17Words_any _ _ _ args _ (by exact HR1.out) HM.out.symm Zq1 hz).mono ?_;rintro e w' ⟨rfl,rfl⟩))
  go_ret
  exact ⟨by rw[HF.out];rfl,HBB.out,hS1⟩
theorem vst_spec_4 (word:ByteArray) (args:List ByteArray) (count:Int) (Aa:Option Addr) (ca:Nat) (Ab:Option Addr) (nb cb:Nat) (w:World) (V:Bool) (hra:Rd w 1 Aa args.length (strs args)) (hz:szS args≤1048576) (hl:args.length≤1048576) (hn:nb≤1048576)
  (hall:∀ w',Below w.heap.size w w'→Calls Try.prog 34 #[.slice Ab nb cb] w' fun e w''=>e=.returned (.bool V)∧Below w'.heap.size w' w''∧w'.heap.size≤w''.heap.size) :
  Calls Try.prog 44 #[.agg #[.int .i64 4,.string word,.slice Aa args.length ca,.int .i64 count,.slice Ab nb cb]] w fun e w'=>e=.returned (.bool (vR3 4 word args count nb V))∧Below w.heap.size w w'∧w.heap.size≤w'.heap.size:=by
 obtain ⟨m,hm0⟩:∃ m,m=args.length:=⟨_,rfl⟩
 rw[←hm0] at hl hra ⊢
 have HM:=hD hm0
 have HRA:=hD hra
 have HALL:=hD hall
 clear hra hall hm0
 have hB:hasB 4=true:=rfl
 have hIN:inB 4 1 7=true:=rfl
 have HAW:Hid (allW args=args.all wordOk):=hD rfl
 obtain ⟨w0,hw0⟩:∃ w0,w0=w.alloc (.cells #[.int .i64 4,.string word,.slice Aa m ca,.int .i64 count,.slice Ab nb cb] 42):=⟨_,rfl⟩
 have X0:=hD (show w0.heap[w.heap.size]?=some (.cells #[.int .i64 4,.string word,.slice Aa m ca,.int .i64 count,.slice Ab nb cb] 42 (0,0)) by rw[hw0];exact boxed1_0 _ _)
 have b0:Below w.heap.size w w0:=by rw[hw0];exact Zq0
 have hs0:w.heap.size≤w0.heap.size:=b0.size
 have B0:=hD b0
 have HW:=hD hw0
 clear b0 hw0
 by_cases hm:m=1
 ·subst hm
  have e1:((1:Int) != (nargs 4 word:Int))=false:=rfl
  cases hwo:args.all wordOk
  ·have HWO:=hD hwo
   have hAW:=HAW.out.trans hwo
   clear hwo
   have HF:=hD (vR3_w (k:=4) (word:=word) (args:=args) (count:=count) (nb:=nb) (V:=V) HWO.out)
   go_enter Try.func44,Try.ntmps44
   go_wp2_with fail
   rw[←HW.out]
   refine(l17Args_any _ _ _ _ _ _ ⟨_,_,_,rfl⟩ ⟨_,_,_,rfl⟩).mono ?_
   rintro e w1 ⟨rfl,b1,s1⟩
   obtain ⟨p0,p1,p2,p3,p4⟩:=boxcells5 (lay:=b1) X0.out
   have hB1:Below w.heap.size w w1:=B0.out.trans (b1.mono hs0)
   have hS1:w.heap.size≤w1.heap.size:=hB1.size
   have HR1:=hD (HRA.out.below hB1)
   have HBB:=hD hB1
   clear hB1
   go_wp2_with (first|(go_at_call 32;refine(l1In_any _ _ _ _).mono ?_;rintro e w' ⟨rfl,rfl⟩)|(go_at_call 33;refine(l17Words_any _ _ _ args _ (by exact HR1.out) HM.out.symm Zq1 hz).mono ?_;rintro e w' ⟨rfl,rfl⟩))
   go_ret
   exact ⟨by rw[HF.out];rfl,HBB.out,hS1⟩
  ·have HWO:=hD hwo
   have hAW:=HAW.out.trans hwo
   clear hwo
   by_cases hw:word.toList=[]
   ·have e2:word.toList.isEmpty=true:=by simp [hw]
    have HWE:=hD hw
    clear hw
    by_cases hc:count=0
    ·subst hc
     have HH:=hD (show headV 4 word args.length 0 nb=true by rw[←HM.out];simp [headV,nargs,okCount,hasB,inB,HWE.out])
     have HF:=hD (vR3_t (V:=V) HH.out HWO.out)
     go_enter Try.func44,Try.ntmps44
     go_wp2_with fail
     rw[←HW.out]
     refine(l17Args_any _ _ _ _ _ _ ⟨_,_,_,rfl⟩ ⟨_,_,_,rfl⟩).mono ?_
     rintro e w1 ⟨rfl,b1,s1⟩
     obtain ⟨p0,p1,p2,p3,p4⟩:=boxcells5 (lay:=b1) X0.out
     have hB1:Below w.heap.size w w1:=B0.out.trans (b1.mono hs0)
     have hS1:w.heap.size≤w1.heap.size:=hB1.size
     have HR1:=hD (HRA.out.below hB1)
     have HBB:=hD hB1
     clear hB1
     go_wp2_with (first|(go_at_call 32;refine(l1In_any _ _ _ _).mono ?_;rintro e w' ⟨rfl,rfl⟩)|(go_at_call 33;refine(l17Words_any _ _ _ args _ (by exact HR1.out) HM.out.symm Zq1 hz).mono ?_;rintro e w' ⟨rfl,rfl⟩))
     refine(HALL.out _ HBB.out).mono ?_
     rintro e w2 ⟨rfl,b2,s2⟩
     go_wp2_with fail
     go_ret
     exact ⟨by rw[HF.out];rfl,HBB.out.trans (b2.mono hS1),by omega⟩
    ·have e4:(count != 0)=true:=by rw[bne_iff_ne];exact hc
     have HF:=hD (vR3_h (k:=4) (word:=word) (args:=args) (count:=count) (nb:=nb) (V:=V) (by rw[←HM.out];simp [headV,nargs,okCount,hasB,inB,HWE.out,hc]))
     go_enter Try.func44,Try.ntmps44
     go_wp2_with fail
     rw[←HW.out]
     refine(l17Args_any _ _ _ _ _ _ ⟨_,_,_,rfl⟩ ⟨_,_,_,rfl⟩).mono ?_
     rintro e w1 ⟨rfl,b1,s1⟩
     obtain ⟨p0,p1,p2,p3,p4⟩:=boxcells5 (lay:=b1) X0.out
     have hB1:Below w.heap.size w w1:=B0.out.trans (b1.mono hs0)
     have hS1:w.heap.size≤w1.heap.size:=hB1.size
     have HR1:=hD (HRA.out.below hB1)
     have HBB:=hD hB1
     clear hB1
     go_wp2_with (first|(go_at_call 32;refine(l1In_any _ _ _ _).mono ?_;rintro e w' ⟨rfl,rfl⟩)|(go_at_call 33;refine(l17Words_any _ _ _ args _ (by exact HR1.out) HM.out.symm Zq1 hz).mono ?_;rintro e w' ⟨rfl,rfl⟩))
     go_ret
     exact ⟨by rw[HF.out];rfl,HBB.out,hS1⟩
   ·have e2:word.toList.isEmpty=false:=by rw[List.isEmpty_eq_false_iff];exact hw
    have HWE:=hD hw
    clear hw
    have HF:=hD (vR3_h (k:=4) (word:=word) (args:=args) (count:=count) (nb:=nb) (V:=V) (by rw[←HM.out];simp [headV,nargs,okCount,hasB,inB,HWE.out]))
    go_enter Try.func44,Try.ntmps44
    go_wp2_with fail
    rw[←HW.out]
    refine(l17Args_any _ _ _ _ _ _ ⟨_,_,_,rfl⟩ ⟨_,_,_,rfl⟩).mono ?_
    rintro e w1 ⟨rfl,b1,s1⟩
    obtain ⟨p0,p1,p2,p3,p4⟩:=boxcells5 (lay:=b1) X0.out
    have hB1:Below w.heap.size w w1:=B0.out.trans (b1.mono hs0)
    have hS1:w.heap.size≤w1.heap.size:=hB1.size
    have HR1:=hD (HRA.out.below hB1)
    have HBB:=hD hB1
    clear hB1
    go_wp2_with (first|(go_at_call 32;refine(l1In_any _ _ _ _).mono ?_;rintro e w' ⟨rfl,rfl⟩)|(go_at_call 33;refine(l17Words_any _ _ _ args _ (by exact HR1.out) HM.out.symm Zq1 hz).mono ?_;rintro e w' ⟨rfl,rfl⟩))
    go_ret
    exact ⟨by rw[HF.out];rfl,HBB.out,hS1⟩
 ·have e1:((m:Int) != (nargs 4 word:Int))=true:=by rw[bne_iff_ne];have:nargs 4 word=1:=rfl;omega
  have HF:=hD (vR3_h (k:=4) (word:=word) (args:=args) (count:=count) (nb:=nb) (V:=V) (by rw[←HM.out];simp [headV,nargs,okCount,hasB,inB,hm]))
  go_enter Try.func44,Try.ntmps44
  go_wp2_with fail
  rw[←HW.out]
  refine(l17Args_any _ _ _ _ _ _ ⟨_,_,_,rfl⟩ ⟨_,_,_,rfl⟩).mono ?_
  rintro e w1 ⟨rfl,b1,s1⟩
  obtain ⟨p0,p1,p2,p3,p4⟩:=boxcells5 (lay:=b1) X0.out
  have hB1:Below w.heap.size w w1:=B0.out.trans (b1.mono hs0)
  have hS1:w.heap.size≤w1.heap.size:=hB1.size
  have HR1:=hD (HRA.out.below hB1)
  have HBB:=hD hB1
  clear hB1
  go_wp2_with (first|(go_at_call 32;refine(l1In_any _ _ _ _).mono ?_;rintro e w' ⟨rfl,rfl⟩)|(go_at_call 33;refine(l17Words_any _ _ _ args _ (by exact HR1.out) HM.out.symm Zq1 hz).mono ?_;rintro e w' ⟨rfl,rfl⟩))
  go_ret
  exact ⟨by rw[HF.out];rfl,HBB.out,hS1⟩
theorem vst_spec_5 (word:ByteArray) (args:List ByteArray) (count:Int) (Aa:Option Addr) (ca:Nat) (Ab:Option Addr) (nb cb:Nat) (w:World) (V:Bool) (hra:Rd w 1 Aa args.length (strs args)) (hz:szS args≤1048576) (hl:args.length≤1048576) (hn:nb≤1048576)
  (hall:∀ w',Below w.heap.size w w'→Calls Try.prog 34 #[.slice Ab nb cb] w' fun e w''=>e=.returned (.bool V)∧Below w'.heap.size w' w''∧w'.heap.size≤w''.heap.size) :
  Calls Try.prog 44 #[.agg #[.int .i64 5,.string word,.slice Aa args.length ca,.int .i64 count,.slice Ab nb cb]] w fun e w'=>e=.returned (.bool (vR3 5 word args count nb V))∧Below w.heap.size w w'∧w.heap.size≤w'.heap.size:=by
 obtain ⟨m,hm0⟩:∃ m,m=args.length:=⟨_,rfl⟩
 rw[←hm0] at hl hra ⊢
 have HM:=hD hm0
 have HRA:=hD hra
 have HALL:=hD hall
 clear hra hall hm0
 have hB:hasB 5=true:=rfl
 have hIN:inB 5 1 7=true:=rfl
 have HAW:Hid (allW args=args.all wordOk):=hD rfl
 obtain ⟨w0,hw0⟩:∃ w0,w0=w.alloc (.cells #[.int .i64 5,.string word,.slice Aa m ca,.int .i64 count,.slice Ab nb cb] 42):=⟨_,rfl⟩
 have X0:=hD (show w0.heap[w.heap.size]?=some (.cells #[.int .i64 5,.string word,.slice Aa m ca,.int .i64 count,.slice Ab nb cb] 42 (0,0)) by rw[hw0];exact boxed1_0 _ _)
 have b0:Below w.heap.size w w0:=by rw[hw0];exact Zq0
 have hs0:w.heap.size≤w0.heap.size:=b0.size
 have B0:=hD b0
 have HW:=hD hw0
 clear b0 hw0
 by_cases hm:m=1
 ·subst hm
  have e1:((1:Int) != (nargs 5 word:Int))=false:=rfl
  cases hwo:args.all wordOk
  ·have HWO:=hD hwo
   have hAW:=HAW.out.trans hwo
   clear hwo
   have HF:=hD (vR3_w (k:=5) (word:=word) (args:=args) (count:=count) (nb:=nb) (V:=V) HWO.out)
   go_enter Try.func44,Try.ntmps44
   go_wp2_with fail
   rw[←HW.out]
   refine(l17Args_any _ _ _ _ _ _ ⟨_,_,_,rfl⟩ ⟨_,_,_,rfl⟩).mono ?_
   rintro e w1 ⟨rfl,b1,s1⟩
   obtain ⟨p0,p1,p2,p3,p4⟩:=boxcells5 (lay:=b1) X0.out
   have hB1:Below w.heap.size w w1:=B0.out.trans (b1.mono hs0)
   have hS1:w.heap.size≤w1.heap.size:=hB1.size
   have HR1:=hD (HRA.out.below hB1)
   have HBB:=hD hB1
   clear hB1
   go_wp2_with (first|(go_at_call 32;refine(l1In_any _ _ _ _).mono ?_;rintro e w' ⟨rfl,rfl⟩)|(go_at_call 33;refine(l17Words_any _ _ _ args _ (by exact HR1.out) HM.out.symm Zq1 hz).mono ?_;rintro e w' ⟨rfl,rfl⟩))
   go_ret
   exact ⟨by rw[HF.out];rfl,HBB.out,hS1⟩
  ·have HWO:=hD hwo
   have hAW:=HAW.out.trans hwo
   clear hwo
   by_cases hw:word.toList=[]
   ·have e2:word.toList.isEmpty=true:=by simp [hw]
    have HWE:=hD hw
    clear hw
    by_cases hc:count=0
    ·subst hc
     have HH:=hD (show headV 5 word args.length 0 nb=true by rw[←HM.out];simp [headV,nargs,okCount,hasB,inB,HWE.out])
     have HF:=hD (vR3_t (V:=V) HH.out HWO.out)
     go_enter Try.func44,Try.ntmps44
     go_wp2_with fail
     rw[←HW.out]
     refine(l17Args_any _ _ _ _ _ _ ⟨_,_,_,rfl⟩ ⟨_,_,_,rfl⟩).mono ?_
     rintro e w1 ⟨rfl,b1,s1⟩
     obtain ⟨p0,p1,p2,p3,p4⟩:=boxcells5 (lay:=b1) X0.out
     have hB1:Below w.heap.size w w1:=B0.out.trans (b1.mono hs0)
     have hS1:w.heap.size≤w1.heap.size:=hB1.size
     have HR1:=hD (HRA.out.below hB1)
     have HBB:=hD hB1
     clear hB1
     go_wp2_with (first|(go_at_call 32;refine(l1In_any _ _ _ _).mono ?_;rintro e w' ⟨rfl,rfl⟩)|(go_at_call 33;refine(l17Words_any _ _ _ args _ (by exact HR1.out) HM.out.symm Zq1 hz).mono ?_;rintro e w' ⟨rfl,rfl⟩))
     refine(HALL.out _ HBB.out).mono ?_
     rintro e w2 ⟨rfl,b2,s2⟩
     go_wp2_with fail
     go_ret
     exact ⟨by rw[HF.out];rfl,HBB.out.trans (b2.mono hS1),by omega⟩
    ·have e4:(count != 0)=true:=by rw[bne_iff_ne];exact hc
     have HF:=hD (vR3_h (k:=5) (word:=word) (args:=args) (count:=count) (nb:=nb) (V:=V) (by rw[←HM.out];simp [headV,nargs,okCount,hasB,inB,HWE.out,hc]))
     go_enter Try.func44,Try.ntmps44
     go_wp2_with fail
     rw[←HW.out]
     refine(l17Args_any _ _ _ _ _ _ ⟨_,_,_,rfl⟩ ⟨_,_,_,rfl⟩).mono ?_
     rintro e w1 ⟨rfl,b1,s1⟩
     obtain ⟨p0,p1,p2,p3,p4⟩:=boxcells5 (lay:=b1) X0.out
     have hB1:Below w.heap.size w w1:=B0.out.trans (b1.mono hs0)
     have hS1:w.heap.size≤w1.heap.size:=hB1.size
     have HR1:=hD (HRA.out.below hB1)
     have HBB:=hD hB1
     clear hB1
     go_wp2_with (first|(go_at_call 32;refine(l1In_any _ _ _ _).mono ?_;rintro e w' ⟨rfl,rfl⟩)|(go_at_call 33;refine(l17Words_any _ _ _ args _ (by exact HR1.out) HM.out.symm Zq1 hz).mono ?_;rintro e w' ⟨rfl,rfl⟩))
     go_ret
     exact ⟨by rw[HF.out];rfl,HBB.out,hS1⟩
   ·have e2:word.toList.isEmpty=false:=by rw[List.isEmpty_eq_false_iff];exact hw
    have HWE:=hD hw
    clear hw
    have HF:=hD (vR3_h (k:=5) (word:=word) (args:=args) (count:=count) (nb:=nb) (V:=V) (by rw[←HM.out];simp [headV,nargs,okCount,hasB,inB,HWE.out]))
    go_enter Try.func44,Try.ntmps44
    go_wp2_with fail
    rw[←HW.out]
    refine(l17Args_any _ _ _ _ _ _ ⟨_,_,_,rfl⟩ ⟨_,_,_,rfl⟩).mono ?_
    rintro e w1 ⟨rfl,b1,s1⟩
    obtain ⟨p0,p1,p2,p3,p4⟩:=boxcells5 (lay:=b1) X0.out
    have hB1:Below w.heap.size w w1:=B0.out.trans (b1.mono hs0)
    have hS1:w.heap.size≤w1.heap.size:=hB1.size
    have HR1:=hD (HRA.out.below hB1)
    have HBB:=hD hB1
    clear hB1
    go_wp2_with (first|(go_at_call 32;refine(l1In_any _ _ _ _).mono ?_;rintro e w' ⟨rfl,rfl⟩)|(go_at_call 33;refine(l17Words_any _ _ _ args _ (by exact HR1.out) HM.out.symm Zq1 hz).mono ?_;rintro e w' ⟨rfl,rfl⟩))
    go_ret
    exact ⟨by rw[HF.out];rfl,HBB.out,hS1⟩
 ·have e1:((m:Int) != (nargs 5 word:Int))=true:=by rw[bne_iff_ne];have:nargs 5 word=1:=rfl;omega
  have HF:=hD (vR3_h (k:=5) (word:=word) (args:=args) (count:=count) (nb:=nb) (V:=V) (by rw[←HM.out];simp [headV,nargs,okCount,hasB,inB,hm]))
  go_enter Try.func44,Try.ntmps44
  go_wp2_with fail
  rw[←HW.out]
  refine(l17Args_any _ _ _ _ _ _ ⟨_,_,_,rfl⟩ ⟨_,_,_,rfl⟩).mono ?_
  rintro e w1 ⟨rfl,b1,s1⟩
  obtain ⟨p0,p1,p2,p3,p4⟩:=boxcells5 (lay:=b1) X0.out
  have hB1:Below w.heap.size w w1:=B0.out.trans (b1.mono hs0)
  have hS1:w.heap.size≤w1.heap.size:=hB1.size
  have HR1:=hD (HRA.out.below hB1)
  have HBB:=hD hB1
  clear hB1
  go_wp2_with (first|(go_at_call 32;refine(l1In_any _ _ _ _).mono ?_;rintro e w' ⟨rfl,rfl⟩)|(go_at_call 33;refine(l17Words_any _ _ _ args _ (by exact HR1.out) HM.out.symm Zq1 hz).mono ?_;rintro e w' ⟨rfl,rfl⟩))
  go_ret
  exact ⟨by rw[HF.out];rfl,HBB.out,hS1⟩
theorem vst_spec_6 (word:ByteArray) (args:List ByteArray) (count:Int) (Aa:Option Addr) (ca:Nat) (Ab:Option Addr) (nb cb:Nat) (w:World) (V:Bool) (hra:Rd w 1 Aa args.length (strs args)) (hz:szS args≤1048576) (hl:args.length≤1048576) (hn:nb≤1048576)
  (hall:∀ w',Below w.heap.size w w'→Calls Try.prog 34 #[.slice Ab nb cb] w' fun e w''=>e=.returned (.bool V)∧Below w'.heap.size w' w''∧w'.heap.size≤w''.heap.size) :
  Calls Try.prog 44 #[.agg #[.int .i64 6,.string word,.slice Aa args.length ca,.int .i64 count,.slice Ab nb cb]] w fun e w'=>e=.returned (.bool (vR3 6 word args count nb V))∧Below w.heap.size w w'∧w.heap.size≤w'.heap.size:=by
 obtain ⟨m,hm0⟩:∃ m,m=args.length:=⟨_,rfl⟩
 rw[←hm0] at hl hra ⊢
 have HM:=hD hm0
 have HRA:=hD hra
 have HALL:=hD hall
 clear hra hall hm0
 have hB:hasB 6=false:=rfl
 have hIN:inB 6 1 7=true:=rfl
 have HAW:Hid (allW args=args.all wordOk):=hD rfl
 obtain ⟨w0,hw0⟩:∃ w0,w0=w.alloc (.cells #[.int .i64 6,.string word,.slice Aa m ca,.int .i64 count,.slice Ab nb cb] 42):=⟨_,rfl⟩
 have X0:=hD (show w0.heap[w.heap.size]?=some (.cells #[.int .i64 6,.string word,.slice Aa m ca,.int .i64 count,.slice Ab nb cb] 42 (0,0)) by rw[hw0];exact boxed1_0 _ _)
 have b0:Below w.heap.size w w0:=by rw[hw0];exact Zq0
 have hs0:w.heap.size≤w0.heap.size:=b0.size
 have B0:=hD b0
 have HW:=hD hw0
 clear b0 hw0
 by_cases hm:m=2
 ·subst hm
  have e1:((2:Int) != (nargs 6 word:Int))=false:=rfl
  cases hwo:args.all wordOk
  ·have HWO:=hD hwo
   have hAW:=HAW.out.trans hwo
   clear hwo
   have HF:=hD (vR3_w (k:=6) (word:=word) (args:=args) (count:=count) (nb:=nb) (V:=V) HWO.out)
   go_enter Try.func44,Try.ntmps44
   go_wp2_with fail
   rw[←HW.out]
   refine(l17Args_any _ _ _ _ _ _ ⟨_,_,_,rfl⟩ ⟨_,_,_,rfl⟩).mono ?_
   rintro e w1 ⟨rfl,b1,s1⟩
   obtain ⟨p0,p1,p2,p3,p4⟩:=boxcells5 (lay:=b1) X0.out
   have hB1:Below w.heap.size w w1:=B0.out.trans (b1.mono hs0)
   have hS1:w.heap.size≤w1.heap.size:=hB1.size
   have HR1:=hD (HRA.out.below hB1)
   have HBB:=hD hB1
   clear hB1
   go_wp2_with (first|(go_at_call 32;refine(l1In_any _ _ _ _).mono ?_;rintro e w' ⟨rfl,rfl⟩)|(go_at_call 33;refine(l17Words_any _ _ _ args _ (by exact HR1.out) HM.out.symm Zq1 hz).mono ?_;rintro e w' ⟨rfl,rfl⟩))
   go_ret
   exact ⟨by rw[HF.out];rfl,HBB.out,hS1⟩
  ·have HWO:=hD hwo
   have hAW:=HAW.out.trans hwo
   clear hwo
   by_cases hb:nb=0
   ·have e3:decide (0<(nb:Int))=false:=by simp;omega
    have e3n:decide (0<nb)=false:=by simp;omega
    have HNB:=hD hb
    clear hb
    by_cases hw:word.toList=[]
    ·have e2:word.toList.isEmpty=true:=by simp [hw]
     have HWE:=hD hw
     clear hw
     by_cases hc:count=0
     ·subst hc
      have HH:=hD (show headV 6 word args.length 0 nb=true by rw[←HM.out];simp [headV,nargs,okCount,hasB,inB,HNB.out,HWE.out])
      have HF:=hD (vR3_t (V:=V) HH.out HWO.out)
      go_enter Try.func44,Try.ntmps44
      go_wp2_with fail
      rw[←HW.out]
      refine(l17Args_any _ _ _ _ _ _ ⟨_,_,_,rfl⟩ ⟨_,_,_,rfl⟩).mono ?_
      rintro e w1 ⟨rfl,b1,s1⟩
      obtain ⟨p0,p1,p2,p3,p4⟩:=boxcells5 (lay:=b1) X0.out
      have hB1:Below w.heap.size w w1:=B0.out.trans (b1.mono hs0)
      have hS1:w.heap.size≤w1.heap.size:=hB1.size
      have HR1:=hD (HRA.out.below hB1)
      have HBB:=hD hB1
      clear hB1
      go_wp2_with (first|(go_at_call 32;refine(l1In_any _ _ _ _).mono ?_;rintro e w' ⟨rfl,rfl⟩)|(go_at_call 33;refine(l17Words_any _ _ _ args _ (by exact HR1.out) HM.out.symm Zq1 hz).mono ?_;rintro e w' ⟨rfl,rfl⟩))
      refine(HALL.out _ HBB.out).mono ?_
      rintro e w2 ⟨rfl,b2,s2⟩
      go_wp2_with fail
      go_ret
      exact ⟨by rw[HF.out];rfl,HBB.out.trans (b2.mono hS1),by omega⟩
     ·have e4:(count != 0)=true:=by rw[bne_iff_ne];exact hc
      have HF:=hD (vR3_h (k:=6) (word:=word) (args:=args) (count:=count) (nb:=nb) (V:=V) (by rw[←HM.out];simp [headV,nargs,okCount,hasB,inB,HNB.out,HWE.out,hc]))
      go_enter Try.func44,Try.ntmps44
      go_wp2_with fail
      rw[←HW.out]
      refine(l17Args_any _ _ _ _ _ _ ⟨_,_,_,rfl⟩ ⟨_,_,_,rfl⟩).mono ?_
      rintro e w1 ⟨rfl,b1,s1⟩
      obtain ⟨p0,p1,p2,p3,p4⟩:=boxcells5 (lay:=b1) X0.out
      have hB1:Below w.heap.size w w1:=B0.out.trans (b1.mono hs0)
      have hS1:w.heap.size≤w1.heap.size:=hB1.size
      have HR1:=hD (HRA.out.below hB1)
      have HBB:=hD hB1
      clear hB1
      go_wp2_with (first|(go_at_call 32;refine(l1In_any _ _ _ _).mono ?_;rintro e w' ⟨rfl,rfl⟩)|(go_at_call 33;refine(l17Words_any _ _ _ args _ (by exact HR1.out) HM.out.symm Zq1 hz).mono ?_;rintro e w' ⟨rfl,rfl⟩))
      go_ret
      exact ⟨by rw[HF.out];rfl,HBB.out,hS1⟩
    ·have e2:word.toList.isEmpty=false:=by rw[List.isEmpty_eq_false_iff];exact hw
     have HWE:=hD hw
     clear hw
     have HF:=hD (vR3_h (k:=6) (word:=word) (args:=args) (count:=count) (nb:=nb) (V:=V) (by rw[←HM.out];simp [headV,nargs,okCount,hasB,inB,HNB.out,HWE.out]))
     go_enter Try.func44,Try.ntmps44
     go_wp2_with fail
     rw[←HW.out]
     refine(l17Args_any _ _ _ _ _ _ ⟨_,_,_,rfl⟩ ⟨_,_,_,rfl⟩).mono ?_
     rintro e w1 ⟨rfl,b1,s1⟩
     obtain ⟨p0,p1,p2,p3,p4⟩:=boxcells5 (lay:=b1) X0.out
     have hB1:Below w.heap.size w w1:=B0.out.trans (b1.mono hs0)
     have hS1:w.heap.size≤w1.heap.size:=hB1.size
     have HR1:=hD (HRA.out.below hB1)
     have HBB:=hD hB1
     clear hB1
     go_wp2_with (first|(go_at_call 32;refine(l1In_any _ _ _ _).mono ?_;rintro e w' ⟨rfl,rfl⟩)|(go_at_call 33;refine(l17Words_any _ _ _ args _ (by exact HR1.out) HM.out.symm Zq1 hz).mono ?_;rintro e w' ⟨rfl,rfl⟩))
     go_ret
     exact ⟨by rw[HF.out];rfl,HBB.out,hS1⟩
   ·have e3:decide (0<(nb:Int))=true:=by simp;omega
    have e3n:decide (0<nb)=true:=by simp;omega
    have HNB:=hD hb
    clear hb
    have HF:=hD (vR3_h (k:=6) (word:=word) (args:=args) (count:=count) (nb:=nb) (V:=V) (by rw[←HM.out];simp [headV,nargs,okCount,hasB,inB,HNB.out]))
    go_enter Try.func44,Try.ntmps44
    go_wp2_with fail
    rw[←HW.out]
    refine(l17Args_any _ _ _ _ _ _ ⟨_,_,_,rfl⟩ ⟨_,_,_,rfl⟩).mono ?_
    rintro e w1 ⟨rfl,b1,s1⟩
    obtain ⟨p0,p1,p2,p3,p4⟩:=boxcells5 (lay:=b1) X0.out
    have hB1:Below w.heap.size w w1:=B0.out.trans (b1.mono hs0)
    have hS1:w.heap.size≤w1.heap.size:=hB1.size
    have HR1:=hD (HRA.out.below hB1)
    have HBB:=hD hB1
    clear hB1
    go_wp2_with (first|(go_at_call 32;refine(l1In_any _ _ _ _).mono ?_;rintro e w' ⟨rfl,rfl⟩)|(go_at_call 33;refine(l17Words_any _ _ _ args _ (by exact HR1.out) HM.out.symm Zq1 hz).mono ?_;rintro e w' ⟨rfl,rfl⟩))
    go_ret
    exact ⟨by rw[HF.out];rfl,HBB.out,hS1⟩
 ·have e1:((m:Int) != (nargs 6 word:Int))=true:=by rw[bne_iff_ne];have:nargs 6 word=2:=rfl;omega
  have HF:=hD (vR3_h (k:=6) (word:=word) (args:=args) (count:=count) (nb:=nb) (V:=V) (by rw[←HM.out];simp [headV,nargs,okCount,hasB,inB,hm]))
  go_enter Try.func44,Try.ntmps44
  go_wp2_with fail
  rw[←HW.out]
  refine(l17Args_any _ _ _ _ _ _ ⟨_,_,_,rfl⟩ ⟨_,_,_,rfl⟩).mono ?_
  rintro e w1 ⟨rfl,b1,s1⟩
  obtain ⟨p0,p1,p2,p3,p4⟩:=boxcells5 (lay:=b1) X0.out
  have hB1:Below w.heap.size w w1:=B0.out.trans (b1.mono hs0)
  have hS1:w.heap.size≤w1.heap.size:=hB1.size
  have HR1:=hD (HRA.out.below hB1)
  have HBB:=hD hB1
  clear hB1
  go_wp2_with (first|(go_at_call 32;refine(l1In_any _ _ _ _).mono ?_;rintro e w' ⟨rfl,rfl⟩)|(go_at_call 33;refine(l17Words_any _ _ _ args _ (by exact HR1.out) HM.out.symm Zq1 hz).mono ?_;rintro e w' ⟨rfl,rfl⟩))
  go_ret
  exact ⟨by rw[HF.out];rfl,HBB.out,hS1⟩
theorem vst_spec_7 (word:ByteArray) (args:List ByteArray) (count:Int) (Aa:Option Addr) (ca:Nat) (Ab:Option Addr) (nb cb:Nat) (w:World) (V:Bool) (hra:Rd w 1 Aa args.length (strs args)) (hz:szS args≤1048576) (hl:args.length≤1048576) (hn:nb≤1048576)
  (hall:∀ w',Below w.heap.size w w'→Calls Try.prog 34 #[.slice Ab nb cb] w' fun e w''=>e=.returned (.bool V)∧Below w'.heap.size w' w''∧w'.heap.size≤w''.heap.size) :
  Calls Try.prog 44 #[.agg #[.int .i64 7,.string word,.slice Aa args.length ca,.int .i64 count,.slice Ab nb cb]] w fun e w'=>e=.returned (.bool (vR3 7 word args count nb V))∧Below w.heap.size w w'∧w.heap.size≤w'.heap.size:=by
 obtain ⟨m,hm0⟩:∃ m,m=args.length:=⟨_,rfl⟩
 rw[←hm0] at hl hra ⊢
 have HM:=hD hm0
 have HRA:=hD hra
 have HALL:=hD hall
 clear hra hall hm0
 have hB:hasB 7=true:=rfl
 have hIN:inB 7 1 7=true:=rfl
 have HAW:Hid (allW args=args.all wordOk):=hD rfl
 obtain ⟨w0,hw0⟩:∃ w0,w0=w.alloc (.cells #[.int .i64 7,.string word,.slice Aa m ca,.int .i64 count,.slice Ab nb cb] 42):=⟨_,rfl⟩
 have X0:=hD (show w0.heap[w.heap.size]?=some (.cells #[.int .i64 7,.string word,.slice Aa m ca,.int .i64 count,.slice Ab nb cb] 42 (0,0)) by rw[hw0];exact boxed1_0 _ _)
 have b0:Below w.heap.size w w0:=by rw[hw0];exact Zq0
 have hs0:w.heap.size≤w0.heap.size:=b0.size
 have B0:=hD b0
 have HW:=hD hw0
 clear b0 hw0
 by_cases hm:m=1
 ·subst hm
  have e1:((1:Int) != (nargs 7 word:Int))=false:=rfl
  cases hwo:args.all wordOk
  ·have HWO:=hD hwo
   have hAW:=HAW.out.trans hwo
   clear hwo
   have HF:=hD (vR3_w (k:=7) (word:=word) (args:=args) (count:=count) (nb:=nb) (V:=V) HWO.out)
   go_enter Try.func44,Try.ntmps44
   go_wp2_with fail
   rw[←HW.out]
   refine(l17Args_any _ _ _ _ _ _ ⟨_,_,_,rfl⟩ ⟨_,_,_,rfl⟩).mono ?_
   rintro e w1 ⟨rfl,b1,s1⟩
   obtain ⟨p0,p1,p2,p3,p4⟩:=boxcells5 (lay:=b1) X0.out
   have hB1:Below w.heap.size w w1:=B0.out.trans (b1.mono hs0)
   have hS1:w.heap.size≤w1.heap.size:=hB1.size
   have HR1:=hD (HRA.out.below hB1)
   have HBB:=hD hB1
   clear hB1
   go_wp2_with (first|(go_at_call 32;refine(l1In_any _ _ _ _).mono ?_;rintro e w' ⟨rfl,rfl⟩)|(go_at_call 33;refine(l17Words_any _ _ _ args _ (by exact HR1.out) HM.out.symm Zq1 hz).mono ?_;rintro e w' ⟨rfl,rfl⟩))
   go_ret
   exact ⟨by rw[HF.out];rfl,HBB.out,hS1⟩
  ·have HWO:=hD hwo
   have hAW:=HAW.out.trans hwo
   clear hwo
   by_cases hw:word.toList=[]
   ·have e2:word.toList.isEmpty=true:=by simp [hw]
    have HWE:=hD hw
    clear hw
    by_cases hc:count=0
    ·subst hc
     have HH:=hD (show headV 7 word args.length 0 nb=true by rw[←HM.out];simp [headV,nargs,okCount,hasB,inB,HWE.out])
     have HF:=hD (vR3_t (V:=V) HH.out HWO.out)
     go_enter Try.func44,Try.ntmps44
     go_wp2_with fail
     rw[←HW.out]
     refine(l17Args_any _ _ _ _ _ _ ⟨_,_,_,rfl⟩ ⟨_,_,_,rfl⟩).mono ?_
     rintro e w1 ⟨rfl,b1,s1⟩
     obtain ⟨p0,p1,p2,p3,p4⟩:=boxcells5 (lay:=b1) X0.out
     have hB1:Below w.heap.size w w1:=B0.out.trans (b1.mono hs0)
     have hS1:w.heap.size≤w1.heap.size:=hB1.size
     have HR1:=hD (HRA.out.below hB1)
     have HBB:=hD hB1
     clear hB1
     go_wp2_with (first|(go_at_call 32;refine(l1In_any _ _ _ _).mono ?_;rintro e w' ⟨rfl,rfl⟩)|(go_at_call 33;refine(l17Words_any _ _ _ args _ (by exact HR1.out) HM.out.symm Zq1 hz).mono ?_;rintro e w' ⟨rfl,rfl⟩))
     refine(HALL.out _ HBB.out).mono ?_
     rintro e w2 ⟨rfl,b2,s2⟩
     go_wp2_with fail
     go_ret
     exact ⟨by rw[HF.out];rfl,HBB.out.trans (b2.mono hS1),by omega⟩
    ·have e4:(count != 0)=true:=by rw[bne_iff_ne];exact hc
     have HF:=hD (vR3_h (k:=7) (word:=word) (args:=args) (count:=count) (nb:=nb) (V:=V) (by rw[←HM.out];simp [headV,nargs,okCount,hasB,inB,HWE.out,hc]))
     go_enter Try.func44,Try.ntmps44
     go_wp2_with fail
     rw[←HW.out]
     refine(l17Args_any _ _ _ _ _ _ ⟨_,_,_,rfl⟩ ⟨_,_,_,rfl⟩).mono ?_
     rintro e w1 ⟨rfl,b1,s1⟩
     obtain ⟨p0,p1,p2,p3,p4⟩:=boxcells5 (lay:=b1) X0.out
     have hB1:Below w.heap.size w w1:=B0.out.trans (b1.mono hs0)
     have hS1:w.heap.size≤w1.heap.size:=hB1.size
     have HR1:=hD (HRA.out.below hB1)
     have HBB:=hD hB1
     clear hB1
     go_wp2_with (first|(go_at_call 32;refine(l1In_any _ _ _ _).mono ?_;rintro e w' ⟨rfl,rfl⟩)|(go_at_call 33;refine(l17Words_any _ _ _ args _ (by exact HR1.out) HM.out.symm Zq1 hz).mono ?_;rintro e w' ⟨rfl,rfl⟩))
     go_ret
     exact ⟨by rw[HF.out];rfl,HBB.out,hS1⟩
   ·have e2:word.toList.isEmpty=false:=by rw[List.isEmpty_eq_false_iff];exact hw
    have HWE:=hD hw
    clear hw
    have HF:=hD (vR3_h (k:=7) (word:=word) (args:=args) (count:=count) (nb:=nb) (V:=V) (by rw[←HM.out];simp [headV,nargs,okCount,hasB,inB,HWE.out]))
    go_enter Try.func44,Try.ntmps44
    go_wp2_with fail
    rw[←HW.out]
    refine(l17Args_any _ _ _ _ _ _ ⟨_,_,_,rfl⟩ ⟨_,_,_,rfl⟩).mono ?_
    rintro e w1 ⟨rfl,b1,s1⟩
    obtain ⟨p0,p1,p2,p3,p4⟩:=boxcells5 (lay:=b1) X0.out
    have hB1:Below w.heap.size w w1:=B0.out.trans (b1.mono hs0)
    have hS1:w.heap.size≤w1.heap.size:=hB1.size
    have HR1:=hD (HRA.out.below hB1)
    have HBB:=hD hB1
    clear hB1
    go_wp2_with (first|(go_at_call 32;refine(l1In_any _ _ _ _).mono ?_;rintro e w' ⟨rfl,rfl⟩)|(go_at_call 33;refine(l17Words_any _ _ _ args _ (by exact HR1.out) HM.out.symm Zq1 hz).mono ?_;rintro e w' ⟨rfl,rfl⟩))
    go_ret
    exact ⟨by rw[HF.out];rfl,HBB.out,hS1⟩
 ·have e1:((m:Int) != (nargs 7 word:Int))=true:=by rw[bne_iff_ne];have:nargs 7 word=1:=rfl;omega
  have HF:=hD (vR3_h (k:=7) (word:=word) (args:=args) (count:=count) (nb:=nb) (V:=V) (by rw[←HM.out];simp [headV,nargs,okCount,hasB,inB,hm]))
  go_enter Try.func44,Try.ntmps44
  go_wp2_with fail
  rw[←HW.out]
  refine(l17Args_any _ _ _ _ _ _ ⟨_,_,_,rfl⟩ ⟨_,_,_,rfl⟩).mono ?_
  rintro e w1 ⟨rfl,b1,s1⟩
  obtain ⟨p0,p1,p2,p3,p4⟩:=boxcells5 (lay:=b1) X0.out
  have hB1:Below w.heap.size w w1:=B0.out.trans (b1.mono hs0)
  have hS1:w.heap.size≤w1.heap.size:=hB1.size
  have HR1:=hD (HRA.out.below hB1)
  have HBB:=hD hB1
  clear hB1
  go_wp2_with (first|(go_at_call 32;refine(l1In_any _ _ _ _).mono ?_;rintro e w' ⟨rfl,rfl⟩)|(go_at_call 33;refine(l17Words_any _ _ _ args _ (by exact HR1.out) HM.out.symm Zq1 hz).mono ?_;rintro e w' ⟨rfl,rfl⟩))
  go_ret
  exact ⟨by rw[HF.out];rfl,HBB.out,hS1⟩
theorem headV_no {k:Int} (h:inB k 1 7=false) (word:ByteArray) (na:Nat) (count:Int) (nb:Nat):headV k word na count nb=false:=by simp [headV,h]
theorem vst_spec_no (k:Int) (word:ByteArray) (args:List ByteArray) (count:Int) (Aa:Option Addr) (ca:Nat) (Ab:Option Addr) (nb cb:Nat) (w:World) (V:Bool) (hk:inB k 1 7=false) :
  Calls Try.prog 44 #[.agg #[.int .i64 k,.string word,.slice Aa args.length ca,.int .i64 count,.slice Ab nb cb]] w fun e w'=>e=.returned (.bool (vR3 k word args count nb V))∧Below w.heap.size w w'∧w.heap.size≤w'.heap.size:=by
 have HF:=hD (vR3_h (V:=V) (args:=args) (headV_no hk word args.length count nb))
 obtain ⟨m,hm⟩:∃ m,m=args.length:=⟨_,rfl⟩
 rw[←hm]
 clear hm
 obtain ⟨w0,hw0⟩:∃ w0,w0=w.alloc (.cells #[.int .i64 k,.string word,.slice Aa m ca,.int .i64 count,.slice Ab nb cb] 42):=⟨_,rfl⟩
 have X0:=hD (show w0.heap[w.heap.size]?=some (.cells #[.int .i64 k,.string word,.slice Aa m ca,.int .i64 count,.slice Ab nb cb] 42 (0,0)) by rw[hw0];exact boxed1_0 _ _)
 have b0:Below w.heap.size w w0:=by rw[hw0];exact Zq0
 have hs0:w.heap.size≤w0.heap.size:=b0.size
 have B0:=hD b0
 have HW:=hD hw0
 clear b0 hw0
 go_enter Try.func44,Try.ntmps44
 go_wp2_with fail
 rw[←HW.out]
 refine(l17Args_any _ _ _ _ _ _ ⟨_,_,_,rfl⟩ ⟨_,_,_,rfl⟩).mono ?_
 rintro e w1 ⟨rfl,b1,s1⟩
 obtain ⟨p0,p1,p2,p3,p4⟩:=boxcells5 (lay:=b1) X0.out
 have hB1:Below w.heap.size w w1:=B0.out.trans (b1.mono hs0)
 have HBB:=hD hB1
 have hS1:w.heap.size≤w1.heap.size:=hB1.size
 clear hB1
 go_wp2_with (go_at_call 32;refine(l1In_any _ _ _ _).mono ?_;rintro e w' ⟨rfl,rfl⟩)
 go_ret
 exact ⟨by rw[HF.out];rfl,HBB.out,hS1⟩
theorem vst_spec_k (k:Int) (word:ByteArray) (args:List ByteArray) (count:Int) (Aa:Option Addr) (ca:Nat) (Ab:Option Addr) (nb cb:Nat) (w:World) (V:Bool) (hra:Rd w 1 Aa args.length (strs args)) (hz:szS args≤1048576) (hl:args.length≤1048576) (hn:nb≤1048576)
  (hall:∀ w',Below w.heap.size w w'→Calls Try.prog 34 #[.slice Ab nb cb] w' fun e w''=>e=.returned (.bool V)∧Below w'.heap.size w' w''∧w'.heap.size≤w''.heap.size) :
  Calls Try.prog 44 #[.agg #[.int .i64 k,.string word,.slice Aa args.length ca,.int .i64 count,.slice Ab nb cb]] w fun e w'=>e=.returned (.bool (vR3 k word args count nb V))∧Below w.heap.size w w'∧w.heap.size≤w'.heap.size:=by
 cases hk:inB k 1 7
 ·exact vst_spec_no k word args count Aa ca Ab nb cb w V hk
 ·have h:=inB_iff.1 hk
  have hc:k=1∨k=2∨k=3∨k=4∨k=5∨k=6∨k=7:=by omega
  rcases hc with rfl|rfl|rfl|rfl|rfl|rfl|rfl
  ·exact vst_spec_1 word args count Aa ca Ab nb cb w V hra hz hl hn hall
  ·exact vst_spec_2 word args count Aa ca Ab nb cb w V hra hz hl hn hall
  ·exact vst_spec_3 word args count Aa ca Ab nb cb w V hra hz hl hn hall
  ·exact vst_spec_4 word args count Aa ca Ab nb cb w V hra hz hl hn hall
  ·exact vst_spec_5 word args count Aa ca Ab nb cb w V hra hz hl hn hall
  ·exact vst_spec_6 word args count Aa ca Ab nb cb w V hra hz hl hn hall
  ·exact vst_spec_7 word args count Aa ca Ab nb cb w V hra hz hl hn hall
def AllSaid (d:Nat):Prop:=∀ (lo:Nat) (A:Option Addr) (n c:Nat) (l:List (Tr d)) (w:World),RdT w lo d A n l→szT d l≤1048576 →
 Calls Try.prog 34 #[.slice A n c] w fun e w'=>e=.returned (.bool (validT d l))∧Below w.heap.size w w'∧w.heap.size≤w'.heap.size
def VSaidS (d:Nat):Prop:=∀ (lo:Nat) (k:Int) (word:ByteArray) (args:List ByteArray) (count:Int) (bd:List (Tr d)) (Aa:Option Addr) (ca:Nat) (Ab:Option Addr) (nb cb:Nat) (w:World),RdL w lo 1 Aa args.length (strs args)→RdT w lo d Ab nb bd→szS args≤1048576→args.length≤1048576→szT d bd≤1048576 →
 Calls Try.prog 44 #[.agg #[.int .i64 k,.string word,.slice Aa args.length ca,.int .i64 count,.slice Ab nb cb]] w fun e w'=>e=.returned (.bool (vOne d (validT d) ⟨k,word,args,count⟩ bd))∧Below w.heap.size w w'∧w.heap.size≤w'.heap.size
theorem one_of_all {d:Nat} (h:AllSaid d):VSaidS d:=by
 intro lo k word args count bd Aa ca Ab nb cb w hra hrb hz hl hsz
 have hlen:=hrb.len
 subst hlen
 have hn:bd.length≤1048576:=by
  cases d with
  | zero=>have:=szT_zero_len hrb;omega
  | succ d=>rw[szT_succ] at hsz;omega
 exact(vst_spec_k k word args count Aa ca Ab bd.length cb w (validT d bd) hra.rd hz hl hn (fun w' hw'=>h lo _ _ _ bd w' (hrb.below hw') hsz))
theorem l17All_any:∀ (d:Nat),AllSaid d:=by
 intro d
 induction d with
 | zero =>
  intro lo A n c l w h _
  obtain rfl:=szT_zero_len h
  go_enter Try.func34,Try.ntmps34
  go_wp2
  refine wp_loop_rounds 1 ?_
  rw[rounds_succ]
  go_wp2
  go_ret
  exact ⟨rfl,Below.refl _ _,Nat.le_refl _⟩
 | succ d ih =>
  intro lo A n c l w h hsz
  have hq:=hsz
  rw[szT_succ] at hq
  have hl:=h.len
  have hn:n≤1048576:=by omega
  have H:=hD h
  have HL:=hD hl
  have ih':=hD (one_of_all ih)
  have HQ:=hD hq
  clear h hl hsz hq
  go_enter Try.func34,Try.ntmps34
  go_wp2
  go_loopw [3] (fun i wr=>∃ t:Nat,t≤n∧i=.int .i64 t∧validT (d+1) (l.take t)=true∧Below w.heap.size w wr) (fun i _=>n - (intOf i).toNat)
  case atStart=>exact ⟨0,Nat.zero_le _,rfl,rfl,Below.refl _ _⟩
  case round =>
   obtain ⟨t,ht,rfl,hok,hb⟩:=hrel
   have HOK:=hD hok
   have hbs:=hb.size
   clear hok
   by_cases hlt:t<n
   ·obtain ⟨b,off,s,Aa',ca',Ab',nb',cb',rfl,hbl,hs,⟨c0,c1,c2,c3,c4⟩,h2,h3⟩:=(H.out.below hb).at_ hlt
    have hme:=szT_mem hs
    unfold szE at hme
    have hq:=HQ.out
    have HC:=hD (ih'.out lo (hdT s).k (hdT s).word (hdT s).args (hdT s).count (bdT s) Aa' ca' Ab' nb' cb' wr h2 h3 Zq1 Zq1 Zq1)
    obtain ⟨V,hV⟩:∃ V,V=vOne d (validT d) (hdT s) (bdT s):=⟨_,rfl⟩
    have HV:=hD hV
    have HS:=hD hs
    have HC2:Hid (Calls Try.prog 44 #[.agg #[.int .i64 (hdT s).k,.string (hdT s).word,.slice Aa' (hdT s).args.length ca',.int .i64 (hdT s).count,.slice Ab' nb' cb']] wr fun e w'=>e=.returned (.bool V)∧Below wr.heap.size wr w'∧wr.heap.size≤w'.heap.size):=by
     rw[hV]
     exact HC.out
    clear hV hs hme hq HC h2 h3
    cases V
    ·have HF:=hD (show validT (d+1) l=false by
      simp only[validT]
      rw[List.all_eq_false]
      exact ⟨s,List.mem_of_getElem? HS.out,by rw[←HV.out];simp⟩)
     go_wp2_with fail
     refine HC2.out.mono ?_
     rintro e w2 ⟨rfl,hb2,hs2⟩
     go_wp2_with fail
     go_ret
     exact ⟨by rw[HF.out];rfl,hb.trans (hb2.mono hbs),by omega⟩
    ·have HN:=hD (show validT (d+1) (l.take (t+1))=true by
      have h:=HOK.out
      simp only[validT] at h ⊢
      rw[all_take _ HS.out,h,←HV.out]
      rfl)
     go_wp2_with fail
     refine HC2.out.mono ?_
     rintro e w2 ⟨rfl,hb2,hs2⟩
     go_wp2_with fail
     go_roundw
     case rel=>exact ⟨t+1,by omega,by go_num,HN.out,hb.trans (hb2.mono hbs)⟩
     case measure=>simp [intOf];omega
   ·obtain rfl:t=n:=by omega
    have HF:Hid (validT (d+1) l=true):=by
     have h:=HOK.out
     rw[List.take_of_length_le (by rw[HL.out];exact Nat.le_refl _)] at h
     exact h
    go_wp2_with fail
    go_ret
    exact ⟨by rw[HF.out];rfl,hb,hb.size⟩
theorem boxcells2 {w w':World} {b:Nat} {x0 x1:Value} {t:TypeId} (lay:Below w'.heap.size w' w) (h:w'.heap[b]?=some (.cells #[x0,x1] t (0,0))) :
  w.cell? ⟨b,0,none⟩=some x0∧w.cell? ⟨b,1,none⟩=some x1:=by
 have h':w.heap[b]?=some (.cells #[x0,x1] t (0,0)):=(lay.block b (lt_of_block h)).trans h
 exact ⟨by simp [World.cell?,h'],by simp [World.cell?,h']⟩
theorem bdrew {w w':World} (h:Below w.drew.heap.size w.drew w'):Below w.heap.size w w':=⟨h.os,h.tape,h.output,h.size,h.block⟩
def pgR (c1 c2 c3:Bool) (N T m:Nat):Bool:=c1&&(c2&&(c3&&(decide (N≤4)&&decide (T+m+2≤160))))
def progV (d:Nat) (qs:List ByteArray) (bd:List (Tr d)):Bool:=pgR (inB qs.length 1 4) (allW qs) (validT d bd) (nestT d bd) (tokT d bd) qs.length
theorem pgm_spec_1 (Aq:Option Addr) (m cq:Nat) (Ab:Option Addr) (nb cb:Nat) (w:World) (c1 c2 c3:Bool) (N T:Nat) (hm:m≤1048576) (hT0:T≤8388608) (hc1:c1=false)
  (h1:∀ w',Calls Try.prog 32 #[.int .i64 m,.int .i64 1,.int .i64 4] w' fun e w''=>e=.returned (.bool c1)∧w'=w'')
  (h2:∀ w',Below w.heap.size w w'→Calls Try.prog 33 #[.slice Aq m cq] w' fun e w''=>e=.returned (.bool c2)∧w'=w'')
  (h3:∀ w',Below w.heap.size w w'→Calls Try.prog 34 #[.slice Ab nb cb] w' fun e w''=>e=.returned (.bool c3)∧Below w'.heap.size w' w''∧w'.heap.size≤w''.heap.size)
  (h4:∀ w',Below w.heap.size w w'→Calls Try.prog 35 #[.slice Ab nb cb] w' fun e w''=>e=.returned (.int .i64 N)∧Below w'.heap.size w' w''∧w'.heap.size≤w''.heap.size)
  (h5:∀ w',Below w.heap.size w w'→Calls Try.prog 36 #[.slice Ab nb cb] w' fun e w''=>e=.returned (.int .i64 T)∧Below w'.heap.size w' w''∧w'.heap.size≤w''.heap.size) :
  Calls Try.prog 23 #[.agg #[.slice Aq m cq,.slice Ab nb cb]] w fun e w'=>e=.returned (.bool (pgR c1 c2 c3 N T m))∧Below w.heap.size w w'∧w.heap.size≤w'.heap.size:=by
 subst hc1
 obtain ⟨w0,hw0⟩:∃ w0,w0=w.alloc (.cells #[.slice Aq m cq,.slice Ab nb cb] 27):=⟨_,rfl⟩
 have X0:=hD (show w0.heap[w.heap.size]?=some (.cells #[.slice Aq m cq,.slice Ab nb cb] 27 (0,0)) by rw[hw0];exact boxed1_0 _ _)
 have b0:Below w.heap.size w w0:=by rw[hw0];exact Zq0
 have hs0:w.heap.size≤w0.heap.size:=b0.size
 obtain ⟨p0,p1⟩:=boxcells2 (lay:=Below.refl _ _) X0.out
 have B0:=hD b0
 have HW:=hD hw0
 have H1:=hD h1
 have H2:=hD h2
 have H3:=hD h3
 have H4:=hD h4
 have H5:=hD h5
 clear b0 hw0 h1 h2 h3 h4 h5
 have HF:=hD (show pgR false c2 c3 N T m=false by simp [pgR])
 go_enter Try.func23,Try.ntmps23
 go_wp2_with fail
 rw[←HW.out]
 go_quiet (first|(go_at_call 32;exact Calls.quiet_of_same ((H1.out _).mono fun _ _ h=>⟨h.1,h.2.symm⟩)))
 go_wp2_with fail
 go_ret
 exact ⟨by rw[HF.out];rfl,below_drewN B0.out _,(below_drewN B0.out _).size⟩
theorem pgm_spec_2 (Aq:Option Addr) (m cq:Nat) (Ab:Option Addr) (nb cb:Nat) (w:World) (c1 c2 c3:Bool) (N T:Nat) (hm:m≤1048576) (hT0:T≤8388608) (hc1:c1=true) (hc2:c2=false)
  (h1:∀ w',Calls Try.prog 32 #[.int .i64 m,.int .i64 1,.int .i64 4] w' fun e w''=>e=.returned (.bool c1)∧w'=w'')
  (h2:∀ w',Below w.heap.size w w'→Calls Try.prog 33 #[.slice Aq m cq] w' fun e w''=>e=.returned (.bool c2)∧w'=w'')
  (h3:∀ w',Below w.heap.size w w'→Calls Try.prog 34 #[.slice Ab nb cb] w' fun e w''=>e=.returned (.bool c3)∧Below w'.heap.size w' w''∧w'.heap.size≤w''.heap.size)
  (h4:∀ w',Below w.heap.size w w'→Calls Try.prog 35 #[.slice Ab nb cb] w' fun e w''=>e=.returned (.int .i64 N)∧Below w'.heap.size w' w''∧w'.heap.size≤w''.heap.size)
  (h5:∀ w',Below w.heap.size w w'→Calls Try.prog 36 #[.slice Ab nb cb] w' fun e w''=>e=.returned (.int .i64 T)∧Below w'.heap.size w' w''∧w'.heap.size≤w''.heap.size) :
  Calls Try.prog 23 #[.agg #[.slice Aq m cq,.slice Ab nb cb]] w fun e w'=>e=.returned (.bool (pgR c1 c2 c3 N T m))∧Below w.heap.size w w'∧w.heap.size≤w'.heap.size:=by
 subst hc1
 subst hc2
 obtain ⟨w0,hw0⟩:∃ w0,w0=w.alloc (.cells #[.slice Aq m cq,.slice Ab nb cb] 27):=⟨_,rfl⟩
 have X0:=hD (show w0.heap[w.heap.size]?=some (.cells #[.slice Aq m cq,.slice Ab nb cb] 27 (0,0)) by rw[hw0];exact boxed1_0 _ _)
 have b0:Below w.heap.size w w0:=by rw[hw0];exact Zq0
 have hs0:w.heap.size≤w0.heap.size:=b0.size
 obtain ⟨p0,p1⟩:=boxcells2 (lay:=Below.refl _ _) X0.out
 have B0:=hD b0
 have HW:=hD hw0
 have H1:=hD h1
 have H2:=hD h2
 have H3:=hD h3
 have H4:=hD h4
 have H5:=hD h5
 clear b0 hw0 h1 h2 h3 h4 h5
 have HF:=hD (show pgR true false c3 N T m=false by simp [pgR])
 go_enter Try.func23,Try.ntmps23
 go_wp2_with fail
 rw[←HW.out]
 go_quiet (first|(go_at_call 32;exact Calls.quiet_of_same ((H1.out _).mono fun _ _ h=>⟨h.1,h.2.symm⟩))|(go_at_call 33;exact Calls.quiet_of_same ((H2.out _ (below_drewN B0.out _)).mono fun _ _ h=>⟨h.1,h.2.symm⟩)))
 go_wp2_with fail
 go_ret
 exact ⟨by rw[HF.out];rfl,below_drewN B0.out _,(below_drewN B0.out _).size⟩
theorem pgm_spec_3 (Aq:Option Addr) (m cq:Nat) (Ab:Option Addr) (nb cb:Nat) (w:World) (c1 c2 c3:Bool) (N T:Nat) (hm:m≤1048576) (hT0:T≤8388608) (hc1:c1=true) (hc2:c2=true) (hc3:c3=false)
  (h1:∀ w',Calls Try.prog 32 #[.int .i64 m,.int .i64 1,.int .i64 4] w' fun e w''=>e=.returned (.bool c1)∧w'=w'')
  (h2:∀ w',Below w.heap.size w w'→Calls Try.prog 33 #[.slice Aq m cq] w' fun e w''=>e=.returned (.bool c2)∧w'=w'')
  (h3:∀ w',Below w.heap.size w w'→Calls Try.prog 34 #[.slice Ab nb cb] w' fun e w''=>e=.returned (.bool c3)∧Below w'.heap.size w' w''∧w'.heap.size≤w''.heap.size)
  (h4:∀ w',Below w.heap.size w w'→Calls Try.prog 35 #[.slice Ab nb cb] w' fun e w''=>e=.returned (.int .i64 N)∧Below w'.heap.size w' w''∧w'.heap.size≤w''.heap.size)
  (h5:∀ w',Below w.heap.size w w'→Calls Try.prog 36 #[.slice Ab nb cb] w' fun e w''=>e=.returned (.int .i64 T)∧Below w'.heap.size w' w''∧w'.heap.size≤w''.heap.size) :
  Calls Try.prog 23 #[.agg #[.slice Aq m cq,.slice Ab nb cb]] w fun e w'=>e=.returned (.bool (pgR c1 c2 c3 N T m))∧Below w.heap.size w w'∧w.heap.size≤w'.heap.size:=by
 subst hc1
 subst hc2
 subst hc3
 obtain ⟨w0,hw0⟩:∃ w0,w0=w.alloc (.cells #[.slice Aq m cq,.slice Ab nb cb] 27):=⟨_,rfl⟩
 have X0:=hD (show w0.heap[w.heap.size]?=some (.cells #[.slice Aq m cq,.slice Ab nb cb] 27 (0,0)) by rw[hw0];exact boxed1_0 _ _)
 have b0:Below w.heap.size w w0:=by rw[hw0];exact Zq0
 have hs0:w.heap.size≤w0.heap.size:=b0.size
 obtain ⟨p0,p1⟩:=boxcells2 (lay:=Below.refl _ _) X0.out
 have B0:=hD b0
 have HW:=hD hw0
 have H1:=hD h1
 have H2:=hD h2
 have H3:=hD h3
 have H4:=hD h4
 have H5:=hD h5
 clear b0 hw0 h1 h2 h3 h4 h5
 have HF:=hD (show pgR true true false N T m=false by simp [pgR])
 go_enter Try.func23,Try.ntmps23
 go_wp2_with fail
 rw[←HW.out]
 first | (go_region_with (first | (go_at_call 32; (with_reducible refine (H1.out _).mono ?_); rintro e w' ⟨rfl, rfl⟩) | (go_at_call 33; (with_reducible refine (H2.out _ ?_).mono ?_); exact B0.out.drew; rintro e w' ⟨rfl, rfl⟩) | (go_at_call 34; (with_reducible refine (H3.out _ ?_).mono ?_); exact B0.out.drew; rintro e y3 ⟨rfl, d3, _⟩; have u3 := bdrew d3; obtain ⟨a0, a1⟩ := boxcells2 (lay := u3) X0.out))) | fail "no"
 all_goals (go_wp2_with fail;go_ret;exact ⟨by rw[HF.out];first|rfl|exact congrArg (fun b=>Ending.returned (Value.bool b)) HTw.out,B0.out.trans (u3.mono hs0),(B0.out.trans (u3.mono hs0)).size⟩)
theorem pgm_spec_4 (Aq:Option Addr) (m cq:Nat) (Ab:Option Addr) (nb cb:Nat) (w:World) (c1 c2 c3:Bool) (N T:Nat) (hm:m≤1048576) (hT0:T≤8388608) (hc1:c1=true) (hc2:c2=true) (hc3:c3=true) (hN:¬ N≤4)
  (h1:∀ w',Calls Try.prog 32 #[.int .i64 m,.int .i64 1,.int .i64 4] w' fun e w''=>e=.returned (.bool c1)∧w'=w'')
  (h2:∀ w',Below w.heap.size w w'→Calls Try.prog 33 #[.slice Aq m cq] w' fun e w''=>e=.returned (.bool c2)∧w'=w'')
  (h3:∀ w',Below w.heap.size w w'→Calls Try.prog 34 #[.slice Ab nb cb] w' fun e w''=>e=.returned (.bool c3)∧Below w'.heap.size w' w''∧w'.heap.size≤w''.heap.size)
  (h4:∀ w',Below w.heap.size w w'→Calls Try.prog 35 #[.slice Ab nb cb] w' fun e w''=>e=.returned (.int .i64 N)∧Below w'.heap.size w' w''∧w'.heap.size≤w''.heap.size)
  (h5:∀ w',Below w.heap.size w w'→Calls Try.prog 36 #[.slice Ab nb cb] w' fun e w''=>e=.returned (.int .i64 T)∧Below w'.heap.size w' w''∧w'.heap.size≤w''.heap.size) :
  Calls Try.prog 23 #[.agg #[.slice Aq m cq,.slice Ab nb cb]] w fun e w'=>e=.returned (.bool (pgR c1 c2 c3 N T m))∧Below w.heap.size w w'∧w.heap.size≤w'.heap.size:=by
 subst hc1
 subst hc2
 subst hc3
 have hNi:decide ((N:Int)≤4)=false:=by simp;omega
 have hNn:decide (N≤4)=false:=by simp;omega
 obtain ⟨w0,hw0⟩:∃ w0,w0=w.alloc (.cells #[.slice Aq m cq,.slice Ab nb cb] 27):=⟨_,rfl⟩
 have X0:=hD (show w0.heap[w.heap.size]?=some (.cells #[.slice Aq m cq,.slice Ab nb cb] 27 (0,0)) by rw[hw0];exact boxed1_0 _ _)
 have b0:Below w.heap.size w w0:=by rw[hw0];exact Zq0
 have hs0:w.heap.size≤w0.heap.size:=b0.size
 obtain ⟨p0,p1⟩:=boxcells2 (lay:=Below.refl _ _) X0.out
 have B0:=hD b0
 have HW:=hD hw0
 have H1:=hD h1
 have H2:=hD h2
 have H3:=hD h3
 have H4:=hD h4
 have H5:=hD h5
 clear b0 hw0 h1 h2 h3 h4 h5
 have HF:=hD (show pgR true true true N T m=false by simp [pgR,hN])
 go_enter Try.func23,Try.ntmps23
 go_wp2_with fail
 rw[←HW.out]
 first | (go_region_with (first | (go_at_call 32; (with_reducible refine (H1.out _).mono ?_); rintro e w' ⟨rfl, rfl⟩) | (go_at_call 33; (with_reducible refine (H2.out _ ?_).mono ?_); exact B0.out.drew; rintro e w' ⟨rfl, rfl⟩) | (go_at_call 34; (with_reducible refine (H3.out _ ?_).mono ?_); exact B0.out.drew; rintro e y3 ⟨rfl, d3, _⟩; have u3 := bdrew d3; obtain ⟨a0, a1⟩ := boxcells2 (lay := u3) X0.out) | (go_at_call 35; (with_reducible refine (H4.out _ ?_).mono ?_); exact B0.out.trans (u3.mono hs0); rintro e y4 ⟨rfl, d4, _⟩; have u4 := u3.trans (d4.mono u3.size); obtain ⟨a2, a3⟩ := boxcells2 (lay := u4) X0.out))) | fail "no"
 all_goals (go_wp2_with fail;go_ret;exact ⟨by rw[HF.out];first|rfl|exact congrArg (fun b=>Ending.returned (Value.bool b)) HTw.out,B0.out.trans (u4.mono hs0),(B0.out.trans (u4.mono hs0)).size⟩)
theorem pgm_spec_5 (Aq:Option Addr) (m cq:Nat) (Ab:Option Addr) (nb cb:Nat) (w:World) (c1 c2 c3:Bool) (N T:Nat) (hm:m≤1048576) (hT0:T≤8388608) (hc1:c1=true) (hc2:c2=true) (hc3:c3=true) (hN:N≤4) (hT:¬ T+m+2≤160)
  (h1:∀ w',Calls Try.prog 32 #[.int .i64 m,.int .i64 1,.int .i64 4] w' fun e w''=>e=.returned (.bool c1)∧w'=w'')
  (h2:∀ w',Below w.heap.size w w'→Calls Try.prog 33 #[.slice Aq m cq] w' fun e w''=>e=.returned (.bool c2)∧w'=w'')
  (h3:∀ w',Below w.heap.size w w'→Calls Try.prog 34 #[.slice Ab nb cb] w' fun e w''=>e=.returned (.bool c3)∧Below w'.heap.size w' w''∧w'.heap.size≤w''.heap.size)
  (h4:∀ w',Below w.heap.size w w'→Calls Try.prog 35 #[.slice Ab nb cb] w' fun e w''=>e=.returned (.int .i64 N)∧Below w'.heap.size w' w''∧w'.heap.size≤w''.heap.size)
  (h5:∀ w',Below w.heap.size w w'→Calls Try.prog 36 #[.slice Ab nb cb] w' fun e w''=>e=.returned (.int .i64 T)∧Below w'.heap.size w' w''∧w'.heap.size≤w''.heap.size) :
  Calls Try.prog 23 #[.agg #[.slice Aq m cq,.slice Ab nb cb]] w fun e w'=>e=.returned (.bool (pgR c1 c2 c3 N T m))∧Below w.heap.size w w'∧w.heap.size≤w'.heap.size:=by
 subst hc1
 subst hc2
 subst hc3
 have hNi:decide ((N:Int)≤4)=true:=by simp;omega
 have hNn:decide (N≤4)=true:=by simp;omega
 have HTw:=hD (show decide (IntKind.i64.wrap (IntKind.i64.wrap ((T:Int)+(m:Int))+2)≤160)=false by rw[IntWalk.i64_in ((T:Int)+(m:Int)) Zq1,IntWalk.i64_in _ Zq1];simp;omega)
 have hTi:decide ((T:Int)+(m:Int)+2≤160)=false:=by simp;omega
 have hTj:decide ((T:Int)+(m:Int)≤158)=false:=by simp;omega
 obtain ⟨w0,hw0⟩:∃ w0,w0=w.alloc (.cells #[.slice Aq m cq,.slice Ab nb cb] 27):=⟨_,rfl⟩
 have X0:=hD (show w0.heap[w.heap.size]?=some (.cells #[.slice Aq m cq,.slice Ab nb cb] 27 (0,0)) by rw[hw0];exact boxed1_0 _ _)
 have b0:Below w.heap.size w w0:=by rw[hw0];exact Zq0
 have hs0:w.heap.size≤w0.heap.size:=b0.size
 obtain ⟨p0,p1⟩:=boxcells2 (lay:=Below.refl _ _) X0.out
 have B0:=hD b0
 have HW:=hD hw0
 have H1:=hD h1
 have H2:=hD h2
 have H3:=hD h3
 have H4:=hD h4
 have H5:=hD h5
 clear b0 hw0 h1 h2 h3 h4 h5
 have HF:=hD (show pgR true true true N T m=false by simp [pgR,hN,hT])
 go_enter Try.func23,Try.ntmps23
 go_wp2_with fail
 rw[←HW.out]
 first | (go_region_held3 (fun W => W.cell? ⟨w.heap.size, 0, none⟩ = some (.slice Aq m cq) ∧ W.cell? ⟨w.heap.size, 1, none⟩ = some (.slice Ab nb cb)) (first | exact ⟨p0, p1⟩ | exact ⟨a0, a1⟩ | exact ⟨a2, a3⟩ | exact ⟨a4, a5⟩) (first | (go_at_call 32; (with_reducible refine (H1.out _).mono ?_); rintro e w' ⟨rfl, rfl⟩) | (go_at_call 33; (with_reducible refine (H2.out _ ?_).mono ?_); exact B0.out.drew; rintro e w' ⟨rfl, rfl⟩) | (go_at_call 34; (with_reducible refine (H3.out _ ?_).mono ?_); exact B0.out.drew; rintro e y3 ⟨rfl, d3, _⟩; have u3 := bdrew d3; obtain ⟨a0, a1⟩ := boxcells2 (lay := u3) X0.out) | (go_at_call 35; (with_reducible refine (H4.out _ ?_).mono ?_); exact B0.out.trans (u3.mono hs0); rintro e y4 ⟨rfl, d4, _⟩; have u4 := u3.trans (d4.mono u3.size); obtain ⟨a2, a3⟩ := boxcells2 (lay := u4) X0.out) | (go_at_call 36; (with_reducible refine (H5.out _ ?_).mono ?_); exact B0.out.trans (u4.mono hs0); rintro e y5 ⟨rfl, d5, _⟩; have u5 := u4.trans (d5.mono u4.size); obtain ⟨a4, a5⟩ := boxcells2 (lay := u5) X0.out))) | fail "no"
 all_goals (go_wp2_with fail;go_ret;exact ⟨by rw[HF.out];first|rfl|exact congrArg (fun b=>Ending.returned (Value.bool b)) HTw.out,B0.out.trans (u5.mono hs0),(B0.out.trans (u5.mono hs0)).size⟩)
theorem pgm_spec_6 (Aq:Option Addr) (m cq:Nat) (Ab:Option Addr) (nb cb:Nat) (w:World) (c1 c2 c3:Bool) (N T:Nat) (hm:m≤1048576) (hT0:T≤8388608) (hc1:c1=true) (hc2:c2=true) (hc3:c3=true) (hN:N≤4) (hT:T+m+2≤160)
  (h1:∀ w',Calls Try.prog 32 #[.int .i64 m,.int .i64 1,.int .i64 4] w' fun e w''=>e=.returned (.bool c1)∧w'=w'')
  (h2:∀ w',Below w.heap.size w w'→Calls Try.prog 33 #[.slice Aq m cq] w' fun e w''=>e=.returned (.bool c2)∧w'=w'')
  (h3:∀ w',Below w.heap.size w w'→Calls Try.prog 34 #[.slice Ab nb cb] w' fun e w''=>e=.returned (.bool c3)∧Below w'.heap.size w' w''∧w'.heap.size≤w''.heap.size)
  (h4:∀ w',Below w.heap.size w w'→Calls Try.prog 35 #[.slice Ab nb cb] w' fun e w''=>e=.returned (.int .i64 N)∧Below w'.heap.size w' w''∧w'.heap.size≤w''.heap.size)
  (h5:∀ w',Below w.heap.size w w'→Calls Try.prog 36 #[.slice Ab nb cb] w' fun e w''=>e=.returned (.int .i64 T)∧Below w'.heap.size w' w''∧w'.heap.size≤w''.heap.size) :
  Calls Try.prog 23 #[.agg #[.slice Aq m cq,.slice Ab nb cb]] w fun e w'=>e=.returned (.bool (pgR c1 c2 c3 N T m))∧Below w.heap.size w w'∧w.heap.size≤w'.heap.size:=by
 subst hc1
 subst hc2
 subst hc3
 have hNi:decide ((N:Int)≤4)=true:=by simp;omega
 have hNn:decide (N≤4)=true:=by simp;omega
 have HTw:=hD (show decide (IntKind.i64.wrap (IntKind.i64.wrap ((T:Int)+(m:Int))+2)≤160)=true by rw[IntWalk.i64_in ((T:Int)+(m:Int)) Zq1,IntWalk.i64_in _ Zq1];simp;omega)
 have hTi:decide ((T:Int)+(m:Int)+2≤160)=true:=by simp;omega
 have hTj:decide ((T:Int)+(m:Int)≤158)=true:=by simp;omega
 obtain ⟨w0,hw0⟩:∃ w0,w0=w.alloc (.cells #[.slice Aq m cq,.slice Ab nb cb] 27):=⟨_,rfl⟩
 have X0:=hD (show w0.heap[w.heap.size]?=some (.cells #[.slice Aq m cq,.slice Ab nb cb] 27 (0,0)) by rw[hw0];exact boxed1_0 _ _)
 have b0:Below w.heap.size w w0:=by rw[hw0];exact Zq0
 have hs0:w.heap.size≤w0.heap.size:=b0.size
 obtain ⟨p0,p1⟩:=boxcells2 (lay:=Below.refl _ _) X0.out
 have B0:=hD b0
 have HW:=hD hw0
 have H1:=hD h1
 have H2:=hD h2
 have H3:=hD h3
 have H4:=hD h4
 have H5:=hD h5
 clear b0 hw0 h1 h2 h3 h4 h5
 have HF:=hD (show pgR true true true N T m=true by simp [pgR,hN,hT])
 go_enter Try.func23,Try.ntmps23
 go_wp2_with fail
 rw[←HW.out]
 first | (go_region_held3 (fun W => W.cell? ⟨w.heap.size, 0, none⟩ = some (.slice Aq m cq) ∧ W.cell? ⟨w.heap.size, 1, none⟩ = some (.slice Ab nb cb)) (first | exact ⟨p0, p1⟩ | exact ⟨a0, a1⟩ | exact ⟨a2, a3⟩ | exact ⟨a4, a5⟩) (first | (go_at_call 32; (with_reducible refine (H1.out _).mono ?_); rintro e w' ⟨rfl, rfl⟩) | (go_at_call 33; (with_reducible refine (H2.out _ ?_).mono ?_); exact B0.out.drew; rintro e w' ⟨rfl, rfl⟩) | (go_at_call 34; (with_reducible refine (H3.out _ ?_).mono ?_); exact B0.out.drew; rintro e y3 ⟨rfl, d3, _⟩; have u3 := bdrew d3; obtain ⟨a0, a1⟩ := boxcells2 (lay := u3) X0.out) | (go_at_call 35; (with_reducible refine (H4.out _ ?_).mono ?_); exact B0.out.trans (u3.mono hs0); rintro e y4 ⟨rfl, d4, _⟩; have u4 := u3.trans (d4.mono u3.size); obtain ⟨a2, a3⟩ := boxcells2 (lay := u4) X0.out) | (go_at_call 36; (with_reducible refine (H5.out _ ?_).mono ?_); exact B0.out.trans (u4.mono hs0); rintro e y5 ⟨rfl, d5, _⟩; have u5 := u4.trans (d5.mono u4.size); obtain ⟨a4, a5⟩ := boxcells2 (lay := u5) X0.out))) | fail "no"
 all_goals (go_wp2_with fail;go_ret;exact ⟨by rw[HF.out];first|rfl|exact congrArg (fun b=>Ending.returned (Value.bool b)) HTw.out,B0.out.trans (u5.mono hs0),(B0.out.trans (u5.mono hs0)).size⟩)
theorem IsValidProgram_spec (d lo lo':Nat) (Aq:Option Addr) (cq:Nat) (qs:List ByteArray) (bd:List (Tr d)) (Ab:Option Addr) (nb cb:Nat) (w:World) (hra:RdL w lo 1 Aq qs.length (strs qs)) (hrb:RdT w lo' d Ab nb bd) (hm:qs.length≤1048576) (hz:szS qs≤1048576) (hsz:szT d bd≤1048576) :
  Calls Try.prog 23 #[.agg #[.slice Aq qs.length cq,.slice Ab nb cb]] w fun e w'=>e=.returned (.bool (progV d qs bd))∧Below w.heap.size w w'∧w.heap.size≤w'.heap.size:=by
 have h1:∀ w',Calls Try.prog 32 #[.int .i64 qs.length,.int .i64 1,.int .i64 4] w' fun e w''=>e=.returned (.bool (inB qs.length 1 4))∧w'=w'':=fun w'=>l1In_any _ _ _ _
 have h2:∀ w',Below w.heap.size w w'→Calls Try.prog 33 #[.slice Aq qs.length cq] w' fun e w''=>e=.returned (.bool (allW qs))∧w'=w'':=fun w' hb=>l17Words_any _ _ _ qs _ (hra.rd.below hb) rfl Zq1 hz
 have h3:∀ w',Below w.heap.size w w'→Calls Try.prog 34 #[.slice Ab nb cb] w' fun e w''=>e=.returned (.bool (validT d bd))∧Below w'.heap.size w' w''∧w'.heap.size≤w''.heap.size:=fun w' hb=>l17All_any d _ _ _ _ _ _ (hrb.below hb) hsz
 have h4:∀ w',Below w.heap.size w w'→Calls Try.prog 35 #[.slice Ab nb cb] w' fun e w''=>e=.returned (.int .i64 (nestT d bd))∧Below w'.heap.size w' w''∧w'.heap.size≤w''.heap.size:=fun w' hb=>NestingDepth_spec d _ _ _ _ _ _ (hrb.below hb) hsz
 have h5:∀ w',Below w.heap.size w w'→Calls Try.prog 36 #[.slice Ab nb cb] w' fun e w''=>e=.returned (.int .i64 (tokT d bd))∧Below w'.heap.size w' w''∧w'.heap.size≤w''.heap.size:=fun w' hb=>StmtTokenCount_spec d _ _ _ _ _ _ (hrb.below hb) hsz
 have hT:=tokT_le d bd
 unfold progV
 cases hc1:inB qs.length 1 4
 ·exact pgm_spec_1 _ _ _ _ _ _ w _ _ _ _ _ hm Zq1 rfl (hc1▸h1) h2 h3 h4 h5
 cases hc2:allW qs
 ·exact pgm_spec_2 _ _ _ _ _ _ w _ _ _ _ _ hm Zq1 rfl rfl (hc1▸h1) (hc2▸h2) h3 h4 h5
 cases hc3:validT d bd
 ·exact pgm_spec_3 _ _ _ _ _ _ w _ _ _ _ _ hm Zq1 rfl rfl rfl (hc1▸h1) (hc2▸h2) (hc3▸h3) h4 h5
 by_cases hN:nestT d bd≤4
 ·by_cases hT':tokT d bd+qs.length+2≤160
  ·exact pgm_spec_6 _ _ _ _ _ _ w _ _ _ _ _ hm Zq1 rfl rfl rfl hN hT' (hc1▸h1) (hc2▸h2) (hc3▸h3) h4 h5
  ·exact pgm_spec_5 _ _ _ _ _ _ w _ _ _ _ _ hm Zq1 rfl rfl rfl hN hT' (hc1▸h1) (hc2▸h2) (hc3▸h3) h4 h5
 ·exact pgm_spec_4 _ _ _ _ _ _ w _ _ _ _ _ hm Zq1 rfl rfl rfl hN (hc1▸h1) (hc2▸h2) (hc3▸h3) h4 h5
def dupF (qs:List ByteArray):Nat→List ByteArray→Bad
 | _,[]=>bad0
 | i,q :: r=>if hasS (qs.take i) q=true then (1,q) else dupF qs (i+1) r
theorem dupF_at {qs:List ByteArray} {t:Nat} {q:ByteArray} (h:qs[t]?=some q):dupF qs t (qs.drop t)=if hasS (qs.take t) q=true then (1,q) else dupF qs (t+1) (qs.drop (t+1)):=by
 obtain ⟨ht,he⟩:=List.getElem?_eq_some_iff.1 h
 rw[List.drop_eq_getElem_cons ht,dupF,he]
def ckP (d:Nat) (qs:List ByteArray) (l:List (Tr d)):Bad :=
 if progV d qs l=true then (if (dupF qs 0 qs).1=0 then chkT d l qs [] else dupF qs 0 qs) else bad0
theorem progV_validC {d:Nat} {qs:List ByteArray} {l:List (Tr d)} (h:progV d qs l=true):validT d l=true:=by
 unfold progV pgR at h
 simp only[Bool.and_eq_true] at h
 exact h.2.2.1
theorem progV_len {d:Nat} {qs:List ByteArray} {l:List (Tr d)} (h:progV d qs l=true):qs.length≤4:=by
 unfold progV pgR at h
 simp only[Bool.and_eq_true] at h
 have:=inB_iff.1 h.1
 omega
theorem strs_take (l:List ByteArray) (t:Nat):(strs l).take t=strs (l.take t):=by simp [strs]
def RetCk (c:Bad) (w:World) (e:Ending) (w':World):Prop:=e=.returned (.tuple #[.int .i64 c.1,.string c.2])∧Below w.heap.size w w'∧w.heap.size≤w'.heap.size
theorem CheckProgram_spec (d lo lo':Nat) (Aq:Option Addr) (cq:Nat) (qs:List ByteArray) (l:List (Tr d)) (Ab:Option Addr) (nb cb:Nat) (w:World) (hra:RdL w lo 1 Aq qs.length (strs qs)) (hcq:qs.length≤cq) (hrb:RdT w lo' d Ab nb l) (hm:qs.length≤1048576) (hz:szS qs≤1048576) (hsz:szT d l≤1048576) :
  Calls Try.prog 22 #[.agg #[.slice Aq qs.length cq,.slice Ab nb cb]] w (RetCk (ckP d qs l) w):=by
 obtain ⟨w0,hw0⟩:∃ w0,w0=w.alloc (.cells #[.slice Aq qs.length cq,.slice Ab nb cb] 27):=⟨_,rfl⟩
 have X0:=hD (show w0.heap[w.heap.size]?=some (.cells #[.slice Aq qs.length cq,.slice Ab nb cb] 27 (0,0)) by rw[hw0];exact boxed1_0 _ _)
 have b0:Below w.heap.size w w0:=by rw[hw0];exact Zq0
 have hz0:w.heap.size<w0.heap.size:=by rw[hw0];simp
 have HV:=hD (IsValidProgram_spec d lo lo' Aq cq qs l Ab nb cb w0 (hra.below b0) (hrb.below b0) hm hz hsz)
 have HW:=hD hw0
 have B0:=hD b0
 have HA:=hD hra.rd
 have HT:=hD hrb
 obtain ⟨m,hmq⟩:∃ m,m=qs.length:=⟨_,rfl⟩
 rw[←hmq] at X0 HV HW HA hcq hm ⊢
 have HM:=hD hmq
 clear hw0 b0 hra hrb hmq
 cases hp:progV d qs l
 ·have HS:Hid (ckP d qs l=bad0):=by rw[ckP,if_neg (by rw[hp];decide)];exact rfl
  rw[hp] at HV
  clear hp
  go_enter Try.func22,Try.ntmps22
  go_upto_region 1 with (fail)
  rw[←HW.out]
  obtain ⟨p0,p1⟩:=boxc2 (lay:=Below.refl _ _) X0.out
  go_wp2_with fail
  refine HV.out.mono ?_
  rintro e w1 ⟨rfl,b1,s1⟩
  have hbw:=B0.out.trans (b1.mono Zq1)
  clear b1
  go_wp2_with fail
  go_ret2
  exact ⟨by rw[HS.out];exact rfl,hbw,by omega⟩
 ·have HS:Hid (ckP d qs l=if (dupF qs 0 qs).1=0 then chkT d l qs [] else dupF qs 0 qs):=by rw[ckP,if_pos hp];exact rfl
  have hq4:=progV_len hp
  rw[←HM.out] at hq4
  have HVT:=hD (progV_validC hp)
  rw[hp] at HV
  clear hp
  go_enter Try.func22,Try.ntmps22
  go_upto_region 1 with (fail)
  rw[←HW.out]
  obtain ⟨p0,p1⟩:=boxc2 (lay:=Below.refl _ _) X0.out
  go_wp2_with fail
  refine HV.out.mono ?_
  rintro e w1 ⟨rfl,b1,s1⟩
  have B1:=hD b1
  have hz1:w.heap.size<w1.heap.size:=by omega
  clear p0 p1 b1
  go_wp2_with fail
  go_loopw [4] (fun i wr=>∃ t:Nat,t≤m∧i=.int .i64 t∧Hid (dupF qs 0 qs=dupF qs t (qs.drop t))∧Below w1.heap.size w1 wr) (fun i _=>m - (intOf i).toNat)
  case atStart=>exact ⟨0,Nat.zero_le _,rfl,rfl,Below.refl _ _⟩
  case round =>
   obtain ⟨t,ht,rfl,hd,hb⟩:=hrel
   have hbs:=hb.size
   have bb:=B1.out.trans (hb.mono Zq1)
   obtain ⟨p0,p1⟩:=boxc2 (lay:=bb) X0.out
   have HA1:=hD ((HA.out.below B0.out).below bb)
   have hzr:w.heap.size<wr.heap.size:=by omega
   clear bb
   by_cases hlt:t<m
   ·obtain ⟨q,hq⟩:∃ q,qs[t]?=some q:=⟨_,List.getElem?_eq_getElem (by rw[←HM.out];exact hlt)⟩
    obtain ⟨b,off,rfl,hbl,hcl⟩:=HA1.out.2 Zq1
    have r0:=hcl t _ (strs_at hq)
    have RT:Hid (Rd wr 1 (some ⟨b,off,none⟩) t (strs (qs.take t))):=by
     have:=HA1.out.take (t:=t) Zq1
     rw[strs_take] at this
     exact this
    have HD:=hD (hd.out.trans (dupF_at hq))
    have hlen:(qs.take t).length=t:=by rw[List.length_take,←HM.out];omega
    have HLE:=hD hlen
    have htc:t≤cq:=by omega
    have HBR:=hD hb
    clear hcl hq hd hlen hb
    cases hh:hasS (qs.take t) q
    ·have HN:Hid (dupF qs 0 qs=dupF qs (t+1) (qs.drop (t+1))):=by rw[HD.out,if_neg (by rw[hh];decide)];exact rfl
     go_wp2_with fail
     go_quiet ((go_at_call 30;exact Calls.quiet_of_same ((l1Has_any (some ⟨b,off,none⟩) t cq (qs.take t) q _ (RT.out.drewN _) HLE.out Zq1).mono fun e W h=>(⟨h.1.trans (by rw[hh]),h.2.symm⟩:e=.returned (.bool false)∧W=_))))
     go_wp2_with fail
     go_roundw
     case rel=>exact ⟨t+1,by omega,by go_num,HN,below_drewN HBR.out _⟩
     case measure=>simp [intOf];omega
    ·have HF:Hid (ckP d qs l=(1,q)):=by
      have h1:dupF qs 0 qs=(1,q):=by rw[HD.out,if_pos hh]
      rw[HS.out,h1]
      exact rfl
     go_wp2_with fail
     go_quiet ((go_at_call 30;exact Calls.quiet_of_same ((l1Has_any (some ⟨b,off,none⟩) t cq (qs.take t) q _ (RT.out.drewN _) HLE.out Zq1).mono fun e W h=>(⟨h.1.trans (by rw[hh]),h.2.symm⟩:e=.returned (.bool true)∧W=_))))
     go_wp2_with fail
     go_quiet (fail)
     go_wp2_with fail
     go_ret2
     exact ⟨by rw[HF.out];exact rfl,below_drewN (below_drewN (B0.out.trans ((B1.out.mono Zq1).trans (HBR.out.mono Zq1))) _) _,by show _≤wr.heap.size;omega⟩
   ·obtain rfl:t=m:=by omega
    have HF:Hid (ckP d qs l=chkT d l qs []):=by
     have h1:dupF qs 0 qs=bad0:=by rw[hd.out,List.drop_of_length_le (by rw[←HM.out];exact Nat.le_refl _)];rfl
     rw[HS.out,h1,if_pos (show bad0.1=0 from rfl)]
     exact rfl
    obtain ⟨wx,hwx⟩:∃ wx,wx=wr.alloc (.cells #[.slice Aq t cq,.slice none 0 0,.bool false,.slice none 0 0] 72):=⟨_,rfl⟩
    have bx:Below wr.heap.size wr wx:=by rw[hwx];exact Zq0
    have EV:EvS wx w.heap.size wr.heap.size Aq t cq [] (.slice none 0 0):=⟨by rw[hwx];exact boxed1_0 _ _,World.ownsRow_nil _ _ _ _⟩
    have bw1:Below w.heap.size w wr:=B0.out.trans ((B1.out.mono Zq1).trans (hb.mono Zq1))
    have hxs:w.heap.size≤wx.heap.size:=by have:=bx.size;omega
    have HC:=hD (l20All_top d lo' w.heap.size wr.heap.size Ab nb cb l Aq t cq qs [] (.slice none 0 0) w wx HT.out HA.out HM.out.symm (Nat.le_refl _) hxs (bw1.trans (bx.mono Zq1)) Zq1 EV Zq5 hq4 hsz HVT.out)
    have WX:=hD hwx
    have BX:=hD (bw1.trans (bx.mono Zq1))
    clear hwx bx EV bw1 hd hb
    go_wp2_with fail
    rw[←WX.out]
    refine HC.out.mono ?_
    rintro e w2 ⟨rfl,b2,s2⟩
    have HB2:=hD (BX.out.trans b2)
    obtain ⟨c,hc⟩:∃ c,c=chkT d l qs []:=⟨_,rfl⟩
    rw[←hc] at HF ⊢
    clear b2 hc
    go_wp2_with fail
    go_quiet (fail)
    go_wp2_with fail
    go_ret2
    exact ⟨by rw[HF.out];exact rfl,below_drewN (HB2.out.alloc Zq1 _) _,by simp;omega⟩
end Go.Proofs.Ythkbckkghnbonaa
