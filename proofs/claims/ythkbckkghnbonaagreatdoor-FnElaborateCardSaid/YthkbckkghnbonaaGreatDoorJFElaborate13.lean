/- What the calls that this law reaches answer, part 13 of 20. -/
import Derived.Test.YthkbckkghnbonaaGreatDoorJFElaborate12
import Derived.Test.YthkbckkghnbonaaGreatDoorJFElaborate10
import Derived.Test.YthkbckkghnbonaaGreatDoorJFElaborate6
import Derived.Test.YthkbckkghnbonaaGreatDoorJFElaborate8
import Derived.Test.YthkbckkghnbonaaGreatDoorJFElaborate7
import Derived.Test.YthkbckkghnbonaaGreatDoorJFElaborate1
set_option maxRecDepth 100000
set_option maxHeartbeats 16000000
set_option linter.unusedVariables false
namespace Go.Proofs.YthkbckkghnbonaaGreatDoor
open Go.RowKit
set_option linter.unusedVariables false
theorem yl9 {c1 V:Bool} {N T m t:Nat} {qs:List ByteArray} {s:ByteArray} (hs:qs[t]?=some s) (h:ya9 s=false):pgR c1 (allW qs) V N T m=false:=by
 have:qs.all ya9=false:=by
  rw[List.all_eq_false]
  exact ⟨s,List.mem_of_getElem? hs,by simp [h]⟩
 have e:allW qs=false:=this
 rw[e]
 cases c1 <;> rfl
theorem yma {c1 c2:Bool} {N T m t:Nat} {rs:List Bool} (hs:rs[t]?=some false):pgR c1 c2 (rs.all id) N T m=false:=by
 have:rs.all id=false:=by
  rw[List.all_eq_false]
  exact ⟨false,List.mem_of_getElem? hs,by simp⟩
 rw[this]
 cases c1 <;> cases c2 <;> rfl
theorem yp0 (Aq:Option Addr) (m cq:Nat) (qs:List ByteArray) (Ab:Option Addr) (nb cb:Nat) (rs:List Bool) (w:World) (c1:Bool) (N T:Nat) (hmq:qs.length=m) (hm:m≤1048576) (hT0:T≤8388608) (hra:Rd w 1 Aq m (strs qs)) (hz:szS qs≤1048576) (hn:nb≤1048576) (hrs:rs.length=nb) (hel:Elts 43 w Ab nb rs) (hc1:c1=false)
  (h1:∀ w',Calls Tryz.prog 44 #[.int .i64 m,.int .i64 1,.int .i64 4] w' fun e w''=>e=.returned (.bool c1)∧w'=w'')
  (h4:∀ w',Below w.heap.size w w'→Calls Tryz.prog 45 #[.slice Ab nb cb] w' fun e w''=>e=.returned (.int .i64 N)∧Below w'.heap.size w' w''∧w'.heap.size≤w''.heap.size)
  (h5:∀ w',Below w.heap.size w w'→Calls Tryz.prog 46 #[.slice Ab nb cb] w' fun e w''=>e=.returned (.int .i64 T)∧Below w'.heap.size w' w''∧w'.heap.size≤w''.heap.size) :
  Calls Tryz.prog 11 #[.agg #[.slice Aq m cq,.slice Ab nb cb]] w fun e w'=>e=.returned (.bool (pgR c1 (allW qs) (rs.all id) N T m))∧Below w.heap.size w w'∧w.heap.size≤w'.heap.size:=by
 subst hc1
 have HM:=hD hmq
 have HRA:=hD hra
 have HEL:=hD hel
 have HRS:=hD hrs
 have H1:=hD h1
 have H4:=hD h4
 have H5:=hD h5
 clear hra hel hrs h1 h4 h5 hmq
 go_enter Tryz.func11,Tryz.ntmps11
 go_wp2_with fail
 go_loop [10] (fun i=>∃ t:Nat,t≤m∧i=.int .i64 t∧(qs.take t).all ya9=true) (fun i=>m - (intOf i).toNat)
 case atStart=>exact ⟨0,Nat.zero_le _,rfl,rfl⟩
 case round =>
  obtain ⟨t,ht,rfl,hok⟩:=hrel
  have HOK:=hD hok
  clear hok
  by_cases hlt:t<m
  ·have htl:t<qs.length:=by have:=HM.out;omega
   obtain ⟨s,hs⟩:∃ s,qs[t]?=some s:=⟨_,List.getElem?_eq_getElem htl⟩
   obtain ⟨b,off,rfl,_,hc⟩:=HRA.out.2 Zq6
   have q0:=hc t _ (ybr hs)
   have hsz:=yei hs
   have HS:=hD hs
   have hs63:s.size≤9223372036854775807:=by omega
   clear hc hs htl hsz
   cases hw:ya9 s
   ·have HF:=hD (yl9 (c1:=false) (V:=rs.all id) (N:=N) (T:=T) (m:=m) HS.out hw)
    go_wp2_with (go_at_call 42;refine(ybk _ _ hs63).mono ?_;rintro e w' ⟨rfl,rfl⟩)
    go_ret
    exact ⟨by rw[HF.out];rfl,Zq0,Zq5⟩
   ·have HN:=hD (show(qs.take (t+1)).all ya9=true by rw[ycg _ HS.out,HOK.out,hw];rfl)
    go_wp2_with (go_at_call 42;refine(ybk _ _ hs63).mono ?_;rintro e w' ⟨rfl,rfl⟩)
    go_round
    case rel=>exact ⟨t+1,by omega,by go_num,HN.out⟩
    case measure=>simp [intOf];omega
  ·have HAL:Hid (allW qs=true):=by
    have h:=HOK.out
    rw[List.take_of_length_le (by have:=HM.out;omega)] at h
    exact h
   obtain ⟨w0,hw0⟩:∃ w0,w0=w.alloc (.cells #[.slice Aq m cq,.slice Ab nb cb] 27):=⟨_,rfl⟩
   have X0:=hD (show w0.heap[w.heap.size]?=some (.cells #[.slice Aq m cq,.slice Ab nb cb] 27 (0,0)) by rw[hw0];exact yac _ _)
   have b0:Below w.heap.size w w0:=by rw[hw0];exact Zq0
   have s0:w.heap.size≤w0.heap.size:=b0.size
   go_wp2_with fail
   rw[←hw0]
   have B0:=hD b0
   clear hw0 b0
   go_loopw [21] (fun i wr=>∃ t:Nat,t≤nb∧i=.int .i64 t∧(rs.take t).all id=true∧Below w0.heap.size w0 wr) (fun i _=>nb - (intOf i).toNat)
   case atStart=>exact ⟨0,Nat.zero_le _,rfl,rfl,Below.refl _ _⟩
   case round =>
    obtain ⟨t,ht,rfl,hok,hb⟩:=hrel
    have HOK2:=hD hok
    have hbs:=hb.size
    clear hok
    by_cases hlt:t<nb
    ·obtain ⟨b,off,k',wd',Aa',na',ca',ct',Ab',nb',cb',r,rfl,hbl,⟨q0,q1,q2,q3,q4⟩,hr,hcall⟩:=HEL.out t hlt
     have hbw:=(B0.out.trans (hb.mono s0))
     rw[←hbw.cell (p:=⟨b,_,none⟩) hbl] at q0 q1 q2 q3 q4
     have HC:=hD (hcall _ ((hbw.alloc Zq6 (.cells #[.int .i64 k',.string wd',.slice Aa' na' ca',.int .i64 ct',.slice Ab' nb' cb'] 66))))
     have HR:=hD hr
     clear hcall hr hbl hbw
     cases r
     ·have HF:=hD (yma (c1:=false) (c2:=allW qs) (N:=N) (T:=T) (m:=m) HR.out)
      go_wp2_with fail
      refine HC.out.mono ?_
      rintro e w2 ⟨rfl,hb2,hs2⟩
      go_wp2_with fail
      go_ret
      exact ⟨by rw[HF.out];rfl,(B0.out.trans (hb.mono s0)).trans (((Below.refl _ _).alloc (Nat.le_refl _) _).trans (hb2.mono Zq11) |>.mono Zq6),by have:=hs2;simp at this;omega⟩
     ·have HN:=hD (show(rs.take (t+1)).all id=true by rw[ycg _ HR.out,HOK2.out];rfl)
      go_wp2_with fail
      refine HC.out.mono ?_
      rintro e w2 ⟨rfl,hb2,hs2⟩
      go_wp2_with fail
      go_roundw
      case rel=>exact ⟨t+1,by omega,by go_num,HN.out,hb.trans (((Below.refl _ _).alloc (Nat.le_refl _) _).trans (hb2.mono Zq11) |>.mono Zq6)⟩
      case measure=>simp [intOf];omega
    ·have HRL:Hid (rs.all id=true):=by
      have h:=HOK2.out
      rw[List.take_of_length_le (by have:=HRS.out;omega)] at h
      exact h
     have HF:=hD (show pgR false (allW qs) (rs.all id) N T m=false by rw[HAL.out,HRL.out];simp [pgR])
     have HBB:=hD (B0.out.trans (hb.mono s0))
     obtain ⟨p0,p1⟩:=ybo (lay:=hb) X0.out
     have HB:=hD hb
     clear hb
     go_wp2_with fail
     go_quiet ((go_at_call 44;exact Calls.quiet_of_same ((H1.out _).mono fun _ _ h=>⟨h.1,h.2.symm⟩)))
     go_wp2_with fail
     go_ret
     exact ⟨by rw[HF.out];rfl,yaq HBB.out _,(yaq HBB.out _).size⟩
theorem yp1 (Aq:Option Addr) (m cq:Nat) (qs:List ByteArray) (Ab:Option Addr) (nb cb:Nat) (rs:List Bool) (w:World) (c1:Bool) (N T:Nat) (hmq:qs.length=m) (hm:m≤1048576) (hT0:T≤8388608) (hra:Rd w 1 Aq m (strs qs)) (hz:szS qs≤1048576) (hn:nb≤1048576) (hrs:rs.length=nb) (hel:Elts 43 w Ab nb rs) (hc1:c1=true) (hN:¬ N≤4)
  (h1:∀ w',Calls Tryz.prog 44 #[.int .i64 m,.int .i64 1,.int .i64 4] w' fun e w''=>e=.returned (.bool c1)∧w'=w'')
  (h4:∀ w',Below w.heap.size w w'→Calls Tryz.prog 45 #[.slice Ab nb cb] w' fun e w''=>e=.returned (.int .i64 N)∧Below w'.heap.size w' w''∧w'.heap.size≤w''.heap.size)
  (h5:∀ w',Below w.heap.size w w'→Calls Tryz.prog 46 #[.slice Ab nb cb] w' fun e w''=>e=.returned (.int .i64 T)∧Below w'.heap.size w' w''∧w'.heap.size≤w''.heap.size) :
  Calls Tryz.prog 11 #[.agg #[.slice Aq m cq,.slice Ab nb cb]] w fun e w'=>e=.returned (.bool (pgR c1 (allW qs) (rs.all id) N T m))∧Below w.heap.size w w'∧w.heap.size≤w'.heap.size:=by
 subst hc1
 have hNi:decide ((N:Int)≤4)=false:=by simp;omega
 have hNn:decide (N≤4)=false:=by simp;omega
 have HM:=hD hmq
 have HRA:=hD hra
 have HEL:=hD hel
 have HRS:=hD hrs
 have H1:=hD h1
 have H4:=hD h4
 have H5:=hD h5
 clear hra hel hrs h1 h4 h5 hmq
 go_enter Tryz.func11,Tryz.ntmps11
 go_wp2_with fail
 go_loop [10] (fun i=>∃ t:Nat,t≤m∧i=.int .i64 t∧(qs.take t).all ya9=true) (fun i=>m - (intOf i).toNat)
 case atStart=>exact ⟨0,Nat.zero_le _,rfl,rfl⟩
 case round =>
  obtain ⟨t,ht,rfl,hok⟩:=hrel
  have HOK:=hD hok
  clear hok
  by_cases hlt:t<m
  ·have htl:t<qs.length:=by have:=HM.out;omega
   obtain ⟨s,hs⟩:∃ s,qs[t]?=some s:=⟨_,List.getElem?_eq_getElem htl⟩
   obtain ⟨b,off,rfl,_,hc⟩:=HRA.out.2 Zq6
   have q0:=hc t _ (ybr hs)
   have hsz:=yei hs
   have HS:=hD hs
   have hs63:s.size≤9223372036854775807:=by omega
   clear hc hs htl hsz
   cases hw:ya9 s
   ·have HF:=hD (yl9 (c1:=true) (V:=rs.all id) (N:=N) (T:=T) (m:=m) HS.out hw)
    go_wp2_with (go_at_call 42;refine(ybk _ _ hs63).mono ?_;rintro e w' ⟨rfl,rfl⟩)
    go_ret
    exact ⟨by rw[HF.out];rfl,Zq0,Zq5⟩
   ·have HN:=hD (show(qs.take (t+1)).all ya9=true by rw[ycg _ HS.out,HOK.out,hw];rfl)
    go_wp2_with (go_at_call 42;refine(ybk _ _ hs63).mono ?_;rintro e w' ⟨rfl,rfl⟩)
    go_round
    case rel=>exact ⟨t+1,by omega,by go_num,HN.out⟩
    case measure=>simp [intOf];omega
  ·have HAL:Hid (allW qs=true):=by
    have h:=HOK.out
    rw[List.take_of_length_le (by have:=HM.out;omega)] at h
    exact h
   obtain ⟨w0,hw0⟩:∃ w0,w0=w.alloc (.cells #[.slice Aq m cq,.slice Ab nb cb] 27):=⟨_,rfl⟩
   have X0:=hD (show w0.heap[w.heap.size]?=some (.cells #[.slice Aq m cq,.slice Ab nb cb] 27 (0,0)) by rw[hw0];exact yac _ _)
   have b0:Below w.heap.size w w0:=by rw[hw0];exact Zq0
   have s0:w.heap.size≤w0.heap.size:=b0.size
   go_wp2_with fail
   rw[←hw0]
   have B0:=hD b0
   clear hw0 b0
   go_loopw [21] (fun i wr=>∃ t:Nat,t≤nb∧i=.int .i64 t∧(rs.take t).all id=true∧Below w0.heap.size w0 wr) (fun i _=>nb - (intOf i).toNat)
   case atStart=>exact ⟨0,Nat.zero_le _,rfl,rfl,Below.refl _ _⟩
   case round =>
    obtain ⟨t,ht,rfl,hok,hb⟩:=hrel
    have HOK2:=hD hok
    have hbs:=hb.size
    clear hok
    by_cases hlt:t<nb
    ·obtain ⟨b,off,k',wd',Aa',na',ca',ct',Ab',nb',cb',r,rfl,hbl,⟨q0,q1,q2,q3,q4⟩,hr,hcall⟩:=HEL.out t hlt
     have hbw:=(B0.out.trans (hb.mono s0))
     rw[←hbw.cell (p:=⟨b,_,none⟩) hbl] at q0 q1 q2 q3 q4
     have HC:=hD (hcall _ ((hbw.alloc Zq6 (.cells #[.int .i64 k',.string wd',.slice Aa' na' ca',.int .i64 ct',.slice Ab' nb' cb'] 66))))
     have HR:=hD hr
     clear hcall hr hbl hbw
     cases r
     ·have HF:=hD (yma (c1:=true) (c2:=allW qs) (N:=N) (T:=T) (m:=m) HR.out)
      go_wp2_with fail
      refine HC.out.mono ?_
      rintro e w2 ⟨rfl,hb2,hs2⟩
      go_wp2_with fail
      go_ret
      exact ⟨by rw[HF.out];rfl,(B0.out.trans (hb.mono s0)).trans (((Below.refl _ _).alloc (Nat.le_refl _) _).trans (hb2.mono Zq11) |>.mono Zq6),by have:=hs2;simp at this;omega⟩
     ·have HN:=hD (show(rs.take (t+1)).all id=true by rw[ycg _ HR.out,HOK2.out];rfl)
      go_wp2_with fail
      refine HC.out.mono ?_
      rintro e w2 ⟨rfl,hb2,hs2⟩
      go_wp2_with fail
      go_roundw
      case rel=>exact ⟨t+1,by omega,by go_num,HN.out,hb.trans (((Below.refl _ _).alloc (Nat.le_refl _) _).trans (hb2.mono Zq11) |>.mono Zq6)⟩
      case measure=>simp [intOf];omega
    ·have HRL:Hid (rs.all id=true):=by
      have h:=HOK2.out
      rw[List.take_of_length_le (by have:=HRS.out;omega)] at h
      exact h
     have HF:=hD (show pgR true (allW qs) (rs.all id) N T m=false by rw[HAL.out,HRL.out];simp [pgR,hN])
     have HBB:=hD (B0.out.trans (hb.mono s0))
     obtain ⟨p0,p1⟩:=ybo (lay:=hb) X0.out
     have HB:=hD hb
     clear hb
     go_wp2_with fail
     first | (go_region_with (first | (go_at_call 44; (with_reducible refine (H1.out _).mono ?_); rintro e w' ⟨rfl, rfl⟩) | (go_at_call 45; (with_reducible refine (H4.out _ ?_).mono ?_); exact HBB.out.drew; rintro e y4 ⟨rfl, d4, _⟩; have u4 := HB.out.trans ((yhr d4).mono hbs); obtain ⟨a2, a3⟩ := ybo (lay := u4) X0.out))) | fail "no"
     all_goals (go_wp2_with fail;go_ret;exact ⟨by rw[HF.out];first|rfl|exact congrArg (fun b=>Ending.returned (Value.bool b)) HTw.out,B0.out.trans (u4.mono s0),(B0.out.trans (u4.mono s0)).size⟩)
theorem yp2 (Aq:Option Addr) (m cq:Nat) (qs:List ByteArray) (Ab:Option Addr) (nb cb:Nat) (rs:List Bool) (w:World) (c1:Bool) (N T:Nat) (hmq:qs.length=m) (hm:m≤1048576) (hT0:T≤8388608) (hra:Rd w 1 Aq m (strs qs)) (hz:szS qs≤1048576) (hn:nb≤1048576) (hrs:rs.length=nb) (hel:Elts 43 w Ab nb rs) (hc1:c1=true) (hN:N≤4) (hT:¬ T+m+2≤160)
  (h1:∀ w',Calls Tryz.prog 44 #[.int .i64 m,.int .i64 1,.int .i64 4] w' fun e w''=>e=.returned (.bool c1)∧w'=w'')
  (h4:∀ w',Below w.heap.size w w'→Calls Tryz.prog 45 #[.slice Ab nb cb] w' fun e w''=>e=.returned (.int .i64 N)∧Below w'.heap.size w' w''∧w'.heap.size≤w''.heap.size)
  (h5:∀ w',Below w.heap.size w w'→Calls Tryz.prog 46 #[.slice Ab nb cb] w' fun e w''=>e=.returned (.int .i64 T)∧Below w'.heap.size w' w''∧w'.heap.size≤w''.heap.size) :
  Calls Tryz.prog 11 #[.agg #[.slice Aq m cq,.slice Ab nb cb]] w fun e w'=>e=.returned (.bool (pgR c1 (allW qs) (rs.all id) N T m))∧Below w.heap.size w w'∧w.heap.size≤w'.heap.size:=by
 subst hc1
 have hNi:decide ((N:Int)≤4)=true:=by simp;omega
 have hNn:decide (N≤4)=true:=by simp;omega
 have HTw:=hD (show decide (IntKind.i64.wrap (IntKind.i64.wrap ((T:Int)+(m:Int))+2)≤160)=false by rw[IntWalk.i64_in ((T:Int)+(m:Int)) Zq6,IntWalk.i64_in _ Zq6];simp;omega)
 have HM:=hD hmq
 have HRA:=hD hra
 have HEL:=hD hel
 have HRS:=hD hrs
 have H1:=hD h1
 have H4:=hD h4
 have H5:=hD h5
 clear hra hel hrs h1 h4 h5 hmq
 go_enter Tryz.func11,Tryz.ntmps11
 go_wp2_with fail
 go_loop [10] (fun i=>∃ t:Nat,t≤m∧i=.int .i64 t∧(qs.take t).all ya9=true) (fun i=>m - (intOf i).toNat)
 case atStart=>exact ⟨0,Nat.zero_le _,rfl,rfl⟩
 case round =>
  obtain ⟨t,ht,rfl,hok⟩:=hrel
  have HOK:=hD hok
  clear hok
  by_cases hlt:t<m
  ·have htl:t<qs.length:=by have:=HM.out;omega
   obtain ⟨s,hs⟩:∃ s,qs[t]?=some s:=⟨_,List.getElem?_eq_getElem htl⟩
   obtain ⟨b,off,rfl,_,hc⟩:=HRA.out.2 Zq6
   have q0:=hc t _ (ybr hs)
   have hsz:=yei hs
   have HS:=hD hs
   have hs63:s.size≤9223372036854775807:=by omega
   clear hc hs htl hsz
   cases hw:ya9 s
   ·have HF:=hD (yl9 (c1:=true) (V:=rs.all id) (N:=N) (T:=T) (m:=m) HS.out hw)
    go_wp2_with (go_at_call 42;refine(ybk _ _ hs63).mono ?_;rintro e w' ⟨rfl,rfl⟩)
    go_ret
    exact ⟨by rw[HF.out];rfl,Zq0,Zq5⟩
   ·have HN:=hD (show(qs.take (t+1)).all ya9=true by rw[ycg _ HS.out,HOK.out,hw];rfl)
    go_wp2_with (go_at_call 42;refine(ybk _ _ hs63).mono ?_;rintro e w' ⟨rfl,rfl⟩)
    go_round
    case rel=>exact ⟨t+1,by omega,by go_num,HN.out⟩
    case measure=>simp [intOf];omega
  ·have HAL:Hid (allW qs=true):=by
    have h:=HOK.out
    rw[List.take_of_length_le (by have:=HM.out;omega)] at h
    exact h
   obtain ⟨w0,hw0⟩:∃ w0,w0=w.alloc (.cells #[.slice Aq m cq,.slice Ab nb cb] 27):=⟨_,rfl⟩
   have X0:=hD (show w0.heap[w.heap.size]?=some (.cells #[.slice Aq m cq,.slice Ab nb cb] 27 (0,0)) by rw[hw0];exact yac _ _)
   have b0:Below w.heap.size w w0:=by rw[hw0];exact Zq0
   have s0:w.heap.size≤w0.heap.size:=b0.size
   go_wp2_with fail
   rw[←hw0]
   have B0:=hD b0
   clear hw0 b0
   go_loopw [21] (fun i wr=>∃ t:Nat,t≤nb∧i=.int .i64 t∧(rs.take t).all id=true∧Below w0.heap.size w0 wr) (fun i _=>nb - (intOf i).toNat)
   case atStart=>exact ⟨0,Nat.zero_le _,rfl,rfl,Below.refl _ _⟩
   case round =>
    obtain ⟨t,ht,rfl,hok,hb⟩:=hrel
    have HOK2:=hD hok
    have hbs:=hb.size
    clear hok
    by_cases hlt:t<nb
    ·obtain ⟨b,off,k',wd',Aa',na',ca',ct',Ab',nb',cb',r,rfl,hbl,⟨q0,q1,q2,q3,q4⟩,hr,hcall⟩:=HEL.out t hlt
     have hbw:=(B0.out.trans (hb.mono s0))
     rw[←hbw.cell (p:=⟨b,_,none⟩) hbl] at q0 q1 q2 q3 q4
     have HC:=hD (hcall _ ((hbw.alloc Zq6 (.cells #[.int .i64 k',.string wd',.slice Aa' na' ca',.int .i64 ct',.slice Ab' nb' cb'] 66))))
     have HR:=hD hr
     clear hcall hr hbl hbw
     cases r
     ·have HF:=hD (yma (c1:=true) (c2:=allW qs) (N:=N) (T:=T) (m:=m) HR.out)
      go_wp2_with fail
      refine HC.out.mono ?_
      rintro e w2 ⟨rfl,hb2,hs2⟩
      go_wp2_with fail
      go_ret
      exact ⟨by rw[HF.out];rfl,(B0.out.trans (hb.mono s0)).trans (((Below.refl _ _).alloc (Nat.le_refl _) _).trans (hb2.mono Zq11) |>.mono Zq6),by have:=hs2;simp at this;omega⟩
     ·have HN:=hD (show(rs.take (t+1)).all id=true by rw[ycg _ HR.out,HOK2.out];rfl)
      go_wp2_with fail
      refine HC.out.mono ?_
      rintro e w2 ⟨rfl,hb2,hs2⟩
      go_wp2_with fail
      go_roundw
      case rel=>exact ⟨t+1,by omega,by go_num,HN.out,hb.trans (((Below.refl _ _).alloc (Nat.le_refl _) _).trans (hb2.mono Zq11) |>.mono Zq6)⟩
      case measure=>simp [intOf];omega
    ·have HRL:Hid (rs.all id=true):=by
      have h:=HOK2.out
      rw[List.take_of_length_le (by have:=HRS.out;omega)] at h
      exact h
     have HF:=hD (show pgR true (allW qs) (rs.all id) N T m=false by rw[HAL.out,HRL.out];simp [pgR,hN,hT])
     have HBB:=hD (B0.out.trans (hb.mono s0))
     obtain ⟨p0,p1⟩:=ybo (lay:=hb) X0.out
     have HB:=hD hb
     clear hb
     go_wp2_with fail
     first | (go_region_held3 (fun W => W.cell? ⟨w.heap.size, 0, none⟩ = some (.slice Aq m cq) ∧ W.cell? ⟨w.heap.size, 1, none⟩ = some (.slice Ab nb cb)) (first | exact ⟨p0, p1⟩ | exact ⟨a2, a3⟩ | exact ⟨a4, a5⟩) (first | (go_at_call 44; (with_reducible refine (H1.out _).mono ?_); rintro e w' ⟨rfl, rfl⟩) | (go_at_call 45; (with_reducible refine (H4.out _ ?_).mono ?_); exact HBB.out.drew; rintro e y4 ⟨rfl, d4, _⟩; have u4 := HB.out.trans ((yhr d4).mono hbs); obtain ⟨a2, a3⟩ := ybo (lay := u4) X0.out) | (go_at_call 46; (with_reducible refine (H5.out _ ?_).mono ?_); exact B0.out.trans (u4.mono s0); rintro e y5 ⟨rfl, d5, _⟩; have u5 := u4.trans (d5.mono u4.size); obtain ⟨a4, a5⟩ := ybo (lay := u5) X0.out))) | fail "no"
     all_goals (go_wp2_with fail;go_ret;exact ⟨by rw[HF.out];first|rfl|exact congrArg (fun b=>Ending.returned (Value.bool b)) HTw.out,B0.out.trans (u5.mono s0),(B0.out.trans (u5.mono s0)).size⟩)
theorem yp3 (Aq:Option Addr) (m cq:Nat) (qs:List ByteArray) (Ab:Option Addr) (nb cb:Nat) (rs:List Bool) (w:World) (c1:Bool) (N T:Nat) (hmq:qs.length=m) (hm:m≤1048576) (hT0:T≤8388608) (hra:Rd w 1 Aq m (strs qs)) (hz:szS qs≤1048576) (hn:nb≤1048576) (hrs:rs.length=nb) (hel:Elts 43 w Ab nb rs) (hc1:c1=true) (hN:N≤4) (hT:T+m+2≤160)
  (h1:∀ w',Calls Tryz.prog 44 #[.int .i64 m,.int .i64 1,.int .i64 4] w' fun e w''=>e=.returned (.bool c1)∧w'=w'')
  (h4:∀ w',Below w.heap.size w w'→Calls Tryz.prog 45 #[.slice Ab nb cb] w' fun e w''=>e=.returned (.int .i64 N)∧Below w'.heap.size w' w''∧w'.heap.size≤w''.heap.size)
  (h5:∀ w',Below w.heap.size w w'→Calls Tryz.prog 46 #[.slice Ab nb cb] w' fun e w''=>e=.returned (.int .i64 T)∧Below w'.heap.size w' w''∧w'.heap.size≤w''.heap.size) :
  Calls Tryz.prog 11 #[.agg #[.slice Aq m cq,.slice Ab nb cb]] w fun e w'=>e=.returned (.bool (pgR c1 (allW qs) (rs.all id) N T m))∧Below w.heap.size w w'∧w.heap.size≤w'.heap.size:=by
 subst hc1
 have hNi:decide ((N:Int)≤4)=true:=by simp;omega
 have hNn:decide (N≤4)=true:=by simp;omega
 have HTw:=hD (show decide (IntKind.i64.wrap (IntKind.i64.wrap ((T:Int)+(m:Int))+2)≤160)=true by rw[IntWalk.i64_in ((T:Int)+(m:Int)) Zq6,IntWalk.i64_in _ Zq6];simp;omega)
 have HM:=hD hmq
 have HRA:=hD hra
 have HEL:=hD hel
 have HRS:=hD hrs
 have H1:=hD h1
 have H4:=hD h4
 have H5:=hD h5
 clear hra hel hrs h1 h4 h5 hmq
 go_enter Tryz.func11,Tryz.ntmps11
 go_wp2_with fail
 go_loop [10] (fun i=>∃ t:Nat,t≤m∧i=.int .i64 t∧(qs.take t).all ya9=true) (fun i=>m - (intOf i).toNat)
 case atStart=>exact ⟨0,Nat.zero_le _,rfl,rfl⟩
 case round =>
  obtain ⟨t,ht,rfl,hok⟩:=hrel
  have HOK:=hD hok
  clear hok
  by_cases hlt:t<m
  ·have htl:t<qs.length:=by have:=HM.out;omega
   obtain ⟨s,hs⟩:∃ s,qs[t]?=some s:=⟨_,List.getElem?_eq_getElem htl⟩
   obtain ⟨b,off,rfl,_,hc⟩:=HRA.out.2 Zq6
   have q0:=hc t _ (ybr hs)
   have hsz:=yei hs
   have HS:=hD hs
   have hs63:s.size≤9223372036854775807:=by omega
   clear hc hs htl hsz
   cases hw:ya9 s
   ·have HF:=hD (yl9 (c1:=true) (V:=rs.all id) (N:=N) (T:=T) (m:=m) HS.out hw)
    go_wp2_with (go_at_call 42;refine(ybk _ _ hs63).mono ?_;rintro e w' ⟨rfl,rfl⟩)
    go_ret
    exact ⟨by rw[HF.out];rfl,Zq0,Zq5⟩
   ·have HN:=hD (show(qs.take (t+1)).all ya9=true by rw[ycg _ HS.out,HOK.out,hw];rfl)
    go_wp2_with (go_at_call 42;refine(ybk _ _ hs63).mono ?_;rintro e w' ⟨rfl,rfl⟩)
    go_round
    case rel=>exact ⟨t+1,by omega,by go_num,HN.out⟩
    case measure=>simp [intOf];omega
  ·have HAL:Hid (allW qs=true):=by
    have h:=HOK.out
    rw[List.take_of_length_le (by have:=HM.out;omega)] at h
    exact h
   obtain ⟨w0,hw0⟩:∃ w0,w0=w.alloc (.cells #[.slice Aq m cq,.slice Ab nb cb] 27):=⟨_,rfl⟩
   have X0:=hD (show w0.heap[w.heap.size]?=some (.cells #[.slice Aq m cq,.slice Ab nb cb] 27 (0,0)) by rw[hw0];exact yac _ _)
   have b0:Below w.heap.size w w0:=by rw[hw0];exact Zq0
   have s0:w.heap.size≤w0.heap.size:=b0.size
   go_wp2_with fail
   rw[←hw0]
   have B0:=hD b0
   clear hw0 b0
   go_loopw [21] (fun i wr=>∃ t:Nat,t≤nb∧i=.int .i64 t∧(rs.take t).all id=true∧Below w0.heap.size w0 wr) (fun i _=>nb - (intOf i).toNat)
   case atStart=>exact ⟨0,Nat.zero_le _,rfl,rfl,Below.refl _ _⟩
   case round =>
    obtain ⟨t,ht,rfl,hok,hb⟩:=hrel
    have HOK2:=hD hok
    have hbs:=hb.size
    clear hok
    by_cases hlt:t<nb
    ·obtain ⟨b,off,k',wd',Aa',na',ca',ct',Ab',nb',cb',r,rfl,hbl,⟨q0,q1,q2,q3,q4⟩,hr,hcall⟩:=HEL.out t hlt
     have hbw:=(B0.out.trans (hb.mono s0))
     rw[←hbw.cell (p:=⟨b,_,none⟩) hbl] at q0 q1 q2 q3 q4
     have HC:=hD (hcall _ ((hbw.alloc Zq6 (.cells #[.int .i64 k',.string wd',.slice Aa' na' ca',.int .i64 ct',.slice Ab' nb' cb'] 66))))
     have HR:=hD hr
     clear hcall hr hbl hbw
     cases r
     ·have HF:=hD (yma (c1:=true) (c2:=allW qs) (N:=N) (T:=T) (m:=m) HR.out)
      go_wp2_with fail
      refine HC.out.mono ?_
      rintro e w2 ⟨rfl,hb2,hs2⟩
      go_wp2_with fail
      go_ret
      exact ⟨by rw[HF.out];rfl,(B0.out.trans (hb.mono s0)).trans (((Below.refl _ _).alloc (Nat.le_refl _) _).trans (hb2.mono Zq11) |>.mono Zq6),by have:=hs2;simp at this;omega⟩
     ·have HN:=hD (show(rs.take (t+1)).all id=true by rw[ycg _ HR.out,HOK2.out];rfl)
      go_wp2_with fail
      refine HC.out.mono ?_
      rintro e w2 ⟨rfl,hb2,hs2⟩
      go_wp2_with fail
      go_roundw
      case rel=>exact ⟨t+1,by omega,by go_num,HN.out,hb.trans (((Below.refl _ _).alloc (Nat.le_refl _) _).trans (hb2.mono Zq11) |>.mono Zq6)⟩
      case measure=>simp [intOf];omega
    ·have HRL:Hid (rs.all id=true):=by
      have h:=HOK2.out
      rw[List.take_of_length_le (by have:=HRS.out;omega)] at h
      exact h
     have HF:=hD (show pgR true (allW qs) (rs.all id) N T m=true by rw[HAL.out,HRL.out];simp [pgR,hN,hT])
     have HBB:=hD (B0.out.trans (hb.mono s0))
     obtain ⟨p0,p1⟩:=ybo (lay:=hb) X0.out
     have HB:=hD hb
     clear hb
     go_wp2_with fail
     first | (go_region_held3 (fun W => W.cell? ⟨w.heap.size, 0, none⟩ = some (.slice Aq m cq) ∧ W.cell? ⟨w.heap.size, 1, none⟩ = some (.slice Ab nb cb)) (first | exact ⟨p0, p1⟩ | exact ⟨a2, a3⟩ | exact ⟨a4, a5⟩) (first | (go_at_call 44; (with_reducible refine (H1.out _).mono ?_); rintro e w' ⟨rfl, rfl⟩) | (go_at_call 45; (with_reducible refine (H4.out _ ?_).mono ?_); exact HBB.out.drew; rintro e y4 ⟨rfl, d4, _⟩; have u4 := HB.out.trans ((yhr d4).mono hbs); obtain ⟨a2, a3⟩ := ybo (lay := u4) X0.out) | (go_at_call 46; (with_reducible refine (H5.out _ ?_).mono ?_); exact B0.out.trans (u4.mono s0); rintro e y5 ⟨rfl, d5, _⟩; have u5 := u4.trans (d5.mono u4.size); obtain ⟨a4, a5⟩ := ybo (lay := u5) X0.out))) | fail "no"
     all_goals (go_wp2_with fail;go_ret;exact ⟨by rw[HF.out];first|rfl|exact congrArg (fun b=>Ending.returned (Value.bool b)) HTw.out,B0.out.trans (u5.mono s0),(B0.out.trans (u5.mono s0)).size⟩)
theorem yth:∀ (d lo:Nat) (bd:List (Tr d)) (Ab:Option Addr) (nb:Nat) (w:World),RdT w lo d Ab nb bd→GN w→szT d bd≤1048576→nb≤1048576∧∃ rs:List Bool,rs.length=nb∧rs.all id=ya7 d bd∧Elts 43 w Ab nb rs:=by
 intro d
 cases d with
 | zero =>
  intro lo bd Ab nb w hrb hG hsz
  obtain rfl:=ycl hrb
  exact ⟨by omega,[],rfl,rfl,fun t ht=>absurd ht Zq6⟩
 | succ d =>
  intro lo bd Ab nb w hrb hG hsz
  have hlen:=hrb.len
  subst hlen
  have hn:bd.length≤1048576:=by rw[ybb] at hsz;omega
  refine ⟨hn,bd.map fun s=>vOne d (ya7 d) (hdT s) (bdT s),by simp,ymp bd,fun t ht=>?_⟩
  obtain ⟨b,off,s,Aa',ca',Ab',nb',cb',rfl,hbl,hs,⟨c0,c1,c2,c3,c4⟩,h2,h3⟩:=hrb.at_ ht
  refine ⟨b,off,(hdT s).k,(hdT s).word,Aa',(hdT s).args.length,ca',(hdT s).count,Ab',nb',cb',_,rfl,hbl,⟨c0,c1,c2,c3,c4⟩,by rw[List.getElem?_map,hs];rfl,fun w' hw'=>?_⟩
  have hme:=ydw hs
  have hq:=hsz
  rw[ybb] at hq
  unfold szE at hme
  exact yjw d lo _ _ _ _ (bdT s) _ _ _ _ _ _ (h2.below hw') (h3.below hw') (hG.below hw') Zq6 Zq6 Zq6
theorem yfd (d lo lo':Nat) (Aq:Option Addr) (cq:Nat) (qs:List ByteArray) (bd:List (Tr d)) (Ab:Option Addr) (nb cb:Nat) (w:World) (hra:RdL w lo 1 Aq qs.length (strs qs)) (hrb:RdT w lo' d Ab nb bd) (hG:GN w) (hm:qs.length≤1048576) (hz:szS qs≤1048576) (hsz:szT d bd≤1048576) :
  Calls Tryz.prog 11 #[.agg #[.slice Aq qs.length cq,.slice Ab nb cb]] w fun e w'=>e=.returned (.bool (yc7 d qs bd))∧Below w.heap.size w w'∧w.heap.size≤w'.heap.size:=by
 have h1:∀ w',Calls Tryz.prog 44 #[.int .i64 qs.length,.int .i64 1,.int .i64 4] w' fun e w''=>e=.returned (.bool (inB qs.length 1 4))∧w'=w'':=fun w'=>yav _ _ _ _
 have h4:∀ w',Below w.heap.size w w'→Calls Tryz.prog 45 #[.slice Ab nb cb] w' fun e w''=>e=.returned (.int .i64 (ybf d bd))∧Below w'.heap.size w' w''∧w'.heap.size≤w''.heap.size:=fun w' hb=>yi0 d _ _ _ _ _ _ (hrb.below hb) hsz
 have h5:∀ w',Below w.heap.size w w'→Calls Tryz.prog 46 #[.slice Ab nb cb] w' fun e w''=>e=.returned (.int .i64 (tokT d bd))∧Below w'.heap.size w' w''∧w'.heap.size≤w''.heap.size:=fun w' hb=>yhz d _ _ _ _ _ _ (hrb.below hb) hsz
 have hT:=yg5 d bd
 obtain ⟨hn,rs,hrs,hall,hel⟩:=yth d lo' bd Ab nb w hrb hG hsz
 unfold yc7
 rw[←hall]
 cases hc1:inB qs.length 1 4
 ·exact yp0 _ _ _ qs _ _ _ rs w _ _ _ rfl hm Zq6 hra.rd hz hn hrs hel rfl (hc1▸h1) h4 h5
 by_cases hN:ybf d bd≤4
 ·by_cases hT':tokT d bd+qs.length+2≤160
  ·exact yp3 _ _ _ qs _ _ _ rs w _ _ _ rfl hm Zq6 hra.rd hz hn hrs hel rfl hN hT' (hc1▸h1) h4 h5
  ·exact yp2 _ _ _ qs _ _ _ rs w _ _ _ rfl hm Zq6 hra.rd hz hn hrs hel rfl hN hT' (hc1▸h1) h4 h5
 ·exact yp1 _ _ _ qs _ _ _ rs w _ _ _ rfl hm Zq6 hra.rd hz hn hrs hel rfl hN (hc1▸h1) h4 h5
def dupF (qs:List ByteArray):Nat→List ByteArray→Bad
 | _,[]=>bad0
 | i,q :: r=>if hasS (qs.take i) q=true then (1,q) else dupF qs (i+1) r
theorem yot {qs:List ByteArray} {t:Nat} {q:ByteArray} (h:qs[t]?=some q):dupF qs t (qs.drop t)=if hasS (qs.take t) q=true then (1,q) else dupF qs (t+1) (qs.drop (t+1)):=by
 obtain ⟨ht,he⟩:=List.getElem?_eq_some_iff.1 h
 rw[List.drop_eq_getElem_cons ht,dupF,he]
def ckP (d:Nat) (qs:List ByteArray) (l:List (Tr d)):Bad :=
 if yc7 d qs l=true then (if (dupF qs 0 qs).1=0 then chkT d l qs [] else dupF qs 0 qs) else bad0
theorem ydk {d:Nat} {qs:List ByteArray} {l:List (Tr d)} (h:yc7 d qs l=true):ya7 d l=true:=by
 unfold yc7 pgR at h
 simp only[Bool.and_eq_true] at h
 exact h.2.2.1
theorem yft {d:Nat} {qs:List ByteArray} {l:List (Tr d)} (h:yc7 d qs l=true):qs.length≤4:=by
 unfold yc7 pgR at h
 simp only[Bool.and_eq_true] at h
 have:=ycf.1 h.1
 omega
theorem ylv (l:List ByteArray) (t:Nat):(strs l).take t=strs (l.take t):=by simp [strs]
def ys1 (c:Bad) (w:World) (e:Ending) (w':World):Prop:=e=.returned (.tuple #[.int .i64 c.1,.string c.2])∧Below w.heap.size w w'∧w.heap.size≤w'.heap.size
theorem yi3 (d lo lo':Nat) (Aq:Option Addr) (cq:Nat) (qs:List ByteArray) (l:List (Tr d)) (Ab:Option Addr) (nb cb:Nat) (w:World) (hra:RdL w lo 1 Aq qs.length (strs qs)) (hcq:qs.length≤cq) (hrb:RdT w lo' d Ab nb l) (hG:GN w) (hm:qs.length≤1048576) (hz:szS qs≤1048576) (hsz:szT d l≤1048576) :
  Calls Tryz.prog 66 #[.agg #[.slice Aq qs.length cq,.slice Ab nb cb]] w (ys1 (ckP d qs l) w):=by
 obtain ⟨w0,hw0⟩:∃ w0,w0=w.alloc (.cells #[.slice Aq qs.length cq,.slice Ab nb cb] 27):=⟨_,rfl⟩
 have X0:=hD (show w0.heap[w.heap.size]?=some (.cells #[.slice Aq qs.length cq,.slice Ab nb cb] 27 (0,0)) by rw[hw0];exact yac _ _)
 have b0:Below w.heap.size w w0:=by rw[hw0];exact Zq0
 have hz0:w.heap.size<w0.heap.size:=by rw[hw0];simp
 have HV:=hD (yfd d lo lo' Aq cq qs l Ab nb cb w0 (hra.below b0) (hrb.below b0) (hG.below b0) hm hz hsz)
 have HW:=hD hw0
 have B0:=hD b0
 have HA:=hD hra.rd
 have HT:=hD hrb
 obtain ⟨m,hmq⟩:∃ m,m=qs.length:=⟨_,rfl⟩
 rw[←hmq] at X0 HV HW HA hcq hm ⊢
 have HM:=hD hmq
 clear hw0 b0 hra hrb hG hmq
 cases hp:yc7 d qs l
 ·have HS:Hid (ckP d qs l=bad0):=by rw[ckP,if_neg (by rw[hp];decide)];exact rfl
  rw[hp] at HV
  clear hp
  go_enter Tryz.func66,Tryz.ntmps66
  go_upto_region 1 with (fail)
  rw[←HW.out]
  obtain ⟨p0,p1⟩:=ycd (lay:=Below.refl _ _) X0.out
  go_wp2_with fail
  refine HV.out.mono ?_
  rintro e w1 ⟨rfl,b1,s1⟩
  have hbw:=B0.out.trans (b1.mono Zq6)
  clear b1
  go_wp2_with fail
  go_ret2
  exact ⟨by rw[HS.out];exact rfl,hbw,by omega⟩
 ·have HS:Hid (ckP d qs l=if (dupF qs 0 qs).1=0 then chkT d l qs [] else dupF qs 0 qs):=by rw[ckP,if_pos hp];exact rfl
  have hq4:=yft hp
  rw[←HM.out] at hq4
  have HVT:=hD (ydk hp)
  rw[hp] at HV
  clear hp
  go_enter Tryz.func66,Tryz.ntmps66
  go_upto_region 1 with (fail)
  rw[←HW.out]
  obtain ⟨p0,p1⟩:=ycd (lay:=Below.refl _ _) X0.out
  go_wp2_with fail
  refine HV.out.mono ?_
  rintro e w1 ⟨rfl,b1,s1⟩
  have B1:=hD b1
  have hz1:w.heap.size<w1.heap.size:=by omega
  clear p0 p1 b1
  obtain ⟨p0,p1⟩:=ycd (lay:=B1.out) X0.out
  have HA1:=hD ((HA.out.below B0.out).below B1.out)
  go_wp2_with fail
  go_loop [14] (fun i=>∃ t:Nat,t≤m∧i=.int .i64 t∧Hid (dupF qs 0 qs=dupF qs t (qs.drop t))) (fun i=>m - (intOf i).toNat)
  case atStart=>exact ⟨0,Nat.zero_le _,rfl,rfl⟩
  case round =>
   obtain ⟨t,ht,rfl,hd⟩:=hrel
   by_cases hlt:t<m
   ·obtain ⟨q,hq⟩:∃ q,qs[t]?=some q:=⟨_,List.getElem?_eq_getElem (by rw[←HM.out];exact hlt)⟩
    obtain ⟨b,off,rfl,hbl,hcl⟩:=HA1.out.2 Zq6
    have r0:=hcl t _ (ybr hq)
    have RT:Hid (Rd w1 1 (some ⟨b,off,none⟩) t (strs (qs.take t))):=by
     have:=HA1.out.take (t:=t) Zq6
     rw[ylv] at this
     exact this
    have HD:=hD (hd.out.trans (yot hq))
    have hlen:(qs.take t).length=t:=by rw[List.length_take,←HM.out];omega
    have HLE:=hD hlen
    have htc:t≤cq:=by omega
    clear hcl hq hd hlen
    cases hh:hasS (qs.take t) q
    ·have HN:Hid (dupF qs 0 qs=dupF qs (t+1) (qs.drop (t+1))):=by rw[HD.out,if_neg (by rw[hh];decide)];exact rfl
     go_wp2_with (go_at_call 118;(with_reducible refine(yay (some ⟨b,off,none⟩) t cq (qs.take t) q w1 RT.out HLE.out Zq6).mono ?_);rintro e w' ⟨rfl,rfl⟩)
     go_round
     case rel=>exact ⟨t+1,by omega,by go_num,HN⟩
     case measure=>simp [intOf];omega
    ·have HF:Hid (ckP d qs l=(1,q)):=by
      have h1:dupF qs 0 qs=(1,q):=by rw[HD.out,if_pos hh]
      rw[HS.out,h1]
      exact rfl
     go_wp2_with (go_at_call 118;(with_reducible refine(yay (some ⟨b,off,none⟩) t cq (qs.take t) q w1 RT.out HLE.out Zq6).mono ?_);rintro e w' ⟨rfl,rfl⟩)
     go_ret2
     exact ⟨by rw[HF.out];exact rfl,B0.out.trans (B1.out.mono Zq6),by omega⟩
   ·obtain rfl:t=m:=by omega
    have HF:Hid (ckP d qs l=chkT d l qs []):=by
     have h1:dupF qs 0 qs=bad0:=by rw[hd.out,List.drop_of_length_le (by rw[←HM.out];exact Nat.le_refl _)];rfl
     rw[HS.out,h1,if_pos (show bad0.1=0 from rfl)]
     exact rfl
    obtain ⟨wx,hwx⟩:∃ wx,wx=w1.alloc (.cells #[.slice none 0 0] 148):=⟨_,rfl⟩
    have bx:Below w1.heap.size w1 wx:=by rw[hwx];exact Zq0
    have CK:CkS wx w.heap.size w1.heap.size [] (.slice none 0 0):=⟨by rw[hwx];exact yac _ _,World.ownsRow_nil _ _ _ _⟩
    have bw1:Below w.heap.size w w1:=B0.out.trans (B1.out.mono Zq6)
    have hxs:w.heap.size≤wx.heap.size:=by have:=bx.size;omega
    have HC:=hD (ytf d lo' w.heap.size w1.heap.size Ab nb cb l Aq t cq qs [] (.slice none 0 0) w wx HT.out HA.out HM.out.symm (Nat.le_refl _) hxs (bw1.trans (bx.mono Zq6)) Zq6 CK Zq11 hq4 hsz HVT.out)
    have WX:=hD hwx
    have BX:=hD (bw1.trans (bx.mono Zq6))
    clear hwx bx CK bw1 hd
    go_wp2_with fail
    rw[←WX.out]
    refine HC.out.mono ?_
    rintro e w2 ⟨rfl,b2,s2⟩
    have HB2:=hD (BX.out.trans b2)
    clear b2
    go_wp2_with fail
    go_ret2
    exact ⟨by rw[HF.out];exact rfl,HB2.out,by omega⟩
theorem yfy (d lo lo':Nat) (Aq:Option Addr) (cq:Nat) (qs:List ByteArray) (l:List (Tr d)) (Ab:Option Addr) (nb cb:Nat) (w:World) (hra:RdL w lo 1 Aq qs.length (strs qs)) (hcq:qs.length≤cq) (hrb:RdT w lo' d Ab nb l) (hm:qs.length≤1048576) (hz:szS qs≤1048576) (hsz:szT d l≤1048576) :
  Calls Tryz.prog 27 #[.agg #[.slice Aq qs.length cq,.slice Ab nb cb]] w (ys1 (ckP d qs l) w):=by
 obtain ⟨w0,hw0⟩:∃ w0,w0=w.alloc (.cells #[.slice Aq qs.length cq,.slice Ab nb cb] 27):=⟨_,rfl⟩
 have X0:=hD (show w0.heap[w.heap.size]?=some (.cells #[.slice Aq qs.length cq,.slice Ab nb cb] 27 (0,0)) by rw[hw0];exact yac _ _)
 have b0:Below w.heap.size w w0:=by rw[hw0];exact Zq0
 have hz0:w.heap.size<w0.heap.size:=by rw[hw0];simp
 have HV:=hD (yel d lo lo' Aq cq qs l Ab nb cb w0 (hra.below b0) (hrb.below b0) hm hz hsz)
 have HW:=hD hw0
 have B0:=hD b0
 have HA:=hD hra.rd
 have HT:=hD hrb
 obtain ⟨m,hmq⟩:∃ m,m=qs.length:=⟨_,rfl⟩
 rw[←hmq] at X0 HV HW HA hcq hm ⊢
 have HM:=hD hmq
 clear hw0 b0 hra hrb hmq
 cases hp:yc7 d qs l
 ·have HS:Hid (ckP d qs l=bad0):=by rw[ckP,if_neg (by rw[hp];decide)];exact rfl
  rw[hp] at HV
  clear hp
  go_enter Tryz.func27,Tryz.ntmps27
  go_upto_region 1 with (fail)
  rw[←HW.out]
  obtain ⟨p0,p1⟩:=ycd (lay:=Below.refl _ _) X0.out
  go_wp2_with fail
  refine HV.out.mono ?_
  rintro e w1 ⟨rfl,b1,s1⟩
  have hbw:=B0.out.trans (b1.mono Zq6)
  clear b1
  go_wp2_with fail
  go_ret2
  exact ⟨by rw[HS.out];exact rfl,hbw,by omega⟩
 ·have HS:Hid (ckP d qs l=if (dupF qs 0 qs).1=0 then chkT d l qs [] else dupF qs 0 qs):=by rw[ckP,if_pos hp];exact rfl
  have hq4:=yft hp
  rw[←HM.out] at hq4
  have HVT:=hD (ydk hp)
  rw[hp] at HV
  clear hp
  go_enter Tryz.func27,Tryz.ntmps27
  go_upto_region 1 with (fail)
  rw[←HW.out]
  obtain ⟨p0,p1⟩:=ycd (lay:=Below.refl _ _) X0.out
  go_wp2_with fail
  refine HV.out.mono ?_
  rintro e w1 ⟨rfl,b1,s1⟩
  have B1:=hD b1
  have hz1:w.heap.size<w1.heap.size:=by omega
  clear p0 p1 b1
  go_wp2_with fail
  go_loopw [4] (fun i wr=>∃ t:Nat,t≤m∧i=.int .i64 t∧Hid (dupF qs 0 qs=dupF qs t (qs.drop t))∧Below w1.heap.size w1 wr) (fun i _=>m - (intOf i).toNat)
  case atStart=>exact ⟨0,Nat.zero_le _,rfl,rfl,Below.refl _ _⟩
  case round =>
   obtain ⟨t,ht,rfl,hd,hb⟩:=hrel
   have hbs:=hb.size
   have bb:=B1.out.trans (hb.mono Zq6)
   obtain ⟨p0,p1⟩:=ycd (lay:=bb) X0.out
   have HA1:=hD ((HA.out.below B0.out).below bb)
   have hzr:w.heap.size<wr.heap.size:=by omega
   clear bb
   by_cases hlt:t<m
   ·obtain ⟨q,hq⟩:∃ q,qs[t]?=some q:=⟨_,List.getElem?_eq_getElem (by rw[←HM.out];exact hlt)⟩
    obtain ⟨b,off,rfl,hbl,hcl⟩:=HA1.out.2 Zq6
    have r0:=hcl t _ (ybr hq)
    have RT:Hid (Rd wr 1 (some ⟨b,off,none⟩) t (strs (qs.take t))):=by
     have:=HA1.out.take (t:=t) Zq6
     rw[ylv] at this
     exact this
    have HD:=hD (hd.out.trans (yot hq))
    have hlen:(qs.take t).length=t:=by rw[List.length_take,←HM.out];omega
    have HLE:=hD hlen
    have htc:t≤cq:=by omega
    have HBR:=hD hb
    clear hcl hq hd hlen hb
    cases hh:hasS (qs.take t) q
    ·have HN:Hid (dupF qs 0 qs=dupF qs (t+1) (qs.drop (t+1))):=by rw[HD.out,if_neg (by rw[hh];decide)];exact rfl
     go_wp2_with fail
     go_quiet ((go_at_call 77;exact Calls.quiet_of_same ((ybx (some ⟨b,off,none⟩) t cq (qs.take t) q _ (RT.out.drewN _) HLE.out Zq6).mono fun e W h=>(⟨h.1.trans (by rw[hh]),h.2.symm⟩:e=.returned (.bool false)∧W=_))))
     go_wp2_with fail
     go_roundw
     case rel=>exact ⟨t+1,by omega,by go_num,HN,yaq HBR.out _⟩
     case measure=>simp [intOf];omega
    ·have HF:Hid (ckP d qs l=(1,q)):=by
      have h1:dupF qs 0 qs=(1,q):=by rw[HD.out,if_pos hh]
      rw[HS.out,h1]
      exact rfl
     go_wp2_with fail
     go_quiet ((go_at_call 77;exact Calls.quiet_of_same ((ybx (some ⟨b,off,none⟩) t cq (qs.take t) q _ (RT.out.drewN _) HLE.out Zq6).mono fun e W h=>(⟨h.1.trans (by rw[hh]),h.2.symm⟩:e=.returned (.bool true)∧W=_))))
     go_wp2_with fail
     go_quiet (fail)
     go_wp2_with fail
     go_ret2
     exact ⟨by rw[HF.out];exact rfl,yaq (yaq (B0.out.trans ((B1.out.mono Zq6).trans (HBR.out.mono Zq6))) _) _,by show _≤wr.heap.size;omega⟩
   ·obtain rfl:t=m:=by omega
    have HF:Hid (ckP d qs l=chkT d l qs []):=by
     have h1:dupF qs 0 qs=bad0:=by rw[hd.out,List.drop_of_length_le (by rw[←HM.out];exact Nat.le_refl _)];rfl
     rw[HS.out,h1,if_pos (show bad0.1=0 from rfl)]
     exact rfl
    obtain ⟨wx,hwx⟩:∃ wx,wx=wr.alloc (.cells #[.slice Aq t cq,.slice none 0 0,.bool false,.slice none 0 0] 100):=⟨_,rfl⟩
    have bx:Below wr.heap.size wr wx:=by rw[hwx];exact Zq0
    have EV:EvS wx w.heap.size wr.heap.size Aq t cq [] (.slice none 0 0):=⟨by rw[hwx];exact yac _ _,World.ownsRow_nil _ _ _ _⟩
    have bw1:Below w.heap.size w wr:=B0.out.trans ((B1.out.mono Zq6).trans (hb.mono Zq6))
    have hxs:w.heap.size≤wx.heap.size:=by have:=bx.size;omega
    have HC:=hD (ypc d lo' w.heap.size wr.heap.size Ab nb cb l Aq t cq qs [] (.slice none 0 0) w wx HT.out HA.out HM.out.symm (Nat.le_refl _) hxs (bw1.trans (bx.mono Zq6)) Zq6 EV Zq11 hq4 hsz HVT.out)
    have WX:=hD hwx
    have BX:=hD (bw1.trans (bx.mono Zq6))
    clear hwx bx EV bw1 hd hb
    go_wp2_with fail
    rw[←WX.out]
    refine HC.out.mono ?_
    rintro e w2 ⟨rfl,b2,s2⟩
    have HB2:=hD (BX.out.trans b2)
    obtain ⟨c,hc⟩:∃ c,c=chkT d l qs []:=⟨_,rfl⟩
    rw[←hc] at HF ⊢
    clear b2 hc
    go_wp2_with fail
    go_quiet (fail)
    go_wp2_with fail
    go_ret2
    exact ⟨by rw[HF.out];exact rfl,yaq (HB2.out.alloc Zq6 _) _,by simp;omega⟩
theorem yrq {d:Nat} {h:SH} {bd:List (Tr d)} {names bits:List ByteArray} (hc:(oneT d h bd names bits).1.1=0) :
  (h.k=6∧hasS names (arg0 h)=true∧hasS names (arg1 h)=false∧hasS bits (arg1 h)=false∧bits.length≠3∧(oneT d h bd names bits).2=bits++[arg1 h]) ∨
  (h.k=7∧hasS bits (arg0 h)=true∧(chkN d bd names []).1=0∧(oneT d h bd names bits).2=bits) ∨
  (h.k≠6∧h.k≠7∧(oneN h (chkN d bd) names []).1=0∧(oneT d h bd names bits).2=bits):=by
 unfold oneT at hc ⊢
 by_cases h6:h.k=6
 ·rw[if_pos h6] at hc ⊢
  unfold yca at hc ⊢
  split at hc
  ·have hc:(2:Int)=0:=hc
   omega
  ·rename_i g1
   split at hc
   ·have hc:(1:Int)=0:=hc
    omega
   ·rename_i g2
    split at hc
    ·have hc:(1:Int)=0:=hc
     omega
    ·rename_i g3
     split at hc
     ·have hc:(8:Int)=0:=hc
      omega
     ·rename_i g4
      refine .inl ⟨h6,by simpa using g1,by simpa using g2,by simpa using g3,g4,?_⟩
      rw[if_neg g1,if_neg g2,if_neg g3,if_neg g4]
 ·rw[if_neg h6] at hc ⊢
  by_cases h7:h.k=7
  ·rw[if_pos h7] at hc ⊢
   by_cases hb:hasS bits (arg0 h)=true
   ·rw[if_pos hb] at hc
    exact .inr (.inl ⟨h7,hb,hc,rfl⟩)
   ·rw[if_neg hb] at hc
    have hc:(7:Int)=0:=hc
    omega
  ·rw[if_neg h7] at hc ⊢
   exact .inr (.inr ⟨h6,h7,hc,rfl⟩)
theorem yt7 {names:List ByteArray} (h4:names.length≤4):Cx names []:=⟨h4,fun a h=>by cases h⟩
theorem yrr (c:Int) (l:List Opt):(yci c l).length=l.length:=by simp [yci]
theorem yk5 {d:Nat} {h:SH} {bd:List (Tr d)} {names:List ByteArray} (e:Es) (he:e.bad=false) (hm:names.length≤e.most) (h4:names.length≤4) (hv:vOne d (ya7 d) h bd=true) (hc:(oneT d h bd names e.bits).1.1=0) :
  (RelS (sS (sA d) h bd names e) (sS (dA d) h bd names e)∧RelS (iS (iA d) h bd names e) (sS (dA d) h bd names e)) ∧
  (sS (dA d) h bd names e).2.bits=(oneT d h bd names e.bits).2∧(sS (dA d) h bd names e).2.bad=e.bad∧e.most≤(sS (dA d) h bd names e).2.most:=by
 have hvb:=(ybp hv).2.2.2.2.2.2.2
 have hx:=yt7 h4
 rcases yrq hc with ⟨hk,ha,_,_,_,hb⟩|⟨hk,ha,hcb,hb⟩|⟨h6,h7,hcn,hb⟩
 ·rw[sS_6 hk,sS_6 hk,iS_6 hk,hb,show ixI names (arg0 h)=fS names (arg0 h) from yf2 ha]
  exact ⟨⟨RelS.refl he,RelS.refl he⟩,rfl,rfl,Nat.le_refl _⟩
 ·rw[sS_7 hk,sS_7 hk,iS_7 hk,hb]
  obtain ⟨r1,r2⟩:=ym2 d bd names [] hvb hcb hx e he
  rw[yiy hm] at r2
  obtain ⟨⟨b1,b2,b3⟩,_⟩:=yf8 d bd names [] e hvb hcb hx
  have hlen:(dA d bd names e).1.length≤(yci (fS (dA d bd names e).2.bits (arg0 h)+1) (dA d bd names e).1).length:=by rw[yrr];exact Nat.le_refl _
  refine ⟨⟨r1.mapE (f:=fun x e=>yci (fS e.bits (arg0 h)+1) x) (g:=fun x e=>yci (fS e.bits (arg0 h)+1) x) hlen rfl,?_⟩,b1,b2,b3⟩
  refine r2.mapE (f:=fun x e=>yci (fS e.bits (arg0 h)+1) x) (g:=fun x e=>yci (1+ixI e.bits (arg0 h)) x) hlen ?_
  show yci (1+ixI (dA d bd names e).2.bits (arg0 h)) _=yci (fS (dA d bd names e).2.bits (arg0 h)+1) _
  rw[b1,yf2 ha]
  unfold fS
  rw[Int.add_comm]
 ·have h1:=ykh (yf8 d) e hv hcn hx
  rw[hb]
  exact ⟨yol (ym2 d) e he hm hv hcn hx,h1.1⟩
theorem dL_R {α:Type} {one:α→Es→List Opt × Es} (R:List α→Es→Prop) (hR:∀ s l e,R (s :: l) e→R l (one s e).2):∀ (l:List α) (out:List Opt) (e:Es),R l e→R [] (dL one l out e).2:=by
 intro l
 induction l with
 | nil=>intro out e h;exact h
 | cons s l ih=>intro out e h;exact ih _ _ (hR s l e h)
def TopQ {d:Nat} (names:List ByteArray) (l:List (Tr (d+1))) (e:Es):Prop :=
 e.bad=false∧names.length≤e.most∧(∀ s∈l,vOne d (ya7 d) (hdT s) (bdT s)=true)∧(topB (fun s bits=>oneT d (hdT s) (bdT s) names bits) l e.bits).1=0
theorem yin {d:Nat} {names:List ByteArray} (h4:names.length≤4) {s:Tr (d+1)} {l:List (Tr (d+1))} {e:Es} (h:TopQ names (s :: l) e) :
  vOne d (ya7 d) (hdT s) (bdT s)=true∧(oneT d (hdT s) (bdT s) names e.bits).1.1=0∧TopQ names l (sS (dA d) (hdT s) (bdT s) names e).2:=by
 obtain ⟨q1,q2,q3,q4⟩:=h
 have hv:=q3 s (List.mem_cons_self ..)
 unfold topB at q4
 have q4:(if (oneT d (hdT s) (bdT s) names e.bits).1.1=0 then topB (fun s bits=>oneT d (hdT s) (bdT s) names bits) l (oneT d (hdT s) (bdT s) names e.bits).2 else (oneT d (hdT s) (bdT s) names e.bits).1).1=0:=q4
 split at q4
 ·rename_i h0
  obtain ⟨_,t1,t2,t3⟩:=yk5 e q1 q2 h4 hv h0
  refine ⟨hv,h0,t2.trans q1,Nat.le_trans q2 t3,fun x hx=>q3 x (List.mem_cons_of_mem _ hx),?_⟩
  rw[t1]
  exact q4
 ·rename_i h0
  exact absurd q4 h0
theorem yk6 {d:Nat} {l:List (Tr d)} {names:List ByteArray} (hv:ya7 d l=true) (hc:(chkT d l names []).1=0) (h4:names.length≤4) :
  RelS (sA d l names ⟨[],names.length,false⟩) (dA d l names ⟨[],names.length,false⟩)∧RelS (iA d l names ⟨[],0,false⟩) (dA d l names ⟨[],names.length,false⟩) ∧
  (dA d l names ⟨[],names.length,false⟩).2.bad=false∧names.length≤(dA d l names ⟨[],names.length,false⟩).2.most:=by
 cases d with
 | zero =>
  have e0:(⟨[],max 0 names.length,false⟩:Es)=⟨[],names.length,false⟩:=by rw[Nat.zero_max]
  exact ⟨RelS.refl rfl,by show RelS ([],⟨[],max 0 names.length,false⟩) ([],⟨[],names.length,false⟩);rw[e0];exact RelS.refl rfl,rfl,Nat.le_refl _⟩
 | succ d =>
  have h0:TopQ names l ⟨[],names.length,false⟩:=⟨rfl,Nat.le_refl _,yeu hv,hc⟩
  have hend:=dL_R (one:=fun s e=>sS (dA d) (hdT s) (bdT s) names e) (TopQ names) (fun s l e h=>(yin h4 h).2.2) l [] _ h0
  refine ⟨?_,?_,hend.1,hend.2.1⟩
  ·refine yli (TopQ names) (fun s l' e' hq hb'=>?_) (fun s e' he'=>ym1 (yrd d) _ _ _ _ he') l [] _ [] _ h0 rfl (.inl ⟨rfl,rfl,rfl⟩)
   obtain ⟨t1,t2,t3⟩:=yin h4 hq
   exact ⟨(yk5 e' hb' hq.2.1 h4 t1 t2).1.1,t3.1,t3⟩
  ·show RelS (iL (fun s e=>iS (iA d) (hdT s) (bdT s) names e) l [] ⟨[],max 0 names.length,false⟩) _
   rw[Nat.zero_max]
   refine ylj (TopQ names) (fun s l' e' hq hb'=>?_) l [] _ [] _ h0 rfl (.inl ⟨rfl,rfl,rfl⟩)
   obtain ⟨t1,t2,t3⟩:=yin h4 hq
   exact ⟨(yk5 e' hb' hq.2.1 h4 t1 t2).1.2,t3.1,t3⟩
structure Ro where
 N:Int
 I:Int
 B:Int
 l:List Opt
 code:Int
def finR (I:Nat) (r:List Opt × Es):Ro:=if r.2.bad=true∨60<ycc r.1∨yb0 r.2.most I r.2.bits.length r.1=false then ⟨0,0,0,[],2⟩ else ⟨r.2.most,I,r.2.bits.length,r.1,0⟩
theorem you {r D:List Opt × Es} (h:RelS r D) (hb:D.2.bad=false) (I:Nat):finR I r=finR I D:=by
 cases hr:r.2.bad
 ·rw[h.1 hr]
 ·have h1:=h.2 hr
  have h2:yb0 D.2.most I D.2.bits.length D.1=false:=by
   unfold yb0
   rw[decide_eq_false (show ¬ D.1.length≤120 by omega)]
   simp
  unfold finR
  rw[if_pos (.inl hr),if_pos (.inr (.inr h2))]
def elaP (d:Nat) (Q:List ByteArray) (l:List (Tr d)):Ro:=if yc7 d Q l=true∧(ckP d Q l).1=0 then finR Q.length (dA d l Q ⟨[],Q.length,false⟩) else ⟨0,0,0,[],1⟩
theorem ym8 {d:Nat} {Q:List ByteArray} {l:List (Tr d)} (hv:yc7 d Q l=true) (hc:(ckP d Q l).1=0):(chkT d l Q []).1=0:=by
 unfold ckP at hc
 rw[if_pos hv] at hc
 split at hc
 ·exact hc
 ·rename_i h
  exact absurd hc h
theorem ysr {d:Nat} {Q:List ByteArray} {l:List (Tr d)} (hv:yc7 d Q l=true) (hc:(ckP d Q l).1=0):elaP d Q l=finR Q.length (sA d l Q ⟨[],Q.length,false⟩):=by
 obtain ⟨h1,_,h3,_⟩:=yk6 (ydk hv) (ym8 hv hc) (yft hv)
 unfold elaP
 rw[if_pos ⟨hv,hc⟩,you h1 h3]
theorem yss {d:Nat} {Q:List ByteArray} {l:List (Tr d)} (hv:yc7 d Q l=true) (hc:(ckP d Q l).1=0):elaP d Q l=finR Q.length (iA d l Q ⟨[],0,false⟩):=by
 obtain ⟨_,h2,h3,_⟩:=yk6 (ydk hv) (ym8 hv hc) (yft hv)
 unfold elaP
 rw[if_pos ⟨hv,hc⟩,you h2 h3]
theorem yiz {d:Nat} {Q:List ByteArray} {l:List (Tr d)} (h:yc7 d Q l=false∨(ckP d Q l).1≠0):elaP d Q l=⟨0,0,0,[],1⟩:=by
 unfold elaP
 rw[if_neg]
 intro ⟨h1,h2⟩
 rcases h with h|h
 ·rw[h] at h1;cases h1
 ·exact h h2
theorem yrs (l:List ByteArray):∀ u∈strs l,u.oneCell'=true:=by
 intro u hu
 obtain ⟨s,_,rfl⟩:=List.mem_map.1 hu
 rfl
theorem yov {w:World} {lo:Nat} {P:Nat→Prop} (hp:∀ b,lo≤b→b<w.heap.size→P b):∀ {d:Nat} {A:Option Addr} {n:Nat} {l:List (Tr d)},RdT w lo d A n l→TrQ w P d A n l:=by
 intro d
 induction d with
 | zero=>intro A n l h;exact h
 | succ d ih =>
  intro A n l h
  refine ⟨h.1,fun h0=>?_⟩
  obtain ⟨b,off,e,hl,hb,hc⟩:=h.2 h0
  refine ⟨b,off,e,hp b hl hb,hb,fun i s hi=>?_⟩
  obtain ⟨Aa,ca,Ab,nb,cb,h1,h2,h3,h4⟩:=hc i s hi
  refine ⟨Aa,ca,Ab,nb,cb,h1,⟨h2.1,fun g=>?_⟩,ih h3,h4⟩
  obtain ⟨b',off',e',hl',hb',hc'⟩:=h2.2 g
  exact ⟨b',off',e',hp b' hl' hb',hb',hc'⟩
def yrt (r:Ro) (w:World) (e:Ending) (w':World):Prop:=∃ A c,e=.returned (.tuple #[.agg #[.int .i64 r.N,.int .i64 r.I,.int .i64 r.B,.slice A r.l.length c],.int .i64 r.code])∧w'.ownsRow w.heap.size 104 8 (.slice A r.l.length c) r.l.length (r.l.flatMap yan)∧Below w.heap.size w w'
theorem yfi {I:Nat} {r:List Opt × Es} (h:r.2.bad=true∨60<ycc r.1∨yb0 r.2.most I r.2.bits.length r.1=false):finR I r=⟨0,0,0,[],2⟩:=if_pos h
theorem ylw {I:Nat} {r:List Opt × Es} (h1:r.2.bad=false) (h2:¬ 60<ycc r.1) (h3:yb0 r.2.most I r.2.bits.length r.1=true):finR I r=⟨r.2.most,I,r.2.bits.length,r.1,0⟩:=by
 unfold finR
 rw[if_neg]
 rintro (h|h|h)
 ·rw[h1] at h;cases h
 ·exact h2 h
 ·rw[h3] at h;cases h
theorem yst {w:World} {base E n c gE:Nat} {A:Option Addr} {xs:List Value} (h:w.ownsRow base E 1 (.slice A n c) n xs) (hne:∀ k,(Value.slice A n c).ownBlock=some k→k≠gE):RdQ w (fun b=>b≠gE) 1 A n xs:=by
 have h1:=yck h
 refine ⟨h1.1,fun h0=>?_⟩
 obtain ⟨b,off,e,_,hb,hc⟩:=h1.2 h0
 subst e
 refine ⟨b,off,rfl,hne b ?_,hb,hc⟩
 rcases h.2 with ⟨_,h2⟩|⟨g,cap,cur,e,_⟩
 ·omega
 ·injection e with e
  injection e with e
  injection e with e1 e2
  subst e1
  rfl
theorem ykm {d:Nat} {qs:List ByteArray} {l:List (Tr d)} (h:yc7 d qs l=true):(1≤qs.length∧qs.length≤4)∧ybf d l≤4∧tokT d l+qs.length+2≤160:=by
 unfold yc7 pgR at h
 simp only[Bool.and_eq_true,decide_eq_true_eq] at h
 have:=ycf.1 h.1
 exact ⟨by omega,h.2.2.2.1,h.2.2.2.2⟩
theorem yjx:∀ d,AllS d
 | 0=>yre
 | d+1=>yrf (yrg (yjx d) (yrh (yjx d)))
theorem yk7 (d lo lo':Nat) (Aq:Option Addr) (cq:Nat) (qs:List ByteArray) (l:List (Tr d)) (Ab:Option Addr) (nb cb:Nat) (w:World) (hra:RdL w lo 1 Aq qs.length (strs qs)) (hcq:qs.length≤cq) (hrb:RdT w lo' d Ab nb l) (hm:qs.length≤1048576) (hz:szS qs≤1048576) (hsz:szT d l≤1048576) :
  Calls Tryz.prog 17 #[.agg #[.slice Aq qs.length cq,.slice Ab nb cb]] w (yrt (elaP d qs l) w):=by
 obtain ⟨j0,hj,hy0,hy1,hy2⟩:=info_parts ydh
 obtain ⟨X,hX⟩:∃ X,X=w.heap.size:=⟨_,rfl⟩
 obtain ⟨w0,hw0⟩:∃ w0,w0=(w.alloc (.cells #[.slice Aq qs.length cq,.slice Ab nb cb] 27)).alloc (.cells #[.int .i64 0,.int .i64 0,.int .i64 0,.slice none 0 0] 40):=⟨_,rfl⟩
 have b0:Below w.heap.size w w0:=by rw[hw0];exact Zq0
 have X0:=hD (show w0.heap[X]?=some (.cells #[.slice Aq qs.length cq,.slice Ab nb cb] 27 (0,0)) by rw[hw0,hX];exact ydo _ _ _)
 have Y0:=hD (show w0.heap[X+1]?=some (.cells #[.int .i64 0,.int .i64 0,.int .i64 0,.slice none 0 0] 40 (0,0)) by rw[hw0,hX];exact yem _ _ _)
 have RA0:=hD (hra.below b0)
 have RB0:=hD (hrb.below b0)
 have hs0:=b0.size
 have lX0:=lt_of_block X0.out
 have lY0:=lt_of_block Y0.out
 have B0:=hD b0
 have HX:=hD hX
 have HW0:=hD hw0
 have HVS:=hD (fun W (ra:RdL W lo 1 Aq qs.length (strs qs)) (rb:RdT W lo' d Ab nb l)=>yel d lo lo' Aq cq qs l Ab nb cb W ra rb hm hz hsz)
 have HCK:=hD (fun W (ra:RdL W lo 1 Aq qs.length (strs qs)) (rb:RdT W lo' d Ab nb l)=>yfy d lo lo' Aq cq qs l Ab nb cb W ra hcq rb hm hz hsz)
 have hXw:w.heap.size≤X:=by omega
 obtain ⟨K,hK⟩:∃ K,K=ckP d qs l:=⟨_,rfl⟩
 have HK:=hD hK
 rw[←hK] at HCK
 clear hw0 b0 hra hrb hX hK
 obtain ⟨p0,p1⟩:=ybo (lay:=Below.refl _ _) X0.out
 go_enter Tryz.func17,Tryz.ntmps17
 go_upto_region 1 with (fail)
 rw[←HW0.out,←HX.out]
 go_wp2_with fail
 refine(HCK.out w0 RA0.out RB0.out).mono ?_
 rintro e1 w1 ⟨rfl,b1,s1⟩
 have B1:=hD b1
 clear b1 p0 p1
 have RA1:=hD (RA0.out.below B1.out)
 have RB1:=hD (RB0.out.below B1.out)
 obtain ⟨p0,p1⟩:=ybo (lay:=B1.out) X0.out
 have lX1:X<w1.heap.size:=by omega
 cases hv:yc7 d qs l
 ·have HF:Hid (elaP d qs l=⟨0,0,0,[],1⟩):=yiz (.inl hv)
  rw[hv] at HVS
  clear hv
  go_upto_region 3 with (go_at_call 12;refine(HVS.out w1 RA1.out RB1.out).mono ?_;rintro e2 w2 ⟨rfl,b2,s2⟩)
  have w2Y:=hD ((b2.block _ Zq6).trans ((B1.out.block _ lY0).trans Y0.out))
  obtain ⟨r0,r1,r2,r3⟩:=ycm (w2Y.out)
  have f0:=yab (j:=0) w2Y.out
  have f1:=yab (j:=1) w2Y.out
  have f2:=yab (j:=2) w2Y.out
  have f3:=yab (j:=3) w2Y.out
  have lY:=lt_of_block w2Y.out
  go_wp2_with fail
  refine bodyPost_ret (v:=.tuple #[.agg #[.int .i64 0,.int .i64 0,.int .i64 0,.slice none 0 0],.int .i64 1]) (by simp [results,Tryz.results17,go_sem,r0,r1,r2,r3]) rfl ?_
  rw[HF.out]
  exact ⟨none,0,rfl,World.ownsRow_nil _ _ _ _,(B0.out.trans ((B1.out.trans (b2.mono B1.out.size)).mono hs0)).trans (yco Zq6)⟩
 ·rw[hv] at HVS
  have HVV:=hD hv
  clear hv
  by_cases hk0:K.1=0
  ·have HK0:=hD hk0
   rw[hk0]
   clear hk0
   go_upto_region 4 with (go_at_call 12;refine(HVS.out w1 RA1.out RB1.out).mono ?_;rintro e2 w2 ⟨rfl,b2,s2⟩)
   have B2:=hD (belE B1.out b2)
   clear p0 p1
   have RA2:=hD (RA1.out.below b2)
   have RB2:=hD (RB1.out.below b2)
   obtain ⟨p0,p1⟩:=ybo (lay:=B2.out) X0.out
   have lX2:X<w2.heap.size:=by omega
   have lY2:X+1<w2.heap.size:=by omega
   clear b2
   obtain ⟨J0,hJ0⟩:∃ J:Array Value→Array Bool→Act→World→Prop,J=(fun A0 Lz a W=>∃ (g0:Nat) (An:Option Addr) (cn:Nat) (gE:Nat),∃ x22 x23 x24 x25 x26 x27 x28 x29 x30 x6:Value,a=⟨((((((((((A0.setIfInBounds 22 x22).setIfInBounds 23 x23).setIfInBounds 24 x24).setIfInBounds 25 x25).setIfInBounds 26 x26).setIfInBounds 27 x27).setIfInBounds 28 x28).setIfInBounds 29 x29).setIfInBounds 30 x30).setIfInBounds 6 x6),[]⟩∧(Ls Lz 0→(x22=.slice (some ⟨g0,0,none⟩) 0 0∧g0≠0))∧(Ls Lz 1→x23=.pointer (some ⟨X,0,none⟩))∧(Ls Lz 2→x24=.slice Aq qs.length cq)∧(Ls Lz 3→x25=.slice An qs.length cn)∧(Ls Lz 4→x26=.pointer (some ⟨X,0,none⟩))∧(Ls Lz 5→x27=.slice Aq qs.length cq)∧(Ls Lz 6→x28=.int .i64 (qs.length:Int))∧(Ls Lz 7→x29=.agg #[.slice An qs.length cn,.slice none 0 0,.int .i64 (qs.length:Int),.bool false])∧(Ls Lz 8→x30=.pointer (some ⟨gE,0,none⟩))∧(Ls Lz 9→(x6=.pointer (some ⟨gE,0,none⟩)∧(W.heap[gE]?=some (.cells #[.slice An qs.length cn,.slice none 0 0,.int .i64 (qs.length:Int),.bool false] 83 (0,0))∧w2.heap.size≤gE)∧W.ownsRow w2.heap.size 9 1 (.slice An qs.length cn) qs.length (strs qs)∧Below w2.heap.size w2 W))∧(Ls Lz 3→¬ Ls Lz 9→W.ownsRow w2.heap.size 9 1 (.slice An qs.length cn) qs.length (strs qs))∧(Ls Lz 8→¬ Ls Lz 9→(W.heap[gE]?=some (.cells #[.slice An qs.length cn,.slice none 0 0,.int .i64 (qs.length:Int),.bool false] 83 (0,0))∧w2.heap.size≤gE))∧(¬ Ls Lz 9→Below w2.heap.size w2 W)∧(Ls Lz 9→¬ Ls Lz 9→True)∧(¬ Ls Lz 3→(g0=0∨W.ownsRow w2.heap.size 9 1 (.slice (some ⟨g0,0,none⟩) 0 0) 0 []))):=⟨_,rfl⟩
   have HJ0:=hD hJ0
   clear hJ0
   refine ya3 Zq8 J0 ?_ ?_ ?_
   ·intro A0
    rw[HJ0.out]
    exact ⟨0,none,0,0,A0.getD 22 undef,A0.getD 23 undef,A0.getD 24 undef,A0.getD 25 undef,A0.getD 26 undef,A0.getD 27 undef,A0.getD 28 undef,A0.getD 29 undef,A0.getD 30 undef,A0.getD 6 undef,by simp only[ybm],zn,zn,zn,zn,zn,zn,zn,zn,zn,zn,zn,zn,fun _=>ycb (Below.refl _ _),zn,fun _=>.inl rfl⟩
   ·intro Lz a W hsize hcl hJ i hi
    have hil:=ybn hi
    have hnl:=ybi hi
    have hnow:=ybh hi hsize
    have HCL:=hD hcl
    rw[HJ0.out] at hJ
    obtain ⟨g0,An,cn,gE,x22,x23,x24,x25,x26,x27,x28,x29,x30,x6,rfl,HF⟩:=hJ
    have HH:=hD HF
    have hi2:i=0∨i=1∨i=2∨i=3∨i=4∨i=5∨i=6∨i=7∨i=8∨i=9:=by simp at hil;omega
    clear hil hcl HF
    rcases hi2 with rfl|rfl|rfl|rfl|rfl|rfl|rfl|rfl|rfl|rfl
    ·have hns:¬ Ls Lz 9:=fun h=>hnl (dq HCL (dq HCL (dq HCL (dq HCL h 8) 7) 3) 0)
     have V0:=(pj12 HH.out) hns
     clear hi HCL
     simp only[zA,zB,zC]
     refine yaa rfl rfl fun K hK=>?_
     go_wp2_with fail
     rw[HJ0.out]
     exact ⟨W.heap.size,An,cn,gE,.slice (some ⟨W.heap.size,0,none⟩) 0 0,x23,x24,x25,x26,x27,x28,x29,x30,x6,(by simp only[zA,zB,zC]),fun _=>⟨rfl,by have:=V0.size;omega⟩,zk HH,zk HH,zk HH,zk HH,zk HH,zk HH,zk HH,zk HH,Ba hns,(Bt (pj10 HH.out) fun x=>yat x yap),(Bt (pj11 HH.out) fun x=>yi9 x yap),fun h=>belE ((pj12 HH.out) (fun h2=>h h2.fwd)) yap,Bb hns,fun h=>.inr (ybd (yb2 W _ _) V0.size)⟩
    ·clear hi HCL
     simp only[zA,zB,zC]
     refine yaa rfl rfl fun K hK=>?_
     go_wp2_with fail
     rw[HJ0.out]
     exact ⟨g0,An,cn,gE,x22,.pointer (some ⟨X,0,none⟩),x24,x25,x26,x27,x28,x29,x30,x6,(by simp only[zA,zB,zC]),zT HH⟩
    ·have hns:¬ Ls Lz 9:=fun h=>hnl (dq HCL (dq HCL (dq HCL (dq HCL h 8) 7) 3) 2)
     have D1:=(pj1 HH.out) (rq hi 1)
     have V0:=(pj12 HH.out) hns
     clear hi HCL
     simp only[zA,zB,zC,D1]
     have q0:=(V0.cell (p:=⟨X,0,none⟩) lX2).trans p0
     refine yaa rfl rfl fun K hK=>?_
     go_wp2_with fail
     rw[HJ0.out]
     exact ⟨g0,An,cn,gE,x22,x23,.slice Aq qs.length cq,x25,x26,x27,x28,x29,x30,x6,(by simp only[zA,zB,zC,D1]),zT HH⟩
    ·have hns:¬ Ls Lz 9:=fun h=>hnl (dq HCL (dq HCL (dq HCL h 8) 7) 3)
     have D0:=(pj0 HH.out) (rq hi 0)
     have D2:=(pj2 HH.out) (rq hi 2)
     have V0:=(pj12 HH.out) hns
     have hk7:¬ Ls Lz 7:=fun h=>hnl (dq HCL h 3)
     have hk8:¬ Ls Lz 8:=fun h=>hnl (dq HCL (dq HCL h 7) 3)
     have Hh0:=(pe14 HH.out) hnl
     clear hi HCL
     obtain ⟨D0,X0⟩:=D0
     simp only[zA,zB,zC,D0,D2]
     have hown0:=Hh0.resolve_left X0
     refine yaa rfl rfl fun K hK=>?_
     simp only[List.getElem_toArray,List.getElem_cons_succ,List.getElem_cons_zero]
     refine yae _ rfl _ _ 24 rfl w2.heap.size 9 j0 _ 1 16 Tryz.underlying24 hj hy0 hy1 hy2 rfl Zq9 _ _ _ rfl hown0 _ qs.length _ _ rfl (RA2.out.below V0).rd ?c2 ?c3 ?c4 ?c5 ?_
     case c2=>exact fun u hu=>yrs _ u hu
     case c3=>simp only[maxLen];omega
     case c4=>omega
     case c5=>exact V0.size
     intro v6 W6 own6 gr6 hat
     rw[Nat.zero_add] at own6
     obtain ⟨A8,c8,rfl,_,_,_⟩:=yah own6
     go_wp2_with fail
     rw[HJ0.out]
     exact ⟨g0,A8,c8,gE,x22,x23,x24,.slice A8 qs.length c8,x26,x27,x28,x29,x30,x6,(by first|(simp only[zA,zB,zC,D0,D2] <;> fail)|simp only[Act.put,zA,zB,zC,D0,D2]),zk HH,zk HH,zk HH,fun _=>rfl,zk HH,zk HH,zk HH,Ba hk7,Ba hk8,Ba hns,fun _ _=>own6,Bb hk8,fun h=>Below.grown ((pj12 HH.out) (fun h2=>h h2.fwd)) gr6 V0.size (ybe hown0),Bb hns,zy hnow⟩
    ·clear hi HCL
     simp only[zA,zB,zC]
     refine yaa rfl rfl fun K hK=>?_
     go_wp2_with fail
     rw[HJ0.out]
     exact ⟨g0,An,cn,gE,x22,x23,x24,x25,.pointer (some ⟨X,0,none⟩),x27,x28,x29,x30,x6,(by simp only[zA,zB,zC]),zT HH⟩
    ·have hns:¬ Ls Lz 9:=fun h=>hnl (dq HCL (dq HCL (dq HCL (dq HCL h 8) 7) 6) 5)
     have D4:=(pj4 HH.out) (rq hi 4)
     have V0:=(pj12 HH.out) hns
     clear hi HCL
     simp only[zA,zB,zC,D4]
     have q0:=(V0.cell (p:=⟨X,0,none⟩) lX2).trans p0
     refine yaa rfl rfl fun K hK=>?_
     go_wp2_with fail
     rw[HJ0.out]
     exact ⟨g0,An,cn,gE,x22,x23,x24,x25,x26,.slice Aq qs.length cq,x28,x29,x30,x6,(by simp only[zA,zB,zC,D4]),zT HH⟩
    ·have D5:=(pj5 HH.out) (rq hi 5)
     clear hi HCL
     simp only[zA,zB,zC,D5]
     refine yaa rfl rfl fun K hK=>?_
     go_wp2_with fail
     rw[HJ0.out]
     exact ⟨g0,An,cn,gE,x22,x23,x24,x25,x26,x27,.int .i64 (qs.length:Int),x29,x30,x6,(by simp only[zA,zB,zC,D5]),zT HH⟩
    ·have D3:=(pj3 HH.out) (rq hi 3)
     have D6:=(pj6 HH.out) (rq hi 6)
     clear hi HCL
     simp only[zA,zB,zC,D3,D6]
     refine yaa rfl rfl fun K hK=>?_
     go_wp2_with fail
     rw[HJ0.out]
     exact ⟨g0,An,cn,gE,x22,x23,x24,x25,x26,x27,x28,.agg #[.slice An qs.length cn,.slice none 0 0,.int .i64 (qs.length:Int),.bool false],x30,x6,(by simp only[zA,zB,zC,D3,D6]),zT HH⟩
    ·have hns:¬ Ls Lz 9:=fun h=>hnl (dq HCL h 8)
     have D7:=(pj7 HH.out) (rq hi 7)
     have V0:=(pj12 HH.out) hns
     have hp3:Ls Lz 3:=(dq HCL (rq hi 7) 3)
     clear hi HCL
     simp only[zA,zB,zC,D7]
     refine yaa rfl rfl fun K hK=>?_
     go_wp2_with fail
     rw[HJ0.out]
     exact ⟨g0,An,cn,W.heap.size,x22,x23,x24,x25,x26,x27,x28,x29,.pointer (some ⟨W.heap.size,0,none⟩),x6,(by simp only[zA,zB,zC,D7]),zk HH,zk HH,zk HH,zk HH,zk HH,zk HH,zk HH,zk HH,fun _=>rfl,Ba hns,(Bt (pj10 HH.out) fun x=>yat x yap),fun _ _=>⟨heap_alloc_new W _,V0.size⟩,fun h=>belE ((pj12 HH.out) (fun h2=>h h2.fwd)) yap,Bb hns,fun h=>absurd (Ls.fwd hp3) h⟩
    ·have hns:¬ Ls Lz 9:=hnl
     have D8:=(pj8 HH.out) (rq hi 8)
     have E8:=(pj11 HH.out) (rq hi 8) hns
     have E3:=(pj10 HH.out) (dq HCL (dq HCL (rq hi 8) 7) 3) hns
     have V0:=(pj12 HH.out) hns
     have hp3:Ls Lz 3:=(dq HCL (dq HCL (rq hi 8) 7) 3)
     clear hi HCL
     simp only[zA,zB,zC,D8]
     refine yaa rfl rfl fun K hK=>?_
     go_wp2_with fail
     rw[HJ0.out]
     exact ⟨g0,An,cn,gE,x22,x23,x24,x25,x26,x27,x28,x29,x30,.pointer (some ⟨gE,0,none⟩),(by first|(simp only[zA,zB,zC,D8] <;> fail)|simp only[Act.put,zA,zB,zC,D8]),zk HH,zk HH,zk HH,zk HH,zk HH,zk HH,zk HH,zk HH,zk HH,fun _=>⟨rfl,E8,E3,V0⟩,zx hnow,zx hnow,zy hnow,zx hnow,fun h=>absurd (Ls.fwd hp3) h⟩
   ·intro Lz a W hsize hJ hr
    rw[HJ0.out] at hJ
    have hall:=ybj hsize Zq8 hr
    obtain ⟨g0,An,cn,gE,x22,x23,x24,x25,x26,x27,x28,x29,x30,x6,rfl,HF⟩:=hJ
    have HH:=hD HF
    have HEND:=(pj9 HH.out) (hall 9 Zq9)
    clear HF HH hall hr hsize
    simp only[zA,zB,zC]
    obtain ⟨rfl,⟨hh3,hg3⟩,ho3,hb3⟩:=HEND
    obtain ⟨w3,rfl⟩:∃ w3:World,w3=W:=⟨_,rfl⟩
    have hs3:=hb3.size
    have hne:∀ k,(Value.slice An qs.length cn).ownBlock=some k→k≠gE:=fun k hk e=>yeq ho3 hh3 Zq9 (by rw[hk,e])
    have EN3:=hD (show EnvS w3 gE (fun b=>b≠gE) qs ⟨[],qs.length,false⟩ from ⟨An,qs.length,cn,none,0,0,hh3,rfl,yst ho3 hne,rfl,⟨rfl,fun h=>absurd h Zq6⟩⟩)
    have p1:=(hb3.cell (p:=⟨X,1,none⟩) lX2).trans p1
    have p0:=(hb3.cell (p:=⟨X,0,none⟩) lX2).trans p0
    have hgl:=lt_of_block hh3
    have TQ3:=hD (yov (P:=fun b=>b≠gE) (fun b _ hb=>by omega) RB2.out)
    have TQ3:=hD (TrQ.keep (fun b _ hl=>hb3.block b hl) hb3.size TQ3.out)
    have B3:=hD (B2.out.trans (hb3.mono B2.out.size))
    have lX3:X<w3.heap.size:=by omega
    have lY3:X+1<w3.heap.size:=by omega
    obtain ⟨R,hR⟩:∃ R,R=sA d l qs ⟨[],qs.length,false⟩:=⟨_,rfl⟩
    have HR:=hD hR
    have hRL:R.1.length≤2000:=by rw[hR];exact ygn _ _ _ _
    have hRB:R.2.bits.length≤1048577:=by rw[hR];have:=yk2 d l qs ⟨[],qs.length,false⟩;have e:(⟨[],qs.length,false⟩:Es).bits.length=0:=rfl;omega
    obtain ⟨⟨_,hq4⟩,hn4,_⟩:=ykm HVV.out
    have HALL:=hD (yjx d (fun b=>b≠gE) l Ab nb cb gE qs ⟨[],qs.length,false⟩ w3 TQ3.out (ydk HVV.out) (fun h=>h rfl) EN3.out Zq6 (by show 0+szT d l≤_;omega))
    rw[←hR] at HALL
    clear hh3 ho3 hb3 hne hR
    go_wp2_with fail
    refine HALL.out.mono ?_
    rintro e4 w4 ⟨v4,rfl,ho4,hen4,hg4⟩
    obtain ⟨A4,c4,rfl,_,_,rr4⟩:=yah ho4
    have hs4:=hg4.size
    obtain ⟨An4,nn4,cn4,Bn,nbb,cbb,hh4,hz4,hr4,hbl4,hb4⟩:=id hen4
    clear hz4 hr4 hb4
    have y1:=yaj (j:=1) hh4 rfl
    have y2:=yaj (j:=2) hh4 rfl
    have y3:=yaj (j:=3) hh4 rfl
    have lE4:=lt_of_block hh4
    have hXg:X≠gE:=by omega
    have p0:=(ycr (o:=0) hg4 lX3 hXg).trans p0
    have lX4:X<w4.heap.size:=by omega
    have hgr4:Below w0.heap.size w0 w4:=B3.out.trans (yd4 hg4 B3.out.size (fun k hk=>by injection hk with hk;omega))
    have B4:=hD hgr4
    have O4:=hD ho4
    have RR4:=hD rr4
    have HBL:=hD hbl4
    have HH4:=hD hh4
    clear ho4 hen4 hg4 hh4 rr4 hbl4 hgr4 HALL p1
    go_upto_region 6 with (fail)
    obtain ⟨J0,hJ0⟩:∃ J:Array Value→Array Bool→Act→World→Prop,J=(fun A0 Lz a W=>∃ (g0:Nat),∃ x35 x36 x37 x38 x39 x40 x41 x42 x43 x44 x45 x46 x47 x48 x8:Value,a=⟨(((((((((((((((A0.setIfInBounds 35 x35).setIfInBounds 36 x36).setIfInBounds 37 x37).setIfInBounds 38 x38).setIfInBounds 39 x39).setIfInBounds 40 x40).setIfInBounds 41 x41).setIfInBounds 42 x42).setIfInBounds 43 x43).setIfInBounds 44 x44).setIfInBounds 45 x45).setIfInBounds 46 x46).setIfInBounds 47 x47).setIfInBounds 48 x48).setIfInBounds 8 x8),[]⟩∧(Ls Lz 0→x35=.pointer (some ⟨gE,0,none⟩))∧(Ls Lz 1→x36=.pointer (some ⟨gE,0,none⟩))∧(Ls Lz 2→x37=.pointer (some ⟨gE,2,none⟩))∧(Ls Lz 3→x38=.int .i64 (R.2.most:Int))∧(Ls Lz 4→x39=.pointer (some ⟨X,0,none⟩))∧(Ls Lz 5→x40=.slice Aq qs.length cq)∧(Ls Lz 6→x41=.int .i64 (qs.length:Int))∧(Ls Lz 7→x42=.pointer (some ⟨gE,0,none⟩))∧(Ls Lz 8→x43=.pointer (some ⟨gE,0,none⟩))∧(Ls Lz 9→x44=.pointer (some ⟨gE,1,none⟩))∧(Ls Lz 10→x45=.slice Bn nbb cbb)∧(Ls Lz 11→x46=.int .i64 (nbb:Int))∧(Ls Lz 12→x47=.slice A4 R.1.length c4)∧(Ls Lz 13→x48=.agg #[.int .i64 (R.2.most:Int),.int .i64 (qs.length:Int),.int .i64 (nbb:Int),.slice A4 R.1.length c4])∧(Ls Lz 14→x8=.pointer (some ⟨g0,0,none⟩))∧(Ls Lz 15→(x8=.pointer (some ⟨g0,0,none⟩)∧W.heap[g0]?=some (.cells #[.int .i64 (R.2.most:Int),.int .i64 (qs.length:Int),.int .i64 (nbb:Int),.slice A4 R.1.length c4] 40 (0,0))∧w4.heap.size≤g0∧Below w4.heap.size w4 W))∧(Ls Lz 14→¬ Ls Lz 15→(W.heap[g0]?=some (.cells #[.int .i64 0,.int .i64 0,.int .i64 0,.slice none 0 0] 40 (0,0))∧w4.heap.size≤g0))∧(¬ Ls Lz 15→Below w4.heap.size w4 W)∧(Ls Lz 15→¬ Ls Lz 15→True)):=⟨_,rfl⟩
    have HJ0:=hD hJ0
    clear hJ0
    refine ya3 Zq8 J0 ?_ ?_ ?_
    ·intro A0
     rw[HJ0.out]
     exact ⟨0,A0.getD 35 undef,A0.getD 36 undef,A0.getD 37 undef,A0.getD 38 undef,A0.getD 39 undef,A0.getD 40 undef,A0.getD 41 undef,A0.getD 42 undef,A0.getD 43 undef,A0.getD 44 undef,A0.getD 45 undef,A0.getD 46 undef,A0.getD 47 undef,A0.getD 48 undef,A0.getD 8 undef,by simp only[ybm],zn,zn,zn,zn,zn,zn,zn,zn,zn,zn,zn,zn,zn,zn,zn,zn,zn,fun _=>ycb (Below.refl _ _),zn⟩
    ·intro Lz a W hsize hcl hJ i hi
     have hil:=ybn hi
     have hnl:=ybi hi
     have hnow:=ybh hi hsize
     have HCL:=hD hcl
     rw[HJ0.out] at hJ
     obtain ⟨g0,x35,x36,x37,x38,x39,x40,x41,x42,x43,x44,x45,x46,x47,x48,x8,rfl,HF⟩:=hJ
     have HH:=hD HF
     have hi2:i=0∨i=1∨i=2∨i=3∨i=4∨i=5∨i=6∨i=7∨i=8∨i=9∨i=10∨i=11∨i=12∨i=13∨i=14∨i=15:=by simp at hil;omega
     clear hil hcl HF
     rcases hi2 with rfl|rfl|rfl|rfl|rfl|rfl|rfl|rfl|rfl|rfl|rfl|rfl|rfl|rfl|rfl|rfl
     ·clear hi HCL
      simp only[zA,zB,zC]
      refine yaa rfl rfl fun K hK=>?_
      go_wp2_with fail
      rw[HJ0.out]
      exact ⟨g0,.pointer (some ⟨gE,0,none⟩),x36,x37,x38,x39,x40,x41,x42,x43,x44,x45,x46,x47,x48,x8,(by simp only[zA,zB,zC]),zT HH⟩
     ·have D0:=(pj0 HH.out) (rq hi 0)
      clear hi HCL
      simp only[zA,zB,zC,D0]
      refine yaa rfl rfl fun K hK=>?_
      go_wp2_with fail
      rw[HJ0.out]
      exact ⟨g0,x35,.pointer (some ⟨gE,0,none⟩),x37,x38,x39,x40,x41,x42,x43,x44,x45,x46,x47,x48,x8,(by simp only[zA,zB,zC,D0]),zT HH⟩
     ·have D1:=(pj1 HH.out) (rq hi 1)
      clear hi HCL
      simp only[zA,zB,zC,D1]
      refine yaa rfl rfl fun K hK=>?_
      go_wp2_with fail
      rw[HJ0.out]
      exact ⟨g0,x35,x36,.pointer (some ⟨gE,2,none⟩),x38,x39,x40,x41,x42,x43,x44,x45,x46,x47,x48,x8,(by simp only[zA,zB,zC,D1]),zT HH⟩
     ·have hns:¬ Ls Lz 15:=fun h=>hnl (dq HCL (dq HCL h 13) 3)
      have D2:=(pj2 HH.out) (rq hi 2)
      have V0:=(pj17 HH.out) hns
      clear hi HCL
      simp only[zA,zB,zC,D2]
      have q0:=(V0.cell (p:=⟨gE,2,none⟩) lE4).trans y2
      refine yaa rfl rfl fun K hK=>?_
      go_wp2_with fail
      rw[HJ0.out]
      exact ⟨g0,x35,x36,x37,.int .i64 (R.2.most:Int),x39,x40,x41,x42,x43,x44,x45,x46,x47,x48,x8,(by simp only[zA,zB,zC,D2]),zT HH⟩
     ·clear hi HCL
      simp only[zA,zB,zC]
      refine yaa rfl rfl fun K hK=>?_
      go_wp2_with fail
      rw[HJ0.out]
      exact ⟨g0,x35,x36,x37,x38,.pointer (some ⟨X,0,none⟩),x40,x41,x42,x43,x44,x45,x46,x47,x48,x8,(by simp only[zA,zB,zC]),zT HH⟩
     ·have hns:¬ Ls Lz 15:=fun h=>hnl (dq HCL (dq HCL (dq HCL h 13) 6) 5)
      have D4:=(pj4 HH.out) (rq hi 4)
      have V0:=(pj17 HH.out) hns
      clear hi HCL
      simp only[zA,zB,zC,D4]
      have q0:=(V0.cell (p:=⟨X,0,none⟩) lX4).trans p0
      refine yaa rfl rfl fun K hK=>?_
      go_wp2_with fail
      rw[HJ0.out]
      exact ⟨g0,x35,x36,x37,x38,x39,.slice Aq qs.length cq,x41,x42,x43,x44,x45,x46,x47,x48,x8,(by simp only[zA,zB,zC,D4]),zT HH⟩
     ·have D5:=(pj5 HH.out) (rq hi 5)
      clear hi HCL
      simp only[zA,zB,zC,D5]
      refine yaa rfl rfl fun K hK=>?_
      go_wp2_with fail
      rw[HJ0.out]
      exact ⟨g0,x35,x36,x37,x38,x39,x40,.int .i64 (qs.length:Int),x42,x43,x44,x45,x46,x47,x48,x8,(by simp only[zA,zB,zC,D5]),zT HH⟩
     ·clear hi HCL
      simp only[zA,zB,zC]
      refine yaa rfl rfl fun K hK=>?_
      go_wp2_with fail
      rw[HJ0.out]
      exact ⟨g0,x35,x36,x37,x38,x39,x40,x41,.pointer (some ⟨gE,0,none⟩),x43,x44,x45,x46,x47,x48,x8,(by simp only[zA,zB,zC]),zT HH⟩
     ·have D7:=(pj7 HH.out) (rq hi 7)
      clear hi HCL
      simp only[zA,zB,zC,D7]
      refine yaa rfl rfl fun K hK=>?_
      go_wp2_with fail
      rw[HJ0.out]
      exact ⟨g0,x35,x36,x37,x38,x39,x40,x41,x42,.pointer (some ⟨gE,0,none⟩),x44,x45,x46,x47,x48,x8,(by simp only[zA,zB,zC,D7]),zT HH⟩
     ·have D8:=(pj8 HH.out) (rq hi 8)
      clear hi HCL
      simp only[zA,zB,zC,D8]
      refine yaa rfl rfl fun K hK=>?_
      go_wp2_with fail
      rw[HJ0.out]
      exact ⟨g0,x35,x36,x37,x38,x39,x40,x41,x42,x43,.pointer (some ⟨gE,1,none⟩),x45,x46,x47,x48,x8,(by simp only[zA,zB,zC,D8]),zT HH⟩
     ·have hns:¬ Ls Lz 15:=fun h=>hnl (dq HCL (dq HCL (dq HCL h 13) 11) 10)
      have D9:=(pj9 HH.out) (rq hi 9)
      have V0:=(pj17 HH.out) hns
      clear hi HCL
      simp only[zA,zB,zC,D9]
      have q0:=(V0.cell (p:=⟨gE,1,none⟩) lE4).trans y1
      refine yaa rfl rfl fun K hK=>?_
      go_wp2_with fail
      rw[HJ0.out]
      exact ⟨g0,x35,x36,x37,x38,x39,x40,x41,x42,x43,x44,.slice Bn nbb cbb,x46,x47,x48,x8,(by simp only[zA,zB,zC,D9]),zT HH⟩
     ·have D10:=(pj10 HH.out) (rq hi 10)
      clear hi HCL
      simp only[zA,zB,zC,D10]
      refine yaa rfl rfl fun K hK=>?_
      go_wp2_with fail
      rw[HJ0.out]
      exact ⟨g0,x35,x36,x37,x38,x39,x40,x41,x42,x43,x44,x45,.int .i64 (nbb:Int),x47,x48,x8,(by simp only[zA,zB,zC,D10]),zT HH⟩
     ·clear hi HCL
      simp only[zA,zB,zC]
      refine yaa rfl rfl fun K hK=>?_
      go_wp2_with fail
      rw[HJ0.out]
      exact ⟨g0,x35,x36,x37,x38,x39,x40,x41,x42,x43,x44,x45,x46,.slice A4 R.1.length c4,x48,x8,(by simp only[zA,zB,zC]),zT HH⟩
     ·have D3:=(pj3 HH.out) (rq hi 3)
      have D6:=(pj6 HH.out) (rq hi 6)
      have D11:=(pj11 HH.out) (rq hi 11)
      have D12:=(pj12 HH.out) (rq hi 12)
      clear hi HCL
      simp only[zA,zB,zC,D3,D6,D11,D12]
      refine yaa rfl rfl fun K hK=>?_
      go_wp2_with fail
      rw[HJ0.out]
      exact ⟨g0,x35,x36,x37,x38,x39,x40,x41,x42,x43,x44,x45,x46,x47,.agg #[.int .i64 (R.2.most:Int),.int .i64 (qs.length:Int),.int .i64 (nbb:Int),.slice A4 R.1.length c4],x8,(by simp only[zA,zB,zC,D3,D6,D11,D12]),zT HH⟩
     ·have hns:¬ Ls Lz 15:=fun h=>hnl (dq HCL h 14)
      have V0:=(pj17 HH.out) hns
      clear hi HCL
      simp only[zA,zB,zC]
      refine yaa rfl rfl fun K hK=>?_
      go_wp2_with fail
      rw[HJ0.out]
      exact ⟨W.heap.size,x35,x36,x37,x38,x39,x40,x41,x42,x43,x44,x45,x46,x47,x48,.pointer (some ⟨W.heap.size,0,none⟩),(by simp only[zA,zB,zC]),zk HH,zk HH,zk HH,zk HH,zk HH,zk HH,zk HH,zk HH,zk HH,zk HH,zk HH,zk HH,zk HH,zk HH,fun _=>rfl,Ba hns,fun _ _=>⟨heap_alloc_new W _,V0.size⟩,fun h=>belE ((pj17 HH.out) (fun h2=>h h2.fwd)) yap,Bb hns⟩
     ·have hns:¬ Ls Lz 15:=hnl
      have D13:=(pj13 HH.out) (rq hi 13)
      have D14:=(pj14 HH.out) (rq hi 14)
      have E14:=(pj16 HH.out) (rq hi 14) hns
      have V0:=(pj17 HH.out) hns
      clear hi HCL
      simp only[zA,zB,zC,D13,D14]
      have q0:=yaj (j:=0) E14.1 rfl
      have q1:=yaj (j:=1) E14.1 rfl
      have q2:=yaj (j:=2) E14.1 rfl
      have q3:=yaj (j:=3) E14.1 rfl
      have f0:=yab (j:=0) E14.1
      have f1:=yab (j:=1) E14.1
      have f2:=yab (j:=2) E14.1
      have f3:=yab (j:=3) E14.1
      have lg:=lt_of_block E14.1
      have HE:=hD E14
      clear E14
      refine yaa rfl rfl fun K hK=>?_
      go_wp2_with fail
      rw[HJ0.out]
      exact ⟨g0,x35,x36,x37,x38,x39,x40,x41,x42,x43,x44,x45,x46,x47,x48,x8,(by first|(simp only[zA,zB,zC,D13,D14] <;> fail)|simp only[Act.put,zA,zB,zC,D13,D14]),zk HH,zk HH,zk HH,zk HH,zk HH,zk HH,zk HH,zk HH,zk HH,zk HH,zk HH,zk HH,zk HH,zk HH,zk HH,fun _=>⟨D14,yf4 HE.out.1,HE.out.2,yfl V0 HE.out.2⟩,zx hnow,zy hnow,zx hnow⟩
    ·intro Lz a W hsize hJ hr
     rw[HJ0.out] at hJ
     have hall:=ybj hsize Zq8 hr
     obtain ⟨g0,x35,x36,x37,x38,x39,x40,x41,x42,x43,x44,x45,x46,x47,x48,x8,rfl,HF⟩:=hJ
     have HH:=hD HF
     have HEND:=(pj15 HH.out) (hall 15 Zq9)
     clear HF HH hall hr hsize
     simp only[zA,zB,zC]
     obtain ⟨rfl,hh5,hg5,hb5⟩:=HEND
     obtain ⟨w5,rfl⟩:∃ w5:World,w5=W:=⟨_,rfl⟩
     have hs5:=hb5.size
     have B5:=hD (B4.out.trans (hb5.mono B4.out.size))
     have y3:=(hb5.cell (p:=⟨gE,3,none⟩) lE4).trans y3
     have HH5:=hD hh5
     have RR5:=hD (RR4.out.below hb5)
     have O5:=hD (yat O4.out hb5)
     have w5Y:=hD ((B5.out.block _ lY0).trans Y0.out)
     have lE5:gE<w5.heap.size:=by omega
     have HE:=hD ((ysr HVV.out (by rw[←HK.out];exact HK0.out)).trans (by rw[←HR.out]))
     clear hh5 hb5 y1 y2 p0
     cases hbad:R.2.bad
     ·rw[hbad] at y3
      have HBD:=hD hbad
      clear hbad
      obtain ⟨q0,q1,q2,q3⟩:=ycm HH5.out
      by_cases hgc:60<ycc R.1
      ·have d1:decide ((60:Int)<(ycc R.1:Int))=true:=decide_eq_true Zq6
       have HF:Hid (elaP d qs l=⟨0,0,0,[],2⟩):=by show _=_;rw[HE.out];exact yfi (.inr (.inl hgc))
       clear hgc
       go_upto_region 8 with (go_at_call 62;refine(yea _ _ _ _ _ _ R.1 w5 RR5.out rfl Zq6).mono ?_;rintro e6 w6 ⟨rfl,b6,s6⟩)
       have w6Y:=hD ((b6.block _ Zq6).trans w5Y.out)
       obtain ⟨r0,r1,r2,r3⟩:=ycm (w6Y.out)
       have f0:=yab (j:=0) w6Y.out
       have f1:=yab (j:=1) w6Y.out
       have f2:=yab (j:=2) w6Y.out
       have f3:=yab (j:=3) w6Y.out
       have lY:=lt_of_block w6Y.out
       go_wp2_with fail
       refine bodyPost_ret (v:=.tuple #[.agg #[.int .i64 0,.int .i64 0,.int .i64 0,.slice none 0 0],.int .i64 2]) (by simp [results,Tryz.results17,go_sem,r0,r1,r2,r3]) rfl ?_
       rw[HF.out]
       exact ⟨none,0,rfl,World.ownsRow_nil _ _ _ _,(B0.out.trans ((B5.out.trans (b6.mono B5.out.size)).mono hs0)).trans (yco Zq6)⟩
      ·have d1:decide ((60:Int)<(ycc R.1:Int))=false:=decide_eq_false Zq6
       cases hvr:yb0 R.2.most qs.length nbb R.1
       ·have HF:Hid (elaP d qs l=⟨0,0,0,[],2⟩):=by show _=_;rw[HE.out];exact yfi (.inr (.inr (by rw[HBL.out];exact hvr)))
        have HVR:=hD (fun W (h:Rd W 8 A4 R.1.length (R.1.flatMap yan))=>yfc (R.2.most:Int) (qs.length:Int) (nbb:Int) A4 R.1.length c4 R.1 W h rfl Zq6)
        rw[hvr] at HVR
        clear hgc hvr
        go_upto_region 8 with (first|(go_at_call 62;refine(yea _ _ _ _ _ _ R.1 w5 RR5.out rfl Zq6).mono ?_;rintro e6 w6 ⟨rfl,b6,s6⟩;have lg6:=b6.size;obtain ⟨u0,u1,u2,u3⟩:=ycm ((b6.block _ (lt_of_block HH5.out)).trans HH5.out))|(go_at_call 63;refine(HVR.out w6 (RR5.out.below b6)).mono ?_;rintro e7 w7 ⟨rfl,b7,s7⟩))
        have w7Y:=hD ((b7.block _ Zq6).trans ((b6.block _ Zq6).trans w5Y.out))
        obtain ⟨r0,r1,r2,r3⟩:=ycm (w7Y.out)
        have f0:=yab (j:=0) w7Y.out
        have f1:=yab (j:=1) w7Y.out
        have f2:=yab (j:=2) w7Y.out
        have f3:=yab (j:=3) w7Y.out
        have lY:=lt_of_block w7Y.out
        go_wp2_with fail
        refine bodyPost_ret (v:=.tuple #[.agg #[.int .i64 0,.int .i64 0,.int .i64 0,.slice none 0 0],.int .i64 2]) (by simp [results,Tryz.results17,go_sem,r0,r1,r2,r3]) rfl ?_
        rw[HF.out]
        exact ⟨none,0,rfl,World.ownsRow_nil _ _ _ _,(B0.out.trans ((B5.out.trans ((b6.trans (b7.mono b6.size)).mono B5.out.size)).mono hs0)).trans (yco Zq6)⟩
       ·have HF:Hid (elaP d qs l=⟨R.2.most,qs.length,nbb,R.1,0⟩):=by show _=_;rw[HE.out,←HBL.out];exact ylw HBD.out hgc (by rw[HBL.out];exact hvr)
        have HVR:=hD (fun W (h:Rd W 8 A4 R.1.length (R.1.flatMap yan))=>yfc (R.2.most:Int) (qs.length:Int) (nbb:Int) A4 R.1.length c4 R.1 W h rfl Zq6)
        rw[hvr] at HVR
        clear hgc hvr
        go_upto_region 9 with (first|(go_at_call 62;refine(yea _ _ _ _ _ _ R.1 w5 RR5.out rfl Zq6).mono ?_;rintro e6 w6 ⟨rfl,b6,s6⟩;have lg6:=b6.size;obtain ⟨u0,u1,u2,u3⟩:=ycm ((b6.block _ (lt_of_block HH5.out)).trans HH5.out))|(go_at_call 63;refine(HVR.out w6 (RR5.out.below b6)).mono ?_;rintro e7 w7 ⟨rfl,b7,s7⟩))
        have w7Y:=hD ((b7.block _ Zq6).trans ((b6.block _ Zq6).trans w5Y.out))
        have w7G:=hD ((b7.block _ (by have:=lt_of_block HH5.out;omega)).trans ((b6.block _ (lt_of_block HH5.out)).trans HH5.out))
        have B7:=hD (B5.out.trans ((b6.trans (b7.mono b6.size)).mono B5.out.size))
        have O7:=hD (yat (yat O5.out b6) b7)
        clear q0 q1 q2 q3 u0 u1 u2 u3 b6 b7
        obtain ⟨q0,q1,q2,q3⟩:=ycm w7G.out
        obtain ⟨r0,r1,r2,r3⟩:=ycm w7Y.out
        have f0:=yab (j:=0) w7Y.out
        have f1:=yab (j:=1) w7Y.out
        have f2:=yab (j:=2) w7Y.out
        have f3:=yab (j:=3) w7Y.out
        have lY:=lt_of_block w7Y.out
        have lG:=lt_of_block w7G.out
        go_wp2_with fail
        refine bodyPost_ret (v:=.tuple #[.agg #[.int .i64 (R.2.most:Int),.int .i64 (qs.length:Int),.int .i64 (nbb:Int),.slice A4 R.1.length c4],.int .i64 0]) (by simp [results,Tryz.results17,go_sem,r0,r1,r2,r3]) rfl ?_
        rw[HF.out]
        exact ⟨A4,c4,rfl,ybd (ydv O7.out (grE (grE (grE (setE _) (setE _)) (setE _)) (setE _)) Zq6) Zq6,(B0.out.trans (B7.out.mono hs0)).trans (yco Zq6)⟩
     ·rw[hbad] at y3
      have HF:Hid (elaP d qs l=⟨0,0,0,[],2⟩):=by show _=_;rw[HE.out];exact yfi (.inl hbad)
      clear hbad
      go_upto_region 8 with (fail)
      obtain ⟨r0,r1,r2,r3⟩:=ycm (w5Y.out)
      have f0:=yab (j:=0) w5Y.out
      have f1:=yab (j:=1) w5Y.out
      have f2:=yab (j:=2) w5Y.out
      have f3:=yab (j:=3) w5Y.out
      have lY:=lt_of_block w5Y.out
      go_wp2_with fail
      refine bodyPost_ret (v:=.tuple #[.agg #[.int .i64 0,.int .i64 0,.int .i64 0,.slice none 0 0],.int .i64 2]) (by simp [results,Tryz.results17,go_sem,r0,r1,r2,r3]) rfl ?_
      rw[HF.out]
      exact ⟨none,0,rfl,World.ownsRow_nil _ _ _ _,(B0.out.trans (B5.out.mono hs0)).trans (yco Zq6)⟩
  ·have d0:(K.1==0)=false:=beq_eq_false_iff_ne.2 hk0
   have HF:Hid (elaP d qs l=⟨0,0,0,[],1⟩):=yiz (.inr (by rw[←HK.out];exact hk0))
   clear hk0
   go_upto_region 3 with (go_at_call 12;refine(HVS.out w1 RA1.out RB1.out).mono ?_;rintro e2 w2 ⟨rfl,b2,s2⟩)
   have w2Y:=hD ((b2.block _ Zq6).trans ((B1.out.block _ lY0).trans Y0.out))
   obtain ⟨r0,r1,r2,r3⟩:=ycm (w2Y.out)
   have f0:=yab (j:=0) w2Y.out
   have f1:=yab (j:=1) w2Y.out
   have f2:=yab (j:=2) w2Y.out
   have f3:=yab (j:=3) w2Y.out
   have lY:=lt_of_block w2Y.out
   go_wp2_with fail
   refine bodyPost_ret (v:=.tuple #[.agg #[.int .i64 0,.int .i64 0,.int .i64 0,.slice none 0 0],.int .i64 1]) (by simp [results,Tryz.results17,go_sem,r0,r1,r2,r3]) rfl ?_
   rw[HF.out]
   exact ⟨none,0,rfl,World.ownsRow_nil _ _ _ _,(B0.out.trans ((B1.out.trans (b2.mono B1.out.size)).mono hs0)).trans (yco Zq6)⟩
def GNb (M:Nat) (w:World):Prop:=M≤w.heap.size∧∃ A c,w.cell? ⟨0,0,none⟩=some (.slice A 13 c)∧0<M∧RdQ w (·<M) 1 A 13 (strs yio)
def EnvI (W:World) (E B:Nat) (vb:Value) (e:Es):Prop:=W.heap[E]?=some (.cells #[vb,.int .i64 (e.most:Int),.bool e.bad] 89 (0,0))∧W.ownsRow B 9 1 vb e.bits.length (strs e.bits)
def Mv (w:World) (vb vb':Value):Prop:=vb'.ownBlock=vb.ownBlock∨∃ k,vb'.ownBlock=some k∧w.heap.size≤k
section
variable {w W W':World} {E B M:Nat} {vb vb' vb'':Value} {e:Es} {P:Nat→Prop}
theorem GNb.below (h:GNb M w) (hb:Below M w W):GNb M W:=by
 obtain ⟨h1,A,c,g1,g2,g3⟩:=h
 exact ⟨Nat.le_trans h1 hb.size,A,c,(hb.cell (p:=⟨0,0,none⟩) g2).trans g1,g2,g3.keep (fun b hb1 hb2=>hb.block b hb1) hb.size⟩
theorem GNb.gn (h:GNb M w):GN w:=by
 obtain ⟨h1,A,c,g1,g2,g3⟩:=h
 exact ⟨A,c,g1,Nat.lt_of_lt_of_le g2 h1,g3.rd⟩
theorem GN.b (h:GN w):GNb w.heap.size w:=by
 obtain ⟨A,c,g1,g2,g3⟩:=h
 exact ⟨Nat.le_refl _,A,c,g1,g2,⟨g3.1,fun h0=>by obtain ⟨b,off,e,hb,hc⟩:=g3.2 h0;exact ⟨b,off,e,hb,hb,hc⟩⟩⟩
theorem GNb.mod (h:GNb M w) (hm:Mod E vb.ownBlock w W) (hE:M≤E) (hv:∀ k,vb.ownBlock=some k→M≤k):GNb M W:=h.below (hm.below h.1 hE hv)
theorem EnvI.lt (h:EnvI W E B vb e):E<W.heap.size:=lt_of_block h.1
theorem EnvI.below (h:EnvI W E B vb e) (hb:Below W.heap.size W W'):EnvI W' E B vb e:=⟨(hb.block E (lt_of_block h.1)).trans h.1,yat h.2 hb⟩
theorem EnvI.grown (h:EnvI W E B vb e) {r:Option Nat} (hg:W.grownBy W' r) (hE:r≠some E) (hv:∀ k,vb.ownBlock=some k→r≠some k):EnvI W' E B vb e :=
 ⟨(hg.block E (lt_of_block h.1) (fun e=>hE e.symm)).trans h.1,h.2.kept hg (by
  cases hk:vb.ownBlock with
  | none=>exact .inl rfl
  | some k=>exact .inr (fun e=>hv k hk e.symm))⟩
theorem yk8 {d n:Nat} {A:Option Addr} {l:List (Tr d)} (h:TrQ W P d A n l) (hm:Mod E vb.ownBlock W W') (hE:¬ P E) (hv:∀ k,vb.ownBlock=some k→¬ P k):TrQ W' P d A n l :=
 TrQ.keep (fun b hb hl=>hm.block b hl (fun e=>hE (e▸hb)) (fun e=>hv b e hb)) hm.size h
theorem yg8 {size n:Nat} {A:Option Addr} {xs:List Value} (h:RdQ W P size A n xs) (hm:Mod E vb.ownBlock W W') (hE:¬ P E) (hv:∀ k,vb.ownBlock=some k→¬ P k):RdQ W' P size A n xs :=
 h.keep (fun b hb hl=>hm.block b hl (fun e=>hE (e▸hb)) (fun e=>hv b e hb)) hm.size
theorem Mv.refl:Mv w vb vb:=.inl rfl
theorem Mv.trans (h:Mv w vb vb') (h':Mv W vb' vb'') (hs:w.heap.size≤W.heap.size):Mv w vb vb'':=by
 rcases h' with h'|⟨k,h1,h2⟩
 ·rcases h with h|⟨k,h1,h2⟩
  ·exact .inl (h'.trans h)
  ·exact .inr ⟨k,h'.trans h1,h2⟩
 ·exact .inr ⟨k,h1,Nat.le_trans hs h2⟩
theorem yby {b o:Nat} {u:Value} (hm:Mod E vb.ownBlock W W') (hb:b<W.heap.size) (hE:b≠E) (hv:vb.ownBlock≠some b) (h:W.cell? ⟨b,o,none⟩=some u):W'.cell? ⟨b,o,none⟩=some u:=by
 have:=hm.block b hb hE hv
 rw[←h]
 simp [World.cell?,this]
theorem yg9 {B1 B2 n m:Nat} {v:Value} {xs ys:List Value} (h1:W.ownsRow B1 104 8 v n xs) (h2:W.ownsRow B2 9 1 vb m ys):∀ k,vb.ownBlock=some k→v.ownBlock≠some k:=by
 intro k hk
 rcases h2.2 with ⟨rfl,_⟩|⟨g,cap,cur,rfl,_,hh,_⟩
 ·cases hk
 ·injection hk with hk
  subst hk
  exact yeq h1 hh Zq9
end
def ymb (w:World) (E B:Nat) (vb:Value) (r:List Opt × Es) (x:Ending) (w':World):Prop :=
 ∃ v vb',x=.returned v∧w'.ownsRow w.heap.size 104 8 v r.1.length (r.1.flatMap yan)∧EnvI w' E B vb' r.2∧Mod E vb.ownBlock w w'∧Mv w vb vb'
theorem yru {α:Type} {one:α→Es→List Opt × Es} (S:Nat):∀ (l:List α) (out:List Opt) (e:Es),(∀ s∈l,∀ e,(one s e).1.length≤S)→(e.bad=false→out.length≤120)→out.length≤120+S→(iL one l out e).1.length≤120+S:=by
 intro l
 induction l with
 | nil=>intro out e _ _ h;exact h
 | cons s l ih =>
  intro out e h h1 h2
  unfold iL
  split
  ·exact Nat.zero_le _
  ·rename_i hb
   have h3:=h1 (by simpa using hb)
   have h4:=h s (List.mem_cons_self ..) e
   refine ih _ _ (fun x hx=>h x (List.mem_cons_of_mem _ hx)) (fun hb'=>?_) (by rw[List.length_append];omega)
   have hb':((one s e).2.bad || decide (120<(out++(one s e).1).length))=false:=hb'
   rw[Bool.or_eq_false_iff] at hb'
   have:=of_decide_eq_false hb'.2
   omega
theorem ym9 {d m:Nat} {h:SH} {bd:List (Tr d)} {names:List ByteArray} {e:Es} (hm:hasB h.k=true→∀ names e,(iA d bd names e).1.length≤m) (hk:1≤h.k∧h.k≤7):(iS (iA d) h bd names e).1.length≤(if hasB h.k=true then 9*m+2 else 1):=by
 have h7:h.k=1∨h.k=2∨h.k=3∨h.k=4∨h.k=5∨h.k=6∨h.k=7:=by omega
 rcases h7 with e1|e1|e1|e1|e1|e1|e1
 ·rw[iS_1 e1,if_neg (by rw[e1];decide)];exact Nat.le_refl _
 ·have hb:hasB h.k=true:=by rw[e1];decide
  rw[iS_2 e1,if_pos hb]
  show(repO _ _).length≤_
  rw[yip]
  have:=Nat.mul_le_mul (yom h.count) (hm hb names e)
  omega
 ·have hb:hasB h.k=true:=by rw[e1];decide
  rw[iS_3 e1,if_pos hb]
  show(adjO _).length≤_
  rw[yf7]
  have:=hm hb names e
  omega
 ·have hb:hasB h.k=true:=by rw[e1];decide
  rw[iS_4 e1,if_pos hb]
  have:=yqc (ixI names (arg0 h)) (iA d bd names e).1
  have:=hm hb names e
  show(osL _ _).length≤_
  omega
 ·have hb:hasB h.k=true:=by rw[e1];decide
  rw[iS_5 e1,if_pos hb]
  have:=hm hb (names++[arg0 h]) e
  simp only[List.length_append,List.length_singleton]
  omega
 ·rw[iS_6 e1,if_neg (by rw[e1];decide)];exact Nat.le_refl _
 ·have hb:hasB h.k=true:=by rw[e1];decide
  rw[iS_7 e1,if_pos hb]
  have:=hm hb names e
  show((_:List Opt).map _).length≤_
  rw[List.length_map]
  omega
theorem yrv:∀ (d:Nat) (l:List (Tr d)) (names:List ByteArray) (e:Es),ya7 d l=true→(iA d l names e).1.length≤200*10 ^ ybf d l:=by
 intro d
 induction d with
 | zero=>intro l names e _;exact Nat.zero_le _
 | succ d ih =>
  intro l names e hv
  have hv':=yeu hv
  cases hN:ybf (d+1) l with
  | zero =>
   refine Nat.le_trans (yru 1 l [] _ (fun s hs e=>?_) (fun _=>Nat.zero_le _) (Nat.zero_le _)) Zq9
   have h1:=yhm hs
   have h2:=ym9 (d:=d) (m:=0) (h:=hdT s) (bd:=bdT s) (names:=names) (e:=e) (fun hb=>by rw[if_pos hb] at h1;omega) (ybp (hv' s hs)).1
   have h3:¬ hasB (hdT s).k=true:=fun hb=>by rw[if_pos hb] at h1;omega
   rwa [if_neg h3] at h2
  | succ N =>
   have hp:1≤10 ^ N:=Nat.pow_pos (n:=N) (show 0<10 by decide)
   refine Nat.le_trans (yru (9*(200*10 ^ N)+2) l [] _ (fun s hs e=>?_) (fun _=>Nat.zero_le _) (Nat.zero_le _)) (by rw[Nat.pow_succ];omega)
   have h1:=yhm hs
   have h2:=ym9 (d:=d) (m:=200*10 ^ N) (h:=hdT s) (bd:=bdT s) (names:=names) (e:=e) (fun hb names e=>by
    rw[if_pos hb] at h1
    exact Nat.le_trans (ih (bdT s) names e (ybp (hv' s hs)).2.2.2.2.2.2.2) (Nat.mul_le_mul_left _ (Nat.pow_le_pow_right Zq9 Zq6))) (ybp (hv' s hs)).1
   refine Nat.le_trans h2 ?_
   split <;> omega
theorem yga {d:Nat} {l:List (Tr d)} (names:List ByteArray) (e:Es) (hv:ya7 d l=true) (hn:ybf d l≤4):(iA d l names e).1.length≤2000000 :=
 Nat.le_trans (yrv d l names e hv) (Nat.le_trans (Nat.mul_le_mul_left _ (Nat.pow_le_pow_right Zq9 hn)) Zq9)
theorem yti {α:Type} {one:α→Es→List Opt × Es} (g:α→Nat) (h1:∀ s e,(one s e).2.bits.length≤e.bits.length+g s):∀ (l:List α) (out:List Opt) (e:Es),(iL one l out e).2.bits.length≤e.bits.length+(l.map g).sum:=by
 intro l
 induction l with
 | nil=>intro out e;exact Nat.le_add_right _ _
 | cons s l ih =>
  intro out e
  have a:=h1 s e
  have b:=ih (out++(one s e).1) ⟨(one s e).2.bits,(one s e).2.most,(one s e).2.bad || decide (120<(out++(one s e).1).length)⟩
  rw[List.map_cons,List.sum_cons]
  unfold iL
  split
  ·show e.bits.length≤_
   omega
  ·have b:_≤(one s e).2.bits.length+_:=b
   omega
theorem yow {d:Nat} {h:SH} {bd:List (Tr d)} {names:List ByteArray} {e:Es} (ih:∀ names (e:Es),(iA d bd names e).2.bits.length≤e.bits.length+szT d bd):(iS (iA d) h bd names e).2.bits.length≤e.bits.length+szT d bd+1:=by
 unfold iS
 repeat' split
 ·show e.bits.length≤_;omega
 ·have:=ih names e;show(iA d bd names e).2.bits.length≤_;omega
 ·have:=ih names e;show(iA d bd names e).2.bits.length≤_;omega
 ·have:=ih names e;show(iA d bd names e).2.bits.length≤_;omega
 ·have:=ih (names++[arg0 h]) e;show(iA d bd (names++[arg0 h]) e).2.bits.length≤_;exact Nat.le_trans this (Nat.le_succ _)
 ·show(e.bits++[arg1 h]).length≤_;rw[List.length_append];show e.bits.length+1≤_;omega
 ·have:=ih names e;show(iA d bd names e).2.bits.length≤_;omega
theorem yk9:∀ (d:Nat) (l:List (Tr d)) (names:List ByteArray) (e:Es),(iA d l names e).2.bits.length≤e.bits.length+szT d l:=by
 intro d
 induction d with
 | zero=>intro l names e;exact Nat.le_add_right _ _
 | succ d ih =>
  intro l names e
  have h:=yti (one:=fun s e=>iS (iA d) (hdT s) (bdT s) names e) (fun s=>szT d (bdT s)+1) (fun s e=>yow (fun n e=>ih _ n e)) l [] ⟨e.bits,max e.most names.length,e.bad⟩
  refine Nat.le_trans h (Nat.add_le_add_left ?_ _)
  rw[ybb]
  clear h
  induction l with
  | nil=>exact Nat.zero_le _
  | cons s l ihl =>
   have e1:sumE (s :: l)=szE s+sumE l:=by simp [sumE]
   have e2:szE s=(hdT s).word.size+((hdT s).args.length+szS (hdT s).args+szT d (bdT s)):=rfl
   rw[List.map_cons,List.sum_cons,List.length_cons,e1]
   omega
def OneI (d:Nat):Prop:=∀ (P:Nat→Prop) (h:SH) (bd:List (Tr d)) (Aa:Option Addr) (ca:Nat) (Ab:Option Addr) (nb cb E B M:Nat) (vb:Value) (An:Option Addr) (nn cn:Nat) (names:List ByteArray) (e:Es) (w:World),RdQ w P 1 Aa h.args.length (strs h.args)→TrQ w P d Ab nb bd→RdQ w P 1 An nn (strs names)→names.length=nn→vOne d (ya7 d) h bd=true→¬ P E→(∀ k,vb.ownBlock=some k→¬ P k)→EnvI w E B vb e→GNb M w→(M≤E∧E<B∧B≤w.heap.size) →
 (if hasB h.k then 1+ybf d bd else 0)≤4→names.length+(if hasB h.k then 1+ybf d bd else 0)≤1000→e.bits.length+szT d bd+1≤1048577 →
 Calls Tryz.prog 120 #[.pointer (some ⟨E,0,none⟩),.agg #[.int .i64 h.k,.string h.word,.slice Aa h.args.length ca,.int .i64 h.count,.slice Ab nb cb],.slice An nn cn] w (ymb w E B vb (iS (iA d) h bd names e))
def ymc (d:Nat):Prop:=∀ (P:Nat→Prop) (l:List (Tr d)) (A:Option Addr) (n c E B M:Nat) (vb:Value) (An:Option Addr) (nn cn:Nat) (names:List ByteArray) (e:Es) (w:World),TrQ w P d A n l→RdQ w P 1 An nn (strs names)→names.length=nn→ya7 d l=true→¬ P E→(∀ k,vb.ownBlock=some k→¬ P k)→EnvI w E B vb e→GNb M w→(M≤E∧E<B∧B≤w.heap.size) →
 ybf d l≤4→names.length+ybf d l≤1000→e.bits.length+szT d l≤1048577 →
 Calls Tryz.prog 67 #[.pointer (some ⟨E,0,none⟩),.slice A n c,.slice An nn cn] w (ymb w E B vb (iA d l names e))
end Go.Proofs.YthkbckkghnbonaaGreatDoor
