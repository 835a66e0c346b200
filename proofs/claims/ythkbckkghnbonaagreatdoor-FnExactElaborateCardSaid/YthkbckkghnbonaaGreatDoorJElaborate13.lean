/- What the calls that this law reaches answer, part 13 of 16. -/
import Derived.Test.YthkbckkghnbonaaGreatDoorJElaborate12
import Derived.Test.YthkbckkghnbonaaGreatDoorJElaborate10
import Derived.Test.YthkbckkghnbonaaGreatDoorJElaborate6
set_option maxRecDepth 100000
set_option maxHeartbeats 16000000
set_option linter.unusedVariables false
namespace Go.Proofs.YthkbckkghnbonaaGreatDoor
open Go.RowKit
set_option linter.unusedVariables false
theorem bdrew {w w':World} (h:Below w.drew.heap.size w.drew w'):Below w.heap.size w w':=⟨h.os,h.tape,h.output,h.size,h.block⟩
def pgR (c1 c2 c3:Bool) (N T m:Nat):Bool:=c1&&(c2&&(c3&&(decide (N≤4)&&decide (T+m+2≤160))))
def progV (d:Nat) (qs:List ByteArray) (bd:List (Tr d)):Bool:=pgR (inB qs.length 1 4) (allW qs) (validT d bd) (nestT d bd) (tokT d bd) qs.length
theorem pgm_spec_1 (Aq:Option Addr) (m cq:Nat) (Ab:Option Addr) (nb cb:Nat) (w:World) (c1 c2 c3:Bool) (N T:Nat) (hm:m≤1048576) (hT0:T≤8388608) (hc1:c1=false)
  (h1:∀ w',Calls Tryz.prog 47 #[.int .i64 m,.int .i64 1,.int .i64 4] w' fun e w''=>e=.returned (.bool c1)∧w'=w'')
  (h2:∀ w',Below w.heap.size w w'→Calls Tryz.prog 48 #[.slice Aq m cq] w' fun e w''=>e=.returned (.bool c2)∧w'=w'')
  (h3:∀ w',Below w.heap.size w w'→Calls Tryz.prog 49 #[.slice Ab nb cb] w' fun e w''=>e=.returned (.bool c3)∧Below w'.heap.size w' w''∧w'.heap.size≤w''.heap.size)
  (h4:∀ w',Below w.heap.size w w'→Calls Tryz.prog 50 #[.slice Ab nb cb] w' fun e w''=>e=.returned (.int .i64 N)∧Below w'.heap.size w' w''∧w'.heap.size≤w''.heap.size)
  (h5:∀ w',Below w.heap.size w w'→Calls Tryz.prog 51 #[.slice Ab nb cb] w' fun e w''=>e=.returned (.int .i64 T)∧Below w'.heap.size w' w''∧w'.heap.size≤w''.heap.size) :
  Calls Tryz.prog 12 #[.agg #[.slice Aq m cq,.slice Ab nb cb]] w fun e w'=>e=.returned (.bool (pgR c1 c2 c3 N T m))∧Below w.heap.size w w'∧w.heap.size≤w'.heap.size:=by
 subst hc1
 obtain ⟨w0,hw0⟩:∃ w0,w0=w.alloc (.cells #[.slice Aq m cq,.slice Ab nb cb] 27):=⟨_,rfl⟩
 have X0:=hD (show w0.heap[w.heap.size]?=some (.cells #[.slice Aq m cq,.slice Ab nb cb] 27 (0,0)) by rw[hw0];exact boxed1_0 _ _)
 have b0:Below w.heap.size w w0:=by rw[hw0];exact Zq0
 have hs0:w.heap.size≤w0.heap.size:=b0.size
 obtain ⟨p0,p1⟩:=boxcells2 (lay:=Below.refl _ _) X0.out
 have B0:=hD b0
 have HW:=hD hw0
 have H1:=hD h1
 have H2:=hD h2
 have H3:=hD h3
 have H4:=hD h4
 have H5:=hD h5
 clear b0 hw0 h1 h2 h3 h4 h5
 have HF:=hD (show pgR false c2 c3 N T m=false by simp [pgR])
 go_enter Tryz.func12,Tryz.ntmps12
 go_wp2_with fail
 rw[←HW.out]
 go_quiet (first|(go_at_call 47;exact Calls.quiet_of_same ((H1.out _).mono fun _ _ h=>⟨h.1,h.2.symm⟩)))
 go_wp2_with fail
 go_ret
 exact ⟨by rw[HF.out];rfl,below_drewN B0.out _,(below_drewN B0.out _).size⟩
theorem pgm_spec_2 (Aq:Option Addr) (m cq:Nat) (Ab:Option Addr) (nb cb:Nat) (w:World) (c1 c2 c3:Bool) (N T:Nat) (hm:m≤1048576) (hT0:T≤8388608) (hc1:c1=true) (hc2:c2=false)
  (h1:∀ w',Calls Tryz.prog 47 #[.int .i64 m,.int .i64 1,.int .i64 4] w' fun e w''=>e=.returned (.bool c1)∧w'=w'')
  (h2:∀ w',Below w.heap.size w w'→Calls Tryz.prog 48 #[.slice Aq m cq] w' fun e w''=>e=.returned (.bool c2)∧w'=w'')
  (h3:∀ w',Below w.heap.size w w'→Calls Tryz.prog 49 #[.slice Ab nb cb] w' fun e w''=>e=.returned (.bool c3)∧Below w'.heap.size w' w''∧w'.heap.size≤w''.heap.size)
  (h4:∀ w',Below w.heap.size w w'→Calls Tryz.prog 50 #[.slice Ab nb cb] w' fun e w''=>e=.returned (.int .i64 N)∧Below w'.heap.size w' w''∧w'.heap.size≤w''.heap.size)
  (h5:∀ w',Below w.heap.size w w'→Calls Tryz.prog 51 #[.slice Ab nb cb] w' fun e w''=>e=.returned (.int .i64 T)∧Below w'.heap.size w' w''∧w'.heap.size≤w''.heap.size) :
  Calls Tryz.prog 12 #[.agg #[.slice Aq m cq,.slice Ab nb cb]] w fun e w'=>e=.returned (.bool (pgR c1 c2 c3 N T m))∧Below w.heap.size w w'∧w.heap.size≤w'.heap.size:=by
 subst hc1
 subst hc2
 obtain ⟨w0,hw0⟩:∃ w0,w0=w.alloc (.cells #[.slice Aq m cq,.slice Ab nb cb] 27):=⟨_,rfl⟩
 have X0:=hD (show w0.heap[w.heap.size]?=some (.cells #[.slice Aq m cq,.slice Ab nb cb] 27 (0,0)) by rw[hw0];exact boxed1_0 _ _)
 have b0:Below w.heap.size w w0:=by rw[hw0];exact Zq0
 have hs0:w.heap.size≤w0.heap.size:=b0.size
 obtain ⟨p0,p1⟩:=boxcells2 (lay:=Below.refl _ _) X0.out
 have B0:=hD b0
 have HW:=hD hw0
 have H1:=hD h1
 have H2:=hD h2
 have H3:=hD h3
 have H4:=hD h4
 have H5:=hD h5
 clear b0 hw0 h1 h2 h3 h4 h5
 have HF:=hD (show pgR true false c3 N T m=false by simp [pgR])
 go_enter Tryz.func12,Tryz.ntmps12
 go_wp2_with fail
 rw[←HW.out]
 go_quiet (first|(go_at_call 47;exact Calls.quiet_of_same ((H1.out _).mono fun _ _ h=>⟨h.1,h.2.symm⟩))|(go_at_call 48;exact Calls.quiet_of_same ((H2.out _ (below_drewN B0.out _)).mono fun _ _ h=>⟨h.1,h.2.symm⟩)))
 go_wp2_with fail
 go_ret
 exact ⟨by rw[HF.out];rfl,below_drewN B0.out _,(below_drewN B0.out _).size⟩
theorem pgm_spec_3 (Aq:Option Addr) (m cq:Nat) (Ab:Option Addr) (nb cb:Nat) (w:World) (c1 c2 c3:Bool) (N T:Nat) (hm:m≤1048576) (hT0:T≤8388608) (hc1:c1=true) (hc2:c2=true) (hc3:c3=false)
  (h1:∀ w',Calls Tryz.prog 47 #[.int .i64 m,.int .i64 1,.int .i64 4] w' fun e w''=>e=.returned (.bool c1)∧w'=w'')
  (h2:∀ w',Below w.heap.size w w'→Calls Tryz.prog 48 #[.slice Aq m cq] w' fun e w''=>e=.returned (.bool c2)∧w'=w'')
  (h3:∀ w',Below w.heap.size w w'→Calls Tryz.prog 49 #[.slice Ab nb cb] w' fun e w''=>e=.returned (.bool c3)∧Below w'.heap.size w' w''∧w'.heap.size≤w''.heap.size)
  (h4:∀ w',Below w.heap.size w w'→Calls Tryz.prog 50 #[.slice Ab nb cb] w' fun e w''=>e=.returned (.int .i64 N)∧Below w'.heap.size w' w''∧w'.heap.size≤w''.heap.size)
  (h5:∀ w',Below w.heap.size w w'→Calls Tryz.prog 51 #[.slice Ab nb cb] w' fun e w''=>e=.returned (.int .i64 T)∧Below w'.heap.size w' w''∧w'.heap.size≤w''.heap.size) :
  Calls Tryz.prog 12 #[.agg #[.slice Aq m cq,.slice Ab nb cb]] w fun e w'=>e=.returned (.bool (pgR c1 c2 c3 N T m))∧Below w.heap.size w w'∧w.heap.size≤w'.heap.size:=by
 subst hc1
 subst hc2
 subst hc3
 obtain ⟨w0,hw0⟩:∃ w0,w0=w.alloc (.cells #[.slice Aq m cq,.slice Ab nb cb] 27):=⟨_,rfl⟩
 have X0:=hD (show w0.heap[w.heap.size]?=some (.cells #[.slice Aq m cq,.slice Ab nb cb] 27 (0,0)) by rw[hw0];exact boxed1_0 _ _)
 have b0:Below w.heap.size w w0:=by rw[hw0];exact Zq0
 have hs0:w.heap.size≤w0.heap.size:=b0.size
 obtain ⟨p0,p1⟩:=boxcells2 (lay:=Below.refl _ _) X0.out
 have B0:=hD b0
 have HW:=hD hw0
 have H1:=hD h1
 have H2:=hD h2
 have H3:=hD h3
 have H4:=hD h4
 have H5:=hD h5
 clear b0 hw0 h1 h2 h3 h4 h5
 have HF:=hD (show pgR true true false N T m=false by simp [pgR])
 go_enter Tryz.func12,Tryz.ntmps12
 go_wp2_with fail
 rw[←HW.out]
 first | (go_region_with (first | (go_at_call 47; (with_reducible refine (H1.out _).mono ?_); rintro e w' ⟨rfl, rfl⟩) | (go_at_call 48; (with_reducible refine (H2.out _ ?_).mono ?_); exact B0.out.drew; rintro e w' ⟨rfl, rfl⟩) | (go_at_call 49; (with_reducible refine (H3.out _ ?_).mono ?_); exact B0.out.drew; rintro e y3 ⟨rfl, d3, _⟩; have u3 := bdrew d3; obtain ⟨a0, a1⟩ := boxcells2 (lay := u3) X0.out))) | fail "no"
 all_goals (go_wp2_with fail;go_ret;exact ⟨by rw[HF.out];first|rfl|exact congrArg (fun b=>Ending.returned (Value.bool b)) HTw.out,B0.out.trans (u3.mono hs0),(B0.out.trans (u3.mono hs0)).size⟩)
theorem pgm_spec_4 (Aq:Option Addr) (m cq:Nat) (Ab:Option Addr) (nb cb:Nat) (w:World) (c1 c2 c3:Bool) (N T:Nat) (hm:m≤1048576) (hT0:T≤8388608) (hc1:c1=true) (hc2:c2=true) (hc3:c3=true) (hN:¬ N≤4)
  (h1:∀ w',Calls Tryz.prog 47 #[.int .i64 m,.int .i64 1,.int .i64 4] w' fun e w''=>e=.returned (.bool c1)∧w'=w'')
  (h2:∀ w',Below w.heap.size w w'→Calls Tryz.prog 48 #[.slice Aq m cq] w' fun e w''=>e=.returned (.bool c2)∧w'=w'')
  (h3:∀ w',Below w.heap.size w w'→Calls Tryz.prog 49 #[.slice Ab nb cb] w' fun e w''=>e=.returned (.bool c3)∧Below w'.heap.size w' w''∧w'.heap.size≤w''.heap.size)
  (h4:∀ w',Below w.heap.size w w'→Calls Tryz.prog 50 #[.slice Ab nb cb] w' fun e w''=>e=.returned (.int .i64 N)∧Below w'.heap.size w' w''∧w'.heap.size≤w''.heap.size)
  (h5:∀ w',Below w.heap.size w w'→Calls Tryz.prog 51 #[.slice Ab nb cb] w' fun e w''=>e=.returned (.int .i64 T)∧Below w'.heap.size w' w''∧w'.heap.size≤w''.heap.size) :
  Calls Tryz.prog 12 #[.agg #[.slice Aq m cq,.slice Ab nb cb]] w fun e w'=>e=.returned (.bool (pgR c1 c2 c3 N T m))∧Below w.heap.size w w'∧w.heap.size≤w'.heap.size:=by
 subst hc1
 subst hc2
 subst hc3
 have hNi:decide ((N:Int)≤4)=false:=by simp;omega
 have hNn:decide (N≤4)=false:=by simp;omega
 obtain ⟨w0,hw0⟩:∃ w0,w0=w.alloc (.cells #[.slice Aq m cq,.slice Ab nb cb] 27):=⟨_,rfl⟩
 have X0:=hD (show w0.heap[w.heap.size]?=some (.cells #[.slice Aq m cq,.slice Ab nb cb] 27 (0,0)) by rw[hw0];exact boxed1_0 _ _)
 have b0:Below w.heap.size w w0:=by rw[hw0];exact Zq0
 have hs0:w.heap.size≤w0.heap.size:=b0.size
 obtain ⟨p0,p1⟩:=boxcells2 (lay:=Below.refl _ _) X0.out
 have B0:=hD b0
 have HW:=hD hw0
 have H1:=hD h1
 have H2:=hD h2
 have H3:=hD h3
 have H4:=hD h4
 have H5:=hD h5
 clear b0 hw0 h1 h2 h3 h4 h5
 have HF:=hD (show pgR true true true N T m=false by simp [pgR,hN])
 go_enter Tryz.func12,Tryz.ntmps12
 go_wp2_with fail
 rw[←HW.out]
 first | (go_region_with (first | (go_at_call 47; (with_reducible refine (H1.out _).mono ?_); rintro e w' ⟨rfl, rfl⟩) | (go_at_call 48; (with_reducible refine (H2.out _ ?_).mono ?_); exact B0.out.drew; rintro e w' ⟨rfl, rfl⟩) | (go_at_call 49; (with_reducible refine (H3.out _ ?_).mono ?_); exact B0.out.drew; rintro e y3 ⟨rfl, d3, _⟩; have u3 := bdrew d3; obtain ⟨a0, a1⟩ := boxcells2 (lay := u3) X0.out) | (go_at_call 50; (with_reducible refine (H4.out _ ?_).mono ?_); exact B0.out.trans (u3.mono hs0); rintro e y4 ⟨rfl, d4, _⟩; have u4 := u3.trans (d4.mono u3.size); obtain ⟨a2, a3⟩ := boxcells2 (lay := u4) X0.out))) | fail "no"
 all_goals (go_wp2_with fail;go_ret;exact ⟨by rw[HF.out];first|rfl|exact congrArg (fun b=>Ending.returned (Value.bool b)) HTw.out,B0.out.trans (u4.mono hs0),(B0.out.trans (u4.mono hs0)).size⟩)
theorem pgm_spec_5 (Aq:Option Addr) (m cq:Nat) (Ab:Option Addr) (nb cb:Nat) (w:World) (c1 c2 c3:Bool) (N T:Nat) (hm:m≤1048576) (hT0:T≤8388608) (hc1:c1=true) (hc2:c2=true) (hc3:c3=true) (hN:N≤4) (hT:¬ T+m+2≤160)
  (h1:∀ w',Calls Tryz.prog 47 #[.int .i64 m,.int .i64 1,.int .i64 4] w' fun e w''=>e=.returned (.bool c1)∧w'=w'')
  (h2:∀ w',Below w.heap.size w w'→Calls Tryz.prog 48 #[.slice Aq m cq] w' fun e w''=>e=.returned (.bool c2)∧w'=w'')
  (h3:∀ w',Below w.heap.size w w'→Calls Tryz.prog 49 #[.slice Ab nb cb] w' fun e w''=>e=.returned (.bool c3)∧Below w'.heap.size w' w''∧w'.heap.size≤w''.heap.size)
  (h4:∀ w',Below w.heap.size w w'→Calls Tryz.prog 50 #[.slice Ab nb cb] w' fun e w''=>e=.returned (.int .i64 N)∧Below w'.heap.size w' w''∧w'.heap.size≤w''.heap.size)
  (h5:∀ w',Below w.heap.size w w'→Calls Tryz.prog 51 #[.slice Ab nb cb] w' fun e w''=>e=.returned (.int .i64 T)∧Below w'.heap.size w' w''∧w'.heap.size≤w''.heap.size) :
  Calls Tryz.prog 12 #[.agg #[.slice Aq m cq,.slice Ab nb cb]] w fun e w'=>e=.returned (.bool (pgR c1 c2 c3 N T m))∧Below w.heap.size w w'∧w.heap.size≤w'.heap.size:=by
 subst hc1
 subst hc2
 subst hc3
 have hNi:decide ((N:Int)≤4)=true:=by simp;omega
 have hNn:decide (N≤4)=true:=by simp;omega
 have HTw:=hD (show decide (IntKind.i64.wrap (IntKind.i64.wrap ((T:Int)+(m:Int))+2)≤160)=false by rw[IntWalk.i64_in ((T:Int)+(m:Int)) Zq6,IntWalk.i64_in _ Zq6];simp;omega)
 have hTi:decide ((T:Int)+(m:Int)+2≤160)=false:=by simp;omega
 have hTj:decide ((T:Int)+(m:Int)≤158)=false:=by simp;omega
 obtain ⟨w0,hw0⟩:∃ w0,w0=w.alloc (.cells #[.slice Aq m cq,.slice Ab nb cb] 27):=⟨_,rfl⟩
 have X0:=hD (show w0.heap[w.heap.size]?=some (.cells #[.slice Aq m cq,.slice Ab nb cb] 27 (0,0)) by rw[hw0];exact boxed1_0 _ _)
 have b0:Below w.heap.size w w0:=by rw[hw0];exact Zq0
 have hs0:w.heap.size≤w0.heap.size:=b0.size
 obtain ⟨p0,p1⟩:=boxcells2 (lay:=Below.refl _ _) X0.out
 have B0:=hD b0
 have HW:=hD hw0
 have H1:=hD h1
 have H2:=hD h2
 have H3:=hD h3
 have H4:=hD h4
 have H5:=hD h5
 clear b0 hw0 h1 h2 h3 h4 h5
 have HF:=hD (show pgR true true true N T m=false by simp [pgR,hN,hT])
 go_enter Tryz.func12,Tryz.ntmps12
 go_wp2_with fail
 rw[←HW.out]
 first | (go_region_held3 (fun W => W.cell? ⟨w.heap.size, 0, none⟩ = some (.slice Aq m cq) ∧ W.cell? ⟨w.heap.size, 1, none⟩ = some (.slice Ab nb cb)) (first | exact ⟨p0, p1⟩ | exact ⟨a0, a1⟩ | exact ⟨a2, a3⟩ | exact ⟨a4, a5⟩) (first | (go_at_call 47; (with_reducible refine (H1.out _).mono ?_); rintro e w' ⟨rfl, rfl⟩) | (go_at_call 48; (with_reducible refine (H2.out _ ?_).mono ?_); exact B0.out.drew; rintro e w' ⟨rfl, rfl⟩) | (go_at_call 49; (with_reducible refine (H3.out _ ?_).mono ?_); exact B0.out.drew; rintro e y3 ⟨rfl, d3, _⟩; have u3 := bdrew d3; obtain ⟨a0, a1⟩ := boxcells2 (lay := u3) X0.out) | (go_at_call 50; (with_reducible refine (H4.out _ ?_).mono ?_); exact B0.out.trans (u3.mono hs0); rintro e y4 ⟨rfl, d4, _⟩; have u4 := u3.trans (d4.mono u3.size); obtain ⟨a2, a3⟩ := boxcells2 (lay := u4) X0.out) | (go_at_call 51; (with_reducible refine (H5.out _ ?_).mono ?_); exact B0.out.trans (u4.mono hs0); rintro e y5 ⟨rfl, d5, _⟩; have u5 := u4.trans (d5.mono u4.size); obtain ⟨a4, a5⟩ := boxcells2 (lay := u5) X0.out))) | fail "no"
 all_goals (go_wp2_with fail;go_ret;exact ⟨by rw[HF.out];first|rfl|exact congrArg (fun b=>Ending.returned (Value.bool b)) HTw.out,B0.out.trans (u5.mono hs0),(B0.out.trans (u5.mono hs0)).size⟩)
theorem pgm_spec_6 (Aq:Option Addr) (m cq:Nat) (Ab:Option Addr) (nb cb:Nat) (w:World) (c1 c2 c3:Bool) (N T:Nat) (hm:m≤1048576) (hT0:T≤8388608) (hc1:c1=true) (hc2:c2=true) (hc3:c3=true) (hN:N≤4) (hT:T+m+2≤160)
  (h1:∀ w',Calls Tryz.prog 47 #[.int .i64 m,.int .i64 1,.int .i64 4] w' fun e w''=>e=.returned (.bool c1)∧w'=w'')
  (h2:∀ w',Below w.heap.size w w'→Calls Tryz.prog 48 #[.slice Aq m cq] w' fun e w''=>e=.returned (.bool c2)∧w'=w'')
  (h3:∀ w',Below w.heap.size w w'→Calls Tryz.prog 49 #[.slice Ab nb cb] w' fun e w''=>e=.returned (.bool c3)∧Below w'.heap.size w' w''∧w'.heap.size≤w''.heap.size)
  (h4:∀ w',Below w.heap.size w w'→Calls Tryz.prog 50 #[.slice Ab nb cb] w' fun e w''=>e=.returned (.int .i64 N)∧Below w'.heap.size w' w''∧w'.heap.size≤w''.heap.size)
  (h5:∀ w',Below w.heap.size w w'→Calls Tryz.prog 51 #[.slice Ab nb cb] w' fun e w''=>e=.returned (.int .i64 T)∧Below w'.heap.size w' w''∧w'.heap.size≤w''.heap.size) :
  Calls Tryz.prog 12 #[.agg #[.slice Aq m cq,.slice Ab nb cb]] w fun e w'=>e=.returned (.bool (pgR c1 c2 c3 N T m))∧Below w.heap.size w w'∧w.heap.size≤w'.heap.size:=by
 subst hc1
 subst hc2
 subst hc3
 have hNi:decide ((N:Int)≤4)=true:=by simp;omega
 have hNn:decide (N≤4)=true:=by simp;omega
 have HTw:=hD (show decide (IntKind.i64.wrap (IntKind.i64.wrap ((T:Int)+(m:Int))+2)≤160)=true by rw[IntWalk.i64_in ((T:Int)+(m:Int)) Zq6,IntWalk.i64_in _ Zq6];simp;omega)
 have hTi:decide ((T:Int)+(m:Int)+2≤160)=true:=by simp;omega
 have hTj:decide ((T:Int)+(m:Int)≤158)=true:=by simp;omega
 obtain ⟨w0,hw0⟩:∃ w0,w0=w.alloc (.cells #[.slice Aq m cq,.slice Ab nb cb] 27):=⟨_,rfl⟩
 have X0:=hD (show w0.heap[w.heap.size]?=some (.cells #[.slice Aq m cq,.slice Ab nb cb] 27 (0,0)) by rw[hw0];exact boxed1_0 _ _)
 have b0:Below w.heap.size w w0:=by rw[hw0];exact Zq0
 have hs0:w.heap.size≤w0.heap.size:=b0.size
 obtain ⟨p0,p1⟩:=boxcells2 (lay:=Below.refl _ _) X0.out
 have B0:=hD b0
 have HW:=hD hw0
 have H1:=hD h1
 have H2:=hD h2
 have H3:=hD h3
 have H4:=hD h4
 have H5:=hD h5
 clear b0 hw0 h1 h2 h3 h4 h5
 have HF:=hD (show pgR true true true N T m=true by simp [pgR,hN,hT])
 go_enter Tryz.func12,Tryz.ntmps12
 go_wp2_with fail
 rw[←HW.out]
 first | (go_region_held3 (fun W => W.cell? ⟨w.heap.size, 0, none⟩ = some (.slice Aq m cq) ∧ W.cell? ⟨w.heap.size, 1, none⟩ = some (.slice Ab nb cb)) (first | exact ⟨p0, p1⟩ | exact ⟨a0, a1⟩ | exact ⟨a2, a3⟩ | exact ⟨a4, a5⟩) (first | (go_at_call 47; (with_reducible refine (H1.out _).mono ?_); rintro e w' ⟨rfl, rfl⟩) | (go_at_call 48; (with_reducible refine (H2.out _ ?_).mono ?_); exact B0.out.drew; rintro e w' ⟨rfl, rfl⟩) | (go_at_call 49; (with_reducible refine (H3.out _ ?_).mono ?_); exact B0.out.drew; rintro e y3 ⟨rfl, d3, _⟩; have u3 := bdrew d3; obtain ⟨a0, a1⟩ := boxcells2 (lay := u3) X0.out) | (go_at_call 50; (with_reducible refine (H4.out _ ?_).mono ?_); exact B0.out.trans (u3.mono hs0); rintro e y4 ⟨rfl, d4, _⟩; have u4 := u3.trans (d4.mono u3.size); obtain ⟨a2, a3⟩ := boxcells2 (lay := u4) X0.out) | (go_at_call 51; (with_reducible refine (H5.out _ ?_).mono ?_); exact B0.out.trans (u4.mono hs0); rintro e y5 ⟨rfl, d5, _⟩; have u5 := u4.trans (d5.mono u4.size); obtain ⟨a4, a5⟩ := boxcells2 (lay := u5) X0.out))) | fail "no"
 all_goals (go_wp2_with fail;go_ret;exact ⟨by rw[HF.out];first|rfl|exact congrArg (fun b=>Ending.returned (Value.bool b)) HTw.out,B0.out.trans (u5.mono hs0),(B0.out.trans (u5.mono hs0)).size⟩)
theorem IsValidProgram_spec (d lo lo':Nat) (Aq:Option Addr) (cq:Nat) (qs:List ByteArray) (bd:List (Tr d)) (Ab:Option Addr) (nb cb:Nat) (w:World) (hra:RdL w lo 1 Aq qs.length (strs qs)) (hrb:RdT w lo' d Ab nb bd) (hm:qs.length≤1048576) (hz:szS qs≤1048576) (hsz:szT d bd≤1048576) :
  Calls Tryz.prog 12 #[.agg #[.slice Aq qs.length cq,.slice Ab nb cb]] w fun e w'=>e=.returned (.bool (progV d qs bd))∧Below w.heap.size w w'∧w.heap.size≤w'.heap.size:=by
 have h1:∀ w',Calls Tryz.prog 47 #[.int .i64 qs.length,.int .i64 1,.int .i64 4] w' fun e w''=>e=.returned (.bool (inB qs.length 1 4))∧w'=w'':=fun w'=>l1In_any _ _ _ _
 have h2:∀ w',Below w.heap.size w w'→Calls Tryz.prog 48 #[.slice Aq qs.length cq] w' fun e w''=>e=.returned (.bool (allW qs))∧w'=w'':=fun w' hb=>l17Words_any _ _ _ qs _ (hra.rd.below hb) rfl Zq6 hz
 have h3:∀ w',Below w.heap.size w w'→Calls Tryz.prog 49 #[.slice Ab nb cb] w' fun e w''=>e=.returned (.bool (validT d bd))∧Below w'.heap.size w' w''∧w'.heap.size≤w''.heap.size:=fun w' hb=>l17All_any d _ _ _ _ _ _ (hrb.below hb) hsz
 have h4:∀ w',Below w.heap.size w w'→Calls Tryz.prog 50 #[.slice Ab nb cb] w' fun e w''=>e=.returned (.int .i64 (nestT d bd))∧Below w'.heap.size w' w''∧w'.heap.size≤w''.heap.size:=fun w' hb=>NestingDepth_spec d _ _ _ _ _ _ (hrb.below hb) hsz
 have h5:∀ w',Below w.heap.size w w'→Calls Tryz.prog 51 #[.slice Ab nb cb] w' fun e w''=>e=.returned (.int .i64 (tokT d bd))∧Below w'.heap.size w' w''∧w'.heap.size≤w''.heap.size:=fun w' hb=>StmtTokenCount_spec d _ _ _ _ _ _ (hrb.below hb) hsz
 have hT:=tokT_le d bd
 unfold progV
 cases hc1:inB qs.length 1 4
 ·exact pgm_spec_1 _ _ _ _ _ _ w _ _ _ _ _ hm Zq6 rfl (hc1▸h1) h2 h3 h4 h5
 cases hc2:allW qs
 ·exact pgm_spec_2 _ _ _ _ _ _ w _ _ _ _ _ hm Zq6 rfl rfl (hc1▸h1) (hc2▸h2) h3 h4 h5
 cases hc3:validT d bd
 ·exact pgm_spec_3 _ _ _ _ _ _ w _ _ _ _ _ hm Zq6 rfl rfl rfl (hc1▸h1) (hc2▸h2) (hc3▸h3) h4 h5
 by_cases hN:nestT d bd≤4
 ·by_cases hT':tokT d bd+qs.length+2≤160
  ·exact pgm_spec_6 _ _ _ _ _ _ w _ _ _ _ _ hm Zq6 rfl rfl rfl hN hT' (hc1▸h1) (hc2▸h2) (hc3▸h3) h4 h5
  ·exact pgm_spec_5 _ _ _ _ _ _ w _ _ _ _ _ hm Zq6 rfl rfl rfl hN hT' (hc1▸h1) (hc2▸h2) (hc3▸h3) h4 h5
 ·exact pgm_spec_4 _ _ _ _ _ _ w _ _ _ _ _ hm Zq6 rfl rfl rfl hN (hc1▸h1) (hc2▸h2) (hc3▸h3) h4 h5
theorem pgR_w {c1 V:Bool} {N T m t:Nat} {qs:List ByteArray} {s:ByteArray} (hs:qs[t]?=some s) (h:wordOk s=false):pgR c1 (allW qs) V N T m=false:=by
 have:qs.all wordOk=false:=by
  rw[List.all_eq_false]
  exact ⟨s,List.mem_of_getElem? hs,by simp [h]⟩
 have e:allW qs=false:=this
 rw[e]
 cases c1 <;> rfl
theorem pgR_b {c1 c2:Bool} {N T m t:Nat} {rs:List Bool} (hs:rs[t]?=some false):pgR c1 c2 (rs.all id) N T m=false:=by
 have:rs.all id=false:=by
  rw[List.all_eq_false]
  exact ⟨false,List.mem_of_getElem? hs,by simp⟩
 rw[this]
 cases c1 <;> cases c2 <;> rfl
theorem pgm_impl_1 (Aq:Option Addr) (m cq:Nat) (qs:List ByteArray) (Ab:Option Addr) (nb cb:Nat) (rs:List Bool) (w:World) (c1:Bool) (N T:Nat) (hmq:qs.length=m) (hm:m≤1048576) (hT0:T≤8388608) (hra:Rd w 1 Aq m (strs qs)) (hz:szS qs≤1048576) (hn:nb≤1048576) (hrs:rs.length=nb) (hel:Elts 43 w Ab nb rs) (hc1:c1=false)
  (h1:∀ w',Calls Tryz.prog 44 #[.int .i64 m,.int .i64 1,.int .i64 4] w' fun e w''=>e=.returned (.bool c1)∧w'=w'')
  (h4:∀ w',Below w.heap.size w w'→Calls Tryz.prog 45 #[.slice Ab nb cb] w' fun e w''=>e=.returned (.int .i64 N)∧Below w'.heap.size w' w''∧w'.heap.size≤w''.heap.size)
  (h5:∀ w',Below w.heap.size w w'→Calls Tryz.prog 46 #[.slice Ab nb cb] w' fun e w''=>e=.returned (.int .i64 T)∧Below w'.heap.size w' w''∧w'.heap.size≤w''.heap.size) :
  Calls Tryz.prog 11 #[.agg #[.slice Aq m cq,.slice Ab nb cb]] w fun e w'=>e=.returned (.bool (pgR c1 (allW qs) (rs.all id) N T m))∧Below w.heap.size w w'∧w.heap.size≤w'.heap.size:=by
 subst hc1
 have HM:=hD hmq
 have HRA:=hD hra
 have HEL:=hD hel
 have HRS:=hD hrs
 have H1:=hD h1
 have H4:=hD h4
 have H5:=hD h5
 clear hra hel hrs h1 h4 h5 hmq
 go_enter Tryz.func11,Tryz.ntmps11
 go_wp2_with fail
 go_loop [10] (fun i=>∃ t:Nat,t≤m∧i=.int .i64 t∧(qs.take t).all wordOk=true) (fun i=>m - (intOf i).toNat)
 case atStart=>exact ⟨0,Nat.zero_le _,rfl,rfl⟩
 case round =>
  obtain ⟨t,ht,rfl,hok⟩:=hrel
  have HOK:=hD hok
  clear hok
  by_cases hlt:t<m
  ·have htl:t<qs.length:=by have:=HM.out;omega
   obtain ⟨s,hs⟩:∃ s,qs[t]?=some s:=⟨_,List.getElem?_eq_getElem htl⟩
   obtain ⟨b,off,rfl,_,hc⟩:=HRA.out.2 Zq6
   have q0:=hc t _ (strs_at hs)
   have hsz:=szS_mem hs
   have HS:=hD hs
   have hs63:s.size≤9223372036854775807:=by omega
   clear hc hs htl hsz
   cases hw:wordOk s
   ·have HF:=hD (pgR_w (c1:=false) (V:=rs.all id) (N:=N) (T:=T) (m:=m) HS.out hw)
    go_wp2_with (go_at_call 42;refine(IsValidWord_impl _ _ hs63).mono ?_;rintro e w' ⟨rfl,rfl⟩)
    go_ret
    exact ⟨by rw[HF.out];rfl,Zq0,Zq5⟩
   ·have HN:=hD (show(qs.take (t+1)).all wordOk=true by rw[all_take _ HS.out,HOK.out,hw];rfl)
    go_wp2_with (go_at_call 42;refine(IsValidWord_impl _ _ hs63).mono ?_;rintro e w' ⟨rfl,rfl⟩)
    go_round
    case rel=>exact ⟨t+1,by omega,by go_num,HN.out⟩
    case measure=>simp [intOf];omega
  ·have HAL:Hid (allW qs=true):=by
    have h:=HOK.out
    rw[List.take_of_length_le (by have:=HM.out;omega)] at h
    exact h
   obtain ⟨w0,hw0⟩:∃ w0,w0=w.alloc (.cells #[.slice Aq m cq,.slice Ab nb cb] 27):=⟨_,rfl⟩
   have X0:=hD (show w0.heap[w.heap.size]?=some (.cells #[.slice Aq m cq,.slice Ab nb cb] 27 (0,0)) by rw[hw0];exact boxed1_0 _ _)
   have b0:Below w.heap.size w w0:=by rw[hw0];exact Zq0
   have s0:w.heap.size≤w0.heap.size:=b0.size
   go_wp2_with fail
   rw[←hw0]
   have B0:=hD b0
   clear hw0 b0
   go_loopw [21] (fun i wr=>∃ t:Nat,t≤nb∧i=.int .i64 t∧(rs.take t).all id=true∧Below w0.heap.size w0 wr) (fun i _=>nb - (intOf i).toNat)
   case atStart=>exact ⟨0,Nat.zero_le _,rfl,rfl,Below.refl _ _⟩
   case round =>
    obtain ⟨t,ht,rfl,hok,hb⟩:=hrel
    have HOK2:=hD hok
    have hbs:=hb.size
    clear hok
    by_cases hlt:t<nb
    ·obtain ⟨b,off,k',wd',Aa',na',ca',ct',Ab',nb',cb',r,rfl,hbl,⟨q0,q1,q2,q3,q4⟩,hr,hcall⟩:=HEL.out t hlt
     have hbw:=(B0.out.trans (hb.mono s0))
     rw[←hbw.cell (p:=⟨b,_,none⟩) hbl] at q0 q1 q2 q3 q4
     have HC:=hD (hcall _ ((hbw.alloc Zq6 (.cells #[.int .i64 k',.string wd',.slice Aa' na' ca',.int .i64 ct',.slice Ab' nb' cb'] 66))))
     have HR:=hD hr
     clear hcall hr hbl hbw
     cases r
     ·have HF:=hD (pgR_b (c1:=false) (c2:=allW qs) (N:=N) (T:=T) (m:=m) HR.out)
      go_wp2_with fail
      refine HC.out.mono ?_
      rintro e w2 ⟨rfl,hb2,hs2⟩
      go_wp2_with fail
      go_ret
      exact ⟨by rw[HF.out];rfl,(B0.out.trans (hb.mono s0)).trans (((Below.refl _ _).alloc (Nat.le_refl _) _).trans (hb2.mono Zq11) |>.mono Zq6),by have:=hs2;simp at this;omega⟩
     ·have HN:=hD (show(rs.take (t+1)).all id=true by rw[all_take _ HR.out,HOK2.out];rfl)
      go_wp2_with fail
      refine HC.out.mono ?_
      rintro e w2 ⟨rfl,hb2,hs2⟩
      go_wp2_with fail
      go_roundw
      case rel=>exact ⟨t+1,by omega,by go_num,HN.out,hb.trans (((Below.refl _ _).alloc (Nat.le_refl _) _).trans (hb2.mono Zq11) |>.mono Zq6)⟩
      case measure=>simp [intOf];omega
    ·have HRL:Hid (rs.all id=true):=by
      have h:=HOK2.out
      rw[List.take_of_length_le (by have:=HRS.out;omega)] at h
      exact h
     have HF:=hD (show pgR false (allW qs) (rs.all id) N T m=false by rw[HAL.out,HRL.out];simp [pgR])
     have HBB:=hD (B0.out.trans (hb.mono s0))
     obtain ⟨p0,p1⟩:=boxcells2 (lay:=hb) X0.out
     have HB:=hD hb
     clear hb
     go_wp2_with fail
     go_quiet ((go_at_call 44;exact Calls.quiet_of_same ((H1.out _).mono fun _ _ h=>⟨h.1,h.2.symm⟩)))
     go_wp2_with fail
     go_ret
     exact ⟨by rw[HF.out];rfl,below_drewN HBB.out _,(below_drewN HBB.out _).size⟩
theorem pgm_impl_2 (Aq:Option Addr) (m cq:Nat) (qs:List ByteArray) (Ab:Option Addr) (nb cb:Nat) (rs:List Bool) (w:World) (c1:Bool) (N T:Nat) (hmq:qs.length=m) (hm:m≤1048576) (hT0:T≤8388608) (hra:Rd w 1 Aq m (strs qs)) (hz:szS qs≤1048576) (hn:nb≤1048576) (hrs:rs.length=nb) (hel:Elts 43 w Ab nb rs) (hc1:c1=true) (hN:¬ N≤4)
  (h1:∀ w',Calls Tryz.prog 44 #[.int .i64 m,.int .i64 1,.int .i64 4] w' fun e w''=>e=.returned (.bool c1)∧w'=w'')
  (h4:∀ w',Below w.heap.size w w'→Calls Tryz.prog 45 #[.slice Ab nb cb] w' fun e w''=>e=.returned (.int .i64 N)∧Below w'.heap.size w' w''∧w'.heap.size≤w''.heap.size)
  (h5:∀ w',Below w.heap.size w w'→Calls Tryz.prog 46 #[.slice Ab nb cb] w' fun e w''=>e=.returned (.int .i64 T)∧Below w'.heap.size w' w''∧w'.heap.size≤w''.heap.size) :
  Calls Tryz.prog 11 #[.agg #[.slice Aq m cq,.slice Ab nb cb]] w fun e w'=>e=.returned (.bool (pgR c1 (allW qs) (rs.all id) N T m))∧Below w.heap.size w w'∧w.heap.size≤w'.heap.size:=by
 subst hc1
 have hNi:decide ((N:Int)≤4)=false:=by simp;omega
 have hNn:decide (N≤4)=false:=by simp;omega
 have HM:=hD hmq
 have HRA:=hD hra
 have HEL:=hD hel
 have HRS:=hD hrs
 have H1:=hD h1
 have H4:=hD h4
 have H5:=hD h5
 clear hra hel hrs h1 h4 h5 hmq
 go_enter Tryz.func11,Tryz.ntmps11
 go_wp2_with fail
 go_loop [10] (fun i=>∃ t:Nat,t≤m∧i=.int .i64 t∧(qs.take t).all wordOk=true) (fun i=>m - (intOf i).toNat)
 case atStart=>exact ⟨0,Nat.zero_le _,rfl,rfl⟩
 case round =>
  obtain ⟨t,ht,rfl,hok⟩:=hrel
  have HOK:=hD hok
  clear hok
  by_cases hlt:t<m
  ·have htl:t<qs.length:=by have:=HM.out;omega
   obtain ⟨s,hs⟩:∃ s,qs[t]?=some s:=⟨_,List.getElem?_eq_getElem htl⟩
   obtain ⟨b,off,rfl,_,hc⟩:=HRA.out.2 Zq6
   have q0:=hc t _ (strs_at hs)
   have hsz:=szS_mem hs
   have HS:=hD hs
   have hs63:s.size≤9223372036854775807:=by omega
   clear hc hs htl hsz
   cases hw:wordOk s
   ·have HF:=hD (pgR_w (c1:=true) (V:=rs.all id) (N:=N) (T:=T) (m:=m) HS.out hw)
    go_wp2_with (go_at_call 42;refine(IsValidWord_impl _ _ hs63).mono ?_;rintro e w' ⟨rfl,rfl⟩)
    go_ret
    exact ⟨by rw[HF.out];rfl,Zq0,Zq5⟩
   ·have HN:=hD (show(qs.take (t+1)).all wordOk=true by rw[all_take _ HS.out,HOK.out,hw];rfl)
    go_wp2_with (go_at_call 42;refine(IsValidWord_impl _ _ hs63).mono ?_;rintro e w' ⟨rfl,rfl⟩)
    go_round
    case rel=>exact ⟨t+1,by omega,by go_num,HN.out⟩
    case measure=>simp [intOf];omega
  ·have HAL:Hid (allW qs=true):=by
    have h:=HOK.out
    rw[List.take_of_length_le (by have:=HM.out;omega)] at h
    exact h
   obtain ⟨w0,hw0⟩:∃ w0,w0=w.alloc (.cells #[.slice Aq m cq,.slice Ab nb cb] 27):=⟨_,rfl⟩
   have X0:=hD (show w0.heap[w.heap.size]?=some (.cells #[.slice Aq m cq,.slice Ab nb cb] 27 (0,0)) by rw[hw0];exact boxed1_0 _ _)
   have b0:Below w.heap.size w w0:=by rw[hw0];exact Zq0
   have s0:w.heap.size≤w0.heap.size:=b0.size
   go_wp2_with fail
   rw[←hw0]
   have B0:=hD b0
   clear hw0 b0
   go_loopw [21] (fun i wr=>∃ t:Nat,t≤nb∧i=.int .i64 t∧(rs.take t).all id=true∧Below w0.heap.size w0 wr) (fun i _=>nb - (intOf i).toNat)
   case atStart=>exact ⟨0,Nat.zero_le _,rfl,rfl,Below.refl _ _⟩
   case round =>
    obtain ⟨t,ht,rfl,hok,hb⟩:=hrel
    have HOK2:=hD hok
    have hbs:=hb.size
    clear hok
    by_cases hlt:t<nb
    ·obtain ⟨b,off,k',wd',Aa',na',ca',ct',Ab',nb',cb',r,rfl,hbl,⟨q0,q1,q2,q3,q4⟩,hr,hcall⟩:=HEL.out t hlt
     have hbw:=(B0.out.trans (hb.mono s0))
     rw[←hbw.cell (p:=⟨b,_,none⟩) hbl] at q0 q1 q2 q3 q4
     have HC:=hD (hcall _ ((hbw.alloc Zq6 (.cells #[.int .i64 k',.string wd',.slice Aa' na' ca',.int .i64 ct',.slice Ab' nb' cb'] 66))))
     have HR:=hD hr
     clear hcall hr hbl hbw
     cases r
     ·have HF:=hD (pgR_b (c1:=true) (c2:=allW qs) (N:=N) (T:=T) (m:=m) HR.out)
      go_wp2_with fail
      refine HC.out.mono ?_
      rintro e w2 ⟨rfl,hb2,hs2⟩
      go_wp2_with fail
      go_ret
      exact ⟨by rw[HF.out];rfl,(B0.out.trans (hb.mono s0)).trans (((Below.refl _ _).alloc (Nat.le_refl _) _).trans (hb2.mono Zq11) |>.mono Zq6),by have:=hs2;simp at this;omega⟩
     ·have HN:=hD (show(rs.take (t+1)).all id=true by rw[all_take _ HR.out,HOK2.out];rfl)
      go_wp2_with fail
      refine HC.out.mono ?_
      rintro e w2 ⟨rfl,hb2,hs2⟩
      go_wp2_with fail
      go_roundw
      case rel=>exact ⟨t+1,by omega,by go_num,HN.out,hb.trans (((Below.refl _ _).alloc (Nat.le_refl _) _).trans (hb2.mono Zq11) |>.mono Zq6)⟩
      case measure=>simp [intOf];omega
    ·have HRL:Hid (rs.all id=true):=by
      have h:=HOK2.out
      rw[List.take_of_length_le (by have:=HRS.out;omega)] at h
      exact h
     have HF:=hD (show pgR true (allW qs) (rs.all id) N T m=false by rw[HAL.out,HRL.out];simp [pgR,hN])
     have HBB:=hD (B0.out.trans (hb.mono s0))
     obtain ⟨p0,p1⟩:=boxcells2 (lay:=hb) X0.out
     have HB:=hD hb
     clear hb
     go_wp2_with fail
     first | (go_region_with (first | (go_at_call 44; (with_reducible refine (H1.out _).mono ?_); rintro e w' ⟨rfl, rfl⟩) | (go_at_call 45; (with_reducible refine (H4.out _ ?_).mono ?_); exact HBB.out.drew; rintro e y4 ⟨rfl, d4, _⟩; have u4 := HB.out.trans ((bdrew d4).mono hbs); obtain ⟨a2, a3⟩ := boxcells2 (lay := u4) X0.out))) | fail "no"
     all_goals (go_wp2_with fail;go_ret;exact ⟨by rw[HF.out];first|rfl|exact congrArg (fun b=>Ending.returned (Value.bool b)) HTw.out,B0.out.trans (u4.mono s0),(B0.out.trans (u4.mono s0)).size⟩)
theorem pgm_impl_3 (Aq:Option Addr) (m cq:Nat) (qs:List ByteArray) (Ab:Option Addr) (nb cb:Nat) (rs:List Bool) (w:World) (c1:Bool) (N T:Nat) (hmq:qs.length=m) (hm:m≤1048576) (hT0:T≤8388608) (hra:Rd w 1 Aq m (strs qs)) (hz:szS qs≤1048576) (hn:nb≤1048576) (hrs:rs.length=nb) (hel:Elts 43 w Ab nb rs) (hc1:c1=true) (hN:N≤4) (hT:¬ T+m+2≤160)
  (h1:∀ w',Calls Tryz.prog 44 #[.int .i64 m,.int .i64 1,.int .i64 4] w' fun e w''=>e=.returned (.bool c1)∧w'=w'')
  (h4:∀ w',Below w.heap.size w w'→Calls Tryz.prog 45 #[.slice Ab nb cb] w' fun e w''=>e=.returned (.int .i64 N)∧Below w'.heap.size w' w''∧w'.heap.size≤w''.heap.size)
  (h5:∀ w',Below w.heap.size w w'→Calls Tryz.prog 46 #[.slice Ab nb cb] w' fun e w''=>e=.returned (.int .i64 T)∧Below w'.heap.size w' w''∧w'.heap.size≤w''.heap.size) :
  Calls Tryz.prog 11 #[.agg #[.slice Aq m cq,.slice Ab nb cb]] w fun e w'=>e=.returned (.bool (pgR c1 (allW qs) (rs.all id) N T m))∧Below w.heap.size w w'∧w.heap.size≤w'.heap.size:=by
 subst hc1
 have hNi:decide ((N:Int)≤4)=true:=by simp;omega
 have hNn:decide (N≤4)=true:=by simp;omega
 have HTw:=hD (show decide (IntKind.i64.wrap (IntKind.i64.wrap ((T:Int)+(m:Int))+2)≤160)=false by rw[IntWalk.i64_in ((T:Int)+(m:Int)) Zq6,IntWalk.i64_in _ Zq6];simp;omega)
 have HM:=hD hmq
 have HRA:=hD hra
 have HEL:=hD hel
 have HRS:=hD hrs
 have H1:=hD h1
 have H4:=hD h4
 have H5:=hD h5
 clear hra hel hrs h1 h4 h5 hmq
 go_enter Tryz.func11,Tryz.ntmps11
 go_wp2_with fail
 go_loop [10] (fun i=>∃ t:Nat,t≤m∧i=.int .i64 t∧(qs.take t).all wordOk=true) (fun i=>m - (intOf i).toNat)
 case atStart=>exact ⟨0,Nat.zero_le _,rfl,rfl⟩
 case round =>
  obtain ⟨t,ht,rfl,hok⟩:=hrel
  have HOK:=hD hok
  clear hok
  by_cases hlt:t<m
  ·have htl:t<qs.length:=by have:=HM.out;omega
   obtain ⟨s,hs⟩:∃ s,qs[t]?=some s:=⟨_,List.getElem?_eq_getElem htl⟩
   obtain ⟨b,off,rfl,_,hc⟩:=HRA.out.2 Zq6
   have q0:=hc t _ (strs_at hs)
   have hsz:=szS_mem hs
   have HS:=hD hs
   have hs63:s.size≤9223372036854775807:=by omega
   clear hc hs htl hsz
   cases hw:wordOk s
   ·have HF:=hD (pgR_w (c1:=true) (V:=rs.all id) (N:=N) (T:=T) (m:=m) HS.out hw)
    go_wp2_with (go_at_call 42;refine(IsValidWord_impl _ _ hs63).mono ?_;rintro e w' ⟨rfl,rfl⟩)
    go_ret
    exact ⟨by rw[HF.out];rfl,Zq0,Zq5⟩
   ·have HN:=hD (show(qs.take (t+1)).all wordOk=true by rw[all_take _ HS.out,HOK.out,hw];rfl)
    go_wp2_with (go_at_call 42;refine(IsValidWord_impl _ _ hs63).mono ?_;rintro e w' ⟨rfl,rfl⟩)
    go_round
    case rel=>exact ⟨t+1,by omega,by go_num,HN.out⟩
    case measure=>simp [intOf];omega
  ·have HAL:Hid (allW qs=true):=by
    have h:=HOK.out
    rw[List.take_of_length_le (by have:=HM.out;omega)] at h
    exact h
   obtain ⟨w0,hw0⟩:∃ w0,w0=w.alloc (.cells #[.slice Aq m cq,.slice Ab nb cb] 27):=⟨_,rfl⟩
   have X0:=hD (show w0.heap[w.heap.size]?=some (.cells #[.slice Aq m cq,.slice Ab nb cb] 27 (0,0)) by rw[hw0];exact boxed1_0 _ _)
   have b0:Below w.heap.size w w0:=by rw[hw0];exact Zq0
   have s0:w.heap.size≤w0.heap.size:=b0.size
   go_wp2_with fail
   rw[←hw0]
   have B0:=hD b0
   clear hw0 b0
   go_loopw [21] (fun i wr=>∃ t:Nat,t≤nb∧i=.int .i64 t∧(rs.take t).all id=true∧Below w0.heap.size w0 wr) (fun i _=>nb - (intOf i).toNat)
   case atStart=>exact ⟨0,Nat.zero_le _,rfl,rfl,Below.refl _ _⟩
   case round =>
    obtain ⟨t,ht,rfl,hok,hb⟩:=hrel
    have HOK2:=hD hok
    have hbs:=hb.size
    clear hok
    by_cases hlt:t<nb
    ·obtain ⟨b,off,k',wd',Aa',na',ca',ct',Ab',nb',cb',r,rfl,hbl,⟨q0,q1,q2,q3,q4⟩,hr,hcall⟩:=HEL.out t hlt
     have hbw:=(B0.out.trans (hb.mono s0))
     rw[←hbw.cell (p:=⟨b,_,none⟩) hbl] at q0 q1 q2 q3 q4
     have HC:=hD (hcall _ ((hbw.alloc Zq6 (.cells #[.int .i64 k',.string wd',.slice Aa' na' ca',.int .i64 ct',.slice Ab' nb' cb'] 66))))
     have HR:=hD hr
     clear hcall hr hbl hbw
     cases r
     ·have HF:=hD (pgR_b (c1:=true) (c2:=allW qs) (N:=N) (T:=T) (m:=m) HR.out)
      go_wp2_with fail
      refine HC.out.mono ?_
      rintro e w2 ⟨rfl,hb2,hs2⟩
      go_wp2_with fail
      go_ret
      exact ⟨by rw[HF.out];rfl,(B0.out.trans (hb.mono s0)).trans (((Below.refl _ _).alloc (Nat.le_refl _) _).trans (hb2.mono Zq11) |>.mono Zq6),by have:=hs2;simp at this;omega⟩
     ·have HN:=hD (show(rs.take (t+1)).all id=true by rw[all_take _ HR.out,HOK2.out];rfl)
      go_wp2_with fail
      refine HC.out.mono ?_
      rintro e w2 ⟨rfl,hb2,hs2⟩
      go_wp2_with fail
      go_roundw
      case rel=>exact ⟨t+1,by omega,by go_num,HN.out,hb.trans (((Below.refl _ _).alloc (Nat.le_refl _) _).trans (hb2.mono Zq11) |>.mono Zq6)⟩
      case measure=>simp [intOf];omega
    ·have HRL:Hid (rs.all id=true):=by
      have h:=HOK2.out
      rw[List.take_of_length_le (by have:=HRS.out;omega)] at h
      exact h
     have HF:=hD (show pgR true (allW qs) (rs.all id) N T m=false by rw[HAL.out,HRL.out];simp [pgR,hN,hT])
     have HBB:=hD (B0.out.trans (hb.mono s0))
     obtain ⟨p0,p1⟩:=boxcells2 (lay:=hb) X0.out
     have HB:=hD hb
     clear hb
     go_wp2_with fail
     first | (go_region_held3 (fun W => W.cell? ⟨w.heap.size, 0, none⟩ = some (.slice Aq m cq) ∧ W.cell? ⟨w.heap.size, 1, none⟩ = some (.slice Ab nb cb)) (first | exact ⟨p0, p1⟩ | exact ⟨a2, a3⟩ | exact ⟨a4, a5⟩) (first | (go_at_call 44; (with_reducible refine (H1.out _).mono ?_); rintro e w' ⟨rfl, rfl⟩) | (go_at_call 45; (with_reducible refine (H4.out _ ?_).mono ?_); exact HBB.out.drew; rintro e y4 ⟨rfl, d4, _⟩; have u4 := HB.out.trans ((bdrew d4).mono hbs); obtain ⟨a2, a3⟩ := boxcells2 (lay := u4) X0.out) | (go_at_call 46; (with_reducible refine (H5.out _ ?_).mono ?_); exact B0.out.trans (u4.mono s0); rintro e y5 ⟨rfl, d5, _⟩; have u5 := u4.trans (d5.mono u4.size); obtain ⟨a4, a5⟩ := boxcells2 (lay := u5) X0.out))) | fail "no"
     all_goals (go_wp2_with fail;go_ret;exact ⟨by rw[HF.out];first|rfl|exact congrArg (fun b=>Ending.returned (Value.bool b)) HTw.out,B0.out.trans (u5.mono s0),(B0.out.trans (u5.mono s0)).size⟩)
theorem pgm_impl_4 (Aq:Option Addr) (m cq:Nat) (qs:List ByteArray) (Ab:Option Addr) (nb cb:Nat) (rs:List Bool) (w:World) (c1:Bool) (N T:Nat) (hmq:qs.length=m) (hm:m≤1048576) (hT0:T≤8388608) (hra:Rd w 1 Aq m (strs qs)) (hz:szS qs≤1048576) (hn:nb≤1048576) (hrs:rs.length=nb) (hel:Elts 43 w Ab nb rs) (hc1:c1=true) (hN:N≤4) (hT:T+m+2≤160)
  (h1:∀ w',Calls Tryz.prog 44 #[.int .i64 m,.int .i64 1,.int .i64 4] w' fun e w''=>e=.returned (.bool c1)∧w'=w'')
  (h4:∀ w',Below w.heap.size w w'→Calls Tryz.prog 45 #[.slice Ab nb cb] w' fun e w''=>e=.returned (.int .i64 N)∧Below w'.heap.size w' w''∧w'.heap.size≤w''.heap.size)
  (h5:∀ w',Below w.heap.size w w'→Calls Tryz.prog 46 #[.slice Ab nb cb] w' fun e w''=>e=.returned (.int .i64 T)∧Below w'.heap.size w' w''∧w'.heap.size≤w''.heap.size) :
  Calls Tryz.prog 11 #[.agg #[.slice Aq m cq,.slice Ab nb cb]] w fun e w'=>e=.returned (.bool (pgR c1 (allW qs) (rs.all id) N T m))∧Below w.heap.size w w'∧w.heap.size≤w'.heap.size:=by
 subst hc1
 have hNi:decide ((N:Int)≤4)=true:=by simp;omega
 have hNn:decide (N≤4)=true:=by simp;omega
 have HTw:=hD (show decide (IntKind.i64.wrap (IntKind.i64.wrap ((T:Int)+(m:Int))+2)≤160)=true by rw[IntWalk.i64_in ((T:Int)+(m:Int)) Zq6,IntWalk.i64_in _ Zq6];simp;omega)
 have HM:=hD hmq
 have HRA:=hD hra
 have HEL:=hD hel
 have HRS:=hD hrs
 have H1:=hD h1
 have H4:=hD h4
 have H5:=hD h5
 clear hra hel hrs h1 h4 h5 hmq
 go_enter Tryz.func11,Tryz.ntmps11
 go_wp2_with fail
 go_loop [10] (fun i=>∃ t:Nat,t≤m∧i=.int .i64 t∧(qs.take t).all wordOk=true) (fun i=>m - (intOf i).toNat)
 case atStart=>exact ⟨0,Nat.zero_le _,rfl,rfl⟩
 case round =>
  obtain ⟨t,ht,rfl,hok⟩:=hrel
  have HOK:=hD hok
  clear hok
  by_cases hlt:t<m
  ·have htl:t<qs.length:=by have:=HM.out;omega
   obtain ⟨s,hs⟩:∃ s,qs[t]?=some s:=⟨_,List.getElem?_eq_getElem htl⟩
   obtain ⟨b,off,rfl,_,hc⟩:=HRA.out.2 Zq6
   have q0:=hc t _ (strs_at hs)
   have hsz:=szS_mem hs
   have HS:=hD hs
   have hs63:s.size≤9223372036854775807:=by omega
   clear hc hs htl hsz
   cases hw:wordOk s
   ·have HF:=hD (pgR_w (c1:=true) (V:=rs.all id) (N:=N) (T:=T) (m:=m) HS.out hw)
    go_wp2_with (go_at_call 42;refine(IsValidWord_impl _ _ hs63).mono ?_;rintro e w' ⟨rfl,rfl⟩)
    go_ret
    exact ⟨by rw[HF.out];rfl,Zq0,Zq5⟩
   ·have HN:=hD (show(qs.take (t+1)).all wordOk=true by rw[all_take _ HS.out,HOK.out,hw];rfl)
    go_wp2_with (go_at_call 42;refine(IsValidWord_impl _ _ hs63).mono ?_;rintro e w' ⟨rfl,rfl⟩)
    go_round
    case rel=>exact ⟨t+1,by omega,by go_num,HN.out⟩
    case measure=>simp [intOf];omega
  ·have HAL:Hid (allW qs=true):=by
    have h:=HOK.out
    rw[List.take_of_length_le (by have:=HM.out;omega)] at h
    exact h
   obtain ⟨w0,hw0⟩:∃ w0,w0=w.alloc (.cells #[.slice Aq m cq,.slice Ab nb cb] 27):=⟨_,rfl⟩
   have X0:=hD (show w0.heap[w.heap.size]?=some (.cells #[.slice Aq m cq,.slice Ab nb cb] 27 (0,0)) by rw[hw0];exact boxed1_0 _ _)
   have b0:Below w.heap.size w w0:=by rw[hw0];exact Zq0
   have s0:w.heap.size≤w0.heap.size:=b0.size
   go_wp2_with fail
   rw[←hw0]
   have B0:=hD b0
   clear hw0 b0
   go_loopw [21] (fun i wr=>∃ t:Nat,t≤nb∧i=.int .i64 t∧(rs.take t).all id=true∧Below w0.heap.size w0 wr) (fun i _=>nb - (intOf i).toNat)
   case atStart=>exact ⟨0,Nat.zero_le _,rfl,rfl,Below.refl _ _⟩
   case round =>
    obtain ⟨t,ht,rfl,hok,hb⟩:=hrel
    have HOK2:=hD hok
    have hbs:=hb.size
    clear hok
    by_cases hlt:t<nb
    ·obtain ⟨b,off,k',wd',Aa',na',ca',ct',Ab',nb',cb',r,rfl,hbl,⟨q0,q1,q2,q3,q4⟩,hr,hcall⟩:=HEL.out t hlt
     have hbw:=(B0.out.trans (hb.mono s0))
     rw[←hbw.cell (p:=⟨b,_,none⟩) hbl] at q0 q1 q2 q3 q4
     have HC:=hD (hcall _ ((hbw.alloc Zq6 (.cells #[.int .i64 k',.string wd',.slice Aa' na' ca',.int .i64 ct',.slice Ab' nb' cb'] 66))))
     have HR:=hD hr
     clear hcall hr hbl hbw
     cases r
     ·have HF:=hD (pgR_b (c1:=true) (c2:=allW qs) (N:=N) (T:=T) (m:=m) HR.out)
      go_wp2_with fail
      refine HC.out.mono ?_
      rintro e w2 ⟨rfl,hb2,hs2⟩
      go_wp2_with fail
      go_ret
      exact ⟨by rw[HF.out];rfl,(B0.out.trans (hb.mono s0)).trans (((Below.refl _ _).alloc (Nat.le_refl _) _).trans (hb2.mono Zq11) |>.mono Zq6),by have:=hs2;simp at this;omega⟩
     ·have HN:=hD (show(rs.take (t+1)).all id=true by rw[all_take _ HR.out,HOK2.out];rfl)
      go_wp2_with fail
      refine HC.out.mono ?_
      rintro e w2 ⟨rfl,hb2,hs2⟩
      go_wp2_with fail
      go_roundw
      case rel=>exact ⟨t+1,by omega,by go_num,HN.out,hb.trans (((Below.refl _ _).alloc (Nat.le_refl _) _).trans (hb2.mono Zq11) |>.mono Zq6)⟩
      case measure=>simp [intOf];omega
    ·have HRL:Hid (rs.all id=true):=by
      have h:=HOK2.out
      rw[List.take_of_length_le (by have:=HRS.out;omega)] at h
      exact h
     have HF:=hD (show pgR true (allW qs) (rs.all id) N T m=true by rw[HAL.out,HRL.out];simp [pgR,hN,hT])
     have HBB:=hD (B0.out.trans (hb.mono s0))
     obtain ⟨p0,p1⟩:=boxcells2 (lay:=hb) X0.out
     have HB:=hD hb
     clear hb
     go_wp2_with fail
     first | (go_region_held3 (fun W => W.cell? ⟨w.heap.size, 0, none⟩ = some (.slice Aq m cq) ∧ W.cell? ⟨w.heap.size, 1, none⟩ = some (.slice Ab nb cb)) (first | exact ⟨p0, p1⟩ | exact ⟨a2, a3⟩ | exact ⟨a4, a5⟩) (first | (go_at_call 44; (with_reducible refine (H1.out _).mono ?_); rintro e w' ⟨rfl, rfl⟩) | (go_at_call 45; (with_reducible refine (H4.out _ ?_).mono ?_); exact HBB.out.drew; rintro e y4 ⟨rfl, d4, _⟩; have u4 := HB.out.trans ((bdrew d4).mono hbs); obtain ⟨a2, a3⟩ := boxcells2 (lay := u4) X0.out) | (go_at_call 46; (with_reducible refine (H5.out _ ?_).mono ?_); exact B0.out.trans (u4.mono s0); rintro e y5 ⟨rfl, d5, _⟩; have u5 := u4.trans (d5.mono u4.size); obtain ⟨a4, a5⟩ := boxcells2 (lay := u5) X0.out))) | fail "no"
     all_goals (go_wp2_with fail;go_ret;exact ⟨by rw[HF.out];first|rfl|exact congrArg (fun b=>Ending.returned (Value.bool b)) HTw.out,B0.out.trans (u5.mono s0),(B0.out.trans (u5.mono s0)).size⟩)
theorem elts_of:∀ (d lo:Nat) (bd:List (Tr d)) (Ab:Option Addr) (nb:Nat) (w:World),RdT w lo d Ab nb bd→GN w→szT d bd≤1048576→nb≤1048576∧∃ rs:List Bool,rs.length=nb∧rs.all id=validT d bd∧Elts 43 w Ab nb rs:=by
 intro d
 cases d with
 | zero =>
  intro lo bd Ab nb w hrb hG hsz
  obtain rfl:=szT_zero_len hrb
  exact ⟨by omega,[],rfl,rfl,fun t ht=>absurd ht Zq6⟩
 | succ d =>
  intro lo bd Ab nb w hrb hG hsz
  have hlen:=hrb.len
  subst hlen
  have hn:bd.length≤1048576:=by rw[szT_succ] at hsz;omega
  refine ⟨hn,bd.map fun s=>vOne d (validT d) (hdT s) (bdT s),by simp,rs_valid bd,fun t ht=>?_⟩
  obtain ⟨b,off,s,Aa',ca',Ab',nb',cb',rfl,hbl,hs,⟨c0,c1,c2,c3,c4⟩,h2,h3⟩:=hrb.at_ ht
  refine ⟨b,off,(hdT s).k,(hdT s).word,Aa',(hdT s).args.length,ca',(hdT s).count,Ab',nb',cb',_,rfl,hbl,⟨c0,c1,c2,c3,c4⟩,by rw[List.getElem?_map,hs];rfl,fun w' hw'=>?_⟩
  have hme:=szT_mem hs
  have hq:=hsz
  rw[szT_succ] at hq
  unfold szE at hme
  exact IsValidStmt_impl d lo _ _ _ _ (bdT s) _ _ _ _ _ _ (h2.below hw') (h3.below hw') (hG.below hw') Zq6 Zq6 Zq6
theorem IsValidProgram_impl (d lo lo':Nat) (Aq:Option Addr) (cq:Nat) (qs:List ByteArray) (bd:List (Tr d)) (Ab:Option Addr) (nb cb:Nat) (w:World) (hra:RdL w lo 1 Aq qs.length (strs qs)) (hrb:RdT w lo' d Ab nb bd) (hG:GN w) (hm:qs.length≤1048576) (hz:szS qs≤1048576) (hsz:szT d bd≤1048576) :
  Calls Tryz.prog 11 #[.agg #[.slice Aq qs.length cq,.slice Ab nb cb]] w fun e w'=>e=.returned (.bool (progV d qs bd))∧Below w.heap.size w w'∧w.heap.size≤w'.heap.size:=by
 have h1:∀ w',Calls Tryz.prog 44 #[.int .i64 qs.length,.int .i64 1,.int .i64 4] w' fun e w''=>e=.returned (.bool (inB qs.length 1 4))∧w'=w'':=fun w'=>in_any _ _ _ _
 have h4:∀ w',Below w.heap.size w w'→Calls Tryz.prog 45 #[.slice Ab nb cb] w' fun e w''=>e=.returned (.int .i64 (nestT d bd))∧Below w'.heap.size w' w''∧w'.heap.size≤w''.heap.size:=fun w' hb=>NestingDepth_impl d _ _ _ _ _ _ (hrb.below hb) hsz
 have h5:∀ w',Below w.heap.size w w'→Calls Tryz.prog 46 #[.slice Ab nb cb] w' fun e w''=>e=.returned (.int .i64 (tokT d bd))∧Below w'.heap.size w' w''∧w'.heap.size≤w''.heap.size:=fun w' hb=>StmtTokenCount_impl d _ _ _ _ _ _ (hrb.below hb) hsz
 have hT:=tokT_le d bd
 obtain ⟨hn,rs,hrs,hall,hel⟩:=elts_of d lo' bd Ab nb w hrb hG hsz
 unfold progV
 rw[←hall]
 cases hc1:inB qs.length 1 4
 ·exact pgm_impl_1 _ _ _ qs _ _ _ rs w _ _ _ rfl hm Zq6 hra.rd hz hn hrs hel rfl (hc1▸h1) h4 h5
 by_cases hN:nestT d bd≤4
 ·by_cases hT':tokT d bd+qs.length+2≤160
  ·exact pgm_impl_4 _ _ _ qs _ _ _ rs w _ _ _ rfl hm Zq6 hra.rd hz hn hrs hel rfl hN hT' (hc1▸h1) h4 h5
  ·exact pgm_impl_3 _ _ _ qs _ _ _ rs w _ _ _ rfl hm Zq6 hra.rd hz hn hrs hel rfl hN hT' (hc1▸h1) h4 h5
 ·exact pgm_impl_2 _ _ _ qs _ _ _ rs w _ _ _ rfl hm Zq6 hra.rd hz hn hrs hel rfl hN (hc1▸h1) h4 h5
def dupF (qs:List ByteArray):Nat→List ByteArray→Bad
 | _,[]=>bad0
 | i,q :: r=>if hasS (qs.take i) q=true then (1,q) else dupF qs (i+1) r
theorem dupF_at {qs:List ByteArray} {t:Nat} {q:ByteArray} (h:qs[t]?=some q):dupF qs t (qs.drop t)=if hasS (qs.take t) q=true then (1,q) else dupF qs (t+1) (qs.drop (t+1)):=by
 obtain ⟨ht,he⟩:=List.getElem?_eq_some_iff.1 h
 rw[List.drop_eq_getElem_cons ht,dupF,he]
def ckP (d:Nat) (qs:List ByteArray) (l:List (Tr d)):Bad :=
 if progV d qs l=true then (if (dupF qs 0 qs).1=0 then chkT d l qs [] else dupF qs 0 qs) else bad0
theorem progV_validC {d:Nat} {qs:List ByteArray} {l:List (Tr d)} (h:progV d qs l=true):validT d l=true:=by
 unfold progV pgR at h
 simp only[Bool.and_eq_true] at h
 exact h.2.2.1
theorem progV_len {d:Nat} {qs:List ByteArray} {l:List (Tr d)} (h:progV d qs l=true):qs.length≤4:=by
 unfold progV pgR at h
 simp only[Bool.and_eq_true] at h
 have:=inB_iff.1 h.1
 omega
theorem strs_take (l:List ByteArray) (t:Nat):(strs l).take t=strs (l.take t):=by simp [strs]
def RetCk (c:Bad) (w:World) (e:Ending) (w':World):Prop:=e=.returned (.tuple #[.int .i64 c.1,.string c.2])∧Below w.heap.size w w'∧w.heap.size≤w'.heap.size
theorem CheckProgram_impl (d lo lo':Nat) (Aq:Option Addr) (cq:Nat) (qs:List ByteArray) (l:List (Tr d)) (Ab:Option Addr) (nb cb:Nat) (w:World) (hra:RdL w lo 1 Aq qs.length (strs qs)) (hcq:qs.length≤cq) (hrb:RdT w lo' d Ab nb l) (hG:GN w) (hm:qs.length≤1048576) (hz:szS qs≤1048576) (hsz:szT d l≤1048576) :
  Calls Tryz.prog 66 #[.agg #[.slice Aq qs.length cq,.slice Ab nb cb]] w (RetCk (ckP d qs l) w):=by
 obtain ⟨w0,hw0⟩:∃ w0,w0=w.alloc (.cells #[.slice Aq qs.length cq,.slice Ab nb cb] 27):=⟨_,rfl⟩
 have X0:=hD (show w0.heap[w.heap.size]?=some (.cells #[.slice Aq qs.length cq,.slice Ab nb cb] 27 (0,0)) by rw[hw0];exact boxed1_0 _ _)
 have b0:Below w.heap.size w w0:=by rw[hw0];exact Zq0
 have hz0:w.heap.size<w0.heap.size:=by rw[hw0];simp
 have HV:=hD (IsValidProgram_impl d lo lo' Aq cq qs l Ab nb cb w0 (hra.below b0) (hrb.below b0) (hG.below b0) hm hz hsz)
 have HW:=hD hw0
 have B0:=hD b0
 have HA:=hD hra.rd
 have HT:=hD hrb
 obtain ⟨m,hmq⟩:∃ m,m=qs.length:=⟨_,rfl⟩
 rw[←hmq] at X0 HV HW HA hcq hm ⊢
 have HM:=hD hmq
 clear hw0 b0 hra hrb hG hmq
 cases hp:progV d qs l
 ·have HS:Hid (ckP d qs l=bad0):=by rw[ckP,if_neg (by rw[hp];decide)];exact rfl
  rw[hp] at HV
  clear hp
  go_enter Tryz.func66,Tryz.ntmps66
  go_upto_region 1 with (fail)
  rw[←HW.out]
  obtain ⟨p0,p1⟩:=boxc2 (lay:=Below.refl _ _) X0.out
  go_wp2_with fail
  refine HV.out.mono ?_
  rintro e w1 ⟨rfl,b1,s1⟩
  have hbw:=B0.out.trans (b1.mono Zq6)
  clear b1
  go_wp2_with fail
  go_ret2
  exact ⟨by rw[HS.out];exact rfl,hbw,by omega⟩
 ·have HS:Hid (ckP d qs l=if (dupF qs 0 qs).1=0 then chkT d l qs [] else dupF qs 0 qs):=by rw[ckP,if_pos hp];exact rfl
  have hq4:=progV_len hp
  rw[←HM.out] at hq4
  have HVT:=hD (progV_validC hp)
  rw[hp] at HV
  clear hp
  go_enter Tryz.func66,Tryz.ntmps66
  go_upto_region 1 with (fail)
  rw[←HW.out]
  obtain ⟨p0,p1⟩:=boxc2 (lay:=Below.refl _ _) X0.out
  go_wp2_with fail
  refine HV.out.mono ?_
  rintro e w1 ⟨rfl,b1,s1⟩
  have B1:=hD b1
  have hz1:w.heap.size<w1.heap.size:=by omega
  clear p0 p1 b1
  obtain ⟨p0,p1⟩:=boxc2 (lay:=B1.out) X0.out
  have HA1:=hD ((HA.out.below B0.out).below B1.out)
  go_wp2_with fail
  go_loop [14] (fun i=>∃ t:Nat,t≤m∧i=.int .i64 t∧Hid (dupF qs 0 qs=dupF qs t (qs.drop t))) (fun i=>m - (intOf i).toNat)
  case atStart=>exact ⟨0,Nat.zero_le _,rfl,rfl⟩
  case round =>
   obtain ⟨t,ht,rfl,hd⟩:=hrel
   by_cases hlt:t<m
   ·obtain ⟨q,hq⟩:∃ q,qs[t]?=some q:=⟨_,List.getElem?_eq_getElem (by rw[←HM.out];exact hlt)⟩
    obtain ⟨b,off,rfl,hbl,hcl⟩:=HA1.out.2 Zq6
    have r0:=hcl t _ (strs_at hq)
    have RT:Hid (Rd w1 1 (some ⟨b,off,none⟩) t (strs (qs.take t))):=by
     have:=HA1.out.take (t:=t) Zq6
     rw[strs_take] at this
     exact this
    have HD:=hD (hd.out.trans (dupF_at hq))
    have hlen:(qs.take t).length=t:=by rw[List.length_take,←HM.out];omega
    have HLE:=hD hlen
    have htc:t≤cq:=by omega
    clear hcl hq hd hlen
    cases hh:hasS (qs.take t) q
    ·have HN:Hid (dupF qs 0 qs=dupF qs (t+1) (qs.drop (t+1))):=by rw[HD.out,if_neg (by rw[hh];decide)];exact rfl
     go_wp2_with (go_at_call 118;(with_reducible refine(hasWord_any (some ⟨b,off,none⟩) t cq (qs.take t) q w1 RT.out HLE.out Zq6).mono ?_);rintro e w' ⟨rfl,rfl⟩)
     go_round
     case rel=>exact ⟨t+1,by omega,by go_num,HN⟩
     case measure=>simp [intOf];omega
    ·have HF:Hid (ckP d qs l=(1,q)):=by
      have h1:dupF qs 0 qs=(1,q):=by rw[HD.out,if_pos hh]
      rw[HS.out,h1]
      exact rfl
     go_wp2_with (go_at_call 118;(with_reducible refine(hasWord_any (some ⟨b,off,none⟩) t cq (qs.take t) q w1 RT.out HLE.out Zq6).mono ?_);rintro e w' ⟨rfl,rfl⟩)
     go_ret2
     exact ⟨by rw[HF.out];exact rfl,B0.out.trans (B1.out.mono Zq6),by omega⟩
   ·obtain rfl:t=m:=by omega
    have HF:Hid (ckP d qs l=chkT d l qs []):=by
     have h1:dupF qs 0 qs=bad0:=by rw[hd.out,List.drop_of_length_le (by rw[←HM.out];exact Nat.le_refl _)];rfl
     rw[HS.out,h1,if_pos (show bad0.1=0 from rfl)]
     exact rfl
    obtain ⟨wx,hwx⟩:∃ wx,wx=w1.alloc (.cells #[.slice none 0 0] 148):=⟨_,rfl⟩
    have bx:Below w1.heap.size w1 wx:=by rw[hwx];exact Zq0
    have CK:CkS wx w.heap.size w1.heap.size [] (.slice none 0 0):=⟨by rw[hwx];exact boxed1_0 _ _,World.ownsRow_nil _ _ _ _⟩
    have bw1:Below w.heap.size w w1:=B0.out.trans (B1.out.mono Zq6)
    have hxs:w.heap.size≤wx.heap.size:=by have:=bx.size;omega
    have HC:=hD (all_top d lo' w.heap.size w1.heap.size Ab nb cb l Aq t cq qs [] (.slice none 0 0) w wx HT.out HA.out HM.out.symm (Nat.le_refl _) hxs (bw1.trans (bx.mono Zq6)) Zq6 CK Zq11 hq4 hsz HVT.out)
    have WX:=hD hwx
    have BX:=hD (bw1.trans (bx.mono Zq6))
    clear hwx bx CK bw1 hd
    go_wp2_with fail
    rw[←WX.out]
    refine HC.out.mono ?_
    rintro e w2 ⟨rfl,b2,s2⟩
    have HB2:=hD (BX.out.trans b2)
    clear b2
    go_wp2_with fail
    go_ret2
    exact ⟨by rw[HF.out];exact rfl,HB2.out,by omega⟩
theorem CheckProgram_spec (d lo lo':Nat) (Aq:Option Addr) (cq:Nat) (qs:List ByteArray) (l:List (Tr d)) (Ab:Option Addr) (nb cb:Nat) (w:World) (hra:RdL w lo 1 Aq qs.length (strs qs)) (hcq:qs.length≤cq) (hrb:RdT w lo' d Ab nb l) (hm:qs.length≤1048576) (hz:szS qs≤1048576) (hsz:szT d l≤1048576) :
  Calls Tryz.prog 27 #[.agg #[.slice Aq qs.length cq,.slice Ab nb cb]] w (RetCk (ckP d qs l) w):=by
 obtain ⟨w0,hw0⟩:∃ w0,w0=w.alloc (.cells #[.slice Aq qs.length cq,.slice Ab nb cb] 27):=⟨_,rfl⟩
 have X0:=hD (show w0.heap[w.heap.size]?=some (.cells #[.slice Aq qs.length cq,.slice Ab nb cb] 27 (0,0)) by rw[hw0];exact boxed1_0 _ _)
 have b0:Below w.heap.size w w0:=by rw[hw0];exact Zq0
 have hz0:w.heap.size<w0.heap.size:=by rw[hw0];simp
 have HV:=hD (IsValidProgram_spec d lo lo' Aq cq qs l Ab nb cb w0 (hra.below b0) (hrb.below b0) hm hz hsz)
 have HW:=hD hw0
 have B0:=hD b0
 have HA:=hD hra.rd
 have HT:=hD hrb
 obtain ⟨m,hmq⟩:∃ m,m=qs.length:=⟨_,rfl⟩
 rw[←hmq] at X0 HV HW HA hcq hm ⊢
 have HM:=hD hmq
 clear hw0 b0 hra hrb hmq
 cases hp:progV d qs l
 ·have HS:Hid (ckP d qs l=bad0):=by rw[ckP,if_neg (by rw[hp];decide)];exact rfl
  rw[hp] at HV
  clear hp
  go_enter Tryz.func27,Tryz.ntmps27
  go_upto_region 1 with (fail)
  rw[←HW.out]
  obtain ⟨p0,p1⟩:=boxc2 (lay:=Below.refl _ _) X0.out
  go_wp2_with fail
  refine HV.out.mono ?_
  rintro e w1 ⟨rfl,b1,s1⟩
  have hbw:=B0.out.trans (b1.mono Zq6)
  clear b1
  go_wp2_with fail
  go_ret2
  exact ⟨by rw[HS.out];exact rfl,hbw,by omega⟩
 ·have HS:Hid (ckP d qs l=if (dupF qs 0 qs).1=0 then chkT d l qs [] else dupF qs 0 qs):=by rw[ckP,if_pos hp];exact rfl
  have hq4:=progV_len hp
  rw[←HM.out] at hq4
  have HVT:=hD (progV_validC hp)
  rw[hp] at HV
  clear hp
  go_enter Tryz.func27,Tryz.ntmps27
  go_upto_region 1 with (fail)
  rw[←HW.out]
  obtain ⟨p0,p1⟩:=boxc2 (lay:=Below.refl _ _) X0.out
  go_wp2_with fail
  refine HV.out.mono ?_
  rintro e w1 ⟨rfl,b1,s1⟩
  have B1:=hD b1
  have hz1:w.heap.size<w1.heap.size:=by omega
  clear p0 p1 b1
  go_wp2_with fail
  go_loopw [4] (fun i wr=>∃ t:Nat,t≤m∧i=.int .i64 t∧Hid (dupF qs 0 qs=dupF qs t (qs.drop t))∧Below w1.heap.size w1 wr) (fun i _=>m - (intOf i).toNat)
  case atStart=>exact ⟨0,Nat.zero_le _,rfl,rfl,Below.refl _ _⟩
  case round =>
   obtain ⟨t,ht,rfl,hd,hb⟩:=hrel
   have hbs:=hb.size
   have bb:=B1.out.trans (hb.mono Zq6)
   obtain ⟨p0,p1⟩:=boxc2 (lay:=bb) X0.out
   have HA1:=hD ((HA.out.below B0.out).below bb)
   have hzr:w.heap.size<wr.heap.size:=by omega
   clear bb
   by_cases hlt:t<m
   ·obtain ⟨q,hq⟩:∃ q,qs[t]?=some q:=⟨_,List.getElem?_eq_getElem (by rw[←HM.out];exact hlt)⟩
    obtain ⟨b,off,rfl,hbl,hcl⟩:=HA1.out.2 Zq6
    have r0:=hcl t _ (strs_at hq)
    have RT:Hid (Rd wr 1 (some ⟨b,off,none⟩) t (strs (qs.take t))):=by
     have:=HA1.out.take (t:=t) Zq6
     rw[strs_take] at this
     exact this
    have HD:=hD (hd.out.trans (dupF_at hq))
    have hlen:(qs.take t).length=t:=by rw[List.length_take,←HM.out];omega
    have HLE:=hD hlen
    have htc:t≤cq:=by omega
    have HBR:=hD hb
    clear hcl hq hd hlen hb
    cases hh:hasS (qs.take t) q
    ·have HN:Hid (dupF qs 0 qs=dupF qs (t+1) (qs.drop (t+1))):=by rw[HD.out,if_neg (by rw[hh];decide)];exact rfl
     go_wp2_with fail
     go_quiet ((go_at_call 77;exact Calls.quiet_of_same ((l1Has_any (some ⟨b,off,none⟩) t cq (qs.take t) q _ (RT.out.drewN _) HLE.out Zq6).mono fun e W h=>(⟨h.1.trans (by rw[hh]),h.2.symm⟩:e=.returned (.bool false)∧W=_))))
     go_wp2_with fail
     go_roundw
     case rel=>exact ⟨t+1,by omega,by go_num,HN,below_drewN HBR.out _⟩
     case measure=>simp [intOf];omega
    ·have HF:Hid (ckP d qs l=(1,q)):=by
      have h1:dupF qs 0 qs=(1,q):=by rw[HD.out,if_pos hh]
      rw[HS.out,h1]
      exact rfl
     go_wp2_with fail
     go_quiet ((go_at_call 77;exact Calls.quiet_of_same ((l1Has_any (some ⟨b,off,none⟩) t cq (qs.take t) q _ (RT.out.drewN _) HLE.out Zq6).mono fun e W h=>(⟨h.1.trans (by rw[hh]),h.2.symm⟩:e=.returned (.bool true)∧W=_))))
     go_wp2_with fail
     go_quiet (fail)
     go_wp2_with fail
     go_ret2
     exact ⟨by rw[HF.out];exact rfl,below_drewN (below_drewN (B0.out.trans ((B1.out.mono Zq6).trans (HBR.out.mono Zq6))) _) _,by show _≤wr.heap.size;omega⟩
   ·obtain rfl:t=m:=by omega
    have HF:Hid (ckP d qs l=chkT d l qs []):=by
     have h1:dupF qs 0 qs=bad0:=by rw[hd.out,List.drop_of_length_le (by rw[←HM.out];exact Nat.le_refl _)];rfl
     rw[HS.out,h1,if_pos (show bad0.1=0 from rfl)]
     exact rfl
    obtain ⟨wx,hwx⟩:∃ wx,wx=wr.alloc (.cells #[.slice Aq t cq,.slice none 0 0,.bool false,.slice none 0 0] 100):=⟨_,rfl⟩
    have bx:Below wr.heap.size wr wx:=by rw[hwx];exact Zq0
    have EV:EvS wx w.heap.size wr.heap.size Aq t cq [] (.slice none 0 0):=⟨by rw[hwx];exact boxed1_0 _ _,World.ownsRow_nil _ _ _ _⟩
    have bw1:Below w.heap.size w wr:=B0.out.trans ((B1.out.mono Zq6).trans (hb.mono Zq6))
    have hxs:w.heap.size≤wx.heap.size:=by have:=bx.size;omega
    have HC:=hD (l20All_top d lo' w.heap.size wr.heap.size Ab nb cb l Aq t cq qs [] (.slice none 0 0) w wx HT.out HA.out HM.out.symm (Nat.le_refl _) hxs (bw1.trans (bx.mono Zq6)) Zq6 EV Zq11 hq4 hsz HVT.out)
    have WX:=hD hwx
    have BX:=hD (bw1.trans (bx.mono Zq6))
    clear hwx bx EV bw1 hd hb
    go_wp2_with fail
    rw[←WX.out]
    refine HC.out.mono ?_
    rintro e w2 ⟨rfl,b2,s2⟩
    have HB2:=hD (BX.out.trans b2)
    obtain ⟨c,hc⟩:∃ c,c=chkT d l qs []:=⟨_,rfl⟩
    rw[←hc] at HF ⊢
    clear b2 hc
    go_wp2_with fail
    go_quiet (fail)
    go_wp2_with fail
    go_ret2
    exact ⟨by rw[HF.out];exact rfl,below_drewN (HB2.out.alloc Zq6 _) _,by simp;omega⟩
theorem oneT_kind {d:Nat} {h:SH} {bd:List (Tr d)} {names bits:List ByteArray} (hc:(oneT d h bd names bits).1.1=0) :
  (h.k=6∧hasS names (arg0 h)=true∧hasS names (arg1 h)=false∧hasS bits (arg1 h)=false∧bits.length≠3∧(oneT d h bd names bits).2=bits++[arg1 h]) ∨
  (h.k=7∧hasS bits (arg0 h)=true∧(chkN d bd names []).1=0∧(oneT d h bd names bits).2=bits) ∨
  (h.k≠6∧h.k≠7∧(oneN h (chkN d bd) names []).1=0∧(oneT d h bd names bits).2=bits):=by
 unfold oneT at hc ⊢
 by_cases h6:h.k=6
 ·rw[if_pos h6] at hc ⊢
  unfold measT at hc ⊢
  split at hc
  ·have hc:(2:Int)=0:=hc
   omega
  ·rename_i g1
   split at hc
   ·have hc:(1:Int)=0:=hc
    omega
   ·rename_i g2
    split at hc
    ·have hc:(1:Int)=0:=hc
     omega
    ·rename_i g3
     split at hc
     ·have hc:(8:Int)=0:=hc
      omega
     ·rename_i g4
      refine .inl ⟨h6,by simpa using g1,by simpa using g2,by simpa using g3,g4,?_⟩
      rw[if_neg g1,if_neg g2,if_neg g3,if_neg g4]
 ·rw[if_neg h6] at hc ⊢
  by_cases h7:h.k=7
  ·rw[if_pos h7] at hc ⊢
   by_cases hb:hasS bits (arg0 h)=true
   ·rw[if_pos hb] at hc
    exact .inr (.inl ⟨h7,hb,hc,rfl⟩)
   ·rw[if_neg hb] at hc
    have hc:(7:Int)=0:=hc
    omega
  ·rw[if_neg h7] at hc ⊢
   exact .inr (.inr ⟨h6,h7,hc,rfl⟩)
theorem cx_top {names:List ByteArray} (h4:names.length≤4):Cx names []:=⟨h4,fun a h=>by cases h⟩
theorem setIf_len (c:Int) (l:List Opt):(setIf c l).length=l.length:=by simp [setIf]
theorem top_one {d:Nat} {h:SH} {bd:List (Tr d)} {names:List ByteArray} (e:Es) (he:e.bad=false) (hm:names.length≤e.most) (h4:names.length≤4) (hv:vOne d (validT d) h bd=true) (hc:(oneT d h bd names e.bits).1.1=0) :
  (RelS (sS (sA d) h bd names e) (sS (dA d) h bd names e)∧RelS (iS (iA d) h bd names e) (sS (dA d) h bd names e)) ∧
  (sS (dA d) h bd names e).2.bits=(oneT d h bd names e.bits).2∧(sS (dA d) h bd names e).2.bad=e.bad∧e.most≤(sS (dA d) h bd names e).2.most:=by
 have hvb:=(vOne_all hv).2.2.2.2.2.2.2
 have hx:=cx_top h4
 rcases oneT_kind hc with ⟨hk,ha,_,_,_,hb⟩|⟨hk,ha,hcb,hb⟩|⟨h6,h7,hcn,hb⟩
 ·rw[sS_6 hk,sS_6 hk,iS_6 hk,hb,show ixI names (arg0 h)=fS names (arg0 h) from ix_at ha]
  exact ⟨⟨RelS.refl he,RelS.refl he⟩,rfl,rfl,Nat.le_refl _⟩
 ·rw[sS_7 hk,sS_7 hk,iS_7 hk,hb]
  obtain ⟨r1,r2⟩:=rel_nest d bd names [] hvb hcb hx e he
  rw[es_same hm] at r2
  obtain ⟨⟨b1,b2,b3⟩,_⟩:=nest_ok d bd names [] e hvb hcb hx
  have hlen:(dA d bd names e).1.length≤(setIf (fS (dA d bd names e).2.bits (arg0 h)+1) (dA d bd names e).1).length:=by rw[setIf_len];exact Nat.le_refl _
  refine ⟨⟨r1.mapE (f:=fun x e=>setIf (fS e.bits (arg0 h)+1) x) (g:=fun x e=>setIf (fS e.bits (arg0 h)+1) x) hlen rfl,?_⟩,b1,b2,b3⟩
  refine r2.mapE (f:=fun x e=>setIf (fS e.bits (arg0 h)+1) x) (g:=fun x e=>setIf (1+ixI e.bits (arg0 h)) x) hlen ?_
  show setIf (1+ixI (dA d bd names e).2.bits (arg0 h)) _=setIf (fS (dA d bd names e).2.bits (arg0 h)+1) _
  rw[b1,ix_at ha]
  unfold fS
  rw[Int.add_comm]
 ·have h1:=one_ok (nest_ok d) e hv hcn hx
  rw[hb]
  exact ⟨one_rel (rel_nest d) e he hm hv hcn hx,h1.1⟩
theorem dL_R {α:Type} {one:α→Es→List Opt × Es} (R:List α→Es→Prop) (hR:∀ s l e,R (s :: l) e→R l (one s e).2):∀ (l:List α) (out:List Opt) (e:Es),R l e→R [] (dL one l out e).2:=by
 intro l
 induction l with
 | nil=>intro out e h;exact h
 | cons s l ih=>intro out e h;exact ih _ _ (hR s l e h)
def TopQ {d:Nat} (names:List ByteArray) (l:List (Tr (d+1))) (e:Es):Prop :=
 e.bad=false∧names.length≤e.most∧(∀ s∈l,vOne d (validT d) (hdT s) (bdT s)=true)∧(topB (fun s bits=>oneT d (hdT s) (bdT s) names bits) l e.bits).1=0
theorem topQ_step {d:Nat} {names:List ByteArray} (h4:names.length≤4) {s:Tr (d+1)} {l:List (Tr (d+1))} {e:Es} (h:TopQ names (s :: l) e) :
  vOne d (validT d) (hdT s) (bdT s)=true∧(oneT d (hdT s) (bdT s) names e.bits).1.1=0∧TopQ names l (sS (dA d) (hdT s) (bdT s) names e).2:=by
 obtain ⟨q1,q2,q3,q4⟩:=h
 have hv:=q3 s (List.mem_cons_self ..)
 unfold topB at q4
 have q4:(if (oneT d (hdT s) (bdT s) names e.bits).1.1=0 then topB (fun s bits=>oneT d (hdT s) (bdT s) names bits) l (oneT d (hdT s) (bdT s) names e.bits).2 else (oneT d (hdT s) (bdT s) names e.bits).1).1=0:=q4
 split at q4
 ·rename_i h0
  obtain ⟨_,t1,t2,t3⟩:=top_one e q1 q2 h4 hv h0
  refine ⟨hv,h0,t2.trans q1,Nat.le_trans q2 t3,fun x hx=>q3 x (List.mem_cons_of_mem _ hx),?_⟩
  rw[t1]
  exact q4
 ·rename_i h0
  exact absurd q4 h0
theorem top_rel {d:Nat} {l:List (Tr d)} {names:List ByteArray} (hv:validT d l=true) (hc:(chkT d l names []).1=0) (h4:names.length≤4) :
  RelS (sA d l names ⟨[],names.length,false⟩) (dA d l names ⟨[],names.length,false⟩)∧RelS (iA d l names ⟨[],0,false⟩) (dA d l names ⟨[],names.length,false⟩) ∧
  (dA d l names ⟨[],names.length,false⟩).2.bad=false∧names.length≤(dA d l names ⟨[],names.length,false⟩).2.most:=by
 cases d with
 | zero =>
  have e0:(⟨[],max 0 names.length,false⟩:Es)=⟨[],names.length,false⟩:=by rw[Nat.zero_max]
  exact ⟨RelS.refl rfl,by show RelS ([],⟨[],max 0 names.length,false⟩) ([],⟨[],names.length,false⟩);rw[e0];exact RelS.refl rfl,rfl,Nat.le_refl _⟩
 | succ d =>
  have h0:TopQ names l ⟨[],names.length,false⟩:=⟨rfl,Nat.le_refl _,validT_all hv,hc⟩
  have hend:=dL_R (one:=fun s e=>sS (dA d) (hdT s) (bdT s) names e) (TopQ names) (fun s l e h=>(topQ_step h4 h).2.2) l [] _ h0
  refine ⟨?_,?_,hend.1,hend.2.1⟩
  ·refine relS_list (TopQ names) (fun s l' e' hq hb'=>?_) (fun s e' he'=>sS_bad (sA_bad d) _ _ _ _ he') l [] _ [] _ h0 rfl (.inl ⟨rfl,rfl,rfl⟩)
   obtain ⟨t1,t2,t3⟩:=topQ_step h4 hq
   exact ⟨(top_one e' hb' hq.2.1 h4 t1 t2).1.1,t3.1,t3⟩
  ·show RelS (iL (fun s e=>iS (iA d) (hdT s) (bdT s) names e) l [] ⟨[],max 0 names.length,false⟩) _
   rw[Nat.zero_max]
   refine relI_list (TopQ names) (fun s l' e' hq hb'=>?_) l [] _ [] _ h0 rfl (.inl ⟨rfl,rfl,rfl⟩)
   obtain ⟨t1,t2,t3⟩:=topQ_step h4 hq
   exact ⟨(top_one e' hb' hq.2.1 h4 t1 t2).1.2,t3.1,t3⟩
structure Ro where
 N:Int
 I:Int
 B:Int
 l:List Opt
 code:Int
def finR (I:Nat) (r:List Opt × Es):Ro:=if r.2.bad=true∨60<gcount r.1∨validRt r.2.most I r.2.bits.length r.1=false then ⟨0,0,0,[],2⟩ else ⟨r.2.most,I,r.2.bits.length,r.1,0⟩
theorem fin_rel {r D:List Opt × Es} (h:RelS r D) (hb:D.2.bad=false) (I:Nat):finR I r=finR I D:=by
 cases hr:r.2.bad
 ·rw[h.1 hr]
 ·have h1:=h.2 hr
  have h2:validRt D.2.most I D.2.bits.length D.1=false:=by
   unfold validRt
   rw[decide_eq_false (show ¬ D.1.length≤120 by omega)]
   simp
  unfold finR
  rw[if_pos (.inl hr),if_pos (.inr (.inr h2))]
def elaP (d:Nat) (Q:List ByteArray) (l:List (Tr d)):Ro:=if progV d Q l=true∧(ckP d Q l).1=0 then finR Q.length (dA d l Q ⟨[],Q.length,false⟩) else ⟨0,0,0,[],1⟩
theorem ck_top {d:Nat} {Q:List ByteArray} {l:List (Tr d)} (hv:progV d Q l=true) (hc:(ckP d Q l).1=0):(chkT d l Q []).1=0:=by
 unfold ckP at hc
 rw[if_pos hv] at hc
 split at hc
 ·exact hc
 ·rename_i h
  exact absurd hc h
theorem ela_spec {d:Nat} {Q:List ByteArray} {l:List (Tr d)} (hv:progV d Q l=true) (hc:(ckP d Q l).1=0):elaP d Q l=finR Q.length (sA d l Q ⟨[],Q.length,false⟩):=by
 obtain ⟨h1,_,h3,_⟩:=top_rel (progV_validC hv) (ck_top hv hc) (progV_len hv)
 unfold elaP
 rw[if_pos ⟨hv,hc⟩,fin_rel h1 h3]
theorem ela_impl {d:Nat} {Q:List ByteArray} {l:List (Tr d)} (hv:progV d Q l=true) (hc:(ckP d Q l).1=0):elaP d Q l=finR Q.length (iA d l Q ⟨[],0,false⟩):=by
 obtain ⟨_,h2,h3,_⟩:=top_rel (progV_validC hv) (ck_top hv hc) (progV_len hv)
 unfold elaP
 rw[if_pos ⟨hv,hc⟩,fin_rel h2 h3]
theorem ela_bad {d:Nat} {Q:List ByteArray} {l:List (Tr d)} (h:progV d Q l=false∨(ckP d Q l).1≠0):elaP d Q l=⟨0,0,0,[],1⟩:=by
 unfold elaP
 rw[if_neg]
 intro ⟨h1,h2⟩
 rcases h with h|h
 ·rw[h] at h1;cases h1
 ·exact h h2
end Go.Proofs.YthkbckkghnbonaaGreatDoor
