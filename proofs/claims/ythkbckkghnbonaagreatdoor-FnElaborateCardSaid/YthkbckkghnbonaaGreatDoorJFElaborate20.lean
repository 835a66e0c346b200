/- What the calls that this law reaches answer, part 20 of 20. -/
import Derived.Test.YthkbckkghnbonaaGreatDoorJFElaborate4
import Derived.Test.YthkbckkghnbonaaGreatDoorJFElaborate1
import Derived.Test.YthkbckkghnbonaaGreatDoorProg
set_option maxRecDepth 100000
set_option maxHeartbeats 16000000
set_option linter.unusedVariables false
namespace Go.Proofs.YthkbckkghnbonaaGreatDoor
open Go.ChangeShapes Go.WideShapes Go.RowKit Go.Deep
theorem yp5:Tryz.prog.cellsOf 5=1:=by kernel_rfl
theorem yr2 {H:Type} {enc:TypeId × Value→H} {w:World} {base:Nat} {spare:Nat→Bool} {held:Bool} (n:Nat) (cs:List Value) (y:DataW H × List MemPlace) (h:DataW.trod enc Tryz.prog w base spare held n 5 cs=some y):∃ g:Fin 256,cs=ye7 g:=by
 obtain ⟨a,e,h1,h2⟩:=DataW.trod_int Tryz.underlying5 h
 simp [Lit.wf,IntKind.min,IntKind.max,IntKind.signed,IntKind.bits] at h2
 exact ⟨⟨a.toNat,by omega⟩,by rw[e];simp [ye7];omega⟩
end Go.Proofs.YthkbckkghnbonaaGreatDoor
namespace Go.Proofs.YthkbckkghnbonaaGreatDoor
open Go.RowKit
theorem yox (A:Option Addr) (n c:Nat) (w:World) (hn:n≤9223372036854775807):Calls Tryz.prog 7 #[.slice A n c] w fun e w'=>e=.returned (.bool (decide (1048576<n)))∧w=w':=by
 by_cases h:1048576<n
 ·go_enter Tryz.func7,Tryz.ntmps7
  go_wp2_with fail
  go_ret
  exact ⟨by simp [h];omega,rfl⟩
 ·go_enter Tryz.func7,Tryz.ntmps7
  go_wp2_with fail
  go_ret
  exact ⟨by simp [h];omega,rfl⟩
end Go.Proofs.YthkbckkghnbonaaGreatDoor
