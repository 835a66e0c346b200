/- The laws' codes: slices of bytes, read as plain data. -/
import Derived.Test.YtgjpicekdbemiaaDraw
import Derived.Test.YtgjpicekdbemiaaOpen
namespace Go.Proofs.Ytgjpicekdbemiaa
open Go.ChangeShapes Go.WideShapes Go.RowKit Go.Deep
theorem cells_byte : Try.prog.cellsOf 5 = 1 := by kernel_rfl
theorem trod_byte {H : Type} {enc : TypeId × Value → H} {w : World} {base : Nat} {spare : Nat → Bool} {held : Bool} (n : Nat) (cs : List Value) (y : DataW H × List MemPlace) (h : DataW.trod enc Try.prog w base spare held n 5 cs = some y) : ∃ g : Fin 256, cs = bcell g := by
  obtain ⟨a, e, h1, h2⟩ := DataW.trod_int Try.underlying5 h
  simp [Lit.wf, IntKind.min, IntKind.max, IntKind.signed, IntKind.bits] at h2
  exact ⟨⟨a.toNat, by omega⟩, by rw [e]; simp [bcell]; omega⟩
end Go.Proofs.Ytgjpicekdbemiaa
