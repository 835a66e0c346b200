/- The laws' gates, operations and slices of them, read as plain data. -/
import Derived.Test.YtijocafindbebaaDoorOpen
import Derived.Test.YtijocafindbebaaDoorValidOp
namespace Go.Proofs.YtijocafindbebaaDoor
open Go.ChangeShapes Go.WideShapes Go.RowKit Go.Deep
section
variable {H : Type} {enc : TypeId × Value → H} {w : World} {base : Nat} {spare : Nat → Bool} {held : Bool}
theorem list4 {α : Type} {l : List α} (h : l.length = 4) : ∃ a b c d, l = [a, b, c, d] := by
  match l, h with
  | [a, b, c, d], _ => exact ⟨a, b, c, d, rfl⟩
theorem list5 {α : Type} {l : List α} (h : l.length = 5) : ∃ a b c d e, l = [a, b, c, d, e] := by
  match l, h with
  | [a, b, c, d, e], _ => exact ⟨a, b, c, d, e, rfl⟩
theorem list8 {α : Type} {l : List α} (h : l.length = 8) : ∃ a b c d e f g i, l = [a, b, c, d, e, f, g, i] := by
  match l, h with
  | [a, b, c, d, e, f, g, i], _ => exact ⟨a, b, c, d, e, f, g, i, rfl⟩
theorem cells_int : Tryd.prog.cellsOf 3 = 1 := by kernel_rfl
theorem int_of {n : Nat} {v : Value} {y : Option (DataW H × List MemPlace)} (hy : y.isSome = true) (h : DataW.trod enc Tryd.prog w base spare held n 3 [v] = y) : ∃ a, v = .int .i64 a := by
  obtain ⟨z, hz⟩ := Option.isSome_iff_exists.1 hy
  rw [hz] at h
  obtain ⟨a, e, _, _⟩ := DataW.trod_int Tryd.underlying3 h
  exact ⟨a, by simpa using e⟩
theorem cells_Gate : Tryd.prog.cellsOf 60 = 4 := by kernel_rfl
theorem trod_Gate (n : Nat) (cs : List Value) (y : DataW H × List MemPlace) (h : DataW.trod enc Tryd.prog w base spare held n 60 cs = some y) : ∃ g : Gt, cs = gcells g := by
  obtain ⟨ys, m, _, _, hl, hyl, hf⟩ := DataW.trod_struct Tryd.underlying60 h
  rw [cells_Gate] at hl
  obtain ⟨c0, c1, c2, c3, rfl⟩ := list4 hl
  obtain ⟨y0, y1, y2, y3, rfl⟩ := list4 hyl
  have f0 := hf 0 _ rfl
  change DataW.trod enc Tryd.prog w base spare held m 3 (([c0, c1, c2, c3].drop 0).take (Tryd.prog.cellsOf 3)) = some y0 at f0
  have f1 := hf 1 _ rfl
  change DataW.trod enc Tryd.prog w base spare held m 3 (([c0, c1, c2, c3].drop 1).take (Tryd.prog.cellsOf 3)) = some y1 at f1
  have f2 := hf 2 _ rfl
  change DataW.trod enc Tryd.prog w base spare held m 3 (([c0, c1, c2, c3].drop 2).take (Tryd.prog.cellsOf 3)) = some y2 at f2
  have f3 := hf 3 _ rfl
  change DataW.trod enc Tryd.prog w base spare held m 3 (([c0, c1, c2, c3].drop 3).take (Tryd.prog.cellsOf 3)) = some y3 at f3
  rw [cells_int] at f0 f1 f2 f3
  obtain ⟨k, rfl⟩ := int_of rfl f0
  obtain ⟨a, rfl⟩ := int_of rfl f1
  obtain ⟨b, rfl⟩ := int_of rfl f2
  obtain ⟨c, rfl⟩ := int_of rfl f3
  exact ⟨⟨k, a, b, c⟩, rfl⟩
theorem cells_Op : Tryd.prog.cellsOf 62 = 8 := by kernel_rfl
theorem trod_Op (n : Nat) (cs : List Value) (y : DataW H × List MemPlace) (h : DataW.trod enc Tryd.prog w base spare held n 62 cs = some y) : ∃ o : Opt, cs = ocells o := by
  obtain ⟨ys, m, _, _, hl, hyl, hf⟩ := DataW.trod_struct Tryd.underlying62 h
  rw [cells_Op] at hl
  obtain ⟨c0, c1, c2, c3, c4, c5, c6, c7, rfl⟩ := list8 hl
  obtain ⟨y0, y1, y2, y3, y4, rfl⟩ := list5 hyl
  have f0 := hf 0 _ rfl
  change DataW.trod enc Tryd.prog w base spare held m 3 (([c0, c1, c2, c3, c4, c5, c6, c7].drop 0).take (Tryd.prog.cellsOf 3)) = some y0 at f0
  have f1 := hf 1 _ rfl
  change DataW.trod enc Tryd.prog w base spare held m 60 (([c0, c1, c2, c3, c4, c5, c6, c7].drop 1).take (Tryd.prog.cellsOf 60)) = some y1 at f1
  have f2 := hf 2 _ rfl
  change DataW.trod enc Tryd.prog w base spare held m 3 (([c0, c1, c2, c3, c4, c5, c6, c7].drop 5).take (Tryd.prog.cellsOf 3)) = some y2 at f2
  have f3 := hf 3 _ rfl
  change DataW.trod enc Tryd.prog w base spare held m 3 (([c0, c1, c2, c3, c4, c5, c6, c7].drop 6).take (Tryd.prog.cellsOf 3)) = some y3 at f3
  have f4 := hf 4 _ rfl
  change DataW.trod enc Tryd.prog w base spare held m 3 (([c0, c1, c2, c3, c4, c5, c6, c7].drop 7).take (Tryd.prog.cellsOf 3)) = some y4 at f4
  rw [cells_int] at f0 f2 f3 f4
  rw [cells_Gate] at f1
  obtain ⟨k, rfl⟩ := int_of rfl f0
  obtain ⟨g, hg⟩ := trod_Gate _ _ _ f1
  obtain ⟨q, rfl⟩ := int_of rfl f2
  obtain ⟨b, rfl⟩ := int_of rfl f3
  obtain ⟨c, rfl⟩ := int_of rfl f4
  simp [gcells] at hg
  obtain ⟨rfl, rfl, rfl, rfl⟩ := hg
  exact ⟨⟨k, g, q, b, c⟩, rfl⟩
theorem ocells_length (o : Opt) : (ocells o).length = 8 := rfl
end
end Go.Proofs.YtijocafindbebaaDoor
