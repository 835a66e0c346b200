/- What the calls that this law reaches answer, part 30 of 30. -/
import Derived.Test.YtbamjfbfipkioaaDoorJFCheck1
import Derived.Test.YtbamjfbfipkioaaDoorJFCheck2
import Derived.Test.YtbamjfbfipkioaaDoorJFCheck15
import Derived.Test.YtbamjfbfipkioaaDoorJFCheck21
import Derived.Test.YtbamjfbfipkioaaDoorJFCheck19
import Derived.Test.YtbamjfbfipkioaaDoorProg
namespace Go.Proofs.YtbamjfbfipkioaaDoor
open Go.RowKit

def checkNames : List (List UInt8) := [[111, 107], [100, 117, 112, 108, 105, 99, 97, 116, 101], [117, 110, 107, 110, 111, 119, 110], [114, 101, 112, 101, 97, 116, 101, 100, 45, 111, 112, 101, 114, 97, 110, 100], [99, 111, 110, 116, 114, 111, 108, 45, 105, 110, 45, 117, 115, 101], [116, 111, 111, 45, 109, 97, 110, 121, 45, 113, 117, 98, 105, 116, 115], [110, 101, 115, 116, 101, 100], [117, 110, 115, 101, 116, 45, 98, 105, 116], [116, 111, 111, 45, 109, 97, 110, 121, 45, 98, 105, 116, 115], [110, 111, 116, 45, 99, 111, 110, 116, 114, 111, 108, 108, 97, 98, 108, 101]]
def checkName (n : Int) : List UInt8 := if inB n 0 9 then checkNames.getD n.toNat [] else [63]
theorem checkName_out {n : Int} (h : inB n 0 9 = false) : checkName n = [63] := by simp [checkName, h]
theorem in09 {n : Int} (h : inB n 0 9 = true) : n = 0 ∨ n = 1 ∨ n = 2 ∨ n = 3 ∨ n = 4 ∨ n = 5 ∨ n = 6 ∨ n = 7 ∨ n = 8 ∨ n = 9 := by
  have := inB_iff.1 h; omega
set_option maxRecDepth 100000 in
set_option maxHeartbeats 1000000 in
theorem CheckErrorName_impl (n : Int) (w : World) : Calls Tryd.prog 16 #[.int .i64 n] w fun e w' => e = .returned (.string ⟨(checkName n).toArray⟩) ∧ Below w.heap.size w w' := by
  cases hb : inB n 0 9
  · rw [checkName_out hb]
    go_enter Tryd.func16, Tryd.ntmps16
    go_wp2_with (go_at_call 27; refine (in_any _ _ _ _).mono ?_; rintro e w' ⟨rfl, rfl⟩)
    go_ret
    exact ⟨rfl, Below.refl _ _⟩
  · rcases in09 hb with rfl | rfl | rfl | rfl | rfl | rfl | rfl | rfl | rfl | rfl
    all_goals
      go_enter Tryd.func16, Tryd.ntmps16
      go_wp2_with (go_at_call 27; refine (in_any _ _ _ _).mono ?_; rintro e w' ⟨rfl, rfl⟩)
      go_ret
      exact ⟨rfl, (Below.refl _ _).alloc (Nat.le_refl _) _⟩
set_option maxRecDepth 100000 in
set_option maxHeartbeats 1000000 in
theorem CheckErrorName_spec (n : Int) (w : World) : Calls Tryd.prog 17 #[.int .i64 n] w fun e w' => e = .returned (.string ⟨(checkName n).toArray⟩) ∧ Below w.heap.size w w' := by
  cases hb : inB n 0 9
  · rw [checkName_out hb]
    go_enter Tryd.func17, Tryd.ntmps17
    go_wp2_with (go_at_call 30; refine (l1In_any _ _ _ _).mono ?_; rintro e w' ⟨rfl, rfl⟩)
    go_ret
    exact ⟨rfl, Below.refl _ _⟩
  · rcases in09 hb with rfl | rfl | rfl | rfl | rfl | rfl | rfl | rfl | rfl | rfl
    all_goals
      go_enter Tryd.func17, Tryd.ntmps17
      go_wp2_with (go_at_call 30; refine (l1In_any _ _ _ _).mono ?_; rintro e w' ⟨rfl, rfl⟩)
      go_ret
      exact ⟨rfl, (Below.refl _ _).alloc (Nat.le_refl _) _⟩
end Go.Proofs.YtbamjfbfipkioaaDoor
namespace Go.Proofs.YtbamjfbfipkioaaDoor
open Go.RowKit
set_option linter.unusedVariables false
theorem RdT.take {w : World} {lo d n : Nat} {A : Option Addr} {l : List (Tr (d + 1))} (h : RdT w lo (d + 1) A n l) {t : Nat} (ht : t ≤ n) : RdT w lo (d + 1) A t (l.take t) := by
  refine ⟨by rw [List.length_take, h.1]; omega, fun h0 => ?_⟩
  obtain ⟨b, off, e, h1, hb, hc⟩ := h.2 (by omega)
  refine ⟨b, off, e, h1, hb, fun i s hi => hc i s ?_⟩
  rw [List.getElem?_take] at hi
  split at hi
  · exact hi
  · cases hi
theorem RdT.drop {w : World} {lo d n b off : Nat} {l : List (Tr (d + 1))} (h : RdT w lo (d + 1) (some ⟨b, off, none⟩) n l) {t : Nat} (ht : t ≤ n) : RdT w lo (d + 1) (some ⟨b, off + t * 5, none⟩) (n - t) (l.drop t) := by
  refine ⟨by rw [List.length_drop, h.1], fun h0 => ?_⟩
  obtain ⟨b', off', e, h1, hb, hc⟩ := h.2 (by omega)
  injection e with e
  injection e with e1 e2
  subst e1 e2
  refine ⟨b, off + t * 5, rfl, h1, hb, fun i s hi => ?_⟩
  rw [List.getElem?_drop] at hi
  obtain ⟨Aa, ca, Ab, nb, cb, h1, h2⟩ := hc _ s hi
  rw [show off + (t + i) * 5 = off + t * 5 + i * 5 by omega] at h1
  exact ⟨Aa, ca, Ab, nb, cb, h1, h2⟩
theorem sz_cut {d : Nat} (l : List (Tr (d + 1))) (t : Nat) : szT (d + 1) l = szT (d + 1) (l.take t) + szT (d + 1) (l.drop t) := by
  conv => lhs; rw [← List.take_append_drop t l]
  rw [szT_append]
end Go.Proofs.YtbamjfbfipkioaaDoor
namespace Go.Proofs.YtbamjfbfipkioaaDoor
open Go.ChangeShapes Go.WideShapes Go.RowKit Go.Deep
theorem cells_byte : Tryd.prog.cellsOf 5 = 1 := by kernel_rfl
theorem trod_byte {H : Type} {enc : TypeId × Value → H} {w : World} {base : Nat} {spare : Nat → Bool} {held : Bool} (n : Nat) (cs : List Value) (y : DataW H × List MemPlace) (h : DataW.trod enc Tryd.prog w base spare held n 5 cs = some y) : ∃ g : Fin 256, cs = bcell g := by
  obtain ⟨a, e, h1, h2⟩ := DataW.trod_int Tryd.underlying5 h
  simp [Lit.wf, IntKind.min, IntKind.max, IntKind.signed, IntKind.bits] at h2
  exact ⟨⟨a.toNat, by omega⟩, by rw [e]; simp [bcell]; omega⟩
end Go.Proofs.YtbamjfbfipkioaaDoor
namespace Go.Proofs.YtbamjfbfipkioaaDoor
open Go.RowKit
set_option maxRecDepth 100000 in
theorem big_law (A : Option Addr) (n c : Nat) (w : World) (hn : n ≤ 9223372036854775807) : Calls Tryd.prog 5 #[.slice A n c] w fun e w' => e = .returned (.bool (decide (1048576 < n))) ∧ w = w' := by
  by_cases h : 1048576 < n
  · go_enter Tryd.func5, Tryd.ntmps5
    go_wp2_with fail
    go_ret
    exact ⟨by simp [h]; omega, rfl⟩
  · go_enter Tryd.func5, Tryd.ntmps5
    go_wp2_with fail
    go_ret
    exact ⟨by simp [h]; omega, rfl⟩
end Go.Proofs.YtbamjfbfipkioaaDoor
