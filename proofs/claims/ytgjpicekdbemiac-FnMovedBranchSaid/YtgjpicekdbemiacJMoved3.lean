/- What the calls that this law reaches answer, part 3 of 9. -/
import Derived.Test.YtgjpicekdbemiacJMoved2
import Derived.Test.YtgjpicekdbemiacJMoved1
namespace Go.Proofs.Ytgjpicekdbemiac
open Go.RowKit
set_option linter.unusedVariables false
theorem cells_i (i : Nat) (y : Zw) : [(⟨i, y, 0⟩ : Snt)].flatMap scells = icells i y := by simp [scells, icells]
theorem cells_f {i q : Nat} (t : Bool) (hi : i < 16) (hq : q < 4) (y : Zw) : [(⟨if t = true then fl i q else i, y, 0⟩ : Snt)].flatMap scells = icells (if t = true then xfl i q else i) y := by
  rw [cells_i]
  cases t
  · rfl
  · rw [if_pos rfl, if_pos rfl, xfl_nat hi hq]
theorem sh_nat {a : Nat} (ha : a < 4) : IntKind.i64.wrap (2 ^ min (IntKind.u64.wrap (a : Int)).toNat 64) = wrap64 (2 ^ a) := by
  obtain rfl | rfl | rfl | rfl : a = 0 ∨ a = 1 ∨ a = 2 ∨ a = 3 := by omega
  all_goals decide +kernel
set_option maxRecDepth 100000 in
set_option maxHeartbeats 4000000 in
theorem l10Goes_1 (a b c i : Nat) (w : World) (ha : a < 4) (hb : b < 4) (hc : c < 4) (hi : i < 16) : Calls Try.prog 51 #[.agg #[.int .i64 1, .int .i64 a, .int .i64 b, .int .i64 c], .int .i64 i] w (RetRow 98 6 w 1 ((goes ⟨1, a, b, c⟩ i).flatMap scells)) := by
  have e : (goes ⟨1, a, b, c⟩ i).flatMap scells = icells (xfl i a) (zph 0) := (cells_f true hi ha (zph 0))
  obtain ⟨X, hX⟩ : ∃ X, X = icells (xfl i a) (zph 0) := ⟨_, rfl⟩
  rw [e, ← hX]
  have HX := Lib.hid hX
  clear hX
  clear e
  go_enter Try.func51, Try.ntmps51
  go_wp2_with fail
  refine (l10Flip_any i true a ha _).mono ?_
  rintro e w1 ⟨v, rfl, hown, hb1, hs1⟩
  go_wp2_with fail
  go_ret
  refine ⟨v, rfl, ?_, ?_, ?_⟩
  · rw [HX.out]; exact own_lowS hown (by simp)
  · exact (by repeat (first | exact Below.refl _ _ | assumption | (refine Below.trans ?_ (Below.mono (by assumption) (by first | omega | (simp; done) | (simp; omega)))) | (with_reducible refine Below.drew ?_) | (with_reducible refine Below.alloc ?_ (by first | omega | (simp; done) | (simp; omega)) _) | (with_reducible refine Below.setCell ?_ (by first | omega | (simp; done) | (simp; omega)) _)))
  · have := hb1.size; simp at this; omega
set_option maxRecDepth 100000 in
set_option maxHeartbeats 4000000 in
theorem l10Goes_3 (a b c i : Nat) (w : World) (ha : a < 4) (hb : b < 4) (hc : c < 4) (hi : i < 16) : Calls Try.prog 51 #[.agg #[.int .i64 3, .int .i64 a, .int .i64 b, .int .i64 c], .int .i64 i] w (RetRow 98 6 w 1 ((goes ⟨3, a, b, c⟩ i).flatMap scells)) := by
  have e : (goes ⟨3, a, b, c⟩ i).flatMap scells = icells i (zph (if bti i a = true then 4 else 0)) := by rw [bti_nat hi ha]; exact cells_i i _
  obtain ⟨X, hX⟩ : ∃ X, X = icells i (zph (if bti i a = true then 4 else 0)) := ⟨_, rfl⟩
  rw [e, ← hX]
  have HX := Lib.hid hX
  clear hX
  clear e
  go_enter Try.func51, Try.ntmps51
  go_wp2_with fail
  refine (l10Phase_any i (bti i a) 4 (by decide) _).mono ?_
  rintro e w1 ⟨v, rfl, hown, hb1, hs1⟩
  go_wp2_with fail
  go_ret
  refine ⟨v, rfl, ?_, ?_, ?_⟩
  · rw [HX.out]; exact own_lowS hown (by simp)
  · exact (by repeat (first | exact Below.refl _ _ | assumption | (refine Below.trans ?_ (Below.mono (by assumption) (by first | omega | (simp; done) | (simp; omega)))) | (with_reducible refine Below.drew ?_) | (with_reducible refine Below.alloc ?_ (by first | omega | (simp; done) | (simp; omega)) _) | (with_reducible refine Below.setCell ?_ (by first | omega | (simp; done) | (simp; omega)) _)))
  · have := hb1.size; simp at this; omega
set_option maxRecDepth 100000 in
set_option maxHeartbeats 4000000 in
theorem l10Goes_5 (a b c i : Nat) (w : World) (ha : a < 4) (hb : b < 4) (hc : c < 4) (hi : i < 16) : Calls Try.prog 51 #[.agg #[.int .i64 5, .int .i64 a, .int .i64 b, .int .i64 c], .int .i64 i] w (RetRow 98 6 w 1 ((goes ⟨5, a, b, c⟩ i).flatMap scells)) := by
  have e : (goes ⟨5, a, b, c⟩ i).flatMap scells = icells i (zph (if bti i a = true then 2 else 0)) := by rw [bti_nat hi ha]; exact cells_i i _
  obtain ⟨X, hX⟩ : ∃ X, X = icells i (zph (if bti i a = true then 2 else 0)) := ⟨_, rfl⟩
  rw [e, ← hX]
  have HX := Lib.hid hX
  clear hX
  clear e
  go_enter Try.func51, Try.ntmps51
  go_wp2_with fail
  refine (l10Phase_any i (bti i a) 2 (by decide) _).mono ?_
  rintro e w1 ⟨v, rfl, hown, hb1, hs1⟩
  go_wp2_with fail
  go_ret
  refine ⟨v, rfl, ?_, ?_, ?_⟩
  · rw [HX.out]; exact own_lowS hown (by simp)
  · exact (by repeat (first | exact Below.refl _ _ | assumption | (refine Below.trans ?_ (Below.mono (by assumption) (by first | omega | (simp; done) | (simp; omega)))) | (with_reducible refine Below.drew ?_) | (with_reducible refine Below.alloc ?_ (by first | omega | (simp; done) | (simp; omega)) _) | (with_reducible refine Below.setCell ?_ (by first | omega | (simp; done) | (simp; omega)) _)))
  · have := hb1.size; simp at this; omega
set_option maxRecDepth 100000 in
set_option maxHeartbeats 4000000 in
theorem l10Goes_6 (a b c i : Nat) (w : World) (ha : a < 4) (hb : b < 4) (hc : c < 4) (hi : i < 16) : Calls Try.prog 51 #[.agg #[.int .i64 6, .int .i64 a, .int .i64 b, .int .i64 c], .int .i64 i] w (RetRow 98 6 w 1 ((goes ⟨6, a, b, c⟩ i).flatMap scells)) := by
  have e : (goes ⟨6, a, b, c⟩ i).flatMap scells = icells i (zph (if bti i a = true then 6 else 0)) := by rw [bti_nat hi ha]; exact cells_i i _
  obtain ⟨X, hX⟩ : ∃ X, X = icells i (zph (if bti i a = true then 6 else 0)) := ⟨_, rfl⟩
  rw [e, ← hX]
  have HX := Lib.hid hX
  clear hX
  clear e
  go_enter Try.func51, Try.ntmps51
  go_wp2_with fail
  refine (l10Phase_any i (bti i a) 6 (by decide) _).mono ?_
  rintro e w1 ⟨v, rfl, hown, hb1, hs1⟩
  go_wp2_with fail
  go_ret
  refine ⟨v, rfl, ?_, ?_, ?_⟩
  · rw [HX.out]; exact own_lowS hown (by simp)
  · exact (by repeat (first | exact Below.refl _ _ | assumption | (refine Below.trans ?_ (Below.mono (by assumption) (by first | omega | (simp; done) | (simp; omega)))) | (with_reducible refine Below.drew ?_) | (with_reducible refine Below.alloc ?_ (by first | omega | (simp; done) | (simp; omega)) _) | (with_reducible refine Below.setCell ?_ (by first | omega | (simp; done) | (simp; omega)) _)))
  · have := hb1.size; simp at this; omega
set_option maxRecDepth 100000 in
set_option maxHeartbeats 4000000 in
theorem l10Goes_7 (a b c i : Nat) (w : World) (ha : a < 4) (hb : b < 4) (hc : c < 4) (hi : i < 16) : Calls Try.prog 51 #[.agg #[.int .i64 7, .int .i64 a, .int .i64 b, .int .i64 c], .int .i64 i] w (RetRow 98 6 w 1 ((goes ⟨7, a, b, c⟩ i).flatMap scells)) := by
  have e : (goes ⟨7, a, b, c⟩ i).flatMap scells = icells i (zph (if bti i a = true then 1 else 0)) := by rw [bti_nat hi ha]; exact cells_i i _
  obtain ⟨X, hX⟩ : ∃ X, X = icells i (zph (if bti i a = true then 1 else 0)) := ⟨_, rfl⟩
  rw [e, ← hX]
  have HX := Lib.hid hX
  clear hX
  clear e
  go_enter Try.func51, Try.ntmps51
  go_wp2_with fail
  refine (l10Phase_any i (bti i a) 1 (by decide) _).mono ?_
  rintro e w1 ⟨v, rfl, hown, hb1, hs1⟩
  go_wp2_with fail
  go_ret
  refine ⟨v, rfl, ?_, ?_, ?_⟩
  · rw [HX.out]; exact own_lowS hown (by simp)
  · exact (by repeat (first | exact Below.refl _ _ | assumption | (refine Below.trans ?_ (Below.mono (by assumption) (by first | omega | (simp; done) | (simp; omega)))) | (with_reducible refine Below.drew ?_) | (with_reducible refine Below.alloc ?_ (by first | omega | (simp; done) | (simp; omega)) _) | (with_reducible refine Below.setCell ?_ (by first | omega | (simp; done) | (simp; omega)) _)))
  · have := hb1.size; simp at this; omega
set_option maxRecDepth 100000 in
set_option maxHeartbeats 4000000 in
theorem l10Goes_8 (a b c i : Nat) (w : World) (ha : a < 4) (hb : b < 4) (hc : c < 4) (hi : i < 16) : Calls Try.prog 51 #[.agg #[.int .i64 8, .int .i64 a, .int .i64 b, .int .i64 c], .int .i64 i] w (RetRow 98 6 w 1 ((goes ⟨8, a, b, c⟩ i).flatMap scells)) := by
  have e : (goes ⟨8, a, b, c⟩ i).flatMap scells = icells i (zph (if bti i a = true then 7 else 0)) := by rw [bti_nat hi ha]; exact cells_i i _
  obtain ⟨X, hX⟩ : ∃ X, X = icells i (zph (if bti i a = true then 7 else 0)) := ⟨_, rfl⟩
  rw [e, ← hX]
  have HX := Lib.hid hX
  clear hX
  clear e
  go_enter Try.func51, Try.ntmps51
  go_wp2_with fail
  refine (l10Phase_any i (bti i a) 7 (by decide) _).mono ?_
  rintro e w1 ⟨v, rfl, hown, hb1, hs1⟩
  go_wp2_with fail
  go_ret
  refine ⟨v, rfl, ?_, ?_, ?_⟩
  · rw [HX.out]; exact own_lowS hown (by simp)
  · exact (by repeat (first | exact Below.refl _ _ | assumption | (refine Below.trans ?_ (Below.mono (by assumption) (by first | omega | (simp; done) | (simp; omega)))) | (with_reducible refine Below.drew ?_) | (with_reducible refine Below.alloc ?_ (by first | omega | (simp; done) | (simp; omega)) _) | (with_reducible refine Below.setCell ?_ (by first | omega | (simp; done) | (simp; omega)) _)))
  · have := hb1.size; simp at this; omega
set_option maxRecDepth 100000 in
set_option maxHeartbeats 4000000 in
theorem l10Goes_9 (a b c i : Nat) (w : World) (ha : a < 4) (hb : b < 4) (hc : c < 4) (hi : i < 16) : Calls Try.prog 51 #[.agg #[.int .i64 9, .int .i64 a, .int .i64 b, .int .i64 c], .int .i64 i] w (RetRow 98 6 w 1 ((goes ⟨9, a, b, c⟩ i).flatMap scells)) := by
  have e : (goes ⟨9, a, b, c⟩ i).flatMap scells = icells (if bti i a = true then xfl i b else i) (zph 0) := by rw [bti_nat hi ha]; exact cells_f _ hi hb (zph 0)
  obtain ⟨X, hX⟩ : ∃ X, X = icells (if bti i a = true then xfl i b else i) (zph 0) := ⟨_, rfl⟩
  rw [e, ← hX]
  have HX := Lib.hid hX
  clear hX
  clear e
  go_enter Try.func51, Try.ntmps51
  go_wp2_with fail
  refine (l10Flip_any i (bti i a) b hb _).mono ?_
  rintro e w1 ⟨v, rfl, hown, hb1, hs1⟩
  go_wp2_with fail
  go_ret
  refine ⟨v, rfl, ?_, ?_, ?_⟩
  · rw [HX.out]; exact own_lowS hown (by simp)
  · exact (by repeat (first | exact Below.refl _ _ | assumption | (refine Below.trans ?_ (Below.mono (by assumption) (by first | omega | (simp; done) | (simp; omega)))) | (with_reducible refine Below.drew ?_) | (with_reducible refine Below.alloc ?_ (by first | omega | (simp; done) | (simp; omega)) _) | (with_reducible refine Below.setCell ?_ (by first | omega | (simp; done) | (simp; omega)) _)))
  · have := hb1.size; simp at this; omega
set_option maxRecDepth 100000 in
set_option maxHeartbeats 4000000 in
theorem l10Goes_10 (a b c i : Nat) (w : World) (ha : a < 4) (hb : b < 4) (hc : c < 4) (hi : i < 16) : Calls Try.prog 51 #[.agg #[.int .i64 10, .int .i64 a, .int .i64 b, .int .i64 c], .int .i64 i] w (RetRow 98 6 w 1 ((goes ⟨10, a, b, c⟩ i).flatMap scells)) := by
  have e : (goes ⟨10, a, b, c⟩ i).flatMap scells = icells i (zph (if (bti i a && bti i b) = true then 4 else 0)) := by rw [bti_nat hi ha, bti_nat hi hb]; exact cells_i i _
  obtain ⟨X, hX⟩ : ∃ X, X = icells i (zph (if (bti i a && bti i b) = true then 4 else 0)) := ⟨_, rfl⟩
  rw [e, ← hX]
  have HX := Lib.hid hX
  clear hX
  clear e
  cases hA : bti i a
  · have hA' : (bits BinOp.and IntKind.i64 ((i : Int) / 2 ^ a) 1 == 1) = false := hA
    rw [hA, Bool.false_and] at HX
    clear hA
    go_enter Try.func51, Try.ntmps51
    go_wp2_with fail
    refine (l10Phase_any i false 4 (by decide) _).mono ?_
    rintro e w1 ⟨v, rfl, hown, hb1, hs1⟩
    go_wp2_with fail
    go_ret
    refine ⟨v, rfl, ?_, ?_, ?_⟩
    · rw [HX.out]; exact own_lowS hown (by simp)
    · exact (by repeat (first | exact Below.refl _ _ | assumption | (refine Below.trans ?_ (Below.mono (by assumption) (by first | omega | (simp; done) | (simp; omega)))) | (with_reducible refine Below.drew ?_) | (with_reducible refine Below.alloc ?_ (by first | omega | (simp; done) | (simp; omega)) _) | (with_reducible refine Below.setCell ?_ (by first | omega | (simp; done) | (simp; omega)) _)))
    · have := hb1.size; simp at this; omega
  · have hA' : (bits BinOp.and IntKind.i64 ((i : Int) / 2 ^ a) 1 == 1) = true := hA
    rw [hA, Bool.true_and] at HX
    clear hA
    go_enter Try.func51, Try.ntmps51
    go_wp2_with fail
    refine (l10Phase_any i (bti i b) 4 (by decide) _).mono ?_
    rintro e w1 ⟨v, rfl, hown, hb1, hs1⟩
    go_wp2_with fail
    go_ret
    refine ⟨v, rfl, ?_, ?_, ?_⟩
    · rw [HX.out]; exact own_lowS hown (by simp)
    · exact (by repeat (first | exact Below.refl _ _ | assumption | (refine Below.trans ?_ (Below.mono (by assumption) (by first | omega | (simp; done) | (simp; omega)))) | (with_reducible refine Below.drew ?_) | (with_reducible refine Below.alloc ?_ (by first | omega | (simp; done) | (simp; omega)) _) | (with_reducible refine Below.setCell ?_ (by first | omega | (simp; done) | (simp; omega)) _)))
    · have := hb1.size; simp at this; omega
set_option maxRecDepth 100000 in
set_option maxHeartbeats 4000000 in
theorem l10Goes_12 (a b c i : Nat) (w : World) (ha : a < 4) (hb : b < 4) (hc : c < 4) (hi : i < 16) : Calls Try.prog 51 #[.agg #[.int .i64 12, .int .i64 a, .int .i64 b, .int .i64 c], .int .i64 i] w (RetRow 98 6 w 1 ((goes ⟨12, a, b, c⟩ i).flatMap scells)) := by
  have e : (goes ⟨12, a, b, c⟩ i).flatMap scells = icells (if (bti i a && bti i b) = true then xfl i c else i) (zph 0) := by rw [bti_nat hi ha, bti_nat hi hb]; exact cells_f _ hi hc (zph 0)
  obtain ⟨X, hX⟩ : ∃ X, X = icells (if (bti i a && bti i b) = true then xfl i c else i) (zph 0) := ⟨_, rfl⟩
  rw [e, ← hX]
  have HX := Lib.hid hX
  clear hX
  clear e
  cases hA : bti i a
  · have hA' : (bits BinOp.and IntKind.i64 ((i : Int) / 2 ^ a) 1 == 1) = false := hA
    rw [hA, Bool.false_and] at HX
    clear hA
    go_enter Try.func51, Try.ntmps51
    go_wp2_with fail
    refine (l10Flip_any i false c hc _).mono ?_
    rintro e w1 ⟨v, rfl, hown, hb1, hs1⟩
    go_wp2_with fail
    go_ret
    refine ⟨v, rfl, ?_, ?_, ?_⟩
    · rw [HX.out]; exact own_lowS hown (by simp)
    · exact (by repeat (first | exact Below.refl _ _ | assumption | (refine Below.trans ?_ (Below.mono (by assumption) (by first | omega | (simp; done) | (simp; omega)))) | (with_reducible refine Below.drew ?_) | (with_reducible refine Below.alloc ?_ (by first | omega | (simp; done) | (simp; omega)) _) | (with_reducible refine Below.setCell ?_ (by first | omega | (simp; done) | (simp; omega)) _)))
    · have := hb1.size; simp at this; omega
  · have hA' : (bits BinOp.and IntKind.i64 ((i : Int) / 2 ^ a) 1 == 1) = true := hA
    rw [hA, Bool.true_and] at HX
    clear hA
    go_enter Try.func51, Try.ntmps51
    go_wp2_with fail
    refine (l10Flip_any i (bti i b) c hc _).mono ?_
    rintro e w1 ⟨v, rfl, hown, hb1, hs1⟩
    go_wp2_with fail
    go_ret
    refine ⟨v, rfl, ?_, ?_, ?_⟩
    · rw [HX.out]; exact own_lowS hown (by simp)
    · exact (by repeat (first | exact Below.refl _ _ | assumption | (refine Below.trans ?_ (Below.mono (by assumption) (by first | omega | (simp; done) | (simp; omega)))) | (with_reducible refine Below.drew ?_) | (with_reducible refine Below.alloc ?_ (by first | omega | (simp; done) | (simp; omega)) _) | (with_reducible refine Below.setCell ?_ (by first | omega | (simp; done) | (simp; omega)) _)))
    · have := hb1.size; simp at this; omega
set_option maxRecDepth 100000 in
set_option maxHeartbeats 4000000 in
theorem l10Goes_2 (a b c i : Nat) (w : World) (ha : a < 4) (hb : b < 4) (hc : c < 4) (hi : i < 16) : Calls Try.prog 51 #[.agg #[.int .i64 2, .int .i64 a, .int .i64 b, .int .i64 c], .int .i64 i] w (RetRow 98 6 w 1 ((goes ⟨2, a, b, c⟩ i).flatMap scells)) := by
  have e : (goes ⟨2, a, b, c⟩ i).flatMap scells = icells (xfl i a) (zph (if bti i a = true then 6 else 2)) := by rw [bti_nat hi ha, xfl_nat hi ha]; exact cells_i _ _
  obtain ⟨X, hX⟩ : ∃ X, X = icells (xfl i a) (zph (if bti i a = true then 6 else 2)) := ⟨_, rfl⟩
  rw [e, ← hX]
  have HX := Lib.hid hX
  clear hX
  clear e
  have hP6 : ∀ W : World, Calls Try.prog 56 #[.int .i64 6] W (Ret (.agg #[.int .i64 0, .int .i64 0, .int .i64 (-1), .int .i64 0, .int .i64 0]) W) := fun W => PhaseFactor_any 6 (by decide) W
  have hP2 : ∀ W : World, Calls Try.prog 56 #[.int .i64 2] W (Ret (.agg #[.int .i64 0, .int .i64 0, .int .i64 1, .int .i64 0, .int .i64 0]) W) := fun W => PhaseFactor_any 2 (by decide) W
  cases hA : bti i a
  · have hA' : (bits BinOp.and IntKind.i64 ((i : Int) / 2 ^ a) 1 == 1) = false := hA
    go_enter Try.func51, Try.ntmps51
    go_wp2_with fail
    obtain ⟨w0, hw0⟩ : ∃ w0, w0 = w.alloc (.cells #[.int .i64 2, .int .i64 a, .int .i64 b, .int .i64 c] 72) := ⟨_, rfl⟩
    rw [← hw0]
    have x0 : Hid (w0.heap[w.heap.size]? = some (.cells #[.int .i64 2, .int .i64 a, .int .i64 b, .int .i64 c] 72 (0, 0))) := by rw [hw0]; exact boxed1_0 _ _
    have b0 : Below w.heap.size w w0 := by rw [hw0]; exact (by repeat (first | exact Below.refl _ _ | assumption | (refine Below.trans ?_ (Below.mono (by assumption) (by first | omega | (simp; done) | (simp; omega)))) | (with_reducible refine Below.drew ?_) | (with_reducible refine Below.alloc ?_ (by first | omega | (simp; done) | (simp; omega)) _) | (with_reducible refine Below.setCell ?_ (by first | omega | (simp; done) | (simp; omega)) _)))
    have s0 : w.heap.size < w0.heap.size := by rw [hw0]; simp
    clear hw0
    have p1 := cell_at (j := 1) x0.out rfl
    go_region_held3 (fun W => W.cell? ⟨w.heap.size, 1, none⟩ = some (.int .i64 a))
      (first | exact p1 | exact (hb1.cell (p := ⟨w.heap.size, 1, none⟩) s0).trans p1 | exact ((hb1.alloc hb1.size _).cell (p := ⟨w.heap.size, 1, none⟩) s0).trans p1)
      (first | (go_at_call 56; (with_reducible refine (hP2 _).mono ?_); rintro e w1 ⟨rfl, hb1, hs1⟩))
    all_goals go_wp2_with fail
    all_goals go_ret
    refine retRow_lit ?_ ?_ ?_ ?_ ?_ ?_
    · have := hb1.size; simp at this; omega
    · exact (by repeat (first | exact Below.refl _ _ | assumption | (refine Below.trans ?_ (Below.mono (by assumption) (by first | omega | (simp; done) | (simp; omega)))) | (with_reducible refine Below.drew ?_) | (with_reducible refine Below.alloc ?_ (by first | omega | (simp; done) | (simp; omega)) _) | (with_reducible refine Below.setCell ?_ (by first | omega | (simp; done) | (simp; omega)) _)))
    · rfl
    · decide
    · rw [HX.out, hA, sh_nat ha]
      rfl
    · rfl
  · have hA' : (bits BinOp.and IntKind.i64 ((i : Int) / 2 ^ a) 1 == 1) = true := hA
    go_enter Try.func51, Try.ntmps51
    go_wp2_with fail
    obtain ⟨w0, hw0⟩ : ∃ w0, w0 = w.alloc (.cells #[.int .i64 2, .int .i64 a, .int .i64 b, .int .i64 c] 72) := ⟨_, rfl⟩
    rw [← hw0]
    have x0 : Hid (w0.heap[w.heap.size]? = some (.cells #[.int .i64 2, .int .i64 a, .int .i64 b, .int .i64 c] 72 (0, 0))) := by rw [hw0]; exact boxed1_0 _ _
    have b0 : Below w.heap.size w w0 := by rw [hw0]; exact (by repeat (first | exact Below.refl _ _ | assumption | (refine Below.trans ?_ (Below.mono (by assumption) (by first | omega | (simp; done) | (simp; omega)))) | (with_reducible refine Below.drew ?_) | (with_reducible refine Below.alloc ?_ (by first | omega | (simp; done) | (simp; omega)) _) | (with_reducible refine Below.setCell ?_ (by first | omega | (simp; done) | (simp; omega)) _)))
    have s0 : w.heap.size < w0.heap.size := by rw [hw0]; simp
    clear hw0
    have p1 := cell_at (j := 1) x0.out rfl
    go_region_held3 (fun W => W.cell? ⟨w.heap.size, 1, none⟩ = some (.int .i64 a))
      (first | exact p1 | exact (hb1.cell (p := ⟨w.heap.size, 1, none⟩) s0).trans p1 | exact ((hb1.alloc hb1.size _).cell (p := ⟨w.heap.size, 1, none⟩) s0).trans p1)
      (first | (go_at_call 56; (with_reducible refine (hP6 _).mono ?_); rintro e w1 ⟨rfl, hb1, hs1⟩))
    all_goals go_wp2_with fail
    all_goals go_ret
    refine retRow_lit ?_ ?_ ?_ ?_ ?_ ?_
    · have := hb1.size; simp at this; omega
    · exact (by repeat (first | exact Below.refl _ _ | assumption | (refine Below.trans ?_ (Below.mono (by assumption) (by first | omega | (simp; done) | (simp; omega)))) | (with_reducible refine Below.drew ?_) | (with_reducible refine Below.alloc ?_ (by first | omega | (simp; done) | (simp; omega)) _) | (with_reducible refine Below.setCell ?_ (by first | omega | (simp; done) | (simp; omega)) _)))
    · rfl
    · decide
    · rw [HX.out, hA, sh_nat ha]
      rfl
    · rfl
theorem fl_all : ((List.range 16).all fun i => (List.range 4).all fun q => decide (fl i q < 16) && (decide (bits BinOp.andNot IntKind.i64 (i : Nat) (wrap64 (2 ^ q)) = ((if bt i q = true then fl i q else i : Nat) : Int)) && decide (bits BinOp.or IntKind.i64 ((if bt i q = true then fl i q else i : Nat) : Int) (wrap64 (2 ^ q)) = ((if bt i q = true then i else fl i q : Nat) : Int)))) = true := by decide +kernel
theorem fl_facts {i q : Nat} (hi : i < 16) (hq : q < 4) : fl i q < 16 ∧ bits BinOp.andNot IntKind.i64 (i : Nat) (wrap64 (2 ^ q)) = ((if bt i q = true then fl i q else i : Nat) : Int) ∧ bits BinOp.or IntKind.i64 ((if bt i q = true then fl i q else i : Nat) : Int) (wrap64 (2 ^ q)) = ((if bt i q = true then i else fl i q : Nat) : Int) := by
  have h := List.all_eq_true.1 (List.all_eq_true.1 fl_all i (List.mem_range.2 hi)) q (List.mem_range.2 hq)
  simp only [Bool.and_eq_true, decide_eq_true_eq] at h
  exact ⟨h.1, h.2.1, h.2.2⟩
set_option maxRecDepth 100000 in
set_option maxHeartbeats 4000000 in
theorem l10Goes_11 (a b c i : Nat) (w : World) (ha : a < 4) (hb : b < 4) (hc : c < 4) (hi : i < 16) : Calls Try.prog 51 #[.agg #[.int .i64 11, .int .i64 a, .int .i64 b, .int .i64 c], .int .i64 i] w (RetRow 98 6 w 1 ((goes ⟨11, a, b, c⟩ i).flatMap scells)) := by
  have e : (goes ⟨11, a, b, c⟩ i).flatMap scells = icells (if bti i a != bti i b then xfl (xfl i a) b else i) (zph 0) := by
    rw [bti_nat hi ha, bti_nat hi hb]
    have e0 : goes ⟨11, a, b, c⟩ i = [⟨if bt i a != bt i b then fl (fl i a) b else i, zph 0, 0⟩] := rfl
    rw [e0, cells_i]
    cases bt i a != bt i b
    · rfl
    · rw [if_pos rfl, if_pos rfl, xfl_nat hi ha, xfl_nat (fl_facts hi ha).1 hb]
  obtain ⟨X, hX⟩ : ∃ X, X = icells (if bti i a != bti i b then xfl (xfl i a) b else i) (zph 0) := ⟨_, rfl⟩
  rw [e, ← hX]
  have HX := Lib.hid hX
  clear hX e
  have hP : ∀ W : World, Calls Try.prog 56 #[.int .i64 0] W (Ret (.agg #[.int .i64 1, .int .i64 0, .int .i64 0, .int .i64 0, .int .i64 0]) W) := fun W => PhaseFactor_any 0 (by decide) W
  have HPH := Lib.hid hP
  clear hP
  cases hA : bti i a
  · have hA' : (bits BinOp.and IntKind.i64 ((i : Int) / 2 ^ a) 1 == 1) = false := hA
    cases hB : bti i b
    · have hB' : (bits BinOp.and IntKind.i64 ((i : Int) / 2 ^ b) 1 == 1) = false := hB
      rw [hA, hB] at HX
      clear hA hB
      go_enter Try.func51, Try.ntmps51
      go_wp2_with fail
      refine (HPH.out _).mono ?_
      rintro e w1 ⟨rfl, hb1, hs1⟩
      go_wp2_with fail
      go_ret
      refine retRow_lit ?_ ?_ ?_ ?_ ?_ ?_
      · have := hb1.size; simp at this; omega
      · exact (by repeat (first | exact Below.refl _ _ | assumption | (refine Below.trans ?_ (Below.mono (by assumption) (by first | omega | (simp; done) | (simp; omega)))) | (with_reducible refine Below.drew ?_) | (with_reducible refine Below.alloc ?_ (by first | omega | (simp; done) | (simp; omega)) _) | (with_reducible refine Below.setCell ?_ (by first | omega | (simp; done) | (simp; omega)) _)))
      · rfl
      · decide
      · rw [HX.out]; rfl
      · rfl
    · have hB' : (bits BinOp.and IntKind.i64 ((i : Int) / 2 ^ b) 1 == 1) = true := hB
      rw [hA, hB] at HX
      clear hA hB
      go_enter Try.func51, Try.ntmps51
      go_wp2_with fail
      refine (HPH.out _).mono ?_
      rintro e w1 ⟨rfl, hb1, hs1⟩
      go_wp2_with fail
      go_ret
      refine retRow_lit ?_ ?_ ?_ ?_ ?_ ?_
      · have := hb1.size; simp at this; omega
      · exact (by repeat (first | exact Below.refl _ _ | assumption | (refine Below.trans ?_ (Below.mono (by assumption) (by first | omega | (simp; done) | (simp; omega)))) | (with_reducible refine Below.drew ?_) | (with_reducible refine Below.alloc ?_ (by first | omega | (simp; done) | (simp; omega)) _) | (with_reducible refine Below.setCell ?_ (by first | omega | (simp; done) | (simp; omega)) _)))
      · rfl
      · decide
      · rw [HX.out]; rfl
      · rfl
  · have hA' : (bits BinOp.and IntKind.i64 ((i : Int) / 2 ^ a) 1 == 1) = true := hA
    cases hB : bti i b
    · have hB' : (bits BinOp.and IntKind.i64 ((i : Int) / 2 ^ b) 1 == 1) = false := hB
      rw [hA, hB] at HX
      clear hA hB
      go_enter Try.func51, Try.ntmps51
      go_wp2_with fail
      refine (HPH.out _).mono ?_
      rintro e w1 ⟨rfl, hb1, hs1⟩
      go_wp2_with fail
      go_ret
      refine retRow_lit ?_ ?_ ?_ ?_ ?_ ?_
      · have := hb1.size; simp at this; omega
      · exact (by repeat (first | exact Below.refl _ _ | assumption | (refine Below.trans ?_ (Below.mono (by assumption) (by first | omega | (simp; done) | (simp; omega)))) | (with_reducible refine Below.drew ?_) | (with_reducible refine Below.alloc ?_ (by first | omega | (simp; done) | (simp; omega)) _) | (with_reducible refine Below.setCell ?_ (by first | omega | (simp; done) | (simp; omega)) _)))
      · rfl
      · decide
      · rw [HX.out]; rfl
      · rfl
    · have hB' : (bits BinOp.and IntKind.i64 ((i : Int) / 2 ^ b) 1 == 1) = true := hB
      rw [hA, hB] at HX
      clear hA hB
      go_enter Try.func51, Try.ntmps51
      go_wp2_with fail
      refine (HPH.out _).mono ?_
      rintro e w1 ⟨rfl, hb1, hs1⟩
      go_wp2_with fail
      go_ret
      refine retRow_lit ?_ ?_ ?_ ?_ ?_ ?_
      · have := hb1.size; simp at this; omega
      · exact (by repeat (first | exact Below.refl _ _ | assumption | (refine Below.trans ?_ (Below.mono (by assumption) (by first | omega | (simp; done) | (simp; omega)))) | (with_reducible refine Below.drew ?_) | (with_reducible refine Below.alloc ?_ (by first | omega | (simp; done) | (simp; omega)) _) | (with_reducible refine Below.setCell ?_ (by first | omega | (simp; done) | (simp; omega)) _)))
      · rfl
      · decide
      · rw [HX.out]; rfl
      · rfl
end Go.Proofs.Ytgjpicekdbemiac
namespace Go.Proofs.Ytgjpicekdbemiac
open Go.RowKit
set_option linter.unusedVariables false
theorem below_undrewE {B : Nat} {w w' : World} (h : Below B w.drew w') : Below B w w' := ⟨h.os, h.tape, h.output, h.size, h.block⟩
theorem cell_as {w w' : World} {b j : Nat} (h : w.heap[b]? = w'.heap[b]?) : w.cell? ⟨b, j, none⟩ = w'.cell? ⟨b, j, none⟩ := by simp [World.cell?, h]
set_option maxRecDepth 100000 in
set_option maxHeartbeats 4000000 in
theorem NegDOmega_1 (w : World) : Calls Try.prog 59 #[.agg #[.int .i64 1, .int .i64 0, .int .i64 0, .int .i64 0, .int .i64 1]] w (Ret (.agg #[.int .i64 (-1), .int .i64 0, .int .i64 0, .int .i64 0, .int .i64 1]) w) := by
  have hd : dOk ⟨1, 0, 0, 0, 1⟩ = true := by decide
  go_enter Try.func59, Try.ntmps59
  go_wp2_with fail
  obtain ⟨w0, hw0⟩ : ∃ w0, w0 = (w.alloc (.cells #[.int .i64 1, .int .i64 0, .int .i64 0, .int .i64 0, .int .i64 1] 47)).alloc (.cells #[.int .i64 0, .int .i64 0, .int .i64 0, .int .i64 0, .int .i64 0] 47) := ⟨_, rfl⟩
  rw [← hw0]
  have x0 : w0.heap[w.heap.size]? = some (.cells #[.int .i64 1, .int .i64 0, .int .i64 0, .int .i64 0, .int .i64 1] 47 (0, 0)) := by rw [hw0]; exact boxed2_0 _ _ _
  have x1 : w0.heap[w.heap.size + 1]? = some (.cells #[.int .i64 0, .int .i64 0, .int .i64 0, .int .i64 0, .int .i64 0] 47 (0, 0)) := by rw [hw0]; exact boxed2_1 _ _ _
  have b0 : Below w.heap.size w w0 := by rw [hw0]; exact (by repeat (first | exact Below.refl _ _ | assumption | (refine Below.trans ?_ (Below.mono (by assumption) (by first | omega | (simp; done) | (simp; omega)))) | (with_reducible refine Below.drew ?_) | (with_reducible refine Below.alloc ?_ (by first | omega | (simp; done) | (simp; omega)) _) | (with_reducible refine Below.setCell ?_ (by first | omega | (simp; done) | (simp; omega)) _)))
  have s0 : w.heap.size + 2 = w0.heap.size := by rw [hw0]; simp
  clear hw0
  refine (IsValidDOmega_any _ _ _ _ _ _).mono ?_
  rw [hd]
  rintro e w1 ⟨rfl, hb1, hs1⟩
  have y0 := (hb1.block _ (by omega)).trans x0
  have y1 := (hb1.block _ (by omega)).trans x1
  have b1 : Below w.heap.size w w1 := (by repeat (first | exact Below.refl _ _ | assumption | (refine Below.trans ?_ (Below.mono (by assumption) (by first | omega | (simp; done) | (simp; omega)))) | (with_reducible refine Below.drew ?_) | (with_reducible refine Below.alloc ?_ (by first | omega | (simp; done) | (simp; omega)) _) | (with_reducible refine Below.setCell ?_ (by first | omega | (simp; done) | (simp; omega)) _)))
  have l0 : w.heap.size < w1.heap.size := by omega
  have l1 : w.heap.size + 1 < w1.heap.size := by omega
  have S1 := Lib.hid (show w.heap.size + 2 ≤ w1.heap.size by omega)
  clear x0 x1 b0 s0 hb1 hs1
  have p0 := cell_at (j := 0) y0 rfl
  have p1 := cell_at (j := 1) y0 rfl
  have p2 := cell_at (j := 2) y0 rfl
  have p3 := cell_at (j := 3) y0 rfl
  have p4 := cell_at (j := 4) y0 rfl
  have Y1 := Lib.hid y1
  clear y0 y1
  go_wp2_with fail
  have KS : Hid (∀ W : World, W.heap[w.heap.size]? = w1.heap[w.heap.size]? → (W.cell? ⟨w.heap.size, 0, none⟩ = some (.int .i64 1) ∧ W.cell? ⟨w.heap.size, 1, none⟩ = some (.int .i64 0) ∧ W.cell? ⟨w.heap.size, 2, none⟩ = some (.int .i64 0) ∧ W.cell? ⟨w.heap.size, 3, none⟩ = some (.int .i64 0) ∧ W.cell? ⟨w.heap.size, 4, none⟩ = some (.int .i64 1))) := fun W hW => ⟨(cell_as hW).trans p0, (cell_as hW).trans p1, (cell_as hW).trans p2, (cell_as hW).trans p3, (cell_as hW).trans p4⟩
  go_region_held3 (fun W => W.cell? ⟨w.heap.size, 0, none⟩ = some (.int .i64 1) ∧ W.cell? ⟨w.heap.size, 1, none⟩ = some (.int .i64 0) ∧ W.cell? ⟨w.heap.size, 2, none⟩ = some (.int .i64 0) ∧ W.cell? ⟨w.heap.size, 3, none⟩ = some (.int .i64 0) ∧ W.cell? ⟨w.heap.size, 4, none⟩ = some (.int .i64 1))
    ((refine KS.out _ ?_; first | (with_reducible exact hb1.block _ l0) | ((with_reducible refine (Below.heap_setCell _ _ _ _ (by simp)).trans ((Below.heap_setCell _ _ _ _ (by simp)).trans ((Below.heap_setCell _ _ _ _ (by simp)).trans ((Below.heap_setCell _ _ _ _ (by simp)).trans ((Below.heap_setCell _ _ _ _ (by simp)).trans ?_))))); exact hb1.block _ l0) | rfl))
    (first | (go_at_call 67; (with_reducible refine (NegZOmega_1 _).mono ?_); rintro e w2 ⟨rfl, hb0, hs1⟩; have hb1 : Below w1.heap.size w1 w2 := below_undrewE hb0; have hs2 : w1.heap.size ≤ w2.heap.size := hs1; clear hs1 hb0; have z1 := (hb1.block _ l1).trans Y1.out; have f0 := free_b (j := 0) z1; have f1 := free_b (j := 1) z1; have f2 := free_b (j := 2) z1; have f3 := free_b (j := 3) z1; have f4 := free_b (j := 4) z1; have k0 := cell_at (j := 0) z1 rfl; have k1 := cell_at (j := 1) z1 rfl; have k2 := cell_at (j := 2) z1 rfl; have k3 := cell_at (j := 3) z1 rfl; have k4 := cell_at (j := 4) z1 rfl))
  all_goals go_wp2_with fail
  all_goals exact bodyPost_ret (v := .agg #[.int .i64 (-1), .int .i64 0, .int .i64 0, .int .i64 0, .int .i64 1]) (by simp [results, Try.results59, go_sem, k0, k1, k2, k3, k4]) rfl ⟨rfl, (by repeat (first | exact Below.refl _ _ | assumption | (refine Below.trans ?_ (Below.mono (by assumption) (by first | omega | (simp; done) | (simp; omega)))) | (with_reducible refine Below.drew ?_) | (with_reducible refine Below.alloc ?_ (by first | omega | (simp; done) | (simp; omega)) _) | (with_reducible refine Below.setCell ?_ (by first | omega | (simp; done) | (simp; omega)) _))), (by first | omega | (simp; done) | (simp; omega))⟩
set_option maxRecDepth 100000 in
set_option maxHeartbeats 4000000 in
theorem l10Goes_4 (a b c i : Nat) (w : World) (ha : a < 4) (hb : b < 4) (hc : c < 4) (hi : i < 16) : Calls Try.prog 51 #[.agg #[.int .i64 4, .int .i64 a, .int .i64 b, .int .i64 c], .int .i64 i] w (RetRow 98 6 w 2 ((goes ⟨4, a, b, c⟩ i).flatMap scells)) := by
  have e : (goes ⟨4, a, b, c⟩ i).flatMap scells = [.int .i64 (bits BinOp.andNot IntKind.i64 i (wrap64 (2 ^ a))), .int .i64 1, .int .i64 0, .int .i64 0, .int .i64 0, .int .i64 1, .int .i64 (bits BinOp.or IntKind.i64 (bits BinOp.andNot IntKind.i64 i (wrap64 (2 ^ a))) (wrap64 (2 ^ a))), .int .i64 (if bti i a = true then -1 else 1), .int .i64 0, .int .i64 0, .int .i64 0, .int .i64 1] := by
    rw [bti_nat hi ha, (fl_facts hi ha).2.1, (fl_facts hi ha).2.2]
    cases h : bt i a
    · simp [goes, scells, h, zph]
    · simp [goes, scells, h, zph]
  obtain ⟨X, hX⟩ : ∃ X : List Value, X = [.int .i64 (bits BinOp.andNot IntKind.i64 i (wrap64 (2 ^ a))), .int .i64 1, .int .i64 0, .int .i64 0, .int .i64 0, .int .i64 1, .int .i64 (bits BinOp.or IntKind.i64 (bits BinOp.andNot IntKind.i64 i (wrap64 (2 ^ a))) (wrap64 (2 ^ a))), .int .i64 (if bti i a = true then -1 else 1), .int .i64 0, .int .i64 0, .int .i64 0, .int .i64 1] := ⟨_, rfl⟩
  rw [e, ← hX]
  have HX := Lib.hid hX
  clear hX e
  cases hA : bti i a
  · have hA' : (bits BinOp.and IntKind.i64 ((i : Int) / 2 ^ a) 1 == 1) = false := hA
    rw [hA] at HX
    clear hA
    go_enter Try.func51, Try.ntmps51
    go_wp2_with fail
    obtain ⟨w0, hw0⟩ : ∃ w0, w0 = w.alloc (.cells #[.int .i64 4, .int .i64 a, .int .i64 b, .int .i64 c] 72) := ⟨_, rfl⟩
    rw [← hw0]
    have x0 : w0.heap[w.heap.size]? = some (.cells #[.int .i64 4, .int .i64 a, .int .i64 b, .int .i64 c] 72 (0, 0)) := by rw [hw0]; exact boxed1_0 _ _
    have b0 : Below w.heap.size w w0 := by rw [hw0]; exact (by repeat (first | exact Below.refl _ _ | assumption | (refine Below.trans ?_ (Below.mono (by assumption) (by first | omega | (simp; done) | (simp; omega)))) | (with_reducible refine Below.drew ?_) | (with_reducible refine Below.alloc ?_ (by first | omega | (simp; done) | (simp; omega)) _) | (with_reducible refine Below.setCell ?_ (by first | omega | (simp; done) | (simp; omega)) _)))
    have s0 : w.heap.size < w0.heap.size := by rw [hw0]; simp
    clear hw0
    refine (InvSqrt2Power_1 _).mono ?_
    rintro e w1 ⟨rfl, hb1, hs1⟩
    have y0 := (hb1.block _ s0).trans x0
    have b1 := b0.trans (hb1.mono b0.size)
    have l1 : w.heap.size < w1.heap.size := by omega
    have k1 := cell_at (j := 1) y0 rfl
    have Y0 := Lib.hid y0
    clear x0 b0 s0 hb1 hs1 y0
    go_wp2_with fail
    go_ret
    refine retRow_lit ?_ ?_ ?_ ?_ ?_ ?_
    · have := b1.size; simp; omega
    · exact (by repeat (first | exact Below.refl _ _ | assumption | (refine Below.trans ?_ (Below.mono (by assumption) (by first | omega | (simp; done) | (simp; omega)))) | (with_reducible refine Below.drew ?_) | (with_reducible refine Below.alloc ?_ (by first | omega | (simp; done) | (simp; omega)) _) | (with_reducible refine Below.setCell ?_ (by first | omega | (simp; done) | (simp; omega)) _)))
    · rfl
    · decide
    · rw [HX.out]; rfl
    · first | rfl | simp
  · have hA' : (bits BinOp.and IntKind.i64 ((i : Int) / 2 ^ a) 1 == 1) = true := hA
    rw [hA] at HX
    clear hA
    go_enter Try.func51, Try.ntmps51
    go_wp2_with fail
    obtain ⟨w0, hw0⟩ : ∃ w0, w0 = w.alloc (.cells #[.int .i64 4, .int .i64 a, .int .i64 b, .int .i64 c] 72) := ⟨_, rfl⟩
    rw [← hw0]
    have x0 : w0.heap[w.heap.size]? = some (.cells #[.int .i64 4, .int .i64 a, .int .i64 b, .int .i64 c] 72 (0, 0)) := by rw [hw0]; exact boxed1_0 _ _
    have b0 : Below w.heap.size w w0 := by rw [hw0]; exact (by repeat (first | exact Below.refl _ _ | assumption | (refine Below.trans ?_ (Below.mono (by assumption) (by first | omega | (simp; done) | (simp; omega)))) | (with_reducible refine Below.drew ?_) | (with_reducible refine Below.alloc ?_ (by first | omega | (simp; done) | (simp; omega)) _) | (with_reducible refine Below.setCell ?_ (by first | omega | (simp; done) | (simp; omega)) _)))
    have s0 : w.heap.size < w0.heap.size := by rw [hw0]; simp
    clear hw0
    refine (InvSqrt2Power_1 _).mono ?_
    rintro e w1 ⟨rfl, hb1, hs1⟩
    have y0 := (hb1.block _ s0).trans x0
    have b1 := b0.trans (hb1.mono b0.size)
    have l1 : w.heap.size < w1.heap.size := by omega
    have k1 := cell_at (j := 1) y0 rfl
    have Y0 := Lib.hid y0
    clear x0 b0 s0 hb1 hs1 y0
    go_wp2_with fail
    obtain ⟨W, hW⟩ : ∃ W, W = (w1.alloc (.cells #[.int .i64 1, .int .i64 0, .int .i64 0, .int .i64 0, .int .i64 1] 47)).alloc (.cells #[.int .i64 1, .int .i64 0, .int .i64 0, .int .i64 0, .int .i64 1] 47) := ⟨_, rfl⟩
    rw [← hW]
    have z0 : W.heap[w1.heap.size]? = some (.cells #[.int .i64 1, .int .i64 0, .int .i64 0, .int .i64 0, .int .i64 1] 47 (0, 0)) := by rw [hW]; exact boxed2_0 _ _ _
    have z1 : W.heap[w1.heap.size + 1]? = some (.cells #[.int .i64 1, .int .i64 0, .int .i64 0, .int .i64 0, .int .i64 1] 47 (0, 0)) := by rw [hW]; exact boxed2_1 _ _ _
    have bW : Below w1.heap.size w1 W := by rw [hW]; exact (by repeat (first | exact Below.refl _ _ | assumption | (refine Below.trans ?_ (Below.mono (by assumption) (by first | omega | (simp; done) | (simp; omega)))) | (with_reducible refine Below.drew ?_) | (with_reducible refine Below.alloc ?_ (by first | omega | (simp; done) | (simp; omega)) _) | (with_reducible refine Below.setCell ?_ (by first | omega | (simp; done) | (simp; omega)) _)))
    have sW : w1.heap.size + 2 = W.heap.size := by rw [hW]; simp
    clear hW
    refine (NegDOmega_1 _).mono ?_
    rintro e w2 ⟨rfl, hb2, hs2⟩
    have u0 := (hb2.block _ (by omega)).trans ((bW.block _ l1).trans Y0.out)
    have u1 := (hb2.block _ (by omega)).trans z0
    have u2 := (hb2.block _ (by omega)).trans z1
    have b2 := b1.trans ((bW.trans (hb2.mono bW.size)).mono b1.size)
    have l2 : w.heap.size ≤ w2.heap.size := b2.size
    have hne : w.heap.size ≠ w1.heap.size + 1 := by omega
    have hle : w.heap.size ≤ w1.heap.size := by omega
    clear k1
    have k1 := cell_at (j := 1) u0 rfl
    have ku10 := cell_at (j := 0) u1 rfl
    have ku11 := cell_at (j := 1) u1 rfl
    have ku12 := cell_at (j := 2) u1 rfl
    have ku13 := cell_at (j := 3) u1 rfl
    have ku14 := cell_at (j := 4) u1 rfl
    have ku20 := cell_at (j := 0) u2 rfl
    have fu20 := free_b (j := 0) u2
    have ku21 := cell_at (j := 1) u2 rfl
    have fu21 := free_b (j := 1) u2
    have ku22 := cell_at (j := 2) u2 rfl
    have fu22 := free_b (j := 2) u2
    have ku23 := cell_at (j := 3) u2 rfl
    have fu23 := free_b (j := 3) u2
    have ku24 := cell_at (j := 4) u2 rfl
    have fu24 := free_b (j := 4) u2
    clear u0 u1 u2 z0 z1 bW sW hb2 hs2 b1 l1
    go_wp2_with fail
    go_ret
    refine retRow_lit ?_ ?_ ?_ ?_ ?_ ?_
    · have := b2.size; simp; omega
    · exact (by repeat (first | exact Below.refl _ _ | assumption | (refine Below.trans ?_ (Below.mono (by assumption) (by first | omega | (simp; done) | (simp; omega)))) | (with_reducible refine Below.drew ?_) | (with_reducible refine Below.alloc ?_ (by first | omega | (simp; done) | (simp; omega)) _) | (with_reducible refine Below.setCell ?_ (by first | omega | (simp; done) | (simp; omega)) _)))
    · rfl
    · decide
    · rw [HX.out]; rfl
    · first | rfl | simp
end Go.Proofs.Ytgjpicekdbemiac
namespace Go.Proofs.Ytgjpicekdbemiac
open Go.RowKit
set_option linter.unusedVariables false
theorem validK {g : Gt} {m : Nat} (h : validG g m = true) : ∃ k a b c : Nat, 1 ≤ k ∧ k < 13 ∧ a < 4 ∧ b < 4 ∧ c < 4 ∧ 1 ≤ m ∧ m < 5 ∧ g = ⟨k, a, b, c⟩ := by
  obtain ⟨k, a, b, c⟩ := g
  unfold validG at h
  simp only [Bool.and_eq_true, vupto, qsOf] at h
  obtain ⟨⟨hm, h0⟩, ⟨⟨_, h1⟩, h2⟩, h3⟩ := h
  have hm := inB_iff.1 hm
  have hk : 1 ≤ k ∧ k ≤ 12 := by
    have h0 : ar k ≠ 0 := of_decide_eq_true h0
    unfold ar at h0
    split at h0
    · rename_i h; have := inB_iff.1 h; omega
    · split at h0
      · rename_i h; have := inB_iff.1 h; omega
      · split at h0
        · omega
        · exact absurd rfl h0
  have hq : ∀ (r t : Nat) (qs : List Int) (x : Int), qs.getD t 0 = x → vstep r m qs t = true → 0 ≤ x ∧ x ≤ 3 := by
    intro r t qs x hx h
    subst hx
    unfold vstep at h
    split at h
    · have : qs.getD t 0 = 0 := by simpa using h
      omega
    · simp only [Bool.and_eq_true] at h
      have := inB_iff.1 h.1
      omega
  have q1 := hq _ 0 _ a rfl h1
  have q2 := hq _ 1 _ b rfl h2
  have q3 := hq _ 2 _ c rfl h3
  refine ⟨k.toNat, a.toNat, b.toNat, c.toNat, by omega, by omega, by omega, by omega, by omega, by omega, by omega, ?_⟩
  rw [Int.toNat_of_nonneg (by omega), Int.toNat_of_nonneg (by omega), Int.toNat_of_nonneg (by omega), Int.toNat_of_nonneg (by omega)]
def gk4 (k a b c : Nat) : Gt := ⟨k, a, b, c⟩
theorem goes_all : ((List.range 5).all fun m => (List.range 13).all fun k => (List.range 4).all fun a => (List.range 4).all fun b => (List.range 4).all fun c => !validG (gk4 k a b c) m || ((List.range (2 ^ m)).all fun i => (goes (gk4 k a b c) i).all fun s => decide (s.j < 2 ^ m))) = true := by decide +kernel
/-- A valid gate sends an index to places of the state. -/
theorem goes_lt {g : Gt} {m i : Nat} (h : validG g m = true) (hi : i < 2 ^ m) : ∀ s ∈ goes g i, s.j < 2 ^ m := by
  obtain ⟨k, a, b, c, _, hk, ha, hb, hc, _, hm, rfl⟩ := validK h
  have h1 := List.all_eq_true.1 (List.all_eq_true.1 (List.all_eq_true.1 (List.all_eq_true.1 (List.all_eq_true.1 goes_all m (List.mem_range.2 hm)) k (List.mem_range.2 hk)) a (List.mem_range.2 ha)) b (List.mem_range.2 hb)) c (List.mem_range.2 hc)
  rw [show validG (gk4 k a b c) m = true from h, Bool.not_true, Bool.false_or] at h1
  intro s hs
  exact of_decide_eq_true (List.all_eq_true.1 (List.all_eq_true.1 h1 i (List.mem_range.2 hi)) s hs)
theorem goes_len (g : Gt) (i : Nat) : (goes g i).length ≤ 2 := by
  by_cases k1 : g.k = 1
  · rw [goes, if_pos k1]; exact (by decide : 1 ≤ 2)
  by_cases k2 : g.k = 2
  · rw [goes, if_neg k1, if_pos k2]; exact (by decide : 1 ≤ 2)
  by_cases k3 : g.k = 3
  · rw [goes, if_neg k1, if_neg k2, if_pos k3]; exact (by decide : 1 ≤ 2)
  by_cases k5 : g.k = 5
  · rw [goes, if_neg k1, if_neg k2, if_neg k3, if_pos k5]; exact (by decide : 1 ≤ 2)
  by_cases k6 : g.k = 6
  · rw [goes, if_neg k1, if_neg k2, if_neg k3, if_neg k5, if_pos k6]; exact (by decide : 1 ≤ 2)
  by_cases k7 : g.k = 7
  · rw [goes, if_neg k1, if_neg k2, if_neg k3, if_neg k5, if_neg k6, if_pos k7]; exact (by decide : 1 ≤ 2)
  by_cases k8 : g.k = 8
  · rw [goes, if_neg k1, if_neg k2, if_neg k3, if_neg k5, if_neg k6, if_neg k7, if_pos k8]; exact (by decide : 1 ≤ 2)
  by_cases k9 : g.k = 9
  · rw [goes, if_neg k1, if_neg k2, if_neg k3, if_neg k5, if_neg k6, if_neg k7, if_neg k8, if_pos k9]; exact (by decide : 1 ≤ 2)
  by_cases k10 : g.k = 10
  · rw [goes, if_neg k1, if_neg k2, if_neg k3, if_neg k5, if_neg k6, if_neg k7, if_neg k8, if_neg k9, if_pos k10]; exact (by decide : 1 ≤ 2)
  by_cases k12 : g.k = 12
  · rw [goes, if_neg k1, if_neg k2, if_neg k3, if_neg k5, if_neg k6, if_neg k7, if_neg k8, if_neg k9, if_neg k10, if_pos k12]; exact (by decide : 1 ≤ 2)
  by_cases k11 : g.k = 11
  · rw [goes, if_neg k1, if_neg k2, if_neg k3, if_neg k5, if_neg k6, if_neg k7, if_neg k8, if_neg k9, if_neg k10, if_neg k12, if_pos k11]; exact (by decide : 1 ≤ 2)
  rw [goes, if_neg k1, if_neg k2, if_neg k3, if_neg k5, if_neg k6, if_neg k7, if_neg k8, if_neg k9, if_neg k10, if_neg k12, if_neg k11]
  exact Nat.le_refl 2
theorem l10Goes_any (g : Gt) (m i : Nat) (w : World) (h : validG g m = true) (hi : i < 2 ^ m) : Calls Try.prog 51 #[.agg #[.int .i64 g.k, .int .i64 g.a, .int .i64 g.b, .int .i64 g.c], .int .i64 i] w (RetRow 98 6 w (goes g i).length ((goes g i).flatMap scells)) := by
  obtain ⟨k, a, b, c, h1, hk, ha, hb, hc, _, hm, rfl⟩ := validK h
  have hi16 : i < 16 := Nat.lt_of_lt_of_le hi (by
    obtain rfl | rfl | rfl | rfl | rfl : m = 0 ∨ m = 1 ∨ m = 2 ∨ m = 3 ∨ m = 4 := by omega
    all_goals decide)
  obtain rfl | rfl | rfl | rfl | rfl | rfl | rfl | rfl | rfl | rfl | rfl | rfl : k = 1 ∨ k = 2 ∨ k = 3 ∨ k = 4 ∨ k = 5 ∨ k = 6 ∨ k = 7 ∨ k = 8 ∨ k = 9 ∨ k = 10 ∨ k = 11 ∨ k = 12 := by omega
  · exact l10Goes_1 a b c i w ha hb hc hi16
  · exact l10Goes_2 a b c i w ha hb hc hi16
  · exact l10Goes_3 a b c i w ha hb hc hi16
  · exact l10Goes_4 a b c i w ha hb hc hi16
  · exact l10Goes_5 a b c i w ha hb hc hi16
  · exact l10Goes_6 a b c i w ha hb hc hi16
  · exact l10Goes_7 a b c i w ha hb hc hi16
  · exact l10Goes_8 a b c i w ha hb hc hi16
  · exact l10Goes_9 a b c i w ha hb hc hi16
  · exact l10Goes_10 a b c i w ha hb hc hi16
  · exact l10Goes_11 a b c i w ha hb hc hi16
  · exact l10Goes_12 a b c i w ha hb hc hi16
end Go.Proofs.Ytgjpicekdbemiac
namespace Go.Proofs.Ytgjpicekdbemiac
open Go.ChangeShapes Go.WideShapes Go.RowKit Go.Deep

theorem exists_list {α : Type} {n : Nat} {p : Nat → α → Prop} (h : ∀ i, i < n → ∃ g, p i g) : ∃ l : List α, l.length = n ∧ ∀ (i : Nat) (g : α), l[i]? = some g → p i g := by
  induction n with
  | zero => exact ⟨[], rfl, by simp⟩
  | succ n ih =>
    obtain ⟨l, hl, hp⟩ := ih (fun i hi => h i (by omega))
    obtain ⟨g, hg⟩ := h n (by omega)
    refine ⟨l ++ [g], by simp [hl], fun i g' hi => ?_⟩
    by_cases hin : i < n
    · rw [List.getElem?_append_left (by omega)] at hi
      exact hp i g' hi
    · have hi' := (List.getElem?_eq_some_iff.1 hi).1
      simp at hi'
      obtain rfl : i = n := by omega
      rw [List.getElem?_append_right (by omega), hl] at hi
      simp at hi
      subst hi
      exact hg
theorem flat_get {α : Type} {f : α → List Value} {k : Nat} (hf : ∀ x, (f x).length = k) : ∀ (l : List α) (j : Nat) (u : Value), (l.flatMap f)[j]? = some u → ∃ g, l[j / k]? = some g ∧ (f g)[j % k]? = some u := by
  intro l
  induction l with
  | nil => intro j u h; simp at h
  | cons x l ih =>
    intro j u h
    rw [List.flatMap_cons] at h
    by_cases hj : j < k
    · rw [List.getElem?_append_left (by rw [hf]; exact hj)] at h
      exact ⟨x, by rw [Nat.div_eq_of_lt hj]; rfl, by rw [Nat.mod_eq_of_lt hj]; exact h⟩
    · have hk : k ≤ j := by omega
      rw [List.getElem?_append_right (by rw [hf]; exact hk), hf] at h
      obtain ⟨g, h1, h2⟩ := ih _ u h
      have hk0 : 0 < k := by
        rcases Nat.eq_zero_or_pos k with h0 | h0
        · subst h0
          have := (List.getElem?_eq_some_iff.1 h2).1
          rw [hf] at this
          omega
        · exact h0
      refine ⟨g, ?_, ?_⟩
      · rw [Nat.div_eq_sub_div hk0 hk]
        simpa using h1
      · rw [Nat.mod_eq_sub_mod hk]
        exact h2
theorem flat_at {α : Type} {f : α → List Value} {k : Nat} (hf : ∀ x, (f x).length = k) : ∀ (l : List α) (i : Nat) (g : α) (j : Nat), l[i]? = some g → j < k → (l.flatMap f)[i * k + j]? = (f g)[j]? := by
  intro l
  induction l with
  | nil => intro i g j h; simp at h
  | cons x l ih =>
    intro i g j h hj
    rw [List.flatMap_cons]
    cases i with
    | zero =>
      simp at h
      subst h
      rw [List.getElem?_append_left (by rw [hf]; omega)]
      simp
    | succ i =>
      rw [List.getElem?_append_right (by rw [hf, Nat.add_mul]; omega), hf, ← ih i g j (by simpa using h) hj]
      congr 1
      rw [Nat.add_mul]
      omega
section
variable {H : Type} {enc : TypeId × Value → H} {P : Program} {w : World} {base : Nat} {spare : Nat → Bool} {held : Bool}
theorem slice_one {r : Reach} {b0 fuel : Nat} {t e : TypeId} {v : Value} {x : DataW H × List MemPlace} (hv : Value.okWide P w r b0 t v) (ht : P.underlying t = some (.slice e))
    (h : DataW.trod enc P w base spare held fuel t v.cells.toList = some x) : DataW.trod enc P w base spare held fuel t [v] = some x := by
  obtain ⟨a, len, cap, rfl⟩ := okWide_slice ht hv
  exact h
theorem block_of_cell {a : Addr} {u : Value} (h : w.cell? a = some u) : a.block < w.heap.size := by
  unfold World.cell? at h
  rcases Nat.lt_or_ge a.block w.heap.size with hl | hl
  · exact hl
  · rw [Array.getElem?_eq_none hl] at h
    simp at h
/-- A slice that can be read, its elements of 'size' cells each that are 'cellsf g' for some plain g. -/
theorem rd_of_slice {α : Type} {t e : TypeId} {size fuel : Nat} {cellsf : α → List Value} {v : Value} {x : DataW H × List MemPlace} (ht : P.underlying t = some (.slice e)) (hC : P.cellsOf e = size) (hsz : 0 < size)
    (hE : ∀ (n : Nat) (cs : List Value) (y : DataW H × List MemPlace), DataW.trod enc P w base spare held n e cs = some y → ∃ g : α, cs = cellsf g)
    (hlen : ∀ g, (cellsf g).length = size) (h : DataW.trod enc P w base spare held fuel t [v] = some x) :
    ∃ (A : Option Addr) (n c : Nat) (l : List α), v = .slice A n c ∧ n ≤ c ∧ c ≤ maxLen ∧ l.length = n ∧ Rd w size A n (l.flatMap cellsf) := by
  rcases open_slice ht h with ⟨h0, _⟩ | ⟨a, len, cap, m, n, D, Pl, hcs, hb, hl, hm, hmm, hx, hi⟩
  · simp at h0
    subst h0
    exact ⟨none, 0, 0, [], rfl, Nat.le_refl _, Nat.zero_le _, rfl, by simp, fun h => absurd h (by omega)⟩
  · simp at hcs
    subst hcs
    have hlm : len ≤ m := by rw [hmm]; split <;> omega
    obtain ⟨l, hll, hp⟩ := exists_list (n := len) (p := fun i g => w.cells? base (a.add (i * P.cellsOf e)) (P.cellsOf e) = some (cellsf g)) (fun i hi' => by
      obtain ⟨cs', hc, ht'⟩ := hi i (by omega)
      obtain ⟨g, rfl⟩ := hE _ _ _ ht'
      exact ⟨g, hc⟩)
    refine ⟨some a, len, cap, l, rfl, hl, hm, hll, by rw [flat_length cellsf size hlen, hll], fun h0 => ?_⟩
    have hcell : ∀ (j : Nat) (u : Value), (l.flatMap cellsf)[j]? = some u → w.cell? (a.add j) = some u := by
      intro j u hu
      obtain ⟨g, h1, h2⟩ := flat_get hlen l j u hu
      have h3 := hp _ _ h1
      rw [hC] at h3
      obtain ⟨_, _, hat⟩ := World.cells?_some h3
      have h4 := hat (j % size) (Nat.mod_lt _ hsz)
      rw [Go.Deep.add_add, Nat.mul_comm, Nat.div_add_mod, h2] at h4
      exact h4
    have hj0 : ∃ u, (l.flatMap cellsf)[0]? = some u := ⟨_, List.getElem?_eq_getElem (by rw [flat_length cellsf size hlen, hll]; exact Nat.mul_pos h0 hsz)⟩
    obtain ⟨u0, hu0⟩ := hj0
    have hc0 := hcell 0 u0 hu0
    obtain ⟨b, off, spot⟩ := a
    have hspot : spot = none := by simpa [Addr.add] using World.cell?_spot hc0
    subst hspot
    refine ⟨b, off, rfl, by simpa [Addr.add] using block_of_cell hc0, fun j u hu => ?_⟩
    have := hcell j u hu
    rwa [add_plain] at this
end
end Go.Proofs.Ytgjpicekdbemiac
namespace Go.Proofs.Ytgjpicekdbemiac
open Go.RowKit

theorem dcells_len (x : Dm) : (dcells x).length = 5 := rfl
theorem info_DOmegaE : (Try.prog.info? 47).map (fun i => (i.zero, i.size, i.bytes)) = some (some (.agg #[.int .i64 0, .int .i64 0, .int .i64 0, .int .i64 0, .int .i64 0]), 5, 40) := by kernel_rfl
end Go.Proofs.Ytgjpicekdbemiac
namespace Go.Proofs.Ytgjpicekdbemiac
open Go.RowKit
set_option linter.unusedVariables false
set_option maxRecDepth 100000 in
set_option maxHeartbeats 2000000 in
theorem QubitCount_any (A : Option Addr) (m c : Nat) (w : World) (hm : m ≤ 1099511627776) : Calls Try.prog 12 #[.slice A m c] w fun e w' => e = .returned (.int .i64 (qc m)) ∧ w = w' := by
  obtain ⟨r, hr⟩ : ∃ r, r = qc m := ⟨_, rfl⟩
  rw [← hr]
  have HR := Lib.hid hr
  clear hr
  go_enter Try.func12, Try.ntmps12
  go_wp2
  go_loop [3] (fun i => ∃ t : Nat, i = .int .i64 t ∧ 1 ≤ t ∧ t ≤ 5 ∧ (1 < t → m ≠ 2) ∧ (2 < t → m ≠ 4) ∧ (3 < t → m ≠ 8) ∧ (4 < t → m ≠ 16)) (fun i => 5 - (intOf i).toNat)
  case atStart => exact ⟨1, rfl, by omega, by omega, by omega, by omega, by omega, by omega⟩
  case round =>
    obtain ⟨t, rfl, h1, h5, h2, h3, h4, h6⟩ := hrel
    have K2 := Lib.hid h2
    have K3 := Lib.hid h3
    have K4 := Lib.hid h4
    have K6 := Lib.hid h6
    clear h2 h3 h4 h6
    obtain rfl | rfl | rfl | rfl | rfl : t = 1 ∨ t = 2 ∨ t = 3 ∨ t = 4 ∨ t = 5 := by omega
    · by_cases hm2 : m = 2
      · subst hm2
        go_wp2
        go_ret
        exact ⟨by rw [HR.out]; rfl, rfl⟩
      · have hd : ((m : Int) == 2) = false := by simp; omega
        go_wp2
        go_round
        case rel => exact ⟨2, rfl, by omega, by omega, fun _ => hm2, fun h => absurd h (by omega), fun h => absurd h (by omega), fun h => absurd h (by omega)⟩
        case measure => simp [intOf]
    · by_cases hm2 : m = 4
      · subst hm2
        go_wp2
        go_ret
        exact ⟨by rw [HR.out]; rfl, rfl⟩
      · have hd : ((m : Int) == 4) = false := by simp; omega
        go_wp2
        go_round
        case rel => exact ⟨3, rfl, by omega, by omega, fun _ => K2.out (by omega), fun _ => hm2, fun h => absurd h (by omega), fun h => absurd h (by omega)⟩
        case measure => simp [intOf]
    · by_cases hm2 : m = 8
      · subst hm2
        go_wp2
        go_ret
        exact ⟨by rw [HR.out]; rfl, rfl⟩
      · have hd : ((m : Int) == 8) = false := by simp; omega
        go_wp2
        go_round
        case rel => exact ⟨4, rfl, by omega, by omega, fun _ => K2.out (by omega), fun _ => K3.out (by omega), fun _ => hm2, fun h => absurd h (by omega)⟩
        case measure => simp [intOf]
    · by_cases hm2 : m = 16
      · subst hm2
        go_wp2
        go_ret
        exact ⟨by rw [HR.out]; rfl, rfl⟩
      · have hd : ((m : Int) == 16) = false := by simp; omega
        go_wp2
        go_round
        case rel => exact ⟨5, rfl, by omega, by omega, fun _ => K2.out (by omega), fun _ => K3.out (by omega), fun _ => K4.out (by omega), fun _ => hm2⟩
        case measure => simp [intOf]
    · go_wp2
      go_ret
      have := K2.out (by omega)
      have := K3.out (by omega)
      have := K4.out (by omega)
      have := K6.out (by omega)
      have e : r = 0 := by rw [HR.out]; unfold qc; simp [*]
      exact ⟨by rw [e]; rfl, rfl⟩
theorem stOk_f {l : List Dm} {g : Dm} (hg : g ∈ l) (h : dOk g = false) : stOk l = false := by
  unfold stOk
  have : l.all dOk = false := by
    rw [List.all_eq_false]
    exact ⟨g, hg, by rw [h]; decide⟩
  rw [this, Bool.false_and]
theorem stOk_t {l : List Dm} (h : l.all dOk = true) : stOk l = decide (0 < qc l.length) := by unfold stOk; rw [h, Bool.true_and]
set_option maxRecDepth 100000 in
set_option maxHeartbeats 2000000 in
theorem IsValidState_any (A : Option Addr) (n c : Nat) (l : List Dm) (w : World) (h : Rd w 5 A n (l.flatMap dcells)) (hl : l.length = n) (hn : n ≤ 1099511627776) :
    Calls Try.prog 50 #[.slice A n c] w (Ret (.bool (stOk l)) w) := by
  obtain ⟨r, hr⟩ : ∃ r, r = stOk l := ⟨_, rfl⟩
  rw [← hr]
  have HR := Lib.hid hr
  have H := Lib.hid h
  have HL := Lib.hid hl
  clear hr h hl
  go_enter Try.func50, Try.ntmps50
  go_wp2
  go_loopw [3] (fun i wr => ∃ t : Nat, i = .int .i64 t ∧ t ≤ n ∧ (l.take t).all dOk = true ∧ Below w.heap.size w wr) (fun i _ => n - (intOf i).toNat)
  case atStart => exact ⟨0, rfl, Nat.zero_le _, rfl, Below.refl _ _⟩
  case round =>
    obtain ⟨t, rfl, ht, hall, hb⟩ := hrel
    have HA := Lib.hid hall
    clear hall
    by_cases hlt : t < n
    · obtain ⟨g, hg⟩ : ∃ g, l[t]? = some g := ⟨_, List.getElem?_eq_getElem (by rw [HL.out]; exact hlt)⟩
      obtain ⟨b, off, rfl, _, hc⟩ := (H.out.below hb).2 (by omega)
      have q0 := hc (t * 5 + 0) _ (flat_at dcells_len l t g 0 hg (by decide))
      have q1 := hc (t * 5 + 1) _ (flat_at dcells_len l t g 1 hg (by decide))
      have q2 := hc (t * 5 + 2) _ (flat_at dcells_len l t g 2 hg (by decide))
      have q3 := hc (t * 5 + 3) _ (flat_at dcells_len l t g 3 hg (by decide))
      have q4 := hc (t * 5 + 4) _ (flat_at dcells_len l t g 4 hg (by decide))
      rw [← Nat.add_assoc] at q1 q2 q3 q4
      rw [Nat.add_zero] at q0
      have HG := Lib.hid hg
      clear hc hg
      cases hd : dOk g
      · go_wp2_with (go_at_call 54; refine (IsValidDOmega_any _ _ _ _ _ _).mono ?_; rw [show dOk ⟨g.a, g.b, g.c, g.d, g.e⟩ = false from hd]; rintro e w1 ⟨rfl, hb1, hs1⟩)
        go_ret
        have e : r = false := by rw [HR.out]; exact stOk_f (List.mem_of_getElem? HG.out) hd
        exact ⟨by rw [e]; rfl, hb.trans (hb1.mono hb.size), by have := hb.size; have := hb1.size; omega⟩
      · go_wp2_with (go_at_call 54; refine (IsValidDOmega_any _ _ _ _ _ _).mono ?_; rw [show dOk ⟨g.a, g.b, g.c, g.d, g.e⟩ = true from hd]; rintro e w1 ⟨rfl, hb1, hs1⟩)
        go_roundw
        case rel =>
          refine ⟨t + 1, by go_num, by omega, ?_, hb.trans (hb1.mono hb.size)⟩
          rw [List.take_add_one, HG.out, List.all_append, HA.out]
          simp [hd]
        case measure => simp [intOf]; omega
    · obtain rfl : t = n := by omega
      have hall : l.all dOk = true := by have := HA.out; rwa [List.take_of_length_le (by rw [HL.out]; exact Nat.le_refl _)] at this
      have e := HR.out
      rw [stOk_t hall, HL.out] at e
      have E := Lib.hid e
      clear e hall
      go_wp2_with (go_at_call 12; refine (QubitCount_any _ _ _ _ hn).mono ?_; rintro e w' ⟨rfl, rfl⟩)
      go_ret
      refine ⟨?_, hb, hb.size⟩
      rw [E.out]
      rfl
end Go.Proofs.Ytgjpicekdbemiac
namespace Go.Proofs.Ytgjpicekdbemiac
open Go.RowKit
section
variable {P : Program} (w : World)
theorem run_append_nil (base : Nat) (t ty e : TypeId) (i : TypeInfo) (size : Nat) (ht : P.underlying t = some (.slice e)) (hi : P.info? e = some i)
    (v : Value) (n : Nat) (xs : List Value) (hown : w.ownsRow base e size v n xs) (c : Nat) : (Builtin.append_ #[t, t] ty #[v, .slice none 0 c]).run P w = .ok v w := by
  rcases hown.2 with ⟨rfl, rfl⟩ | ⟨g, cap, cur, rfl, _, _, hnc, _⟩
  · simp [Builtin.append_, run_underlying ht, sizeOf, typeInfo, hi, Builtin.lenOf, Builtin.firstCells]
  · simp [Builtin.append_, run_underlying ht, sizeOf, typeInfo, hi, Builtin.lenOf, Builtin.firstCells, hnc, storeCells]
theorem run_append_rd (base : Nat) (t ty e : TypeId) (i : TypeInfo) (z : Value) (size bytes : Nat) (ht : P.underlying t = some (.slice e)) (hi : P.info? e = some i) (hz : i.zero = some z)
    (hsize : i.size = size) (hby : i.bytes = bytes) (hzs : z.cells.size = size) (hsz : 0 < size)
    (v : Value) (n : Nat) (xs : List Value) (hown : w.ownsRow base e size v n xs) (A : Option Addr) (m c : Nat) (news : List Value) (hr : Rd w size A m news) (h1 : ∀ u ∈ news, u.oneCell' = true)
    (h63 : n + m ≤ maxLen) (hbytes : (n + m) * bytes ≤ 140737488355328) (hbase : base ≤ w.heap.size) :
    ∃ v' w', (Builtin.append_ #[t, t] ty #[v, .slice A m c]).run P w = .ok v' w' ∧ w'.ownsRow base e size v' (n + m) (xs ++ news) ∧ w.grownBy w' v.ownBlock ∧ (v'.ownBlock = v.ownBlock ∨ v'.ownBlock = some w.heap.size) := by
  rcases A with _ | ad
  · have hm : m = 0 := by
      rcases Nat.eq_zero_or_pos m with h0 | h0
      · exact h0
      · obtain ⟨_, _, h, _⟩ := hr.2 h0
        cases h
    subst hm
    have hn : news = [] := List.eq_nil_of_length_eq_zero (by simpa using hr.1)
    subst hn
    exact ⟨v, w, run_append_nil w base t ty e i size ht hi v n xs hown c, by simpa using hown, World.grownBy.refl w _, .inl rfl⟩
  · have hcells : ∀ j u, news[j]? = some u → w.cell? (ad.add j) = some u := by
      intro j u hu
      rcases Nat.eq_zero_or_pos m with h0 | h0
      · subst h0
        have hn : news = [] := List.eq_nil_of_length_eq_zero (by simpa using hr.1)
        subst hn
        simp at hu
      · obtain ⟨b, off, h, _, hc⟩ := hr.2 h0
        injection h with h
        subst h
        rw [Go.WideShapes.add_plain]
        exact hc j u hu
    obtain ⟨v', w', hrun, h2, h3, _, h5⟩ := run_append_own_at (P := P) w base t ty e i z size bytes ht hi hz hsize hby hzs hsz v n xs hown ad m c news hr.1 hcells h1 h63 hbytes hbase
    exact ⟨v', w', hrun, h2, h3, h5⟩
theorem wpList_append_rd {ops : Array Oper} {rest : List Oper} {o : Oper} {a : Act} {Q : Exit → Act → World → Prop} (hgd : o.guard = none) (s x : Operand) (t : TypeId)
    (ho : o.op = .call { callee := .builtin .append, args := #[s, x], argTypes := #[t, t] })
    (base : Nat) (e : TypeId) (i : TypeInfo) (z : Value) (size bytes : Nat) (ht : P.underlying t = some (.slice e)) (hi : P.info? e = some i) (hz : i.zero = some z)
    (hsize : i.size = size) (hby : i.bytes = bytes) (hzs : z.cells.size = size) (hsz : 0 < size)
    (v : Value) (n : Nat) (xs : List Value) (hs : a.eval s = v) (hown : w.ownsRow base e size v n xs)
    (A : Option Addr) (m c : Nat) (news : List Value) (hx : a.eval x = .slice A m c) (hr : Rd w size A m news) (h1 : ∀ u ∈ news, u.oneCell' = true)
    (h63 : n + m ≤ maxLen) (hbytes : (n + m) * bytes ≤ 140737488355328) (hbase : base ≤ w.heap.size)
    (h : ∀ v' w', w'.ownsRow base e size v' (n + m) (xs ++ news) → w.grownBy w' v.ownBlock → (v'.ownBlock = v.ownBlock ∨ v'.ownBlock = some w.heap.size) → wpList P ops Q rest (a.put o.dst v') w') : wpList P ops Q (o :: rest) a w := by
  refine wpList_plain hgd fun _ hK => ?_
  obtain ⟨v', w', hrun, h2, h3, h4⟩ := run_append_rd (P := P) w base t o.type e i z size bytes ht hi hz hsize hby hzs hsz v n xs hown A m c news hr h1 h63 hbytes hbase
  unfold Oper.wp execOp
  simp only [ho, resolve, invoke, builtin, Sem.run_bind, Sem.run_pure, Result.andThen_ok, List.map_toArray, List.map_cons, List.map_nil, hs, hx, hrun]
  exact hK _ _ (h v' w' h2 h3 h4)
end
theorem one_flat {α : Type} {f : α → List Value} (hf : ∀ x, ((f x).all Value.oneCell') = true) (l : List α) : ∀ u ∈ l.flatMap f, u.oneCell' = true := by
  intro u hu
  obtain ⟨x, _, hx⟩ := List.mem_flatMap.1 hu
  exact List.all_eq_true.1 (hf x) u hx
theorem own_ge {w : World} {base e size n : Nat} {v : Value} {xs : List Value} (h : w.ownsRow base e size v n xs) : ∀ k, v.ownBlock = some k → base ≤ k := fun k hk => (h.lt k hk).1
theorem rd_own {w : World} {base E size n c : Nat} {A : Option Addr} {xs : List Value} (h : w.ownsRow base E size (.slice A n c) n xs) : Rd w size A n xs := by
  obtain ⟨A', c', e, _, _, r⟩ := rd_of_own h
  injection e with e1 e2 e3
  rw [e1]
  exact r
/-- The row 'out' that an empty literal slice begins with. -/
theorem own_empty (w : World) (e size : Nat) : (w.alloc (.cells #[] e)).ownsRow w.heap.size e size (.slice (some ⟨w.heap.size, 0, none⟩) 0 0) 0 [] := World.ownsRow_lit w #[] 0 (Nat.le_refl _) (Nat.zero_le _) (by simp)
end Go.Proofs.Ytgjpicekdbemiac
namespace Go.Proofs.Ytgjpicekdbemiac
open Go.RowKit
set_option linter.unusedVariables false
/-- Only the blocks of the list F, and new ones, have turned. -/
structure Kin (F : List Nat) (w w' : World) : Prop where
  os : w'.os = w.os
  tape : w'.tape = w.tape
  output : w'.output = w.output
  size : w.heap.size ≤ w'.heap.size
  block : ∀ k, k < w.heap.size → k ∉ F → w'.heap[k]? = w.heap[k]?
theorem Kin.refl (F : List Nat) (w : World) : Kin F w w := ⟨rfl, rfl, rfl, Nat.le_refl _, fun _ _ _ => rfl⟩
theorem Kin.trans {F : List Nat} {a b c : World} (h : Kin F a b) (k : Kin F b c) : Kin F a c :=
  ⟨k.os.trans h.os, k.tape.trans h.tape, k.output.trans h.output, Nat.le_trans h.size k.size, fun i hi hn => (k.block i (Nat.lt_of_lt_of_le hi h.size) hn).trans (h.block i hi hn)⟩
theorem Kin.mono {F G : List Nat} {a b : World} (h : Kin F a b) (hs : ∀ x ∈ F, x ∈ G) : Kin G a b := ⟨h.os, h.tape, h.output, h.size, fun i hi hn => h.block i hi (fun hF => hn (hs i hF))⟩
theorem Kin.below {F : List Nat} {B : Nat} {w w' : World} (h : Kin F w w') (hB : B ≤ w.heap.size) (hF : ∀ k ∈ F, B ≤ k) : Below B w w' :=
  ⟨h.os, h.tape, h.output, h.size, fun k hk => h.block k (by omega) (fun hm => by have := hF k hm; omega)⟩
theorem kin_of_grown {w w' : World} {row : Option Nat} (h : w.grownBy w' row) : Kin row.toList w w' :=
  ⟨h.os, h.tape, h.output, h.size, fun k hk hn => h.block k hk (fun e => hn (by rw [← e]; simp))⟩
theorem kin_of_below {w w' : World} (F : List Nat) (h : Below w.heap.size w w') : Kin F w w' := ⟨h.os, h.tape, h.output, h.size, fun k hk _ => h.block k hk⟩
theorem Kin.drew {F : List Nat} {a b : World} (h : Kin F a b) : Kin F a b.drew := ⟨h.os, h.tape, h.output, h.size, h.block⟩
theorem own_blocks {w w' : World} {base e size n : Nat} {v : Value} {xs : List Value} (h : w.ownsRow base e size v n xs) (hk : ∀ k, v.ownBlock = some k → w'.heap[k]? = w.heap[k]?) : w'.ownsRow base e size v n xs := by
  refine ⟨h.1, ?_⟩
  rcases h.2 with hn | ⟨g, cap, cur, rfl, hb, hgg, rest⟩
  · exact .inl hn
  · exact .inr ⟨g, cap, cur, rfl, hb, (hk g rfl).trans hgg, rest⟩
theorem own_kin {F : List Nat} {w w' : World} {base e size n : Nat} {v : Value} {xs : List Value} (h : w.ownsRow base e size v n xs) (hk : Kin F w w') (hF : ∀ k, v.ownBlock = some k → k ∉ F) : w'.ownsRow base e size v n xs :=
  own_blocks h (fun k e => hk.block k (h.lt k e).2 (hF k e))
/-- A list of states that reads. -/
def RdM (w : World) (A : Option Addr) (n : Nat) (M : List (List Dm)) : Prop :=
  ∃ S : List Value, M.length = n ∧ Rd w 1 A n S ∧ ∀ (j : Nat) (r : List Dm), M[j]? = some r → ∃ a c, S[j]? = some (.slice a r.length c) ∧ r.length ≤ c ∧ c ≤ maxLen ∧ Rd w 5 a r.length (r.flatMap dcells)
theorem RdM.below {w w' : World} {A : Option Addr} {n : Nat} {M : List (List Dm)} (h : RdM w A n M) (hb : Below w.heap.size w w') : RdM w' A n M := by
  obtain ⟨S, h1, h2, h3⟩ := h
  refine ⟨S, h1, h2.below hb, fun j r hj => ?_⟩
  obtain ⟨a, c, e, e1, e2, hr⟩ := h3 j r hj
  exact ⟨a, c, e, e1, e2, hr.below hb⟩
theorem RdM.len {w : World} {A : Option Addr} {n : Nat} {M : List (List Dm)} (h : RdM w A n M) : M.length = n := by obtain ⟨_, h, _⟩ := h; exact h
theorem RdM.drew {w : World} {A : Option Addr} {n : Nat} {M : List (List Dm)} (h : RdM w A n M) : RdM w.drew A n M := h
/-- The row j: its cell, and what it reads. -/
theorem RdM.at {w : World} {A : Option Addr} {n j : Nat} {M : List (List Dm)} {r : List Dm} (h : RdM w A n M) (hj : M[j]? = some r) :
    ∃ b off a c, A = some ⟨b, off, none⟩ ∧ b < w.heap.size ∧ w.cell? ⟨b, off + j, none⟩ = some (.slice a r.length c) ∧ r.length ≤ c ∧ c ≤ maxLen ∧ Rd w 5 a r.length (r.flatMap dcells) := by
  obtain ⟨S, h1, h2, h3⟩ := h
  have hlt := (List.getElem?_eq_some_iff.1 hj).1
  obtain ⟨b, off, e, hl, hc⟩ := h2.2 (by omega)
  obtain ⟨a, c, es, e1, e2, hr⟩ := h3 j r hj
  exact ⟨b, off, a, c, e, hl, hc j _ es, e1, e2, hr⟩
/-- The whole size of a list of states. -/
def szM (M : List (List Dm)) : Nat := (M.map List.length).sum
theorem szM_snoc (M : List (List Dm)) (r : List Dm) : szM (M ++ [r]) = szM M + r.length := by simp [szM]
theorem szM_take (M : List (List Dm)) (t : Nat) (r : List Dm) (h : M[t]? = some r) : szM (M.take (t + 1)) = szM (M.take t) + r.length := by rw [List.take_add_one, h]; exact szM_snoc _ _
theorem szM_take_le : ∀ (M : List (List Dm)) (t : Nat), szM (M.take t) ≤ szM M
  | [], t => by simp [szM]
  | r :: M, 0 => by simp [szM]
  | r :: M, t + 1 => by
    have := szM_take_le M t
    simp only [szM, List.take_succ_cons, List.map_cons, List.sum_cons] at this ⊢
    omega
theorem szM_row {M : List (List Dm)} {t : Nat} {r : List Dm} (h : M[t]? = some r) : r.length ≤ szM M := by
  have h1 := szM_take M t r h
  have h2 := szM_take_le M (t + 1)
  omega
/-- A call owns a list of states whole: the outer row and each state, in the blocks F, none twice. -/
def OwnM (w : World) (base : Nat) (v : Value) (n : Nat) (M : List (List Dm)) (F : List Nat) : Prop :=
  ∃ S : List Value, M.length = n ∧ w.ownsRow base 38 1 v n S ∧ F = v.ownBlock.toList ++ S.flatMap (fun u => u.ownBlock.toList) ∧ F.Nodup ∧
    ∀ (j : Nat) (r : List Dm), M[j]? = some r → ∃ u, S[j]? = some u ∧ w.ownsRow base 47 5 u r.length (r.flatMap dcells)
theorem own_S {M : List (List Dm)} {S : List Value} {n : Nat} (h1 : M.length = n) (h2 : S.length = n * 1) {j : Nat} {u : Value} (hj : S[j]? = some u) : ∃ r, M[j]? = some r :=
  ⟨_, List.getElem?_eq_getElem (by have := (List.getElem?_eq_some_iff.1 hj).1; omega)⟩
theorem OwnM.lt {w : World} {base n : Nat} {v : Value} {M : List (List Dm)} {F : List Nat} (h : OwnM w base v n M F) : ∀ k ∈ F, base ≤ k ∧ k < w.heap.size := by
  obtain ⟨S, h1, h2, rfl, _, h4⟩ := h
  intro k hk
  rcases List.mem_append.1 hk with hk | hk
  · exact h2.lt k (by simpa using hk)
  · obtain ⟨u, hu, hk⟩ := List.mem_flatMap.1 hk
    obtain ⟨j, hj⟩ := List.mem_iff_getElem?.1 hu
    obtain ⟨r, hr⟩ := own_S h1 h2.1 hj
    obtain ⟨u', hu', ho⟩ := h4 j r hr
    rw [hj] at hu'
    cases hu'
    exact ho.lt k (by simpa using hk)
theorem OwnM.kin {G : List Nat} {w w' : World} {base n : Nat} {v : Value} {M : List (List Dm)} {F : List Nat} (h : OwnM w base v n M F) (hk : Kin G w w') (hF : ∀ k ∈ F, k ∉ G) : OwnM w' base v n M F := by
  obtain ⟨S, h1, h2, rfl, h3, h4⟩ := h
  refine ⟨S, h1, own_kin h2 hk (fun k e => hF k (by simp [e])), rfl, h3, fun j r hj => ?_⟩
  obtain ⟨u, hu, ho⟩ := h4 j r hj
  exact ⟨u, hu, own_kin ho hk (fun k e => hF k (List.mem_append.2 (.inr (List.mem_flatMap.2 ⟨u, List.mem_of_getElem? hu, by simp [e]⟩))))⟩
theorem OwnM.below {w w' : World} {base n : Nat} {v : Value} {M : List (List Dm)} {F : List Nat} (h : OwnM w base v n M F) (hb : Below w.heap.size w w') : OwnM w' base v n M F := h.kin (kin_of_below [] hb) (by simp)
theorem OwnM.base_le {w : World} {base base' n : Nat} {v : Value} {M : List (List Dm)} {F : List Nat} (h : OwnM w base v n M F) (hB : base' ≤ base) : OwnM w base' v n M F := by
  have ob : ∀ {B e size n : Nat} {v : Value} {xs : List Value}, base = B → w.ownsRow B e size v n xs → w.ownsRow base' e size v n xs := by
    intro B e size n v xs hh h
    refine ⟨h.1, ?_⟩
    rcases h.2 with h2 | ⟨g, cap, cur, h1, h2, h3⟩
    · exact .inl h2
    · exact .inr ⟨g, cap, cur, h1, by omega, h3⟩
  obtain ⟨S, h1, h2, rfl, h3, h4⟩ := h
  refine ⟨S, h1, ob rfl h2, rfl, h3, fun j r hj => ?_⟩
  obtain ⟨u, hu, ho⟩ := h4 j r hj
  exact ⟨u, hu, ob rfl ho⟩
theorem OwnM.rd {w : World} {base n : Nat} {v : Value} {M : List (List Dm)} {F : List Nat} (h : OwnM w base v n M F) : ∃ A c, v = .slice A n c ∧ n ≤ c ∧ c ≤ maxLen ∧ RdM w A n M := by
  obtain ⟨S, h1, h2, _, _, h4⟩ := h
  obtain ⟨A, c, e, e1, e2, hr⟩ := rd_of_own h2
  refine ⟨A, c, e, e1, e2, S, h1, hr, fun j r hj => ?_⟩
  obtain ⟨u, hu, ho⟩ := h4 j r hj
  obtain ⟨a, c', rfl, e3, e4, hr'⟩ := rd_of_own ho
  exact ⟨a, c', hu, e3, e4, hr'⟩
theorem OwnM.rd' {w : World} {base n c : Nat} {A : Option Addr} {M : List (List Dm)} {F : List Nat} (h : OwnM w base (.slice A n c) n M F) : RdM w A n M := by
  obtain ⟨A', c', e, _, _, r⟩ := h.rd
  injection e with e1 e2 e3
  rw [e1]
  exact r
theorem ownM_nil (w : World) (base : Nat) : OwnM w base (.slice none 0 0) 0 [] [] := ⟨[], rfl, World.ownsRow_nil _ _ _ _, by simp [Value.ownBlock], List.nodup_nil, by simp⟩
/-- Behind 'append' of one state: what is owned then. -/
theorem ownM_snoc {w w' : World} {base n : Nat} {v v' u : Value} {M : List (List Dm)} {r : List Dm} {S : List Value} (h1 : M.length = n) (h2 : w.ownsRow base 38 1 v n S) (h3 : (v.ownBlock.toList ++ S.flatMap (fun u => u.ownBlock.toList)).Nodup)
    (h4 : ∀ (j : Nat) (r : List Dm), M[j]? = some r → ∃ u, S[j]? = some u ∧ w.ownsRow base 47 5 u r.length (r.flatMap dcells))
    (hu : w.ownsRow base 47 5 u r.length (r.flatMap dcells)) (hd : ∀ k, u.ownBlock = some k → k ∉ v.ownBlock.toList ++ S.flatMap (fun u => u.ownBlock.toList))
    (h' : w'.ownsRow base 38 1 v' (n + 1) (S ++ [u])) (hg : w.grownBy w' v.ownBlock) (hb : v'.ownBlock = v.ownBlock ∨ v'.ownBlock = some w.heap.size) :
    ∃ F', OwnM w' base v' (n + 1) (M ++ [r]) F' ∧ ∀ k ∈ F', k ∈ v.ownBlock.toList ++ S.flatMap (fun u => u.ownBlock.toList) ∨ u.ownBlock = some k ∨ k = w.heap.size := by
  have hF := OwnM.lt ⟨S, h1, h2, rfl, h3, h4⟩
  have hS : S.length = n := by simpa using h2.1
  have hv : ∀ k, v'.ownBlock = some k → v.ownBlock = some k ∨ k = w.heap.size := by
    intro k hk
    rcases hb with hb | hb
    · rw [← hb]; exact .inl hk
    · rw [hb] at hk; injection hk with hk; exact .inr hk.symm
  refine ⟨_, ⟨S ++ [u], by simp [h1], h', rfl, ?_, fun j r' hj => ?_⟩, ?_⟩
  · rw [List.flatMap_append]
    have hnd := List.nodup_append.1 h3
    have hu1 : (List.flatMap (fun u => u.ownBlock.toList) [u]) = u.ownBlock.toList := by simp
    rw [hu1]
    refine List.nodup_append.2 ⟨by cases v'.ownBlock <;> simp, List.nodup_append.2 ⟨hnd.2.1, by cases u.ownBlock <;> simp, ?_⟩, ?_⟩
    · intro a ha b hb' e
      subst e
      exact hd a (by simpa using hb') (List.mem_append.2 (.inr ha))
    · intro a ha b hb' e
      subst e
      rcases hv a (by simpa using ha) with hva | hva
      · rcases List.mem_append.1 hb' with hb' | hb'
        · exact hnd.2.2 a (by simpa using hva) a hb' rfl
        · exact hd a (by simpa using hb') (List.mem_append.2 (.inl (by simpa using hva)))
      · subst hva
        rcases List.mem_append.1 hb' with hb' | hb'
        · have := hF _ (List.mem_append.2 (.inr hb'))
          omega
        · have := (hu.lt _ (by simpa using hb')).2
          omega
  · by_cases hjn : j < n
    · rw [List.getElem?_append_left (by omega)] at hj
      obtain ⟨u', hu', ho⟩ := h4 j r' hj
      refine ⟨u', by rw [List.getElem?_append_left (by omega)]; exact hu', ho.kept hg ?_⟩
      cases hvk : v.ownBlock with
      | none => cases u'.ownBlock <;> simp
      | some k =>
        refine .inr fun e => ?_
        have hnd := (List.nodup_append.1 h3).2.2
        exact hnd k (by simp [hvk]) k (List.mem_flatMap.2 ⟨u', List.mem_of_getElem? hu', by simp [e]⟩) rfl
    · have hj' := (List.getElem?_eq_some_iff.1 hj).1
      simp at hj'
      obtain rfl : j = n := by omega
      rw [List.getElem?_append_right (by omega), h1] at hj
      simp at hj
      subst hj
      refine ⟨u, by rw [List.getElem?_append_right (by omega), hS]; simp, hu.kept hg ?_⟩
      cases hvk : v.ownBlock with
      | none => cases u.ownBlock <;> simp
      | some k => exact .inr fun e => hd k e (List.mem_append.2 (.inl (by simp [hvk])))
  · intro k hk
    rcases List.mem_append.1 hk with hk | hk
    · rcases hv k (by simpa using hk) with h | h
      · exact .inl (List.mem_append.2 (.inl (by simpa using h)))
      · exact .inr (.inr h)
    · rw [List.flatMap_append] at hk
      rcases List.mem_append.1 hk with hk | hk
      · exact .inl (List.mem_append.2 (.inr hk))
      · exact .inr (.inl (by simpa using hk))
/-- Behind a write into the row t alone. -/
theorem ownM_set {w w' : World} {base n t : Nat} {v u : Value} {M : List (List Dm)} {r r' : List Dm} {S : List Value} (h1 : M.length = n) (h2 : w.ownsRow base 38 1 v n S) (h3 : (v.ownBlock.toList ++ S.flatMap (fun u => u.ownBlock.toList)).Nodup)
    (h4 : ∀ (j : Nat) (r : List Dm), M[j]? = some r → ∃ u, S[j]? = some u ∧ w.ownsRow base 47 5 u r.length (r.flatMap dcells))
    (hu : S[t]? = some u) (ht : t < n) (ho : w'.ownsRow base 47 5 u r'.length (r'.flatMap dcells)) (hg : w.grownBy w' u.ownBlock) :
    w'.ownsRow base 38 1 v n S ∧ ∀ (j : Nat) (r : List Dm), (M.set t r')[j]? = some r → ∃ u, S[j]? = some u ∧ w'.ownsRow base 47 5 u r.length (r.flatMap dcells) := by
  have hnd := List.nodup_append.1 h3
  have hmem : u ∈ S := List.mem_of_getElem? hu
  refine ⟨h2.kept hg ?_, fun j r hj => ?_⟩
  · cases hvk : v.ownBlock with
    | none => exact .inl rfl
    | some k => exact .inr fun e => hnd.2.2 k (by simp [hvk]) k (List.mem_flatMap.2 ⟨u, hmem, by simp [← e]⟩) rfl
  · by_cases hjt : j = t
    · subst hjt
      rw [List.getElem?_set_self (by omega)] at hj
      injection hj with hj
      subst hj
      exact ⟨u, hu, ho⟩
    · rw [List.getElem?_set_ne (Ne.symm hjt)] at hj
      obtain ⟨u', hu', ho'⟩ := h4 j r hj
      refine ⟨u', hu', ho'.kept hg ?_⟩
      cases huk : u'.ownBlock with
      | none => exact .inl rfl
      | some k =>
        refine .inr fun e => ?_
        have hpw := List.pairwise_flatMap.1 (List.nodup_iff_pairwise_ne.1 hnd.2.1) |>.2
        have hlj := (List.getElem?_eq_some_iff.1 hu').1
        have hlt := (List.getElem?_eq_some_iff.1 hu).1
        have ej := (List.getElem?_eq_some_iff.1 hu').2
        have et := (List.getElem?_eq_some_iff.1 hu).2
        rcases Nat.lt_or_gt_of_ne hjt with hh | hh
        · have := List.pairwise_iff_getElem.1 hpw j t hlj hlt hh
          rw [ej, et] at this
          exact this k (by simp [huk]) k (by simp [← e]) rfl
        · have := List.pairwise_iff_getElem.1 hpw t j hlt hlj hh
          rw [ej, et] at this
          exact this k (by simp [← e]) k (by simp [huk]) rfl
theorem own_from {w : World} {B B' e size n : Nat} {v : Value} {xs : List Value} (h : w.ownsRow B e size v n xs) (hB : B' ≤ B) : w.ownsRow B' e size v n xs := by
  refine ⟨h.1, ?_⟩
  rcases h.2 with h2 | ⟨g, cap, cur, h1, h2, h3⟩
  · exact .inl h2
  · exact .inr ⟨g, cap, cur, h1, Nat.le_trans hB h2, h3⟩
end Go.Proofs.Ytgjpicekdbemiac
namespace Go.Proofs.Ytgjpicekdbemiac
open Go.RowKit
set_option linter.unusedVariables false
/-- A call that returns a list of states of its own. -/
def RetM (w : World) (n : Nat) (M : List (List Dm)) (e : Ending) (w' : World) : Prop :=
  ∃ v F, e = .returned v ∧ OwnM w' w.heap.size v n M F ∧ Below w.heap.size w w' ∧ w.heap.size ≤ w'.heap.size
theorem info_DOmegaSE : (Try.prog.info? 38).map (fun i => (i.zero, i.size, i.bytes)) = some (some (.slice none 0 0), 1, 24) := by kernel_rfl
end Go.Proofs.Ytgjpicekdbemiac
