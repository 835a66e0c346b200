/- The reference's map of an index by a gate: each call returns what the plain function says. -/
import Derived.Test.YtgjpicekdbemiaaGoB
namespace Go.Proofs.Ytgjpicekdbemiaa
open Go.RowKit
set_option linter.unusedVariables false
theorem cells_i (i : Nat) (y : Zw) : [(⟨i, y, 0⟩ : Snt)].flatMap scells = icells i y := by simp [scells, icells]
theorem cells_f {i q : Nat} (t : Bool) (hi : i < 16) (hq : q < 4) (y : Zw) : [(⟨if t = true then fl i q else i, y, 0⟩ : Snt)].flatMap scells = icells (if t = true then xfl i q else i) y := by
  rw [cells_i]
  cases t
  · rfl
  · rw [if_pos rfl, if_pos rfl, xfl_nat hi hq]
theorem sh_nat {a : Nat} (ha : a < 4) : IntKind.i64.wrap (2 ^ min (IntKind.u64.wrap (a : Int)).toNat 64) = wrap64 (2 ^ a) := by
  obtain rfl | rfl | rfl | rfl : a = 0 ∨ a = 1 ∨ a = 2 ∨ a = 3 := by omega
  all_goals decide +kernel
theorem retrow_as {T size : Nat} {w : World} {n : Nat} {xs ys : List Value} (h : xs = ys) {e : Ending} {w' : World} (hr : RetRow T size w n xs e w') : RetRow T size w n ys e w' := h ▸ hr
set_option maxRecDepth 100000 in
set_option maxHeartbeats 4000000 in
theorem l10Goes_1 (a b c i : Nat) (w : World) (ha : a < 4) (hb : b < 4) (hc : c < 4) (hi : i < 16) : Calls Try.prog 47 #[.agg #[.int .i64 1, .int .i64 a, .int .i64 b, .int .i64 c], .int .i64 i] w (RetRow 81 6 w 1 ((goes ⟨1, a, b, c⟩ i).flatMap scells)) := by
  have e : (goes ⟨1, a, b, c⟩ i).flatMap scells = icells (xfl i a) (zph 0) := (cells_f true hi ha (zph 0))
  obtain ⟨X, hX⟩ : ∃ X, X = icells (xfl i a) (zph 0) := ⟨_, rfl⟩
  rw [e, ← hX]
  have HX := Lib.hid hX
  clear hX
  clear e
  go_enter Try.func47, Try.ntmps47
  go_wp2_with fail
  refine (l10Flip_any i true a ha _).mono ?_
  rintro e w1 ⟨v, rfl, hown, hb1, hs1⟩
  go_wp2_with fail
  go_ret
  refine ⟨v, rfl, ?_, ?_, ?_⟩
  · rw [HX.out]; exact own_lowS hown (by simp)
  · exact (by repeat (first | exact Below.refl _ _ | assumption | (refine Below.trans ?_ (Below.mono (by assumption) (by first | omega | (simp; done) | (simp; omega)))) | (with_reducible refine Below.drew ?_) | (with_reducible refine Below.alloc ?_ (by first | omega | (simp; done) | (simp; omega)) _) | (with_reducible refine Below.setCell ?_ (by first | omega | (simp; done) | (simp; omega)) _)))
  · have := hb1.size; simp at this; omega
set_option maxRecDepth 100000 in
set_option maxHeartbeats 4000000 in
theorem l10Goes_3 (a b c i : Nat) (w : World) (ha : a < 4) (hb : b < 4) (hc : c < 4) (hi : i < 16) : Calls Try.prog 47 #[.agg #[.int .i64 3, .int .i64 a, .int .i64 b, .int .i64 c], .int .i64 i] w (RetRow 81 6 w 1 ((goes ⟨3, a, b, c⟩ i).flatMap scells)) := by
  have e : (goes ⟨3, a, b, c⟩ i).flatMap scells = icells i (zph (if bti i a = true then 4 else 0)) := by rw [bti_nat hi ha]; exact cells_i i _
  obtain ⟨X, hX⟩ : ∃ X, X = icells i (zph (if bti i a = true then 4 else 0)) := ⟨_, rfl⟩
  rw [e, ← hX]
  have HX := Lib.hid hX
  clear hX
  clear e
  go_enter Try.func47, Try.ntmps47
  go_wp2_with fail
  refine (l10Phase_any i (bti i a) 4 (by decide) _).mono ?_
  rintro e w1 ⟨v, rfl, hown, hb1, hs1⟩
  go_wp2_with fail
  go_ret
  refine ⟨v, rfl, ?_, ?_, ?_⟩
  · rw [HX.out]; exact own_lowS hown (by simp)
  · exact (by repeat (first | exact Below.refl _ _ | assumption | (refine Below.trans ?_ (Below.mono (by assumption) (by first | omega | (simp; done) | (simp; omega)))) | (with_reducible refine Below.drew ?_) | (with_reducible refine Below.alloc ?_ (by first | omega | (simp; done) | (simp; omega)) _) | (with_reducible refine Below.setCell ?_ (by first | omega | (simp; done) | (simp; omega)) _)))
  · have := hb1.size; simp at this; omega
set_option maxRecDepth 100000 in
set_option maxHeartbeats 4000000 in
theorem l10Goes_5 (a b c i : Nat) (w : World) (ha : a < 4) (hb : b < 4) (hc : c < 4) (hi : i < 16) : Calls Try.prog 47 #[.agg #[.int .i64 5, .int .i64 a, .int .i64 b, .int .i64 c], .int .i64 i] w (RetRow 81 6 w 1 ((goes ⟨5, a, b, c⟩ i).flatMap scells)) := by
  have e : (goes ⟨5, a, b, c⟩ i).flatMap scells = icells i (zph (if bti i a = true then 2 else 0)) := by rw [bti_nat hi ha]; exact cells_i i _
  obtain ⟨X, hX⟩ : ∃ X, X = icells i (zph (if bti i a = true then 2 else 0)) := ⟨_, rfl⟩
  rw [e, ← hX]
  have HX := Lib.hid hX
  clear hX
  clear e
  go_enter Try.func47, Try.ntmps47
  go_wp2_with fail
  refine (l10Phase_any i (bti i a) 2 (by decide) _).mono ?_
  rintro e w1 ⟨v, rfl, hown, hb1, hs1⟩
  go_wp2_with fail
  go_ret
  refine ⟨v, rfl, ?_, ?_, ?_⟩
  · rw [HX.out]; exact own_lowS hown (by simp)
  · exact (by repeat (first | exact Below.refl _ _ | assumption | (refine Below.trans ?_ (Below.mono (by assumption) (by first | omega | (simp; done) | (simp; omega)))) | (with_reducible refine Below.drew ?_) | (with_reducible refine Below.alloc ?_ (by first | omega | (simp; done) | (simp; omega)) _) | (with_reducible refine Below.setCell ?_ (by first | omega | (simp; done) | (simp; omega)) _)))
  · have := hb1.size; simp at this; omega
set_option maxRecDepth 100000 in
set_option maxHeartbeats 4000000 in
theorem l10Goes_6 (a b c i : Nat) (w : World) (ha : a < 4) (hb : b < 4) (hc : c < 4) (hi : i < 16) : Calls Try.prog 47 #[.agg #[.int .i64 6, .int .i64 a, .int .i64 b, .int .i64 c], .int .i64 i] w (RetRow 81 6 w 1 ((goes ⟨6, a, b, c⟩ i).flatMap scells)) := by
  have e : (goes ⟨6, a, b, c⟩ i).flatMap scells = icells i (zph (if bti i a = true then 6 else 0)) := by rw [bti_nat hi ha]; exact cells_i i _
  obtain ⟨X, hX⟩ : ∃ X, X = icells i (zph (if bti i a = true then 6 else 0)) := ⟨_, rfl⟩
  rw [e, ← hX]
  have HX := Lib.hid hX
  clear hX
  clear e
  go_enter Try.func47, Try.ntmps47
  go_wp2_with fail
  refine (l10Phase_any i (bti i a) 6 (by decide) _).mono ?_
  rintro e w1 ⟨v, rfl, hown, hb1, hs1⟩
  go_wp2_with fail
  go_ret
  refine ⟨v, rfl, ?_, ?_, ?_⟩
  · rw [HX.out]; exact own_lowS hown (by simp)
  · exact (by repeat (first | exact Below.refl _ _ | assumption | (refine Below.trans ?_ (Below.mono (by assumption) (by first | omega | (simp; done) | (simp; omega)))) | (with_reducible refine Below.drew ?_) | (with_reducible refine Below.alloc ?_ (by first | omega | (simp; done) | (simp; omega)) _) | (with_reducible refine Below.setCell ?_ (by first | omega | (simp; done) | (simp; omega)) _)))
  · have := hb1.size; simp at this; omega
set_option maxRecDepth 100000 in
set_option maxHeartbeats 4000000 in
theorem l10Goes_7 (a b c i : Nat) (w : World) (ha : a < 4) (hb : b < 4) (hc : c < 4) (hi : i < 16) : Calls Try.prog 47 #[.agg #[.int .i64 7, .int .i64 a, .int .i64 b, .int .i64 c], .int .i64 i] w (RetRow 81 6 w 1 ((goes ⟨7, a, b, c⟩ i).flatMap scells)) := by
  have e : (goes ⟨7, a, b, c⟩ i).flatMap scells = icells i (zph (if bti i a = true then 1 else 0)) := by rw [bti_nat hi ha]; exact cells_i i _
  obtain ⟨X, hX⟩ : ∃ X, X = icells i (zph (if bti i a = true then 1 else 0)) := ⟨_, rfl⟩
  rw [e, ← hX]
  have HX := Lib.hid hX
  clear hX
  clear e
  go_enter Try.func47, Try.ntmps47
  go_wp2_with fail
  refine (l10Phase_any i (bti i a) 1 (by decide) _).mono ?_
  rintro e w1 ⟨v, rfl, hown, hb1, hs1⟩
  go_wp2_with fail
  go_ret
  refine ⟨v, rfl, ?_, ?_, ?_⟩
  · rw [HX.out]; exact own_lowS hown (by simp)
  · exact (by repeat (first | exact Below.refl _ _ | assumption | (refine Below.trans ?_ (Below.mono (by assumption) (by first | omega | (simp; done) | (simp; omega)))) | (with_reducible refine Below.drew ?_) | (with_reducible refine Below.alloc ?_ (by first | omega | (simp; done) | (simp; omega)) _) | (with_reducible refine Below.setCell ?_ (by first | omega | (simp; done) | (simp; omega)) _)))
  · have := hb1.size; simp at this; omega
set_option maxRecDepth 100000 in
set_option maxHeartbeats 4000000 in
theorem l10Goes_8 (a b c i : Nat) (w : World) (ha : a < 4) (hb : b < 4) (hc : c < 4) (hi : i < 16) : Calls Try.prog 47 #[.agg #[.int .i64 8, .int .i64 a, .int .i64 b, .int .i64 c], .int .i64 i] w (RetRow 81 6 w 1 ((goes ⟨8, a, b, c⟩ i).flatMap scells)) := by
  have e : (goes ⟨8, a, b, c⟩ i).flatMap scells = icells i (zph (if bti i a = true then 7 else 0)) := by rw [bti_nat hi ha]; exact cells_i i _
  obtain ⟨X, hX⟩ : ∃ X, X = icells i (zph (if bti i a = true then 7 else 0)) := ⟨_, rfl⟩
  rw [e, ← hX]
  have HX := Lib.hid hX
  clear hX
  clear e
  go_enter Try.func47, Try.ntmps47
  go_wp2_with fail
  refine (l10Phase_any i (bti i a) 7 (by decide) _).mono ?_
  rintro e w1 ⟨v, rfl, hown, hb1, hs1⟩
  go_wp2_with fail
  go_ret
  refine ⟨v, rfl, ?_, ?_, ?_⟩
  · rw [HX.out]; exact own_lowS hown (by simp)
  · exact (by repeat (first | exact Below.refl _ _ | assumption | (refine Below.trans ?_ (Below.mono (by assumption) (by first | omega | (simp; done) | (simp; omega)))) | (with_reducible refine Below.drew ?_) | (with_reducible refine Below.alloc ?_ (by first | omega | (simp; done) | (simp; omega)) _) | (with_reducible refine Below.setCell ?_ (by first | omega | (simp; done) | (simp; omega)) _)))
  · have := hb1.size; simp at this; omega
set_option maxRecDepth 100000 in
set_option maxHeartbeats 4000000 in
theorem l10Goes_9 (a b c i : Nat) (w : World) (ha : a < 4) (hb : b < 4) (hc : c < 4) (hi : i < 16) : Calls Try.prog 47 #[.agg #[.int .i64 9, .int .i64 a, .int .i64 b, .int .i64 c], .int .i64 i] w (RetRow 81 6 w 1 ((goes ⟨9, a, b, c⟩ i).flatMap scells)) := by
  have e : (goes ⟨9, a, b, c⟩ i).flatMap scells = icells (if bti i a = true then xfl i b else i) (zph 0) := by rw [bti_nat hi ha]; exact cells_f _ hi hb (zph 0)
  obtain ⟨X, hX⟩ : ∃ X, X = icells (if bti i a = true then xfl i b else i) (zph 0) := ⟨_, rfl⟩
  rw [e, ← hX]
  have HX := Lib.hid hX
  clear hX
  clear e
  go_enter Try.func47, Try.ntmps47
  go_wp2_with fail
  refine (l10Flip_any i (bti i a) b hb _).mono ?_
  rintro e w1 ⟨v, rfl, hown, hb1, hs1⟩
  go_wp2_with fail
  go_ret
  refine ⟨v, rfl, ?_, ?_, ?_⟩
  · rw [HX.out]; exact own_lowS hown (by simp)
  · exact (by repeat (first | exact Below.refl _ _ | assumption | (refine Below.trans ?_ (Below.mono (by assumption) (by first | omega | (simp; done) | (simp; omega)))) | (with_reducible refine Below.drew ?_) | (with_reducible refine Below.alloc ?_ (by first | omega | (simp; done) | (simp; omega)) _) | (with_reducible refine Below.setCell ?_ (by first | omega | (simp; done) | (simp; omega)) _)))
  · have := hb1.size; simp at this; omega
set_option maxRecDepth 100000 in
set_option maxHeartbeats 4000000 in
theorem l10Goes_10 (a b c i : Nat) (w : World) (ha : a < 4) (hb : b < 4) (hc : c < 4) (hi : i < 16) : Calls Try.prog 47 #[.agg #[.int .i64 10, .int .i64 a, .int .i64 b, .int .i64 c], .int .i64 i] w (RetRow 81 6 w 1 ((goes ⟨10, a, b, c⟩ i).flatMap scells)) := by
  have e : (goes ⟨10, a, b, c⟩ i).flatMap scells = icells i (zph (if (bti i a && bti i b) = true then 4 else 0)) := by rw [bti_nat hi ha, bti_nat hi hb]; exact cells_i i _
  obtain ⟨X, hX⟩ : ∃ X, X = icells i (zph (if (bti i a && bti i b) = true then 4 else 0)) := ⟨_, rfl⟩
  rw [e, ← hX]
  have HX := Lib.hid hX
  clear hX
  clear e
  cases hA : bti i a
  · have hA' : (bits BinOp.and IntKind.i64 ((i : Int) / 2 ^ a) 1 == 1) = false := hA
    rw [hA, Bool.false_and] at HX
    clear hA
    go_enter Try.func47, Try.ntmps47
    go_wp2_with fail
    refine (l10Phase_any i false 4 (by decide) _).mono ?_
    rintro e w1 ⟨v, rfl, hown, hb1, hs1⟩
    go_wp2_with fail
    go_ret
    refine ⟨v, rfl, ?_, ?_, ?_⟩
    · rw [HX.out]; exact own_lowS hown (by simp)
    · exact (by repeat (first | exact Below.refl _ _ | assumption | (refine Below.trans ?_ (Below.mono (by assumption) (by first | omega | (simp; done) | (simp; omega)))) | (with_reducible refine Below.drew ?_) | (with_reducible refine Below.alloc ?_ (by first | omega | (simp; done) | (simp; omega)) _) | (with_reducible refine Below.setCell ?_ (by first | omega | (simp; done) | (simp; omega)) _)))
    · have := hb1.size; simp at this; omega
  · have hA' : (bits BinOp.and IntKind.i64 ((i : Int) / 2 ^ a) 1 == 1) = true := hA
    rw [hA, Bool.true_and] at HX
    clear hA
    go_enter Try.func47, Try.ntmps47
    go_wp2_with fail
    refine (l10Phase_any i (bti i b) 4 (by decide) _).mono ?_
    rintro e w1 ⟨v, rfl, hown, hb1, hs1⟩
    go_wp2_with fail
    go_ret
    refine ⟨v, rfl, ?_, ?_, ?_⟩
    · rw [HX.out]; exact own_lowS hown (by simp)
    · exact (by repeat (first | exact Below.refl _ _ | assumption | (refine Below.trans ?_ (Below.mono (by assumption) (by first | omega | (simp; done) | (simp; omega)))) | (with_reducible refine Below.drew ?_) | (with_reducible refine Below.alloc ?_ (by first | omega | (simp; done) | (simp; omega)) _) | (with_reducible refine Below.setCell ?_ (by first | omega | (simp; done) | (simp; omega)) _)))
    · have := hb1.size; simp at this; omega
set_option maxRecDepth 100000 in
set_option maxHeartbeats 4000000 in
theorem l10Goes_12 (a b c i : Nat) (w : World) (ha : a < 4) (hb : b < 4) (hc : c < 4) (hi : i < 16) : Calls Try.prog 47 #[.agg #[.int .i64 12, .int .i64 a, .int .i64 b, .int .i64 c], .int .i64 i] w (RetRow 81 6 w 1 ((goes ⟨12, a, b, c⟩ i).flatMap scells)) := by
  have e : (goes ⟨12, a, b, c⟩ i).flatMap scells = icells (if (bti i a && bti i b) = true then xfl i c else i) (zph 0) := by rw [bti_nat hi ha, bti_nat hi hb]; exact cells_f _ hi hc (zph 0)
  obtain ⟨X, hX⟩ : ∃ X, X = icells (if (bti i a && bti i b) = true then xfl i c else i) (zph 0) := ⟨_, rfl⟩
  rw [e, ← hX]
  have HX := Lib.hid hX
  clear hX
  clear e
  cases hA : bti i a
  · have hA' : (bits BinOp.and IntKind.i64 ((i : Int) / 2 ^ a) 1 == 1) = false := hA
    rw [hA, Bool.false_and] at HX
    clear hA
    go_enter Try.func47, Try.ntmps47
    go_wp2_with fail
    refine (l10Flip_any i false c hc _).mono ?_
    rintro e w1 ⟨v, rfl, hown, hb1, hs1⟩
    go_wp2_with fail
    go_ret
    refine ⟨v, rfl, ?_, ?_, ?_⟩
    · rw [HX.out]; exact own_lowS hown (by simp)
    · exact (by repeat (first | exact Below.refl _ _ | assumption | (refine Below.trans ?_ (Below.mono (by assumption) (by first | omega | (simp; done) | (simp; omega)))) | (with_reducible refine Below.drew ?_) | (with_reducible refine Below.alloc ?_ (by first | omega | (simp; done) | (simp; omega)) _) | (with_reducible refine Below.setCell ?_ (by first | omega | (simp; done) | (simp; omega)) _)))
    · have := hb1.size; simp at this; omega
  · have hA' : (bits BinOp.and IntKind.i64 ((i : Int) / 2 ^ a) 1 == 1) = true := hA
    rw [hA, Bool.true_and] at HX
    clear hA
    go_enter Try.func47, Try.ntmps47
    go_wp2_with fail
    refine (l10Flip_any i (bti i b) c hc _).mono ?_
    rintro e w1 ⟨v, rfl, hown, hb1, hs1⟩
    go_wp2_with fail
    go_ret
    refine ⟨v, rfl, ?_, ?_, ?_⟩
    · rw [HX.out]; exact own_lowS hown (by simp)
    · exact (by repeat (first | exact Below.refl _ _ | assumption | (refine Below.trans ?_ (Below.mono (by assumption) (by first | omega | (simp; done) | (simp; omega)))) | (with_reducible refine Below.drew ?_) | (with_reducible refine Below.alloc ?_ (by first | omega | (simp; done) | (simp; omega)) _) | (with_reducible refine Below.setCell ?_ (by first | omega | (simp; done) | (simp; omega)) _)))
    · have := hb1.size; simp at this; omega
set_option maxRecDepth 100000 in
set_option maxHeartbeats 4000000 in
theorem l10Goes_2 (a b c i : Nat) (w : World) (ha : a < 4) (hb : b < 4) (hc : c < 4) (hi : i < 16) : Calls Try.prog 47 #[.agg #[.int .i64 2, .int .i64 a, .int .i64 b, .int .i64 c], .int .i64 i] w (RetRow 81 6 w 1 ((goes ⟨2, a, b, c⟩ i).flatMap scells)) := by
  have e : (goes ⟨2, a, b, c⟩ i).flatMap scells = icells (xfl i a) (zph (if bti i a = true then 6 else 2)) := by rw [bti_nat hi ha, xfl_nat hi ha]; exact cells_i _ _
  obtain ⟨X, hX⟩ : ∃ X, X = icells (xfl i a) (zph (if bti i a = true then 6 else 2)) := ⟨_, rfl⟩
  rw [e, ← hX]
  have HX := Lib.hid hX
  clear hX
  clear e
  have hP6 : ∀ W : World, Calls Try.prog 41 #[.int .i64 6] W (Ret (.agg #[.int .i64 0, .int .i64 0, .int .i64 (-1), .int .i64 0, .int .i64 0]) W) := fun W => PhaseFactor_any 6 (by decide) W
  have hP2 : ∀ W : World, Calls Try.prog 41 #[.int .i64 2] W (Ret (.agg #[.int .i64 0, .int .i64 0, .int .i64 1, .int .i64 0, .int .i64 0]) W) := fun W => PhaseFactor_any 2 (by decide) W
  cases hA : bti i a
  · have hA' : (bits BinOp.and IntKind.i64 ((i : Int) / 2 ^ a) 1 == 1) = false := hA
    go_enter Try.func47, Try.ntmps47
    go_wp2_with fail
    obtain ⟨w0, hw0⟩ : ∃ w0, w0 = w.alloc (.cells #[.int .i64 2, .int .i64 a, .int .i64 b, .int .i64 c] 30) := ⟨_, rfl⟩
    rw [← hw0]
    have x0 : Hid (w0.heap[w.heap.size]? = some (.cells #[.int .i64 2, .int .i64 a, .int .i64 b, .int .i64 c] 30 (0, 0))) := by rw [hw0]; exact boxed1_0 _ _
    have b0 : Below w.heap.size w w0 := by rw [hw0]; exact (by repeat (first | exact Below.refl _ _ | assumption | (refine Below.trans ?_ (Below.mono (by assumption) (by first | omega | (simp; done) | (simp; omega)))) | (with_reducible refine Below.drew ?_) | (with_reducible refine Below.alloc ?_ (by first | omega | (simp; done) | (simp; omega)) _) | (with_reducible refine Below.setCell ?_ (by first | omega | (simp; done) | (simp; omega)) _)))
    have s0 : w.heap.size < w0.heap.size := by rw [hw0]; simp
    clear hw0
    have p1 := cell_at (j := 1) x0.out rfl
    go_region_held3 (fun W => W.cell? ⟨w.heap.size, 1, none⟩ = some (.int .i64 a))
      (first | exact p1 | exact (hb1.cell (p := ⟨w.heap.size, 1, none⟩) s0).trans p1 | exact ((hb1.alloc hb1.size _).cell (p := ⟨w.heap.size, 1, none⟩) s0).trans p1)
      (first | (go_at_call 41; (with_reducible refine (hP2 _).mono ?_); rintro e w1 ⟨rfl, hb1, hs1⟩))
    all_goals go_wp2_with fail
    all_goals go_ret
    refine retRow_lit ?_ ?_ ?_ ?_ ?_ ?_
    · have := hb1.size; simp at this; omega
    · exact (by repeat (first | exact Below.refl _ _ | assumption | (refine Below.trans ?_ (Below.mono (by assumption) (by first | omega | (simp; done) | (simp; omega)))) | (with_reducible refine Below.drew ?_) | (with_reducible refine Below.alloc ?_ (by first | omega | (simp; done) | (simp; omega)) _) | (with_reducible refine Below.setCell ?_ (by first | omega | (simp; done) | (simp; omega)) _)))
    · rfl
    · decide
    · rw [HX.out, hA, sh_nat ha]
      rfl
    · rfl
  · have hA' : (bits BinOp.and IntKind.i64 ((i : Int) / 2 ^ a) 1 == 1) = true := hA
    go_enter Try.func47, Try.ntmps47
    go_wp2_with fail
    obtain ⟨w0, hw0⟩ : ∃ w0, w0 = w.alloc (.cells #[.int .i64 2, .int .i64 a, .int .i64 b, .int .i64 c] 30) := ⟨_, rfl⟩
    rw [← hw0]
    have x0 : Hid (w0.heap[w.heap.size]? = some (.cells #[.int .i64 2, .int .i64 a, .int .i64 b, .int .i64 c] 30 (0, 0))) := by rw [hw0]; exact boxed1_0 _ _
    have b0 : Below w.heap.size w w0 := by rw [hw0]; exact (by repeat (first | exact Below.refl _ _ | assumption | (refine Below.trans ?_ (Below.mono (by assumption) (by first | omega | (simp; done) | (simp; omega)))) | (with_reducible refine Below.drew ?_) | (with_reducible refine Below.alloc ?_ (by first | omega | (simp; done) | (simp; omega)) _) | (with_reducible refine Below.setCell ?_ (by first | omega | (simp; done) | (simp; omega)) _)))
    have s0 : w.heap.size < w0.heap.size := by rw [hw0]; simp
    clear hw0
    have p1 := cell_at (j := 1) x0.out rfl
    go_region_held3 (fun W => W.cell? ⟨w.heap.size, 1, none⟩ = some (.int .i64 a))
      (first | exact p1 | exact (hb1.cell (p := ⟨w.heap.size, 1, none⟩) s0).trans p1 | exact ((hb1.alloc hb1.size _).cell (p := ⟨w.heap.size, 1, none⟩) s0).trans p1)
      (first | (go_at_call 41; (with_reducible refine (hP6 _).mono ?_); rintro e w1 ⟨rfl, hb1, hs1⟩))
    all_goals go_wp2_with fail
    all_goals go_ret
    refine retRow_lit ?_ ?_ ?_ ?_ ?_ ?_
    · have := hb1.size; simp at this; omega
    · exact (by repeat (first | exact Below.refl _ _ | assumption | (refine Below.trans ?_ (Below.mono (by assumption) (by first | omega | (simp; done) | (simp; omega)))) | (with_reducible refine Below.drew ?_) | (with_reducible refine Below.alloc ?_ (by first | omega | (simp; done) | (simp; omega)) _) | (with_reducible refine Below.setCell ?_ (by first | omega | (simp; done) | (simp; omega)) _)))
    · rfl
    · decide
    · rw [HX.out, hA, sh_nat ha]
      rfl
    · rfl
theorem fl_all : ((List.range 16).all fun i => (List.range 4).all fun q => decide (fl i q < 16) && (decide (bits BinOp.andNot IntKind.i64 (i : Nat) (wrap64 (2 ^ q)) = ((if bt i q = true then fl i q else i : Nat) : Int)) && decide (bits BinOp.or IntKind.i64 ((if bt i q = true then fl i q else i : Nat) : Int) (wrap64 (2 ^ q)) = ((if bt i q = true then i else fl i q : Nat) : Int)))) = true := by decide +kernel
theorem fl_facts {i q : Nat} (hi : i < 16) (hq : q < 4) : fl i q < 16 ∧ bits BinOp.andNot IntKind.i64 (i : Nat) (wrap64 (2 ^ q)) = ((if bt i q = true then fl i q else i : Nat) : Int) ∧ bits BinOp.or IntKind.i64 ((if bt i q = true then fl i q else i : Nat) : Int) (wrap64 (2 ^ q)) = ((if bt i q = true then i else fl i q : Nat) : Int) := by
  have h := List.all_eq_true.1 (List.all_eq_true.1 fl_all i (List.mem_range.2 hi)) q (List.mem_range.2 hq)
  simp only [Bool.and_eq_true, decide_eq_true_eq] at h
  exact ⟨h.1, h.2.1, h.2.2⟩
set_option maxRecDepth 100000 in
set_option maxHeartbeats 4000000 in
theorem l10Goes_11 (a b c i : Nat) (w : World) (ha : a < 4) (hb : b < 4) (hc : c < 4) (hi : i < 16) : Calls Try.prog 47 #[.agg #[.int .i64 11, .int .i64 a, .int .i64 b, .int .i64 c], .int .i64 i] w (RetRow 81 6 w 1 ((goes ⟨11, a, b, c⟩ i).flatMap scells)) := by
  have e : (goes ⟨11, a, b, c⟩ i).flatMap scells = icells (if bti i a != bti i b then xfl (xfl i a) b else i) (zph 0) := by
    rw [bti_nat hi ha, bti_nat hi hb]
    have e0 : goes ⟨11, a, b, c⟩ i = [⟨if bt i a != bt i b then fl (fl i a) b else i, zph 0, 0⟩] := rfl
    rw [e0, cells_i]
    cases bt i a != bt i b
    · rfl
    · rw [if_pos rfl, if_pos rfl, xfl_nat hi ha, xfl_nat (fl_facts hi ha).1 hb]
  obtain ⟨X, hX⟩ : ∃ X, X = icells (if bti i a != bti i b then xfl (xfl i a) b else i) (zph 0) := ⟨_, rfl⟩
  rw [e, ← hX]
  have HX := Lib.hid hX
  clear hX e
  have hP : ∀ W : World, Calls Try.prog 41 #[.int .i64 0] W (Ret (.agg #[.int .i64 1, .int .i64 0, .int .i64 0, .int .i64 0, .int .i64 0]) W) := fun W => PhaseFactor_any 0 (by decide) W
  have HPH := Lib.hid hP
  clear hP
  cases hA : bti i a
  · have hA' : (bits BinOp.and IntKind.i64 ((i : Int) / 2 ^ a) 1 == 1) = false := hA
    cases hB : bti i b
    · have hB' : (bits BinOp.and IntKind.i64 ((i : Int) / 2 ^ b) 1 == 1) = false := hB
      rw [hA, hB] at HX
      clear hA hB
      go_enter Try.func47, Try.ntmps47
      go_wp2_with fail
      refine (HPH.out _).mono ?_
      rintro e w1 ⟨rfl, hb1, hs1⟩
      go_wp2_with fail
      go_ret
      refine retRow_lit ?_ ?_ ?_ ?_ ?_ ?_
      · have := hb1.size; simp at this; omega
      · exact (by repeat (first | exact Below.refl _ _ | assumption | (refine Below.trans ?_ (Below.mono (by assumption) (by first | omega | (simp; done) | (simp; omega)))) | (with_reducible refine Below.drew ?_) | (with_reducible refine Below.alloc ?_ (by first | omega | (simp; done) | (simp; omega)) _) | (with_reducible refine Below.setCell ?_ (by first | omega | (simp; done) | (simp; omega)) _)))
      · rfl
      · decide
      · rw [HX.out]; rfl
      · rfl
    · have hB' : (bits BinOp.and IntKind.i64 ((i : Int) / 2 ^ b) 1 == 1) = true := hB
      rw [hA, hB] at HX
      clear hA hB
      go_enter Try.func47, Try.ntmps47
      go_wp2_with fail
      refine (HPH.out _).mono ?_
      rintro e w1 ⟨rfl, hb1, hs1⟩
      go_wp2_with fail
      go_ret
      refine retRow_lit ?_ ?_ ?_ ?_ ?_ ?_
      · have := hb1.size; simp at this; omega
      · exact (by repeat (first | exact Below.refl _ _ | assumption | (refine Below.trans ?_ (Below.mono (by assumption) (by first | omega | (simp; done) | (simp; omega)))) | (with_reducible refine Below.drew ?_) | (with_reducible refine Below.alloc ?_ (by first | omega | (simp; done) | (simp; omega)) _) | (with_reducible refine Below.setCell ?_ (by first | omega | (simp; done) | (simp; omega)) _)))
      · rfl
      · decide
      · rw [HX.out]; rfl
      · rfl
  · have hA' : (bits BinOp.and IntKind.i64 ((i : Int) / 2 ^ a) 1 == 1) = true := hA
    cases hB : bti i b
    · have hB' : (bits BinOp.and IntKind.i64 ((i : Int) / 2 ^ b) 1 == 1) = false := hB
      rw [hA, hB] at HX
      clear hA hB
      go_enter Try.func47, Try.ntmps47
      go_wp2_with fail
      refine (HPH.out _).mono ?_
      rintro e w1 ⟨rfl, hb1, hs1⟩
      go_wp2_with fail
      go_ret
      refine retRow_lit ?_ ?_ ?_ ?_ ?_ ?_
      · have := hb1.size; simp at this; omega
      · exact (by repeat (first | exact Below.refl _ _ | assumption | (refine Below.trans ?_ (Below.mono (by assumption) (by first | omega | (simp; done) | (simp; omega)))) | (with_reducible refine Below.drew ?_) | (with_reducible refine Below.alloc ?_ (by first | omega | (simp; done) | (simp; omega)) _) | (with_reducible refine Below.setCell ?_ (by first | omega | (simp; done) | (simp; omega)) _)))
      · rfl
      · decide
      · rw [HX.out]; rfl
      · rfl
    · have hB' : (bits BinOp.and IntKind.i64 ((i : Int) / 2 ^ b) 1 == 1) = true := hB
      rw [hA, hB] at HX
      clear hA hB
      go_enter Try.func47, Try.ntmps47
      go_wp2_with fail
      refine (HPH.out _).mono ?_
      rintro e w1 ⟨rfl, hb1, hs1⟩
      go_wp2_with fail
      go_ret
      refine retRow_lit ?_ ?_ ?_ ?_ ?_ ?_
      · have := hb1.size; simp at this; omega
      · exact (by repeat (first | exact Below.refl _ _ | assumption | (refine Below.trans ?_ (Below.mono (by assumption) (by first | omega | (simp; done) | (simp; omega)))) | (with_reducible refine Below.drew ?_) | (with_reducible refine Below.alloc ?_ (by first | omega | (simp; done) | (simp; omega)) _) | (with_reducible refine Below.setCell ?_ (by first | omega | (simp; done) | (simp; omega)) _)))
      · rfl
      · decide
      · rw [HX.out]; rfl
      · rfl
end Go.Proofs.Ytgjpicekdbemiaa
