/- What the calls that this law reaches answer, part 4 of 9. -/
import Derived.Test.YtgjpicekdbemiacJMoved3
import Derived.Test.YtgjpicekdbemiacJMoved1
namespace Go.Proofs.Ytgjpicekdbemiac
open Go.RowKit
set_option linter.unusedVariables false
def bst (m i : Nat) : List Dm := (List.replicate m (⟨0, 0, 0, 0, 0⟩ : Dm)).set i ⟨1, 0, 0, 0, 0⟩
theorem bst_len (m i : Nat) : (bst m i).length = m := by simp [bst]
theorem flat_set5 : ∀ (L : List Dm) (i : Nat) (a b c d e : Int), (((((L.flatMap dcells).set (i * 5) (.int .i64 a)).set (i * 5 + 1) (.int .i64 b)).set (i * 5 + 1 + 1) (.int .i64 c)).set (i * 5 + 1 + 1 + 1) (.int .i64 d)).set (i * 5 + 1 + 1 + 1 + 1) (.int .i64 e) = (L.set i ⟨a, b, c, d, e⟩).flatMap dcells
  | [], i, a, b, c, d, e => by simp
  | x :: L, 0, a, b, c, d, e => by simp [dcells]
  | x :: L, i + 1, a, b, c, d, e => by
    have ih := flat_set5 L i a b c d e
    simp only [List.flatMap_cons, List.set_cons_succ, ← ih]
    rw [show (i + 1) * 5 = i * 5 + 1 + 1 + 1 + 1 + 1 from by omega]
    simp [dcells]
set_option maxRecDepth 100000 in
theorem OneDOmega_spec (w : World) : Calls Try.prog 46 #[] w fun e w' => e = .returned (.agg #[.int .i64 1, .int .i64 0, .int .i64 0, .int .i64 0, .int .i64 0]) ∧ Below w.heap.size w w' ∧ w.heap.size ≤ w'.heap.size := by
  go_enter Try.func46, Try.ntmps46
  go_wp2
  exact bodyPost_ret (v := .agg #[.int .i64 1, .int .i64 0, .int .i64 0, .int .i64 0, .int .i64 0]) (by simp [results, Try.results46, go_sem]) rfl ⟨rfl, (by repeat (first | exact Below.refl _ _ | assumption | (refine Below.trans ?_ (Below.mono (by assumption) (by first | omega | (simp; done) | (simp; omega)))) | (with_reducible refine Below.drew ?_) | (with_reducible refine Below.alloc ?_ (by first | omega | (simp; done) | (simp; omega)) _) | (with_reducible refine Below.setCell ?_ (by first | omega | (simp; done) | (simp; omega)) _))), (by first | omega | (simp; done) | (simp; omega))⟩
set_option maxRecDepth 100000 in
set_option maxHeartbeats 1000000 in
theorem BasisState_spec_1 (i : Nat) (w : World) (hi : i < 2) : Calls Try.prog 42 #[.int .i64 1, .int .i64 i] w (RetRow 47 5 w 2 ((bst 2 i).flatMap dcells)) := by
  obtain ⟨i0, hi0, hz0, hz1, hz2⟩ := info_parts info_DOmegaE
  obtain ⟨w1, hrun, hown, hgr0⟩ := run_make_full (P := Try.prog) w w.heap.size 38 47 i0 _ 5 Try.underlying38 hi0 hz0 hz1 .i64 .i64 2 (by rw [hz2]; decide) (by simp only [maxLen]; omega) (Nat.le_refl _)
  have b1 : Below w.heap.size w w1 := (Below.refl _ _).grown hgr0 (Nat.le_refl _) (by simp)
  rw [show (madeCells (Value.agg #[.int .i64 0, .int .i64 0, .int .i64 0, .int .i64 0, .int .i64 0]).cells (2 * 5)).toList = (List.replicate 2 (⟨0, 0, 0, 0, 0⟩ : Dm)).flatMap dcells by kernel_rfl] at hown
  clear hi0 hz0 hz1 hz2 hgr0
  change Sem.run Try.prog (Instr.makeSlice 38 (.int .i64 2) (.int .i64 2)) w = _ at hrun
  have hin1 : inB 1 1 4 = true := by decide
  have hin2 : inB (i : Int) 0 1 = true := inB_iff.2 (by omega)
  go_enter Try.func42, Try.ntmps42
  go_wp2_with (go_at_call 29; refine (l1In_any _ _ _ _).mono ?_; rintro e w' ⟨rfl, rfl⟩)
  refine (OneDOmega_spec _).mono ?_
  rintro e w2 ⟨rfl, hb2, hs2⟩
  clear hrun
  have hown2 := ownsRow_below hown hb2
  have hf := hown2.frozenAt
  have hz := hown2.cellAt
  have hll := hown2.1
  obtain ⟨y0, z0⟩ : ∃ y, w2.cell? ⟨w.heap.size, i * 5, none⟩ = some y := ⟨_, (hz _ (by omega)).trans (List.getElem?_eq_getElem (by omega))⟩
  obtain ⟨y1, z1⟩ : ∃ y, w2.cell? ⟨w.heap.size, i * 5 + 1, none⟩ = some y := ⟨_, (hz _ (by omega)).trans (List.getElem?_eq_getElem (by omega))⟩
  obtain ⟨y2, z2⟩ : ∃ y, w2.cell? ⟨w.heap.size, i * 5 + 2, none⟩ = some y := ⟨_, (hz _ (by omega)).trans (List.getElem?_eq_getElem (by omega))⟩
  obtain ⟨y3, z3⟩ : ∃ y, w2.cell? ⟨w.heap.size, i * 5 + 3, none⟩ = some y := ⟨_, (hz _ (by omega)).trans (List.getElem?_eq_getElem (by omega))⟩
  obtain ⟨y4, z4⟩ : ∃ y, w2.cell? ⟨w.heap.size, i * 5 + 4, none⟩ = some y := ⟨_, (hz _ (by omega)).trans (List.getElem?_eq_getElem (by omega))⟩
  have f0 := hf (i * 5)
  have f1 := hf (i * 5 + 1)
  have f2 := hf (i * 5 + 2)
  have f3 := hf (i * 5 + 3)
  have f4 := hf (i * 5 + 4)
  clear hf hz hll hown
  go_wp2_with fail
  go_ret
  have s0 := hown2.stored (i * 5) (.int .i64 1)
  have s1 := s0.1.stored (i * 5 + 1) (.int .i64 0)
  have s2 := s1.1.stored (i * 5 + 1 + 1) (.int .i64 0)
  have s3 := s2.1.stored (i * 5 + 1 + 1 + 1) (.int .i64 0)
  have s4 := s3.1.stored (i * 5 + 1 + 1 + 1 + 1) (.int .i64 0)
  rw [flat_set5] at s4
  exact ⟨_, rfl, s4.1, ((((((b1.trans (hb2.mono b1.size)).grown s0.2 (by have := b1.size; have := hb2.size; simp; omega) (by simp)).grown s1.2 (by have := b1.size; have := hb2.size; simp; omega) (by simp)).grown s2.2 (by have := b1.size; have := hb2.size; simp; omega) (by simp)).grown s3.2 (by have := b1.size; have := hb2.size; simp; omega) (by simp)).grown s4.2 (by have := b1.size; have := hb2.size; simp; omega) (by simp)), by have := b1.size; have := hb2.size; simp [World.setCell]; omega⟩
set_option maxRecDepth 100000 in
set_option maxHeartbeats 1000000 in
theorem BasisState_spec_2 (i : Nat) (w : World) (hi : i < 4) : Calls Try.prog 42 #[.int .i64 2, .int .i64 i] w (RetRow 47 5 w 4 ((bst 4 i).flatMap dcells)) := by
  obtain ⟨i0, hi0, hz0, hz1, hz2⟩ := info_parts info_DOmegaE
  obtain ⟨w1, hrun, hown, hgr0⟩ := run_make_full (P := Try.prog) w w.heap.size 38 47 i0 _ 5 Try.underlying38 hi0 hz0 hz1 .i64 .i64 4 (by rw [hz2]; decide) (by simp only [maxLen]; omega) (Nat.le_refl _)
  have b1 : Below w.heap.size w w1 := (Below.refl _ _).grown hgr0 (Nat.le_refl _) (by simp)
  rw [show (madeCells (Value.agg #[.int .i64 0, .int .i64 0, .int .i64 0, .int .i64 0, .int .i64 0]).cells (4 * 5)).toList = (List.replicate 4 (⟨0, 0, 0, 0, 0⟩ : Dm)).flatMap dcells by kernel_rfl] at hown
  clear hi0 hz0 hz1 hz2 hgr0
  change Sem.run Try.prog (Instr.makeSlice 38 (.int .i64 4) (.int .i64 4)) w = _ at hrun
  have hin1 : inB 2 1 4 = true := by decide
  have hin2 : inB (i : Int) 0 3 = true := inB_iff.2 (by omega)
  go_enter Try.func42, Try.ntmps42
  go_wp2_with (go_at_call 29; refine (l1In_any _ _ _ _).mono ?_; rintro e w' ⟨rfl, rfl⟩)
  refine (OneDOmega_spec _).mono ?_
  rintro e w2 ⟨rfl, hb2, hs2⟩
  clear hrun
  have hown2 := ownsRow_below hown hb2
  have hf := hown2.frozenAt
  have hz := hown2.cellAt
  have hll := hown2.1
  obtain ⟨y0, z0⟩ : ∃ y, w2.cell? ⟨w.heap.size, i * 5, none⟩ = some y := ⟨_, (hz _ (by omega)).trans (List.getElem?_eq_getElem (by omega))⟩
  obtain ⟨y1, z1⟩ : ∃ y, w2.cell? ⟨w.heap.size, i * 5 + 1, none⟩ = some y := ⟨_, (hz _ (by omega)).trans (List.getElem?_eq_getElem (by omega))⟩
  obtain ⟨y2, z2⟩ : ∃ y, w2.cell? ⟨w.heap.size, i * 5 + 2, none⟩ = some y := ⟨_, (hz _ (by omega)).trans (List.getElem?_eq_getElem (by omega))⟩
  obtain ⟨y3, z3⟩ : ∃ y, w2.cell? ⟨w.heap.size, i * 5 + 3, none⟩ = some y := ⟨_, (hz _ (by omega)).trans (List.getElem?_eq_getElem (by omega))⟩
  obtain ⟨y4, z4⟩ : ∃ y, w2.cell? ⟨w.heap.size, i * 5 + 4, none⟩ = some y := ⟨_, (hz _ (by omega)).trans (List.getElem?_eq_getElem (by omega))⟩
  have f0 := hf (i * 5)
  have f1 := hf (i * 5 + 1)
  have f2 := hf (i * 5 + 2)
  have f3 := hf (i * 5 + 3)
  have f4 := hf (i * 5 + 4)
  clear hf hz hll hown
  go_wp2_with fail
  go_ret
  have s0 := hown2.stored (i * 5) (.int .i64 1)
  have s1 := s0.1.stored (i * 5 + 1) (.int .i64 0)
  have s2 := s1.1.stored (i * 5 + 1 + 1) (.int .i64 0)
  have s3 := s2.1.stored (i * 5 + 1 + 1 + 1) (.int .i64 0)
  have s4 := s3.1.stored (i * 5 + 1 + 1 + 1 + 1) (.int .i64 0)
  rw [flat_set5] at s4
  exact ⟨_, rfl, s4.1, ((((((b1.trans (hb2.mono b1.size)).grown s0.2 (by have := b1.size; have := hb2.size; simp; omega) (by simp)).grown s1.2 (by have := b1.size; have := hb2.size; simp; omega) (by simp)).grown s2.2 (by have := b1.size; have := hb2.size; simp; omega) (by simp)).grown s3.2 (by have := b1.size; have := hb2.size; simp; omega) (by simp)).grown s4.2 (by have := b1.size; have := hb2.size; simp; omega) (by simp)), by have := b1.size; have := hb2.size; simp [World.setCell]; omega⟩
set_option maxRecDepth 100000 in
set_option maxHeartbeats 1000000 in
theorem BasisState_spec_3 (i : Nat) (w : World) (hi : i < 8) : Calls Try.prog 42 #[.int .i64 3, .int .i64 i] w (RetRow 47 5 w 8 ((bst 8 i).flatMap dcells)) := by
  obtain ⟨i0, hi0, hz0, hz1, hz2⟩ := info_parts info_DOmegaE
  obtain ⟨w1, hrun, hown, hgr0⟩ := run_make_full (P := Try.prog) w w.heap.size 38 47 i0 _ 5 Try.underlying38 hi0 hz0 hz1 .i64 .i64 8 (by rw [hz2]; decide) (by simp only [maxLen]; omega) (Nat.le_refl _)
  have b1 : Below w.heap.size w w1 := (Below.refl _ _).grown hgr0 (Nat.le_refl _) (by simp)
  rw [show (madeCells (Value.agg #[.int .i64 0, .int .i64 0, .int .i64 0, .int .i64 0, .int .i64 0]).cells (8 * 5)).toList = (List.replicate 8 (⟨0, 0, 0, 0, 0⟩ : Dm)).flatMap dcells by kernel_rfl] at hown
  clear hi0 hz0 hz1 hz2 hgr0
  change Sem.run Try.prog (Instr.makeSlice 38 (.int .i64 8) (.int .i64 8)) w = _ at hrun
  have hin1 : inB 3 1 4 = true := by decide
  have hin2 : inB (i : Int) 0 7 = true := inB_iff.2 (by omega)
  go_enter Try.func42, Try.ntmps42
  go_wp2_with (go_at_call 29; refine (l1In_any _ _ _ _).mono ?_; rintro e w' ⟨rfl, rfl⟩)
  refine (OneDOmega_spec _).mono ?_
  rintro e w2 ⟨rfl, hb2, hs2⟩
  clear hrun
  have hown2 := ownsRow_below hown hb2
  have hf := hown2.frozenAt
  have hz := hown2.cellAt
  have hll := hown2.1
  obtain ⟨y0, z0⟩ : ∃ y, w2.cell? ⟨w.heap.size, i * 5, none⟩ = some y := ⟨_, (hz _ (by omega)).trans (List.getElem?_eq_getElem (by omega))⟩
  obtain ⟨y1, z1⟩ : ∃ y, w2.cell? ⟨w.heap.size, i * 5 + 1, none⟩ = some y := ⟨_, (hz _ (by omega)).trans (List.getElem?_eq_getElem (by omega))⟩
  obtain ⟨y2, z2⟩ : ∃ y, w2.cell? ⟨w.heap.size, i * 5 + 2, none⟩ = some y := ⟨_, (hz _ (by omega)).trans (List.getElem?_eq_getElem (by omega))⟩
  obtain ⟨y3, z3⟩ : ∃ y, w2.cell? ⟨w.heap.size, i * 5 + 3, none⟩ = some y := ⟨_, (hz _ (by omega)).trans (List.getElem?_eq_getElem (by omega))⟩
  obtain ⟨y4, z4⟩ : ∃ y, w2.cell? ⟨w.heap.size, i * 5 + 4, none⟩ = some y := ⟨_, (hz _ (by omega)).trans (List.getElem?_eq_getElem (by omega))⟩
  have f0 := hf (i * 5)
  have f1 := hf (i * 5 + 1)
  have f2 := hf (i * 5 + 2)
  have f3 := hf (i * 5 + 3)
  have f4 := hf (i * 5 + 4)
  clear hf hz hll hown
  go_wp2_with fail
  go_ret
  have s0 := hown2.stored (i * 5) (.int .i64 1)
  have s1 := s0.1.stored (i * 5 + 1) (.int .i64 0)
  have s2 := s1.1.stored (i * 5 + 1 + 1) (.int .i64 0)
  have s3 := s2.1.stored (i * 5 + 1 + 1 + 1) (.int .i64 0)
  have s4 := s3.1.stored (i * 5 + 1 + 1 + 1 + 1) (.int .i64 0)
  rw [flat_set5] at s4
  exact ⟨_, rfl, s4.1, ((((((b1.trans (hb2.mono b1.size)).grown s0.2 (by have := b1.size; have := hb2.size; simp; omega) (by simp)).grown s1.2 (by have := b1.size; have := hb2.size; simp; omega) (by simp)).grown s2.2 (by have := b1.size; have := hb2.size; simp; omega) (by simp)).grown s3.2 (by have := b1.size; have := hb2.size; simp; omega) (by simp)).grown s4.2 (by have := b1.size; have := hb2.size; simp; omega) (by simp)), by have := b1.size; have := hb2.size; simp [World.setCell]; omega⟩
set_option maxRecDepth 100000 in
set_option maxHeartbeats 1000000 in
theorem BasisState_spec_4 (i : Nat) (w : World) (hi : i < 16) : Calls Try.prog 42 #[.int .i64 4, .int .i64 i] w (RetRow 47 5 w 16 ((bst 16 i).flatMap dcells)) := by
  obtain ⟨i0, hi0, hz0, hz1, hz2⟩ := info_parts info_DOmegaE
  obtain ⟨w1, hrun, hown, hgr0⟩ := run_make_full (P := Try.prog) w w.heap.size 38 47 i0 _ 5 Try.underlying38 hi0 hz0 hz1 .i64 .i64 16 (by rw [hz2]; decide) (by simp only [maxLen]; omega) (Nat.le_refl _)
  have b1 : Below w.heap.size w w1 := (Below.refl _ _).grown hgr0 (Nat.le_refl _) (by simp)
  rw [show (madeCells (Value.agg #[.int .i64 0, .int .i64 0, .int .i64 0, .int .i64 0, .int .i64 0]).cells (16 * 5)).toList = (List.replicate 16 (⟨0, 0, 0, 0, 0⟩ : Dm)).flatMap dcells by kernel_rfl] at hown
  clear hi0 hz0 hz1 hz2 hgr0
  change Sem.run Try.prog (Instr.makeSlice 38 (.int .i64 16) (.int .i64 16)) w = _ at hrun
  have hin1 : inB 4 1 4 = true := by decide
  have hin2 : inB (i : Int) 0 15 = true := inB_iff.2 (by omega)
  go_enter Try.func42, Try.ntmps42
  go_wp2_with (go_at_call 29; refine (l1In_any _ _ _ _).mono ?_; rintro e w' ⟨rfl, rfl⟩)
  refine (OneDOmega_spec _).mono ?_
  rintro e w2 ⟨rfl, hb2, hs2⟩
  clear hrun
  have hown2 := ownsRow_below hown hb2
  have hf := hown2.frozenAt
  have hz := hown2.cellAt
  have hll := hown2.1
  obtain ⟨y0, z0⟩ : ∃ y, w2.cell? ⟨w.heap.size, i * 5, none⟩ = some y := ⟨_, (hz _ (by omega)).trans (List.getElem?_eq_getElem (by omega))⟩
  obtain ⟨y1, z1⟩ : ∃ y, w2.cell? ⟨w.heap.size, i * 5 + 1, none⟩ = some y := ⟨_, (hz _ (by omega)).trans (List.getElem?_eq_getElem (by omega))⟩
  obtain ⟨y2, z2⟩ : ∃ y, w2.cell? ⟨w.heap.size, i * 5 + 2, none⟩ = some y := ⟨_, (hz _ (by omega)).trans (List.getElem?_eq_getElem (by omega))⟩
  obtain ⟨y3, z3⟩ : ∃ y, w2.cell? ⟨w.heap.size, i * 5 + 3, none⟩ = some y := ⟨_, (hz _ (by omega)).trans (List.getElem?_eq_getElem (by omega))⟩
  obtain ⟨y4, z4⟩ : ∃ y, w2.cell? ⟨w.heap.size, i * 5 + 4, none⟩ = some y := ⟨_, (hz _ (by omega)).trans (List.getElem?_eq_getElem (by omega))⟩
  have f0 := hf (i * 5)
  have f1 := hf (i * 5 + 1)
  have f2 := hf (i * 5 + 2)
  have f3 := hf (i * 5 + 3)
  have f4 := hf (i * 5 + 4)
  clear hf hz hll hown
  go_wp2_with fail
  go_ret
  have s0 := hown2.stored (i * 5) (.int .i64 1)
  have s1 := s0.1.stored (i * 5 + 1) (.int .i64 0)
  have s2 := s1.1.stored (i * 5 + 1 + 1) (.int .i64 0)
  have s3 := s2.1.stored (i * 5 + 1 + 1 + 1) (.int .i64 0)
  have s4 := s3.1.stored (i * 5 + 1 + 1 + 1 + 1) (.int .i64 0)
  rw [flat_set5] at s4
  exact ⟨_, rfl, s4.1, ((((((b1.trans (hb2.mono b1.size)).grown s0.2 (by have := b1.size; have := hb2.size; simp; omega) (by simp)).grown s1.2 (by have := b1.size; have := hb2.size; simp; omega) (by simp)).grown s2.2 (by have := b1.size; have := hb2.size; simp; omega) (by simp)).grown s3.2 (by have := b1.size; have := hb2.size; simp; omega) (by simp)).grown s4.2 (by have := b1.size; have := hb2.size; simp; omega) (by simp)), by have := b1.size; have := hb2.size; simp [World.setCell]; omega⟩
theorem BasisState_spec (n : Int) (i : Nat) (w : World) (h1 : 1 ≤ n) (h4 : n ≤ 4) (hi : i < 2 ^ n.toNat) : Calls Try.prog 42 #[.int .i64 n, .int .i64 i] w (RetRow 47 5 w (bst (2 ^ n.toNat) i).length ((bst (2 ^ n.toNat) i).flatMap dcells)) := by
  have hn : n = 1 ∨ n = 2 ∨ n = 3 ∨ n = 4 := by omega
  rw [bst_len]
  rcases hn with rfl | rfl | rfl | rfl
  · exact BasisState_spec_1 i w hi
  · exact BasisState_spec_2 i w hi
  · exact BasisState_spec_3 i w hi
  · exact BasisState_spec_4 i w hi
end Go.Proofs.Ytgjpicekdbemiac
namespace Go.Proofs.Ytgjpicekdbemiac
open Go.RowKit
set_option linter.unusedVariables false
/-- A call that returns a branch whose states are its own. -/
def RetBr (w : World) (b : Int) (n : Nat) (M : List (List Dm)) (e : Ending) (w' : World) : Prop :=
  ∃ A c F, e = .returned (.agg #[.int .i64 b, .slice A n c]) ∧ OwnM w' w.heap.size (.slice A n c) n M F ∧ Below w.heap.size w w' ∧ w.heap.size ≤ w'.heap.size
def rng (m N : Nat) : List (List Dm) := (List.range m).map (bst N)
theorem rng_len (m N : Nat) : (rng m N).length = m := by simp [rng]
theorem rng_succ (m N : Nat) : rng (m + 1) N = rng m N ++ [bst N m] := by simp [rng, List.range_succ]
theorem boxcells2 {w w' : World} {b : Nat} {x0 x1 : Value} {t : TypeId} (lay : Below w'.heap.size w' w) (h : w'.heap[b]? = some (.cells #[x0, x1] t (0, 0))) : w.cell? ⟨b, 0, none⟩ = some x0 ∧ w.cell? ⟨b, 1, none⟩ = some x1 := by
  have h' : w.heap[b]? = some (.cells #[x0, x1] t (0, 0)) := (lay.block b (lt_of_block h)).trans h
  exact ⟨by simp [World.cell?, h'], by simp [World.cell?, h']⟩
theorem below_of_drew2 {w w' : World} (h : Below w.drew.heap.size w.drew w') : Below w.heap.size w w' := ⟨h.os, h.tape, h.output, h.size, h.block⟩
theorem held_call {wr w2 : World} {X base T size n : Nat} {V v : Value} {S : List Value} (hb2 : Below wr.drew.heap.size wr.drew w2) (p1 : wr.cell? ⟨X, 1, none⟩ = some V) (f1 : wr.frozen? ⟨X, 1, none⟩ = false) (hX : X < wr.heap.size) (om : wr.ownsRow base T size v n S) :
    w2.cell? ⟨X, 1, none⟩ = some V ∧ w2.frozen? ⟨X, 1, none⟩ = false ∧ w2.ownsRow base T size v n S ∧ Below wr.heap.size wr w2 ∧ X < w2.heap.size := by
  have hb3 := below_of_drew2 hb2
  have hs := hb3.size
  exact ⟨(hb3.cell (p := ⟨X, 1, none⟩) hX).trans p1, (hb3.frozen (p := ⟨X, 1, none⟩) hX).trans f1, ownsRow_below om hb3, hb3, by omega⟩
theorem held_append {w2 w3 : World} {X base : Nat} {V v : Value} {o : Obj} (hg : (w2.alloc o).grownBy w3 v.ownBlock) (hbase : ∀ k, v.ownBlock = some k → base ≤ k) (hX : X < base) (k2 : w2.cell? ⟨X, 1, none⟩ = some V) (fr2 : w2.frozen? ⟨X, 1, none⟩ = false) (hX2 : X < w2.heap.size) :
    w3.cell? ⟨X, 1, none⟩ = some V ∧ w3.frozen? ⟨X, 1, none⟩ = false := by
  have h1 : (w2.alloc o).heap[X]? = w2.heap[X]? := Below.heap_alloc _ _ _ hX2
  have h2 : w3.heap[X]? = (w2.alloc o).heap[X]? := hg.block X (by simp; omega) (fun e => by have := hbase X e.symm; omega)
  rw [h1] at h2
  exact ⟨by rw [← k2]; simp [World.cell?, h2], by rw [← fr2]; simp [World.frozen?, h2]⟩
theorem rd_lit2 {w : World} {cs : Array Value} {e n size b : Nat} (h0 : b = w.heap.size) (hs : cs.size = n * size) : Rd (w.alloc (.cells cs e)) size (some ⟨b, 0, none⟩) n cs.toList := by
  subst h0
  refine ⟨by simpa using hs, fun _ => ⟨_, 0, rfl, by simp, fun j u hu => ?_⟩⟩
  have h := heap_alloc_new w (.cells cs e)
  have hc : cs[j]? = some u := by rw [← Array.getElem?_toList]; exact hu
  rw [Nat.zero_add]
  exact cell_at h hc
/-- 'append', kept shut in a walk. -/
def appSem (ts : Array TypeId) (ty : TypeId) (args : Array Value) : Sem Value := Builtin.append_ ts ty args
theorem fold_append (ts : Array TypeId) (ty : TypeId) (args : Array Value) : Builtin.append_ ts ty args = appSem ts ty args := rfl
attribute [local go_sem ↓ high] fold_append
theorem kin_setCell (w : World) (X j : Nat) (v : Value) : Kin [X] w (w.setCell ⟨X, j, none⟩ v) :=
  ⟨rfl, rfl, rfl, by simp [World.setCell], fun k _ hn => Below.heap_setCell w _ v k (fun e => hn (by simp [e]))⟩
/-- 'x.States = append(x.States, r)': what holds behind it. -/
theorem states_step {w0 wr w2 w3 : World} {B base X t c c2 c3 T : Nat} {A A3 a2 : Option Addr} {bits : Value} {M : List (List Dm)} {r : List Dm} {SS : List Value} {o : Obj}
    (hX : X < base) (hBX : B ≤ X) (hbase : base ≤ wr.heap.size) (hx1 : wr.heap[X]? = some (.cells #[bits, .slice A t c] T (0, 0)))
    (hM1 : M.length = t) (hM2 : wr.ownsRow base 38 1 (.slice A t c) t SS) (hN : ((Value.slice A t c).ownBlock.toList ++ SS.flatMap (fun u => u.ownBlock.toList)).Nodup)
    (hrows : ∀ (j : Nat) (r : List Dm), M[j]? = some r → ∃ u, SS[j]? = some u ∧ wr.ownsRow base 47 5 u r.length (r.flatMap dcells))
    (hb : Below B w0 wr) (own2 : w2.ownsRow wr.heap.size 47 5 (.slice a2 r.length c2) r.length (r.flatMap dcells)) (hb3 : Below wr.heap.size wr w2)
    (hown3 : w3.ownsRow base 38 1 (.slice A3 (t + 1) c3) (t + 1) (SS ++ [.slice a2 r.length c2])) (hg : (w2.alloc o).grownBy w3 (Value.slice A t c).ownBlock)
    (hat : (Value.slice A3 (t + 1) c3).ownBlock = (Value.slice A t c).ownBlock ∨ (Value.slice A3 (t + 1) c3).ownBlock = some (w2.alloc o).heap.size) :
    (w3.setCell ⟨X, 1, none⟩ (.slice A3 (t + 1) c3)).heap[X]? = some (.cells #[bits, .slice A3 (t + 1) c3] T (0, 0)) ∧ (∃ F, OwnM (w3.setCell ⟨X, 1, none⟩ (.slice A3 (t + 1) c3)) base (.slice A3 (t + 1) c3) (t + 1) (M ++ [r]) F) ∧ Below B w0 (w3.setCell ⟨X, 1, none⟩ (.slice A3 (t + 1) c3)) := by
  have hs2 := hb3.size
  have hga := hM2.lt
  have hblk : ∀ k, k < base → w3.heap[k]? = wr.heap[k]? := by
    intro k hk
    have h1 : w3.heap[k]? = (w2.alloc o).heap[k]? := hg.block k (by simp; omega) (fun e => by have := (hga k e.symm).1; omega)
    rw [h1, Below.heap_alloc _ _ _ (by omega), hb3.block k (by omega)]
  have hx3 : w3.heap[X]? = some (.cells #[bits, .slice A t c] T (0, 0)) := by rw [hblk X hX]; exact hx1
  have hsize3 := hg.size
  have hal : w2.heap.size + 1 ≤ w3.heap.size := by simpa using hsize3
  refine ⟨by rw [heap_setCell_same _ _ _ _ _ _ hx3]; rfl, ?_, ?_⟩
  · have hrows2 : ∀ (j : Nat) (r : List Dm), M[j]? = some r → ∃ u, SS[j]? = some u ∧ (w2.alloc o).ownsRow base 47 5 u r.length (r.flatMap dcells) := fun j r hj => by
      obtain ⟨u, hu, ho⟩ := hrows j r hj
      exact ⟨u, hu, (ownsRow_below ho hb3).alloc _⟩
    have hlt := OwnM.lt ⟨SS, hM1, hM2, rfl, hN, hrows⟩
    obtain ⟨F', hF', _⟩ := ownM_snoc (w := w2.alloc o) (w' := w3) (v' := .slice A3 (t + 1) c3) (r := r) hM1 ((ownsRow_below hM2 hb3).alloc _) hN hrows2 ((own_from own2 hbase).alloc _) (fun k hk hm => by
      have h1 := (own2.lt k hk).1
      have h2 := (hlt k hm).2
      omega) hown3 hg hat
    exact ⟨F', hF'.kin (kin_setCell _ _ _ _) (fun k hk hm => by
      have h1 := (hF'.lt k hk).1
      simp at hm
      omega)⟩
  · have hbw : Below B w0 w3 := ⟨by rw [hg.os]; exact hb3.os.trans hb.os, by rw [hg.tape]; exact hb3.tape.trans hb.tape, by rw [hg.output]; exact hb3.output.trans hb.output, by have := hb.size; omega, fun k hk => (hblk k (by omega)).trans (hb.block k hk)⟩
    exact hbw.setCell (by exact hBX) _
def okI (n k : Int) : Bool := inB n 1 4 && inB k 1 n
def initM (n k : Int) : List (List Dm) := if okI n k = true then rng (2 ^ k.toNat) (2 ^ n.toNat) else []
theorem initM_no {n k : Int} (h : okI n k = false) : initM n k = [] := by simp [initM, h]
theorem initM_len_le (n k : Int) : (initM n k).length ≤ 16 := by
  unfold initM
  split
  · rename_i h
    simp only [okI, Bool.and_eq_true] at h
    have h1 := inB_iff.1 h.1
    have h2 := inB_iff.1 h.2
    rw [rng_len]
    have hk : k = 1 ∨ k = 2 ∨ k = 3 ∨ k = 4 := by omega
    rcases hk with rfl | rfl | rfl | rfl <;> decide
  · simp
theorem pow_lt {k K t : Nat} {n : Int} (hK : K = 2 ^ k) (h : k ≤ n.toNat) (ht : t < K) : t < 2 ^ n.toNat := by
  subst hK
  exact Nat.lt_of_lt_of_le ht (Nat.pow_le_pow_right (by omega) h)
set_option maxRecDepth 100000 in
set_option maxHeartbeats 4000000 in
theorem InitialBranch_spec_1 (n : Int) (w : World) (h1 : 1 ≤ n) (h4 : n ≤ 4) : Calls Try.prog 37 #[.int .i64 n, .int .i64 1] w (RetBr w 0 2 (rng 2 (2 ^ n.toNat))) := by
  obtain ⟨i0, hi0, hz0, hz1, hz2⟩ := info_parts info_DOmegaSE
  have hin1 : inB n 1 4 = true := inB_iff.2 (by omega)
  have hin2 : inB 1 1 n = true := inB_iff.2 (by omega)
  go_enter Try.func37, Try.ntmps37
  go_wp2_with (go_at_call 29; refine (l1In_any _ _ _ _).mono ?_; rintro e w' ⟨rfl, rfl⟩)
  obtain ⟨w0, hw0⟩ : ∃ w0, w0 = (w.alloc (.cells #[.int .i64 0, .slice none 0 0] 26)).alloc (.cells #[.int .i64 0, .slice none 0 0] 26) := ⟨_, rfl⟩
  rw [← hw0]
  have X0 := Lib.hid (show w0.heap[w.heap.size]? = some (.cells #[.int .i64 0, .slice none 0 0] 26 (0, 0)) by rw [hw0]; exact boxed2_0 _ _ _)
  have X1 := Lib.hid (show w0.heap[w.heap.size + 1]? = some (.cells #[.int .i64 0, .slice none 0 0] 26 (0, 0)) by rw [hw0]; exact boxed2_1 _ _ _)
  have b0 : Below w.heap.size w w0 := by rw [hw0]; exact (by repeat (first | exact Below.refl _ _ | assumption | (refine Below.trans ?_ (Below.mono (by assumption) (by first | omega | (simp; done) | (simp; omega)))) | (with_reducible refine Below.drew ?_) | (with_reducible refine Below.alloc ?_ (by first | omega | (simp; done) | (simp; omega)) _) | (with_reducible refine Below.setCell ?_ (by first | omega | (simp; done) | (simp; omega)) _)))
  have s0 : w.heap.size + 2 = w0.heap.size := by rw [hw0]; simp
  have S0 := Lib.hid s0
  clear hw0 s0
  go_loopw [6] (fun i wr => ∃ (t : Nat) (A : Option Addr) (c : Nat) (F : List Nat), t ≤ 2 ∧ i = .int .i64 t ∧ wr.heap[w.heap.size + 1]? = some (.cells #[.int .i64 0, .slice A t c] 26 (0, 0)) ∧ OwnM wr (w.heap.size + 2) (.slice A t c) t (rng t (2 ^ n.toNat)) F ∧ Below (w.heap.size + 1) w0 wr) (fun i _ => 2 - (intOf i).toNat)
  case atStart => exact ⟨0, none, 0, [], by omega, rfl, X1.out, ownM_nil _ _, Below.refl _ _⟩
  case round =>
    obtain ⟨t, A, c, F, ht, rfl, hx1, hown, hb⟩ := hrel
    have hbs := hb.size
    have s0 := S0.out
    by_cases hlt : t < 2
    · have p1 : wr.cell? ⟨w.heap.size + 1, 1, none⟩ = some (.slice A t c) := cell_at (j := 1) hx1 rfl
      have f1 : wr.frozen? ⟨w.heap.size + 1, 1, none⟩ = false := by simp [World.frozen?, hx1]
      have HX1 := Lib.hid hx1
      have HT := Lib.hid (show t < 2 ^ n.toNat from pow_lt (k := 1) rfl (by omega) hlt)
      obtain ⟨SS, hM1, hM2, hF, hN, hrows⟩ := hown
      subst hF
      have HM1 := Lib.hid hM1
      have HM2 := Lib.hid hM2
      have HN := Lib.hid hN
      have HROW := Lib.hid hrows
      have hXlt : w.heap.size + 1 < wr.heap.size := by omega
      clear hx1 hM1 hM2 hN hrows
      go_wp2_with fail
      go_region_with (go_at_call 42; (with_reducible refine (BasisState_spec n t _ (by omega) h4 HT.out).mono ?_); rintro e w2 ⟨u, rfl, own2, hb2, hs2⟩; obtain ⟨k2, fr2, om2, hb3, hX2⟩ := held_call hb2 p1 f1 hXlt HM2.out; obtain ⟨a2, c2, rfl, _, _, _⟩ := rd_of_own own2; obtain ⟨v3, w3, hrun3, hown3, hgrow3, hat3⟩ := run_append_rd (P := Try.prog) (w2.alloc (.cells #[.slice a2 (bst (2 ^ n.toNat) t).length c2] 38)) (w.heap.size + 2) 24 24 38 i0 _ 1 24 Try.underlying24 hi0 hz0 hz1 hz2 rfl (by omega) (.slice A t c) t SS (om2.alloc _) (some ⟨w2.heap.size, 0, none⟩) 1 1 [.slice a2 (bst (2 ^ n.toNat) t).length c2] (rd_lit2 rfl rfl) (by simp [Value.oneCell']) (by simp only [maxLen]; omega) (by omega) (by simp; omega); rw [fold_append] at hrun3; obtain ⟨A3, c3, rfl, _, _, _⟩ := rd_of_own hown3; obtain ⟨k3, fr3⟩ := held_append hgrow3 (own_ge om2) (Nat.lt_succ_self _) k2 fr2 hX2)
      all_goals
        go_wp2_with fail
        go_roundw
        case rel =>
          obtain ⟨hx', ⟨F', hF'⟩, hb'⟩ := states_step (B := w.heap.size + 1) (Nat.lt_succ_self _) (Nat.le_refl _) (by omega) HX1.out HM1.out HM2.out HN.out HROW.out hb own2 hb3 hown3 hgrow3 hat3
          exact ⟨t + 1, A3, c3, F', by omega, by go_num, hx', by rw [rng_succ]; exact hF', hb'⟩
        case measure => simp [intOf]; omega
    · obtain rfl : t = 2 := by omega
      have hx0 := (hb.block w.heap.size (by omega)).trans X0.out
      have p0 : wr.cell? ⟨w.heap.size + 1, 0, none⟩ = some (.int .i64 0) := cell_at (j := 0) hx1 rfl
      have p1 : wr.cell? ⟨w.heap.size + 1, 1, none⟩ = some (.slice A 2 c) := cell_at (j := 1) hx1 rfl
      have q0 : wr.cell? ⟨w.heap.size, 0, none⟩ = some (.int .i64 0) := cell_at (j := 0) hx0 rfl
      have q1 : wr.cell? ⟨w.heap.size, 1, none⟩ = some (.slice none 0 0) := cell_at (j := 1) hx0 rfl
      have f0 : wr.frozen? ⟨w.heap.size, 0, none⟩ = false := by simp [World.frozen?, hx0]
      have f1 : wr.frozen? ⟨w.heap.size, 1, none⟩ = false := by simp [World.frozen?, hx0]
      have HO := Lib.hid hown
      clear hx1 hx0 hown
      go_wp2_with fail
      refine bodyPost_ret (v := .agg #[.int .i64 0, .slice A 2 c]) (by simp [results, Try.results37, go_sem, q0, q1]) rfl ⟨A, c, F, rfl, ?_, ?_, ?_⟩
      · exact ((HO.out.base_le (by omega)).kin ((kin_setCell _ w.heap.size _ _).trans (kin_setCell _ w.heap.size _ _)) (fun k hk hm => by have := (HO.out.lt k hk).1; simp at hm; omega))
      · exact ((b0.trans (hb.mono (by omega))).setCell (by simp) _).setCell (by simp) _
      · simp [World.setCell]; omega

set_option maxRecDepth 100000 in
set_option maxHeartbeats 4000000 in
theorem InitialBranch_spec_2 (n : Int) (w : World) (h1 : 2 ≤ n) (h4 : n ≤ 4) : Calls Try.prog 37 #[.int .i64 n, .int .i64 2] w (RetBr w 0 4 (rng 4 (2 ^ n.toNat))) := by
  obtain ⟨i0, hi0, hz0, hz1, hz2⟩ := info_parts info_DOmegaSE
  have hin1 : inB n 1 4 = true := inB_iff.2 (by omega)
  have hin2 : inB 2 1 n = true := inB_iff.2 (by omega)
  go_enter Try.func37, Try.ntmps37
  go_wp2_with (go_at_call 29; refine (l1In_any _ _ _ _).mono ?_; rintro e w' ⟨rfl, rfl⟩)
  obtain ⟨w0, hw0⟩ : ∃ w0, w0 = (w.alloc (.cells #[.int .i64 0, .slice none 0 0] 26)).alloc (.cells #[.int .i64 0, .slice none 0 0] 26) := ⟨_, rfl⟩
  rw [← hw0]
  have X0 := Lib.hid (show w0.heap[w.heap.size]? = some (.cells #[.int .i64 0, .slice none 0 0] 26 (0, 0)) by rw [hw0]; exact boxed2_0 _ _ _)
  have X1 := Lib.hid (show w0.heap[w.heap.size + 1]? = some (.cells #[.int .i64 0, .slice none 0 0] 26 (0, 0)) by rw [hw0]; exact boxed2_1 _ _ _)
  have b0 : Below w.heap.size w w0 := by rw [hw0]; exact (by repeat (first | exact Below.refl _ _ | assumption | (refine Below.trans ?_ (Below.mono (by assumption) (by first | omega | (simp; done) | (simp; omega)))) | (with_reducible refine Below.drew ?_) | (with_reducible refine Below.alloc ?_ (by first | omega | (simp; done) | (simp; omega)) _) | (with_reducible refine Below.setCell ?_ (by first | omega | (simp; done) | (simp; omega)) _)))
  have s0 : w.heap.size + 2 = w0.heap.size := by rw [hw0]; simp
  have S0 := Lib.hid s0
  clear hw0 s0
  go_loopw [6] (fun i wr => ∃ (t : Nat) (A : Option Addr) (c : Nat) (F : List Nat), t ≤ 4 ∧ i = .int .i64 t ∧ wr.heap[w.heap.size + 1]? = some (.cells #[.int .i64 0, .slice A t c] 26 (0, 0)) ∧ OwnM wr (w.heap.size + 2) (.slice A t c) t (rng t (2 ^ n.toNat)) F ∧ Below (w.heap.size + 1) w0 wr) (fun i _ => 4 - (intOf i).toNat)
  case atStart => exact ⟨0, none, 0, [], by omega, rfl, X1.out, ownM_nil _ _, Below.refl _ _⟩
  case round =>
    obtain ⟨t, A, c, F, ht, rfl, hx1, hown, hb⟩ := hrel
    have hbs := hb.size
    have s0 := S0.out
    by_cases hlt : t < 4
    · have p1 : wr.cell? ⟨w.heap.size + 1, 1, none⟩ = some (.slice A t c) := cell_at (j := 1) hx1 rfl
      have f1 : wr.frozen? ⟨w.heap.size + 1, 1, none⟩ = false := by simp [World.frozen?, hx1]
      have HX1 := Lib.hid hx1
      have HT := Lib.hid (show t < 2 ^ n.toNat from pow_lt (k := 2) rfl (by omega) hlt)
      obtain ⟨SS, hM1, hM2, hF, hN, hrows⟩ := hown
      subst hF
      have HM1 := Lib.hid hM1
      have HM2 := Lib.hid hM2
      have HN := Lib.hid hN
      have HROW := Lib.hid hrows
      have hXlt : w.heap.size + 1 < wr.heap.size := by omega
      clear hx1 hM1 hM2 hN hrows
      go_wp2_with fail
      go_region_with (go_at_call 42; (with_reducible refine (BasisState_spec n t _ (by omega) h4 HT.out).mono ?_); rintro e w2 ⟨u, rfl, own2, hb2, hs2⟩; obtain ⟨k2, fr2, om2, hb3, hX2⟩ := held_call hb2 p1 f1 hXlt HM2.out; obtain ⟨a2, c2, rfl, _, _, _⟩ := rd_of_own own2; obtain ⟨v3, w3, hrun3, hown3, hgrow3, hat3⟩ := run_append_rd (P := Try.prog) (w2.alloc (.cells #[.slice a2 (bst (2 ^ n.toNat) t).length c2] 38)) (w.heap.size + 2) 24 24 38 i0 _ 1 24 Try.underlying24 hi0 hz0 hz1 hz2 rfl (by omega) (.slice A t c) t SS (om2.alloc _) (some ⟨w2.heap.size, 0, none⟩) 1 1 [.slice a2 (bst (2 ^ n.toNat) t).length c2] (rd_lit2 rfl rfl) (by simp [Value.oneCell']) (by simp only [maxLen]; omega) (by omega) (by simp; omega); rw [fold_append] at hrun3; obtain ⟨A3, c3, rfl, _, _, _⟩ := rd_of_own hown3; obtain ⟨k3, fr3⟩ := held_append hgrow3 (own_ge om2) (Nat.lt_succ_self _) k2 fr2 hX2)
      all_goals
        go_wp2_with fail
        go_roundw
        case rel =>
          obtain ⟨hx', ⟨F', hF'⟩, hb'⟩ := states_step (B := w.heap.size + 1) (Nat.lt_succ_self _) (Nat.le_refl _) (by omega) HX1.out HM1.out HM2.out HN.out HROW.out hb own2 hb3 hown3 hgrow3 hat3
          exact ⟨t + 1, A3, c3, F', by omega, by go_num, hx', by rw [rng_succ]; exact hF', hb'⟩
        case measure => simp [intOf]; omega
    · obtain rfl : t = 4 := by omega
      have hx0 := (hb.block w.heap.size (by omega)).trans X0.out
      have p0 : wr.cell? ⟨w.heap.size + 1, 0, none⟩ = some (.int .i64 0) := cell_at (j := 0) hx1 rfl
      have p1 : wr.cell? ⟨w.heap.size + 1, 1, none⟩ = some (.slice A 4 c) := cell_at (j := 1) hx1 rfl
      have q0 : wr.cell? ⟨w.heap.size, 0, none⟩ = some (.int .i64 0) := cell_at (j := 0) hx0 rfl
      have q1 : wr.cell? ⟨w.heap.size, 1, none⟩ = some (.slice none 0 0) := cell_at (j := 1) hx0 rfl
      have f0 : wr.frozen? ⟨w.heap.size, 0, none⟩ = false := by simp [World.frozen?, hx0]
      have f1 : wr.frozen? ⟨w.heap.size, 1, none⟩ = false := by simp [World.frozen?, hx0]
      have HO := Lib.hid hown
      clear hx1 hx0 hown
      go_wp2_with fail
      refine bodyPost_ret (v := .agg #[.int .i64 0, .slice A 4 c]) (by simp [results, Try.results37, go_sem, q0, q1]) rfl ⟨A, c, F, rfl, ?_, ?_, ?_⟩
      · exact ((HO.out.base_le (by omega)).kin ((kin_setCell _ w.heap.size _ _).trans (kin_setCell _ w.heap.size _ _)) (fun k hk hm => by have := (HO.out.lt k hk).1; simp at hm; omega))
      · exact ((b0.trans (hb.mono (by omega))).setCell (by simp) _).setCell (by simp) _
      · simp [World.setCell]; omega

set_option maxRecDepth 100000 in
set_option maxHeartbeats 4000000 in
theorem InitialBranch_spec_3 (n : Int) (w : World) (h1 : 3 ≤ n) (h4 : n ≤ 4) : Calls Try.prog 37 #[.int .i64 n, .int .i64 3] w (RetBr w 0 8 (rng 8 (2 ^ n.toNat))) := by
  obtain ⟨i0, hi0, hz0, hz1, hz2⟩ := info_parts info_DOmegaSE
  have hin1 : inB n 1 4 = true := inB_iff.2 (by omega)
  have hin2 : inB 3 1 n = true := inB_iff.2 (by omega)
  go_enter Try.func37, Try.ntmps37
  go_wp2_with (go_at_call 29; refine (l1In_any _ _ _ _).mono ?_; rintro e w' ⟨rfl, rfl⟩)
  obtain ⟨w0, hw0⟩ : ∃ w0, w0 = (w.alloc (.cells #[.int .i64 0, .slice none 0 0] 26)).alloc (.cells #[.int .i64 0, .slice none 0 0] 26) := ⟨_, rfl⟩
  rw [← hw0]
  have X0 := Lib.hid (show w0.heap[w.heap.size]? = some (.cells #[.int .i64 0, .slice none 0 0] 26 (0, 0)) by rw [hw0]; exact boxed2_0 _ _ _)
  have X1 := Lib.hid (show w0.heap[w.heap.size + 1]? = some (.cells #[.int .i64 0, .slice none 0 0] 26 (0, 0)) by rw [hw0]; exact boxed2_1 _ _ _)
  have b0 : Below w.heap.size w w0 := by rw [hw0]; exact (by repeat (first | exact Below.refl _ _ | assumption | (refine Below.trans ?_ (Below.mono (by assumption) (by first | omega | (simp; done) | (simp; omega)))) | (with_reducible refine Below.drew ?_) | (with_reducible refine Below.alloc ?_ (by first | omega | (simp; done) | (simp; omega)) _) | (with_reducible refine Below.setCell ?_ (by first | omega | (simp; done) | (simp; omega)) _)))
  have s0 : w.heap.size + 2 = w0.heap.size := by rw [hw0]; simp
  have S0 := Lib.hid s0
  clear hw0 s0
  go_loopw [6] (fun i wr => ∃ (t : Nat) (A : Option Addr) (c : Nat) (F : List Nat), t ≤ 8 ∧ i = .int .i64 t ∧ wr.heap[w.heap.size + 1]? = some (.cells #[.int .i64 0, .slice A t c] 26 (0, 0)) ∧ OwnM wr (w.heap.size + 2) (.slice A t c) t (rng t (2 ^ n.toNat)) F ∧ Below (w.heap.size + 1) w0 wr) (fun i _ => 8 - (intOf i).toNat)
  case atStart => exact ⟨0, none, 0, [], by omega, rfl, X1.out, ownM_nil _ _, Below.refl _ _⟩
  case round =>
    obtain ⟨t, A, c, F, ht, rfl, hx1, hown, hb⟩ := hrel
    have hbs := hb.size
    have s0 := S0.out
    by_cases hlt : t < 8
    · have p1 : wr.cell? ⟨w.heap.size + 1, 1, none⟩ = some (.slice A t c) := cell_at (j := 1) hx1 rfl
      have f1 : wr.frozen? ⟨w.heap.size + 1, 1, none⟩ = false := by simp [World.frozen?, hx1]
      have HX1 := Lib.hid hx1
      have HT := Lib.hid (show t < 2 ^ n.toNat from pow_lt (k := 3) rfl (by omega) hlt)
      obtain ⟨SS, hM1, hM2, hF, hN, hrows⟩ := hown
      subst hF
      have HM1 := Lib.hid hM1
      have HM2 := Lib.hid hM2
      have HN := Lib.hid hN
      have HROW := Lib.hid hrows
      have hXlt : w.heap.size + 1 < wr.heap.size := by omega
      clear hx1 hM1 hM2 hN hrows
      go_wp2_with fail
      go_region_with (go_at_call 42; (with_reducible refine (BasisState_spec n t _ (by omega) h4 HT.out).mono ?_); rintro e w2 ⟨u, rfl, own2, hb2, hs2⟩; obtain ⟨k2, fr2, om2, hb3, hX2⟩ := held_call hb2 p1 f1 hXlt HM2.out; obtain ⟨a2, c2, rfl, _, _, _⟩ := rd_of_own own2; obtain ⟨v3, w3, hrun3, hown3, hgrow3, hat3⟩ := run_append_rd (P := Try.prog) (w2.alloc (.cells #[.slice a2 (bst (2 ^ n.toNat) t).length c2] 38)) (w.heap.size + 2) 24 24 38 i0 _ 1 24 Try.underlying24 hi0 hz0 hz1 hz2 rfl (by omega) (.slice A t c) t SS (om2.alloc _) (some ⟨w2.heap.size, 0, none⟩) 1 1 [.slice a2 (bst (2 ^ n.toNat) t).length c2] (rd_lit2 rfl rfl) (by simp [Value.oneCell']) (by simp only [maxLen]; omega) (by omega) (by simp; omega); rw [fold_append] at hrun3; obtain ⟨A3, c3, rfl, _, _, _⟩ := rd_of_own hown3; obtain ⟨k3, fr3⟩ := held_append hgrow3 (own_ge om2) (Nat.lt_succ_self _) k2 fr2 hX2)
      all_goals
        go_wp2_with fail
        go_roundw
        case rel =>
          obtain ⟨hx', ⟨F', hF'⟩, hb'⟩ := states_step (B := w.heap.size + 1) (Nat.lt_succ_self _) (Nat.le_refl _) (by omega) HX1.out HM1.out HM2.out HN.out HROW.out hb own2 hb3 hown3 hgrow3 hat3
          exact ⟨t + 1, A3, c3, F', by omega, by go_num, hx', by rw [rng_succ]; exact hF', hb'⟩
        case measure => simp [intOf]; omega
    · obtain rfl : t = 8 := by omega
      have hx0 := (hb.block w.heap.size (by omega)).trans X0.out
      have p0 : wr.cell? ⟨w.heap.size + 1, 0, none⟩ = some (.int .i64 0) := cell_at (j := 0) hx1 rfl
      have p1 : wr.cell? ⟨w.heap.size + 1, 1, none⟩ = some (.slice A 8 c) := cell_at (j := 1) hx1 rfl
      have q0 : wr.cell? ⟨w.heap.size, 0, none⟩ = some (.int .i64 0) := cell_at (j := 0) hx0 rfl
      have q1 : wr.cell? ⟨w.heap.size, 1, none⟩ = some (.slice none 0 0) := cell_at (j := 1) hx0 rfl
      have f0 : wr.frozen? ⟨w.heap.size, 0, none⟩ = false := by simp [World.frozen?, hx0]
      have f1 : wr.frozen? ⟨w.heap.size, 1, none⟩ = false := by simp [World.frozen?, hx0]
      have HO := Lib.hid hown
      clear hx1 hx0 hown
      go_wp2_with fail
      refine bodyPost_ret (v := .agg #[.int .i64 0, .slice A 8 c]) (by simp [results, Try.results37, go_sem, q0, q1]) rfl ⟨A, c, F, rfl, ?_, ?_, ?_⟩
      · exact ((HO.out.base_le (by omega)).kin ((kin_setCell _ w.heap.size _ _).trans (kin_setCell _ w.heap.size _ _)) (fun k hk hm => by have := (HO.out.lt k hk).1; simp at hm; omega))
      · exact ((b0.trans (hb.mono (by omega))).setCell (by simp) _).setCell (by simp) _
      · simp [World.setCell]; omega

set_option maxRecDepth 100000 in
set_option maxHeartbeats 4000000 in
theorem InitialBranch_spec_4 (n : Int) (w : World) (h1 : 4 ≤ n) (h4 : n ≤ 4) : Calls Try.prog 37 #[.int .i64 n, .int .i64 4] w (RetBr w 0 16 (rng 16 (2 ^ n.toNat))) := by
  obtain ⟨i0, hi0, hz0, hz1, hz2⟩ := info_parts info_DOmegaSE
  have hin1 : inB n 1 4 = true := inB_iff.2 (by omega)
  have hin2 : inB 4 1 n = true := inB_iff.2 (by omega)
  go_enter Try.func37, Try.ntmps37
  go_wp2_with (go_at_call 29; refine (l1In_any _ _ _ _).mono ?_; rintro e w' ⟨rfl, rfl⟩)
  obtain ⟨w0, hw0⟩ : ∃ w0, w0 = (w.alloc (.cells #[.int .i64 0, .slice none 0 0] 26)).alloc (.cells #[.int .i64 0, .slice none 0 0] 26) := ⟨_, rfl⟩
  rw [← hw0]
  have X0 := Lib.hid (show w0.heap[w.heap.size]? = some (.cells #[.int .i64 0, .slice none 0 0] 26 (0, 0)) by rw [hw0]; exact boxed2_0 _ _ _)
  have X1 := Lib.hid (show w0.heap[w.heap.size + 1]? = some (.cells #[.int .i64 0, .slice none 0 0] 26 (0, 0)) by rw [hw0]; exact boxed2_1 _ _ _)
  have b0 : Below w.heap.size w w0 := by rw [hw0]; exact (by repeat (first | exact Below.refl _ _ | assumption | (refine Below.trans ?_ (Below.mono (by assumption) (by first | omega | (simp; done) | (simp; omega)))) | (with_reducible refine Below.drew ?_) | (with_reducible refine Below.alloc ?_ (by first | omega | (simp; done) | (simp; omega)) _) | (with_reducible refine Below.setCell ?_ (by first | omega | (simp; done) | (simp; omega)) _)))
  have s0 : w.heap.size + 2 = w0.heap.size := by rw [hw0]; simp
  have S0 := Lib.hid s0
  clear hw0 s0
  go_loopw [6] (fun i wr => ∃ (t : Nat) (A : Option Addr) (c : Nat) (F : List Nat), t ≤ 16 ∧ i = .int .i64 t ∧ wr.heap[w.heap.size + 1]? = some (.cells #[.int .i64 0, .slice A t c] 26 (0, 0)) ∧ OwnM wr (w.heap.size + 2) (.slice A t c) t (rng t (2 ^ n.toNat)) F ∧ Below (w.heap.size + 1) w0 wr) (fun i _ => 16 - (intOf i).toNat)
  case atStart => exact ⟨0, none, 0, [], by omega, rfl, X1.out, ownM_nil _ _, Below.refl _ _⟩
  case round =>
    obtain ⟨t, A, c, F, ht, rfl, hx1, hown, hb⟩ := hrel
    have hbs := hb.size
    have s0 := S0.out
    by_cases hlt : t < 16
    · have p1 : wr.cell? ⟨w.heap.size + 1, 1, none⟩ = some (.slice A t c) := cell_at (j := 1) hx1 rfl
      have f1 : wr.frozen? ⟨w.heap.size + 1, 1, none⟩ = false := by simp [World.frozen?, hx1]
      have HX1 := Lib.hid hx1
      have HT := Lib.hid (show t < 2 ^ n.toNat from pow_lt (k := 4) rfl (by omega) hlt)
      obtain ⟨SS, hM1, hM2, hF, hN, hrows⟩ := hown
      subst hF
      have HM1 := Lib.hid hM1
      have HM2 := Lib.hid hM2
      have HN := Lib.hid hN
      have HROW := Lib.hid hrows
      have hXlt : w.heap.size + 1 < wr.heap.size := by omega
      clear hx1 hM1 hM2 hN hrows
      go_wp2_with fail
      go_region_with (go_at_call 42; (with_reducible refine (BasisState_spec n t _ (by omega) h4 HT.out).mono ?_); rintro e w2 ⟨u, rfl, own2, hb2, hs2⟩; obtain ⟨k2, fr2, om2, hb3, hX2⟩ := held_call hb2 p1 f1 hXlt HM2.out; obtain ⟨a2, c2, rfl, _, _, _⟩ := rd_of_own own2; obtain ⟨v3, w3, hrun3, hown3, hgrow3, hat3⟩ := run_append_rd (P := Try.prog) (w2.alloc (.cells #[.slice a2 (bst (2 ^ n.toNat) t).length c2] 38)) (w.heap.size + 2) 24 24 38 i0 _ 1 24 Try.underlying24 hi0 hz0 hz1 hz2 rfl (by omega) (.slice A t c) t SS (om2.alloc _) (some ⟨w2.heap.size, 0, none⟩) 1 1 [.slice a2 (bst (2 ^ n.toNat) t).length c2] (rd_lit2 rfl rfl) (by simp [Value.oneCell']) (by simp only [maxLen]; omega) (by omega) (by simp; omega); rw [fold_append] at hrun3; obtain ⟨A3, c3, rfl, _, _, _⟩ := rd_of_own hown3; obtain ⟨k3, fr3⟩ := held_append hgrow3 (own_ge om2) (Nat.lt_succ_self _) k2 fr2 hX2)
      all_goals
        go_wp2_with fail
        go_roundw
        case rel =>
          obtain ⟨hx', ⟨F', hF'⟩, hb'⟩ := states_step (B := w.heap.size + 1) (Nat.lt_succ_self _) (Nat.le_refl _) (by omega) HX1.out HM1.out HM2.out HN.out HROW.out hb own2 hb3 hown3 hgrow3 hat3
          exact ⟨t + 1, A3, c3, F', by omega, by go_num, hx', by rw [rng_succ]; exact hF', hb'⟩
        case measure => simp [intOf]; omega
    · obtain rfl : t = 16 := by omega
      have hx0 := (hb.block w.heap.size (by omega)).trans X0.out
      have p0 : wr.cell? ⟨w.heap.size + 1, 0, none⟩ = some (.int .i64 0) := cell_at (j := 0) hx1 rfl
      have p1 : wr.cell? ⟨w.heap.size + 1, 1, none⟩ = some (.slice A 16 c) := cell_at (j := 1) hx1 rfl
      have q0 : wr.cell? ⟨w.heap.size, 0, none⟩ = some (.int .i64 0) := cell_at (j := 0) hx0 rfl
      have q1 : wr.cell? ⟨w.heap.size, 1, none⟩ = some (.slice none 0 0) := cell_at (j := 1) hx0 rfl
      have f0 : wr.frozen? ⟨w.heap.size, 0, none⟩ = false := by simp [World.frozen?, hx0]
      have f1 : wr.frozen? ⟨w.heap.size, 1, none⟩ = false := by simp [World.frozen?, hx0]
      have HO := Lib.hid hown
      clear hx1 hx0 hown
      go_wp2_with fail
      refine bodyPost_ret (v := .agg #[.int .i64 0, .slice A 16 c]) (by simp [results, Try.results37, go_sem, q0, q1]) rfl ⟨A, c, F, rfl, ?_, ?_, ?_⟩
      · exact ((HO.out.base_le (by omega)).kin ((kin_setCell _ w.heap.size _ _).trans (kin_setCell _ w.heap.size _ _)) (fun k hk hm => by have := (HO.out.lt k hk).1; simp at hm; omega))
      · exact ((b0.trans (hb.mono (by omega))).setCell (by simp) _).setCell (by simp) _
      · simp [World.setCell]; omega

set_option maxRecDepth 100000 in
theorem InitialBranch_spec_no (n k : Int) (w : World) (h : okI n k = false) : Calls Try.prog 37 #[.int .i64 n, .int .i64 k] w (RetBr w 0 0 []) := by
  cases e1 : inB n 1 4
  · go_enter Try.func37, Try.ntmps37
    go_wp2_with (go_at_call 29; refine (l1In_any _ _ _ _).mono ?_; rintro e w' ⟨rfl, rfl⟩)
    exact bodyPost_ret (v := .agg #[.int .i64 0, .slice none 0 0]) (by simp [results, Try.results37, go_sem]) rfl ⟨none, 0, [], rfl, ownM_nil _ _, (by repeat (first | exact Below.refl _ _ | assumption | (refine Below.trans ?_ (Below.mono (by assumption) (by first | omega | (simp; done) | (simp; omega)))) | (with_reducible refine Below.drew ?_) | (with_reducible refine Below.alloc ?_ (by first | omega | (simp; done) | (simp; omega)) _) | (with_reducible refine Below.setCell ?_ (by first | omega | (simp; done) | (simp; omega)) _))), (by first | omega | (simp; done) | (simp; omega))⟩
  · have e2 : inB k 1 n = false := by simpa [okI, e1] using h
    go_enter Try.func37, Try.ntmps37
    go_wp2_with (go_at_call 29; refine (l1In_any _ _ _ _).mono ?_; rintro e w' ⟨rfl, rfl⟩)
    exact bodyPost_ret (v := .agg #[.int .i64 0, .slice none 0 0]) (by simp [results, Try.results37, go_sem]) rfl ⟨none, 0, [], rfl, ownM_nil _ _, (by repeat (first | exact Below.refl _ _ | assumption | (refine Below.trans ?_ (Below.mono (by assumption) (by first | omega | (simp; done) | (simp; omega)))) | (with_reducible refine Below.drew ?_) | (with_reducible refine Below.alloc ?_ (by first | omega | (simp; done) | (simp; omega)) _) | (with_reducible refine Below.setCell ?_ (by first | omega | (simp; done) | (simp; omega)) _))), (by first | omega | (simp; done) | (simp; omega))⟩

theorem InitialBranch_spec (n k : Int) (w : World) : Calls Try.prog 37 #[.int .i64 n, .int .i64 k] w (RetBr w 0 (initM n k).length (initM n k)) := by
  cases h : okI n k
  · rw [initM_no h]
    exact InitialBranch_spec_no n k w h
  · have e : initM n k = rng (2 ^ k.toNat) (2 ^ n.toNat) := by simp [initM, h]
    rw [e, rng_len]
    simp only [okI, Bool.and_eq_true] at h
    have h1 := inB_iff.1 h.1
    have h2 := inB_iff.1 h.2
    have hk : k = 1 ∨ k = 2 ∨ k = 3 ∨ k = 4 := by omega
    rcases hk with rfl | rfl | rfl | rfl
    · exact InitialBranch_spec_1 n w (by omega) (by omega)
    · exact InitialBranch_spec_2 n w (by omega) (by omega)
    · exact InitialBranch_spec_3 n w (by omega) (by omega)
    · exact InitialBranch_spec_4 n w (by omega) (by omega)
end Go.Proofs.Ytgjpicekdbemiac
namespace Go.Proofs.Ytgjpicekdbemiac
open Go.RowKit
set_option linter.unusedVariables false
/-- A branch as plain data. -/
structure Br where
  b : Int
  M : List (List Dm)
/-- A list of branches that reads. -/
def RdB (w : World) (A : Option Addr) (n : Nat) (L : List Br) : Prop :=
  ∃ S : List Value, L.length = n ∧ Rd w 2 A n S ∧ ∀ (j : Nat) (x : Br), L[j]? = some x → ∃ a c, S[j * 2]? = some (.int .i64 x.b) ∧ S[j * 2 + 1]? = some (.slice a x.M.length c) ∧ x.M.length ≤ c ∧ c ≤ maxLen ∧ RdM w a x.M.length x.M
theorem RdB.below {w w' : World} {A : Option Addr} {n : Nat} {L : List Br} (h : RdB w A n L) (hb : Below w.heap.size w w') : RdB w' A n L := by
  obtain ⟨S, h1, h2, h3⟩ := h
  refine ⟨S, h1, h2.below hb, fun j r hj => ?_⟩
  obtain ⟨a, c, e0, e, e1, e2, hr⟩ := h3 j r hj
  exact ⟨a, c, e0, e, e1, e2, hr.below hb⟩
theorem RdB.len {w : World} {A : Option Addr} {n : Nat} {L : List Br} (h : RdB w A n L) : L.length = n := by obtain ⟨_, h, _⟩ := h; exact h
theorem RdB.drew {w : World} {A : Option Addr} {n : Nat} {L : List Br} (h : RdB w A n L) : RdB w.drew A n L := h
theorem RdM.drewN {w : World} {A : Option Addr} {n : Nat} {M : List (List Dm)} (h : RdM w A n M) (k : Nat) : RdM (w.drewN k) A n M := h
theorem RdB.drewN {w : World} {A : Option Addr} {n : Nat} {L : List Br} (h : RdB w A n L) (k : Nat) : RdB (w.drewN k) A n L := h
/-- The branch j: its cells, and what they read. -/
theorem RdB.at {w : World} {A : Option Addr} {n j : Nat} {L : List Br} {x : Br} (h : RdB w A n L) (hj : L[j]? = some x) :
    ∃ b off a c, A = some ⟨b, off, none⟩ ∧ b < w.heap.size ∧ w.cell? ⟨b, off + j * 2, none⟩ = some (.int .i64 x.b) ∧ w.cell? ⟨b, off + j * 2 + 1, none⟩ = some (.slice a x.M.length c) ∧ x.M.length ≤ c ∧ c ≤ maxLen ∧ RdM w a x.M.length x.M := by
  obtain ⟨S, h1, h2, h3⟩ := h
  have hlt := (List.getElem?_eq_some_iff.1 hj).1
  obtain ⟨b, off, e, hl, hc⟩ := h2.2 (by omega)
  obtain ⟨a, c, e0, es, e1, e2, hr⟩ := h3 j x hj
  exact ⟨b, off, a, c, e, hl, hc _ _ e0, hc _ _ es, e1, e2, hr⟩
/-- The whole size of a list of branches. -/
def szB (L : List Br) : Nat := (L.map fun x => x.M.length + szM x.M).sum
theorem szM_le_row {M : List (List Dm)} {n : Nat} (h : ∀ r ∈ M, r.length ≤ n) : szM M ≤ M.length * n := by
  induction M with
  | nil => simp [szM]
  | cons r M ih =>
    have h1 := ih (fun x hx => h x (by simp [hx]))
    have h2 := h r (by simp)
    simp only [szM, List.map_cons, List.sum_cons, List.length_cons] at h1 ⊢
    rw [Nat.add_mul]
    omega
/-- The branches of a list, their cells S and the blocks F that they own. -/
def RowsB (w : World) (base : Nat) : List Br → List Value → List Nat → Prop
  | [], S, F => S = [] ∧ F = []
  | x :: L, S, F => ∃ a c G S' F', S = .int .i64 x.b :: .slice a x.M.length c :: S' ∧ F = G ++ F' ∧ OwnM w base (.slice a x.M.length c) x.M.length x.M G ∧ RowsB w base L S' F'
theorem RowsB.len {w : World} {base : Nat} : ∀ {L : List Br} {S : List Value} {F : List Nat}, RowsB w base L S F → S.length = L.length * 2
  | [], _, _, h => by rw [h.1]; rfl
  | x :: L, _, _, ⟨a, c, G, S', F', rfl, _, _, h⟩ => by have := RowsB.len h; simp only [List.length_cons, this]; omega
theorem RowsB.kin {w w' : World} {base : Nat} {K : List Nat} (hk : Kin K w w') : ∀ {L : List Br} {S : List Value} {F : List Nat}, RowsB w base L S F → (∀ k ∈ F, k ∉ K) → RowsB w' base L S F
  | [], _, _, h, _ => h
  | x :: L, _, _, ⟨a, c, G, S', F', e1, rfl, h1, h2⟩, hF => ⟨a, c, G, S', F', e1, rfl, h1.kin hk (fun k hk' => hF k (by simp [hk'])), RowsB.kin hk h2 (fun k hk' => hF k (by simp [hk']))⟩
theorem RowsB.base_le {w : World} {base base' : Nat} (hB : base' ≤ base) : ∀ {L : List Br} {S : List Value} {F : List Nat}, RowsB w base L S F → RowsB w base' L S F
  | [], _, _, h => h
  | x :: L, _, _, ⟨a, c, G, S', F', e1, e2, h1, h2⟩ => ⟨a, c, G, S', F', e1, e2, h1.base_le hB, RowsB.base_le hB h2⟩
theorem RowsB.lt {w : World} {base : Nat} : ∀ {L : List Br} {S : List Value} {F : List Nat}, RowsB w base L S F → ∀ k ∈ F, base ≤ k ∧ k < w.heap.size
  | [], _, _, h, k, hk => by rw [h.2] at hk; cases hk
  | x :: L, _, _, ⟨a, c, G, S', F', _, rfl, h1, h2⟩, k, hk => by
    rcases List.mem_append.1 hk with h | h
    · exact h1.lt k h
    · exact RowsB.lt h2 k h
theorem RowsB.app {w : World} {base : Nat} : ∀ {L L' : List Br} {S S' : List Value} {F F' : List Nat}, RowsB w base L S F → RowsB w base L' S' F' → RowsB w base (L ++ L') (S ++ S') (F ++ F')
  | [], _, _, _, _, _, ⟨rfl, rfl⟩, h' => h'
  | x :: L, _, _, _, _, _, ⟨a, c, G, S1, F1, rfl, rfl, h1, h2⟩, h' => ⟨a, c, G, _, _, rfl, by rw [List.append_assoc], h1, RowsB.app h2 h'⟩
theorem rowsB_one {w : World} {base : Nat} {b : Int} {a : Option Addr} {n c : Nat} {M : List (List Dm)} {G : List Nat} (h : OwnM w base (.slice a n c) n M G) : RowsB w base [⟨b, M⟩] [.int .i64 b, .slice a n c] G := by
  have hl : M.length = n := h.rd'.len
  subst hl
  exact ⟨a, c, G, [], [], rfl, by simp, h, rfl, rfl⟩
/-- The branch t of a list of branches apart from those ahead and behind. -/
theorem RowsB.split {w : World} {base : Nat} : ∀ {t : Nat} {L : List Br} {S : List Value} {F : List Nat} {x : Br}, RowsB w base L S F → L[t]? = some x →
    ∃ a c G S1 S2 F1 F2, S = S1 ++ ([.int .i64 x.b, .slice a x.M.length c] ++ S2) ∧ F = F1 ++ (G ++ F2) ∧ S1.length = t * 2 ∧ RowsB w base (L.take t) S1 F1 ∧ OwnM w base (.slice a x.M.length c) x.M.length x.M G ∧ RowsB w base (L.drop (t + 1)) S2 F2
  | t, [], _, _, _, _, h => by simp at h
  | 0, y :: L, _, _, x, ⟨a, c, G, S', F', rfl, rfl, h1, h2⟩, h => by
    simp at h
    subst h
    exact ⟨a, c, G, [], S', [], F', rfl, rfl, rfl, ⟨rfl, rfl⟩, h1, h2⟩
  | t + 1, y :: L, _, _, x, ⟨a, c, G, S', F', rfl, rfl, h1, h2⟩, h => by
    obtain ⟨a', c', G', S1, S2, F1, F2, rfl, rfl, hl, r1, r2, r3⟩ := RowsB.split (t := t) h2 (by simpa using h)
    exact ⟨a', c', G', _, S2, G ++ F1, F2, by simp only [List.cons_append], by rw [List.append_assoc], by simp only [List.length_cons, hl]; omega, ⟨a, c, G, S1, F1, rfl, rfl, h1, r1⟩, r2, r3⟩
/-- A call owns a list of branches whole. -/
def OwnB (w : World) (base : Nat) (v : Value) (n : Nat) (L : List Br) (F : List Nat) : Prop :=
  ∃ S F', L.length = n ∧ w.ownsRow base 26 2 v n S ∧ RowsB w base L S F' ∧ F = v.ownBlock.toList ++ F' ∧ F.Nodup
theorem OwnB.lt {w : World} {base n : Nat} {v : Value} {L : List Br} {F : List Nat} (h : OwnB w base v n L F) : ∀ k ∈ F, base ≤ k ∧ k < w.heap.size := by
  obtain ⟨S, F', h1, h2, h3, rfl, _⟩ := h
  intro k hk
  rcases List.mem_append.1 hk with hk | hk
  · exact h2.lt k (by simpa using hk)
  · exact h3.lt k hk
theorem OwnB.kin {G : List Nat} {w w' : World} {base n : Nat} {v : Value} {L : List Br} {F : List Nat} (h : OwnB w base v n L F) (hk : Kin G w w') (hF : ∀ k ∈ F, k ∉ G) : OwnB w' base v n L F := by
  obtain ⟨S, F', h1, h2, h3, rfl, h4⟩ := h
  exact ⟨S, F', h1, own_kin h2 hk (fun k e => hF k (by simp [e])), h3.kin hk (fun k e => hF k (by simp [e])), rfl, h4⟩
theorem OwnB.below {w w' : World} {base n : Nat} {v : Value} {L : List Br} {F : List Nat} (h : OwnB w base v n L F) (hb : Below w.heap.size w w') : OwnB w' base v n L F := h.kin (kin_of_below [] hb) (by simp)
theorem OwnB.base_le {w : World} {base base' n : Nat} {v : Value} {L : List Br} {F : List Nat} (h : OwnB w base v n L F) (hB : base' ≤ base) : OwnB w base' v n L F := by
  obtain ⟨S, F', h1, h2, h3, h4⟩ := h
  exact ⟨S, F', h1, own_from h2 hB, h3.base_le hB, h4⟩
theorem rowsB_rd {w : World} {base : Nat} {L : List Br} {S : List Value} {F : List Nat} (h : RowsB w base L S F) (j : Nat) (x : Br) (hj : L[j]? = some x) :
    ∃ a c, S[j * 2]? = some (.int .i64 x.b) ∧ S[j * 2 + 1]? = some (.slice a x.M.length c) ∧ x.M.length ≤ c ∧ c ≤ maxLen ∧ RdM w a x.M.length x.M := by
  obtain ⟨a, c, G, S1, S2, F1, F2, rfl, _, hl, _, ho, _⟩ := h.split hj
  obtain ⟨a', c', e, e1, e2, hr⟩ := ho.rd
  injection e with e3 e4 e5
  subst e3 e5
  refine ⟨a, c, ?_, ?_, e1, e2, hr⟩
  · rw [List.getElem?_append_right (by omega), hl, Nat.sub_self]; rfl
  · rw [List.getElem?_append_right (by omega), hl, show j * 2 + 1 - j * 2 = 1 from by omega]; rfl
theorem OwnB.rd {w : World} {base n : Nat} {v : Value} {L : List Br} {F : List Nat} (h : OwnB w base v n L F) : ∃ A c, v = .slice A n c ∧ n ≤ c ∧ c ≤ maxLen ∧ RdB w A n L := by
  obtain ⟨S, F', h1, h2, h3, _, _⟩ := h
  obtain ⟨A, c, e, e1, e2, hr⟩ := rd_of_own h2
  exact ⟨A, c, e, e1, e2, S, h1, hr, rowsB_rd h3⟩
theorem OwnB.rd' {w : World} {base n c : Nat} {A : Option Addr} {L : List Br} {F : List Nat} (h : OwnB w base (.slice A n c) n L F) : RdB w A n L := by
  obtain ⟨A', c', e, _, _, r⟩ := h.rd
  injection e with e1 e2 e3
  rw [e1]
  exact r
theorem ownB_empty (w : World) : OwnB (w.alloc (.cells #[] 26)) w.heap.size (.slice (some ⟨w.heap.size, 0, none⟩) 0 0) 0 [] [w.heap.size] :=
  ⟨[], [], rfl, own_empty _ _ _, ⟨rfl, rfl⟩, by simp [Value.ownBlock], by simp⟩
/-- Behind 'append' of one branch: what is owned then. -/
theorem ownB_snoc {w w' : World} {base n : Nat} {v v' : Value} {b : Int} {a : Option Addr} {m c : Nat} {L : List Br} {M : List (List Dm)} {S : List Value} {F' G : List Nat}
    (h1 : L.length = n) (h2 : w.ownsRow base 26 2 v n S) (h3 : RowsB w base L S F') (h4 : (v.ownBlock.toList ++ F').Nodup)
    (hu : OwnM w base (.slice a m c) m M G) (hd : ∀ k ∈ G, k ∉ v.ownBlock.toList ++ F') (hn : G.Nodup)
    (h' : w'.ownsRow base 26 2 v' (n + 1) (S ++ [.int .i64 b, .slice a m c])) (hg : w.grownBy w' v.ownBlock) (hb : v'.ownBlock = v.ownBlock ∨ v'.ownBlock = some w.heap.size) :
    ∃ F2, OwnB w' base v' (n + 1) (L ++ [⟨b, M⟩]) F2 ∧ ∀ k ∈ F2, k ∈ v.ownBlock.toList ++ F' ∨ k ∈ G ∨ k = w.heap.size := by
  have hlt := OwnB.lt ⟨S, F', h1, h2, h3, rfl, h4⟩
  have hK := kin_of_grown hg
  have hnd := List.nodup_append.1 h4
  have hv : ∀ k ∈ v'.ownBlock.toList, k ∈ v.ownBlock.toList ∨ k = w.heap.size := by
    intro k hk
    rcases hb with hb | hb
    · rw [hb] at hk; exact .inl hk
    · rw [hb] at hk; simp at hk; exact .inr hk
  have r1 : RowsB w' base L S F' := h3.kin hK (fun k hk hm => hnd.2.2 k hm k hk rfl)
  have r2 : OwnM w' base (.slice a m c) m M G := hu.kin hK (fun k hk hm => hd k hk (List.mem_append.2 (.inl hm)))
  refine ⟨v'.ownBlock.toList ++ (F' ++ G), ⟨S ++ [.int .i64 b, .slice a m c], F' ++ G, by simp [h1], h', r1.app (rowsB_one r2), rfl, ?_⟩, ?_⟩
  · refine List.nodup_append.2 ⟨by cases v'.ownBlock <;> simp, List.nodup_append.2 ⟨hnd.2.1, hn, ?_⟩, ?_⟩
    · intro x hx y hy e
      subst e
      exact hd x hy (List.mem_append.2 (.inr hx))
    · intro x hx y hy e
      subst e
      rcases hv x hx with hx | hx
      · rcases List.mem_append.1 hy with hy | hy
        · exact hnd.2.2 x hx x hy rfl
        · exact hd x hy (List.mem_append.2 (.inl hx))
      · subst hx
        rcases List.mem_append.1 hy with hy | hy
        · have := (hlt _ (List.mem_append.2 (.inr hy))).2
          omega
        · have := (hu.lt _ hy).2
          omega
  · intro k hk
    rcases List.mem_append.1 hk with hk | hk
    · rcases hv k hk with h | h
      · exact .inl (List.mem_append.2 (.inl h))
      · exact .inr (.inr h)
    · rcases List.mem_append.1 hk with hk | hk
      · exact .inl (List.mem_append.2 (.inr hk))
      · exact .inr (.inl hk)
/-- A call that returns a list of branches of its own. -/
def RetB (w : World) (n : Nat) (L : List Br) (e : Ending) (w' : World) : Prop :=
  ∃ v F, e = .returned v ∧ OwnB w' w.heap.size v n L F ∧ Below w.heap.size w w' ∧ w.heap.size ≤ w'.heap.size
end Go.Proofs.Ytgjpicekdbemiac
namespace Go.Proofs.Ytgjpicekdbemiac
def eqBy {α : Type} (f : α → α → Bool) (l l' : List α) : Bool := (l.length == l'.length) && (List.zip l l').all (fun p => f p.1 p.2)
def EqUpto {α : Type} (f : α → α → Bool) (l l' : List α) (t : Nat) : Prop := ∀ j, j < t → ∀ x y, l[j]? = some x → l'[j]? = some y → f x y = true
section
variable {α : Type} {f : α → α → Bool} {l l' : List α}
theorem eqBy_len (h : l.length ≠ l'.length) : eqBy f l l' = false := by simp [eqBy, h]
theorem eqBy_f {k : Nat} {x y : α} (hx : l[k]? = some x) (hy : l'[k]? = some y) (h : f x y = false) : eqBy f l l' = false := by
  have hm : (x, y) ∈ List.zip l l' := by
    have : (List.zip l l')[k]? = some (x, y) := by rw [List.getElem?_zip_eq_some]; exact ⟨hx, hy⟩
    exact List.mem_of_getElem? this
  rw [eqBy, Bool.and_eq_false_iff]
  right
  rw [List.all_eq_false]
  exact ⟨_, hm, by simp [h]⟩
theorem eqBy_t {t : Nat} (hl : l.length = l'.length) (h : EqUpto f l l' t) (ht : l.length ≤ t) : eqBy f l l' = true := by
  rw [eqBy, Bool.and_eq_true]
  refine ⟨by simp [hl], List.all_eq_true.2 fun p hp => ?_⟩
  obtain ⟨j, hj⟩ := List.getElem?_of_mem hp
  rw [List.getElem?_zip_eq_some] at hj
  have := (List.getElem?_eq_some_iff.1 hj.1).1
  exact h j (by omega) _ _ hj.1 hj.2
theorem eqUpto_zero : EqUpto f l l' 0 := fun _ h => absurd h (by omega)
theorem eqUpto_step {t : Nat} {x y : α} (h : EqUpto f l l' t) (hx : l[t]? = some x) (hy : l'[t]? = some y) (he : f x y = true) : EqUpto f l l' (t + 1) := by
  intro j hj a b ha hb
  by_cases hjt : j < t
  · exact h j hjt a b ha hb
  · obtain rfl : j = t := by omega
    rw [hx] at ha
    rw [hy] at hb
    injection ha with ha
    injection hb with hb
    subst ha hb
    exact he
theorem eqBy_refl (hf : ∀ x ∈ l, f x x = true) : eqBy f l l = true :=
  eqBy_t rfl (fun j _ x y hx hy => by rw [hx] at hy; injection hy with hy; subst hy; exact hf x (List.mem_of_getElem? hx)) (Nat.le_refl _)
end
end Go.Proofs.Ytgjpicekdbemiac
namespace Go.Proofs.Ytgjpicekdbemiac
open Go.RowKit
theorem quiet_anyAdd {P : Program} {f : FuncId} {args : Array Value} {w : World} {a n : Nat} {v : Value}
    (h : Calls P f args (w.drewN (a + n)) fun e w' => e = .returned v ∧ ∃ m, w' = (w.drewN (a + n)).drewN m) :
    Calls P f args (w.drewN (a + n)) fun e w'' => e = .returned v ∧ ∃ m, w'' = w.drewN (a + m) :=
  h.mono fun _ _ ⟨he, m, hm⟩ => ⟨he, n + m, by rw [hm, World.drewN_drewN, Nat.add_assoc]⟩
theorem drewN2 (w : World) (m n : Nat) : ∃ k, (w.drewN m).drewN n = w.drewN k := ⟨m + n, by rw [World.drewN_drewN]⟩
theorem below_quiet {w w' : World} (h : ∃ m, w' = w.drewN m) : Below w.heap.size w w' ∧ w.heap.size ≤ w'.heap.size := by
  obtain ⟨m, rfl⟩ := h
  exact ⟨below_drewN (Below.refl _ _) m, Nat.le_refl _⟩
end Go.Proofs.Ytgjpicekdbemiac
namespace Go.Proofs.Ytgjpicekdbemiac
open Go.RowKit
set_option linter.unusedVariables false
def eqD (a b : Dm) : Bool := a.a == b.a && (a.b == b.b && (a.c == b.c && (a.d == b.d && (a.e == b.e))))
theorem eqD_eq {a b : Dm} (h : eqD a b = true) : a = b := by
  simp [eqD] at h
  obtain ⟨a1, a2, a3, a4, a5⟩ := a
  obtain ⟨b1, b2, b3, b4, b5⟩ := b
  simp_all
theorem eqD_refl (a : Dm) : eqD a a = true := by simp [eqD]
theorem neq_D (w : World) (a b : Dm) : (binOp .neq 47 (.agg #[.int .i64 a.a, .int .i64 a.b, .int .i64 a.c, .int .i64 a.d, .int .i64 a.e]) (.agg #[.int .i64 b.a, .int .i64 b.b, .int .i64 b.c, .int .i64 b.d, .int .i64 b.e])).run Try.prog w = .ok (.bool (!eqD a b)) w := by
  simp [go_sem, eqD]
  repeat' split
  all_goals simp_all
set_option maxRecDepth 100000 in
set_option maxHeartbeats 2000000 in
theorem EqualState_spec (A A' : Option Addr) (n n' c c' : Nat) (l l' : List Dm) (w : World) (hl : l.length = n) (hl' : l'.length = n') (hn : n ≤ 1099511627776) (h1 : Rd w 5 A n (l.flatMap dcells)) (h2 : Rd w 5 A' n' (l'.flatMap dcells)) :
    Calls Try.prog 22 #[.slice A n c, .slice A' n' c'] w fun e w' => e = .returned (.bool (eqBy eqD l l')) ∧ ∃ m, w' = w.drewN m := by
  have HL := Lib.hid hl
  have HL' := Lib.hid hl'
  by_cases hnn : n = n'
  · subst hnn
    have H1 := Lib.hid h1
    have H2 := Lib.hid h2
    clear h1 h2 hl hl'
    go_enter Try.func22, Try.ntmps22
    go_wp2
    go_loopw [5] (fun i wr => ∃ k : Nat, k ≤ n ∧ i = .int .i64 k ∧ EqUpto eqD l l' k ∧ ∃ m, wr = w.drewN m) (fun i _ => n - (intOf i).toNat)
    case atStart => exact ⟨0, Nat.zero_le _, rfl, eqUpto_zero, 0, rfl⟩
    case round =>
      obtain ⟨k, hk, rfl, hup, dq, rfl⟩ := hrel
      by_cases hlt : k < n
      · have hkl : k < l.length := by rw [HL.out]; exact hlt
        have hkl' : k < l'.length := by rw [HL'.out]; exact hlt
        obtain ⟨g, hg⟩ : ∃ g, l[k]? = some g := ⟨_, List.getElem?_eq_getElem hkl⟩
        obtain ⟨g', hg'⟩ : ∃ g, l'[k]? = some g := ⟨_, List.getElem?_eq_getElem hkl'⟩
        obtain ⟨b, off, rfl, _, hc⟩ := H1.out.2 (by omega)
        obtain ⟨b', off', rfl, _, hc'⟩ := H2.out.2 (by omega)
        have q0 := hc (k * 5 + 0) _ (flat_at dcells_len l k g 0 hg (by decide))
        have q0' := hc' (k * 5 + 0) _ (flat_at dcells_len l' k g' 0 hg' (by decide))
        have q1 := hc (k * 5 + 1) _ (flat_at dcells_len l k g 1 hg (by decide))
        have q1' := hc' (k * 5 + 1) _ (flat_at dcells_len l' k g' 1 hg' (by decide))
        have q2 := hc (k * 5 + 2) _ (flat_at dcells_len l k g 2 hg (by decide))
        have q2' := hc' (k * 5 + 2) _ (flat_at dcells_len l' k g' 2 hg' (by decide))
        have q3 := hc (k * 5 + 3) _ (flat_at dcells_len l k g 3 hg (by decide))
        have q3' := hc' (k * 5 + 3) _ (flat_at dcells_len l' k g' 3 hg' (by decide))
        have q4 := hc (k * 5 + 4) _ (flat_at dcells_len l k g 4 hg (by decide))
        have q4' := hc' (k * 5 + 4) _ (flat_at dcells_len l' k g' 4 hg' (by decide))
        rw [← Nat.add_assoc] at q1 q1' q2 q2' q3 q3' q4 q4'
        rw [Nat.add_zero] at q0 q0'
        cases he : eqD g g'
        · have HF := Lib.hid (eqBy_f hg hg' he)
          have hne := fun w => neq_D w g g'
          rw [he] at hne
          clear hc hc' hg hg' hkl hkl' hup he
          go_wp2_with fail
          go_quiet (fail)
          go_wp2_with fail
          go_ret
          exact ⟨by rw [HF.out]; rfl, (by first | exact ⟨_, rfl⟩ | exact drewN2 _ _ _)⟩
        · have hgg := eqD_eq he
          have HU := Lib.hid (eqUpto_step hup hg hg' he)
          subst hgg
          clear hc hc' hg hg' hkl hkl' hup he
          go_wp2_with fail
          go_quiet (fail)
          go_wp2_with fail
          go_roundw
          case rel => exact ⟨k + 1, by omega, by go_num, HU.out, (by first | exact ⟨_, rfl⟩ | exact drewN2 _ _ _)⟩
          case measure => simp [intOf]; omega
      · obtain rfl : k = n := by omega
        have HF := Lib.hid (eqBy_t (by rw [HL.out, HL'.out]) hup (by rw [HL.out]; exact Nat.le_refl _))
        go_wp2_with fail
        go_ret
        exact ⟨by rw [HF.out]; rfl, dq, rfl⟩
  · have HF := Lib.hid (eqBy_len (f := eqD) (l := l) (l' := l') (by rw [HL.out, HL'.out]; exact hnn))
    have hne : ((n : Int) != (n' : Int)) = true := by rw [bne_iff_ne]; omega
    clear h1 h2 hl hl' hnn
    go_enter Try.func22, Try.ntmps22
    go_wp2
    go_ret
    exact ⟨by rw [HF.out]; rfl, 0, rfl⟩
set_option maxRecDepth 100000 in
set_option maxHeartbeats 2000000 in
theorem EqualMatrix_spec (A A' : Option Addr) (n n' c c' : Nat) (M M' : List (List Dm)) (w : World) (hn : n ≤ 1099511627776) (hz : szM M ≤ 1099511627776) (h1 : RdM w A n M) (h2 : RdM w A' n' M') :
    Calls Try.prog 8 #[.slice A n c, .slice A' n' c'] w fun e w' => e = .returned (.bool (eqBy (eqBy eqD) M M')) ∧ ∃ m, w' = w.drewN m := by
  have HL := Lib.hid h1.len
  have HL' := Lib.hid h2.len
  by_cases hnn : n = n'
  · subst hnn
    have H1 := Lib.hid h1
    have H2 := Lib.hid h2
    clear h1 h2
    go_enter Try.func8, Try.ntmps8
    go_wp2
    go_loopw [5] (fun i wr => ∃ k : Nat, k ≤ n ∧ i = .int .i64 k ∧ EqUpto (eqBy eqD) M M' k ∧ ∃ m, wr = w.drewN m) (fun i _ => n - (intOf i).toNat)
    case atStart => exact ⟨0, Nat.zero_le _, rfl, eqUpto_zero, 0, rfl⟩
    case round =>
      obtain ⟨k, hk, rfl, hup, dq, rfl⟩ := hrel
      by_cases hlt : k < n
      · have hkl : k < M.length := by rw [HL.out]; exact hlt
        have hkl' : k < M'.length := by rw [HL'.out]; exact hlt
        obtain ⟨g, hg⟩ : ∃ g, M[k]? = some g := ⟨_, List.getElem?_eq_getElem hkl⟩
        obtain ⟨g', hg'⟩ : ∃ g, M'[k]? = some g := ⟨_, List.getElem?_eq_getElem hkl'⟩
        obtain ⟨b, off, a, c1, rfl, _, q0, _, _, hrd⟩ := H1.out.at hg
        obtain ⟨b', off', a', c1', rfl, _, q0', _, _, hrd'⟩ := H2.out.at hg'
        have hrl := szM_row hg
        have HR := Lib.hid hrd
        have HR' := Lib.hid hrd'
        have HF : Hid (∀ he : eqBy eqD g g' = false, eqBy (eqBy eqD) M M' = false) := Lib.hid (fun he => eqBy_f hg hg' he)
        have HU : Hid (∀ he : eqBy eqD g g' = true, EqUpto (eqBy eqD) M M' (k + 1)) := Lib.hid (fun he => eqUpto_step hup hg hg' he)
        clear hg hg' hkl hkl' hup hrd hrd'
        have CT : Hid (∀ j, Calls Try.prog 22 #[.slice a g.length c1, .slice a' g'.length c1'] (w.drewN j) fun e w' => e = .returned (.bool (eqBy eqD g g')) ∧ ∃ q, w' = (w.drewN j).drewN q) := Lib.hid (fun j => EqualState_spec _ _ _ _ _ _ g g' _ rfl rfl (by omega) (HR.out.drewN j) (HR'.out.drewN j))
        clear hrl
        cases he : eqBy eqD g g'
        · have HX := Lib.hid (HF.out he)
          rw [he] at CT
          clear he
          go_wp2_with fail
          go_quiet (first | (go_at_call 22; exact quiet_anyAdd (CT.out _)))
          go_wp2_with fail
          go_ret
          exact ⟨by rw [HX.out]; rfl, (by first | exact ⟨_, rfl⟩ | exact drewN2 _ _ _)⟩
        · have HX := Lib.hid (HU.out he)
          rw [he] at CT
          clear he
          go_wp2_with fail
          go_quiet (first | (go_at_call 22; exact quiet_anyAdd (CT.out _)))
          go_wp2_with fail
          go_roundw
          case rel => exact ⟨k + 1, by omega, by go_num, HX.out, (by first | exact ⟨_, rfl⟩ | exact drewN2 _ _ _)⟩
          case measure => simp [intOf]; omega
      · obtain rfl : k = n := by omega
        have HF := Lib.hid (eqBy_t (by rw [HL.out, HL'.out]) hup (by rw [HL.out]; exact Nat.le_refl _))
        go_wp2_with fail
        go_ret
        exact ⟨by rw [HF.out]; rfl, dq, rfl⟩
  · have HF := Lib.hid (eqBy_len (f := eqBy eqD) (l := M) (l' := M') (by rw [HL.out, HL'.out]; exact hnn))
    have hne : ((n : Int) != (n' : Int)) = true := by rw [bne_iff_ne]; omega
    clear h1 h2 hnn
    go_enter Try.func8, Try.ntmps8
    go_wp2
    go_ret
    exact ⟨by rw [HF.out]; rfl, 0, rfl⟩
end Go.Proofs.Ytgjpicekdbemiac
namespace Go.Proofs.Ytgjpicekdbemiac
open Go.RowKit
set_option linter.unusedVariables false
theorem info_BranchE : (Try.prog.info? 26).map (fun i => (i.zero, i.size, i.bytes)) = some (some (.agg #[.int .i64 0, .slice none 0 0]), 2, 32) := by kernel_rfl
end Go.Proofs.Ytgjpicekdbemiac
namespace Go.Proofs.Ytgjpicekdbemiac
open Go.RowKit
set_option linter.unusedVariables false
def dz : Dm := ⟨0, 0, 0, 0, 0⟩
/-- Bit q of i, as the machine reckons it. -/
def bitI (i : Nat) (q : Int) : Int := bits BinOp.and IntKind.i64 ((i : Int) / 2 ^ q.toNat) 1
def sideL (q one : Int) (l : List Dm) : List Dm := l.mapIdx fun i x => if bitI i q = one then x else dz
theorem sideL_len (q one : Int) (l : List Dm) : (sideL q one l).length = l.length := by simp [sideL]
theorem sideL_at (q one : Int) {l : List Dm} {i : Nat} {x : Dm} (h : l[i]? = some x) : (sideL q one l)[i]? = some (if bitI i q = one then x else dz) := by simp [sideL, h]
/-- Has a list an amplitude that is not 0? -/
def nz (l : List Dm) : Bool := l.any fun x => !eqD x dz
theorem nz_snoc (l : List Dm) (x : Dm) : nz (l ++ [x]) = (nz l || !eqD x dz) := by simp [nz]
theorem nz_take {l : List Dm} {t : Nat} {x : Dm} (h : l[t]? = some x) : nz (l.take (t + 1)) = (nz (l.take t) || !eqD x dz) := by rw [List.take_add_one, h]; exact nz_snoc _ _
/-- The first t of P, then zeros. -/
def fillD (P : List Dm) (t n : Nat) : List Dm := P.take t ++ List.replicate (n - t) dz
theorem fillD_zero (P : List Dm) (n : Nat) : fillD P 0 n = List.replicate n dz := by simp [fillD]
theorem fillD_end {P : List Dm} {n : Nat} (h : P.length = n) : fillD P n n = P := by simp [fillD, ← h]
theorem fillD_at {P : List Dm} {t n : Nat} (h : P.length = n) (ht : t < n) : (fillD P t n)[t]? = some dz := by
  have hl : (P.take t).length = t := by rw [List.length_take]; omega
  rw [fillD, List.getElem?_append_right (by omega), hl, Nat.sub_self, List.getElem?_replicate, if_pos (by omega)]
theorem fillD_set {P : List Dm} {t n : Nat} {x : Dm} (h : P.length = n) (hx : P[t]? = some x) : (fillD P t n).set t x = fillD P (t + 1) n := by
  have ht := (List.getElem?_eq_some_iff.1 hx).1
  have hl : (P.take t).length = t := by rw [List.length_take]; omega
  unfold fillD
  rw [List.set_append_right _ _ (by omega), hl, Nat.sub_self, show n - t = (n - (t + 1)) + 1 from by omega, List.replicate_succ, List.set_cons_zero, List.take_add_one, hx]
  simp
theorem fillD_off {P : List Dm} {t n : Nat} (h : P.length = n) (hx : P[t]? = some dz) : fillD P t n = fillD P (t + 1) n := by
  have ht := (List.getElem?_eq_some_iff.1 hx).1
  unfold fillD
  rw [show n - t = (n - (t + 1)) + 1 from by omega, List.replicate_succ, List.take_add_one, hx]
  simp
theorem made_dz (n : Nat) : (madeCells (Value.agg #[.int .i64 0, .int .i64 0, .int .i64 0, .int .i64 0, .int .i64 0]).cells (n * 5)).toList = (List.replicate n dz).flatMap dcells := by
  refine List.ext_getElem? fun j => ?_
  have hL : ((List.replicate n dz).flatMap dcells).length = n * 5 := by rw [flat_length dcells 5 dcells_len]; simp
  by_cases hj : j < n * 5
  · have h1 := flat_at dcells_len (List.replicate n dz) (j / 5) dz (j % 5) (by rw [List.getElem?_replicate, if_pos (by omega)]) (Nat.mod_lt _ (by decide))
    rw [show j / 5 * 5 + j % 5 = j from by omega] at h1
    rw [h1]
    have h5 : j % 5 = 0 ∨ j % 5 = 1 ∨ j % 5 = 2 ∨ j % 5 = 3 ∨ j % 5 = 4 := by omega
    have h2 : (madeCells (Value.agg #[.int .i64 0, .int .i64 0, .int .i64 0, .int .i64 0, .int .i64 0]).cells (n * 5)).toList[j]? = some ((#[Value.int .i64 0, .int .i64 0, .int .i64 0, .int .i64 0, .int .i64 0] : Array Value)[j % 5]!) := by
      simp [madeCells, hj, Value.cells]
    rw [h2]
    rcases h5 with h | h | h | h | h <;> rw [h] <;> rfl
  · rw [List.getElem?_eq_none (by rw [Array.length_toList, size_madeCells]; omega), List.getElem?_eq_none (by rw [hL]; omega)]
theorem neq_D0 (w : World) (a : Dm) : (binOp .neq 47 (.agg #[.int .i64 a.a, .int .i64 a.b, .int .i64 a.c, .int .i64 a.d, .int .i64 a.e]) (.agg #[.int .i64 0, .int .i64 0, .int .i64 0, .int .i64 0, .int .i64 0])).run Try.prog w = .ok (.bool (!eqD a dz)) w := neq_D w a dz
/-- The cells of amplitude i of an owned row. -/
theorem dcell5 {w : World} {base g n cap i T : Nat} {l : List Dm} {x : Dm} (h : w.ownsRow base T 5 (.slice (some ⟨g, 0, none⟩) n cap) n (l.flatMap dcells)) (hx : l[i]? = some x) :
    (w.cell? ⟨g, i * 5, none⟩ = some (.int .i64 x.a) ∧ w.cell? ⟨g, i * 5 + 1, none⟩ = some (.int .i64 x.b) ∧ w.cell? ⟨g, i * 5 + 2, none⟩ = some (.int .i64 x.c) ∧ w.cell? ⟨g, i * 5 + 3, none⟩ = some (.int .i64 x.d) ∧ w.cell? ⟨g, i * 5 + 4, none⟩ = some (.int .i64 x.e)) ∧
    w.frozen? ⟨g, i * 5, none⟩ = false ∧ w.frozen? ⟨g, i * 5 + 1, none⟩ = false ∧ w.frozen? ⟨g, i * 5 + 2, none⟩ = false ∧ w.frozen? ⟨g, i * 5 + 3, none⟩ = false ∧ w.frozen? ⟨g, i * 5 + 4, none⟩ = false := by
  have hlen := h.1
  have hi := (List.getElem?_eq_some_iff.1 hx).1
  have hl : l.length = n := by rw [flat_length dcells 5 dcells_len] at hlen; omega
  have hc := h.cellAt
  have at_ : ∀ j u, (dcells x)[j]? = some u → j < 5 → w.cell? ⟨g, i * 5 + j, none⟩ = some u := fun j u hu hj => by
    rw [hc _ (by omega), flat_at dcells_len l i x j hx hj]
    exact hu
  have hf := h.frozenAt
  exact ⟨⟨at_ 0 _ rfl (by decide), at_ 1 _ rfl (by decide), at_ 2 _ rfl (by decide), at_ 3 _ rfl (by decide), at_ 4 _ rfl (by decide)⟩, hf _, hf _, hf _, hf _, hf _⟩
/-- Storing an amplitude at place i. -/
theorem store5 {w : World} {base g n cap i T : Nat} {l : List Dm} (x : Dm) (h : w.ownsRow base T 5 (.slice (some ⟨g, 0, none⟩) n cap) n (l.flatMap dcells)) :
    (((((w.setCell ⟨g, i * 5, none⟩ (.int .i64 x.a)).setCell ⟨g, i * 5 + 1, none⟩ (.int .i64 x.b)).setCell ⟨g, i * 5 + 1 + 1, none⟩ (.int .i64 x.c)).setCell ⟨g, i * 5 + 1 + 1 + 1, none⟩ (.int .i64 x.d)).setCell ⟨g, i * 5 + 1 + 1 + 1 + 1, none⟩ (.int .i64 x.e)).ownsRow base T 5 (.slice (some ⟨g, 0, none⟩) n cap) n ((l.set i x).flatMap dcells) ∧
    w.grownBy (((((w.setCell ⟨g, i * 5, none⟩ (.int .i64 x.a)).setCell ⟨g, i * 5 + 1, none⟩ (.int .i64 x.b)).setCell ⟨g, i * 5 + 1 + 1, none⟩ (.int .i64 x.c)).setCell ⟨g, i * 5 + 1 + 1 + 1, none⟩ (.int .i64 x.d)).setCell ⟨g, i * 5 + 1 + 1 + 1 + 1, none⟩ (.int .i64 x.e)) (some g) := by
  have s0 := h.stored (i * 5) (.int .i64 x.a)
  have s1 := s0.1.stored (i * 5 + 1) (.int .i64 x.b)
  have s2 := s1.1.stored (i * 5 + 1 + 1) (.int .i64 x.c)
  have s3 := s2.1.stored (i * 5 + 1 + 1 + 1) (.int .i64 x.d)
  have s4 := s3.1.stored (i * 5 + 1 + 1 + 1 + 1) (.int .i64 x.e)
  rw [flat_set5] at s4
  exact ⟨s4.1, (((s0.2.trans s1.2).trans s2.2).trans s3.2).trans s4.2⟩
/-- A state of its own, and whether it has something. -/
def RetSide (w : World) (n : Nat) (l : List Dm) (b : Bool) (e : Ending) (w' : World) : Prop :=
  ∃ A c, e = .returned (.tuple #[.slice A n c, .bool b]) ∧ w'.ownsRow w.heap.size 47 5 (.slice A n c) n (l.flatMap dcells) ∧ Below w.heap.size w w' ∧ w.heap.size ≤ w'.heap.size
set_option maxRecDepth 100000 in
set_option maxHeartbeats 4000000 in
theorem l23Side_any (A : Option Addr) (n c : Nat) (l : List Dm) (q one : Int) (w : World) (h : Rd w 5 A n (l.flatMap dcells)) (hl : l.length = n) (hn : n ≤ 1099511627776) (hq0 : 0 ≤ q) (hq : q ≤ 3) :
    Calls Try.prog 48 #[.slice A n c, .int .i64 q, .int .i64 one] w (RetSide w n (sideL q one l) (nz (sideL q one l))) := by
  obtain ⟨i0, hi, hz0, hz1, hz2⟩ := info_parts info_DOmegaE
  obtain ⟨w1, hrun, hown, hgr0⟩ := run_make_full (P := Try.prog) w w.heap.size 38 47 i0 _ 5 Try.underlying38 hi hz0 hz1 .i64 .i64 n (by rw [hz2]; omega) (by simp only [maxLen]; omega) (Nat.le_refl _)
  rw [made_dz, ← fillD_zero (sideL q one l)] at hown
  have H := Lib.hid h
  have HL := Lib.hid hl
  have HP := Lib.hid (show (sideL q one l).length = n by rw [sideL_len]; exact hl)
  clear h hl hi hz0 hz1 hz2
  have b1 : Below w.heap.size w w1 := (Below.refl _ _).grown hgr0 (Nat.le_refl _) (by simp)
  clear hgr0
  go_enter Try.func48, Try.ntmps48
  go_wp2_with fail
  clear hrun
  go_loopw [9, 10] (fun s i wr => ∃ t : Nat, t ≤ n ∧ i = .int .i64 t ∧ s = .bool (nz ((sideL q one l).take t)) ∧ wr.ownsRow w.heap.size 47 5 (.slice (some ⟨w.heap.size, 0, none⟩) n n) n ((fillD (sideL q one l) t n).flatMap dcells) ∧ Below w.heap.size w wr) (fun _ i _ => n - (intOf i).toNat)
  case atStart => exact ⟨0, Nat.zero_le _, rfl, rfl, hown, b1⟩
  case round =>
    clear hown b1
    obtain ⟨t, ht, rfl, rfl, hown, hb⟩ := hrel
    have hbs := hb.size
    by_cases hlt : t < n
    · have htl : t < l.length := by rw [HL.out]; exact hlt
      obtain ⟨g, hg⟩ : ∃ g, l[t]? = some g := ⟨_, List.getElem?_eq_getElem htl⟩
      obtain ⟨b, off, rfl, hbl, hc⟩ := H.out.2 (by omega)
      have q0 : wr.cell? ⟨b, off + t * 5, none⟩ = some (.int .i64 g.a) := (hb.cell (by exact hbl)).trans (hc (t * 5 + 0) _ (flat_at dcells_len l t g 0 hg (by decide)))
      have q1 : wr.cell? ⟨b, off + t * 5 + 1, none⟩ = some (.int .i64 g.b) := (hb.cell (by exact hbl)).trans (by rw [Nat.add_assoc]; exact hc (t * 5 + 1) _ (flat_at dcells_len l t g 1 hg (by decide)))
      have q2 : wr.cell? ⟨b, off + t * 5 + 2, none⟩ = some (.int .i64 g.c) := (hb.cell (by exact hbl)).trans (by rw [Nat.add_assoc]; exact hc (t * 5 + 2) _ (flat_at dcells_len l t g 2 hg (by decide)))
      have q3 : wr.cell? ⟨b, off + t * 5 + 3, none⟩ = some (.int .i64 g.d) := (hb.cell (by exact hbl)).trans (by rw [Nat.add_assoc]; exact hc (t * 5 + 3) _ (flat_at dcells_len l t g 3 hg (by decide)))
      have q4 : wr.cell? ⟨b, off + t * 5 + 4, none⟩ = some (.int .i64 g.e) := (hb.cell (by exact hbl)).trans (by rw [Nat.add_assoc]; exact hc (t * 5 + 4) _ (flat_at dcells_len l t g 4 hg (by decide)))
      have hne : b ≠ w.heap.size := by omega
      obtain ⟨⟨z0, z1, z2, z3, z4⟩, f0, f1, f2, f3, f4⟩ := dcell5 hown (fillD_at HP.out hlt)
      have HS := Lib.hid (sideL_at q one hg)
      have HN : Hid (∀ x : Dm, (sideL q one l)[t]? = some x → nz ((sideL q one l).take (t + 1)) = (nz ((sideL q one l).take t) || !eqD x dz)) := Lib.hid (fun x h => nz_take h)
      obtain ⟨Z, hZ⟩ : ∃ Z, Z = nz ((sideL q one l).take t) := ⟨_, rfl⟩
      rw [← hZ] at HN ⊢
      clear hZ hc hg htl hbl
      by_cases hbit : bitI t q = one
      · have hb1 : (bits BinOp.and IntKind.i64 ((t : Int) / 2 ^ q.toNat) 1 == one) = true := by simpa [bitI] using hbit
        have HB := Lib.hid hbit
        have hne0 := fun w => neq_D0 w g
        clear hbit
        cases Z
        · go_wp2_with fail
          go_roundw
          case rel =>
            have hs := HS.out
            rw [if_pos HB.out] at hs
            have s := store5 (i := t) g hown
            rw [fillD_set HP.out hs] at s
            exact ⟨t + 1, by omega, by go_num, by rw [HN.out _ hs]; rfl, s.1, hb.grown s.2 (by omega) (by simp)⟩
          case measure => simp [intOf]; omega
        · go_wp2_with fail
          go_roundw
          case rel =>
            have hs := HS.out
            rw [if_pos HB.out] at hs
            have s := store5 (i := t) g hown
            rw [fillD_set HP.out hs] at s
            exact ⟨t + 1, by omega, by go_num, by rw [HN.out _ hs]; rfl, s.1, hb.grown s.2 (by omega) (by simp)⟩
          case measure => simp [intOf]; omega
      · have hb1 : (bits BinOp.and IntKind.i64 ((t : Int) / 2 ^ q.toNat) 1 == one) = false := by simpa [bitI] using hbit
        have HB := Lib.hid hbit
        clear hbit
        go_wp2_with fail
        go_roundw
        case rel =>
          have hs := HS.out
          rw [if_neg HB.out] at hs
          rw [fillD_off HP.out hs] at hown
          exact ⟨t + 1, by omega, by go_num, by rw [HN.out _ hs]; simp [eqD_refl], hown, hb⟩
        case measure => simp [intOf]; omega
    · obtain rfl : t = n := by omega
      go_wp2_with fail
      go_ret2
      rw [fillD_end HP.out] at hown
      exact ⟨_, _, by rw [List.take_of_length_le (by rw [HP.out]; exact Nat.le_refl _)]; rfl, hown, hb, hb.size⟩
end Go.Proofs.Ytgjpicekdbemiac
