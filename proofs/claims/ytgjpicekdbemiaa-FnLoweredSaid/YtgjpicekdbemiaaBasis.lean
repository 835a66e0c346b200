/- The basis states: the program's function and the reference's return the same. -/
import Derived.Test.YtgjpicekdbemiaaMatS
import Derived.Test.YtgjpicekdbemiaaIn
namespace Go.Proofs.Ytgjpicekdbemiaa
open Go.RowKit
set_option linter.unusedVariables false
def bst (m i : Nat) : List Dm := (List.replicate m (⟨0, 0, 0, 0, 0⟩ : Dm)).set i ⟨1, 0, 0, 0, 0⟩
theorem bst_len (m i : Nat) : (bst m i).length = m := by simp [bst]
theorem flat_set5 : ∀ (L : List Dm) (i : Nat) (a b c d e : Int), (((((L.flatMap dcells).set (i * 5) (.int .i64 a)).set (i * 5 + 1) (.int .i64 b)).set (i * 5 + 1 + 1) (.int .i64 c)).set (i * 5 + 1 + 1 + 1) (.int .i64 d)).set (i * 5 + 1 + 1 + 1 + 1) (.int .i64 e) = (L.set i ⟨a, b, c, d, e⟩).flatMap dcells
  | [], i, a, b, c, d, e => by simp
  | x :: L, 0, a, b, c, d, e => by simp [dcells]
  | x :: L, i + 1, a, b, c, d, e => by
    have ih := flat_set5 L i a b c d e
    simp only [List.flatMap_cons, List.set_cons_succ, ← ih]
    rw [show (i + 1) * 5 = i * 5 + 1 + 1 + 1 + 1 + 1 from by omega]
    simp [dcells]
set_option maxRecDepth 100000 in
theorem OneDOmega_spec (w : World) : Calls Try.prog 38 #[] w fun e w' => e = .returned (.agg #[.int .i64 1, .int .i64 0, .int .i64 0, .int .i64 0, .int .i64 0]) ∧ Below w.heap.size w w' ∧ w.heap.size ≤ w'.heap.size := by
  go_enter Try.func38, Try.ntmps38
  go_wp2
  exact bodyPost_ret (v := .agg #[.int .i64 1, .int .i64 0, .int .i64 0, .int .i64 0, .int .i64 0]) (by simp [results, Try.results38, go_sem]) rfl ⟨rfl, (by repeat (first | exact Below.refl _ _ | assumption | (refine Below.trans ?_ (Below.mono (by assumption) (by first | omega | (simp; done) | (simp; omega)))) | (with_reducible refine Below.drew ?_) | (with_reducible refine Below.alloc ?_ (by first | omega | (simp; done) | (simp; omega)) _) | (with_reducible refine Below.setCell ?_ (by first | omega | (simp; done) | (simp; omega)) _))), (by first | omega | (simp; done) | (simp; omega))⟩
set_option maxRecDepth 100000 in
set_option maxHeartbeats 1000000 in
theorem BasisState_spec_1 (i : Nat) (w : World) (hi : i < 2) : Calls Try.prog 21 #[.int .i64 1, .int .i64 i] w (RetRow 67 5 w 2 ((bst 2 i).flatMap dcells)) := by
  obtain ⟨i0, hi0, hz0, hz1, hz2⟩ := info_parts info_DOmegaE
  obtain ⟨w1, hrun, hown, hgr0⟩ := run_make_full (P := Try.prog) w w.heap.size 47 67 i0 _ 5 Try.underlying47 hi0 hz0 hz1 .i64 .i64 2 (by rw [hz2]; decide) (by simp only [maxLen]; omega) (Nat.le_refl _)
  have b1 : Below w.heap.size w w1 := (Below.refl _ _).grown hgr0 (Nat.le_refl _) (by simp)
  rw [show (madeCells (Value.agg #[.int .i64 0, .int .i64 0, .int .i64 0, .int .i64 0, .int .i64 0]).cells (2 * 5)).toList = (List.replicate 2 (⟨0, 0, 0, 0, 0⟩ : Dm)).flatMap dcells by kernel_rfl] at hown
  clear hi0 hz0 hz1 hz2 hgr0
  change Sem.run Try.prog (Instr.makeSlice 47 (.int .i64 2) (.int .i64 2)) w = _ at hrun
  have hin1 : inB 1 1 4 = true := by decide
  have hin2 : inB (i : Int) 0 1 = true := inB_iff.2 (by omega)
  go_enter Try.func21, Try.ntmps21
  go_wp2_with (go_at_call 17; refine (l1In_any _ _ _ _).mono ?_; rintro e w' ⟨rfl, rfl⟩)
  refine (OneDOmega_spec _).mono ?_
  rintro e w2 ⟨rfl, hb2, hs2⟩
  clear hrun
  have hown2 := ownsRow_below hown hb2
  have hf := hown2.frozenAt
  have hz := hown2.cellAt
  have hll := hown2.1
  obtain ⟨y0, z0⟩ : ∃ y, w2.cell? ⟨w.heap.size, i * 5, none⟩ = some y := ⟨_, (hz _ (by omega)).trans (List.getElem?_eq_getElem (by omega))⟩
  obtain ⟨y1, z1⟩ : ∃ y, w2.cell? ⟨w.heap.size, i * 5 + 1, none⟩ = some y := ⟨_, (hz _ (by omega)).trans (List.getElem?_eq_getElem (by omega))⟩
  obtain ⟨y2, z2⟩ : ∃ y, w2.cell? ⟨w.heap.size, i * 5 + 2, none⟩ = some y := ⟨_, (hz _ (by omega)).trans (List.getElem?_eq_getElem (by omega))⟩
  obtain ⟨y3, z3⟩ : ∃ y, w2.cell? ⟨w.heap.size, i * 5 + 3, none⟩ = some y := ⟨_, (hz _ (by omega)).trans (List.getElem?_eq_getElem (by omega))⟩
  obtain ⟨y4, z4⟩ : ∃ y, w2.cell? ⟨w.heap.size, i * 5 + 4, none⟩ = some y := ⟨_, (hz _ (by omega)).trans (List.getElem?_eq_getElem (by omega))⟩
  have f0 := hf (i * 5)
  have f1 := hf (i * 5 + 1)
  have f2 := hf (i * 5 + 2)
  have f3 := hf (i * 5 + 3)
  have f4 := hf (i * 5 + 4)
  clear hf hz hll hown
  go_wp2_with fail
  go_ret
  have s0 := hown2.stored (i * 5) (.int .i64 1)
  have s1 := s0.1.stored (i * 5 + 1) (.int .i64 0)
  have s2 := s1.1.stored (i * 5 + 1 + 1) (.int .i64 0)
  have s3 := s2.1.stored (i * 5 + 1 + 1 + 1) (.int .i64 0)
  have s4 := s3.1.stored (i * 5 + 1 + 1 + 1 + 1) (.int .i64 0)
  rw [flat_set5] at s4
  exact ⟨_, rfl, s4.1, ((((((b1.trans (hb2.mono b1.size)).grown s0.2 (by have := b1.size; have := hb2.size; simp; omega) (by simp)).grown s1.2 (by have := b1.size; have := hb2.size; simp; omega) (by simp)).grown s2.2 (by have := b1.size; have := hb2.size; simp; omega) (by simp)).grown s3.2 (by have := b1.size; have := hb2.size; simp; omega) (by simp)).grown s4.2 (by have := b1.size; have := hb2.size; simp; omega) (by simp)), by have := b1.size; have := hb2.size; simp [World.setCell]; omega⟩
set_option maxRecDepth 100000 in
set_option maxHeartbeats 1000000 in
theorem BasisState_spec_2 (i : Nat) (w : World) (hi : i < 4) : Calls Try.prog 21 #[.int .i64 2, .int .i64 i] w (RetRow 67 5 w 4 ((bst 4 i).flatMap dcells)) := by
  obtain ⟨i0, hi0, hz0, hz1, hz2⟩ := info_parts info_DOmegaE
  obtain ⟨w1, hrun, hown, hgr0⟩ := run_make_full (P := Try.prog) w w.heap.size 47 67 i0 _ 5 Try.underlying47 hi0 hz0 hz1 .i64 .i64 4 (by rw [hz2]; decide) (by simp only [maxLen]; omega) (Nat.le_refl _)
  have b1 : Below w.heap.size w w1 := (Below.refl _ _).grown hgr0 (Nat.le_refl _) (by simp)
  rw [show (madeCells (Value.agg #[.int .i64 0, .int .i64 0, .int .i64 0, .int .i64 0, .int .i64 0]).cells (4 * 5)).toList = (List.replicate 4 (⟨0, 0, 0, 0, 0⟩ : Dm)).flatMap dcells by kernel_rfl] at hown
  clear hi0 hz0 hz1 hz2 hgr0
  change Sem.run Try.prog (Instr.makeSlice 47 (.int .i64 4) (.int .i64 4)) w = _ at hrun
  have hin1 : inB 2 1 4 = true := by decide
  have hin2 : inB (i : Int) 0 3 = true := inB_iff.2 (by omega)
  go_enter Try.func21, Try.ntmps21
  go_wp2_with (go_at_call 17; refine (l1In_any _ _ _ _).mono ?_; rintro e w' ⟨rfl, rfl⟩)
  refine (OneDOmega_spec _).mono ?_
  rintro e w2 ⟨rfl, hb2, hs2⟩
  clear hrun
  have hown2 := ownsRow_below hown hb2
  have hf := hown2.frozenAt
  have hz := hown2.cellAt
  have hll := hown2.1
  obtain ⟨y0, z0⟩ : ∃ y, w2.cell? ⟨w.heap.size, i * 5, none⟩ = some y := ⟨_, (hz _ (by omega)).trans (List.getElem?_eq_getElem (by omega))⟩
  obtain ⟨y1, z1⟩ : ∃ y, w2.cell? ⟨w.heap.size, i * 5 + 1, none⟩ = some y := ⟨_, (hz _ (by omega)).trans (List.getElem?_eq_getElem (by omega))⟩
  obtain ⟨y2, z2⟩ : ∃ y, w2.cell? ⟨w.heap.size, i * 5 + 2, none⟩ = some y := ⟨_, (hz _ (by omega)).trans (List.getElem?_eq_getElem (by omega))⟩
  obtain ⟨y3, z3⟩ : ∃ y, w2.cell? ⟨w.heap.size, i * 5 + 3, none⟩ = some y := ⟨_, (hz _ (by omega)).trans (List.getElem?_eq_getElem (by omega))⟩
  obtain ⟨y4, z4⟩ : ∃ y, w2.cell? ⟨w.heap.size, i * 5 + 4, none⟩ = some y := ⟨_, (hz _ (by omega)).trans (List.getElem?_eq_getElem (by omega))⟩
  have f0 := hf (i * 5)
  have f1 := hf (i * 5 + 1)
  have f2 := hf (i * 5 + 2)
  have f3 := hf (i * 5 + 3)
  have f4 := hf (i * 5 + 4)
  clear hf hz hll hown
  go_wp2_with fail
  go_ret
  have s0 := hown2.stored (i * 5) (.int .i64 1)
  have s1 := s0.1.stored (i * 5 + 1) (.int .i64 0)
  have s2 := s1.1.stored (i * 5 + 1 + 1) (.int .i64 0)
  have s3 := s2.1.stored (i * 5 + 1 + 1 + 1) (.int .i64 0)
  have s4 := s3.1.stored (i * 5 + 1 + 1 + 1 + 1) (.int .i64 0)
  rw [flat_set5] at s4
  exact ⟨_, rfl, s4.1, ((((((b1.trans (hb2.mono b1.size)).grown s0.2 (by have := b1.size; have := hb2.size; simp; omega) (by simp)).grown s1.2 (by have := b1.size; have := hb2.size; simp; omega) (by simp)).grown s2.2 (by have := b1.size; have := hb2.size; simp; omega) (by simp)).grown s3.2 (by have := b1.size; have := hb2.size; simp; omega) (by simp)).grown s4.2 (by have := b1.size; have := hb2.size; simp; omega) (by simp)), by have := b1.size; have := hb2.size; simp [World.setCell]; omega⟩
set_option maxRecDepth 100000 in
set_option maxHeartbeats 1000000 in
theorem BasisState_spec_3 (i : Nat) (w : World) (hi : i < 8) : Calls Try.prog 21 #[.int .i64 3, .int .i64 i] w (RetRow 67 5 w 8 ((bst 8 i).flatMap dcells)) := by
  obtain ⟨i0, hi0, hz0, hz1, hz2⟩ := info_parts info_DOmegaE
  obtain ⟨w1, hrun, hown, hgr0⟩ := run_make_full (P := Try.prog) w w.heap.size 47 67 i0 _ 5 Try.underlying47 hi0 hz0 hz1 .i64 .i64 8 (by rw [hz2]; decide) (by simp only [maxLen]; omega) (Nat.le_refl _)
  have b1 : Below w.heap.size w w1 := (Below.refl _ _).grown hgr0 (Nat.le_refl _) (by simp)
  rw [show (madeCells (Value.agg #[.int .i64 0, .int .i64 0, .int .i64 0, .int .i64 0, .int .i64 0]).cells (8 * 5)).toList = (List.replicate 8 (⟨0, 0, 0, 0, 0⟩ : Dm)).flatMap dcells by kernel_rfl] at hown
  clear hi0 hz0 hz1 hz2 hgr0
  change Sem.run Try.prog (Instr.makeSlice 47 (.int .i64 8) (.int .i64 8)) w = _ at hrun
  have hin1 : inB 3 1 4 = true := by decide
  have hin2 : inB (i : Int) 0 7 = true := inB_iff.2 (by omega)
  go_enter Try.func21, Try.ntmps21
  go_wp2_with (go_at_call 17; refine (l1In_any _ _ _ _).mono ?_; rintro e w' ⟨rfl, rfl⟩)
  refine (OneDOmega_spec _).mono ?_
  rintro e w2 ⟨rfl, hb2, hs2⟩
  clear hrun
  have hown2 := ownsRow_below hown hb2
  have hf := hown2.frozenAt
  have hz := hown2.cellAt
  have hll := hown2.1
  obtain ⟨y0, z0⟩ : ∃ y, w2.cell? ⟨w.heap.size, i * 5, none⟩ = some y := ⟨_, (hz _ (by omega)).trans (List.getElem?_eq_getElem (by omega))⟩
  obtain ⟨y1, z1⟩ : ∃ y, w2.cell? ⟨w.heap.size, i * 5 + 1, none⟩ = some y := ⟨_, (hz _ (by omega)).trans (List.getElem?_eq_getElem (by omega))⟩
  obtain ⟨y2, z2⟩ : ∃ y, w2.cell? ⟨w.heap.size, i * 5 + 2, none⟩ = some y := ⟨_, (hz _ (by omega)).trans (List.getElem?_eq_getElem (by omega))⟩
  obtain ⟨y3, z3⟩ : ∃ y, w2.cell? ⟨w.heap.size, i * 5 + 3, none⟩ = some y := ⟨_, (hz _ (by omega)).trans (List.getElem?_eq_getElem (by omega))⟩
  obtain ⟨y4, z4⟩ : ∃ y, w2.cell? ⟨w.heap.size, i * 5 + 4, none⟩ = some y := ⟨_, (hz _ (by omega)).trans (List.getElem?_eq_getElem (by omega))⟩
  have f0 := hf (i * 5)
  have f1 := hf (i * 5 + 1)
  have f2 := hf (i * 5 + 2)
  have f3 := hf (i * 5 + 3)
  have f4 := hf (i * 5 + 4)
  clear hf hz hll hown
  go_wp2_with fail
  go_ret
  have s0 := hown2.stored (i * 5) (.int .i64 1)
  have s1 := s0.1.stored (i * 5 + 1) (.int .i64 0)
  have s2 := s1.1.stored (i * 5 + 1 + 1) (.int .i64 0)
  have s3 := s2.1.stored (i * 5 + 1 + 1 + 1) (.int .i64 0)
  have s4 := s3.1.stored (i * 5 + 1 + 1 + 1 + 1) (.int .i64 0)
  rw [flat_set5] at s4
  exact ⟨_, rfl, s4.1, ((((((b1.trans (hb2.mono b1.size)).grown s0.2 (by have := b1.size; have := hb2.size; simp; omega) (by simp)).grown s1.2 (by have := b1.size; have := hb2.size; simp; omega) (by simp)).grown s2.2 (by have := b1.size; have := hb2.size; simp; omega) (by simp)).grown s3.2 (by have := b1.size; have := hb2.size; simp; omega) (by simp)).grown s4.2 (by have := b1.size; have := hb2.size; simp; omega) (by simp)), by have := b1.size; have := hb2.size; simp [World.setCell]; omega⟩
set_option maxRecDepth 100000 in
set_option maxHeartbeats 1000000 in
theorem BasisState_spec_4 (i : Nat) (w : World) (hi : i < 16) : Calls Try.prog 21 #[.int .i64 4, .int .i64 i] w (RetRow 67 5 w 16 ((bst 16 i).flatMap dcells)) := by
  obtain ⟨i0, hi0, hz0, hz1, hz2⟩ := info_parts info_DOmegaE
  obtain ⟨w1, hrun, hown, hgr0⟩ := run_make_full (P := Try.prog) w w.heap.size 47 67 i0 _ 5 Try.underlying47 hi0 hz0 hz1 .i64 .i64 16 (by rw [hz2]; decide) (by simp only [maxLen]; omega) (Nat.le_refl _)
  have b1 : Below w.heap.size w w1 := (Below.refl _ _).grown hgr0 (Nat.le_refl _) (by simp)
  rw [show (madeCells (Value.agg #[.int .i64 0, .int .i64 0, .int .i64 0, .int .i64 0, .int .i64 0]).cells (16 * 5)).toList = (List.replicate 16 (⟨0, 0, 0, 0, 0⟩ : Dm)).flatMap dcells by kernel_rfl] at hown
  clear hi0 hz0 hz1 hz2 hgr0
  change Sem.run Try.prog (Instr.makeSlice 47 (.int .i64 16) (.int .i64 16)) w = _ at hrun
  have hin1 : inB 4 1 4 = true := by decide
  have hin2 : inB (i : Int) 0 15 = true := inB_iff.2 (by omega)
  go_enter Try.func21, Try.ntmps21
  go_wp2_with (go_at_call 17; refine (l1In_any _ _ _ _).mono ?_; rintro e w' ⟨rfl, rfl⟩)
  refine (OneDOmega_spec _).mono ?_
  rintro e w2 ⟨rfl, hb2, hs2⟩
  clear hrun
  have hown2 := ownsRow_below hown hb2
  have hf := hown2.frozenAt
  have hz := hown2.cellAt
  have hll := hown2.1
  obtain ⟨y0, z0⟩ : ∃ y, w2.cell? ⟨w.heap.size, i * 5, none⟩ = some y := ⟨_, (hz _ (by omega)).trans (List.getElem?_eq_getElem (by omega))⟩
  obtain ⟨y1, z1⟩ : ∃ y, w2.cell? ⟨w.heap.size, i * 5 + 1, none⟩ = some y := ⟨_, (hz _ (by omega)).trans (List.getElem?_eq_getElem (by omega))⟩
  obtain ⟨y2, z2⟩ : ∃ y, w2.cell? ⟨w.heap.size, i * 5 + 2, none⟩ = some y := ⟨_, (hz _ (by omega)).trans (List.getElem?_eq_getElem (by omega))⟩
  obtain ⟨y3, z3⟩ : ∃ y, w2.cell? ⟨w.heap.size, i * 5 + 3, none⟩ = some y := ⟨_, (hz _ (by omega)).trans (List.getElem?_eq_getElem (by omega))⟩
  obtain ⟨y4, z4⟩ : ∃ y, w2.cell? ⟨w.heap.size, i * 5 + 4, none⟩ = some y := ⟨_, (hz _ (by omega)).trans (List.getElem?_eq_getElem (by omega))⟩
  have f0 := hf (i * 5)
  have f1 := hf (i * 5 + 1)
  have f2 := hf (i * 5 + 2)
  have f3 := hf (i * 5 + 3)
  have f4 := hf (i * 5 + 4)
  clear hf hz hll hown
  go_wp2_with fail
  go_ret
  have s0 := hown2.stored (i * 5) (.int .i64 1)
  have s1 := s0.1.stored (i * 5 + 1) (.int .i64 0)
  have s2 := s1.1.stored (i * 5 + 1 + 1) (.int .i64 0)
  have s3 := s2.1.stored (i * 5 + 1 + 1 + 1) (.int .i64 0)
  have s4 := s3.1.stored (i * 5 + 1 + 1 + 1 + 1) (.int .i64 0)
  rw [flat_set5] at s4
  exact ⟨_, rfl, s4.1, ((((((b1.trans (hb2.mono b1.size)).grown s0.2 (by have := b1.size; have := hb2.size; simp; omega) (by simp)).grown s1.2 (by have := b1.size; have := hb2.size; simp; omega) (by simp)).grown s2.2 (by have := b1.size; have := hb2.size; simp; omega) (by simp)).grown s3.2 (by have := b1.size; have := hb2.size; simp; omega) (by simp)).grown s4.2 (by have := b1.size; have := hb2.size; simp; omega) (by simp)), by have := b1.size; have := hb2.size; simp [World.setCell]; omega⟩
theorem BasisState_spec (n : Int) (i : Nat) (w : World) (h1 : 1 ≤ n) (h4 : n ≤ 4) (hi : i < 2 ^ n.toNat) : Calls Try.prog 21 #[.int .i64 n, .int .i64 i] w (RetRow 67 5 w (bst (2 ^ n.toNat) i).length ((bst (2 ^ n.toNat) i).flatMap dcells)) := by
  have hn : n = 1 ∨ n = 2 ∨ n = 3 ∨ n = 4 := by omega
  rw [bst_len]
  rcases hn with rfl | rfl | rfl | rfl
  · exact BasisState_spec_1 i w hi
  · exact BasisState_spec_2 i w hi
  · exact BasisState_spec_3 i w hi
  · exact BasisState_spec_4 i w hi
end Go.Proofs.Ytgjpicekdbemiaa
