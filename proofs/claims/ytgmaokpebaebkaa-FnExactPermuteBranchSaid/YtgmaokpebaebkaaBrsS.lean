/- Contracts of the laws' loops over lists of branches: the size, copying, comparing equal ones, marking, reading the marks back. -/
import Derived.Test.YtgmaokpebaebkaaBrs
namespace Go.Proofs.Ytgmaokpebaebkaa
open Go.RowKit
set_option linter.unusedVariables false
theorem info_BranchE : (Try.prog.info? 37).map (fun i => (i.zero, i.size, i.bytes)) = some (some (.agg #[.int .i64 0, .slice none 0 0]), 2, 32) := by kernel_rfl
theorem szV_neg {left : Int} {M : List (List Dm)} (h : left - (M.length + szM M) < 0) : szV left M = -1 := by unfold szV; rw [if_pos h]
theorem szV_pos {left : Int} {M : List (List Dm)} (h : ¬ left - (M.length + szM M) < 0) : szV left M = left - (M.length + szM M) := by unfold szV; rw [if_neg h]
set_option maxRecDepth 100000 in
set_option maxHeartbeats 1000000 in
theorem szBranch_any (b : Int) (A : Option Addr) (n c : Nat) (M : List (List Dm)) (left : Int) (w : World) (h : RdM w A n M) (hn : n ≤ 9223372036854775807) (h0 : 0 ≤ left) (h1 : left ≤ 1099511627776) :
    Calls Try.prog 11 #[.agg #[.int .i64 b, .slice A n c], .int .i64 left] w fun e w' => e = .returned (.int .i64 (szV left M)) ∧ Below w.heap.size w w' ∧ w.heap.size ≤ w'.heap.size := by
  have b0 : Below w.heap.size w (w.alloc (.cells #[.int .i64 b, .slice A n c] 32)) := (by repeat (first | exact Below.refl _ _ | assumption | (refine Below.trans ?_ (Below.mono (by assumption) (by first | omega | (simp; done) | (simp; omega)))) | (with_reducible refine Below.drew ?_) | (with_reducible refine Below.alloc ?_ (by first | omega | (simp; done) | (simp; omega)) _) | (with_reducible refine Below.setCell ?_ (by first | omega | (simp; done) | (simp; omega)) _)))
  have H := Lib.hid (h.below b0)
  have B0 := Lib.hid b0
  clear h b0
  by_cases hs : left - (M.length + szM M) < 0
  · have HF := Lib.hid (szV_neg hs)
    go_enter Try.func11, Try.ntmps11
    go_wp2_with fail
    refine (szDOmegaSS_any _ _ _ M _ _ H.out hn h0 h1).mono ?_
    rintro e w1 ⟨rfl, rfl⟩
    rw [HF.out]
    go_wp2_with fail
    go_ret
    exact ⟨by rw [HF.out]; rfl, B0.out, (by first | omega | (simp; done) | (simp; omega))⟩
  · have HF := Lib.hid (szV_pos hs)
    obtain ⟨z, hz⟩ : ∃ z : Int, z = left - (M.length + szM M) := ⟨_, rfl⟩
    rw [← hz] at HF hs
    clear hz
    go_enter Try.func11, Try.ntmps11
    go_wp2_with fail
    refine (szDOmegaSS_any _ _ _ M _ _ H.out hn h0 h1).mono ?_
    rintro e w1 ⟨rfl, rfl⟩
    rw [HF.out]
    go_wp2_with fail
    go_ret
    exact ⟨by rw [HF.out]; rfl, B0.out, (by first | omega | (simp; done) | (simp; omega))⟩
def szBV (left : Int) (L : List Br) : Int := if left - (L.length + szB L) < 0 then -1 else left - (L.length + szB L)
theorem szBV_neg {left : Int} {L : List Br} (h : left - (L.length + szB L) < 0) : szBV left L = -1 := by unfold szBV; rw [if_pos h]
theorem szBV_pos {left : Int} {L : List Br} (h : ¬ left - (L.length + szB L) < 0) : szBV left L = left - (L.length + szB L) := by unfold szBV; rw [if_neg h]
set_option maxRecDepth 100000 in
set_option maxHeartbeats 2000000 in
theorem toBranch_any (b : Int) (A : Option Addr) (n c : Nat) (M : List (List Dm)) (w : World) (h : RdM w A n M) (hn : n ≤ 1099511627776) (hs : szM M ≤ 1099511627776) :
    Calls Try.prog 13 #[.agg #[.int .i64 b, .slice A n c]] w (RetBr w b n M) := by
  obtain ⟨w0, hw0⟩ : ∃ w0, w0 = ((w.alloc (.cells #[.int .i64 b, .slice A n c] 32)).alloc (.cells #[.int .i64 0, .slice none 0 0] 37)).alloc (.cells #[.int .i64 b, .slice none 0 0] 37) := ⟨_, rfl⟩
  have X1 := Lib.hid (show w0.heap[w.heap.size + 1]? = some (.cells #[.int .i64 0, .slice none 0 0] 37 (0, 0)) by rw [hw0]; exact boxed3_1 _ _ _ _)
  have X2 := Lib.hid (show w0.heap[w.heap.size + 2]? = some (.cells #[.int .i64 b, .slice none 0 0] 37 (0, 0)) by rw [hw0]; exact boxed3_2 _ _ _ _)
  have b0 : Below w.heap.size w w0 := by rw [hw0]; exact (by repeat (first | exact Below.refl _ _ | assumption | (refine Below.trans ?_ (Below.mono (by assumption) (by first | omega | (simp; done) | (simp; omega)))) | (with_reducible refine Below.drew ?_) | (with_reducible refine Below.alloc ?_ (by first | omega | (simp; done) | (simp; omega)) _) | (with_reducible refine Below.setCell ?_ (by first | omega | (simp; done) | (simp; omega)) _)))
  have s0 : w.heap.size + 3 = w0.heap.size := by rw [hw0]; simp
  have S0 := Lib.hid s0
  have B0 := Lib.hid b0
  have H := Lib.hid (h.below b0)
  have HW := Lib.hid hw0
  clear h b0 s0 hw0
  go_enter Try.func13, Try.ntmps13
  go_wp2_with fail
  rw [← HW.out]
  refine (toDOmegaSS_any _ _ _ M _ H.out hn hs).mono ?_
  rintro e w1 ⟨v, F, rfl, own, b1, s1⟩
  have hs0 := S0.out
  obtain ⟨A2, c2, rfl, _, _, _⟩ := own.rd
  have x1 := (b1.block (w.heap.size + 1) (by omega)).trans X1.out
  have x2 := (b1.block (w.heap.size + 2) (by omega)).trans X2.out
  have q0 : w1.cell? ⟨w.heap.size + 1, 0, none⟩ = some (.int .i64 0) := cell_at (j := 0) x1 rfl
  have q1 : w1.cell? ⟨w.heap.size + 1, 1, none⟩ = some (.slice none 0 0) := cell_at (j := 1) x1 rfl
  have p0 : w1.cell? ⟨w.heap.size + 2, 0, none⟩ = some (.int .i64 b) := cell_at (j := 0) x2 rfl
  have p1 : w1.cell? ⟨w.heap.size + 2, 1, none⟩ = some (.slice none 0 0) := cell_at (j := 1) x2 rfl
  have f0 : w1.frozen? ⟨w.heap.size + 1, 0, none⟩ = false := by simp [World.frozen?, x1]
  have f1 : w1.frozen? ⟨w.heap.size + 1, 1, none⟩ = false := by simp [World.frozen?, x1]
  have g1 : w1.frozen? ⟨w.heap.size + 2, 1, none⟩ = false := by simp [World.frozen?, x2]
  have HO := Lib.hid own
  have hlt2 : w.heap.size + 2 < w1.heap.size := by omega
  clear x1 x2 own hs0
  go_wp2_with fail
  refine bodyPost_ret (v := .agg #[.int .i64 b, .slice A2 n c2]) (by simp [results, Try.results13, go_sem, q0, q1]) rfl ⟨A2, c2, F, rfl, ?_, ?_, ?_⟩
  · have hs0 := S0.out
    exact ((HO.out.base_le (by omega)).kin (((kin_setCell _ (w.heap.size + 2) _ _).mono (G := [w.heap.size + 2, w.heap.size + 1]) (by simp)).trans (((kin_setCell _ (w.heap.size + 1) _ _).mono (by simp)).trans ((kin_setCell _ (w.heap.size + 1) _ _).mono (by simp)))) (fun k hk hm => by have := (HO.out.lt k hk).1; simp at hm; omega))
  · have hs0 := S0.out
    exact (((B0.out.trans (b1.mono (by omega))).setCell (by first | omega | (simp; done) | (simp; omega)) _).setCell (by first | omega | (simp; done) | (simp; omega)) _).setCell (by first | omega | (simp; done) | (simp; omega)) _
  · simp [World.setCell]; omega
theorem markB_mid (k : Int) {L : List Br} {t : Nat} (ht : t < L.length) : (markB k (L.take t) ++ L.drop t).take t = markB k (L.take t) ∧ (markB k (L.take t) ++ L.drop t).drop (t + 1) = L.drop (t + 1) ∧ (markB k (L.take t) ++ L.drop t)[t]? = L[t]? := by
  have hl : (markB k (L.take t)).length = t := by rw [markB_length, List.length_take]; omega
  refine ⟨by rw [List.take_append_of_le_length (by omega), List.take_of_length_le (by omega)], ?_, ?_⟩
  · rw [List.drop_append, List.drop_of_length_le (by omega), hl, List.nil_append, List.drop_drop]
    congr 1
    omega
  · rw [List.getElem?_append_right (by omega), hl, Nat.sub_self, List.getElem?_drop, Nat.add_zero]
end Go.Proofs.Ytgmaokpebaebkaa
