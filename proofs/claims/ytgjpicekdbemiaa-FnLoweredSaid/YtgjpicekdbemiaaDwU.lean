/- The reference's multiples by the root of 2. -/
import Derived.Test.YtgjpicekdbemiaaDwT
namespace Go.Proofs.Ytgjpicekdbemiaa
open Go.RowKit
set_option linter.unusedVariables false
set_option maxRecDepth 100000 in
theorem l1MaxD_any (a b : Int) (w : World) : Calls Try.prog 27 #[.int .i64 a, .int .i64 b] w fun e w' => e = .returned (.int .i64 (max a b)) ∧ w = w' := by
  by_cases h : b < a
  · rw [Int.max_eq_left (by omega)]
    go_enter Try.func27, Try.ntmps27
    go_wp2_with fail
    go_ret
    exact ⟨rfl, rfl⟩
  · rw [Int.max_eq_right (by omega)]
    go_enter Try.func27, Try.ntmps27
    go_wp2_with fail
    go_ret
    exact ⟨rfl, rfl⟩
set_option maxRecDepth 100000 in
set_option maxHeartbeats 4000000 in
theorem l3Up_any (a b c d : Int) (t : Nat) (w : World) (ht : t ≤ 1000) : Calls Try.prog 59 #[.agg #[.int .i64 a, .int .i64 b, .int .i64 c, .int .i64 d], .int .i64 t] w (Ret (zres (up t ⟨a, b, c, d⟩)) w) := by
  obtain ⟨R, hR⟩ : ∃ R, R = up t ⟨a, b, c, d⟩ := ⟨_, rfl⟩
  rw [← hR]
  have HR := Lib.hid hR
  clear hR
  go_enter Try.func59, Try.ntmps59
  go_wp2_with fail
  obtain ⟨w0, hw0⟩ : ∃ w0, w0 = (w.alloc (.cells #[.int .i64 a, .int .i64 b, .int .i64 c, .int .i64 d] 65)).alloc (.cells #[.int .i64 0, .int .i64 0, .int .i64 0, .int .i64 0] 65) := ⟨_, rfl⟩
  rw [← hw0]
  have x0 := Lib.hid (show w0.heap[w.heap.size]? = some (.cells #[.int .i64 a, .int .i64 b, .int .i64 c, .int .i64 d] 65 (0, 0)) by rw [hw0]; exact boxed2_0 _ _ _)
  have x1 := Lib.hid (show w0.heap[w.heap.size + 1]? = some (.cells #[.int .i64 0, .int .i64 0, .int .i64 0, .int .i64 0] 65 (0, 0)) by rw [hw0]; exact boxed2_1 _ _ _)
  have b0 : Below w.heap.size w w0 := by rw [hw0]; exact (by repeat (first | exact Below.refl _ _ | assumption | (refine Below.trans ?_ (Below.mono (by assumption) (by first | omega | (simp; done) | (simp; omega)))) | (with_reducible refine Below.drew ?_) | (with_reducible refine Below.alloc ?_ (by first | omega | (simp; done) | (simp; omega)) _) | (with_reducible refine Below.setCell ?_ (by first | omega | (simp; done) | (simp; omega)) _)))
  have S0 := Lib.hid (show w.heap.size + 2 = w0.heap.size by rw [hw0]; simp)
  clear hw0
  go_loopw [6] (fun kv wr => ∃ (i : Nat) (m : Zw), kv = .int .i64 i ∧ i ≤ t ∧ R = up (t - i) m ∧ wr.heap[w.heap.size]? = some (.cells #[.int .i64 m.a, .int .i64 m.b, .int .i64 m.c, .int .i64 m.d] 65 (0, 0)) ∧ wr.heap[w.heap.size + 1]? = some (.cells #[.int .i64 0, .int .i64 0, .int .i64 0, .int .i64 0] 65 (0, 0)) ∧ Below w.heap.size w wr ∧ w.heap.size + 2 ≤ wr.heap.size) (fun kv _ => t - (intOf kv).toNat)
  case atStart => exact ⟨0, ⟨a, b, c, d⟩, rfl, Nat.zero_le _, HR.out, x0.out, x1.out, b0, Nat.le_of_eq S0.out⟩
  case round =>
    obtain ⟨i, m, rfl, hi, hr, hx0, hx1, hb, hs⟩ := hrel
    have HR := Lib.hid hr
    obtain ⟨m1, m2, m3, m4⟩ := m
    clear b0 hr
    by_cases hit : i = t
    · subst hit
      have e := HR.out
      rw [Nat.sub_self, up] at e
      have E := Lib.hid e
      clear e
      have khx00 := cell_at (j := 0) hx0 rfl
      have khx01 := cell_at (j := 1) hx0 rfl
      have khx02 := cell_at (j := 2) hx0 rfl
      have khx03 := cell_at (j := 3) hx0 rfl
      have khx10 := cell_at (j := 0) hx1 rfl
      have fhx10 := free_b (j := 0) hx1
      have khx11 := cell_at (j := 1) hx1 rfl
      have fhx11 := free_b (j := 1) hx1
      have khx12 := cell_at (j := 2) hx1 rfl
      have fhx12 := free_b (j := 2) hx1
      have khx13 := cell_at (j := 3) hx1 rfl
      have fhx13 := free_b (j := 3) hx1
      go_wp2_with fail
      exact bodyPost_ret (v := zres R) (by rw [E.out]; simp [results, Try.results59, go_sem, zres, khx10, khx11, khx12, khx13]) rfl ⟨rfl, (by repeat (first | exact Below.refl _ _ | assumption | (refine Below.trans ?_ (Below.mono (by assumption) (by first | omega | (simp; done) | (simp; omega)))) | (with_reducible refine Below.drew ?_) | (with_reducible refine Below.alloc ?_ (by first | omega | (simp; done) | (simp; omega)) _) | (with_reducible refine Below.setCell ?_ (by first | omega | (simp; done) | (simp; omega)) _))), (by first | omega | (simp; done) | (simp; omega))⟩
    · have hlt : i < t := by omega
      have khx00 := cell_at (j := 0) hx0 rfl
      have khx01 := cell_at (j := 1) hx0 rfl
      have khx02 := cell_at (j := 2) hx0 rfl
      have khx03 := cell_at (j := 3) hx0 rfl
      go_wp2_with fail
      refine (MulZOmega_any _ _ _ _ _ _ _ _ _).mono ?_
      rintro e w1 ⟨rfl, hb1, hs1⟩
      have y0 := (hb1.block _ (by omega)).trans hx0
      have y1 := (hb1.block _ (by omega)).trans hx1
      have hs2 : w.heap.size + 2 ≤ w1.heap.size := by omega
      have hb2 : Below w.heap.size w w1 := (by repeat (first | exact Below.refl _ _ | assumption | (refine Below.trans ?_ (Below.mono (by assumption) (by first | omega | (simp; done) | (simp; omega)))) | (with_reducible refine Below.drew ?_) | (with_reducible refine Below.alloc ?_ (by first | omega | (simp; done) | (simp; omega)) _) | (with_reducible refine Below.setCell ?_ (by first | omega | (simp; done) | (simp; omega)) _)))
      clear hx0 hx1 hb hb1 hs1 hs khx00 khx01 khx02 khx03
      have l0 : w.heap.size < w1.heap.size := by omega
      have l1 : w.heap.size + 1 < w1.heap.size := by omega
      have e := HR.out
      rw [show t - i = (t - (i + 1)) + 1 from by omega, up] at e
      cases hd : zmul ⟨m1, m2, m3, m4⟩ ⟨0, 1, 0, -1⟩ with
      | none =>
        rw [hd] at e
        have E := Lib.hid e
        clear hd e
        have ky10 := cell_at (j := 0) y1 rfl
        have fy10 := free_b (j := 0) y1
        have ky11 := cell_at (j := 1) y1 rfl
        have fy11 := free_b (j := 1) y1
        have ky12 := cell_at (j := 2) y1 rfl
        have fy12 := free_b (j := 2) y1
        have ky13 := cell_at (j := 3) y1 rfl
        have fy13 := free_b (j := 3) y1
        clear y0 y1
        rw [zres_none]
        go_wp2_with fail
        exact bodyPost_ret (v := zres R) (by rw [E.out]; simp [results, Try.results59, go_sem, zres, l1, ky10, ky11, ky12, ky13]) rfl ⟨rfl, (by repeat (first | exact Below.refl _ _ | assumption | (refine Below.trans ?_ (Below.mono (by assumption) (by first | omega | (simp; done) | (simp; omega)))) | (with_reducible refine Below.drew ?_) | (with_reducible refine Below.alloc ?_ (by first | omega | (simp; done) | (simp; omega)) _) | (with_reducible refine Below.setCell ?_ (by first | omega | (simp; done) | (simp; omega)) _))), (by first | omega | (simp; done) | (simp; omega))⟩
      | some z =>
        rw [hd] at e
        have E := Lib.hid e
        obtain ⟨z1, z2, z3, z4⟩ := z
        clear hd e
        have Y0 := Lib.hid y0
        have Y1 := Lib.hid y1
        have ky00 := cell_at (j := 0) y0 rfl
        have fy00 := free_b (j := 0) y0
        have ky01 := cell_at (j := 1) y0 rfl
        have fy01 := free_b (j := 1) y0
        have ky02 := cell_at (j := 2) y0 rfl
        have fy02 := free_b (j := 2) y0
        have ky03 := cell_at (j := 3) y0 rfl
        have fy03 := free_b (j := 3) y0
        clear y0 y1
        rw [zres_some]
        go_wp2_with fail
        go_roundw
        case rel =>
          refine ⟨i + 1, ⟨z1, z2, z3, z4⟩, by go_num, by omega, E.out, ?_, ?_, (by repeat (first | exact Below.refl _ _ | assumption | (refine Below.trans ?_ (Below.mono (by assumption) (by first | omega | (simp; done) | (simp; omega)))) | (with_reducible refine Below.drew ?_) | (with_reducible refine Below.alloc ?_ (by first | omega | (simp; done) | (simp; omega)) _) | (with_reducible refine Below.setCell ?_ (by first | omega | (simp; done) | (simp; omega)) _))), (by first | omega | (simp; done) | (simp; omega))⟩
          · exact (Below.heap_alloc _ _ _ (by simpa [World.setCell] using l0)).trans (set4 _ _ _ _ Y0.out)
          · exact (Below.heap_alloc _ _ _ (by simpa [World.setCell] using l1)).trans (set4_past _ _ _ _ Y1.out (by omega))
        case measure => simp [intOf]; omega
end Go.Proofs.Ytgjpicekdbemiaa
