/- The reference's arithmetic in D[omega], second part: normal forms, multiples of the root of 2, sums and products. -/
import Derived.Test.YtgjpicekdbemiaaDwS
namespace Go.Proofs.Ytgjpicekdbemiaa
open Go.RowKit
set_option linter.unusedVariables false
theorem set4 {w : World} {b : Nat} {x0 x1 x2 x3 : Value} {t : TypeId} (v0 v1 v2 v3 : Value) (h : w.heap[b]? = some (.cells #[x0, x1, x2, x3] t (0, 0))) :
    ((((w.setCell ⟨b, 0, none⟩ v0).setCell ⟨b, 1, none⟩ v1).setCell ⟨b, 2, none⟩ v2).setCell ⟨b, 3, none⟩ v3).heap[b]? = some (.cells #[v0, v1, v2, v3] t (0, 0)) := by
  rw [heap_setCell_same _ _ _ _ _ _ (heap_setCell_same _ _ _ _ _ _ (heap_setCell_same _ _ _ _ _ _ (heap_setCell_same _ _ _ _ _ _ h)))]
  rfl
theorem set4_past {w : World} {b b' : Nat} {o : Obj} (v0 v1 v2 v3 : Value) (h : w.heap[b]? = some o) (hn : b ≠ b') :
    ((((w.setCell ⟨b', 0, none⟩ v0).setCell ⟨b', 1, none⟩ v1).setCell ⟨b', 2, none⟩ v2).setCell ⟨b', 3, none⟩ v3).heap[b]? = some o :=
  (Below.heap_setCell _ _ _ _ hn).trans ((Below.heap_setCell _ _ _ _ hn).trans ((Below.heap_setCell _ _ _ _ hn).trans ((Below.heap_setCell _ _ _ _ hn).trans h)))
theorem newD_f1 {n : Zw} {k : Int} (h : zOk n = false) : newD n k = none := by unfold newD; rw [h, if_neg (by simp)]
theorem newD_f2 {n : Zw} {k : Int} (h : inB k 0 120 = false) : newD n k = none := by unfold newD; rw [h, if_neg (by simp)]
theorem newD_t {n : Zw} {k : Int} (h : zOk n = true) (h2 : inB k 0 120 = true) {m : Zw} {j : Nat} (hr : red k.toNat n = (m, j)) : newD n k = if j ≤ 60 then some (dmk m j) else none := by
  unfold newD; rw [h, h2, if_pos (by simp), hr]
set_option maxRecDepth 100000 in
set_option maxHeartbeats 4000000 in
theorem NewDOmega_any (a b c d k : Int) (w : World) : Calls Try.prog 58 #[.agg #[.int .i64 a, .int .i64 b, .int .i64 c, .int .i64 d], .int .i64 k] w (Ret (dres (newD ⟨a, b, c, d⟩ k)) w) := by
  cases h1 : zOk ⟨a, b, c, d⟩
  · rw [newD_f1 h1]
    go_enter Try.func58, Try.ntmps58
    go_wp2_with (go_at_call 52; refine (IsValidZOmega_any _ _ _ _ _).mono ?_; rw [h1]; rintro e w1 ⟨rfl, rfl⟩)
    exact bodyPost_ret (v := dres none) (by simp [results, Try.results58, go_sem, dres]) rfl ⟨rfl, (by repeat (first | exact Below.refl _ _ | assumption | (refine Below.trans ?_ (Below.mono (by assumption) (by first | omega | (simp; done) | (simp; omega)))) | (with_reducible refine Below.drew ?_) | (with_reducible refine Below.alloc ?_ (by first | omega | (simp; done) | (simp; omega)) _) | (with_reducible refine Below.setCell ?_ (by first | omega | (simp; done) | (simp; omega)) _))), (by first | omega | (simp; done) | (simp; omega))⟩
  cases h2 : inB k 0 120
  · rw [newD_f2 h2]
    go_enter Try.func58, Try.ntmps58
    go_wp2_with (first | (go_at_call 52; refine (IsValidZOmega_any _ _ _ _ _).mono ?_; rw [h1]; rintro e w1 ⟨rfl, rfl⟩) | (go_at_call 17; refine (l1In_any _ _ _ _).mono ?_; rw [h2]; rintro e w' ⟨rfl, rfl⟩))
    exact bodyPost_ret (v := dres none) (by simp [results, Try.results58, go_sem, dres]) rfl ⟨rfl, (by repeat (first | exact Below.refl _ _ | assumption | (refine Below.trans ?_ (Below.mono (by assumption) (by first | omega | (simp; done) | (simp; omega)))) | (with_reducible refine Below.drew ?_) | (with_reducible refine Below.alloc ?_ (by first | omega | (simp; done) | (simp; omega)) _) | (with_reducible refine Below.setCell ?_ (by first | omega | (simp; done) | (simp; omega)) _))), (by first | omega | (simp; done) | (simp; omega))⟩
  have h2' := inB_iff.1 h2
  obtain ⟨K, rfl⟩ : ∃ K : Nat, k = K := ⟨k.toNat, by omega⟩
  have hK : K ≤ 120 := by omega
  have HT := Lib.hid (fun (m : Zw) (j : Nat) (hr : red K ⟨a, b, c, d⟩ = (m, j)) => newD_t (k := (K : Int)) h1 h2 hr)
  obtain ⟨R, hR⟩ : ∃ R, R = newD ⟨a, b, c, d⟩ K := ⟨_, rfl⟩
  rw [← hR] at HT ⊢
  clear hR
  go_enter Try.func58, Try.ntmps58
  go_wp2_with (first | (go_at_call 52; refine (IsValidZOmega_any _ _ _ _ _).mono ?_; rw [h1]; rintro e w1 ⟨rfl, rfl⟩) | (go_at_call 17; refine (l1In_any _ _ _ _).mono ?_; rw [h2]; rintro e w' ⟨rfl, rfl⟩))
  clear h1 h2 h2'
  obtain ⟨w0, hw0⟩ : ∃ w0, w0 = ((w.alloc (.cells #[.int .i64 a, .int .i64 b, .int .i64 c, .int .i64 d] 65)).alloc (.cells #[.int .i64 0, .int .i64 0, .int .i64 0, .int .i64 0, .int .i64 0] 67)).alloc (.cells #[.int .i64 a, .int .i64 b, .int .i64 c, .int .i64 d] 65) := ⟨_, rfl⟩
  rw [← hw0]
  have x0 := Lib.hid (show w0.heap[w.heap.size]? = some (.cells #[.int .i64 a, .int .i64 b, .int .i64 c, .int .i64 d] 65 (0, 0)) by rw [hw0]; exact boxed3_0 _ _ _ _)
  have x1 := Lib.hid (show w0.heap[w.heap.size + 1]? = some (.cells #[.int .i64 0, .int .i64 0, .int .i64 0, .int .i64 0, .int .i64 0] 67 (0, 0)) by rw [hw0]; exact boxed3_1 _ _ _ _)
  have b0 : Below w.heap.size w w0 := by rw [hw0]; exact (by repeat (first | exact Below.refl _ _ | assumption | (refine Below.trans ?_ (Below.mono (by assumption) (by first | omega | (simp; done) | (simp; omega)))) | (with_reducible refine Below.drew ?_) | (with_reducible refine Below.alloc ?_ (by first | omega | (simp; done) | (simp; omega)) _) | (with_reducible refine Below.setCell ?_ (by first | omega | (simp; done) | (simp; omega)) _)))
  have S0 := Lib.hid (show w.heap.size + 3 = w0.heap.size by rw [hw0]; simp)
  clear hw0
  go_loopw [1] (fun kv wr => ∃ (j : Nat) (m : Zw), kv = .int .i64 j ∧ j ≤ 120 ∧ red K ⟨a, b, c, d⟩ = red j m ∧ wr.heap[w.heap.size]? = some (.cells #[.int .i64 m.a, .int .i64 m.b, .int .i64 m.c, .int .i64 m.d] 65 (0, 0)) ∧ wr.heap[w.heap.size + 1]? = some (.cells #[.int .i64 0, .int .i64 0, .int .i64 0, .int .i64 0, .int .i64 0] 67 (0, 0)) ∧ Below w.heap.size w wr ∧ w.heap.size + 3 ≤ wr.heap.size) (fun kv _ => (intOf kv).toNat)
  case atStart => exact ⟨K, ⟨a, b, c, d⟩, rfl, hK, rfl, x0.out, x1.out, b0, Nat.le_of_eq S0.out⟩
  case round =>
    obtain ⟨j, m, rfl, hj, hr, hx0, hx1, hb, hs⟩ := hrel
    have HR := Lib.hid hr
    obtain ⟨m1, m2, m3, m4⟩ := m
    clear b0 hr
    by_cases hj0 : j = 0
    · subst hj0
      have e := HT.out ⟨m1, m2, m3, m4⟩ 0 HR.out
      rw [if_pos (by omega)] at e
      have E := Lib.hid e
      clear e
      have khx00 := cell_at (j := 0) hx0 rfl
      have khx01 := cell_at (j := 1) hx0 rfl
      have khx02 := cell_at (j := 2) hx0 rfl
      have khx03 := cell_at (j := 3) hx0 rfl
      have khx10 := cell_at (j := 0) hx1 rfl
      have fhx10 := free_b (j := 0) hx1
      have khx11 := cell_at (j := 1) hx1 rfl
      have fhx11 := free_b (j := 1) hx1
      have khx12 := cell_at (j := 2) hx1 rfl
      have fhx12 := free_b (j := 2) hx1
      have khx13 := cell_at (j := 3) hx1 rfl
      have fhx13 := free_b (j := 3) hx1
      have khx14 := cell_at (j := 4) hx1 rfl
      have fhx14 := free_b (j := 4) hx1
      go_wp2_with fail
      exact bodyPost_ret (v := dres R) (by rw [E.out]; simp [results, Try.results58, go_sem, dres, dmk, khx10, khx11, khx12, khx13, khx14]) rfl (ret_set5 hb (by omega))
    · obtain ⟨i, rfl⟩ : ∃ i, j = i + 1 := ⟨j - 1, by omega⟩
      have khx00 := cell_at (j := 0) hx0 rfl
      have khx01 := cell_at (j := 1) hx0 rfl
      have khx02 := cell_at (j := 2) hx0 rfl
      have khx03 := cell_at (j := 3) hx0 rfl
      go_wp2_with fail
      refine (DivSqrt2_any _ _ _ _ _).mono ?_
      rintro e w1 ⟨rfl, hb1, hs1⟩
      have y0 := (hb1.block _ (by omega)).trans hx0
      have y1 := (hb1.block _ (by omega)).trans hx1
      have hs2 : w.heap.size + 3 ≤ w1.heap.size := by omega
      have hb2 : Below w.heap.size w w1 := (by repeat (first | exact Below.refl _ _ | assumption | (refine Below.trans ?_ (Below.mono (by assumption) (by first | omega | (simp; done) | (simp; omega)))) | (with_reducible refine Below.drew ?_) | (with_reducible refine Below.alloc ?_ (by first | omega | (simp; done) | (simp; omega)) _) | (with_reducible refine Below.setCell ?_ (by first | omega | (simp; done) | (simp; omega)) _)))
      clear hx0 hx1 hb hb1 hs1 hs khx00 khx01 khx02 khx03
      have l0 : w.heap.size < w1.heap.size := by omega
      have l1 : w.heap.size + 1 < w1.heap.size := by omega
      have Y0 := Lib.hid y0
      have Y1 := Lib.hid y1
      clear y0 y1
      cases hd : zdiv ⟨m1, m2, m3, m4⟩ with
      | none =>
        have hrr : red K ⟨a, b, c, d⟩ = (⟨m1, m2, m3, m4⟩, i + 1) := by rw [HR.out, red, hd]
        have e := HT.out ⟨m1, m2, m3, m4⟩ (i + 1) hrr
        clear hd hrr
        have y0 := Y0.out
        have y1 := Y1.out
        have ky00 := cell_at (j := 0) y0 rfl
        have ky01 := cell_at (j := 1) y0 rfl
        have ky02 := cell_at (j := 2) y0 rfl
        have ky03 := cell_at (j := 3) y0 rfl
        have ky10 := cell_at (j := 0) y1 rfl
        have fy10 := free_b (j := 0) y1
        have ky11 := cell_at (j := 1) y1 rfl
        have fy11 := free_b (j := 1) y1
        have ky12 := cell_at (j := 2) y1 rfl
        have fy12 := free_b (j := 2) y1
        have ky13 := cell_at (j := 3) y1 rfl
        have fy13 := free_b (j := 3) y1
        have ky14 := cell_at (j := 4) y1 rfl
        have fy14 := free_b (j := 4) y1
        clear y0 y1
        rw [zres_none]
        by_cases hi : i + 1 ≤ 60
        · rw [if_pos hi] at e
          have E := Lib.hid e
          clear e
          have hi' : decide (60 < ((i + 1 : Nat) : Int)) = false := by simp; omega
          go_wp2_with fail
          exact bodyPost_ret (v := dres R) (by rw [E.out]; simp [results, Try.results58, go_sem, dres, dmk, l1, ky10, ky11, ky12, ky13, ky14]) rfl (ret_alloc _ (ret_set5 hb2 (by omega)))
        · rw [if_neg hi] at e
          have E := Lib.hid e
          clear e
          have hi' : decide (60 < ((i + 1 : Nat) : Int)) = true := by simp; omega
          go_wp2_with fail
          exact bodyPost_ret (v := dres R) (by rw [E.out]; simp [results, Try.results58, go_sem, dres, l1, ky10, ky11, ky12, ky13, ky14]) rfl (ret_alloc _ (ret_set5 hb2 (by omega)))
      | some z =>
        have hrr : red K ⟨a, b, c, d⟩ = red i z := by rw [HR.out, red, hd]
        have HRR := Lib.hid hrr
        obtain ⟨z1, z2, z3, z4⟩ := z
        clear hd hrr
        have y0 := Y0.out
        have ky00 := cell_at (j := 0) y0 rfl
        have fy00 := free_b (j := 0) y0
        have ky01 := cell_at (j := 1) y0 rfl
        have fy01 := free_b (j := 1) y0
        have ky02 := cell_at (j := 2) y0 rfl
        have fy02 := free_b (j := 2) y0
        have ky03 := cell_at (j := 3) y0 rfl
        have fy03 := free_b (j := 3) y0
        clear y0
        rw [zres_some]
        go_wp2_with fail
        go_roundw
        case rel =>
          refine ⟨i, ⟨z1, z2, z3, z4⟩, by go_num, by omega, HRR.out, ?_, ?_, (by repeat (first | exact Below.refl _ _ | assumption | (refine Below.trans ?_ (Below.mono (by assumption) (by first | omega | (simp; done) | (simp; omega)))) | (with_reducible refine Below.drew ?_) | (with_reducible refine Below.alloc ?_ (by first | omega | (simp; done) | (simp; omega)) _) | (with_reducible refine Below.setCell ?_ (by first | omega | (simp; done) | (simp; omega)) _))), (by first | omega | (simp; done) | (simp; omega))⟩
          · exact (Below.heap_alloc _ _ _ (by simpa [World.setCell] using l0)).trans (set4 _ _ _ _ Y0.out)
          · exact (Below.heap_alloc _ _ _ (by simpa [World.setCell] using l1)).trans (set4_past _ _ _ _ Y1.out (by omega))
        case measure => simp [intOf]
end Go.Proofs.Ytgjpicekdbemiaa
