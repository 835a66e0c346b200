/- The reference's arithmetic in D[omega]: each call returns what the plain functions say, for all numbers. -/
import Derived.Test.YtgjpicekdbemiaaZwS
namespace Go.Proofs.Ytgjpicekdbemiaa
open Go.RowKit
set_option linter.unusedVariables false
theorem ret_set5 {v : Value} {w w1 : World} {r : Nat} {v0 v1 v2 v3 v4 : Value} (h : Below w.heap.size w w1) (hr : w.heap.size ≤ r) :
    Ret v w (.returned v) (((((w1.setCell ⟨r, 0, none⟩ v0).setCell ⟨r, 1, none⟩ v1).setCell ⟨r, 2, none⟩ v2).setCell ⟨r, 3, none⟩ v3).setCell ⟨r, 4, none⟩ v4) :=
  ⟨rfl, ((((h.setCell hr v0).setCell hr v1).setCell hr v2).setCell hr v3).setCell hr v4, by have := h.size; simpa [World.setCell] using this⟩
theorem ret_alloc {v : Value} {w W : World} {e : Ending} (o : Obj) (h : Ret v w e W) : Ret v w e (W.alloc o) := ⟨h.1, h.2.1.alloc h.2.2 o, by have := h.2.2; simp; omega⟩
theorem dres_some (a b c d e : Int) : dres (some ⟨a, b, c, d, e⟩) = .tuple #[.agg #[.int .i64 a, .int .i64 b, .int .i64 c, .int .i64 d, .int .i64 e], .bool true] := rfl
theorem dres_none : dres none = .tuple #[.agg #[.int .i64 0, .int .i64 0, .int .i64 0, .int .i64 0, .int .i64 0], .bool false] := rfl
theorem zdiv_f {x : Zw} (h : zOk x = false) : zdiv x = none := by unfold zdiv; rw [h, if_neg (by simp)]
theorem zdiv_n {x : Zw} (h : evs (sq x) = false) : zdiv x = none := by unfold zdiv; rw [h, if_neg (by simp)]
theorem zdiv_t {x : Zw} (h : zOk x = true) (h' : evs (sq x) = true) : zdiv x = some (half (sq x)) := by unfold zdiv; rw [h, h', if_pos (by simp)]
theorem ev_f1 {x : Int} (h : ev x = false) : (x.tmod 2 == 0) = false := h
theorem ev_f2 {x : Int} (h : ev x = false) : (x.tmod 2 != 0) = true := by unfold ev at h; simp only [bne, h, Bool.not_false]
theorem ev_t1 {x : Int} (h : ev x = true) : (x.tmod 2 == 0) = true := h
theorem ev_t2 {x : Int} (h : ev x = true) : (x.tmod 2 != 0) = false := by unfold ev at h; simp only [bne, h, Bool.not_true]
set_option maxRecDepth 100000 in
set_option maxHeartbeats 4000000 in
theorem DivSqrt2_any (a b c d : Int) (w : World) : Calls Try.prog 51 #[.agg #[.int .i64 a, .int .i64 b, .int .i64 c, .int .i64 d]] w (Ret (zres (zdiv ⟨a, b, c, d⟩)) w) := by
  cases h1 : zOk ⟨a, b, c, d⟩
  · rw [zdiv_f h1]
    go_enter Try.func51, Try.ntmps51
    go_wp2_with (go_at_call 52; refine (IsValidZOmega_any _ _ _ _ _).mono ?_; rw [h1]; rintro e w1 ⟨rfl, rfl⟩)
    exact bodyPost_ret (v := zres none) (by simp [results, Try.results51, go_sem, zres]) rfl ⟨rfl, (by repeat (first | exact Below.refl _ _ | assumption | (refine Below.trans ?_ (Below.mono (by assumption) (by first | omega | (simp; done) | (simp; omega)))) | (with_reducible refine Below.drew ?_) | (with_reducible refine Below.alloc ?_ (by first | omega | (simp; done) | (simp; omega)) _) | (with_reducible refine Below.setCell ?_ (by first | omega | (simp; done) | (simp; omega)) _))), (by first | omega | (simp; done) | (simp; omega))⟩
  obtain ⟨⟨a1, a2⟩, ⟨b1, b2⟩, ⟨c1, c2⟩, ⟨d1, d2⟩⟩ := zOk_iff.1 h1
  simp only at a1 a2 b1 b2 c1 c2 d1 d2
  cases h2 : ev (b - d)
  · rw [zdiv_n (x := ⟨a, b, c, d⟩) (by simp [evs, sq, h2])]
    have u0 := ev_f1 h2
    have v0 := ev_f2 h2
    go_enter Try.func51, Try.ntmps51
    go_wp2_with (go_at_call 52; refine (IsValidZOmega_any _ _ _ _ _).mono ?_; rw [h1]; rintro e w1 ⟨rfl, rfl⟩)
    exact bodyPost_ret (v := zres none) (by simp [results, Try.results51, go_sem, zres]) rfl ⟨rfl, (by repeat (first | exact Below.refl _ _ | assumption | (refine Below.trans ?_ (Below.mono (by assumption) (by first | omega | (simp; done) | (simp; omega)))) | (with_reducible refine Below.drew ?_) | (with_reducible refine Below.alloc ?_ (by first | omega | (simp; done) | (simp; omega)) _) | (with_reducible refine Below.setCell ?_ (by first | omega | (simp; done) | (simp; omega)) _))), (by first | omega | (simp; done) | (simp; omega))⟩
  cases h3 : ev (a + c)
  · rw [zdiv_n (x := ⟨a, b, c, d⟩) (by simp [evs, sq, h3])]
    have u0 := ev_t1 h2
    have v0 := ev_t2 h2
    have u1 := ev_f1 h3
    have v1 := ev_f2 h3
    go_enter Try.func51, Try.ntmps51
    go_wp2_with (go_at_call 52; refine (IsValidZOmega_any _ _ _ _ _).mono ?_; rw [h1]; rintro e w1 ⟨rfl, rfl⟩)
    exact bodyPost_ret (v := zres none) (by simp [results, Try.results51, go_sem, zres]) rfl ⟨rfl, (by repeat (first | exact Below.refl _ _ | assumption | (refine Below.trans ?_ (Below.mono (by assumption) (by first | omega | (simp; done) | (simp; omega)))) | (with_reducible refine Below.drew ?_) | (with_reducible refine Below.alloc ?_ (by first | omega | (simp; done) | (simp; omega)) _) | (with_reducible refine Below.setCell ?_ (by first | omega | (simp; done) | (simp; omega)) _))), (by first | omega | (simp; done) | (simp; omega))⟩
  cases h4 : ev (b + d)
  · rw [zdiv_n (x := ⟨a, b, c, d⟩) (by simp [evs, sq, h4])]
    have u0 := ev_t1 h2
    have v0 := ev_t2 h2
    have u1 := ev_t1 h3
    have v1 := ev_t2 h3
    have u2 := ev_f1 h4
    have v2 := ev_f2 h4
    go_enter Try.func51, Try.ntmps51
    go_wp2_with (go_at_call 52; refine (IsValidZOmega_any _ _ _ _ _).mono ?_; rw [h1]; rintro e w1 ⟨rfl, rfl⟩)
    exact bodyPost_ret (v := zres none) (by simp [results, Try.results51, go_sem, zres]) rfl ⟨rfl, (by repeat (first | exact Below.refl _ _ | assumption | (refine Below.trans ?_ (Below.mono (by assumption) (by first | omega | (simp; done) | (simp; omega)))) | (with_reducible refine Below.drew ?_) | (with_reducible refine Below.alloc ?_ (by first | omega | (simp; done) | (simp; omega)) _) | (with_reducible refine Below.setCell ?_ (by first | omega | (simp; done) | (simp; omega)) _))), (by first | omega | (simp; done) | (simp; omega))⟩
  cases h5 : ev (c - a)
  · rw [zdiv_n (x := ⟨a, b, c, d⟩) (by simp [evs, sq, h5])]
    have u0 := ev_t1 h2
    have v0 := ev_t2 h2
    have u1 := ev_t1 h3
    have v1 := ev_t2 h3
    have u2 := ev_t1 h4
    have v2 := ev_t2 h4
    have u3 := ev_f1 h5
    have v3 := ev_f2 h5
    go_enter Try.func51, Try.ntmps51
    go_wp2_with (go_at_call 52; refine (IsValidZOmega_any _ _ _ _ _).mono ?_; rw [h1]; rintro e w1 ⟨rfl, rfl⟩)
    exact bodyPost_ret (v := zres none) (by simp [results, Try.results51, go_sem, zres]) rfl ⟨rfl, (by repeat (first | exact Below.refl _ _ | assumption | (refine Below.trans ?_ (Below.mono (by assumption) (by first | omega | (simp; done) | (simp; omega)))) | (with_reducible refine Below.drew ?_) | (with_reducible refine Below.alloc ?_ (by first | omega | (simp; done) | (simp; omega)) _) | (with_reducible refine Below.setCell ?_ (by first | omega | (simp; done) | (simp; omega)) _))), (by first | omega | (simp; done) | (simp; omega))⟩
  rw [zdiv_t h1 (by simp [evs, sq, h2, h3, h4, h5])]
  have u0 := ev_t1 h2
  have v0 := ev_t2 h2
  have u1 := ev_t1 h3
  have v1 := ev_t2 h3
  have u2 := ev_t1 h4
  have v2 := ev_t2 h4
  have u3 := ev_t1 h5
  have v3 := ev_t2 h5
  go_enter Try.func51, Try.ntmps51
  go_wp2_with (go_at_call 52; refine (IsValidZOmega_any _ _ _ _ _).mono ?_; rw [h1]; rintro e w1 ⟨rfl, rfl⟩)
  exact bodyPost_ret (v := zres (some ⟨(b - d).tdiv 2, (a + c).tdiv 2, (b + d).tdiv 2, (c - a).tdiv 2⟩)) (by simp [results, Try.results51, go_sem, zres]) rfl ⟨rfl, (by repeat (first | exact Below.refl _ _ | assumption | (refine Below.trans ?_ (Below.mono (by assumption) (by first | omega | (simp; done) | (simp; omega)))) | (with_reducible refine Below.drew ?_) | (with_reducible refine Below.alloc ?_ (by first | omega | (simp; done) | (simp; omega)) _) | (with_reducible refine Below.setCell ?_ (by first | omega | (simp; done) | (simp; omega)) _))), (by first | omega | (simp; done) | (simp; omega))⟩
theorem dOk_1 {a b c d e : Int} (h : zOk ⟨a, b, c, d⟩ = false) : dOk ⟨a, b, c, d, e⟩ = false := by simp [dOk, Dm.n, h]
theorem dOk_2 {a b c d e : Int} (h : inB e 0 60 = false) : dOk ⟨a, b, c, d, e⟩ = false := by simp [dOk, h]
theorem dOk_3 {a b c d e : Int} (h1 : zOk ⟨a, b, c, d⟩ = true) (h : inB e 0 60 = true) (h3 : zdiv ⟨a, b, c, d⟩ = none) : dOk ⟨a, b, c, d, e⟩ = true := by simp [dOk, Dm.n, h1, h, h3]
theorem dOk_4 {a b c d e : Int} {z : Zw} (h1 : zOk ⟨a, b, c, d⟩ = true) (h : inB e 0 60 = true) (h3 : zdiv ⟨a, b, c, d⟩ = some z) : dOk ⟨a, b, c, d, e⟩ = (e == 0) := by simp [dOk, Dm.n, h1, h, h3]
set_option maxRecDepth 100000 in
set_option maxHeartbeats 4000000 in
theorem IsValidDOmega_any (a b c d e : Int) (w : World) : Calls Try.prog 45 #[.agg #[.int .i64 a, .int .i64 b, .int .i64 c, .int .i64 d, .int .i64 e]] w (Ret (.bool (dOk ⟨a, b, c, d, e⟩)) w) := by
  obtain ⟨v, hv⟩ : ∃ v, v = dOk ⟨a, b, c, d, e⟩ := ⟨_, rfl⟩
  rw [← hv]
  have HV := Lib.hid hv
  clear hv
  go_enter Try.func45, Try.ntmps45
  go_wp2_with fail
  obtain ⟨w0, hw0⟩ : ∃ w0, w0 = w.alloc (.cells #[.int .i64 a, .int .i64 b, .int .i64 c, .int .i64 d, .int .i64 e] 67) := ⟨_, rfl⟩
  rw [← hw0]
  have x0 : w0.heap[w.heap.size]? = some (.cells #[.int .i64 a, .int .i64 b, .int .i64 c, .int .i64 d, .int .i64 e] 67 (0, 0)) := by rw [hw0]; exact boxed1_0 _ _
  have b0 : Below w.heap.size w w0 := by rw [hw0]; exact (by repeat (first | exact Below.refl _ _ | assumption | (refine Below.trans ?_ (Below.mono (by assumption) (by first | omega | (simp; done) | (simp; omega)))) | (with_reducible refine Below.drew ?_) | (with_reducible refine Below.alloc ?_ (by first | omega | (simp; done) | (simp; omega)) _) | (with_reducible refine Below.setCell ?_ (by first | omega | (simp; done) | (simp; omega)) _)))
  have s0 : w.heap.size + 1 = w0.heap.size := by rw [hw0]; simp
  refine (DivSqrt2_any _ _ _ _ _).mono ?_
  rintro e1 w1 ⟨rfl, hb, hs⟩
  have x1 := (hb.block _ (by omega)).trans x0
  have b1 : Below w.heap.size w w1 := (by repeat (first | exact Below.refl _ _ | assumption | (refine Below.trans ?_ (Below.mono (by assumption) (by first | omega | (simp; done) | (simp; omega)))) | (with_reducible refine Below.drew ?_) | (with_reducible refine Below.alloc ?_ (by first | omega | (simp; done) | (simp; omega)) _) | (with_reducible refine Below.setCell ?_ (by first | omega | (simp; done) | (simp; omega)) _)))
  have s1 : w.heap.size + 1 ≤ w1.heap.size := by omega
  have l1 : w.heap.size < w1.heap.size := by omega
  have kx10 := cell_at (j := 0) x1 rfl
  have kx11 := cell_at (j := 1) x1 rfl
  have kx12 := cell_at (j := 2) x1 rfl
  have kx13 := cell_at (j := 3) x1 rfl
  have kx14 := cell_at (j := 4) x1 rfl
  clear hw0 x0 x1 b0 s0 hb hs
  cases h3 : zdiv ⟨a, b, c, d⟩ with
  | none =>
    rw [zres_none]
    cases h1 : zOk ⟨a, b, c, d⟩
    · rw [dOk_1 h1] at HV
      go_wp2_with (go_at_call 52; refine (IsValidZOmega_any _ _ _ _ _).mono ?_; rw [h1]; rintro e w1 ⟨rfl, rfl⟩)
      go_ret
      exact ⟨by rw [HV.out]; rfl, (by repeat (first | exact Below.refl _ _ | assumption | (refine Below.trans ?_ (Below.mono (by assumption) (by first | omega | (simp; done) | (simp; omega)))) | (with_reducible refine Below.drew ?_) | (with_reducible refine Below.alloc ?_ (by first | omega | (simp; done) | (simp; omega)) _) | (with_reducible refine Below.setCell ?_ (by first | omega | (simp; done) | (simp; omega)) _))), (by first | omega | (simp; done) | (simp; omega))⟩
    cases h2 : inB e 0 60
    · rw [dOk_2 h2] at HV
      go_wp2_with (first | (go_at_call 52; refine (IsValidZOmega_any _ _ _ _ _).mono ?_; rw [h1]; rintro e w1 ⟨rfl, rfl⟩) | (go_at_call 17; refine (l1In_any _ _ _ _).mono ?_; rw [h2]; rintro e w' ⟨rfl, rfl⟩))
      go_ret
      exact ⟨by rw [HV.out]; rfl, (by repeat (first | exact Below.refl _ _ | assumption | (refine Below.trans ?_ (Below.mono (by assumption) (by first | omega | (simp; done) | (simp; omega)))) | (with_reducible refine Below.drew ?_) | (with_reducible refine Below.alloc ?_ (by first | omega | (simp; done) | (simp; omega)) _) | (with_reducible refine Below.setCell ?_ (by first | omega | (simp; done) | (simp; omega)) _))), (by first | omega | (simp; done) | (simp; omega))⟩
    · rw [dOk_3 h1 h2 h3] at HV
      clear h3
      go_wp2_with (first | (go_at_call 52; refine (IsValidZOmega_any _ _ _ _ _).mono ?_; rw [h1]; rintro e w1 ⟨rfl, rfl⟩) | (go_at_call 17; refine (l1In_any _ _ _ _).mono ?_; rw [h2]; rintro e w' ⟨rfl, rfl⟩))
      go_ret
      exact ⟨by rw [HV.out]; rfl, (by repeat (first | exact Below.refl _ _ | assumption | (refine Below.trans ?_ (Below.mono (by assumption) (by first | omega | (simp; done) | (simp; omega)))) | (with_reducible refine Below.drew ?_) | (with_reducible refine Below.alloc ?_ (by first | omega | (simp; done) | (simp; omega)) _) | (with_reducible refine Below.setCell ?_ (by first | omega | (simp; done) | (simp; omega)) _))), (by first | omega | (simp; done) | (simp; omega))⟩
  | some z =>
    obtain ⟨z1, z2, z3, z4⟩ := z
    rw [zres_some]
    cases h1 : zOk ⟨a, b, c, d⟩
    · rw [dOk_1 h1] at HV
      go_wp2_with (go_at_call 52; refine (IsValidZOmega_any _ _ _ _ _).mono ?_; rw [h1]; rintro e w1 ⟨rfl, rfl⟩)
      go_ret
      exact ⟨by rw [HV.out]; rfl, (by repeat (first | exact Below.refl _ _ | assumption | (refine Below.trans ?_ (Below.mono (by assumption) (by first | omega | (simp; done) | (simp; omega)))) | (with_reducible refine Below.drew ?_) | (with_reducible refine Below.alloc ?_ (by first | omega | (simp; done) | (simp; omega)) _) | (with_reducible refine Below.setCell ?_ (by first | omega | (simp; done) | (simp; omega)) _))), (by first | omega | (simp; done) | (simp; omega))⟩
    cases h2 : inB e 0 60
    · rw [dOk_2 h2] at HV
      go_wp2_with (first | (go_at_call 52; refine (IsValidZOmega_any _ _ _ _ _).mono ?_; rw [h1]; rintro e w1 ⟨rfl, rfl⟩) | (go_at_call 17; refine (l1In_any _ _ _ _).mono ?_; rw [h2]; rintro e w' ⟨rfl, rfl⟩))
      go_ret
      exact ⟨by rw [HV.out]; rfl, (by repeat (first | exact Below.refl _ _ | assumption | (refine Below.trans ?_ (Below.mono (by assumption) (by first | omega | (simp; done) | (simp; omega)))) | (with_reducible refine Below.drew ?_) | (with_reducible refine Below.alloc ?_ (by first | omega | (simp; done) | (simp; omega)) _) | (with_reducible refine Below.setCell ?_ (by first | omega | (simp; done) | (simp; omega)) _))), (by first | omega | (simp; done) | (simp; omega))⟩
    · rw [dOk_4 h1 h2 h3] at HV
      clear h3
      cases h4 : (e == 0)
      · rw [h4] at HV
        go_wp2_with (first | (go_at_call 52; refine (IsValidZOmega_any _ _ _ _ _).mono ?_; rw [h1]; rintro e w1 ⟨rfl, rfl⟩) | (go_at_call 17; refine (l1In_any _ _ _ _).mono ?_; rw [h2]; rintro e w' ⟨rfl, rfl⟩))
        go_ret
        exact ⟨by rw [HV.out]; rfl, (by repeat (first | exact Below.refl _ _ | assumption | (refine Below.trans ?_ (Below.mono (by assumption) (by first | omega | (simp; done) | (simp; omega)))) | (with_reducible refine Below.drew ?_) | (with_reducible refine Below.alloc ?_ (by first | omega | (simp; done) | (simp; omega)) _) | (with_reducible refine Below.setCell ?_ (by first | omega | (simp; done) | (simp; omega)) _))), (by first | omega | (simp; done) | (simp; omega))⟩
      · rw [h4] at HV
        go_wp2_with (first | (go_at_call 52; refine (IsValidZOmega_any _ _ _ _ _).mono ?_; rw [h1]; rintro e w1 ⟨rfl, rfl⟩) | (go_at_call 17; refine (l1In_any _ _ _ _).mono ?_; rw [h2]; rintro e w' ⟨rfl, rfl⟩))
        go_ret
        exact ⟨by rw [HV.out]; rfl, (by repeat (first | exact Below.refl _ _ | assumption | (refine Below.trans ?_ (Below.mono (by assumption) (by first | omega | (simp; done) | (simp; omega)))) | (with_reducible refine Below.drew ?_) | (with_reducible refine Below.alloc ?_ (by first | omega | (simp; done) | (simp; omega)) _) | (with_reducible refine Below.setCell ?_ (by first | omega | (simp; done) | (simp; omega)) _))), (by first | omega | (simp; done) | (simp; omega))⟩
end Go.Proofs.Ytgjpicekdbemiaa
