/- The reference's arithmetic in Z[omega]: each call returns what the plain functions say, for all numbers. -/
import Derived.Test.YtgjpicekdbemiaaZw
namespace Go.Proofs.Ytgjpicekdbemiaa
open Go.RowKit
set_option linter.unusedVariables false
/-- A call that returns a value, and makes memory. -/
def Ret (v : Value) (w : World) (e : Ending) (w' : World) : Prop := e = .returned v ∧ Below w.heap.size w w' ∧ w.heap.size ≤ w'.heap.size
theorem free_b {w : World} {b j : Nat} {cs : Array Value} {t : TypeId} (h : w.heap[b]? = some (.cells cs t (0, 0))) : w.frozen? ⟨b, j, none⟩ = false := by simp [World.frozen?, h]
theorem zres_some (a b c d : Int) : zres (some ⟨a, b, c, d⟩) = .tuple #[.agg #[.int .i64 a, .int .i64 b, .int .i64 c, .int .i64 d], .bool true] := rfl
theorem zres_none : zres none = .tuple #[.agg #[.int .i64 0, .int .i64 0, .int .i64 0, .int .i64 0], .bool false] := rfl
set_option maxRecDepth 100000 in
theorem l2Near_any (n : Int) (w : World) : Calls Try.prog 62 #[.int .i64 n] w fun e w' => e = .returned (.bool (zIn n)) ∧ w = w' := by
  go_enter Try.func62, Try.ntmps62
  go_wp2_with (go_at_call 17; refine (l1In_any _ _ _ _).mono ?_; rintro e w' ⟨rfl, rfl⟩)
  go_ret
  exact ⟨rfl, rfl⟩
theorem zOk_f1 {a b c d : Int} (h : zIn a = false) : zOk ⟨a, b, c, d⟩ = false := by simp [zOk, h]
theorem zOk_f2 {a b c d : Int} (h : zIn a = true) (h2 : zIn b = false) : zOk ⟨a, b, c, d⟩ = false := by simp [zOk, h2]
theorem zOk_f3 {a b c d : Int} (h : zIn a = true) (h2 : zIn b = true) (h3 : zIn c = false) : zOk ⟨a, b, c, d⟩ = false := by simp [zOk, h3]
theorem zOk_f4 {a b c d : Int} (h : zIn a = true) (h2 : zIn b = true) (h3 : zIn c = true) (h4 : zIn d = false) : zOk ⟨a, b, c, d⟩ = false := by simp [zOk, h4]
theorem zOk_t {a b c d : Int} (h : zIn a = true) (h2 : zIn b = true) (h3 : zIn c = true) (h4 : zIn d = true) : zOk ⟨a, b, c, d⟩ = true := by simp [zOk, h, h2, h3, h4]
set_option maxRecDepth 100000 in
set_option maxHeartbeats 1000000 in
theorem IsValidZOmega_any (a b c d : Int) (w : World) : Calls Try.prog 52 #[.agg #[.int .i64 a, .int .i64 b, .int .i64 c, .int .i64 d]] w fun e w' => e = .returned (.bool (zOk ⟨a, b, c, d⟩)) ∧ w.alloc (.cells #[.int .i64 a, .int .i64 b, .int .i64 c, .int .i64 d] 65) = w' := by
  cases h1 : zIn a
  · rw [zOk_f1 h1]
    go_enter Try.func52, Try.ntmps52
    go_wp2_with (go_at_call 62; refine (l2Near_any _ _).mono ?_; rintro e w' ⟨rfl, rfl⟩)
    go_ret
    exact ⟨rfl, rfl⟩
  cases h2 : zIn b
  · rw [zOk_f2 h1 h2]
    go_enter Try.func52, Try.ntmps52
    go_wp2_with (go_at_call 62; refine (l2Near_any _ _).mono ?_; rintro e w' ⟨rfl, rfl⟩)
    go_ret
    exact ⟨rfl, rfl⟩
  cases h3 : zIn c
  · rw [zOk_f3 h1 h2 h3]
    go_enter Try.func52, Try.ntmps52
    go_wp2_with (go_at_call 62; refine (l2Near_any _ _).mono ?_; rintro e w' ⟨rfl, rfl⟩)
    go_ret
    exact ⟨rfl, rfl⟩
  cases h4 : zIn d
  · rw [zOk_f4 h1 h2 h3 h4]
    go_enter Try.func52, Try.ntmps52
    go_wp2_with (go_at_call 62; refine (l2Near_any _ _).mono ?_; rintro e w' ⟨rfl, rfl⟩)
    go_ret
    exact ⟨rfl, rfl⟩
  · rw [zOk_t h1 h2 h3 h4]
    go_enter Try.func52, Try.ntmps52
    go_wp2_with (go_at_call 62; refine (l2Near_any _ _).mono ?_; rintro e w' ⟨rfl, rfl⟩)
    go_ret
    exact ⟨rfl, rfl⟩
set_option maxRecDepth 100000 in
theorem l2If_any (a b c d : Int) (w : World) : Calls Try.prog 64 #[.agg #[.int .i64 a, .int .i64 b, .int .i64 c, .int .i64 d]] w (Ret (zres (zif ⟨a, b, c, d⟩)) w) := by
  cases h : zOk ⟨a, b, c, d⟩
  · rw [zif_f h]
    go_enter Try.func64, Try.ntmps64
    go_wp2_with (go_at_call 52; refine (IsValidZOmega_any _ _ _ _ _).mono ?_; rw [h]; rintro e w1 ⟨rfl, rfl⟩)
    exact bodyPost_ret (v := zres none) (by simp [results, Try.results64, go_sem, zres]) rfl ⟨rfl, (by repeat (first | exact Below.refl _ _ | assumption | (refine Below.trans ?_ (Below.mono (by assumption) (by first | omega | (simp; done) | (simp; omega)))) | (with_reducible refine Below.drew ?_) | (with_reducible refine Below.alloc ?_ (by first | omega | (simp; done) | (simp; omega)) _) | (with_reducible refine Below.setCell ?_ (by first | omega | (simp; done) | (simp; omega)) _))), (by first | omega | (simp; done) | (simp; omega))⟩
  · rw [zif_t h]
    go_enter Try.func64, Try.ntmps64
    go_wp2_with (go_at_call 52; refine (IsValidZOmega_any _ _ _ _ _).mono ?_; rw [h]; rintro e w1 ⟨rfl, rfl⟩)
    exact bodyPost_ret (v := zres (some ⟨a, b, c, d⟩)) (by simp [results, Try.results64, go_sem, zres]) rfl ⟨rfl, (by repeat (first | exact Below.refl _ _ | assumption | (refine Below.trans ?_ (Below.mono (by assumption) (by first | omega | (simp; done) | (simp; omega)))) | (with_reducible refine Below.drew ?_) | (with_reducible refine Below.alloc ?_ (by first | omega | (simp; done) | (simp; omega)) _) | (with_reducible refine Below.setCell ?_ (by first | omega | (simp; done) | (simp; omega)) _))), (by first | omega | (simp; done) | (simp; omega))⟩
theorem zadd_f1 {x y : Zw} (h : zOk x = false) : zadd x y = none := by unfold zadd; rw [h, if_neg (by simp)]
theorem zadd_f2 {x y : Zw} (h : zOk x = true) (h' : zOk y = false) : zadd x y = none := by unfold zadd; rw [h, h', if_neg (by simp)]
theorem zadd_t {x y : Zw} (h : zOk x = true) (h' : zOk y = true) : zadd x y = zif (zsum x y) := by unfold zadd; rw [h, h', if_pos (by simp)]
set_option maxRecDepth 100000 in
set_option maxHeartbeats 4000000 in
theorem AddZOmega_any (a b c d p q r s : Int) (w : World) : Calls Try.prog 60 #[.agg #[.int .i64 a, .int .i64 b, .int .i64 c, .int .i64 d], .agg #[.int .i64 p, .int .i64 q, .int .i64 r, .int .i64 s]] w (Ret (zres (zadd ⟨a, b, c, d⟩ ⟨p, q, r, s⟩)) w) := by
  cases h1 : zOk ⟨a, b, c, d⟩
  · rw [zadd_f1 h1]
    go_enter Try.func60, Try.ntmps60
    go_wp2_with (go_at_call 52; refine (IsValidZOmega_any _ _ _ _ _).mono ?_; rw [h1]; rintro e w1 ⟨rfl, rfl⟩)
    exact bodyPost_ret (v := zres none) (by simp [results, Try.results60, go_sem, zres]) rfl ⟨rfl, (by repeat (first | exact Below.refl _ _ | assumption | (refine Below.trans ?_ (Below.mono (by assumption) (by first | omega | (simp; done) | (simp; omega)))) | (with_reducible refine Below.drew ?_) | (with_reducible refine Below.alloc ?_ (by first | omega | (simp; done) | (simp; omega)) _) | (with_reducible refine Below.setCell ?_ (by first | omega | (simp; done) | (simp; omega)) _))), (by first | omega | (simp; done) | (simp; omega))⟩
  cases h2 : zOk ⟨p, q, r, s⟩
  · rw [zadd_f2 h1 h2]
    go_enter Try.func60, Try.ntmps60
    go_wp2_with (first | (go_at_call 52; refine (IsValidZOmega_any _ _ _ _ _).mono ?_; rw [h1]; rintro e w1 ⟨rfl, rfl⟩) | (go_at_call 52; refine (IsValidZOmega_any _ _ _ _ _).mono ?_; rw [h2]; rintro e w1 ⟨rfl, rfl⟩))
    exact bodyPost_ret (v := zres none) (by simp [results, Try.results60, go_sem, zres]) rfl ⟨rfl, (by repeat (first | exact Below.refl _ _ | assumption | (refine Below.trans ?_ (Below.mono (by assumption) (by first | omega | (simp; done) | (simp; omega)))) | (with_reducible refine Below.drew ?_) | (with_reducible refine Below.alloc ?_ (by first | omega | (simp; done) | (simp; omega)) _) | (with_reducible refine Below.setCell ?_ (by first | omega | (simp; done) | (simp; omega)) _))), (by first | omega | (simp; done) | (simp; omega))⟩
  · rw [zadd_t h1 h2]
    obtain ⟨⟨a1, a2⟩, ⟨b1, b2⟩, ⟨c1, c2⟩, ⟨d1, d2⟩⟩ := zOk_iff.1 h1
    obtain ⟨⟨p1, p2⟩, ⟨q1, q2⟩, ⟨r1, r2⟩, ⟨s1, s2⟩⟩ := zOk_iff.1 h2
    simp only at a1 a2 b1 b2 c1 c2 d1 d2 p1 p2 q1 q2 r1 r2 s1 s2
    obtain ⟨R, hR⟩ : ∃ R, R = zif (zsum ⟨a, b, c, d⟩ ⟨p, q, r, s⟩) := ⟨_, rfl⟩
    rw [← hR]
    have HR := Lib.hid hR
    clear hR
    go_enter Try.func60, Try.ntmps60
    go_wp2_with (first | (go_at_call 52; refine (IsValidZOmega_any _ _ _ _ _).mono ?_; rw [h1]; rintro e w1 ⟨rfl, rfl⟩) | (go_at_call 52; refine (IsValidZOmega_any _ _ _ _ _).mono ?_; rw [h2]; rintro e w1 ⟨rfl, rfl⟩))
    obtain ⟨w0, hw0⟩ : ∃ w0, w0 = (((w.alloc (.cells #[.int .i64 a, .int .i64 b, .int .i64 c, .int .i64 d] 65)).alloc (.cells #[.int .i64 p, .int .i64 q, .int .i64 r, .int .i64 s] 65)).alloc (.cells #[.int .i64 0, .int .i64 0, .int .i64 0, .int .i64 0] 65)) := ⟨_, rfl⟩
    rw [← hw0]
    have x2 : w0.heap[w.heap.size + 1 + 1]? = some (.cells #[.int .i64 0, .int .i64 0, .int .i64 0, .int .i64 0] 65 (0, 0)) := by rw [hw0]; exact boxed3_2 _ _ _ _
    have b0 : Below w.heap.size w w0 := by rw [hw0]; exact (by repeat (first | exact Below.refl _ _ | assumption | (refine Below.trans ?_ (Below.mono (by assumption) (by first | omega | (simp; done) | (simp; omega)))) | (with_reducible refine Below.drew ?_) | (with_reducible refine Below.alloc ?_ (by first | omega | (simp; done) | (simp; omega)) _) | (with_reducible refine Below.setCell ?_ (by first | omega | (simp; done) | (simp; omega)) _)))
    have s0 : w.heap.size + 3 = w0.heap.size := by rw [hw0]; simp
    refine (l2If_any _ _ _ _ _).mono ?_
    rintro e w1 ⟨rfl, hb, hs⟩
    have x2' := ((show Below w0.heap.size w0 w1 from (by repeat (first | exact Below.refl _ _ | assumption | (refine Below.trans ?_ (Below.mono (by assumption) (by first | omega | (simp; done) | (simp; omega)))) | (with_reducible refine Below.drew ?_) | (with_reducible refine Below.alloc ?_ (by first | omega | (simp; done) | (simp; omega)) _) | (with_reducible refine Below.setCell ?_ (by first | omega | (simp; done) | (simp; omega)) _)))).block _ (by omega)).trans x2
    rw [show zif ⟨a + p, b + q, c + r, d + s⟩ = R from HR.out.symm]
    have kx2'0 := cell_at (j := 0) x2' rfl
    have fx2'0 := free_b (j := 0) x2'
    have kx2'1 := cell_at (j := 1) x2' rfl
    have fx2'1 := free_b (j := 1) x2'
    have kx2'2 := cell_at (j := 2) x2' rfl
    have fx2'2 := free_b (j := 2) x2'
    have kx2'3 := cell_at (j := 3) x2' rfl
    have fx2'3 := free_b (j := 3) x2'
    have b1 : Below w.heap.size w w1 := (by repeat (first | exact Below.refl _ _ | assumption | (refine Below.trans ?_ (Below.mono (by assumption) (by first | omega | (simp; done) | (simp; omega)))) | (with_reducible refine Below.drew ?_) | (with_reducible refine Below.alloc ?_ (by first | omega | (simp; done) | (simp; omega)) _) | (with_reducible refine Below.setCell ?_ (by first | omega | (simp; done) | (simp; omega)) _)))
    have s1 : w.heap.size + 3 ≤ w1.heap.size := by simp at hs; omega
    clear hw0 x2 x2' hb hs b0 s0
    cases R with
    | none =>
      rw [zres_none]
      go_wp2_with fail
      exact bodyPost_ret (v := zres none) (by simp [results, Try.results60, go_sem, zres, kx2'0, kx2'1, kx2'2, kx2'3]) rfl ⟨rfl, (by repeat (first | exact Below.refl _ _ | assumption | (refine Below.trans ?_ (Below.mono (by assumption) (by first | omega | (simp; done) | (simp; omega)))) | (with_reducible refine Below.drew ?_) | (with_reducible refine Below.alloc ?_ (by first | omega | (simp; done) | (simp; omega)) _) | (with_reducible refine Below.setCell ?_ (by first | omega | (simp; done) | (simp; omega)) _))), (by first | omega | (simp; done) | (simp; omega))⟩
    | some z =>
      obtain ⟨z1, z2, z3, z4⟩ := z
      rw [zres_some]
      go_wp2_with fail
      exact bodyPost_ret (v := zres (some ⟨z1, z2, z3, z4⟩)) (by simp [results, Try.results60, go_sem, zres, kx2'0, kx2'1, kx2'2, kx2'3]) rfl ⟨rfl, (by repeat (first | exact Below.refl _ _ | assumption | (refine Below.trans ?_ (Below.mono (by assumption) (by first | omega | (simp; done) | (simp; omega)))) | (with_reducible refine Below.drew ?_) | (with_reducible refine Below.alloc ?_ (by first | omega | (simp; done) | (simp; omega)) _) | (with_reducible refine Below.setCell ?_ (by first | omega | (simp; done) | (simp; omega)) _))), (by first | omega | (simp; done) | (simp; omega))⟩
theorem mul_lim {x y : Int} (h : -1073741824 ≤ x ∧ x ≤ 1073741824) (h' : -1073741824 ≤ y ∧ y ≤ 1073741824) : -1152921504606846976 ≤ x * y ∧ x * y ≤ 1152921504606846976 := by
  have h1 : (x * y).natAbs ≤ 1073741824 * 1073741824 := by
    rw [Int.natAbs_mul]
    exact Nat.mul_le_mul (by omega) (by omega)
  omega
theorem zmul_f1 {x y : Zw} (h : zOk x = false) : zmul x y = none := by unfold zmul; rw [h, if_neg (by simp)]
theorem zmul_f2 {x y : Zw} (h : zOk x = true) (h' : zOk y = false) : zmul x y = none := by unfold zmul; rw [h, h', if_neg (by simp)]
theorem zmul_t {x y : Zw} (h : zOk x = true) (h' : zOk y = true) : zmul x y = zif (zprod x y) := by unfold zmul; rw [h, h', if_pos (by simp)]
set_option maxRecDepth 100000 in
set_option maxHeartbeats 4000000 in
theorem MulZOmega_any (a b c d p q r s : Int) (w : World) : Calls Try.prog 57 #[.agg #[.int .i64 a, .int .i64 b, .int .i64 c, .int .i64 d], .agg #[.int .i64 p, .int .i64 q, .int .i64 r, .int .i64 s]] w (Ret (zres (zmul ⟨a, b, c, d⟩ ⟨p, q, r, s⟩)) w) := by
  cases h1 : zOk ⟨a, b, c, d⟩
  · rw [zmul_f1 h1]
    go_enter Try.func57, Try.ntmps57
    go_wp2_with (go_at_call 52; refine (IsValidZOmega_any _ _ _ _ _).mono ?_; rw [h1]; rintro e w1 ⟨rfl, rfl⟩)
    exact bodyPost_ret (v := zres none) (by simp [results, Try.results57, go_sem, zres]) rfl ⟨rfl, (by repeat (first | exact Below.refl _ _ | assumption | (refine Below.trans ?_ (Below.mono (by assumption) (by first | omega | (simp; done) | (simp; omega)))) | (with_reducible refine Below.drew ?_) | (with_reducible refine Below.alloc ?_ (by first | omega | (simp; done) | (simp; omega)) _) | (with_reducible refine Below.setCell ?_ (by first | omega | (simp; done) | (simp; omega)) _))), (by first | omega | (simp; done) | (simp; omega))⟩
  cases h2 : zOk ⟨p, q, r, s⟩
  · rw [zmul_f2 h1 h2]
    go_enter Try.func57, Try.ntmps57
    go_wp2_with (first | (go_at_call 52; refine (IsValidZOmega_any _ _ _ _ _).mono ?_; rw [h1]; rintro e w1 ⟨rfl, rfl⟩) | (go_at_call 52; refine (IsValidZOmega_any _ _ _ _ _).mono ?_; rw [h2]; rintro e w1 ⟨rfl, rfl⟩))
    exact bodyPost_ret (v := zres none) (by simp [results, Try.results57, go_sem, zres]) rfl ⟨rfl, (by repeat (first | exact Below.refl _ _ | assumption | (refine Below.trans ?_ (Below.mono (by assumption) (by first | omega | (simp; done) | (simp; omega)))) | (with_reducible refine Below.drew ?_) | (with_reducible refine Below.alloc ?_ (by first | omega | (simp; done) | (simp; omega)) _) | (with_reducible refine Below.setCell ?_ (by first | omega | (simp; done) | (simp; omega)) _))), (by first | omega | (simp; done) | (simp; omega))⟩
  · rw [zmul_t h1 h2]
    obtain ⟨⟨a1, a2⟩, ⟨b1, b2⟩, ⟨c1, c2⟩, ⟨d1, d2⟩⟩ := zOk_iff.1 h1
    obtain ⟨⟨p1, p2⟩, ⟨q1, q2⟩, ⟨r1, r2⟩, ⟨s1, s2⟩⟩ := zOk_iff.1 h2
    simp only at a1 a2 b1 b2 c1 c2 d1 d2 p1 p2 q1 q2 r1 r2 s1 s2
    have map := mul_lim ⟨a1, a2⟩ ⟨p1, p2⟩
    have maq := mul_lim ⟨a1, a2⟩ ⟨q1, q2⟩
    have mar := mul_lim ⟨a1, a2⟩ ⟨r1, r2⟩
    have mas := mul_lim ⟨a1, a2⟩ ⟨s1, s2⟩
    have mbp := mul_lim ⟨b1, b2⟩ ⟨p1, p2⟩
    have mbq := mul_lim ⟨b1, b2⟩ ⟨q1, q2⟩
    have mbr := mul_lim ⟨b1, b2⟩ ⟨r1, r2⟩
    have mbs := mul_lim ⟨b1, b2⟩ ⟨s1, s2⟩
    have mcp := mul_lim ⟨c1, c2⟩ ⟨p1, p2⟩
    have mcq := mul_lim ⟨c1, c2⟩ ⟨q1, q2⟩
    have mcr := mul_lim ⟨c1, c2⟩ ⟨r1, r2⟩
    have mcs := mul_lim ⟨c1, c2⟩ ⟨s1, s2⟩
    have mdp := mul_lim ⟨d1, d2⟩ ⟨p1, p2⟩
    have mdq := mul_lim ⟨d1, d2⟩ ⟨q1, q2⟩
    have mdr := mul_lim ⟨d1, d2⟩ ⟨r1, r2⟩
    have mds := mul_lim ⟨d1, d2⟩ ⟨s1, s2⟩
    obtain ⟨R, hR⟩ : ∃ R, R = zif (zprod ⟨a, b, c, d⟩ ⟨p, q, r, s⟩) := ⟨_, rfl⟩
    rw [← hR]
    have HR := Lib.hid hR
    clear hR
    go_enter Try.func57, Try.ntmps57
    go_wp2_with (first | (go_at_call 52; refine (IsValidZOmega_any _ _ _ _ _).mono ?_; rw [h1]; rintro e w1 ⟨rfl, rfl⟩) | (go_at_call 52; refine (IsValidZOmega_any _ _ _ _ _).mono ?_; rw [h2]; rintro e w1 ⟨rfl, rfl⟩))
    obtain ⟨w0, hw0⟩ : ∃ w0, w0 = (((w.alloc (.cells #[.int .i64 a, .int .i64 b, .int .i64 c, .int .i64 d] 65)).alloc (.cells #[.int .i64 p, .int .i64 q, .int .i64 r, .int .i64 s] 65)).alloc (.cells #[.int .i64 0, .int .i64 0, .int .i64 0, .int .i64 0] 65)) := ⟨_, rfl⟩
    rw [← hw0]
    have x2 : w0.heap[w.heap.size + 1 + 1]? = some (.cells #[.int .i64 0, .int .i64 0, .int .i64 0, .int .i64 0] 65 (0, 0)) := by rw [hw0]; exact boxed3_2 _ _ _ _
    have b0 : Below w.heap.size w w0 := by rw [hw0]; exact (by repeat (first | exact Below.refl _ _ | assumption | (refine Below.trans ?_ (Below.mono (by assumption) (by first | omega | (simp; done) | (simp; omega)))) | (with_reducible refine Below.drew ?_) | (with_reducible refine Below.alloc ?_ (by first | omega | (simp; done) | (simp; omega)) _) | (with_reducible refine Below.setCell ?_ (by first | omega | (simp; done) | (simp; omega)) _)))
    have s0 : w.heap.size + 3 = w0.heap.size := by rw [hw0]; simp
    refine (l2If_any _ _ _ _ _).mono ?_
    rintro e w1 ⟨rfl, hb, hs⟩
    have x2' := ((show Below w0.heap.size w0 w1 from (by repeat (first | exact Below.refl _ _ | assumption | (refine Below.trans ?_ (Below.mono (by assumption) (by first | omega | (simp; done) | (simp; omega)))) | (with_reducible refine Below.drew ?_) | (with_reducible refine Below.alloc ?_ (by first | omega | (simp; done) | (simp; omega)) _) | (with_reducible refine Below.setCell ?_ (by first | omega | (simp; done) | (simp; omega)) _)))).block _ (by omega)).trans x2
    rw [show zif ⟨a * p - b * s - c * r - d * q, a * q + b * p - c * s - d * r, a * r + b * q + c * p - d * s, a * s + b * r + c * q + d * p⟩ = R from HR.out.symm]
    have kx2'0 := cell_at (j := 0) x2' rfl
    have fx2'0 := free_b (j := 0) x2'
    have kx2'1 := cell_at (j := 1) x2' rfl
    have fx2'1 := free_b (j := 1) x2'
    have kx2'2 := cell_at (j := 2) x2' rfl
    have fx2'2 := free_b (j := 2) x2'
    have kx2'3 := cell_at (j := 3) x2' rfl
    have fx2'3 := free_b (j := 3) x2'
    have b1 : Below w.heap.size w w1 := (by repeat (first | exact Below.refl _ _ | assumption | (refine Below.trans ?_ (Below.mono (by assumption) (by first | omega | (simp; done) | (simp; omega)))) | (with_reducible refine Below.drew ?_) | (with_reducible refine Below.alloc ?_ (by first | omega | (simp; done) | (simp; omega)) _) | (with_reducible refine Below.setCell ?_ (by first | omega | (simp; done) | (simp; omega)) _)))
    have s1 : w.heap.size + 3 ≤ w1.heap.size := by simp at hs; omega
    clear hw0 x2 x2' hb hs b0 s0
    cases R with
    | none =>
      rw [zres_none]
      go_wp2_with fail
      exact bodyPost_ret (v := zres none) (by simp [results, Try.results57, go_sem, zres, kx2'0, kx2'1, kx2'2, kx2'3]) rfl ⟨rfl, (by repeat (first | exact Below.refl _ _ | assumption | (refine Below.trans ?_ (Below.mono (by assumption) (by first | omega | (simp; done) | (simp; omega)))) | (with_reducible refine Below.drew ?_) | (with_reducible refine Below.alloc ?_ (by first | omega | (simp; done) | (simp; omega)) _) | (with_reducible refine Below.setCell ?_ (by first | omega | (simp; done) | (simp; omega)) _))), (by first | omega | (simp; done) | (simp; omega))⟩
    | some z =>
      obtain ⟨z1, z2, z3, z4⟩ := z
      rw [zres_some]
      go_wp2_with fail
      exact bodyPost_ret (v := zres (some ⟨z1, z2, z3, z4⟩)) (by simp [results, Try.results57, go_sem, zres, kx2'0, kx2'1, kx2'2, kx2'3]) rfl ⟨rfl, (by repeat (first | exact Below.refl _ _ | assumption | (refine Below.trans ?_ (Below.mono (by assumption) (by first | omega | (simp; done) | (simp; omega)))) | (with_reducible refine Below.drew ?_) | (with_reducible refine Below.alloc ?_ (by first | omega | (simp; done) | (simp; omega)) _) | (with_reducible refine Below.setCell ?_ (by first | omega | (simp; done) | (simp; omega)) _))), (by first | omega | (simp; done) | (simp; omega))⟩
end Go.Proofs.Ytgjpicekdbemiaa
