/- The ring of amplitudes, plain: reduced numbers are a normal form, and the reference's sums and products of them are exact while the coefficients are small. -/
import Derived.Test.YtgjpicekdbemiaaZw
namespace Go.Proofs.Ytgjpicekdbemiaa
open Go.RowKit
set_option linter.unusedVariables false
theorem ev_two (m : Int) : ev (2 * m) = true := by
  unfold ev
  rw [Int.mul_tmod_right]
  rfl
theorem half_two (m : Int) : (2 * m).tdiv 2 = m := Int.mul_tdiv_cancel_left m (by decide)
theorem ev_get {x : Int} (h : ev x = true) : ∃ m, x = 2 * m := by
  unfold ev at h
  have h1 : x.tmod 2 = 0 := by simpa using h
  exact Int.dvd_of_tmod_eq_zero h1
def divs (x : Zw) : Option Zw := if evs (sq x) = true then some (half (sq x)) else none
theorem sq_sq (m : Zw) : sq (sq m) = ⟨2 * m.a, 2 * m.b, 2 * m.c, 2 * m.d⟩ := by
  apply Zw.ext' <;> simp only [sq] <;> omega
theorem divs_sq (m : Zw) : divs (sq m) = some m := by
  unfold divs
  rw [sq_sq]
  have h1 : evs ⟨2 * m.a, 2 * m.b, 2 * m.c, 2 * m.d⟩ = true := by simp [evs, ev_two]
  rw [if_pos h1]
  simp [half]
theorem sq_of_divs {n m : Zw} (h : divs n = some m) : n = sq m := by
  unfold divs at h
  by_cases h1 : evs (sq n) = true
  · rw [if_pos h1] at h
    injection h with h
    simp only [evs, Bool.and_eq_true] at h1
    obtain ⟨h2, h3, h4, h5⟩ := h1
    obtain ⟨p, hp⟩ := ev_get h2
    obtain ⟨q, hq⟩ := ev_get h3
    obtain ⟨r, hr⟩ := ev_get h4
    obtain ⟨s, hs⟩ := ev_get h5
    subst h
    have e : half (sq n) = ⟨p, q, r, s⟩ := by
      unfold half
      rw [hp, hq, hr, hs]
      simp
    rw [e]
    simp only [sq] at hp hq hr hs
    apply Zw.ext' <;> simp only [sq] <;> omega
  · rw [if_neg h1] at h
    cases h
def nb (B : Int) (x : Zw) : Prop := (-B ≤ x.a ∧ x.a ≤ B) ∧ (-B ≤ x.b ∧ x.b ≤ B) ∧ (-B ≤ x.c ∧ x.c ≤ B) ∧ (-B ≤ x.d ∧ x.d ≤ B)
theorem nb_sq {B : Int} {m : Zw} (h : nb B (sq m)) : nb B m := by
  unfold nb sq at h
  unfold nb
  simp only at h
  omega
theorem nb_ok {B : Int} {n : Zw} (h : nb B n) (hB : B ≤ 1073741824) : zOk n = true := by
  unfold nb at h
  rw [zOk_iff]
  omega
theorem nb_up {B C : Int} {n : Zw} (h : nb B n) (hB : B ≤ C) : nb C n := by
  unfold nb at *
  omega
theorem nb_sum {B C : Int} {m n : Zw} (h : nb B m) (h' : nb C n) : nb (B + C) (zsum m n) := by
  unfold nb at *
  simp only [zsum]
  omega
def cn : Nat → Zw → Zw × Nat
  | 0, n => (n, 0)
  | k + 1, n => match divs n with
    | none => (n, k + 1)
    | some m => cn k m
def sqs : Nat → Zw → Zw
  | 0, n => n
  | t + 1, n => sqs t (sq n)
theorem sqs_succ : ∀ (t : Nat) (n : Zw), sqs (t + 1) n = sq (sqs t n)
  | 0, n => rfl
  | t + 1, n => sqs_succ t (sq n)
theorem sqs_add : ∀ (s t : Nat) (n : Zw), sqs (s + t) n = sqs s (sqs t n)
  | s, 0, n => rfl
  | s, t + 1, n => by
    rw [← Nat.add_assoc, sqs_succ, sqs_add s t n, sqs_succ t n, ← sqs_succ]
    rfl
theorem cn_sq (k : Nat) (n : Zw) : cn (k + 1) (sq n) = cn k n := by rw [cn, divs_sq]
theorem cn_sqs : ∀ (t k : Nat) (n : Zw), cn (k + t) (sqs t n) = cn k n
  | 0, k, n => rfl
  | t + 1, k, n => by rw [sqs_succ, ← Nat.add_assoc, cn_sq, cn_sqs t k n]
theorem cn_out : ∀ (k : Nat) (n : Zw), (cn k n).2 ≤ k ∧ n = sqs (k - (cn k n).2) (cn k n).1 ∧ ((cn k n).2 = 0 ∨ divs (cn k n).1 = none)
  | 0, n => ⟨Nat.le_refl _, rfl, .inl rfl⟩
  | k + 1, n => by
    rw [cn]
    cases h : divs n with
    | none => exact ⟨Nat.le_refl _, by simp [sqs], .inr h⟩
    | some m =>
      obtain ⟨h1, h2, h3⟩ := cn_out k m
      refine ⟨Nat.le_succ_of_le h1, ?_, h3⟩
      show n = sqs (k + 1 - (cn k m).2) (cn k m).1
      rw [show k + 1 - (cn k m).2 = k - (cn k m).2 + 1 from by omega, sqs_succ, ← h2]
      exact sq_of_divs h
theorem nb_sqs {B : Int} : ∀ {t : Nat} {m : Zw}, nb B (sqs t m) → ∀ j, j ≤ t → nb B (sqs j m)
  | 0, m, h, j, hj => by
    obtain rfl : j = 0 := by omega
    exact h
  | t + 1, m, h, j, hj => by
    by_cases e : j = t + 1
    · subst e; exact h
    · rw [sqs_succ] at h
      exact nb_sqs (nb_sq h) j (by omega)
theorem nb_cn {B : Int} {k : Nat} {n : Zw} (h : nb B n) : nb B (cn k n).1 := by
  obtain ⟨_, h2, _⟩ := cn_out k n
  rw [h2] at h
  exact nb_sqs h 0 (Nat.zero_le _)
theorem zdiv_eq {B : Int} {n : Zw} (h : nb B n) (hB : B ≤ 1073741824) : zdiv n = divs n := by
  unfold zdiv divs
  rw [nb_ok h hB, Bool.true_and]
theorem red_eq {B : Int} (hB : B ≤ 1073741824) : ∀ (k : Nat) {n : Zw}, nb B n → red k n = cn k n
  | 0, n, h => rfl
  | k + 1, n, h => by
    rw [red, cn, zdiv_eq h hB]
    cases e : divs n with
    | none => rfl
    | some m =>
      show red k m = cn k m
      exact red_eq hB k (nb_sq (by rw [← sq_of_divs e]; exact h))
theorem prod_s (n : Zw) : zprod n ⟨0, 1, 0, -1⟩ = sq n := by
  apply Zw.ext' <;> simp only [zprod, sq] <;> omega
theorem up_eq {B : Int} (hB : B ≤ 1073741824) : ∀ (t : Nat) {n : Zw}, nb B (sqs t n) → up t n = some (sqs t n)
  | 0, n, h => rfl
  | t + 1, n, h => by
    have h0 : nb B n := nb_sqs h 0 (Nat.zero_le _)
    have h1 : nb B (sq n) := nb_sqs h 1 (by omega)
    have e : zmul n ⟨0, 1, 0, -1⟩ = some (sq n) := by
      unfold zmul
      rw [nb_ok h0 hB, prod_s, zif_t (nb_ok h1 hB)]
      rfl
    rw [up, e]
    exact up_eq hB t h
theorem newD_eq {B : Int} {n : Zw} {k : Nat} (h : nb B n) (hB : B ≤ 1073741824) (hk : k ≤ 120) (h6 : (cn k n).2 ≤ 60) : newD n k = some (dmk (cn k n).1 (cn k n).2) := by
  unfold newD
  have h1 : inB (k : Int) 0 120 = true := inB_t (by omega) (by omega)
  rw [nb_ok h hB, h1, if_pos (show (true && true) = true from rfl), Int.toNat_natCast, red_eq hB k h, if_pos h6]
/-- The amplitude n / sqrt(2)^k in its normal form. -/
def cD (k : Nat) (n : Zw) : Dm := dmk (cn k n).1 (cn k n).2
theorem cD_n (k : Nat) (n : Zw) : (cD k n).n = (cn k n).1 := rfl
theorem cD_e (k : Nat) (n : Zw) : (cD k n).e = (cn k n).2 := rfl
theorem dOk_cD {B : Int} {n : Zw} {k : Nat} (h : nb B n) (hB : B ≤ 1073741824) (hk : k ≤ 60) : dOk (cD k n) = true := by
  obtain ⟨h1, h2, h3⟩ := cn_out k n
  have hn : nb B (cn k n).1 := nb_cn h
  unfold dOk
  rw [cD_n, cD_e, nb_ok hn hB, inB_t (by omega) (by omega), zdiv_eq hn hB]
  rcases h3 with h3 | h3
  · rw [h3]; simp
  · rw [h3]; simp
theorem prod_sq_l (m y : Zw) : zprod (sq m) y = sq (zprod m y) := by
  apply Zw.ext' <;> simp only [zprod, sq, Int.sub_mul, Int.add_mul] <;> omega
theorem prod_sq_r (m y : Zw) : zprod m (sq y) = sq (zprod m y) := by
  apply Zw.ext' <;> simp only [zprod, sq, Int.mul_sub, Int.mul_add] <;> omega
theorem prod_sqs_l : ∀ (t : Nat) (m y : Zw), zprod (sqs t m) y = sqs t (zprod m y)
  | 0, m, y => rfl
  | t + 1, m, y => by rw [sqs_succ, prod_sq_l, prod_sqs_l t m y, ← sqs_succ]
theorem prod_sqs_r : ∀ (t : Nat) (m y : Zw), zprod m (sqs t y) = sqs t (zprod m y)
  | 0, m, y => rfl
  | t + 1, m, y => by rw [sqs_succ, prod_sq_r, prod_sqs_r t m y, ← sqs_succ]
theorem mul_nb {B x y : Int} (h : -B ≤ x ∧ x ≤ B) (h' : -1 ≤ y ∧ y ≤ 1) : -B ≤ x * y ∧ x * y ≤ B := by
  obtain h1 | h1 | h1 : y = -1 ∨ y = 0 ∨ y = 1 := by omega
  · subst h1; omega
  · subst h1; omega
  · subst h1; omega
theorem nb_prod {B : Int} {m y : Zw} (h : nb B m) (h' : nb 1 y) : nb (4 * B) (zprod m y) := by
  obtain ⟨a1, a2, a3, a4⟩ := h
  obtain ⟨b1, b2, b3, b4⟩ := h'
  have p1 := mul_nb a1 b1
  have p2 := mul_nb a1 b2
  have p3 := mul_nb a1 b3
  have p4 := mul_nb a1 b4
  have p5 := mul_nb a2 b1
  have p6 := mul_nb a2 b2
  have p7 := mul_nb a2 b3
  have p8 := mul_nb a2 b4
  have p9 := mul_nb a3 b1
  have q1 := mul_nb a3 b2
  have q2 := mul_nb a3 b3
  have q3 := mul_nb a3 b4
  have q4 := mul_nb a4 b1
  have q5 := mul_nb a4 b2
  have q6 := mul_nb a4 b3
  have q7 := mul_nb a4 b4
  unfold nb
  simp only [zprod]
  refine ⟨⟨?_, ?_⟩, ⟨?_, ?_⟩, ⟨?_, ?_⟩, ⟨?_, ?_⟩⟩ <;> omega
theorem mulD_cD {B : Int} {n y : Zw} {k l : Nat} (h : nb B n) (h' : nb 1 y) (hB : 4 * B ≤ 1073741824) (hB0 : 0 ≤ B) (hk : k + l ≤ 60) : mulD (cD k n) (cD l y) = some (cD (k + l) (zprod n y)) := by
  obtain ⟨h1, h2, _⟩ := cn_out k n
  obtain ⟨h3, h4, _⟩ := cn_out l y
  have hm := nb_cn (k := k) h
  have hy := nb_cn (k := l) h'
  have hp := nb_prod hm hy
  have e : cn (k + l) (zprod n y) = cn ((cn k n).2 + (cn l y).2) (zprod (cn k n).1 (cn l y).1) := by
    have e1 : zprod n y = sqs ((k - (cn k n).2) + (l - (cn l y).2)) (zprod (cn k n).1 (cn l y).1) := by
      conv => lhs; rw [h2, h4]
      rw [prod_sqs_l, prod_sqs_r, sqs_add]
    conv => lhs; rw [e1, show k + l = (cn k n).2 + (cn l y).2 + ((k - (cn k n).2) + (l - (cn l y).2)) from by omega]
    rw [cn_sqs]
  have hz : zmul (cn k n).1 (cn l y).1 = some (zprod (cn k n).1 (cn l y).1) := by
    unfold zmul
    rw [nb_ok hm (by omega), nb_ok hy (by omega), zif_t (nb_ok hp hB)]
    rfl
  unfold mulD
  rw [dOk_cD h (by omega) (by omega), dOk_cD h' (by omega) (by omega), cD_n, cD_n, hz, cD_e, cD_e]
  have h6 : (cn ((cn k n).2 + (cn l y).2) (zprod (cn k n).1 (cn l y).1)).2 ≤ 60 := by
    have := (cn_out ((cn k n).2 + (cn l y).2) (zprod (cn k n).1 (cn l y).1)).1
    omega
  have := newD_eq (k := (cn k n).2 + (cn l y).2) hp hB (by omega) h6
  rw [Int.natCast_add] at this
  show newD (zprod (cn k n).1 (cn l y).1) ((cn k n).2 + (cn l y).2) = _
  rw [this, ← e]
  rfl
theorem sq_sum (m n : Zw) : sq (zsum m n) = zsum (sq m) (sq n) := by
  apply Zw.ext' <;> simp only [zsum, sq] <;> omega
theorem sqs_sum : ∀ (t : Nat) (m n : Zw), sqs t (zsum m n) = zsum (sqs t m) (sqs t n)
  | 0, m, n => rfl
  | t + 1, m, n => by rw [sqs_succ, sqs_sum t m n, sq_sum, ← sqs_succ, ← sqs_succ]
theorem addD_cD {B C : Int} {n m : Zw} {k : Nat} (h : nb B n) (h' : nb C m) (hB : B + C ≤ 1073741824) (hB0 : 0 ≤ B) (hC0 : 0 ≤ C) (hk : k ≤ 60) : addD (cD k n) (cD k m) = some (cD k (zsum n m)) := by
  obtain ⟨h1, h2, _⟩ := cn_out k n
  obtain ⟨h3, h4, _⟩ := cn_out k m
  have hv := dOk_cD h (by omega) hk
  have hv' := dOk_cD h' (by omega) hk
  unfold addD
  rw [hv, hv', if_pos (show (true && true) = true from rfl), cD_n, cD_n, cD_e, cD_e]
  generalize hx : cn k n = X at *
  generalize hy : cn k m = Y at *
  obtain ⟨x, i⟩ := X
  obtain ⟨y, j⟩ := Y
  simp only at h1 h2 h3 h4 ⊢
  obtain ⟨K, hK⟩ : ∃ K : Nat, K = max i j := ⟨_, rfl⟩
  have hKi : i ≤ K := by omega
  have hKj : j ≤ K := by omega
  have hKk : K ≤ k := by omega
  have e1 : (max (i : Int) (j : Int) - i).toNat = K - i := by omega
  have e2 : (max (i : Int) (j : Int) - j).toNat = K - j := by omega
  have e3 : max (i : Int) (j : Int) = (K : Int) := by omega
  rw [e1, e2, e3]
  have n1 : n = sqs (k - K) (sqs (K - i) x) := by rw [← sqs_add, show k - K + (K - i) = k - i from by omega]; exact h2
  have n2 : m = sqs (k - K) (sqs (K - j) y) := by rw [← sqs_add, show k - K + (K - j) = k - j from by omega]; exact h4
  have b1 : nb B (sqs (K - i) x) := nb_sqs (t := k - K) (by rw [← n1]; exact h) 0 (Nat.zero_le _)
  have b2 : nb C (sqs (K - j) y) := nb_sqs (t := k - K) (by rw [← n2]; exact h') 0 (Nat.zero_le _)
  rw [up_eq (by omega) _ b1, up_eq (by omega) _ b2]
  have hs := nb_sum b1 b2
  have hz : zadd (sqs (K - i) x) (sqs (K - j) y) = some (zsum (sqs (K - i) x) (sqs (K - j) y)) := by
    unfold zadd
    rw [nb_ok b1 (by omega), nb_ok b2 (by omega), zif_t (nb_ok hs hB)]
    rfl
  simp only [hz]
  have e : cn k (zsum n m) = cn K (zsum (sqs (K - i) x) (sqs (K - j) y)) := by
    conv => lhs; rw [n1, n2, ← sqs_sum, show k = K + (k - K) from by omega]
    rw [show K + (k - K) - K = k - K from by omega, cn_sqs]
  have h6 : (cn K (zsum (sqs (K - i) x) (sqs (K - j) y))).2 ≤ 60 := by
    have := (cn_out K (zsum (sqs (K - i) x) (sqs (K - j) y))).1
    omega
  rw [newD_eq hs hB (by omega) h6, ← e]
  rfl
theorem divs_z : divs zz = some zz := rfl
theorem cn_z : ∀ k : Nat, cn k zz = (zz, 0)
  | 0 => rfl
  | k + 1 => by rw [cn, divs_z]; exact cn_z k
theorem cD_z (k : Nat) : cD k zz = d0 := by unfold cD; rw [cn_z]; rfl
theorem sqs_z : ∀ t : Nat, sqs t zz = zz
  | 0 => rfl
  | t + 1 => sqs_z t
theorem cD_zero {k : Nat} {n : Zw} (h : cD k n = d0) : n = zz := by
  obtain ⟨_, h2, _⟩ := cn_out k n
  have h3 : (cn k n).1 = zz := by
    have := congrArg Dm.n h
    exact this
  rw [h2, h3, sqs_z]
theorem sum_z (n : Zw) : zsum n zz = n := by apply Zw.ext' <;> simp [zsum, zz]
theorem z_sum (n : Zw) : zsum zz n = n := by apply Zw.ext' <;> simp [zsum, zz]
theorem z_prod (y : Zw) : zprod zz y = zz := by apply Zw.ext' <;> simp [zprod, zz]
theorem cD_0 (n : Zw) : cD 0 n = dmk n 0 := rfl
end Go.Proofs.Ytgjpicekdbemiaa
