/- Permutations, plain: which lists are one, where an index goes. -/
import Derived.Test.YtgmaokpebaebkaaValid
namespace Go.Proofs.Ytgmaokpebaebkaa
open Go.RowKit
set_option linter.unusedVariables false
def stepP (p : List Int) (i : Nat) (x : Int) : Bool := inB x 0 ((p.length : Int) - 1) && !hasI (p.take i) x
def isPf (p : List Int) : Nat → List Int → Bool
  | _, [] => true
  | i, x :: r => stepP p i x && isPf p (i + 1) r
/-- Is a list of numbers a permutation of at most four? -/
def isP (p : List Int) : Bool := inB p.length 1 4 && isPf p 0 p
theorem isPf_at {p : List Int} {t : Nat} {x : Int} (h : p[t]? = some x) : isPf p t (p.drop t) = (stepP p t x && isPf p (t + 1) (p.drop (t + 1))) := by
  obtain ⟨ht, he⟩ := List.getElem?_eq_some_iff.1 h
  rw [List.drop_eq_getElem_cons ht, isPf, he]
theorem isPf_mem {p : List Int} : ∀ (l : List Int) (t : Nat), isPf p t l = true → ∀ x ∈ l, 0 ≤ x ∧ x ≤ (p.length : Int) - 1 := by
  intro l
  induction l with
  | nil => intro t _ x hx; cases hx
  | cons y l ih =>
    intro t h x hx
    rw [isPf, Bool.and_eq_true] at h
    rcases List.mem_cons.1 hx with rfl | hx
    · unfold stepP at h
      simp only [Bool.and_eq_true] at h
      exact inB_iff.1 h.1.1
    · exact ih _ h.2 x hx
theorem isP_mem {p : List Int} (h : isP p = true) : (1 ≤ p.length ∧ p.length ≤ 4) ∧ ∀ x ∈ p, 0 ≤ x ∧ x ≤ (p.length : Int) - 1 := by
  unfold isP at h
  rw [Bool.and_eq_true] at h
  have h1 := inB_iff.1 h.1
  exact ⟨by omega, isPf_mem p 0 h.2⟩
/-- One bit of an index, moved. -/
def pst (i out : Int) (q : Nat) (x : Int) : Int := bits BinOp.or IntKind.i64 out (wrap64 (bits BinOp.and IntKind.i64 (i / 2 ^ q) 1 * 2 ^ x.toNat))
def pix (i : Int) : Nat → Int → List Int → Int
  | _, out, [] => out
  | q, out, x :: r => pix i (q + 1) (pst i out q x) r
theorem pix_at {p : List Int} {t : Nat} {x i out : Int} (h : p[t]? = some x) : pix i t out (p.drop t) = pix i (t + 1) (pst i out t x) (p.drop (t + 1)) := by
  obtain ⟨ht, he⟩ := List.getElem?_eq_some_iff.1 h
  rw [List.drop_eq_getElem_cons ht, pix, he]
/-- Where an index goes. -/
def pidx (p : List Int) (i : Int) : Int := if (isP p && inB i 0 (2 ^ p.length - 1)) = true then pix i 0 0 p else 0
theorem and1 (x : Int) : 0 ≤ bits .and .i64 x 1 ∧ bits .and .i64 x 1 ≤ 1 := by
  have h : (BitVec.ofInt 64 x &&& BitVec.ofInt 64 1).toNat ≤ 1 := by
    rw [BitVec.toNat_and]
    exact Nat.le_trans Nat.and_le_right (by decide)
  have e : bits .and .i64 x 1 = IntKind.i64.wrap ((BitVec.ofInt 64 x &&& BitVec.ofInt 64 1).toNat : Int) := rfl
  rw [e, IntWalk.i64_in _ (by omega)]
  omega
theorem or_lt {n : Nat} {a b : Int} (hn : n ≤ 4) (ha : 0 ≤ a) (ha2 : a < 2 ^ n) (hb : 0 ≤ b) (hb2 : b < 2 ^ n) : 0 ≤ bits .or .i64 a b ∧ bits .or .i64 a b < 2 ^ n := by
  obtain ⟨x, rfl⟩ : ∃ x : Nat, a = x := ⟨a.toNat, by omega⟩
  obtain ⟨y, rfl⟩ : ∃ y : Nat, b = y := ⟨b.toNat, by omega⟩
  have hx : x < 2 ^ n := by exact_mod_cast ha2
  have hy : y < 2 ^ n := by exact_mod_cast hb2
  have h16 : 2 ^ n ≤ 16 := Nat.pow_le_pow_right (n := 2) (by decide) hn
  have ex : (BitVec.ofInt 64 (x : Int)).toNat = x := by
    rw [BitVec.ofInt_natCast, BitVec.toNat_ofNat]
    exact Nat.mod_eq_of_lt (by omega)
  have ey : (BitVec.ofInt 64 (y : Int)).toNat = y := by
    rw [BitVec.ofInt_natCast, BitVec.toNat_ofNat]
    exact Nat.mod_eq_of_lt (by omega)
  have e : bits .or .i64 (x : Int) (y : Int) = IntKind.i64.wrap ((BitVec.ofInt 64 (x : Int) ||| BitVec.ofInt 64 (y : Int)).toNat : Int) := rfl
  have h : (BitVec.ofInt 64 (x : Int) ||| BitVec.ofInt 64 (y : Int)).toNat < 2 ^ n := by
    rw [BitVec.toNat_or, ex, ey]
    exact Nat.or_lt_two_pow hx hy
  rw [e, IntWalk.i64_in _ (by omega)]
  refine ⟨by omega, ?_⟩
  exact_mod_cast h
theorem pst_lt {n : Nat} {i out x : Int} {q : Nat} (hn : n ≤ 4) (h0 : 0 ≤ out) (h1 : out < 2 ^ n) (hx0 : 0 ≤ x) (hx : x ≤ (n : Int) - 1) : 0 ≤ pst i out q x ∧ pst i out q x < 2 ^ n := by
  have hb := and1 (i / 2 ^ q)
  obtain ⟨k, rfl⟩ : ∃ k : Nat, x = k := ⟨x.toNat, by omega⟩
  have hk : k + 1 ≤ n := by omega
  have hp : (2 : Int) ^ k * 2 ≤ 2 ^ n := by
    have : 2 ^ (k + 1) ≤ 2 ^ n := Nat.pow_le_pow_right (n := 2) (by decide) hk
    rw [Nat.pow_succ] at this
    exact_mod_cast this
  have hpp : (0 : Int) < 2 ^ k := Int.pow_pos (by decide)
  have h16 : (2 : Int) ^ n ≤ 16 := by
    have : 2 ^ n ≤ 16 := Nat.pow_le_pow_right (n := 2) (by decide) hn
    exact_mod_cast this
  have hy : 0 ≤ bits .and .i64 (i / 2 ^ q) 1 * 2 ^ k ∧ bits .and .i64 (i / 2 ^ q) 1 * 2 ^ k < 2 ^ n := by
    have h : bits .and .i64 (i / 2 ^ q) 1 = 0 ∨ bits .and .i64 (i / 2 ^ q) 1 = 1 := by omega
    rcases h with h | h <;> rw [h]
    · simp; omega
    · simp; omega
  have hw : wrap64 (bits .and .i64 (i / 2 ^ q) 1 * 2 ^ k) = bits .and .i64 (i / 2 ^ q) 1 * 2 ^ k := IntWalk.wrap64_in _ (by omega)
  unfold pst
  rw [show ((k : Int).toNat) = k by omega, hw]
  exact or_lt hn h0 h1 hy.1 hy.2
theorem pix_lt {n : Nat} {i : Int} (hn : n ≤ 4) : ∀ (l : List Int) (q : Nat) (out : Int), 0 ≤ out → out < 2 ^ n → (∀ x ∈ l, 0 ≤ x ∧ x ≤ (n : Int) - 1) → 0 ≤ pix i q out l ∧ pix i q out l < 2 ^ n := by
  intro l
  induction l with
  | nil => intro q out h0 h1 _; exact ⟨h0, h1⟩
  | cons x l ih =>
    intro q out h0 h1 hm
    have hx := hm x (by simp)
    obtain ⟨a, b⟩ := pst_lt (i := i) (q := q) hn h0 h1 hx.1 hx.2
    exact ih _ _ a b (fun y hy => hm y (by simp [hy]))
theorem pidx_lt {p : List Int} (h : isP p = true) (i : Int) : 0 ≤ pidx p i ∧ pidx p i < 2 ^ p.length := by
  obtain ⟨hl, hm⟩ := isP_mem h
  have hpp : (0 : Int) < 2 ^ p.length := Int.pow_pos (by decide)
  unfold pidx
  split
  · exact pix_lt hl.2 p 0 0 (by omega) hpp hm
  · exact ⟨by omega, hpp⟩
end Go.Proofs.Ytgmaokpebaebkaa
