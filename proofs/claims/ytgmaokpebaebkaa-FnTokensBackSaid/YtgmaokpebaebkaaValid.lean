/- Arity, the qubits of a gate, and when a gate is valid: the program's functions and the reference's compute the same. -/
import Derived.Test.YtgmaokpebaebkaaGate
import Derived.Test.YtgmaokpebaebkaaSeen
namespace Go.Proofs.Ytgmaokpebaebkaa
open Go.RowKit

def ar (k : Int) : Nat := if inB k 1 8 then 1 else if inB k 9 11 then 2 else if k = 12 then 3 else 0
theorem ar_le (k : Int) : ar k ≤ 3 := by
  unfold ar
  split
  · omega
  · split
    · omega
    · split <;> omega

def qsOf (g : Gt) : List Int := [g.a, g.b, g.c]
def vstep (m : Nat) (n : Int) (qs : List Int) (t : Nat) : Bool := if m ≤ t then qs.getD t 0 == 0 else inB (qs.getD t 0) 0 (n - 1) && !(qs.take t).contains (qs.getD t 0)
def vupto (m : Nat) (n : Int) (qs : List Int) : Nat → Bool
  | 0 => true
  | t + 1 => vupto m n qs t && vstep m n qs t
def validG (g : Gt) (n : Int) : Bool := (inB n 1 4 && decide (ar g.k ≠ 0)) && vupto (ar g.k) n (qsOf g) 3
theorem vupto_f {m : Nat} {n : Int} {qs : List Int} {t : Nat} (h : vstep m n qs t = false) (h3 : t < 3) : vupto m n qs 3 = false := by
  match t, h3 with
  | 0, _ => simp [vupto, h]
  | 1, _ => simp [vupto, h]
  | 2, _ => simp [vupto, h]
  | _ + 3, h => omega
theorem validG_n {g : Gt} {n : Int} (h : inB n 1 4 = false) : validG g n = false := by simp [validG, h]
theorem validG_k {g : Gt} {n : Int} (h : ar g.k = 0) : validG g n = false := by simp [validG, h]
theorem validG_f {g : Gt} {n : Int} {t : Nat} (h : vstep (ar g.k) n (qsOf g) t = false) (h3 : t < 3) : validG g n = false := by simp [validG, vupto_f h h3]
theorem validG_t {g : Gt} {n : Int} (h : inB n 1 4 = true) (hk : ar g.k ≠ 0) (h3 : vupto (ar g.k) n (qsOf g) 3 = true) : validG g n = true := by simp [validG, h, hk, h3]
theorem vstep_hi_t {m : Nat} {n : Int} {qs : List Int} {t : Nat} (h : m ≤ t) (hq : (qs.getD t 0 == 0) = true) : vstep m n qs t = true := by simpa [vstep, h] using hq
theorem vstep_hi_f {m : Nat} {n : Int} {qs : List Int} {t : Nat} (h : m ≤ t) (hq : (qs.getD t 0 == 0) = false) : vstep m n qs t = false := by simpa [vstep, h] using hq
theorem vstep_in_f {m : Nat} {n : Int} {qs : List Int} {t : Nat} (h : t < m) (hq : inB (qs.getD t 0) 0 (n - 1) = false) : vstep m n qs t = false := by rw [vstep, if_neg (by omega), hq]; rfl
theorem vstep_seen_f {m : Nat} {n : Int} {qs : List Int} {t : Nat} (h : t < m) (hq : (qs.take t).contains (qs.getD t 0) = true) : vstep m n qs t = false := by rw [vstep, if_neg (by omega), hq]; simp
theorem vstep_lo_t {m : Nat} {n : Int} {qs : List Int} {t : Nat} (h : t < m) (h1 : inB (qs.getD t 0) 0 (n - 1) = true) (h2 : (qs.take t).contains (qs.getD t 0) = false) : vstep m n qs t = true := by rw [vstep, if_neg (by omega), h1, h2]; rfl
theorem take_snoc {qs : List Int} {t : Nat} (h : t < qs.length) : qs.take t ++ [qs.getD t 0] = qs.take (t + 1) := by
  rw [List.take_succ_eq_append_getElem h, List.getD_eq_getElem?_getD, List.getElem?_eq_getElem h]; rfl

theorem ints_at (xs : List Int) (j : Nat) (h : j < xs.length) : (xs.map (Value.int .i64))[j]? = some (.int .i64 (xs.getD j 0)) := by
  simp [List.getD_eq_getElem?_getD, h]
theorem contains_snoc_f {xs : List Int} {x : Int} {t : Nat} (h : t < xs.length) (h1 : (xs.take t).contains x = false) (h2 : (xs.getD t 0 == x) = false) : (xs.take (t + 1)).contains x = false := by
  rw [← take_snoc h]
  have h2' : ¬ x = xs.getD t 0 := fun e => by rw [e] at h2; simp at h2
  rw [List.contains_eq_mem] at h1 ⊢
  simp only [decide_eq_false_iff_not, List.mem_append, List.mem_singleton, not_or] at h1 ⊢
  exact ⟨h1, h2'⟩
theorem contains_at {xs : List Int} {x : Int} {t : Nat} (h : t < xs.length) (h2 : (xs.getD t 0 == x) = true) : xs.contains x = true := by
  have e : xs.getD t 0 = x := by simpa using h2
  rw [List.contains_eq_mem, decide_eq_true_iff, ← e, List.getD_eq_getElem?_getD, List.getElem?_eq_getElem h]
  exact List.getElem_mem h
def hasI (xs : List Int) (x : Int) : Bool := xs.contains x
set_option maxRecDepth 100000 in
theorem l1HasInt_any (A : Option Addr) (n c : Nat) (xs : List Int) (x : Int) (w : World) (h : Rd w 1 A n (xs.map (Value.int .i64))) (hl : xs.length = n) (hn : n ≤ 1099511627776) :
    Calls Try.prog 52 #[.slice A n c, .int .i64 x] w fun e w' => e = .returned (.bool (hasI xs x)) ∧ w = w' := by
  have H := Lib.hid h
  have HL := Lib.hid hl
  clear h hl
  go_enter Try.func52, Try.ntmps52
  go_wp2
  go_loop [5] (fun i => ∃ t : Nat, t ≤ n ∧ i = .int .i64 t ∧ (xs.take t).contains x = false) (fun i => n - (intOf i).toNat)
  case atStart => exact ⟨0, Nat.zero_le _, rfl, by simp⟩
  case round =>
    obtain ⟨t, ht, rfl, hno⟩ := hrel
    have HN := Lib.hid hno
    clear hno
    by_cases hlt : t < n
    · obtain ⟨b, off, rfl, _, hc⟩ := H.out.2 (by omega)
      have q0 := hc t _ (ints_at xs t (by rw [HL.out]; exact hlt))
      clear hc
      obtain ⟨y, hy⟩ : ∃ y, y = xs.getD t 0 := ⟨_, rfl⟩
      rw [← hy] at q0
      have HY := Lib.hid hy
      clear hy
      cases he : (y == x)
      · go_wp2
        go_round
        case rel => exact ⟨t + 1, by omega, by go_num, contains_snoc_f (by rw [HL.out]; exact hlt) HN.out (by rw [← HY.out]; exact he)⟩
        case measure => simp [intOf]; omega
      · have HF : Hid (hasI xs x = true) := Lib.hid (contains_at (by rw [HL.out]; exact hlt) (by rw [← HY.out]; exact he))
        go_wp2
        go_ret
        exact ⟨by rw [HF.out]; rfl, rfl⟩
    · obtain rfl : t = n := by omega
      have HF : Hid (hasI xs x = false) := by
        have h := HN.out
        rw [List.take_of_length_le (by rw [HL.out]; exact Nat.le_refl _)] at h
        exact h
      go_wp2
      go_ret
      exact ⟨by rw [HF.out]; rfl, rfl⟩
end Go.Proofs.Ytgmaokpebaebkaa
