/- Arity, the qubits of a gate, and when a gate is valid: the program's functions and the reference's compute the same. -/
import Derived.Test.YtbamjfbfipkioaaGate
import Derived.Test.YtbamjfbfipkioaaSeen
namespace Go.Proofs.Ytbamjfbfipkioaa
open Go.RowKit

def ar (k : Int) : Nat := if inB k 1 8 then 1 else if inB k 9 11 then 2 else if k = 12 then 3 else 0
theorem ar_le (k : Int) : ar k ≤ 3 := by
  unfold ar
  split
  · omega
  · split
    · omega
    · split <;> omega
set_option maxRecDepth 100000 in
theorem Arity_spec (k : Int) (w : World) : Calls Try.prog 23 #[.int .i64 k] w fun e w' => e = .returned (.int .i64 (ar k)) ∧ w = w' := by
  cases h1 : inB k 1 8
  · cases h2 : inB k 9 11
    · by_cases h3 : k = 12
      · subst h3
        go_enter Try.func23, Try.ntmps23
        go_wp2_with (go_at_call 29; refine (l1In_any _ _ _ _).mono ?_; rintro e w' ⟨rfl, rfl⟩)
        go_ret
        exact ⟨rfl, rfl⟩
      · have e : ar k = 0 := by simp [ar, h1, h2, h3]
        rw [e]
        have h4 : (k == 12) = false := beq_eq_false_iff_ne.2 h3
        clear h3 e
        go_enter Try.func23, Try.ntmps23
        go_wp2_with (go_at_call 29; refine (l1In_any _ _ _ _).mono ?_; rintro e w' ⟨rfl, rfl⟩)
        go_ret
        exact ⟨rfl, rfl⟩
    · have e : ar k = 2 := by simp [ar, h1, h2]
      rw [e]
      clear e
      go_enter Try.func23, Try.ntmps23
      go_wp2_with (go_at_call 29; refine (l1In_any _ _ _ _).mono ?_; rintro e w' ⟨rfl, rfl⟩)
      go_ret
      exact ⟨rfl, rfl⟩
  · have e : ar k = 1 := by simp [ar, h1]
    rw [e]
    clear e
    go_enter Try.func23, Try.ntmps23
    go_wp2_with (go_at_call 29; refine (l1In_any _ _ _ _).mono ?_; rintro e w' ⟨rfl, rfl⟩)
    go_ret
    exact ⟨rfl, rfl⟩

def qsOf (g : Gt) : List Int := [g.a, g.b, g.c]
def vstep (m : Nat) (n : Int) (qs : List Int) (t : Nat) : Bool := if m ≤ t then qs.getD t 0 == 0 else inB (qs.getD t 0) 0 (n - 1) && !(qs.take t).contains (qs.getD t 0)
def vupto (m : Nat) (n : Int) (qs : List Int) : Nat → Bool
  | 0 => true
  | t + 1 => vupto m n qs t && vstep m n qs t
def validG (g : Gt) (n : Int) : Bool := (inB n 1 4 && decide (ar g.k ≠ 0)) && vupto (ar g.k) n (qsOf g) 3
theorem vupto_f {m : Nat} {n : Int} {qs : List Int} {t : Nat} (h : vstep m n qs t = false) (h3 : t < 3) : vupto m n qs 3 = false := by
  match t, h3 with
  | 0, _ => simp [vupto, h]
  | 1, _ => simp [vupto, h]
  | 2, _ => simp [vupto, h]
  | _ + 3, h => omega
theorem validG_n {g : Gt} {n : Int} (h : inB n 1 4 = false) : validG g n = false := by simp [validG, h]
theorem validG_k {g : Gt} {n : Int} (h : ar g.k = 0) : validG g n = false := by simp [validG, h]
theorem validG_f {g : Gt} {n : Int} {t : Nat} (h : vstep (ar g.k) n (qsOf g) t = false) (h3 : t < 3) : validG g n = false := by simp [validG, vupto_f h h3]
theorem validG_t {g : Gt} {n : Int} (h : inB n 1 4 = true) (hk : ar g.k ≠ 0) (h3 : vupto (ar g.k) n (qsOf g) 3 = true) : validG g n = true := by simp [validG, h, hk, h3]
theorem vstep_hi_t {m : Nat} {n : Int} {qs : List Int} {t : Nat} (h : m ≤ t) (hq : (qs.getD t 0 == 0) = true) : vstep m n qs t = true := by simpa [vstep, h] using hq
theorem vstep_hi_f {m : Nat} {n : Int} {qs : List Int} {t : Nat} (h : m ≤ t) (hq : (qs.getD t 0 == 0) = false) : vstep m n qs t = false := by simpa [vstep, h] using hq
theorem vstep_in_f {m : Nat} {n : Int} {qs : List Int} {t : Nat} (h : t < m) (hq : inB (qs.getD t 0) 0 (n - 1) = false) : vstep m n qs t = false := by rw [vstep, if_neg (by omega), hq]; rfl
theorem vstep_seen_f {m : Nat} {n : Int} {qs : List Int} {t : Nat} (h : t < m) (hq : (qs.take t).contains (qs.getD t 0) = true) : vstep m n qs t = false := by rw [vstep, if_neg (by omega), hq]; simp
theorem vstep_lo_t {m : Nat} {n : Int} {qs : List Int} {t : Nat} (h : t < m) (h1 : inB (qs.getD t 0) 0 (n - 1) = true) (h2 : (qs.take t).contains (qs.getD t 0) = false) : vstep m n qs t = true := by rw [vstep, if_neg (by omega), h1, h2]; rfl
theorem take_snoc {qs : List Int} {t : Nat} (h : t < qs.length) : qs.take t ++ [qs.getD t 0] = qs.take (t + 1) := by
  rw [List.take_succ_eq_append_getElem h, List.getD_eq_getElem?_getD, List.getElem?_eq_getElem h]; rfl

theorem info_int : (Try.prog.info? 3).map (fun i => (i.zero, i.size, i.bytes)) = some (some (.int .i64 0), 1, 8) := by kernel_rfl
end Go.Proofs.Ytbamjfbfipkioaa
