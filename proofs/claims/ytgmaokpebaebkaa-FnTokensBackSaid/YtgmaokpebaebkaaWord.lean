/- Words: the program's function and the reference's answer whether a string is one. -/
import Derived.Test.YtgmaokpebaebkaaIn
import Derived.Test.YtgmaokpebaebkaaKit
namespace Go.Proofs.Ytgmaokpebaebkaa
open Go.RowKit
set_option linter.unusedVariables false
def ltrB (x : Int) : Bool := decide (97 ≤ x ∧ x ≤ 122) || decide (48 ≤ x ∧ x ≤ 57)
theorem ltrB_1 {x : Int} (h1 : 97 ≤ x) (h2 : x ≤ 122) : ltrB x = true := by simp [ltrB, h1, h2]
theorem ltrB_2 {x : Int} (h1 : 48 ≤ x) (h2 : x ≤ 57) : ltrB x = true := by simp [ltrB, h1, h2]
theorem ltrB_f {x : Int} (h1 : x < 97 ∨ 122 < x) (h2 : x < 48 ∨ 57 < x) : ltrB x = false := by simp [ltrB]; omega
set_option maxRecDepth 100000 in
set_option maxHeartbeats 1000000 in
theorem isLetter_any (x : Int) (w : World) : Calls Try.prog 27 #[.int .u8 x] w fun e w' => e = .returned (.bool (ltrB x)) ∧ w = w' := by
  by_cases h1 : 97 ≤ x
  · by_cases h2 : x ≤ 122
    · rw [ltrB_1 h1 h2]
      go_enter Try.func27, Try.ntmps27
      go_wp2
      go_ret
      exact ⟨rfl, rfl⟩
    · rw [ltrB_f (by omega) (by omega)]
      have h3 : decide (x ≤ 122) = false := by simpa using h2
      have h4 : decide (x ≤ 57) = false := by simp; omega
      have h5 : (48 : Int) ≤ x := by omega
      clear h2
      go_enter Try.func27, Try.ntmps27
      go_wp2
      go_ret
      exact ⟨rfl, rfl⟩
  · have h3 : decide (97 ≤ x) = false := by simpa using h1
    by_cases h4 : 48 ≤ x
    · by_cases h5 : x ≤ 57
      · rw [ltrB_2 h4 h5]
        clear h1
        go_enter Try.func27, Try.ntmps27
        go_wp2
        go_ret
        exact ⟨rfl, rfl⟩
      · rw [ltrB_f (by omega) (by omega)]
        have h6 : decide (x ≤ 57) = false := by simpa using h5
        clear h1 h5
        go_enter Try.func27, Try.ntmps27
        go_wp2
        go_ret
        exact ⟨rfl, rfl⟩
    · rw [ltrB_f (by omega) (by omega)]
      have h6 : decide (48 ≤ x) = false := by simpa using h4
      clear h1 h4
      go_enter Try.func27, Try.ntmps27
      go_wp2
      go_ret
      exact ⟨rfl, rfl⟩
set_option maxRecDepth 100000 in
set_option maxHeartbeats 1000000 in
theorem l16Letter_any (x : Int) (w : World) : Calls Try.prog 30 #[.int .u8 x] w fun e w' => e = .returned (.bool (ltrB x)) ∧ w = w' := by
  by_cases h1 : 97 ≤ x
  · by_cases h2 : x ≤ 122
    · rw [ltrB_1 h1 h2]
      go_enter Try.func30, Try.ntmps30
      go_wp2
      go_ret
      exact ⟨rfl, rfl⟩
    · rw [ltrB_f (by omega) (by omega)]
      have h3 : decide (x ≤ 122) = false := by simpa using h2
      have h4 : decide (x ≤ 57) = false := by simp; omega
      have h5 : (48 : Int) ≤ x := by omega
      clear h2
      go_enter Try.func30, Try.ntmps30
      go_wp2
      go_ret
      exact ⟨rfl, rfl⟩
  · have h3 : decide (97 ≤ x) = false := by simpa using h1
    by_cases h4 : 48 ≤ x
    · by_cases h5 : x ≤ 57
      · rw [ltrB_2 h4 h5]
        clear h1
        go_enter Try.func30, Try.ntmps30
        go_wp2
        go_ret
        exact ⟨rfl, rfl⟩
      · rw [ltrB_f (by omega) (by omega)]
        have h6 : decide (x ≤ 57) = false := by simpa using h5
        clear h1 h5
        go_enter Try.func30, Try.ntmps30
        go_wp2
        go_ret
        exact ⟨rfl, rfl⟩
    · rw [ltrB_f (by omega) (by omega)]
      have h6 : decide (48 ≤ x) = false := by simpa using h4
      clear h1 h4
      go_enter Try.func30, Try.ntmps30
      go_wp2
      go_ret
      exact ⟨rfl, rfl⟩
def letsUpto (s : ByteArray) (k : Nat) : Bool := (s.data.toList.take k).all fun c => ltrB c.toNat
def wordOk (s : ByteArray) : Bool := letsUpto s s.size && inB s.size 1 8
theorem lets_step {s : ByteArray} {k : Nat} (h : k < s.size) : letsUpto s (k + 1) = (letsUpto s k && ltrB (s[k].toNat : Int)) := by
  unfold letsUpto
  rw [List.take_succ_eq_append_getElem (by simpa using h)]
  simp
  rfl
theorem lets_le {s : ByteArray} {k : Nat} (h : k ≤ s.size) (hf : letsUpto s k = false) : letsUpto s s.size = false := by
  unfold letsUpto at hf ⊢
  rw [List.all_eq_false] at hf ⊢
  obtain ⟨x, hx, hn⟩ := hf
  exact ⟨x, List.mem_of_mem_take (by rwa [List.take_take, Nat.min_eq_left h] : x ∈ List.take k (List.take s.size s.data.toList)), hn⟩
theorem wordOk_f {s : ByteArray} {k : Nat} (h : k < s.size) (hp : letsUpto s k = true) (hf : ltrB (s[k].toNat : Int) = false) : wordOk s = false := by
  have : letsUpto s (k + 1) = false := by rw [lets_step h, hf]; simp
  rw [wordOk, lets_le (by omega) this]
  rfl
theorem wordOk_e {s : ByteArray} (hp : letsUpto s s.size = true) : wordOk s = inB s.size 1 8 := by rw [wordOk, hp]; rfl
set_option maxRecDepth 100000 in
set_option maxHeartbeats 1000000 in
theorem IsValidWord_impl (s : ByteArray) (w : World) (hs : s.size ≤ 9223372036854775807) : Calls Try.prog 28 #[.string s] w fun e w' => e = .returned (.bool (wordOk s)) ∧ w = w' := by
  go_enter Try.func28, Try.ntmps28
  go_wp2
  go_loop [3] (fun i => ∃ k : Nat, k ≤ s.size ∧ i = .int .i64 k ∧ letsUpto s k = true) (fun i => s.size - (intOf i).toNat)
  case atStart => exact ⟨0, Nat.zero_le _, rfl, rfl⟩
  case round =>
    obtain ⟨k, hk, rfl, hp⟩ := hrel
    have HP := Lib.hid hp
    clear hp
    by_cases hlt : k < s.size
    · cases hl : ltrB (s[k].toNat : Int)
      · have HF := Lib.hid (wordOk_f hlt HP.out hl)
        go_wp2_with (go_at_call 27; refine (isLetter_any _ _).mono ?_; rintro e w' ⟨rfl, rfl⟩)
        go_ret
        exact ⟨by rw [HF.out]; rfl, rfl⟩
      · have HS := Lib.hid (show letsUpto s (k + 1) = true by rw [lets_step hlt, HP.out, hl]; rfl)
        go_wp2_with (go_at_call 27; refine (isLetter_any _ _).mono ?_; rintro e w' ⟨rfl, rfl⟩)
        go_round
        case rel => exact ⟨k + 1, by omega, by go_num, HS.out⟩
        case measure => simp [intOf]; omega
    · obtain rfl : k = s.size := by omega
      have HF := Lib.hid (wordOk_e HP.out)
      go_wp2_with (go_at_call 47; refine (in_any _ _ _ _).mono ?_; rintro e w' ⟨rfl, rfl⟩)
      go_ret
      exact ⟨by rw [HF.out]; rfl, rfl⟩
set_option maxRecDepth 100000 in
set_option maxHeartbeats 1000000 in
theorem IsValidWord_spec (s : ByteArray) (w : World) (hs : s.size ≤ 9223372036854775807) : Calls Try.prog 48 #[.string s] w fun e w' => e = .returned (.bool (wordOk s)) ∧ w = w' := by
  go_enter Try.func48, Try.ntmps48
  go_wp2
  go_loop [3] (fun i => ∃ k : Nat, k ≤ s.size ∧ i = .int .i64 k ∧ letsUpto s k = true) (fun i => s.size - (intOf i).toNat)
  case atStart => exact ⟨0, Nat.zero_le _, rfl, rfl⟩
  case round =>
    obtain ⟨k, hk, rfl, hp⟩ := hrel
    have HP := Lib.hid hp
    clear hp
    by_cases hlt : k < s.size
    · cases hl : ltrB (s[k].toNat : Int)
      · have HF := Lib.hid (wordOk_f hlt HP.out hl)
        go_wp2_with (go_at_call 30; refine (l16Letter_any _ _).mono ?_; rintro e w' ⟨rfl, rfl⟩)
        go_ret
        exact ⟨by rw [HF.out]; rfl, rfl⟩
      · have HS := Lib.hid (show letsUpto s (k + 1) = true by rw [lets_step hlt, HP.out, hl]; rfl)
        go_wp2_with (go_at_call 30; refine (l16Letter_any _ _).mono ?_; rintro e w' ⟨rfl, rfl⟩)
        go_round
        case rel => exact ⟨k + 1, by omega, by go_num, HS.out⟩
        case measure => simp [intOf]; omega
    · obtain rfl : k = s.size := by omega
      have HF := Lib.hid (wordOk_e HP.out)
      go_wp2_with (go_at_call 49; refine (l1In_any _ _ _ _).mono ?_; rintro e w' ⟨rfl, rfl⟩)
      go_ret
      exact ⟨by rw [HF.out]; rfl, rfl⟩
end Go.Proofs.Ytgmaokpebaebkaa
