/- Is a word in a list: both sides. -/
import Derived.Test.YtbamjfbfipkioaaEqStr
namespace Go.Proofs.Ytbamjfbfipkioaa
open Go.RowKit
set_option linter.unusedVariables false
def hasS (l : List ByteArray) (s : ByteArray) : Bool := l.any fun x => eqSt x s
theorem hasS_t {l : List ByteArray} {s x : ByteArray} {t : Nat} (h : l[t]? = some x) (he : eqSt x s = true) : hasS l s = true := List.any_eq_true.2 ⟨x, List.mem_of_getElem? h, he⟩
theorem hasS_step {l : List ByteArray} {s x : ByteArray} {t : Nat} (h : l[t]? = some x) (he : eqSt x s = false) (h0 : hasS (l.take t) s = false) : hasS (l.take (t + 1)) s = false := by
  unfold hasS at h0 ⊢
  rw [List.take_add_one, h]
  simp only [Option.toList_some, List.any_append, h0, List.any_cons, List.any_nil, he]
  rfl
set_option maxRecDepth 100000 in
set_option maxHeartbeats 1000000 in
theorem l1Has_any (A : Option Addr) (n c : Nat) (l : List ByteArray) (s : ByteArray) (w : World) (h : Rd w 1 A n (strs l)) (hl : l.length = n) (hn : n ≤ 1099511627776) :
    Calls Try.prog 35 #[.slice A n c, .string s] w fun e w' => e = .returned (.bool (hasS l s)) ∧ w = w' := by
  have H := Lib.hid h
  have HL := Lib.hid hl
  clear h hl
  go_enter Try.func35, Try.ntmps35
  go_wp2
  go_loop [5] (fun i => ∃ t : Nat, t ≤ n ∧ i = .int .i64 t ∧ hasS (l.take t) s = false) (fun i => n - (intOf i).toNat)
  case atStart => exact ⟨0, Nat.zero_le _, rfl, rfl⟩
  case round =>
    obtain ⟨t, ht, rfl, hok⟩ := hrel
    have HOK := Lib.hid hok
    clear hok
    by_cases hlt : t < n
    · obtain ⟨x, hx⟩ : ∃ x, l[t]? = some x := ⟨_, List.getElem?_eq_getElem (by rw [HL.out]; exact hlt)⟩
      obtain ⟨b, off, rfl, _, hc⟩ := H.out.2 (by omega)
      have q0 := hc t _ (strs_at hx)
      have HX := Lib.hid hx
      clear hc hx
      cases he : eqSt x s
      · have hne : (x.toList == s.toList) = false := he
        have HN := Lib.hid (hasS_step HX.out he HOK.out)
        clear he
        go_wp2_with fail
        go_round
        case rel => exact ⟨t + 1, by omega, by go_num, HN.out⟩
        case measure => simp [intOf]; omega
      · have hne : (x.toList == s.toList) = true := he
        have HF := Lib.hid (hasS_t HX.out he)
        clear he
        go_wp2_with fail
        go_ret
        exact ⟨by rw [HF.out]; rfl, rfl⟩
    · obtain rfl : t = n := by omega
      have HF : Hid (hasS l s = false) := by
        have h := HOK.out
        rw [List.take_of_length_le (by rw [HL.out]; exact Nat.le_refl _)] at h
        exact h
      go_wp2_with fail
      go_ret
      exact ⟨by rw [HF.out]; rfl, rfl⟩
end Go.Proofs.Ytbamjfbfipkioaa
