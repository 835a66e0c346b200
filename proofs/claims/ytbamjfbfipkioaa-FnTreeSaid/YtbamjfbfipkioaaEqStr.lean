/- Comparing two slices of strings: the program's function and the reference's answer whether the lists are equal. -/
import Derived.Test.YtbamjfbfipkioaaEqBy
import Derived.Test.YtbamjfbfipkioaaQuiet
import Derived.Test.YtbamjfbfipkioaaStrS
namespace Go.Proofs.Ytbamjfbfipkioaa
open Go.RowKit
set_option linter.unusedVariables false
set_option maxRecDepth 100000 in
set_option maxHeartbeats 2000000 in
theorem sameStr_any (A A' : Option Addr) (n n' c c' : Nat) (l l' : List ByteArray) (w : World) (hl : l.length = n) (hl' : l'.length = n') (hn : n ≤ 1099511627776) (h1 : Rd w 1 A n (strs l)) (h2 : Rd w 1 A' n' (strs l')) :
    Calls Try.prog 17 #[.slice A n c, .slice A' n' c'] w fun e w' => e = .returned (.bool (eqBy eqSt l l')) ∧ ∃ m, w' = w.drewN m := by
  have HL := Lib.hid hl
  have HL' := Lib.hid hl'
  by_cases hnn : n = n'
  · subst hnn
    have H1 := Lib.hid h1
    have H2 := Lib.hid h2
    clear h1 h2 hl hl'
    go_enter Try.func17, Try.ntmps17
    go_wp2
    go_loopw [13] (fun i wr => ∃ k : Nat, k ≤ n ∧ i = .int .i64 k ∧ EqUpto eqSt l l' k ∧ ∃ m, wr = w.drewN m) (fun i _ => n - (intOf i).toNat)
    case atStart => exact ⟨0, Nat.zero_le _, rfl, eqUpto_zero, 0, rfl⟩
    case round =>
      obtain ⟨k, hk, rfl, hup, m, rfl⟩ := hrel
      by_cases hlt : k < n
      · have hkl : k < l.length := by rw [HL.out]; exact hlt
        have hkl' : k < l'.length := by rw [HL'.out]; exact hlt
        obtain ⟨g, hg⟩ : ∃ g, l[k]? = some g := ⟨_, List.getElem?_eq_getElem hkl⟩
        obtain ⟨g', hg'⟩ : ∃ g, l'[k]? = some g := ⟨_, List.getElem?_eq_getElem hkl'⟩
        obtain ⟨b, off, rfl, _, hc⟩ := H1.out.2 (by omega)
        obtain ⟨b', off', rfl, _, hc'⟩ := H2.out.2 (by omega)
        have q0 := hc k _ (strs_at hg)
        have q0' := hc' k _ (strs_at hg')
        cases he : eqSt g g'
        · have HF := Lib.hid (eqBy_f hg hg' he)
          have hne : (g.toList == g'.toList) = false := he
          clear hc hc' hg hg' hkl hkl' hup he
          go_wp2_with fail
          go_quiet (fail)
          go_wp2_with fail
          go_ret
          exact ⟨by rw [HF.out]; rfl, (by first | exact ⟨_, rfl⟩ | exact drewN2 _ _ _)⟩
        · have hgg := eqSt_eq he
          subst hgg
          have HU := Lib.hid (eqUpto_step hup hg hg' he)
          clear hc hc' hg hg' hkl hkl' hup he
          go_wp2_with fail
          go_quiet (fail)
          go_wp2_with fail
          go_roundw
          case rel => exact ⟨k + 1, by omega, by go_num, HU.out, (by first | exact ⟨_, rfl⟩ | exact drewN2 _ _ _)⟩
          case measure => simp [intOf]; omega
      · obtain rfl : k = n := by omega
        have HF := Lib.hid (eqBy_t (by rw [HL.out, HL'.out]) hup (by rw [HL.out]; exact Nat.le_refl _))
        go_wp2_with fail
        go_ret
        exact ⟨by rw [HF.out]; rfl, m, rfl⟩
  · have HF := Lib.hid (eqBy_len (f := eqSt) (l := l) (l' := l') (by rw [HL.out, HL'.out]; exact hnn))
    have hne : ((n : Int) != (n' : Int)) = true := by rw [bne_iff_ne]; omega
    clear h1 h2 hl hl'
    go_enter Try.func17, Try.ntmps17
    go_wp2
    go_ret
    exact ⟨by rw [HF.out]; rfl, 0, rfl⟩
end Go.Proofs.Ytbamjfbfipkioaa
