/- Comparing slices of amplitudes, lists of states and lists of branches: the program's functions and the reference's answer whether they are equal. -/
import Derived.Test.YtgjpicekdbemiaaBrs
import Derived.Test.YtgjpicekdbemiaaEqBy
import Derived.Test.YtgjpicekdbemiaaQuiet
namespace Go.Proofs.Ytgjpicekdbemiaa
open Go.RowKit
set_option linter.unusedVariables false
def eqD (a b : Dm) : Bool := a.a == b.a && (a.b == b.b && (a.c == b.c && (a.d == b.d && (a.e == b.e))))
theorem eqD_eq {a b : Dm} (h : eqD a b = true) : a = b := by
  simp [eqD] at h
  obtain ⟨a1, a2, a3, a4, a5⟩ := a
  obtain ⟨b1, b2, b3, b4, b5⟩ := b
  simp_all
theorem eqD_refl (a : Dm) : eqD a a = true := by simp [eqD]
theorem neq_D (w : World) (a b : Dm) : (binOp .neq 67 (.agg #[.int .i64 a.a, .int .i64 a.b, .int .i64 a.c, .int .i64 a.d, .int .i64 a.e]) (.agg #[.int .i64 b.a, .int .i64 b.b, .int .i64 b.c, .int .i64 b.d, .int .i64 b.e])).run Try.prog w = .ok (.bool (!eqD a b)) w := by
  simp [go_sem, eqD]
  repeat' split
  all_goals simp_all
def eqBr (x y : Br) : Bool := x.b == y.b && eqBy (eqBy eqD) x.M y.M
theorem eqBr_b {b b' : Int} {M M' : List (List Dm)} (h : b ≠ b') : eqBr ⟨b, M⟩ ⟨b', M'⟩ = false := by simp [eqBr, h]
theorem eqBr_M {b b' : Int} {M M' : List (List Dm)} (h : eqBy (eqBy eqD) M M' = false) : eqBr ⟨b, M⟩ ⟨b', M'⟩ = false := by simp [eqBr, h]
theorem eqBr_t {b : Int} {M M' : List (List Dm)} (h : eqBy (eqBy eqD) M M' = true) : eqBr ⟨b, M⟩ ⟨b, M'⟩ = true := by simp [eqBr, h]
set_option maxRecDepth 100000 in
set_option maxHeartbeats 2000000 in
theorem EqualState_spec (A A' : Option Addr) (n n' c c' : Nat) (l l' : List Dm) (w : World) (hl : l.length = n) (hl' : l'.length = n') (hn : n ≤ 1099511627776) (h1 : Rd w 5 A n (l.flatMap dcells)) (h2 : Rd w 5 A' n' (l'.flatMap dcells)) :
    Calls Try.prog 42 #[.slice A n c, .slice A' n' c'] w fun e w' => e = .returned (.bool (eqBy eqD l l')) ∧ ∃ m, w' = w.drewN m := by
  have HL := Lib.hid hl
  have HL' := Lib.hid hl'
  by_cases hnn : n = n'
  · subst hnn
    have H1 := Lib.hid h1
    have H2 := Lib.hid h2
    clear h1 h2 hl hl'
    go_enter Try.func42, Try.ntmps42
    go_wp2
    go_loopw [5] (fun i wr => ∃ k : Nat, k ≤ n ∧ i = .int .i64 k ∧ EqUpto eqD l l' k ∧ ∃ m, wr = w.drewN m) (fun i _ => n - (intOf i).toNat)
    case atStart => exact ⟨0, Nat.zero_le _, rfl, eqUpto_zero, 0, rfl⟩
    case round =>
      obtain ⟨k, hk, rfl, hup, dq, rfl⟩ := hrel
      by_cases hlt : k < n
      · have hkl : k < l.length := by rw [HL.out]; exact hlt
        have hkl' : k < l'.length := by rw [HL'.out]; exact hlt
        obtain ⟨g, hg⟩ : ∃ g, l[k]? = some g := ⟨_, List.getElem?_eq_getElem hkl⟩
        obtain ⟨g', hg'⟩ : ∃ g, l'[k]? = some g := ⟨_, List.getElem?_eq_getElem hkl'⟩
        obtain ⟨b, off, rfl, _, hc⟩ := H1.out.2 (by omega)
        obtain ⟨b', off', rfl, _, hc'⟩ := H2.out.2 (by omega)
        have q0 := hc (k * 5 + 0) _ (flat_at dcells_len l k g 0 hg (by decide))
        have q0' := hc' (k * 5 + 0) _ (flat_at dcells_len l' k g' 0 hg' (by decide))
        have q1 := hc (k * 5 + 1) _ (flat_at dcells_len l k g 1 hg (by decide))
        have q1' := hc' (k * 5 + 1) _ (flat_at dcells_len l' k g' 1 hg' (by decide))
        have q2 := hc (k * 5 + 2) _ (flat_at dcells_len l k g 2 hg (by decide))
        have q2' := hc' (k * 5 + 2) _ (flat_at dcells_len l' k g' 2 hg' (by decide))
        have q3 := hc (k * 5 + 3) _ (flat_at dcells_len l k g 3 hg (by decide))
        have q3' := hc' (k * 5 + 3) _ (flat_at dcells_len l' k g' 3 hg' (by decide))
        have q4 := hc (k * 5 + 4) _ (flat_at dcells_len l k g 4 hg (by decide))
        have q4' := hc' (k * 5 + 4) _ (flat_at dcells_len l' k g' 4 hg' (by decide))
        rw [← Nat.add_assoc] at q1 q1' q2 q2' q3 q3' q4 q4'
        rw [Nat.add_zero] at q0 q0'
        cases he : eqD g g'
        · have HF := Lib.hid (eqBy_f hg hg' he)
          have hne := fun w => neq_D w g g'
          rw [he] at hne
          clear hc hc' hg hg' hkl hkl' hup he
          go_wp2_with fail
          go_quiet (fail)
          go_wp2_with fail
          go_ret
          exact ⟨by rw [HF.out]; rfl, (by first | exact ⟨_, rfl⟩ | exact drewN2 _ _ _)⟩
        · have hgg := eqD_eq he
          have HU := Lib.hid (eqUpto_step hup hg hg' he)
          subst hgg
          clear hc hc' hg hg' hkl hkl' hup he
          go_wp2_with fail
          go_quiet (fail)
          go_wp2_with fail
          go_roundw
          case rel => exact ⟨k + 1, by omega, by go_num, HU.out, (by first | exact ⟨_, rfl⟩ | exact drewN2 _ _ _)⟩
          case measure => simp [intOf]; omega
      · obtain rfl : k = n := by omega
        have HF := Lib.hid (eqBy_t (by rw [HL.out, HL'.out]) hup (by rw [HL.out]; exact Nat.le_refl _))
        go_wp2_with fail
        go_ret
        exact ⟨by rw [HF.out]; rfl, dq, rfl⟩
  · have HF := Lib.hid (eqBy_len (f := eqD) (l := l) (l' := l') (by rw [HL.out, HL'.out]; exact hnn))
    have hne : ((n : Int) != (n' : Int)) = true := by rw [bne_iff_ne]; omega
    clear h1 h2 hl hl' hnn
    go_enter Try.func42, Try.ntmps42
    go_wp2
    go_ret
    exact ⟨by rw [HF.out]; rfl, 0, rfl⟩
end Go.Proofs.Ytgjpicekdbemiaa
