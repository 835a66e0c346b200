/- Comparing slices of amplitudes, lists of states and lists of branches: the program's functions and the reference's answer whether they are equal. -/
import Derived.Test.YtbffpehajkgjeaaBrs
import Derived.Test.YtbffpehajkgjeaaEqBy
import Derived.Test.YtbffpehajkgjeaaQuiet
namespace Go.Proofs.Ytbffpehajkgjeaa
open Go.RowKit
set_option linter.unusedVariables false
def eqD (a b : Dm) : Bool := a.a == b.a && (a.b == b.b && (a.c == b.c && (a.d == b.d && (a.e == b.e))))
theorem eqD_eq {a b : Dm} (h : eqD a b = true) : a = b := by
  simp [eqD] at h
  obtain ⟨a1, a2, a3, a4, a5⟩ := a
  obtain ⟨b1, b2, b3, b4, b5⟩ := b
  simp_all
theorem eqD_refl (a : Dm) : eqD a a = true := by simp [eqD]
theorem neq_D (w : World) (a b : Dm) : (binOp .neq 118 (.agg #[.int .i64 a.a, .int .i64 a.b, .int .i64 a.c, .int .i64 a.d, .int .i64 a.e]) (.agg #[.int .i64 b.a, .int .i64 b.b, .int .i64 b.c, .int .i64 b.d, .int .i64 b.e])).run Try.prog w = .ok (.bool (!eqD a b)) w := by
  simp [go_sem, eqD]
  repeat' split
  all_goals simp_all
def eqBr (x y : Br) : Bool := x.b == y.b && eqBy (eqBy eqD) x.M y.M
theorem eqBr_b {b b' : Int} {M M' : List (List Dm)} (h : b ≠ b') : eqBr ⟨b, M⟩ ⟨b', M'⟩ = false := by simp [eqBr, h]
theorem eqBr_M {b b' : Int} {M M' : List (List Dm)} (h : eqBy (eqBy eqD) M M' = false) : eqBr ⟨b, M⟩ ⟨b', M'⟩ = false := by simp [eqBr, h]
theorem eqBr_t {b : Int} {M M' : List (List Dm)} (h : eqBy (eqBy eqD) M M' = true) : eqBr ⟨b, M⟩ ⟨b, M'⟩ = true := by simp [eqBr, h]
set_option maxRecDepth 100000 in
set_option maxHeartbeats 2000000 in
theorem EqualState_spec (A A' : Option Addr) (n n' c c' : Nat) (l l' : List Dm) (w : World) (hl : l.length = n) (hl' : l'.length = n') (hn : n ≤ 1099511627776) (h1 : Rd w 5 A n (l.flatMap dcells)) (h2 : Rd w 5 A' n' (l'.flatMap dcells)) :
    Calls Try.prog 118 #[.slice A n c, .slice A' n' c'] w fun e w' => e = .returned (.bool (eqBy eqD l l')) ∧ ∃ m, w' = w.drewN m := by
  have HL := Lib.hid hl
  have HL' := Lib.hid hl'
  by_cases hnn : n = n'
  · subst hnn
    have H1 := Lib.hid h1
    have H2 := Lib.hid h2
    clear h1 h2 hl hl'
    go_enter Try.func118, Try.ntmps118
    go_wp2
    go_loopw [5] (fun i wr => ∃ k : Nat, k ≤ n ∧ i = .int .i64 k ∧ EqUpto eqD l l' k ∧ ∃ m, wr = w.drewN m) (fun i _ => n - (intOf i).toNat)
    case atStart => exact ⟨0, Nat.zero_le _, rfl, eqUpto_zero, 0, rfl⟩
    case round =>
      obtain ⟨k, hk, rfl, hup, dq, rfl⟩ := hrel
      by_cases hlt : k < n
      · have hkl : k < l.length := by rw [HL.out]; exact hlt
        have hkl' : k < l'.length := by rw [HL'.out]; exact hlt
        obtain ⟨g, hg⟩ : ∃ g, l[k]? = some g := ⟨_, List.getElem?_eq_getElem hkl⟩
        obtain ⟨g', hg'⟩ : ∃ g, l'[k]? = some g := ⟨_, List.getElem?_eq_getElem hkl'⟩
        obtain ⟨b, off, rfl, _, hc⟩ := H1.out.2 (by omega)
        obtain ⟨b', off', rfl, _, hc'⟩ := H2.out.2 (by omega)
        have q0 := hc (k * 5 + 0) _ (flat_at dcells_len l k g 0 hg (by decide))
        have q0' := hc' (k * 5 + 0) _ (flat_at dcells_len l' k g' 0 hg' (by decide))
        have q1 := hc (k * 5 + 1) _ (flat_at dcells_len l k g 1 hg (by decide))
        have q1' := hc' (k * 5 + 1) _ (flat_at dcells_len l' k g' 1 hg' (by decide))
        have q2 := hc (k * 5 + 2) _ (flat_at dcells_len l k g 2 hg (by decide))
        have q2' := hc' (k * 5 + 2) _ (flat_at dcells_len l' k g' 2 hg' (by decide))
        have q3 := hc (k * 5 + 3) _ (flat_at dcells_len l k g 3 hg (by decide))
        have q3' := hc' (k * 5 + 3) _ (flat_at dcells_len l' k g' 3 hg' (by decide))
        have q4 := hc (k * 5 + 4) _ (flat_at dcells_len l k g 4 hg (by decide))
        have q4' := hc' (k * 5 + 4) _ (flat_at dcells_len l' k g' 4 hg' (by decide))
        rw [← Nat.add_assoc] at q1 q1' q2 q2' q3 q3' q4 q4'
        rw [Nat.add_zero] at q0 q0'
        cases he : eqD g g'
        · have HF := Lib.hid (eqBy_f hg hg' he)
          have hne := fun w => neq_D w g g'
          rw [he] at hne
          clear hc hc' hg hg' hkl hkl' hup he
          go_wp2_with fail
          go_quiet (fail)
          go_wp2_with fail
          go_ret
          exact ⟨by rw [HF.out]; rfl, (by first | exact ⟨_, rfl⟩ | exact drewN2 _ _ _)⟩
        · have hgg := eqD_eq he
          have HU := Lib.hid (eqUpto_step hup hg hg' he)
          subst hgg
          clear hc hc' hg hg' hkl hkl' hup he
          go_wp2_with fail
          go_quiet (fail)
          go_wp2_with fail
          go_roundw
          case rel => exact ⟨k + 1, by omega, by go_num, HU.out, (by first | exact ⟨_, rfl⟩ | exact drewN2 _ _ _)⟩
          case measure => simp [intOf]; omega
      · obtain rfl : k = n := by omega
        have HF := Lib.hid (eqBy_t (by rw [HL.out, HL'.out]) hup (by rw [HL.out]; exact Nat.le_refl _))
        go_wp2_with fail
        go_ret
        exact ⟨by rw [HF.out]; rfl, dq, rfl⟩
  · have HF := Lib.hid (eqBy_len (f := eqD) (l := l) (l' := l') (by rw [HL.out, HL'.out]; exact hnn))
    have hne : ((n : Int) != (n' : Int)) = true := by rw [bne_iff_ne]; omega
    clear h1 h2 hl hl' hnn
    go_enter Try.func118, Try.ntmps118
    go_wp2
    go_ret
    exact ⟨by rw [HF.out]; rfl, 0, rfl⟩
set_option maxRecDepth 100000 in
set_option maxHeartbeats 2000000 in
theorem sameDm_any (A A' : Option Addr) (n n' c c' : Nat) (l l' : List Dm) (w : World) (hl : l.length = n) (hl' : l'.length = n') (hn : n ≤ 1099511627776) (h1 : Rd w 5 A n (l.flatMap dcells)) (h2 : Rd w 5 A' n' (l'.flatMap dcells)) :
    Calls Try.prog 119 #[.slice A n c, .slice A' n' c'] w fun e w' => e = .returned (.bool (eqBy eqD l l')) ∧ ∃ m, w' = w.drewN m := by
  have HL := Lib.hid hl
  have HL' := Lib.hid hl'
  by_cases hnn : n = n'
  · subst hnn
    have H1 := Lib.hid h1
    have H2 := Lib.hid h2
    clear h1 h2 hl hl'
    go_enter Try.func119, Try.ntmps119
    go_wp2
    go_loopw [13] (fun i wr => ∃ k : Nat, k ≤ n ∧ i = .int .i64 k ∧ EqUpto eqD l l' k ∧ ∃ m, wr = w.drewN m) (fun i _ => n - (intOf i).toNat)
    case atStart => exact ⟨0, Nat.zero_le _, rfl, eqUpto_zero, 0, rfl⟩
    case round =>
      obtain ⟨k, hk, rfl, hup, dq, rfl⟩ := hrel
      by_cases hlt : k < n
      · have hkl : k < l.length := by rw [HL.out]; exact hlt
        have hkl' : k < l'.length := by rw [HL'.out]; exact hlt
        obtain ⟨g, hg⟩ : ∃ g, l[k]? = some g := ⟨_, List.getElem?_eq_getElem hkl⟩
        obtain ⟨g', hg'⟩ : ∃ g, l'[k]? = some g := ⟨_, List.getElem?_eq_getElem hkl'⟩
        obtain ⟨b, off, rfl, _, hc⟩ := H1.out.2 (by omega)
        obtain ⟨b', off', rfl, _, hc'⟩ := H2.out.2 (by omega)
        have q0 := hc (k * 5 + 0) _ (flat_at dcells_len l k g 0 hg (by decide))
        have q0' := hc' (k * 5 + 0) _ (flat_at dcells_len l' k g' 0 hg' (by decide))
        have q1 := hc (k * 5 + 1) _ (flat_at dcells_len l k g 1 hg (by decide))
        have q1' := hc' (k * 5 + 1) _ (flat_at dcells_len l' k g' 1 hg' (by decide))
        have q2 := hc (k * 5 + 2) _ (flat_at dcells_len l k g 2 hg (by decide))
        have q2' := hc' (k * 5 + 2) _ (flat_at dcells_len l' k g' 2 hg' (by decide))
        have q3 := hc (k * 5 + 3) _ (flat_at dcells_len l k g 3 hg (by decide))
        have q3' := hc' (k * 5 + 3) _ (flat_at dcells_len l' k g' 3 hg' (by decide))
        have q4 := hc (k * 5 + 4) _ (flat_at dcells_len l k g 4 hg (by decide))
        have q4' := hc' (k * 5 + 4) _ (flat_at dcells_len l' k g' 4 hg' (by decide))
        rw [← Nat.add_assoc] at q1 q1' q2 q2' q3 q3' q4 q4'
        rw [Nat.add_zero] at q0 q0'
        cases he : eqD g g'
        · have HF := Lib.hid (eqBy_f hg hg' he)
          have hne := fun w => neq_D w g g'
          rw [he] at hne
          clear hc hc' hg hg' hkl hkl' hup he
          go_wp2_with fail
          go_quiet (fail)
          go_wp2_with fail
          go_ret
          exact ⟨by rw [HF.out]; rfl, (by first | exact ⟨_, rfl⟩ | exact drewN2 _ _ _)⟩
        · have hgg := eqD_eq he
          have HU := Lib.hid (eqUpto_step hup hg hg' he)
          subst hgg
          clear hc hc' hg hg' hkl hkl' hup he
          go_wp2_with fail
          go_quiet (fail)
          go_wp2_with fail
          go_roundw
          case rel => exact ⟨k + 1, by omega, by go_num, HU.out, (by first | exact ⟨_, rfl⟩ | exact drewN2 _ _ _)⟩
          case measure => simp [intOf]; omega
      · obtain rfl : k = n := by omega
        have HF := Lib.hid (eqBy_t (by rw [HL.out, HL'.out]) hup (by rw [HL.out]; exact Nat.le_refl _))
        go_wp2_with fail
        go_ret
        exact ⟨by rw [HF.out]; rfl, dq, rfl⟩
  · have HF := Lib.hid (eqBy_len (f := eqD) (l := l) (l' := l') (by rw [HL.out, HL'.out]; exact hnn))
    have hne : ((n : Int) != (n' : Int)) = true := by rw [bne_iff_ne]; omega
    clear h1 h2 hl hl' hnn
    go_enter Try.func119, Try.ntmps119
    go_wp2
    go_ret
    exact ⟨by rw [HF.out]; rfl, 0, rfl⟩
set_option maxRecDepth 100000 in
set_option maxHeartbeats 2000000 in
theorem EqualMatrix_spec (A A' : Option Addr) (n n' c c' : Nat) (M M' : List (List Dm)) (w : World) (hn : n ≤ 1099511627776) (hz : szM M ≤ 1099511627776) (h1 : RdM w A n M) (h2 : RdM w A' n' M') :
    Calls Try.prog 90 #[.slice A n c, .slice A' n' c'] w fun e w' => e = .returned (.bool (eqBy (eqBy eqD) M M')) ∧ ∃ m, w' = w.drewN m := by
  have HL := Lib.hid h1.len
  have HL' := Lib.hid h2.len
  by_cases hnn : n = n'
  · subst hnn
    have H1 := Lib.hid h1
    have H2 := Lib.hid h2
    clear h1 h2
    go_enter Try.func90, Try.ntmps90
    go_wp2
    go_loopw [5] (fun i wr => ∃ k : Nat, k ≤ n ∧ i = .int .i64 k ∧ EqUpto (eqBy eqD) M M' k ∧ ∃ m, wr = w.drewN m) (fun i _ => n - (intOf i).toNat)
    case atStart => exact ⟨0, Nat.zero_le _, rfl, eqUpto_zero, 0, rfl⟩
    case round =>
      obtain ⟨k, hk, rfl, hup, dq, rfl⟩ := hrel
      by_cases hlt : k < n
      · have hkl : k < M.length := by rw [HL.out]; exact hlt
        have hkl' : k < M'.length := by rw [HL'.out]; exact hlt
        obtain ⟨g, hg⟩ : ∃ g, M[k]? = some g := ⟨_, List.getElem?_eq_getElem hkl⟩
        obtain ⟨g', hg'⟩ : ∃ g, M'[k]? = some g := ⟨_, List.getElem?_eq_getElem hkl'⟩
        obtain ⟨b, off, a, c1, rfl, _, q0, _, _, hrd⟩ := H1.out.at hg
        obtain ⟨b', off', a', c1', rfl, _, q0', _, _, hrd'⟩ := H2.out.at hg'
        have hrl := szM_row hg
        have HR := Lib.hid hrd
        have HR' := Lib.hid hrd'
        have HF : Hid (∀ he : eqBy eqD g g' = false, eqBy (eqBy eqD) M M' = false) := Lib.hid (fun he => eqBy_f hg hg' he)
        have HU : Hid (∀ he : eqBy eqD g g' = true, EqUpto (eqBy eqD) M M' (k + 1)) := Lib.hid (fun he => eqUpto_step hup hg hg' he)
        clear hg hg' hkl hkl' hup hrd hrd'
        have CT : Hid (∀ j, Calls Try.prog 118 #[.slice a g.length c1, .slice a' g'.length c1'] (w.drewN j) fun e w' => e = .returned (.bool (eqBy eqD g g')) ∧ ∃ q, w' = (w.drewN j).drewN q) := Lib.hid (fun j => EqualState_spec _ _ _ _ _ _ g g' _ rfl rfl (by omega) (HR.out.drewN j) (HR'.out.drewN j))
        clear hrl
        cases he : eqBy eqD g g'
        · have HX := Lib.hid (HF.out he)
          rw [he] at CT
          clear he
          go_wp2_with fail
          go_quiet (first | (go_at_call 118; exact quiet_anyAdd (CT.out _)))
          go_wp2_with fail
          go_ret
          exact ⟨by rw [HX.out]; rfl, (by first | exact ⟨_, rfl⟩ | exact drewN2 _ _ _)⟩
        · have HX := Lib.hid (HU.out he)
          rw [he] at CT
          clear he
          go_wp2_with fail
          go_quiet (first | (go_at_call 118; exact quiet_anyAdd (CT.out _)))
          go_wp2_with fail
          go_roundw
          case rel => exact ⟨k + 1, by omega, by go_num, HX.out, (by first | exact ⟨_, rfl⟩ | exact drewN2 _ _ _)⟩
          case measure => simp [intOf]; omega
      · obtain rfl : k = n := by omega
        have HF := Lib.hid (eqBy_t (by rw [HL.out, HL'.out]) hup (by rw [HL.out]; exact Nat.le_refl _))
        go_wp2_with fail
        go_ret
        exact ⟨by rw [HF.out]; rfl, dq, rfl⟩
  · have HF := Lib.hid (eqBy_len (f := eqBy eqD) (l := M) (l' := M') (by rw [HL.out, HL'.out]; exact hnn))
    have hne : ((n : Int) != (n' : Int)) = true := by rw [bne_iff_ne]; omega
    clear h1 h2 hnn
    go_enter Try.func90, Try.ntmps90
    go_wp2
    go_ret
    exact ⟨by rw [HF.out]; rfl, 0, rfl⟩
set_option maxRecDepth 100000 in
set_option maxHeartbeats 2000000 in
theorem EqualMatrix_impl (A A' : Option Addr) (n n' c c' : Nat) (M M' : List (List Dm)) (w : World) (hn : n ≤ 1099511627776) (hz : szM M ≤ 1099511627776) (h1 : RdM w A n M) (h2 : RdM w A' n' M') :
    Calls Try.prog 91 #[.slice A n c, .slice A' n' c'] w fun e w' => e = .returned (.bool (eqBy (eqBy eqD) M M')) ∧ ∃ m, w' = w.drewN m := by
  have HL := Lib.hid h1.len
  have HL' := Lib.hid h2.len
  by_cases hnn : n = n'
  · subst hnn
    have H1 := Lib.hid h1
    have H2 := Lib.hid h2
    clear h1 h2
    go_enter Try.func91, Try.ntmps91
    go_wp2
    go_loopw [13] (fun i wr => ∃ k : Nat, k ≤ n ∧ i = .int .i64 k ∧ EqUpto (eqBy eqD) M M' k ∧ ∃ m, wr = w.drewN m) (fun i _ => n - (intOf i).toNat)
    case atStart => exact ⟨0, Nat.zero_le _, rfl, eqUpto_zero, 0, rfl⟩
    case round =>
      obtain ⟨k, hk, rfl, hup, dq, rfl⟩ := hrel
      by_cases hlt : k < n
      · have hkl : k < M.length := by rw [HL.out]; exact hlt
        have hkl' : k < M'.length := by rw [HL'.out]; exact hlt
        obtain ⟨g, hg⟩ : ∃ g, M[k]? = some g := ⟨_, List.getElem?_eq_getElem hkl⟩
        obtain ⟨g', hg'⟩ : ∃ g, M'[k]? = some g := ⟨_, List.getElem?_eq_getElem hkl'⟩
        obtain ⟨b, off, a, c1, rfl, _, q0, _, _, hrd⟩ := H1.out.at hg
        obtain ⟨b', off', a', c1', rfl, _, q0', _, _, hrd'⟩ := H2.out.at hg'
        have hrl := szM_row hg
        have HR := Lib.hid hrd
        have HR' := Lib.hid hrd'
        have HF : Hid (∀ he : eqBy eqD g g' = false, eqBy (eqBy eqD) M M' = false) := Lib.hid (fun he => eqBy_f hg hg' he)
        have HU : Hid (∀ he : eqBy eqD g g' = true, EqUpto (eqBy eqD) M M' (k + 1)) := Lib.hid (fun he => eqUpto_step hup hg hg' he)
        clear hg hg' hkl hkl' hup hrd hrd'
        have CT : Hid (∀ j, Calls Try.prog 119 #[.slice a g.length c1, .slice a' g'.length c1'] (w.drewN j) fun e w' => e = .returned (.bool (eqBy eqD g g')) ∧ ∃ q, w' = (w.drewN j).drewN q) := Lib.hid (fun j => sameDm_any _ _ _ _ _ _ g g' _ rfl rfl (by omega) (HR.out.drewN j) (HR'.out.drewN j))
        clear hrl
        cases he : eqBy eqD g g'
        · have HX := Lib.hid (HF.out he)
          rw [he] at CT
          clear he
          go_wp2_with fail
          go_quiet (first | (go_at_call 119; exact quiet_anyAdd (CT.out _)))
          go_wp2_with fail
          go_ret
          exact ⟨by rw [HX.out]; rfl, (by first | exact ⟨_, rfl⟩ | exact drewN2 _ _ _)⟩
        · have HX := Lib.hid (HU.out he)
          rw [he] at CT
          clear he
          go_wp2_with fail
          go_quiet (first | (go_at_call 119; exact quiet_anyAdd (CT.out _)))
          go_wp2_with fail
          go_roundw
          case rel => exact ⟨k + 1, by omega, by go_num, HX.out, (by first | exact ⟨_, rfl⟩ | exact drewN2 _ _ _)⟩
          case measure => simp [intOf]; omega
      · obtain rfl : k = n := by omega
        have HF := Lib.hid (eqBy_t (by rw [HL.out, HL'.out]) hup (by rw [HL.out]; exact Nat.le_refl _))
        go_wp2_with fail
        go_ret
        exact ⟨by rw [HF.out]; rfl, dq, rfl⟩
  · have HF := Lib.hid (eqBy_len (f := eqBy eqD) (l := M) (l' := M') (by rw [HL.out, HL'.out]; exact hnn))
    have hne : ((n : Int) != (n' : Int)) = true := by rw [bne_iff_ne]; omega
    clear h1 h2 hnn
    go_enter Try.func91, Try.ntmps91
    go_wp2
    go_ret
    exact ⟨by rw [HF.out]; rfl, 0, rfl⟩
set_option maxRecDepth 100000 in
set_option maxHeartbeats 4000000 in
theorem EqualBranches_spec (A A' : Option Addr) (n n' c c' : Nat) (L L' : List Br) (w : World) (hn : n ≤ 1099511627776) (hz : szB L ≤ 1099511627776) (h1 : RdB w A n L) (h2 : RdB w A' n' L') :
    Calls Try.prog 46 #[.slice A n c, .slice A' n' c'] w fun e w' => e = .returned (.bool (eqBy eqBr L L')) ∧ ∃ m, w' = w.drewN m := by
  have HL := Lib.hid h1.len
  have HL' := Lib.hid h2.len
  by_cases hnn : n = n'
  · subst hnn
    have H1 := Lib.hid h1
    have H2 := Lib.hid h2
    clear h1 h2
    go_enter Try.func46, Try.ntmps46
    go_wp2
    go_loopw [5] (fun i wr => ∃ k : Nat, k ≤ n ∧ i = .int .i64 k ∧ EqUpto eqBr L L' k ∧ ∃ m, wr = w.drewN m) (fun i _ => n - (intOf i).toNat)
    case atStart => exact ⟨0, Nat.zero_le _, rfl, eqUpto_zero, 0, rfl⟩
    case round =>
      obtain ⟨k, hk, rfl, hup, dq, rfl⟩ := hrel
      by_cases hlt : k < n
      · have hkl : k < L.length := by rw [HL.out]; exact hlt
        have hkl' : k < L'.length := by rw [HL'.out]; exact hlt
        obtain ⟨⟨gb, gM⟩, hg⟩ : ∃ g, L[k]? = some g := ⟨_, List.getElem?_eq_getElem hkl⟩
        obtain ⟨⟨gb', gM'⟩, hg'⟩ : ∃ g, L'[k]? = some g := ⟨_, List.getElem?_eq_getElem hkl'⟩
        obtain ⟨b, off, a, c1, rfl, _, q0, q1, _, _, hrd⟩ := H1.out.at hg
        obtain ⟨b', off', a', c1', rfl, _, q0', q1', _, _, hrd'⟩ := H2.out.at hg'
        dsimp only at q0 q1 hrd q0' q1' hrd'
        have hrl := szB_at hg
        have HR := Lib.hid hrd
        have HR' := Lib.hid hrd'
        have HF : Hid (∀ he : eqBr ⟨gb, gM⟩ ⟨gb', gM'⟩ = false, eqBy eqBr L L' = false) := Lib.hid (fun he => eqBy_f hg hg' he)
        have HU : Hid (∀ he : eqBr ⟨gb, gM⟩ ⟨gb', gM'⟩ = true, EqUpto eqBr L L' (k + 1)) := Lib.hid (fun he => eqUpto_step hup hg hg' he)
        clear hg hg' hkl hkl' hup hrd hrd'
        by_cases hb : gb = gb'
        rotate_left
        · have hne : (gb != gb') = true := by rw [bne_iff_ne]; exact hb
          have HX := Lib.hid (HF.out (eqBr_b hb))
          clear hb
          go_wp2_with fail
          go_quiet (fail)
          go_wp2_with fail
          go_ret
          exact ⟨by rw [HX.out]; rfl, (by first | exact ⟨_, rfl⟩ | exact drewN2 _ _ _)⟩
        subst hb
        have CT : Hid (∀ j, Calls Try.prog 90 #[.slice a gM.length c1, .slice a' gM'.length c1'] (w.drewN j) fun e w' => e = .returned (.bool (eqBy (eqBy eqD) gM gM')) ∧ ∃ q, w' = (w.drewN j).drewN q) := Lib.hid (fun j => EqualMatrix_spec _ _ _ _ _ _ gM gM' _ (by dsimp only at hrl; omega) (by dsimp only at hrl; omega) (HR.out.drewN j) (HR'.out.drewN j))
        clear hrl
        cases he : eqBy (eqBy eqD) gM gM'
        · have HX := Lib.hid (HF.out (eqBr_M he))
          rw [he] at CT
          clear he
          go_wp2_with fail
          go_quiet (first | (go_at_call 90; exact quiet_anyAdd (CT.out _)))
          go_wp2_with fail
          go_ret
          exact ⟨by rw [HX.out]; rfl, (by first | exact ⟨_, rfl⟩ | exact drewN2 _ _ _)⟩
        · have HX := Lib.hid (HU.out (eqBr_t he))
          rw [he] at CT
          clear he
          go_wp2_with fail
          go_quiet (first | (go_at_call 90; exact quiet_anyAdd (CT.out _)))
          go_wp2_with fail
          go_roundw
          case rel => exact ⟨k + 1, by omega, by go_num, HX.out, (by first | exact ⟨_, rfl⟩ | exact drewN2 _ _ _)⟩
          case measure => simp [intOf]; omega
      · obtain rfl : k = n := by omega
        have HF := Lib.hid (eqBy_t (by rw [HL.out, HL'.out]) hup (by rw [HL.out]; exact Nat.le_refl _))
        go_wp2_with fail
        go_ret
        exact ⟨by rw [HF.out]; rfl, dq, rfl⟩
  · have HF := Lib.hid (eqBy_len (f := eqBr) (l := L) (l' := L') (by rw [HL.out, HL'.out]; exact hnn))
    have hne : ((n : Int) != (n' : Int)) = true := by rw [bne_iff_ne]; omega
    clear h1 h2 hnn
    go_enter Try.func46, Try.ntmps46
    go_wp2
    go_ret
    exact ⟨by rw [HF.out]; rfl, 0, rfl⟩
set_option maxRecDepth 100000 in
set_option maxHeartbeats 4000000 in
theorem EqualBranches_impl (A A' : Option Addr) (n n' c c' : Nat) (L L' : List Br) (w : World) (hn : n ≤ 1099511627776) (hz : szB L ≤ 1099511627776) (h1 : RdB w A n L) (h2 : RdB w A' n' L') :
    Calls Try.prog 48 #[.slice A n c, .slice A' n' c'] w fun e w' => e = .returned (.bool (eqBy eqBr L L')) ∧ ∃ m, w' = w.drewN m := by
  have HL := Lib.hid h1.len
  have HL' := Lib.hid h2.len
  by_cases hnn : n = n'
  · subst hnn
    have H1 := Lib.hid h1
    have H2 := Lib.hid h2
    clear h1 h2
    go_enter Try.func48, Try.ntmps48
    go_wp2
    go_loopw [13] (fun i wr => ∃ k : Nat, k ≤ n ∧ i = .int .i64 k ∧ EqUpto eqBr L L' k ∧ ∃ m, wr = w.drewN m) (fun i _ => n - (intOf i).toNat)
    case atStart => exact ⟨0, Nat.zero_le _, rfl, eqUpto_zero, 0, rfl⟩
    case round =>
      obtain ⟨k, hk, rfl, hup, dq, rfl⟩ := hrel
      by_cases hlt : k < n
      · have hkl : k < L.length := by rw [HL.out]; exact hlt
        have hkl' : k < L'.length := by rw [HL'.out]; exact hlt
        obtain ⟨⟨gb, gM⟩, hg⟩ : ∃ g, L[k]? = some g := ⟨_, List.getElem?_eq_getElem hkl⟩
        obtain ⟨⟨gb', gM'⟩, hg'⟩ : ∃ g, L'[k]? = some g := ⟨_, List.getElem?_eq_getElem hkl'⟩
        obtain ⟨b, off, a, c1, rfl, _, q0, q1, _, _, hrd⟩ := H1.out.at hg
        obtain ⟨b', off', a', c1', rfl, _, q0', q1', _, _, hrd'⟩ := H2.out.at hg'
        dsimp only at q0 q1 hrd q0' q1' hrd'
        have hrl := szB_at hg
        have HR := Lib.hid hrd
        have HR' := Lib.hid hrd'
        have HF : Hid (∀ he : eqBr ⟨gb, gM⟩ ⟨gb', gM'⟩ = false, eqBy eqBr L L' = false) := Lib.hid (fun he => eqBy_f hg hg' he)
        have HU : Hid (∀ he : eqBr ⟨gb, gM⟩ ⟨gb', gM'⟩ = true, EqUpto eqBr L L' (k + 1)) := Lib.hid (fun he => eqUpto_step hup hg hg' he)
        clear hg hg' hkl hkl' hup hrd hrd'
        by_cases hb : gb = gb'
        rotate_left
        · have hne : (gb != gb') = true := by rw [bne_iff_ne]; exact hb
          have HX := Lib.hid (HF.out (eqBr_b hb))
          clear hb
          go_wp2_with fail
          go_quiet (fail)
          go_wp2_with fail
          go_ret
          exact ⟨by rw [HX.out]; rfl, (by first | exact ⟨_, rfl⟩ | exact drewN2 _ _ _)⟩
        subst hb
        have CT : Hid (∀ j, Calls Try.prog 91 #[.slice a gM.length c1, .slice a' gM'.length c1'] (w.drewN j) fun e w' => e = .returned (.bool (eqBy (eqBy eqD) gM gM')) ∧ ∃ q, w' = (w.drewN j).drewN q) := Lib.hid (fun j => EqualMatrix_impl _ _ _ _ _ _ gM gM' _ (by dsimp only at hrl; omega) (by dsimp only at hrl; omega) (HR.out.drewN j) (HR'.out.drewN j))
        clear hrl
        cases he : eqBy (eqBy eqD) gM gM'
        · have HX := Lib.hid (HF.out (eqBr_M he))
          rw [he] at CT
          clear he
          go_wp2_with fail
          go_quiet (first | (go_at_call 91; exact quiet_anyAdd (CT.out _)))
          go_wp2_with fail
          go_ret
          exact ⟨by rw [HX.out]; rfl, (by first | exact ⟨_, rfl⟩ | exact drewN2 _ _ _)⟩
        · have HX := Lib.hid (HU.out (eqBr_t he))
          rw [he] at CT
          clear he
          go_wp2_with fail
          go_quiet (first | (go_at_call 91; exact quiet_anyAdd (CT.out _)))
          go_wp2_with fail
          go_roundw
          case rel => exact ⟨k + 1, by omega, by go_num, HX.out, (by first | exact ⟨_, rfl⟩ | exact drewN2 _ _ _)⟩
          case measure => simp [intOf]; omega
      · obtain rfl : k = n := by omega
        have HF := Lib.hid (eqBy_t (by rw [HL.out, HL'.out]) hup (by rw [HL.out]; exact Nat.le_refl _))
        go_wp2_with fail
        go_ret
        exact ⟨by rw [HF.out]; rfl, dq, rfl⟩
  · have HF := Lib.hid (eqBy_len (f := eqBr) (l := L) (l' := L') (by rw [HL.out, HL'.out]; exact hnn))
    have hne : ((n : Int) != (n' : Int)) = true := by rw [bne_iff_ne]; omega
    clear h1 h2 hnn
    go_enter Try.func48, Try.ntmps48
    go_wp2
    go_ret
    exact ⟨by rw [HF.out]; rfl, 0, rfl⟩
end Go.Proofs.Ytbffpehajkgjeaa
