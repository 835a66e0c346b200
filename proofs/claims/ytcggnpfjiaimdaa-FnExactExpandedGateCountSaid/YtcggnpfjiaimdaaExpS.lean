/- How many gates a list of statements expands to, by the reference. -/
import Derived.Test.YtcggnpfjiaimdaaExp
namespace Go.Proofs.Ytcggnpfjiaimdaa
open Go.RowKit
set_option linter.unusedVariables false
def ExpSaid_spec (d : Nat) : Prop := ∀ (lo : Nat) (A : Option Addr) (n c : Nat) (l : List (Tr d)) (w : World), RdT w lo d A n l → szT d l ≤ 1048576 →
  Calls Try.prog 14 #[.slice A n c] w fun e w' => e = .returned (.int .i64 (expT d l)) ∧ Below w.heap.size w w' ∧ w.heap.size ≤ w'.heap.size
set_option maxRecDepth 100000 in
set_option maxHeartbeats 4000000 in
theorem ExpandedGateCount_spec : ∀ (d : Nat), ExpSaid_spec d := by
  intro d
  induction d with
  | zero =>
    intro lo A n c l w h _
    obtain rfl := szT_zero_len h
    go_enter Try.func14, Try.ntmps14
    go_wp2
    refine wp_loop_rounds 1 ?_
    rw [rounds_succ]
    go_wp2
    go_ret
    exact ⟨rfl, Below.refl _ _, Nat.le_refl _⟩
  | succ d ih =>
    intro lo A n c l w h hsz
    have hln := h.len
    have hn : n ≤ 1048576 := by rw [szT_succ] at hsz; omega
    have HQ := Lib.hid hsz
    have HL := Lib.hid hln
    have H := Lib.hid h
    clear h hln hsz
    go_enter Try.func14, Try.ntmps14
    go_wp2
    go_loopw [3, 4] (fun m i wr => ∃ t : Nat, t ≤ n ∧ i = .int .i64 t ∧ m = .int .i64 (expT (d + 1) (l.take t)) ∧ Below w.heap.size w wr) (fun _ i _ => n - (intOf i).toNat)
    case atStart => exact ⟨0, Nat.zero_le _, rfl, rfl, Below.refl _ _⟩
    case round =>
      obtain ⟨t, ht, rfl, rfl, hb⟩ := hrel
      have hN : expT (d + 1) (l.take t) ≤ 1000000 := expT_le _ _
      obtain ⟨N, hNN⟩ : ∃ N, N = expT (d + 1) (l.take t) := ⟨_, rfl⟩
      rw [← hNN] at hN ⊢
      have HN := Lib.hid hNN
      clear hNN
      have hbs := hb.size
      by_cases hlt : t < n
      · obtain ⟨b, off, s, Aa, ca, Ab, nb, cb, rfl, hbl, hs, hcs, hra, hrb⟩ := (H.out.below hb).at_ hlt
        obtain ⟨q0, q1, q2, q3, q4⟩ := hcs
        have hme := szT_mem hs
        have hz2 : szT d (bdT s) ≤ 1048576 := by have := HQ.out; rw [szT_succ] at this; unfold szE at hme; omega
        have hnb := expT_le d (bdT s)
        have HT := Lib.hid (exp_take l t s hs)
        have HB := Lib.hid hrb
        clear hs hra hrb hme
        obtain ⟨M, hM⟩ : ∃ M, M = expT d (bdT s) := ⟨_, rfl⟩
        rw [← hM] at hnb
        have HM := Lib.hid hM
        have IH : Hid (∀ W : World, RdT W lo d Ab nb (bdT s) → Calls Try.prog 14 #[.slice Ab nb cb] W fun e w' => e = .returned (.int .i64 (M : Int)) ∧ Below W.heap.size W w' ∧ W.heap.size ≤ w'.heap.size) := Lib.hid (fun W h => by rw [hM]; exact ih lo _ _ _ (bdT s) W h hz2)
        clear hM ih
        obtain ⟨ct, hct⟩ : ∃ ct, ct = (hdT s).count := ⟨_, rfl⟩
        rw [← hct] at q3
        have HCT := Lib.hid hct
        clear hct
        by_cases h1 : (hdT s).k = 1
        · have hk := h1
          rw [hk] at q0
          have HT2 : Hid (expT (d + 1) (l.take (t + 1)) = min 1000000 (N + 1)) := by
            have h := HT.out
            rw [← HN.out, ← HM.out, ← HCT.out, expE_1 hk] at h
            exact h
          go_wp2_with fail
          refine (IH.out _ HB.out).mono ?_
          rintro e w1 ⟨rfl, b1, s1⟩
          have r0 := (b1.cell (p := ⟨b, off + t * 5, none⟩) hbl).trans q0
          have r3 := (b1.cell (p := ⟨b, off + t * 5 + 3, none⟩) hbl).trans q3
          clear q0 q1 q2 q3 q4
          go_wp2_with fail
          refine (l1Min_any _ _ _).mono ?_
          rintro e w' ⟨rfl, rfl⟩
          go_wp2_with fail
          go_roundw
          case rel => exact ⟨t + 1, by omega, by go_num, by rw [HT2.out]; exact congrArg (Value.int .i64) (imin_min (by first | omega | (rw [Int.natCast_add, Int.natCast_mul]) | simp)), (hb.trans (b1.mono hb.size))⟩
          case measure => simp [intOf]; omega
        have e1 : ((hdT s).k == 1) = false := beq_eq_false_iff_ne.2 h1
        by_cases h6 : (hdT s).k = 6
        · have hk := h6
          rw [hk] at q0
          have HT2 : Hid (expT (d + 1) (l.take (t + 1)) = min 1000000 (N + 0)) := by
            have h := HT.out
            rw [← HN.out, ← HM.out, ← HCT.out, expE_6 hk] at h
            exact h
          go_wp2_with fail
          refine (IH.out _ HB.out).mono ?_
          rintro e w1 ⟨rfl, b1, s1⟩
          have r0 := (b1.cell (p := ⟨b, off + t * 5, none⟩) hbl).trans q0
          have r3 := (b1.cell (p := ⟨b, off + t * 5 + 3, none⟩) hbl).trans q3
          clear q0 q1 q2 q3 q4
          go_wp2_with fail
          refine (l1Min_any _ _ _).mono ?_
          rintro e w' ⟨rfl, rfl⟩
          go_wp2_with fail
          go_roundw
          case rel => exact ⟨t + 1, by omega, by go_num, by rw [HT2.out]; exact congrArg (Value.int .i64) (imin_min (by first | omega | (rw [Int.natCast_add, Int.natCast_mul]) | simp)), (hb.trans (b1.mono hb.size))⟩
          case measure => simp [intOf]; omega
        have e6 : ((hdT s).k == 6) = false := beq_eq_false_iff_ne.2 h6
        by_cases h2 : (hdT s).k = 2
        · have hk := h2
          rw [hk] at q0
          clear e1 e6
          by_cases hc : ct < 0
          · have HC : Hid (imax 0 (imin ct 1000000) = 0) := Lib.hid (by unfold imax imin; (first | omega | (split <;> (first | omega | (split <;> omega)))))
            have HT2 : Hid (expT (d + 1) (l.take (t + 1)) = min 1000000 (N + 0)) := by
              have h := HT.out
              rw [← HN.out, ← HM.out, ← HCT.out, expE_2n hk hc] at h
              exact h
            go_wp2_with fail
            refine (IH.out _ HB.out).mono ?_
            rintro e w1 ⟨rfl, b1, s1⟩
            have r0 := (b1.cell (p := ⟨b, off + t * 5, none⟩) hbl).trans q0
            have r3 := (b1.cell (p := ⟨b, off + t * 5 + 3, none⟩) hbl).trans q3
            clear q0 q1 q2 q3 q4
            go_wp2_with fail
            refine (l1Min_any _ _ _).mono ?_
            rintro e w' ⟨rfl, rfl⟩
            go_wp2_with fail
            refine (l1Max_any _ _ _).mono ?_
            rintro e w' ⟨rfl, rfl⟩
            rw [HC.out]
            go_wp2_with fail
            refine (l1Min_any _ _ _).mono ?_
            rintro e w' ⟨rfl, rfl⟩
            go_wp2_with fail
            go_roundw
            case rel => exact ⟨t + 1, by omega, by go_num, by rw [HT2.out]; exact congrArg (Value.int .i64) (imin_min (by first | omega | (rw [Int.natCast_add, Int.natCast_mul]) | simp)), (hb.trans (b1.mono hb.size))⟩
            case measure => simp [intOf]; omega
          by_cases hc2 : ct ≤ 1000000
          · obtain ⟨C, hcc⟩ : ∃ C : Nat, ct = C := ⟨ct.toNat, by omega⟩
            have hC : C ≤ 1000000 := by omega
            subst hcc
            have hMI := mul_small hnb hC
            have hM0 := mul_zero_le M C
            have HC : Hid (imax 0 (imin (C : Int) 1000000) = (C : Int)) := Lib.hid (by unfold imax imin; (first | omega | (split <;> (first | omega | (split <;> omega)))))
            have HT2 : Hid (expT (d + 1) (l.take (t + 1)) = min 1000000 (N + M * C)) := by
              have h := HT.out
              rw [← HN.out, ← HM.out, ← HCT.out, expE_2m hk rfl hC] at h
              exact h
            go_wp2_with fail
            refine (IH.out _ HB.out).mono ?_
            rintro e w1 ⟨rfl, b1, s1⟩
            have r0 := (b1.cell (p := ⟨b, off + t * 5, none⟩) hbl).trans q0
            have r3 := (b1.cell (p := ⟨b, off + t * 5 + 3, none⟩) hbl).trans q3
            clear q0 q1 q2 q3 q4
            go_wp2_with fail
            refine (l1Min_any _ _ _).mono ?_
            rintro e w' ⟨rfl, rfl⟩
            go_wp2_with fail
            refine (l1Max_any _ _ _).mono ?_
            rintro e w' ⟨rfl, rfl⟩
            rw [HC.out]
            go_wp2_with fail
            refine (l1Min_any _ _ _).mono ?_
            rintro e w' ⟨rfl, rfl⟩
            go_wp2_with fail
            go_roundw
            case rel => exact ⟨t + 1, by omega, by go_num, by rw [HT2.out]; exact congrArg (Value.int .i64) (imin_min (by first | omega | (rw [Int.natCast_add, Int.natCast_mul]) | simp)), (hb.trans (b1.mono hb.size))⟩
            case measure => simp [intOf]; omega
          have hc := Int.not_le.1 hc2
          have HC : Hid (imax 0 (imin ct 1000000) = 1000000) := Lib.hid (by unfold imax imin; (first | omega | (split <;> (first | omega | (split <;> omega)))))
          have HT2 : Hid (expT (d + 1) (l.take (t + 1)) = min 1000000 (N + M * 1000000)) := by
            have h := HT.out
            rw [← HN.out, ← HM.out, ← HCT.out, expE_2b hk hc] at h
            exact h
          go_wp2_with fail
          refine (IH.out _ HB.out).mono ?_
          rintro e w1 ⟨rfl, b1, s1⟩
          have r0 := (b1.cell (p := ⟨b, off + t * 5, none⟩) hbl).trans q0
          have r3 := (b1.cell (p := ⟨b, off + t * 5 + 3, none⟩) hbl).trans q3
          clear q0 q1 q2 q3 q4
          go_wp2_with fail
          refine (l1Min_any _ _ _).mono ?_
          rintro e w' ⟨rfl, rfl⟩
          go_wp2_with fail
          refine (l1Max_any _ _ _).mono ?_
          rintro e w' ⟨rfl, rfl⟩
          rw [HC.out]
          go_wp2_with fail
          refine (l1Min_any _ _ _).mono ?_
          rintro e w' ⟨rfl, rfl⟩
          go_wp2_with fail
          go_roundw
          case rel => exact ⟨t + 1, by omega, by go_num, by rw [HT2.out]; exact congrArg (Value.int .i64) (imin_min (by first | omega | (rw [Int.natCast_add, Int.natCast_mul]) | simp)), (hb.trans (b1.mono hb.size))⟩
          case measure => simp [intOf]; omega
        have e2 : ((hdT s).k == 2) = false := beq_eq_false_iff_ne.2 h2
        by_cases h4 : (hdT s).k = 4
        · have hk := h4
          rw [hk] at q0
          clear e1 e6 e2
          have HT2 : Hid (expT (d + 1) (l.take (t + 1)) = min 1000000 (N + 7 * M)) := by
            have h := HT.out
            rw [← HN.out, ← HM.out, ← HCT.out, expE_4 hk] at h
            exact h
          go_wp2_with fail
          refine (IH.out _ HB.out).mono ?_
          rintro e w1 ⟨rfl, b1, s1⟩
          have r0 := (b1.cell (p := ⟨b, off + t * 5, none⟩) hbl).trans q0
          have r3 := (b1.cell (p := ⟨b, off + t * 5 + 3, none⟩) hbl).trans q3
          clear q0 q1 q2 q3 q4
          go_wp2_with fail
          refine (l1Min_any _ _ _).mono ?_
          rintro e w' ⟨rfl, rfl⟩
          go_wp2_with fail
          go_roundw
          case rel => exact ⟨t + 1, by omega, by go_num, by rw [HT2.out]; exact congrArg (Value.int .i64) (imin_min (by first | omega | (rw [Int.natCast_add, Int.natCast_mul]) | simp)), (hb.trans (b1.mono hb.size))⟩
          case measure => simp [intOf]; omega
        have e4 : ((hdT s).k == 4) = false := beq_eq_false_iff_ne.2 h4
        have HT2 : Hid (expT (d + 1) (l.take (t + 1)) = min 1000000 (N + M)) := by
          have h := HT.out
          rw [← HN.out, ← HM.out, ← HCT.out, expE_x h1 h6 h2 h4] at h
          exact h
        go_wp2_with fail
        refine (IH.out _ HB.out).mono ?_
        rintro e w1 ⟨rfl, b1, s1⟩
        have r0 := (b1.cell (p := ⟨b, off + t * 5, none⟩) hbl).trans q0
        have r3 := (b1.cell (p := ⟨b, off + t * 5 + 3, none⟩) hbl).trans q3
        clear q0 q1 q2 q3 q4
        go_wp2_with fail
        refine (l1Min_any _ _ _).mono ?_
        rintro e w' ⟨rfl, rfl⟩
        go_wp2_with fail
        go_roundw
        case rel => exact ⟨t + 1, by omega, by go_num, by rw [HT2.out]; exact congrArg (Value.int .i64) (imin_min (by first | omega | (rw [Int.natCast_add, Int.natCast_mul]) | simp)), (hb.trans (b1.mono hb.size))⟩
        case measure => simp [intOf]; omega
      · obtain rfl : t = n := by omega
        have HF : Hid (N = expT (d + 1) l) := by
          have h := HN.out
          rw [List.take_of_length_le (by rw [HL.out]; exact Nat.le_refl _)] at h
          exact h
        go_wp2
        go_ret
        exact ⟨by rw [← HF.out]; rfl, hb, hb.size⟩
end Go.Proofs.Ytcggnpfjiaimdaa
