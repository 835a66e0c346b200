/- How many tokens a list of statements has: the program's function and the reference's compute the same. -/
import Derived.Test.YtbamjfbfipkioaaNest
namespace Go.Proofs.Ytbamjfbfipkioaa
open Go.RowKit
set_option linter.unusedVariables false
theorem hasB_two {k : Int} (h : hasB k = false) : (k == 2) = false := by
  unfold hasB at h
  cases h2 : (k == 2)
  · rfl
  · rw [h2] at h
    exact absurd h (by simp)
def tokT : (d : Nat) → List (Tr d) → Nat
  | 0, _ => 0
  | d + 1, l => (l.map fun (s : Tr (d + 1)) => (if (hdT s).k == 2 then 3 else 2) + (hdT s).args.length + (if hasB (hdT s).k then 1 + tokT d (bdT s) else 0)).sum
def tokE {d : Nat} (s : Tr (d + 1)) : Nat := (if (hdT s).k == 2 then 3 else 2) + (hdT s).args.length + (if hasB (hdT s).k then 1 + tokT d (bdT s) else 0)
theorem tokT_succ {d : Nat} (l : List (Tr (d + 1))) : tokT (d + 1) l = (l.map tokE).sum := rfl
theorem tokE_a {d : Nat} {s : Tr (d + 1)} (hk : hasB (hdT s).k = false) (hq : ((hdT s).k == 2) = false) : tokE s = 2 + (hdT s).args.length := by
  simp only [tokE, hk, hq]; simp
theorem tokE_b {d : Nat} {s : Tr (d + 1)} (hk : hasB (hdT s).k = true) (hq : ((hdT s).k == 2) = false) : tokE s = 2 + (hdT s).args.length + (1 + tokT d (bdT s)) := by
  simp only [tokE, hk, hq]; simp
theorem tokE_c {d : Nat} {s : Tr (d + 1)} (hk : hasB (hdT s).k = true) (hq : ((hdT s).k == 2) = true) : tokE s = 3 + (hdT s).args.length + (1 + tokT d (bdT s)) := by
  simp only [tokE, hk, hq]; simp
theorem tokT_le : ∀ (d : Nat) (l : List (Tr d)), tokT d l ≤ 4 * szT d l := by
  intro d
  induction d with
  | zero => intro l; exact Nat.zero_le _
  | succ d ih =>
    intro l
    rw [tokT_succ, szT_succ]
    unfold sumE
    induction l with
    | nil => simp
    | cons s l ih2 =>
      have h1 := ih (bdT s)
      simp only [List.map_cons, List.sum_cons, List.length_cons]
      have h2 : tokE s ≤ 4 + 4 * szE s := by
        unfold tokE szE
        split <;> split <;> omega
      omega
theorem tok_take_le {d : Nat} (l : List (Tr (d + 1))) (t : Nat) : tokT (d + 1) (l.take t) ≤ 4 * szT (d + 1) l := by
  refine Nat.le_trans (tokT_le _ _) ?_
  rw [szT_succ, szT_succ]
  have := sumE_take_le l t
  have := List.length_take_le' t l
  omega
theorem tok_take {d : Nat} (l : List (Tr (d + 1))) (t : Nat) (s : Tr (d + 1)) (h : l[t]? = some s) : tokT (d + 1) (l.take (t + 1)) = tokT (d + 1) (l.take t) + tokE s := by
  rw [List.take_add_one, h, tokT_succ, tokT_succ]
  simp
def TokSaid_impl (d : Nat) : Prop := ∀ (lo : Nat) (A : Option Addr) (n c : Nat) (l : List (Tr d)) (w : World), RdT w lo d A n l → szT d l ≤ 1048576 →
  Calls Try.prog 9 #[.slice A n c] w fun e w' => e = .returned (.int .i64 (tokT d l)) ∧ Below w.heap.size w w' ∧ w.heap.size ≤ w'.heap.size
set_option maxRecDepth 100000 in
set_option maxHeartbeats 2000000 in
theorem StmtTokenCount_impl : ∀ (d : Nat), TokSaid_impl d := by
  intro d
  induction d with
  | zero =>
    intro lo A n c l w h _
    obtain rfl := szT_zero_len h
    go_enter Try.func9, Try.ntmps9
    go_wp2
    refine wp_loop_rounds 1 ?_
    rw [rounds_succ]
    go_wp2
    go_ret
    exact ⟨rfl, Below.refl _ _, Nat.le_refl _⟩
  | succ d ih =>
    intro lo A n c l w h hsz
    have hln := h.len
    have hn : n ≤ 1048576 := by rw [szT_succ] at hsz; omega
    have HQ := Lib.hid hsz
    have HL := Lib.hid hln
    have H := Lib.hid h
    clear h hln hsz
    go_enter Try.func9, Try.ntmps9
    go_wp2
    go_loopw [3, 8] (fun m i wr => ∃ t : Nat, t ≤ n ∧ i = .int .i64 t ∧ m = .int .i64 (tokT (d + 1) (l.take t)) ∧ Below w.heap.size w wr) (fun _ i _ => n - (intOf i).toNat)
    case atStart => exact ⟨0, Nat.zero_le _, rfl, rfl, Below.refl _ _⟩
    case round =>
      obtain ⟨t, ht, rfl, rfl, hb⟩ := hrel
      have hN : tokT (d + 1) (l.take t) ≤ 4194304 := Nat.le_trans (tok_take_le l t) (by have := HQ.out; omega)
      obtain ⟨N, hNN⟩ : ∃ N, N = tokT (d + 1) (l.take t) := ⟨_, rfl⟩
      rw [← hNN] at hN ⊢
      have HN := Lib.hid hNN
      clear hNN
      have hbs := hb.size
      by_cases hlt : t < n
      · obtain ⟨b, off, s, Aa, ca, Ab, nb, cb, rfl, hbl, hs, hcs, hra, hrb⟩ := (H.out.below hb).at_ hlt
        obtain ⟨q0, q1, q2, q3, q4⟩ := hcs
        have hme := szT_mem hs
        have hz2 : szT d (bdT s) ≤ 1048576 := by have := HQ.out; rw [szT_succ] at this; unfold szE at hme; omega
        have hz3 : (hdT s).args.length ≤ 1048576 := by have := HQ.out; rw [szT_succ] at this; unfold szE at hme; omega
        have hnb := tokT_le d (bdT s)
        have HT := Lib.hid (tok_take l t s hs)
        have HB := Lib.hid (hrb.below (w' := wr.alloc (.cells #[.int .i64 (hdT s).k, .string (hdT s).word, .slice Aa (hdT s).args.length ca, .int .i64 (hdT s).count, .slice Ab nb cb] 36)) (by repeat (first | exact Below.refl _ _ | assumption | (refine Below.trans ?_ (Below.mono (by assumption) (by first | omega | (simp; done) | (simp; omega)))) | (with_reducible refine Below.drew ?_) | (with_reducible refine Below.alloc ?_ (by first | omega | (simp; done) | (simp; omega)) _) | (with_reducible refine Below.setCell ?_ (by first | omega | (simp; done) | (simp; omega)) _))))
        clear hs hra hrb hme
        obtain ⟨M, hM⟩ : ∃ M, M = tokT d (bdT s) := ⟨_, rfl⟩
        rw [← hM] at hnb
        have HM := Lib.hid hM
        clear hM
        cases hk : hasB (hdT s).k
        · have hq : ((hdT s).k == 2) = false := hasB_two hk
          have HT2 : Hid (tokT (d + 1) (l.take (t + 1)) = N + (2 + (hdT s).args.length)) := by
            have h := HT.out
            rw [← HN.out, tokE_a hk hq] at h
            exact h
          go_wp2_with (go_at_call 14; refine (hasBody_any _ _).mono ?_; rintro e w' ⟨rfl, rfl⟩)
          go_roundw
          case rel => exact ⟨t + 1, by omega, by go_num, by rw [HT2.out]; congr 1; omega, (hb.alloc hb.size _)⟩
          case measure => simp [intOf]; omega
        · cases hq : ((hdT s).k == 2)
          · have HT2 : Hid (tokT (d + 1) (l.take (t + 1)) = N + (2 + (hdT s).args.length + (1 + M))) := by
              have h := HT.out
              rw [← HN.out, tokE_b hk hq] at h
              rw [HM.out]
              exact h
            go_wp2_with (first | (go_at_call 14; refine (hasBody_any _ _).mono ?_; rintro e w' ⟨rfl, rfl⟩) | (go_at_call 9; refine (ih lo _ _ _ (bdT s) _ HB.out hz2).mono ?_; rintro e w1 ⟨rfl, b1, s1⟩; rw [← HM.out]))
            go_roundw
            case rel => exact ⟨t + 1, by omega, by go_num, by rw [HT2.out]; congr 1; omega, (hb.alloc hb.size _).trans (b1.mono (by simp; omega))⟩
            case measure => simp [intOf]; omega
          · have HT2 : Hid (tokT (d + 1) (l.take (t + 1)) = N + (3 + (hdT s).args.length + (1 + M))) := by
              have h := HT.out
              rw [← HN.out, tokE_c hk hq] at h
              rw [HM.out]
              exact h
            go_wp2_with (first | (go_at_call 14; refine (hasBody_any _ _).mono ?_; rintro e w' ⟨rfl, rfl⟩) | (go_at_call 9; refine (ih lo _ _ _ (bdT s) _ HB.out hz2).mono ?_; rintro e w1 ⟨rfl, b1, s1⟩; rw [← HM.out]))
            go_roundw
            case rel => exact ⟨t + 1, by omega, by go_num, by rw [HT2.out]; congr 1; omega, (hb.alloc hb.size _).trans (b1.mono (by simp; omega))⟩
            case measure => simp [intOf]; omega
      · obtain rfl : t = n := by omega
        have HF : Hid (N = tokT (d + 1) l) := by
          have h := HN.out
          rw [List.take_of_length_le (by rw [HL.out]; exact Nat.le_refl _)] at h
          exact h
        go_wp2
        go_ret
        exact ⟨by rw [← HF.out]; rfl, hb, hb.size⟩
def TokSaid_spec (d : Nat) : Prop := ∀ (lo : Nat) (A : Option Addr) (n c : Nat) (l : List (Tr d)) (w : World), RdT w lo d A n l → szT d l ≤ 1048576 →
  Calls Try.prog 10 #[.slice A n c] w fun e w' => e = .returned (.int .i64 (tokT d l)) ∧ Below w.heap.size w w' ∧ w.heap.size ≤ w'.heap.size
set_option maxRecDepth 100000 in
set_option maxHeartbeats 2000000 in
theorem StmtTokenCount_spec : ∀ (d : Nat), TokSaid_spec d := by
  intro d
  induction d with
  | zero =>
    intro lo A n c l w h _
    obtain rfl := szT_zero_len h
    go_enter Try.func10, Try.ntmps10
    go_wp2
    refine wp_loop_rounds 1 ?_
    rw [rounds_succ]
    go_wp2
    go_ret
    exact ⟨rfl, Below.refl _ _, Nat.le_refl _⟩
  | succ d ih =>
    intro lo A n c l w h hsz
    have hln := h.len
    have hn : n ≤ 1048576 := by rw [szT_succ] at hsz; omega
    have HQ := Lib.hid hsz
    have HL := Lib.hid hln
    have H := Lib.hid h
    clear h hln hsz
    go_enter Try.func10, Try.ntmps10
    go_wp2
    go_loopw [3, 4] (fun m i wr => ∃ t : Nat, t ≤ n ∧ i = .int .i64 t ∧ m = .int .i64 (tokT (d + 1) (l.take t)) ∧ Below w.heap.size w wr) (fun _ i _ => n - (intOf i).toNat)
    case atStart => exact ⟨0, Nat.zero_le _, rfl, rfl, Below.refl _ _⟩
    case round =>
      obtain ⟨t, ht, rfl, rfl, hb⟩ := hrel
      have hN : tokT (d + 1) (l.take t) ≤ 4194304 := Nat.le_trans (tok_take_le l t) (by have := HQ.out; omega)
      obtain ⟨N, hNN⟩ : ∃ N, N = tokT (d + 1) (l.take t) := ⟨_, rfl⟩
      rw [← hNN] at hN ⊢
      have HN := Lib.hid hNN
      clear hNN
      have hbs := hb.size
      by_cases hlt : t < n
      · obtain ⟨b, off, s, Aa, ca, Ab, nb, cb, rfl, hbl, hs, hcs, hra, hrb⟩ := (H.out.below hb).at_ hlt
        obtain ⟨q0, q1, q2, q3, q4⟩ := hcs
        have hme := szT_mem hs
        have hz2 : szT d (bdT s) ≤ 1048576 := by have := HQ.out; rw [szT_succ] at this; unfold szE at hme; omega
        have hz3 : (hdT s).args.length ≤ 1048576 := by have := HQ.out; rw [szT_succ] at this; unfold szE at hme; omega
        have hnb := tokT_le d (bdT s)
        have HT := Lib.hid (tok_take l t s hs)
        have HB := Lib.hid hrb
        clear hs hra hrb hme
        obtain ⟨M, hM⟩ : ∃ M, M = tokT d (bdT s) := ⟨_, rfl⟩
        rw [← hM] at hnb
        have HM := Lib.hid hM
        clear hM
        cases hk : hasB (hdT s).k
        · have hq : ((hdT s).k == 2) = false := hasB_two hk
          have HT2 : Hid (tokT (d + 1) (l.take (t + 1)) = N + (2 + (hdT s).args.length)) := by
            have h := HT.out
            rw [← HN.out, tokE_a hk hq] at h
            exact h
          go_wp2_with fail
          refine (l17Args_any _ _ _ _ _ _ ⟨_, _, _, rfl⟩ ⟨_, _, _, rfl⟩).mono ?_
          rintro e w1 ⟨rfl, b1, s1⟩
          rw [hk]
          have r0 := (b1.cell (p := ⟨b, off + t * 5, none⟩) hbl).trans q0
          have r2 := (b1.cell (p := ⟨b, off + t * 5 + 2, none⟩) hbl).trans q2
          have r4 := (b1.cell (p := ⟨b, off + t * 5 + 4, none⟩) hbl).trans q4
          clear q0 q1 q2 q3 q4
          go_wp2_with fail
          go_roundw
          case rel => exact ⟨t + 1, by omega, by go_num, by rw [HT2.out]; congr 1; omega, (hb.trans (b1.mono hb.size))⟩
          case measure => simp [intOf]; omega
        · cases hq : ((hdT s).k == 2)
          · have HT2 : Hid (tokT (d + 1) (l.take (t + 1)) = N + (2 + (hdT s).args.length + (1 + M))) := by
              have h := HT.out
              rw [← HN.out, tokE_b hk hq] at h
              rw [HM.out]
              exact h
            go_wp2_with fail
            refine (l17Args_any _ _ _ _ _ _ ⟨_, _, _, rfl⟩ ⟨_, _, _, rfl⟩).mono ?_
            rintro e w1 ⟨rfl, b1, s1⟩
            rw [hk]
            have r0 := (b1.cell (p := ⟨b, off + t * 5, none⟩) hbl).trans q0
            have r2 := (b1.cell (p := ⟨b, off + t * 5 + 2, none⟩) hbl).trans q2
            have r4 := (b1.cell (p := ⟨b, off + t * 5 + 4, none⟩) hbl).trans q4
            clear q0 q1 q2 q3 q4
            go_wp2_with fail
            refine (ih lo _ _ _ (bdT s) _ (HB.out.below b1) hz2).mono ?_
            rintro e w2 ⟨rfl, b2, s2⟩
            rw [← HM.out]
            go_wp2_with fail
            go_roundw
            case rel => exact ⟨t + 1, by omega, by go_num, by rw [HT2.out]; congr 1; omega, ((hb.trans (b1.mono hb.size)).trans (b2.mono (by omega)))⟩
            case measure => simp [intOf]; omega
          · have HT2 : Hid (tokT (d + 1) (l.take (t + 1)) = N + (3 + (hdT s).args.length + (1 + M))) := by
              have h := HT.out
              rw [← HN.out, tokE_c hk hq] at h
              rw [HM.out]
              exact h
            go_wp2_with fail
            refine (l17Args_any _ _ _ _ _ _ ⟨_, _, _, rfl⟩ ⟨_, _, _, rfl⟩).mono ?_
            rintro e w1 ⟨rfl, b1, s1⟩
            rw [hk]
            have r0 := (b1.cell (p := ⟨b, off + t * 5, none⟩) hbl).trans q0
            have r2 := (b1.cell (p := ⟨b, off + t * 5 + 2, none⟩) hbl).trans q2
            have r4 := (b1.cell (p := ⟨b, off + t * 5 + 4, none⟩) hbl).trans q4
            clear q0 q1 q2 q3 q4
            go_wp2_with fail
            refine (ih lo _ _ _ (bdT s) _ (HB.out.below b1) hz2).mono ?_
            rintro e w2 ⟨rfl, b2, s2⟩
            rw [← HM.out]
            go_wp2_with fail
            go_roundw
            case rel => exact ⟨t + 1, by omega, by go_num, by rw [HT2.out]; congr 1; omega, ((hb.trans (b1.mono hb.size)).trans (b2.mono (by omega)))⟩
            case measure => simp [intOf]; omega
      · obtain rfl : t = n := by omega
        have HF : Hid (N = tokT (d + 1) l) := by
          have h := HN.out
          rw [List.take_of_length_le (by rw [HL.out]; exact Nat.le_refl _)] at h
          exact h
        go_wp2
        go_ret
        exact ⟨by rw [← HF.out]; rfl, hb, hb.size⟩
end Go.Proofs.Ytbamjfbfipkioaa
