/- What the calls that this law reaches answer, part 15 of 30. -/
import Derived.Test.YtbamjfbfipkioaaDoorJFCheck2
import Derived.Test.YtbamjfbfipkioaaDoorJFCheck14
import Derived.Test.YtbamjfbfipkioaaDoorJFCheck1
namespace Go.Proofs.YtbamjfbfipkioaaDoor
open Go.RowKit
set_option linter.unusedVariables false
theorem hasB_two {k : Int} (h : hasB k = false) : (k == 2) = false := by
  unfold hasB at h
  cases h2 : (k == 2)
  · rfl
  · rw [h2] at h
    exact absurd h (by simp)
def tokT : (d : Nat) → List (Tr d) → Nat
  | 0, _ => 0
  | d + 1, l => (l.map fun (s : Tr (d + 1)) => (if (hdT s).k == 2 then 3 else 2) + (hdT s).args.length + (if hasB (hdT s).k then 1 + tokT d (bdT s) else 0)).sum
def tokE {d : Nat} (s : Tr (d + 1)) : Nat := (if (hdT s).k == 2 then 3 else 2) + (hdT s).args.length + (if hasB (hdT s).k then 1 + tokT d (bdT s) else 0)
theorem tokT_succ {d : Nat} (l : List (Tr (d + 1))) : tokT (d + 1) l = (l.map tokE).sum := rfl
theorem tokE_a {d : Nat} {s : Tr (d + 1)} (hk : hasB (hdT s).k = false) (hq : ((hdT s).k == 2) = false) : tokE s = 2 + (hdT s).args.length := by
  simp only [tokE, hk, hq]; simp
theorem tokE_b {d : Nat} {s : Tr (d + 1)} (hk : hasB (hdT s).k = true) (hq : ((hdT s).k == 2) = false) : tokE s = 2 + (hdT s).args.length + (1 + tokT d (bdT s)) := by
  simp only [tokE, hk, hq]; simp
theorem tokE_c {d : Nat} {s : Tr (d + 1)} (hk : hasB (hdT s).k = true) (hq : ((hdT s).k == 2) = true) : tokE s = 3 + (hdT s).args.length + (1 + tokT d (bdT s)) := by
  simp only [tokE, hk, hq]; simp
theorem tokT_le : ∀ (d : Nat) (l : List (Tr d)), tokT d l ≤ 4 * szT d l := by
  intro d
  induction d with
  | zero => intro l; exact Nat.zero_le _
  | succ d ih =>
    intro l
    rw [tokT_succ, szT_succ]
    unfold sumE
    induction l with
    | nil => simp
    | cons s l ih2 =>
      have h1 := ih (bdT s)
      simp only [List.map_cons, List.sum_cons, List.length_cons]
      have h2 : tokE s ≤ 4 + 4 * szE s := by
        unfold tokE szE
        split <;> split <;> omega
      omega
theorem tok_take_le {d : Nat} (l : List (Tr (d + 1))) (t : Nat) : tokT (d + 1) (l.take t) ≤ 4 * szT (d + 1) l := by
  refine Nat.le_trans (tokT_le _ _) ?_
  rw [szT_succ, szT_succ]
  have := sumE_take_le l t
  have := List.length_take_le' t l
  omega
theorem tok_take {d : Nat} (l : List (Tr (d + 1))) (t : Nat) (s : Tr (d + 1)) (h : l[t]? = some s) : tokT (d + 1) (l.take (t + 1)) = tokT (d + 1) (l.take t) + tokE s := by
  rw [List.take_add_one, h, tokT_succ, tokT_succ]
  simp
def TokSaid_impl (d : Nat) : Prop := ∀ (lo : Nat) (A : Option Addr) (n c : Nat) (l : List (Tr d)) (w : World), RdT w lo d A n l → szT d l ≤ 1048576 →
  Calls Tryd.prog 55 #[.slice A n c] w fun e w' => e = .returned (.int .i64 (tokT d l)) ∧ Below w.heap.size w w' ∧ w.heap.size ≤ w'.heap.size
set_option maxRecDepth 100000 in
set_option maxHeartbeats 2000000 in
theorem StmtTokenCount_impl : ∀ (d : Nat), TokSaid_impl d := by
  intro d
  induction d with
  | zero =>
    intro lo A n c l w h _
    obtain rfl := szT_zero_len h
    go_enter Tryd.func55, Tryd.ntmps55
    go_wp2
    refine wp_loop_rounds 1 ?_
    rw [rounds_succ]
    go_wp2
    go_ret
    exact ⟨rfl, Below.refl _ _, Nat.le_refl _⟩
  | succ d ih =>
    intro lo A n c l w h hsz
    have hln := h.len
    have hn : n ≤ 1048576 := by rw [szT_succ] at hsz; omega
    have HQ := Lib.hid hsz
    have HL := Lib.hid hln
    have H := Lib.hid h
    clear h hln hsz
    go_enter Tryd.func55, Tryd.ntmps55
    go_wp2
    go_loopw [3, 8] (fun m i wr => ∃ t : Nat, t ≤ n ∧ i = .int .i64 t ∧ m = .int .i64 (tokT (d + 1) (l.take t)) ∧ Below w.heap.size w wr) (fun _ i _ => n - (intOf i).toNat)
    case atStart => exact ⟨0, Nat.zero_le _, rfl, rfl, Below.refl _ _⟩
    case round =>
      obtain ⟨t, ht, rfl, rfl, hb⟩ := hrel
      have hN : tokT (d + 1) (l.take t) ≤ 4194304 := Nat.le_trans (tok_take_le l t) (by have := HQ.out; omega)
      obtain ⟨N, hNN⟩ : ∃ N, N = tokT (d + 1) (l.take t) := ⟨_, rfl⟩
      rw [← hNN] at hN ⊢
      have HN := Lib.hid hNN
      clear hNN
      have hbs := hb.size
      by_cases hlt : t < n
      · obtain ⟨b, off, s, Aa, ca, Ab, nb, cb, rfl, hbl, hs, hcs, hra, hrb⟩ := (H.out.below hb).at_ hlt
        obtain ⟨q0, q1, q2, q3, q4⟩ := hcs
        have hme := szT_mem hs
        have hz2 : szT d (bdT s) ≤ 1048576 := by have := HQ.out; rw [szT_succ] at this; unfold szE at hme; omega
        have hz3 : (hdT s).args.length ≤ 1048576 := by have := HQ.out; rw [szT_succ] at this; unfold szE at hme; omega
        have hnb := tokT_le d (bdT s)
        have HT := Lib.hid (tok_take l t s hs)
        have HB := Lib.hid (hrb.below (w' := wr.alloc (.cells #[.int .i64 (hdT s).k, .string (hdT s).word, .slice Aa (hdT s).args.length ca, .int .i64 (hdT s).count, .slice Ab nb cb] 27)) (by repeat (first | exact Below.refl _ _ | assumption | (refine Below.trans ?_ (Below.mono (by assumption) (by first | omega | (simp; done) | (simp; omega)))) | (with_reducible refine Below.drew ?_) | (with_reducible refine Below.alloc ?_ (by first | omega | (simp; done) | (simp; omega)) _) | (with_reducible refine Below.setCell ?_ (by first | omega | (simp; done) | (simp; omega)) _))))
        clear hs hra hrb hme
        obtain ⟨M, hM⟩ : ∃ M, M = tokT d (bdT s) := ⟨_, rfl⟩
        rw [← hM] at hnb
        have HM := Lib.hid hM
        clear hM
        cases hk : hasB (hdT s).k
        · have hq : ((hdT s).k == 2) = false := hasB_two hk
          have HT2 : Hid (tokT (d + 1) (l.take (t + 1)) = N + (2 + (hdT s).args.length)) := by
            have h := HT.out
            rw [← HN.out, tokE_a hk hq] at h
            exact h
          go_wp2_with (go_at_call 26; refine (hasBody_any _ _).mono ?_; rintro e w' ⟨rfl, rfl⟩)
          go_roundw
          case rel => exact ⟨t + 1, by omega, by go_num, by rw [HT2.out]; congr 1; omega, (hb.alloc hb.size _)⟩
          case measure => simp [intOf]; omega
        · cases hq : ((hdT s).k == 2)
          · have HT2 : Hid (tokT (d + 1) (l.take (t + 1)) = N + (2 + (hdT s).args.length + (1 + M))) := by
              have h := HT.out
              rw [← HN.out, tokE_b hk hq] at h
              rw [HM.out]
              exact h
            go_wp2_with (first | (go_at_call 26; refine (hasBody_any _ _).mono ?_; rintro e w' ⟨rfl, rfl⟩) | (go_at_call 55; refine (ih lo _ _ _ (bdT s) _ HB.out hz2).mono ?_; rintro e w1 ⟨rfl, b1, s1⟩; rw [← HM.out]))
            go_roundw
            case rel => exact ⟨t + 1, by omega, by go_num, by rw [HT2.out]; congr 1; omega, (hb.alloc hb.size _).trans (b1.mono (by simp; omega))⟩
            case measure => simp [intOf]; omega
          · have HT2 : Hid (tokT (d + 1) (l.take (t + 1)) = N + (3 + (hdT s).args.length + (1 + M))) := by
              have h := HT.out
              rw [← HN.out, tokE_c hk hq] at h
              rw [HM.out]
              exact h
            go_wp2_with (first | (go_at_call 26; refine (hasBody_any _ _).mono ?_; rintro e w' ⟨rfl, rfl⟩) | (go_at_call 55; refine (ih lo _ _ _ (bdT s) _ HB.out hz2).mono ?_; rintro e w1 ⟨rfl, b1, s1⟩; rw [← HM.out]))
            go_roundw
            case rel => exact ⟨t + 1, by omega, by go_num, by rw [HT2.out]; congr 1; omega, (hb.alloc hb.size _).trans (b1.mono (by simp; omega))⟩
            case measure => simp [intOf]; omega
      · obtain rfl : t = n := by omega
        have HF : Hid (N = tokT (d + 1) l) := by
          have h := HN.out
          rw [List.take_of_length_le (by rw [HL.out]; exact Nat.le_refl _)] at h
          exact h
        go_wp2
        go_ret
        exact ⟨by rw [← HF.out]; rfl, hb, hb.size⟩
def TokSaid_spec (d : Nat) : Prop := ∀ (lo : Nat) (A : Option Addr) (n c : Nat) (l : List (Tr d)) (w : World), RdT w lo d A n l → szT d l ≤ 1048576 →
  Calls Tryd.prog 12 #[.slice A n c] w fun e w' => e = .returned (.int .i64 (tokT d l)) ∧ Below w.heap.size w w' ∧ w.heap.size ≤ w'.heap.size
set_option maxRecDepth 100000 in
set_option maxHeartbeats 2000000 in
theorem StmtTokenCount_spec : ∀ (d : Nat), TokSaid_spec d := by
  intro d
  induction d with
  | zero =>
    intro lo A n c l w h _
    obtain rfl := szT_zero_len h
    go_enter Tryd.func12, Tryd.ntmps12
    go_wp2
    refine wp_loop_rounds 1 ?_
    rw [rounds_succ]
    go_wp2
    go_ret
    exact ⟨rfl, Below.refl _ _, Nat.le_refl _⟩
  | succ d ih =>
    intro lo A n c l w h hsz
    have hln := h.len
    have hn : n ≤ 1048576 := by rw [szT_succ] at hsz; omega
    have HQ := Lib.hid hsz
    have HL := Lib.hid hln
    have H := Lib.hid h
    clear h hln hsz
    go_enter Tryd.func12, Tryd.ntmps12
    go_wp2
    go_loopw [3, 4] (fun m i wr => ∃ t : Nat, t ≤ n ∧ i = .int .i64 t ∧ m = .int .i64 (tokT (d + 1) (l.take t)) ∧ Below w.heap.size w wr) (fun _ i _ => n - (intOf i).toNat)
    case atStart => exact ⟨0, Nat.zero_le _, rfl, rfl, Below.refl _ _⟩
    case round =>
      obtain ⟨t, ht, rfl, rfl, hb⟩ := hrel
      have hN : tokT (d + 1) (l.take t) ≤ 4194304 := Nat.le_trans (tok_take_le l t) (by have := HQ.out; omega)
      obtain ⟨N, hNN⟩ : ∃ N, N = tokT (d + 1) (l.take t) := ⟨_, rfl⟩
      rw [← hNN] at hN ⊢
      have HN := Lib.hid hNN
      clear hNN
      have hbs := hb.size
      by_cases hlt : t < n
      · obtain ⟨b, off, s, Aa, ca, Ab, nb, cb, rfl, hbl, hs, hcs, hra, hrb⟩ := (H.out.below hb).at_ hlt
        obtain ⟨q0, q1, q2, q3, q4⟩ := hcs
        have hme := szT_mem hs
        have hz2 : szT d (bdT s) ≤ 1048576 := by have := HQ.out; rw [szT_succ] at this; unfold szE at hme; omega
        have hz3 : (hdT s).args.length ≤ 1048576 := by have := HQ.out; rw [szT_succ] at this; unfold szE at hme; omega
        have hnb := tokT_le d (bdT s)
        have HT := Lib.hid (tok_take l t s hs)
        have HB := Lib.hid hrb
        clear hs hra hrb hme
        obtain ⟨M, hM⟩ : ∃ M, M = tokT d (bdT s) := ⟨_, rfl⟩
        rw [← hM] at hnb
        have HM := Lib.hid hM
        clear hM
        cases hk : hasB (hdT s).k
        · have hq : ((hdT s).k == 2) = false := hasB_two hk
          have HT2 : Hid (tokT (d + 1) (l.take (t + 1)) = N + (2 + (hdT s).args.length)) := by
            have h := HT.out
            rw [← HN.out, tokE_a hk hq] at h
            exact h
          go_wp2_with fail
          refine (l17Args_any _ _ _ _ _ _ ⟨_, _, _, rfl⟩ ⟨_, _, _, rfl⟩).mono ?_
          rintro e w1 ⟨rfl, b1, s1⟩
          rw [hk]
          have r0 := (b1.cell (p := ⟨b, off + t * 5, none⟩) hbl).trans q0
          have r2 := (b1.cell (p := ⟨b, off + t * 5 + 2, none⟩) hbl).trans q2
          have r4 := (b1.cell (p := ⟨b, off + t * 5 + 4, none⟩) hbl).trans q4
          clear q0 q1 q2 q3 q4
          go_wp2_with fail
          go_roundw
          case rel => exact ⟨t + 1, by omega, by go_num, by rw [HT2.out]; congr 1; omega, (hb.trans (b1.mono hb.size))⟩
          case measure => simp [intOf]; omega
        · cases hq : ((hdT s).k == 2)
          · have HT2 : Hid (tokT (d + 1) (l.take (t + 1)) = N + (2 + (hdT s).args.length + (1 + M))) := by
              have h := HT.out
              rw [← HN.out, tokE_b hk hq] at h
              rw [HM.out]
              exact h
            go_wp2_with fail
            refine (l17Args_any _ _ _ _ _ _ ⟨_, _, _, rfl⟩ ⟨_, _, _, rfl⟩).mono ?_
            rintro e w1 ⟨rfl, b1, s1⟩
            rw [hk]
            have r0 := (b1.cell (p := ⟨b, off + t * 5, none⟩) hbl).trans q0
            have r2 := (b1.cell (p := ⟨b, off + t * 5 + 2, none⟩) hbl).trans q2
            have r4 := (b1.cell (p := ⟨b, off + t * 5 + 4, none⟩) hbl).trans q4
            clear q0 q1 q2 q3 q4
            go_wp2_with fail
            refine (ih lo _ _ _ (bdT s) _ (HB.out.below b1) hz2).mono ?_
            rintro e w2 ⟨rfl, b2, s2⟩
            rw [← HM.out]
            go_wp2_with fail
            go_roundw
            case rel => exact ⟨t + 1, by omega, by go_num, by rw [HT2.out]; congr 1; omega, ((hb.trans (b1.mono hb.size)).trans (b2.mono (by omega)))⟩
            case measure => simp [intOf]; omega
          · have HT2 : Hid (tokT (d + 1) (l.take (t + 1)) = N + (3 + (hdT s).args.length + (1 + M))) := by
              have h := HT.out
              rw [← HN.out, tokE_c hk hq] at h
              rw [HM.out]
              exact h
            go_wp2_with fail
            refine (l17Args_any _ _ _ _ _ _ ⟨_, _, _, rfl⟩ ⟨_, _, _, rfl⟩).mono ?_
            rintro e w1 ⟨rfl, b1, s1⟩
            rw [hk]
            have r0 := (b1.cell (p := ⟨b, off + t * 5, none⟩) hbl).trans q0
            have r2 := (b1.cell (p := ⟨b, off + t * 5 + 2, none⟩) hbl).trans q2
            have r4 := (b1.cell (p := ⟨b, off + t * 5 + 4, none⟩) hbl).trans q4
            clear q0 q1 q2 q3 q4
            go_wp2_with fail
            refine (ih lo _ _ _ (bdT s) _ (HB.out.below b1) hz2).mono ?_
            rintro e w2 ⟨rfl, b2, s2⟩
            rw [← HM.out]
            go_wp2_with fail
            go_roundw
            case rel => exact ⟨t + 1, by omega, by go_num, by rw [HT2.out]; congr 1; omega, ((hb.trans (b1.mono hb.size)).trans (b2.mono (by omega)))⟩
            case measure => simp [intOf]; omega
      · obtain rfl : t = n := by omega
        have HF : Hid (N = tokT (d + 1) l) := by
          have h := HN.out
          rw [List.take_of_length_le (by rw [HL.out]; exact Nat.le_refl _)] at h
          exact h
        go_wp2
        go_ret
        exact ⟨by rw [← HF.out]; rfl, hb, hb.size⟩
end Go.Proofs.YtbamjfbfipkioaaDoor
namespace Go.Proofs.YtbamjfbfipkioaaDoor
open Go.RowKit
set_option linter.unusedVariables false
theorem headV_no {k : Int} (h : inB k 1 7 = false) (word : ByteArray) (na : Nat) (count : Int) (nb : Nat) : headV k word na count nb = false := by simp [headV, h]
set_option maxRecDepth 100000 in
set_option maxHeartbeats 2000000 in
theorem vst_impl_no (k : Int) (word : ByteArray) (args : List ByteArray) (count : Int) (Aa : Option Addr) (ca : Nat) (Ab : Option Addr) (nb cb : Nat) (w : World) (rs : List Bool) (hk : inB k 1 7 = false) :
    Calls Tryd.prog 10 #[.agg #[.int .i64 k, .string word, .slice Aa args.length ca, .int .i64 count, .slice Ab nb cb]] w fun e w' => e = .returned (.bool (vRes k word args count nb rs)) ∧ Below w.heap.size w w' ∧ w.heap.size ≤ w'.heap.size := by
  have hk' := inB_not.1 hk
  have HF := Lib.hid (vRes_h (rs := rs) (headV_no hk word args.length count nb))
  have e1 : (k == 1) = false := beq_eq_false_iff_ne.2 (by omega)
  have e2 : (k == 2) = false := beq_eq_false_iff_ne.2 (by omega)
  have e3 : (k == 3) = false := beq_eq_false_iff_ne.2 (by omega)
  have e4 : (k == 4) = false := beq_eq_false_iff_ne.2 (by omega)
  have e5 : (k == 5) = false := beq_eq_false_iff_ne.2 (by omega)
  have e6 : (k == 6) = false := beq_eq_false_iff_ne.2 (by omega)
  have e7 : (k == 7) = false := beq_eq_false_iff_ne.2 (by omega)
  obtain ⟨m, hm⟩ : ∃ m, m = args.length := ⟨_, rfl⟩
  rw [← hm]
  clear hk hk' hm
  go_enter Tryd.func10, Tryd.ntmps10
  go_wp2_with fail
  go_ret
  exact ⟨by rw [HF.out]; rfl, (by repeat (first | exact Below.refl _ _ | assumption | (refine Below.trans ?_ (Below.mono (by assumption) (by first | omega | (simp; done) | (simp; omega)))) | (with_reducible refine Below.drew ?_) | (with_reducible refine Below.alloc ?_ (by first | omega | (simp; done) | (simp; omega)) _) | (with_reducible refine Below.setCell ?_ (by first | omega | (simp; done) | (simp; omega)) _))), (by first | omega | (simp; done) | (simp; omega))⟩
theorem vst_impl_k (k : Int) (word : ByteArray) (args : List ByteArray) (count : Int) (Aa : Option Addr) (ca : Nat) (Ab : Option Addr) (nb cb : Nat) (w : World) (rs : List Bool) (hra : Rd w 1 Aa args.length (strs args)) (hG : GN w) (hz : szS args ≤ 1048576) (hl : args.length ≤ 1048576) (hn : nb ≤ 1048576) (hrs : rs.length = nb) (hel : Elts 10 w Ab nb rs) :
    Calls Tryd.prog 10 #[.agg #[.int .i64 k, .string word, .slice Aa args.length ca, .int .i64 count, .slice Ab nb cb]] w fun e w' => e = .returned (.bool (vRes k word args count nb rs)) ∧ Below w.heap.size w w' ∧ w.heap.size ≤ w'.heap.size := by
  cases hk : inB k 1 7
  · exact vst_impl_no k word args count Aa ca Ab nb cb w rs hk
  · have h := inB_iff.1 hk
    have hc : k = 1 ∨ k = 2 ∨ k = 3 ∨ k = 4 ∨ k = 5 ∨ k = 6 ∨ k = 7 := by omega
    rcases hc with rfl | rfl | rfl | rfl | rfl | rfl | rfl
    · exact vst_impl_1 word args count Aa ca Ab nb cb w rs hra hG hz hl hn hrs hel
    · exact vst_impl_2 word args count Aa ca Ab nb cb w rs hra hG hz hl hn hrs hel
    · exact vst_impl_3 word args count Aa ca Ab nb cb w rs hra hG hz hl hn hrs hel
    · exact vst_impl_4 word args count Aa ca Ab nb cb w rs hra hG hz hl hn hrs hel
    · exact vst_impl_5 word args count Aa ca Ab nb cb w rs hra hG hz hl hn hrs hel
    · exact vst_impl_6 word args count Aa ca Ab nb cb w rs hra hG hz hl hn hrs hel
    · exact vst_impl_7 word args count Aa ca Ab nb cb w rs hra hG hz hl hn hrs hel
def VSaidI (d : Nat) : Prop := ∀ (lo : Nat) (k : Int) (word : ByteArray) (args : List ByteArray) (count : Int) (bd : List (Tr d)) (Aa : Option Addr) (ca : Nat) (Ab : Option Addr) (nb cb : Nat) (w : World), RdL w lo 1 Aa args.length (strs args) → RdT w lo d Ab nb bd → GN w → szS args ≤ 1048576 → args.length ≤ 1048576 → szT d bd ≤ 1048576 →
  Calls Tryd.prog 10 #[.agg #[.int .i64 k, .string word, .slice Aa args.length ca, .int .i64 count, .slice Ab nb cb]] w fun e w' => e = .returned (.bool (vOne d (validT d) ⟨k, word, args, count⟩ bd)) ∧ Below w.heap.size w w' ∧ w.heap.size ≤ w'.heap.size
theorem IsValidStmt_impl : ∀ (d : Nat), VSaidI d := by
  intro d
  induction d with
  | zero =>
    intro lo k word args count bd Aa ca Ab nb cb w hra hrb hG hz hl hsz
    obtain rfl := szT_zero_len hrb
    obtain rfl : bd = [] := List.eq_nil_of_length_eq_zero hrb.len
    exact (vst_impl_k k word args count Aa ca Ab 0 cb w [] hra.rd hG hz hl (by omega) rfl (fun t ht => absurd ht (by omega))).mono fun e w' ⟨h1, h2⟩ => ⟨by rw [h1]; exact congrArg (fun b => Ending.returned (Value.bool b)) (vRes_one (d := 0) (bd := []) rfl), h2⟩
  | succ d ih =>
    intro lo k word args count bd Aa ca Ab nb cb w hra hrb hG hz hl hsz
    have hlen := hrb.len
    subst hlen
    have hn : bd.length ≤ 1048576 := by rw [szT_succ] at hsz; omega
    refine (vst_impl_k k word args count Aa ca Ab bd.length cb w (bd.map fun s => vOne d (validT d) (hdT s) (bdT s)) hra.rd hG hz hl hn (by simp) (fun t ht => ?_)).mono fun e w' ⟨h1, h2⟩ => ⟨by rw [h1]; exact congrArg (fun b => Ending.returned (Value.bool b)) (vRes_one (rs_valid bd)), h2⟩
    obtain ⟨b, off, s, Aa', ca', Ab', nb', cb', rfl, hbl, hs, ⟨c0, c1, c2, c3, c4⟩, h2, h3⟩ := hrb.at_ ht
    refine ⟨b, off, (hdT s).k, (hdT s).word, Aa', (hdT s).args.length, ca', (hdT s).count, Ab', nb', cb', _, rfl, hbl, ⟨c0, c1, c2, c3, c4⟩, by rw [List.getElem?_map, hs]; rfl, fun w' hw' => ?_⟩
    have hme := szT_mem hs
    have hq := hsz
    rw [szT_succ] at hq
    unfold szE at hme
    exact ih lo _ _ _ _ (bdT s) _ _ _ _ _ _ (h2.below hw') (h3.below hw') (hG.below hw') (by omega) (by omega) (by omega)
set_option maxRecDepth 100000 in
set_option maxHeartbeats 2000000 in
theorem vst_spec_no (k : Int) (word : ByteArray) (args : List ByteArray) (count : Int) (Aa : Option Addr) (ca : Nat) (Ab : Option Addr) (nb cb : Nat) (w : World) (V : Bool) (hk : inB k 1 7 = false) :
    Calls Tryd.prog 11 #[.agg #[.int .i64 k, .string word, .slice Aa args.length ca, .int .i64 count, .slice Ab nb cb]] w fun e w' => e = .returned (.bool (vR3 k word args count nb V)) ∧ Below w.heap.size w w' ∧ w.heap.size ≤ w'.heap.size := by
  have HF := Lib.hid (vR3_h (V := V) (args := args) (headV_no hk word args.length count nb))
  obtain ⟨m, hm⟩ : ∃ m, m = args.length := ⟨_, rfl⟩
  rw [← hm]
  clear hm
  obtain ⟨w0, hw0⟩ : ∃ w0, w0 = w.alloc (.cells #[.int .i64 k, .string word, .slice Aa m ca, .int .i64 count, .slice Ab nb cb] 27) := ⟨_, rfl⟩
  have X0 := Lib.hid (show w0.heap[w.heap.size]? = some (.cells #[.int .i64 k, .string word, .slice Aa m ca, .int .i64 count, .slice Ab nb cb] 27 (0, 0)) by rw [hw0]; exact boxed1_0 _ _)
  have b0 : Below w.heap.size w w0 := by rw [hw0]; exact (by repeat (first | exact Below.refl _ _ | assumption | (refine Below.trans ?_ (Below.mono (by assumption) (by first | omega | (simp; done) | (simp; omega)))) | (with_reducible refine Below.drew ?_) | (with_reducible refine Below.alloc ?_ (by first | omega | (simp; done) | (simp; omega)) _) | (with_reducible refine Below.setCell ?_ (by first | omega | (simp; done) | (simp; omega)) _)))
  have hs0 : w.heap.size ≤ w0.heap.size := b0.size
  have B0 := Lib.hid b0
  have HW := Lib.hid hw0
  clear b0 hw0
  go_enter Tryd.func11, Tryd.ntmps11
  go_wp2_with fail
  rw [← HW.out]
  refine (l17Args_any _ _ _ _ _ _ ⟨_, _, _, rfl⟩ ⟨_, _, _, rfl⟩).mono ?_
  rintro e w1 ⟨rfl, b1, s1⟩
  obtain ⟨p0, p1, p2, p3, p4⟩ := boxcells5 (lay := b1) X0.out
  have hB1 : Below w.heap.size w w1 := B0.out.trans (b1.mono hs0)
  have HBB := Lib.hid hB1
  have hS1 : w.heap.size ≤ w1.heap.size := hB1.size
  clear hB1
  go_wp2_with (go_at_call 30; refine (l1In_any _ _ _ _).mono ?_; rintro e w' ⟨rfl, rfl⟩)
  go_ret
  exact ⟨by rw [HF.out]; rfl, HBB.out, hS1⟩
theorem vst_spec_k (k : Int) (word : ByteArray) (args : List ByteArray) (count : Int) (Aa : Option Addr) (ca : Nat) (Ab : Option Addr) (nb cb : Nat) (w : World) (V : Bool) (hra : Rd w 1 Aa args.length (strs args)) (hz : szS args ≤ 1048576) (hl : args.length ≤ 1048576) (hn : nb ≤ 1048576)
    (hall : ∀ w', Below w.heap.size w w' → Calls Tryd.prog 32 #[.slice Ab nb cb] w' fun e w'' => e = .returned (.bool V) ∧ Below w'.heap.size w' w'' ∧ w'.heap.size ≤ w''.heap.size) :
    Calls Tryd.prog 11 #[.agg #[.int .i64 k, .string word, .slice Aa args.length ca, .int .i64 count, .slice Ab nb cb]] w fun e w' => e = .returned (.bool (vR3 k word args count nb V)) ∧ Below w.heap.size w w' ∧ w.heap.size ≤ w'.heap.size := by
  cases hk : inB k 1 7
  · exact vst_spec_no k word args count Aa ca Ab nb cb w V hk
  · have h := inB_iff.1 hk
    have hc : k = 1 ∨ k = 2 ∨ k = 3 ∨ k = 4 ∨ k = 5 ∨ k = 6 ∨ k = 7 := by omega
    rcases hc with rfl | rfl | rfl | rfl | rfl | rfl | rfl
    · exact vst_spec_1 word args count Aa ca Ab nb cb w V hra hz hl hn hall
    · exact vst_spec_2 word args count Aa ca Ab nb cb w V hra hz hl hn hall
    · exact vst_spec_3 word args count Aa ca Ab nb cb w V hra hz hl hn hall
    · exact vst_spec_4 word args count Aa ca Ab nb cb w V hra hz hl hn hall
    · exact vst_spec_5 word args count Aa ca Ab nb cb w V hra hz hl hn hall
    · exact vst_spec_6 word args count Aa ca Ab nb cb w V hra hz hl hn hall
    · exact vst_spec_7 word args count Aa ca Ab nb cb w V hra hz hl hn hall
def AllSaid (d : Nat) : Prop := ∀ (lo : Nat) (A : Option Addr) (n c : Nat) (l : List (Tr d)) (w : World), RdT w lo d A n l → szT d l ≤ 1048576 →
  Calls Tryd.prog 32 #[.slice A n c] w fun e w' => e = .returned (.bool (validT d l)) ∧ Below w.heap.size w w' ∧ w.heap.size ≤ w'.heap.size
def VSaidS (d : Nat) : Prop := ∀ (lo : Nat) (k : Int) (word : ByteArray) (args : List ByteArray) (count : Int) (bd : List (Tr d)) (Aa : Option Addr) (ca : Nat) (Ab : Option Addr) (nb cb : Nat) (w : World), RdL w lo 1 Aa args.length (strs args) → RdT w lo d Ab nb bd → szS args ≤ 1048576 → args.length ≤ 1048576 → szT d bd ≤ 1048576 →
  Calls Tryd.prog 11 #[.agg #[.int .i64 k, .string word, .slice Aa args.length ca, .int .i64 count, .slice Ab nb cb]] w fun e w' => e = .returned (.bool (vOne d (validT d) ⟨k, word, args, count⟩ bd)) ∧ Below w.heap.size w w' ∧ w.heap.size ≤ w'.heap.size
theorem one_of_all {d : Nat} (h : AllSaid d) : VSaidS d := by
  intro lo k word args count bd Aa ca Ab nb cb w hra hrb hz hl hsz
  have hlen := hrb.len
  subst hlen
  have hn : bd.length ≤ 1048576 := by
    cases d with
    | zero => have := szT_zero_len hrb; omega
    | succ d => rw [szT_succ] at hsz; omega
  exact (vst_spec_k k word args count Aa ca Ab bd.length cb w (validT d bd) hra.rd hz hl hn (fun w' hw' => h lo _ _ _ bd w' (hrb.below hw') hsz))
set_option maxRecDepth 100000 in
set_option maxHeartbeats 2000000 in
theorem l17All_any : ∀ (d : Nat), AllSaid d := by
  intro d
  induction d with
  | zero =>
    intro lo A n c l w h _
    obtain rfl := szT_zero_len h
    go_enter Tryd.func32, Tryd.ntmps32
    go_wp2
    refine wp_loop_rounds 1 ?_
    rw [rounds_succ]
    go_wp2
    go_ret
    exact ⟨rfl, Below.refl _ _, Nat.le_refl _⟩
  | succ d ih =>
    intro lo A n c l w h hsz
    have hq := hsz
    rw [szT_succ] at hq
    have hl := h.len
    have hn : n ≤ 1048576 := by omega
    have H := Lib.hid h
    have HL := Lib.hid hl
    have ih' := Lib.hid (one_of_all ih)
    have HQ := Lib.hid hq
    clear h hl hsz hq
    go_enter Tryd.func32, Tryd.ntmps32
    go_wp2
    go_loopw [3] (fun i wr => ∃ t : Nat, t ≤ n ∧ i = .int .i64 t ∧ validT (d + 1) (l.take t) = true ∧ Below w.heap.size w wr) (fun i _ => n - (intOf i).toNat)
    case atStart => exact ⟨0, Nat.zero_le _, rfl, rfl, Below.refl _ _⟩
    case round =>
      obtain ⟨t, ht, rfl, hok, hb⟩ := hrel
      have HOK := Lib.hid hok
      have hbs := hb.size
      clear hok
      by_cases hlt : t < n
      · obtain ⟨b, off, s, Aa', ca', Ab', nb', cb', rfl, hbl, hs, ⟨c0, c1, c2, c3, c4⟩, h2, h3⟩ := (H.out.below hb).at_ hlt
        have hme := szT_mem hs
        unfold szE at hme
        have hq := HQ.out
        have HC := Lib.hid (ih'.out lo (hdT s).k (hdT s).word (hdT s).args (hdT s).count (bdT s) Aa' ca' Ab' nb' cb' wr h2 h3 (by omega) (by omega) (by omega))
        obtain ⟨V, hV⟩ : ∃ V, V = vOne d (validT d) (hdT s) (bdT s) := ⟨_, rfl⟩
        have HV := Lib.hid hV
        have HS := Lib.hid hs
        have HC2 : Hid (Calls Tryd.prog 11 #[.agg #[.int .i64 (hdT s).k, .string (hdT s).word, .slice Aa' (hdT s).args.length ca', .int .i64 (hdT s).count, .slice Ab' nb' cb']] wr fun e w' => e = .returned (.bool V) ∧ Below wr.heap.size wr w' ∧ wr.heap.size ≤ w'.heap.size) := by
          rw [hV]
          exact HC.out
        clear hV hs hme hq HC h2 h3
        cases V
        · have HF := Lib.hid (show validT (d + 1) l = false by
            simp only [validT]
            rw [List.all_eq_false]
            exact ⟨s, List.mem_of_getElem? HS.out, by rw [← HV.out]; simp⟩)
          go_wp2_with fail
          refine HC2.out.mono ?_
          rintro e w2 ⟨rfl, hb2, hs2⟩
          go_wp2_with fail
          go_ret
          exact ⟨by rw [HF.out]; rfl, hb.trans (hb2.mono hbs), by omega⟩
        · have HN := Lib.hid (show validT (d + 1) (l.take (t + 1)) = true by
            have h := HOK.out
            simp only [validT] at h ⊢
            rw [all_take _ HS.out, h, ← HV.out]
            rfl)
          go_wp2_with fail
          refine HC2.out.mono ?_
          rintro e w2 ⟨rfl, hb2, hs2⟩
          go_wp2_with fail
          go_roundw
          case rel => exact ⟨t + 1, by omega, by go_num, HN.out, hb.trans (hb2.mono hbs)⟩
          case measure => simp [intOf]; omega
      · obtain rfl : t = n := by omega
        have HF : Hid (validT (d + 1) l = true) := by
          have h := HOK.out
          rw [List.take_of_length_le (by rw [HL.out]; exact Nat.le_refl _)] at h
          exact h
        go_wp2_with fail
        go_ret
        exact ⟨by rw [HF.out]; rfl, hb, hb.size⟩
end Go.Proofs.YtbamjfbfipkioaaDoor
namespace Go.Proofs.YtbamjfbfipkioaaDoor
open Go.RowKit
set_option linter.unusedVariables false
theorem boxcells2 {w w' : World} {b : Nat} {x0 x1 : Value} {t : TypeId} (lay : Below w'.heap.size w' w) (h : w'.heap[b]? = some (.cells #[x0, x1] t (0, 0))) :
    w.cell? ⟨b, 0, none⟩ = some x0 ∧ w.cell? ⟨b, 1, none⟩ = some x1 := by
  have h' : w.heap[b]? = some (.cells #[x0, x1] t (0, 0)) := (lay.block b (lt_of_block h)).trans h
  exact ⟨by simp [World.cell?, h'], by simp [World.cell?, h']⟩
end Go.Proofs.YtbamjfbfipkioaaDoor
