/- What the calls that this law reaches answer, part 17 of 30. -/
import Derived.Test.YtbamjfbfipkioaaDoorJFCheck16
namespace Go.Proofs.YtbamjfbfipkioaaDoor
open Go.RowKit
set_option linter.unusedVariables false
theorem pgR_w {c1 V : Bool} {N T m t : Nat} {qs : List ByteArray} {s : ByteArray} (hs : qs[t]? = some s) (h : wordOk s = false) : pgR c1 (allW qs) V N T m = false := by
  have : qs.all wordOk = false := by
    rw [List.all_eq_false]
    exact ⟨s, List.mem_of_getElem? hs, by simp [h]⟩
  have e : allW qs = false := this
  rw [e]
  cases c1 <;> rfl
theorem pgR_b {c1 c2 : Bool} {N T m t : Nat} {rs : List Bool} (hs : rs[t]? = some false) : pgR c1 c2 (rs.all id) N T m = false := by
  have : rs.all id = false := by
    rw [List.all_eq_false]
    exact ⟨false, List.mem_of_getElem? hs, by simp⟩
  rw [this]
  cases c1 <;> cases c2 <;> rfl
set_option maxRecDepth 100000 in
set_option maxHeartbeats 8000000 in
theorem pgm_impl_1 (Aq : Option Addr) (m cq : Nat) (qs : List ByteArray) (Ab : Option Addr) (nb cb : Nat) (rs : List Bool) (w : World) (c1 : Bool) (N T : Nat) (hmq : qs.length = m) (hm : m ≤ 1048576) (hT0 : T ≤ 8388608) (hra : Rd w 1 Aq m (strs qs)) (hz : szS qs ≤ 1048576) (hn : nb ≤ 1048576) (hrs : rs.length = nb) (hel : Elts 10 w Ab nb rs) (hc1 : c1 = false)
    (h1 : ∀ w', Calls Tryd.prog 27 #[.int .i64 m, .int .i64 1, .int .i64 4] w' fun e w'' => e = .returned (.bool c1) ∧ w' = w'')
    (h4 : ∀ w', Below w.heap.size w w' → Calls Tryd.prog 54 #[.slice Ab nb cb] w' fun e w'' => e = .returned (.int .i64 N) ∧ Below w'.heap.size w' w'' ∧ w'.heap.size ≤ w''.heap.size)
    (h5 : ∀ w', Below w.heap.size w w' → Calls Tryd.prog 55 #[.slice Ab nb cb] w' fun e w'' => e = .returned (.int .i64 T) ∧ Below w'.heap.size w' w'' ∧ w'.heap.size ≤ w''.heap.size) :
    Calls Tryd.prog 37 #[.agg #[.slice Aq m cq, .slice Ab nb cb]] w fun e w' => e = .returned (.bool (pgR c1 (allW qs) (rs.all id) N T m)) ∧ Below w.heap.size w w' ∧ w.heap.size ≤ w'.heap.size := by
  subst hc1
  have HM := Lib.hid hmq
  have HRA := Lib.hid hra
  have HEL := Lib.hid hel
  have HRS := Lib.hid hrs
  have H1 := Lib.hid h1
  have H4 := Lib.hid h4
  have H5 := Lib.hid h5
  clear hra hel hrs h1 h4 h5 hmq
  go_enter Tryd.func37, Tryd.ntmps37
  go_wp2_with fail
  go_loop [10] (fun i => ∃ t : Nat, t ≤ m ∧ i = .int .i64 t ∧ (qs.take t).all wordOk = true) (fun i => m - (intOf i).toNat)
  case atStart => exact ⟨0, Nat.zero_le _, rfl, rfl⟩
  case round =>
    obtain ⟨t, ht, rfl, hok⟩ := hrel
    have HOK := Lib.hid hok
    clear hok
    by_cases hlt : t < m
    · have htl : t < qs.length := by have := HM.out; omega
      obtain ⟨s, hs⟩ : ∃ s, qs[t]? = some s := ⟨_, List.getElem?_eq_getElem htl⟩
      obtain ⟨b, off, rfl, _, hc⟩ := HRA.out.2 (by omega)
      have q0 := hc t _ (strs_at hs)
      have hsz := szS_mem hs
      have HS := Lib.hid hs
      have hs63 : s.size ≤ 9223372036854775807 := by omega
      clear hc hs htl hsz
      cases hw : wordOk s
      · have HF := Lib.hid (pgR_w (c1 := false) (V := rs.all id) (N := N) (T := T) (m := m) HS.out hw)
        go_wp2_with (go_at_call 28; refine (IsValidWord_impl _ _ hs63).mono ?_; rintro e w' ⟨rfl, rfl⟩)
        go_ret
        exact ⟨by rw [HF.out]; rfl, (by repeat (first | exact Below.refl _ _ | assumption | (refine Below.trans ?_ (Below.mono (by assumption) (by first | omega | (simp; done) | (simp; omega)))) | (with_reducible refine Below.drew ?_) | (with_reducible refine Below.alloc ?_ (by first | omega | (simp; done) | (simp; omega)) _) | (with_reducible refine Below.setCell ?_ (by first | omega | (simp; done) | (simp; omega)) _))), (by first | omega | (simp; done) | (simp; omega))⟩
      · have HN := Lib.hid (show (qs.take (t + 1)).all wordOk = true by rw [all_take _ HS.out, HOK.out, hw]; rfl)
        go_wp2_with (go_at_call 28; refine (IsValidWord_impl _ _ hs63).mono ?_; rintro e w' ⟨rfl, rfl⟩)
        go_round
        case rel => exact ⟨t + 1, by omega, by go_num, HN.out⟩
        case measure => simp [intOf]; omega
    · have HAL : Hid (allW qs = true) := by
        have h := HOK.out
        rw [List.take_of_length_le (by have := HM.out; omega)] at h
        exact h
      obtain ⟨w0, hw0⟩ : ∃ w0, w0 = w.alloc (.cells #[.slice Aq m cq, .slice Ab nb cb] 35) := ⟨_, rfl⟩
      have X0 := Lib.hid (show w0.heap[w.heap.size]? = some (.cells #[.slice Aq m cq, .slice Ab nb cb] 35 (0, 0)) by rw [hw0]; exact boxed1_0 _ _)
      have b0 : Below w.heap.size w w0 := by rw [hw0]; exact (by repeat (first | exact Below.refl _ _ | assumption | (refine Below.trans ?_ (Below.mono (by assumption) (by first | omega | (simp; done) | (simp; omega)))) | (with_reducible refine Below.drew ?_) | (with_reducible refine Below.alloc ?_ (by first | omega | (simp; done) | (simp; omega)) _) | (with_reducible refine Below.setCell ?_ (by first | omega | (simp; done) | (simp; omega)) _)))
      have s0 : w.heap.size ≤ w0.heap.size := b0.size
      go_wp2_with fail
      rw [← hw0]
      have B0 := Lib.hid b0
      clear hw0 b0
      go_loopw [21] (fun i wr => ∃ t : Nat, t ≤ nb ∧ i = .int .i64 t ∧ (rs.take t).all id = true ∧ Below w0.heap.size w0 wr) (fun i _ => nb - (intOf i).toNat)
      case atStart => exact ⟨0, Nat.zero_le _, rfl, rfl, Below.refl _ _⟩
      case round =>
        obtain ⟨t, ht, rfl, hok, hb⟩ := hrel
        have HOK2 := Lib.hid hok
        have hbs := hb.size
        clear hok
        by_cases hlt : t < nb
        · obtain ⟨b, off, k', wd', Aa', na', ca', ct', Ab', nb', cb', r, rfl, hbl, ⟨q0, q1, q2, q3, q4⟩, hr, hcall⟩ := HEL.out t hlt
          have hbw := (B0.out.trans (hb.mono s0))
          rw [← hbw.cell (p := ⟨b, _, none⟩) hbl] at q0 q1 q2 q3 q4
          have HC := Lib.hid (hcall _ ((hbw.alloc (by omega) (.cells #[.int .i64 k', .string wd', .slice Aa' na' ca', .int .i64 ct', .slice Ab' nb' cb'] 27))))
          have HR := Lib.hid hr
          clear hcall hr hbl hbw
          cases r
          · have HF := Lib.hid (pgR_b (c1 := false) (c2 := allW qs) (N := N) (T := T) (m := m) HR.out)
            go_wp2_with fail
            refine HC.out.mono ?_
            rintro e w2 ⟨rfl, hb2, hs2⟩
            go_wp2_with fail
            go_ret
            exact ⟨by rw [HF.out]; rfl, (B0.out.trans (hb.mono s0)).trans (((Below.refl _ _).alloc (Nat.le_refl _) _).trans (hb2.mono (by simp)) |>.mono (by omega)), by have := hs2; simp at this; omega⟩
          · have HN := Lib.hid (show (rs.take (t + 1)).all id = true by rw [all_take _ HR.out, HOK2.out]; rfl)
            go_wp2_with fail
            refine HC.out.mono ?_
            rintro e w2 ⟨rfl, hb2, hs2⟩
            go_wp2_with fail
            go_roundw
            case rel => exact ⟨t + 1, by omega, by go_num, HN.out, hb.trans (((Below.refl _ _).alloc (Nat.le_refl _) _).trans (hb2.mono (by simp)) |>.mono (by omega))⟩
            case measure => simp [intOf]; omega
        · have HRL : Hid (rs.all id = true) := by
            have h := HOK2.out
            rw [List.take_of_length_le (by have := HRS.out; omega)] at h
            exact h
          have HF := Lib.hid (show pgR false (allW qs) (rs.all id) N T m = false by rw [HAL.out, HRL.out]; simp [pgR])
          have HBB := Lib.hid (B0.out.trans (hb.mono s0))
          obtain ⟨p0, p1⟩ := boxcells2 (lay := hb) X0.out
          have HB := Lib.hid hb
          clear hb
          go_wp2_with fail
          go_quiet ((go_at_call 27; exact Calls.quiet_of_same ((H1.out _).mono fun _ _ h => ⟨h.1, h.2.symm⟩)))
          go_wp2_with fail
          go_ret
          exact ⟨by rw [HF.out]; rfl, below_drewN HBB.out _, (below_drewN HBB.out _).size⟩
set_option maxRecDepth 100000 in
set_option maxHeartbeats 8000000 in
theorem pgm_impl_2 (Aq : Option Addr) (m cq : Nat) (qs : List ByteArray) (Ab : Option Addr) (nb cb : Nat) (rs : List Bool) (w : World) (c1 : Bool) (N T : Nat) (hmq : qs.length = m) (hm : m ≤ 1048576) (hT0 : T ≤ 8388608) (hra : Rd w 1 Aq m (strs qs)) (hz : szS qs ≤ 1048576) (hn : nb ≤ 1048576) (hrs : rs.length = nb) (hel : Elts 10 w Ab nb rs) (hc1 : c1 = true) (hN : ¬ N ≤ 4)
    (h1 : ∀ w', Calls Tryd.prog 27 #[.int .i64 m, .int .i64 1, .int .i64 4] w' fun e w'' => e = .returned (.bool c1) ∧ w' = w'')
    (h4 : ∀ w', Below w.heap.size w w' → Calls Tryd.prog 54 #[.slice Ab nb cb] w' fun e w'' => e = .returned (.int .i64 N) ∧ Below w'.heap.size w' w'' ∧ w'.heap.size ≤ w''.heap.size)
    (h5 : ∀ w', Below w.heap.size w w' → Calls Tryd.prog 55 #[.slice Ab nb cb] w' fun e w'' => e = .returned (.int .i64 T) ∧ Below w'.heap.size w' w'' ∧ w'.heap.size ≤ w''.heap.size) :
    Calls Tryd.prog 37 #[.agg #[.slice Aq m cq, .slice Ab nb cb]] w fun e w' => e = .returned (.bool (pgR c1 (allW qs) (rs.all id) N T m)) ∧ Below w.heap.size w w' ∧ w.heap.size ≤ w'.heap.size := by
  subst hc1
  have hNi : decide ((N : Int) ≤ 4) = false := by simp; omega
  have hNn : decide (N ≤ 4) = false := by simp; omega
  have HM := Lib.hid hmq
  have HRA := Lib.hid hra
  have HEL := Lib.hid hel
  have HRS := Lib.hid hrs
  have H1 := Lib.hid h1
  have H4 := Lib.hid h4
  have H5 := Lib.hid h5
  clear hra hel hrs h1 h4 h5 hmq
  go_enter Tryd.func37, Tryd.ntmps37
  go_wp2_with fail
  go_loop [10] (fun i => ∃ t : Nat, t ≤ m ∧ i = .int .i64 t ∧ (qs.take t).all wordOk = true) (fun i => m - (intOf i).toNat)
  case atStart => exact ⟨0, Nat.zero_le _, rfl, rfl⟩
  case round =>
    obtain ⟨t, ht, rfl, hok⟩ := hrel
    have HOK := Lib.hid hok
    clear hok
    by_cases hlt : t < m
    · have htl : t < qs.length := by have := HM.out; omega
      obtain ⟨s, hs⟩ : ∃ s, qs[t]? = some s := ⟨_, List.getElem?_eq_getElem htl⟩
      obtain ⟨b, off, rfl, _, hc⟩ := HRA.out.2 (by omega)
      have q0 := hc t _ (strs_at hs)
      have hsz := szS_mem hs
      have HS := Lib.hid hs
      have hs63 : s.size ≤ 9223372036854775807 := by omega
      clear hc hs htl hsz
      cases hw : wordOk s
      · have HF := Lib.hid (pgR_w (c1 := true) (V := rs.all id) (N := N) (T := T) (m := m) HS.out hw)
        go_wp2_with (go_at_call 28; refine (IsValidWord_impl _ _ hs63).mono ?_; rintro e w' ⟨rfl, rfl⟩)
        go_ret
        exact ⟨by rw [HF.out]; rfl, (by repeat (first | exact Below.refl _ _ | assumption | (refine Below.trans ?_ (Below.mono (by assumption) (by first | omega | (simp; done) | (simp; omega)))) | (with_reducible refine Below.drew ?_) | (with_reducible refine Below.alloc ?_ (by first | omega | (simp; done) | (simp; omega)) _) | (with_reducible refine Below.setCell ?_ (by first | omega | (simp; done) | (simp; omega)) _))), (by first | omega | (simp; done) | (simp; omega))⟩
      · have HN := Lib.hid (show (qs.take (t + 1)).all wordOk = true by rw [all_take _ HS.out, HOK.out, hw]; rfl)
        go_wp2_with (go_at_call 28; refine (IsValidWord_impl _ _ hs63).mono ?_; rintro e w' ⟨rfl, rfl⟩)
        go_round
        case rel => exact ⟨t + 1, by omega, by go_num, HN.out⟩
        case measure => simp [intOf]; omega
    · have HAL : Hid (allW qs = true) := by
        have h := HOK.out
        rw [List.take_of_length_le (by have := HM.out; omega)] at h
        exact h
      obtain ⟨w0, hw0⟩ : ∃ w0, w0 = w.alloc (.cells #[.slice Aq m cq, .slice Ab nb cb] 35) := ⟨_, rfl⟩
      have X0 := Lib.hid (show w0.heap[w.heap.size]? = some (.cells #[.slice Aq m cq, .slice Ab nb cb] 35 (0, 0)) by rw [hw0]; exact boxed1_0 _ _)
      have b0 : Below w.heap.size w w0 := by rw [hw0]; exact (by repeat (first | exact Below.refl _ _ | assumption | (refine Below.trans ?_ (Below.mono (by assumption) (by first | omega | (simp; done) | (simp; omega)))) | (with_reducible refine Below.drew ?_) | (with_reducible refine Below.alloc ?_ (by first | omega | (simp; done) | (simp; omega)) _) | (with_reducible refine Below.setCell ?_ (by first | omega | (simp; done) | (simp; omega)) _)))
      have s0 : w.heap.size ≤ w0.heap.size := b0.size
      go_wp2_with fail
      rw [← hw0]
      have B0 := Lib.hid b0
      clear hw0 b0
      go_loopw [21] (fun i wr => ∃ t : Nat, t ≤ nb ∧ i = .int .i64 t ∧ (rs.take t).all id = true ∧ Below w0.heap.size w0 wr) (fun i _ => nb - (intOf i).toNat)
      case atStart => exact ⟨0, Nat.zero_le _, rfl, rfl, Below.refl _ _⟩
      case round =>
        obtain ⟨t, ht, rfl, hok, hb⟩ := hrel
        have HOK2 := Lib.hid hok
        have hbs := hb.size
        clear hok
        by_cases hlt : t < nb
        · obtain ⟨b, off, k', wd', Aa', na', ca', ct', Ab', nb', cb', r, rfl, hbl, ⟨q0, q1, q2, q3, q4⟩, hr, hcall⟩ := HEL.out t hlt
          have hbw := (B0.out.trans (hb.mono s0))
          rw [← hbw.cell (p := ⟨b, _, none⟩) hbl] at q0 q1 q2 q3 q4
          have HC := Lib.hid (hcall _ ((hbw.alloc (by omega) (.cells #[.int .i64 k', .string wd', .slice Aa' na' ca', .int .i64 ct', .slice Ab' nb' cb'] 27))))
          have HR := Lib.hid hr
          clear hcall hr hbl hbw
          cases r
          · have HF := Lib.hid (pgR_b (c1 := true) (c2 := allW qs) (N := N) (T := T) (m := m) HR.out)
            go_wp2_with fail
            refine HC.out.mono ?_
            rintro e w2 ⟨rfl, hb2, hs2⟩
            go_wp2_with fail
            go_ret
            exact ⟨by rw [HF.out]; rfl, (B0.out.trans (hb.mono s0)).trans (((Below.refl _ _).alloc (Nat.le_refl _) _).trans (hb2.mono (by simp)) |>.mono (by omega)), by have := hs2; simp at this; omega⟩
          · have HN := Lib.hid (show (rs.take (t + 1)).all id = true by rw [all_take _ HR.out, HOK2.out]; rfl)
            go_wp2_with fail
            refine HC.out.mono ?_
            rintro e w2 ⟨rfl, hb2, hs2⟩
            go_wp2_with fail
            go_roundw
            case rel => exact ⟨t + 1, by omega, by go_num, HN.out, hb.trans (((Below.refl _ _).alloc (Nat.le_refl _) _).trans (hb2.mono (by simp)) |>.mono (by omega))⟩
            case measure => simp [intOf]; omega
        · have HRL : Hid (rs.all id = true) := by
            have h := HOK2.out
            rw [List.take_of_length_le (by have := HRS.out; omega)] at h
            exact h
          have HF := Lib.hid (show pgR true (allW qs) (rs.all id) N T m = false by rw [HAL.out, HRL.out]; simp [pgR, hN])
          have HBB := Lib.hid (B0.out.trans (hb.mono s0))
          obtain ⟨p0, p1⟩ := boxcells2 (lay := hb) X0.out
          have HB := Lib.hid hb
          clear hb
          go_wp2_with fail
          first | (go_region_with (first | (go_at_call 27; (with_reducible refine (H1.out _).mono ?_); rintro e w' ⟨rfl, rfl⟩) | (go_at_call 54; (with_reducible refine (H4.out _ ?_).mono ?_); exact HBB.out.drew; rintro e y4 ⟨rfl, d4, _⟩; have u4 := HB.out.trans ((bdrew d4).mono hbs); obtain ⟨a2, a3⟩ := boxcells2 (lay := u4) X0.out))) | fail "no"
          all_goals (go_wp2_with fail; go_ret; exact ⟨by rw [HF.out]; first | rfl | exact congrArg (fun b => Ending.returned (Value.bool b)) HTw.out, B0.out.trans (u4.mono s0), (B0.out.trans (u4.mono s0)).size⟩)
set_option maxRecDepth 100000 in
set_option maxHeartbeats 8000000 in
theorem pgm_impl_3 (Aq : Option Addr) (m cq : Nat) (qs : List ByteArray) (Ab : Option Addr) (nb cb : Nat) (rs : List Bool) (w : World) (c1 : Bool) (N T : Nat) (hmq : qs.length = m) (hm : m ≤ 1048576) (hT0 : T ≤ 8388608) (hra : Rd w 1 Aq m (strs qs)) (hz : szS qs ≤ 1048576) (hn : nb ≤ 1048576) (hrs : rs.length = nb) (hel : Elts 10 w Ab nb rs) (hc1 : c1 = true) (hN : N ≤ 4) (hT : ¬ T + m + 2 ≤ 160)
    (h1 : ∀ w', Calls Tryd.prog 27 #[.int .i64 m, .int .i64 1, .int .i64 4] w' fun e w'' => e = .returned (.bool c1) ∧ w' = w'')
    (h4 : ∀ w', Below w.heap.size w w' → Calls Tryd.prog 54 #[.slice Ab nb cb] w' fun e w'' => e = .returned (.int .i64 N) ∧ Below w'.heap.size w' w'' ∧ w'.heap.size ≤ w''.heap.size)
    (h5 : ∀ w', Below w.heap.size w w' → Calls Tryd.prog 55 #[.slice Ab nb cb] w' fun e w'' => e = .returned (.int .i64 T) ∧ Below w'.heap.size w' w'' ∧ w'.heap.size ≤ w''.heap.size) :
    Calls Tryd.prog 37 #[.agg #[.slice Aq m cq, .slice Ab nb cb]] w fun e w' => e = .returned (.bool (pgR c1 (allW qs) (rs.all id) N T m)) ∧ Below w.heap.size w w' ∧ w.heap.size ≤ w'.heap.size := by
  subst hc1
  have hNi : decide ((N : Int) ≤ 4) = true := by simp; omega
  have hNn : decide (N ≤ 4) = true := by simp; omega
  have HTw := Lib.hid (show decide (IntKind.i64.wrap (IntKind.i64.wrap ((T : Int) + (m : Int)) + 2) ≤ 160) = false by rw [IntWalk.i64_in ((T : Int) + (m : Int)) (by omega), IntWalk.i64_in _ (by omega)]; simp; omega)
  have HM := Lib.hid hmq
  have HRA := Lib.hid hra
  have HEL := Lib.hid hel
  have HRS := Lib.hid hrs
  have H1 := Lib.hid h1
  have H4 := Lib.hid h4
  have H5 := Lib.hid h5
  clear hra hel hrs h1 h4 h5 hmq
  go_enter Tryd.func37, Tryd.ntmps37
  go_wp2_with fail
  go_loop [10] (fun i => ∃ t : Nat, t ≤ m ∧ i = .int .i64 t ∧ (qs.take t).all wordOk = true) (fun i => m - (intOf i).toNat)
  case atStart => exact ⟨0, Nat.zero_le _, rfl, rfl⟩
  case round =>
    obtain ⟨t, ht, rfl, hok⟩ := hrel
    have HOK := Lib.hid hok
    clear hok
    by_cases hlt : t < m
    · have htl : t < qs.length := by have := HM.out; omega
      obtain ⟨s, hs⟩ : ∃ s, qs[t]? = some s := ⟨_, List.getElem?_eq_getElem htl⟩
      obtain ⟨b, off, rfl, _, hc⟩ := HRA.out.2 (by omega)
      have q0 := hc t _ (strs_at hs)
      have hsz := szS_mem hs
      have HS := Lib.hid hs
      have hs63 : s.size ≤ 9223372036854775807 := by omega
      clear hc hs htl hsz
      cases hw : wordOk s
      · have HF := Lib.hid (pgR_w (c1 := true) (V := rs.all id) (N := N) (T := T) (m := m) HS.out hw)
        go_wp2_with (go_at_call 28; refine (IsValidWord_impl _ _ hs63).mono ?_; rintro e w' ⟨rfl, rfl⟩)
        go_ret
        exact ⟨by rw [HF.out]; rfl, (by repeat (first | exact Below.refl _ _ | assumption | (refine Below.trans ?_ (Below.mono (by assumption) (by first | omega | (simp; done) | (simp; omega)))) | (with_reducible refine Below.drew ?_) | (with_reducible refine Below.alloc ?_ (by first | omega | (simp; done) | (simp; omega)) _) | (with_reducible refine Below.setCell ?_ (by first | omega | (simp; done) | (simp; omega)) _))), (by first | omega | (simp; done) | (simp; omega))⟩
      · have HN := Lib.hid (show (qs.take (t + 1)).all wordOk = true by rw [all_take _ HS.out, HOK.out, hw]; rfl)
        go_wp2_with (go_at_call 28; refine (IsValidWord_impl _ _ hs63).mono ?_; rintro e w' ⟨rfl, rfl⟩)
        go_round
        case rel => exact ⟨t + 1, by omega, by go_num, HN.out⟩
        case measure => simp [intOf]; omega
    · have HAL : Hid (allW qs = true) := by
        have h := HOK.out
        rw [List.take_of_length_le (by have := HM.out; omega)] at h
        exact h
      obtain ⟨w0, hw0⟩ : ∃ w0, w0 = w.alloc (.cells #[.slice Aq m cq, .slice Ab nb cb] 35) := ⟨_, rfl⟩
      have X0 := Lib.hid (show w0.heap[w.heap.size]? = some (.cells #[.slice Aq m cq, .slice Ab nb cb] 35 (0, 0)) by rw [hw0]; exact boxed1_0 _ _)
      have b0 : Below w.heap.size w w0 := by rw [hw0]; exact (by repeat (first | exact Below.refl _ _ | assumption | (refine Below.trans ?_ (Below.mono (by assumption) (by first | omega | (simp; done) | (simp; omega)))) | (with_reducible refine Below.drew ?_) | (with_reducible refine Below.alloc ?_ (by first | omega | (simp; done) | (simp; omega)) _) | (with_reducible refine Below.setCell ?_ (by first | omega | (simp; done) | (simp; omega)) _)))
      have s0 : w.heap.size ≤ w0.heap.size := b0.size
      go_wp2_with fail
      rw [← hw0]
      have B0 := Lib.hid b0
      clear hw0 b0
      go_loopw [21] (fun i wr => ∃ t : Nat, t ≤ nb ∧ i = .int .i64 t ∧ (rs.take t).all id = true ∧ Below w0.heap.size w0 wr) (fun i _ => nb - (intOf i).toNat)
      case atStart => exact ⟨0, Nat.zero_le _, rfl, rfl, Below.refl _ _⟩
      case round =>
        obtain ⟨t, ht, rfl, hok, hb⟩ := hrel
        have HOK2 := Lib.hid hok
        have hbs := hb.size
        clear hok
        by_cases hlt : t < nb
        · obtain ⟨b, off, k', wd', Aa', na', ca', ct', Ab', nb', cb', r, rfl, hbl, ⟨q0, q1, q2, q3, q4⟩, hr, hcall⟩ := HEL.out t hlt
          have hbw := (B0.out.trans (hb.mono s0))
          rw [← hbw.cell (p := ⟨b, _, none⟩) hbl] at q0 q1 q2 q3 q4
          have HC := Lib.hid (hcall _ ((hbw.alloc (by omega) (.cells #[.int .i64 k', .string wd', .slice Aa' na' ca', .int .i64 ct', .slice Ab' nb' cb'] 27))))
          have HR := Lib.hid hr
          clear hcall hr hbl hbw
          cases r
          · have HF := Lib.hid (pgR_b (c1 := true) (c2 := allW qs) (N := N) (T := T) (m := m) HR.out)
            go_wp2_with fail
            refine HC.out.mono ?_
            rintro e w2 ⟨rfl, hb2, hs2⟩
            go_wp2_with fail
            go_ret
            exact ⟨by rw [HF.out]; rfl, (B0.out.trans (hb.mono s0)).trans (((Below.refl _ _).alloc (Nat.le_refl _) _).trans (hb2.mono (by simp)) |>.mono (by omega)), by have := hs2; simp at this; omega⟩
          · have HN := Lib.hid (show (rs.take (t + 1)).all id = true by rw [all_take _ HR.out, HOK2.out]; rfl)
            go_wp2_with fail
            refine HC.out.mono ?_
            rintro e w2 ⟨rfl, hb2, hs2⟩
            go_wp2_with fail
            go_roundw
            case rel => exact ⟨t + 1, by omega, by go_num, HN.out, hb.trans (((Below.refl _ _).alloc (Nat.le_refl _) _).trans (hb2.mono (by simp)) |>.mono (by omega))⟩
            case measure => simp [intOf]; omega
        · have HRL : Hid (rs.all id = true) := by
            have h := HOK2.out
            rw [List.take_of_length_le (by have := HRS.out; omega)] at h
            exact h
          have HF := Lib.hid (show pgR true (allW qs) (rs.all id) N T m = false by rw [HAL.out, HRL.out]; simp [pgR, hN, hT])
          have HBB := Lib.hid (B0.out.trans (hb.mono s0))
          obtain ⟨p0, p1⟩ := boxcells2 (lay := hb) X0.out
          have HB := Lib.hid hb
          clear hb
          go_wp2_with fail
          first | (go_region_held3 (fun W => W.cell? ⟨w.heap.size, 0, none⟩ = some (.slice Aq m cq) ∧ W.cell? ⟨w.heap.size, 1, none⟩ = some (.slice Ab nb cb)) (first | exact ⟨p0, p1⟩ | exact ⟨a2, a3⟩ | exact ⟨a4, a5⟩) (first | (go_at_call 27; (with_reducible refine (H1.out _).mono ?_); rintro e w' ⟨rfl, rfl⟩) | (go_at_call 54; (with_reducible refine (H4.out _ ?_).mono ?_); exact HBB.out.drew; rintro e y4 ⟨rfl, d4, _⟩; have u4 := HB.out.trans ((bdrew d4).mono hbs); obtain ⟨a2, a3⟩ := boxcells2 (lay := u4) X0.out) | (go_at_call 55; (with_reducible refine (H5.out _ ?_).mono ?_); exact B0.out.trans (u4.mono s0); rintro e y5 ⟨rfl, d5, _⟩; have u5 := u4.trans (d5.mono u4.size); obtain ⟨a4, a5⟩ := boxcells2 (lay := u5) X0.out))) | fail "no"
          all_goals (go_wp2_with fail; go_ret; exact ⟨by rw [HF.out]; first | rfl | exact congrArg (fun b => Ending.returned (Value.bool b)) HTw.out, B0.out.trans (u5.mono s0), (B0.out.trans (u5.mono s0)).size⟩)
set_option maxRecDepth 100000 in
set_option maxHeartbeats 8000000 in
theorem pgm_impl_4 (Aq : Option Addr) (m cq : Nat) (qs : List ByteArray) (Ab : Option Addr) (nb cb : Nat) (rs : List Bool) (w : World) (c1 : Bool) (N T : Nat) (hmq : qs.length = m) (hm : m ≤ 1048576) (hT0 : T ≤ 8388608) (hra : Rd w 1 Aq m (strs qs)) (hz : szS qs ≤ 1048576) (hn : nb ≤ 1048576) (hrs : rs.length = nb) (hel : Elts 10 w Ab nb rs) (hc1 : c1 = true) (hN : N ≤ 4) (hT : T + m + 2 ≤ 160)
    (h1 : ∀ w', Calls Tryd.prog 27 #[.int .i64 m, .int .i64 1, .int .i64 4] w' fun e w'' => e = .returned (.bool c1) ∧ w' = w'')
    (h4 : ∀ w', Below w.heap.size w w' → Calls Tryd.prog 54 #[.slice Ab nb cb] w' fun e w'' => e = .returned (.int .i64 N) ∧ Below w'.heap.size w' w'' ∧ w'.heap.size ≤ w''.heap.size)
    (h5 : ∀ w', Below w.heap.size w w' → Calls Tryd.prog 55 #[.slice Ab nb cb] w' fun e w'' => e = .returned (.int .i64 T) ∧ Below w'.heap.size w' w'' ∧ w'.heap.size ≤ w''.heap.size) :
    Calls Tryd.prog 37 #[.agg #[.slice Aq m cq, .slice Ab nb cb]] w fun e w' => e = .returned (.bool (pgR c1 (allW qs) (rs.all id) N T m)) ∧ Below w.heap.size w w' ∧ w.heap.size ≤ w'.heap.size := by
  subst hc1
  have hNi : decide ((N : Int) ≤ 4) = true := by simp; omega
  have hNn : decide (N ≤ 4) = true := by simp; omega
  have HTw := Lib.hid (show decide (IntKind.i64.wrap (IntKind.i64.wrap ((T : Int) + (m : Int)) + 2) ≤ 160) = true by rw [IntWalk.i64_in ((T : Int) + (m : Int)) (by omega), IntWalk.i64_in _ (by omega)]; simp; omega)
  have HM := Lib.hid hmq
  have HRA := Lib.hid hra
  have HEL := Lib.hid hel
  have HRS := Lib.hid hrs
  have H1 := Lib.hid h1
  have H4 := Lib.hid h4
  have H5 := Lib.hid h5
  clear hra hel hrs h1 h4 h5 hmq
  go_enter Tryd.func37, Tryd.ntmps37
  go_wp2_with fail
  go_loop [10] (fun i => ∃ t : Nat, t ≤ m ∧ i = .int .i64 t ∧ (qs.take t).all wordOk = true) (fun i => m - (intOf i).toNat)
  case atStart => exact ⟨0, Nat.zero_le _, rfl, rfl⟩
  case round =>
    obtain ⟨t, ht, rfl, hok⟩ := hrel
    have HOK := Lib.hid hok
    clear hok
    by_cases hlt : t < m
    · have htl : t < qs.length := by have := HM.out; omega
      obtain ⟨s, hs⟩ : ∃ s, qs[t]? = some s := ⟨_, List.getElem?_eq_getElem htl⟩
      obtain ⟨b, off, rfl, _, hc⟩ := HRA.out.2 (by omega)
      have q0 := hc t _ (strs_at hs)
      have hsz := szS_mem hs
      have HS := Lib.hid hs
      have hs63 : s.size ≤ 9223372036854775807 := by omega
      clear hc hs htl hsz
      cases hw : wordOk s
      · have HF := Lib.hid (pgR_w (c1 := true) (V := rs.all id) (N := N) (T := T) (m := m) HS.out hw)
        go_wp2_with (go_at_call 28; refine (IsValidWord_impl _ _ hs63).mono ?_; rintro e w' ⟨rfl, rfl⟩)
        go_ret
        exact ⟨by rw [HF.out]; rfl, (by repeat (first | exact Below.refl _ _ | assumption | (refine Below.trans ?_ (Below.mono (by assumption) (by first | omega | (simp; done) | (simp; omega)))) | (with_reducible refine Below.drew ?_) | (with_reducible refine Below.alloc ?_ (by first | omega | (simp; done) | (simp; omega)) _) | (with_reducible refine Below.setCell ?_ (by first | omega | (simp; done) | (simp; omega)) _))), (by first | omega | (simp; done) | (simp; omega))⟩
      · have HN := Lib.hid (show (qs.take (t + 1)).all wordOk = true by rw [all_take _ HS.out, HOK.out, hw]; rfl)
        go_wp2_with (go_at_call 28; refine (IsValidWord_impl _ _ hs63).mono ?_; rintro e w' ⟨rfl, rfl⟩)
        go_round
        case rel => exact ⟨t + 1, by omega, by go_num, HN.out⟩
        case measure => simp [intOf]; omega
    · have HAL : Hid (allW qs = true) := by
        have h := HOK.out
        rw [List.take_of_length_le (by have := HM.out; omega)] at h
        exact h
      obtain ⟨w0, hw0⟩ : ∃ w0, w0 = w.alloc (.cells #[.slice Aq m cq, .slice Ab nb cb] 35) := ⟨_, rfl⟩
      have X0 := Lib.hid (show w0.heap[w.heap.size]? = some (.cells #[.slice Aq m cq, .slice Ab nb cb] 35 (0, 0)) by rw [hw0]; exact boxed1_0 _ _)
      have b0 : Below w.heap.size w w0 := by rw [hw0]; exact (by repeat (first | exact Below.refl _ _ | assumption | (refine Below.trans ?_ (Below.mono (by assumption) (by first | omega | (simp; done) | (simp; omega)))) | (with_reducible refine Below.drew ?_) | (with_reducible refine Below.alloc ?_ (by first | omega | (simp; done) | (simp; omega)) _) | (with_reducible refine Below.setCell ?_ (by first | omega | (simp; done) | (simp; omega)) _)))
      have s0 : w.heap.size ≤ w0.heap.size := b0.size
      go_wp2_with fail
      rw [← hw0]
      have B0 := Lib.hid b0
      clear hw0 b0
      go_loopw [21] (fun i wr => ∃ t : Nat, t ≤ nb ∧ i = .int .i64 t ∧ (rs.take t).all id = true ∧ Below w0.heap.size w0 wr) (fun i _ => nb - (intOf i).toNat)
      case atStart => exact ⟨0, Nat.zero_le _, rfl, rfl, Below.refl _ _⟩
      case round =>
        obtain ⟨t, ht, rfl, hok, hb⟩ := hrel
        have HOK2 := Lib.hid hok
        have hbs := hb.size
        clear hok
        by_cases hlt : t < nb
        · obtain ⟨b, off, k', wd', Aa', na', ca', ct', Ab', nb', cb', r, rfl, hbl, ⟨q0, q1, q2, q3, q4⟩, hr, hcall⟩ := HEL.out t hlt
          have hbw := (B0.out.trans (hb.mono s0))
          rw [← hbw.cell (p := ⟨b, _, none⟩) hbl] at q0 q1 q2 q3 q4
          have HC := Lib.hid (hcall _ ((hbw.alloc (by omega) (.cells #[.int .i64 k', .string wd', .slice Aa' na' ca', .int .i64 ct', .slice Ab' nb' cb'] 27))))
          have HR := Lib.hid hr
          clear hcall hr hbl hbw
          cases r
          · have HF := Lib.hid (pgR_b (c1 := true) (c2 := allW qs) (N := N) (T := T) (m := m) HR.out)
            go_wp2_with fail
            refine HC.out.mono ?_
            rintro e w2 ⟨rfl, hb2, hs2⟩
            go_wp2_with fail
            go_ret
            exact ⟨by rw [HF.out]; rfl, (B0.out.trans (hb.mono s0)).trans (((Below.refl _ _).alloc (Nat.le_refl _) _).trans (hb2.mono (by simp)) |>.mono (by omega)), by have := hs2; simp at this; omega⟩
          · have HN := Lib.hid (show (rs.take (t + 1)).all id = true by rw [all_take _ HR.out, HOK2.out]; rfl)
            go_wp2_with fail
            refine HC.out.mono ?_
            rintro e w2 ⟨rfl, hb2, hs2⟩
            go_wp2_with fail
            go_roundw
            case rel => exact ⟨t + 1, by omega, by go_num, HN.out, hb.trans (((Below.refl _ _).alloc (Nat.le_refl _) _).trans (hb2.mono (by simp)) |>.mono (by omega))⟩
            case measure => simp [intOf]; omega
        · have HRL : Hid (rs.all id = true) := by
            have h := HOK2.out
            rw [List.take_of_length_le (by have := HRS.out; omega)] at h
            exact h
          have HF := Lib.hid (show pgR true (allW qs) (rs.all id) N T m = true by rw [HAL.out, HRL.out]; simp [pgR, hN, hT])
          have HBB := Lib.hid (B0.out.trans (hb.mono s0))
          obtain ⟨p0, p1⟩ := boxcells2 (lay := hb) X0.out
          have HB := Lib.hid hb
          clear hb
          go_wp2_with fail
          first | (go_region_held3 (fun W => W.cell? ⟨w.heap.size, 0, none⟩ = some (.slice Aq m cq) ∧ W.cell? ⟨w.heap.size, 1, none⟩ = some (.slice Ab nb cb)) (first | exact ⟨p0, p1⟩ | exact ⟨a2, a3⟩ | exact ⟨a4, a5⟩) (first | (go_at_call 27; (with_reducible refine (H1.out _).mono ?_); rintro e w' ⟨rfl, rfl⟩) | (go_at_call 54; (with_reducible refine (H4.out _ ?_).mono ?_); exact HBB.out.drew; rintro e y4 ⟨rfl, d4, _⟩; have u4 := HB.out.trans ((bdrew d4).mono hbs); obtain ⟨a2, a3⟩ := boxcells2 (lay := u4) X0.out) | (go_at_call 55; (with_reducible refine (H5.out _ ?_).mono ?_); exact B0.out.trans (u4.mono s0); rintro e y5 ⟨rfl, d5, _⟩; have u5 := u4.trans (d5.mono u4.size); obtain ⟨a4, a5⟩ := boxcells2 (lay := u5) X0.out))) | fail "no"
          all_goals (go_wp2_with fail; go_ret; exact ⟨by rw [HF.out]; first | rfl | exact congrArg (fun b => Ending.returned (Value.bool b)) HTw.out, B0.out.trans (u5.mono s0), (B0.out.trans (u5.mono s0)).size⟩)
theorem elts_of : ∀ (d lo : Nat) (bd : List (Tr d)) (Ab : Option Addr) (nb : Nat) (w : World), RdT w lo d Ab nb bd → GN w → szT d bd ≤ 1048576 → nb ≤ 1048576 ∧ ∃ rs : List Bool, rs.length = nb ∧ rs.all id = validT d bd ∧ Elts 10 w Ab nb rs := by
  intro d
  cases d with
  | zero =>
    intro lo bd Ab nb w hrb hG hsz
    obtain rfl := szT_zero_len hrb
    exact ⟨by omega, [], rfl, rfl, fun t ht => absurd ht (by omega)⟩
  | succ d =>
    intro lo bd Ab nb w hrb hG hsz
    have hlen := hrb.len
    subst hlen
    have hn : bd.length ≤ 1048576 := by rw [szT_succ] at hsz; omega
    refine ⟨hn, bd.map fun s => vOne d (validT d) (hdT s) (bdT s), by simp, rs_valid bd, fun t ht => ?_⟩
    obtain ⟨b, off, s, Aa', ca', Ab', nb', cb', rfl, hbl, hs, ⟨c0, c1, c2, c3, c4⟩, h2, h3⟩ := hrb.at_ ht
    refine ⟨b, off, (hdT s).k, (hdT s).word, Aa', (hdT s).args.length, ca', (hdT s).count, Ab', nb', cb', _, rfl, hbl, ⟨c0, c1, c2, c3, c4⟩, by rw [List.getElem?_map, hs]; rfl, fun w' hw' => ?_⟩
    have hme := szT_mem hs
    have hq := hsz
    rw [szT_succ] at hq
    unfold szE at hme
    exact IsValidStmt_impl d lo _ _ _ _ (bdT s) _ _ _ _ _ _ (h2.below hw') (h3.below hw') (hG.below hw') (by omega) (by omega) (by omega)
theorem IsValidProgram_impl (d lo lo' : Nat) (Aq : Option Addr) (cq : Nat) (qs : List ByteArray) (bd : List (Tr d)) (Ab : Option Addr) (nb cb : Nat) (w : World) (hra : RdL w lo 1 Aq qs.length (strs qs)) (hrb : RdT w lo' d Ab nb bd) (hG : GN w) (hm : qs.length ≤ 1048576) (hz : szS qs ≤ 1048576) (hsz : szT d bd ≤ 1048576) :
    Calls Tryd.prog 37 #[.agg #[.slice Aq qs.length cq, .slice Ab nb cb]] w fun e w' => e = .returned (.bool (progV d qs bd)) ∧ Below w.heap.size w w' ∧ w.heap.size ≤ w'.heap.size := by
  have h1 : ∀ w', Calls Tryd.prog 27 #[.int .i64 qs.length, .int .i64 1, .int .i64 4] w' fun e w'' => e = .returned (.bool (inB qs.length 1 4)) ∧ w' = w'' := fun w' => in_any _ _ _ _
  have h4 : ∀ w', Below w.heap.size w w' → Calls Tryd.prog 54 #[.slice Ab nb cb] w' fun e w'' => e = .returned (.int .i64 (nestT d bd)) ∧ Below w'.heap.size w' w'' ∧ w'.heap.size ≤ w''.heap.size := fun w' hb => NestingDepth_impl d _ _ _ _ _ _ (hrb.below hb) hsz
  have h5 : ∀ w', Below w.heap.size w w' → Calls Tryd.prog 55 #[.slice Ab nb cb] w' fun e w'' => e = .returned (.int .i64 (tokT d bd)) ∧ Below w'.heap.size w' w'' ∧ w'.heap.size ≤ w''.heap.size := fun w' hb => StmtTokenCount_impl d _ _ _ _ _ _ (hrb.below hb) hsz
  have hT := tokT_le d bd
  obtain ⟨hn, rs, hrs, hall, hel⟩ := elts_of d lo' bd Ab nb w hrb hG hsz
  unfold progV
  rw [← hall]
  cases hc1 : inB qs.length 1 4
  · exact pgm_impl_1 _ _ _ qs _ _ _ rs w _ _ _ rfl hm (by omega) hra.rd hz hn hrs hel rfl (hc1 ▸ h1) h4 h5
  by_cases hN : nestT d bd ≤ 4
  · by_cases hT' : tokT d bd + qs.length + 2 ≤ 160
    · exact pgm_impl_4 _ _ _ qs _ _ _ rs w _ _ _ rfl hm (by omega) hra.rd hz hn hrs hel rfl hN hT' (hc1 ▸ h1) h4 h5
    · exact pgm_impl_3 _ _ _ qs _ _ _ rs w _ _ _ rfl hm (by omega) hra.rd hz hn hrs hel rfl hN hT' (hc1 ▸ h1) h4 h5
  · exact pgm_impl_2 _ _ _ qs _ _ _ rs w _ _ _ rfl hm (by omega) hra.rd hz hn hrs hel rfl hN (hc1 ▸ h1) h4 h5
end Go.Proofs.YtbamjfbfipkioaaDoor
