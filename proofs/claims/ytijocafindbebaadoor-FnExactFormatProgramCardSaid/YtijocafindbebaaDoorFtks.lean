/- Lists of tokens as text: FormatTokens on both sides. -/
import Derived.Test.YtijocafindbebaaDoorFtk
namespace Go.Proofs.YtijocafindbebaaDoor
open Go.RowKit
set_option linter.unusedVariables false
theorem take_snoc' {α : Type} {l : List α} {t : Nat} {x : α} (h : l[t]? = some x) : l.take (t + 1) = l.take t ++ [x] := by rw [List.take_add_one, h]; rfl
set_option maxRecDepth 100000 in
set_option maxHeartbeats 2000000 in
theorem FormatTokens_impl (A : Option Addr) (n c : Nat) (l : List Tk) (w : World) (h : Rd w 2 A n (tkcs l)) (hl : l.length = n) (hn : n ≤ 1099511627776) (hz : ∀ t ∈ l, t.s.size ≤ 1099511627776) :
    Calls Tryd.prog 73 #[.slice A n c] w fun e w' => e = .returned (.string (ftx l)) ∧ Below w.heap.size w w' ∧ w.heap.size ≤ w'.heap.size := by
  have H := Lib.hid h
  have HL := Lib.hid hl
  have HZ := Lib.hid hz
  clear h hl hz
  go_enter Tryd.func73, Tryd.ntmps73
  go_wp2
  go_loopw [3, 8] (fun v i wr => ∃ t : Nat, t ≤ n ∧ i = .int .i64 t ∧ v = .string (ftx (l.take t)) ∧ Below w.heap.size w wr) (fun _ i _ => n - (intOf i).toNat)
  case atStart => exact ⟨0, Nat.zero_le _, rfl, rfl, Below.refl _ _⟩
  case round =>
    obtain ⟨t, ht, rfl, rfl, hb⟩ := hrel
    have hbs := hb.size
    by_cases hlt : t < n
    · obtain ⟨x, hx⟩ : ∃ x, l[t]? = some x := ⟨_, List.getElem?_eq_getElem (by rw [HL.out]; exact hlt)⟩
      obtain ⟨b, off, rfl, hbl, q0, q1⟩ := rd_tk (H.out.below hb) HL.out hx
      have hxz : x.s.size ≤ 9223372036854775807 := by have := HZ.out x (List.mem_of_getElem? hx); omega
      have hfz := fmtT_size x.k x.s
      have htk := take_snoc' hx
      have hal : (l.take t).length = t := by rw [List.length_take, HL.out]; omega
      have haz := ftx_size (l.take t)
      rw [hal] at haz
      have HTK := Lib.hid htk
      have HAL := Lib.hid hal
      obtain ⟨lt, hlt'⟩ : ∃ lt, lt = l.take t := ⟨_, rfl⟩
      rw [← hlt'] at HTK HAL haz ⊢
      obtain ⟨acc, hacc⟩ : ∃ acc, acc = ftx lt := ⟨_, rfl⟩
      have HACC := Lib.hid hacc
      rw [← hacc] at haz ⊢
      obtain ⟨f, hf⟩ : ∃ f, f = fmtT x.k x.s := ⟨_, rfl⟩
      have HF := Lib.hid hf
      rw [← hf] at hfz
      clear hx htk hal hlt' hacc hf
      by_cases h0 : t = 0
      · have hlt0 : lt = [] := List.eq_nil_of_length_eq_zero (by rw [HAL.out]; exact h0)
        have HL0 := Lib.hid hlt0
        have d0 : decide (0 < (t : Int)) = false := by simp; omega
        have d1 : decide (0 < t) = false := by simp; omega
        have e2 : ∀ w : World, (Op.stringOp .add acc f).run Tryd.prog w = .ok (.string (acc ++ f)) w := fun w => run_string_add_sum w _ _ (by omega)
        clear hlt0 h0
        go_wp2_with fail
        refine (FormatToken_impl _ _ _ hxz).mono ?_
        rintro e w1 ⟨rfl, b1, s1⟩
        rw [← HF.out]
        have hbN : Below w.heap.size w w1 := (hb.alloc hbs _).trans (b1.mono (by simp; omega))
        go_wp2_with fail
        go_roundw
        case rel => exact ⟨t + 1, by omega, by go_num, by rw [HTK.out, HL0.out, ftx_snoc0, ← HL0.out, ← HACC.out, ← HF.out], hbN⟩
        case measure => simp [intOf]; omega
      · have d0 : decide (0 < (t : Int)) = true := by simp; omega
        have d1 : decide (0 < t) = true := by simp; omega
        by_cases hk : x.k = 2
        · have ek : (x.k != 2) = false := by simp [hk]
          have e2 : ∀ w : World, (Op.stringOp .add acc f).run Tryd.prog w = .ok (.string (acc ++ f)) w := fun w => run_string_add_sum w _ _ (by omega)
          have HK := Lib.hid hk
          clear hk
          go_wp2_with fail
          refine (FormatToken_impl _ _ _ hxz).mono ?_
          rintro e w1 ⟨rfl, b1, s1⟩
          rw [← HF.out]
          have hbN : Below w.heap.size w w1 := (hb.alloc hbs _).trans (b1.mono (by simp; omega))
          go_wp2_with fail
          go_roundw
          case rel => exact ⟨t + 1, by omega, by go_num, by rw [HTK.out, ftx_snoc1 HK.out, ← HACC.out, ← HF.out], hbN⟩
          case measure => simp [intOf]; omega
        · have ek : (x.k != 2) = true := by simp [hk]
          have e1 : ∀ w : World, (Op.stringOp .add acc ⟨#[32]⟩).run Tryd.prog w = .ok (.string (acc ++ ⟨#[32]⟩)) w := fun w => run_string_add_sum w _ _ (by show acc.size + 1 ≤ _; omega)
          have e2 : ∀ w : World, (Op.stringOp .add (acc ++ ⟨#[32]⟩) f).run Tryd.prog w = .ok (.string (acc ++ ⟨#[32]⟩ ++ f)) w := fun w => run_string_add_sum w _ _ (by rw [ByteArray.size_append]; show acc.size + 1 + f.size ≤ _; omega)
          have HK := Lib.hid hk
          clear hk
          go_wp2_with fail
          refine (FormatToken_impl _ _ _ hxz).mono ?_
          rintro e w1 ⟨rfl, b1, s1⟩
          rw [← HF.out]
          have hbN : Below w.heap.size w w1 := (hb.alloc hbs _).trans (b1.mono (by simp; omega))
          go_wp2_with fail
          go_roundw
          case rel => exact ⟨t + 1, by omega, by go_num, by rw [HTK.out, ftx_snoc2 (by rw [HAL.out]; omega) HK.out, ← HACC.out, ← HF.out], hbN⟩
          case measure => simp [intOf]; omega
    · obtain rfl : t = n := by omega
      have HF : Hid (ftx (l.take t) = ftx l) := by rw [List.take_of_length_le (by rw [HL.out]; exact Nat.le_refl _)]; exact rfl
      go_wp2_with fail
      go_ret
      exact ⟨by rw [← HF.out]; rfl, hb, hb.size⟩
set_option maxRecDepth 100000 in
set_option maxHeartbeats 2000000 in
theorem FormatTokens_spec (A : Option Addr) (n c : Nat) (l : List Tk) (w : World) (h : Rd w 2 A n (tkcs l)) (hl : l.length = n) (hn : n ≤ 1099511627776) (hz : ∀ t ∈ l, t.s.size ≤ 1099511627776) :
    Calls Tryd.prog 72 #[.slice A n c] w fun e w' => e = .returned (.string (ftx l)) ∧ Below w.heap.size w w' ∧ w.heap.size ≤ w'.heap.size := by
  have H := Lib.hid h
  have HL := Lib.hid hl
  have HZ := Lib.hid hz
  clear h hl hz
  go_enter Tryd.func72, Tryd.ntmps72
  go_wp2
  go_loopw [3, 4] (fun v i wr => ∃ t : Nat, t ≤ n ∧ i = .int .i64 t ∧ v = .string (ftx (l.take t)) ∧ Below w.heap.size w wr) (fun _ i _ => n - (intOf i).toNat)
  case atStart => exact ⟨0, Nat.zero_le _, rfl, rfl, Below.refl _ _⟩
  case round =>
    obtain ⟨t, ht, rfl, rfl, hb⟩ := hrel
    have hbs := hb.size
    by_cases hlt : t < n
    · obtain ⟨x, hx⟩ : ∃ x, l[t]? = some x := ⟨_, List.getElem?_eq_getElem (by rw [HL.out]; exact hlt)⟩
      obtain ⟨b, off, rfl, hbl, q0, q1⟩ := rd_tk (H.out.below hb) HL.out hx
      have hxz : x.s.size ≤ 9223372036854775807 := by have := HZ.out x (List.mem_of_getElem? hx); omega
      have hfz := fmtT_size x.k x.s
      have htk := take_snoc' hx
      have hal : (l.take t).length = t := by rw [List.length_take, HL.out]; omega
      have haz := ftx_size (l.take t)
      rw [hal] at haz
      have HTK := Lib.hid htk
      have HAL := Lib.hid hal
      obtain ⟨lt, hlt'⟩ : ∃ lt, lt = l.take t := ⟨_, rfl⟩
      rw [← hlt'] at HTK HAL haz ⊢
      obtain ⟨acc, hacc⟩ : ∃ acc, acc = ftx lt := ⟨_, rfl⟩
      have HACC := Lib.hid hacc
      rw [← hacc] at haz ⊢
      obtain ⟨f, hf⟩ : ∃ f, f = fmtT x.k x.s := ⟨_, rfl⟩
      have HF := Lib.hid hf
      rw [← hf] at hfz
      clear hx htk hal hlt' hacc hf
      by_cases h0 : t = 0
      · have hlt0 : lt = [] := List.eq_nil_of_length_eq_zero (by rw [HAL.out]; exact h0)
        have HL0 := Lib.hid hlt0
        have d0 : decide (0 < (t : Int)) = false := by simp; omega
        have d1 : decide (0 < t) = false := by simp; omega
        have e2 : ∀ w : World, (Op.stringOp .add acc f).run Tryd.prog w = .ok (.string (acc ++ f)) w := fun w => run_string_add_sum w _ _ (by omega)
        clear hlt0 h0
        go_wp2_with fail
        refine (FormatToken_spec _ _ _ hxz).mono ?_
        rintro e w1 ⟨rfl, b1, s1⟩
        rw [← HF.out]
        have hbN : Below w.heap.size w w1 := hb.trans (b1.mono hbs)
        go_wp2_with fail
        go_roundw
        case rel => exact ⟨t + 1, by omega, by go_num, by rw [HTK.out, HL0.out, ftx_snoc0, ← HL0.out, ← HACC.out, ← HF.out], hbN⟩
        case measure => simp [intOf]; omega
      · have d0 : decide (0 < (t : Int)) = true := by simp; omega
        have d1 : decide (0 < t) = true := by simp; omega
        by_cases hk : x.k = 2
        · have ek : (x.k != 2) = false := by simp [hk]
          have e2 : ∀ w : World, (Op.stringOp .add acc f).run Tryd.prog w = .ok (.string (acc ++ f)) w := fun w => run_string_add_sum w _ _ (by omega)
          have HK := Lib.hid hk
          clear hk
          go_wp2_with fail
          refine (FormatToken_spec _ _ _ hxz).mono ?_
          rintro e w1 ⟨rfl, b1, s1⟩
          rw [← HF.out]
          have hbN : Below w.heap.size w w1 := hb.trans (b1.mono hbs)
          go_wp2_with fail
          go_roundw
          case rel => exact ⟨t + 1, by omega, by go_num, by rw [HTK.out, ftx_snoc1 HK.out, ← HACC.out, ← HF.out], hbN⟩
          case measure => simp [intOf]; omega
        · have ek : (x.k != 2) = true := by simp [hk]
          have e1 : ∀ w : World, (Op.stringOp .add acc ⟨#[32]⟩).run Tryd.prog w = .ok (.string (acc ++ ⟨#[32]⟩)) w := fun w => run_string_add_sum w _ _ (by show acc.size + 1 ≤ _; omega)
          have e2 : ∀ w : World, (Op.stringOp .add (acc ++ ⟨#[32]⟩) f).run Tryd.prog w = .ok (.string (acc ++ ⟨#[32]⟩ ++ f)) w := fun w => run_string_add_sum w _ _ (by rw [ByteArray.size_append]; show acc.size + 1 + f.size ≤ _; omega)
          have HK := Lib.hid hk
          clear hk
          go_wp2_with fail
          refine (FormatToken_spec _ _ _ hxz).mono ?_
          rintro e w1 ⟨rfl, b1, s1⟩
          rw [← HF.out]
          have hbN : Below w.heap.size w w1 := hb.trans (b1.mono hbs)
          go_wp2_with fail
          go_roundw
          case rel => exact ⟨t + 1, by omega, by go_num, by rw [HTK.out, ftx_snoc2 (by rw [HAL.out]; omega) HK.out, ← HACC.out, ← HF.out], hbN⟩
          case measure => simp [intOf]; omega
    · obtain rfl : t = n := by omega
      have HF : Hid (ftx (l.take t) = ftx l) := by rw [List.take_of_length_le (by rw [HL.out]; exact Nat.le_refl _)]; exact rfl
      go_wp2_with fail
      go_ret
      exact ⟨by rw [← HF.out]; rfl, hb, hb.size⟩
end Go.Proofs.YtijocafindbebaaDoor
