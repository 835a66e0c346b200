/- The size of a list of statements, as the laws count it. -/
import Derived.Test.YtijocafindbebaaDoorStrS
namespace Go.Proofs.YtijocafindbebaaDoor
open Go.RowKit
set_option linter.unusedVariables false
/-- What a list of statements counts in a law's size. -/
def szT : (d : Nat) → List (Tr d) → Nat
  | 0, _ => 0
  | d + 1, l => l.length + (l.map fun (s : Tr (d + 1)) => (hdT s).word.size + ((hdT s).args.length + szS (hdT s).args + szT d (bdT s))).sum
/-- All strings and lists are of a size that a machine can count. -/
def OkT : (d : Nat) → List (Tr d) → Prop
  | 0, _ => True
  | d + 1, l => l.length ≤ 9223372036854775807 ∧ ∀ s ∈ l, (hdT s).word.size ≤ 9223372036854775807 ∧ (hdT s).args.length ≤ 9223372036854775807 ∧ (∀ a ∈ (hdT s).args, a.size ≤ 9223372036854775807) ∧ OkT d (bdT s)
def szE {d : Nat} (s : Tr (d + 1)) : Nat := (hdT s).word.size + ((hdT s).args.length + szS (hdT s).args + szT d (bdT s))
def sumE {d : Nat} (l : List (Tr (d + 1))) : Nat := (l.map szE).sum
theorem szT_succ {d : Nat} (l : List (Tr (d + 1))) : szT (d + 1) l = l.length + sumE l := rfl
theorem sumE_nil {d : Nat} : sumE ([] : List (Tr (d + 1))) = 0 := rfl
theorem sumE_take {d : Nat} (l : List (Tr (d + 1))) (t : Nat) (s : Tr (d + 1)) (h : l[t]? = some s) : sumE (l.take (t + 1)) = sumE (l.take t) + szE s := by
  rw [List.take_add_one, h]
  simp [sumE]
theorem sumE_take_le {d : Nat} (l : List (Tr (d + 1))) (t : Nat) : sumE (l.take t) ≤ sumE l := by
  have h : sumE l = sumE (l.take t) + sumE (l.drop t) := by
    unfold sumE
    rw [← List.sum_append, ← List.map_append, List.take_append_drop]
  omega
theorem szT_zero_len {w : World} {lo : Nat} {A : Option Addr} {n : Nat} {l : List (Tr 0)} (h : RdT w lo 0 A n l) : n = 0 := h.2
def SzSaid (d : Nat) : Prop := ∀ (lo : Nat) (A : Option Addr) (n c : Nat) (l : List (Tr d)) (left : Int) (w : World), RdT w lo d A n l → OkT d l → 0 ≤ left → left ≤ 1099511627776 →
    Calls Tryd.prog 46 #[.slice A n c, .int .i64 left] w fun e w' => e = .returned (.int .i64 (subSz left (szT d l))) ∧ Below w.heap.size w w' ∧ w.heap.size ≤ w'.heap.size
set_option maxRecDepth 100000 in
set_option maxHeartbeats 2000000 in
theorem szStmt_of {d : Nat} (ih : SzSaid d) (lo : Nat) (k : Int) (word : ByteArray) (args : List ByteArray) (count : Int) (bd : List (Tr d)) (Aa : Option Addr) (ca : Nat) (Ab : Option Addr) (nb cb : Nat) (left : Int) (w : World)
    (hra : RdL w lo 1 Aa args.length (strs args)) (hrb : RdT w lo d Ab nb bd) (h1 : word.size ≤ 9223372036854775807) (h2 : args.length ≤ 9223372036854775807) (h3 : ∀ a ∈ args, a.size ≤ 9223372036854775807) (h4 : OkT d bd) (h5 : 0 ≤ left) (h6 : left ≤ 1099511627776) :
    Calls Tryd.prog 12 #[.agg #[.int .i64 k, .string word, .slice Aa args.length ca, .int .i64 count, .slice Ab nb cb], .int .i64 left] w fun e w' =>
      e = .returned (.int .i64 (subSz left (word.size + (args.length + szS args + szT d bd)))) ∧ Below w.heap.size w w' ∧ w.heap.size ≤ w'.heap.size := by
  have b0 : Below w.heap.size w (w.alloc (.cells #[.int .i64 k, .string word, .slice Aa args.length ca, .int .i64 count, .slice Ab nb cb] 25)) := (by repeat (first | exact Below.refl _ _ | assumption | (refine Below.trans ?_ (Below.mono (by assumption) (by first | omega | (simp; done) | (simp; omega)))) | (with_reducible refine Below.drew ?_) | (with_reducible refine Below.alloc ?_ (by first | omega | (simp; done) | (simp; omega)) _) | (with_reducible refine Below.setCell ?_ (by first | omega | (simp; done) | (simp; omega)) _)))
  have HA := Lib.hid (hra.rd.below b0)
  have HB := Lib.hid (hrb.below b0)
  have H3 := Lib.hid h3
  have H4 := Lib.hid h4
  obtain ⟨m, hm⟩ : ∃ m, m = args.length := ⟨_, rfl⟩
  obtain ⟨z, hz⟩ : ∃ z, z = szS args := ⟨_, rfl⟩
  obtain ⟨y, hy⟩ : ∃ y, y = szT d bd := ⟨_, rfl⟩
  rw [← hm] at h2
  rw [← hm, ← hz, ← hy]
  have HM := Lib.hid hm
  have HZ := Lib.hid hz
  have HY := Lib.hid hy
  rw [← hm] at HA HB
  clear b0 hra hrb h3 h4 hm hz hy
  by_cases c1 : left - word.size < 0
  · have HF := Lib.hid (subSz_neg (left := left) (m := word.size + (m + z + y)) (by omega))
    go_enter Tryd.func12, Tryd.ntmps12
    go_wp2_with fail
    go_ret
    exact ⟨by rw [HF.out]; rfl, (by repeat (first | exact Below.refl _ _ | assumption | (refine Below.trans ?_ (Below.mono (by assumption) (by first | omega | (simp; done) | (simp; omega)))) | (with_reducible refine Below.drew ?_) | (with_reducible refine Below.alloc ?_ (by first | omega | (simp; done) | (simp; omega)) _) | (with_reducible refine Below.setCell ?_ (by first | omega | (simp; done) | (simp; omega)) _))), (by first | omega | (simp; done) | (simp; omega))⟩
  have c1' : 0 ≤ left - word.size := by omega
  by_cases c2 : left - word.size < m + z
  · have HF := Lib.hid (subSz_neg (left := left) (m := word.size + (m + z + y)) (by omega))
    have HS := Lib.hid (subSz_neg (left := left - word.size) (m := m + z) (by omega))
    go_enter Tryd.func12, Tryd.ntmps12
    go_wp2_with fail
    refine (szStringS_any _ _ _ args _ _ HA.out HM.out.symm h2 H3.out (by omega) (by omega)).mono ?_
    rintro e w' ⟨rfl, rfl⟩
    rw [← HZ.out, HS.out]
    go_wp2_with fail
    go_ret
    exact ⟨by rw [HF.out]; rfl, (by repeat (first | exact Below.refl _ _ | assumption | (refine Below.trans ?_ (Below.mono (by assumption) (by first | omega | (simp; done) | (simp; omega)))) | (with_reducible refine Below.drew ?_) | (with_reducible refine Below.alloc ?_ (by first | omega | (simp; done) | (simp; omega)) _) | (with_reducible refine Below.setCell ?_ (by first | omega | (simp; done) | (simp; omega)) _))), (by first | omega | (simp; done) | (simp; omega))⟩
  have HS := Lib.hid (subSz_pos (left := left - word.size) (m := m + z) (by omega))
  have c2' : 0 ≤ left - (word.size : Int) - ((m : Int) + (z : Int)) := by omega
  by_cases c3 : left - (word.size : Int) - ((m : Int) + (z : Int)) < y
  · have HF := Lib.hid (subSz_neg (left := left) (m := word.size + (m + z + y)) (by omega))
    have HT := Lib.hid (subSz_neg (left := left - (word.size : Int) - ((m : Int) + (z : Int))) (m := y) (by omega))
    go_enter Tryd.func12, Tryd.ntmps12
    go_wp2_with fail
    refine (szStringS_any _ _ _ args _ _ HA.out HM.out.symm h2 H3.out (by omega) (by omega)).mono ?_
    rintro e w' ⟨rfl, rfl⟩
    rw [← HZ.out, HS.out]
    go_wp2_with fail
    refine (ih lo _ _ _ bd _ _ HB.out H4.out (by omega) (by omega)).mono ?_
    rintro e w1 ⟨rfl, b1, s1⟩
    simp at s1
    rw [← HY.out, HT.out]
    go_wp2_with fail
    go_ret
    exact ⟨by rw [HF.out]; rfl, (by repeat (first | exact Below.refl _ _ | assumption | (refine Below.trans ?_ (Below.mono (by assumption) (by first | omega | (simp; done) | (simp; omega)))) | (with_reducible refine Below.drew ?_) | (with_reducible refine Below.alloc ?_ (by first | omega | (simp; done) | (simp; omega)) _) | (with_reducible refine Below.setCell ?_ (by first | omega | (simp; done) | (simp; omega)) _))), (by first | omega | (simp; done) | (simp; omega))⟩
  have HT := Lib.hid (subSz_pos (left := left - (word.size : Int) - ((m : Int) + (z : Int))) (m := y) (by omega))
  have HF := Lib.hid ((subSz_pos (left := left) (m := word.size + (m + z + y)) (by omega)).trans (show left - ((word.size + (m + z + y) : Nat) : Int) = left - (word.size : Int) - ((m : Int) + (z : Int)) - (y : Int) by omega))
  go_enter Tryd.func12, Tryd.ntmps12
  go_wp2_with fail
  refine (szStringS_any _ _ _ args _ _ HA.out HM.out.symm h2 H3.out (by omega) (by omega)).mono ?_
  rintro e w' ⟨rfl, rfl⟩
  rw [← HZ.out, HS.out]
  go_wp2_with fail
  refine (ih lo _ _ _ bd _ _ HB.out H4.out (by omega) (by omega)).mono ?_
  rintro e w1 ⟨rfl, b1, s1⟩
  simp at s1
  rw [← HY.out, HT.out]
  go_wp2_with fail
  go_ret
  exact ⟨by rw [HF.out]; rfl, (by repeat (first | exact Below.refl _ _ | assumption | (refine Below.trans ?_ (Below.mono (by assumption) (by first | omega | (simp; done) | (simp; omega)))) | (with_reducible refine Below.drew ?_) | (with_reducible refine Below.alloc ?_ (by first | omega | (simp; done) | (simp; omega)) _) | (with_reducible refine Below.setCell ?_ (by first | omega | (simp; done) | (simp; omega)) _))), (by first | omega | (simp; done) | (simp; omega))⟩
set_option maxRecDepth 100000 in
set_option maxHeartbeats 2000000 in
theorem szStmtS_any : ∀ (d : Nat), SzSaid d := by
  intro d
  induction d with
  | zero =>
    intro lo A n c l left w h _ h0 h1
    obtain rfl := szT_zero_len h
    have HF := Lib.hid (subSz_pos (left := left) (m := szT 0 l) (by simp [szT]; omega))
    go_enter Tryd.func46, Tryd.ntmps46
    go_wp2
    refine wp_loop_rounds 1 ?_
    rw [rounds_succ]
    go_wp2
    go_ret
    exact ⟨by rw [HF.out]; simp [szT], Below.refl _ _, Nat.le_refl _⟩
  | succ d ih =>
    intro lo A n c l left w h hok h0 h1
    have H := Lib.hid h
    have HO := Lib.hid hok
    have hn : n ≤ 9223372036854775807 := by rw [← h.len]; exact hok.1
    have hln := h.len
    have HL := Lib.hid hln
    clear h hok hln
    by_cases hbig : left - n < 0
    · have HF := Lib.hid (subSz_neg (left := left) (m := szT (d + 1) l) (by rw [szT_succ, HL.out]; omega))
      go_enter Tryd.func46, Tryd.ntmps46
      go_wp2
      go_ret
      exact ⟨by rw [HF.out]; rfl, Below.refl _ _, Nat.le_refl _⟩
    · have hbig' : 0 ≤ left - n := by omega
      go_enter Tryd.func46, Tryd.ntmps46
      go_wp2_with fail
      go_loopw [1, 5] (fun k i wr => ∃ t : Nat, t ≤ n ∧ i = .int .i64 t ∧ 0 ≤ left - n - sumE (l.take t) ∧ k = .int .i64 (left - n - sumE (l.take t)) ∧ Below w.heap.size w wr) (fun _ i _ => n - (intOf i).toNat)
      case atStart => exact ⟨0, Nat.zero_le _, rfl, by rw [List.take_zero, sumE_nil]; omega, by rw [List.take_zero, sumE_nil]; simp, Below.refl _ _⟩
      case round =>
        obtain ⟨t, ht, rfl, hp, rfl, hb⟩ := hrel
        have hle := sumE_take_le l t
        obtain ⟨Z, hZ⟩ : ∃ Z, Z = sumE (l.take t) := ⟨_, rfl⟩
        rw [← hZ] at hp hle ⊢
        have HT := Lib.hid hZ
        clear hZ
        by_cases hlt : t < n
        · obtain ⟨b, off, s, Aa, ca, Ab, nb, cb, rfl, hbl, hs, hcs, hra, hrb⟩ := (H.out.below hb).at_ hlt
          obtain ⟨q0, q1, q2, q3, q4⟩ := hcs
          have hmem := List.mem_of_getElem? hs
          have ho := HO.out.2 _ hmem
          have hst := sumE_take l t s hs
          have hle2 := sumE_take_le l (t + 1)
          rw [hst, ← HT.out] at hle2
          have HS := Lib.hid hst
          have HRa := Lib.hid hra
          have HRb := Lib.hid hrb
          have HO2 := Lib.hid ho
          clear hs hst hra hrb ho hmem
          have HE : Hid (szE s = (hdT s).word.size + ((hdT s).args.length + szS (hdT s).args + szT d (bdT s))) := Lib.hid rfl
          obtain ⟨y, hy⟩ : ∃ y, y = szE s := ⟨_, rfl⟩
          rw [← hy] at hle2
          have HY := Lib.hid hy
          clear hy
          go_wp2_with fail
          refine (szStmt_of ih lo _ _ _ _ (bdT s) _ _ _ _ _ _ _ HRa.out HRb.out HO2.out.1 HO2.out.2.1 HO2.out.2.2.1 HO2.out.2.2.2 (by omega) (by omega)).mono ?_
          rintro e w1 ⟨rfl, b1, s1⟩
          rw [← HE.out, ← HY.out]
          by_cases hneg : left - n - Z < y
          · have HN := Lib.hid (subSz_neg (left := left - n - Z) (m := y) (by omega))
            have HF := Lib.hid (subSz_neg (left := left) (m := szT (d + 1) l) (by rw [szT_succ, HL.out]; omega))
            rw [HN.out]
            go_wp2_with fail
            go_ret
            exact ⟨by rw [HF.out]; rfl, hb.trans (b1.mono hb.size), Nat.le_trans hb.size s1⟩
          · have HN := Lib.hid (subSz_pos (left := left - n - Z) (m := y) (by omega))
            have hneg' : 0 ≤ left - n - Z - y := by omega
            rw [HN.out]
            go_wp2_with fail
            go_roundw
            case rel => exact ⟨t + 1, by omega, by go_num, by rw [HS.out, ← HT.out, ← HY.out]; omega, by rw [HS.out, ← HT.out, ← HY.out]; congr 1; omega, hb.trans (b1.mono hb.size)⟩
            case measure => simp [intOf]; omega
        · obtain rfl : t = n := by omega
          have HF : Hid (subSz left (szT (d + 1) l) = left - t - Z) := by
            have h := HT.out
            rw [List.take_of_length_le (by rw [HL.out]; exact Nat.le_refl _)] at h
            rw [szT_succ, HL.out, ← h]
            exact (subSz_pos (by omega)).trans (by omega)
          go_wp2_with fail
          go_ret
          exact ⟨by rw [HF.out]; rfl, hb, hb.size⟩
end Go.Proofs.YtijocafindbebaaDoor
