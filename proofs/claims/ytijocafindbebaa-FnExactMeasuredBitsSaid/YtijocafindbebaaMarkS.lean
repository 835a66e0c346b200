/- Marking strings, statements; tokens: comparing, marking, reading the marks back. -/
import Derived.Test.YtijocafindbebaaMark
import Derived.Test.YtijocafindbebaaMtx
namespace Go.Proofs.Ytijocafindbebaa
open Go.RowKit
set_option linter.unusedVariables false
set_option maxRecDepth 100000 in
set_option maxHeartbeats 2000000 in
theorem markStringS_any (lo hi : Nat) (A : Option Addr) (n c : Nat) (k : Int) (w : World) (h : WS w lo hi A n) (hh : hi ≤ w.heap.size) (hn : n ≤ 1099511627776) (hk0 : 1 ≤ k) (hk1 : k ≤ 1099511627776) :
    Calls Try.prog 12 #[.slice A n c, .int .i64 k] w fun e w' => e = .returned (.int .i64 (k + n)) ∧ Mk lo hi w w' := by
  have H := Lib.hid h
  clear h
  go_enter Try.func12, Try.ntmps12
  go_wp2
  go_loopw [1, 5] (fun kk i wr => ∃ t : Nat, t ≤ n ∧ i = .int .i64 t ∧ kk = .int .i64 (k + t) ∧ Mk lo hi w wr) (fun _ i _ => n - (intOf i).toNat)
  case atStart => exact ⟨0, Nat.zero_le _, rfl, by simp, Mk.refl _ _ _⟩
  case round =>
    obtain ⟨t, ht, rfl, rfl, hm⟩ := hrel
    have hms := hm.size
    by_cases hlt : t < n
    · obtain ⟨b, off, rfl, hbl, hc⟩ := (H.out.mk hm) (by omega)
      obtain ⟨⟨s, q0⟩, f0⟩ := hc t hlt
      clear hc
      have hbh := hbl.2
      go_wp2_with fail
      refine (markText_any _ _ (by omega) (by omega)).mono ?_
      rintro e w1 ⟨rfl, b1, s1⟩
      have q1 : w1.cell? ⟨b, off + t, none⟩ = some (.string s) := (b1.cell (p := ⟨b, off + t, none⟩) (by show b < _; omega)).trans q0
      have f1 : w1.frozen? ⟨b, off + t, none⟩ = false := (b1.frozen (p := ⟨b, off + t, none⟩) (by show b < _; omega)).trans f0
      have m1 := hm.trans (Mk.of_below b1 (by omega))
      clear q0 f0
      go_wp2_with fail
      go_roundw
      case rel => exact ⟨t + 1, by omega, by go_num, by congr 1; omega, m1.trans (Mk.str hbl q1 _)⟩
      case measure => simp [intOf]; omega
    · obtain rfl : t = n := by omega
      go_wp2_with fail
      go_ret
      exact ⟨rfl, hm⟩
theorem mk5 {lo hi b o : Nat} {w w' : World} {wd : ByteArray} {ct : Int} {Aa Ab : Option Addr} {na ca nb cb : Nat} (m : Mk lo hi w w') (hb : b < hi) (q1 : w.cell? ⟨b, o + 1, none⟩ = some (.string wd)) (q2 : w.cell? ⟨b, o + 2, none⟩ = some (.slice Aa na ca))
    (q3 : w.cell? ⟨b, o + 3, none⟩ = some (.int .i64 ct)) (q4 : w.cell? ⟨b, o + 4, none⟩ = some (.slice Ab nb cb)) (f1 : w.frozen? ⟨b, o + 1, none⟩ = false) (f3 : w.frozen? ⟨b, o + 3, none⟩ = false) :
    (∃ wd', w'.cell? ⟨b, o + 1, none⟩ = some (.string wd')) ∧ w'.cell? ⟨b, o + 2, none⟩ = some (.slice Aa na ca) ∧ (∃ ct', w'.cell? ⟨b, o + 3, none⟩ = some (.int .i64 ct')) ∧ w'.cell? ⟨b, o + 4, none⟩ = some (.slice Ab nb cb) ∧ w'.frozen? ⟨b, o + 1, none⟩ = false ∧ w'.frozen? ⟨b, o + 3, none⟩ = false :=
  ⟨m.st _ _ _ hb q1, m.sl _ _ _ _ _ hb q2, m.it _ _ _ hb q3, m.sl _ _ _ _ _ hb q4, m.fr _ _ hb f1, m.fr _ _ hb f3⟩
def MkSaid (d : Nat) : Prop := ∀ (lo hi : Nat) (A : Option Addr) (n c : Nat) (l : List (Tr d)) (k : Int) (w : World), WT w lo hi d A n l → hi ≤ w.heap.size → szT d l ≤ 1048576 → 1 ≤ k → k + kT d l ≤ 1099511627776 →
  Calls Try.prog 30 #[.slice A n c, .int .i64 k] w fun e w' => e = .returned (.int .i64 (k + kT d l)) ∧ Mk lo hi w w'
set_option maxRecDepth 100000 in
set_option maxHeartbeats 4000000 in
theorem markStmtS_any : ∀ (d : Nat), MkSaid d := by
  intro d
  induction d with
  | zero =>
    intro lo hi A n c l k w h _ _ _ _
    obtain rfl : n = 0 := h.2
    go_enter Try.func30, Try.ntmps30
    go_wp2
    refine wp_loop_rounds 1 ?_
    rw [rounds_succ]
    go_wp2
    go_ret
    exact ⟨by simp [kT], Mk.refl _ _ _⟩
  | succ d ih =>
    intro lo hi A n c l k w h hh hsz hk0 hk1
    have hl := h.len
    have hn : n ≤ 1048576 := by rw [szT_succ] at hsz; omega
    have H := Lib.hid h
    have HL := Lib.hid hl
    have HK := Lib.hid hk1
    have HSZ := Lib.hid hsz
    obtain ⟨Z, hZ⟩ : ∃ Z, Z = kT (d + 1) l := ⟨_, rfl⟩
    have HZ := Lib.hid hZ
    rw [← hZ] at hk1 ⊢
    clear h hl hsz hZ
    go_enter Try.func30, Try.ntmps30
    go_wp2
    go_loopw [1, 5] (fun kk i wr => ∃ t : Nat, t ≤ n ∧ i = .int .i64 t ∧ kk = .int .i64 (k + kT (d + 1) (l.take t)) ∧ Mk lo hi w wr) (fun _ i _ => n - (intOf i).toNat)
    case atStart => exact ⟨0, Nat.zero_le _, rfl, by simp [kT], Mk.refl _ _ _⟩
    case round =>
      obtain ⟨t, ht, rfl, rfl, hm⟩ := hrel
      have hms := hm.size
      by_cases hlt : t < n
      · obtain ⟨b, off, rfl, hbl, hc⟩ := (H.out.mk hm).2 (by omega)
        obtain ⟨s, hs⟩ : ∃ s, l[t]? = some s := ⟨_, List.getElem?_eq_getElem (by have := HL.out; omega)⟩
        obtain ⟨k0, wd, Aa, ca, ct, Ab, nb, cb, ⟨q0, q1, q2, q3, q4⟩, ⟨f0, f1, f3⟩, ha, hb⟩ := hc t s hs
        have hke := kT_take l t s hs
        have hkl := kT_take_le l (t + 1)
        have hzm := szT_mem hs
        have hsz := HSZ.out
        rw [szT_succ] at hsz
        rw [← HZ.out] at hkl
        have HKE := Lib.hid hke
        obtain ⟨K0, hK0⟩ : ∃ K0, K0 = kT (d + 1) (l.take t) := ⟨_, rfl⟩
        rw [← hK0] at HKE hke ⊢
        obtain ⟨na, hna⟩ : ∃ na, na = (hdT s).args.length := ⟨_, rfl⟩
        obtain ⟨kb, hkb⟩ : ∃ kb, kb = kT d (bdT s) := ⟨_, rfl⟩
        have hkE : kE s = 3 + na + kb := by rw [hna, hkb]; rfl
        have hzE : szE s = (hdT s).word.size + ((hdT s).args.length + szS (hdT s).args + szT d (bdT s)) := rfl
        have hzb : szT d (bdT s) ≤ 1048576 := by omega
        have hnb : na ≤ 1048576 := by omega
        rw [← hna] at q2 ha
        have hkl2 : K0 + (3 + na + kb) ≤ Z := by omega
        have HKE2 : Hid (kT (d + 1) (l.take (t + 1)) = K0 + (3 + na + kb)) := by rw [hke, hkE]; exact rfl
        have HKB := Lib.hid hkb
        clear hc hke hkl hzm hsz hs hkE hzE hK0 hna hkb HKE
        have hbh := hbl.2
        obtain ⟨w1, hw1⟩ : ∃ w1, w1 = wr.setCell ⟨b, off + t * 5, none⟩ (.int .i64 (k + K0)) := ⟨_, rfl⟩
        have m1 : Mk lo hi wr w1 := by rw [hw1]; exact Mk.int hbl q0 _
        have HW1 := Lib.hid hw1
        clear hw1
        go_wp2_with fail
        rw [← HW1.out]
        obtain ⟨⟨wd1, g1⟩, g2, ⟨ct1, g3⟩, g4, e1, e3⟩ := mk5 m1 hbh q1 q2 q3 q4 f1 f3
        have hs1 := m1.size
        have ha1 := ha.mk m1
        have hb1 := hb.mk m1
        have M1 := Lib.hid (hm.trans m1)
        clear q0 q1 q2 q3 q4 f0 f1 f3 ha hb m1 hm
        refine (markText_any _ _ (by omega) (by omega)).mono ?_
        rintro e w2 ⟨rfl, b2, s2⟩
        have m2 : Mk lo hi w1 w2 := Mk.of_below b2 (by omega)
        obtain ⟨⟨wd2, q1⟩, q2, ⟨ct2, q3⟩, q4, f1, f3⟩ := mk5 m2 hbh g1 g2 g3 g4 e1 e3
        have ha2 := ha1.mk m2
        have hb2 := hb1.mk m2
        have M2 := Lib.hid (M1.out.trans m2)
        clear g1 g2 g3 g4 e1 e3 ha1 hb1 m2 b2 M1
        obtain ⟨w3, hw3⟩ : ∃ w3, w3 = w2.setCell ⟨b, off + t * 5 + 1, none⟩ (.string (mtx (k + K0 + 1))) := ⟨_, rfl⟩
        have m3 : Mk lo hi w2 w3 := by rw [hw3]; exact Mk.str hbl q1 _
        have HW3 := Lib.hid hw3
        obtain ⟨⟨wd3, g1⟩, g2, ⟨ct3, g3⟩, g4, e1, e3⟩ := mk5 m3 hbh q1 q2 q3 q4 f1 f3
        have hs3 := m3.size
        have ha3 := ha2.mk m3
        have hb3 := hb2.mk m3
        have M3 := Lib.hid (M2.out.trans m3)
        rw [hw3] at g2
        clear hw3 ha2 hb2 m3 M2
        go_wp2_with fail
        rw [← HW3.out]
        rw [← HW3.out] at g2
        clear q1 q2 q3 q4 f1 f3
        refine (markStringS_any lo hi _ _ _ _ _ ha3 (by omega) (by omega) (by omega) (by omega)).mono ?_
        rintro e w4 ⟨rfl, m4⟩
        have hs4 := m4.size
        obtain ⟨⟨wd4, q1⟩, q2, ⟨ct4, q3⟩, q4, f1, f3⟩ := mk5 m4 hbh g1 g2 g3 g4 e1 e3
        have hb4 := hb3.mk m4
        have M4 := Lib.hid (M3.out.trans m4)
        clear g1 g2 g3 g4 e1 e3 ha3 hb3 m4 M3
        obtain ⟨w5, hw5⟩ : ∃ w5, w5 = w4.setCell ⟨b, off + t * 5 + 3, none⟩ (.int .i64 (k + K0 + 1 + 1 + na)) := ⟨_, rfl⟩
        have m5 : Mk lo hi w4 w5 := by rw [hw5]; exact Mk.int hbl q3 _
        have HW5 := Lib.hid hw5
        obtain ⟨_, _, _, g4, _, _⟩ := mk5 m5 hbh q1 q2 q3 q4 f1 f3
        have hs5 := m5.size
        have hb5 := hb4.mk m5
        have M5 := Lib.hid (M4.out.trans m5)
        rw [hw5] at g4
        clear hw5 hb4 m5 M4
        go_wp2_with fail
        rw [← HW5.out]
        clear g4 q1 q2 q3 q4 f1 f3
        refine (ih lo hi _ _ _ (bdT s) _ _ hb5 (by omega) hzb (by omega) (by rw [← HKB.out]; omega)).mono ?_
        rintro e w6 ⟨rfl, m6⟩
        have M6 := Lib.hid (M5.out.trans m6)
        rw [← HKB.out]
        clear m6 M5
        go_wp2_with fail
        go_roundw
        case rel => exact ⟨t + 1, by omega, by go_num, by rw [HKE2.out]; congr 1; omega, M6.out⟩
        case measure => simp [intOf]; omega
      · obtain rfl : t = n := by omega
        have HF : Hid (kT (d + 1) (l.take t) = Z) := by
          rw [List.take_of_length_le (by rw [HL.out]; exact Nat.le_refl _)]
          exact HZ.out.symm
        go_wp2_with fail
        go_ret
        exact ⟨by rw [← HF.out]; rfl, hm⟩
end Go.Proofs.Ytijocafindbebaa
