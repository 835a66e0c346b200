/- Comparing two slices of statements that read the same: the laws' eqStmtS answers true. -/
import Derived.Test.YtijocafindbebaaDoorTreeTo
namespace Go.Proofs.YtijocafindbebaaDoor
open Go.RowKit
set_option linter.unusedVariables false
theorem RdT.drew {w : World} {lo d n : Nat} {A : Option Addr} {l : List (Tr d)} (h : RdT w lo d A n l) : RdT w.drew lo d A n l := RdT.keep (w := w) (w' := w.drew) (fun _ _ _ _ => rfl) (Nat.le_refl _) h
theorem RdT.drewN {w : World} {lo d n : Nat} {A : Option Addr} {l : List (Tr d)} (h : RdT w lo d A n l) (k : Nat) : RdT (w.drewN k) lo d A n l := RdT.keep (w := w) (w' := w.drewN k) (fun _ _ _ _ => rfl) (Nat.le_refl _) h
def EqSaid (d : Nat) : Prop := ∀ (lo lo' : Nat) (A A' : Option Addr) (n c c' : Nat) (l : List (Tr d)) (w : World), RdT w lo d A n l → RdT w lo' d A' n l → szT d l ≤ 1048576 →
  Calls Tryd.prog 59 #[.slice A n c, .slice A' n c'] w fun e w' => e = .returned (.bool true) ∧ Below w.heap.size w w' ∧ w.heap.size ≤ w'.heap.size
set_option maxRecDepth 100000 in
set_option maxHeartbeats 2000000 in
theorem eqStmt_of {d : Nat} (ih : EqSaid d) (lo lo' : Nat) (k : Int) (word : ByteArray) (args : List ByteArray) (count : Int) (bd : List (Tr d)) (Aa : Option Addr) (ca : Nat) (Ab : Option Addr) (nb cb : Nat) (Aa' : Option Addr) (ca' : Nat) (Ab' : Option Addr) (cb' : Nat) (w : World)
    (hra : RdL w lo 1 Aa args.length (strs args)) (hrb : RdT w lo d Ab nb bd) (hra' : RdL w lo' 1 Aa' args.length (strs args)) (hrb' : RdT w lo' d Ab' nb bd) (h1 : args.length ≤ 1048576) (h2 : szT d bd ≤ 1048576) :
    Calls Tryd.prog 16 #[.agg #[.int .i64 k, .string word, .slice Aa args.length ca, .int .i64 count, .slice Ab nb cb], .agg #[.int .i64 k, .string word, .slice Aa' args.length ca', .int .i64 count, .slice Ab' nb cb']] w fun e w' =>
      e = .returned (.bool true) ∧ Below w.heap.size w w' ∧ w.heap.size ≤ w'.heap.size := by
  obtain ⟨m, hm⟩ : ∃ m, m = args.length := ⟨_, rfl⟩
  rw [← hm] at hra hra' h1 ⊢
  have HM := Lib.hid hm
  have HA := Lib.hid hra
  have HB := Lib.hid hrb
  have HA' := Lib.hid hra'
  have HB' := Lib.hid hrb'
  clear hm hra hrb hra' hrb'
  go_enter Tryd.func16, Tryd.ntmps16
  go_wp2_with fail
  obtain ⟨w0, hw0⟩ : ∃ w0, w0 = (w.alloc (.cells #[.int .i64 k, .string word, .slice Aa m ca, .int .i64 count, .slice Ab nb cb] 30)).alloc (.cells #[.int .i64 k, .string word, .slice Aa' m ca', .int .i64 count, .slice Ab' nb cb'] 30) := ⟨_, rfl⟩
  rw [← hw0]
  have X0 := Lib.hid (show w0.heap[w.heap.size]? = some (.cells #[.int .i64 k, .string word, .slice Aa m ca, .int .i64 count, .slice Ab nb cb] 30 (0, 0)) by rw [hw0]; exact boxed2_0 _ _ _)
  have X1 := Lib.hid (show w0.heap[w.heap.size + 1]? = some (.cells #[.int .i64 k, .string word, .slice Aa' m ca', .int .i64 count, .slice Ab' nb cb'] 30 (0, 0)) by rw [hw0]; exact boxed2_1 _ _ _)
  have b0 : Below w.heap.size w w0 := by rw [hw0]; exact (by repeat (first | exact Below.refl _ _ | assumption | (refine Below.trans ?_ (Below.mono (by assumption) (by first | omega | (simp; done) | (simp; omega)))) | (with_reducible refine Below.drew ?_) | (with_reducible refine Below.alloc ?_ (by first | omega | (simp; done) | (simp; omega)) _) | (with_reducible refine Below.setCell ?_ (by first | omega | (simp; done) | (simp; omega)) _)))
  have s0 : w.heap.size ≤ w0.heap.size := b0.size
  clear hw0
  refine (eqStringS_same _ _ _ _ _ args _ HM.out.symm (by omega) (HA.out.rd.below b0) (HA'.out.rd.below b0)).mono ?_
  rintro e w1 ⟨rfl, b1, s1⟩
  obtain ⟨_, _, _, p3, p4⟩ := boxcells5 (lay := b1) X0.out
  obtain ⟨_, _, _, q3, q4⟩ := boxcells5 (lay := b1) X1.out
  have b01 : Below w.heap.size w w1 := b0.trans (b1.mono s0)
  go_wp2_with fail
  refine (ih lo lo' _ _ _ _ _ bd _ (HB.out.below b01) (HB'.out.below b01) h2).mono ?_
  rintro e w2 ⟨rfl, b2, s2⟩
  go_wp2_with fail
  go_ret
  exact ⟨rfl, b01.trans (b2.mono (by omega)), by omega⟩
set_option maxRecDepth 100000 in
set_option maxHeartbeats 2000000 in
theorem eqStmtS_any : ∀ (d : Nat), EqSaid d := by
  intro d
  induction d with
  | zero =>
    intro lo lo' A A' n c c' l w h h' _
    obtain rfl := szT_zero_len h
    go_enter Tryd.func59, Tryd.ntmps59
    go_wp2
    refine wp_loop_rounds 1 ?_
    rw [rounds_succ]
    go_wp2
    go_ret
    exact ⟨rfl, Below.refl _ _, Nat.le_refl _⟩
  | succ d ih =>
    intro lo lo' A A' n c c' l w h h' hsz
    rw [szT_succ] at hsz
    have hln := h.len
    have hn : n ≤ 1048576 := by omega
    have HQ := Lib.hid hsz
    have H := Lib.hid h
    have H' := Lib.hid h'
    clear h h' hln hsz
    go_enter Tryd.func59, Tryd.ntmps59
    go_wp2
    go_loopw [5] (fun i wr => ∃ t : Nat, t ≤ n ∧ i = .int .i64 t ∧ Below w.heap.size w wr) (fun i _ => n - (intOf i).toNat)
    case atStart => exact ⟨0, Nat.zero_le _, rfl, Below.refl _ _⟩
    case round =>
      obtain ⟨t, ht, rfl, hb⟩ := hrel
      by_cases hlt : t < n
      · obtain ⟨b, off, s, Aa, ca, Ab, nb, cb, rfl, hbl, hs, hcs, hra, hrb⟩ := (H.out.below hb).at_ hlt
        obtain ⟨b', off', s', Aa', ca', Ab', nb', cb', rfl, hbl', hs', hcs', hra', hrb'⟩ := (H'.out.below hb).at_ hlt
        obtain rfl : s = s' := by rw [hs] at hs'; injection hs'
        obtain rfl : nb = nb' := by rw [← hrb.len, ← hrb'.len]
        obtain ⟨q0, q1, q2, q3, q4⟩ := hcs
        obtain ⟨p0, p1, p2, p3, p4⟩ := hcs'
        have hme := szT_mem hs
        have hz1 : (hdT s).args.length ≤ 1048576 := by have := HQ.out; unfold szE at hme; omega
        have hz2 : szT d (bdT s) ≤ 1048576 := by have := HQ.out; unfold szE at hme; omega
        have R1 := Lib.hid hra
        have R2 := Lib.hid hrb
        have R3 := Lib.hid hra'
        have R4 := Lib.hid hrb'
        clear hs hs' hra hrb hra' hrb' hme
        go_wp2_with fail
        go_still_tail 8, (by kernel_rfl)
        change wpList _ _ _ _ _ wr.drew
        go_wp2_with fail
        refine (eqStmt_of ih lo lo' _ _ _ _ (bdT s) _ _ _ _ _ _ _ _ _ _ (by exact R1.out) R2.out.drew (by exact R3.out) R4.out.drew hz1 hz2).mono ?_
        rintro e w1 ⟨rfl, b1, s1⟩
        go_wp2_with fail
        go_roundw
        case rel => exact ⟨t + 1, by omega, by go_num, hb.drew.trans (b1.mono hb.size)⟩
        case measure => simp [intOf]; omega
      · go_wp2_with fail
        go_ret
        exact ⟨rfl, hb, hb.size⟩
end Go.Proofs.YtijocafindbebaaDoor
