/- Contracts of the loops over slices of gates that the laws use: comparing equal slices, marking, and reading the marks back. -/
import Derived.Test.YtjphclkpdgcciaaGate
namespace Go.Proofs.Ytjphclkpdgcciaa
open Go.RowKit

theorem gflat_at (l : List Gt) (k : Nat) (hk : k < l.length) : ∃ g, l[k]? = some g ∧ (l.flatMap gcells)[k * 4]? = some (.int .i64 g.k) ∧ (l.flatMap gcells)[k * 4 + 1]? = some (.int .i64 g.a) ∧
    (l.flatMap gcells)[k * 4 + 2]? = some (.int .i64 g.b) ∧ (l.flatMap gcells)[k * 4 + 3]? = some (.int .i64 g.c) := by
  induction l generalizing k with
  | nil => simp at hk
  | cons x l ih =>
    cases k with
    | zero => exact ⟨x, rfl, rfl, rfl, rfl, rfl⟩
    | succ k =>
      obtain ⟨g, h0, h1, h2, h3, h4⟩ := ih k (by simpa using hk)
      refine ⟨g, h0, ?_, ?_, ?_, ?_⟩
      · rw [← h1, List.flatMap_cons, List.getElem?_append_right (by simp [gcells]; omega)]; congr 1; simp [gcells]; omega
      · rw [← h2, List.flatMap_cons, List.getElem?_append_right (by simp [gcells]; omega)]; congr 1; simp [gcells]; omega
      · rw [← h3, List.flatMap_cons, List.getElem?_append_right (by simp [gcells]; omega)]; congr 1; simp [gcells]; omega
      · rw [← h4, List.flatMap_cons, List.getElem?_append_right (by simp [gcells]; omega)]; congr 1; simp [gcells]; omega

set_option maxHeartbeats 1000000 in
theorem eqGateS_same (A A' : Option Addr) (n c c' : Nat) (l : List Gt) (w : World) (hl : l.length = n) (hn : n ≤ 1099511627776) (h1 : Rd w 4 A n (l.flatMap gcells)) (h2 : Rd w 4 A' n (l.flatMap gcells)) :
    Calls Try.prog 22 #[.slice A n c, .slice A' n c'] w fun e w' => e = .returned (.bool true) ∧ Below w.heap.size w w' ∧ w.heap.size ≤ w'.heap.size := by
  have H1 := Lib.hid h1
  have H2 := Lib.hid h2
  have HL := Lib.hid hl
  clear h1 h2 hl
  go_enter Try.func22, Try.ntmps22
  go_wp2
  go_loopw [5] (fun i wr => ∃ k : Nat, k ≤ n ∧ i = .int .i64 k ∧ Below w.heap.size w wr) (fun i _ => n - (intOf i).toNat)
  case atStart => exact ⟨0, Nat.zero_le _, rfl, Below.refl _ _⟩
  case round =>
    obtain ⟨k, hk, rfl, hb⟩ := hrel
    by_cases hlt : k < n
    · obtain ⟨g, _, c0, c1, c2, c3⟩ := gflat_at l k (by rw [HL.out]; exact hlt)
      obtain ⟨b, off, rfl, hal, hc⟩ := (H1.out.below hb).2 (by omega)
      obtain ⟨b', off', rfl, hal', hc'⟩ := (H2.out.below hb).2 (by omega)
      have q0 := hc _ _ c0
      have q1 := hc _ _ c1
      have q2 := hc _ _ c2
      have q3 := hc _ _ c3
      have q0' := hc' _ _ c0
      have q1' := hc' _ _ c1
      have q2' := hc' _ _ c2
      have q3' := hc' _ _ c3
      rw [← Nat.add_assoc] at q1 q2 q3 q1' q2' q3'
      clear hc hc' c0 c1 c2 c3
      go_wp2_with fail
      go_still_tail 8, (by kernel_rfl)
      change wpList _ _ _ _ _ wr.drew
      go_wp2_with (go_at_call 60; refine (eqGate_same _ _ _ _ _).mono ?_; rintro e w' ⟨rfl, hb', hs'⟩)
      go_roundw
      case rel => exact ⟨k + 1, by omega, by go_num, hb.drew.trans (hb'.mono hb.size)⟩
      case measure => simp [intOf]; omega
    · go_wp2_with fail
      go_ret
      exact ⟨rfl, hb, hb.size⟩
set_option maxHeartbeats 1000000 in
theorem markGateS_any (v : Value) (n base : Nat) (xs : List Value) (k : Int) (w : World) (hown : w.ownsRow base 28 4 v n xs) (hn : n ≤ 1099511627776) (hk0 : 0 ≤ k) (hk1 : k ≤ 1099511627776) :
    Calls Try.prog 23 #[v, .int .i64 k] w fun e w' => e = .returned (.int .i64 (k + n * 4)) ∧ w'.ownsRow base 28 4 v n (marks k (n * 4)) ∧ w.grownBy w' v.ownBlock := by
  rcases hown.2 with ⟨rfl, rfl⟩ | ⟨g, cap, cur, rfl, hb, hh, hc, hm, _, _⟩
  · clear hown
    go_enter Try.func23, Try.ntmps23
    go_wp2
    refine wp_loop_rounds 1 ?_
    rw [rounds_succ]
    go_wp2
    go_ret
    exact ⟨by simp, World.ownsRow_nil _ _ _ _, World.grownBy.refl _ _⟩
  · clear hh hb hc hm
    have hxl := hown.1
    go_enter Try.func23, Try.ntmps23
    go_wp2
    go_loopw [1, 5] (fun kk i wr => ∃ t : Nat, t ≤ n ∧ i = .int .i64 t ∧ kk = .int .i64 (k + t * 4) ∧ wr.ownsRow base 28 4 (.slice (some ⟨g, 0, none⟩) n cap) n (marks k (t * 4) ++ xs.drop (t * 4)) ∧ w.grownBy wr (some g)) (fun _ i _ => n - (intOf i).toNat)
    case atStart => exact ⟨0, Nat.zero_le _, rfl, by simp, by simpa [marks] using hown, World.grownBy.refl _ _⟩
    case round =>
      clear hown
      obtain ⟨t, ht, rfl, rfl, hown, hgr⟩ := hrel
      by_cases hlt : t < n
      · have hf := hown.frozenAt
        have hz := hown.cellAt
        have hll := hown.1
        obtain ⟨y0, z0⟩ : ∃ y, wr.cell? ⟨g, t * 4, none⟩ = some y := ⟨_, (hz _ (by omega)).trans (List.getElem?_eq_getElem (by omega))⟩
        obtain ⟨y1, z1⟩ : ∃ y, wr.cell? ⟨g, t * 4 + 1, none⟩ = some y := ⟨_, (hz _ (by omega)).trans (List.getElem?_eq_getElem (by omega))⟩
        obtain ⟨y2, z2⟩ : ∃ y, wr.cell? ⟨g, t * 4 + 2, none⟩ = some y := ⟨_, (hz _ (by omega)).trans (List.getElem?_eq_getElem (by omega))⟩
        obtain ⟨y3, z3⟩ : ∃ y, wr.cell? ⟨g, t * 4 + 3, none⟩ = some y := ⟨_, (hz _ (by omega)).trans (List.getElem?_eq_getElem (by omega))⟩
        have f0 := hf (t * 4)
        have f1 := hf (t * 4 + 1)
        have f2 := hf (t * 4 + 2)
        have f3 := hf (t * 4 + 3)
        have HX := Lib.hid hxl
        clear hf hz hll hxl
        go_wp2
        go_roundw
        case rel =>
          have s0 := hown.stored (t * 4) (.int .i64 (k + t * 4))
          have s1 := s0.1.stored (t * 4 + 1) (.int .i64 (k + t * 4 + 1))
          have s2 := s1.1.stored (t * 4 + 1 + 1) (.int .i64 (k + t * 4 + 1 + 1))
          have s3 := s2.1.stored (t * 4 + 1 + 1 + 1) (.int .i64 (k + t * 4 + 1 + 1 + 1))
          rw [mark_step (by congr 1) (by rw [HX.out]; omega), mark_step (by congr 1; omega) (by rw [HX.out]; omega), mark_step (by congr 1; omega) (by rw [HX.out]; omega), mark_step (by congr 1; omega) (by rw [HX.out]; omega)] at s3
          rw [show t * 4 + 1 + 1 + 1 + 1 = (t + 1) * 4 from by omega] at s3
          exact ⟨t + 1, by omega, by go_num, by congr 1; omega, s3.1, (((hgr.trans s0.2).trans s1.2).trans s2.2).trans s3.2⟩
        case measure => simp [intOf]; omega
      · obtain rfl : t = n := by omega
        go_wp2
        go_ret
        exact ⟨rfl, by rw [List.drop_of_length_le (by omega), List.append_nil] at hown; exact hown, hgr⟩
set_option maxHeartbeats 1000000 in
theorem heldGateS_any (A : Option Addr) (n c : Nat) (k : Int) (w : World) (h : Rd w 4 A n (marks k (n * 4))) (hn : n ≤ 1099511627776) (hk0 : 0 ≤ k) (hk1 : k ≤ 1099511627776) :
    Calls Try.prog 24 #[.slice A n c, .int .i64 k] w fun e w' => e = .returned (.int .i64 (k + n * 4)) ∧ w = w' := by
  have H := Lib.hid h
  clear h
  go_enter Try.func24, Try.ntmps24
  go_wp2
  go_loop [1, 5] (fun kk i => ∃ t : Nat, t ≤ n ∧ i = .int .i64 t ∧ kk = .int .i64 (k + t * 4)) (fun _ i => n - (intOf i).toNat)
  case atStart => exact ⟨0, Nat.zero_le _, rfl, by simp⟩
  case round =>
    obtain ⟨t, ht, rfl, rfl⟩ := hrel
    by_cases hlt : t < n
    · obtain ⟨b, off, rfl, _, hc⟩ := H.out.2 (by omega)
      have q0 := hc _ _ (marks_at k (n * 4) (t * 4) (by omega))
      have q1 := hc _ _ (marks_at k (n * 4) (t * 4 + 1) (by omega))
      have q2 := hc _ _ (marks_at k (n * 4) (t * 4 + 2) (by omega))
      have q3 := hc _ _ (marks_at k (n * 4) (t * 4 + 3) (by omega))
      rw [← Nat.add_assoc] at q1 q2 q3
      rw [show k + ((t * 4 : Nat) : Int) = k + t * 4 from by omega] at q0
      rw [show k + ((t * 4 + 1 : Nat) : Int) = k + t * 4 + 1 from by omega] at q1
      rw [show k + ((t * 4 + 2 : Nat) : Int) = k + t * 4 + 1 + 1 from by omega] at q2
      rw [show k + ((t * 4 + 3 : Nat) : Int) = k + t * 4 + 1 + 1 + 1 from by omega] at q3
      clear hc
      go_wp2
      go_round
      case rel => exact ⟨t + 1, by omega, by go_num, by congr 1; omega⟩
      case measure => simp [intOf]; omega
    · obtain rfl : t = n := by omega
      go_wp2
      go_ret
      exact ⟨rfl, rfl⟩
end Go.Proofs.Ytjphclkpdgcciaa
