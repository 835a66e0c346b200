/- Contracts of the loops over slices (GateS) that the laws use: comparing equal slices, marking, reading the marks back, copying, and the size. -/
import Derived.Test.YtjphclkpdgcciaaGate
import Derived.Test.YtjphclkpdgcciaaOpen
namespace Go.Proofs.Ytjphclkpdgcciaa
open Go.RowKit

theorem gcells_len (x : Gt) : (gcells x).length = 4 := rfl
theorem info_GateE : (Try.prog.info? 28).map (fun i => (i.zero, i.size, i.bytes)) = some (some (.agg #[.int .i64 0, .int .i64 0, .int .i64 0, .int .i64 0]), 4, 32) := by kernel_rfl
set_option maxHeartbeats 1000000 in
theorem eqGateS_same (A A' : Option Addr) (n c c' : Nat) (l : List Gt) (w : World) (hl : l.length = n) (hn : n ≤ 1099511627776) (h1 : Rd w 4 A n (l.flatMap gcells)) (h2 : Rd w 4 A' n (l.flatMap gcells)) :
    Calls Try.prog 22 #[.slice A n c, .slice A' n c'] w fun e w' => e = .returned (.bool true) ∧ Below w.heap.size w w' ∧ w.heap.size ≤ w'.heap.size := by
  have H1 := Lib.hid h1
  have H2 := Lib.hid h2
  have HL := Lib.hid hl
  clear h1 h2 hl
  go_enter Try.func22, Try.ntmps22
  go_wp2
  go_loopw [5] (fun i wr => ∃ k : Nat, k ≤ n ∧ i = .int .i64 k ∧ Below w.heap.size w wr) (fun i _ => n - (intOf i).toNat)
  case atStart => exact ⟨0, Nat.zero_le _, rfl, Below.refl _ _⟩
  case round =>
    obtain ⟨k, hk, rfl, hb⟩ := hrel
    by_cases hlt : k < n
    · have hkl : k < l.length := by rw [HL.out]; exact hlt
      obtain ⟨g, hg⟩ : ∃ g, l[k]? = some g := ⟨_, List.getElem?_eq_getElem hkl⟩
      obtain ⟨b, off, rfl, _, hc⟩ := (H1.out.below hb).2 (by omega)
      obtain ⟨b', off', rfl, _, hc'⟩ := (H2.out.below hb).2 (by omega)
      have q0 := hc (k * 4 + 0) _ (flat_at gcells_len l k g 0 hg (by decide))
      have q0' := hc' (k * 4 + 0) _ (flat_at gcells_len l k g 0 hg (by decide))
      have q1 := hc (k * 4 + 1) _ (flat_at gcells_len l k g 1 hg (by decide))
      have q1' := hc' (k * 4 + 1) _ (flat_at gcells_len l k g 1 hg (by decide))
      have q2 := hc (k * 4 + 2) _ (flat_at gcells_len l k g 2 hg (by decide))
      have q2' := hc' (k * 4 + 2) _ (flat_at gcells_len l k g 2 hg (by decide))
      have q3 := hc (k * 4 + 3) _ (flat_at gcells_len l k g 3 hg (by decide))
      have q3' := hc' (k * 4 + 3) _ (flat_at gcells_len l k g 3 hg (by decide))
      rw [← Nat.add_assoc] at q1 q1' q2 q2' q3 q3'
      rw [Nat.add_zero] at q0 q0'
      clear hc hc' hg hkl
      go_wp2_with fail
      go_still_tail 8, (by kernel_rfl)
      change wpList _ _ _ _ _ wr.drew
      go_wp2_with (go_at_call 60; refine (eqGate_same _ _ _ _ _).mono ?_; rintro e w' ⟨rfl, hb', hs'⟩)
      go_roundw
      case rel => exact ⟨k + 1, by omega, by go_num, hb.drew.trans (hb'.mono hb.size)⟩
      case measure => simp [intOf]; omega
    · go_wp2_with fail
      go_ret
      exact ⟨rfl, hb, hb.size⟩
set_option maxRecDepth 100000 in
set_option maxHeartbeats 2000000 in
theorem markGateS_any (v : Value) (n base : Nat) (xs : List Value) (k : Int) (w : World) (hown : w.ownsRow base 28 4 v n xs) (hn : n ≤ 1099511627776) (hk0 : 0 ≤ k) (hk1 : k ≤ 1099511627776) :
    Calls Try.prog 23 #[v, .int .i64 k] w fun e w' => e = .returned (.int .i64 (k + n * 4)) ∧ w'.ownsRow base 28 4 v n (marks k (n * 4)) ∧ w.grownBy w' v.ownBlock := by
  rcases hown.2 with ⟨rfl, rfl⟩ | ⟨g, cap, cur, rfl, hb, hh, hc, hm, _, _⟩
  · clear hown
    go_enter Try.func23, Try.ntmps23
    go_wp2
    refine wp_loop_rounds 1 ?_
    rw [rounds_succ]
    go_wp2
    go_ret
    exact ⟨by simp, World.ownsRow_nil _ _ _ _, World.grownBy.refl _ _⟩
  · clear hh hb hc hm
    have hxl := hown.1
    go_enter Try.func23, Try.ntmps23
    go_wp2
    go_loopw [1, 5] (fun kk i wr => ∃ t : Nat, t ≤ n ∧ i = .int .i64 t ∧ kk = .int .i64 (k + t * 4) ∧ wr.ownsRow base 28 4 (.slice (some ⟨g, 0, none⟩) n cap) n (marks k (t * 4) ++ xs.drop (t * 4)) ∧ w.grownBy wr (some g)) (fun _ i _ => n - (intOf i).toNat)
    case atStart => exact ⟨0, Nat.zero_le _, rfl, by simp, by simpa [marks] using hown, World.grownBy.refl _ _⟩
    case round =>
      clear hown
      obtain ⟨t, ht, rfl, rfl, hown, hgr⟩ := hrel
      by_cases hlt : t < n
      · have hf := hown.frozenAt
        have hz := hown.cellAt
        have hll := hown.1
        obtain ⟨y0, z0⟩ : ∃ y, wr.cell? ⟨g, t * 4, none⟩ = some y := ⟨_, (hz _ (by omega)).trans (List.getElem?_eq_getElem (by omega))⟩
        obtain ⟨y1, z1⟩ : ∃ y, wr.cell? ⟨g, t * 4 + 1, none⟩ = some y := ⟨_, (hz _ (by omega)).trans (List.getElem?_eq_getElem (by omega))⟩
        obtain ⟨y2, z2⟩ : ∃ y, wr.cell? ⟨g, t * 4 + 2, none⟩ = some y := ⟨_, (hz _ (by omega)).trans (List.getElem?_eq_getElem (by omega))⟩
        obtain ⟨y3, z3⟩ : ∃ y, wr.cell? ⟨g, t * 4 + 3, none⟩ = some y := ⟨_, (hz _ (by omega)).trans (List.getElem?_eq_getElem (by omega))⟩
        have f0 := hf (t * 4)
        have f1 := hf (t * 4 + 1)
        have f2 := hf (t * 4 + 2)
        have f3 := hf (t * 4 + 3)
        have HX := Lib.hid hxl
        clear hf hz hll hxl
        go_wp2
        go_roundw
        case rel =>
          have s0 := hown.stored (t * 4) (.int .i64 (k + t * 4))
          have s1 := s0.1.stored (t * 4 + 1) (.int .i64 (k + t * 4 + 1))
          have s2 := s1.1.stored (t * 4 + 1 + 1) (.int .i64 (k + t * 4 + 1 + 1))
          have s3 := s2.1.stored (t * 4 + 1 + 1 + 1) (.int .i64 (k + t * 4 + 1 + 1 + 1))
          rw [mark_step (by congr 1) (by rw [HX.out]; omega), mark_step (by congr 1; omega) (by rw [HX.out]; omega), mark_step (by congr 1; omega) (by rw [HX.out]; omega), mark_step (by congr 1; omega) (by rw [HX.out]; omega)] at s3
          rw [show t * 4 + 1 + 1 + 1 + 1 = (t + 1) * 4 from by omega] at s3
          exact ⟨t + 1, by omega, by go_num, by congr 1; omega, s3.1, ((((hgr.trans s0.2).trans s1.2).trans s2.2).trans s3.2)⟩
        case measure => simp [intOf]; omega
      · obtain rfl : t = n := by omega
        go_wp2
        go_ret
        exact ⟨rfl, by rw [List.drop_of_length_le (by omega), List.append_nil] at hown; exact hown, hgr⟩
set_option maxRecDepth 100000 in
set_option maxHeartbeats 2000000 in
theorem heldGateS_any (A : Option Addr) (n c : Nat) (k : Int) (w : World) (h : Rd w 4 A n (marks k (n * 4))) (hn : n ≤ 1099511627776) (hk0 : 0 ≤ k) (hk1 : k ≤ 1099511627776) :
    Calls Try.prog 24 #[.slice A n c, .int .i64 k] w fun e w' => e = .returned (.int .i64 (k + n * 4)) ∧ w = w' := by
  have H := Lib.hid h
  clear h
  go_enter Try.func24, Try.ntmps24
  go_wp2
  go_loop [1, 5] (fun kk i => ∃ t : Nat, t ≤ n ∧ i = .int .i64 t ∧ kk = .int .i64 (k + t * 4)) (fun _ i => n - (intOf i).toNat)
  case atStart => exact ⟨0, Nat.zero_le _, rfl, by simp⟩
  case round =>
    obtain ⟨t, ht, rfl, rfl⟩ := hrel
    by_cases hlt : t < n
    · obtain ⟨b, off, rfl, _, hc⟩ := H.out.2 (by omega)
      have q0 := hc _ _ (marks_at k (n * 4) (t * 4) (by omega))
      have q1 := hc _ _ (marks_at k (n * 4) (t * 4 + 1) (by omega))
      have q2 := hc _ _ (marks_at k (n * 4) (t * 4 + 2) (by omega))
      have q3 := hc _ _ (marks_at k (n * 4) (t * 4 + 3) (by omega))
      rw [← Nat.add_assoc] at q1 q2 q3
      rw [show k + ((t * 4 : Nat) : Int) = k + t * 4 from by omega] at q0
      rw [show k + ((t * 4 + 1 : Nat) : Int) = k + t * 4 + 1 from by omega] at q1
      rw [show k + ((t * 4 + 2 : Nat) : Int) = k + t * 4 + 1 + 1 from by omega] at q2
      rw [show k + ((t * 4 + 3 : Nat) : Int) = k + t * 4 + 1 + 1 + 1 from by omega] at q3
      clear hc
      go_wp2
      go_round
      case rel => exact ⟨t + 1, by omega, by go_num, by congr 1; omega⟩
      case measure => simp [intOf]; omega
    · obtain rfl : t = n := by omega
      go_wp2
      go_ret
      exact ⟨rfl, rfl⟩
set_option maxRecDepth 100000 in
set_option maxHeartbeats 2000000 in
theorem toGateS_any (A : Option Addr) (n c : Nat) (l : List Gt) (w : World) (h : Rd w 4 A n (l.flatMap gcells)) (hl : l.length = n) (hn : n ≤ 1099511627776) :
    Calls Try.prog 35 #[.slice A n c] w (RetRow 28 4 w n (l.flatMap gcells)) := by
  obtain ⟨i0, hi, hz0, hz1, hz2⟩ := info_parts info_GateE
  obtain ⟨w1, hrun, hown, hgr0⟩ := run_make_full (P := Try.prog) w w.heap.size 26 28 i0 _ 4 Try.underlying26 hi hz0 hz1 .i64 .i64 n (by rw [hz2]; omega) (by simp only [maxLen]; omega) (Nat.le_refl _)
  have H := Lib.hid h
  have HL := Lib.hid hl
  clear h hl hi hz0 hz1 hz2
  have b1 : Below w.heap.size w w1 := (Below.refl _ _).grown hgr0 (Nat.le_refl _) (by simp)
  obtain ⟨zs, hzs⟩ : ∃ zs, zs = (madeCells (Value.agg #[.int .i64 0, .int .i64 0, .int .i64 0, .int .i64 0]).cells (n * 4)).toList := ⟨_, rfl⟩
  rw [← hzs] at hown
  have hzl := hown.1
  have HZ := Lib.hid hzl
  clear hzs hgr0 hzl
  go_enter Try.func35, Try.ntmps35
  go_wp2
  clear hrun
  go_loopw [4] (fun i wr => ∃ t : Nat, t ≤ n ∧ i = .int .i64 t ∧ wr.ownsRow w.heap.size 28 4 (.slice (some ⟨w.heap.size, 0, none⟩) n n) n ((l.take t).flatMap gcells ++ zs.drop (t * 4)) ∧ Below w.heap.size w wr) (fun i _ => n - (intOf i).toNat)
  case atStart => exact ⟨0, Nat.zero_le _, rfl, by simpa using hown, b1⟩
  case round =>
    clear hown b1
    obtain ⟨t, ht, rfl, hown, hb⟩ := hrel
    by_cases hlt : t < n
    · have htl : t < l.length := by rw [HL.out]; exact hlt
      obtain ⟨g, hg⟩ : ∃ g, l[t]? = some g := ⟨_, List.getElem?_eq_getElem htl⟩
      obtain ⟨b, off, rfl, hbl, hc⟩ := H.out.2 (by omega)
      have q0 : wr.cell? ⟨b, off + t * 4, none⟩ = some (.int .i64 g.k) := (hb.cell (by exact hbl)).trans (hc (t * 4 + 0) _ (flat_at gcells_len l t g 0 hg (by decide)))
      have q1 : wr.cell? ⟨b, off + t * 4 + 1, none⟩ = some (.int .i64 g.a) := (hb.cell (by exact hbl)).trans (by rw [Nat.add_assoc] ; exact hc (t * 4 + 1) _ (flat_at gcells_len l t g 1 hg (by decide)))
      have q2 : wr.cell? ⟨b, off + t * 4 + 2, none⟩ = some (.int .i64 g.b) := (hb.cell (by exact hbl)).trans (by rw [Nat.add_assoc] ; exact hc (t * 4 + 2) _ (flat_at gcells_len l t g 2 hg (by decide)))
      have q3 : wr.cell? ⟨b, off + t * 4 + 3, none⟩ = some (.int .i64 g.c) := (hb.cell (by exact hbl)).trans (by rw [Nat.add_assoc] ; exact hc (t * 4 + 3) _ (flat_at gcells_len l t g 3 hg (by decide)))
      have HG := Lib.hid hg
      have HC := Lib.hid htl
      clear hc hg htl
      go_wp2_with fail
      refine (toGate_any _ _ _ _ _).mono ?_
      rintro e w2 ⟨rfl, hb2, hs2⟩
      have hown2 := ownsRow_below hown hb2
      clear q0 q1 q2 q3 hown
      have hf := hown2.frozenAt
      have hz := hown2.cellAt
      have hll := hown2.1
      obtain ⟨y0, z0⟩ : ∃ y, w2.cell? ⟨w.heap.size, t * 4, none⟩ = some y := ⟨_, (hz _ (by omega)).trans (List.getElem?_eq_getElem (by omega))⟩
      obtain ⟨y1, z1⟩ : ∃ y, w2.cell? ⟨w.heap.size, t * 4 + 1, none⟩ = some y := ⟨_, (hz _ (by omega)).trans (List.getElem?_eq_getElem (by omega))⟩
      obtain ⟨y2, z2⟩ : ∃ y, w2.cell? ⟨w.heap.size, t * 4 + 2, none⟩ = some y := ⟨_, (hz _ (by omega)).trans (List.getElem?_eq_getElem (by omega))⟩
      obtain ⟨y3, z3⟩ : ∃ y, w2.cell? ⟨w.heap.size, t * 4 + 3, none⟩ = some y := ⟨_, (hz _ (by omega)).trans (List.getElem?_eq_getElem (by omega))⟩
      have f0 := hf (t * 4)
      have f1 := hf (t * 4 + 1)
      have f2 := hf (t * 4 + 2)
      have f3 := hf (t * 4 + 3)
      clear hf hz hll
      go_wp2
      go_roundw
      case rel =>
        have s0 := hown2.stored (t * 4) (.int .i64 g.k)
        have s1 := s0.1.stored (t * 4 + 1) (.int .i64 g.a)
        have s2 := s1.1.stored (t * 4 + 1 + 1) (.int .i64 g.b)
        have s3 := s2.1.stored (t * 4 + 1 + 1 + 1) (.int .i64 g.c)
        rw [fill_step (by simp [flat_length gcells 4 gcells_len, List.length_take, Nat.min_eq_left (Nat.le_of_lt HC.out)]) (by rw [HZ.out]; omega), fill_step (by simp [flat_length gcells 4 gcells_len, List.length_take, Nat.min_eq_left (Nat.le_of_lt HC.out)]) (by rw [HZ.out]; omega), fill_step (by simp [flat_length gcells 4 gcells_len, List.length_take, Nat.min_eq_left (Nat.le_of_lt HC.out)]) (by rw [HZ.out]; omega), fill_step (by simp [flat_length gcells 4 gcells_len, List.length_take, Nat.min_eq_left (Nat.le_of_lt HC.out)]) (by rw [HZ.out]; omega)] at s3
        rw [show t * 4 + 1 + 1 + 1 + 1 = (t + 1) * 4 from by omega] at s3
        refine ⟨t + 1, by omega, by go_num, ?_, (((((hb.trans (hb2.mono hb.size)).grown s0.2 (by have := hb.size; have := hb2.size; omega) (by simp)).grown s1.2 (by have := hb.size; have := hb2.size; simp; omega) (by simp)).grown s2.2 (by have := hb.size; have := hb2.size; simp; omega) (by simp)).grown s3.2 (by have := hb.size; have := hb2.size; simp; omega) (by simp))⟩
        rw [List.take_add_one, HG.out, List.flatMap_append]
        simpa [gcells] using s3.1
      case measure => simp [intOf]; omega
    · obtain rfl : t = n := by omega
      go_wp2
      go_ret
      exact ⟨_, rfl, by rw [List.drop_of_length_le (by rw [HZ.out]; exact Nat.le_refl _), List.append_nil, List.take_of_length_le (by rw [HL.out]; exact Nat.le_refl _)] at hown; exact hown, hb, hb.size⟩
theorem szGateS_any (A : Option Addr) (n c : Nat) (left : Int) (w : World) (hn : n ≤ 9223372036854775807) (h0 : 0 ≤ left) (h1 : left ≤ 1099511627776) :
    Calls Try.prog 33 #[.slice A n c, .int .i64 left] w fun e w' => e = .returned (.int .i64 (if left - n < 0 then -1 else left - n)) ∧ w = w' := by
  by_cases hl : left - n < 0
  · rw [if_pos hl]
    go_enter Try.func33, Try.ntmps33
    go_wp2
    go_ret
    exact ⟨rfl, rfl⟩
  · rw [if_neg hl]
    go_enter Try.func33, Try.ntmps33
    go_wp2
    go_ret
    exact ⟨rfl, rfl⟩
end Go.Proofs.Ytjphclkpdgcciaa
