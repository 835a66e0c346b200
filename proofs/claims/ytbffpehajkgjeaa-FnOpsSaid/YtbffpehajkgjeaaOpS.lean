/- Contracts of the loops over slices (OpS) that the laws use: comparing equal slices, marking, reading the marks back, copying, and the size. -/
import Derived.Test.YtbffpehajkgjeaaOp
import Derived.Test.YtbffpehajkgjeaaOpenOp
namespace Go.Proofs.Ytbffpehajkgjeaa
open Go.RowKit

theorem ocells_len (x : Opt) : (ocells x).length = 8 := rfl
theorem info_OpE : (Try.prog.info? 56).map (fun i => (i.zero, i.size, i.bytes)) = some (some (.agg #[.int .i64 0, .int .i64 0, .int .i64 0, .int .i64 0, .int .i64 0, .int .i64 0, .int .i64 0, .int .i64 0]), 8, 64) := by kernel_rfl
set_option maxRecDepth 100000 in
set_option maxHeartbeats 1000000 in
theorem eqOpS_same (A A' : Option Addr) (n c c' : Nat) (l : List Opt) (w : World) (hl : l.length = n) (hn : n ≤ 1099511627776) (h1 : Rd w 8 A n (l.flatMap ocells)) (h2 : Rd w 8 A' n (l.flatMap ocells)) :
    Calls Try.prog 22 #[.slice A n c, .slice A' n c'] w fun e w' => e = .returned (.bool true) ∧ Below w.heap.size w w' ∧ w.heap.size ≤ w'.heap.size := by
  have H1 := Lib.hid h1
  have H2 := Lib.hid h2
  have HL := Lib.hid hl
  clear h1 h2 hl
  go_enter Try.func22, Try.ntmps22
  go_wp2
  go_loopw [5] (fun i wr => ∃ k : Nat, k ≤ n ∧ i = .int .i64 k ∧ Below w.heap.size w wr) (fun i _ => n - (intOf i).toNat)
  case atStart => exact ⟨0, Nat.zero_le _, rfl, Below.refl _ _⟩
  case round =>
    obtain ⟨k, hk, rfl, hb⟩ := hrel
    by_cases hlt : k < n
    · have hkl : k < l.length := by rw [HL.out]; exact hlt
      obtain ⟨g, hg⟩ : ∃ g, l[k]? = some g := ⟨_, List.getElem?_eq_getElem hkl⟩
      obtain ⟨b, off, rfl, _, hc⟩ := (H1.out.below hb).2 (by omega)
      obtain ⟨b', off', rfl, _, hc'⟩ := (H2.out.below hb).2 (by omega)
      have q0 := hc (k * 8 + 0) _ (flat_at ocells_len l k g 0 hg (by decide))
      have q0' := hc' (k * 8 + 0) _ (flat_at ocells_len l k g 0 hg (by decide))
      have q1 := hc (k * 8 + 1) _ (flat_at ocells_len l k g 1 hg (by decide))
      have q1' := hc' (k * 8 + 1) _ (flat_at ocells_len l k g 1 hg (by decide))
      have q2 := hc (k * 8 + 2) _ (flat_at ocells_len l k g 2 hg (by decide))
      have q2' := hc' (k * 8 + 2) _ (flat_at ocells_len l k g 2 hg (by decide))
      have q3 := hc (k * 8 + 3) _ (flat_at ocells_len l k g 3 hg (by decide))
      have q3' := hc' (k * 8 + 3) _ (flat_at ocells_len l k g 3 hg (by decide))
      have q4 := hc (k * 8 + 4) _ (flat_at ocells_len l k g 4 hg (by decide))
      have q4' := hc' (k * 8 + 4) _ (flat_at ocells_len l k g 4 hg (by decide))
      have q5 := hc (k * 8 + 5) _ (flat_at ocells_len l k g 5 hg (by decide))
      have q5' := hc' (k * 8 + 5) _ (flat_at ocells_len l k g 5 hg (by decide))
      have q6 := hc (k * 8 + 6) _ (flat_at ocells_len l k g 6 hg (by decide))
      have q6' := hc' (k * 8 + 6) _ (flat_at ocells_len l k g 6 hg (by decide))
      have q7 := hc (k * 8 + 7) _ (flat_at ocells_len l k g 7 hg (by decide))
      have q7' := hc' (k * 8 + 7) _ (flat_at ocells_len l k g 7 hg (by decide))
      rw [← Nat.add_assoc] at q1 q1' q2 q2' q3 q3' q4 q4' q5 q5' q6 q6' q7 q7'
      rw [Nat.add_zero] at q0 q0'
      clear hc hc' hg hkl
      go_wp2_with fail
      go_still_tail 8, (by kernel_rfl)
      change wpList _ _ _ _ _ wr.drew
      go_wp2_with (go_at_call 73; refine (eqOp_same _ _ _ _ _ _ _ _ _).mono ?_; rintro e w' ⟨rfl, hb', hs'⟩)
      go_roundw
      case rel => exact ⟨k + 1, by omega, by go_num, hb.drew.trans (hb'.mono hb.size)⟩
      case measure => simp [intOf]; omega
    · go_wp2_with fail
      go_ret
      exact ⟨rfl, hb, hb.size⟩
set_option maxRecDepth 100000 in
set_option maxHeartbeats 2000000 in
theorem markOpS_any (v : Value) (n base : Nat) (xs : List Value) (k : Int) (w : World) (hown : w.ownsRow base 56 8 v n xs) (hn : n ≤ 1099511627776) (hk0 : 0 ≤ k) (hk1 : k ≤ 1099511627776) :
    Calls Try.prog 23 #[v, .int .i64 k] w fun e w' => e = .returned (.int .i64 (k + n * 8)) ∧ w'.ownsRow base 56 8 v n (marks k (n * 8)) ∧ w.grownBy w' v.ownBlock := by
  rcases hown.2 with ⟨rfl, rfl⟩ | ⟨g, cap, cur, rfl, hb, hh, hc, hm, _, _⟩
  · clear hown
    go_enter Try.func23, Try.ntmps23
    go_wp2
    refine wp_loop_rounds 1 ?_
    rw [rounds_succ]
    go_wp2
    go_ret
    exact ⟨by simp, World.ownsRow_nil _ _ _ _, World.grownBy.refl _ _⟩
  · clear hh hb hc hm
    have hxl := hown.1
    go_enter Try.func23, Try.ntmps23
    go_wp2
    go_loopw [1, 5] (fun kk i wr => ∃ t : Nat, t ≤ n ∧ i = .int .i64 t ∧ kk = .int .i64 (k + t * 8) ∧ wr.ownsRow base 56 8 (.slice (some ⟨g, 0, none⟩) n cap) n (marks k (t * 8) ++ xs.drop (t * 8)) ∧ w.grownBy wr (some g)) (fun _ i _ => n - (intOf i).toNat)
    case atStart => exact ⟨0, Nat.zero_le _, rfl, by simp, by simpa [marks] using hown, World.grownBy.refl _ _⟩
    case round =>
      clear hown
      obtain ⟨t, ht, rfl, rfl, hown, hgr⟩ := hrel
      by_cases hlt : t < n
      · have hf := hown.frozenAt
        have hz := hown.cellAt
        have hll := hown.1
        obtain ⟨y0, z0⟩ : ∃ y, wr.cell? ⟨g, t * 8, none⟩ = some y := ⟨_, (hz _ (by omega)).trans (List.getElem?_eq_getElem (by omega))⟩
        obtain ⟨y1, z1⟩ : ∃ y, wr.cell? ⟨g, t * 8 + 1, none⟩ = some y := ⟨_, (hz _ (by omega)).trans (List.getElem?_eq_getElem (by omega))⟩
        obtain ⟨y2, z2⟩ : ∃ y, wr.cell? ⟨g, t * 8 + 2, none⟩ = some y := ⟨_, (hz _ (by omega)).trans (List.getElem?_eq_getElem (by omega))⟩
        obtain ⟨y3, z3⟩ : ∃ y, wr.cell? ⟨g, t * 8 + 3, none⟩ = some y := ⟨_, (hz _ (by omega)).trans (List.getElem?_eq_getElem (by omega))⟩
        obtain ⟨y4, z4⟩ : ∃ y, wr.cell? ⟨g, t * 8 + 4, none⟩ = some y := ⟨_, (hz _ (by omega)).trans (List.getElem?_eq_getElem (by omega))⟩
        obtain ⟨y5, z5⟩ : ∃ y, wr.cell? ⟨g, t * 8 + 5, none⟩ = some y := ⟨_, (hz _ (by omega)).trans (List.getElem?_eq_getElem (by omega))⟩
        obtain ⟨y6, z6⟩ : ∃ y, wr.cell? ⟨g, t * 8 + 6, none⟩ = some y := ⟨_, (hz _ (by omega)).trans (List.getElem?_eq_getElem (by omega))⟩
        obtain ⟨y7, z7⟩ : ∃ y, wr.cell? ⟨g, t * 8 + 7, none⟩ = some y := ⟨_, (hz _ (by omega)).trans (List.getElem?_eq_getElem (by omega))⟩
        have f0 := hf (t * 8)
        have f1 := hf (t * 8 + 1)
        have f2 := hf (t * 8 + 2)
        have f3 := hf (t * 8 + 3)
        have f4 := hf (t * 8 + 4)
        have f5 := hf (t * 8 + 5)
        have f6 := hf (t * 8 + 6)
        have f7 := hf (t * 8 + 7)
        have HX := Lib.hid hxl
        clear hf hz hll hxl
        go_wp2
        go_roundw
        case rel =>
          have s0 := hown.stored (t * 8) (.int .i64 (k + t * 8))
          have s1 := s0.1.stored (t * 8 + 1) (.int .i64 (k + t * 8 + 1))
          have s2 := s1.1.stored (t * 8 + 1 + 1) (.int .i64 (k + t * 8 + 1 + 1))
          have s3 := s2.1.stored (t * 8 + 1 + 1 + 1) (.int .i64 (k + t * 8 + 1 + 1 + 1))
          have s4 := s3.1.stored (t * 8 + 1 + 1 + 1 + 1) (.int .i64 (k + t * 8 + 1 + 1 + 1 + 1))
          have s5 := s4.1.stored (t * 8 + 1 + 1 + 1 + 1 + 1) (.int .i64 (k + t * 8 + 1 + 1 + 1 + 1 + 1))
          have s6 := s5.1.stored (t * 8 + 1 + 1 + 1 + 1 + 1 + 1) (.int .i64 (k + t * 8 + 1 + 1 + 1 + 1 + 1 + 1))
          have s7 := s6.1.stored (t * 8 + 1 + 1 + 1 + 1 + 1 + 1 + 1) (.int .i64 (k + t * 8 + 1 + 1 + 1 + 1 + 1 + 1 + 1))
          rw [mark_step (by congr 1) (by rw [HX.out]; omega), mark_step (by congr 1; omega) (by rw [HX.out]; omega), mark_step (by congr 1; omega) (by rw [HX.out]; omega), mark_step (by congr 1; omega) (by rw [HX.out]; omega), mark_step (by congr 1; omega) (by rw [HX.out]; omega), mark_step (by congr 1; omega) (by rw [HX.out]; omega), mark_step (by congr 1; omega) (by rw [HX.out]; omega), mark_step (by congr 1; omega) (by rw [HX.out]; omega)] at s7
          rw [show t * 8 + 1 + 1 + 1 + 1 + 1 + 1 + 1 + 1 = (t + 1) * 8 from by omega] at s7
          exact ⟨t + 1, by omega, by go_num, by congr 1; omega, s7.1, ((((((((hgr.trans s0.2).trans s1.2).trans s2.2).trans s3.2).trans s4.2).trans s5.2).trans s6.2).trans s7.2)⟩
        case measure => simp [intOf]; omega
      · obtain rfl : t = n := by omega
        go_wp2
        go_ret
        exact ⟨rfl, by rw [List.drop_of_length_le (by omega), List.append_nil] at hown; exact hown, hgr⟩
set_option maxRecDepth 100000 in
set_option maxHeartbeats 2000000 in
theorem heldOpS_any (A : Option Addr) (n c : Nat) (k : Int) (w : World) (h : Rd w 8 A n (marks k (n * 8))) (hn : n ≤ 1099511627776) (hk0 : 0 ≤ k) (hk1 : k ≤ 1099511627776) :
    Calls Try.prog 24 #[.slice A n c, .int .i64 k] w fun e w' => e = .returned (.int .i64 (k + n * 8)) ∧ w = w' := by
  have H := Lib.hid h
  clear h
  go_enter Try.func24, Try.ntmps24
  go_wp2
  go_loop [1, 5] (fun kk i => ∃ t : Nat, t ≤ n ∧ i = .int .i64 t ∧ kk = .int .i64 (k + t * 8)) (fun _ i => n - (intOf i).toNat)
  case atStart => exact ⟨0, Nat.zero_le _, rfl, by simp⟩
  case round =>
    obtain ⟨t, ht, rfl, rfl⟩ := hrel
    by_cases hlt : t < n
    · obtain ⟨b, off, rfl, _, hc⟩ := H.out.2 (by omega)
      have q0 := hc _ _ (marks_at k (n * 8) (t * 8) (by omega))
      have q1 := hc _ _ (marks_at k (n * 8) (t * 8 + 1) (by omega))
      have q2 := hc _ _ (marks_at k (n * 8) (t * 8 + 2) (by omega))
      have q3 := hc _ _ (marks_at k (n * 8) (t * 8 + 3) (by omega))
      have q4 := hc _ _ (marks_at k (n * 8) (t * 8 + 4) (by omega))
      have q5 := hc _ _ (marks_at k (n * 8) (t * 8 + 5) (by omega))
      have q6 := hc _ _ (marks_at k (n * 8) (t * 8 + 6) (by omega))
      have q7 := hc _ _ (marks_at k (n * 8) (t * 8 + 7) (by omega))
      rw [← Nat.add_assoc] at q1 q2 q3 q4 q5 q6 q7
      rw [show k + ((t * 8 : Nat) : Int) = k + t * 8 from by omega] at q0
      rw [show k + ((t * 8 + 1 : Nat) : Int) = k + t * 8 + 1 from by omega] at q1
      rw [show k + ((t * 8 + 2 : Nat) : Int) = k + t * 8 + 1 + 1 from by omega] at q2
      rw [show k + ((t * 8 + 3 : Nat) : Int) = k + t * 8 + 1 + 1 + 1 from by omega] at q3
      rw [show k + ((t * 8 + 4 : Nat) : Int) = k + t * 8 + 1 + 1 + 1 + 1 from by omega] at q4
      rw [show k + ((t * 8 + 5 : Nat) : Int) = k + t * 8 + 1 + 1 + 1 + 1 + 1 from by omega] at q5
      rw [show k + ((t * 8 + 6 : Nat) : Int) = k + t * 8 + 1 + 1 + 1 + 1 + 1 + 1 from by omega] at q6
      rw [show k + ((t * 8 + 7 : Nat) : Int) = k + t * 8 + 1 + 1 + 1 + 1 + 1 + 1 + 1 from by omega] at q7
      clear hc
      go_wp2
      go_round
      case rel => exact ⟨t + 1, by omega, by go_num, by congr 1; omega⟩
      case measure => simp [intOf]; omega
    · obtain rfl : t = n := by omega
      go_wp2
      go_ret
      exact ⟨rfl, rfl⟩
set_option maxRecDepth 100000 in
set_option maxHeartbeats 2000000 in
theorem toOpS_any (A : Option Addr) (n c : Nat) (l : List Opt) (w : World) (h : Rd w 8 A n (l.flatMap ocells)) (hl : l.length = n) (hn : n ≤ 1099511627776) :
    Calls Try.prog 20 #[.slice A n c] w (RetRow 56 8 w n (l.flatMap ocells)) := by
  obtain ⟨i0, hi, hz0, hz1, hz2⟩ := info_parts info_OpE
  obtain ⟨w1, hrun, hown, hgr0⟩ := run_make_full (P := Try.prog) w w.heap.size 27 56 i0 _ 8 Try.underlying27 hi hz0 hz1 .i64 .i64 n (by rw [hz2]; omega) (by simp only [maxLen]; omega) (Nat.le_refl _)
  have H := Lib.hid h
  have HL := Lib.hid hl
  clear h hl hi hz0 hz1 hz2
  have b1 : Below w.heap.size w w1 := (Below.refl _ _).grown hgr0 (Nat.le_refl _) (by simp)
  obtain ⟨zs, hzs⟩ : ∃ zs, zs = (madeCells (Value.agg #[.int .i64 0, .int .i64 0, .int .i64 0, .int .i64 0, .int .i64 0, .int .i64 0, .int .i64 0, .int .i64 0]).cells (n * 8)).toList := ⟨_, rfl⟩
  rw [← hzs] at hown
  have hzl := hown.1
  have HZ := Lib.hid hzl
  clear hzs hgr0 hzl
  go_enter Try.func20, Try.ntmps20
  go_wp2
  clear hrun
  go_loopw [4] (fun i wr => ∃ t : Nat, t ≤ n ∧ i = .int .i64 t ∧ wr.ownsRow w.heap.size 56 8 (.slice (some ⟨w.heap.size, 0, none⟩) n n) n ((l.take t).flatMap ocells ++ zs.drop (t * 8)) ∧ Below w.heap.size w wr) (fun i _ => n - (intOf i).toNat)
  case atStart => exact ⟨0, Nat.zero_le _, rfl, by simpa using hown, b1⟩
  case round =>
    clear hown b1
    obtain ⟨t, ht, rfl, hown, hb⟩ := hrel
    by_cases hlt : t < n
    · have htl : t < l.length := by rw [HL.out]; exact hlt
      obtain ⟨g, hg⟩ : ∃ g, l[t]? = some g := ⟨_, List.getElem?_eq_getElem htl⟩
      obtain ⟨b, off, rfl, hbl, hc⟩ := H.out.2 (by omega)
      have q0 : wr.cell? ⟨b, off + t * 8, none⟩ = some (.int .i64 g.k) := (hb.cell (by exact hbl)).trans (hc (t * 8 + 0) _ (flat_at ocells_len l t g 0 hg (by decide)))
      have q1 : wr.cell? ⟨b, off + t * 8 + 1, none⟩ = some (.int .i64 g.g.k) := (hb.cell (by exact hbl)).trans (by rw [Nat.add_assoc] ; exact hc (t * 8 + 1) _ (flat_at ocells_len l t g 1 hg (by decide)))
      have q2 : wr.cell? ⟨b, off + t * 8 + 2, none⟩ = some (.int .i64 g.g.a) := (hb.cell (by exact hbl)).trans (by rw [Nat.add_assoc] ; exact hc (t * 8 + 2) _ (flat_at ocells_len l t g 2 hg (by decide)))
      have q3 : wr.cell? ⟨b, off + t * 8 + 3, none⟩ = some (.int .i64 g.g.b) := (hb.cell (by exact hbl)).trans (by rw [Nat.add_assoc] ; exact hc (t * 8 + 3) _ (flat_at ocells_len l t g 3 hg (by decide)))
      have q4 : wr.cell? ⟨b, off + t * 8 + 4, none⟩ = some (.int .i64 g.g.c) := (hb.cell (by exact hbl)).trans (by rw [Nat.add_assoc] ; exact hc (t * 8 + 4) _ (flat_at ocells_len l t g 4 hg (by decide)))
      have q5 : wr.cell? ⟨b, off + t * 8 + 5, none⟩ = some (.int .i64 g.q) := (hb.cell (by exact hbl)).trans (by rw [Nat.add_assoc] ; exact hc (t * 8 + 5) _ (flat_at ocells_len l t g 5 hg (by decide)))
      have q6 : wr.cell? ⟨b, off + t * 8 + 6, none⟩ = some (.int .i64 g.bit) := (hb.cell (by exact hbl)).trans (by rw [Nat.add_assoc] ; exact hc (t * 8 + 6) _ (flat_at ocells_len l t g 6 hg (by decide)))
      have q7 : wr.cell? ⟨b, off + t * 8 + 7, none⟩ = some (.int .i64 g.cond) := (hb.cell (by exact hbl)).trans (by rw [Nat.add_assoc] ; exact hc (t * 8 + 7) _ (flat_at ocells_len l t g 7 hg (by decide)))
      have HG := Lib.hid hg
      have HC := Lib.hid htl
      clear hc hg htl
      go_wp2_with fail
      refine (toOp_any _ _ _ _ _ _ _ _ _).mono ?_
      rintro e w2 ⟨rfl, hb2, hs2⟩
      have hown2 := ownsRow_below hown hb2
      clear q0 q1 q2 q3 q4 q5 q6 q7 hown
      have hf := hown2.frozenAt
      have hz := hown2.cellAt
      have hll := hown2.1
      obtain ⟨y0, z0⟩ : ∃ y, w2.cell? ⟨w.heap.size, t * 8, none⟩ = some y := ⟨_, (hz _ (by omega)).trans (List.getElem?_eq_getElem (by omega))⟩
      obtain ⟨y1, z1⟩ : ∃ y, w2.cell? ⟨w.heap.size, t * 8 + 1, none⟩ = some y := ⟨_, (hz _ (by omega)).trans (List.getElem?_eq_getElem (by omega))⟩
      obtain ⟨y2, z2⟩ : ∃ y, w2.cell? ⟨w.heap.size, t * 8 + 2, none⟩ = some y := ⟨_, (hz _ (by omega)).trans (List.getElem?_eq_getElem (by omega))⟩
      obtain ⟨y3, z3⟩ : ∃ y, w2.cell? ⟨w.heap.size, t * 8 + 3, none⟩ = some y := ⟨_, (hz _ (by omega)).trans (List.getElem?_eq_getElem (by omega))⟩
      obtain ⟨y4, z4⟩ : ∃ y, w2.cell? ⟨w.heap.size, t * 8 + 4, none⟩ = some y := ⟨_, (hz _ (by omega)).trans (List.getElem?_eq_getElem (by omega))⟩
      obtain ⟨y5, z5⟩ : ∃ y, w2.cell? ⟨w.heap.size, t * 8 + 5, none⟩ = some y := ⟨_, (hz _ (by omega)).trans (List.getElem?_eq_getElem (by omega))⟩
      obtain ⟨y6, z6⟩ : ∃ y, w2.cell? ⟨w.heap.size, t * 8 + 6, none⟩ = some y := ⟨_, (hz _ (by omega)).trans (List.getElem?_eq_getElem (by omega))⟩
      obtain ⟨y7, z7⟩ : ∃ y, w2.cell? ⟨w.heap.size, t * 8 + 7, none⟩ = some y := ⟨_, (hz _ (by omega)).trans (List.getElem?_eq_getElem (by omega))⟩
      have f0 := hf (t * 8)
      have f1 := hf (t * 8 + 1)
      have f2 := hf (t * 8 + 2)
      have f3 := hf (t * 8 + 3)
      have f4 := hf (t * 8 + 4)
      have f5 := hf (t * 8 + 5)
      have f6 := hf (t * 8 + 6)
      have f7 := hf (t * 8 + 7)
      clear hf hz hll
      go_wp2
      go_roundw
      case rel =>
        have s0 := hown2.stored (t * 8) (.int .i64 g.k)
        have s1 := s0.1.stored (t * 8 + 1) (.int .i64 g.g.k)
        have s2 := s1.1.stored (t * 8 + 1 + 1) (.int .i64 g.g.a)
        have s3 := s2.1.stored (t * 8 + 1 + 1 + 1) (.int .i64 g.g.b)
        have s4 := s3.1.stored (t * 8 + 1 + 1 + 1 + 1) (.int .i64 g.g.c)
        have s5 := s4.1.stored (t * 8 + 1 + 1 + 1 + 1 + 1) (.int .i64 g.q)
        have s6 := s5.1.stored (t * 8 + 1 + 1 + 1 + 1 + 1 + 1) (.int .i64 g.bit)
        have s7 := s6.1.stored (t * 8 + 1 + 1 + 1 + 1 + 1 + 1 + 1) (.int .i64 g.cond)
        rw [fill_step (by simp [flat_length ocells 8 ocells_len, List.length_take, Nat.min_eq_left (Nat.le_of_lt HC.out)]) (by rw [HZ.out]; omega), fill_step (by simp [flat_length ocells 8 ocells_len, List.length_take, Nat.min_eq_left (Nat.le_of_lt HC.out)]) (by rw [HZ.out]; omega), fill_step (by simp [flat_length ocells 8 ocells_len, List.length_take, Nat.min_eq_left (Nat.le_of_lt HC.out)]) (by rw [HZ.out]; omega), fill_step (by simp [flat_length ocells 8 ocells_len, List.length_take, Nat.min_eq_left (Nat.le_of_lt HC.out)]) (by rw [HZ.out]; omega), fill_step (by simp [flat_length ocells 8 ocells_len, List.length_take, Nat.min_eq_left (Nat.le_of_lt HC.out)]) (by rw [HZ.out]; omega), fill_step (by simp [flat_length ocells 8 ocells_len, List.length_take, Nat.min_eq_left (Nat.le_of_lt HC.out)]) (by rw [HZ.out]; omega), fill_step (by simp [flat_length ocells 8 ocells_len, List.length_take, Nat.min_eq_left (Nat.le_of_lt HC.out)]) (by rw [HZ.out]; omega), fill_step (by simp [flat_length ocells 8 ocells_len, List.length_take, Nat.min_eq_left (Nat.le_of_lt HC.out)]) (by rw [HZ.out]; omega)] at s7
        rw [show t * 8 + 1 + 1 + 1 + 1 + 1 + 1 + 1 + 1 = (t + 1) * 8 from by omega] at s7
        refine ⟨t + 1, by omega, by go_num, ?_, (((((((((hb.trans (hb2.mono hb.size)).grown s0.2 (by have := hb.size; have := hb2.size; omega) (by simp)).grown s1.2 (by have := hb.size; have := hb2.size; simp; omega) (by simp)).grown s2.2 (by have := hb.size; have := hb2.size; simp; omega) (by simp)).grown s3.2 (by have := hb.size; have := hb2.size; simp; omega) (by simp)).grown s4.2 (by have := hb.size; have := hb2.size; simp; omega) (by simp)).grown s5.2 (by have := hb.size; have := hb2.size; simp; omega) (by simp)).grown s6.2 (by have := hb.size; have := hb2.size; simp; omega) (by simp)).grown s7.2 (by have := hb.size; have := hb2.size; simp; omega) (by simp))⟩
        rw [List.take_add_one, HG.out, List.flatMap_append]
        simpa [ocells] using s7.1
      case measure => simp [intOf]; omega
    · obtain rfl : t = n := by omega
      go_wp2
      go_ret
      exact ⟨_, rfl, by rw [List.drop_of_length_le (by rw [HZ.out]; exact Nat.le_refl _), List.append_nil, List.take_of_length_le (by rw [HL.out]; exact Nat.le_refl _)] at hown; exact hown, hb, hb.size⟩
set_option maxRecDepth 100000 in
theorem szOpS_any (A : Option Addr) (n c : Nat) (left : Int) (w : World) (hn : n ≤ 9223372036854775807) (h0 : 0 ≤ left) (h1 : left ≤ 1099511627776) :
    Calls Try.prog 18 #[.slice A n c, .int .i64 left] w fun e w' => e = .returned (.int .i64 (if left - n < 0 then -1 else left - n)) ∧ w = w' := by
  by_cases hl : left - n < 0
  · rw [if_pos hl]
    go_enter Try.func18, Try.ntmps18
    go_wp2
    go_ret
    exact ⟨rfl, rfl⟩
  · rw [if_neg hl]
    go_enter Try.func18, Try.ntmps18
    go_wp2
    go_ret
    exact ⟨rfl, rfl⟩
end Go.Proofs.Ytbffpehajkgjeaa
