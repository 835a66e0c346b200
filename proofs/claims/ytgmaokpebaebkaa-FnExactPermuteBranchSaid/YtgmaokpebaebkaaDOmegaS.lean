/- Contracts of the loops over slices (DOmegaS) that the laws use: comparing equal slices, marking, reading the marks back, copying, and the size. -/
import Derived.Test.YtgmaokpebaebkaaDm
import Derived.Test.YtgmaokpebaebkaaOpen
namespace Go.Proofs.Ytgmaokpebaebkaa
open Go.RowKit

theorem dcells_len (x : Dm) : (dcells x).length = 5 := rfl
theorem info_DOmegaE : (Try.prog.info? 67).map (fun i => (i.zero, i.size, i.bytes)) = some (some (.agg #[.int .i64 0, .int .i64 0, .int .i64 0, .int .i64 0, .int .i64 0]), 5, 40) := by kernel_rfl
set_option maxRecDepth 100000 in
set_option maxHeartbeats 1000000 in
theorem eqDOmegaS_same (A A' : Option Addr) (n c c' : Nat) (l : List Dm) (w : World) (hl : l.length = n) (hn : n ≤ 1099511627776) (h1 : Rd w 5 A n (l.flatMap dcells)) (h2 : Rd w 5 A' n (l.flatMap dcells)) :
    Calls Try.prog 54 #[.slice A n c, .slice A' n c'] w fun e w' => e = .returned (.bool true) ∧ Below w.heap.size w w' ∧ w.heap.size ≤ w'.heap.size := by
  have H1 := Lib.hid h1
  have H2 := Lib.hid h2
  have HL := Lib.hid hl
  clear h1 h2 hl
  go_enter Try.func54, Try.ntmps54
  go_wp2
  go_loopw [5] (fun i wr => ∃ k : Nat, k ≤ n ∧ i = .int .i64 k ∧ Below w.heap.size w wr) (fun i _ => n - (intOf i).toNat)
  case atStart => exact ⟨0, Nat.zero_le _, rfl, Below.refl _ _⟩
  case round =>
    obtain ⟨k, hk, rfl, hb⟩ := hrel
    by_cases hlt : k < n
    · have hkl : k < l.length := by rw [HL.out]; exact hlt
      obtain ⟨g, hg⟩ : ∃ g, l[k]? = some g := ⟨_, List.getElem?_eq_getElem hkl⟩
      obtain ⟨b, off, rfl, _, hc⟩ := (H1.out.below hb).2 (by omega)
      obtain ⟨b', off', rfl, _, hc'⟩ := (H2.out.below hb).2 (by omega)
      have q0 := hc (k * 5 + 0) _ (flat_at dcells_len l k g 0 hg (by decide))
      have q0' := hc' (k * 5 + 0) _ (flat_at dcells_len l k g 0 hg (by decide))
      have q1 := hc (k * 5 + 1) _ (flat_at dcells_len l k g 1 hg (by decide))
      have q1' := hc' (k * 5 + 1) _ (flat_at dcells_len l k g 1 hg (by decide))
      have q2 := hc (k * 5 + 2) _ (flat_at dcells_len l k g 2 hg (by decide))
      have q2' := hc' (k * 5 + 2) _ (flat_at dcells_len l k g 2 hg (by decide))
      have q3 := hc (k * 5 + 3) _ (flat_at dcells_len l k g 3 hg (by decide))
      have q3' := hc' (k * 5 + 3) _ (flat_at dcells_len l k g 3 hg (by decide))
      have q4 := hc (k * 5 + 4) _ (flat_at dcells_len l k g 4 hg (by decide))
      have q4' := hc' (k * 5 + 4) _ (flat_at dcells_len l k g 4 hg (by decide))
      rw [← Nat.add_assoc] at q1 q1' q2 q2' q3 q3' q4 q4'
      rw [Nat.add_zero] at q0 q0'
      clear hc hc' hg hkl
      go_wp2_with fail
      go_still_tail 8, (by kernel_rfl)
      change wpList _ _ _ _ _ wr.drew
      go_wp2_with (go_at_call 58; refine (eqDOmega_same _ _ _ _ _ _).mono ?_; rintro e w' ⟨rfl, hb', hs'⟩)
      go_roundw
      case rel => exact ⟨k + 1, by omega, by go_num, hb.drew.trans (hb'.mono hb.size)⟩
      case measure => simp [intOf]; omega
    · go_wp2_with fail
      go_ret
      exact ⟨rfl, hb, hb.size⟩
set_option maxRecDepth 100000 in
set_option maxHeartbeats 2000000 in
theorem markDOmegaS_any (v : Value) (n base : Nat) (xs : List Value) (k : Int) (w : World) (hown : w.ownsRow base 67 5 v n xs) (hn : n ≤ 1099511627776) (hk0 : 0 ≤ k) (hk1 : k ≤ 1099511627776) :
    Calls Try.prog 55 #[v, .int .i64 k] w fun e w' => e = .returned (.int .i64 (k + n * 5)) ∧ w'.ownsRow base 67 5 v n (marks k (n * 5)) ∧ w.grownBy w' v.ownBlock := by
  rcases hown.2 with ⟨rfl, rfl⟩ | ⟨g, cap, cur, rfl, hb, hh, hc, hm, _, _⟩
  · clear hown
    go_enter Try.func55, Try.ntmps55
    go_wp2
    refine wp_loop_rounds 1 ?_
    rw [rounds_succ]
    go_wp2
    go_ret
    exact ⟨by simp, World.ownsRow_nil _ _ _ _, World.grownBy.refl _ _⟩
  · clear hh hb hc hm
    have hxl := hown.1
    go_enter Try.func55, Try.ntmps55
    go_wp2
    go_loopw [1, 5] (fun kk i wr => ∃ t : Nat, t ≤ n ∧ i = .int .i64 t ∧ kk = .int .i64 (k + t * 5) ∧ wr.ownsRow base 67 5 (.slice (some ⟨g, 0, none⟩) n cap) n (marks k (t * 5) ++ xs.drop (t * 5)) ∧ w.grownBy wr (some g)) (fun _ i _ => n - (intOf i).toNat)
    case atStart => exact ⟨0, Nat.zero_le _, rfl, by simp, by simpa [marks] using hown, World.grownBy.refl _ _⟩
    case round =>
      clear hown
      obtain ⟨t, ht, rfl, rfl, hown, hgr⟩ := hrel
      by_cases hlt : t < n
      · have hf := hown.frozenAt
        have hz := hown.cellAt
        have hll := hown.1
        obtain ⟨y0, z0⟩ : ∃ y, wr.cell? ⟨g, t * 5, none⟩ = some y := ⟨_, (hz _ (by omega)).trans (List.getElem?_eq_getElem (by omega))⟩
        obtain ⟨y1, z1⟩ : ∃ y, wr.cell? ⟨g, t * 5 + 1, none⟩ = some y := ⟨_, (hz _ (by omega)).trans (List.getElem?_eq_getElem (by omega))⟩
        obtain ⟨y2, z2⟩ : ∃ y, wr.cell? ⟨g, t * 5 + 2, none⟩ = some y := ⟨_, (hz _ (by omega)).trans (List.getElem?_eq_getElem (by omega))⟩
        obtain ⟨y3, z3⟩ : ∃ y, wr.cell? ⟨g, t * 5 + 3, none⟩ = some y := ⟨_, (hz _ (by omega)).trans (List.getElem?_eq_getElem (by omega))⟩
        obtain ⟨y4, z4⟩ : ∃ y, wr.cell? ⟨g, t * 5 + 4, none⟩ = some y := ⟨_, (hz _ (by omega)).trans (List.getElem?_eq_getElem (by omega))⟩
        have f0 := hf (t * 5)
        have f1 := hf (t * 5 + 1)
        have f2 := hf (t * 5 + 2)
        have f3 := hf (t * 5 + 3)
        have f4 := hf (t * 5 + 4)
        have HX := Lib.hid hxl
        clear hf hz hll hxl
        go_wp2
        go_roundw
        case rel =>
          have s0 := hown.stored (t * 5) (.int .i64 (k + t * 5))
          have s1 := s0.1.stored (t * 5 + 1) (.int .i64 (k + t * 5 + 1))
          have s2 := s1.1.stored (t * 5 + 1 + 1) (.int .i64 (k + t * 5 + 1 + 1))
          have s3 := s2.1.stored (t * 5 + 1 + 1 + 1) (.int .i64 (k + t * 5 + 1 + 1 + 1))
          have s4 := s3.1.stored (t * 5 + 1 + 1 + 1 + 1) (.int .i64 (k + t * 5 + 1 + 1 + 1 + 1))
          rw [mark_step (by congr 1) (by rw [HX.out]; omega), mark_step (by congr 1; omega) (by rw [HX.out]; omega), mark_step (by congr 1; omega) (by rw [HX.out]; omega), mark_step (by congr 1; omega) (by rw [HX.out]; omega), mark_step (by congr 1; omega) (by rw [HX.out]; omega)] at s4
          rw [show t * 5 + 1 + 1 + 1 + 1 + 1 = (t + 1) * 5 from by omega] at s4
          exact ⟨t + 1, by omega, by go_num, by congr 1; omega, s4.1, (((((hgr.trans s0.2).trans s1.2).trans s2.2).trans s3.2).trans s4.2)⟩
        case measure => simp [intOf]; omega
      · obtain rfl : t = n := by omega
        go_wp2
        go_ret
        exact ⟨rfl, by rw [List.drop_of_length_le (by omega), List.append_nil] at hown; exact hown, hgr⟩
set_option maxRecDepth 100000 in
set_option maxHeartbeats 2000000 in
theorem heldDOmegaS_any (A : Option Addr) (n c : Nat) (k : Int) (w : World) (h : Rd w 5 A n (marks k (n * 5))) (hn : n ≤ 1099511627776) (hk0 : 0 ≤ k) (hk1 : k ≤ 1099511627776) :
    Calls Try.prog 56 #[.slice A n c, .int .i64 k] w fun e w' => e = .returned (.int .i64 (k + n * 5)) ∧ w = w' := by
  have H := Lib.hid h
  clear h
  go_enter Try.func56, Try.ntmps56
  go_wp2
  go_loop [1, 5] (fun kk i => ∃ t : Nat, t ≤ n ∧ i = .int .i64 t ∧ kk = .int .i64 (k + t * 5)) (fun _ i => n - (intOf i).toNat)
  case atStart => exact ⟨0, Nat.zero_le _, rfl, by simp⟩
  case round =>
    obtain ⟨t, ht, rfl, rfl⟩ := hrel
    by_cases hlt : t < n
    · obtain ⟨b, off, rfl, _, hc⟩ := H.out.2 (by omega)
      have q0 := hc _ _ (marks_at k (n * 5) (t * 5) (by omega))
      have q1 := hc _ _ (marks_at k (n * 5) (t * 5 + 1) (by omega))
      have q2 := hc _ _ (marks_at k (n * 5) (t * 5 + 2) (by omega))
      have q3 := hc _ _ (marks_at k (n * 5) (t * 5 + 3) (by omega))
      have q4 := hc _ _ (marks_at k (n * 5) (t * 5 + 4) (by omega))
      rw [← Nat.add_assoc] at q1 q2 q3 q4
      rw [show k + ((t * 5 : Nat) : Int) = k + t * 5 from by omega] at q0
      rw [show k + ((t * 5 + 1 : Nat) : Int) = k + t * 5 + 1 from by omega] at q1
      rw [show k + ((t * 5 + 2 : Nat) : Int) = k + t * 5 + 1 + 1 from by omega] at q2
      rw [show k + ((t * 5 + 3 : Nat) : Int) = k + t * 5 + 1 + 1 + 1 from by omega] at q3
      rw [show k + ((t * 5 + 4 : Nat) : Int) = k + t * 5 + 1 + 1 + 1 + 1 from by omega] at q4
      clear hc
      go_wp2
      go_round
      case rel => exact ⟨t + 1, by omega, by go_num, by congr 1; omega⟩
      case measure => simp [intOf]; omega
    · obtain rfl : t = n := by omega
      go_wp2
      go_ret
      exact ⟨rfl, rfl⟩
set_option maxRecDepth 100000 in
set_option maxHeartbeats 2000000 in
theorem toDOmegaS_any (A : Option Addr) (n c : Nat) (l : List Dm) (w : World) (h : Rd w 5 A n (l.flatMap dcells)) (hl : l.length = n) (hn : n ≤ 1099511627776) :
    Calls Try.prog 53 #[.slice A n c] w (RetRow 67 5 w n (l.flatMap dcells)) := by
  obtain ⟨i0, hi, hz0, hz1, hz2⟩ := info_parts info_DOmegaE
  obtain ⟨w1, hrun, hown, hgr0⟩ := run_make_full (P := Try.prog) w w.heap.size 62 67 i0 _ 5 Try.underlying62 hi hz0 hz1 .i64 .i64 n (by rw [hz2]; omega) (by simp only [maxLen]; omega) (Nat.le_refl _)
  have H := Lib.hid h
  have HL := Lib.hid hl
  clear h hl hi hz0 hz1 hz2
  have b1 : Below w.heap.size w w1 := (Below.refl _ _).grown hgr0 (Nat.le_refl _) (by simp)
  obtain ⟨zs, hzs⟩ : ∃ zs, zs = (madeCells (Value.agg #[.int .i64 0, .int .i64 0, .int .i64 0, .int .i64 0, .int .i64 0]).cells (n * 5)).toList := ⟨_, rfl⟩
  rw [← hzs] at hown
  have hzl := hown.1
  have HZ := Lib.hid hzl
  clear hzs hgr0 hzl
  go_enter Try.func53, Try.ntmps53
  go_wp2
  clear hrun
  go_loopw [4] (fun i wr => ∃ t : Nat, t ≤ n ∧ i = .int .i64 t ∧ wr.ownsRow w.heap.size 67 5 (.slice (some ⟨w.heap.size, 0, none⟩) n n) n ((l.take t).flatMap dcells ++ zs.drop (t * 5)) ∧ Below w.heap.size w wr) (fun i _ => n - (intOf i).toNat)
  case atStart => exact ⟨0, Nat.zero_le _, rfl, by simpa using hown, b1⟩
  case round =>
    clear hown b1
    obtain ⟨t, ht, rfl, hown, hb⟩ := hrel
    by_cases hlt : t < n
    · have htl : t < l.length := by rw [HL.out]; exact hlt
      obtain ⟨g, hg⟩ : ∃ g, l[t]? = some g := ⟨_, List.getElem?_eq_getElem htl⟩
      obtain ⟨b, off, rfl, hbl, hc⟩ := H.out.2 (by omega)
      have q0 : wr.cell? ⟨b, off + t * 5, none⟩ = some (.int .i64 g.a) := (hb.cell (by exact hbl)).trans (hc (t * 5 + 0) _ (flat_at dcells_len l t g 0 hg (by decide)))
      have q1 : wr.cell? ⟨b, off + t * 5 + 1, none⟩ = some (.int .i64 g.b) := (hb.cell (by exact hbl)).trans (by rw [Nat.add_assoc] ; exact hc (t * 5 + 1) _ (flat_at dcells_len l t g 1 hg (by decide)))
      have q2 : wr.cell? ⟨b, off + t * 5 + 2, none⟩ = some (.int .i64 g.c) := (hb.cell (by exact hbl)).trans (by rw [Nat.add_assoc] ; exact hc (t * 5 + 2) _ (flat_at dcells_len l t g 2 hg (by decide)))
      have q3 : wr.cell? ⟨b, off + t * 5 + 3, none⟩ = some (.int .i64 g.d) := (hb.cell (by exact hbl)).trans (by rw [Nat.add_assoc] ; exact hc (t * 5 + 3) _ (flat_at dcells_len l t g 3 hg (by decide)))
      have q4 : wr.cell? ⟨b, off + t * 5 + 4, none⟩ = some (.int .i64 g.e) := (hb.cell (by exact hbl)).trans (by rw [Nat.add_assoc] ; exact hc (t * 5 + 4) _ (flat_at dcells_len l t g 4 hg (by decide)))
      have HG := Lib.hid hg
      have HC := Lib.hid htl
      clear hc hg htl
      go_wp2_with fail
      refine (toDOmega_any _ _ _ _ _ _).mono ?_
      rintro e w2 ⟨rfl, hb2, hs2⟩
      have hown2 := ownsRow_below hown hb2
      clear q0 q1 q2 q3 q4 hown
      have hf := hown2.frozenAt
      have hz := hown2.cellAt
      have hll := hown2.1
      obtain ⟨y0, z0⟩ : ∃ y, w2.cell? ⟨w.heap.size, t * 5, none⟩ = some y := ⟨_, (hz _ (by omega)).trans (List.getElem?_eq_getElem (by omega))⟩
      obtain ⟨y1, z1⟩ : ∃ y, w2.cell? ⟨w.heap.size, t * 5 + 1, none⟩ = some y := ⟨_, (hz _ (by omega)).trans (List.getElem?_eq_getElem (by omega))⟩
      obtain ⟨y2, z2⟩ : ∃ y, w2.cell? ⟨w.heap.size, t * 5 + 2, none⟩ = some y := ⟨_, (hz _ (by omega)).trans (List.getElem?_eq_getElem (by omega))⟩
      obtain ⟨y3, z3⟩ : ∃ y, w2.cell? ⟨w.heap.size, t * 5 + 3, none⟩ = some y := ⟨_, (hz _ (by omega)).trans (List.getElem?_eq_getElem (by omega))⟩
      obtain ⟨y4, z4⟩ : ∃ y, w2.cell? ⟨w.heap.size, t * 5 + 4, none⟩ = some y := ⟨_, (hz _ (by omega)).trans (List.getElem?_eq_getElem (by omega))⟩
      have f0 := hf (t * 5)
      have f1 := hf (t * 5 + 1)
      have f2 := hf (t * 5 + 2)
      have f3 := hf (t * 5 + 3)
      have f4 := hf (t * 5 + 4)
      clear hf hz hll
      go_wp2
      go_roundw
      case rel =>
        have s0 := hown2.stored (t * 5) (.int .i64 g.a)
        have s1 := s0.1.stored (t * 5 + 1) (.int .i64 g.b)
        have s2 := s1.1.stored (t * 5 + 1 + 1) (.int .i64 g.c)
        have s3 := s2.1.stored (t * 5 + 1 + 1 + 1) (.int .i64 g.d)
        have s4 := s3.1.stored (t * 5 + 1 + 1 + 1 + 1) (.int .i64 g.e)
        rw [fill_step (by simp [flat_length dcells 5 dcells_len, List.length_take, Nat.min_eq_left (Nat.le_of_lt HC.out)]) (by rw [HZ.out]; omega), fill_step (by simp [flat_length dcells 5 dcells_len, List.length_take, Nat.min_eq_left (Nat.le_of_lt HC.out)]) (by rw [HZ.out]; omega), fill_step (by simp [flat_length dcells 5 dcells_len, List.length_take, Nat.min_eq_left (Nat.le_of_lt HC.out)]) (by rw [HZ.out]; omega), fill_step (by simp [flat_length dcells 5 dcells_len, List.length_take, Nat.min_eq_left (Nat.le_of_lt HC.out)]) (by rw [HZ.out]; omega), fill_step (by simp [flat_length dcells 5 dcells_len, List.length_take, Nat.min_eq_left (Nat.le_of_lt HC.out)]) (by rw [HZ.out]; omega)] at s4
        rw [show t * 5 + 1 + 1 + 1 + 1 + 1 = (t + 1) * 5 from by omega] at s4
        refine ⟨t + 1, by omega, by go_num, ?_, ((((((hb.trans (hb2.mono hb.size)).grown s0.2 (by have := hb.size; have := hb2.size; omega) (by simp)).grown s1.2 (by have := hb.size; have := hb2.size; simp; omega) (by simp)).grown s2.2 (by have := hb.size; have := hb2.size; simp; omega) (by simp)).grown s3.2 (by have := hb.size; have := hb2.size; simp; omega) (by simp)).grown s4.2 (by have := hb.size; have := hb2.size; simp; omega) (by simp))⟩
        rw [List.take_add_one, HG.out, List.flatMap_append]
        simpa [dcells] using s4.1
      case measure => simp [intOf]; omega
    · obtain rfl : t = n := by omega
      go_wp2
      go_ret
      exact ⟨_, rfl, by rw [List.drop_of_length_le (by rw [HZ.out]; exact Nat.le_refl _), List.append_nil, List.take_of_length_le (by rw [HL.out]; exact Nat.le_refl _)] at hown; exact hown, hb, hb.size⟩
set_option maxRecDepth 100000 in
theorem szDOmegaS_any (A : Option Addr) (n c : Nat) (left : Int) (w : World) (hn : n ≤ 9223372036854775807) (h0 : 0 ≤ left) (h1 : left ≤ 1099511627776) :
    Calls Try.prog 50 #[.slice A n c, .int .i64 left] w fun e w' => e = .returned (.int .i64 (if left - n < 0 then -1 else left - n)) ∧ w = w' := by
  by_cases hl : left - n < 0
  · rw [if_pos hl]
    go_enter Try.func50, Try.ntmps50
    go_wp2
    go_ret
    exact ⟨rfl, rfl⟩
  · rw [if_neg hl]
    go_enter Try.func50, Try.ntmps50
    go_wp2
    go_ret
    exact ⟨rfl, rfl⟩
end Go.Proofs.Ytgmaokpebaebkaa
