/- Contracts of the loops over slices of int that the laws use: comparing equal slices, marking, reading the marks back, copying. -/
import Derived.Test.YtgmaokpebaebkaaProg
import Derived.Test.YtgmaokpebaebkaaOpen
import Derived.Test.YtgmaokpebaebkaaAppend
import Derived.Test.YtgmaokpebaebkaaQuiet
namespace Go.Proofs.Ytgmaokpebaebkaa
open Go.RowKit
set_option linter.unusedVariables false
def icell (x : Int) : List Value := [.int .i64 x]
theorem icell_len (x : Int) : (icell x).length = 1 := rfl
theorem icell_one (x : Int) : ((icell x).all Value.oneCell') = true := rfl
theorem info_IntE : (Try.prog.info? 3).map (fun i => (i.zero, i.size, i.bytes)) = some (some (.int .i64 0), 1, 8) := by kernel_rfl
theorem icell_at {l : List Int} {k : Nat} {x : Int} (h : l[k]? = some x) : (l.flatMap icell)[k]? = some (.int .i64 x) := by
  have := flat_at icell_len l k x 0 h (by decide)
  rw [Nat.mul_one, Nat.add_zero] at this
  exact this
theorem rd_int_at {w : World} {A : Option Addr} {n k : Nat} {l : List Int} {x : Int} (h : Rd w 1 A n (l.flatMap icell)) (hl : l.length = n) (hx : l[k]? = some x) : ∃ b off, A = some ⟨b, off, none⟩ ∧ b < w.heap.size ∧ w.cell? ⟨b, off + k, none⟩ = some (.int .i64 x) := by
  have hlt := (List.getElem?_eq_some_iff.1 hx).1
  obtain ⟨b, off, e, hb, hc⟩ := h.2 (by omega)
  exact ⟨b, off, e, hb, hc _ _ (icell_at hx)⟩
set_option maxRecDepth 100000 in
set_option maxHeartbeats 1000000 in
theorem eqIntS_same (A A' : Option Addr) (n c c' : Nat) (l : List Int) (w : World) (hl : l.length = n) (hn : n ≤ 1099511627776) (h1 : Rd w 1 A n (l.flatMap icell)) (h2 : Rd w 1 A' n (l.flatMap icell)) :
    Calls Try.prog 17 #[.slice A n c, .slice A' n c'] w fun e w' => e = .returned (.bool true) ∧ Below w.heap.size w w' ∧ w.heap.size ≤ w'.heap.size := by
  have H1 := Lib.hid h1
  have H2 := Lib.hid h2
  have HL := Lib.hid hl
  clear h1 h2 hl
  go_enter Try.func17, Try.ntmps17
  go_wp2
  go_loopw [5] (fun i wr => ∃ k : Nat, k ≤ n ∧ i = .int .i64 k ∧ ∃ m, wr = w.drewN m) (fun i _ => n - (intOf i).toNat)
  case atStart => exact ⟨0, Nat.zero_le _, rfl, 0, rfl⟩
  case round =>
    obtain ⟨k, hk, rfl, dq, rfl⟩ := hrel
    by_cases hlt : k < n
    · have hkl : k < l.length := by rw [HL.out]; exact hlt
      obtain ⟨g, hg⟩ : ∃ g, l[k]? = some g := ⟨_, List.getElem?_eq_getElem hkl⟩
      obtain ⟨b, off, rfl, _, q0⟩ := rd_int_at H1.out HL.out hg
      obtain ⟨b', off', rfl, _, q0'⟩ := rd_int_at H2.out HL.out hg
      clear hg hkl
      go_wp2_with fail
      go_quiet (fail)
      go_wp2_with fail
      go_roundw
      case rel => exact ⟨k + 1, by omega, by go_num, (by first | exact ⟨_, rfl⟩ | exact drewN2 _ _ _)⟩
      case measure => simp [intOf]; omega
    · go_wp2_with fail
      go_ret
      exact ⟨rfl, (below_quiet ⟨dq, rfl⟩).1, (below_quiet ⟨dq, rfl⟩).2⟩
set_option maxRecDepth 100000 in
set_option maxHeartbeats 2000000 in
theorem markIntS_any (v : Value) (n base : Nat) (xs : List Value) (k : Int) (w : World) (hown : w.ownsRow base 3 1 v n xs) (hn : n ≤ 1099511627776) (hk0 : 0 ≤ k) (hk1 : k ≤ 1099511627776) :
    Calls Try.prog 19 #[v, .int .i64 k] w fun e w' => e = .returned (.int .i64 (k + n)) ∧ w'.ownsRow base 3 1 v n (marks k n) ∧ w.grownBy w' v.ownBlock := by
  rcases hown.2 with ⟨rfl, rfl⟩ | ⟨g, cap, cur, rfl, hb, hh, hc, hm, _, _⟩
  · clear hown
    go_enter Try.func19, Try.ntmps19
    go_wp2
    refine wp_loop_rounds 1 ?_
    rw [rounds_succ]
    go_wp2
    go_ret
    exact ⟨by simp, World.ownsRow_nil _ _ _ _, World.grownBy.refl _ _⟩
  · clear hh hb hc hm
    have hxl := hown.1
    rw [Nat.mul_one] at hxl
    go_enter Try.func19, Try.ntmps19
    go_wp2
    go_loopw [1, 5] (fun kk i wr => ∃ t : Nat, t ≤ n ∧ i = .int .i64 t ∧ kk = .int .i64 (k + t) ∧ wr.ownsRow base 3 1 (.slice (some ⟨g, 0, none⟩) n cap) n (marks k t ++ xs.drop t) ∧ w.grownBy wr (some g)) (fun _ i _ => n - (intOf i).toNat)
    case atStart => exact ⟨0, Nat.zero_le _, rfl, by simp, by simpa [marks] using hown, World.grownBy.refl _ _⟩
    case round =>
      clear hown
      obtain ⟨t, ht, rfl, rfl, hown, hgr⟩ := hrel
      by_cases hlt : t < n
      · have hf := hown.frozenAt
        have hz := hown.cellAt
        have hll := hown.1
        obtain ⟨y0, z0⟩ : ∃ y, wr.cell? ⟨g, t, none⟩ = some y := ⟨_, (hz _ (by omega)).trans (List.getElem?_eq_getElem (by omega))⟩
        have f0 := hf t
        have HX := Lib.hid hxl
        clear hf hz hll hxl
        go_wp2
        go_roundw
        case rel =>
          have s0 := hown.stored t (.int .i64 (k + t))
          rw [mark_step rfl (by rw [HX.out]; omega)] at s0
          exact ⟨t + 1, by omega, by go_num, by congr 1; omega, s0.1, hgr.trans s0.2⟩
        case measure => simp [intOf]; omega
      · obtain rfl : t = n := by omega
        go_wp2
        go_ret
        exact ⟨rfl, by rw [List.drop_of_length_le (by omega), List.append_nil] at hown; exact hown, hgr⟩
set_option maxRecDepth 100000 in
set_option maxHeartbeats 2000000 in
theorem toIntS_any (A : Option Addr) (n c : Nat) (l : List Int) (w : World) (h : Rd w 1 A n (l.flatMap icell)) (hl : l.length = n) (hn : n ≤ 1099511627776) :
    Calls Try.prog 14 #[.slice A n c] w (RetRow 3 1 w n (l.flatMap icell)) := by
  obtain ⟨i0, hi, hz0, hz1, hz2⟩ := info_parts info_IntE
  obtain ⟨w1, hrun, hown, hgr0⟩ := run_make_full (P := Try.prog) w w.heap.size 33 3 i0 _ 1 Try.underlying33 hi hz0 hz1 .i64 .i64 n (by rw [hz2]; omega) (by simp only [maxLen]; omega) (Nat.le_refl _)
  have H := Lib.hid h
  have HL := Lib.hid hl
  clear h hl hi hz0 hz1 hz2
  have b1 : Below w.heap.size w w1 := (Below.refl _ _).grown hgr0 (Nat.le_refl _) (by simp)
  obtain ⟨zs, hzs⟩ : ∃ zs, zs = (madeCells (Value.int .i64 0).cells (n * 1)).toList := ⟨_, rfl⟩
  rw [← hzs] at hown
  have hzl := hown.1
  have HZ := Lib.hid hzl
  clear hzs hgr0 hzl
  go_enter Try.func14, Try.ntmps14
  go_wp2
  clear hrun
  go_loopw [4] (fun i wr => ∃ t : Nat, t ≤ n ∧ i = .int .i64 t ∧ wr.ownsRow w.heap.size 3 1 (.slice (some ⟨w.heap.size, 0, none⟩) n n) n ((l.take t).flatMap icell ++ zs.drop t) ∧ Below w.heap.size w wr) (fun i _ => n - (intOf i).toNat)
  case atStart => exact ⟨0, Nat.zero_le _, rfl, by simpa using hown, b1⟩
  case round =>
    clear hown b1
    obtain ⟨t, ht, rfl, hown, hb⟩ := hrel
    by_cases hlt : t < n
    · have htl : t < l.length := by rw [HL.out]; exact hlt
      obtain ⟨g, hg⟩ : ∃ g, l[t]? = some g := ⟨_, List.getElem?_eq_getElem htl⟩
      obtain ⟨b, off, rfl, hbl, q0⟩ := rd_int_at (H.out.below hb) HL.out hg
      have HG := Lib.hid hg
      have HC := Lib.hid htl
      clear hg htl
      have hf := hown.frozenAt
      have hz := hown.cellAt
      have hll := hown.1
      obtain ⟨y0, z0⟩ : ∃ y, wr.cell? ⟨w.heap.size, t, none⟩ = some y := ⟨_, (hz _ (by omega)).trans (List.getElem?_eq_getElem (by omega))⟩
      have f0 := hf t
      clear hf hz hll
      go_wp2_with fail
      go_roundw
      case rel =>
        have s0 := hown.stored t (.int .i64 g)
        rw [fill_step (by simp [flat_length icell 1 icell_len, List.length_take, Nat.min_eq_left (Nat.le_of_lt HC.out)]) (by rw [HZ.out]; omega)] at s0
        refine ⟨t + 1, by omega, by go_num, ?_, hb.grown s0.2 (by have := hb.size; omega) (by simp)⟩
        rw [List.take_add_one, HG.out, List.flatMap_append]
        simpa [icell] using s0.1
      case measure => simp [intOf]; omega
    · obtain rfl : t = n := by omega
      go_wp2
      go_ret
      exact ⟨_, rfl, by rw [List.drop_of_length_le (by rw [HZ.out]; omega), List.append_nil, List.take_of_length_le (by rw [HL.out]; exact Nat.le_refl _)] at hown; exact hown, hb, hb.size⟩
end Go.Proofs.Ytgmaokpebaebkaa
