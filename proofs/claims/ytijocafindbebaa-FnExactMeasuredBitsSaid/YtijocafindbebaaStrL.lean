/- Words in the laws: marking a list of words of the call's own, reading the marks back. -/
import Derived.Test.YtijocafindbebaaMtx
import Derived.Test.YtijocafindbebaaTreeEq
namespace Go.Proofs.Ytijocafindbebaa
open Go.RowKit
set_option linter.unusedVariables false
def marksS (k : Int) (m : Nat) : List Value := (List.range m).map fun i : Nat => .string (mtx (k + i))
theorem marksS_succ (k : Int) (m : Nat) : marksS k (m + 1) = marksS k m ++ [.string (mtx (k + m))] := by simp [marksS, List.range_succ]
theorem marksS_len (k : Int) (m : Nat) : (marksS k m).length = m := by simp [marksS]
theorem marksS_at (k : Int) {m t : Nat} (h : t < m) : (marksS k m)[t]? = some (.string (mtx (k + t))) := by simp [marksS, h]
theorem below_undrew5 {w w' : World} (h : Below w.drew.heap.size w.drew w') : Below w.heap.size w w' := ⟨h.os, h.tape, h.output, h.size, h.block⟩
set_option maxRecDepth 100000 in
set_option maxHeartbeats 2000000 in
theorem markStringS_own (v : Value) (n base : Nat) (xs : List Value) (k : Int) (w : World) (hown : w.ownsRow base 9 1 v n xs) (hn : n ≤ 1099511627776) (hk0 : 1 ≤ k) (hk1 : k ≤ 1099511627776) :
    Calls Try.prog 12 #[v, .int .i64 k] w fun e w' => e = .returned (.int .i64 (k + n)) ∧ w'.ownsRow base 9 1 v n (marksS k n) ∧ w.grownBy w' v.ownBlock := by
  rcases hown.2 with ⟨rfl, rfl⟩ | ⟨g, cap, cur, rfl, hb, hh, hc, hm, _, _⟩
  · clear hown
    go_enter Try.func12, Try.ntmps12
    go_wp2
    refine wp_loop_rounds 1 ?_
    rw [rounds_succ]
    go_wp2
    go_ret
    exact ⟨by simp, World.ownsRow_nil _ _ _ _, World.grownBy.refl _ _⟩
  · clear hh hb hc hm
    have hxl := hown.1
    rw [Nat.mul_one] at hxl
    go_enter Try.func12, Try.ntmps12
    go_wp2
    go_loopw [1, 5] (fun kk i wr => ∃ t : Nat, t ≤ n ∧ i = .int .i64 t ∧ kk = .int .i64 (k + t) ∧ wr.ownsRow base 9 1 (.slice (some ⟨g, 0, none⟩) n cap) n (marksS k t ++ xs.drop t) ∧ w.grownBy wr (some g)) (fun _ i _ => n - (intOf i).toNat)
    case atStart => exact ⟨0, Nat.zero_le _, rfl, by simp, by simpa [marksS] using hown, World.grownBy.refl _ _⟩
    case round =>
      clear hown
      obtain ⟨t, ht, rfl, rfl, hown, hgr⟩ := hrel
      by_cases hlt : t < n
      · have hgs := (hown.lt g rfl).2
        have HX := Lib.hid hxl
        clear hxl
        go_wp2_with fail
        refine (markText_any _ _ (by omega) (by omega)).mono ?_
        rintro e w2 ⟨rfl, b2, s2⟩
        have own2 := ownsRow_below hown b2
        have G2 := hgr.trans (row := some g) ⟨b2.os, b2.tape, b2.output, b2.size, fun i hi _ => b2.block i hi⟩
        have hll := own2.1
        obtain ⟨y1, z1⟩ : ∃ y, w2.cell? ⟨g, t, none⟩ = some y := ⟨_, (own2.cellAt _ (by omega)).trans (List.getElem?_eq_getElem (by omega))⟩
        have f1 := own2.frozenAt t
        have t0 := own2.stored t (.string (mtx (k + t)))
        rw [fill_step (marksS_len k t) (by rw [HX.out]; omega)] at t0
        clear hll hown b2 hgr
        go_wp2_with fail
        go_roundw
        case rel =>
          refine ⟨t + 1, by omega, by go_num, by congr 1; omega, ?_, G2.trans t0.2⟩
          rw [marksS_succ]
          exact t0.1
        case measure => simp [intOf]; omega
      · obtain rfl : t = n := by omega
        rw [List.drop_of_length_le (by rw [hxl]; exact Nat.le_refl _), List.append_nil] at hown
        clear hxl
        go_wp2
        go_ret
        exact ⟨rfl, hown, hgr⟩
set_option maxRecDepth 100000 in
set_option maxHeartbeats 2000000 in
theorem heldStringS_any (A : Option Addr) (n c : Nat) (k : Int) (w : World) (h : Rd w 1 A n (marksS k n)) (hn : n ≤ 1099511627776) (hk0 : 1 ≤ k) (hk1 : k ≤ 1099511627776) :
    Calls Try.prog 13 #[.slice A n c, .int .i64 k] w fun e w' => e = .returned (.int .i64 (k + n)) ∧ Below w.heap.size w w' ∧ w.heap.size ≤ w'.heap.size := by
  have H := Lib.hid h
  clear h
  go_enter Try.func13, Try.ntmps13
  go_wp2
  go_loopw [1, 5] (fun kk i wr => ∃ t : Nat, t ≤ n ∧ i = .int .i64 t ∧ kk = .int .i64 (k + t) ∧ Below w.heap.size w wr) (fun _ i _ => n - (intOf i).toNat)
  case atStart => exact ⟨0, Nat.zero_le _, rfl, by simp, Below.refl _ _⟩
  case round =>
    obtain ⟨t, ht, rfl, rfl, hb⟩ := hrel
    have hbs := hb.size
    by_cases hlt : t < n
    · obtain ⟨b, off, rfl, hbl, hc⟩ := (H.out.below hb).2 (by omega)
      have q1 := hc _ _ (marksS_at k hlt)
      clear hc
      go_wp2_with fail
      go_region_held3 (fun W => W.cell? ⟨b, off + t, none⟩ = some (.string (mtx (k + t)))) (first | exact q1 | exact q1') (first | (go_at_call 31; (with_reducible refine (markText_any _ _ (by omega) (by omega)).mono ?_); rintro e w1 ⟨rfl, b1d, s1d⟩; have b1 := below_undrew5 b1d; have s1 := b1.size; have q1' := (b1.cell (p := ⟨b, off + t, none⟩) hbl).trans q1))
      go_wp2_with fail
      go_roundw
      case rel => exact ⟨t + 1, by omega, by go_num, by congr 1; omega, hb.trans (b1.mono hbs)⟩
      case measure => simp [intOf]; omega
    · obtain rfl : t = n := by omega
      go_wp2_with fail
      go_ret
      exact ⟨rfl, hb, hb.size⟩
end Go.Proofs.Ytijocafindbebaa
