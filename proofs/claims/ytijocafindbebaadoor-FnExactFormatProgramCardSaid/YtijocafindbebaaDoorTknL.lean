/- Tokens in the laws: comparing equal lists, marking them, reading the marks back. -/
import Derived.Test.YtijocafindbebaaDoorTknS
import Derived.Test.YtijocafindbebaaDoorMtx
import Derived.Test.YtijocafindbebaaDoorTreeEq
namespace Go.Proofs.YtijocafindbebaaDoor
open Go.RowKit
set_option linter.unusedVariables false
theorem tkcs_at {l : List Tk} {t : Nat} {x : Tk} (h : l[t]? = some x) : (tkcs l)[t * 2]? = some (.int .i64 x.k) ∧ (tkcs l)[t * 2 + 1]? = some (.string x.s) :=
  ⟨flat_at tkc_len l t x 0 h (by decide), flat_at tkc_len l t x 1 h (by decide)⟩
theorem rd_tk {w : World} {A : Option Addr} {n t : Nat} {l : List Tk} {x : Tk} (h : Rd w 2 A n (tkcs l)) (hl : l.length = n) (hx : l[t]? = some x) : ∃ b off, A = some ⟨b, off, none⟩ ∧ b < w.heap.size ∧ w.cell? ⟨b, off + t * 2, none⟩ = some (.int .i64 x.k) ∧ w.cell? ⟨b, off + t * 2 + 1, none⟩ = some (.string x.s) := by
  have hlt := (List.getElem?_eq_some_iff.1 hx).1
  obtain ⟨b, off, e, hb, hc⟩ := h.2 (by omega)
  exact ⟨b, off, e, hb, hc _ _ (tkcs_at hx).1, hc _ _ (tkcs_at hx).2⟩
/-- The marks of m tokens from k on. -/
def mkTk (k : Int) (m : Nat) : List Value := (List.range m).flatMap fun i : Nat => [.int .i64 (k + 2 * i), .string (mtx (k + 2 * i + 1))]
theorem mkTk_succ (k : Int) (m : Nat) : mkTk k (m + 1) = mkTk k m ++ [.int .i64 (k + 2 * m), .string (mtx (k + 2 * m + 1))] := by simp [mkTk, List.range_succ]
theorem mkTk_len (k : Int) (m : Nat) : (mkTk k m).length = m * 2 := by
  induction m with
  | zero => rfl
  | succ m ih => rw [mkTk_succ, List.length_append, ih]; simp; omega
theorem mkTk_at (k : Int) {m t : Nat} (h : t < m) : (mkTk k m)[t * 2]? = some (.int .i64 (k + 2 * t)) ∧ (mkTk k m)[t * 2 + 1]? = some (.string (mtx (k + 2 * t + 1))) := by
  have hr : (List.range m)[t]? = some t := by simp [h]
  exact ⟨flat_at (f := fun i : Nat => [.int .i64 (k + 2 * (i : Int)), .string (mtx (k + 2 * (i : Int) + 1))]) (k := 2) (fun _ => rfl) _ t t 0 hr (by decide), flat_at (f := fun i : Nat => [.int .i64 (k + 2 * (i : Int)), .string (mtx (k + 2 * (i : Int) + 1))]) (k := 2) (fun _ => rfl) _ t t 1 hr (by decide)⟩
theorem below_undrew3 {w w' : World} (h : Below w.drew.heap.size w.drew w') : Below w.heap.size w w' := ⟨h.os, h.tape, h.output, h.size, h.block⟩
set_option maxRecDepth 100000 in
set_option maxHeartbeats 1000000 in
theorem eqToken_same (k : Int) (s : ByteArray) (w : World) : Calls Tryd.prog 67 #[.agg #[.int .i64 k, .string s], .agg #[.int .i64 k, .string s]] w fun e w' => e = .returned (.bool true) ∧ Below w.heap.size w w' ∧ w.heap.size ≤ w'.heap.size := by
  go_enter Tryd.func67, Tryd.ntmps67
  go_wp2
  go_ret
  exact ⟨rfl, (by repeat (first | exact Below.refl _ _ | assumption | (refine Below.trans ?_ (Below.mono (by assumption) (by first | omega | (simp; done) | (simp; omega)))) | (with_reducible refine Below.drew ?_) | (with_reducible refine Below.alloc ?_ (by first | omega | (simp; done) | (simp; omega)) _) | (with_reducible refine Below.setCell ?_ (by first | omega | (simp; done) | (simp; omega)) _))), (by first | omega | (simp; done) | (simp; omega))⟩
set_option maxRecDepth 100000 in
set_option maxHeartbeats 1000000 in
theorem eqTokenS_same (A A' : Option Addr) (n c c' : Nat) (l : List Tk) (w : World) (hl : l.length = n) (hn : n ≤ 1099511627776) (h1 : Rd w 2 A n (tkcs l)) (h2 : Rd w 2 A' n (tkcs l)) :
    Calls Tryd.prog 24 #[.slice A n c, .slice A' n c'] w fun e w' => e = .returned (.bool true) ∧ Below w.heap.size w w' ∧ w.heap.size ≤ w'.heap.size := by
  have H1 := Lib.hid h1
  have H2 := Lib.hid h2
  have HL := Lib.hid hl
  clear h1 h2 hl
  go_enter Tryd.func24, Tryd.ntmps24
  go_wp2
  go_loopw [5] (fun i wr => ∃ t : Nat, t ≤ n ∧ i = .int .i64 t ∧ Below w.heap.size w wr) (fun i _ => n - (intOf i).toNat)
  case atStart => exact ⟨0, Nat.zero_le _, rfl, Below.refl _ _⟩
  case round =>
    obtain ⟨t, ht, rfl, hb⟩ := hrel
    by_cases hlt : t < n
    · obtain ⟨x, hx⟩ : ∃ x, l[t]? = some x := ⟨_, List.getElem?_eq_getElem (by rw [HL.out]; exact hlt)⟩
      obtain ⟨b, off, rfl, _, q0, q1⟩ := rd_tk (H1.out.below hb) HL.out hx
      obtain ⟨b', off', rfl, _, p0, p1⟩ := rd_tk (H2.out.below hb) HL.out hx
      clear hx
      go_wp2_with fail
      go_still_tail 8, (by kernel_rfl)
      change wpList _ _ _ _ _ wr.drew
      go_wp2_with fail
      refine (eqToken_same _ _ _).mono ?_
      rintro e w1 ⟨rfl, b1, s1⟩
      go_wp2_with fail
      go_roundw
      case rel => exact ⟨t + 1, by omega, by go_num, hb.drew.trans (b1.mono hb.size)⟩
      case measure => simp [intOf]; omega
    · go_wp2_with fail
      go_ret
      exact ⟨rfl, hb, hb.size⟩
set_option maxRecDepth 100000 in
set_option maxHeartbeats 2000000 in
theorem markTokenS_any (v : Value) (n base : Nat) (xs : List Value) (k : Int) (w : World) (hown : w.ownsRow base 85 2 v n xs) (hn : n ≤ 1099511627776) (hk0 : 1 ≤ k) (hk1 : k ≤ 1099511627776) :
    Calls Tryd.prog 26 #[v, .int .i64 k] w fun e w' => e = .returned (.int .i64 (k + 2 * n)) ∧ w'.ownsRow base 85 2 v n (mkTk k n) ∧ w.grownBy w' v.ownBlock := by
  rcases hown.2 with ⟨rfl, rfl⟩ | ⟨g, cap, cur, rfl, hb, hh, hc, hm, _, _⟩
  · clear hown
    go_enter Tryd.func26, Tryd.ntmps26
    go_wp2
    refine wp_loop_rounds 1 ?_
    rw [rounds_succ]
    go_wp2
    go_ret
    exact ⟨by simp, World.ownsRow_nil _ _ _ _, World.grownBy.refl _ _⟩
  · clear hh hb hc hm
    have hxl := hown.1
    go_enter Tryd.func26, Tryd.ntmps26
    go_wp2
    go_loopw [1, 5] (fun kk i wr => ∃ t : Nat, t ≤ n ∧ i = .int .i64 t ∧ kk = .int .i64 (k + 2 * t) ∧ wr.ownsRow base 85 2 (.slice (some ⟨g, 0, none⟩) n cap) n (mkTk k t ++ xs.drop (t * 2)) ∧ w.grownBy wr (some g)) (fun _ i _ => n - (intOf i).toNat)
    case atStart => exact ⟨0, Nat.zero_le _, rfl, by simp, by simpa [mkTk] using hown, World.grownBy.refl _ _⟩
    case round =>
      clear hown
      obtain ⟨t, ht, rfl, rfl, hown, hgr⟩ := hrel
      by_cases hlt : t < n
      · have hll := hown.1
        have hgs := (hown.lt g rfl).2
        obtain ⟨y0, z0⟩ : ∃ y, wr.cell? ⟨g, t * 2, none⟩ = some y := ⟨_, (hown.cellAt _ (by omega)).trans (List.getElem?_eq_getElem (by omega))⟩
        have f0 := hown.frozenAt (t * 2)
        have HX := Lib.hid hxl
        have s0 := hown.stored (t * 2) (.int .i64 (k + 2 * t))
        have hfl := mkTk_len k t
        rw [fill_step hfl (by rw [hxl]; omega)] at s0
        obtain ⟨w1, hw1⟩ : ∃ w1, w1 = wr.setCell ⟨g, t * 2, none⟩ (.int .i64 (k + 2 * t)) := ⟨_, rfl⟩
        rw [← hw1] at s0
        have HW1 := Lib.hid hw1
        have HFL := Lib.hid hfl
        obtain ⟨own1, gr1⟩ := s0
        have G1 := hgr.trans gr1
        have hz1 : g < w1.heap.size := (own1.lt g rfl).2
        clear hll hxl hw1 hown gr1 hgr hfl
        go_wp2_with fail
        rw [← HW1.out]
        refine (markText_any _ _ (by omega) (by omega)).mono ?_
        rintro e w2 ⟨rfl, b2, s2⟩
        have own2 := ownsRow_below own1 b2
        have G2 := G1.trans (row := some g) ⟨b2.os, b2.tape, b2.output, b2.size, fun i hi _ => b2.block i hi⟩
        have hll := own2.1
        obtain ⟨y1, z1⟩ : ∃ y, w2.cell? ⟨g, t * 2 + 1, none⟩ = some y := ⟨_, (own2.cellAt _ (by omega)).trans (List.getElem?_eq_getElem (by omega))⟩
        have f1 := own2.frozenAt (t * 2 + 1)
        have t0 := own2.stored (t * 2 + 1) (.string (mtx (k + 2 * t + 1)))
        rw [fill_step (by rw [List.length_append, HFL.out]; rfl) (by rw [HX.out]; omega)] at t0
        clear z0 f0 y0 hll own1 b2 G1
        go_wp2_with fail
        go_roundw
        case rel =>
          refine ⟨t + 1, by omega, by go_num, by congr 1; omega, ?_, G2.trans t0.2⟩
          rw [mkTk_succ, show (t + 1) * 2 = t * 2 + 1 + 1 from by omega]
          rw [show ∀ (l : List Value) (a b : Value), l ++ [a, b] = l ++ [a] ++ [b] from fun l a b => by simp]
          exact t0.1
        case measure => simp [intOf]; omega
      · obtain rfl : t = n := by omega
        rw [List.drop_of_length_le (by rw [hxl]; exact Nat.le_refl _), List.append_nil] at hown
        clear hxl
        go_wp2
        go_ret
        exact ⟨rfl, hown, hgr⟩
set_option maxRecDepth 100000 in
set_option maxHeartbeats 2000000 in
theorem heldTokenS_any (A : Option Addr) (n c : Nat) (k : Int) (w : World) (h : Rd w 2 A n (mkTk k n)) (hn : n ≤ 1099511627776) (hk0 : 1 ≤ k) (hk1 : k ≤ 1099511627776) :
    Calls Tryd.prog 27 #[.slice A n c, .int .i64 k] w fun e w' => e = .returned (.int .i64 (k + 2 * n)) ∧ Below w.heap.size w w' ∧ w.heap.size ≤ w'.heap.size := by
  have H := Lib.hid h
  clear h
  go_enter Tryd.func27, Tryd.ntmps27
  go_wp2
  go_loopw [1, 5] (fun kk i wr => ∃ t : Nat, t ≤ n ∧ i = .int .i64 t ∧ kk = .int .i64 (k + 2 * t) ∧ Below w.heap.size w wr) (fun _ i _ => n - (intOf i).toNat)
  case atStart => exact ⟨0, Nat.zero_le _, rfl, by simp, Below.refl _ _⟩
  case round =>
    obtain ⟨t, ht, rfl, rfl, hb⟩ := hrel
    have hbs := hb.size
    by_cases hlt : t < n
    · obtain ⟨b, off, rfl, hbl, hc⟩ := (H.out.below hb).2 (by omega)
      have q0 := hc _ _ (mkTk_at k hlt).1
      have q1 := hc _ _ (mkTk_at k hlt).2
      rw [← Nat.add_assoc] at q1
      have HC := Lib.hid hc
      clear hc
      go_wp2_with fail
      go_region_held3 (fun W => W.cell? ⟨b, off + t * 2 + 1, none⟩ = some (.string (mtx (k + 2 * t + 1)))) (first | exact q1 | exact q1') (first | (go_at_call 70; (with_reducible refine (markText_any _ _ (by omega) (by omega)).mono ?_); rintro e w1 ⟨rfl, b1d, s1d⟩; have b1 := below_undrew3 b1d; have s1 := b1.size; have q1' := (b1.cell (p := ⟨b, off + t * 2 + 1, none⟩) hbl).trans q1))
      go_wp2_with fail
      go_roundw
      case rel => exact ⟨t + 1, by omega, by go_num, by congr 1; omega, hb.trans (b1.mono hbs)⟩
      case measure => simp [intOf]; omega
    · obtain rfl : t = n := by omega
      go_wp2_with fail
      go_ret
      exact ⟨rfl, hb, hb.size⟩
end Go.Proofs.YtijocafindbebaaDoor
