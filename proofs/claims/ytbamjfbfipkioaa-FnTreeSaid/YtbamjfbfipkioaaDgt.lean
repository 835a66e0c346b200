/- Drawing a gate's statement. -/
import Derived.Test.YtbamjfbfipkioaaDk
namespace Go.Proofs.Ytbamjfbfipkioaa
open Go.RowKit
set_option linter.unusedVariables false
set_option maxRecDepth 100000 in
set_option maxHeartbeats 4000000 in
theorem l17Gate_any (A : Option Addr) (m c : Nat) (N : List ByteArray) (w : World) (p : Nat) (hcur : CurAt w p) (hN : Names w p A m N) : Calls Try.prog 26 #[.pointer (some ⟨p, 0, none⟩), .slice A m c] w (DGt w p) := by
  obtain ⟨i0, hi, hz0, hz1, hz2⟩ := info_parts info_str
  have hp := hcur.lt
  have h1 := hN.lo
  have h4 := hN.hi
  have HN := Lib.hid hN
  clear hN
  go_enter Try.func26, Try.ntmps26
  go_wp2_with fail
  obtain ⟨w0, hw0⟩ : ∃ w0, w0 = w.alloc (.cells #[.int .i64 0, .string ⟨#[]⟩, .slice none 0 0, .int .i64 0, .slice none 0 0] 36) := ⟨_, rfl⟩
  rw [← hw0]
  have x0 : w0.heap[w.heap.size]? = some (.cells #[.int .i64 0, .string ⟨#[]⟩, .slice none 0 0, .int .i64 0, .slice none 0 0] 36 (0, 0)) := by rw [hw0]; exact boxed1_0 _ _
  have hfr0 : Fr w p w0 := by rw [hw0]; exact (Fr.start hcur).alloc _
  have s0 : w.heap.size < w0.heap.size := by rw [hw0]; simp
  clear hw0
  obtain ⟨q, hq, hq1, hq3, hqm⟩ : ∃ q : Nat, imin 3 m = q ∧ 1 ≤ q ∧ q ≤ 3 ∧ q ≤ m := ⟨min 3 m, by unfold imin; split <;> omega, by omega, by omega, by omega⟩
  have HQ := Lib.hid hq
  clear hq
  refine (l1Min_any _ _ _).mono ?_
  rintro e w' ⟨rfl, rfl⟩
  rw [HQ.out]
  go_wp2_with fail
  refine (l9GateN_any q w0 p hfr0.cur (by omega) (by omega)).mono ?_
  rintro e w1 ⟨k, a, b, c2, ⟨hk1, hk2, hka⟩, rfl, hc1, hg1⟩
  obtain ⟨k, rfl⟩ : ∃ k' : Nat, k = k' := ⟨k.toNat, by omega⟩
  have x1 := box_call x0 hg1 (by omega)
  have hfr1 := hfr0.call hc1 hg1
  have X1 := Lib.hid x1
  have FR1 := Lib.hid hfr1
  have s1 : w.heap.size < w1.heap.size := by have := hg1.size; omega
  clear x0 x1 hc1 hg1 hfr0 hfr1
  go_wp2_with fail
  obtain ⟨w2, hw2⟩ : ∃ w2, w2 = w1.alloc (.cells #[.int .i64 k, .int .i64 a, .int .i64 b, .int .i64 c2] 58) := ⟨_, rfl⟩
  rw [← hw2]
  have y2 : w2.heap[w1.heap.size]? = some (.cells #[.int .i64 k, .int .i64 a, .int .i64 b, .int .i64 c2] 58 (0, 0)) := by rw [hw2]; exact boxed1_0 _ _
  have ba : Below w1.heap.size w1 w2 := by rw [hw2]; exact (by repeat (first | exact Below.refl _ _ | assumption | (refine Below.trans ?_ (Below.mono (by assumption) (by first | omega | (simp; done) | (simp; omega)))) | (with_reducible refine Below.drew ?_) | (with_reducible refine Below.alloc ?_ (by first | omega | (simp; done) | (simp; omega)) _) | (with_reducible refine Below.setCell ?_ (by first | omega | (simp; done) | (simp; omega)) _)))
  have x2 := (ba.block _ s1).trans X1.out
  have hfr2 := FR1.out.below ba
  have hp1 : p < w1.heap.size := FR1.out.cur.lt
  have s2 : w1.heap.size < w2.heap.size := by rw [hw2]; simp
  clear hw2 X1
  refine (l8Perm_n m w2 p hfr2.cur h1 h4).mono ?_
  rintro e w3 ⟨v, L, rfl, hL, hin, hown, hc3, hg3⟩
  have x3 := box_call x2 hg3 (by omega)
  have y3 := box_call y2 hg3 (by omega)
  have hfr3 := hfr2.call hc3 hg3
  have s3 : w2.heap.size ≤ w3.heap.size := hg3.size
  obtain ⟨Ap, cp, rfl, _, _, rp⟩ := rd_of_own hown
  have X3 := Lib.hid x3
  have Y3 := Lib.hid y3
  have FR3 := Lib.hid hfr3
  have RP := Lib.hid rp
  have HL := Lib.hid hL
  have HIN := Lib.hid hin
  obtain ⟨q0, q1, q2, q3⟩ := boxcells4 (lay := Below.refl _ _) y3
  clear x2 x3 y2 y3 ba hfr2 hfr3 hc3 hg3 hown rp hL hin
  go_wp2_with fail
  refine (GateName_spec k (by omega) (by omega) _).mono ?_
  rintro e w4 ⟨rfl, b4, s4⟩
  have hgn := gname_size k (by omega)
  obtain ⟨wd, hwd⟩ : ∃ wd : ByteArray, wd = ⟨(gname k).toArray⟩ := ⟨_, rfl⟩
  rw [← hwd] at hgn ⊢
  have X4 := Lib.hid ((b4.block _ (lt_of_block X3.out)).trans X3.out)
  have Y4 := Lib.hid ((b4.block _ (lt_of_block Y3.out)).trans Y3.out)
  have FR4 := Lib.hid (FR3.out.below b4)
  have RP4 := Lib.hid (RP.out.below b4)
  clear hwd X3 Y3 FR3 RP b4 q0 q1 q2 q3
  go_wp2_with fail
  obtain ⟨X, hX⟩ : ∃ X, X = w4.heap.size := ⟨_, rfl⟩
  obtain ⟨w5, hw5⟩ : ∃ w5, w5 = w4.alloc (.cells #[.int .i64 1, .string wd, .slice none 0 0, .int .i64 0, .slice none 0 0] 36) := ⟨_, rfl⟩
  rw [← hw5, ← hX]
  have z5 : w5.heap[X]? = some (.cells #[.int .i64 1, .string wd, .slice none 0 0, .int .i64 0, .slice none 0 0] 36 (0, 0)) := by rw [hw5, hX]; exact boxed1_0 _ _
  have b5 : Below X w4 w5 := by rw [hw5, hX]; exact (by repeat (first | exact Below.refl _ _ | assumption | (refine Below.trans ?_ (Below.mono (by assumption) (by first | omega | (simp; done) | (simp; omega)))) | (with_reducible refine Below.drew ?_) | (with_reducible refine Below.alloc ?_ (by first | omega | (simp; done) | (simp; omega)) _) | (with_reducible refine Below.setCell ?_ (by first | omega | (simp; done) | (simp; omega)) _)))
  have s5 : X + 1 = w5.heap.size := by rw [hw5, hX]; simp
  have Z5 := Lib.hid z5
  have B5 := Lib.hid b5
  have HN4 := Lib.hid (HN.out.fr FR4.out)
  have hXs : w2.heap.size ≤ X := by omega
  have HX := Lib.hid hX
  clear hw5 z5 b5 hX
  go_loopw [8] (fun i wr => ∃ (t ca : Nat) (Aa : Option Addr) (args : List ByteArray), i = .int .i64 t ∧ t ≤ ar k ∧ args.length = t ∧ Hid (∀ s ∈ args, s.size ≤ 9) ∧ Hid (wr.heap[X]? = some (.cells #[.int .i64 1, .string wd, .slice Aa t ca, .int .i64 0, .slice none 0 0] 36 (0, 0))) ∧ Hid (wr.ownsRow (X + 1) 9 1 (.slice Aa t ca) t (strs args)) ∧ Hid (Below X w4 wr)) (fun i _ => ar k - (intOf i).toNat)
  case atStart => exact ⟨0, 0, none, [], rfl, Nat.zero_le _, rfl, (fun s hs => absurd hs (by simp) : ∀ s ∈ ([] : List ByteArray), s.size ≤ 9), Z5.out, ⟨rfl, .inl ⟨rfl, rfl⟩⟩, B5.out⟩
  case round =>
    obtain ⟨t, ca, Aa, args, rfl, ht, hal, hsm, hx, hown, hb⟩ := hrel
    obtain ⟨wE, rfl⟩ : ∃ wE : World, wE = wr := ⟨_, rfl⟩
    have hbs := hb.out.size
    have hlX := lt_of_block hx.out
    have y := (hb.out.block _ (by omega)).trans Y4.out
    obtain ⟨q0, q1, q2, q3⟩ := boxcells4 (lay := Below.refl _ _) y
    obtain ⟨x0, x1, x2, x3, x4⟩ := cells5G (lay := Below.refl _ _) hx.out
    have f2 := free_at (j := 2) hx.out
    have hk9 : ar k ≤ 3 := ar_le k
    have HAL := Lib.hid hal
    clear y hal
    by_cases hlt : t < ar k
    · obtain ⟨y, hy⟩ : ∃ y, L[t]? = some y := ⟨_, List.getElem?_eq_getElem (by rw [HL.out]; omega)⟩
      have hyr := HIN.out y (List.mem_of_getElem? hy)
      obtain ⟨j, rfl⟩ : ∃ j : Nat, y = j := ⟨y.toNat, by omega⟩
      have hbw : Below w4.heap.size w4 w4 := Below.refl _ _
      have hbx : Below w4.heap.size w4 wE := by rw [← HX.out]; exact hb.out
      obtain ⟨bp, op, rfl, hbp, hcp⟩ := (RP4.out.below hbx).2 (by omega)
      have pj : wE.cell? ⟨bp, op + t, none⟩ = some (.int .i64 j) := hcp t _ (by simp [hy])
      obtain ⟨bn, on, s, rfl, hbn, nj, hsN, hs9⟩ := (HN4.out.below hbx).at_ (t := j) (by omega)
      have hjm : j < m := by omega
      have htm : t < m := by omega
      have hS := Lib.hid (show ∀ x ∈ args ++ [s], x.size ≤ 9 from fun x hx => by
        rcases List.mem_append.1 hx with h | h
        · exact hsm.out x h
        · rw [List.mem_singleton.1 h]; exact hs9)
      have hbaX : ∀ ob : Obj, (wE.drew.alloc ob).cell? ⟨X, 2, none⟩ = some (.slice Aa t ca) := fun ob => (World.cell?_alloc_lt wE.drew ob ⟨X, 2, none⟩ hlX).trans x2
      clear hcp hy hbw hbx
      go_wp2_with (go_at_call 23; refine (Arity_spec _ _).mono ?_; rintro e w' ⟨rfl, rfl⟩)
      go_region_law (first | (refine step_append_rdO _ (by rfl) (.tmp 30) (.tmp 38) 29 (by rfl) (X + 1) 9 i0 _ 1 16 Try.underlying29 hi hz0 hz1 hz2 (by rfl) (by decide) _ t _ (by rfl) (by exact ((own_drewG hown.out).alloc _)) _ 1 _ [.string s] (by rfl) (by exact rd_lit1 (w := wE.drew) (by rfl) rfl) (by exact one_strG s) (by simp only [maxLen]; omega) (by omega) (by first | omega | (simp; done) | (simp; omega)) ?_; intro v3 w3 own3 gr3 _; obtain ⟨A3, c3, rfl, _, _, _⟩ := rd_of_own own3; have hx3 : w3.heap[X]? = some (.cells #[.int .i64 1, .string wd, .slice Aa t ca, .int .i64 0, .slice none 0 0] 36 (0, 0)) := (gr3.block X (by first | omega | (simp; done) | (simp; omega)) (fun e => own_ne_typeG hown.out hx.out (by decide) e.symm)).trans ((Below.heap_alloc _ _ _ (by first | omega | (simp; done) | (simp; omega))).trans hx.out); have px3 := cell_at (j := 2) (u := .slice Aa t ca) hx3 rfl; have fx3 := free_at (j := 2) hx3; have hlx3 := lt_of_block hx3))
      all_goals
        obtain ⟨w6, hw6⟩ : ∃ w6, w6 = w3.setCell ⟨X, 2, none⟩ (.slice A3 (t + 1) c3) := ⟨_, rfl⟩
        have x6 : w6.heap[X]? = some (.cells #[.int .i64 1, .string wd, .slice A3 (t + 1) c3, .int .i64 0, .slice none 0 0] 36 (0, 0)) := by rw [hw6]; exact heap_set_selfG hx3 _
        have own6 : w6.ownsRow (X + 1) 9 1 (.slice A3 (t + 1) c3) (t + 1) (strs (args ++ [s])) := by rw [hw6, strs_snocG]; exact own_setfarG own3 (own_ne_typeG own3 hx3 (by decide)) _
        have b6 : Below X w4 w6 := by rw [hw6]; exact (((below_drewN hb.out 1).alloc (show X ≤ wE.heap.size by omega) _).grown gr3 (by first | omega | (simp; done) | (simp; omega)) (own_ge (own_lowT hown.out (by omega)))).setCell (Nat.le_refl _) _
        have H6 := Lib.hid (And.intro x6 (And.intro own6 b6))
        go_wp2_with fail
        rw [← hw6]
        go_roundw
        case rel => exact ⟨t + 1, c3, A3, args ++ [s], by go_num, by omega, by rw [List.length_append, HAL.out]; rfl, hS, H6.out.1, H6.out.2.1, H6.out.2.2⟩
        case measure => simp [intOf]; omega
    · obtain rfl : t = ar k := by omega
      have rX := (hb.out.block _ (show w.heap.size < X by omega)).trans X4.out
      obtain ⟨r0, r1, r2, r3, r4⟩ := cells5G (lay := Below.refl _ _) rX
      have g0 := free_at (j := 0) rX
      have g1 := free_at (j := 1) rX
      have g2 := free_at (j := 2) rX
      have g3 := free_at (j := 3) rX
      have g4 := free_at (j := 4) rX
      have FRE := Lib.hid (FR4.out.below (show Below w4.heap.size w4 wE by rw [← HX.out]; exact hb.out))
      have HQE := Lib.hid (rdQ_of_own (own_lowT hown.out (show w.heap.size + 1 ≤ X + 1 by omega)))
      have hz := Lib.hid (szS_le 9 args hsm.out)
      clear rX
      go_wp2_with (go_at_call 23; refine (Arity_spec _ _).mono ?_; rintro e w' ⟨rfl, rfl⟩)
      have hfrE := FRE.out
      have hcap : ar k ≤ ca := by
        obtain ⟨_, _, e, h, _, _⟩ := rd_of_own hown.out
        injection e with _ _ e
        omega
      have hzz := hz.out
      rw [HAL.out] at hzz
      exact bodyPost_ret (v := .agg #[.int .i64 1, .string wd, .slice Aa (ar k) ca, .int .i64 0, .slice none 0 0]) (by simp [results, Try.results26, go_sem, r0, r1, r2, r3, r4]) rfl ⟨wd, args, Aa, ca, by rw [HAL.out], by rw [HAL.out]; exact RdQ.mono (P := (w.heap.size + 1 ≤ ·)) (by repeat (first | exact HQE.out | (with_reducible refine RdQ.set_ ?_ (by simp) _))) (fun b _ h => Nat.le_of_succ_le h), by rw [HAL.out]; exact ⟨hcap, hgn, hk9, by omega⟩, (Fr.cur (w := w) (by repeat (first | assumption | (with_reducible refine Fr.alloc ?_ _) | (with_reducible refine Fr.set ?_ hp (by first | omega | (simp; done) | (simp; omega)) _)))), (Fr.gr (by repeat (first | assumption | (with_reducible refine Fr.alloc ?_ _) | (with_reducible refine Fr.set ?_ hp (by first | omega | (simp; done) | (simp; omega)) _))))⟩
end Go.Proofs.Ytbamjfbfipkioaa
