/- Copying drawn statements. -/
import Derived.Test.YtbamjfbfipkioaaDbk
namespace Go.Proofs.Ytbamjfbfipkioaa
open Go.RowKit
set_option linter.unusedVariables false
def RetCop (d n : Nat) (l : List (Tr d)) (w : World) (e : Ending) (w' : World) : Prop := ∃ A c, e = .returned (.slice A n c) ∧ TrQ w' (w.heap.size ≤ ·) d A n l ∧ Below w.heap.size w w' ∧ w.heap.size ≤ w'.heap.size
theorem TrQ.set_ {w : World} {P : Nat → Prop} {d n : Nat} {A : Option Addr} {l : List (Tr d)} (h : TrQ w P d A n l) {p : Addr} (hp : ¬ P p.block) (u : Value) : TrQ (w.setCell p u) P d A n l :=
  h.keep (fun b hb _ => Below.heap_setCell w p u b (fun e => hp (e ▸ hb))) (by simp [World.setCell])
def CopSaid (d : Nat) : Prop := ∀ (lo : Nat) (A : Option Addr) (n c : Nat) (l : List (Tr d)) (w : World), RdT w lo d A n l → szT d l ≤ 1048576 → Calls Try.prog 22 #[.slice A n c] w (RetCop d n l w)
set_option maxRecDepth 100000 in
set_option maxHeartbeats 4000000 in
theorem l17Copies_any : ∀ d : Nat, CopSaid d := by
  obtain ⟨i0, hi, hz0, hz1, hz2'⟩ := info_parts info_Stmt
  obtain ⟨j0, hj, hy0, hy1, hy2⟩ := info_parts info_str
  intro d
  induction d with
  | zero =>
    intro lo A n c l w h _
    obtain rfl := szT_zero_len h
    have hl := Lib.hid h.len
    go_enter Try.func22, Try.ntmps22
    go_wp2
    refine wp_loop_rounds 1 ?_
    rw [rounds_succ]
    go_wp2
    go_ret
    exact ⟨_, 0, rfl, ⟨hl.out, rfl⟩, (by repeat (first | exact Below.refl _ _ | assumption | (refine Below.trans ?_ (Below.mono (by assumption) (by first | omega | (simp; done) | (simp; omega)))) | (with_reducible refine Below.drew ?_) | (with_reducible refine Below.alloc ?_ (by first | omega | (simp; done) | (simp; omega)) _) | (with_reducible refine Below.setCell ?_ (by first | omega | (simp; done) | (simp; omega)) _))), (by first | omega | (simp; done) | (simp; omega))⟩
  | succ d ih =>
    intro lo A n c l w h hsz
    have hln := h.len
    have hn : n ≤ 1048576 := by rw [szT_succ] at hsz; omega
    have HQ := Lib.hid hsz
    have HL := Lib.hid hln
    have H := Lib.hid h
    clear h hln hsz
    go_enter Try.func22, Try.ntmps22
    go_wp2_with fail
    obtain ⟨w0, hw0⟩ : ∃ w0, w0 = w.alloc (.cells #[] 36) := ⟨_, rfl⟩
    rw [← hw0]
    have own0 := Lib.hid (show OwnT w0 w.heap.size d (.slice (some ⟨w.heap.size, 0, none⟩) 0 0) [] by rw [hw0]; exact ownT_empty w _)
    have B0 := Lib.hid (show Below w.heap.size w w0 by rw [hw0]; exact (by repeat (first | exact Below.refl _ _ | assumption | (refine Below.trans ?_ (Below.mono (by assumption) (by first | omega | (simp; done) | (simp; omega)))) | (with_reducible refine Below.drew ?_) | (with_reducible refine Below.alloc ?_ (by first | omega | (simp; done) | (simp; omega)) _) | (with_reducible refine Below.setCell ?_ (by first | omega | (simp; done) | (simp; omega)) _))))
    clear hw0
    go_loopw [3, 4] (fun v i wr => ∃ t : Nat, i = .int .i64 t ∧ t ≤ n ∧ Hid (OwnT wr w.heap.size d v (l.take t)) ∧ Hid (Below w.heap.size w wr)) (fun _ i _ => n - (intOf i).toNat)
    case atStart => exact ⟨0, rfl, Nat.zero_le _, own0.out, B0.out⟩
    case round =>
      obtain ⟨t, rfl, ht, hown, hb⟩ := hrel
      obtain ⟨wE, rfl⟩ : ∃ wE : World, wE = wr := ⟨_, rfl⟩
      have hbs := hb.out.size
      obtain ⟨Ao, co, hv, _, _⟩ := hown.out.slice
      have hlt2 : (l.take t).length = t := by rw [List.length_take, HL.out]; omega
      rw [hlt2] at hv
      subst hv
      have HLT := Lib.hid hlt2
      clear hlt2
      by_cases hlt : t < n
      · obtain ⟨b, off, s, Aa, ca, Ab, nb, cb, rfl, hbl, hs, hcs, hra, hrb⟩ := (H.out.below hb.out).at_ hlt
        obtain ⟨q0, q1, q2, q3, q4⟩ := hcs
        have hme := szT_mem hs
        have hz2 : szT d (bdT s) ≤ 1048576 := by have := HQ.out; rw [szT_succ] at this; unfold szE at hme; omega
        have hz3 : (hdT s).args.length ≤ 1048576 := by have := HQ.out; rw [szT_succ] at this; unfold szE at hme; omega
        have HTK := Lib.hid (show l.take (t + 1) = l.take t ++ [s] by rw [List.take_add_one, hs]; rfl)
        obtain ⟨m, hm⟩ : ∃ m, m = (hdT s).args.length := ⟨_, rfl⟩
        have HM := Lib.hid hm
        rw [← hm] at q2 hra hz3
        have HRA := Lib.hid hra.rd
        have HRB := Lib.hid hrb
        clear hs hme hm hra hrb
        go_upto_region 6 with (fail)
        obtain ⟨X, hX⟩ : ∃ X, X = wE.heap.size := ⟨_, rfl⟩
        obtain ⟨w1, hw1⟩ : ∃ w1, w1 = wE.alloc (.cells #[.int .i64 (hdT s).k, .string (hdT s).word, .slice Aa m ca, .int .i64 (hdT s).count, .slice Ab nb cb] 36) := ⟨_, rfl⟩
        rw [← hw1, ← hX]
        have x1 : w1.heap[X]? = some (.cells #[.int .i64 (hdT s).k, .string (hdT s).word, .slice Aa m ca, .int .i64 (hdT s).count, .slice Ab nb cb] 36 (0, 0)) := by rw [hw1, hX]; exact boxed1_0 _ _
        have b1 : Below X wE w1 := by rw [hw1, hX]; exact (by repeat (first | exact Below.refl _ _ | assumption | (refine Below.trans ?_ (Below.mono (by assumption) (by first | omega | (simp; done) | (simp; omega)))) | (with_reducible refine Below.drew ?_) | (with_reducible refine Below.alloc ?_ (by first | omega | (simp; done) | (simp; omega)) _) | (with_reducible refine Below.setCell ?_ (by first | omega | (simp; done) | (simp; omega)) _)))
        have z1 : w1.heap.size = X + 1 := by rw [hw1, hX]; simp
        have own2 : (w1.alloc (.cells #[] 9)).ownsRow w1.heap.size 9 1 (.slice (some ⟨w1.heap.size, 0, none⟩) 0 0) 0 [] := own_empty w1 _ _
        have b2 : Below w1.heap.size w1 (w1.alloc (.cells #[] 9)) := (by repeat (first | exact Below.refl _ _ | assumption | (refine Below.trans ?_ (Below.mono (by assumption) (by first | omega | (simp; done) | (simp; omega)))) | (with_reducible refine Below.drew ?_) | (with_reducible refine Below.alloc ?_ (by first | omega | (simp; done) | (simp; omega)) _) | (with_reducible refine Below.setCell ?_ (by first | omega | (simp; done) | (simp; omega)) _)))
        have b1' : Below wE.heap.size wE w1 := by rw [← hX]; exact b1
        have ra2 : Rd (w1.alloc (.cells #[] 9)) 1 Aa m (strs (hdT s).args) := (HRA.out.below b1').below b2
        have x2 := (b2.block X (by omega)).trans x1
        obtain ⟨p0, p1, p2, p3, p4⟩ := cells5G (lay := Below.refl _ _) x1
        obtain ⟨r0, r1, r2, r3, r4⟩ := cells5G (lay := Below.refl _ _) x2
        have lx1 := lt_of_block x1
        have B1 := Lib.hid b1
        have X2 := Lib.hid x2
        have HX := Lib.hid hX
        have OW2 := Lib.hid own2
        have Z1 := Lib.hid z1
        clear x1 x2 b1 b1' b2 hw1 hX q0 q1 q2 q3 q4 own2 z1
        go_wp2_with (at_builtin; refine wpList_append_rd _ rfl _ _ 29 rfl w1.heap.size 9 j0 _ 1 16 Try.underlying29 hj hy0 hy1 hy2 rfl (by decide) _ _ _ rfl OW2.out _ m _ (strs (hdT s).args) rfl ra2 (strs_oneG _) ?c3 ?c4 ?c5 ?_)
        case c3 => simp only [maxLen]; omega
        case c4 => omega
        case c5 => first | omega | (simp; done) | (simp; omega)
        intro v3 w3 own3 gr3 hat3
        obtain ⟨A3, c3, rfl, hc3, _, _⟩ := rd_of_own own3
        have x3 := (gr3.block X (by first | omega | (simp; done) | (simp; omega)) (by simp [Value.ownBlock] <;> (have := Z1.out; omega))).trans X2.out
        obtain ⟨s0, s1, s2, s3, s4⟩ := cells5G (lay := Below.refl _ _) x3
        have f2 := free_at (j := 2) x3
        have lx3 := lt_of_block x3
        have X3 := Lib.hid x3
        have O3 := Lib.hid own3
        have G3 := Lib.hid gr3
        clear p0 p1 p2 p3 p4 r0 r1 r2 r3 r4 x3 own3 gr3 hat3 ra2 X2
        go_upto_region 7 with (fail)
        obtain ⟨w4, hw4⟩ : ∃ w4, w4 = w3.setCell ⟨X, 2, none⟩ (.slice A3 m c3) := ⟨_, rfl⟩
        try rw [Nat.zero_add]
        rw [← hw4]
        have x4 : w4.heap[X]? = some (.cells #[.int .i64 (hdT s).k, .string (hdT s).word, .slice A3 m c3, .int .i64 (hdT s).count, .slice Ab nb cb] 36 (0, 0)) := by rw [hw4]; exact heap_set_selfG X3.out _
        have z4 : w4.heap.size = w3.heap.size := by rw [hw4]; simp [World.setCell]
        have rq4 : RdQ w4 (X + 1 ≤ ·) 1 A3 m (strs (hdT s).args) := by
          have h := rdQ_of_own (by simpa using O3.out : w3.ownsRow w1.heap.size 9 1 (.slice A3 m c3) m (strs (hdT s).args))
          rw [Z1.out] at h
          rw [hw4]
          exact h.set_ (by show ¬ (X + 1 ≤ X); omega) _
        have b4 : Below X wE w4 := by
          rw [hw4]
          exact (((B1.out.alloc (show X ≤ w1.heap.size by omega) _).grown G3.out (by first | omega | (simp; done) | (simp; omega)) (fun k hk => by simp [Value.ownBlock] at hk; omega)).setCell (Nat.le_refl _) _)
        have b4' : Below wE.heap.size wE w4 := by rw [← HX.out]; exact b4
        obtain ⟨t0, t1, t2, t3, t4⟩ := cells5G (lay := Below.refl _ _) x4
        have hrb4 := Lib.hid (HRB.out.below b4')
        have X4 := Lib.hid x4
        have RQ4 := Lib.hid rq4
        have B4 := Lib.hid b4'
        have lx4 := lt_of_block x4
        have hEX : wE.heap.size = X := HX.out.symm
        clear s0 s1 s2 s3 s4 f2 x4 rq4 b4 b4' hw4 X3 O3 G3 B1
        go_wp2_with fail
        refine (ih lo _ _ _ (bdT s) w4 hrb4.out hz2).mono ?_
        rintro e w5 ⟨A5, c5, rfl, htr, b5, s5⟩
        have x5 := (b5.block X lx4).trans X4.out
        obtain ⟨u0, u1', u2', u3', u4'⟩ := cells5G (lay := Below.refl _ _) x5
        have f4 := free_at (j := 4) x5
        have X5 := Lib.hid x5
        have TR5 := Lib.hid htr
        have RQ5 := Lib.hid (RQ4.out.below b5)
        have B5 := Lib.hid (B4.out.trans (b5.mono (by omega)))
        have lx5 := lt_of_block x5
        clear t0 t1 t2 t3 t4 x5 htr b5 X4 RQ4 B4
        go_upto_region 8 with (fail)
        obtain ⟨w6, hw6⟩ : ∃ w6, w6 = w5.setCell ⟨X, 4, none⟩ (.slice A5 nb c5) := ⟨_, rfl⟩
        rw [← hw6]
        have x6 : w6.heap[X]? = some (.cells #[.int .i64 (hdT s).k, .string (hdT s).word, .slice A3 m c3, .int .i64 (hdT s).count, .slice A5 nb c5] 36 (0, 0)) := by rw [hw6]; exact heap_set_selfG X5.out _
        have rq6 : RdQ w6 (X ≤ ·) 1 A3 m (strs (hdT s).args) := by rw [hw6]; exact (RQ5.out.set_ (p := ⟨X, 4, none⟩) (by show ¬ (X + 1 ≤ X); omega) _).mono (fun b _ h => by omega)
        have tr6 : TrQ w6 (X ≤ ·) d A5 nb (bdT s) := by rw [hw6]; exact (TR5.out.set_ (p := ⟨X, 4, none⟩) (by show ¬ (w4.heap.size ≤ X); omega) _).mono (fun b _ h => by omega)
        have b6 : Below wE.heap.size wE w6 := by rw [hw6]; exact B5.out.setCell (show wE.heap.size ≤ X by omega) _
        obtain ⟨y0, y1, y2, y3, y4⟩ := cells5G (lay := Below.refl _ _) x6
        have lx6 := lt_of_block x6
        rw [HM.out] at rq6
        have hmc : (hdT s).args.length ≤ c3 := by rw [← HM.out]; simpa using hc3
        obtain ⟨xs, hox, hpush⟩ := (hown.out.below b6).add (R := X) (fun k hk => by have := hown.out.lt k hk; omega) (by omega) (stQ_mk (h := hdT s) (cb := c5) rq6 tr6 hmc)
        have e : scl (hdT s) A3 c3 A5 nb c5 = [.int .i64 (hdT s).k, .string (hdT s).word, .slice A3 m c3, .int .i64 (hdT s).count, .slice A5 nb c5] := by rw [HM.out]; rfl
        rw [HLT.out] at hox hpush
        have PU := Lib.hid hpush
        have EE := Lib.hid e
        have B6 := Lib.hid (hb.out.trans (b6.mono hbs))
        have hs6 := B6.out.size
        have HGE := Lib.hid hown.out.ge
        clear u0 u1' u2' u3' u4' f4 x6 rq6 tr6 b6 hw6 hpush e X5 TR5 RQ5 B5
        go_wp2_with (at_builtin; refine wpList_append_rd _ rfl _ _ 24 rfl w.heap.size 36 i0 _ 5 80 Try.underlying24 hi hz0 hz1 hz2' rfl (by decide) _ _ _ rfl (hox.alloc _) _ 1 1 _ rfl (rd_lit1 ?c0 rfl) ?c2 ?c3 ?c4 ?c5 ?_)
        case c0 => first | rfl | simp
        case c2 => repeat' (first | rfl | apply And.intro)
        case c3 => simp only [maxLen]; omega
        case c4 => omega
        case c5 => first | omega | (simp; omega)
        intro v7 w7 own7 gr7 hat
        have O7 := Lib.hid (PU.out _ w7 v7 (by rw [EE.out]; exact own7) ((Below.refl _ _).alloc (Nat.le_refl _) _) gr7 (hat.imp id fun e => e.trans (by simp)))
        have B7 := Lib.hid ((B6.out.alloc hs6 _).grown gr7 (by first | omega | (simp; omega)) HGE.out)
        clear own7 gr7 hox PU y0 y1 y2 y3 y4
        go_wp2_with fail
        go_roundw
        case rel => exact ⟨t + 1, by go_num, by omega, by rw [HTK.out]; exact O7.out, B7.out⟩
        case measure => simp [intOf]; omega
      · obtain rfl : t = n := by omega
        have htk : l.take t = l := List.take_of_length_le (by rw [HL.out]; exact Nat.le_refl _)
        have O := Lib.hid (show OwnT wE w.heap.size d (.slice Ao t co) l by have h := hown.out; rw [htk] at h; exact h)
        go_wp2_with fail
        go_ret
        exact ⟨Ao, co, rfl, O.out.tr HL.out, hb.out, hbs⟩
end Go.Proofs.Ytbamjfbfipkioaa
