/- What the calls that this law reaches answer, part 26 of 30. -/
import Derived.Test.YtbamjfbfipkioaaDoorJFCheck22
import Derived.Test.YtbamjfbfipkioaaDoorJFCheck24
namespace Go.Proofs.YtbamjfbfipkioaaDoor
open Go.RowKit
set_option linter.unusedVariables false
def RetCop (d n : Nat) (l : List (Tr d)) (w : World) (e : Ending) (w' : World) : Prop := ∃ A c, e = .returned (.slice A n c) ∧ TrQ w' (w.heap.size ≤ ·) d A n l ∧ Below w.heap.size w w' ∧ w.heap.size ≤ w'.heap.size
theorem TrQ.set_ {w : World} {P : Nat → Prop} {d n : Nat} {A : Option Addr} {l : List (Tr d)} (h : TrQ w P d A n l) {p : Addr} (hp : ¬ P p.block) (u : Value) : TrQ (w.setCell p u) P d A n l :=
  h.keep (fun b hb _ => Below.heap_setCell w p u b (fun e => hp (e ▸ hb))) (by simp [World.setCell])
def CopSaid (d : Nat) : Prop := ∀ (lo : Nat) (A : Option Addr) (n c : Nat) (l : List (Tr d)) (w : World), RdT w lo d A n l → szT d l ≤ 1048576 → Calls Tryd.prog 52 #[.slice A n c] w (RetCop d n l w)
set_option maxRecDepth 100000 in
set_option maxHeartbeats 4000000 in
theorem l17Copies_any : ∀ d : Nat, CopSaid d := by
  obtain ⟨i0, hi, hz0, hz1, hz2'⟩ := info_parts info_Stmt
  obtain ⟨j0, hj, hy0, hy1, hy2⟩ := info_parts info_str
  intro d
  induction d with
  | zero =>
    intro lo A n c l w h _
    obtain rfl := szT_zero_len h
    have hl := Lib.hid h.len
    go_enter Tryd.func52, Tryd.ntmps52
    go_wp2
    refine wp_loop_rounds 1 ?_
    rw [rounds_succ]
    go_wp2
    go_ret
    exact ⟨_, 0, rfl, ⟨hl.out, rfl⟩, (by repeat (first | exact Below.refl _ _ | assumption | (refine Below.trans ?_ (Below.mono (by assumption) (by first | omega | (simp; done) | (simp; omega)))) | (with_reducible refine Below.drew ?_) | (with_reducible refine Below.alloc ?_ (by first | omega | (simp; done) | (simp; omega)) _) | (with_reducible refine Below.setCell ?_ (by first | omega | (simp; done) | (simp; omega)) _))), (by first | omega | (simp; done) | (simp; omega))⟩
  | succ d ih =>
    intro lo A n c l w h hsz
    have hln := h.len
    have hn : n ≤ 1048576 := by rw [szT_succ] at hsz; omega
    have HQ := Lib.hid hsz
    have HL := Lib.hid hln
    have H := Lib.hid h
    clear h hln hsz
    go_enter Tryd.func52, Tryd.ntmps52
    go_wp2_with fail
    obtain ⟨w0, hw0⟩ : ∃ w0, w0 = w.alloc (.cells #[] 27) := ⟨_, rfl⟩
    rw [← hw0]
    have own0 := Lib.hid (show OwnT w0 w.heap.size d (.slice (some ⟨w.heap.size, 0, none⟩) 0 0) [] by rw [hw0]; exact ownT_empty w _)
    have B0 := Lib.hid (show Below w.heap.size w w0 by rw [hw0]; exact (by repeat (first | exact Below.refl _ _ | assumption | (refine Below.trans ?_ (Below.mono (by assumption) (by first | omega | (simp; done) | (simp; omega)))) | (with_reducible refine Below.drew ?_) | (with_reducible refine Below.alloc ?_ (by first | omega | (simp; done) | (simp; omega)) _) | (with_reducible refine Below.setCell ?_ (by first | omega | (simp; done) | (simp; omega)) _))))
    clear hw0
    go_loopw [3, 4] (fun v i wr => ∃ t : Nat, i = .int .i64 t ∧ t ≤ n ∧ Hid (OwnT wr w.heap.size d v (l.take t)) ∧ Hid (Below w.heap.size w wr)) (fun _ i _ => n - (intOf i).toNat)
    case atStart => exact ⟨0, rfl, Nat.zero_le _, own0.out, B0.out⟩
    case round =>
      obtain ⟨t, rfl, ht, hown, hb⟩ := hrel
      obtain ⟨wE, rfl⟩ : ∃ wE : World, wE = wr := ⟨_, rfl⟩
      have hbs := hb.out.size
      obtain ⟨Ao, co, hv, _, _⟩ := hown.out.slice
      have hlt2 : (l.take t).length = t := by rw [List.length_take, HL.out]; omega
      rw [hlt2] at hv
      subst hv
      have HLT := Lib.hid hlt2
      clear hlt2
      by_cases hlt : t < n
      · obtain ⟨b, off, s, Aa, ca, Ab, nb, cb, rfl, hbl, hs, hcs, hra, hrb⟩ := (H.out.below hb.out).at_ hlt
        obtain ⟨q0, q1, q2, q3, q4⟩ := hcs
        have hme := szT_mem hs
        have hz2 : szT d (bdT s) ≤ 1048576 := by have := HQ.out; rw [szT_succ] at this; unfold szE at hme; omega
        have hz3 : (hdT s).args.length ≤ 1048576 := by have := HQ.out; rw [szT_succ] at this; unfold szE at hme; omega
        have HTK := Lib.hid (show l.take (t + 1) = l.take t ++ [s] by rw [List.take_add_one, hs]; rfl)
        obtain ⟨m, hm⟩ : ∃ m, m = (hdT s).args.length := ⟨_, rfl⟩
        have HM := Lib.hid hm
        rw [← hm] at q2 hra hz3
        have HRA := Lib.hid hra.rd
        have HRB := Lib.hid hrb
        clear hs hme hm hra hrb
        go_upto_region 6 with (fail)
        obtain ⟨X, hX⟩ : ∃ X, X = wE.heap.size := ⟨_, rfl⟩
        obtain ⟨w1, hw1⟩ : ∃ w1, w1 = wE.alloc (.cells #[.int .i64 (hdT s).k, .string (hdT s).word, .slice Aa m ca, .int .i64 (hdT s).count, .slice Ab nb cb] 27) := ⟨_, rfl⟩
        rw [← hw1, ← hX]
        have x1 : w1.heap[X]? = some (.cells #[.int .i64 (hdT s).k, .string (hdT s).word, .slice Aa m ca, .int .i64 (hdT s).count, .slice Ab nb cb] 27 (0, 0)) := by rw [hw1, hX]; exact boxed1_0 _ _
        have b1 : Below X wE w1 := by rw [hw1, hX]; exact (by repeat (first | exact Below.refl _ _ | assumption | (refine Below.trans ?_ (Below.mono (by assumption) (by first | omega | (simp; done) | (simp; omega)))) | (with_reducible refine Below.drew ?_) | (with_reducible refine Below.alloc ?_ (by first | omega | (simp; done) | (simp; omega)) _) | (with_reducible refine Below.setCell ?_ (by first | omega | (simp; done) | (simp; omega)) _)))
        have z1 : w1.heap.size = X + 1 := by rw [hw1, hX]; simp
        have own2 : (w1.alloc (.cells #[] 9)).ownsRow w1.heap.size 9 1 (.slice (some ⟨w1.heap.size, 0, none⟩) 0 0) 0 [] := own_empty w1 _ _
        have b2 : Below w1.heap.size w1 (w1.alloc (.cells #[] 9)) := (by repeat (first | exact Below.refl _ _ | assumption | (refine Below.trans ?_ (Below.mono (by assumption) (by first | omega | (simp; done) | (simp; omega)))) | (with_reducible refine Below.drew ?_) | (with_reducible refine Below.alloc ?_ (by first | omega | (simp; done) | (simp; omega)) _) | (with_reducible refine Below.setCell ?_ (by first | omega | (simp; done) | (simp; omega)) _)))
        have b1' : Below wE.heap.size wE w1 := by rw [← hX]; exact b1
        have ra2 : Rd (w1.alloc (.cells #[] 9)) 1 Aa m (strs (hdT s).args) := (HRA.out.below b1').below b2
        have x2 := (b2.block X (by omega)).trans x1
        obtain ⟨p0, p1, p2, p3, p4⟩ := cells5G (lay := Below.refl _ _) x1
        obtain ⟨r0, r1, r2, r3, r4⟩ := cells5G (lay := Below.refl _ _) x2
        have lx1 := lt_of_block x1
        have B1 := Lib.hid b1
        have X2 := Lib.hid x2
        have HX := Lib.hid hX
        have OW2 := Lib.hid own2
        have Z1 := Lib.hid z1
        clear x1 x2 b1 b1' b2 hw1 hX q0 q1 q2 q3 q4 own2 z1
        go_wp2_with (at_builtin; refine wpList_append_rd _ rfl _ _ 24 rfl w1.heap.size 9 j0 _ 1 16 Tryd.underlying24 hj hy0 hy1 hy2 rfl (by decide) _ _ _ rfl OW2.out _ m _ (strs (hdT s).args) rfl ra2 (strs_oneG _) ?c3 ?c4 ?c5 ?_)
        case c3 => simp only [maxLen]; omega
        case c4 => omega
        case c5 => first | omega | (simp; done) | (simp; omega)
        intro v3 w3 own3 gr3 hat3
        obtain ⟨A3, c3, rfl, hc3, _, _⟩ := rd_of_own own3
        have x3 := (gr3.block X (by first | omega | (simp; done) | (simp; omega)) (by simp [Value.ownBlock] <;> (have := Z1.out; omega))).trans X2.out
        obtain ⟨s0, s1, s2, s3, s4⟩ := cells5G (lay := Below.refl _ _) x3
        have f2 := free_at (j := 2) x3
        have lx3 := lt_of_block x3
        have X3 := Lib.hid x3
        have O3 := Lib.hid own3
        have G3 := Lib.hid gr3
        clear p0 p1 p2 p3 p4 r0 r1 r2 r3 r4 x3 own3 gr3 hat3 ra2 X2
        go_upto_region 7 with (fail)
        obtain ⟨w4, hw4⟩ : ∃ w4, w4 = w3.setCell ⟨X, 2, none⟩ (.slice A3 m c3) := ⟨_, rfl⟩
        try rw [Nat.zero_add]
        rw [← hw4]
        have x4 : w4.heap[X]? = some (.cells #[.int .i64 (hdT s).k, .string (hdT s).word, .slice A3 m c3, .int .i64 (hdT s).count, .slice Ab nb cb] 27 (0, 0)) := by rw [hw4]; exact heap_set_selfG X3.out _
        have z4 : w4.heap.size = w3.heap.size := by rw [hw4]; simp [World.setCell]
        have rq4 : RdQ w4 (X + 1 ≤ ·) 1 A3 m (strs (hdT s).args) := by
          have h := rdQ_of_own (by simpa using O3.out : w3.ownsRow w1.heap.size 9 1 (.slice A3 m c3) m (strs (hdT s).args))
          rw [Z1.out] at h
          rw [hw4]
          exact h.set_ (by show ¬ (X + 1 ≤ X); omega) _
        have b4 : Below X wE w4 := by
          rw [hw4]
          exact (((B1.out.alloc (show X ≤ w1.heap.size by omega) _).grown G3.out (by first | omega | (simp; done) | (simp; omega)) (fun k hk => by simp [Value.ownBlock] at hk; omega)).setCell (Nat.le_refl _) _)
        have b4' : Below wE.heap.size wE w4 := by rw [← HX.out]; exact b4
        obtain ⟨t0, t1, t2, t3, t4⟩ := cells5G (lay := Below.refl _ _) x4
        have hrb4 := Lib.hid (HRB.out.below b4')
        have X4 := Lib.hid x4
        have RQ4 := Lib.hid rq4
        have B4 := Lib.hid b4'
        have lx4 := lt_of_block x4
        have hEX : wE.heap.size = X := HX.out.symm
        clear s0 s1 s2 s3 s4 f2 x4 rq4 b4 b4' hw4 X3 O3 G3 B1
        go_wp2_with fail
        refine (ih lo _ _ _ (bdT s) w4 hrb4.out hz2).mono ?_
        rintro e w5 ⟨A5, c5, rfl, htr, b5, s5⟩
        have x5 := (b5.block X lx4).trans X4.out
        obtain ⟨u0, u1', u2', u3', u4'⟩ := cells5G (lay := Below.refl _ _) x5
        have f4 := free_at (j := 4) x5
        have X5 := Lib.hid x5
        have TR5 := Lib.hid htr
        have RQ5 := Lib.hid (RQ4.out.below b5)
        have B5 := Lib.hid (B4.out.trans (b5.mono (by omega)))
        have lx5 := lt_of_block x5
        clear t0 t1 t2 t3 t4 x5 htr b5 X4 RQ4 B4
        go_upto_region 8 with (fail)
        obtain ⟨w6, hw6⟩ : ∃ w6, w6 = w5.setCell ⟨X, 4, none⟩ (.slice A5 nb c5) := ⟨_, rfl⟩
        rw [← hw6]
        have x6 : w6.heap[X]? = some (.cells #[.int .i64 (hdT s).k, .string (hdT s).word, .slice A3 m c3, .int .i64 (hdT s).count, .slice A5 nb c5] 27 (0, 0)) := by rw [hw6]; exact heap_set_selfG X5.out _
        have rq6 : RdQ w6 (X ≤ ·) 1 A3 m (strs (hdT s).args) := by rw [hw6]; exact (RQ5.out.set_ (p := ⟨X, 4, none⟩) (by show ¬ (X + 1 ≤ X); omega) _).mono (fun b _ h => by omega)
        have tr6 : TrQ w6 (X ≤ ·) d A5 nb (bdT s) := by rw [hw6]; exact (TR5.out.set_ (p := ⟨X, 4, none⟩) (by show ¬ (w4.heap.size ≤ X); omega) _).mono (fun b _ h => by omega)
        have b6 : Below wE.heap.size wE w6 := by rw [hw6]; exact B5.out.setCell (show wE.heap.size ≤ X by omega) _
        obtain ⟨y0, y1, y2, y3, y4⟩ := cells5G (lay := Below.refl _ _) x6
        have lx6 := lt_of_block x6
        rw [HM.out] at rq6
        have hmc : (hdT s).args.length ≤ c3 := by rw [← HM.out]; simpa using hc3
        obtain ⟨xs, hox, hpush⟩ := (hown.out.below b6).add (R := X) (fun k hk => by have := hown.out.lt k hk; omega) (by omega) (stQ_mk (h := hdT s) (cb := c5) rq6 tr6 hmc)
        have e : scl (hdT s) A3 c3 A5 nb c5 = [.int .i64 (hdT s).k, .string (hdT s).word, .slice A3 m c3, .int .i64 (hdT s).count, .slice A5 nb c5] := by rw [HM.out]; rfl
        rw [HLT.out] at hox hpush
        have PU := Lib.hid hpush
        have EE := Lib.hid e
        have B6 := Lib.hid (hb.out.trans (b6.mono hbs))
        have hs6 := B6.out.size
        have HGE := Lib.hid hown.out.ge
        clear u0 u1' u2' u3' u4' f4 x6 rq6 tr6 b6 hw6 hpush e X5 TR5 RQ5 B5
        go_wp2_with (at_builtin; refine wpList_append_rd _ rfl _ _ 25 rfl w.heap.size 27 i0 _ 5 80 Tryd.underlying25 hi hz0 hz1 hz2' rfl (by decide) _ _ _ rfl (hox.alloc _) _ 1 1 _ rfl (rd_lit1 ?c0 rfl) ?c2 ?c3 ?c4 ?c5 ?_)
        case c0 => first | rfl | simp
        case c2 => repeat' (first | rfl | apply And.intro)
        case c3 => simp only [maxLen]; omega
        case c4 => omega
        case c5 => first | omega | (simp; omega)
        intro v7 w7 own7 gr7 hat
        have O7 := Lib.hid (PU.out _ w7 v7 (by rw [EE.out]; exact own7) ((Below.refl _ _).alloc (Nat.le_refl _) _) gr7 (hat.imp id fun e => e.trans (by simp)))
        have B7 := Lib.hid ((B6.out.alloc hs6 _).grown gr7 (by first | omega | (simp; omega)) HGE.out)
        clear own7 gr7 hox PU y0 y1 y2 y3 y4
        go_wp2_with fail
        go_roundw
        case rel => exact ⟨t + 1, by go_num, by omega, by rw [HTK.out]; exact O7.out, B7.out⟩
        case measure => simp [intOf]; omega
      · obtain rfl : t = n := by omega
        have htk : l.take t = l := List.take_of_length_le (by rw [HL.out]; exact Nat.le_refl _)
        have O := Lib.hid (show OwnT wE w.heap.size d (.slice Ao t co) l by have h := hown.out; rw [htk] at h; exact h)
        go_wp2_with fail
        go_ret
        exact ⟨Ao, co, rfl, O.out.tr HL.out, hb.out, hbs⟩
end Go.Proofs.YtbamjfbfipkioaaDoor
namespace Go.Proofs.YtbamjfbfipkioaaDoor
open Go.RowKit
set_option linter.unusedVariables false
theorem ElQ.up3 {w : World} {P : Nat → Prop} {xs : List Value} {l : List (Tr 3)} (h : ElQ w P 2 xs l) : ∃ l' : List (Tr 6), ElQ w P 5 xs l' ∧ szT 6 l' = szT 3 l ∧ l'.length = l.length :=
  ⟨((l.map (upT 3)).map (upT 4)).map (upT 5), h.up.up.up, by rw [szT_up, szT_up, szT_up], by rw [List.length_map, List.length_map, List.length_map]⟩
/-- The program's variable X ahead of the bending. -/
structure SB (w : World) (p X B : Nat) (Aq : Option Addr) (nq cq : Nat) (Q : List ByteArray) (Ab : Option Addr) (nb cb : Nat) (l : List (Tr 3)) (xs : List Value) (W : World) : Prop where
  fr : Fr w p W
  r0 : W.heap[w.heap.size]? = some (.cells #[.slice none 0 0, .slice none 0 0] 35 (0, 0))
  x : W.heap[X]? = some (.cells #[.slice Aq nq cq, .slice Ab nb cb] 35 (0, 0))
  q : W.ownsRow (w.heap.size + 1) 9 1 (.slice Aq nq cq) nq (strs Q)
  ql : Q.length = nq
  qs : Short 3 Q
  qb : ∀ k, (Value.slice Aq nq cq).ownBlock = some k → k < B
  hB : w.heap.size + 1 ≤ B
  hX : B ≤ X
  bo : W.ownsRow B 27 5 (.slice Ab nb cb) nb xs
  be : ElQ W (fun b => B ≤ b ∧ b < X ∧ some b ≠ (Value.slice Ab nb cb).ownBlock) 2 xs l
  bl : l.length = nb
  bs : szT 3 l ≤ 16000
  bx : ∀ k, (Value.slice Ab nb cb).ownBlock = some k → k < X
/-- The program's variable X behind the bending. -/
def PE (w : World) (p X : Nat) (W : World) : Prop := ∃ (Aq : Option Addr) (nq cq : Nat) (Q : List ByteArray) (vb : Value) (l : List (Tr 6)), Fr w p W ∧ W.heap[w.heap.size]? = some (.cells #[.slice none 0 0, .slice none 0 0] 35 (0, 0)) ∧
  W.heap[X]? = some (.cells #[.slice Aq nq cq, vb] 35 (0, 0)) ∧ RdQ W (fun b => w.heap.size < b ∧ some b ≠ vb.ownBlock) 1 Aq nq (strs Q) ∧ (Q.length = nq ∧ nq ≤ 4 ∧ nq ≤ cq ∧ cq ≤ maxLen ∧ ∀ s ∈ Q, s.size ≤ 9) ∧ OwnT W (w.heap.size + 1) 5 vb l ∧ szT 6 l ≤ 100000
section
variable {w W : World} {p X B nq cq nb cb : Nat} {Aq Ab : Option Addr} {Q : List ByteArray} {l : List (Tr 3)} {xs : List Value}
theorem SB.call {W' : World} (h : SB w p X B Aq nq cq Q Ab nb cb l xs W) (hp : p < w.heap.size) (hf : Fr W p W') : SB w p X B Aq nq cq Q Ab nb cb l xs W' := by
  have h1 := h.hB
  have h2 := h.hX
  exact ⟨h.fr.call hf.cur hf.gr, fr_heap hf (by omega) h.r0, fr_heap hf (by omega) h.x, own_drawG h.q hf.gr (by omega), h.ql, h.qs, h.qb, h.hB, h.hX, own_drawG h.bo hf.gr (by omega),
    h.be.keep (fun b hb hlt => hf.gr.block b hlt (fun e => by injection e with e; have := hb.1; omega)) hf.gr.size, h.bl, h.bs, h.bx⟩
theorem SB.q9 (h : SB w p X B Aq nq cq Q Ab nb cb l xs W) : Q.length = nq ∧ nq ≤ 4 ∧ nq ≤ cq ∧ cq ≤ maxLen ∧ ∀ s ∈ Q, s.size ≤ 9 := by
  obtain ⟨_, _, e, h1, h2, _⟩ := rd_of_own h.q
  injection e with _ _ e
  subst e
  exact ⟨h.ql, by have := h.qs.2.1; rw [h.ql] at this; omega, h1, h2, h.qs.2.2⟩
theorem SB.bge (h : SB w p X B Aq nq cq Q Ab nb cb l xs W) : ∀ k, (Value.slice Ab nb cb).ownBlock = some k → B ≤ k := fun k hk => (h.bo.lt k hk).1
theorem SB.qrd (h : SB w p X B Aq nq cq Q Ab nb cb l xs W) : RdQ W (fun b => w.heap.size < b ∧ b < B) 1 Aq nq (strs Q) := by
  have r := rdQ_of_own h.q
  refine ⟨r.1, fun h0 => ?_⟩
  obtain ⟨b, off, e, hb, hlt, hc⟩ := r.2 h0
  have hb' : w.heap.size + 1 ≤ b := hb
  refine ⟨b, off, e, ⟨by omega, ?_⟩, hlt, hc⟩
  subst e
  exact h.qb b rfl
/-- Whatever turned above, X's new cells and the two rows make the end. -/
theorem SB.fin {W6 : World} {Aq' : Option Addr} {nq' cq' : Nat} {Q' : List ByteArray} {vb : Value} {l' : List (Tr 6)} {ys : List Value} {j : Nat} {u : Value} (h : SB w p X B Aq nq cq Q Ab nb cb l xs W) (hp : p < w.heap.size) (f6 : Fr w p W6)
    (r6 : W6.heap[w.heap.size]? = some (.cells #[.slice none 0 0, .slice none 0 0] 35 (0, 0))) (x6 : (W6.setCell ⟨X, j, none⟩ u).heap[X]? = some (.cells #[.slice Aq' nq' cq', vb] 35 (0, 0)))
    (hq : RdQ W6 (fun b => w.heap.size < b ∧ b ≠ X ∧ some b ≠ vb.ownBlock) 1 Aq' nq' (strs Q')) (hs : Q'.length = nq' ∧ nq' ≤ 4 ∧ nq' ≤ cq' ∧ cq' ≤ maxLen ∧ ∀ s ∈ Q', s.size ≤ 9)
    (ho : W6.ownsRow (w.heap.size + 1) 27 5 vb l'.length ys) (hv : vb.ownBlock ≠ some X) (he : ElQ W6 (fun b => w.heap.size < b ∧ b ≠ X ∧ some b ≠ vb.ownBlock) 5 ys l') (hz : szT 6 l' ≤ 100000) : PE w p X (W6.setCell ⟨X, j, none⟩ u) := by
  have h1 := h.hB
  have h2 := h.hX
  refine ⟨Aq', nq', cq', Q', vb, l', f6.set hp (show w.heap.size ≤ X by omega) _, heap_set_farG r6 (by show w.heap.size ≠ X; omega) _, x6, ?_, hs, ⟨ys, own_setfarG ho hv _, ?_⟩, hz⟩
  · exact (hq.set_ (p := ⟨X, j, none⟩) (fun hb => hb.2.1 rfl) u).mono (fun b _ hb => ⟨hb.1, hb.2.2⟩)
  · exact (he.keep (fun b hb _ => Below.heap_setCell W6 ⟨X, j, none⟩ u b (fun e => hb.2.1 e)) (by simp [World.setCell])).mono (fun b _ hb => ⟨hb.1, hb.2.2⟩)
theorem SB.pe (h : SB w p X B Aq nq cq Q Ab nb cb l xs W) : PE w p X W := by
  have h1 := h.hB
  obtain ⟨l', e1, e2, e3⟩ := h.be.up3
  refine ⟨Aq, nq, cq, Q, _, l', h.fr, h.r0, h.x, h.qrd.mono (fun b _ hb => ⟨hb.1, fun e => ?_⟩), h.q9, ⟨xs, by rw [e3, h.bl]; exact own_lowT h.bo h1, e1.mono (fun b _ hb => ⟨by have := hb.1; omega, hb.2.2⟩)⟩, by rw [e2]; have := h.bs; omega⟩
  have := h.bge b e.symm
  omega
theorem SB.cut0 (h : SB w p X B Aq nq cq Q Ab nb cb l xs W) (hp : p < w.heap.size) : PE w p X (W.setCell ⟨X, 0, none⟩ (.slice Aq 0 cq)) := by
  have h1 := h.hB
  have h2 := h.hX
  obtain ⟨l', e1, e2, e3⟩ := h.be.up3
  exact h.fin hp h.fr h.r0 (heap_set_selfG h.x _) (Q' := []) ⟨rfl, fun h0 => absurd h0 (by omega)⟩ ⟨rfl, by omega, by omega, h.q9.2.2.2.1, fun s hs => absurd hs (by simp)⟩
    (by rw [e3, h.bl]; exact own_lowT h.bo h1) (fun e => by have := h.bx X e; omega) (e1.mono (fun b _ hb => ⟨by have := hb.1; omega, by have := hb.2.1; omega, hb.2.2⟩)) (by rw [e2]; have := h.bs; omega)
theorem SB.putq {W5 W6 : World} {A6 : Option Addr} {n6 c6 : Nat} {Q' : List ByteArray} (h : SB w p X B Aq nq cq Q Ab nb cb l xs W) (hp : p < w.heap.size) (hf : Fr W p W5) (hg : W5.grownBy W6 (Value.slice Aq nq cq).ownBlock)
    (hat : (Value.slice A6 n6 c6).ownBlock = (Value.slice Aq nq cq).ownBlock ∨ (Value.slice A6 n6 c6).ownBlock = some W5.heap.size) (ho : W6.ownsRow (w.heap.size + 1) 9 1 (.slice A6 n6 c6) n6 (strs Q')) (hx : W6.heap[X]? = some (.cells #[.slice Aq nq cq, .slice Ab nb cb] 35 (0, 0)))
    (hl : Q'.length = n6) (hn : n6 ≤ 4) (hs : ∀ s ∈ Q', s.size ≤ 9) : PE w p X (W6.setCell ⟨X, 0, none⟩ (.slice A6 n6 c6)) := by
  have h1 := h.hB
  have h2 := h.hX
  have h5 := h.call hp hf
  have hX5 := lt_of_block h5.x
  have hqge : ∀ k, (Value.slice Aq nq cq).ownBlock = some k → w.heap.size + 1 ≤ k := fun k hk => (h5.q.lt k hk).1
  have fA : Fr w p W5 := h5.fr
  have f6 := fA.own hp hg (fun k hk => by have := hqge k hk; omega)
  have hbA : Below W5.heap.size W5 W5 := Below.refl _ _
  have hsz : W5.heap.size = W5.heap.size := rfl
  have keep : ∀ b, b < W5.heap.size → (∀ k, (Value.slice Aq nq cq).ownBlock = some k → k ≠ b) → W6.heap[b]? = W5.heap[b]? := fun b hb hne => (hg.block b (by omega) (fun e => hne b e.symm rfl)).trans (hbA.block b hb)
  have r06 := (keep w.heap.size (lt_of_block h5.r0) (fun k hk e => by have := hqge k hk; omega)).trans h5.r0
  obtain ⟨l', e1, e2, e3⟩ := h5.be.up3
  have bkB : ∀ k, (Value.slice Aq nq cq).ownBlock = some k → k < B := h.qb
  have bo6 : W6.ownsRow B 27 5 (.slice Ab nb cb) nb xs := (ownsRow_below h5.bo hbA).kept hg (by
    cases hk : (Value.slice Ab nb cb).ownBlock with
    | none => exact .inl rfl
    | some k =>
      refine .inr fun e => ?_
      have a := h.bge k hk
      have b := bkB k e.symm
      omega)
  have hcap : n6 ≤ c6 ∧ c6 ≤ maxLen := by
    obtain ⟨_, _, e, h1, h2, _⟩ := rd_of_own ho
    injection e with _ _ e
    subst e
    exact ⟨h1, h2⟩
  refine h.fin hp f6 r06 (heap_set_selfG hx _) ?_ ⟨hl, hn, hcap.1, hcap.2, hs⟩ (by rw [e3, h.bl]; exact own_lowT bo6 h1) (fun e => by have := h.bx X e; omega) ?_ (by rw [e2]; have := h.bs; omega)
  · have r := rdQ_of_own ho
    refine ⟨r.1, fun h0 => ?_⟩
    obtain ⟨b, off, e, hb, hlt, hc⟩ := r.2 h0
    have hb' : w.heap.size + 1 ≤ b := hb
    refine ⟨b, off, e, ⟨by omega, ?_, ?_⟩, hlt, hc⟩
    · subst e
      rcases hat with e | e
      · have := bkB b e.symm
        omega
      · have e2 : some b = some W5.heap.size := e
        injection e2 with e2
        omega
    · subst e
      intro e'
      have hb2 := h5.bo.lt b e'.symm
      rcases hat with e | e
      · have := bkB b e.symm
        omega
      · have e2 : some b = some W5.heap.size := e
        injection e2 with e2
        omega
  · refine (e1.keep (w' := W6) (fun b hb hlt => keep b hlt (fun k hk e => by have := bkB k hk; have := hb.1; omega)) (by have := hg.size; omega)).mono (fun b _ hb => ⟨by have := hb.1; omega, by have := hb.2.1; omega, hb.2.2⟩)
theorem SB.putb {W5 W6 : World} {A6 : Option Addr} {n6 c6 : Nat} {cs : List Value} {s : Tr 6} (h : SB w p X B Aq nq cq Q Ab nb cb l xs W) (hp : p < w.heap.size) (hf : Fr W p W5) (hst : StQ W5 (W.heap.size ≤ ·) 5 cs s)
    (ho : W6.ownsRow B 27 5 (.slice A6 n6 c6) (nb + 1) (xs ++ cs)) (hg : W5.grownBy W6 (Value.slice Ab nb cb).ownBlock)
    (hat : (Value.slice A6 n6 c6).ownBlock = (Value.slice Ab nb cb).ownBlock ∨ (Value.slice A6 n6 c6).ownBlock = some W5.heap.size) (hx : W6.heap[X]? = some (.cells #[.slice Aq nq cq, .slice Ab nb cb] 35 (0, 0)))
    (hz : szE s ≤ 50000) : PE w p X (W6.setCell ⟨X, 1, none⟩ (.slice A6 n6 c6)) := by
  have h1 := h.hB
  have h2 := h.hX
  have h5 := h.call hp hf
  have hXW := lt_of_block h.x
  have hX5 := lt_of_block h5.x
  have fA : Fr w p W5 := h5.fr
  have f6 := fA.own hp hg (fun k hk => by have := h5.bge k hk; omega)
  have hbA : Below W5.heap.size W5 W5 := Below.refl _ _
  have hsz : W5.heap.size = W5.heap.size := rfl
  have keep : ∀ b, b < W5.heap.size → some b ≠ (Value.slice Ab nb cb).ownBlock → W6.heap[b]? = W5.heap[b]? := fun b hb hne => (hg.block b (by omega) hne).trans (hbA.block b hb)
  have r06 := (keep w.heap.size (lt_of_block h5.r0) (fun e => by have := h5.bge _ e.symm; omega)).trans h5.r0
  obtain ⟨l', e1, e2, e3⟩ := h5.be.up3
  have hv6 : ∀ k, (Value.slice A6 n6 c6).ownBlock = some k → B ≤ k ∧ k ≠ X ∧ (k = W5.heap.size ∨ (Value.slice Ab nb cb).ownBlock = some k) := fun k hk => by
    rcases hat with e | e
    · rw [e] at hk
      have a := h5.bge k hk
      have b := h.bx k hk
      exact ⟨a, by omega, .inr hk⟩
    · rw [hk] at e
      injection e with e
      exact ⟨by omega, by omega, .inl (by omega)⟩
  have hall : ElQ W5 (fun b => B ≤ b ∧ b ≠ X ∧ some b ≠ (Value.slice Ab nb cb).ownBlock) 5 (xs ++ cs) (l' ++ [s]) :=
    (e1.mono (fun b _ hb => ⟨hb.1, by have := hb.2.1; omega, hb.2.2⟩)).append (ElQ.one (hst.mono (fun b _ hb => ⟨by omega, by omega, fun e => by have := h.bx b e.symm; omega⟩)))
  refine h.fin hp f6 r06 (heap_set_selfG hx _) ?_ h.q9 (l' := l' ++ [s]) (ys := xs ++ cs) (by rw [List.length_append, e3, h.bl]; exact own_lowT ho h1) (fun e => (hv6 X e).2.1 rfl) ?_ ?_
  · refine (h5.qrd.keep (w' := W6) (fun b hb hlt => keep b hlt (fun e => by have := h5.bge b e.symm; have := hb.2; omega)) (by have := hg.size; omega)).mono (fun b _ hb => ⟨hb.1, by have := hb.2; omega, fun e => by have := (hv6 b e.symm).1; have := hb.2; omega⟩)
  · refine (ElQ.mono (P := fun b => B ≤ b ∧ b ≠ X ∧ some b ≠ (Value.slice Ab nb cb).ownBlock ∧ b < W5.heap.size) ?_ ?_)
    · exact (hall.mono (fun b hb hc => ⟨hc.1, hc.2.1, hc.2.2, hb⟩)).keep (w' := W6) (fun b hb hlt => keep b hlt hb.2.2.1) (by have := hg.size; omega)
    · intro b _ hb
      refine ⟨by have := hb.1; omega, hb.2.1, fun e => ?_⟩
      rcases (hv6 b e.symm).2.2 with e' | e'
      · have := hb.2.2.2
        omega
      · exact hb.2.2.1 e'.symm
  · rw [szT_append, e2, szT_one]
    have := h.bs
    omega
theorem SB.adj (h : SB w p X B Aq nq cq Q Ab nb cb l xs W) (hp : p < w.heap.size) : PE w p X ((((W.alloc (.cells #[.int .i64 3, .string ⟨#[]⟩, .slice none 0 0, .int .i64 0, .slice Ab nb cb] 27)).alloc (.cells #[.int .i64 3, .string ⟨#[]⟩, .slice none 0 0, .int .i64 0, .slice (some ⟨W.heap.size, 0, none⟩) 1 1] 27)).alloc (.cells #[.int .i64 3, .string ⟨#[]⟩, .slice none 0 0, .int .i64 0, .slice (some ⟨W.heap.size + 1, 0, none⟩) 1 1] 27)).setCell ⟨X, 1, none⟩ (.slice (some ⟨W.heap.size + 1 + 1, 0, none⟩) 1 1)) := by
  have h1 := h.hB
  have h2 := h.hX
  have hXW := lt_of_block h.x
  obtain ⟨W1, hW1⟩ : ∃ W1, W1 = W.alloc (.cells #[.int .i64 3, .string ⟨#[]⟩, .slice none 0 0, .int .i64 0, .slice Ab nb cb] 27) := ⟨_, rfl⟩
  rw [← hW1]
  obtain ⟨W2, hW2⟩ : ∃ W2, W2 = W1.alloc (.cells #[.int .i64 3, .string ⟨#[]⟩, .slice none 0 0, .int .i64 0, .slice (some ⟨W.heap.size, 0, none⟩) 1 1] 27) := ⟨_, rfl⟩
  rw [← hW2]
  obtain ⟨W3, hW3⟩ : ∃ W3, W3 = W2.alloc (.cells #[.int .i64 3, .string ⟨#[]⟩, .slice none 0 0, .int .i64 0, .slice (some ⟨W.heap.size + 1, 0, none⟩) 1 1] 27) := ⟨_, rfl⟩
  rw [← hW3]
  have z1 : W1.heap.size = W.heap.size + 1 := by rw [hW1]; simp
  have z2 : W2.heap.size = W.heap.size + 1 + 1 := by rw [hW2]; simp [z1]
  have z3 : W3.heap.size = W.heap.size + 1 + 1 + 1 := by rw [hW3]; simp [z2]
  have b1 : Below W.heap.size W W1 := by rw [hW1]; exact (by repeat (first | exact Below.refl _ _ | assumption | (refine Below.trans ?_ (Below.mono (by assumption) (by first | omega | (simp; done) | (simp; omega)))) | (with_reducible refine Below.drew ?_) | (with_reducible refine Below.alloc ?_ (by first | omega | (simp; done) | (simp; omega)) _) | (with_reducible refine Below.setCell ?_ (by first | omega | (simp; done) | (simp; omega)) _)))
  have b2 : Below W1.heap.size W1 W2 := by rw [hW2]; exact (by repeat (first | exact Below.refl _ _ | assumption | (refine Below.trans ?_ (Below.mono (by assumption) (by first | omega | (simp; done) | (simp; omega)))) | (with_reducible refine Below.drew ?_) | (with_reducible refine Below.alloc ?_ (by first | omega | (simp; done) | (simp; omega)) _) | (with_reducible refine Below.setCell ?_ (by first | omega | (simp; done) | (simp; omega)) _)))
  have b3 : Below W2.heap.size W2 W3 := by rw [hW3]; exact (by repeat (first | exact Below.refl _ _ | assumption | (refine Below.trans ?_ (Below.mono (by assumption) (by first | omega | (simp; done) | (simp; omega)))) | (with_reducible refine Below.drew ?_) | (with_reducible refine Below.alloc ?_ (by first | omega | (simp; done) | (simp; omega)) _) | (with_reducible refine Below.setCell ?_ (by first | omega | (simp; done) | (simp; omega)) _)))
  have t0 : TrQ W (fun b => w.heap.size < b ∧ b ≠ X ∧ b < W.heap.size) 3 Ab nb l := by
    refine (h.be.mono (fun b hb hc => ⟨by have := hc.1; omega, by have := hc.2.1; omega, hb⟩)).tr ?_ h.bl
    refine ⟨(rd_own h.bo).1, fun h0 => ?_⟩
    obtain ⟨b, off, e, hb, hlt, hc⟩ := (rdQ_of_own h.bo).2 h0
    have hb' : B ≤ b := hb
    refine ⟨b, off, e, ⟨by omega, ?_, hlt⟩, hlt, hc⟩
    subst e
    have := h.bx b rfl
    omega
  have nil : ∀ (U : World) (P : Nat → Prop), RdQ U P 1 none 0 (strs []) := fun U P => ⟨rfl, fun h0 => absurd h0 (by omega)⟩
  have s1 := stQ_mk (d := 3) (h := ⟨3, ⟨#[]⟩, [], 0⟩) (Aa := none) (ca := 0) (cb := cb) (nil W1 _) ((t0.mono (P' := fun b => w.heap.size < b ∧ b ≠ X ∧ b < W.heap.size + 1 + 1) (fun b _ hb => ⟨hb.1, hb.2.1, by have := hb.2.2; omega⟩)).below b1) (Nat.le_refl _)
  have r1 : RdQ W1 (fun b => w.heap.size < b ∧ b ≠ X ∧ b < W.heap.size + 1 + 1) 5 (some ⟨W.heap.size, 0, none⟩) 1 (scl ⟨3, ⟨#[]⟩, [], 0⟩ none 0 Ab nb cb) := by rw [hW1]; exact rdQ_topG rfl rfl ⟨by omega, by omega, by omega⟩
  have t1 := (ElQ.one s1).tr r1 rfl
  have s2 := stQ_mk (d := 4) (h := ⟨3, ⟨#[]⟩, [], 0⟩) (Aa := none) (ca := 0) (cb := 1) (nil W2 _) (t1.below b2) (Nat.le_refl _)
  have r2 : RdQ W2 (fun b => w.heap.size < b ∧ b ≠ X ∧ b < W.heap.size + 1 + 1) 5 (some ⟨W.heap.size + 1, 0, none⟩) 1 (scl ⟨3, ⟨#[]⟩, [], 0⟩ none 0 (some ⟨W.heap.size, 0, none⟩) 1 1) := by rw [hW2]; exact rdQ_topG z1.symm rfl ⟨by omega, by omega, by omega⟩
  have t2 := (ElQ.one s2).tr r2 rfl
  have s3 := stQ_mk (d := 5) (h := ⟨3, ⟨#[]⟩, [], 0⟩) (Aa := none) (ca := 0) (cb := 1) (nil W3 _) (t2.below b3) (Nat.le_refl _)
  have o3 : W3.ownsRow (w.heap.size + 1) 27 5 (.slice (some ⟨W.heap.size + 1 + 1, 0, none⟩) 1 1) 1 (scl ⟨3, ⟨#[]⟩, [], 0⟩ none 0 (some ⟨W.heap.size + 1, 0, none⟩) 1 1) := by
    rw [hW3, ← z2]
    exact World.ownsRow_lit W2 #[.int .i64 3, .string ⟨#[]⟩, .slice none 0 0, .int .i64 0, .slice (some ⟨W.heap.size + 1, 0, none⟩) 1 1] 1 (by omega) (by simp [maxLen]) rfl
  have x3 : W3.heap[X]? = some (.cells #[.slice Aq nq cq, .slice Ab nb cb] 35 (0, 0)) := (b3.block X (by omega)).trans ((b2.block X (by omega)).trans ((b1.block X hXW).trans h.x))
  have r3 : W3.heap[w.heap.size]? = some (.cells #[.slice none 0 0, .slice none 0 0] 35 (0, 0)) := (b3.block _ (by omega)).trans ((b2.block _ (by omega)).trans ((b1.block _ (by omega)).trans h.r0))
  have hne : ∀ b, some b = (Value.slice (some ⟨W.heap.size + 1 + 1, 0, none⟩) 1 1).ownBlock → b = W.heap.size + 1 + 1 := fun b e => by
    have e2 : some b = some (W.heap.size + 1 + 1) := e
    injection e2
  refine h.fin hp (((h.fr.below b1).below b2).below b3) r3 (heap_set_selfG x3 _) ?_ h.q9 (l' := [mkT (d := 5) ⟨3, ⟨#[]⟩, [], 0⟩ [mkT (d := 4) ⟨3, ⟨#[]⟩, [], 0⟩ [mkT (d := 3) ⟨3, ⟨#[]⟩, [], 0⟩ l]]]) o3 (fun e => by have := hne X e.symm; omega) (ElQ.one (s3.mono (fun b _ hb => ⟨hb.1, hb.2.1, fun e => by have := hne b e; have := hb.2.2; omega⟩))) ?_
  · exact (((h.qrd.below b1).below b2).below b3).mono (fun b _ hb => ⟨hb.1, by have := hb.2; omega, fun e => by have := hne b e; have := hb.2; omega⟩)
  · rw [szT_one, szE_mk, szT_one, szE_mk, szT_one, szE_mk]
    show 1 + (0 + (0 + 0 + (1 + (0 + (0 + 0 + (1 + (0 + (0 + 0 + szT 3 l)))))))) ≤ _
    have := h.bs
    omega
end
end Go.Proofs.YtbamjfbfipkioaaDoor
