/- What the calls that this law reaches answer, part 6 of 17. -/
import Derived.Test.YthkbckkghnbonaaGreatDoorJProgramText5
import Derived.Test.YthkbckkghnbonaaGreatDoorJProgramText4
namespace Go.Proofs.YthkbckkghnbonaaGreatDoor
open Go.RowKit
set_option linter.unusedVariables false
theorem ElQ.up3 {w : World} {P : Nat → Prop} {xs : List Value} {l : List (Tr 3)} (h : ElQ w P 2 xs l) : ∃ l' : List (Tr 6), ElQ w P 5 xs l' ∧ szT 6 l' = szT 3 l ∧ l'.length = l.length :=
  ⟨((l.map (upT 3)).map (upT 4)).map (upT 5), h.up.up.up, by rw [szT_up, szT_up, szT_up], by rw [List.length_map, List.length_map, List.length_map]⟩
/-- The program's variable X ahead of the bending. -/
structure SB (w : World) (p X B : Nat) (Aq : Option Addr) (nq cq : Nat) (Q : List ByteArray) (Ab : Option Addr) (nb cb : Nat) (l : List (Tr 3)) (xs : List Value) (W : World) : Prop where
  fr : Fr w p W
  r0 : W.heap[w.heap.size]? = some (.cells #[.slice none 0 0, .slice none 0 0] 27 (0, 0))
  x : W.heap[X]? = some (.cells #[.slice Aq nq cq, .slice Ab nb cb] 27 (0, 0))
  q : W.ownsRow (w.heap.size + 1) 9 1 (.slice Aq nq cq) nq (strs Q)
  ql : Q.length = nq
  qs : Short 3 Q
  qb : ∀ k, (Value.slice Aq nq cq).ownBlock = some k → k < B
  hB : w.heap.size + 1 ≤ B
  hX : B ≤ X
  bo : W.ownsRow B 66 5 (.slice Ab nb cb) nb xs
  be : ElQ W (fun b => B ≤ b ∧ b < X ∧ some b ≠ (Value.slice Ab nb cb).ownBlock) 2 xs l
  bl : l.length = nb
  bs : szT 3 l ≤ 16000
  bx : ∀ k, (Value.slice Ab nb cb).ownBlock = some k → k < X
/-- The program's variable X behind the bending. -/
def PE (w : World) (p X : Nat) (W : World) : Prop := ∃ (Aq : Option Addr) (nq cq : Nat) (Q : List ByteArray) (vb : Value) (l : List (Tr 6)), Fr w p W ∧ W.heap[w.heap.size]? = some (.cells #[.slice none 0 0, .slice none 0 0] 27 (0, 0)) ∧
  W.heap[X]? = some (.cells #[.slice Aq nq cq, vb] 27 (0, 0)) ∧ RdQ W (fun b => w.heap.size < b ∧ some b ≠ vb.ownBlock) 1 Aq nq (strs Q) ∧ (Q.length = nq ∧ nq ≤ 4 ∧ nq ≤ cq ∧ cq ≤ maxLen ∧ ∀ s ∈ Q, s.size ≤ 9) ∧ OwnT W (w.heap.size + 1) 5 vb l ∧ szT 6 l ≤ 100000
section
variable {w W : World} {p X B nq cq nb cb : Nat} {Aq Ab : Option Addr} {Q : List ByteArray} {l : List (Tr 3)} {xs : List Value}
theorem SB.call {W' : World} (h : SB w p X B Aq nq cq Q Ab nb cb l xs W) (hp : p < w.heap.size) (hf : Fr W p W') : SB w p X B Aq nq cq Q Ab nb cb l xs W' := by
  have h1 := h.hB
  have h2 := h.hX
  exact ⟨h.fr.call hf.cur hf.gr, fr_heap hf (by omega) h.r0, fr_heap hf (by omega) h.x, own_drawG h.q hf.gr (by omega), h.ql, h.qs, h.qb, h.hB, h.hX, own_drawG h.bo hf.gr (by omega),
    h.be.keep (fun b hb hlt => hf.gr.block b hlt (fun e => by injection e with e; have := hb.1; omega)) hf.gr.size, h.bl, h.bs, h.bx⟩
theorem SB.q9 (h : SB w p X B Aq nq cq Q Ab nb cb l xs W) : Q.length = nq ∧ nq ≤ 4 ∧ nq ≤ cq ∧ cq ≤ maxLen ∧ ∀ s ∈ Q, s.size ≤ 9 := by
  obtain ⟨_, _, e, h1, h2, _⟩ := rd_of_own h.q
  injection e with _ _ e
  subst e
  exact ⟨h.ql, by have := h.qs.2.1; rw [h.ql] at this; omega, h1, h2, h.qs.2.2⟩
theorem SB.bge (h : SB w p X B Aq nq cq Q Ab nb cb l xs W) : ∀ k, (Value.slice Ab nb cb).ownBlock = some k → B ≤ k := fun k hk => (h.bo.lt k hk).1
theorem SB.qrd (h : SB w p X B Aq nq cq Q Ab nb cb l xs W) : RdQ W (fun b => w.heap.size < b ∧ b < B) 1 Aq nq (strs Q) := by
  have r := rdQ_of_own h.q
  refine ⟨r.1, fun h0 => ?_⟩
  obtain ⟨b, off, e, hb, hlt, hc⟩ := r.2 h0
  have hb' : w.heap.size + 1 ≤ b := hb
  refine ⟨b, off, e, ⟨by omega, ?_⟩, hlt, hc⟩
  subst e
  exact h.qb b rfl
/-- Whatever turned above, X's new cells and the two rows make the end. -/
theorem SB.fin {W6 : World} {Aq' : Option Addr} {nq' cq' : Nat} {Q' : List ByteArray} {vb : Value} {l' : List (Tr 6)} {ys : List Value} {j : Nat} {u : Value} (h : SB w p X B Aq nq cq Q Ab nb cb l xs W) (hp : p < w.heap.size) (f6 : Fr w p W6)
    (r6 : W6.heap[w.heap.size]? = some (.cells #[.slice none 0 0, .slice none 0 0] 27 (0, 0))) (x6 : (W6.setCell ⟨X, j, none⟩ u).heap[X]? = some (.cells #[.slice Aq' nq' cq', vb] 27 (0, 0)))
    (hq : RdQ W6 (fun b => w.heap.size < b ∧ b ≠ X ∧ some b ≠ vb.ownBlock) 1 Aq' nq' (strs Q')) (hs : Q'.length = nq' ∧ nq' ≤ 4 ∧ nq' ≤ cq' ∧ cq' ≤ maxLen ∧ ∀ s ∈ Q', s.size ≤ 9)
    (ho : W6.ownsRow (w.heap.size + 1) 66 5 vb l'.length ys) (hv : vb.ownBlock ≠ some X) (he : ElQ W6 (fun b => w.heap.size < b ∧ b ≠ X ∧ some b ≠ vb.ownBlock) 5 ys l') (hz : szT 6 l' ≤ 100000) : PE w p X (W6.setCell ⟨X, j, none⟩ u) := by
  have h1 := h.hB
  have h2 := h.hX
  refine ⟨Aq', nq', cq', Q', vb, l', f6.set hp (show w.heap.size ≤ X by omega) _, heap_set_farG r6 (by show w.heap.size ≠ X; omega) _, x6, ?_, hs, ⟨ys, own_setfarG ho hv _, ?_⟩, hz⟩
  · exact (hq.set_ (p := ⟨X, j, none⟩) (fun hb => hb.2.1 rfl) u).mono (fun b _ hb => ⟨hb.1, hb.2.2⟩)
  · exact (he.keep (fun b hb _ => Below.heap_setCell W6 ⟨X, j, none⟩ u b (fun e => hb.2.1 e)) (by simp [World.setCell])).mono (fun b _ hb => ⟨hb.1, hb.2.2⟩)
theorem SB.pe (h : SB w p X B Aq nq cq Q Ab nb cb l xs W) : PE w p X W := by
  have h1 := h.hB
  obtain ⟨l', e1, e2, e3⟩ := h.be.up3
  refine ⟨Aq, nq, cq, Q, _, l', h.fr, h.r0, h.x, h.qrd.mono (fun b _ hb => ⟨hb.1, fun e => ?_⟩), h.q9, ⟨xs, by rw [e3, h.bl]; exact own_lowT h.bo h1, e1.mono (fun b _ hb => ⟨by have := hb.1; omega, hb.2.2⟩)⟩, by rw [e2]; have := h.bs; omega⟩
  have := h.bge b e.symm
  omega
theorem SB.cut0 (h : SB w p X B Aq nq cq Q Ab nb cb l xs W) (hp : p < w.heap.size) : PE w p X (W.setCell ⟨X, 0, none⟩ (.slice Aq 0 cq)) := by
  have h1 := h.hB
  have h2 := h.hX
  obtain ⟨l', e1, e2, e3⟩ := h.be.up3
  exact h.fin hp h.fr h.r0 (heap_set_selfG h.x _) (Q' := []) ⟨rfl, fun h0 => absurd h0 (by omega)⟩ ⟨rfl, by omega, by omega, h.q9.2.2.2.1, fun s hs => absurd hs (by simp)⟩
    (by rw [e3, h.bl]; exact own_lowT h.bo h1) (fun e => by have := h.bx X e; omega) (e1.mono (fun b _ hb => ⟨by have := hb.1; omega, by have := hb.2.1; omega, hb.2.2⟩)) (by rw [e2]; have := h.bs; omega)
theorem SB.putq {W5 W6 : World} {A6 : Option Addr} {n6 c6 : Nat} {Q' : List ByteArray} (h : SB w p X B Aq nq cq Q Ab nb cb l xs W) (hp : p < w.heap.size) (hf : Fr W p W5) (hg : W5.grownBy W6 (Value.slice Aq nq cq).ownBlock)
    (hat : (Value.slice A6 n6 c6).ownBlock = (Value.slice Aq nq cq).ownBlock ∨ (Value.slice A6 n6 c6).ownBlock = some W5.heap.size) (ho : W6.ownsRow (w.heap.size + 1) 9 1 (.slice A6 n6 c6) n6 (strs Q')) (hx : W6.heap[X]? = some (.cells #[.slice Aq nq cq, .slice Ab nb cb] 27 (0, 0)))
    (hl : Q'.length = n6) (hn : n6 ≤ 4) (hs : ∀ s ∈ Q', s.size ≤ 9) : PE w p X (W6.setCell ⟨X, 0, none⟩ (.slice A6 n6 c6)) := by
  have h1 := h.hB
  have h2 := h.hX
  have h5 := h.call hp hf
  have hX5 := lt_of_block h5.x
  have hqge : ∀ k, (Value.slice Aq nq cq).ownBlock = some k → w.heap.size + 1 ≤ k := fun k hk => (h5.q.lt k hk).1
  have fA : Fr w p W5 := h5.fr
  have f6 := fA.own hp hg (fun k hk => by have := hqge k hk; omega)
  have hbA : Below W5.heap.size W5 W5 := Below.refl _ _
  have hsz : W5.heap.size = W5.heap.size := rfl
  have keep : ∀ b, b < W5.heap.size → (∀ k, (Value.slice Aq nq cq).ownBlock = some k → k ≠ b) → W6.heap[b]? = W5.heap[b]? := fun b hb hne => (hg.block b (by omega) (fun e => hne b e.symm rfl)).trans (hbA.block b hb)
  have r06 := (keep w.heap.size (lt_of_block h5.r0) (fun k hk e => by have := hqge k hk; omega)).trans h5.r0
  obtain ⟨l', e1, e2, e3⟩ := h5.be.up3
  have bkB : ∀ k, (Value.slice Aq nq cq).ownBlock = some k → k < B := h.qb
  have bo6 : W6.ownsRow B 66 5 (.slice Ab nb cb) nb xs := (ownsRow_below h5.bo hbA).kept hg (by
    cases hk : (Value.slice Ab nb cb).ownBlock with
    | none => exact .inl rfl
    | some k =>
      refine .inr fun e => ?_
      have a := h.bge k hk
      have b := bkB k e.symm
      omega)
  have hcap : n6 ≤ c6 ∧ c6 ≤ maxLen := by
    obtain ⟨_, _, e, h1, h2, _⟩ := rd_of_own ho
    injection e with _ _ e
    subst e
    exact ⟨h1, h2⟩
  refine h.fin hp f6 r06 (heap_set_selfG hx _) ?_ ⟨hl, hn, hcap.1, hcap.2, hs⟩ (by rw [e3, h.bl]; exact own_lowT bo6 h1) (fun e => by have := h.bx X e; omega) ?_ (by rw [e2]; have := h.bs; omega)
  · have r := rdQ_of_own ho
    refine ⟨r.1, fun h0 => ?_⟩
    obtain ⟨b, off, e, hb, hlt, hc⟩ := r.2 h0
    have hb' : w.heap.size + 1 ≤ b := hb
    refine ⟨b, off, e, ⟨by omega, ?_, ?_⟩, hlt, hc⟩
    · subst e
      rcases hat with e | e
      · have := bkB b e.symm
        omega
      · have e2 : some b = some W5.heap.size := e
        injection e2 with e2
        omega
    · subst e
      intro e'
      have hb2 := h5.bo.lt b e'.symm
      rcases hat with e | e
      · have := bkB b e.symm
        omega
      · have e2 : some b = some W5.heap.size := e
        injection e2 with e2
        omega
  · refine (e1.keep (w' := W6) (fun b hb hlt => keep b hlt (fun k hk e => by have := bkB k hk; have := hb.1; omega)) (by have := hg.size; omega)).mono (fun b _ hb => ⟨by have := hb.1; omega, by have := hb.2.1; omega, hb.2.2⟩)
theorem SB.putb {W5 W6 : World} {A6 : Option Addr} {n6 c6 : Nat} {cs : List Value} {s : Tr 6} (h : SB w p X B Aq nq cq Q Ab nb cb l xs W) (hp : p < w.heap.size) (hf : Fr W p W5) (hst : StQ W5 (W.heap.size ≤ ·) 5 cs s)
    (ho : W6.ownsRow B 66 5 (.slice A6 n6 c6) (nb + 1) (xs ++ cs)) (hg : W5.grownBy W6 (Value.slice Ab nb cb).ownBlock)
    (hat : (Value.slice A6 n6 c6).ownBlock = (Value.slice Ab nb cb).ownBlock ∨ (Value.slice A6 n6 c6).ownBlock = some W5.heap.size) (hx : W6.heap[X]? = some (.cells #[.slice Aq nq cq, .slice Ab nb cb] 27 (0, 0)))
    (hz : szE s ≤ 50000) : PE w p X (W6.setCell ⟨X, 1, none⟩ (.slice A6 n6 c6)) := by
  have h1 := h.hB
  have h2 := h.hX
  have h5 := h.call hp hf
  have hXW := lt_of_block h.x
  have hX5 := lt_of_block h5.x
  have fA : Fr w p W5 := h5.fr
  have f6 := fA.own hp hg (fun k hk => by have := h5.bge k hk; omega)
  have hbA : Below W5.heap.size W5 W5 := Below.refl _ _
  have hsz : W5.heap.size = W5.heap.size := rfl
  have keep : ∀ b, b < W5.heap.size → some b ≠ (Value.slice Ab nb cb).ownBlock → W6.heap[b]? = W5.heap[b]? := fun b hb hne => (hg.block b (by omega) hne).trans (hbA.block b hb)
  have r06 := (keep w.heap.size (lt_of_block h5.r0) (fun e => by have := h5.bge _ e.symm; omega)).trans h5.r0
  obtain ⟨l', e1, e2, e3⟩ := h5.be.up3
  have hv6 : ∀ k, (Value.slice A6 n6 c6).ownBlock = some k → B ≤ k ∧ k ≠ X ∧ (k = W5.heap.size ∨ (Value.slice Ab nb cb).ownBlock = some k) := fun k hk => by
    rcases hat with e | e
    · rw [e] at hk
      have a := h5.bge k hk
      have b := h.bx k hk
      exact ⟨a, by omega, .inr hk⟩
    · rw [hk] at e
      injection e with e
      exact ⟨by omega, by omega, .inl (by omega)⟩
  have hall : ElQ W5 (fun b => B ≤ b ∧ b ≠ X ∧ some b ≠ (Value.slice Ab nb cb).ownBlock) 5 (xs ++ cs) (l' ++ [s]) :=
    (e1.mono (fun b _ hb => ⟨hb.1, by have := hb.2.1; omega, hb.2.2⟩)).append (ElQ.one (hst.mono (fun b _ hb => ⟨by omega, by omega, fun e => by have := h.bx b e.symm; omega⟩)))
  refine h.fin hp f6 r06 (heap_set_selfG hx _) ?_ h.q9 (l' := l' ++ [s]) (ys := xs ++ cs) (by rw [List.length_append, e3, h.bl]; exact own_lowT ho h1) (fun e => (hv6 X e).2.1 rfl) ?_ ?_
  · refine (h5.qrd.keep (w' := W6) (fun b hb hlt => keep b hlt (fun e => by have := h5.bge b e.symm; have := hb.2; omega)) (by have := hg.size; omega)).mono (fun b _ hb => ⟨hb.1, by have := hb.2; omega, fun e => by have := (hv6 b e.symm).1; have := hb.2; omega⟩)
  · refine (ElQ.mono (P := fun b => B ≤ b ∧ b ≠ X ∧ some b ≠ (Value.slice Ab nb cb).ownBlock ∧ b < W5.heap.size) ?_ ?_)
    · exact (hall.mono (fun b hb hc => ⟨hc.1, hc.2.1, hc.2.2, hb⟩)).keep (w' := W6) (fun b hb hlt => keep b hlt hb.2.2.1) (by have := hg.size; omega)
    · intro b _ hb
      refine ⟨by have := hb.1; omega, hb.2.1, fun e => ?_⟩
      rcases (hv6 b e.symm).2.2 with e' | e'
      · have := hb.2.2.2
        omega
      · exact hb.2.2.1 e'.symm
  · rw [szT_append, e2, szT_one]
    have := h.bs
    omega
theorem SB.adj (h : SB w p X B Aq nq cq Q Ab nb cb l xs W) (hp : p < w.heap.size) : PE w p X ((((W.alloc (.cells #[.int .i64 3, .string ⟨#[]⟩, .slice none 0 0, .int .i64 0, .slice Ab nb cb] 66)).alloc (.cells #[.int .i64 3, .string ⟨#[]⟩, .slice none 0 0, .int .i64 0, .slice (some ⟨W.heap.size, 0, none⟩) 1 1] 66)).alloc (.cells #[.int .i64 3, .string ⟨#[]⟩, .slice none 0 0, .int .i64 0, .slice (some ⟨W.heap.size + 1, 0, none⟩) 1 1] 66)).setCell ⟨X, 1, none⟩ (.slice (some ⟨W.heap.size + 1 + 1, 0, none⟩) 1 1)) := by
  have h1 := h.hB
  have h2 := h.hX
  have hXW := lt_of_block h.x
  obtain ⟨W1, hW1⟩ : ∃ W1, W1 = W.alloc (.cells #[.int .i64 3, .string ⟨#[]⟩, .slice none 0 0, .int .i64 0, .slice Ab nb cb] 66) := ⟨_, rfl⟩
  rw [← hW1]
  obtain ⟨W2, hW2⟩ : ∃ W2, W2 = W1.alloc (.cells #[.int .i64 3, .string ⟨#[]⟩, .slice none 0 0, .int .i64 0, .slice (some ⟨W.heap.size, 0, none⟩) 1 1] 66) := ⟨_, rfl⟩
  rw [← hW2]
  obtain ⟨W3, hW3⟩ : ∃ W3, W3 = W2.alloc (.cells #[.int .i64 3, .string ⟨#[]⟩, .slice none 0 0, .int .i64 0, .slice (some ⟨W.heap.size + 1, 0, none⟩) 1 1] 66) := ⟨_, rfl⟩
  rw [← hW3]
  have z1 : W1.heap.size = W.heap.size + 1 := by rw [hW1]; simp
  have z2 : W2.heap.size = W.heap.size + 1 + 1 := by rw [hW2]; simp [z1]
  have z3 : W3.heap.size = W.heap.size + 1 + 1 + 1 := by rw [hW3]; simp [z2]
  have b1 : Below W.heap.size W W1 := by rw [hW1]; exact (by repeat (first | exact Below.refl _ _ | assumption | (refine Below.trans ?_ (Below.mono (by assumption) (by first | omega | (simp; done) | (simp; omega)))) | (with_reducible refine Below.drew ?_) | (with_reducible refine Below.alloc ?_ (by first | omega | (simp; done) | (simp; omega)) _) | (with_reducible refine Below.setCell ?_ (by first | omega | (simp; done) | (simp; omega)) _)))
  have b2 : Below W1.heap.size W1 W2 := by rw [hW2]; exact (by repeat (first | exact Below.refl _ _ | assumption | (refine Below.trans ?_ (Below.mono (by assumption) (by first | omega | (simp; done) | (simp; omega)))) | (with_reducible refine Below.drew ?_) | (with_reducible refine Below.alloc ?_ (by first | omega | (simp; done) | (simp; omega)) _) | (with_reducible refine Below.setCell ?_ (by first | omega | (simp; done) | (simp; omega)) _)))
  have b3 : Below W2.heap.size W2 W3 := by rw [hW3]; exact (by repeat (first | exact Below.refl _ _ | assumption | (refine Below.trans ?_ (Below.mono (by assumption) (by first | omega | (simp; done) | (simp; omega)))) | (with_reducible refine Below.drew ?_) | (with_reducible refine Below.alloc ?_ (by first | omega | (simp; done) | (simp; omega)) _) | (with_reducible refine Below.setCell ?_ (by first | omega | (simp; done) | (simp; omega)) _)))
  have t0 : TrQ W (fun b => w.heap.size < b ∧ b ≠ X ∧ b < W.heap.size) 3 Ab nb l := by
    refine (h.be.mono (fun b hb hc => ⟨by have := hc.1; omega, by have := hc.2.1; omega, hb⟩)).tr ?_ h.bl
    refine ⟨(rd_own h.bo).1, fun h0 => ?_⟩
    obtain ⟨b, off, e, hb, hlt, hc⟩ := (rdQ_of_own h.bo).2 h0
    have hb' : B ≤ b := hb
    refine ⟨b, off, e, ⟨by omega, ?_, hlt⟩, hlt, hc⟩
    subst e
    have := h.bx b rfl
    omega
  have nil : ∀ (U : World) (P : Nat → Prop), RdQ U P 1 none 0 (strs []) := fun U P => ⟨rfl, fun h0 => absurd h0 (by omega)⟩
  have s1 := stQ_mk (d := 3) (h := ⟨3, ⟨#[]⟩, [], 0⟩) (Aa := none) (ca := 0) (cb := cb) (nil W1 _) ((t0.mono (P' := fun b => w.heap.size < b ∧ b ≠ X ∧ b < W.heap.size + 1 + 1) (fun b _ hb => ⟨hb.1, hb.2.1, by have := hb.2.2; omega⟩)).below b1) (Nat.le_refl _)
  have r1 : RdQ W1 (fun b => w.heap.size < b ∧ b ≠ X ∧ b < W.heap.size + 1 + 1) 5 (some ⟨W.heap.size, 0, none⟩) 1 (scl ⟨3, ⟨#[]⟩, [], 0⟩ none 0 Ab nb cb) := by rw [hW1]; exact rdQ_topG rfl rfl ⟨by omega, by omega, by omega⟩
  have t1 := (ElQ.one s1).tr r1 rfl
  have s2 := stQ_mk (d := 4) (h := ⟨3, ⟨#[]⟩, [], 0⟩) (Aa := none) (ca := 0) (cb := 1) (nil W2 _) (t1.below b2) (Nat.le_refl _)
  have r2 : RdQ W2 (fun b => w.heap.size < b ∧ b ≠ X ∧ b < W.heap.size + 1 + 1) 5 (some ⟨W.heap.size + 1, 0, none⟩) 1 (scl ⟨3, ⟨#[]⟩, [], 0⟩ none 0 (some ⟨W.heap.size, 0, none⟩) 1 1) := by rw [hW2]; exact rdQ_topG z1.symm rfl ⟨by omega, by omega, by omega⟩
  have t2 := (ElQ.one s2).tr r2 rfl
  have s3 := stQ_mk (d := 5) (h := ⟨3, ⟨#[]⟩, [], 0⟩) (Aa := none) (ca := 0) (cb := 1) (nil W3 _) (t2.below b3) (Nat.le_refl _)
  have o3 : W3.ownsRow (w.heap.size + 1) 66 5 (.slice (some ⟨W.heap.size + 1 + 1, 0, none⟩) 1 1) 1 (scl ⟨3, ⟨#[]⟩, [], 0⟩ none 0 (some ⟨W.heap.size + 1, 0, none⟩) 1 1) := by
    rw [hW3, ← z2]
    exact World.ownsRow_lit W2 #[.int .i64 3, .string ⟨#[]⟩, .slice none 0 0, .int .i64 0, .slice (some ⟨W.heap.size + 1, 0, none⟩) 1 1] 1 (by omega) (by simp [maxLen]) rfl
  have x3 : W3.heap[X]? = some (.cells #[.slice Aq nq cq, .slice Ab nb cb] 27 (0, 0)) := (b3.block X (by omega)).trans ((b2.block X (by omega)).trans ((b1.block X hXW).trans h.x))
  have r3 : W3.heap[w.heap.size]? = some (.cells #[.slice none 0 0, .slice none 0 0] 27 (0, 0)) := (b3.block _ (by omega)).trans ((b2.block _ (by omega)).trans ((b1.block _ (by omega)).trans h.r0))
  have hne : ∀ b, some b = (Value.slice (some ⟨W.heap.size + 1 + 1, 0, none⟩) 1 1).ownBlock → b = W.heap.size + 1 + 1 := fun b e => by
    have e2 : some b = some (W.heap.size + 1 + 1) := e
    injection e2
  refine h.fin hp (((h.fr.below b1).below b2).below b3) r3 (heap_set_selfG x3 _) ?_ h.q9 (l' := [mkT (d := 5) ⟨3, ⟨#[]⟩, [], 0⟩ [mkT (d := 4) ⟨3, ⟨#[]⟩, [], 0⟩ [mkT (d := 3) ⟨3, ⟨#[]⟩, [], 0⟩ l]]]) o3 (fun e => by have := hne X e.symm; omega) (ElQ.one (s3.mono (fun b _ hb => ⟨hb.1, hb.2.1, fun e => by have := hne b e; have := hb.2.2; omega⟩))) ?_
  · exact (((h.qrd.below b1).below b2).below b3).mono (fun b _ hb => ⟨hb.1, by have := hb.2; omega, fun e => by have := hne b e; have := hb.2; omega⟩)
  · rw [szT_one, szE_mk, szT_one, szE_mk, szT_one, szE_mk]
    show 1 + (0 + (0 + 0 + (1 + (0 + (0 + 0 + (1 + (0 + (0 + 0 + szT 3 l)))))))) ≤ _
    have := h.bs
    omega
end
end Go.Proofs.YthkbckkghnbonaaGreatDoor
