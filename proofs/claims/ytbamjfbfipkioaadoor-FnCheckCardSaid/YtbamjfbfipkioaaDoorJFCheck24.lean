/- What the calls that this law reaches answer, part 24 of 30. -/
import Derived.Test.YtbamjfbfipkioaaDoorJFCheck22
namespace Go.Proofs.YtbamjfbfipkioaaDoor
open Go.RowKit
set_option linter.unusedVariables false
theorem cells2G {w w' : World} {b : Nat} {x0 x1 : Value} {t : TypeId} (lay : Below w'.heap.size w' w) (h : w'.heap[b]? = some (.cells #[x0, x1] t (0, 0))) :
    w.cell? ⟨b, 0, none⟩ = some x0 ∧ w.cell? ⟨b, 1, none⟩ = some x1 := by
  have h' : w.heap[b]? = some (.cells #[x0, x1] t (0, 0)) := (lay.block b (lt_of_block h)).trans h
  exact ⟨by simp [World.cell?, h'], by simp [World.cell?, h']⟩
/-- Few names, all short. -/
def Short (n : Nat) (Q : List ByteArray) : Prop := 1 ≤ Q.length ∧ Q.length ≤ n ∧ ∀ s ∈ Q, s.size ≤ 9
/-- Between the statements of the draw: the program's variable X, its qubits' row, its statements' row; all but the cursor and what is new is as it was. -/
structure PS (w : World) (p X : Nat) (Aq : Option Addr) (nq cq : Nat) (Q : List ByteArray) (d : Nat) (vb : Value) (l : List (Tr (d + 1))) (W : World) : Prop where
  fr : Fr w p W
  lo : w.heap.size < X
  r0 : W.heap[w.heap.size]? = some (.cells #[.slice none 0 0, .slice none 0 0] 35 (0, 0))
  x : W.heap[X]? = some (.cells #[.slice Aq nq cq, vb] 35 (0, 0))
  q : W.ownsRow w.heap.size 9 1 (.slice Aq nq cq) nq (strs Q)
  ql : Q.length = nq
  qx : ∀ k, (Value.slice Aq nq cq).ownBlock = some k → k < X
  b : OwnT W (X + 1) d vb l
theorem PS.names {w W : World} {p X nq cq d : Nat} {Aq : Option Addr} {Q : List ByteArray} {vb : Value} {l : List (Tr (d + 1))} (h : PS w p X Aq nq cq Q d vb l W) (hp : p < w.heap.size) (hs : Short 4 Q) : Names W p Aq nq Q :=
  ⟨rd_own h.q, h.ql, by rw [← h.ql]; exact hs.1, by rw [← h.ql]; exact hs.2.1, hs.2.2, fun ad e => by
    have h1 : 0 < nq := by rw [← h.ql]; exact hs.1
    obtain ⟨b, off, e', hb, _⟩ := (rdQ_of_own h.q).2 h1
    rw [e'] at e
    injection e with e
    subst e
    show b ≠ p
    have : w.heap.size ≤ b := hb
    omega⟩
theorem fr_heap {w W : World} {p b : Nat} {ob : Obj} (h : Fr w p W) (hne : b ≠ p) (hc : w.heap[b]? = some ob) : W.heap[b]? = some ob := box_call hc h.gr hne
theorem PS.call {w W W' : World} {p X nq cq d : Nat} {Aq : Option Addr} {Q : List ByteArray} {vb : Value} {l : List (Tr (d + 1))} (h : PS w p X Aq nq cq Q d vb l W) (hp : p < w.heap.size) (hf : Fr W p W') : PS w p X Aq nq cq Q d vb l W' :=
  ⟨h.fr.call hf.cur hf.gr, h.lo, fr_heap hf (by omega) h.r0, fr_heap hf (by have := h.lo; omega) h.x, own_drawG h.q hf.gr hp, h.ql, h.qx, fr_own h.b hf (by have := h.lo; omega)⟩
/-- The statements' row turned and stored. -/
theorem PS.put {w W W6 : World} {p X nq cq d n6 c6 : Nat} {A6 : Option Addr} {Aq : Option Addr} {Q : List ByteArray} {vb : Value} {l m : List (Tr (d + 1))} (h : PS w p X Aq nq cq Q d vb l W) (hp : p < w.heap.size) {W5 : World} (hf : Fr W p W5) (hg : W5.grownBy W6 vb.ownBlock) (hb : OwnT W6 (X + 1) d (.slice A6 n6 c6) m) (hx : W6.heap[X]? = some (.cells #[.slice Aq nq cq, vb] 35 (0, 0))) :
    PS w p X Aq nq cq Q d (.slice A6 n6 c6) m (W6.setCell ⟨X, 1, none⟩ (.slice A6 n6 c6)) := by
  have h5 := h.call hp hf
  have hlo := h.lo
  have hge : ∀ k, vb.ownBlock = some k → X + 1 ≤ k := fun k hk => by
    obtain ⟨xs, ho, _⟩ := h5.b
    exact (ho.lt k hk).1
  have f6 := h5.fr.own hp hg (fun k hk => by have := hge k hk; omega)
  have hq6 : W6.ownsRow w.heap.size 9 1 (.slice Aq nq cq) nq (strs Q) := h5.q.kept hg (by
    cases hk : (Value.slice Aq nq cq).ownBlock with
    | none => exact .inl rfl
    | some k =>
      refine .inr fun e => ?_
      have h1 := h5.qx k hk
      have h2 := hge k e.symm
      omega)
  refine ⟨f6.set hp (show w.heap.size ≤ X by omega) _, hlo, heap_set_farG ((hg.block _ (lt_of_block h5.r0) (fun e => by have := hge _ e.symm; omega)).trans h5.r0) (by show w.heap.size ≠ X; omega) _, heap_set_selfG hx _, own_setfarG hq6 (fun e => ?_) _, h.ql, h.qx, hb.grown (only_setCell (World.grownBy.refl W6 (some X)) rfl _) (fun k hk => by injection hk with hk; omega)⟩
  have := h.qx X e
  omega
/-- A drawn program. -/
def DRt (w : World) (p : Nat) (e : Ending) (w' : World) : Prop := ∃ (Aq : Option Addr) (nq cq B : Nat) (Q : List ByteArray) (vb : Value) (l : List (Tr 3)), e = .returned (.agg #[.slice Aq nq cq, vb]) ∧ w'.ownsRow w.heap.size 9 1 (.slice Aq nq cq) nq (strs Q) ∧ Q.length = nq ∧
  (∀ k, (Value.slice Aq nq cq).ownBlock = some k → k < B) ∧ (w.heap.size ≤ B ∧ B ≤ w'.heap.size) ∧ OwnT w' B 2 vb l ∧ Short 3 Q ∧ (l.length ≤ 6 ∧ ∀ s ∈ l, szE s ≤ bE 2) ∧ CurAt w' p ∧ w.grownBy w' (some p)
theorem abc_take {j : Nat} (h : j ≤ 2) : Short 3 (([⟨#[97]⟩, ⟨#[98]⟩, ⟨#[99]⟩] : List ByteArray).take (1 + j)) := by
  refine ⟨by rw [List.length_take]; show 1 ≤ min (1 + j) 3; omega, by rw [List.length_take]; show min (1 + j) 3 ≤ 3; omega, fun s hs => ?_⟩
  have := List.mem_of_mem_take hs
  simp only [List.mem_cons, List.not_mem_nil, or_false] at this
  rcases this with rfl | rfl | rfl <;> decide
theorem gate_sz {wd : ByteArray} {ag : List ByteArray} (h1 : wd.size ≤ 4) (h2 : ag.length ≤ 3) (h3 : szS ag ≤ 27) : szT 2 [mkT (d := 1) ⟨1, wd, ag, 0⟩ []] ≤ 40 := by
  rw [szT_one, szE_mk, szT_nil]
  show 1 + (wd.size + (ag.length + szS ag + 0)) ≤ _
  omega
/-- Three statements' literal, in memory. -/
def Lit3 (R : Nat) (W : World) (b : Nat) : Prop := ∃ (cs : List Value) (m : List (Tr 3)), RdQ W (R ≤ ·) 5 (some ⟨b, 0, none⟩) 3 cs ∧ ElQ W (R ≤ ·) 2 cs m ∧ m.length = 3 ∧ ∀ s ∈ m, szE s ≤ bE 2
theorem Lit3.fr {R p b : Nat} {W W1 : World} (h : Lit3 R W b) (hf : Fr W p W1) (hp : p < R) : Lit3 R W1 b := by
  obtain ⟨cs, m, h1, h2, h3⟩ := h
  exact ⟨cs, m, fr_rdQ h1 hf (by omega), h2.keep (fun b hb hlt => hf.gr.block b hlt (fun e => by injection e with e; omega)) hf.gr.size, h3⟩
theorem three_le {wd q0 : ByteArray} {ag : List ByteArray} {l : List (Tr 2)} (h1 : wd.size ≤ 4) (h2 : ag.length ≤ 3) (h3 : szS ag ≤ 27) (hq : q0.size ≤ 9) (hl : szT 2 l ≤ 40) :
    ∀ s ∈ ([mkT (d := 2) ⟨1, wd, ag, 0⟩ []] ++ [mkT (d := 2) ⟨6, ⟨#[]⟩, [q0, ⟨#[114]⟩], 0⟩ []]) ++ [mkT (d := 2) ⟨7, ⟨#[]⟩, [⟨#[114]⟩], 0⟩ l], szE s ≤ bE 2 := by
  intro s hs
  have e : bE 2 = 2500 := rfl
  rw [e]
  simp only [List.mem_append, List.mem_singleton, or_assoc] at hs
  rcases hs with rfl | rfl | rfl
  · rw [szE_mk, szT_nil]
    show wd.size + (ag.length + szS ag + 0) ≤ _
    omega
  · rw [szE_mk, szT_nil]
    show 0 + (2 + (q0.size + (1 + 0)) + 0) ≤ _
    omega
  · rw [szE_mk]
    show 0 + (1 + (1 + 0) + szT 2 l) ≤ _
    omega
end Go.Proofs.YtbamjfbfipkioaaDoor
