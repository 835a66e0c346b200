/- Memory that is only marked: the words, no walk. -/
import Derived.Test.YtijocafindbebaaNF
namespace Go.Proofs.Ytijocafindbebaa
open Go.RowKit
set_option linter.unusedVariables false
/-- Of the blocks that were there only those from lo on and below hi have turned; there slices stay, strings stay strings, numbers stay numbers. -/
structure Mk (lo hi : Nat) (w w' : World) : Prop where
  os : w'.os = w.os
  tape : w'.tape = w.tape
  output : w'.output = w.output
  size : w.heap.size ≤ w'.heap.size
  far : ∀ k, k < w.heap.size → (k < lo ∨ hi ≤ k) → w'.heap[k]? = w.heap[k]?
  sl : ∀ b o A n c, b < hi → w.cell? ⟨b, o, none⟩ = some (.slice A n c) → w'.cell? ⟨b, o, none⟩ = some (.slice A n c)
  st : ∀ b o s, b < hi → w.cell? ⟨b, o, none⟩ = some (.string s) → ∃ s', w'.cell? ⟨b, o, none⟩ = some (.string s')
  it : ∀ b o x, b < hi → w.cell? ⟨b, o, none⟩ = some (.int .i64 x) → ∃ x', w'.cell? ⟨b, o, none⟩ = some (.int .i64 x')
  fr : ∀ b o, b < hi → w.frozen? ⟨b, o, none⟩ = false → w'.frozen? ⟨b, o, none⟩ = false
section
variable {lo hi : Nat} {w w' w'' : World}
theorem Mk.refl (lo hi : Nat) (w : World) : Mk lo hi w w := ⟨rfl, rfl, rfl, Nat.le_refl _, fun _ _ _ => rfl, fun _ _ _ _ _ _ h => h, fun _ _ _ _ h => ⟨_, h⟩, fun _ _ _ _ h => ⟨_, h⟩, fun _ _ _ h => h⟩
theorem Mk.trans (h : Mk lo hi w w') (k : Mk lo hi w' w'') : Mk lo hi w w'' :=
  ⟨k.os.trans h.os, k.tape.trans h.tape, k.output.trans h.output, Nat.le_trans h.size k.size, fun i hi' hf => (k.far i (Nat.lt_of_lt_of_le hi' h.size) hf).trans (h.far i hi' hf),
   fun b o A n c hb e => k.sl b o A n c hb (h.sl b o A n c hb e), fun b o s hb e => by obtain ⟨s', e'⟩ := h.st b o s hb e; exact k.st b o s' hb e',
   fun b o x hb e => by obtain ⟨x', e'⟩ := h.it b o x hb e; exact k.it b o x' hb e', fun b o hb e => k.fr b o hb (h.fr b o hb e)⟩
theorem Mk.of_below (hb : Below w.heap.size w w') (hh : hi ≤ w.heap.size) : Mk lo hi w w' :=
  ⟨hb.os, hb.tape, hb.output, hb.size, fun k hk _ => hb.block k hk, fun b o A n c h e => (hb.cell (p := ⟨b, o, none⟩) (Nat.lt_of_lt_of_le h hh)).trans e,
   fun b o s h e => ⟨s, (hb.cell (p := ⟨b, o, none⟩) (Nat.lt_of_lt_of_le h hh)).trans e⟩, fun b o x h e => ⟨x, (hb.cell (p := ⟨b, o, none⟩) (Nat.lt_of_lt_of_le h hh)).trans e⟩,
   fun b o h e => (hb.frozen (p := ⟨b, o, none⟩) (Nat.lt_of_lt_of_le h hh)).trans e⟩
theorem mk_far {b : Nat} (hb : lo ≤ b ∧ b < hi) (o : Nat) (u : Value) : ∀ k, k < w.heap.size → (k < lo ∨ hi ≤ k) → (w.setCell ⟨b, o, none⟩ u).heap[k]? = w.heap[k]? :=
  fun k _ hf => Below.heap_setCell w ⟨b, o, none⟩ u k (fun e => by have e' : k = b := e; omega)
theorem mk_size {b o : Nat} {u : Value} : w.heap.size ≤ (w.setCell ⟨b, o, none⟩ u).heap.size := by rw [size_setCell]; exact Nat.le_refl _
theorem mk_cell {b o b' o' : Nat} {u v x : Value} (hc : w.cell? ⟨b, o, none⟩ = some v) (h : w.cell? ⟨b', o', none⟩ = some x) : (w.setCell ⟨b, o, none⟩ u).cell? ⟨b', o', none⟩ = some x ∨ (x = v ∧ (w.setCell ⟨b, o, none⟩ u).cell? ⟨b', o', none⟩ = some u) := by
  by_cases e : (⟨b, o, none⟩ : Addr) = ⟨b', o', none⟩
  · rw [← e] at h ⊢
    exact .inr ⟨Option.some.inj (h.symm.trans hc), World.cell?_setCell_same w _ u hc⟩
  · exact .inl ((World.cell?_setCell_other w _ _ u e).trans h)
theorem Mk.str {b o : Nat} {s : ByteArray} (hb : lo ≤ b ∧ b < hi) (hc : w.cell? ⟨b, o, none⟩ = some (.string s)) (u : ByteArray) : Mk lo hi w (w.setCell ⟨b, o, none⟩ (.string u)) := by
  refine ⟨rfl, rfl, rfl, mk_size, mk_far hb o _, fun b' o' A n c _ e => ?_, fun b' o' s' _ e => ?_, fun b' o' x _ e => ?_, fun b' o' _ e => by simpa using e⟩
  · rcases mk_cell (u := .string u) hc e with h | ⟨h, _⟩
    · exact h
    · cases h
  · rcases mk_cell (u := .string u) hc e with h | ⟨_, h⟩ <;> exact ⟨_, h⟩
  · rcases mk_cell (u := .string u) hc e with h | ⟨h, _⟩
    · exact ⟨_, h⟩
    · cases h
theorem Mk.int {b o : Nat} {s : Int} (hb : lo ≤ b ∧ b < hi) (hc : w.cell? ⟨b, o, none⟩ = some (.int .i64 s)) (u : Int) : Mk lo hi w (w.setCell ⟨b, o, none⟩ (.int .i64 u)) := by
  refine ⟨rfl, rfl, rfl, mk_size, mk_far hb o _, fun b' o' A n c _ e => ?_, fun b' o' s' _ e => ?_, fun b' o' x _ e => ?_, fun b' o' _ e => by simpa using e⟩
  · rcases mk_cell (u := .int .i64 u) hc e with h | ⟨h, _⟩
    · exact h
    · cases h
  · rcases mk_cell (u := .int .i64 u) hc e with h | ⟨h, _⟩
    · exact ⟨_, h⟩
    · cases h
  · rcases mk_cell (u := .int .i64 u) hc e with h | ⟨_, h⟩ <;> exact ⟨_, h⟩
theorem Mk.below (h : Mk lo hi w w') (hl : lo ≤ w.heap.size) : Below lo w w' := ⟨h.os, h.tape, h.output, h.size, fun k hk => h.far k (by omega) (.inl hk)⟩
theorem own_mk {base e size n : Nat} {v : Value} {xs : List Value} (ho : w.ownsRow base e size v n xs) (h : Mk lo hi w w') (hb : hi ≤ base) : w'.ownsRow base e size v n xs := by
  refine ⟨ho.1, ?_⟩
  rcases ho.2 with hn | ⟨g, cap, cur, rfl, hg, hh, rest⟩
  · exact .inl hn
  · exact .inr ⟨g, cap, cur, rfl, hg, (h.far g (lt_of_block hh) (.inr (Nat.le_trans hb hg))).trans hh, rest⟩
end
/-- A slice of strings that may be written, its block from lo on and below hi. -/
def WS (w : World) (lo hi : Nat) (A : Option Addr) (n : Nat) : Prop :=
  0 < n → ∃ b off, A = some ⟨b, off, none⟩ ∧ (lo ≤ b ∧ b < hi) ∧ ∀ i, i < n → (∃ s, w.cell? ⟨b, off + i, none⟩ = some (.string s)) ∧ w.frozen? ⟨b, off + i, none⟩ = false
theorem WS.mk {lo hi n : Nat} {w w' : World} {A : Option Addr} (h : WS w lo hi A n) (k : Mk lo hi w w') : WS w' lo hi A n := fun h0 => by
  obtain ⟨b, off, e, hb, hc⟩ := h h0
  refine ⟨b, off, e, hb, fun i hi' => ?_⟩
  obtain ⟨⟨s, h1⟩, h2⟩ := hc i hi'
  exact ⟨k.st _ _ _ hb.2 h1, k.fr _ _ hb.2 h2⟩
theorem ws_of {lo n : Nat} {w : World} {A : Option Addr} {l : List ByteArray} (h : RdL w lo 1 A n (strs l)) (hf : NF lo w) : WS w lo w.heap.size A n := fun h0 => by
  obtain ⟨b, off, e, h1, h2, hc⟩ := h.2 h0
  have hl := h.1
  rw [strs_length] at hl
  refine ⟨b, off, e, ⟨h1, h2⟩, fun i hi => ⟨?_, hf b _ h1 h2⟩⟩
  obtain ⟨s, hs⟩ : ∃ s, l[i]? = some s := ⟨_, List.getElem?_eq_getElem (by omega)⟩
  exact ⟨s, hc i _ (strs_at hs)⟩
/-- Statements that may be written; of the list l the lengths alone are said. -/
def WT (w : World) (lo hi : Nat) : (d : Nat) → Option Addr → Nat → List (Tr d) → Prop
  | 0, _, n, l => l.length = n ∧ n = 0
  | d + 1, A, n, l => l.length = n ∧ (0 < n → ∃ b off, A = some ⟨b, off, none⟩ ∧ (lo ≤ b ∧ b < hi) ∧ ∀ (i : Nat) (s : Tr (d + 1)), l[i]? = some s →
      ∃ k word Aa ca ct Ab nb cb, (w.cell? ⟨b, off + i * 5, none⟩ = some (.int .i64 k) ∧ w.cell? ⟨b, off + i * 5 + 1, none⟩ = some (.string word) ∧ w.cell? ⟨b, off + i * 5 + 2, none⟩ = some (.slice Aa (hdT s).args.length ca) ∧
        w.cell? ⟨b, off + i * 5 + 3, none⟩ = some (.int .i64 ct) ∧ w.cell? ⟨b, off + i * 5 + 4, none⟩ = some (.slice Ab nb cb)) ∧
        (w.frozen? ⟨b, off + i * 5, none⟩ = false ∧ w.frozen? ⟨b, off + i * 5 + 1, none⟩ = false ∧ w.frozen? ⟨b, off + i * 5 + 3, none⟩ = false) ∧ WS w lo hi Aa (hdT s).args.length ∧ WT w lo hi d Ab nb (bdT s))
theorem WT.len {lo hi : Nat} {w : World} : ∀ {d n : Nat} {A : Option Addr} {l : List (Tr d)}, WT w lo hi d A n l → l.length = n
  | 0, _, _, _, h => h.1
  | _ + 1, _, _, _, h => h.1
theorem WT.mk {lo hi : Nat} {w w' : World} (k : Mk lo hi w w') : ∀ {d n : Nat} {A : Option Addr} {l : List (Tr d)}, WT w lo hi d A n l → WT w' lo hi d A n l := by
  intro d
  induction d with
  | zero => intro n A l h; exact h
  | succ d ih =>
    intro n A l h
    refine ⟨h.1, fun h0 => ?_⟩
    obtain ⟨b, off, e, hb, hc⟩ := h.2 h0
    refine ⟨b, off, e, hb, fun i s hi' => ?_⟩
    obtain ⟨kk, word, Aa, ca, ct, Ab, nb, cb, ⟨c0, c1, c2, c3, c4⟩, ⟨f0, f1, f3⟩, h1, h2⟩ := hc i s hi'
    obtain ⟨kk', d0⟩ := k.it _ _ _ hb.2 c0
    obtain ⟨word', d1⟩ := k.st _ _ _ hb.2 c1
    obtain ⟨ct', d3⟩ := k.it _ _ _ hb.2 c3
    exact ⟨kk', word', Aa, ca, ct', Ab, nb, cb, ⟨d0, d1, k.sl _ _ _ _ _ hb.2 c2, d3, k.sl _ _ _ _ _ hb.2 c4⟩, ⟨k.fr _ _ hb.2 f0, k.fr _ _ hb.2 f1, k.fr _ _ hb.2 f3⟩, h1.mk k, ih h2⟩
theorem wt_of {lo : Nat} {w : World} (hf : NF lo w) : ∀ {d n : Nat} {A : Option Addr} {l : List (Tr d)}, RdT w lo d A n l → WT w lo w.heap.size d A n l := by
  intro d
  induction d with
  | zero => intro n A l h; exact h
  | succ d ih =>
    intro n A l h
    refine ⟨h.1, fun h0 => ?_⟩
    obtain ⟨b, off, e, h1, h2, hc⟩ := h.2 h0
    refine ⟨b, off, e, ⟨h1, h2⟩, fun i s hi' => ?_⟩
    obtain ⟨Aa, ca, Ab, nb, cb, hs, g1, g2⟩ := hc i s hi'
    exact ⟨_, _, Aa, ca, _, Ab, nb, cb, hs, ⟨hf _ _ h1 h2, hf _ _ h1 h2, hf _ _ h1 h2⟩, ws_of g1 hf, ih g2⟩
/-- How many marks a list of statements takes. -/
def kT : (d : Nat) → List (Tr d) → Nat
  | 0, _ => 0
  | d + 1, l => (l.map fun (s : Tr (d + 1)) => 3 + (hdT s).args.length + kT d (bdT s)).sum
def kE {d : Nat} (s : Tr (d + 1)) : Nat := 3 + (hdT s).args.length + kT d (bdT s)
theorem kT_take {d : Nat} (l : List (Tr (d + 1))) (t : Nat) (s : Tr (d + 1)) (h : l[t]? = some s) : kT (d + 1) (l.take (t + 1)) = kT (d + 1) (l.take t) + kE s := by
  rw [List.take_add_one, h]
  simp [kT, kE]
theorem kT_take_le {d : Nat} (l : List (Tr (d + 1))) (t : Nat) : kT (d + 1) (l.take t) ≤ kT (d + 1) l := by
  have h : kT (d + 1) l = kT (d + 1) (l.take t) + kT (d + 1) (l.drop t) := by
    simp only [kT]
    rw [← List.sum_append, ← List.map_append, List.take_append_drop]
  omega
theorem kT_le : ∀ (d : Nat) (l : List (Tr d)), kT d l ≤ 3 * szT d l := by
  intro d
  induction d with
  | zero => intro l; exact Nat.zero_le _
  | succ d ih =>
    intro l
    rw [szT_succ]
    unfold sumE
    simp only [kT]
    induction l with
    | nil => simp
    | cons s l ih2 =>
      have h1 := ih (bdT s)
      simp only [List.map_cons, List.sum_cons, List.length_cons]
      have h2 : szE s = (hdT s).word.size + ((hdT s).args.length + szS (hdT s).args + szT d (bdT s)) := rfl
      omega
end Go.Proofs.Ytijocafindbebaa
