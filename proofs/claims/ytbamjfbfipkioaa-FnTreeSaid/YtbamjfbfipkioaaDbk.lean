/- What the drawing of a list of statements needs. -/
import Derived.Test.YtbamjfbfipkioaaDcl
import Derived.Test.YtbamjfbfipkioaaInv
namespace Go.Proofs.Ytbamjfbfipkioaa
open Go.RowKit
set_option linter.unusedVariables false
def bE (d : Nat) : Nat := 100 * 5 ^ d
theorem bE_succ (d : Nat) : bE (d + 1) = 5 * bE d := by unfold bE; rw [Nat.pow_succ]; omega
theorem bE_pos (d : Nat) : 100 ≤ bE d := by
  have := Nat.pow_pos (n := d) (show 0 < 5 by omega)
  unfold bE
  omega
theorem sumE_bound {d : Nat} (E : Nat) : ∀ l : List (Tr (d + 1)), (∀ s ∈ l, szE s ≤ E) → sumE l ≤ l.length * E := by
  intro l
  induction l with
  | nil => intro _; exact Nat.zero_le _
  | cons s l ih =>
    intro h
    have h1 := h s (by simp)
    have h2 := ih (fun x hx => h x (by simp [hx]))
    have : sumE (s :: l) = szE s + sumE l := by simp [sumE]
    rw [this, List.length_cons, Nat.add_mul, Nat.one_mul]
    omega
/-- Drawn statements: at most three, none too great. -/
def Few (d : Nat) (l : List (Tr (d + 1))) : Prop := l.length ≤ 3 ∧ ∀ s ∈ l, szE s ≤ bE d
theorem few_sz {d : Nat} {l : List (Tr (d + 1))} (h : Few d l) : szT (d + 1) l ≤ 3 + 3 * bE d := by
  have h1 := sumE_bound (bE d) l h.2
  have h2 := Nat.mul_le_mul_right (bE d) h.1
  have h3 := h.1
  rw [szT_succ]
  omega
theorem few_snoc {d n : Nat} {l : List (Tr (d + 1))} {s : Tr (d + 1)} (hl : l.length ≤ n) (h : ∀ s ∈ l, szE s ≤ bE d) (hs : szE s ≤ bE d) : (l ++ [s]).length ≤ n + 1 ∧ ∀ y ∈ l ++ [s], szE y ≤ bE d := by
  refine ⟨by rw [List.length_append]; exact Nat.succ_le_succ hl, fun x hx => ?_⟩
  rcases List.mem_append.1 hx with hx | hx
  · exact h x hx
  · obtain rfl := List.mem_singleton.1 hx
    exact hs
def DBd (d : Nat) (w : World) (p : Nat) (e : Ending) (w' : World) : Prop := ∃ (v : Value) (l : List (Tr (d + 1))), e = .returned v ∧ OwnT w' w.heap.size d v l ∧ Few d l ∧ CurAt w' p ∧ w.grownBy w' (some p)
/-- The row, open for one more statement whose names and body are new. -/
theorem OwnT.add {w : World} {base R d : Nat} {v : Value} {l : List (Tr (d + 1))} {cs : List Value} {s : Tr (d + 1)} (h : OwnT w base d v l) (hv : ∀ k, v.ownBlock = some k → k < R) (hB : base ≤ R) (hs : StQ w (R ≤ ·) d cs s) :
    ∃ xs, w.ownsRow base 36 5 v l.length xs ∧ ∀ (wa w6 : World) (v6 : Value), w6.ownsRow base 36 5 v6 (l.length + 1) (xs ++ cs) → Below w.heap.size w wa → wa.grownBy w6 v.ownBlock → (v6.ownBlock = v.ownBlock ∨ v6.ownBlock = some wa.heap.size) → OwnT w6 base d v6 (l ++ [s]) := by
  obtain ⟨xs, ho, he⟩ := h
  refine ⟨xs, ho, fun wa w6 v6 h6 hba hg hat => OwnT.push (m := [s]) he (ElQ.one (hs.mono fun b _ hb => ⟨Nat.le_trans hB hb, fun e => ?_⟩)) h6 hba hg hat⟩
  have := hv b e.symm
  omega
theorem OwnT.lt {w : World} {base d : Nat} {v : Value} {l : List (Tr (d + 1))} (h : OwnT w base d v l) : ∀ k, v.ownBlock = some k → k < w.heap.size := fun k hk => by
  obtain ⟨xs, ho, _⟩ := h
  exact (ho.lt k hk).2
theorem OwnT.ge {w : World} {base d : Nat} {v : Value} {l : List (Tr (d + 1))} (h : OwnT w base d v l) : ∀ k, v.ownBlock = some k → base ≤ k := fun k hk => by
  obtain ⟨xs, ho, _⟩ := h
  exact (ho.lt k hk).1
theorem stQ_low {w : World} {R R' d : Nat} {cs : List Value} {s : Tr (d + 1)} (h : StQ w (R ≤ ·) d cs s) (hr : R' ≤ R) : StQ w (R' ≤ ·) d cs s := h.mono (fun b _ hb => Nat.le_trans hr hb)
theorem rdQ_topH {w : World} {cs : Array Value} {e n size b : Nat} {P : Nat → Prop} {xs : List Value} (h0 : b = w.heap.size) (hs : cs.size = n * size) (hP : P b) (hx : cs.toList = xs) : RdQ (w.alloc (.cells cs e)) P size (some ⟨b, 0, none⟩) n xs := by
  subst hx
  exact rdQ_topG h0 hs hP
theorem pack19 {g : Value} {wz w w1 w3 : World} {p bg ba : Nat} {y s0 : ByteArray} (hs : g = .pointer (some ⟨bg, 0, none⟩)) (hy : y.size ≤ 9) (hh : wz.heap[bg]? = some (.cells #[.int .i64 1, .string y, .slice (some ⟨ba, 0, none⟩) 1 1, .int .i64 0, .slice none 0 0] 36 (0, 0))) (hb : w1.heap.size ≤ ba) (hr : RdQ wz (· = ba) 1 (some ⟨ba, 0, none⟩) 1 (strs [s0])) (h1 : Fr w p wz) (h2 : Fr w3 p wz) :
    ∃ (bg ba : Nat) (y : ByteArray), g = .pointer (some ⟨bg, 0, none⟩) ∧ y.size ≤ 9 ∧ w1.heap.size ≤ ba ∧ wz.heap[bg]? = some (.cells #[.int .i64 1, .string y, .slice (some ⟨ba, 0, none⟩) 1 1, .int .i64 0, .slice none 0 0] 36 (0, 0)) ∧ RdQ wz (· = ba) 1 (some ⟨ba, 0, none⟩) 1 (strs [s0]) ∧ Fr w p wz ∧ Fr w3 p wz :=
  ⟨bg, ba, y, hs, hy, hb, hh, hr, h1, h2⟩
theorem few5 : ∀ y ∈ ([⟨#[120]⟩, ⟨#[122]⟩, ⟨#[115]⟩, ⟨#[121]⟩, ⟨#[104]⟩] : List ByteArray), y.size ≤ 9 := by
  intro y hy
  simp only [List.mem_cons, List.not_mem_nil, or_false] at hy
  rcases hy with rfl | rfl | rfl | rfl | rfl <;> decide
theorem few3 : ∀ y ∈ ([⟨#[114]⟩, ⟨#[115, 49]⟩, ⟨#[114]⟩] : List ByteArray), y.size ≤ 9 := by
  intro y hy
  simp only [List.mem_cons, List.not_mem_nil, or_false] at hy
  rcases hy with rfl | rfl | rfl <;> decide
theorem TrQ.upTo {w : World} {P : Nat → Prop} {A : Option Addr} {n : Nat} {l : List (Tr 1)} (h : TrQ w P 1 A n l) : ∀ d : Nat, ∃ l' : List (Tr (d + 1)), TrQ w P (d + 1) A n l' ∧ szT (d + 1) l' = szT 1 l := by
  intro d
  induction d with
  | zero => exact ⟨l, h, rfl⟩
  | succ d ih =>
    obtain ⟨l', h1, h2⟩ := ih
    exact ⟨l'.map (upT (d + 1)), h1.up, (szT_up (d + 1) l').trans h2⟩
theorem fr_heap0 {w W : World} {p b : Nat} {ob : Obj} (h : Fr w p W) (hne : b ≠ p) (hc : w.heap[b]? = some ob) : W.heap[b]? = some ob := box_call hc h.gr hne
theorem fr_cell {w W : World} {p b o : Nat} {u : Value} (h : Fr w p W) (hb : b < w.heap.size) (hne : b ≠ p) (hc : w.cell? ⟨b, o, none⟩ = some u) : W.cell? ⟨b, o, none⟩ = some u := by
  rw [← hc]
  have := h.gr.block b hb (fun e => hne (by injection e))
  simp [World.cell?, this]
theorem Fr.drew {w w1 : World} {p : Nat} (h : Fr w p w1) : Fr w p w1.drew := ⟨h.cur, h.gr.os, h.gr.tape, h.gr.output, h.gr.size, h.gr.block⟩
theorem fr_rdQ {w W : World} {P : Nat → Prop} {p size n : Nat} {A : Option Addr} {xs : List Value} (h : RdQ w P size A n xs) (hf : Fr w p W) (hp : ¬ P p) : RdQ W P size A n xs := h.call hf.gr hp
theorem fr_own {w W : World} {base d p : Nat} {v : Value} {l : List (Tr (d + 1))} (h : OwnT w base d v l) (hf : Fr w p W) (hp : p < base) : OwnT W base d v l := h.grown hf.gr (fun k hk => by injection hk with hk; omega)
/-- A statement's variable, not yet written. -/
def GZ (R bg : Nat) (W : World) : Prop := R ≤ bg ∧ W.heap[bg]? = some (.cells #[.int .i64 0, .string ⟨#[]⟩, .slice none 0 0, .int .i64 0, .slice none 0 0] 36 (0, 0))
theorem GZ.fr {R bg p : Nat} {W W1 : World} (h : GZ R bg W) (hf : Fr W p W1) (hp : p < R) : GZ R bg W1 := ⟨h.1, fr_heap0 hf (by have := h.1; omega) h.2⟩
theorem rel19 {w w1 w3 W : World} {p bg ba : Nat} {y s0 : ByteArray} (hp : p < w.heap.size) (hR : w.heap.size ≤ w1.heap.size) (h1 : Fr w p W) (h2 : Fr w3 p W) (h13 : w1.heap.size ≤ w3.heap.size) (g1 : w3.heap.size ≤ bg) (g2 : W.heap[bg]? = some (.cells #[.int .i64 0, .string ⟨#[]⟩, .slice none 0 0, .int .i64 0, .slice none 0 0] 36 (0, 0)))
    (hr : RdQ W (fun b => w3.heap.size ≤ b) 1 (some ⟨ba, 0, none⟩) 1 (strs [s0])) (hy : y.size ≤ 9) {x15 : Value} (e : x15 = .pointer (some ⟨bg, 0, none⟩)) {V : World} (hV : V = ((((W.setCell ⟨bg, 0, none⟩ (.int .i64 1)).setCell ⟨bg, 1, none⟩ (.string y)).setCell ⟨bg, 2, none⟩ (.slice (some ⟨ba, 0, none⟩) 1 1)).setCell ⟨bg, 3, none⟩ (.int .i64 0)).setCell ⟨bg, 4, none⟩ (.slice none 0 0)) :
    ∃ (bg ba : Nat) (y : ByteArray), x15 = .pointer (some ⟨bg, 0, none⟩) ∧ y.size ≤ 9 ∧ w1.heap.size ≤ ba ∧ V.heap[bg]? = some (.cells #[.int .i64 1, .string y, .slice (some ⟨ba, 0, none⟩) 1 1, .int .i64 0, .slice none 0 0] 36 (0, 0)) ∧ RdQ V (· = ba) 1 (some ⟨ba, 0, none⟩) 1 (strs [s0]) ∧ Fr w p V ∧ Fr w3 p V := by
  subst hV
  obtain ⟨b, o, e1, h, hlt, hc⟩ := hr.2 (by omega)
  injection e1 with e1
  injection e1 with e1 e2
  subst e1 e2
  have h : w3.heap.size ≤ ba := h
  have hne : bg ≠ ba := by
    intro e
    subst e
    have h1 := hc 0 _ rfl
    have h2 := cell_at (j := 0) g2 rfl
    rw [Nat.zero_add, h2] at h1
    cases h1
  have h3 : RdQ W (· = ba) 1 (some ⟨ba, 0, none⟩) 1 (strs [s0]) := ⟨hr.1, fun _ => ⟨ba, 0, rfl, rfl, hlt, hc⟩⟩
  have hp3 : p < w3.heap.size := by omega
  exact ⟨bg, ba, y, e, hy, Nat.le_trans h13 h, heap_set5 g2, ((((h3.set_ hne _).set_ hne _).set_ hne _).set_ hne _).set_ hne _,
    ((((h1.set hp (show w.heap.size ≤ bg by omega) _).set hp (show w.heap.size ≤ bg by omega) _).set hp (show w.heap.size ≤ bg by omega) _).set hp (show w.heap.size ≤ bg by omega) _).set hp (show w.heap.size ≤ bg by omega) _,
    ((((h2.set hp3 g1 _).set hp3 g1 _).set hp3 g1 _).set hp3 g1 _).set hp3 g1 _⟩
def BodySaid (d : Nat) : Prop := ∀ (A : Option Addr) (m c : Nat) (N : List ByteArray) (wild : Bool) (w : World) (p : Nat), CurAt w p → Names w p A m N →
    Calls Try.prog 27 #[.pointer (some ⟨p, 0, none⟩), .slice A m c, .int .i64 ((d : Int) + 1), .bool wild] w (DBd d w p)
end Go.Proofs.Ytbamjfbfipkioaa
