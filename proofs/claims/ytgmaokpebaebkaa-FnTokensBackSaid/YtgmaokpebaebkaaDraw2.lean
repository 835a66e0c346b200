/- Drawing permutations and gates: each draw returns, and writes nothing but the cursor. -/
import Derived.Test.YtgmaokpebaebkaaDraw
import Derived.Test.YtgmaokpebaebkaaValid
namespace Go.Proofs.Ytgmaokpebaebkaa
open Go.RowKit
set_option linter.unusedVariables false
/-- From w on only the cursor p and what is new has turned, and p is a cursor still. -/
structure Fr (w : World) (p : Nat) (w' : World) : Prop where
  cur : CurAt w' p
  gr : w.grownBy w' (some p)
theorem Fr.start {w : World} {p : Nat} (h : CurAt w p) : Fr w p w := ⟨h, World.grownBy.refl w _⟩
theorem Fr.lt {w w1 : World} {p : Nat} (h : Fr w p w1) (hp : p < w.heap.size) : p < w1.heap.size := h.cur.lt
theorem Fr.below {w w1 w2 : World} {p : Nat} (h : Fr w p w1) (hb : Below w1.heap.size w1 w2) : Fr w p w2 :=
  ⟨h.cur.below hb, h.gr.andThen (only_of_below hb none) (by simp)⟩
theorem Fr.alloc {w w1 : World} {p : Nat} (h : Fr w p w1) (ob : Obj) : Fr w p (w1.alloc ob) := h.below ((Below.refl _ _).alloc (Nat.le_refl _) _)
theorem Fr.call {w w1 w2 : World} {p : Nat} (h : Fr w p w1) (hc : CurAt w2 p) (hg : w1.grownBy w2 (some p)) : Fr w p w2 := ⟨hc, h.gr.trans hg⟩
theorem Fr.own {w w1 w2 : World} {p : Nat} {row : Option Nat} (h : Fr w p w1) (hp : p < w.heap.size) (hg : w1.grownBy w2 row) (hr : ∀ k, row = some k → w.heap.size ≤ k) : Fr w p w2 :=
  ⟨h.cur.grown hg (fun k hk => by have := hr k hk; omega), h.gr.andThen hg (fun j hj => .inl (hr j hj))⟩
theorem Fr.set {w w1 : World} {p : Nat} (h : Fr w p w1) (hp : p < w.heap.size) {a : Addr} (ha : w.heap.size ≤ a.block) (v : Value) : Fr w p (w1.setCell a v) :=
  h.own (row := some a.block) hp (only_setCell (World.grownBy.refl w1 _) rfl v) (fun k hk => by injection hk with hk; omega)
theorem Fr.drewN {w w1 : World} {p : Nat} (h : Fr w p w1) (n : Nat) : Fr w p (w1.drewN n) := ⟨h.cur, only_drewN h.gr n⟩
/-- A block of the call's own stays as it is behind a draw. -/
theorem box_call {w1 w2 : World} {b p : Nat} {ob : Obj} (h : w1.heap[b]? = some ob) (hg : w1.grownBy w2 (some p)) (hne : b ≠ p) : w2.heap[b]? = some ob :=
  (hg.block b (lt_of_block h) (fun e => hne (by injection e))).trans h
def DG (w : World) (p : Nat) (e : Ending) (w' : World) : Prop := ∃ k a b c : Int, e = .returned (.agg #[.int .i64 k, .int .i64 a, .int .i64 b, .int .i64 c]) ∧ CurAt w' p ∧ w.grownBy w' (some p)
def DP (w : World) (p n : Nat) (e : Ending) (w' : World) : Prop := ∃ (v : Value) (L : List Int), e = .returned v ∧ L.length = n ∧ w'.ownsRow w.heap.size 3 1 v n (L.map (Value.int .i64)) ∧ CurAt w' p ∧ w.grownBy w' (some p)
def RetInts (w : World) (n : Nat) (e : Ending) (w' : World) : Prop := ∃ (v : Value) (L : List Int), e = .returned v ∧ L.length = n ∧ w'.ownsRow w.heap.size 3 1 v n (L.map (Value.int .i64)) ∧ Below w.heap.size w w' ∧ w.heap.size ≤ w'.heap.size
theorem rd_lit1 {w : World} {cs : Array Value} {e n size b : Nat} (h0 : b = w.heap.size) (hs : cs.size = n * size) : Rd (w.alloc (.cells cs e)) size (some ⟨b, 0, none⟩) n cs.toList := by
  subst h0
  refine ⟨by simpa using hs, fun _ => ⟨_, 0, rfl, by simp, fun j u hu => ?_⟩⟩
  have h := heap_alloc_new w (.cells cs e)
  have hc : cs[j]? = some u := by rw [← Array.getElem?_toList]; exact hu
  rw [Nat.zero_add]
  exact cell_at h hc

theorem free_at {w : World} {b j : Nat} {cs : Array Value} {t : TypeId} (h : w.heap[b]? = some (.cells cs t (0, 0))) : w.frozen? ⟨b, j, none⟩ = false := by simp [World.frozen?, h]


end Go.Proofs.Ytgmaokpebaebkaa
