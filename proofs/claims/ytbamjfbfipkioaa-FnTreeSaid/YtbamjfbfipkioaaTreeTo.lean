/- Copying a list of statements: the copy reads the same and lies in new memory. -/
import Derived.Test.YtbamjfbfipkioaaTreeSz
namespace Go.Proofs.Ytbamjfbfipkioaa
open Go.RowKit
set_option linter.unusedVariables false
section
variable {w w' : World} {lo : Nat}
theorem setCell_keep {p : Addr} (hp : p.block < lo) (u : Value) : ∀ b o, lo ≤ b → b < w.heap.size → (w.setCell p u).cell? ⟨b, o, none⟩ = w.cell? ⟨b, o, none⟩ :=
  fun b o hb _ => World.cell?_setCell_other w p ⟨b, o, none⟩ u (fun e => by subst e; simp at hp; omega)
theorem size_setCell (p : Addr) (u : Value) : (w.setCell p u).heap.size = w.heap.size := by simp [World.setCell]
theorem RdT.set_ {d n : Nat} {A : Option Addr} {l : List (Tr d)} (h : RdT w lo d A n l) {p : Addr} (hp : p.block < lo) (u : Value) : RdT (w.setCell p u) lo d A n l :=
  h.keep (setCell_keep hp u) (by rw [size_setCell]; exact Nat.le_refl _)
theorem RdL.set_ {size n : Nat} {A : Option Addr} {xs : List Value} (h : RdL w lo size A n xs) {p : Addr} (hp : p.block < lo) (u : Value) : RdL (w.setCell p u) lo size A n xs :=
  h.keep (setCell_keep hp u) (by rw [size_setCell]; exact Nat.le_refl _)
theorem heap_set_self {g i : Nat} {t : TypeId} {cs : Array Value} (h : w.heap[g]? = some (.cells cs t (0, 0))) (u : Value) : (w.setCell ⟨g, i, none⟩ u).heap[g]? = some (.cells (cs.setIfInBounds i u) t (0, 0)) := by
  simp [World.setCell, Array.getElem?_modify, h]
theorem heap_set_far {g : Nat} {o : Obj} {p : Addr} (h : w.heap[g]? = some o) (hp : g ≠ p.block) (u : Value) : (w.setCell p u).heap[g]? = some o := (Below.heap_setCell w p u g hp).trans h
theorem boxcells5 {b : Nat} {x0 x1 x2 x3 x4 : Value} {t : TypeId} (lay : Below w'.heap.size w' w) (h : w'.heap[b]? = some (.cells #[x0, x1, x2, x3, x4] t (0, 0))) :
    w.cell? ⟨b, 0, none⟩ = some x0 ∧ w.cell? ⟨b, 1, none⟩ = some x1 ∧ w.cell? ⟨b, 2, none⟩ = some x2 ∧ w.cell? ⟨b, 3, none⟩ = some x3 ∧ w.cell? ⟨b, 4, none⟩ = some x4 := by
  have h' : w.heap[b]? = some (.cells #[x0, x1, x2, x3, x4] t (0, 0)) := (lay.block b (lt_of_block h)).trans h
  exact ⟨by simp [World.cell?, h'], by simp [World.cell?, h'], by simp [World.cell?, h'], by simp [World.cell?, h'], by simp [World.cell?, h']⟩
theorem boxfree {b : Nat} {cs : Array Value} {t : TypeId} (lay : Below w'.heap.size w' w) (h : w'.heap[b]? = some (.cells cs t (0, 0))) (j : Nat) : w.frozen? ⟨b, j, none⟩ = false := by
  have h' : w.heap[b]? = some (.cells cs t (0, 0)) := (lay.block b (lt_of_block h)).trans h
  simp [World.frozen?, h']
end
/-- A call that returns a copy of statements in new memory. -/
def RetT (d n : Nat) (l : List (Tr d)) (w : World) (e : Ending) (w' : World) : Prop :=
  ∃ A c, e = .returned (.slice A n c) ∧ RdT w' w.heap.size d A n l ∧ Below w.heap.size w w' ∧ w.heap.size ≤ w'.heap.size
theorem szT_mem {d : Nat} {l : List (Tr (d + 1))} {t : Nat} {s : Tr (d + 1)} (h : l[t]? = some s) : szE s ≤ sumE l := by
  have h1 := sumE_take l t s h
  have h2 := sumE_take_le l (t + 1)
  omega
theorem info_Stmt : (Try.prog.info? 36).map (fun i => (i.zero, i.size, i.bytes)) = some (some (.agg #[.int .i64 0, .string ⟨#[]⟩, .slice none 0 0, .int .i64 0, .slice none 0 0]), 5, 80) := by kernel_rfl
end Go.Proofs.Ytbamjfbfipkioaa
