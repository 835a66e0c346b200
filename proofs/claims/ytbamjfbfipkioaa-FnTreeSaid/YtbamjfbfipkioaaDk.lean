/- What the draws of statements need beside the rows: cells, rows of names, the names' sizes. -/
import Derived.Test.YtbamjfbfipkioaaOwnT
import Derived.Test.YtbamjfbfipkioaaDrw
import Derived.Test.YtbamjfbfipkioaaStep
import Derived.Test.YtbamjfbfipkioaaExp
import Derived.Test.YtbamjfbfipkioaaHas
import Derived.Test.YtbamjfbfipkioaaDpick
namespace Go.Proofs.Ytbamjfbfipkioaa
open Go.RowKit
set_option linter.unusedVariables false
theorem own_ne_typeG {w : World} {base e size n g : Nat} {v : Value} {xs : List Value} {cs : Array Value} {t : TypeId} (h : w.ownsRow base e size v n xs) (hg : w.heap[g]? = some (.cells cs t (0, 0))) (hne : e ≠ t) : v.ownBlock ≠ some g := by
  rcases h.2 with ⟨rfl, _⟩ | ⟨g', cap, cur, rfl, _, hh, _⟩
  · simp [Value.ownBlock]
  · intro he
    have e1 : g' = g := by simpa [Value.ownBlock] using he
    subst e1
    rw [hh] at hg
    injection hg with hg
    injection hg with _ ht
    exact hne ht
theorem heap_set_farG {w : World} {g : Nat} {o : Obj} {p : Addr} (h : w.heap[g]? = some o) (hp : g ≠ p.block) (u : Value) : (w.setCell p u).heap[g]? = some o := (Below.heap_setCell w p u g hp).trans h
theorem heap_set_selfG {w : World} {g i : Nat} {t : TypeId} {cs : Array Value} (h : w.heap[g]? = some (.cells cs t (0, 0))) (u : Value) : (w.setCell ⟨g, i, none⟩ u).heap[g]? = some (.cells (cs.setIfInBounds i u) t (0, 0)) := by
  simp [World.setCell, Array.getElem?_modify, h]
theorem own_setfarG {w : World} {base e size n : Nat} {v : Value} {xs : List Value} (h : w.ownsRow base e size v n xs) {p : Addr} (hp : v.ownBlock ≠ some p.block) (u : Value) : (w.setCell p u).ownsRow base e size v n xs := by
  refine ⟨h.1, ?_⟩
  rcases h.2 with hn | ⟨g, cap, cur, rfl, hb, hh, rest⟩
  · exact .inl hn
  · exact .inr ⟨g, cap, cur, rfl, hb, heap_set_farG hh (fun e => hp (by simp [Value.ownBlock, e])) u, rest⟩
theorem own_drewG {w : World} {base e size n : Nat} {v : Value} {xs : List Value} (h : w.ownsRow base e size v n xs) : w.drew.ownsRow base e size v n xs := h
theorem own_drewNG {w : World} {base e size n : Nat} {v : Value} {xs : List Value} (h : w.ownsRow base e size v n xs) (k : Nat) : (w.drewN k).ownsRow base e size v n xs := h
theorem own_drawG {w1 w2 : World} {B e size n p : Nat} {v : Value} {xs : List Value} (h : w1.ownsRow B e size v n xs) (hg : w1.grownBy w2 (some p)) (hp : p < B) : w2.ownsRow B e size v n xs := h.kept hg (by
  cases hk : v.ownBlock with
  | none => exact .inl rfl
  | some k =>
    refine .inr fun e => ?_
    injection e with e
    have := (h.lt k hk).1
    omega)
theorem cells5G {w w' : World} {b : Nat} {x0 x1 x2 x3 x4 : Value} {t : TypeId} (lay : Below w'.heap.size w' w) (h : w'.heap[b]? = some (.cells #[x0, x1, x2, x3, x4] t (0, 0))) :
    w.cell? ⟨b, 0, none⟩ = some x0 ∧ w.cell? ⟨b, 1, none⟩ = some x1 ∧ w.cell? ⟨b, 2, none⟩ = some x2 ∧ w.cell? ⟨b, 3, none⟩ = some x3 ∧ w.cell? ⟨b, 4, none⟩ = some x4 := by
  have h' : w.heap[b]? = some (.cells #[x0, x1, x2, x3, x4] t (0, 0)) := (lay.block b (lt_of_block h)).trans h
  exact ⟨by simp [World.cell?, h'], by simp [World.cell?, h'], by simp [World.cell?, h'], by simp [World.cell?, h'], by simp [World.cell?, h']⟩
theorem one_strG (a : ByteArray) : ∀ u ∈ [Value.string a], u.oneCell' = true := by
  intro u hu
  rw [List.mem_singleton.1 hu]
  rfl
theorem strs_snocG (l : List ByteArray) (a : ByteArray) : strs (l ++ [a]) = strs l ++ [.string a] := by simp [strs]
theorem strs_oneG : ∀ l : List ByteArray, ∀ u ∈ strs l, u.oneCell' = true := by
  intro l u hu
  obtain ⟨s, _, rfl⟩ := List.mem_map.1 hu
  rfl
theorem RdQ.set_ {w : World} {P : Nat → Prop} {size n : Nat} {A : Option Addr} {xs : List Value} (h : RdQ w P size A n xs) {p : Addr} (hp : ¬ P p.block) (u : Value) : RdQ (w.setCell p u) P size A n xs :=
  h.keep (fun b hb _ => Below.heap_setCell w p u b (fun e => hp (e ▸ hb))) (by simp [World.setCell])
theorem RdQ.below {w w' : World} {P : Nat → Prop} {size n : Nat} {A : Option Addr} {xs : List Value} (h : RdQ w P size A n xs) (hb : Below w.heap.size w w') : RdQ w' P size A n xs :=
  h.keep (fun b _ hlt => hb.block b hlt) hb.size
theorem RdQ.call {w w' : World} {P : Nat → Prop} {size n p : Nat} {A : Option Addr} {xs : List Value} (h : RdQ w P size A n xs) (hg : w.grownBy w' (some p)) (hp : ¬ P p) : RdQ w' P size A n xs :=
  h.keep (fun b hb hlt => hg.block b hlt (fun e => by injection e with e; exact hp (e ▸ hb))) hg.size
theorem TrQ.below {w w' : World} {P : Nat → Prop} {d n : Nat} {A : Option Addr} {l : List (Tr d)} (h : TrQ w P d A n l) (hb : Below w.heap.size w w') : TrQ w' P d A n l :=
  h.keep (fun b _ hlt => hb.block b hlt) hb.size
theorem TrQ.call {w w' : World} {P : Nat → Prop} {d n p : Nat} {A : Option Addr} {l : List (Tr d)} (h : TrQ w P d A n l) (hg : w.grownBy w' (some p)) (hp : ¬ P p) : TrQ w' P d A n l :=
  h.keep (fun b hb hlt => hg.block b hlt (fun e => by injection e with e; exact hp (e ▸ hb))) hg.size
theorem trQ_nil {w : World} {P : Nat → Prop} {A : Option Addr} : ∀ d : Nat, TrQ w P d A 0 []
  | 0 => ⟨rfl, rfl⟩
  | _ + 1 => ⟨rfl, fun h => absurd h (by omega)⟩
theorem rd_drawG {w w' : World} {p size n : Nat} {A : Option Addr} {xs : List Value} (h : Rd w size A n xs) (hg : w.grownBy w' (some p)) (hne : ∀ ad, A = some ad → ad.block ≠ p) : Rd w' size A n xs := grown_rd h hg (fun _ => hne)
theorem heap_topG {w : World} {o : Obj} {n : Nat} (hn : n = w.heap.size) : (w.alloc o).heap[n]? = some o := by subst hn; exact heap_alloc_new w o
theorem heap_pastG {w : World} {o ob : Obj} {n : Nat} (hn : n < w.heap.size) (h : w.heap[n]? = some ob) : (w.alloc o).heap[n]? = some ob := (Below.heap_alloc _ _ _ hn).trans h
theorem heap_drewG {w : World} {ob : Obj} {n : Nat} (h : w.heap[n]? = some ob) : w.drew.heap[n]? = some ob := h
theorem rdQ_topG {w : World} {cs : Array Value} {e n size b : Nat} {P : Nat → Prop} (h0 : b = w.heap.size) (hs : cs.size = n * size) (hP : P b) : RdQ (w.alloc (.cells cs e)) P size (some ⟨b, 0, none⟩) n cs.toList := by
  have r := rd_lit1 (e := e) h0 hs
  refine ⟨r.1, fun h => ?_⟩
  obtain ⟨b', off, e, hb, hc⟩ := r.2 h
  injection e with e
  injection e with e1 e2
  subst e1 e2
  exact ⟨b, 0, rfl, hP, hb, hc⟩
theorem rdQ_pastG {w : World} {o : Obj} {P : Nat → Prop} {size n : Nat} {A : Option Addr} {xs : List Value} (h : RdQ w P size A n xs) : RdQ (w.alloc o) P size A n xs := h.below ((Below.refl _ _).alloc (Nat.le_refl _) _)
theorem rdQ_drewG {w : World} {P : Nat → Prop} {size n : Nat} {A : Option Addr} {xs : List Value} (h : RdQ w P size A n xs) : RdQ w.drew P size A n xs := h
theorem wp_name {P : Program} {c : Code} {Q : Exit → Act → World → Prop} {a : Act} {w : World} (h : ∀ wz, wz = w → Code.wp P c Q a wz) : Code.wp P c Q a w := h w rfl
theorem heap_set5 {w : World} {b : Nat} {t : TypeId} {z0 z1 z2 z3 z4 v0 v1 v2 v3 v4 : Value} (h : w.heap[b]? = some (.cells #[z0, z1, z2, z3, z4] t (0, 0))) :
    (((((w.setCell ⟨b, 0, none⟩ v0).setCell ⟨b, 1, none⟩ v1).setCell ⟨b, 2, none⟩ v2).setCell ⟨b, 3, none⟩ v3).setCell ⟨b, 4, none⟩ v4).heap[b]? = some (.cells #[v0, v1, v2, v3, v4] t (0, 0)) :=
  heap_set_selfG (heap_set_selfG (heap_set_selfG (heap_set_selfG (heap_set_selfG h v0) v1) v2) v3) v4
theorem szS_le (m : Nat) : ∀ l : List ByteArray, (∀ s ∈ l, s.size ≤ m) → szS l ≤ l.length * m := by
  intro l
  induction l with
  | nil => intro _; exact Nat.zero_le _
  | cons s l ih =>
    intro h
    have h1 := h s (by simp)
    have h2 := ih (fun x hx => h x (by simp [hx]))
    rw [szS, List.length_cons, Nat.add_mul, Nat.one_mul]
    omega
theorem gname_size (k : Nat) (h : k ≤ 12) : (⟨(gname k).toArray⟩ : ByteArray).size ≤ 4 := by
  have hk : k = 0 ∨ k = 1 ∨ k = 2 ∨ k = 3 ∨ k = 4 ∨ k = 5 ∨ k = 6 ∨ k = 7 ∨ k = 8 ∨ k = 9 ∨ k = 10 ∨ k = 11 ∨ k = 12 := by omega
  rcases hk with rfl | rfl | rfl | rfl | rfl | rfl | rfl | rfl | rfl | rfl | rfl | rfl | rfl <;> decide
/-- The names that a body is drawn over. -/
structure Names (w : World) (p : Nat) (A : Option Addr) (m : Nat) (N : List ByteArray) : Prop where
  rd : Rd w 1 A m (strs N)
  len : N.length = m
  lo : 1 ≤ m
  hi : m ≤ 4
  small : ∀ s ∈ N, s.size ≤ 9
  ne : ∀ ad, A = some ad → ad.block ≠ p
theorem Names.below {w w' : World} {p m : Nat} {A : Option Addr} {N : List ByteArray} (h : Names w p A m N) (hb : Below w.heap.size w w') : Names w' p A m N := ⟨h.rd.below hb, h.len, h.lo, h.hi, h.small, h.ne⟩
theorem Names.call {w w' : World} {p m : Nat} {A : Option Addr} {N : List ByteArray} (h : Names w p A m N) (hg : w.grownBy w' (some p)) : Names w' p A m N := ⟨rd_drawG h.rd hg h.ne, h.len, h.lo, h.hi, h.small, h.ne⟩
theorem Names.fr {w w' : World} {p m : Nat} {A : Option Addr} {N : List ByteArray} (h : Names w p A m N) (hf : Fr w p w') : Names w' p A m N := h.call hf.gr
theorem Names.at_ {w : World} {p m t : Nat} {A : Option Addr} {N : List ByteArray} (h : Names w p A m N) (ht : t < m) : ∃ b off s, A = some ⟨b, off, none⟩ ∧ b < w.heap.size ∧ w.cell? ⟨b, off + t, none⟩ = some (.string s) ∧ s ∈ N ∧ s.size ≤ 9 := by
  obtain ⟨s, hs⟩ : ∃ s, N[t]? = some s := ⟨_, List.getElem?_eq_getElem (by rw [h.len]; exact ht)⟩
  obtain ⟨b, off, e, hb, hc⟩ := h.rd.2 (by omega)
  have hm := List.mem_of_getElem? hs
  exact ⟨b, off, s, e, hb, hc t _ (strs_at hs), hm, h.small s hm⟩
/-- A drawn gate's statement. -/
def DGt (w : World) (p : Nat) (e : Ending) (w' : World) : Prop := ∃ (word : ByteArray) (args : List ByteArray) (Aa : Option Addr) (ca : Nat), e = .returned (.agg #[.int .i64 1, .string word, .slice Aa args.length ca, .int .i64 0, .slice none 0 0]) ∧
  RdQ w' (w.heap.size ≤ ·) 1 Aa args.length (strs args) ∧ (args.length ≤ ca ∧ word.size ≤ 4 ∧ args.length ≤ 3 ∧ szS args ≤ 27) ∧ CurAt w' p ∧ w.grownBy w' (some p)
end Go.Proofs.Ytbamjfbfipkioaa
