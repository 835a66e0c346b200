/- The branch that a simulation begins with: the program's function and the reference's return the same. -/
import Derived.Test.YtgjpicekdbemiaaBasis
namespace Go.Proofs.Ytgjpicekdbemiaa
open Go.RowKit
set_option linter.unusedVariables false
/-- A call that returns a branch whose states are its own. -/
def RetBr (w : World) (b : Int) (n : Nat) (M : List (List Dm)) (e : Ending) (w' : World) : Prop :=
  ∃ A c F, e = .returned (.agg #[.int .i64 b, .slice A n c]) ∧ OwnM w' w.heap.size (.slice A n c) n M F ∧ Below w.heap.size w w' ∧ w.heap.size ≤ w'.heap.size
def rng (m N : Nat) : List (List Dm) := (List.range m).map (bst N)
theorem rng_len (m N : Nat) : (rng m N).length = m := by simp [rng]
theorem rng_succ (m N : Nat) : rng (m + 1) N = rng m N ++ [bst N m] := by simp [rng, List.range_succ]
theorem boxcells2 {w w' : World} {b : Nat} {x0 x1 : Value} {t : TypeId} (lay : Below w'.heap.size w' w) (h : w'.heap[b]? = some (.cells #[x0, x1] t (0, 0))) : w.cell? ⟨b, 0, none⟩ = some x0 ∧ w.cell? ⟨b, 1, none⟩ = some x1 := by
  have h' : w.heap[b]? = some (.cells #[x0, x1] t (0, 0)) := (lay.block b (lt_of_block h)).trans h
  exact ⟨by simp [World.cell?, h'], by simp [World.cell?, h']⟩
theorem below_of_drew2 {w w' : World} (h : Below w.drew.heap.size w.drew w') : Below w.heap.size w w' := ⟨h.os, h.tape, h.output, h.size, h.block⟩
theorem held_call {wr w2 : World} {X base T size n : Nat} {V v : Value} {S : List Value} (hb2 : Below wr.drew.heap.size wr.drew w2) (p1 : wr.cell? ⟨X, 1, none⟩ = some V) (f1 : wr.frozen? ⟨X, 1, none⟩ = false) (hX : X < wr.heap.size) (om : wr.ownsRow base T size v n S) :
    w2.cell? ⟨X, 1, none⟩ = some V ∧ w2.frozen? ⟨X, 1, none⟩ = false ∧ w2.ownsRow base T size v n S ∧ Below wr.heap.size wr w2 ∧ X < w2.heap.size := by
  have hb3 := below_of_drew2 hb2
  have hs := hb3.size
  exact ⟨(hb3.cell (p := ⟨X, 1, none⟩) hX).trans p1, (hb3.frozen (p := ⟨X, 1, none⟩) hX).trans f1, ownsRow_below om hb3, hb3, by omega⟩
theorem held_append {w2 w3 : World} {X base : Nat} {V v : Value} {o : Obj} (hg : (w2.alloc o).grownBy w3 v.ownBlock) (hbase : ∀ k, v.ownBlock = some k → base ≤ k) (hX : X < base) (k2 : w2.cell? ⟨X, 1, none⟩ = some V) (fr2 : w2.frozen? ⟨X, 1, none⟩ = false) (hX2 : X < w2.heap.size) :
    w3.cell? ⟨X, 1, none⟩ = some V ∧ w3.frozen? ⟨X, 1, none⟩ = false := by
  have h1 : (w2.alloc o).heap[X]? = w2.heap[X]? := Below.heap_alloc _ _ _ hX2
  have h2 : w3.heap[X]? = (w2.alloc o).heap[X]? := hg.block X (by simp; omega) (fun e => by have := hbase X e.symm; omega)
  rw [h1] at h2
  exact ⟨by rw [← k2]; simp [World.cell?, h2], by rw [← fr2]; simp [World.frozen?, h2]⟩
theorem rd_lit2 {w : World} {cs : Array Value} {e n size b : Nat} (h0 : b = w.heap.size) (hs : cs.size = n * size) : Rd (w.alloc (.cells cs e)) size (some ⟨b, 0, none⟩) n cs.toList := by
  subst h0
  refine ⟨by simpa using hs, fun _ => ⟨_, 0, rfl, by simp, fun j u hu => ?_⟩⟩
  have h := heap_alloc_new w (.cells cs e)
  have hc : cs[j]? = some u := by rw [← Array.getElem?_toList]; exact hu
  rw [Nat.zero_add]
  exact cell_at h hc
/-- 'append', kept shut in a walk. -/
def appSem (ts : Array TypeId) (ty : TypeId) (args : Array Value) : Sem Value := Builtin.append_ ts ty args
theorem fold_append (ts : Array TypeId) (ty : TypeId) (args : Array Value) : Builtin.append_ ts ty args = appSem ts ty args := rfl
attribute [local go_sem ↓ high] fold_append
theorem kin_setCell (w : World) (X j : Nat) (v : Value) : Kin [X] w (w.setCell ⟨X, j, none⟩ v) :=
  ⟨rfl, rfl, rfl, by simp [World.setCell], fun k _ hn => Below.heap_setCell w _ v k (fun e => hn (by simp [e]))⟩
/-- 'x.States = append(x.States, r)': what holds behind it. -/
theorem states_step {w0 wr w2 w3 : World} {B base X t c c2 c3 T : Nat} {A A3 a2 : Option Addr} {bits : Value} {M : List (List Dm)} {r : List Dm} {SS : List Value} {o : Obj}
    (hX : X < base) (hBX : B ≤ X) (hbase : base ≤ wr.heap.size) (hx1 : wr.heap[X]? = some (.cells #[bits, .slice A t c] T (0, 0)))
    (hM1 : M.length = t) (hM2 : wr.ownsRow base 47 1 (.slice A t c) t SS) (hN : ((Value.slice A t c).ownBlock.toList ++ SS.flatMap (fun u => u.ownBlock.toList)).Nodup)
    (hrows : ∀ (j : Nat) (r : List Dm), M[j]? = some r → ∃ u, SS[j]? = some u ∧ wr.ownsRow base 67 5 u r.length (r.flatMap dcells))
    (hb : Below B w0 wr) (own2 : w2.ownsRow wr.heap.size 67 5 (.slice a2 r.length c2) r.length (r.flatMap dcells)) (hb3 : Below wr.heap.size wr w2)
    (hown3 : w3.ownsRow base 47 1 (.slice A3 (t + 1) c3) (t + 1) (SS ++ [.slice a2 r.length c2])) (hg : (w2.alloc o).grownBy w3 (Value.slice A t c).ownBlock)
    (hat : (Value.slice A3 (t + 1) c3).ownBlock = (Value.slice A t c).ownBlock ∨ (Value.slice A3 (t + 1) c3).ownBlock = some (w2.alloc o).heap.size) :
    (w3.setCell ⟨X, 1, none⟩ (.slice A3 (t + 1) c3)).heap[X]? = some (.cells #[bits, .slice A3 (t + 1) c3] T (0, 0)) ∧ (∃ F, OwnM (w3.setCell ⟨X, 1, none⟩ (.slice A3 (t + 1) c3)) base (.slice A3 (t + 1) c3) (t + 1) (M ++ [r]) F) ∧ Below B w0 (w3.setCell ⟨X, 1, none⟩ (.slice A3 (t + 1) c3)) := by
  have hs2 := hb3.size
  have hga := hM2.lt
  have hblk : ∀ k, k < base → w3.heap[k]? = wr.heap[k]? := by
    intro k hk
    have h1 : w3.heap[k]? = (w2.alloc o).heap[k]? := hg.block k (by simp; omega) (fun e => by have := (hga k e.symm).1; omega)
    rw [h1, Below.heap_alloc _ _ _ (by omega), hb3.block k (by omega)]
  have hx3 : w3.heap[X]? = some (.cells #[bits, .slice A t c] T (0, 0)) := by rw [hblk X hX]; exact hx1
  have hsize3 := hg.size
  have hal : w2.heap.size + 1 ≤ w3.heap.size := by simpa using hsize3
  refine ⟨by rw [heap_setCell_same _ _ _ _ _ _ hx3]; rfl, ?_, ?_⟩
  · have hrows2 : ∀ (j : Nat) (r : List Dm), M[j]? = some r → ∃ u, SS[j]? = some u ∧ (w2.alloc o).ownsRow base 67 5 u r.length (r.flatMap dcells) := fun j r hj => by
      obtain ⟨u, hu, ho⟩ := hrows j r hj
      exact ⟨u, hu, (ownsRow_below ho hb3).alloc _⟩
    have hlt := OwnM.lt ⟨SS, hM1, hM2, rfl, hN, hrows⟩
    obtain ⟨F', hF', _⟩ := ownM_snoc (w := w2.alloc o) (w' := w3) (v' := .slice A3 (t + 1) c3) (r := r) hM1 ((ownsRow_below hM2 hb3).alloc _) hN hrows2 ((own_from own2 hbase).alloc _) (fun k hk hm => by
      have h1 := (own2.lt k hk).1
      have h2 := (hlt k hm).2
      omega) hown3 hg hat
    exact ⟨F', hF'.kin (kin_setCell _ _ _ _) (fun k hk hm => by
      have h1 := (hF'.lt k hk).1
      simp at hm
      omega)⟩
  · have hbw : Below B w0 w3 := ⟨by rw [hg.os]; exact hb3.os.trans hb.os, by rw [hg.tape]; exact hb3.tape.trans hb.tape, by rw [hg.output]; exact hb3.output.trans hb.output, by have := hb.size; omega, fun k hk => (hblk k (by omega)).trans (hb.block k hk)⟩
    exact hbw.setCell (by exact hBX) _
def okI (n k : Int) : Bool := inB n 1 4 && inB k 1 n
def initM (n k : Int) : List (List Dm) := if okI n k = true then rng (2 ^ k.toNat) (2 ^ n.toNat) else []
theorem initM_no {n k : Int} (h : okI n k = false) : initM n k = [] := by simp [initM, h]
theorem initM_len_le (n k : Int) : (initM n k).length ≤ 16 := by
  unfold initM
  split
  · rename_i h
    simp only [okI, Bool.and_eq_true] at h
    have h1 := inB_iff.1 h.1
    have h2 := inB_iff.1 h.2
    rw [rng_len]
    have hk : k = 1 ∨ k = 2 ∨ k = 3 ∨ k = 4 := by omega
    rcases hk with rfl | rfl | rfl | rfl <;> decide
  · simp
theorem szM_rng (m N : Nat) : szM (rng m N) = m * N := by
  induction m with
  | zero => simp [rng, szM]
  | succ m ih => rw [rng_succ, szM_snoc, ih, bst_len, Nat.add_mul, Nat.one_mul]
theorem initM_sz_le (n k : Int) : szM (initM n k) ≤ 256 := by
  unfold initM
  split
  · rename_i h
    simp only [okI, Bool.and_eq_true] at h
    have h1 := inB_iff.1 h.1
    have h2 := inB_iff.1 h.2
    rw [szM_rng]
    have hk : k = 1 ∨ k = 2 ∨ k = 3 ∨ k = 4 := by omega
    have hn : n = 1 ∨ n = 2 ∨ n = 3 ∨ n = 4 := by omega
    rcases hk with rfl | rfl | rfl | rfl <;> rcases hn with rfl | rfl | rfl | rfl <;> decide
  · simp [szM]
theorem pow_lt {k K t : Nat} {n : Int} (hK : K = 2 ^ k) (h : k ≤ n.toNat) (ht : t < K) : t < 2 ^ n.toNat := by
  subst hK
  exact Nat.lt_of_lt_of_le ht (Nat.pow_le_pow_right (by omega) h)
end Go.Proofs.Ytgjpicekdbemiaa
