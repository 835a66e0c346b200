/- The amplitudes of a state on one side of a qubit: plain facts, the reference's function, and writing single amplitudes. -/
import Derived.Test.YtgjpicekdbemiaaEqD
import Derived.Test.YtgjpicekdbemiaaBrsS
namespace Go.Proofs.Ytgjpicekdbemiaa
open Go.RowKit
set_option linter.unusedVariables false
def dz : Dm := ⟨0, 0, 0, 0, 0⟩
/-- Bit q of i, as the machine reckons it. -/
def bitI (i : Nat) (q : Int) : Int := bits BinOp.and IntKind.i64 ((i : Int) / 2 ^ q.toNat) 1
def sideL (q one : Int) (l : List Dm) : List Dm := l.mapIdx fun i x => if bitI i q = one then x else dz
theorem sideL_len (q one : Int) (l : List Dm) : (sideL q one l).length = l.length := by simp [sideL]
theorem sideL_at (q one : Int) {l : List Dm} {i : Nat} {x : Dm} (h : l[i]? = some x) : (sideL q one l)[i]? = some (if bitI i q = one then x else dz) := by simp [sideL, h]
/-- Has a list an amplitude that is not 0? -/
def nz (l : List Dm) : Bool := l.any fun x => !eqD x dz
theorem nz_snoc (l : List Dm) (x : Dm) : nz (l ++ [x]) = (nz l || !eqD x dz) := by simp [nz]
theorem nz_take {l : List Dm} {t : Nat} {x : Dm} (h : l[t]? = some x) : nz (l.take (t + 1)) = (nz (l.take t) || !eqD x dz) := by rw [List.take_add_one, h]; exact nz_snoc _ _
/-- The first t of P, then zeros. -/
def fillD (P : List Dm) (t n : Nat) : List Dm := P.take t ++ List.replicate (n - t) dz
theorem fillD_zero (P : List Dm) (n : Nat) : fillD P 0 n = List.replicate n dz := by simp [fillD]
theorem fillD_end {P : List Dm} {n : Nat} (h : P.length = n) : fillD P n n = P := by simp [fillD, ← h]
theorem fillD_len {P : List Dm} {t n : Nat} (h : P.length = n) (ht : t ≤ n) : (fillD P t n).length = n := by simp [fillD, h]; omega
theorem fillD_at {P : List Dm} {t n : Nat} (h : P.length = n) (ht : t < n) : (fillD P t n)[t]? = some dz := by
  have hl : (P.take t).length = t := by rw [List.length_take]; omega
  rw [fillD, List.getElem?_append_right (by omega), hl, Nat.sub_self, List.getElem?_replicate, if_pos (by omega)]
theorem fillD_set {P : List Dm} {t n : Nat} {x : Dm} (h : P.length = n) (hx : P[t]? = some x) : (fillD P t n).set t x = fillD P (t + 1) n := by
  have ht := (List.getElem?_eq_some_iff.1 hx).1
  have hl : (P.take t).length = t := by rw [List.length_take]; omega
  unfold fillD
  rw [List.set_append_right _ _ (by omega), hl, Nat.sub_self, show n - t = (n - (t + 1)) + 1 from by omega, List.replicate_succ, List.set_cons_zero, List.take_add_one, hx]
  simp
theorem fillD_off {P : List Dm} {t n : Nat} (h : P.length = n) (hx : P[t]? = some dz) : fillD P t n = fillD P (t + 1) n := by
  have ht := (List.getElem?_eq_some_iff.1 hx).1
  unfold fillD
  rw [show n - t = (n - (t + 1)) + 1 from by omega, List.replicate_succ, List.take_add_one, hx]
  simp
theorem made_dz (n : Nat) : (madeCells (Value.agg #[.int .i64 0, .int .i64 0, .int .i64 0, .int .i64 0, .int .i64 0]).cells (n * 5)).toList = (List.replicate n dz).flatMap dcells := by
  refine List.ext_getElem? fun j => ?_
  have hL : ((List.replicate n dz).flatMap dcells).length = n * 5 := by rw [flat_length dcells 5 dcells_len]; simp
  by_cases hj : j < n * 5
  · have h1 := flat_at dcells_len (List.replicate n dz) (j / 5) dz (j % 5) (by rw [List.getElem?_replicate, if_pos (by omega)]) (Nat.mod_lt _ (by decide))
    rw [show j / 5 * 5 + j % 5 = j from by omega] at h1
    rw [h1]
    have h5 : j % 5 = 0 ∨ j % 5 = 1 ∨ j % 5 = 2 ∨ j % 5 = 3 ∨ j % 5 = 4 := by omega
    have h2 : (madeCells (Value.agg #[.int .i64 0, .int .i64 0, .int .i64 0, .int .i64 0, .int .i64 0]).cells (n * 5)).toList[j]? = some ((#[Value.int .i64 0, .int .i64 0, .int .i64 0, .int .i64 0, .int .i64 0] : Array Value)[j % 5]!) := by
      simp [madeCells, hj, Value.cells]
    rw [h2]
    rcases h5 with h | h | h | h | h <;> rw [h] <;> rfl
  · rw [List.getElem?_eq_none (by rw [Array.length_toList, size_madeCells]; omega), List.getElem?_eq_none (by rw [hL]; omega)]
theorem neq_D0 (w : World) (a : Dm) : (binOp .neq 67 (.agg #[.int .i64 a.a, .int .i64 a.b, .int .i64 a.c, .int .i64 a.d, .int .i64 a.e]) (.agg #[.int .i64 0, .int .i64 0, .int .i64 0, .int .i64 0, .int .i64 0])).run Try.prog w = .ok (.bool (!eqD a dz)) w := neq_D w a dz
/-- The cells of amplitude i of an owned row. -/
theorem dcell5 {w : World} {base g n cap i T : Nat} {l : List Dm} {x : Dm} (h : w.ownsRow base T 5 (.slice (some ⟨g, 0, none⟩) n cap) n (l.flatMap dcells)) (hx : l[i]? = some x) :
    (w.cell? ⟨g, i * 5, none⟩ = some (.int .i64 x.a) ∧ w.cell? ⟨g, i * 5 + 1, none⟩ = some (.int .i64 x.b) ∧ w.cell? ⟨g, i * 5 + 2, none⟩ = some (.int .i64 x.c) ∧ w.cell? ⟨g, i * 5 + 3, none⟩ = some (.int .i64 x.d) ∧ w.cell? ⟨g, i * 5 + 4, none⟩ = some (.int .i64 x.e)) ∧
    w.frozen? ⟨g, i * 5, none⟩ = false ∧ w.frozen? ⟨g, i * 5 + 1, none⟩ = false ∧ w.frozen? ⟨g, i * 5 + 2, none⟩ = false ∧ w.frozen? ⟨g, i * 5 + 3, none⟩ = false ∧ w.frozen? ⟨g, i * 5 + 4, none⟩ = false := by
  have hlen := h.1
  have hi := (List.getElem?_eq_some_iff.1 hx).1
  have hl : l.length = n := by rw [flat_length dcells 5 dcells_len] at hlen; omega
  have hc := h.cellAt
  have at_ : ∀ j u, (dcells x)[j]? = some u → j < 5 → w.cell? ⟨g, i * 5 + j, none⟩ = some u := fun j u hu hj => by
    rw [hc _ (by omega), flat_at dcells_len l i x j hx hj]
    exact hu
  have hf := h.frozenAt
  exact ⟨⟨at_ 0 _ rfl (by decide), at_ 1 _ rfl (by decide), at_ 2 _ rfl (by decide), at_ 3 _ rfl (by decide), at_ 4 _ rfl (by decide)⟩, hf _, hf _, hf _, hf _, hf _⟩
/-- Storing an amplitude at place i. -/
theorem store5 {w : World} {base g n cap i T : Nat} {l : List Dm} (x : Dm) (h : w.ownsRow base T 5 (.slice (some ⟨g, 0, none⟩) n cap) n (l.flatMap dcells)) :
    (((((w.setCell ⟨g, i * 5, none⟩ (.int .i64 x.a)).setCell ⟨g, i * 5 + 1, none⟩ (.int .i64 x.b)).setCell ⟨g, i * 5 + 1 + 1, none⟩ (.int .i64 x.c)).setCell ⟨g, i * 5 + 1 + 1 + 1, none⟩ (.int .i64 x.d)).setCell ⟨g, i * 5 + 1 + 1 + 1 + 1, none⟩ (.int .i64 x.e)).ownsRow base T 5 (.slice (some ⟨g, 0, none⟩) n cap) n ((l.set i x).flatMap dcells) ∧
    w.grownBy (((((w.setCell ⟨g, i * 5, none⟩ (.int .i64 x.a)).setCell ⟨g, i * 5 + 1, none⟩ (.int .i64 x.b)).setCell ⟨g, i * 5 + 1 + 1, none⟩ (.int .i64 x.c)).setCell ⟨g, i * 5 + 1 + 1 + 1, none⟩ (.int .i64 x.d)).setCell ⟨g, i * 5 + 1 + 1 + 1 + 1, none⟩ (.int .i64 x.e)) (some g) := by
  have s0 := h.stored (i * 5) (.int .i64 x.a)
  have s1 := s0.1.stored (i * 5 + 1) (.int .i64 x.b)
  have s2 := s1.1.stored (i * 5 + 1 + 1) (.int .i64 x.c)
  have s3 := s2.1.stored (i * 5 + 1 + 1 + 1) (.int .i64 x.d)
  have s4 := s3.1.stored (i * 5 + 1 + 1 + 1 + 1) (.int .i64 x.e)
  rw [flat_set5] at s4
  exact ⟨s4.1, (((s0.2.trans s1.2).trans s2.2).trans s3.2).trans s4.2⟩
/-- A state of its own, and whether it has something. -/
def RetSide (w : World) (n : Nat) (l : List Dm) (b : Bool) (e : Ending) (w' : World) : Prop :=
  ∃ A c, e = .returned (.tuple #[.slice A n c, .bool b]) ∧ w'.ownsRow w.heap.size 67 5 (.slice A n c) n (l.flatMap dcells) ∧ Below w.heap.size w w' ∧ w.heap.size ≤ w'.heap.size
end Go.Proofs.Ytgjpicekdbemiaa
