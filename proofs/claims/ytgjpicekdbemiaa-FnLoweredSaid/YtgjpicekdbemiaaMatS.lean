/- Contracts of the laws' loops over lists of states: the size, comparing equal ones, marking, reading the marks back, copying. -/
import Derived.Test.YtgjpicekdbemiaaMat
namespace Go.Proofs.Ytgjpicekdbemiaa
open Go.RowKit
set_option linter.unusedVariables false
def szV (left : Int) (M : List (List Dm)) : Int := if left - (M.length + szM M) < 0 then -1 else left - (M.length + szM M)
/-- A state of marks. -/
def markR (k : Int) (m : Nat) : List Dm := (List.range m).map fun (i : Nat) => ⟨k + 5 * i, k + 5 * i + 1, k + 5 * i + 2, k + 5 * i + 3, k + 5 * i + 4⟩
theorem markR_length (k : Int) (m : Nat) : (markR k m).length = m := by simp [markR]
theorem markR_cells (k : Int) (m : Nat) : (markR k m).flatMap dcells = marks k (m * 5) := by
  induction m with
  | zero => rfl
  | succ m ih =>
    have h1 : markR k (m + 1) = markR k m ++ [⟨k + 5 * m, k + 5 * m + 1, k + 5 * m + 2, k + 5 * m + 3, k + 5 * m + 4⟩] := by simp [markR, List.range_succ]
    have h2 : marks k ((m + 1) * 5) = marks k (m * 5) ++ [.int .i64 (k + 5 * m), .int .i64 (k + 5 * m + 1), .int .i64 (k + 5 * m + 2), .int .i64 (k + 5 * m + 3), .int .i64 (k + 5 * m + 4)] := by
      rw [show (m + 1) * 5 = m * 5 + 1 + 1 + 1 + 1 + 1 from by omega]
      simp only [marks, List.range_succ, List.map_append, List.map_cons, List.map_nil, List.append_assoc, List.cons_append, List.nil_append]
      congr 1
      simp only [List.cons.injEq, Value.int.injEq, true_and, and_true]
      refine ⟨by omega, by omega, by omega, by omega, by omega⟩
    rw [h1, List.flatMap_append, ih, h2]
    rfl
def markM (k : Int) : List (List Dm) → List (List Dm)
  | [] => []
  | r :: M => markR k r.length :: markM (k + 5 * r.length) M
theorem markM_length : ∀ (k : Int) (M : List (List Dm)), (markM k M).length = M.length
  | _, [] => rfl
  | k, r :: M => by simp [markM, markM_length _ M]
theorem markM_snoc : ∀ (k : Int) (L : List (List Dm)) (r : List Dm), markM k (L ++ [r]) = markM k L ++ [markR (k + 5 * szM L) r.length]
  | k, [], r => by simp [markM, szM]
  | k, x :: L, r => by
    have e : k + 5 * (x.length : Int) + 5 * (szM L : Int) = k + 5 * (szM (x :: L) : Int) := by
      simp only [szM, List.map_cons, List.sum_cons]
      omega
    simp only [List.cons_append, markM, markM_snoc _ L r, e]
theorem markM_take (k : Int) (M : List (List Dm)) (t : Nat) (r : List Dm) (h : M[t]? = some r) : markM k (M.take (t + 1)) = markM k (M.take t) ++ [markR (k + 5 * szM (M.take t)) r.length] := by
  rw [List.take_add_one, h]
  exact markM_snoc _ _ _
theorem markM_at (k : Int) (M : List (List Dm)) (t : Nat) (r : List Dm) (h : M[t]? = some r) : (markM k M)[t]? = some (markR (k + 5 * szM (M.take t)) r.length) := by
  have hlt := (List.getElem?_eq_some_iff.1 h).1
  have e : M = M.take (t + 1) ++ M.drop (t + 1) := (List.take_append_drop _ _).symm
  have key : ∀ (L R : List (List Dm)) (k : Int), ∃ R', markM k (L ++ R) = markM k L ++ R' := by
    intro L
    induction L with
    | nil => intro R k; exact ⟨_, rfl⟩
    | cons x L ih => intro R k; obtain ⟨R', e⟩ := ih R (k + 5 * x.length); exact ⟨R', by simp only [List.cons_append, markM, e]⟩
  obtain ⟨R', e'⟩ := key (M.take (t + 1)) (M.drop (t + 1)) k
  rw [← e] at e'
  rw [e', markM_take k M t r h, List.append_assoc, List.getElem?_append_right (by rw [markM_length, List.length_take]; omega)]
  rw [markM_length, List.length_take, Nat.min_eq_left (by omega), Nat.sub_self]
  rfl
/-- A call that returns a list of states of its own. -/
def RetM (w : World) (n : Nat) (M : List (List Dm)) (e : Ending) (w' : World) : Prop :=
  ∃ v F, e = .returned v ∧ OwnM w' w.heap.size v n M F ∧ Below w.heap.size w w' ∧ w.heap.size ≤ w'.heap.size
theorem info_DOmegaSE : (Try.prog.info? 47).map (fun i => (i.zero, i.size, i.bytes)) = some (some (.slice none 0 0), 1, 24) := by kernel_rfl
end Go.Proofs.Ytgjpicekdbemiaa
