/- Comparing two lists element by element: plain facts, no program in sight. -/
import Derived.Test.YtgjpicekdbemiaaKit
namespace Go.Proofs.Ytgjpicekdbemiaa
def eqBy {α : Type} (f : α → α → Bool) (l l' : List α) : Bool := (l.length == l'.length) && (List.zip l l').all (fun p => f p.1 p.2)
def EqUpto {α : Type} (f : α → α → Bool) (l l' : List α) (t : Nat) : Prop := ∀ j, j < t → ∀ x y, l[j]? = some x → l'[j]? = some y → f x y = true
section
variable {α : Type} {f : α → α → Bool} {l l' : List α}
theorem eqBy_len (h : l.length ≠ l'.length) : eqBy f l l' = false := by simp [eqBy, h]
theorem eqBy_f {k : Nat} {x y : α} (hx : l[k]? = some x) (hy : l'[k]? = some y) (h : f x y = false) : eqBy f l l' = false := by
  have hm : (x, y) ∈ List.zip l l' := by
    have : (List.zip l l')[k]? = some (x, y) := by rw [List.getElem?_zip_eq_some]; exact ⟨hx, hy⟩
    exact List.mem_of_getElem? this
  rw [eqBy, Bool.and_eq_false_iff]
  right
  rw [List.all_eq_false]
  exact ⟨_, hm, by simp [h]⟩
theorem eqBy_t {t : Nat} (hl : l.length = l'.length) (h : EqUpto f l l' t) (ht : l.length ≤ t) : eqBy f l l' = true := by
  rw [eqBy, Bool.and_eq_true]
  refine ⟨by simp [hl], List.all_eq_true.2 fun p hp => ?_⟩
  obtain ⟨j, hj⟩ := List.getElem?_of_mem hp
  rw [List.getElem?_zip_eq_some] at hj
  have := (List.getElem?_eq_some_iff.1 hj.1).1
  exact h j (by omega) _ _ hj.1 hj.2
theorem eqUpto_zero : EqUpto f l l' 0 := fun _ h => absurd h (by omega)
theorem eqUpto_step {t : Nat} {x y : α} (h : EqUpto f l l' t) (hx : l[t]? = some x) (hy : l'[t]? = some y) (he : f x y = true) : EqUpto f l l' (t + 1) := by
  intro j hj a b ha hb
  by_cases hjt : j < t
  · exact h j hjt a b ha hb
  · obtain rfl : j = t := by omega
    rw [hx] at ha
    rw [hy] at hb
    injection ha with ha
    injection hb with hb
    subst ha hb
    exact he
theorem eqBy_refl (hf : ∀ x ∈ l, f x x = true) : eqBy f l l = true :=
  eqBy_t rfl (fun j _ x y hx hy => by rw [hx] at hy; injection hy with hy; subst hy; exact hf x (List.mem_of_getElem? hx)) (Nat.le_refl _)
theorem eqBy_eq (hf : ∀ x ∈ l, ∀ y, f x y = true → x = y) (h : eqBy f l l' = true) : l = l' := by
  rw [eqBy, Bool.and_eq_true] at h
  obtain ⟨h1, h2⟩ := h
  refine List.ext_getElem (by simpa using h1) fun i hi hi' => ?_
  refine hf _ (List.getElem_mem hi) _ ?_
  have hz : (l[i], l'[i]) ∈ List.zip l l' := by
    have : (List.zip l l')[i]? = some (l[i], l'[i]) := by rw [List.getElem?_zip_eq_some]; exact ⟨List.getElem?_eq_getElem hi, List.getElem?_eq_getElem hi'⟩
    exact List.mem_of_getElem? this
  exact List.all_eq_true.1 h2 _ hz
end
/-- Whether two strings are equal, as Go's '==' asks it. -/
def eqSt (a b : ByteArray) : Bool := a.toList == b.toList
theorem toList_data (a : ByteArray) : a.toList = a.data.toList := Lib.toList_data a
theorem eqSt_refl (a : ByteArray) : eqSt a a = true := by simp [eqSt]
theorem eqSt_eq {a b : ByteArray} (h : eqSt a b = true) : a = b := by
  have h' : a.toList = b.toList := by simpa [eqSt] using h
  rw [toList_data, toList_data] at h'
  cases a
  cases b
  simp_all
end Go.Proofs.Ytgjpicekdbemiaa
