/- Reading a law's arguments: a slice of structs whose cells are known kind by kind, as a list of plain data. -/
import Derived.Test.YtgjpicekdbemiaaKit
namespace Go.Proofs.Ytgjpicekdbemiaa
open Go.ChangeShapes Go.WideShapes Go.RowKit Go.Deep

theorem exists_list {α : Type} {n : Nat} {p : Nat → α → Prop} (h : ∀ i, i < n → ∃ g, p i g) : ∃ l : List α, l.length = n ∧ ∀ (i : Nat) (g : α), l[i]? = some g → p i g := by
  induction n with
  | zero => exact ⟨[], rfl, by simp⟩
  | succ n ih =>
    obtain ⟨l, hl, hp⟩ := ih (fun i hi => h i (by omega))
    obtain ⟨g, hg⟩ := h n (by omega)
    refine ⟨l ++ [g], by simp [hl], fun i g' hi => ?_⟩
    by_cases hin : i < n
    · rw [List.getElem?_append_left (by omega)] at hi
      exact hp i g' hi
    · have hi' := (List.getElem?_eq_some_iff.1 hi).1
      simp at hi'
      obtain rfl : i = n := by omega
      rw [List.getElem?_append_right (by omega), hl] at hi
      simp at hi
      subst hi
      exact hg
theorem flat_get {α : Type} {f : α → List Value} {k : Nat} (hf : ∀ x, (f x).length = k) : ∀ (l : List α) (j : Nat) (u : Value), (l.flatMap f)[j]? = some u → ∃ g, l[j / k]? = some g ∧ (f g)[j % k]? = some u := by
  intro l
  induction l with
  | nil => intro j u h; simp at h
  | cons x l ih =>
    intro j u h
    rw [List.flatMap_cons] at h
    by_cases hj : j < k
    · rw [List.getElem?_append_left (by rw [hf]; exact hj)] at h
      exact ⟨x, by rw [Nat.div_eq_of_lt hj]; rfl, by rw [Nat.mod_eq_of_lt hj]; exact h⟩
    · have hk : k ≤ j := by omega
      rw [List.getElem?_append_right (by rw [hf]; exact hk), hf] at h
      obtain ⟨g, h1, h2⟩ := ih _ u h
      have hk0 : 0 < k := by
        rcases Nat.eq_zero_or_pos k with h0 | h0
        · subst h0
          have := (List.getElem?_eq_some_iff.1 h2).1
          rw [hf] at this
          omega
        · exact h0
      refine ⟨g, ?_, ?_⟩
      · rw [Nat.div_eq_sub_div hk0 hk]
        simpa using h1
      · rw [Nat.mod_eq_sub_mod hk]
        exact h2
theorem flat_at {α : Type} {f : α → List Value} {k : Nat} (hf : ∀ x, (f x).length = k) : ∀ (l : List α) (i : Nat) (g : α) (j : Nat), l[i]? = some g → j < k → (l.flatMap f)[i * k + j]? = (f g)[j]? := by
  intro l
  induction l with
  | nil => intro i g j h; simp at h
  | cons x l ih =>
    intro i g j h hj
    rw [List.flatMap_cons]
    cases i with
    | zero =>
      simp at h
      subst h
      rw [List.getElem?_append_left (by rw [hf]; omega)]
      simp
    | succ i =>
      rw [List.getElem?_append_right (by rw [hf, Nat.add_mul]; omega), hf, ← ih i g j (by simpa using h) hj]
      congr 1
      rw [Nat.add_mul]
      omega
theorem fill_step {pre zs : List Value} {m : Nat} {u : Value} (hm : pre.length = m) (h : m < zs.length) : (pre ++ zs.drop m).set m u = (pre ++ [u]) ++ zs.drop (m + 1) := by
  subst hm
  rw [List.set_append_right _ _ (Nat.le_refl _), Nat.sub_self, List.drop_eq_getElem_cons h, List.set_cons_zero]
  simp
section
variable {H : Type} {enc : TypeId × Value → H} {P : Program} {w : World} {base : Nat} {spare : Nat → Bool} {held : Bool}
theorem slice_one {r : Reach} {b0 fuel : Nat} {t e : TypeId} {v : Value} {x : DataW H × List MemPlace} (hv : Value.okWide P w r b0 t v) (ht : P.underlying t = some (.slice e))
    (h : DataW.trod enc P w base spare held fuel t v.cells.toList = some x) : DataW.trod enc P w base spare held fuel t [v] = some x := by
  obtain ⟨a, len, cap, rfl⟩ := okWide_slice ht hv
  exact h
theorem block_of_cell {a : Addr} {u : Value} (h : w.cell? a = some u) : a.block < w.heap.size := by
  unfold World.cell? at h
  rcases Nat.lt_or_ge a.block w.heap.size with hl | hl
  · exact hl
  · rw [Array.getElem?_eq_none hl] at h
    simp at h
/-- A slice that can be read, its elements of 'size' cells each that are 'cellsf g' for some plain g. -/
theorem rd_of_slice {α : Type} {t e : TypeId} {size fuel : Nat} {cellsf : α → List Value} {v : Value} {x : DataW H × List MemPlace} (ht : P.underlying t = some (.slice e)) (hC : P.cellsOf e = size) (hsz : 0 < size)
    (hE : ∀ (n : Nat) (cs : List Value) (y : DataW H × List MemPlace), DataW.trod enc P w base spare held n e cs = some y → ∃ g : α, cs = cellsf g)
    (hlen : ∀ g, (cellsf g).length = size) (h : DataW.trod enc P w base spare held fuel t [v] = some x) :
    ∃ (A : Option Addr) (n c : Nat) (l : List α), v = .slice A n c ∧ n ≤ c ∧ c ≤ maxLen ∧ l.length = n ∧ Rd w size A n (l.flatMap cellsf) := by
  rcases open_slice ht h with ⟨h0, _⟩ | ⟨a, len, cap, m, n, D, Pl, hcs, hb, hl, hm, hmm, hx, hi⟩
  · simp at h0
    subst h0
    exact ⟨none, 0, 0, [], rfl, Nat.le_refl _, Nat.zero_le _, rfl, by simp, fun h => absurd h (by omega)⟩
  · simp at hcs
    subst hcs
    have hlm : len ≤ m := by rw [hmm]; split <;> omega
    obtain ⟨l, hll, hp⟩ := exists_list (n := len) (p := fun i g => w.cells? base (a.add (i * P.cellsOf e)) (P.cellsOf e) = some (cellsf g)) (fun i hi' => by
      obtain ⟨cs', hc, ht'⟩ := hi i (by omega)
      obtain ⟨g, rfl⟩ := hE _ _ _ ht'
      exact ⟨g, hc⟩)
    refine ⟨some a, len, cap, l, rfl, hl, hm, hll, by rw [flat_length cellsf size hlen, hll], fun h0 => ?_⟩
    have hcell : ∀ (j : Nat) (u : Value), (l.flatMap cellsf)[j]? = some u → w.cell? (a.add j) = some u := by
      intro j u hu
      obtain ⟨g, h1, h2⟩ := flat_get hlen l j u hu
      have h3 := hp _ _ h1
      rw [hC] at h3
      obtain ⟨_, _, hat⟩ := World.cells?_some h3
      have h4 := hat (j % size) (Nat.mod_lt _ hsz)
      rw [Go.Deep.add_add, Nat.mul_comm, Nat.div_add_mod, h2] at h4
      exact h4
    have hj0 : ∃ u, (l.flatMap cellsf)[0]? = some u := ⟨_, List.getElem?_eq_getElem (by rw [flat_length cellsf size hlen, hll]; exact Nat.mul_pos h0 hsz)⟩
    obtain ⟨u0, hu0⟩ := hj0
    have hc0 := hcell 0 u0 hu0
    obtain ⟨b, off, spot⟩ := a
    have hspot : spot = none := by simpa [Addr.add] using World.cell?_spot hc0
    subst hspot
    refine ⟨b, off, rfl, by simpa [Addr.add] using block_of_cell hc0, fun j u hu => ?_⟩
    have := hcell j u hu
    rwa [add_plain] at this
end
end Go.Proofs.Ytgjpicekdbemiaa
