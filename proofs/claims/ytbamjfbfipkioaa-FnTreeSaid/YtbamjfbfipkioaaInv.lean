/- A region that draws its order, by an invariant: each operation is walked once, whatever came before it. -/
import Derived.Test.YtbamjfbfipkioaaKit
import Derived.Orders
namespace Go.Proofs.Ytbamjfbfipkioaa
open Go.RowKit
set_option linter.unusedVariables false
section
variable {P : Program} {ops : Array Oper} {Q : Exit → Act → World → Prop} {md : Region.Mode}
theorem count_set {l : List Bool} : ∀ {i : Nat}, l[i]? = some false → (l.set i true).count false + 1 = l.count false := by
  induction l with
  | nil => intro i h; simp at h
  | cons x l ih =>
    intro i h
    cases i with
    | zero =>
      simp only [List.getElem?_cons_zero, Option.some.injEq] at h
      subst h
      simp
    | succ i =>
      simp only [List.getElem?_cons_succ] at h
      have := ih h
      simp only [List.set_cons_succ, List.count_cons]
      omega
/-- Whatever has come up, what it waits for has come up before. -/
def ClosedL (md : Region.Mode) (ops : Array Oper) (listed : Array Bool) : Prop := ∀ i o, ops[i]? = some o → listed.getD i false = true → ∀ e ∈ o.after, Region.binds md e = true → listed.getD e.on false = true
theorem closed_set {listed : Array Bool} {i : Nat} (hc : ClosedL md ops listed) (hi : i ∈ Region.ready md ops listed) : ClosedL md ops (listed.setIfInBounds i true) := by
  have mono : ∀ k, listed.getD k false = true → (listed.setIfInBounds i true).getD k false = true := fun k h => by
    by_cases hne : i = k
    · subst hne
      have hj : i < listed.size := by
        rcases Nat.lt_or_ge i listed.size with h' | h'
        · exact h'
        · simp [Array.getElem?_eq_none h'] at h
      simp [hj]
    · rwa [getD_set_ne false hne]
  intro j o ho hj e he hb
  by_cases hne : i = j
  · subst hne
    obtain ⟨_, o', ho', h⟩ := mem_ready.1 hi
    rw [ho] at ho'
    injection ho' with ho'
    subst ho'
    exact mono _ (h e he hb)
  · rw [getD_set_ne false hne] at hj
    exact mono _ (hc j o ho hj e he hb)
theorem wpAny_inv {J : Array Bool → Act → World → Prop}
    (hs : ∀ listed a w, listed.size = ops.size → ClosedL md ops listed → J listed a w → ∀ i ∈ Region.ready md ops listed, wpOp P ops Q i (fun a' w' => J (listed.setIfInBounds i true) a' w') a w)
    (he : ∀ listed a w, listed.size = ops.size → J listed a w → Region.ready md ops listed = [] → Q .normal a w) :
    ∀ (fuel : Nat) (listed : Array Bool) (a : Act) (w : World), listed.toList.count false ≤ fuel → listed.size = ops.size → ClosedL md ops listed → J listed a w → wpAny P md ops Q fuel listed a w := by
  intro fuel
  induction fuel with
  | zero =>
    intro listed a w hc hz hcl hJ
    have hr : Region.ready md ops listed = [] := by
      rw [List.eq_nil_iff_forall_not_mem]
      intro j hj
      have h1 := (mem_ready.1 hj).1
      have hj2 : j < listed.size := by
        rcases Nat.lt_or_ge j listed.size with h | h
        · exact h
        · simp [Array.getElem?_eq_none h] at h1
      have h0 : listed.toList[j]? = some false := by
        simp [hj2] at h1
        simp [hj2, h1]
      have := count_set h0
      omega
    exact ⟨hr, he listed a w hz hJ hr⟩
  | succ fuel ih =>
    intro listed a w hc hz hcl hJ
    refine ⟨he listed a w hz hJ, fun i hi => wpOp_mono (fun a' w' h => ih _ a' w' ?_ (by simpa using hz) (closed_set hcl hi) h) (hs listed a w hz hcl hJ i hi)⟩
    have h1 := (mem_ready.1 hi).1
    have hj2 : i < listed.size := by
      rcases Nat.lt_or_ge i listed.size with h | h
      · exact h
      · simp [Array.getElem?_eq_none h] at h1
    have h0 : listed.toList[i]? = some false := by
      simp [hj2] at h1
      simp [hj2, h1]
    have := count_set h0
    rw [Array.toList_setIfInBounds]
    omega
theorem rep_false (n i : Nat) : (Array.replicate n false).getD i false = false := by by_cases h : i < n <;> simp [h]
theorem wp_region_inv {id : Nat} {a : Act} {w : World} (hm : P.follows .mixedOrders = true) (J : Array Bool → Act → World → Prop) (h0 : J (Array.replicate ops.size false) a w.drew)
    (hs : ∀ listed a w, listed.size = ops.size → ClosedL .any ops listed → J listed a w → ∀ i ∈ Region.ready .any ops listed, wpOp P ops Q i (fun a' w' => J (listed.setIfInBounds i true) a' w') a w)
    (he : ∀ listed a w, listed.size = ops.size → J listed a w → Region.ready .any ops listed = [] → Q .normal a w) : (Code.region id ops true).wp P Q a w :=
  wp_region_any hm (wpAny_inv hs he _ _ _ _ (by simp) (by simp) (fun i o _ h => absurd h (by rw [rep_false]; decide)) h0)
/-- As 'wp_region_inv'; the invariant may name the temporaries that the region begins with. -/
theorem wp_region_inv2 {id : Nat} {a : Act} {w : World} (hm : P.follows .mixedOrders = true) (J : Array Value → Array Bool → Act → World → Prop) (h0 : ∀ A0 : Array Value, J A0 (Array.replicate ops.size false) ⟨A0, a.defers⟩ w.drew)
    (hs : ∀ listed a' w, listed.size = ops.size → ClosedL .any ops listed → J a.tmps listed a' w → ∀ i ∈ Region.ready .any ops listed, wpOp P ops Q i (fun b w' => J a.tmps (listed.setIfInBounds i true) b w') a' w)
    (he : ∀ listed a' w, listed.size = ops.size → J a.tmps listed a' w → Region.ready .any ops listed = [] → Q .normal a' w) : (Code.region id ops true).wp P Q a w :=
  wp_region_inv hm (J a.tmps) (h0 a.tmps) hs he
theorem set_self (A : Array Value) (k : Nat) (u : Value) : A.setIfInBounds k (A.getD k u) = A := by
  apply Array.ext'
  rw [Array.toList_setIfInBounds]
  by_cases h : k < A.size
  · have e : A.getD k u = A[k] := by simp [h]
    rw [e]
    exact List.set_getElem_self (as := A.toList) (i := k) (by simpa using h)
  · rw [List.set_eq_of_length_le (by simpa using h)]
theorem upon_then {o : Oper} {a : Act} {K : Act → World → Prop} {r : Result Next} (h : o.upon P a K (Exit.then K Q) r) : o.upon P a K Q r := by
  cases r with
  | ok n w' => cases n <;> first | exact h | exact Calls.mono h (fun e w'' he => by cases e <;> exact he)
  | halt x w' => cases x <;> exact h
/-- One operation, walked as a list of one. -/
theorem wpOp_one {i : Nat} {o : Oper} {a : Act} {w : World} {K : Act → World → Prop} (ho : ops[i]? = some o) (hg : o.guard = none) (h : ∀ K' : Act → World → Prop, (∀ a w, K a w → K' a w) → wpList P #[] (Exit.then K' Q) [o] a w) : wpOp P ops Q i K a w := by
  have hw : ∀ (os : Array Oper), Region.wanted o (yielded os a.tmps) = true := fun os => by simp [Region.wanted, hg]
  have h1 := h K (fun _ _ h => h)
  unfold wpOp
  simp only [ho, hw, if_true]
  unfold wpList at h1
  simp only [hw, if_true] at h1
  rcases h1 with h1 | ⟨h1, h2⟩
  · exact .inl (upon_then h1)
  · exact .inr ⟨h1, h2⟩
/-- Operation i has come up. -/
def Ls (l : Array Bool) (i : Nat) : Prop := l.getD i false = true
theorem Ls.none {n i : Nat} {C : Prop} (h : Ls (Array.replicate n false) i) : C := absurd h (by unfold Ls; rw [rep_false]; decide)
theorem Ls.back {l : Array Bool} {i j : Nat} (h : Ls (l.setIfInBounds i true) j) (hne : i ≠ j) : Ls l j := by
  unfold Ls at h ⊢
  rwa [getD_set_ne false hne] at h
theorem Ls.fwd {l : Array Bool} {i j : Nat} (h : Ls l j) : Ls (l.setIfInBounds i true) j := by
  unfold Ls at h ⊢
  by_cases hne : i = j
  · subst hne
    have hj : i < l.size := by
      rcases Nat.lt_or_ge i l.size with h' | h'
      · exact h'
      · simp [Array.getElem?_eq_none h'] at h
    simp [hj]
  · rwa [getD_set_ne false hne]
theorem ready_dep {listed : Array Bool} {i : Nat} {o : Oper} (hi : i ∈ Region.ready md ops listed) (ho : ops[i]? = some o) (k : Nat) (hk : (o.after.any fun e => e.on == k && Region.binds md e) = true) : Ls listed k := by
  obtain ⟨_, o', ho', h⟩ := mem_ready.1 hi
  rw [ho] at ho'
  injection ho' with ho'
  subst ho'
  rw [Array.any_eq_true'] at hk
  obtain ⟨e, he, h1⟩ := hk
  rw [Bool.and_eq_true, beq_iff_eq] at h1
  have := h e he h1.2
  rw [h1.1] at this
  exact this
theorem ClosedL.dep {listed : Array Bool} {i : Nat} {o : Oper} (hc : ClosedL md ops listed) (h : Ls listed i) (ho : ops[i]? = some o) (k : Nat) (hk : (o.after.any fun e => e.on == k && Region.binds md e) = true) : Ls listed k := by
  rw [Array.any_eq_true'] at hk
  obtain ⟨e, he, h1⟩ := hk
  rw [Bool.and_eq_true, beq_iff_eq] at h1
  have := hc i o ho h e he h1.2
  rw [h1.1] at this
  exact this
/-- Operation i waits for operation k. -/
def waits (md : Region.Mode) (ops : Array Oper) (i k : Nat) : Bool := match ops[i]? with
  | some o => o.after.any fun e => e.on == k && Region.binds md e
  | none => false
theorem ready_dep2 {listed : Array Bool} {i : Nat} (hi : i ∈ Region.ready md ops listed) (k : Nat) (hk : waits md ops i k = true) : Ls listed k := by
  obtain ⟨_, o, ho, _⟩ := mem_ready.1 hi
  unfold waits at hk
  rw [ho] at hk
  exact ready_dep hi ho k hk
theorem ClosedL.dep2 {listed : Array Bool} {i : Nat} (hc : ClosedL md ops listed) (h : Ls listed i) (k : Nat) (hk : waits md ops i k = true) : Ls listed k := by
  unfold waits at hk
  cases ho : ops[i]? with
  | none => rw [ho] at hk; cases hk
  | some o => rw [ho] at hk; exact hc.dep h ho k hk
theorem ready_now {listed : Array Bool} {i : Nat} (hi : i ∈ Region.ready md ops listed) (hz : listed.size = ops.size) : Ls (listed.setIfInBounds i true) i := by
  obtain ⟨_, o, ho, _⟩ := mem_ready.1 hi
  have hl := (Array.getElem?_eq_some_iff.1 ho).1
  unfold Ls
  simp [hz, hl]
theorem ready_not {listed : Array Bool} {i : Nat} (hi : i ∈ Region.ready md ops listed) : ¬ Ls listed i := by
  intro h
  have h1 := (mem_ready.1 hi).1
  unfold Ls at h
  have hj : i < listed.size := by
    rcases Nat.lt_or_ge i listed.size with h' | h'
    · exact h'
    · simp [Array.getElem?_eq_none h'] at h
  simp [hj] at h h1
  rw [h] at h1
  cases h1
theorem ready_lt {listed : Array Bool} {i : Nat} (hi : i ∈ Region.ready md ops listed) : i < ops.size := by
  obtain ⟨_, o, ho, _⟩ := mem_ready.1 hi
  exact (Array.getElem?_eq_some_iff.1 ho).1
/-- Where nothing may come up, all has come up. -/
theorem all_listed {listed : Array Bool} (hz : listed.size = ops.size) (hac : (ops.toList.zipIdx.all fun x => x.1.after.all fun e => decide (e.on < x.2)) = true) (hr : Region.ready md ops listed = []) : ∀ i, i < ops.size → Ls listed i := by
  intro i
  induction i using Nat.strongRecOn with
  | ind i ih =>
    intro hi
    apply Classical.byContradiction
    intro hn
    have ho : ops[i]? = some ops[i] := Array.getElem?_eq_getElem hi
    have hmem : i ∈ Region.ready md ops listed := mem_ready.2 ⟨by
      unfold Ls at hn
      have hj : i < listed.size := by rw [hz]; exact hi
      simp [hj] at hn ⊢
      exact hn, ops[i], ho, fun e he _ => by
      have h1 := List.all_eq_true.1 hac (ops[i], i) (by
        rw [List.mk_mem_zipIdx_iff_getElem?]
        simp)
      have h2 := Array.all_eq_true'.1 h1 e he
      have h3 : e.on < i := by simpa using h2
      exact ih e.on h3 (by omega)⟩
    rw [hr] at hmem
    simp at hmem
end
end Go.Proofs.Ytbamjfbfipkioaa
