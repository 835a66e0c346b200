/- What the calls that this law reaches answer, part 22 of 30. -/
import Derived.Test.YtbamjfbfipkioaaDoorJFCheck1
import Derived.Orders
import Derived.Test.YtbamjfbfipkioaaDoorJFCheck21
namespace Go.Proofs.YtbamjfbfipkioaaDoor
open Go.RowKit
set_option linter.unusedVariables false
section
variable {P : Program} {ops : Array Oper} {Q : Exit → Act → World → Prop} {md : Region.Mode}
theorem count_set {l : List Bool} : ∀ {i : Nat}, l[i]? = some false → (l.set i true).count false + 1 = l.count false := by
  induction l with
  | nil => intro i h; simp at h
  | cons x l ih =>
    intro i h
    cases i with
    | zero =>
      simp only [List.getElem?_cons_zero, Option.some.injEq] at h
      subst h
      simp
    | succ i =>
      simp only [List.getElem?_cons_succ] at h
      have := ih h
      simp only [List.set_cons_succ, List.count_cons]
      omega
/-- Whatever has come up, what it waits for has come up before. -/
def ClosedL (md : Region.Mode) (ops : Array Oper) (listed : Array Bool) : Prop := ∀ i o, ops[i]? = some o → listed.getD i false = true → ∀ e ∈ o.after, Region.binds md e = true → listed.getD e.on false = true
theorem closed_set {listed : Array Bool} {i : Nat} (hc : ClosedL md ops listed) (hi : i ∈ Region.ready md ops listed) : ClosedL md ops (listed.setIfInBounds i true) := by
  have mono : ∀ k, listed.getD k false = true → (listed.setIfInBounds i true).getD k false = true := fun k h => by
    by_cases hne : i = k
    · subst hne
      have hj : i < listed.size := by
        rcases Nat.lt_or_ge i listed.size with h' | h'
        · exact h'
        · simp [Array.getElem?_eq_none h'] at h
      simp [hj]
    · rwa [getD_set_ne false hne]
  intro j o ho hj e he hb
  by_cases hne : i = j
  · subst hne
    obtain ⟨_, o', ho', h⟩ := mem_ready.1 hi
    rw [ho] at ho'
    injection ho' with ho'
    subst ho'
    exact mono _ (h e he hb)
  · rw [getD_set_ne false hne] at hj
    exact mono _ (hc j o ho hj e he hb)
theorem wpAny_inv {J : Array Bool → Act → World → Prop}
    (hs : ∀ listed a w, listed.size = ops.size → ClosedL md ops listed → J listed a w → ∀ i ∈ Region.ready md ops listed, wpOp P ops Q i (fun a' w' => J (listed.setIfInBounds i true) a' w') a w)
    (he : ∀ listed a w, listed.size = ops.size → J listed a w → Region.ready md ops listed = [] → Q .normal a w) :
    ∀ (fuel : Nat) (listed : Array Bool) (a : Act) (w : World), listed.toList.count false ≤ fuel → listed.size = ops.size → ClosedL md ops listed → J listed a w → wpAny P md ops Q fuel listed a w := by
  intro fuel
  induction fuel with
  | zero =>
    intro listed a w hc hz hcl hJ
    have hr : Region.ready md ops listed = [] := by
      rw [List.eq_nil_iff_forall_not_mem]
      intro j hj
      have h1 := (mem_ready.1 hj).1
      have hj2 : j < listed.size := by
        rcases Nat.lt_or_ge j listed.size with h | h
        · exact h
        · simp [Array.getElem?_eq_none h] at h1
      have h0 : listed.toList[j]? = some false := by
        simp [hj2] at h1
        simp [hj2, h1]
      have := count_set h0
      omega
    exact ⟨hr, he listed a w hz hJ hr⟩
  | succ fuel ih =>
    intro listed a w hc hz hcl hJ
    refine ⟨he listed a w hz hJ, fun i hi => wpOp_mono (fun a' w' h => ih _ a' w' ?_ (by simpa using hz) (closed_set hcl hi) h) (hs listed a w hz hcl hJ i hi)⟩
    have h1 := (mem_ready.1 hi).1
    have hj2 : i < listed.size := by
      rcases Nat.lt_or_ge i listed.size with h | h
      · exact h
      · simp [Array.getElem?_eq_none h] at h1
    have h0 : listed.toList[i]? = some false := by
      simp [hj2] at h1
      simp [hj2, h1]
    have := count_set h0
    rw [Array.toList_setIfInBounds]
    omega
theorem rep_false (n i : Nat) : (Array.replicate n false).getD i false = false := by by_cases h : i < n <;> simp [h]
theorem wp_region_inv {id : Nat} {a : Act} {w : World} (hm : P.follows .mixedOrders = true) (J : Array Bool → Act → World → Prop) (h0 : J (Array.replicate ops.size false) a w.drew)
    (hs : ∀ listed a w, listed.size = ops.size → ClosedL .any ops listed → J listed a w → ∀ i ∈ Region.ready .any ops listed, wpOp P ops Q i (fun a' w' => J (listed.setIfInBounds i true) a' w') a w)
    (he : ∀ listed a w, listed.size = ops.size → J listed a w → Region.ready .any ops listed = [] → Q .normal a w) : (Code.region id ops true).wp P Q a w :=
  wp_region_any hm (wpAny_inv hs he _ _ _ _ (by simp) (by simp) (fun i o _ h => absurd h (by rw [rep_false]; decide)) h0)
/-- As 'wp_region_inv'; the invariant may name the temporaries that the region begins with. -/
theorem wp_region_inv2 {id : Nat} {a : Act} {w : World} (hm : P.follows .mixedOrders = true) (J : Array Value → Array Bool → Act → World → Prop) (h0 : ∀ A0 : Array Value, J A0 (Array.replicate ops.size false) ⟨A0, a.defers⟩ w.drew)
    (hs : ∀ listed a' w, listed.size = ops.size → ClosedL .any ops listed → J a.tmps listed a' w → ∀ i ∈ Region.ready .any ops listed, wpOp P ops Q i (fun b w' => J a.tmps (listed.setIfInBounds i true) b w') a' w)
    (he : ∀ listed a' w, listed.size = ops.size → J a.tmps listed a' w → Region.ready .any ops listed = [] → Q .normal a' w) : (Code.region id ops true).wp P Q a w :=
  wp_region_inv hm (J a.tmps) (h0 a.tmps) hs he
theorem set_self (A : Array Value) (k : Nat) (u : Value) : A.setIfInBounds k (A.getD k u) = A := by
  apply Array.ext'
  rw [Array.toList_setIfInBounds]
  by_cases h : k < A.size
  · have e : A.getD k u = A[k] := by simp [h]
    rw [e]
    exact @List.set_getElem_self _ A.toList k (by simpa using h)
  · rw [List.set_eq_of_length_le (by simpa using h)]
theorem upon_then {o : Oper} {a : Act} {K : Act → World → Prop} {r : Result Next} (h : o.upon P a K (Exit.then K Q) r) : o.upon P a K Q r := by
  cases r with
  | ok n w' => cases n <;> first | exact h | exact Calls.mono h (fun e w'' he => by cases e <;> exact he)
  | halt x w' => cases x <;> exact h
/-- One operation, walked as a list of one. -/
theorem wpOp_one {i : Nat} {o : Oper} {a : Act} {w : World} {K : Act → World → Prop} (ho : ops[i]? = some o) (hg : o.guard = none) (h : ∀ K' : Act → World → Prop, (∀ a w, K a w → K' a w) → wpList P #[] (Exit.then K' Q) [o] a w) : wpOp P ops Q i K a w := by
  have hw : ∀ (os : Array Oper), Region.wanted o (yielded os a.tmps) = true := fun os => by simp [Region.wanted, hg]
  have h1 := h K (fun _ _ h => h)
  unfold wpOp
  simp only [ho, hw, if_true]
  unfold wpList at h1
  simp only [hw, if_true] at h1
  rcases h1 with h1 | ⟨h1, h2⟩
  · exact .inl (upon_then h1)
  · exact .inr ⟨h1, h2⟩
/-- Operation i has come up. -/
def Ls (l : Array Bool) (i : Nat) : Prop := l.getD i false = true
theorem Ls.none {n i : Nat} {C : Prop} (h : Ls (Array.replicate n false) i) : C := absurd h (by unfold Ls; rw [rep_false]; decide)
theorem Ls.back {l : Array Bool} {i j : Nat} (h : Ls (l.setIfInBounds i true) j) (hne : i ≠ j) : Ls l j := by
  unfold Ls at h ⊢
  rwa [getD_set_ne false hne] at h
theorem Ls.fwd {l : Array Bool} {i j : Nat} (h : Ls l j) : Ls (l.setIfInBounds i true) j := by
  unfold Ls at h ⊢
  by_cases hne : i = j
  · subst hne
    have hj : i < l.size := by
      rcases Nat.lt_or_ge i l.size with h' | h'
      · exact h'
      · simp [Array.getElem?_eq_none h'] at h
    simp [hj]
  · rwa [getD_set_ne false hne]
theorem ready_dep {listed : Array Bool} {i : Nat} {o : Oper} (hi : i ∈ Region.ready md ops listed) (ho : ops[i]? = some o) (k : Nat) (hk : (o.after.any fun e => e.on == k && Region.binds md e) = true) : Ls listed k := by
  obtain ⟨_, o', ho', h⟩ := mem_ready.1 hi
  rw [ho] at ho'
  injection ho' with ho'
  subst ho'
  rw [Array.any_eq_true'] at hk
  obtain ⟨e, he, h1⟩ := hk
  rw [Bool.and_eq_true, beq_iff_eq] at h1
  have := h e he h1.2
  rw [h1.1] at this
  exact this
theorem ClosedL.dep {listed : Array Bool} {i : Nat} {o : Oper} (hc : ClosedL md ops listed) (h : Ls listed i) (ho : ops[i]? = some o) (k : Nat) (hk : (o.after.any fun e => e.on == k && Region.binds md e) = true) : Ls listed k := by
  rw [Array.any_eq_true'] at hk
  obtain ⟨e, he, h1⟩ := hk
  rw [Bool.and_eq_true, beq_iff_eq] at h1
  have := hc i o ho h e he h1.2
  rw [h1.1] at this
  exact this
/-- Operation i waits for operation k. -/
def waits (md : Region.Mode) (ops : Array Oper) (i k : Nat) : Bool := match ops[i]? with
  | some o => o.after.any fun e => e.on == k && Region.binds md e
  | none => false
theorem ready_dep2 {listed : Array Bool} {i : Nat} (hi : i ∈ Region.ready md ops listed) (k : Nat) (hk : waits md ops i k = true) : Ls listed k := by
  obtain ⟨_, o, ho, _⟩ := mem_ready.1 hi
  unfold waits at hk
  rw [ho] at hk
  exact ready_dep hi ho k hk
theorem ClosedL.dep2 {listed : Array Bool} {i : Nat} (hc : ClosedL md ops listed) (h : Ls listed i) (k : Nat) (hk : waits md ops i k = true) : Ls listed k := by
  unfold waits at hk
  cases ho : ops[i]? with
  | none => rw [ho] at hk; cases hk
  | some o => rw [ho] at hk; exact hc.dep h ho k hk
theorem ready_now {listed : Array Bool} {i : Nat} (hi : i ∈ Region.ready md ops listed) (hz : listed.size = ops.size) : Ls (listed.setIfInBounds i true) i := by
  obtain ⟨_, o, ho, _⟩ := mem_ready.1 hi
  have hl := (Array.getElem?_eq_some_iff.1 ho).1
  unfold Ls
  simp [hz, hl]
theorem ready_not {listed : Array Bool} {i : Nat} (hi : i ∈ Region.ready md ops listed) : ¬ Ls listed i := by
  intro h
  have h1 := (mem_ready.1 hi).1
  unfold Ls at h
  have hj : i < listed.size := by
    rcases Nat.lt_or_ge i listed.size with h' | h'
    · exact h'
    · simp [Array.getElem?_eq_none h'] at h
  simp [hj] at h h1
  rw [h] at h1
  cases h1
theorem ready_lt {listed : Array Bool} {i : Nat} (hi : i ∈ Region.ready md ops listed) : i < ops.size := by
  obtain ⟨_, o, ho, _⟩ := mem_ready.1 hi
  exact (Array.getElem?_eq_some_iff.1 ho).1
/-- Where nothing may come up, all has come up. -/
theorem all_listed {listed : Array Bool} (hz : listed.size = ops.size) (hac : (ops.toList.zipIdx.all fun x => x.1.after.all fun e => decide (e.on < x.2)) = true) (hr : Region.ready md ops listed = []) : ∀ i, i < ops.size → Ls listed i := by
  intro i
  induction i using Nat.strongRecOn with
  | ind i ih =>
    intro hi
    apply Classical.byContradiction
    intro hn
    have ho : ops[i]? = some ops[i] := Array.getElem?_eq_getElem hi
    have hmem : i ∈ Region.ready md ops listed := mem_ready.2 ⟨by
      unfold Ls at hn
      have hj : i < listed.size := by rw [hz]; exact hi
      simp [hj] at hn ⊢
      exact hn, ops[i], ho, fun e he _ => by
      have h1 := List.all_eq_true.1 hac (ops[i], i) (by
        rw [List.mk_mem_zipIdx_iff_getElem?]
        simp)
      have h2 := Array.all_eq_true'.1 h1 e he
      have h3 : e.on < i := by simpa using h2
      exact ih e.on h3 (by omega)⟩
    rw [hr] at hmem
    simp at hmem
end
end Go.Proofs.YtbamjfbfipkioaaDoor
namespace Go.Proofs.YtbamjfbfipkioaaDoor
open Go.RowKit
set_option linter.unusedVariables false
section
variable {a0 a1 a2 a3 a4 a5 a6 a7 a8 a9 a10 a11 a12 a13 a14 a15 a16 a17 a18 a19 a20 a21 a22 a23 a24 a25 a26 a27 a28 a29 a30 a31 a32 a33 a34 a35 a36 a37 a38 a39 a40 a41 a42 a43 a44 a45 a46 a47 : Prop}
theorem pj0 (h : a0 ∧ a1) : a0 := h.1
theorem pj1 (h : a0 ∧ a1 ∧ a2) : a1 := h.2.1
theorem pj2 (h : a0 ∧ a1 ∧ a2 ∧ a3) : a2 := h.2.2.1
theorem pj3 (h : a0 ∧ a1 ∧ a2 ∧ a3 ∧ a4) : a3 := h.2.2.2.1
theorem pj4 (h : a0 ∧ a1 ∧ a2 ∧ a3 ∧ a4 ∧ a5) : a4 := h.2.2.2.2.1
theorem pj5 (h : a0 ∧ a1 ∧ a2 ∧ a3 ∧ a4 ∧ a5 ∧ a6) : a5 := h.2.2.2.2.2.1
theorem pj6 (h : a0 ∧ a1 ∧ a2 ∧ a3 ∧ a4 ∧ a5 ∧ a6 ∧ a7) : a6 := h.2.2.2.2.2.2.1
theorem pj7 (h : a0 ∧ a1 ∧ a2 ∧ a3 ∧ a4 ∧ a5 ∧ a6 ∧ a7 ∧ a8) : a7 := h.2.2.2.2.2.2.2.1
theorem pj8 (h : a0 ∧ a1 ∧ a2 ∧ a3 ∧ a4 ∧ a5 ∧ a6 ∧ a7 ∧ a8 ∧ a9) : a8 := h.2.2.2.2.2.2.2.2.1
theorem pj9 (h : a0 ∧ a1 ∧ a2 ∧ a3 ∧ a4 ∧ a5 ∧ a6 ∧ a7 ∧ a8 ∧ a9 ∧ a10) : a9 := h.2.2.2.2.2.2.2.2.2.1
theorem pj10 (h : a0 ∧ a1 ∧ a2 ∧ a3 ∧ a4 ∧ a5 ∧ a6 ∧ a7 ∧ a8 ∧ a9 ∧ a10 ∧ a11) : a10 := h.2.2.2.2.2.2.2.2.2.2.1
theorem pj11 (h : a0 ∧ a1 ∧ a2 ∧ a3 ∧ a4 ∧ a5 ∧ a6 ∧ a7 ∧ a8 ∧ a9 ∧ a10 ∧ a11 ∧ a12) : a11 := h.2.2.2.2.2.2.2.2.2.2.2.1
theorem pj12 (h : a0 ∧ a1 ∧ a2 ∧ a3 ∧ a4 ∧ a5 ∧ a6 ∧ a7 ∧ a8 ∧ a9 ∧ a10 ∧ a11 ∧ a12 ∧ a13) : a12 := h.2.2.2.2.2.2.2.2.2.2.2.2.1
theorem pj13 (h : a0 ∧ a1 ∧ a2 ∧ a3 ∧ a4 ∧ a5 ∧ a6 ∧ a7 ∧ a8 ∧ a9 ∧ a10 ∧ a11 ∧ a12 ∧ a13 ∧ a14) : a13 := h.2.2.2.2.2.2.2.2.2.2.2.2.2.1
theorem pj14 (h : a0 ∧ a1 ∧ a2 ∧ a3 ∧ a4 ∧ a5 ∧ a6 ∧ a7 ∧ a8 ∧ a9 ∧ a10 ∧ a11 ∧ a12 ∧ a13 ∧ a14 ∧ a15) : a14 := h.2.2.2.2.2.2.2.2.2.2.2.2.2.2.1
theorem pj15 (h : a0 ∧ a1 ∧ a2 ∧ a3 ∧ a4 ∧ a5 ∧ a6 ∧ a7 ∧ a8 ∧ a9 ∧ a10 ∧ a11 ∧ a12 ∧ a13 ∧ a14 ∧ a15 ∧ a16) : a15 := h.2.2.2.2.2.2.2.2.2.2.2.2.2.2.2.1
theorem pj16 (h : a0 ∧ a1 ∧ a2 ∧ a3 ∧ a4 ∧ a5 ∧ a6 ∧ a7 ∧ a8 ∧ a9 ∧ a10 ∧ a11 ∧ a12 ∧ a13 ∧ a14 ∧ a15 ∧ a16 ∧ a17) : a16 := h.2.2.2.2.2.2.2.2.2.2.2.2.2.2.2.2.1
theorem pj17 (h : a0 ∧ a1 ∧ a2 ∧ a3 ∧ a4 ∧ a5 ∧ a6 ∧ a7 ∧ a8 ∧ a9 ∧ a10 ∧ a11 ∧ a12 ∧ a13 ∧ a14 ∧ a15 ∧ a16 ∧ a17 ∧ a18) : a17 := h.2.2.2.2.2.2.2.2.2.2.2.2.2.2.2.2.2.1
theorem pj18 (h : a0 ∧ a1 ∧ a2 ∧ a3 ∧ a4 ∧ a5 ∧ a6 ∧ a7 ∧ a8 ∧ a9 ∧ a10 ∧ a11 ∧ a12 ∧ a13 ∧ a14 ∧ a15 ∧ a16 ∧ a17 ∧ a18 ∧ a19) : a18 := h.2.2.2.2.2.2.2.2.2.2.2.2.2.2.2.2.2.2.1
theorem pj19 (h : a0 ∧ a1 ∧ a2 ∧ a3 ∧ a4 ∧ a5 ∧ a6 ∧ a7 ∧ a8 ∧ a9 ∧ a10 ∧ a11 ∧ a12 ∧ a13 ∧ a14 ∧ a15 ∧ a16 ∧ a17 ∧ a18 ∧ a19 ∧ a20) : a19 := h.2.2.2.2.2.2.2.2.2.2.2.2.2.2.2.2.2.2.2.1
theorem pj20 (h : a0 ∧ a1 ∧ a2 ∧ a3 ∧ a4 ∧ a5 ∧ a6 ∧ a7 ∧ a8 ∧ a9 ∧ a10 ∧ a11 ∧ a12 ∧ a13 ∧ a14 ∧ a15 ∧ a16 ∧ a17 ∧ a18 ∧ a19 ∧ a20 ∧ a21) : a20 := h.2.2.2.2.2.2.2.2.2.2.2.2.2.2.2.2.2.2.2.2.1
theorem pj21 (h : a0 ∧ a1 ∧ a2 ∧ a3 ∧ a4 ∧ a5 ∧ a6 ∧ a7 ∧ a8 ∧ a9 ∧ a10 ∧ a11 ∧ a12 ∧ a13 ∧ a14 ∧ a15 ∧ a16 ∧ a17 ∧ a18 ∧ a19 ∧ a20 ∧ a21 ∧ a22) : a21 := h.2.2.2.2.2.2.2.2.2.2.2.2.2.2.2.2.2.2.2.2.2.1
theorem pj22 (h : a0 ∧ a1 ∧ a2 ∧ a3 ∧ a4 ∧ a5 ∧ a6 ∧ a7 ∧ a8 ∧ a9 ∧ a10 ∧ a11 ∧ a12 ∧ a13 ∧ a14 ∧ a15 ∧ a16 ∧ a17 ∧ a18 ∧ a19 ∧ a20 ∧ a21 ∧ a22 ∧ a23) : a22 := h.2.2.2.2.2.2.2.2.2.2.2.2.2.2.2.2.2.2.2.2.2.2.1
theorem pj23 (h : a0 ∧ a1 ∧ a2 ∧ a3 ∧ a4 ∧ a5 ∧ a6 ∧ a7 ∧ a8 ∧ a9 ∧ a10 ∧ a11 ∧ a12 ∧ a13 ∧ a14 ∧ a15 ∧ a16 ∧ a17 ∧ a18 ∧ a19 ∧ a20 ∧ a21 ∧ a22 ∧ a23 ∧ a24) : a23 := h.2.2.2.2.2.2.2.2.2.2.2.2.2.2.2.2.2.2.2.2.2.2.2.1
theorem pj24 (h : a0 ∧ a1 ∧ a2 ∧ a3 ∧ a4 ∧ a5 ∧ a6 ∧ a7 ∧ a8 ∧ a9 ∧ a10 ∧ a11 ∧ a12 ∧ a13 ∧ a14 ∧ a15 ∧ a16 ∧ a17 ∧ a18 ∧ a19 ∧ a20 ∧ a21 ∧ a22 ∧ a23 ∧ a24 ∧ a25) : a24 := h.2.2.2.2.2.2.2.2.2.2.2.2.2.2.2.2.2.2.2.2.2.2.2.2.1
theorem pj25 (h : a0 ∧ a1 ∧ a2 ∧ a3 ∧ a4 ∧ a5 ∧ a6 ∧ a7 ∧ a8 ∧ a9 ∧ a10 ∧ a11 ∧ a12 ∧ a13 ∧ a14 ∧ a15 ∧ a16 ∧ a17 ∧ a18 ∧ a19 ∧ a20 ∧ a21 ∧ a22 ∧ a23 ∧ a24 ∧ a25 ∧ a26) : a25 := h.2.2.2.2.2.2.2.2.2.2.2.2.2.2.2.2.2.2.2.2.2.2.2.2.2.1
theorem pj26 (h : a0 ∧ a1 ∧ a2 ∧ a3 ∧ a4 ∧ a5 ∧ a6 ∧ a7 ∧ a8 ∧ a9 ∧ a10 ∧ a11 ∧ a12 ∧ a13 ∧ a14 ∧ a15 ∧ a16 ∧ a17 ∧ a18 ∧ a19 ∧ a20 ∧ a21 ∧ a22 ∧ a23 ∧ a24 ∧ a25 ∧ a26 ∧ a27) : a26 := h.2.2.2.2.2.2.2.2.2.2.2.2.2.2.2.2.2.2.2.2.2.2.2.2.2.2.1
theorem pj27 (h : a0 ∧ a1 ∧ a2 ∧ a3 ∧ a4 ∧ a5 ∧ a6 ∧ a7 ∧ a8 ∧ a9 ∧ a10 ∧ a11 ∧ a12 ∧ a13 ∧ a14 ∧ a15 ∧ a16 ∧ a17 ∧ a18 ∧ a19 ∧ a20 ∧ a21 ∧ a22 ∧ a23 ∧ a24 ∧ a25 ∧ a26 ∧ a27 ∧ a28) : a27 := h.2.2.2.2.2.2.2.2.2.2.2.2.2.2.2.2.2.2.2.2.2.2.2.2.2.2.2.1
theorem pj28 (h : a0 ∧ a1 ∧ a2 ∧ a3 ∧ a4 ∧ a5 ∧ a6 ∧ a7 ∧ a8 ∧ a9 ∧ a10 ∧ a11 ∧ a12 ∧ a13 ∧ a14 ∧ a15 ∧ a16 ∧ a17 ∧ a18 ∧ a19 ∧ a20 ∧ a21 ∧ a22 ∧ a23 ∧ a24 ∧ a25 ∧ a26 ∧ a27 ∧ a28 ∧ a29) : a28 := h.2.2.2.2.2.2.2.2.2.2.2.2.2.2.2.2.2.2.2.2.2.2.2.2.2.2.2.2.1
theorem pj29 (h : a0 ∧ a1 ∧ a2 ∧ a3 ∧ a4 ∧ a5 ∧ a6 ∧ a7 ∧ a8 ∧ a9 ∧ a10 ∧ a11 ∧ a12 ∧ a13 ∧ a14 ∧ a15 ∧ a16 ∧ a17 ∧ a18 ∧ a19 ∧ a20 ∧ a21 ∧ a22 ∧ a23 ∧ a24 ∧ a25 ∧ a26 ∧ a27 ∧ a28 ∧ a29 ∧ a30) : a29 := h.2.2.2.2.2.2.2.2.2.2.2.2.2.2.2.2.2.2.2.2.2.2.2.2.2.2.2.2.2.1
theorem pe7 (h : a0 ∧ a1 ∧ a2 ∧ a3 ∧ a4 ∧ a5 ∧ a6 ∧ a7) : a7 := h.2.2.2.2.2.2.2
theorem pe12 (h : a0 ∧ a1 ∧ a2 ∧ a3 ∧ a4 ∧ a5 ∧ a6 ∧ a7 ∧ a8 ∧ a9 ∧ a10 ∧ a11 ∧ a12) : a12 := h.2.2.2.2.2.2.2.2.2.2.2.2
theorem pe14 (h : a0 ∧ a1 ∧ a2 ∧ a3 ∧ a4 ∧ a5 ∧ a6 ∧ a7 ∧ a8 ∧ a9 ∧ a10 ∧ a11 ∧ a12 ∧ a13 ∧ a14) : a14 := h.2.2.2.2.2.2.2.2.2.2.2.2.2.2
theorem pe15 (h : a0 ∧ a1 ∧ a2 ∧ a3 ∧ a4 ∧ a5 ∧ a6 ∧ a7 ∧ a8 ∧ a9 ∧ a10 ∧ a11 ∧ a12 ∧ a13 ∧ a14 ∧ a15) : a15 := h.2.2.2.2.2.2.2.2.2.2.2.2.2.2.2
theorem pe17 (h : a0 ∧ a1 ∧ a2 ∧ a3 ∧ a4 ∧ a5 ∧ a6 ∧ a7 ∧ a8 ∧ a9 ∧ a10 ∧ a11 ∧ a12 ∧ a13 ∧ a14 ∧ a15 ∧ a16 ∧ a17) : a17 := h.2.2.2.2.2.2.2.2.2.2.2.2.2.2.2.2.2
theorem pe18 (h : a0 ∧ a1 ∧ a2 ∧ a3 ∧ a4 ∧ a5 ∧ a6 ∧ a7 ∧ a8 ∧ a9 ∧ a10 ∧ a11 ∧ a12 ∧ a13 ∧ a14 ∧ a15 ∧ a16 ∧ a17 ∧ a18) : a18 := h.2.2.2.2.2.2.2.2.2.2.2.2.2.2.2.2.2.2
theorem pe20 (h : a0 ∧ a1 ∧ a2 ∧ a3 ∧ a4 ∧ a5 ∧ a6 ∧ a7 ∧ a8 ∧ a9 ∧ a10 ∧ a11 ∧ a12 ∧ a13 ∧ a14 ∧ a15 ∧ a16 ∧ a17 ∧ a18 ∧ a19 ∧ a20) : a20 := h.2.2.2.2.2.2.2.2.2.2.2.2.2.2.2.2.2.2.2.2
theorem pe21 (h : a0 ∧ a1 ∧ a2 ∧ a3 ∧ a4 ∧ a5 ∧ a6 ∧ a7 ∧ a8 ∧ a9 ∧ a10 ∧ a11 ∧ a12 ∧ a13 ∧ a14 ∧ a15 ∧ a16 ∧ a17 ∧ a18 ∧ a19 ∧ a20 ∧ a21) : a21 := h.2.2.2.2.2.2.2.2.2.2.2.2.2.2.2.2.2.2.2.2.2
theorem pe23 (h : a0 ∧ a1 ∧ a2 ∧ a3 ∧ a4 ∧ a5 ∧ a6 ∧ a7 ∧ a8 ∧ a9 ∧ a10 ∧ a11 ∧ a12 ∧ a13 ∧ a14 ∧ a15 ∧ a16 ∧ a17 ∧ a18 ∧ a19 ∧ a20 ∧ a21 ∧ a22 ∧ a23) : a23 := h.2.2.2.2.2.2.2.2.2.2.2.2.2.2.2.2.2.2.2.2.2.2.2
theorem pe30 (h : a0 ∧ a1 ∧ a2 ∧ a3 ∧ a4 ∧ a5 ∧ a6 ∧ a7 ∧ a8 ∧ a9 ∧ a10 ∧ a11 ∧ a12 ∧ a13 ∧ a14 ∧ a15 ∧ a16 ∧ a17 ∧ a18 ∧ a19 ∧ a20 ∧ a21 ∧ a22 ∧ a23 ∧ a24 ∧ a25 ∧ a26 ∧ a27 ∧ a28 ∧ a29 ∧ a30) : a30 := h.2.2.2.2.2.2.2.2.2.2.2.2.2.2.2.2.2.2.2.2.2.2.2.2.2.2.2.2.2.2
end
theorem Bk {l : Array Bool} {i j : Nat} {C : Prop} (f : Ls l j → C) (hne : i ≠ j := by decide) (h : Ls (l.setIfInBounds i true) j) : C := f (h.back hne)
theorem Bw {l : Array Bool} {i j k : Nat} {C : Prop} (f : Ls l j → ¬ Ls l k → C) (hne : i ≠ j := by decide) (h : Ls (l.setIfInBounds i true) j) (h2 : ¬ Ls (l.setIfInBounds i true) k) : C := f (h.back hne) (fun h3 => h2 h3.fwd)
theorem Bi {l : Array Bool} {i k : Nat} {C : Prop} (f : ¬ Ls l k → C) (h2 : ¬ Ls (l.setIfInBounds i true) k) : C := f (fun h3 => h2 h3.fwd)
theorem Ba {l : Array Bool} {i j : Nat} {C : Prop} (f : ¬ Ls l j) (hne : i ≠ j := by decide) (h : Ls (l.setIfInBounds i true) j) : C := absurd (h.back hne) f
theorem Bb {l : Array Bool} {i j : Nat} {C D : Prop} (f : ¬ Ls l j) (hne : i ≠ j := by decide) (h : Ls (l.setIfInBounds i true) j) (_ : D) : C := absurd (h.back hne) f
theorem Bt {l : Array Bool} {i j k : Nat} {C D : Prop} (f : Ls l j → ¬ Ls l k → C) (g : C → D) (hne : i ≠ j := by decide) (h : Ls (l.setIfInBounds i true) j) (h2 : ¬ Ls (l.setIfInBounds i true) k) : D := g (f (h.back hne) (fun h3 => h2 h3.fwd))
theorem dq {md : Region.Mode} {ops : Array Oper} {listed : Array Bool} {i : Nat} (H : Hid (ClosedL md ops listed)) (h : Ls listed i) (k : Nat) (hk : waits md ops i k = true := by kernel_rfl) : Ls listed k := H.out.dep2 h k hk
theorem rq {md : Region.Mode} {ops : Array Oper} {listed : Array Bool} {i : Nat} (hi : i ∈ Region.ready md ops listed) (k : Nat) (hk : waits md ops i k = true := by kernel_rfl) : Ls listed k := ready_dep2 hi k hk
end Go.Proofs.YtbamjfbfipkioaaDoor
namespace Go.Proofs.YtbamjfbfipkioaaDoor
open Go.RowKit
set_option linter.unusedVariables false
def bE (d : Nat) : Nat := 100 * 5 ^ d
theorem bE_succ (d : Nat) : bE (d + 1) = 5 * bE d := by unfold bE; rw [Nat.pow_succ]; omega
theorem bE_pos (d : Nat) : 100 ≤ bE d := by
  have := Nat.pow_pos (n := d) (show 0 < 5 by omega)
  unfold bE
  omega
theorem sumE_bound {d : Nat} (E : Nat) : ∀ l : List (Tr (d + 1)), (∀ s ∈ l, szE s ≤ E) → sumE l ≤ l.length * E := by
  intro l
  induction l with
  | nil => intro _; exact Nat.zero_le _
  | cons s l ih =>
    intro h
    have h1 := h s (by simp)
    have h2 := ih (fun x hx => h x (by simp [hx]))
    have : sumE (s :: l) = szE s + sumE l := by simp [sumE]
    rw [this, List.length_cons, Nat.add_mul, Nat.one_mul]
    omega
/-- Drawn statements: at most three, none too great. -/
def Few (d : Nat) (l : List (Tr (d + 1))) : Prop := l.length ≤ 3 ∧ ∀ s ∈ l, szE s ≤ bE d
theorem few_sz {d : Nat} {l : List (Tr (d + 1))} (h : Few d l) : szT (d + 1) l ≤ 3 + 3 * bE d := by
  have h1 := sumE_bound (bE d) l h.2
  have h2 := Nat.mul_le_mul_right (bE d) h.1
  have h3 := h.1
  rw [szT_succ]
  omega
theorem few_snoc {d n : Nat} {l : List (Tr (d + 1))} {s : Tr (d + 1)} (hl : l.length ≤ n) (h : ∀ s ∈ l, szE s ≤ bE d) (hs : szE s ≤ bE d) : (l ++ [s]).length ≤ n + 1 ∧ ∀ y ∈ l ++ [s], szE y ≤ bE d := by
  refine ⟨by rw [List.length_append]; exact Nat.succ_le_succ hl, fun x hx => ?_⟩
  rcases List.mem_append.1 hx with hx | hx
  · exact h x hx
  · obtain rfl := List.mem_singleton.1 hx
    exact hs
def DBd (d : Nat) (w : World) (p : Nat) (e : Ending) (w' : World) : Prop := ∃ (v : Value) (l : List (Tr (d + 1))), e = .returned v ∧ OwnT w' w.heap.size d v l ∧ Few d l ∧ CurAt w' p ∧ w.grownBy w' (some p)
/-- The row, open for one more statement whose names and body are new. -/
theorem OwnT.add {w : World} {base R d : Nat} {v : Value} {l : List (Tr (d + 1))} {cs : List Value} {s : Tr (d + 1)} (h : OwnT w base d v l) (hv : ∀ k, v.ownBlock = some k → k < R) (hB : base ≤ R) (hs : StQ w (R ≤ ·) d cs s) :
    ∃ xs, w.ownsRow base 27 5 v l.length xs ∧ ∀ (wa w6 : World) (v6 : Value), w6.ownsRow base 27 5 v6 (l.length + 1) (xs ++ cs) → Below w.heap.size w wa → wa.grownBy w6 v.ownBlock → (v6.ownBlock = v.ownBlock ∨ v6.ownBlock = some wa.heap.size) → OwnT w6 base d v6 (l ++ [s]) := by
  obtain ⟨xs, ho, he⟩ := h
  refine ⟨xs, ho, fun wa w6 v6 h6 hba hg hat => OwnT.push (m := [s]) he (ElQ.one (hs.mono fun b _ hb => ⟨Nat.le_trans hB hb, fun e => ?_⟩)) h6 hba hg hat⟩
  have := hv b e.symm
  omega
theorem OwnT.lt {w : World} {base d : Nat} {v : Value} {l : List (Tr (d + 1))} (h : OwnT w base d v l) : ∀ k, v.ownBlock = some k → k < w.heap.size := fun k hk => by
  obtain ⟨xs, ho, _⟩ := h
  exact (ho.lt k hk).2
theorem OwnT.ge {w : World} {base d : Nat} {v : Value} {l : List (Tr (d + 1))} (h : OwnT w base d v l) : ∀ k, v.ownBlock = some k → base ≤ k := fun k hk => by
  obtain ⟨xs, ho, _⟩ := h
  exact (ho.lt k hk).1
theorem rdQ_topH {w : World} {cs : Array Value} {e n size b : Nat} {P : Nat → Prop} {xs : List Value} (h0 : b = w.heap.size) (hs : cs.size = n * size) (hP : P b) (hx : cs.toList = xs) : RdQ (w.alloc (.cells cs e)) P size (some ⟨b, 0, none⟩) n xs := by
  subst hx
  exact rdQ_topG h0 hs hP
theorem few5 : ∀ y ∈ ([⟨#[120]⟩, ⟨#[122]⟩, ⟨#[115]⟩, ⟨#[121]⟩, ⟨#[104]⟩] : List ByteArray), y.size ≤ 9 := by
  intro y hy
  simp only [List.mem_cons, List.not_mem_nil, or_false] at hy
  rcases hy with rfl | rfl | rfl | rfl | rfl <;> decide
theorem few3 : ∀ y ∈ ([⟨#[114]⟩, ⟨#[115, 49]⟩, ⟨#[114]⟩] : List ByteArray), y.size ≤ 9 := by
  intro y hy
  simp only [List.mem_cons, List.not_mem_nil, or_false] at hy
  rcases hy with rfl | rfl | rfl <;> decide
theorem TrQ.upTo {w : World} {P : Nat → Prop} {A : Option Addr} {n : Nat} {l : List (Tr 1)} (h : TrQ w P 1 A n l) : ∀ d : Nat, ∃ l' : List (Tr (d + 1)), TrQ w P (d + 1) A n l' ∧ szT (d + 1) l' = szT 1 l := by
  intro d
  induction d with
  | zero => exact ⟨l, h, rfl⟩
  | succ d ih =>
    obtain ⟨l', h1, h2⟩ := ih
    exact ⟨l'.map (upT (d + 1)), h1.up, (szT_up (d + 1) l').trans h2⟩
theorem fr_heap0 {w W : World} {p b : Nat} {ob : Obj} (h : Fr w p W) (hne : b ≠ p) (hc : w.heap[b]? = some ob) : W.heap[b]? = some ob := box_call hc h.gr hne
theorem fr_cell {w W : World} {p b o : Nat} {u : Value} (h : Fr w p W) (hb : b < w.heap.size) (hne : b ≠ p) (hc : w.cell? ⟨b, o, none⟩ = some u) : W.cell? ⟨b, o, none⟩ = some u := by
  rw [← hc]
  have := h.gr.block b hb (fun e => hne (by injection e))
  simp [World.cell?, this]
theorem Fr.drew {w w1 : World} {p : Nat} (h : Fr w p w1) : Fr w p w1.drew := ⟨h.cur, h.gr.os, h.gr.tape, h.gr.output, h.gr.size, h.gr.block⟩
theorem fr_rdQ {w W : World} {P : Nat → Prop} {p size n : Nat} {A : Option Addr} {xs : List Value} (h : RdQ w P size A n xs) (hf : Fr w p W) (hp : ¬ P p) : RdQ W P size A n xs := h.call hf.gr hp
theorem fr_own {w W : World} {base d p : Nat} {v : Value} {l : List (Tr (d + 1))} (h : OwnT w base d v l) (hf : Fr w p W) (hp : p < base) : OwnT W base d v l := h.grown hf.gr (fun k hk => by injection hk with hk; omega)
/-- A statement's variable, not yet written. -/
def GZ (R bg : Nat) (W : World) : Prop := R ≤ bg ∧ W.heap[bg]? = some (.cells #[.int .i64 0, .string ⟨#[]⟩, .slice none 0 0, .int .i64 0, .slice none 0 0] 27 (0, 0))
theorem GZ.fr {R bg p : Nat} {W W1 : World} (h : GZ R bg W) (hf : Fr W p W1) (hp : p < R) : GZ R bg W1 := ⟨h.1, fr_heap0 hf (by have := h.1; omega) h.2⟩
theorem rel19 {w w1 w3 W : World} {p bg ba : Nat} {y s0 : ByteArray} (hp : p < w.heap.size) (hR : w.heap.size ≤ w1.heap.size) (h1 : Fr w p W) (h2 : Fr w3 p W) (h13 : w1.heap.size ≤ w3.heap.size) (g1 : w3.heap.size ≤ bg) (g2 : W.heap[bg]? = some (.cells #[.int .i64 0, .string ⟨#[]⟩, .slice none 0 0, .int .i64 0, .slice none 0 0] 27 (0, 0)))
    (hr : RdQ W (fun b => w3.heap.size ≤ b) 1 (some ⟨ba, 0, none⟩) 1 (strs [s0])) (hy : y.size ≤ 9) {x15 : Value} (e : x15 = .pointer (some ⟨bg, 0, none⟩)) {V : World} (hV : V = ((((W.setCell ⟨bg, 0, none⟩ (.int .i64 1)).setCell ⟨bg, 1, none⟩ (.string y)).setCell ⟨bg, 2, none⟩ (.slice (some ⟨ba, 0, none⟩) 1 1)).setCell ⟨bg, 3, none⟩ (.int .i64 0)).setCell ⟨bg, 4, none⟩ (.slice none 0 0)) :
    ∃ (bg ba : Nat) (y : ByteArray), x15 = .pointer (some ⟨bg, 0, none⟩) ∧ y.size ≤ 9 ∧ w1.heap.size ≤ ba ∧ V.heap[bg]? = some (.cells #[.int .i64 1, .string y, .slice (some ⟨ba, 0, none⟩) 1 1, .int .i64 0, .slice none 0 0] 27 (0, 0)) ∧ RdQ V (· = ba) 1 (some ⟨ba, 0, none⟩) 1 (strs [s0]) ∧ Fr w p V ∧ Fr w3 p V := by
  subst hV
  obtain ⟨b, o, e1, h, hlt, hc⟩ := hr.2 (by omega)
  injection e1 with e1
  injection e1 with e1 e2
  subst e1 e2
  have h : w3.heap.size ≤ ba := h
  have hne : bg ≠ ba := by
    intro e
    subst e
    have h1 := hc 0 _ rfl
    have h2 := cell_at (j := 0) g2 rfl
    rw [Nat.zero_add, h2] at h1
    cases h1
  have h3 : RdQ W (· = ba) 1 (some ⟨ba, 0, none⟩) 1 (strs [s0]) := ⟨hr.1, fun _ => ⟨ba, 0, rfl, rfl, hlt, hc⟩⟩
  have hp3 : p < w3.heap.size := by omega
  exact ⟨bg, ba, y, e, hy, Nat.le_trans h13 h, heap_set5 g2, ((((h3.set_ hne _).set_ hne _).set_ hne _).set_ hne _).set_ hne _,
    ((((h1.set hp (show w.heap.size ≤ bg by omega) _).set hp (show w.heap.size ≤ bg by omega) _).set hp (show w.heap.size ≤ bg by omega) _).set hp (show w.heap.size ≤ bg by omega) _).set hp (show w.heap.size ≤ bg by omega) _,
    ((((h2.set hp3 g1 _).set hp3 g1 _).set hp3 g1 _).set hp3 g1 _).set hp3 g1 _⟩
def BodySaid (d : Nat) : Prop := ∀ (A : Option Addr) (m c : Nat) (N : List ByteArray) (wild : Bool) (w : World) (p : Nat), CurAt w p → Names w p A m N →
    Calls Tryd.prog 64 #[.pointer (some ⟨p, 0, none⟩), .slice A m c, .int .i64 ((d : Int) + 1), .bool wild] w (DBd d w p)
end Go.Proofs.YtbamjfbfipkioaaDoor
