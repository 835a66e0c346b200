/- A prefix of a valid routine is valid if it measures all its bits: plain law, no walk. -/
import Derived.Test.YtbffpehajkgjeaaValidRt
namespace Go.Proofs.Ytbffpehajkgjeaa
open Go.RowKit
set_option linter.unusedVariables false
/-- How many measurements a list of operations has. -/
def mcount : List Opt → Nat
  | [] => 0
  | o :: l => (if o.k = 2 then 1 else 0) + mcount l
theorem mcount_snoc (l : List Opt) (o : Opt) : mcount (l ++ [o]) = mcount l + (if o.k = 2 then 1 else 0) := by
  induction l with
  | nil => simp [mcount]
  | cons x l ih => simp only [List.cons_append, mcount, ih]; omega
theorem mcount_le : ∀ l : List Opt, mcount l ≤ l.length
  | [] => by simp [mcount]
  | o :: l => by have := mcount_le l; simp only [mcount, List.length_cons]; split <;> omega
theorem mcount_take (l : List Opt) (t : Nat) (o : Opt) (h : l[t]? = some o) : mcount (l.take (t + 1)) = mcount (l.take t) + (if o.k = 2 then 1 else 0) := by
  rw [List.take_add_one, h]
  exact mcount_snoc _ _
theorem mcount_take_le : ∀ (l : List Opt) (t : Nat), mcount (l.take t) ≤ mcount l
  | [], t => by simp
  | o :: l, 0 => by simp [mcount]
  | o :: l, t + 1 => by have := mcount_take_le l t; simp only [List.take_succ_cons, mcount]; omega
theorem run_steps (N B : Int) : ∀ (l : List Opt) (K : Int) (R : Int), l.foldl (vst N B) (some K) = some R → R = K + mcount l ∧ ∀ (t : Nat) (o : Opt), l[t]? = some o → okO N B (K + mcount (l.take t)) o = true
  | [], K, R, h => by
    simp at h
    exact ⟨by simp [mcount, h], by simp⟩
  | o :: l, K, R, h => by
    rw [List.foldl_cons] at h
    cases hk : okO N B K o
    · have : vst N B (some K) o = none := by simp [vst, hk]
      rw [this, vst_none] at h
      cases h
    · have e : vst N B (some K) o = some (K + if o.k = 2 then 1 else 0) := by simp [vst, hk]
      rw [e] at h
      obtain ⟨h1, h2⟩ := run_steps N B l _ R h
      have hc : ((mcount (o :: l) : Nat) : Int) = (if o.k = 2 then 1 else 0) + mcount l := by
        simp only [mcount]
        split <;> simp
      refine ⟨by rw [h1, hc]; omega, fun t o' ht => ?_⟩
      cases t with
      | zero =>
        simp at ht
        subst ht
        simpa [mcount] using hk
      | succ t =>
        have := h2 t o' (by simpa using ht)
        rw [List.take_succ_cons]
        have hc2 : ((mcount (o :: l.take t) : Nat) : Int) = (if o.k = 2 then 1 else 0) + mcount (l.take t) := by
          simp only [mcount]
          split <;> simp
        rw [hc2, ← Int.add_assoc]
        exact this
theorem run_all (N B : Int) : ∀ (l : List Opt) (K : Int), (∀ (t : Nat) (o : Opt), l[t]? = some o → okO N B (K + mcount (l.take t)) o = true) → l.foldl (vst N B) (some K) = some (K + mcount l)
  | [], K, h => by simp [mcount]
  | o :: l, K, h => by
    have hk : okO N B K o = true := by simpa [mcount] using h 0 o (by simp)
    rw [List.foldl_cons]
    have e : vst N B (some K) o = some (K + if o.k = 2 then 1 else 0) := by simp [vst, hk]
    have hc : ((mcount (o :: l) : Nat) : Int) = (if o.k = 2 then 1 else 0) + mcount l := by
      simp only [mcount]
      split <;> simp
    rw [e, run_all N B l _ (fun t o' ht => by
      have := h (t + 1) o' (by simpa using ht)
      rw [List.take_succ_cons] at this
      have hc2 : ((mcount (o :: l.take t) : Nat) : Int) = (if o.k = 2 then 1 else 0) + mcount (l.take t) := by
        simp only [mcount]
        split <;> simp
      rw [hc2, ← Int.add_assoc] at this
      exact this), hc, ← Int.add_assoc]
/-- A step that is right among B bits is right among the B' bits that are measured so far, or by it. -/
theorem ok_less {N B B' K : Int} {o : Opt} (h : okO N B K o = true) (h0 : 0 ≤ K) (hB : K + (if o.k = 2 then 1 else 0) ≤ B') (h3 : B' ≤ 3) : okO N B' K o = true := by
  simp only [okO, Bool.and_eq_true] at h ⊢
  refine ⟨?_, h.2⟩
  have hv := h.1
  have hc : ¬ K < o.cond := by simpa using h.2.1
  have hm : o.k = 2 → o.bit = K := fun e => by
    have := h.2.2
    simp [e] at this
    exact this
  simp only [validOp, Bool.and_eq_true] at hv ⊢
  obtain ⟨h1, h2, h4⟩ := hv
  have hn := inB_iff.1 h1
  refine ⟨h1, inB_iff.2 (by split at hB <;> omega), ?_⟩
  by_cases k1 : o.k = 1
  · rw [if_pos k1] at h4 ⊢
    simp only [Bool.and_eq_true] at h4 ⊢
    have hd := inB_iff.1 h4.2.2.2
    rw [if_neg (by omega)] at hB
    exact ⟨h4.1, h4.2.1, h4.2.2.1, inB_iff.2 (by omega)⟩
  · rw [if_neg k1] at h4 ⊢
    by_cases k2 : o.k = 2
    · rw [if_pos k2] at h4 ⊢
      rw [if_pos k2] at hB
      simp only [Bool.and_eq_true] at h4 ⊢
      have hb := hm k2
      exact ⟨h4.1, h4.2.1, h4.2.2.1, inB_iff.2 (by omega)⟩
    · rw [if_neg k2] at h4 ⊢
      exact h4
theorem pre_valid {N I B : Int} {l : List Opt} (h : validRt N I B l = true) (k : Nat) (hk : k ≤ l.length) : validRt N I (mcount (l.take k)) (l.take k) = true := by
  simp only [validRt, Bool.and_eq_true] at h ⊢
  obtain ⟨h1, h2, h3, h4, h5⟩ := h
  have hB := inB_iff.1 h3
  have h6 : vrun N B l = some B := by simpa using h5
  obtain ⟨hR, hs⟩ := run_steps N B l 0 B h6
  have hle := mcount_take_le l k
  have hl4 : l.length ≤ 120 := by simpa using h4
  refine ⟨h1, h2, inB_iff.2 (by omega), by rw [List.length_take]; simp; omega, ?_⟩
  have := run_all N (mcount (l.take k)) (l.take k) 0 (fun t o ht => by
    have htl := (List.getElem?_eq_some_iff.1 ht).1
    rw [List.length_take] at htl
    have htk : t < k := by omega
    have ht' : l[t]? = some o := by rw [List.getElem?_take, if_pos htk] at ht; exact ht
    have e : (l.take k).take t = l.take t := by rw [List.take_take, Nat.min_eq_left (by omega)]
    rw [e]
    have hst := mcount_take l t o ht'
    have hup : mcount (l.take (t + 1)) ≤ mcount (l.take k) := by
      have := mcount_take_le (l.take k) (t + 1)
      rw [List.take_take, Nat.min_eq_left (by omega)] at this
      exact this
    refine ok_less (hs t o ht') (by omega) ?_ (by omega)
    split at hst
    · rename_i hk2; rw [if_pos hk2]; omega
    · rename_i hk2; rw [if_neg hk2]; omega)
  show (vrun N _ _ == some _) = true
  unfold vrun
  rw [this]
  simp
end Go.Proofs.Ytbffpehajkgjeaa
