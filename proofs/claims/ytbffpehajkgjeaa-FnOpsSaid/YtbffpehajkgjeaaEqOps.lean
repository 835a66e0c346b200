/- Comparing two slices of operations: the program's function and the reference's answer whether the lists are equal. -/
import Derived.Test.YtbffpehajkgjeaaOpLoops2
namespace Go.Proofs.Ytbffpehajkgjeaa
open Go.RowKit
set_option linter.unusedVariables false
def eqO (a b : Opt) : Bool := a.k == b.k && (a.g.k == b.g.k && (a.g.a == b.g.a && (a.g.b == b.g.b && (a.g.c == b.g.c && (a.q == b.q && (a.bit == b.bit && (a.cond == b.cond)))))))
theorem eqO_eq {a b : Opt} (h : eqO a b = true) : a = b := by
  simp [eqO] at h
  obtain ⟨k, ⟨gk, ga, gb, gc⟩, q, bit, cond⟩ := a
  obtain ⟨k, ⟨gk, ga, gb, gc⟩, q, bit, cond⟩ := b
  simp_all
theorem eqO_refl (a : Opt) : eqO a a = true := by simp [eqO]
def eqOs (l l' : List Opt) : Bool := (l.length == l'.length) && (List.zip l l').all (fun p => eqO p.1 p.2)
def EqOUpto (l l' : List Opt) (t : Nat) : Prop := ∀ j, j < t → ∀ x y, l[j]? = some x → l'[j]? = some y → eqO x y = true
theorem eqOs_len {l l' : List Opt} (h : l.length ≠ l'.length) : eqOs l l' = false := by simp [eqOs, h]
theorem eqOs_f {l l' : List Opt} {k : Nat} {x y : Opt} (hx : l[k]? = some x) (hy : l'[k]? = some y) (h : eqO x y = false) : eqOs l l' = false := by
  have hm : (x, y) ∈ List.zip l l' := by
    have : (List.zip l l')[k]? = some (x, y) := by rw [List.getElem?_zip_eq_some]; exact ⟨hx, hy⟩
    exact List.mem_of_getElem? this
  rw [eqOs, Bool.and_eq_false_iff]
  right
  rw [List.all_eq_false]
  exact ⟨_, hm, by simp [h]⟩
theorem eqOs_t {l l' : List Opt} {t : Nat} (hl : l.length = l'.length) (h : EqOUpto l l' t) (ht : l.length ≤ t) : eqOs l l' = true := by
  rw [eqOs, Bool.and_eq_true]
  refine ⟨by simp [hl], List.all_eq_true.2 fun p hp => ?_⟩
  obtain ⟨j, hj⟩ := List.getElem?_of_mem hp
  rw [List.getElem?_zip_eq_some] at hj
  have := (List.getElem?_eq_some_iff.1 hj.1).1
  exact h j (by omega) _ _ hj.1 hj.2
theorem eqO_step {l l' : List Opt} {t : Nat} {x y : Opt} (h : EqOUpto l l' t) (hx : l[t]? = some x) (hy : l'[t]? = some y) (he : eqO x y = true) : EqOUpto l l' (t + 1) := by
  intro j hj a b ha hb
  by_cases hjt : j < t
  · exact h j hjt a b ha hb
  · obtain rfl : j = t := by omega
    rw [hx] at ha
    rw [hy] at hb
    injection ha with ha
    injection hb with hb
    subst ha hb
    exact he
theorem neq_O (w : World) (a b : Opt) : (binOp .neq 56 (.agg #[.int .i64 a.k, .int .i64 a.g.k, .int .i64 a.g.a, .int .i64 a.g.b, .int .i64 a.g.c, .int .i64 a.q, .int .i64 a.bit, .int .i64 a.cond]) (.agg #[.int .i64 b.k, .int .i64 b.g.k, .int .i64 b.g.a, .int .i64 b.g.b, .int .i64 b.g.c, .int .i64 b.q, .int .i64 b.bit, .int .i64 b.cond])).run Try.prog w = .ok (.bool (!eqO a b)) w := by
  simp [go_sem, eqO]
  repeat' split
  all_goals simp_all
set_option maxRecDepth 100000 in
set_option maxHeartbeats 2000000 in
theorem sameOp_any (A A' : Option Addr) (n n' c c' : Nat) (l l' : List Opt) (w : World) (hl : l.length = n) (hl' : l'.length = n') (hn : n ≤ 1099511627776) (h1 : Rd w 8 A n (l.flatMap ocells)) (h2 : Rd w 8 A' n' (l'.flatMap ocells)) :
    Calls Try.prog 84 #[.slice A n c, .slice A' n' c'] w fun e w' => e = .returned (.bool (eqOs l l')) ∧ Below w.heap.size w w' ∧ w.heap.size ≤ w'.heap.size := by
  have HL := Lib.hid hl
  have HL' := Lib.hid hl'
  by_cases hnn : n = n'
  · subst hnn
    have H1 := Lib.hid h1
    have H2 := Lib.hid h2
    clear h1 h2 hl hl'
    go_enter Try.func84, Try.ntmps84
    go_wp2
    go_loopw [13] (fun i wr => ∃ k : Nat, k ≤ n ∧ i = .int .i64 k ∧ EqOUpto l l' k ∧ Below w.heap.size w wr) (fun i _ => n - (intOf i).toNat)
    case atStart => exact ⟨0, Nat.zero_le _, rfl, fun j hj => absurd hj (by omega), Below.refl _ _⟩
    case round =>
    obtain ⟨k, hk, rfl, hup, hb⟩ := hrel
    by_cases hlt : k < n
    · have hkl : k < l.length := by rw [HL.out]; exact hlt
      have hkl' : k < l'.length := by rw [HL'.out]; exact hlt
      obtain ⟨g, hg⟩ : ∃ g, l[k]? = some g := ⟨_, List.getElem?_eq_getElem hkl⟩
      obtain ⟨g', hg'⟩ : ∃ g, l'[k]? = some g := ⟨_, List.getElem?_eq_getElem hkl'⟩
      obtain ⟨b, off, rfl, _, hc⟩ := (H1.out.below hb).2 (by omega)
      obtain ⟨b', off', rfl, _, hc'⟩ := (H2.out.below hb).2 (by omega)
      have q0 := hc (k * 8 + 0) _ (flat_at ocells_len l k g 0 hg (by decide))
      have q0' := hc' (k * 8 + 0) _ (flat_at ocells_len l' k g' 0 hg' (by decide))
      have q1 := hc (k * 8 + 1) _ (flat_at ocells_len l k g 1 hg (by decide))
      have q1' := hc' (k * 8 + 1) _ (flat_at ocells_len l' k g' 1 hg' (by decide))
      have q2 := hc (k * 8 + 2) _ (flat_at ocells_len l k g 2 hg (by decide))
      have q2' := hc' (k * 8 + 2) _ (flat_at ocells_len l' k g' 2 hg' (by decide))
      have q3 := hc (k * 8 + 3) _ (flat_at ocells_len l k g 3 hg (by decide))
      have q3' := hc' (k * 8 + 3) _ (flat_at ocells_len l' k g' 3 hg' (by decide))
      have q4 := hc (k * 8 + 4) _ (flat_at ocells_len l k g 4 hg (by decide))
      have q4' := hc' (k * 8 + 4) _ (flat_at ocells_len l' k g' 4 hg' (by decide))
      have q5 := hc (k * 8 + 5) _ (flat_at ocells_len l k g 5 hg (by decide))
      have q5' := hc' (k * 8 + 5) _ (flat_at ocells_len l' k g' 5 hg' (by decide))
      have q6 := hc (k * 8 + 6) _ (flat_at ocells_len l k g 6 hg (by decide))
      have q6' := hc' (k * 8 + 6) _ (flat_at ocells_len l' k g' 6 hg' (by decide))
      have q7 := hc (k * 8 + 7) _ (flat_at ocells_len l k g 7 hg (by decide))
      have q7' := hc' (k * 8 + 7) _ (flat_at ocells_len l' k g' 7 hg' (by decide))
      rw [← Nat.add_assoc] at q1 q1' q2 q2' q3 q3' q4 q4' q5 q5' q6 q6' q7 q7'
      rw [Nat.add_zero] at q0 q0'
      cases he : eqO g g'
      · have HF := Lib.hid (eqOs_f hg hg' he)
        have hne := fun w => neq_O w g g'
        rw [he] at hne
        clear hc hc' hg hg' hkl hkl' hup he
        go_wp2_with fail
        go_quiet (fail)
        go_wp2_with fail
        go_ret
        exact ⟨by rw [HF.out]; rfl, below_drewN hb _, by have := hb.size; simpa using this⟩
      · have hgg := eqO_eq he
        subst hgg
        have HU := Lib.hid (eqO_step hup hg hg' he)
        clear hc hc' hg hg' hkl hkl' hup he
        go_wp2_with fail
        go_quiet (fail)
        go_wp2_with fail
        go_roundw
        case rel => exact ⟨k + 1, by omega, by go_num, HU.out, below_drewN hb _⟩
        case measure => simp [intOf]; omega
    · obtain rfl : k = n := by omega
      have HF := Lib.hid (eqOs_t (by rw [HL.out, HL'.out]) hup (by rw [HL.out]; exact Nat.le_refl _))
      go_wp2_with fail
      go_ret
      exact ⟨by rw [HF.out]; rfl, hb, hb.size⟩
  · have HF := Lib.hid (eqOs_len (l := l) (l' := l') (by rw [HL.out, HL'.out]; exact hnn))
    have hne : ((n : Int) != (n' : Int)) = true := by rw [bne_iff_ne]; omega
    clear h1 h2 hl hl' hnn
    go_enter Try.func84, Try.ntmps84
    go_wp2
    go_ret
    exact ⟨by rw [HF.out]; rfl, Below.refl _ _, Nat.le_refl _⟩
end Go.Proofs.Ytbffpehajkgjeaa
