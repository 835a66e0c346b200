/- The reference's map of an index by a gate, for every valid gate; its places lie in the state. -/
import Derived.Test.YtgjpicekdbemiaaGoE
namespace Go.Proofs.Ytgjpicekdbemiaa
open Go.RowKit
set_option linter.unusedVariables false
theorem validK {g : Gt} {m : Nat} (h : validG g m = true) : ∃ k a b c : Nat, 1 ≤ k ∧ k < 13 ∧ a < 4 ∧ b < 4 ∧ c < 4 ∧ 1 ≤ m ∧ m < 5 ∧ g = ⟨k, a, b, c⟩ := by
  obtain ⟨k, a, b, c⟩ := g
  unfold validG at h
  simp only [Bool.and_eq_true, vupto, qsOf] at h
  obtain ⟨⟨hm, h0⟩, ⟨⟨_, h1⟩, h2⟩, h3⟩ := h
  have hm := inB_iff.1 hm
  have hk : 1 ≤ k ∧ k ≤ 12 := by
    have h0 : ar k ≠ 0 := of_decide_eq_true h0
    unfold ar at h0
    split at h0
    · rename_i h; have := inB_iff.1 h; omega
    · split at h0
      · rename_i h; have := inB_iff.1 h; omega
      · split at h0
        · omega
        · exact absurd rfl h0
  have hq : ∀ (r t : Nat) (qs : List Int) (x : Int), qs.getD t 0 = x → vstep r m qs t = true → 0 ≤ x ∧ x ≤ 3 := by
    intro r t qs x hx h
    subst hx
    unfold vstep at h
    split at h
    · have : qs.getD t 0 = 0 := by simpa using h
      omega
    · simp only [Bool.and_eq_true] at h
      have := inB_iff.1 h.1
      omega
  have q1 := hq _ 0 _ a rfl h1
  have q2 := hq _ 1 _ b rfl h2
  have q3 := hq _ 2 _ c rfl h3
  refine ⟨k.toNat, a.toNat, b.toNat, c.toNat, by omega, by omega, by omega, by omega, by omega, by omega, by omega, ?_⟩
  rw [Int.toNat_of_nonneg (by omega), Int.toNat_of_nonneg (by omega), Int.toNat_of_nonneg (by omega), Int.toNat_of_nonneg (by omega)]
def gk4 (k a b c : Nat) : Gt := ⟨k, a, b, c⟩
theorem goes_all : ((List.range 5).all fun m => (List.range 13).all fun k => (List.range 4).all fun a => (List.range 4).all fun b => (List.range 4).all fun c => !validG (gk4 k a b c) m || ((List.range (2 ^ m)).all fun i => (goes (gk4 k a b c) i).all fun s => decide (s.j < 2 ^ m))) = true := by decide +kernel
/-- A valid gate sends an index to places of the state. -/
theorem goes_lt {g : Gt} {m i : Nat} (h : validG g m = true) (hi : i < 2 ^ m) : ∀ s ∈ goes g i, s.j < 2 ^ m := by
  obtain ⟨k, a, b, c, _, hk, ha, hb, hc, _, hm, rfl⟩ := validK h
  have h1 := List.all_eq_true.1 (List.all_eq_true.1 (List.all_eq_true.1 (List.all_eq_true.1 (List.all_eq_true.1 goes_all m (List.mem_range.2 hm)) k (List.mem_range.2 hk)) a (List.mem_range.2 ha)) b (List.mem_range.2 hb)) c (List.mem_range.2 hc)
  rw [show validG (gk4 k a b c) m = true from h, Bool.not_true, Bool.false_or] at h1
  intro s hs
  exact of_decide_eq_true (List.all_eq_true.1 (List.all_eq_true.1 h1 i (List.mem_range.2 hi)) s hs)
theorem goes_len (g : Gt) (i : Nat) : (goes g i).length ≤ 2 := by
  by_cases k1 : g.k = 1
  · rw [goes, if_pos k1]; exact (by decide : 1 ≤ 2)
  by_cases k2 : g.k = 2
  · rw [goes, if_neg k1, if_pos k2]; exact (by decide : 1 ≤ 2)
  by_cases k3 : g.k = 3
  · rw [goes, if_neg k1, if_neg k2, if_pos k3]; exact (by decide : 1 ≤ 2)
  by_cases k5 : g.k = 5
  · rw [goes, if_neg k1, if_neg k2, if_neg k3, if_pos k5]; exact (by decide : 1 ≤ 2)
  by_cases k6 : g.k = 6
  · rw [goes, if_neg k1, if_neg k2, if_neg k3, if_neg k5, if_pos k6]; exact (by decide : 1 ≤ 2)
  by_cases k7 : g.k = 7
  · rw [goes, if_neg k1, if_neg k2, if_neg k3, if_neg k5, if_neg k6, if_pos k7]; exact (by decide : 1 ≤ 2)
  by_cases k8 : g.k = 8
  · rw [goes, if_neg k1, if_neg k2, if_neg k3, if_neg k5, if_neg k6, if_neg k7, if_pos k8]; exact (by decide : 1 ≤ 2)
  by_cases k9 : g.k = 9
  · rw [goes, if_neg k1, if_neg k2, if_neg k3, if_neg k5, if_neg k6, if_neg k7, if_neg k8, if_pos k9]; exact (by decide : 1 ≤ 2)
  by_cases k10 : g.k = 10
  · rw [goes, if_neg k1, if_neg k2, if_neg k3, if_neg k5, if_neg k6, if_neg k7, if_neg k8, if_neg k9, if_pos k10]; exact (by decide : 1 ≤ 2)
  by_cases k12 : g.k = 12
  · rw [goes, if_neg k1, if_neg k2, if_neg k3, if_neg k5, if_neg k6, if_neg k7, if_neg k8, if_neg k9, if_neg k10, if_pos k12]; exact (by decide : 1 ≤ 2)
  by_cases k11 : g.k = 11
  · rw [goes, if_neg k1, if_neg k2, if_neg k3, if_neg k5, if_neg k6, if_neg k7, if_neg k8, if_neg k9, if_neg k10, if_neg k12, if_pos k11]; exact (by decide : 1 ≤ 2)
  rw [goes, if_neg k1, if_neg k2, if_neg k3, if_neg k5, if_neg k6, if_neg k7, if_neg k8, if_neg k9, if_neg k10, if_neg k12, if_neg k11]
  exact Nat.le_refl 2
theorem l10Goes_any (g : Gt) (m i : Nat) (w : World) (h : validG g m = true) (hi : i < 2 ^ m) : Calls Try.prog 47 #[.agg #[.int .i64 g.k, .int .i64 g.a, .int .i64 g.b, .int .i64 g.c], .int .i64 i] w (RetRow 81 6 w (goes g i).length ((goes g i).flatMap scells)) := by
  obtain ⟨k, a, b, c, h1, hk, ha, hb, hc, _, hm, rfl⟩ := validK h
  have hi16 : i < 16 := Nat.lt_of_lt_of_le hi (by
    obtain rfl | rfl | rfl | rfl | rfl : m = 0 ∨ m = 1 ∨ m = 2 ∨ m = 3 ∨ m = 4 := by omega
    all_goals decide)
  obtain rfl | rfl | rfl | rfl | rfl | rfl | rfl | rfl | rfl | rfl | rfl | rfl : k = 1 ∨ k = 2 ∨ k = 3 ∨ k = 4 ∨ k = 5 ∨ k = 6 ∨ k = 7 ∨ k = 8 ∨ k = 9 ∨ k = 10 ∨ k = 11 ∨ k = 12 := by omega
  · exact l10Goes_1 a b c i w ha hb hc hi16
  · exact l10Goes_2 a b c i w ha hb hc hi16
  · exact l10Goes_3 a b c i w ha hb hc hi16
  · exact l10Goes_4 a b c i w ha hb hc hi16
  · exact l10Goes_5 a b c i w ha hb hc hi16
  · exact l10Goes_6 a b c i w ha hb hc hi16
  · exact l10Goes_7 a b c i w ha hb hc hi16
  · exact l10Goes_8 a b c i w ha hb hc hi16
  · exact l10Goes_9 a b c i w ha hb hc hi16
  · exact l10Goes_10 a b c i w ha hb hc hi16
  · exact l10Goes_11 a b c i w ha hb hc hi16
  · exact l10Goes_12 a b c i w ha hb hc hi16
end Go.Proofs.Ytgjpicekdbemiaa
