/- Comparing equal lists of operations (the laws' own loop). -/
import Derived.Test.YtbffpehajkgjeaaOpS
namespace Go.Proofs.Ytbffpehajkgjeaa
open Go.RowKit
set_option linter.unusedVariables false
set_option maxRecDepth 100000 in
set_option maxHeartbeats 1000000 in
theorem sameOps_same (A A' : Option Addr) (n c c' : Nat) (l : List Opt) (w : World) (hl : l.length = n) (hn : n ≤ 1099511627776) (h1 : Rd w 8 A n (l.flatMap ocells)) (h2 : Rd w 8 A' n (l.flatMap ocells)) :
    Calls Try.prog 28 #[.slice A n c, .slice A' n c'] w fun e w' => e = .returned (.bool true) ∧ Below w.heap.size w w' ∧ w.heap.size ≤ w'.heap.size := by
  have H1 := Lib.hid h1
  have H2 := Lib.hid h2
  have HL := Lib.hid hl
  clear h1 h2 hl
  go_enter Try.func28, Try.ntmps28
  go_wp2_with fail
  go_loopw [5] (fun i wr => ∃ k : Nat, k ≤ n ∧ i = .int .i64 k ∧ Below w.heap.size w wr) (fun i _ => n - (intOf i).toNat)
  case atStart => exact ⟨0, Nat.zero_le _, rfl, Below.refl _ _⟩
  case round =>
    obtain ⟨k, hk, rfl, hb⟩ := hrel
    by_cases hlt : k < n
    · have hkl : k < l.length := by rw [HL.out]; exact hlt
      obtain ⟨g, hg⟩ : ∃ g, l[k]? = some g := ⟨_, List.getElem?_eq_getElem hkl⟩
      obtain ⟨b, off, rfl, _, hc⟩ := (H1.out.below hb).2 (by omega)
      obtain ⟨b', off', rfl, _, hc'⟩ := (H2.out.below hb).2 (by omega)
      have q0 := hc (k * 8 + 0) _ (flat_at ocells_len l k g 0 hg (by decide))
      have q0' := hc' (k * 8 + 0) _ (flat_at ocells_len l k g 0 hg (by decide))
      have q1 := hc (k * 8 + 1) _ (flat_at ocells_len l k g 1 hg (by decide))
      have q1' := hc' (k * 8 + 1) _ (flat_at ocells_len l k g 1 hg (by decide))
      have q2 := hc (k * 8 + 2) _ (flat_at ocells_len l k g 2 hg (by decide))
      have q2' := hc' (k * 8 + 2) _ (flat_at ocells_len l k g 2 hg (by decide))
      have q3 := hc (k * 8 + 3) _ (flat_at ocells_len l k g 3 hg (by decide))
      have q3' := hc' (k * 8 + 3) _ (flat_at ocells_len l k g 3 hg (by decide))
      have q4 := hc (k * 8 + 4) _ (flat_at ocells_len l k g 4 hg (by decide))
      have q4' := hc' (k * 8 + 4) _ (flat_at ocells_len l k g 4 hg (by decide))
      have q5 := hc (k * 8 + 5) _ (flat_at ocells_len l k g 5 hg (by decide))
      have q5' := hc' (k * 8 + 5) _ (flat_at ocells_len l k g 5 hg (by decide))
      have q6 := hc (k * 8 + 6) _ (flat_at ocells_len l k g 6 hg (by decide))
      have q6' := hc' (k * 8 + 6) _ (flat_at ocells_len l k g 6 hg (by decide))
      have q7 := hc (k * 8 + 7) _ (flat_at ocells_len l k g 7 hg (by decide))
      have q7' := hc' (k * 8 + 7) _ (flat_at ocells_len l k g 7 hg (by decide))
      rw [← Nat.add_assoc] at q1 q1' q2 q2' q3 q3' q4 q4' q5 q5' q6 q6' q7 q7'
      rw [Nat.add_zero] at q0 q0'
      clear hc hc' hg hkl
      go_wp2_with fail
      go_quiet (fail)
      go_wp2_with fail
      go_roundw
      case rel => exact ⟨k + 1, by omega, by go_num, below_drewN hb _⟩
      case measure => simp [intOf]; omega
    · go_wp2_with fail
      go_ret
      exact ⟨rfl, hb, hb.size⟩
end Go.Proofs.Ytbffpehajkgjeaa
