/- Counting gates of a kind; comparing equal lists of gates (the laws' own loop); the size test. -/
import Derived.Test.YtgjpicekdbemiaaDecompose
import Derived.Test.YtgjpicekdbemiaaGateS
import Derived.Test.YtgjpicekdbemiaaMat
namespace Go.Proofs.Ytgjpicekdbemiaa
open Go.RowKit
set_option linter.unusedVariables false
set_option maxRecDepth 100000 in
theorem big_any (A : Option Addr) (n c : Nat) (w : World) (hn : n ≤ 9223372036854775807) : Calls Try.prog 4 #[.slice A n c] w fun e w' => e = .returned (.bool (decide (1048576 < n))) ∧ w = w' := by
  by_cases h : 1048576 < n
  · go_enter Try.func4, Try.ntmps4
    go_wp2_with fail
    go_ret
    exact ⟨by simp [h]; omega, rfl⟩
  · go_enter Try.func4, Try.ntmps4
    go_wp2_with fail
    go_ret
    exact ⟨by simp [h]; omega, rfl⟩
set_option maxRecDepth 100000 in
set_option maxHeartbeats 1000000 in
theorem sameGates_same (A A' : Option Addr) (n c c' : Nat) (l : List Gt) (w : World) (hl : l.length = n) (hn : n ≤ 1099511627776) (h1 : Rd w 4 A n (l.flatMap gcells)) (h2 : Rd w 4 A' n (l.flatMap gcells)) :
    Calls Try.prog 7 #[.slice A n c, .slice A' n c'] w fun e w' => e = .returned (.bool true) ∧ Below w.heap.size w w' ∧ w.heap.size ≤ w'.heap.size := by
  have H1 := Lib.hid h1
  have H2 := Lib.hid h2
  have HL := Lib.hid hl
  clear h1 h2 hl
  go_enter Try.func7, Try.ntmps7
  go_wp2_with fail
  go_loopw [5] (fun i wr => ∃ k : Nat, k ≤ n ∧ i = .int .i64 k ∧ Below w.heap.size w wr) (fun i _ => n - (intOf i).toNat)
  case atStart => exact ⟨0, Nat.zero_le _, rfl, Below.refl _ _⟩
  case round =>
    obtain ⟨k, hk, rfl, hb⟩ := hrel
    by_cases hlt : k < n
    · have hkl : k < l.length := by rw [HL.out]; exact hlt
      obtain ⟨g, hg⟩ : ∃ g, l[k]? = some g := ⟨_, List.getElem?_eq_getElem hkl⟩
      obtain ⟨b, off, rfl, _, hc⟩ := (H1.out.below hb).2 (by omega)
      obtain ⟨b', off', rfl, _, hc'⟩ := (H2.out.below hb).2 (by omega)
      have q0 := hc (k * 4 + 0) _ (flat_at gcells_len l k g 0 hg (by decide))
      have q0' := hc' (k * 4 + 0) _ (flat_at gcells_len l k g 0 hg (by decide))
      have q1 := hc (k * 4 + 1) _ (flat_at gcells_len l k g 1 hg (by decide))
      have q1' := hc' (k * 4 + 1) _ (flat_at gcells_len l k g 1 hg (by decide))
      have q2 := hc (k * 4 + 2) _ (flat_at gcells_len l k g 2 hg (by decide))
      have q2' := hc' (k * 4 + 2) _ (flat_at gcells_len l k g 2 hg (by decide))
      have q3 := hc (k * 4 + 3) _ (flat_at gcells_len l k g 3 hg (by decide))
      have q3' := hc' (k * 4 + 3) _ (flat_at gcells_len l k g 3 hg (by decide))
      rw [← Nat.add_assoc] at q1 q1' q2 q2' q3 q3'
      rw [Nat.add_zero] at q0 q0'
      clear hc hc' hg hkl
      go_wp2_with fail
      go_quiet (fail)
      go_wp2_with fail
      go_roundw
      case rel => exact ⟨k + 1, by omega, by go_num, below_drewN hb _⟩
      case measure => simp [intOf]; omega
    · go_wp2_with fail
      go_ret
      exact ⟨rfl, hb, hb.size⟩
/-- How many gates of one kind a list has. -/
def kcount (k : Int) : List Gt → Nat
  | [] => 0
  | g :: l => (if g.k = k then 1 else 0) + kcount k l
theorem kcount_snoc (k : Int) (l : List Gt) (g : Gt) : kcount k (l ++ [g]) = kcount k l + (if g.k = k then 1 else 0) := by
  induction l with
  | nil => simp [kcount]
  | cons x l ih => simp only [List.cons_append, kcount, ih]; omega
theorem kcount_le (k : Int) : ∀ l : List Gt, kcount k l ≤ l.length
  | [] => by simp [kcount]
  | g :: l => by have := kcount_le k l; simp only [kcount, List.length_cons]; split <;> omega
theorem kcount_take (k : Int) (l : List Gt) (t : Nat) (g : Gt) (h : l[t]? = some g) : kcount k (l.take (t + 1)) = kcount k (l.take t) + (if g.k = k then 1 else 0) := by
  rw [List.take_add_one, h]
  exact kcount_snoc _ _ _
theorem below_undrew {w w' : World} (h : Below w.drew.heap.size w.drew w') : Below w.heap.size w w' := ⟨h.os, h.tape, h.output, h.size, h.block⟩
theorem boxc2 {w w' : World} {b : Nat} {x0 x1 : Value} {t : TypeId} (lay : Below w'.heap.size w' w) (h : w'.heap[b]? = some (.cells #[x0, x1] t (0, 0))) : w.cell? ⟨b, 0, none⟩ = some x0 ∧ w.cell? ⟨b, 1, none⟩ = some x1 := by
  have h' : w.heap[b]? = some (.cells #[x0, x1] t (0, 0)) := (lay.block b (lt_of_block h)).trans h
  exact ⟨by simp [World.cell?, h'], by simp [World.cell?, h']⟩
end Go.Proofs.Ytgjpicekdbemiaa
