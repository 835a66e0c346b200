/- Drawing one of some texts; turning a text. -/
import Derived.Test.YtbamjfbfipkioaaDraw2
namespace Go.Proofs.Ytbamjfbfipkioaa
open Go.RowKit
set_option linter.unusedVariables false
theorem pickedS {w : World} {L : List ByteArray} {b : Nat} (hb : b = w.heap.size) : Rd (w.alloc (.cells (L.map Value.string).toArray 9)) 1 (some ⟨b, 0, none⟩) L.length (L.map Value.string) := by
  have h := rd_lit1 (w := w) (cs := (L.map Value.string).toArray) (e := 9) (n := L.length) (size := 1) hb (by simp)
  simpa using h
/-- A draw of one of some texts. -/
def DSm (L : List ByteArray) (w : World) (p : Nat) (e : Ending) (w' : World) : Prop := ∃ x : ByteArray, x ∈ L ∧ e = .returned (.string x) ∧ CurAt w' p ∧ w.grownBy w' (some p)
set_option maxRecDepth 100000 in
set_option maxHeartbeats 1000000 in
theorem l1Pick_any (b k c : Nat) (L : List ByteArray) (w : World) (p : Nat) (hcur : CurAt w p) (hL : L.length = k) (hk : 0 < k) (hk2 : k ≤ 1000) (hr : Rd w 1 (some ⟨b, 0, none⟩) k (L.map Value.string)) (hne : b ≠ p) : Calls Try.prog 20 #[.pointer (some ⟨p, 0, none⟩), .slice (some ⟨b, 0, none⟩) k c] w (DSm L w p) := by
  have HL := Lib.hid hL
  have HR := Lib.hid hr
  clear hL hr
  go_enter Try.func20, Try.ntmps20
  go_wp2_with fail
  refine (l1Below_any k (k - 1) w p hcur (by omega) (by omega) (by omega)).mono ?_
  rintro e w1 ⟨x, hx0, hx1, rfl, hc1, hg1⟩
  obtain ⟨j, rfl⟩ : ∃ j : Nat, x = j := ⟨x.toNat, by omega⟩
  have hjk : j < k := by omega
  obtain ⟨y, hy⟩ : ∃ y, L[j]? = some y := ⟨_, List.getElem?_eq_getElem (by rw [HL.out]; exact hjk)⟩
  have hq : w1.cell? ⟨b, j, none⟩ = some (.string y) := by
    obtain ⟨b', off, e, hl, hc⟩ := (grown_rd HR.out hg1 (fun _ ad e => by cases e; exact hne)).2 hk
    injection e with e
    injection e with e1 e2
    subst e1 e2
    have := hc j (.string y) (by simp [hy])
    simpa using this
  have HY := Lib.hid (List.mem_of_getElem? hy)
  clear hy
  go_wp2_with fail
  go_ret
  exact ⟨y, HY.out, rfl, hc1, hg1⟩
/-- A drawn text of at most M bytes. -/
def DTx (M : Nat) (w : World) (p : Nat) (e : Ending) (w' : World) : Prop := ∃ x : ByteArray, x.size ≤ M ∧ e = .returned (.string x) ∧ CurAt w' p ∧ w.grownBy w' (some p)
end Go.Proofs.Ytbamjfbfipkioaa
