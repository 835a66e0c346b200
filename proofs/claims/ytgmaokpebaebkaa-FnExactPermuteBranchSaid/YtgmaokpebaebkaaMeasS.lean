/- Measuring a qubit of a branch, by the reference. -/
import Derived.Test.YtgmaokpebaebkaaSide
import Derived.Test.YtgmaokpebaebkaaIn
namespace Go.Proofs.Ytgmaokpebaebkaa
open Go.RowKit
set_option linter.unusedVariables false
/-- The bits behind a measurement. -/
def mbits (b : Int) (one : Nat) (bit : Int) : Int := wrap64 (b + wrap64 ((one : Int) * 2 ^ bit.toNat))
def anyM (M : List (List Dm)) : Bool := M.any nz
theorem anyM_take {M : List (List Dm)} {t : Nat} {r : List Dm} (h : M[t]? = some r) : anyM (M.take (t + 1)) = (anyM (M.take t) || nz r) := by
  rw [List.take_add_one, h]
  simp [anyM]
def measOne (b : Int) (M : List (List Dm)) (q bit : Int) (one : Nat) : List Br := if anyM (M.map (sideL q one)) = true then [⟨mbits b one bit, M.map (sideL q one)⟩] else []
def measTo (b : Int) (M : List (List Dm)) (q bit : Int) : Nat → List Br
  | 0 => []
  | t + 1 => measTo b M q bit t ++ measOne b M q bit t
theorem map_take1 {α β : Type} (f : α → β) {M : List α} {t : Nat} {r : α} (h : M[t]? = some r) : (M.map f).take (t + 1) = (M.map f).take t ++ [f r] := by
  rw [List.take_add_one, List.getElem?_map, h]
  rfl
theorem measOne_t {b : Int} {M : List (List Dm)} {q bit : Int} {one : Nat} (h : anyM (M.map (sideL q one)) = true) : measOne b M q bit one = [⟨mbits b one bit, M.map (sideL q one)⟩] := by rw [measOne, if_pos h]
theorem measOne_f {b : Int} {M : List (List Dm)} {q bit : Int} {one : Nat} (h : anyM (M.map (sideL q one)) = false) : measOne b M q bit one = [] := by rw [measOne, if_neg (by rw [h]; decide)]
theorem measTo_len (b : Int) (M : List (List Dm)) (q bit : Int) : ∀ t, (measTo b M q bit t).length ≤ t
  | 0 => Nat.le_refl _
  | t + 1 => by
    have := measTo_len b M q bit t
    have h1 : (measOne b M q bit t).length ≤ 1 := by unfold measOne; split <;> simp
    simp only [measTo, List.length_append]
    omega
/-- Behind a loop that makes a branch's states: nothing below X has turned. -/
theorem ownB_through {w w' : World} {base n : Nat} {v : Value} {L : List Br} {F : List Nat} (h : OwnB w base v n L F) {X : Nat} (hX : X = w.heap.size) (hb : Below X w w') : OwnB w' base v n L F := h.below (hX ▸ hb)
end Go.Proofs.Ytgmaokpebaebkaa
