/- Contracts of the laws' loops over lists of branches: the size, copying, comparing equal ones, marking, reading the marks back. -/
import Derived.Test.YtgjpicekdbemiaaBrs
namespace Go.Proofs.Ytgjpicekdbemiaa
open Go.RowKit
set_option linter.unusedVariables false
theorem szV_neg {left : Int} {M : List (List Dm)} (h : left - (M.length + szM M) < 0) : szV left M = -1 := by unfold szV; rw [if_pos h]
theorem szV_pos {left : Int} {M : List (List Dm)} (h : ¬ left - (M.length + szM M) < 0) : szV left M = left - (M.length + szM M) := by unfold szV; rw [if_neg h]
def szBV (left : Int) (L : List Br) : Int := if left - (L.length + szB L) < 0 then -1 else left - (L.length + szB L)
theorem szBV_neg {left : Int} {L : List Br} (h : left - (L.length + szB L) < 0) : szBV left L = -1 := by unfold szBV; rw [if_pos h]
theorem szBV_pos {left : Int} {L : List Br} (h : ¬ left - (L.length + szB L) < 0) : szBV left L = left - (L.length + szB L) := by unfold szBV; rw [if_neg h]
theorem markB_mid (k : Int) {L : List Br} {t : Nat} (ht : t < L.length) : (markB k (L.take t) ++ L.drop t).take t = markB k (L.take t) ∧ (markB k (L.take t) ++ L.drop t).drop (t + 1) = L.drop (t + 1) ∧ (markB k (L.take t) ++ L.drop t)[t]? = L[t]? := by
  have hl : (markB k (L.take t)).length = t := by rw [markB_length, List.length_take]; omega
  refine ⟨by rw [List.take_append_of_le_length (by omega), List.take_of_length_le (by omega)], ?_, ?_⟩
  · rw [List.drop_append, List.drop_of_length_le (by omega), hl, List.nil_append, List.drop_drop]
    congr 1
    omega
  · rw [List.getElem?_append_right (by omega), hl, Nat.sub_self, List.getElem?_drop, Nat.add_zero]
end Go.Proofs.Ytgjpicekdbemiaa
