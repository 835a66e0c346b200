/- Measuring a qubit of a branch, by the program. -/
import Derived.Test.YtgmaokpebaebkaaCopyB
namespace Go.Proofs.Ytgmaokpebaebkaa
open Go.RowKit
set_option linter.unusedVariables false
theorem own_some {w : World} {base E size n c : Nat} {a : Option Addr} {xs : List Value} (h : w.ownsRow base E size (.slice a n c) n xs) (hn : 0 < n) : ∃ g, a = some ⟨g, 0, none⟩ := by
  rcases h.2 with ⟨h1, h2⟩ | ⟨g, cap, cur, h1, _⟩
  · injection h1 with h3 h4 h5
    omega
  · injection h1 with h3 h4 h5
    exact ⟨g, h3⟩
theorem mix_at {α : Type} {S r : List α} {j : Nat} (hl : S.length = r.length) (hj : j < r.length) : (S.take j ++ r.drop j)[j]? = r[j]? := by
  have h1 : (S.take j).length = j := by rw [List.length_take]; omega
  rw [List.getElem?_append_right (by omega), h1, Nat.sub_self, List.getElem?_drop, Nat.add_zero]
theorem mix_set {α : Type} {S r : List α} {j : Nat} {y : α} (hl : S.length = r.length) (hy : S[j]? = some y) : (S.take j ++ r.drop j).set j y = S.take (j + 1) ++ r.drop (j + 1) := by
  have hj := (List.getElem?_eq_some_iff.1 hy).1
  have h1 : (S.take j).length = j := by rw [List.length_take]; omega
  rw [List.set_append_right _ _ (by omega), h1, Nat.sub_self, List.drop_eq_getElem_cons (by omega : j < r.length), List.set_cons_zero, List.take_add_one, hy]
  simp
theorem mix_same {α : Type} {S r : List α} {j : Nat} {y : α} (hl : S.length = r.length) (hy : S[j]? = some y) (hr : r[j]? = some y) : S.take j ++ r.drop j = S.take (j + 1) ++ r.drop (j + 1) := by
  have hj := (List.getElem?_eq_some_iff.1 hy).1
  rw [List.take_add_one, hy, List.drop_eq_getElem_cons (by omega : j < r.length), (List.getElem?_eq_some_iff.1 hr).2]
  simp
theorem szM_side (q one : Int) (M : List (List Dm)) : szM (M.map (sideL q one)) = szM M := by
  unfold szM
  rw [List.map_map]
  congr 1
  exact List.map_congr_left fun r _ => sideL_len q one r
end Go.Proofs.Ytgmaokpebaebkaa
