/- Parts of a list of statements: how they read, their depth and their number of tokens. -/
import Derived.Test.YtbamjfbfipkioaaTok
import Derived.Test.YtbamjfbfipkioaaEqT
import Derived.Test.YtbamjfbfipkioaaDcl
namespace Go.Proofs.Ytbamjfbfipkioaa
open Go.RowKit
set_option linter.unusedVariables false
theorem RdT.take {w : World} {lo d n : Nat} {A : Option Addr} {l : List (Tr (d + 1))} (h : RdT w lo (d + 1) A n l) {t : Nat} (ht : t ≤ n) : RdT w lo (d + 1) A t (l.take t) := by
  refine ⟨by rw [List.length_take, h.1]; omega, fun h0 => ?_⟩
  obtain ⟨b, off, e, h1, hb, hc⟩ := h.2 (by omega)
  refine ⟨b, off, e, h1, hb, fun i s hi => hc i s ?_⟩
  rw [List.getElem?_take] at hi
  split at hi
  · exact hi
  · cases hi
theorem RdT.drop {w : World} {lo d n b off : Nat} {l : List (Tr (d + 1))} (h : RdT w lo (d + 1) (some ⟨b, off, none⟩) n l) {t : Nat} (ht : t ≤ n) : RdT w lo (d + 1) (some ⟨b, off + t * 5, none⟩) (n - t) (l.drop t) := by
  refine ⟨by rw [List.length_drop, h.1], fun h0 => ?_⟩
  obtain ⟨b', off', e, h1, hb, hc⟩ := h.2 (by omega)
  injection e with e
  injection e with e1 e2
  subst e1 e2
  refine ⟨b, off + t * 5, rfl, h1, hb, fun i s hi => ?_⟩
  rw [List.getElem?_drop] at hi
  obtain ⟨Aa, ca, Ab, nb, cb, h1, h2⟩ := hc _ s hi
  rw [show off + (t + i) * 5 = off + t * 5 + i * 5 by omega] at h1
  exact ⟨Aa, ca, Ab, nb, cb, h1, h2⟩
theorem RdT.nil {w : World} {lo d : Nat} {A : Option Addr} : RdT w lo (d + 1) A 0 [] := ⟨rfl, fun h => absurd h (by omega)⟩
theorem nest_from {d : Nat} (l : List (Tr (d + 1))) : ∀ m : Nat, l.foldl (fun (m : Nat) (s : Tr (d + 1)) => if hasB (hdT s).k then max m (1 + nestT d (bdT s)) else m) m = max m (nestT (d + 1) l) := by
  induction l with
  | nil => intro m; simp [nestT]
  | cons s l ih =>
    intro m
    show l.foldl _ (if hasB (hdT s).k then max m (1 + nestT d (bdT s)) else m) = max m (l.foldl _ (if hasB (hdT s).k then max 0 (1 + nestT d (bdT s)) else 0))
    rw [ih, ih]
    split <;> omega
theorem nest_cut {d : Nat} (l : List (Tr (d + 1))) (t : Nat) : nestT (d + 1) l = max (nestT (d + 1) (l.take t)) (nestT (d + 1) (l.drop t)) := by
  conv => lhs; rw [← List.take_append_drop t l]
  show (l.take t ++ l.drop t).foldl _ 0 = _
  rw [List.foldl_append]
  exact nest_from _ _
theorem tok_cut {d : Nat} (l : List (Tr (d + 1))) (t : Nat) : tokT (d + 1) l = tokT (d + 1) (l.take t) + tokT (d + 1) (l.drop t) := by
  conv => lhs; rw [← List.take_append_drop t l]
  rw [tokT_succ, tokT_succ, tokT_succ, List.map_append, List.sum_append]
theorem sz_cut {d : Nat} (l : List (Tr (d + 1))) (t : Nat) : szT (d + 1) l = szT (d + 1) (l.take t) + szT (d + 1) (l.drop t) := by
  conv => lhs; rw [← List.take_append_drop t l]
  rw [szT_append]
theorem eqTs_refl : ∀ (d : Nat) (l : List (Tr d)), eqTs d l l = true := by
  intro d
  induction d with
  | zero => intro l; rfl
  | succ d ih =>
    intro l
    rw [eqTs_succ]
    exact eqBy_refl (fun s _ => eqE_t rfl (eqSt_refl _) (eqBy_refl (fun x _ => eqSt_refl x)) rfl (ih _))
end Go.Proofs.Ytbamjfbfipkioaa
