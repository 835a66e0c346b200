/- Contracts of the loops over slices of strings that the laws, the program and the reference use. -/
import Derived.Test.YtbamjfbfipkioaaProg
import Derived.Test.YtbamjfbfipkioaaTree
namespace Go.Proofs.Ytbamjfbfipkioaa
open Go.RowKit
set_option linter.unusedVariables false
theorem strs_length (l : List ByteArray) : (strs l).length = l.length := by simp [strs]
theorem strs_at {l : List ByteArray} {k : Nat} {s : ByteArray} (h : l[k]? = some s) : (strs l)[k]? = some (.string s) := by simp [strs, h]
theorem rdl_own {w : World} {base E size n c : Nat} {A : Option Addr} {xs : List Value} (h : w.ownsRow base E size (.slice A n c) n xs) : RdL w base size A n xs := by
  have hr := rd_own h
  refine ⟨hr.1, fun h0 => ?_⟩
  obtain ⟨b, off, e, hb, hc⟩ := hr.2 h0
  subst e
  obtain ⟨g, cap, hv, hg, _⟩ := h.form h0
  injection hv with hv _ _
  injection hv with hv
  injection hv with hv _ _
  exact ⟨b, off, rfl, by rw [hv]; exact hg, hb, hc⟩
theorem info_str : (Try.prog.info? 9).map (fun i => (i.zero, i.size, i.bytes)) = some (some (.string ByteArray.empty), 1, 16) := by kernel_rfl
/-- What is left of a size, or -1. -/
def subSz (left : Int) (m : Nat) : Int := if left < m then -1 else left - m
theorem subSz_neg {left : Int} {m : Nat} (h : left < m) : subSz left m = -1 := if_pos h
theorem subSz_pos {left : Int} {m : Nat} (h : ¬ left < m) : subSz left m = left - m := if_neg h
/-- What a list of strings counts in a law's size. -/
def szS : List ByteArray → Nat
  | [] => 0
  | s :: l => s.size + szS l
theorem szS_take (l : List ByteArray) (t : Nat) (s : ByteArray) (h : l[t]? = some s) : szS (l.take (t + 1)) = szS (l.take t) + s.size := by
  induction l generalizing t with
  | nil => simp at h
  | cons x l ih =>
    cases t with
    | zero => simp at h; subst h; simp [szS]
    | succ t => simp only [List.take_succ_cons, szS, ih t (by simpa using h)]; omega
theorem szS_take_le (l : List ByteArray) (t : Nat) : szS (l.take t) ≤ szS l := by
  induction l generalizing t with
  | nil => simp [szS]
  | cons x l ih =>
    cases t with
    | zero => simp [szS]
    | succ t => simp only [List.take_succ_cons, szS]; have := ih t; omega
end Go.Proofs.Ytbamjfbfipkioaa
