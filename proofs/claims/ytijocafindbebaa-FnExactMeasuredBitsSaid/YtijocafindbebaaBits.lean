/- The measured bits: the plain list; the reference's l20Bits and MeasuredBits. -/
import Derived.Test.YtijocafindbebaaHas
import Derived.Test.YtijocafindbebaaTreeTo
namespace Go.Proofs.Ytijocafindbebaa
open Go.RowKit
set_option linter.unusedVariables false
def argAt (h : SH) : ByteArray := h.args.getD 1 ⟨#[]⟩
/-- Is a new bit measured? -/
def newB (h : SH) (out : List ByteArray) : Bool := decide (h.k = 6) && (decide (1 < h.args.length) && !hasS out (argAt h))
def bits1 (h : SH) (out : List ByteArray) : List ByteArray := if newB h out then out ++ [argAt h] else out
def bitsT : (d : Nat) → List (Tr d) → List ByteArray → List ByteArray
  | 0, _, out => out
  | d + 1, l, out => l.foldl (fun o s => bitsT d (bdT s) (bits1 (hdT s) o)) out
theorem bits1_t {h : SH} {out : List ByteArray} (e : newB h out = true) : bits1 h out = out ++ [argAt h] := if_pos e
theorem bits1_f {h : SH} {out : List ByteArray} (e : newB h out = false) : bits1 h out = out := if_neg (by simp [e])
theorem bits1_len (h : SH) (out : List ByteArray) : (bits1 h out).length ≤ out.length + 1 := by unfold bits1; split <;> simp
theorem bitsT_step {d : Nat} (l : List (Tr (d + 1))) (t : Nat) (s : Tr (d + 1)) (out : List ByteArray) (h : l[t]? = some s) : bitsT (d + 1) (l.take (t + 1)) out = bitsT d (bdT s) (bits1 (hdT s) (bitsT (d + 1) (l.take t) out)) := by
  rw [List.take_add_one, h]
  simp [bitsT, List.foldl_append]
theorem bitsT_len : ∀ (d : Nat) (l : List (Tr d)) (out : List ByteArray), (bitsT d l out).length ≤ out.length + szT d l := by
  intro d
  induction d with
  | zero => intro l out; exact Nat.le_add_right _ _
  | succ d ih =>
    intro l
    rw [szT_succ]
    unfold sumE
    induction l with
    | nil => intro out; simp [bitsT]
    | cons s l ih2 =>
      intro out
      have h1 := ih2 (bitsT d (bdT s) (bits1 (hdT s) out))
      have h2 := ih (bdT s) (bits1 (hdT s) out)
      have h3 := bits1_len (hdT s) out
      have h4 : szE s = (hdT s).word.size + ((hdT s).args.length + szS (hdT s).args + szT d (bdT s)) := rfl
      have e : bitsT (d + 1) (s :: l) out = bitsT (d + 1) l (bitsT d (bdT s) (bits1 (hdT s) out)) := rfl
      rw [e]
      simp only [List.map_cons, List.sum_cons, List.length_cons]
      omega
theorem argAt_of {h : SH} (hl : 1 < h.args.length) : h.args[1]? = some (argAt h) := by
  unfold argAt
  rw [List.getD_eq_getElem?_getD, List.getElem?_eq_getElem hl]
  rfl
/-- The words 'out' are owned by v, from base on. -/
def OutS (w : World) (base : Nat) (v : Value) (out : List ByteArray) : Prop := w.ownsRow base 9 1 v out.length (strs out)
end Go.Proofs.Ytijocafindbebaa
