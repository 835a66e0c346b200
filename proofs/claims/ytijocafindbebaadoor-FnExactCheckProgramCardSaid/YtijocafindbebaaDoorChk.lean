/- Checking programs: the plain answers. -/
import Derived.Test.YtijocafindbebaaDoorHas
import Derived.Test.YtijocafindbebaaDoorVst
namespace Go.Proofs.YtijocafindbebaaDoor
open Go.RowKit
set_option linter.unusedVariables false
/-- A code and a name. -/
abbrev Bad := Int × ByteArray
def bad0 : Bad := (0, ⟨#[]⟩)
def argBad (names held : List ByteArray) (a : ByteArray) : Bad := if hasS names a = false then (2, a) else if hasS held a = true then (4, a) else bad0
def chkA (names held args : List ByteArray) : Nat → List ByteArray → Bad
  | _, [] => bad0
  | i, a :: r => if hasS names a = false then (2, a) else if hasS held a = true then (4, a) else if hasS (args.take i) a = true then (3, a) else chkA names held args (i + 1) r
def ctlS (k : Int) (n : Nat) : Bool := if n = 0 then true else if n = 1 then (k != 7 && (k != 8 && k != 12)) else decide (n = 2) && (k == 1 || k == 3)
def hardW (word : ByteArray) : Bool := word.toList == [116] || (word.toList == [116, 100] || word.toList == [99, 99, 120])
def badI (word : ByteArray) (n : Nat) : Bool := (decide (n = 1) && hardW word) || ((decide (n = 2) && (!(word.toList == [120]) && !(word.toList == [122]))) || decide (2 < n))
def gateBad (names held args : List ByteArray) (word : ByteArray) : Bad := if (chkA names held args 0 args).1 = 0 then (if ctlS (gkind word) held.length = true then bad0 else (9, word)) else chkA names held args 0 args
section
variable {names held args : List ByteArray} {t : Nat} {a : ByteArray}
theorem drop_at (h : args[t]? = some a) : args.drop t = a :: args.drop (t + 1) := by
  obtain ⟨hl, rfl⟩ := List.getElem?_eq_some_iff.1 h
  exact List.drop_eq_getElem_cons hl
theorem chkA_2 (h : args[t]? = some a) (h1 : hasS names a = false) : chkA names held args t (args.drop t) = (2, a) := by rw [drop_at h, chkA, if_pos h1]
theorem chkA_4 (h : args[t]? = some a) (h1 : hasS names a = true) (h2 : hasS held a = true) : chkA names held args t (args.drop t) = (4, a) := by rw [drop_at h, chkA, if_neg (by simp [h1]), if_pos h2]
theorem chkA_3 (h : args[t]? = some a) (h1 : hasS names a = true) (h2 : hasS held a = false) (h3 : hasS (args.take t) a = true) : chkA names held args t (args.drop t) = (3, a) := by rw [drop_at h, chkA, if_neg (by simp [h1]), if_neg (by simp [h2]), if_pos h3]
theorem chkA_0 (h : args[t]? = some a) (h1 : hasS names a = true) (h2 : hasS held a = false) (h3 : hasS (args.take t) a = false) : chkA names held args t (args.drop t) = chkA names held args (t + 1) (args.drop (t + 1)) := by rw [drop_at h, chkA, if_neg (by simp [h1]), if_neg (by simp [h2]), if_neg (by simp [h3])]
theorem gateBad_n {word : ByteArray} {c : Bad} (h : chkA names held args 0 args = c) (hc : c.1 ≠ 0) : gateBad names held args word = c := by rw [gateBad, h, if_neg hc]
theorem gateBad_t {word : ByteArray} (h : chkA names held args 0 args = bad0) (hc : ctlS (gkind word) held.length = true) : gateBad names held args word = bad0 := by rw [gateBad, h, if_pos (show bad0.1 = 0 from rfl), if_pos hc]
theorem gateBad_f {word : ByteArray} (h : chkA names held args 0 args = bad0) (hc : ctlS (gkind word) held.length = false) : gateBad names held args word = (9, word) := by rw [gateBad, h, if_pos (show bad0.1 = 0 from rfl), if_neg (by simp [hc])]
end
theorem gk_names : ∀ k, k < 13 → 0 < k → gkindFrom (gname k) 12 1 = k := by decide
theorem gk_eq {word : ByteArray} {k : Nat} (hk : k < 13) (h0 : 0 < k) : (gkind word = k) ↔ word.toList = gname k := by
  constructor
  · intro h
    have key : ∀ f j, j + f ≤ 13 → gkindFrom word.toList f j = k → word.toList = gname k := by
      intro f
      induction f with
      | zero => intro j _ e; simp [gkindFrom] at e; omega
      | succ f ih =>
        intro j hj e
        simp only [gkindFrom] at e
        split at e
        · rename_i hh
          have := LawfulBEq.eq_of_beq hh
          rw [← e]
          exact this.symm
        · exact ih (j + 1) (by omega) e
    exact key 12 1 (by omega) h
  · intro h
    unfold gkind
    rw [h]
    exact gk_names k hk h0
theorem gk_ne {word : ByteArray} {k : Nat} (hk : k < 13) (h0 : 0 < k) : ((gkind word : Int) != (k : Int)) = !(word.toList == gname k) := by
  by_cases h : word.toList = gname k
  · have := (gk_eq hk h0).2 h
    rw [this, h]
    simp
  · have : gkind word ≠ k := fun e => h ((gk_eq hk h0).1 e)
    have h1 : (word.toList == gname k) = false := by simpa using h
    rw [h1]
    simp
    omega
theorem badI_ctl (word : ByteArray) (n : Nat) : badI word n = !ctlS (gkind word) n := by
  have e7 := gk_ne (word := word) (k := 7) (by decide) (by decide)
  have e8 := gk_ne (word := word) (k := 8) (by decide) (by decide)
  have e12 := gk_ne (word := word) (k := 12) (by decide) (by decide)
  have e1 := gk_ne (word := word) (k := 1) (by decide) (by decide)
  have e3 := gk_ne (word := word) (k := 3) (by decide) (by decide)
  have g7 : gname 7 = [116] := rfl
  have g8 : gname 8 = [116, 100] := rfl
  have g12 : gname 12 = [99, 99, 120] := rfl
  have g1 : gname 1 = [120] := rfl
  have g3 : gname 3 = [122] := rfl
  rw [g7] at e7; rw [g8] at e8; rw [g12] at e12; rw [g1] at e1; rw [g3] at e3
  have f1 : ((gkind word : Int) == 1) = (word.toList == [120]) := by
    have : ((gkind word : Int) == 1) = !((gkind word : Int) != 1) := by simp [bne]
    rw [this]
    have e1' : ((gkind word : Int) != 1) = !(word.toList == [120]) := e1
    rw [e1']
    simp
  have f3 : ((gkind word : Int) == 3) = (word.toList == [122]) := by
    have : ((gkind word : Int) == 3) = !((gkind word : Int) != 3) := by simp [bne]
    rw [this]
    have e3' : ((gkind word : Int) != 3) = !(word.toList == [122]) := e3
    rw [e3']
    simp
  have e7' : ((gkind word : Int) != 7) = !(word.toList == [116]) := e7
  have e8' : ((gkind word : Int) != 8) = !(word.toList == [116, 100]) := e8
  have e12' : ((gkind word : Int) != 12) = !(word.toList == [99, 99, 120]) := e12
  unfold badI ctlS hardW
  rw [f1, f3, e7', e8', e12']
  by_cases n0 : n = 0
  · subst n0; simp
  · by_cases n1 : n = 1
    · subst n1
      cases word.toList == [116] <;> cases word.toList == [116, 100] <;> cases word.toList == [99, 99, 120] <;> simp
    · by_cases n2 : n = 2
      · subst n2
        cases word.toList == [120] <;> cases word.toList == [122] <;> simp
      · have : 2 < n := by omega
        simp [n0, n1, n2, this]
end Go.Proofs.YtijocafindbebaaDoor
