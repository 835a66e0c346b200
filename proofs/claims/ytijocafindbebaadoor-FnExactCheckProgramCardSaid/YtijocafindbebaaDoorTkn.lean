/- Tokens: the words of a statement; small functions of both sides. -/
import Derived.Test.YtijocafindbebaaDoorVst
import Derived.Test.YtijocafindbebaaDoorDig
import Derived.Test.YtijocafindbebaaDoorAppend
namespace Go.Proofs.YtijocafindbebaaDoor
open Go.RowKit
set_option linter.unusedVariables false
/-- A token as plain data. -/
structure Tk where
  k : Int
  s : ByteArray
def tkc (t : Tk) : List Value := [.int .i64 t.k, .string t.s]
def tkcs (l : List Tk) : List Value := l.flatMap tkc
theorem tkc_len (t : Tk) : (tkc t).length = 2 := rfl
theorem tkcs_len (l : List Tk) : (tkcs l).length = l.length * 2 := by
  induction l with
  | nil => rfl
  | cons x l ih => rw [tkcs, List.flatMap_cons, List.length_append, tkc_len, ← tkcs, ih, List.length_cons]; omega
theorem tkcs_append (l l' : List Tk) : tkcs (l ++ l') = tkcs l ++ tkcs l' := List.flatMap_append
theorem tkcs_one (t : Tk) : tkcs [t] = [.int .i64 t.k, .string t.s] := rfl
theorem tkc_ones (l : List Tk) : ∀ u ∈ tkcs l, u.oneCell' = true := by
  intro u hu
  obtain ⟨t, _, ht⟩ := List.mem_flatMap.1 hu
  simp only [tkc, List.mem_cons, List.not_mem_nil, or_false] at ht
  rcases ht with rfl | rfl <;> rfl
def wTk (s : ByteArray) : Tk := ⟨1, s⟩
def pTk (k : Int) : Tk := ⟨k, ⟨#[]⟩⟩
def heads : List ByteArray := [⟨#[]⟩, ⟨#[]⟩, ⟨#[114, 101, 112, 101, 97, 116]⟩, ⟨#[97, 100, 106, 111, 105, 110, 116]⟩, ⟨#[99, 111, 110, 116, 114, 111, 108]⟩, ⟨#[97, 110, 99, 105, 108, 108, 97]⟩, ⟨#[109, 101, 97, 115, 117, 114, 101]⟩, ⟨#[105, 102]⟩]
def headW (k : Int) (word : ByteArray) : ByteArray := if k = 1 then word else heads.getD k.toNat ⟨#[]⟩
/-- The tokens of one statement, those of its body given. -/
def toks1 (h : SH) (body : List Tk) : List Tk :=
  [wTk (headW h.k h.word)] ++ (if h.k = 2 then [wTk (dig h.count)] else []) ++ h.args.map wTk ++ (if h.k = 1 ∨ h.k = 6 then [pTk 2] else [pTk 3] ++ body ++ [pTk 4])
/-- The tokens of a list of statements. -/
def toksT : (d : Nat) → List (Tr d) → List Tk
  | 0, _ => []
  | d + 1, l => l.flatMap fun s => toks1 (hdT s) (toksT d (bdT s))
theorem info_TkE : (Tryd.prog.info? 85).map (fun i => (i.zero, i.size, i.bytes)) = some (some (.agg #[.int .i64 0, .string ⟨#[]⟩]), 2, 24) := by kernel_rfl
set_option maxRecDepth 100000 in
theorem word_any (s : ByteArray) (w : World) : Calls Tryd.prog 71 #[.string s] w fun e w' => e = .returned (.agg #[.int .i64 1, .string s]) ∧ Below w.heap.size w w' ∧ w.heap.size ≤ w'.heap.size := by
  go_enter Tryd.func71, Tryd.ntmps71
  go_wp2
  exact bodyPost_ret (v := .agg #[.int .i64 1, .string s]) (by simp [results, Tryd.results71, go_sem]) rfl ⟨rfl, (by repeat (first | exact Below.refl _ _ | assumption | (refine Below.trans ?_ (Below.mono (by assumption) (by first | omega | (simp; done) | (simp; omega)))) | (with_reducible refine Below.drew ?_) | (with_reducible refine Below.alloc ?_ (by first | omega | (simp; done) | (simp; omega)) _) | (with_reducible refine Below.setCell ?_ (by first | omega | (simp; done) | (simp; omega)) _))), (by first | omega | (simp; done) | (simp; omega))⟩
set_option maxRecDepth 100000 in
theorem l19Word_any (s : ByteArray) (w : World) : Calls Tryd.prog 63 #[.string s] w fun e w' => e = .returned (.agg #[.int .i64 1, .string s]) ∧ Below w.heap.size w w' ∧ w.heap.size ≤ w'.heap.size := by
  go_enter Tryd.func63, Tryd.ntmps63
  go_wp2
  exact bodyPost_ret (v := .agg #[.int .i64 1, .string s]) (by simp [results, Tryd.results63, go_sem]) rfl ⟨rfl, (by repeat (first | exact Below.refl _ _ | assumption | (refine Below.trans ?_ (Below.mono (by assumption) (by first | omega | (simp; done) | (simp; omega)))) | (with_reducible refine Below.drew ?_) | (with_reducible refine Below.alloc ?_ (by first | omega | (simp; done) | (simp; omega)) _) | (with_reducible refine Below.setCell ?_ (by first | omega | (simp; done) | (simp; omega)) _))), (by first | omega | (simp; done) | (simp; omega))⟩
end Go.Proofs.YtijocafindbebaaDoor
