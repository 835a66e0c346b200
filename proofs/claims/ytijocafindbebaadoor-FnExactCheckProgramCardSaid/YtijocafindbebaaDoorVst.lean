/- Valid statements, as plain data. -/
import Derived.Test.YtijocafindbebaaDoorGN
import Derived.Test.YtijocafindbebaaDoorWord
namespace Go.Proofs.YtijocafindbebaaDoor
open Go.RowKit
set_option linter.unusedVariables false
def okCount (k count : Int) : Bool := if k = 2 then inB count 1 9 else decide (count = 0)
def headV (k : Int) (word : ByteArray) (na : Nat) (count : Int) (bl : Nat) : Bool :=
  inB k 1 7 && (decide (na = nargs k word) && (decide (k ≠ 1 ∨ nargs k word ≠ 0) && (decide (k = 1 ∨ word.toList = []) && (decide (hasB k = true ∨ bl = 0) && okCount k count))))
theorem gkind_empty {word : ByteArray} (h : word.toList = []) : gkind word = 0 := by
  unfold gkind
  rw [h]
  decide
def vRes (k : Int) (word : ByteArray) (args : List ByteArray) (count : Int) (nb : Nat) (rs : List Bool) : Bool := headV k word args.length count nb && (args.all wordOk && rs.all id)
section
variable {k : Int} {word : ByteArray} {args : List ByteArray} {count : Int} {nb : Nat} {rs : List Bool}
theorem vRes_h (h : headV k word args.length count nb = false) : vRes k word args count nb rs = false := by simp [vRes, h]
theorem vRes_w {t : Nat} {s : ByteArray} (hs : args[t]? = some s) (h : wordOk s = false) : vRes k word args count nb rs = false := by
  have : args.all wordOk = false := by
    rw [List.all_eq_false]
    exact ⟨s, List.mem_of_getElem? hs, by simp [h]⟩
  simp [vRes, this]
theorem vRes_b {t : Nat} (hs : rs[t]? = some false) : vRes k word args count nb rs = false := by
  have : rs.all id = false := by
    rw [List.all_eq_false]
    exact ⟨false, List.mem_of_getElem? hs, by simp⟩
  simp [vRes, this]
theorem vRes_t (h1 : headV k word args.length count nb = true) (h2 : args.all wordOk = true) (h3 : rs.all id = true) : vRes k word args count nb rs = true := by rw [vRes, h1, h2, h3]; rfl
end
theorem all_take {α : Type} (p : α → Bool) {l : List α} {t : Nat} {x : α} (h : l[t]? = some x) : (l.take (t + 1)).all p = ((l.take t).all p && p x) := by
  rw [List.take_add_one, h]
  simp
/-- The statements of a body, and what is answered of each. -/
def Elts (f : Nat) (w : World) (Ab : Option Addr) (nb : Nat) (rs : List Bool) : Prop := ∀ t, t < nb → ∃ (b off : Nat) (k : Int) (wd : ByteArray) (Aa : Option Addr) (na ca : Nat) (ct : Int) (Ab' : Option Addr) (nb' cb' : Nat) (r : Bool),
  Ab = some ⟨b, off, none⟩ ∧ b < w.heap.size ∧ (w.cell? ⟨b, off + t * 5, none⟩ = some (.int .i64 k) ∧ w.cell? ⟨b, off + t * 5 + 1, none⟩ = some (.string wd) ∧ w.cell? ⟨b, off + t * 5 + 2, none⟩ = some (.slice Aa na ca) ∧ w.cell? ⟨b, off + t * 5 + 3, none⟩ = some (.int .i64 ct) ∧ w.cell? ⟨b, off + t * 5 + 4, none⟩ = some (.slice Ab' nb' cb')) ∧
  rs[t]? = some r ∧ ∀ w', Below w.heap.size w w' → Calls Tryd.prog f #[.agg #[.int .i64 k, .string wd, .slice Aa na ca, .int .i64 ct, .slice Ab' nb' cb']] w' fun e w'' => e = .returned (.bool r) ∧ Below w'.heap.size w' w'' ∧ w'.heap.size ≤ w''.heap.size
def vOne (d : Nat) (vt : List (Tr d) → Bool) (h : SH) (bd : List (Tr d)) : Bool := headV h.k h.word h.args.length h.count bd.length && (h.args.all wordOk && vt bd)
/-- Are all statements of a list valid? -/
def validT : (d : Nat) → List (Tr d) → Bool
  | 0, _ => true
  | d + 1, l => l.all fun s => vOne d (validT d) (hdT s) (bdT s)
theorem vRes_one {d : Nat} {k : Int} {word : ByteArray} {args : List ByteArray} {count : Int} {bd : List (Tr d)} {rs : List Bool} (h : rs.all id = validT d bd) : vRes k word args count bd.length rs = vOne d (validT d) ⟨k, word, args, count⟩ bd := by
  simp only [vRes, vOne, h]
theorem rs_valid {d : Nat} (l : List (Tr (d + 1))) : (l.map fun s => vOne d (validT d) (hdT s) (bdT s)).all id = validT (d + 1) l := by simp [validT, List.all_map]
end Go.Proofs.YtijocafindbebaaDoor
