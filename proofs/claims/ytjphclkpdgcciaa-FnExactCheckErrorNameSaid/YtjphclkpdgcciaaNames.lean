/- The names of check errors and of syntax errors: the program's text and the reference's text are the same, for every code. -/
import Derived.Test.YtjphclkpdgcciaaIn
namespace Go.Proofs.Ytjphclkpdgcciaa
open Go.RowKit

def checkNames : List (List UInt8) := [[111, 107], [100, 117, 112, 108, 105, 99, 97, 116, 101], [117, 110, 107, 110, 111, 119, 110], [114, 101, 112, 101, 97, 116, 101, 100, 45, 111, 112, 101, 114, 97, 110, 100], [99, 111, 110, 116, 114, 111, 108, 45, 105, 110, 45, 117, 115, 101], [116, 111, 111, 45, 109, 97, 110, 121, 45, 113, 117, 98, 105, 116, 115], [110, 101, 115, 116, 101, 100], [117, 110, 115, 101, 116, 45, 98, 105, 116], [116, 111, 111, 45, 109, 97, 110, 121, 45, 98, 105, 116, 115], [110, 111, 116, 45, 99, 111, 110, 116, 114, 111, 108, 108, 97, 98, 108, 101]]
def checkName (n : Int) : List UInt8 := if inB n 0 9 then checkNames.getD n.toNat [] else [63]
theorem checkName_out {n : Int} (h : inB n 0 9 = false) : checkName n = [63] := by simp [checkName, h]
theorem in09 {n : Int} (h : inB n 0 9 = true) : n = 0 ∨ n = 1 ∨ n = 2 ∨ n = 3 ∨ n = 4 ∨ n = 5 ∨ n = 6 ∨ n = 7 ∨ n = 8 ∨ n = 9 := by
  have := inB_iff.1 h; omega
set_option maxHeartbeats 1000000 in
theorem CheckErrorName_impl (n : Int) (w : World) : Calls Try.prog 16 #[.int .i64 n] w fun e w' => e = .returned (.string ⟨(checkName n).toArray⟩) ∧ Below w.heap.size w w' := by
  cases hb : inB n 0 9
  · rw [checkName_out hb]
    go_enter Try.func16, Try.ntmps16
    go_wp2_with (go_at_call 55; refine (in_any _ _ _ _).mono ?_; rintro e w' ⟨rfl, rfl⟩)
    go_ret
    exact ⟨rfl, Below.refl _ _⟩
  · rcases in09 hb with rfl | rfl | rfl | rfl | rfl | rfl | rfl | rfl | rfl | rfl
    all_goals
      go_enter Try.func16, Try.ntmps16
      go_wp2_with (go_at_call 55; refine (in_any _ _ _ _).mono ?_; rintro e w' ⟨rfl, rfl⟩)
      go_ret
      exact ⟨rfl, (Below.refl _ _).alloc (Nat.le_refl _) _⟩
set_option maxHeartbeats 1000000 in
theorem CheckErrorName_spec (n : Int) (w : World) : Calls Try.prog 15 #[.int .i64 n] w fun e w' => e = .returned (.string ⟨(checkName n).toArray⟩) ∧ Below w.heap.size w w' := by
  cases hb : inB n 0 9
  · rw [checkName_out hb]
    go_enter Try.func15, Try.ntmps15
    go_wp2_with (go_at_call 54; refine (l1In_any _ _ _ _).mono ?_; rintro e w' ⟨rfl, rfl⟩)
    go_ret
    exact ⟨rfl, Below.refl _ _⟩
  · rcases in09 hb with rfl | rfl | rfl | rfl | rfl | rfl | rfl | rfl | rfl | rfl
    all_goals
      go_enter Try.func15, Try.ntmps15
      go_wp2_with (go_at_call 54; refine (l1In_any _ _ _ _).mono ?_; rintro e w' ⟨rfl, rfl⟩)
      go_ret
      exact ⟨rfl, (Below.refl _ _).alloc (Nat.le_refl _) _⟩
def syntaxNames : List (List UInt8) := [[111, 107], [108, 101, 120, 105, 99, 97, 108], [104, 101, 97, 100, 101, 114], [110, 97, 109, 101], [115, 101, 109, 105, 99, 111, 108, 111, 110], [115, 116, 97, 116, 101, 109, 101, 110, 116], [110, 117, 109, 98, 101, 114], [111, 112, 101, 110, 45, 98, 114, 97, 99, 101], [99, 108, 111, 115, 101, 45, 98, 114, 97, 99, 101], [110, 101, 115, 116, 105, 110, 103], [116, 111, 111, 45, 108, 111, 110, 103]]
def syntaxName (n : Int) : List UInt8 := if inB n 0 10 then syntaxNames.getD n.toNat [] else [63]
theorem syntaxName_out {n : Int} (h : inB n 0 10 = false) : syntaxName n = [63] := by simp [syntaxName, h]
theorem in010 {n : Int} (h : inB n 0 10 = true) : n = 0 ∨ n = 1 ∨ n = 2 ∨ n = 3 ∨ n = 4 ∨ n = 5 ∨ n = 6 ∨ n = 7 ∨ n = 8 ∨ n = 9 ∨ n = 10 := by
  have := inB_iff.1 h; omega
set_option maxHeartbeats 1000000 in
theorem SyntaxErrorName_impl (n : Int) (w : World) : Calls Try.prog 18 #[.int .i64 n] w fun e w' => e = .returned (.string ⟨(syntaxName n).toArray⟩) ∧ Below w.heap.size w w' := by
  cases hb : inB n 0 10
  · rw [syntaxName_out hb]
    go_enter Try.func18, Try.ntmps18
    go_wp2_with (go_at_call 55; refine (in_any _ _ _ _).mono ?_; rintro e w' ⟨rfl, rfl⟩)
    go_ret
    exact ⟨rfl, Below.refl _ _⟩
  · rcases in010 hb with rfl | rfl | rfl | rfl | rfl | rfl | rfl | rfl | rfl | rfl | rfl
    all_goals
      go_enter Try.func18, Try.ntmps18
      go_wp2_with (go_at_call 55; refine (in_any _ _ _ _).mono ?_; rintro e w' ⟨rfl, rfl⟩)
      go_ret
      exact ⟨rfl, (Below.refl _ _).alloc (Nat.le_refl _) _⟩
set_option maxHeartbeats 1000000 in
theorem SyntaxErrorName_spec (n : Int) (w : World) : Calls Try.prog 17 #[.int .i64 n] w fun e w' => e = .returned (.string ⟨(syntaxName n).toArray⟩) ∧ Below w.heap.size w w' := by
  cases hb : inB n 0 10
  · rw [syntaxName_out hb]
    go_enter Try.func17, Try.ntmps17
    go_wp2_with (go_at_call 54; refine (l1In_any _ _ _ _).mono ?_; rintro e w' ⟨rfl, rfl⟩)
    go_ret
    exact ⟨rfl, Below.refl _ _⟩
  · rcases in010 hb with rfl | rfl | rfl | rfl | rfl | rfl | rfl | rfl | rfl | rfl | rfl
    all_goals
      go_enter Try.func17, Try.ntmps17
      go_wp2_with (go_at_call 54; refine (l1In_any _ _ _ _).mono ?_; rintro e w' ⟨rfl, rfl⟩)
      go_ret
      exact ⟨rfl, (Below.refl _ _).alloc (Nat.le_refl _) _⟩
end Go.Proofs.Ytjphclkpdgcciaa
