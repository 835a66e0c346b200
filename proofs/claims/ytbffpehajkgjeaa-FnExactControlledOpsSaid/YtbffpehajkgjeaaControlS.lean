/- The controlled version of a list of gates: the program's function and the reference's return the same list. -/
import Derived.Test.YtbffpehajkgjeaaControl
import Derived.Test.YtbffpehajkgjeaaDecomposeS
namespace Go.Proofs.Ytbffpehajkgjeaa
open Go.RowKit
set_option linter.unusedVariables false
def cgL (q : Int) (g : Gt) : List Gt := (cgate q g).getD []
def cgB (q : Int) (g : Gt) : Bool := (cgate q g).isSome
theorem cgl_len {q : Int} {g : Gt} {L : List Gt} (h : cgl q g = some L) : L.length ≤ 7 := by
  obtain ⟨k, a, b, c⟩ := g
  simp only [cgl] at h
  repeat' (split at h)
  all_goals (cases h; try simp)
theorem cgL_len (q : Int) (g : Gt) : (cgL q g).length ≤ 7 := by
  unfold cgL cgate
  split
  · cases h : cgl q g with
    | none => simp
    | some L => exact cgl_len h
  · simp
theorem ControlledGate_impl2 (q k a b c : Int) (w : World) : Calls Try.prog 71 #[.int .i64 q, .agg #[.int .i64 k, .int .i64 a, .int .i64 b, .int .i64 c]] w
    (RetRow2 46 4 w (cgB q ⟨k, a, b, c⟩) (cgL q ⟨k, a, b, c⟩).length ((cgL q ⟨k, a, b, c⟩).flatMap gcells)) := ControlledGate_impl q k a b c w
theorem ControlledGate_spec2 (q k a b c : Int) (w : World) : Calls Try.prog 68 #[.int .i64 q, .agg #[.int .i64 k, .int .i64 a, .int .i64 b, .int .i64 c]] w
    (RetRow2 46 4 w (cgB q ⟨k, a, b, c⟩) (cgL q ⟨k, a, b, c⟩).length ((cgL q ⟨k, a, b, c⟩).flatMap gcells)) := ControlledGate_spec q k a b c w
/-- The gates of a controlled list, where each gate has some. -/
def cgs (q : Int) : List Gt → Option (List Gt)
  | [] => some []
  | g :: l => if cgB q g then (cgs q l).map (cgL q g ++ ·) else none
def csB (q : Int) (l : List Gt) : Bool := (cgs q l).isSome
def csL (q : Int) (l : List Gt) : List Gt := (cgs q l).getD []
theorem cgs_len {q : Int} : ∀ {l : List Gt} {L : List Gt}, cgs q l = some L → L.length ≤ l.length * 7 := by
  intro l
  induction l with
  | nil => intro L h; simp [cgs] at h; subst h; simp
  | cons g l ih =>
    intro L h
    simp only [cgs] at h
    split at h
    · rw [Option.map_eq_some_iff] at h
      obtain ⟨M, h1, rfl⟩ := h
      have := ih h1
      have := cgL_len q g
      simp only [List.length_append, List.length_cons]
      omega
    · cases h
theorem cgs_snoc {q : Int} {g : Gt} (hk : cgB q g = true) : ∀ {l : List Gt} {L : List Gt}, cgs q l = some L → cgs q (l ++ [g]) = some (L ++ cgL q g) := by
  intro l
  induction l with
  | nil => intro L h; simp [cgs] at h; subst h; simp [cgs, hk]
  | cons x l ih =>
    intro L h
    simp only [cgs] at h
    split at h
    · rename_i hx
      rw [Option.map_eq_some_iff] at h
      obtain ⟨M, h1, rfl⟩ := h
      simp only [List.cons_append, cgs, hx, if_true, ih h1, Option.map_some, List.append_assoc]
    · cases h
theorem cgs_step {q : Int} {l L : List Gt} {t : Nat} {g : Gt} (h : cgs q (l.take t) = some L) (hg : l[t]? = some g) (hk : cgB q g = true) : cgs q (l.take (t + 1)) = some (L ++ cgL q g) := by
  rw [List.take_add_one, hg]
  exact cgs_snoc hk h
theorem cs_none {q : Int} {t : Nat} {g : Gt} : ∀ {l : List Gt}, l[t]? = some g → cgB q g = false → csB q l = false ∧ csL q l = [] := by
  have key : ∀ {l : List Gt} {t : Nat}, l[t]? = some g → cgB q g = false → cgs q l = none := by
    intro l
    induction l with
    | nil => intro t h; simp at h
    | cons x l ih =>
      intro t h hk
      cases t with
      | zero => simp at h; subst h; simp [cgs, hk]
      | succ t =>
        simp only [cgs]
        split
        · rw [ih (by simpa using h) hk]; rfl
        · rfl
  intro l h hk
  exact ⟨by rw [csB, key h hk]; rfl, by rw [csL, key h hk]; rfl⟩
theorem csL_le (q : Int) (l : List Gt) : (csL q l).length ≤ l.length * 7 := by
  unfold csL
  cases h : cgs q l with
  | none => simp
  | some L => exact cgs_len h
end Go.Proofs.Ytbffpehajkgjeaa
