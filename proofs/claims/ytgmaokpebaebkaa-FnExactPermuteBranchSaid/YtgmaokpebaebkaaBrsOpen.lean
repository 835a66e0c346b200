/- The laws' amplitudes, lists of states and branches, read as plain data. -/
import Derived.Test.YtgmaokpebaebkaaOpen
import Derived.Test.YtgmaokpebaebkaaBrs
namespace Go.Proofs.Ytgmaokpebaebkaa
open Go.ChangeShapes Go.WideShapes Go.RowKit Go.Deep
theorem lst2 {α : Type} {l : List α} (h : l.length = 2) : ∃ a b, l = [a, b] := by
  match l, h with
  | [a, b], _ => exact ⟨a, b, rfl⟩
theorem lst4 {α : Type} {l : List α} (h : l.length = 4) : ∃ a b c d, l = [a, b, c, d] := by
  match l, h with
  | [a, b, c, d], _ => exact ⟨a, b, c, d, rfl⟩
theorem lst5 {α : Type} {l : List α} (h : l.length = 5) : ∃ a b c d e, l = [a, b, c, d, e] := by
  match l, h with
  | [a, b, c, d, e], _ => exact ⟨a, b, c, d, e, rfl⟩
section
variable {H : Type} {enc : TypeId × Value → H} {w : World} {base : Nat} {spare : Nat → Bool} {held : Bool}
theorem bcells_int : Try.prog.cellsOf 3 = 1 := by kernel_rfl
theorem bint_of {n : Nat} {v : Value} {y : Option (DataW H × List MemPlace)} (hy : y.isSome = true) (h : DataW.trod enc Try.prog w base spare held n 3 [v] = y) : ∃ a, v = .int .i64 a := by
  obtain ⟨z, hz⟩ := Option.isSome_iff_exists.1 hy
  rw [hz] at h
  obtain ⟨a, e, _, _⟩ := DataW.trod_int Try.underlying3 h
  exact ⟨a, by simpa using e⟩
theorem cells_ZOmega : Try.prog.cellsOf 87 = 4 := by kernel_rfl
theorem trod_ZOmega (n : Nat) (cs : List Value) (y : DataW H × List MemPlace) (h : DataW.trod enc Try.prog w base spare held n 87 cs = some y) : ∃ a b c d : Int, cs = [.int .i64 a, .int .i64 b, .int .i64 c, .int .i64 d] := by
  obtain ⟨ys, m, _, _, hl, hyl, hf⟩ := DataW.trod_struct Try.underlying87 h
  rw [cells_ZOmega] at hl
  obtain ⟨c0, c1, c2, c3, rfl⟩ := lst4 hl
  obtain ⟨y0, y1, y2, y3, rfl⟩ := lst4 hyl
  have f0 := hf 0 _ rfl
  change DataW.trod enc Try.prog w base spare held m 3 (([c0, c1, c2, c3].drop 0).take (Try.prog.cellsOf 3)) = some y0 at f0
  have f1 := hf 1 _ rfl
  change DataW.trod enc Try.prog w base spare held m 3 (([c0, c1, c2, c3].drop 1).take (Try.prog.cellsOf 3)) = some y1 at f1
  have f2 := hf 2 _ rfl
  change DataW.trod enc Try.prog w base spare held m 3 (([c0, c1, c2, c3].drop 2).take (Try.prog.cellsOf 3)) = some y2 at f2
  have f3 := hf 3 _ rfl
  change DataW.trod enc Try.prog w base spare held m 3 (([c0, c1, c2, c3].drop 3).take (Try.prog.cellsOf 3)) = some y3 at f3
  rw [bcells_int] at f0 f1 f2 f3
  obtain ⟨a, rfl⟩ := bint_of rfl f0
  obtain ⟨b, rfl⟩ := bint_of rfl f1
  obtain ⟨c, rfl⟩ := bint_of rfl f2
  obtain ⟨d, rfl⟩ := bint_of rfl f3
  exact ⟨a, b, c, d, rfl⟩
theorem cells_DOmega : Try.prog.cellsOf 89 = 5 := by kernel_rfl
theorem trod_DOmega (n : Nat) (cs : List Value) (y : DataW H × List MemPlace) (h : DataW.trod enc Try.prog w base spare held n 89 cs = some y) : ∃ x : Dm, cs = dcells x := by
  obtain ⟨ys, m, _, _, hl, hyl, hf⟩ := DataW.trod_struct Try.underlying89 h
  rw [cells_DOmega] at hl
  obtain ⟨c0, c1, c2, c3, c4, rfl⟩ := lst5 hl
  obtain ⟨y0, y1, rfl⟩ := lst2 hyl
  have f0 := hf 0 _ rfl
  change DataW.trod enc Try.prog w base spare held m 87 (([c0, c1, c2, c3, c4].drop 0).take (Try.prog.cellsOf 87)) = some y0 at f0
  have f1 := hf 1 _ rfl
  change DataW.trod enc Try.prog w base spare held m 3 (([c0, c1, c2, c3, c4].drop 4).take (Try.prog.cellsOf 3)) = some y1 at f1
  rw [bcells_int] at f1
  rw [cells_ZOmega] at f0
  obtain ⟨a, b, c, d, he⟩ := trod_ZOmega _ _ _ f0
  obtain ⟨e, rfl⟩ := bint_of rfl f1
  simp at he
  obtain ⟨rfl, rfl, rfl, rfl⟩ := he
  exact ⟨⟨a, b, c, d, e⟩, rfl⟩
theorem open_dms {n : Nat} {v : Value} {y : DataW H × List MemPlace} (h : DataW.trod enc Try.prog w base spare held n 79 [v] = some y) :
    ∃ (A : Option Addr) (c : Nat) (l : List Dm), v = .slice A l.length c ∧ l.length ≤ c ∧ c ≤ maxLen ∧ Rd w 5 A l.length (l.flatMap dcells) := by
  obtain ⟨A, n, c, l, rfl, hn, hc, hl, hr⟩ := rd_of_slice (α := Dm) (cellsf := dcells) Try.underlying79 cells_DOmega (by decide) trod_DOmega (fun _ => rfl) h
  subst hl
  exact ⟨A, c, l, rfl, hn, hc, hr⟩
theorem cells_Dms : Try.prog.cellsOf 79 = 1 := by kernel_rfl
theorem slice_form1 {n : Nat} {t e : TypeId} {cs : List Value} {y : DataW H × List MemPlace} (ht : Try.prog.underlying t = some (.slice e)) (h : DataW.trod enc Try.prog w base spare held n t cs = some y) : ∃ v, cs = [v] := by
  rcases open_slice ht h with ⟨h0, _⟩ | ⟨a, len, cap, m, n, D, Pl, hcs, _⟩
  · exact ⟨_, h0⟩
  · exact ⟨_, hcs⟩
theorem open_mat {n : Nat} {v : Value} {y : DataW H × List MemPlace} (h : DataW.trod enc Try.prog w base spare held n 30 [v] = some y) :
    ∃ (A : Option Addr) (c : Nat) (M : List (List Dm)), v = .slice A M.length c ∧ M.length ≤ c ∧ c ≤ maxLen ∧ RdM w A M.length M := by
  obtain ⟨A, n, c, l, rfl, hn, hc, hl, hr⟩ := rd_of_slice (α := { p : Option Addr × Nat × List Dm // p.2.2.length ≤ p.2.1 ∧ p.2.1 ≤ maxLen ∧ Rd w 5 p.1 p.2.2.length (p.2.2.flatMap dcells) })
    (cellsf := fun g => [Value.slice g.1.1 g.1.2.2.length g.1.2.1]) Try.underlying30 cells_Dms (by decide) (fun n cs y h => by
    obtain ⟨v, rfl⟩ := slice_form1 Try.underlying79 h
    obtain ⟨A, c, l, rfl, h1, h2, h3⟩ := open_dms h
    exact ⟨⟨(A, c, l), h1, h2, h3⟩, rfl⟩) (fun _ => rfl) h
  subst hl
  refine ⟨A, c, l.map (fun g => g.1.2.2), by simp, by simpa using hn, hc, _, rfl, by simpa using hr, fun j r hj => ?_⟩
  rw [List.getElem?_map] at hj
  obtain ⟨g, hg, rfl⟩ := Option.map_eq_some_iff.1 hj
  have h1 := flat_at (f := fun g : { p : Option Addr × Nat × List Dm // p.2.2.length ≤ p.2.1 ∧ p.2.1 ≤ maxLen ∧ Rd w 5 p.1 p.2.2.length (p.2.2.flatMap dcells) } => [Value.slice g.1.1 g.1.2.2.length g.1.2.1]) (k := 1) (fun _ => rfl) l j g 0 hg (by decide)
  rw [Nat.mul_one, Nat.add_zero] at h1
  exact ⟨g.1.1, g.1.2.1, h1, g.2.1, g.2.2.1, g.2.2.2⟩
theorem cells_Mat : Try.prog.cellsOf 30 = 1 := by kernel_rfl
theorem cells_Branch : Try.prog.cellsOf 32 = 2 := by kernel_rfl
theorem trod_Branch (n : Nat) (cs : List Value) (y : DataW H × List MemPlace) (h : DataW.trod enc Try.prog w base spare held n 32 cs = some y) :
    ∃ (b : Int) (A : Option Addr) (c : Nat) (M : List (List Dm)), cs = [.int .i64 b, .slice A M.length c] ∧ M.length ≤ c ∧ c ≤ maxLen ∧ RdM w A M.length M := by
  obtain ⟨ys, m, _, _, hl, hyl, hf⟩ := DataW.trod_struct Try.underlying32 h
  rw [cells_Branch] at hl
  obtain ⟨c0, c1, rfl⟩ := lst2 hl
  obtain ⟨y0, y1, rfl⟩ := lst2 hyl
  have f0 := hf 0 _ rfl
  change DataW.trod enc Try.prog w base spare held m 3 (([c0, c1].drop 0).take (Try.prog.cellsOf 3)) = some y0 at f0
  have f1 := hf 1 _ rfl
  change DataW.trod enc Try.prog w base spare held m 30 (([c0, c1].drop 1).take (Try.prog.cellsOf 30)) = some y1 at f1
  rw [bcells_int] at f0
  rw [cells_Mat] at f1
  obtain ⟨b, rfl⟩ := bint_of rfl f0
  obtain ⟨A, c, M, rfl, h1, h2, h3⟩ := open_mat f1
  exact ⟨b, A, c, M, rfl, h1, h2, h3⟩
end
end Go.Proofs.Ytgmaokpebaebkaa
