/- The laws' statements, read as plain data. -/
import Derived.Test.YtijocafindbebaaDoorOpen
import Derived.Test.YtijocafindbebaaDoorTreeSz
namespace Go.Proofs.YtijocafindbebaaDoor
open Go.ChangeShapes Go.WideShapes Go.RowKit Go.Deep
theorem list5 {α : Type} {l : List α} (h : l.length = 5) : ∃ a b c d e, l = [a, b, c, d, e] := by
  match l, h with
  | [a, b, c, d, e], _ => exact ⟨a, b, c, d, e, rfl⟩
theorem subSz_le {m : Nat} (h : ¬ subSz 1048576 m < 0) : m ≤ 1048576 := by
  unfold subSz at h
  split at h <;> omega
theorem subSz_ge {m : Nat} (h : ¬ subSz 1048576 m < 0) : 0 ≤ subSz 1048576 m := by omega
section
variable {H : Type} {enc : TypeId × Value → H} {P : Program} {w : World} {base : Nat} {spare : Nat → Bool} {held : Bool}
/-- As exists_list, a choice for every index below n. -/
theorem plain_cell {a : Addr} {u : Value} (h : w.cell? a = some u) : ∃ b o, a = ⟨b, o, none⟩ ∧ b < w.heap.size := by
  have hb := block_of_cell h
  obtain ⟨b, off, spot⟩ := a
  have hspot : spot = none := World.cell?_spot h
  subst hspot
  exact ⟨b, off, rfl, hb⟩
theorem cells_int : Tryd.prog.cellsOf 3 = 1 := by kernel_rfl
theorem cells_string : Tryd.prog.cellsOf 9 = 1 := by kernel_rfl
theorem cells_strings : Tryd.prog.cellsOf 22 = 1 := by kernel_rfl
theorem cells_Stmts : Tryd.prog.cellsOf 23 = 1 := by kernel_rfl
theorem cells_Stmt : Tryd.prog.cellsOf 25 = 5 := by kernel_rfl
theorem map_flat (l : List ByteArray) : l.flatMap (fun g => [Value.string g]) = strs l := by
  induction l with
  | nil => rfl
  | cons x l ih => rw [List.flatMap_cons, ih]; rfl
theorem open_strings_c {n : Nat} {v : Value} {y : DataW H × List MemPlace} (h : DataW.trod enc Tryd.prog w base spare held n 22 [v] = some y) :
    ∃ (A : Option Addr) (c : Nat) (l : List ByteArray), v = .slice A l.length c ∧ l.length ≤ maxLen ∧ (∀ a ∈ l, a.size ≤ maxLen) ∧ Rd w 1 A l.length (strs l) ∧ l.length ≤ c := by
  obtain ⟨A, n, c, l, rfl, hn, hc, hl, hr⟩ := rd_of_slice (α := { a : ByteArray // a.size ≤ maxLen }) (cellsf := fun g => [Value.string g.1]) Tryd.underlying22 cells_string (by decide) (fun n cs y h => by
    obtain ⟨s, rfl, _, hs⟩ := DataW.trod_string Tryd.underlying9 h
    exact ⟨⟨s, hs⟩, rfl⟩) (fun _ => rfl) h
  subst hl
  refine ⟨A, c, l.map Subtype.val, by simp, by simp; omega, fun a ha => by obtain ⟨g, _, rfl⟩ := List.mem_map.1 ha; exact g.2, ?_, by simpa using hn⟩
  have e : l.flatMap (fun g => [Value.string g.1]) = strs (l.map Subtype.val) := by
    clear hr hn h
    induction l with
    | nil => rfl
    | cons x l ih => rw [List.flatMap_cons, ih]; rfl
  rw [e] at hr
  simpa using hr
theorem open_strings {n : Nat} {v : Value} {y : DataW H × List MemPlace} (h : DataW.trod enc Tryd.prog w base spare held n 22 [v] = some y) :
    ∃ (A : Option Addr) (c : Nat) (l : List ByteArray), v = .slice A l.length c ∧ l.length ≤ maxLen ∧ (∀ a ∈ l, a.size ≤ maxLen) ∧ Rd w 1 A l.length (strs l) := by
  obtain ⟨A, c, l, h1, h2, h3, h4, _⟩ := open_strings_c h
  exact ⟨A, c, l, h1, h2, h3, h4⟩
/-- One statement's cells. -/
theorem open_stmt {n : Nat} {cs : List Value} {y : DataW H × List MemPlace} (h : DataW.trod enc Tryd.prog w base spare held n 25 cs = some y) :
    ∃ (k : Int) (word : ByteArray) (v2 : Value) (count : Int) (v4 : Value) (m : Nat) (y2 y4 : DataW H × List MemPlace), cs = [.int .i64 k, .string word, v2, .int .i64 count, v4] ∧ n = m + 1 ∧ word.size ≤ maxLen ∧
      DataW.trod enc Tryd.prog w base spare held m 22 [v2] = some y2 ∧ DataW.trod enc Tryd.prog w base spare held m 23 [v4] = some y4 := by
  obtain ⟨ys, m, hm, _, hl, hyl, hf⟩ := DataW.trod_struct Tryd.underlying25 h
  rw [cells_Stmt] at hl
  obtain ⟨c0, c1, c2, c3, c4, rfl⟩ := list5 hl
  obtain ⟨y0, y1, y2, y3, y4, rfl⟩ := list5 hyl
  have f0 := hf 0 _ rfl
  change DataW.trod enc Tryd.prog w base spare held m 3 (([c0, c1, c2, c3, c4].drop 0).take (Tryd.prog.cellsOf 3)) = some y0 at f0
  have f1 := hf 1 _ rfl
  change DataW.trod enc Tryd.prog w base spare held m 9 (([c0, c1, c2, c3, c4].drop 1).take (Tryd.prog.cellsOf 9)) = some y1 at f1
  have f2 := hf 2 _ rfl
  change DataW.trod enc Tryd.prog w base spare held m 22 (([c0, c1, c2, c3, c4].drop 2).take (Tryd.prog.cellsOf 22)) = some y2 at f2
  have f3 := hf 3 _ rfl
  change DataW.trod enc Tryd.prog w base spare held m 3 (([c0, c1, c2, c3, c4].drop 3).take (Tryd.prog.cellsOf 3)) = some y3 at f3
  have f4 := hf 4 _ rfl
  change DataW.trod enc Tryd.prog w base spare held m 23 (([c0, c1, c2, c3, c4].drop 4).take (Tryd.prog.cellsOf 23)) = some y4 at f4
  rw [cells_int] at f0 f3
  rw [cells_string] at f1
  rw [cells_strings] at f2
  rw [cells_Stmts] at f4
  obtain ⟨k, e0, _, _⟩ := DataW.trod_int Tryd.underlying3 f0
  obtain ⟨wd, e1, _, hw⟩ := DataW.trod_string Tryd.underlying9 f1
  obtain ⟨ct, e3, _, _⟩ := DataW.trod_int Tryd.underlying3 f3
  simp at e0 e1 e3
  subst e0 e1 e3
  exact ⟨k, wd, c2, ct, c4, m, y2, y4, rfl, hm, hw, f2, f4⟩
/-- A slice of statements that can be read, as a list of trees. -/
theorem open_stmts : ∀ (d f : Nat), f ≤ d → ∀ (v : Value) (y : DataW H × List MemPlace), DataW.trod enc Tryd.prog w base spare held f 23 [v] = some y →
    ∃ (A : Option Addr) (n c : Nat) (l : List (Tr d)), v = .slice A n c ∧ n ≤ c ∧ c ≤ maxLen ∧ RdT w 0 d A n l ∧ OkT d l := by
  intro d
  induction d with
  | zero =>
    intro f hf v y h
    obtain rfl : f = 0 := by omega
    simp [DataW.trod] at h
  | succ d ih =>
    intro f hf v y h
    rcases DataW.trod_slice Tryd.underlying23 h with ⟨h0, _⟩ | ⟨a, len, cap, elems, rest, n, hfn, hcs, _, hb, hl, hm, hlen, hel, _, _⟩
    · simp at h0
      subst h0
      exact ⟨none, 0, 0, [], rfl, Nat.le_refl _, Nat.zero_le _, ⟨rfl, fun h => absurd h (by omega)⟩, ⟨by simp, by simp⟩⟩
    · simp at hcs
      subst hcs
      obtain ⟨l, hll, hp⟩ := exists_list (n := len) (p := fun i (s : Tr (d + 1)) => (∃ Aa ca Ab nb cb, w.cells? base (a.add (i * 5)) 5 = some [.int .i64 (hdT s).k, .string (hdT s).word, .slice Aa (hdT s).args.length ca, .int .i64 (hdT s).count, .slice Ab nb cb] ∧
          RdL w 0 1 Aa (hdT s).args.length (strs (hdT s).args) ∧ RdT w 0 d Ab nb (bdT s) ∧ (hdT s).args.length ≤ ca) ∧ (hdT s).word.size ≤ 9223372036854775807 ∧ (hdT s).args.length ≤ 9223372036854775807 ∧ (∀ a ∈ (hdT s).args, a.size ≤ 9223372036854775807) ∧ OkT d (bdT s)) (fun i hi => by
        have h1 := hel i hi
        rw [List.getElem?_eq_getElem (by omega), cells_Stmt] at h1
        obtain ⟨cs', hc, ht'⟩ := Option.bind_eq_some_iff.1 h1
        obtain ⟨k, wd, v2, ct, v4, m, y2, y4, rfl, hm', hw, t2, t4⟩ := open_stmt ht'
        obtain ⟨Aa, ca, args, rfl, ha, hs, hr, hcap⟩ := open_strings_c t2
        obtain ⟨Ab, nb, cb, bd, rfl, _, _, hrb, hok⟩ := ih m (by omega) v4 y4 t4
        exact ⟨mkT ⟨k, wd, args, ct⟩ bd, ⟨Aa, ca, Ab, nb, cb, hc, hr.rdl, hrb, hcap⟩, hw, ha, hs, hok⟩)
      refine ⟨some a, len, cap, l, rfl, hl, hm, ⟨hll, fun h0 => ?_⟩, ⟨by have : maxLen = 9223372036854775807 := rfl; omega, fun s hs => ?_⟩⟩
      · have hcells : ∀ (i : Nat) (s : Tr (d + 1)), l[i]? = some s → ∃ Aa ca Ab nb cb, (∀ j u, ([.int .i64 (hdT s).k, .string (hdT s).word, .slice Aa (hdT s).args.length ca, .int .i64 (hdT s).count, .slice Ab nb cb] : List Value)[j]? = some u → w.cell? (a.add (i * 5 + j)) = some u) ∧
            RdL w 0 1 Aa (hdT s).args.length (strs (hdT s).args) ∧ RdT w 0 d Ab nb (bdT s) ∧ (hdT s).args.length ≤ ca := by
          intro i s hi
          obtain ⟨⟨Aa, ca, Ab, nb, cb, hc, h2, h3, h4'⟩, _⟩ := hp i s hi
          refine ⟨Aa, ca, Ab, nb, cb, fun j u hu => ?_, h2, h3, h4'⟩
          obtain ⟨_, _, hat⟩ := World.cells?_some hc
          have hj : j < 5 := by
            have := (List.getElem?_eq_some_iff.1 hu).1
            simpa using this
          have h4 := hat j hj
          rw [Go.Deep.add_add, hu] at h4
          exact h4
        obtain ⟨s0, hs0⟩ : ∃ s, l[0]? = some s := ⟨_, List.getElem?_eq_getElem (by omega)⟩
        obtain ⟨_, _, _, _, _, hc0, _, _, _⟩ := hcells 0 s0 hs0
        have hc00 := hc0 0 _ rfl
        obtain ⟨b, off, spot⟩ := a
        have hspot : spot = none := by simpa [Addr.add] using World.cell?_spot hc00
        subst hspot
        refine ⟨b, off, rfl, Nat.zero_le _, by simpa [Addr.add] using block_of_cell hc00, fun i s hi => ?_⟩
        obtain ⟨Aa, ca, Ab, nb, cb, hc, h2, h3, h4⟩ := hcells i s hi
        refine ⟨Aa, ca, Ab, nb, cb, ⟨?_, ?_, ?_, ?_, ?_⟩, h2, h3, h4⟩
        · have := hc 0 _ rfl; rwa [add_plain] at this
        · have := hc 1 _ rfl; rwa [add_plain] at this
        · have := hc 2 _ rfl; rwa [add_plain] at this
        · have := hc 3 _ rfl; rwa [add_plain] at this
        · have := hc 4 _ rfl; rwa [add_plain] at this
      · obtain ⟨i, hi⟩ := List.getElem?_of_mem hs
        exact (hp i s hi).2
end
end Go.Proofs.YtijocafindbebaaDoor
