/- What a tied card's proof wants beside a plain row's: the laid table read off the condition; the variables read the same behind a call. -/
import Derived.Test.YtijocafindbebaaDoorTie
import Derived.Test.YtijocafindbebaaDoorCards
import Derived.Test.YtijocafindbebaaDoorFrame
import Derived.Test.YtijocafindbebaaDoorGN
import Derived.LaidMore
import Derived.LaidLaws
import Derived.MakeChecks
import Derived.ChangeVars
import Derived.SliceStrings
import Derived.SevenTiedAt
import Derived.Stop.Joined
namespace Go.Proofs.YtijocafindbebaaDoor
open Go.ChangeShapes Go.WideShapes Go.ChangeAt Go.RowKit Go.Deep
set_option linter.unusedVariables false
set_option maxRecDepth 100000
theorem gNames : Tryd.prog.globalNamed "loop.example/g00506/impl.gateNames" = some 0 := by kernel_rfl
theorem tNames : (Tryd.prog.globals[0]?).map (·.type) = some 22 := by kernel_rfl
theorem cellsStr : Tryd.prog.cellsOf 9 = 1 := by kernel_rfl
theorem toList_inj {a b : ByteArray} (h : a.data.toList = b.data.toList) : a = b := by
  cases a
  cases b
  simp_all
theorem of_map_eq : ∀ {l l' : List ByteArray}, l.map (fun s => s.data.toList) = l'.map (fun s => s.data.toList) → l = l'
  | [], [], _ => rfl
  | [], _ :: _, h => by simp at h
  | _ :: _, [], h => by simp at h
  | a :: l, b :: l', h => by
    simp only [List.map_cons, List.cons.injEq] at h
    rw [toList_inj h.1, of_map_eq h.2]
theorem lits_inj : ∀ {l : List ByteArray} {l' : List (List UInt8)}, (l.map fun s => (.lit (.string s.data.toList) : DataW Unit)) = l'.map (fun s => .lit (.string s)) → l.map (fun s => s.data.toList) = l'
  | [], [], _ => rfl
  | [], _ :: _, h => by simp at h
  | _ :: _, [], h => by simp at h
  | a :: l, b :: l', h => by
    simp only [List.map_cons, List.cons.injEq, DataW.lit.injEq, Lit.string.injEq] at h
    rw [List.map_cons, h.1, lits_inj h.2]
theorem gn_of_cell {W : World} {fuel : Nat} {cs : Array Value} {p : List MemPlace} (hv : W.var? Tryd.prog "loop.example/g00506/impl.gateNames" = some cs)
    (hd : DataW.trod (fun _ => ()) Tryd.prog W 0 (fun _ => true) false fuel 22 cs.toList = some (Rows.laid_loop_example_g00506_impl_gateNames, p)) : GN W := by
  rcases Go.ChangeShapes.open_strings Tryd.underlying22 Tryd.underlying9 cellsStr hd with ⟨_, hx⟩ | ⟨a, len, cap, ss, hcs, _, hl, hm, hlen, hx, hcell, _⟩
  · simp [Rows.laid_loop_example_g00506_impl_gateNames] at hx
  · have h1 : (Rows.laid_loop_example_g00506_impl_gateNames : DataW Unit) = .slice (Go.ChangeShapes.strs (ss.take len)) (Go.ChangeShapes.strs (ss.drop len)) := by rw [Prod.mk.injEq] at hx; exact hx.1
    have h2 : (Rows.laid_loop_example_g00506_impl_gateNames : DataW Unit) = .slice (gnames.map fun s => .lit (.string s)) [] := rfl
    rw [h2, DataW.slice.injEq] at h1
    have h3 := lits_inj h1.1.symm
    have h4 : ss.take len = gstrs := of_map_eq (by rw [h3]; rfl)
    have h5 : len = 13 := by
      have h6 := congrArg List.length h4
      rw [List.length_take] at h6
      have h7 : gstrs.length = 13 := rfl
      simp at hlen
      omega
    subst h5
    have hss : ss.length = cap := by simpa using hlen
    have hat : ∀ j u, (Go.Proofs.YtijocafindbebaaDoor.strs gstrs)[j]? = some u → W.cell? (a.add j) = some u := by
      intro j u hu
      simp only [Go.Proofs.YtijocafindbebaaDoor.strs, List.getElem?_map] at hu
      obtain ⟨s, hs, rfl⟩ := Option.map_eq_some_iff.1 hu
      rw [← h4] at hs
      have hj : j < 13 := by have := (List.getElem?_eq_some_iff.1 hs).1; rw [List.length_take] at this; omega
      rw [List.getElem?_take, if_pos hj] at hs
      rw [hcell j (by omega)]
      simp [List.getD_eq_getElem?_getD, hs]
    have hc0 := hat 0 (.string (gstr 0)) rfl
    obtain ⟨b, off, spot⟩ := a
    have hspot : spot = none := by simpa [Addr.add] using World.cell?_spot hc0
    subst hspot
    have hg : W.cell? ⟨0, 0, none⟩ = some (.slice (some ⟨b, off, none⟩) 13 cap) := by
      have := World.var?_cell gNames hv 0
      rw [Array.eq_one_of_toList hcs] at this
      simpa using this
    refine ⟨some ⟨b, off, none⟩, cap, hg, block_of_cell hg, rfl, fun _ => ⟨b, off, rfl, by simpa [Addr.add] using block_of_cell hc0, fun j u hu => ?_⟩⟩
    have := hat j u hu
    rwa [add_plain] at this
theorem gn_of_laid1 {W : World} (h : laidMetH Tryd.prog [("loop.example/g00506/impl.gateNames", Rows.laid_loop_example_g00506_impl_gateNames)] W) : GN W := by
  rw [MakeChecks.laidMetH_plain _ _ _ (by kernel_rfl)] at h
  obtain ⟨ps, ⟨g0, t0, cs0, f0, p0, q0, hg0, ht0, hv0, hd0, _⟩, _⟩ := h
  obtain rfl := Option.some.inj (gNames.symm.trans hg0)
  obtain rfl := Option.some.inj (tNames.symm.trans ht0)
  exact gn_of_cell hv0 hd0
section
variable {H : Type} {enc : TypeId × Value → H}
theorem vars_stay {W W' : World} (hl : laidOutB Tryd.prog = true) (hr : Tryd.prog.readableRec 22 = true ∧ 22 < Tryd.prog.types.size) {gs : List (DataW H)} {q : List MemPlace} (h : DataW.TrodVars enc Tryd.prog W (fun _ => true) ["loop.example/g00506/impl.gateNames"] gs q) (hlt : ∀ x ∈ q, x.block < W.heap.size) (hb : Below W.heap.size W W') (hgn : 0 < W.heap.size) :
    ∃ d, gs = [d] ∧ ∀ sp : Nat → Bool, (∀ x ∈ q, sp x.block = true) → DataW.TrodVars enc Tryd.prog W' sp ["loop.example/g00506/impl.gateNames"] [d] q := by
  obtain ⟨g, t, cs, fuel, d, p, rfl, hg, ht, hv, hd, rfl⟩ := trodVars_one h
  obtain rfl := Option.some.inj (gNames.symm.trans hg)
  obtain rfl := Option.some.inj (tNames.symm.trans ht)
  refine ⟨d, rfl, fun sp hsp => ?_⟩
  have hv' : W'.var? Tryd.prog "loop.example/g00506/impl.gateNames" = some cs := by
    simp only [World.var?, gNames, Option.bind_some] at hv ⊢
    rw [hb.block _ hgn]
    exact hv
  obtain ⟨v, hcs⟩ : ∃ v, cs.toList = [v] := by
    rcases open_slice Tryd.underlying22 hd with ⟨h0, _⟩ | ⟨a, len, cap, m, n, D, Pl, hcs, _⟩
    · exact ⟨_, h0⟩
    · exact ⟨_, hcs⟩
  have h1 : DataW.Trod enc Tryd.prog W 0 (fun _ => true) true 22 v d p := ⟨fuel, by
    have e : v.cells.toList = [v] := by
      rcases open_slice Tryd.underlying22 hd with ⟨h0, _⟩ | ⟨a, len, cap, m, n, D, Pl, h0, _⟩
      · rw [hcs] at h0; injection h0 with h0 _; subst h0; rfl
      · rw [hcs] at h0; injection h0 with h0 _; subst h0; rfl
    rw [e, ← hcs]
    exact hd⟩
  have h2 := WideElems.Trod_stays (sp' := sp) hl hr.1 hr.2 h1 (fun x hx => hb.same (hlt x (by simp [hx]))) (fun x hx => hsp x (by simp [hx]))
  obtain ⟨fuel', hf⟩ := h2
  have e : v.cells.toList = [v] := by
    rcases open_slice Tryd.underlying22 hd with ⟨h0, _⟩ | ⟨a, len, cap, m, n, D, Pl, h0, _⟩
    · rw [hcs] at h0; injection h0 with h0 _; subst h0; rfl
    · rw [hcs] at h0; injection h0 with h0 _; subst h0; rfl
  rw [e, ← hcs] at hf
  exact trodVars_mk1 gNames tNames hv' hf
end
theorem strRec : Tryd.prog.readableRec 22 = true ∧ 22 < Tryd.prog.types.size := ⟨by kernel_rfl, of_decide_eq_true (by kernel_rfl)⟩
end Go.Proofs.YtijocafindbebaaDoor
