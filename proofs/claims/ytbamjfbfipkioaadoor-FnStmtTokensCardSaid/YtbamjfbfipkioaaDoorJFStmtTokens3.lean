/- What the calls that this law reaches answer, part 3 of 20. -/
import Derived.Test.YtbamjfbfipkioaaDoorTie
import Derived.Test.YtbamjfbfipkioaaDoorCards
import Derived.Test.YtbamjfbfipkioaaDoorJFStmtTokens1
import Derived.Test.YtbamjfbfipkioaaDoorJFStmtTokens2
import Derived.LaidMore
import Derived.LaidLaws
import Derived.MakeChecks
import Derived.ChangeVars
import Derived.SliceStrings
import Derived.SevenTiedAt
import Derived.Stop.Joined
import Derived.Stop.LaidErr
namespace Go.Proofs.YtbamjfbfipkioaaDoor
open Go.ChangeShapes Go.WideShapes Go.ChangeAt Go.RowKit Go.Deep
set_option linter.unusedVariables false
set_option maxRecDepth 100000
theorem gNames : Tryd.prog.globalNamed "loop.example/g00506/impl.gateNames" = some 0 := by kernel_rfl
theorem tNames : (Tryd.prog.globals[0]?).map (·.type) = some 24 := by kernel_rfl
theorem cellsStr : Tryd.prog.cellsOf 9 = 1 := by kernel_rfl
theorem toList_inj {a b : ByteArray} (h : a.data.toList = b.data.toList) : a = b := by
  cases a
  cases b
  simp_all
theorem of_map_eq : ∀ {l l' : List ByteArray}, l.map (fun s => s.data.toList) = l'.map (fun s => s.data.toList) → l = l'
  | [], [], _ => rfl
  | [], _ :: _, h => by simp at h
  | _ :: _, [], h => by simp at h
  | a :: l, b :: l', h => by
    simp only [List.map_cons, List.cons.injEq] at h
    rw [toList_inj h.1, of_map_eq h.2]
theorem lits_inj : ∀ {l : List ByteArray} {l' : List (List UInt8)}, (l.map fun s => (.lit (.string s.data.toList) : DataW Unit)) = l'.map (fun s => .lit (.string s)) → l.map (fun s => s.data.toList) = l'
  | [], [], _ => rfl
  | [], _ :: _, h => by simp at h
  | _ :: _, [], h => by simp at h
  | a :: l, b :: l', h => by
    simp only [List.map_cons, List.cons.injEq, DataW.lit.injEq, Lit.string.injEq] at h
    rw [List.map_cons, h.1, lits_inj h.2]
theorem gn_of_cell {W : World} {fuel : Nat} {cs : Array Value} {p : List MemPlace} (hv : W.var? Tryd.prog "loop.example/g00506/impl.gateNames" = some cs)
    (hd : DataW.trod (fun _ => ()) Tryd.prog W 0 (fun _ => true) false fuel 24 cs.toList = some (Rows.laid_loop_example_g00506_impl_gateNames, p)) : GN W := by
  rcases Go.ChangeShapes.open_strings Tryd.underlying24 Tryd.underlying9 cellsStr hd with ⟨_, hx⟩ | ⟨a, len, cap, ss, hcs, _, hl, hm, hlen, hx, hcell, _⟩
  · simp [Rows.laid_loop_example_g00506_impl_gateNames] at hx
  · have h1 : (Rows.laid_loop_example_g00506_impl_gateNames : DataW Unit) = .slice (Go.ChangeShapes.strs (ss.take len)) (Go.ChangeShapes.strs (ss.drop len)) := by rw [Prod.mk.injEq] at hx; exact hx.1
    have h2 : (Rows.laid_loop_example_g00506_impl_gateNames : DataW Unit) = .slice (gnames.map fun s => .lit (.string s)) [] := rfl
    rw [h2, DataW.slice.injEq] at h1
    have h3 := lits_inj h1.1.symm
    have h4 : ss.take len = gstrs := of_map_eq (by rw [h3]; rfl)
    have h5 : len = 13 := by
      have h6 := congrArg List.length h4
      rw [List.length_take] at h6
      have h7 : gstrs.length = 13 := rfl
      simp at hlen
      omega
    subst h5
    have hss : ss.length = cap := by simpa using hlen
    have hat : ∀ j u, (Go.Proofs.YtbamjfbfipkioaaDoor.strs gstrs)[j]? = some u → W.cell? (a.add j) = some u := by
      intro j u hu
      simp only [Go.Proofs.YtbamjfbfipkioaaDoor.strs, List.getElem?_map] at hu
      obtain ⟨s, hs, rfl⟩ := Option.map_eq_some_iff.1 hu
      rw [← h4] at hs
      have hj : j < 13 := by have := (List.getElem?_eq_some_iff.1 hs).1; rw [List.length_take] at this; omega
      rw [List.getElem?_take, if_pos hj] at hs
      rw [hcell j (by omega)]
      simp [List.getD_eq_getElem?_getD, hs]
    have hc0 := hat 0 (.string (gstr 0)) rfl
    obtain ⟨b, off, spot⟩ := a
    have hspot : spot = none := by simpa [Addr.add] using World.cell?_spot hc0
    subst hspot
    have hg : W.cell? ⟨0, 0, none⟩ = some (.slice (some ⟨b, off, none⟩) 13 cap) := by
      have := World.var?_cell gNames hv 0
      rw [Array.eq_one_of_toList hcs] at this
      simpa using this
    refine ⟨some ⟨b, off, none⟩, cap, hg, block_of_cell hg, rfl, fun _ => ⟨b, off, rfl, by simpa [Addr.add] using block_of_cell hc0, fun j u hu => ?_⟩⟩
    have := hat j u hu
    rwa [add_plain] at this
theorem gn_of_laid1 {W : World} (h : laidMetH Tryd.prog [("loop.example/g00506/impl.gateNames", Rows.laid_loop_example_g00506_impl_gateNames)] W) : GN W := by
  rw [MakeChecks.laidMetH_plain _ _ _ (by kernel_rfl)] at h
  obtain ⟨ps, ⟨g0, t0, cs0, f0, p0, q0, hg0, ht0, hv0, hd0, _⟩, _⟩ := h
  obtain rfl := Option.some.inj (gNames.symm.trans hg0)
  obtain rfl := Option.some.inj (tNames.symm.trans ht0)
  exact gn_of_cell hv0 hd0
section
variable {H : Type} {enc : TypeId × Value → H}
theorem vars_stay {W W' : World} (hl : laidOutB Tryd.prog = true) (hr : Tryd.prog.readableRec 24 = true ∧ 24 < Tryd.prog.types.size) {gs : List (DataW H)} {q : List MemPlace} (h : DataW.TrodVars enc Tryd.prog W (fun _ => true) ["loop.example/g00506/impl.gateNames"] gs q) (hlt : ∀ x ∈ q, x.block < W.heap.size) (hb : Below W.heap.size W W') (hgn : 0 < W.heap.size) :
    ∃ d, gs = [d] ∧ ∀ sp : Nat → Bool, (∀ x ∈ q, sp x.block = true) → DataW.TrodVars enc Tryd.prog W' sp ["loop.example/g00506/impl.gateNames"] [d] q := by
  obtain ⟨g, t, cs, fuel, d, p, rfl, hg, ht, hv, hd, rfl⟩ := trodVars_one h
  obtain rfl := Option.some.inj (gNames.symm.trans hg)
  obtain rfl := Option.some.inj (tNames.symm.trans ht)
  refine ⟨d, rfl, fun sp hsp => ?_⟩
  have hv' : W'.var? Tryd.prog "loop.example/g00506/impl.gateNames" = some cs := by
    simp only [World.var?, gNames, Option.bind_some] at hv ⊢
    rw [hb.block _ hgn]
    exact hv
  obtain ⟨v, hcs⟩ : ∃ v, cs.toList = [v] := by
    rcases open_slice Tryd.underlying24 hd with ⟨h0, _⟩ | ⟨a, len, cap, m, n, D, Pl, hcs, _⟩
    · exact ⟨_, h0⟩
    · exact ⟨_, hcs⟩
  have h1 : DataW.Trod enc Tryd.prog W 0 (fun _ => true) true 24 v d p := ⟨fuel, by
    have e : v.cells.toList = [v] := by
      rcases open_slice Tryd.underlying24 hd with ⟨h0, _⟩ | ⟨a, len, cap, m, n, D, Pl, h0, _⟩
      · rw [hcs] at h0; injection h0 with h0 _; subst h0; rfl
      · rw [hcs] at h0; injection h0 with h0 _; subst h0; rfl
    rw [e, ← hcs]
    exact hd⟩
  have h2 := WideElems.Trod_stays (sp' := sp) hl hr.1 hr.2 h1 (fun x hx => hb.same (hlt x (by simp [hx]))) (fun x hx => hsp x (by simp [hx]))
  obtain ⟨fuel', hf⟩ := h2
  have e : v.cells.toList = [v] := by
    rcases open_slice Tryd.underlying24 hd with ⟨h0, _⟩ | ⟨a, len, cap, m, n, D, Pl, h0, _⟩
    · rw [hcs] at h0; injection h0 with h0 _; subst h0; rfl
    · rw [hcs] at h0; injection h0 with h0 _; subst h0; rfl
  rw [e, ← hcs] at hf
  exact trodVars_mk1 gNames tNames hv' hf
end
theorem strRec : Tryd.prog.readableRec 24 = true ∧ 24 < Tryd.prog.types.size := ⟨by kernel_rfl, of_decide_eq_true (by kernel_rfl)⟩
end Go.Proofs.YtbamjfbfipkioaaDoor
namespace Go.Proofs.YtbamjfbfipkioaaDoor
open Go.ChangeShapes Go.WideShapes Go.ChangeAt Go.RowKit Go.Deep
set_option linter.unusedVariables false
set_option maxRecDepth 100000
theorem gn_of_met1 {W : World} (h : laidMet Tryd.prog [("loop.example/g00506/impl.gateNames", Rows.laid_loop_example_g00506_impl_gateNames)] W) : GN W := by
  obtain ⟨ps, ⟨g0, t0, cs0, f0, p0, q0, hg0, ht0, hv0, hd0, _⟩, _⟩ := h
  obtain rfl := Option.some.inj (gNames.symm.trans hg0)
  obtain rfl := Option.some.inj (tNames.symm.trans ht0)
  exact gn_of_cell hv0 hd0
theorem gn_of_laid4 {W : World} (h : laidMetH Tryd.prog [("math/bits.deBruijn32tab", Rows.laid_math_bits_deBruijn32tab), ("math/bits.deBruijn64tab", Rows.laid_math_bits_deBruijn64tab), ("internal/strconv.uint64pow10", Rows.laid_internal_strconv_uint64pow10), ("loop.example/g00506/impl.gateNames", Rows.laid_loop_example_g00506_impl_gateNames)] W) : GN W := by
  rw [MakeChecks.laidMetH_plain _ _ _ (by kernel_rfl)] at h
  exact gn_of_met1 h.tail.tail.tail
end Go.Proofs.YtbamjfbfipkioaaDoor
namespace Go.Proofs.YtbamjfbfipkioaaDoor
open Go.RowKit
set_option linter.unusedVariables false
/-- As 'Rd', at a block with the property P. -/
def RdQ (w : World) (P : Nat → Prop) (size : Nat) (A : Option Addr) (n : Nat) (xs : List Value) : Prop :=
  xs.length = n * size ∧ (0 < n → ∃ b off, A = some ⟨b, off, none⟩ ∧ P b ∧ b < w.heap.size ∧ ∀ j u, xs[j]? = some u → w.cell? ⟨b, off + j, none⟩ = some u)
/-- The slice (A, n) reads as the statements l, all blocks with the property P. -/
def TrQ (w : World) (P : Nat → Prop) : (d : Nat) → Option Addr → Nat → List (Tr d) → Prop
  | 0, _, n, l => l.length = n ∧ n = 0
  | d + 1, A, n, l => l.length = n ∧ (0 < n → ∃ b off, A = some ⟨b, off, none⟩ ∧ P b ∧ b < w.heap.size ∧ ∀ (i : Nat) (s : Tr (d + 1)), l[i]? = some s →
      ∃ Aa ca Ab nb cb, SCells w b (off + i * 5) (hdT s) Aa ca Ab nb cb ∧ RdQ w P 1 Aa (hdT s).args.length (strs (hdT s).args) ∧ TrQ w P d Ab nb (bdT s) ∧ (hdT s).args.length ≤ ca)
section
variable {w w' : World} {P P' : Nat → Prop}
theorem RdQ.rd {size n : Nat} {A : Option Addr} {xs : List Value} (h : RdQ w P size A n xs) : Rd w size A n xs :=
  ⟨h.1, fun h0 => by obtain ⟨b, off, e, _, hb, hc⟩ := h.2 h0; exact ⟨b, off, e, hb, hc⟩⟩
theorem RdQ.mono {size n : Nat} {A : Option Addr} {xs : List Value} (h : RdQ w P size A n xs) (hp : ∀ b, b < w.heap.size → P b → P' b) : RdQ w P' size A n xs :=
  ⟨h.1, fun h0 => by obtain ⟨b, off, e, h1, hb, hc⟩ := h.2 h0; exact ⟨b, off, e, hp b hb h1, hb, hc⟩⟩
theorem RdQ.keep {size n : Nat} {A : Option Addr} {xs : List Value} (h : RdQ w P size A n xs) (hk : ∀ b, P b → b < w.heap.size → w'.heap[b]? = w.heap[b]?) (hs : w.heap.size ≤ w'.heap.size) : RdQ w' P size A n xs :=
  ⟨h.1, fun h0 => by
    obtain ⟨b, off, e, h1, hb, hc⟩ := h.2 h0
    refine ⟨b, off, e, h1, Nat.lt_of_lt_of_le hb hs, fun j u hu => ?_⟩
    rw [← hc j u hu]
    have := hk b h1 hb
    simp [World.cell?, this]⟩
theorem rdQ_of_rdL {lo size n : Nat} {A : Option Addr} {xs : List Value} (h : RdL w lo size A n xs) : RdQ w (lo ≤ ·) size A n xs := h
theorem rdQ_of_own {base E size n c : Nat} {A : Option Addr} {xs : List Value} (h : w.ownsRow base E size (.slice A n c) n xs) : RdQ w (base ≤ ·) size A n xs := by
  have r := rd_own h
  refine ⟨r.1, fun h0 => ?_⟩
  obtain ⟨b, off, e, hb, hc⟩ := r.2 h0
  refine ⟨b, off, e, ?_, hb, hc⟩
  subst e
  exact (h.lt b rfl).1
theorem TrQ.len : ∀ {d : Nat} {A : Option Addr} {n : Nat} {l : List (Tr d)}, TrQ w P d A n l → l.length = n
  | 0, _, _, _, h => h.1
  | _ + 1, _, _, _, h => h.1
theorem cell_same {b : Nat} (h : w'.heap[b]? = w.heap[b]?) (o : Nat) : w'.cell? ⟨b, o, none⟩ = w.cell? ⟨b, o, none⟩ := by simp [World.cell?, h]
theorem TrQ.mono (hp : ∀ b, b < w.heap.size → P b → P' b) : ∀ {d : Nat} {A : Option Addr} {n : Nat} {l : List (Tr d)}, TrQ w P d A n l → TrQ w P' d A n l := by
  intro d
  induction d with
  | zero => intro A n l h; exact h
  | succ d ih =>
    intro A n l h
    refine ⟨h.1, fun h0 => ?_⟩
    obtain ⟨b, off, e, h1, hb, hc⟩ := h.2 h0
    refine ⟨b, off, e, hp b hb h1, hb, fun i s hi => ?_⟩
    obtain ⟨Aa, ca, Ab, nb, cb, h1, h2, h3, h4⟩ := hc i s hi
    exact ⟨Aa, ca, Ab, nb, cb, h1, h2.mono hp, ih h3, h4⟩
theorem TrQ.keep (hk : ∀ b, P b → b < w.heap.size → w'.heap[b]? = w.heap[b]?) (hs : w.heap.size ≤ w'.heap.size) :
    ∀ {d : Nat} {A : Option Addr} {n : Nat} {l : List (Tr d)}, TrQ w P d A n l → TrQ w' P d A n l := by
  intro d
  induction d with
  | zero => intro A n l h; exact h
  | succ d ih =>
    intro A n l h
    refine ⟨h.1, fun h0 => ?_⟩
    obtain ⟨b, off, e, hl, hb, hc⟩ := h.2 h0
    refine ⟨b, off, e, hl, Nat.lt_of_lt_of_le hb hs, fun i s hi => ?_⟩
    obtain ⟨Aa, ca, Ab, nb, cb, h1, h2, h3, h4⟩ := hc i s hi
    exact ⟨Aa, ca, Ab, nb, cb, h1.keep (cell_same (hk b hl hb)), h2.keep hk hs, ih h3, h4⟩
theorem TrQ.rdt {lo : Nat} (hp : ∀ b, P b → lo ≤ b) : ∀ {d : Nat} {A : Option Addr} {n : Nat} {l : List (Tr d)}, TrQ w P d A n l → RdT w lo d A n l := by
  intro d
  induction d with
  | zero => intro A n l h; exact h
  | succ d ih =>
    intro A n l h
    refine ⟨h.1, fun h0 => ?_⟩
    obtain ⟨b, off, e, h1, hb, hc⟩ := h.2 h0
    refine ⟨b, off, e, hp b h1, hb, fun i s hi => ?_⟩
    obtain ⟨Aa, ca, Ab, nb, cb, h1, h2, h3, h4⟩ := hc i s hi
    refine ⟨Aa, ca, Ab, nb, cb, h1, ⟨h2.1, fun h0 => ?_⟩, ih h3, h4⟩
    obtain ⟨b, off, e, h1, hb, hc⟩ := h2.2 h0
    exact ⟨b, off, e, hp b h1, hb, hc⟩
theorem trQ_of_rdt {lo : Nat} : ∀ {d : Nat} {A : Option Addr} {n : Nat} {l : List (Tr d)}, RdT w lo d A n l → TrQ w (lo ≤ ·) d A n l := by
  intro d
  induction d with
  | zero => intro A n l h; exact h
  | succ d ih =>
    intro A n l h
    refine ⟨h.1, fun h0 => ?_⟩
    obtain ⟨b, off, e, h1, hb, hc⟩ := h.2 h0
    refine ⟨b, off, e, h1, hb, fun i s hi => ?_⟩
    obtain ⟨Aa, ca, Ab, nb, cb, h1, h2, h3, h4⟩ := hc i s hi
    exact ⟨Aa, ca, Ab, nb, cb, h1, h2, ih h3, h4⟩
/-- Statements of depth at most d are statements of depth at most d + 1. -/
def upT : (d : Nat) → Tr d → Tr (d + 1)
  | 0, e => nomatch (show Empty from e)
  | d + 1, s => mkT (hdT s) ((bdT s).map (upT d))
theorem TrQ.up : ∀ {d : Nat} {A : Option Addr} {n : Nat} {l : List (Tr d)}, TrQ w P d A n l → TrQ w P (d + 1) A n (l.map (upT d)) := by
  intro d
  induction d with
  | zero =>
    intro A n l h
    have h1 : l.length = n := h.1
    have h2 : n = 0 := h.2
    exact ⟨by rw [List.length_map]; exact h1, fun h0 => absurd h0 (by omega)⟩
  | succ d ih =>
    intro A n l h
    refine ⟨by rw [List.length_map]; exact h.1, fun h0 => ?_⟩
    obtain ⟨b, off, e, h1, hb, hc⟩ := h.2 h0
    refine ⟨b, off, e, h1, hb, fun i s hi => ?_⟩
    rw [List.getElem?_map, Option.map_eq_some_iff] at hi
    obtain ⟨t, ht, rfl⟩ := hi
    obtain ⟨Aa, ca, Ab, nb, cb, h1, h2, h3, h4⟩ := hc i t ht
    exact ⟨Aa, ca, Ab, nb, cb, h1, h2, ih h3, h4⟩
theorem szT_up : ∀ (d : Nat) (l : List (Tr d)), szT (d + 1) (l.map (upT d)) = szT d l := by
  intro d
  induction d with
  | zero =>
    intro l
    cases l with
    | nil => rfl
    | cons x _ => exact nomatch (show Empty from x)
  | succ d ih =>
    intro l
    rw [szT_succ, szT_succ, List.length_map]
    congr 1
    unfold sumE
    rw [List.map_map]
    congr 1
    apply List.map_congr_left
    intro s _
    show (hdT s).word.size + ((hdT s).args.length + szS (hdT s).args + szT (d + 1) ((bdT s).map (upT d))) = _
    rw [ih]
    rfl
theorem szE_up {d : Nat} (s : Tr (d + 1)) : szE (upT (d + 1) s) = szE s := by
  show (hdT s).word.size + ((hdT s).args.length + szS (hdT s).args + szT (d + 1) ((bdT s).map (upT d))) = _
  rw [szT_up]
  rfl
/-- The five cells of a statement, as a list. -/
def scl (s : SH) (Aa : Option Addr) (ca : Nat) (Ab : Option Addr) (nb cb : Nat) : List Value := [.int .i64 s.k, .string s.word, .slice Aa s.args.length ca, .int .i64 s.count, .slice Ab nb cb]
/-- Five cells that are a statement whose names and body lie in blocks of Q. -/
def StQ (w : World) (Q : Nat → Prop) (d : Nat) (cs : List Value) (s : Tr (d + 1)) : Prop :=
  ∃ Aa ca Ab nb cb, cs = scl (hdT s) Aa ca Ab nb cb ∧ RdQ w Q 1 Aa (hdT s).args.length (strs (hdT s).args) ∧ TrQ w Q d Ab nb (bdT s) ∧ (hdT s).args.length ≤ ca
/-- Two lists, element by element. -/
def Fa2 {α β : Type} (R : α → β → Prop) : List α → List β → Prop
  | [], [] => True
  | a :: l, b :: m => R a b ∧ Fa2 R l m
  | _, _ => False
/-- Cells that are a list of statements, as 'StQ'. -/
def ElQ (w : World) (Q : Nat → Prop) (d : Nat) (xs : List Value) (l : List (Tr (d + 1))) : Prop :=
  ∃ css : List (List Value), xs = css.flatten ∧ Fa2 (StQ w Q d) css l
theorem StQ.mono {d : Nat} {cs : List Value} {s : Tr (d + 1)} (h : StQ w P d cs s) (hp : ∀ b, b < w.heap.size → P b → P' b) : StQ w P' d cs s := by
  obtain ⟨Aa, ca, Ab, nb, cb, h1, h2, h3, h4⟩ := h
  exact ⟨Aa, ca, Ab, nb, cb, h1, h2.mono hp, h3.mono hp, h4⟩
theorem StQ.keep {d : Nat} {cs : List Value} {s : Tr (d + 1)} (h : StQ w P d cs s) (hk : ∀ b, P b → b < w.heap.size → w'.heap[b]? = w.heap[b]?) (hs : w.heap.size ≤ w'.heap.size) : StQ w' P d cs s := by
  obtain ⟨Aa, ca, Ab, nb, cb, h1, h2, h3, h4⟩ := h
  exact ⟨Aa, ca, Ab, nb, cb, h1, h2.keep hk hs, h3.keep hk hs, h4⟩
theorem StQ.up {d : Nat} {cs : List Value} {s : Tr (d + 1)} (h : StQ w P d cs s) : StQ w P (d + 1) cs (upT (d + 1) s) := by
  obtain ⟨Aa, ca, Ab, nb, cb, h1, h2, h3, h4⟩ := h
  exact ⟨Aa, ca, Ab, nb, cb, h1, h2, h3.up, h4⟩
theorem forall2_mono {α β : Type} {R S : α → β → Prop} (h : ∀ a b, R a b → S a b) : ∀ {l : List α} {m : List β}, Fa2 R l m → Fa2 S l m
  | [], [], _ => trivial
  | _ :: _, _ :: _, h1 => ⟨h _ _ h1.1, forall2_mono h h1.2⟩
theorem forall2_append {α β : Type} {R : α → β → Prop} : ∀ {l l' : List α} {m m' : List β}, Fa2 R l m → Fa2 R l' m' → Fa2 R (l ++ l') (m ++ m')
  | [], _, [], _, _, h2 => h2
  | _ :: _, _, _ :: _, _, h1, h2 => ⟨h1.1, forall2_append h1.2 h2⟩
theorem forall2_at {α β : Type} {R : α → β → Prop} : ∀ {l : List α} {m : List β}, Fa2 R l m → ∀ {i : Nat} {y : β}, m[i]? = some y → ∃ x, l[i]? = some x ∧ R x y
  | [], [], _, i, y, h => by simp at h
  | a :: _, _ :: _, h1, 0, y, h => by
    simp only [List.getElem?_cons_zero, Option.some.injEq] at h
    subst h
    exact ⟨a, rfl, h1.1⟩
  | _ :: _, _ :: _, h1, i + 1, y, h => by
    simp only [List.getElem?_cons_succ] at h ⊢
    exact forall2_at h1.2 h
theorem forall2_map {α β γ : Type} {R : α → β → Prop} {S : α → γ → Prop} {f : β → γ} (h : ∀ a b, R a b → S a (f b)) : ∀ {l : List α} {m : List β}, Fa2 R l m → Fa2 S l (m.map f)
  | [], [], _ => trivial
  | _ :: _, _ :: _, h1 => ⟨h _ _ h1.1, forall2_map h h1.2⟩
theorem ElQ.nil {Q : Nat → Prop} {d : Nat} : ElQ w Q d [] [] := ⟨[], rfl, trivial⟩
theorem ElQ.mono {d : Nat} {xs : List Value} {l : List (Tr (d + 1))} (h : ElQ w P d xs l) (hp : ∀ b, b < w.heap.size → P b → P' b) : ElQ w P' d xs l := by
  obtain ⟨css, e, h⟩ := h
  exact ⟨css, e, forall2_mono (fun _ _ h => h.mono hp) h⟩
theorem ElQ.keep {d : Nat} {xs : List Value} {l : List (Tr (d + 1))} (h : ElQ w P d xs l) (hk : ∀ b, P b → b < w.heap.size → w'.heap[b]? = w.heap[b]?) (hs : w.heap.size ≤ w'.heap.size) : ElQ w' P d xs l := by
  obtain ⟨css, e, h⟩ := h
  exact ⟨css, e, forall2_mono (fun _ _ h => h.keep hk hs) h⟩
theorem ElQ.up {d : Nat} {xs : List Value} {l : List (Tr (d + 1))} (h : ElQ w P d xs l) : ElQ w P (d + 1) xs (l.map (upT (d + 1))) := by
  obtain ⟨css, e, h⟩ := h
  exact ⟨css, e, forall2_map (fun _ _ h => h.up) h⟩
theorem ElQ.append {d : Nat} {xs ys : List Value} {l m : List (Tr (d + 1))} (h : ElQ w P d xs l) (h' : ElQ w P d ys m) : ElQ w P d (xs ++ ys) (l ++ m) := by
  obtain ⟨css, e, h⟩ := h
  obtain ⟨dss, e', h'⟩ := h'
  exact ⟨css ++ dss, by rw [e, e', List.flatten_append], forall2_append h h'⟩
theorem ElQ.one {d : Nat} {cs : List Value} {s : Tr (d + 1)} (h : StQ w P d cs s) : ElQ w P d cs [s] := ⟨[cs], by simp, h, trivial⟩
theorem StQ.len {d : Nat} {cs : List Value} {s : Tr (d + 1)} (h : StQ w P d cs s) : cs.length = 5 := by
  obtain ⟨Aa, ca, Ab, nb, cb, rfl, _⟩ := h
  rfl
theorem StQ.ones {d : Nat} {cs : List Value} {s : Tr (d + 1)} (h : StQ w P d cs s) : ∀ u ∈ cs, u.oneCell' = true := by
  obtain ⟨Aa, ca, Ab, nb, cb, rfl, _⟩ := h
  intro u hu
  simp only [scl, List.mem_cons, List.not_mem_nil, or_false] at hu
  rcases hu with rfl | rfl | rfl | rfl | rfl <;> rfl
theorem flat5 {R : List Value → Prop} (hR : ∀ c, R c → c.length = 5) : ∀ (css : List (List Value)), (∀ c ∈ css, R c) → ∀ (i j : Nat) (c : List Value), css[i]? = some c → j < 5 → css.flatten[i * 5 + j]? = c[j]? := by
  intro css
  induction css with
  | nil => intro _ i j c h _; simp at h
  | cons x css ih =>
    intro hc i j c h hj
    have hx := hR x (hc x (by simp))
    cases i with
    | zero =>
      simp only [List.getElem?_cons_zero, Option.some.injEq] at h
      subst h
      rw [Nat.zero_mul, Nat.zero_add, List.flatten_cons, List.getElem?_append_left (by omega)]
    | succ i =>
      simp only [List.getElem?_cons_succ] at h
      rw [List.flatten_cons, List.getElem?_append_right (by omega), hx, show (i + 1) * 5 + j - 5 = i * 5 + j by omega]
      exact ih (fun c h => hc c (by simp [h])) i j c h hj
theorem ElQ.all5 {d : Nat} : ∀ {css : List (List Value)} {l : List (Tr (d + 1))}, Fa2 (StQ w P d) css l → ∀ c ∈ css, c.length = 5
  | [], [], _, c, h => by simp at h
  | _ :: _, _ :: _, h1, c, hc => by
    rcases List.mem_cons.1 hc with rfl | hc
    · exact h1.1.len
    · exact ElQ.all5 h1.2 c hc
theorem ElQ.ones2 {d : Nat} : ∀ {css : List (List Value)} {l : List (Tr (d + 1))}, Fa2 (StQ w P d) css l → (∀ u ∈ css.flatten, u.oneCell' = true) ∧ css.flatten.length = l.length * 5
  | [], [], _ => ⟨by simp, rfl⟩
  | _ :: _, _ :: _, h1 => by
    obtain ⟨i1, i2⟩ := ElQ.ones2 h1.2
    refine ⟨fun u hu => ?_, by rw [List.flatten_cons, List.length_append, h1.1.len, i2, List.length_cons]; omega⟩
    rw [List.flatten_cons] at hu
    rcases List.mem_append.1 hu with hu | hu
    · exact h1.1.ones u hu
    · exact i1 u hu
theorem ElQ.ones {d : Nat} {xs : List Value} {l : List (Tr (d + 1))} (h : ElQ w P d xs l) : ∀ u ∈ xs, u.oneCell' = true := by
  obtain ⟨css, rfl, h⟩ := h
  exact (ElQ.ones2 h).1
theorem ElQ.len {d : Nat} {xs : List Value} {l : List (Tr (d + 1))} (h : ElQ w P d xs l) : xs.length = l.length * 5 := by
  obtain ⟨css, rfl, h⟩ := h
  exact (ElQ.ones2 h).2
/-- Cells that lie in memory, with what they point to, are statements that a slice reads as. -/
theorem ElQ.tr {d n : Nat} {A : Option Addr} {xs : List Value} {l : List (Tr (d + 1))} (h : ElQ w P d xs l) (hr : RdQ w P 5 A n xs) (hn : l.length = n) : TrQ w P (d + 1) A n l := by
  refine ⟨hn, fun h0 => ?_⟩
  obtain ⟨b, off, e, hp, hb, hc⟩ := hr.2 h0
  refine ⟨b, off, e, hp, hb, fun i s hi => ?_⟩
  obtain ⟨css, rfl, h⟩ := h
  obtain ⟨c, hci, Aa, ca, Ab, nb, cb, rfl, h2, h3, h4⟩ := forall2_at h hi
  have ha := ElQ.all5 h
  have f : ∀ j, j < 5 → ∀ u, (scl (hdT s) Aa ca Ab nb cb)[j]? = some u → w.cell? ⟨b, off + (i * 5 + j), none⟩ = some u := fun j hj u hu => hc _ _ ((flat5 (R := fun c => c.length = 5) (fun _ h => h) css ha i j _ hci hj).trans hu)
  refine ⟨Aa, ca, Ab, nb, cb, ⟨f 0 (by decide) _ rfl, ?_, ?_, ?_, ?_⟩, h2, h3, h4⟩
  · have := f 1 (by decide) _ rfl; rwa [← Nat.add_assoc] at this
  · have := f 2 (by decide) _ rfl; rwa [← Nat.add_assoc] at this
  · have := f 3 (by decide) _ rfl; rwa [← Nat.add_assoc] at this
  · have := f 4 (by decide) _ rfl; rwa [← Nat.add_assoc] at this
end
/-- A row of statements of the call's own: the cells, and what they point to, lie in blocks from base on; what they point to is not the row itself. -/
def OwnT (w : World) (base d : Nat) (v : Value) (l : List (Tr (d + 1))) : Prop :=
  ∃ xs, w.ownsRow base 27 5 v l.length xs ∧ ElQ w (fun b => base ≤ b ∧ some b ≠ v.ownBlock) d xs l
theorem OwnT.grown {w w' : World} {base d : Nat} {v : Value} {l : List (Tr (d + 1))} {row : Option Nat} (h : OwnT w base d v l) (hg : w.grownBy w' row) (hr : ∀ k, row = some k → k < base) : OwnT w' base d v l := by
  obtain ⟨xs, ho, he⟩ := h
  refine ⟨xs, ho.kept hg ?_, he.keep (fun b hp hb => hg.block b hb (fun e => ?_)) hg.size⟩
  · cases hk : v.ownBlock with
    | none => exact .inl rfl
    | some k =>
      refine .inr fun e => ?_
      have h1 := hr k e.symm
      have h2 := (ho.lt k hk).1
      omega
  · have := hr b e.symm
    omega
theorem OwnT.below {w w' : World} {base d : Nat} {v : Value} {l : List (Tr (d + 1))} (h : OwnT w base d v l) (hb : Below w.heap.size w w') : OwnT w' base d v l :=
  h.grown (row := none) ⟨hb.os, hb.tape, hb.output, hb.size, fun k hk _ => hb.block k hk⟩ (fun k e => by cases e)
theorem ownT_empty (w : World) (d : Nat) : OwnT (w.alloc (.cells #[] 27)) w.heap.size d (.slice (some ⟨w.heap.size, 0, none⟩) 0 0) [] := ⟨[], own_empty w _ 5, ElQ.nil⟩
theorem ownT_nil (w : World) (base d : Nat) : OwnT w base d (.slice none 0 0) [] := ⟨[], ⟨rfl, .inl ⟨rfl, rfl⟩⟩, ElQ.nil⟩
/-- An append of some statements to the row. -/
theorem OwnT.push {w wa w6 : World} {base d : Nat} {v v6 : Value} {xs ys : List Value} {l m : List (Tr (d + 1))} (hx : ElQ w (fun b => base ≤ b ∧ some b ≠ v.ownBlock) d xs l) (hy : ElQ w (fun b => base ≤ b ∧ some b ≠ v.ownBlock) d ys m)
    (ho6 : w6.ownsRow base 27 5 v6 (l.length + m.length) (xs ++ ys)) (hba : Below w.heap.size w wa) (hg : wa.grownBy w6 v.ownBlock) (hv : v6.ownBlock = v.ownBlock ∨ v6.ownBlock = some wa.heap.size) : OwnT w6 base d v6 (l ++ m) := by
  refine ⟨xs ++ ys, by rw [List.length_append]; exact ho6, ElQ.mono (P := fun b => base ≤ b ∧ some b ≠ v.ownBlock ∧ b < w.heap.size) ?_ ?_⟩
  · have hk : ∀ b, (base ≤ b ∧ some b ≠ v.ownBlock ∧ b < w.heap.size) → b < w.heap.size → w6.heap[b]? = w.heap[b]? := fun b hp hb => (hg.block b (Nat.lt_of_lt_of_le hb hba.size) hp.2.1).trans (hba.block b hb)
    have hs : w.heap.size ≤ w6.heap.size := Nat.le_trans hba.size hg.size
    exact ((hx.mono (fun b hb hp => ⟨hp.1, hp.2, hb⟩)).append (hy.mono (fun b hb hp => ⟨hp.1, hp.2, hb⟩))).keep hk hs
  · intro b _ hp
    refine ⟨hp.1, ?_⟩
    rcases hv with e | e
    · rw [e]; exact hp.2.1
    · rw [e]
      intro e
      injection e with e
      have := hba.size
      omega
/-- The row as statements that a slice reads as. -/
theorem OwnT.tr {w : World} {base d n c : Nat} {A : Option Addr} {l : List (Tr (d + 1))} (h : OwnT w base d (.slice A n c) l) (hn : l.length = n) : TrQ w (base ≤ ·) (d + 1) A n l := by
  obtain ⟨xs, ho, he⟩ := h
  rw [hn] at ho
  exact (he.mono (fun b _ hp => hp.1)).tr (rdQ_of_own ho) hn
theorem OwnT.up {w : World} {base d : Nat} {v : Value} {l : List (Tr (d + 1))} (h : OwnT w base d v l) : OwnT w base (d + 1) v (l.map (upT (d + 1))) := by
  obtain ⟨xs, ho, he⟩ := h
  exact ⟨xs, by rw [List.length_map]; exact ho, he.up⟩
theorem OwnT.slice {w : World} {base d : Nat} {v : Value} {l : List (Tr (d + 1))} (h : OwnT w base d v l) : ∃ A c, v = .slice A l.length c ∧ l.length ≤ c ∧ c ≤ maxLen := by
  obtain ⟨xs, ho, _⟩ := h
  obtain ⟨A, c, e, h1, h2, _⟩ := rd_of_own ho
  exact ⟨A, c, e, h1, h2⟩
theorem own_lowT {w : World} {B B' e size n : Nat} {v : Value} {xs : List Value} (h : w.ownsRow B e size v n xs) (hB : B' ≤ B) : w.ownsRow B' e size v n xs := by
  refine ⟨h.1, ?_⟩
  rcases h.2 with h2 | ⟨g, cap, cur, h1, h2, h3⟩
  · exact .inl h2
  · exact .inr ⟨g, cap, cur, h1, Nat.le_trans hB h2, h3⟩
theorem OwnT.low {w : World} {base base' d : Nat} {v : Value} {l : List (Tr (d + 1))} (h : OwnT w base d v l) (hb : base' ≤ base) : OwnT w base' d v l := by
  obtain ⟨xs, ho, he⟩ := h
  exact ⟨xs, own_lowT ho hb, he.mono (fun b _ hp => ⟨Nat.le_trans hb hp.1, hp.2⟩)⟩
end Go.Proofs.YtbamjfbfipkioaaDoor
