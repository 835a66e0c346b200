/- What the calls that this law reaches answer, part 15 of 17. -/
import Derived.Test.YthkbckkghnbonaaGreatDoorJProgramText9
import Derived.Test.YthkbckkghnbonaaGreatDoorJProgramText14
import Derived.Test.YthkbckkghnbonaaGreatDoorJProgramText8
import Derived.Test.YthkbckkghnbonaaGreatDoorJProgramText3
import Derived.Test.YthkbckkghnbonaaGreatDoorJProgramText2
import Derived.Test.YthkbckkghnbonaaGreatDoorJProgramText1
import Derived.Test.YthkbckkghnbonaaGreatDoorProg
import Derived.Laws.IdiomStrings
namespace Go.Proofs.YthkbckkghnbonaaGreatDoor
open Go.RowKit
set_option linter.unusedVariables false
theorem gname_of {word : List UInt8} : ∀ f k, gkindFrom word f k ≠ 0 → ∃ j, k ≤ j ∧ j < k + f ∧ word = gname j := by
  intro f
  induction f with
  | zero => intro k h; exact absurd rfl h
  | succ f ih =>
    intro k h
    unfold gkindFrom at h
    by_cases hg : (gname k == word) = true
    · exact ⟨k, Nat.le_refl _, by omega, (eq_of_beq hg).symm⟩
    · rw [if_neg hg] at h
      obtain ⟨j, h1, h2, h3⟩ := ih (k + 1) h
      exact ⟨j, by omega, by omega, h3⟩
theorem gkind_ok {word : ByteArray} (h : gkind word ≠ 0) : wordOk word = true := by
  obtain ⟨j, h1, h2, h3⟩ := gname_of 12 1 h
  have e : word = ⟨(gname j).toArray⟩ := by
    rw [← h3, Lib.toList_data]
  have hj : j = 1 ∨ j = 2 ∨ j = 3 ∨ j = 4 ∨ j = 5 ∨ j = 6 ∨ j = 7 ∨ j = 8 ∨ j = 9 ∨ j = 10 ∨ j = 11 ∨ j = 12 := by omega
  rw [e]
  rcases hj with rfl | rfl | rfl | rfl | rfl | rfl | rfl | rfl | rfl | rfl | rfl | rfl <;> exact wordOk_of (by decide) (by decide) (by decide)
theorem head_ok {k : Int} {word : ByteArray} (hk : 1 ≤ k ∧ k ≤ 7) (hg : k = 1 → gkind word ≠ 0) : wordOk (headW k word) = true := by
  have h7 : k = 1 ∨ k = 2 ∨ k = 3 ∨ k = 4 ∨ k = 5 ∨ k = 6 ∨ k = 7 := by omega
  rcases h7 with rfl | rfl | rfl | rfl | rfl | rfl | rfl
  · exact gkind_ok (hg rfl)
  · exact wordOk_of (l := [114, 101, 112, 101, 97, 116]) (by decide) (by decide) (by decide)
  · exact wordOk_of (l := [97, 100, 106, 111, 105, 110, 116]) (by decide) (by decide) (by decide)
  · exact wordOk_of (l := [99, 111, 110, 116, 114, 111, 108]) (by decide) (by decide) (by decide)
  · exact wordOk_of (l := [97, 110, 99, 105, 108, 108, 97]) (by decide) (by decide) (by decide)
  · exact wordOk_of (l := [109, 101, 97, 115, 117, 114, 101]) (by decide) (by decide) (by decide)
  · exact wordOk_of (l := [105, 102]) (by decide) (by decide) (by decide)
theorem dig_ok {x : Int} (h0 : 1 ≤ x) (h1 : x ≤ 9) : wordOk (dig x) = true := by
  have h9 : x = 1 ∨ x = 2 ∨ x = 3 ∨ x = 4 ∨ x = 5 ∨ x = 6 ∨ x = 7 ∨ x = 8 ∨ x = 9 := by omega
  rcases h9 with rfl | rfl | rfl | rfl | rfl | rfl | rfl | rfl | rfl <;> exact wordOk_of (l := [_]) (by decide) (by decide) (by decide)
theorem well_w {s : ByteArray} (h : wordOk s = true) : wellTk (wTk s) := .inl ⟨rfl, h⟩
theorem well_p {k : Int} (h : k = 2 ∨ k = 3 ∨ k = 4) : wellTk (pTk k) := .inr ⟨h, rfl⟩
theorem vOne_args {d : Nat} {h : SH} {bd : List (Tr d)} (hv : vOne d (validT d) h bd = true) : h.args.all wordOk = true := by
  unfold vOne at hv
  simp only [Bool.and_eq_true] at hv
  exact hv.2.1
theorem toks1_well {d : Nat} {h : SH} {bd : List (Tr d)} (hv : vOne d (validT d) h bd = true) (hb : ∀ t ∈ toksT d bd, wellTk t) : ∀ t ∈ toks1 h (toksT d bd), wellTk t := by
  obtain ⟨hk, ha, hk1, _, _, hc, _, _⟩ := vOne_all hv
  have hw := List.all_eq_true.1 (vOne_args hv)
  have hg : h.k = 1 → gkind h.word ≠ 0 := fun e e2 => by
    rcases hk1 with h1 | h1
    · exact h1 e
    · rw [e] at h1
      apply h1
      show ar (gkind h.word) = 0
      rw [e2]
      decide
  intro t ht
  unfold toks1 at ht
  simp only [List.mem_append] at ht
  rcases ht with ((ht | ht) | ht) | ht
  · simp only [List.mem_singleton] at ht
    subst ht
    exact well_w (head_ok hk hg)
  · split at ht
    · rename_i h2
      simp only [List.mem_singleton] at ht
      subst ht
      exact well_w (dig_ok (hc h2).1 (hc h2).2)
    · cases ht
  · obtain ⟨a, ha', rfl⟩ := List.mem_map.1 ht
    exact well_w (hw a ha')
  · split at ht
    · simp only [List.mem_singleton] at ht
      subst ht
      exact well_p (.inl rfl)
    · simp only [List.mem_append, List.mem_singleton] at ht
      rcases ht with (rfl | ht) | rfl
      · exact well_p (.inr (.inl rfl))
      · exact hb t ht
      · exact well_p (.inr (.inr rfl))
theorem toksT_well : ∀ (d : Nat) (l : List (Tr d)), validT d l = true → ∀ t ∈ toksT d l, wellTk t := by
  intro d
  induction d with
  | zero => intro l _ t ht; cases ht
  | succ d ih =>
    intro l hv t ht
    have h1 : ∀ s ∈ l, vOne d (validT d) (hdT s) (bdT s) = true := List.all_eq_true.1 hv
    obtain ⟨s, hs, ht⟩ := List.mem_flatMap.1 ht
    exact toks1_well (h1 s hs) (ih _ (vOne_all (h1 s hs)).2.2.2.2.2.2.2) t ht
/-- A list of tokens, as text, gives these tokens. -/
theorem tkS_ftx {T : List Tk} (h1 : ∀ t ∈ T, wellTk t) (h2 : T.length ≤ 160) : tkS (ftx T) = some T := by
  cases T with
  | nil => exact tkz_nil 0
  | cons t r =>
    unfold tkS
    rw [List.length_cons] at h2
    have hr : ∀ t ∈ r, wellTk t := fun x hx => h1 x (by simp [hx])
    obtain ⟨a1, a2⟩ := tailB_head hr
    rw [ftx_tail, tkz_tok (h1 t (by simp)) (by omega) a1 a2, tkz_tail r 1 hr (by omega)]
    rfl
theorem progV_all {d : Nat} {qs : List ByteArray} {l : List (Tr d)} (h : progV d qs l = true) : (1 ≤ qs.length ∧ qs.length ≤ 4) ∧ nestT d l ≤ 4 ∧ tokT d l + qs.length + 2 ≤ 160 := by
  unfold progV pgR at h
  simp only [Bool.and_eq_true, decide_eq_true_eq] at h
  have := inB_iff.1 h.1
  exact ⟨by omega, h.2.2.2.1, h.2.2.2.2⟩
theorem map_toTT {d : Nat} : ∀ (l l' : List (Tr d)), l.map (toTT d) = l'.map (toTT d) → l = l' := by
  intro l
  induction l with
  | nil => intro l' h; cases l' with
    | nil => rfl
    | cons x l' => simp at h
  | cons x l ih => intro l' h; cases l' with
    | nil => simp at h
    | cons y l' =>
      rw [List.map_cons, List.map_cons, List.cons.injEq] at h
      rw [toTT_inj d x y h.1, ih l' h.2]
/-- A valid program's text reads back as the program. -/
theorem text_back {Q : List ByteArray} {l : List (Tr 6)} (hv : progV 6 Q l = true) : ∃ l2 : List (Tr 5), parseR (tkS (ftx (pTks 6 Q l))) = (0, 0, Q, l2) ∧ l2.map (upT 5) = l := by
  have hval := progV_valid hv
  obtain ⟨⟨q1, q4⟩, hn, ht⟩ := progV_all hv
  have hq := List.all_eq_true.1 (show Q.all wordOk = true from progV_qs hv)
  have e : pTks 6 Q l = (([wTk qW] ++ Q.map wTk) ++ [pTk 2]) ++ toksT 6 l := by
    unfold pTks
    rw [hv, stToks_t]
    rfl
  have hc := toksT_count 6 l hval
  have hw : ∀ t ∈ pTks 6 Q l, wellTk t := by
    rw [e]
    intro t ht
    simp only [List.mem_append, List.mem_singleton] at ht
    rcases ht with ((rfl | ht) | rfl) | ht
    · exact well_w (wordOk_of (l := [113, 117, 98, 105, 116, 115]) (by decide) (by decide) (by decide))
    · obtain ⟨a, ha, rfl⟩ := List.mem_map.1 ht
      exact well_w (hq a ha)
    · exact well_p (.inl rfl)
    · exact toksT_well 6 l hval t ht
  have hl : (pTks 6 Q l).length ≤ 160 := by
    rw [e]
    simp only [List.length_append, List.length_map, List.length_singleton]
    omega
  rw [tkS_ftx hw hl, e]
  obtain ⟨l2, h1, h2⟩ := parse_back (d := 6) q1 q4 hval hn
  refine ⟨l2, h1, map_toTT _ _ ?_⟩
  rw [← h2, List.map_map]
  congr 1
  funext s
  exact toTT_up 5 s
/-- What is not valid has no text. -/
theorem text_none {d : Nat} {Q : List ByteArray} {l : List (Tr d)} (hv : progV d Q l = false) : ftx (pTks d Q l) = ⟨#[]⟩ ∧ parseR (tkS (ftx (pTks d Q l))) = (2, 0, [], []) := by
  have e : pTks d Q l = [] := by unfold pTks; rw [hv, stToks_f]
  rw [e]
  exact ⟨rfl, by rw [show tkS (ftx []) = some [] from tkz_nil 0]; rfl⟩
theorem RdT.up {w : World} {lo : Nat} : ∀ {d : Nat} {A : Option Addr} {n : Nat} {l : List (Tr d)}, RdT w lo d A n l → RdT w lo (d + 1) A n (l.map (upT d)) := by
  intro d
  induction d with
  | zero =>
    intro A n l h
    have hl := h.1
    obtain rfl : n = 0 := h.2
    refine ⟨by simpa using hl, fun h0 => absurd h0 (by omega)⟩
  | succ d ih =>
    intro A n l h
    refine ⟨by simpa using h.1, fun h0 => ?_⟩
    obtain ⟨b, off, e, hl, hb, hc⟩ := h.2 h0
    refine ⟨b, off, e, hl, hb, fun i s hi => ?_⟩
    rw [List.getElem?_map] at hi
    cases hx : l[i]? with
    | none => rw [hx] at hi; cases hi
    | some x =>
      rw [hx] at hi
      obtain rfl : upT (d + 1) x = s := by simpa using hi
      obtain ⟨Aa, ca, Ab, nb, cb, h1, h2, h3, h4⟩ := hc i x hx
      exact ⟨Aa, ca, Ab, nb, cb, h1, h2, ih h3, h4⟩
end Go.Proofs.YthkbckkghnbonaaGreatDoor
namespace Go.Proofs.YthkbckkghnbonaaGreatDoor
open Go.RowKit
set_option linter.unusedVariables false
theorem gr_set {W : World} {R j : Nat} (u : Value) : W.grownBy (W.setCell ⟨R, j, none⟩ u) (some R) := only_setCell (World.grownBy.refl W (some R)) rfl u
theorem gr_below {w W W' : World} {R : Nat} (h : w.grownBy W (some R)) (hb : Below W.heap.size W W') : w.grownBy W' (some R) := h.andThen (only_of_below hb none) (by simp)
theorem gr_own {w W W' : World} {R : Nat} {row : Option Nat} (h : w.grownBy W (some R)) (hg : W.grownBy W' row) (hr : ∀ k, row = some k → w.heap.size ≤ k) : w.grownBy W' (some R) := h.andThen hg (fun j hj => .inl (hr j hj))
theorem rdq_own {w W : World} {P : Nat → Prop} {size n : Nat} {A : Option Addr} {xs : List Value} {row : Option Nat} (h : RdQ w P size A n xs) (hg : w.grownBy W row) (hr : ∀ k, row = some k → ¬ P k) : RdQ W P size A n xs :=
  h.keep (fun b hb hlt => hg.block b hlt (fun e => hr b e.symm hb)) hg.size
/-- The reference's reader. -/
structure RdS (R : Nat) (A : Option Addr) (n c : Nat) (T : List Tk) (s : Rs) (W : World) : Prop where
  x : W.heap[R]? = some (.cells #[.slice A n c, .int .i64 s.i, .int .i64 s.code] 114 (0, 0))
  t : RdQ W (fun b => b < R) 2 A n (tkcs T)
  l : T.length = n
  i : s.i ≤ T.length
section
variable {R n c : Nat} {A : Option Addr} {T : List Tk} {s : Rs} {W W' : World}
theorem RdS.at_ (h : RdS R A n c T s W) {i : Nat} (hi : i ≤ T.length) : RdS R A n c T ⟨i, s.code⟩ (W.setCell ⟨R, 1, none⟩ (.int .i64 i)) := ⟨heap_set_selfG h.x _, h.t.set_ (fun hb => Nat.lt_irrefl _ hb) _, h.l, hi⟩
theorem RdS.code (h : RdS R A n c T s W) (v : Int) : RdS R A n c T ⟨s.i, v⟩ (W.setCell ⟨R, 2, none⟩ (.int .i64 v)) := ⟨heap_set_selfG h.x _, h.t.set_ (fun hb => Nat.lt_irrefl _ hb) _, h.l, h.i⟩
theorem RdS.atv (h : RdS R A n c T s W) {i : Nat} {v : Int} (hi : i ≤ T.length) (hv : v = i) : RdS R A n c T ⟨i, s.code⟩ (W.setCell ⟨R, 1, none⟩ (.int .i64 v)) := by rw [hv]; exact h.at_ hi
theorem RdS.drewN (h : RdS R A n c T s W) (k : Nat) : RdS R A n c T s (W.drewN k) := ⟨h.x, h.t, h.l, h.i⟩
theorem RdS.below (h : RdS R A n c T s W) (hb : Below W.heap.size W W') : RdS R A n c T s W' := ⟨(hb.block _ (lt_of_block h.x)).trans h.x, h.t.below hb, h.l, h.i⟩
theorem RdS.own {row : Option Nat} (h : RdS R A n c T s W) (hg : W.grownBy W' row) (hr : ∀ k, row = some k → R < k) : RdS R A n c T s W' :=
  ⟨(hg.block _ (lt_of_block h.x) (fun e => Nat.lt_irrefl _ (hr R e.symm))).trans h.x, rdq_own h.t hg (fun k hk hb => by have := hr k hk; omega), h.l, h.i⟩
theorem RdS.tok (h : RdS R A n c T s W) {i : Nat} (hi : i < n) : ∃ b off, A = some ⟨b, off, none⟩ ∧ b < R ∧ b < W.heap.size ∧ W.cell? ⟨b, off + i * 2, none⟩ = some (.int .i64 (kindT T i)) ∧ W.cell? ⟨b, off + i * 2 + 1, none⟩ = some (.string (textT T i)) := by
  obtain ⟨x, hx⟩ : ∃ x, T[i]? = some x := ⟨_, List.getElem?_eq_getElem (by rw [h.l]; exact hi)⟩
  obtain ⟨b, off, e, hb, hlt, hc⟩ := h.t.2 (by omega)
  have e1 : kindT T i = x.k := by unfold kindT; rw [hx]
  have e2 : textT T i = x.s := by unfold textT; rw [hx]
  exact ⟨b, off, e, hb, hlt, by rw [e1]; exact hc _ _ (tkcs_at hx).1, by rw [e2]; have := hc _ _ (tkcs_at hx).2; rwa [← Nat.add_assoc] at this⟩
theorem RdS.cells (h : RdS R A n c T s W) : (W.cell? ⟨R, 0, none⟩ = some (.slice A n c) ∧ W.cell? ⟨R, 1, none⟩ = some (.int .i64 s.i) ∧ W.cell? ⟨R, 2, none⟩ = some (.int .i64 s.code)) ∧ W.frozen? ⟨R, 1, none⟩ = false ∧ W.frozen? ⟨R, 2, none⟩ = false ∧ R < W.heap.size :=
  ⟨⟨cell_at (j := 0) h.x rfl, cell_at (j := 1) h.x rfl, cell_at (j := 2) h.x rfl⟩, free_at (j := 1) h.x, free_at (j := 2) h.x, lt_of_block h.x⟩
end
/-- The program's reader. -/
structure RdI (R : Nat) (A : Option Addr) (n c : Nat) (T : List Tk) (o : Int) (s : Rs) (W : World) : Prop where
  x : W.heap[R]? = some (.cells #[.slice A n c, .int .i64 s.i, .int .i64 o, .int .i64 s.code] 74 (0, 0))
  t : RdQ W (fun b => b < R) 2 A n (tkcs T)
  l : T.length = n
  i : s.i ≤ T.length
section
variable {R n c : Nat} {A : Option Addr} {T : List Tk} {o : Int} {s : Rs} {W W' : World}
theorem RdI.at_ (h : RdI R A n c T o s W) {i : Nat} (hi : i ≤ T.length) : RdI R A n c T o ⟨i, s.code⟩ (W.setCell ⟨R, 1, none⟩ (.int .i64 i)) := ⟨heap_set_selfG h.x _, h.t.set_ (fun hb => Nat.lt_irrefl _ hb) _, h.l, hi⟩
theorem RdI.opn (h : RdI R A n c T o s W) (v : Int) : RdI R A n c T v s (W.setCell ⟨R, 2, none⟩ (.int .i64 v)) := ⟨heap_set_selfG h.x _, h.t.set_ (fun hb => Nat.lt_irrefl _ hb) _, h.l, h.i⟩
theorem RdI.code (h : RdI R A n c T o s W) (v : Int) : RdI R A n c T o ⟨s.i, v⟩ (W.setCell ⟨R, 3, none⟩ (.int .i64 v)) := ⟨heap_set_selfG h.x _, h.t.set_ (fun hb => Nat.lt_irrefl _ hb) _, h.l, h.i⟩
theorem RdI.atv (h : RdI R A n c T o s W) {i : Nat} {v : Int} (hi : i ≤ T.length) (hv : v = i) : RdI R A n c T o ⟨i, s.code⟩ (W.setCell ⟨R, 1, none⟩ (.int .i64 v)) := by rw [hv]; exact h.at_ hi
theorem RdI.drewN (h : RdI R A n c T o s W) (k : Nat) : RdI R A n c T o s (W.drewN k) := ⟨h.x, h.t, h.l, h.i⟩
theorem RdI.below (h : RdI R A n c T o s W) (hb : Below W.heap.size W W') : RdI R A n c T o s W' := ⟨(hb.block _ (lt_of_block h.x)).trans h.x, h.t.below hb, h.l, h.i⟩
theorem RdI.own {row : Option Nat} (h : RdI R A n c T o s W) (hg : W.grownBy W' row) (hr : ∀ k, row = some k → R < k) : RdI R A n c T o s W' :=
  ⟨(hg.block _ (lt_of_block h.x) (fun e => Nat.lt_irrefl _ (hr R e.symm))).trans h.x, rdq_own h.t hg (fun k hk hb => by have := hr k hk; omega), h.l, h.i⟩
theorem RdI.tok (h : RdI R A n c T o s W) {i : Nat} (hi : i < n) : ∃ b off, A = some ⟨b, off, none⟩ ∧ b < R ∧ b < W.heap.size ∧ W.cell? ⟨b, off + i * 2, none⟩ = some (.int .i64 (kindT T i)) ∧ W.cell? ⟨b, off + i * 2 + 1, none⟩ = some (.string (textT T i)) := by
  obtain ⟨x, hx⟩ : ∃ x, T[i]? = some x := ⟨_, List.getElem?_eq_getElem (by rw [h.l]; exact hi)⟩
  obtain ⟨b, off, e, hb, hlt, hc⟩ := h.t.2 (by omega)
  have e1 : kindT T i = x.k := by unfold kindT; rw [hx]
  have e2 : textT T i = x.s := by unfold textT; rw [hx]
  exact ⟨b, off, e, hb, hlt, by rw [e1]; exact hc _ _ (tkcs_at hx).1, by rw [e2]; have := hc _ _ (tkcs_at hx).2; rwa [← Nat.add_assoc] at this⟩
theorem RdI.cells (h : RdI R A n c T o s W) : (W.cell? ⟨R, 0, none⟩ = some (.slice A n c) ∧ W.cell? ⟨R, 1, none⟩ = some (.int .i64 s.i) ∧ W.cell? ⟨R, 2, none⟩ = some (.int .i64 o) ∧ W.cell? ⟨R, 3, none⟩ = some (.int .i64 s.code)) ∧ (W.frozen? ⟨R, 1, none⟩ = false ∧ W.frozen? ⟨R, 2, none⟩ = false ∧ W.frozen? ⟨R, 3, none⟩ = false) ∧ R < W.heap.size :=
  ⟨⟨cell_at (j := 0) h.x rfl, cell_at (j := 1) h.x rfl, cell_at (j := 2) h.x rfl, cell_at (j := 3) h.x rfl⟩, ⟨free_at (j := 1) h.x, free_at (j := 2) h.x, free_at (j := 3) h.x⟩, lt_of_block h.x⟩
end
def RtI (R : Nat) (A : Option Addr) (n c : Nat) (T : List Tk) (o : Int) (v : Value) (s : Rs) (w : World) (e : Ending) (w' : World) : Prop := e = .returned v ∧ RdI R A n c T o s w' ∧ w.grownBy w' (some R)
end Go.Proofs.YthkbckkghnbonaaGreatDoor
namespace Go.Proofs.YthkbckkghnbonaaGreatDoor
open Go.RowKit
set_option linter.unusedVariables false
theorem kindT_end {T : List Tk} {i : Nat} (h : T.length ≤ i) : kindT T i = 0 := by unfold kindT; rw [List.getElem?_eq_none h]
theorem gr_drewN {a w : World} {row : Option Nat} (h : a.grownBy w row) (n : Nat) : a.grownBy (w.drewN n) row := ⟨h.os, h.tape, h.output, h.size, h.block⟩
theorem failR_0 {s : Rs} (h : s.code = 0) (c : Int) : failR s c = ⟨s.i, c⟩ := if_pos h
theorem failR_1 {s : Rs} (h : s.code ≠ 0) (c : Int) : failR s c = s := if_neg h
theorem takeR_yes {T : List Tk} {s : Rs} {k c : Int} (h0 : s.code = 0) (h1 : kindT T s.i = k) : takeR T s k c = (⟨s.i + 1, 0⟩, textT T s.i) := if_pos ⟨h0, h1⟩
theorem takeR_no {T : List Tk} {s : Rs} {k c : Int} (h : ¬ (s.code = 0 ∧ kindT T s.i = k)) : takeR T s k c = (failR s c, ⟨#[]⟩) := if_neg h
end Go.Proofs.YthkbckkghnbonaaGreatDoor
namespace Go.Proofs.YthkbckkghnbonaaGreatDoor
open Go.RowKit
set_option linter.unusedVariables false
set_option maxRecDepth 100000 in
theorem fail_any (R n c : Nat) (A : Option Addr) (T : List Tk) (o : Int) (s : Rs) (code : Int) (w : World) (h : RdI R A n c T o s w) : Calls Tryz.prog 109 #[.pointer (some ⟨R, 0, none⟩), .int .i64 code] w (RtI R A n c T o (.tuple #[]) (failR s code) w) := by
  obtain ⟨⟨k0, k1, ko, k2⟩, ⟨f1, f3, f2⟩, lR⟩ := h.cells
  have H := Lib.hid h
  by_cases h0 : s.code = 0
  · have HE := Lib.hid (failR_0 h0 code)
    rw [h0] at k2
    clear h h0
    go_enter Tryz.func109, Tryz.ntmps109
    go_wp2_with fail
    go_end0
    exact ⟨rfl, by rw [HE.out]; exact H.out.code code, gr_set _⟩
  · have HE := Lib.hid (failR_1 h0 code)
    have d0 : (s.code == 0) = false := beq_eq_false_iff_ne.2 h0
    have d1 : decide (s.code = 0) = false := decide_eq_false h0
    clear h h0
    go_enter Tryz.func109, Tryz.ntmps109
    go_wp2_with fail
    go_end0
    exact ⟨rfl, by rw [HE.out]; exact H.out, World.grownBy.refl _ _⟩
set_option maxRecDepth 100000 in
theorem kind_any (R n c : Nat) (A : Option Addr) (T : List Tk) (o : Int) (s : Rs) (w : World) (h : RdI R A n c T o s w) (hn : n ≤ 1048576) : Calls Tryz.prog 108 #[.pointer (some ⟨R, 0, none⟩)] w fun e w' => e = .returned (.int .i64 (kindT T s.i)) ∧ ∃ m, w' = w.drewN m := by
  obtain ⟨⟨k0, k1, ko, k2⟩, ⟨f1, f3, f2⟩, lR⟩ := h.cells
  by_cases hlt : s.i < n
  · obtain ⟨b, off, rfl, hbR, hbl, q0, q1⟩ := h.tok hlt
    have hd : decide ((s.i : Int) < (n : Int)) = true := decide_eq_true (by omega)
    clear h
    go_enter Tryz.func108, Tryz.ntmps108
    go_wp2_with fail
    go_quiet (fail)
    go_wp2_with fail
    go_quiet (fail)
    go_wp2_with fail
    go_ret
    exact ⟨rfl, drewN2 _ _ _⟩
  · have HK : Hid (kindT T s.i = 0) := kindT_end (by have := h.l; omega)
    have hd : decide ((s.i : Int) < (n : Int)) = false := decide_eq_false (by omega)
    clear h
    go_enter Tryz.func108, Tryz.ntmps108
    go_wp2_with fail
    go_quiet (fail)
    go_wp2_with fail
    go_ret
    exact ⟨by rw [HK.out]; rfl, _, rfl⟩
set_option maxRecDepth 100000 in
set_option maxHeartbeats 1000000 in
theorem take_any (R n c : Nat) (A : Option Addr) (T : List Tk) (o : Int) (s : Rs) (k code : Int) (w : World) (h : RdI R A n c T o s w) (hn : n ≤ 1048576) (hk : k ≠ 0) : Calls Tryz.prog 111 #[.pointer (some ⟨R, 0, none⟩), .int .i64 k, .int .i64 code] w (RtI R A n c T o (.string (takeR T s k code).2) (takeR T s k code).1 w) := by
  obtain ⟨⟨k0, k1, ko, k2⟩, ⟨f1, f3, f2⟩, lR⟩ := h.cells
  have H := Lib.hid h
  by_cases h0 : s.code = 0
  · rw [h0] at k2
    by_cases h1 : kindT T s.i = k
    · have hlt : s.i < T.length := kindT_lt (by rw [h1]; exact hk)
      obtain ⟨b, off, rfl, hbR, hbl, q0, q1⟩ := h.tok (i := s.i) (by rw [← h.l]; exact hlt)
      have HE := Lib.hid (takeR_yes (c := code) h0 h1)
      have hz : s.i + 1 ≤ 1048577 := by have := h.l; omega
      have hsn : s.i < n := by have := h.l; omega
      have d1 : (kindT T s.i != k) = false := by simp [h1]
      have HN := Lib.hid (fun m => (h.drewN m).atv (i := s.i + 1) (v := (s.i : Int) + 1) hlt (by simp))
      rw [h0] at HN
      have hnb : b ≠ R := by omega
      obtain ⟨word, hw⟩ : ∃ word, word = textT T s.i := ⟨_, rfl⟩
      rw [← hw] at q1 HE
      clear h h0 hw
      go_enter Tryz.func111, Tryz.ntmps111
      go_wp2_with (go_at_call 108; refine (kind_any R n c _ T o s w H.out hn).mono ?_; rintro e w' ⟨rfl, m, rfl⟩)
      go_quiet (fail)
      go_wp2_with fail
      go_ret
      exact ⟨by rw [HE.out]; rfl, by rw [HE.out]; exact (HN.out m).drewN nq, gr_drewN ((gr_drewN (World.grownBy.refl _ _) m).andThen (gr_set _) (fun j hj => .inr hj)) nq⟩
    · have HE := Lib.hid (takeR_no (c := code) (fun (h : s.code = 0 ∧ kindT T s.i = k) => h1 h.2))
      have d1 : (kindT T s.i != k) = true := by simp [h1]
      clear h
      go_enter Tryz.func111, Tryz.ntmps111
      go_wp2_with (first | (go_at_call 108; refine (kind_any R n c _ T o s w H.out hn).mono ?_; rintro e w' ⟨rfl, m, rfl⟩) | (go_at_call 109; refine (fail_any R n c _ T o s code _ (H.out.drewN _)).mono ?_; rintro e w' ⟨rfl, hr, hg⟩))
      go_ret
      exact ⟨by rw [HE.out]; rfl, by rw [HE.out]; exact hr, (gr_drewN (World.grownBy.refl _ _) _).andThen hg (fun j hj => .inr hj)⟩
  · have HE := Lib.hid ((takeR_no (c := code) (fun (h : s.code = 0 ∧ kindT T s.i = k) => h0 h.1)).trans (by rw [failR_1 h0]))
    have d0 : (s.code != 0) = true := by simp [h0]
    clear h
    go_enter Tryz.func111, Tryz.ntmps111
    go_wp2_with fail
    go_ret
    exact ⟨by rw [HE.out]; rfl, by rw [HE.out]; exact H.out, World.grownBy.refl _ _⟩
end Go.Proofs.YthkbckkghnbonaaGreatDoor
namespace Go.Proofs.YthkbckkghnbonaaGreatDoor
open Go.RowKit
set_option linter.unusedVariables false
/-- What a number read from a word is: it is of 1 .. 9 only where the word is its digit. -/
def NumOf (s : ByteArray) (n : Int) (ok : Bool) : Prop := (ok = true → 1 ≤ n → n ≤ 9 → s = dig n) ∧ (∀ x : Int, 1 ≤ x → x ≤ 9 → s = dig x → ok = true ∧ n = x)
theorem small9 {x : Int} (h0 : 1 ≤ x) (h1 : x ≤ 9) : x = 1 ∨ x = 2 ∨ x = 3 ∨ x = 4 ∨ x = 5 ∨ x = 6 ∨ x = 7 ∨ x = 8 ∨ x = 9 := by omega
theorem numOf_no {s : ByteArray} (h : ∀ x : Int, 1 ≤ x → x ≤ 9 → s ≠ dig x) (n : Int) : NumOf s n false := ⟨fun h => by simp at h, fun x h1 h2 e => absurd e (h x h1 h2)⟩
theorem numW_dig9 {n : Int} (h : 1 ≤ n ∧ n ≤ 9) : numW (dig n) = some n := by
  rcases small9 h.1 h.2 with rfl | rfl | rfl | rfl | rfl | rfl | rfl | rfl | rfl <;> rfl
theorem numW_some {s : ByteArray} {x : Int} (h : numW s = some x) : 1 ≤ x ∧ x ≤ 9 ∧ s = dig x := by
  unfold numW at h
  have h1 := List.find?_some h
  have h2 := List.mem_of_find?_eq_some h
  simp only [List.mem_cons, List.not_mem_nil, or_false] at h2
  refine ⟨by omega, by omega, ?_⟩
  have e : s.data.toList = (dig x).data.toList := by simpa using h1
  have e2 : s.data = (dig x).data := by cases hs : s.data; cases hd : (dig x).data; rw [hs, hd] at e; simp at e; rw [e]
  cases s
  cases hd : dig x
  rw [hd] at e2
  simp only at e2
  rw [e2]
theorem numOf_yes {s : ByteArray} {n : Int} (h : NumOf s n true) (h1 : 1 ≤ n) (h9 : n ≤ 9) : numW s = some n := by rw [h.1 rfl h1 h9]; exact numW_dig9 ⟨h1, h9⟩
theorem numOf_none {s : ByteArray} {n : Int} {ok : Bool} (h : NumOf s n ok) (hn : ¬ (ok = true ∧ 1 ≤ n ∧ n ≤ 9)) : numW s = none := by
  cases e : numW s with
  | none => rfl
  | some x =>
    obtain ⟨h1, h2, h3⟩ := numW_some e
    obtain ⟨h4, h5⟩ := h.2 x h1 h2 h3
    exact absurd ⟨h4, by omega, by omega⟩ hn
theorem atoi_dig {x : Int} (h1 : 1 ≤ x) (h2 : x ≤ 9) : Lib.atoi (dig x).data.toList = some x := by
  rcases small9 h1 h2 with rfl | rfl | rfl | rfl | rfl | rfl | rfl | rfl | rfl <;> decide
theorem itoa_dig {x : Int} (h1 : 1 ≤ x) (h2 : x ≤ 9) : (⟨(Lib.itoa x).toArray⟩ : ByteArray) = dig x := by
  rcases small9 h1 h2 with rfl | rfl | rfl | rfl | rfl | rfl | rfl | rfl | rfl <;> kernel_rfl
theorem numOf_bad {s : ByteArray} (h : Lib.atoi s.data.toList = none) (n : Int) : NumOf s n false := numOf_no (fun x h1 h2 e => by rw [e, atoi_dig h1 h2] at h; cases h) n
theorem numOf_out {s : ByteArray} {m : Int} (h : Lib.atoi s.data.toList = some m) (hm : m < 0 ∨ 999999 < m ∨ (⟨(Lib.itoa m).toArray⟩ : ByteArray) ≠ s) (n : Int) : NumOf s n false := numOf_no (fun x h1 h2 e => by
  rw [e, atoi_dig h1 h2] at h
  injection h with h
  subst h
  rcases hm with hm | hm | hm
  · omega
  · omega
  · exact hm ((itoa_dig h1 h2).trans e.symm)) n
theorem numOf_in {s : ByteArray} {m : Int} (h : Lib.atoi s.data.toList = some m) (hm : (⟨(Lib.itoa m).toArray⟩ : ByteArray) = s) : NumOf s m true :=
  ⟨fun _ h1 h2 => hm.symm.trans (itoa_dig h1 h2), fun x h1 h2 e => ⟨rfl, by rw [e, atoi_dig h1 h2] at h; injection h with h; exact h.symm⟩⟩
theorem ba_inj {a b : ByteArray} (h : a.toList = b.toList) : a = b := by
  rw [Lib.toList_data, Lib.toList_data] at h
  obtain ⟨⟨l⟩⟩ := a
  obtain ⟨⟨m⟩⟩ := b
  simp at h
  rw [h]
theorem below_growN (w : World) (k : Nat) (os : Array Obj) : Below w.heap.size w (Sort.grow (w.drewN k) os) := by
  refine ⟨rfl, rfl, rfl, ?_, fun i hi => ?_⟩
  · show w.heap.size ≤ (w.heap ++ os).size
    simp
  · show (w.heap ++ os)[i]? = w.heap[i]?
    rw [Array.getElem?_append_left hi]
def RetNum (s : ByteArray) (w : World) (e : Ending) (w' : World) : Prop := ∃ (n : Int) (ok : Bool), e = .returned (.tuple #[.int .i64 n, .bool ok]) ∧ NumOf s n ok ∧ Below w.heap.size w w' ∧ w.heap.size ≤ w'.heap.size
theorem Atoi_ok (s : ByteArray) (n : Int) (hl : s.size ≤ 18) (h : Lib.atoi s.data.toList = some n) (w : World) : Calls Tryz.prog 191 #[.string s] w fun e w' => e = .returned (.tuple #[.int .i64 n, .nilIface]) ∧ Below w.heap.size w w' := by
  refine (Tryz.strconv_Atoi s n hl h w).mono ?_
  rintro e w' ⟨rfl, t, rfl⟩
  exact ⟨rfl, Joins.below_bytesWorld _ _ _ _ (Nat.le_refl _)⟩
theorem Itoa_ok (n : Int) (h0 : 0 ≤ n) (h1 : n ≤ 999999) (w : World) (h : Lib.TabIs Tryz.prog w "internal/strconv.uint64pow10" .u64 Lib.pow10Tab) : Calls Tryz.prog 166 #[.int .i64 n] w fun e w' => e = .returned (.string ⟨(Lib.itoa n).toArray⟩) ∧ Below w.heap.size w w' := by
  refine (Tryz.strconv_Itoa n (by omega) (by omega) w h).mono ?_
  rintro e w' ⟨rfl, k, os, rfl⟩
  exact ⟨rfl, below_growN w k os⟩
set_option maxRecDepth 100000 in
set_option maxHeartbeats 4000000 in
theorem parse_any (s : ByteArray) (B : Nat) (w : World) (h : LVb B w) (hs : s.size ≤ 8) : Calls Tryz.prog 182 #[.string s, .int .i64 0, .int .i64 999999] w (RetNum s w) := by
  have h18 : s.size ≤ 18 := by omega
  cases ha : Lib.atoi s.data.toList with
  | none =>
    obtain ⟨tp, p, hv⟩ := h.es
    have HF := Lib.hid (numOf_bad ha 0)
    clear h
    go_enter Tryz.func182, Tryz.ntmps182
    go_wp2_with (go_at_call 191; refine (Tryz.strconv_Atoi_err_var s h18 ha tp p _ hv).mono ?_; rintro e w1 ⟨N, rfl, hN, _, hb⟩)
    go_ret2
    exact ⟨0, false, rfl, HF.out, hb, hb.size⟩
  | some m =>
    by_cases hneg : m < 0
    · have HF := Lib.hid (numOf_out ha (.inl hneg) 0)
      clear h
      go_enter Tryz.func182, Tryz.ntmps182
      go_wp2_with (go_at_call 191; refine (Atoi_ok s m h18 ha _).mono ?_; rintro e w1 ⟨rfl, b1⟩)
      go_ret2
      exact ⟨0, false, rfl, HF.out, b1, b1.size⟩
    by_cases hbig : 999999 < m
    · have HF := Lib.hid (numOf_out ha (.inr (.inl hbig)) 0)
      clear h
      go_enter Tryz.func182, Tryz.ntmps182
      go_wp2_with (go_at_call 191; refine (Atoi_ok s m h18 ha _).mono ?_; rintro e w1 ⟨rfl, b1⟩)
      go_ret2
      exact ⟨0, false, rfl, HF.out, b1, b1.size⟩
    obtain ⟨q, hq⟩ : ∃ q : ByteArray, q = ⟨(Lib.itoa m).toArray⟩ := ⟨_, rfl⟩
    have HQ := Lib.hid hq
    by_cases he : q = s
    · have HF := Lib.hid (numOf_in ha (hq.symm.trans he))
      have he2 : (q.toList == s.toList) = true := by simp [he]
      have he3 : (q.toList != s.toList) = false := by simp [he]
      clear he hq
      go_enter Tryz.func182, Tryz.ntmps182
      go_wp2_with (first | (go_at_call 191; refine (Atoi_ok s m h18 ha _).mono ?_; rintro e w1 ⟨rfl, b1⟩) | (go_at_call 166; refine (Itoa_ok m (by omega) (by omega) _ (h.below (b1.mono h.le)).tb).mono ?_; rintro e w2 ⟨rfl, b2⟩; rw [← HQ.out]))
      go_ret2
      exact ⟨m, true, rfl, HF.out, b1.trans (b2.mono b1.size), Nat.le_trans b1.size b2.size⟩
    · have HF := Lib.hid (numOf_out ha (.inr (.inr (fun e => he (hq.trans e)))) 0)
      have he1 : q.toList ≠ s.toList := fun e => he (ba_inj e)
      have he2 : (q.toList == s.toList) = false := by simp [he1]
      have he3 : (q.toList != s.toList) = true := by simp [he1]
      clear he hq
      go_enter Tryz.func182, Tryz.ntmps182
      go_wp2_with (first | (go_at_call 191; refine (Atoi_ok s m h18 ha _).mono ?_; rintro e w1 ⟨rfl, b1⟩) | (go_at_call 166; refine (Itoa_ok m (by omega) (by omega) _ (h.below (b1.mono h.le)).tb).mono ?_; rintro e w2 ⟨rfl, b2⟩; rw [← HQ.out]))
      go_ret2
      exact ⟨0, false, rfl, HF.out, b1.trans (b2.mono b1.size), Nat.le_trans b1.size b2.size⟩
set_option maxRecDepth 100000 in
set_option maxHeartbeats 1000000 in
theorem ParseNumber_impl (s : ByteArray) (B : Nat) (w : World) (h : LVb B w) (hs : s.size ≤ 8) : Calls Tryz.prog 167 #[.string s] w (RetNum s w) := by
  have H := Lib.hid h
  clear h
  go_enter Tryz.func167, Tryz.ntmps167
  go_wp2_with (go_at_call 182; refine (parse_any s B _ H.out hs).mono ?_; rintro e w1 ⟨n, ok, rfl, hn, hb, hz⟩)
  go_ret2
  exact ⟨n, ok, rfl, hn, hb, hz⟩
end Go.Proofs.YthkbckkghnbonaaGreatDoor
namespace Go.Proofs.YthkbckkghnbonaaGreatDoor
open Go.RowKit
set_option linter.unusedVariables false
theorem numR_yes {T : List Tk} {s : Rs} {x : Int} (h0 : s.code = 0) (h1 : kindT T s.i = 1) (h2 : numW (textT T s.i) = some x) : numR T s = (⟨s.i + 1, 0⟩, x) := by
  unfold numR
  rw [if_pos ⟨h0, h1⟩, h2]
theorem numR_bad {T : List Tk} {s : Rs} (h2 : numW (textT T s.i) = none) : numR T s = (failR s 6, 0) := by
  unfold numR
  split
  · rw [h2]
  · rfl
theorem numR_no {T : List Tk} {s : Rs} (h : ¬ (s.code = 0 ∧ kindT T s.i = 1)) : numR T s = (failR s 6, 0) := if_neg h
theorem inB_no {m : Int} (h : ¬ (1 ≤ m ∧ m ≤ 9)) : inB m 1 9 = false := by
  cases e : inB m 1 9
  · rfl
  · exact absurd (inB_iff.1 e) h
theorem word_le8 {T : List Tk} (hw : ∀ t ∈ T, wellTk t) (i : Nat) : (textT T i).size ≤ 8 := by
  unfold textT
  cases e : T[i]? with
  | none => exact Nat.zero_le _
  | some t =>
    rcases hw t (List.mem_of_getElem? e) with ⟨_, h⟩ | ⟨_, h⟩
    · exact (wordOk_size h).2
    · show t.s.size ≤ 8
      rw [h]
      exact Nat.zero_le _
theorem below_drewS1 {B : Nat} {a w : World} (h : Below B a w) : Below B a w.drew := ⟨h.os, h.tape, h.output, h.size, h.block⟩
set_option maxRecDepth 100000 in
set_option maxHeartbeats 4000000 in
theorem number_any (B R n c : Nat) (A : Option Addr) (T : List Tk) (o : Int) (s : Rs) (w : World) (h : RdI R A n c T o s w) (hv : LVb B w) (hBR : B ≤ R) (hn : n ≤ 1048576) (hT : ∀ t ∈ T, wellTk t) :
    Calls Tryz.prog 137 #[.pointer (some ⟨R, 0, none⟩)] w (RtI R A n c T o (.int .i64 (numR T s).2) (numR T s).1 w) := by
  obtain ⟨⟨k0, k1, ko, k2⟩, ⟨f1, f3, f2⟩, lR⟩ := h.cells
  have H := Lib.hid h
  have HV := Lib.hid hv
  clear hv
  by_cases h0 : s.code = 0
  · by_cases h1 : kindT T s.i = 1
    · have hlt : s.i < T.length := kindT_lt (by rw [h1]; decide)
      have hsn : s.i < n := by have := h.l; omega
      obtain ⟨b, off, rfl, hbR, hbl, q0, q1⟩ := h.tok hsn
      have hz8 := word_le8 hT s.i
      have HY := Lib.hid (fun x => numR_yes (T := T) (s := s) (x := x) h0 h1)
      have HB := Lib.hid (numR_bad (T := T) (s := s))
      have HK := Lib.hid h1
      have HFE := Lib.hid (failR_0 h0 6)
      have H0 := Lib.hid h0
      rw [h0] at k2
      obtain ⟨word, hw⟩ : ∃ word, word = textT T s.i := ⟨_, rfl⟩
      rw [← hw] at q1 hz8 HY HB
      have hnb : b ≠ R := by omega
      rw [h1] at q0
      clear h h0 hw
      go_enter Tryz.func137, Tryz.ntmps137
      go_wp2_with (go_at_call 108; refine (kind_any R n c _ T o s w H.out hn).mono ?_; rintro e w' ⟨rfl, m, rfl⟩; rw [HK.out])
      obtain ⟨wm, hwm⟩ : ∃ wm, wm = w.drewN m := ⟨_, rfl⟩
      have c0 : wm.cell? ⟨R, 0, none⟩ = some (.slice (some ⟨b, off, none⟩) n c) := by rw [hwm]; exact k0
      have c1 : wm.cell? ⟨R, 1, none⟩ = some (.int .i64 s.i) := by rw [hwm]; exact k1
      have c2 : wm.cell? ⟨b, off + s.i * 2 + 1, none⟩ = some (.string word) := by rw [hwm]; exact q1
      have b0 : Below w.heap.size w wm := by rw [hwm]; exact below_drewN (Below.refl _ _) m
      have B0 := Lib.hid b0
      have b0s := b0.size
      rw [← hwm]
      clear hwm b0
      go_region_held3 (fun W => W.cell? ⟨R, 0, none⟩ = some (.slice (some ⟨b, off, none⟩) n c) ∧ W.cell? ⟨R, 1, none⟩ = some (.int .i64 s.i) ∧ W.cell? ⟨b, off + s.i * 2 + 1, none⟩ = some (.string word)) (go_keep)
        ((go_at_call 167; (with_reducible refine (ParseNumber_impl word B _ ?_ hz8).mono ?_); exact HV.out.below (below_drewS1 (B0.out.mono HV.out.le)); rintro e w1 ⟨x, ok, rfl, hnum, hb9, hs0⟩; have hb0 : Below wm.heap.size wm w1 := ⟨hb9.os, hb9.tape, hb9.output, hb9.size, hb9.block⟩; have z0 : w1.cell? ⟨R, 0, none⟩ = some (.slice (some ⟨b, off, none⟩) n c) := (hb0.cell (p := ⟨R, 0, none⟩) (by show R < _; omega)).trans c0; have z1 : w1.cell? ⟨R, 1, none⟩ = some (.int .i64 s.i) := (hb0.cell (p := ⟨R, 1, none⟩) (by show R < _; omega)).trans c1; have z2 : w1.cell? ⟨b, off + s.i * 2 + 1, none⟩ = some (.string word) := (hb0.cell (p := ⟨b, off + s.i * 2 + 1, none⟩) (by show b < _; omega)).trans c2))
      have hb1 : Below w.heap.size w w1 := B0.out.trans (hb0.mono b0s)
      have hs1 := hb1.size
      have H1 := Lib.hid (H.out.below hb1)
      have HG := Lib.hid (only_of_below hb1 (some R))
      have NUM := Lib.hid hnum
      clear k0 k1 ko k2 f1 f2 f3 lR hb1 hs1 hnum q0 q1 c0 c1 c2 hb0 hs0 b0s hb9 z0 z1 z2
      obtain ⟨⟨k0, k1, ko, k2⟩, ⟨f1, f3, f2⟩, lR⟩ := H1.out.cells
      rw [H0.out] at k2
      by_cases hg : ok = true ∧ 1 ≤ x ∧ x ≤ 9
      · obtain ⟨rfl, hx1, hx9⟩ := hg
        have HE := Lib.hid (HY.out x (numOf_yes NUM.out hx1 hx9))
        have hin : inB x 1 9 = true := inB_t hx1 hx9
        have HN := Lib.hid (H1.out.atv (i := s.i + 1) (v := (s.i : Int) + 1) hlt (by simp))
        rw [H0.out] at HN
        have hz : s.i + 1 ≤ 1048577 := by omega
        go_wp2_with (go_at_call 44; refine (in_any _ _ _ _).mono ?_; rintro e w' ⟨rfl, rfl⟩; rw [hin])
        go_ret
        exact ⟨by rw [HE.out]; rfl, by rw [HE.out]; exact HN.out, HG.out.andThen (gr_set _) (fun j hj => .inr hj)⟩
      · have HE := Lib.hid (HB.out (numOf_none NUM.out hg))
        cases ok
        · go_wp2_with (go_at_call 109; refine (fail_any R n c _ T o s 6 _ H1.out).mono ?_; rintro e w' ⟨rfl, hr, hg⟩)
          go_ret
          exact ⟨by rw [HE.out]; rfl, by rw [HE.out]; exact hr, HG.out.andThen (by assumption) (fun j hj => .inr hj)⟩
        · have hin : inB x 1 9 = false := inB_no (fun h => hg ⟨rfl, h⟩)
          clear hg
          go_wp2_with (first | (go_at_call 44; refine (in_any _ _ _ _).mono ?_; rintro e w' ⟨rfl, rfl⟩; rw [hin]) | (go_at_call 109; refine (fail_any R n c _ T o s 6 _ H1.out).mono ?_; rintro e w' ⟨rfl, hr, hg⟩))
          go_ret
          exact ⟨by rw [HE.out]; rfl, by rw [HE.out]; exact hr, HG.out.andThen hg (fun j hj => .inr hj)⟩
    · have HE := Lib.hid (numR_no (T := T) (s := s) (fun h => h1 h.2))
      have d1 : (kindT T s.i == 1) = false := by simp [h1]
      have d2 : decide (kindT T s.i = 1) = false := decide_eq_false h1
      rw [h0] at k2
      clear h h0 h1
      go_enter Tryz.func137, Tryz.ntmps137
      go_wp2_with (first | (go_at_call 108; refine (kind_any R n c _ T o s w H.out hn).mono ?_; rintro e w' ⟨rfl, m, rfl⟩) | (go_at_call 109; refine (fail_any R n c _ T o s 6 _ (H.out.drewN _)).mono ?_; rintro e w' ⟨rfl, hr, hg⟩))
      go_ret
      exact ⟨by rw [HE.out]; rfl, by rw [HE.out]; exact hr, (gr_drewN (World.grownBy.refl _ _) _).andThen hg (fun j hj => .inr hj)⟩
  · have HE := Lib.hid ((numR_no (T := T) (s := s) (fun h => h0 h.1)).trans (by rw [failR_1 h0]))
    have d0 : (s.code != 0) = true := by simp [h0]
    clear h h0
    go_enter Tryz.func137, Tryz.ntmps137
    go_wp2_with fail
    go_ret
    exact ⟨by rw [HE.out]; rfl, by rw [HE.out]; exact H.out, World.grownBy.refl _ _⟩
end Go.Proofs.YthkbckkghnbonaaGreatDoor
namespace Go.Proofs.YthkbckkghnbonaaGreatDoor
open Go.RowKit
set_option linter.unusedVariables false
/-- What Tokenize returns: the tokens, and whether there are some. -/
def RetTkz (r : Option (List Tk)) (w : World) (e : Ending) (w' : World) : Prop :=
  ∃ (A : Option Addr) (c : Nat) (T : List Tk), T = r.getD [] ∧ e = .returned (.tuple #[.slice A T.length c, .bool r.isSome]) ∧ Rd w' 2 A T.length (tkcs T) ∧ Below w.heap.size w w' ∧ w.heap.size ≤ w'.heap.size
theorem bytes_drop {s : ByteArray} {k : Nat} (h : k < s.size) : s.data.toList.drop k = s[k] :: s.data.toList.drop (k + 1) := by
  have hl : k < s.data.toList.length := by simpa using h
  rw [List.drop_eq_getElem_cons hl]
  simp
  rfl
theorem bytes_len (s : ByteArray) : s.data.toList.length = s.size := by simp
theorem u8_ne {a : UInt8} {n : Nat} (hn : n < 256) (h : a ≠ UInt8.ofNat n) : ((a.toNat : Int) == (n : Int)) = false := by
  rw [beq_eq_false_iff_ne]
  intro e
  apply h
  apply UInt8.toNat_inj.1
  rw [UInt8.toNat_ofNat', Nat.mod_eq_of_lt hn]
  omega
/-- Where the letters from k on end. -/
theorem word_run {s : ByteArray} {k j : Nat} (hk : k ≤ j) (hj : j ≤ s.size) (h : ∀ q (hq : q < s.size), k ≤ q → q < j → letU s[q] = true) :
    (s.data.toList.drop k).takeWhile letU = (s.data.toList.drop k).take (j - k) ++ (s.data.toList.drop j).takeWhile letU ∧ (s.data.toList.drop k).dropWhile letU = (s.data.toList.drop j).dropWhile letU := by
  have hs : s.data.toList.drop k = (s.data.toList.drop k).take (j - k) ++ s.data.toList.drop j := by
    have h1 := List.take_append_drop (j - k) (s.data.toList.drop k)
    rw [List.drop_drop, Nat.add_sub_cancel' hk] at h1
    exact h1.symm
  have ha : ((s.data.toList.drop k).take (j - k)).all letU = true := by
    rw [List.all_eq_true]
    intro x hx
    obtain ⟨i, hi⟩ := List.mem_iff_getElem?.1 hx
    have hil := (List.getElem?_eq_some_iff.1 hi).1
    rw [List.length_take, List.length_drop, bytes_len] at hil
    rw [List.getElem?_take_of_lt (by omega), List.getElem?_drop] at hi
    have hq : k + i < s.size := by omega
    have := h (k + i) hq (by omega) (by omega)
    have e : s.data.toList[k + i]? = some s[k + i] := by
      rw [List.getElem?_eq_getElem (by rw [bytes_len]; exact hq)]
      simp
      rfl
    rw [e] at hi
    injection hi with hi
    rw [← hi]
    exact this
  obtain ⟨t1, t2⟩ := takeWhile_all_append letU _ (s.data.toList.drop j) ha
  exact ⟨by rw [← t1, ← hs], by rw [← t2, ← hs]⟩
theorem extract_bytes {s : ByteArray} {k j : Nat} (hk : k ≤ j) (hj : j ≤ s.size) : (s.extract k j).data.toList = (s.data.toList.drop k).take (j - k) := by
  rw [ByteArray.data_extract, Array.toList_extract]
theorem bytes_eq {a b : ByteArray} (h : a.data.toList = b.data.toList) : a = b := by
  cases a
  cases b
  congr 1
  exact Array.toList_inj.1 h
/-- The word that begins at k and ends at j. -/
theorem tkz_end {s : ByteArray} {k j : Nat} (hk : k ≤ j) (hj : j ≤ s.size) (hks : k < s.size) (h : ∀ q (hq : q < s.size), k ≤ q → q < j → letU s[q] = true) (he : ∀ hq : j < s.size, letU s[j] = false) (hb : blk s[k] = false) (hm : mrk s[k] = 0) (n : Nat) :
    (wordOk (s.extract k j) = false → tkz (s.data.toList.drop k) n = none) ∧ (wordOk (s.extract k j) = true → n < 160 → tkz (s.data.toList.drop k) n = (tkz (s.data.toList.drop j) (n + 1)).map (wTk (s.extract k j) :: ·)) := by
  obtain ⟨t1, t2⟩ := word_run hk hj h
  have hx := extract_bytes hk hj
  have hsz : (s.extract k j).size = j - k := by simp; omega
  have hj2 : (s.data.toList.drop j).takeWhile letU = [] ∧ (s.data.toList.drop j).dropWhile letU = s.data.toList.drop j := by
    rcases Nat.lt_or_ge j s.size with hq | hq
    · rw [bytes_drop hq, List.takeWhile_cons_of_neg (by rw [he hq]; decide), List.dropWhile_cons_of_neg (by rw [he hq]; decide)]
      exact ⟨rfl, rfl⟩
    · rw [List.drop_of_length_le (by rw [bytes_len]; exact hq)]
      exact ⟨rfl, rfl⟩
  rw [hj2.1, List.append_nil, ← hx] at t1
  rw [hj2.2] at t2
  rw [bytes_drop hks] at t1 t2 ⊢
  cases hl : letU s[k]
  · rw [List.takeWhile_cons_of_neg (by rw [hl]; decide)] at t1
    have h0 : (s.extract k j).size = 0 := by rw [← bytes_len, ← t1]; rfl
    refine ⟨fun _ => tkz_bad hb hm (by rw [hl]; rintro ⟨a, _⟩; cases a), fun hw => ?_⟩
    have := wordOk_size hw
    omega
  · rw [List.takeWhile_cons_of_pos hl] at t1
    rw [List.dropWhile_cons_of_pos hl] at t2
    have hlen := congrArg List.length t1
    rw [List.length_cons, bytes_len, hsz] at hlen
    refine ⟨fun hw => tkz_bad hb hm ?_, fun hw hn => ?_⟩
    · rintro ⟨_, h7⟩
      have := wordOk_of (l := s[k] :: (s.data.toList.drop (k + 1)).takeWhile letU) (by rw [List.all_cons, hl, all_takeWhile]; rfl) (by simp) (by rw [List.length_cons]; omega)
      rw [show (⟨(s[k] :: (s.data.toList.drop (k + 1)).takeWhile letU).toArray⟩ : ByteArray) = s.extract k j from bytes_eq (by rw [← t1])] at this
      rw [hw] at this
      cases this
    · have h8 := (wordOk_size hw).2
      rw [tkz_word hb hn hm hl (by omega), t2, show (⟨(s[k] :: (s.data.toList.drop (k + 1)).takeWhile letU).toArray⟩ : ByteArray) = s.extract k j from bytes_eq (by rw [← t1])]
theorem blk_eq {c : UInt8} (h1 : c ≠ 32) (h2 : c ≠ 10) : blk c = false := by simp [blk, h1, h2]
theorem mrk_eq {c : UInt8} (h1 : c ≠ 59) (h2 : c ≠ 123) (h3 : c ≠ 125) : mrk c = 0 := by simp [mrk, h1, h2, h3]
theorem map_snoc {α : Type} (T : List α) (x : α) (o : Option (List α)) : (o.map (x :: ·)).map (T ++ ·) = o.map (T ++ [x] ++ ·) := by cases o <;> simp
theorem tks_step {s : ByteArray} {k j : Nat} {T : List Tk} {x : Tk} (h : tkS s = (tkz (s.data.toList.drop k) T.length).map (T ++ ·)) (hx : tkz (s.data.toList.drop k) T.length = (tkz (s.data.toList.drop j) (T.length + 1)).map (x :: ·)) : tkS s = (tkz (s.data.toList.drop j) (T ++ [x]).length).map (T ++ [x] ++ ·) := by
  rw [h, hx, map_snoc, List.length_append]
  rfl
theorem tks_none {s : ByteArray} {k : Nat} {T : List Tk} (h : tkS s = (tkz (s.data.toList.drop k) T.length).map (T ++ ·)) (hx : tkz (s.data.toList.drop k) T.length = none) : tkS s = none := by rw [h, hx]; rfl
theorem u8_eq {a : UInt8} {n : Nat} (hn : n < 256) (h : a = UInt8.ofNat n) : ((a.toNat : Int) == (n : Int)) = true := by
  subst h
  rw [UInt8.toNat_ofNat', Nat.mod_eq_of_lt hn]
  simp
set_option maxRecDepth 100000 in
set_option maxHeartbeats 8000000 in
theorem Tokenize_impl (s : ByteArray) (w : World) (hs : s.size ≤ 1099511627776) : Calls Tryz.prog 52 #[.string s] w (RetTkz (tkS s) w) := by
  obtain ⟨i0, hi, hz0, hz1, hz2⟩ := info_parts info_TkE
  have hE := own_empty w 110 2
  have b0 : Below w.heap.size w (w.alloc (.cells #[] 110)) := (by repeat (first | exact Below.refl _ _ | assumption | (refine Below.trans ?_ (Below.mono (by assumption) (by first | omega | (simp; done) | (simp; omega)))) | (with_reducible refine Below.drew ?_) | (with_reducible refine Below.alloc ?_ (by first | omega | (simp; done) | (simp; omega)) _) | (with_reducible refine Below.setCell ?_ (by first | omega | (simp; done) | (simp; omega)) _)))
  have HE := Lib.hid hE
  have B0 := Lib.hid b0
  clear hE b0
  go_enter Tryz.func52, Tryz.ntmps52
  go_wp2_with fail
  go_loopw [4, 5] (fun v i wr => ∃ (k : Nat) (T : List Tk), k ≤ s.size ∧ i = .int .i64 k ∧ T.length ≤ 160 ∧ Hid (wr.ownsRow w.heap.size 110 2 v T.length (tkcs T)) ∧ Hid (tkS s = (tkz (s.data.toList.drop k) T.length).map (T ++ ·)) ∧ Hid (Below w.heap.size w wr)) (fun _ i _ => s.size - (intOf i).toNat)
  case atStart => exact ⟨0, [], Nat.zero_le _, rfl, Nat.zero_le _, HE.out, Lib.hid (by rw [List.drop_zero]; unfold tkS; cases tkz s.data.toList 0 <;> rfl), B0.out⟩
  case round =>
    obtain ⟨k, T, hk, rfl, hT, hown, hd, hb⟩ := hrel
    have hbs := hb.out.size
    obtain ⟨A0, c0, rfl, _, _, r0⟩ := rd_of_own hown.out
    have HR := Lib.hid r0
    clear r0
    by_cases hlt : k < s.size
    · have HD := Lib.hid (bytes_drop hlt)
      by_cases h32 : s[k] = 32
      · have e32 : ((s[k].toNat : Int) == 32) = true := u8_eq (n := 32) (by decide) h32
        have HN := Lib.hid (show tkS s = (tkz (s.data.toList.drop (k + 1)) T.length).map (T ++ ·) by rw [hd.out, HD.out, tkz_blk (by rw [h32]; rfl)])
        clear h32
        go_wp2_with fail
        go_roundw
        case rel => exact ⟨k + 1, T, by omega, by go_num, hT, hown, HN.out, hb⟩
        case measure => simp [intOf]; omega
      have e32 : ((s[k].toNat : Int) == 32) = false := u8_ne (n := 32) (by decide) h32
      by_cases h10 : s[k] = 10
      · have e10 : ((s[k].toNat : Int) == 10) = true := u8_eq (n := 10) (by decide) h10
        have HN := Lib.hid (show tkS s = (tkz (s.data.toList.drop (k + 1)) T.length).map (T ++ ·) by rw [hd.out, HD.out, tkz_blk (by rw [h10]; rfl)])
        clear h10
        go_wp2_with fail
        go_roundw
        case rel => exact ⟨k + 1, T, by omega, by go_num, hT, hown, HN.out, hb⟩
        case measure => simp [intOf]; omega
      have e10 : ((s[k].toNat : Int) == 10) = false := u8_ne (n := 10) (by decide) h10
      have HBK := Lib.hid (blk_eq h32 h10)
      clear h32 h10
      by_cases h59 : s[k] = 59
      · have e59 : ((s[k].toNat : Int) == 59) = true := u8_eq (n := 59) (by decide) h59
        have hmm : mrk s[k] = 2 := by rw [h59]; rfl
        have HZ := Lib.hid (show T.length < 160 → tkz (s.data.toList.drop k) T.length = (tkz (s.data.toList.drop (k + 1)) (T.length + 1)).map (pTk 2 :: ·) from fun hn => by rw [HD.out, tkz_mrk HBK.out hn (by rw [hmm]; decide), hmm]; rfl)
        have HF := Lib.hid (show 160 ≤ T.length → tkz (s.data.toList.drop k) T.length = none from fun hn => by rw [HD.out, tkz_full HBK.out hn])
        clear h59 hmm
        go_wp2_with (at_builtin; refine wpList_append_rd _ rfl _ _ 53 rfl w.heap.size 110 i0 _ 2 24 Tryz.underlying53 hi hz0 hz1 hz2 rfl (by decide) _ _ _ rfl (hown.out.alloc _) _ 1 1 _ rfl (rd_lit2 ?c0 rfl) ?c2 ?c3 ?c4 ?c5 ?_)
        case c0 => first | rfl | simp
        case c2 => repeat' (first | rfl | apply And.intro)
        case c3 => simp only [maxLen]; omega
        case c4 => omega
        case c5 => first | omega | (simp; omega)
        intro v6 w6 own6 gr6 _
        have hb6 := (hb.out.alloc hbs _).grown gr6 (by simp; omega) (own_ge hown.out)
        obtain ⟨A6, c6, rfl, _, _, r6⟩ := rd_of_own own6
        clear r6 gr6
        have HB6 := Lib.hid hb6
        have HO6 := Lib.hid own6
        have hb6s := hb6.size
        clear hb6 own6
        by_cases hf : T.length < 160
        · have HN := Lib.hid (tks_step hd.out (HZ.out hf))
          go_wp2_with fail
          go_roundw
          case rel => exact ⟨k + 1, T ++ [pTk 2], by omega, by go_num, by rw [List.length_append]; exact hf, by rw [List.length_append, tkcs_append]; exact HO6.out, HN.out, HB6.out⟩
          case measure => simp [intOf]; omega
        · have HN := Lib.hid (tks_none hd.out (HF.out (by omega)))
          go_wp2_with fail
          go_ret2
          exact ⟨none, 0, [], by rw [HN.out]; rfl, by rw [HN.out]; exact rfl, ⟨rfl, fun h => absurd h (by decide)⟩, HB6.out, hb6s⟩
      have e59 : ((s[k].toNat : Int) == 59) = false := u8_ne (n := 59) (by decide) h59
      by_cases h123 : s[k] = 123
      · have e123 : ((s[k].toNat : Int) == 123) = true := u8_eq (n := 123) (by decide) h123
        have hmm : mrk s[k] = 3 := by rw [h123]; rfl
        have HZ := Lib.hid (show T.length < 160 → tkz (s.data.toList.drop k) T.length = (tkz (s.data.toList.drop (k + 1)) (T.length + 1)).map (pTk 3 :: ·) from fun hn => by rw [HD.out, tkz_mrk HBK.out hn (by rw [hmm]; decide), hmm]; rfl)
        have HF := Lib.hid (show 160 ≤ T.length → tkz (s.data.toList.drop k) T.length = none from fun hn => by rw [HD.out, tkz_full HBK.out hn])
        clear h123 hmm
        go_wp2_with (at_builtin; refine wpList_append_rd _ rfl _ _ 53 rfl w.heap.size 110 i0 _ 2 24 Tryz.underlying53 hi hz0 hz1 hz2 rfl (by decide) _ _ _ rfl (hown.out.alloc _) _ 1 1 _ rfl (rd_lit2 ?c0 rfl) ?c2 ?c3 ?c4 ?c5 ?_)
        case c0 => first | rfl | simp
        case c2 => repeat' (first | rfl | apply And.intro)
        case c3 => simp only [maxLen]; omega
        case c4 => omega
        case c5 => first | omega | (simp; omega)
        intro v6 w6 own6 gr6 _
        have hb6 := (hb.out.alloc hbs _).grown gr6 (by simp; omega) (own_ge hown.out)
        obtain ⟨A6, c6, rfl, _, _, r6⟩ := rd_of_own own6
        clear r6 gr6
        have HB6 := Lib.hid hb6
        have HO6 := Lib.hid own6
        have hb6s := hb6.size
        clear hb6 own6
        by_cases hf : T.length < 160
        · have HN := Lib.hid (tks_step hd.out (HZ.out hf))
          go_wp2_with fail
          go_roundw
          case rel => exact ⟨k + 1, T ++ [pTk 3], by omega, by go_num, by rw [List.length_append]; exact hf, by rw [List.length_append, tkcs_append]; exact HO6.out, HN.out, HB6.out⟩
          case measure => simp [intOf]; omega
        · have HN := Lib.hid (tks_none hd.out (HF.out (by omega)))
          go_wp2_with fail
          go_ret2
          exact ⟨none, 0, [], by rw [HN.out]; rfl, by rw [HN.out]; exact rfl, ⟨rfl, fun h => absurd h (by decide)⟩, HB6.out, hb6s⟩
      have e123 : ((s[k].toNat : Int) == 123) = false := u8_ne (n := 123) (by decide) h123
      by_cases h125 : s[k] = 125
      · have e125 : ((s[k].toNat : Int) == 125) = true := u8_eq (n := 125) (by decide) h125
        have hmm : mrk s[k] = 4 := by rw [h125]; rfl
        have HZ := Lib.hid (show T.length < 160 → tkz (s.data.toList.drop k) T.length = (tkz (s.data.toList.drop (k + 1)) (T.length + 1)).map (pTk 4 :: ·) from fun hn => by rw [HD.out, tkz_mrk HBK.out hn (by rw [hmm]; decide), hmm]; rfl)
        have HF := Lib.hid (show 160 ≤ T.length → tkz (s.data.toList.drop k) T.length = none from fun hn => by rw [HD.out, tkz_full HBK.out hn])
        clear h125 hmm
        go_wp2_with (at_builtin; refine wpList_append_rd _ rfl _ _ 53 rfl w.heap.size 110 i0 _ 2 24 Tryz.underlying53 hi hz0 hz1 hz2 rfl (by decide) _ _ _ rfl (hown.out.alloc _) _ 1 1 _ rfl (rd_lit2 ?c0 rfl) ?c2 ?c3 ?c4 ?c5 ?_)
        case c0 => first | rfl | simp
        case c2 => repeat' (first | rfl | apply And.intro)
        case c3 => simp only [maxLen]; omega
        case c4 => omega
        case c5 => first | omega | (simp; omega)
        intro v6 w6 own6 gr6 _
        have hb6 := (hb.out.alloc hbs _).grown gr6 (by simp; omega) (own_ge hown.out)
        obtain ⟨A6, c6, rfl, _, _, r6⟩ := rd_of_own own6
        clear r6 gr6
        have HB6 := Lib.hid hb6
        have HO6 := Lib.hid own6
        have hb6s := hb6.size
        clear hb6 own6
        by_cases hf : T.length < 160
        · have HN := Lib.hid (tks_step hd.out (HZ.out hf))
          go_wp2_with fail
          go_roundw
          case rel => exact ⟨k + 1, T ++ [pTk 4], by omega, by go_num, by rw [List.length_append]; exact hf, by rw [List.length_append, tkcs_append]; exact HO6.out, HN.out, HB6.out⟩
          case measure => simp [intOf]; omega
        · have HN := Lib.hid (tks_none hd.out (HF.out (by omega)))
          go_wp2_with fail
          go_ret2
          exact ⟨none, 0, [], by rw [HN.out]; rfl, by rw [HN.out]; exact rfl, ⟨rfl, fun h => absurd h (by decide)⟩, HB6.out, hb6s⟩
      have e125 : ((s[k].toNat : Int) == 125) = false := u8_ne (n := 125) (by decide) h125
      have HMK := Lib.hid (mrk_eq h59 h123 h125)
      clear h59 h123 h125
      go_wp2_with fail
      go_loop [5] (fun i => ∃ j : Nat, k ≤ j ∧ j ≤ s.size ∧ i = .int .i64 j ∧ Hid (∀ q (hq : q < s.size), k ≤ q → q < j → letU s[q] = true)) (fun i => s.size - (intOf i).toNat)
      case atStart => exact ⟨k, Nat.le_refl _, hk, rfl, fun q _ h1 h2 => absurd h1 (by omega)⟩
      case round =>
        obtain ⟨j, hkj, hj, rfl, hle⟩ := hrel
        by_cases hjl : j < s.size
        · cases hlj : ltrB (s[j].toNat : Int)
          · have HE2 := Lib.hid (tkz_end hkj hj hlt hle.out (fun _ => hlj) HBK.out HMK.out T.length)
            have hxs : (s.extract k j).size ≤ 9223372036854775807 := by simp; omega
            cases hw : wordOk (s.extract k j)
            · have HN := Lib.hid (tks_none hd.out (HE2.out.1 hw))
              go_wp2_with (first | (go_at_call 100; refine (isLetter_any _ _).mono ?_; rintro e w' ⟨rfl, rfl⟩) | (go_at_call 42; refine (IsValidWord_impl _ _ hxs).mono ?_; rintro e w' ⟨rfl, rfl⟩))
              go_ret2
              exact ⟨none, 0, [], by rw [HN.out]; rfl, by rw [HN.out]; exact rfl, ⟨rfl, fun h => absurd h (by decide)⟩, hb.out, hbs⟩
            · have HZ := Lib.hid (HE2.out.2 hw)
              have HF := Lib.hid (show 160 ≤ T.length → tkz (s.data.toList.drop k) T.length = none from fun hn => by rw [HD.out, tkz_full HBK.out hn])
              have hkj1 : k < j := by have := (wordOk_size hw).1; have e : (s.extract k j).size ≤ j - k := (by simp; omega); omega
              go_wp2_with (first | (go_at_call 100; refine (isLetter_any _ _).mono ?_; rintro e w' ⟨rfl, rfl⟩) | (go_at_call 42; refine (IsValidWord_impl _ _ hxs).mono ?_; rintro e w' ⟨rfl, rfl⟩) | (at_builtin; refine wpList_append_rd _ rfl _ _ 53 rfl w.heap.size 110 i0 _ 2 24 Tryz.underlying53 hi hz0 hz1 hz2 rfl (by decide) _ _ _ rfl (hown.out.alloc _) _ 1 1 _ rfl (rd_lit2 ?c0 rfl) ?c2 ?c3 ?c4 ?c5 ?_))
              case c0 => first | rfl | simp
              case c2 => repeat' (first | rfl | apply And.intro)
              case c3 => simp only [maxLen]; omega
              case c4 => omega
              case c5 => first | omega | (simp; omega)
              intro v6 w6 own6 gr6 _
              have hb6 := (hb.out.alloc hbs _).grown gr6 (by simp; omega) (own_ge hown.out)
              obtain ⟨A6, c6, rfl, _, _, r6⟩ := rd_of_own own6
              clear r6 gr6
              have HB6 := Lib.hid hb6
              have HO6 := Lib.hid own6
              have hb6s := hb6.size
              clear hb6 own6
              by_cases hf : T.length < 160
              · have HN := Lib.hid (tks_step hd.out (HZ.out hf))
                go_wp2_with fail
                go_roundw
                case rel => exact ⟨j, T ++ [wTk (s.extract k j)], by omega, by go_num, by rw [List.length_append]; exact hf, by rw [List.length_append, tkcs_append]; exact HO6.out, HN.out, HB6.out⟩
                case measure => simp [intOf]; omega
              · have HN := Lib.hid (tks_none hd.out (HF.out (by omega)))
                go_wp2_with fail
                go_ret2
                exact ⟨none, 0, [], by rw [HN.out]; rfl, by rw [HN.out]; exact rfl, ⟨rfl, fun h => absurd h (by decide)⟩, HB6.out, hb6s⟩
          · have HS := Lib.hid (show ∀ q (hq : q < s.size), k ≤ q → q < j + 1 → letU s[q] = true from fun q hq h1 h2 => by
              rcases Nat.lt_or_ge q j with h3 | h3
              · exact hle.out q hq h1 h3
              · obtain rfl : q = j := by omega
                exact hlj)
            go_wp2_with (go_at_call 100; refine (isLetter_any _ _).mono ?_; rintro e w' ⟨rfl, rfl⟩)
            go_round
            case rel => exact ⟨j + 1, by omega, by omega, by go_num, HS.out⟩
            case measure => simp [intOf]; omega
        · have HE2 := Lib.hid (tkz_end hkj hj hlt hle.out (fun h => absurd h hjl) HBK.out HMK.out T.length)
          have hxs : (s.extract k j).size ≤ 9223372036854775807 := by simp; omega
          cases hw : wordOk (s.extract k j)
          · have HN := Lib.hid (tks_none hd.out (HE2.out.1 hw))
            go_wp2_with (go_at_call 42; refine (IsValidWord_impl _ _ hxs).mono ?_; rintro e w' ⟨rfl, rfl⟩)
            go_ret2
            exact ⟨none, 0, [], by rw [HN.out]; rfl, by rw [HN.out]; exact rfl, ⟨rfl, fun h => absurd h (by decide)⟩, hb.out, hbs⟩
          · have HZ := Lib.hid (HE2.out.2 hw)
            have HF := Lib.hid (show 160 ≤ T.length → tkz (s.data.toList.drop k) T.length = none from fun hn => by rw [HD.out, tkz_full HBK.out hn])
            have hkj1 : k < j := by have := (wordOk_size hw).1; have e : (s.extract k j).size ≤ j - k := (by simp; omega); omega
            go_wp2_with (first | (go_at_call 42; refine (IsValidWord_impl _ _ hxs).mono ?_; rintro e w' ⟨rfl, rfl⟩) | (at_builtin; refine wpList_append_rd _ rfl _ _ 53 rfl w.heap.size 110 i0 _ 2 24 Tryz.underlying53 hi hz0 hz1 hz2 rfl (by decide) _ _ _ rfl (hown.out.alloc _) _ 1 1 _ rfl (rd_lit2 ?c0 rfl) ?c2 ?c3 ?c4 ?c5 ?_))
            case c0 => first | rfl | simp
            case c2 => repeat' (first | rfl | apply And.intro)
            case c3 => simp only [maxLen]; omega
            case c4 => omega
            case c5 => first | omega | (simp; omega)
            intro v6 w6 own6 gr6 _
            have hb6 := (hb.out.alloc hbs _).grown gr6 (by simp; omega) (own_ge hown.out)
            obtain ⟨A6, c6, rfl, _, _, r6⟩ := rd_of_own own6
            clear r6 gr6
            have HB6 := Lib.hid hb6
            have HO6 := Lib.hid own6
            have hb6s := hb6.size
            clear hb6 own6
            by_cases hf : T.length < 160
            · have HN := Lib.hid (tks_step hd.out (HZ.out hf))
              go_wp2_with fail
              go_roundw
              case rel => exact ⟨j, T ++ [wTk (s.extract k j)], by omega, by go_num, by rw [List.length_append]; exact hf, by rw [List.length_append, tkcs_append]; exact HO6.out, HN.out, HB6.out⟩
              case measure => simp [intOf]; omega
            · have HN := Lib.hid (tks_none hd.out (HF.out (by omega)))
              go_wp2_with fail
              go_ret2
              exact ⟨none, 0, [], by rw [HN.out]; rfl, by rw [HN.out]; exact rfl, ⟨rfl, fun h => absurd h (by decide)⟩, HB6.out, hb6s⟩
    · obtain rfl : k = s.size := by omega
      have HF := Lib.hid (show tkS s = some T by
        rw [hd.out, List.drop_of_length_le (by rw [bytes_len]; exact Nat.le_refl _), tkz_nil]
        simp)
      go_wp2_with fail
      go_ret2
      exact ⟨A0, c0, T, by rw [HF.out]; rfl, by rw [HF.out]; exact rfl, HR.out, hb.out, hbs⟩
end Go.Proofs.YthkbckkghnbonaaGreatDoor
namespace Go.Proofs.YthkbckkghnbonaaGreatDoor
open Go.RowKit
set_option linter.unusedVariables false
/-- A slice in a block from lo on and below hi, whose cells may be written. -/
def SlI (w : World) (lo hi size : Nat) (A : Option Addr) (n : Nat) (xs : List Value) : Prop :=
  xs.length = n * size ∧ (0 < n → ∃ b off, A = some ⟨b, off, none⟩ ∧ (lo ≤ b ∧ b < hi ∧ b < w.heap.size) ∧ (∀ j u, xs[j]? = some u → w.cell? ⟨b, off + j, none⟩ = some u) ∧ ∀ j, w.frozen? ⟨b, off + j, none⟩ = false)
/-- Elements and their cells, each in an interval of its own that leaves out the block o. -/
def ElG {α : Type} (S : Nat → Nat → List Value → α → Prop) (o : Option Nat) (hi : Nat) : Nat → List (List Value) → List α → Prop
  | _, [], [] => True
  | lo, c :: cs, s :: l => ∃ m1 m2, (lo ≤ m1 ∧ m1 ≤ m2 ∧ m2 ≤ hi) ∧ (∀ k, o = some k → k < m1 ∨ m2 ≤ k) ∧ S m1 m2 c s ∧ ElG S o hi m2 cs l
  | _, _, _ => False
/-- The slice (A, n) reads as the statements l: all blocks from lo on and below hi, no two of them one. -/
def TrI (w : World) : (d : Nat) → Nat → Nat → Option Addr → Nat → List (Tr d) → Prop
  | 0, _, _, _, n, l => l.length = n ∧ n = 0
  | d + 1, lo, hi, A, n, l => l.length = n ∧ (0 < n → ∃ b off css, A = some ⟨b, off, none⟩ ∧ (lo ≤ b ∧ b < hi ∧ b < w.heap.size) ∧ (∀ j u, css.flatten[j]? = some u → w.cell? ⟨b, off + j, none⟩ = some u) ∧ (∀ j, w.frozen? ⟨b, off + j, none⟩ = false) ∧
      ElG (fun m1 m2 cs (s : Tr (d + 1)) => ∃ Aa ca Ab nb cb c, cs = scl (hdT s) Aa ca Ab nb cb ∧ (m1 ≤ c ∧ c ≤ m2) ∧ SlI w m1 c 1 Aa (hdT s).args.length (strs (hdT s).args) ∧ TrI w d c m2 Ab nb (bdT s) ∧ (hdT s).args.length ≤ ca) (some b) hi lo css l)
/-- Five cells that are a statement, its names from m1 on, its body behind them and below m2. -/
def StI (w : World) (d m1 m2 : Nat) (cs : List Value) (s : Tr (d + 1)) : Prop :=
  ∃ Aa ca Ab nb cb c, cs = scl (hdT s) Aa ca Ab nb cb ∧ (m1 ≤ c ∧ c ≤ m2) ∧ SlI w m1 c 1 Aa (hdT s).args.length (strs (hdT s).args) ∧ TrI w d c m2 Ab nb (bdT s) ∧ (hdT s).args.length ≤ ca
section
variable {w w' : World}
theorem TrI.len : ∀ {d lo hi n : Nat} {A : Option Addr} {l : List (Tr d)}, TrI w d lo hi A n l → l.length = n
  | 0, _, _, _, _, _, h => h.1
  | _ + 1, _, _, _, _, _, h => h.1
theorem trI_nil {lo hi : Nat} {A : Option Addr} : ∀ {d : Nat}, TrI w d lo hi A 0 []
  | 0 => ⟨rfl, rfl⟩
  | _ + 1 => ⟨rfl, fun h => absurd h (by omega)⟩
theorem SlI.keep {lo hi size n : Nat} {A : Option Addr} {xs : List Value} (h : SlI w lo hi size A n xs) (hk : ∀ b, lo ≤ b → b < hi → b < w.heap.size → w'.heap[b]? = w.heap[b]?) (hs : w.heap.size ≤ w'.heap.size) : SlI w' lo hi size A n xs :=
  ⟨h.1, fun h0 => by
    obtain ⟨b, off, e, ⟨h1, h2, h3⟩, hc, hf⟩ := h.2 h0
    have hb := hk b h1 h2 h3
    refine ⟨b, off, e, ⟨h1, h2, Nat.lt_of_lt_of_le h3 hs⟩, fun j u hu => ?_, fun j => ?_⟩
    · rw [← hc j u hu]; simp [World.cell?, hb]
    · rw [← hf j]; simp [World.frozen?, hb]⟩
theorem SlI.wide {lo lo' hi hi' size n : Nat} {A : Option Addr} {xs : List Value} (h : SlI w lo hi size A n xs) (hl : lo' ≤ lo) (hh : hi ≤ hi') : SlI w lo' hi' size A n xs :=
  ⟨h.1, fun h0 => by
    obtain ⟨b, off, e, ⟨h1, h2, h3⟩, hc, hf⟩ := h.2 h0
    exact ⟨b, off, e, ⟨Nat.le_trans hl h1, Nat.lt_of_lt_of_le h2 hh, h3⟩, hc, hf⟩⟩
theorem slI_none {lo hi size : Nat} {A : Option Addr} : SlI w lo hi size A 0 [] := ⟨by simp, fun h => absurd h (by omega)⟩
theorem slI_of_own {base E size n c : Nat} {A : Option Addr} {xs : List Value} (h : w.ownsRow base E size (.slice A n c) n xs) : SlI w base w.heap.size size A n xs := by
  have r := rd_own h
  refine ⟨r.1, fun h0 => ?_⟩
  obtain ⟨b, off, e, hb, hc⟩ := r.2 h0
  subst e
  rcases h.2 with ⟨e, e2⟩ | ⟨g, cap, cur, e, hg, hh, _⟩
  · omega
  · injection e with e e2 e3
    injection e with e
    injection e with e1 e4
    subst e1 e4
    exact ⟨b, 0, rfl, ⟨hg, hb, hb⟩, hc, fun j => free_at hh⟩
theorem SlI.rdq {lo hi size n : Nat} {A : Option Addr} {xs : List Value} (h : SlI w lo hi size A n xs) : RdL w lo size A n xs :=
  ⟨h.1, fun h0 => by
    obtain ⟨b, off, e, ⟨h1, h2, h3⟩, hc, hf⟩ := h.2 h0
    exact ⟨b, off, e, h1, h3, hc⟩⟩
theorem ElG.mono {α : Type} {S S' : Nat → Nat → List Value → α → Prop} {o o' : Option Nat} {hi hi' : Nat} (hh : hi ≤ hi') :
    ∀ {css : List (List Value)} {l : List α} {lo lo' : Nat}, lo' ≤ lo → ElG S o hi lo css l →
    (∀ m1 m2 c s, lo ≤ m1 → m1 ≤ m2 → m2 ≤ hi → (∀ k, o = some k → k < m1 ∨ m2 ≤ k) → S m1 m2 c s → S' m1 m2 c s ∧ ∀ k, o' = some k → k < m1 ∨ m2 ≤ k) → ElG S' o' hi' lo' css l
  | [], [], _, _, _, _, _ => trivial
  | _ :: _, _ :: _, lo, lo', hl, ⟨m1, m2, ⟨h1, h2, h3⟩, h4, h5, h6⟩, f => by
    obtain ⟨a, b⟩ := f m1 m2 _ _ h1 h2 h3 h4 h5
    exact ⟨m1, m2, ⟨Nat.le_trans hl h1, h2, Nat.le_trans h3 hh⟩, b, a, ElG.mono hh (Nat.le_refl _) h6 (fun n1 n2 c s g1 g2 g3 g4 g5 => f n1 n2 c s (by omega) g2 g3 g4 g5)⟩
  | [], _ :: _, _, _, _, h, _ => h.elim
  | _ :: _, [], _, _, _, h, _ => h.elim
theorem ElG.snoc {α : Type} {S : Nat → Nat → List Value → α → Prop} {o : Option Nat} {hi m1 m2 : Nat} {c : List Value} {s : α} (h1 : hi ≤ m1) (h2 : m1 ≤ m2) (h3 : ∀ k, o = some k → k < m1 ∨ m2 ≤ k) (h4 : S m1 m2 c s) :
    ∀ {css : List (List Value)} {l : List α} {lo : Nat}, lo ≤ hi → ElG S o hi lo css l → ElG S o m2 lo (css ++ [c]) (l ++ [s])
  | [], [], _, hl, _ => ⟨m1, m2, ⟨by omega, h2, Nat.le_refl _⟩, h3, h4, trivial⟩
  | _ :: _, _ :: _, _, _, ⟨n1, n2, ⟨g1, g2, g3⟩, g4, g5, g6⟩ => ⟨n1, n2, ⟨g1, g2, by omega⟩, g4, g5, ElG.snoc h1 h2 h3 h4 g3 g6⟩
  | [], _ :: _, _, _, h => h.elim
  | _ :: _, [], _, _, h => h.elim
theorem ElG.len {α : Type} {S : Nat → Nat → List Value → α → Prop} {o : Option Nat} {hi : Nat} (hS : ∀ m1 m2 c s, S m1 m2 c s → c.length = 5) :
    ∀ {css : List (List Value)} {l : List α} {lo : Nat}, ElG S o hi lo css l → css.length = l.length ∧ ∀ c ∈ css, c.length = 5
  | [], [], _, _ => ⟨rfl, by simp⟩
  | _ :: _, _ :: _, _, ⟨m1, m2, _, _, h5, h6⟩ => by
    obtain ⟨a, b⟩ := ElG.len hS h6
    refine ⟨by simp [a], fun c hc => ?_⟩
    rcases List.mem_cons.1 hc with rfl | hc
    · exact hS _ _ _ _ h5
    · exact b c hc
  | [], _ :: _, _, h => h.elim
  | _ :: _, [], _, h => h.elim
theorem ElG.get {α : Type} {S : Nat → Nat → List Value → α → Prop} {o : Option Nat} {hi : Nat} :
    ∀ {css : List (List Value)} {l : List α} {lo : Nat}, ElG S o hi lo css l → ∀ {i : Nat} {s : α}, l[i]? = some s → ∃ m1 m2 c, css[i]? = some c ∧ (lo ≤ m1 ∧ m1 ≤ m2 ∧ m2 ≤ hi) ∧ (∀ k, o = some k → k < m1 ∨ m2 ≤ k) ∧ S m1 m2 c s
  | [], [], _, _, i, s, h => by simp at h
  | c :: _, _ :: _, lo, ⟨m1, m2, h1, h4, h5, h6⟩, 0, s, h => by
    simp only [List.getElem?_cons_zero, Option.some.injEq] at h
    subst h
    exact ⟨m1, m2, c, rfl, h1, h4, h5⟩
  | _ :: _, _ :: _, lo, ⟨m1, m2, h1, h4, h5, h6⟩, i + 1, s, h => by
    simp only [List.getElem?_cons_succ] at h
    obtain ⟨n1, n2, c, g1, g2, g3, g4⟩ := ElG.get h6 h
    exact ⟨n1, n2, c, by simpa using g1, by omega, g3, g4⟩
  | [], _ :: _, _, h, _, _, _ => h.elim
  | _ :: _, [], _, h, _, _, _ => h.elim
theorem StI.len {d m1 m2 : Nat} {cs : List Value} {s : Tr (d + 1)} (h : StI w d m1 m2 cs s) : cs.length = 5 := by
  obtain ⟨Aa, ca, Ab, nb, cb, c, rfl, _⟩ := h
  rfl
theorem StI.ones {d m1 m2 : Nat} {cs : List Value} {s : Tr (d + 1)} (h : StI w d m1 m2 cs s) : ∀ u ∈ cs, u.oneCell' = true := by
  obtain ⟨Aa, ca, Ab, nb, cb, c, rfl, _⟩ := h
  intro u hu
  simp only [scl, List.mem_cons, List.not_mem_nil, or_false] at hu
  rcases hu with rfl | rfl | rfl | rfl | rfl <;> rfl
theorem TrI.wide {hi' lo' : Nat} : ∀ {d lo hi n : Nat} {A : Option Addr} {l : List (Tr d)}, TrI w d lo hi A n l → lo' ≤ lo → hi ≤ hi' → TrI w d lo' hi' A n l := by
  intro d lo hi n A l h hl hh
  cases d with
  | zero => exact h
  | succ d =>
    refine ⟨h.1, fun h0 => ?_⟩
    obtain ⟨b, off, css, e, ⟨h1, h2, h3⟩, hc, hf, he⟩ := h.2 h0
    exact ⟨b, off, css, e, ⟨Nat.le_trans hl h1, Nat.lt_of_lt_of_le h2 hh, h3⟩, hc, hf, ElG.mono hh hl he (fun _ _ _ _ _ _ _ g1 g2 => ⟨g2, g1⟩)⟩
theorem TrI.keep (hs : w.heap.size ≤ w'.heap.size) : ∀ {d lo hi n : Nat} {A : Option Addr} {l : List (Tr d)}, TrI w d lo hi A n l → (∀ b, lo ≤ b → b < hi → b < w.heap.size → w'.heap[b]? = w.heap[b]?) → TrI w' d lo hi A n l := by
  intro d
  induction d with
  | zero => intro lo hi n A l h _; exact h
  | succ d ih =>
    intro lo hi n A l h hk
    refine ⟨h.1, fun h0 => ?_⟩
    obtain ⟨b, off, css, e, ⟨h1, h2, h3⟩, hc, hf, he⟩ := h.2 h0
    have hb := hk b h1 h2 h3
    refine ⟨b, off, css, e, ⟨h1, h2, Nat.lt_of_lt_of_le h3 hs⟩, fun j u hu => ?_, fun j => ?_, ElG.mono (Nat.le_refl _) (Nat.le_refl _) he (fun m1 m2 cs s a1 a2 a3 g1 g2 => ⟨?_, g1⟩)⟩
    · rw [← hc j u hu]; simp [World.cell?, hb]
    · rw [← hf j]; simp [World.frozen?, hb]
    · obtain ⟨Aa, ca, Ab, nb, cb, c, k1, ⟨k2, k3⟩, k4, k5, k6⟩ := g2
      exact ⟨Aa, ca, Ab, nb, cb, c, k1, ⟨k2, k3⟩, k4.keep (fun b p1 p2 p3 => hk b (by omega) (by omega) p3) hs, ih k5 (fun b p1 p2 p3 => hk b (by omega) (by omega) p3), k6⟩
theorem StI.keep {d m1 m2 : Nat} {cs : List Value} {s : Tr (d + 1)} (h : StI w d m1 m2 cs s) (hs : w.heap.size ≤ w'.heap.size) (hk : ∀ b, m1 ≤ b → b < m2 → b < w.heap.size → w'.heap[b]? = w.heap[b]?) : StI w' d m1 m2 cs s := by
  obtain ⟨Aa, ca, Ab, nb, cb, c, k1, ⟨k2, k3⟩, k4, k5, k6⟩ := h
  exact ⟨Aa, ca, Ab, nb, cb, c, k1, ⟨k2, k3⟩, k4.keep (fun b p1 p2 p3 => hk b (by omega) (by omega) p3) hs, k5.keep hs (fun b p1 p2 p3 => hk b (by omega) (by omega) p3), k6⟩
theorem stI_mk {d m1 c m2 ca nb cb n : Nat} {h : SH} {Aa Ab : Option Addr} {bd : List (Tr d)} (hn : h.args.length = n) (h1 : m1 ≤ c) (h2 : c ≤ m2) (ha : SlI w m1 c 1 Aa n (strs h.args)) (hb : TrI w d c m2 Ab nb bd) (hc : n ≤ ca) :
    StI w d m1 m2 [.int .i64 h.k, .string h.word, .slice Aa n ca, .int .i64 h.count, .slice Ab nb cb] (mkT h bd) := by
  subst hn
  exact ⟨Aa, ca, Ab, nb, cb, c, rfl, ⟨h1, h2⟩, ha, hb, hc⟩
theorem TrI.rdt : ∀ {d lo hi n : Nat} {A : Option Addr} {l : List (Tr d)}, TrI w d lo hi A n l → RdT w lo d A n l := by
  intro d
  induction d with
  | zero => intro lo hi n A l h; exact h
  | succ d ih =>
    intro lo hi n A l h
    refine ⟨h.1, fun h0 => ?_⟩
    obtain ⟨b, off, css, e, ⟨h1, h2, h3⟩, hc, hf, he⟩ := h.2 h0
    refine ⟨b, off, e, h1, h3, fun i s hi => ?_⟩
    have h5 := (ElG.len (fun _ _ _ _ h => StI.len (w := w) h) he).2
    obtain ⟨m1, m2, c, hci, ⟨g1, g2, g3⟩, _, Aa, ca, Ab, nb, cb, cc, rfl, ⟨k2, k3⟩, k4, k5, k6⟩ := ElG.get he hi
    have f : ∀ j, j < 5 → ∀ u, (scl (hdT s) Aa ca Ab nb cb)[j]? = some u → w.cell? ⟨b, off + (i * 5 + j), none⟩ = some u := fun j hj u hu => hc _ _ ((flat5 (R := fun c => c.length = 5) (fun _ h => h) css h5 i j _ hci hj).trans hu)
    refine ⟨Aa, ca, Ab, nb, cb, ⟨f 0 (by decide) _ rfl, ?_, ?_, ?_, ?_⟩, k4.rdq.lower (by omega), (ih k5).lower (by omega), k6⟩
    · have := f 1 (by decide) _ rfl; rwa [← Nat.add_assoc] at this
    · have := f 2 (by decide) _ rfl; rwa [← Nat.add_assoc] at this
    · have := f 3 (by decide) _ rfl; rwa [← Nat.add_assoc] at this
    · have := f 4 (by decide) _ rfl; rwa [← Nat.add_assoc] at this
end
/-- A row of statements of the call's own, what they point to in intervals from base on and below hi, the row itself in none of them. -/
def OwnI (w : World) (base hi d : Nat) (v : Value) (l : List (Tr (d + 1))) : Prop :=
  ∃ css, w.ownsRow base 66 5 v l.length css.flatten ∧ (base ≤ hi ∧ hi ≤ w.heap.size) ∧ ElG (StI w d) v.ownBlock hi base css l
section
variable {w w' : World} {base hi d : Nat} {v : Value} {l : List (Tr (d + 1))}
theorem OwnI.grown {row : Option Nat} (h : OwnI w base hi d v l) (hg : w.grownBy w' row) (hr : ∀ k, row = some k → k < base) : OwnI w' base hi d v l := by
  obtain ⟨css, ho, ⟨h1, h2⟩, he⟩ := h
  refine ⟨css, ho.kept hg ?_, ⟨h1, Nat.le_trans h2 hg.size⟩, ElG.mono (Nat.le_refl _) (Nat.le_refl _) he (fun m1 m2 c s a1 a2 a3 g1 g2 => ⟨g2.keep hg.size (fun b p1 p2 p3 => hg.block b p3 (fun e => ?_)), g1⟩)⟩
  · cases hk : v.ownBlock with
    | none => exact .inl rfl
    | some k =>
      refine .inr fun e => ?_
      have h1 := hr k e.symm
      have h2 := (ho.lt k hk).1
      omega
  · have := hr b e.symm
    omega
theorem OwnI.below (h : OwnI w base hi d v l) (hb : Below w.heap.size w w') : OwnI w' base hi d v l :=
  h.grown (row := none) ⟨hb.os, hb.tape, hb.output, hb.size, fun k hk _ => hb.block k hk⟩ (fun k e => by cases e)
theorem ownI_empty (w : World) (d : Nat) : OwnI (w.alloc (.cells #[] 66)) w.heap.size w.heap.size d (.slice (some ⟨w.heap.size, 0, none⟩) 0 0) [] := ⟨[], own_empty w _ 5, ⟨Nat.le_refl _, by simp⟩, trivial⟩
theorem OwnI.slice (h : OwnI w base hi d v l) : ∃ A c, v = .slice A l.length c ∧ l.length ≤ c ∧ c ≤ maxLen := by
  obtain ⟨css, ho, _⟩ := h
  obtain ⟨A, c, e, h1, h2, _⟩ := rd_of_own ho
  exact ⟨A, c, e, h1, h2⟩
theorem OwnI.lt (h : OwnI w base hi d v l) : ∀ k, v.ownBlock = some k → k < w.heap.size := fun k hk => by
  obtain ⟨xs, ho, _⟩ := h
  exact (ho.lt k hk).2
/-- The row, open for one more statement, which lies behind it. -/
theorem OwnI.add {m1 m2 : Nat} {cs : List Value} {s : Tr (d + 1)} (h : OwnI w base hi d v l) (hv : ∀ k, v.ownBlock = some k → k < m1) (h1 : hi ≤ m1) (h2 : m1 ≤ m2) (h3 : m2 ≤ w.heap.size) (hs : StI w d m1 m2 cs s) :
    ∃ xs, w.ownsRow base 66 5 v l.length xs ∧ ∀ (wa w6 : World) (v6 : Value), w6.ownsRow base 66 5 v6 (l.length + 1) (xs ++ cs) → Below w.heap.size w wa → wa.grownBy w6 v.ownBlock → (v6.ownBlock = v.ownBlock ∨ v6.ownBlock = some wa.heap.size) → OwnI w6 base m2 d v6 (l ++ [s]) := by
  obtain ⟨css, ho, ⟨a1, a2⟩, he⟩ := h
  refine ⟨css.flatten, ho, fun wa w6 v6 h6 hba hg hat => ?_⟩
  have hsz : w.heap.size ≤ w6.heap.size := Nat.le_trans hba.size hg.size
  refine ⟨css ++ [cs], ?_, ⟨by omega, by omega⟩, ElG.mono (Nat.le_refl _) (Nat.le_refl _) (ElG.snoc h1 h2 (fun k hk => .inl (hv k hk)) hs a1 he) (fun n1 n2 c s b1 b2 b3 g1 g2 => ⟨g2.keep hsz (fun b p1 p2 p3 => ?_), fun k hk => ?_⟩)⟩
  · rw [List.flatten_append, List.length_append]
    simpa using h6
  · refine (hg.block b (Nat.lt_of_lt_of_le p3 hba.size) (fun e => ?_)).trans (hba.block b p3)
    have := g1 b e.symm
    omega
  · rcases hat with e | e
    · exact g1 k (e ▸ hk)
    · rw [hk] at e
      injection e with e
      have := hba.size
      omega
theorem OwnI.tr {A : Option Addr} {n c : Nat} (h : OwnI w base hi d (.slice A n c) l) (hn : l.length = n) : TrI w (d + 1) base w.heap.size A n l := by
  obtain ⟨css, ho, ⟨a1, a2⟩, he⟩ := h
  rw [hn] at ho
  have r := rd_own ho
  refine ⟨hn, fun h0 => ?_⟩
  obtain ⟨b, off, e, hb, hc⟩ := r.2 h0
  subst e
  rcases ho.2 with ⟨e, e2⟩ | ⟨g, cap, cur, e, hg, hh, _⟩
  · omega
  · injection e with e e2 e3
    injection e with e
    injection e with e1 e4
    subst e1 e4
    exact ⟨b, 0, css, rfl, ⟨hg, hb, hb⟩, hc, fun j => free_at hh, ElG.mono a2 (Nat.le_refl _) he (fun _ _ _ _ _ _ _ g1 g2 => ⟨g2, g1⟩)⟩
end
end Go.Proofs.YthkbckkghnbonaaGreatDoor
namespace Go.Proofs.YthkbckkghnbonaaGreatDoor
open Go.RowKit
set_option linter.unusedVariables false
theorem namesR_step {T : List Tk} {m t : Nat} {s st : Rs} {Q : List ByteArray} (ht : t < m) (h : namesR T m s = ((namesR T (m - t) st).1, Q ++ (namesR T (m - t) st).2)) :
    namesR T m s = ((namesR T (m - (t + 1)) (takeR T st 1 3).1).1, (Q ++ [(takeR T st 1 3).2]) ++ (namesR T (m - (t + 1)) (takeR T st 1 3).1).2) := by
  obtain ⟨f, hf⟩ : ∃ f, m - t = f + 1 := ⟨m - t - 1, by omega⟩
  have hf2 : m - (t + 1) = f := by omega
  rw [h, hf, hf2, namesR]
  simp
theorem strs_snoc1 (Q : List ByteArray) (a : ByteArray) : strs (Q ++ [a]) = strs Q ++ [.string a] := by simp [strs]
theorem one_strN (a : ByteArray) : ∀ u ∈ (#[Value.string a] : Array Value).toList, u.oneCell' = true := by
  intro u hu
  rw [List.mem_singleton.1 hu]
  rfl
def RnI (R : Nat) (A : Option Addr) (n c : Nat) (T : List Tk) (o : Int) (Q : List ByteArray) (s : Rs) (w : World) (e : Ending) (w' : World) : Prop :=
  ∃ A' c', e = .returned (.slice A' Q.length c') ∧ w'.ownsRow w.heap.size 9 1 (.slice A' Q.length c') Q.length (strs Q) ∧ RdI R A n c T o s w' ∧ w.grownBy w' (some R)
set_option maxRecDepth 100000 in
set_option maxHeartbeats 4000000 in
theorem names_any (R n c : Nat) (A : Option Addr) (T : List Tk) (o : Int) (s : Rs) (m : Nat) (w : World) (h : RdI R A n c T o s w) (hn : n ≤ 1048576) (hm : m ≤ 3) : Calls Tryz.prog 110 #[.pointer (some ⟨R, 0, none⟩), .int .i64 m] w (RnI R A n c T o (namesR T m s).2 (namesR T m s).1 w) := by
  obtain ⟨i0, hi, hz0, hz1, hz2⟩ := info_parts info_str
  have lR := h.cells.2.2
  have H := Lib.hid h
  clear h
  go_enter Tryz.func110, Tryz.ntmps110
  go_wp2_with fail
  obtain ⟨w0, hw0⟩ : ∃ w0, w0 = w.alloc (.cells #[] 9) := ⟨_, rfl⟩
  rw [← hw0]
  have b0 : Below w.heap.size w w0 := by rw [hw0]; exact (by repeat (first | exact Below.refl _ _ | assumption | (refine Below.trans ?_ (Below.mono (by assumption) (by first | omega | (simp; done) | (simp; omega)))) | (with_reducible refine Below.drew ?_) | (with_reducible refine Below.alloc ?_ (by first | omega | (simp; done) | (simp; omega)) _) | (with_reducible refine Below.setCell ?_ (by first | omega | (simp; done) | (simp; omega)) _)))
  have OW := Lib.hid (show w0.ownsRow w.heap.size 9 1 (.slice (some ⟨w.heap.size, 0, none⟩) 0 0) 0 [] by rw [hw0]; exact own_empty _ _ _)
  have H0 := Lib.hid (H.out.below b0)
  have G0 := Lib.hid (only_of_below b0 (some R))
  clear hw0 b0 H
  go_loopw [5, 6] (fun v i wr => ∃ (t : Nat) (Q : List ByteArray) (st : Rs), i = .int .i64 t ∧ t ≤ m ∧ Hid (Q.length = t) ∧ Hid (wr.ownsRow w.heap.size 9 1 v t (strs Q)) ∧ Hid (RdI R A n c T o st wr) ∧ Hid (w.grownBy wr (some R)) ∧ Hid (namesR T m s = ((namesR T (m - t) st).1, Q ++ (namesR T (m - t) st).2))) (fun _ i _ => m - (intOf i).toNat)
  case atStart => exact ⟨0, [], s, rfl, Nat.zero_le _, rfl, OW.out, H0.out, G0.out, rfl⟩
  case round =>
    obtain ⟨t, Q, st, rfl, ht, hQ, hown, hrd, hgr, heq⟩ := hrel
    obtain ⟨wE, rfl⟩ : ∃ wE : World, wE = wr := ⟨_, rfl⟩
    by_cases hlt : t < m
    · obtain ⟨A0, c0, rfl, _, _, _⟩ := rd_of_own hown.out
      go_wp2_with fail
      refine (take_any R n c A T o st 1 3 _ hrd.out hn (by decide)).mono ?_
      rintro e w1 ⟨rfl, hr1, hg1⟩
      have own1 := own_drawG hown.out hg1 lR
      have hgw := hgr.out.andThen hg1 (fun j hj => .inr hj)
      have hs1 := hgw.size
      have lr1 := hr1.cells.2.2
      have H1 := Lib.hid hr1
      have HG := Lib.hid hgw
      have HW := Lib.hid own1.lt
      clear hg1 hgw hr1
      go_wp2_with (at_builtin; refine wpList_append_rd _ rfl _ _ 24 rfl w.heap.size 9 i0 _ 1 16 Tryz.underlying24 hi hz0 hz1 hz2 rfl (by decide) _ _ _ rfl (own1.alloc _) _ 1 1 _ rfl (rd_lit1 ?c0 rfl) (one_strN _) ?c3 ?c4 ?c5 ?_)
      try (case c0 => first | rfl | simp)
      case c3 => simp only [maxLen]; omega
      case c4 => omega
      case c5 => first | omega | (simp; omega)
      intro v6 w6 own6 gr6 hat
      have hge : ∀ k, (Value.slice A0 t c0).ownBlock = some k → w.heap.size ≤ k := fun k hk => (own1.lt k hk).1
      have H6 := Lib.hid ((H1.out.below ((Below.refl _ _).alloc (Nat.le_refl _) _)).own gr6 (fun k hk => by have := hge k hk; omega))
      have G6 := Lib.hid (gr_own (gr_below HG.out ((Below.refl _ _).alloc (Nat.le_refl _) _)) gr6 hge)
      have O6 := Lib.hid own6
      clear gr6 own6 own1 hge
      go_wp2_with fail
      go_roundw
      case rel => exact ⟨t + 1, Q ++ [(takeR T st 1 3).2], (takeR T st 1 3).1, by go_num, by omega, by rw [List.length_append, hQ.out]; rfl, by rw [strs_snoc1]; exact O6.out, H6.out, G6.out, namesR_step hlt heq.out⟩
      case measure => simp [intOf]; omega
    · obtain rfl : t = m := by omega
      have HF : Hid (namesR T t s = (st, Q)) := by
        show namesR T t s = _
        rw [heq.out, Nat.sub_self]
        simp [namesR]
      obtain ⟨A0, c0, rfl, _, _, _⟩ := rd_of_own hown.out
      go_wp2_with fail
      go_ret
      rw [HF.out]
      exact ⟨A0, c0, by rw [hQ.out]; rfl, by rw [hQ.out]; exact hown.out, hrd.out, hgr.out⟩
end Go.Proofs.YthkbckkghnbonaaGreatDoor
