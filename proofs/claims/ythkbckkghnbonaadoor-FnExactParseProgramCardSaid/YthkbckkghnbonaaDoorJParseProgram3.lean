/- What the calls that this law reaches answer, part 3 of 12. -/
import Derived.Test.YthkbckkghnbonaaDoorJParseProgram2
import Derived.Test.YthkbckkghnbonaaDoorJParseProgram1
import Derived.Test.YthkbckkghnbonaaDoorProg
import Derived.Laws.IdiomStrings
namespace Go.Proofs.YthkbckkghnbonaaDoor
open Go.RowKit
set_option linter.unusedVariables false
theorem gr_set {W : World} {R j : Nat} (u : Value) : W.grownBy (W.setCell ⟨R, j, none⟩ u) (some R) := only_setCell (World.grownBy.refl W (some R)) rfl u
theorem gr_below {w W W' : World} {R : Nat} (h : w.grownBy W (some R)) (hb : Below W.heap.size W W') : w.grownBy W' (some R) := h.andThen (only_of_below hb none) (by simp)
theorem gr_own {w W W' : World} {R : Nat} {row : Option Nat} (h : w.grownBy W (some R)) (hg : W.grownBy W' row) (hr : ∀ k, row = some k → w.heap.size ≤ k) : w.grownBy W' (some R) := h.andThen hg (fun j hj => .inl (hr j hj))
theorem rdq_own {w W : World} {P : Nat → Prop} {size n : Nat} {A : Option Addr} {xs : List Value} {row : Option Nat} (h : RdQ w P size A n xs) (hg : w.grownBy W row) (hr : ∀ k, row = some k → ¬ P k) : RdQ W P size A n xs :=
  h.keep (fun b hb hlt => hg.block b hlt (fun e => hr b e.symm hb)) hg.size
/-- The reference's reader. -/
structure RdS (R : Nat) (A : Option Addr) (n c : Nat) (T : List Tk) (s : Rs) (W : World) : Prop where
  x : W.heap[R]? = some (.cells #[.slice A n c, .int .i64 s.i, .int .i64 s.code] 38 (0, 0))
  t : RdQ W (fun b => b < R) 2 A n (tkcs T)
  l : T.length = n
  i : s.i ≤ T.length
section
variable {R n c : Nat} {A : Option Addr} {T : List Tk} {s : Rs} {W W' : World}
theorem RdS.at_ (h : RdS R A n c T s W) {i : Nat} (hi : i ≤ T.length) : RdS R A n c T ⟨i, s.code⟩ (W.setCell ⟨R, 1, none⟩ (.int .i64 i)) := ⟨heap_set_selfG h.x _, h.t.set_ (fun hb => Nat.lt_irrefl _ hb) _, h.l, hi⟩
theorem RdS.code (h : RdS R A n c T s W) (v : Int) : RdS R A n c T ⟨s.i, v⟩ (W.setCell ⟨R, 2, none⟩ (.int .i64 v)) := ⟨heap_set_selfG h.x _, h.t.set_ (fun hb => Nat.lt_irrefl _ hb) _, h.l, h.i⟩
theorem RdS.atv (h : RdS R A n c T s W) {i : Nat} {v : Int} (hi : i ≤ T.length) (hv : v = i) : RdS R A n c T ⟨i, s.code⟩ (W.setCell ⟨R, 1, none⟩ (.int .i64 v)) := by rw [hv]; exact h.at_ hi
theorem RdS.drewN (h : RdS R A n c T s W) (k : Nat) : RdS R A n c T s (W.drewN k) := ⟨h.x, h.t, h.l, h.i⟩
theorem RdS.below (h : RdS R A n c T s W) (hb : Below W.heap.size W W') : RdS R A n c T s W' := ⟨(hb.block _ (lt_of_block h.x)).trans h.x, h.t.below hb, h.l, h.i⟩
theorem RdS.own {row : Option Nat} (h : RdS R A n c T s W) (hg : W.grownBy W' row) (hr : ∀ k, row = some k → R < k) : RdS R A n c T s W' :=
  ⟨(hg.block _ (lt_of_block h.x) (fun e => Nat.lt_irrefl _ (hr R e.symm))).trans h.x, rdq_own h.t hg (fun k hk hb => by have := hr k hk; omega), h.l, h.i⟩
theorem RdS.tok (h : RdS R A n c T s W) {i : Nat} (hi : i < n) : ∃ b off, A = some ⟨b, off, none⟩ ∧ b < R ∧ b < W.heap.size ∧ W.cell? ⟨b, off + i * 2, none⟩ = some (.int .i64 (kindT T i)) ∧ W.cell? ⟨b, off + i * 2 + 1, none⟩ = some (.string (textT T i)) := by
  obtain ⟨x, hx⟩ : ∃ x, T[i]? = some x := ⟨_, List.getElem?_eq_getElem (by rw [h.l]; exact hi)⟩
  obtain ⟨b, off, e, hb, hlt, hc⟩ := h.t.2 (by omega)
  have e1 : kindT T i = x.k := by unfold kindT; rw [hx]
  have e2 : textT T i = x.s := by unfold textT; rw [hx]
  exact ⟨b, off, e, hb, hlt, by rw [e1]; exact hc _ _ (tkcs_at hx).1, by rw [e2]; have := hc _ _ (tkcs_at hx).2; rwa [← Nat.add_assoc] at this⟩
theorem RdS.cells (h : RdS R A n c T s W) : (W.cell? ⟨R, 0, none⟩ = some (.slice A n c) ∧ W.cell? ⟨R, 1, none⟩ = some (.int .i64 s.i) ∧ W.cell? ⟨R, 2, none⟩ = some (.int .i64 s.code)) ∧ W.frozen? ⟨R, 1, none⟩ = false ∧ W.frozen? ⟨R, 2, none⟩ = false ∧ R < W.heap.size :=
  ⟨⟨cell_at (j := 0) h.x rfl, cell_at (j := 1) h.x rfl, cell_at (j := 2) h.x rfl⟩, free_at (j := 1) h.x, free_at (j := 2) h.x, lt_of_block h.x⟩
end
/-- A call that reads: what it returns, where the reader stands then; nothing else that was there turns. -/
def RtS (R : Nat) (A : Option Addr) (n c : Nat) (T : List Tk) (v : Value) (s : Rs) (w : World) (e : Ending) (w' : World) : Prop := e = .returned v ∧ RdS R A n c T s w' ∧ w.grownBy w' (some R)
/-- The program's reader. -/
structure RdI (R : Nat) (A : Option Addr) (n c : Nat) (T : List Tk) (o : Int) (s : Rs) (W : World) : Prop where
  x : W.heap[R]? = some (.cells #[.slice A n c, .int .i64 s.i, .int .i64 o, .int .i64 s.code] 46 (0, 0))
  t : RdQ W (fun b => b < R) 2 A n (tkcs T)
  l : T.length = n
  i : s.i ≤ T.length
section
variable {R n c : Nat} {A : Option Addr} {T : List Tk} {o : Int} {s : Rs} {W W' : World}
theorem RdI.at_ (h : RdI R A n c T o s W) {i : Nat} (hi : i ≤ T.length) : RdI R A n c T o ⟨i, s.code⟩ (W.setCell ⟨R, 1, none⟩ (.int .i64 i)) := ⟨heap_set_selfG h.x _, h.t.set_ (fun hb => Nat.lt_irrefl _ hb) _, h.l, hi⟩
theorem RdI.opn (h : RdI R A n c T o s W) (v : Int) : RdI R A n c T v s (W.setCell ⟨R, 2, none⟩ (.int .i64 v)) := ⟨heap_set_selfG h.x _, h.t.set_ (fun hb => Nat.lt_irrefl _ hb) _, h.l, h.i⟩
theorem RdI.code (h : RdI R A n c T o s W) (v : Int) : RdI R A n c T o ⟨s.i, v⟩ (W.setCell ⟨R, 3, none⟩ (.int .i64 v)) := ⟨heap_set_selfG h.x _, h.t.set_ (fun hb => Nat.lt_irrefl _ hb) _, h.l, h.i⟩
theorem RdI.atv (h : RdI R A n c T o s W) {i : Nat} {v : Int} (hi : i ≤ T.length) (hv : v = i) : RdI R A n c T o ⟨i, s.code⟩ (W.setCell ⟨R, 1, none⟩ (.int .i64 v)) := by rw [hv]; exact h.at_ hi
theorem RdI.drewN (h : RdI R A n c T o s W) (k : Nat) : RdI R A n c T o s (W.drewN k) := ⟨h.x, h.t, h.l, h.i⟩
theorem RdI.below (h : RdI R A n c T o s W) (hb : Below W.heap.size W W') : RdI R A n c T o s W' := ⟨(hb.block _ (lt_of_block h.x)).trans h.x, h.t.below hb, h.l, h.i⟩
theorem RdI.own {row : Option Nat} (h : RdI R A n c T o s W) (hg : W.grownBy W' row) (hr : ∀ k, row = some k → R < k) : RdI R A n c T o s W' :=
  ⟨(hg.block _ (lt_of_block h.x) (fun e => Nat.lt_irrefl _ (hr R e.symm))).trans h.x, rdq_own h.t hg (fun k hk hb => by have := hr k hk; omega), h.l, h.i⟩
theorem RdI.tok (h : RdI R A n c T o s W) {i : Nat} (hi : i < n) : ∃ b off, A = some ⟨b, off, none⟩ ∧ b < R ∧ b < W.heap.size ∧ W.cell? ⟨b, off + i * 2, none⟩ = some (.int .i64 (kindT T i)) ∧ W.cell? ⟨b, off + i * 2 + 1, none⟩ = some (.string (textT T i)) := by
  obtain ⟨x, hx⟩ : ∃ x, T[i]? = some x := ⟨_, List.getElem?_eq_getElem (by rw [h.l]; exact hi)⟩
  obtain ⟨b, off, e, hb, hlt, hc⟩ := h.t.2 (by omega)
  have e1 : kindT T i = x.k := by unfold kindT; rw [hx]
  have e2 : textT T i = x.s := by unfold textT; rw [hx]
  exact ⟨b, off, e, hb, hlt, by rw [e1]; exact hc _ _ (tkcs_at hx).1, by rw [e2]; have := hc _ _ (tkcs_at hx).2; rwa [← Nat.add_assoc] at this⟩
theorem RdI.cells (h : RdI R A n c T o s W) : (W.cell? ⟨R, 0, none⟩ = some (.slice A n c) ∧ W.cell? ⟨R, 1, none⟩ = some (.int .i64 s.i) ∧ W.cell? ⟨R, 2, none⟩ = some (.int .i64 o) ∧ W.cell? ⟨R, 3, none⟩ = some (.int .i64 s.code)) ∧ (W.frozen? ⟨R, 1, none⟩ = false ∧ W.frozen? ⟨R, 2, none⟩ = false ∧ W.frozen? ⟨R, 3, none⟩ = false) ∧ R < W.heap.size :=
  ⟨⟨cell_at (j := 0) h.x rfl, cell_at (j := 1) h.x rfl, cell_at (j := 2) h.x rfl, cell_at (j := 3) h.x rfl⟩, ⟨free_at (j := 1) h.x, free_at (j := 2) h.x, free_at (j := 3) h.x⟩, lt_of_block h.x⟩
end
def RtI (R : Nat) (A : Option Addr) (n c : Nat) (T : List Tk) (o : Int) (v : Value) (s : Rs) (w : World) (e : Ending) (w' : World) : Prop := e = .returned v ∧ RdI R A n c T o s w' ∧ w.grownBy w' (some R)
end Go.Proofs.YthkbckkghnbonaaDoor
namespace Go.Proofs.YthkbckkghnbonaaDoor
open Go.RowKit
set_option linter.unusedVariables false
theorem kindT_end {T : List Tk} {i : Nat} (h : T.length ≤ i) : kindT T i = 0 := by unfold kindT; rw [List.getElem?_eq_none h]
theorem gr_drewN {a w : World} {row : Option Nat} (h : a.grownBy w row) (n : Nat) : a.grownBy (w.drewN n) row := ⟨h.os, h.tape, h.output, h.size, h.block⟩
theorem failR_0 {s : Rs} (h : s.code = 0) (c : Int) : failR s c = ⟨s.i, c⟩ := if_pos h
theorem failR_1 {s : Rs} (h : s.code ≠ 0) (c : Int) : failR s c = s := if_neg h
theorem takeR_yes {T : List Tk} {s : Rs} {k c : Int} (h0 : s.code = 0) (h1 : kindT T s.i = k) : takeR T s k c = (⟨s.i + 1, 0⟩, textT T s.i) := if_pos ⟨h0, h1⟩
theorem takeR_no {T : List Tk} {s : Rs} {k c : Int} (h : ¬ (s.code = 0 ∧ kindT T s.i = k)) : takeR T s k c = (failR s c, ⟨#[]⟩) := if_neg h
set_option maxRecDepth 100000 in
theorem l18Fail_any (R n c : Nat) (A : Option Addr) (T : List Tk) (s : Rs) (code : Int) (w : World) (h : RdS R A n c T s w) : Calls Tryd.prog 32 #[.pointer (some ⟨R, 0, none⟩), .int .i64 code] w (RtS R A n c T (.tuple #[]) (failR s code) w) := by
  obtain ⟨⟨k0, k1, k2⟩, f1, f2, lR⟩ := h.cells
  have H := Lib.hid h
  by_cases h0 : s.code = 0
  · have HE := Lib.hid (failR_0 h0 code)
    rw [h0] at k2
    clear h h0
    go_enter Tryd.func32, Tryd.ntmps32
    go_wp2_with fail
    go_end0
    exact ⟨rfl, by rw [HE.out]; exact H.out.code code, gr_set _⟩
  · have HE := Lib.hid (failR_1 h0 code)
    have d0 : (s.code == 0) = false := beq_eq_false_iff_ne.2 h0
    have d1 : decide (s.code = 0) = false := decide_eq_false h0
    clear h h0
    go_enter Tryd.func32, Tryd.ntmps32
    go_wp2_with fail
    go_end0
    exact ⟨rfl, by rw [HE.out]; exact H.out, World.grownBy.refl _ _⟩
set_option maxRecDepth 100000 in
theorem l18Kind_any (R n c : Nat) (A : Option Addr) (T : List Tk) (s : Rs) (w : World) (h : RdS R A n c T s w) (hn : n ≤ 1048576) : Calls Tryd.prog 13 #[.pointer (some ⟨R, 0, none⟩)] w fun e w' => e = .returned (.int .i64 (kindT T s.i)) ∧ ∃ m, w' = w.drewN m := by
  obtain ⟨⟨k0, k1, k2⟩, f1, f2, lR⟩ := h.cells
  by_cases hlt : s.i < n
  · obtain ⟨b, off, rfl, hbR, hbl, q0, q1⟩ := h.tok hlt
    have hd : decide ((n : Int) ≤ (s.i : Int)) = false := decide_eq_false (by omega)
    clear h
    go_enter Tryd.func13, Tryd.ntmps13
    go_wp2_with fail
    go_quiet (fail)
    go_wp2_with fail
    go_quiet (fail)
    go_wp2_with fail
    go_ret
    exact ⟨rfl, drewN2 _ _ _⟩
  · have HK : Hid (kindT T s.i = 0) := kindT_end (by have := h.l; omega)
    have hd : decide ((n : Int) ≤ (s.i : Int)) = true := decide_eq_true (by omega)
    clear h
    go_enter Tryd.func13, Tryd.ntmps13
    go_wp2_with fail
    go_quiet (fail)
    go_wp2_with fail
    go_ret
    exact ⟨by rw [HK.out]; rfl, _, rfl⟩
set_option maxRecDepth 100000 in
set_option maxHeartbeats 1000000 in
theorem l18Take_any (R n c : Nat) (A : Option Addr) (T : List Tk) (s : Rs) (k code : Int) (w : World) (h : RdS R A n c T s w) (hn : n ≤ 1048576) (hk : k ≠ 0) : Calls Tryd.prog 33 #[.pointer (some ⟨R, 0, none⟩), .int .i64 k, .int .i64 code] w (RtS R A n c T (.string (takeR T s k code).2) (takeR T s k code).1 w) := by
  obtain ⟨⟨k0, k1, k2⟩, f1, f2, lR⟩ := h.cells
  have H := Lib.hid h
  by_cases h0 : s.code = 0
  · rw [h0] at k2
    by_cases h1 : kindT T s.i = k
    · have hlt : s.i < T.length := kindT_lt (by rw [h1]; exact hk)
      obtain ⟨b, off, rfl, hbR, hbl, q0, q1⟩ := h.tok (i := s.i) (by rw [← h.l]; exact hlt)
      have HE := Lib.hid (takeR_yes (c := code) h0 h1)
      have hz : s.i + 1 ≤ 1048577 := by have := h.l; omega
      have hsn : s.i < n := by have := h.l; omega
      have d1 : (kindT T s.i != k) = false := by simp [h1]
      have HN := Lib.hid (fun m => (h.drewN m).atv (i := s.i + 1) (v := (s.i : Int) + 1) hlt (by simp))
      rw [h0] at HN
      have hnb : b ≠ R := by omega
      obtain ⟨word, hw⟩ : ∃ word, word = textT T s.i := ⟨_, rfl⟩
      rw [← hw] at q1 HE
      clear h h0 hw
      go_enter Tryd.func33, Tryd.ntmps33
      go_wp2_with (go_at_call 13; refine (l18Kind_any R n c _ T s w H.out hn).mono ?_; rintro e w' ⟨rfl, m, rfl⟩)
      go_quiet (fail)
      go_wp2_with fail
      go_ret
      exact ⟨by rw [HE.out]; rfl, by rw [HE.out]; exact (HN.out m).drewN nq, gr_drewN ((gr_drewN (World.grownBy.refl _ _) m).andThen (gr_set _) (fun j hj => .inr hj)) nq⟩
    · have HE := Lib.hid (takeR_no (c := code) (fun (h : s.code = 0 ∧ kindT T s.i = k) => h1 h.2))
      have d1 : (kindT T s.i != k) = true := by simp [h1]
      clear h
      go_enter Tryd.func33, Tryd.ntmps33
      go_wp2_with (first | (go_at_call 13; refine (l18Kind_any R n c _ T s w H.out hn).mono ?_; rintro e w' ⟨rfl, m, rfl⟩) | (go_at_call 32; refine (l18Fail_any R n c _ T s code _ (H.out.drewN _)).mono ?_; rintro e w' ⟨rfl, hr, hg⟩))
      go_ret
      exact ⟨by rw [HE.out]; rfl, by rw [HE.out]; exact hr, (gr_drewN (World.grownBy.refl _ _) _).andThen hg (fun j hj => .inr hj)⟩
  · have HE := Lib.hid (takeR_no (c := code) (fun (h : s.code = 0 ∧ kindT T s.i = k) => h0 h.1))
    have d0 : (s.code != 0) = true := by simp [h0]
    clear h
    go_enter Tryd.func33, Tryd.ntmps33
    go_wp2_with (go_at_call 32; refine (l18Fail_any R n c _ T s code w H.out).mono ?_; rintro e w' ⟨rfl, hr, hg⟩)
    go_ret
    exact ⟨by rw [HE.out]; rfl, by rw [HE.out]; exact hr, hg⟩
end Go.Proofs.YthkbckkghnbonaaDoor
namespace Go.Proofs.YthkbckkghnbonaaDoor
open Go.RowKit
set_option linter.unusedVariables false
set_option maxRecDepth 100000 in
theorem fail_any (R n c : Nat) (A : Option Addr) (T : List Tk) (o : Int) (s : Rs) (code : Int) (w : World) (h : RdI R A n c T o s w) : Calls Tryd.prog 38 #[.pointer (some ⟨R, 0, none⟩), .int .i64 code] w (RtI R A n c T o (.tuple #[]) (failR s code) w) := by
  obtain ⟨⟨k0, k1, ko, k2⟩, ⟨f1, f3, f2⟩, lR⟩ := h.cells
  have H := Lib.hid h
  by_cases h0 : s.code = 0
  · have HE := Lib.hid (failR_0 h0 code)
    rw [h0] at k2
    clear h h0
    go_enter Tryd.func38, Tryd.ntmps38
    go_wp2_with fail
    go_end0
    exact ⟨rfl, by rw [HE.out]; exact H.out.code code, gr_set _⟩
  · have HE := Lib.hid (failR_1 h0 code)
    have d0 : (s.code == 0) = false := beq_eq_false_iff_ne.2 h0
    have d1 : decide (s.code = 0) = false := decide_eq_false h0
    clear h h0
    go_enter Tryd.func38, Tryd.ntmps38
    go_wp2_with fail
    go_end0
    exact ⟨rfl, by rw [HE.out]; exact H.out, World.grownBy.refl _ _⟩
set_option maxRecDepth 100000 in
theorem kind_any (R n c : Nat) (A : Option Addr) (T : List Tk) (o : Int) (s : Rs) (w : World) (h : RdI R A n c T o s w) (hn : n ≤ 1048576) : Calls Tryd.prog 37 #[.pointer (some ⟨R, 0, none⟩)] w fun e w' => e = .returned (.int .i64 (kindT T s.i)) ∧ ∃ m, w' = w.drewN m := by
  obtain ⟨⟨k0, k1, ko, k2⟩, ⟨f1, f3, f2⟩, lR⟩ := h.cells
  by_cases hlt : s.i < n
  · obtain ⟨b, off, rfl, hbR, hbl, q0, q1⟩ := h.tok hlt
    have hd : decide ((s.i : Int) < (n : Int)) = true := decide_eq_true (by omega)
    clear h
    go_enter Tryd.func37, Tryd.ntmps37
    go_wp2_with fail
    go_quiet (fail)
    go_wp2_with fail
    go_quiet (fail)
    go_wp2_with fail
    go_ret
    exact ⟨rfl, drewN2 _ _ _⟩
  · have HK : Hid (kindT T s.i = 0) := kindT_end (by have := h.l; omega)
    have hd : decide ((s.i : Int) < (n : Int)) = false := decide_eq_false (by omega)
    clear h
    go_enter Tryd.func37, Tryd.ntmps37
    go_wp2_with fail
    go_quiet (fail)
    go_wp2_with fail
    go_ret
    exact ⟨by rw [HK.out]; rfl, _, rfl⟩
set_option maxRecDepth 100000 in
set_option maxHeartbeats 1000000 in
theorem take_any (R n c : Nat) (A : Option Addr) (T : List Tk) (o : Int) (s : Rs) (k code : Int) (w : World) (h : RdI R A n c T o s w) (hn : n ≤ 1048576) (hk : k ≠ 0) : Calls Tryd.prog 40 #[.pointer (some ⟨R, 0, none⟩), .int .i64 k, .int .i64 code] w (RtI R A n c T o (.string (takeR T s k code).2) (takeR T s k code).1 w) := by
  obtain ⟨⟨k0, k1, ko, k2⟩, ⟨f1, f3, f2⟩, lR⟩ := h.cells
  have H := Lib.hid h
  by_cases h0 : s.code = 0
  · rw [h0] at k2
    by_cases h1 : kindT T s.i = k
    · have hlt : s.i < T.length := kindT_lt (by rw [h1]; exact hk)
      obtain ⟨b, off, rfl, hbR, hbl, q0, q1⟩ := h.tok (i := s.i) (by rw [← h.l]; exact hlt)
      have HE := Lib.hid (takeR_yes (c := code) h0 h1)
      have hz : s.i + 1 ≤ 1048577 := by have := h.l; omega
      have hsn : s.i < n := by have := h.l; omega
      have d1 : (kindT T s.i != k) = false := by simp [h1]
      have HN := Lib.hid (fun m => (h.drewN m).atv (i := s.i + 1) (v := (s.i : Int) + 1) hlt (by simp))
      rw [h0] at HN
      have hnb : b ≠ R := by omega
      obtain ⟨word, hw⟩ : ∃ word, word = textT T s.i := ⟨_, rfl⟩
      rw [← hw] at q1 HE
      clear h h0 hw
      go_enter Tryd.func40, Tryd.ntmps40
      go_wp2_with (go_at_call 37; refine (kind_any R n c _ T o s w H.out hn).mono ?_; rintro e w' ⟨rfl, m, rfl⟩)
      go_quiet (fail)
      go_wp2_with fail
      go_ret
      exact ⟨by rw [HE.out]; rfl, by rw [HE.out]; exact (HN.out m).drewN nq, gr_drewN ((gr_drewN (World.grownBy.refl _ _) m).andThen (gr_set _) (fun j hj => .inr hj)) nq⟩
    · have HE := Lib.hid (takeR_no (c := code) (fun (h : s.code = 0 ∧ kindT T s.i = k) => h1 h.2))
      have d1 : (kindT T s.i != k) = true := by simp [h1]
      clear h
      go_enter Tryd.func40, Tryd.ntmps40
      go_wp2_with (first | (go_at_call 37; refine (kind_any R n c _ T o s w H.out hn).mono ?_; rintro e w' ⟨rfl, m, rfl⟩) | (go_at_call 38; refine (fail_any R n c _ T o s code _ (H.out.drewN _)).mono ?_; rintro e w' ⟨rfl, hr, hg⟩))
      go_ret
      exact ⟨by rw [HE.out]; rfl, by rw [HE.out]; exact hr, (gr_drewN (World.grownBy.refl _ _) _).andThen hg (fun j hj => .inr hj)⟩
  · have HE := Lib.hid ((takeR_no (c := code) (fun (h : s.code = 0 ∧ kindT T s.i = k) => h0 h.1)).trans (by rw [failR_1 h0]))
    have d0 : (s.code != 0) = true := by simp [h0]
    clear h
    go_enter Tryd.func40, Tryd.ntmps40
    go_wp2_with fail
    go_ret
    exact ⟨by rw [HE.out]; rfl, by rw [HE.out]; exact H.out, World.grownBy.refl _ _⟩
end Go.Proofs.YthkbckkghnbonaaDoor
namespace Go.Proofs.YthkbckkghnbonaaDoor
open Go.RowKit
set_option linter.unusedVariables false
/-- What a number read from a word is: it is of 1 .. 9 only where the word is its digit. -/
def NumOf (s : ByteArray) (n : Int) (ok : Bool) : Prop := (ok = true → 1 ≤ n → n ≤ 9 → s = dig n) ∧ (∀ x : Int, 1 ≤ x → x ≤ 9 → s = dig x → ok = true ∧ n = x)
theorem small9 {x : Int} (h0 : 1 ≤ x) (h1 : x ≤ 9) : x = 1 ∨ x = 2 ∨ x = 3 ∨ x = 4 ∨ x = 5 ∨ x = 6 ∨ x = 7 ∨ x = 8 ∨ x = 9 := by omega
theorem numOf_no {s : ByteArray} (h : ∀ x : Int, 1 ≤ x → x ≤ 9 → s ≠ dig x) (n : Int) : NumOf s n false := ⟨fun h => by simp at h, fun x h1 h2 e => absurd e (h x h1 h2)⟩
theorem numW_dig9 {n : Int} (h : 1 ≤ n ∧ n ≤ 9) : numW (dig n) = some n := by
  rcases small9 h.1 h.2 with rfl | rfl | rfl | rfl | rfl | rfl | rfl | rfl | rfl <;> rfl
theorem numW_some {s : ByteArray} {x : Int} (h : numW s = some x) : 1 ≤ x ∧ x ≤ 9 ∧ s = dig x := by
  unfold numW at h
  have h1 := List.find?_some h
  have h2 := List.mem_of_find?_eq_some h
  simp only [List.mem_cons, List.not_mem_nil, or_false] at h2
  refine ⟨by omega, by omega, ?_⟩
  have e : s.data.toList = (dig x).data.toList := by simpa using h1
  have e2 : s.data = (dig x).data := by cases hs : s.data; cases hd : (dig x).data; rw [hs, hd] at e; simp at e; rw [e]
  cases s
  cases hd : dig x
  rw [hd] at e2
  simp only at e2
  rw [e2]
theorem numOf_yes {s : ByteArray} {n : Int} (h : NumOf s n true) (h1 : 1 ≤ n) (h9 : n ≤ 9) : numW s = some n := by rw [h.1 rfl h1 h9]; exact numW_dig9 ⟨h1, h9⟩
theorem numOf_none {s : ByteArray} {n : Int} {ok : Bool} (h : NumOf s n ok) (hn : ¬ (ok = true ∧ 1 ≤ n ∧ n ≤ 9)) : numW s = none := by
  cases e : numW s with
  | none => rfl
  | some x =>
    obtain ⟨h1, h2, h3⟩ := numW_some e
    obtain ⟨h4, h5⟩ := h.2 x h1 h2 h3
    exact absurd ⟨h4, by omega, by omega⟩ hn
theorem atoi_dig {x : Int} (h1 : 1 ≤ x) (h2 : x ≤ 9) : Lib.atoi (dig x).data.toList = some x := by
  rcases small9 h1 h2 with rfl | rfl | rfl | rfl | rfl | rfl | rfl | rfl | rfl <;> decide
theorem itoa_dig {x : Int} (h1 : 1 ≤ x) (h2 : x ≤ 9) : (⟨(Lib.itoa x).toArray⟩ : ByteArray) = dig x := by
  rcases small9 h1 h2 with rfl | rfl | rfl | rfl | rfl | rfl | rfl | rfl | rfl <;> kernel_rfl
theorem numOf_bad {s : ByteArray} (h : Lib.atoi s.data.toList = none) (n : Int) : NumOf s n false := numOf_no (fun x h1 h2 e => by rw [e, atoi_dig h1 h2] at h; cases h) n
theorem numOf_out {s : ByteArray} {m : Int} (h : Lib.atoi s.data.toList = some m) (hm : m < 0 ∨ 999999 < m ∨ (⟨(Lib.itoa m).toArray⟩ : ByteArray) ≠ s) (n : Int) : NumOf s n false := numOf_no (fun x h1 h2 e => by
  rw [e, atoi_dig h1 h2] at h
  injection h with h
  subst h
  rcases hm with hm | hm | hm
  · omega
  · omega
  · exact hm ((itoa_dig h1 h2).trans e.symm)) n
theorem numOf_in {s : ByteArray} {m : Int} (h : Lib.atoi s.data.toList = some m) (hm : (⟨(Lib.itoa m).toArray⟩ : ByteArray) = s) : NumOf s m true :=
  ⟨fun _ h1 h2 => hm.symm.trans (itoa_dig h1 h2), fun x h1 h2 e => ⟨rfl, by rw [e, atoi_dig h1 h2] at h; injection h with h; exact h.symm⟩⟩
theorem ba_inj {a b : ByteArray} (h : a.toList = b.toList) : a = b := by
  rw [Lib.toList_data, Lib.toList_data] at h
  obtain ⟨⟨l⟩⟩ := a
  obtain ⟨⟨m⟩⟩ := b
  simp at h
  rw [h]
theorem below_growN (w : World) (k : Nat) (os : Array Obj) : Below w.heap.size w (Sort.grow (w.drewN k) os) := by
  refine ⟨rfl, rfl, rfl, ?_, fun i hi => ?_⟩
  · show w.heap.size ≤ (w.heap ++ os).size
    simp
  · show (w.heap ++ os)[i]? = w.heap[i]?
    rw [Array.getElem?_append_left hi]
def RetNum (s : ByteArray) (w : World) (e : Ending) (w' : World) : Prop := ∃ (n : Int) (ok : Bool), e = .returned (.tuple #[.int .i64 n, .bool ok]) ∧ NumOf s n ok ∧ Below w.heap.size w w' ∧ w.heap.size ≤ w'.heap.size
theorem Atoi_ok (s : ByteArray) (n : Int) (hl : s.size ≤ 18) (h : Lib.atoi s.data.toList = some n) (w : World) : Calls Tryd.prog 86 #[.string s] w fun e w' => e = .returned (.tuple #[.int .i64 n, .nilIface]) ∧ Below w.heap.size w w' := by
  refine (Tryd.strconv_Atoi s n hl h w).mono ?_
  rintro e w' ⟨rfl, t, rfl⟩
  exact ⟨rfl, Joins.below_bytesWorld _ _ _ _ (Nat.le_refl _)⟩
theorem Itoa_ok (n : Int) (h0 : 0 ≤ n) (h1 : n ≤ 999999) (w : World) (h : Lib.TabIs Tryd.prog w "internal/strconv.uint64pow10" .u64 Lib.pow10Tab) : Calls Tryd.prog 85 #[.int .i64 n] w fun e w' => e = .returned (.string ⟨(Lib.itoa n).toArray⟩) ∧ Below w.heap.size w w' := by
  refine (Tryd.strconv_Itoa n (by omega) (by omega) w h).mono ?_
  rintro e w' ⟨rfl, k, os, rfl⟩
  exact ⟨rfl, below_growN w k os⟩
set_option maxRecDepth 100000 in
set_option maxHeartbeats 4000000 in
theorem parse_any (s : ByteArray) (B : Nat) (w : World) (h : LVb B w) (hs : s.size ≤ 8) : Calls Tryd.prog 84 #[.string s, .int .i64 0, .int .i64 999999] w (RetNum s w) := by
  have h18 : s.size ≤ 18 := by omega
  cases ha : Lib.atoi s.data.toList with
  | none =>
    obtain ⟨tp, p, hv⟩ := h.es
    have HF := Lib.hid (numOf_bad ha 0)
    clear h
    go_enter Tryd.func84, Tryd.ntmps84
    go_wp2_with (go_at_call 86; refine (Tryd.strconv_Atoi_err_var s h18 ha tp p _ hv).mono ?_; rintro e w1 ⟨N, rfl, hN, _, hb⟩)
    go_ret2
    exact ⟨0, false, rfl, HF.out, hb, hb.size⟩
  | some m =>
    by_cases hneg : m < 0
    · have HF := Lib.hid (numOf_out ha (.inl hneg) 0)
      clear h
      go_enter Tryd.func84, Tryd.ntmps84
      go_wp2_with (go_at_call 86; refine (Atoi_ok s m h18 ha _).mono ?_; rintro e w1 ⟨rfl, b1⟩)
      go_ret2
      exact ⟨0, false, rfl, HF.out, b1, b1.size⟩
    by_cases hbig : 999999 < m
    · have HF := Lib.hid (numOf_out ha (.inr (.inl hbig)) 0)
      clear h
      go_enter Tryd.func84, Tryd.ntmps84
      go_wp2_with (go_at_call 86; refine (Atoi_ok s m h18 ha _).mono ?_; rintro e w1 ⟨rfl, b1⟩)
      go_ret2
      exact ⟨0, false, rfl, HF.out, b1, b1.size⟩
    obtain ⟨q, hq⟩ : ∃ q : ByteArray, q = ⟨(Lib.itoa m).toArray⟩ := ⟨_, rfl⟩
    have HQ := Lib.hid hq
    by_cases he : q = s
    · have HF := Lib.hid (numOf_in ha (hq.symm.trans he))
      have he2 : (q.toList == s.toList) = true := by simp [he]
      have he3 : (q.toList != s.toList) = false := by simp [he]
      clear he hq
      go_enter Tryd.func84, Tryd.ntmps84
      go_wp2_with (first | (go_at_call 86; refine (Atoi_ok s m h18 ha _).mono ?_; rintro e w1 ⟨rfl, b1⟩) | (go_at_call 85; refine (Itoa_ok m (by omega) (by omega) _ (h.below (b1.mono h.le)).tb).mono ?_; rintro e w2 ⟨rfl, b2⟩; rw [← HQ.out]))
      go_ret2
      exact ⟨m, true, rfl, HF.out, b1.trans (b2.mono b1.size), Nat.le_trans b1.size b2.size⟩
    · have HF := Lib.hid (numOf_out ha (.inr (.inr (fun e => he (hq.trans e)))) 0)
      have he1 : q.toList ≠ s.toList := fun e => he (ba_inj e)
      have he2 : (q.toList == s.toList) = false := by simp [he1]
      have he3 : (q.toList != s.toList) = true := by simp [he1]
      clear he hq
      go_enter Tryd.func84, Tryd.ntmps84
      go_wp2_with (first | (go_at_call 86; refine (Atoi_ok s m h18 ha _).mono ?_; rintro e w1 ⟨rfl, b1⟩) | (go_at_call 85; refine (Itoa_ok m (by omega) (by omega) _ (h.below (b1.mono h.le)).tb).mono ?_; rintro e w2 ⟨rfl, b2⟩; rw [← HQ.out]))
      go_ret2
      exact ⟨0, false, rfl, HF.out, b1.trans (b2.mono b1.size), Nat.le_trans b1.size b2.size⟩
set_option maxRecDepth 100000 in
set_option maxHeartbeats 1000000 in
theorem ParseNumber_impl (s : ByteArray) (B : Nat) (w : World) (h : LVb B w) (hs : s.size ≤ 8) : Calls Tryd.prog 80 #[.string s] w (RetNum s w) := by
  have H := Lib.hid h
  clear h
  go_enter Tryd.func80, Tryd.ntmps80
  go_wp2_with (go_at_call 84; refine (parse_any s B _ H.out hs).mono ?_; rintro e w1 ⟨n, ok, rfl, hn, hb, hz⟩)
  go_ret2
  exact ⟨n, ok, rfl, hn, hb, hz⟩
end Go.Proofs.YthkbckkghnbonaaDoor
namespace Go.Proofs.YthkbckkghnbonaaDoor
open Go.RowKit
set_option linter.unusedVariables false
def letU (c : UInt8) : Bool := ltrB (c.toNat : Int)
def mrk (c : UInt8) : Nat := if c = 59 then 2 else if c = 123 then 3 else if c = 125 then 4 else 0
def blk (c : UInt8) : Bool := c == 32 || c == 10
theorem dropWhile_len (p : UInt8 → Bool) : ∀ l : List UInt8, (l.dropWhile p).length ≤ l.length := by
  intro l
  induction l with
  | nil => exact Nat.le_refl _
  | cons x l ih =>
    rw [List.dropWhile_cons]
    split
    · rw [List.length_cons]; omega
    · exact Nat.le_refl _
/-- The tokens of the bytes that are left, where n tokens stand already. -/
def tkz : List UInt8 → Nat → Option (List Tk)
  | [], _ => some []
  | c :: r, n =>
    if blk c = true then tkz r n
    else if 160 ≤ n then none
    else if mrk c ≠ 0 then (tkz r (n + 1)).map (pTk (mrk c) :: ·)
    else if letU c = true ∧ (r.takeWhile letU).length ≤ 7 then (tkz (r.dropWhile letU) (n + 1)).map (wTk ⟨(c :: r.takeWhile letU).toArray⟩ :: ·)
    else none
termination_by s => s.length
decreasing_by
  · simp
  · simp
  · have := dropWhile_len letU r
    simp
    omega
theorem tkz_nil (n : Nat) : tkz [] n = some [] := by rw [tkz]
theorem tkz_blk {c : UInt8} {r : List UInt8} {n : Nat} (h : blk c = true) : tkz (c :: r) n = tkz r n := by rw [tkz, if_pos h]
theorem tkz_full {c : UInt8} {r : List UInt8} {n : Nat} (h : blk c = false) (hn : 160 ≤ n) : tkz (c :: r) n = none := by rw [tkz, if_neg (by rw [h]; decide), if_pos hn]
theorem tkz_mrk {c : UInt8} {r : List UInt8} {n : Nat} (h : blk c = false) (hn : n < 160) (hm : mrk c ≠ 0) : tkz (c :: r) n = (tkz r (n + 1)).map (pTk (mrk c) :: ·) := by rw [tkz, if_neg (by rw [h]; decide), if_neg (by omega), if_pos hm]
theorem tkz_word {c : UInt8} {r : List UInt8} {n : Nat} (h : blk c = false) (hn : n < 160) (hm : mrk c = 0) (hl : letU c = true) (h8 : (r.takeWhile letU).length ≤ 7) : tkz (c :: r) n = (tkz (r.dropWhile letU) (n + 1)).map (wTk ⟨(c :: r.takeWhile letU).toArray⟩ :: ·) := by
  rw [tkz, if_neg (by rw [h]; decide), if_neg (by omega), if_neg (by simp [hm]), if_pos ⟨hl, h8⟩]
theorem tkz_bad {c : UInt8} {r : List UInt8} {n : Nat} (h : blk c = false) (hm : mrk c = 0) (hl : ¬ (letU c = true ∧ (r.takeWhile letU).length ≤ 7)) : tkz (c :: r) n = none := by
  rw [tkz, if_neg (by rw [h]; decide)]
  by_cases hn : 160 ≤ n
  · rw [if_pos hn]
  · rw [if_neg hn, if_neg (by simp [hm]), if_neg hl]
def wellTk (t : Tk) : Prop := (t.k = 1 ∧ wordOk t.s = true) ∨ ((t.k = 2 ∨ t.k = 3 ∨ t.k = 4) ∧ t.s = ⟨#[]⟩)
theorem mrk_cases (c : UInt8) : mrk c = 0 ∨ mrk c = 2 ∨ mrk c = 3 ∨ mrk c = 4 := by
  unfold mrk
  split
  · simp
  · split
    · simp
    · split <;> simp
theorem all_takeWhile {α : Type} (p : α → Bool) : ∀ l : List α, (l.takeWhile p).all p = true := by
  intro l
  induction l with
  | nil => rfl
  | cons x l ih =>
    rw [List.takeWhile_cons]
    cases h : p x
    · rfl
    · simp only [if_true, List.all_cons, h, ih]; rfl
theorem wordOk_of {l : List UInt8} (h : l.all letU = true) (h1 : 1 ≤ l.length) (h8 : l.length ≤ 8) : wordOk ⟨l.toArray⟩ = true := by
  have hs : (ByteArray.mk l.toArray).size = l.length := by show l.toArray.size = _; simp
  unfold wordOk letsUpto
  rw [hs, Bool.and_eq_true]
  refine ⟨?_, inB_iff.2 (by omega)⟩
  show (List.take l.length l).all _ = true
  rw [List.take_length]
  exact h
theorem tkz_well : ∀ (m : Nat) (s : List UInt8) (n : Nat) (T : List Tk), s.length ≤ m → tkz s n = some T → n ≤ 160 → (∀ t ∈ T, wellTk t) ∧ n + T.length ≤ 160 := by
  intro m
  induction m with
  | zero =>
    intro s n T hs h hn
    obtain rfl : s = [] := List.eq_nil_of_length_eq_zero (by omega)
    rw [tkz_nil] at h
    injection h with h
    subst h
    exact ⟨by simp, by simpa using hn⟩
  | succ m ih =>
    intro s n T hs h hn
    cases s with
    | nil =>
      rw [tkz_nil] at h
      injection h with h
      subst h
      exact ⟨by simp, by simpa using hn⟩
    | cons c r =>
      rw [List.length_cons] at hs
      cases hb : blk c
      · rcases Nat.lt_or_ge n 160 with h1 | h1
        · by_cases hm : mrk c = 0
          · by_cases hl : letU c = true ∧ (r.takeWhile letU).length ≤ 7
            · rw [tkz_word hb h1 hm hl.1 hl.2, Option.map_eq_some_iff] at h
              obtain ⟨T', h', rfl⟩ := h
              have hd := dropWhile_len letU r
              obtain ⟨a1, a2⟩ := ih _ _ _ (by omega) h' (by omega)
              refine ⟨?_, by rw [List.length_cons]; omega⟩
              intro t ht
              rcases List.mem_cons.1 ht with rfl | ht
              · exact .inl ⟨rfl, wordOk_of (by rw [List.all_cons, hl.1, all_takeWhile]; rfl) (by simp) (by rw [List.length_cons]; omega)⟩
              · exact a1 t ht
            · rw [tkz_bad hb hm hl] at h
              cases h
          · rw [tkz_mrk hb h1 hm, Option.map_eq_some_iff] at h
            obtain ⟨T', h', rfl⟩ := h
            obtain ⟨a1, a2⟩ := ih _ _ _ (by omega) h' (by omega)
            refine ⟨?_, by rw [List.length_cons]; omega⟩
            intro t ht
            rcases List.mem_cons.1 ht with rfl | ht
            · refine .inr ⟨?_, rfl⟩
              show (mrk c : Int) = 2 ∨ (mrk c : Int) = 3 ∨ (mrk c : Int) = 4
              have := mrk_cases c
              omega
            · exact a1 t ht
        · rw [tkz_full hb h1] at h
          cases h
      · rw [tkz_blk hb] at h
        exact ih _ _ _ (by omega) h hn
theorem nil_toList : (⟨#[]⟩ : ByteArray).toList = [] := by
  unfold ByteArray.toList
  rw [ByteArray.toList.loop]
  rfl
theorem takeWhile_all_append {α : Type} (p : α → Bool) : ∀ (l q : List α), l.all p = true → (l ++ q).takeWhile p = l ++ q.takeWhile p ∧ (l ++ q).dropWhile p = q.dropWhile p := by
  intro l q
  induction l with
  | nil => intro _; exact ⟨rfl, rfl⟩
  | cons x l ih =>
    intro h
    rw [List.all_cons, Bool.and_eq_true] at h
    obtain ⟨h1, h2⟩ := ih h.2
    rw [List.cons_append, List.takeWhile_cons_of_pos h.1, List.dropWhile_cons_of_pos h.1, h1, h2]
    exact ⟨rfl, rfl⟩
/-- The tokens of a text, or none. -/
def tkS (s : ByteArray) : Option (List Tk) := tkz s.data.toList 0
end Go.Proofs.YthkbckkghnbonaaDoor
namespace Go.Proofs.YthkbckkghnbonaaDoor
open Go.RowKit
set_option linter.unusedVariables false
theorem numR_yes {T : List Tk} {s : Rs} {x : Int} (h0 : s.code = 0) (h1 : kindT T s.i = 1) (h2 : numW (textT T s.i) = some x) : numR T s = (⟨s.i + 1, 0⟩, x) := by
  unfold numR
  rw [if_pos ⟨h0, h1⟩, h2]
theorem numR_bad {T : List Tk} {s : Rs} (h2 : numW (textT T s.i) = none) : numR T s = (failR s 6, 0) := by
  unfold numR
  split
  · rw [h2]
  · rfl
theorem numR_no {T : List Tk} {s : Rs} (h : ¬ (s.code = 0 ∧ kindT T s.i = 1)) : numR T s = (failR s 6, 0) := if_neg h
theorem inB_no {m : Int} (h : ¬ (1 ≤ m ∧ m ≤ 9)) : inB m 1 9 = false := by
  cases e : inB m 1 9
  · rfl
  · exact absurd (inB_iff.1 e) h
theorem word_le8 {T : List Tk} (hw : ∀ t ∈ T, wellTk t) (i : Nat) : (textT T i).size ≤ 8 := by
  unfold textT
  cases e : T[i]? with
  | none => exact Nat.zero_le _
  | some t =>
    rcases hw t (List.mem_of_getElem? e) with ⟨_, h⟩ | ⟨_, h⟩
    · exact (wordOk_size h).2
    · show t.s.size ≤ 8
      rw [h]
      exact Nat.zero_le _
theorem below_drewS1 {B : Nat} {a w : World} (h : Below B a w) : Below B a w.drew := ⟨h.os, h.tape, h.output, h.size, h.block⟩
set_option maxRecDepth 100000 in
set_option maxHeartbeats 4000000 in
theorem number_any (B R n c : Nat) (A : Option Addr) (T : List Tk) (o : Int) (s : Rs) (w : World) (h : RdI R A n c T o s w) (hv : LVb B w) (hBR : B ≤ R) (hn : n ≤ 1048576) (hT : ∀ t ∈ T, wellTk t) :
    Calls Tryd.prog 64 #[.pointer (some ⟨R, 0, none⟩)] w (RtI R A n c T o (.int .i64 (numR T s).2) (numR T s).1 w) := by
  obtain ⟨⟨k0, k1, ko, k2⟩, ⟨f1, f3, f2⟩, lR⟩ := h.cells
  have H := Lib.hid h
  have HV := Lib.hid hv
  clear hv
  by_cases h0 : s.code = 0
  · by_cases h1 : kindT T s.i = 1
    · have hlt : s.i < T.length := kindT_lt (by rw [h1]; decide)
      have hsn : s.i < n := by have := h.l; omega
      obtain ⟨b, off, rfl, hbR, hbl, q0, q1⟩ := h.tok hsn
      have hz8 := word_le8 hT s.i
      have HY := Lib.hid (fun x => numR_yes (T := T) (s := s) (x := x) h0 h1)
      have HB := Lib.hid (numR_bad (T := T) (s := s))
      have HK := Lib.hid h1
      have HFE := Lib.hid (failR_0 h0 6)
      have H0 := Lib.hid h0
      rw [h0] at k2
      obtain ⟨word, hw⟩ : ∃ word, word = textT T s.i := ⟨_, rfl⟩
      rw [← hw] at q1 hz8 HY HB
      have hnb : b ≠ R := by omega
      rw [h1] at q0
      clear h h0 hw
      go_enter Tryd.func64, Tryd.ntmps64
      go_wp2_with (go_at_call 37; refine (kind_any R n c _ T o s w H.out hn).mono ?_; rintro e w' ⟨rfl, m, rfl⟩; rw [HK.out])
      obtain ⟨wm, hwm⟩ : ∃ wm, wm = w.drewN m := ⟨_, rfl⟩
      have c0 : wm.cell? ⟨R, 0, none⟩ = some (.slice (some ⟨b, off, none⟩) n c) := by rw [hwm]; exact k0
      have c1 : wm.cell? ⟨R, 1, none⟩ = some (.int .i64 s.i) := by rw [hwm]; exact k1
      have c2 : wm.cell? ⟨b, off + s.i * 2 + 1, none⟩ = some (.string word) := by rw [hwm]; exact q1
      have b0 : Below w.heap.size w wm := by rw [hwm]; exact below_drewN (Below.refl _ _) m
      have B0 := Lib.hid b0
      have b0s := b0.size
      rw [← hwm]
      clear hwm b0
      go_region_held3 (fun W => W.cell? ⟨R, 0, none⟩ = some (.slice (some ⟨b, off, none⟩) n c) ∧ W.cell? ⟨R, 1, none⟩ = some (.int .i64 s.i) ∧ W.cell? ⟨b, off + s.i * 2 + 1, none⟩ = some (.string word)) (go_keep)
        ((go_at_call 80; (with_reducible refine (ParseNumber_impl word B _ ?_ hz8).mono ?_); exact HV.out.below (below_drewS1 (B0.out.mono HV.out.le)); rintro e w1 ⟨x, ok, rfl, hnum, hb9, hs0⟩; have hb0 : Below wm.heap.size wm w1 := ⟨hb9.os, hb9.tape, hb9.output, hb9.size, hb9.block⟩; have z0 : w1.cell? ⟨R, 0, none⟩ = some (.slice (some ⟨b, off, none⟩) n c) := (hb0.cell (p := ⟨R, 0, none⟩) (by show R < _; omega)).trans c0; have z1 : w1.cell? ⟨R, 1, none⟩ = some (.int .i64 s.i) := (hb0.cell (p := ⟨R, 1, none⟩) (by show R < _; omega)).trans c1; have z2 : w1.cell? ⟨b, off + s.i * 2 + 1, none⟩ = some (.string word) := (hb0.cell (p := ⟨b, off + s.i * 2 + 1, none⟩) (by show b < _; omega)).trans c2))
      have hb1 : Below w.heap.size w w1 := B0.out.trans (hb0.mono b0s)
      have hs1 := hb1.size
      have H1 := Lib.hid (H.out.below hb1)
      have HG := Lib.hid (only_of_below hb1 (some R))
      have NUM := Lib.hid hnum
      clear k0 k1 ko k2 f1 f2 f3 lR hb1 hs1 hnum q0 q1 c0 c1 c2 hb0 hs0 b0s hb9 z0 z1 z2
      obtain ⟨⟨k0, k1, ko, k2⟩, ⟨f1, f3, f2⟩, lR⟩ := H1.out.cells
      rw [H0.out] at k2
      by_cases hg : ok = true ∧ 1 ≤ x ∧ x ≤ 9
      · obtain ⟨rfl, hx1, hx9⟩ := hg
        have HE := Lib.hid (HY.out x (numOf_yes NUM.out hx1 hx9))
        have hin : inB x 1 9 = true := inB_t hx1 hx9
        have HN := Lib.hid (H1.out.atv (i := s.i + 1) (v := (s.i : Int) + 1) hlt (by simp))
        rw [H0.out] at HN
        have hz : s.i + 1 ≤ 1048577 := by omega
        go_wp2_with (go_at_call 53; refine (in_any _ _ _ _).mono ?_; rintro e w' ⟨rfl, rfl⟩; rw [hin])
        go_ret
        exact ⟨by rw [HE.out]; rfl, by rw [HE.out]; exact HN.out, HG.out.andThen (gr_set _) (fun j hj => .inr hj)⟩
      · have HE := Lib.hid (HB.out (numOf_none NUM.out hg))
        cases ok
        · go_wp2_with (go_at_call 38; refine (fail_any R n c _ T o s 6 _ H1.out).mono ?_; rintro e w' ⟨rfl, hr, hg⟩)
          go_ret
          exact ⟨by rw [HE.out]; rfl, by rw [HE.out]; exact hr, HG.out.andThen (by assumption) (fun j hj => .inr hj)⟩
        · have hin : inB x 1 9 = false := inB_no (fun h => hg ⟨rfl, h⟩)
          clear hg
          go_wp2_with (first | (go_at_call 53; refine (in_any _ _ _ _).mono ?_; rintro e w' ⟨rfl, rfl⟩; rw [hin]) | (go_at_call 38; refine (fail_any R n c _ T o s 6 _ H1.out).mono ?_; rintro e w' ⟨rfl, hr, hg⟩))
          go_ret
          exact ⟨by rw [HE.out]; rfl, by rw [HE.out]; exact hr, HG.out.andThen hg (fun j hj => .inr hj)⟩
    · have HE := Lib.hid (numR_no (T := T) (s := s) (fun h => h1 h.2))
      have d1 : (kindT T s.i == 1) = false := by simp [h1]
      have d2 : decide (kindT T s.i = 1) = false := decide_eq_false h1
      rw [h0] at k2
      clear h h0 h1
      go_enter Tryd.func64, Tryd.ntmps64
      go_wp2_with (first | (go_at_call 37; refine (kind_any R n c _ T o s w H.out hn).mono ?_; rintro e w' ⟨rfl, m, rfl⟩) | (go_at_call 38; refine (fail_any R n c _ T o s 6 _ (H.out.drewN _)).mono ?_; rintro e w' ⟨rfl, hr, hg⟩))
      go_ret
      exact ⟨by rw [HE.out]; rfl, by rw [HE.out]; exact hr, (gr_drewN (World.grownBy.refl _ _) _).andThen hg (fun j hj => .inr hj)⟩
  · have HE := Lib.hid ((numR_no (T := T) (s := s) (fun h => h0 h.1)).trans (by rw [failR_1 h0]))
    have d0 : (s.code != 0) = true := by simp [h0]
    clear h h0
    go_enter Tryd.func64, Tryd.ntmps64
    go_wp2_with fail
    go_ret
    exact ⟨by rw [HE.out]; rfl, by rw [HE.out]; exact H.out, World.grownBy.refl _ _⟩
end Go.Proofs.YthkbckkghnbonaaDoor
namespace Go.Proofs.YthkbckkghnbonaaDoor
open Go.RowKit
set_option linter.unusedVariables false
def mdig : Nat → Nat → ByteArray → ByteArray
  | 0, _, acc => acc
  | f + 1, k, acc => if k = 0 then acc else mdig f (k / 10) (⟨#[(48 + k % 10).toUInt8]⟩ ++ acc)
theorem mdig_zero (f : Nat) (acc : ByteArray) : mdig f 0 acc = acc := by cases f <;> simp [mdig]
theorem mdig_step {f k : Nat} (acc : ByteArray) (h : 0 < k) : mdig (f + 1) k acc = mdig f (k / 10) (⟨#[(48 + k % 10).toUInt8]⟩ ++ acc) := by rw [mdig, if_neg (by omega)]
def mtx (k : Int) : ByteArray := ⟨#[109]⟩ ++ mdig 20 k.toNat ⟨#[]⟩
theorem pow_div {f k : Nat} (h : k < 10 ^ (f + 1)) : k / 10 < 10 ^ f := by rw [Nat.pow_succ] at h; omega
theorem pow_zero_lt {f k : Nat} (h : k < 10 ^ f) (h0 : 0 < k) : ∃ f', f = f' + 1 := by
  cases f with
  | zero => simp at h; omega
  | succ f => exact ⟨f, rfl⟩
theorem u8_of (k : Nat) : (((48 + k % 10).toUInt8).toNat : Int) = 48 + (k : Int) % 10 := by
  have : (48 + k % 10).toUInt8.toNat = (48 + k % 10) % 256 := by simp [Nat.toUInt8]
  omega
theorem conv1 (W : World) (b : UInt8) : (convert 79 9 (.slice (some ⟨W.heap.size, 0, none⟩) 1 1)).run Tryd.prog (W.alloc (.cells #[.int .u8 (b.toNat : Int)] 5)) = .ok (.string ⟨#[b]⟩) (W.alloc (.cells #[.int .u8 (b.toNat : Int)] 5)) := by
  refine run_convert_bytes_back _ _ _ 5 ⟨W.heap.size, 0, none⟩ 1 [b] Tryd.underlying79 Tryd.underlying5 Tryd.underlying9 (fun j hj => ?_)
  obtain rfl : j = 0 := by simpa using hj
  exact World.cell?_alloc_mark W _ _ _ 0
set_option maxRecDepth 100000 in
set_option maxHeartbeats 2000000 in
theorem markText_any (k : Int) (w : World) (h0 : 1 ≤ k) (h1 : k ≤ 1099511627776000) : Calls Tryd.prog 44 #[.int .i64 k] w fun e w' => e = .returned (.string (mtx k)) ∧ Below w.heap.size w w' ∧ w.heap.size ≤ w'.heap.size := by
  obtain ⟨K, rfl⟩ : ∃ K : Nat, k = K := ⟨k.toNat, by omega⟩
  obtain ⟨M, hM⟩ : ∃ M, M = mdig 20 K ⟨#[]⟩ := ⟨_, rfl⟩
  have HT := Lib.hid (show mtx (K : Int) = ⟨#[109]⟩ ++ M by rw [hM, mtx]; rfl)
  have HP := Lib.hid (show K < 10 ^ 20 by omega)
  have HM := Lib.hid hM.symm
  clear hM
  have hd : decide (K = 0) = false := by simp; omega
  go_enter Tryd.func44, Tryd.ntmps44
  go_wp2_with fail
  go_loopw [0, 3] (fun kk o wr => ∃ (f j : Nat) (acc : ByteArray), f ≤ 20 ∧ kk = .int .i64 j ∧ j ≤ 1099511627776000 ∧ j < 10 ^ f ∧ acc.size + f = 20 ∧ o = .string acc ∧ Hid (mdig f j acc = M) ∧ Below w.heap.size w wr) (fun kk _ _ => (intOf kk).toNat)
  case atStart => exact ⟨20, K, ⟨#[]⟩, Nat.le_refl _, rfl, by omega, HP.out, rfl, rfl, HM, Below.refl _ _⟩
  case round =>
    obtain ⟨f, j, acc, hf, rfl, hj, hp, hs, rfl, hm, hb⟩ := hrel
    have hbs := hb.size
    by_cases hlt : 0 < j
    · obtain ⟨f, rfl⟩ := pow_zero_lt hp hlt
      have HP2 := Lib.hid (pow_div hp)
      have HM2 := Lib.hid ((mdig_step acc hlt).symm.trans hm.out)
      clear hp hm
      obtain ⟨b, hbb⟩ : ∃ b, b = (48 + j % 10).toUInt8 := ⟨_, rfl⟩
      have hb8 := u8_of j
      rw [← hbb] at HM2 hb8
      have kc : ∀ W : World, (convert 79 9 (.slice (some ⟨W.heap.size, 0, none⟩) 1 1)).run Tryd.prog (W.alloc (.cells #[.int .u8 (48 + (j : Int) % 10)] 5)) = .ok (.string ⟨#[b]⟩) (W.alloc (.cells #[.int .u8 (48 + (j : Int) % 10)] 5)) := fun W => by
        rw [← hb8]
        exact conv1 W b
      have e1 : ∀ w : World, (Op.stringOp .add ⟨#[b]⟩ acc).run Tryd.prog w = .ok (.string (⟨#[b]⟩ ++ acc)) w := fun w => run_string_add_sum w _ _ (by show 1 + acc.size ≤ _; omega)
      clear hbb hb8
      go_wp2_with fail
      go_roundw
      case rel => exact ⟨f, j / 10, ⟨#[b]⟩ ++ acc, by omega, by simp, by omega, HP2.out, by rw [ByteArray.size_append]; show 1 + acc.size + f = 20; omega, rfl, HM2, (by repeat (first | exact Below.refl _ _ | assumption | (refine Below.trans ?_ (Below.mono (by assumption) (by first | omega | (simp; done) | (simp; omega)))) | (with_reducible refine Below.drew ?_) | (with_reducible refine Below.alloc ?_ (by first | omega | (simp; done) | (simp; omega)) _) | (with_reducible refine Below.setCell ?_ (by first | omega | (simp; done) | (simp; omega)) _)))⟩
      case measure => simp [intOf]; omega
    · have hacc : acc = M := by
        have := hm.out
        obtain rfl : j = 0 := by omega
        rwa [mdig_zero] at this
      subst hacc
      have e0 : decide (0 < (j : Int)) = false := by simp; omega
      have e2 : decide (0 < j) = false := by simp; omega
      have e1 : ∀ w : World, (Op.stringOp .add ⟨#[109]⟩ acc).run Tryd.prog w = .ok (.string (⟨#[109]⟩ ++ acc)) w := fun w => run_string_add_sum w _ _ (by show 1 + acc.size ≤ _; omega)
      clear hm HM
      go_wp2_with fail
      go_ret
      exact ⟨by rw [HT.out]; rfl, (by repeat (first | exact Below.refl _ _ | assumption | (refine Below.trans ?_ (Below.mono (by assumption) (by first | omega | (simp; done) | (simp; omega)))) | (with_reducible refine Below.drew ?_) | (with_reducible refine Below.alloc ?_ (by first | omega | (simp; done) | (simp; omega)) _) | (with_reducible refine Below.setCell ?_ (by first | omega | (simp; done) | (simp; omega)) _))), by omega⟩
end Go.Proofs.YthkbckkghnbonaaDoor
namespace Go.Proofs.YthkbckkghnbonaaDoor
open Go.RowKit
set_option linter.unusedVariables false
/-- What Tokenize returns: the tokens, and whether there are some. -/
def RetTkz (r : Option (List Tk)) (w : World) (e : Ending) (w' : World) : Prop :=
  ∃ (A : Option Addr) (c : Nat) (T : List Tk), T = r.getD [] ∧ e = .returned (.tuple #[.slice A T.length c, .bool r.isSome]) ∧ Rd w' 2 A T.length (tkcs T) ∧ Below w.heap.size w w' ∧ w.heap.size ≤ w'.heap.size
theorem bytes_drop {s : ByteArray} {k : Nat} (h : k < s.size) : s.data.toList.drop k = s[k] :: s.data.toList.drop (k + 1) := by
  have hl : k < s.data.toList.length := by simpa using h
  rw [List.drop_eq_getElem_cons hl]
  simp
  rfl
theorem bytes_len (s : ByteArray) : s.data.toList.length = s.size := by simp
theorem u8_ne {a : UInt8} {n : Nat} (hn : n < 256) (h : a ≠ UInt8.ofNat n) : ((a.toNat : Int) == (n : Int)) = false := by
  rw [beq_eq_false_iff_ne]
  intro e
  apply h
  apply UInt8.toNat_inj.1
  rw [UInt8.toNat_ofNat', Nat.mod_eq_of_lt hn]
  omega
/-- Where the letters from k on end. -/
theorem word_run {s : ByteArray} {k j : Nat} (hk : k ≤ j) (hj : j ≤ s.size) (h : ∀ q (hq : q < s.size), k ≤ q → q < j → letU s[q] = true) :
    (s.data.toList.drop k).takeWhile letU = (s.data.toList.drop k).take (j - k) ++ (s.data.toList.drop j).takeWhile letU ∧ (s.data.toList.drop k).dropWhile letU = (s.data.toList.drop j).dropWhile letU := by
  have hs : s.data.toList.drop k = (s.data.toList.drop k).take (j - k) ++ s.data.toList.drop j := by
    have h1 := List.take_append_drop (j - k) (s.data.toList.drop k)
    rw [List.drop_drop, Nat.add_sub_cancel' hk] at h1
    exact h1.symm
  have ha : ((s.data.toList.drop k).take (j - k)).all letU = true := by
    rw [List.all_eq_true]
    intro x hx
    obtain ⟨i, hi⟩ := List.mem_iff_getElem?.1 hx
    have hil := (List.getElem?_eq_some_iff.1 hi).1
    rw [List.length_take, List.length_drop, bytes_len] at hil
    rw [List.getElem?_take_of_lt (by omega), List.getElem?_drop] at hi
    have hq : k + i < s.size := by omega
    have := h (k + i) hq (by omega) (by omega)
    have e : s.data.toList[k + i]? = some s[k + i] := by
      rw [List.getElem?_eq_getElem (by rw [bytes_len]; exact hq)]
      simp
      rfl
    rw [e] at hi
    injection hi with hi
    rw [← hi]
    exact this
  obtain ⟨t1, t2⟩ := takeWhile_all_append letU _ (s.data.toList.drop j) ha
  exact ⟨by rw [← t1, ← hs], by rw [← t2, ← hs]⟩
theorem extract_bytes {s : ByteArray} {k j : Nat} (hk : k ≤ j) (hj : j ≤ s.size) : (s.extract k j).data.toList = (s.data.toList.drop k).take (j - k) := by
  rw [ByteArray.data_extract, Array.toList_extract]
theorem bytes_eq {a b : ByteArray} (h : a.data.toList = b.data.toList) : a = b := by
  cases a
  cases b
  congr 1
  exact Array.toList_inj.1 h
/-- The word that begins at k and ends at j. -/
theorem tkz_end {s : ByteArray} {k j : Nat} (hk : k ≤ j) (hj : j ≤ s.size) (hks : k < s.size) (h : ∀ q (hq : q < s.size), k ≤ q → q < j → letU s[q] = true) (he : ∀ hq : j < s.size, letU s[j] = false) (hb : blk s[k] = false) (hm : mrk s[k] = 0) (n : Nat) :
    (wordOk (s.extract k j) = false → tkz (s.data.toList.drop k) n = none) ∧ (wordOk (s.extract k j) = true → n < 160 → tkz (s.data.toList.drop k) n = (tkz (s.data.toList.drop j) (n + 1)).map (wTk (s.extract k j) :: ·)) := by
  obtain ⟨t1, t2⟩ := word_run hk hj h
  have hx := extract_bytes hk hj
  have hsz : (s.extract k j).size = j - k := by simp; omega
  have hj2 : (s.data.toList.drop j).takeWhile letU = [] ∧ (s.data.toList.drop j).dropWhile letU = s.data.toList.drop j := by
    rcases Nat.lt_or_ge j s.size with hq | hq
    · rw [bytes_drop hq, List.takeWhile_cons_of_neg (by rw [he hq]; decide), List.dropWhile_cons_of_neg (by rw [he hq]; decide)]
      exact ⟨rfl, rfl⟩
    · rw [List.drop_of_length_le (by rw [bytes_len]; exact hq)]
      exact ⟨rfl, rfl⟩
  rw [hj2.1, List.append_nil, ← hx] at t1
  rw [hj2.2] at t2
  rw [bytes_drop hks] at t1 t2 ⊢
  cases hl : letU s[k]
  · rw [List.takeWhile_cons_of_neg (by rw [hl]; decide)] at t1
    have h0 : (s.extract k j).size = 0 := by rw [← bytes_len, ← t1]; rfl
    refine ⟨fun _ => tkz_bad hb hm (by rw [hl]; rintro ⟨a, _⟩; cases a), fun hw => ?_⟩
    have := wordOk_size hw
    omega
  · rw [List.takeWhile_cons_of_pos hl] at t1
    rw [List.dropWhile_cons_of_pos hl] at t2
    have hlen := congrArg List.length t1
    rw [List.length_cons, bytes_len, hsz] at hlen
    refine ⟨fun hw => tkz_bad hb hm ?_, fun hw hn => ?_⟩
    · rintro ⟨_, h7⟩
      have := wordOk_of (l := s[k] :: (s.data.toList.drop (k + 1)).takeWhile letU) (by rw [List.all_cons, hl, all_takeWhile]; rfl) (by simp) (by rw [List.length_cons]; omega)
      rw [show (⟨(s[k] :: (s.data.toList.drop (k + 1)).takeWhile letU).toArray⟩ : ByteArray) = s.extract k j from bytes_eq (by rw [← t1])] at this
      rw [hw] at this
      cases this
    · have h8 := (wordOk_size hw).2
      rw [tkz_word hb hn hm hl (by omega), t2, show (⟨(s[k] :: (s.data.toList.drop (k + 1)).takeWhile letU).toArray⟩ : ByteArray) = s.extract k j from bytes_eq (by rw [← t1])]
theorem blk_eq {c : UInt8} (h1 : c ≠ 32) (h2 : c ≠ 10) : blk c = false := by simp [blk, h1, h2]
theorem mrk_eq {c : UInt8} (h1 : c ≠ 59) (h2 : c ≠ 123) (h3 : c ≠ 125) : mrk c = 0 := by simp [mrk, h1, h2, h3]
theorem map_snoc {α : Type} (T : List α) (x : α) (o : Option (List α)) : (o.map (x :: ·)).map (T ++ ·) = o.map (T ++ [x] ++ ·) := by cases o <;> simp
theorem tks_step {s : ByteArray} {k j : Nat} {T : List Tk} {x : Tk} (h : tkS s = (tkz (s.data.toList.drop k) T.length).map (T ++ ·)) (hx : tkz (s.data.toList.drop k) T.length = (tkz (s.data.toList.drop j) (T.length + 1)).map (x :: ·)) : tkS s = (tkz (s.data.toList.drop j) (T ++ [x]).length).map (T ++ [x] ++ ·) := by
  rw [h, hx, map_snoc, List.length_append]
  rfl
theorem tks_none {s : ByteArray} {k : Nat} {T : List Tk} (h : tkS s = (tkz (s.data.toList.drop k) T.length).map (T ++ ·)) (hx : tkz (s.data.toList.drop k) T.length = none) : tkS s = none := by rw [h, hx]; rfl
theorem u8_eq {a : UInt8} {n : Nat} (hn : n < 256) (h : a = UInt8.ofNat n) : ((a.toNat : Int) == (n : Int)) = true := by
  subst h
  rw [UInt8.toNat_ofNat', Nat.mod_eq_of_lt hn]
  simp
set_option maxRecDepth 100000 in
set_option maxHeartbeats 8000000 in
theorem Tokenize_impl (s : ByteArray) (w : World) (hs : s.size ≤ 1099511627776) : Calls Tryd.prog 16 #[.string s] w (RetTkz (tkS s) w) := by
  obtain ⟨i0, hi, hz0, hz1, hz2⟩ := info_parts info_TkE
  have hE := own_empty w 41 2
  have b0 : Below w.heap.size w (w.alloc (.cells #[] 41)) := (by repeat (first | exact Below.refl _ _ | assumption | (refine Below.trans ?_ (Below.mono (by assumption) (by first | omega | (simp; done) | (simp; omega)))) | (with_reducible refine Below.drew ?_) | (with_reducible refine Below.alloc ?_ (by first | omega | (simp; done) | (simp; omega)) _) | (with_reducible refine Below.setCell ?_ (by first | omega | (simp; done) | (simp; omega)) _)))
  have HE := Lib.hid hE
  have B0 := Lib.hid b0
  clear hE b0
  go_enter Tryd.func16, Tryd.ntmps16
  go_wp2_with fail
  go_loopw [4, 5] (fun v i wr => ∃ (k : Nat) (T : List Tk), k ≤ s.size ∧ i = .int .i64 k ∧ T.length ≤ 160 ∧ Hid (wr.ownsRow w.heap.size 41 2 v T.length (tkcs T)) ∧ Hid (tkS s = (tkz (s.data.toList.drop k) T.length).map (T ++ ·)) ∧ Hid (Below w.heap.size w wr)) (fun _ i _ => s.size - (intOf i).toNat)
  case atStart => exact ⟨0, [], Nat.zero_le _, rfl, Nat.zero_le _, HE.out, Lib.hid (by rw [List.drop_zero]; unfold tkS; cases tkz s.data.toList 0 <;> rfl), B0.out⟩
  case round =>
    obtain ⟨k, T, hk, rfl, hT, hown, hd, hb⟩ := hrel
    have hbs := hb.out.size
    obtain ⟨A0, c0, rfl, _, _, r0⟩ := rd_of_own hown.out
    have HR := Lib.hid r0
    clear r0
    by_cases hlt : k < s.size
    · have HD := Lib.hid (bytes_drop hlt)
      by_cases h32 : s[k] = 32
      · have e32 : ((s[k].toNat : Int) == 32) = true := u8_eq (n := 32) (by decide) h32
        have HN := Lib.hid (show tkS s = (tkz (s.data.toList.drop (k + 1)) T.length).map (T ++ ·) by rw [hd.out, HD.out, tkz_blk (by rw [h32]; rfl)])
        clear h32
        go_wp2_with fail
        go_roundw
        case rel => exact ⟨k + 1, T, by omega, by go_num, hT, hown, HN.out, hb⟩
        case measure => simp [intOf]; omega
      have e32 : ((s[k].toNat : Int) == 32) = false := u8_ne (n := 32) (by decide) h32
      by_cases h10 : s[k] = 10
      · have e10 : ((s[k].toNat : Int) == 10) = true := u8_eq (n := 10) (by decide) h10
        have HN := Lib.hid (show tkS s = (tkz (s.data.toList.drop (k + 1)) T.length).map (T ++ ·) by rw [hd.out, HD.out, tkz_blk (by rw [h10]; rfl)])
        clear h10
        go_wp2_with fail
        go_roundw
        case rel => exact ⟨k + 1, T, by omega, by go_num, hT, hown, HN.out, hb⟩
        case measure => simp [intOf]; omega
      have e10 : ((s[k].toNat : Int) == 10) = false := u8_ne (n := 10) (by decide) h10
      have HBK := Lib.hid (blk_eq h32 h10)
      clear h32 h10
      by_cases h59 : s[k] = 59
      · have e59 : ((s[k].toNat : Int) == 59) = true := u8_eq (n := 59) (by decide) h59
        have hmm : mrk s[k] = 2 := by rw [h59]; rfl
        have HZ := Lib.hid (show T.length < 160 → tkz (s.data.toList.drop k) T.length = (tkz (s.data.toList.drop (k + 1)) (T.length + 1)).map (pTk 2 :: ·) from fun hn => by rw [HD.out, tkz_mrk HBK.out hn (by rw [hmm]; decide), hmm]; rfl)
        have HF := Lib.hid (show 160 ≤ T.length → tkz (s.data.toList.drop k) T.length = none from fun hn => by rw [HD.out, tkz_full HBK.out hn])
        clear h59 hmm
        go_wp2_with (at_builtin; refine wpList_append_rd _ rfl _ _ 33 rfl w.heap.size 41 i0 _ 2 24 Tryd.underlying33 hi hz0 hz1 hz2 rfl (by decide) _ _ _ rfl (hown.out.alloc _) _ 1 1 _ rfl (rd_lit2 ?c0 rfl) ?c2 ?c3 ?c4 ?c5 ?_)
        case c0 => first | rfl | simp
        case c2 => repeat' (first | rfl | apply And.intro)
        case c3 => simp only [maxLen]; omega
        case c4 => omega
        case c5 => first | omega | (simp; omega)
        intro v6 w6 own6 gr6 _
        have hb6 := (hb.out.alloc hbs _).grown gr6 (by simp; omega) (own_ge hown.out)
        obtain ⟨A6, c6, rfl, _, _, r6⟩ := rd_of_own own6
        clear r6 gr6
        have HB6 := Lib.hid hb6
        have HO6 := Lib.hid own6
        have hb6s := hb6.size
        clear hb6 own6
        by_cases hf : T.length < 160
        · have HN := Lib.hid (tks_step hd.out (HZ.out hf))
          go_wp2_with fail
          go_roundw
          case rel => exact ⟨k + 1, T ++ [pTk 2], by omega, by go_num, by rw [List.length_append]; exact hf, by rw [List.length_append, tkcs_append]; exact HO6.out, HN.out, HB6.out⟩
          case measure => simp [intOf]; omega
        · have HN := Lib.hid (tks_none hd.out (HF.out (by omega)))
          go_wp2_with fail
          go_ret2
          exact ⟨none, 0, [], by rw [HN.out]; rfl, by rw [HN.out]; exact rfl, ⟨rfl, fun h => absurd h (by decide)⟩, HB6.out, hb6s⟩
      have e59 : ((s[k].toNat : Int) == 59) = false := u8_ne (n := 59) (by decide) h59
      by_cases h123 : s[k] = 123
      · have e123 : ((s[k].toNat : Int) == 123) = true := u8_eq (n := 123) (by decide) h123
        have hmm : mrk s[k] = 3 := by rw [h123]; rfl
        have HZ := Lib.hid (show T.length < 160 → tkz (s.data.toList.drop k) T.length = (tkz (s.data.toList.drop (k + 1)) (T.length + 1)).map (pTk 3 :: ·) from fun hn => by rw [HD.out, tkz_mrk HBK.out hn (by rw [hmm]; decide), hmm]; rfl)
        have HF := Lib.hid (show 160 ≤ T.length → tkz (s.data.toList.drop k) T.length = none from fun hn => by rw [HD.out, tkz_full HBK.out hn])
        clear h123 hmm
        go_wp2_with (at_builtin; refine wpList_append_rd _ rfl _ _ 33 rfl w.heap.size 41 i0 _ 2 24 Tryd.underlying33 hi hz0 hz1 hz2 rfl (by decide) _ _ _ rfl (hown.out.alloc _) _ 1 1 _ rfl (rd_lit2 ?c0 rfl) ?c2 ?c3 ?c4 ?c5 ?_)
        case c0 => first | rfl | simp
        case c2 => repeat' (first | rfl | apply And.intro)
        case c3 => simp only [maxLen]; omega
        case c4 => omega
        case c5 => first | omega | (simp; omega)
        intro v6 w6 own6 gr6 _
        have hb6 := (hb.out.alloc hbs _).grown gr6 (by simp; omega) (own_ge hown.out)
        obtain ⟨A6, c6, rfl, _, _, r6⟩ := rd_of_own own6
        clear r6 gr6
        have HB6 := Lib.hid hb6
        have HO6 := Lib.hid own6
        have hb6s := hb6.size
        clear hb6 own6
        by_cases hf : T.length < 160
        · have HN := Lib.hid (tks_step hd.out (HZ.out hf))
          go_wp2_with fail
          go_roundw
          case rel => exact ⟨k + 1, T ++ [pTk 3], by omega, by go_num, by rw [List.length_append]; exact hf, by rw [List.length_append, tkcs_append]; exact HO6.out, HN.out, HB6.out⟩
          case measure => simp [intOf]; omega
        · have HN := Lib.hid (tks_none hd.out (HF.out (by omega)))
          go_wp2_with fail
          go_ret2
          exact ⟨none, 0, [], by rw [HN.out]; rfl, by rw [HN.out]; exact rfl, ⟨rfl, fun h => absurd h (by decide)⟩, HB6.out, hb6s⟩
      have e123 : ((s[k].toNat : Int) == 123) = false := u8_ne (n := 123) (by decide) h123
      by_cases h125 : s[k] = 125
      · have e125 : ((s[k].toNat : Int) == 125) = true := u8_eq (n := 125) (by decide) h125
        have hmm : mrk s[k] = 4 := by rw [h125]; rfl
        have HZ := Lib.hid (show T.length < 160 → tkz (s.data.toList.drop k) T.length = (tkz (s.data.toList.drop (k + 1)) (T.length + 1)).map (pTk 4 :: ·) from fun hn => by rw [HD.out, tkz_mrk HBK.out hn (by rw [hmm]; decide), hmm]; rfl)
        have HF := Lib.hid (show 160 ≤ T.length → tkz (s.data.toList.drop k) T.length = none from fun hn => by rw [HD.out, tkz_full HBK.out hn])
        clear h125 hmm
        go_wp2_with (at_builtin; refine wpList_append_rd _ rfl _ _ 33 rfl w.heap.size 41 i0 _ 2 24 Tryd.underlying33 hi hz0 hz1 hz2 rfl (by decide) _ _ _ rfl (hown.out.alloc _) _ 1 1 _ rfl (rd_lit2 ?c0 rfl) ?c2 ?c3 ?c4 ?c5 ?_)
        case c0 => first | rfl | simp
        case c2 => repeat' (first | rfl | apply And.intro)
        case c3 => simp only [maxLen]; omega
        case c4 => omega
        case c5 => first | omega | (simp; omega)
        intro v6 w6 own6 gr6 _
        have hb6 := (hb.out.alloc hbs _).grown gr6 (by simp; omega) (own_ge hown.out)
        obtain ⟨A6, c6, rfl, _, _, r6⟩ := rd_of_own own6
        clear r6 gr6
        have HB6 := Lib.hid hb6
        have HO6 := Lib.hid own6
        have hb6s := hb6.size
        clear hb6 own6
        by_cases hf : T.length < 160
        · have HN := Lib.hid (tks_step hd.out (HZ.out hf))
          go_wp2_with fail
          go_roundw
          case rel => exact ⟨k + 1, T ++ [pTk 4], by omega, by go_num, by rw [List.length_append]; exact hf, by rw [List.length_append, tkcs_append]; exact HO6.out, HN.out, HB6.out⟩
          case measure => simp [intOf]; omega
        · have HN := Lib.hid (tks_none hd.out (HF.out (by omega)))
          go_wp2_with fail
          go_ret2
          exact ⟨none, 0, [], by rw [HN.out]; rfl, by rw [HN.out]; exact rfl, ⟨rfl, fun h => absurd h (by decide)⟩, HB6.out, hb6s⟩
      have e125 : ((s[k].toNat : Int) == 125) = false := u8_ne (n := 125) (by decide) h125
      have HMK := Lib.hid (mrk_eq h59 h123 h125)
      clear h59 h123 h125
      go_wp2_with fail
      go_loop [5] (fun i => ∃ j : Nat, k ≤ j ∧ j ≤ s.size ∧ i = .int .i64 j ∧ Hid (∀ q (hq : q < s.size), k ≤ q → q < j → letU s[q] = true)) (fun i => s.size - (intOf i).toNat)
      case atStart => exact ⟨k, Nat.le_refl _, hk, rfl, fun q _ h1 h2 => absurd h1 (by omega)⟩
      case round =>
        obtain ⟨j, hkj, hj, rfl, hle⟩ := hrel
        by_cases hjl : j < s.size
        · cases hlj : ltrB (s[j].toNat : Int)
          · have HE2 := Lib.hid (tkz_end hkj hj hlt hle.out (fun _ => hlj) HBK.out HMK.out T.length)
            have hxs : (s.extract k j).size ≤ 9223372036854775807 := by simp; omega
            cases hw : wordOk (s.extract k j)
            · have HN := Lib.hid (tks_none hd.out (HE2.out.1 hw))
              go_wp2_with (first | (go_at_call 35; refine (isLetter_any _ _).mono ?_; rintro e w' ⟨rfl, rfl⟩) | (go_at_call 36; refine (IsValidWord_impl _ _ hxs).mono ?_; rintro e w' ⟨rfl, rfl⟩))
              go_ret2
              exact ⟨none, 0, [], by rw [HN.out]; rfl, by rw [HN.out]; exact rfl, ⟨rfl, fun h => absurd h (by decide)⟩, hb.out, hbs⟩
            · have HZ := Lib.hid (HE2.out.2 hw)
              have HF := Lib.hid (show 160 ≤ T.length → tkz (s.data.toList.drop k) T.length = none from fun hn => by rw [HD.out, tkz_full HBK.out hn])
              have hkj1 : k < j := by have := (wordOk_size hw).1; have e : (s.extract k j).size ≤ j - k := (by simp; omega); omega
              go_wp2_with (first | (go_at_call 35; refine (isLetter_any _ _).mono ?_; rintro e w' ⟨rfl, rfl⟩) | (go_at_call 36; refine (IsValidWord_impl _ _ hxs).mono ?_; rintro e w' ⟨rfl, rfl⟩) | (at_builtin; refine wpList_append_rd _ rfl _ _ 33 rfl w.heap.size 41 i0 _ 2 24 Tryd.underlying33 hi hz0 hz1 hz2 rfl (by decide) _ _ _ rfl (hown.out.alloc _) _ 1 1 _ rfl (rd_lit2 ?c0 rfl) ?c2 ?c3 ?c4 ?c5 ?_))
              case c0 => first | rfl | simp
              case c2 => repeat' (first | rfl | apply And.intro)
              case c3 => simp only [maxLen]; omega
              case c4 => omega
              case c5 => first | omega | (simp; omega)
              intro v6 w6 own6 gr6 _
              have hb6 := (hb.out.alloc hbs _).grown gr6 (by simp; omega) (own_ge hown.out)
              obtain ⟨A6, c6, rfl, _, _, r6⟩ := rd_of_own own6
              clear r6 gr6
              have HB6 := Lib.hid hb6
              have HO6 := Lib.hid own6
              have hb6s := hb6.size
              clear hb6 own6
              by_cases hf : T.length < 160
              · have HN := Lib.hid (tks_step hd.out (HZ.out hf))
                go_wp2_with fail
                go_roundw
                case rel => exact ⟨j, T ++ [wTk (s.extract k j)], by omega, by go_num, by rw [List.length_append]; exact hf, by rw [List.length_append, tkcs_append]; exact HO6.out, HN.out, HB6.out⟩
                case measure => simp [intOf]; omega
              · have HN := Lib.hid (tks_none hd.out (HF.out (by omega)))
                go_wp2_with fail
                go_ret2
                exact ⟨none, 0, [], by rw [HN.out]; rfl, by rw [HN.out]; exact rfl, ⟨rfl, fun h => absurd h (by decide)⟩, HB6.out, hb6s⟩
          · have HS := Lib.hid (show ∀ q (hq : q < s.size), k ≤ q → q < j + 1 → letU s[q] = true from fun q hq h1 h2 => by
              rcases Nat.lt_or_ge q j with h3 | h3
              · exact hle.out q hq h1 h3
              · obtain rfl : q = j := by omega
                exact hlj)
            go_wp2_with (go_at_call 35; refine (isLetter_any _ _).mono ?_; rintro e w' ⟨rfl, rfl⟩)
            go_round
            case rel => exact ⟨j + 1, by omega, by omega, by go_num, HS.out⟩
            case measure => simp [intOf]; omega
        · have HE2 := Lib.hid (tkz_end hkj hj hlt hle.out (fun h => absurd h hjl) HBK.out HMK.out T.length)
          have hxs : (s.extract k j).size ≤ 9223372036854775807 := by simp; omega
          cases hw : wordOk (s.extract k j)
          · have HN := Lib.hid (tks_none hd.out (HE2.out.1 hw))
            go_wp2_with (go_at_call 36; refine (IsValidWord_impl _ _ hxs).mono ?_; rintro e w' ⟨rfl, rfl⟩)
            go_ret2
            exact ⟨none, 0, [], by rw [HN.out]; rfl, by rw [HN.out]; exact rfl, ⟨rfl, fun h => absurd h (by decide)⟩, hb.out, hbs⟩
          · have HZ := Lib.hid (HE2.out.2 hw)
            have HF := Lib.hid (show 160 ≤ T.length → tkz (s.data.toList.drop k) T.length = none from fun hn => by rw [HD.out, tkz_full HBK.out hn])
            have hkj1 : k < j := by have := (wordOk_size hw).1; have e : (s.extract k j).size ≤ j - k := (by simp; omega); omega
            go_wp2_with (first | (go_at_call 36; refine (IsValidWord_impl _ _ hxs).mono ?_; rintro e w' ⟨rfl, rfl⟩) | (at_builtin; refine wpList_append_rd _ rfl _ _ 33 rfl w.heap.size 41 i0 _ 2 24 Tryd.underlying33 hi hz0 hz1 hz2 rfl (by decide) _ _ _ rfl (hown.out.alloc _) _ 1 1 _ rfl (rd_lit2 ?c0 rfl) ?c2 ?c3 ?c4 ?c5 ?_))
            case c0 => first | rfl | simp
            case c2 => repeat' (first | rfl | apply And.intro)
            case c3 => simp only [maxLen]; omega
            case c4 => omega
            case c5 => first | omega | (simp; omega)
            intro v6 w6 own6 gr6 _
            have hb6 := (hb.out.alloc hbs _).grown gr6 (by simp; omega) (own_ge hown.out)
            obtain ⟨A6, c6, rfl, _, _, r6⟩ := rd_of_own own6
            clear r6 gr6
            have HB6 := Lib.hid hb6
            have HO6 := Lib.hid own6
            have hb6s := hb6.size
            clear hb6 own6
            by_cases hf : T.length < 160
            · have HN := Lib.hid (tks_step hd.out (HZ.out hf))
              go_wp2_with fail
              go_roundw
              case rel => exact ⟨j, T ++ [wTk (s.extract k j)], by omega, by go_num, by rw [List.length_append]; exact hf, by rw [List.length_append, tkcs_append]; exact HO6.out, HN.out, HB6.out⟩
              case measure => simp [intOf]; omega
            · have HN := Lib.hid (tks_none hd.out (HF.out (by omega)))
              go_wp2_with fail
              go_ret2
              exact ⟨none, 0, [], by rw [HN.out]; rfl, by rw [HN.out]; exact rfl, ⟨rfl, fun h => absurd h (by decide)⟩, HB6.out, hb6s⟩
    · obtain rfl : k = s.size := by omega
      have HF := Lib.hid (show tkS s = some T by
        rw [hd.out, List.drop_of_length_le (by rw [bytes_len]; exact Nat.le_refl _), tkz_nil]
        simp)
      go_wp2_with fail
      go_ret2
      exact ⟨A0, c0, T, by rw [HF.out]; rfl, by rw [HF.out]; exact rfl, HR.out, hb.out, hbs⟩
end Go.Proofs.YthkbckkghnbonaaDoor
namespace Go.Proofs.YthkbckkghnbonaaDoor
open Go.RowKit
set_option linter.unusedVariables false
set_option maxRecDepth 100000 in
set_option maxHeartbeats 2000000 in
theorem FormatInt_some (k : Nat) (w : World) (h0 : 1 ≤ k) (h1 : k ≤ 999999) : Calls Tryd.prog 81 #[.int .i64 k] w fun e w' => ∃ t, e = .returned (.string t) ∧ Below w.heap.size w w' ∧ w.heap.size ≤ w'.heap.size := by
  have hd : decide (k = 0) = false := by simp; omega
  have hd2 : ((k : Int) == 0) = false := by simp; omega
  have hd3 : decide ((k : Int) = 0) = false := by simp; omega
  have hd4 : decide ((k : Int) < 0) = false := by simp
  go_enter Tryd.func81, Tryd.ntmps81
  go_wp2_with fail
  go_loopw [0, 4] (fun kk o wr => ∃ (j : Nat) (acc : ByteArray), kk = .int .i64 j ∧ j + acc.size ≤ 999999 ∧ o = .string acc ∧ Below w.heap.size w wr) (fun kk _ _ => (intOf kk).toNat)
  case atStart => exact ⟨k, ⟨#[]⟩, rfl, by show k + 0 ≤ _; omega, rfl, Below.refl _ _⟩
  case round =>
    obtain ⟨j, acc, rfl, hp, rfl, hb⟩ := hrel
    have hbs := hb.size
    by_cases hlt : 0 < j
    · obtain ⟨b, hbb⟩ : ∃ b, b = (48 + j % 10).toUInt8 := ⟨_, rfl⟩
      have hb8 := u8_of j
      rw [← hbb] at hb8
      have kc : ∀ W : World, (convert 79 9 (.slice (some ⟨W.heap.size, 0, none⟩) 1 1)).run Tryd.prog (W.alloc (.cells #[.int .u8 (48 + (j : Int) % 10)] 5)) = .ok (.string ⟨#[b]⟩) (W.alloc (.cells #[.int .u8 (48 + (j : Int) % 10)] 5)) := fun W => by
        rw [← hb8]
        exact conv1 W b
      have e1 : ∀ w : World, (Op.stringOp .add ⟨#[b]⟩ acc).run Tryd.prog w = .ok (.string (⟨#[b]⟩ ++ acc)) w := fun w => run_string_add_sum w _ _ (by show 1 + acc.size ≤ _; omega)
      clear hbb hb8
      have g0 : decide (j = 0) = false := by simp; omega
      have g1 : ((j : Int) != 0) = true := by simp; omega
      have g2 : decide ((j : Int) % 10 < 0) = false := by simp; omega
      go_wp2_with fail
      go_roundw
      case rel => exact ⟨j / 10, ⟨#[b]⟩ ++ acc, by simp, by rw [ByteArray.size_append]; show j / 10 + (1 + acc.size) ≤ _; omega, rfl, (by repeat (first | exact Below.refl _ _ | assumption | (refine Below.trans ?_ (Below.mono (by assumption) (by first | omega | (simp; done) | (simp; omega)))) | (with_reducible refine Below.drew ?_) | (with_reducible refine Below.alloc ?_ (by first | omega | (simp; done) | (simp; omega)) _) | (with_reducible refine Below.setCell ?_ (by first | omega | (simp; done) | (simp; omega)) _)))⟩
      case measure => simp [intOf]; omega
    · obtain rfl : j = 0 := by omega
      go_wp2_with fail
      go_ret
      exact ⟨acc, rfl, (by repeat (first | exact Below.refl _ _ | assumption | (refine Below.trans ?_ (Below.mono (by assumption) (by first | omega | (simp; done) | (simp; omega)))) | (with_reducible refine Below.drew ?_) | (with_reducible refine Below.alloc ?_ (by first | omega | (simp; done) | (simp; omega)) _) | (with_reducible refine Below.setCell ?_ (by first | omega | (simp; done) | (simp; omega)) _))), by omega⟩
theorem dig_ne {s : ByteArray} (h : ∀ x : Int, 1 ≤ x → x ≤ 9 → s ≠ dig x) {n : Int} (h1 : 1 ≤ n) (h9 : n ≤ 9) : ((dig n).toList == s.toList) = false := by
  have := h n h1 h9
  rw [beq_eq_false_iff_ne]
  exact fun e => this (ba_inj e).symm
def RetNo (w : World) (e : Ending) (w' : World) : Prop := ∃ (n : Int) (ok : Bool), e = .returned (.tuple #[.int .i64 n, .bool ok]) ∧ 0 ≤ n ∧ ¬ (ok = true ∧ 1 ≤ n ∧ n ≤ 9) ∧ Below w.heap.size w w' ∧ w.heap.size ≤ w'.heap.size
theorem ltr_in {s : ByteArray} (h : wordOk s = true) (h0 : 0 < s.size) : ltrB (s[0].toNat : Int) = true := by
  have hl : letsUpto s s.size = true := by
    unfold wordOk at h
    rw [Bool.and_eq_true] at h
    exact h.1
  cases e : ltrB (s[0].toNat : Int)
  · have h1 : letsUpto s 1 = false := by rw [lets_step h0, e]; simp
    have := lets_le (k := 1) (by omega) h1
    rw [this] at hl
    cases hl
  · rfl
theorem no_45 {s : ByteArray} (h : wordOk s = true) (h0 : 0 < s.size) : ((s[0].toNat : Int) == 45) = false := by
  have h1 := ltr_in h h0
  simp [ltrB] at h1
  simp
  omega
theorem pow_step {N k d : Nat} (h : N + 1 ≤ 10 ^ k) (hd : d ≤ 9) : 10 * N + d + 1 ≤ 10 ^ (k + 1) := by rw [Nat.pow_succ]; omega
theorem pow_6 {N k : Nat} (h : N + 1 ≤ 10 ^ k) (hk : k ≤ 6) : N ≤ 999999 := by
  have := Nat.pow_le_pow_right (n := 10) (by decide) hk
  omega
set_option maxRecDepth 100000 in
set_option maxHeartbeats 4000000 in
theorem l1Read_no (s : ByteArray) (w : World) (hw : wordOk s = true) (hno : ∀ x : Int, 1 ≤ x → x ≤ 9 → s ≠ dig x) : Calls Tryd.prog 83 #[.string s, .int .i64 6] w (RetNo w) := by
  obtain ⟨z1, z8⟩ := wordOk_size hw
  have h45 := no_45 hw (by omega)
  have HNO := Lib.hid hno
  clear hno
  by_cases hbig : 6 < s.size
  · go_enter Tryd.func83, Tryd.ntmps83
    go_wp2_with fail
    go_ret2
    exact ⟨0, false, rfl, by omega, by simp, Below.refl _ _, Nat.le_refl _⟩
  go_enter Tryd.func83, Tryd.ntmps83
  go_wp2_with fail
  go_loop [8, 9] (fun n i => ∃ (k N : Nat), k ≤ s.size ∧ i = .int .i64 k ∧ n = .int .i64 N ∧ Hid (N + 1 ≤ 10 ^ k)) (fun _ i => s.size - (intOf i).toNat)
  case atStart => exact ⟨0, 0, Nat.zero_le _, rfl, rfl, Lib.hid (by decide)⟩
  case round =>
    obtain ⟨k, N, hk, rfl, rfl, hN⟩ := hrel
    have hN6 := pow_6 hN.out (by omega)
    by_cases hlt : k < s.size
    · by_cases hd : 48 ≤ s[k].toNat ∧ s[k].toNat ≤ 57
      · have HN := Lib.hid (pow_step (d := s[k].toNat - 48) hN.out (by omega))
        have e1 : decide ((s[k].toNat : Int) < 48) = false := decide_eq_false (by omega)
        have e2 : decide (57 < (s[k].toNat : Int)) = false := decide_eq_false (by omega)
        go_wp2_with fail
        go_round
        case rel => exact ⟨k + 1, 10 * N + (s[k].toNat - 48), by omega, by go_num, by congr 1; omega, HN⟩
        case measure => simp [intOf]; omega
      · by_cases h1 : s[k].toNat < 48
        · have e1 : decide ((s[k].toNat : Int) < 48) = true := decide_eq_true (by omega)
          go_wp2_with fail
          go_ret2
          exact ⟨0, false, rfl, by omega, by simp, Below.refl _ _, Nat.le_refl _⟩
        · have e1 : decide ((s[k].toNat : Int) < 48) = false := decide_eq_false (by omega)
          have e2 : decide (57 < (s[k].toNat : Int)) = true := decide_eq_true (by omega)
          go_wp2_with fail
          go_ret2
          exact ⟨0, false, rfl, by omega, by simp, Below.refl _ _, Nat.le_refl _⟩
    · obtain rfl : k = s.size := by omega
      clear hN
      by_cases h0 : N = 0
      · subst h0
        by_cases hs : dig 0 = s
        · have e1 : ((dig 0).toList == s.toList) = true := by simp [hs]
          clear hs
          go_wp2_with (go_at_call 81; refine (FormatInt_spec9 0 (by omega) (by omega) w).mono ?_; rintro e w1 ⟨rfl, b1, s1⟩)
          go_ret2
          exact ⟨0, true, rfl, by omega, by simp, b1, s1⟩
        · have e1 : ((dig 0).toList == s.toList) = false := by rw [beq_eq_false_iff_ne]; exact fun e => hs (ba_inj e)
          clear hs
          go_wp2_with (go_at_call 81; refine (FormatInt_spec9 0 (by omega) (by omega) w).mono ?_; rintro e w1 ⟨rfl, b1, s1⟩)
          go_ret2
          exact ⟨0, false, rfl, by omega, by simp, b1, s1⟩
      · by_cases h9 : N ≤ 9
        · have e1 := dig_ne HNO.out (n := (N : Int)) (by omega) (by omega)
          go_wp2_with (go_at_call 81; refine (FormatInt_spec9 (N : Int) (by omega) (by omega) w).mono ?_; rintro e w1 ⟨rfl, b1, s1⟩)
          go_ret2
          exact ⟨0, false, rfl, by omega, by simp, b1, s1⟩
        · go_wp2_with fail
          refine (FormatInt_some N w (by omega) hN6).mono ?_
          rintro e w1 ⟨t, rfl, b1, s1⟩
          by_cases hs : t = s
          · have e1 : (t.toList == s.toList) = true := by simp [hs]
            clear hs
            go_wp2_with fail
            go_ret2
            exact ⟨N, true, rfl, by omega, by simp; omega, b1, s1⟩
          · have e1 : (t.toList == s.toList) = false := by rw [beq_eq_false_iff_ne]; exact fun e => hs (ba_inj e)
            clear hs
            go_wp2_with fail
            go_ret2
            exact ⟨0, false, rfl, by omega, by simp, b1, s1⟩
theorem small9s {s : ByteArray} (h : ¬ ∀ x : Int, 1 ≤ x → x ≤ 9 → s ≠ dig x) : ∃ x : Int, 1 ≤ x ∧ x ≤ 9 ∧ s = dig x := by
  apply Classical.byContradiction
  intro hc
  exact h (fun x h1 h2 e => hc ⟨x, h1, h2, e⟩)
set_option maxRecDepth 100000 in
set_option maxHeartbeats 4000000 in
theorem l1Read_yes (s : ByteArray) (x : Nat) (w : World) (h1 : 1 ≤ x) (h9 : x ≤ 9) (z1 : s.size = 1) (hb : s[0].toNat = 48 + x) (hs : dig x = s) : Calls Tryd.prog 83 #[.string s, .int .i64 6] w fun e w' => e = .returned (.tuple #[.int .i64 x, .bool true]) ∧ Below w.heap.size w w' ∧ w.heap.size ≤ w'.heap.size := by
  have h45 : ((s[0].toNat : Int) == 45) = false := by simp; omega
  have e1 : ((dig (x : Int)).toList == s.toList) = true := by simp [hs]
  have e2 : decide ((s[0].toNat : Int) < 48) = false := decide_eq_false (by omega)
  have e3 : decide (57 < (s[0].toNat : Int)) = false := decide_eq_false (by omega)
  clear hs
  go_enter Tryd.func83, Tryd.ntmps83
  go_wp2_with fail
  go_loop [8, 9] (fun n i => ∃ (k N : Nat), k ≤ 1 ∧ i = .int .i64 k ∧ n = .int .i64 N ∧ Hid (N = k * x)) (fun _ i => 2 - (intOf i).toNat)
  case atStart => exact ⟨0, 0, by omega, rfl, rfl, Lib.hid (by simp)⟩
  case round =>
    obtain ⟨k, N, hk, rfl, rfl, hN⟩ := hrel
    by_cases hlt : k < s.size
    · have hbk : s[k].toNat = 48 + x := by
        have h0 : k = 0 := by omega
        subst h0
        exact hb
      have HN2 := Lib.hid (show 10 * N + (s[k].toNat - 48) = (k + 1) * x by
        have h0 : k = 0 := by omega
        have hn0 : N = 0 := by have := hN.out; rw [h0] at this; simpa using this
        rw [hbk, h0, hn0]
        omega)
      have hN9 : N ≤ 9 := by
        have h0 : k = 0 := by omega
        have hn0 : N = 0 := by have := hN.out; rw [h0] at this; simpa using this
        omega
      have e4 : decide ((s[k].toNat : Int) < 48) = false := decide_eq_false (by omega)
      have e5 : decide (57 < (s[k].toNat : Int)) = false := decide_eq_false (by omega)
      have b1 : 48 ≤ s[k].toNat := by omega
      have b2 : s[k].toNat ≤ 57 := by omega
      clear hb e1 e2 e3 h45 hbk hN
      go_wp2_with fail
      go_round
      case rel => exact ⟨k + 1, 10 * N + (s[k].toNat - 48), by omega, by go_num, by congr 1; omega, HN2⟩
      case measure => simp [intOf]; omega
    · obtain rfl : k = 1 := by omega
      obtain rfl : N = x := by have := hN.out; simpa using this
      go_wp2_with (go_at_call 81; refine (FormatInt_spec9 (N : Int) (by omega) (by omega) w).mono ?_; rintro e w1 ⟨rfl, b1, s1⟩)
      go_ret2
      exact ⟨rfl, b1, s1⟩
theorem dig_byte {x : Int} (h1 : 1 ≤ x) (h9 : x ≤ 9) : ∃ (h : (dig x).size = 1), ((dig x)[0].toNat : Int) = 48 + x := by
  rcases small9 h1 h9 with rfl | rfl | rfl | rfl | rfl | rfl | rfl | rfl | rfl <;> exact ⟨rfl, rfl⟩
set_option maxRecDepth 100000 in
set_option maxHeartbeats 1000000 in
theorem ParseNumber_spec (s : ByteArray) (w : World) (hw : wordOk s = true) : Calls Tryd.prog 77 #[.string s] w (RetNum s w) := by
  by_cases hno : ∀ x : Int, 1 ≤ x → x ≤ 9 → s ≠ dig x
  · have HNO := Lib.hid hno
    clear hno
    go_enter Tryd.func77, Tryd.ntmps77
    go_wp2_with fail
    refine (l1Read_no s w hw HNO.out).mono ?_
    rintro e w1 ⟨n, ok, rfl, hn0, hn9, b1, s1⟩
    have hd : decide (n < 0) = false := decide_eq_false (by omega)
    have HN : Hid (NumOf s n ok) := ⟨fun h1 h2 h3 => absurd ⟨h1, h2, h3⟩ hn9, fun x h1 h2 e => absurd e (HNO.out x h1 h2)⟩
    clear hn9
    cases ok
    · go_wp2_with fail
      go_ret2
      exact ⟨0, false, rfl, ⟨fun h => by simp at h, fun x h1 h2 e => absurd e (HNO.out x h1 h2)⟩, b1, s1⟩
    · go_wp2_with fail
      go_ret2
      exact ⟨n, true, rfl, HN.out, b1, s1⟩
  · obtain ⟨x, h1, h9, rfl⟩ := small9s hno
    have key : Calls Tryd.prog 83 #[.string (dig x), .int .i64 6] w fun e w' => e = .returned (.tuple #[.int .i64 x, .bool true]) ∧ Below w.heap.size w w' ∧ w.heap.size ≤ w'.heap.size := by
      obtain ⟨hz, hbt⟩ := dig_byte h1 h9
      obtain ⟨y, rfl⟩ : ∃ y : Nat, x = y := ⟨x.toNat, by omega⟩
      exact l1Read_yes _ y w (by omega) (by omega) hz (by omega) rfl
    have hd : decide (x < 0) = false := decide_eq_false (by omega)
    have KEY := Lib.hid key
    clear key hno
    go_enter Tryd.func77, Tryd.ntmps77
    go_wp2_with fail
    refine KEY.out.mono ?_
    rintro e w1 ⟨rfl, b1, s1⟩
    go_wp2_with fail
    go_ret2
    exact ⟨x, true, rfl, ⟨fun _ _ _ => rfl, fun y h2 h3 e => ⟨rfl, by
      have a := numW_dig9 ⟨h1, h9⟩
      have b := numW_dig9 ⟨h2, h3⟩
      rw [e, b] at a
      injection a with a
      exact a.symm⟩⟩, b1, s1⟩
end Go.Proofs.YthkbckkghnbonaaDoor
namespace Go.Proofs.YthkbckkghnbonaaDoor
open Go.RowKit
set_option linter.unusedVariables false
theorem word_okT {T : List Tk} (hw : ∀ t ∈ T, wellTk t) {i : Nat} (h1 : kindT T i = 1) : wordOk (textT T i) = true := by
  unfold kindT at h1
  unfold textT
  cases e : T[i]? with
  | none => rw [e] at h1; exact absurd h1 (by decide)
  | some t =>
    rw [e] at h1
    rcases hw t (List.mem_of_getElem? e) with ⟨_, h⟩ | ⟨h, _⟩
    · exact h
    · have h1 : t.k = 1 := h1
      omega
set_option maxRecDepth 100000 in
set_option maxHeartbeats 4000000 in
theorem l18Number_any (R n c : Nat) (A : Option Addr) (T : List Tk) (s : Rs) (w : World) (h : RdS R A n c T s w) (hn : n ≤ 1048576) (hT : ∀ t ∈ T, wellTk t) :
    Calls Tryd.prog 59 #[.pointer (some ⟨R, 0, none⟩)] w (RtS R A n c T (.int .i64 (numR T s).2) (numR T s).1 w) := by
  obtain ⟨⟨k0, k1, k2⟩, f1, f2, lR⟩ := h.cells
  have H := Lib.hid h
  by_cases h0 : s.code = 0
  · by_cases h1 : kindT T s.i = 1
    · have hlt : s.i < T.length := kindT_lt (by rw [h1]; decide)
      have hsn : s.i < n := by have := h.l; omega
      obtain ⟨b, off, rfl, hbR, hbl, q0, q1⟩ := h.tok hsn
      have hwk := word_okT hT h1
      have HY := Lib.hid (fun x => numR_yes (T := T) (s := s) (x := x) h0 h1)
      have HB := Lib.hid (numR_bad (T := T) (s := s))
      have HK := Lib.hid h1
      have HFE := Lib.hid (failR_0 h0 6)
      have H0 := Lib.hid h0
      rw [h0] at k2
      obtain ⟨word, hw⟩ : ∃ word, word = textT T s.i := ⟨_, rfl⟩
      rw [← hw] at q1 hwk HY HB
      have hnb : b ≠ R := by omega
      rw [h1] at q0
      clear h h0 hw
      go_enter Tryd.func59, Tryd.ntmps59
      go_wp2_with (go_at_call 13; refine (l18Kind_any R n c _ T s w H.out hn).mono ?_; rintro e w' ⟨rfl, m, rfl⟩; rw [HK.out])
      obtain ⟨wm, hwm⟩ : ∃ wm, wm = w.drewN m := ⟨_, rfl⟩
      have c0 : wm.cell? ⟨R, 0, none⟩ = some (.slice (some ⟨b, off, none⟩) n c) := by rw [hwm]; exact k0
      have c1 : wm.cell? ⟨R, 1, none⟩ = some (.int .i64 s.i) := by rw [hwm]; exact k1
      have c2 : wm.cell? ⟨b, off + s.i * 2 + 1, none⟩ = some (.string word) := by rw [hwm]; exact q1
      have b0 : Below w.heap.size w wm := by rw [hwm]; exact below_drewN (Below.refl _ _) m
      have B0 := Lib.hid b0
      have b0s := b0.size
      rw [← hwm]
      clear hwm b0
      go_region_held3 (fun W => W.cell? ⟨R, 0, none⟩ = some (.slice (some ⟨b, off, none⟩) n c) ∧ W.cell? ⟨R, 1, none⟩ = some (.int .i64 s.i) ∧ W.cell? ⟨b, off + s.i * 2 + 1, none⟩ = some (.string word)) (go_keep)
        ((go_at_call 77; (with_reducible refine (ParseNumber_spec word _ hwk).mono ?_); rintro e w1 ⟨x, ok, rfl, hnum, hb9, hs0⟩; have hb0 : Below wm.heap.size wm w1 := ⟨hb9.os, hb9.tape, hb9.output, hb9.size, hb9.block⟩; have z0 : w1.cell? ⟨R, 0, none⟩ = some (.slice (some ⟨b, off, none⟩) n c) := (hb0.cell (p := ⟨R, 0, none⟩) (by show R < _; omega)).trans c0; have z1 : w1.cell? ⟨R, 1, none⟩ = some (.int .i64 s.i) := (hb0.cell (p := ⟨R, 1, none⟩) (by show R < _; omega)).trans c1; have z2 : w1.cell? ⟨b, off + s.i * 2 + 1, none⟩ = some (.string word) := (hb0.cell (p := ⟨b, off + s.i * 2 + 1, none⟩) (by show b < _; omega)).trans c2))
      have hb1 : Below w.heap.size w w1 := B0.out.trans (hb0.mono b0s)
      have hs1 := hb1.size
      have H1 := Lib.hid (H.out.below hb1)
      have HG := Lib.hid (only_of_below hb1 (some R))
      have NUM := Lib.hid hnum
      clear k0 k1 k2 f1 f2 lR hb1 hs1 hnum q0 q1 c0 c1 c2 hb0 hs0 b0s hb9 z0 z1 z2
      obtain ⟨⟨k0, k1, k2⟩, f1, f2, lR⟩ := H1.out.cells
      rw [H0.out] at k2
      by_cases hg : ok = true ∧ 1 ≤ x ∧ x ≤ 9
      · obtain ⟨rfl, hx1, hx9⟩ := hg
        have HE := Lib.hid (HY.out x (numOf_yes NUM.out hx1 hx9))
        have hin : inB x 1 9 = true := inB_t hx1 hx9
        have HN := Lib.hid (H1.out.atv (i := s.i + 1) (v := (s.i : Int) + 1) hlt (by simp))
        rw [H0.out] at HN
        have hz : s.i + 1 ≤ 1048577 := by omega
        go_wp2_with (go_at_call 45; refine (l1In_any _ _ _ _).mono ?_; rintro e w' ⟨rfl, rfl⟩; rw [hin])
        go_ret
        exact ⟨by rw [HE.out]; rfl, by rw [HE.out]; exact HN.out, HG.out.andThen (gr_set _) (fun j hj => .inr hj)⟩
      · have HE := Lib.hid (HB.out (numOf_none NUM.out hg))
        cases ok
        · go_wp2_with (go_at_call 32; refine (l18Fail_any R n c _ T s 6 _ H1.out).mono ?_; rintro e w' ⟨rfl, hr, hg⟩)
          go_ret
          exact ⟨by rw [HE.out]; rfl, by rw [HE.out]; exact hr, HG.out.andThen (by assumption) (fun j hj => .inr hj)⟩
        · have hin : inB x 1 9 = false := inB_no (fun h => hg ⟨rfl, h⟩)
          clear hg
          go_wp2_with (first | (go_at_call 45; refine (l1In_any _ _ _ _).mono ?_; rintro e w' ⟨rfl, rfl⟩; rw [hin]) | (go_at_call 32; refine (l18Fail_any R n c _ T s 6 _ H1.out).mono ?_; rintro e w' ⟨rfl, hr, hg⟩))
          go_ret
          exact ⟨by rw [HE.out]; rfl, by rw [HE.out]; exact hr, HG.out.andThen hg (fun j hj => .inr hj)⟩
    · have HE := Lib.hid (numR_no (T := T) (s := s) (fun h => h1 h.2))
      have d1 : (kindT T s.i == 1) = false := by simp [h1]
      have d3 : (kindT T s.i != 1) = true := by simp [h1]
      rw [h0] at k2
      clear h h0 h1
      go_enter Tryd.func59, Tryd.ntmps59
      go_wp2_with (first | (go_at_call 13; refine (l18Kind_any R n c _ T s w H.out hn).mono ?_; rintro e w' ⟨rfl, m, rfl⟩) | (go_at_call 32; refine (l18Fail_any R n c _ T s 6 _ (H.out.drewN _)).mono ?_; rintro e w' ⟨rfl, hr, hg⟩))
      go_ret
      exact ⟨by rw [HE.out]; rfl, by rw [HE.out]; exact hr, (gr_drewN (World.grownBy.refl _ _) _).andThen hg (fun j hj => .inr hj)⟩
  · have HE := Lib.hid (numR_no (T := T) (s := s) (fun h => h0 h.1))
    have d0 : (s.code != 0) = true := by simp [h0]
    clear h h0
    go_enter Tryd.func59, Tryd.ntmps59
    go_wp2_with (go_at_call 32; refine (l18Fail_any R n c _ T s 6 _ H.out).mono ?_; rintro e w' ⟨rfl, hr, hg⟩)
    go_ret
    exact ⟨by rw [HE.out]; rfl, by rw [HE.out]; exact hr, hg⟩
end Go.Proofs.YthkbckkghnbonaaDoor
