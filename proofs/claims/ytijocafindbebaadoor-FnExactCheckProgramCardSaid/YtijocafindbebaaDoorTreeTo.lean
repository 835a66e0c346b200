/- Copying a list of statements: the copy reads the same and lies in new memory. -/
import Derived.Test.YtijocafindbebaaDoorTreeSz
namespace Go.Proofs.YtijocafindbebaaDoor
open Go.RowKit
set_option linter.unusedVariables false
section
variable {w w' : World} {lo : Nat}
theorem setCell_keep {p : Addr} (hp : p.block < lo) (u : Value) : ∀ b o, lo ≤ b → b < w.heap.size → (w.setCell p u).cell? ⟨b, o, none⟩ = w.cell? ⟨b, o, none⟩ :=
  fun b o hb _ => World.cell?_setCell_other w p ⟨b, o, none⟩ u (fun e => by subst e; simp at hp; omega)
theorem size_setCell (p : Addr) (u : Value) : (w.setCell p u).heap.size = w.heap.size := by simp [World.setCell]
theorem RdT.set_ {d n : Nat} {A : Option Addr} {l : List (Tr d)} (h : RdT w lo d A n l) {p : Addr} (hp : p.block < lo) (u : Value) : RdT (w.setCell p u) lo d A n l :=
  h.keep (setCell_keep hp u) (by rw [size_setCell]; exact Nat.le_refl _)
theorem RdL.set_ {size n : Nat} {A : Option Addr} {xs : List Value} (h : RdL w lo size A n xs) {p : Addr} (hp : p.block < lo) (u : Value) : RdL (w.setCell p u) lo size A n xs :=
  h.keep (setCell_keep hp u) (by rw [size_setCell]; exact Nat.le_refl _)
theorem heap_set_self {g i : Nat} {t : TypeId} {cs : Array Value} (h : w.heap[g]? = some (.cells cs t (0, 0))) (u : Value) : (w.setCell ⟨g, i, none⟩ u).heap[g]? = some (.cells (cs.setIfInBounds i u) t (0, 0)) := by
  simp [World.setCell, Array.getElem?_modify, h]
theorem heap_set_far {g : Nat} {o : Obj} {p : Addr} (h : w.heap[g]? = some o) (hp : g ≠ p.block) (u : Value) : (w.setCell p u).heap[g]? = some o := (Below.heap_setCell w p u g hp).trans h
theorem boxcells5 {b : Nat} {x0 x1 x2 x3 x4 : Value} {t : TypeId} (lay : Below w'.heap.size w' w) (h : w'.heap[b]? = some (.cells #[x0, x1, x2, x3, x4] t (0, 0))) :
    w.cell? ⟨b, 0, none⟩ = some x0 ∧ w.cell? ⟨b, 1, none⟩ = some x1 ∧ w.cell? ⟨b, 2, none⟩ = some x2 ∧ w.cell? ⟨b, 3, none⟩ = some x3 ∧ w.cell? ⟨b, 4, none⟩ = some x4 := by
  have h' : w.heap[b]? = some (.cells #[x0, x1, x2, x3, x4] t (0, 0)) := (lay.block b (lt_of_block h)).trans h
  exact ⟨by simp [World.cell?, h'], by simp [World.cell?, h'], by simp [World.cell?, h'], by simp [World.cell?, h'], by simp [World.cell?, h']⟩
theorem boxfree {b : Nat} {cs : Array Value} {t : TypeId} (lay : Below w'.heap.size w' w) (h : w'.heap[b]? = some (.cells cs t (0, 0))) (j : Nat) : w.frozen? ⟨b, j, none⟩ = false := by
  have h' : w.heap[b]? = some (.cells cs t (0, 0)) := (lay.block b (lt_of_block h)).trans h
  simp [World.frozen?, h']
end
/-- A call that returns a copy of statements in new memory. -/
def RetT (d n : Nat) (l : List (Tr d)) (w : World) (e : Ending) (w' : World) : Prop :=
  ∃ A c, e = .returned (.slice A n c) ∧ RdT w' w.heap.size d A n l ∧ Below w.heap.size w w' ∧ w.heap.size ≤ w'.heap.size
def ToSaid (d : Nat) : Prop := ∀ (lo : Nat) (A : Option Addr) (n c : Nat) (l : List (Tr d)) (w : World), RdT w lo d A n l → szT d l ≤ 1048576 → Calls Tryd.prog 52 #[.slice A n c] w (RetT d n l w)
def RetS (d nb : Nat) (k : Int) (word : ByteArray) (args : List ByteArray) (count : Int) (bd : List (Tr d)) (w : World) (e : Ending) (w' : World) : Prop :=
  ∃ Aa ca Ab cb, e = .returned (.agg #[.int .i64 k, .string word, .slice Aa args.length ca, .int .i64 count, .slice Ab nb cb]) ∧ RdL w' w.heap.size 1 Aa args.length (strs args) ∧ RdT w' w.heap.size d Ab nb bd ∧ Below w.heap.size w w' ∧ w.heap.size ≤ w'.heap.size
/-- As RetS; the capacity of the names too. -/
def RetSC (d nb : Nat) (k : Int) (word : ByteArray) (args : List ByteArray) (count : Int) (bd : List (Tr d)) (w : World) (e : Ending) (w' : World) : Prop :=
  ∃ Aa ca Ab cb, e = .returned (.agg #[.int .i64 k, .string word, .slice Aa args.length ca, .int .i64 count, .slice Ab nb cb]) ∧ RdL w' w.heap.size 1 Aa args.length (strs args) ∧ RdT w' w.heap.size d Ab nb bd ∧ Below w.heap.size w w' ∧ w.heap.size ≤ w'.heap.size ∧ args.length ≤ ca
set_option maxRecDepth 100000 in
set_option maxHeartbeats 2000000 in
theorem toStmt_c {d : Nat} (ih : ToSaid d) (lo : Nat) (k : Int) (word : ByteArray) (args : List ByteArray) (count : Int) (bd : List (Tr d)) (Aa : Option Addr) (ca : Nat) (Ab : Option Addr) (nb cb : Nat) (w : World)
    (hra : RdL w lo 1 Aa args.length (strs args)) (hrb : RdT w lo d Ab nb bd) (h1 : args.length ≤ 1048576) (h2 : szT d bd ≤ 1048576) :
    Calls Tryd.prog 14 #[.agg #[.int .i64 k, .string word, .slice Aa args.length ca, .int .i64 count, .slice Ab nb cb]] w (RetSC d nb k word args count bd w) := by
  obtain ⟨m, hm⟩ : ∃ m, m = args.length := ⟨_, rfl⟩
  rw [← hm] at hra h1 ⊢
  have HM := Lib.hid hm
  have HA := Lib.hid hra
  have HB := Lib.hid hrb
  clear hm hra hrb
  go_enter Tryd.func14, Tryd.ntmps14
  go_wp2_with fail
  obtain ⟨w0, hw0⟩ : ∃ w0, w0 = ((w.alloc (.cells #[.int .i64 k, .string word, .slice Aa m ca, .int .i64 count, .slice Ab nb cb] 25)).alloc (.cells #[.int .i64 0, .string ⟨#[]⟩, .slice none 0 0, .int .i64 0, .slice none 0 0] 30)).alloc (.cells #[.int .i64 k, .string word, .slice none 0 0, .int .i64 0, .slice none 0 0] 30) := ⟨_, rfl⟩
  rw [← hw0]
  have x0 : w0.heap[w.heap.size]? = some (.cells #[.int .i64 k, .string word, .slice Aa m ca, .int .i64 count, .slice Ab nb cb] 25 (0, 0)) := by rw [hw0]; exact boxed3_0 _ _ _ _
  have x1 : w0.heap[w.heap.size + 1]? = some (.cells #[.int .i64 0, .string ⟨#[]⟩, .slice none 0 0, .int .i64 0, .slice none 0 0] 30 (0, 0)) := by rw [hw0]; exact boxed3_1 _ _ _ _
  have x2 : w0.heap[w.heap.size + 2]? = some (.cells #[.int .i64 k, .string word, .slice none 0 0, .int .i64 0, .slice none 0 0] 30 (0, 0)) := by rw [hw0]; exact boxed3_2 _ _ _ _
  have b0 : Below w.heap.size w w0 := by rw [hw0]; exact (by repeat (first | exact Below.refl _ _ | assumption | (refine Below.trans ?_ (Below.mono (by assumption) (by first | omega | (simp; done) | (simp; omega)))) | (with_reducible refine Below.drew ?_) | (with_reducible refine Below.alloc ?_ (by first | omega | (simp; done) | (simp; omega)) _) | (with_reducible refine Below.setCell ?_ (by first | omega | (simp; done) | (simp; omega)) _)))
  have s0 : w.heap.size + 3 = w0.heap.size := by rw [hw0]; simp
  have S0 := Lib.hid s0
  have X0 := Lib.hid x0
  have X1 := Lib.hid x1
  have X2 := Lib.hid x2
  clear hw0 s0 x0 x1 x2
  refine (toStringS_any _ _ _ args _ (HA.out.rd.below b0) HM.out.symm (by omega)).mono ?_
  rintro e w1 ⟨v1, rfl, o1, b1, s1⟩
  obtain ⟨A1, c1, rfl, hcap1, _, _⟩ := rd_of_own o1
  obtain ⟨_, _, _, p3, p4⟩ := boxcells5 (lay := b1) X0.out
  obtain ⟨_, _, q2, q3, _⟩ := boxcells5 (lay := b1) X2.out
  have f2 := boxfree b1 X2.out 2
  have f3 := boxfree b1 X2.out 3
  go_wp2_with fail
  obtain ⟨w2, hw2⟩ : ∃ w2, w2 = (w1.setCell ⟨w.heap.size + 2, 2, none⟩ (.slice A1 m c1)).setCell ⟨w.heap.size + 2, 3, none⟩ (.int .i64 count) := ⟨_, rfl⟩
  rw [← hw2]
  have hS := S0.out
  have y1 : w2.heap[w.heap.size + 1]? = some (.cells #[.int .i64 0, .string ⟨#[]⟩, .slice none 0 0, .int .i64 0, .slice none 0 0] 30 (0, 0)) := by
    rw [hw2]; exact heap_set_far (heap_set_far ((b1.block _ (by omega)).trans X1.out) (by simp) _) (by simp) _
  have y2 : w2.heap[w.heap.size + 2]? = some (.cells #[.int .i64 k, .string word, .slice A1 m c1, .int .i64 count, .slice none 0 0] 30 (0, 0)) := by
    rw [hw2]; exact heap_set_self (heap_set_self ((b1.block _ (by omega)).trans X2.out) _) _
  have b2 : Below w.heap.size w w2 := by rw [hw2]; exact ((b0.trans (b1.mono (by omega))).setCell (by simp) _).setCell (by simp) _
  have s2 : w1.heap.size = w2.heap.size := by rw [hw2, size_setCell, size_setCell]
  have r1 : RdL w2 (w.heap.size + 3) 1 A1 m (strs args) := by
    rw [hw2]; exact ((rdl_own o1).lower (by omega) |>.set_ (by simp) _).set_ (by simp) _
  have Y1 := Lib.hid y1
  have Y2 := Lib.hid y2
  have R1 := Lib.hid r1
  have S2 := Lib.hid s2
  clear hw2 y1 y2 r1 s2 p3 p4 q2 q3 f2 f3 o1 hS
  refine (ih lo _ _ _ bd _ (HB.out.below b2) h2).mono ?_
  rintro e w3 ⟨A3, c3, rfl, r3, b3, s3⟩
  obtain ⟨t0, t1, t2, t3, t4⟩ := boxcells5 (lay := b3) Y1.out
  obtain ⟨u0, u1, u2, u3, u4⟩ := boxcells5 (lay := b3) Y2.out
  have g0 := boxfree b3 Y1.out 0
  have g1 := boxfree b3 Y1.out 1
  have g2 := boxfree b3 Y1.out 2
  have g3 := boxfree b3 Y1.out 3
  have g4 := boxfree b3 Y1.out 4
  have g5 := boxfree b3 Y2.out 4
  have R3 := Lib.hid r3
  clear r3
  go_wp2_with fail
  have hS := S0.out
  have hS2 := S2.out
  refine bodyPost_ret (v := .agg #[.int .i64 k, .string word, .slice A1 m c1, .int .i64 count, .slice A3 nb c3]) (by simp [results, Tryd.results14, go_sem, t0, t1, t2, t3, t4]) rfl ⟨A1, c1, A3, c3, by rw [← HM.out], ?_, ?_, ?_, ?_, by rw [← HM.out]; exact hcap1⟩
  · rw [← HM.out]
    exact RdL.lower (lo := w.heap.size + 3) ((((((R1.out.below b3).set_ (by simp) _).set_ (by simp) _).set_ (by simp) _).set_ (by simp) _).set_ (by simp) _ |>.set_ (by simp) _) (by omega)
  · exact RdT.lower (lo := w2.heap.size) (by omega) ((((((R3.out.set_ (by simp; omega) _).set_ (by simp; omega) _).set_ (by simp; omega) _).set_ (by simp; omega) _).set_ (by simp; omega) _).set_ (by simp; omega) _)
  · exact (((((((b2.trans (b3.mono (by omega))).setCell (by first | omega | (simp; done) | (simp; omega)) _).setCell (by first | omega | (simp; done) | (simp; omega)) _).setCell (by first | omega | (simp; done) | (simp; omega)) _).setCell (by first | omega | (simp; done) | (simp; omega)) _).setCell (by first | omega | (simp; done) | (simp; omega)) _).setCell (by first | omega | (simp; done) | (simp; omega)) _)
  · simp [World.setCell]; omega
theorem toStmt_of {d : Nat} (ih : ToSaid d) (lo : Nat) (k : Int) (word : ByteArray) (args : List ByteArray) (count : Int) (bd : List (Tr d)) (Aa : Option Addr) (ca : Nat) (Ab : Option Addr) (nb cb : Nat) (w : World)
    (hra : RdL w lo 1 Aa args.length (strs args)) (hrb : RdT w lo d Ab nb bd) (h1 : args.length ≤ 1048576) (h2 : szT d bd ≤ 1048576) :
    Calls Tryd.prog 14 #[.agg #[.int .i64 k, .string word, .slice Aa args.length ca, .int .i64 count, .slice Ab nb cb]] w (RetS d nb k word args count bd w) :=
  (toStmt_c ih lo k word args count bd Aa ca Ab nb cb w hra hrb h1 h2).mono fun _ _ ⟨A, c, B, c', e, g1, g2, g3, g4, _⟩ => ⟨A, c, B, c', e, g1, g2, g3, g4⟩
/-- The cells of a copied statement. -/
def scells (s : SH) (Aa : Option Addr) (ca : Nat) (Ab : Option Addr) (nb cb : Nat) : List Value := [.int .i64 s.k, .string s.word, .slice Aa s.args.length ca, .int .i64 s.count, .slice Ab nb cb]
/-- The first t statements have been copied; vs are their cells. -/
def CopyUpto (w : World) (lo d : Nat) (l : List (Tr (d + 1))) (t : Nat) (vs : List (List Value)) : Prop :=
  vs.length = t ∧ (∀ v ∈ vs, v.length = 5) ∧ ∀ (i : Nat) (s : Tr (d + 1)), i < t → l[i]? = some s → ∃ Aa ca Ab nb cb, vs[i]? = some (scells (hdT s) Aa ca Ab nb cb) ∧ RdL w lo 1 Aa (hdT s).args.length (strs (hdT s).args) ∧ RdT w lo d Ab nb (bdT s) ∧ (hdT s).args.length ≤ ca
theorem flatten_len {vs : List (List Value)} (h : ∀ v ∈ vs, v.length = 5) : vs.flatten.length = vs.length * 5 := by
  induction vs with
  | nil => rfl
  | cons v vs ih =>
    rw [List.flatten_cons, List.length_append, ih (fun x hx => h x (by simp [hx])), h v (by simp), List.length_cons]
    omega
theorem flatten_at {vs : List (List Value)} (h : ∀ v ∈ vs, v.length = 5) {i j : Nat} {v : List Value} (hi : vs[i]? = some v) (hj : j < 5) : vs.flatten[i * 5 + j]? = v[j]? := by
  induction vs generalizing i with
  | nil => simp at hi
  | cons x vs ih =>
    have hx := h x (by simp)
    rw [List.flatten_cons]
    cases i with
    | zero =>
      simp at hi
      subst hi
      rw [List.getElem?_append_left (by omega)]
      simp
    | succ i =>
      rw [List.getElem?_append_right (by omega), ← ih (fun y hy => h y (by simp [hy])) (by simpa using hi)]
      congr 1
      omega
theorem CopyUpto.nil {w : World} {lo d : Nat} {l : List (Tr (d + 1))} : CopyUpto w lo d l 0 [] := ⟨rfl, by simp, fun _ _ h => absurd h (by omega)⟩
theorem CopyUpto.keep {w w' : World} {lo d : Nat} {l : List (Tr (d + 1))} {t : Nat} {vs : List (List Value)} (h : CopyUpto w lo d l t vs) (hk : ∀ b o, lo ≤ b → b < w.heap.size → w'.cell? ⟨b, o, none⟩ = w.cell? ⟨b, o, none⟩) (hs : w.heap.size ≤ w'.heap.size) : CopyUpto w' lo d l t vs :=
  ⟨h.1, h.2.1, fun i s hi hl => by
    obtain ⟨Aa, ca, Ab, nb, cb, h1, h2, h3, h4⟩ := h.2.2 i s hi hl
    exact ⟨Aa, ca, Ab, nb, cb, h1, h2.keep hk hs, h3.keep hk hs, h4⟩⟩
theorem CopyUpto.set_ {w : World} {lo d : Nat} {l : List (Tr (d + 1))} {t : Nat} {vs : List (List Value)} (h : CopyUpto w lo d l t vs) {p : Addr} (hp : p.block < lo) (u : Value) : CopyUpto (w.setCell p u) lo d l t vs :=
  h.keep (setCell_keep hp u) (by rw [size_setCell]; exact Nat.le_refl _)
theorem CopyUpto.snoc {w : World} {lo d : Nat} {l : List (Tr (d + 1))} {t : Nat} {vs : List (List Value)} (h : CopyUpto w lo d l t vs) {s : Tr (d + 1)} (hs : l[t]? = some s) {Aa Ab : Option Addr} {ca nb cb : Nat}
    (h1 : RdL w lo 1 Aa (hdT s).args.length (strs (hdT s).args)) (h2 : RdT w lo d Ab nb (bdT s)) (h3 : (hdT s).args.length ≤ ca) : CopyUpto w lo d l (t + 1) (vs ++ [scells (hdT s) Aa ca Ab nb cb]) := by
  refine ⟨by simp [h.1], fun v hv => ?_, fun i s' hi hl => ?_⟩
  · rcases List.mem_append.1 hv with hv | hv
    · exact h.2.1 v hv
    · simp at hv; subst hv; rfl
  · by_cases hit : i < t
    · obtain ⟨Aa', ca', Ab', nb', cb', e1, e2, e3⟩ := h.2.2 i s' hit hl
      exact ⟨Aa', ca', Ab', nb', cb', by rw [List.getElem?_append_left (by rw [h.1]; exact hit)]; exact e1, e2, e3⟩
    · obtain rfl : i = t := by omega
      rw [hs] at hl
      injection hl with hl
      subst hl
      exact ⟨Aa, ca, Ab, nb, cb, by rw [List.getElem?_append_right (by rw [h.1]; exact Nat.le_refl _), h.1]; simp, h1, h2, h3⟩
theorem CopyUpto.rdT {w : World} {lo lo' d g n E : Nat} {l : List (Tr (d + 1))} {vs : List (List Value)} (h : CopyUpto w lo d l n vs) (hl : l.length = n) (hown : w.ownsRow g E 5 (.slice (some ⟨g, 0, none⟩) n n) n vs.flatten) (h1 : lo' ≤ lo) (h2 : lo' ≤ g) :
    RdT w lo' (d + 1) (some ⟨g, 0, none⟩) n l := by
  refine ⟨hl, fun h0 => ⟨g, 0, rfl, h2, (hown.lt g rfl).2, fun i s hi => ?_⟩⟩
  have hin : i < n := by have := (List.getElem?_eq_some_iff.1 hi).1; omega
  obtain ⟨Aa, ca, Ab, nb, cb, e1, e2, e3, e4⟩ := h.2.2 i s hin hi
  have hc : ∀ j, j < 5 → w.cell? ⟨g, i * 5 + j, none⟩ = (scells (hdT s) Aa ca Ab nb cb)[j]? := fun j hj => (hown.cellAt _ (by omega)).trans (flatten_at h.2.1 e1 hj)
  refine ⟨Aa, ca, Ab, nb, cb, ⟨?_, ?_, ?_, ?_, ?_⟩, e2.lower h1, e3.lower h1, e4⟩
  · rw [Nat.zero_add]; exact hc 0 (by decide)
  · rw [Nat.zero_add]; exact hc 1 (by decide)
  · rw [Nat.zero_add]; exact hc 2 (by decide)
  · rw [Nat.zero_add]; exact hc 3 (by decide)
  · rw [Nat.zero_add]; exact hc 4 (by decide)
theorem info_Stmt : (Tryd.prog.info? 30).map (fun i => (i.zero, i.size, i.bytes)) = some (some (.agg #[.int .i64 0, .string ⟨#[]⟩, .slice none 0 0, .int .i64 0, .slice none 0 0]), 5, 80) := by kernel_rfl
theorem szT_mem {d : Nat} {l : List (Tr (d + 1))} {t : Nat} {s : Tr (d + 1)} (h : l[t]? = some s) : szE s ≤ sumE l := by
  have h1 := sumE_take l t s h
  have h2 := sumE_take_le l (t + 1)
  omega
set_option maxRecDepth 100000 in
set_option maxHeartbeats 4000000 in
theorem toStmtS_any : ∀ (d : Nat), ToSaid d := by
  intro d
  induction d with
  | zero =>
    intro lo A n c l w h _
    obtain rfl := szT_zero_len h
    have hl := h.len
    have HL := Lib.hid hl
    clear hl
    obtain ⟨i0, hi, hz0, hz1, hz2⟩ := info_parts info_Stmt
    obtain ⟨w1, hrun, hown, hgr0⟩ := run_make_full (P := Tryd.prog) w w.heap.size 28 30 i0 _ 5 Tryd.underlying28 hi hz0 hz1 .i64 .i64 0 (by omega) (by decide) (Nat.le_refl _)
    have b1 : Below w.heap.size w w1 := (Below.refl _ _).grown hgr0 (Nat.le_refl _) (by simp)
    have hrun' : (Instr.makeSlice 28 (.int .i64 0) (.int .i64 0)).run Tryd.prog w = .ok (.slice (some ⟨w.heap.size, 0, none⟩) 0 0) w1 := hrun
    clear hown hgr0 hi hz0 hz1 hz2 hrun
    go_enter Tryd.func52, Tryd.ntmps52
    go_wp2
    refine wp_loop_rounds 1 ?_
    rw [rounds_succ]
    go_wp2
    go_ret
    exact ⟨_, _, rfl, ⟨HL.out, rfl⟩, b1, b1.size⟩
  | succ d ih =>
    intro lo A n c l w h hsz
    rw [szT_succ] at hsz
    have hln := h.len
    have hn : n ≤ 1048576 := by omega
    have HQ := Lib.hid hsz
    obtain ⟨i0, hi, hz0, hz1, hz2⟩ := info_parts info_Stmt
    obtain ⟨w1, hrun, hown, hgr0⟩ := run_make_full (P := Tryd.prog) w w.heap.size 28 30 i0 _ 5 Tryd.underlying28 hi hz0 hz1 .i64 .i64 n (by rw [hz2]; omega) (by simp only [maxLen]; omega) (Nat.le_refl _)
    have H := Lib.hid h
    have HL := Lib.hid hln
    clear h hln hi hz0 hz1 hz2 hsz
    have b1 : Below w.heap.size w w1 := (Below.refl _ _).grown hgr0 (Nat.le_refl _) (by simp)
    have s1 := hown.lt w.heap.size rfl
    obtain ⟨zs, hzs⟩ : ∃ zs, zs = (madeCells (Value.agg #[.int .i64 0, .string ⟨#[]⟩, .slice none 0 0, .int .i64 0, .slice none 0 0]).cells (n * 5)).toList := ⟨_, rfl⟩
    rw [← hzs] at hown
    have hzl := hown.1
    have HZ := Lib.hid hzl
    clear hzs hgr0 hzl
    go_enter Tryd.func52, Tryd.ntmps52
    go_wp2
    clear hrun
    go_loopw [4] (fun i wr => ∃ (t : Nat) (vs : List (List Value)), t ≤ n ∧ i = .int .i64 t ∧ CopyUpto wr (w.heap.size + 1) d l t vs ∧ wr.ownsRow w.heap.size 30 5 (.slice (some ⟨w.heap.size, 0, none⟩) n n) n (vs.flatten ++ zs.drop (t * 5)) ∧ Below w.heap.size w wr) (fun i _ => n - (intOf i).toNat)
    case atStart => exact ⟨0, [], Nat.zero_le _, rfl, CopyUpto.nil, by simpa using hown, b1⟩
    case round =>
      clear hown b1 s1
      obtain ⟨t, vs, ht, rfl, hcp, hown, hb⟩ := hrel
      have hgs := (hown.lt w.heap.size rfl).2
      by_cases hlt : t < n
      · obtain ⟨b, off, s, Aa, ca, Ab, nb, cb, rfl, hbl, hs, hcs, hra, hrb⟩ := (H.out.below hb).at_ hlt
        obtain ⟨q0, q1, q2, q3, q4⟩ := hcs
        have hme := szT_mem hs
        have hz1 : (hdT s).args.length ≤ 1048576 := by have := HQ.out; unfold szE at hme; omega
        have hz2 : szT d (bdT s) ≤ 1048576 := by have := HQ.out; unfold szE at hme; omega
        have HS := Lib.hid hs
        have HRa := Lib.hid hra
        have HRb := Lib.hid hrb
        have HCP := Lib.hid hcp
        clear hs hra hrb hcp hme
        go_wp2_with fail
        refine (toStmt_c ih lo _ _ _ _ (bdT s) _ _ _ _ _ _ HRa.out HRb.out hz1 hz2).mono ?_
        rintro e w2 ⟨A2, c2, A3, c3, rfl, r2, r3, hb2, hs2, hcap2⟩
        have HCAP := Lib.hid hcap2
        clear hcap2
        have hown2 := ownsRow_below hown hb2
        have hf := hown2.frozenAt
        have hz := hown2.cellAt
        have hll := hown2.1
        obtain ⟨y0, z0⟩ : ∃ y, w2.cell? ⟨w.heap.size, t * 5, none⟩ = some y := ⟨_, (hz _ (by omega)).trans (List.getElem?_eq_getElem (by omega))⟩
        obtain ⟨y1, z1⟩ : ∃ y, w2.cell? ⟨w.heap.size, t * 5 + 1, none⟩ = some y := ⟨_, (hz _ (by omega)).trans (List.getElem?_eq_getElem (by omega))⟩
        obtain ⟨y2, z2⟩ : ∃ y, w2.cell? ⟨w.heap.size, t * 5 + 2, none⟩ = some y := ⟨_, (hz _ (by omega)).trans (List.getElem?_eq_getElem (by omega))⟩
        obtain ⟨y3, z3⟩ : ∃ y, w2.cell? ⟨w.heap.size, t * 5 + 3, none⟩ = some y := ⟨_, (hz _ (by omega)).trans (List.getElem?_eq_getElem (by omega))⟩
        obtain ⟨y4, z4⟩ : ∃ y, w2.cell? ⟨w.heap.size, t * 5 + 4, none⟩ = some y := ⟨_, (hz _ (by omega)).trans (List.getElem?_eq_getElem (by omega))⟩
        have f0 := hf (t * 5)
        have f1 := hf (t * 5 + 1)
        have f2 := hf (t * 5 + 2)
        have f3 := hf (t * 5 + 3)
        have f4 := hf (t * 5 + 4)
        have R2 := Lib.hid r2
        have R3 := Lib.hid r3
        clear hf hz hll q0 q1 q2 q3 q4 r2 r3 hown
        go_wp2_with fail
        go_roundw
        case rel =>
          have hfl : vs.flatten.length = t * 5 := by rw [flatten_len HCP.out.2.1, HCP.out.1]
          have e0 := hown2.stored (t * 5) (.int .i64 (hdT s).k)
          have e1 := e0.1.stored (t * 5 + 1) (.string (hdT s).word)
          have e2 := e1.1.stored (t * 5 + 1 + 1) (.slice A2 (hdT s).args.length c2)
          have e3 := e2.1.stored (t * 5 + 1 + 1 + 1) (.int .i64 (hdT s).count)
          have e4 := e3.1.stored (t * 5 + 1 + 1 + 1 + 1) (.slice A3 nb c3)
          rw [fill_step hfl (by rw [HZ.out]; omega), fill_step (by simp [hfl]) (by rw [HZ.out]; omega), fill_step (by simp [hfl]) (by rw [HZ.out]; omega), fill_step (by simp [hfl]) (by rw [HZ.out]; omega), fill_step (by simp [hfl]) (by rw [HZ.out]; omega)] at e4
          rw [show t * 5 + 1 + 1 + 1 + 1 + 1 = (t + 1) * 5 from by omega] at e4
          have hlo : w.heap.size + 1 ≤ wr.heap.size := hgs
          have k1 := HCP.out.keep (fun b o _ hlt => hb2.cell hlt) hb2.size
          have k2 := k1.snoc (ca := c2) (cb := c3) HS.out (R2.out.lower hlo) (RdT.lower hlo R3.out) HCAP.out
          refine ⟨t + 1, vs ++ [scells (hdT s) A2 c2 A3 nb c3], by omega, by go_num, ?_, ?_, ?_⟩
          · exact ((((k2.set_ (by simp) _).set_ (by simp) _).set_ (by simp) _).set_ (by simp) _).set_ (by simp) _
          · rw [List.flatten_append]
            simpa [scells] using e4.1
          · exact (((((hb.trans (hb2.mono hb.size)).setCell (by simp) _).setCell (by simp) _).setCell (by simp) _).setCell (by simp) _).setCell (by simp) _
        case measure => simp [intOf]; omega
      · obtain rfl : t = n := by omega
        have HCP := Lib.hid hcp
        clear hcp
        go_wp2_with fail
        go_ret
        rw [List.drop_of_length_le (by rw [HZ.out]; exact Nat.le_refl _), List.append_nil] at hown
        exact ⟨_, _, rfl, HCP.out.rdT HL.out hown (by omega) (Nat.le_refl _), hb, hb.size⟩
end Go.Proofs.YtijocafindbebaaDoor
