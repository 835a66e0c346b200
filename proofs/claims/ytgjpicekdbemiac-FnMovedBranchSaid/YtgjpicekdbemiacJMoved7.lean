/- What the calls that this law reaches answer, part 7 of 9. -/
import Derived.Test.YtgjpicekdbemiacProg
import Derived.Test.YtgjpicekdbemiacJMoved3
import Derived.Test.YtgjpicekdbemiacJMoved2
import Derived.Test.YtgjpicekdbemiacJMoved6
namespace Go.Proofs.Ytgjpicekdbemiac
open Go.RowKit
set_option linter.unusedVariables false
def bcell (x : Fin 256) : List Value := [.int .u8 (x.val : Int)]
theorem bcell_len (x : Fin 256) : (bcell x).length = 1 := rfl
/-- Block p is a cursor over bytes that lie elsewhere. -/
def CurAt (w : World) (p : Nat) : Prop := ∃ (A : Option Addr) (n c : Nat) (bs : List (Fin 256)) (i : Nat) (h : Int),
  w.heap[p]? = some (.cells #[.slice A n c, .int .i64 i, .int .i64 h] 53 (0, 0)) ∧ bs.length = n ∧ Rd w 1 A n (bs.flatMap bcell) ∧ (0 < n → ∀ ad, A = some ad → ad.block < p) ∧ i ≤ n ∧ n ≤ 1048576
theorem CurAt.lt {w : World} {p : Nat} (h : CurAt w p) : p < w.heap.size := by
  obtain ⟨_, _, _, _, _, _, h, _⟩ := h
  exact lt_of_block h
theorem CurAt.kept {w w' : World} {p : Nat} (h : CurAt w p) (hb : ∀ k, k ≤ p → w'.heap[k]? = w.heap[k]?) (hs : w.heap.size ≤ w'.heap.size) : CurAt w' p := by
  obtain ⟨A, n, c, bs, i, h, h1, h2, h3, h4, h5⟩ := h
  refine ⟨A, n, c, bs, i, h, (hb p (Nat.le_refl _)).trans h1, h2, ⟨h3.1, fun h0 => ?_⟩, h4, h5⟩
  obtain ⟨b, off, e, hl, hc⟩ := h3.2 h0
  refine ⟨b, off, e, Nat.lt_of_lt_of_le hl hs, fun j u hu => ?_⟩
  rw [← hc j u hu]
  have hk := hb b (Nat.le_of_lt (h4 h0 _ e))
  simp [World.cell?, hk]
theorem CurAt.below {w w' : World} {p : Nat} (h : CurAt w p) (hb : Below w.heap.size w w') : CurAt w' p := h.kept (fun k hk => hb.block k (Nat.lt_of_le_of_lt hk h.lt)) hb.size
theorem CurAt.grown {w w' : World} {p : Nat} {row : Option Nat} (h : CurAt w p) (hg : w.grownBy w' row) (hr : ∀ k, row = some k → p < k) : CurAt w' p :=
  h.kept (fun k hk => hg.block k (Nat.lt_of_le_of_lt hk h.lt) (by
    intro e
    have h1 := hr _ e.symm
    omega)) hg.size
def DI (w : World) (p : Nat) (lo hi : Int) (e : Ending) (w' : World) : Prop := ∃ x : Int, lo ≤ x ∧ x ≤ hi ∧ e = .returned (.int .i64 x) ∧ CurAt w' p ∧ w.grownBy w' (some p)
def DB (w : World) (p : Nat) (e : Ending) (w' : World) : Prop := ∃ x : Bool, e = .returned (.bool x) ∧ CurAt w' p ∧ w.grownBy w' (some p)
def DL (L : List Int) (w : World) (p : Nat) (e : Ending) (w' : World) : Prop := ∃ x : Int, x ∈ L ∧ e = .returned (.int .i64 x) ∧ CurAt w' p ∧ w.grownBy w' (some p)
theorem and255 (x : Int) : 0 ≤ bits .and .i64 x 255 ∧ bits .and .i64 x 255 ≤ 255 := by
  have h : (BitVec.ofInt 64 x &&& BitVec.ofInt 64 255).toNat ≤ 255 := by
    rw [BitVec.toNat_and]
    exact Nat.le_trans Nat.and_le_right (by decide)
  have e : bits .and .i64 x 255 = IntKind.i64.wrap ((BitVec.ofInt 64 x &&& BitVec.ofInt 64 255).toNat : Int) := rfl
  rw [e, IntWalk.i64_in _ (by omega)]
  omega
theorem only_drewN {a w : World} {row : Option Nat} (h : a.grownBy w row) (n : Nat) : a.grownBy (w.drewN n) row := ⟨h.os, h.tape, h.output, h.size, h.block⟩
theorem only_setCell {a w : World} {g : Nat} (h : a.grownBy w (some g)) {p : Addr} (hp : p.block = g) (u : Value) : a.grownBy (w.setCell p u) (some g) :=
  ⟨h.os, h.tape, h.output, by simpa [World.setCell] using h.size, fun i hi hne => (Below.heap_setCell w p u i (by
    rintro rfl
    exact hne (by rw [hp]))).trans (h.block i hi hne)⟩
theorem only_of_below {a w : World} (h : Below a.heap.size a w) (row : Option Nat) : a.grownBy w row := ⟨h.os, h.tape, h.output, h.size, fun i hi _ => h.block i hi⟩
/-- The cursor behind the stores of one draw. -/
theorem cur_stored {w w' : World} {p : Nat} {A : Option Addr} {n c : Nat} {bs : List (Fin 256)} {i' : Nat} {h' : Int} (hg : w.grownBy w' (some p)) (hp : p < w.heap.size)
    (h1 : w'.heap[p]? = some (.cells #[.slice A n c, .int .i64 i', .int .i64 h'] 53 (0, 0))) (h2 : bs.length = n) (h3 : Rd w 1 A n (bs.flatMap bcell)) (h4 : 0 < n → ∀ ad, A = some ad → ad.block < p) (h5 : i' ≤ n) (h6 : n ≤ 1048576) : CurAt w' p := by
  refine ⟨A, n, c, bs, i', h', h1, h2, ⟨h3.1, fun h0 => ?_⟩, h4, h5, h6⟩
  obtain ⟨b, off, e, hl, hc⟩ := h3.2 h0
  refine ⟨b, off, e, Nat.lt_of_lt_of_le hl hg.size, fun j u hu => ?_⟩
  have hne := h4 h0 _ e
  rw [← hc j u hu]
  have hk := hg.block b hl (by
    intro e1
    injection e1 with e1
    simp only at hne
    omega)
  simp [World.cell?, hk]
set_option maxRecDepth 100000 in
set_option maxHeartbeats 2000000 in
theorem l1Byte_any (w : World) (p : Nat) (hcur : CurAt w p) : Calls Try.prog 33 #[.pointer (some ⟨p, 0, none⟩)] w (DI w p 0 255) := by
  have hp := hcur.lt
  obtain ⟨A, n, c, bs, i, h, h1, h2, h3, h4, h5, h6⟩ := hcur
  have p0 := cell_at (j := 0) h1 rfl
  have p1 := cell_at (j := 1) h1 rfl
  have p2 := cell_at (j := 2) h1 rfl
  have f2 : w.frozen? ⟨p, 2, none⟩ = false := by simp [World.frozen?, h1]
  have H1 := Lib.hid h1
  have H2 := Lib.hid h2
  have H3 := Lib.hid h3
  have H4 := Lib.hid h4
  clear h1 h2 h3 h4
  go_enter Try.func33, Try.ntmps33
  go_wp2
  obtain ⟨w1, hw1⟩ : ∃ w1, w1 = w.setCell ⟨p, 2, none⟩ (.int .i64 (wrap64 (wrap64 (h * 6364136223846793005) + 1442695040888963407))) := ⟨_, rfl⟩
  rw [← hw1]
  obtain ⟨h', hh'⟩ : ∃ h', h' = wrap64 (wrap64 (h * 6364136223846793005) + 1442695040888963407) := ⟨_, rfl⟩
  rw [← hh'] at hw1 ⊢
  have g1 : w.grownBy w1 (some p) := by rw [hw1]; exact only_setCell (World.grownBy.refl w _) rfl _
  have x1 : w1.heap[p]? = some (.cells #[.slice A n c, .int .i64 i, .int .i64 h'] 53 (0, 0)) := by rw [hw1, heap_setCell_same _ _ _ _ _ _ H1.out]; rfl
  clear hw1 hh' p0 p1 p2 f2
  have p0 := cell_at (j := 0) x1 rfl
  have p1 := cell_at (j := 1) x1 rfl
  have p2 := cell_at (j := 2) x1 rfl
  have f1 : w1.frozen? ⟨p, 1, none⟩ = false := by simp [World.frozen?, x1]
  have X1 := Lib.hid x1
  clear x1
  by_cases hin : i < n
  · obtain ⟨x, hx⟩ : ∃ x, bs[i]? = some x := ⟨_, List.getElem?_eq_getElem (by rw [H2.out]; exact hin)⟩
    obtain ⟨b, off, rfl, hbl, hc⟩ := H3.out.2 (by omega)
    have hbp : b < p := H4.out (by omega) _ rfl
    have q0 : w1.cell? ⟨b, off + i, none⟩ = some (.int .u8 (x.val : Int)) := by
      have h := hc (i * 1 + 0) _ (flat_at bcell_len bs i x 0 hx (by decide))
      have hk := g1.block b hbl (by
        intro e
        injection e with e
        omega)
      simpa [World.cell?, hk] using h
    have hx2 := x.isLt
    clear hc hx
    go_quiet (fail)
    go_wp2_with fail
    go_quiet (fail)
    go_wp2_with fail
    go_quiet (fail)
    go_wp2_with fail
    go_ret
    have g2 : ∀ k, w.grownBy ((w1.drewN k).setCell ⟨p, 1, none⟩ (.int .i64 ((i : Int) + 1))) (some p) := fun k => only_setCell (only_drewN g1 k) rfl _
    refine ⟨_, (and255 _).1, (and255 _).2, rfl, cur_stored (i' := i + 1) (h' := h') (c := c) (g2 _) hp ?_ H2.out H3.out H4.out (by omega) h6, g2 _⟩
    rw [heap_setCell_same _ _ _ _ _ _ (show (w1.drewN _).heap[p]? = some (.cells #[.slice (some ⟨b, off, none⟩) n c, .int .i64 i, .int .i64 h'] 53 (0, 0)) from X1.out)]
    rfl
  · go_quiet (fail)
    go_wp2_with fail
    go_quiet (fail)
    go_wp2_with fail
    go_ret
    have g2 : ∀ k l, w.grownBy ((w1.drewN k).drewN l) (some p) := fun k l => only_drewN (only_drewN g1 k) l
    exact ⟨_, (and255 _).1, (and255 _).2, rfl, cur_stored (i' := i) (h' := h') (c := c) (g2 _ _) hp X1.out H2.out H3.out H4.out (by omega) h6, g2 _ _⟩
set_option maxRecDepth 100000 in
set_option maxHeartbeats 2000000 in
theorem l1Below_any (n hi : Int) (w : World) (p : Nat) (hcur : CurAt w p) (h0 : 0 ≤ hi) (hn : n ≤ hi + 1) (hm : n ≤ 9223372036854775807) : Calls Try.prog 24 #[.pointer (some ⟨p, 0, none⟩), .int .i64 n] w (DI w p 0 hi) := by
  by_cases h1 : n ≤ 0
  · go_enter Try.func24, Try.ntmps24
    go_wp2_with fail
    go_ret
    exact ⟨0, by omega, h0, rfl, hcur, World.grownBy.refl w _⟩
  by_cases h2 : n ≤ 256
  · go_enter Try.func24, Try.ntmps24
    go_wp2_with fail
    refine (l1Byte_any w p hcur).mono ?_
    rintro e w1 ⟨x, hx0, hx1, rfl, hc1, hg1⟩
    go_wp2_with fail
    go_ret
    exact ⟨x % n, Int.emod_nonneg _ (by omega), by have := Int.emod_lt_of_pos x (show 0 < n by omega); omega, rfl, hc1, hg1⟩
  · go_enter Try.func24, Try.ntmps24
    go_wp2_with fail
    refine (l1Byte_any w p hcur).mono ?_
    rintro e w1 ⟨x, hx0, hx1, rfl, hc1, hg1⟩
    go_wp2_with fail
    refine (l1Byte_any w1 p hc1).mono ?_
    rintro e w2 ⟨y, hy0, hy1, rfl, hc2, hg2⟩
    go_wp2_with fail
    refine (l1Byte_any w2 p hc2).mono ?_
    rintro e w3 ⟨z, hz0, hz1, rfl, hc3, hg3⟩
    go_wp2_with fail
    refine (l1Byte_any w3 p hc3).mono ?_
    rintro e w4 ⟨u, hu0, hu1, rfl, hc4, hg4⟩
    go_wp2_with fail
    go_ret
    exact ⟨(x * 16777216 + y * 65536 + z * 256 + u) % n, Int.emod_nonneg _ (by omega), by have := Int.emod_lt_of_pos (x * 16777216 + y * 65536 + z * 256 + u) (show 0 < n by omega); omega, rfl, hc4, ((hg1.trans hg2).trans hg3).trans hg4⟩
set_option maxRecDepth 100000 in
theorem l1Once_any (n : Int) (w : World) (p : Nat) (hcur : CurAt w p) (hm0 : -9223372036854775808 ≤ n) (hm : n ≤ 9223372036854775807) : Calls Try.prog 13 #[.pointer (some ⟨p, 0, none⟩), .int .i64 n] w (DB w p) := by
  go_enter Try.func13, Try.ntmps13
  go_wp2_with fail
  refine (l1Below_any n 9223372036854775807 w p hcur (by omega) (by omega) hm).mono ?_
  rintro e w1 ⟨x, hx0, hx1, rfl, hc1, hg1⟩
  go_wp2_with fail
  go_ret
  exact ⟨_, rfl, hc1, hg1⟩
theorem grown_rd {w w' : World} {p size n : Nat} {A : Option Addr} {xs : List Value} (h : Rd w size A n xs) (hg : w.grownBy w' (some p)) (hne : 0 < n → ∀ ad, A = some ad → ad.block ≠ p) : Rd w' size A n xs :=
  ⟨h.1, fun h0 => by
    obtain ⟨b, off, e, hl, hc⟩ := h.2 h0
    refine ⟨b, off, e, Nat.lt_of_lt_of_le hl hg.size, fun j u hu => ?_⟩
    rw [← hc j u hu]
    have hne' := hne h0 _ e
    have hk := hg.block b hl (by
      intro e1
      injection e1 with e1
      exact hne' e1)
    simp [World.cell?, hk]⟩
set_option maxRecDepth 100000 in
set_option maxHeartbeats 1000000 in
theorem l1PickInt_any (b k c : Nat) (L : List Int) (w : World) (p : Nat) (hcur : CurAt w p) (hL : L.length = k) (hk : 0 < k) (hk2 : k ≤ 1000) (hr : Rd w 1 (some ⟨b, 0, none⟩) k (L.map (Value.int .i64))) (hne : b ≠ p) : Calls Try.prog 26 #[.pointer (some ⟨p, 0, none⟩), .slice (some ⟨b, 0, none⟩) k c] w (DL L w p) := by
  have HL := Lib.hid hL
  have HR := Lib.hid hr
  clear hL hr
  go_enter Try.func26, Try.ntmps26
  go_wp2_with fail
  refine (l1Below_any k (k - 1) w p hcur (by omega) (by omega) (by omega)).mono ?_
  rintro e w1 ⟨x, hx0, hx1, rfl, hc1, hg1⟩
  obtain ⟨j, rfl⟩ : ∃ j : Nat, x = j := ⟨x.toNat, by omega⟩
  have hjk : j < k := by omega
  obtain ⟨y, hy⟩ : ∃ y, L[j]? = some y := ⟨_, List.getElem?_eq_getElem (by rw [HL.out]; exact hjk)⟩
  have hq : w1.cell? ⟨b, j, none⟩ = some (.int .i64 y) := by
    obtain ⟨b', off, e, hl, hc⟩ := (grown_rd HR.out hg1 (fun _ ad e => by cases e; exact hne)).2 hk
    injection e with e
    injection e with e1 e2
    subst e1 e2
    have := hc j (.int .i64 y) (by simp [hy])
    simpa using this
  have HY := Lib.hid (List.mem_of_getElem? hy)
  clear hy
  go_wp2_with fail
  go_ret
  exact ⟨y, HY.out, rfl, hc1, hg1⟩
def NewCur (w : World) (e : Ending) (w' : World) : Prop := ∃ p, e = .returned (.pointer (some ⟨p, 0, none⟩)) ∧ w.heap.size ≤ p ∧ CurAt w' p ∧ Below w.heap.size w w'
theorem new_cur {w : World} {A : Option Addr} {n c : Nat} {bs : List (Fin 256)} {h : Int} (hr : Rd w 1 A n (bs.flatMap bcell)) (hl : bs.length = n) (hn : n ≤ 1048576) :
    NewCur w (.returned (.pointer (some ⟨w.heap.size, 0, none⟩))) (w.alloc (.cells #[.slice A n c, .int .i64 0, .int .i64 h] 53)) := by
  have hb : Below w.heap.size w (w.alloc (.cells #[.slice A n c, .int .i64 0, .int .i64 h] 53)) := (by repeat (first | exact Below.refl _ _ | assumption | (refine Below.trans ?_ (Below.mono (by assumption) (by first | omega | (simp; done) | (simp; omega)))) | (with_reducible refine Below.drew ?_) | (with_reducible refine Below.alloc ?_ (by first | omega | (simp; done) | (simp; omega)) _) | (with_reducible refine Below.setCell ?_ (by first | omega | (simp; done) | (simp; omega)) _)))
  refine ⟨w.heap.size, rfl, Nat.le_refl _, ⟨A, n, c, bs, 0, h, heap_alloc_new w _, hl, hr.below hb, fun h0 ad e => ?_, Nat.zero_le _, hn⟩, hb⟩
  obtain ⟨b, off, e', hlt, _⟩ := hr.2 h0
  rw [e] at e'
  injection e' with e'
  rw [e']
  exact hlt
set_option maxRecDepth 100000 in
set_option maxHeartbeats 1000000 in
theorem l1New_any (A : Option Addr) (n c : Nat) (bs : List (Fin 256)) (w : World) (h : Rd w 1 A n (bs.flatMap bcell)) (hl : bs.length = n) (hn : n ≤ 1048576) : Calls Try.prog 10 #[.slice A n c] w (NewCur w) := by
  have H := Lib.hid h
  have HL := Lib.hid hl
  clear h hl
  go_enter Try.func10, Try.ntmps10
  go_wp2_with fail
  go_loop [3, 4] (fun s i => ∃ (t : Nat) (h : Int), t ≤ n ∧ i = .int .i64 t ∧ s = .int .i64 h) (fun _ i => n - (intOf i).toNat)
  case atStart => exact ⟨0, _, Nat.zero_le _, rfl, rfl⟩
  case round =>
    obtain ⟨t, h, ht, rfl, rfl⟩ := hrel
    by_cases hlt : t < n
    · by_cases h4 : t < 4000
      · obtain ⟨x, hx⟩ : ∃ x, bs[t]? = some x := ⟨_, List.getElem?_eq_getElem (by rw [HL.out]; exact hlt)⟩
        obtain ⟨b, off, rfl, hbl, hc⟩ := H.out.2 (by omega)
        have q0 : w.cell? ⟨b, off + t, none⟩ = some (.int .u8 (x.val : Int)) := by
          have := hc (t * 1 + 0) _ (flat_at bcell_len bs t x 0 hx (by decide))
          simpa using this
        have hx2 := x.isLt
        clear hc hx
        go_wp2_with fail
        go_round
        case rel => exact ⟨t + 1, _, by omega, by go_num, rfl⟩
        case measure => simp [intOf]; omega
      · go_wp2_with fail
        go_ret
        exact new_cur H.out HL.out hn
    · go_wp2_with fail
      go_ret
      exact new_cur H.out HL.out hn
end Go.Proofs.Ytgjpicekdbemiac
namespace Go.Proofs.Ytgjpicekdbemiac
open Go.RowKit
set_option linter.unusedVariables false
/-- From w on only the cursor p and what is new has turned, and p is a cursor still. -/
structure Fr (w : World) (p : Nat) (w' : World) : Prop where
  cur : CurAt w' p
  gr : w.grownBy w' (some p)
theorem Fr.start {w : World} {p : Nat} (h : CurAt w p) : Fr w p w := ⟨h, World.grownBy.refl w _⟩
theorem Fr.lt {w w1 : World} {p : Nat} (h : Fr w p w1) (hp : p < w.heap.size) : p < w1.heap.size := h.cur.lt
theorem Fr.below {w w1 w2 : World} {p : Nat} (h : Fr w p w1) (hb : Below w1.heap.size w1 w2) : Fr w p w2 :=
  ⟨h.cur.below hb, h.gr.andThen (only_of_below hb none) (by simp)⟩
theorem Fr.alloc {w w1 : World} {p : Nat} (h : Fr w p w1) (ob : Obj) : Fr w p (w1.alloc ob) := h.below ((Below.refl _ _).alloc (Nat.le_refl _) _)
theorem Fr.call {w w1 w2 : World} {p : Nat} (h : Fr w p w1) (hc : CurAt w2 p) (hg : w1.grownBy w2 (some p)) : Fr w p w2 := ⟨hc, h.gr.trans hg⟩
theorem Fr.own {w w1 w2 : World} {p : Nat} {row : Option Nat} (h : Fr w p w1) (hp : p < w.heap.size) (hg : w1.grownBy w2 row) (hr : ∀ k, row = some k → w.heap.size ≤ k) : Fr w p w2 :=
  ⟨h.cur.grown hg (fun k hk => by have := hr k hk; omega), h.gr.andThen hg (fun j hj => .inl (hr j hj))⟩
theorem Fr.set {w w1 : World} {p : Nat} (h : Fr w p w1) (hp : p < w.heap.size) {a : Addr} (ha : w.heap.size ≤ a.block) (v : Value) : Fr w p (w1.setCell a v) :=
  h.own (row := some a.block) hp (only_setCell (World.grownBy.refl w1 _) rfl v) (fun k hk => by injection hk with hk; omega)
theorem Fr.drewN {w w1 : World} {p : Nat} (h : Fr w p w1) (n : Nat) : Fr w p (w1.drewN n) := ⟨h.cur, only_drewN h.gr n⟩
/-- A block of the call's own stays as it is behind a draw. -/
theorem box_call {w1 w2 : World} {b p : Nat} {ob : Obj} (h : w1.heap[b]? = some ob) (hg : w1.grownBy w2 (some p)) (hne : b ≠ p) : w2.heap[b]? = some ob :=
  (hg.block b (lt_of_block h) (fun e => hne (by injection e))).trans h
def DG (w : World) (p : Nat) (e : Ending) (w' : World) : Prop := ∃ k a b c : Int, e = .returned (.agg #[.int .i64 k, .int .i64 a, .int .i64 b, .int .i64 c]) ∧ CurAt w' p ∧ w.grownBy w' (some p)
def DP (w : World) (p n : Nat) (e : Ending) (w' : World) : Prop := ∃ (v : Value) (L : List Int), e = .returned v ∧ L.length = n ∧ w'.ownsRow w.heap.size 3 1 v n (L.map (Value.int .i64)) ∧ CurAt w' p ∧ w.grownBy w' (some p)
def RetInts (w : World) (n : Nat) (e : Ending) (w' : World) : Prop := ∃ (v : Value) (L : List Int), e = .returned v ∧ L.length = n ∧ w'.ownsRow w.heap.size 3 1 v n (L.map (Value.int .i64)) ∧ Below w.heap.size w w' ∧ w.heap.size ≤ w'.heap.size
theorem rd_lit1 {w : World} {cs : Array Value} {e n size b : Nat} (h0 : b = w.heap.size) (hs : cs.size = n * size) : Rd (w.alloc (.cells cs e)) size (some ⟨b, 0, none⟩) n cs.toList := by
  subst h0
  refine ⟨by simpa using hs, fun _ => ⟨_, 0, rfl, by simp, fun j u hu => ?_⟩⟩
  have h := heap_alloc_new w (.cells cs e)
  have hc : cs[j]? = some u := by rw [← Array.getElem?_toList]; exact hu
  rw [Nat.zero_add]
  exact cell_at h hc
set_option maxRecDepth 100000 in
set_option maxHeartbeats 1000000 in
theorem IdentityPermutation_ints (n : Nat) (w : World) (h1 : 1 ≤ n) (h4 : n ≤ 4) : Calls Try.prog 25 #[.int .i64 n] w (RetInts w n) := by
  obtain ⟨i0, hi, hz0, hz1, hz2⟩ := info_parts info_int
  have hin : inB (n : Int) 1 4 = true := inB_iff.2 (by omega)
  go_enter Try.func25, Try.ntmps25
  go_wp2_with fail
  go_loopw [3, 4] (fun v i wr => ∃ (t : Nat) (L : List Int), t ≤ n ∧ i = .int .i64 t ∧ L.length = t ∧ wr.ownsRow w.heap.size 3 1 v t (L.map (Value.int .i64)) ∧ Below w.heap.size w wr) (fun _ i _ => n - (intOf i).toNat)
  case atStart => exact ⟨0, [], Nat.zero_le _, rfl, rfl, by simpa using own_empty w _ 1, (by repeat (first | exact Below.refl _ _ | assumption | (refine Below.trans ?_ (Below.mono (by assumption) (by first | omega | (simp; done) | (simp; omega)))) | (with_reducible refine Below.drew ?_) | (with_reducible refine Below.alloc ?_ (by first | omega | (simp; done) | (simp; omega)) _) | (with_reducible refine Below.setCell ?_ (by first | omega | (simp; done) | (simp; omega)) _)))⟩
  case round =>
    obtain ⟨t, L, ht, rfl, hL, hown, hb⟩ := hrel
    have HL := Lib.hid hL
    clear hL
    by_cases hlt : t < n
    · go_wp2_with (first | (go_at_call 29; refine (l1In_any _ _ _ _).mono ?_; rintro e w' ⟨rfl, rfl⟩) | (at_builtin; refine wpList_append_rd _ rfl _ _ 27 rfl w.heap.size 3 i0 _ 1 8 Try.underlying27 hi hz0 hz1 hz2 rfl (by decide) _ _ _ rfl (hown.alloc _) _ 1 1 _ rfl (rd_lit1 ?c0 rfl) ?c2 ?c3 ?c4 ?c5 ?_))
      case c0 => first | rfl | simp
      case c2 => repeat' (first | rfl | apply And.intro)
      case c3 => simp only [maxLen]; omega
      case c4 => omega
      case c5 => have := hb.size; simp; omega
      intro v3 w3 own3 gr3 _
      have b3 := (hb.alloc hb.size _).grown gr3 (by have := hb.size; simp; omega) (own_ge hown)
      clear hown gr3
      go_wp2_with fail
      go_roundw
      case rel => exact ⟨t + 1, L ++ [(t : Int)], by omega, by go_num, by simp [HL.out], by simpa using own3, b3⟩
      case measure => simp [intOf]; omega
    · obtain rfl : t = n := by omega
      go_wp2_with (go_at_call 29; refine (l1In_any _ _ _ _).mono ?_; rintro e w' ⟨rfl, rfl⟩)
      go_ret
      exact ⟨_, L, rfl, HL.out, hown, hb, hb.size⟩
set_option maxRecDepth 100000 in
set_option maxHeartbeats 2000000 in
theorem l8Perm_any (n : Nat) (w : World) (p : Nat) (hcur : CurAt w p) (h1 : 1 ≤ n) (h4 : n ≤ 4) : Calls Try.prog 14 #[.pointer (some ⟨p, 0, none⟩), .int .i64 n] w (DP w p n) := by
  have hp := hcur.lt
  go_enter Try.func14, Try.ntmps14
  go_wp2_with fail
  refine (IdentityPermutation_ints n w h1 h4).mono ?_
  rintro e w1 ⟨v, L, rfl, hL, hown, hb, hs⟩
  have hfr : Fr w p w1 := (Fr.start hcur).below hb
  rcases hown.2 with ⟨_, h0⟩ | ⟨g, cap, cur, rfl, hgb, hh, hcp, hm, _, _⟩
  · omega
  have HL := Lib.hid hL
  clear hL hh hb
  go_wp2_with fail
  go_loopw [6, 7, 8] (fun i _ _ wr => ∃ (t : Nat) (L : List Int), t + 1 ≤ n ∧ i = .int .i64 t ∧ L.length = n ∧ wr.ownsRow w.heap.size 3 1 (.slice (some ⟨g, 0, none⟩) n cap) n (L.map (Value.int .i64)) ∧ Fr w p wr) (fun i _ _ _ => (intOf i).toNat)
  case atStart => exact ⟨n - 1, L, by omega, by congr 1; omega, HL.out, hown, hfr⟩
  case round =>
    clear hown hfr
    obtain ⟨t, L, ht, rfl, hL, hown, hfr⟩ := hrel
    have HL2 := Lib.hid hL
    clear hL
    by_cases hlt : 0 < t
    · go_wp2_with fail
      refine (l1Below_any (t + 1) t wr p hfr.cur (by omega) (by omega) (by omega)).mono ?_
      rintro e w2 ⟨x, hx0, hx1, rfl, hc2, hg2⟩
      obtain ⟨k, rfl⟩ : ∃ k : Nat, x = k := ⟨x.toNat, by omega⟩
      have hfr2 := hfr.call hc2 hg2
      have hown2 : w2.ownsRow w.heap.size 3 1 (.slice (some ⟨g, 0, none⟩) n cap) n (L.map (Value.int .i64)) := hown.kept hg2 (.inr (by
        intro e
        simp [Value.ownBlock] at e
        omega))
      obtain ⟨y1, hy1⟩ : ∃ y, L[t]? = some y := ⟨_, List.getElem?_eq_getElem (by rw [HL2.out]; omega)⟩
      obtain ⟨y2, hy2⟩ : ∃ y, L[k]? = some y := ⟨_, List.getElem?_eq_getElem (by rw [HL2.out]; omega)⟩
      have z1 : w2.cell? ⟨g, t, none⟩ = some (.int .i64 y1) := (hown2.cellAt t (by omega)).trans (by simp [hy1])
      have z2 : w2.cell? ⟨g, k, none⟩ = some (.int .i64 y2) := (hown2.cellAt k (by omega)).trans (by simp [hy2])
      have f1 := hown2.frozenAt t
      have f2 := hown2.frozenAt k
      have HO := Lib.hid hown2
      have HFR := Lib.hid hfr2
      clear hown hown2 hfr hfr2 hy1 hy2 hc2 hg2
      by_cases hkt : k = t
      · subst hkt
        have s0 := (HO.out.stored k (.int .i64 y2))
        have s1 := (s0.1.stored k (.int .i64 y2))
        have HS := Lib.hid (And.intro s0 s1)
        clear s0 s1 z1
        go_wp2_with fail
        go_roundw
        case rel => exact ⟨k - 1, (L.set k y2).set k y2, by omega, by congr 1; omega, by simp [HL2.out], by simpa using HS.out.2.1, (HFR.out.own hp HS.out.1.2 (fun j hj => by injection hj with hj; omega)).own hp HS.out.2.2 (fun j hj => by injection hj with hj; omega)⟩
        case measure => simp [intOf]; omega
      · have s0 := (HO.out.stored t (.int .i64 y2))
        have s1 := (s0.1.stored k (.int .i64 y1))
        have HS := Lib.hid (And.intro s0 s1)
        clear s0 s1
        go_wp2_with fail
        go_roundw
        case rel => exact ⟨t - 1, (L.set t y2).set k y1, by omega, by congr 1; omega, by simp [HL2.out], by simpa using HS.out.2.1, (HFR.out.own hp HS.out.1.2 (fun j hj => by injection hj with hj; omega)).own hp HS.out.2.2 (fun j hj => by injection hj with hj; omega)⟩
        case measure => simp [intOf]; omega
    · obtain rfl : t = 0 := by omega
      go_wp2_with fail
      go_ret
      exact ⟨_, L, rfl, HL2.out, hown, hfr.cur, hfr.gr⟩

theorem free_at {w : World} {b j : Nat} {cs : Array Value} {t : TypeId} (h : w.heap[b]? = some (.cells cs t (0, 0))) : w.frozen? ⟨b, j, none⟩ = false := by simp [World.frozen?, h]

set_option maxRecDepth 100000 in
set_option maxHeartbeats 2000000 in
theorem l9On_any (kind : Int) (n : Nat) (w : World) (p : Nat) (hcur : CurAt w p) (h1 : 1 ≤ n) (h4 : n ≤ 4) (hk : ar kind ≤ n) : Calls Try.prog 40 #[.pointer (some ⟨p, 0, none⟩), .int .i64 kind, .int .i64 n] w (DG w p) := by
  have hp := hcur.lt
  go_enter Try.func40, Try.ntmps40
  go_wp2_with fail
  obtain ⟨w0, hw0⟩ : ∃ w0, w0 = w.alloc (.cells #[.int .i64 0, .int .i64 0, .int .i64 0, .int .i64 0] 72) := ⟨_, rfl⟩
  rw [← hw0]
  have x0 : w0.heap[w.heap.size]? = some (.cells #[.int .i64 0, .int .i64 0, .int .i64 0, .int .i64 0] 72 (0, 0)) := by rw [hw0]; exact boxed1_0 _ _
  have hfr0 : Fr w p w0 := by rw [hw0]; exact (Fr.start hcur).alloc _
  have s0 : w.heap.size < w0.heap.size := by rw [hw0]; simp
  clear hw0
  refine (l8Perm_any n w0 p hfr0.cur h1 h4).mono ?_
  rintro e w1 ⟨v, L, rfl, hL, hown, hc1, hg1⟩
  have x1 := box_call x0 hg1 (by omega)
  have hfr1 := hfr0.call hc1 hg1
  have s1 : w.heap.size < w1.heap.size := by have := hg1.size; omega
  rcases hown.2 with ⟨_, h0⟩ | ⟨g, cap, cur, rfl, hgb, hh, hcp, hm, _, _⟩
  · omega
  obtain ⟨y0, hy0⟩ : ∃ y, L[0]? = some y := ⟨_, List.getElem?_eq_getElem (by omega)⟩
  have z0 : w1.cell? ⟨g, 0, none⟩ = some (.int .i64 y0) := (hown.cellAt 0 (by omega)).trans (by simp [hy0])
  obtain ⟨q0, q1, q2, q3⟩ := boxcells4 (lay := Below.refl _ _) x1
  have f0 := free_at (j := 0) x1
  have f1 := free_at (j := 1) x1
  have f2 := free_at (j := 2) x1
  have f3 := free_at (j := 3) x1
  have hglt : g < w1.heap.size := (hown.lt g rfl).2
  have hne : g ≠ w.heap.size := by omega
  have HL := Lib.hid hL
  have HO := Lib.hid hown
  have har := ar_le kind
  clear hy0 hL hown hh x0 x1 hc1 hg1 hfr0
  by_cases a1 : 1 < ar kind
  · obtain ⟨y1, hy1⟩ : ∃ y, L[1]? = some y := ⟨_, List.getElem?_eq_getElem (by rw [HL.out]; omega)⟩
    have z1 : w1.cell? ⟨g, 1, none⟩ = some (.int .i64 y1) := (HO.out.cellAt 1 (by omega)).trans (by simp [hy1])
    clear hy1
    by_cases a2 : 2 < ar kind
    · obtain ⟨y2, hy2⟩ : ∃ y, L[2]? = some y := ⟨_, List.getElem?_eq_getElem (by rw [HL.out]; omega)⟩
      have z2 : w1.cell? ⟨g, 2, none⟩ = some (.int .i64 y2) := (HO.out.cellAt 2 (by omega)).trans (by simp [hy2])
      clear hy2
      go_wp2_with (go_at_call 39; refine (Arity_spec _ _).mono ?_; rintro e w' ⟨rfl, rfl⟩)
      exact bodyPost_ret (v := .agg #[.int .i64 kind, .int .i64 y0, .int .i64 y1, .int .i64 y2]) (by simp [results, Try.results40, go_sem, s1, q0, q1, q2, q3]) rfl ⟨_, _, _, _, rfl, (Fr.cur (w := w) (by repeat (first | assumption | (with_reducible refine Fr.alloc ?_ _) | (with_reducible refine Fr.set ?_ hp (by first | omega | (simp; done) | (simp; omega)) _)))), (Fr.gr (by repeat (first | assumption | (with_reducible refine Fr.alloc ?_ _) | (with_reducible refine Fr.set ?_ hp (by first | omega | (simp; done) | (simp; omega)) _))))⟩
    · go_wp2_with (go_at_call 39; refine (Arity_spec _ _).mono ?_; rintro e w' ⟨rfl, rfl⟩)
      exact bodyPost_ret (v := .agg #[.int .i64 kind, .int .i64 y0, .int .i64 y1, .int .i64 0]) (by simp [results, Try.results40, go_sem, s1, q0, q1, q2, q3]) rfl ⟨_, _, _, _, rfl, (Fr.cur (w := w) (by repeat (first | assumption | (with_reducible refine Fr.alloc ?_ _) | (with_reducible refine Fr.set ?_ hp (by first | omega | (simp; done) | (simp; omega)) _)))), (Fr.gr (by repeat (first | assumption | (with_reducible refine Fr.alloc ?_ _) | (with_reducible refine Fr.set ?_ hp (by first | omega | (simp; done) | (simp; omega)) _))))⟩
  · go_wp2_with (go_at_call 39; refine (Arity_spec _ _).mono ?_; rintro e w' ⟨rfl, rfl⟩)
    exact bodyPost_ret (v := .agg #[.int .i64 kind, .int .i64 y0, .int .i64 0, .int .i64 0]) (by simp [results, Try.results40, go_sem, s1, q0, q1, q2, q3]) rfl ⟨_, _, _, _, rfl, (Fr.cur (w := w) (by repeat (first | assumption | (with_reducible refine Fr.alloc ?_ _) | (with_reducible refine Fr.set ?_ hp (by first | omega | (simp; done) | (simp; omega)) _)))), (Fr.gr (by repeat (first | assumption | (with_reducible refine Fr.alloc ?_ _) | (with_reducible refine Fr.set ?_ hp (by first | omega | (simp; done) | (simp; omega)) _))))⟩

end Go.Proofs.Ytgjpicekdbemiac
namespace Go.Proofs.Ytgjpicekdbemiac
open Go.RowKit
set_option linter.unusedVariables false
theorem picked {w : World} {L : List Int} {b : Nat} (hb : b = w.heap.size) : Rd (w.alloc (.cells (L.map (Value.int .i64)).toArray 3)) 1 (some ⟨b, 0, none⟩) L.length (L.map (Value.int .i64)) := by
  have h := rd_lit1 (w := w) (cs := (L.map (Value.int .i64)).toArray) (e := 3) (n := L.length) (size := 1) hb (by simp)
  simpa using h
set_option maxRecDepth 100000 in
set_option maxHeartbeats 2000000 in
theorem l9Gate_1 (w : World) (p : Nat) (hcur : CurAt w p) : Calls Try.prog 35 #[.pointer (some ⟨p, 0, none⟩), .int .i64 1] w (DG w p) := by
  have hp := hcur.lt
  go_enter Try.func35, Try.ntmps35
  go_wp2_with fail
  obtain ⟨w0, hw0⟩ : ∃ w0, w0 = (w.alloc (.cells #[.int .i64 0, .int .i64 0, .int .i64 0, .int .i64 0] 72)).alloc (.cells #[.int .i64 0, .int .i64 8, .int .i64 11, .int .i64 12, .int .i64 12] 3) := ⟨_, rfl⟩
  rw [← hw0]
  have x0 : w0.heap[w.heap.size]? = some (.cells #[.int .i64 0, .int .i64 0, .int .i64 0, .int .i64 0] 72 (0, 0)) := by rw [hw0]; exact boxed2_0 _ _ _
  have hfr0 : Fr w p w0 := by rw [hw0]; exact ((Fr.start hcur).alloc _).alloc _
  have s0 : w.heap.size < w0.heap.size := by rw [hw0]; simp; omega
  clear hw0
  refine (l1Below_any 8 11 w0 p hfr0.cur (by omega) (by omega) (by omega)).mono ?_
  rintro e w1 ⟨x, hx0, hx1, rfl, hc1, hg1⟩
  have x1 := box_call x0 hg1 (by omega)
  have hfr1 := hfr0.call hc1 hg1
  have s1 : w.heap.size < w1.heap.size := by have := hg1.size; omega
  have X1 := Lib.hid x1
  clear x0 x1 hc1 hg1 hfr0
  go_wp2_with fail
  refine (l1Once_any 2 w1 p hfr1.cur (by omega) (by omega)).mono ?_
  rintro e w2 ⟨b, rfl, hc2, hg2⟩
  have x2 := box_call X1.out hg2 (by omega)
  have hfr2 := hfr1.call hc2 hg2
  have s2 : w.heap.size < w2.heap.size := by have := hg2.size; omega
  have X2 := Lib.hid x2
  clear X1 x2 hc2 hg2 hfr1
  cases b
  · by_cases hA : 1 < ar (1 + x)
    · go_wp2_with (go_at_call 39; refine (Arity_spec _ _).mono ?_; rintro e w' ⟨rfl, rfl⟩)
      refine (l9On_any (4) 1 w2 p hfr2.cur (by omega) (by omega) (show ar 4 ≤ 1 by decide)).mono ?_
      rintro e w3 ⟨k, a, b, c, rfl, hc, hg⟩
      have x3 := box_call X2.out hg (by omega)
      have hfr3 := hfr2.call hc hg
      have s3 : w.heap.size < w3.heap.size := by have := hg.size; omega
      obtain ⟨q0, q1, q2, q3⟩ := boxcells4 (lay := Below.refl _ _) x3
      have f0 := free_at (j := 0) x3
      have f1 := free_at (j := 1) x3
      have f2 := free_at (j := 2) x3
      have f3 := free_at (j := 3) x3
      clear X2 x3 hc hg hfr2
      go_wp2_with fail
      exact bodyPost_ret (v := .agg #[.int .i64 k, .int .i64 a, .int .i64 b, .int .i64 c]) (by simp [results, Try.results35, go_sem, q0, q1, q2, q3]) rfl ⟨_, _, _, _, rfl, (Fr.cur (w := w) (by repeat (first | assumption | (with_reducible refine Fr.alloc ?_ _) | (with_reducible refine Fr.set ?_ hp (by first | omega | (simp; done) | (simp; omega)) _)))), (Fr.gr (by repeat (first | assumption | (with_reducible refine Fr.alloc ?_ _) | (with_reducible refine Fr.set ?_ hp (by first | omega | (simp; done) | (simp; omega)) _))))⟩
    · go_wp2_with (go_at_call 39; refine (Arity_spec _ _).mono ?_; rintro e w' ⟨rfl, rfl⟩)
      refine (l9On_any (1 + x) 1 w2 p hfr2.cur (by omega) (by omega) (by omega)).mono ?_
      rintro e w3 ⟨k, a, b, c, rfl, hc, hg⟩
      have x3 := box_call X2.out hg (by omega)
      have hfr3 := hfr2.call hc hg
      have s3 : w.heap.size < w3.heap.size := by have := hg.size; omega
      obtain ⟨q0, q1, q2, q3⟩ := boxcells4 (lay := Below.refl _ _) x3
      have f0 := free_at (j := 0) x3
      have f1 := free_at (j := 1) x3
      have f2 := free_at (j := 2) x3
      have f3 := free_at (j := 3) x3
      clear X2 x3 hc hg hfr2
      go_wp2_with fail
      exact bodyPost_ret (v := .agg #[.int .i64 k, .int .i64 a, .int .i64 b, .int .i64 c]) (by simp [results, Try.results35, go_sem, q0, q1, q2, q3]) rfl ⟨_, _, _, _, rfl, (Fr.cur (w := w) (by repeat (first | assumption | (with_reducible refine Fr.alloc ?_ _) | (with_reducible refine Fr.set ?_ hp (by first | omega | (simp; done) | (simp; omega)) _)))), (Fr.gr (by repeat (first | assumption | (with_reducible refine Fr.alloc ?_ _) | (with_reducible refine Fr.set ?_ hp (by first | omega | (simp; done) | (simp; omega)) _))))⟩
  · go_wp2_with fail
    obtain ⟨w3, hw3⟩ : ∃ w3, w3 = w2.alloc (.cells #[.int .i64 4, .int .i64 7, .int .i64 5, .int .i64 8, .int .i64 9, .int .i64 9, .int .i64 9, .int .i64 9] 3) := ⟨_, rfl⟩
    rw [← hw3]
    have x3 : w3.heap[w.heap.size]? = some (.cells #[.int .i64 0, .int .i64 0, .int .i64 0, .int .i64 0] 72 (0, 0)) := by rw [hw3]; exact (Below.heap_alloc _ _ _ s2).trans X2.out
    have hfr3 : Fr w p w3 := by rw [hw3]; exact hfr2.alloc _
    have hpk := picked (w := w2) (L := [4, 7, 5, 8, 9, 9, 9, 9]) rfl
    have hr3 : Rd w3 1 (some ⟨w2.heap.size, 0, none⟩) 8 (([4, 7, 5, 8, 9, 9, 9, 9] : List Int).map (Value.int .i64)) := by rw [hw3]; exact hpk
    have s3 : w.heap.size < w3.heap.size := by rw [hw3]; simp; omega
    clear hw3 hpk X2
    refine (l1PickInt_any w2.heap.size 8 8 [4, 7, 5, 8, 9, 9, 9, 9] w3 p hfr3.cur rfl (by omega) (by omega) hr3 (by omega)).mono ?_
    rintro e w4 ⟨y, hy, rfl, hc4, hg4⟩
    have x4 := box_call x3 hg4 (by omega)
    have hfr4 := hfr3.call hc4 hg4
    have s4 : w.heap.size < w4.heap.size := by have := hg4.size; omega
    have X4 := Lib.hid x4
    clear x3 x4 hc4 hg4 hfr3 hr3 hy
    by_cases hA : 1 < ar (y)
    · go_wp2_with (go_at_call 39; refine (Arity_spec _ _).mono ?_; rintro e w' ⟨rfl, rfl⟩)
      refine (l9On_any (4) 1 w4 p hfr4.cur (by omega) (by omega) (show ar 4 ≤ 1 by decide)).mono ?_
      rintro e w5 ⟨k, a, b, c, rfl, hc, hg⟩
      have x5 := box_call X4.out hg (by omega)
      have hfr5 := hfr4.call hc hg
      have s5 : w.heap.size < w5.heap.size := by have := hg.size; omega
      obtain ⟨q0, q1, q2, q3⟩ := boxcells4 (lay := Below.refl _ _) x5
      have f0 := free_at (j := 0) x5
      have f1 := free_at (j := 1) x5
      have f2 := free_at (j := 2) x5
      have f3 := free_at (j := 3) x5
      clear X4 x5 hc hg hfr4
      go_wp2_with fail
      exact bodyPost_ret (v := .agg #[.int .i64 k, .int .i64 a, .int .i64 b, .int .i64 c]) (by simp [results, Try.results35, go_sem, q0, q1, q2, q3]) rfl ⟨_, _, _, _, rfl, (Fr.cur (w := w) (by repeat (first | assumption | (with_reducible refine Fr.alloc ?_ _) | (with_reducible refine Fr.set ?_ hp (by first | omega | (simp; done) | (simp; omega)) _)))), (Fr.gr (by repeat (first | assumption | (with_reducible refine Fr.alloc ?_ _) | (with_reducible refine Fr.set ?_ hp (by first | omega | (simp; done) | (simp; omega)) _))))⟩
    · go_wp2_with (go_at_call 39; refine (Arity_spec _ _).mono ?_; rintro e w' ⟨rfl, rfl⟩)
      refine (l9On_any (y) 1 w4 p hfr4.cur (by omega) (by omega) (by omega)).mono ?_
      rintro e w5 ⟨k, a, b, c, rfl, hc, hg⟩
      have x5 := box_call X4.out hg (by omega)
      have hfr5 := hfr4.call hc hg
      have s5 : w.heap.size < w5.heap.size := by have := hg.size; omega
      obtain ⟨q0, q1, q2, q3⟩ := boxcells4 (lay := Below.refl _ _) x5
      have f0 := free_at (j := 0) x5
      have f1 := free_at (j := 1) x5
      have f2 := free_at (j := 2) x5
      have f3 := free_at (j := 3) x5
      clear X4 x5 hc hg hfr4
      go_wp2_with fail
      exact bodyPost_ret (v := .agg #[.int .i64 k, .int .i64 a, .int .i64 b, .int .i64 c]) (by simp [results, Try.results35, go_sem, q0, q1, q2, q3]) rfl ⟨_, _, _, _, rfl, (Fr.cur (w := w) (by repeat (first | assumption | (with_reducible refine Fr.alloc ?_ _) | (with_reducible refine Fr.set ?_ hp (by first | omega | (simp; done) | (simp; omega)) _)))), (Fr.gr (by repeat (first | assumption | (with_reducible refine Fr.alloc ?_ _) | (with_reducible refine Fr.set ?_ hp (by first | omega | (simp; done) | (simp; omega)) _))))⟩

set_option maxRecDepth 100000 in
set_option maxHeartbeats 2000000 in
theorem l9Gate_2 (w : World) (p : Nat) (hcur : CurAt w p) : Calls Try.prog 35 #[.pointer (some ⟨p, 0, none⟩), .int .i64 2] w (DG w p) := by
  have hp := hcur.lt
  go_enter Try.func35, Try.ntmps35
  go_wp2_with fail
  obtain ⟨w0, hw0⟩ : ∃ w0, w0 = (w.alloc (.cells #[.int .i64 0, .int .i64 0, .int .i64 0, .int .i64 0] 72)).alloc (.cells #[.int .i64 0, .int .i64 8, .int .i64 11, .int .i64 12, .int .i64 12] 3) := ⟨_, rfl⟩
  rw [← hw0]
  have x0 : w0.heap[w.heap.size]? = some (.cells #[.int .i64 0, .int .i64 0, .int .i64 0, .int .i64 0] 72 (0, 0)) := by rw [hw0]; exact boxed2_0 _ _ _
  have hfr0 : Fr w p w0 := by rw [hw0]; exact ((Fr.start hcur).alloc _).alloc _
  have s0 : w.heap.size < w0.heap.size := by rw [hw0]; simp; omega
  clear hw0
  refine (l1Below_any 11 11 w0 p hfr0.cur (by omega) (by omega) (by omega)).mono ?_
  rintro e w1 ⟨x, hx0, hx1, rfl, hc1, hg1⟩
  have x1 := box_call x0 hg1 (by omega)
  have hfr1 := hfr0.call hc1 hg1
  have s1 : w.heap.size < w1.heap.size := by have := hg1.size; omega
  have X1 := Lib.hid x1
  clear x0 x1 hc1 hg1 hfr0
  go_wp2_with fail
  refine (l1Once_any 2 w1 p hfr1.cur (by omega) (by omega)).mono ?_
  rintro e w2 ⟨b, rfl, hc2, hg2⟩
  have x2 := box_call X1.out hg2 (by omega)
  have hfr2 := hfr1.call hc2 hg2
  have s2 : w.heap.size < w2.heap.size := by have := hg2.size; omega
  have X2 := Lib.hid x2
  clear X1 x2 hc2 hg2 hfr1
  cases b
  · by_cases hA : 2 < ar (1 + x)
    · go_wp2_with (go_at_call 39; refine (Arity_spec _ _).mono ?_; rintro e w' ⟨rfl, rfl⟩)
      refine (l9On_any (4) 2 w2 p hfr2.cur (by omega) (by omega) (show ar 4 ≤ 2 by decide)).mono ?_
      rintro e w3 ⟨k, a, b, c, rfl, hc, hg⟩
      have x3 := box_call X2.out hg (by omega)
      have hfr3 := hfr2.call hc hg
      have s3 : w.heap.size < w3.heap.size := by have := hg.size; omega
      obtain ⟨q0, q1, q2, q3⟩ := boxcells4 (lay := Below.refl _ _) x3
      have f0 := free_at (j := 0) x3
      have f1 := free_at (j := 1) x3
      have f2 := free_at (j := 2) x3
      have f3 := free_at (j := 3) x3
      clear X2 x3 hc hg hfr2
      go_wp2_with fail
      exact bodyPost_ret (v := .agg #[.int .i64 k, .int .i64 a, .int .i64 b, .int .i64 c]) (by simp [results, Try.results35, go_sem, q0, q1, q2, q3]) rfl ⟨_, _, _, _, rfl, (Fr.cur (w := w) (by repeat (first | assumption | (with_reducible refine Fr.alloc ?_ _) | (with_reducible refine Fr.set ?_ hp (by first | omega | (simp; done) | (simp; omega)) _)))), (Fr.gr (by repeat (first | assumption | (with_reducible refine Fr.alloc ?_ _) | (with_reducible refine Fr.set ?_ hp (by first | omega | (simp; done) | (simp; omega)) _))))⟩
    · go_wp2_with (go_at_call 39; refine (Arity_spec _ _).mono ?_; rintro e w' ⟨rfl, rfl⟩)
      refine (l9On_any (1 + x) 2 w2 p hfr2.cur (by omega) (by omega) (by omega)).mono ?_
      rintro e w3 ⟨k, a, b, c, rfl, hc, hg⟩
      have x3 := box_call X2.out hg (by omega)
      have hfr3 := hfr2.call hc hg
      have s3 : w.heap.size < w3.heap.size := by have := hg.size; omega
      obtain ⟨q0, q1, q2, q3⟩ := boxcells4 (lay := Below.refl _ _) x3
      have f0 := free_at (j := 0) x3
      have f1 := free_at (j := 1) x3
      have f2 := free_at (j := 2) x3
      have f3 := free_at (j := 3) x3
      clear X2 x3 hc hg hfr2
      go_wp2_with fail
      exact bodyPost_ret (v := .agg #[.int .i64 k, .int .i64 a, .int .i64 b, .int .i64 c]) (by simp [results, Try.results35, go_sem, q0, q1, q2, q3]) rfl ⟨_, _, _, _, rfl, (Fr.cur (w := w) (by repeat (first | assumption | (with_reducible refine Fr.alloc ?_ _) | (with_reducible refine Fr.set ?_ hp (by first | omega | (simp; done) | (simp; omega)) _)))), (Fr.gr (by repeat (first | assumption | (with_reducible refine Fr.alloc ?_ _) | (with_reducible refine Fr.set ?_ hp (by first | omega | (simp; done) | (simp; omega)) _))))⟩
  · go_wp2_with fail
    obtain ⟨w3, hw3⟩ : ∃ w3, w3 = w2.alloc (.cells #[.int .i64 4, .int .i64 7, .int .i64 5, .int .i64 8, .int .i64 9, .int .i64 9, .int .i64 9, .int .i64 9] 3) := ⟨_, rfl⟩
    rw [← hw3]
    have x3 : w3.heap[w.heap.size]? = some (.cells #[.int .i64 0, .int .i64 0, .int .i64 0, .int .i64 0] 72 (0, 0)) := by rw [hw3]; exact (Below.heap_alloc _ _ _ s2).trans X2.out
    have hfr3 : Fr w p w3 := by rw [hw3]; exact hfr2.alloc _
    have hpk := picked (w := w2) (L := [4, 7, 5, 8, 9, 9, 9, 9]) rfl
    have hr3 : Rd w3 1 (some ⟨w2.heap.size, 0, none⟩) 8 (([4, 7, 5, 8, 9, 9, 9, 9] : List Int).map (Value.int .i64)) := by rw [hw3]; exact hpk
    have s3 : w.heap.size < w3.heap.size := by rw [hw3]; simp; omega
    clear hw3 hpk X2
    refine (l1PickInt_any w2.heap.size 8 8 [4, 7, 5, 8, 9, 9, 9, 9] w3 p hfr3.cur rfl (by omega) (by omega) hr3 (by omega)).mono ?_
    rintro e w4 ⟨y, hy, rfl, hc4, hg4⟩
    have x4 := box_call x3 hg4 (by omega)
    have hfr4 := hfr3.call hc4 hg4
    have s4 : w.heap.size < w4.heap.size := by have := hg4.size; omega
    have X4 := Lib.hid x4
    clear x3 x4 hc4 hg4 hfr3 hr3 hy
    by_cases hA : 2 < ar (y)
    · go_wp2_with (go_at_call 39; refine (Arity_spec _ _).mono ?_; rintro e w' ⟨rfl, rfl⟩)
      refine (l9On_any (4) 2 w4 p hfr4.cur (by omega) (by omega) (show ar 4 ≤ 2 by decide)).mono ?_
      rintro e w5 ⟨k, a, b, c, rfl, hc, hg⟩
      have x5 := box_call X4.out hg (by omega)
      have hfr5 := hfr4.call hc hg
      have s5 : w.heap.size < w5.heap.size := by have := hg.size; omega
      obtain ⟨q0, q1, q2, q3⟩ := boxcells4 (lay := Below.refl _ _) x5
      have f0 := free_at (j := 0) x5
      have f1 := free_at (j := 1) x5
      have f2 := free_at (j := 2) x5
      have f3 := free_at (j := 3) x5
      clear X4 x5 hc hg hfr4
      go_wp2_with fail
      exact bodyPost_ret (v := .agg #[.int .i64 k, .int .i64 a, .int .i64 b, .int .i64 c]) (by simp [results, Try.results35, go_sem, q0, q1, q2, q3]) rfl ⟨_, _, _, _, rfl, (Fr.cur (w := w) (by repeat (first | assumption | (with_reducible refine Fr.alloc ?_ _) | (with_reducible refine Fr.set ?_ hp (by first | omega | (simp; done) | (simp; omega)) _)))), (Fr.gr (by repeat (first | assumption | (with_reducible refine Fr.alloc ?_ _) | (with_reducible refine Fr.set ?_ hp (by first | omega | (simp; done) | (simp; omega)) _))))⟩
    · go_wp2_with (go_at_call 39; refine (Arity_spec _ _).mono ?_; rintro e w' ⟨rfl, rfl⟩)
      refine (l9On_any (y) 2 w4 p hfr4.cur (by omega) (by omega) (by omega)).mono ?_
      rintro e w5 ⟨k, a, b, c, rfl, hc, hg⟩
      have x5 := box_call X4.out hg (by omega)
      have hfr5 := hfr4.call hc hg
      have s5 : w.heap.size < w5.heap.size := by have := hg.size; omega
      obtain ⟨q0, q1, q2, q3⟩ := boxcells4 (lay := Below.refl _ _) x5
      have f0 := free_at (j := 0) x5
      have f1 := free_at (j := 1) x5
      have f2 := free_at (j := 2) x5
      have f3 := free_at (j := 3) x5
      clear X4 x5 hc hg hfr4
      go_wp2_with fail
      exact bodyPost_ret (v := .agg #[.int .i64 k, .int .i64 a, .int .i64 b, .int .i64 c]) (by simp [results, Try.results35, go_sem, q0, q1, q2, q3]) rfl ⟨_, _, _, _, rfl, (Fr.cur (w := w) (by repeat (first | assumption | (with_reducible refine Fr.alloc ?_ _) | (with_reducible refine Fr.set ?_ hp (by first | omega | (simp; done) | (simp; omega)) _)))), (Fr.gr (by repeat (first | assumption | (with_reducible refine Fr.alloc ?_ _) | (with_reducible refine Fr.set ?_ hp (by first | omega | (simp; done) | (simp; omega)) _))))⟩

set_option maxRecDepth 100000 in
set_option maxHeartbeats 2000000 in
theorem l9Gate_3 (w : World) (p : Nat) (hcur : CurAt w p) : Calls Try.prog 35 #[.pointer (some ⟨p, 0, none⟩), .int .i64 3] w (DG w p) := by
  have hp := hcur.lt
  go_enter Try.func35, Try.ntmps35
  go_wp2_with fail
  obtain ⟨w0, hw0⟩ : ∃ w0, w0 = (w.alloc (.cells #[.int .i64 0, .int .i64 0, .int .i64 0, .int .i64 0] 72)).alloc (.cells #[.int .i64 0, .int .i64 8, .int .i64 11, .int .i64 12, .int .i64 12] 3) := ⟨_, rfl⟩
  rw [← hw0]
  have x0 : w0.heap[w.heap.size]? = some (.cells #[.int .i64 0, .int .i64 0, .int .i64 0, .int .i64 0] 72 (0, 0)) := by rw [hw0]; exact boxed2_0 _ _ _
  have hfr0 : Fr w p w0 := by rw [hw0]; exact ((Fr.start hcur).alloc _).alloc _
  have s0 : w.heap.size < w0.heap.size := by rw [hw0]; simp; omega
  clear hw0
  refine (l1Below_any 12 11 w0 p hfr0.cur (by omega) (by omega) (by omega)).mono ?_
  rintro e w1 ⟨x, hx0, hx1, rfl, hc1, hg1⟩
  have x1 := box_call x0 hg1 (by omega)
  have hfr1 := hfr0.call hc1 hg1
  have s1 : w.heap.size < w1.heap.size := by have := hg1.size; omega
  have X1 := Lib.hid x1
  clear x0 x1 hc1 hg1 hfr0
  go_wp2_with fail
  refine (l1Once_any 2 w1 p hfr1.cur (by omega) (by omega)).mono ?_
  rintro e w2 ⟨b, rfl, hc2, hg2⟩
  have x2 := box_call X1.out hg2 (by omega)
  have hfr2 := hfr1.call hc2 hg2
  have s2 : w.heap.size < w2.heap.size := by have := hg2.size; omega
  have X2 := Lib.hid x2
  clear X1 x2 hc2 hg2 hfr1
  cases b
  · by_cases hA : 3 < ar (1 + x)
    · go_wp2_with (go_at_call 39; refine (Arity_spec _ _).mono ?_; rintro e w' ⟨rfl, rfl⟩)
      refine (l9On_any (4) 3 w2 p hfr2.cur (by omega) (by omega) (show ar 4 ≤ 3 by decide)).mono ?_
      rintro e w3 ⟨k, a, b, c, rfl, hc, hg⟩
      have x3 := box_call X2.out hg (by omega)
      have hfr3 := hfr2.call hc hg
      have s3 : w.heap.size < w3.heap.size := by have := hg.size; omega
      obtain ⟨q0, q1, q2, q3⟩ := boxcells4 (lay := Below.refl _ _) x3
      have f0 := free_at (j := 0) x3
      have f1 := free_at (j := 1) x3
      have f2 := free_at (j := 2) x3
      have f3 := free_at (j := 3) x3
      clear X2 x3 hc hg hfr2
      go_wp2_with fail
      exact bodyPost_ret (v := .agg #[.int .i64 k, .int .i64 a, .int .i64 b, .int .i64 c]) (by simp [results, Try.results35, go_sem, q0, q1, q2, q3]) rfl ⟨_, _, _, _, rfl, (Fr.cur (w := w) (by repeat (first | assumption | (with_reducible refine Fr.alloc ?_ _) | (with_reducible refine Fr.set ?_ hp (by first | omega | (simp; done) | (simp; omega)) _)))), (Fr.gr (by repeat (first | assumption | (with_reducible refine Fr.alloc ?_ _) | (with_reducible refine Fr.set ?_ hp (by first | omega | (simp; done) | (simp; omega)) _))))⟩
    · go_wp2_with (go_at_call 39; refine (Arity_spec _ _).mono ?_; rintro e w' ⟨rfl, rfl⟩)
      refine (l9On_any (1 + x) 3 w2 p hfr2.cur (by omega) (by omega) (by omega)).mono ?_
      rintro e w3 ⟨k, a, b, c, rfl, hc, hg⟩
      have x3 := box_call X2.out hg (by omega)
      have hfr3 := hfr2.call hc hg
      have s3 : w.heap.size < w3.heap.size := by have := hg.size; omega
      obtain ⟨q0, q1, q2, q3⟩ := boxcells4 (lay := Below.refl _ _) x3
      have f0 := free_at (j := 0) x3
      have f1 := free_at (j := 1) x3
      have f2 := free_at (j := 2) x3
      have f3 := free_at (j := 3) x3
      clear X2 x3 hc hg hfr2
      go_wp2_with fail
      exact bodyPost_ret (v := .agg #[.int .i64 k, .int .i64 a, .int .i64 b, .int .i64 c]) (by simp [results, Try.results35, go_sem, q0, q1, q2, q3]) rfl ⟨_, _, _, _, rfl, (Fr.cur (w := w) (by repeat (first | assumption | (with_reducible refine Fr.alloc ?_ _) | (with_reducible refine Fr.set ?_ hp (by first | omega | (simp; done) | (simp; omega)) _)))), (Fr.gr (by repeat (first | assumption | (with_reducible refine Fr.alloc ?_ _) | (with_reducible refine Fr.set ?_ hp (by first | omega | (simp; done) | (simp; omega)) _))))⟩
  · go_wp2_with fail
    obtain ⟨w3, hw3⟩ : ∃ w3, w3 = w2.alloc (.cells #[.int .i64 4, .int .i64 7, .int .i64 5, .int .i64 8, .int .i64 9, .int .i64 9, .int .i64 9, .int .i64 9] 3) := ⟨_, rfl⟩
    rw [← hw3]
    have x3 : w3.heap[w.heap.size]? = some (.cells #[.int .i64 0, .int .i64 0, .int .i64 0, .int .i64 0] 72 (0, 0)) := by rw [hw3]; exact (Below.heap_alloc _ _ _ s2).trans X2.out
    have hfr3 : Fr w p w3 := by rw [hw3]; exact hfr2.alloc _
    have hpk := picked (w := w2) (L := [4, 7, 5, 8, 9, 9, 9, 9]) rfl
    have hr3 : Rd w3 1 (some ⟨w2.heap.size, 0, none⟩) 8 (([4, 7, 5, 8, 9, 9, 9, 9] : List Int).map (Value.int .i64)) := by rw [hw3]; exact hpk
    have s3 : w.heap.size < w3.heap.size := by rw [hw3]; simp; omega
    clear hw3 hpk X2
    refine (l1PickInt_any w2.heap.size 8 8 [4, 7, 5, 8, 9, 9, 9, 9] w3 p hfr3.cur rfl (by omega) (by omega) hr3 (by omega)).mono ?_
    rintro e w4 ⟨y, hy, rfl, hc4, hg4⟩
    have x4 := box_call x3 hg4 (by omega)
    have hfr4 := hfr3.call hc4 hg4
    have s4 : w.heap.size < w4.heap.size := by have := hg4.size; omega
    have X4 := Lib.hid x4
    clear x3 x4 hc4 hg4 hfr3 hr3 hy
    by_cases hA : 3 < ar (y)
    · go_wp2_with (go_at_call 39; refine (Arity_spec _ _).mono ?_; rintro e w' ⟨rfl, rfl⟩)
      refine (l9On_any (4) 3 w4 p hfr4.cur (by omega) (by omega) (show ar 4 ≤ 3 by decide)).mono ?_
      rintro e w5 ⟨k, a, b, c, rfl, hc, hg⟩
      have x5 := box_call X4.out hg (by omega)
      have hfr5 := hfr4.call hc hg
      have s5 : w.heap.size < w5.heap.size := by have := hg.size; omega
      obtain ⟨q0, q1, q2, q3⟩ := boxcells4 (lay := Below.refl _ _) x5
      have f0 := free_at (j := 0) x5
      have f1 := free_at (j := 1) x5
      have f2 := free_at (j := 2) x5
      have f3 := free_at (j := 3) x5
      clear X4 x5 hc hg hfr4
      go_wp2_with fail
      exact bodyPost_ret (v := .agg #[.int .i64 k, .int .i64 a, .int .i64 b, .int .i64 c]) (by simp [results, Try.results35, go_sem, q0, q1, q2, q3]) rfl ⟨_, _, _, _, rfl, (Fr.cur (w := w) (by repeat (first | assumption | (with_reducible refine Fr.alloc ?_ _) | (with_reducible refine Fr.set ?_ hp (by first | omega | (simp; done) | (simp; omega)) _)))), (Fr.gr (by repeat (first | assumption | (with_reducible refine Fr.alloc ?_ _) | (with_reducible refine Fr.set ?_ hp (by first | omega | (simp; done) | (simp; omega)) _))))⟩
    · go_wp2_with (go_at_call 39; refine (Arity_spec _ _).mono ?_; rintro e w' ⟨rfl, rfl⟩)
      refine (l9On_any (y) 3 w4 p hfr4.cur (by omega) (by omega) (by omega)).mono ?_
      rintro e w5 ⟨k, a, b, c, rfl, hc, hg⟩
      have x5 := box_call X4.out hg (by omega)
      have hfr5 := hfr4.call hc hg
      have s5 : w.heap.size < w5.heap.size := by have := hg.size; omega
      obtain ⟨q0, q1, q2, q3⟩ := boxcells4 (lay := Below.refl _ _) x5
      have f0 := free_at (j := 0) x5
      have f1 := free_at (j := 1) x5
      have f2 := free_at (j := 2) x5
      have f3 := free_at (j := 3) x5
      clear X4 x5 hc hg hfr4
      go_wp2_with fail
      exact bodyPost_ret (v := .agg #[.int .i64 k, .int .i64 a, .int .i64 b, .int .i64 c]) (by simp [results, Try.results35, go_sem, q0, q1, q2, q3]) rfl ⟨_, _, _, _, rfl, (Fr.cur (w := w) (by repeat (first | assumption | (with_reducible refine Fr.alloc ?_ _) | (with_reducible refine Fr.set ?_ hp (by first | omega | (simp; done) | (simp; omega)) _)))), (Fr.gr (by repeat (first | assumption | (with_reducible refine Fr.alloc ?_ _) | (with_reducible refine Fr.set ?_ hp (by first | omega | (simp; done) | (simp; omega)) _))))⟩

set_option maxRecDepth 100000 in
set_option maxHeartbeats 2000000 in
theorem l9Gate_4 (w : World) (p : Nat) (hcur : CurAt w p) : Calls Try.prog 35 #[.pointer (some ⟨p, 0, none⟩), .int .i64 4] w (DG w p) := by
  have hp := hcur.lt
  go_enter Try.func35, Try.ntmps35
  go_wp2_with fail
  obtain ⟨w0, hw0⟩ : ∃ w0, w0 = (w.alloc (.cells #[.int .i64 0, .int .i64 0, .int .i64 0, .int .i64 0] 72)).alloc (.cells #[.int .i64 0, .int .i64 8, .int .i64 11, .int .i64 12, .int .i64 12] 3) := ⟨_, rfl⟩
  rw [← hw0]
  have x0 : w0.heap[w.heap.size]? = some (.cells #[.int .i64 0, .int .i64 0, .int .i64 0, .int .i64 0] 72 (0, 0)) := by rw [hw0]; exact boxed2_0 _ _ _
  have hfr0 : Fr w p w0 := by rw [hw0]; exact ((Fr.start hcur).alloc _).alloc _
  have s0 : w.heap.size < w0.heap.size := by rw [hw0]; simp; omega
  clear hw0
  refine (l1Below_any 12 11 w0 p hfr0.cur (by omega) (by omega) (by omega)).mono ?_
  rintro e w1 ⟨x, hx0, hx1, rfl, hc1, hg1⟩
  have x1 := box_call x0 hg1 (by omega)
  have hfr1 := hfr0.call hc1 hg1
  have s1 : w.heap.size < w1.heap.size := by have := hg1.size; omega
  have X1 := Lib.hid x1
  clear x0 x1 hc1 hg1 hfr0
  go_wp2_with fail
  refine (l1Once_any 2 w1 p hfr1.cur (by omega) (by omega)).mono ?_
  rintro e w2 ⟨b, rfl, hc2, hg2⟩
  have x2 := box_call X1.out hg2 (by omega)
  have hfr2 := hfr1.call hc2 hg2
  have s2 : w.heap.size < w2.heap.size := by have := hg2.size; omega
  have X2 := Lib.hid x2
  clear X1 x2 hc2 hg2 hfr1
  cases b
  · by_cases hA : 4 < ar (1 + x)
    · go_wp2_with (go_at_call 39; refine (Arity_spec _ _).mono ?_; rintro e w' ⟨rfl, rfl⟩)
      refine (l9On_any (4) 4 w2 p hfr2.cur (by omega) (by omega) (show ar 4 ≤ 4 by decide)).mono ?_
      rintro e w3 ⟨k, a, b, c, rfl, hc, hg⟩
      have x3 := box_call X2.out hg (by omega)
      have hfr3 := hfr2.call hc hg
      have s3 : w.heap.size < w3.heap.size := by have := hg.size; omega
      obtain ⟨q0, q1, q2, q3⟩ := boxcells4 (lay := Below.refl _ _) x3
      have f0 := free_at (j := 0) x3
      have f1 := free_at (j := 1) x3
      have f2 := free_at (j := 2) x3
      have f3 := free_at (j := 3) x3
      clear X2 x3 hc hg hfr2
      go_wp2_with fail
      exact bodyPost_ret (v := .agg #[.int .i64 k, .int .i64 a, .int .i64 b, .int .i64 c]) (by simp [results, Try.results35, go_sem, q0, q1, q2, q3]) rfl ⟨_, _, _, _, rfl, (Fr.cur (w := w) (by repeat (first | assumption | (with_reducible refine Fr.alloc ?_ _) | (with_reducible refine Fr.set ?_ hp (by first | omega | (simp; done) | (simp; omega)) _)))), (Fr.gr (by repeat (first | assumption | (with_reducible refine Fr.alloc ?_ _) | (with_reducible refine Fr.set ?_ hp (by first | omega | (simp; done) | (simp; omega)) _))))⟩
    · go_wp2_with (go_at_call 39; refine (Arity_spec _ _).mono ?_; rintro e w' ⟨rfl, rfl⟩)
      refine (l9On_any (1 + x) 4 w2 p hfr2.cur (by omega) (by omega) (by omega)).mono ?_
      rintro e w3 ⟨k, a, b, c, rfl, hc, hg⟩
      have x3 := box_call X2.out hg (by omega)
      have hfr3 := hfr2.call hc hg
      have s3 : w.heap.size < w3.heap.size := by have := hg.size; omega
      obtain ⟨q0, q1, q2, q3⟩ := boxcells4 (lay := Below.refl _ _) x3
      have f0 := free_at (j := 0) x3
      have f1 := free_at (j := 1) x3
      have f2 := free_at (j := 2) x3
      have f3 := free_at (j := 3) x3
      clear X2 x3 hc hg hfr2
      go_wp2_with fail
      exact bodyPost_ret (v := .agg #[.int .i64 k, .int .i64 a, .int .i64 b, .int .i64 c]) (by simp [results, Try.results35, go_sem, q0, q1, q2, q3]) rfl ⟨_, _, _, _, rfl, (Fr.cur (w := w) (by repeat (first | assumption | (with_reducible refine Fr.alloc ?_ _) | (with_reducible refine Fr.set ?_ hp (by first | omega | (simp; done) | (simp; omega)) _)))), (Fr.gr (by repeat (first | assumption | (with_reducible refine Fr.alloc ?_ _) | (with_reducible refine Fr.set ?_ hp (by first | omega | (simp; done) | (simp; omega)) _))))⟩
  · go_wp2_with fail
    obtain ⟨w3, hw3⟩ : ∃ w3, w3 = w2.alloc (.cells #[.int .i64 4, .int .i64 7, .int .i64 5, .int .i64 8, .int .i64 9, .int .i64 9, .int .i64 9, .int .i64 9] 3) := ⟨_, rfl⟩
    rw [← hw3]
    have x3 : w3.heap[w.heap.size]? = some (.cells #[.int .i64 0, .int .i64 0, .int .i64 0, .int .i64 0] 72 (0, 0)) := by rw [hw3]; exact (Below.heap_alloc _ _ _ s2).trans X2.out
    have hfr3 : Fr w p w3 := by rw [hw3]; exact hfr2.alloc _
    have hpk := picked (w := w2) (L := [4, 7, 5, 8, 9, 9, 9, 9]) rfl
    have hr3 : Rd w3 1 (some ⟨w2.heap.size, 0, none⟩) 8 (([4, 7, 5, 8, 9, 9, 9, 9] : List Int).map (Value.int .i64)) := by rw [hw3]; exact hpk
    have s3 : w.heap.size < w3.heap.size := by rw [hw3]; simp; omega
    clear hw3 hpk X2
    refine (l1PickInt_any w2.heap.size 8 8 [4, 7, 5, 8, 9, 9, 9, 9] w3 p hfr3.cur rfl (by omega) (by omega) hr3 (by omega)).mono ?_
    rintro e w4 ⟨y, hy, rfl, hc4, hg4⟩
    have x4 := box_call x3 hg4 (by omega)
    have hfr4 := hfr3.call hc4 hg4
    have s4 : w.heap.size < w4.heap.size := by have := hg4.size; omega
    have X4 := Lib.hid x4
    clear x3 x4 hc4 hg4 hfr3 hr3 hy
    by_cases hA : 4 < ar (y)
    · go_wp2_with (go_at_call 39; refine (Arity_spec _ _).mono ?_; rintro e w' ⟨rfl, rfl⟩)
      refine (l9On_any (4) 4 w4 p hfr4.cur (by omega) (by omega) (show ar 4 ≤ 4 by decide)).mono ?_
      rintro e w5 ⟨k, a, b, c, rfl, hc, hg⟩
      have x5 := box_call X4.out hg (by omega)
      have hfr5 := hfr4.call hc hg
      have s5 : w.heap.size < w5.heap.size := by have := hg.size; omega
      obtain ⟨q0, q1, q2, q3⟩ := boxcells4 (lay := Below.refl _ _) x5
      have f0 := free_at (j := 0) x5
      have f1 := free_at (j := 1) x5
      have f2 := free_at (j := 2) x5
      have f3 := free_at (j := 3) x5
      clear X4 x5 hc hg hfr4
      go_wp2_with fail
      exact bodyPost_ret (v := .agg #[.int .i64 k, .int .i64 a, .int .i64 b, .int .i64 c]) (by simp [results, Try.results35, go_sem, q0, q1, q2, q3]) rfl ⟨_, _, _, _, rfl, (Fr.cur (w := w) (by repeat (first | assumption | (with_reducible refine Fr.alloc ?_ _) | (with_reducible refine Fr.set ?_ hp (by first | omega | (simp; done) | (simp; omega)) _)))), (Fr.gr (by repeat (first | assumption | (with_reducible refine Fr.alloc ?_ _) | (with_reducible refine Fr.set ?_ hp (by first | omega | (simp; done) | (simp; omega)) _))))⟩
    · go_wp2_with (go_at_call 39; refine (Arity_spec _ _).mono ?_; rintro e w' ⟨rfl, rfl⟩)
      refine (l9On_any (y) 4 w4 p hfr4.cur (by omega) (by omega) (by omega)).mono ?_
      rintro e w5 ⟨k, a, b, c, rfl, hc, hg⟩
      have x5 := box_call X4.out hg (by omega)
      have hfr5 := hfr4.call hc hg
      have s5 : w.heap.size < w5.heap.size := by have := hg.size; omega
      obtain ⟨q0, q1, q2, q3⟩ := boxcells4 (lay := Below.refl _ _) x5
      have f0 := free_at (j := 0) x5
      have f1 := free_at (j := 1) x5
      have f2 := free_at (j := 2) x5
      have f3 := free_at (j := 3) x5
      clear X4 x5 hc hg hfr4
      go_wp2_with fail
      exact bodyPost_ret (v := .agg #[.int .i64 k, .int .i64 a, .int .i64 b, .int .i64 c]) (by simp [results, Try.results35, go_sem, q0, q1, q2, q3]) rfl ⟨_, _, _, _, rfl, (Fr.cur (w := w) (by repeat (first | assumption | (with_reducible refine Fr.alloc ?_ _) | (with_reducible refine Fr.set ?_ hp (by first | omega | (simp; done) | (simp; omega)) _)))), (Fr.gr (by repeat (first | assumption | (with_reducible refine Fr.alloc ?_ _) | (with_reducible refine Fr.set ?_ hp (by first | omega | (simp; done) | (simp; omega)) _))))⟩

theorem l9Gate_any (n : Nat) (w : World) (p : Nat) (hcur : CurAt w p) (h1 : 1 ≤ n) (h4 : n ≤ 4) : Calls Try.prog 35 #[.pointer (some ⟨p, 0, none⟩), .int .i64 n] w (DG w p) := by
  have hn : n = 1 ∨ n = 2 ∨ n = 3 ∨ n = 4 := by omega
  rcases hn with rfl | rfl | rfl | rfl
  · exact l9Gate_1 w p hcur
  · exact l9Gate_2 w p hcur
  · exact l9Gate_3 w p hcur
  · exact l9Gate_4 w p hcur


end Go.Proofs.Ytgjpicekdbemiac
namespace Go.Proofs.Ytgjpicekdbemiac
open Go.RowKit
set_option linter.unusedVariables false
/-- 'append', kept shut in a walk. -/
def appSem2 (ts : Array TypeId) (ty : TypeId) (args : Array Value) : Sem Value := Builtin.append_ ts ty args
theorem fold_append2 (ts : Array TypeId) (ty : TypeId) (args : Array Value) : Builtin.append_ ts ty args = appSem2 ts ty args := rfl
/-- The state of a drawing of a routine: the box of the result, the routine's own box X, its list. -/
structure St (w : World) (p X : Nat) (N I B : Int) (A : Option Addr) (q c : Nat) (L : List Opt) (wk : World) : Prop where
  fr : Fr w p wk
  x4 : wk.heap[w.heap.size]? = some (.cells #[.int .i64 0, .int .i64 0, .int .i64 0, .slice none 0 0] 67 (0, 0))
  x : wk.heap[X]? = some (.cells #[.int .i64 N, .int .i64 I, .int .i64 B, .slice A q c] 67 (0, 0))
  own : wk.ownsRow (w.heap.size + 1) 74 8 (.slice A q c) q (L.flatMap ocells)
  hp : p < w.heap.size
  hX : w.heap.size < X
  nX : (Value.slice A q c).ownBlock ≠ some X
theorem St.lt {w wk : World} {p X q c : Nat} {N I B : Int} {A : Option Addr} {L : List Opt} (h : St w p X N I B A q c L wk) : X < wk.heap.size := lt_of_block h.x
theorem St.len {w wk : World} {p X q c : Nat} {N I B : Int} {A : Option Addr} {L : List Opt} (h : St w p X N I B A q c L wk) : L.length = q := by
  have h1 := h.own.1
  rw [flat_length ocells 8 ocells_len] at h1
  omega
theorem St.call {w wk w2 : World} {p X q c : Nat} {N I B : Int} {A : Option Addr} {L : List Opt} (h : St w p X N I B A q c L wk) (hc : CurAt w2 p) (hg : wk.grownBy w2 (some p)) : St w p X N I B A q c L w2 :=
  ⟨h.fr.call hc hg, box_call h.x4 hg (by have := h.hp; omega), box_call h.x hg (by have := h.hp; have := h.hX; omega), h.own.kept hg (by
    cases hk : (Value.slice A q c).ownBlock with
    | none => exact .inl rfl
    | some k =>
      refine .inr fun e => ?_
      injection e with e
      have h1 := (h.own.lt k hk).1
      have := h.hp
      omega), h.hp, h.hX, h.nX⟩
theorem St.alloc {w wk : World} {p X q c : Nat} {N I B : Int} {A : Option Addr} {L : List Opt} (h : St w p X N I B A q c L wk) (ob : Obj) : St w p X N I B A q c L (wk.alloc ob) :=
  ⟨h.fr.alloc ob, (Below.heap_alloc _ _ _ (lt_of_block h.x4)).trans h.x4, (Below.heap_alloc _ _ _ h.lt).trans h.x, h.own.alloc ob, h.hp, h.hX, h.nX⟩
theorem St.drew {w wk : World} {p X q c : Nat} {N I B : Int} {A : Option Addr} {L : List Opt} (h : St w p X N I B A q c L wk) : St w p X N I B A q c L wk.drew :=
  ⟨⟨h.fr.cur, ⟨h.fr.gr.os, h.fr.gr.tape, h.fr.gr.output, h.fr.gr.size, h.fr.gr.block⟩⟩, h.x4, h.x, h.own, h.hp, h.hX, h.nX⟩
/-- A cell of another block of the call's own is written. -/
theorem St.other {w wk : World} {p X q c : Nat} {N I B : Int} {A : Option Addr} {L : List Opt} (h : St w p X N I B A q c L wk) {a : Addr} (h1 : X < a.block) (h2 : (Value.slice A q c).ownBlock ≠ some a.block) (v : Value) : St w p X N I B A q c L (wk.setCell a v) :=
  ⟨h.fr.set h.hp (by have := h.hX; omega) v, (Below.heap_setCell _ _ _ _ (by have := h.hX; omega)).trans h.x4, (Below.heap_setCell _ _ _ _ (by omega)).trans h.x, ownsRow_setCell_other h.own h2 v, h.hp, h.hX, h.nX⟩
theorem St.setB {w wk : World} {p X q c : Nat} {N I B : Int} {A : Option Addr} {L : List Opt} (h : St w p X N I B A q c L wk) (B' : Int) : St w p X N I B' A q c L (wk.setCell ⟨X, 2, none⟩ (.int .i64 B')) :=
  ⟨h.fr.set h.hp (by have := h.hX; simp; omega) _, (Below.heap_setCell _ _ _ _ (by have := h.hX; simp; omega)).trans h.x4, by rw [heap_setCell_same _ _ _ _ _ _ h.x]; rfl, ownsRow_setCell_other h.own h.nX _, h.hp, h.hX, h.nX⟩
theorem St.setI {w wk : World} {p X q c : Nat} {N I B : Int} {A : Option Addr} {L : List Opt} (h : St w p X N I B A q c L wk) (I' : Int) : St w p X N I' B A q c L (wk.setCell ⟨X, 1, none⟩ (.int .i64 I')) :=
  ⟨h.fr.set h.hp (by have := h.hX; simp; omega) _, (Below.heap_setCell _ _ _ _ (by have := h.hX; simp; omega)).trans h.x4, by rw [heap_setCell_same _ _ _ _ _ _ h.x]; rfl, ownsRow_setCell_other h.own h.nX _, h.hp, h.hX, h.nX⟩
/-- What lies there behind 'append' ahead of the store. -/
theorem St.app {w wk w3 : World} {p X q c : Nat} {N I B : Int} {A : Option Addr} {L : List Opt} {ob : Obj} (h : St w p X N I B A q c L wk) (hg : (wk.alloc ob).grownBy w3 (Value.slice A q c).ownBlock) :
    w3.heap[X]? = some (.cells #[.int .i64 N, .int .i64 I, .int .i64 B, .slice A q c] 67 (0, 0)) ∧ w3.heap[w.heap.size]? = some (.cells #[.int .i64 0, .int .i64 0, .int .i64 0, .slice none 0 0] 67 (0, 0)) ∧ Fr w p w3 := by
  have h1 := (h.alloc ob)
  have hX := h.hX
  refine ⟨?_, ?_, h1.fr.own h.hp hg (fun k hk => by have := (h.own.lt k hk).1; omega)⟩
  · rw [hg.block X h1.lt (fun e => h.nX e.symm)]
    exact h1.x
  · rw [hg.block w.heap.size (lt_of_block h1.x4) (fun e => by have := (h.own.lt _ e.symm).1; omega)]
    exact h1.x4
theorem St.push {w wk w3 : World} {p X q c c3 : Nat} {N I B : Int} {A A3 : Option Addr} {L : List Opt} {o : Opt} {ob : Obj} (h : St w p X N I B A q c L wk) (hg : (wk.alloc ob).grownBy w3 (Value.slice A q c).ownBlock)
    (h3 : w3.ownsRow (w.heap.size + 1) 74 8 (.slice A3 (q + 1) c3) (q + 1) (L.flatMap ocells ++ ocells o))
    (hat : (Value.slice A3 (q + 1) c3).ownBlock = (Value.slice A q c).ownBlock ∨ ∃ k, X < k ∧ (Value.slice A3 (q + 1) c3).ownBlock = some k) : St w p X N I B A3 (q + 1) c3 (L ++ [o]) (w3.setCell ⟨X, 3, none⟩ (.slice A3 (q + 1) c3)) := by
  obtain ⟨h1, h2, h4⟩ := h.app hg
  have hX := h.hX
  have hlt := h.lt
  have hn : (Value.slice A3 (q + 1) c3).ownBlock ≠ some X := by
    rcases hat with hat | ⟨k, hk, hat⟩
    · rw [hat]; exact h.nX
    · rw [hat]
      intro e
      injection e with e
      omega
  refine ⟨h4.set h.hp (by simp; omega) _, (Below.heap_setCell _ _ _ _ (by simp; omega)).trans h2, by rw [heap_setCell_same _ _ _ _ _ _ h1]; rfl, ?_, h.hp, h.hX, hn⟩
  rw [List.flatMap_append, show [o].flatMap ocells = ocells o by simp]
  exact ownsRow_setCell_other h3 hn _
theorem l9Gate_int (N : Int) (w : World) (p : Nat) (hcur : CurAt w p) (h1 : 1 ≤ N) (h4 : N ≤ 4) : Calls Try.prog 35 #[.pointer (some ⟨p, 0, none⟩), .int .i64 N] w (DG w p) := by
  obtain ⟨n, rfl⟩ : ∃ n : Nat, N = n := ⟨N.toNat, by omega⟩
  exact l9Gate_any n w p hcur (by omega) (by omega)
theorem own_low {w : World} {B B' e size n : Nat} {v : Value} {xs : List Value} (h : w.ownsRow B e size v n xs) (hB : B' ≤ B) : w.ownsRow B' e size v n xs := by
  refine ⟨h.1, ?_⟩
  rcases h.2 with h2 | ⟨g, cap, cur, h1, h2, h3⟩
  · exact .inl h2
  · exact .inr ⟨g, cap, cur, h1, Nat.le_trans hB h2, h3⟩
def DR (w : World) (p most : Nat) (e : Ending) (w' : World) : Prop := ∃ (N I B : Int) (A : Option Addr) (n c : Nat) (L : List Opt), e = .returned (.agg #[.int .i64 N, .int .i64 I, .int .i64 B, .slice A n c]) ∧
  L.length = n ∧ n ≤ most ∧ 1 ≤ N ∧ N ≤ 3 ∧ 0 ≤ B ∧ B ≤ 2 ∧ w'.ownsRow w.heap.size 74 8 (.slice A n c) n (L.flatMap ocells) ∧ CurAt w' p ∧ w.grownBy w' (some p)
section
attribute [local go_sem ↓ high] fold_append2
set_option maxRecDepth 100000 in
set_option maxHeartbeats 8000000 in
theorem l21Right_any (most : Nat) (w : World) (p : Nat) (hcur : CurAt w p) (hm : most ≤ 100) : Calls Try.prog 32 #[.pointer (some ⟨p, 0, none⟩), .int .i64 most] w (DR w p most) := by
  obtain ⟨i0, hi, hz0, hz1, hz2⟩ := info_parts info_OpE
  have hp := hcur.lt
  go_enter Try.func32, Try.ntmps32
  go_wp2_with fail
  obtain ⟨w0, hw0⟩ : ∃ w0, w0 = w.alloc (.cells #[.int .i64 0, .int .i64 0, .int .i64 0, .slice none 0 0] 67) := ⟨_, rfl⟩
  rw [← hw0]
  have x0 : w0.heap[w.heap.size]? = some (.cells #[.int .i64 0, .int .i64 0, .int .i64 0, .slice none 0 0] 67 (0, 0)) := by rw [hw0]; exact boxed1_0 _ _
  have hfr0 : Fr w p w0 := by rw [hw0]; exact (Fr.start hcur).alloc _
  have s0 : w.heap.size < w0.heap.size := by rw [hw0]; simp
  clear hw0
  refine (l1Below_any 3 2 w0 p hfr0.cur (by omega) (by omega) (by omega)).mono ?_
  rintro e w1 ⟨y, hy0, hy1, rfl, hc1, hg1⟩
  have x1 := box_call x0 hg1 (by omega)
  have hfr1 := hfr0.call hc1 hg1
  have s1 : w.heap.size < w1.heap.size := by have := hg1.size; omega
  have X1 := Lib.hid x1
  clear x0 x1 hc1 hg1 hfr0
  have st : ∀ N : Int, St w p w1.heap.size N N 0 none 0 0 [] (w1.alloc (.cells #[.int .i64 N, .int .i64 N, .int .i64 0, .slice none 0 0] 67)) := fun N =>
    ⟨hfr1.alloc _, (Below.heap_alloc _ _ _ s1).trans X1.out, boxed1_0 _ _, World.ownsRow_nil _ _ _ _, hp, s1, by simp [Value.ownBlock]⟩
  go_upto_region 3 with (fail)
  obtain ⟨N, hN⟩ : ∃ N, N = 1 + y := ⟨_, rfl⟩
  obtain ⟨X, hX⟩ : ∃ X, X = w1.heap.size := ⟨_, rfl⟩
  rw [← hN]
  have st0 := st N
  rw [← hX] at st0 ⊢
  obtain ⟨w2, hw2⟩ : ∃ w2, w2 = w1.alloc (.cells #[.int .i64 N, .int .i64 N, .int .i64 0, .slice none 0 0] 67) := ⟨_, rfl⟩
  rw [← hw2] at st0 ⊢
  have hN1 : 1 ≤ N := by omega
  have hN3 : N ≤ 3 := by omega
  clear hw2 hX hN st X1 hfr1 s1 hy0 hy1
  go_cut [22] (fun s wx => ∃ bb : Bool, s = .bool bb ∧ (bb = true → 1 < N) ∧ St w p X N N 0 none 0 0 [] wx)
  case first =>
    by_cases hn2 : 1 < N
    · go_wp2_with fail
      refine (l1Once_any 4 w2 p st0.fr.cur (by omega) (by omega)).mono ?_
      rintro e w3 ⟨bb, rfl, hc3, hg3⟩
      have st1 := st0.call hc3 hg3
      clear hc3 hg3 st0
      go_wp2_with fail
      go_meet
      exact ⟨bb, rfl, fun _ => hn2, st1⟩
    · go_wp2_with fail
      go_meet
      exact ⟨false, rfl, by simp, st0⟩
  case rest =>
    obtain ⟨bb, rfl, hbb, st1⟩ := hcut
    obtain ⟨wA, rfl⟩ : ∃ wA : World, wA = wc := ⟨_, rfl⟩
    clear st0
    go_upto_if 22 with (fail)
    go_cut [] (fun wx => ∃ I : Int, St w p X N I 0 none 0 0 [] wx)
    case first =>
      cases bb
      · go_wp2_with fail
        go_meet
        exact ⟨N, st1⟩
      · have h1N := hbb rfl
        obtain ⟨r0, r1, r2, r3⟩ := boxcells4 (lay := Below.refl _ _) st1.x
        have g1 := free_at (j := 1) st1.x
        have HT := Lib.hid (st1.setI (N - 1))
        clear st1
        go_wp2_with fail
        go_meet
        exact ⟨N - 1, HT.out⟩
    case rest =>
      clear st1
      obtain ⟨I, st2⟩ := hcut
      obtain ⟨wB, rfl⟩ : ∃ wB : World, wB = wc := ⟨_, rfl⟩
      go_wp2_with fail
      refine (l1Once_any 2 wB p st2.fr.cur (by omega) (by omega)).mono ?_
      rintro e wC ⟨wd, rfl, hcC, hgC⟩
      have st3 := st2.call hcC hgC
      clear hcC hgC st2
      go_wp2_with fail
      refine (l1Below_any (most + 1) most wC p st3.fr.cur (by omega) (by omega) (by omega)).mono ?_
      rintro e wD ⟨mm, hm0, hm1, rfl, hcD, hgD⟩
      obtain ⟨m, rfl⟩ : ∃ m : Nat, mm = m := ⟨mm.toNat, by omega⟩
      have st4 := st3.call hcD hgD
      clear hcD hgD st3
      go_wp2_with fail
      go_loopw [9] (fun i wr => ∃ (t : Nat) (B : Int) (A : Option Addr) (q c : Nat) (L : List Opt), t ≤ m ∧ i = .int .i64 t ∧ q ≤ t ∧ 0 ≤ B ∧ B ≤ 2 ∧ St w p X N I B A q c L wr) (fun i _ => m - (intOf i).toNat)
      case atStart => exact ⟨0, 0, none, 0, 0, [], Nat.zero_le _, rfl, Nat.le_refl _, by omega, by omega, st4⟩
      case round =>
        clear st4
        obtain ⟨t, B, A, q, c, L, ht, rfl, hq, hB1, hB2, S0⟩ := hrel
        obtain ⟨wE, rfl⟩ : ∃ wE : World, wE = wr := ⟨_, rfl⟩
        by_cases hlt : t < m
        · obtain ⟨r0, r1, r2, r3⟩ := boxcells4 (lay := Below.refl _ _) S0.x
          go_upto_region 10 with (fail)
          go_cut [46] (fun s wx => ∃ bb : Bool, s = .bool bb ∧ (bb = true → B < 2) ∧ St w p X N I B A q c L wx)
          case first =>
            cases wd
            · go_wp2_with fail
              go_meet
              exact ⟨false, rfl, by simp, S0⟩
            · by_cases hb2 : B < 2
              · go_wp2_with fail
                refine (l1Once_any 4 wE p S0.fr.cur (by omega) (by omega)).mono ?_
                rintro e wF ⟨bf, rfl, hcF, hgF⟩
                have S1 := S0.call hcF hgF
                clear hcF hgF S0 r0 r1 r2 r3
                go_wp2_with fail
                go_meet
                exact ⟨bf, rfl, fun _ => hb2, S1⟩
              · go_wp2_with fail
                go_meet
                exact ⟨false, rfl, by simp, S0⟩
          case rest =>
            clear S0 r0 r1 r2 r3
            obtain ⟨bf, rfl, hbf, S1⟩ := hcut
            obtain ⟨wF, rfl⟩ : ∃ wF : World, wF = wc := ⟨_, rfl⟩
            cases bf
            · go_wp2_with fail
              refine (l9Gate_int N wF p S1.fr.cur (by omega) (by omega)).mono ?_
              rintro e wG ⟨gk, ga, gb, gc, rfl, hcG, hgG⟩
              have S2 := S1.call hcG hgG
              clear hcG hgG S1 hbf
              have lX := S2.lt
              go_upto_region 14 with (fail)
              have y3 : (wG.alloc (.cells #[.int .i64 1, .int .i64 gk, .int .i64 ga, .int .i64 gb, .int .i64 gc, .int .i64 0, .int .i64 0, .int .i64 0] 74)).heap[wG.heap.size]? = some (.cells #[.int .i64 1, .int .i64 gk, .int .i64 ga, .int .i64 gb, .int .i64 gc, .int .i64 0, .int .i64 0, .int .i64 0] 74 (0, 0)) := boxed1_0 _ _
              have S3 := S2.alloc (.cells #[.int .i64 1, .int .i64 gk, .int .i64 ga, .int .i64 gb, .int .i64 gc, .int .i64 0, .int .i64 0, .int .i64 0] 74)
              have ow : ∀ k, (Value.slice A q c).ownBlock = some k → k < wG.heap.size := fun k hk => (S2.own.lt k hk).2
              obtain ⟨wH, hwH⟩ : ∃ wH, wH = wG.alloc (.cells #[.int .i64 1, .int .i64 gk, .int .i64 ga, .int .i64 gb, .int .i64 gc, .int .i64 0, .int .i64 0, .int .i64 0] 74) := ⟨_, rfl⟩
              rw [← hwH] at y3 S3 ⊢
              obtain ⟨Y, hY⟩ : ∃ Y, Y = wG.heap.size := ⟨_, rfl⟩
              rw [← hY] at y3 ow lX ⊢
              clear hwH S2 hY
              obtain ⟨r0, r1, r2, r3⟩ := boxcells4 (lay := Below.refl _ _) S3.x
              go_cut [72] (fun s wx => ∃ bb : Bool, s = .bool bb ∧ (bb = true → 0 < B) ∧ St w p X N I B A q c L wx ∧ wx.heap[Y]? = some (.cells #[.int .i64 1, .int .i64 gk, .int .i64 ga, .int .i64 gb, .int .i64 gc, .int .i64 0, .int .i64 0, .int .i64 0] 74 (0, 0)))
              case first =>
                by_cases hb0 : 0 < B
                · go_wp2_with fail
                  refine (l1Once_any 2 wH p S3.fr.cur (by omega) (by omega)).mono ?_
                  rintro e wI ⟨bi, rfl, hcI, hgI⟩
                  have S4 := S3.call hcI hgI
                  have y4 := box_call y3 hgI (by have := S3.hp; have := S3.hX; omega)
                  clear hcI hgI S3 y3 r0 r1 r2 r3
                  go_wp2_with fail
                  go_meet
                  exact ⟨bi, rfl, fun _ => hb0, S4, y4⟩
                · obtain rfl : B = 0 := by omega
                  go_wp2_with fail
                  go_meet
                  exact ⟨false, rfl, by simp, S3, y3⟩
              case rest =>
                clear S3 y3 r0 r1 r2 r3
                obtain ⟨bi, rfl, hbi, S4, y4⟩ := hcut
                obtain ⟨wI, rfl⟩ : ∃ wI : World, wI = wc := ⟨_, rfl⟩
                go_upto_if 72 with (fail)
                go_cut [] (fun wx => ∃ f : Int, St w p X N I B A q c L wx ∧ wx.heap[Y]? = some (.cells #[.int .i64 1, .int .i64 gk, .int .i64 ga, .int .i64 gb, .int .i64 gc, .int .i64 0, .int .i64 0, .int .i64 f] 74 (0, 0)))
                case first =>
                  cases bi
                  · go_wp2_with fail
                    go_meet
                    exact ⟨0, S4, y4⟩
                  · have hb0 := hbi rfl
                    obtain ⟨r0, r1, r2, r3⟩ := boxcells4 (lay := Below.refl _ _) S4.x
                    go_wp2_with fail
                    refine (l1Below_any B 1 wI p S4.fr.cur (by omega) (by omega) (by omega)).mono ?_
                    rintro e wJ ⟨x, hx0, hx1, rfl, hcJ, hgJ⟩
                    have S5 := S4.call hcJ hgJ
                    have y5 := box_call y4 hgJ (by have := S4.hp; have := S4.hX; omega)
                    clear hcJ hgJ S4 y4 r0 r1 r2 r3
                    have f7 := free_at (j := 7) y5
                    obtain ⟨z0, z1, z2, z3, z4, z5, z6, z7⟩ := boxcells8 (lay := Below.refl _ _) y5
                    have HT := Lib.hid (S5.other (a := ⟨Y, 7, none⟩) (by exact lX) (by
                      intro e
                      have := ow _ e
                      simp at this) (.int .i64 (1 + x)))
                    have HY := Lib.hid (show (wJ.setCell ⟨Y, 7, none⟩ (.int .i64 (1 + x))).heap[Y]? = some (.cells #[.int .i64 1, .int .i64 gk, .int .i64 ga, .int .i64 gb, .int .i64 gc, .int .i64 0, .int .i64 0, .int .i64 (1 + x)] 74 (0, 0)) by rw [heap_setCell_same _ _ _ _ _ _ y5]; rfl)
                    clear S5 y5
                    go_wp2_with fail
                    go_meet
                    exact ⟨1 + x, HT.out, HY.out⟩
                case rest =>
                  clear S4 y4 hbi
                  obtain ⟨f, S6, y6⟩ := hcut
                  obtain ⟨wK, rfl⟩ : ∃ wK : World, wK = wc := ⟨_, rfl⟩
                  obtain ⟨r0, r1, r2, r3⟩ := boxcells4 (lay := Below.refl _ _) S6.x
                  obtain ⟨z0, z1, z2, z3, z4, z5, z6, z7⟩ := boxcells8 (lay := Below.refl _ _) y6
                  have HS := Lib.hid S6
                  have lX2 := S6.lt
                  have ownS := S6.own
                  clear S6 y6 ow
                  go_wp2_with (at_builtin; refine wpList_append_rd _ rfl _ _ 65 rfl (w.heap.size + 1) 74 i0 _ 8 64 Try.underlying65 hi hz0 hz1 hz2 rfl (by decide) _ _ _ rfl (ownS.alloc _) _ 1 1 _ rfl (rd_lit1 ?c0 rfl) ?c2 ?c3 ?c4 ?c5 ?_)
                  case c0 => first | rfl | simp
                  case c2 => repeat' (first | rfl | apply And.intro)
                  case c3 => simp only [maxLen]; omega
                  case c4 => omega
                  case c5 => have := HS.out.hX; simp; omega
                  intro vv ww own3 gr3 hat3
                  obtain ⟨A3, c3, rfl, _, _, _⟩ := rd_of_own own3
                  obtain ⟨a1, a2, a3⟩ := HS.out.app gr3
                  obtain ⟨s0, s1, s2, s3⟩ := boxcells4 (lay := Below.refl _ _) a1
                  have u3 := free_at (j := 3) a1
                  have HP := Lib.hid (HS.out.push (o := ⟨1, ⟨gk, ga, gb, gc⟩, 0, 0, f⟩) gr3 own3 (hat3.imp id fun h => ⟨_, by omega, h⟩))
                  clear hat3 a1 a2 a3 own3 gr3 z0 z1 z2 z3 z4 z5 z6 z7 r0 r1 r2 r3 ownS
                  go_wp2_with fail
                  go_roundw
                  case rel => exact ⟨t + 1, B, A3, q + 1, c3, L ++ [⟨1, ⟨gk, ga, gb, gc⟩, 0, 0, f⟩], by omega, by go_num, by omega, hB1, hB2, HP.out⟩
                  case measure => simp [intOf]; omega
            · have hb2 := hbf rfl
              obtain ⟨r0, r1, r2, r3⟩ := boxcells4 (lay := Below.refl _ _) S1.x
              have g3 := free_at (j := 3) S1.x
              have lX := S1.lt
              have HS1 := Lib.hid S1
              clear S1 hbf
              go_upto_region 11 with (fail)
              go_cut [] (fun wx => ∃ (A3 : Option Addr) (c3 : Nat) (o : Opt), St w p X N I B A3 (q + 1) c3 (L ++ [o]) wx)
              case first =>
                go_region_with (go_at_call 24; (with_reducible refine (l1Below_any N 3 _ p HS1.out.drew.fr.cur (by omega) (by omega) (by omega)).mono ?_); rintro e w2 ⟨x, hx0, hx1, rfl, hc2, hg2⟩; have S2 := HS1.out.drew.call hc2 hg2; have lX2 := S2.lt; obtain ⟨k0, k1, k2, k3⟩ := boxcells4 (lay := Below.refl _ _) S2.x; obtain ⟨v3, w3, hrun3, hown3, hgrow3, hat3⟩ := run_append_rd (P := Try.prog) (w2.alloc (.cells #[.int .i64 2, .int .i64 0, .int .i64 0, .int .i64 0, .int .i64 0, .int .i64 x, .int .i64 B, .int .i64 0] 74)) (w.heap.size + 1) 65 65 74 i0 _ 8 64 Try.underlying65 hi hz0 hz1 hz2 rfl (by omega) (.slice A q c) q (L.flatMap ocells) (S2.own.alloc _) (some ⟨w2.heap.size, 0, none⟩) 1 1 [.int .i64 2, .int .i64 0, .int .i64 0, .int .i64 0, .int .i64 0, .int .i64 x, .int .i64 B, .int .i64 0] (rd_lit1 rfl rfl) (by simp [Value.oneCell']) (by simp only [maxLen]; omega) (by omega) (by have := S2.lt; have := S2.hX; simp; omega); rw [fold_append2] at hrun3; obtain ⟨A3, c3, rfl, _, _, _⟩ := rd_of_own hown3; obtain ⟨a1, a2, a3⟩ := S2.app hgrow3; obtain ⟨s0, s1, s2, s3⟩ := boxcells4 (lay := Below.refl _ _) a1; have u3 := free_at (j := 3) a1; have HP := Lib.hid (S2.push (o := ⟨2, ⟨0, 0, 0, 0⟩, x, B, 0⟩) hgrow3 hown3 (hat3.imp id fun h => ⟨_, by simp; omega, h⟩)); clear a1 a2 a3)
                all_goals (go_wp2_with fail; go_meet; exact ⟨A3, c3, _, HP.out⟩)
              case rest =>
                clear r0 r1 r2 r3 g3 HS1
                obtain ⟨A3, c3, o, S2⟩ := hcut
                obtain ⟨wG, rfl⟩ : ∃ wG : World, wG = wc := ⟨_, rfl⟩
                obtain ⟨r0, r1, r2, r3⟩ := boxcells4 (lay := Below.refl _ _) S2.x
                have g2 := free_at (j := 2) S2.x
                have HP := Lib.hid (S2.setB (B + 1))
                clear S2
                go_wp2_with fail
                go_roundw
                case rel => exact ⟨t + 1, B + 1, A3, q + 1, c3, L ++ [o], by omega, by go_num, by omega, by omega, by omega, HP.out⟩
                case measure => simp [intOf]; omega
        · obtain rfl : t = m := by omega
          obtain ⟨r0, r1, r2, r3⟩ := boxcells4 (lay := Below.refl _ _) S0.x
          obtain ⟨q0, q1, q2, q3⟩ := boxcells4 (lay := Below.refl _ _) S0.x4
          have f0 := free_at (j := 0) S0.x4
          have f1 := free_at (j := 1) S0.x4
          have f2 := free_at (j := 2) S0.x4
          have f3 := free_at (j := 3) S0.x4
          have HS := Lib.hid S0
          have hXX := S0.hX
          have lX := S0.lt
          clear S0
          go_wp2_with fail
          have hS := HS.out
          have hfr := hS.fr
          refine bodyPost_ret (v := .agg #[.int .i64 N, .int .i64 I, .int .i64 B, .slice A q c]) (by simp [results, Try.results32, go_sem, q0, q1, q2, q3]) rfl ⟨N, I, B, A, q, c, L, rfl, hS.len, by omega, hN1, hN3, hB1, hB2, ?_, (Fr.cur (w := w) (by repeat (first | assumption | (with_reducible refine Fr.alloc ?_ _) | (with_reducible refine Fr.set ?_ hp (by first | omega | (simp; done) | (simp; omega)) _)))), (Fr.gr (by repeat (first | assumption | (with_reducible refine Fr.alloc ?_ _) | (with_reducible refine Fr.set ?_ hp (by first | omega | (simp; done) | (simp; omega)) _))))⟩
          have hne : ∀ j, (Value.slice A q c).ownBlock ≠ some (⟨w.heap.size, j, none⟩ : Addr).block := fun j e => by
            have := (hS.own.lt _ e).1
            simp at this
            omega
          exact ownsRow_setCell_other (ownsRow_setCell_other (ownsRow_setCell_other (ownsRow_setCell_other (own_low hS.own (by omega)) (hne 0) _) (hne 1) _) (hne 2) _) (hne 3) _
end
end Go.Proofs.Ytgjpicekdbemiac
namespace Go.Proofs.Ytgjpicekdbemiac
open Go.RowKit
set_option linter.unusedVariables false
theorem rdM_nil (w : World) : RdM w none 0 [] := ⟨[], rfl, ⟨rfl, fun h => absurd h (by decide)⟩, fun j r h => by simp at h⟩
theorem shp_nil : Shp [] := ⟨Nat.zero_le _, by simp⟩
/-- The state of a draw of a branch: the cursor, the branch's box, the result's box, the branch. -/
structure Dr (w : World) (p X Y : Nat) (b : Int) (A : Option Addr) (n c : Nat) (M : List (List Dm)) (W : World) : Prop where
  cur : CurAt W p
  x : W.heap[X]? = some (.cells #[.int .i64 b, .slice A n c] 26 (0, 0))
  r : W.heap[w.heap.size]? = some (.cells #[.int .i64 0, .slice none 0 0] 26 (0, 0))
  sm : SM (fun k => k < Y ∨ k = X) W A n M
  bw : Below w.heap.size w W
  hp : w.heap.size < p
  hY : p < Y
  hX : Y ≤ X
theorem Dr.call {w W W' : World} {p X Y : Nat} {b : Int} {A : Option Addr} {n c : Nat} {M : List (List Dm)} (h : Dr w p X Y b A n c M W) (hc : CurAt W' p) (hg : W.grownBy W' (some p)) : Dr w p X Y b A n c M W' := by
  have hp := h.hp
  have hX := h.hX
  have hY := h.hY
  have hXl := lt_of_block h.x
  refine ⟨hc, (hg.block X hXl (fun e => by injection e with e; omega)).trans h.x, (hg.block _ (lt_of_block h.r) (fun e => by injection e with e; omega)).trans h.r, h.sm.near (near_grown hg (fun k e => by injection e with e; exact .inl (by omega))), ?_, hp, hY, hX⟩
  exact h.bw.grown hg h.bw.size (fun k e => by injection e with e; omega)
theorem Dr.drew {w W : World} {p X Y : Nat} {b : Int} {A : Option Addr} {n c : Nat} {M : List (List Dm)} (h : Dr w p X Y b A n c M W) : Dr w p X Y b A n c M W.drew :=
  ⟨h.cur, h.x, h.r, h.sm, h.bw.drew, h.hp, h.hY, h.hX⟩
/-- A branch that was drawn, and two numbers. -/
def DrewMb (w : World) (e : Ending) (w' : World) : Prop := ∃ (b : Int) (A : Option Addr) (n c : Nat) (M : List (List Dm)) (q bit : Int), e = .returned (.tuple #[.agg #[.int .i64 b, .slice A n c], .int .i64 q, .int .i64 bit]) ∧ RdM w' A n M ∧ Shp M ∧ Below w.heap.size w w' ∧ w.heap.size ≤ w'.heap.size
theorem Dr.done {w W : World} {p X Y : Nat} {b : Int} {A : Option Addr} {n c : Nat} {M : List (List Dm)} (h : Dr w p X Y b A n c M W) (hs : Shp M) (q bit : Int) (v0 v1 : Value) :
    DrewMb w (.returned (.tuple #[.agg #[.int .i64 b, .slice A n c], .int .i64 q, .int .i64 bit])) ((W.setCell ⟨w.heap.size, 0, none⟩ v0).setCell ⟨w.heap.size, 1, none⟩ v1) := by
  have hp := h.hp
  have hY := h.hY
  exact ⟨b, A, n, c, M, q, bit, rfl, (h.sm.near (near_set2 (C := fun k => k < Y ∨ k = X) (.inl (show w.heap.size < Y by omega)))).rd, hs, below_set2 h.bw (Nat.le_refl _), size_set2 h.bw.size⟩
theorem rd_own8 {w : World} {base E size n c : Nat} {A : Option Addr} {xs : List Value} (h : w.ownsRow base E size (.slice A n c) n xs) : Rd w size A n xs := rd_own h
end Go.Proofs.Ytgjpicekdbemiac
