/- The cursor that the laws draw from: every draw returns, within its bounds, and writes nothing but the cursor. -/
import Derived.Test.YtgjpicekdbemiaaProg
import Derived.Test.YtgjpicekdbemiaaAppend
namespace Go.Proofs.Ytgjpicekdbemiaa
open Go.RowKit
set_option linter.unusedVariables false
def bcell (x : Fin 256) : List Value := [.int .u8 (x.val : Int)]
theorem bcell_len (x : Fin 256) : (bcell x).length = 1 := rfl
/-- Block p is a cursor over bytes that lie elsewhere. -/
def CurAt (w : World) (p : Nat) : Prop := ∃ (A : Option Addr) (n c : Nat) (bs : List (Fin 256)) (i : Nat) (h : Int),
  w.heap[p]? = some (.cells #[.slice A n c, .int .i64 i, .int .i64 h] 59 (0, 0)) ∧ bs.length = n ∧ Rd w 1 A n (bs.flatMap bcell) ∧ (0 < n → ∀ ad, A = some ad → ad.block < p) ∧ i ≤ n ∧ n ≤ 1048576
theorem CurAt.lt {w : World} {p : Nat} (h : CurAt w p) : p < w.heap.size := by
  obtain ⟨_, _, _, _, _, _, h, _⟩ := h
  exact lt_of_block h
theorem CurAt.kept {w w' : World} {p : Nat} (h : CurAt w p) (hb : ∀ k, k ≤ p → w'.heap[k]? = w.heap[k]?) (hs : w.heap.size ≤ w'.heap.size) : CurAt w' p := by
  obtain ⟨A, n, c, bs, i, h, h1, h2, h3, h4, h5⟩ := h
  refine ⟨A, n, c, bs, i, h, (hb p (Nat.le_refl _)).trans h1, h2, ⟨h3.1, fun h0 => ?_⟩, h4, h5⟩
  obtain ⟨b, off, e, hl, hc⟩ := h3.2 h0
  refine ⟨b, off, e, Nat.lt_of_lt_of_le hl hs, fun j u hu => ?_⟩
  rw [← hc j u hu]
  have hk := hb b (Nat.le_of_lt (h4 h0 _ e))
  simp [World.cell?, hk]
theorem CurAt.below {w w' : World} {p : Nat} (h : CurAt w p) (hb : Below w.heap.size w w') : CurAt w' p := h.kept (fun k hk => hb.block k (Nat.lt_of_le_of_lt hk h.lt)) hb.size
theorem CurAt.grown {w w' : World} {p : Nat} {row : Option Nat} (h : CurAt w p) (hg : w.grownBy w' row) (hr : ∀ k, row = some k → p < k) : CurAt w' p :=
  h.kept (fun k hk => hg.block k (Nat.lt_of_le_of_lt hk h.lt) (by
    intro e
    have h1 := hr _ e.symm
    omega)) hg.size
def DI (w : World) (p : Nat) (lo hi : Int) (e : Ending) (w' : World) : Prop := ∃ x : Int, lo ≤ x ∧ x ≤ hi ∧ e = .returned (.int .i64 x) ∧ CurAt w' p ∧ w.grownBy w' (some p)
def DB (w : World) (p : Nat) (e : Ending) (w' : World) : Prop := ∃ x : Bool, e = .returned (.bool x) ∧ CurAt w' p ∧ w.grownBy w' (some p)
def DL (L : List Int) (w : World) (p : Nat) (e : Ending) (w' : World) : Prop := ∃ x : Int, x ∈ L ∧ e = .returned (.int .i64 x) ∧ CurAt w' p ∧ w.grownBy w' (some p)
theorem and255 (x : Int) : 0 ≤ bits .and .i64 x 255 ∧ bits .and .i64 x 255 ≤ 255 := by
  have h : (BitVec.ofInt 64 x &&& BitVec.ofInt 64 255).toNat ≤ 255 := by
    rw [BitVec.toNat_and]
    exact Nat.le_trans Nat.and_le_right (by decide)
  have e : bits .and .i64 x 255 = IntKind.i64.wrap ((BitVec.ofInt 64 x &&& BitVec.ofInt 64 255).toNat : Int) := rfl
  rw [e, IntWalk.i64_in _ (by omega)]
  omega
theorem only_drewN {a w : World} {row : Option Nat} (h : a.grownBy w row) (n : Nat) : a.grownBy (w.drewN n) row := ⟨h.os, h.tape, h.output, h.size, h.block⟩
theorem only_setCell {a w : World} {g : Nat} (h : a.grownBy w (some g)) {p : Addr} (hp : p.block = g) (u : Value) : a.grownBy (w.setCell p u) (some g) :=
  ⟨h.os, h.tape, h.output, by simpa [World.setCell] using h.size, fun i hi hne => (Below.heap_setCell w p u i (by
    rintro rfl
    exact hne (by rw [hp]))).trans (h.block i hi hne)⟩
theorem only_of_below {a w : World} (h : Below a.heap.size a w) (row : Option Nat) : a.grownBy w row := ⟨h.os, h.tape, h.output, h.size, fun i hi _ => h.block i hi⟩
theorem below_of_only {a w : World} {B p : Nat} (h : a.grownBy w (some p)) (hB : B ≤ a.heap.size) (hp : B ≤ p) : Below B a w := ⟨h.os, h.tape, h.output, h.size, fun i hi => h.block i (by omega) (by intro e; injection e with e; omega)⟩
/-- The cursor behind the stores of one draw. -/
theorem cur_stored {w w' : World} {p : Nat} {A : Option Addr} {n c : Nat} {bs : List (Fin 256)} {i' : Nat} {h' : Int} (hg : w.grownBy w' (some p)) (hp : p < w.heap.size)
    (h1 : w'.heap[p]? = some (.cells #[.slice A n c, .int .i64 i', .int .i64 h'] 59 (0, 0))) (h2 : bs.length = n) (h3 : Rd w 1 A n (bs.flatMap bcell)) (h4 : 0 < n → ∀ ad, A = some ad → ad.block < p) (h5 : i' ≤ n) (h6 : n ≤ 1048576) : CurAt w' p := by
  refine ⟨A, n, c, bs, i', h', h1, h2, ⟨h3.1, fun h0 => ?_⟩, h4, h5, h6⟩
  obtain ⟨b, off, e, hl, hc⟩ := h3.2 h0
  refine ⟨b, off, e, Nat.lt_of_lt_of_le hl hg.size, fun j u hu => ?_⟩
  have hne := h4 h0 _ e
  rw [← hc j u hu]
  have hk := hg.block b hl (by
    intro e1
    injection e1 with e1
    simp only at hne
    omega)
  simp [World.cell?, hk]
set_option maxRecDepth 100000 in
set_option maxHeartbeats 2000000 in
theorem l1Byte_any (w : World) (p : Nat) (hcur : CurAt w p) : Calls Try.prog 44 #[.pointer (some ⟨p, 0, none⟩)] w (DI w p 0 255) := by
  have hp := hcur.lt
  obtain ⟨A, n, c, bs, i, h, h1, h2, h3, h4, h5, h6⟩ := hcur
  have p0 := cell_at (j := 0) h1 rfl
  have p1 := cell_at (j := 1) h1 rfl
  have p2 := cell_at (j := 2) h1 rfl
  have f2 : w.frozen? ⟨p, 2, none⟩ = false := by simp [World.frozen?, h1]
  have H1 := Lib.hid h1
  have H2 := Lib.hid h2
  have H3 := Lib.hid h3
  have H4 := Lib.hid h4
  clear h1 h2 h3 h4
  go_enter Try.func44, Try.ntmps44
  go_wp2
  obtain ⟨w1, hw1⟩ : ∃ w1, w1 = w.setCell ⟨p, 2, none⟩ (.int .i64 (wrap64 (wrap64 (h * 6364136223846793005) + 1442695040888963407))) := ⟨_, rfl⟩
  rw [← hw1]
  obtain ⟨h', hh'⟩ : ∃ h', h' = wrap64 (wrap64 (h * 6364136223846793005) + 1442695040888963407) := ⟨_, rfl⟩
  rw [← hh'] at hw1 ⊢
  have g1 : w.grownBy w1 (some p) := by rw [hw1]; exact only_setCell (World.grownBy.refl w _) rfl _
  have x1 : w1.heap[p]? = some (.cells #[.slice A n c, .int .i64 i, .int .i64 h'] 59 (0, 0)) := by rw [hw1, heap_setCell_same _ _ _ _ _ _ H1.out]; rfl
  clear hw1 hh' p0 p1 p2 f2
  have p0 := cell_at (j := 0) x1 rfl
  have p1 := cell_at (j := 1) x1 rfl
  have p2 := cell_at (j := 2) x1 rfl
  have f1 : w1.frozen? ⟨p, 1, none⟩ = false := by simp [World.frozen?, x1]
  have X1 := Lib.hid x1
  clear x1
  by_cases hin : i < n
  · obtain ⟨x, hx⟩ : ∃ x, bs[i]? = some x := ⟨_, List.getElem?_eq_getElem (by rw [H2.out]; exact hin)⟩
    obtain ⟨b, off, rfl, hbl, hc⟩ := H3.out.2 (by omega)
    have hbp : b < p := H4.out (by omega) _ rfl
    have q0 : w1.cell? ⟨b, off + i, none⟩ = some (.int .u8 (x.val : Int)) := by
      have h := hc (i * 1 + 0) _ (flat_at bcell_len bs i x 0 hx (by decide))
      have hk := g1.block b hbl (by
        intro e
        injection e with e
        omega)
      simpa [World.cell?, hk] using h
    have hx2 := x.isLt
    clear hc hx
    go_quiet (fail)
    go_wp2_with fail
    go_quiet (fail)
    go_wp2_with fail
    go_quiet (fail)
    go_wp2_with fail
    go_ret
    have g2 : ∀ k, w.grownBy ((w1.drewN k).setCell ⟨p, 1, none⟩ (.int .i64 ((i : Int) + 1))) (some p) := fun k => only_setCell (only_drewN g1 k) rfl _
    refine ⟨_, (and255 _).1, (and255 _).2, rfl, cur_stored (i' := i + 1) (h' := h') (c := c) (g2 _) hp ?_ H2.out H3.out H4.out (by omega) h6, g2 _⟩
    rw [heap_setCell_same _ _ _ _ _ _ (show (w1.drewN _).heap[p]? = some (.cells #[.slice (some ⟨b, off, none⟩) n c, .int .i64 i, .int .i64 h'] 59 (0, 0)) from X1.out)]
    rfl
  · go_quiet (fail)
    go_wp2_with fail
    go_quiet (fail)
    go_wp2_with fail
    go_ret
    have g2 : ∀ k l, w.grownBy ((w1.drewN k).drewN l) (some p) := fun k l => only_drewN (only_drewN g1 k) l
    exact ⟨_, (and255 _).1, (and255 _).2, rfl, cur_stored (i' := i) (h' := h') (c := c) (g2 _ _) hp X1.out H2.out H3.out H4.out (by omega) h6, g2 _ _⟩
set_option maxRecDepth 100000 in
set_option maxHeartbeats 2000000 in
theorem l1Below_any (n hi : Int) (w : World) (p : Nat) (hcur : CurAt w p) (h0 : 0 ≤ hi) (hn : n ≤ hi + 1) (hm : n ≤ 9223372036854775807) : Calls Try.prog 24 #[.pointer (some ⟨p, 0, none⟩), .int .i64 n] w (DI w p 0 hi) := by
  by_cases h1 : n ≤ 0
  · go_enter Try.func24, Try.ntmps24
    go_wp2_with fail
    go_ret
    exact ⟨0, by omega, h0, rfl, hcur, World.grownBy.refl w _⟩
  by_cases h2 : n ≤ 256
  · go_enter Try.func24, Try.ntmps24
    go_wp2_with fail
    refine (l1Byte_any w p hcur).mono ?_
    rintro e w1 ⟨x, hx0, hx1, rfl, hc1, hg1⟩
    go_wp2_with fail
    go_ret
    exact ⟨x % n, Int.emod_nonneg _ (by omega), by have := Int.emod_lt_of_pos x (show 0 < n by omega); omega, rfl, hc1, hg1⟩
  · go_enter Try.func24, Try.ntmps24
    go_wp2_with fail
    refine (l1Byte_any w p hcur).mono ?_
    rintro e w1 ⟨x, hx0, hx1, rfl, hc1, hg1⟩
    go_wp2_with fail
    refine (l1Byte_any w1 p hc1).mono ?_
    rintro e w2 ⟨y, hy0, hy1, rfl, hc2, hg2⟩
    go_wp2_with fail
    refine (l1Byte_any w2 p hc2).mono ?_
    rintro e w3 ⟨z, hz0, hz1, rfl, hc3, hg3⟩
    go_wp2_with fail
    refine (l1Byte_any w3 p hc3).mono ?_
    rintro e w4 ⟨u, hu0, hu1, rfl, hc4, hg4⟩
    go_wp2_with fail
    go_ret
    exact ⟨(x * 16777216 + y * 65536 + z * 256 + u) % n, Int.emod_nonneg _ (by omega), by have := Int.emod_lt_of_pos (x * 16777216 + y * 65536 + z * 256 + u) (show 0 < n by omega); omega, rfl, hc4, ((hg1.trans hg2).trans hg3).trans hg4⟩
set_option maxRecDepth 100000 in
theorem l1Once_any (n : Int) (w : World) (p : Nat) (hcur : CurAt w p) (hm0 : -9223372036854775808 ≤ n) (hm : n ≤ 9223372036854775807) : Calls Try.prog 28 #[.pointer (some ⟨p, 0, none⟩), .int .i64 n] w (DB w p) := by
  go_enter Try.func28, Try.ntmps28
  go_wp2_with fail
  refine (l1Below_any n 9223372036854775807 w p hcur (by omega) (by omega) hm).mono ?_
  rintro e w1 ⟨x, hx0, hx1, rfl, hc1, hg1⟩
  go_wp2_with fail
  go_ret
  exact ⟨_, rfl, hc1, hg1⟩
theorem grown_rd {w w' : World} {p size n : Nat} {A : Option Addr} {xs : List Value} (h : Rd w size A n xs) (hg : w.grownBy w' (some p)) (hne : 0 < n → ∀ ad, A = some ad → ad.block ≠ p) : Rd w' size A n xs :=
  ⟨h.1, fun h0 => by
    obtain ⟨b, off, e, hl, hc⟩ := h.2 h0
    refine ⟨b, off, e, Nat.lt_of_lt_of_le hl hg.size, fun j u hu => ?_⟩
    rw [← hc j u hu]
    have hne' := hne h0 _ e
    have hk := hg.block b hl (by
      intro e1
      injection e1 with e1
      exact hne' e1)
    simp [World.cell?, hk]⟩
set_option maxRecDepth 100000 in
set_option maxHeartbeats 1000000 in
theorem l1PickInt_any (b k c : Nat) (L : List Int) (w : World) (p : Nat) (hcur : CurAt w p) (hL : L.length = k) (hk : 0 < k) (hk2 : k ≤ 1000) (hr : Rd w 1 (some ⟨b, 0, none⟩) k (L.map (Value.int .i64))) (hne : b ≠ p) : Calls Try.prog 25 #[.pointer (some ⟨p, 0, none⟩), .slice (some ⟨b, 0, none⟩) k c] w (DL L w p) := by
  have HL := Lib.hid hL
  have HR := Lib.hid hr
  clear hL hr
  go_enter Try.func25, Try.ntmps25
  go_wp2_with fail
  refine (l1Below_any k (k - 1) w p hcur (by omega) (by omega) (by omega)).mono ?_
  rintro e w1 ⟨x, hx0, hx1, rfl, hc1, hg1⟩
  obtain ⟨j, rfl⟩ : ∃ j : Nat, x = j := ⟨x.toNat, by omega⟩
  have hjk : j < k := by omega
  obtain ⟨y, hy⟩ : ∃ y, L[j]? = some y := ⟨_, List.getElem?_eq_getElem (by rw [HL.out]; exact hjk)⟩
  have hq : w1.cell? ⟨b, j, none⟩ = some (.int .i64 y) := by
    obtain ⟨b', off, e, hl, hc⟩ := (grown_rd HR.out hg1 (fun _ ad e => by cases e; exact hne)).2 hk
    injection e with e
    injection e with e1 e2
    subst e1 e2
    have := hc j (.int .i64 y) (by simp [hy])
    simpa using this
  have HY := Lib.hid (List.mem_of_getElem? hy)
  clear hy
  go_wp2_with fail
  go_ret
  exact ⟨y, HY.out, rfl, hc1, hg1⟩
def NewCur (w : World) (e : Ending) (w' : World) : Prop := ∃ p, e = .returned (.pointer (some ⟨p, 0, none⟩)) ∧ w.heap.size ≤ p ∧ CurAt w' p ∧ Below w.heap.size w w'
theorem new_cur {w : World} {A : Option Addr} {n c : Nat} {bs : List (Fin 256)} {h : Int} (hr : Rd w 1 A n (bs.flatMap bcell)) (hl : bs.length = n) (hn : n ≤ 1048576) :
    NewCur w (.returned (.pointer (some ⟨w.heap.size, 0, none⟩))) (w.alloc (.cells #[.slice A n c, .int .i64 0, .int .i64 h] 59)) := by
  have hb : Below w.heap.size w (w.alloc (.cells #[.slice A n c, .int .i64 0, .int .i64 h] 59)) := (by repeat (first | exact Below.refl _ _ | assumption | (refine Below.trans ?_ (Below.mono (by assumption) (by first | omega | (simp; done) | (simp; omega)))) | (with_reducible refine Below.drew ?_) | (with_reducible refine Below.alloc ?_ (by first | omega | (simp; done) | (simp; omega)) _) | (with_reducible refine Below.setCell ?_ (by first | omega | (simp; done) | (simp; omega)) _)))
  refine ⟨w.heap.size, rfl, Nat.le_refl _, ⟨A, n, c, bs, 0, h, heap_alloc_new w _, hl, hr.below hb, fun h0 ad e => ?_, Nat.zero_le _, hn⟩, hb⟩
  obtain ⟨b, off, e', hlt, _⟩ := hr.2 h0
  rw [e] at e'
  injection e' with e'
  rw [e']
  exact hlt
set_option maxRecDepth 100000 in
set_option maxHeartbeats 1000000 in
theorem l1New_any (A : Option Addr) (n c : Nat) (bs : List (Fin 256)) (w : World) (h : Rd w 1 A n (bs.flatMap bcell)) (hl : bs.length = n) (hn : n ≤ 1048576) : Calls Try.prog 13 #[.slice A n c] w (NewCur w) := by
  have H := Lib.hid h
  have HL := Lib.hid hl
  clear h hl
  go_enter Try.func13, Try.ntmps13
  go_wp2_with fail
  go_loop [3, 4] (fun s i => ∃ (t : Nat) (h : Int), t ≤ n ∧ i = .int .i64 t ∧ s = .int .i64 h) (fun _ i => n - (intOf i).toNat)
  case atStart => exact ⟨0, _, Nat.zero_le _, rfl, rfl⟩
  case round =>
    obtain ⟨t, h, ht, rfl, rfl⟩ := hrel
    by_cases hlt : t < n
    · by_cases h4 : t < 4000
      · obtain ⟨x, hx⟩ : ∃ x, bs[t]? = some x := ⟨_, List.getElem?_eq_getElem (by rw [HL.out]; exact hlt)⟩
        obtain ⟨b, off, rfl, hbl, hc⟩ := H.out.2 (by omega)
        have q0 : w.cell? ⟨b, off + t, none⟩ = some (.int .u8 (x.val : Int)) := by
          have := hc (t * 1 + 0) _ (flat_at bcell_len bs t x 0 hx (by decide))
          simpa using this
        have hx2 := x.isLt
        clear hc hx
        go_wp2_with fail
        go_round
        case rel => exact ⟨t + 1, _, by omega, by go_num, rfl⟩
        case measure => simp [intOf]; omega
      · go_wp2_with fail
        go_ret
        exact new_cur H.out HL.out hn
    · go_wp2_with fail
      go_ret
      exact new_cur H.out HL.out hn
end Go.Proofs.Ytgjpicekdbemiaa
