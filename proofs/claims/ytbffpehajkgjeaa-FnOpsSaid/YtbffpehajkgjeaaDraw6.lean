/- Drawing lists of operations and routines. -/
import Derived.Test.YtbffpehajkgjeaaDraw5
namespace Go.Proofs.Ytbffpehajkgjeaa
open Go.RowKit
set_option linter.unusedVariables false
def DLs (w : World) (p most : Nat) (e : Ending) (w' : World) : Prop := ∃ (A : Option Addr) (n c : Nat) (L : List Opt), e = .returned (.slice A n c) ∧ L.length = n ∧ n ≤ most ∧ w'.ownsRow w.heap.size 56 8 (.slice A n c) n (L.flatMap ocells) ∧ CurAt w' p ∧ w.grownBy w' (some p)
set_option maxRecDepth 100000 in
theorem l22List_any (w : World) (p : Nat) (hcur : CurAt w p) : Calls Try.prog 75 #[.pointer (some ⟨p, 0, none⟩)] w (DLs w p 130) := by
  go_enter Try.func75, Try.ntmps75
  go_wp2_with fail
  refine (l21Bent_any 5 w p hcur (by omega)).mono ?_
  rintro e w1 ⟨N, I, B, A, n, c, L, rfl, hL, hn, own1, hc1, hg1⟩
  have hf : ∀ w, Sem.run Try.prog (Instr.field 29 (.agg #[.int .i64 N, .int .i64 I, .int .i64 B, .slice A n c]) 3) w = .ok (.slice A n c) w := fun _ => by kernel_rfl
  have HL := Lib.hid hL
  have HO := Lib.hid own1
  clear hL own1
  go_wp2_with fail
  go_ret
  exact ⟨A, n, c, L, rfl, HL.out, hn, HO.out, hc1, hg1⟩
theorem own_draw {w1 w2 : World} {B e size n p : Nat} {v : Value} {xs : List Value} (h : w1.ownsRow B e size v n xs) (hg : w1.grownBy w2 (some p)) (hp : p < B) : w2.ownsRow B e size v n xs := h.kept hg (by
  cases hk : v.ownBlock with
  | none => exact .inl rfl
  | some k =>
    refine .inr fun e => ?_
    injection e with e
    have := (h.lt k hk).1
    omega)
def DrewOps (w : World) (e : Ending) (w' : World) : Prop := ∃ (A : Option Addr) (n c : Nat) (L : List Opt) (k : Int), e = .returned (.tuple #[.slice A n c, .int .i64 k]) ∧ L.length = n ∧ n ≤ 130 ∧ w'.ownsRow w.heap.size 56 8 (.slice A n c) n (L.flatMap ocells) ∧ Below w.heap.size w w' ∧ k ≤ 9223372036854775807
set_option maxRecDepth 100000 in
set_option maxHeartbeats 1000000 in
theorem DrawRepeatOps_any (A : Option Addr) (n c : Nat) (bs : List (Fin 256)) (w : World) (h : Rd w 1 A n (bs.flatMap bcell)) (hl : bs.length = n) (hn : n ≤ 1048576) : Calls Try.prog 26 #[.slice A n c] w (DrewOps w) := by
  have H := Lib.hid h
  have HL := Lib.hid hl
  clear h hl
  go_enter Try.func26, Try.ntmps26
  go_wp2_with fail
  refine (l1New_any _ _ _ bs w H.out HL.out hn).mono ?_
  rintro e w1 ⟨p, rfl, hp1, hc1, hb1⟩
  have lp := hc1.lt
  go_wp2_with fail
  refine (l22List_any w1 p hc1).mono ?_
  rintro e w2 ⟨A2, n2, c2, L, rfl, hL, hn2, own2, hc2, hg2⟩
  have lp2 := hc2.lt
  have hb2 : Below w.heap.size w w2 := hb1.trans (below_of_only hg2 hb1.size hp1)
  have HLL := Lib.hid hL
  clear hL
  go_wp2_with fail
  obtain ⟨w3, hw3⟩ : ∃ w3, w3 = w2.alloc (.cells #[.int .i64 0, .int .i64 1, .int .i64 2, .int .i64 3, .int .i64 9, .int .i64 10, .int .i64 (-1), .int .i64 9223372036854775807] 3) := ⟨_, rfl⟩
  rw [← hw3]
  have hpk := picked (w := w2) (L := [0, 1, 2, 3, 9, 10, -1, 9223372036854775807]) rfl
  have hr3 : Rd w3 1 (some ⟨w2.heap.size, 0, none⟩) 8 (([0, 1, 2, 3, 9, 10, -1, 9223372036854775807] : List Int).map (Value.int .i64)) := by rw [hw3]; exact hpk
  have hba : Below w2.heap.size w2 w3 := by rw [hw3]; exact (by repeat (first | exact Below.refl _ _ | assumption | (refine Below.trans ?_ (Below.mono (by assumption) (by first | omega | (simp; done) | (simp; omega)))) | (with_reducible refine Below.drew ?_) | (with_reducible refine Below.alloc ?_ (by first | omega | (simp; done) | (simp; omega)) _) | (with_reducible refine Below.setCell ?_ (by first | omega | (simp; done) | (simp; omega)) _)))
  have own3 := ownsRow_below own2 hba
  have hb3 : Below w.heap.size w w3 := hb2.trans (hba.mono hb2.size)
  have hc3 := hc2.below hba
  have s3 : w2.heap.size < w3.heap.size := by rw [hw3]; simp
  clear hw3 hpk own2
  refine (l1PickInt_any w2.heap.size 8 8 [0, 1, 2, 3, 9, 10, -1, 9223372036854775807] w3 p hc3 rfl (by omega) (by omega) hr3 (by omega)).mono ?_
  rintro e w4 ⟨z, hz, rfl, hc4, hg4⟩
  have hz2 : z ≤ 9223372036854775807 := by
    simp at hz
    omega
  have own4 := own_draw own3 hg4 lp
  have hb4 : Below w.heap.size w w4 := hb3.trans (below_of_only hg4 hb3.size hp1)
  clear hz own3 hr3
  go_wp2_with fail
  go_ret2
  exact ⟨A2, n2, c2, L, z, rfl, HLL.out, hn2, own_low own4 hb1.size, hb4, hz2⟩
def DrewRt (w : World) (e : Ending) (w' : World) : Prop := ∃ (N I B : Int) (A : Option Addr) (n c : Nat) (L : List Opt), e = .returned (.agg #[.int .i64 N, .int .i64 I, .int .i64 B, .slice A n c]) ∧ L.length = n ∧ n ≤ 130 ∧ w'.ownsRow w.heap.size 56 8 (.slice A n c) n (L.flatMap ocells) ∧ Below w.heap.size w w'
set_option maxRecDepth 100000 in
set_option maxHeartbeats 1000000 in
theorem DrawIsValidRoutine_any (A : Option Addr) (n c : Nat) (bs : List (Fin 256)) (w : World) (h : Rd w 1 A n (bs.flatMap bcell)) (hl : bs.length = n) (hn : n ≤ 1048576) : Calls Try.prog 35 #[.slice A n c] w (DrewRt w) := by
  have b0 : Below w.heap.size w (w.alloc (.cells #[.int .i64 0, .int .i64 0, .int .i64 0, .slice none 0 0] 29)) := (by repeat (first | exact Below.refl _ _ | assumption | (refine Below.trans ?_ (Below.mono (by assumption) (by first | omega | (simp; done) | (simp; omega)))) | (with_reducible refine Below.drew ?_) | (with_reducible refine Below.alloc ?_ (by first | omega | (simp; done) | (simp; omega)) _) | (with_reducible refine Below.setCell ?_ (by first | omega | (simp; done) | (simp; omega)) _)))
  have H := Lib.hid (h.below b0)
  have HL := Lib.hid hl
  clear h hl b0
  go_enter Try.func35, Try.ntmps35
  go_wp2_with fail
  obtain ⟨w0, hw0⟩ : ∃ w0, w0 = w.alloc (.cells #[.int .i64 0, .int .i64 0, .int .i64 0, .slice none 0 0] 29) := ⟨_, rfl⟩
  rw [← hw0] at H ⊢
  have x0 : w0.heap[w.heap.size]? = some (.cells #[.int .i64 0, .int .i64 0, .int .i64 0, .slice none 0 0] 29 (0, 0)) := by rw [hw0]; exact boxed1_0 _ _
  have b0 : Below w.heap.size w w0 := by rw [hw0]; exact (by repeat (first | exact Below.refl _ _ | assumption | (refine Below.trans ?_ (Below.mono (by assumption) (by first | omega | (simp; done) | (simp; omega)))) | (with_reducible refine Below.drew ?_) | (with_reducible refine Below.alloc ?_ (by first | omega | (simp; done) | (simp; omega)) _) | (with_reducible refine Below.setCell ?_ (by first | omega | (simp; done) | (simp; omega)) _)))
  have s0 : w.heap.size < w0.heap.size := by rw [hw0]; simp
  clear hw0
  refine (l1New_any _ _ _ bs w0 H.out HL.out hn).mono ?_
  rintro e w1 ⟨p, rfl, hp1, hc1, hb1⟩
  have lp := hc1.lt
  have s1 := hb1.size
  have x1 := (hb1.block _ s0).trans x0
  have X1 := Lib.hid x1
  clear x0 x1
  go_wp2_with fail
  refine (l21Bent_any 8 w1 p hc1 (by omega)).mono ?_
  rintro e w2 ⟨N, I, B, A2, n2, c2, L, rfl, hL, hn2, own2, hc2, hg2⟩
  have x2 := box_call X1.out hg2 (by omega)
  have hb2 : Below w.heap.size w w2 := (b0.trans (hb1.mono (by omega))).trans (below_of_only hg2 (by omega) (by omega))
  have HLL := Lib.hid hL
  obtain ⟨q0, q1, q2, q3⟩ := boxcells4 (lay := Below.refl _ _) x2
  have f0 := free_at (j := 0) x2
  have f1 := free_at (j := 1) x2
  have f2 := free_at (j := 2) x2
  have f3 := free_at (j := 3) x2
  have l2 := lt_of_block x2
  have HO := Lib.hid own2
  clear hL X1 x2 own2
  go_wp2_with fail
  refine bodyPost_ret (v := .agg #[.int .i64 N, .int .i64 I, .int .i64 B, .slice A2 n2 c2]) (by simp [results, Try.results35, go_sem, q0, q1, q2, q3]) rfl ⟨N, I, B, A2, n2, c2, L, rfl, HLL.out, hn2, ?_, (by repeat (first | exact Below.refl _ _ | assumption | (refine Below.trans ?_ (Below.mono (by assumption) (by first | omega | (simp; done) | (simp; omega)))) | (with_reducible refine Below.drew ?_) | (with_reducible refine Below.alloc ?_ (by first | omega | (simp; done) | (simp; omega)) _) | (with_reducible refine Below.setCell ?_ (by first | omega | (simp; done) | (simp; omega)) _)))⟩
  have hne : ∀ j, (Value.slice A2 n2 c2).ownBlock ≠ some (⟨w.heap.size, j, none⟩ : Addr).block := fun j e => by
    have := (HO.out.lt _ e).1
    simp at this
    omega
  exact ownsRow_setCell_other (ownsRow_setCell_other (ownsRow_setCell_other (ownsRow_setCell_other (own_low HO.out (by omega)) (hne 0) _) (hne 1) _) (hne 2) _) (hne 3) _
end Go.Proofs.Ytbffpehajkgjeaa
