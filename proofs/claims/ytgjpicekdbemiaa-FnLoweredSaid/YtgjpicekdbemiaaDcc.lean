/- Drawing circuits and lists of gates: the draw returns, writes nothing but the cursor, and what comes back has few gates that are not X. -/
import Derived.Test.YtgjpicekdbemiaaDraw3
import Derived.Test.YtgjpicekdbemiaaGpD
import Derived.Test.YtgjpicekdbemiaaDwU
namespace Go.Proofs.Ytgjpicekdbemiaa
open Go.RowKit
set_option linter.unusedVariables false
def appSemC (ts : Array TypeId) (ty : TypeId) (args : Array Value) : Sem Value := Builtin.append_ ts ty args
theorem fold_appendC (ts : Array TypeId) (ty : TypeId) (args : Array Value) : Builtin.append_ ts ty args = appSemC ts ty args := rfl
theorem info_GateC : (Try.prog.info? 30).map (fun i => (i.zero, i.size, i.bytes)) = some (some (.agg #[.int .i64 0, .int .i64 0, .int .i64 0, .int .i64 0]), 4, 32) := by kernel_rfl
theorem glen_C (x : Gt) : (gcells x).length = 4 := rfl
theorem hc_le2 (g : Gt) : hc g ≤ 2 := by
  unfold hc
  split
  · omega
  · split
    · omega
    · split <;> omega
theorem hcs_snoc (L : List Gt) (g : Gt) : hcs (L ++ [g]) = hcs L + hc g := by simp [hcs]
theorem hcs_nil : hcs [] = 0 := rfl
theorem boxC2 {w : World} {b : Nat} {x0 x1 : Value} {t : TypeId} (h : w.heap[b]? = some (.cells #[x0, x1] t (0, 0))) : w.cell? ⟨b, 0, none⟩ = some x0 ∧ w.cell? ⟨b, 1, none⟩ = some x1 :=
  ⟨cell_at (j := 0) h rfl, cell_at (j := 1) h rfl⟩
/-- The state of a drawing of a circuit: the box of the result, the circuit's own box X, its list. -/
structure Sc (w : World) (p X : Nat) (N : Int) (A : Option Addr) (q c : Nat) (L : List Gt) (wk : World) : Prop where
  fr : Fr w p wk
  x4 : wk.heap[w.heap.size]? = some (.cells #[.int .i64 0, .slice none 0 0] 35 (0, 0))
  x : wk.heap[X]? = some (.cells #[.int .i64 N, .slice A q c] 35 (0, 0))
  own : wk.ownsRow (w.heap.size + 1) 30 4 (.slice A q c) q (L.flatMap gcells)
  hp : p < w.heap.size
  hX : w.heap.size < X
  nX : (Value.slice A q c).ownBlock ≠ some X
theorem Sc.lt {w wk : World} {p X q c : Nat} {N : Int} {A : Option Addr} {L : List Gt} (h : Sc w p X N A q c L wk) : X < wk.heap.size := lt_of_block h.x
theorem Sc.len {w wk : World} {p X q c : Nat} {N : Int} {A : Option Addr} {L : List Gt} (h : Sc w p X N A q c L wk) : L.length = q := by
  have h1 := h.own.1
  rw [flat_length gcells 4 glen_C] at h1
  omega
theorem Sc.call {w wk w2 : World} {p X q c : Nat} {N : Int} {A : Option Addr} {L : List Gt} (h : Sc w p X N A q c L wk) (hc : CurAt w2 p) (hg : wk.grownBy w2 (some p)) : Sc w p X N A q c L w2 :=
  ⟨h.fr.call hc hg, box_call h.x4 hg (by have := h.hp; omega), box_call h.x hg (by have := h.hp; have := h.hX; omega), h.own.kept hg (by
    cases hk : (Value.slice A q c).ownBlock with
    | none => exact .inl rfl
    | some k =>
      refine .inr fun e => ?_
      injection e with e
      have h1 := (h.own.lt k hk).1
      have := h.hp
      omega), h.hp, h.hX, h.nX⟩
theorem Sc.alloc {w wk : World} {p X q c : Nat} {N : Int} {A : Option Addr} {L : List Gt} (h : Sc w p X N A q c L wk) (ob : Obj) : Sc w p X N A q c L (wk.alloc ob) :=
  ⟨h.fr.alloc ob, (Below.heap_alloc _ _ _ (lt_of_block h.x4)).trans h.x4, (Below.heap_alloc _ _ _ h.lt).trans h.x, h.own.alloc ob, h.hp, h.hX, h.nX⟩
theorem Sc.drew {w wk : World} {p X q c : Nat} {N : Int} {A : Option Addr} {L : List Gt} (h : Sc w p X N A q c L wk) : Sc w p X N A q c L wk.drew :=
  ⟨⟨h.fr.cur, ⟨h.fr.gr.os, h.fr.gr.tape, h.fr.gr.output, h.fr.gr.size, h.fr.gr.block⟩⟩, h.x4, h.x, h.own, h.hp, h.hX, h.nX⟩
theorem Sc.setN {w wk : World} {p X q c : Nat} {N : Int} {A : Option Addr} {L : List Gt} (h : Sc w p X N A q c L wk) (N' : Int) : Sc w p X N' A q c L (wk.setCell ⟨X, 0, none⟩ (.int .i64 N')) :=
  ⟨h.fr.set h.hp (by have := h.hX; simp; omega) _, (Below.heap_setCell _ _ _ _ (by have := h.hX; simp; omega)).trans h.x4, by rw [heap_setCell_same _ _ _ _ _ _ h.x]; rfl, ownsRow_setCell_other h.own h.nX _, h.hp, h.hX, h.nX⟩
/-- What lies there behind 'append' ahead of the store. -/
theorem Sc.app {w wk w3 : World} {p X q c : Nat} {N : Int} {A : Option Addr} {L : List Gt} {ob : Obj} (h : Sc w p X N A q c L wk) (hg : (wk.alloc ob).grownBy w3 (Value.slice A q c).ownBlock) :
    w3.heap[X]? = some (.cells #[.int .i64 N, .slice A q c] 35 (0, 0)) ∧ w3.heap[w.heap.size]? = some (.cells #[.int .i64 0, .slice none 0 0] 35 (0, 0)) ∧ Fr w p w3 := by
  have h1 := (h.alloc ob)
  have hX := h.hX
  refine ⟨?_, ?_, h1.fr.own h.hp hg (fun k hk => by have := (h.own.lt k hk).1; omega)⟩
  · rw [hg.block X h1.lt (fun e => h.nX e.symm)]
    exact h1.x
  · rw [hg.block w.heap.size (lt_of_block h1.x4) (fun e => by have := (h.own.lt _ e.symm).1; omega)]
    exact h1.x4
theorem Sc.push {w wk w3 : World} {p X q c c3 : Nat} {N : Int} {A A3 : Option Addr} {L : List Gt} {o : Gt} {ob : Obj} (h : Sc w p X N A q c L wk) (hg : (wk.alloc ob).grownBy w3 (Value.slice A q c).ownBlock)
    (h3 : w3.ownsRow (w.heap.size + 1) 30 4 (.slice A3 (q + 1) c3) (q + 1) (L.flatMap gcells ++ gcells o))
    (hat : (Value.slice A3 (q + 1) c3).ownBlock = (Value.slice A q c).ownBlock ∨ ∃ k, X < k ∧ (Value.slice A3 (q + 1) c3).ownBlock = some k) : Sc w p X N A3 (q + 1) c3 (L ++ [o]) (w3.setCell ⟨X, 1, none⟩ (.slice A3 (q + 1) c3)) := by
  obtain ⟨h1, h2, h4⟩ := h.app hg
  have hX := h.hX
  have hlt := h.lt
  have hn : (Value.slice A3 (q + 1) c3).ownBlock ≠ some X := by
    rcases hat with hat | ⟨k, hk, hat⟩
    · rw [hat]; exact h.nX
    · rw [hat]
      intro e
      injection e with e
      omega
  refine ⟨h4.set h.hp (by simp; omega) _, (Below.heap_setCell _ _ _ _ (by simp; omega)).trans h2, by rw [heap_setCell_same _ _ _ _ _ _ h1]; rfl, ?_, h.hp, h.hX, hn⟩
  rw [List.flatMap_append, show [o].flatMap gcells = gcells o by simp]
  exact ownsRow_setCell_other h3 hn _
theorem l9Gate_intC (N : Int) (w : World) (p : Nat) (hcur : CurAt w p) (h1 : 1 ≤ N) (h4 : N ≤ 4) : Calls Try.prog 43 #[.pointer (some ⟨p, 0, none⟩), .int .i64 N] w (DG w p) := by
  obtain ⟨n, rfl⟩ : ∃ n : Nat, N = n := ⟨N.toNat, by omega⟩
  exact l9Gate_any n w p hcur (by omega) (by omega)
theorem l9Bent_intC (N : Int) (w : World) (p : Nat) (hcur : CurAt w p) (h1 : 1 ≤ N) (h4 : N ≤ 4) : Calls Try.prog 26 #[.pointer (some ⟨p, 0, none⟩), .int .i64 N] w (DG w p) := by
  obtain ⟨n, rfl⟩ : ∃ n : Nat, N = n := ⟨N.toNat, by omega⟩
  exact l9Bent_any n w p hcur (by omega) (by omega)
theorem own_lowC {w : World} {B B' e size n : Nat} {v : Value} {xs : List Value} (h : w.ownsRow B e size v n xs) (hB : B' ≤ B) : w.ownsRow B' e size v n xs := by
  refine ⟨h.1, ?_⟩
  rcases h.2 with h2 | ⟨g, cap, cur, h1, h2, h3⟩
  · exact .inl h2
  · exact .inr ⟨g, cap, cur, h1, Nat.le_trans hB h2, h3⟩
/-- The drawn circuit. -/
def DC (w : World) (p most mh : Nat) (e : Ending) (w' : World) : Prop := ∃ (N : Int) (A : Option Addr) (n c : Nat) (L : List Gt), e = .returned (.agg #[.int .i64 N, .slice A n c]) ∧
  L.length = n ∧ n ≤ most ∧ hcs L ≤ mh ∧ w'.ownsRow w.heap.size 30 4 (.slice A n c) n (L.flatMap gcells) ∧ CurAt w' p ∧ w.grownBy w' (some p)
def DCr (w : World) (p most mh : Nat) (N : Int) (e : Ending) (w' : World) : Prop := ∃ (A : Option Addr) (n c : Nat) (L : List Gt), e = .returned (.agg #[.int .i64 N, .slice A n c]) ∧
  L.length = n ∧ n ≤ most ∧ hcs L ≤ mh ∧ w'.ownsRow w.heap.size 30 4 (.slice A n c) n (L.flatMap gcells) ∧ CurAt w' p ∧ w.grownBy w' (some p)
section
attribute [local go_sem ↓ high] fold_appendC
set_option maxRecDepth 100000 in
set_option maxHeartbeats 8000000 in
theorem l11Right_any (N : Int) (most : Nat) (w : World) (p : Nat) (hcur : CurAt w p) (hm : most ≤ 100) (hN1 : 1 ≤ N) (hN4 : N ≤ 4) : Calls Try.prog 23 #[.pointer (some ⟨p, 0, none⟩), .int .i64 N, .int .i64 most] w (DCr w p most (2 * most) N) := by
  obtain ⟨i0, hi, hz0, hz1, hz2⟩ := info_parts info_GateC
  have hp := hcur.lt
  have st : Sc w p (w.heap.size + 1) N none 0 0 [] ((w.alloc (.cells #[.int .i64 0, .slice none 0 0] 35)).alloc (.cells #[.int .i64 N, .slice none 0 0] 35)) :=
    ⟨((Fr.start hcur).alloc _).alloc _, boxed2_0 _ _ _, boxed2_1 _ _ _, World.ownsRow_nil _ _ _ _, hp, by omega, by simp [Value.ownBlock]⟩
  go_enter Try.func23, Try.ntmps23
  go_upto_region 2 with (fail)
  obtain ⟨X, hX⟩ : ∃ X, X = w.heap.size + 1 := ⟨_, rfl⟩
  rw [← hX] at st ⊢
  obtain ⟨w0, hw0⟩ : ∃ w0, w0 = (w.alloc (.cells #[.int .i64 0, .slice none 0 0] 35)).alloc (.cells #[.int .i64 N, .slice none 0 0] 35) := ⟨_, rfl⟩
  rw [← hw0] at st ⊢
  clear hw0 hX
  go_wp2_with fail
  refine (l1Below_any (most + 1) most w0 p st.fr.cur (by omega) (by omega) (by omega)).mono ?_
  rintro e w1 ⟨mm, hm0, hm1, rfl, hc1, hg1⟩
  obtain ⟨m, rfl⟩ : ∃ m : Nat, mm = m := ⟨mm.toNat, by omega⟩
  have st1 := st.call hc1 hg1
  clear hc1 hg1 st
  go_wp2_with fail
  go_loopw [9] (fun i wr => ∃ (t : Nat) (A : Option Addr) (q c : Nat) (L : List Gt), t ≤ m ∧ i = .int .i64 t ∧ q ≤ t ∧ hcs L ≤ 2 * q ∧ Sc w p X N A q c L wr) (fun i _ => m - (intOf i).toNat)
  case atStart => exact ⟨0, none, 0, 0, [], Nat.zero_le _, rfl, Nat.le_refl _, Nat.le_refl _, st1⟩
  case round =>
    clear st1
    obtain ⟨t, A, q, c, L, ht, rfl, hq, hh, S0⟩ := hrel
    obtain ⟨wE, rfl⟩ : ∃ wE : World, wE = wr := ⟨_, rfl⟩
    by_cases hlt : t < m
    · obtain ⟨r0, r1⟩ := boxC2 S0.x
      have g1 := free_at (j := 1) S0.x
      have lX := S0.lt
      have HS := Lib.hid S0
      have HH := Lib.hid hh
      have SD := S0.drew
      clear S0 hh
      go_upto_region 6 with (fail)
      go_region_with (go_at_call 43; (with_reducible refine (l9Gate_intC N _ p SD.fr.cur hN1 hN4).mono ?_); rintro e w2 ⟨gk, ga, gb, gc, rfl, hc2, hg2⟩; have S2 := SD.call hc2 hg2; have lX2 := S2.lt; obtain ⟨k0, k1⟩ := boxC2 S2.x; obtain ⟨v3, w3, hrun3, hown3, hgrow3, hat3⟩ := run_append_rd (P := Try.prog) (w2.alloc (.cells #[.int .i64 gk, .int .i64 ga, .int .i64 gb, .int .i64 gc] 30)) (w.heap.size + 1) 24 24 30 i0 _ 4 32 Try.underlying24 hi hz0 hz1 hz2 rfl (by omega) (.slice A q c) q (L.flatMap gcells) (S2.own.alloc _) (some ⟨w2.heap.size, 0, none⟩) 1 1 [.int .i64 gk, .int .i64 ga, .int .i64 gb, .int .i64 gc] (rd_lit1 rfl rfl) (by simp [Value.oneCell']) (by simp only [maxLen]; omega) (by omega) (by have := S2.lt; have := S2.hX; simp; omega); rw [fold_appendC] at hrun3; obtain ⟨A3, c3, rfl, _, _, _⟩ := rd_of_own hown3; obtain ⟨a1, a2, a3⟩ := S2.app hgrow3; obtain ⟨s0, s1⟩ := boxC2 a1; have u3 := free_at (j := 1) a1; have HP := Lib.hid (S2.push (o := ⟨gk, ga, gb, gc⟩) hgrow3 hown3 (hat3.imp id fun h => ⟨_, by simp; omega, h⟩)); clear a1 a2 a3)
      all_goals
        have h2 := hc_le2 ⟨gk, ga, gb, gc⟩
        have hh := HH.out
        go_wp2_with fail
        go_roundw
        case rel => exact ⟨t + 1, A3, q + 1, c3, _, by omega, by go_num, by omega, by rw [hcs_snoc]; omega, HP.out⟩
        case measure => simp [intOf]; omega
    · obtain rfl : t = m := by omega
      obtain ⟨r0, r1⟩ := boxC2 S0.x
      obtain ⟨q0, q1⟩ := boxC2 S0.x4
      have f0 := free_at (j := 0) S0.x4
      have f1 := free_at (j := 1) S0.x4
      have HS := Lib.hid S0
      have HH := Lib.hid hh
      have hXX := S0.hX
      have lX := S0.lt
      clear S0 hh
      go_wp2_with fail
      have hS := HS.out
      have hfr := hS.fr
      refine bodyPost_ret (v := .agg #[.int .i64 N, .slice A q c]) (by simp [results, Try.results23, go_sem, q0, q1]) rfl ⟨A, q, c, L, rfl, hS.len, by omega, by have := HH.out; omega, ?_, (Fr.cur (w := w) (by repeat (first | assumption | (with_reducible refine Fr.alloc ?_ _) | (with_reducible refine Fr.set ?_ hp (by first | omega | (simp; done) | (simp; omega)) _)))), (Fr.gr (by repeat (first | assumption | (with_reducible refine Fr.alloc ?_ _) | (with_reducible refine Fr.set ?_ hp (by first | omega | (simp; done) | (simp; omega)) _))))⟩
      have hne : ∀ j, (Value.slice A q c).ownBlock ≠ some (⟨w.heap.size, j, none⟩ : Addr).block := fun j e => by
        have := (hS.own.lt _ e).1
        simp at this
        omega
      exact ownsRow_setCell_other (ownsRow_setCell_other (own_lowC hS.own (by omega)) (hne 0) _) (hne 1) _
end
section
attribute [local go_sem ↓ high] fold_appendC
set_option maxRecDepth 100000 in
set_option maxHeartbeats 8000000 in
theorem l11Bent_any (most : Nat) (w : World) (p : Nat) (hcur : CurAt w p) (hm : most ≤ 50) : Calls Try.prog 12 #[.pointer (some ⟨p, 0, none⟩), .int .i64 most] w (DC w p 70 (2 * most + 2)) := by
  obtain ⟨i0, hi, hz0, hz1, hz2⟩ := info_parts info_GateC
  have hp := hcur.lt
  go_enter Try.func12, Try.ntmps12
  go_wp2_with fail
  obtain ⟨w0, hw0⟩ : ∃ w0, w0 = w.alloc (.cells #[.int .i64 0, .slice none 0 0] 35) := ⟨_, rfl⟩
  rw [← hw0]
  have x0 : w0.heap[w.heap.size]? = some (.cells #[.int .i64 0, .slice none 0 0] 35 (0, 0)) := by rw [hw0]; exact boxed1_0 _ _
  have hfr0 : Fr w p w0 := by rw [hw0]; exact (Fr.start hcur).alloc _
  have s0 : w.heap.size + 1 = w0.heap.size := by rw [hw0]; simp
  clear hw0
  refine (l1Below_any 3 2 w0 p hfr0.cur (by omega) (by omega) (by omega)).mono ?_
  rintro e w1 ⟨y, hy0, hy1, rfl, hc1, hg1⟩
  have x1 := box_call x0 hg1 (by omega)
  have hfr1 := hfr0.call hc1 hg1
  have s1 : w.heap.size + 1 ≤ w1.heap.size := by have := hg1.size; omega
  have X1 := Lib.hid x1
  clear x0 x1 hc1 hg1 hfr0 s0
  obtain ⟨N, hN⟩ : ∃ N, N = 1 + y := ⟨_, rfl⟩
  have HR := Lib.hid (l11Right_any N most w1 p hfr1.cur (by omega) (by omega) (by omega))
  rw [hN] at HR
  have HNN := Lib.hid hN
  have hN1 : 1 ≤ N := by omega
  have hN3 : N ≤ 3 := by omega
  clear hN
  go_wp2_with fail
  refine HR.out.mono ?_
  clear HR
  rintro e w2 ⟨A, q, c, L, rfl, hL, hq, hh, own1, hc2, hg2⟩
  rw [← HNN.out]
  have x2 := box_call X1.out hg2 (by omega)
  have hfr2 := hfr1.call hc2 hg2
  have s2 : w.heap.size < w2.heap.size := by have := hg2.size; omega
  have st : Sc w p w2.heap.size N A q c L (w2.alloc (.cells #[.int .i64 N, .slice A q c] 35)) :=
    ⟨hfr2.alloc _, (Below.heap_alloc _ _ _ s2).trans x2, boxed1_0 _ _, (own_lowC own1 s1).alloc _, hp, s2, fun e => by have := (own1.lt _ e).2; omega⟩
  clear X1 x2 hc2 hg2 hfr1 hfr2 own1 hL s1 HNN hy0 hy1
  go_upto_region 2 with (fail)
  obtain ⟨X, hX⟩ : ∃ X, X = w2.heap.size := ⟨_, rfl⟩
  rw [← hX] at st ⊢
  obtain ⟨w3, hw3⟩ : ∃ w3, w3 = w2.alloc (.cells #[.int .i64 N, .slice A q c] 35) := ⟨_, rfl⟩
  rw [← hw3] at st ⊢
  clear hw3 hX s2
  have HH := Lib.hid hh
  clear hh
  go_wp2_with fail
  refine (l1Below_any 12 11 w3 p st.fr.cur (by omega) (by omega) (by omega)).mono ?_
  rintro e w3 ⟨x, hx0, hx1, rfl, hc3, hg3⟩
  have S3 := st.call hc3 hg3
  clear hc3 hg3 st
  go_upto_block 0 with (fail)
  go_cut [] (fun wx => ∃ (N : Int) (A : Option Addr) (q c : Nat) (L : List Gt), q ≤ 70 ∧ hcs L ≤ 2 * most + 2 ∧ Sc w p X N A q c L wx)
  case first =>
    obtain ⟨r0, r1⟩ := boxC2 S3.x
    have lX := S3.lt
    have hx : x = 0 ∨ x = 1 ∨ x = 2 ∨ 2 < x := by omega
    rcases hx with rfl | rfl | rfl | hx
    · go_wp2_with fail
      obtain ⟨w4, hw4⟩ : ∃ w4, w4 = w3.alloc (.cells #[.int .i64 0, .int .i64 1, .int .i64 4, .int .i64 5, .int .i64 (-1)] 3) := ⟨_, rfl⟩
      rw [← hw4]
      have S4 : Sc w p X N A q c L w4 := by rw [hw4]; exact S3.alloc _
      have hpk := picked (w := w3) (L := [0, 1, 4, 5, -1]) rfl
      have hr4 : Rd w4 1 (some ⟨w3.heap.size, 0, none⟩) 5 (([0, 1, 4, 5, -1] : List Int).map (Value.int .i64)) := by rw [hw4]; exact hpk
      have l3 : p < w3.heap.size := S3.fr.cur.lt
      clear hw4 hpk S3 r0 r1
      refine (l1PickInt_any w3.heap.size 5 5 [0, 1, 4, 5, -1] w4 p S4.fr.cur rfl (by omega) (by omega) hr4 (by omega)).mono ?_
      rintro e w5 ⟨z, hz, rfl, hc5, hg5⟩
      have S5 := S4.call hc5 hg5
      clear hc5 hg5 S4 hz hr4
      obtain ⟨r0, r1⟩ := boxC2 S5.x
      have g0 := free_at (j := 0) S5.x
      have HT := Lib.hid (S5.setN z)
      clear S5
      go_wp2_with fail
      go_meet
      exact ⟨z, A, q, c, L, by omega, by have := HH.out; omega, HT.out⟩
    · go_upto_region 6 with (fail)
      have g3 := free_at (j := 1) S3.x
      have SD := S3.drew
      have HS3 := Lib.hid S3
      have hmx : max 1 N = N := by omega
      clear S3
      go_region_with (first | (go_at_call 27; (with_reducible refine (l1MaxD_any 1 N _).mono ?_); rintro e y1 ⟨rfl, rfl⟩; rw [hmx]) | (go_at_call 26; (with_reducible refine (l9Bent_intC N _ p SD.fr.cur hN1 (by omega)).mono ?_); rintro e w5 ⟨gk, ga, gb, gc, rfl, hc2, hg2⟩; have S2 := SD.call hc2 hg2; have lX2 := S2.lt; obtain ⟨k0, k1⟩ := boxC2 S2.x; obtain ⟨v3, w9, hrun3, hown3, hgrow3, hat3⟩ := run_append_rd (P := Try.prog) (w5.alloc (.cells #[.int .i64 gk, .int .i64 ga, .int .i64 gb, .int .i64 gc] 30)) (w.heap.size + 1) 24 24 30 i0 _ 4 32 Try.underlying24 hi hz0 hz1 hz2 rfl (by omega) (.slice A q c) q (L.flatMap gcells) (S2.own.alloc _) (some ⟨w5.heap.size, 0, none⟩) 1 1 [.int .i64 gk, .int .i64 ga, .int .i64 gb, .int .i64 gc] (rd_lit1 rfl rfl) (by simp [Value.oneCell']) (by simp only [maxLen]; omega) (by omega) (by have := S2.lt; have := S2.hX; simp; omega); rw [fold_appendC] at hrun3; obtain ⟨A3, c3, rfl, _, _, _⟩ := rd_of_own hown3; obtain ⟨a1, a2, a3⟩ := S2.app hgrow3; obtain ⟨s0, s1⟩ := boxC2 a1; have u3 := free_at (j := 1) a1; have HP := Lib.hid (S2.push (o := ⟨gk, ga, gb, gc⟩) hgrow3 hown3 (hat3.imp id fun h => ⟨_, by simp; omega, h⟩)); clear a1 a2 a3))
      all_goals (go_wp2_with fail; go_meet; exact ⟨N, A3, q + 1, c3, _, by omega, by have := HH.out; have := hc_le2 ⟨gk, ga, gb, gc⟩; rw [hcs_snoc]; omega, HP.out⟩)
    · go_wp2_with fail
      refine (l1Once_any 6 w3 p S3.fr.cur (by omega) (by omega)).mono ?_
      rintro e w4 ⟨b4, rfl, hc4, hg4⟩
      have S4 := S3.call hc4 hg4
      clear hc4 hg4 S3 r0 r1 lX
      cases b4
      · go_wp2_with fail
        go_meet
        exact ⟨N, A, q, c, L, by omega, by have := HH.out; omega, S4⟩
      · go_wp2_with fail
        go_loopg [] (62 - q) (fun g wr => ∃ (A : Option Addr) (q c : Nat) (L : List Gt), g = 62 - q ∧ q ≤ 61 ∧ hcs L ≤ 2 * most ∧ Sc w p X N A q c L wr)
        case atStart => exact ⟨A, q, c, L, rfl, by omega, HH.out, S4⟩
        case round =>
          clear S4 hq HH
          obtain ⟨A, q, c, L, hgk, hq, hh, S5⟩ := hrel
          obtain ⟨wE, rfl⟩ : ∃ wE : World, wE = wr := ⟨_, rfl⟩
          have HGK := Lib.hid hgk
          have HH := Lib.hid hh
          clear hgk hh
          obtain ⟨r0, r1⟩ := boxC2 S5.x
          have lX := S5.lt
          go_upto_region 9 with (fail)
          go_cut [42] (fun s wx => ∃ bb : Bool, s = .bool bb ∧ (bb = true → q < 61) ∧ Sc w p X N A q c L wx)
          case first =>
            have SD := S5.drew
            have HS5 := Lib.hid S5
            clear S5
            go_region_with (go_at_call 24; (with_reducible refine (l1Below_any _ 2 _ p SD.fr.cur (by omega) (by omega) (by omega)).mono ?_); rintro e y1 ⟨z, hzl, hzh, rfl, hc4, hg4⟩; have SA := SD.call hc4 hg4; have lXA := SA.lt; obtain ⟨k0, k1⟩ := boxC2 SA.x; clear hc4 hg4; have hwr : IntKind.i64.wrap (59 + z) = 59 + z := IntWalk.i64_in _ (by omega))
            all_goals (go_wp2_with fail; go_meet; exact ⟨_, rfl, fun h => by simp at h; omega, SA⟩)
          case rest =>
            clear S5 r0 r1 lX
            obtain ⟨b5, rfl, hb5, S6⟩ := hcut
            obtain ⟨wF, rfl⟩ : ∃ wF : World, wF = wc := ⟨_, rfl⟩
            cases b5
            · go_wp2_with fail
              go_meet
              exact ⟨N, A, q, c, L, by omega, by have := HH.out; omega, S6⟩
            · have hq2 := hb5 rfl
              obtain ⟨r0, r1⟩ := boxC2 S6.x
              have HS := Lib.hid S6
              have lX2 := S6.lt
              have hXX := S6.hX
              have ownS := S6.own
              clear S6
              go_wp2_with (at_builtin; refine wpList_append_rd _ rfl _ _ 24 rfl (w.heap.size + 1) 30 i0 _ 4 32 Try.underlying24 hi hz0 hz1 hz2 rfl (by decide) _ _ _ rfl (ownS.alloc _) _ 1 1 _ rfl (rd_lit1 ?c0 rfl) ?c2 ?c3 ?c4 ?c5 ?_)
              case c0 => first | rfl | simp
              case c2 => repeat' (first | rfl | apply And.intro)
              case c3 => simp only [maxLen]; omega
              case c4 => omega
              case c5 => first | omega | (simp; omega)
              intro vv ww own3 gr3 hat3
              obtain ⟨A3, c3, rfl, _, _, _⟩ := rd_of_own own3
              obtain ⟨a1, a2, a3⟩ := HS.out.app gr3
              obtain ⟨s0, s1⟩ := boxC2 a1
              have u3 := free_at (j := 1) a1
              have HP := Lib.hid (HS.out.push (o := ⟨1, 0, 0, 0⟩) gr3 own3 (hat3.imp id fun h => ⟨_, by omega, h⟩))
              clear hat3 a1 a2 a3 own3 gr3 r0 r1 ownS
              go_wp2_with fail
              go_roundg (62 - (q + 1))
              case measure => have := HGK.out; omega
              case rel => exact ⟨A3, q + 1, c3, _, rfl, by omega, by have := HH.out; rw [hcs_snoc, show hc ⟨1, 0, 0, 0⟩ = 0 from rfl]; omega, HP.out⟩
    · go_wp2_with fail
      go_meet
      exact ⟨N, A, q, c, L, by omega, by have := HH.out; omega, S3⟩
  case rest =>
    clear S3 HH hq hN1 hN3
    obtain ⟨N, A, q, c, L, hq, hh, S9⟩ := hcut
    obtain ⟨wZ, rfl⟩ : ∃ wZ : World, wZ = wc := ⟨_, rfl⟩
    obtain ⟨r0, r1⟩ := boxC2 S9.x
    obtain ⟨q0, q1⟩ := boxC2 S9.x4
    have f0 := free_at (j := 0) S9.x4
    have f1 := free_at (j := 1) S9.x4
    have HS := Lib.hid S9
    have HH := Lib.hid hh
    have hXX := S9.hX
    have lX := S9.lt
    clear S9 hh
    go_wp2_with fail
    have hS := HS.out
    have hfr := hS.fr
    refine bodyPost_ret (v := .agg #[.int .i64 N, .slice A q c]) (by simp [results, Try.results12, go_sem, q0, q1]) rfl ⟨N, A, q, c, L, rfl, hS.len, hq, HH.out, ?_, (Fr.cur (w := w) (by repeat (first | assumption | (with_reducible refine Fr.alloc ?_ _) | (with_reducible refine Fr.set ?_ hp (by first | omega | (simp; done) | (simp; omega)) _)))), (Fr.gr (by repeat (first | assumption | (with_reducible refine Fr.alloc ?_ _) | (with_reducible refine Fr.set ?_ hp (by first | omega | (simp; done) | (simp; omega)) _))))⟩
    have hne : ∀ j, (Value.slice A q c).ownBlock ≠ some (⟨w.heap.size, j, none⟩ : Addr).block := fun j e => by
      have := (hS.own.lt _ e).1
      simp at this
      omega
    exact ownsRow_setCell_other (ownsRow_setCell_other (own_lowC hS.own (by omega)) (hne 0) _) (hne 1) _
end
/-- A list of gates that was drawn. -/
def DrewGl (w : World) (e : Ending) (w' : World) : Prop := ∃ (A : Option Addr) (n c : Nat) (L : List Gt), e = .returned (.slice A n c) ∧ L.length = n ∧ n ≤ 70 ∧ hcs L ≤ 12 ∧ w'.ownsRow w.heap.size 30 4 (.slice A n c) n (L.flatMap gcells) ∧ Below w.heap.size w w'
set_option maxRecDepth 100000 in
set_option maxHeartbeats 1000000 in
theorem DrawDecomposeGates_any (A : Option Addr) (n c : Nat) (bs : List (Fin 256)) (w : World) (h : Rd w 1 A n (bs.flatMap bcell)) (hl : bs.length = n) (hn : n ≤ 1048576) : Calls Try.prog 5 #[.slice A n c] w (DrewGl w) := by
  have H := Lib.hid h
  have HL := Lib.hid hl
  clear h hl
  go_enter Try.func5, Try.ntmps5
  go_wp2_with fail
  refine (l1New_any _ _ _ bs w H.out HL.out hn).mono ?_
  rintro e w1 ⟨p, rfl, hp1, hc1, hb1⟩
  have lp := hc1.lt
  go_wp2_with fail
  refine (l11Bent_any 5 w1 p hc1 (by omega)).mono ?_
  rintro e w2 ⟨N, A2, n2, c2, L, rfl, hL, hn2, hh, own2, hc2, hg2⟩
  have hb2 : Below w.heap.size w w2 := hb1.trans (below_of_only hg2 hb1.size hp1)
  have hf : ∀ w, Sem.run Try.prog (Instr.field 35 (.agg #[.int .i64 N, .slice A2 n2 c2]) 1) w = .ok (.slice A2 n2 c2) w := fun _ => by kernel_rfl
  have HLL := Lib.hid hL
  have HHH := Lib.hid hh
  have HO := Lib.hid (own_lowC own2 hb1.size)
  clear hL hh own2
  go_wp2_with fail
  go_ret
  exact ⟨A2, n2, c2, L, rfl, HLL.out, hn2, HHH.out, HO.out, hb2⟩
end Go.Proofs.Ytgjpicekdbemiaa
