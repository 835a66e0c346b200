/- Drawing routines: each draw returns, and writes nothing but the cursor. -/
import Derived.Test.YtbffpehajkgjeaaDraw3
import Derived.Test.YtbffpehajkgjeaaOpLoops
namespace Go.Proofs.Ytbffpehajkgjeaa
open Go.RowKit
set_option linter.unusedVariables false
/-- 'append', kept shut in a walk. -/
def appSem2 (ts : Array TypeId) (ty : TypeId) (args : Array Value) : Sem Value := Builtin.append_ ts ty args
theorem fold_append2 (ts : Array TypeId) (ty : TypeId) (args : Array Value) : Builtin.append_ ts ty args = appSem2 ts ty args := rfl
/-- The state of a drawing of a routine: the box of the result, the routine's own box X, its list. -/
structure St (w : World) (p X : Nat) (N I B : Int) (A : Option Addr) (q c : Nat) (L : List Opt) (wk : World) : Prop where
  fr : Fr w p wk
  x4 : wk.heap[w.heap.size]? = some (.cells #[.int .i64 0, .int .i64 0, .int .i64 0, .slice none 0 0] 29 (0, 0))
  x : wk.heap[X]? = some (.cells #[.int .i64 N, .int .i64 I, .int .i64 B, .slice A q c] 29 (0, 0))
  own : wk.ownsRow (w.heap.size + 1) 56 8 (.slice A q c) q (L.flatMap ocells)
  hp : p < w.heap.size
  hX : w.heap.size < X
  nX : (Value.slice A q c).ownBlock ≠ some X
theorem St.lt {w wk : World} {p X q c : Nat} {N I B : Int} {A : Option Addr} {L : List Opt} (h : St w p X N I B A q c L wk) : X < wk.heap.size := lt_of_block h.x
theorem St.len {w wk : World} {p X q c : Nat} {N I B : Int} {A : Option Addr} {L : List Opt} (h : St w p X N I B A q c L wk) : L.length = q := by
  have h1 := h.own.1
  rw [flat_length ocells 8 ocells_len] at h1
  omega
theorem St.call {w wk w2 : World} {p X q c : Nat} {N I B : Int} {A : Option Addr} {L : List Opt} (h : St w p X N I B A q c L wk) (hc : CurAt w2 p) (hg : wk.grownBy w2 (some p)) : St w p X N I B A q c L w2 :=
  ⟨h.fr.call hc hg, box_call h.x4 hg (by have := h.hp; omega), box_call h.x hg (by have := h.hp; have := h.hX; omega), h.own.kept hg (by
    cases hk : (Value.slice A q c).ownBlock with
    | none => exact .inl rfl
    | some k =>
      refine .inr fun e => ?_
      injection e with e
      have h1 := (h.own.lt k hk).1
      have := h.hp
      omega), h.hp, h.hX, h.nX⟩
theorem St.alloc {w wk : World} {p X q c : Nat} {N I B : Int} {A : Option Addr} {L : List Opt} (h : St w p X N I B A q c L wk) (ob : Obj) : St w p X N I B A q c L (wk.alloc ob) :=
  ⟨h.fr.alloc ob, (Below.heap_alloc _ _ _ (lt_of_block h.x4)).trans h.x4, (Below.heap_alloc _ _ _ h.lt).trans h.x, h.own.alloc ob, h.hp, h.hX, h.nX⟩
theorem St.drew {w wk : World} {p X q c : Nat} {N I B : Int} {A : Option Addr} {L : List Opt} (h : St w p X N I B A q c L wk) : St w p X N I B A q c L wk.drew :=
  ⟨⟨h.fr.cur, ⟨h.fr.gr.os, h.fr.gr.tape, h.fr.gr.output, h.fr.gr.size, h.fr.gr.block⟩⟩, h.x4, h.x, h.own, h.hp, h.hX, h.nX⟩
theorem St.undrew {w wk : World} {p X q c : Nat} {N I B : Int} {A : Option Addr} {L : List Opt} (h : St w p X N I B A q c L wk.drew) : St w p X N I B A q c L wk :=
  ⟨⟨h.fr.cur, ⟨h.fr.gr.os, h.fr.gr.tape, h.fr.gr.output, h.fr.gr.size, h.fr.gr.block⟩⟩, h.x4, h.x, h.own, h.hp, h.hX, h.nX⟩
/-- A cell of another block of the call's own is written. -/
theorem St.other {w wk : World} {p X q c : Nat} {N I B : Int} {A : Option Addr} {L : List Opt} (h : St w p X N I B A q c L wk) {a : Addr} (h1 : X < a.block) (h2 : (Value.slice A q c).ownBlock ≠ some a.block) (v : Value) : St w p X N I B A q c L (wk.setCell a v) :=
  ⟨h.fr.set h.hp (by have := h.hX; omega) v, (Below.heap_setCell _ _ _ _ (by have := h.hX; omega)).trans h.x4, (Below.heap_setCell _ _ _ _ (by omega)).trans h.x, ownsRow_setCell_other h.own h2 v, h.hp, h.hX, h.nX⟩
theorem St.setB {w wk : World} {p X q c : Nat} {N I B : Int} {A : Option Addr} {L : List Opt} (h : St w p X N I B A q c L wk) (B' : Int) : St w p X N I B' A q c L (wk.setCell ⟨X, 2, none⟩ (.int .i64 B')) :=
  ⟨h.fr.set h.hp (by have := h.hX; simp; omega) _, (Below.heap_setCell _ _ _ _ (by have := h.hX; simp; omega)).trans h.x4, by rw [heap_setCell_same _ _ _ _ _ _ h.x]; rfl, ownsRow_setCell_other h.own h.nX _, h.hp, h.hX, h.nX⟩
theorem St.setI {w wk : World} {p X q c : Nat} {N I B : Int} {A : Option Addr} {L : List Opt} (h : St w p X N I B A q c L wk) (I' : Int) : St w p X N I' B A q c L (wk.setCell ⟨X, 1, none⟩ (.int .i64 I')) :=
  ⟨h.fr.set h.hp (by have := h.hX; simp; omega) _, (Below.heap_setCell _ _ _ _ (by have := h.hX; simp; omega)).trans h.x4, by rw [heap_setCell_same _ _ _ _ _ _ h.x]; rfl, ownsRow_setCell_other h.own h.nX _, h.hp, h.hX, h.nX⟩
theorem St.setN {w wk : World} {p X q c : Nat} {N I B : Int} {A : Option Addr} {L : List Opt} (h : St w p X N I B A q c L wk) (N' : Int) : St w p X N' I B A q c L (wk.setCell ⟨X, 0, none⟩ (.int .i64 N')) :=
  ⟨h.fr.set h.hp (by have := h.hX; simp; omega) _, (Below.heap_setCell _ _ _ _ (by have := h.hX; simp; omega)).trans h.x4, by rw [heap_setCell_same _ _ _ _ _ _ h.x]; rfl, ownsRow_setCell_other h.own h.nX _, h.hp, h.hX, h.nX⟩
/-- What lies there behind 'append' ahead of the store. -/
theorem St.app {w wk w3 : World} {p X q c : Nat} {N I B : Int} {A : Option Addr} {L : List Opt} {ob : Obj} (h : St w p X N I B A q c L wk) (hg : (wk.alloc ob).grownBy w3 (Value.slice A q c).ownBlock) :
    w3.heap[X]? = some (.cells #[.int .i64 N, .int .i64 I, .int .i64 B, .slice A q c] 29 (0, 0)) ∧ w3.heap[w.heap.size]? = some (.cells #[.int .i64 0, .int .i64 0, .int .i64 0, .slice none 0 0] 29 (0, 0)) ∧ Fr w p w3 := by
  have h1 := (h.alloc ob)
  have hX := h.hX
  refine ⟨?_, ?_, h1.fr.own h.hp hg (fun k hk => by have := (h.own.lt k hk).1; omega)⟩
  · rw [hg.block X h1.lt (fun e => h.nX e.symm)]
    exact h1.x
  · rw [hg.block w.heap.size (lt_of_block h1.x4) (fun e => by have := (h.own.lt _ e.symm).1; omega)]
    exact h1.x4
theorem St.push {w wk w3 : World} {p X q c c3 : Nat} {N I B : Int} {A A3 : Option Addr} {L : List Opt} {o : Opt} {ob : Obj} (h : St w p X N I B A q c L wk) (hg : (wk.alloc ob).grownBy w3 (Value.slice A q c).ownBlock)
    (h3 : w3.ownsRow (w.heap.size + 1) 56 8 (.slice A3 (q + 1) c3) (q + 1) (L.flatMap ocells ++ ocells o))
    (hat : (Value.slice A3 (q + 1) c3).ownBlock = (Value.slice A q c).ownBlock ∨ ∃ k, X < k ∧ (Value.slice A3 (q + 1) c3).ownBlock = some k) : St w p X N I B A3 (q + 1) c3 (L ++ [o]) (w3.setCell ⟨X, 3, none⟩ (.slice A3 (q + 1) c3)) := by
  obtain ⟨h1, h2, h4⟩ := h.app hg
  have hX := h.hX
  have hlt := h.lt
  have hn : (Value.slice A3 (q + 1) c3).ownBlock ≠ some X := by
    rcases hat with hat | ⟨k, hk, hat⟩
    · rw [hat]; exact h.nX
    · rw [hat]
      intro e
      injection e with e
      omega
  refine ⟨h4.set h.hp (by simp; omega) _, (Below.heap_setCell _ _ _ _ (by simp; omega)).trans h2, by rw [heap_setCell_same _ _ _ _ _ _ h1]; rfl, ?_, h.hp, h.hX, hn⟩
  rw [List.flatMap_append, show [o].flatMap ocells = ocells o by simp]
  exact ownsRow_setCell_other h3 hn _
theorem l9Gate_int (N : Int) (w : World) (p : Nat) (hcur : CurAt w p) (h1 : 1 ≤ N) (h4 : N ≤ 4) : Calls Try.prog 128 #[.pointer (some ⟨p, 0, none⟩), .int .i64 N] w (DG w p) := by
  obtain ⟨n, rfl⟩ : ∃ n : Nat, N = n := ⟨N.toNat, by omega⟩
  exact l9Gate_any n w p hcur (by omega) (by omega)
theorem own_low {w : World} {B B' e size n : Nat} {v : Value} {xs : List Value} (h : w.ownsRow B e size v n xs) (hB : B' ≤ B) : w.ownsRow B' e size v n xs := by
  refine ⟨h.1, ?_⟩
  rcases h.2 with h2 | ⟨g, cap, cur, h1, h2, h3⟩
  · exact .inl h2
  · exact .inr ⟨g, cap, cur, h1, Nat.le_trans hB h2, h3⟩
/-- The drawn routine, with no word on its numbers. -/
def DS (w : World) (p most : Nat) (e : Ending) (w' : World) : Prop := ∃ (N I B : Int) (A : Option Addr) (n c : Nat) (L : List Opt), e = .returned (.agg #[.int .i64 N, .int .i64 I, .int .i64 B, .slice A n c]) ∧
  L.length = n ∧ n ≤ most ∧ w'.ownsRow w.heap.size 56 8 (.slice A n c) n (L.flatMap ocells) ∧ CurAt w' p ∧ w.grownBy w' (some p)
def DR (w : World) (p most : Nat) (e : Ending) (w' : World) : Prop := ∃ (N I B : Int) (A : Option Addr) (n c : Nat) (L : List Opt), e = .returned (.agg #[.int .i64 N, .int .i64 I, .int .i64 B, .slice A n c]) ∧
  L.length = n ∧ n ≤ most ∧ 1 ≤ N ∧ N ≤ 3 ∧ 0 ≤ B ∧ B ≤ 2 ∧ w'.ownsRow w.heap.size 56 8 (.slice A n c) n (L.flatMap ocells) ∧ CurAt w' p ∧ w.grownBy w' (some p)
section
attribute [local go_sem ↓ high] fold_append2
set_option maxRecDepth 100000 in
set_option maxHeartbeats 8000000 in
theorem l21Right_any (most : Nat) (w : World) (p : Nat) (hcur : CurAt w p) (hm : most ≤ 100) : Calls Try.prog 111 #[.pointer (some ⟨p, 0, none⟩), .int .i64 most] w (DR w p most) := by
  obtain ⟨i0, hi, hz0, hz1, hz2⟩ := info_parts info_OpE
  have hp := hcur.lt
  go_enter Try.func111, Try.ntmps111
  go_wp2_with fail
  obtain ⟨w0, hw0⟩ : ∃ w0, w0 = w.alloc (.cells #[.int .i64 0, .int .i64 0, .int .i64 0, .slice none 0 0] 29) := ⟨_, rfl⟩
  rw [← hw0]
  have x0 : w0.heap[w.heap.size]? = some (.cells #[.int .i64 0, .int .i64 0, .int .i64 0, .slice none 0 0] 29 (0, 0)) := by rw [hw0]; exact boxed1_0 _ _
  have hfr0 : Fr w p w0 := by rw [hw0]; exact (Fr.start hcur).alloc _
  have s0 : w.heap.size < w0.heap.size := by rw [hw0]; simp
  clear hw0
  refine (l1Below_any 3 2 w0 p hfr0.cur (by omega) (by omega) (by omega)).mono ?_
  rintro e w1 ⟨y, hy0, hy1, rfl, hc1, hg1⟩
  have x1 := box_call x0 hg1 (by omega)
  have hfr1 := hfr0.call hc1 hg1
  have s1 : w.heap.size < w1.heap.size := by have := hg1.size; omega
  have X1 := Lib.hid x1
  clear x0 x1 hc1 hg1 hfr0
  have st : ∀ N : Int, St w p w1.heap.size N N 0 none 0 0 [] (w1.alloc (.cells #[.int .i64 N, .int .i64 N, .int .i64 0, .slice none 0 0] 29)) := fun N =>
    ⟨hfr1.alloc _, (Below.heap_alloc _ _ _ s1).trans X1.out, boxed1_0 _ _, World.ownsRow_nil _ _ _ _, hp, s1, by simp [Value.ownBlock]⟩
  go_upto_region 3 with (fail)
  obtain ⟨N, hN⟩ : ∃ N, N = 1 + y := ⟨_, rfl⟩
  obtain ⟨X, hX⟩ : ∃ X, X = w1.heap.size := ⟨_, rfl⟩
  rw [← hN]
  have st0 := st N
  rw [← hX] at st0 ⊢
  obtain ⟨w2, hw2⟩ : ∃ w2, w2 = w1.alloc (.cells #[.int .i64 N, .int .i64 N, .int .i64 0, .slice none 0 0] 29) := ⟨_, rfl⟩
  rw [← hw2] at st0 ⊢
  have hN1 : 1 ≤ N := by omega
  have hN3 : N ≤ 3 := by omega
  clear hw2 hX hN st X1 hfr1 s1 hy0 hy1
  go_cut [22] (fun s wx => ∃ bb : Bool, s = .bool bb ∧ (bb = true → 1 < N) ∧ St w p X N N 0 none 0 0 [] wx)
  case first =>
    by_cases hn2 : 1 < N
    · go_wp2_with fail
      refine (l1Once_any 4 w2 p st0.fr.cur (by omega) (by omega)).mono ?_
      rintro e w3 ⟨bb, rfl, hc3, hg3⟩
      have st1 := st0.call hc3 hg3
      clear hc3 hg3 st0
      go_wp2_with fail
      go_meet
      exact ⟨bb, rfl, fun _ => hn2, st1⟩
    · go_wp2_with fail
      go_meet
      exact ⟨false, rfl, by simp, st0⟩
  case rest =>
    obtain ⟨bb, rfl, hbb, st1⟩ := hcut
    obtain ⟨wA, rfl⟩ : ∃ wA : World, wA = wc := ⟨_, rfl⟩
    clear st0
    go_upto_if 22 with (fail)
    go_cut [] (fun wx => ∃ I : Int, St w p X N I 0 none 0 0 [] wx)
    case first =>
      cases bb
      · go_wp2_with fail
        go_meet
        exact ⟨N, st1⟩
      · have h1N := hbb rfl
        obtain ⟨r0, r1, r2, r3⟩ := boxcells4 (lay := Below.refl _ _) st1.x
        have g1 := free_at (j := 1) st1.x
        have HT := Lib.hid (st1.setI (N - 1))
        clear st1
        go_wp2_with fail
        go_meet
        exact ⟨N - 1, HT.out⟩
    case rest =>
      clear st1
      obtain ⟨I, st2⟩ := hcut
      obtain ⟨wB, rfl⟩ : ∃ wB : World, wB = wc := ⟨_, rfl⟩
      go_wp2_with fail
      refine (l1Once_any 2 wB p st2.fr.cur (by omega) (by omega)).mono ?_
      rintro e wC ⟨wd, rfl, hcC, hgC⟩
      have st3 := st2.call hcC hgC
      clear hcC hgC st2
      go_wp2_with fail
      refine (l1Below_any (most + 1) most wC p st3.fr.cur (by omega) (by omega) (by omega)).mono ?_
      rintro e wD ⟨mm, hm0, hm1, rfl, hcD, hgD⟩
      obtain ⟨m, rfl⟩ : ∃ m : Nat, mm = m := ⟨mm.toNat, by omega⟩
      have st4 := st3.call hcD hgD
      clear hcD hgD st3
      go_wp2_with fail
      go_loopw [9] (fun i wr => ∃ (t : Nat) (B : Int) (A : Option Addr) (q c : Nat) (L : List Opt), t ≤ m ∧ i = .int .i64 t ∧ q ≤ t ∧ 0 ≤ B ∧ B ≤ 2 ∧ St w p X N I B A q c L wr) (fun i _ => m - (intOf i).toNat)
      case atStart => exact ⟨0, 0, none, 0, 0, [], Nat.zero_le _, rfl, Nat.le_refl _, by omega, by omega, st4⟩
      case round =>
        clear st4
        obtain ⟨t, B, A, q, c, L, ht, rfl, hq, hB1, hB2, S0⟩ := hrel
        obtain ⟨wE, rfl⟩ : ∃ wE : World, wE = wr := ⟨_, rfl⟩
        by_cases hlt : t < m
        · obtain ⟨r0, r1, r2, r3⟩ := boxcells4 (lay := Below.refl _ _) S0.x
          go_upto_region 10 with (fail)
          go_cut [46] (fun s wx => ∃ bb : Bool, s = .bool bb ∧ (bb = true → B < 2) ∧ St w p X N I B A q c L wx)
          case first =>
            cases wd
            · go_wp2_with fail
              go_meet
              exact ⟨false, rfl, by simp, S0⟩
            · by_cases hb2 : B < 2
              · go_wp2_with fail
                refine (l1Once_any 4 wE p S0.fr.cur (by omega) (by omega)).mono ?_
                rintro e wF ⟨bf, rfl, hcF, hgF⟩
                have S1 := S0.call hcF hgF
                clear hcF hgF S0 r0 r1 r2 r3
                go_wp2_with fail
                go_meet
                exact ⟨bf, rfl, fun _ => hb2, S1⟩
              · go_wp2_with fail
                go_meet
                exact ⟨false, rfl, by simp, S0⟩
          case rest =>
            clear S0 r0 r1 r2 r3
            obtain ⟨bf, rfl, hbf, S1⟩ := hcut
            obtain ⟨wF, rfl⟩ : ∃ wF : World, wF = wc := ⟨_, rfl⟩
            cases bf
            · go_wp2_with fail
              refine (l9Gate_int N wF p S1.fr.cur (by omega) (by omega)).mono ?_
              rintro e wG ⟨gk, ga, gb, gc, rfl, hcG, hgG⟩
              have S2 := S1.call hcG hgG
              clear hcG hgG S1 hbf
              have lX := S2.lt
              go_upto_region 14 with (fail)
              have y3 : (wG.alloc (.cells #[.int .i64 1, .int .i64 gk, .int .i64 ga, .int .i64 gb, .int .i64 gc, .int .i64 0, .int .i64 0, .int .i64 0] 56)).heap[wG.heap.size]? = some (.cells #[.int .i64 1, .int .i64 gk, .int .i64 ga, .int .i64 gb, .int .i64 gc, .int .i64 0, .int .i64 0, .int .i64 0] 56 (0, 0)) := boxed1_0 _ _
              have S3 := S2.alloc (.cells #[.int .i64 1, .int .i64 gk, .int .i64 ga, .int .i64 gb, .int .i64 gc, .int .i64 0, .int .i64 0, .int .i64 0] 56)
              have ow : ∀ k, (Value.slice A q c).ownBlock = some k → k < wG.heap.size := fun k hk => (S2.own.lt k hk).2
              obtain ⟨wH, hwH⟩ : ∃ wH, wH = wG.alloc (.cells #[.int .i64 1, .int .i64 gk, .int .i64 ga, .int .i64 gb, .int .i64 gc, .int .i64 0, .int .i64 0, .int .i64 0] 56) := ⟨_, rfl⟩
              rw [← hwH] at y3 S3 ⊢
              obtain ⟨Y, hY⟩ : ∃ Y, Y = wG.heap.size := ⟨_, rfl⟩
              rw [← hY] at y3 ow lX ⊢
              clear hwH S2 hY
              obtain ⟨r0, r1, r2, r3⟩ := boxcells4 (lay := Below.refl _ _) S3.x
              go_cut [72] (fun s wx => ∃ bb : Bool, s = .bool bb ∧ (bb = true → 0 < B) ∧ St w p X N I B A q c L wx ∧ wx.heap[Y]? = some (.cells #[.int .i64 1, .int .i64 gk, .int .i64 ga, .int .i64 gb, .int .i64 gc, .int .i64 0, .int .i64 0, .int .i64 0] 56 (0, 0)))
              case first =>
                by_cases hb0 : 0 < B
                · go_wp2_with fail
                  refine (l1Once_any 2 wH p S3.fr.cur (by omega) (by omega)).mono ?_
                  rintro e wI ⟨bi, rfl, hcI, hgI⟩
                  have S4 := S3.call hcI hgI
                  have y4 := box_call y3 hgI (by have := S3.hp; have := S3.hX; omega)
                  clear hcI hgI S3 y3 r0 r1 r2 r3
                  go_wp2_with fail
                  go_meet
                  exact ⟨bi, rfl, fun _ => hb0, S4, y4⟩
                · obtain rfl : B = 0 := by omega
                  go_wp2_with fail
                  go_meet
                  exact ⟨false, rfl, by simp, S3, y3⟩
              case rest =>
                clear S3 y3 r0 r1 r2 r3
                obtain ⟨bi, rfl, hbi, S4, y4⟩ := hcut
                obtain ⟨wI, rfl⟩ : ∃ wI : World, wI = wc := ⟨_, rfl⟩
                go_upto_if 72 with (fail)
                go_cut [] (fun wx => ∃ f : Int, St w p X N I B A q c L wx ∧ wx.heap[Y]? = some (.cells #[.int .i64 1, .int .i64 gk, .int .i64 ga, .int .i64 gb, .int .i64 gc, .int .i64 0, .int .i64 0, .int .i64 f] 56 (0, 0)))
                case first =>
                  cases bi
                  · go_wp2_with fail
                    go_meet
                    exact ⟨0, S4, y4⟩
                  · have hb0 := hbi rfl
                    obtain ⟨r0, r1, r2, r3⟩ := boxcells4 (lay := Below.refl _ _) S4.x
                    go_wp2_with fail
                    refine (l1Below_any B 1 wI p S4.fr.cur (by omega) (by omega) (by omega)).mono ?_
                    rintro e wJ ⟨x, hx0, hx1, rfl, hcJ, hgJ⟩
                    have S5 := S4.call hcJ hgJ
                    have y5 := box_call y4 hgJ (by have := S4.hp; have := S4.hX; omega)
                    clear hcJ hgJ S4 y4 r0 r1 r2 r3
                    have f7 := free_at (j := 7) y5
                    obtain ⟨z0, z1, z2, z3, z4, z5, z6, z7⟩ := boxcells8 (lay := Below.refl _ _) y5
                    have HT := Lib.hid (S5.other (a := ⟨Y, 7, none⟩) (by exact lX) (by
                      intro e
                      have := ow _ e
                      simp at this) (.int .i64 (1 + x)))
                    have HY := Lib.hid (show (wJ.setCell ⟨Y, 7, none⟩ (.int .i64 (1 + x))).heap[Y]? = some (.cells #[.int .i64 1, .int .i64 gk, .int .i64 ga, .int .i64 gb, .int .i64 gc, .int .i64 0, .int .i64 0, .int .i64 (1 + x)] 56 (0, 0)) by rw [heap_setCell_same _ _ _ _ _ _ y5]; rfl)
                    clear S5 y5
                    go_wp2_with fail
                    go_meet
                    exact ⟨1 + x, HT.out, HY.out⟩
                case rest =>
                  clear S4 y4 hbi
                  obtain ⟨f, S6, y6⟩ := hcut
                  obtain ⟨wK, rfl⟩ : ∃ wK : World, wK = wc := ⟨_, rfl⟩
                  obtain ⟨r0, r1, r2, r3⟩ := boxcells4 (lay := Below.refl _ _) S6.x
                  obtain ⟨z0, z1, z2, z3, z4, z5, z6, z7⟩ := boxcells8 (lay := Below.refl _ _) y6
                  have HS := Lib.hid S6
                  have lX2 := S6.lt
                  have ownS := S6.own
                  clear S6 y6 ow
                  go_wp2_with (at_builtin; refine wpList_append_rd _ rfl _ _ 27 rfl (w.heap.size + 1) 56 i0 _ 8 64 Try.underlying27 hi hz0 hz1 hz2 rfl (by decide) _ _ _ rfl (ownS.alloc _) _ 1 1 _ rfl (rd_lit1 ?c0 rfl) ?c2 ?c3 ?c4 ?c5 ?_)
                  case c0 => first | rfl | simp
                  case c2 => repeat' (first | rfl | apply And.intro)
                  case c3 => simp only [maxLen]; omega
                  case c4 => omega
                  case c5 => have := HS.out.hX; simp; omega
                  intro vv ww own3 gr3 hat3
                  obtain ⟨A3, c3, rfl, _, _, _⟩ := rd_of_own own3
                  obtain ⟨a1, a2, a3⟩ := HS.out.app gr3
                  obtain ⟨s0, s1, s2, s3⟩ := boxcells4 (lay := Below.refl _ _) a1
                  have u3 := free_at (j := 3) a1
                  have HP := Lib.hid (HS.out.push (o := ⟨1, ⟨gk, ga, gb, gc⟩, 0, 0, f⟩) gr3 own3 (hat3.imp id fun h => ⟨_, by omega, h⟩))
                  clear hat3 a1 a2 a3 own3 gr3 z0 z1 z2 z3 z4 z5 z6 z7 r0 r1 r2 r3 ownS
                  go_wp2_with fail
                  go_roundw
                  case rel => exact ⟨t + 1, B, A3, q + 1, c3, L ++ [⟨1, ⟨gk, ga, gb, gc⟩, 0, 0, f⟩], by omega, by go_num, by omega, hB1, hB2, HP.out⟩
                  case measure => simp [intOf]; omega
            · have hb2 := hbf rfl
              obtain ⟨r0, r1, r2, r3⟩ := boxcells4 (lay := Below.refl _ _) S1.x
              have g3 := free_at (j := 3) S1.x
              have lX := S1.lt
              have HS1 := Lib.hid S1
              clear S1 hbf
              go_upto_region 11 with (fail)
              go_cut [] (fun wx => ∃ (A3 : Option Addr) (c3 : Nat) (o : Opt), St w p X N I B A3 (q + 1) c3 (L ++ [o]) wx)
              case first =>
                go_region_with (go_at_call 108; (with_reducible refine (l1Below_any N 3 _ p HS1.out.drew.fr.cur (by omega) (by omega) (by omega)).mono ?_); rintro e w2 ⟨x, hx0, hx1, rfl, hc2, hg2⟩; have S2 := HS1.out.drew.call hc2 hg2; have lX2 := S2.lt; obtain ⟨k0, k1, k2, k3⟩ := boxcells4 (lay := Below.refl _ _) S2.x; obtain ⟨v3, w3, hrun3, hown3, hgrow3, hat3⟩ := run_append_rd (P := Try.prog) (w2.alloc (.cells #[.int .i64 2, .int .i64 0, .int .i64 0, .int .i64 0, .int .i64 0, .int .i64 x, .int .i64 B, .int .i64 0] 56)) (w.heap.size + 1) 27 27 56 i0 _ 8 64 Try.underlying27 hi hz0 hz1 hz2 rfl (by omega) (.slice A q c) q (L.flatMap ocells) (S2.own.alloc _) (some ⟨w2.heap.size, 0, none⟩) 1 1 [.int .i64 2, .int .i64 0, .int .i64 0, .int .i64 0, .int .i64 0, .int .i64 x, .int .i64 B, .int .i64 0] (rd_lit1 rfl rfl) (by simp [Value.oneCell']) (by simp only [maxLen]; omega) (by omega) (by have := S2.lt; have := S2.hX; simp; omega); rw [fold_append2] at hrun3; obtain ⟨A3, c3, rfl, _, _, _⟩ := rd_of_own hown3; obtain ⟨a1, a2, a3⟩ := S2.app hgrow3; obtain ⟨s0, s1, s2, s3⟩ := boxcells4 (lay := Below.refl _ _) a1; have u3 := free_at (j := 3) a1; have HP := Lib.hid (S2.push (o := ⟨2, ⟨0, 0, 0, 0⟩, x, B, 0⟩) hgrow3 hown3 (hat3.imp id fun h => ⟨_, by simp; omega, h⟩)); clear a1 a2 a3)
                all_goals (go_wp2_with fail; go_meet; exact ⟨A3, c3, _, HP.out⟩)
              case rest =>
                clear r0 r1 r2 r3 g3 HS1
                obtain ⟨A3, c3, o, S2⟩ := hcut
                obtain ⟨wG, rfl⟩ : ∃ wG : World, wG = wc := ⟨_, rfl⟩
                obtain ⟨r0, r1, r2, r3⟩ := boxcells4 (lay := Below.refl _ _) S2.x
                have g2 := free_at (j := 2) S2.x
                have HP := Lib.hid (S2.setB (B + 1))
                clear S2
                go_wp2_with fail
                go_roundw
                case rel => exact ⟨t + 1, B + 1, A3, q + 1, c3, L ++ [o], by omega, by go_num, by omega, by omega, by omega, HP.out⟩
                case measure => simp [intOf]; omega
        · obtain rfl : t = m := by omega
          obtain ⟨r0, r1, r2, r3⟩ := boxcells4 (lay := Below.refl _ _) S0.x
          obtain ⟨q0, q1, q2, q3⟩ := boxcells4 (lay := Below.refl _ _) S0.x4
          have f0 := free_at (j := 0) S0.x4
          have f1 := free_at (j := 1) S0.x4
          have f2 := free_at (j := 2) S0.x4
          have f3 := free_at (j := 3) S0.x4
          have HS := Lib.hid S0
          have hXX := S0.hX
          have lX := S0.lt
          clear S0
          go_wp2_with fail
          have hS := HS.out
          have hfr := hS.fr
          refine bodyPost_ret (v := .agg #[.int .i64 N, .int .i64 I, .int .i64 B, .slice A q c]) (by simp [results, Try.results111, go_sem, q0, q1, q2, q3]) rfl ⟨N, I, B, A, q, c, L, rfl, hS.len, by omega, hN1, hN3, hB1, hB2, ?_, (Fr.cur (w := w) (by repeat (first | assumption | (with_reducible refine Fr.alloc ?_ _) | (with_reducible refine Fr.set ?_ hp (by first | omega | (simp; done) | (simp; omega)) _)))), (Fr.gr (by repeat (first | assumption | (with_reducible refine Fr.alloc ?_ _) | (with_reducible refine Fr.set ?_ hp (by first | omega | (simp; done) | (simp; omega)) _))))⟩
          have hne : ∀ j, (Value.slice A q c).ownBlock ≠ some (⟨w.heap.size, j, none⟩ : Addr).block := fun j e => by
            have := (hS.own.lt _ e).1
            simp at this
            omega
          exact ownsRow_setCell_other (ownsRow_setCell_other (ownsRow_setCell_other (ownsRow_setCell_other (own_low hS.own (by omega)) (hne 0) _) (hne 1) _) (hne 2) _) (hne 3) _
end
end Go.Proofs.Ytbffpehajkgjeaa
