/- What the calls that this law reaches answer, part 8 of 8. -/
import Derived.Test.YtgjpicekdbemiabJSplit7
import Derived.Test.YtgjpicekdbemiabJSplit6
import Derived.Test.YtgjpicekdbemiabJSplit3
namespace Go.Proofs.Ytgjpicekdbemiab
open Go.RowKit
set_option linter.unusedVariables false
/-- 'append', kept shut in a walk. -/
def appSem2 (ts : Array TypeId) (ty : TypeId) (args : Array Value) : Sem Value := Builtin.append_ ts ty args
theorem fold_append2 (ts : Array TypeId) (ty : TypeId) (args : Array Value) : Builtin.append_ ts ty args = appSem2 ts ty args := rfl
/-- The state of a drawing of a routine: the box of the result, the routine's own box X, its list. -/
structure St (w : World) (p X : Nat) (N I B : Int) (A : Option Addr) (q c : Nat) (L : List Opt) (wk : World) : Prop where
  fr : Fr w p wk
  x4 : wk.heap[w.heap.size]? = some (.cells #[.int .i64 0, .int .i64 0, .int .i64 0, .slice none 0 0] 39 (0, 0))
  x : wk.heap[X]? = some (.cells #[.int .i64 N, .int .i64 I, .int .i64 B, .slice A q c] 39 (0, 0))
  own : wk.ownsRow (w.heap.size + 1) 61 8 (.slice A q c) q (L.flatMap ocells)
  hp : p < w.heap.size
  hX : w.heap.size < X
  nX : (Value.slice A q c).ownBlock ≠ some X
theorem St.lt {w wk : World} {p X q c : Nat} {N I B : Int} {A : Option Addr} {L : List Opt} (h : St w p X N I B A q c L wk) : X < wk.heap.size := lt_of_block h.x
theorem St.len {w wk : World} {p X q c : Nat} {N I B : Int} {A : Option Addr} {L : List Opt} (h : St w p X N I B A q c L wk) : L.length = q := by
  have h1 := h.own.1
  rw [flat_length ocells 8 ocells_len] at h1
  omega
theorem St.call {w wk w2 : World} {p X q c : Nat} {N I B : Int} {A : Option Addr} {L : List Opt} (h : St w p X N I B A q c L wk) (hc : CurAt w2 p) (hg : wk.grownBy w2 (some p)) : St w p X N I B A q c L w2 :=
  ⟨h.fr.call hc hg, box_call h.x4 hg (by have := h.hp; omega), box_call h.x hg (by have := h.hp; have := h.hX; omega), h.own.kept hg (by
    cases hk : (Value.slice A q c).ownBlock with
    | none => exact .inl rfl
    | some k =>
      refine .inr fun e => ?_
      injection e with e
      have h1 := (h.own.lt k hk).1
      have := h.hp
      omega), h.hp, h.hX, h.nX⟩
theorem St.alloc {w wk : World} {p X q c : Nat} {N I B : Int} {A : Option Addr} {L : List Opt} (h : St w p X N I B A q c L wk) (ob : Obj) : St w p X N I B A q c L (wk.alloc ob) :=
  ⟨h.fr.alloc ob, (Below.heap_alloc _ _ _ (lt_of_block h.x4)).trans h.x4, (Below.heap_alloc _ _ _ h.lt).trans h.x, h.own.alloc ob, h.hp, h.hX, h.nX⟩
theorem St.drew {w wk : World} {p X q c : Nat} {N I B : Int} {A : Option Addr} {L : List Opt} (h : St w p X N I B A q c L wk) : St w p X N I B A q c L wk.drew :=
  ⟨⟨h.fr.cur, ⟨h.fr.gr.os, h.fr.gr.tape, h.fr.gr.output, h.fr.gr.size, h.fr.gr.block⟩⟩, h.x4, h.x, h.own, h.hp, h.hX, h.nX⟩
/-- A cell of another block of the call's own is written. -/
theorem St.other {w wk : World} {p X q c : Nat} {N I B : Int} {A : Option Addr} {L : List Opt} (h : St w p X N I B A q c L wk) {a : Addr} (h1 : X < a.block) (h2 : (Value.slice A q c).ownBlock ≠ some a.block) (v : Value) : St w p X N I B A q c L (wk.setCell a v) :=
  ⟨h.fr.set h.hp (by have := h.hX; omega) v, (Below.heap_setCell _ _ _ _ (by have := h.hX; omega)).trans h.x4, (Below.heap_setCell _ _ _ _ (by omega)).trans h.x, ownsRow_setCell_other h.own h2 v, h.hp, h.hX, h.nX⟩
theorem St.setB {w wk : World} {p X q c : Nat} {N I B : Int} {A : Option Addr} {L : List Opt} (h : St w p X N I B A q c L wk) (B' : Int) : St w p X N I B' A q c L (wk.setCell ⟨X, 2, none⟩ (.int .i64 B')) :=
  ⟨h.fr.set h.hp (by have := h.hX; simp; omega) _, (Below.heap_setCell _ _ _ _ (by have := h.hX; simp; omega)).trans h.x4, by rw [heap_setCell_same _ _ _ _ _ _ h.x]; rfl, ownsRow_setCell_other h.own h.nX _, h.hp, h.hX, h.nX⟩
theorem St.setI {w wk : World} {p X q c : Nat} {N I B : Int} {A : Option Addr} {L : List Opt} (h : St w p X N I B A q c L wk) (I' : Int) : St w p X N I' B A q c L (wk.setCell ⟨X, 1, none⟩ (.int .i64 I')) :=
  ⟨h.fr.set h.hp (by have := h.hX; simp; omega) _, (Below.heap_setCell _ _ _ _ (by have := h.hX; simp; omega)).trans h.x4, by rw [heap_setCell_same _ _ _ _ _ _ h.x]; rfl, ownsRow_setCell_other h.own h.nX _, h.hp, h.hX, h.nX⟩
/-- What lies there behind 'append' ahead of the store. -/
theorem St.app {w wk w3 : World} {p X q c : Nat} {N I B : Int} {A : Option Addr} {L : List Opt} {ob : Obj} (h : St w p X N I B A q c L wk) (hg : (wk.alloc ob).grownBy w3 (Value.slice A q c).ownBlock) :
    w3.heap[X]? = some (.cells #[.int .i64 N, .int .i64 I, .int .i64 B, .slice A q c] 39 (0, 0)) ∧ w3.heap[w.heap.size]? = some (.cells #[.int .i64 0, .int .i64 0, .int .i64 0, .slice none 0 0] 39 (0, 0)) ∧ Fr w p w3 := by
  have h1 := (h.alloc ob)
  have hX := h.hX
  refine ⟨?_, ?_, h1.fr.own h.hp hg (fun k hk => by have := (h.own.lt k hk).1; omega)⟩
  · rw [hg.block X h1.lt (fun e => h.nX e.symm)]
    exact h1.x
  · rw [hg.block w.heap.size (lt_of_block h1.x4) (fun e => by have := (h.own.lt _ e.symm).1; omega)]
    exact h1.x4
theorem St.push {w wk w3 : World} {p X q c c3 : Nat} {N I B : Int} {A A3 : Option Addr} {L : List Opt} {o : Opt} {ob : Obj} (h : St w p X N I B A q c L wk) (hg : (wk.alloc ob).grownBy w3 (Value.slice A q c).ownBlock)
    (h3 : w3.ownsRow (w.heap.size + 1) 61 8 (.slice A3 (q + 1) c3) (q + 1) (L.flatMap ocells ++ ocells o))
    (hat : (Value.slice A3 (q + 1) c3).ownBlock = (Value.slice A q c).ownBlock ∨ ∃ k, X < k ∧ (Value.slice A3 (q + 1) c3).ownBlock = some k) : St w p X N I B A3 (q + 1) c3 (L ++ [o]) (w3.setCell ⟨X, 3, none⟩ (.slice A3 (q + 1) c3)) := by
  obtain ⟨h1, h2, h4⟩ := h.app hg
  have hX := h.hX
  have hlt := h.lt
  have hn : (Value.slice A3 (q + 1) c3).ownBlock ≠ some X := by
    rcases hat with hat | ⟨k, hk, hat⟩
    · rw [hat]; exact h.nX
    · rw [hat]
      intro e
      injection e with e
      omega
  refine ⟨h4.set h.hp (by simp; omega) _, (Below.heap_setCell _ _ _ _ (by simp; omega)).trans h2, by rw [heap_setCell_same _ _ _ _ _ _ h1]; rfl, ?_, h.hp, h.hX, hn⟩
  rw [List.flatMap_append, show [o].flatMap ocells = ocells o by simp]
  exact ownsRow_setCell_other h3 hn _
theorem l9Gate_int (N : Int) (w : World) (p : Nat) (hcur : CurAt w p) (h1 : 1 ≤ N) (h4 : N ≤ 4) : Calls Try.prog 22 #[.pointer (some ⟨p, 0, none⟩), .int .i64 N] w (DG w p) := by
  obtain ⟨n, rfl⟩ : ∃ n : Nat, N = n := ⟨N.toNat, by omega⟩
  exact l9Gate_any n w p hcur (by omega) (by omega)
theorem own_low {w : World} {B B' e size n : Nat} {v : Value} {xs : List Value} (h : w.ownsRow B e size v n xs) (hB : B' ≤ B) : w.ownsRow B' e size v n xs := by
  refine ⟨h.1, ?_⟩
  rcases h.2 with h2 | ⟨g, cap, cur, h1, h2, h3⟩
  · exact .inl h2
  · exact .inr ⟨g, cap, cur, h1, Nat.le_trans hB h2, h3⟩
def DR (w : World) (p most : Nat) (e : Ending) (w' : World) : Prop := ∃ (N I B : Int) (A : Option Addr) (n c : Nat) (L : List Opt), e = .returned (.agg #[.int .i64 N, .int .i64 I, .int .i64 B, .slice A n c]) ∧
  L.length = n ∧ n ≤ most ∧ 1 ≤ N ∧ N ≤ 3 ∧ 0 ≤ B ∧ B ≤ 2 ∧ w'.ownsRow w.heap.size 61 8 (.slice A n c) n (L.flatMap ocells) ∧ CurAt w' p ∧ w.grownBy w' (some p)
section
attribute [local go_sem ↓ high] fold_append2
set_option maxRecDepth 100000 in
set_option maxHeartbeats 8000000 in
theorem l21Right_any (most : Nat) (w : World) (p : Nat) (hcur : CurAt w p) (hm : most ≤ 100) : Calls Try.prog 12 #[.pointer (some ⟨p, 0, none⟩), .int .i64 most] w (DR w p most) := by
  obtain ⟨i0, hi, hz0, hz1, hz2⟩ := info_parts info_OpE
  have hp := hcur.lt
  go_enter Try.func12, Try.ntmps12
  go_wp2_with fail
  obtain ⟨w0, hw0⟩ : ∃ w0, w0 = w.alloc (.cells #[.int .i64 0, .int .i64 0, .int .i64 0, .slice none 0 0] 39) := ⟨_, rfl⟩
  rw [← hw0]
  have x0 : w0.heap[w.heap.size]? = some (.cells #[.int .i64 0, .int .i64 0, .int .i64 0, .slice none 0 0] 39 (0, 0)) := by rw [hw0]; exact boxed1_0 _ _
  have hfr0 : Fr w p w0 := by rw [hw0]; exact (Fr.start hcur).alloc _
  have s0 : w.heap.size < w0.heap.size := by rw [hw0]; simp
  clear hw0
  refine (l1Below_any 3 2 w0 p hfr0.cur (by omega) (by omega) (by omega)).mono ?_
  rintro e w1 ⟨y, hy0, hy1, rfl, hc1, hg1⟩
  have x1 := box_call x0 hg1 (by omega)
  have hfr1 := hfr0.call hc1 hg1
  have s1 : w.heap.size < w1.heap.size := by have := hg1.size; omega
  have X1 := Lib.hid x1
  clear x0 x1 hc1 hg1 hfr0
  have st : ∀ N : Int, St w p w1.heap.size N N 0 none 0 0 [] (w1.alloc (.cells #[.int .i64 N, .int .i64 N, .int .i64 0, .slice none 0 0] 39)) := fun N =>
    ⟨hfr1.alloc _, (Below.heap_alloc _ _ _ s1).trans X1.out, boxed1_0 _ _, World.ownsRow_nil _ _ _ _, hp, s1, by simp [Value.ownBlock]⟩
  go_upto_region 3 with (fail)
  obtain ⟨N, hN⟩ : ∃ N, N = 1 + y := ⟨_, rfl⟩
  obtain ⟨X, hX⟩ : ∃ X, X = w1.heap.size := ⟨_, rfl⟩
  rw [← hN]
  have st0 := st N
  rw [← hX] at st0 ⊢
  obtain ⟨w2, hw2⟩ : ∃ w2, w2 = w1.alloc (.cells #[.int .i64 N, .int .i64 N, .int .i64 0, .slice none 0 0] 39) := ⟨_, rfl⟩
  rw [← hw2] at st0 ⊢
  have hN1 : 1 ≤ N := by omega
  have hN3 : N ≤ 3 := by omega
  clear hw2 hX hN st X1 hfr1 s1 hy0 hy1
  go_cut [22] (fun s wx => ∃ bb : Bool, s = .bool bb ∧ (bb = true → 1 < N) ∧ St w p X N N 0 none 0 0 [] wx)
  case first =>
    by_cases hn2 : 1 < N
    · go_wp2_with fail
      refine (l1Once_any 4 w2 p st0.fr.cur (by omega) (by omega)).mono ?_
      rintro e w3 ⟨bb, rfl, hc3, hg3⟩
      have st1 := st0.call hc3 hg3
      clear hc3 hg3 st0
      go_wp2_with fail
      go_meet
      exact ⟨bb, rfl, fun _ => hn2, st1⟩
    · go_wp2_with fail
      go_meet
      exact ⟨false, rfl, by simp, st0⟩
  case rest =>
    obtain ⟨bb, rfl, hbb, st1⟩ := hcut
    obtain ⟨wA, rfl⟩ : ∃ wA : World, wA = wc := ⟨_, rfl⟩
    clear st0
    go_upto_if 22 with (fail)
    go_cut [] (fun wx => ∃ I : Int, St w p X N I 0 none 0 0 [] wx)
    case first =>
      cases bb
      · go_wp2_with fail
        go_meet
        exact ⟨N, st1⟩
      · have h1N := hbb rfl
        obtain ⟨r0, r1, r2, r3⟩ := boxcells4 (lay := Below.refl _ _) st1.x
        have g1 := free_at (j := 1) st1.x
        have HT := Lib.hid (st1.setI (N - 1))
        clear st1
        go_wp2_with fail
        go_meet
        exact ⟨N - 1, HT.out⟩
    case rest =>
      clear st1
      obtain ⟨I, st2⟩ := hcut
      obtain ⟨wB, rfl⟩ : ∃ wB : World, wB = wc := ⟨_, rfl⟩
      go_wp2_with fail
      refine (l1Once_any 2 wB p st2.fr.cur (by omega) (by omega)).mono ?_
      rintro e wC ⟨wd, rfl, hcC, hgC⟩
      have st3 := st2.call hcC hgC
      clear hcC hgC st2
      go_wp2_with fail
      refine (l1Below_any (most + 1) most wC p st3.fr.cur (by omega) (by omega) (by omega)).mono ?_
      rintro e wD ⟨mm, hm0, hm1, rfl, hcD, hgD⟩
      obtain ⟨m, rfl⟩ : ∃ m : Nat, mm = m := ⟨mm.toNat, by omega⟩
      have st4 := st3.call hcD hgD
      clear hcD hgD st3
      go_wp2_with fail
      go_loopw [9] (fun i wr => ∃ (t : Nat) (B : Int) (A : Option Addr) (q c : Nat) (L : List Opt), t ≤ m ∧ i = .int .i64 t ∧ q ≤ t ∧ 0 ≤ B ∧ B ≤ 2 ∧ St w p X N I B A q c L wr) (fun i _ => m - (intOf i).toNat)
      case atStart => exact ⟨0, 0, none, 0, 0, [], Nat.zero_le _, rfl, Nat.le_refl _, by omega, by omega, st4⟩
      case round =>
        clear st4
        obtain ⟨t, B, A, q, c, L, ht, rfl, hq, hB1, hB2, S0⟩ := hrel
        obtain ⟨wE, rfl⟩ : ∃ wE : World, wE = wr := ⟨_, rfl⟩
        by_cases hlt : t < m
        · obtain ⟨r0, r1, r2, r3⟩ := boxcells4 (lay := Below.refl _ _) S0.x
          go_upto_region 10 with (fail)
          go_cut [46] (fun s wx => ∃ bb : Bool, s = .bool bb ∧ (bb = true → B < 2) ∧ St w p X N I B A q c L wx)
          case first =>
            cases wd
            · go_wp2_with fail
              go_meet
              exact ⟨false, rfl, by simp, S0⟩
            · by_cases hb2 : B < 2
              · go_wp2_with fail
                refine (l1Once_any 4 wE p S0.fr.cur (by omega) (by omega)).mono ?_
                rintro e wF ⟨bf, rfl, hcF, hgF⟩
                have S1 := S0.call hcF hgF
                clear hcF hgF S0 r0 r1 r2 r3
                go_wp2_with fail
                go_meet
                exact ⟨bf, rfl, fun _ => hb2, S1⟩
              · go_wp2_with fail
                go_meet
                exact ⟨false, rfl, by simp, S0⟩
          case rest =>
            clear S0 r0 r1 r2 r3
            obtain ⟨bf, rfl, hbf, S1⟩ := hcut
            obtain ⟨wF, rfl⟩ : ∃ wF : World, wF = wc := ⟨_, rfl⟩
            cases bf
            · go_wp2_with fail
              refine (l9Gate_int N wF p S1.fr.cur (by omega) (by omega)).mono ?_
              rintro e wG ⟨gk, ga, gb, gc, rfl, hcG, hgG⟩
              have S2 := S1.call hcG hgG
              clear hcG hgG S1 hbf
              have lX := S2.lt
              go_upto_region 14 with (fail)
              have y3 : (wG.alloc (.cells #[.int .i64 1, .int .i64 gk, .int .i64 ga, .int .i64 gb, .int .i64 gc, .int .i64 0, .int .i64 0, .int .i64 0] 61)).heap[wG.heap.size]? = some (.cells #[.int .i64 1, .int .i64 gk, .int .i64 ga, .int .i64 gb, .int .i64 gc, .int .i64 0, .int .i64 0, .int .i64 0] 61 (0, 0)) := boxed1_0 _ _
              have S3 := S2.alloc (.cells #[.int .i64 1, .int .i64 gk, .int .i64 ga, .int .i64 gb, .int .i64 gc, .int .i64 0, .int .i64 0, .int .i64 0] 61)
              have ow : ∀ k, (Value.slice A q c).ownBlock = some k → k < wG.heap.size := fun k hk => (S2.own.lt k hk).2
              obtain ⟨wH, hwH⟩ : ∃ wH, wH = wG.alloc (.cells #[.int .i64 1, .int .i64 gk, .int .i64 ga, .int .i64 gb, .int .i64 gc, .int .i64 0, .int .i64 0, .int .i64 0] 61) := ⟨_, rfl⟩
              rw [← hwH] at y3 S3 ⊢
              obtain ⟨Y, hY⟩ : ∃ Y, Y = wG.heap.size := ⟨_, rfl⟩
              rw [← hY] at y3 ow lX ⊢
              clear hwH S2 hY
              obtain ⟨r0, r1, r2, r3⟩ := boxcells4 (lay := Below.refl _ _) S3.x
              go_cut [72] (fun s wx => ∃ bb : Bool, s = .bool bb ∧ (bb = true → 0 < B) ∧ St w p X N I B A q c L wx ∧ wx.heap[Y]? = some (.cells #[.int .i64 1, .int .i64 gk, .int .i64 ga, .int .i64 gb, .int .i64 gc, .int .i64 0, .int .i64 0, .int .i64 0] 61 (0, 0)))
              case first =>
                by_cases hb0 : 0 < B
                · go_wp2_with fail
                  refine (l1Once_any 2 wH p S3.fr.cur (by omega) (by omega)).mono ?_
                  rintro e wI ⟨bi, rfl, hcI, hgI⟩
                  have S4 := S3.call hcI hgI
                  have y4 := box_call y3 hgI (by have := S3.hp; have := S3.hX; omega)
                  clear hcI hgI S3 y3 r0 r1 r2 r3
                  go_wp2_with fail
                  go_meet
                  exact ⟨bi, rfl, fun _ => hb0, S4, y4⟩
                · obtain rfl : B = 0 := by omega
                  go_wp2_with fail
                  go_meet
                  exact ⟨false, rfl, by simp, S3, y3⟩
              case rest =>
                clear S3 y3 r0 r1 r2 r3
                obtain ⟨bi, rfl, hbi, S4, y4⟩ := hcut
                obtain ⟨wI, rfl⟩ : ∃ wI : World, wI = wc := ⟨_, rfl⟩
                go_upto_if 72 with (fail)
                go_cut [] (fun wx => ∃ f : Int, St w p X N I B A q c L wx ∧ wx.heap[Y]? = some (.cells #[.int .i64 1, .int .i64 gk, .int .i64 ga, .int .i64 gb, .int .i64 gc, .int .i64 0, .int .i64 0, .int .i64 f] 61 (0, 0)))
                case first =>
                  cases bi
                  · go_wp2_with fail
                    go_meet
                    exact ⟨0, S4, y4⟩
                  · have hb0 := hbi rfl
                    obtain ⟨r0, r1, r2, r3⟩ := boxcells4 (lay := Below.refl _ _) S4.x
                    go_wp2_with fail
                    refine (l1Below_any B 1 wI p S4.fr.cur (by omega) (by omega) (by omega)).mono ?_
                    rintro e wJ ⟨x, hx0, hx1, rfl, hcJ, hgJ⟩
                    have S5 := S4.call hcJ hgJ
                    have y5 := box_call y4 hgJ (by have := S4.hp; have := S4.hX; omega)
                    clear hcJ hgJ S4 y4 r0 r1 r2 r3
                    have f7 := free_at (j := 7) y5
                    obtain ⟨z0, z1, z2, z3, z4, z5, z6, z7⟩ := boxcells8 (lay := Below.refl _ _) y5
                    have HT := Lib.hid (S5.other (a := ⟨Y, 7, none⟩) (by exact lX) (by
                      intro e
                      have := ow _ e
                      simp at this) (.int .i64 (1 + x)))
                    have HY := Lib.hid (show (wJ.setCell ⟨Y, 7, none⟩ (.int .i64 (1 + x))).heap[Y]? = some (.cells #[.int .i64 1, .int .i64 gk, .int .i64 ga, .int .i64 gb, .int .i64 gc, .int .i64 0, .int .i64 0, .int .i64 (1 + x)] 61 (0, 0)) by rw [heap_setCell_same _ _ _ _ _ _ y5]; rfl)
                    clear S5 y5
                    go_wp2_with fail
                    go_meet
                    exact ⟨1 + x, HT.out, HY.out⟩
                case rest =>
                  clear S4 y4 hbi
                  obtain ⟨f, S6, y6⟩ := hcut
                  obtain ⟨wK, rfl⟩ : ∃ wK : World, wK = wc := ⟨_, rfl⟩
                  obtain ⟨r0, r1, r2, r3⟩ := boxcells4 (lay := Below.refl _ _) S6.x
                  obtain ⟨z0, z1, z2, z3, z4, z5, z6, z7⟩ := boxcells8 (lay := Below.refl _ _) y6
                  have HS := Lib.hid S6
                  have lX2 := S6.lt
                  have ownS := S6.own
                  clear S6 y6 ow
                  go_wp2_with (at_builtin; refine wpList_append_rd _ rfl _ _ 37 rfl (w.heap.size + 1) 61 i0 _ 8 64 Try.underlying37 hi hz0 hz1 hz2 rfl (by decide) _ _ _ rfl (ownS.alloc _) _ 1 1 _ rfl (rd_lit1 ?c0 rfl) ?c2 ?c3 ?c4 ?c5 ?_)
                  case c0 => first | rfl | simp
                  case c2 => repeat' (first | rfl | apply And.intro)
                  case c3 => simp only [maxLen]; omega
                  case c4 => omega
                  case c5 => have := HS.out.hX; simp; omega
                  intro vv ww own3 gr3 hat3
                  obtain ⟨A3, c3, rfl, _, _, _⟩ := rd_of_own own3
                  obtain ⟨a1, a2, a3⟩ := HS.out.app gr3
                  obtain ⟨s0, s1, s2, s3⟩ := boxcells4 (lay := Below.refl _ _) a1
                  have u3 := free_at (j := 3) a1
                  have HP := Lib.hid (HS.out.push (o := ⟨1, ⟨gk, ga, gb, gc⟩, 0, 0, f⟩) gr3 own3 (hat3.imp id fun h => ⟨_, by omega, h⟩))
                  clear hat3 a1 a2 a3 own3 gr3 z0 z1 z2 z3 z4 z5 z6 z7 r0 r1 r2 r3 ownS
                  go_wp2_with fail
                  go_roundw
                  case rel => exact ⟨t + 1, B, A3, q + 1, c3, L ++ [⟨1, ⟨gk, ga, gb, gc⟩, 0, 0, f⟩], by omega, by go_num, by omega, hB1, hB2, HP.out⟩
                  case measure => simp [intOf]; omega
            · have hb2 := hbf rfl
              obtain ⟨r0, r1, r2, r3⟩ := boxcells4 (lay := Below.refl _ _) S1.x
              have g3 := free_at (j := 3) S1.x
              have lX := S1.lt
              have HS1 := Lib.hid S1
              clear S1 hbf
              go_upto_region 11 with (fail)
              go_cut [] (fun wx => ∃ (A3 : Option Addr) (c3 : Nat) (o : Opt), St w p X N I B A3 (q + 1) c3 (L ++ [o]) wx)
              case first =>
                go_region_with (go_at_call 13; (with_reducible refine (l1Below_any N 3 _ p HS1.out.drew.fr.cur (by omega) (by omega) (by omega)).mono ?_); rintro e w2 ⟨x, hx0, hx1, rfl, hc2, hg2⟩; have S2 := HS1.out.drew.call hc2 hg2; have lX2 := S2.lt; obtain ⟨k0, k1, k2, k3⟩ := boxcells4 (lay := Below.refl _ _) S2.x; obtain ⟨v3, w3, hrun3, hown3, hgrow3, hat3⟩ := run_append_rd (P := Try.prog) (w2.alloc (.cells #[.int .i64 2, .int .i64 0, .int .i64 0, .int .i64 0, .int .i64 0, .int .i64 x, .int .i64 B, .int .i64 0] 61)) (w.heap.size + 1) 37 37 61 i0 _ 8 64 Try.underlying37 hi hz0 hz1 hz2 rfl (by omega) (.slice A q c) q (L.flatMap ocells) (S2.own.alloc _) (some ⟨w2.heap.size, 0, none⟩) 1 1 [.int .i64 2, .int .i64 0, .int .i64 0, .int .i64 0, .int .i64 0, .int .i64 x, .int .i64 B, .int .i64 0] (rd_lit1 rfl rfl) (by simp [Value.oneCell']) (by simp only [maxLen]; omega) (by omega) (by have := S2.lt; have := S2.hX; simp; omega); rw [fold_append2] at hrun3; obtain ⟨A3, c3, rfl, _, _, _⟩ := rd_of_own hown3; obtain ⟨a1, a2, a3⟩ := S2.app hgrow3; obtain ⟨s0, s1, s2, s3⟩ := boxcells4 (lay := Below.refl _ _) a1; have u3 := free_at (j := 3) a1; have HP := Lib.hid (S2.push (o := ⟨2, ⟨0, 0, 0, 0⟩, x, B, 0⟩) hgrow3 hown3 (hat3.imp id fun h => ⟨_, by simp; omega, h⟩)); clear a1 a2 a3)
                all_goals (go_wp2_with fail; go_meet; exact ⟨A3, c3, _, HP.out⟩)
              case rest =>
                clear r0 r1 r2 r3 g3 HS1
                obtain ⟨A3, c3, o, S2⟩ := hcut
                obtain ⟨wG, rfl⟩ : ∃ wG : World, wG = wc := ⟨_, rfl⟩
                obtain ⟨r0, r1, r2, r3⟩ := boxcells4 (lay := Below.refl _ _) S2.x
                have g2 := free_at (j := 2) S2.x
                have HP := Lib.hid (S2.setB (B + 1))
                clear S2
                go_wp2_with fail
                go_roundw
                case rel => exact ⟨t + 1, B + 1, A3, q + 1, c3, L ++ [o], by omega, by go_num, by omega, by omega, by omega, HP.out⟩
                case measure => simp [intOf]; omega
        · obtain rfl : t = m := by omega
          obtain ⟨r0, r1, r2, r3⟩ := boxcells4 (lay := Below.refl _ _) S0.x
          obtain ⟨q0, q1, q2, q3⟩ := boxcells4 (lay := Below.refl _ _) S0.x4
          have f0 := free_at (j := 0) S0.x4
          have f1 := free_at (j := 1) S0.x4
          have f2 := free_at (j := 2) S0.x4
          have f3 := free_at (j := 3) S0.x4
          have HS := Lib.hid S0
          have hXX := S0.hX
          have lX := S0.lt
          clear S0
          go_wp2_with fail
          have hS := HS.out
          have hfr := hS.fr
          refine bodyPost_ret (v := .agg #[.int .i64 N, .int .i64 I, .int .i64 B, .slice A q c]) (by simp [results, Try.results12, go_sem, q0, q1, q2, q3]) rfl ⟨N, I, B, A, q, c, L, rfl, hS.len, by omega, hN1, hN3, hB1, hB2, ?_, (Fr.cur (w := w) (by repeat (first | assumption | (with_reducible refine Fr.alloc ?_ _) | (with_reducible refine Fr.set ?_ hp (by first | omega | (simp; done) | (simp; omega)) _)))), (Fr.gr (by repeat (first | assumption | (with_reducible refine Fr.alloc ?_ _) | (with_reducible refine Fr.set ?_ hp (by first | omega | (simp; done) | (simp; omega)) _))))⟩
          have hne : ∀ j, (Value.slice A q c).ownBlock ≠ some (⟨w.heap.size, j, none⟩ : Addr).block := fun j e => by
            have := (hS.own.lt _ e).1
            simp at this
            omega
          exact ownsRow_setCell_other (ownsRow_setCell_other (ownsRow_setCell_other (ownsRow_setCell_other (own_low hS.own (by omega)) (hne 0) _) (hne 1) _) (hne 2) _) (hne 3) _
end
end Go.Proofs.Ytgjpicekdbemiab
namespace Go.Proofs.Ytgjpicekdbemiab
open Go.RowKit
set_option linter.unusedVariables false
theorem rdM_nil (w : World) : RdM w none 0 [] := ⟨[], rfl, ⟨rfl, fun h => absurd h (by decide)⟩, fun j r h => by simp at h⟩
theorem shp_nil : Shp [] := ⟨Nat.zero_le _, by simp⟩
/-- The state of a draw of a branch: the cursor, the branch's box, the result's box, the branch. -/
structure Dr (w : World) (p X Y : Nat) (b : Int) (A : Option Addr) (n c : Nat) (M : List (List Dm)) (W : World) : Prop where
  cur : CurAt W p
  x : W.heap[X]? = some (.cells #[.int .i64 b, .slice A n c] 26 (0, 0))
  r : W.heap[w.heap.size]? = some (.cells #[.int .i64 0, .slice none 0 0] 26 (0, 0))
  sm : SM (fun k => k < Y ∨ k = X) W A n M
  bw : Below w.heap.size w W
  hp : w.heap.size < p
  hY : p < Y
  hX : Y ≤ X
theorem Dr.call {w W W' : World} {p X Y : Nat} {b : Int} {A : Option Addr} {n c : Nat} {M : List (List Dm)} (h : Dr w p X Y b A n c M W) (hc : CurAt W' p) (hg : W.grownBy W' (some p)) : Dr w p X Y b A n c M W' := by
  have hp := h.hp
  have hX := h.hX
  have hY := h.hY
  have hXl := lt_of_block h.x
  refine ⟨hc, (hg.block X hXl (fun e => by injection e with e; omega)).trans h.x, (hg.block _ (lt_of_block h.r) (fun e => by injection e with e; omega)).trans h.r, h.sm.near (near_grown hg (fun k e => by injection e with e; exact .inl (by omega))), ?_, hp, hY, hX⟩
  exact h.bw.grown hg h.bw.size (fun k e => by injection e with e; omega)
theorem Dr.drew {w W : World} {p X Y : Nat} {b : Int} {A : Option Addr} {n c : Nat} {M : List (List Dm)} (h : Dr w p X Y b A n c M W) : Dr w p X Y b A n c M W.drew :=
  ⟨h.cur, h.x, h.r, h.sm, h.bw.drew, h.hp, h.hY, h.hX⟩
theorem Dr.store {w W : World} {p X Y : Nat} {b b' : Int} {A A' : Option Addr} {n c n' c' : Nat} {M M' : List (List Dm)} (h : Dr w p X Y b A n c M W) (hs : SM (fun k => k < Y ∨ k = X) W A' n' M') :
    Dr w p X Y b' A' n' c' M' ((W.setCell ⟨X, 0, none⟩ (.int .i64 b')).setCell ⟨X, 1, none⟩ (.slice A' n' c')) := by
  have hp := h.hp
  have hX := h.hX
  have hY := h.hY
  refine ⟨?_, set2 _ _ h.x, (Below.heap_setCell _ _ _ _ (show w.heap.size ≠ X by omega)).trans ((Below.heap_setCell _ _ _ _ (show w.heap.size ≠ X by omega)).trans h.r), hs.near (near_set2 (.inr rfl)), below_set2 h.bw (by omega), hp, hY, hX⟩
  exact h.cur.kept (fun k hk => (Below.heap_setCell _ _ _ _ (show k ≠ X by omega)).trans (Below.heap_setCell _ _ _ _ (show k ≠ X by omega))) (size_set2 (Nat.le_refl _))
/-- A branch that was drawn, and two numbers. -/
def DrewMb (w : World) (e : Ending) (w' : World) : Prop := ∃ (b : Int) (A : Option Addr) (n c : Nat) (M : List (List Dm)) (q bit : Int), e = .returned (.tuple #[.agg #[.int .i64 b, .slice A n c], .int .i64 q, .int .i64 bit]) ∧ RdM w' A n M ∧ Shp M ∧ Below w.heap.size w w' ∧ w.heap.size ≤ w'.heap.size
theorem Dr.done {w W : World} {p X Y : Nat} {b : Int} {A : Option Addr} {n c : Nat} {M : List (List Dm)} (h : Dr w p X Y b A n c M W) (hs : Shp M) (q bit : Int) (v0 v1 : Value) :
    DrewMb w (.returned (.tuple #[.agg #[.int .i64 b, .slice A n c], .int .i64 q, .int .i64 bit])) ((W.setCell ⟨w.heap.size, 0, none⟩ v0).setCell ⟨w.heap.size, 1, none⟩ v1) := by
  have hp := h.hp
  have hY := h.hY
  exact ⟨b, A, n, c, M, q, bit, rfl, (h.sm.near (near_set2 (C := fun k => k < Y ∨ k = X) (.inl (show w.heap.size < Y by omega)))).rd, hs, below_set2 h.bw (Nat.le_refl _), size_set2 h.bw.size⟩
theorem rd_own8 {w : World} {base E size n c : Nat} {A : Option Addr} {xs : List Value} (h : w.ownsRow base E size (.slice A n c) n xs) : Rd w size A n xs := rd_own h
set_option maxRecDepth 100000 in
set_option maxHeartbeats 16000000 in
theorem DrawMeasureBranch_any (A : Option Addr) (n c : Nat) (bs : List (Fin 256)) (w : World) (h : Rd w 1 A n (bs.flatMap bcell)) (hl : bs.length = n) (hn : n ≤ 1048576) : Calls Try.prog 5 #[.slice A n c] w (DrewMb w) := by
  obtain ⟨w0, hw0⟩ : ∃ w0, w0 = w.alloc (.cells #[.int .i64 0, .slice none 0 0] 26) := ⟨_, rfl⟩
  have r0 := Lib.hid (show w0.heap[w.heap.size]? = some (.cells #[.int .i64 0, .slice none 0 0] 26 (0, 0)) by rw [hw0]; exact boxed1_0 _ _)
  have b0 : Below w.heap.size w w0 := by rw [hw0]; exact (by repeat (first | exact Below.refl _ _ | assumption | (refine Below.trans ?_ (Below.mono (by assumption) (by first | omega | (simp; done) | (simp; omega)))) | (with_reducible refine Below.drew ?_) | (with_reducible refine Below.alloc ?_ (by first | omega | (simp; done) | (simp; omega)) _) | (with_reducible refine Below.setCell ?_ (by first | omega | (simp; done) | (simp; omega)) _)))
  have s0 : w.heap.size < w0.heap.size := by rw [hw0]; simp
  have H0 := Lib.hid (h.below b0)
  have HW := Lib.hid hw0
  clear h hw0
  go_enter Try.func5, Try.ntmps5
  go_wp2_with fail
  rw [← HW.out]
  refine (l1New_any A n c bs w0 H0.out hl hn).mono ?_
  rintro e w1 ⟨p, rfl, hp1, hc1, hb1⟩
  have r1 := Lib.hid ((hb1.block _ s0).trans r0.out)
  have b1 := b0.trans (hb1.mono b0.size)
  have hpl := hc1.lt
  have hsz := hb1.size
  have HR := Lib.hid (show Calls Try.prog 12 #[.pointer (some ⟨p, 0, none⟩), .int .i64 6] w1 (DR w1 p 6) from l21Right_any 6 w1 p hc1 (by decide))
  clear hb1 b0 hc1
  go_wp2_with fail
  refine HR.out.mono ?_
  rintro e w2 ⟨N, I, B, A1, n1, c1, L1, rfl, hl1, hn1, _, _, _, _, ho1, hc2, hg2⟩
  have r2 := Lib.hid ((hg2.block _ (by omega) (fun e => by injection e with e; omega)).trans r1.out)
  have b2 : Below w.heap.size w w2 := b1.grown hg2 b1.size (fun k e => by injection e with e; omega)
  have hs2 := hg2.size
  have HSI := Lib.hid (Simulate_any N I B A1 n1 c1 L1 w2 (rd_own8 ho1) hl1 hn1)
  clear hg2 b1 ho1 HR
  go_wp2_with fail
  refine HSI.out.mono ?_
  rintro e w3 ⟨A3, n3, c3, L3, ok, rfl, g1, g2, g3, g4, g5, hb3, hs3⟩
  have r3 := Lib.hid ((hb3.block _ (by omega)).trans r2.out)
  have b3 : Below w.heap.size w w3 := b2.trans (hb3.mono b2.size)
  have c3' : CurAt w3 p := hc2.below hb3
  have SBL := Lib.hid g1
  have SHL := Lib.hid g5
  clear hb3 b2 hc2 HSI g1 g5
  go_upto_region 4 with (fail)
  obtain ⟨X, hX⟩ : ∃ X, X = w3.heap.size := ⟨_, rfl⟩
  rw [← hX]
  obtain ⟨w4, hw4⟩ : ∃ w4, w4 = w3.alloc (.cells #[.int .i64 0, .slice none 0 0] 26) := ⟨_, rfl⟩
  rw [← hw4]
  have d4 : Dr w p X w2.heap.size 0 none 0 0 [] w4 := by
    refine ⟨?_, ?_, ?_, fun W _ => rdM_nil W, ?_, by omega, by omega, by omega⟩
    · rw [hw4]; exact c3'.below ((Below.refl _ _).alloc (Nat.le_refl _) _)
    · rw [hw4, hX]; exact heap_alloc_new _ _
    · rw [hw4]; exact (Below.heap_alloc _ _ _ (by omega)).trans r3.out
    · rw [hw4]; exact b3.alloc b3.size _
  have SB4 := Lib.hid (SBL.out.more (D := fun k => k < w2.heap.size ∨ k = X) (near_below (show Below w3.heap.size w3 w4 by rw [hw4]; exact (by repeat (first | exact Below.refl _ _ | assumption | (refine Below.trans ?_ (Below.mono (by assumption) (by first | omega | (simp; done) | (simp; omega)))) | (with_reducible refine Below.drew ?_) | (with_reducible refine Below.alloc ?_ (by first | omega | (simp; done) | (simp; omega)) _) | (with_reducible refine Below.setCell ?_ (by first | omega | (simp; done) | (simp; omega)) _))))) (fun i hi hd => by
    rcases hd with hd | hd
    · exact hd
    · omega))
  have D4 := Lib.hid d4
  have hlt2 : w2.heap.size ≤ X := by omega
  have hpw2 : p < w2.heap.size := by omega
  clear hw4 hX c3' b3 d4 SBL
  cases ok
  · go_upto_region 6 with (fail)
    have hst := (D4.out).drew
    have KX : Hid (∀ W' : World, W'.heap[X]? = some (.cells #[.int .i64 0, .slice none 0 0] 26 (0, 0)) → (W'.cell? ⟨X, 0, none⟩ = some (.int .i64 0) ∧ W'.cell? ⟨X, 1, none⟩ = some (.slice none 0 0))) := fun W' hW => ⟨cell_at (j := 0) hW rfl, cell_at (j := 1) hW rfl⟩
    have HX0 := Lib.hid (D4.out).x
    have HA := Lib.hid (show Calls Try.prog 13 #[.pointer (some ⟨p, 0, none⟩), .int .i64 5] w4.drew (DI w4.drew p 0 4) from l1Below_any 5 4 _ p hst.cur (by omega) (by omega) (by omega))
    have hne : X ≠ w.heap.size := by have := hst.hp; have := hst.hX; have := hst.hY; omega
    go_region_held3 (fun W' => W'.cell? ⟨X, 0, none⟩ = some (.int .i64 0) ∧ W'.cell? ⟨X, 1, none⟩ = some (.slice none 0 0)) ((refine KX.out _ ?_; first | with_reducible exact HX0.out | with_reducible exact hst.x | exact (Below.heap_setCell _ _ _ _ hne).trans ((Below.heap_setCell _ _ _ _ hne).trans hst.x)))
      (first | (go_at_call 13; (with_reducible refine HA.out.mono ?_); rintro e v7 ⟨z1, hz0, hz1, rfl, hc7, hg7⟩; have hst := hst.call hc7 hg7; have kr0 := cell_at (j := 0) hst.r rfl; have kr1 := cell_at (j := 1) hst.r rfl; have fr0 := free_b (j := 0) hst.r; have fr1 := free_b (j := 1) hst.r) | (go_at_call 13; (with_reducible refine (l1Below_any 5 4 _ p hst.cur (by omega) (by omega) (by omega)).mono ?_); rintro e v8 ⟨z2, hy0, hy1, rfl, hc8, hg8⟩; have hst := hst.call hc8 hg8; have kr0 := cell_at (j := 0) hst.r rfl; have kr1 := cell_at (j := 1) hst.r rfl; have fr0 := free_b (j := 0) hst.r; have fr1 := free_b (j := 1) hst.r))
    all_goals go_wp2_with fail
    all_goals exact bodyPost_ret (v := .tuple #[.agg #[.int .i64 0, .slice none 0 0], .int .i64 (IntKind.i64.wrap (z1 - 1)), .int .i64 (IntKind.i64.wrap (z2 - 1))]) (by simp [results, Try.results5, go_sem, kr0, kr1]) rfl (hst.done shp_nil _ _ _ _)
  · by_cases h0 : n3 = 0
    · subst h0
      go_upto_region 6 with (fail)
      have hst := (D4.out).drew
      have KX : Hid (∀ W' : World, W'.heap[X]? = some (.cells #[.int .i64 0, .slice none 0 0] 26 (0, 0)) → (W'.cell? ⟨X, 0, none⟩ = some (.int .i64 0) ∧ W'.cell? ⟨X, 1, none⟩ = some (.slice none 0 0))) := fun W' hW => ⟨cell_at (j := 0) hW rfl, cell_at (j := 1) hW rfl⟩
      have HX0 := Lib.hid (D4.out).x
      have HA := Lib.hid (show Calls Try.prog 13 #[.pointer (some ⟨p, 0, none⟩), .int .i64 5] w4.drew (DI w4.drew p 0 4) from l1Below_any 5 4 _ p hst.cur (by omega) (by omega) (by omega))
      have hne : X ≠ w.heap.size := by have := hst.hp; have := hst.hX; have := hst.hY; omega
      go_region_held3 (fun W' => W'.cell? ⟨X, 0, none⟩ = some (.int .i64 0) ∧ W'.cell? ⟨X, 1, none⟩ = some (.slice none 0 0)) ((refine KX.out _ ?_; first | with_reducible exact HX0.out | with_reducible exact hst.x | exact (Below.heap_setCell _ _ _ _ hne).trans ((Below.heap_setCell _ _ _ _ hne).trans hst.x)))
        (first | (go_at_call 13; (with_reducible refine HA.out.mono ?_); rintro e v7 ⟨z1, hz0, hz1, rfl, hc7, hg7⟩; have hst := hst.call hc7 hg7; have kr0 := cell_at (j := 0) hst.r rfl; have kr1 := cell_at (j := 1) hst.r rfl; have fr0 := free_b (j := 0) hst.r; have fr1 := free_b (j := 1) hst.r) | (go_at_call 13; (with_reducible refine (l1Below_any 5 4 _ p hst.cur (by omega) (by omega) (by omega)).mono ?_); rintro e v8 ⟨z2, hy0, hy1, rfl, hc8, hg8⟩; have hst := hst.call hc8 hg8; have kr0 := cell_at (j := 0) hst.r rfl; have kr1 := cell_at (j := 1) hst.r rfl; have fr0 := free_b (j := 0) hst.r; have fr1 := free_b (j := 1) hst.r))
      all_goals go_wp2_with fail
      all_goals exact bodyPost_ret (v := .tuple #[.agg #[.int .i64 0, .slice none 0 0], .int .i64 (IntKind.i64.wrap (z1 - 1)), .int .i64 (IntKind.i64.wrap (z2 - 1))]) (by simp [results, Try.results5, go_sem, kr0, kr1]) rfl (hst.done shp_nil _ _ _ _)
    · have hk : decide ((0 : Int) < (n3 : Int)) = true := by simp; omega
      have HB := Lib.hid (show Calls Try.prog 13 #[.pointer (some ⟨p, 0, none⟩), .int .i64 n3] w4 (DI w4 p 0 ((n3 : Int) - 1)) from l1Below_any n3 ((n3 : Int) - 1) w4 p D4.out.cur (by omega) (by omega) (by omega))
      go_wp2_with fail
      refine HB.out.mono ?_
      rintro e w5 ⟨y, hy0, hy1, rfl, hc5, hg5⟩
      obtain ⟨j, rfl⟩ : ∃ j : Nat, y = j := ⟨y.toNat, by omega⟩
      have hjn : j < n3 := by omega
      obtain ⟨x, hx⟩ : ∃ x, L3[j]? = some x := ⟨_, List.getElem?_eq_getElem (by rw [SB4.out.len]; exact hjn)⟩
      have SB5 := SB4.out.near (near_grown hg5 (fun k e => by injection e with e; exact .inl (by omega)))
      obtain ⟨bb, off, ax, cx, rfl, hbl, kl0, kl1, hxc, hxm, hsm⟩ := SB5.at hx
      have d5 := D4.out.call hc5 hg5
      have kx0 := cell_at (j := 0) d5.x rfl
      have kx1 := cell_at (j := 1) d5.x rfl
      have fx0 := free_b (j := 0) d5.x
      have fx1 := free_b (j := 1) d5.x
      have HSX := Lib.hid (SHL.out x (List.mem_of_getElem? hx))
      have D5 := Lib.hid d5
      clear hx d5 SB5 hc5 hg5
      go_upto_region 6 with (fail)
      have d6 := D5.out.store (b' := x.b) (c' := cx) hsm
      obtain ⟨w6, hw6⟩ : ∃ w6, w6 = (w5.setCell ⟨X, 0, none⟩ (.int .i64 x.b)).setCell ⟨X, 1, none⟩ (.slice ax x.M.length cx) := ⟨_, rfl⟩
      rw [← hw6] at d6 ⊢
      have D6 := Lib.hid d6
      clear hw6 d6
      have hst := (D6.out).drew
      have KX : Hid (∀ W' : World, W'.heap[X]? = some (.cells #[.int .i64 x.b, .slice ax x.M.length cx] 26 (0, 0)) → (W'.cell? ⟨X, 0, none⟩ = some (.int .i64 x.b) ∧ W'.cell? ⟨X, 1, none⟩ = some (.slice ax x.M.length cx))) := fun W' hW => ⟨cell_at (j := 0) hW rfl, cell_at (j := 1) hW rfl⟩
      have HX0 := Lib.hid (D6.out).x
      have HA := Lib.hid (show Calls Try.prog 13 #[.pointer (some ⟨p, 0, none⟩), .int .i64 5] w6.drew (DI w6.drew p 0 4) from l1Below_any 5 4 _ p hst.cur (by omega) (by omega) (by omega))
      have hne : X ≠ w.heap.size := by have := hst.hp; have := hst.hX; have := hst.hY; omega
      go_region_held3 (fun W' => W'.cell? ⟨X, 0, none⟩ = some (.int .i64 x.b) ∧ W'.cell? ⟨X, 1, none⟩ = some (.slice ax x.M.length cx)) ((refine KX.out _ ?_; first | with_reducible exact HX0.out | with_reducible exact hst.x | exact (Below.heap_setCell _ _ _ _ hne).trans ((Below.heap_setCell _ _ _ _ hne).trans hst.x)))
        (first | (go_at_call 13; (with_reducible refine HA.out.mono ?_); rintro e v7 ⟨z1, hz0, hz1, rfl, hc7, hg7⟩; have hst := hst.call hc7 hg7; have kr0 := cell_at (j := 0) hst.r rfl; have kr1 := cell_at (j := 1) hst.r rfl; have fr0 := free_b (j := 0) hst.r; have fr1 := free_b (j := 1) hst.r) | (go_at_call 13; (with_reducible refine (l1Below_any 5 4 _ p hst.cur (by omega) (by omega) (by omega)).mono ?_); rintro e v8 ⟨z2, hy0, hy1, rfl, hc8, hg8⟩; have hst := hst.call hc8 hg8; have kr0 := cell_at (j := 0) hst.r rfl; have kr1 := cell_at (j := 1) hst.r rfl; have fr0 := free_b (j := 0) hst.r; have fr1 := free_b (j := 1) hst.r))
      all_goals go_wp2_with fail
      all_goals exact bodyPost_ret (v := .tuple #[.agg #[.int .i64 x.b, .slice ax x.M.length cx], .int .i64 (IntKind.i64.wrap (z1 - 1)), .int .i64 (IntKind.i64.wrap (z2 - 1))]) (by simp [results, Try.results5, go_sem, kr0, kr1]) rfl (hst.done HSX.out _ _ _ _)
end Go.Proofs.Ytgjpicekdbemiab
namespace Go.Proofs.Ytgjpicekdbemiab
open Go.RowKit
set_option linter.unusedVariables false
theorem side_same (q one : Int) (l : List Dm) : sideL q one (sideL q one l) = sideL q one l := by
  unfold sideL
  rw [List.mapIdx_mapIdx]
  congr 1
  funext i x
  simp only [Function.comp]
  split <;> rfl
theorem side_other {q one two : Int} (h : one ≠ two) (l : List Dm) : nz (sideL q two (sideL q one l)) = false := by
  unfold sideL
  rw [List.mapIdx_mapIdx]
  unfold nz
  rw [List.any_eq_false]
  intro y hy
  obtain ⟨i, hi, rfl⟩ := List.mem_iff_getElem.1 hy
  rw [List.getElem_mapIdx]
  simp only [Function.comp]
  by_cases h1 : bitI i q = two
  · rw [if_pos h1, if_neg (fun h2 => h (h2.symm.trans h1))]
    decide
  · rw [if_neg h1]
    decide
theorem any_other {q one two : Int} (h : one ≠ two) (M : List (List Dm)) : anyM ((M.map (sideL q one)).map (sideL q two)) = false := by
  unfold anyM
  rw [List.any_eq_false]
  intro r hr
  rw [List.map_map] at hr
  obtain ⟨l, _, rfl⟩ := List.mem_map.1 hr
  simp only [Function.comp]
  rw [side_other h l]
  decide
theorem map_same (q one : Int) (M : List (List Dm)) : (M.map (sideL q one)).map (sideL q one) = M.map (sideL q one) := by
  rw [List.map_map]
  exact List.map_congr_left (fun l _ => side_same q one l)
/-- A branch of a measurement, measured again: one branch, with the same states. -/
theorem meas_again {b : Int} {M : List (List Dm)} {q bit : Int} {x : Br} (hx : x ∈ measL b M q bit) : ∃ y : Br, measL x.b x.M q bit = [y] ∧ y.M = x.M := by
  cases hk : okM q bit
  · rw [measL_f hk] at hx
    cases hx
  · rw [measL_t hk] at hx
    rw [measL_t hk]
    have h2 : ∀ b' M', measTo b' M' q bit 2 = measOne b' M' q bit 0 ++ measOne b' M' q bit 1 := fun b' M' => by simp [measTo]
    rw [h2] at hx ⊢
    have one : ∀ (t : Nat) (x : Br), x ∈ measOne b M q bit t → x.M = M.map (sideL q t) ∧ anyM (M.map (sideL q t)) = true := by
      intro t x hx
      unfold measOne at hx
      split at hx
      · rename_i h
        simp at hx
        subst hx
        exact ⟨rfl, h⟩
      · cases hx
    rcases List.mem_append.1 hx with hx | hx
    · obtain ⟨e, ha⟩ := one 0 x hx
      rw [measOne_t (one := 0) (by rw [e, map_same]; exact ha), measOne_f (one := 1) (by rw [e]; exact any_other (by decide) M)]
      exact ⟨_, rfl, by rw [e, map_same]⟩
    · obtain ⟨e, ha⟩ := one 1 x hx
      rw [measOne_f (one := 0) (by rw [e]; exact any_other (by decide) M), measOne_t (one := 1) (by rw [e, map_same]; exact ha)]
      exact ⟨_, rfl, by rw [e, map_same]⟩
theorem eqB_refl (M : List (List Dm)) : eqBy (eqBy eqD) M M = true := eqBy_refl (fun l _ => eqBy_refl (fun x _ => eqD_refl x))
end Go.Proofs.Ytgjpicekdbemiab
namespace Go.Proofs.Ytgjpicekdbemiab
open Go.ChangeShapes Go.WideShapes Go.RowKit Go.Deep
theorem cells_byte : Try.prog.cellsOf 5 = 1 := by kernel_rfl
theorem trod_byte {H : Type} {enc : TypeId × Value → H} {w : World} {base : Nat} {spare : Nat → Bool} {held : Bool} (n : Nat) (cs : List Value) (y : DataW H × List MemPlace) (h : DataW.trod enc Try.prog w base spare held n 5 cs = some y) : ∃ g : Fin 256, cs = bcell g := by
  obtain ⟨a, e, h1, h2⟩ := DataW.trod_int Try.underlying5 h
  simp [Lit.wf, IntKind.min, IntKind.max, IntKind.signed, IntKind.bits] at h2
  exact ⟨⟨a.toNat, by omega⟩, by rw [e]; simp [bcell]; omega⟩
end Go.Proofs.Ytgjpicekdbemiab
