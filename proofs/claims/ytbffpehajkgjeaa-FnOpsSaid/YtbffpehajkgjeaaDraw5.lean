/- Drawing bent routines and lists of operations. -/
import Derived.Test.YtbffpehajkgjeaaDraw4
namespace Go.Proofs.Ytbffpehajkgjeaa
open Go.RowKit
set_option linter.unusedVariables false
section
attribute [local go_sem ↓ high] fold_append2
set_option maxRecDepth 100000 in
set_option maxHeartbeats 8000000 in
theorem l21Bent_any (most : Nat) (w : World) (p : Nat) (hcur : CurAt w p) (hm : most ≤ 100) : Calls Try.prog 83 #[.pointer (some ⟨p, 0, none⟩), .int .i64 most] w (DS w p 130) := by
  obtain ⟨i0, hi, hz0, hz1, hz2⟩ := info_parts info_OpE
  have hp := hcur.lt
  go_enter Try.func83, Try.ntmps83
  go_wp2_with fail
  obtain ⟨w0, hw0⟩ : ∃ w0, w0 = w.alloc (.cells #[.int .i64 0, .int .i64 0, .int .i64 0, .slice none 0 0] 29) := ⟨_, rfl⟩
  rw [← hw0]
  have x0 : w0.heap[w.heap.size]? = some (.cells #[.int .i64 0, .int .i64 0, .int .i64 0, .slice none 0 0] 29 (0, 0)) := by rw [hw0]; exact boxed1_0 _ _
  have hfr0 : Fr w p w0 := by rw [hw0]; exact (Fr.start hcur).alloc _
  have s0 : w.heap.size + 1 = w0.heap.size := by rw [hw0]; simp
  clear hw0
  refine (l21Right_any most w0 p hfr0.cur hm).mono ?_
  rintro e w1 ⟨N, I, B, A, q, c, L, rfl, hL, hq, hN1, hN3, hB1, hB2, own1, hc1, hg1⟩
  have x1 := box_call x0 hg1 (by omega)
  have hfr1 := hfr0.call hc1 hg1
  have s1 : w.heap.size < w1.heap.size := by have := hg1.size; omega
  have st : St w p w1.heap.size N I B A q c L (w1.alloc (.cells #[.int .i64 N, .int .i64 I, .int .i64 B, .slice A q c] 29)) :=
    ⟨hfr1.alloc _, (Below.heap_alloc _ _ _ s1).trans x1, boxed1_0 _ _, (own_low own1 (by omega)).alloc _, hp, s1, fun e => by have := (own1.lt _ e).2; omega⟩
  clear x0 x1 hc1 hg1 hfr0 hfr1 own1 hL s0
  go_upto_region 2 with (fail)
  obtain ⟨X, hX⟩ : ∃ X, X = w1.heap.size := ⟨_, rfl⟩
  rw [← hX] at st ⊢
  obtain ⟨w2, hw2⟩ : ∃ w2, w2 = w1.alloc (.cells #[.int .i64 N, .int .i64 I, .int .i64 B, .slice A q c] 29) := ⟨_, rfl⟩
  rw [← hw2] at st ⊢
  clear hw2 hX s1
  go_wp2_with fail
  refine (l1Below_any 14 13 w2 p st.fr.cur (by omega) (by omega) (by omega)).mono ?_
  rintro e w3 ⟨x, hx0, hx1, rfl, hc3, hg3⟩
  have S3 := st.call hc3 hg3
  clear hc3 hg3 st
  go_upto_block 0 with (fail)
  go_cut [] (fun wx => ∃ (N I B : Int) (A : Option Addr) (q c : Nat) (L : List Opt), q ≤ 130 ∧ St w p X N I B A q c L wx)
  case first =>
    obtain ⟨r0, r1, r2, r3⟩ := boxcells4 (lay := Below.refl _ _) S3.x
    have lX := S3.lt
    have hx : x = 0 ∨ x = 1 ∨ x = 2 ∨ x = 3 ∨ x = 4 ∨ x = 5 ∨ 5 < x := by omega
    rcases hx with rfl | rfl | rfl | rfl | rfl | rfl | hx
    · go_wp2_with fail
      obtain ⟨w4, hw4⟩ : ∃ w4, w4 = w3.alloc (.cells #[.int .i64 0, .int .i64 1, .int .i64 4, .int .i64 5] 3) := ⟨_, rfl⟩
      rw [← hw4]
      have S4 : St w p X N I B A q c L w4 := by rw [hw4]; exact S3.alloc _
      have hpk := picked (w := w3) (L := [0, 1, 4, 5]) rfl
      have hr4 : Rd w4 1 (some ⟨w3.heap.size, 0, none⟩) 4 (([0, 1, 4, 5] : List Int).map (Value.int .i64)) := by rw [hw4]; exact hpk
      have l3 : p < w3.heap.size := S3.fr.cur.lt
      clear hw4 hpk S3 r0 r1 r2 r3
      refine (l1PickInt_any w3.heap.size 4 4 [0, 1, 4, 5] w4 p S4.fr.cur rfl (by omega) (by omega) hr4 (by omega)).mono ?_
      rintro e w5 ⟨z, hz, rfl, hc5, hg5⟩
      have S5 := S4.call hc5 hg5
      clear hc5 hg5 S4 hz hr4
      obtain ⟨r0, r1, r2, r3⟩ := boxcells4 (lay := Below.refl _ _) S5.x
      have g0 := free_at (j := 0) S5.x
      have HT := Lib.hid (S5.setN z)
      clear S5
      go_wp2_with fail
      go_meet
      exact ⟨z, I, B, A, q, c, L, by omega, HT.out⟩
    · go_wp2_with fail
      obtain ⟨w4, hw4⟩ : ∃ w4, w4 = w3.alloc (.cells #[.int .i64 0, .int .i64 1, .int .i64 (N + 1)] 3) := ⟨_, rfl⟩
      rw [← hw4]
      have S4 : St w p X N I B A q c L w4 := by rw [hw4]; exact S3.alloc _
      have hpk := picked (w := w3) (L := [0, 1, N + 1]) rfl
      have hr4 : Rd w4 1 (some ⟨w3.heap.size, 0, none⟩) 3 (([0, 1, N + 1] : List Int).map (Value.int .i64)) := by rw [hw4]; exact hpk
      have l3 : p < w3.heap.size := S3.fr.cur.lt
      clear hw4 hpk S3 r0 r1 r2 r3
      refine (l1PickInt_any w3.heap.size 3 3 [0, 1, N + 1] w4 p S4.fr.cur rfl (by omega) (by omega) hr4 (by omega)).mono ?_
      rintro e w5 ⟨z, hz, rfl, hc5, hg5⟩
      have S5 := S4.call hc5 hg5
      clear hc5 hg5 S4 hz hr4
      obtain ⟨r0, r1, r2, r3⟩ := boxcells4 (lay := Below.refl _ _) S5.x
      have g1 := free_at (j := 1) S5.x
      have HT := Lib.hid (S5.setI z)
      clear S5
      go_wp2_with fail
      go_meet
      exact ⟨N, z, B, A, q, c, L, by omega, HT.out⟩
    · go_wp2_with fail
      obtain ⟨w4, hw4⟩ : ∃ w4, w4 = w3.alloc (.cells #[.int .i64 (-1), .int .i64 0, .int .i64 3, .int .i64 4] 3) := ⟨_, rfl⟩
      rw [← hw4]
      have S4 : St w p X N I B A q c L w4 := by rw [hw4]; exact S3.alloc _
      have hpk := picked (w := w3) (L := [-1, 0, 3, 4]) rfl
      have hr4 : Rd w4 1 (some ⟨w3.heap.size, 0, none⟩) 4 (([-1, 0, 3, 4] : List Int).map (Value.int .i64)) := by rw [hw4]; exact hpk
      have l3 : p < w3.heap.size := S3.fr.cur.lt
      clear hw4 hpk S3 r0 r1 r2 r3
      refine (l1PickInt_any w3.heap.size 4 4 [-1, 0, 3, 4] w4 p S4.fr.cur rfl (by omega) (by omega) hr4 (by omega)).mono ?_
      rintro e w5 ⟨z, hz, rfl, hc5, hg5⟩
      have S5 := S4.call hc5 hg5
      clear hc5 hg5 S4 hz hr4
      obtain ⟨r0, r1, r2, r3⟩ := boxcells4 (lay := Below.refl _ _) S5.x
      have g2 := free_at (j := 2) S5.x
      have HT := Lib.hid (S5.setB z)
      clear S5
      go_wp2_with fail
      go_meet
      exact ⟨N, I, z, A, q, c, L, by omega, HT.out⟩
    · go_upto_region 10 with (fail)
      have g3 := free_at (j := 3) S3.x
      have SD := S3.drew
      have tok1 : True := trivial
      have HS3 := Lib.hid S3
      clear S3
      go_region_with (first | (go_at_call 108; have _t := tok1; (with_reducible refine (l1Below_any _ 5 _ p SD.fr.cur (by omega) (by omega) (by omega)).mono ?_); rintro e y1 ⟨x1, hxl1, hxh1, rfl, hc1, hg1⟩; have SA := SD.call hc1 hg1; have lX1 := SA.lt; obtain ⟨k10, k11, k12, k13⟩ := boxcells4 (lay := Below.refl _ _) SA.x; clear tok1 _t hc1 hg1; have hwr : IntKind.i64.wrap (x1 - 1) = x1 - 1 := IntWalk.i64_in _ (by omega); have tok2 : True := trivial) | (go_at_call 108; have _t := tok2; (with_reducible refine (l1Below_any _ 5 _ p SA.fr.cur (by omega) (by omega) (by omega)).mono ?_); rintro e y2 ⟨x2, hxl2, hxh2, rfl, hc2, hg2⟩; have SB := SA.call hc2 hg2; have lX2 := SB.lt; obtain ⟨k20, k21, k22, k23⟩ := boxcells4 (lay := Below.refl _ _) SB.x; clear tok2 _t hc2 hg2; have tok3 : True := trivial) | (go_at_call 108; have _t := tok3; (with_reducible refine (l1Below_any _ 5 _ p SB.fr.cur (by omega) (by omega) (by omega)).mono ?_); rintro e y3 ⟨x3, hxl3, hxh3, rfl, hc3, hg3⟩; have SC := SB.call hc3 hg3; have lX3 := SC.lt; obtain ⟨k30, k31, k32, k33⟩ := boxcells4 (lay := Below.refl _ _) SC.x; clear tok3 _t hc3 hg3; have tok4 : True := trivial) | (go_at_call 108; have _t := tok4; (with_reducible refine (l1Below_any _ 5 _ p SC.fr.cur (by omega) (by omega) (by omega)).mono ?_); rintro e y4 ⟨x4, hxl4, hxh4, rfl, hc4, hg4⟩; have SE := SC.call hc4 hg4; have lX4 := SE.lt; obtain ⟨k40, k41, k42, k43⟩ := boxcells4 (lay := Below.refl _ _) SE.x; clear tok4 _t hc4 hg4; obtain ⟨v3, w9, hrun3, hown3, hgrow3, hat3⟩ := run_append_rd (P := Try.prog) (y4.alloc (.cells #[.int .i64 (x1 - 1), .int .i64 0, .int .i64 0, .int .i64 0, .int .i64 0, .int .i64 x2, .int .i64 x3, .int .i64 x4] 56)) (w.heap.size + 1) 27 27 56 i0 _ 8 64 Try.underlying27 hi hz0 hz1 hz2 rfl (by omega) (.slice A q c) q (L.flatMap ocells) (SE.own.alloc _) (some ⟨y4.heap.size, 0, none⟩) 1 1 [.int .i64 (x1 - 1), .int .i64 0, .int .i64 0, .int .i64 0, .int .i64 0, .int .i64 x2, .int .i64 x3, .int .i64 x4] (rd_lit1 rfl rfl) (by simp [Value.oneCell']) (by simp only [maxLen]; omega) (by omega) (by have := SE.lt; have := SE.hX; simp; omega); rw [fold_append2] at hrun3; obtain ⟨A3, c3, rfl, _, _, _⟩ := rd_of_own hown3; obtain ⟨a1, a2, a3⟩ := SE.app hgrow3; obtain ⟨s0, s1, s2, s3⟩ := boxcells4 (lay := Below.refl _ _) a1; have u3 := free_at (j := 3) a1; have HP := Lib.hid (SE.push (o := ⟨x1 - 1, ⟨0, 0, 0, 0⟩, x2, x3, x4⟩) hgrow3 hown3 (hat3.imp id fun h => ⟨_, by simp; omega, h⟩)); clear a1 a2 a3))
      all_goals (go_wp2_with fail; go_meet; exact ⟨N, I, B, A3, q + 1, c3, _, by omega, HP.out⟩)
    · go_upto_region 12 with (fail)
      have g3 := free_at (j := 3) S3.x
      have SD := S3.drew
      have HS3 := Lib.hid S3
      clear S3
      go_region_with (go_at_call 108; (with_reducible refine (l1Below_any N 3 _ p SD.fr.cur (by omega) (by omega) (by omega)).mono ?_); rintro e y1 ⟨z, hzl, hzh, rfl, hc4, hg4⟩; have SA := SD.call hc4 hg4; have lXA := SA.lt; obtain ⟨k0, k1, k2, k3⟩ := boxcells4 (lay := Below.refl _ _) SA.x; clear hc4 hg4; obtain ⟨v3, w9, hrun3, hown3, hgrow3, hat3⟩ := run_append_rd (P := Try.prog) (y1.alloc (.cells #[.int .i64 3, .int .i64 0, .int .i64 0, .int .i64 0, .int .i64 0, .int .i64 z, .int .i64 0, .int .i64 0] 56)) (w.heap.size + 1) 27 27 56 i0 _ 8 64 Try.underlying27 hi hz0 hz1 hz2 rfl (by omega) (.slice A q c) q (L.flatMap ocells) (SA.own.alloc _) (some ⟨y1.heap.size, 0, none⟩) 1 1 [.int .i64 3, .int .i64 0, .int .i64 0, .int .i64 0, .int .i64 0, .int .i64 z, .int .i64 0, .int .i64 0] (rd_lit1 rfl rfl) (by simp [Value.oneCell']) (by simp only [maxLen]; omega) (by omega) (by have := SA.lt; have := SA.hX; simp; omega); rw [fold_append2] at hrun3; obtain ⟨A3, c3, rfl, _, _, _⟩ := rd_of_own hown3; obtain ⟨a1, a2, a3⟩ := SA.app hgrow3; obtain ⟨s0, s1, s2, s3⟩ := boxcells4 (lay := Below.refl _ _) a1; have u3 := free_at (j := 3) a1; have HP := Lib.hid (SA.push (o := ⟨3, ⟨0, 0, 0, 0⟩, z, 0, 0⟩) hgrow3 hown3 (hat3.imp id fun h => ⟨_, by simp; omega, h⟩)); clear a1 a2 a3)
      all_goals (go_wp2_with fail; go_meet; exact ⟨N, I, B, A3, q + 1, c3, _, by omega, HP.out⟩)
    · go_wp2_with fail
      refine (l1Once_any 6 w3 p S3.fr.cur (by omega) (by omega)).mono ?_
      rintro e w4 ⟨b4, rfl, hc4, hg4⟩
      have S4 := S3.call hc4 hg4
      clear hc4 hg4 S3 r0 r1 r2 r3 lX
      cases b4
      · go_wp2_with fail
        go_meet
        exact ⟨N, I, B, A, q, c, L, by omega, S4⟩
      · go_wp2_with fail
        go_loopg [] (122 - q) (fun g wr => ∃ (A : Option Addr) (q c : Nat) (L : List Opt), g = 122 - q ∧ q ≤ 121 ∧ St w p X N I B A q c L wr)
        case atStart => exact ⟨A, q, c, L, rfl, by omega, S4⟩
        case round =>
          clear S4 hq
          obtain ⟨A, q, c, L, hgk, hq, S5⟩ := hrel
          obtain ⟨wE, rfl⟩ : ∃ wE : World, wE = wr := ⟨_, rfl⟩
          have HGK := Lib.hid hgk
          clear hgk
          obtain ⟨r0, r1, r2, r3⟩ := boxcells4 (lay := Below.refl _ _) S5.x
          have lX := S5.lt
          go_upto_region 15 with (fail)
          go_cut [71] (fun s wx => ∃ bb : Bool, s = .bool bb ∧ (bb = true → q < 121) ∧ St w p X N I B A q c L wx)
          case first =>
            have SD := S5.drew
            have HS5 := Lib.hid S5
            clear S5
            go_region_with (go_at_call 108; (with_reducible refine (l1Below_any _ 2 _ p SD.fr.cur (by omega) (by omega) (by omega)).mono ?_); rintro e y1 ⟨z, hzl, hzh, rfl, hc4, hg4⟩; have SA := SD.call hc4 hg4; have lXA := SA.lt; obtain ⟨k0, k1, k2, k3⟩ := boxcells4 (lay := Below.refl _ _) SA.x; clear hc4 hg4; have hwr : IntKind.i64.wrap (119 + z) = 119 + z := IntWalk.i64_in _ (by omega))
            all_goals (go_wp2_with fail; go_meet; exact ⟨_, rfl, fun h => by simp at h; omega, SA⟩)
          case rest =>
            clear S5 r0 r1 r2 r3 lX
            obtain ⟨b5, rfl, hb5, S6⟩ := hcut
            obtain ⟨wF, rfl⟩ : ∃ wF : World, wF = wc := ⟨_, rfl⟩
            cases b5
            · go_wp2_with fail
              go_meet
              exact ⟨N, I, B, A, q, c, L, by omega, S6⟩
            · have hq2 := hb5 rfl
              obtain ⟨r0, r1, r2, r3⟩ := boxcells4 (lay := Below.refl _ _) S6.x
              have HS := Lib.hid S6
              have lX2 := S6.lt
              have hXX := S6.hX
              have ownS := S6.own
              clear S6
              go_wp2_with (at_builtin; refine wpList_append_rd _ rfl _ _ 27 rfl (w.heap.size + 1) 56 i0 _ 8 64 Try.underlying27 hi hz0 hz1 hz2 rfl (by decide) _ _ _ rfl (ownS.alloc _) _ 1 1 _ rfl (rd_lit1 ?c0 rfl) ?c2 ?c3 ?c4 ?c5 ?_)
              case c0 => first | rfl | simp
              case c2 => repeat' (first | rfl | apply And.intro)
              case c3 => simp only [maxLen]; omega
              case c4 => omega
              case c5 => first | omega | (simp; omega)
              intro vv ww own3 gr3 hat3
              obtain ⟨A3, c3, rfl, _, _, _⟩ := rd_of_own own3
              obtain ⟨a1, a2, a3⟩ := HS.out.app gr3
              obtain ⟨s0, s1, s2, s3⟩ := boxcells4 (lay := Below.refl _ _) a1
              have u3 := free_at (j := 3) a1
              have HP := Lib.hid (HS.out.push (o := ⟨1, ⟨1, 0, 0, 0⟩, 0, 0, 0⟩) gr3 own3 (hat3.imp id fun h => ⟨_, by omega, h⟩))
              clear hat3 a1 a2 a3 own3 gr3 r0 r1 r2 r3 ownS
              go_wp2_with fail
              go_roundg (122 - (q + 1))
              case measure => have := HGK.out; omega
              case rel => exact ⟨A3, q + 1, c3, _, rfl, by omega, HP.out⟩
    · go_wp2_with fail
      go_meet
      exact ⟨N, I, B, A, q, c, L, by omega, S3⟩
  case rest =>
    clear S3
    obtain ⟨N, I, B, A, q, c, L, hq, S9⟩ := hcut
    obtain ⟨wZ, rfl⟩ : ∃ wZ : World, wZ = wc := ⟨_, rfl⟩
    obtain ⟨r0, r1, r2, r3⟩ := boxcells4 (lay := Below.refl _ _) S9.x
    obtain ⟨q0, q1, q2, q3⟩ := boxcells4 (lay := Below.refl _ _) S9.x4
    have f0 := free_at (j := 0) S9.x4
    have f1 := free_at (j := 1) S9.x4
    have f2 := free_at (j := 2) S9.x4
    have f3 := free_at (j := 3) S9.x4
    have HS := Lib.hid S9
    have hXX := S9.hX
    have lX := S9.lt
    clear S9
    go_wp2_with fail
    have hS := HS.out
    have hfr := hS.fr
    refine bodyPost_ret (v := .agg #[.int .i64 N, .int .i64 I, .int .i64 B, .slice A q c]) (by simp [results, Try.results83, go_sem, q0, q1, q2, q3]) rfl ⟨N, I, B, A, q, c, L, rfl, hS.len, hq, ?_, (Fr.cur (w := w) (by repeat (first | assumption | (with_reducible refine Fr.alloc ?_ _) | (with_reducible refine Fr.set ?_ hp (by first | omega | (simp; done) | (simp; omega)) _)))), (Fr.gr (by repeat (first | assumption | (with_reducible refine Fr.alloc ?_ _) | (with_reducible refine Fr.set ?_ hp (by first | omega | (simp; done) | (simp; omega)) _))))⟩
    have hne : ∀ j, (Value.slice A q c).ownBlock ≠ some (⟨w.heap.size, j, none⟩ : Addr).block := fun j e => by
      have := (hS.own.lt _ e).1
      simp at this
      omega
    exact ownsRow_setCell_other (ownsRow_setCell_other (ownsRow_setCell_other (ownsRow_setCell_other (own_low hS.own (by omega)) (hne 0) _) (hne 1) _) (hne 2) _) (hne 3) _
end
end Go.Proofs.Ytbffpehajkgjeaa
