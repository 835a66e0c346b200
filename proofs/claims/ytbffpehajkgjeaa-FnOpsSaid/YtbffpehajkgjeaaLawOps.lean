/- A part from the beginning of a valid routine is valid if it measures all its bits; both sides agree on routines: for every code. -/
import Derived.Test.YtbffpehajkgjeaaFrame
import Derived.Test.YtbffpehajkgjeaaTcount
import Derived.Test.YtbffpehajkgjeaaPre
import Derived.Test.YtbffpehajkgjeaaDraw6
import Derived.Test.YtbffpehajkgjeaaBytes
import Derived.Test.YtbffpehajkgjeaaMat
namespace Go.Proofs.Ytbffpehajkgjeaa
open Go.ChangeShapes Go.WideShapes Go.ChangeAt Go.RowKit
set_option linter.unusedVariables false
theorem rd_take8 {w : World} {n : Nat} {A : Option Addr} {l : List Opt} (h : Rd w 8 A n (l.flatMap ocells)) (hl : l.length = n) {t : Nat} (ht : t ≤ n) : Rd w 8 A t ((l.take t).flatMap ocells) :=
  ⟨by rw [flat_length ocells 8 ocells_len, List.length_take]; omega, fun h0 => by
    obtain ⟨b, off, e, hlt, hc⟩ := h.2 (by omega)
    refine ⟨b, off, e, hlt, fun j u hu => hc j u ?_⟩
    have e2 : l.flatMap ocells = (l.take t).flatMap ocells ++ (l.drop t).flatMap ocells := by rw [← List.flatMap_append, List.take_append_drop]
    rw [e2, List.getElem?_append_left (List.getElem?_eq_some_iff.1 hu).1]
    exact hu⟩
theorem eqOs_refl : ∀ l : List Opt, (List.zip l l).all (fun p => eqO p.1 p.2) = true
  | [] => rfl
  | x :: l => by
    have := eqOs_refl l
    simp only [List.zip_cons_cons, List.all_cons, eqO_refl, this]
    rfl
theorem eqRt_refl (N I B : Int) (l : List Opt) : eqRt N I B l N I B l = true := by
  have : eqOs l l = true := by simp only [eqOs, eqOs_refl]; simp
  simp [eqRt, this]
theorem emod_lo (x : Int) (m : Nat) : 0 ≤ x % ((m : Int) + 1) := Int.emod_nonneg _ (by omega)
theorem emod_hi (x : Int) (m : Nat) : x % ((m : Int) + 1) ≤ m := by have := Int.emod_lt_of_pos x (show (0 : Int) < (m : Int) + 1 by omega); omega
def At0 (w : World) (e : Ending) (w' : World) : Prop := ∃ x : Int, 0 ≤ x ∧ x ≤ 255 ∧ e = .returned (.int .i64 x) ∧ w = w'
set_option maxRecDepth 100000 in
theorem at0_any (A : Option Addr) (n c : Nat) (bs : List (Fin 256)) (w : World) (h : Rd w 1 A n (bs.flatMap bcell)) (hl : bs.length = n) (hn : n ≤ 1048576) : Calls Try.prog 39 #[.slice A n c, .int .i64 2] w (At0 w) := by
  by_cases h2 : 2 < n
  · obtain ⟨x, hx⟩ : ∃ x, bs[2]? = some x := ⟨_, List.getElem?_eq_getElem (by omega)⟩
    obtain ⟨b, off, rfl, hbl, hc⟩ := h.2 (by omega)
    have q0 : w.cell? ⟨b, off + 2, none⟩ = some (.int .u8 (x.val : Int)) := by
      have := hc (2 * 1 + 0) _ (flat_at bcell_len bs 2 x 0 hx (by decide))
      simpa using this
    have hx2 := x.isLt
    clear hc hx h hl
    go_enter Try.func39, Try.ntmps39
    go_wp2_with fail
    go_ret
    exact ⟨x.val, by omega, by omega, rfl, rfl⟩
  · clear h hl
    go_enter Try.func39, Try.ntmps39
    go_wp2_with fail
    go_ret
    exact ⟨(14 + n) % 256, by omega, by omega, rfl, rfl⟩
set_option maxRecDepth 100000 in
set_option maxHeartbeats 8000000 in
theorem law_Ops (A : Option Addr) (n c : Nat) (bs : List (Fin 256)) (w0 : World) (h : Rd w0 1 A n (bs.flatMap bcell)) (hl : bs.length = n) (hnc : n ≤ c) (hc : c ≤ maxLen) :
    Calls Try.prog 7 #[.slice A n c] w0 fun e w' => e = .returned (.bool true) ∧ Below w0.heap.size w0 w' := by
  have hn0 : n ≤ 9223372036854775807 := by simp only [maxLen] at hc; omega
  have H := Lib.hid h
  have HL := Lib.hid hl
  clear h hl
  by_cases hbig : 1048576 < n
  · have hB : decide (1048576 < n) = true := by simpa using hbig
    go_enter Try.func7, Try.ntmps7
    go_wp2_with (go_at_call 25; refine (big_any _ _ _ _ hn0).mono ?_; rintro e w' ⟨rfl, rfl⟩)
    go_ret
    exact ⟨rfl, Below.refl _ _⟩
  have hB : decide (1048576 < n) = false := by simpa using hbig
  go_enter Try.func7, Try.ntmps7
  go_wp2_with (go_at_call 25; refine (big_any _ _ _ _ hn0).mono ?_; rintro e w' ⟨rfl, rfl⟩)
  clear hB
  refine (DrawIsValidRoutine_any _ _ _ bs w0 H.out HL.out (by omega)).mono ?_
  rintro e w1 ⟨N, I, B, Al, m, cl, L, rfl, hL, hm, ol, b1⟩
  have s1 := b1.size
  obtain ⟨A', c', e', hmc, hcm, rl'⟩ := rd_of_own ol
  injection e' with ea eb ec
  subst ea ec
  have hAX : ∀ b off, Al = some ⟨b, off, none⟩ → 0 < m → b < w1.heap.size := fun b off e h0 => by
    obtain ⟨b', off', e', hlt, _⟩ := rl'.2 h0
    rw [e] at e'
    injection e' with e'
    injection e' with e1 e2
    omega
  have HAl : Hid ((Al = none ∧ m = 0 ∧ cl = 0) ∨ ∃ g, Al = some ⟨g, 0, none⟩) := by
    rcases ol.2 with ⟨h1, h2⟩ | ⟨g, cap, cur, h1, _⟩
    · injection h1 with h3 h4 h5
      exact .inl ⟨h3, h4, h5⟩
    · injection h1 with h3 h4 h5
      exact .inr ⟨g, h3⟩
  have hAY : ∀ b off, Al = some ⟨b, off, none⟩ → b < w1.heap.size := fun b off e => by
    rcases ol.2 with ⟨h1, _⟩ | ⟨g, cap, cur, h1, _⟩
    · injection h1 with h3 _ _
      rw [h3] at e
      cases e
    · have hlt := fun k hk => (ol.lt k hk).2
      rw [h1] at hlt
      injection h1 with h3 _ _
      rw [e] at h3
      injection h3 with h3
      injection h3 with h4 _ _
      rw [h4]
      exact hlt g rfl
  have HLL := Lib.hid hL
  go_upto_region 4 with (fail)
  obtain ⟨wb, hwb⟩ : ∃ wb, wb = w1.alloc (.cells #[.int .i64 N, .int .i64 I, .int .i64 B, .slice Al m cl] 29) := ⟨_, rfl⟩
  rw [← hwb]
  have x0 : wb.heap[w1.heap.size]? = some (.cells #[.int .i64 N, .int .i64 I, .int .i64 B, .slice Al m cl] 29 (0, 0)) := by rw [hwb]; exact boxed1_0 _ _
  have bb : Below w1.heap.size w1 wb := by rw [hwb]; exact (by repeat (first | exact Below.refl _ _ | assumption | (refine Below.trans ?_ (Below.mono (by assumption) (by first | omega | (simp; done) | (simp; omega)))) | (with_reducible refine Below.drew ?_) | (with_reducible refine Below.alloc ?_ (by first | omega | (simp; done) | (simp; omega)) _) | (with_reducible refine Below.setCell ?_ (by first | omega | (simp; done) | (simp; omega)) _)))
  have sb : w1.heap.size < wb.heap.size := by rw [hwb]; simp
  have R := Lib.hid (rl'.below bb)
  have hbb : Below w0.heap.size w0 wb := b1.trans (bb.mono s1)
  have HB := Lib.hid (H.out.below hbb)
  obtain ⟨X, hX⟩ : ∃ X, X = w1.heap.size := ⟨_, rfl⟩
  rw [← hX] at x0 sb hAX hAY ⊢
  have HAY := Lib.hid hAY
  clear hAY
  have hXw : w0.heap.size ≤ X := by omega
  clear hwb hX bb rl' ol b1 hL
  have X0 := Lib.hid x0
  have C1 := Lib.hid (fun W hr => IsValidRoutine_impl N I B Al m cl L W hr HLL.out (by omega))
  have C2 := Lib.hid (fun W hr => IsValidRoutine_spec N I B Al m cl L W hr HLL.out (by omega))
  have C3 := Lib.hid (fun W hr => RoutineGateCount_impl N I B Al m cl L W hr HLL.out (by omega))
  have C4 := Lib.hid (fun W hr => RoutineGateCount_spec N I B Al m cl L W hr HLL.out (by omega))
  have C5 : ∀ W, Rd W 8 Al m (L.flatMap ocells) → _ := fun W hr => EqualRoutine_impl N I B N I B Al Al m m cl cl L L W HLL.out HLL.out (by omega) hr hr
  rw [eqRt_refl] at C5
  have C5 := Lib.hid C5
  obtain ⟨V, hV⟩ : ∃ V, V = validRt N I B L := ⟨_, rfl⟩
  obtain ⟨G, hG⟩ : ∃ G, G = gcount L := ⟨_, rfl⟩
  rw [← hV] at C1 C2
  rw [← hG] at C3 C4
  have HV := Lib.hid hV
  clear hV hG
  obtain ⟨p0, p1, p2, p3⟩ := boxcells4 (lay := Below.refl _ _) x0
  clear x0
  go_cut [27] (fun s wx => s = .bool false ∧ Below wb.heap.size wb wx)
  case first =>
    go_region_held3 (fun w' => w'.cell? ⟨X, 0, none⟩ = some (.int .i64 N) ∧ w'.cell? ⟨X, 1, none⟩ = some (.int .i64 I) ∧ w'.cell? ⟨X, 2, none⟩ = some (.int .i64 B) ∧ w'.cell? ⟨X, 3, none⟩ = some (.slice Al m cl)) (go_keep)
      (first
        | (go_at_call 16; (with_reducible refine (C1.out _ ?_).mono ?_); exact R.out; rintro e y1 ⟨rfl, d1, _⟩; have t1 := below_undrew d1; obtain ⟨a0, a1, a2, a3⟩ := boxcells4 (lay := t1) X0.out)
        | (go_at_call 14; (with_reducible refine (C2.out _ ?_).mono ?_); exact R.out.below t1; rintro e y2 ⟨rfl, d2, _⟩; have t2 := t1.trans (d2.mono t1.size); obtain ⟨a0, a1, a2, a3⟩ := boxcells4 (lay := t2) X0.out)
        | (go_at_call 36; (with_reducible refine (C3.out _ ?_).mono ?_); exact R.out.below t2; rintro e y3 ⟨rfl, d3, _⟩; have t3 := t2.trans (d3.mono t2.size); obtain ⟨a0, a1, a2, a3⟩ := boxcells4 (lay := t3) X0.out)
        | (go_at_call 37; (with_reducible refine (C4.out _ ?_).mono ?_); exact R.out.below t3; rintro e y4 ⟨rfl, d4, _⟩; have t4 := t3.trans (d4.mono t3.size); obtain ⟨a0, a1, a2, a3⟩ := boxcells4 (lay := t4) X0.out)
        | (go_at_call 38; (with_reducible refine (C5.out _ ?_).mono ?_); exact R.out.below t4; rintro e y5 ⟨rfl, d5, _⟩; have t5 := t4.trans (d5.mono t4.size); obtain ⟨a0, a1, a2, a3⟩ := boxcells4 (lay := t5) X0.out))
    all_goals (go_wp2_with fail; go_meet; exact ⟨rfl, t5⟩)
  case rest =>
    obtain ⟨rfl, t5⟩ := hcut
    obtain ⟨wA, rfl⟩ : ∃ wA : World, wA = wc := ⟨_, rfl⟩
    clear p0 p1 p2 p3
    obtain ⟨p0, p1, p2, p3⟩ := boxcells4 (lay := t5) X0.out
    have sA := t5.size
    go_wp2_with fail
    refine (C2.out _ (R.out.below t5)).mono ?_
    rintro e wB ⟨rfl, d6, s6⟩
    have t6 := t5.trans (d6.mono t5.size)
    clear p0 p1 p2 p3 d6
    obtain ⟨p0, p1, p2, p3⟩ := boxcells4 (lay := t6) X0.out
    cases V
    · go_wp2_with fail
      go_ret
      exact ⟨rfl, hbb.trans (t6.mono hbb.size)⟩
    · have HVT := Lib.hid HV.out.symm
      clear HV
      go_upto_region 8 with (fail)
      go_cut [4] (fun s wx => ∃ z : Int, s = .int .i64 z ∧ 0 ≤ z ∧ z ≤ m ∧ Below wb.heap.size wb wx)
      case first =>
        go_region_with (go_at_call 39; (with_reducible refine (at0_any _ _ _ bs _ ?_ HL.out (by omega)).mono ?_); (first | exact (HB.out.below t6) | exact (HB.out.below t6).drew); rintro e y9 ⟨x, hx0, hx1, rfl, rfl⟩; have hwr : IntKind.i64.wrap ((m : Int) + 1) = (m : Int) + 1 := IntWalk.i64_in _ (by omega))
        all_goals (go_wp2_with fail; go_meet; refine ⟨_, rfl, ?_, ?_, ⟨t6.os, t6.tape, t6.output, t6.size, t6.block⟩⟩)
        all_goals (first | exact emod_lo x m | exact emod_hi x m)
      case rest =>
        clear p0 p1 p2 p3
        obtain ⟨z, rfl, hz0, hz1, t7⟩ := hcut
        obtain ⟨wC, rfl⟩ : ∃ wC : World, wC = wc := ⟨_, rfl⟩
        obtain ⟨k, rfl⟩ : ∃ k : Nat, z = k := ⟨z.toNat, by omega⟩
        have x7 : wC.heap[X]? = some (.cells #[.int .i64 N, .int .i64 I, .int .i64 B, .slice Al m cl] 29 (0, 0)) := (t7.block X sb).trans X0.out
        obtain ⟨p0, p1, p2, p3⟩ := boxcells4 (lay := Below.refl _ _) x7
        have g2 := free_at (j := 2) x7
        have g3 := free_at (j := 3) x7
        have s7 := t7.size
        have hkm : k ≤ m := by omega
        have hkc : k ≤ cl := by omega
        have HX7 := Lib.hid x7
        clear x7
        go_upto_region 9 with (fail)
        go_cut [] (fun wx => wx.heap[X]? = some (.cells #[.int .i64 N, .int .i64 I, .int .i64 B, .slice Al k cl] 29 (0, 0)) ∧ Kin [X] wC wx)
        case first =>
          have hs9 : ∀ w', w' = wC.setCell ⟨X, 3, none⟩ (.slice Al k cl) → w'.heap[X]? = some (.cells #[.int .i64 N, .int .i64 I, .int .i64 B, .slice Al k cl] 29 (0, 0)) ∧ Kin [X] wC w' := by
            rintro _ rfl
            exact ⟨by rw [heap_setCell_same _ _ _ _ _ _ HX7.out]; rfl, ⟨rfl, rfl, rfl, by simp [World.setCell], fun j _ hn => Below.heap_setCell wC _ _ j (fun e => hn (by simp [e]))⟩⟩
          have HS9 := Lib.hid hs9
          clear hs9
          rcases HAl.out with ⟨ha, hb', hc'⟩ | ⟨g, ha⟩
          · subst ha hb' hc'
            obtain rfl : k = 0 := by omega
            go_wp2_with fail
            go_meet
            exact HS9.out _ rfl
          · subst ha
            go_wp2_with fail
            go_meet
            exact HS9.out _ rfl
        case rest =>
          clear p0 p1 p2 p3 g2 g3
          obtain ⟨x8, k8⟩ := hcut
          obtain ⟨wD, rfl⟩ : ∃ wD : World, wD = wc := ⟨_, rfl⟩
          have p2 : wD.cell? ⟨X, 2, none⟩ = some (.int .i64 B) := cell_at (j := 2) x8 rfl
          have g2 := free_at (j := 2) x8
          have HX8 := Lib.hid x8
          have hs8 := k8.size
          clear x8
          go_wp2_with fail
          go_loopw [5] (fun i wr => ∃ t : Nat, t ≤ k ∧ i = .int .i64 t ∧ wr.heap[X]? = some (.cells #[.int .i64 N, .int .i64 I, .int .i64 (mcount (L.take t)), .slice Al k cl] 29 (0, 0)) ∧ Kin [X] wC wr) (fun i _ => k - (intOf i).toNat)
          case atStart => exact ⟨0, Nat.zero_le _, rfl, by rw [heap_setCell_same _ _ _ _ _ _ HX8.out]; rfl, k8.trans ⟨rfl, rfl, rfl, by simp [World.setCell], fun j _ hn => Below.heap_setCell wD _ _ j (fun e => hn (by simp [e]))⟩⟩
          case round =>
            obtain ⟨t, ht, rfl, xr, kr⟩ := hrel
            obtain ⟨wE, rfl⟩ : ∃ wE : World, wE = wr := ⟨_, rfl⟩
            obtain ⟨p0, p1, p2, p3⟩ := boxcells4 (lay := Below.refl _ _) xr
            have g2 := free_at (j := 2) xr
            have hmc := Nat.le_trans (mcount_le (L.take t)) (List.length_take_le t L)
            have HRk := Lib.hid (rd_kin (R.out.below t7) kr (fun b off e hb => by
              simp at hb
              have := HAY.out b off e
              omega))
            have HXR := Lib.hid xr
            have hsr := kr.size
            clear xr
            by_cases hlt : t < k
            · have htl : t < L.length := by rw [HLL.out]; omega
              obtain ⟨o, ho⟩ : ∃ o, L[t]? = some o := ⟨_, List.getElem?_eq_getElem htl⟩
              obtain ⟨b, off, hA2, hbl, hcc⟩ := HRk.out.2 (by omega)
              subst hA2
              have q0 := hcc (t * 8 + 0) _ (flat_at ocells_len L t o 0 ho (by decide))
              rw [Nat.add_zero] at q0
              have HS := Lib.hid (mcount_take L t o ho)
              obtain ⟨Z, hZ⟩ : ∃ Z, Z = mcount (L.take t) := ⟨_, rfl⟩
              rw [← hZ] at p2 hmc
              have HZ := Lib.hid hZ
              clear hZ hcc ho htl
              cases hk2 : (o.k == 2)
              · have HK := Lib.hid (o2_not hk2)
                go_wp2_with fail
                go_roundw
                case rel => exact ⟨t + 1, by omega, by go_num, by rw [HS.out, if_neg HK.out]; exact HXR.out, kr⟩
                case measure => simp [intOf]; omega
              · have HK := Lib.hid (o2_of hk2)
                go_wp2_with fail
                go_roundw
                case rel => exact ⟨t + 1, by omega, by go_num, by rw [HS.out, if_pos HK.out, heap_setCell_same _ _ _ _ _ _ HXR.out, ← HZ.out]; rfl, kr.trans ⟨rfl, rfl, rfl, by simp [World.setCell], fun j _ hn => Below.heap_setCell wE _ _ j (fun e => hn (by simp [e]))⟩⟩
                case measure => simp [intOf]; omega
            · obtain rfl : t = k := by omega
              have CV := Lib.hid (IsValidRoutine_impl N I (mcount (L.take t)) Al t cl (L.take t) wE (rd_take8 HRk.out HLL.out hkm) (by rw [List.length_take, HLL.out]; omega) (by omega))
              have HPV := Lib.hid (pre_valid HVT.out t (by rw [HLL.out]; exact hkm))
              go_wp2_with fail
              refine CV.out.mono ?_
              rintro e wF ⟨rfl, d9, _⟩
              rw [HPV.out]
              have hfin : Below w0.heap.size w0 wF := ((hbb.trans (t7.mono hbb.size)).trans (kr.below (by have := hbb.size; omega) (fun j hj => by simp at hj; omega))).trans (d9.mono (by have := hbb.size; omega))
              clear d9
              go_wp2_with fail
              go_ret
              exact ⟨rfl, hfin⟩
set_option maxRecDepth 100000 in
theorem lifted_fnOps (os : Os) (started : os.Started) (H : Type) (enc : TypeId × Value → H) :
    ReturnsInHanded {} Try.checked os 7 .any (Rows.fnOpsSpec.pre6 enc Try.prog Try.f7 Rows.fnOpsRow.domain false) (Rows.fnOpsSpec.post enc Try.prog Try.f7 false true false false) := by
  refine returnsInHanded_of_change (C := Try.checked) own started (by kernel_rfl) Try.func7
    (ChangeSpec.witness6 (enc := enc) (C := Try.checked) false ⟨#[], #[.slice none 0 0], []⟩ 8 (by kernel_rfl) (by kernel_rfl) (by kernel_rfl) (by kernel_rfl)) ?_
  intro W base args ds gs before hval0 hW hcnd _
  have hval : ∀ (j : Nat) t v, Try.f7.params[j]? = some t → args[j]? = some v → Value.okWide Try.prog W .any base t v := hval0
  have hW' := hW
  obtain ⟨p, q, hA0, hV, rfl, hfz, hnd⟩ := hW
  have hA : DataW.TrodAll enc Try.prog W 0 (fun _ => true) true Try.f7.params.toList args.toList ds p := hA0
  obtain ⟨rfl, rfl⟩ := trodVars_none hV
  have hlt : ∀ x ∈ p, x.block < W.heap.size := fun x hx => hW'.lt x (by simp [hx])
  have key : Calls Try.prog 7 args W fun e W' => e = .returned (.bool true) ∧ Below W.heap.size W W' := by
    rw [Try.params7] at hA hval
    obtain ⟨v0, vs0, d0, ds0, p0, q0, hargs, rfl, rfl, h0, r0⟩ := trodAll_cons hA
    obtain ⟨rfl, rfl, rfl⟩ := trodAll_nil r0
    obtain rfl : args = #[v0] := by cases args; simp_all
    clear hA0 hval0 hW' hA
    obtain ⟨fuel0, hf0⟩ := h0
    obtain ⟨A, n, c, l, hv0, hnc, hcm, hl, hrd⟩ := rd_of_slice (cellsf := bcell) Try.underlying40 cells_byte (by decide) trod_byte bcell_len (slice_one (hval 0 40 v0 rfl rfl) Try.underlying40 hf0)
    subst hv0
    exact law_Ops A n c l W hrd hl hnc hcm
  refine key.mono fun e W' ⟨he, hb⟩ => ?_
  subst he
  have hrd : (Try.f7.params.toList.all fun t => Try.prog.readableRec t && decide (t < Try.prog.types.size)) = true := by kernel_rfl
  have hst : ∀ sp : Nat → Bool, (∀ x ∈ p ++ [], sp x.block = true) → DataW.TrodAll enc Try.prog W' 0 sp true Try.f7.params.toList args.toList ds p := fun sp hsp => trodAll_stays (sp := sp) (W' := W') laidOut (fun t ht => by simpa using List.all_eq_true.1 hrd t ht) hA (fun x hx => hb.same (hlt x hx)) (fun x hx => hsp x (by simp [hx]))
  have hds : ds.length = 1 := by
    rw [Try.params7] at hA
    obtain ⟨v0, vs0, d0, ds0, p0, q0, _, rfl, rfl, h0, r0⟩ := trodAll_cons hA
    obtain ⟨_, rfl, _⟩ := trodAll_nil r0
    rfl
  clear hA hA0 hval hval0
  obtain ⟨e0, rfl⟩ : ∃ e0, ds = [e0] := by match ds, hds with | [e0], _ => exact ⟨e0, rfl⟩
  exact ⟨_, rfl, post_of_below (pa := p) (pv := []) hW' (fun _ _ _ => (trodAll_cons_mk (shut_bool Try.underlying4 _) trodAll_mk0)) hst (fun _ _ => rfl) rfl hb (ok_one (by kernel_rfl) rfl (okWide_bool_mk Try.underlying4 _))⟩
theorem over_fnOps : Rows.fnOpsRow.holds Try.pinned (OpenSpec.ofChange Rows.fnOpsSpec) :=
  OpenClaim.holds_of_wide 7 Try.f7 rfl rfl rfl rfl rfl rfl rfl ⟨rfl, rfl, rfl, rfl, rfl⟩ rfl rfl rfl rfl rfl (by kernel_rfl) Try.func7 (by kernel_rfl)
    (of_decide_eq_true (by kernel_rfl)) (by unfold Func.isWrapper; first | (rw [if_pos (by decide +kernel)]; kernel_rfl) | (rw [if_neg (by decide +kernel)]; exact ⟨rfl, rfl⟩))
    (fun os started H enc _ => lifted_fnOps os started H enc)
/-- The statement. -/
theorem fnOps_holds : Rows.FnOpsSaid := over_fnOps
end Go.Proofs.Ytbffpehajkgjeaa
