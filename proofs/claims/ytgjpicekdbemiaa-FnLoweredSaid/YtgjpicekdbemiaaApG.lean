/- The reference's application of a gate to a state: it returns what the plain function says. -/
import Derived.Test.YtgjpicekdbemiaaDwA
import Derived.Test.YtgjpicekdbemiaaGoD
import Derived.Test.YtgjpicekdbemiaaSt
import Derived.Test.YtgjpicekdbemiaaSide
namespace Go.Proofs.Ytgjpicekdbemiaa
open Go.RowKit
set_option linter.unusedVariables false
/-- What an application of a gate returns: a state of its own, and whether there is one. -/
def RetAp (w : World) (r : Option (List Dm)) (e : Ending) (w' : World) : Prop := ∃ (A : Option Addr) (n c : Nat) (ok : Bool) (o : List Dm), e = .returned (.tuple #[.slice A n c, .bool ok]) ∧
  ((ok = true ∧ r = some o) ∨ (ok = false ∧ r = none ∧ o = [])) ∧ o.length = n ∧ w'.ownsRow w.heap.size 67 5 (.slice A n c) n (o.flatMap dcells) ∧ Below w.heap.size w w' ∧ w.heap.size ≤ w'.heap.size
theorem retAp_none {w W : World} {b : Nat} {r : Option (List Dm)} (hr : r = none) (hB : w.heap.size ≤ W.heap.size) (hb : Below w.heap.size w W) (h0 : b = W.heap.size) : RetAp w r (.returned (.tuple #[.slice (some ⟨b, 0, none⟩) 0 0, .bool false])) (W.alloc (.cells #[] 67)) := by
  subst h0
  exact ⟨_, 0, 0, false, [], rfl, .inr ⟨rfl, hr, rfl⟩, rfl, own_lowS (own_empty _ _ _) hB, hb.alloc hB _, by simp; omega⟩
theorem apG_1 {g : Gt} {l : List Dm} (h : stOk l = false) : apG g l = none := by unfold apG; rw [h, if_neg (by simp)]
theorem apG_2 {g : Gt} {l : List Dm} (h : validG g (qc l.length) = false) : apG g l = none := by unfold apG; rw [h, if_neg (by simp)]
theorem apG_3 {g : Gt} {l : List Dm} (h : stOk l = true) (h2 : validG g (qc l.length) = true) : apG g l = apS g l l.length := by unfold apG; rw [h, h2, if_pos (by simp)]
theorem set5 {w : World} {b : Nat} {x0 x1 x2 x3 x4 : Value} {t : TypeId} (v0 v1 v2 v3 v4 : Value) (h : w.heap[b]? = some (.cells #[x0, x1, x2, x3, x4] t (0, 0))) :
    (((((w.setCell ⟨b, 0, none⟩ v0).setCell ⟨b, 1, none⟩ v1).setCell ⟨b, 2, none⟩ v2).setCell ⟨b, 3, none⟩ v3).setCell ⟨b, 4, none⟩ v4).heap[b]? = some (.cells #[v0, v1, v2, v3, v4] t (0, 0)) := by
  rw [heap_setCell_same _ _ _ _ _ _ (heap_setCell_same _ _ _ _ _ _ (heap_setCell_same _ _ _ _ _ _ (heap_setCell_same _ _ _ _ _ _ (heap_setCell_same _ _ _ _ _ _ h))))]
  rfl
theorem eql_D0 (w : World) (a : Dm) : (binOp .eql 67 (.agg #[.int .i64 a.a, .int .i64 a.b, .int .i64 a.c, .int .i64 a.d, .int .i64 a.e]) (.agg #[.int .i64 0, .int .i64 0, .int .i64 0, .int .i64 0, .int .i64 0])).run Try.prog w = .ok (.bool (isZ a)) w := by
  simp [go_sem, isZ]
  repeat' split
  all_goals simp_all
theorem qc_pow {n : Nat} (h : 0 < qc n) : n = 2 ^ qc n ∧ qc n ≤ 4 := by
  rcases qc_iff.1 h with rfl | rfl | rfl | rfl <;> decide
theorem below_undrewA {B : Nat} {w w' : World} (h : Below B w.drew w') : Below B w w' := ⟨h.os, h.tape, h.output, h.size, h.block⟩
section
set_option maxRecDepth 100000 in
set_option maxHeartbeats 6000000 in
theorem ApplyGate_any (k a b c : Int) (A : Option Addr) (n cc : Nat) (l : List Dm) (w : World) (h : Rd w 5 A n (l.flatMap dcells)) (hl : l.length = n) (hn : n ≤ 1099511627776) :
    Calls Try.prog 37 #[.agg #[.int .i64 k, .int .i64 a, .int .i64 b, .int .i64 c], .slice A n cc] w (RetAp w (apG ⟨k, a, b, c⟩ l)) := by
  obtain ⟨w0, hw0⟩ : ∃ w0, w0 = w.alloc (.cells #[.int .i64 k, .int .i64 a, .int .i64 b, .int .i64 c] 30) := ⟨_, rfl⟩
  have x0 := Lib.hid (show w0.heap[w.heap.size]? = some (.cells #[.int .i64 k, .int .i64 a, .int .i64 b, .int .i64 c] 30 (0, 0)) by rw [hw0]; exact boxed1_0 _ _)
  have b0 : Below w.heap.size w w0 := by rw [hw0]; exact (by repeat (first | exact Below.refl _ _ | assumption | (refine Below.trans ?_ (Below.mono (by assumption) (by first | omega | (simp; done) | (simp; omega)))) | (with_reducible refine Below.drew ?_) | (with_reducible refine Below.alloc ?_ (by first | omega | (simp; done) | (simp; omega)) _) | (with_reducible refine Below.setCell ?_ (by first | omega | (simp; done) | (simp; omega)) _)))
  have s0 : w.heap.size < w0.heap.size := by rw [hw0]; simp
  have H0 := Lib.hid (h.below b0)
  have H := Lib.hid h
  have HL := Lib.hid hl
  have HW := Lib.hid hw0
  clear h hl hw0
  cases h1 : stOk l
  · have HR := Lib.hid (apG_1 (g := ⟨k, a, b, c⟩) h1)
    have HI := Lib.hid (fun (W : World) (hr : Rd W 5 A n (l.flatMap dcells)) => h1 ▸ IsValidState_any A n cc l W hr HL.out hn)
    clear h1
    go_enter Try.func37, Try.ntmps37
    go_upto_region 1 with (fail)
    rw [← HW.out]
    first
    | (go_region_with (go_at_call 35; (with_reducible refine (HI.out _ ?_).mono ?_); exact H0.out.drew; rintro e w1 ⟨rfl, hb1, hs1⟩))
    | fail "no"
    all_goals go_wp2_with fail
    all_goals exact bodyPost_ret (v := .tuple #[.slice (some ⟨w1.heap.size, 0, none⟩) 0 0, .bool false]) (by simp [results, Try.results37, go_sem]) rfl (retAp_none HR.out (by have := hb1.size; simp at this; omega) (b0.trans ((below_undrewA hb1).mono (by simp; omega))) rfl)
  have HI := Lib.hid (fun (W : World) (hr : Rd W 5 A n (l.flatMap dcells)) => h1 ▸ IsValidState_any A n cc l W hr HL.out hn)
  have HQ := Lib.hid (fun (W : World) => QubitCount_any A n cc W hn)
  obtain ⟨p0, p1, p2, p3⟩ := boxcells4 (lay := Below.refl _ _) x0.out
  have KS : Hid (∀ W : World, Below w0.heap.size w0 W → (W.cell? ⟨w.heap.size, 0, none⟩ = some (.int .i64 k) ∧ W.cell? ⟨w.heap.size, 1, none⟩ = some (.int .i64 a) ∧ W.cell? ⟨w.heap.size, 2, none⟩ = some (.int .i64 b) ∧ W.cell? ⟨w.heap.size, 3, none⟩ = some (.int .i64 c))) := fun W hW => ⟨(hW.cell (p := ⟨w.heap.size, 0, none⟩) s0).trans p0, (hW.cell (p := ⟨w.heap.size, 1, none⟩) s0).trans p1, (hW.cell (p := ⟨w.heap.size, 2, none⟩) s0).trans p2, (hW.cell (p := ⟨w.heap.size, 3, none⟩) s0).trans p3⟩
  cases h2 : validG ⟨k, a, b, c⟩ (qc l.length)
  · have HR := Lib.hid (apG_2 (g := ⟨k, a, b, c⟩) h2)
    rw [HL.out] at h2
    have HV := Lib.hid (fun (W : World) => h2 ▸ IsValidGate_spec k a b c (qc n) W)
    clear h1 h2 p0 p1 p2 p3
    go_enter Try.func37, Try.ntmps37
    go_upto_region 1 with (fail)
    rw [← HW.out]
    go_region_held3 (fun W => W.cell? ⟨w.heap.size, 0, none⟩ = some (.int .i64 k) ∧ W.cell? ⟨w.heap.size, 1, none⟩ = some (.int .i64 a) ∧ W.cell? ⟨w.heap.size, 2, none⟩ = some (.int .i64 b) ∧ W.cell? ⟨w.heap.size, 3, none⟩ = some (.int .i64 c))
      ((refine KS.out _ ?_; first | exact Below.refl _ _ | exact (Below.refl _ _).drew | exact u1 | exact u2))
      (first | (go_at_call 35; (with_reducible refine (HI.out _ ?_).mono ?_); exact H0.out.drew; rintro e w1 ⟨rfl, hb1, hs1⟩; have u1 : Below w0.heap.size w0 w1 := below_undrewA hb1) | (go_at_call 46; (with_reducible refine (HQ.out _).mono ?_); rintro e w' ⟨rfl, rfl⟩) | (go_at_call 9; (with_reducible refine (HV.out _).mono ?_); rintro e w2 ⟨rfl, hb2, hs2⟩; have u2 := u1.trans (hb2.mono u1.size)))
    all_goals go_wp2_with fail
    all_goals exact bodyPost_ret (v := .tuple #[.slice (some ⟨w2.heap.size, 0, none⟩) 0 0, .bool false]) (by simp [results, Try.results37, go_sem]) rfl (retAp_none HR.out (by have := u2.size; omega) (b0.trans (u2.mono (by omega))) rfl)
  have HRT := Lib.hid (apG_3 (g := ⟨k, a, b, c⟩) h1 h2)
  rw [HL.out] at h2 HRT
  have HV := Lib.hid (fun (W : World) => h2 ▸ IsValidGate_spec k a b c (qc n) W)
  have hq0 : 0 < qc n := by
    unfold stOk at h1
    rw [Bool.and_eq_true, HL.out] at h1
    exact of_decide_eq_true h1.2
  have hnq := Lib.hid (qc_pow hq0)
  have H2 := Lib.hid h2
  obtain ⟨g, hg⟩ : ∃ g : Gt, g = ⟨k, a, b, c⟩ := ⟨_, rfl⟩
  have HG := Lib.hid hg
  rw [← hg] at HRT H2
  have HGO : Hid (∀ (t : Nat) (W : World), t < n → Calls Try.prog 47 #[.agg #[.int .i64 k, .int .i64 a, .int .i64 b, .int .i64 c], .int .i64 t] W (RetRow 81 6 W (goes g t).length ((goes g t).flatMap scells))) := fun t W ht => by
    have h3 := H2.out
    subst hg
    exact l10Goes_any ⟨k, a, b, c⟩ (qc n) t W h3 (by rw [← hnq.out.1]; exact ht)
  have HGL := Lib.hid (fun (t : Nat) (ht : t < n) => goes_lt H2.out (i := t) (by rw [← hnq.out.1]; exact ht))
  clear h1 h2 p0 p1 p2 p3 hq0 hg
  obtain ⟨i0, hi, hz0, hz1, hz2⟩ := info_parts info_DOmegaE
  go_enter Try.func37, Try.ntmps37
  go_upto_region 1 with (fail)
  rw [← HW.out]
  go_region_held3 (fun W => W.cell? ⟨w.heap.size, 0, none⟩ = some (.int .i64 k) ∧ W.cell? ⟨w.heap.size, 1, none⟩ = some (.int .i64 a) ∧ W.cell? ⟨w.heap.size, 2, none⟩ = some (.int .i64 b) ∧ W.cell? ⟨w.heap.size, 3, none⟩ = some (.int .i64 c))
    ((refine KS.out _ ?_; first | exact Below.refl _ _ | exact (Below.refl _ _).drew | exact u1 | exact u2))
    (first | (go_at_call 35; (with_reducible refine (HI.out _ ?_).mono ?_); exact H0.out.drew; rintro e w1 ⟨rfl, hb1, hs1⟩; have u1 : Below w0.heap.size w0 w1 := below_undrewA hb1) | (go_at_call 46; (with_reducible refine (HQ.out _).mono ?_); rintro e w' ⟨rfl, rfl⟩) | (go_at_call 9; (with_reducible refine (HV.out _).mono ?_); rintro e w2 ⟨rfl, hb2, hs2⟩; have u2 := u1.trans (hb2.mono u1.size)))
  go_upto_region 3 with (fail)
  obtain ⟨w3, hrun, hown, hgr0⟩ := run_make_full (P := Try.prog) w2 w2.heap.size 47 67 i0 _ 5 Try.underlying47 hi hz0 hz1 .i64 .i64 n (by rw [hz2]; omega) (by simp only [maxLen]; omega) (Nat.le_refl _)
  rw [made_dz] at hown
  have b23 : Below w2.heap.size w2 w3 := (Below.refl _ _).grown hgr0 (Nat.le_refl _) (by simp)
  have u3 := u2.trans (b23.mono u2.size)
  clear hi hz0 hz1 hz2 hgr0 hb1 hs1 hb2 hs2
  have G0 := Lib.hid u2.size
  obtain ⟨G, hG⟩ : ∃ G, G = w2.heap.size := ⟨_, rfl⟩
  rw [← hG] at hown b23 G0
  have hsG : w0.heap.size ≤ G := G0.out
  have hsG' : w.heap.size < G := by omega
  have X3 := Lib.hid ((u3.block _ s0).trans x0.out)
  have U3 := Lib.hid u3
  have B3 := Lib.hid (b0.trans (u3.mono b0.size))
  go_wp2_with fail
  rw [← hG]
  clear hrun u1 u2 u3 b23 hG b0
  go_loopw [7] (fun i wr => ∃ (t : Nat) (o : List Dm), i = .int .i64 t ∧ t ≤ n ∧ apS g l t = some o ∧ wr.ownsRow G 67 5 (.slice (some ⟨G, 0, none⟩) n n) n (o.flatMap dcells) ∧ Below G w3 wr) (fun i _ => n - (intOf i).toNat)
  case atStart => exact ⟨0, List.replicate n d0, rfl, Nat.zero_le _, by rw [apS, HL.out], hown, Below.refl _ _⟩
  case round =>
    clear hown
    obtain ⟨t, o, rfl, ht, hap, hown, hb⟩ := hrel
    obtain ⟨wo, rfl⟩ : ∃ wo : World, wo = wr := ⟨_, rfl⟩
    have HAP := Lib.hid hap
    have hGr : G < wo.heap.size := (hown.lt G rfl).2
    have bw : Below w.heap.size w wo := B3.out.trans (hb.mono (by omega))
    have bw0 : Below w0.heap.size w0 wo := U3.out.trans (hb.mono hsG)
    clear hap
    by_cases hlt : t < n
    · have htl : t < l.length := by rw [HL.out]; exact hlt
      obtain ⟨x, hx⟩ : ∃ x, l[t]? = some x := ⟨_, List.getElem?_eq_getElem htl⟩
      have HXD := Lib.hid (show l.getD t d0 = x by rw [List.getD_eq_getElem?_getD, hx]; rfl)
      obtain ⟨b', off, rfl, hblt0, hc⟩ := H.out.2 (by omega)
      have q0 : wo.cell? ⟨b', off + t * 5, none⟩ = some (.int .i64 x.a) := (bw.cell (by exact hblt0)).trans (hc (t * 5 + 0) _ (flat_at dcells_len l t x 0 hx (by decide)))
      have q1 : wo.cell? ⟨b', off + t * 5 + 1, none⟩ = some (.int .i64 x.b) := (bw.cell (by exact hblt0)).trans (by rw [Nat.add_assoc]; exact hc (t * 5 + 1) _ (flat_at dcells_len l t x 1 hx (by decide)))
      have q2 : wo.cell? ⟨b', off + t * 5 + 2, none⟩ = some (.int .i64 x.c) := (bw.cell (by exact hblt0)).trans (by rw [Nat.add_assoc]; exact hc (t * 5 + 2) _ (flat_at dcells_len l t x 2 hx (by decide)))
      have q3 : wo.cell? ⟨b', off + t * 5 + 3, none⟩ = some (.int .i64 x.d) := (bw.cell (by exact hblt0)).trans (by rw [Nat.add_assoc]; exact hc (t * 5 + 3) _ (flat_at dcells_len l t x 3 hx (by decide)))
      have q4 : wo.cell? ⟨b', off + t * 5 + 4, none⟩ = some (.int .i64 x.e) := (bw.cell (by exact hblt0)).trans (by rw [Nat.add_assoc]; exact hc (t * 5 + 4) _ (flat_at dcells_len l t x 4 hx (by decide)))
      have HQ5 : Hid (∀ W : World, Below w.heap.size w W → (W.cell? ⟨b', off + t * 5, none⟩ = some (.int .i64 x.a) ∧ W.cell? ⟨b', off + t * 5 + 1, none⟩ = some (.int .i64 x.b) ∧ W.cell? ⟨b', off + t * 5 + 2, none⟩ = some (.int .i64 x.c) ∧ W.cell? ⟨b', off + t * 5 + 3, none⟩ = some (.int .i64 x.d) ∧ W.cell? ⟨b', off + t * 5 + 4, none⟩ = some (.int .i64 x.e))) := fun W hW => ⟨(hW.cell (p := ⟨b', off + t * 5, none⟩) hblt0).trans (hc (t * 5 + 0) _ (flat_at dcells_len l t x 0 hx (by decide))), (hW.cell (p := ⟨b', off + t * 5 + 1, none⟩) hblt0).trans (by rw [Nat.add_assoc]; exact hc (t * 5 + 1) _ (flat_at dcells_len l t x 1 hx (by decide))), (hW.cell (p := ⟨b', off + t * 5 + 2, none⟩) hblt0).trans (by rw [Nat.add_assoc]; exact hc (t * 5 + 2) _ (flat_at dcells_len l t x 2 hx (by decide))), (hW.cell (p := ⟨b', off + t * 5 + 3, none⟩) hblt0).trans (by rw [Nat.add_assoc]; exact hc (t * 5 + 3) _ (flat_at dcells_len l t x 3 hx (by decide))), (hW.cell (p := ⟨b', off + t * 5 + 4, none⟩) hblt0).trans (by rw [Nat.add_assoc]; exact hc (t * 5 + 4) _ (flat_at dcells_len l t x 4 hx (by decide)))⟩
      have hz := fun W => eql_D0 W x
      clear hc hx htl
      cases hzx : isZ x
      · rw [hzx] at hz
        have HSTEP := Lib.hid (show apS g l (t + 1) = puts x o (goes g t) by rw [apS, HAP.out]; simp only; rw [HXD.out, hzx]; rfl)
        clear hzx
        have y0 := (bw0.block _ s0).trans x0.out
        have k0 := cell_at (j := 0) y0 rfl
        have k1 := cell_at (j := 1) y0 rfl
        have k2 := cell_at (j := 2) y0 rfl
        have k3 := cell_at (j := 3) y0 rfl
        clear y0
        go_wp2_with fail
        refine (HGO.out t wo hlt).mono ?_
        rintro e w4 ⟨v4, rfl, own4, hb4, hs4⟩
        have hm2 := goes_len g t
        obtain ⟨m, hm⟩ : ∃ m, m = (goes g t).length := ⟨_, rfl⟩
        rw [← hm] at own4 hm2
        have HM := Lib.hid hm
        obtain ⟨A4, c4, rfl, hc4, hc4', _⟩ := rd_of_own own4
        have hK4 : Kin [] wo w4 := kin_of_below [] hb4
        have own5 : w4.ownsRow G 67 5 (.slice (some ⟨G, 0, none⟩) n n) n (o.flatMap dcells) := own_kin hown hK4 (fun k _ => by simp)
        have bG4 : Below G w3 w4 := hb.trans (hb4.mono (Nat.le_of_lt hGr))
        clear hm hK4 q0 q1 q2 q3 q4 k0 k1 k2 k3 hz
        go_wp2_with fail
        go_loopw [9] (fun kk wr => ∃ (j : Nat) (o' : List Dm), kk = .int .i64 j ∧ j ≤ m ∧ apS g l (t + 1) = puts x o' ((goes g t).drop j) ∧ wr.ownsRow G 67 5 (.slice (some ⟨G, 0, none⟩) n n) n (o'.flatMap dcells) ∧ wr.ownsRow wo.heap.size 81 6 (.slice A4 m c4) m ((goes g t).flatMap scells) ∧ Below G w3 wr) (fun kk _ => m - (intOf kk).toNat)
        case atStart => exact ⟨0, o, rfl, Nat.zero_le _, HSTEP.out, own5, own4, bG4⟩
        case round =>
          clear own4 own5 bG4
          obtain ⟨j, o', rfl, hj, hpt, own5, own4, bG⟩ := hrel
          have HPT := Lib.hid hpt
          have hGi : G < wr.heap.size := (own5.lt G rfl).2
          have bwi : Below w.heap.size w wr := B3.out.trans (bG.mono (by omega))
          clear hpt
          by_cases hjm : j < m
          · obtain ⟨s, hs⟩ : ∃ s, (goes g t)[j]? = some s := ⟨_, List.getElem?_eq_getElem (by rw [← HM.out]; exact hjm)⟩
            have HDR := Lib.hid (show (goes g t).drop j = s :: (goes g t).drop (j + 1) by
              obtain ⟨h1, h2⟩ := List.getElem?_eq_some_iff.1 hs
              rw [List.drop_eq_getElem_cons h1, h2])
            have hsj : s.j < n := by have := HGL.out t hlt s (List.mem_of_getElem? hs); rw [← hnq.out.1] at this; exact this
            obtain ⟨g4, hg4, rfl⟩ : ∃ g4, wo.heap.size ≤ g4 ∧ A4 = some ⟨g4, 0, none⟩ := by
              rcases own4.2 with ⟨_, h0⟩ | ⟨g4, cap, cur, h0, h3, _⟩
              · omega
              · injection h0 with h0
                exact ⟨g4, h3, h0⟩
            have hg4l : g4 < wr.heap.size := (own4.lt g4 rfl).2
            have hat : ∀ r u, (scells s)[r]? = some u → r < 6 → wr.cell? ⟨g4, j * 6 + r, none⟩ = some u := fun r u hu hr => by
              rw [own4.cellAt _ (by omega), flat_at scells_len _ j s r hs hr]
              exact hu
            have y9 := hat 0 _ rfl (by decide)
            have y0 := hat 1 _ rfl (by decide)
            have y1 := hat 2 _ rfl (by decide)
            have y2 := hat 3 _ rfl (by decide)
            have y3 := hat 4 _ rfl (by decide)
            have y4 := hat 5 _ rfl (by decide)
            rw [Nat.add_zero] at y9
            have q5 := HQ5.out wr bwi
            obtain ⟨q0, q1, q2, q3, q4⟩ := q5
            have hblt : b' < wr.heap.size := by have := bwi.size; omega
            have KX : Hid (∀ W : World, Below wr.heap.size wr W → ((W.cell? ⟨b', off + t * 5, none⟩ = some (.int .i64 x.a) ∧ W.cell? ⟨b', off + t * 5 + 1, none⟩ = some (.int .i64 x.b) ∧ W.cell? ⟨b', off + t * 5 + 2, none⟩ = some (.int .i64 x.c) ∧ W.cell? ⟨b', off + t * 5 + 3, none⟩ = some (.int .i64 x.d) ∧ W.cell? ⟨b', off + t * 5 + 4, none⟩ = some (.int .i64 x.e)) ∧ (W.cell? ⟨g4, j * 6 + 1, none⟩ = some (.int .i64 s.y.a) ∧ W.cell? ⟨g4, j * 6 + 1 + 1, none⟩ = some (.int .i64 s.y.b) ∧ W.cell? ⟨g4, j * 6 + 1 + 2, none⟩ = some (.int .i64 s.y.c) ∧ W.cell? ⟨g4, j * 6 + 1 + 3, none⟩ = some (.int .i64 s.y.d) ∧ W.cell? ⟨g4, j * 6 + 1 + 4, none⟩ = some (.int .i64 s.e)))) := fun W hW => ⟨⟨(hW.cell (p := ⟨b', off + t * 5, none⟩) hblt).trans q0, (hW.cell (p := ⟨b', off + t * 5 + 1, none⟩) hblt).trans q1, (hW.cell (p := ⟨b', off + t * 5 + 2, none⟩) hblt).trans q2, (hW.cell (p := ⟨b', off + t * 5 + 3, none⟩) hblt).trans q3, (hW.cell (p := ⟨b', off + t * 5 + 4, none⟩) hblt).trans q4⟩, ⟨(hW.cell (p := ⟨g4, j * 6 + 1, none⟩) hg4l).trans y0, (hW.cell (p := ⟨g4, j * 6 + 1 + 1, none⟩) hg4l).trans y1, (hW.cell (p := ⟨g4, j * 6 + 1 + 2, none⟩) hg4l).trans y2, (hW.cell (p := ⟨g4, j * 6 + 1 + 3, none⟩) hg4l).trans y3, (hW.cell (p := ⟨g4, j * 6 + 1 + 4, none⟩) hg4l).trans y4⟩⟩
            have KD := Lib.hid (show Below wr.heap.size wr wr.drew from (Below.refl _ _).drew)
            have KA := Lib.hid (fun ob : Obj => (show Below wr.heap.size wr (wr.drew.alloc ob) from (Below.refl _ _).drew.alloc (Nat.le_refl _) _))
            have KB := Lib.hid (fun ob : Obj => (show Below wr.heap.size wr (wr.alloc ob).drew from ((Below.refl _ _).alloc (Nat.le_refl _) _).drew))
            obtain ⟨pd, ok1, hpd, hpr⟩ := dres_form (mulD x (sby s))
            have hpd' : dres (mulD ⟨x.a, x.b, x.c, x.d, x.e⟩ ⟨s.y.a, s.y.b, s.y.c, s.y.d, s.e⟩) = .tuple #[.agg #[.int .i64 pd.a, .int .i64 pd.b, .int .i64 pd.c, .int .i64 pd.d, .int .i64 pd.e], .bool ok1] := hpd
            have HPR := Lib.hid hpr
            have HSJ := Lib.hid hsj
            have HQ5J := Lib.hid (And.intro y9 hg4l)
            have HOW := Lib.hid (And.intro own4 own5)
            clear hpd hpr hsj own4 own5 hat y9 hs
            go_upto_region 12 with (fail)
            go_cut [10, 11] (fun pv okv wc => ∃ P1 : Nat, pv = .pointer (some ⟨P1, 0, none⟩) ∧ okv = .bool ok1 ∧ wc.heap[P1]? = some (.cells #[.int .i64 pd.a, .int .i64 pd.b, .int .i64 pd.c, .int .i64 pd.d, .int .i64 pd.e] 67 (0, 0)) ∧ wr.heap.size ≤ P1 ∧ Below wr.heap.size wr wc)
            case first =>
              go_region_held3 (fun W => (W.cell? ⟨b', off + t * 5, none⟩ = some (.int .i64 x.a) ∧ W.cell? ⟨b', off + t * 5 + 1, none⟩ = some (.int .i64 x.b) ∧ W.cell? ⟨b', off + t * 5 + 2, none⟩ = some (.int .i64 x.c) ∧ W.cell? ⟨b', off + t * 5 + 3, none⟩ = some (.int .i64 x.d) ∧ W.cell? ⟨b', off + t * 5 + 4, none⟩ = some (.int .i64 x.e)) ∧ (W.cell? ⟨g4, j * 6 + 1, none⟩ = some (.int .i64 s.y.a) ∧ W.cell? ⟨g4, j * 6 + 1 + 1, none⟩ = some (.int .i64 s.y.b) ∧ W.cell? ⟨g4, j * 6 + 1 + 2, none⟩ = some (.int .i64 s.y.c) ∧ W.cell? ⟨g4, j * 6 + 1 + 3, none⟩ = some (.int .i64 s.y.d) ∧ W.cell? ⟨g4, j * 6 + 1 + 4, none⟩ = some (.int .i64 s.e))) ((refine KX.out _ ?_; first | with_reducible exact Below.refl _ _ | with_reducible exact KD.out | with_reducible exact KA.out _ | with_reducible exact KB.out _ | with_reducible exact c1 | with_reducible exact c1.alloc c1.size _ | with_reducible exact ((((c1.setCell (by simp) _).setCell (by simp) _).setCell (by simp) _).setCell (by simp) _).setCell (by simp) _ | with_reducible exact (((((c1.alloc c1.size _).setCell (by simp; omega) _).setCell (by simp; omega) _).setCell (by simp; omega) _).setCell (by simp; omega) _).setCell (by simp; omega) _)) (first | (go_at_call 48; (with_reducible refine (MulDOmega_any _ _ _ _ _ _ _ _ _ _ _).mono ?_); rw [hpd']; rintro e w5 ⟨rfl, hc, hcs⟩; first | (have c1 : Below wr.heap.size wr w5 := below_undrewA hc) | (have c1 : Below wr.heap.size wr w5 := ((Below.refl _ _).drew.alloc (Nat.le_refl _) _).trans (hc.mono (by simp)); have hbx : w5.heap[wr.heap.size]? = some (.cells #[.int .i64 0, .int .i64 0, .int .i64 0, .int .i64 0, .int .i64 0] 67 (0, 0)) := (hc.block _ (by simp)).trans (heap_alloc_new wr.drew (.cells #[.int .i64 0, .int .i64 0, .int .i64 0, .int .i64 0, .int .i64 0] 67)); have bf0 := free_b (j := 0) hbx; have bk0 := cell_at (j := 0) hbx rfl; have bf1 := free_b (j := 1) hbx; have bk1 := cell_at (j := 1) hbx rfl; have bf2 := free_b (j := 2) hbx; have bk2 := cell_at (j := 2) hbx rfl; have bf3 := free_b (j := 3) hbx; have bk3 := cell_at (j := 3) hbx rfl; have bf4 := free_b (j := 4) hbx; have bk4 := cell_at (j := 4) hbx rfl; have bl : wr.heap.size < w5.heap.size := lt_of_block hbx)))
              all_goals (go_wp2_with (fail); go_meet; first | (refine ⟨w5.heap.size, (by with_reducible rfl), (by with_reducible rfl), ?_, c1.size, ?_⟩; (with_reducible exact heap_alloc_new _ _); (with_reducible exact c1.alloc c1.size _)) | (refine ⟨wr.heap.size, (by with_reducible rfl), (by with_reducible rfl), ?_, Nat.le_refl _, ?_⟩; (with_reducible exact set5 _ _ _ _ _ hbx); (with_reducible exact ((((c1.setCell (by simp) _).setCell (by simp) _).setCell (by simp) _).setCell (by simp) _).setCell (by simp) _)))
            case rest =>
              obtain ⟨P1, rfl, rfl, hP1, hP1g, bc1⟩ := hcut
              obtain ⟨wA, rfl⟩ : ∃ wA : World, wA = wc := ⟨_, rfl⟩
              obtain ⟨own4, own5⟩ := HOW.out
              obtain ⟨y9, hg4l⟩ := HQ5J.out
              have hol : o'.length = n := by have h1 := own5.1; rw [flat_length dcells 5 dcells_len] at h1; omega
              have hsj := HSJ.out
              obtain ⟨z, hz5⟩ : ∃ z, o'[s.j]? = some z := ⟨_, List.getElem?_eq_getElem (by rw [hol]; exact hsj)⟩
              have HZD := Lib.hid (show o'.getD s.j d0 = z by rw [List.getD_eq_getElem?_getD, hz5]; rfl)
              have v0 := cell_at (j := 0) hP1 rfl
              have v1 := cell_at (j := 1) hP1 rfl
              have v2 := cell_at (j := 2) hP1 rfl
              have v3 := cell_at (j := 3) hP1 rfl
              have v4 := cell_at (j := 4) hP1 rfl
              have hP1l : P1 < wA.heap.size := lt_of_block hP1
              have y9' : wA.cell? ⟨g4, j * 6, none⟩ = some (.int .i64 s.j) := (bc1.cell (p := ⟨g4, j * 6, none⟩) hg4l).trans y9
              have hg4A : g4 < wA.heap.size := Nat.lt_of_lt_of_le hg4l bc1.size
              have hGA : G < wA.heap.size := Nat.lt_of_lt_of_le hGi bc1.size
              have own4A := own_kin own4 (kin_of_below [] bc1) (fun k _ => by simp)
              have own5A := own_kin own5 (kin_of_below [] bc1) (fun k _ => by simp)
              obtain ⟨⟨o0, o1, o2, o3, o4⟩, _⟩ := dcell5 own5A hz5
              have hGl5 : G < wA.heap.size := hGA
              have KO : Hid (∀ W : World, Below wA.heap.size wA W → (W.cell? ⟨g4, j * 6, none⟩ = some (.int .i64 s.j) ∧ (W.cell? ⟨G, s.j * 5, none⟩ = some (.int .i64 z.a) ∧ W.cell? ⟨G, s.j * 5 + 1, none⟩ = some (.int .i64 z.b) ∧ W.cell? ⟨G, s.j * 5 + 2, none⟩ = some (.int .i64 z.c) ∧ W.cell? ⟨G, s.j * 5 + 3, none⟩ = some (.int .i64 z.d) ∧ W.cell? ⟨G, s.j * 5 + 4, none⟩ = some (.int .i64 z.e)) ∧ (W.cell? ⟨P1, 0, none⟩ = some (.int .i64 pd.a) ∧ W.cell? ⟨P1, 1, none⟩ = some (.int .i64 pd.b) ∧ W.cell? ⟨P1, 2, none⟩ = some (.int .i64 pd.c) ∧ W.cell? ⟨P1, 3, none⟩ = some (.int .i64 pd.d) ∧ W.cell? ⟨P1, 4, none⟩ = some (.int .i64 pd.e)))) := fun W hW => ⟨(hW.cell (p := ⟨g4, j * 6, none⟩) hg4A).trans y9', ⟨(hW.cell (p := ⟨G, s.j * 5, none⟩) hGl5).trans o0, (hW.cell (p := ⟨G, s.j * 5 + 1, none⟩) hGl5).trans o1, (hW.cell (p := ⟨G, s.j * 5 + 2, none⟩) hGl5).trans o2, (hW.cell (p := ⟨G, s.j * 5 + 3, none⟩) hGl5).trans o3, (hW.cell (p := ⟨G, s.j * 5 + 4, none⟩) hGl5).trans o4⟩, ⟨(hW.cell (p := ⟨P1, 0, none⟩) hP1l).trans v0, (hW.cell (p := ⟨P1, 1, none⟩) hP1l).trans v1, (hW.cell (p := ⟨P1, 2, none⟩) hP1l).trans v2, (hW.cell (p := ⟨P1, 3, none⟩) hP1l).trans v3, (hW.cell (p := ⟨P1, 4, none⟩) hP1l).trans v4⟩⟩
              have KD2 := Lib.hid (show Below wA.heap.size wA wA.drew from (Below.refl _ _).drew)
              have KA2 := Lib.hid (fun ob : Obj => (show Below wA.heap.size wA (wA.drew.alloc ob) from (Below.refl _ _).drew.alloc (Nat.le_refl _) _))
              have KB2 := Lib.hid (fun ob : Obj => (show Below wA.heap.size wA (wA.alloc ob).drew from ((Below.refl _ _).alloc (Nat.le_refl _) _).drew))
              obtain ⟨qd, ok2, hqd, hqr⟩ := dres_form (addD z pd)
              have hqd' : dres (addD ⟨z.a, z.b, z.c, z.d, z.e⟩ ⟨pd.a, pd.b, pd.c, pd.d, pd.e⟩) = .tuple #[.agg #[.int .i64 qd.a, .int .i64 qd.b, .int .i64 qd.c, .int .i64 qd.d, .int .i64 qd.e], .bool ok2] := hqd
              have HQR := Lib.hid hqr
              have HOW2 := Lib.hid (And.intro own4A own5A)
              have HY9 := Lib.hid y9'
              clear hqd hqr own4 own5 own4A own5A hz5 y9 y9'
              go_upto_region 13 with (fail)
              go_cut [12, 13] (fun pv okv wc => ∃ P2 : Nat, pv = .pointer (some ⟨P2, 0, none⟩) ∧ okv = .bool ok2 ∧ wc.heap[P2]? = some (.cells #[.int .i64 qd.a, .int .i64 qd.b, .int .i64 qd.c, .int .i64 qd.d, .int .i64 qd.e] 67 (0, 0)) ∧ wA.heap.size ≤ P2 ∧ Below wA.heap.size wA wc)
              case first =>
                go_region_held3 (fun W => W.cell? ⟨g4, j * 6, none⟩ = some (.int .i64 s.j) ∧ (W.cell? ⟨G, s.j * 5, none⟩ = some (.int .i64 z.a) ∧ W.cell? ⟨G, s.j * 5 + 1, none⟩ = some (.int .i64 z.b) ∧ W.cell? ⟨G, s.j * 5 + 2, none⟩ = some (.int .i64 z.c) ∧ W.cell? ⟨G, s.j * 5 + 3, none⟩ = some (.int .i64 z.d) ∧ W.cell? ⟨G, s.j * 5 + 4, none⟩ = some (.int .i64 z.e)) ∧ (W.cell? ⟨P1, 0, none⟩ = some (.int .i64 pd.a) ∧ W.cell? ⟨P1, 1, none⟩ = some (.int .i64 pd.b) ∧ W.cell? ⟨P1, 2, none⟩ = some (.int .i64 pd.c) ∧ W.cell? ⟨P1, 3, none⟩ = some (.int .i64 pd.d) ∧ W.cell? ⟨P1, 4, none⟩ = some (.int .i64 pd.e))) ((refine KO.out _ ?_; first | with_reducible exact Below.refl _ _ | with_reducible exact KD2.out | with_reducible exact KA2.out _ | with_reducible exact KB2.out _ | with_reducible exact c1 | with_reducible exact c1.alloc c1.size _ | with_reducible exact ((((c1.setCell (by simp) _).setCell (by simp) _).setCell (by simp) _).setCell (by simp) _).setCell (by simp) _ | with_reducible exact (((((c1.alloc c1.size _).setCell (by simp; omega) _).setCell (by simp; omega) _).setCell (by simp; omega) _).setCell (by simp; omega) _).setCell (by simp; omega) _)) (first | (go_at_call 49; (with_reducible refine (AddDOmega_any _ _ _ _ _ _ _ _ _ _ _).mono ?_); rw [hqd']; rintro e w6 ⟨rfl, hc, hcs⟩; first | (have c1 : Below wA.heap.size wA w6 := below_undrewA hc) | (have c1 : Below wA.heap.size wA w6 := ((Below.refl _ _).drew.alloc (Nat.le_refl _) _).trans (hc.mono (by simp)); have hbx : w6.heap[wA.heap.size]? = some (.cells #[.int .i64 0, .int .i64 0, .int .i64 0, .int .i64 0, .int .i64 0] 67 (0, 0)) := (hc.block _ (by simp)).trans (heap_alloc_new wA.drew (.cells #[.int .i64 0, .int .i64 0, .int .i64 0, .int .i64 0, .int .i64 0] 67)); have bf0 := free_b (j := 0) hbx; have bk0 := cell_at (j := 0) hbx rfl; have bf1 := free_b (j := 1) hbx; have bk1 := cell_at (j := 1) hbx rfl; have bf2 := free_b (j := 2) hbx; have bk2 := cell_at (j := 2) hbx rfl; have bf3 := free_b (j := 3) hbx; have bk3 := cell_at (j := 3) hbx rfl; have bf4 := free_b (j := 4) hbx; have bk4 := cell_at (j := 4) hbx rfl; have bl : wA.heap.size < w6.heap.size := lt_of_block hbx)))
                all_goals (go_wp2_with (fail); go_meet; first | (refine ⟨w6.heap.size, (by with_reducible rfl), (by with_reducible rfl), ?_, c1.size, ?_⟩; (with_reducible exact heap_alloc_new _ _); (with_reducible exact c1.alloc c1.size _)) | (refine ⟨wA.heap.size, (by with_reducible rfl), (by with_reducible rfl), ?_, Nat.le_refl _, ?_⟩; (with_reducible exact set5 _ _ _ _ _ hbx); (with_reducible exact ((((c1.setCell (by simp) _).setCell (by simp) _).setCell (by simp) _).setCell (by simp) _).setCell (by simp) _)))
              case rest =>
                obtain ⟨P2, rfl, rfl, hP2, hP2g, bc2⟩ := hcut
                obtain ⟨wB, rfl⟩ : ∃ wB : World, wB = wc := ⟨_, rfl⟩
                have own4B := own_kin HOW2.out.1 (kin_of_below [] bc2) (fun k _ => by simp)
                have own5B := own_kin HOW2.out.2 (kin_of_below [] bc2) (fun k _ => by simp)
                have bGB : Below G w3 wB := (bG.trans (bc1.mono (Nat.le_of_lt hGi))).trans (bc2.mono (Nat.le_of_lt hGA))
                have bwB : Below w.heap.size w wB := (bwi.trans (bc1.mono bwi.size)).trans (bc2.mono (Nat.le_trans bwi.size bc1.size))
                have bad : put1 x o' s = none → ∀ (W : World), Below w.heap.size w W → w.heap.size ≤ W.heap.size → RetAp w (apG ⟨k, a, b, c⟩ l) (.returned (.tuple #[.slice (some ⟨W.heap.size, 0, none⟩) 0 0, .bool false])) (W.alloc (.cells #[] 67)) := by
                  intro hp W hW hWs
                  refine retAp_none ?_ hWs hW rfl
                  rw [← HG.out, HRT.out]
                  have h1 : apS g l (t + 1) = none := by rw [HPT.out, HDR.out, puts, hp]
                  have h2 := apS_none h1 (n - (t + 1))
                  rwa [show t + 1 + (n - (t + 1)) = n from by omega] at h2
                have BAD := Lib.hid bad
                clear bad
                rcases HPR.out with ⟨rfl, hm1⟩ | ⟨rfl, hm1, _⟩
                · rcases HQR.out with ⟨rfl, hm3⟩ | ⟨rfl, hm3, _⟩
                  · have HP1 := Lib.hid (show put1 x o' s = some (o'.set s.j qd) by unfold put1; rw [hm1]; simp only; rw [HZD.out, hm3])
                    have hsj := HSJ.out
                    have z0 := cell_at (j := 0) hP2 rfl
                    have z1 := cell_at (j := 1) hP2 rfl
                    have z2 := cell_at (j := 2) hP2 rfl
                    have z3 := cell_at (j := 3) hP2 rfl
                    have z4 := cell_at (j := 4) hP2 rfl
                    have y9 : wB.cell? ⟨g4, j * 6, none⟩ = some (.int .i64 s.j) := (bc2.cell (p := ⟨g4, j * 6, none⟩) hg4A).trans HY9.out
                    obtain ⟨z', hz6⟩ : ∃ z', o'[s.j]? = some z' := ⟨_, List.getElem?_eq_getElem (by rw [hol]; exact hsj)⟩
                    obtain ⟨⟨o0, o1, o2, o3, o4⟩, f0, f1, f2, f3, f4⟩ := dcell5 own5B hz6
                    have hGB : G ≤ wB.heap.size := Nat.le_trans (Nat.le_of_lt hGA) bc2.size
                    have H5B := Lib.hid own5B
                    have H4B := Lib.hid own4B
                    have BGB := Lib.hid bGB
                    clear hm1 hm3 hz6 own5B own4B bGB bwB hP2 hP2g bc2 HPR HQR
                    go_wp2_with fail
                    go_still_tail 8, (by kernel_rfl)
                    change wpList _ _ _ _ _ wB.drew
                    go_wp2_with fail
                    go_roundw
                    case rel =>
                      have st := store5 (i := s.j) qd (show wB.drew.ownsRow G 67 5 (.slice (some ⟨G, 0, none⟩) n n) n (o'.flatMap dcells) from H5B.out)
                      refine ⟨j + 1, o'.set s.j qd, by go_num, by omega, ?_, st.1, own_kin (show wB.drew.ownsRow wo.heap.size 81 6 (.slice (some ⟨g4, 0, none⟩) m c4) m ((goes g t).flatMap scells) from H4B.out) (kin_of_grown st.2) ?_, BGB.out.drew.grown st.2 hGB (fun k hk => by injection hk with hk; omega)⟩
                      · rw [HPT.out, HDR.out, puts, HP1.out]
                      · intro k hk hm
                        have e1 : g4 = k := by injection hk
                        simp at hm
                        omega
                    case measure => simp [intOf]; omega
                  · have HP1 := Lib.hid (show put1 x o' s = none by unfold put1; rw [hm1]; simp only; rw [HZD.out, hm3])
                    clear hm1 hm3
                    go_wp2_with fail
                    exact bodyPost_ret (v := .tuple #[.slice (some ⟨wB.heap.size, 0, none⟩) 0 0, .bool false]) (by simp [results, Try.results37, go_sem]) rfl (BAD.out HP1.out wB bwB bwB.size)
                · have HP1 := Lib.hid (show put1 x o' s = none by unfold put1; rw [hm1])
                  clear hm1
                  go_wp2_with fail
                  exact bodyPost_ret (v := .tuple #[.slice (some ⟨wB.heap.size, 0, none⟩) 0 0, .bool false]) (by simp [results, Try.results37, go_sem]) rfl (BAD.out HP1.out wB bwB bwB.size)
          · obtain rfl : j = m := by omega
            have HEND := Lib.hid (show apS g l (t + 1) = some o' by rw [HPT.out, List.drop_of_length_le (by rw [← HM.out]; exact Nat.le_refl _)]; rfl)
            go_wp2_with fail
            go_roundw
            case rel => exact ⟨t + 1, o', by go_num, by omega, HEND.out, own5, bG⟩
            case measure => simp [intOf]; omega
      · rw [hzx] at hz
        have HSTEP := Lib.hid (show apS g l (t + 1) = some o by rw [apS, HAP.out]; simp only; rw [HXD.out, hzx]; rfl)
        clear hzx
        go_wp2_with fail
        go_roundw
        case rel => exact ⟨t + 1, o, by go_num, by omega, HSTEP.out, hown, hb⟩
        case measure => simp [intOf]; omega
    · obtain rfl : t = n := by omega
      go_wp2_with fail
      exact bodyPost_ret (v := .tuple #[.slice (some ⟨G, 0, none⟩) t t, .bool true]) (by simp [results, Try.results37, go_sem]) rfl ⟨_, t, t, true, o, rfl, .inl ⟨rfl, by rw [← HG.out, HRT.out]; exact HAP.out⟩, (apS_len HAP.out).trans HL.out, own_lowS hown (by omega), bw, by omega⟩
end
end Go.Proofs.Ytgjpicekdbemiaa
