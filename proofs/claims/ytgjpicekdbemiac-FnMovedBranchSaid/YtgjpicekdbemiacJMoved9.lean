/- What the calls that this law reaches answer, part 9 of 9. -/
import Derived.Test.YtgjpicekdbemiacJMoved8
import Derived.Test.YtgjpicekdbemiacJMoved6
import Derived.Test.YtgjpicekdbemiacJMoved7
import Derived.Test.YtgjpicekdbemiacJMoved3
namespace Go.Proofs.Ytgjpicekdbemiac
open Go.RowKit
set_option linter.unusedVariables false
/-- The state r, with its first j amplitudes moved. -/
def permTo (p : List Int) (r : List Dm) : Nat → List Dm
  | 0 => r
  | j + 1 => (permTo p r j).set (pidx p j).toNat (r.getD j dz)
def permR (p : List Int) (r : List Dm) : List Dm := permTo p r r.length
theorem permTo_len (p : List Int) (r : List Dm) : ∀ j, (permTo p r j).length = r.length
  | 0 => rfl
  | j + 1 => by rw [permTo, List.length_set, permTo_len p r j]
theorem permR_len (p : List Int) (r : List Dm) : (permR p r).length = r.length := permTo_len p r _
theorem permTo_at {p : List Int} {r : List Dm} {j : Nat} {x : Dm} (h : r[j]? = some x) : permTo p r (j + 1) = (permTo p r j).set (pidx p j).toNat x := by
  rw [permTo, List.getD_eq_getElem?_getD, h]
  rfl
def fitsM (p : List Int) (M : List (List Dm)) : Bool := M.all fun r => decide (r.length = 2 ^ p.length)
def permM (p : List Int) (M : List (List Dm)) : List (List Dm) := if (isP p && fitsM p M) = true then M.map (permR p) else M
theorem permM_no {p : List Int} {M : List (List Dm)} (h : isP p = false) : permM p M = M := by rw [permM, h]; rfl
theorem permM_bad {p : List Int} {M : List (List Dm)} {t : Nat} {r : List Dm} (hr : M[t]? = some r) (hne : r.length ≠ 2 ^ p.length) : permM p M = M := by
  have h : fitsM p M = false := by
    unfold fitsM
    rw [List.all_eq_false]
    exact ⟨r, List.mem_of_getElem? hr, by simp [hne]⟩
  rw [permM, h]
  simp
theorem permM_yes {p : List Int} {M : List (List Dm)} (h : isP p = true) (hf : ∀ (t : Nat) (r : List Dm), M[t]? = some r → r.length = 2 ^ p.length) : permM p M = M.map (permR p) := by
  have h2 : fitsM p M = true := by
    unfold fitsM
    rw [List.all_eq_true]
    intro r hr
    obtain ⟨t, ht⟩ := List.mem_iff_getElem?.1 hr
    simp [hf t r ht]
  rw [permM, h, h2]
  rfl
theorem free_atP {w : World} {b j : Nat} {cs : Array Value} {t : TypeId} (h : w.heap[b]? = some (.cells cs t (0, 0))) : w.frozen? ⟨b, j, none⟩ = false := by simp [World.frozen?, h]
theorem below_undrewP {w w' : World} (h : Below w.drew.heap.size w.drew w') : Below w.heap.size w w' := ⟨h.os, h.tape, h.output, h.size, h.block⟩
theorem own_types {w : World} {B B' e e' z z' n n' : Nat} {v v' : Value} {xs xs' : List Value} (h : w.ownsRow B e z v n xs) (h' : w.ownsRow B' e' z' v' n' xs') (hne : e ≠ e') : v.ownBlock = none ∨ v.ownBlock ≠ v'.ownBlock := by
  rcases h.2 with ⟨rfl, _⟩ | ⟨g, cap, cur, rfl, _, hh, _⟩
  · exact .inl rfl
  · right
    rcases h'.2 with ⟨rfl, _⟩ | ⟨g', cap', cur', rfl, _, hh', _⟩
    · simp [Value.ownBlock]
    · intro e1
      have e2 : g = g' := by simpa [Value.ownBlock] using e1
      subst e2
      rw [hh] at hh'
      injection hh' with hh'
      injection hh' with _ ht
      exact hne ht
theorem grown_of_below {w w' : World} {row : Option Nat} (h : Below w.heap.size w w') : w.grownBy w' row := ⟨h.os, h.tape, h.output, h.size, fun i hi _ => h.block i hi⟩
set_option maxRecDepth 100000 in
set_option maxHeartbeats 16000000 in
theorem PermuteBranch_impl (b : Int) (A : Option Addr) (n c : Nat) (M : List (List Dm)) (Ap : Option Addr) (m cp : Nat) (p : List Int) (w : World) (h : RdM w A n M) (hp : Rd w 1 Ap m (p.map (Value.int .i64))) (hpl : p.length = m) (hn : n ≤ 68719476736) (hs : szM M ≤ 1099511627776) (hm : m ≤ 1099511627776) :
    Calls Try.prog 6 #[.agg #[.int .i64 b, .slice A n c], .slice Ap m cp] w (RetBr w b n (permM p M)) := by
  obtain ⟨w0, hw0⟩ : ∃ w0, w0 = (w.alloc (.cells #[.int .i64 b, .slice A n c] 26)).alloc (.cells #[.int .i64 0, .slice none 0 0] 26) := ⟨_, rfl⟩
  have X0 := Lib.hid (show w0.heap[w.heap.size]? = some (.cells #[.int .i64 b, .slice A n c] 26 (0, 0)) by rw [hw0]; exact boxed2_0 _ _ _)
  have X1 := Lib.hid (show w0.heap[w.heap.size + 1]? = some (.cells #[.int .i64 0, .slice none 0 0] 26 (0, 0)) by rw [hw0]; exact boxed2_1 _ _ _)
  have b0 : Below w.heap.size w w0 := by rw [hw0]; exact (by repeat (first | exact Below.refl _ _ | assumption | (refine Below.trans ?_ (Below.mono (by assumption) (by first | omega | (simp; done) | (simp; omega)))) | (with_reducible refine Below.drew ?_) | (with_reducible refine Below.alloc ?_ (by first | omega | (simp; done) | (simp; omega)) _) | (with_reducible refine Below.setCell ?_ (by first | omega | (simp; done) | (simp; omega)) _)))
  have s0 : w.heap.size + 2 = w0.heap.size := by rw [hw0]; simp
  have HL := Lib.hid h.len
  have H := Lib.hid h
  have HP := Lib.hid hp
  have HPL := Lib.hid hpl
  have B0 := Lib.hid b0
  have HW := Lib.hid hw0
  obtain ⟨p0, p1⟩ := boxcells2 (lay := Below.refl _ _) X0.out
  clear h hp hpl b0 hw0
  go_enter Try.func6, Try.ntmps6
  go_upto_region 1 with (fail)
  rw [← HW.out]
  go_wp2_with fail
  refine (copyBranch_any b A n c M w0 (H.out.below B0.out) hn hs).mono ?_
  rintro e w1 ⟨A2, c2, F1, rfl, own1, hb1, hs1⟩
  obtain ⟨wx, hwx⟩ : ∃ wx, wx = w1.alloc (.cells #[.int .i64 b, .slice A2 n c2] 26) := ⟨_, rfl⟩
  have hx : wx.heap[w1.heap.size]? = some (.cells #[.int .i64 b, .slice A2 n c2] 26 (0, 0)) := by rw [hwx]; exact boxed1_0 _ _
  have bx : Below w1.heap.size w1 wx := by rw [hwx]; exact (by repeat (first | exact Below.refl _ _ | assumption | (refine Below.trans ?_ (Below.mono (by assumption) (by first | omega | (simp; done) | (simp; omega)))) | (with_reducible refine Below.drew ?_) | (with_reducible refine Below.alloc ?_ (by first | omega | (simp; done) | (simp; omega)) _) | (with_reducible refine Below.setCell ?_ (by first | omega | (simp; done) | (simp; omega)) _)))
  have sx : w1.heap.size + 1 = wx.heap.size := by rw [hwx]; simp
  have HIP := Lib.hid (IsPermutation_impl Ap m cp p wx ((HP.out.below B0.out).below (hb1.trans (bx.mono hs1))) HPL.out hm)
  have HX := Lib.hid hx
  have BX := Lib.hid (hb1.trans (bx.mono hs1))
  have HO1 := Lib.hid (own1.below bx)
  have HF1 := Lib.hid own1.lt
  have WX := Lib.hid hwx
  clear hx bx hwx own1 hb1 p0 p1
  go_wp2_with fail
  rw [← WX.out]
  refine HIP.out.mono ?_
  rintro e w2 ⟨rfl, b2, s2⟩
  have HX2 := Lib.hid ((b2.block _ (by omega)).trans HX.out)
  have B2 := Lib.hid (BX.out.trans (b2.mono (by omega)))
  have HO2 := Lib.hid (HO1.out.below b2)
  have HX1 := Lib.hid ((B2.out.block _ (by omega)).trans X1.out)
  have HX0 := Lib.hid ((B2.out.block _ (by omega)).trans X0.out)
  obtain ⟨r0, r1⟩ := boxcells2 (lay := Below.refl _ _) HX2.out
  obtain ⟨q0, q1⟩ := boxcells2 (lay := Below.refl _ _) HX1.out
  have f0 := free_atP (j := 0) HX1.out
  have f1 := free_atP (j := 1) HX1.out
  have hX1l : w.heap.size + 1 < w2.heap.size := by omega
  have hX2l : w1.heap.size < w2.heap.size := by omega
  have hBW : Below w.heap.size w w2 := B0.out.trans (B2.out.mono (by omega))
  have HBW := Lib.hid hBW
  clear b2 hBW
  cases hip : isP p
  · have HS := Lib.hid (permM_no (M := M) hip)
    clear hip
    go_wp2_with fail
    refine bodyPost_ret (v := .agg #[.int .i64 b, .slice A2 n c2]) (by simp [results, Try.results6, go_sem, q0, q1]) rfl ⟨A2, c2, F1, rfl, ?_, ?_, ?_⟩
    · rw [HS.out]
      exact ((HO2.out.base_le (by omega)).kin ((kin_setCell _ (w.heap.size + 1) _ _).trans (kin_setCell _ (w.heap.size + 1) _ _)) (fun k hk hm => by have := (HF1.out k hk).1; simp at hm; omega))
    · exact ((HBW.out).setCell (by first | omega | (simp; done) | (simp; omega)) _).setCell (by first | omega | (simp; done) | (simp; omega)) _
    · simp [World.setCell]; omega
  · have hml := (isP_mem hip).1
    rw [HPL.out] at hml
    have HIS := Lib.hid hip
    have hpw : (2 : Int) ^ m ≤ 16 := pow_le16 hml.2
    have hpp : (0 : Int) < 2 ^ m := Int.pow_pos (by decide)
    have hw1 : wrap64 (2 ^ m) = 2 ^ m := IntWalk.wrap64_in _ (by omega)
    obtain ⟨N, hN⟩ : ∃ N : Nat, N = 2 ^ m := ⟨_, rfl⟩
    have hNi : (2 : Int) ^ m = (N : Int) := by rw [hN]; exact_mod_cast rfl
    have HWN : Hid (wrap64 (2 ^ m) = (N : Int)) := by rw [hw1, hNi]; exact rfl
    have HNM := Lib.hid hN
    obtain ⟨y0, y1⟩ := boxcells2 (lay := Below.refl _ _) HX0.out
    clear hip hw1 hNi hN hpw hpp
    go_wp2_with fail
    go_loop [21] (fun i => ∃ t : Nat, t ≤ n ∧ i = .int .i64 t ∧ Hid (∀ (j : Nat) (r : List Dm), j < t → M[j]? = some r → r.length = N)) (fun i => n - (intOf i).toNat)
    case atStart => exact ⟨0, Nat.zero_le _, rfl, fun j r hj => by omega⟩
    case round =>
      obtain ⟨t, ht, rfl, hfit⟩ := hrel
      by_cases hlt : t < n
      · have htl : t < M.length := by rw [HL.out]; exact hlt
        obtain ⟨r, hr⟩ : ∃ r, M[t]? = some r := ⟨_, List.getElem?_eq_getElem htl⟩
        obtain ⟨bb, off, a, c1, rfl, hbl, z0, hc1, hc2, hrd⟩ := (H.out.below HBW.out).at hr
        have HR := Lib.hid hr
        clear hr htl hrd
        by_cases hrl : r.length = N
        · have hne : ((r.length : Int) != wrap64 (2 ^ m)) = false := by rw [HWN.out, hrl]; simp
          have HN2 : Hid (∀ (j : Nat) (r : List Dm), j < t + 1 → M[j]? = some r → r.length = N) := by
            intro j r' hj hr'
            rcases Nat.lt_succ_iff_lt_or_eq.1 hj with h | rfl
            · exact hfit.out j r' h hr'
            · rw [HR.out] at hr'
              injection hr' with hr'
              rw [← hr']
              exact hrl
          have HRL := Lib.hid hrl
          clear hrl
          go_wp2_with fail
          go_round
          case rel => exact ⟨t + 1, by omega, by go_num, HN2⟩
          case measure => simp [intOf]; omega
        · have hne : ((r.length : Int) != wrap64 (2 ^ m)) = true := by rw [HWN.out, bne_iff_ne]; exact fun e => hrl (by exact_mod_cast e)
          have HS := Lib.hid (permM_bad (p := p) HR.out (by rw [HPL.out, ← HNM.out]; exact hrl))
          clear hrl
          go_wp2_with fail
          refine bodyPost_ret (v := .agg #[.int .i64 b, .slice A2 n c2]) (by simp [results, Try.results6, go_sem, q0, q1]) rfl ⟨A2, c2, F1, rfl, ?_, ?_, ?_⟩
          · rw [HS.out]
            exact ((HO2.out.base_le (by omega)).kin ((kin_setCell _ (w.heap.size + 1) _ _).trans (kin_setCell _ (w.heap.size + 1) _ _)) (fun k hk hm => by have := (HF1.out k hk).1; simp at hm; omega))
          · exact ((HBW.out).setCell (by first | omega | (simp; done) | (simp; omega)) _).setCell (by first | omega | (simp; done) | (simp; omega)) _
          · simp [World.setCell]; omega
      · obtain rfl : t = n := by omega
        have HFIT : Hid (∀ (j : Nat) (r : List Dm), M[j]? = some r → r.length = N) := by
          intro j r hr
          exact hfit.out j r (by rw [← HL.out]; exact (List.getElem?_eq_some_iff.1 hr).1) hr
        have HS : Hid (permM p M = M.map (permR p)) := permM_yes HIS.out (fun j r hr => by rw [HPL.out, ← HNM.out]; exact HFIT.out j r hr)
        clear hfit
        obtain ⟨MS, hMS⟩ : ∃ MS, MS = M.map (permR p) := ⟨_, rfl⟩
        have HMS := Lib.hid hMS
        have HML := Lib.hid (show MS.length = M.length by rw [hMS, List.length_map])
        rw [← hMS] at HS
        obtain ⟨SS, hM1, hM2, hF, hNd, hrows⟩ := HO2.out
        have HF := Lib.hid hF
        have HND := Lib.hid (hF ▸ hNd)
        have HNDF := Lib.hid hNd
        have HM2 := Lib.hid hM2
        have HROW := Lib.hid hrows
        clear hMS hM1 hM2 hF hNd hrows r0 r1
        go_wp2_with fail
        go_loopw [36] (fun i wi => ∃ k : Nat, k ≤ t ∧ i = .int .i64 k ∧ Hid (wi.ownsRow w0.heap.size 38 1 (.slice A2 t c2) t SS) ∧ Hid (∀ (j : Nat) (r : List Dm), (MS.take k ++ M.drop k)[j]? = some r → ∃ u, SS[j]? = some u ∧ wi.ownsRow w0.heap.size 47 5 u r.length (r.flatMap dcells)) ∧ Hid (Kin F1 w2 wi)) (fun i _ => t - (intOf i).toNat)
        case atStart => exact ⟨0, Nat.zero_le _, rfl, HM2.out, Lib.hid (by simpa using HROW.out), Kin.refl _ _⟩
        case round =>
          obtain ⟨k, hk, rfl, ho, hrow, hkin⟩ := hrel
          obtain ⟨wi, rfl⟩ : ∃ wi : World, wi = wr := ⟨_, rfl⟩
          have hks := hkin.out.size
          have HXi := Lib.hid ((hkin.out.block w1.heap.size hX2l (fun hm => by have := (HF1.out _ hm).2; omega)).trans HX2.out)
          have HBi := Lib.hid (HBW.out.trans (hkin.out.below (by omega) (fun q hq => by have := (HF1.out q hq).1; omega)))
          have hXil : w1.heap.size < wi.heap.size := by omega
          by_cases hlk : k < t
          · have hkl : k < M.length := by rw [HL.out]; exact hlk
            obtain ⟨r, hr⟩ : ∃ r, M[k]? = some r := ⟨_, List.getElem?_eq_getElem hkl⟩
            obtain ⟨u, hu, hou⟩ := hrow.out k r ((mix_at HML.out hkl).trans hr)
            obtain ⟨a, c', rfl, _, _, _⟩ := rd_of_own hou
            obtain ⟨gA, rfl⟩ := own_some ho.out (by omega)
            obtain ⟨b3, off3, a3, c3, hA, hbl3, z0, hc1, hc2, hrd⟩ := H.out.at hr
            subst hA
            have z0' := (HBi.out.cell (p := ⟨b3, off3 + k, none⟩) hbl3).trans z0
            have hrl := szM_row hr
            have HRN := Lib.hid (HFIT.out k r hr)
            have HSet := Lib.hid (show (MS.take k ++ M.drop k).set k (permR p r) = MS.take (k + 1) ++ M.drop (k + 1) from mix_set HML.out (by rw [HMS.out, List.getElem?_map, hr]; rfl))
            have HR := Lib.hid hr
            have HU := Lib.hid hu
            have HOU := Lib.hid hou
            have HRD := Lib.hid hrd
            have HAP := Lib.hid (own_types ho.out hou (by decide))
            have hdk : decide ((k : Int) < (t : Int)) = true := by simp; omega
            have hb3i : b3 < wi.heap.size := by have := HBi.out.size; omega
            clear hr hu hkl hou z0 hrd
            go_wp2_with fail
            go_loopw [43] (fun i wj => ∃ j : Nat, j ≤ r.length ∧ i = .int .i64 j ∧ Hid (wj.ownsRow w0.heap.size 47 5 (.slice a r.length c') r.length ((permTo p r j).flatMap dcells)) ∧ Hid (wi.grownBy wj (Value.slice a r.length c').ownBlock)) (fun i _ => r.length - (intOf i).toNat)
            case atStart => exact ⟨0, Nat.zero_le _, rfl, HOU.out, World.grownBy.refl _ _⟩
            case round =>
              obtain ⟨j, hj, rfl, hoj, hgj⟩ := hrel
              obtain ⟨wj, rfl⟩ : ∃ wj : World, wj = wr := ⟨_, rfl⟩
              have hgs := hgj.out.size
              by_cases hlj : j < r.length
              · obtain ⟨x, hx⟩ : ∃ x, r[j]? = some x := ⟨_, List.getElem?_eq_getElem hlj⟩
                obtain ⟨g, rfl⟩ := own_some hoj.out (by omega)
                have hgw : w0.heap.size ≤ g := (HOU.out.lt g rfl).1
                have hgF : g ∈ F1 := by rw [HF.out]; exact List.mem_append.2 (.inr (List.mem_flatMap.2 ⟨_, List.mem_of_getElem? HU.out, by simp [Value.ownBlock]⟩))
                have hg1 := (HF1.out g hgF).2
                have HBj := Lib.hid (HBi.out.trans (grown_below hgj.out (by omega) (fun q hq => by have h9 : g = q := (by simpa [Value.ownBlock] using hq); omega)))
                obtain ⟨b4, off4, rfl, hb4, hc4⟩ := (HRD.out.below HBj.out).2 (by omega)
                have x0 := hc4 (j * 5 + 0) _ (flat_at dcells_len r j x 0 hx (by decide))
                have x1 := hc4 (j * 5 + 1) _ (flat_at dcells_len r j x 1 hx (by decide))
                have x2 := hc4 (j * 5 + 2) _ (flat_at dcells_len r j x 2 hx (by decide))
                have x3 := hc4 (j * 5 + 3) _ (flat_at dcells_len r j x 3 hx (by decide))
                have x4 := hc4 (j * 5 + 4) _ (flat_at dcells_len r j x 4 hx (by decide))
                rw [← Nat.add_assoc] at x1 x2 x3 x4
                rw [Nat.add_zero] at x0
                have hpi := pidx_lt HIS.out (j : Int)
                obtain ⟨idx, hidx⟩ : ∃ idx : Nat, pidx p (j : Int) = idx := ⟨(pidx p (j : Int)).toNat, by omega⟩
                have hil : idx < r.length := by
                  have h2 := hpi.2
                  rw [hidx, HPL.out] at h2
                  have h3 : idx < 2 ^ m := by exact_mod_cast h2
                  rw [← HNM.out] at h3
                  have h4 := HRN.out
                  omega
                have HSTEP : Hid (permTo p r (j + 1) = (permTo p r j).set idx x) := by rw [permTo_at hx, hidx, Int.toNat_natCast]; exact rfl
                obtain ⟨y, hy⟩ : ∃ y, (permTo p r j)[idx]? = some y := ⟨_, List.getElem?_eq_getElem (by rw [permTo_len]; exact hil)⟩
                have HY := Lib.hid hy
                have HIDX := Lib.hid hidx
                obtain ⟨wB, hwB⟩ : ∃ wB, wB = wj.alloc (.cells #[.int .i64 x.a, .int .i64 x.b, .int .i64 x.c, .int .i64 x.d, .int .i64 x.e] 47) := ⟨_, rfl⟩
                have XB := Lib.hid (show wB.heap[wj.heap.size]? = some (.cells #[.int .i64 x.a, .int .i64 x.b, .int .i64 x.c, .int .i64 x.d, .int .i64 x.e] 47 (0, 0)) by rw [hwB]; exact boxed1_0 _ _)
                have bB : Below wj.heap.size wj wB := by rw [hwB]; exact (by repeat (first | exact Below.refl _ _ | assumption | (refine Below.trans ?_ (Below.mono (by assumption) (by first | omega | (simp; done) | (simp; omega)))) | (with_reducible refine Below.drew ?_) | (with_reducible refine Below.alloc ?_ (by first | omega | (simp; done) | (simp; omega)) _) | (with_reducible refine Below.setCell ?_ (by first | omega | (simp; done) | (simp; omega)) _)))
                have sB : wj.heap.size + 1 = wB.heap.size := by rw [hwB]; simp
                have HXj := Lib.hid ((hgj.out.block w1.heap.size hXil (fun e => by have h9 : w1.heap.size = g := (by simpa [Value.ownBlock] using e); omega)).trans HXi.out)
                have HOA := Lib.hid (ho.out.kept hgj.out HAP.out)
                have u1 : wB.cell? ⟨w1.heap.size, 1, none⟩ = some (.slice (some ⟨gA, 0, none⟩) t c2) := (bB.cell (p := ⟨w1.heap.size, 1, none⟩) (by show w1.heap.size < _; omega)).trans (cell_at (j := 1) HXj.out rfl)
                have hgA := (HOA.out.lt gA rfl).2
                have u2 : wB.cell? ⟨gA, k, none⟩ = some (.slice (some ⟨g, 0, none⟩) r.length c') := (bB.cell (p := ⟨gA, k, none⟩) hgA).trans ((HOA.out.cellAt k (by omega)).trans HU.out)
                have v0 := cell_at (j := 0) (u := .int .i64 x.a) XB.out rfl
                have v1 := cell_at (j := 1) (u := .int .i64 x.b) XB.out rfl
                have v2 := cell_at (j := 2) (u := .int .i64 x.c) XB.out rfl
                have v3 := cell_at (j := 3) (u := .int .i64 x.d) XB.out rfl
                have v4 := cell_at (j := 4) (u := .int .i64 x.e) XB.out rfl
                have hl1 : w1.heap.size < wB.heap.size := by omega
                have hl2 : gA < wB.heap.size := by omega
                have hl3 : wj.heap.size < wB.heap.size := by omega
                have KS : Hid (∀ W : World, W.heap[w1.heap.size]? = wB.heap[w1.heap.size]? → W.heap[gA]? = wB.heap[gA]? → W.heap[wj.heap.size]? = wB.heap[wj.heap.size]? → (W.cell? ⟨w1.heap.size, 1, none⟩ = some (.slice (some ⟨gA, 0, none⟩) t c2) ∧ W.cell? ⟨gA, k, none⟩ = some (.slice (some ⟨g, 0, none⟩) r.length c') ∧ W.cell? ⟨wj.heap.size, 0, none⟩ = some (.int .i64 x.a) ∧ W.cell? ⟨wj.heap.size, 1, none⟩ = some (.int .i64 x.b) ∧ W.cell? ⟨wj.heap.size, 2, none⟩ = some (.int .i64 x.c) ∧ W.cell? ⟨wj.heap.size, 3, none⟩ = some (.int .i64 x.d) ∧ W.cell? ⟨wj.heap.size, 4, none⟩ = some (.int .i64 x.e))) := fun W e1 e2 e3 =>
                  ⟨(World.cell?_of_block (a := ⟨w1.heap.size, 1, none⟩) e1).trans u1, (World.cell?_of_block (a := ⟨gA, k, none⟩) e2).trans u2, (World.cell?_of_block (a := ⟨wj.heap.size, 0, none⟩) e3).trans v0, (World.cell?_of_block (a := ⟨wj.heap.size, 1, none⟩) e3).trans v1, (World.cell?_of_block (a := ⟨wj.heap.size, 2, none⟩) e3).trans v2, (World.cell?_of_block (a := ⟨wj.heap.size, 3, none⟩) e3).trans v3, (World.cell?_of_block (a := ⟨wj.heap.size, 4, none⟩) e3).trans v4⟩
                have hgg : gA ≠ g := by have h9 := HAP.out; simpa [Value.ownBlock] using h9
                have NG1 : Hid ((some w1.heap.size : Option Nat) ≠ some g) := fun e => by injection e with e; omega
                have NG2 : Hid ((some gA : Option Nat) ≠ some g) := fun e => by injection e with e; exact hgg e
                have NG3 : Hid ((some wj.heap.size : Option Nat) ≠ some g) := fun e => by injection e with e; omega
                have KS0 := Lib.hid (KS.out wB rfl rfl rfl)
                have KS1 := Lib.hid (KS.out wB.drew rfl rfl rfl)
                have HPB := Lib.hid (HP.out.below (HBj.out.trans (bB.mono (by have := HBj.out.size; omega))))
                have HOJB := Lib.hid (ownsRow_below hoj.out bB)
                have HGB := Lib.hid (hgj.out.trans (grown_of_below bB))
                have WB := Lib.hid hwB
                clear hx hidx hy hwB bB hpi hc4 hgF hgg
                go_wp2_with fail
                rw [← WB.out]
                clear x0 x1 x2 x3 x4 u1 u2 v0 v1 v2 v3 v4
                go_region_held3 (fun W => W.cell? ⟨w1.heap.size, 1, none⟩ = some (.slice (some ⟨gA, 0, none⟩) t c2) ∧ W.cell? ⟨gA, k, none⟩ = some (.slice (some ⟨g, 0, none⟩) r.length c') ∧ W.cell? ⟨wj.heap.size, 0, none⟩ = some (.int .i64 x.a) ∧ W.cell? ⟨wj.heap.size, 1, none⟩ = some (.int .i64 x.b) ∧ W.cell? ⟨wj.heap.size, 2, none⟩ = some (.int .i64 x.c) ∧ W.cell? ⟨wj.heap.size, 3, none⟩ = some (.int .i64 x.d) ∧ W.cell? ⟨wj.heap.size, 4, none⟩ = some (.int .i64 x.e)) ((first | (with_reducible exact KS0.out) | (with_reducible exact KS1.out) | (with_reducible exact KS2.out) | (with_reducible exact KS3.out))) (first | (go_at_call 18; (with_reducible refine (PermuteIndex_impl Ap m cp p (j : Int) _ HPB.out.drew HPL.out hm).mono ?_); rintro e w5 ⟨rfl, b5d, s5d⟩; rw [HIDX.out]; have b5 : Below wB.heap.size wB w5 := below_undrewP b5d; have own5 := ownsRow_below HOJB.out b5; obtain ⟨⟨t0, t1, t2, t3, t4⟩, g0, g1, g2, g3, g4⟩ := dcell5 own5 HY.out; have hl5 : g < w5.heap.size := (own5.lt g rfl).2; have sz5 := b5.size; have gs5 : w5.grownBy (((((w5.setCell ⟨g, idx * 5, none⟩ (.int .i64 x.a)).setCell ⟨g, idx * 5 + 1, none⟩ (.int .i64 x.b)).setCell ⟨g, idx * 5 + 2, none⟩ (.int .i64 x.c)).setCell ⟨g, idx * 5 + 3, none⟩ (.int .i64 x.d)).setCell ⟨g, idx * 5 + 4, none⟩ (.int .i64 x.e)) (some g) := (store5 (i := idx) x own5).2; have KS2 := Lib.hid (KS.out w5 (b5.block _ hl1) (b5.block _ hl2) (b5.block _ hl3)); have KS3 := Lib.hid (KS.out (((((w5.setCell ⟨g, idx * 5, none⟩ (.int .i64 x.a)).setCell ⟨g, idx * 5 + 1, none⟩ (.int .i64 x.b)).setCell ⟨g, idx * 5 + 2, none⟩ (.int .i64 x.c)).setCell ⟨g, idx * 5 + 3, none⟩ (.int .i64 x.d)).setCell ⟨g, idx * 5 + 4, none⟩ (.int .i64 x.e)) ((gs5.block _ (by omega) NG1.out).trans (b5.block _ hl1)) ((gs5.block _ (by omega) NG2.out).trans (b5.block _ hl2)) ((gs5.block _ (by omega) NG3.out).trans (b5.block _ hl3)))))
                have HS5 := Lib.hid (store5 (i := idx) x own5)
                have HB5 := Lib.hid b5
                clear t0 t1 t2 t3 t4 g0 g1 g2 g3 g4 own5 b5 b5d s5d gs5
                go_wp2_with fail
                go_roundw
                case rel => exact ⟨j + 1, by omega, by go_num, by rw [HSTEP.out]; exact HS5.out.1, (HGB.out.trans (grown_of_below HB5.out)).trans HS5.out.2⟩
                case measure => simp [intOf]; omega
              · obtain rfl : j = r.length := by omega
                have HOJ : Hid (wj.ownsRow w0.heap.size 47 5 (.slice a r.length c') r.length ((permR p r).flatMap dcells)) := hoj.out
                go_wp2_with fail
                go_roundw
                case rel =>
                  have hnew : wj.ownsRow w0.heap.size 47 5 (.slice a r.length c') (permR p r).length ((permR p r).flatMap dcells) := by rw [permR_len]; exact HOJ.out
                  have h5 := ownM_set (M := MS.take k ++ M.drop k) (t := k) (r := r) (r' := permR p r) (by rw [List.length_append, List.length_take, List.length_drop, HML.out, HL.out]; omega) ho.out HND.out hrow.out HU.out hlk hnew hgj.out
                  rw [HSet.out] at h5
                  exact ⟨k + 1, by omega, by go_num, h5.1, h5.2, hkin.out.trans ((kin_of_grown hgj.out).mono (fun y hy => by rw [HF.out]; exact List.mem_append.2 (.inr (List.mem_flatMap.2 ⟨_, List.mem_of_getElem? HU.out, hy⟩))))⟩
                case measure => simp [intOf]; omega
          · obtain rfl : k = t := by omega
            have HOM : Hid (OwnM wi w0.heap.size (.slice A2 k c2) k MS F1) := by
              have h := hrow.out
              rw [List.take_of_length_le (by rw [HML.out, HL.out]; exact Nat.le_refl _), List.drop_of_length_le (by rw [HL.out]; exact Nat.le_refl _), List.append_nil] at h
              exact ⟨SS, by rw [HML.out, HL.out], ho.out, HF.out, HNDF.out, h⟩
            have HX1i := Lib.hid ((hkin.out.block (w.heap.size + 1) hX1l (fun hm => by have := (HF1.out _ hm).1; omega)).trans HX1.out)
            obtain ⟨r0, r1⟩ := boxcells2 (lay := Below.refl _ _) HXi.out
            obtain ⟨q0, q1⟩ := boxcells2 (lay := Below.refl _ _) HX1i.out
            have f0 := free_atP (j := 0) HX1i.out
            have f1 := free_atP (j := 1) HX1i.out
            have hXl1 : w.heap.size + 1 < wi.heap.size := by omega
            go_wp2_with fail
            refine bodyPost_ret (v := .agg #[.int .i64 b, .slice A2 k c2]) (by simp [results, Try.results6, go_sem, q0, q1]) rfl ⟨A2, c2, F1, rfl, ?_, ?_, ?_⟩
            · rw [HS.out]
              exact ((HOM.out.base_le (by omega)).kin ((kin_setCell _ (w.heap.size + 1) _ _).trans (kin_setCell _ (w.heap.size + 1) _ _)) (fun q hq hm => by have := (HF1.out q hq).1; simp at hm; omega))
            · exact ((HBi.out).setCell (by first | omega | (simp; done) | (simp; omega)) _).setCell (by first | omega | (simp; done) | (simp; omega)) _
            · have := HBi.out.size; simp [World.setCell]; omega
end Go.Proofs.Ytgjpicekdbemiac
namespace Go.Proofs.Ytgjpicekdbemiac
open Go.RowKit
set_option linter.unusedVariables false
def invTo (p : List Int) : Nat → List Int
  | 0 => List.replicate p.length 0
  | t + 1 => (invTo p t).set (p.getD t 0).toNat t
def invP (p : List Int) : List Int := if isP p = true then invTo p p.length else []
theorem invTo_len (p : List Int) : ∀ t, (invTo p t).length = p.length
  | 0 => by simp [invTo]
  | t + 1 => by rw [invTo, List.length_set, invTo_len p t]
theorem invP_no {p : List Int} (h : isP p = false) : invP p = [] := by rw [invP, h]; rfl
theorem invP_yes {p : List Int} (h : isP p = true) : invP p = invTo p p.length := by rw [invP, if_pos h]
/-- What is asked of a permutation, index by index. -/
def goodP (p : List Int) : Bool := isP (invTo p p.length) && (List.range (2 ^ p.length)).all fun j => decide ((pidx p j).toNat < 2 ^ p.length) && (decide ((pidx (invTo p p.length) j).toNat < 2 ^ p.length) && (decide ((pidx (invTo p p.length) (pidx p j).toNat).toNat = j) && decide ((pidx p (pidx (invTo p p.length) j).toNat).toNat = j)))
theorem good1 : ((List.range 1).all fun a => !isP [(a : Nat)] || goodP [(a : Nat)]) = true := by decide +kernel
theorem good2 : ((List.range 2).all fun a => (List.range 2).all fun b => !isP [(a : Nat), (b : Nat)] || goodP [(a : Nat), (b : Nat)]) = true := by decide +kernel
theorem good3 : ((List.range 3).all fun a => (List.range 3).all fun b => (List.range 3).all fun c => !isP [(a : Nat), (b : Nat), (c : Nat)] || goodP [(a : Nat), (b : Nat), (c : Nat)]) = true := by decide +kernel
theorem good4 : ((List.range 4).all fun a => (List.range 4).all fun b => (List.range 4).all fun c => (List.range 4).all fun d => !isP [(a : Nat), (b : Nat), (c : Nat), (d : Nat)] || goodP [(a : Nat), (b : Nat), (c : Nat), (d : Nat)]) = true := by decide +kernel
theorem own_fromI {w : World} {B B' e size n : Nat} {v : Value} {xs : List Value} (h : w.ownsRow B e size v n xs) (hB : B' ≤ B) : w.ownsRow B' e size v n xs := own_from h hB
theorem orG {a b : Bool} (h : (!a || b) = true) (ha : a = true) : b = true := by rw [ha] at h; exact h
theorem goodP_of {p : List Int} (h : isP p = true) : goodP p = true := by
  obtain ⟨⟨h1, h4⟩, hm⟩ := isP_mem h
  match p, h, h1, h4, hm with
  | [a], h, _, _, hm =>
    have ha := hm a (by simp)
    simp at ha
    obtain ⟨x, rfl⟩ : ∃ x : Nat, a = x := ⟨a.toNat, by omega⟩
    exact orG (List.all_eq_true.1 good1 x (List.mem_range.2 (by omega))) h
  | [a, b], h, _, _, hm =>
    have ha := hm a (by simp)
    have hb := hm b (by simp)
    simp at ha hb
    obtain ⟨x, rfl⟩ : ∃ x : Nat, a = x := ⟨a.toNat, by omega⟩
    obtain ⟨y, rfl⟩ : ∃ x : Nat, b = x := ⟨b.toNat, by omega⟩
    exact orG (List.all_eq_true.1 (List.all_eq_true.1 good2 x (List.mem_range.2 (by omega))) y (List.mem_range.2 (by omega))) h
  | [a, b, c], h, _, _, hm =>
    have ha := hm a (by simp)
    have hb := hm b (by simp)
    have hc := hm c (by simp)
    simp at ha hb hc
    obtain ⟨x, rfl⟩ : ∃ x : Nat, a = x := ⟨a.toNat, by omega⟩
    obtain ⟨y, rfl⟩ : ∃ x : Nat, b = x := ⟨b.toNat, by omega⟩
    obtain ⟨z, rfl⟩ : ∃ x : Nat, c = x := ⟨c.toNat, by omega⟩
    exact orG (List.all_eq_true.1 (List.all_eq_true.1 (List.all_eq_true.1 good3 x (List.mem_range.2 (by omega))) y (List.mem_range.2 (by omega))) z (List.mem_range.2 (by omega))) h
  | [a, b, c, d], h, _, _, hm =>
    have ha := hm a (by simp)
    have hb := hm b (by simp)
    have hc := hm c (by simp)
    have hd := hm d (by simp)
    simp at ha hb hc hd
    obtain ⟨x, rfl⟩ : ∃ x : Nat, a = x := ⟨a.toNat, by omega⟩
    obtain ⟨y, rfl⟩ : ∃ x : Nat, b = x := ⟨b.toNat, by omega⟩
    obtain ⟨z, rfl⟩ : ∃ x : Nat, c = x := ⟨c.toNat, by omega⟩
    obtain ⟨u, rfl⟩ : ∃ x : Nat, d = x := ⟨d.toNat, by omega⟩
    exact orG (List.all_eq_true.1 (List.all_eq_true.1 (List.all_eq_true.1 (List.all_eq_true.1 good4 x (List.mem_range.2 (by omega))) y (List.mem_range.2 (by omega))) z (List.mem_range.2 (by omega))) u (List.mem_range.2 (by omega))) h
  | [], h, h1, _, _ => simp at h1
  | _ :: _ :: _ :: _ :: _ :: _, h, _, h4, _ => simp at h4
/-- Permuting by a map f whose inverse is g: place k holds what stood at g k. -/
theorem permTo_get {p : List Int} {r : List Dm} {N : Nat} (hr : r.length = N) {g : Nat → Nat} (hfg : ∀ j, j < N → (pidx p j).toNat < N ∧ g (pidx p j).toNat = j) (hgf : ∀ k, k < N → (pidx p (g k)).toNat = k) :
    ∀ t, t ≤ N → ∀ k, k < N → (permTo p r t)[k]? = if g k < t then r[g k]? else r[k]?
  | 0, _, k, hk => by simp [permTo]
  | t + 1, ht, k, hk => by
    obtain ⟨x, hx⟩ : ∃ x, r[t]? = some x := ⟨_, List.getElem?_eq_getElem (by omega)⟩
    rw [permTo_at hx, List.getElem?_set]
    have ih := permTo_get hr hfg hgf t (by omega) k hk
    have hlen := permTo_len p r t
    by_cases e : (pidx p t).toNat = k
    · have hg : g k = t := by rw [← e]; exact (hfg t (by omega)).2
      rw [if_pos e, if_pos (by omega), hg, if_pos (by omega), hx]
    · have hg : g k ≠ t := fun h => e (by rw [← h]; exact hgf k hk)
      rw [if_neg e, ih]
      by_cases h1 : g k < t
      · rw [if_pos h1, if_pos (by omega)]
      · rw [if_neg h1, if_neg (by omega)]
theorem perm_back {p : List Int} {r : List Dm} (h : isP p = true) (hr : r.length = 2 ^ p.length) : permR (invTo p p.length) (permR p r) = r := by
  have hg := goodP_of h
  unfold goodP at hg
  rw [Bool.and_eq_true] at hg
  have hall : ∀ j : Nat, j < 2 ^ p.length → ((pidx p j).toNat < 2 ^ p.length ∧ (pidx (invTo p p.length) j).toNat < 2 ^ p.length) ∧ (pidx (invTo p p.length) (pidx p j).toNat).toNat = j ∧ (pidx p (pidx (invTo p p.length) j).toNat).toNat = j := by
    intro j hj
    have := List.all_eq_true.1 hg.2 j (List.mem_range.2 hj)
    simp only [Bool.and_eq_true, decide_eq_true_eq] at this
    exact ⟨⟨this.1, this.2.1⟩, this.2.2.1, this.2.2.2⟩
  have hr2 : (permR p r).length = 2 ^ p.length := by rw [permR_len, hr]
  apply List.ext_getElem?
  intro k
  by_cases hk : k < 2 ^ p.length
  · have h1 := permTo_get (p := invTo p p.length) hr2 (g := fun k => (pidx p k).toNat) (fun j hj => ⟨(hall j hj).1.2, (hall j hj).2.2⟩) (fun k hk => (hall k hk).2.1) (2 ^ p.length) (Nat.le_refl _) k hk
    have h2 := permTo_get (p := p) hr (g := fun k => (pidx (invTo p p.length) k).toNat) (fun j hj => ⟨(hall j hj).1.1, (hall j hj).2.1⟩) (fun k hk => (hall k hk).2.2) (2 ^ p.length) (Nat.le_refl _) (pidx p k).toNat (hall k hk).1.1
    rw [if_pos (hall k hk).1.1] at h1
    rw [(hall k hk).2.1, if_pos hk] at h2
    unfold permR at h1 hr2 ⊢
    rw [hr2, h1, hr]
    exact h2
  · rw [List.getElem?_eq_none (by rw [permR_len, hr2]; omega), List.getElem?_eq_none (by rw [hr]; omega)]
/-- There and back. -/
theorem perm_inv (p : List Int) (M : List (List Dm)) : permM (invP p) (permM p M) = M := by
  cases h : isP p
  · rw [invP_no h, permM_no h]
    exact permM_no (by rfl)
  · rw [invP_yes h]
    have hg := goodP_of h
    unfold goodP at hg
    rw [Bool.and_eq_true] at hg
    cases hf : fitsM p M
    · have e1 : permM p M = M := by unfold permM; rw [hf, h]; rfl
      have e2 : fitsM (invTo p p.length) M = false := by rw [← hf]; unfold fitsM; rw [invTo_len]
      rw [e1]
      unfold permM
      rw [e2, Bool.and_false]
      rfl
    · have e1 : permM p M = M.map (permR p) := by unfold permM; rw [hf, h]; rfl
      have e2 : fitsM (invTo p p.length) (M.map (permR p)) = true := by
        unfold fitsM at hf ⊢
        rw [List.all_eq_true] at hf ⊢
        intro r hr
        obtain ⟨r0, h0, rfl⟩ := List.mem_map.1 hr
        rw [invTo_len, permR_len]
        exact hf r0 h0
      rw [e1]
      unfold permM
      rw [e2, hg.1]
      show (M.map (permR p)).map (permR (invTo p p.length)) = M
      rw [List.map_map]
      refine (List.map_congr_left (g := id) fun r hr => ?_).trans (List.map_id M)
      unfold fitsM at hf
      rw [List.all_eq_true] at hf
      exact perm_back h (of_decide_eq_true (hf r hr))
theorem info_intI : (Try.prog.info? 3).map (fun i => (i.zero, i.size, i.bytes)) = some (some (.int .i64 0), 1, 8) := by kernel_rfl
theorem made_ints (n : Nat) : (madeCells (Value.int .i64 0).cells (n * 1)).toList = (List.replicate n (0 : Int)).map (Value.int .i64) := by
  rw [Nat.mul_one, List.map_replicate]
  apply List.ext_getElem?
  intro j
  by_cases hj : j < n
  · simp [madeCells, hj, Value.cells, Nat.mod_one]
  · rw [List.getElem?_eq_none (by rw [Array.length_toList, size_madeCells]; omega), List.getElem?_eq_none (by simp; omega)]
set_option maxRecDepth 100000 in
set_option maxHeartbeats 4000000 in
theorem InversePermutation_impl (A : Option Addr) (n c : Nat) (p : List Int) (w : World) (h : Rd w 1 A n (p.map (Value.int .i64))) (hl : p.length = n) (hn : n ≤ 1099511627776) :
    Calls Try.prog 9 #[.slice A n c] w (RetRow 3 1 w (invP p).length ((invP p).map (Value.int .i64))) := by
  have HP := Lib.hid (IsPermutation_impl A n c p w h hl hn)
  have H := Lib.hid h
  have HL := Lib.hid hl
  cases hp : isP p
  · have HI := Lib.hid (invP_no hp)
    rw [hp] at HP
    clear h hl hp
    go_enter Try.func9, Try.ntmps9
    go_wp2_with fail
    refine HP.out.mono ?_
    rintro e w1 ⟨rfl, hb1, hs1⟩
    go_wp2_with fail
    go_ret
    exact ⟨_, rfl, by rw [HI.out]; exact World.ownsRow_nil _ _ _ _, hb1, hs1⟩
  · have HI := Lib.hid (invP_yes hp)
    have HLE := Lib.hid (show (invP p).length = n by rw [invP_yes hp, invTo_len, hl])
    have HM := Lib.hid (isP_mem hp)
    rw [hp] at HP
    clear h hl hp
    obtain ⟨i0, hi, hz0, hz1, hz2⟩ := info_parts info_intI
    go_enter Try.func9, Try.ntmps9
    go_wp2_with fail
    refine HP.out.mono ?_
    rintro e w1 ⟨rfl, hb1, hs1⟩
    obtain ⟨w2, hrun, hown, hgr0⟩ := run_make_full (P := Try.prog) w1 w1.heap.size 27 3 i0 _ 1 Try.underlying27 hi hz0 hz1 .i64 .i64 n (by rw [hz2]; omega) (by simp only [maxLen]; omega) (Nat.le_refl _)
    rw [made_ints] at hown
    have b2 : Below w.heap.size w w2 := hb1.trans (((Below.refl w1.heap.size w1).grown hgr0 (Nat.le_refl _) (by simp)).mono hs1)
    have B2 := Lib.hid b2
    have HS1 := Lib.hid hs1
    clear hi hz0 hz1 hz2 hgr0 hb1 b2
    go_wp2_with fail
    clear hrun
    go_loopw [14] (fun i wr => ∃ t : Nat, i = .int .i64 t ∧ t ≤ n ∧ wr.ownsRow w1.heap.size 3 1 (.slice (some ⟨w1.heap.size, 0, none⟩) n n) n ((invTo p t).map (Value.int .i64)) ∧ Below w1.heap.size w2 wr) (fun i _ => n - (intOf i).toNat)
    case atStart => exact ⟨0, rfl, Nat.zero_le _, by rw [invTo, HL.out]; exact hown, Below.refl _ _⟩
    case round =>
      clear hown
      obtain ⟨t, rfl, ht, hown, hb⟩ := hrel
      have hs1 := HS1.out
      by_cases hlt : t < n
      · obtain ⟨x, hx⟩ : ∃ x, p[t]? = some x := ⟨_, List.getElem?_eq_getElem (by rw [HL.out]; exact hlt)⟩
        have hxr := HM.out.2 x (List.mem_of_getElem? hx)
        rw [HL.out] at hxr
        obtain ⟨X, rfl⟩ : ∃ X : Nat, x = X := ⟨x.toNat, by omega⟩
        have hXn : X < n := by omega
        have hbw : Below w.heap.size w wr := B2.out.trans (hb.mono hs1)
        obtain ⟨bb, off, rfl, _, hc⟩ := (H.out.below hbw).2 (by omega)
        have q0 := hc t (.int .i64 X) (by simp [hx])
        have hz := hown.cellAt X (by omega)
        have hf := hown.frozenAt X
        obtain ⟨y, hy⟩ : ∃ y, wr.cell? ⟨w1.heap.size, X, none⟩ = some y := ⟨_, hz.trans (List.getElem?_eq_getElem (by rw [List.length_map, invTo_len, HL.out]; exact hXn))⟩
        have HSET := Lib.hid (show invTo p (t + 1) = (invTo p t).set X t by rw [invTo, List.getD_eq_getElem?_getD, hx]; rfl)
        have HO := Lib.hid hown
        clear hc hz hx hxr hown hbw
        go_wp2_with fail
        go_roundw
        case rel =>
          have s := HO.out.stored X (.int .i64 t)
          refine ⟨t + 1, by go_num, by omega, ?_, hb.grown s.2 (by have := hb.size; have := (HO.out.lt w1.heap.size rfl).2; omega) (by simp)⟩
          rw [HSET.out, List.map_set]
          exact s.1
        case measure => simp [intOf]; omega
      · obtain rfl : t = n := by omega
        go_wp2_with fail
        go_ret
        refine ⟨_, rfl, ?_, B2.out.trans (hb.mono hs1), ?_⟩
        · rw [HI.out, invTo_len, HL.out]
          exact own_fromI hown hs1
        · have := B2.out.size; have := hb.size; omega
end Go.Proofs.Ytgjpicekdbemiac
namespace Go.Proofs.Ytgjpicekdbemiac
open Go.RowKit
set_option linter.unusedVariables false
theorem heap_set_selfP {w : World} {g i : Nat} {t : TypeId} {cs : Array Value} (h : w.heap[g]? = some (.cells cs t (0, 0))) (u : Value) : (w.setCell ⟨g, i, none⟩ u).heap[g]? = some (.cells (cs.setIfInBounds i u) t (0, 0)) := heap_setCell_same _ _ _ _ _ _ h
set_option maxRecDepth 100000 in
set_option maxHeartbeats 16000000 in
theorem PermuteBranch_spec (b : Int) (A : Option Addr) (n c : Nat) (M : List (List Dm)) (Ap : Option Addr) (m cp : Nat) (p : List Int) (w : World) (h : RdM w A n M) (hp : Rd w 1 Ap m (p.map (Value.int .i64))) (hpl : p.length = m) (hcp : m ≤ cp) (hn : n ≤ 68719476736) (hs : szM M ≤ 1099511627776) (hm : m ≤ 1099511627776) :
    Calls Try.prog 7 #[.agg #[.int .i64 b, .slice A n c], .slice Ap m cp] w (RetBr w b n (permM p M)) := by
  obtain ⟨w0, hw0⟩ : ∃ w0, w0 = (w.alloc (.cells #[.int .i64 b, .slice A n c] 26)).alloc (.cells #[.int .i64 0, .slice none 0 0] 26) := ⟨_, rfl⟩
  have X0 := Lib.hid (show w0.heap[w.heap.size]? = some (.cells #[.int .i64 b, .slice A n c] 26 (0, 0)) by rw [hw0]; exact boxed2_0 _ _ _)
  have X1 := Lib.hid (show w0.heap[w.heap.size + 1]? = some (.cells #[.int .i64 0, .slice none 0 0] 26 (0, 0)) by rw [hw0]; exact boxed2_1 _ _ _)
  have b0 : Below w.heap.size w w0 := by rw [hw0]; exact (by repeat (first | exact Below.refl _ _ | assumption | (refine Below.trans ?_ (Below.mono (by assumption) (by first | omega | (simp; done) | (simp; omega)))) | (with_reducible refine Below.drew ?_) | (with_reducible refine Below.alloc ?_ (by first | omega | (simp; done) | (simp; omega)) _) | (with_reducible refine Below.setCell ?_ (by first | omega | (simp; done) | (simp; omega)) _)))
  have s0 : w.heap.size + 2 = w0.heap.size := by rw [hw0]; simp
  have HL := Lib.hid h.len
  have H := Lib.hid h
  have HR0 := Lib.hid (h.below b0)
  have HP := Lib.hid hp
  have HPL := Lib.hid hpl
  have B0 := Lib.hid b0
  have HW := Lib.hid hw0
  have al : ∀ (W : World) (ob : Obj), Below W.heap.size W (W.alloc ob) := fun W ob => (Below.refl _ _).alloc (Nat.le_refl _) _
  have AL := Lib.hid al
  obtain ⟨p0, p1⟩ := boxcells2 (lay := Below.refl _ _) X0.out
  have hl0 : w.heap.size < w0.heap.size := by omega
  have KB : Hid (∀ W : World, Below w0.heap.size w0 W → (W.cell? ⟨w.heap.size, 0, none⟩ = some (.int .i64 b) ∧ W.cell? ⟨w.heap.size, 1, none⟩ = some (.slice A n c))) := fun W hW => ⟨(hW.cell (p := ⟨w.heap.size, 0, none⟩) hl0).trans p0, (hW.cell (p := ⟨w.heap.size, 1, none⟩) hl0).trans p1⟩
  have KB0 := Lib.hid (KB.out w0 (Below.refl _ _))
  have KB1 := Lib.hid (KB.out w0.drew (Below.refl _ _).drew)
  have KBA : Hid (∀ ob : Obj, (w0.drew.alloc ob).cell? ⟨w.heap.size, 0, none⟩ = some (.int .i64 b) ∧ (w0.drew.alloc ob).cell? ⟨w.heap.size, 1, none⟩ = some (.slice A n c)) := fun ob => KB.out _ ((Below.refl _ _).drew.alloc (Nat.le_refl _) _)
  clear h hp hpl b0 hw0 al
  go_enter Try.func7, Try.ntmps7
  go_upto_region 1 with (fail)
  rw [← HW.out]
  go_cut [5] (fun v wc => ∃ (G : Nat) (A2 : Option Addr) (c2 : Nat) (F1 : List Nat), v = .pointer (some ⟨G, 0, none⟩) ∧ wc.heap[G]? = some (.cells #[.int .i64 b, .slice A2 n c2] 26 (0, 0)) ∧ OwnM wc w0.heap.size (.slice A2 n c2) n M F1 ∧ G ∉ F1 ∧ w0.heap.size ≤ G ∧ Below w0.heap.size w0 wc)
  case first =>
    clear p0 p1
    go_wp2_with fail
    go_region_held3 (fun W => W.cell? ⟨w.heap.size, 0, none⟩ = some (.int .i64 b) ∧ W.cell? ⟨w.heap.size, 1, none⟩ = some (.slice A n c)) ((refine KB.out _ ?_; first | exact Below.refl _ _ | exact (Below.refl _ _).drew | exact b1 | exact (Below.refl w0.heap.size w0).drew.alloc (Nat.le_refl _) _ | exact b1.alloc b1.size _ | exact (b1.setCell (Nat.le_refl _) _).setCell (Nat.le_refl _) _)) (first | (go_at_call 19; (with_reducible refine (l7Copy_any A n c M _ (by first | exact HR0.out.drew | exact HR0.out.drew.below (AL.out _ _)) hn hs).mono ?_); rintro e w1 ⟨v, F1, rfl, own1, b1d, s1d⟩; obtain ⟨A2, c2, rfl, _, _, _⟩ := own1.rd; first | (have b1 : Below w0.heap.size w0 w1 := below_undrewP b1d; have KB2 := Lib.hid (KB.out w1 b1)) | (have b1 : Below w0.heap.size w0 w1 := ((Below.refl _ _).drew.alloc (Nat.le_refl _) _).trans (b1d.mono (by simp)); have KB2 := Lib.hid (KB.out w1 b1); obtain ⟨y0, y1⟩ : w1.cell? ⟨w0.heap.size, 0, none⟩ = some (.int .i64 0) ∧ w1.cell? ⟨w0.heap.size, 1, none⟩ = some (.slice none 0 0) := boxcells2 (lay := b1d) (heap_alloc_new w0.drew (.cells #[.int .i64 0, .slice none 0 0] 26)); have y6 : w1.heap[w0.heap.size]? = some (.cells #[.int .i64 0, .slice none 0 0] 26 (0, 0)) := (b1d.block _ (by simp)).trans (heap_alloc_new w0.drew _); have y2 := free_atP (j := 0) y6; have y3 := free_atP (j := 1) y6; have y4 : w0.heap.size < w1.heap.size := lt_of_block y6)))
    all_goals (go_wp2_with (fail); go_meet; first | exact ⟨_, A2, c2, F1, rfl, heap_alloc_new _ _, OwnM.below (show OwnM w1 w0.heap.size _ n M F1 from own1) ((Below.refl _ _).alloc (Nat.le_refl _) _), fun hm => by have := (own1.lt _ hm).2; omega, b1.size, b1.alloc b1.size _⟩ | exact ⟨_, A2, c2, F1, rfl, heap_set_selfP (heap_set_selfP y6 _) _, (own1.base_le (base' := w0.heap.size) (by simp)).kin ((kin_setCell _ w0.heap.size _ _).trans (kin_setCell _ w0.heap.size _ _)) (fun q hq hm => by have := (own1.lt q hq).1; simp at hm this; omega), fun hm => by have := (own1.lt _ hm).1; simp at this; omega, Nat.le_refl _, (b1.setCell (Nat.le_refl _) _).setCell (Nat.le_refl _) _⟩)
  case rest =>
    obtain ⟨G, A2, c2, F1, rfl, hG, own1, hGF, hG0, bA⟩ := hcut
    obtain ⟨wA, rfl⟩ : ∃ wA : World, wA = wc := ⟨_, rfl⟩
    have sA := bA.size
    have HG := Lib.hid hG
    have HO := Lib.hid own1
    have HF1 := Lib.hid own1.lt
    have HGF := Lib.hid hGF
    have HBA := Lib.hid bA
    have HX1 := Lib.hid ((bA.block _ (by omega)).trans X1.out)
    have HX0 := Lib.hid ((bA.block _ (by omega)).trans X0.out)
    have HBW := Lib.hid (B0.out.trans (bA.mono (by omega)))
    have hGl : G < wA.heap.size := lt_of_block hG
    have hX1l : w.heap.size + 1 < wA.heap.size := by omega
    clear hG own1 hGF bA p0 p1
    have HIP := Lib.hid (fun (wi : World) (hb : Below w.heap.size w wi) => IsPermutation_spec Ap m cp p wi (HP.out.below hb) HPL.out hcp hm)
    cases hip : isP p
    · have HS := Lib.hid (permM_no (M := M) hip)
      obtain ⟨y0, y1⟩ := boxcells2 (lay := Below.refl _ _) HX0.out
      rw [hip] at HIP
      clear hip
      go_wp2_with fail
      refine wp_loop_rounds 1 ?_
      rw [rounds_succ]
      by_cases h0 : 0 < n
      · have hd : decide ((0 : Int) < (n : Int)) = true := by simp; omega
        go_wp2_with fail
        refine (HIP.out wA HBW.out).mono ?_
        rintro e wi ⟨rfl, bi, si⟩
        have HBi := Lib.hid (HBW.out.trans (bi.mono (by omega)))
        have HX1i := Lib.hid ((bi.block _ hX1l).trans HX1.out)
        have HX0i := Lib.hid ((bi.block _ (by omega)).trans HX0.out)
        have hX1i : w.heap.size + 1 < wi.heap.size := by omega
        have HRi := Lib.hid (H.out.below HBi.out)
        obtain ⟨z0, z1⟩ := boxcells2 (lay := Below.refl _ _) HX0i.out
        have KI : Hid (∀ W : World, Below (w.heap.size + 1) wi W → (W.cell? ⟨w.heap.size, 0, none⟩ = some (.int .i64 b) ∧ W.cell? ⟨w.heap.size, 1, none⟩ = some (.slice A n c))) := fun W hW => ⟨(hW.cell (p := ⟨w.heap.size, 0, none⟩) (by show w.heap.size < _; omega)).trans z0, (hW.cell (p := ⟨w.heap.size, 1, none⟩) (by show w.heap.size < _; omega)).trans z1⟩
        clear bi y0 y1
        go_wp2_with fail
        go_region_held3 (fun W => W.cell? ⟨w.heap.size, 0, none⟩ = some (.int .i64 b) ∧ W.cell? ⟨w.heap.size, 1, none⟩ = some (.slice A n c)) ((refine KI.out _ ?_; first | exact Below.refl _ _ | exact (Below.refl _ _).drew | exact b5 | exact (b5.setCell (by dsimp only; omega) _).setCell (by dsimp only; omega) _)) (first | (go_at_call 19; (with_reducible refine (l7Copy_any A n c M _ HRi.out.drew hn hs).mono ?_); rintro e w5 ⟨v5, F5, rfl, own5, b5d, s5d⟩; obtain ⟨A5, c5, rfl, _, _, _⟩ := own5.rd; have b5 : Below (w.heap.size + 1) wi w5 := (below_undrewP b5d).mono (by omega); have b5f : Below wi.heap.size wi w5 := below_undrewP b5d; have hX5 := (b5f.block (w.heap.size + 1) hX1i).trans HX1i.out; have q0 := cell_at (j := 0) (u := .int .i64 0) hX5 rfl; have q1 := cell_at (j := 1) (u := .slice none 0 0) hX5 rfl; have f0 := free_atP (j := 0) hX5; have f1 := free_atP (j := 1) hX5; have hl5 : w.heap.size + 1 < w5.heap.size := lt_of_block hX5))
        have HS5 := Lib.hid (below_undrewP b5d)
        have HO5 : Hid (OwnM w5 wi.heap.size (.slice A5 n c5) n M F5) := own5
        clear b5 b5d s5d b5f own5 q0 q1 f0 f1
        obtain ⟨q0, q1⟩ := boxcells2 (lay := Below.refl _ _) hX5
        have f0 := free_atP (j := 0) hX5
        have f1 := free_atP (j := 1) hX5
        go_wp2_with fail
        refine bodyPost_ret (v := .agg #[.int .i64 b, .slice A5 n c5]) (by simp [results, Try.results7, go_sem, q0, q1]) rfl ⟨A5, c5, F5, rfl, ?_, ?_, ?_⟩
        · rw [HS.out]
          exact ((HO5.out.base_le (by have := HBi.out.size; omega)).kin ((kin_setCell _ (w.heap.size + 1) _ _).trans (kin_setCell _ (w.heap.size + 1) _ _)) (fun q hq hm => by have := (HO5.out.lt q hq).1; simp at hm; omega))
        · exact ((HBi.out.trans (HS5.out.mono (by have := HBi.out.size; omega))).setCell (by first | omega | (simp; done) | (simp; omega)) _).setCell (by first | omega | (simp; done) | (simp; omega)) _
        · have h1 := HBi.out.size
          have h2 := HS5.out.size
          simp [World.setCell]; omega
      · obtain rfl : n = 0 := by omega
        have HBi := HBW
        obtain ⟨g0, g1⟩ := boxcells2 (lay := Below.refl _ _) HG.out
        obtain ⟨q0, q1⟩ := boxcells2 (lay := Below.refl _ _) HX1.out
        have f0 := free_atP (j := 0) HX1.out
        have f1 := free_atP (j := 1) HX1.out
        go_wp2_with fail
        refine bodyPost_ret (v := .agg #[.int .i64 b, .slice A2 0 c2]) (by simp [results, Try.results7, go_sem, q0, q1]) rfl ⟨A2, c2, F1, rfl, ?_, ?_, ?_⟩
        · rw [HS.out]
          exact ((HO.out.base_le (by omega)).kin ((kin_setCell _ (w.heap.size + 1) _ _).trans (kin_setCell _ (w.heap.size + 1) _ _)) (fun q hq hm => by have := (HF1.out q hq).1; simp at hm; omega))
        · exact ((HBi.out).setCell (by first | omega | (simp; done) | (simp; omega)) _).setCell (by first | omega | (simp; done) | (simp; omega)) _
        · have := HBi.out.size; simp [World.setCell]; omega
    · have hml := (isP_mem hip).1
      rw [HPL.out] at hml
      have HIS := Lib.hid hip
      have hpw : (2 : Int) ^ m ≤ 16 := pow_le16 hml.2
      have hpp : (0 : Int) < 2 ^ m := Int.pow_pos (by decide)
      have hw1 : wrap64 (2 ^ m) = 2 ^ m := IntWalk.wrap64_in _ (by omega)
      obtain ⟨N, hN⟩ : ∃ N : Nat, N = 2 ^ m := ⟨_, rfl⟩
      have hNi : (2 : Int) ^ m = (N : Int) := by rw [hN]; exact_mod_cast rfl
      have HWN : Hid (wrap64 (2 ^ m) = (N : Int)) := by rw [hw1, hNi]; exact rfl
      have HNM := Lib.hid hN
      rw [hip] at HIP
      obtain ⟨MS, hMS⟩ : ∃ MS, MS = M.map (permR p) := ⟨_, rfl⟩
      have HMS := Lib.hid hMS
      have HML := Lib.hid (show MS.length = M.length by rw [hMS, List.length_map])
      obtain ⟨SS, hM1, hM2, hF, hNd, hrows⟩ := HO.out
      have HF := Lib.hid hF
      have HND := Lib.hid (hF ▸ hNd)
      have HNDF := Lib.hid hNd
      have HM2 := Lib.hid hM2
      have HROW := Lib.hid hrows
      clear hip hw1 hNi hN hpw hpp hMS hM1 hM2 hF hNd hrows
      go_wp2_with fail
      go_loopw [6] (fun i wi => ∃ k : Nat, k ≤ n ∧ i = .int .i64 k ∧ Hid (wi.ownsRow w0.heap.size 38 1 (.slice A2 n c2) n SS) ∧ Hid (∀ (j : Nat) (r : List Dm), (MS.take k ++ M.drop k)[j]? = some r → ∃ u, SS[j]? = some u ∧ wi.ownsRow w0.heap.size 47 5 u r.length (r.flatMap dcells)) ∧ Hid (Kin F1 wA wi) ∧ Hid (∀ (j : Nat) (r : List Dm), j < k → M[j]? = some r → r.length = N)) (fun i _ => n - (intOf i).toNat)
      case atStart => exact ⟨0, Nat.zero_le _, rfl, HM2.out, Lib.hid (by simpa using HROW.out), Kin.refl _ _, fun j r hj => by omega⟩
      case round =>
        obtain ⟨k, hk, rfl, ho, hrow, hkin, hfit⟩ := hrel
        obtain ⟨wh, rfl⟩ : ∃ wh : World, wh = wr := ⟨_, rfl⟩
        have hks := hkin.out.size
        have HGh := Lib.hid ((hkin.out.block G hGl HGF.out).trans HG.out)
        have HBh := Lib.hid (HBW.out.trans (hkin.out.below (by omega) (fun q hq => by have := (HF1.out q hq).1; omega)))
        have HX1h := Lib.hid ((hkin.out.block (w.heap.size + 1) hX1l (fun hm => by have := (HF1.out _ hm).1; omega)).trans HX1.out)
        have HX0h := Lib.hid ((hkin.out.block w.heap.size (by omega) (fun hm => by have := (HF1.out _ hm).1; omega)).trans HX0.out)
        by_cases hlk : k < n
        · have hkl : k < M.length := by rw [HL.out]; exact hlk
          obtain ⟨r, hr⟩ : ∃ r, M[k]? = some r := ⟨_, List.getElem?_eq_getElem hkl⟩
          obtain ⟨y0, y1⟩ := boxcells2 (lay := Below.refl _ _) HX0h.out
          have hdk : decide ((k : Int) < (n : Int)) = true := by simp; omega
          have hwh : w.heap.size < wh.heap.size := by omega
          have HR := Lib.hid hr
          clear hr
          go_wp2_with fail
          refine (HIP.out wh HBh.out).mono ?_
          rintro e wi ⟨rfl, bi, si⟩
          have HBi := Lib.hid (HBh.out.trans (bi.mono (by have := HBh.out.size; omega)))
          have HX1i := Lib.hid ((bi.block _ (by omega)).trans HX1h.out)
          have HX0i := Lib.hid ((bi.block _ (by omega)).trans HX0h.out)
          have HGi := Lib.hid ((bi.block G (by omega)).trans HGh.out)
          have hX1i : w.heap.size + 1 < wi.heap.size := by omega
          have hGli : G < wi.heap.size := by omega
          have HRi := Lib.hid (H.out.below HBi.out)
          have HOi := Lib.hid (ownsRow_below ho.out bi)
          have HKi := Lib.hid (hkin.out.trans (kin_of_below F1 bi))
          have HROWi : Hid (∀ (j : Nat) (r : List Dm), (MS.take k ++ M.drop k)[j]? = some r → ∃ u, SS[j]? = some u ∧ wi.ownsRow w0.heap.size 47 5 u r.length (r.flatMap dcells)) := fun j r hj => by
            obtain ⟨u, h1, h2⟩ := hrow.out j r hj
            exact ⟨u, h1, ownsRow_below h2 bi⟩
          clear y0 y1 bi ho hrow hkin
          obtain ⟨z0, z1⟩ := boxcells2 (lay := Below.refl _ _) HX0i.out
          obtain ⟨b3, off3, a3, c3, rfl, hbl3, z2, hc1, hc2, hrd⟩ := H.out.at HR.out
          have z3 := (HBi.out.cell (p := ⟨b3, off3 + k, none⟩) hbl3).trans z2
          have hb3i : b3 < wi.heap.size := by have := HBi.out.size; omega
          have hrsz := szM_row HR.out
          have HRD := Lib.hid hrd
          clear z2 hrd
          by_cases hrl : r.length = N
          · have hne : ((r.length : Int) != wrap64 (2 ^ m)) = false := by rw [HWN.out, hrl]; simp
            have HFIT2 : Hid (∀ (j : Nat) (r : List Dm), j < k + 1 → M[j]? = some r → r.length = N) := by
              intro j r' hj hr'
              rcases Nat.lt_succ_iff_lt_or_eq.1 hj with h | rfl
              · exact hfit.out j r' h hr'
              · rw [HR.out] at hr'
                injection hr' with hr'
                rw [← hr']
                exact hrl
            have HRN := Lib.hid hrl
            obtain ⟨u, hu, hou⟩ := HROWi.out k r ((mix_at HML.out hkl).trans HR.out)
            obtain ⟨a, c', rfl, _, _, _⟩ := rd_of_own hou
            obtain ⟨gA, rfl⟩ := own_some HOi.out (by omega)
            have HSet := Lib.hid (show (MS.take k ++ M.drop k).set k (permR p r) = MS.take (k + 1) ++ M.drop (k + 1) from mix_set HML.out (by rw [HMS.out, List.getElem?_map, HR.out]; rfl))
            have HU := Lib.hid hu
            have HOU := Lib.hid hou
            have HAP := Lib.hid (own_types HOi.out hou (by decide))
            clear hrl hu hou hkl
            go_wp2_with fail
            go_loopw [7] (fun i wj => ∃ j : Nat, j ≤ r.length ∧ i = .int .i64 j ∧ Hid (wj.ownsRow w0.heap.size 47 5 (.slice a r.length c') r.length ((permTo p r j).flatMap dcells)) ∧ Hid (wi.grownBy wj (Value.slice a r.length c').ownBlock)) (fun i _ => r.length - (intOf i).toNat)
            case atStart => exact ⟨0, Nat.zero_le _, rfl, HOU.out, World.grownBy.refl _ _⟩
            case round =>
              obtain ⟨j, hj, rfl, hoj, hgj⟩ := hrel
              obtain ⟨wj, rfl⟩ : ∃ wj : World, wj = wr := ⟨_, rfl⟩
              have hgs := hgj.out.size
              have HGE : Hid (∀ q, (Value.slice a r.length c').ownBlock = some q → w0.heap.size ≤ q) := fun q hq => (HOU.out.lt q hq).1
              have HGG : Hid (∀ q, (Value.slice a r.length c').ownBlock = some q → q ≠ G) := fun q hq e => HGF.out (by rw [HF.out, ← e]; exact List.mem_append.2 (.inr (List.mem_flatMap.2 ⟨_, List.mem_of_getElem? HU.out, by rw [hq]; simp⟩)))
              have HBj := Lib.hid (HBi.out.trans (grown_below hgj.out (by omega) (fun q hq => by have := HGE.out q hq; omega)))
              have HX0j := Lib.hid ((hgj.out.block w.heap.size (by omega) (fun e => by have := HGE.out _ e.symm; omega)).trans HX0i.out)
              have hwj : w.heap.size < wj.heap.size := by omega
              have hb3j : b3 < wj.heap.size := by omega
              have w1' := cell_at (j := 1) (u := .slice (some ⟨b3, off3, none⟩) n c) HX0j.out rfl
              have w3' : wj.cell? ⟨b3, off3 + k, none⟩ = some (.slice a3 r.length c3) := (hgj.out.block b3 hb3i (fun e => by have := HGE.out _ e.symm; omega) |> World.cell?_of_block (a := ⟨b3, off3 + k, none⟩)).trans z3
              by_cases hlj : j < r.length
              · obtain ⟨x, hx⟩ : ∃ x, r[j]? = some x := ⟨_, List.getElem?_eq_getElem hlj⟩
                obtain ⟨g, rfl⟩ := own_some hoj.out (by omega)
                have hgw : w0.heap.size ≤ g := HGE.out g rfl
                have hgG : g ≠ G := HGG.out g rfl
                have hgj2 : g < wj.heap.size := (hoj.out.lt g rfl).2
                obtain ⟨b4, off4, rfl, hb4, hc4⟩ := HRD.out.2 (by omega)
                have hlc : ∀ o u, w.cell? ⟨b4, o, none⟩ = some u → wj.cell? ⟨b4, o, none⟩ = some u := fun o u h => (HBj.out.cell (p := ⟨b4, o, none⟩) hb4).trans h
                have x0 := hlc _ _ (hc4 (j * 5 + 0) _ (flat_at dcells_len r j x 0 hx (by decide)))
                have x1 := hlc _ _ (hc4 (j * 5 + 1) _ (flat_at dcells_len r j x 1 hx (by decide)))
                have x2 := hlc _ _ (hc4 (j * 5 + 2) _ (flat_at dcells_len r j x 2 hx (by decide)))
                have x3 := hlc _ _ (hc4 (j * 5 + 3) _ (flat_at dcells_len r j x 3 hx (by decide)))
                have x4 := hlc _ _ (hc4 (j * 5 + 4) _ (flat_at dcells_len r j x 4 hx (by decide)))
                rw [← Nat.add_assoc] at x1 x2 x3 x4
                rw [Nat.add_zero] at x0
                have hpi := pidx_lt HIS.out (j : Int)
                obtain ⟨idx, hidx⟩ : ∃ idx : Nat, pidx p (j : Int) = idx := ⟨(pidx p (j : Int)).toNat, by omega⟩
                have hil : idx < r.length := by
                  have h2 := hpi.2
                  rw [hidx, HPL.out] at h2
                  have h3 : idx < 2 ^ m := by exact_mod_cast h2
                  rw [← HNM.out] at h3
                  have h4 := HRN.out
                  omega
                have HSTEP : Hid (permTo p r (j + 1) = (permTo p r j).set idx x) := by rw [permTo_at hx, hidx, Int.toNat_natCast]; exact rfl
                obtain ⟨y, hy⟩ : ∃ y, (permTo p r j)[idx]? = some y := ⟨_, List.getElem?_eq_getElem (by rw [permTo_len]; exact hil)⟩
                have HY := Lib.hid hy
                have HIDX := Lib.hid hidx
                have HGj := Lib.hid ((hgj.out.block G hGli (fun e => hgG (by have h9 : G = g := (by simpa [Value.ownBlock] using e); exact h9.symm))).trans HGi.out)
                have HOA := Lib.hid (HOi.out.kept hgj.out HAP.out)
                have u1 := cell_at (j := 1) (u := .slice (some ⟨gA, 0, none⟩) n c2) HGj.out rfl
                have hgA := (HOA.out.lt gA rfl).2
                have u2 : wj.cell? ⟨gA, k, none⟩ = some (.slice (some ⟨g, 0, none⟩) r.length c') := (HOA.out.cellAt k (by omega)).trans HU.out
                have hGlj : G < wj.heap.size := by omega
                have hb4j : b4 < wj.heap.size := by have := HBj.out.size; omega
                have KS : Hid (∀ W : World, W.heap[G]? = wj.heap[G]? → W.heap[gA]? = wj.heap[gA]? → (∀ q, q ≤ w.heap.size → W.heap[q]? = wj.heap[q]?) → (W.cell? ⟨G, 1, none⟩ = some (.slice (some ⟨gA, 0, none⟩) n c2) ∧ W.cell? ⟨gA, k, none⟩ = some (.slice (some ⟨g, 0, none⟩) r.length c') ∧ W.cell? ⟨w.heap.size, 1, none⟩ = some (.slice (some ⟨b3, off3, none⟩) n c) ∧ W.cell? ⟨b3, off3 + k, none⟩ = some (.slice (some ⟨b4, off4, none⟩) r.length c3) ∧ W.cell? ⟨b4, off4 + j * 5, none⟩ = some (.int .i64 x.a) ∧ W.cell? ⟨b4, off4 + j * 5 + 1, none⟩ = some (.int .i64 x.b) ∧ W.cell? ⟨b4, off4 + j * 5 + 2, none⟩ = some (.int .i64 x.c) ∧ W.cell? ⟨b4, off4 + j * 5 + 3, none⟩ = some (.int .i64 x.d) ∧ W.cell? ⟨b4, off4 + j * 5 + 4, none⟩ = some (.int .i64 x.e))) := fun W e1 e2 e3 =>
                  ⟨(World.cell?_of_block (a := ⟨G, 1, none⟩) e1).trans u1, (World.cell?_of_block (a := ⟨gA, k, none⟩) e2).trans u2, (World.cell?_of_block (a := ⟨w.heap.size, 1, none⟩) (e3 _ (Nat.le_refl _))).trans w1', (World.cell?_of_block (a := ⟨b3, off3 + k, none⟩) (e3 _ (by show b3 ≤ _; omega))).trans w3', (World.cell?_of_block (a := ⟨b4, off4 + j * 5, none⟩) (e3 _ (by show b4 ≤ _; omega))).trans x0, (World.cell?_of_block (a := ⟨b4, off4 + j * 5 + 1, none⟩) (e3 _ (by show b4 ≤ _; omega))).trans x1, (World.cell?_of_block (a := ⟨b4, off4 + j * 5 + 2, none⟩) (e3 _ (by show b4 ≤ _; omega))).trans x2, (World.cell?_of_block (a := ⟨b4, off4 + j * 5 + 3, none⟩) (e3 _ (by show b4 ≤ _; omega))).trans x3, (World.cell?_of_block (a := ⟨b4, off4 + j * 5 + 4, none⟩) (e3 _ (by show b4 ≤ _; omega))).trans x4⟩
                have hgg : gA ≠ g := by have h9 := HAP.out; simpa [Value.ownBlock] using h9
                have NG1 : Hid ((some G : Option Nat) ≠ some g) := fun e => by injection e with e; exact hgG e.symm
                have NG2 : Hid ((some gA : Option Nat) ≠ some g) := fun e => by injection e with e; exact hgg e
                have NG3 : Hid (∀ q, q ≤ w.heap.size → (some q : Option Nat) ≠ some g) := fun q hq e => by injection e with e; omega
                have KS0 := Lib.hid (KS.out wj rfl rfl (fun _ _ => rfl))
                have KS1 := Lib.hid (KS.out wj.drew rfl rfl (fun _ _ => rfl))
                have HPB := Lib.hid (HP.out.below HBj.out)
                clear hx hidx hy hpi hc4 hgg hgG hlc
                go_wp2_with fail
                clear x0 x1 x2 x3 x4 u1 u2 w1' w3'
                go_region_held3 (fun W => W.cell? ⟨G, 1, none⟩ = some (.slice (some ⟨gA, 0, none⟩) n c2) ∧ W.cell? ⟨gA, k, none⟩ = some (.slice (some ⟨g, 0, none⟩) r.length c') ∧ W.cell? ⟨w.heap.size, 1, none⟩ = some (.slice (some ⟨b3, off3, none⟩) n c) ∧ W.cell? ⟨b3, off3 + k, none⟩ = some (.slice (some ⟨b4, off4, none⟩) r.length c3) ∧ W.cell? ⟨b4, off4 + j * 5, none⟩ = some (.int .i64 x.a) ∧ W.cell? ⟨b4, off4 + j * 5 + 1, none⟩ = some (.int .i64 x.b) ∧ W.cell? ⟨b4, off4 + j * 5 + 2, none⟩ = some (.int .i64 x.c) ∧ W.cell? ⟨b4, off4 + j * 5 + 3, none⟩ = some (.int .i64 x.d) ∧ W.cell? ⟨b4, off4 + j * 5 + 4, none⟩ = some (.int .i64 x.e)) ((first | (with_reducible exact KS0.out) | (with_reducible exact KS1.out) | (with_reducible exact KS2.out) | (with_reducible exact KS3.out))) (first | (go_at_call 21; (with_reducible refine (PermuteIndex_spec Ap m cp p (j : Int) _ HPB.out.drew HPL.out hcp hm).mono ?_); rintro e w5 ⟨rfl, b5d, s5d⟩; rw [HIDX.out]; have b5 : Below wj.heap.size wj w5 := below_undrewP b5d; have own5 := ownsRow_below hoj.out b5; obtain ⟨⟨t0, t1, t2, t3, t4⟩, g0, g1, g2, g3, g4⟩ := dcell5 own5 HY.out; have hl5 : g < w5.heap.size := (own5.lt g rfl).2; have sz5 := b5.size; have gs5 : w5.grownBy (((((w5.setCell ⟨g, idx * 5, none⟩ (.int .i64 x.a)).setCell ⟨g, idx * 5 + 1, none⟩ (.int .i64 x.b)).setCell ⟨g, idx * 5 + 2, none⟩ (.int .i64 x.c)).setCell ⟨g, idx * 5 + 3, none⟩ (.int .i64 x.d)).setCell ⟨g, idx * 5 + 4, none⟩ (.int .i64 x.e)) (some g) := (store5 (i := idx) x own5).2; have KS2 := Lib.hid (KS.out w5 (b5.block _ hGlj) (b5.block _ hgA) (fun q hq => b5.block q (by omega))); have KS3 := Lib.hid (KS.out (((((w5.setCell ⟨g, idx * 5, none⟩ (.int .i64 x.a)).setCell ⟨g, idx * 5 + 1, none⟩ (.int .i64 x.b)).setCell ⟨g, idx * 5 + 2, none⟩ (.int .i64 x.c)).setCell ⟨g, idx * 5 + 3, none⟩ (.int .i64 x.d)).setCell ⟨g, idx * 5 + 4, none⟩ (.int .i64 x.e)) ((gs5.block _ (by omega) NG1.out).trans (b5.block _ hGlj)) ((gs5.block _ (by omega) NG2.out).trans (b5.block _ hgA)) (fun q hq => (gs5.block q (by omega) (NG3.out q hq)).trans (b5.block q (by omega))))))
                have HS5 := Lib.hid (store5 (i := idx) x own5)
                have HB5 := Lib.hid b5
                clear t0 t1 t2 t3 t4 g0 g1 g2 g3 g4 own5 b5 b5d s5d gs5
                go_wp2_with fail
                go_roundw
                case rel => exact ⟨j + 1, by omega, by go_num, by rw [HSTEP.out]; exact HS5.out.1, (hgj.out.trans (grown_of_below HB5.out)).trans HS5.out.2⟩
                case measure => simp [intOf]; omega
              · obtain rfl : j = r.length := by omega
                have HOJ : Hid (wj.ownsRow w0.heap.size 47 5 (.slice a r.length c') r.length ((permR p r).flatMap dcells)) := hoj.out
                go_wp2_with fail
                go_roundw
                case rel =>
                  have hnew : wj.ownsRow w0.heap.size 47 5 (.slice a r.length c') (permR p r).length ((permR p r).flatMap dcells) := by rw [permR_len]; exact HOJ.out
                  have h5 := ownM_set (M := MS.take k ++ M.drop k) (t := k) (r := r) (r' := permR p r) (by rw [List.length_append, List.length_take, List.length_drop, HML.out, HL.out]; omega) HOi.out HND.out HROWi.out HU.out hlk hnew hgj.out
                  rw [HSet.out] at h5
                  exact ⟨k + 1, by omega, by go_num, h5.1, h5.2, HKi.out.trans ((kin_of_grown hgj.out).mono (fun y hy => by rw [HF.out]; exact List.mem_append.2 (.inr (List.mem_flatMap.2 ⟨_, List.mem_of_getElem? HU.out, hy⟩)))), HFIT2⟩
                case measure => simp [intOf]; omega
          · have hne : ((r.length : Int) != wrap64 (2 ^ m)) = true := by rw [HWN.out, bne_iff_ne]; exact fun e => hrl (by exact_mod_cast e)
            have HS := Lib.hid (permM_bad (p := p) HR.out (by rw [HPL.out, ← HNM.out]; exact hrl))
            have KI : Hid (∀ W : World, Below (w.heap.size + 1) wi W → (W.cell? ⟨w.heap.size, 0, none⟩ = some (.int .i64 b) ∧ W.cell? ⟨w.heap.size, 1, none⟩ = some (.slice (some ⟨b3, off3, none⟩) n c))) := fun W hW => ⟨(hW.cell (p := ⟨w.heap.size, 0, none⟩) (by show w.heap.size < _; omega)).trans z0, (hW.cell (p := ⟨w.heap.size, 1, none⟩) (by show w.heap.size < _; omega)).trans z1⟩
            clear hrl
            go_wp2_with fail
            go_region_held3 (fun W => W.cell? ⟨w.heap.size, 0, none⟩ = some (.int .i64 b) ∧ W.cell? ⟨w.heap.size, 1, none⟩ = some (.slice (some ⟨b3, off3, none⟩) n c)) ((refine KI.out _ ?_; first | exact Below.refl _ _ | exact (Below.refl _ _).drew | exact b5 | exact (b5.setCell (by dsimp only; omega) _).setCell (by dsimp only; omega) _)) (first | (go_at_call 19; (with_reducible refine (l7Copy_any (some ⟨b3, off3, none⟩) n c M _ HRi.out.drew hn hs).mono ?_); rintro e w5 ⟨v5, F5, rfl, own5, b5d, s5d⟩; obtain ⟨A5, c5, rfl, _, _, _⟩ := own5.rd; have b5 : Below (w.heap.size + 1) wi w5 := (below_undrewP b5d).mono (by omega); have b5f : Below wi.heap.size wi w5 := below_undrewP b5d; have hX5 := (b5f.block (w.heap.size + 1) hX1i).trans HX1i.out; have q0 := cell_at (j := 0) (u := .int .i64 0) hX5 rfl; have q1 := cell_at (j := 1) (u := .slice none 0 0) hX5 rfl; have f0 := free_atP (j := 0) hX5; have f1 := free_atP (j := 1) hX5; have hl5 : w.heap.size + 1 < w5.heap.size := lt_of_block hX5))
            have HS5 := Lib.hid (below_undrewP b5d)
            have HO5 : Hid (OwnM w5 wi.heap.size (.slice A5 n c5) n M F5) := own5
            clear b5 b5d s5d b5f own5 q0 q1 f0 f1
            obtain ⟨q0, q1⟩ := boxcells2 (lay := Below.refl _ _) hX5
            have f0 := free_atP (j := 0) hX5
            have f1 := free_atP (j := 1) hX5
            go_wp2_with fail
            refine bodyPost_ret (v := .agg #[.int .i64 b, .slice A5 n c5]) (by simp [results, Try.results7, go_sem, q0, q1]) rfl ⟨A5, c5, F5, rfl, ?_, ?_, ?_⟩
            · rw [HS.out]
              exact ((HO5.out.base_le (by have := HBi.out.size; omega)).kin ((kin_setCell _ (w.heap.size + 1) _ _).trans (kin_setCell _ (w.heap.size + 1) _ _)) (fun q hq hm => by have := (HO5.out.lt q hq).1; simp at hm; omega))
            · exact ((HBi.out.trans (HS5.out.mono (by have := HBi.out.size; omega))).setCell (by first | omega | (simp; done) | (simp; omega)) _).setCell (by first | omega | (simp; done) | (simp; omega)) _
            · have h1 := HBi.out.size
              have h2 := HS5.out.size
              simp [World.setCell]; omega
        · obtain rfl : k = n := by omega
          have HFIT : Hid (∀ (j : Nat) (r : List Dm), M[j]? = some r → r.length = N) := by
            intro j r hr
            exact hfit.out j r (by rw [← HL.out]; exact (List.getElem?_eq_some_iff.1 hr).1) hr
          have HS : Hid (permM p M = MS) := by rw [HMS.out]; exact permM_yes HIS.out (fun j r hr => by rw [HPL.out, ← HNM.out]; exact HFIT.out j r hr)
          have HOM : Hid (OwnM wh w0.heap.size (.slice A2 k c2) k MS F1) := by
            have h := hrow.out
            rw [List.take_of_length_le (by rw [HML.out, HL.out]; exact Nat.le_refl _), List.drop_of_length_le (by rw [HL.out]; exact Nat.le_refl _), List.append_nil] at h
            exact ⟨SS, by rw [HML.out, HL.out], ho.out, HF.out, HNDF.out, h⟩
          have HBi := HBh
          obtain ⟨y0, y1⟩ := boxcells2 (lay := Below.refl _ _) HX0h.out
          obtain ⟨g0, g1⟩ := boxcells2 (lay := Below.refl _ _) HGh.out
          obtain ⟨q0, q1⟩ := boxcells2 (lay := Below.refl _ _) HX1h.out
          have f0 := free_atP (j := 0) HX1h.out
          have f1 := free_atP (j := 1) HX1h.out
          have hXl1 : w.heap.size + 1 < wh.heap.size := by omega
          have hGl1 : G < wh.heap.size := by omega
          clear ho hrow hkin hfit
          go_wp2_with fail
          refine bodyPost_ret (v := .agg #[.int .i64 b, .slice A2 k c2]) (by simp [results, Try.results7, go_sem, q0, q1]) rfl ⟨A2, c2, F1, rfl, ?_, ?_, ?_⟩
          · rw [HS.out]
            exact ((HOM.out.base_le (by omega)).kin ((kin_setCell _ (w.heap.size + 1) _ _).trans (kin_setCell _ (w.heap.size + 1) _ _)) (fun q hq hm => by have := (HF1.out q hq).1; simp at hm; omega))
          · exact ((HBi.out).setCell (by first | omega | (simp; done) | (simp; omega)) _).setCell (by first | omega | (simp; done) | (simp; omega)) _
          · have := HBi.out.size; simp [World.setCell]; omega
end Go.Proofs.Ytgjpicekdbemiac
namespace Go.Proofs.Ytgjpicekdbemiac
open Go.RowKit
set_option linter.unusedVariables false
theorem eqB_refl (M : List (List Dm)) : eqBy (eqBy eqD) M M = true := eqBy_refl (fun l _ => eqBy_refl (fun x _ => eqD_refl x))
end Go.Proofs.Ytgjpicekdbemiac
namespace Go.Proofs.Ytgjpicekdbemiac
open Go.ChangeShapes Go.WideShapes Go.RowKit Go.Deep
theorem cells_byte : Try.prog.cellsOf 5 = 1 := by kernel_rfl
theorem trod_byte {H : Type} {enc : TypeId × Value → H} {w : World} {base : Nat} {spare : Nat → Bool} {held : Bool} (n : Nat) (cs : List Value) (y : DataW H × List MemPlace) (h : DataW.trod enc Try.prog w base spare held n 5 cs = some y) : ∃ g : Fin 256, cs = bcell g := by
  obtain ⟨a, e, h1, h2⟩ := DataW.trod_int Try.underlying5 h
  simp [Lit.wf, IntKind.min, IntKind.max, IntKind.signed, IntKind.bits] at h2
  exact ⟨⟨a.toNat, by omega⟩, by rw [e]; simp [bcell]; omega⟩
end Go.Proofs.Ytgjpicekdbemiac
