/- Permuting a branch, by the program. -/
import Derived.Test.YtgmaokpebaebkaaPermX
import Derived.Test.YtgmaokpebaebkaaCopyS
namespace Go.Proofs.Ytgmaokpebaebkaa
open Go.RowKit
set_option linter.unusedVariables false
/-- The state r, with its first j amplitudes moved. -/
def permTo (p : List Int) (r : List Dm) : Nat → List Dm
  | 0 => r
  | j + 1 => (permTo p r j).set (pidx p j).toNat (r.getD j dz)
def permR (p : List Int) (r : List Dm) : List Dm := permTo p r r.length
theorem permTo_len (p : List Int) (r : List Dm) : ∀ j, (permTo p r j).length = r.length
  | 0 => rfl
  | j + 1 => by rw [permTo, List.length_set, permTo_len p r j]
theorem permR_len (p : List Int) (r : List Dm) : (permR p r).length = r.length := permTo_len p r _
theorem permTo_at {p : List Int} {r : List Dm} {j : Nat} {x : Dm} (h : r[j]? = some x) : permTo p r (j + 1) = (permTo p r j).set (pidx p j).toNat x := by
  rw [permTo, List.getD_eq_getElem?_getD, h]
  rfl
def fitsM (p : List Int) (M : List (List Dm)) : Bool := M.all fun r => decide (r.length = 2 ^ p.length)
def permM (p : List Int) (M : List (List Dm)) : List (List Dm) := if (isP p && fitsM p M) = true then M.map (permR p) else M
theorem permM_no {p : List Int} {M : List (List Dm)} (h : isP p = false) : permM p M = M := by rw [permM, h]; rfl
theorem permM_bad {p : List Int} {M : List (List Dm)} {t : Nat} {r : List Dm} (hr : M[t]? = some r) (hne : r.length ≠ 2 ^ p.length) : permM p M = M := by
  have h : fitsM p M = false := by
    unfold fitsM
    rw [List.all_eq_false]
    exact ⟨r, List.mem_of_getElem? hr, by simp [hne]⟩
  rw [permM, h]
  simp
theorem permM_yes {p : List Int} {M : List (List Dm)} (h : isP p = true) (hf : ∀ (t : Nat) (r : List Dm), M[t]? = some r → r.length = 2 ^ p.length) : permM p M = M.map (permR p) := by
  have h2 : fitsM p M = true := by
    unfold fitsM
    rw [List.all_eq_true]
    intro r hr
    obtain ⟨t, ht⟩ := List.mem_iff_getElem?.1 hr
    simp [hf t r ht]
  rw [permM, h, h2]
  rfl
theorem permM_len (p : List Int) (M : List (List Dm)) : (permM p M).length = M.length := by
  unfold permM
  split
  · simp
  · rfl
theorem szM_perm (p : List Int) (M : List (List Dm)) : szM (permM p M) = szM M := by
  unfold permM
  split
  · unfold szM
    rw [List.map_map]
    congr 1
    exact List.map_congr_left fun r _ => permR_len p r
  · rfl
theorem free_atP {w : World} {b j : Nat} {cs : Array Value} {t : TypeId} (h : w.heap[b]? = some (.cells cs t (0, 0))) : w.frozen? ⟨b, j, none⟩ = false := by simp [World.frozen?, h]
theorem below_undrewP {w w' : World} (h : Below w.drew.heap.size w.drew w') : Below w.heap.size w w' := ⟨h.os, h.tape, h.output, h.size, h.block⟩
theorem own_types {w : World} {B B' e e' z z' n n' : Nat} {v v' : Value} {xs xs' : List Value} (h : w.ownsRow B e z v n xs) (h' : w.ownsRow B' e' z' v' n' xs') (hne : e ≠ e') : v.ownBlock = none ∨ v.ownBlock ≠ v'.ownBlock := by
  rcases h.2 with ⟨rfl, _⟩ | ⟨g, cap, cur, rfl, _, hh, _⟩
  · exact .inl rfl
  · right
    rcases h'.2 with ⟨rfl, _⟩ | ⟨g', cap', cur', rfl, _, hh', _⟩
    · simp [Value.ownBlock]
    · intro e1
      have e2 : g = g' := by simpa [Value.ownBlock] using e1
      subst e2
      rw [hh] at hh'
      injection hh' with hh'
      injection hh' with _ ht
      exact hne ht
theorem grown_of_below {w w' : World} {row : Option Nat} (h : Below w.heap.size w w') : w.grownBy w' row := ⟨h.os, h.tape, h.output, h.size, fun i hi _ => h.block i hi⟩
set_option maxRecDepth 100000 in
set_option maxHeartbeats 16000000 in
theorem PermuteBranch_impl (b : Int) (A : Option Addr) (n c : Nat) (M : List (List Dm)) (Ap : Option Addr) (m cp : Nat) (p : List Int) (w : World) (h : RdM w A n M) (hp : Rd w 1 Ap m (p.map (Value.int .i64))) (hpl : p.length = m) (hn : n ≤ 68719476736) (hs : szM M ≤ 1099511627776) (hm : m ≤ 1099511627776) :
    Calls Try.prog 15 #[.agg #[.int .i64 b, .slice A n c], .slice Ap m cp] w (RetBr w b n (permM p M)) := by
  obtain ⟨w0, hw0⟩ : ∃ w0, w0 = (w.alloc (.cells #[.int .i64 b, .slice A n c] 37)).alloc (.cells #[.int .i64 0, .slice none 0 0] 37) := ⟨_, rfl⟩
  have X0 := Lib.hid (show w0.heap[w.heap.size]? = some (.cells #[.int .i64 b, .slice A n c] 37 (0, 0)) by rw [hw0]; exact boxed2_0 _ _ _)
  have X1 := Lib.hid (show w0.heap[w.heap.size + 1]? = some (.cells #[.int .i64 0, .slice none 0 0] 37 (0, 0)) by rw [hw0]; exact boxed2_1 _ _ _)
  have b0 : Below w.heap.size w w0 := by rw [hw0]; exact (by repeat (first | exact Below.refl _ _ | assumption | (refine Below.trans ?_ (Below.mono (by assumption) (by first | omega | (simp; done) | (simp; omega)))) | (with_reducible refine Below.drew ?_) | (with_reducible refine Below.alloc ?_ (by first | omega | (simp; done) | (simp; omega)) _) | (with_reducible refine Below.setCell ?_ (by first | omega | (simp; done) | (simp; omega)) _)))
  have s0 : w.heap.size + 2 = w0.heap.size := by rw [hw0]; simp
  have HL := Lib.hid h.len
  have H := Lib.hid h
  have HP := Lib.hid hp
  have HPL := Lib.hid hpl
  have B0 := Lib.hid b0
  have HW := Lib.hid hw0
  obtain ⟨p0, p1⟩ := boxcells2 (lay := Below.refl _ _) X0.out
  clear h hp hpl b0 hw0
  go_enter Try.func15, Try.ntmps15
  go_upto_region 1 with (fail)
  rw [← HW.out]
  go_wp2_with fail
  refine (copyBranch_any b A n c M w0 (H.out.below B0.out) hn hs).mono ?_
  rintro e w1 ⟨A2, c2, F1, rfl, own1, hb1, hs1⟩
  obtain ⟨wx, hwx⟩ : ∃ wx, wx = w1.alloc (.cells #[.int .i64 b, .slice A2 n c2] 37) := ⟨_, rfl⟩
  have hx : wx.heap[w1.heap.size]? = some (.cells #[.int .i64 b, .slice A2 n c2] 37 (0, 0)) := by rw [hwx]; exact boxed1_0 _ _
  have bx : Below w1.heap.size w1 wx := by rw [hwx]; exact (by repeat (first | exact Below.refl _ _ | assumption | (refine Below.trans ?_ (Below.mono (by assumption) (by first | omega | (simp; done) | (simp; omega)))) | (with_reducible refine Below.drew ?_) | (with_reducible refine Below.alloc ?_ (by first | omega | (simp; done) | (simp; omega)) _) | (with_reducible refine Below.setCell ?_ (by first | omega | (simp; done) | (simp; omega)) _)))
  have sx : w1.heap.size + 1 = wx.heap.size := by rw [hwx]; simp
  have HIP := Lib.hid (IsPermutation_impl Ap m cp p wx ((HP.out.below B0.out).below (hb1.trans (bx.mono hs1))) HPL.out hm)
  have HX := Lib.hid hx
  have BX := Lib.hid (hb1.trans (bx.mono hs1))
  have HO1 := Lib.hid (own1.below bx)
  have HF1 := Lib.hid own1.lt
  have WX := Lib.hid hwx
  clear hx bx hwx own1 hb1 p0 p1
  go_wp2_with fail
  rw [← WX.out]
  refine HIP.out.mono ?_
  rintro e w2 ⟨rfl, b2, s2⟩
  have HX2 := Lib.hid ((b2.block _ (by omega)).trans HX.out)
  have B2 := Lib.hid (BX.out.trans (b2.mono (by omega)))
  have HO2 := Lib.hid (HO1.out.below b2)
  have HX1 := Lib.hid ((B2.out.block _ (by omega)).trans X1.out)
  have HX0 := Lib.hid ((B2.out.block _ (by omega)).trans X0.out)
  obtain ⟨r0, r1⟩ := boxcells2 (lay := Below.refl _ _) HX2.out
  obtain ⟨q0, q1⟩ := boxcells2 (lay := Below.refl _ _) HX1.out
  have f0 := free_atP (j := 0) HX1.out
  have f1 := free_atP (j := 1) HX1.out
  have hX1l : w.heap.size + 1 < w2.heap.size := by omega
  have hX2l : w1.heap.size < w2.heap.size := by omega
  have hBW : Below w.heap.size w w2 := B0.out.trans (B2.out.mono (by omega))
  have HBW := Lib.hid hBW
  clear b2 hBW
  cases hip : isP p
  · have HS := Lib.hid (permM_no (M := M) hip)
    clear hip
    go_wp2_with fail
    refine bodyPost_ret (v := .agg #[.int .i64 b, .slice A2 n c2]) (by simp [results, Try.results15, go_sem, q0, q1]) rfl ⟨A2, c2, F1, rfl, ?_, ?_, ?_⟩
    · rw [HS.out]
      exact ((HO2.out.base_le (by omega)).kin ((kin_setCell _ (w.heap.size + 1) _ _).trans (kin_setCell _ (w.heap.size + 1) _ _)) (fun k hk hm => by have := (HF1.out k hk).1; simp at hm; omega))
    · exact ((HBW.out).setCell (by first | omega | (simp; done) | (simp; omega)) _).setCell (by first | omega | (simp; done) | (simp; omega)) _
    · simp [World.setCell]; omega
  · have hml := (isP_mem hip).1
    rw [HPL.out] at hml
    have HIS := Lib.hid hip
    have hpw : (2 : Int) ^ m ≤ 16 := pow_le16 hml.2
    have hpp : (0 : Int) < 2 ^ m := Int.pow_pos (by decide)
    have hw1 : wrap64 (2 ^ m) = 2 ^ m := IntWalk.wrap64_in _ (by omega)
    obtain ⟨N, hN⟩ : ∃ N : Nat, N = 2 ^ m := ⟨_, rfl⟩
    have hNi : (2 : Int) ^ m = (N : Int) := by rw [hN]; exact_mod_cast rfl
    have HWN : Hid (wrap64 (2 ^ m) = (N : Int)) := by rw [hw1, hNi]; exact rfl
    have HNM := Lib.hid hN
    obtain ⟨y0, y1⟩ := boxcells2 (lay := Below.refl _ _) HX0.out
    clear hip hw1 hNi hN hpw hpp
    go_wp2_with fail
    go_loop [21] (fun i => ∃ t : Nat, t ≤ n ∧ i = .int .i64 t ∧ Hid (∀ (j : Nat) (r : List Dm), j < t → M[j]? = some r → r.length = N)) (fun i => n - (intOf i).toNat)
    case atStart => exact ⟨0, Nat.zero_le _, rfl, fun j r hj => by omega⟩
    case round =>
      obtain ⟨t, ht, rfl, hfit⟩ := hrel
      by_cases hlt : t < n
      · have htl : t < M.length := by rw [HL.out]; exact hlt
        obtain ⟨r, hr⟩ : ∃ r, M[t]? = some r := ⟨_, List.getElem?_eq_getElem htl⟩
        obtain ⟨bb, off, a, c1, rfl, hbl, z0, hc1, hc2, hrd⟩ := (H.out.below HBW.out).at hr
        have HR := Lib.hid hr
        clear hr htl hrd
        by_cases hrl : r.length = N
        · have hne : ((r.length : Int) != wrap64 (2 ^ m)) = false := by rw [HWN.out, hrl]; simp
          have HN2 : Hid (∀ (j : Nat) (r : List Dm), j < t + 1 → M[j]? = some r → r.length = N) := by
            intro j r' hj hr'
            rcases Nat.lt_succ_iff_lt_or_eq.1 hj with h | rfl
            · exact hfit.out j r' h hr'
            · rw [HR.out] at hr'
              injection hr' with hr'
              rw [← hr']
              exact hrl
          have HRL := Lib.hid hrl
          clear hrl
          go_wp2_with fail
          go_round
          case rel => exact ⟨t + 1, by omega, by go_num, HN2⟩
          case measure => simp [intOf]; omega
        · have hne : ((r.length : Int) != wrap64 (2 ^ m)) = true := by rw [HWN.out, bne_iff_ne]; exact fun e => hrl (by exact_mod_cast e)
          have HS := Lib.hid (permM_bad (p := p) HR.out (by rw [HPL.out, ← HNM.out]; exact hrl))
          clear hrl
          go_wp2_with fail
          refine bodyPost_ret (v := .agg #[.int .i64 b, .slice A2 n c2]) (by simp [results, Try.results15, go_sem, q0, q1]) rfl ⟨A2, c2, F1, rfl, ?_, ?_, ?_⟩
          · rw [HS.out]
            exact ((HO2.out.base_le (by omega)).kin ((kin_setCell _ (w.heap.size + 1) _ _).trans (kin_setCell _ (w.heap.size + 1) _ _)) (fun k hk hm => by have := (HF1.out k hk).1; simp at hm; omega))
          · exact ((HBW.out).setCell (by first | omega | (simp; done) | (simp; omega)) _).setCell (by first | omega | (simp; done) | (simp; omega)) _
          · simp [World.setCell]; omega
      · obtain rfl : t = n := by omega
        have HFIT : Hid (∀ (j : Nat) (r : List Dm), M[j]? = some r → r.length = N) := by
          intro j r hr
          exact hfit.out j r (by rw [← HL.out]; exact (List.getElem?_eq_some_iff.1 hr).1) hr
        have HS : Hid (permM p M = M.map (permR p)) := permM_yes HIS.out (fun j r hr => by rw [HPL.out, ← HNM.out]; exact HFIT.out j r hr)
        clear hfit
        obtain ⟨MS, hMS⟩ : ∃ MS, MS = M.map (permR p) := ⟨_, rfl⟩
        have HMS := Lib.hid hMS
        have HML := Lib.hid (show MS.length = M.length by rw [hMS, List.length_map])
        rw [← hMS] at HS
        obtain ⟨SS, hM1, hM2, hF, hNd, hrows⟩ := HO2.out
        have HF := Lib.hid hF
        have HND := Lib.hid (hF ▸ hNd)
        have HNDF := Lib.hid hNd
        have HM2 := Lib.hid hM2
        have HROW := Lib.hid hrows
        clear hMS hM1 hM2 hF hNd hrows r0 r1
        go_wp2_with fail
        go_loopw [36] (fun i wi => ∃ k : Nat, k ≤ t ∧ i = .int .i64 k ∧ Hid (wi.ownsRow w0.heap.size 62 1 (.slice A2 t c2) t SS) ∧ Hid (∀ (j : Nat) (r : List Dm), (MS.take k ++ M.drop k)[j]? = some r → ∃ u, SS[j]? = some u ∧ wi.ownsRow w0.heap.size 67 5 u r.length (r.flatMap dcells)) ∧ Hid (Kin F1 w2 wi)) (fun i _ => t - (intOf i).toNat)
        case atStart => exact ⟨0, Nat.zero_le _, rfl, HM2.out, Lib.hid (by simpa using HROW.out), Kin.refl _ _⟩
        case round =>
          obtain ⟨k, hk, rfl, ho, hrow, hkin⟩ := hrel
          obtain ⟨wi, rfl⟩ : ∃ wi : World, wi = wr := ⟨_, rfl⟩
          have hks := hkin.out.size
          have HXi := Lib.hid ((hkin.out.block w1.heap.size hX2l (fun hm => by have := (HF1.out _ hm).2; omega)).trans HX2.out)
          have HBi := Lib.hid (HBW.out.trans (hkin.out.below (by omega) (fun q hq => by have := (HF1.out q hq).1; omega)))
          have hXil : w1.heap.size < wi.heap.size := by omega
          by_cases hlk : k < t
          · have hkl : k < M.length := by rw [HL.out]; exact hlk
            obtain ⟨r, hr⟩ : ∃ r, M[k]? = some r := ⟨_, List.getElem?_eq_getElem hkl⟩
            obtain ⟨u, hu, hou⟩ := hrow.out k r ((mix_at HML.out hkl).trans hr)
            obtain ⟨a, c', rfl, _, _, _⟩ := rd_of_own hou
            obtain ⟨gA, rfl⟩ := own_some ho.out (by omega)
            obtain ⟨b3, off3, a3, c3, hA, hbl3, z0, hc1, hc2, hrd⟩ := H.out.at hr
            subst hA
            have z0' := (HBi.out.cell (p := ⟨b3, off3 + k, none⟩) hbl3).trans z0
            have hrl := szM_row hr
            have HRN := Lib.hid (HFIT.out k r hr)
            have HSet := Lib.hid (show (MS.take k ++ M.drop k).set k (permR p r) = MS.take (k + 1) ++ M.drop (k + 1) from mix_set HML.out (by rw [HMS.out, List.getElem?_map, hr]; rfl))
            have HR := Lib.hid hr
            have HU := Lib.hid hu
            have HOU := Lib.hid hou
            have HRD := Lib.hid hrd
            have HAP := Lib.hid (own_types ho.out hou (by decide))
            have hdk : decide ((k : Int) < (t : Int)) = true := by simp; omega
            have hb3i : b3 < wi.heap.size := by have := HBi.out.size; omega
            clear hr hu hkl hou z0 hrd
            go_wp2_with fail
            go_loopw [43] (fun i wj => ∃ j : Nat, j ≤ r.length ∧ i = .int .i64 j ∧ Hid (wj.ownsRow w0.heap.size 67 5 (.slice a r.length c') r.length ((permTo p r j).flatMap dcells)) ∧ Hid (wi.grownBy wj (Value.slice a r.length c').ownBlock)) (fun i _ => r.length - (intOf i).toNat)
            case atStart => exact ⟨0, Nat.zero_le _, rfl, HOU.out, World.grownBy.refl _ _⟩
            case round =>
              obtain ⟨j, hj, rfl, hoj, hgj⟩ := hrel
              obtain ⟨wj, rfl⟩ : ∃ wj : World, wj = wr := ⟨_, rfl⟩
              have hgs := hgj.out.size
              by_cases hlj : j < r.length
              · obtain ⟨x, hx⟩ : ∃ x, r[j]? = some x := ⟨_, List.getElem?_eq_getElem hlj⟩
                obtain ⟨g, rfl⟩ := own_some hoj.out (by omega)
                have hgw : w0.heap.size ≤ g := (HOU.out.lt g rfl).1
                have hgF : g ∈ F1 := by rw [HF.out]; exact List.mem_append.2 (.inr (List.mem_flatMap.2 ⟨_, List.mem_of_getElem? HU.out, by simp [Value.ownBlock]⟩))
                have hg1 := (HF1.out g hgF).2
                have HBj := Lib.hid (HBi.out.trans (grown_below hgj.out (by omega) (fun q hq => by have h9 : g = q := (by simpa [Value.ownBlock] using hq); omega)))
                obtain ⟨b4, off4, rfl, hb4, hc4⟩ := (HRD.out.below HBj.out).2 (by omega)
                have x0 := hc4 (j * 5 + 0) _ (flat_at dcells_len r j x 0 hx (by decide))
                have x1 := hc4 (j * 5 + 1) _ (flat_at dcells_len r j x 1 hx (by decide))
                have x2 := hc4 (j * 5 + 2) _ (flat_at dcells_len r j x 2 hx (by decide))
                have x3 := hc4 (j * 5 + 3) _ (flat_at dcells_len r j x 3 hx (by decide))
                have x4 := hc4 (j * 5 + 4) _ (flat_at dcells_len r j x 4 hx (by decide))
                rw [← Nat.add_assoc] at x1 x2 x3 x4
                rw [Nat.add_zero] at x0
                have hpi := pidx_lt HIS.out (j : Int)
                obtain ⟨idx, hidx⟩ : ∃ idx : Nat, pidx p (j : Int) = idx := ⟨(pidx p (j : Int)).toNat, by omega⟩
                have hil : idx < r.length := by
                  have h2 := hpi.2
                  rw [hidx, HPL.out] at h2
                  have h3 : idx < 2 ^ m := by exact_mod_cast h2
                  rw [← HNM.out] at h3
                  have h4 := HRN.out
                  omega
                have HSTEP : Hid (permTo p r (j + 1) = (permTo p r j).set idx x) := by rw [permTo_at hx, hidx, Int.toNat_natCast]; exact rfl
                obtain ⟨y, hy⟩ : ∃ y, (permTo p r j)[idx]? = some y := ⟨_, List.getElem?_eq_getElem (by rw [permTo_len]; exact hil)⟩
                have HY := Lib.hid hy
                have HIDX := Lib.hid hidx
                obtain ⟨wB, hwB⟩ : ∃ wB, wB = wj.alloc (.cells #[.int .i64 x.a, .int .i64 x.b, .int .i64 x.c, .int .i64 x.d, .int .i64 x.e] 67) := ⟨_, rfl⟩
                have XB := Lib.hid (show wB.heap[wj.heap.size]? = some (.cells #[.int .i64 x.a, .int .i64 x.b, .int .i64 x.c, .int .i64 x.d, .int .i64 x.e] 67 (0, 0)) by rw [hwB]; exact boxed1_0 _ _)
                have bB : Below wj.heap.size wj wB := by rw [hwB]; exact (by repeat (first | exact Below.refl _ _ | assumption | (refine Below.trans ?_ (Below.mono (by assumption) (by first | omega | (simp; done) | (simp; omega)))) | (with_reducible refine Below.drew ?_) | (with_reducible refine Below.alloc ?_ (by first | omega | (simp; done) | (simp; omega)) _) | (with_reducible refine Below.setCell ?_ (by first | omega | (simp; done) | (simp; omega)) _)))
                have sB : wj.heap.size + 1 = wB.heap.size := by rw [hwB]; simp
                have HXj := Lib.hid ((hgj.out.block w1.heap.size hXil (fun e => by have h9 : w1.heap.size = g := (by simpa [Value.ownBlock] using e); omega)).trans HXi.out)
                have HOA := Lib.hid (ho.out.kept hgj.out HAP.out)
                have u1 : wB.cell? ⟨w1.heap.size, 1, none⟩ = some (.slice (some ⟨gA, 0, none⟩) t c2) := (bB.cell (p := ⟨w1.heap.size, 1, none⟩) (by show w1.heap.size < _; omega)).trans (cell_at (j := 1) HXj.out rfl)
                have hgA := (HOA.out.lt gA rfl).2
                have u2 : wB.cell? ⟨gA, k, none⟩ = some (.slice (some ⟨g, 0, none⟩) r.length c') := (bB.cell (p := ⟨gA, k, none⟩) hgA).trans ((HOA.out.cellAt k (by omega)).trans HU.out)
                have v0 := cell_at (j := 0) (u := .int .i64 x.a) XB.out rfl
                have v1 := cell_at (j := 1) (u := .int .i64 x.b) XB.out rfl
                have v2 := cell_at (j := 2) (u := .int .i64 x.c) XB.out rfl
                have v3 := cell_at (j := 3) (u := .int .i64 x.d) XB.out rfl
                have v4 := cell_at (j := 4) (u := .int .i64 x.e) XB.out rfl
                have hl1 : w1.heap.size < wB.heap.size := by omega
                have hl2 : gA < wB.heap.size := by omega
                have hl3 : wj.heap.size < wB.heap.size := by omega
                have KS : Hid (∀ W : World, W.heap[w1.heap.size]? = wB.heap[w1.heap.size]? → W.heap[gA]? = wB.heap[gA]? → W.heap[wj.heap.size]? = wB.heap[wj.heap.size]? → (W.cell? ⟨w1.heap.size, 1, none⟩ = some (.slice (some ⟨gA, 0, none⟩) t c2) ∧ W.cell? ⟨gA, k, none⟩ = some (.slice (some ⟨g, 0, none⟩) r.length c') ∧ W.cell? ⟨wj.heap.size, 0, none⟩ = some (.int .i64 x.a) ∧ W.cell? ⟨wj.heap.size, 1, none⟩ = some (.int .i64 x.b) ∧ W.cell? ⟨wj.heap.size, 2, none⟩ = some (.int .i64 x.c) ∧ W.cell? ⟨wj.heap.size, 3, none⟩ = some (.int .i64 x.d) ∧ W.cell? ⟨wj.heap.size, 4, none⟩ = some (.int .i64 x.e))) := fun W e1 e2 e3 =>
                  ⟨(World.cell?_of_block (a := ⟨w1.heap.size, 1, none⟩) e1).trans u1, (World.cell?_of_block (a := ⟨gA, k, none⟩) e2).trans u2, (World.cell?_of_block (a := ⟨wj.heap.size, 0, none⟩) e3).trans v0, (World.cell?_of_block (a := ⟨wj.heap.size, 1, none⟩) e3).trans v1, (World.cell?_of_block (a := ⟨wj.heap.size, 2, none⟩) e3).trans v2, (World.cell?_of_block (a := ⟨wj.heap.size, 3, none⟩) e3).trans v3, (World.cell?_of_block (a := ⟨wj.heap.size, 4, none⟩) e3).trans v4⟩
                have hgg : gA ≠ g := by have h9 := HAP.out; simpa [Value.ownBlock] using h9
                have NG1 : Hid ((some w1.heap.size : Option Nat) ≠ some g) := fun e => by injection e with e; omega
                have NG2 : Hid ((some gA : Option Nat) ≠ some g) := fun e => by injection e with e; exact hgg e
                have NG3 : Hid ((some wj.heap.size : Option Nat) ≠ some g) := fun e => by injection e with e; omega
                have KS0 := Lib.hid (KS.out wB rfl rfl rfl)
                have KS1 := Lib.hid (KS.out wB.drew rfl rfl rfl)
                have HPB := Lib.hid (HP.out.below (HBj.out.trans (bB.mono (by have := HBj.out.size; omega))))
                have HOJB := Lib.hid (ownsRow_below hoj.out bB)
                have HGB := Lib.hid (hgj.out.trans (grown_of_below bB))
                have WB := Lib.hid hwB
                clear hx hidx hy hwB bB hpi hc4 hgF hgg
                go_wp2_with fail
                rw [← WB.out]
                clear x0 x1 x2 x3 x4 u1 u2 v0 v1 v2 v3 v4
                go_region_held3 (fun W => W.cell? ⟨w1.heap.size, 1, none⟩ = some (.slice (some ⟨gA, 0, none⟩) t c2) ∧ W.cell? ⟨gA, k, none⟩ = some (.slice (some ⟨g, 0, none⟩) r.length c') ∧ W.cell? ⟨wj.heap.size, 0, none⟩ = some (.int .i64 x.a) ∧ W.cell? ⟨wj.heap.size, 1, none⟩ = some (.int .i64 x.b) ∧ W.cell? ⟨wj.heap.size, 2, none⟩ = some (.int .i64 x.c) ∧ W.cell? ⟨wj.heap.size, 3, none⟩ = some (.int .i64 x.d) ∧ W.cell? ⟨wj.heap.size, 4, none⟩ = some (.int .i64 x.e)) ((first | (with_reducible exact KS0.out) | (with_reducible exact KS1.out) | (with_reducible exact KS2.out) | (with_reducible exact KS3.out))) (first | (go_at_call 40; (with_reducible refine (PermuteIndex_impl Ap m cp p (j : Int) _ HPB.out.drew HPL.out hm).mono ?_); rintro e w5 ⟨rfl, b5d, s5d⟩; rw [HIDX.out]; have b5 : Below wB.heap.size wB w5 := below_undrewP b5d; have own5 := ownsRow_below HOJB.out b5; obtain ⟨⟨t0, t1, t2, t3, t4⟩, g0, g1, g2, g3, g4⟩ := dcell5 own5 HY.out; have hl5 : g < w5.heap.size := (own5.lt g rfl).2; have sz5 := b5.size; have gs5 : w5.grownBy (((((w5.setCell ⟨g, idx * 5, none⟩ (.int .i64 x.a)).setCell ⟨g, idx * 5 + 1, none⟩ (.int .i64 x.b)).setCell ⟨g, idx * 5 + 2, none⟩ (.int .i64 x.c)).setCell ⟨g, idx * 5 + 3, none⟩ (.int .i64 x.d)).setCell ⟨g, idx * 5 + 4, none⟩ (.int .i64 x.e)) (some g) := (store5 (i := idx) x own5).2; have KS2 := Lib.hid (KS.out w5 (b5.block _ hl1) (b5.block _ hl2) (b5.block _ hl3)); have KS3 := Lib.hid (KS.out (((((w5.setCell ⟨g, idx * 5, none⟩ (.int .i64 x.a)).setCell ⟨g, idx * 5 + 1, none⟩ (.int .i64 x.b)).setCell ⟨g, idx * 5 + 2, none⟩ (.int .i64 x.c)).setCell ⟨g, idx * 5 + 3, none⟩ (.int .i64 x.d)).setCell ⟨g, idx * 5 + 4, none⟩ (.int .i64 x.e)) ((gs5.block _ (by omega) NG1.out).trans (b5.block _ hl1)) ((gs5.block _ (by omega) NG2.out).trans (b5.block _ hl2)) ((gs5.block _ (by omega) NG3.out).trans (b5.block _ hl3)))))
                have HS5 := Lib.hid (store5 (i := idx) x own5)
                have HB5 := Lib.hid b5
                clear t0 t1 t2 t3 t4 g0 g1 g2 g3 g4 own5 b5 b5d s5d gs5
                go_wp2_with fail
                go_roundw
                case rel => exact ⟨j + 1, by omega, by go_num, by rw [HSTEP.out]; exact HS5.out.1, (HGB.out.trans (grown_of_below HB5.out)).trans HS5.out.2⟩
                case measure => simp [intOf]; omega
              · obtain rfl : j = r.length := by omega
                have HOJ : Hid (wj.ownsRow w0.heap.size 67 5 (.slice a r.length c') r.length ((permR p r).flatMap dcells)) := hoj.out
                go_wp2_with fail
                go_roundw
                case rel =>
                  have hnew : wj.ownsRow w0.heap.size 67 5 (.slice a r.length c') (permR p r).length ((permR p r).flatMap dcells) := by rw [permR_len]; exact HOJ.out
                  have h5 := ownM_set (M := MS.take k ++ M.drop k) (t := k) (r := r) (r' := permR p r) (by rw [List.length_append, List.length_take, List.length_drop, HML.out, HL.out]; omega) ho.out HND.out hrow.out HU.out hlk hnew hgj.out
                  rw [HSet.out] at h5
                  exact ⟨k + 1, by omega, by go_num, h5.1, h5.2, hkin.out.trans ((kin_of_grown hgj.out).mono (fun y hy => by rw [HF.out]; exact List.mem_append.2 (.inr (List.mem_flatMap.2 ⟨_, List.mem_of_getElem? HU.out, hy⟩))))⟩
                case measure => simp [intOf]; omega
          · obtain rfl : k = t := by omega
            have HOM : Hid (OwnM wi w0.heap.size (.slice A2 k c2) k MS F1) := by
              have h := hrow.out
              rw [List.take_of_length_le (by rw [HML.out, HL.out]; exact Nat.le_refl _), List.drop_of_length_le (by rw [HL.out]; exact Nat.le_refl _), List.append_nil] at h
              exact ⟨SS, by rw [HML.out, HL.out], ho.out, HF.out, HNDF.out, h⟩
            have HX1i := Lib.hid ((hkin.out.block (w.heap.size + 1) hX1l (fun hm => by have := (HF1.out _ hm).1; omega)).trans HX1.out)
            obtain ⟨r0, r1⟩ := boxcells2 (lay := Below.refl _ _) HXi.out
            obtain ⟨q0, q1⟩ := boxcells2 (lay := Below.refl _ _) HX1i.out
            have f0 := free_atP (j := 0) HX1i.out
            have f1 := free_atP (j := 1) HX1i.out
            have hXl1 : w.heap.size + 1 < wi.heap.size := by omega
            go_wp2_with fail
            refine bodyPost_ret (v := .agg #[.int .i64 b, .slice A2 k c2]) (by simp [results, Try.results15, go_sem, q0, q1]) rfl ⟨A2, c2, F1, rfl, ?_, ?_, ?_⟩
            · rw [HS.out]
              exact ((HOM.out.base_le (by omega)).kin ((kin_setCell _ (w.heap.size + 1) _ _).trans (kin_setCell _ (w.heap.size + 1) _ _)) (fun q hq hm => by have := (HF1.out q hq).1; simp at hm; omega))
            · exact ((HBi.out).setCell (by first | omega | (simp; done) | (simp; omega)) _).setCell (by first | omega | (simp; done) | (simp; omega)) _
            · have := HBi.out.size; simp [World.setCell]; omega
end Go.Proofs.Ytgmaokpebaebkaa
