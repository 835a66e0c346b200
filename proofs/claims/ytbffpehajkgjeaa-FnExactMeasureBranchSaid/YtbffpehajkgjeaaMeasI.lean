/- Measuring a qubit of a branch, by the program. -/
import Derived.Test.YtbffpehajkgjeaaCopyB
namespace Go.Proofs.Ytbffpehajkgjeaa
open Go.RowKit
set_option linter.unusedVariables false
theorem own_some {w : World} {base E size n c : Nat} {a : Option Addr} {xs : List Value} (h : w.ownsRow base E size (.slice a n c) n xs) (hn : 0 < n) : ∃ g, a = some ⟨g, 0, none⟩ := by
  rcases h.2 with ⟨h1, h2⟩ | ⟨g, cap, cur, h1, _⟩
  · injection h1 with h3 h4 h5
    omega
  · injection h1 with h3 h4 h5
    exact ⟨g, h3⟩
theorem mix_at {α : Type} {S r : List α} {j : Nat} (hl : S.length = r.length) (hj : j < r.length) : (S.take j ++ r.drop j)[j]? = r[j]? := by
  have h1 : (S.take j).length = j := by rw [List.length_take]; omega
  rw [List.getElem?_append_right (by omega), h1, Nat.sub_self, List.getElem?_drop, Nat.add_zero]
theorem mix_set {α : Type} {S r : List α} {j : Nat} {y : α} (hl : S.length = r.length) (hy : S[j]? = some y) : (S.take j ++ r.drop j).set j y = S.take (j + 1) ++ r.drop (j + 1) := by
  have hj := (List.getElem?_eq_some_iff.1 hy).1
  have h1 : (S.take j).length = j := by rw [List.length_take]; omega
  rw [List.set_append_right _ _ (by omega), h1, Nat.sub_self, List.drop_eq_getElem_cons (by omega : j < r.length), List.set_cons_zero, List.take_add_one, hy]
  simp
theorem mix_same {α : Type} {S r : List α} {j : Nat} {y : α} (hl : S.length = r.length) (hy : S[j]? = some y) (hr : r[j]? = some y) : S.take j ++ r.drop j = S.take (j + 1) ++ r.drop (j + 1) := by
  have hj := (List.getElem?_eq_some_iff.1 hy).1
  rw [List.take_add_one, hy, List.drop_eq_getElem_cons (by omega : j < r.length), (List.getElem?_eq_some_iff.1 hr).2]
  simp
theorem szM_side (q one : Int) (M : List (List Dm)) : szM (M.map (sideL q one)) = szM M := by
  unfold szM
  rw [List.map_map]
  congr 1
  exact List.map_congr_left fun r _ => sideL_len q one r
set_option maxRecDepth 100000 in
set_option maxHeartbeats 16000000 in
theorem MeasureBranch_impl_ok (b : Int) (A : Option Addr) (n c : Nat) (M : List (List Dm)) (q bit : Int) (w : World) (h : RdM w A n M) (hn : n ≤ 68719476736) (hs : szM M ≤ 1099511627776) (hq0 : 0 ≤ q) (hq : q ≤ 3) (hb0 : 0 ≤ bit) (hb : bit ≤ 2) :
    Calls Try.prog 53 #[.agg #[.int .i64 b, .slice A n c], .int .i64 q, .int .i64 bit] w (fun e w' => ∃ m, RetB w m (measTo b M q bit 2) e w') := by
  obtain ⟨i1, hi1, hy0, hy1, hy2⟩ := info_parts info_BranchE
  have hin1 : inB bit 0 2 = true := inB_t hb0 hb
  have hin2 : inB q 0 3 = true := inB_t hq0 hq
  obtain ⟨w0, hw0⟩ : ∃ w0, w0 = (w.alloc (.cells #[.int .i64 b, .slice A n c] 59)).alloc (.cells #[] 59) := ⟨_, rfl⟩
  have X0 := Lib.hid (show w0.heap[w.heap.size]? = some (.cells #[.int .i64 b, .slice A n c] 59 (0, 0)) by rw [hw0]; exact boxed2_0 _ _ _)
  have O0 := Lib.hid (show OwnB w0 (w.heap.size + 1) (.slice (some ⟨w.heap.size + 1, 0, none⟩) 0 0) 0 [] [w.heap.size + 1] by
    rw [hw0]
    have := ownB_empty (w.alloc (.cells #[.int .i64 b, .slice A n c] 59))
    simpa using this)
  have b0 : Below w.heap.size w w0 := by rw [hw0]; exact (by repeat (first | exact Below.refl _ _ | assumption | (refine Below.trans ?_ (Below.mono (by assumption) (by first | omega | (simp; done) | (simp; omega)))) | (with_reducible refine Below.drew ?_) | (with_reducible refine Below.alloc ?_ (by first | omega | (simp; done) | (simp; omega)) _) | (with_reducible refine Below.setCell ?_ (by first | omega | (simp; done) | (simp; omega)) _)))
  have s0 : w.heap.size + 2 = w0.heap.size := by rw [hw0]; simp
  have HL := Lib.hid h.len
  have H := Lib.hid h
  have S0 := Lib.hid s0
  have B0 := Lib.hid b0
  have HW := Lib.hid hw0
  clear h s0 b0 hw0
  go_enter Try.func53, Try.ntmps53
  go_wp2_with (go_at_call 66; refine (in_any _ _ _ _).mono ?_; rintro e w' ⟨rfl, rfl⟩)
  rw [← HW.out]
  go_loopw [7, 8] (fun v i wr => ∃ (t m : Nat) (F : List Nat), t ≤ 2 ∧ i = .int .i64 t ∧ OwnB wr (w.heap.size + 1) v m (measTo b M q bit t) F ∧ Below (w.heap.size + 1) w0 wr) (fun _ i _ => 2 - (intOf i).toNat)
  case atStart => exact ⟨0, 0, _, by omega, rfl, O0.out, Below.refl _ _⟩
  case round =>
    obtain ⟨t, m, F, ht, rfl, hown, hbw⟩ := hrel
    have hbs := hbw.size
    have s0 := S0.out
    by_cases hlt : t < 2
    · have x0 := (hbw.block w.heap.size (by omega)).trans X0.out
      have p0 : wr.cell? ⟨w.heap.size, 0, none⟩ = some (.int .i64 b) := cell_at (j := 0) x0 rfl
      have p1 : wr.cell? ⟨w.heap.size, 1, none⟩ = some (.slice A n c) := cell_at (j := 1) x0 rfl
      have HO := Lib.hid hown
      have HB := Lib.hid hbw
      have HX0 := Lib.hid x0
      have hw2 : w.heap.size + 2 ≤ wr.heap.size := by omega
      have HRd := Lib.hid (H.out.below (B0.out.trans (hbw.mono (by omega))))
      clear x0 hown hbw s0
      obtain ⟨wo, rfl⟩ : ∃ wo : World, wo = wr := ⟨_, rfl⟩
      have hd : decide ((t : Int) < 2) = true := by simp; omega
      go_wp2_with fail
      refine (copyBranch_any _ _ _ _ M _ HRd.out hn hs).mono ?_
      rintro e w1 ⟨A2, c2, F1, rfl, own1, hb1, hs1⟩
      have HO1 := Lib.hid own1
      clear own1 p0 p1
      go_upto_region 8 with (fail)
      obtain ⟨wx, hwx⟩ : ∃ wx, wx = w1.alloc (.cells #[.int .i64 b, .slice A2 n c2] 59) := ⟨_, rfl⟩
      rw [← hwx]
      have hx := (show wx.heap[w1.heap.size]? = some (.cells #[.int .i64 b, .slice A2 n c2] 59 (0, 0)) by rw [hwx]; exact boxed1_0 _ _)
      have bx : Below w1.heap.size w1 wx := by rw [hwx]; exact (by repeat (first | exact Below.refl _ _ | assumption | (refine Below.trans ?_ (Below.mono (by assumption) (by first | omega | (simp; done) | (simp; omega)))) | (with_reducible refine Below.drew ?_) | (with_reducible refine Below.alloc ?_ (by first | omega | (simp; done) | (simp; omega)) _) | (with_reducible refine Below.setCell ?_ (by first | omega | (simp; done) | (simp; omega)) _)))
      have sx : w1.heap.size + 1 = wx.heap.size := by rw [hwx]; simp
      have r0 : wx.cell? ⟨w1.heap.size, 0, none⟩ = some (.int .i64 b) := cell_at (j := 0) hx rfl
      have g0 : wx.frozen? ⟨w1.heap.size, 0, none⟩ = false := by simp [World.frozen?, hx]
      have hMb : mbits b t bit = wrap64 (b + wrap64 ((t : Int) * 2 ^ bit.toNat)) := rfl
      obtain ⟨Mb, hMb2⟩ : ∃ Mb, Mb = mbits b t bit := ⟨_, rfl⟩
      have HMb := Lib.hid hMb2
      have HMb2 := Lib.hid (hMb2.trans hMb)
      have HX := Lib.hid hx
      have BX := Lib.hid bx
      have SX := Lib.hid sx
      clear hwx hx bx sx hMb hMb2
      have hXl : w1.heap.size < wx.heap.size := by have := SX.out; omega
      go_cut [] (fun wc => wc.heap[w1.heap.size]? = some (.cells #[.int .i64 Mb, .slice A2 n c2] 59 (0, 0)) ∧ Kin [w1.heap.size] wx wc)
      case first =>
        have hst : ∀ w', w' = wx.drew.setCell ⟨w1.heap.size, 0, none⟩ (.int .i64 (wrap64 (b + wrap64 ((t : Int) * 2 ^ bit.toNat)))) → w'.heap[w1.heap.size]? = some (.cells #[.int .i64 Mb, .slice A2 n c2] 59 (0, 0)) ∧ Kin [w1.heap.size] wx w' := by
          rintro _ rfl
          refine ⟨?_, ?_⟩
          · rw [heap_setCell_same _ _ _ _ _ _ (show wx.drew.heap[w1.heap.size]? = _ from HX.out), HMb2.out]; rfl
          · exact (show Kin [w1.heap.size] wx wx.drew from (Kin.refl _ _).drew).trans (kin_setCell _ _ _ _)
        have HST := Lib.hid hst
        clear hst
        go_wp2_with fail
        go_region
        all_goals (go_wp2_with fail; go_meet; exact HST.out _ rfl)
      case rest =>
        obtain ⟨hx, hkx⟩ := hcut
        obtain ⟨wD, rfl⟩ : ∃ wD : World, wD = wc := ⟨_, rfl⟩
        have hF1 := HO1.out.lt
        have ownD := (HO1.out.below BX.out).kin hkx (fun p hp hm => by have := (hF1 p hp).2; simp at hm; omega)
        have HG1 : Hid F1.Nodup := Lib.hid (by obtain ⟨_, _, _, _, hnn, _⟩ := HO1.out; exact hnn)
        obtain ⟨SS, hM1, hM2, hF, hN, hrows⟩ := ownD
        have HF := Lib.hid hF
        have HN := Lib.hid hN
        have HM2 := Lib.hid hM2
        have HROW := Lib.hid hrows
        have HXD := Lib.hid hx
        have HKX := Lib.hid hkx
        have HF1 := Lib.hid hF1
        have r1 : wD.cell? ⟨w1.heap.size, 0, none⟩ = some (.int .i64 Mb) := cell_at (j := 0) hx rfl
        have r2 : wD.cell? ⟨w1.heap.size, 1, none⟩ = some (.slice A2 n c2) := cell_at (j := 1) hx rfl
        obtain ⟨MS, hMS⟩ : ∃ MS, MS = M.map (sideL q t) := ⟨_, rfl⟩
        have HMS := Lib.hid hMS
        have HML := Lib.hid (show MS.length = M.length by rw [hMS, List.length_map])
        clear hF hN hM1 hM2 hrows hx hkx r0 g0 hMS hF1
        go_wp2_with fail
        go_loopw [38] (fun i wi => ∃ k : Nat, k ≤ n ∧ i = .int .i64 k ∧ wi.ownsRow wo.heap.size 106 1 (.slice A2 n c2) n SS ∧ (∀ (j : Nat) (r : List Dm), (MS.take k ++ M.drop k)[j]? = some r → ∃ u, SS[j]? = some u ∧ wi.ownsRow wo.heap.size 118 5 u r.length (r.flatMap dcells)) ∧ Kin F1 wD wi) (fun i _ => n - (intOf i).toNat)
        case atStart => exact ⟨0, Nat.zero_le _, rfl, HM2.out, by simpa using HROW.out, Kin.refl _ _⟩
        case round =>
          obtain ⟨k, hk, rfl, ho, hrow, hkin⟩ := hrel
          obtain ⟨wi, rfl⟩ : ∃ wi : World, wi = wr := ⟨_, rfl⟩
          by_cases hlk : k < n
          · have hkl : k < M.length := by rw [HL.out]; exact hlk
            obtain ⟨r, hr⟩ : ∃ r, M[k]? = some r := ⟨_, List.getElem?_eq_getElem hkl⟩
            obtain ⟨u, hu, hou⟩ := hrow k r ((mix_at HML.out hkl).trans hr)
            obtain ⟨a, c', rfl, _, _, _⟩ := rd_of_own hou
            obtain ⟨bb, off, hA, _, hc⟩ := (rd_own ho).2 (by omega)
            subst hA
            have z0 := hc k _ hu
            have hrl := szM_row hr
            have HSet := Lib.hid (show (MS.take k ++ M.drop k).set k (sideL q t r) = MS.take (k + 1) ++ M.drop (k + 1) from mix_set HML.out (by rw [HMS.out, List.getElem?_map, hr]; rfl))
            have HR := Lib.hid hr
            have HU := Lib.hid hu
            have HRO := Lib.hid hrow
            have HOi := Lib.hid ho
            have HK := Lib.hid hkin
            have HOU := Lib.hid hou
            have hdk : decide ((k : Int) < (n : Int)) = true := by simp; omega
            clear hc hr hu hkl hrow ho hkin hou
            go_wp2_with fail
            go_loopw [44] (fun i wj => ∃ j : Nat, j ≤ r.length ∧ i = .int .i64 j ∧ wj.ownsRow wo.heap.size 118 5 (.slice a r.length c') r.length (((sideL q t r).take j ++ r.drop j).flatMap dcells) ∧ wi.grownBy wj (Value.slice a r.length c').ownBlock) (fun i _ => r.length - (intOf i).toNat)
            case atStart => exact ⟨0, Nat.zero_le _, rfl, by simpa using HOU.out, World.grownBy.refl _ _⟩
            case round =>
              obtain ⟨j, hj, rfl, hoj, hgj⟩ := hrel
              by_cases hlj : j < r.length
              · obtain ⟨x, hx⟩ : ∃ x, r[j]? = some x := ⟨_, List.getElem?_eq_getElem hlj⟩
                obtain ⟨g, rfl⟩ := own_some hoj (by omega)
                obtain ⟨⟨y0, y1, y2, y3, y4⟩, f0, f1, f2, f3, f4⟩ := dcell5 hoj ((mix_at (sideL_len q t r) hlj).trans hx)
                have HSd := Lib.hid (sideL_at q t hx)
                have HXx := Lib.hid hx
                clear hx
                by_cases hbit : bitI j q = t
                · have hb1 : (bits BinOp.and IntKind.i64 ((j : Int) / 2 ^ q.toNat) 1 != (t : Int)) = false := by simpa [bitI] using hbit
                  have HBt := Lib.hid hbit
                  clear hbit
                  go_wp2_with fail
                  go_roundw
                  case rel =>
                    have hs := HSd.out
                    rw [if_pos HBt.out] at hs
                    exact ⟨j + 1, by omega, by go_num, by rw [← mix_same (sideL_len q t r) hs HXx.out]; exact hoj, hgj⟩
                  case measure => simp [intOf]; omega
                · have hb1 : (bits BinOp.and IntKind.i64 ((j : Int) / 2 ^ q.toNat) 1 != (t : Int)) = true := by rw [bne_iff_ne]; exact hbit
                  have HBt := Lib.hid hbit
                  clear hbit
                  go_wp2_with fail
                  go_roundw
                  case rel =>
                    have hs := HSd.out
                    rw [if_neg HBt.out] at hs
                    have s := store5 (i := j) dz hoj
                    rw [mix_set (sideL_len q t r) hs] at s
                    exact ⟨j + 1, by omega, by go_num, s.1, hgj.trans s.2⟩
                  case measure => simp [intOf]; omega
              · obtain rfl : j = r.length := by omega
                rw [List.drop_length, List.append_nil, List.take_of_length_le (by rw [sideL_len]; exact Nat.le_refl _)] at hoj
                have HOJ := Lib.hid hoj
                have HGJ := Lib.hid hgj
                clear hoj hgj
                go_wp2_with fail
                go_roundw
                case rel =>
                  have hnew : wr.ownsRow wo.heap.size 118 5 (.slice a r.length c') (sideL q t r).length ((sideL q t r).flatMap dcells) := by rw [sideL_len]; exact HOJ.out
                  have h5 := ownM_set (M := MS.take k ++ M.drop k) (t := k) (r := r) (r' := sideL q t r) (by rw [List.length_append, List.length_take, List.length_drop, HML.out, HL.out]; omega) HOi.out (HF.out ▸ HN.out) HRO.out HU.out hlk hnew HGJ.out
                  rw [HSet.out] at h5
                  exact ⟨k + 1, by omega, by go_num, h5.1, h5.2, HK.out.trans ((kin_of_grown HGJ.out).mono (fun y hy => by rw [HF.out]; exact List.mem_append.2 (.inr (List.mem_flatMap.2 ⟨_, List.mem_of_getElem? HU.out, hy⟩))))⟩
                case measure => simp [intOf]; omega
          · obtain rfl : k = n := by omega
            have hF1 := HF1.out
            have hnX : w1.heap.size ∉ F1 := fun hm => by have := (hF1 _ hm).2; omega
            have hlD : w1.heap.size < wD.heap.size := lt_of_block HXD.out
            have hxi := (hkin.block w1.heap.size hlD hnX).trans HXD.out
            have z0 : wi.cell? ⟨w1.heap.size, 0, none⟩ = some (.int .i64 Mb) := cell_at (j := 0) hxi rfl
            have z1 : wi.cell? ⟨w1.heap.size, 1, none⟩ = some (.slice A2 k c2) := cell_at (j := 1) hxi rfl
            have HOM : Hid (OwnM wi wo.heap.size (.slice A2 k c2) k MS F1) := by
              rw [List.take_of_length_le (by rw [HML.out, HL.out]; exact Nat.le_refl _), List.drop_of_length_le (by rw [HL.out]; exact Nat.le_refl _), List.append_nil] at hrow
              exact ⟨SS, by rw [HML.out, HL.out], ho, HF.out, HN.out, hrow⟩
            have hXi : Hid (wi.heap[w1.heap.size]? = some (.cells #[.int .i64 Mb, .slice A2 k c2] 59 (0, 0))) := Lib.hid hxi
            have hXS : w1.heap.size < wi.heap.size := lt_of_block hxi
            have hszS : szM MS ≤ 1099511627776 := by rw [HMS.out, szM_side]; exact hs
            have HBi : Hid (Below wo.heap.size wo wi) := Lib.hid (((hb1.trans (BX.out.mono hs1)).trans (HKX.out.below (by have := SX.out; omega) (fun p hp => by simp at hp; omega))).trans (hkin.below (by have := SX.out; have := HKX.out.size; omega) (fun p hp => (hF1 p hp).1)))
            clear ho hrow hkin hF1 hnX hxi r1 r2
            go_wp2_with fail
            refine (isZero_any _ _ _ _ MS _ HOM.out.rd' (by omega) hszS).mono ?_
            rintro e w5 ⟨rfl, hb5, hs5⟩
            obtain ⟨y0, y1⟩ := boxcells2 (lay := hb5.mono (Nat.le_refl _)) hXi.out
            have HBL : Hid (Below wo.heap.size wo w5) := Lib.hid (HBi.out.trans (hb5.mono HBi.out.size))
            have hlen := measTo_len b M q bit t
            obtain ⟨S, F', hB1, hB2, hB3, hB4, hB5⟩ := HO.out.below HBL.out
            rw [hB1] at hlen
            have HB3 := Lib.hid hB3
            have HB5 := Lib.hid hB5
            have HB4 := Lib.hid hB4
            have HB1 := Lib.hid hB1
            have hs5' : wo.heap.size ≤ w5.heap.size := HBL.out.size
            clear hB3 hB4 hB5 hB1 z0 z1
            cases hA : anyM MS
            · have HA := Lib.hid (show anyM (M.map (sideL q t)) = false by rw [← HMS.out]; exact hA)
              clear hA
              go_wp2_with fail
              go_roundw
              case rel => exact ⟨t + 1, m, F, by omega, by go_num, by rw [measTo, measOne_f HA.out, List.append_nil]; exact ⟨S, F', HB1.out, hB2, HB3.out, HB4.out, HB4.out ▸ HB5.out⟩, HB.out.trans (HBL.out.mono (by omega))⟩
              case measure => simp [intOf]; omega
            · have HA := Lib.hid (show anyM (M.map (sideL q t)) = true by rw [← HMS.out]; exact hA)
              clear hA
              go_wp2_with (at_builtin; refine wpList_append_rd _ rfl _ _ 67 rfl (w.heap.size + 1) 59 i1 _ 2 32 Try.underlying67 hi1 hy0 hy1 hy2 rfl (by decide) _ _ _ rfl (hB2.alloc _) _ 1 1 _ rfl (rd_lit2 ?c0 rfl) ?c2 ?c3 ?c4 ?c5 ?_)
              case c0 => first | rfl | simp
              case c2 => simp [Value.oneCell']
              case c3 => simp only [maxLen]; omega
              case c4 => omega
              case c5 => simp; omega
              intro v3 w3 own3 gr3 hat3
              have hB2' := Lib.hid hB2
              clear hB2
              have HOWN3 := Lib.hid own3
              have HGR3 := Lib.hid gr3
              have HAT3 := Lib.hid hat3
              clear own3 gr3 hat3
              go_wp2_with fail
              go_roundw
              case rel =>
                have hG := HOM.out.below hb5
                have hltF := HO.out.lt
                obtain ⟨F2, hF2, hF3⟩ := ownB_snoc (b := Mb) HB1.out (hB2'.out.alloc _) (HB3.out.kin (kin_of_below [] ((Below.refl _ _).alloc (Nat.le_refl _) _)) (by simp)) (HB4.out ▸ HB5.out) ((hG.base_le (by omega)).below ((Below.refl _ _).alloc (Nat.le_refl _) _)) (fun p hp hm => by
                  have h1 := (hG.lt p hp).1
                  have h2 := (hltF p (by rw [HB4.out]; exact hm)).2
                  omega) HG1.out HOWN3.out HGR3.out (HAT3.out.imp id (fun h => h.trans (by simp)))
                refine ⟨t + 1, m + 1, F2, by omega, by go_num, by rw [measTo, measOne_t HA.out, ← HMb.out, ← HMS.out]; exact hF2, ?_⟩
                refine ((HB.out.trans (HBL.out.mono (by omega))).alloc (by omega) _).grown HGR3.out (by simp; omega) (fun p hp => (hltF p (by rw [HB4.out]; simp [hp])).1)
              case measure => simp [intOf]; omega
    · obtain rfl : t = 2 := by omega
      go_wp2_with fail
      go_ret
      exact ⟨m, _, F, rfl, hown.base_le (by omega), B0.out.trans (hbw.mono (by omega)), (by first | omega | (simp; done) | (simp; omega))⟩
end Go.Proofs.Ytbffpehajkgjeaa
