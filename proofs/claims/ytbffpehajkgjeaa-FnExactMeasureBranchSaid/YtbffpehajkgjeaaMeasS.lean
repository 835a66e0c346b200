/- Measuring a qubit of a branch, by the reference. -/
import Derived.Test.YtbffpehajkgjeaaSide
import Derived.Test.YtbffpehajkgjeaaIn
namespace Go.Proofs.Ytbffpehajkgjeaa
open Go.RowKit
set_option linter.unusedVariables false
/-- The bits behind a measurement. -/
def mbits (b : Int) (one : Nat) (bit : Int) : Int := wrap64 (b + wrap64 ((one : Int) * 2 ^ bit.toNat))
def anyM (M : List (List Dm)) : Bool := M.any nz
theorem anyM_take {M : List (List Dm)} {t : Nat} {r : List Dm} (h : M[t]? = some r) : anyM (M.take (t + 1)) = (anyM (M.take t) || nz r) := by
  rw [List.take_add_one, h]
  simp [anyM]
def measOne (b : Int) (M : List (List Dm)) (q bit : Int) (one : Nat) : List Br := if anyM (M.map (sideL q one)) = true then [⟨mbits b one bit, M.map (sideL q one)⟩] else []
def measTo (b : Int) (M : List (List Dm)) (q bit : Int) : Nat → List Br
  | 0 => []
  | t + 1 => measTo b M q bit t ++ measOne b M q bit t
theorem map_take1 {α β : Type} (f : α → β) {M : List α} {t : Nat} {r : α} (h : M[t]? = some r) : (M.map f).take (t + 1) = (M.map f).take t ++ [f r] := by
  rw [List.take_add_one, List.getElem?_map, h]
  rfl
theorem measOne_t {b : Int} {M : List (List Dm)} {q bit : Int} {one : Nat} (h : anyM (M.map (sideL q one)) = true) : measOne b M q bit one = [⟨mbits b one bit, M.map (sideL q one)⟩] := by rw [measOne, if_pos h]
theorem measOne_f {b : Int} {M : List (List Dm)} {q bit : Int} {one : Nat} (h : anyM (M.map (sideL q one)) = false) : measOne b M q bit one = [] := by rw [measOne, if_neg (by rw [h]; decide)]
theorem measTo_len (b : Int) (M : List (List Dm)) (q bit : Int) : ∀ t, (measTo b M q bit t).length ≤ t
  | 0 => Nat.le_refl _
  | t + 1 => by
    have := measTo_len b M q bit t
    have h1 : (measOne b M q bit t).length ≤ 1 := by unfold measOne; split <;> simp
    simp only [measTo, List.length_append]
    omega
/-- Behind a loop that makes a branch's states: nothing below X has turned. -/
theorem ownB_through {w w' : World} {base n : Nat} {v : Value} {L : List Br} {F : List Nat} (h : OwnB w base v n L F) {X : Nat} (hX : X = w.heap.size) (hb : Below X w w') : OwnB w' base v n L F := h.below (hX ▸ hb)
set_option maxRecDepth 100000 in
set_option maxHeartbeats 8000000 in
theorem MeasureBranch_spec_ok (b : Int) (A : Option Addr) (n c : Nat) (M : List (List Dm)) (q bit : Int) (w : World) (h : RdM w A n M) (hn : n ≤ 68719476736) (hs : szM M ≤ 1099511627776) (hq0 : 0 ≤ q) (hq : q ≤ 3) (hb0 : 0 ≤ bit) (hb : bit ≤ 2) :
    Calls Try.prog 51 #[.agg #[.int .i64 b, .slice A n c], .int .i64 q, .int .i64 bit] w (fun e w' => ∃ m, RetB w m (measTo b M q bit 2) e w') := by
  obtain ⟨i0, hi0, hz0, hz1, hz2⟩ := info_parts info_DOmegaSE
  obtain ⟨i1, hi1, hy0, hy1, hy2⟩ := info_parts info_BranchE
  have hin1 : inB bit 0 2 = true := inB_t hb0 hb
  have hin2 : inB q 0 3 = true := inB_t hq0 hq
  obtain ⟨w0, hw0⟩ : ∃ w0, w0 = (w.alloc (.cells #[.int .i64 b, .slice A n c] 59)).alloc (.cells #[] 59) := ⟨_, rfl⟩
  have X0 := Lib.hid (show w0.heap[w.heap.size]? = some (.cells #[.int .i64 b, .slice A n c] 59 (0, 0)) by rw [hw0]; exact boxed2_0 _ _ _)
  have O0 := Lib.hid (show OwnB w0 (w.heap.size + 1) (.slice (some ⟨w.heap.size + 1, 0, none⟩) 0 0) 0 [] [w.heap.size + 1] by
    rw [hw0]
    have := ownB_empty (w.alloc (.cells #[.int .i64 b, .slice A n c] 59))
    simpa using this)
  have b0 : Below w.heap.size w w0 := by rw [hw0]; exact (by repeat (first | exact Below.refl _ _ | assumption | (refine Below.trans ?_ (Below.mono (by assumption) (by first | omega | (simp; done) | (simp; omega)))) | (with_reducible refine Below.drew ?_) | (with_reducible refine Below.alloc ?_ (by first | omega | (simp; done) | (simp; omega)) _) | (with_reducible refine Below.setCell ?_ (by first | omega | (simp; done) | (simp; omega)) _)))
  have s0 : w.heap.size + 2 = w0.heap.size := by rw [hw0]; simp
  have HL := Lib.hid h.len
  have H := Lib.hid h
  have S0 := Lib.hid s0
  have B0 := Lib.hid b0
  have HW := Lib.hid hw0
  clear h s0 b0 hw0
  go_enter Try.func51, Try.ntmps51
  go_wp2_with (go_at_call 64; refine (l1In_any _ _ _ _).mono ?_; rintro e w' ⟨rfl, rfl⟩)
  rw [← HW.out]
  go_loopw [7, 8] (fun v i wr => ∃ (t m : Nat) (F : List Nat), t ≤ 2 ∧ i = .int .i64 t ∧ OwnB wr (w.heap.size + 1) v m (measTo b M q bit t) F ∧ Below (w.heap.size + 1) w0 wr) (fun _ i _ => 2 - (intOf i).toNat)
  case atStart => exact ⟨0, 0, _, by omega, rfl, O0.out, Below.refl _ _⟩
  case round =>
    obtain ⟨t, m, F, ht, rfl, hown, hbw⟩ := hrel
    have hbs := hbw.size
    have s0 := S0.out
    by_cases hlt : t < 2
    · have x0 := (hbw.block w.heap.size (by omega)).trans X0.out
      have p0 : wr.cell? ⟨w.heap.size, 0, none⟩ = some (.int .i64 b) := cell_at (j := 0) x0 rfl
      have p1 : wr.cell? ⟨w.heap.size, 1, none⟩ = some (.slice A n c) := cell_at (j := 1) x0 rfl
      have HO := Lib.hid hown
      have HB := Lib.hid hbw
      have HX0 := Lib.hid x0
      clear x0 hown hbw s0
      obtain ⟨wo, rfl⟩ : ∃ wo : World, wo = wr := ⟨_, rfl⟩
      have hd : decide ((t : Int) < 2) = true := by simp; omega
      go_upto_region 8 with (fail)
      obtain ⟨wx, hwx⟩ : ∃ wx, wx = wo.alloc (.cells #[.int .i64 (mbits b t bit), .slice none 0 0] 59) := ⟨_, rfl⟩
      unfold mbits at hwx
      rw [← hwx]
      have XX := Lib.hid (show wx.heap[wo.heap.size]? = some (.cells #[.int .i64 (mbits b t bit), .slice none 0 0] 59 (0, 0)) by rw [hwx]; exact boxed1_0 _ _)
      have bx : Below wo.heap.size wo wx := by rw [hwx]; exact (by repeat (first | exact Below.refl _ _ | assumption | (refine Below.trans ?_ (Below.mono (by assumption) (by first | omega | (simp; done) | (simp; omega)))) | (with_reducible refine Below.drew ?_) | (with_reducible refine Below.alloc ?_ (by first | omega | (simp; done) | (simp; omega)) _) | (with_reducible refine Below.setCell ?_ (by first | omega | (simp; done) | (simp; omega)) _)))
      have sx : wo.heap.size + 1 = wx.heap.size := by rw [hwx]; simp
      have BX := Lib.hid bx
      have SX := Lib.hid sx
      clear hwx bx sx
      obtain ⟨Mb, hMb⟩ : ∃ Mb, Mb = mbits b t bit := ⟨_, rfl⟩
      have HMb := Lib.hid hMb
      rw [← hMb] at XX
      clear hMb
      obtain ⟨MS, hMS⟩ : ∃ MS, MS = M.map (sideL q t) := ⟨_, rfl⟩
      have HMS := Lib.hid hMS
      clear hMS
      go_wp2_with fail
      go_loopw [10, 11] (fun s i wi => ∃ (k : Nat) (Ak : Option Addr) (ck : Nat) (G : List Nat), k ≤ n ∧ i = .int .i64 k ∧ s = .bool (anyM (MS.take k)) ∧ wi.heap[wo.heap.size]? = some (.cells #[.int .i64 Mb, .slice Ak k ck] 59 (0, 0)) ∧ OwnM wi (wo.heap.size + 1) (.slice Ak k ck) k (MS.take k) G ∧ Below wo.heap.size wo wi) (fun _ i _ => n - (intOf i).toNat)
      case atStart => exact ⟨0, none, 0, [], Nat.zero_le _, rfl, rfl, XX.out, by simpa using ownM_nil _ _, BX.out⟩
      case round =>
        obtain ⟨k, Ak, ck, G, hk, rfl, rfl, hx1, hom, hbi⟩ := hrel
        have hbsi := hbi.size
        have s0 := S0.out
        have hX0 : w.heap.size < wo.heap.size := by omega
        have hlX : wo.heap.size < wr.heap.size := lt_of_block hx1
        have x0 := (hbi.block w.heap.size hX0).trans HX0.out
        have q0 : wr.cell? ⟨w.heap.size, 0, none⟩ = some (.int .i64 b) := cell_at (j := 0) x0 rfl
        have q1 : wr.cell? ⟨w.heap.size, 1, none⟩ = some (.slice A n c) := cell_at (j := 1) x0 rfl
        have r0 : wr.cell? ⟨wo.heap.size, 0, none⟩ = some (.int .i64 Mb) := cell_at (j := 0) hx1 rfl
        have r1 : wr.cell? ⟨wo.heap.size, 1, none⟩ = some (.slice Ak k ck) := cell_at (j := 1) hx1 rfl
        have fr1 : wr.frozen? ⟨wo.heap.size, 1, none⟩ = false := by simp [World.frozen?, hx1]
        have HX1 := Lib.hid hx1
        obtain ⟨Z, hZ⟩ : ∃ Z, Z = anyM (MS.take k) := ⟨_, rfl⟩
        rw [← hZ]
        have HZ := Lib.hid hZ
        have hbW := Lib.hid ((B0.out.trans (HB.out.mono (by omega))).trans (hbi.mono (by omega)))
        have HBI := Lib.hid hbi
        clear x0 hx1 hZ s0
        by_cases hlk : k < n
        · have hkl : k < M.length := by rw [HL.out]; exact hlk
          obtain ⟨r, hr⟩ : ∃ r, M[k]? = some r := ⟨_, List.getElem?_eq_getElem hkl⟩
          obtain ⟨bb, off, a, c1, rfl, hbl, z0, _, _, hrd⟩ := (H.out.below hbW.out).at hr
          have hrl := szM_row hr
          rw [← sideL_len q t r] at z0 hrd hrl
          have HRD := Lib.hid hrd
          have HT := Lib.hid (show MS.take (k + 1) = MS.take k ++ [sideL q t r] by rw [HMS.out]; exact map_take1 _ hr)
          have HAN := Lib.hid (show anyM (MS.take (k + 1)) = (anyM (MS.take k) || nz (sideL q t r)) from anyM_take (by rw [HMS.out, List.getElem?_map, hr]; rfl))
          obtain ⟨SS, hM1, hM2, hF, hN, hrows⟩ := hom
          subst hF
          have HM1 := Lib.hid hM1
          have HM2 := Lib.hid hM2
          have HN := Lib.hid hN
          have HROW := Lib.hid hrows
          clear hr hkl hrd hM1 hM2 hN hrows hbi
          go_wp2_with fail
          refine (l23Side_any _ _ _ r q t _ HRD.out (sideL_len q t r).symm (by omega) hq0 hq).mono ?_
          rintro e w2 ⟨a2, c2, rfl, own2, hb2, hs2⟩
          have hk1 := (hb2.cell (p := ⟨wo.heap.size, 1, none⟩) hlX).trans r1
          have hf1 := (hb2.frozen (p := ⟨wo.heap.size, 1, none⟩) hlX).trans fr1
          have hX2 : wo.heap.size < w2.heap.size := by omega
          have om2 := ownsRow_below HM2.out hb2
          obtain ⟨Y, hY⟩ : ∃ Y, Y = nz (sideL q t r) := ⟨_, rfl⟩
          rw [← hY]
          have HY := Lib.hid hY
          clear hY z0 q0 q1 r0 r1 fr1 hbl
          go_wp2_with (at_builtin; refine wpList_append_rd _ rfl _ _ 57 rfl (wo.heap.size + 1) 106 i0 _ 1 24 Try.underlying57 hi0 hz0 hz1 hz2 rfl (by decide) _ _ _ rfl (om2.alloc _) _ 1 1 _ rfl (rd_lit2 ?c0 rfl) ?c2 ?c3 ?c4 ?c5 ?_)
          case c0 => first | rfl | simp
          case c2 => simp [Value.oneCell']
          case c3 => simp only [maxLen]; omega
          case c4 => omega
          case c5 => simp; omega
          intro v3 w3 own3 gr3 hat3
          obtain ⟨A3, c3, rfl, _, _, _⟩ := rd_of_own own3
          obtain ⟨k3, f3⟩ := held_append gr3 (own_ge om2) (Nat.lt_succ_self _) hk1 hf1 hX2
          have HSTEP := Lib.hid (states_step (B := wo.heap.size) (Nat.lt_succ_self _) (Nat.le_refl _) (by omega) HX1.out HM1.out HM2.out HN.out HROW.out HBI.out own2 hb2 own3 gr3 (hat3.imp id (fun h => h.trans (by simp))))
          rw [← HT.out] at HSTEP
          clear own2 om2 own3 gr3 hat3 hk1 hf1
          cases Z
          · go_wp2_with fail
            go_roundw
            case rel =>
              obtain ⟨hx', ⟨F', hF'⟩, hb'⟩ := HSTEP.out
              first | exact ⟨k + 1, A3, c3, F', by omega, by go_num, by rw [HAN.out, ← HZ.out, ← HY.out]; rfl, hx', hF', hb'⟩ | ((repeat apply Exists.intro); exact ⟨⟨k + 1, A3, c3, F', by omega, by go_num, by rw [HAN.out, ← HZ.out, ← HY.out]; rfl, hx', hF', hb'⟩, rfl⟩)
            case measure => simp [intOf]; omega
          · go_wp2_with fail
            go_roundw
            case rel =>
              obtain ⟨hx', ⟨F', hF'⟩, hb'⟩ := HSTEP.out
              first | exact ⟨k + 1, A3, c3, F', by omega, by go_num, by rw [HAN.out, ← HZ.out, ← HY.out]; rfl, hx', hF', hb'⟩ | ((repeat apply Exists.intro); exact ⟨⟨k + 1, A3, c3, F', by omega, by go_num, by rw [HAN.out, ← HZ.out, ← HY.out]; rfl, hx', hF', hb'⟩, rfl⟩)
            case measure => simp [intOf]; omega
        · obtain rfl : k = n := by omega
          have HA : Hid (Z = anyM (M.map (sideL q t))) := by
            have h := HZ.out
            rw [HMS.out, List.take_of_length_le (by rw [List.length_map, HL.out]; exact Nat.le_refl _)] at h
            exact h
          have HOM : Hid (∃ G, OwnM wr (wo.heap.size + 1) (.slice Ak k ck) k (M.map (sideL q t)) G) := by
            rw [HMS.out, List.take_of_length_le (by rw [List.length_map, HL.out]; exact Nat.le_refl _)] at hom
            exact ⟨_, hom⟩
          have hlen := measTo_len b M q bit t
          obtain ⟨S, F', hB1, hB2, hB3, hB4, hB5⟩ := HO.out.below hbi
          rw [hB1] at hlen
          have HB3 := Lib.hid hB3
          have HB5 := Lib.hid hB5
          have HB4 := Lib.hid hB4
          have HB1 := Lib.hid hB1
          clear hom hB3 hB4 hB5 hB1 hbi
          cases Z
          · go_wp2_with fail
            go_roundw
            case rel => exact ⟨t + 1, m, F, by omega, by go_num, by rw [measTo, measOne_f HA.out.symm, List.append_nil]; exact ⟨S, F', HB1.out, hB2, HB3.out, HB4.out, HB4.out ▸ HB5.out⟩, HB.out.trans (HBI.out.mono (by omega))⟩
            case measure => simp [intOf]; omega
          · go_wp2_with (at_builtin; refine wpList_append_rd _ rfl _ _ 67 rfl (w.heap.size + 1) 59 i1 _ 2 32 Try.underlying67 hi1 hy0 hy1 hy2 rfl (by decide) _ _ _ rfl (hB2.alloc _) _ 1 1 _ rfl (rd_lit2 ?c0 rfl) ?c2 ?c3 ?c4 ?c5 ?_)
            case c0 => first | rfl | simp
            case c2 => simp [Value.oneCell']
            case c3 => simp only [maxLen]; omega
            case c4 => omega
            case c5 => simp; omega
            intro v3 w3 own3 gr3 hat3
            have hB2' := Lib.hid hB2
            clear hB2
            have HOWN3 := Lib.hid own3
            have HGR3 := Lib.hid gr3
            have HAT3 := Lib.hid hat3
            clear own3 gr3 hat3
            go_wp2_with fail
            go_roundw
            case rel =>
              obtain ⟨G, hG⟩ := HOM.out
              have hltF := HO.out.lt
              have hGn : G.Nodup := by obtain ⟨_, _, _, _, hn, _⟩ := hG; exact hn
              obtain ⟨F2, hF2, hF3⟩ := ownB_snoc (b := Mb) HB1.out (hB2'.out.alloc _) (HB3.out.kin (kin_of_below [] ((Below.refl _ _).alloc (Nat.le_refl _) _)) (by simp)) (HB4.out ▸ HB5.out) ((hG.base_le (by omega)).below ((Below.refl _ _).alloc (Nat.le_refl _) _)) (fun p hp hm => by
                have h1 := (hG.lt p hp).1
                have h2 := (hltF p (by rw [HB4.out]; exact hm)).2
                omega) hGn HOWN3.out HGR3.out (HAT3.out.imp id (fun h => h.trans (by simp)))
              refine ⟨t + 1, m + 1, F2, by omega, by go_num, by rw [measTo, measOne_t HA.out.symm, ← HMb.out]; exact hF2, ?_⟩
              refine ((HB.out.trans (HBI.out.mono (by omega))).alloc (by omega) _).grown HGR3.out (by simp; omega) (fun p hp => (hltF p (by rw [HB4.out]; simp [hp])).1)
            case measure => simp [intOf]; omega
    · obtain rfl : t = 2 := by omega
      go_wp2_with fail
      go_ret
      exact ⟨m, _, F, rfl, hown.base_le (by omega), B0.out.trans (hbw.mono (by omega)), (by first | omega | (simp; done) | (simp; omega))⟩
end Go.Proofs.Ytbffpehajkgjeaa
