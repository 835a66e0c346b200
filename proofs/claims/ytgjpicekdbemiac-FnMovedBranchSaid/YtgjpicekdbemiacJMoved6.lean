/- What the calls that this law reaches answer, part 6 of 9. -/
import Derived.Test.YtgjpicekdbemiacJMoved4
import Derived.Test.YtgjpicekdbemiacJMoved1
import Derived.Test.YtgjpicekdbemiacJMoved5
import Derived.Test.YtgjpicekdbemiacJMoved2
import Derived.Test.YtgjpicekdbemiacJMoved3
namespace Go.Proofs.Ytgjpicekdbemiac
open Go.RowKit
set_option linter.unusedVariables false
/-- The bits behind a measurement. -/
def mbits (b : Int) (one : Nat) (bit : Int) : Int := wrap64 (b + wrap64 ((one : Int) * 2 ^ bit.toNat))
def anyM (M : List (List Dm)) : Bool := M.any nz
theorem anyM_take {M : List (List Dm)} {t : Nat} {r : List Dm} (h : M[t]? = some r) : anyM (M.take (t + 1)) = (anyM (M.take t) || nz r) := by
  rw [List.take_add_one, h]
  simp [anyM]
def measOne (b : Int) (M : List (List Dm)) (q bit : Int) (one : Nat) : List Br := if anyM (M.map (sideL q one)) = true then [⟨mbits b one bit, M.map (sideL q one)⟩] else []
def measTo (b : Int) (M : List (List Dm)) (q bit : Int) : Nat → List Br
  | 0 => []
  | t + 1 => measTo b M q bit t ++ measOne b M q bit t
theorem map_take1 {α β : Type} (f : α → β) {M : List α} {t : Nat} {r : α} (h : M[t]? = some r) : (M.map f).take (t + 1) = (M.map f).take t ++ [f r] := by
  rw [List.take_add_one, List.getElem?_map, h]
  rfl
theorem measOne_t {b : Int} {M : List (List Dm)} {q bit : Int} {one : Nat} (h : anyM (M.map (sideL q one)) = true) : measOne b M q bit one = [⟨mbits b one bit, M.map (sideL q one)⟩] := by rw [measOne, if_pos h]
theorem measOne_f {b : Int} {M : List (List Dm)} {q bit : Int} {one : Nat} (h : anyM (M.map (sideL q one)) = false) : measOne b M q bit one = [] := by rw [measOne, if_neg (by rw [h]; decide)]
theorem measTo_len (b : Int) (M : List (List Dm)) (q bit : Int) : ∀ t, (measTo b M q bit t).length ≤ t
  | 0 => Nat.le_refl _
  | t + 1 => by
    have := measTo_len b M q bit t
    have h1 : (measOne b M q bit t).length ≤ 1 := by unfold measOne; split <;> simp
    simp only [measTo, List.length_append]
    omega
set_option maxRecDepth 100000 in
set_option maxHeartbeats 8000000 in
theorem MeasureBranch_spec_ok (b : Int) (A : Option Addr) (n c : Nat) (M : List (List Dm)) (q bit : Int) (w : World) (h : RdM w A n M) (hn : n ≤ 68719476736) (hs : szM M ≤ 1099511627776) (hq0 : 0 ≤ q) (hq : q ≤ 3) (hb0 : 0 ≤ bit) (hb : bit ≤ 2) :
    Calls Try.prog 44 #[.agg #[.int .i64 b, .slice A n c], .int .i64 q, .int .i64 bit] w (fun e w' => ∃ m, RetB w m (measTo b M q bit 2) e w') := by
  obtain ⟨i0, hi0, hz0, hz1, hz2⟩ := info_parts info_DOmegaSE
  obtain ⟨i1, hi1, hy0, hy1, hy2⟩ := info_parts info_BranchE
  have hin1 : inB bit 0 2 = true := inB_t hb0 hb
  have hin2 : inB q 0 3 = true := inB_t hq0 hq
  obtain ⟨w0, hw0⟩ : ∃ w0, w0 = (w.alloc (.cells #[.int .i64 b, .slice A n c] 26)).alloc (.cells #[] 26) := ⟨_, rfl⟩
  have X0 := Lib.hid (show w0.heap[w.heap.size]? = some (.cells #[.int .i64 b, .slice A n c] 26 (0, 0)) by rw [hw0]; exact boxed2_0 _ _ _)
  have O0 := Lib.hid (show OwnB w0 (w.heap.size + 1) (.slice (some ⟨w.heap.size + 1, 0, none⟩) 0 0) 0 [] [w.heap.size + 1] by
    rw [hw0]
    have := ownB_empty (w.alloc (.cells #[.int .i64 b, .slice A n c] 26))
    simpa using this)
  have b0 : Below w.heap.size w w0 := by rw [hw0]; exact (by repeat (first | exact Below.refl _ _ | assumption | (refine Below.trans ?_ (Below.mono (by assumption) (by first | omega | (simp; done) | (simp; omega)))) | (with_reducible refine Below.drew ?_) | (with_reducible refine Below.alloc ?_ (by first | omega | (simp; done) | (simp; omega)) _) | (with_reducible refine Below.setCell ?_ (by first | omega | (simp; done) | (simp; omega)) _)))
  have s0 : w.heap.size + 2 = w0.heap.size := by rw [hw0]; simp
  have HL := Lib.hid h.len
  have H := Lib.hid h
  have S0 := Lib.hid s0
  have B0 := Lib.hid b0
  have HW := Lib.hid hw0
  clear h s0 b0 hw0
  go_enter Try.func44, Try.ntmps44
  go_wp2_with (go_at_call 29; refine (l1In_any _ _ _ _).mono ?_; rintro e w' ⟨rfl, rfl⟩)
  rw [← HW.out]
  go_loopw [7, 8] (fun v i wr => ∃ (t m : Nat) (F : List Nat), t ≤ 2 ∧ i = .int .i64 t ∧ OwnB wr (w.heap.size + 1) v m (measTo b M q bit t) F ∧ Below (w.heap.size + 1) w0 wr) (fun _ i _ => 2 - (intOf i).toNat)
  case atStart => exact ⟨0, 0, _, by omega, rfl, O0.out, Below.refl _ _⟩
  case round =>
    obtain ⟨t, m, F, ht, rfl, hown, hbw⟩ := hrel
    have hbs := hbw.size
    have s0 := S0.out
    by_cases hlt : t < 2
    · have x0 := (hbw.block w.heap.size (by omega)).trans X0.out
      have p0 : wr.cell? ⟨w.heap.size, 0, none⟩ = some (.int .i64 b) := cell_at (j := 0) x0 rfl
      have p1 : wr.cell? ⟨w.heap.size, 1, none⟩ = some (.slice A n c) := cell_at (j := 1) x0 rfl
      have HO := Lib.hid hown
      have HB := Lib.hid hbw
      have HX0 := Lib.hid x0
      clear x0 hown hbw s0
      obtain ⟨wo, rfl⟩ : ∃ wo : World, wo = wr := ⟨_, rfl⟩
      have hd : decide ((t : Int) < 2) = true := by simp; omega
      go_upto_region 8 with (fail)
      obtain ⟨wx, hwx⟩ : ∃ wx, wx = wo.alloc (.cells #[.int .i64 (mbits b t bit), .slice none 0 0] 26) := ⟨_, rfl⟩
      unfold mbits at hwx
      rw [← hwx]
      have XX := Lib.hid (show wx.heap[wo.heap.size]? = some (.cells #[.int .i64 (mbits b t bit), .slice none 0 0] 26 (0, 0)) by rw [hwx]; exact boxed1_0 _ _)
      have bx : Below wo.heap.size wo wx := by rw [hwx]; exact (by repeat (first | exact Below.refl _ _ | assumption | (refine Below.trans ?_ (Below.mono (by assumption) (by first | omega | (simp; done) | (simp; omega)))) | (with_reducible refine Below.drew ?_) | (with_reducible refine Below.alloc ?_ (by first | omega | (simp; done) | (simp; omega)) _) | (with_reducible refine Below.setCell ?_ (by first | omega | (simp; done) | (simp; omega)) _)))
      have sx : wo.heap.size + 1 = wx.heap.size := by rw [hwx]; simp
      have BX := Lib.hid bx
      have SX := Lib.hid sx
      clear hwx bx sx
      obtain ⟨Mb, hMb⟩ : ∃ Mb, Mb = mbits b t bit := ⟨_, rfl⟩
      have HMb := Lib.hid hMb
      rw [← hMb] at XX
      clear hMb
      obtain ⟨MS, hMS⟩ : ∃ MS, MS = M.map (sideL q t) := ⟨_, rfl⟩
      have HMS := Lib.hid hMS
      clear hMS
      go_wp2_with fail
      go_loopw [10, 11] (fun s i wi => ∃ (k : Nat) (Ak : Option Addr) (ck : Nat) (G : List Nat), k ≤ n ∧ i = .int .i64 k ∧ s = .bool (anyM (MS.take k)) ∧ wi.heap[wo.heap.size]? = some (.cells #[.int .i64 Mb, .slice Ak k ck] 26 (0, 0)) ∧ OwnM wi (wo.heap.size + 1) (.slice Ak k ck) k (MS.take k) G ∧ Below wo.heap.size wo wi) (fun _ i _ => n - (intOf i).toNat)
      case atStart => exact ⟨0, none, 0, [], Nat.zero_le _, rfl, rfl, XX.out, by simpa using ownM_nil _ _, BX.out⟩
      case round =>
        obtain ⟨k, Ak, ck, G, hk, rfl, rfl, hx1, hom, hbi⟩ := hrel
        have hbsi := hbi.size
        have s0 := S0.out
        have hX0 : w.heap.size < wo.heap.size := by omega
        have hlX : wo.heap.size < wr.heap.size := lt_of_block hx1
        have x0 := (hbi.block w.heap.size hX0).trans HX0.out
        have q0 : wr.cell? ⟨w.heap.size, 0, none⟩ = some (.int .i64 b) := cell_at (j := 0) x0 rfl
        have q1 : wr.cell? ⟨w.heap.size, 1, none⟩ = some (.slice A n c) := cell_at (j := 1) x0 rfl
        have r0 : wr.cell? ⟨wo.heap.size, 0, none⟩ = some (.int .i64 Mb) := cell_at (j := 0) hx1 rfl
        have r1 : wr.cell? ⟨wo.heap.size, 1, none⟩ = some (.slice Ak k ck) := cell_at (j := 1) hx1 rfl
        have fr1 : wr.frozen? ⟨wo.heap.size, 1, none⟩ = false := by simp [World.frozen?, hx1]
        have HX1 := Lib.hid hx1
        obtain ⟨Z, hZ⟩ : ∃ Z, Z = anyM (MS.take k) := ⟨_, rfl⟩
        rw [← hZ]
        have HZ := Lib.hid hZ
        have hbW := Lib.hid ((B0.out.trans (HB.out.mono (by omega))).trans (hbi.mono (by omega)))
        have HBI := Lib.hid hbi
        clear x0 hx1 hZ s0
        by_cases hlk : k < n
        · have hkl : k < M.length := by rw [HL.out]; exact hlk
          obtain ⟨r, hr⟩ : ∃ r, M[k]? = some r := ⟨_, List.getElem?_eq_getElem hkl⟩
          obtain ⟨bb, off, a, c1, rfl, hbl, z0, _, _, hrd⟩ := (H.out.below hbW.out).at hr
          have hrl := szM_row hr
          rw [← sideL_len q t r] at z0 hrd hrl
          have HRD := Lib.hid hrd
          have HT := Lib.hid (show MS.take (k + 1) = MS.take k ++ [sideL q t r] by rw [HMS.out]; exact map_take1 _ hr)
          have HAN := Lib.hid (show anyM (MS.take (k + 1)) = (anyM (MS.take k) || nz (sideL q t r)) from anyM_take (by rw [HMS.out, List.getElem?_map, hr]; rfl))
          obtain ⟨SS, hM1, hM2, hF, hN, hrows⟩ := hom
          subst hF
          have HM1 := Lib.hid hM1
          have HM2 := Lib.hid hM2
          have HN := Lib.hid hN
          have HROW := Lib.hid hrows
          clear hr hkl hrd hM1 hM2 hN hrows hbi
          go_wp2_with fail
          refine (l23Side_any _ _ _ r q t _ HRD.out (sideL_len q t r).symm (by omega) hq0 hq).mono ?_
          rintro e w2 ⟨a2, c2, rfl, own2, hb2, hs2⟩
          have hk1 := (hb2.cell (p := ⟨wo.heap.size, 1, none⟩) hlX).trans r1
          have hf1 := (hb2.frozen (p := ⟨wo.heap.size, 1, none⟩) hlX).trans fr1
          have hX2 : wo.heap.size < w2.heap.size := by omega
          have om2 := ownsRow_below HM2.out hb2
          obtain ⟨Y, hY⟩ : ∃ Y, Y = nz (sideL q t r) := ⟨_, rfl⟩
          rw [← hY]
          have HY := Lib.hid hY
          clear hY z0 q0 q1 r0 r1 fr1 hbl
          go_wp2_with (at_builtin; refine wpList_append_rd _ rfl _ _ 24 rfl (wo.heap.size + 1) 38 i0 _ 1 24 Try.underlying24 hi0 hz0 hz1 hz2 rfl (by decide) _ _ _ rfl (om2.alloc _) _ 1 1 _ rfl (rd_lit2 ?c0 rfl) ?c2 ?c3 ?c4 ?c5 ?_)
          case c0 => first | rfl | simp
          case c2 => simp [Value.oneCell']
          case c3 => simp only [maxLen]; omega
          case c4 => omega
          case c5 => simp; omega
          intro v3 w3 own3 gr3 hat3
          obtain ⟨A3, c3, rfl, _, _, _⟩ := rd_of_own own3
          obtain ⟨k3, f3⟩ := held_append gr3 (own_ge om2) (Nat.lt_succ_self _) hk1 hf1 hX2
          have HSTEP := Lib.hid (states_step (B := wo.heap.size) (Nat.lt_succ_self _) (Nat.le_refl _) (by omega) HX1.out HM1.out HM2.out HN.out HROW.out HBI.out own2 hb2 own3 gr3 (hat3.imp id (fun h => h.trans (by simp))))
          rw [← HT.out] at HSTEP
          clear own2 om2 own3 gr3 hat3 hk1 hf1
          cases Z
          · go_wp2_with fail
            go_roundw
            case rel =>
              obtain ⟨hx', ⟨F', hF'⟩, hb'⟩ := HSTEP.out
              first | exact ⟨k + 1, A3, c3, F', by omega, by go_num, by rw [HAN.out, ← HZ.out, ← HY.out]; rfl, hx', hF', hb'⟩ | ((repeat apply Exists.intro); exact ⟨⟨k + 1, A3, c3, F', by omega, by go_num, by rw [HAN.out, ← HZ.out, ← HY.out]; rfl, hx', hF', hb'⟩, rfl⟩)
            case measure => simp [intOf]; omega
          · go_wp2_with fail
            go_roundw
            case rel =>
              obtain ⟨hx', ⟨F', hF'⟩, hb'⟩ := HSTEP.out
              first | exact ⟨k + 1, A3, c3, F', by omega, by go_num, by rw [HAN.out, ← HZ.out, ← HY.out]; rfl, hx', hF', hb'⟩ | ((repeat apply Exists.intro); exact ⟨⟨k + 1, A3, c3, F', by omega, by go_num, by rw [HAN.out, ← HZ.out, ← HY.out]; rfl, hx', hF', hb'⟩, rfl⟩)
            case measure => simp [intOf]; omega
        · obtain rfl : k = n := by omega
          have HA : Hid (Z = anyM (M.map (sideL q t))) := by
            have h := HZ.out
            rw [HMS.out, List.take_of_length_le (by rw [List.length_map, HL.out]; exact Nat.le_refl _)] at h
            exact h
          have HOM : Hid (∃ G, OwnM wr (wo.heap.size + 1) (.slice Ak k ck) k (M.map (sideL q t)) G) := by
            rw [HMS.out, List.take_of_length_le (by rw [List.length_map, HL.out]; exact Nat.le_refl _)] at hom
            exact ⟨_, hom⟩
          have hlen := measTo_len b M q bit t
          obtain ⟨S, F', hB1, hB2, hB3, hB4, hB5⟩ := HO.out.below hbi
          rw [hB1] at hlen
          have HB3 := Lib.hid hB3
          have HB5 := Lib.hid hB5
          have HB4 := Lib.hid hB4
          have HB1 := Lib.hid hB1
          clear hom hB3 hB4 hB5 hB1 hbi
          cases Z
          · go_wp2_with fail
            go_roundw
            case rel => exact ⟨t + 1, m, F, by omega, by go_num, by rw [measTo, measOne_f HA.out.symm, List.append_nil]; exact ⟨S, F', HB1.out, hB2, HB3.out, HB4.out, HB4.out ▸ HB5.out⟩, HB.out.trans (HBI.out.mono (by omega))⟩
            case measure => simp [intOf]; omega
          · go_wp2_with (at_builtin; refine wpList_append_rd _ rfl _ _ 54 rfl (w.heap.size + 1) 26 i1 _ 2 32 Try.underlying54 hi1 hy0 hy1 hy2 rfl (by decide) _ _ _ rfl (hB2.alloc _) _ 1 1 _ rfl (rd_lit2 ?c0 rfl) ?c2 ?c3 ?c4 ?c5 ?_)
            case c0 => first | rfl | simp
            case c2 => simp [Value.oneCell']
            case c3 => simp only [maxLen]; omega
            case c4 => omega
            case c5 => simp; omega
            intro v3 w3 own3 gr3 hat3
            have hB2' := Lib.hid hB2
            clear hB2
            have HOWN3 := Lib.hid own3
            have HGR3 := Lib.hid gr3
            have HAT3 := Lib.hid hat3
            clear own3 gr3 hat3
            go_wp2_with fail
            go_roundw
            case rel =>
              obtain ⟨G, hG⟩ := HOM.out
              have hltF := HO.out.lt
              have hGn : G.Nodup := by obtain ⟨_, _, _, _, hn, _⟩ := hG; exact hn
              obtain ⟨F2, hF2, hF3⟩ := ownB_snoc (b := Mb) HB1.out (hB2'.out.alloc _) (HB3.out.kin (kin_of_below [] ((Below.refl _ _).alloc (Nat.le_refl _) _)) (by simp)) (HB4.out ▸ HB5.out) ((hG.base_le (by omega)).below ((Below.refl _ _).alloc (Nat.le_refl _) _)) (fun p hp hm => by
                have h1 := (hG.lt p hp).1
                have h2 := (hltF p (by rw [HB4.out]; exact hm)).2
                omega) hGn HOWN3.out HGR3.out (HAT3.out.imp id (fun h => h.trans (by simp)))
              refine ⟨t + 1, m + 1, F2, by omega, by go_num, by rw [measTo, measOne_t HA.out.symm, ← HMb.out]; exact hF2, ?_⟩
              refine ((HB.out.trans (HBI.out.mono (by omega))).alloc (by omega) _).grown HGR3.out (by simp; omega) (fun p hp => (hltF p (by rw [HB4.out]; simp [hp])).1)
            case measure => simp [intOf]; omega
    · obtain rfl : t = 2 := by omega
      go_wp2_with fail
      go_ret
      exact ⟨m, _, F, rfl, hown.base_le (by omega), B0.out.trans (hbw.mono (by omega)), (by first | omega | (simp; done) | (simp; omega))⟩
end Go.Proofs.Ytgjpicekdbemiac
namespace Go.Proofs.Ytgjpicekdbemiac
open Go.RowKit
set_option linter.unusedVariables false
attribute [local go_sem ↓ high] fold_append
set_option maxRecDepth 100000 in
set_option maxHeartbeats 8000000 in
theorem copyBranch_any (b : Int) (A : Option Addr) (n c : Nat) (M : List (List Dm)) (w : World) (h : RdM w A n M) (hn : n ≤ 68719476736) (hs : szM M ≤ 1099511627776) :
    Calls Try.prog 16 #[.agg #[.int .i64 b, .slice A n c]] w (RetBr w b n M) := by
  obtain ⟨i0, hi0, hz0, hz1, hz2⟩ := info_parts info_DOmegaSE
  obtain ⟨i1, hi1, hy0, hy1, hy2⟩ := info_parts info_DOmegaE
  obtain ⟨w0, hw0⟩ : ∃ w0, w0 = ((w.alloc (.cells #[.int .i64 b, .slice A n c] 26)).alloc (.cells #[.int .i64 0, .slice none 0 0] 26)).alloc (.cells #[.int .i64 b, .slice none 0 0] 26) := ⟨_, rfl⟩
  have X1 := Lib.hid (show w0.heap[w.heap.size + 1]? = some (.cells #[.int .i64 0, .slice none 0 0] 26 (0, 0)) by rw [hw0]; exact boxed3_1 _ _ _ _)
  have X2 := Lib.hid (show w0.heap[w.heap.size + 2]? = some (.cells #[.int .i64 b, .slice none 0 0] 26 (0, 0)) by rw [hw0]; exact boxed3_2 _ _ _ _)
  have b0 : Below w.heap.size w w0 := by rw [hw0]; exact (by repeat (first | exact Below.refl _ _ | assumption | (refine Below.trans ?_ (Below.mono (by assumption) (by first | omega | (simp; done) | (simp; omega)))) | (with_reducible refine Below.drew ?_) | (with_reducible refine Below.alloc ?_ (by first | omega | (simp; done) | (simp; omega)) _) | (with_reducible refine Below.setCell ?_ (by first | omega | (simp; done) | (simp; omega)) _)))
  have s0 : w.heap.size + 3 = w0.heap.size := by rw [hw0]; simp
  have S0 := Lib.hid s0
  have B0 := Lib.hid b0
  have HL := Lib.hid h.len
  have H := Lib.hid h
  have HW := Lib.hid hw0
  clear h b0 s0 hw0
  go_enter Try.func16, Try.ntmps16
  go_wp2_with fail
  rw [← HW.out]
  go_loopw [12] (fun i wr => ∃ (t : Nat) (Ak : Option Addr) (ck : Nat) (F : List Nat), t ≤ n ∧ i = .int .i64 t ∧ wr.heap[w.heap.size + 2]? = some (.cells #[.int .i64 b, .slice Ak t ck] 26 (0, 0)) ∧ OwnM wr (w.heap.size + 3) (.slice Ak t ck) t (M.take t) F ∧ Below (w.heap.size + 2) w0 wr) (fun i _ => n - (intOf i).toNat)
  case atStart => exact ⟨0, none, 0, [], Nat.zero_le _, rfl, X2.out, by simpa using ownM_nil _ _, Below.refl _ _⟩
  case round =>
    obtain ⟨t, Ak, ck, F, ht, rfl, hx2, hown, hb⟩ := hrel
    have hbs := hb.size
    have s0 := S0.out
    have p0 : wr.cell? ⟨w.heap.size + 2, 0, none⟩ = some (.int .i64 b) := cell_at (j := 0) hx2 rfl
    have p1 : wr.cell? ⟨w.heap.size + 2, 1, none⟩ = some (.slice Ak t ck) := cell_at (j := 1) hx2 rfl
    have hXl : w.heap.size + 2 < wr.heap.size := lt_of_block hx2
    have HX2 := Lib.hid hx2
    have hbW := Lib.hid (B0.out.trans (hb.mono (by omega)))
    have HBW := Lib.hid hb
    by_cases hlt : t < n
    · have f1 : wr.frozen? ⟨w.heap.size + 2, 1, none⟩ = false := by simp [World.frozen?, hx2]
      have htl : t < M.length := by rw [HL.out]; exact hlt
      obtain ⟨r, hr⟩ : ∃ r, M[t]? = some r := ⟨_, List.getElem?_eq_getElem htl⟩
      obtain ⟨bb, off, a, c1, rfl, hbl, z0, hc1, hc2, hrd⟩ := (H.out.below hbW.out).at hr
      have hrl := szM_row hr
      have HT := Lib.hid (show M.take (t + 1) = M.take t ++ [r] by rw [List.take_add_one, hr]; rfl)
      obtain ⟨SS, hM1, hM2, hF, hN, hrows⟩ := hown
      subst hF
      have hr2 : Rd (wr.alloc (.cells #[] 47)).drew 5 a r.length (r.flatMap dcells) := (hrd.below ((Below.refl _ _).alloc (Nat.le_refl _) _)).drew
      have hb1 : Below wr.heap.size wr (wr.alloc (.cells #[] 47)).drew := ((Below.refl _ _).alloc (Nat.le_refl _) _).drew
      obtain ⟨v1, w2, hrun1, hown1, hgr1, hat1⟩ := run_append_rd (P := Try.prog) (wr.alloc (.cells #[] 47)).drew wr.heap.size 38 38 47 i1 _ 5 40 Try.underlying38 hi1 hy0 hy1 hy2 rfl (by decide) (.slice (some ⟨wr.heap.size, 0, none⟩) 0 0) 0 [] (own_empty wr _ 5) a r.length c1 (r.flatMap dcells) hr2 (one_flat dcells_one r) (by simp only [maxLen]; omega) (by omega) (by simp [World.drew])
      rw [Nat.zero_add, List.nil_append] at hown1
      have hb3 : Below wr.heap.size wr w2 := hb1.grown hgr1 (by simp [World.drew]) (fun k hk => by simp [Value.ownBlock] at hk; omega)
      obtain ⟨a2, c2, rfl, _, _, _⟩ := rd_of_own hown1
      have om2 := ownsRow_below hM2 hb3
      obtain ⟨v3, w3, hrun3, hown3, hgrow3, hat3⟩ := run_append_rd (P := Try.prog) (w2.alloc (.cells #[.slice a2 r.length c2] 38)) (w.heap.size + 3) 24 24 38 i0 _ 1 24 Try.underlying24 hi0 hz0 hz1 hz2 rfl (by omega) (.slice Ak t ck) t SS (om2.alloc _) (some ⟨w2.heap.size, 0, none⟩) 1 1 [.slice a2 r.length c2] (rd_lit2 rfl rfl) (by simp [Value.oneCell']) (by simp only [maxLen]; omega) (by omega) (by have := hb3.size; simp; omega)
      obtain ⟨A3, c3, rfl, _, _, _⟩ := rd_of_own hown3
      have k2 := (hb3.cell (p := ⟨w.heap.size + 2, 1, none⟩) hXl).trans p1
      have fr2 := (hb3.frozen (p := ⟨w.heap.size + 2, 1, none⟩) hXl).trans f1
      have hX2 : w.heap.size + 2 < w2.heap.size := by have := hb3.size; omega
      obtain ⟨k3, fr3⟩ := held_append hgrow3 (own_ge om2) (Nat.lt_succ_self _) k2 fr2 hX2
      have HSTEP := Lib.hid (states_step (B := w.heap.size + 2) (Nat.lt_succ_self _) (Nat.le_refl _) (by omega) HX2.out hM1 hM2 hN hrows hb hown1 hb3 hown3 hgrow3 hat3)
      rw [← HT.out] at HSTEP
      rw [fold_append] at hrun1 hrun3
      clear hx2 hb hr htl hrd hr2 hb1 hown1 hgr1 hat1 hb3 om2 hown3 hgrow3 hat3 hM1 hM2 hN hrows hbl hrl hi0 hz0 hz1 hz2 hi1 hy0 hy1 hy2 s0
      go_wp2_with fail
      go_region
      all_goals
        go_wp2_with fail
        go_roundw
        case rel =>
          obtain ⟨hx', ⟨F', hF'⟩, hb'⟩ := HSTEP.out
          exact ⟨t + 1, A3, c3, F', by omega, by go_num, hx', hF', hb'⟩
        case measure => simp [intOf]; omega
    · obtain rfl : t = n := by omega
      have hx1 := (hb.block (w.heap.size + 1) (by omega)).trans X1.out
      have q0 : wr.cell? ⟨w.heap.size + 1, 0, none⟩ = some (.int .i64 0) := cell_at (j := 0) hx1 rfl
      have q1 : wr.cell? ⟨w.heap.size + 1, 1, none⟩ = some (.slice none 0 0) := cell_at (j := 1) hx1 rfl
      have f0 : wr.frozen? ⟨w.heap.size + 1, 0, none⟩ = false := by simp [World.frozen?, hx1]
      have f1 : wr.frozen? ⟨w.heap.size + 1, 1, none⟩ = false := by simp [World.frozen?, hx1]
      rw [List.take_of_length_le (by rw [HL.out]; exact Nat.le_refl _)] at hown
      have HO := Lib.hid hown
      clear hx2 hx1 hown s0 hb
      go_wp2_with fail
      refine bodyPost_ret (v := .agg #[.int .i64 b, .slice Ak t ck]) (by simp [results, Try.results16, go_sem, q0, q1]) rfl ⟨Ak, ck, F, rfl, ?_, ?_, ?_⟩
      · exact ((HO.out.base_le (by omega)).kin ((kin_setCell _ (w.heap.size + 1) _ _).trans (kin_setCell _ (w.heap.size + 1) _ _)) (fun k hk hm => by have := (HO.out.lt k hk).1; simp at hm; omega))
      · exact ((hbW.out).setCell (by first | omega | (simp; done) | (simp; omega)) _).setCell (by first | omega | (simp; done) | (simp; omega)) _
      · simp [World.setCell]; omega
end Go.Proofs.Ytgjpicekdbemiac
namespace Go.Proofs.Ytgjpicekdbemiac
open Go.RowKit
set_option linter.unusedVariables false
theorem own_some {w : World} {base E size n c : Nat} {a : Option Addr} {xs : List Value} (h : w.ownsRow base E size (.slice a n c) n xs) (hn : 0 < n) : ∃ g, a = some ⟨g, 0, none⟩ := by
  rcases h.2 with ⟨h1, h2⟩ | ⟨g, cap, cur, h1, _⟩
  · injection h1 with h3 h4 h5
    omega
  · injection h1 with h3 h4 h5
    exact ⟨g, h3⟩
theorem mix_at {α : Type} {S r : List α} {j : Nat} (hl : S.length = r.length) (hj : j < r.length) : (S.take j ++ r.drop j)[j]? = r[j]? := by
  have h1 : (S.take j).length = j := by rw [List.length_take]; omega
  rw [List.getElem?_append_right (by omega), h1, Nat.sub_self, List.getElem?_drop, Nat.add_zero]
theorem mix_set {α : Type} {S r : List α} {j : Nat} {y : α} (hl : S.length = r.length) (hy : S[j]? = some y) : (S.take j ++ r.drop j).set j y = S.take (j + 1) ++ r.drop (j + 1) := by
  have hj := (List.getElem?_eq_some_iff.1 hy).1
  have h1 : (S.take j).length = j := by rw [List.length_take]; omega
  rw [List.set_append_right _ _ (by omega), h1, Nat.sub_self, List.drop_eq_getElem_cons (by omega : j < r.length), List.set_cons_zero, List.take_add_one, hy]
  simp
theorem szM_side (q one : Int) (M : List (List Dm)) : szM (M.map (sideL q one)) = szM M := by
  unfold szM
  rw [List.map_map]
  congr 1
  exact List.map_congr_left fun r _ => sideL_len q one r
end Go.Proofs.Ytgjpicekdbemiac
namespace Go.Proofs.Ytgjpicekdbemiac
open Go.RowKit
set_option linter.unusedVariables false
def okM (q bit : Int) : Bool := inB bit 0 2 && inB q 0 3
def measL (b : Int) (M : List (List Dm)) (q bit : Int) : List Br := if okM q bit = true then measTo b M q bit 2 else []
theorem measL_t {b : Int} {M : List (List Dm)} {q bit : Int} (h : okM q bit = true) : measL b M q bit = measTo b M q bit 2 := by rw [measL, if_pos h]
theorem measL_f {b : Int} {M : List (List Dm)} {q bit : Int} (h : okM q bit = false) : measL b M q bit = [] := by rw [measL, if_neg (by rw [h]; decide)]
theorem retB_len {w w' : World} {m : Nat} {L : List Br} {e : Ending} (h : RetB w m L e w') : RetB w L.length L e w' := by
  obtain ⟨v, F, h1, h2, h3⟩ := h
  obtain ⟨S, F', h4, h5⟩ := h2
  subst h4
  exact ⟨v, F, h1, ⟨S, F', rfl, h5⟩, h3⟩
theorem szB_measTo (b : Int) (M : List (List Dm)) (q bit : Int) : ∀ t, szB (measTo b M q bit t) ≤ t * (M.length + szM M)
  | 0 => by simp [measTo, szB]
  | t + 1 => by
    have h := szB_measTo b M q bit t
    have h1 : szB (measOne b M q bit t) ≤ M.length + szM M := by
      unfold measOne
      split
      · simp [szB, szM_side]
      · simp [szB]
    have h2 : szB (measTo b M q bit (t + 1)) = szB (measTo b M q bit t) + szB (measOne b M q bit t) := by simp [measTo, szB]
    rw [h2, Nat.add_mul]
    omega
theorem measL_sz (b : Int) (M : List (List Dm)) (q bit : Int) : szB (measL b M q bit) ≤ 2 * (M.length + szM M) ∧ (measL b M q bit).length ≤ 2 := by
  cases h : okM q bit
  · rw [measL_f h]; simp [szB]
  · rw [measL_t h]
    exact ⟨szB_measTo b M q bit 2, measTo_len b M q bit 2⟩
set_option maxRecDepth 100000 in
set_option maxHeartbeats 2000000 in
theorem MeasureBranch_spec (b : Int) (A : Option Addr) (n c : Nat) (M : List (List Dm)) (q bit : Int) (w : World) (h : RdM w A n M) (hn : n ≤ 68719476736) (hs : szM M ≤ 1099511627776) :
    Calls Try.prog 44 #[.agg #[.int .i64 b, .slice A n c], .int .i64 q, .int .i64 bit] w (RetB w (measL b M q bit).length (measL b M q bit)) := by
  cases hk : okM q bit
  · rw [measL_f hk]
    clear h
    have hO : OwnB ((w.alloc (.cells #[.int .i64 b, .slice A n c] 26)).alloc (.cells #[] 26)) (w.heap.size + 1) (.slice (some ⟨w.heap.size + 1, 0, none⟩) 0 0) 0 [] [w.heap.size + 1] := by
      have := ownB_empty (w.alloc (.cells #[.int .i64 b, .slice A n c] 26))
      simpa using this
    have HO := Lib.hid hO
    clear hO
    cases h1 : inB bit 0 2
    · clear hk
      go_enter Try.func44, Try.ntmps44
      go_wp2_with (go_at_call 29; refine (l1In_any _ _ _ _).mono ?_; rintro e w' ⟨rfl, rfl⟩)
      go_ret
      exact ⟨_, _, rfl, HO.out.base_le (by omega), (by repeat (first | exact Below.refl _ _ | assumption | (refine Below.trans ?_ (Below.mono (by assumption) (by first | omega | (simp; done) | (simp; omega)))) | (with_reducible refine Below.drew ?_) | (with_reducible refine Below.alloc ?_ (by first | omega | (simp; done) | (simp; omega)) _) | (with_reducible refine Below.setCell ?_ (by first | omega | (simp; done) | (simp; omega)) _))), (by first | omega | (simp; done) | (simp; omega))⟩
    · have h2 : inB q 0 3 = false := by simpa [okM, h1] using hk
      clear hk
      go_enter Try.func44, Try.ntmps44
      go_wp2_with (go_at_call 29; refine (l1In_any _ _ _ _).mono ?_; rintro e w' ⟨rfl, rfl⟩)
      go_ret
      exact ⟨_, _, rfl, HO.out.base_le (by omega), (by repeat (first | exact Below.refl _ _ | assumption | (refine Below.trans ?_ (Below.mono (by assumption) (by first | omega | (simp; done) | (simp; omega)))) | (with_reducible refine Below.drew ?_) | (with_reducible refine Below.alloc ?_ (by first | omega | (simp; done) | (simp; omega)) _) | (with_reducible refine Below.setCell ?_ (by first | omega | (simp; done) | (simp; omega)) _))), (by first | omega | (simp; done) | (simp; omega))⟩
  · rw [measL_t hk]
    simp only [okM, Bool.and_eq_true] at hk
    have h1 := inB_iff.1 hk.1
    have h2 := inB_iff.1 hk.2
    exact (MeasureBranch_spec_ok b A n c M q bit w h hn hs h2.1 h2.2 h1.1 h1.2).mono fun e w' ⟨m, h⟩ => retB_len h
end Go.Proofs.Ytgjpicekdbemiac
namespace Go.Proofs.Ytgjpicekdbemiac
open Go.RowKit
set_option linter.unusedVariables false
/-- A branch's states: few, and short. -/
def Shp (M : List (List Dm)) : Prop := M.length ≤ 16 ∧ ∀ r ∈ M, r.length ≤ 16
theorem shp_of_map {M M' : List (List Dm)} (h : M'.map List.length = M.map List.length) (hs : Shp M) : Shp M' := by
  refine ⟨?_, fun r hr => ?_⟩
  · have := congrArg List.length h
    simp at this
    rw [this]; exact hs.1
  · have h1 : r.length ∈ M'.map List.length := List.mem_map.2 ⟨r, hr, rfl⟩
    rw [h] at h1
    obtain ⟨r0, h2, h3⟩ := List.mem_map.1 h1
    rw [← h3]; exact hs.2 r0 h2
theorem shp_sz {M : List (List Dm)} (h : Shp M) : szM M ≤ 256 := Nat.le_trans (szM_le_row h.2) (Nat.mul_le_mul_right 16 h.1)
theorem measTo_shp {b : Int} {M : List (List Dm)} {q bit : Int} (h : Shp M) : ∀ t, ∀ x ∈ measTo b M q bit t, Shp x.M
  | 0, x, hx => by simp [measTo] at hx
  | t + 1, x, hx => by
    rw [measTo] at hx
    rcases List.mem_append.1 hx with hx | hx
    · exact measTo_shp h t x hx
    · unfold measOne at hx
      split at hx
      · simp at hx
        subst hx
        refine shp_of_map ?_ h
        simp [sideL_len, Function.comp_def]
      · simp at hx
theorem measL_shp {b : Int} {M : List (List Dm)} {q bit : Int} (h : Shp M) : ∀ x ∈ measL b M q bit, Shp x.M := by
  unfold measL
  split
  · exact measTo_shp h 2
  · simp
theorem rows_ones {w : World} {base : Nat} : ∀ {L : List Br} {S : List Value} {F : List Nat}, RowsB w base L S F → ∀ u ∈ S, u.oneCell' = true
  | [], _, _, ⟨rfl, _⟩, u, hu => by simp at hu
  | x :: L, _, _, ⟨a, c, G, S', F', rfl, _, _, h⟩, u, hu => by
    rcases List.mem_cons.1 hu with rfl | hu
    · rfl
    · rcases List.mem_cons.1 hu with rfl | hu
      · rfl
      · exact rows_ones h u hu
/-- A list of branches and whether there is one: it reads whatever of C turns. -/
def RetS (C : Nat → Prop) (w : World) (n : Nat) (e : Ending) (w' : World) : Prop := ∃ (A : Option Addr) (n' c : Nat) (L : List Br) (ok : Bool), e = .returned (.tuple #[.slice A n' c, .bool ok]) ∧
  (ok = true → SB C w' A n' L ∧ n' ≤ 2 * n ∧ n' ≤ c ∧ c ≤ maxLen ∧ ∀ x ∈ L, Shp x.M) ∧ Below w.heap.size w w' ∧ w.heap.size ≤ w'.heap.size
theorem below_undrewS {B : Nat} {w w' : World} (h : Below B w.drew w') : Below B w w' := ⟨h.os, h.tape, h.output, h.size, h.block⟩
theorem set2 {w : World} {b : Nat} {x0 x1 : Value} {t : TypeId} (v0 v1 : Value) (h : w.heap[b]? = some (.cells #[x0, x1] t (0, 0))) :
    ((w.setCell ⟨b, 0, none⟩ v0).setCell ⟨b, 1, none⟩ v1).heap[b]? = some (.cells #[v0, v1] t (0, 0)) := by
  rw [heap_setCell_same _ _ _ _ _ _ (heap_setCell_same _ _ _ _ _ _ h)]
  rfl
theorem near_set2 {C : Nat → Prop} {r : Nat} {w1 : World} {v0 v1 : Value} (hr : C r) : Near C w1 ((w1.setCell ⟨r, 0, none⟩ v0).setCell ⟨r, 1, none⟩ v1) :=
  ⟨by simp [World.setCell], fun k _ hn => (Below.heap_setCell _ _ _ _ (fun e => hn (by rw [e]; exact hr))).trans (Below.heap_setCell _ _ _ _ (fun e => hn (by rw [e]; exact hr)))⟩
theorem RowsB_lt5 {w : World} {base : Nat} : ∀ {L : List Br} {S : List Value} {F : List Nat}, RowsB w base L S F → ∀ k ∈ F, base ≤ k ∧ k < w.heap.size
  | [], _, _, ⟨rfl, rfl⟩, k, hk => by simp at hk
  | x :: L, _, _, ⟨a, c, G, S', F', rfl, rfl, ho, h⟩, k, hk => by
    rcases List.mem_append.1 hk with hk | hk
    · exact ho.lt k hk
    · exact RowsB_lt5 h k hk
section
attribute [local go_sem ↓ high] fold_append
set_option maxRecDepth 100000 in
set_option maxHeartbeats 16000000 in
theorem l23Step_any (C : Nat → Prop) (A : Option Addr) (n c : Nat) (L : List Br) (o : Opt) (w : World) (h : SB C w A n L) (hC : ∀ k, C k → k < w.heap.size) (hn : n ≤ 1000) (hsh : ∀ x ∈ L, Shp x.M) (hc0 : 0 ≤ o.cond) (hc3 : o.cond ≤ 3) :
    Calls Try.prog 38 #[.slice A n c, .agg #[.int .i64 o.k, .int .i64 o.g.k, .int .i64 o.g.a, .int .i64 o.g.b, .int .i64 o.g.c, .int .i64 o.q, .int .i64 o.bit, .int .i64 o.cond]] w (RetS C w n) := by
  obtain ⟨i0, hi, hz0, hz1, hz2⟩ := info_parts info_BranchE
  obtain ⟨w0, hw0⟩ : ∃ w0, w0 = (w.alloc (.cells #[.int .i64 o.k, .int .i64 o.g.k, .int .i64 o.g.a, .int .i64 o.g.b, .int .i64 o.g.c, .int .i64 o.q, .int .i64 o.bit, .int .i64 o.cond] 74)).alloc (.cells #[] 26) := ⟨_, rfl⟩
  have y0 := Lib.hid (show w0.heap[w.heap.size]? = some (.cells #[.int .i64 o.k, .int .i64 o.g.k, .int .i64 o.g.a, .int .i64 o.g.b, .int .i64 o.g.c, .int .i64 o.q, .int .i64 o.bit, .int .i64 o.cond] 74 (0, 0)) by rw [hw0]; exact boxed2_0 _ _ _)
  have O0 : OutB C w0 (w.heap.size + 1) (.slice (some ⟨w.heap.size + 1, 0, none⟩) 0 0) 0 [] := by
    rw [hw0]
    refine ⟨[], rfl, ?_, RowS.nil _ _⟩
    have := own_empty (w.alloc (.cells #[.int .i64 o.k, .int .i64 o.g.k, .int .i64 o.g.a, .int .i64 o.g.b, .int .i64 o.g.c, .int .i64 o.q, .int .i64 o.bit, .int .i64 o.cond] 74)) 26 2
    simpa using this
  have b0 : Below w.heap.size w w0 := by rw [hw0]; exact (by repeat (first | exact Below.refl _ _ | assumption | (refine Below.trans ?_ (Below.mono (by assumption) (by first | omega | (simp; done) | (simp; omega)))) | (with_reducible refine Below.drew ?_) | (with_reducible refine Below.alloc ?_ (by first | omega | (simp; done) | (simp; omega)) _) | (with_reducible refine Below.setCell ?_ (by first | omega | (simp; done) | (simp; omega)) _)))
  have s0 : w.heap.size + 2 = w0.heap.size := by rw [hw0]; simp
  have H := Lib.hid h
  have HL := Lib.hid h.len
  have HC := Lib.hid hC
  have HSH := Lib.hid hsh
  have HW := Lib.hid hw0
  clear h hw0 hC hsh
  go_enter Try.func38, Try.ntmps38
  go_wp2_with fail
  rw [← HW.out]
  go_loopw [6, 7] (fun v i wr => ∃ (t m : Nat) (L2 : List Br), i = .int .i64 t ∧ t ≤ n ∧ m ≤ 2 * t ∧ OutB C wr (w.heap.size + 1) v m L2 ∧ (∀ x ∈ L2, Shp x.M) ∧ Below (w.heap.size + 1) w0 wr) (fun _ i _ => n - (intOf i).toNat)
  case atStart => exact ⟨0, 0, [], rfl, Nat.zero_le _, Nat.le_refl _, O0, by simp, Below.refl _ _⟩
  case round =>
    obtain ⟨t, m, L2, rfl, ht, hm, ⟨S2, h1, h2, h3⟩, hs2, hb⟩ := hrel
    obtain ⟨A2, c2, rfl, hc2, hc2', _⟩ := rd_of_own h2
    have hbs := hb.size
    have bw : Below w.heap.size w wr := b0.trans (hb.mono (by omega))
    have hsw := bw.size
    have hown : ∀ k, (Value.slice A2 m c2).ownBlock = some k → w.heap.size < k ∧ k < wr.heap.size := fun k hk => by have := h2.lt k hk; omega
    by_cases hlt : t < n
    · obtain ⟨x, hx⟩ : ∃ x, L[t]? = some x := ⟨_, List.getElem?_eq_getElem (by rw [HL.out]; exact hlt)⟩
      obtain ⟨bb, off, ax, cx, rfl, hbl0, kl0', kl1', hxc, hxm, hsm⟩ := H.out.at hx
      have HSX := Lib.hid (HSH.out x (List.mem_of_getElem? hx))
      have hbl : bb < wr.heap.size := by omega
      have kl0 : wr.cell? ⟨bb, off + t * 2, none⟩ = some (.int .i64 x.b) := (bw.cell (p := ⟨bb, off + t * 2, none⟩) hbl0).trans kl0'
      have kl1 : wr.cell? ⟨bb, off + t * 2 + 1, none⟩ = some (.slice ax x.M.length cx) := (bw.cell (p := ⟨bb, off + t * 2 + 1, none⟩) hbl0).trans kl1'
      have hy := (hb.block _ (by omega)).trans y0.out
      have hol : w.heap.size < wr.heap.size := by omega
      have ko0 := cell_at (j := 0) hy rfl
      have ko1 := cell_at (j := 1) hy rfl
      have ko2 := cell_at (j := 2) hy rfl
      have ko3 := cell_at (j := 3) hy rfl
      have ko4 := cell_at (j := 4) hy rfl
      have ko5 := cell_at (j := 5) hy rfl
      have ko6 := cell_at (j := 6) hy rfl
      have ko7 := cell_at (j := 7) hy rfl
      -- the branch reads, whatever of C and of the row that is built turns
      have HS1 := Lib.hid (fun (W : World) (hW : Below w.heap.size w W) => hsm.more (D := fun k => C k ∨ (Value.slice A2 m c2).ownBlock = some k) (near_below (C := C) hW) (fun i hi hd => by
        rcases hd with hd | hd
        · exact hd
        · have := (hown i hd).1; omega))
      have H1 := Lib.hid h1
      have H2 := Lib.hid h2
      have H3 := Lib.hid h3
      have HS2 := Lib.hid hs2
      have HB := Lib.hid hb
      have HOWN := Lib.hid hown
      clear h1 h2 h3 hs2 hb kl0' kl1' hx hy
      have APP2 : Hid (∀ (W0 W : World) (v' : Value) (S5 : List Value) (F6 : List Nat), Below wr.heap.size wr W0 → RowsB W0 wr.drew.heap.size (measL x.b x.M o.q o.bit) S5 F6 → (∀ k ∈ F6, wr.drew.heap.size ≤ k) →
          W.ownsRow (w.heap.size + 1) 26 2 v' (m + (measL x.b x.M o.q o.bit).length) (S2 ++ S5) → W0.grownBy W (Value.slice A2 m c2).ownBlock → (v'.ownBlock = (Value.slice A2 m c2).ownBlock ∨ v'.ownBlock = some W0.heap.size) →
          ∃ L3, OutB C W (w.heap.size + 1) v' (m + (measL x.b x.M o.q o.bit).length) L3 ∧ (∀ x ∈ L3, Shp x.M) ∧ Below (w.heap.size + 1) w0 W) := by
        intro W0 W v' S5 F6 hW hr hF ho hg hat
        have hF' : ∀ k ∈ F6, ¬ (C k ∨ (Value.slice A2 m c2).ownBlock = some k) := fun k hk hd => by
          have h5 : wr.heap.size ≤ k := hF k hk
          rcases hd with hd | hd
          · have := HC.out k hd; omega
          · have := (HOWN.out k hd).2; omega
        refine ⟨L2 ++ measL x.b x.M o.q o.bit, outB_app H1.out (H3.out.more (near_below hW) (fun _ _ h => h)) (rowsB_s hr hF') rfl ho hg hat, fun y hy => ?_, ?_⟩
        · rcases List.mem_append.1 hy with hy | hy
          · exact HS2.out y hy
          · exact measL_shp HSX.out y hy
        · have h5 : Below (w.heap.size + 1) w0 W0 := HB.out.trans (hW.mono (by omega))
          exact h5.grown hg (by have := h5.size; omega) (fun k hk => by have := (HOWN.out k hk).1; omega)
      have KX : Hid (∀ W : World, Below (w.heap.size + 1) wr W → ((W.cell? ⟨bb, off + t * 2, none⟩ = some (.int .i64 x.b) ∧ W.cell? ⟨bb, off + t * 2 + 1, none⟩ = some (.slice ax x.M.length cx)) ∧ (W.cell? ⟨w.heap.size, 0, none⟩ = some (.int .i64 o.k) ∧ W.cell? ⟨w.heap.size, 1, none⟩ = some (.int .i64 o.g.k) ∧ W.cell? ⟨w.heap.size, 2, none⟩ = some (.int .i64 o.g.a) ∧ W.cell? ⟨w.heap.size, 3, none⟩ = some (.int .i64 o.g.b) ∧ W.cell? ⟨w.heap.size, 4, none⟩ = some (.int .i64 o.g.c) ∧ W.cell? ⟨w.heap.size, 5, none⟩ = some (.int .i64 o.q) ∧ W.cell? ⟨w.heap.size, 6, none⟩ = some (.int .i64 o.bit) ∧ W.cell? ⟨w.heap.size, 7, none⟩ = some (.int .i64 o.cond)))) := fun W hW => ⟨⟨(hW.cell (p := ⟨bb, off + t * 2, none⟩) (Nat.lt_succ_of_lt hbl0)).trans kl0, (hW.cell (p := ⟨bb, off + t * 2 + 1, none⟩) (Nat.lt_succ_of_lt hbl0)).trans kl1⟩, ⟨(hW.cell (p := ⟨w.heap.size, 0, none⟩) (Nat.lt_succ_self _)).trans ko0, (hW.cell (p := ⟨w.heap.size, 1, none⟩) (Nat.lt_succ_self _)).trans ko1, (hW.cell (p := ⟨w.heap.size, 2, none⟩) (Nat.lt_succ_self _)).trans ko2, (hW.cell (p := ⟨w.heap.size, 3, none⟩) (Nat.lt_succ_self _)).trans ko3, (hW.cell (p := ⟨w.heap.size, 4, none⟩) (Nat.lt_succ_self _)).trans ko4, (hW.cell (p := ⟨w.heap.size, 5, none⟩) (Nat.lt_succ_self _)).trans ko5, (hW.cell (p := ⟨w.heap.size, 6, none⟩) (Nat.lt_succ_self _)).trans ko6, (hW.cell (p := ⟨w.heap.size, 7, none⟩) (Nat.lt_succ_self _)).trans ko7⟩⟩
      have K0 := Lib.hid (show Below (w.heap.size + 1) wr wr from Below.refl _ _)
      have KD := Lib.hid (show Below (w.heap.size + 1) wr wr.drew from (Below.refl _ _).drew)
      have KA := Lib.hid (fun ob : Obj => (show Below (w.heap.size + 1) wr (wr.drew.alloc ob) from (Below.refl _ _).drew.alloc (by simp; omega) _))
      have KB := Lib.hid (fun ob : Obj => (show Below (w.heap.size + 1) wr (wr.alloc ob).drew from ((Below.refl _ _).alloc (by omega) _).drew))
      -- behind 'append' of one branch
      have APP1 : Hid (∀ (W0 W : World) (v' : Value) (b' : Int) (a' : Option Addr) (n' c' : Nat) (M' : List (List Dm)), Below wr.heap.size wr W0 → SM (fun k => C k ∨ (Value.slice A2 m c2).ownBlock = some k) W0 a' n' M' → n' ≤ c' → c' ≤ maxLen → Shp M' →
          W.ownsRow (w.heap.size + 1) 26 2 v' (m + 1) (S2 ++ [.int .i64 b', .slice a' n' c']) → W0.grownBy W (Value.slice A2 m c2).ownBlock → (v'.ownBlock = (Value.slice A2 m c2).ownBlock ∨ v'.ownBlock = some W0.heap.size) →
          ∃ L3, OutB C W (w.heap.size + 1) v' (m + 1) L3 ∧ (∀ x ∈ L3, Shp x.M) ∧ Below (w.heap.size + 1) w0 W) := by
        intro W0 W v' b' a' n' c' M' hW hsm' hc1 hc2 hsh ho hg hat
        refine ⟨L2 ++ [⟨b', M'⟩], outB_app H1.out (H3.out.more (near_below hW) (fun _ _ h => h)) (RowS.one hsm' hc1 hc2) rfl ho hg hat, fun y hy => ?_, ?_⟩
        · rcases List.mem_append.1 hy with hy | hy
          · exact HS2.out y hy
          · simp at hy; subst hy; exact hsh
        · have h5 : Below (w.heap.size + 1) w0 W0 := HB.out.trans (hW.mono (by omega))
          exact h5.grown hg (by have := h5.size; omega) (fun k hk => by have := (HOWN.out k hk).1; omega)
      obtain h1 | h2 | ⟨h1, h2⟩ : o.k = 1 ∨ o.k = 2 ∨ (o.k ≠ 1 ∧ o.k ≠ 2) := by omega
      · have e1 : (o.k == 1) = true := by simpa using h1
        clear h1
        have hrow : ∀ r ∈ x.M, r.length ≤ 1000 := fun r hr => by have := HSX.out.2 r hr; omega
        have HG1 := Lib.hid (l23Gate_any (fun k => C k ∨ (Value.slice A2 m c2).ownBlock = some k) x.b ax x.M.length cx x.M o wr.drew (HS1.out wr bw).drew (fun k hk => by
          rcases hk with hk | hk
          · have := HC.out k hk; simp; omega
          · exact (HOWN.out k hk).2) hxc hxm (by have := HSX.out.1; omega) hrow hc0 hc3)
        have HG2 := Lib.hid (fun ob : Obj => l23Gate_any (fun k => (C k ∨ (Value.slice A2 m c2).ownBlock = some k) ∨ k = wr.heap.size) x.b ax x.M.length cx x.M o (wr.alloc ob).drew (hsm.more (near_below (C := C) (show Below w.heap.size w (wr.alloc ob).drew from (bw.alloc hsw _).drew)) (fun i hi hd => by
          rcases hd with (hd | hd) | hd
          · exact hd
          · have := (HOWN.out i hd).1; omega
          · omega)) (fun k hk => by
          rcases hk with (hk | hk) | hk
          · have := HC.out k hk; simp; omega
          · have := (HOWN.out k hk).2; simp; omega
          · simp; omega) hxc hxm (by have := HSX.out.1; omega) hrow hc0 hc3)
        go_upto_region 8 with (fail)
        go_cut [8, 9] (fun pv okv wc => ∃ (P1 : Nat) (b' : Int) (a' : Option Addr) (n' c' : Nat) (M' : List (List Dm)) (ok : Bool), pv = .pointer (some ⟨P1, 0, none⟩) ∧ okv = .bool ok ∧ wc.heap[P1]? = some (.cells #[.int .i64 b', .slice a' n' c'] 26 (0, 0)) ∧ Below wr.heap.size wr wc ∧
          (ok = true → SM (fun k => C k ∨ (Value.slice A2 m c2).ownBlock = some k) wc a' n' M' ∧ n' ≤ c' ∧ c' ≤ maxLen ∧ Shp M'))
        case first =>
          go_region_held3 (fun W => (W.cell? ⟨bb, off + t * 2, none⟩ = some (.int .i64 x.b) ∧ W.cell? ⟨bb, off + t * 2 + 1, none⟩ = some (.slice ax x.M.length cx)) ∧ (W.cell? ⟨w.heap.size, 0, none⟩ = some (.int .i64 o.k) ∧ W.cell? ⟨w.heap.size, 1, none⟩ = some (.int .i64 o.g.k) ∧ W.cell? ⟨w.heap.size, 2, none⟩ = some (.int .i64 o.g.a) ∧ W.cell? ⟨w.heap.size, 3, none⟩ = some (.int .i64 o.g.b) ∧ W.cell? ⟨w.heap.size, 4, none⟩ = some (.int .i64 o.g.c) ∧ W.cell? ⟨w.heap.size, 5, none⟩ = some (.int .i64 o.q) ∧ W.cell? ⟨w.heap.size, 6, none⟩ = some (.int .i64 o.bit) ∧ W.cell? ⟨w.heap.size, 7, none⟩ = some (.int .i64 o.cond))) ((refine KX.out _ ?_; first | with_reducible exact K0.out | with_reducible exact KD.out | with_reducible exact KA.out _ | with_reducible exact KB.out _ | with_reducible exact c1s | with_reducible exact c1s.alloc (Nat.le_trans c1b c1.size) _ | with_reducible exact (c1s.setCell c1b _).setCell c1b _ | with_reducible exact ((c1s.alloc (Nat.le_trans c1b c1.size) _).setCell (by simp; omega) _).setCell (by simp; omega) _))
            (first | (go_at_call 43; (with_reducible refine HG1.out.mono ?_); rintro e w2 ⟨b', a', n', c', M', ok, rfl, hok, hc, hcs⟩; have c1 : Below wr.heap.size wr w2 := below_undrewS hc; have c1b : w.heap.size + 1 ≤ wr.heap.size := (by omega); have c1s := c1.mono c1b) | (go_at_call 43; (with_reducible refine (HG2.out _).mono ?_); rintro e w2 ⟨b', a', n', c', M', ok, rfl, hok, hc, hcs⟩; have c1 : Below wr.heap.size wr w2 := ((Below.refl _ _).alloc (Nat.le_refl _) _).drew.trans (hc.mono (by simp)); have c1b : w.heap.size + 1 ≤ wr.heap.size := (by omega); have c1s := c1.mono c1b; have hbx : w2.heap[wr.heap.size]? = some (.cells #[.int .i64 0, .slice none 0 0] 26 (0, 0)) := (hc.block _ (by simp)).trans (heap_alloc_new wr _); have bf0 := free_b (j := 0) hbx; have bf1 := free_b (j := 1) hbx; have bk0 := cell_at (j := 0) hbx rfl; have bk1 := cell_at (j := 1) hbx rfl; have bl : wr.heap.size < w2.heap.size := lt_of_block hbx))
          all_goals (go_wp2_with (fail); go_meet; first | (refine ⟨w2.heap.size, b', a', n', c', M', ok, (by with_reducible rfl), (by with_reducible rfl), ?_, c1.alloc c1.size _, fun h => ?_⟩; (with_reducible exact heap_alloc_new _ _); obtain ⟨g1, g2, g3, g4⟩ := hok h; exact ⟨g1.below ((Below.refl _ _).alloc (Nat.le_refl _) _), g2, g3, shp_of_map g4 HSX.out⟩) | (refine ⟨wr.heap.size, b', a', n', c', M', ok, (by with_reducible rfl), (by with_reducible rfl), ?_, below_set2 c1 (Nat.le_refl _), fun h => ?_⟩; (with_reducible exact set2 _ _ hbx); obtain ⟨g1, g2, g3, g4⟩ := hok h; exact ⟨g1.more (near_set2 (.inr rfl)) (fun i _ hd => .inl hd), g2, g3, shp_of_map g4 HSX.out⟩))
        case rest =>
          obtain ⟨P1, b', a', n', c', M', ok, rfl, rfl, hP1, bc1, hok⟩ := hcut
          obtain ⟨wA, rfl⟩ : ∃ wA : World, wA = wc := ⟨_, rfl⟩
          have HOK := Lib.hid hok
          clear hok
          cases ok
          case false =>
            go_wp2_with fail
            exact bodyPost_ret (v := .tuple #[.slice (some ⟨wA.heap.size, 0, none⟩) 0 0, .bool false]) (by simp [results, Try.results38, go_sem]) rfl ⟨_, 0, 0, [], false, rfl, fun h => absurd h (by decide), (bw.trans (bc1.mono hsw)).alloc (Nat.le_trans hsw bc1.size) _, by have := bc1.size; simp; omega⟩
          case true =>
            obtain ⟨g1, g2, g3, g4⟩ := HOK.out rfl
            have kb0 := cell_at (j := 0) hP1 rfl
            have kb1 := cell_at (j := 1) hP1 rfl
            have sA := bc1.size
            obtain ⟨W0, hW0⟩ : ∃ W0, W0 = wA.alloc (.cells #[.int .i64 b', .slice a' n' c'] 26) := ⟨_, rfl⟩
            have bW0 : Below wr.heap.size wr W0 := by rw [hW0]; exact bc1.alloc bc1.size _
            have gW0 : SM (fun k => C k ∨ (Value.slice A2 m c2).ownBlock = some k) W0 a' n' M' := by rw [hW0]; exact g1.below ((Below.refl _ _).alloc (Nat.le_refl _) _)
            obtain ⟨v3, w3, hrun3, hown3, hgrow3, hat3⟩ := run_append_rd (P := Try.prog) (wA.alloc (.cells #[.int .i64 b', .slice a' n' c'] 26)) (w.heap.size + 1) 54 54 26 i0 _ 2 32 Try.underlying54 hi hz0 hz1 hz2 rfl (by omega) (.slice A2 m c2) m S2 ((ownsRow_below H2.out bc1).alloc _) (some ⟨wA.heap.size, 0, none⟩) 1 1 [.int .i64 b', .slice a' n' c'] (rd_lit2 rfl rfl) (by simp [Value.oneCell']) (by simp only [maxLen]; omega) (by omega) (by simp; omega)
            rw [← hW0] at hgrow3 hat3
            have ANS := Lib.hid (APP1.out W0 w3 v3 b' a' n' c' M' bW0 gW0 g2 g3 g4 hown3 hgrow3 hat3)
            rw [fold_append] at hrun3
            clear hW0 bW0 gW0 hown3 hgrow3 hat3 g1 g4 HG1 HG2
            go_wp2_with fail
            go_roundw
            case rel =>
              obtain ⟨L3, a1, a2, a3⟩ := ANS.out
              exact ⟨t + 1, m + 1, L3, by go_num, by omega, by omega, a1, a2, a3⟩
            case measure => simp [intOf]; omega
      · have e1 : (o.k == 1) = false := by rw [h2]; rfl
        have e2 : (o.k == 2) = true := by simpa using h2
        clear h2
        have hrm := (HS1.out wr bw).rd
        have HM5 := Lib.hid (MeasureBranch_spec x.b ax x.M.length cx x.M o.q o.bit wr.drew hrm.drew (by have := HSX.out.1; omega) (by have := shp_sz HSX.out; omega))
        have HLN := Lib.hid (measL_sz x.b x.M o.q o.bit).2
        go_upto_region 13 with (fail)
        go_region_held3 (fun W => (W.cell? ⟨bb, off + t * 2, none⟩ = some (.int .i64 x.b) ∧ W.cell? ⟨bb, off + t * 2 + 1, none⟩ = some (.slice ax x.M.length cx)) ∧ (W.cell? ⟨w.heap.size, 0, none⟩ = some (.int .i64 o.k) ∧ W.cell? ⟨w.heap.size, 1, none⟩ = some (.int .i64 o.g.k) ∧ W.cell? ⟨w.heap.size, 2, none⟩ = some (.int .i64 o.g.a) ∧ W.cell? ⟨w.heap.size, 3, none⟩ = some (.int .i64 o.g.b) ∧ W.cell? ⟨w.heap.size, 4, none⟩ = some (.int .i64 o.g.c) ∧ W.cell? ⟨w.heap.size, 5, none⟩ = some (.int .i64 o.q) ∧ W.cell? ⟨w.heap.size, 6, none⟩ = some (.int .i64 o.bit) ∧ W.cell? ⟨w.heap.size, 7, none⟩ = some (.int .i64 o.cond))) ((refine KX.out _ ?_; first | with_reducible exact K0.out | with_reducible exact KD.out | with_reducible exact c1s | with_reducible exact c3s))
          (first | (go_at_call 44; (with_reducible refine HM5.out.mono ?_); rintro e w2 ⟨v5, F5, rfl, ⟨S5, F6, hl5, ho5, hr5, hf5, hn5⟩, hc, hcs⟩; have c1 : Below wr.heap.size wr w2 := below_undrewS hc; have c1b : w.heap.size + 1 ≤ wr.heap.size := (by omega); have c1s := c1.mono c1b; obtain ⟨A5, c5, rfl, _, _, hrd5⟩ := rd_of_own ho5; have hlt5 := RowsB_lt5 hr5; obtain ⟨v3, w3, hrun3, hown3, hgrow3, hat3⟩ := run_append_rd (P := Try.prog) w2 (w.heap.size + 1) 54 54 26 i0 _ 2 32 Try.underlying54 hi hz0 hz1 hz2 rfl (by omega) (.slice A2 m c2) m S2 (ownsRow_below H2.out c1) A5 (measL x.b x.M o.q o.bit).length c5 S5 hrd5 (rows_ones hr5) (by have := HLN.out; simp only [maxLen]; omega) (by have := HLN.out; omega) (by have := c1.size; omega); have c3s : Below (w.heap.size + 1) wr w3 := c1s.grown hgrow3 (by have := c1.size; omega) (fun k hk => by have := (HOWN.out k hk).1; omega); have ANS := Lib.hid (APP2.out w2 w3 v3 S5 F6 c1 hr5 (fun k hk => (hlt5 k hk).1) hown3 hgrow3 hat3); rw [fold_append] at hrun3))
        go_wp2_with fail
        go_roundw
        case rel =>
          obtain ⟨L3, a1, a2, a3⟩ := ANS.out
          exact ⟨t + 1, _, L3, by go_num, by omega, by have := HLN.out; omega, a1, a2, a3⟩
        case measure => simp [intOf]; omega
      · have e1 : (o.k == 1) = false := by simpa using h1
        have e2 : (o.k == 2) = false := by simpa using h2
        obtain ⟨W0, hW0⟩ : ∃ W0, W0 = wr.alloc (.cells #[.int .i64 x.b, .slice ax x.M.length cx] 26) := ⟨_, rfl⟩
        have bW0 : Below wr.heap.size wr W0 := by rw [hW0]; exact (by repeat (first | exact Below.refl _ _ | assumption | (refine Below.trans ?_ (Below.mono (by assumption) (by first | omega | (simp; done) | (simp; omega)))) | (with_reducible refine Below.drew ?_) | (with_reducible refine Below.alloc ?_ (by first | omega | (simp; done) | (simp; omega)) _) | (with_reducible refine Below.setCell ?_ (by first | omega | (simp; done) | (simp; omega)) _)))
        obtain ⟨v3, w3, hrun3, hown3, hgrow3, hat3⟩ := run_append_rd (P := Try.prog) (wr.alloc (.cells #[.int .i64 x.b, .slice ax x.M.length cx] 26)) (w.heap.size + 1) 54 54 26 i0 _ 2 32 Try.underlying54 hi hz0 hz1 hz2 rfl (by omega) (.slice A2 m c2) m S2 (H2.out.alloc _) (some ⟨wr.heap.size, 0, none⟩) 1 1 [.int .i64 x.b, .slice ax x.M.length cx] (rd_lit2 rfl rfl) (by simp [Value.oneCell']) (by simp only [maxLen]; omega) (by omega) (by simp; omega)
        rw [← hW0] at hgrow3 hat3
        have ANS := Lib.hid (APP1.out W0 w3 v3 x.b ax x.M.length cx x.M bW0 (HS1.out W0 (bw.trans (bW0.mono hsw))) hxc hxm HSX.out hown3 hgrow3 hat3)
        rw [fold_append] at hrun3
        clear hW0 bW0 hown3 hgrow3 hat3
        go_wp2_with fail
        go_roundw
        case rel =>
          obtain ⟨L3, a1, a2, a3⟩ := ANS.out
          exact ⟨t + 1, m + 1, L3, by go_num, by omega, by omega, a1, a2, a3⟩
        case measure => simp [intOf]; omega
    · obtain rfl : t = n := by omega
      have hsb := OutB.sb (C := C) ⟨S2, h1, h2, h3⟩ (fun k hk hc => by have := (hown k hk).1; have := HC.out k hc; omega)
      obtain ⟨_, _, e5, e6, e7, e8⟩ := hsb
      injection e5 with e9 e10 e11
      subst e9 e11
      have HSB := Lib.hid e8
      have HS2 := Lib.hid hs2
      clear h3 hs2 h1 e8
      go_wp2_with fail
      exact bodyPost_ret (v := .tuple #[.slice A2 m c2, .bool true]) (by simp [results, Try.results38, go_sem]) rfl ⟨A2, m, c2, L2, true, rfl, fun _ => ⟨HSB.out, hm, e6, e7, HS2.out⟩, bw, hsw⟩
end
end Go.Proofs.Ytgjpicekdbemiac
namespace Go.Proofs.Ytgjpicekdbemiac
open Go.RowKit

theorem ocells_len (x : Opt) : (ocells x).length = 8 := rfl
theorem info_OpE : (Try.prog.info? 74).map (fun i => (i.zero, i.size, i.bytes)) = some (some (.agg #[.int .i64 0, .int .i64 0, .int .i64 0, .int .i64 0, .int .i64 0, .int .i64 0, .int .i64 0, .int .i64 0]), 8, 64) := by kernel_rfl
end Go.Proofs.Ytgjpicekdbemiac
namespace Go.Proofs.Ytgjpicekdbemiac
open Go.RowKit
set_option linter.unusedVariables false
def okO (N B K : Int) (o : Opt) : Bool := validOp o N B && (!decide (K < o.cond) && !(o.k == 2 && o.bit != K))
def vst (N B : Int) (s : Option Int) (o : Opt) : Option Int := match s with
  | none => none
  | some K => if okO N B K o = true then some (K + if o.k = 2 then 1 else 0) else none
def vrun (N B : Int) (l : List Opt) : Option Int := l.foldl (vst N B) (some 0)
def validRt (N I B : Int) (l : List Opt) : Bool := inB N 1 4 && (inB I 1 N && (inB B 0 3 && (decide (l.length ≤ 120) && vrun N B l == some B)))
theorem validRt_in {N I B : Int} {l : List Opt} (e1 : inB N 1 4 = true) (e2 : inB I 1 N = true) (e3 : inB B 0 3 = true) (h : l.length ≤ 120) : validRt N I B l = (vrun N B l == some B) := by
  unfold validRt; rw [e1, e2, e3]; simp [h]
theorem vrun_good {N B K : Int} {l : List Opt} {t : Nat} {o : Opt} (h : vrun N B (l.take t) = some K) (ho : l[t]? = some o) (hk : okO N B K o = true) : vrun N B (l.take (t + 1)) = some (K + if o.k = 2 then 1 else 0) := by
  rw [List.take_add_one, ho]
  unfold vrun at h ⊢
  rw [List.foldl_append, h]
  simp [vst, hk]
theorem vst_none (N B : Int) (l : List Opt) : l.foldl (vst N B) none = none := by
  induction l with
  | nil => rfl
  | cons x l ih => exact ih
theorem vrun_bad {N B K : Int} {l : List Opt} {t : Nat} {o : Opt} (h : vrun N B (l.take t) = some K) (ho : l[t]? = some o) (hk : okO N B K o = false) : vrun N B l = none := by
  have hlt := (List.getElem?_eq_some_iff.1 ho).1
  have e : l = l.take t ++ o :: l.drop (t + 1) := by
    have h1 := List.drop_eq_getElem_cons hlt
    have h2 : l[t] = o := by have := (List.getElem?_eq_some_iff.1 ho).2; exact this
    rw [h2] at h1
    rw [← h1, List.take_append_drop]
  unfold vrun at h ⊢
  rw [e, List.foldl_append, h, List.foldl_cons]
  have : vst N B (some K) o = none := by simp [vst, hk]
  rw [this]
  exact vst_none N B _
theorem o2_of {o : Opt} (h : (o.k == 2) = true) : o.k = 2 := by simpa using h
theorem o2_not {o : Opt} (h : (o.k == 2) = false) : ¬ o.k = 2 := by simpa using h
set_option maxRecDepth 100000 in
set_option maxHeartbeats 4000000 in
theorem IsValidRoutine_spec (N I B : Int) (A : Option Addr) (n c : Nat) (l : List Opt) (w : World) (h : Rd w 8 A n (l.flatMap ocells)) (hl : l.length = n) (hn : n ≤ 1099511627776) :
    Calls Try.prog 36 #[.agg #[.int .i64 N, .int .i64 I, .int .i64 B, .slice A n c]] w fun e w' => e = .returned (.bool (validRt N I B l)) ∧ Below w.heap.size w w' ∧ w.heap.size ≤ w'.heap.size := by
  have b0 : Below w.heap.size w (w.alloc (.cells #[.int .i64 N, .int .i64 I, .int .i64 B, .slice A n c] 67)) := (by repeat (first | exact Below.refl _ _ | assumption | (refine Below.trans ?_ (Below.mono (by assumption) (by first | omega | (simp; done) | (simp; omega)))) | (with_reducible refine Below.drew ?_) | (with_reducible refine Below.alloc ?_ (by first | omega | (simp; done) | (simp; omega)) _) | (with_reducible refine Below.setCell ?_ (by first | omega | (simp; done) | (simp; omega)) _)))
  have H := Lib.hid (h.below b0)
  have HL := Lib.hid hl
  clear h hl b0
  cases e1 : inB N 1 4
  · have HF := Lib.hid (show validRt N I B l = false by simp [validRt, e1])
    go_enter Try.func36, Try.ntmps36
    go_wp2_with (go_at_call 29; refine (l1In_any _ _ _ _).mono ?_; rintro e w' ⟨rfl, rfl⟩)
    go_ret
    exact ⟨by rw [HF.out]; rfl, (by repeat (first | exact Below.refl _ _ | assumption | (refine Below.trans ?_ (Below.mono (by assumption) (by first | omega | (simp; done) | (simp; omega)))) | (with_reducible refine Below.drew ?_) | (with_reducible refine Below.alloc ?_ (by first | omega | (simp; done) | (simp; omega)) _) | (with_reducible refine Below.setCell ?_ (by first | omega | (simp; done) | (simp; omega)) _))), (by first | omega | (simp; done) | (simp; omega))⟩
  cases e2 : inB I 1 N
  · have HF := Lib.hid (show validRt N I B l = false by simp [validRt, e2])
    go_enter Try.func36, Try.ntmps36
    go_wp2_with (go_at_call 29; refine (l1In_any _ _ _ _).mono ?_; rintro e w' ⟨rfl, rfl⟩)
    go_ret
    exact ⟨by rw [HF.out]; rfl, (by repeat (first | exact Below.refl _ _ | assumption | (refine Below.trans ?_ (Below.mono (by assumption) (by first | omega | (simp; done) | (simp; omega)))) | (with_reducible refine Below.drew ?_) | (with_reducible refine Below.alloc ?_ (by first | omega | (simp; done) | (simp; omega)) _) | (with_reducible refine Below.setCell ?_ (by first | omega | (simp; done) | (simp; omega)) _))), (by first | omega | (simp; done) | (simp; omega))⟩
  cases e3 : inB B 0 3
  · have HF := Lib.hid (show validRt N I B l = false by simp [validRt, e3])
    go_enter Try.func36, Try.ntmps36
    go_wp2_with (go_at_call 29; refine (l1In_any _ _ _ _).mono ?_; rintro e w' ⟨rfl, rfl⟩)
    go_ret
    exact ⟨by rw [HF.out]; rfl, (by repeat (first | exact Below.refl _ _ | assumption | (refine Below.trans ?_ (Below.mono (by assumption) (by first | omega | (simp; done) | (simp; omega)))) | (with_reducible refine Below.drew ?_) | (with_reducible refine Below.alloc ?_ (by first | omega | (simp; done) | (simp; omega)) _) | (with_reducible refine Below.setCell ?_ (by first | omega | (simp; done) | (simp; omega)) _))), (by first | omega | (simp; done) | (simp; omega))⟩
  by_cases hle : n ≤ 120
  case neg =>
    have HF := Lib.hid (show validRt N I B l = false by have := HL.out; simp [validRt]; omega)
    have hgt : 120 < n := by omega
    clear hle
    go_enter Try.func36, Try.ntmps36
    go_wp2_with (go_at_call 29; refine (l1In_any _ _ _ _).mono ?_; rintro e w' ⟨rfl, rfl⟩)
    go_ret
    exact ⟨by rw [HF.out]; rfl, (by repeat (first | exact Below.refl _ _ | assumption | (refine Below.trans ?_ (Below.mono (by assumption) (by first | omega | (simp; done) | (simp; omega)))) | (with_reducible refine Below.drew ?_) | (with_reducible refine Below.alloc ?_ (by first | omega | (simp; done) | (simp; omega)) _) | (with_reducible refine Below.setCell ?_ (by first | omega | (simp; done) | (simp; omega)) _))), (by first | omega | (simp; done) | (simp; omega))⟩
  have HF := Lib.hid (validRt_in e1 e2 e3 (show l.length ≤ 120 by rw [HL.out]; exact hle))
  have hBB := inB_iff.1 e3
  go_enter Try.func36, Try.ntmps36
  go_wp2_with (go_at_call 29; refine (l1In_any _ _ _ _).mono ?_; rintro e w' ⟨rfl, rfl⟩)
  obtain ⟨w0, hw0⟩ : ∃ w0, w0 = w.alloc (.cells #[.int .i64 N, .int .i64 I, .int .i64 B, .slice A n c] 67) := ⟨_, rfl⟩
  rw [← hw0] at H ⊢
  have x0 : Hid (w0.heap[w.heap.size]? = some (.cells #[.int .i64 N, .int .i64 I, .int .i64 B, .slice A n c] 67 (0, 0))) := by rw [hw0]; exact boxed1_0 _ _
  have b0 : Below w.heap.size w w0 := by rw [hw0]; exact (by repeat (first | exact Below.refl _ _ | assumption | (refine Below.trans ?_ (Below.mono (by assumption) (by first | omega | (simp; done) | (simp; omega)))) | (with_reducible refine Below.drew ?_) | (with_reducible refine Below.alloc ?_ (by first | omega | (simp; done) | (simp; omega)) _) | (with_reducible refine Below.setCell ?_ (by first | omega | (simp; done) | (simp; omega)) _)))
  have S0 := Lib.hid (show w.heap.size + 1 = w0.heap.size by rw [hw0]; simp)
  clear hw0
  go_loopw [3, 4] (fun m i wr => ∃ (t : Nat) (K : Int), t ≤ n ∧ i = .int .i64 t ∧ m = .int .i64 K ∧ 0 ≤ K ∧ K ≤ t ∧ vrun N B (l.take t) = some K ∧ Below w0.heap.size w0 wr) (fun _ i _ => n - (intOf i).toNat)
  case atStart => exact ⟨0, 0, Nat.zero_le _, rfl, rfl, by omega, by omega, rfl, Below.refl _ _⟩
  case round =>
    obtain ⟨t, K, ht, rfl, rfl, hK0, hK1, hcg, hb⟩ := hrel
    have hbs := hb.size
    have hlt0 : w.heap.size < wr.heap.size := by have := S0.out; omega
    have HC := Lib.hid hcg
    clear hcg
    obtain ⟨p0, p1, p2, p3⟩ := boxcells4 (lay := hb) x0.out
    by_cases hlt : t < n
    · have htl : t < l.length := by rw [HL.out]; exact hlt
      obtain ⟨o, ho⟩ : ∃ o, l[t]? = some o := ⟨_, List.getElem?_eq_getElem htl⟩
      obtain ⟨b, off, rfl, hbl, hc⟩ := H.out.2 (by omega)
      have q0 : wr.cell? ⟨b, off + t * 8, none⟩ = some (.int .i64 o.k) := (hb.cell (by have := hbl; simp; omega)).trans (hc (t * 8 + 0) _ (flat_at ocells_len l t o 0 ho (by decide)))
      have q1 : wr.cell? ⟨b, off + t * 8 + 1, none⟩ = some (.int .i64 o.g.k) := (hb.cell (by have := hbl; simp; omega)).trans (hc (t * 8 + 1) _ (flat_at ocells_len l t o 1 ho (by decide)))
      have q2 : wr.cell? ⟨b, off + t * 8 + 2, none⟩ = some (.int .i64 o.g.a) := (hb.cell (by have := hbl; simp; omega)).trans (hc (t * 8 + 2) _ (flat_at ocells_len l t o 2 ho (by decide)))
      have q3 : wr.cell? ⟨b, off + t * 8 + 3, none⟩ = some (.int .i64 o.g.b) := (hb.cell (by have := hbl; simp; omega)).trans (hc (t * 8 + 3) _ (flat_at ocells_len l t o 3 ho (by decide)))
      have q4 : wr.cell? ⟨b, off + t * 8 + 4, none⟩ = some (.int .i64 o.g.c) := (hb.cell (by have := hbl; simp; omega)).trans (hc (t * 8 + 4) _ (flat_at ocells_len l t o 4 ho (by decide)))
      have q5 : wr.cell? ⟨b, off + t * 8 + 5, none⟩ = some (.int .i64 o.q) := (hb.cell (by have := hbl; simp; omega)).trans (hc (t * 8 + 5) _ (flat_at ocells_len l t o 5 ho (by decide)))
      have q6 : wr.cell? ⟨b, off + t * 8 + 6, none⟩ = some (.int .i64 o.bit) := (hb.cell (by have := hbl; simp; omega)).trans (hc (t * 8 + 6) _ (flat_at ocells_len l t o 6 ho (by decide)))
      have q7 : wr.cell? ⟨b, off + t * 8 + 7, none⟩ = some (.int .i64 o.cond) := (hb.cell (by have := hbl; simp; omega)).trans (hc (t * 8 + 7) _ (flat_at ocells_len l t o 7 ho (by decide)))
      have HO := Lib.hid ho
      clear hc ho htl
      go_wp2_with fail
      obtain ⟨w1, hw1⟩ : ∃ w1, w1 = wr.alloc (.cells #[.int .i64 o.k, .int .i64 o.g.k, .int .i64 o.g.a, .int .i64 o.g.b, .int .i64 o.g.c, .int .i64 o.q, .int .i64 o.bit, .int .i64 o.cond] 74) := ⟨_, rfl⟩
      rw [← hw1]
      have x1 : Hid (w1.heap[wr.heap.size]? = some (.cells #[.int .i64 o.k, .int .i64 o.g.k, .int .i64 o.g.a, .int .i64 o.g.b, .int .i64 o.g.c, .int .i64 o.q, .int .i64 o.bit, .int .i64 o.cond] 74 (0, 0))) := by rw [hw1]; exact boxed1_0 _ _
      have b1 : Below w0.heap.size w0 w1 := by rw [hw1]; exact hb.alloc hbs _
      have s1 : wr.heap.size + 1 = w1.heap.size := by rw [hw1]; simp
      have S1 := Lib.hid s1
      clear hw1 s1 p0 p1 p2 p3 q0 q1 q2 q3 q4 q5 q6 q7
      refine (IsValidOp_spec _ _ _ _ _ _ _ _ _ _ _).mono ?_
      rintro e w2 ⟨rfl, b2, s2⟩
      have hs1 := S1.out
      have b12 : Below w0.heap.size w0 w2 := b1.trans (b2.mono (by omega))
      have hle2 : wr.heap.size < w2.heap.size := by omega
      clear hs1
      obtain ⟨p0, p1, p2, p3⟩ := boxcells4 (lay := b12) x0.out
      obtain ⟨z0, z1, z2, z3, z4, z5, z6, z7⟩ := boxcells8 (lay := b2) x1.out
      cases hv : validOp ⟨o.k, ⟨o.g.k, o.g.a, o.g.b, o.g.c⟩, o.q, o.bit, o.cond⟩ N B
      · have HE := Lib.hid (vrun_bad HC.out HO.out (by simp only [okO]; rw [show validOp o N B = false from hv]; rfl))
        go_wp2_with fail
        all_goals go_ret
        all_goals exact ⟨by rw [HF.out, HE.out]; rfl, b0.trans (b12.mono (by have := S0.out; omega)), by have := S0.out; have := S1.out; omega⟩
      by_cases hco : K < o.cond
      · have HE := Lib.hid (vrun_bad HC.out HO.out (by simp [okO, hco]))
        go_wp2_with fail
        all_goals go_ret
        all_goals exact ⟨by rw [HF.out, HE.out]; rfl, b0.trans (b12.mono (by have := S0.out; omega)), by have := S0.out; have := S1.out; omega⟩
      have hco2 : o.cond ≤ K := by omega
      have HCO := Lib.hid hco
      clear hco
      cases hk : (o.k == 2)
      · have HS := Lib.hid (vrun_good HC.out HO.out (by simp only [okO]; rw [show validOp o N B = true from hv, hk]; simp [HCO.out]))
        have HK := Lib.hid hk
        go_wp2_with fail
        go_roundw
        case rel => exact ⟨t + 1, K, by omega, by go_num, rfl, by omega, by omega, by rw [HS.out]; exact congrArg some (by simp [o2_not HK.out]), b12⟩
        case measure => simp [intOf]; omega
      cases hbt : (o.bit == K)
      · have hbt' : (o.bit != K) = true := by simp only [bne, hbt]; rfl
        have HE := Lib.hid (vrun_bad HC.out HO.out (by simp only [okO]; rw [hk, hbt']; simp))
        go_wp2_with fail
        all_goals go_ret
        all_goals exact ⟨by rw [HF.out, HE.out]; rfl, b0.trans (b12.mono (by have := S0.out; omega)), by have := S0.out; have := S1.out; omega⟩
      · have hbt' : (o.bit != K) = false := by simp only [bne, hbt]; rfl
        have HS := Lib.hid (vrun_good HC.out HO.out (by simp only [okO]; rw [show validOp o N B = true from hv, hk, hbt']; simp [HCO.out]))
        have HK := Lib.hid hk
        go_wp2_with fail
        go_roundw
        case rel => exact ⟨t + 1, K + 1, by omega, by go_num, rfl, by omega, by omega, by rw [HS.out]; exact congrArg some (by simp [o2_of HK.out]), b12⟩
        case measure => simp [intOf]; omega
    · obtain rfl : t = n := by omega
      have HT : Hid (vrun N B l = some K) := by
        have h := HC.out
        rw [List.take_of_length_le (by rw [HL.out]; exact Nat.le_refl _)] at h
        exact h
      go_wp2_with fail
      go_ret
      exact ⟨by rw [HF.out, HT.out]; rfl, b0.trans (hb.mono (by have := S0.out; omega)), by have := hb.size; have := S0.out; omega⟩
end Go.Proofs.Ytgjpicekdbemiac
namespace Go.Proofs.Ytgjpicekdbemiac
open Go.RowKit
set_option linter.unusedVariables false
theorem ops_of_run {N B : Int} : ∀ {l : List Opt} {K : Int} {s : Option Int}, l.foldl (vst N B) s = some K → ∀ o ∈ l, 0 ≤ o.cond ∧ o.cond ≤ 3
  | [], K, s, _, o, ho => by simp at ho
  | x :: l, K, s, h, o, ho => by
    rw [List.foldl_cons] at h
    rcases List.mem_cons.1 ho with rfl | ho
    · cases s with
      | none => rw [show vst N B none o = none from rfl, vst_none] at h; cases h
      | some k =>
        by_cases hk : okO N B k o = true
        · unfold okO at hk
          rw [Bool.and_eq_true] at hk
          have hv := hk.1
          unfold validOp at hv
          simp only [Bool.and_eq_true] at hv
          obtain ⟨_, hb, hv⟩ := hv
          have hb := inB_iff.1 hb
          split at hv
          · simp only [Bool.and_eq_true] at hv
            have := inB_iff.1 hv.2.2.2
            omega
          · split at hv
            · simp only [Bool.and_eq_true] at hv
              have : o.cond = 0 := by simpa using hv.2.1
              omega
            · split at hv
              · simp only [Bool.and_eq_true] at hv
                have : o.cond = 0 := by simpa using hv.2.2.1
                omega
              · cases hv
        · rw [show vst N B (some k) o = none by simp only [vst]; rw [if_neg hk], vst_none] at h; cases h
    · exact ops_of_run h o ho
theorem rt_ops {N I B : Int} {l : List Opt} (h : validRt N I B l = true) : ∀ o ∈ l, 0 ≤ o.cond ∧ o.cond ≤ 3 := by
  unfold validRt at h
  simp only [Bool.and_eq_true] at h
  have h1 : vrun N B l = some B := by simpa using h.2.2.2.2
  exact ops_of_run h1
theorem initM_shp (n k : Int) : Shp (initM n k) := by
  refine ⟨initM_len_le n k, fun r hr => ?_⟩
  unfold initM at hr
  split at hr
  · rename_i h
    simp only [okI, Bool.and_eq_true] at h
    have h1 := inB_iff.1 h.1
    unfold rng at hr
    obtain ⟨i, _, rfl⟩ := List.mem_map.1 hr
    rw [bst_len]
    have hn : n = 1 ∨ n = 2 ∨ n = 3 ∨ n = 4 := by omega
    rcases hn with rfl | rfl | rfl | rfl <;> decide
  · simp at hr
/-- A list of branches and whether there is one: it reads whatever there was before turns. -/
def RetL (w : World) (e : Ending) (w' : World) : Prop := ∃ (A : Option Addr) (n c : Nat) (L : List Br) (ok : Bool), e = .returned (.tuple #[.slice A n c, .bool ok]) ∧
  SB (fun k => k < w.heap.size) w' A n L ∧ n ≤ 64 ∧ n ≤ c ∧ c ≤ maxLen ∧ (∀ x ∈ L, Shp x.M) ∧ Below w.heap.size w w' ∧ w.heap.size ≤ w'.heap.size
theorem sb_lit0 {C : Nat → Prop} {w : World} (b : Nat) : SB C w (some ⟨b, 0, none⟩) 0 [] := ⟨[], rfl, ⟨rfl, fun h => absurd h (by decide)⟩, fun h => absurd h (by decide), RowS.nil _ _⟩
theorem retL_none {w W : World} {b : Nat} (hb : Below w.heap.size w W) (h0 : b = W.heap.size) : RetL w (.returned (.tuple #[.slice (some ⟨b, 0, none⟩) 0 0, .bool false])) (W.alloc (.cells #[] 26)) :=
  ⟨_, 0, 0, [], false, rfl, sb_lit0 b, by decide, Nat.le_refl _, Nat.zero_le _, by simp, hb.alloc hb.size _, by have := hb.size; simp; omega⟩
set_option maxRecDepth 100000 in
set_option maxHeartbeats 16000000 in
theorem SimulatePrefix_any (N I B : Int) (A : Option Addr) (n c : Nat) (l : List Opt) (w : World) (h : Rd w 8 A n (l.flatMap ocells)) (hl : l.length = n) (hn : n ≤ 6) :
    Calls Try.prog 34 #[.agg #[.int .i64 N, .int .i64 I, .int .i64 B, .slice A n c], .int .i64 n] w (RetL w) := by
  obtain ⟨w0, hw0⟩ : ∃ w0, w0 = w.alloc (.cells #[.int .i64 N, .int .i64 I, .int .i64 B, .slice A n c] 67) := ⟨_, rfl⟩
  have x0 := Lib.hid (show w0.heap[w.heap.size]? = some (.cells #[.int .i64 N, .int .i64 I, .int .i64 B, .slice A n c] 67 (0, 0)) by rw [hw0]; exact boxed1_0 _ _)
  have b0 : Below w.heap.size w w0 := by rw [hw0]; exact (by repeat (first | exact Below.refl _ _ | assumption | (refine Below.trans ?_ (Below.mono (by assumption) (by first | omega | (simp; done) | (simp; omega)))) | (with_reducible refine Below.drew ?_) | (with_reducible refine Below.alloc ?_ (by first | omega | (simp; done) | (simp; omega)) _) | (with_reducible refine Below.setCell ?_ (by first | omega | (simp; done) | (simp; omega)) _)))
  have s0 : w.heap.size < w0.heap.size := by rw [hw0]; simp
  have H0 := Lib.hid (h.below b0)
  have H := Lib.hid h
  have HL := Lib.hid hl
  have HW := Lib.hid hw0
  obtain ⟨p0, p1, p2, p3⟩ := boxcells4 (lay := Below.refl _ _) x0.out
  clear h hl hw0
  go_enter Try.func34, Try.ntmps34
  go_upto_region 1 with (fail)
  rw [← HW.out]
  go_wp2_with fail
  refine (IsValidRoutine_spec N I B A n c l w0 H0.out HL.out (by omega)).mono ?_
  cases hv : validRt N I B l
  · rintro e w1 ⟨rfl, hb1, hs1⟩
    clear hv
    go_wp2_with fail
    exact bodyPost_ret (v := .tuple #[.slice (some ⟨w1.heap.size, 0, none⟩) 0 0, .bool false]) (by simp [results, Try.results34, go_sem]) rfl (retL_none (b0.trans (hb1.mono b0.size)) rfl)
  · rintro e w1 ⟨rfl, hb1, hs1⟩
    have HOPS := Lib.hid (rt_ops hv)
    have x1 := (hb1.block _ s0).trans x0.out
    obtain ⟨q0, q1, q2, q3⟩ := boxcells4 (lay := Below.refl _ _) x1
    have X1 := Lib.hid x1
    have b1 := b0.trans (hb1.mono b0.size)
    have s1 : w.heap.size < w1.heap.size := by omega
    clear hv p0 p1 p2 p3 x1
    go_wp2_with fail
    refine (InitialBranch_spec N I _).mono ?_
    rintro e w2 ⟨Ai, ci, Fi, rfl, hoi, hb2, hs2⟩
    have x2 := Lib.hid ((hb2.block _ s1).trans X1.out)
    have b2 := b1.trans (hb2.mono b1.size)
    have hoi' : OwnM w2 w1.heap.size (.slice Ai (initM N I).length ci) (initM N I).length (initM N I) Fi := hoi
    obtain ⟨_, _, e5, e6, e7, _⟩ := hoi.rd
    injection e5 with e8 e9 e10
    subst e8 e10
    have HSM := Lib.hid (ownM_sm (C := fun k => k < w.heap.size) hoi (fun k hk hc => by have := (hoi.lt k hk).1; have hc' : k < w.heap.size := hc; omega))
    have SHP := Lib.hid (initM_shp N I)
    have HML := Lib.hid (show (initM N I).length ≤ 16 from initM_len_le N I)
    clear hoi hoi' q0 q1 q2 q3
    go_wp2_with fail
    obtain ⟨w3, hw3⟩ : ∃ w3, w3 = w2.alloc (.cells #[.int .i64 0, .slice Ai (initM N I).length ci] 26) := ⟨_, rfl⟩
    rw [← hw3]
    have b3 : Below w.heap.size w w3 := by rw [hw3]; exact b2.alloc b2.size _
    have x3 := Lib.hid (show w3.heap[w.heap.size]? = some (.cells #[.int .i64 N, .int .i64 I, .int .i64 B, .slice A n c] 67 (0, 0)) by rw [hw3]; exact (Below.heap_alloc _ _ _ (by omega)).trans x2.out)
    have s3 : w.heap.size < w3.heap.size := by rw [hw3]; simp; omega
    have sb0 : SB (fun k => k < w.heap.size) w3 (some ⟨w2.heap.size, 0, none⟩) 1 [⟨0, initM N I⟩] := by
      rw [hw3]
      refine ⟨[.int .i64 0, .slice Ai (initM N I).length ci], rfl, rd_lit2 rfl rfl, fun _ ad e hc => ?_, RowS.one (HSM.out.below ((Below.refl _ _).alloc (Nat.le_refl _) _)) e6 e7⟩
      injection e with e
      subst e
      simp at hc
      omega
    clear hw3 b1 b2 hb1 hb2 hs1 hs2 x2 b0
    go_loopw [6, 7] (fun v i wr => ∃ (t m : Nat) (A2 : Option Addr) (c2 : Nat) (L2 : List Br), i = .int .i64 t ∧ v = .slice A2 m c2 ∧ t ≤ n ∧ m ≤ 2 ^ t ∧ m ≤ c2 ∧ c2 ≤ maxLen ∧ SB (fun k => k < w.heap.size) wr A2 m L2 ∧ (∀ x ∈ L2, Shp x.M) ∧ Below w3.heap.size w3 wr) (fun _ i _ => n - (intOf i).toNat)
    case atStart => exact ⟨0, 1, _, 1, _, rfl, rfl, Nat.zero_le _, Nat.le_refl _, Nat.le_refl _, by decide, sb0, fun x hx => by simp at hx; subst hx; exact SHP.out, Below.refl _ _⟩
    case round =>
      obtain ⟨t, m, A2, c2, L2, rfl, rfl, ht, hm, hc2, hcm, hsb, hsh, hb⟩ := hrel
      have hx := (hb.block _ s3).trans x3.out
      have bw : Below w.heap.size w wr := b3.trans (hb.mono b3.size)
      have hsw := bw.size
      obtain ⟨q0, q1, q2, q3⟩ := boxcells4 (lay := Below.refl _ _) hx
      have hm64 : m ≤ 64 := Nat.le_trans hm (by
        have : (2 : Nat) ^ t ≤ 2 ^ 6 := Nat.pow_le_pow_right (by decide) (by omega)
        exact this)
      have HM := Lib.hid hm
      have HSB := Lib.hid hsb
      have HSHP := Lib.hid hsh
      clear hm hsb hsh
      by_cases hlt : t < n
      · obtain ⟨o, ho⟩ : ∃ o, l[t]? = some o := ⟨_, List.getElem?_eq_getElem (by rw [HL.out]; exact hlt)⟩
        obtain ⟨bb, off, rfl, hbl, hc⟩ := H.out.2 (by omega)
        have z0 := (bw.cell (p := ⟨bb, off + (t * 8 + 0), none⟩) hbl).trans (hc (t * 8 + 0) _ (flat_at ocells_len l t o 0 ho (by decide)))
        have z1 := (bw.cell (p := ⟨bb, off + (t * 8 + 1), none⟩) hbl).trans (hc (t * 8 + 1) _ (flat_at ocells_len l t o 1 ho (by decide)))
        have z2 := (bw.cell (p := ⟨bb, off + (t * 8 + 2), none⟩) hbl).trans (hc (t * 8 + 2) _ (flat_at ocells_len l t o 2 ho (by decide)))
        have z3 := (bw.cell (p := ⟨bb, off + (t * 8 + 3), none⟩) hbl).trans (hc (t * 8 + 3) _ (flat_at ocells_len l t o 3 ho (by decide)))
        have z4 := (bw.cell (p := ⟨bb, off + (t * 8 + 4), none⟩) hbl).trans (hc (t * 8 + 4) _ (flat_at ocells_len l t o 4 ho (by decide)))
        have z5 := (bw.cell (p := ⟨bb, off + (t * 8 + 5), none⟩) hbl).trans (hc (t * 8 + 5) _ (flat_at ocells_len l t o 5 ho (by decide)))
        have z6 := (bw.cell (p := ⟨bb, off + (t * 8 + 6), none⟩) hbl).trans (hc (t * 8 + 6) _ (flat_at ocells_len l t o 6 ho (by decide)))
        have z7 := (bw.cell (p := ⟨bb, off + (t * 8 + 7), none⟩) hbl).trans (hc (t * 8 + 7) _ (flat_at ocells_len l t o 7 ho (by decide)))
        rw [← Nat.add_assoc] at z1 z2 z3 z4 z5 z6 z7
        rw [Nat.add_zero] at z0
        have hcond := HOPS.out o (List.mem_of_getElem? ho)
        have HST := Lib.hid (l23Step_any (fun k => k < w.heap.size) A2 m c2 L2 o wr HSB.out (fun k hk => by have hc' : k < w.heap.size := hk; omega) (by omega) HSHP.out hcond.1 hcond.2)
        clear hc ho hcond hx
        go_wp2_with fail
        refine HST.out.mono ?_
        rintro e w4 ⟨A4, n4, c4, L4, ok, rfl, hok, hb4, hs4⟩
        have HOK := Lib.hid hok
        clear hok z0 z1 z2 z3 z4 z5 z6 z7 q0 q1 q2 q3 HST
        cases ok
        · go_wp2_with fail
          exact bodyPost_ret (v := .tuple #[.slice (some ⟨w4.heap.size, 0, none⟩) 0 0, .bool false]) (by simp [results, Try.results34, go_sem]) rfl (retL_none (bw.trans (hb4.mono hsw)) rfl)
        · go_wp2_with fail
          go_roundw
          case rel =>
            obtain ⟨g1, g2, g3, g4, g5⟩ := HOK.out trivial
            refine ⟨t + 1, n4, A4, c4, L4, by go_num, rfl, by omega, ?_, g3, g4, g1, g5, hb.trans (hb4.mono hb.size)⟩
            have := HM.out
            rw [Nat.pow_succ]
            omega
          case measure => simp [intOf]; omega
      · obtain rfl : t = n := by omega
        clear hx
        go_wp2_with fail
        exact bodyPost_ret (v := .tuple #[.slice A2 m c2, .bool true]) (by simp [results, Try.results34, go_sem]) rfl ⟨A2, m, c2, L2, true, rfl, HSB.out, hm64, hc2, hcm, HSHP.out, bw, hsw⟩
set_option maxRecDepth 100000 in
set_option maxHeartbeats 4000000 in
theorem Simulate_any (N I B : Int) (A : Option Addr) (n c : Nat) (l : List Opt) (w : World) (h : Rd w 8 A n (l.flatMap ocells)) (hl : l.length = n) (hn : n ≤ 6) :
    Calls Try.prog 31 #[.agg #[.int .i64 N, .int .i64 I, .int .i64 B, .slice A n c]] w (RetL w) := by
  obtain ⟨w0, hw0⟩ : ∃ w0, w0 = w.alloc (.cells #[.int .i64 N, .int .i64 I, .int .i64 B, .slice A n c] 67) := ⟨_, rfl⟩
  have b0 : Below w.heap.size w w0 := by rw [hw0]; exact (by repeat (first | exact Below.refl _ _ | assumption | (refine Below.trans ?_ (Below.mono (by assumption) (by first | omega | (simp; done) | (simp; omega)))) | (with_reducible refine Below.drew ?_) | (with_reducible refine Below.alloc ?_ (by first | omega | (simp; done) | (simp; omega)) _) | (with_reducible refine Below.setCell ?_ (by first | omega | (simp; done) | (simp; omega)) _)))
  have H0 := Lib.hid (h.below b0)
  have HW := Lib.hid hw0
  clear h hw0
  go_enter Try.func31, Try.ntmps31
  go_wp2_with fail
  rw [← HW.out]
  refine (SimulatePrefix_any N I B A n c l w0 H0.out hl hn).mono ?_
  rintro e w1 ⟨A1, n1, c1, L1, ok, rfl, g1, g2, g3, g4, g5, hb1, hs1⟩
  have G1 := Lib.hid (g1.more (D := fun k => k < w.heap.size) (Near.refl _ _) (fun i _ hd => by have := b0.size; simp at hd ⊢; omega))
  have G5 := Lib.hid g5
  have B1 := Lib.hid (b0.trans (hb1.mono b0.size))
  clear g1 g5 hb1 hs1
  go_wp2_with fail
  exact bodyPost_ret (v := .tuple #[.slice A1 n1 c1, .bool ok]) (by simp [results, Try.results31, go_sem]) rfl ⟨A1, n1, c1, L1, ok, rfl, G1.out, g2, g3, g4, G5.out, B1.out, B1.out.size⟩
end Go.Proofs.Ytgjpicekdbemiac
