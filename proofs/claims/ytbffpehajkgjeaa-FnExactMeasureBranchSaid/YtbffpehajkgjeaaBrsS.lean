/- Contracts of the laws' loops over lists of branches: the size, copying, comparing equal ones, marking, reading the marks back. -/
import Derived.Test.YtbffpehajkgjeaaBrs
namespace Go.Proofs.Ytbffpehajkgjeaa
open Go.RowKit
set_option linter.unusedVariables false
theorem info_BranchE : (Try.prog.info? 59).map (fun i => (i.zero, i.size, i.bytes)) = some (some (.agg #[.int .i64 0, .slice none 0 0]), 2, 32) := by kernel_rfl
theorem szV_neg {left : Int} {M : List (List Dm)} (h : left - (M.length + szM M) < 0) : szV left M = -1 := by unfold szV; rw [if_pos h]
theorem szV_pos {left : Int} {M : List (List Dm)} (h : ¬ left - (M.length + szM M) < 0) : szV left M = left - (M.length + szM M) := by unfold szV; rw [if_neg h]
set_option maxRecDepth 100000 in
set_option maxHeartbeats 1000000 in
theorem szBranch_any (b : Int) (A : Option Addr) (n c : Nat) (M : List (List Dm)) (left : Int) (w : World) (h : RdM w A n M) (hn : n ≤ 9223372036854775807) (h0 : 0 ≤ left) (h1 : left ≤ 1099511627776) :
    Calls Try.prog 50 #[.agg #[.int .i64 b, .slice A n c], .int .i64 left] w fun e w' => e = .returned (.int .i64 (szV left M)) ∧ Below w.heap.size w w' ∧ w.heap.size ≤ w'.heap.size := by
  have b0 : Below w.heap.size w (w.alloc (.cells #[.int .i64 b, .slice A n c] 72)) := (by repeat (first | exact Below.refl _ _ | assumption | (refine Below.trans ?_ (Below.mono (by assumption) (by first | omega | (simp; done) | (simp; omega)))) | (with_reducible refine Below.drew ?_) | (with_reducible refine Below.alloc ?_ (by first | omega | (simp; done) | (simp; omega)) _) | (with_reducible refine Below.setCell ?_ (by first | omega | (simp; done) | (simp; omega)) _)))
  have H := Lib.hid (h.below b0)
  have B0 := Lib.hid b0
  clear h b0
  by_cases hs : left - (M.length + szM M) < 0
  · have HF := Lib.hid (szV_neg hs)
    go_enter Try.func50, Try.ntmps50
    go_wp2_with fail
    refine (szDOmegaSS_any _ _ _ M _ _ H.out hn h0 h1).mono ?_
    rintro e w1 ⟨rfl, rfl⟩
    rw [HF.out]
    go_wp2_with fail
    go_ret
    exact ⟨by rw [HF.out]; rfl, B0.out, (by first | omega | (simp; done) | (simp; omega))⟩
  · have HF := Lib.hid (szV_pos hs)
    obtain ⟨z, hz⟩ : ∃ z : Int, z = left - (M.length + szM M) := ⟨_, rfl⟩
    rw [← hz] at HF hs
    clear hz
    go_enter Try.func50, Try.ntmps50
    go_wp2_with fail
    refine (szDOmegaSS_any _ _ _ M _ _ H.out hn h0 h1).mono ?_
    rintro e w1 ⟨rfl, rfl⟩
    rw [HF.out]
    go_wp2_with fail
    go_ret
    exact ⟨by rw [HF.out]; rfl, B0.out, (by first | omega | (simp; done) | (simp; omega))⟩
def szBV (left : Int) (L : List Br) : Int := if left - (L.length + szB L) < 0 then -1 else left - (L.length + szB L)
theorem szBV_neg {left : Int} {L : List Br} (h : left - (L.length + szB L) < 0) : szBV left L = -1 := by unfold szBV; rw [if_pos h]
theorem szBV_pos {left : Int} {L : List Br} (h : ¬ left - (L.length + szB L) < 0) : szBV left L = left - (L.length + szB L) := by unfold szBV; rw [if_neg h]
set_option maxRecDepth 100000 in
set_option maxHeartbeats 1000000 in
theorem szBranchS_any (A : Option Addr) (n c : Nat) (L : List Br) (left : Int) (w : World) (h : RdB w A n L) (hn : n ≤ 9223372036854775807) (h0 : 0 ≤ left) (h1 : left ≤ 1099511627776) :
    Calls Try.prog 45 #[.slice A n c, .int .i64 left] w fun e w' => e = .returned (.int .i64 (szBV left L)) ∧ Below w.heap.size w w' ∧ w.heap.size ≤ w'.heap.size := by
  have hl := h.len
  have H := Lib.hid h
  by_cases hs : left - n < 0
  · have HF := Lib.hid (show szBV left L = -1 by unfold szBV; rw [if_pos (by omega)])
    clear h hl
    go_enter Try.func45, Try.ntmps45
    go_wp2_with fail
    go_ret
    exact ⟨by rw [HF.out]; rfl, Below.refl _ _, Nat.le_refl _⟩
  have HL := Lib.hid hl
  clear h hl
  go_enter Try.func45, Try.ntmps45
  go_wp2_with fail
  go_loopw [1, 5] (fun s i wr => ∃ t : Nat, t ≤ n ∧ i = .int .i64 t ∧ s = .int .i64 (left - n - szB (L.take t)) ∧ 0 ≤ left - n - szB (L.take t) ∧ Below w.heap.size w wr) (fun _ i _ => n - (intOf i).toNat)
  case atStart => exact ⟨0, Nat.zero_le _, rfl, by simp [szB], by simp [szB]; omega, Below.refl _ _⟩
  case round =>
    obtain ⟨t, ht, rfl, rfl, hnn, hb⟩ := hrel
    have hbs := hb.size
    by_cases hlt : t < n
    · have htl : t < L.length := by rw [HL.out]; exact hlt
      obtain ⟨x, hx⟩ : ∃ x, L[t]? = some x := ⟨_, List.getElem?_eq_getElem htl⟩
      obtain ⟨b, off, a, c', rfl, hbl, q0, q1, e1, e2, hrd⟩ := (H.out.below hb).at hx
      have HS := Lib.hid (szB_take L t x hx)
      have HT := Lib.hid (szB_take_le L (t + 1))
      obtain ⟨Z, hZ⟩ : ∃ Z, Z = szB (L.take t) := ⟨_, rfl⟩
      rw [← hZ] at hnn HS ⊢
      have HZ := Lib.hid hZ
      have hr63 : x.M.length ≤ 9223372036854775807 := by simp only [maxLen] at e2; omega
      have HRD := Lib.hid hrd
      clear hZ hx htl hrd e1 e2
      go_wp2_with fail
      refine (szBranch_any _ _ _ _ x.M _ _ HRD.out hr63 hnn (by omega)).mono ?_
      rintro e w' ⟨rfl, hb', hs'⟩
      by_cases hneg : left - n - Z - (x.M.length + szM x.M) < 0
      · have HF := Lib.hid (show szBV left L = -1 by
          unfold szBV
          rw [if_pos (by
            have a1 := HS.out; have a2 := HT.out; have a3 := HL.out; have a4 := HZ.out
            omega)])
        rw [szV_neg hneg]
        clear hneg
        go_wp2_with fail
        go_ret
        exact ⟨by rw [HF.out]; rfl, hb.trans (hb'.mono hbs), (by first | omega | (simp; done) | (simp; omega))⟩
      · rw [szV_pos hneg]
        obtain ⟨z, hz⟩ : ∃ z : Int, z = left - n - Z - (x.M.length + szM x.M) := ⟨_, rfl⟩
        rw [← hz] at hneg ⊢
        have HZ2 := Lib.hid hz
        clear hz
        go_wp2_with fail
        go_roundw
        case rel => exact ⟨t + 1, by omega, by go_num, by rw [HS.out, HZ2.out]; congr 1; omega, by rw [HS.out]; have := HZ2.out; omega, hb.trans (hb'.mono hbs)⟩
        case measure => simp [intOf]; omega
    · obtain rfl : t = n := by omega
      have HF := Lib.hid (show left - t - szB (L.take t) = szBV left L by
        rw [List.take_of_length_le (by rw [HL.out]; exact Nat.le_refl _)] at hnn ⊢
        unfold szBV
        rw [HL.out, if_neg (by omega)]
        omega)
      go_wp2_with fail
      go_ret
      exact ⟨by rw [← HF.out]; rfl, hb, (by first | omega | (simp; done) | (simp; omega))⟩
set_option maxRecDepth 100000 in
set_option maxHeartbeats 2000000 in
theorem toBranch_any (b : Int) (A : Option Addr) (n c : Nat) (M : List (List Dm)) (w : World) (h : RdM w A n M) (hn : n ≤ 1099511627776) (hs : szM M ≤ 1099511627776) :
    Calls Try.prog 52 #[.agg #[.int .i64 b, .slice A n c]] w (RetBr w b n M) := by
  obtain ⟨w0, hw0⟩ : ∃ w0, w0 = ((w.alloc (.cells #[.int .i64 b, .slice A n c] 72)).alloc (.cells #[.int .i64 0, .slice none 0 0] 59)).alloc (.cells #[.int .i64 b, .slice none 0 0] 59) := ⟨_, rfl⟩
  have X1 := Lib.hid (show w0.heap[w.heap.size + 1]? = some (.cells #[.int .i64 0, .slice none 0 0] 59 (0, 0)) by rw [hw0]; exact boxed3_1 _ _ _ _)
  have X2 := Lib.hid (show w0.heap[w.heap.size + 2]? = some (.cells #[.int .i64 b, .slice none 0 0] 59 (0, 0)) by rw [hw0]; exact boxed3_2 _ _ _ _)
  have b0 : Below w.heap.size w w0 := by rw [hw0]; exact (by repeat (first | exact Below.refl _ _ | assumption | (refine Below.trans ?_ (Below.mono (by assumption) (by first | omega | (simp; done) | (simp; omega)))) | (with_reducible refine Below.drew ?_) | (with_reducible refine Below.alloc ?_ (by first | omega | (simp; done) | (simp; omega)) _) | (with_reducible refine Below.setCell ?_ (by first | omega | (simp; done) | (simp; omega)) _)))
  have s0 : w.heap.size + 3 = w0.heap.size := by rw [hw0]; simp
  have S0 := Lib.hid s0
  have B0 := Lib.hid b0
  have H := Lib.hid (h.below b0)
  have HW := Lib.hid hw0
  clear h b0 s0 hw0
  go_enter Try.func52, Try.ntmps52
  go_wp2_with fail
  rw [← HW.out]
  refine (toDOmegaSS_any _ _ _ M _ H.out hn hs).mono ?_
  rintro e w1 ⟨v, F, rfl, own, b1, s1⟩
  have hs0 := S0.out
  obtain ⟨A2, c2, rfl, _, _, _⟩ := own.rd
  have x1 := (b1.block (w.heap.size + 1) (by omega)).trans X1.out
  have x2 := (b1.block (w.heap.size + 2) (by omega)).trans X2.out
  have q0 : w1.cell? ⟨w.heap.size + 1, 0, none⟩ = some (.int .i64 0) := cell_at (j := 0) x1 rfl
  have q1 : w1.cell? ⟨w.heap.size + 1, 1, none⟩ = some (.slice none 0 0) := cell_at (j := 1) x1 rfl
  have p0 : w1.cell? ⟨w.heap.size + 2, 0, none⟩ = some (.int .i64 b) := cell_at (j := 0) x2 rfl
  have p1 : w1.cell? ⟨w.heap.size + 2, 1, none⟩ = some (.slice none 0 0) := cell_at (j := 1) x2 rfl
  have f0 : w1.frozen? ⟨w.heap.size + 1, 0, none⟩ = false := by simp [World.frozen?, x1]
  have f1 : w1.frozen? ⟨w.heap.size + 1, 1, none⟩ = false := by simp [World.frozen?, x1]
  have g1 : w1.frozen? ⟨w.heap.size + 2, 1, none⟩ = false := by simp [World.frozen?, x2]
  have HO := Lib.hid own
  have hlt2 : w.heap.size + 2 < w1.heap.size := by omega
  clear x1 x2 own hs0
  go_wp2_with fail
  refine bodyPost_ret (v := .agg #[.int .i64 b, .slice A2 n c2]) (by simp [results, Try.results52, go_sem, q0, q1]) rfl ⟨A2, c2, F, rfl, ?_, ?_, ?_⟩
  · have hs0 := S0.out
    exact ((HO.out.base_le (by omega)).kin (((kin_setCell _ (w.heap.size + 2) _ _).mono (G := [w.heap.size + 2, w.heap.size + 1]) (by simp)).trans (((kin_setCell _ (w.heap.size + 1) _ _).mono (by simp)).trans ((kin_setCell _ (w.heap.size + 1) _ _).mono (by simp)))) (fun k hk hm => by have := (HO.out.lt k hk).1; simp at hm; omega))
  · have hs0 := S0.out
    exact (((B0.out.trans (b1.mono (by omega))).setCell (by first | omega | (simp; done) | (simp; omega)) _).setCell (by first | omega | (simp; done) | (simp; omega)) _).setCell (by first | omega | (simp; done) | (simp; omega)) _
  · simp [World.setCell]; omega
theorem below_grown_ {B : Nat} {a w w' : World} {g : Nat} (h : Below B a w) (hg : w.grownBy w' (some g)) (h0 : B ≤ g) (h1 : B ≤ w.heap.size) : Below B a w' := h.grown hg h1 (fun k e => by injection e with e; omega)
set_option maxRecDepth 100000 in
set_option maxHeartbeats 2000000 in
theorem toBranchS_any (A : Option Addr) (n c : Nat) (L : List Br) (w : World) (h : RdB w A n L) (hn : n ≤ 68719476736) (hs : szB L ≤ 1099511627776) :
    Calls Try.prog 47 #[.slice A n c] w (RetB w n L) := by
  obtain ⟨i0, hi, hz0, hz1, hz2⟩ := info_parts info_BranchE
  obtain ⟨w1, hrun, hown, hgr0⟩ := run_make_full (P := Try.prog) w w.heap.size 67 59 i0 _ 2 Try.underlying67 hi hz0 hz1 .i64 .i64 n (by rw [hz2]; omega) (by simp only [maxLen]; omega) (Nat.le_refl _)
  have HL := Lib.hid h.len
  have H := Lib.hid h
  clear h hi hz0 hz1 hz2
  have b1 : Below w.heap.size w w1 := (Below.refl _ _).grown hgr0 (Nat.le_refl _) (by simp)
  obtain ⟨zs, hzs⟩ : ∃ zs, zs = (madeCells (Value.agg #[.int .i64 0, .slice none 0 0]).cells (n * 2)).toList := ⟨_, rfl⟩
  rw [← hzs] at hown
  have hzl := hown.1
  have HZ := Lib.hid hzl
  clear hzs hgr0 hzl
  go_enter Try.func47, Try.ntmps47
  go_wp2_with fail
  clear hrun
  go_loopw [4] (fun i wr => ∃ (t : Nat) (S : List Value) (F : List Nat), t ≤ n ∧ i = .int .i64 t ∧ S.length = t * 2 ∧ wr.ownsRow w.heap.size 59 2 (.slice (some ⟨w.heap.size, 0, none⟩) n n) n (S ++ zs.drop (t * 2)) ∧ (w.heap.size :: F).Nodup ∧ RowsB wr w.heap.size (L.take t) S F ∧ Below w.heap.size w wr) (fun i _ => n - (intOf i).toNat)
  case atStart => exact ⟨0, [], [], Nat.zero_le _, rfl, rfl, by simpa using hown, by simp, ⟨rfl, rfl⟩, b1⟩
  case round =>
    clear hown b1
    obtain ⟨t, S, F, ht, rfl, hSl, hown, hnd, hrows, hb⟩ := hrel
    have hbs := hb.size
    have HSL := Lib.hid hSl
    have HND := Lib.hid hnd
    have HROW := Lib.hid hrows
    clear hSl hnd hrows
    by_cases hlt : t < n
    · have htl : t < L.length := by rw [HL.out]; exact hlt
      obtain ⟨x, hx⟩ : ∃ x, L[t]? = some x := ⟨_, List.getElem?_eq_getElem htl⟩
      obtain ⟨b, off, a, c', rfl, hbl, q0, q1, _, _, hrd⟩ := (H.out.below hb).at hx
      have hrl := szB_at hx
      have HR := Lib.hid hx
      have HRD := Lib.hid hrd
      clear hx htl hrd
      go_wp2_with fail
      refine (toBranch_any _ _ _ _ x.M _ HRD.out (by omega) (by omega)).mono ?_
      rintro e w2 ⟨a2, c2, G, rfl, own2, hb2, hs2⟩
      have hown2 := ownsRow_below hown hb2
      have hltB : w.heap.size < wr.heap.size := (hown.lt _ rfl).2
      have HO2 := Lib.hid own2
      have hf := hown2.frozenAt
      have hz := hown2.cellAt
      have hll := hown2.1
      obtain ⟨y0, z0⟩ : ∃ y, w2.cell? ⟨w.heap.size, t * 2, none⟩ = some y := ⟨_, (hz _ (by omega)).trans (List.getElem?_eq_getElem (by omega))⟩
      obtain ⟨y1, z1⟩ : ∃ y, w2.cell? ⟨w.heap.size, t * 2 + 1, none⟩ = some y := ⟨_, (hz _ (by omega)).trans (List.getElem?_eq_getElem (by omega))⟩
      have f0 := hf (t * 2)
      have f1 := hf (t * 2 + 1)
      clear hf hz hll q0 q1 own2 hown
      go_wp2_with fail
      go_roundw
      case rel =>
        have s0 := hown2.stored (t * 2) (.int .i64 x.b)
        have s1 := s0.1.stored (t * 2 + 1) (.slice a2 x.M.length c2)
        rw [fill_step HSL.out (by rw [HZ.out]; omega), fill_step (by simp [HSL.out]) (by rw [HZ.out]; omega)] at s1
        rw [show t * 2 + 1 + 1 = (t + 1) * 2 from by omega] at s1
        have hG := HO2.out.lt
        have hF := HROW.out.lt
        have hndc := List.nodup_cons.1 HND.out
        have k2 : Kin [w.heap.size] w2 ((w2.setCell ⟨w.heap.size, t * 2, none⟩ (.int .i64 x.b)).setCell ⟨w.heap.size, t * 2 + 1, none⟩ (.slice a2 x.M.length c2)) := (kin_setCell _ _ _ _).trans (kin_setCell _ _ _ _)
        have r1 := (HROW.out.kin (kin_of_below [] hb2) (by simp)).kin k2 (fun k hk hm => by simp at hm; subst hm; exact hndc.1 hk)
        have r2 := (HO2.out.base_le (base' := w.heap.size) (by omega)).kin k2 (fun k hk hm => by simp at hm; have := (hG k hk).1; omega)
        refine ⟨t + 1, (S ++ [.int .i64 x.b]) ++ [.slice a2 x.M.length c2], F ++ G, by omega, by go_num, by simp [HSL.out]; omega, s1.1, ?_, ?_, ?_⟩
        · refine List.nodup_cons.2 ⟨fun hm => ?_, List.nodup_append.2 ⟨hndc.2, ?_, ?_⟩⟩
          · rcases List.mem_append.1 hm with hm | hm
            · exact hndc.1 hm
            · have := (hG _ hm).1; omega
          · obtain ⟨_, _, _, _, hn, _⟩ := HO2.out; exact hn
          · intro p hp q hq e
            subst e
            have h1 := (hF p hp).2
            have h2 := (hG p hq).1
            omega
        · rw [List.take_add_one, HR.out, List.append_assoc]
          exact r1.app (rowsB_one r2)
        · exact below_grown_ (below_grown_ (hb.trans (hb2.mono hbs)) s0.2 (Nat.le_refl _) (by omega)) s1.2 (Nat.le_refl _) (by simp; omega)
      case measure => simp [intOf]; omega
    · obtain rfl : t = n := by omega
      go_wp2_with fail
      go_ret
      refine ⟨_, _, rfl, ⟨S, F, HL.out, ?_, ?_, rfl, HND.out⟩, hb, hb.size⟩
      · rw [List.drop_of_length_le (by rw [HZ.out]; exact Nat.le_refl _), List.append_nil] at hown; exact hown
      · have h := HROW.out
        rw [List.take_of_length_le (by rw [HL.out]; exact Nat.le_refl _)] at h
        exact h
set_option maxRecDepth 100000 in
set_option maxHeartbeats 1000000 in
theorem eqBranchS_same (A A' : Option Addr) (n c c' : Nat) (L : List Br) (w : World) (h1 : RdB w A n L) (h2 : RdB w A' n L) (hn : n ≤ 1099511627776) (hs : szB L ≤ 1099511627776) :
    Calls Try.prog 49 #[.slice A n c, .slice A' n c'] w fun e w' => e = .returned (.bool true) ∧ Below w.heap.size w w' ∧ w.heap.size ≤ w'.heap.size := by
  have HL := Lib.hid h1.len
  have H1 := Lib.hid h1
  have H2 := Lib.hid h2
  clear h1 h2
  go_enter Try.func49, Try.ntmps49
  go_wp2_with fail
  go_loopw [5] (fun i wr => ∃ k : Nat, k ≤ n ∧ i = .int .i64 k ∧ Below w.heap.size w wr) (fun i _ => n - (intOf i).toNat)
  case atStart => exact ⟨0, Nat.zero_le _, rfl, Below.refl _ _⟩
  case round =>
    obtain ⟨k, hk, rfl, hb⟩ := hrel
    by_cases hlt : k < n
    · have hkl : k < L.length := by rw [HL.out]; exact hlt
      obtain ⟨r, hr⟩ : ∃ r, L[k]? = some r := ⟨_, List.getElem?_eq_getElem hkl⟩
      obtain ⟨b, off, a, c1, rfl, _, q0, q1, _, _, hrd⟩ := (H1.out.below hb).at hr
      obtain ⟨b', off', a', c1', rfl, _, q0', q1', _, _, hrd'⟩ := (H2.out.below hb).at hr
      have hrl := szB_at hr
      have HR := Lib.hid hrd
      have HR' := Lib.hid hrd'
      clear hr hkl hrd hrd'
      go_wp2_with fail
      go_still_tail 8, (by kernel_rfl)
      change wpList _ _ _ _ _ wr.drew
      go_wp2_with (go_at_call 42; refine (eqBranch_same _ _ _ _ _ _ r.M _ HR.out.drew HR'.out.drew (by omega) (by omega)).mono ?_; rintro e w' ⟨rfl, hb', hs'⟩)
      go_roundw
      case rel => exact ⟨k + 1, by omega, by go_num, hb.drew.trans (hb'.mono hb.size)⟩
      case measure => simp [intOf]; omega
    · go_wp2_with fail
      go_ret
      exact ⟨rfl, hb, hb.size⟩
theorem markB_mid (k : Int) {L : List Br} {t : Nat} (ht : t < L.length) : (markB k (L.take t) ++ L.drop t).take t = markB k (L.take t) ∧ (markB k (L.take t) ++ L.drop t).drop (t + 1) = L.drop (t + 1) ∧ (markB k (L.take t) ++ L.drop t)[t]? = L[t]? := by
  have hl : (markB k (L.take t)).length = t := by rw [markB_length, List.length_take]; omega
  refine ⟨by rw [List.take_append_of_le_length (by omega), List.take_of_length_le (by omega)], ?_, ?_⟩
  · rw [List.drop_append, List.drop_of_length_le (by omega), hl, List.nil_append, List.drop_drop]
    congr 1
    omega
  · rw [List.getElem?_append_right (by omega), hl, Nat.sub_self, List.getElem?_drop, Nat.add_zero]
set_option maxRecDepth 100000 in
set_option maxHeartbeats 2000000 in
theorem markBranchS_any (v : Value) (n base : Nat) (L : List Br) (F : List Nat) (k : Int) (w : World) (hown : OwnB w base v n L F) (hn : n ≤ 68719476736) (hs : szB L ≤ 68719476736) (hk0 : 0 ≤ k) (hk1 : k ≤ 1048576) :
    Calls Try.prog 54 #[v, .int .i64 k] w fun e w' => e = .returned (.int .i64 (k + kB L)) ∧ OwnB w' base v n (markB k L) F ∧ Kin F w w' := by
  obtain ⟨S0, F0, h1, h2, h3, rfl, h4⟩ := hown
  have hkb := kB_le L
  rcases h2.2 with ⟨rfl, rfl⟩ | ⟨g, cap, cur, rfl, _, _, _, _, _, _⟩
  · obtain rfl : L = [] := List.eq_nil_of_length_eq_zero h1
    have h3' := h3
    obtain ⟨rfl, rfl⟩ := h3
    clear h2 h4 hkb h3'
    go_enter Try.func54, Try.ntmps54
    go_wp2
    refine wp_loop_rounds 1 ?_
    rw [rounds_succ]
    go_wp2
    go_ret
    exact ⟨by simp [kB], ⟨[], [], rfl, World.ownsRow_nil _ _ _ _, ⟨rfl, rfl⟩, by simp [Value.ownBlock], by simp [Value.ownBlock]⟩, Kin.refl _ _⟩
  have HL := Lib.hid h1
  have HN := Lib.hid h4
  have HS2 := Lib.hid h2
  have HR := Lib.hid h3
  have hkb2 : kB L ≤ 481036337152 := by omega
  clear h1 h2 h3 h4 hkb
  go_enter Try.func54, Try.ntmps54
  go_wp2_with fail
  go_loopw [1, 5] (fun kk i wr => ∃ (t : Nat) (S : List Value), t ≤ n ∧ i = .int .i64 t ∧ kk = .int .i64 (k + kB (L.take t)) ∧ wr.ownsRow base 59 2 (.slice (some ⟨g, 0, none⟩) n cap) n S ∧ RowsB wr base (markB k (L.take t) ++ L.drop t) S F0 ∧ Kin (g :: F0) w wr) (fun _ i _ => n - (intOf i).toNat)
  case atStart => exact ⟨0, S0, Nat.zero_le _, rfl, by simp [kB], HS2.out, by simpa [markB] using HR.out, Kin.refl _ _⟩
  case round =>
    obtain ⟨t, S, ht, rfl, rfl, ho, hrow, hkin⟩ := hrel
    have hz1 := kB_take_le L t
    obtain ⟨Z, hZ⟩ : ∃ Z, Z = kB (L.take t) := ⟨_, rfl⟩
    rw [← hZ] at hz1 ⊢
    have HZ := Lib.hid hZ
    clear hZ
    by_cases hlt : t < n
    · have htl : t < L.length := by rw [HL.out]; exact hlt
      obtain ⟨x, hx⟩ : ∃ x, L[t]? = some x := ⟨_, List.getElem?_eq_getElem htl⟩
      have hmid := markB_mid k htl
      obtain ⟨a, c', G, S1, S2, F1, F2, hS, hF, hSl, r1, ro, r2⟩ := hrow.split (hmid.2.2.trans hx)
      rw [hmid.1] at r1
      rw [hmid.2.1] at r2
      subst hS
      have hnd : (g :: (F1 ++ (G ++ F2))).Nodup := by have h := HN.out; rw [hF] at h; exact h
      have hgG : g ∉ G := fun hm => (List.nodup_cons.1 hnd).1 (by simp [hm])
      have hcl := ho.cellAt
      have hll := ho.1
      have f0 := ho.frozenAt (t * 2)
      have q0 : wr.cell? ⟨g, t * 2, none⟩ = some (.int .i64 x.b) := (hcl _ (by omega)).trans (by rw [List.getElem?_append_right (by omega), hSl, Nat.sub_self]; rfl)
      have q1 : wr.cell? ⟨g, t * 2 + 1, none⟩ = some (.slice a x.M.length c') := (hcl _ (by omega)).trans (by rw [List.getElem?_append_right (by omega), hSl, show t * 2 + 1 - t * 2 = 1 from by omega]; rfl)
      have s0 := ho.stored (t * 2) (.int .i64 (k + Z))
      have K1 : Kin [g] wr (wr.setCell ⟨g, t * 2, none⟩ (.int .i64 (k + Z))) := kin_setCell _ _ _ _
      have hxl := szB_at hx
      have HT := Lib.hid (kB_take L t x hx)
      have HM := Lib.hid (markB_take k L t x hx)
      have ro1 := ro.kin K1 (fun q hq hm => hgG (by simp at hm; subst hm; exact hq))
      have HRO := Lib.hid ro1
      have HR1 := Lib.hid r1
      have HR2 := Lib.hid r2
      have HS0 := Lib.hid s0
      have HK := Lib.hid hkin
      have HK1 := Lib.hid K1
      have HFe := Lib.hid hF
      have HND := Lib.hid hnd
      have HSL := Lib.hid hSl
      clear hcl hll ho hrow hmid r1 r2 ro ro1 hx htl s0 hkin K1 hF hnd hgG hSl
      go_wp2_with fail
      refine (markDOmegaSS_any _ _ base x.M G (k + Z + 1) _ HRO.out (by omega) (by omega) (by omega) (by omega)).mono ?_
      rintro e w1 ⟨rfl, o1, k1⟩
      have HO1 := Lib.hid o1
      have HK2 := Lib.hid k1
      clear o1 k1 q0 q1 f0
      go_wp2_with fail
      go_roundw
      case rel =>
        have hnd := HND.out
        have hndc := List.nodup_cons.1 hnd
        have hnd2 := List.nodup_append.1 hndc.2
        have hnd3 := List.nodup_append.1 hnd2.2.1
        have K12 : Kin (g :: G) wr w1 := (HK1.out.mono (by simp)).trans (HK2.out.mono (fun x hx => by simp [hx]))
        have r1 := HR1.out.kin K12 (fun q hq hm => by
          rcases List.mem_cons.1 hm with hm | hm
          · subst hm; exact hndc.1 (by simp [hq])
          · exact hnd2.2.2 q hq q (by simp [hm]) rfl)
        have r2 := HR2.out.kin K12 (fun q hq hm => by
          rcases List.mem_cons.1 hm with hm | hm
          · subst hm; exact hndc.1 (by simp [hq])
          · exact hnd3.2.2 q hm q hq rfl)
        refine ⟨t + 1, S1 ++ ([.int .i64 (k + Z), .slice a x.M.length c'] ++ S2), by omega, by go_num, by rw [HT.out, ← HZ.out]; congr 1; omega, ?_, ?_, ?_⟩
        · have h := own_kin HS0.out.1 HK2.out (fun q e hq => hndc.1 (by simp [Value.ownBlock] at e; subst e; simp [hq]))
          rw [List.set_append_right _ _ (by rw [HSL.out]; exact Nat.le_refl _), HSL.out, Nat.sub_self] at h
          exact h
        · rw [HM.out, HFe.out, ← HZ.out, List.append_assoc]
          have o1 := HO1.out
          rw [← markM_length (k + Z + 1) x.M] at o1
          have hone := rowsB_one (b := k + Z) o1
          rw [markM_length] at hone
          exact r1.app (hone.app r2)
        · rw [HFe.out]
          exact (HFe.out ▸ HK.out).trans (K12.mono (fun q hq => by rcases List.mem_cons.1 hq with hq | hq <;> simp [hq]))
      case measure => simp [intOf]; omega
    · obtain rfl : t = n := by omega
      have HF : Hid (Z = kB L) := by
        have h := HZ.out
        rw [List.take_of_length_le (by rw [HL.out]; exact Nat.le_refl _)] at h
        exact h
      have HROW := Lib.hid hrow
      clear hrow
      go_wp2_with fail
      go_ret
      refine ⟨by rw [← HF.out]; rfl, ⟨S, F0, by rw [markB_length]; exact HL.out, ho, ?_, rfl, HN.out⟩, hkin⟩
      have h := HROW.out
      rw [List.take_of_length_le (by rw [HL.out]; exact Nat.le_refl _), List.drop_of_length_le (by rw [HL.out]; exact Nat.le_refl _), List.append_nil] at h
      exact h
set_option maxRecDepth 100000 in
set_option maxHeartbeats 1000000 in
theorem heldBranchS_any (A : Option Addr) (n c : Nat) (L : List Br) (k : Int) (w : World) (h : RdB w A n (markB k L)) (hn : n ≤ 68719476736) (hs : szB L ≤ 68719476736) (hk0 : 0 ≤ k) (hk1 : k ≤ 1048576) :
    Calls Try.prog 55 #[.slice A n c, .int .i64 k] w fun e w' => e = .returned (.int .i64 (k + kB L)) ∧ w = w' := by
  have HL := Lib.hid (show L.length = n by rw [← markB_length k L]; exact h.len)
  have H := Lib.hid h
  have hkb := kB_le L
  have hkb2 : kB L ≤ 481036337152 := by have := HL.out; omega
  clear h hkb
  go_enter Try.func55, Try.ntmps55
  go_wp2_with fail
  go_loop [1, 5] (fun kk i => ∃ t : Nat, t ≤ n ∧ i = .int .i64 t ∧ kk = .int .i64 (k + kB (L.take t))) (fun _ i => n - (intOf i).toNat)
  case atStart => exact ⟨0, Nat.zero_le _, rfl, by simp [kB]⟩
  case round =>
    obtain ⟨t, ht, rfl, rfl⟩ := hrel
    have hz1 := kB_take_le L t
    by_cases hlt : t < n
    · have htl : t < L.length := by rw [HL.out]; exact hlt
      obtain ⟨x, hx⟩ : ∃ x, L[t]? = some x := ⟨_, List.getElem?_eq_getElem htl⟩
      obtain ⟨b, off, a, c', rfl, hbl, q0, q1, _, _, hrd⟩ := H.out.at (markB_at k L t x hx)
      dsimp only at q0 q1 hrd
      rw [markM_length] at q1 hrd
      have hxl := szB_at hx
      have HT := Lib.hid (kB_take L t x hx)
      obtain ⟨Z, hZ⟩ : ∃ Z, Z = kB (L.take t) := ⟨_, rfl⟩
      rw [← hZ] at hz1 q0 hrd ⊢
      have HZ := Lib.hid hZ
      have HRD := Lib.hid hrd
      clear hZ hx htl hrd
      go_wp2_with fail
      refine (heldDOmegaSS_any _ _ _ x.M _ _ HRD.out (by omega) (by omega) (by omega) (by omega)).mono ?_
      rintro e w' ⟨rfl, rfl⟩
      go_wp2_with fail
      go_round
      case rel => exact ⟨t + 1, by omega, by go_num, by rw [HT.out, ← HZ.out]; congr 1; omega⟩
      case measure => simp [intOf]; omega
    · obtain rfl : t = n := by omega
      rw [List.take_of_length_le (by rw [HL.out]; exact Nat.le_refl _)]
      go_wp2_with fail
      go_ret
      exact ⟨rfl, rfl⟩
end Go.Proofs.Ytbffpehajkgjeaa
