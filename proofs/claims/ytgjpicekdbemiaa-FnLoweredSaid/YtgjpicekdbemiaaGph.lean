/- The reference's check of a square matrix of valid states, and the phase between two equal ones. -/
import Derived.Test.YtgjpicekdbemiaaScl
namespace Go.Proofs.Ytgjpicekdbemiaa
open Go.RowKit
set_option linter.unusedVariables false
theorem eqD_refl_l (l : List Dm) : eqBy eqD l l = true := by
  refine eqBy_t rfl ?_ (Nat.le_refl _)
  intro i _ x y hx hy
  rw [hx] at hy
  injection hy with hy
  subst hy
  exact eqD_refl x
theorem below_drewN_g {B : Nat} {w w' : World} (h : Below B w w') : ∀ m, Below B w (w'.drewN m)
  | m => ⟨h.os, h.tape, h.output, h.size, h.block⟩
theorem PhaseFactor_0 (w : World) : Calls Try.prog 41 #[.int .i64 0] w (Ret (.agg #[.int .i64 1, .int .i64 0, .int .i64 0, .int .i64 0, .int .i64 0]) w) := PhaseFactor_any 0 (by decide) w
set_option maxRecDepth 100000 in
set_option maxHeartbeats 4000000 in
theorem IsValidMatrix_t (A : Option Addr) (n c : Nat) (M : List (List Dm)) (w : World) (h : RdM w A n M) (h0 : 0 < n) (hn : n ≤ 1099511627776) (hM : ∀ r ∈ M, r.length = n ∧ stOk r = true) : Calls Try.prog 39 #[.slice A n c] w (Ret (.bool true) w) := by
  have H := Lib.hid h
  have HL := Lib.hid h.len
  have HM := Lib.hid hM
  clear h hM
  go_enter Try.func39, Try.ntmps39
  go_wp2_with fail
  go_loopw [3] (fun i wr => ∃ t : Nat, t ≤ n ∧ i = .int .i64 t ∧ Below w.heap.size w wr) (fun i _ => n - (intOf i).toNat)
  case atStart => exact ⟨0, Nat.zero_le _, rfl, Below.refl _ _⟩
  case round =>
    obtain ⟨t, ht, rfl, hb⟩ := hrel
    by_cases hlt : t < n
    · obtain ⟨r, hr⟩ : ∃ r, M[t]? = some r := ⟨_, List.getElem?_eq_getElem (by rw [HL.out]; exact hlt)⟩
      obtain ⟨b, off, a, c1, rfl, hbl, q0, _, _, hrd⟩ := (H.out.below hb).at hr
      obtain ⟨hrl, hrs⟩ := HM.out r (List.mem_of_getElem? hr)
      rw [hrl] at q0 hrd
      have HV := Lib.hid (hrs ▸ IsValidState_any a n c1 r wr hrd hrl hn)
      clear hr hrd hrl hrs
      go_wp2_with fail
      refine HV.out.mono ?_
      rintro e w1 ⟨rfl, hb1, hs1⟩
      have b1 := hb.trans (hb1.mono hb.size)
      clear HV hb1 hs1 q0
      go_wp2_with fail
      go_roundw
      case rel => exact ⟨t + 1, by omega, by go_num, b1⟩
      case measure => simp [intOf]; omega
    · obtain rfl : t = n := by omega
      have hd : decide ((0 : Int) < (t : Int)) = true := by simp; omega
      go_wp2_with fail
      go_ret
      exact ⟨rfl, hb, hb.size⟩
set_option maxRecDepth 100000 in
set_option maxHeartbeats 8000000 in
theorem GlobalPhase_t (A A' : Option Addr) (n c c' : Nat) (M : List (List Dm)) (w : World) (h : RdM w A n M) (h' : RdM w A' n M) (h0 : 0 < n) (hn : n ≤ 1099511627776) (hM : ∀ r ∈ M, r.length = n ∧ stOk r = true) :
    Calls Try.prog 22 #[.slice A n c, .slice A' n c'] w (Ret (.tuple #[.int .i64 0, .bool true]) w) := by
  have H := Lib.hid h
  have H' := Lib.hid h'
  have HL := Lib.hid h.len
  have HM := Lib.hid hM
  have HV := Lib.hid (IsValidMatrix_t A n c M w h h0 hn hM)
  have HV' := Lib.hid (fun (w' : World) (hb : Below w.heap.size w w') => IsValidMatrix_t A' n c' M w' (h'.below hb) h0 hn hM)
  clear h h' hM
  go_enter Try.func22, Try.ntmps22
  go_wp2_with fail
  refine HV.out.mono ?_
  rintro e w1 ⟨rfl, hb1, hs1⟩
  have HV1 := Lib.hid (HV'.out w1 hb1)
  clear HV HV'
  go_wp2_with fail
  refine HV1.out.mono ?_
  rintro e w2 ⟨rfl, hb2, hs2⟩
  have hb := hb1.trans (hb2.mono hs1)
  clear HV1 hb1 hb2 hs1 hs2
  go_wp2_with fail
  go_loopw [6] (fun i wr => i = .int .i64 0 ∧ Below w.heap.size w wr) (fun i _ => 0)
  case atStart => exact ⟨rfl, hb⟩
  case round =>
    clear hb
    obtain ⟨rfl, hb⟩ := hrel
    go_wp2_with fail
    go_loopw [7, 8] (fun v i wr => ∃ t : Nat, v = .bool true ∧ t ≤ n ∧ i = .int .i64 t ∧ Below w.heap.size w wr) (fun _ i _ => n - (intOf i).toNat)
    case atStart => exact ⟨0, rfl, Nat.zero_le _, rfl, hb⟩
    case round =>
      clear hb
      obtain ⟨t, rfl, ht, rfl, hb⟩ := hrel
      obtain ⟨wE, rfl⟩ : ∃ wE : World, wE = wr := ⟨_, rfl⟩
      by_cases hlt : t < n
      · obtain ⟨r, hr⟩ : ∃ r, M[t]? = some r := ⟨_, List.getElem?_eq_getElem (by rw [HL.out]; exact hlt)⟩
        obtain ⟨b, off, a, c1, rfl, hbl, q0, _, _, hrd⟩ := (H.out.below hb).at hr
        obtain ⟨b', off', a', c1', rfl, hbl', q0', _, _, hrd'⟩ := (H'.out.below hb).at hr
        obtain ⟨hrl, hrs⟩ := HM.out r (List.mem_of_getElem? hr)
        have HR := Lib.hid hrd
        have HR' := Lib.hid hrd'
        have HRL := Lib.hid (And.intro hrl hrs)
        have hrl2 : r.length ≤ 1099511627776 := by omega
        have KX : Hid (∀ W : World, Below wE.heap.size wE W → W.cell? ⟨b', off' + t, none⟩ = some (.slice a' r.length c1')) := Lib.hid fun W hW => (hW.cell (p := ⟨b', off' + t, none⟩) hbl').trans q0'
        have KD := Lib.hid (show Below wE.heap.size wE wE.drew from (Below.refl _ _).drew)
        clear hr hrd hrd' hrl hrs q0'
        go_upto_region 10 with (fail)
        go_cut [9, 10] (fun v okv wx => ∃ (A2 : Option Addr) (c2 : Nat), v = .slice A2 r.length c2 ∧ okv = .bool true ∧ Rd wx 5 A2 r.length (r.flatMap dcells) ∧ Below wE.heap.size wE wx)
        case first =>
          go_region_held3 (fun W => W.cell? ⟨b', off' + t, none⟩ = some (.slice a' r.length c1')) ((refine KX.out _ ?_; first | with_reducible exact Below.refl _ _ | with_reducible exact KD.out | with_reducible exact c1 | with_reducible exact c2)) (first | (go_at_call 41; (with_reducible refine (PhaseFactor_0 _).mono ?_); rintro e w5 ⟨rfl, hc5, hs5⟩; have c1 : Below wE.heap.size wE w5 := below_undrewA hc5) | (go_at_call 40; (with_reducible refine (ScaleState_one a' r.length c1' r _ (HR'.out.below c1) rfl hrl2 HRL.out.2).mono ?_); rintro e w6 ⟨A6, c6, rfl, ho6, hc6, hs6⟩; have c2 : Below wE.heap.size wE w6 := c1.trans (hc6.mono c1.size); have ho7 := rd_own ho6))
          all_goals (go_wp2_with (fail); go_meet; exact ⟨A6, c6, rfl, rfl, ho7, c2⟩)
        case rest =>
          obtain ⟨A2, c2, rfl, rfl, hr2, hb2⟩ := hcut
          obtain ⟨wF, rfl⟩ : ∃ wF : World, wF = wc := ⟨_, rfl⟩
          have q1 := (hb2.cell (p := ⟨b, off + t, none⟩) hbl).trans q0
          have HE := Lib.hid (eqD_refl_l r ▸ EqualState_spec A2 a r.length r.length c2 c1 r r wF rfl rfl hrl2 hr2 (HR.out.below hb2))
          have b2 := hb.trans (hb2.mono hb.size)
          clear q0 hr2 hb2
          go_wp2_with fail
          refine HE.out.mono ?_
          rintro e w7 ⟨rfl, m, rfl⟩
          have b3 : Below w.heap.size w (wF.drewN m) := below_drewN_g b2 m
          clear HE q1
          go_wp2_with fail
          go_roundw
          case rel => exact ⟨t + 1, rfl, by omega, by go_num, b3⟩
          case measure => simp [intOf]; omega
      · obtain rfl : t = n := by omega
        go_wp2_with fail
        exact bodyPost_ret (v := .tuple #[.int .i64 0, .bool true]) (by simp [results, Try.results22, go_sem]) rfl ⟨rfl, hb, hb.size⟩
end Go.Proofs.Ytgjpicekdbemiaa
