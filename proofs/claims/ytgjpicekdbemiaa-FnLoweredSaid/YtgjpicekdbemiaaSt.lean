/- The reference's tests of a state: how many qubits, is it valid. -/
import Derived.Test.YtgjpicekdbemiaaDwS
import Derived.Test.YtgjpicekdbemiaaGp
import Derived.Test.YtgjpicekdbemiaaDOmegaS
namespace Go.Proofs.Ytgjpicekdbemiaa
open Go.RowKit
set_option linter.unusedVariables false
set_option maxRecDepth 100000 in
set_option maxHeartbeats 2000000 in
theorem QubitCount_any (A : Option Addr) (m c : Nat) (w : World) (hm : m ≤ 1099511627776) : Calls Try.prog 46 #[.slice A m c] w fun e w' => e = .returned (.int .i64 (qc m)) ∧ w = w' := by
  obtain ⟨r, hr⟩ : ∃ r, r = qc m := ⟨_, rfl⟩
  rw [← hr]
  have HR := Lib.hid hr
  clear hr
  go_enter Try.func46, Try.ntmps46
  go_wp2
  go_loop [3] (fun i => ∃ t : Nat, i = .int .i64 t ∧ 1 ≤ t ∧ t ≤ 5 ∧ (1 < t → m ≠ 2) ∧ (2 < t → m ≠ 4) ∧ (3 < t → m ≠ 8) ∧ (4 < t → m ≠ 16)) (fun i => 5 - (intOf i).toNat)
  case atStart => exact ⟨1, rfl, by omega, by omega, by omega, by omega, by omega, by omega⟩
  case round =>
    obtain ⟨t, rfl, h1, h5, h2, h3, h4, h6⟩ := hrel
    have K2 := Lib.hid h2
    have K3 := Lib.hid h3
    have K4 := Lib.hid h4
    have K6 := Lib.hid h6
    clear h2 h3 h4 h6
    obtain rfl | rfl | rfl | rfl | rfl : t = 1 ∨ t = 2 ∨ t = 3 ∨ t = 4 ∨ t = 5 := by omega
    · by_cases hm2 : m = 2
      · subst hm2
        go_wp2
        go_ret
        exact ⟨by rw [HR.out]; rfl, rfl⟩
      · have hd : ((m : Int) == 2) = false := by simp; omega
        go_wp2
        go_round
        case rel => exact ⟨2, rfl, by omega, by omega, fun _ => hm2, fun h => absurd h (by omega), fun h => absurd h (by omega), fun h => absurd h (by omega)⟩
        case measure => simp [intOf]
    · by_cases hm2 : m = 4
      · subst hm2
        go_wp2
        go_ret
        exact ⟨by rw [HR.out]; rfl, rfl⟩
      · have hd : ((m : Int) == 4) = false := by simp; omega
        go_wp2
        go_round
        case rel => exact ⟨3, rfl, by omega, by omega, fun _ => K2.out (by omega), fun _ => hm2, fun h => absurd h (by omega), fun h => absurd h (by omega)⟩
        case measure => simp [intOf]
    · by_cases hm2 : m = 8
      · subst hm2
        go_wp2
        go_ret
        exact ⟨by rw [HR.out]; rfl, rfl⟩
      · have hd : ((m : Int) == 8) = false := by simp; omega
        go_wp2
        go_round
        case rel => exact ⟨4, rfl, by omega, by omega, fun _ => K2.out (by omega), fun _ => K3.out (by omega), fun _ => hm2, fun h => absurd h (by omega)⟩
        case measure => simp [intOf]
    · by_cases hm2 : m = 16
      · subst hm2
        go_wp2
        go_ret
        exact ⟨by rw [HR.out]; rfl, rfl⟩
      · have hd : ((m : Int) == 16) = false := by simp; omega
        go_wp2
        go_round
        case rel => exact ⟨5, rfl, by omega, by omega, fun _ => K2.out (by omega), fun _ => K3.out (by omega), fun _ => K4.out (by omega), fun _ => hm2⟩
        case measure => simp [intOf]
    · go_wp2
      go_ret
      have := K2.out (by omega)
      have := K3.out (by omega)
      have := K4.out (by omega)
      have := K6.out (by omega)
      have e : r = 0 := by rw [HR.out]; unfold qc; simp [*]
      exact ⟨by rw [e]; rfl, rfl⟩
theorem stOk_f {l : List Dm} {g : Dm} (hg : g ∈ l) (h : dOk g = false) : stOk l = false := by
  unfold stOk
  have : l.all dOk = false := by
    rw [List.all_eq_false]
    exact ⟨g, hg, by rw [h]; decide⟩
  rw [this, Bool.false_and]
theorem stOk_t {l : List Dm} (h : l.all dOk = true) : stOk l = decide (0 < qc l.length) := by unfold stOk; rw [h, Bool.true_and]
set_option maxRecDepth 100000 in
set_option maxHeartbeats 2000000 in
theorem IsValidState_any (A : Option Addr) (n c : Nat) (l : List Dm) (w : World) (h : Rd w 5 A n (l.flatMap dcells)) (hl : l.length = n) (hn : n ≤ 1099511627776) :
    Calls Try.prog 35 #[.slice A n c] w (Ret (.bool (stOk l)) w) := by
  obtain ⟨r, hr⟩ : ∃ r, r = stOk l := ⟨_, rfl⟩
  rw [← hr]
  have HR := Lib.hid hr
  have H := Lib.hid h
  have HL := Lib.hid hl
  clear hr h hl
  go_enter Try.func35, Try.ntmps35
  go_wp2
  go_loopw [3] (fun i wr => ∃ t : Nat, i = .int .i64 t ∧ t ≤ n ∧ (l.take t).all dOk = true ∧ Below w.heap.size w wr) (fun i _ => n - (intOf i).toNat)
  case atStart => exact ⟨0, rfl, Nat.zero_le _, rfl, Below.refl _ _⟩
  case round =>
    obtain ⟨t, rfl, ht, hall, hb⟩ := hrel
    have HA := Lib.hid hall
    clear hall
    by_cases hlt : t < n
    · obtain ⟨g, hg⟩ : ∃ g, l[t]? = some g := ⟨_, List.getElem?_eq_getElem (by rw [HL.out]; exact hlt)⟩
      obtain ⟨b, off, rfl, _, hc⟩ := (H.out.below hb).2 (by omega)
      have q0 := hc (t * 5 + 0) _ (flat_at dcells_len l t g 0 hg (by decide))
      have q1 := hc (t * 5 + 1) _ (flat_at dcells_len l t g 1 hg (by decide))
      have q2 := hc (t * 5 + 2) _ (flat_at dcells_len l t g 2 hg (by decide))
      have q3 := hc (t * 5 + 3) _ (flat_at dcells_len l t g 3 hg (by decide))
      have q4 := hc (t * 5 + 4) _ (flat_at dcells_len l t g 4 hg (by decide))
      rw [← Nat.add_assoc] at q1 q2 q3 q4
      rw [Nat.add_zero] at q0
      have HG := Lib.hid hg
      clear hc hg
      cases hd : dOk g
      · go_wp2_with (go_at_call 45; refine (IsValidDOmega_any _ _ _ _ _ _).mono ?_; rw [show dOk ⟨g.a, g.b, g.c, g.d, g.e⟩ = false from hd]; rintro e w1 ⟨rfl, hb1, hs1⟩)
        go_ret
        have e : r = false := by rw [HR.out]; exact stOk_f (List.mem_of_getElem? HG.out) hd
        exact ⟨by rw [e]; rfl, hb.trans (hb1.mono hb.size), by have := hb.size; have := hb1.size; omega⟩
      · go_wp2_with (go_at_call 45; refine (IsValidDOmega_any _ _ _ _ _ _).mono ?_; rw [show dOk ⟨g.a, g.b, g.c, g.d, g.e⟩ = true from hd]; rintro e w1 ⟨rfl, hb1, hs1⟩)
        go_roundw
        case rel =>
          refine ⟨t + 1, by go_num, by omega, ?_, hb.trans (hb1.mono hb.size)⟩
          rw [List.take_add_one, HG.out, List.all_append, HA.out]
          simp [hd]
        case measure => simp [intOf]; omega
    · obtain rfl : t = n := by omega
      have hall : l.all dOk = true := by have := HA.out; rwa [List.take_of_length_le (by rw [HL.out]; exact Nat.le_refl _)] at this
      have e := HR.out
      rw [stOk_t hall, HL.out] at e
      have E := Lib.hid e
      clear e hall
      go_wp2_with (go_at_call 46; refine (QubitCount_any _ _ _ _ hn).mono ?_; rintro e w' ⟨rfl, rfl⟩)
      go_ret
      refine ⟨?_, hb, hb.size⟩
      rw [E.out]
      rfl
end Go.Proofs.Ytgjpicekdbemiaa
