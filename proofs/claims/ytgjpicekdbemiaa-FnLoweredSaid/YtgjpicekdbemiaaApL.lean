/- The reference's application of a list of gates to a state: it returns what the plain function says. -/
import Derived.Test.YtgjpicekdbemiaaApG
namespace Go.Proofs.Ytgjpicekdbemiaa
open Go.RowKit
set_option linter.unusedVariables false
theorem dones (l : List Dm) : ∀ u ∈ l.flatMap dcells, u.oneCell' = true := one_flat dcells_one l
section
attribute [local go_sem ↓ high] fold_append
set_option maxRecDepth 100000 in
set_option maxHeartbeats 4000000 in
theorem l6Copy_any (A : Option Addr) (n c : Nat) (l : List Dm) (w : World) (h : Rd w 5 A n (l.flatMap dcells)) (hn : n ≤ 1099511627776) : Calls Try.prog 36 #[.slice A n c] w (RetRow 67 5 w n (l.flatMap dcells)) := by
  obtain ⟨i0, hi, hz0, hz1, hz2⟩ := info_parts info_DOmegaE
  obtain ⟨v3, w3, hrun3, hown3, hgrow3, hat3⟩ := run_append_rd (P := Try.prog) (w.alloc (.cells #[] 67)) w.heap.size 47 47 67 i0 _ 5 40 Try.underlying47 hi hz0 hz1 hz2 rfl (by omega) (.slice (some ⟨w.heap.size, 0, none⟩) 0 0) 0 [] (own_empty _ _ _) A n c (l.flatMap dcells) (h.below ((Below.refl _ _).alloc (Nat.le_refl _) _)) (dones l) (by simp only [maxLen]; omega) (by omega) (by simp)
  have FIN := Lib.hid (show RetRow 67 5 w n (l.flatMap dcells) (.returned v3) w3 from ⟨v3, rfl, by simpa using hown3, ((Below.refl w.heap.size w).alloc (Nat.le_refl _) _).grown hgrow3 (by simp) (fun k hk => by have e : w.heap.size = k := (by simpa [Value.ownBlock] using hk); omega), by have := hgrow3.size; simp at this; omega⟩)
  rw [fold_append] at hrun3
  clear hown3 hgrow3 hat3
  go_enter Try.func36, Try.ntmps36
  go_wp2_with fail
  go_ret
  exact FIN.out
end
theorem apGs_none {gs : List Gt} {l : List Dm} {g : Gt} (h : apG g l = none) : apGs (g :: gs) l = none := by rw [apGs, h]
set_option maxRecDepth 100000 in
set_option maxHeartbeats 8000000 in
theorem ApplyGates_any (Ag : Option Addr) (ng cg : Nat) (gs : List Gt) (A : Option Addr) (n c : Nat) (l : List Dm) (w : World) (hg : Rd w 4 Ag ng (gs.flatMap gcells)) (hgl : gs.length = ng) (hng : ng ≤ 1099511627776) (h : Rd w 5 A n (l.flatMap dcells)) (hl : l.length = n) (hn : n ≤ 1099511627776) (hok : stOk l = true) :
    Calls Try.prog 20 #[.slice Ag ng cg, .slice A n c] w (RetAp w (apGs gs l)) := by
  have HV := Lib.hid (hok ▸ IsValidState_any A n c l w h hl hn)
  have HG := Lib.hid hg
  have HGL := Lib.hid hgl
  have H := Lib.hid h
  have HL := Lib.hid hl
  clear hg hgl h hl hok
  go_enter Try.func20, Try.ntmps20
  go_wp2_with fail
  refine HV.out.mono ?_
  rintro e w1 ⟨rfl, hb1, hs1⟩
  have HC := Lib.hid (l6Copy_any A n c l w1 (H.out.below hb1) hn)
  have B1 := Lib.hid hb1
  clear hb1
  go_wp2_with fail
  refine HC.out.mono ?_
  rintro e w2 ⟨v2, rfl, ho2, hb2, hs2⟩
  obtain ⟨A2, c2, rfl, _, _, _⟩ := rd_of_own ho2
  have hb := B1.out.trans (hb2.mono hs1)
  have ho2' := own_lowS ho2 hs1
  clear HC ho2 hb2
  go_wp2_with fail
  go_loopw [6, 7] (fun v i wr => ∃ (t : Nat) (A3 : Option Addr) (c3 : Nat) (o : List Dm), i = .int .i64 t ∧ v = .slice A3 n c3 ∧ t ≤ ng ∧ o.length = n ∧ wr.ownsRow w.heap.size 67 5 (.slice A3 n c3) n (o.flatMap dcells) ∧ apGs gs l = apGs (gs.drop t) o ∧ Below w.heap.size w wr) (fun _ i _ => ng - (intOf i).toNat)
  case atStart => exact ⟨0, A2, c2, l, rfl, rfl, Nat.zero_le _, HL.out, ho2', rfl, hb⟩
  case round =>
    clear ho2' hb
    obtain ⟨t, A3, c3, o, rfl, rfl, ht, hol, hown, hap, hb⟩ := hrel
    have HAP := Lib.hid hap
    have hsw := hb.size
    clear hap
    by_cases hlt : t < ng
    · obtain ⟨g, hgt⟩ : ∃ g, gs[t]? = some g := ⟨_, List.getElem?_eq_getElem (by rw [HGL.out]; exact hlt)⟩
      obtain ⟨b, off, rfl, _, hc⟩ := (HG.out.below hb).2 (by omega)
      have q0 := hc (t * 4 + 0) _ (flat_at gcells_length gs t g 0 hgt (by decide))
      have q1 := hc (t * 4 + 1) _ (flat_at gcells_length gs t g 1 hgt (by decide))
      have q2 := hc (t * 4 + 2) _ (flat_at gcells_length gs t g 2 hgt (by decide))
      have q3 := hc (t * 4 + 3) _ (flat_at gcells_length gs t g 3 hgt (by decide))
      rw [← Nat.add_assoc] at q1 q2 q3
      rw [Nat.add_zero] at q0
      have HDR := Lib.hid (show gs.drop t = g :: gs.drop (t + 1) by
        obtain ⟨h1, h2⟩ := List.getElem?_eq_some_iff.1 hgt
        rw [List.drop_eq_getElem_cons h1, h2])
      have HA := Lib.hid (ApplyGate_any g.k g.a g.b g.c A3 n c3 o wr (rd_own hown) hol hn)
      clear hc hgt hown
      go_wp2_with fail
      refine HA.out.mono ?_
      rintro e w4 ⟨A4, n4, c4, ok, o4, rfl, hok, hol4, hown4, hb4, hs4⟩
      have HOK := Lib.hid hok
      have b4 := hb.trans (hb4.mono hsw)
      have hown4' := own_lowS hown4 hsw
      clear q0 q1 q2 q3 hok HA hown4
      cases ok
      · have HN := Lib.hid (show apGs gs l = none by
          rw [HAP.out, HDR.out]
          rcases HOK.out with ⟨h1, _⟩ | ⟨_, h1, _⟩
          · cases h1
          · exact apGs_none h1)
        go_wp2_with fail
        exact bodyPost_ret (v := .tuple #[.slice (some ⟨w4.heap.size, 0, none⟩) 0 0, .bool false]) (by simp [results, Try.results20, go_sem]) rfl (retAp_none HN.out b4.size b4 rfl)
      · have hst : apG g o = some o4 := by
          rcases HOK.out with ⟨_, h1⟩ | ⟨h1, _⟩
          · exact h1
          · cases h1
        have hlen := apG_len hst
        obtain rfl : n4 = n := by omega
        have HST := Lib.hid (show apGs gs l = apGs (gs.drop (t + 1)) o4 by rw [HAP.out, HDR.out, apGs, hst])
        clear hst hlen
        go_wp2_with fail
        go_roundw
        case rel => exact ⟨t + 1, A4, c4, o4, by go_num, rfl, by omega, hol4, hown4', HST.out, b4⟩
        case measure => simp [intOf]; omega
    · obtain rfl : t = ng := by omega
      have HE := Lib.hid (show apGs gs l = some o by rw [HAP.out, List.drop_of_length_le (by rw [HGL.out]; exact Nat.le_refl _)]; rfl)
      go_wp2_with fail
      exact bodyPost_ret (v := .tuple #[.slice A3 n c3, .bool true]) (by simp [results, Try.results20, go_sem]) rfl ⟨A3, n, c3, true, o, rfl, .inl ⟨rfl, HE.out⟩, hol, hown, hb, hsw⟩
end Go.Proofs.Ytgjpicekdbemiaa
