/- Copying a list of states, by the reference. -/
import Derived.Test.YtgmaokpebaebkaaMeasI
import Derived.Test.YtgmaokpebaebkaaMatS
namespace Go.Proofs.Ytgmaokpebaebkaa
open Go.RowKit
set_option linter.unusedVariables false
theorem rd_litC {w : World} {cs : Array Value} {e n size b : Nat} (h0 : b = w.heap.size) (hs : cs.size = n * size) : Rd (w.alloc (.cells cs e)) size (some ⟨b, 0, none⟩) n cs.toList := rd_lit2 h0 hs
theorem dcs_one (r : List Dm) : ∀ u ∈ r.flatMap dcells, u.oneCell' = true := one_flat dcells_one r
set_option maxRecDepth 100000 in
set_option maxHeartbeats 2000000 in
theorem l6Copy_any (A : Option Addr) (n c : Nat) (r : List Dm) (w : World) (h : Rd w 5 A n (r.flatMap dcells)) (hl : r.length = n) (hn : n ≤ 1099511627776) :
    Calls Try.prog 51 #[.slice A n c] w (RetRow 67 5 w n (r.flatMap dcells)) := by
  obtain ⟨i1, hi1, hy0, hy1, hy2⟩ := info_parts info_DOmegaE
  have hE := own_empty w 67 5
  have b0 : Below w.heap.size w (w.alloc (.cells #[] 67)) := (by repeat (first | exact Below.refl _ _ | assumption | (refine Below.trans ?_ (Below.mono (by assumption) (by first | omega | (simp; done) | (simp; omega)))) | (with_reducible refine Below.drew ?_) | (with_reducible refine Below.alloc ?_ (by first | omega | (simp; done) | (simp; omega)) _) | (with_reducible refine Below.setCell ?_ (by first | omega | (simp; done) | (simp; omega)) _)))
  have H := Lib.hid (h.below b0)
  have HE := Lib.hid hE
  clear h hE b0
  go_enter Try.func51, Try.ntmps51
  go_wp2_with (at_builtin; refine wpList_append_rd _ rfl _ _ 62 rfl w.heap.size 67 i1 _ 5 40 Try.underlying62 hi1 hy0 hy1 hy2 rfl (by decide) _ _ _ rfl HE.out _ _ _ _ rfl H.out (dcs_one r) ?c3 ?c4 ?c5 ?_)
  case c3 => simp only [maxLen]; omega
  case c4 => omega
  case c5 => simp
  intro v1 w1 own1 gr1 _
  have own1 : w1.ownsRow w.heap.size 67 5 v1 n (r.flatMap dcells) := by simpa using own1
  have b1 := ((Below.refl w.heap.size w).alloc (Nat.le_refl _) _).grown gr1 (by simp) (own_ge HE.out)
  clear gr1
  go_wp2_with fail
  go_ret
  exact ⟨_, rfl, own1, b1, b1.size⟩
set_option maxRecDepth 100000 in
set_option maxHeartbeats 4000000 in
theorem l7Copy_any (A : Option Addr) (n c : Nat) (M : List (List Dm)) (w : World) (h : RdM w A n M) (hn : n ≤ 68719476736) (hs : szM M ≤ 1099511627776) :
    Calls Try.prog 34 #[.slice A n c] w (RetM w n M) := by
  obtain ⟨i0, hi0, hz0, hz1, hz2⟩ := info_parts info_DOmegaSE
  have HL := Lib.hid h.len
  have H := Lib.hid h
  have hE := own_empty w 62 1
  have O0 : Hid (OwnM (w.alloc (.cells #[] 62)) w.heap.size (.slice (some ⟨w.heap.size, 0, none⟩) 0 0) 0 [] [w.heap.size]) := ⟨[], rfl, hE, rfl, by simp, by simp⟩
  clear h hE
  go_enter Try.func34, Try.ntmps34
  go_wp2_with fail
  go_loopw [3, 4] (fun v i wr => ∃ (t : Nat) (F : List Nat), t ≤ n ∧ i = .int .i64 t ∧ Hid (OwnM wr w.heap.size v t (M.take t) F) ∧ Below w.heap.size w wr) (fun _ i _ => n - (intOf i).toNat)
  case atStart => exact ⟨0, _, Nat.zero_le _, rfl, O0, (by repeat (first | exact Below.refl _ _ | assumption | (refine Below.trans ?_ (Below.mono (by assumption) (by first | omega | (simp; done) | (simp; omega)))) | (with_reducible refine Below.drew ?_) | (with_reducible refine Below.alloc ?_ (by first | omega | (simp; done) | (simp; omega)) _) | (with_reducible refine Below.setCell ?_ (by first | omega | (simp; done) | (simp; omega)) _)))⟩
  case round =>
    obtain ⟨t, F, ht, rfl, hown, hb⟩ := hrel
    have hbs := hb.size
    by_cases hlt : t < n
    · have htl : t < M.length := by rw [HL.out]; exact hlt
      obtain ⟨r, hr⟩ : ∃ r, M[t]? = some r := ⟨_, List.getElem?_eq_getElem htl⟩
      obtain ⟨bb, off, a, c1, rfl, hbl, z0, hc1, hc2, hrd⟩ := (H.out.below hb).at hr
      have hrl := szM_row hr
      have HT := Lib.hid (show M.take (t + 1) = M.take t ++ [r] by rw [List.take_add_one, hr]; rfl)
      have HB := Lib.hid hb
      have HRD := Lib.hid hrd
      clear hr htl hb hrd
      go_wp2_with fail
      refine (l6Copy_any a r.length c1 r wr HRD.out rfl (by omega)).mono ?_
      rintro e w1 ⟨u, rfl, own1, b1, s1⟩
      obtain ⟨S, hM1, hM2, hF, hN, hrows⟩ := hown.out.below b1
      have HN := Lib.hid (hF ▸ hN)
      have HR := Lib.hid hrows
      have HM1 := Lib.hid hM1
      have HM2 := Lib.hid hM2
      have HO1 := Lib.hid own1
      have HFL : Hid (∀ k ∈ F, k < wr.heap.size) := fun k hk => (hown.out.lt k hk).2
      have HFE := Lib.hid hF
      have HOV := Lib.hid (own_ge hM2)
      obtain ⟨a2, c2, rfl, _, _, _⟩ := rd_of_own own1
      have HB1 := Lib.hid (HB.out.trans (b1.mono hbs))
      clear hM1 hM2 hF hN hrows own1 b1 hown z0
      go_wp2_with (at_builtin; refine wpList_append_rd _ rfl _ _ 35 rfl w.heap.size 62 i0 _ 1 24 Try.underlying35 hi0 hz0 hz1 hz2 rfl (by decide) _ _ _ rfl (HM2.out.alloc _) _ 1 1 _ rfl (rd_litC ?c0 rfl) ?c2 ?c3 ?c4 ?c5 ?_)
      case c0 => first | rfl | simp
      case c2 => simp [Value.oneCell']
      case c3 => simp only [maxLen]; omega
      case c4 => omega
      case c5 => have := HB1.out.size; simp; omega
      intro v3 w3 own3 gr3 at3
      have HG3 := Lib.hid gr3
      have HA3 := Lib.hid at3
      have HO3 := Lib.hid own3
      clear own3 gr3 at3
      go_wp2_with fail
      go_roundw
      case rel =>
        obtain ⟨F', hO, _⟩ := ownM_snoc (r := r) HM1.out (HM2.out.alloc _) HN.out (fun j r hj => by obtain ⟨u, h1, h2⟩ := HR.out j r hj; exact ⟨u, h1, h2.alloc _⟩) ((own_from HO1.out (by omega)).alloc _) (fun k hk hm => by
          have h1 := (HO1.out.lt k hk).1
          have h2 := HFL.out k (by rw [HFE.out]; exact hm)
          omega) HO3.out HG3.out (HA3.out.imp id (fun h => h.trans (by simp)))
        refine ⟨t + 1, F', by omega, by go_num, ?_, ?_⟩
        · rw [HT.out]; exact hO
        · exact (HB1.out.alloc (by omega) _).grown HG3.out (by simp; omega) HOV.out
      case measure => simp [intOf]; omega
    · obtain rfl : t = n := by omega
      have HO : Hid (∃ F, OwnM wr w.heap.size _ t M F) := ⟨F, by have h := hown.out; rw [List.take_of_length_le (by rw [HL.out]; exact Nat.le_refl _)] at h; exact h⟩
      go_wp2_with fail
      go_ret
      obtain ⟨F, hO⟩ := HO.out
      exact ⟨_, F, rfl, hO, hb, hbs⟩
end Go.Proofs.Ytgmaokpebaebkaa
