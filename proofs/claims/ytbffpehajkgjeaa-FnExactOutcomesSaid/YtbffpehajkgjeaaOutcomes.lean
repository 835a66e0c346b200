/- The numbers of a list of branches: the program's function and the reference's return the same list. -/
import Derived.Test.YtbffpehajkgjeaaBrs
import Derived.Test.YtbffpehajkgjeaaIntS
namespace Go.Proofs.Ytbffpehajkgjeaa
open Go.RowKit
set_option linter.unusedVariables false
theorem rd_litI {w : World} {cs : Array Value} {e n size b : Nat} (h0 : b = w.heap.size) (hs : cs.size = n * size) : Rd (w.alloc (.cells cs e)) size (some ⟨b, 0, none⟩) n cs.toList := rd_lit2 h0 hs
def outs (L : List Br) : List Int := L.map (·.b)
theorem outs_len (L : List Br) : (outs L).length = L.length := by simp [outs]
theorem outs_take {L : List Br} {t : Nat} {x : Br} (h : L[t]? = some x) : (outs (L.take (t + 1))).flatMap icell = (outs (L.take t)).flatMap icell ++ [.int .i64 x.b] := by
  rw [List.take_add_one, h]
  simp [outs, icell]
set_option maxRecDepth 100000 in
set_option maxHeartbeats 1000000 in
theorem Outcomes_impl (A : Option Addr) (n c : Nat) (L : List Br) (w : World) (h : RdB w A n L) (hn : n ≤ 1073741824) :
    Calls Try.prog 57 #[.slice A n c] w (RetRow 3 1 w n ((outs L).flatMap icell)) := by
  obtain ⟨i0, hi, hz0, hz1, hz2⟩ := info_parts info_IntE
  have H := Lib.hid h
  have HL := Lib.hid h.len
  clear h
  go_enter Try.func57, Try.ntmps57
  go_wp2
  go_loopw [3, 9] (fun v i wr => ∃ t : Nat, t ≤ n ∧ i = .int .i64 t ∧ wr.ownsRow w.heap.size 3 1 v t ((outs (L.take t)).flatMap icell) ∧ Below w.heap.size w wr) (fun _ i _ => n - (intOf i).toNat)
  case atStart => exact ⟨0, Nat.zero_le _, rfl, by simpa [outs] using own_empty w _ 1, (by repeat (first | exact Below.refl _ _ | assumption | (refine Below.trans ?_ (Below.mono (by assumption) (by first | omega | (simp; done) | (simp; omega)))) | (with_reducible refine Below.drew ?_) | (with_reducible refine Below.alloc ?_ (by first | omega | (simp; done) | (simp; omega)) _) | (with_reducible refine Below.setCell ?_ (by first | omega | (simp; done) | (simp; omega)) _)))⟩
  case round =>
    obtain ⟨t, ht, rfl, hown, hb⟩ := hrel
    by_cases hlt : t < n
    · have htl : t < L.length := by rw [HL.out]; exact hlt
      obtain ⟨g, hg⟩ : ∃ g, L[t]? = some g := ⟨_, List.getElem?_eq_getElem htl⟩
      obtain ⟨b, off, a, c', rfl, hbl, q0, q1, _, _, _⟩ := (H.out.below hb).at hg
      have HG := Lib.hid (outs_take hg)
      obtain ⟨Z, hL⟩ : ∃ Z, Z = (outs (L.take t)).flatMap icell := ⟨_, rfl⟩
      rw [← hL] at hown
      have HL2 := Lib.hid hL
      clear hg htl hL
      go_wp2_with (at_builtin; refine wpList_append_rd _ rfl _ _ 78 rfl w.heap.size 3 i0 _ 1 8 Try.underlying78 hi hz0 hz1 hz2 rfl (by decide) _ _ _ rfl ((hown.alloc _).alloc _) _ 1 1 _ rfl (rd_litI ?c0 rfl) ?c2 ?c3 ?c4 ?c5 ?_)
      case c0 => first | rfl | simp
      case c2 => repeat' (first | rfl | apply And.intro)
      case c3 => simp only [maxLen]; omega
      case c4 => omega
      case c5 => have := hb.size; simp; omega
      intro v3 w3 own3 gr3 _
      have b3 := ((hb.alloc hb.size _).alloc (by have := hb.size; simp; omega) _).grown gr3 (by have := hb.size; simp; omega) (own_ge hown)
      clear hown gr3
      go_wp2
      go_roundw
      case rel =>
        refine ⟨t + 1, by omega, by go_num, ?_, b3⟩
        rw [HG.out, ← HL2.out]
        exact own3
      case measure => simp [intOf]; omega
    · obtain rfl : t = n := by omega
      go_wp2
      go_ret
      exact ⟨_, rfl, by rw [List.take_of_length_le (by rw [HL.out]; exact Nat.le_refl _)] at hown; exact hown, hb, hb.size⟩
set_option maxRecDepth 100000 in
set_option maxHeartbeats 1000000 in
theorem Outcomes_spec (A : Option Addr) (n c : Nat) (L : List Br) (w : World) (h : RdB w A n L) (hn : n ≤ 1073741824) :
    Calls Try.prog 56 #[.slice A n c] w (RetRow 3 1 w n ((outs L).flatMap icell)) := by
  obtain ⟨i0, hi, hz0, hz1, hz2⟩ := info_parts info_IntE
  have H := Lib.hid h
  have HL := Lib.hid h.len
  clear h
  go_enter Try.func56, Try.ntmps56
  go_wp2
  go_loopw [3, 4] (fun v i wr => ∃ t : Nat, t ≤ n ∧ i = .int .i64 t ∧ wr.ownsRow w.heap.size 3 1 v t ((outs (L.take t)).flatMap icell) ∧ Below w.heap.size w wr) (fun _ i _ => n - (intOf i).toNat)
  case atStart => exact ⟨0, Nat.zero_le _, rfl, by simpa [outs] using own_empty w _ 1, (by repeat (first | exact Below.refl _ _ | assumption | (refine Below.trans ?_ (Below.mono (by assumption) (by first | omega | (simp; done) | (simp; omega)))) | (with_reducible refine Below.drew ?_) | (with_reducible refine Below.alloc ?_ (by first | omega | (simp; done) | (simp; omega)) _) | (with_reducible refine Below.setCell ?_ (by first | omega | (simp; done) | (simp; omega)) _)))⟩
  case round =>
    obtain ⟨t, ht, rfl, hown, hb⟩ := hrel
    by_cases hlt : t < n
    · have htl : t < L.length := by rw [HL.out]; exact hlt
      obtain ⟨g, hg⟩ : ∃ g, L[t]? = some g := ⟨_, List.getElem?_eq_getElem htl⟩
      obtain ⟨b, off, a, c', rfl, hbl, q0, q1, _, _, _⟩ := (H.out.below hb).at hg
      have HG := Lib.hid (outs_take hg)
      obtain ⟨Z, hL⟩ : ∃ Z, Z = (outs (L.take t)).flatMap icell := ⟨_, rfl⟩
      rw [← hL] at hown
      have HL2 := Lib.hid hL
      clear hg htl hL
      go_wp2_with (at_builtin; refine wpList_append_rd _ rfl _ _ 78 rfl w.heap.size 3 i0 _ 1 8 Try.underlying78 hi hz0 hz1 hz2 rfl (by decide) _ _ _ rfl (hown.alloc _) _ 1 1 _ rfl (rd_litI ?c0 rfl) ?c2 ?c3 ?c4 ?c5 ?_)
      case c0 => first | rfl | simp
      case c2 => repeat' (first | rfl | apply And.intro)
      case c3 => simp only [maxLen]; omega
      case c4 => omega
      case c5 => have := hb.size; simp; omega
      intro v3 w3 own3 gr3 _
      have b3 := (hb.alloc hb.size _).grown gr3 (by have := hb.size; simp; omega) (own_ge hown)
      clear hown gr3
      go_wp2
      go_roundw
      case rel =>
        refine ⟨t + 1, by omega, by go_num, ?_, b3⟩
        rw [HG.out, ← HL2.out]
        exact own3
      case measure => simp [intOf]; omega
    · obtain rfl : t = n := by omega
      go_wp2
      go_ret
      exact ⟨_, rfl, by rw [List.take_of_length_le (by rw [HL.out]; exact Nat.le_refl _)] at hown; exact hown, hb, hb.size⟩
end Go.Proofs.Ytbffpehajkgjeaa
