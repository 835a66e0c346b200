/- Checking in the reference: the small functions. -/
import Derived.Test.YtijocafindbebaaDoorChkG
namespace Go.Proofs.YtijocafindbebaaDoor
open Go.RowKit
set_option linter.unusedVariables false
/-- A call that returns a code and a name as a struct. -/
def RetBadA (c : Bad) (w : World) (e : Ending) (w' : World) : Prop := e = .returned (.agg #[.int .i64 c.1, .string c.2]) ∧ Below w.heap.size w w' ∧ w.heap.size ≤ w'.heap.size
theorem argBad_2 {names held : List ByteArray} {a : ByteArray} (h : hasS names a = false) : argBad names held a = (2, a) := if_pos h
theorem argBad_4 {names held : List ByteArray} {a : ByteArray} (h : hasS names a = true) (h2 : hasS held a = true) : argBad names held a = (4, a) := by rw [argBad, if_neg (by simp [h]), if_pos h2]
theorem argBad_0 {names held : List ByteArray} {a : ByteArray} (h : hasS names a = true) (h2 : hasS held a = false) : argBad names held a = bad0 := by rw [argBad, if_neg (by simp [h]), if_neg (by simp [h2])]
set_option maxRecDepth 100000 in
set_option maxHeartbeats 2000000 in
theorem l20Arg_any (a : ByteArray) (names held : List ByteArray) (An Ah Ab : Option Addr) (nn cn nh ch nb cb : Nat) (inside : Bool) (w : World)
    (hnn : names.length = nn) (hrn : Rd w 1 An nn (strs names)) (hnh : held.length = nh) (hrh : Rd w 1 Ah nh (strs held)) (h2 : nn ≤ 1048576) (h3 : nh ≤ 1048576) :
    Calls Tryd.prog 111 #[.agg #[.slice An nn cn, .slice Ah nh ch, .bool inside, .slice Ab nb cb], .string a] w (RetBadA (argBad names held a) w) := by
  have b0 : Below w.heap.size w ((w.alloc (.cells #[.slice An nn cn, .slice Ah nh ch, .bool inside, .slice Ab nb cb] 97)).alloc (.cells #[.int .i64 0, .string ⟨#[]⟩] 93)) := (by repeat (first | exact Below.refl _ _ | assumption | (refine Below.trans ?_ (Below.mono (by assumption) (by first | omega | (simp; done) | (simp; omega)))) | (with_reducible refine Below.drew ?_) | (with_reducible refine Below.alloc ?_ (by first | omega | (simp; done) | (simp; omega)) _) | (with_reducible refine Below.setCell ?_ (by first | omega | (simp; done) | (simp; omega)) _)))
  have HN := Lib.hid (hrn.below b0)
  have HH := Lib.hid (hrh.below b0)
  have HNN := Lib.hid hnn
  have HNH := Lib.hid hnh
  clear b0 hrn hrh hnn hnh
  cases e1 : hasS names a
  · have HF := Lib.hid (argBad_2 (held := held) e1)
    go_enter Tryd.func111, Tryd.ntmps111
    go_wp2_with (go_at_call 74; (with_reducible refine (l1Has_any An nn cn names a _ HN.out HNN.out (by omega)).mono ?_); rintro e w' ⟨rfl, rfl⟩)
    exact bodyPost_ret (v := .agg #[.int .i64 2, .string a]) (by simp [results, Tryd.results111, go_sem]) rfl ⟨by rw [HF.out], (by repeat (first | exact Below.refl _ _ | assumption | (refine Below.trans ?_ (Below.mono (by assumption) (by first | omega | (simp; done) | (simp; omega)))) | (with_reducible refine Below.drew ?_) | (with_reducible refine Below.alloc ?_ (by first | omega | (simp; done) | (simp; omega)) _) | (with_reducible refine Below.setCell ?_ (by first | omega | (simp; done) | (simp; omega)) _))), (by first | omega | (simp; done) | (simp; omega))⟩
  · cases e2 : hasS held a
    · have HF := Lib.hid (argBad_0 e1 e2)
      go_enter Tryd.func111, Tryd.ntmps111
      go_wp2_with (first | (go_at_call 74; (with_reducible refine (l1Has_any An nn cn names a _ HN.out HNN.out (by omega)).mono ?_); rintro e w' ⟨rfl, rfl⟩) | (go_at_call 74; (with_reducible refine (l1Has_any Ah nh ch held a _ HH.out HNH.out (by omega)).mono ?_); rintro e w' ⟨rfl, rfl⟩))
      exact bodyPost_ret (v := .agg #[.int .i64 0, .string ⟨#[]⟩]) (by simp [results, Tryd.results111, go_sem]) rfl ⟨by rw [HF.out]; rfl, (by repeat (first | exact Below.refl _ _ | assumption | (refine Below.trans ?_ (Below.mono (by assumption) (by first | omega | (simp; done) | (simp; omega)))) | (with_reducible refine Below.drew ?_) | (with_reducible refine Below.alloc ?_ (by first | omega | (simp; done) | (simp; omega)) _) | (with_reducible refine Below.setCell ?_ (by first | omega | (simp; done) | (simp; omega)) _))), (by first | omega | (simp; done) | (simp; omega))⟩
    · have HF := Lib.hid (argBad_4 e1 e2)
      go_enter Tryd.func111, Tryd.ntmps111
      go_wp2_with (first | (go_at_call 74; (with_reducible refine (l1Has_any An nn cn names a _ HN.out HNN.out (by omega)).mono ?_); rintro e w' ⟨rfl, rfl⟩) | (go_at_call 74; (with_reducible refine (l1Has_any Ah nh ch held a _ HH.out HNH.out (by omega)).mono ?_); rintro e w' ⟨rfl, rfl⟩))
      exact bodyPost_ret (v := .agg #[.int .i64 4, .string a]) (by simp [results, Tryd.results111, go_sem]) rfl ⟨by rw [HF.out], (by repeat (first | exact Below.refl _ _ | assumption | (refine Below.trans ?_ (Below.mono (by assumption) (by first | omega | (simp; done) | (simp; omega)))) | (with_reducible refine Below.drew ?_) | (with_reducible refine Below.alloc ?_ (by first | omega | (simp; done) | (simp; omega)) _) | (with_reducible refine Below.setCell ?_ (by first | omega | (simp; done) | (simp; omega)) _))), (by first | omega | (simp; done) | (simp; omega))⟩
set_option maxRecDepth 100000 in
set_option maxHeartbeats 2000000 in
theorem l20Control_any (k n : Nat) (w : World) (hk : k ≤ 12) (hn : n ≤ 1048576) : Calls Tryd.prog 121 #[.int .i64 k, .int .i64 n] w fun e w' => e = .returned (.bool (ctlS k n)) ∧ w = w' := by
  obtain ⟨v, hv⟩ : ∃ v, v = ctlS k n := ⟨_, rfl⟩
  have HV := Lib.hid hv
  rw [← hv]
  clear hv
  by_cases n0 : n = 0
  · subst n0
    have HF : Hid (v = true) := HV.out.trans rfl
    go_enter Tryd.func121, Tryd.ntmps121
    go_wp2
    go_ret
    exact ⟨by rw [HF.out]; rfl, rfl⟩
  · by_cases n1 : n = 1
    · subst n1
      have hk' : k = 0 ∨ k = 1 ∨ k = 2 ∨ k = 3 ∨ k = 4 ∨ k = 5 ∨ k = 6 ∨ k = 7 ∨ k = 8 ∨ k = 9 ∨ k = 10 ∨ k = 11 ∨ k = 12 := by omega
      rcases hk' with rfl | rfl | rfl | rfl | rfl | rfl | rfl | rfl | rfl | rfl | rfl | rfl | rfl
      all_goals
        have HF := Lib.hid (HV.out.trans (show ctlS _ _ = _ from rfl))
        clear HV hk n0 hn
        go_enter Tryd.func121, Tryd.ntmps121
        go_wp2
        go_ret
        exact ⟨by rw [HF.out]; rfl, rfl⟩
    · by_cases n2 : n = 2
      · subst n2
        have hk' : k = 0 ∨ k = 1 ∨ k = 2 ∨ k = 3 ∨ k = 4 ∨ k = 5 ∨ k = 6 ∨ k = 7 ∨ k = 8 ∨ k = 9 ∨ k = 10 ∨ k = 11 ∨ k = 12 := by omega
        rcases hk' with rfl | rfl | rfl | rfl | rfl | rfl | rfl | rfl | rfl | rfl | rfl | rfl | rfl
        all_goals
          have HF := Lib.hid (HV.out.trans (show ctlS _ _ = _ from rfl))
          clear HV hk n0 n1 hn
          go_enter Tryd.func121, Tryd.ntmps121
          go_wp2
          go_ret
          exact ⟨by rw [HF.out]; rfl, rfl⟩
      · have HF : Hid (v = false) := HV.out.trans (by simp [ctlS, n0, n1, n2])
        have d0 : ((n : Int) == 0) = false := by rw [beq_eq_false_iff_ne]; omega
        have d1 : ((n : Int) == 1) = false := by rw [beq_eq_false_iff_ne]; omega
        have d2 : ((n : Int) == 2) = false := by rw [beq_eq_false_iff_ne]; omega
        have c0 : (n == 0) = false := by rw [beq_eq_false_iff_ne]; omega
        have c1 : (n == 1) = false := by rw [beq_eq_false_iff_ne]; omega
        have c2 : (n == 2) = false := by rw [beq_eq_false_iff_ne]; omega
        clear n0 n1 n2
        go_enter Tryd.func121, Tryd.ntmps121
        go_wp2
        go_ret
        exact ⟨by rw [HF.out]; rfl, rfl⟩
theorem one_str2 (a : ByteArray) : ∀ u ∈ [Value.string a], u.oneCell' = true := by
  intro u hu
  simp at hu
  subst hu
  rfl
theorem strs_ones (l : List ByteArray) : ∀ u ∈ strs l, u.oneCell' = true := by
  intro u hu
  obtain ⟨s, _, rfl⟩ := List.mem_map.1 hu
  rfl
theorem rd_lit4 {w : World} {cs : Array Value} {e n size b : Nat} (h0 : b = w.heap.size) (hs : cs.size = n * size) : Rd (w.alloc (.cells cs e)) size (some ⟨b, 0, none⟩) n cs.toList := by
  subst h0
  refine ⟨by simpa using hs, fun _ => ⟨_, 0, rfl, by simp, fun j u hu => ?_⟩⟩
  have h := heap_alloc_new w (.cells cs e)
  have hc : cs[j]? = some u := by rw [← Array.getElem?_toList]; exact hu
  rw [Nat.zero_add]
  exact cell_at h hc
theorem strs_snoc2 (l : List ByteArray) (a : ByteArray) : strs (l ++ [a]) = strs l ++ [.string a] := by simp [strs]
set_option maxRecDepth 100000 in
set_option maxHeartbeats 1000000 in
theorem l20Add_any (A : Option Addr) (n c : Nat) (l : List ByteArray) (s : ByteArray) (w : World) (h : Rd w 1 A n (strs l)) (hl : l.length = n) (hn : n ≤ 1048576) :
    Calls Tryd.prog 112 #[.slice A n c, .string s] w (RetRow 9 1 w (n + 1) (strs (l ++ [s]))) := by
  obtain ⟨i0, hi, hz0, hz1, hz2⟩ := info_parts info_str
  have H := Lib.hid (h.below (show Below w.heap.size w (w.alloc (.cells #[] 9)) from (by repeat (first | exact Below.refl _ _ | assumption | (refine Below.trans ?_ (Below.mono (by assumption) (by first | omega | (simp; done) | (simp; omega)))) | (with_reducible refine Below.drew ?_) | (with_reducible refine Below.alloc ?_ (by first | omega | (simp; done) | (simp; omega)) _) | (with_reducible refine Below.setCell ?_ (by first | omega | (simp; done) | (simp; omega)) _)))))
  have HE := Lib.hid (own_empty w 9 1)
  clear h
  go_enter Tryd.func112, Tryd.ntmps112
  go_wp2_with (at_builtin; refine wpList_append_rd _ rfl _ _ 22 rfl w.heap.size 9 i0 _ 1 16 Tryd.underlying22 hi hz0 hz1 hz2 rfl (by decide) _ _ _ rfl HE.out _ _ _ _ rfl H.out (strs_ones l) ?c3 ?c4 ?c5 ?_)
  case c3 => simp only [maxLen]; omega
  case c4 => omega
  case c5 => simp
  intro v1 w1 own1 gr1 _
  have b1 : Below w.heap.size w w1 := ((Below.refl _ _).alloc (Nat.le_refl _) _).grown gr1 (by first | omega | (simp; done) | (simp; omega)) (own_ge HE.out)
  have hs1 := b1.size
  clear gr1
  go_wp2_with (at_builtin; refine wpList_append_rd _ rfl _ _ 22 rfl w.heap.size 9 i0 _ 1 16 Tryd.underlying22 hi hz0 hz1 hz2 rfl (by decide) _ _ _ rfl (own1.alloc _) _ 1 1 _ rfl (rd_lit4 ?c0 rfl) ?c2 ?c3 ?c4 ?c5 ?_)
  case c0 => first | omega | rfl | (simp; done)
  case c2 => repeat' (first | rfl | apply And.intro)
  case c3 => simp only [maxLen]; omega
  case c4 => omega
  case c5 => simp; omega
  intro v2 w2 own2 gr2 _
  have b2 := (b1.alloc hs1 _).grown gr2 (by simp; omega) (own_ge own1)
  have hs2 := b2.size
  clear own1 gr2
  go_wp2_with fail
  go_ret
  exact ⟨_, rfl, by rw [strs_snoc2]; exact own2, b2, hs2⟩
end Go.Proofs.YtijocafindbebaaDoor
