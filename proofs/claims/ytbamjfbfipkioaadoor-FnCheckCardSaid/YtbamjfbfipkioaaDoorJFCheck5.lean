/- What the calls that this law reaches answer, part 5 of 30. -/
import Derived.Test.YtbamjfbfipkioaaDoorJFCheck4
import Derived.Test.YtbamjfbfipkioaaDoorJFCheck3
import Derived.Test.YtbamjfbfipkioaaDoorJFCheck1
namespace Go.Proofs.YtbamjfbfipkioaaDoor
open Go.RowKit
set_option linter.unusedVariables false
/-- A call that returns a code and a name as a struct. -/
def RetBadA (c : Bad) (w : World) (e : Ending) (w' : World) : Prop := e = .returned (.agg #[.int .i64 c.1, .string c.2]) ∧ Below w.heap.size w w' ∧ w.heap.size ≤ w'.heap.size
theorem argBad_2 {names held : List ByteArray} {a : ByteArray} (h : hasS names a = false) : argBad names held a = (2, a) := if_pos h
theorem argBad_4 {names held : List ByteArray} {a : ByteArray} (h : hasS names a = true) (h2 : hasS held a = true) : argBad names held a = (4, a) := by rw [argBad, if_neg (by simp [h]), if_pos h2]
theorem argBad_0 {names held : List ByteArray} {a : ByteArray} (h : hasS names a = true) (h2 : hasS held a = false) : argBad names held a = bad0 := by rw [argBad, if_neg (by simp [h]), if_neg (by simp [h2])]
set_option maxRecDepth 100000 in
set_option maxHeartbeats 2000000 in
theorem l20Arg_any (a : ByteArray) (names held : List ByteArray) (An Ah Ab : Option Addr) (nn cn nh ch nb cb : Nat) (inside : Bool) (w : World)
    (hnn : names.length = nn) (hrn : Rd w 1 An nn (strs names)) (hnh : held.length = nh) (hrh : Rd w 1 Ah nh (strs held)) (h2 : nn ≤ 1048576) (h3 : nh ≤ 1048576) :
    Calls Tryd.prog 68 #[.agg #[.slice An nn cn, .slice Ah nh ch, .bool inside, .slice Ab nb cb], .string a] w (RetBadA (argBad names held a) w) := by
  have b0 : Below w.heap.size w ((w.alloc (.cells #[.slice An nn cn, .slice Ah nh ch, .bool inside, .slice Ab nb cb] 71)).alloc (.cells #[.int .i64 0, .string ⟨#[]⟩] 67)) := (by repeat (first | exact Below.refl _ _ | assumption | (refine Below.trans ?_ (Below.mono (by assumption) (by first | omega | (simp; done) | (simp; omega)))) | (with_reducible refine Below.drew ?_) | (with_reducible refine Below.alloc ?_ (by first | omega | (simp; done) | (simp; omega)) _) | (with_reducible refine Below.setCell ?_ (by first | omega | (simp; done) | (simp; omega)) _)))
  have HN := Lib.hid (hrn.below b0)
  have HH := Lib.hid (hrh.below b0)
  have HNN := Lib.hid hnn
  have HNH := Lib.hid hnh
  clear b0 hrn hrh hnn hnh
  cases e1 : hasS names a
  · have HF := Lib.hid (argBad_2 (held := held) e1)
    go_enter Tryd.func68, Tryd.ntmps68
    go_wp2_with (go_at_call 40; (with_reducible refine (l1Has_any An nn cn names a _ HN.out HNN.out (by omega)).mono ?_); rintro e w' ⟨rfl, rfl⟩)
    exact bodyPost_ret (v := .agg #[.int .i64 2, .string a]) (by simp [results, Tryd.results68, go_sem]) rfl ⟨by rw [HF.out], (by repeat (first | exact Below.refl _ _ | assumption | (refine Below.trans ?_ (Below.mono (by assumption) (by first | omega | (simp; done) | (simp; omega)))) | (with_reducible refine Below.drew ?_) | (with_reducible refine Below.alloc ?_ (by first | omega | (simp; done) | (simp; omega)) _) | (with_reducible refine Below.setCell ?_ (by first | omega | (simp; done) | (simp; omega)) _))), (by first | omega | (simp; done) | (simp; omega))⟩
  · cases e2 : hasS held a
    · have HF := Lib.hid (argBad_0 e1 e2)
      go_enter Tryd.func68, Tryd.ntmps68
      go_wp2_with (first | (go_at_call 40; (with_reducible refine (l1Has_any An nn cn names a _ HN.out HNN.out (by omega)).mono ?_); rintro e w' ⟨rfl, rfl⟩) | (go_at_call 40; (with_reducible refine (l1Has_any Ah nh ch held a _ HH.out HNH.out (by omega)).mono ?_); rintro e w' ⟨rfl, rfl⟩))
      exact bodyPost_ret (v := .agg #[.int .i64 0, .string ⟨#[]⟩]) (by simp [results, Tryd.results68, go_sem]) rfl ⟨by rw [HF.out]; rfl, (by repeat (first | exact Below.refl _ _ | assumption | (refine Below.trans ?_ (Below.mono (by assumption) (by first | omega | (simp; done) | (simp; omega)))) | (with_reducible refine Below.drew ?_) | (with_reducible refine Below.alloc ?_ (by first | omega | (simp; done) | (simp; omega)) _) | (with_reducible refine Below.setCell ?_ (by first | omega | (simp; done) | (simp; omega)) _))), (by first | omega | (simp; done) | (simp; omega))⟩
    · have HF := Lib.hid (argBad_4 e1 e2)
      go_enter Tryd.func68, Tryd.ntmps68
      go_wp2_with (first | (go_at_call 40; (with_reducible refine (l1Has_any An nn cn names a _ HN.out HNN.out (by omega)).mono ?_); rintro e w' ⟨rfl, rfl⟩) | (go_at_call 40; (with_reducible refine (l1Has_any Ah nh ch held a _ HH.out HNH.out (by omega)).mono ?_); rintro e w' ⟨rfl, rfl⟩))
      exact bodyPost_ret (v := .agg #[.int .i64 4, .string a]) (by simp [results, Tryd.results68, go_sem]) rfl ⟨by rw [HF.out], (by repeat (first | exact Below.refl _ _ | assumption | (refine Below.trans ?_ (Below.mono (by assumption) (by first | omega | (simp; done) | (simp; omega)))) | (with_reducible refine Below.drew ?_) | (with_reducible refine Below.alloc ?_ (by first | omega | (simp; done) | (simp; omega)) _) | (with_reducible refine Below.setCell ?_ (by first | omega | (simp; done) | (simp; omega)) _))), (by first | omega | (simp; done) | (simp; omega))⟩
set_option maxRecDepth 100000 in
set_option maxHeartbeats 2000000 in
theorem l20Control_any (k n : Nat) (w : World) (hk : k ≤ 12) (hn : n ≤ 1048576) : Calls Tryd.prog 77 #[.int .i64 k, .int .i64 n] w fun e w' => e = .returned (.bool (ctlS k n)) ∧ w = w' := by
  obtain ⟨v, hv⟩ : ∃ v, v = ctlS k n := ⟨_, rfl⟩
  have HV := Lib.hid hv
  rw [← hv]
  clear hv
  by_cases n0 : n = 0
  · subst n0
    have HF : Hid (v = true) := HV.out.trans rfl
    go_enter Tryd.func77, Tryd.ntmps77
    go_wp2
    go_ret
    exact ⟨by rw [HF.out]; rfl, rfl⟩
  · by_cases n1 : n = 1
    · subst n1
      have hk' : k = 0 ∨ k = 1 ∨ k = 2 ∨ k = 3 ∨ k = 4 ∨ k = 5 ∨ k = 6 ∨ k = 7 ∨ k = 8 ∨ k = 9 ∨ k = 10 ∨ k = 11 ∨ k = 12 := by omega
      rcases hk' with rfl | rfl | rfl | rfl | rfl | rfl | rfl | rfl | rfl | rfl | rfl | rfl | rfl
      all_goals
        have HF := Lib.hid (HV.out.trans (show ctlS _ _ = _ from rfl))
        clear HV hk n0 hn
        go_enter Tryd.func77, Tryd.ntmps77
        go_wp2
        go_ret
        exact ⟨by rw [HF.out]; rfl, rfl⟩
    · by_cases n2 : n = 2
      · subst n2
        have hk' : k = 0 ∨ k = 1 ∨ k = 2 ∨ k = 3 ∨ k = 4 ∨ k = 5 ∨ k = 6 ∨ k = 7 ∨ k = 8 ∨ k = 9 ∨ k = 10 ∨ k = 11 ∨ k = 12 := by omega
        rcases hk' with rfl | rfl | rfl | rfl | rfl | rfl | rfl | rfl | rfl | rfl | rfl | rfl | rfl
        all_goals
          have HF := Lib.hid (HV.out.trans (show ctlS _ _ = _ from rfl))
          clear HV hk n0 n1 hn
          go_enter Tryd.func77, Tryd.ntmps77
          go_wp2
          go_ret
          exact ⟨by rw [HF.out]; rfl, rfl⟩
      · have HF : Hid (v = false) := HV.out.trans (by simp [ctlS, n0, n1, n2])
        have d0 : ((n : Int) == 0) = false := by rw [beq_eq_false_iff_ne]; omega
        have d1 : ((n : Int) == 1) = false := by rw [beq_eq_false_iff_ne]; omega
        have d2 : ((n : Int) == 2) = false := by rw [beq_eq_false_iff_ne]; omega
        have c0 : (n == 0) = false := by rw [beq_eq_false_iff_ne]; omega
        have c1 : (n == 1) = false := by rw [beq_eq_false_iff_ne]; omega
        have c2 : (n == 2) = false := by rw [beq_eq_false_iff_ne]; omega
        clear n0 n1 n2
        go_enter Tryd.func77, Tryd.ntmps77
        go_wp2
        go_ret
        exact ⟨by rw [HF.out]; rfl, rfl⟩
theorem strs_ones (l : List ByteArray) : ∀ u ∈ strs l, u.oneCell' = true := by
  intro u hu
  obtain ⟨s, _, rfl⟩ := List.mem_map.1 hu
  rfl
theorem rd_lit4 {w : World} {cs : Array Value} {e n size b : Nat} (h0 : b = w.heap.size) (hs : cs.size = n * size) : Rd (w.alloc (.cells cs e)) size (some ⟨b, 0, none⟩) n cs.toList := by
  subst h0
  refine ⟨by simpa using hs, fun _ => ⟨_, 0, rfl, by simp, fun j u hu => ?_⟩⟩
  have h := heap_alloc_new w (.cells cs e)
  have hc : cs[j]? = some u := by rw [← Array.getElem?_toList]; exact hu
  rw [Nat.zero_add]
  exact cell_at h hc
theorem strs_snoc2 (l : List ByteArray) (a : ByteArray) : strs (l ++ [a]) = strs l ++ [.string a] := by simp [strs]
set_option maxRecDepth 100000 in
set_option maxHeartbeats 1000000 in
theorem l20Add_any (A : Option Addr) (n c : Nat) (l : List ByteArray) (s : ByteArray) (w : World) (h : Rd w 1 A n (strs l)) (hl : l.length = n) (hn : n ≤ 1048576) :
    Calls Tryd.prog 69 #[.slice A n c, .string s] w (RetRow 9 1 w (n + 1) (strs (l ++ [s]))) := by
  obtain ⟨i0, hi, hz0, hz1, hz2⟩ := info_parts info_str
  have H := Lib.hid (h.below (show Below w.heap.size w (w.alloc (.cells #[] 9)) from (by repeat (first | exact Below.refl _ _ | assumption | (refine Below.trans ?_ (Below.mono (by assumption) (by first | omega | (simp; done) | (simp; omega)))) | (with_reducible refine Below.drew ?_) | (with_reducible refine Below.alloc ?_ (by first | omega | (simp; done) | (simp; omega)) _) | (with_reducible refine Below.setCell ?_ (by first | omega | (simp; done) | (simp; omega)) _)))))
  have HE := Lib.hid (own_empty w 9 1)
  clear h
  go_enter Tryd.func69, Tryd.ntmps69
  go_wp2_with (at_builtin; refine wpList_append_rd _ rfl _ _ 24 rfl w.heap.size 9 i0 _ 1 16 Tryd.underlying24 hi hz0 hz1 hz2 rfl (by decide) _ _ _ rfl HE.out _ _ _ _ rfl H.out (strs_ones l) ?c3 ?c4 ?c5 ?_)
  case c3 => simp only [maxLen]; omega
  case c4 => omega
  case c5 => simp
  intro v1 w1 own1 gr1 _
  have b1 : Below w.heap.size w w1 := ((Below.refl _ _).alloc (Nat.le_refl _) _).grown gr1 (by first | omega | (simp; done) | (simp; omega)) (own_ge HE.out)
  have hs1 := b1.size
  clear gr1
  go_wp2_with (at_builtin; refine wpList_append_rd _ rfl _ _ 24 rfl w.heap.size 9 i0 _ 1 16 Tryd.underlying24 hi hz0 hz1 hz2 rfl (by decide) _ _ _ rfl (own1.alloc _) _ 1 1 _ rfl (rd_lit4 ?c0 rfl) ?c2 ?c3 ?c4 ?c5 ?_)
  case c0 => first | omega | rfl | (simp; done)
  case c2 => repeat' (first | rfl | apply And.intro)
  case c3 => simp only [maxLen]; omega
  case c4 => omega
  case c5 => simp; omega
  intro v2 w2 own2 gr2 _
  have b2 := (b1.alloc hs1 _).grown gr2 (by simp; omega) (own_ge own1)
  have hs2 := b2.size
  clear own1 gr2
  go_wp2_with fail
  go_ret
  exact ⟨_, rfl, by rw [strs_snoc2]; exact own2, b2, hs2⟩
end Go.Proofs.YtbamjfbfipkioaaDoor
namespace Go.Proofs.YtbamjfbfipkioaaDoor
open Go.RowKit
set_option linter.unusedVariables false
theorem below_undrewC {w w' : World} (h : Below w.drew.heap.size w.drew w') : Below w.heap.size w w' := ⟨h.os, h.tape, h.output, h.size, h.block⟩
theorem boxcells4' {w w' : World} {b : Nat} {x0 x1 x2 x3 : Value} {t : TypeId} (lay : Below w'.heap.size w' w) (h : w'.heap[b]? = some (.cells #[x0, x1, x2, x3] t (0, 0))) :
    w.cell? ⟨b, 0, none⟩ = some x0 ∧ w.cell? ⟨b, 1, none⟩ = some x1 ∧ w.cell? ⟨b, 2, none⟩ = some x2 ∧ w.cell? ⟨b, 3, none⟩ = some x3 := boxcells4 lay h
theorem boxc2 {w w' : World} {b : Nat} {x0 x1 : Value} {t : TypeId} (lay : Below w'.heap.size w' w) (h : w'.heap[b]? = some (.cells #[x0, x1] t (0, 0))) :
    w.cell? ⟨b, 0, none⟩ = some x0 ∧ w.cell? ⟨b, 1, none⟩ = some x1 := by
  have h' : w.heap[b]? = some (.cells #[x0, x1] t (0, 0)) := (lay.block b (lt_of_block h)).trans h
  exact ⟨by simp [World.cell?, h'], by simp [World.cell?, h']⟩
theorem argBad_step {names held args : List ByteArray} {t : Nat} {a : ByteArray} (h : args[t]? = some a) (hb : (argBad names held a).1 ≠ 0) : chkA names held args t (args.drop t) = argBad names held a := by
  rw [drop_at h, chkA]
  unfold argBad at hb ⊢
  split
  · rfl
  · split
    · rfl
    · rename_i h1 h2
      rw [if_neg h1, if_neg h2] at hb
      exact absurd rfl hb
theorem argBad_zero {names held : List ByteArray} {a : ByteArray} (hb : (argBad names held a).1 = 0) : argBad names held a = bad0 ∧ hasS names a = true ∧ hasS held a = false := by
  unfold argBad at hb ⊢
  split at hb
  · simp at hb
  · split at hb
    · simp at hb
    · rename_i h1 h2
      rw [if_neg h1, if_neg h2]
      exact ⟨rfl, by simpa using h1, by simpa using h2⟩
set_option maxRecDepth 100000 in
set_option maxHeartbeats 8000000 in
theorem l20Gate_any (word : ByteArray) (args names held : List ByteArray) (count : Int) (Aa : Option Addr) (m ca : Nat) (Ac : Option Addr) (nc cc : Nat) (An Ah Ab : Option Addr) (nn cn nh ch nb cb : Nat) (inside : Bool) (w : World)
    (hm : args.length = m) (hra : Rd w 1 Aa m (strs args)) (hca : m ≤ ca) (hnn : names.length = nn) (hrn : Rd w 1 An nn (strs names)) (hnh : held.length = nh) (hrh : Rd w 1 Ah nh (strs held)) (h1 : m ≤ 1048576) (h2 : nn ≤ 1048576) (h3 : nh ≤ 1048576) :
    Calls Tryd.prog 67 #[.agg #[.int .i64 1, .string word, .slice Aa m ca, .int .i64 count, .slice Ac nc cc], .agg #[.slice An nn cn, .slice Ah nh ch, .bool inside, .slice Ab nb cb]] w (RetBadA (gateBad names held args word) w) := by
  obtain ⟨w0, hw0⟩ : ∃ w0, w0 = ((w.alloc (.cells #[.int .i64 1, .string word, .slice Aa m ca, .int .i64 count, .slice Ac nc cc] 27)).alloc (.cells #[.slice An nn cn, .slice Ah nh ch, .bool inside, .slice Ab nb cb] 71)).alloc (.cells #[.int .i64 0, .string ⟨#[]⟩] 67) := ⟨_, rfl⟩
  have X0 := Lib.hid (show w0.heap[w.heap.size]? = some (.cells #[.int .i64 1, .string word, .slice Aa m ca, .int .i64 count, .slice Ac nc cc] 27 (0, 0)) by rw [hw0]; exact boxed3_0 _ _ _ _)
  have X1 := Lib.hid (show w0.heap[w.heap.size + 1]? = some (.cells #[.slice An nn cn, .slice Ah nh ch, .bool inside, .slice Ab nb cb] 71 (0, 0)) by rw [hw0]; exact boxed3_1 _ _ _ _)
  have X2 := Lib.hid (show w0.heap[w.heap.size + 1 + 1]? = some (.cells #[.int .i64 0, .string ⟨#[]⟩] 67 (0, 0)) by rw [hw0]; exact boxed3_2 _ _ _ _)
  have b0 : Below w.heap.size w w0 := by rw [hw0]; exact (by repeat (first | exact Below.refl _ _ | assumption | (refine Below.trans ?_ (Below.mono (by assumption) (by first | omega | (simp; done) | (simp; omega)))) | (with_reducible refine Below.drew ?_) | (with_reducible refine Below.alloc ?_ (by first | omega | (simp; done) | (simp; omega)) _) | (with_reducible refine Below.setCell ?_ (by first | omega | (simp; done) | (simp; omega)) _)))
  have hz : w.heap.size + 2 < w0.heap.size := by rw [hw0]; simp
  have HW := Lib.hid hw0
  have HA := Lib.hid (hra.below b0)
  have HN := Lib.hid (hrn.below b0)
  have HH := Lib.hid (hrh.below b0)
  have HM := Lib.hid hm
  have HNN := Lib.hid hnn
  have HNH := Lib.hid hnh
  have B0 := Lib.hid b0
  have al : ∀ (W : World) (ob : Obj), Below W.heap.size W (W.alloc ob) := fun W ob => (Below.refl _ _).alloc (Nat.le_refl _) _
  have AL := Lib.hid al
  clear hw0 b0 hra hrn hrh hm hnn hnh al
  go_enter Tryd.func67, Tryd.ntmps67
  go_wp2_with fail
  rw [← HW.out]
  go_loopw [5] (fun i wr => ∃ t : Nat, t ≤ m ∧ i = .int .i64 t ∧ Hid (chkA names held args 0 args = chkA names held args t (args.drop t)) ∧ Below w0.heap.size w0 wr) (fun i _ => m - (intOf i).toNat)
  case atStart => exact ⟨0, Nat.zero_le _, rfl, rfl, Below.refl _ _⟩
  case round =>
    obtain ⟨t, ht, rfl, hc, hb⟩ := hrel
    have hbs := hb.size
    obtain ⟨p0, p1, p2, p3, p4⟩ := boxcells5 (lay := hb) X0.out
    have hlz : w.heap.size < wr.heap.size := by omega
    have hlz1 : w.heap.size + 1 < wr.heap.size := by omega
    obtain ⟨q0, q1, q2, q3⟩ := boxcells4' (lay := hb) X1.out
    by_cases hlt : t < m
    · obtain ⟨a, ha⟩ : ∃ a, args[t]? = some a := ⟨_, List.getElem?_eq_getElem (by rw [HM.out]; exact hlt)⟩
      obtain ⟨b, off, rfl, hbl, hcl⟩ := (HA.out.below hb).2 (by omega)
      have r0 := hcl t _ (strs_at ha)
      have HAT := Lib.hid ha
      have RT : Hid (Rd wr 1 (some ⟨b, off, none⟩) t (strs (args.take t))) := by
        have := (HA.out.below hb).take (t := t) (by omega)
        rw [show (strs args).take t = strs (args.take t) by simp [strs]] at this
        exact this
      have RN := Lib.hid (HN.out.below hb)
      have RH := Lib.hid (HH.out.below hb)
      have KS : Hid (∀ W : World, Below wr.heap.size wr W → (W.cell? ⟨w.heap.size + 1, 0, none⟩ = some (.slice An nn cn) ∧ W.cell? ⟨w.heap.size + 1, 1, none⟩ = some (.slice Ah nh ch) ∧ W.cell? ⟨w.heap.size + 1, 2, none⟩ = some (.bool inside) ∧ W.cell? ⟨w.heap.size + 1, 3, none⟩ = some (.slice Ab nb cb) ∧ W.cell? ⟨w.heap.size, 2, none⟩ = some (.slice (some ⟨b, off, none⟩) m ca) ∧ W.cell? ⟨b, off + t, none⟩ = some (.string a))) := fun W hW =>
        ⟨(hW.cell (p := ⟨w.heap.size + 1, 0, none⟩) hlz1).trans q0, (hW.cell (p := ⟨w.heap.size + 1, 1, none⟩) hlz1).trans q1, (hW.cell (p := ⟨w.heap.size + 1, 2, none⟩) hlz1).trans q2, (hW.cell (p := ⟨w.heap.size + 1, 3, none⟩) hlz1).trans q3, (hW.cell (p := ⟨w.heap.size, 2, none⟩) hlz).trans p2, (hW.cell (p := ⟨b, off + t, none⟩) hbl).trans r0⟩
      obtain ⟨c, hcd⟩ : ∃ c, c = argBad names held a := ⟨_, rfl⟩
      have HC := Lib.hid hcd
      clear hcl ha hcd
      go_wp2_with fail
      go_region_held3 (fun W => W.cell? ⟨w.heap.size + 1, 0, none⟩ = some (.slice An nn cn) ∧ W.cell? ⟨w.heap.size + 1, 1, none⟩ = some (.slice Ah nh ch) ∧ W.cell? ⟨w.heap.size + 1, 2, none⟩ = some (.bool inside) ∧ W.cell? ⟨w.heap.size + 1, 3, none⟩ = some (.slice Ab nb cb) ∧ W.cell? ⟨w.heap.size, 2, none⟩ = some (.slice (some ⟨b, off, none⟩) m ca) ∧ W.cell? ⟨b, off + t, none⟩ = some (.string a)) ((refine KS.out _ ?_; first | exact Below.refl _ _ | exact (Below.refl _ _).drew | exact b1 | exact (Below.refl _ _).drew.alloc (Nat.le_refl _) _ | exact b1.alloc b1.size _ | exact (b1.alloc b1.size _).setCell (by simp; omega) _ | exact ((b1.alloc b1.size _).setCell (by simp; omega) _).setCell (by simp; omega) _ | exact (b1.setCell (by simp) _).setCell (by simp) _)) (first | (go_at_call 68; (with_reducible refine (l20Arg_any a names held An Ah Ab nn cn nh ch nb cb inside _ HNN.out (by first | exact RN.out.drew | exact RN.out.drew.below (AL.out _ _)) HNH.out (by first | exact RH.out.drew | exact RH.out.drew.below (AL.out _ _)) (by omega) (by omega)).mono ?_); rintro e w1 ⟨rfl, b1d, s1d⟩; rw [← HC.out]; first | (have b1 : Below wr.heap.size wr w1 := below_undrewC b1d) | (have b1 : Below wr.heap.size wr w1 := ((Below.refl _ _).drew.alloc (Nat.le_refl _) _).trans (b1d.mono (by simp)); obtain ⟨y0, y1⟩ : w1.cell? ⟨wr.heap.size, 0, none⟩ = some (.int .i64 0) ∧ w1.cell? ⟨wr.heap.size, 1, none⟩ = some (.string ⟨#[]⟩) := boxc2 (lay := b1d) (heap_alloc_new wr.drew (.cells #[.int .i64 0, .string ⟨#[]⟩] 67)); have y2 : w1.frozen? ⟨wr.heap.size, 0, none⟩ = false := boxfree b1d (heap_alloc_new wr.drew (.cells #[.int .i64 0, .string ⟨#[]⟩] 67)) 0; have y3 : w1.frozen? ⟨wr.heap.size, 1, none⟩ = false := boxfree b1d (heap_alloc_new wr.drew (.cells #[.int .i64 0, .string ⟨#[]⟩] 67)) 1; have y6 : w1.heap[wr.heap.size]? = some (.cells #[.int .i64 0, .string ⟨#[]⟩] 67 (0, 0)) := (b1d.block _ (by simp)).trans (heap_alloc_new wr.drew _); have y4 : wr.heap.size < w1.heap.size := Nat.lt_of_lt_of_le (Nat.lt_succ_self _) (Nat.le_trans (by simp) b1d.size))))
      all_goals
        have hs1 := b1.size
        first
        | (have y5 := y4
           obtain ⟨G, hGe⟩ : ∃ G, G = wr.heap.size := ⟨_, rfl⟩
           have hg0 : wr.heap.size ≤ G := by omega
           obtain ⟨w2, hw2⟩ : ∃ w2, w2 = (w1.setCell ⟨wr.heap.size, 0, none⟩ (.int .i64 c.1)).setCell ⟨wr.heap.size, 1, none⟩ (.string c.2) := ⟨_, rfl⟩
           have hx2 : w2.heap[G]? = some (.cells #[.int .i64 c.1, .string c.2] 67 (0, 0)) := by rw [hw2, hGe]; exact heap_set_self (heap_set_self y6 _) _
           have b2 : Below wr.heap.size wr w2 := by rw [hw2]; exact (b1.setCell (Nat.le_refl _) _).setCell (Nat.le_refl _) _
           rw [← hw2, ← hGe]
           clear hw2 hGe y0 y1 y2 y3 y4 y5 y6)
        | (obtain ⟨G, hGe⟩ : ∃ G, G = w1.heap.size := ⟨_, rfl⟩
           have hg0 : wr.heap.size ≤ G := by omega
           obtain ⟨w2, hw2⟩ : ∃ w2, w2 = w1.alloc (.cells #[.int .i64 c.1, .string c.2] 67) := ⟨_, rfl⟩
           have hx2 : w2.heap[G]? = some (.cells #[.int .i64 c.1, .string c.2] 67 (0, 0)) := by rw [hw2, hGe]; exact heap_alloc_new _ _
           have b2 : Below wr.heap.size wr w2 := by rw [hw2]; exact b1.alloc hs1 _
           rw [← hw2, ← hGe]
           clear hw2 hGe)
        clear b1 hs1 p0 p1 p2 p3 p4 q0 q1 q2 q3 r0
        have hs2 := b2.size
        have bb := hb.trans (b2.mono hbs)
        have hgl := lt_of_block hx2
        obtain ⟨z0, z1⟩ := boxc2 (lay := Below.refl _ _) hx2
        obtain ⟨k0, k1⟩ := boxc2 (lay := bb) X2.out
        have f0 := boxfree bb X2.out 0
        have f1 := boxfree bb X2.out 1
        have hl2 : w.heap.size + 1 + 1 < w2.heap.size := by omega
        have hl0 : w.heap.size < w2.heap.size := by omega
        by_cases hc0 : c.1 = 0
        · obtain ⟨ec, e1, e2⟩ := argBad_zero (HC.out ▸ hc0)
          have hcz : c = bad0 := by rw [HC.out]; exact ec
          subst hcz
          have z0' : w2.cell? ⟨G, 0, none⟩ = some (.int .i64 0) := z0
          have z1' : w2.cell? ⟨G, 1, none⟩ = some (.string ⟨#[]⟩) := z1
          clear z0 z1 hx2
          have RT2 := Lib.hid (RT.out.below b2)
          obtain ⟨p0, p1, p2, p3, p4⟩ := boxcells5 (lay := bb) X0.out
          have r0 := (KS.out _ b2).2.2.2.2.2
          have hbl2 : b < w2.heap.size := by omega
          clear ec hc0
          go_wp2_with fail
          cases e3 : hasS (args.take t) a
          · have HN1 := Lib.hid (hc.out.trans (chkA_0 HAT.out e1 e2 e3))
            go_quiet ((go_at_call 40; exact Calls.quiet_of_same ((l1Has_any _ _ _ (args.take t) a _ (RT2.out.drewN _) (by rw [List.length_take, HM.out]; omega) (by omega)).mono fun e W h => (⟨h.1.trans (by rw [e3]), h.2.symm⟩ : e = .returned (.bool false) ∧ W = _))))
            go_wp2_with fail
            go_roundw
            case rel => exact ⟨t + 1, by omega, by go_num, HN1, below_drewN bb _⟩
            case measure => simp [intOf]; omega
          · have HF := Lib.hid (gateBad_n (word := word) (hc.out.trans (chkA_3 HAT.out e1 e2 e3)) (show (3 : Int) ≠ 0 by decide))
            go_quiet ((go_at_call 40; exact Calls.quiet_of_same ((l1Has_any _ _ _ (args.take t) a _ (RT2.out.drewN _) (by rw [List.length_take, HM.out]; omega) (by omega)).mono fun e W h => (⟨h.1.trans (by rw [e3]), h.2.symm⟩ : e = .returned (.bool true) ∧ W = _))))
            go_wp2_with fail
            exact bodyPost_ret (v := .agg #[.int .i64 3, .string a]) (by simp [results, Tryd.results67, go_sem, k0, k1]) rfl ⟨by rw [HF.out], ((B0.out.trans ((below_drewN bb _).mono (by omega))).setCell (by simp; omega) _).setCell (by simp; omega) _, by simp [World.setCell]; omega⟩
        · have HF := Lib.hid (gateBad_n (word := word) (hc.out.trans (argBad_step HAT.out (HC.out ▸ hc0))) (HC.out ▸ hc0))
          have hne : (c.1 != 0) = true := by rw [bne_iff_ne]; exact hc0
          go_wp2_with fail
          exact bodyPost_ret (v := .agg #[.int .i64 c.1, .string c.2]) (by simp [results, Tryd.results67, go_sem, k0, k1]) rfl ⟨by rw [HF.out, ← HC.out], ((B0.out.trans (bb.mono (by omega))).setCell (by simp; omega) _).setCell (by simp; omega) _, by simp [World.setCell]; omega⟩
    · obtain rfl : t = m := by omega
      have hc' : Hid (chkA names held args 0 args = bad0) := by
        have := hc.out
        rw [List.drop_of_length_le (by rw [HM.out]; exact Nat.le_refl _)] at this
        exact this.trans rfl
      have hkk : gkind word ≤ 12 := gkindFrom_le _ 12 1 (by omega)
      have HCT := Lib.hid (fun W => l20Control_any (gkind word) nh W hkk h3)
      obtain ⟨v, hv⟩ : ∃ v, v = ctlS (gkind word) nh := ⟨_, rfl⟩
      rw [← hv] at HCT
      have HV := Lib.hid hv
      clear hv
      have KS : Hid (∀ W : World, Below wr.heap.size wr W → (W.cell? ⟨w.heap.size, 1, none⟩ = some (.string word) ∧ W.cell? ⟨w.heap.size + 1, 1, none⟩ = some (.slice Ah nh ch))) := fun W hW => ⟨(hW.cell (p := ⟨w.heap.size, 1, none⟩) hlz).trans p1, (hW.cell (p := ⟨w.heap.size + 1, 1, none⟩) hlz1).trans q1⟩
      cases v
      all_goals
        go_wp2_with fail
        go_region_held3 (fun W => W.cell? ⟨w.heap.size, 1, none⟩ = some (.string word) ∧ W.cell? ⟨w.heap.size + 1, 1, none⟩ = some (.slice Ah nh ch)) ((refine KS.out _ ?_; first | exact Below.refl _ _ | exact (Below.refl _ _).drew | exact b1)) (first | (go_at_call 48; (with_reducible refine (GateKind_spec word _).mono ?_); rintro e w1 ⟨rfl, b1d, s1d⟩; have b1 := below_undrewC b1d) | (go_at_call 77; (with_reducible refine (HCT.out _).mono ?_); rintro e w' ⟨rfl, rfl⟩))
        have hs1 := b1.size
        have bb := hb.trans (b1.mono hbs)
        have r1 := (KS.out _ b1).1
        clear p0 p1 p2 p3 p4 q0 q1 q2 q3
        obtain ⟨k0, k1⟩ := boxc2 (lay := bb) X2.out
        have f0 := boxfree bb X2.out 0
        have f1 := boxfree bb X2.out 1
        have hl2 : w.heap.size + 1 + 1 < w1.heap.size := by omega
        have hl0 : w.heap.size < w1.heap.size := by omega
        go_wp2_with fail
      · have HF := Lib.hid (gateBad_f (word := word) hc'.out (by rw [HNH.out]; exact HV.out.symm))
        exact bodyPost_ret (v := .agg #[.int .i64 9, .string word]) (by simp [results, Tryd.results67, go_sem, k0, k1]) rfl ⟨by rw [HF.out], ((B0.out.trans (bb.mono (by omega))).setCell (by simp; omega) _).setCell (by simp; omega) _, by simp [World.setCell]; omega⟩
      · have HF := Lib.hid (gateBad_t (word := word) hc'.out (by rw [HNH.out]; exact HV.out.symm))
        exact bodyPost_ret (v := .agg #[.int .i64 0, .string ⟨#[]⟩]) (by simp [results, Tryd.results67, go_sem, k0, k1]) rfl ⟨by rw [HF.out]; rfl, ((B0.out.trans (bb.mono (by omega))).setCell (by simp; omega) _).setCell (by simp; omega) _, by simp [World.setCell]; omega⟩
end Go.Proofs.YtbamjfbfipkioaaDoor
namespace Go.Proofs.YtbamjfbfipkioaaDoor
open Go.RowKit
set_option linter.unusedVariables false
theorem validT_mem {d : Nat} {l : List (Tr (d + 1))} {t : Nat} {s : Tr (d + 1)} (h : validT (d + 1) l = true) (hs : l[t]? = some s) : vOne d (validT d) (hdT s) (bdT s) = true := List.all_eq_true.1 h s (List.mem_of_getElem? hs)
theorem vOne_facts {d : Nat} {k : Int} {word : ByteArray} {args : List ByteArray} {count : Int} {bd : List (Tr d)} (h : vOne d (validT d) ⟨k, word, args, count⟩ bd = true) : (1 ≤ k ∧ k ≤ 7) ∧ (k = 2 → 1 ≤ count ∧ count ≤ 9) ∧ validT d bd = true := by
  unfold vOne headV at h
  simp only [Bool.and_eq_true] at h
  obtain ⟨⟨h1, _, _, _, _, h2⟩, _, h3⟩ := h
  refine ⟨inB_iff.1 h1, fun hk => ?_, h3⟩
  unfold okCount at h2
  rw [if_pos hk] at h2
  exact inB_iff.1 h2
theorem own_low {w : World} {B B' e size n : Nat} {v : Value} {xs : List Value} (h : w.ownsRow B e size v n xs) (hB : B' ≤ B) : w.ownsRow B' e size v n xs := by
  refine ⟨h.1, ?_⟩
  rcases h.2 with h2 | ⟨g, cap, cur, h1, h2, h3⟩
  · exact .inl h2
  · exact .inr ⟨g, cap, cur, h1, Nat.le_trans hB h2, h3⟩
end Go.Proofs.YtbamjfbfipkioaaDoor
namespace Go.Proofs.YtbamjfbfipkioaaDoor
open Go.RowKit
set_option linter.unusedVariables false
def arg0 (h : SH) : ByteArray := h.args.getD 0 ⟨#[]⟩
theorem arg0_of {h : SH} (hl : 0 < h.args.length) : h.args[0]? = some (arg0 h) := by
  unfold arg0
  rw [List.getD_eq_getElem?_getD, List.getElem?_eq_getElem hl]
  rfl
/-- What is known in a statement's body, and what is wrong with the statement itself. -/
def stepN (h : SH) (names held : List ByteArray) : Bad × (List ByteArray × List ByteArray) :=
  if h.k = 1 then (gateBad names held h.args h.word, (names, held))
  else if h.k = 6 then ((6, arg0 h), (names, held))
  else if h.k = 7 then ((6, arg0 h), (names, held))
  else if h.k = 4 then (argBad names held (arg0 h), (names, held ++ [arg0 h]))
  else if h.k = 5 then (if hasS names (arg0 h) = true then ((1, arg0 h), (names, held)) else if names.length = 4 then ((5, arg0 h), (names, held)) else (bad0, (names ++ [arg0 h], held)))
  else (bad0, (names, held))
def oneN (h : SH) (body : List ByteArray → List ByteArray → Bad) (names held : List ByteArray) : Bad :=
  if (stepN h names held).1.1 = 0 then body (stepN h names held).2.1 (stepN h names held).2.2 else (stepN h names held).1
def firstB : List Bad → Bad
  | [] => bad0
  | c :: r => if c.1 = 0 then firstB r else c
def chkN : (d : Nat) → List (Tr d) → List ByteArray → List ByteArray → Bad
  | 0, _, _, _ => bad0
  | d + 1, l, names, held => firstB (l.map fun s => oneN (hdT s) (chkN d (bdT s)) names held)
theorem chkN_nil (d : Nat) (names held : List ByteArray) : chkN d [] names held = bad0 := by cases d <;> rfl
theorem firstB_take {L : List Bad} {t : Nat} {c : Bad} (h : L[t]? = some c) (h0 : firstB (L.take t) = bad0) (hz : ∀ x ∈ L.take t, x.1 = 0) (hc : c.1 ≠ 0) : firstB L = c := by
  induction L generalizing t with
  | nil => simp at h
  | cons x L ih =>
    cases t with
    | zero =>
      simp at h
      subst h
      rw [firstB, if_neg hc]
    | succ t =>
      have hx := hz x (by simp)
      rw [firstB, if_pos hx]
      rw [List.take_succ_cons, firstB, if_pos hx] at h0
      exact ih (by simpa using h) h0 (fun y hy => hz y (by simp [hy]))
theorem firstB_zero {L : List Bad} (hz : ∀ x ∈ L, x.1 = 0) : firstB L = bad0 := by
  induction L with
  | nil => rfl
  | cons x L ih => rw [firstB, if_pos (hz x (by simp)), ih (fun y hy => hz y (by simp [hy]))]
theorem oneN_z {h : SH} {body : List ByteArray → List ByteArray → Bad} {names held : List ByteArray} {p : List ByteArray × List ByteArray} (hs : stepN h names held = (bad0, p)) : oneN h body names held = body p.1 p.2 := by rw [oneN, hs, if_pos (show (bad0, p).1.1 = 0 from rfl)]
theorem oneN_b {h : SH} {body : List ByteArray → List ByteArray → Bad} {names held : List ByteArray} {c : Bad} {p : List ByteArray × List ByteArray} (hs : stepN h names held = (c, p)) (hc : c.1 ≠ 0) : oneN h body names held = c := by rw [oneN, hs, if_neg hc]
/-- A gate has no body. -/
theorem oneN_gate {d : Nat} {h : SH} {bd : List (Tr d)} {names held : List ByteArray} (hk : h.k = 1) (hb : bd = []) : oneN h (chkN d bd) names held = gateBad names held h.args h.word := by
  subst hb
  have hs : stepN h names held = (gateBad names held h.args h.word, (names, held)) := by rw [stepN, if_pos hk]
  rw [oneN, hs, chkN_nil]
  split
  · rename_i e
    unfold gateBad at e ⊢
    split at e
    · rename_i h1
      rw [if_pos h1]
      split at e
      · rename_i h2; rw [if_pos h2]
      · exact absurd e (by simp)
    · rename_i h1
      exact absurd e h1
  · rfl
theorem valid_gate {d : Nat} {h : SH} {bd : List (Tr d)} (hv : vOne d (validT d) h bd = true) (hk : hasB h.k = false) : bd = [] := by
  unfold vOne headV at hv
  simp only [Bool.and_eq_true] at hv
  obtain ⟨⟨_, _, _, _, h5, _⟩, _⟩ := hv
  have := of_decide_eq_true h5
  rcases this with h | h
  · rw [hk] at h; cases h
  · exact List.eq_nil_of_length_eq_zero h
theorem valid_args {d : Nat} {h : SH} {bd : List (Tr d)} (hv : vOne d (validT d) h bd = true) : h.args.length = nargs h.k h.word := by
  unfold vOne headV at hv
  simp only [Bool.and_eq_true] at hv
  exact of_decide_eq_true hv.1.2.1
set_option maxRecDepth 100000 in
set_option maxHeartbeats 2000000 in
theorem l20Measure_in (word : ByteArray) (args : List ByteArray) (a : ByteArray) (count : Int) (Aa : Option Addr) (m ca : Nat) (Ac : Option Addr) (nc cc E : Nat) (An Ah Ab : Option Addr) (nn cn nh ch nb cb : Nat) (w : World)
    (hx : w.heap[E]? = some (.cells #[.slice An nn cn, .slice Ah nh ch, .bool true, .slice Ab nb cb] 71 (0, 0))) (hra : Rd w 1 Aa m (strs args)) (ha : args[0]? = some a) (hm : 0 < m) (hm2 : m ≤ 1048576) :
    Calls Tryd.prog 70 #[.agg #[.int .i64 6, .string word, .slice Aa m ca, .int .i64 count, .slice Ac nc cc], .pointer (some ⟨E, 0, none⟩)] w (RetBadA (6, a) w) := by
  obtain ⟨b, off, rfl, hbl, hc⟩ := hra.2 hm
  have r0 := hc 0 _ (strs_at ha)
  rw [Nat.add_zero] at r0
  obtain ⟨q0, q1, q2, q3⟩ := boxcells4' (lay := Below.refl _ _) hx
  have hEl := lt_of_block hx
  have hm3 : (0 : Int) < (m : Int) := by omega
  clear hc hra hx ha
  go_enter Tryd.func70, Tryd.ntmps70
  go_wp2_with fail
  exact bodyPost_ret (v := .agg #[.int .i64 6, .string a]) (by simp [results, Tryd.results70, go_sem]) rfl ⟨rfl, (by repeat (first | exact Below.refl _ _ | assumption | (refine Below.trans ?_ (Below.mono (by assumption) (by first | omega | (simp; done) | (simp; omega)))) | (with_reducible refine Below.drew ?_) | (with_reducible refine Below.alloc ?_ (by first | omega | (simp; done) | (simp; omega)) _) | (with_reducible refine Below.setCell ?_ (by first | omega | (simp; done) | (simp; omega)) _))), (by first | omega | (simp; done) | (simp; omega))⟩
end Go.Proofs.YtbamjfbfipkioaaDoor
namespace Go.Proofs.YtbamjfbfipkioaaDoor
open Go.RowKit
theorem step_append_rdO {P : Program} (w : World) {ops : Array Oper} {o : Oper} {a : Act} {K : Act → World → Prop} {Q : Exit → Act → World → Prop} {E : Prop} (hgd : o.guard = none) (s x : Operand) (t : TypeId)
    (ho : o.op = .call { callee := .builtin .append, args := #[s, x], argTypes := #[t, t] })
    (base : Nat) (e : TypeId) (i : TypeInfo) (z : Value) (size bytes : Nat) (ht : P.underlying t = some (.slice e)) (hi : P.info? e = some i) (hz : i.zero = some z)
    (hsize : i.size = size) (hby : i.bytes = bytes) (hzs : z.cells.size = size) (hsz : 0 < size)
    (v : Value) (n : Nat) (xs : List Value) (hs : a.eval s = v) (hown : w.ownsRow base e size v n xs)
    (A : Option Addr) (m c : Nat) (news : List Value) (hx : a.eval x = .slice A m c) (hr : Rd w size A m news) (h1 : ∀ u ∈ news, u.oneCell' = true)
    (h63 : n + m ≤ maxLen) (hbytes : (n + m) * bytes ≤ 140737488355328) (hbase : base ≤ w.heap.size)
    (h : ∀ v' w', w'.ownsRow base e size v' (n + m) (xs ++ news) → w.grownBy w' v.ownBlock → (v'.ownBlock = v.ownBlock ∨ v'.ownBlock = some w.heap.size) → K (a.put o.dst v') w') :
    if Region.wanted o (yielded ops a.tmps) = true then Oper.wp P o a w K Q else E := by
  have hw : Region.wanted o (yielded ops a.tmps) = true := by simp [Region.wanted, hgd]
  rw [if_pos hw]
  obtain ⟨v', w', hrun, h2, h3, h4⟩ := run_append_rd (P := P) w base t o.type e i z size bytes ht hi hz hsize hby hzs hsz v n xs hown A m c news hr h1 h63 hbytes hbase
  unfold Oper.wp execOp
  simp only [ho, resolve, invoke, builtin, Sem.run_bind, Sem.run_pure, Result.andThen_ok, List.map_toArray, List.map_cons, List.map_nil, hs, hx, hrun]
  exact h v' w' h2 h3 h4
end Go.Proofs.YtbamjfbfipkioaaDoor
