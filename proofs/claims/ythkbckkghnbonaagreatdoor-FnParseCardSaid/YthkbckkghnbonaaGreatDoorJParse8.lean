/- What the calls that this law reaches answer, part 8 of 16. -/
import Derived.Test.YthkbckkghnbonaaGreatDoorJParse7
import Derived.Test.YthkbckkghnbonaaGreatDoorJParse1
namespace Go.Proofs.YthkbckkghnbonaaGreatDoor
open Go.RowKit
set_option linter.unusedVariables false
set_option maxRecDepth 100000 in
set_option maxHeartbeats 4000000 in
theorem toks_spec_1 (word : ByteArray) (args : List ByteArray) (count : Int) (Aa : Option Addr) (m ca : Nat) (Ab : Option Addr) (nb cb : Nat) (w : World) (rs : List (List Tk)) (hm : args.length = m) (hra : Rd w 1 Aa m (strs args)) (hl : m ≤ 1048576) (hn : nb ≤ 1048576) (hrs : rs.length = nb) (hel : EltsT 99 w Ab nb rs) (hR : rs.flatten.length ≤ 1099511627776)
    (hval : ∀ w', Below w.heap.size w w' → Calls Tryz.prog 105 #[.agg #[.int .i64 1, .string word, .slice Aa m ca, .int .i64 count, .slice Ab nb cb]] w' fun e w'' => e = .returned (.bool true) ∧ Below w'.heap.size w' w'' ∧ w'.heap.size ≤ w''.heap.size) :
    Calls Tryz.prog 99 #[.agg #[.int .i64 1, .string word, .slice Aa m ca, .int .i64 count, .slice Ab nb cb]] w (RetTk w (toks1 ⟨1, word, args, count⟩ rs.flatten)) := by
  obtain ⟨i0, hi, hz0, hz1, hz2⟩ := info_parts info_TkE
  obtain ⟨w0, hw0⟩ : ∃ w0, w0 = w.alloc (.cells #[.int .i64 1, .string word, .slice Aa m ca, .int .i64 count, .slice Ab nb cb] 66) := ⟨_, rfl⟩
  have X0 := Lib.hid (show w0.heap[w.heap.size]? = some (.cells #[.int .i64 1, .string word, .slice Aa m ca, .int .i64 count, .slice Ab nb cb] 66 (0, 0)) by rw [hw0]; exact boxed1_0 _ _)
  have b0 : Below w.heap.size w w0 := by rw [hw0]; exact (by repeat (first | exact Below.refl _ _ | assumption | (refine Below.trans ?_ (Below.mono (by assumption) (by first | omega | (simp; done) | (simp; omega)))) | (with_reducible refine Below.drew ?_) | (with_reducible refine Below.alloc ?_ (by first | omega | (simp; done) | (simp; omega)) _) | (with_reducible refine Below.setCell ?_ (by first | omega | (simp; done) | (simp; omega)) _)))
  have s0 : w.heap.size ≤ w0.heap.size := b0.size
  have z0 : w.heap.size < w0.heap.size := by rw [hw0]; simp
  have HV := Lib.hid (hval w0 b0)
  have B0 := Lib.hid b0
  have HW := Lib.hid hw0
  have HM := Lib.hid hm
  have HRA := Lib.hid (hra.below b0)
  have HEL := Lib.hid hel
  have HRS := Lib.hid hrs
  have HR := Lib.hid hR
  clear b0 hw0 hm hra hel hrs hR hval
  go_enter Tryz.func99, Tryz.ntmps99
  go_wp2_with fail
  rw [← HW.out]
  refine HV.out.mono ?_
  rintro e w1 ⟨rfl, b1, s1⟩
  obtain ⟨p0, p1, p2, p3, p4⟩ := boxcells5 (lay := b1) X0.out
  have zl1 : w.heap.size < w1.heap.size := by omega
  go_wp2_with fail
  refine (l19Word_any _ _).mono ?_
  rintro e w2 ⟨rfl, b2, s2⟩
  have hb2 : Below w0.heap.size w0 w2 := b1.trans (b2.mono s1)
  have hs2 := hb2.size
  clear p0 p1 p2 p3 p4 b1 b2 s2
  obtain ⟨p0, p1, p2, p3, p4⟩ := boxcells5 (lay := hb2) X0.out
  have zl2 : w.heap.size < w2.heap.size := by omega
  obtain ⟨w3, hw3⟩ : ∃ w3, w3 = w2.alloc (.cells #[.int .i64 1, .string word] 110) := ⟨_, rfl⟩
  have own3 : w3.ownsRow w0.heap.size 110 2 (.slice (some ⟨w2.heap.size, 0, none⟩) 1 1) 1 (tkcs [wTk word]) := by rw [hw3]; exact World.ownsRow_lit w2 #[.int .i64 1, .string word] 1 hs2 (by simp [maxLen]) rfl
  have hb3 : Below w0.heap.size w0 w3 := by rw [hw3]; exact hb2.alloc hs2 _
  have hs3 := hb3.size
  have HW3 := Lib.hid hw3
  clear hw3
  go_wp2_with fail
  rw [← HW3.out]
  clear p0 p1 p2 p3 p4
  obtain ⟨L0, hL0⟩ : ∃ L0, L0 = [wTk word] := ⟨_, rfl⟩
  have HL0 := Lib.hid hL0
  rw [← hL0] at own3
  clear hL0
  refine (l19Words_any Aa m ca args _ (HRA.out.below hb3) HM.out hl).mono ?_
  rintro e wq ⟨vq, rfl, oq, bq, sq⟩
  obtain ⟨Aq, cq, rfl, _, _, rq⟩ := rd_of_own oq
  have ownq := ownsRow_below own3 bq
  have hbq := hb3.trans (bq.mono (by omega))
  have hsq := hbq.size
  clear oq own3
  go_wp2_with (at_builtin; refine wpList_append_rd _ rfl _ _ 53 rfl w0.heap.size 110 i0 _ 2 24 Tryz.underlying53 hi hz0 hz1 hz2 rfl (by decide) _ _ _ rfl ownq _ _ _ _ rfl rq ?c2 ?c3 ?c4 ?c5 ?_)
  case c2 => exact tkc_ones _
  case c3 => simp only [maxLen]; omega
  case c4 => omega
  case c5 => first | omega | (simp; omega)
  intro v7 w7 own7 gr7 _
  have hb7 := hbq.grown gr7 hsq (own_ge ownq)
  have hs7 := hb7.size
  clear ownq gr7 rq
  obtain ⟨L1, hL1⟩ : ∃ L1, L1 = L0 ++ args.map wTk := ⟨_, rfl⟩
  rw [← tkcs_append, ← hL1] at own7
  have HL1 : Hid (L1 = [wTk word] ++ args.map wTk) := by rw [hL1, HL0.out]; exact rfl
  clear hL1
  obtain ⟨p0, p1, p2, p3, p4⟩ := boxcells5 (lay := hb7) X0.out
  have zl7 : w.heap.size < w7.heap.size := by omega
  go_wp2_with (at_builtin; refine wpList_append_rd _ rfl _ _ 53 rfl w0.heap.size 110 i0 _ 2 24 Tryz.underlying53 hi hz0 hz1 hz2 rfl (by decide) _ _ _ rfl (own7.alloc _) _ 1 1 _ rfl (rd_lit2 ?c0 rfl) ?c2 ?c3 ?c4 ?c5 ?_)
  case c0 => first | rfl | simp
  case c2 => repeat' (first | rfl | apply And.intro)
  case c3 => simp only [maxLen]; omega
  case c4 => omega
  case c5 => first | omega | (simp; omega)
  intro v8 w8 own8 gr8 _
  have hb8 := (hb7.alloc hs7 _).grown gr8 (by simp; omega) (own_ge own7)
  have hs8 := hb8.size
  clear own7 gr8 p0 p1 p2 p3 p4
  go_wp2_with fail
  go_ret
  have e : toks1 ⟨1, word, args, count⟩ rs.flatten = ([wTk word] ++ args.map wTk) ++ [pTk 2] := by simp [toks1, headW]
  refine retTk_of ?_ (own_low own8 s0) (B0.out.trans (hb8.mono s0)) (by omega)
  rw [e, tkcs_append, ← HL1.out]
  rfl
set_option maxRecDepth 100000 in
set_option maxHeartbeats 4000000 in
theorem toks_spec_2 (word : ByteArray) (args : List ByteArray) (count : Int) (Aa : Option Addr) (m ca : Nat) (Ab : Option Addr) (nb cb : Nat) (w : World) (rs : List (List Tk)) (hm : args.length = m) (hra : Rd w 1 Aa m (strs args)) (hl : m ≤ 1048576) (hn : nb ≤ 1048576) (hrs : rs.length = nb) (hel : EltsT 99 w Ab nb rs) (hR : rs.flatten.length ≤ 1099511627776) (c1 : 1 ≤ count) (c2 : count ≤ 9)
    (hval : ∀ w', Below w.heap.size w w' → Calls Tryz.prog 105 #[.agg #[.int .i64 2, .string word, .slice Aa m ca, .int .i64 count, .slice Ab nb cb]] w' fun e w'' => e = .returned (.bool true) ∧ Below w'.heap.size w' w'' ∧ w'.heap.size ≤ w''.heap.size) :
    Calls Tryz.prog 99 #[.agg #[.int .i64 2, .string word, .slice Aa m ca, .int .i64 count, .slice Ab nb cb]] w (RetTk w (toks1 ⟨2, word, args, count⟩ rs.flatten)) := by
  obtain ⟨i0, hi, hz0, hz1, hz2⟩ := info_parts info_TkE
  obtain ⟨w0, hw0⟩ : ∃ w0, w0 = w.alloc (.cells #[.int .i64 2, .string word, .slice Aa m ca, .int .i64 count, .slice Ab nb cb] 66) := ⟨_, rfl⟩
  have X0 := Lib.hid (show w0.heap[w.heap.size]? = some (.cells #[.int .i64 2, .string word, .slice Aa m ca, .int .i64 count, .slice Ab nb cb] 66 (0, 0)) by rw [hw0]; exact boxed1_0 _ _)
  have b0 : Below w.heap.size w w0 := by rw [hw0]; exact (by repeat (first | exact Below.refl _ _ | assumption | (refine Below.trans ?_ (Below.mono (by assumption) (by first | omega | (simp; done) | (simp; omega)))) | (with_reducible refine Below.drew ?_) | (with_reducible refine Below.alloc ?_ (by first | omega | (simp; done) | (simp; omega)) _) | (with_reducible refine Below.setCell ?_ (by first | omega | (simp; done) | (simp; omega)) _)))
  have s0 : w.heap.size ≤ w0.heap.size := b0.size
  have z0 : w.heap.size < w0.heap.size := by rw [hw0]; simp
  have HV := Lib.hid (hval w0 b0)
  have B0 := Lib.hid b0
  have HW := Lib.hid hw0
  have HM := Lib.hid hm
  have HRA := Lib.hid (hra.below b0)
  have HEL := Lib.hid hel
  have HRS := Lib.hid hrs
  have HR := Lib.hid hR
  clear b0 hw0 hm hra hel hrs hR hval
  go_enter Tryz.func99, Tryz.ntmps99
  go_wp2_with fail
  rw [← HW.out]
  refine HV.out.mono ?_
  rintro e w1 ⟨rfl, b1, s1⟩
  obtain ⟨p0, p1, p2, p3, p4⟩ := boxcells5 (lay := b1) X0.out
  have zl1 : w.heap.size < w1.heap.size := by omega
  go_wp2_with fail
  refine (l19Word_any _ _).mono ?_
  rintro e w2 ⟨rfl, b2, s2⟩
  have hb2 : Below w0.heap.size w0 w2 := (b1.alloc s1 _).trans (b2.mono (by simp; omega))
  have hs2 := hb2.size
  clear p0 p1 p2 p3 p4 b1 b2 s2
  obtain ⟨p0, p1, p2, p3, p4⟩ := boxcells5 (lay := hb2) X0.out
  have zl2 : w.heap.size < w2.heap.size := by omega
  obtain ⟨w3, hw3⟩ : ∃ w3, w3 = w2.alloc (.cells #[.int .i64 1, .string ⟨#[114, 101, 112, 101, 97, 116]⟩] 110) := ⟨_, rfl⟩
  have own3 : w3.ownsRow w0.heap.size 110 2 (.slice (some ⟨w2.heap.size, 0, none⟩) 1 1) 1 (tkcs [wTk ⟨#[114, 101, 112, 101, 97, 116]⟩]) := by rw [hw3]; exact World.ownsRow_lit w2 #[.int .i64 1, .string ⟨#[114, 101, 112, 101, 97, 116]⟩] 1 hs2 (by simp [maxLen]) rfl
  have hb3 : Below w0.heap.size w0 w3 := by rw [hw3]; exact hb2.alloc hs2 _
  have hs3 := hb3.size
  have HW3 := Lib.hid hw3
  clear hw3
  go_wp2_with fail
  rw [← HW3.out]
  clear p0 p1 p2 p3 p4
  refine (FormatInt_spec9 count (by omega) c2 _).mono ?_
  rintro e w4 ⟨rfl, b4, s4⟩
  have hb4 := hb3.trans (b4.mono hs3)
  have hs4 := hb4.size
  have own4 := ownsRow_below own3 b4
  go_wp2_with fail
  refine (l19Word_any _ _).mono ?_
  rintro e w5 ⟨rfl, b5, s5⟩
  have own5 := ownsRow_below own4 b5
  have hb5 := hb4.trans (b5.mono hs4)
  have hs5 := hb5.size
  clear own3 own4
  go_wp2_with (at_builtin; refine wpList_append_rd _ rfl _ _ 53 rfl w0.heap.size 110 i0 _ 2 24 Tryz.underlying53 hi hz0 hz1 hz2 rfl (by decide) _ _ _ rfl (own5.alloc _) _ 1 1 _ rfl (rd_lit2 ?c0 rfl) ?c2 ?c3 ?c4 ?c5 ?_)
  case c0 => first | rfl | simp
  case c2 => repeat' (first | rfl | apply And.intro)
  case c3 => simp only [maxLen]; omega
  case c4 => omega
  case c5 => first | omega | (simp; omega)
  intro v6 w6 own6 gr6 _
  have hb6 := (hb5.alloc hs5 _).grown gr6 (by simp; omega) (own_ge own5)
  have hs6 := hb6.size
  clear own5 gr6
  have own6 : w6.ownsRow w0.heap.size 110 2 v6 2 (tkcs ([wTk ⟨#[114, 101, 112, 101, 97, 116]⟩] ++ [wTk (dig count)])) := by rw [tkcs_append]; exact own6
  obtain ⟨p0, p1, p2, p3, p4⟩ := boxcells5 (lay := hb6) X0.out
  have zl6 : w.heap.size < w6.heap.size := by omega
  go_wp2_with fail
  clear p0 p1 p2 p3 p4
  obtain ⟨L0, hL0⟩ : ∃ L0, L0 = ([wTk ⟨#[114, 101, 112, 101, 97, 116]⟩] ++ [wTk (dig count)]) := ⟨_, rfl⟩
  have HL0 := Lib.hid hL0
  rw [← hL0] at own6
  clear hL0
  refine (l19Words_any Aa m ca args _ (HRA.out.below hb6) HM.out hl).mono ?_
  rintro e wq ⟨vq, rfl, oq, bq, sq⟩
  obtain ⟨Aq, cq, rfl, _, _, rq⟩ := rd_of_own oq
  have ownq := ownsRow_below own6 bq
  have hbq := hb6.trans (bq.mono (by omega))
  have hsq := hbq.size
  clear oq own6
  go_wp2_with (at_builtin; refine wpList_append_rd _ rfl _ _ 53 rfl w0.heap.size 110 i0 _ 2 24 Tryz.underlying53 hi hz0 hz1 hz2 rfl (by decide) _ _ _ rfl ownq _ _ _ _ rfl rq ?c2 ?c3 ?c4 ?c5 ?_)
  case c2 => exact tkc_ones _
  case c3 => simp only [maxLen]; omega
  case c4 => omega
  case c5 => first | omega | (simp; omega)
  intro v7 w7 own7 gr7 _
  have hb7 := hbq.grown gr7 hsq (own_ge ownq)
  have hs7 := hb7.size
  clear ownq gr7 rq
  obtain ⟨L1, hL1⟩ : ∃ L1, L1 = L0 ++ args.map wTk := ⟨_, rfl⟩
  rw [← tkcs_append, ← hL1] at own7
  have HL1 : Hid (L1 = ([wTk ⟨#[114, 101, 112, 101, 97, 116]⟩] ++ [wTk (dig count)]) ++ args.map wTk) := by rw [hL1, HL0.out]; exact rfl
  clear hL1
  obtain ⟨p0, p1, p2, p3, p4⟩ := boxcells5 (lay := hb7) X0.out
  have zl7 : w.heap.size < w7.heap.size := by omega
  go_wp2_with (at_builtin; refine wpList_append_rd _ rfl _ _ 53 rfl w0.heap.size 110 i0 _ 2 24 Tryz.underlying53 hi hz0 hz1 hz2 rfl (by decide) _ _ _ rfl (own7.alloc _) _ 1 1 _ rfl (rd_lit2 ?c0 rfl) ?c2 ?c3 ?c4 ?c5 ?_)
  case c0 => first | rfl | simp
  case c2 => repeat' (first | rfl | apply And.intro)
  case c3 => simp only [maxLen]; omega
  case c4 => omega
  case c5 => first | omega | (simp; omega)
  intro v8 w8 own8 gr8 _
  have hb8 := (hb7.alloc hs7 _).grown gr8 (by simp; omega) (own_ge own7)
  have hs8 := hb8.size
  clear own7 gr8 p0 p1 p2 p3 p4
  obtain ⟨L2, hL2⟩ : ∃ L2, L2 = L1 ++ [pTk 3] := ⟨_, rfl⟩
  have own8 : w8.ownsRow w0.heap.size 110 2 v8 (2 + m + 1) (tkcs L2) := by rw [hL2, tkcs_append]; exact own8
  have HL2 := Lib.hid hL2
  obtain ⟨N2, hN2⟩ : ∃ N2, N2 = 2 + m + 1 := ⟨_, rfl⟩
  rw [← hN2] at own8
  have hN2' : N2 ≤ 1048580 := by omega
  clear hL2 hN2
  go_wp2_with fail
  go_loopw [4, 5] (fun v i wr => ∃ t : Nat, t ≤ nb ∧ i = .int .i64 t ∧ wr.ownsRow w0.heap.size 110 2 v (N2 + (rs.take t).flatten.length) (tkcs (L2 ++ (rs.take t).flatten)) ∧ Below w0.heap.size w0 wr) (fun _ i _ => nb - (intOf i).toNat)
  case atStart => exact ⟨0, Nat.zero_le _, rfl, by simpa using own8, hb8⟩
  case round =>
    obtain ⟨t, ht, rfl, hown, hb⟩ := hrel
    have hbs := hb.size
    have hFle := flat_le rs t
    have hRR := HR.out
    obtain ⟨p0, p1, p2, p3, p4⟩ := boxcells5 (lay := hb) X0.out
    have zl : w.heap.size < wr.heap.size := by omega
    by_cases hlt : t < nb
    · obtain ⟨b, off, k', wd', Aa', na', ca', ct', Ab', nb', cb', r, rfl, hbl, ⟨q0, q1, q2, q3, q4⟩, hr, hcall⟩ := HEL.out t hlt
      have hbw := (B0.out.trans (hb.mono s0))
      rw [← hbw.cell (p := ⟨b, _, none⟩) hbl] at q0 q1 q2 q3 q4
      have HC := Lib.hid (hcall _ hbw)
      have HS := Lib.hid (flat_step hr)
      have hF1 := flat_le rs (t + 1)
      rw [flat_step hr, List.length_append] at hF1
      obtain ⟨F, hF⟩ : ∃ F, F = (rs.take t).flatten := ⟨_, rfl⟩
      rw [← hF] at hown HS hF1 hFle
      have hlt0 : b < wr.heap.size := by have := hbw.size; omega
      clear hcall hr hbl hF
      go_wp2_with fail
      refine HC.out.mono ?_
      rintro e wx ⟨vx, rfl, ox, bx, sx⟩
      obtain ⟨Ax, cx, rfl, _, _, rx⟩ := rd_of_own ox
      have ownx := ownsRow_below hown bx
      have hbx := hb.trans (bx.mono hbs)
      have hsx := hbx.size
      clear hown ox bx sx q0 q1 q2 q3 q4 p0 p1 p2 p3 p4
      go_wp2_with (at_builtin; refine wpList_append_rd _ rfl _ _ 53 rfl w0.heap.size 110 i0 _ 2 24 Tryz.underlying53 hi hz0 hz1 hz2 rfl (by decide) _ _ _ rfl ownx _ _ _ _ rfl rx ?c2 ?c3 ?c4 ?c5 ?_)
      case c2 => exact tkc_ones r
      case c3 => simp only [maxLen]; omega
      case c4 => omega
      case c5 => first | omega | (simp; omega)
      intro v9 w9 own9 gr9 _
      have hb9 := hbx.grown gr9 (by omega) (own_ge ownx)
      clear ownx gr9 rx
      go_wp2_with fail
      go_roundw
      case rel =>
        refine ⟨t + 1, by omega, by go_num, ?_, hb9⟩
        rw [HS.out, ← List.append_assoc, tkcs_append, List.length_append, ← Nat.add_assoc]
        exact own9
      case measure => simp [intOf]; omega
    · obtain rfl : nb = t := by omega
      rw [List.take_of_length_le (by have := HRS.out; omega)] at hown hFle
      go_wp2_with (at_builtin; refine wpList_append_rd _ rfl _ _ 53 rfl w0.heap.size 110 i0 _ 2 24 Tryz.underlying53 hi hz0 hz1 hz2 rfl (by decide) _ _ _ rfl (hown.alloc _) _ 1 1 _ rfl (rd_lit2 ?c0 rfl) ?c2 ?c3 ?c4 ?c5 ?_)
      case c0 => first | rfl | simp
      case c2 => repeat' (first | rfl | apply And.intro)
      case c3 => simp only [maxLen]; omega
      case c4 => omega
      case c5 => first | omega | (simp; omega)
      intro v10 w10 own10 gr10 _
      have hb10 := (hb.alloc hbs _).grown gr10 (by simp; omega) (own_ge hown)
      have hs10 := hb10.size
      clear hown gr10
      go_wp2_with fail
      go_ret
      have e : toks1 ⟨2, word, args, count⟩ rs.flatten = (((([wTk ⟨#[114, 101, 112, 101, 97, 116]⟩] ++ [wTk (dig count)]) ++ args.map wTk) ++ [pTk 3]) ++ rs.flatten) ++ [pTk 4] := by simp [toks1, headW, heads]
      refine retTk_of ?_ (own_low own10 s0) (B0.out.trans (hb10.mono s0)) (by omega)
      have e2 : tkcs (toks1 ⟨2, word, args, count⟩ rs.flatten) = tkcs (L2 ++ rs.flatten) ++ tkcs [pTk 4] := by rw [e, tkcs_append, ← HL1.out, ← HL2.out]
      rw [e2]
      rfl
set_option maxRecDepth 100000 in
set_option maxHeartbeats 4000000 in
theorem toks_spec_3 (word : ByteArray) (args : List ByteArray) (count : Int) (Aa : Option Addr) (m ca : Nat) (Ab : Option Addr) (nb cb : Nat) (w : World) (rs : List (List Tk)) (hm : args.length = m) (hra : Rd w 1 Aa m (strs args)) (hl : m ≤ 1048576) (hn : nb ≤ 1048576) (hrs : rs.length = nb) (hel : EltsT 99 w Ab nb rs) (hR : rs.flatten.length ≤ 1099511627776)
    (hval : ∀ w', Below w.heap.size w w' → Calls Tryz.prog 105 #[.agg #[.int .i64 3, .string word, .slice Aa m ca, .int .i64 count, .slice Ab nb cb]] w' fun e w'' => e = .returned (.bool true) ∧ Below w'.heap.size w' w'' ∧ w'.heap.size ≤ w''.heap.size) :
    Calls Tryz.prog 99 #[.agg #[.int .i64 3, .string word, .slice Aa m ca, .int .i64 count, .slice Ab nb cb]] w (RetTk w (toks1 ⟨3, word, args, count⟩ rs.flatten)) := by
  obtain ⟨i0, hi, hz0, hz1, hz2⟩ := info_parts info_TkE
  obtain ⟨w0, hw0⟩ : ∃ w0, w0 = w.alloc (.cells #[.int .i64 3, .string word, .slice Aa m ca, .int .i64 count, .slice Ab nb cb] 66) := ⟨_, rfl⟩
  have X0 := Lib.hid (show w0.heap[w.heap.size]? = some (.cells #[.int .i64 3, .string word, .slice Aa m ca, .int .i64 count, .slice Ab nb cb] 66 (0, 0)) by rw [hw0]; exact boxed1_0 _ _)
  have b0 : Below w.heap.size w w0 := by rw [hw0]; exact (by repeat (first | exact Below.refl _ _ | assumption | (refine Below.trans ?_ (Below.mono (by assumption) (by first | omega | (simp; done) | (simp; omega)))) | (with_reducible refine Below.drew ?_) | (with_reducible refine Below.alloc ?_ (by first | omega | (simp; done) | (simp; omega)) _) | (with_reducible refine Below.setCell ?_ (by first | omega | (simp; done) | (simp; omega)) _)))
  have s0 : w.heap.size ≤ w0.heap.size := b0.size
  have z0 : w.heap.size < w0.heap.size := by rw [hw0]; simp
  have HV := Lib.hid (hval w0 b0)
  have B0 := Lib.hid b0
  have HW := Lib.hid hw0
  have HM := Lib.hid hm
  have HRA := Lib.hid (hra.below b0)
  have HEL := Lib.hid hel
  have HRS := Lib.hid hrs
  have HR := Lib.hid hR
  clear b0 hw0 hm hra hel hrs hR hval
  go_enter Tryz.func99, Tryz.ntmps99
  go_wp2_with fail
  rw [← HW.out]
  refine HV.out.mono ?_
  rintro e w1 ⟨rfl, b1, s1⟩
  obtain ⟨p0, p1, p2, p3, p4⟩ := boxcells5 (lay := b1) X0.out
  have zl1 : w.heap.size < w1.heap.size := by omega
  go_wp2_with fail
  refine (l19Word_any _ _).mono ?_
  rintro e w2 ⟨rfl, b2, s2⟩
  have hb2 : Below w0.heap.size w0 w2 := (b1.alloc s1 _).trans (b2.mono (by simp; omega))
  have hs2 := hb2.size
  clear p0 p1 p2 p3 p4 b1 b2 s2
  obtain ⟨p0, p1, p2, p3, p4⟩ := boxcells5 (lay := hb2) X0.out
  have zl2 : w.heap.size < w2.heap.size := by omega
  obtain ⟨w3, hw3⟩ : ∃ w3, w3 = w2.alloc (.cells #[.int .i64 1, .string ⟨#[97, 100, 106, 111, 105, 110, 116]⟩] 110) := ⟨_, rfl⟩
  have own3 : w3.ownsRow w0.heap.size 110 2 (.slice (some ⟨w2.heap.size, 0, none⟩) 1 1) 1 (tkcs [wTk ⟨#[97, 100, 106, 111, 105, 110, 116]⟩]) := by rw [hw3]; exact World.ownsRow_lit w2 #[.int .i64 1, .string ⟨#[97, 100, 106, 111, 105, 110, 116]⟩] 1 hs2 (by simp [maxLen]) rfl
  have hb3 : Below w0.heap.size w0 w3 := by rw [hw3]; exact hb2.alloc hs2 _
  have hs3 := hb3.size
  have HW3 := Lib.hid hw3
  clear hw3
  go_wp2_with fail
  rw [← HW3.out]
  clear p0 p1 p2 p3 p4
  obtain ⟨L0, hL0⟩ : ∃ L0, L0 = [wTk ⟨#[97, 100, 106, 111, 105, 110, 116]⟩] := ⟨_, rfl⟩
  have HL0 := Lib.hid hL0
  rw [← hL0] at own3
  clear hL0
  refine (l19Words_any Aa m ca args _ (HRA.out.below hb3) HM.out hl).mono ?_
  rintro e wq ⟨vq, rfl, oq, bq, sq⟩
  obtain ⟨Aq, cq, rfl, _, _, rq⟩ := rd_of_own oq
  have ownq := ownsRow_below own3 bq
  have hbq := hb3.trans (bq.mono (by omega))
  have hsq := hbq.size
  clear oq own3
  go_wp2_with (at_builtin; refine wpList_append_rd _ rfl _ _ 53 rfl w0.heap.size 110 i0 _ 2 24 Tryz.underlying53 hi hz0 hz1 hz2 rfl (by decide) _ _ _ rfl ownq _ _ _ _ rfl rq ?c2 ?c3 ?c4 ?c5 ?_)
  case c2 => exact tkc_ones _
  case c3 => simp only [maxLen]; omega
  case c4 => omega
  case c5 => first | omega | (simp; omega)
  intro v7 w7 own7 gr7 _
  have hb7 := hbq.grown gr7 hsq (own_ge ownq)
  have hs7 := hb7.size
  clear ownq gr7 rq
  obtain ⟨L1, hL1⟩ : ∃ L1, L1 = L0 ++ args.map wTk := ⟨_, rfl⟩
  rw [← tkcs_append, ← hL1] at own7
  have HL1 : Hid (L1 = [wTk ⟨#[97, 100, 106, 111, 105, 110, 116]⟩] ++ args.map wTk) := by rw [hL1, HL0.out]; exact rfl
  clear hL1
  obtain ⟨p0, p1, p2, p3, p4⟩ := boxcells5 (lay := hb7) X0.out
  have zl7 : w.heap.size < w7.heap.size := by omega
  go_wp2_with (at_builtin; refine wpList_append_rd _ rfl _ _ 53 rfl w0.heap.size 110 i0 _ 2 24 Tryz.underlying53 hi hz0 hz1 hz2 rfl (by decide) _ _ _ rfl (own7.alloc _) _ 1 1 _ rfl (rd_lit2 ?c0 rfl) ?c2 ?c3 ?c4 ?c5 ?_)
  case c0 => first | rfl | simp
  case c2 => repeat' (first | rfl | apply And.intro)
  case c3 => simp only [maxLen]; omega
  case c4 => omega
  case c5 => first | omega | (simp; omega)
  intro v8 w8 own8 gr8 _
  have hb8 := (hb7.alloc hs7 _).grown gr8 (by simp; omega) (own_ge own7)
  have hs8 := hb8.size
  clear own7 gr8 p0 p1 p2 p3 p4
  obtain ⟨L2, hL2⟩ : ∃ L2, L2 = L1 ++ [pTk 3] := ⟨_, rfl⟩
  have own8 : w8.ownsRow w0.heap.size 110 2 v8 (1 + m + 1) (tkcs L2) := by rw [hL2, tkcs_append]; exact own8
  have HL2 := Lib.hid hL2
  obtain ⟨N2, hN2⟩ : ∃ N2, N2 = 1 + m + 1 := ⟨_, rfl⟩
  rw [← hN2] at own8
  have hN2' : N2 ≤ 1048580 := by omega
  clear hL2 hN2
  go_wp2_with fail
  go_loopw [4, 5] (fun v i wr => ∃ t : Nat, t ≤ nb ∧ i = .int .i64 t ∧ wr.ownsRow w0.heap.size 110 2 v (N2 + (rs.take t).flatten.length) (tkcs (L2 ++ (rs.take t).flatten)) ∧ Below w0.heap.size w0 wr) (fun _ i _ => nb - (intOf i).toNat)
  case atStart => exact ⟨0, Nat.zero_le _, rfl, by simpa using own8, hb8⟩
  case round =>
    obtain ⟨t, ht, rfl, hown, hb⟩ := hrel
    have hbs := hb.size
    have hFle := flat_le rs t
    have hRR := HR.out
    obtain ⟨p0, p1, p2, p3, p4⟩ := boxcells5 (lay := hb) X0.out
    have zl : w.heap.size < wr.heap.size := by omega
    by_cases hlt : t < nb
    · obtain ⟨b, off, k', wd', Aa', na', ca', ct', Ab', nb', cb', r, rfl, hbl, ⟨q0, q1, q2, q3, q4⟩, hr, hcall⟩ := HEL.out t hlt
      have hbw := (B0.out.trans (hb.mono s0))
      rw [← hbw.cell (p := ⟨b, _, none⟩) hbl] at q0 q1 q2 q3 q4
      have HC := Lib.hid (hcall _ hbw)
      have HS := Lib.hid (flat_step hr)
      have hF1 := flat_le rs (t + 1)
      rw [flat_step hr, List.length_append] at hF1
      obtain ⟨F, hF⟩ : ∃ F, F = (rs.take t).flatten := ⟨_, rfl⟩
      rw [← hF] at hown HS hF1 hFle
      have hlt0 : b < wr.heap.size := by have := hbw.size; omega
      clear hcall hr hbl hF
      go_wp2_with fail
      refine HC.out.mono ?_
      rintro e wx ⟨vx, rfl, ox, bx, sx⟩
      obtain ⟨Ax, cx, rfl, _, _, rx⟩ := rd_of_own ox
      have ownx := ownsRow_below hown bx
      have hbx := hb.trans (bx.mono hbs)
      have hsx := hbx.size
      clear hown ox bx sx q0 q1 q2 q3 q4 p0 p1 p2 p3 p4
      go_wp2_with (at_builtin; refine wpList_append_rd _ rfl _ _ 53 rfl w0.heap.size 110 i0 _ 2 24 Tryz.underlying53 hi hz0 hz1 hz2 rfl (by decide) _ _ _ rfl ownx _ _ _ _ rfl rx ?c2 ?c3 ?c4 ?c5 ?_)
      case c2 => exact tkc_ones r
      case c3 => simp only [maxLen]; omega
      case c4 => omega
      case c5 => first | omega | (simp; omega)
      intro v9 w9 own9 gr9 _
      have hb9 := hbx.grown gr9 (by omega) (own_ge ownx)
      clear ownx gr9 rx
      go_wp2_with fail
      go_roundw
      case rel =>
        refine ⟨t + 1, by omega, by go_num, ?_, hb9⟩
        rw [HS.out, ← List.append_assoc, tkcs_append, List.length_append, ← Nat.add_assoc]
        exact own9
      case measure => simp [intOf]; omega
    · obtain rfl : nb = t := by omega
      rw [List.take_of_length_le (by have := HRS.out; omega)] at hown hFle
      go_wp2_with (at_builtin; refine wpList_append_rd _ rfl _ _ 53 rfl w0.heap.size 110 i0 _ 2 24 Tryz.underlying53 hi hz0 hz1 hz2 rfl (by decide) _ _ _ rfl (hown.alloc _) _ 1 1 _ rfl (rd_lit2 ?c0 rfl) ?c2 ?c3 ?c4 ?c5 ?_)
      case c0 => first | rfl | simp
      case c2 => repeat' (first | rfl | apply And.intro)
      case c3 => simp only [maxLen]; omega
      case c4 => omega
      case c5 => first | omega | (simp; omega)
      intro v10 w10 own10 gr10 _
      have hb10 := (hb.alloc hbs _).grown gr10 (by simp; omega) (own_ge hown)
      have hs10 := hb10.size
      clear hown gr10
      go_wp2_with fail
      go_ret
      have e : toks1 ⟨3, word, args, count⟩ rs.flatten = ((([wTk ⟨#[97, 100, 106, 111, 105, 110, 116]⟩] ++ args.map wTk) ++ [pTk 3]) ++ rs.flatten) ++ [pTk 4] := by simp [toks1, headW, heads]
      refine retTk_of ?_ (own_low own10 s0) (B0.out.trans (hb10.mono s0)) (by omega)
      have e2 : tkcs (toks1 ⟨3, word, args, count⟩ rs.flatten) = tkcs (L2 ++ rs.flatten) ++ tkcs [pTk 4] := by rw [e, tkcs_append, ← HL1.out, ← HL2.out]
      rw [e2]
      rfl
set_option maxRecDepth 100000 in
set_option maxHeartbeats 4000000 in
theorem toks_spec_4 (word : ByteArray) (args : List ByteArray) (count : Int) (Aa : Option Addr) (m ca : Nat) (Ab : Option Addr) (nb cb : Nat) (w : World) (rs : List (List Tk)) (hm : args.length = m) (hra : Rd w 1 Aa m (strs args)) (hl : m ≤ 1048576) (hn : nb ≤ 1048576) (hrs : rs.length = nb) (hel : EltsT 99 w Ab nb rs) (hR : rs.flatten.length ≤ 1099511627776)
    (hval : ∀ w', Below w.heap.size w w' → Calls Tryz.prog 105 #[.agg #[.int .i64 4, .string word, .slice Aa m ca, .int .i64 count, .slice Ab nb cb]] w' fun e w'' => e = .returned (.bool true) ∧ Below w'.heap.size w' w'' ∧ w'.heap.size ≤ w''.heap.size) :
    Calls Tryz.prog 99 #[.agg #[.int .i64 4, .string word, .slice Aa m ca, .int .i64 count, .slice Ab nb cb]] w (RetTk w (toks1 ⟨4, word, args, count⟩ rs.flatten)) := by
  obtain ⟨i0, hi, hz0, hz1, hz2⟩ := info_parts info_TkE
  obtain ⟨w0, hw0⟩ : ∃ w0, w0 = w.alloc (.cells #[.int .i64 4, .string word, .slice Aa m ca, .int .i64 count, .slice Ab nb cb] 66) := ⟨_, rfl⟩
  have X0 := Lib.hid (show w0.heap[w.heap.size]? = some (.cells #[.int .i64 4, .string word, .slice Aa m ca, .int .i64 count, .slice Ab nb cb] 66 (0, 0)) by rw [hw0]; exact boxed1_0 _ _)
  have b0 : Below w.heap.size w w0 := by rw [hw0]; exact (by repeat (first | exact Below.refl _ _ | assumption | (refine Below.trans ?_ (Below.mono (by assumption) (by first | omega | (simp; done) | (simp; omega)))) | (with_reducible refine Below.drew ?_) | (with_reducible refine Below.alloc ?_ (by first | omega | (simp; done) | (simp; omega)) _) | (with_reducible refine Below.setCell ?_ (by first | omega | (simp; done) | (simp; omega)) _)))
  have s0 : w.heap.size ≤ w0.heap.size := b0.size
  have z0 : w.heap.size < w0.heap.size := by rw [hw0]; simp
  have HV := Lib.hid (hval w0 b0)
  have B0 := Lib.hid b0
  have HW := Lib.hid hw0
  have HM := Lib.hid hm
  have HRA := Lib.hid (hra.below b0)
  have HEL := Lib.hid hel
  have HRS := Lib.hid hrs
  have HR := Lib.hid hR
  clear b0 hw0 hm hra hel hrs hR hval
  go_enter Tryz.func99, Tryz.ntmps99
  go_wp2_with fail
  rw [← HW.out]
  refine HV.out.mono ?_
  rintro e w1 ⟨rfl, b1, s1⟩
  obtain ⟨p0, p1, p2, p3, p4⟩ := boxcells5 (lay := b1) X0.out
  have zl1 : w.heap.size < w1.heap.size := by omega
  go_wp2_with fail
  refine (l19Word_any _ _).mono ?_
  rintro e w2 ⟨rfl, b2, s2⟩
  have hb2 : Below w0.heap.size w0 w2 := (b1.alloc s1 _).trans (b2.mono (by simp; omega))
  have hs2 := hb2.size
  clear p0 p1 p2 p3 p4 b1 b2 s2
  obtain ⟨p0, p1, p2, p3, p4⟩ := boxcells5 (lay := hb2) X0.out
  have zl2 : w.heap.size < w2.heap.size := by omega
  obtain ⟨w3, hw3⟩ : ∃ w3, w3 = w2.alloc (.cells #[.int .i64 1, .string ⟨#[99, 111, 110, 116, 114, 111, 108]⟩] 110) := ⟨_, rfl⟩
  have own3 : w3.ownsRow w0.heap.size 110 2 (.slice (some ⟨w2.heap.size, 0, none⟩) 1 1) 1 (tkcs [wTk ⟨#[99, 111, 110, 116, 114, 111, 108]⟩]) := by rw [hw3]; exact World.ownsRow_lit w2 #[.int .i64 1, .string ⟨#[99, 111, 110, 116, 114, 111, 108]⟩] 1 hs2 (by simp [maxLen]) rfl
  have hb3 : Below w0.heap.size w0 w3 := by rw [hw3]; exact hb2.alloc hs2 _
  have hs3 := hb3.size
  have HW3 := Lib.hid hw3
  clear hw3
  go_wp2_with fail
  rw [← HW3.out]
  clear p0 p1 p2 p3 p4
  obtain ⟨L0, hL0⟩ : ∃ L0, L0 = [wTk ⟨#[99, 111, 110, 116, 114, 111, 108]⟩] := ⟨_, rfl⟩
  have HL0 := Lib.hid hL0
  rw [← hL0] at own3
  clear hL0
  refine (l19Words_any Aa m ca args _ (HRA.out.below hb3) HM.out hl).mono ?_
  rintro e wq ⟨vq, rfl, oq, bq, sq⟩
  obtain ⟨Aq, cq, rfl, _, _, rq⟩ := rd_of_own oq
  have ownq := ownsRow_below own3 bq
  have hbq := hb3.trans (bq.mono (by omega))
  have hsq := hbq.size
  clear oq own3
  go_wp2_with (at_builtin; refine wpList_append_rd _ rfl _ _ 53 rfl w0.heap.size 110 i0 _ 2 24 Tryz.underlying53 hi hz0 hz1 hz2 rfl (by decide) _ _ _ rfl ownq _ _ _ _ rfl rq ?c2 ?c3 ?c4 ?c5 ?_)
  case c2 => exact tkc_ones _
  case c3 => simp only [maxLen]; omega
  case c4 => omega
  case c5 => first | omega | (simp; omega)
  intro v7 w7 own7 gr7 _
  have hb7 := hbq.grown gr7 hsq (own_ge ownq)
  have hs7 := hb7.size
  clear ownq gr7 rq
  obtain ⟨L1, hL1⟩ : ∃ L1, L1 = L0 ++ args.map wTk := ⟨_, rfl⟩
  rw [← tkcs_append, ← hL1] at own7
  have HL1 : Hid (L1 = [wTk ⟨#[99, 111, 110, 116, 114, 111, 108]⟩] ++ args.map wTk) := by rw [hL1, HL0.out]; exact rfl
  clear hL1
  obtain ⟨p0, p1, p2, p3, p4⟩ := boxcells5 (lay := hb7) X0.out
  have zl7 : w.heap.size < w7.heap.size := by omega
  go_wp2_with (at_builtin; refine wpList_append_rd _ rfl _ _ 53 rfl w0.heap.size 110 i0 _ 2 24 Tryz.underlying53 hi hz0 hz1 hz2 rfl (by decide) _ _ _ rfl (own7.alloc _) _ 1 1 _ rfl (rd_lit2 ?c0 rfl) ?c2 ?c3 ?c4 ?c5 ?_)
  case c0 => first | rfl | simp
  case c2 => repeat' (first | rfl | apply And.intro)
  case c3 => simp only [maxLen]; omega
  case c4 => omega
  case c5 => first | omega | (simp; omega)
  intro v8 w8 own8 gr8 _
  have hb8 := (hb7.alloc hs7 _).grown gr8 (by simp; omega) (own_ge own7)
  have hs8 := hb8.size
  clear own7 gr8 p0 p1 p2 p3 p4
  obtain ⟨L2, hL2⟩ : ∃ L2, L2 = L1 ++ [pTk 3] := ⟨_, rfl⟩
  have own8 : w8.ownsRow w0.heap.size 110 2 v8 (1 + m + 1) (tkcs L2) := by rw [hL2, tkcs_append]; exact own8
  have HL2 := Lib.hid hL2
  obtain ⟨N2, hN2⟩ : ∃ N2, N2 = 1 + m + 1 := ⟨_, rfl⟩
  rw [← hN2] at own8
  have hN2' : N2 ≤ 1048580 := by omega
  clear hL2 hN2
  go_wp2_with fail
  go_loopw [4, 5] (fun v i wr => ∃ t : Nat, t ≤ nb ∧ i = .int .i64 t ∧ wr.ownsRow w0.heap.size 110 2 v (N2 + (rs.take t).flatten.length) (tkcs (L2 ++ (rs.take t).flatten)) ∧ Below w0.heap.size w0 wr) (fun _ i _ => nb - (intOf i).toNat)
  case atStart => exact ⟨0, Nat.zero_le _, rfl, by simpa using own8, hb8⟩
  case round =>
    obtain ⟨t, ht, rfl, hown, hb⟩ := hrel
    have hbs := hb.size
    have hFle := flat_le rs t
    have hRR := HR.out
    obtain ⟨p0, p1, p2, p3, p4⟩ := boxcells5 (lay := hb) X0.out
    have zl : w.heap.size < wr.heap.size := by omega
    by_cases hlt : t < nb
    · obtain ⟨b, off, k', wd', Aa', na', ca', ct', Ab', nb', cb', r, rfl, hbl, ⟨q0, q1, q2, q3, q4⟩, hr, hcall⟩ := HEL.out t hlt
      have hbw := (B0.out.trans (hb.mono s0))
      rw [← hbw.cell (p := ⟨b, _, none⟩) hbl] at q0 q1 q2 q3 q4
      have HC := Lib.hid (hcall _ hbw)
      have HS := Lib.hid (flat_step hr)
      have hF1 := flat_le rs (t + 1)
      rw [flat_step hr, List.length_append] at hF1
      obtain ⟨F, hF⟩ : ∃ F, F = (rs.take t).flatten := ⟨_, rfl⟩
      rw [← hF] at hown HS hF1 hFle
      have hlt0 : b < wr.heap.size := by have := hbw.size; omega
      clear hcall hr hbl hF
      go_wp2_with fail
      refine HC.out.mono ?_
      rintro e wx ⟨vx, rfl, ox, bx, sx⟩
      obtain ⟨Ax, cx, rfl, _, _, rx⟩ := rd_of_own ox
      have ownx := ownsRow_below hown bx
      have hbx := hb.trans (bx.mono hbs)
      have hsx := hbx.size
      clear hown ox bx sx q0 q1 q2 q3 q4 p0 p1 p2 p3 p4
      go_wp2_with (at_builtin; refine wpList_append_rd _ rfl _ _ 53 rfl w0.heap.size 110 i0 _ 2 24 Tryz.underlying53 hi hz0 hz1 hz2 rfl (by decide) _ _ _ rfl ownx _ _ _ _ rfl rx ?c2 ?c3 ?c4 ?c5 ?_)
      case c2 => exact tkc_ones r
      case c3 => simp only [maxLen]; omega
      case c4 => omega
      case c5 => first | omega | (simp; omega)
      intro v9 w9 own9 gr9 _
      have hb9 := hbx.grown gr9 (by omega) (own_ge ownx)
      clear ownx gr9 rx
      go_wp2_with fail
      go_roundw
      case rel =>
        refine ⟨t + 1, by omega, by go_num, ?_, hb9⟩
        rw [HS.out, ← List.append_assoc, tkcs_append, List.length_append, ← Nat.add_assoc]
        exact own9
      case measure => simp [intOf]; omega
    · obtain rfl : nb = t := by omega
      rw [List.take_of_length_le (by have := HRS.out; omega)] at hown hFle
      go_wp2_with (at_builtin; refine wpList_append_rd _ rfl _ _ 53 rfl w0.heap.size 110 i0 _ 2 24 Tryz.underlying53 hi hz0 hz1 hz2 rfl (by decide) _ _ _ rfl (hown.alloc _) _ 1 1 _ rfl (rd_lit2 ?c0 rfl) ?c2 ?c3 ?c4 ?c5 ?_)
      case c0 => first | rfl | simp
      case c2 => repeat' (first | rfl | apply And.intro)
      case c3 => simp only [maxLen]; omega
      case c4 => omega
      case c5 => first | omega | (simp; omega)
      intro v10 w10 own10 gr10 _
      have hb10 := (hb.alloc hbs _).grown gr10 (by simp; omega) (own_ge hown)
      have hs10 := hb10.size
      clear hown gr10
      go_wp2_with fail
      go_ret
      have e : toks1 ⟨4, word, args, count⟩ rs.flatten = ((([wTk ⟨#[99, 111, 110, 116, 114, 111, 108]⟩] ++ args.map wTk) ++ [pTk 3]) ++ rs.flatten) ++ [pTk 4] := by simp [toks1, headW, heads]
      refine retTk_of ?_ (own_low own10 s0) (B0.out.trans (hb10.mono s0)) (by omega)
      have e2 : tkcs (toks1 ⟨4, word, args, count⟩ rs.flatten) = tkcs (L2 ++ rs.flatten) ++ tkcs [pTk 4] := by rw [e, tkcs_append, ← HL1.out, ← HL2.out]
      rw [e2]
      rfl
set_option maxRecDepth 100000 in
set_option maxHeartbeats 4000000 in
theorem toks_spec_5 (word : ByteArray) (args : List ByteArray) (count : Int) (Aa : Option Addr) (m ca : Nat) (Ab : Option Addr) (nb cb : Nat) (w : World) (rs : List (List Tk)) (hm : args.length = m) (hra : Rd w 1 Aa m (strs args)) (hl : m ≤ 1048576) (hn : nb ≤ 1048576) (hrs : rs.length = nb) (hel : EltsT 99 w Ab nb rs) (hR : rs.flatten.length ≤ 1099511627776)
    (hval : ∀ w', Below w.heap.size w w' → Calls Tryz.prog 105 #[.agg #[.int .i64 5, .string word, .slice Aa m ca, .int .i64 count, .slice Ab nb cb]] w' fun e w'' => e = .returned (.bool true) ∧ Below w'.heap.size w' w'' ∧ w'.heap.size ≤ w''.heap.size) :
    Calls Tryz.prog 99 #[.agg #[.int .i64 5, .string word, .slice Aa m ca, .int .i64 count, .slice Ab nb cb]] w (RetTk w (toks1 ⟨5, word, args, count⟩ rs.flatten)) := by
  obtain ⟨i0, hi, hz0, hz1, hz2⟩ := info_parts info_TkE
  obtain ⟨w0, hw0⟩ : ∃ w0, w0 = w.alloc (.cells #[.int .i64 5, .string word, .slice Aa m ca, .int .i64 count, .slice Ab nb cb] 66) := ⟨_, rfl⟩
  have X0 := Lib.hid (show w0.heap[w.heap.size]? = some (.cells #[.int .i64 5, .string word, .slice Aa m ca, .int .i64 count, .slice Ab nb cb] 66 (0, 0)) by rw [hw0]; exact boxed1_0 _ _)
  have b0 : Below w.heap.size w w0 := by rw [hw0]; exact (by repeat (first | exact Below.refl _ _ | assumption | (refine Below.trans ?_ (Below.mono (by assumption) (by first | omega | (simp; done) | (simp; omega)))) | (with_reducible refine Below.drew ?_) | (with_reducible refine Below.alloc ?_ (by first | omega | (simp; done) | (simp; omega)) _) | (with_reducible refine Below.setCell ?_ (by first | omega | (simp; done) | (simp; omega)) _)))
  have s0 : w.heap.size ≤ w0.heap.size := b0.size
  have z0 : w.heap.size < w0.heap.size := by rw [hw0]; simp
  have HV := Lib.hid (hval w0 b0)
  have B0 := Lib.hid b0
  have HW := Lib.hid hw0
  have HM := Lib.hid hm
  have HRA := Lib.hid (hra.below b0)
  have HEL := Lib.hid hel
  have HRS := Lib.hid hrs
  have HR := Lib.hid hR
  clear b0 hw0 hm hra hel hrs hR hval
  go_enter Tryz.func99, Tryz.ntmps99
  go_wp2_with fail
  rw [← HW.out]
  refine HV.out.mono ?_
  rintro e w1 ⟨rfl, b1, s1⟩
  obtain ⟨p0, p1, p2, p3, p4⟩ := boxcells5 (lay := b1) X0.out
  have zl1 : w.heap.size < w1.heap.size := by omega
  go_wp2_with fail
  refine (l19Word_any _ _).mono ?_
  rintro e w2 ⟨rfl, b2, s2⟩
  have hb2 : Below w0.heap.size w0 w2 := (b1.alloc s1 _).trans (b2.mono (by simp; omega))
  have hs2 := hb2.size
  clear p0 p1 p2 p3 p4 b1 b2 s2
  obtain ⟨p0, p1, p2, p3, p4⟩ := boxcells5 (lay := hb2) X0.out
  have zl2 : w.heap.size < w2.heap.size := by omega
  obtain ⟨w3, hw3⟩ : ∃ w3, w3 = w2.alloc (.cells #[.int .i64 1, .string ⟨#[97, 110, 99, 105, 108, 108, 97]⟩] 110) := ⟨_, rfl⟩
  have own3 : w3.ownsRow w0.heap.size 110 2 (.slice (some ⟨w2.heap.size, 0, none⟩) 1 1) 1 (tkcs [wTk ⟨#[97, 110, 99, 105, 108, 108, 97]⟩]) := by rw [hw3]; exact World.ownsRow_lit w2 #[.int .i64 1, .string ⟨#[97, 110, 99, 105, 108, 108, 97]⟩] 1 hs2 (by simp [maxLen]) rfl
  have hb3 : Below w0.heap.size w0 w3 := by rw [hw3]; exact hb2.alloc hs2 _
  have hs3 := hb3.size
  have HW3 := Lib.hid hw3
  clear hw3
  go_wp2_with fail
  rw [← HW3.out]
  clear p0 p1 p2 p3 p4
  obtain ⟨L0, hL0⟩ : ∃ L0, L0 = [wTk ⟨#[97, 110, 99, 105, 108, 108, 97]⟩] := ⟨_, rfl⟩
  have HL0 := Lib.hid hL0
  rw [← hL0] at own3
  clear hL0
  refine (l19Words_any Aa m ca args _ (HRA.out.below hb3) HM.out hl).mono ?_
  rintro e wq ⟨vq, rfl, oq, bq, sq⟩
  obtain ⟨Aq, cq, rfl, _, _, rq⟩ := rd_of_own oq
  have ownq := ownsRow_below own3 bq
  have hbq := hb3.trans (bq.mono (by omega))
  have hsq := hbq.size
  clear oq own3
  go_wp2_with (at_builtin; refine wpList_append_rd _ rfl _ _ 53 rfl w0.heap.size 110 i0 _ 2 24 Tryz.underlying53 hi hz0 hz1 hz2 rfl (by decide) _ _ _ rfl ownq _ _ _ _ rfl rq ?c2 ?c3 ?c4 ?c5 ?_)
  case c2 => exact tkc_ones _
  case c3 => simp only [maxLen]; omega
  case c4 => omega
  case c5 => first | omega | (simp; omega)
  intro v7 w7 own7 gr7 _
  have hb7 := hbq.grown gr7 hsq (own_ge ownq)
  have hs7 := hb7.size
  clear ownq gr7 rq
  obtain ⟨L1, hL1⟩ : ∃ L1, L1 = L0 ++ args.map wTk := ⟨_, rfl⟩
  rw [← tkcs_append, ← hL1] at own7
  have HL1 : Hid (L1 = [wTk ⟨#[97, 110, 99, 105, 108, 108, 97]⟩] ++ args.map wTk) := by rw [hL1, HL0.out]; exact rfl
  clear hL1
  obtain ⟨p0, p1, p2, p3, p4⟩ := boxcells5 (lay := hb7) X0.out
  have zl7 : w.heap.size < w7.heap.size := by omega
  go_wp2_with (at_builtin; refine wpList_append_rd _ rfl _ _ 53 rfl w0.heap.size 110 i0 _ 2 24 Tryz.underlying53 hi hz0 hz1 hz2 rfl (by decide) _ _ _ rfl (own7.alloc _) _ 1 1 _ rfl (rd_lit2 ?c0 rfl) ?c2 ?c3 ?c4 ?c5 ?_)
  case c0 => first | rfl | simp
  case c2 => repeat' (first | rfl | apply And.intro)
  case c3 => simp only [maxLen]; omega
  case c4 => omega
  case c5 => first | omega | (simp; omega)
  intro v8 w8 own8 gr8 _
  have hb8 := (hb7.alloc hs7 _).grown gr8 (by simp; omega) (own_ge own7)
  have hs8 := hb8.size
  clear own7 gr8 p0 p1 p2 p3 p4
  obtain ⟨L2, hL2⟩ : ∃ L2, L2 = L1 ++ [pTk 3] := ⟨_, rfl⟩
  have own8 : w8.ownsRow w0.heap.size 110 2 v8 (1 + m + 1) (tkcs L2) := by rw [hL2, tkcs_append]; exact own8
  have HL2 := Lib.hid hL2
  obtain ⟨N2, hN2⟩ : ∃ N2, N2 = 1 + m + 1 := ⟨_, rfl⟩
  rw [← hN2] at own8
  have hN2' : N2 ≤ 1048580 := by omega
  clear hL2 hN2
  go_wp2_with fail
  go_loopw [4, 5] (fun v i wr => ∃ t : Nat, t ≤ nb ∧ i = .int .i64 t ∧ wr.ownsRow w0.heap.size 110 2 v (N2 + (rs.take t).flatten.length) (tkcs (L2 ++ (rs.take t).flatten)) ∧ Below w0.heap.size w0 wr) (fun _ i _ => nb - (intOf i).toNat)
  case atStart => exact ⟨0, Nat.zero_le _, rfl, by simpa using own8, hb8⟩
  case round =>
    obtain ⟨t, ht, rfl, hown, hb⟩ := hrel
    have hbs := hb.size
    have hFle := flat_le rs t
    have hRR := HR.out
    obtain ⟨p0, p1, p2, p3, p4⟩ := boxcells5 (lay := hb) X0.out
    have zl : w.heap.size < wr.heap.size := by omega
    by_cases hlt : t < nb
    · obtain ⟨b, off, k', wd', Aa', na', ca', ct', Ab', nb', cb', r, rfl, hbl, ⟨q0, q1, q2, q3, q4⟩, hr, hcall⟩ := HEL.out t hlt
      have hbw := (B0.out.trans (hb.mono s0))
      rw [← hbw.cell (p := ⟨b, _, none⟩) hbl] at q0 q1 q2 q3 q4
      have HC := Lib.hid (hcall _ hbw)
      have HS := Lib.hid (flat_step hr)
      have hF1 := flat_le rs (t + 1)
      rw [flat_step hr, List.length_append] at hF1
      obtain ⟨F, hF⟩ : ∃ F, F = (rs.take t).flatten := ⟨_, rfl⟩
      rw [← hF] at hown HS hF1 hFle
      have hlt0 : b < wr.heap.size := by have := hbw.size; omega
      clear hcall hr hbl hF
      go_wp2_with fail
      refine HC.out.mono ?_
      rintro e wx ⟨vx, rfl, ox, bx, sx⟩
      obtain ⟨Ax, cx, rfl, _, _, rx⟩ := rd_of_own ox
      have ownx := ownsRow_below hown bx
      have hbx := hb.trans (bx.mono hbs)
      have hsx := hbx.size
      clear hown ox bx sx q0 q1 q2 q3 q4 p0 p1 p2 p3 p4
      go_wp2_with (at_builtin; refine wpList_append_rd _ rfl _ _ 53 rfl w0.heap.size 110 i0 _ 2 24 Tryz.underlying53 hi hz0 hz1 hz2 rfl (by decide) _ _ _ rfl ownx _ _ _ _ rfl rx ?c2 ?c3 ?c4 ?c5 ?_)
      case c2 => exact tkc_ones r
      case c3 => simp only [maxLen]; omega
      case c4 => omega
      case c5 => first | omega | (simp; omega)
      intro v9 w9 own9 gr9 _
      have hb9 := hbx.grown gr9 (by omega) (own_ge ownx)
      clear ownx gr9 rx
      go_wp2_with fail
      go_roundw
      case rel =>
        refine ⟨t + 1, by omega, by go_num, ?_, hb9⟩
        rw [HS.out, ← List.append_assoc, tkcs_append, List.length_append, ← Nat.add_assoc]
        exact own9
      case measure => simp [intOf]; omega
    · obtain rfl : nb = t := by omega
      rw [List.take_of_length_le (by have := HRS.out; omega)] at hown hFle
      go_wp2_with (at_builtin; refine wpList_append_rd _ rfl _ _ 53 rfl w0.heap.size 110 i0 _ 2 24 Tryz.underlying53 hi hz0 hz1 hz2 rfl (by decide) _ _ _ rfl (hown.alloc _) _ 1 1 _ rfl (rd_lit2 ?c0 rfl) ?c2 ?c3 ?c4 ?c5 ?_)
      case c0 => first | rfl | simp
      case c2 => repeat' (first | rfl | apply And.intro)
      case c3 => simp only [maxLen]; omega
      case c4 => omega
      case c5 => first | omega | (simp; omega)
      intro v10 w10 own10 gr10 _
      have hb10 := (hb.alloc hbs _).grown gr10 (by simp; omega) (own_ge hown)
      have hs10 := hb10.size
      clear hown gr10
      go_wp2_with fail
      go_ret
      have e : toks1 ⟨5, word, args, count⟩ rs.flatten = ((([wTk ⟨#[97, 110, 99, 105, 108, 108, 97]⟩] ++ args.map wTk) ++ [pTk 3]) ++ rs.flatten) ++ [pTk 4] := by simp [toks1, headW, heads]
      refine retTk_of ?_ (own_low own10 s0) (B0.out.trans (hb10.mono s0)) (by omega)
      have e2 : tkcs (toks1 ⟨5, word, args, count⟩ rs.flatten) = tkcs (L2 ++ rs.flatten) ++ tkcs [pTk 4] := by rw [e, tkcs_append, ← HL1.out, ← HL2.out]
      rw [e2]
      rfl
set_option maxRecDepth 100000 in
set_option maxHeartbeats 4000000 in
theorem toks_spec_6 (word : ByteArray) (args : List ByteArray) (count : Int) (Aa : Option Addr) (m ca : Nat) (Ab : Option Addr) (nb cb : Nat) (w : World) (rs : List (List Tk)) (hm : args.length = m) (hra : Rd w 1 Aa m (strs args)) (hl : m ≤ 1048576) (hn : nb ≤ 1048576) (hrs : rs.length = nb) (hel : EltsT 99 w Ab nb rs) (hR : rs.flatten.length ≤ 1099511627776)
    (hval : ∀ w', Below w.heap.size w w' → Calls Tryz.prog 105 #[.agg #[.int .i64 6, .string word, .slice Aa m ca, .int .i64 count, .slice Ab nb cb]] w' fun e w'' => e = .returned (.bool true) ∧ Below w'.heap.size w' w'' ∧ w'.heap.size ≤ w''.heap.size) :
    Calls Tryz.prog 99 #[.agg #[.int .i64 6, .string word, .slice Aa m ca, .int .i64 count, .slice Ab nb cb]] w (RetTk w (toks1 ⟨6, word, args, count⟩ rs.flatten)) := by
  obtain ⟨i0, hi, hz0, hz1, hz2⟩ := info_parts info_TkE
  obtain ⟨w0, hw0⟩ : ∃ w0, w0 = w.alloc (.cells #[.int .i64 6, .string word, .slice Aa m ca, .int .i64 count, .slice Ab nb cb] 66) := ⟨_, rfl⟩
  have X0 := Lib.hid (show w0.heap[w.heap.size]? = some (.cells #[.int .i64 6, .string word, .slice Aa m ca, .int .i64 count, .slice Ab nb cb] 66 (0, 0)) by rw [hw0]; exact boxed1_0 _ _)
  have b0 : Below w.heap.size w w0 := by rw [hw0]; exact (by repeat (first | exact Below.refl _ _ | assumption | (refine Below.trans ?_ (Below.mono (by assumption) (by first | omega | (simp; done) | (simp; omega)))) | (with_reducible refine Below.drew ?_) | (with_reducible refine Below.alloc ?_ (by first | omega | (simp; done) | (simp; omega)) _) | (with_reducible refine Below.setCell ?_ (by first | omega | (simp; done) | (simp; omega)) _)))
  have s0 : w.heap.size ≤ w0.heap.size := b0.size
  have z0 : w.heap.size < w0.heap.size := by rw [hw0]; simp
  have HV := Lib.hid (hval w0 b0)
  have B0 := Lib.hid b0
  have HW := Lib.hid hw0
  have HM := Lib.hid hm
  have HRA := Lib.hid (hra.below b0)
  have HEL := Lib.hid hel
  have HRS := Lib.hid hrs
  have HR := Lib.hid hR
  clear b0 hw0 hm hra hel hrs hR hval
  go_enter Tryz.func99, Tryz.ntmps99
  go_wp2_with fail
  rw [← HW.out]
  refine HV.out.mono ?_
  rintro e w1 ⟨rfl, b1, s1⟩
  obtain ⟨p0, p1, p2, p3, p4⟩ := boxcells5 (lay := b1) X0.out
  have zl1 : w.heap.size < w1.heap.size := by omega
  go_wp2_with fail
  refine (l19Word_any _ _).mono ?_
  rintro e w2 ⟨rfl, b2, s2⟩
  have hb2 : Below w0.heap.size w0 w2 := (b1.alloc s1 _).trans (b2.mono (by simp; omega))
  have hs2 := hb2.size
  clear p0 p1 p2 p3 p4 b1 b2 s2
  obtain ⟨p0, p1, p2, p3, p4⟩ := boxcells5 (lay := hb2) X0.out
  have zl2 : w.heap.size < w2.heap.size := by omega
  obtain ⟨w3, hw3⟩ : ∃ w3, w3 = w2.alloc (.cells #[.int .i64 1, .string ⟨#[109, 101, 97, 115, 117, 114, 101]⟩] 110) := ⟨_, rfl⟩
  have own3 : w3.ownsRow w0.heap.size 110 2 (.slice (some ⟨w2.heap.size, 0, none⟩) 1 1) 1 (tkcs [wTk ⟨#[109, 101, 97, 115, 117, 114, 101]⟩]) := by rw [hw3]; exact World.ownsRow_lit w2 #[.int .i64 1, .string ⟨#[109, 101, 97, 115, 117, 114, 101]⟩] 1 hs2 (by simp [maxLen]) rfl
  have hb3 : Below w0.heap.size w0 w3 := by rw [hw3]; exact hb2.alloc hs2 _
  have hs3 := hb3.size
  have HW3 := Lib.hid hw3
  clear hw3
  go_wp2_with fail
  rw [← HW3.out]
  clear p0 p1 p2 p3 p4
  obtain ⟨L0, hL0⟩ : ∃ L0, L0 = [wTk ⟨#[109, 101, 97, 115, 117, 114, 101]⟩] := ⟨_, rfl⟩
  have HL0 := Lib.hid hL0
  rw [← hL0] at own3
  clear hL0
  refine (l19Words_any Aa m ca args _ (HRA.out.below hb3) HM.out hl).mono ?_
  rintro e wq ⟨vq, rfl, oq, bq, sq⟩
  obtain ⟨Aq, cq, rfl, _, _, rq⟩ := rd_of_own oq
  have ownq := ownsRow_below own3 bq
  have hbq := hb3.trans (bq.mono (by omega))
  have hsq := hbq.size
  clear oq own3
  go_wp2_with (at_builtin; refine wpList_append_rd _ rfl _ _ 53 rfl w0.heap.size 110 i0 _ 2 24 Tryz.underlying53 hi hz0 hz1 hz2 rfl (by decide) _ _ _ rfl ownq _ _ _ _ rfl rq ?c2 ?c3 ?c4 ?c5 ?_)
  case c2 => exact tkc_ones _
  case c3 => simp only [maxLen]; omega
  case c4 => omega
  case c5 => first | omega | (simp; omega)
  intro v7 w7 own7 gr7 _
  have hb7 := hbq.grown gr7 hsq (own_ge ownq)
  have hs7 := hb7.size
  clear ownq gr7 rq
  obtain ⟨L1, hL1⟩ : ∃ L1, L1 = L0 ++ args.map wTk := ⟨_, rfl⟩
  rw [← tkcs_append, ← hL1] at own7
  have HL1 : Hid (L1 = [wTk ⟨#[109, 101, 97, 115, 117, 114, 101]⟩] ++ args.map wTk) := by rw [hL1, HL0.out]; exact rfl
  clear hL1
  obtain ⟨p0, p1, p2, p3, p4⟩ := boxcells5 (lay := hb7) X0.out
  have zl7 : w.heap.size < w7.heap.size := by omega
  go_wp2_with (at_builtin; refine wpList_append_rd _ rfl _ _ 53 rfl w0.heap.size 110 i0 _ 2 24 Tryz.underlying53 hi hz0 hz1 hz2 rfl (by decide) _ _ _ rfl (own7.alloc _) _ 1 1 _ rfl (rd_lit2 ?c0 rfl) ?c2 ?c3 ?c4 ?c5 ?_)
  case c0 => first | rfl | simp
  case c2 => repeat' (first | rfl | apply And.intro)
  case c3 => simp only [maxLen]; omega
  case c4 => omega
  case c5 => first | omega | (simp; omega)
  intro v8 w8 own8 gr8 _
  have hb8 := (hb7.alloc hs7 _).grown gr8 (by simp; omega) (own_ge own7)
  have hs8 := hb8.size
  clear own7 gr8 p0 p1 p2 p3 p4
  go_wp2_with fail
  go_ret
  have e : toks1 ⟨6, word, args, count⟩ rs.flatten = ([wTk ⟨#[109, 101, 97, 115, 117, 114, 101]⟩] ++ args.map wTk) ++ [pTk 2] := by simp [toks1, headW, heads]
  refine retTk_of ?_ (own_low own8 s0) (B0.out.trans (hb8.mono s0)) (by omega)
  rw [e, tkcs_append, ← HL1.out]
  rfl
set_option maxRecDepth 100000 in
set_option maxHeartbeats 4000000 in
theorem toks_spec_7 (word : ByteArray) (args : List ByteArray) (count : Int) (Aa : Option Addr) (m ca : Nat) (Ab : Option Addr) (nb cb : Nat) (w : World) (rs : List (List Tk)) (hm : args.length = m) (hra : Rd w 1 Aa m (strs args)) (hl : m ≤ 1048576) (hn : nb ≤ 1048576) (hrs : rs.length = nb) (hel : EltsT 99 w Ab nb rs) (hR : rs.flatten.length ≤ 1099511627776)
    (hval : ∀ w', Below w.heap.size w w' → Calls Tryz.prog 105 #[.agg #[.int .i64 7, .string word, .slice Aa m ca, .int .i64 count, .slice Ab nb cb]] w' fun e w'' => e = .returned (.bool true) ∧ Below w'.heap.size w' w'' ∧ w'.heap.size ≤ w''.heap.size) :
    Calls Tryz.prog 99 #[.agg #[.int .i64 7, .string word, .slice Aa m ca, .int .i64 count, .slice Ab nb cb]] w (RetTk w (toks1 ⟨7, word, args, count⟩ rs.flatten)) := by
  obtain ⟨i0, hi, hz0, hz1, hz2⟩ := info_parts info_TkE
  obtain ⟨w0, hw0⟩ : ∃ w0, w0 = w.alloc (.cells #[.int .i64 7, .string word, .slice Aa m ca, .int .i64 count, .slice Ab nb cb] 66) := ⟨_, rfl⟩
  have X0 := Lib.hid (show w0.heap[w.heap.size]? = some (.cells #[.int .i64 7, .string word, .slice Aa m ca, .int .i64 count, .slice Ab nb cb] 66 (0, 0)) by rw [hw0]; exact boxed1_0 _ _)
  have b0 : Below w.heap.size w w0 := by rw [hw0]; exact (by repeat (first | exact Below.refl _ _ | assumption | (refine Below.trans ?_ (Below.mono (by assumption) (by first | omega | (simp; done) | (simp; omega)))) | (with_reducible refine Below.drew ?_) | (with_reducible refine Below.alloc ?_ (by first | omega | (simp; done) | (simp; omega)) _) | (with_reducible refine Below.setCell ?_ (by first | omega | (simp; done) | (simp; omega)) _)))
  have s0 : w.heap.size ≤ w0.heap.size := b0.size
  have z0 : w.heap.size < w0.heap.size := by rw [hw0]; simp
  have HV := Lib.hid (hval w0 b0)
  have B0 := Lib.hid b0
  have HW := Lib.hid hw0
  have HM := Lib.hid hm
  have HRA := Lib.hid (hra.below b0)
  have HEL := Lib.hid hel
  have HRS := Lib.hid hrs
  have HR := Lib.hid hR
  clear b0 hw0 hm hra hel hrs hR hval
  go_enter Tryz.func99, Tryz.ntmps99
  go_wp2_with fail
  rw [← HW.out]
  refine HV.out.mono ?_
  rintro e w1 ⟨rfl, b1, s1⟩
  obtain ⟨p0, p1, p2, p3, p4⟩ := boxcells5 (lay := b1) X0.out
  have zl1 : w.heap.size < w1.heap.size := by omega
  go_wp2_with fail
  refine (l19Word_any _ _).mono ?_
  rintro e w2 ⟨rfl, b2, s2⟩
  have hb2 : Below w0.heap.size w0 w2 := (b1.alloc s1 _).trans (b2.mono (by simp; omega))
  have hs2 := hb2.size
  clear p0 p1 p2 p3 p4 b1 b2 s2
  obtain ⟨p0, p1, p2, p3, p4⟩ := boxcells5 (lay := hb2) X0.out
  have zl2 : w.heap.size < w2.heap.size := by omega
  obtain ⟨w3, hw3⟩ : ∃ w3, w3 = w2.alloc (.cells #[.int .i64 1, .string ⟨#[105, 102]⟩] 110) := ⟨_, rfl⟩
  have own3 : w3.ownsRow w0.heap.size 110 2 (.slice (some ⟨w2.heap.size, 0, none⟩) 1 1) 1 (tkcs [wTk ⟨#[105, 102]⟩]) := by rw [hw3]; exact World.ownsRow_lit w2 #[.int .i64 1, .string ⟨#[105, 102]⟩] 1 hs2 (by simp [maxLen]) rfl
  have hb3 : Below w0.heap.size w0 w3 := by rw [hw3]; exact hb2.alloc hs2 _
  have hs3 := hb3.size
  have HW3 := Lib.hid hw3
  clear hw3
  go_wp2_with fail
  rw [← HW3.out]
  clear p0 p1 p2 p3 p4
  obtain ⟨L0, hL0⟩ : ∃ L0, L0 = [wTk ⟨#[105, 102]⟩] := ⟨_, rfl⟩
  have HL0 := Lib.hid hL0
  rw [← hL0] at own3
  clear hL0
  refine (l19Words_any Aa m ca args _ (HRA.out.below hb3) HM.out hl).mono ?_
  rintro e wq ⟨vq, rfl, oq, bq, sq⟩
  obtain ⟨Aq, cq, rfl, _, _, rq⟩ := rd_of_own oq
  have ownq := ownsRow_below own3 bq
  have hbq := hb3.trans (bq.mono (by omega))
  have hsq := hbq.size
  clear oq own3
  go_wp2_with (at_builtin; refine wpList_append_rd _ rfl _ _ 53 rfl w0.heap.size 110 i0 _ 2 24 Tryz.underlying53 hi hz0 hz1 hz2 rfl (by decide) _ _ _ rfl ownq _ _ _ _ rfl rq ?c2 ?c3 ?c4 ?c5 ?_)
  case c2 => exact tkc_ones _
  case c3 => simp only [maxLen]; omega
  case c4 => omega
  case c5 => first | omega | (simp; omega)
  intro v7 w7 own7 gr7 _
  have hb7 := hbq.grown gr7 hsq (own_ge ownq)
  have hs7 := hb7.size
  clear ownq gr7 rq
  obtain ⟨L1, hL1⟩ : ∃ L1, L1 = L0 ++ args.map wTk := ⟨_, rfl⟩
  rw [← tkcs_append, ← hL1] at own7
  have HL1 : Hid (L1 = [wTk ⟨#[105, 102]⟩] ++ args.map wTk) := by rw [hL1, HL0.out]; exact rfl
  clear hL1
  obtain ⟨p0, p1, p2, p3, p4⟩ := boxcells5 (lay := hb7) X0.out
  have zl7 : w.heap.size < w7.heap.size := by omega
  go_wp2_with (at_builtin; refine wpList_append_rd _ rfl _ _ 53 rfl w0.heap.size 110 i0 _ 2 24 Tryz.underlying53 hi hz0 hz1 hz2 rfl (by decide) _ _ _ rfl (own7.alloc _) _ 1 1 _ rfl (rd_lit2 ?c0 rfl) ?c2 ?c3 ?c4 ?c5 ?_)
  case c0 => first | rfl | simp
  case c2 => repeat' (first | rfl | apply And.intro)
  case c3 => simp only [maxLen]; omega
  case c4 => omega
  case c5 => first | omega | (simp; omega)
  intro v8 w8 own8 gr8 _
  have hb8 := (hb7.alloc hs7 _).grown gr8 (by simp; omega) (own_ge own7)
  have hs8 := hb8.size
  clear own7 gr8 p0 p1 p2 p3 p4
  obtain ⟨L2, hL2⟩ : ∃ L2, L2 = L1 ++ [pTk 3] := ⟨_, rfl⟩
  have own8 : w8.ownsRow w0.heap.size 110 2 v8 (1 + m + 1) (tkcs L2) := by rw [hL2, tkcs_append]; exact own8
  have HL2 := Lib.hid hL2
  obtain ⟨N2, hN2⟩ : ∃ N2, N2 = 1 + m + 1 := ⟨_, rfl⟩
  rw [← hN2] at own8
  have hN2' : N2 ≤ 1048580 := by omega
  clear hL2 hN2
  go_wp2_with fail
  go_loopw [4, 5] (fun v i wr => ∃ t : Nat, t ≤ nb ∧ i = .int .i64 t ∧ wr.ownsRow w0.heap.size 110 2 v (N2 + (rs.take t).flatten.length) (tkcs (L2 ++ (rs.take t).flatten)) ∧ Below w0.heap.size w0 wr) (fun _ i _ => nb - (intOf i).toNat)
  case atStart => exact ⟨0, Nat.zero_le _, rfl, by simpa using own8, hb8⟩
  case round =>
    obtain ⟨t, ht, rfl, hown, hb⟩ := hrel
    have hbs := hb.size
    have hFle := flat_le rs t
    have hRR := HR.out
    obtain ⟨p0, p1, p2, p3, p4⟩ := boxcells5 (lay := hb) X0.out
    have zl : w.heap.size < wr.heap.size := by omega
    by_cases hlt : t < nb
    · obtain ⟨b, off, k', wd', Aa', na', ca', ct', Ab', nb', cb', r, rfl, hbl, ⟨q0, q1, q2, q3, q4⟩, hr, hcall⟩ := HEL.out t hlt
      have hbw := (B0.out.trans (hb.mono s0))
      rw [← hbw.cell (p := ⟨b, _, none⟩) hbl] at q0 q1 q2 q3 q4
      have HC := Lib.hid (hcall _ hbw)
      have HS := Lib.hid (flat_step hr)
      have hF1 := flat_le rs (t + 1)
      rw [flat_step hr, List.length_append] at hF1
      obtain ⟨F, hF⟩ : ∃ F, F = (rs.take t).flatten := ⟨_, rfl⟩
      rw [← hF] at hown HS hF1 hFle
      have hlt0 : b < wr.heap.size := by have := hbw.size; omega
      clear hcall hr hbl hF
      go_wp2_with fail
      refine HC.out.mono ?_
      rintro e wx ⟨vx, rfl, ox, bx, sx⟩
      obtain ⟨Ax, cx, rfl, _, _, rx⟩ := rd_of_own ox
      have ownx := ownsRow_below hown bx
      have hbx := hb.trans (bx.mono hbs)
      have hsx := hbx.size
      clear hown ox bx sx q0 q1 q2 q3 q4 p0 p1 p2 p3 p4
      go_wp2_with (at_builtin; refine wpList_append_rd _ rfl _ _ 53 rfl w0.heap.size 110 i0 _ 2 24 Tryz.underlying53 hi hz0 hz1 hz2 rfl (by decide) _ _ _ rfl ownx _ _ _ _ rfl rx ?c2 ?c3 ?c4 ?c5 ?_)
      case c2 => exact tkc_ones r
      case c3 => simp only [maxLen]; omega
      case c4 => omega
      case c5 => first | omega | (simp; omega)
      intro v9 w9 own9 gr9 _
      have hb9 := hbx.grown gr9 (by omega) (own_ge ownx)
      clear ownx gr9 rx
      go_wp2_with fail
      go_roundw
      case rel =>
        refine ⟨t + 1, by omega, by go_num, ?_, hb9⟩
        rw [HS.out, ← List.append_assoc, tkcs_append, List.length_append, ← Nat.add_assoc]
        exact own9
      case measure => simp [intOf]; omega
    · obtain rfl : nb = t := by omega
      rw [List.take_of_length_le (by have := HRS.out; omega)] at hown hFle
      go_wp2_with (at_builtin; refine wpList_append_rd _ rfl _ _ 53 rfl w0.heap.size 110 i0 _ 2 24 Tryz.underlying53 hi hz0 hz1 hz2 rfl (by decide) _ _ _ rfl (hown.alloc _) _ 1 1 _ rfl (rd_lit2 ?c0 rfl) ?c2 ?c3 ?c4 ?c5 ?_)
      case c0 => first | rfl | simp
      case c2 => repeat' (first | rfl | apply And.intro)
      case c3 => simp only [maxLen]; omega
      case c4 => omega
      case c5 => first | omega | (simp; omega)
      intro v10 w10 own10 gr10 _
      have hb10 := (hb.alloc hbs _).grown gr10 (by simp; omega) (own_ge hown)
      have hs10 := hb10.size
      clear hown gr10
      go_wp2_with fail
      go_ret
      have e : toks1 ⟨7, word, args, count⟩ rs.flatten = ((([wTk ⟨#[105, 102]⟩] ++ args.map wTk) ++ [pTk 3]) ++ rs.flatten) ++ [pTk 4] := by simp [toks1, headW, heads]
      refine retTk_of ?_ (own_low own10 s0) (B0.out.trans (hb10.mono s0)) (by omega)
      have e2 : tkcs (toks1 ⟨7, word, args, count⟩ rs.flatten) = tkcs (L2 ++ rs.flatten) ++ tkcs [pTk 4] := by rw [e, tkcs_append, ← HL1.out, ← HL2.out]
      rw [e2]
      rfl
end Go.Proofs.YthkbckkghnbonaaGreatDoor
namespace Go.Proofs.YthkbckkghnbonaaGreatDoor
open Go.RowKit
set_option linter.unusedVariables false
theorem hasB_two {k : Int} (h : hasB k = false) : (k == 2) = false := by
  unfold hasB at h
  cases h2 : (k == 2)
  · rfl
  · rw [h2] at h
    exact absurd h (by simp)
def tokT : (d : Nat) → List (Tr d) → Nat
  | 0, _ => 0
  | d + 1, l => (l.map fun (s : Tr (d + 1)) => (if (hdT s).k == 2 then 3 else 2) + (hdT s).args.length + (if hasB (hdT s).k then 1 + tokT d (bdT s) else 0)).sum
def tokE {d : Nat} (s : Tr (d + 1)) : Nat := (if (hdT s).k == 2 then 3 else 2) + (hdT s).args.length + (if hasB (hdT s).k then 1 + tokT d (bdT s) else 0)
theorem tokT_succ {d : Nat} (l : List (Tr (d + 1))) : tokT (d + 1) l = (l.map tokE).sum := rfl
theorem tokE_a {d : Nat} {s : Tr (d + 1)} (hk : hasB (hdT s).k = false) (hq : ((hdT s).k == 2) = false) : tokE s = 2 + (hdT s).args.length := by
  simp only [tokE, hk, hq]; simp
theorem tokE_b {d : Nat} {s : Tr (d + 1)} (hk : hasB (hdT s).k = true) (hq : ((hdT s).k == 2) = false) : tokE s = 2 + (hdT s).args.length + (1 + tokT d (bdT s)) := by
  simp only [tokE, hk, hq]; simp
theorem tokE_c {d : Nat} {s : Tr (d + 1)} (hk : hasB (hdT s).k = true) (hq : ((hdT s).k == 2) = true) : tokE s = 3 + (hdT s).args.length + (1 + tokT d (bdT s)) := by
  simp only [tokE, hk, hq]; simp
theorem tokT_le : ∀ (d : Nat) (l : List (Tr d)), tokT d l ≤ 4 * szT d l := by
  intro d
  induction d with
  | zero => intro l; exact Nat.zero_le _
  | succ d ih =>
    intro l
    rw [tokT_succ, szT_succ]
    unfold sumE
    induction l with
    | nil => simp
    | cons s l ih2 =>
      have h1 := ih (bdT s)
      simp only [List.map_cons, List.sum_cons, List.length_cons]
      have h2 : tokE s ≤ 4 + 4 * szE s := by
        unfold tokE szE
        split <;> split <;> omega
      omega
theorem tok_take_le {d : Nat} (l : List (Tr (d + 1))) (t : Nat) : tokT (d + 1) (l.take t) ≤ 4 * szT (d + 1) l := by
  refine Nat.le_trans (tokT_le _ _) ?_
  rw [szT_succ, szT_succ]
  have := sumE_take_le l t
  have := List.length_take_le' t l
  omega
theorem tok_take {d : Nat} (l : List (Tr (d + 1))) (t : Nat) (s : Tr (d + 1)) (h : l[t]? = some s) : tokT (d + 1) (l.take (t + 1)) = tokT (d + 1) (l.take t) + tokE s := by
  rw [List.take_add_one, h, tokT_succ, tokT_succ]
  simp
def TokSaid_impl (d : Nat) : Prop := ∀ (lo : Nat) (A : Option Addr) (n c : Nat) (l : List (Tr d)) (w : World), RdT w lo d A n l → szT d l ≤ 1048576 →
  Calls Tryz.prog 46 #[.slice A n c] w fun e w' => e = .returned (.int .i64 (tokT d l)) ∧ Below w.heap.size w w' ∧ w.heap.size ≤ w'.heap.size
set_option maxRecDepth 100000 in
set_option maxHeartbeats 2000000 in
theorem StmtTokenCount_impl : ∀ (d : Nat), TokSaid_impl d := by
  intro d
  induction d with
  | zero =>
    intro lo A n c l w h _
    obtain rfl := szT_zero_len h
    go_enter Tryz.func46, Tryz.ntmps46
    go_wp2
    refine wp_loop_rounds 1 ?_
    rw [rounds_succ]
    go_wp2
    go_ret
    exact ⟨rfl, Below.refl _ _, Nat.le_refl _⟩
  | succ d ih =>
    intro lo A n c l w h hsz
    have hln := h.len
    have hn : n ≤ 1048576 := by rw [szT_succ] at hsz; omega
    have HQ := Lib.hid hsz
    have HL := Lib.hid hln
    have H := Lib.hid h
    clear h hln hsz
    go_enter Tryz.func46, Tryz.ntmps46
    go_wp2
    go_loopw [3, 8] (fun m i wr => ∃ t : Nat, t ≤ n ∧ i = .int .i64 t ∧ m = .int .i64 (tokT (d + 1) (l.take t)) ∧ Below w.heap.size w wr) (fun _ i _ => n - (intOf i).toNat)
    case atStart => exact ⟨0, Nat.zero_le _, rfl, rfl, Below.refl _ _⟩
    case round =>
      obtain ⟨t, ht, rfl, rfl, hb⟩ := hrel
      have hN : tokT (d + 1) (l.take t) ≤ 4194304 := Nat.le_trans (tok_take_le l t) (by have := HQ.out; omega)
      obtain ⟨N, hNN⟩ : ∃ N, N = tokT (d + 1) (l.take t) := ⟨_, rfl⟩
      rw [← hNN] at hN ⊢
      have HN := Lib.hid hNN
      clear hNN
      have hbs := hb.size
      by_cases hlt : t < n
      · obtain ⟨b, off, s, Aa, ca, Ab, nb, cb, rfl, hbl, hs, hcs, hra, hrb⟩ := (H.out.below hb).at_ hlt
        obtain ⟨q0, q1, q2, q3, q4⟩ := hcs
        have hme := szT_mem hs
        have hz2 : szT d (bdT s) ≤ 1048576 := by have := HQ.out; rw [szT_succ] at this; unfold szE at hme; omega
        have hz3 : (hdT s).args.length ≤ 1048576 := by have := HQ.out; rw [szT_succ] at this; unfold szE at hme; omega
        have hnb := tokT_le d (bdT s)
        have HT := Lib.hid (tok_take l t s hs)
        have HB := Lib.hid (hrb.below (w' := wr.alloc (.cells #[.int .i64 (hdT s).k, .string (hdT s).word, .slice Aa (hdT s).args.length ca, .int .i64 (hdT s).count, .slice Ab nb cb] 66)) (by repeat (first | exact Below.refl _ _ | assumption | (refine Below.trans ?_ (Below.mono (by assumption) (by first | omega | (simp; done) | (simp; omega)))) | (with_reducible refine Below.drew ?_) | (with_reducible refine Below.alloc ?_ (by first | omega | (simp; done) | (simp; omega)) _) | (with_reducible refine Below.setCell ?_ (by first | omega | (simp; done) | (simp; omega)) _))))
        clear hs hra hrb hme
        obtain ⟨M, hM⟩ : ∃ M, M = tokT d (bdT s) := ⟨_, rfl⟩
        rw [← hM] at hnb
        have HM := Lib.hid hM
        clear hM
        cases hk : hasB (hdT s).k
        · have hq : ((hdT s).k == 2) = false := hasB_two hk
          have HT2 : Hid (tokT (d + 1) (l.take (t + 1)) = N + (2 + (hdT s).args.length)) := by
            have h := HT.out
            rw [← HN.out, tokE_a hk hq] at h
            exact h
          go_wp2_with (go_at_call 103; refine (hasBody_any _ _).mono ?_; rintro e w' ⟨rfl, rfl⟩)
          go_roundw
          case rel => exact ⟨t + 1, by omega, by go_num, by rw [HT2.out]; congr 1; omega, (hb.alloc hb.size _)⟩
          case measure => simp [intOf]; omega
        · cases hq : ((hdT s).k == 2)
          · have HT2 : Hid (tokT (d + 1) (l.take (t + 1)) = N + (2 + (hdT s).args.length + (1 + M))) := by
              have h := HT.out
              rw [← HN.out, tokE_b hk hq] at h
              rw [HM.out]
              exact h
            go_wp2_with (first | (go_at_call 103; refine (hasBody_any _ _).mono ?_; rintro e w' ⟨rfl, rfl⟩) | (go_at_call 46; refine (ih lo _ _ _ (bdT s) _ HB.out hz2).mono ?_; rintro e w1 ⟨rfl, b1, s1⟩; rw [← HM.out]))
            go_roundw
            case rel => exact ⟨t + 1, by omega, by go_num, by rw [HT2.out]; congr 1; omega, (hb.alloc hb.size _).trans (b1.mono (by simp; omega))⟩
            case measure => simp [intOf]; omega
          · have HT2 : Hid (tokT (d + 1) (l.take (t + 1)) = N + (3 + (hdT s).args.length + (1 + M))) := by
              have h := HT.out
              rw [← HN.out, tokE_c hk hq] at h
              rw [HM.out]
              exact h
            go_wp2_with (first | (go_at_call 103; refine (hasBody_any _ _).mono ?_; rintro e w' ⟨rfl, rfl⟩) | (go_at_call 46; refine (ih lo _ _ _ (bdT s) _ HB.out hz2).mono ?_; rintro e w1 ⟨rfl, b1, s1⟩; rw [← HM.out]))
            go_roundw
            case rel => exact ⟨t + 1, by omega, by go_num, by rw [HT2.out]; congr 1; omega, (hb.alloc hb.size _).trans (b1.mono (by simp; omega))⟩
            case measure => simp [intOf]; omega
      · obtain rfl : t = n := by omega
        have HF : Hid (N = tokT (d + 1) l) := by
          have h := HN.out
          rw [List.take_of_length_le (by rw [HL.out]; exact Nat.le_refl _)] at h
          exact h
        go_wp2
        go_ret
        exact ⟨by rw [← HF.out]; rfl, hb, hb.size⟩
def TokSaid_spec (d : Nat) : Prop := ∀ (lo : Nat) (A : Option Addr) (n c : Nat) (l : List (Tr d)) (w : World), RdT w lo d A n l → szT d l ≤ 1048576 →
  Calls Tryz.prog 51 #[.slice A n c] w fun e w' => e = .returned (.int .i64 (tokT d l)) ∧ Below w.heap.size w w' ∧ w.heap.size ≤ w'.heap.size
set_option maxRecDepth 100000 in
set_option maxHeartbeats 2000000 in
theorem StmtTokenCount_spec : ∀ (d : Nat), TokSaid_spec d := by
  intro d
  induction d with
  | zero =>
    intro lo A n c l w h _
    obtain rfl := szT_zero_len h
    go_enter Tryz.func51, Tryz.ntmps51
    go_wp2
    refine wp_loop_rounds 1 ?_
    rw [rounds_succ]
    go_wp2
    go_ret
    exact ⟨rfl, Below.refl _ _, Nat.le_refl _⟩
  | succ d ih =>
    intro lo A n c l w h hsz
    have hln := h.len
    have hn : n ≤ 1048576 := by rw [szT_succ] at hsz; omega
    have HQ := Lib.hid hsz
    have HL := Lib.hid hln
    have H := Lib.hid h
    clear h hln hsz
    go_enter Tryz.func51, Tryz.ntmps51
    go_wp2
    go_loopw [3, 4] (fun m i wr => ∃ t : Nat, t ≤ n ∧ i = .int .i64 t ∧ m = .int .i64 (tokT (d + 1) (l.take t)) ∧ Below w.heap.size w wr) (fun _ i _ => n - (intOf i).toNat)
    case atStart => exact ⟨0, Nat.zero_le _, rfl, rfl, Below.refl _ _⟩
    case round =>
      obtain ⟨t, ht, rfl, rfl, hb⟩ := hrel
      have hN : tokT (d + 1) (l.take t) ≤ 4194304 := Nat.le_trans (tok_take_le l t) (by have := HQ.out; omega)
      obtain ⟨N, hNN⟩ : ∃ N, N = tokT (d + 1) (l.take t) := ⟨_, rfl⟩
      rw [← hNN] at hN ⊢
      have HN := Lib.hid hNN
      clear hNN
      have hbs := hb.size
      by_cases hlt : t < n
      · obtain ⟨b, off, s, Aa, ca, Ab, nb, cb, rfl, hbl, hs, hcs, hra, hrb⟩ := (H.out.below hb).at_ hlt
        obtain ⟨q0, q1, q2, q3, q4⟩ := hcs
        have hme := szT_mem hs
        have hz2 : szT d (bdT s) ≤ 1048576 := by have := HQ.out; rw [szT_succ] at this; unfold szE at hme; omega
        have hz3 : (hdT s).args.length ≤ 1048576 := by have := HQ.out; rw [szT_succ] at this; unfold szE at hme; omega
        have hnb := tokT_le d (bdT s)
        have HT := Lib.hid (tok_take l t s hs)
        have HB := Lib.hid hrb
        clear hs hra hrb hme
        obtain ⟨M, hM⟩ : ∃ M, M = tokT d (bdT s) := ⟨_, rfl⟩
        rw [← hM] at hnb
        have HM := Lib.hid hM
        clear hM
        cases hk : hasB (hdT s).k
        · have hq : ((hdT s).k == 2) = false := hasB_two hk
          have HT2 : Hid (tokT (d + 1) (l.take (t + 1)) = N + (2 + (hdT s).args.length)) := by
            have h := HT.out
            rw [← HN.out, tokE_a hk hq] at h
            exact h
          go_wp2_with fail
          refine (l17Args_any _ _ _ _ _ _ ⟨_, _, _, rfl⟩ ⟨_, _, _, rfl⟩).mono ?_
          rintro e w1 ⟨rfl, b1, s1⟩
          rw [hk]
          have r0 := (b1.cell (p := ⟨b, off + t * 5, none⟩) hbl).trans q0
          have r2 := (b1.cell (p := ⟨b, off + t * 5 + 2, none⟩) hbl).trans q2
          have r4 := (b1.cell (p := ⟨b, off + t * 5 + 4, none⟩) hbl).trans q4
          clear q0 q1 q2 q3 q4
          go_wp2_with fail
          go_roundw
          case rel => exact ⟨t + 1, by omega, by go_num, by rw [HT2.out]; congr 1; omega, (hb.trans (b1.mono hb.size))⟩
          case measure => simp [intOf]; omega
        · cases hq : ((hdT s).k == 2)
          · have HT2 : Hid (tokT (d + 1) (l.take (t + 1)) = N + (2 + (hdT s).args.length + (1 + M))) := by
              have h := HT.out
              rw [← HN.out, tokE_b hk hq] at h
              rw [HM.out]
              exact h
            go_wp2_with fail
            refine (l17Args_any _ _ _ _ _ _ ⟨_, _, _, rfl⟩ ⟨_, _, _, rfl⟩).mono ?_
            rintro e w1 ⟨rfl, b1, s1⟩
            rw [hk]
            have r0 := (b1.cell (p := ⟨b, off + t * 5, none⟩) hbl).trans q0
            have r2 := (b1.cell (p := ⟨b, off + t * 5 + 2, none⟩) hbl).trans q2
            have r4 := (b1.cell (p := ⟨b, off + t * 5 + 4, none⟩) hbl).trans q4
            clear q0 q1 q2 q3 q4
            go_wp2_with fail
            refine (ih lo _ _ _ (bdT s) _ (HB.out.below b1) hz2).mono ?_
            rintro e w2 ⟨rfl, b2, s2⟩
            rw [← HM.out]
            go_wp2_with fail
            go_roundw
            case rel => exact ⟨t + 1, by omega, by go_num, by rw [HT2.out]; congr 1; omega, ((hb.trans (b1.mono hb.size)).trans (b2.mono (by omega)))⟩
            case measure => simp [intOf]; omega
          · have HT2 : Hid (tokT (d + 1) (l.take (t + 1)) = N + (3 + (hdT s).args.length + (1 + M))) := by
              have h := HT.out
              rw [← HN.out, tokE_c hk hq] at h
              rw [HM.out]
              exact h
            go_wp2_with fail
            refine (l17Args_any _ _ _ _ _ _ ⟨_, _, _, rfl⟩ ⟨_, _, _, rfl⟩).mono ?_
            rintro e w1 ⟨rfl, b1, s1⟩
            rw [hk]
            have r0 := (b1.cell (p := ⟨b, off + t * 5, none⟩) hbl).trans q0
            have r2 := (b1.cell (p := ⟨b, off + t * 5 + 2, none⟩) hbl).trans q2
            have r4 := (b1.cell (p := ⟨b, off + t * 5 + 4, none⟩) hbl).trans q4
            clear q0 q1 q2 q3 q4
            go_wp2_with fail
            refine (ih lo _ _ _ (bdT s) _ (HB.out.below b1) hz2).mono ?_
            rintro e w2 ⟨rfl, b2, s2⟩
            rw [← HM.out]
            go_wp2_with fail
            go_roundw
            case rel => exact ⟨t + 1, by omega, by go_num, by rw [HT2.out]; congr 1; omega, ((hb.trans (b1.mono hb.size)).trans (b2.mono (by omega)))⟩
            case measure => simp [intOf]; omega
      · obtain rfl : t = n := by omega
        have HF : Hid (N = tokT (d + 1) l) := by
          have h := HN.out
          rw [List.take_of_length_le (by rw [HL.out]; exact Nat.le_refl _)] at h
          exact h
        go_wp2
        go_ret
        exact ⟨by rw [← HF.out]; rfl, hb, hb.size⟩
end Go.Proofs.YthkbckkghnbonaaGreatDoor
namespace Go.Proofs.YthkbckkghnbonaaGreatDoor
open Go.RowKit
set_option linter.unusedVariables false
theorem toksT_succ {d : Nat} (l : List (Tr (d + 1))) : toksT (d + 1) l = (l.map fun s => toks1 (hdT s) (toksT d (bdT s))).flatten := List.flatMap_def
theorem toks1_len (h : SH) (b : List Tk) : (toks1 h b).length ≤ 4 + h.args.length + b.length := by
  unfold toks1
  split <;> split <;> simp <;> omega
theorem toksT_len : ∀ (d : Nat) (l : List (Tr d)), (toksT d l).length ≤ 4 * szT d l := by
  intro d
  induction d with
  | zero => intro l; exact Nat.zero_le _
  | succ d ih =>
    intro l
    rw [toksT_succ, szT_succ]
    unfold sumE
    induction l with
    | nil => simp
    | cons s l ih2 =>
      have h1 := ih (bdT s)
      have h3 := toks1_len (hdT s) (toksT d (bdT s))
      simp only [List.map_cons, List.flatten_cons, List.length_append, List.sum_cons, List.length_cons]
      have h2 : (toks1 (hdT s) (toksT d (bdT s))).length ≤ 4 + 4 * szE s := by
        unfold szE
        omega
      omega
theorem toks_impl_k (k : Int) (hk : 1 ≤ k ∧ k ≤ 7) (word : ByteArray) (args : List ByteArray) (count : Int) (Aa : Option Addr) (m ca : Nat) (Ab : Option Addr) (nb cb : Nat) (w : World) (rs : List (List Tk)) (hm : args.length = m) (hra : Rd w 1 Aa m (strs args)) (hl : m ≤ 1048576) (hn : nb ≤ 1048576) (hrs : rs.length = nb) (hel : EltsT 96 w Ab nb rs) (hR : rs.flatten.length ≤ 1099511627776) (hc : k = 2 → 1 ≤ count ∧ count ≤ 9) :
    Calls Tryz.prog 96 #[.agg #[.int .i64 k, .string word, .slice Aa m ca, .int .i64 count, .slice Ab nb cb]] w (RetTk w (toks1 ⟨k, word, args, count⟩ rs.flatten)) := by
  have h : k = 1 ∨ k = 2 ∨ k = 3 ∨ k = 4 ∨ k = 5 ∨ k = 6 ∨ k = 7 := by omega
  rcases h with rfl | rfl | rfl | rfl | rfl | rfl | rfl
  · exact toks_impl_1 word args count Aa m ca Ab nb cb w rs hm hra hl hn hrs hel hR
  · exact toks_impl_2 word args count Aa m ca Ab nb cb w rs hm hra hl hn hrs hel hR (hc rfl).1 (hc rfl).2
  · exact toks_impl_3 word args count Aa m ca Ab nb cb w rs hm hra hl hn hrs hel hR
  · exact toks_impl_4 word args count Aa m ca Ab nb cb w rs hm hra hl hn hrs hel hR
  · exact toks_impl_5 word args count Aa m ca Ab nb cb w rs hm hra hl hn hrs hel hR
  · exact toks_impl_6 word args count Aa m ca Ab nb cb w rs hm hra hl hn hrs hel hR
  · exact toks_impl_7 word args count Aa m ca Ab nb cb w rs hm hra hl hn hrs hel hR
def TkSaidI (d : Nat) : Prop := ∀ (lo : Nat) (k : Int) (word : ByteArray) (args : List ByteArray) (count : Int) (bd : List (Tr d)) (Aa : Option Addr) (ca : Nat) (Ab : Option Addr) (nb cb : Nat) (w : World), RdL w lo 1 Aa args.length (strs args) → RdT w lo d Ab nb bd → args.length ≤ 1048576 → szT d bd ≤ 1048576 → vOne d (validT d) ⟨k, word, args, count⟩ bd = true →
  Calls Tryz.prog 96 #[.agg #[.int .i64 k, .string word, .slice Aa args.length ca, .int .i64 count, .slice Ab nb cb]] w (RetTk w (toks1 ⟨k, word, args, count⟩ (toksT d bd)))
theorem tokensOf_impl : ∀ (d : Nat), TkSaidI d := by
  intro d
  induction d with
  | zero =>
    intro lo k word args count bd Aa ca Ab nb cb w hra hrb hl hsz hv
    obtain rfl := szT_zero_len hrb
    obtain rfl : bd = [] := List.eq_nil_of_length_eq_zero hrb.len
    obtain ⟨h1, h2, _⟩ := vOne_facts hv
    exact toks_impl_k k h1 word args count Aa _ ca Ab 0 cb w [] rfl hra.rd hl (by omega) rfl (fun t ht => absurd ht (by omega)) (by simp) h2
  | succ d ih =>
    intro lo k word args count bd Aa ca Ab nb cb w hra hrb hl hsz hv
    have hlen := hrb.len
    subst hlen
    have hn : bd.length ≤ 1048576 := by rw [szT_succ] at hsz; omega
    obtain ⟨h1, h2, h3⟩ := vOne_facts hv
    have htl := toksT_len (d + 1) bd
    rw [toksT_succ] at htl ⊢
    refine toks_impl_k k h1 word args count Aa _ ca Ab bd.length cb w _ rfl hra.rd hl hn (by simp) (fun t ht => ?_) (by omega) h2
    obtain ⟨b, off, s, Aa', ca', Ab', nb', cb', rfl, hbl, hs, ⟨c0, c1, c2, c3, c4⟩, g2, g3⟩ := hrb.at_ ht
    refine ⟨b, off, (hdT s).k, (hdT s).word, Aa', (hdT s).args.length, ca', (hdT s).count, Ab', nb', cb', _, rfl, hbl, ⟨c0, c1, c2, c3, c4⟩, by rw [List.getElem?_map, hs]; rfl, fun w' hw' => ?_⟩
    have hme := szT_mem hs
    have hq := hsz
    rw [szT_succ] at hq
    unfold szE at hme
    exact ih lo _ _ _ _ (bdT s) _ _ _ _ _ _ (g2.below hw') (g3.below hw') (by omega) (by omega) (validT_mem h3 hs)
end Go.Proofs.YthkbckkghnbonaaGreatDoor
