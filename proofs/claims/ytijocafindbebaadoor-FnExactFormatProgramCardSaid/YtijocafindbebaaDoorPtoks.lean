/- The tokens of a valid program, both sides. -/
import Derived.Test.YtijocafindbebaaDoorToksE
import Derived.Test.YtijocafindbebaaDoorPgmI
namespace Go.Proofs.YtijocafindbebaaDoor
open Go.RowKit
set_option linter.unusedVariables false
def qTk : Tk := wTk ⟨#[113, 117, 98, 105, 116, 115]⟩
/-- The tokens of a program, those of its statements given. -/
def pg1 (qs : List ByteArray) (b : List Tk) : List Tk := (([qTk] ++ qs.map wTk) ++ [pTk 2]) ++ b
theorem pg1_len (qs : List ByteArray) (b : List Tk) : (pg1 qs b).length = 2 + qs.length + b.length := by simp [pg1]; omega
theorem below_undrew3 {w w' : World} (h : Below w.drew.heap.size w.drew w') : Below w.heap.size w w' := ⟨h.os, h.tape, h.output, h.size, h.block⟩
theorem step_append_rd {P : Program} (w : World) {ops : Array Oper} {o : Oper} {a : Act} {K : Act → World → Prop} {Q : Exit → Act → World → Prop} {E : Prop} (hgd : o.guard = none) (s x : Operand) (t : TypeId)
    (ho : o.op = .call { callee := .builtin .append, args := #[s, x], argTypes := #[t, t] })
    (base : Nat) (e : TypeId) (i : TypeInfo) (z : Value) (size bytes : Nat) (ht : P.underlying t = some (.slice e)) (hi : P.info? e = some i) (hz : i.zero = some z)
    (hsize : i.size = size) (hby : i.bytes = bytes) (hzs : z.cells.size = size) (hsz : 0 < size)
    (v : Value) (n : Nat) (xs : List Value) (hs : a.eval s = v) (hown : w.ownsRow base e size v n xs)
    (A : Option Addr) (m c : Nat) (news : List Value) (hx : a.eval x = .slice A m c) (hr : Rd w size A m news) (h1 : ∀ u ∈ news, u.oneCell' = true)
    (h63 : n + m ≤ maxLen) (hbytes : (n + m) * bytes ≤ 140737488355328) (hbase : base ≤ w.heap.size)
    (h : ∀ v' w', w'.ownsRow base e size v' (n + m) (xs ++ news) → w.grownBy w' v.ownBlock → (v'.ownBlock = v.ownBlock ∨ v'.ownBlock = some w.heap.size) → K (a.put o.dst v') w') :
    if Region.wanted o (yielded ops a.tmps) = true then Oper.wp P o a w K Q else E := by
  have hw : Region.wanted o (yielded ops a.tmps) = true := by simp [Region.wanted, hgd]
  rw [if_pos hw]
  obtain ⟨v', w', hrun, h2, h3, h4⟩ := run_append_rd (P := P) w base t o.type e i z size bytes ht hi hz hsize hby hzs hsz v n xs hown A m c news hr h1 h63 hbytes hbase
  unfold Oper.wp execOp
  simp only [ho, resolve, invoke, builtin, Sem.run_bind, Sem.run_pure, Result.andThen_ok, List.map_toArray, List.map_cons, List.map_nil, hs, hx, hrun]
  exact h v' w' h2 h3 h4
set_option maxRecDepth 100000 in
set_option maxHeartbeats 4000000 in
theorem ptoks_impl_v (Aq : Option Addr) (m cq : Nat) (qs : List ByteArray) (Ab : Option Addr) (nb cb : Nat) (w : World) (rs : List (List Tk)) (hm : qs.length = m) (hra : Rd w 1 Aq m (strs qs)) (hl : m ≤ 1048576) (hn : nb ≤ 1048576) (hrs : rs.length = nb) (hel : EltsT 66 w Ab nb rs) (hR : rs.flatten.length ≤ 1099511627776)
    (hval : ∀ w', Below w.heap.size w w' → Calls Tryd.prog 20 #[.agg #[.slice Aq m cq, .slice Ab nb cb]] w' fun e w'' => e = .returned (.bool true) ∧ Below w'.heap.size w' w'' ∧ w'.heap.size ≤ w''.heap.size) :
    Calls Tryd.prog 29 #[.agg #[.slice Aq m cq, .slice Ab nb cb]] w (RetTk w (pg1 qs rs.flatten)) := by
  obtain ⟨i0, hi, hz0, hz1, hz2⟩ := info_parts info_TkE
  obtain ⟨w0, hw0⟩ : ∃ w0, w0 = w.alloc (.cells #[.slice Aq m cq, .slice Ab nb cb] 39) := ⟨_, rfl⟩
  have X0 := Lib.hid (show w0.heap[w.heap.size]? = some (.cells #[.slice Aq m cq, .slice Ab nb cb] 39 (0, 0)) by rw [hw0]; exact boxed1_0 _ _)
  have b0 : Below w.heap.size w w0 := by rw [hw0]; exact (by repeat (first | exact Below.refl _ _ | assumption | (refine Below.trans ?_ (Below.mono (by assumption) (by first | omega | (simp; done) | (simp; omega)))) | (with_reducible refine Below.drew ?_) | (with_reducible refine Below.alloc ?_ (by first | omega | (simp; done) | (simp; omega)) _) | (with_reducible refine Below.setCell ?_ (by first | omega | (simp; done) | (simp; omega)) _)))
  have s0 : w.heap.size ≤ w0.heap.size := b0.size
  have z0 : w.heap.size < w0.heap.size := by rw [hw0]; simp
  have HV := Lib.hid (hval w0 b0)
  have B0 := Lib.hid b0
  have HW := Lib.hid hw0
  have HM := Lib.hid hm
  have HRA := Lib.hid (hra.below b0)
  have HEL := Lib.hid hel
  have HRS := Lib.hid hrs
  have HR := Lib.hid hR
  clear b0 hw0 hm hra hel hrs hR hval
  go_enter Tryd.func29, Tryd.ntmps29
  go_wp2_with fail
  rw [← HW.out]
  refine HV.out.mono ?_
  rintro e w1 ⟨rfl, b1, s1⟩
  obtain ⟨p0, p1⟩ := boxcells2 (lay := b1) X0.out
  have zl1 : w.heap.size < w1.heap.size := by omega
  go_wp2_with fail
  refine (word_any _ _).mono ?_
  rintro e w2 ⟨rfl, b2, s2⟩
  have hb2 : Below w0.heap.size w0 w2 := b1.trans (b2.mono s1)
  have hs2 := hb2.size
  clear p0 p1 b1 b2 s2
  obtain ⟨p0, p1⟩ := boxcells2 (lay := hb2) X0.out
  have zl2 : w.heap.size < w2.heap.size := by omega
  obtain ⟨w3, hw3⟩ : ∃ w3, w3 = w2.alloc (.cells #[.int .i64 1, .string ⟨#[113, 117, 98, 105, 116, 115]⟩] 85) := ⟨_, rfl⟩
  have own3 : w3.ownsRow w0.heap.size 85 2 (.slice (some ⟨w2.heap.size, 0, none⟩) 1 1) 1 (tkcs [qTk]) := by rw [hw3]; exact World.ownsRow_lit w2 #[.int .i64 1, .string ⟨#[113, 117, 98, 105, 116, 115]⟩] 1 hs2 (by simp [maxLen]) rfl
  have hb3 : Below w0.heap.size w0 w3 := by rw [hw3]; exact hb2.alloc hs2 _
  have hs3 := hb3.size
  have HW3 := Lib.hid hw3
  clear hw3
  go_wp2_with fail
  rw [← HW3.out]
  clear p0 p1
  obtain ⟨L0, hL0⟩ : ∃ L0, L0 = [qTk] := ⟨_, rfl⟩
  have HL0 := Lib.hid hL0
  rw [← hL0] at own3
  clear hL0
  go_loopw [3, 16] (fun v i wr => ∃ t : Nat, t ≤ m ∧ i = .int .i64 t ∧ wr.ownsRow w0.heap.size 85 2 v (1 + t) (tkcs (L0 ++ (qs.take t).map wTk)) ∧ Below w0.heap.size w0 wr) (fun _ i _ => m - (intOf i).toNat)
  case atStart => exact ⟨0, Nat.zero_le _, rfl, by simpa using own3, hb3⟩
  case round =>
    obtain ⟨t, ht, rfl, hown, hb⟩ := hrel
    have hbs := hb.size
    by_cases hlt : t < m
    · obtain ⟨s, hs⟩ : ∃ s, qs[t]? = some s := ⟨_, List.getElem?_eq_getElem (by have := HM.out; omega)⟩
      obtain ⟨b, off, rfl, hbl, hc⟩ := HRA.out.2 (by omega)
      have q0 : wr.cell? ⟨b, off + t, none⟩ = some (.string s) := (hb.cell (by exact hbl)).trans (hc t _ (strs_at hs))
      have HS := Lib.hid (map_step (f := wTk) hs)
      obtain ⟨L, hL⟩ : ∃ L, L = (qs.take t).map wTk := ⟨_, rfl⟩
      rw [← hL] at hown HS
      clear hc hs hL
      go_wp2_with fail
      refine (word_any s _).mono ?_
      rintro e w5 ⟨rfl, b5, s5⟩
      have hown1 := ownsRow_below hown b5
      have hb5 := hb.trans (b5.mono hbs)
      have hb5s := hb5.size
      clear hown
      go_wp2_with (at_builtin; refine wpList_append_rd _ rfl _ _ 43 rfl w0.heap.size 85 i0 _ 2 24 Tryd.underlying43 hi hz0 hz1 hz2 rfl (by decide) _ _ _ rfl (hown1.alloc _) _ 1 1 _ rfl (rd_lit2 ?c0 rfl) ?c2 ?c3 ?c4 ?c5 ?_)
      case c0 => first | rfl | simp
      case c2 => repeat' (first | rfl | apply And.intro)
      case c3 => simp only [maxLen]; omega
      case c4 => omega
      case c5 => first | omega | (simp; omega)
      intro v6 w6 own6 gr6 _
      have hb6 := (hb5.alloc hb5s _).grown gr6 (by simp; omega) (own_ge hown1)
      clear hown1 gr6
      go_wp2_with fail
      go_roundw
      case rel =>
        refine ⟨t + 1, by omega, by go_num, ?_, hb6⟩
        rw [HS.out, ← List.append_assoc, tkcs_append, ← Nat.add_assoc]
        exact own6
      case measure => simp [intOf]; omega
    · obtain rfl : m = t := by omega
      rw [List.take_of_length_le (by have := HM.out; omega)] at hown
      obtain ⟨L1, hL1⟩ : ∃ L1, L1 = L0 ++ qs.map wTk := ⟨_, rfl⟩
      rw [← hL1] at hown
      have HL1 : Hid (L1 = [qTk] ++ qs.map wTk) := by rw [hL1, HL0.out]; exact rfl
      clear hL1
      go_wp2_with (at_builtin; refine wpList_append_rd _ rfl _ _ 43 rfl w0.heap.size 85 i0 _ 2 24 Tryd.underlying43 hi hz0 hz1 hz2 rfl (by decide) _ _ _ rfl (hown.alloc _) _ 1 1 _ rfl (rd_lit2 ?c0 rfl) ?c2 ?c3 ?c4 ?c5 ?_)
      case c0 => first | rfl | simp
      case c2 => repeat' (first | rfl | apply And.intro)
      case c3 => simp only [maxLen]; omega
      case c4 => omega
      case c5 => first | omega | (simp; omega)
      intro v7 w7 own7 gr7 _
      have hb7 := (hb.alloc (by omega) _).grown gr7 (by simp; omega) (own_ge hown)
      have hs7 := hb7.size
      clear hown gr7
      obtain ⟨p0, p1⟩ := boxcells2 (lay := hb7) X0.out
      have zl7 : w.heap.size < w7.heap.size := by omega
      obtain ⟨L2, hL2⟩ : ∃ L2, L2 = L1 ++ [pTk 2] := ⟨_, rfl⟩
      have own7 : w7.ownsRow w0.heap.size 85 2 v7 (1 + m + 1) (tkcs L2) := by rw [hL2, tkcs_append]; exact own7
      have HL2 := Lib.hid hL2
      obtain ⟨N2, hN2⟩ : ∃ N2, N2 = 1 + m + 1 := ⟨_, rfl⟩
      rw [← hN2] at own7
      have hN2' : N2 ≤ 1048580 := by omega
      clear hL2 hN2
      go_wp2_with fail
      go_loopw [3, 33] (fun v i wr => ∃ t : Nat, t ≤ nb ∧ i = .int .i64 t ∧ wr.ownsRow w0.heap.size 85 2 v (N2 + (rs.take t).flatten.length) (tkcs (L2 ++ (rs.take t).flatten)) ∧ Below w0.heap.size w0 wr) (fun _ i _ => nb - (intOf i).toNat)
      case atStart => exact ⟨0, Nat.zero_le _, rfl, by simpa using own7, hb7⟩
      case round =>
        obtain ⟨t, ht, rfl, hown, hb⟩ := hrel
        have hbs := hb.size
        have hFle := flat_le rs t
        have hRR := HR.out
        by_cases hlt : t < nb
        · obtain ⟨b, off, k', wd', Aa', na', ca', ct', Ab', nb', cb', r, rfl, hbl, ⟨q0, q1, q2, q3, q4⟩, hr, hcall⟩ := HEL.out t hlt
          have hbw := (B0.out.trans (hb.mono s0))
          rw [← hbw.cell (p := ⟨b, _, none⟩) hbl] at q0 q1 q2 q3 q4
          have HC := Lib.hid (hcall _ ((hbw.alloc (by omega) (.cells #[.int .i64 k', .string wd', .slice Aa' na' ca', .int .i64 ct', .slice Ab' nb' cb'] 30))))
          have HS := Lib.hid (flat_step hr)
          have hF1 := flat_le rs (t + 1)
          rw [flat_step hr, List.length_append] at hF1
          obtain ⟨F, hF⟩ : ∃ F, F = (rs.take t).flatten := ⟨_, rfl⟩
          rw [← hF] at hown HS hF1 hFle
          have hlt0 : b < wr.heap.size := by have := hbw.size; omega
          clear hcall hr hbl hF
          go_wp2_with fail
          refine HC.out.mono ?_
          rintro e w8 ⟨v8, rfl, o8, b8, s8⟩
          obtain ⟨A8, c8, rfl, _, _, r8⟩ := rd_of_own o8
          have hb8' : Below wr.heap.size wr w8 := ((Below.refl _ _).alloc (Nat.le_refl _) _).trans (b8.mono (by simp))
          have own8 := ownsRow_below hown hb8'
          have hb8 := hb.trans (hb8'.mono hbs)
          have hs8 := hb8.size
          clear hown o8 b8 s8 q0 q1 q2 q3 q4
          go_wp2_with (at_builtin; refine wpList_append_rd _ rfl _ _ 43 rfl w0.heap.size 85 i0 _ 2 24 Tryd.underlying43 hi hz0 hz1 hz2 rfl (by decide) _ _ _ rfl own8 _ _ _ _ rfl r8 ?c2 ?c3 ?c4 ?c5 ?_)
          case c2 => exact tkc_ones r
          case c3 => simp only [maxLen]; omega
          case c4 => omega
          case c5 => first | omega | (simp; omega)
          intro v9 w9 own9 gr9 _
          have hb9 := hb8.grown gr9 (by omega) (own_ge own8)
          clear own8 gr9 r8
          go_wp2_with fail
          go_roundw
          case rel =>
            refine ⟨t + 1, by omega, by go_num, ?_, hb9⟩
            rw [HS.out, ← List.append_assoc, tkcs_append, List.length_append, ← Nat.add_assoc]
            exact own9
          case measure => simp [intOf]; omega
        · obtain rfl : nb = t := by omega
          rw [List.take_of_length_le (by have := HRS.out; omega)] at hown hFle
          have O := Lib.hid hown
          clear hown
          go_wp2_with fail
          go_ret
          refine retTk_of ?_ (own_low O.out s0) (B0.out.trans (hb.mono s0)) (by omega)
          rw [HL2.out, HL1.out]
          rfl
set_option maxRecDepth 100000 in
set_option maxHeartbeats 4000000 in
theorem ptoks_spec_v (Aq : Option Addr) (m cq : Nat) (qs : List ByteArray) (Ab : Option Addr) (nb cb : Nat) (w : World) (rs : List (List Tk)) (hm : qs.length = m) (hra : Rd w 1 Aq m (strs qs)) (hl : m ≤ 1048576) (hn : nb ≤ 1048576) (hrs : rs.length = nb) (hel : EltsT 22 w Ab nb rs) (hR : rs.flatten.length ≤ 1099511627776)
    (hval : ∀ w', Below w.heap.size w w' → Calls Tryd.prog 18 #[.agg #[.slice Aq m cq, .slice Ab nb cb]] w' fun e w'' => e = .returned (.bool true) ∧ Below w'.heap.size w' w'' ∧ w'.heap.size ≤ w''.heap.size) :
    Calls Tryd.prog 28 #[.agg #[.slice Aq m cq, .slice Ab nb cb]] w (RetTk w (pg1 qs rs.flatten)) := by
  obtain ⟨i0, hi, hz0, hz1, hz2⟩ := info_parts info_TkE
  obtain ⟨w0, hw0⟩ : ∃ w0, w0 = w.alloc (.cells #[.slice Aq m cq, .slice Ab nb cb] 39) := ⟨_, rfl⟩
  have X0 := Lib.hid (show w0.heap[w.heap.size]? = some (.cells #[.slice Aq m cq, .slice Ab nb cb] 39 (0, 0)) by rw [hw0]; exact boxed1_0 _ _)
  have b0 : Below w.heap.size w w0 := by rw [hw0]; exact (by repeat (first | exact Below.refl _ _ | assumption | (refine Below.trans ?_ (Below.mono (by assumption) (by first | omega | (simp; done) | (simp; omega)))) | (with_reducible refine Below.drew ?_) | (with_reducible refine Below.alloc ?_ (by first | omega | (simp; done) | (simp; omega)) _) | (with_reducible refine Below.setCell ?_ (by first | omega | (simp; done) | (simp; omega)) _)))
  have s0 : w.heap.size ≤ w0.heap.size := b0.size
  have z0 : w.heap.size < w0.heap.size := by rw [hw0]; simp
  have HV := Lib.hid (hval w0 b0)
  have B0 := Lib.hid b0
  have HW := Lib.hid hw0
  have HM := Lib.hid hm
  have HRA := Lib.hid (hra.below b0)
  have HEL := Lib.hid hel
  have HRS := Lib.hid hrs
  have HR := Lib.hid hR
  clear b0 hw0 hm hra hel hrs hR hval
  go_enter Tryd.func28, Tryd.ntmps28
  go_wp2_with fail
  rw [← HW.out]
  refine HV.out.mono ?_
  rintro e w1 ⟨rfl, b1, s1⟩
  obtain ⟨p0, p1⟩ := boxcells2 (lay := b1) X0.out
  have zl1 : w.heap.size < w1.heap.size := by omega
  go_wp2_with fail
  have R1 := HRA.out.below b1
  have hbd1 : Below w0.heap.size w0 w1 := b1
  have lit : ∀ W : World, w1.heap.size ≤ W.heap.size → (W.alloc (.cells #[.int .i64 1, .string ⟨#[113, 117, 98, 105, 116, 115]⟩] 85)).ownsRow w1.heap.size 85 2 (.slice (some ⟨W.heap.size, 0, none⟩) 1 1) 1 (tkcs [qTk]) := fun W h => World.ownsRow_lit W #[.int .i64 1, .string ⟨#[113, 117, 98, 105, 116, 115]⟩] 1 h (by simp [maxLen]) rfl
  have LIT := Lib.hid lit
  clear lit b1
  have al : ∀ (W : World) (ob : Obj), Below W.heap.size W (W.alloc ob) := fun W ob => (Below.refl _ _).alloc (Nat.le_refl _) _
  have AL := Lib.hid al
  clear al
  have RH := Lib.hid R1
  clear R1
  go_region_held3 (fun W => W.cell? ⟨w.heap.size, 0, none⟩ = some (.slice Aq m cq) ∧ W.cell? ⟨w.heap.size, 1, none⟩ = some (.slice Ab nb cb)) (first | exact ⟨p0, p1⟩ | exact ⟨pa0, pa1⟩ | exact ⟨pb0, pb1⟩ | exact boxcells2 (lay := hbd1.trans (hb2.mono s1)) X0.out | go_keep) (first | (go_at_call 63; (with_reducible refine (l19Word_any _ _).mono ?_); rintro e wa ⟨rfl, ba, sa⟩; (first | have ba1 : Below w1.heap.size w1 wa := below_undrew3 ba | have ba1 : Below w1.heap.size w1 wa := bb1.trans (ba.mono (by omega))); have sa1 := ba1.size; obtain ⟨pa0, pa1⟩ := boxcells2 (lay := hbd1.trans (ba1.mono (by omega))) X0.out) | (go_at_call 65; (with_reducible refine (l19Words_any Aq m cq qs _ (by first | exact RH.out.drew | exact RH.out.below ba1 | exact (RH.out.below ba1).below (AL.out _ _)) HM.out hl).mono ?_); rintro e wb ⟨vb, rfl, ob, bb, sb⟩; obtain ⟨Abb, cbb, rfl, _, _, rb⟩ := rd_of_own ob; (first | have bb1 : Below w1.heap.size w1 wb := below_undrew3 bb | have bb1 : Below w1.heap.size w1 wb := ba1.trans (bb.mono (by omega)) | have bb1 : Below w1.heap.size w1 wb := (ba1.alloc (by omega) _).trans (bb.mono (by simp; omega))); have sb1 := bb1.size; obtain ⟨pb0, pb1⟩ := boxcells2 (lay := hbd1.trans (bb1.mono (by omega))) X0.out) | (refine step_append_rd _ (by rfl) (.tmp 10) (.tmp 13) 43 (by rfl) w1.heap.size 85 i0 _ 2 24 Tryd.underlying43 hi hz0 hz1 hz2 (by rfl) (by decide) _ 1 _ (by rfl) (by first | exact ownsRow_below (LIT.out wa sa1) bb | exact LIT.out wb sb1 | exact LIT.out wa sa1) _ m _ _ (by rfl) (by first | exact rb | exact rb.below (AL.out _ _) | exact (rb.below ba).below (AL.out _ _)) (tkc_ones _) (by simp only [maxLen]; omega) (by omega) (by first | exact sb1 | exact Nat.le_trans sb1 (AL.out _ _).size | exact Nat.le_trans sa1 (AL.out _ _).size) ?_; intro v2 w2 own2 gr2 _; have hb2 : Below w1.heap.size w1 w2 := by first | exact bb1.grown gr2 sb1 (fun k hk => Nat.le_trans sa1 (Nat.le_of_eq (Option.some.inj (show some wa.heap.size = some k from hk)))) | exact (bb1.alloc sb1 _).grown gr2 (Nat.le_trans sb1 (AL.out _ _).size) (fun k hk => Nat.le_trans sb1 (Nat.le_of_eq (Option.some.inj (show some wb.heap.size = some k from hk)))) | exact (ba1.alloc sa1 _).grown gr2 (Nat.le_trans sa1 (AL.out _ _).size) (fun k hk => Nat.le_trans sa1 (Nat.le_of_eq (Option.some.inj (show some wa.heap.size = some k from hk))))))
  all_goals
    have hbq := hbd1.trans (hb2.mono s1)
    have hsq := hbq.size
    have O2 := Lib.hid (own_low own2 s1)
    clear own2 gr2 hb2
    obtain ⟨L1, hL1⟩ : ∃ L1, L1 = [qTk] ++ qs.map wTk := ⟨_, rfl⟩
    have own2 : w2.ownsRow w0.heap.size 85 2 v2 (1 + m) (tkcs L1) := by rw [hL1, tkcs_append]; exact O2.out
    have HL1 := Lib.hid hL1
    clear hL1
    try clear p0 p1 pa0 pa1 pb0 pb1
    go_wp2_with (at_builtin; refine wpList_append_rd _ rfl _ _ 43 rfl w0.heap.size 85 i0 _ 2 24 Tryd.underlying43 hi hz0 hz1 hz2 rfl (by decide) _ _ _ rfl (own2.alloc _) _ 1 1 _ rfl (rd_lit2 ?c0 rfl) ?c2 ?c3 ?c4 ?c5 ?_)
    case c0 => first | rfl | simp
    case c2 => repeat' (first | rfl | apply And.intro)
    case c3 => simp only [maxLen]; omega
    case c4 => omega
    case c5 => first | omega | (simp; omega)
    intro v7 w7 own7 gr7 _
    have hb7 := (hbq.alloc (by omega) _).grown gr7 (by simp; omega) (own_ge own2)
    have hs7 := hb7.size
    clear own2 gr7
    obtain ⟨p0, p1⟩ := boxcells2 (lay := hb7) X0.out
    have zl7 : w.heap.size < w7.heap.size := by omega
    obtain ⟨L2, hL2⟩ : ∃ L2, L2 = L1 ++ [pTk 2] := ⟨_, rfl⟩
    have own7 : w7.ownsRow w0.heap.size 85 2 v7 (1 + m + 1) (tkcs L2) := by rw [hL2, tkcs_append]; exact own7
    have HL2 := Lib.hid hL2
    obtain ⟨N2, hN2⟩ : ∃ N2, N2 = 1 + m + 1 := ⟨_, rfl⟩
    rw [← hN2] at own7
    have hN2' : N2 ≤ 1048580 := by omega
    clear hL2 hN2
    go_wp2_with fail
    go_loopw [3, 4] (fun v i wr => ∃ t : Nat, t ≤ nb ∧ i = .int .i64 t ∧ wr.ownsRow w0.heap.size 85 2 v (N2 + (rs.take t).flatten.length) (tkcs (L2 ++ (rs.take t).flatten)) ∧ Below w0.heap.size w0 wr) (fun _ i _ => nb - (intOf i).toNat)
    case atStart => exact ⟨0, Nat.zero_le _, rfl, by simpa using own7, hb7⟩
    case round =>
      obtain ⟨t, ht, rfl, hown, hb⟩ := hrel
      have hbs := hb.size
      have hFle := flat_le rs t
      have hRR := HR.out
      obtain ⟨p0, p1⟩ := boxcells2 (lay := hb) X0.out
      have zl : w.heap.size < wr.heap.size := by omega
      by_cases hlt : t < nb
      · obtain ⟨b, off, k', wd', Aa', na', ca', ct', Ab', nb', cb', r, rfl, hbl, ⟨q0, q1, q2, q3, q4⟩, hr, hcall⟩ := HEL.out t hlt
        have hbw := (B0.out.trans (hb.mono s0))
        rw [← hbw.cell (p := ⟨b, _, none⟩) hbl] at q0 q1 q2 q3 q4
        have HC := Lib.hid (hcall _ hbw)
        have HS := Lib.hid (flat_step hr)
        have hF1 := flat_le rs (t + 1)
        rw [flat_step hr, List.length_append] at hF1
        obtain ⟨F, hF⟩ : ∃ F, F = (rs.take t).flatten := ⟨_, rfl⟩
        rw [← hF] at hown HS hF1 hFle
        have hlt0 : b < wr.heap.size := by have := hbw.size; omega
        clear hcall hr hbl hF
        go_wp2_with fail
        refine HC.out.mono ?_
        rintro e w8 ⟨v8, rfl, o8, b8, s8⟩
        obtain ⟨A8, c8, rfl, _, _, r8⟩ := rd_of_own o8
        have hb8' : Below wr.heap.size wr w8 := b8
        have own8 := ownsRow_below hown hb8'
        have hb8 := hb.trans (hb8'.mono hbs)
        have hs8 := hb8.size
        clear hown o8 b8 s8 q0 q1 q2 q3 q4 p0 p1
        go_wp2_with (at_builtin; refine wpList_append_rd _ rfl _ _ 43 rfl w0.heap.size 85 i0 _ 2 24 Tryd.underlying43 hi hz0 hz1 hz2 rfl (by decide) _ _ _ rfl own8 _ _ _ _ rfl r8 ?c2 ?c3 ?c4 ?c5 ?_)
        case c2 => exact tkc_ones r
        case c3 => simp only [maxLen]; omega
        case c4 => omega
        case c5 => first | omega | (simp; omega)
        intro v9 w9 own9 gr9 _
        have hb9 := hb8.grown gr9 (by omega) (own_ge own8)
        clear own8 gr9 r8
        go_wp2_with fail
        go_roundw
        case rel =>
          refine ⟨t + 1, by omega, by go_num, ?_, hb9⟩
          rw [HS.out, ← List.append_assoc, tkcs_append, List.length_append, ← Nat.add_assoc]
          exact own9
        case measure => simp [intOf]; omega
      · obtain rfl : nb = t := by omega
        rw [List.take_of_length_le (by have := HRS.out; omega)] at hown hFle
        have O := Lib.hid hown
        clear hown
        go_wp2_with fail
        go_ret
        refine retTk_of ?_ (own_low O.out s0) (B0.out.trans (hb.mono s0)) (by omega)
        rw [HL2.out, HL1.out]
        rfl
end Go.Proofs.YtijocafindbebaaDoor
