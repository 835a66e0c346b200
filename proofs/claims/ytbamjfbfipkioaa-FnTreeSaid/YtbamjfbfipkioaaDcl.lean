/- Drawing: the names that are none of some; a gate that keeps an ancilla clean. -/
import Derived.Test.YtbamjfbfipkioaaDgt
namespace Go.Proofs.Ytbamjfbfipkioaa
open Go.RowKit
set_option linter.unusedVariables false
theorem rdQ_lit {w : World} {cs : Array Value} {e n size b base : Nat} (h0 : b = w.heap.size) (hs : cs.size = n * size) (hB : base ≤ b) : RdQ (w.alloc (.cells cs e)) (base ≤ ·) size (some ⟨b, 0, none⟩) n cs.toList := by
  have r := rd_lit1 (e := e) h0 hs
  refine ⟨r.1, fun h => ?_⟩
  obtain ⟨b', off, e, hb, hc⟩ := r.2 h
  injection e with e
  injection e with e1 e2
  subst e1 e2
  exact ⟨b, 0, rfl, hB, hb, hc⟩
/-- A statement of a head and a body, its cells given. -/
theorem stQ_mk {w : World} {Q : Nat → Prop} {d : Nat} {h : SH} {Aa Ab : Option Addr} {ca nb cb : Nat} {bd : List (Tr d)} (h1 : RdQ w Q 1 Aa h.args.length (strs h.args)) (h2 : TrQ w Q d Ab nb bd) (h3 : h.args.length ≤ ca) : StQ w Q d (scl h Aa ca Ab nb cb) (mkT h bd) :=
  ⟨Aa, ca, Ab, nb, cb, rfl, h1, h2, h3⟩
theorem szE_mk {d : Nat} (h : SH) (bd : List (Tr d)) : szE (mkT h bd) = h.word.size + (h.args.length + szS h.args + szT d bd) := rfl
theorem szT_nil (d : Nat) : szT d [] = 0 := by cases d <;> rfl
theorem sumE_append {d : Nat} (l m : List (Tr (d + 1))) : sumE (l ++ m) = sumE l + sumE m := by simp [sumE]
theorem sumE_one {d : Nat} (s : Tr (d + 1)) : sumE [s] = szE s := by simp [sumE]
theorem szT_append {d : Nat} (l m : List (Tr (d + 1))) : szT (d + 1) (l ++ m) = szT (d + 1) l + szT (d + 1) m := by rw [szT_succ, szT_succ, szT_succ, sumE_append, List.length_append]; omega
theorem szT_one {d : Nat} (s : Tr (d + 1)) : szT (d + 1) [s] = 1 + szE s := by rw [szT_succ, sumE_one]; rfl
def DFree (m : Nat) (w : World) (e : Ending) (w' : World) : Prop := ∃ (A : Option Addr) (n c : Nat) (F : List ByteArray), e = .returned (.slice A n c) ∧ F.length = n ∧ n ≤ m ∧ (∀ s ∈ F, s.size ≤ 9) ∧ RdQ w' (w.heap.size ≤ ·) 1 A n (strs F) ∧ Below w.heap.size w w' ∧ w.heap.size ≤ w'.heap.size
set_option maxRecDepth 100000 in
set_option maxHeartbeats 4000000 in
theorem l17Free_any (A A' : Option Addr) (m c m' c' : Nat) (N M : List ByteArray) (w : World) (hN : Rd w 1 A m (strs N)) (hl : N.length = m) (h9 : ∀ s ∈ N, s.size ≤ 9) (hm : m ≤ 4) (hM : Rd w 1 A' m' (strs M)) (hl' : M.length = m') (hm' : m' ≤ 4) :
    Calls Try.prog 34 #[.slice A m c, .slice A' m' c'] w (DFree m w) := by
  obtain ⟨i0, hi, hz0, hz1, hz2⟩ := info_parts info_str
  have HN := Lib.hid hN
  have HM := Lib.hid hM
  have HL := Lib.hid hl
  have HL' := Lib.hid hl'
  have H9 := Lib.hid h9
  clear hN hM hl hl' h9
  go_enter Try.func34, Try.ntmps34
  go_wp2_with fail
  obtain ⟨w0, hw0⟩ : ∃ w0, w0 = w.alloc (.cells #[] 9) := ⟨_, rfl⟩
  rw [← hw0]
  have own0 : w0.ownsRow w.heap.size 9 1 (.slice (some ⟨w.heap.size, 0, none⟩) 0 0) 0 [] := by rw [hw0]; exact own_empty w _ _
  have b0 : Below w.heap.size w w0 := by rw [hw0]; exact (by repeat (first | exact Below.refl _ _ | assumption | (refine Below.trans ?_ (Below.mono (by assumption) (by first | omega | (simp; done) | (simp; omega)))) | (with_reducible refine Below.drew ?_) | (with_reducible refine Below.alloc ?_ (by first | omega | (simp; done) | (simp; omega)) _) | (with_reducible refine Below.setCell ?_ (by first | omega | (simp; done) | (simp; omega)) _)))
  have OW := Lib.hid own0
  have B0 := Lib.hid b0
  clear own0 b0 hw0
  go_loopw [5, 6] (fun v i wr => ∃ (t : Nat) (F : List ByteArray), t ≤ m ∧ i = .int .i64 t ∧ F.length ≤ t ∧ Hid (∀ s ∈ F, s.size ≤ 9) ∧ Hid (wr.ownsRow w.heap.size 9 1 v F.length (strs F)) ∧ Hid (Below w.heap.size w wr)) (fun _ i _ => m - (intOf i).toNat)
  case atStart => exact ⟨0, [], Nat.zero_le _, rfl, Nat.zero_le _, (fun s hs => absurd hs (by simp) : ∀ s ∈ ([] : List ByteArray), s.size ≤ 9), OW.out, B0.out⟩
  case round =>
    obtain ⟨t, F, ht, rfl, hF, h9, hown, hb⟩ := hrel
    have hbs := hb.out.size
    by_cases hlt : t < m
    · obtain ⟨x, hx⟩ : ∃ x, N[t]? = some x := ⟨_, List.getElem?_eq_getElem (by rw [HL.out]; exact hlt)⟩
      obtain ⟨b, off, rfl, hbl, hc⟩ := (HN.out.below hb.out).2 (by omega)
      have q0 : wr.cell? ⟨b, off + t, none⟩ = some (.string x) := hc t _ (strs_at hx)
      have HX := Lib.hid (show ∀ s ∈ F ++ [x], s.size ≤ 9 from fun s hs => by
        rcases List.mem_append.1 hs with h | h
        · exact h9.out s h
        · rw [List.mem_singleton.1 h]; exact H9.out x (List.mem_of_getElem? hx))
      clear hc hx
      cases hh : hasS M x
      · have hown' := hown.out
        go_wp2_with (first | (go_at_call 35; refine (l1Has_any _ _ _ M x _ (HM.out.below hb.out) HL'.out (by omega)).mono ?_; rintro e w' ⟨rfl, rfl⟩; rw [hh]) | (at_builtin; refine wpList_append_rd _ rfl _ _ 29 rfl w.heap.size 9 i0 _ 1 16 Try.underlying29 hi hz0 hz1 hz2 rfl (by decide) _ _ _ rfl (hown'.alloc _) _ 1 1 _ rfl (rd_lit1 ?c0 rfl) ?c2 ?c3 ?c4 ?c5 ?_))
        case c0 => first | rfl | simp
        case c2 => repeat' (first | rfl | apply And.intro)
        case c3 => simp only [maxLen]; omega
        case c4 => omega
        case c5 => first | omega | (simp; omega)
        intro v6 w6 own6 gr6 _
        have hb6 := Lib.hid ((hb.out.alloc hbs _).grown gr6 (by first | omega | (simp; done) | (simp; omega)) (own_ge hown'))
        have O6 := Lib.hid own6
        clear gr6 own6 hown'
        go_wp2_with fail
        go_roundw
        case rel => exact ⟨t + 1, F ++ [x], by omega, by go_num, by rw [List.length_append]; exact Nat.succ_le_succ hF, HX, by rw [List.length_append, strs_snocG]; exact O6.out, hb6⟩
        case measure => simp [intOf]; omega
      · go_wp2_with (go_at_call 35; refine (l1Has_any _ _ _ M x _ (HM.out.below hb.out) HL'.out (by omega)).mono ?_; rintro e w' ⟨rfl, rfl⟩; rw [hh])
        go_roundw
        case rel => exact ⟨t + 1, F, by omega, by go_num, by omega, h9, hown, hb⟩
        case measure => simp [intOf]; omega
    · obtain ⟨B, d, rfl, _, _, _⟩ := rd_of_own hown.out
      go_wp2_with fail
      go_ret
      exact ⟨B, _, d, F, rfl, rfl, by omega, h9.out, rdQ_of_own hown.out, hb.out, hbs⟩
/-- Three statements, drawn. -/
def DCl (w : World) (p : Nat) (e : Ending) (w' : World) : Prop := ∃ (A : Option Addr) (c : Nat) (l : List (Tr 1)), e = .returned (.slice A 3 c) ∧ TrQ w' (w.heap.size ≤ ·) 1 A 3 l ∧ szT 1 l ≤ 100 ∧ CurAt w' p ∧ w.grownBy w' (some p)
set_option maxRecDepth 100000 in
set_option maxHeartbeats 4000000 in
theorem l17Clean_any (A : Option Addr) (m c : Nat) (N : List ByteArray) (z : ByteArray) (w : World) (p : Nat) (hcur : CurAt w p) (hN : Names w p A m N) (hz : z.size ≤ 9) : Calls Try.prog 36 #[.pointer (some ⟨p, 0, none⟩), .slice A m c, .string z] w (DCl w p) := by
  have hp := hcur.lt
  have h1 := hN.lo
  have h4 := hN.hi
  have HN := Lib.hid hN
  clear hN
  go_enter Try.func36, Try.ntmps36
  go_wp2_with fail
  refine (l1Below_any m (m - 1) w p hcur (by omega) (by omega) (by omega)).mono ?_
  rintro e w1 ⟨j, hj0, hj1, rfl, hc1, hg1⟩
  obtain ⟨j, rfl⟩ : ∃ j' : Nat, j = j' := ⟨j.toNat, by omega⟩
  have FR1 := Lib.hid ((Fr.start hcur).call hc1 hg1)
  obtain ⟨b, off, a, rfl, hbl, q0, _, ha9⟩ := (HN.out.call hg1).at_ (t := j) (by omega)
  clear hc1 hg1
  have s1 := FR1.out.gr.size
  have hp1 : p < w1.heap.size := FR1.out.cur.lt
  go_wp2_with fail
  obtain ⟨wa, hwa⟩ : ∃ wa, wa = w1.alloc (.cells #[.string a, .string z] 9) := ⟨_, rfl⟩
  rw [← hwa]
  obtain ⟨wb, hwb⟩ : ∃ wb, wb = wa.alloc (.cells #[.int .i64 1, .string ⟨#[99, 120]⟩, .slice (some ⟨w1.heap.size, 0, none⟩) 2 2, .int .i64 0, .slice none 0 0] 36) := ⟨_, rfl⟩
  rw [← hwb]
  obtain ⟨wc, hwc⟩ : ∃ wc, wc = wb.alloc (.cells #[.string ⟨#[122]⟩, .string ⟨#[115]⟩, .string ⟨#[116]⟩, .string ⟨#[116, 100]⟩] 9) := ⟨_, rfl⟩
  rw [← hwc]
  have za : wa.heap.size = w1.heap.size + 1 := by rw [hwa]; simp
  have zb : wb.heap.size = w1.heap.size + 1 + 1 := by rw [hwb]; simp [za]
  have zc : wc.heap.size = w1.heap.size + 1 + 1 + 1 := by rw [hwc]; simp [zb]
  have ba : Below w1.heap.size w1 wa := by rw [hwa]; exact (by repeat (first | exact Below.refl _ _ | assumption | (refine Below.trans ?_ (Below.mono (by assumption) (by first | omega | (simp; done) | (simp; omega)))) | (with_reducible refine Below.drew ?_) | (with_reducible refine Below.alloc ?_ (by first | omega | (simp; done) | (simp; omega)) _) | (with_reducible refine Below.setCell ?_ (by first | omega | (simp; done) | (simp; omega)) _)))
  have bb : Below wa.heap.size wa wb := by rw [hwb]; exact (by repeat (first | exact Below.refl _ _ | assumption | (refine Below.trans ?_ (Below.mono (by assumption) (by first | omega | (simp; done) | (simp; omega)))) | (with_reducible refine Below.drew ?_) | (with_reducible refine Below.alloc ?_ (by first | omega | (simp; done) | (simp; omega)) _) | (with_reducible refine Below.setCell ?_ (by first | omega | (simp; done) | (simp; omega)) _)))
  have bc : Below wb.heap.size wb wc := by rw [hwc]; exact (by repeat (first | exact Below.refl _ _ | assumption | (refine Below.trans ?_ (Below.mono (by assumption) (by first | omega | (simp; done) | (simp; omega)))) | (with_reducible refine Below.drew ?_) | (with_reducible refine Below.alloc ?_ (by first | omega | (simp; done) | (simp; omega)) _) | (with_reducible refine Below.setCell ?_ (by first | omega | (simp; done) | (simp; omega)) _)))
  have ra : RdQ wa (w.heap.size ≤ ·) 1 (some ⟨w1.heap.size, 0, none⟩) 2 (strs [a, z]) := by rw [hwa]; exact rdQ_lit rfl rfl s1
  have rc : Rd wc 1 (some ⟨w1.heap.size + 1 + 1, 0, none⟩) 4 (([⟨#[122]⟩, ⟨#[115]⟩, ⟨#[116]⟩, ⟨#[116, 100]⟩] : List ByteArray).map Value.string) := by rw [hwc]; exact pickedS (w := wb) zb.symm
  have xb : wb.heap[w1.heap.size + 1]? = some (.cells #[.int .i64 1, .string ⟨#[99, 120]⟩, .slice (some ⟨w1.heap.size, 0, none⟩) 2 2, .int .i64 0, .slice none 0 0] 36 (0, 0)) := by rw [hwb, ← za]; exact boxed1_0 _ _
  have frc : Fr w p wc := ((FR1.out.below ba).below bb).below bc
  have rac := (ra.below bb).below bc
  have xc := (bc.block _ (by omega)).trans xb
  have RA := Lib.hid rac
  have XC := Lib.hid xc
  clear hwa hwb hwc ba bb bc ra rac xb xc
  refine (l1Pick_any _ 4 4 _ wc p frc.cur rfl (by omega) (by omega) rc (by omega)).mono ?_
  rintro e w2 ⟨y, hy, rfl, hc2, hg2⟩
  have hy9 : y.size ≤ 9 := by
    simp only [List.mem_cons, List.not_mem_nil, or_false] at hy
    rcases hy with rfl | rfl | rfl | rfl <;> decide
  have FR2 := Lib.hid (frc.call hc2 hg2)
  have RA2 := Lib.hid (RA.out.call hg2 (by omega))
  have XC2 := Lib.hid (box_call XC.out hg2 (by omega))
  have s2 := hg2.size
  clear frc hc2 hg2 rc hy RA XC
  go_upto_region 4 with (fail)
  obtain ⟨wd, hwd⟩ : ∃ wd, wd = w2.alloc (.cells #[.string z] 9) := ⟨_, rfl⟩
  rw [← hwd]
  obtain ⟨we, hwe⟩ : ∃ we, we = wd.alloc (.cells #[.int .i64 1, .string y, .slice (some ⟨w2.heap.size, 0, none⟩) 1 1, .int .i64 0, .slice none 0 0] 36) := ⟨_, rfl⟩
  rw [← hwe]
  have zd : wd.heap.size = w2.heap.size + 1 := by rw [hwd]; simp
  have bd : Below w2.heap.size w2 wd := by rw [hwd]; exact (by repeat (first | exact Below.refl _ _ | assumption | (refine Below.trans ?_ (Below.mono (by assumption) (by first | omega | (simp; done) | (simp; omega)))) | (with_reducible refine Below.drew ?_) | (with_reducible refine Below.alloc ?_ (by first | omega | (simp; done) | (simp; omega)) _) | (with_reducible refine Below.setCell ?_ (by first | omega | (simp; done) | (simp; omega)) _)))
  have rd : RdQ wd (w.heap.size ≤ ·) 1 (some ⟨w2.heap.size, 0, none⟩) 1 (strs [z]) := by rw [hwd]; exact rdQ_lit rfl rfl FR2.out.gr.size
  have ze : we.heap.size = w2.heap.size + 1 + 1 := by rw [hwe]; simp [zd]
  have be : Below wd.heap.size wd we := by rw [hwe]; exact (by repeat (first | exact Below.refl _ _ | assumption | (refine Below.trans ?_ (Below.mono (by assumption) (by first | omega | (simp; done) | (simp; omega)))) | (with_reducible refine Below.drew ?_) | (with_reducible refine Below.alloc ?_ (by first | omega | (simp; done) | (simp; omega)) _) | (with_reducible refine Below.setCell ?_ (by first | omega | (simp; done) | (simp; omega)) _)))
  have xe : we.heap[w2.heap.size + 1]? = some (.cells #[.int .i64 1, .string y, .slice (some ⟨w2.heap.size, 0, none⟩) 1 1, .int .i64 0, .slice none 0 0] 36 (0, 0)) := by rw [hwe, ← zd]; exact boxed1_0 _ _
  have xd := (be.block _ (by omega)).trans ((bd.block _ (by omega)).trans XC2.out)
  obtain ⟨q0, q1, q2, q3, q4⟩ := cells5G (lay := Below.refl _ _) xe
  obtain ⟨r0, r1, r2, r3, r4⟩ := cells5G (lay := Below.refl _ _) xd
  have HB := Lib.hid (And.intro rd (And.intro bd be))
  clear hwd hwe xe xd rd bd be
  go_wp2_with fail
  go_ret
  obtain ⟨rd, bd, be⟩ := HB.out
  have bf : Below we.heap.size we (we.alloc (.cells #[.int .i64 1, .string ⟨#[99, 120]⟩, .slice (some ⟨w1.heap.size, 0, none⟩) 2 2, .int .i64 0, .slice none 0 0, .int .i64 1, .string y, .slice (some ⟨w2.heap.size, 0, none⟩) 1 1, .int .i64 0, .slice none 0 0, .int .i64 1, .string ⟨#[99, 120]⟩, .slice (some ⟨w1.heap.size, 0, none⟩) 2 2, .int .i64 0, .slice none 0 0] 36)) := (by repeat (first | exact Below.refl _ _ | assumption | (refine Below.trans ?_ (Below.mono (by assumption) (by first | omega | (simp; done) | (simp; omega)))) | (with_reducible refine Below.drew ?_) | (with_reducible refine Below.alloc ?_ (by first | omega | (simp; done) | (simp; omega)) _) | (with_reducible refine Below.setCell ?_ (by first | omega | (simp; done) | (simp; omega)) _)))
  have rl := rdQ_lit (w := we) (base := w.heap.size) (cs := #[.int .i64 1, .string ⟨#[99, 120]⟩, .slice (some ⟨w1.heap.size, 0, none⟩) 2 2, .int .i64 0, .slice none 0 0, .int .i64 1, .string y, .slice (some ⟨w2.heap.size, 0, none⟩) 1 1, .int .i64 0, .slice none 0 0, .int .i64 1, .string ⟨#[99, 120]⟩, .slice (some ⟨w1.heap.size, 0, none⟩) 2 2, .int .i64 0, .slice none 0 0]) (e := 36) (n := 3) (size := 5) ze.symm rfl (by omega)
  have f1 := stQ_mk (d := 0) (h := ⟨1, ⟨#[99, 120]⟩, [a, z], 0⟩) (ca := 2) (cb := 0) (((RA2.out.below bd).below be).below bf) (trQ_nil (A := none) 0) (Nat.le_refl _)
  have f2 := stQ_mk (d := 0) (h := ⟨1, y, [z], 0⟩) (ca := 1) (cb := 0) ((rd.below be).below bf) (trQ_nil (A := none) 0) (Nat.le_refl _)
  have hf := ((ElQ.one f1).append (ElQ.one f2)).append (ElQ.one f1)
  have fr := ((FR2.out.below bd).below be).below bf
  refine ⟨_, 3, _, rfl, ElQ.tr hf rl rfl, ?_, fr.cur, fr.gr⟩
  rw [szT_append, szT_append, szT_one, szT_one, szE_mk, szE_mk]
  simp only [szT_nil, szS, List.length_cons, List.length_nil]
  have : (⟨#[99, 120]⟩ : ByteArray).size = 2 := rfl
  omega
end Go.Proofs.Ytbamjfbfipkioaa
