/- What the calls that this law reaches answer, part 7 of 20. -/
import Derived.Test.YtbamjfbfipkioaaDoorJFStmtTokens6
import Derived.Test.YtbamjfbfipkioaaDoorJFStmtTokens1
import Derived.Orders
namespace Go.Proofs.YtbamjfbfipkioaaDoor
open Go.RowKit
set_option linter.unusedVariables false
theorem rdQ_lit {w : World} {cs : Array Value} {e n size b base : Nat} (h0 : b = w.heap.size) (hs : cs.size = n * size) (hB : base ≤ b) : RdQ (w.alloc (.cells cs e)) (base ≤ ·) size (some ⟨b, 0, none⟩) n cs.toList := by
  have r := rd_lit1 (e := e) h0 hs
  refine ⟨r.1, fun h => ?_⟩
  obtain ⟨b', off, e, hb, hc⟩ := r.2 h
  injection e with e
  injection e with e1 e2
  subst e1 e2
  exact ⟨b, 0, rfl, hB, hb, hc⟩
/-- A statement of a head and a body, its cells given. -/
theorem stQ_mk {w : World} {Q : Nat → Prop} {d : Nat} {h : SH} {Aa Ab : Option Addr} {ca nb cb : Nat} {bd : List (Tr d)} (h1 : RdQ w Q 1 Aa h.args.length (strs h.args)) (h2 : TrQ w Q d Ab nb bd) (h3 : h.args.length ≤ ca) : StQ w Q d (scl h Aa ca Ab nb cb) (mkT h bd) :=
  ⟨Aa, ca, Ab, nb, cb, rfl, h1, h2, h3⟩
theorem szE_mk {d : Nat} (h : SH) (bd : List (Tr d)) : szE (mkT h bd) = h.word.size + (h.args.length + szS h.args + szT d bd) := rfl
theorem szT_nil (d : Nat) : szT d [] = 0 := by cases d <;> rfl
theorem sumE_append {d : Nat} (l m : List (Tr (d + 1))) : sumE (l ++ m) = sumE l + sumE m := by simp [sumE]
theorem sumE_one {d : Nat} (s : Tr (d + 1)) : sumE [s] = szE s := by simp [sumE]
theorem szT_append {d : Nat} (l m : List (Tr (d + 1))) : szT (d + 1) (l ++ m) = szT (d + 1) l + szT (d + 1) m := by rw [szT_succ, szT_succ, szT_succ, sumE_append, List.length_append]; omega
theorem szT_one {d : Nat} (s : Tr (d + 1)) : szT (d + 1) [s] = 1 + szE s := by rw [szT_succ, sumE_one]; rfl
def DFree (m : Nat) (w : World) (e : Ending) (w' : World) : Prop := ∃ (A : Option Addr) (n c : Nat) (F : List ByteArray), e = .returned (.slice A n c) ∧ F.length = n ∧ n ≤ m ∧ (∀ s ∈ F, s.size ≤ 9) ∧ RdQ w' (w.heap.size ≤ ·) 1 A n (strs F) ∧ Below w.heap.size w w' ∧ w.heap.size ≤ w'.heap.size
set_option maxRecDepth 100000 in
set_option maxHeartbeats 4000000 in
theorem l17Free_any (A A' : Option Addr) (m c m' c' : Nat) (N M : List ByteArray) (w : World) (hN : Rd w 1 A m (strs N)) (hl : N.length = m) (h9 : ∀ s ∈ N, s.size ≤ 9) (hm : m ≤ 4) (hM : Rd w 1 A' m' (strs M)) (hl' : M.length = m') (hm' : m' ≤ 4) :
    Calls Tryd.prog 75 #[.slice A m c, .slice A' m' c'] w (DFree m w) := by
  obtain ⟨i0, hi, hz0, hz1, hz2⟩ := info_parts info_str
  have HN := Lib.hid hN
  have HM := Lib.hid hM
  have HL := Lib.hid hl
  have HL' := Lib.hid hl'
  have H9 := Lib.hid h9
  clear hN hM hl hl' h9
  go_enter Tryd.func75, Tryd.ntmps75
  go_wp2_with fail
  obtain ⟨w0, hw0⟩ : ∃ w0, w0 = w.alloc (.cells #[] 9) := ⟨_, rfl⟩
  rw [← hw0]
  have own0 : w0.ownsRow w.heap.size 9 1 (.slice (some ⟨w.heap.size, 0, none⟩) 0 0) 0 [] := by rw [hw0]; exact own_empty w _ _
  have b0 : Below w.heap.size w w0 := by rw [hw0]; exact (by repeat (first | exact Below.refl _ _ | assumption | (refine Below.trans ?_ (Below.mono (by assumption) (by first | omega | (simp; done) | (simp; omega)))) | (with_reducible refine Below.drew ?_) | (with_reducible refine Below.alloc ?_ (by first | omega | (simp; done) | (simp; omega)) _) | (with_reducible refine Below.setCell ?_ (by first | omega | (simp; done) | (simp; omega)) _)))
  have OW := Lib.hid own0
  have B0 := Lib.hid b0
  clear own0 b0 hw0
  go_loopw [5, 6] (fun v i wr => ∃ (t : Nat) (F : List ByteArray), t ≤ m ∧ i = .int .i64 t ∧ F.length ≤ t ∧ Hid (∀ s ∈ F, s.size ≤ 9) ∧ Hid (wr.ownsRow w.heap.size 9 1 v F.length (strs F)) ∧ Hid (Below w.heap.size w wr)) (fun _ i _ => m - (intOf i).toNat)
  case atStart => exact ⟨0, [], Nat.zero_le _, rfl, Nat.zero_le _, (fun s hs => absurd hs (by simp) : ∀ s ∈ ([] : List ByteArray), s.size ≤ 9), OW.out, B0.out⟩
  case round =>
    obtain ⟨t, F, ht, rfl, hF, h9, hown, hb⟩ := hrel
    have hbs := hb.out.size
    by_cases hlt : t < m
    · obtain ⟨x, hx⟩ : ∃ x, N[t]? = some x := ⟨_, List.getElem?_eq_getElem (by rw [HL.out]; exact hlt)⟩
      obtain ⟨b, off, rfl, hbl, hc⟩ := (HN.out.below hb.out).2 (by omega)
      have q0 : wr.cell? ⟨b, off + t, none⟩ = some (.string x) := hc t _ (strs_at hx)
      have HX := Lib.hid (show ∀ s ∈ F ++ [x], s.size ≤ 9 from fun s hs => by
        rcases List.mem_append.1 hs with h | h
        · exact h9.out s h
        · rw [List.mem_singleton.1 h]; exact H9.out x (List.mem_of_getElem? hx))
      clear hc hx
      cases hh : hasS M x
      · have hown' := hown.out
        go_wp2_with (first | (go_at_call 40; refine (l1Has_any _ _ _ M x _ (HM.out.below hb.out) HL'.out (by omega)).mono ?_; rintro e w' ⟨rfl, rfl⟩; rw [hh]) | (at_builtin; refine wpList_append_rd _ rfl _ _ 24 rfl w.heap.size 9 i0 _ 1 16 Tryd.underlying24 hi hz0 hz1 hz2 rfl (by decide) _ _ _ rfl (hown'.alloc _) _ 1 1 _ rfl (rd_lit1 ?c0 rfl) ?c2 ?c3 ?c4 ?c5 ?_))
        case c0 => first | rfl | simp
        case c2 => repeat' (first | rfl | apply And.intro)
        case c3 => simp only [maxLen]; omega
        case c4 => omega
        case c5 => first | omega | (simp; omega)
        intro v6 w6 own6 gr6 _
        have hb6 := Lib.hid ((hb.out.alloc hbs _).grown gr6 (by first | omega | (simp; done) | (simp; omega)) (own_ge hown'))
        have O6 := Lib.hid own6
        clear gr6 own6 hown'
        go_wp2_with fail
        go_roundw
        case rel => exact ⟨t + 1, F ++ [x], by omega, by go_num, by rw [List.length_append]; exact Nat.succ_le_succ hF, HX, by rw [List.length_append, strs_snocG]; exact O6.out, hb6⟩
        case measure => simp [intOf]; omega
      · go_wp2_with (go_at_call 40; refine (l1Has_any _ _ _ M x _ (HM.out.below hb.out) HL'.out (by omega)).mono ?_; rintro e w' ⟨rfl, rfl⟩; rw [hh])
        go_roundw
        case rel => exact ⟨t + 1, F, by omega, by go_num, by omega, h9, hown, hb⟩
        case measure => simp [intOf]; omega
    · obtain ⟨B, d, rfl, _, _, _⟩ := rd_of_own hown.out
      go_wp2_with fail
      go_ret
      exact ⟨B, _, d, F, rfl, rfl, by omega, h9.out, rdQ_of_own hown.out, hb.out, hbs⟩
/-- Three statements, drawn. -/
def DCl (w : World) (p : Nat) (e : Ending) (w' : World) : Prop := ∃ (A : Option Addr) (c : Nat) (l : List (Tr 1)), e = .returned (.slice A 3 c) ∧ TrQ w' (w.heap.size ≤ ·) 1 A 3 l ∧ szT 1 l ≤ 100 ∧ CurAt w' p ∧ w.grownBy w' (some p)
set_option maxRecDepth 100000 in
set_option maxHeartbeats 4000000 in
theorem l17Clean_any (A : Option Addr) (m c : Nat) (N : List ByteArray) (z : ByteArray) (w : World) (p : Nat) (hcur : CurAt w p) (hN : Names w p A m N) (hz : z.size ≤ 9) : Calls Tryd.prog 76 #[.pointer (some ⟨p, 0, none⟩), .slice A m c, .string z] w (DCl w p) := by
  have hp := hcur.lt
  have h1 := hN.lo
  have h4 := hN.hi
  have HN := Lib.hid hN
  clear hN
  go_enter Tryd.func76, Tryd.ntmps76
  go_wp2_with fail
  refine (l1Below_any m (m - 1) w p hcur (by omega) (by omega) (by omega)).mono ?_
  rintro e w1 ⟨j, hj0, hj1, rfl, hc1, hg1⟩
  obtain ⟨j, rfl⟩ : ∃ j' : Nat, j = j' := ⟨j.toNat, by omega⟩
  have FR1 := Lib.hid ((Fr.start hcur).call hc1 hg1)
  obtain ⟨b, off, a, rfl, hbl, q0, _, ha9⟩ := (HN.out.call hg1).at_ (t := j) (by omega)
  clear hc1 hg1
  have s1 := FR1.out.gr.size
  have hp1 : p < w1.heap.size := FR1.out.cur.lt
  go_wp2_with fail
  obtain ⟨wa, hwa⟩ : ∃ wa, wa = w1.alloc (.cells #[.string a, .string z] 9) := ⟨_, rfl⟩
  rw [← hwa]
  obtain ⟨wb, hwb⟩ : ∃ wb, wb = wa.alloc (.cells #[.int .i64 1, .string ⟨#[99, 120]⟩, .slice (some ⟨w1.heap.size, 0, none⟩) 2 2, .int .i64 0, .slice none 0 0] 27) := ⟨_, rfl⟩
  rw [← hwb]
  obtain ⟨wc, hwc⟩ : ∃ wc, wc = wb.alloc (.cells #[.string ⟨#[122]⟩, .string ⟨#[115]⟩, .string ⟨#[116]⟩, .string ⟨#[116, 100]⟩] 9) := ⟨_, rfl⟩
  rw [← hwc]
  have za : wa.heap.size = w1.heap.size + 1 := by rw [hwa]; simp
  have zb : wb.heap.size = w1.heap.size + 1 + 1 := by rw [hwb]; simp [za]
  have zc : wc.heap.size = w1.heap.size + 1 + 1 + 1 := by rw [hwc]; simp [zb]
  have ba : Below w1.heap.size w1 wa := by rw [hwa]; exact (by repeat (first | exact Below.refl _ _ | assumption | (refine Below.trans ?_ (Below.mono (by assumption) (by first | omega | (simp; done) | (simp; omega)))) | (with_reducible refine Below.drew ?_) | (with_reducible refine Below.alloc ?_ (by first | omega | (simp; done) | (simp; omega)) _) | (with_reducible refine Below.setCell ?_ (by first | omega | (simp; done) | (simp; omega)) _)))
  have bb : Below wa.heap.size wa wb := by rw [hwb]; exact (by repeat (first | exact Below.refl _ _ | assumption | (refine Below.trans ?_ (Below.mono (by assumption) (by first | omega | (simp; done) | (simp; omega)))) | (with_reducible refine Below.drew ?_) | (with_reducible refine Below.alloc ?_ (by first | omega | (simp; done) | (simp; omega)) _) | (with_reducible refine Below.setCell ?_ (by first | omega | (simp; done) | (simp; omega)) _)))
  have bc : Below wb.heap.size wb wc := by rw [hwc]; exact (by repeat (first | exact Below.refl _ _ | assumption | (refine Below.trans ?_ (Below.mono (by assumption) (by first | omega | (simp; done) | (simp; omega)))) | (with_reducible refine Below.drew ?_) | (with_reducible refine Below.alloc ?_ (by first | omega | (simp; done) | (simp; omega)) _) | (with_reducible refine Below.setCell ?_ (by first | omega | (simp; done) | (simp; omega)) _)))
  have ra : RdQ wa (w.heap.size ≤ ·) 1 (some ⟨w1.heap.size, 0, none⟩) 2 (strs [a, z]) := by rw [hwa]; exact rdQ_lit rfl rfl s1
  have rc : Rd wc 1 (some ⟨w1.heap.size + 1 + 1, 0, none⟩) 4 (([⟨#[122]⟩, ⟨#[115]⟩, ⟨#[116]⟩, ⟨#[116, 100]⟩] : List ByteArray).map Value.string) := by rw [hwc]; exact pickedS (w := wb) zb.symm
  have xb : wb.heap[w1.heap.size + 1]? = some (.cells #[.int .i64 1, .string ⟨#[99, 120]⟩, .slice (some ⟨w1.heap.size, 0, none⟩) 2 2, .int .i64 0, .slice none 0 0] 27 (0, 0)) := by rw [hwb, ← za]; exact boxed1_0 _ _
  have frc : Fr w p wc := ((FR1.out.below ba).below bb).below bc
  have rac := (ra.below bb).below bc
  have xc := (bc.block _ (by omega)).trans xb
  have RA := Lib.hid rac
  have XC := Lib.hid xc
  clear hwa hwb hwc ba bb bc ra rac xb xc
  refine (l1Pick_any _ 4 4 _ wc p frc.cur rfl (by omega) (by omega) rc (by omega)).mono ?_
  rintro e w2 ⟨y, hy, rfl, hc2, hg2⟩
  have hy9 : y.size ≤ 9 := by
    simp only [List.mem_cons, List.not_mem_nil, or_false] at hy
    rcases hy with rfl | rfl | rfl | rfl <;> decide
  have FR2 := Lib.hid (frc.call hc2 hg2)
  have RA2 := Lib.hid (RA.out.call hg2 (by omega))
  have XC2 := Lib.hid (box_call XC.out hg2 (by omega))
  have s2 := hg2.size
  clear frc hc2 hg2 rc hy RA XC
  go_upto_region 4 with (fail)
  obtain ⟨wd, hwd⟩ : ∃ wd, wd = w2.alloc (.cells #[.string z] 9) := ⟨_, rfl⟩
  rw [← hwd]
  obtain ⟨we, hwe⟩ : ∃ we, we = wd.alloc (.cells #[.int .i64 1, .string y, .slice (some ⟨w2.heap.size, 0, none⟩) 1 1, .int .i64 0, .slice none 0 0] 27) := ⟨_, rfl⟩
  rw [← hwe]
  have zd : wd.heap.size = w2.heap.size + 1 := by rw [hwd]; simp
  have bd : Below w2.heap.size w2 wd := by rw [hwd]; exact (by repeat (first | exact Below.refl _ _ | assumption | (refine Below.trans ?_ (Below.mono (by assumption) (by first | omega | (simp; done) | (simp; omega)))) | (with_reducible refine Below.drew ?_) | (with_reducible refine Below.alloc ?_ (by first | omega | (simp; done) | (simp; omega)) _) | (with_reducible refine Below.setCell ?_ (by first | omega | (simp; done) | (simp; omega)) _)))
  have rd : RdQ wd (w.heap.size ≤ ·) 1 (some ⟨w2.heap.size, 0, none⟩) 1 (strs [z]) := by rw [hwd]; exact rdQ_lit rfl rfl FR2.out.gr.size
  have ze : we.heap.size = w2.heap.size + 1 + 1 := by rw [hwe]; simp [zd]
  have be : Below wd.heap.size wd we := by rw [hwe]; exact (by repeat (first | exact Below.refl _ _ | assumption | (refine Below.trans ?_ (Below.mono (by assumption) (by first | omega | (simp; done) | (simp; omega)))) | (with_reducible refine Below.drew ?_) | (with_reducible refine Below.alloc ?_ (by first | omega | (simp; done) | (simp; omega)) _) | (with_reducible refine Below.setCell ?_ (by first | omega | (simp; done) | (simp; omega)) _)))
  have xe : we.heap[w2.heap.size + 1]? = some (.cells #[.int .i64 1, .string y, .slice (some ⟨w2.heap.size, 0, none⟩) 1 1, .int .i64 0, .slice none 0 0] 27 (0, 0)) := by rw [hwe, ← zd]; exact boxed1_0 _ _
  have xd := (be.block _ (by omega)).trans ((bd.block _ (by omega)).trans XC2.out)
  obtain ⟨q0, q1, q2, q3, q4⟩ := cells5G (lay := Below.refl _ _) xe
  obtain ⟨r0, r1, r2, r3, r4⟩ := cells5G (lay := Below.refl _ _) xd
  have HB := Lib.hid (And.intro rd (And.intro bd be))
  clear hwd hwe xe xd rd bd be
  go_wp2_with fail
  go_ret
  obtain ⟨rd, bd, be⟩ := HB.out
  have bf : Below we.heap.size we (we.alloc (.cells #[.int .i64 1, .string ⟨#[99, 120]⟩, .slice (some ⟨w1.heap.size, 0, none⟩) 2 2, .int .i64 0, .slice none 0 0, .int .i64 1, .string y, .slice (some ⟨w2.heap.size, 0, none⟩) 1 1, .int .i64 0, .slice none 0 0, .int .i64 1, .string ⟨#[99, 120]⟩, .slice (some ⟨w1.heap.size, 0, none⟩) 2 2, .int .i64 0, .slice none 0 0] 27)) := (by repeat (first | exact Below.refl _ _ | assumption | (refine Below.trans ?_ (Below.mono (by assumption) (by first | omega | (simp; done) | (simp; omega)))) | (with_reducible refine Below.drew ?_) | (with_reducible refine Below.alloc ?_ (by first | omega | (simp; done) | (simp; omega)) _) | (with_reducible refine Below.setCell ?_ (by first | omega | (simp; done) | (simp; omega)) _)))
  have rl := rdQ_lit (w := we) (base := w.heap.size) (cs := #[.int .i64 1, .string ⟨#[99, 120]⟩, .slice (some ⟨w1.heap.size, 0, none⟩) 2 2, .int .i64 0, .slice none 0 0, .int .i64 1, .string y, .slice (some ⟨w2.heap.size, 0, none⟩) 1 1, .int .i64 0, .slice none 0 0, .int .i64 1, .string ⟨#[99, 120]⟩, .slice (some ⟨w1.heap.size, 0, none⟩) 2 2, .int .i64 0, .slice none 0 0]) (e := 27) (n := 3) (size := 5) ze.symm rfl (by omega)
  have f1 := stQ_mk (d := 0) (h := ⟨1, ⟨#[99, 120]⟩, [a, z], 0⟩) (ca := 2) (cb := 0) (((RA2.out.below bd).below be).below bf) (trQ_nil (A := none) 0) (Nat.le_refl _)
  have f2 := stQ_mk (d := 0) (h := ⟨1, y, [z], 0⟩) (ca := 1) (cb := 0) ((rd.below be).below bf) (trQ_nil (A := none) 0) (Nat.le_refl _)
  have hf := ((ElQ.one f1).append (ElQ.one f2)).append (ElQ.one f1)
  have fr := ((FR2.out.below bd).below be).below bf
  refine ⟨_, 3, _, rfl, ElQ.tr hf rl rfl, ?_, fr.cur, fr.gr⟩
  rw [szT_append, szT_append, szT_one, szT_one, szE_mk, szE_mk]
  simp only [szT_nil, szS, List.length_cons, List.length_nil]
  have : (⟨#[99, 120]⟩ : ByteArray).size = 2 := rfl
  omega
end Go.Proofs.YtbamjfbfipkioaaDoor
namespace Go.Proofs.YtbamjfbfipkioaaDoor
open Go.RowKit
set_option linter.unusedVariables false
section
variable {P : Program} {ops : Array Oper} {Q : Exit → Act → World → Prop} {md : Region.Mode}
theorem count_set {l : List Bool} : ∀ {i : Nat}, l[i]? = some false → (l.set i true).count false + 1 = l.count false := by
  induction l with
  | nil => intro i h; simp at h
  | cons x l ih =>
    intro i h
    cases i with
    | zero =>
      simp only [List.getElem?_cons_zero, Option.some.injEq] at h
      subst h
      simp
    | succ i =>
      simp only [List.getElem?_cons_succ] at h
      have := ih h
      simp only [List.set_cons_succ, List.count_cons]
      omega
/-- Whatever has come up, what it waits for has come up before. -/
def ClosedL (md : Region.Mode) (ops : Array Oper) (listed : Array Bool) : Prop := ∀ i o, ops[i]? = some o → listed.getD i false = true → ∀ e ∈ o.after, Region.binds md e = true → listed.getD e.on false = true
theorem closed_set {listed : Array Bool} {i : Nat} (hc : ClosedL md ops listed) (hi : i ∈ Region.ready md ops listed) : ClosedL md ops (listed.setIfInBounds i true) := by
  have mono : ∀ k, listed.getD k false = true → (listed.setIfInBounds i true).getD k false = true := fun k h => by
    by_cases hne : i = k
    · subst hne
      have hj : i < listed.size := by
        rcases Nat.lt_or_ge i listed.size with h' | h'
        · exact h'
        · simp [Array.getElem?_eq_none h'] at h
      simp [hj]
    · rwa [getD_set_ne false hne]
  intro j o ho hj e he hb
  by_cases hne : i = j
  · subst hne
    obtain ⟨_, o', ho', h⟩ := mem_ready.1 hi
    rw [ho] at ho'
    injection ho' with ho'
    subst ho'
    exact mono _ (h e he hb)
  · rw [getD_set_ne false hne] at hj
    exact mono _ (hc j o ho hj e he hb)
theorem wpAny_inv {J : Array Bool → Act → World → Prop}
    (hs : ∀ listed a w, listed.size = ops.size → ClosedL md ops listed → J listed a w → ∀ i ∈ Region.ready md ops listed, wpOp P ops Q i (fun a' w' => J (listed.setIfInBounds i true) a' w') a w)
    (he : ∀ listed a w, listed.size = ops.size → J listed a w → Region.ready md ops listed = [] → Q .normal a w) :
    ∀ (fuel : Nat) (listed : Array Bool) (a : Act) (w : World), listed.toList.count false ≤ fuel → listed.size = ops.size → ClosedL md ops listed → J listed a w → wpAny P md ops Q fuel listed a w := by
  intro fuel
  induction fuel with
  | zero =>
    intro listed a w hc hz hcl hJ
    have hr : Region.ready md ops listed = [] := by
      rw [List.eq_nil_iff_forall_not_mem]
      intro j hj
      have h1 := (mem_ready.1 hj).1
      have hj2 : j < listed.size := by
        rcases Nat.lt_or_ge j listed.size with h | h
        · exact h
        · simp [Array.getElem?_eq_none h] at h1
      have h0 : listed.toList[j]? = some false := by
        simp [hj2] at h1
        simp [hj2, h1]
      have := count_set h0
      omega
    exact ⟨hr, he listed a w hz hJ hr⟩
  | succ fuel ih =>
    intro listed a w hc hz hcl hJ
    refine ⟨he listed a w hz hJ, fun i hi => wpOp_mono (fun a' w' h => ih _ a' w' ?_ (by simpa using hz) (closed_set hcl hi) h) (hs listed a w hz hcl hJ i hi)⟩
    have h1 := (mem_ready.1 hi).1
    have hj2 : i < listed.size := by
      rcases Nat.lt_or_ge i listed.size with h | h
      · exact h
      · simp [Array.getElem?_eq_none h] at h1
    have h0 : listed.toList[i]? = some false := by
      simp [hj2] at h1
      simp [hj2, h1]
    have := count_set h0
    rw [Array.toList_setIfInBounds]
    omega
theorem rep_false (n i : Nat) : (Array.replicate n false).getD i false = false := by by_cases h : i < n <;> simp [h]
theorem wp_region_inv {id : Nat} {a : Act} {w : World} (hm : P.follows .mixedOrders = true) (J : Array Bool → Act → World → Prop) (h0 : J (Array.replicate ops.size false) a w.drew)
    (hs : ∀ listed a w, listed.size = ops.size → ClosedL .any ops listed → J listed a w → ∀ i ∈ Region.ready .any ops listed, wpOp P ops Q i (fun a' w' => J (listed.setIfInBounds i true) a' w') a w)
    (he : ∀ listed a w, listed.size = ops.size → J listed a w → Region.ready .any ops listed = [] → Q .normal a w) : (Code.region id ops true).wp P Q a w :=
  wp_region_any hm (wpAny_inv hs he _ _ _ _ (by simp) (by simp) (fun i o _ h => absurd h (by rw [rep_false]; decide)) h0)
/-- As 'wp_region_inv'; the invariant may name the temporaries that the region begins with. -/
theorem wp_region_inv2 {id : Nat} {a : Act} {w : World} (hm : P.follows .mixedOrders = true) (J : Array Value → Array Bool → Act → World → Prop) (h0 : ∀ A0 : Array Value, J A0 (Array.replicate ops.size false) ⟨A0, a.defers⟩ w.drew)
    (hs : ∀ listed a' w, listed.size = ops.size → ClosedL .any ops listed → J a.tmps listed a' w → ∀ i ∈ Region.ready .any ops listed, wpOp P ops Q i (fun b w' => J a.tmps (listed.setIfInBounds i true) b w') a' w)
    (he : ∀ listed a' w, listed.size = ops.size → J a.tmps listed a' w → Region.ready .any ops listed = [] → Q .normal a' w) : (Code.region id ops true).wp P Q a w :=
  wp_region_inv hm (J a.tmps) (h0 a.tmps) hs he
theorem set_self (A : Array Value) (k : Nat) (u : Value) : A.setIfInBounds k (A.getD k u) = A := by
  apply Array.ext'
  rw [Array.toList_setIfInBounds]
  by_cases h : k < A.size
  · have e : A.getD k u = A[k] := by simp [h]
    rw [e]
    exact @List.set_getElem_self _ A.toList k (by simpa using h)
  · rw [List.set_eq_of_length_le (by simpa using h)]
theorem upon_then {o : Oper} {a : Act} {K : Act → World → Prop} {r : Result Next} (h : o.upon P a K (Exit.then K Q) r) : o.upon P a K Q r := by
  cases r with
  | ok n w' => cases n <;> first | exact h | exact Calls.mono h (fun e w'' he => by cases e <;> exact he)
  | halt x w' => cases x <;> exact h
/-- One operation, walked as a list of one. -/
theorem wpOp_one {i : Nat} {o : Oper} {a : Act} {w : World} {K : Act → World → Prop} (ho : ops[i]? = some o) (hg : o.guard = none) (h : ∀ K' : Act → World → Prop, (∀ a w, K a w → K' a w) → wpList P #[] (Exit.then K' Q) [o] a w) : wpOp P ops Q i K a w := by
  have hw : ∀ (os : Array Oper), Region.wanted o (yielded os a.tmps) = true := fun os => by simp [Region.wanted, hg]
  have h1 := h K (fun _ _ h => h)
  unfold wpOp
  simp only [ho, hw, if_true]
  unfold wpList at h1
  simp only [hw, if_true] at h1
  rcases h1 with h1 | ⟨h1, h2⟩
  · exact .inl (upon_then h1)
  · exact .inr ⟨h1, h2⟩
/-- Operation i has come up. -/
def Ls (l : Array Bool) (i : Nat) : Prop := l.getD i false = true
theorem Ls.none {n i : Nat} {C : Prop} (h : Ls (Array.replicate n false) i) : C := absurd h (by unfold Ls; rw [rep_false]; decide)
theorem Ls.back {l : Array Bool} {i j : Nat} (h : Ls (l.setIfInBounds i true) j) (hne : i ≠ j) : Ls l j := by
  unfold Ls at h ⊢
  rwa [getD_set_ne false hne] at h
theorem Ls.fwd {l : Array Bool} {i j : Nat} (h : Ls l j) : Ls (l.setIfInBounds i true) j := by
  unfold Ls at h ⊢
  by_cases hne : i = j
  · subst hne
    have hj : i < l.size := by
      rcases Nat.lt_or_ge i l.size with h' | h'
      · exact h'
      · simp [Array.getElem?_eq_none h'] at h
    simp [hj]
  · rwa [getD_set_ne false hne]
theorem ready_dep {listed : Array Bool} {i : Nat} {o : Oper} (hi : i ∈ Region.ready md ops listed) (ho : ops[i]? = some o) (k : Nat) (hk : (o.after.any fun e => e.on == k && Region.binds md e) = true) : Ls listed k := by
  obtain ⟨_, o', ho', h⟩ := mem_ready.1 hi
  rw [ho] at ho'
  injection ho' with ho'
  subst ho'
  rw [Array.any_eq_true'] at hk
  obtain ⟨e, he, h1⟩ := hk
  rw [Bool.and_eq_true, beq_iff_eq] at h1
  have := h e he h1.2
  rw [h1.1] at this
  exact this
theorem ClosedL.dep {listed : Array Bool} {i : Nat} {o : Oper} (hc : ClosedL md ops listed) (h : Ls listed i) (ho : ops[i]? = some o) (k : Nat) (hk : (o.after.any fun e => e.on == k && Region.binds md e) = true) : Ls listed k := by
  rw [Array.any_eq_true'] at hk
  obtain ⟨e, he, h1⟩ := hk
  rw [Bool.and_eq_true, beq_iff_eq] at h1
  have := hc i o ho h e he h1.2
  rw [h1.1] at this
  exact this
/-- Operation i waits for operation k. -/
def waits (md : Region.Mode) (ops : Array Oper) (i k : Nat) : Bool := match ops[i]? with
  | some o => o.after.any fun e => e.on == k && Region.binds md e
  | none => false
theorem ready_dep2 {listed : Array Bool} {i : Nat} (hi : i ∈ Region.ready md ops listed) (k : Nat) (hk : waits md ops i k = true) : Ls listed k := by
  obtain ⟨_, o, ho, _⟩ := mem_ready.1 hi
  unfold waits at hk
  rw [ho] at hk
  exact ready_dep hi ho k hk
theorem ClosedL.dep2 {listed : Array Bool} {i : Nat} (hc : ClosedL md ops listed) (h : Ls listed i) (k : Nat) (hk : waits md ops i k = true) : Ls listed k := by
  unfold waits at hk
  cases ho : ops[i]? with
  | none => rw [ho] at hk; cases hk
  | some o => rw [ho] at hk; exact hc.dep h ho k hk
theorem ready_now {listed : Array Bool} {i : Nat} (hi : i ∈ Region.ready md ops listed) (hz : listed.size = ops.size) : Ls (listed.setIfInBounds i true) i := by
  obtain ⟨_, o, ho, _⟩ := mem_ready.1 hi
  have hl := (Array.getElem?_eq_some_iff.1 ho).1
  unfold Ls
  simp [hz, hl]
theorem ready_not {listed : Array Bool} {i : Nat} (hi : i ∈ Region.ready md ops listed) : ¬ Ls listed i := by
  intro h
  have h1 := (mem_ready.1 hi).1
  unfold Ls at h
  have hj : i < listed.size := by
    rcases Nat.lt_or_ge i listed.size with h' | h'
    · exact h'
    · simp [Array.getElem?_eq_none h'] at h
  simp [hj] at h h1
  rw [h] at h1
  cases h1
theorem ready_lt {listed : Array Bool} {i : Nat} (hi : i ∈ Region.ready md ops listed) : i < ops.size := by
  obtain ⟨_, o, ho, _⟩ := mem_ready.1 hi
  exact (Array.getElem?_eq_some_iff.1 ho).1
/-- Where nothing may come up, all has come up. -/
theorem all_listed {listed : Array Bool} (hz : listed.size = ops.size) (hac : (ops.toList.zipIdx.all fun x => x.1.after.all fun e => decide (e.on < x.2)) = true) (hr : Region.ready md ops listed = []) : ∀ i, i < ops.size → Ls listed i := by
  intro i
  induction i using Nat.strongRecOn with
  | ind i ih =>
    intro hi
    apply Classical.byContradiction
    intro hn
    have ho : ops[i]? = some ops[i] := Array.getElem?_eq_getElem hi
    have hmem : i ∈ Region.ready md ops listed := mem_ready.2 ⟨by
      unfold Ls at hn
      have hj : i < listed.size := by rw [hz]; exact hi
      simp [hj] at hn ⊢
      exact hn, ops[i], ho, fun e he _ => by
      have h1 := List.all_eq_true.1 hac (ops[i], i) (by
        rw [List.mk_mem_zipIdx_iff_getElem?]
        simp)
      have h2 := Array.all_eq_true'.1 h1 e he
      have h3 : e.on < i := by simpa using h2
      exact ih e.on h3 (by omega)⟩
    rw [hr] at hmem
    simp at hmem
end
end Go.Proofs.YtbamjfbfipkioaaDoor
namespace Go.Proofs.YtbamjfbfipkioaaDoor
open Go.RowKit
set_option linter.unusedVariables false
def bE (d : Nat) : Nat := 100 * 5 ^ d
theorem bE_succ (d : Nat) : bE (d + 1) = 5 * bE d := by unfold bE; rw [Nat.pow_succ]; omega
theorem bE_pos (d : Nat) : 100 ≤ bE d := by
  have := Nat.pow_pos (n := d) (show 0 < 5 by omega)
  unfold bE
  omega
theorem sumE_bound {d : Nat} (E : Nat) : ∀ l : List (Tr (d + 1)), (∀ s ∈ l, szE s ≤ E) → sumE l ≤ l.length * E := by
  intro l
  induction l with
  | nil => intro _; exact Nat.zero_le _
  | cons s l ih =>
    intro h
    have h1 := h s (by simp)
    have h2 := ih (fun x hx => h x (by simp [hx]))
    have : sumE (s :: l) = szE s + sumE l := by simp [sumE]
    rw [this, List.length_cons, Nat.add_mul, Nat.one_mul]
    omega
/-- Drawn statements: at most three, none too great. -/
def Few (d : Nat) (l : List (Tr (d + 1))) : Prop := l.length ≤ 3 ∧ ∀ s ∈ l, szE s ≤ bE d
theorem few_sz {d : Nat} {l : List (Tr (d + 1))} (h : Few d l) : szT (d + 1) l ≤ 3 + 3 * bE d := by
  have h1 := sumE_bound (bE d) l h.2
  have h2 := Nat.mul_le_mul_right (bE d) h.1
  have h3 := h.1
  rw [szT_succ]
  omega
theorem few_snoc {d n : Nat} {l : List (Tr (d + 1))} {s : Tr (d + 1)} (hl : l.length ≤ n) (h : ∀ s ∈ l, szE s ≤ bE d) (hs : szE s ≤ bE d) : (l ++ [s]).length ≤ n + 1 ∧ ∀ y ∈ l ++ [s], szE y ≤ bE d := by
  refine ⟨by rw [List.length_append]; exact Nat.succ_le_succ hl, fun x hx => ?_⟩
  rcases List.mem_append.1 hx with hx | hx
  · exact h x hx
  · obtain rfl := List.mem_singleton.1 hx
    exact hs
def DBd (d : Nat) (w : World) (p : Nat) (e : Ending) (w' : World) : Prop := ∃ (v : Value) (l : List (Tr (d + 1))), e = .returned v ∧ OwnT w' w.heap.size d v l ∧ Few d l ∧ CurAt w' p ∧ w.grownBy w' (some p)
/-- The row, open for one more statement whose names and body are new. -/
theorem OwnT.add {w : World} {base R d : Nat} {v : Value} {l : List (Tr (d + 1))} {cs : List Value} {s : Tr (d + 1)} (h : OwnT w base d v l) (hv : ∀ k, v.ownBlock = some k → k < R) (hB : base ≤ R) (hs : StQ w (R ≤ ·) d cs s) :
    ∃ xs, w.ownsRow base 27 5 v l.length xs ∧ ∀ (wa w6 : World) (v6 : Value), w6.ownsRow base 27 5 v6 (l.length + 1) (xs ++ cs) → Below w.heap.size w wa → wa.grownBy w6 v.ownBlock → (v6.ownBlock = v.ownBlock ∨ v6.ownBlock = some wa.heap.size) → OwnT w6 base d v6 (l ++ [s]) := by
  obtain ⟨xs, ho, he⟩ := h
  refine ⟨xs, ho, fun wa w6 v6 h6 hba hg hat => OwnT.push (m := [s]) he (ElQ.one (hs.mono fun b _ hb => ⟨Nat.le_trans hB hb, fun e => ?_⟩)) h6 hba hg hat⟩
  have := hv b e.symm
  omega
theorem OwnT.lt {w : World} {base d : Nat} {v : Value} {l : List (Tr (d + 1))} (h : OwnT w base d v l) : ∀ k, v.ownBlock = some k → k < w.heap.size := fun k hk => by
  obtain ⟨xs, ho, _⟩ := h
  exact (ho.lt k hk).2
theorem OwnT.ge {w : World} {base d : Nat} {v : Value} {l : List (Tr (d + 1))} (h : OwnT w base d v l) : ∀ k, v.ownBlock = some k → base ≤ k := fun k hk => by
  obtain ⟨xs, ho, _⟩ := h
  exact (ho.lt k hk).1
theorem stQ_low {w : World} {R R' d : Nat} {cs : List Value} {s : Tr (d + 1)} (h : StQ w (R ≤ ·) d cs s) (hr : R' ≤ R) : StQ w (R' ≤ ·) d cs s := h.mono (fun b _ hb => Nat.le_trans hr hb)
theorem rdQ_topH {w : World} {cs : Array Value} {e n size b : Nat} {P : Nat → Prop} {xs : List Value} (h0 : b = w.heap.size) (hs : cs.size = n * size) (hP : P b) (hx : cs.toList = xs) : RdQ (w.alloc (.cells cs e)) P size (some ⟨b, 0, none⟩) n xs := by
  subst hx
  exact rdQ_topG h0 hs hP
theorem pack19 {g : Value} {wz w w1 w3 : World} {p bg ba : Nat} {y s0 : ByteArray} (hs : g = .pointer (some ⟨bg, 0, none⟩)) (hy : y.size ≤ 9) (hh : wz.heap[bg]? = some (.cells #[.int .i64 1, .string y, .slice (some ⟨ba, 0, none⟩) 1 1, .int .i64 0, .slice none 0 0] 27 (0, 0))) (hb : w1.heap.size ≤ ba) (hr : RdQ wz (· = ba) 1 (some ⟨ba, 0, none⟩) 1 (strs [s0])) (h1 : Fr w p wz) (h2 : Fr w3 p wz) :
    ∃ (bg ba : Nat) (y : ByteArray), g = .pointer (some ⟨bg, 0, none⟩) ∧ y.size ≤ 9 ∧ w1.heap.size ≤ ba ∧ wz.heap[bg]? = some (.cells #[.int .i64 1, .string y, .slice (some ⟨ba, 0, none⟩) 1 1, .int .i64 0, .slice none 0 0] 27 (0, 0)) ∧ RdQ wz (· = ba) 1 (some ⟨ba, 0, none⟩) 1 (strs [s0]) ∧ Fr w p wz ∧ Fr w3 p wz :=
  ⟨bg, ba, y, hs, hy, hb, hh, hr, h1, h2⟩
theorem few5 : ∀ y ∈ ([⟨#[120]⟩, ⟨#[122]⟩, ⟨#[115]⟩, ⟨#[121]⟩, ⟨#[104]⟩] : List ByteArray), y.size ≤ 9 := by
  intro y hy
  simp only [List.mem_cons, List.not_mem_nil, or_false] at hy
  rcases hy with rfl | rfl | rfl | rfl | rfl <;> decide
theorem few3 : ∀ y ∈ ([⟨#[114]⟩, ⟨#[115, 49]⟩, ⟨#[114]⟩] : List ByteArray), y.size ≤ 9 := by
  intro y hy
  simp only [List.mem_cons, List.not_mem_nil, or_false] at hy
  rcases hy with rfl | rfl | rfl <;> decide
theorem TrQ.upTo {w : World} {P : Nat → Prop} {A : Option Addr} {n : Nat} {l : List (Tr 1)} (h : TrQ w P 1 A n l) : ∀ d : Nat, ∃ l' : List (Tr (d + 1)), TrQ w P (d + 1) A n l' ∧ szT (d + 1) l' = szT 1 l := by
  intro d
  induction d with
  | zero => exact ⟨l, h, rfl⟩
  | succ d ih =>
    obtain ⟨l', h1, h2⟩ := ih
    exact ⟨l'.map (upT (d + 1)), h1.up, (szT_up (d + 1) l').trans h2⟩
theorem fr_heap0 {w W : World} {p b : Nat} {ob : Obj} (h : Fr w p W) (hne : b ≠ p) (hc : w.heap[b]? = some ob) : W.heap[b]? = some ob := box_call hc h.gr hne
theorem fr_cell {w W : World} {p b o : Nat} {u : Value} (h : Fr w p W) (hb : b < w.heap.size) (hne : b ≠ p) (hc : w.cell? ⟨b, o, none⟩ = some u) : W.cell? ⟨b, o, none⟩ = some u := by
  rw [← hc]
  have := h.gr.block b hb (fun e => hne (by injection e))
  simp [World.cell?, this]
theorem Fr.drew {w w1 : World} {p : Nat} (h : Fr w p w1) : Fr w p w1.drew := ⟨h.cur, h.gr.os, h.gr.tape, h.gr.output, h.gr.size, h.gr.block⟩
theorem fr_rdQ {w W : World} {P : Nat → Prop} {p size n : Nat} {A : Option Addr} {xs : List Value} (h : RdQ w P size A n xs) (hf : Fr w p W) (hp : ¬ P p) : RdQ W P size A n xs := h.call hf.gr hp
theorem fr_own {w W : World} {base d p : Nat} {v : Value} {l : List (Tr (d + 1))} (h : OwnT w base d v l) (hf : Fr w p W) (hp : p < base) : OwnT W base d v l := h.grown hf.gr (fun k hk => by injection hk with hk; omega)
/-- A statement's variable, not yet written. -/
def GZ (R bg : Nat) (W : World) : Prop := R ≤ bg ∧ W.heap[bg]? = some (.cells #[.int .i64 0, .string ⟨#[]⟩, .slice none 0 0, .int .i64 0, .slice none 0 0] 27 (0, 0))
theorem GZ.fr {R bg p : Nat} {W W1 : World} (h : GZ R bg W) (hf : Fr W p W1) (hp : p < R) : GZ R bg W1 := ⟨h.1, fr_heap0 hf (by have := h.1; omega) h.2⟩
theorem rel19 {w w1 w3 W : World} {p bg ba : Nat} {y s0 : ByteArray} (hp : p < w.heap.size) (hR : w.heap.size ≤ w1.heap.size) (h1 : Fr w p W) (h2 : Fr w3 p W) (h13 : w1.heap.size ≤ w3.heap.size) (g1 : w3.heap.size ≤ bg) (g2 : W.heap[bg]? = some (.cells #[.int .i64 0, .string ⟨#[]⟩, .slice none 0 0, .int .i64 0, .slice none 0 0] 27 (0, 0)))
    (hr : RdQ W (fun b => w3.heap.size ≤ b) 1 (some ⟨ba, 0, none⟩) 1 (strs [s0])) (hy : y.size ≤ 9) {x15 : Value} (e : x15 = .pointer (some ⟨bg, 0, none⟩)) {V : World} (hV : V = ((((W.setCell ⟨bg, 0, none⟩ (.int .i64 1)).setCell ⟨bg, 1, none⟩ (.string y)).setCell ⟨bg, 2, none⟩ (.slice (some ⟨ba, 0, none⟩) 1 1)).setCell ⟨bg, 3, none⟩ (.int .i64 0)).setCell ⟨bg, 4, none⟩ (.slice none 0 0)) :
    ∃ (bg ba : Nat) (y : ByteArray), x15 = .pointer (some ⟨bg, 0, none⟩) ∧ y.size ≤ 9 ∧ w1.heap.size ≤ ba ∧ V.heap[bg]? = some (.cells #[.int .i64 1, .string y, .slice (some ⟨ba, 0, none⟩) 1 1, .int .i64 0, .slice none 0 0] 27 (0, 0)) ∧ RdQ V (· = ba) 1 (some ⟨ba, 0, none⟩) 1 (strs [s0]) ∧ Fr w p V ∧ Fr w3 p V := by
  subst hV
  obtain ⟨b, o, e1, h, hlt, hc⟩ := hr.2 (by omega)
  injection e1 with e1
  injection e1 with e1 e2
  subst e1 e2
  have h : w3.heap.size ≤ ba := h
  have hne : bg ≠ ba := by
    intro e
    subst e
    have h1 := hc 0 _ rfl
    have h2 := cell_at (j := 0) g2 rfl
    rw [Nat.zero_add, h2] at h1
    cases h1
  have h3 : RdQ W (· = ba) 1 (some ⟨ba, 0, none⟩) 1 (strs [s0]) := ⟨hr.1, fun _ => ⟨ba, 0, rfl, rfl, hlt, hc⟩⟩
  have hp3 : p < w3.heap.size := by omega
  exact ⟨bg, ba, y, e, hy, Nat.le_trans h13 h, heap_set5 g2, ((((h3.set_ hne _).set_ hne _).set_ hne _).set_ hne _).set_ hne _,
    ((((h1.set hp (show w.heap.size ≤ bg by omega) _).set hp (show w.heap.size ≤ bg by omega) _).set hp (show w.heap.size ≤ bg by omega) _).set hp (show w.heap.size ≤ bg by omega) _).set hp (show w.heap.size ≤ bg by omega) _,
    ((((h2.set hp3 g1 _).set hp3 g1 _).set hp3 g1 _).set hp3 g1 _).set hp3 g1 _⟩
def BodySaid (d : Nat) : Prop := ∀ (A : Option Addr) (m c : Nat) (N : List ByteArray) (wild : Bool) (w : World) (p : Nat), CurAt w p → Names w p A m N →
    Calls Tryd.prog 64 #[.pointer (some ⟨p, 0, none⟩), .slice A m c, .int .i64 ((d : Int) + 1), .bool wild] w (DBd d w p)
end Go.Proofs.YtbamjfbfipkioaaDoor
