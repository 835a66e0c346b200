/- What the calls that this law reaches answer, part 17 of 17. -/
import Derived.Test.YthkbckkghnbonaaGreatDoorJProgramText16
import Derived.Test.YthkbckkghnbonaaGreatDoorJProgramText3
import Derived.Test.YthkbckkghnbonaaGreatDoorJProgramText9
import Derived.Test.YthkbckkghnbonaaGreatDoorJProgramText15
import Derived.Test.YthkbckkghnbonaaGreatDoorJProgramText1
import Derived.Test.YthkbckkghnbonaaGreatDoorJProgramText8
import Derived.Test.YthkbckkghnbonaaGreatDoorJProgramText14
import Derived.Test.YthkbckkghnbonaaGreatDoorJProgramText13
import Derived.Test.YthkbckkghnbonaaGreatDoorJProgramText2
import Derived.Test.YthkbckkghnbonaaGreatDoorProg
namespace Go.Proofs.YthkbckkghnbonaaGreatDoor
open Go.RowKit
set_option linter.unusedVariables false
/-- What a reading of a text returns. -/
def RetPz (o : Option (List Tk)) (w : World) (e : Ending) (w' : World) : Prop :=
  ∃ Aq nq cq Ab nb cb m, e = .returned (.tuple #[.agg #[.slice Aq nq cq, .slice Ab nb cb], .int .i64 (parseR o).1, .int .i64 (((parseR o).2.1 : Nat) : Int)]) ∧ SlI w' w.heap.size m 1 Aq nq (strs (parseR o).2.2.1) ∧ TrI w' 5 m w'.heap.size Ab nb (parseR o).2.2.2 ∧
    (nq ≤ cq ∧ cq ≤ maxLen) ∧ (w.heap.size ≤ m ∧ m ≤ w'.heap.size) ∧ Below w.heap.size w w'
theorem parse_bad {T : List Tk} {st : Rs} (h : (Lp T 4 (T.length + 1) (headR T).1).1 = st) (hc : st.code ≠ 0) : parseR (some T) = (st.code, st.i, [], []) := by
  have e : bodyT T (headR T).1 = Lp T 4 (T.length + 1) (headR T).1 := rfl
  unfold parseR
  simp only []
  rw [e, h, if_neg hc]
theorem parse_good {T : List Tk} {st : Rs} (h : (Lp T 4 (T.length + 1) (headR T).1).1 = st) (hc : st.code = 0) : parseR (some T) = (0, 0, (headR T).2, (Lp T 4 (T.length + 1) (headR T).1).2) ∧ (headR T).1.code = 0 := by
  have e : bodyT T (headR T).1 = Lp T 4 (T.length + 1) (headR T).1 := rfl
  refine ⟨?_, Classical.byContradiction fun hne => ?_⟩
  · unfold parseR
    simp only []
    rw [e, h, if_pos hc]
  · have e3 : Lp T 4 (T.length + 1) (headR T).1 = ((headR T).1, []) := loopR_code hne
    rw [e3] at h
    exact hne (by rw [show (headR T).1 = st from h]; exact hc)
theorem rdq_lt {w : World} {size n : Nat} {A : Option Addr} {xs : List Value} (h : Rd w size A n xs) : RdQ w (· < w.heap.size) size A n xs :=
  ⟨h.1, fun h0 => by obtain ⟨b, off, e, hb, hc⟩ := h.2 h0; exact ⟨b, off, e, hb, hb, hc⟩⟩
theorem below_alloc1 {w : World} {o : Obj} : Below w.heap.size w (w.alloc o) := (Below.refl _ _).alloc (Nat.le_refl _) _
set_option maxRecDepth 100000 in
set_option maxHeartbeats 4000000 in
theorem ParseProgram_impl (s : ByteArray) (w : World) (hv : LVb w.heap.size w) (hs : s.size ≤ 1099511627776) : Calls Tryz.prog 13 #[.string s] w (RetPz (tkS s) w) := by
  obtain ⟨X, hX⟩ : ∃ X, X = w.heap.size := ⟨_, rfl⟩
  have HX := Lib.hid hX
  obtain ⟨w0, hw0⟩ : ∃ w0, w0 = w.alloc (.cells #[.slice none 0 0, .slice none 0 0] 27) := ⟨_, rfl⟩
  have X0 : w0.heap[X]? = some (.cells #[.slice none 0 0, .slice none 0 0] 27 (0, 0)) := by rw [hw0]; exact heap_topG hX
  have b0 : Below w.heap.size w w0 := by rw [hw0]; exact below_alloc1
  have V0 : LVb w.heap.size w0 := hv.below b0
  have HV := Lib.hid V0
  have HW0 := Lib.hid hw0
  have B0 := Lib.hid b0
  have hz0 := b0.size
  have X0 := Lib.hid X0
  clear hv hX hw0 b0 V0
  cases ht : tkS s with
  | none =>
    have HT := Lib.hid ht
    clear ht
    go_enter Tryz.func13, Tryz.ntmps13
    go_wp2_with fail
    rw [← HW0.out, ← HX.out]
    refine (Tokenize_impl s w0 hs).mono ?_
    rintro e w1 ⟨A, c, T, hT, rfl, hrd, b1, s1⟩
    rw [HT.out]
    have X1 := (b1.block X (lt_of_block X0.out)).trans X0.out
    obtain ⟨p0, p1⟩ := cells2 (lay := Below.refl _ _) X1
    have g0 := free_at (j := 0) X1
    have g1 := free_at (j := 1) X1
    have lX := lt_of_block X1
    have hs1 := b1.size
    have B1 := Lib.hid (B0.out.trans (b1.mono hz0))
    clear hT hrd b1 s1
    go_wp2_with fail
    obtain ⟨w9, hw9⟩ : ∃ w9, w9 = (w1.setCell ⟨X, 0, none⟩ (.slice none 0 0)).setCell ⟨X, 1, none⟩ (.slice none 0 0) := ⟨_, rfl⟩
    have X9 : w9.heap[X]? = some (.cells #[.slice none 0 0, .slice none 0 0] 27 (0, 0)) := by rw [hw9]; exact heap_set_selfG (heap_set_selfG X1 _) _
    have G9 : w1.grownBy w9 (some X) := by rw [hw9]; exact gr_gr (gr_set _) (gr_set _)
    obtain ⟨r0, r1⟩ := cells2 (lay := Below.refl _ _) X9
    have hz9 := G9.size
    rw [← hw9]
    exact bodyPost_ret (v := .tuple #[.agg #[.slice none 0 0, .slice none 0 0], .int .i64 1, .int .i64 0]) (by simp [results, Tryz.results13, go_sem, r0, r1]) rfl ⟨none, 0, 0, none, 0, 0, w.heap.size, rfl, slI_none, trI_nil, ⟨Nat.le_refl _, Nat.zero_le _⟩, ⟨Nat.le_refl _, by omega⟩, B1.out.grown G9 (by omega) (fun k hk => by injection hk with hk; have := HX.out; omega)⟩
  | some T =>
    obtain ⟨hwell, hlen⟩ := tkz_well _ _ _ _ (Nat.le_refl _) ht (by omega)
    have HT := Lib.hid ht
    have HWL := Lib.hid hwell
    clear ht hwell
    go_enter Tryz.func13, Tryz.ntmps13
    go_wp2_with fail
    rw [← HW0.out, ← HX.out]
    refine (Tokenize_impl s w0 hs).mono ?_
    rintro e w1 ⟨A, c, T', hT, rfl, hrd, b1, s1⟩
    rw [HT.out] at hT ⊢
    have hTT : T' = T := hT
    subst hTT
    have X1 := (b1.block X (lt_of_block X0.out)).trans X0.out
    obtain ⟨n, hn⟩ : ∃ n, n = T'.length := ⟨_, rfl⟩
    have hs1 := b1.size
    obtain ⟨R, hR⟩ : ∃ R, R = w1.heap.size := ⟨_, rfl⟩
    have HR := Lib.hid hR
    obtain ⟨w2, hw2⟩ : ∃ w2, w2 = w1.alloc (.cells #[.slice A n c, .int .i64 0, .int .i64 0, .int .i64 0] 74) := ⟨_, rfl⟩
    have b2 : Below w1.heap.size w1 w2 := by rw [hw2]; exact below_alloc1
    have R2 : RdI R A n c T' 0 ⟨0, 0⟩ w2 := by
      refine ⟨by rw [hw2]; exact heap_topG hR, ?_, hn.symm, Nat.zero_le _⟩
      rw [hR, hn]
      exact (rdq_lt hrd).below b2
    have B2 : Below w.heap.size w w2 := (B0.out.trans (b1.mono hz0)).trans (b2.mono (by omega))
    have V2 := Lib.hid (HV.out.below ((b1.mono hz0).trans (b2.mono (by omega))))
    have X2 := Lib.hid ((b2.block X (lt_of_block X1)).trans X1)
    have hz2 : R < w2.heap.size := lt_of_block R2.x
    have hXR : X < R := by rw [hR]; exact lt_of_block X1
    have hXw : X = w.heap.size := HX.out
    have hn160 : n ≤ 160 := by omega
    have HN := Lib.hid hn
    have B2 := Lib.hid B2
    have R2 := Lib.hid R2
    have HW2 := Lib.hid hw2
    rw [← hn]
    clear hT hrd b1 s1 X1 hR hw2 b2 hn hlen hXw
    go_wp2_with fail
    rw [← HR.out, ← HW2.out]
    refine (header_any R n c A T' 0 w2 R2.out hn160).mono ?_
    rintro e w3 ⟨Aq, nq, cq, Q, rfl, hq, hsl, hcq, hcm, hr3, hg3⟩
    have X3 := Lib.hid (heap_gr X2.out hg3 (by omega))
    have V3 := Lib.hid (V2.out.grown hg3 (fun k hk => by injection hk with hk; have := HX.out; omega))
    have hz3 := hg3.size
    obtain ⟨P, hP⟩ : ∃ P, P = w3.heap.size := ⟨_, rfl⟩
    have HP := Lib.hid hP
    obtain ⟨w4, hw4⟩ : ∃ w4, w4 = w3.alloc (.cells #[.slice Aq nq cq, .slice none 0 0] 27) := ⟨_, rfl⟩
    have b4 : Below w3.heap.size w3 w4 := by rw [hw4]; exact below_alloc1
    have P4 : w4.heap[P]? = some (.cells #[.slice Aq nq cq, .slice none 0 0] 27 (0, 0)) := by rw [hw4]; exact heap_topG hP
    have R4 := Lib.hid (hr3.below b4)
    have V4 := Lib.hid (V3.out.below (b4.mono V3.out.le))
    have X4 := Lib.hid ((b4.block X (lt_of_block X3.out)).trans X3.out)
    have SQ := Lib.hid hsl
    have HQ := Lib.hid hq
    have G3 := Lib.hid hg3
    have B4 := Lib.hid b4
    have hz4 : P < w4.heap.size := lt_of_block P4
    have hz34 := b4.size
    have hPR : R < P := by omega
    have hcq := Lib.hid (And.intro hcq hcm)
    have P4 := Lib.hid P4
    have HW4 := Lib.hid hw4
    have hPw : P = w3.heap.size := hP
    clear hr3 hg3 hsl hq hcm hP hw4 b4 hPw
    go_wp2_with fail
    rw [← HP.out, ← HW4.out]
    refine (stmtsI_all 4 (by omega) w.heap.size R n c A T' 0 (headR T').1 w4 R4.out V4.out (by have := HX.out; omega) hn160 HWL.out (by omega)).mono ?_
    rintro e w5 ⟨Ab, nb, cb, l', rfl, hl, htr, hr5, hg5⟩
    obtain ⟨st, hst⟩ : ∃ st, st = (Lp T' 4 (T'.length + 1) (headR T').1).1 := ⟨_, rfl⟩
    rw [← hst] at hr5 hl
    have HST := Lib.hid hst.symm
    have P5 := heap_gr P4.out hg5 (by omega)
    have X5 := heap_gr X4.out hg5 (by omega)
    obtain ⟨p0, p1⟩ := cells2 (lay := Below.refl _ _) P5
    have g0 := free_at (j := 0) P5
    have g1 := free_at (j := 1) P5
    have lP := lt_of_block P5
    have hz5 := hg5.size
    obtain ⟨w6, hw6⟩ : ∃ w6, w6 = w5.setCell ⟨P, 1, none⟩ (.slice Ab nb cb) := ⟨_, rfl⟩
    have G6 : w5.grownBy w6 (some P) := by rw [hw6]; exact gr_set _
    have P6 : w6.heap[P]? = some (.cells #[.slice Aq nq cq, .slice Ab nb cb] 27 (0, 0)) := by rw [hw6]; exact heap_set_selfG P5 _
    have X6 : w6.heap[X]? = some (.cells #[.slice none 0 0, .slice none 0 0] 27 (0, 0)) := heap_gr X5 G6 (by omega)
    have R6 := Lib.hid (hr5.far G6 hPR)
    have hz6 := G6.size
    have hPw := HP.out
    have hXw := HX.out
    have SQ6 := Lib.hid ((slI_gr (SQ.out.keep (fun b _ _ h => B4.out.block b h) B4.out.size) hg5 (by omega)).keep (fun b _ h2 h3 => G6.block b h3 (fun e => by injection e with e; omega)) G6.size)
    have TR6 := Lib.hid (trI_gr htr G6 (by omega))
    have B6 := Lib.hid (((((B2.out.grown G3.out (by omega) (fun k hk => by injection hk with hk; omega)).trans (B4.out.mono (by omega))).grown hg5 (by omega) (fun k hk => by injection hk with hk; omega))).grown G6 (by omega) (fun k hk => by injection hk with hk; omega))
    have HL := Lib.hid hl
    have HW6 := Lib.hid hw6
    have P6 := Lib.hid P6
    have X6 := Lib.hid X6
    clear hr5 hl hst P5 X5 hg5 hw6 G6 hPw hXw htr
    go_upto_region 7 with (fail)
    rw [← HW6.out]
    clear p0 p1 g0 g1 lP
    obtain ⟨⟨k0, k1, ko, k2⟩, ⟨f1, f3, f2⟩, lR⟩ := R6.out.cells
    obtain ⟨p0, p1⟩ := cells2 (lay := Below.refl _ _) P6.out
    obtain ⟨x0, x1⟩ := cells2 (lay := Below.refl _ _) X6.out
    have g0 := free_at (j := 0) X6.out
    have g1 := free_at (j := 1) X6.out
    have lX := lt_of_block X6.out
    by_cases hc : st.code = 0
    · rw [hc] at k2
      obtain ⟨he, hh⟩ := parse_good HST.out hc
      have HE := Lib.hid he
      have hlq := HL.out hc
      have hqq := HQ.out hh
      have HLQ := Lib.hid hlq
      have HQQ := Lib.hid hqq
      clear he hh hlq hqq
      obtain ⟨w9, hw9⟩ : ∃ w9, w9 = (w6.setCell ⟨X, 0, none⟩ (.slice Aq nq cq)).setCell ⟨X, 1, none⟩ (.slice Ab nb cb) := ⟨_, rfl⟩
      have X9 : w9.heap[X]? = some (.cells #[.slice Aq nq cq, .slice Ab nb cb] 27 (0, 0)) := by rw [hw9]; exact heap_set_selfG (heap_set_selfG X6.out _) _
      have G9 : w6.grownBy w9 (some X) := by rw [hw9]; exact gr_gr (gr_set _) (gr_set _)
      obtain ⟨r0, r1⟩ := cells2 (lay := Below.refl _ _) X9
      have hz9 := G9.size
      have HW9 := Lib.hid hw9
      clear hw9
      go_wp2_with fail
      rw [← HW9.out]
      refine bodyPost_ret (v := .tuple #[.agg #[.slice Aq nq cq, .slice Ab nb cb], .int .i64 0, .int .i64 0]) (by simp [results, Tryz.results13, go_sem, r0, r1]) rfl ?_
      unfold RetPz
      rw [HE.out, ← HQQ.out, ← HLQ.out]
      have hXw := HX.out
      exact ⟨Aq, nq, cq, Ab, nb, cb, w4.heap.size, rfl, (slI_gr SQ6.out G9 (by omega)).wide (by omega) (by omega), (trI_gr TR6.out G9 (by omega)).wide (Nat.le_refl _) (by omega), hcq.out, ⟨by omega, by omega⟩, B6.out.grown G9 (by omega) (fun k hk => by injection hk with hk; omega)⟩
    · have d0 : (st.code == 0) = false := by simp [hc]
      have HE := Lib.hid (parse_bad HST.out hc)
      obtain ⟨w9, hw9⟩ : ∃ w9, w9 = (w6.setCell ⟨X, 0, none⟩ (.slice none 0 0)).setCell ⟨X, 1, none⟩ (.slice none 0 0) := ⟨_, rfl⟩
      have X9 : w9.heap[X]? = some (.cells #[.slice none 0 0, .slice none 0 0] 27 (0, 0)) := by rw [hw9]; exact heap_set_selfG (heap_set_selfG X6.out _) _
      have G9 : w6.grownBy w9 (some X) := by rw [hw9]; exact gr_gr (gr_set _) (gr_set _)
      obtain ⟨r0, r1⟩ := cells2 (lay := Below.refl _ _) X9
      have hz9 := G9.size
      have HW9 := Lib.hid hw9
      clear hw9
      go_upto_region 8 with (fail)
      go_region_law (fail)
      all_goals
        go_wp2_with fail
        rw [← HW9.out]
        refine bodyPost_ret (v := .tuple #[.agg #[.slice none 0 0, .slice none 0 0], .int .i64 st.code, .int .i64 st.i]) (by simp [results, Tryz.results13, go_sem, r0, r1]) rfl ?_
        unfold RetPz
        rw [HE.out]
        have hXw := HX.out
        have B9 := B6.out.grown G9 (by omega) (fun k hk => by injection hk with hk; omega)
        exact ⟨none, 0, 0, none, 0, 0, w.heap.size, rfl, slI_none, trI_nil, ⟨Nat.le_refl _, Nat.zero_le _⟩, ⟨Nat.le_refl _, by show w.heap.size ≤ w9.heap.size; omega⟩, ⟨B9.os, B9.tape, B9.output, B9.size, B9.block⟩⟩
end Go.Proofs.YthkbckkghnbonaaGreatDoor
namespace Go.Proofs.YthkbckkghnbonaaGreatDoor
open Go.RowKit
set_option linter.unusedVariables false
def RetP4 (c : Int) (i : Nat) (qs : List ByteArray) (l : List (Tr 5)) (w : World) (e : Ending) (w' : World) : Prop :=
  ∃ Aq nq cq Ab nb cb m, e = .returned (.tuple #[.agg #[.slice Aq nq cq, .slice Ab nb cb], .int .i64 c, .int .i64 (i : Int)]) ∧ SlI w' w.heap.size m 1 Aq nq (strs qs) ∧ TrI w' 5 m w'.heap.size Ab nb l ∧
    (nq ≤ cq ∧ cq ≤ maxLen) ∧ (w.heap.size ≤ m ∧ m ≤ w'.heap.size) ∧ Below w.heap.size w w'
theorem retP4 {o : Option (List Tk)} {c : Int} {i : Nat} {qs : List ByteArray} {l : List (Tr 5)} (h : parseR o = (c, i, qs, l)) (w : World) : RetPz o w = RetP4 c i qs l w := by
  have h1 : RetPz o w = RetP4 (parseR o).1 (parseR o).2.1 (parseR o).2.2.1 (parseR o).2.2.2 w := rfl
  rw [h1, h]
end Go.Proofs.YthkbckkghnbonaaGreatDoor
namespace Go.Proofs.YthkbckkghnbonaaGreatDoor
open Go.RowKit
set_option linter.unusedVariables false
section
variable {P : Program} {ops : Array Oper} {Q : Exit → Act → World → Prop} {md : Region.Mode}
/-- A guarded operation that is wanted. -/
theorem wpOp_yes {i : Nat} {o : Oper} {a : Act} {w : World} {K : Act → World → Prop} (ho : ops[i]? = some o) (hw : Region.wanted o (yielded ops a.tmps) = true) (h : ∀ K' : Act → World → Prop, (∀ a w, K a w → K' a w) → wpList P #[] (Exit.then K' Q) [{ o with guard := none }] a w) : wpOp P ops Q i K a w := by
  have h1 := h K (fun _ _ h => h)
  have h2 : Region.wanted { o with guard := none } (yielded #[] a.tmps) = true := rfl
  unfold wpOp
  simp only [ho, hw, if_true]
  unfold wpList at h1
  simp only [h2, if_true] at h1
  cases o
  rcases h1 with h1 | ⟨h1, h2⟩
  · exact .inl (upon_then h1)
  · exact .inr ⟨h1, h2⟩
end
end Go.Proofs.YthkbckkghnbonaaGreatDoor
namespace Go.Proofs.YthkbckkghnbonaaGreatDoor
open Go.RowKit
set_option linter.unusedVariables false
theorem heads_size (n : Nat) : (heads.getD n ⟨#[]⟩).size ≤ 8 := by
  rcases Nat.lt_or_ge n 8 with h | h
  · have : n = 0 ∨ n = 1 ∨ n = 2 ∨ n = 3 ∨ n = 4 ∨ n = 5 ∨ n = 6 ∨ n = 7 := by omega
    rcases this with rfl | rfl | rfl | rfl | rfl | rfl | rfl | rfl <;> decide
  · rw [List.getD_eq_getElem?_getD, List.getElem?_eq_none (by exact h)]
    exact Nat.zero_le _
theorem szS_leF {l : List ByteArray} {s : ByteArray} (h : s ∈ l) : s.size ≤ szS l := by
  obtain ⟨t, ht⟩ := List.mem_iff_getElem?.1 h
  exact szS_mem ht
theorem toks1_small {h : SH} {b : List Tk} {z : Nat} (hw : h.word.size ≤ z) (ha : szS h.args ≤ z) (hb : ∀ t ∈ b, t.s.size ≤ z + 8) : ∀ t ∈ toks1 h b, t.s.size ≤ z + 8 := by
  intro t ht
  unfold toks1 at ht
  simp only [List.mem_append] at ht
  rcases ht with ((ht | ht) | ht) | ht
  · simp only [List.mem_singleton] at ht
    subst ht
    show (headW h.k h.word).size ≤ z + 8
    unfold headW
    split
    · omega
    · have := heads_size h.k.toNat; omega
  · split at ht
    · simp only [List.mem_singleton] at ht
      subst ht
      show 1 ≤ z + 8
      omega
    · cases ht
  · obtain ⟨a, ha', rfl⟩ := List.mem_map.1 ht
    have := szS_leF ha'
    show a.size ≤ z + 8
    omega
  · split at ht
    · simp only [List.mem_singleton] at ht
      subst ht
      exact Nat.zero_le _
    · simp only [List.mem_append, List.mem_singleton] at ht
      rcases ht with (rfl | ht) | rfl
      · exact Nat.zero_le _
      · exact hb t ht
      · exact Nat.zero_le _
theorem toksT_small : ∀ (d : Nat) (l : List (Tr d)) (z : Nat), szT d l ≤ z → ∀ t ∈ toksT d l, t.s.size ≤ z + 8 := by
  intro d
  induction d with
  | zero => intro l z _ t ht; cases ht
  | succ d ih =>
    intro l z hz t ht
    have ht' : t ∈ l.flatMap fun s => toks1 (hdT s) (toksT d (bdT s)) := ht
    obtain ⟨s, hs, ht2⟩ := List.mem_flatMap.1 ht'
    obtain ⟨i, hi⟩ := List.mem_iff_getElem?.1 hs
    have hme := szT_mem hi
    rw [szT_succ] at hz
    unfold szE at hme
    exact toks1_small (by omega) (by omega) (ih (bdT s) z (by omega)) t ht2
theorem pTks_small {d : Nat} {qs : List ByteArray} {l : List (Tr d)} (h1 : szS qs ≤ 1048576) (h2 : szT d l ≤ 1048576) : ∀ t ∈ pTks d qs l, t.s.size ≤ 1099511627776 := by
  intro t ht
  unfold pTks stToks at ht
  split at ht
  · unfold pg1 at ht
    simp only [List.mem_append, List.mem_singleton] at ht
    rcases ht with ((rfl | ht) | rfl) | ht
    · show 6 ≤ _; omega
    · obtain ⟨a, ha, rfl⟩ := List.mem_map.1 ht
      have := szS_leF ha
      show a.size ≤ _
      omega
    · exact Nat.zero_le _
    · have := toksT_small d l 1048576 h2 t ht
      omega
  · cases ht
set_option maxRecDepth 100000 in
set_option maxHeartbeats 1000000 in
theorem FormatProgram_impl (d lo lo' : Nat) (Aq : Option Addr) (cq : Nat) (qs : List ByteArray) (l : List (Tr d)) (Ab : Option Addr) (nb cb : Nat) (w : World) (hra : RdL w lo 1 Aq qs.length (strs qs)) (hrb : RdT w lo' d Ab nb l) (hG : GN w) (hm : qs.length ≤ 1048576) (hz : szS qs ≤ 1048576) (hsz : szT d l ≤ 1048576) :
    Calls Tryz.prog 9 #[.agg #[.slice Aq qs.length cq, .slice Ab nb cb]] w fun e w' => e = .returned (.string (ftx (pTks d qs l))) ∧ Below w.heap.size w w' ∧ w.heap.size ≤ w'.heap.size := by
  have b0 : Below w.heap.size w (w.alloc (.cells #[.slice Aq qs.length cq, .slice Ab nb cb] 27)) := (by repeat (first | exact Below.refl _ _ | assumption | (refine Below.trans ?_ (Below.mono (by assumption) (by first | omega | (simp; done) | (simp; omega)))) | (with_reducible refine Below.drew ?_) | (with_reducible refine Below.alloc ?_ (by first | omega | (simp; done) | (simp; omega)) _) | (with_reducible refine Below.setCell ?_ (by first | omega | (simp; done) | (simp; omega)) _)))
  have HP := Lib.hid (ProgramTokens_impl d lo lo' Aq cq qs l Ab nb cb _ (hra.below b0) (hrb.below b0) (hG.below b0) hm hz hsz)
  have hl := pTks_len d qs l
  have hs := pTks_small (d := d) (qs := qs) (l := l) hz hsz
  obtain ⟨T, hT⟩ : ∃ T, T = pTks d qs l := ⟨_, rfl⟩
  rw [← hT] at HP hl hs ⊢
  have HS := Lib.hid hs
  clear hT hra hrb hG hs b0
  go_enter Tryz.func9, Tryz.ntmps9
  go_wp2_with fail
  refine HP.out.mono ?_
  rintro e w1 ⟨v1, rfl, o1, b1, s1⟩
  obtain ⟨A1, c1, rfl, _, _, r1⟩ := rd_of_own o1
  have hb1 : Below w.heap.size w w1 := ((Below.refl _ _).alloc (Nat.le_refl _) _).trans (b1.mono (by simp))
  have hs1 := hb1.size
  have R1 := Lib.hid r1
  clear o1 b1 s1 r1
  go_wp2_with fail
  refine (FormatTokens_impl _ _ _ T _ R1.out rfl (by omega) HS.out).mono ?_
  rintro e w2 ⟨rfl, b2, s2⟩
  go_wp2_with fail
  go_ret
  exact ⟨rfl, hb1.trans (b2.mono hs1), by omega⟩
set_option maxRecDepth 100000 in
set_option maxHeartbeats 1000000 in
theorem FormatProgram_spec (d lo lo' : Nat) (Aq : Option Addr) (cq : Nat) (qs : List ByteArray) (l : List (Tr d)) (Ab : Option Addr) (nb cb : Nat) (w : World) (hra : RdL w lo 1 Aq qs.length (strs qs)) (hrb : RdT w lo' d Ab nb l) (hm : qs.length ≤ 1048576) (hz : szS qs ≤ 1048576) (hsz : szT d l ≤ 1048576) :
    Calls Tryz.prog 10 #[.agg #[.slice Aq qs.length cq, .slice Ab nb cb]] w fun e w' => e = .returned (.string (ftx (pTks d qs l))) ∧ Below w.heap.size w w' ∧ w.heap.size ≤ w'.heap.size := by
  have b0 : Below w.heap.size w (w.alloc (.cells #[.slice Aq qs.length cq, .slice Ab nb cb] 27)) := (by repeat (first | exact Below.refl _ _ | assumption | (refine Below.trans ?_ (Below.mono (by assumption) (by first | omega | (simp; done) | (simp; omega)))) | (with_reducible refine Below.drew ?_) | (with_reducible refine Below.alloc ?_ (by first | omega | (simp; done) | (simp; omega)) _) | (with_reducible refine Below.setCell ?_ (by first | omega | (simp; done) | (simp; omega)) _)))
  have HP := Lib.hid (ProgramTokens_spec d lo lo' Aq cq qs l Ab nb cb _ (hra.below b0) (hrb.below b0) hm hz hsz)
  have hl := pTks_len d qs l
  have hs := pTks_small (d := d) (qs := qs) (l := l) hz hsz
  obtain ⟨T, hT⟩ : ∃ T, T = pTks d qs l := ⟨_, rfl⟩
  rw [← hT] at HP hl hs ⊢
  have HS := Lib.hid hs
  clear hT hra hrb hs b0
  go_enter Tryz.func10, Tryz.ntmps10
  go_wp2_with fail
  refine HP.out.mono ?_
  rintro e w1 ⟨v1, rfl, o1, b1, s1⟩
  obtain ⟨A1, c1, rfl, _, _, r1⟩ := rd_of_own o1
  have hb1 : Below w.heap.size w w1 := ((Below.refl _ _).alloc (Nat.le_refl _) _).trans (b1.mono (by simp))
  have hs1 := hb1.size
  have R1 := Lib.hid r1
  clear o1 b1 s1 r1
  go_wp2_with fail
  refine (FormatTokens_spec _ _ _ T _ R1.out rfl (by omega) HS.out).mono ?_
  rintro e w2 ⟨rfl, b2, s2⟩
  go_wp2_with fail
  go_ret
  exact ⟨rfl, hb1.trans (b2.mono hs1), by omega⟩
end Go.Proofs.YthkbckkghnbonaaGreatDoor
namespace Go.Proofs.YthkbckkghnbonaaGreatDoor
open Go.RowKit
set_option linter.unusedVariables false
def EqsSaid_impl (d : Nat) : Prop := ∀ (lo lo' : Nat) (A A' : Option Addr) (n n' c c' : Nat) (l l' : List (Tr d)) (w : World), RdT w lo d A n l → RdT w lo' d A' n' l' → szT d l ≤ 1048576 → szT d l' ≤ 1048576 →
  Calls Tryz.prog 58 #[.slice A n c, .slice A' n' c'] w fun e w' => e = .returned (.bool (eqTs d l l')) ∧ Below w.heap.size w w' ∧ w.heap.size ≤ w'.heap.size
set_option maxRecDepth 100000 in
set_option maxHeartbeats 4000000 in
theorem EqualStmts_impl : ∀ (d : Nat), EqsSaid_impl d := by
  intro d
  induction d with
  | zero =>
    intro lo lo' A A' n n' c c' l l' w h h' _ _
    obtain rfl := szT_zero_len h
    obtain rfl := szT_zero_len h'
    go_enter Tryz.func58, Tryz.ntmps58
    go_wp2
    refine wp_loop_rounds 1 ?_
    rw [rounds_succ]
    go_wp2
    go_ret
    exact ⟨rfl, Below.refl _ _, Nat.le_refl _⟩
  | succ d ih =>
    intro lo lo' A A' n n' c c' l l' w h h' hsz hsz'
    have hln := h.len
    have hln' := h'.len
    rw [eqTs_succ]
    by_cases hnn : n = n'
    · subst hnn
      have hn : n ≤ 1048576 := by rw [szT_succ] at hsz; omega
      have HQ := Lib.hid hsz
      have HQ' := Lib.hid hsz'
      have HL := Lib.hid hln
      have HL' := Lib.hid hln'
      have H := Lib.hid h
      have H' := Lib.hid h'
      clear h hln hsz h' hln' hsz'
      go_enter Tryz.func58, Tryz.ntmps58
      go_wp2
      go_loopw [15] (fun i wr => ∃ t : Nat, t ≤ n ∧ i = .int .i64 t ∧ EqUpto eqE l l' t ∧ Below w.heap.size w wr) (fun i _ => n - (intOf i).toNat)
      case atStart => exact ⟨0, Nat.zero_le _, rfl, eqUpto_zero, Below.refl _ _⟩
      case round =>
        obtain ⟨t, ht, rfl, hup, hb⟩ := hrel
        have hbs := hb.size
        by_cases hlt : t < n
        · obtain ⟨b, off, s, Aa, ca, Ab, nb, cb, rfl, hbl, hs, hcs, hra, hrb⟩ := (H.out.below hb).at_ hlt
          obtain ⟨b', off', s', Aa', ca', Ab', nb', cb', rfl, hbl', hs', hcs', hra', hrb'⟩ := (H'.out.below hb).at_ hlt
          obtain ⟨q0, q1, q2, q3, q4⟩ := hcs
          obtain ⟨p0, p1, p2, p3, p4⟩ := hcs'
          have hme := szT_mem hs
          have hme' := szT_mem hs'
          have hz1 : (hdT s).args.length ≤ 1048576 := by have := HQ.out; rw [szT_succ] at this; unfold szE at hme; omega
          have hz2 : szT d (bdT s) ≤ 1048576 := by have := HQ.out; rw [szT_succ] at this; unfold szE at hme; omega
          have hz2' : szT d (bdT s') ≤ 1048576 := by have := HQ'.out; rw [szT_succ] at this; unfold szE at hme'; omega
          have HU : Hid (∀ he : eqE s s' = true, EqUpto eqE l l' (t + 1)) := Lib.hid (fun he => eqUpto_step hup hs hs' he)
          have HF : Hid (∀ he : eqE s s' = false, eqBy eqE l l' = false) := Lib.hid (fun he => eqBy_f hs hs' he)
          clear hs hs' hme hme' hup
          have HE1 := Lib.hid (@eqE_k d s s')
          have HE2 := Lib.hid (@eqE_w d s s')
          have HE3 := Lib.hid (@eqE_a d s s')
          have HE4 := Lib.hid (@eqE_c d s s')
          have HE5 := Lib.hid (@eqE_b d s s')
          have HET := Lib.hid (@eqE_t d s s')
          obtain ⟨⟨k, wd, ar, ct⟩, hhd⟩ : ∃ x, x = hdT s := ⟨_, rfl⟩
          obtain ⟨⟨k', wd', ar', ct'⟩, hhd'⟩ : ∃ x, x = hdT s' := ⟨_, rfl⟩
          rw [← hhd] at HE1 HE2 HE3 HE4 HET q0 q1 q2 q3 hra hz1
          rw [← hhd'] at HE1 HE2 HE3 HE4 HET p0 p1 p2 p3 hra'
          obtain ⟨bd, hbd⟩ : ∃ x, x = bdT s := ⟨_, rfl⟩
          obtain ⟨bd', hbd'⟩ : ∃ x, x = bdT s' := ⟨_, rfl⟩
          rw [← hbd] at HE5 HET hrb hz2
          rw [← hbd'] at HE5 HET hrb' hz2'
          dsimp only at HE1 HE2 HE3 HE4 HET q0 q1 q2 q3 hra hz1 p0 p1 p2 p3 hra'
          clear hhd hhd' hbd hbd' HQ HQ' H H' HL HL'
          obtain ⟨m, hm⟩ : ∃ m, m = ar.length := ⟨_, rfl⟩
          obtain ⟨m', hm'⟩ : ∃ m, m = ar'.length := ⟨_, rfl⟩
          rw [← hm] at q2 hra hz1
          rw [← hm'] at p2 hra'
          have HM := Lib.hid hm
          have HM' := Lib.hid hm'
          clear hm hm'
          have HA := Lib.hid hra
          have HA' := Lib.hid hra'
          have HB := Lib.hid hrb
          have HB' := Lib.hid hrb'
          clear hra hra' hrb hrb'
          by_cases hk : k = k'
          rotate_left
          · have hne : (k != k') = true := by rw [bne_iff_ne]; exact hk
            have HX := Lib.hid (HF.out (HE1.out hk))
            go_wp2_with fail
            go_ret
            exact ⟨by rw [HX.out]; rfl, ((hb.alloc hb.size _).alloc (by simp; omega) _), (by simp; omega)⟩
          subst hk
          cases hw : eqSt wd wd'
          · have hne : (wd.toList == wd'.toList) = false := hw
            have HX := Lib.hid (HF.out (HE2.out hw))
            go_wp2_with fail
            go_ret
            exact ⟨by rw [HX.out]; rfl, ((hb.alloc hb.size _).alloc (by simp; omega) _), (by simp; omega)⟩
          have hww := eqSt_eq hw
          have HW := Lib.hid hw
          subst hww
          clear hw
          cases ha : eqBy eqSt ar ar'
          · have HAA := Lib.hid ha
            clear ha
            have HX := Lib.hid (HF.out (HE3.out HAA.out))
            go_wp2_with fail
            obtain ⟨w0, hw0⟩ : ∃ w0, w0 = ((wr.alloc (.cells #[.int .i64 k, .string wd, .slice Aa m ca, .int .i64 ct, .slice Ab nb cb] 66)).alloc (.cells #[.int .i64 k, .string wd, .slice Aa' m' ca', .int .i64 ct', .slice Ab' nb' cb'] 66)) := ⟨_, rfl⟩
            rw [← hw0]
            have b0 : Below wr.heap.size wr w0 := by rw [hw0]; exact (by repeat (first | exact Below.refl _ _ | assumption | (refine Below.trans ?_ (Below.mono (by assumption) (by first | omega | (simp; done) | (simp; omega)))) | (with_reducible refine Below.drew ?_) | (with_reducible refine Below.alloc ?_ (by first | omega | (simp; done) | (simp; omega)) _) | (with_reducible refine Below.setCell ?_ (by first | omega | (simp; done) | (simp; omega)) _)))
            have s0 : wr.heap.size + 2 = w0.heap.size := by rw [hw0]; simp
            have X0 := Lib.hid (show w0.heap[wr.heap.size]? = some (.cells #[.int .i64 k, .string wd, .slice Aa m ca, .int .i64 ct, .slice Ab nb cb] 66 (0, 0)) by rw [hw0]; exact boxed2_0 _ _ _)
            have X1 := Lib.hid (show w0.heap[wr.heap.size + 1]? = some (.cells #[.int .i64 k, .string wd, .slice Aa' m' ca', .int .i64 ct', .slice Ab' nb' cb'] 66 (0, 0)) by rw [hw0]; exact boxed2_1 _ _ _)
            clear hw0
            refine (sameStr_any _ _ _ _ _ _ ar ar' _ HM.out.symm HM'.out.symm (by omega) (HA.out.rd.below b0) (HA'.out.rd.below b0)).mono ?_
            rintro e w1 ⟨rfl, m1, rfl⟩
            rw [HAA.out]
            obtain ⟨_, _, _, y3, y4⟩ := boxcells5 (lay := Below.refl _ _) X0.out
            obtain ⟨_, _, _, z3, z4⟩ := boxcells5 (lay := Below.refl _ _) X1.out
            go_wp2_with fail
            go_ret
            exact ⟨by rw [HX.out]; rfl, (below_drewN (hb.trans (b0.mono hb.size)) _), (by simp; omega)⟩
          have HAA := Lib.hid ha
          clear ha
          by_cases hc : ct = ct'
          rotate_left
          · have hne : (ct != ct') = true := by rw [bne_iff_ne]; exact hc
            have HX := Lib.hid (HF.out (HE4.out hc))
            go_wp2_with fail
            obtain ⟨w0, hw0⟩ : ∃ w0, w0 = ((wr.alloc (.cells #[.int .i64 k, .string wd, .slice Aa m ca, .int .i64 ct, .slice Ab nb cb] 66)).alloc (.cells #[.int .i64 k, .string wd, .slice Aa' m' ca', .int .i64 ct', .slice Ab' nb' cb'] 66)) := ⟨_, rfl⟩
            rw [← hw0]
            have b0 : Below wr.heap.size wr w0 := by rw [hw0]; exact (by repeat (first | exact Below.refl _ _ | assumption | (refine Below.trans ?_ (Below.mono (by assumption) (by first | omega | (simp; done) | (simp; omega)))) | (with_reducible refine Below.drew ?_) | (with_reducible refine Below.alloc ?_ (by first | omega | (simp; done) | (simp; omega)) _) | (with_reducible refine Below.setCell ?_ (by first | omega | (simp; done) | (simp; omega)) _)))
            have s0 : wr.heap.size + 2 = w0.heap.size := by rw [hw0]; simp
            have X0 := Lib.hid (show w0.heap[wr.heap.size]? = some (.cells #[.int .i64 k, .string wd, .slice Aa m ca, .int .i64 ct, .slice Ab nb cb] 66 (0, 0)) by rw [hw0]; exact boxed2_0 _ _ _)
            have X1 := Lib.hid (show w0.heap[wr.heap.size + 1]? = some (.cells #[.int .i64 k, .string wd, .slice Aa' m' ca', .int .i64 ct', .slice Ab' nb' cb'] 66 (0, 0)) by rw [hw0]; exact boxed2_1 _ _ _)
            clear hw0
            refine (sameStr_any _ _ _ _ _ _ ar ar' _ HM.out.symm HM'.out.symm (by omega) (HA.out.rd.below b0) (HA'.out.rd.below b0)).mono ?_
            rintro e w1 ⟨rfl, m1, rfl⟩
            rw [HAA.out]
            obtain ⟨_, _, _, y3, y4⟩ := boxcells5 (lay := Below.refl _ _) X0.out
            obtain ⟨_, _, _, z3, z4⟩ := boxcells5 (lay := Below.refl _ _) X1.out
            go_wp2_with fail
            go_ret
            exact ⟨by rw [HX.out]; rfl, (below_drewN (hb.trans (b0.mono hb.size)) _), (by simp; omega)⟩
          subst hc
          cases hb2 : eqTs d bd bd'
          · have HBB := Lib.hid hb2
            clear hb2
            have HX := Lib.hid (HF.out (HE5.out HBB.out))
            go_wp2_with fail
            obtain ⟨w0, hw0⟩ : ∃ w0, w0 = ((wr.alloc (.cells #[.int .i64 k, .string wd, .slice Aa m ca, .int .i64 ct, .slice Ab nb cb] 66)).alloc (.cells #[.int .i64 k, .string wd, .slice Aa' m' ca', .int .i64 ct, .slice Ab' nb' cb'] 66)) := ⟨_, rfl⟩
            rw [← hw0]
            have b0 : Below wr.heap.size wr w0 := by rw [hw0]; exact (by repeat (first | exact Below.refl _ _ | assumption | (refine Below.trans ?_ (Below.mono (by assumption) (by first | omega | (simp; done) | (simp; omega)))) | (with_reducible refine Below.drew ?_) | (with_reducible refine Below.alloc ?_ (by first | omega | (simp; done) | (simp; omega)) _) | (with_reducible refine Below.setCell ?_ (by first | omega | (simp; done) | (simp; omega)) _)))
            have s0 : wr.heap.size + 2 = w0.heap.size := by rw [hw0]; simp
            have X0 := Lib.hid (show w0.heap[wr.heap.size]? = some (.cells #[.int .i64 k, .string wd, .slice Aa m ca, .int .i64 ct, .slice Ab nb cb] 66 (0, 0)) by rw [hw0]; exact boxed2_0 _ _ _)
            have X1 := Lib.hid (show w0.heap[wr.heap.size + 1]? = some (.cells #[.int .i64 k, .string wd, .slice Aa' m' ca', .int .i64 ct, .slice Ab' nb' cb'] 66 (0, 0)) by rw [hw0]; exact boxed2_1 _ _ _)
            clear hw0
            refine (sameStr_any _ _ _ _ _ _ ar ar' _ HM.out.symm HM'.out.symm (by omega) (HA.out.rd.below b0) (HA'.out.rd.below b0)).mono ?_
            rintro e w1 ⟨rfl, m1, rfl⟩
            rw [HAA.out]
            obtain ⟨_, _, _, y3, y4⟩ := boxcells5 (lay := Below.refl _ _) X0.out
            obtain ⟨_, _, _, z3, z4⟩ := boxcells5 (lay := Below.refl _ _) X1.out
            go_wp2_with fail
            refine (ih lo lo' _ _ _ _ _ _ bd bd' _ ((HB.out.below b0).drewN _) ((HB'.out.below b0).drewN _) hz2 hz2').mono ?_
            rintro e w2 ⟨rfl, b2, s2⟩
            rw [HBB.out]
            go_wp2_with fail
            go_ret
            exact ⟨by rw [HX.out]; rfl, ((below_drewN (hb.trans (b0.mono hb.size)) _).trans (b2.mono (by simp; omega))), (by simp at s2; omega)⟩
          have HBB := Lib.hid hb2
          clear hb2
          have HX := Lib.hid (HU.out (HET.out rfl HW.out HAA.out rfl HBB.out))
          go_wp2_with fail
          obtain ⟨w0, hw0⟩ : ∃ w0, w0 = ((wr.alloc (.cells #[.int .i64 k, .string wd, .slice Aa m ca, .int .i64 ct, .slice Ab nb cb] 66)).alloc (.cells #[.int .i64 k, .string wd, .slice Aa' m' ca', .int .i64 ct, .slice Ab' nb' cb'] 66)) := ⟨_, rfl⟩
          rw [← hw0]
          have b0 : Below wr.heap.size wr w0 := by rw [hw0]; exact (by repeat (first | exact Below.refl _ _ | assumption | (refine Below.trans ?_ (Below.mono (by assumption) (by first | omega | (simp; done) | (simp; omega)))) | (with_reducible refine Below.drew ?_) | (with_reducible refine Below.alloc ?_ (by first | omega | (simp; done) | (simp; omega)) _) | (with_reducible refine Below.setCell ?_ (by first | omega | (simp; done) | (simp; omega)) _)))
          have s0 : wr.heap.size + 2 = w0.heap.size := by rw [hw0]; simp
          have X0 := Lib.hid (show w0.heap[wr.heap.size]? = some (.cells #[.int .i64 k, .string wd, .slice Aa m ca, .int .i64 ct, .slice Ab nb cb] 66 (0, 0)) by rw [hw0]; exact boxed2_0 _ _ _)
          have X1 := Lib.hid (show w0.heap[wr.heap.size + 1]? = some (.cells #[.int .i64 k, .string wd, .slice Aa' m' ca', .int .i64 ct, .slice Ab' nb' cb'] 66 (0, 0)) by rw [hw0]; exact boxed2_1 _ _ _)
          clear hw0
          refine (sameStr_any _ _ _ _ _ _ ar ar' _ HM.out.symm HM'.out.symm (by omega) (HA.out.rd.below b0) (HA'.out.rd.below b0)).mono ?_
          rintro e w1 ⟨rfl, m1, rfl⟩
          rw [HAA.out]
          obtain ⟨_, _, _, y3, y4⟩ := boxcells5 (lay := Below.refl _ _) X0.out
          obtain ⟨_, _, _, z3, z4⟩ := boxcells5 (lay := Below.refl _ _) X1.out
          go_wp2_with fail
          refine (ih lo lo' _ _ _ _ _ _ bd bd' _ ((HB.out.below b0).drewN _) ((HB'.out.below b0).drewN _) hz2 hz2').mono ?_
          rintro e w2 ⟨rfl, b2, s2⟩
          rw [HBB.out]
          go_wp2_with fail
          go_roundw
          case rel => exact ⟨t + 1, by omega, by go_num, HX.out, ((below_drewN (hb.trans (b0.mono hb.size)) _).trans (b2.mono (by simp; omega)))⟩
          case measure => simp [intOf]; omega
        · obtain rfl : t = n := by omega
          have HF := Lib.hid (eqBy_t (by rw [HL.out, HL'.out]) hup (by rw [HL.out]; exact Nat.le_refl _))
          go_wp2_with fail
          go_ret
          exact ⟨by rw [HF.out]; rfl, hb, hb.size⟩
    · have HF := Lib.hid (eqBy_len (f := eqE) (l := l) (l' := l') (by rw [hln, hln']; exact hnn))
      have hne : ((n : Int) != (n' : Int)) = true := by rw [bne_iff_ne]; omega
      clear h h' hln hln' hsz hsz' ih
      go_enter Tryz.func58, Tryz.ntmps58
      go_wp2
      go_ret
      exact ⟨by rw [HF.out]; rfl, Below.refl _ _, Nat.le_refl _⟩
end Go.Proofs.YthkbckkghnbonaaGreatDoor
namespace Go.Proofs.YthkbckkghnbonaaGreatDoor
open Go.RowKit
set_option linter.unusedVariables false
def EqsSaid_spec (d : Nat) : Prop := ∀ (lo lo' : Nat) (A A' : Option Addr) (n n' c c' : Nat) (l l' : List (Tr d)) (w : World), RdT w lo d A n l → RdT w lo' d A' n' l' → szT d l ≤ 1048576 → szT d l' ≤ 1048576 →
  Calls Tryz.prog 56 #[.slice A n c, .slice A' n' c'] w fun e w' => e = .returned (.bool (eqTs d l l')) ∧ ∃ m, w' = w.drewN m
set_option maxRecDepth 100000 in
set_option maxHeartbeats 4000000 in
theorem EqualStmts_spec : ∀ (d : Nat), EqsSaid_spec d := by
  intro d
  induction d with
  | zero =>
    intro lo lo' A A' n n' c c' l l' w h h' _ _
    obtain rfl := szT_zero_len h
    obtain rfl := szT_zero_len h'
    go_enter Tryz.func56, Tryz.ntmps56
    go_wp2
    refine wp_loop_rounds 1 ?_
    rw [rounds_succ]
    go_wp2
    go_ret
    exact ⟨rfl, 0, rfl⟩
  | succ d ih =>
    intro lo lo' A A' n n' c c' l l' w h h' hsz hsz'
    have hln := h.len
    have hln' := h'.len
    rw [eqTs_succ]
    by_cases hnn : n = n'
    · subst hnn
      have hn : n ≤ 1048576 := by rw [szT_succ] at hsz; omega
      have HQ := Lib.hid hsz
      have HQ' := Lib.hid hsz'
      have HL := Lib.hid hln
      have HL' := Lib.hid hln'
      have H := Lib.hid h
      have H' := Lib.hid h'
      clear h hln hsz h' hln' hsz'
      go_enter Tryz.func56, Tryz.ntmps56
      go_wp2
      go_loopw [5] (fun i wr => ∃ t : Nat, t ≤ n ∧ i = .int .i64 t ∧ EqUpto eqE l l' t ∧ ∃ m, wr = w.drewN m) (fun i _ => n - (intOf i).toNat)
      case atStart => exact ⟨0, Nat.zero_le _, rfl, eqUpto_zero, 0, rfl⟩
      case round =>
        obtain ⟨t, ht, rfl, hup, dq, rfl⟩ := hrel
        by_cases hlt : t < n
        · obtain ⟨b, off, s, Aa, ca, Ab, nb, cb, rfl, hbl, hs, hcs, hra, hrb⟩ := H.out.at_ hlt
          obtain ⟨b', off', s', Aa', ca', Ab', nb', cb', rfl, hbl', hs', hcs', hra', hrb'⟩ := H'.out.at_ hlt
          obtain ⟨q0, q1, q2, q3, q4⟩ := hcs
          obtain ⟨p0, p1, p2, p3, p4⟩ := hcs'
          have hme := szT_mem hs
          have hme' := szT_mem hs'
          have hz1 : (hdT s).args.length ≤ 1048576 := by have := HQ.out; rw [szT_succ] at this; unfold szE at hme; omega
          have hz2 : szT d (bdT s) ≤ 1048576 := by have := HQ.out; rw [szT_succ] at this; unfold szE at hme; omega
          have hz2' : szT d (bdT s') ≤ 1048576 := by have := HQ'.out; rw [szT_succ] at this; unfold szE at hme'; omega
          have HU : Hid (∀ he : eqE s s' = true, EqUpto eqE l l' (t + 1)) := Lib.hid (fun he => eqUpto_step hup hs hs' he)
          have HF : Hid (∀ he : eqE s s' = false, eqBy eqE l l' = false) := Lib.hid (fun he => eqBy_f hs hs' he)
          clear hs hs' hme hme' hup
          have HE1 := Lib.hid (@eqE_k d s s')
          have HE2 := Lib.hid (@eqE_w d s s')
          have HE3 := Lib.hid (@eqE_a d s s')
          have HE4 := Lib.hid (@eqE_c d s s')
          have HE5 := Lib.hid (@eqE_b d s s')
          have HET := Lib.hid (@eqE_t d s s')
          obtain ⟨⟨k, wd, ar, ct⟩, hhd⟩ : ∃ x, x = hdT s := ⟨_, rfl⟩
          obtain ⟨⟨k', wd', ar', ct'⟩, hhd'⟩ : ∃ x, x = hdT s' := ⟨_, rfl⟩
          rw [← hhd] at HE1 HE2 HE3 HE4 HET q0 q1 q2 q3 hra hz1
          rw [← hhd'] at HE1 HE2 HE3 HE4 HET p0 p1 p2 p3 hra'
          obtain ⟨bd, hbd⟩ : ∃ x, x = bdT s := ⟨_, rfl⟩
          obtain ⟨bd', hbd'⟩ : ∃ x, x = bdT s' := ⟨_, rfl⟩
          rw [← hbd] at HE5 HET hrb hz2
          rw [← hbd'] at HE5 HET hrb' hz2'
          dsimp only at HE1 HE2 HE3 HE4 HET q0 q1 q2 q3 hra hz1 p0 p1 p2 p3 hra'
          clear hhd hhd' hbd hbd' HQ HQ' H H' HL HL'
          obtain ⟨m, hm⟩ : ∃ m, m = ar.length := ⟨_, rfl⟩
          obtain ⟨m', hm'⟩ : ∃ m, m = ar'.length := ⟨_, rfl⟩
          rw [← hm] at q2 hra hz1
          rw [← hm'] at p2 hra'
          have HM := Lib.hid hm
          have HM' := Lib.hid hm'
          clear hm hm'
          have HA := Lib.hid hra
          have HA' := Lib.hid hra'
          have HB := Lib.hid hrb
          have HB' := Lib.hid hrb'
          clear hra hra' hrb hrb'
          by_cases hk : k = k'
          rotate_left
          · have hne : (k != k') = true := by rw [bne_iff_ne]; exact hk
            have HX := Lib.hid (HF.out (HE1.out hk))
            go_wp2_with fail
            (try simp only [List.append])
            go_quiet (fail)
            go_wp2_with fail
            go_ret
            exact ⟨by rw [HX.out]; rfl, (by first | exact ⟨_, rfl⟩ | exact drewN2 _ _ _)⟩
          subst hk
          cases hw : eqSt wd wd'
          · have hne : (wd.toList == wd'.toList) = false := hw
            have HX := Lib.hid (HF.out (HE2.out hw))
            go_wp2_with fail
            (try simp only [List.append])
            go_quiet (fail)
            go_wp2_with fail
            go_ret
            exact ⟨by rw [HX.out]; rfl, (by first | exact ⟨_, rfl⟩ | exact drewN2 _ _ _)⟩
          have hww := eqSt_eq hw
          have HW := Lib.hid hw
          subst hww
          clear hw
          by_cases hc : ct = ct'
          rotate_left
          · have hne : (ct != ct') = true := by rw [bne_iff_ne]; exact hc
            have HX := Lib.hid (HF.out (HE4.out hc))
            go_wp2_with fail
            (try simp only [List.append])
            go_quiet (fail)
            go_wp2_with fail
            go_ret
            exact ⟨by rw [HX.out]; rfl, (by first | exact ⟨_, rfl⟩ | exact drewN2 _ _ _)⟩
          subst hc
          cases ha : eqBy eqSt ar ar'
          · have HAA := Lib.hid ha
            clear ha
            have HX := Lib.hid (HF.out (HE3.out HAA.out))
            have CT : Hid (∀ j, Calls Tryz.prog 55 #[.slice Aa m ca, .slice Aa' m' ca'] (w.drewN j) fun e w' => e = .returned (.bool false) ∧ ∃ q, w' = (w.drewN j).drewN q) := Lib.hid (fun j => (l17Texts_any _ _ _ _ _ _ ar ar' _ HM.out.symm HM'.out.symm (by omega) (HA.out.rd.drewN j) (HA'.out.rd.drewN j)).mono fun e w1 h => ⟨by rw [h.1, HAA.out], h.2⟩)
            go_wp2_with fail
            (try simp only [List.append])
            go_quiet (first | (go_at_call 55; exact quiet_anyAdd (CT.out _)))
            go_wp2_with fail
            go_ret
            exact ⟨by rw [HX.out]; rfl, (by first | exact ⟨_, rfl⟩ | exact drewN2 _ _ _)⟩
          have HAA := Lib.hid ha
          clear ha
          cases hb2 : eqTs d bd bd'
          · have HBB := Lib.hid hb2
            clear hb2
            have HX := Lib.hid (HF.out (HE5.out HBB.out))
            have CT : Hid (∀ j, Calls Tryz.prog 55 #[.slice Aa m ca, .slice Aa' m' ca'] (w.drewN j) fun e w' => e = .returned (.bool true) ∧ ∃ q, w' = (w.drewN j).drewN q) := Lib.hid (fun j => (l17Texts_any _ _ _ _ _ _ ar ar' _ HM.out.symm HM'.out.symm (by omega) (HA.out.rd.drewN j) (HA'.out.rd.drewN j)).mono fun e w1 h => ⟨by rw [h.1, HAA.out], h.2⟩)
            have CR : Hid (∀ j, Calls Tryz.prog 56 #[.slice Ab nb cb, .slice Ab' nb' cb'] (w.drewN j) fun e w' => e = .returned (.bool false) ∧ ∃ q, w' = (w.drewN j).drewN q) := Lib.hid (fun j => (ih lo lo' _ _ _ _ _ _ bd bd' _ (HB.out.drewN j) (HB'.out.drewN j) hz2 hz2').mono fun e w1 h => ⟨by rw [h.1, HBB.out], h.2⟩)
            go_wp2_with fail
            (try simp only [List.append])
            go_quiet (first | (go_at_call 55; exact quiet_anyAdd (CT.out _)) | (go_at_call 56; exact quiet_anyAdd (CR.out _)))
            go_wp2_with fail
            go_ret
            exact ⟨by rw [HX.out]; rfl, (by first | exact ⟨_, rfl⟩ | exact drewN2 _ _ _)⟩
          have HBB := Lib.hid hb2
          clear hb2
          have HX := Lib.hid (HU.out (HET.out rfl HW.out HAA.out rfl HBB.out))
          have CT : Hid (∀ j, Calls Tryz.prog 55 #[.slice Aa m ca, .slice Aa' m' ca'] (w.drewN j) fun e w' => e = .returned (.bool true) ∧ ∃ q, w' = (w.drewN j).drewN q) := Lib.hid (fun j => (l17Texts_any _ _ _ _ _ _ ar ar' _ HM.out.symm HM'.out.symm (by omega) (HA.out.rd.drewN j) (HA'.out.rd.drewN j)).mono fun e w1 h => ⟨by rw [h.1, HAA.out], h.2⟩)
          have CR : Hid (∀ j, Calls Tryz.prog 56 #[.slice Ab nb cb, .slice Ab' nb' cb'] (w.drewN j) fun e w' => e = .returned (.bool true) ∧ ∃ q, w' = (w.drewN j).drewN q) := Lib.hid (fun j => (ih lo lo' _ _ _ _ _ _ bd bd' _ (HB.out.drewN j) (HB'.out.drewN j) hz2 hz2').mono fun e w1 h => ⟨by rw [h.1, HBB.out], h.2⟩)
          go_wp2_with fail
          (try simp only [List.append])
          go_quiet (first | (go_at_call 55; exact quiet_anyAdd (CT.out _)) | (go_at_call 56; exact quiet_anyAdd (CR.out _)))
          go_wp2_with fail
          go_roundw
          case rel => exact ⟨t + 1, by omega, by go_num, HX.out, (by first | exact ⟨_, rfl⟩ | exact drewN2 _ _ _)⟩
          case measure => simp [intOf]; omega
        · obtain rfl : t = n := by omega
          have HF := Lib.hid (eqBy_t (by rw [HL.out, HL'.out]) hup (by rw [HL.out]; exact Nat.le_refl _))
          go_wp2_with fail
          go_ret
          exact ⟨by rw [HF.out]; rfl, dq, rfl⟩
    · have HF := Lib.hid (eqBy_len (f := eqE) (l := l) (l' := l') (by rw [hln, hln']; exact hnn))
      have hne : ((n : Int) != (n' : Int)) = true := by rw [bne_iff_ne]; omega
      clear h h' hln hln' hsz hsz' ih
      go_enter Tryz.func56, Tryz.ntmps56
      go_wp2
      go_ret
      exact ⟨by rw [HF.out]; rfl, 0, rfl⟩
end Go.Proofs.YthkbckkghnbonaaGreatDoor
namespace Go.Proofs.YthkbckkghnbonaaGreatDoor
open Go.RowKit
set_option linter.unusedVariables false
def eqPg {d : Nat} (qs qs' : List ByteArray) (l l' : List (Tr d)) : Bool := eqBy eqSt qs qs' && eqTs d l l'
set_option maxRecDepth 100000 in
set_option maxHeartbeats 2000000 in
theorem EqualProgram_impl (d lo lo' : Nat) (m nb m' nb' : Nat) (qs qs' : List ByteArray) (l l' : List (Tr d)) (Aq : Option Addr) (cq : Nat) (Ab : Option Addr) (cb : Nat) (Aq' : Option Addr) (cq' : Nat) (Ab' : Option Addr) (cb' : Nat) (w : World)
    (hra : Rd w 1 Aq m (strs qs)) (hrb : RdT w lo d Ab nb l) (hra' : Rd w 1 Aq' m' (strs qs')) (hrb' : RdT w lo' d Ab' nb' l') (hm : qs.length = m) (hm' : qs'.length = m') (h1 : m ≤ 1048576) (h2 : szT d l ≤ 1048576) (h2' : szT d l' ≤ 1048576) :
    Calls Tryz.prog 15 #[.agg #[.slice Aq m cq, .slice Ab nb cb], .agg #[.slice Aq' m' cq', .slice Ab' nb' cb']] w fun e w' =>
      e = .returned (.bool (eqPg qs qs' l l')) ∧ Below w.heap.size w w' ∧ w.heap.size ≤ w'.heap.size := by
  have HM := Lib.hid hm
  have HM' := Lib.hid hm'
  have HA := Lib.hid hra
  have HB := Lib.hid hrb
  have HA' := Lib.hid hra'
  have HB' := Lib.hid hrb'
  clear hm hm' hra hrb hra' hrb'
  go_enter Tryz.func15, Tryz.ntmps15
  go_wp2_with fail
  obtain ⟨w0, hw0⟩ : ∃ w0, w0 = (w.alloc (.cells #[.slice Aq m cq, .slice Ab nb cb] 27)).alloc (.cells #[.slice Aq' m' cq', .slice Ab' nb' cb'] 27) := ⟨_, rfl⟩
  rw [← hw0]
  have X0 := Lib.hid (show w0.heap[w.heap.size]? = some (.cells #[.slice Aq m cq, .slice Ab nb cb] 27 (0, 0)) by rw [hw0]; exact boxed2_0 _ _ _)
  have X1 := Lib.hid (show w0.heap[w.heap.size + 1]? = some (.cells #[.slice Aq' m' cq', .slice Ab' nb' cb'] 27 (0, 0)) by rw [hw0]; exact boxed2_1 _ _ _)
  have b0 : Below w.heap.size w w0 := by rw [hw0]; exact (by repeat (first | exact Below.refl _ _ | assumption | (refine Below.trans ?_ (Below.mono (by assumption) (by first | omega | (simp; done) | (simp; omega)))) | (with_reducible refine Below.drew ?_) | (with_reducible refine Below.alloc ?_ (by first | omega | (simp; done) | (simp; omega)) _) | (with_reducible refine Below.setCell ?_ (by first | omega | (simp; done) | (simp; omega)) _)))
  have s0 : w.heap.size ≤ w0.heap.size := b0.size
  clear hw0
  refine (sameStr_any _ _ _ _ _ _ qs qs' _ HM.out HM'.out (by omega) (HA.out.below b0) (HA'.out.below b0)).mono ?_
  rintro e w1 ⟨rfl, hq1⟩
  obtain ⟨b1, s1⟩ := below_quiet hq1
  clear hq1
  obtain ⟨_, p4⟩ := boxcells2 (lay := b1) X0.out
  obtain ⟨_, q4⟩ := boxcells2 (lay := b1) X1.out
  have b01 : Below w.heap.size w w1 := b0.trans (b1.mono s0)
  cases hs : eqBy eqSt qs qs'
  · have HF : Hid (eqPg qs qs' l l' = false) := Lib.hid (by simp [eqPg, hs])
    clear hs
    go_wp2_with fail
    go_ret
    exact ⟨by rw [HF.out]; rfl, b01, by omega⟩
  · have HF : Hid (eqPg qs qs' l l' = eqTs d l l') := Lib.hid (by simp [eqPg, hs])
    clear hs
    go_wp2_with fail
    refine (EqualStmts_impl d lo lo' _ _ _ _ _ _ l l' _ (HB.out.below b01) (HB'.out.below b01) h2 h2').mono ?_
    rintro e w2 ⟨rfl, b2, s2⟩
    go_wp2_with fail
    go_ret
    exact ⟨by rw [HF.out]; rfl, b01.trans (b2.mono (by omega)), by omega⟩
set_option maxRecDepth 100000 in
set_option maxHeartbeats 2000000 in
theorem EqualProgram_spec (d lo lo' : Nat) (m nb m' nb' : Nat) (qs qs' : List ByteArray) (l l' : List (Tr d)) (Aq : Option Addr) (cq : Nat) (Ab : Option Addr) (cb : Nat) (Aq' : Option Addr) (cq' : Nat) (Ab' : Option Addr) (cb' : Nat) (w : World)
    (hra : Rd w 1 Aq m (strs qs)) (hrb : RdT w lo d Ab nb l) (hra' : Rd w 1 Aq' m' (strs qs')) (hrb' : RdT w lo' d Ab' nb' l') (hm : qs.length = m) (hm' : qs'.length = m') (h1 : m ≤ 1048576) (h2 : szT d l ≤ 1048576) (h2' : szT d l' ≤ 1048576) :
    Calls Tryz.prog 14 #[.agg #[.slice Aq m cq, .slice Ab nb cb], .agg #[.slice Aq' m' cq', .slice Ab' nb' cb']] w fun e w' =>
      e = .returned (.bool (eqPg qs qs' l l')) ∧ Below w.heap.size w w' ∧ w.heap.size ≤ w'.heap.size := by
  have HM := Lib.hid hm
  have HM' := Lib.hid hm'
  have HA := Lib.hid hra
  have HB := Lib.hid hrb
  have HA' := Lib.hid hra'
  have HB' := Lib.hid hrb'
  clear hm hm' hra hrb hra' hrb'
  go_enter Tryz.func14, Tryz.ntmps14
  go_wp2_with fail
  obtain ⟨w0, hw0⟩ : ∃ w0, w0 = (w.alloc (.cells #[.slice Aq m cq, .slice Ab nb cb] 27)).alloc (.cells #[.slice Aq' m' cq', .slice Ab' nb' cb'] 27) := ⟨_, rfl⟩
  rw [← hw0]
  have X0 := Lib.hid (show w0.heap[w.heap.size]? = some (.cells #[.slice Aq m cq, .slice Ab nb cb] 27 (0, 0)) by rw [hw0]; exact boxed2_0 _ _ _)
  have X1 := Lib.hid (show w0.heap[w.heap.size + 1]? = some (.cells #[.slice Aq' m' cq', .slice Ab' nb' cb'] 27 (0, 0)) by rw [hw0]; exact boxed2_1 _ _ _)
  have b0 : Below w.heap.size w w0 := by rw [hw0]; exact (by repeat (first | exact Below.refl _ _ | assumption | (refine Below.trans ?_ (Below.mono (by assumption) (by first | omega | (simp; done) | (simp; omega)))) | (with_reducible refine Below.drew ?_) | (with_reducible refine Below.alloc ?_ (by first | omega | (simp; done) | (simp; omega)) _) | (with_reducible refine Below.setCell ?_ (by first | omega | (simp; done) | (simp; omega)) _)))
  have s0 : w.heap.size ≤ w0.heap.size := b0.size
  clear hw0
  refine (l17Texts_any _ _ _ _ _ _ qs qs' _ HM.out HM'.out (by omega) (HA.out.below b0) (HA'.out.below b0)).mono ?_
  rintro e w1 ⟨rfl, hq1⟩
  obtain ⟨b1, s1⟩ := below_quiet hq1
  clear hq1
  obtain ⟨_, p4⟩ := boxcells2 (lay := b1) X0.out
  obtain ⟨_, q4⟩ := boxcells2 (lay := b1) X1.out
  have b01 : Below w.heap.size w w1 := b0.trans (b1.mono s0)
  cases hs : eqBy eqSt qs qs'
  · have HF : Hid (eqPg qs qs' l l' = false) := Lib.hid (by simp [eqPg, hs])
    clear hs
    go_wp2_with fail
    go_ret
    exact ⟨by rw [HF.out]; rfl, b01, by omega⟩
  · have HF : Hid (eqPg qs qs' l l' = eqTs d l l') := Lib.hid (by simp [eqPg, hs])
    clear hs
    go_wp2_with fail
    refine (EqualStmts_spec d lo lo' _ _ _ _ _ _ l l' _ (HB.out.below b01) (HB'.out.below b01) h2 h2').mono ?_
    rintro e w2 ⟨rfl, hq2⟩
    obtain ⟨b2, s2⟩ := below_quiet hq2
    clear hq2
    go_wp2_with fail
    go_ret
    exact ⟨by rw [HF.out]; rfl, b01.trans (b2.mono (by omega)), by omega⟩
end Go.Proofs.YthkbckkghnbonaaGreatDoor
namespace Go.Proofs.YthkbckkghnbonaaGreatDoor
open Go.ChangeShapes Go.WideShapes Go.RowKit Go.Deep
theorem cells_byte : Tryz.prog.cellsOf 5 = 1 := by kernel_rfl
theorem trod_byte {H : Type} {enc : TypeId × Value → H} {w : World} {base : Nat} {spare : Nat → Bool} {held : Bool} (n : Nat) (cs : List Value) (y : DataW H × List MemPlace) (h : DataW.trod enc Tryz.prog w base spare held n 5 cs = some y) : ∃ g : Fin 256, cs = bcell g := by
  obtain ⟨a, e, h1, h2⟩ := DataW.trod_int Tryz.underlying5 h
  simp [Lit.wf, IntKind.min, IntKind.max, IntKind.signed, IntKind.bits] at h2
  exact ⟨⟨a.toNat, by omega⟩, by rw [e]; simp [bcell]; omega⟩
end Go.Proofs.YthkbckkghnbonaaGreatDoor
namespace Go.Proofs.YthkbckkghnbonaaGreatDoor
open Go.RowKit
set_option maxRecDepth 100000 in
theorem big_law (A : Option Addr) (n c : Nat) (w : World) (hn : n ≤ 9223372036854775807) : Calls Tryz.prog 7 #[.slice A n c] w fun e w' => e = .returned (.bool (decide (1048576 < n))) ∧ w = w' := by
  by_cases h : 1048576 < n
  · go_enter Tryz.func7, Tryz.ntmps7
    go_wp2_with fail
    go_ret
    exact ⟨by simp [h]; omega, rfl⟩
  · go_enter Tryz.func7, Tryz.ntmps7
    go_wp2_with fail
    go_ret
    exact ⟨by simp [h]; omega, rfl⟩
end Go.Proofs.YthkbckkghnbonaaGreatDoor
