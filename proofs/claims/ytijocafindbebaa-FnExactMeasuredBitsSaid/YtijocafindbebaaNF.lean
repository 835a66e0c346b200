/- Copying strings and statements: the copy lies in new memory, and no block of it is frozen. -/
import Derived.Test.YtijocafindbebaaTreeEq
namespace Go.Proofs.Ytijocafindbebaa
open Go.RowKit
set_option linter.unusedVariables false
/-- No block from lo on is frozen. -/
def NF (lo : Nat) (w : World) : Prop := ∀ b o, lo ≤ b → b < w.heap.size → w.frozen? ⟨b, o, none⟩ = false
theorem NF.refl (w : World) : NF w.heap.size w := fun _ _ h h' => absurd h' (by omega)
theorem NF.trans {lo : Nat} {w w' : World} (h : NF lo w) (hb : Below w.heap.size w w') (h' : NF w.heap.size w') : NF lo w' := fun b o h1 h2 => by
  rcases Nat.lt_or_ge b w.heap.size with hl | hl
  · rw [hb.frozen (p := ⟨b, o, none⟩) hl]
    exact h b o h1 hl
  · exact h' b o hl h2
theorem NF.setCell {lo : Nat} {w : World} (h : NF lo w) (p : Addr) (u : Value) : NF lo (w.setCell p u) := fun b o h1 h2 => by
  have h3 := h b o h1 (by simpa [World.setCell] using h2)
  simpa using h3
theorem NF.alloc {lo : Nat} {w : World} (h : NF lo w) (cs : Array Value) (t : TypeId) : NF lo (w.alloc (.cells cs t)) := fun b o h1 h2 => by
  rcases Nat.lt_or_ge b w.heap.size with hl | hl
  · rw [World.frozen?_of_block (w := w) (Below.heap_alloc w _ b hl)]
    exact h b o h1 hl
  · have e : b = w.heap.size := by
      simp at h2
      omega
    subst e
    exact World.frozen?_alloc_new w cs t o
theorem NF.drew {lo : Nat} {w : World} (h : NF lo w) : NF lo w.drew := h
theorem run_make_rowN {P : Program} (t e : TypeId) (i : TypeInfo) (z : Value) (ht : P.underlying t = some (.slice e)) (hi : P.info? e = some i) (hz : i.zero = some z)
    (kl kc : IntKind) (n c : Nat) (hnc : n ≤ c) (hbytes : i.bytes * c ≤ 281474976710656) (h63 : c ≤ 9223372036854775807) (w : World) :
    (Instr.makeSlice t (.int kl (n : Int)) (.int kc (c : Int))).run P w = .ok (.slice (some ⟨w.heap.size, 0, none⟩) n c) (w.alloc (.cells (madeCells z.cells (c * i.size)) e)) := by
  have hb : (i.bytes : Int) * (c : Int) ≤ 281474976710656 := by
    have h : ((i.bytes * c : Nat) : Int) ≤ 281474976710656 := by omega
    rwa [Int.natCast_mul] at h
  have hr := run_make (P := P) w t e i z ht hi hz kl kc n c (by omega) (by omega) hb (by omega)
  simp only [Int.toNat_natCast] at hr
  exact hr
theorem nf_make {P : Program} {t e : TypeId} {i : TypeInfo} {z v : Value} (ht : P.underlying t = some (.slice e)) (hi : P.info? e = some i) (hz : i.zero = some z)
    {n : Nat} (hbytes : i.bytes * n ≤ 281474976710656) (h63 : n ≤ 9223372036854775807) {w w1 : World} (h : (Instr.makeSlice t (.int .i64 (n : Int)) (.int .i64 (n : Int))).run P w = .ok v w1) : NF w.heap.size w1 := by
  have h2 := h.symm.trans (run_make_rowN t e i z ht hi hz .i64 .i64 n n (Nat.le_refl _) hbytes h63 w)
  injection h2 with _ h2
  rw [h2]
  exact (NF.refl w).alloc _ _
/-- A row of its own that is returned, nothing frozen. -/
def RetRowF (E size : Nat) (w : World) (n : Nat) (xs : List Value) (e : Ending) (w' : World) : Prop := RetRow E size w n xs e w' ∧ NF w.heap.size w'
set_option maxRecDepth 100000 in
set_option maxHeartbeats 1000000 in
theorem toStringS_nf (A : Option Addr) (n c : Nat) (l : List ByteArray) (w : World) (h : Rd w 1 A n (strs l)) (hl : l.length = n) (hn : n ≤ 1099511627776) :
    Calls Try.prog 25 #[.slice A n c] w (RetRowF 9 1 w n (strs l)) := by
  obtain ⟨i0, hi, hz0, hz1, hz2⟩ := info_parts info_str
  obtain ⟨w1, hrun, hown, hgr0⟩ := run_make_full (P := Try.prog) w w.heap.size 22 9 i0 _ 1 Try.underlying22 hi hz0 hz1 .i64 .i64 n (by rw [hz2]; omega) (by simp only [maxLen]; omega) (Nat.le_refl _)
  have n1 : NF w.heap.size w1 := nf_make Try.underlying22 hi hz0 (by rw [hz2]; omega) (by omega) hrun
  have H := Lib.hid h
  have HL := Lib.hid hl
  clear h hl hi hz0 hz1 hz2
  have b1 : Below w.heap.size w w1 := (Below.refl _ _).grown hgr0 (Nat.le_refl _) (by simp)
  obtain ⟨zs, hzs⟩ : ∃ zs, zs = (madeCells (Value.string ByteArray.empty).cells (n * 1)).toList := ⟨_, rfl⟩
  rw [← hzs] at hown
  have hzl := hown.1
  have HZ := Lib.hid hzl
  clear hzs hgr0 hzl
  go_enter Try.func25, Try.ntmps25
  go_wp2
  clear hrun
  go_loopw [4] (fun i wr => ∃ t : Nat, t ≤ n ∧ i = .int .i64 t ∧ wr.ownsRow w.heap.size 9 1 (.slice (some ⟨w.heap.size, 0, none⟩) n n) n (strs (l.take t) ++ zs.drop t) ∧ Below w.heap.size w wr ∧ NF w.heap.size wr) (fun i _ => n - (intOf i).toNat)
  case atStart => exact ⟨0, Nat.zero_le _, rfl, by simpa [strs] using hown, b1, n1⟩
  case round =>
    clear hown b1 n1
    obtain ⟨t, ht, rfl, hown, hb, hN⟩ := hrel
    by_cases hlt : t < n
    · have htl : t < l.length := by rw [HL.out]; exact hlt
      obtain ⟨s, hs⟩ : ∃ s, l[t]? = some s := ⟨_, List.getElem?_eq_getElem htl⟩
      obtain ⟨b, off, rfl, hbl, hc⟩ := H.out.2 (by omega)
      have q0 : wr.cell? ⟨b, off + t, none⟩ = some (.string s) := (hb.cell (by exact hbl)).trans (hc t _ (strs_at hs))
      have hf := hown.frozenAt t
      have hll := hown.1
      obtain ⟨y0, z0⟩ : ∃ y, wr.cell? ⟨w.heap.size, t, none⟩ = some y := ⟨_, (hown.cellAt t (by omega)).trans (List.getElem?_eq_getElem (by omega))⟩
      have HG := Lib.hid hs
      have HC := Lib.hid htl
      clear hc hs htl hll
      go_wp2_with fail
      go_roundw
      case rel =>
        have s0 := hown.stored t (.string s)
        rw [fill_step (by simp [strs, Nat.min_eq_left (Nat.le_of_lt HC.out)]) (by rw [HZ.out]; omega)] at s0
        refine ⟨t + 1, by omega, by go_num, ?_, hb.grown s0.2 hb.size (by simp), hN.setCell _ _⟩
        rw [List.take_add_one, HG.out]
        simpa [strs] using s0.1
      case measure => simp [intOf]; omega
    · obtain rfl : t = n := by omega
      go_wp2_with fail
      go_ret
      exact ⟨⟨_, rfl, by rw [List.drop_of_length_le (by rw [HZ.out]; omega), List.append_nil, List.take_of_length_le (by rw [HL.out]; exact Nat.le_refl _)] at hown; exact hown, hb, hb.size⟩, hN⟩
/-- A copy of statements that is returned, nothing frozen. -/
def RetTF (d n : Nat) (l : List (Tr d)) (w : World) (e : Ending) (w' : World) : Prop := RetT d n l w e w' ∧ NF w.heap.size w'
def RetSF (d nb : Nat) (k : Int) (word : ByteArray) (args : List ByteArray) (count : Int) (bd : List (Tr d)) (w : World) (e : Ending) (w' : World) : Prop := RetS d nb k word args count bd w e w' ∧ NF w.heap.size w'
def ToSaidF (d : Nat) : Prop := ∀ (lo : Nat) (A : Option Addr) (n c : Nat) (l : List (Tr d)) (w : World), RdT w lo d A n l → szT d l ≤ 1048576 → Calls Try.prog 26 #[.slice A n c] w (RetTF d n l w)
set_option maxRecDepth 100000 in
set_option maxHeartbeats 2000000 in
theorem toStmt_nf {d : Nat} (ih : ToSaidF d) (lo : Nat) (k : Int) (word : ByteArray) (args : List ByteArray) (count : Int) (bd : List (Tr d)) (Aa : Option Addr) (ca : Nat) (Ab : Option Addr) (nb cb : Nat) (w : World)
    (hra : RdL w lo 1 Aa args.length (strs args)) (hrb : RdT w lo d Ab nb bd) (h1 : args.length ≤ 1048576) (h2 : szT d bd ≤ 1048576) :
    Calls Try.prog 40 #[.agg #[.int .i64 k, .string word, .slice Aa args.length ca, .int .i64 count, .slice Ab nb cb]] w (RetSF d nb k word args count bd w) := by
  obtain ⟨m, hm⟩ : ∃ m, m = args.length := ⟨_, rfl⟩
  rw [← hm] at hra h1 ⊢
  have HM := Lib.hid hm
  have HA := Lib.hid hra
  have HB := Lib.hid hrb
  clear hm hra hrb
  go_enter Try.func40, Try.ntmps40
  go_wp2_with fail
  obtain ⟨w0, hw0⟩ : ∃ w0, w0 = ((w.alloc (.cells #[.int .i64 k, .string word, .slice Aa m ca, .int .i64 count, .slice Ab nb cb] 62)).alloc (.cells #[.int .i64 0, .string ⟨#[]⟩, .slice none 0 0, .int .i64 0, .slice none 0 0] 49)).alloc (.cells #[.int .i64 k, .string word, .slice none 0 0, .int .i64 0, .slice none 0 0] 49) := ⟨_, rfl⟩
  rw [← hw0]
  have x0 : w0.heap[w.heap.size]? = some (.cells #[.int .i64 k, .string word, .slice Aa m ca, .int .i64 count, .slice Ab nb cb] 62 (0, 0)) := by rw [hw0]; exact boxed3_0 _ _ _ _
  have x1 : w0.heap[w.heap.size + 1]? = some (.cells #[.int .i64 0, .string ⟨#[]⟩, .slice none 0 0, .int .i64 0, .slice none 0 0] 49 (0, 0)) := by rw [hw0]; exact boxed3_1 _ _ _ _
  have x2 : w0.heap[w.heap.size + 2]? = some (.cells #[.int .i64 k, .string word, .slice none 0 0, .int .i64 0, .slice none 0 0] 49 (0, 0)) := by rw [hw0]; exact boxed3_2 _ _ _ _
  have b0 : Below w.heap.size w w0 := by rw [hw0]; exact (by repeat (first | exact Below.refl _ _ | assumption | (refine Below.trans ?_ (Below.mono (by assumption) (by first | omega | (simp; done) | (simp; omega)))) | (with_reducible refine Below.drew ?_) | (with_reducible refine Below.alloc ?_ (by first | omega | (simp; done) | (simp; omega)) _) | (with_reducible refine Below.setCell ?_ (by first | omega | (simp; done) | (simp; omega)) _)))
  have n0 : NF w.heap.size w0 := by rw [hw0]; exact (((NF.refl w).alloc _ _).alloc _ _).alloc _ _
  have s0 : w.heap.size + 3 = w0.heap.size := by rw [hw0]; simp
  have S0 := Lib.hid s0
  have X0 := Lib.hid x0
  have X1 := Lib.hid x1
  have X2 := Lib.hid x2
  clear hw0 s0 x0 x1 x2
  refine (toStringS_nf _ _ _ args _ (HA.out.rd.below b0) HM.out.symm (by omega)).mono ?_
  rintro e w1 ⟨⟨v1, rfl, o1, b1, s1⟩, m1⟩
  have n1 := n0.trans b1 m1
  obtain ⟨A1, c1, rfl, _, _, _⟩ := rd_of_own o1
  obtain ⟨_, _, _, p3, p4⟩ := boxcells5 (lay := b1) X0.out
  obtain ⟨_, _, q2, q3, _⟩ := boxcells5 (lay := b1) X2.out
  have f2 := boxfree b1 X2.out 2
  have f3 := boxfree b1 X2.out 3
  go_wp2_with fail
  obtain ⟨w2, hw2⟩ : ∃ w2, w2 = (w1.setCell ⟨w.heap.size + 2, 2, none⟩ (.slice A1 m c1)).setCell ⟨w.heap.size + 2, 3, none⟩ (.int .i64 count) := ⟨_, rfl⟩
  rw [← hw2]
  have hS := S0.out
  have y1 : w2.heap[w.heap.size + 1]? = some (.cells #[.int .i64 0, .string ⟨#[]⟩, .slice none 0 0, .int .i64 0, .slice none 0 0] 49 (0, 0)) := by
    rw [hw2]; exact heap_set_far (heap_set_far ((b1.block _ (by omega)).trans X1.out) (by simp) _) (by simp) _
  have y2 : w2.heap[w.heap.size + 2]? = some (.cells #[.int .i64 k, .string word, .slice A1 m c1, .int .i64 count, .slice none 0 0] 49 (0, 0)) := by
    rw [hw2]; exact heap_set_self (heap_set_self ((b1.block _ (by omega)).trans X2.out) _) _
  have b2 : Below w.heap.size w w2 := by rw [hw2]; exact ((b0.trans (b1.mono (by omega))).setCell (by simp) _).setCell (by simp) _
  have n2 : NF w.heap.size w2 := by rw [hw2]; exact (n1.setCell _ _).setCell _ _
  have s2 : w1.heap.size = w2.heap.size := by rw [hw2, size_setCell, size_setCell]
  have r1 : RdL w2 (w.heap.size + 3) 1 A1 m (strs args) := by
    rw [hw2]; exact ((rdl_own o1).lower (by omega) |>.set_ (by simp) _).set_ (by simp) _
  have Y1 := Lib.hid y1
  have Y2 := Lib.hid y2
  have R1 := Lib.hid r1
  have S2 := Lib.hid s2
  clear hw2 y1 y2 r1 s2 p3 p4 q2 q3 f2 f3 o1 hS
  refine (ih lo _ _ _ bd _ (HB.out.below b2) h2).mono ?_
  rintro e w3 ⟨⟨A3, c3, rfl, r3, b3, s3⟩, m3⟩
  have n3 := n2.trans b3 m3
  have N3 := Lib.hid n3
  clear n3 m3 n2 m1 n1 n0
  obtain ⟨t0, t1, t2, t3, t4⟩ := boxcells5 (lay := b3) Y1.out
  obtain ⟨u0, u1, u2, u3, u4⟩ := boxcells5 (lay := b3) Y2.out
  have g0 := boxfree b3 Y1.out 0
  have g1 := boxfree b3 Y1.out 1
  have g2 := boxfree b3 Y1.out 2
  have g3 := boxfree b3 Y1.out 3
  have g4 := boxfree b3 Y1.out 4
  have g5 := boxfree b3 Y2.out 4
  have R3 := Lib.hid r3
  clear r3
  go_wp2_with fail
  have hS := S0.out
  have hS2 := S2.out
  refine bodyPost_ret (v := .agg #[.int .i64 k, .string word, .slice A1 m c1, .int .i64 count, .slice A3 nb c3]) (by simp [results, Try.results40, go_sem, t0, t1, t2, t3, t4]) rfl ⟨⟨A1, c1, A3, c3, by rw [← HM.out], ?_, ?_, ?_, ?_⟩, ?_⟩
  · rw [← HM.out]
    exact RdL.lower (lo := w.heap.size + 3) ((((((R1.out.below b3).set_ (by simp) _).set_ (by simp) _).set_ (by simp) _).set_ (by simp) _).set_ (by simp) _ |>.set_ (by simp) _) (by omega)
  · exact RdT.lower (lo := w2.heap.size) (by omega) ((((((R3.out.set_ (by simp; omega) _).set_ (by simp; omega) _).set_ (by simp; omega) _).set_ (by simp; omega) _).set_ (by simp; omega) _).set_ (by simp; omega) _)
  · exact (((((((b2.trans (b3.mono (by omega))).setCell (by first | omega | (simp; done) | (simp; omega)) _).setCell (by first | omega | (simp; done) | (simp; omega)) _).setCell (by first | omega | (simp; done) | (simp; omega)) _).setCell (by first | omega | (simp; done) | (simp; omega)) _).setCell (by first | omega | (simp; done) | (simp; omega)) _).setCell (by first | omega | (simp; done) | (simp; omega)) _)
  · simp [World.setCell]; omega
  · exact (((((N3.out.setCell _ _).setCell _ _).setCell _ _).setCell _ _).setCell _ _).setCell _ _
set_option maxRecDepth 100000 in
set_option maxHeartbeats 4000000 in
theorem toStmtS_nf : ∀ (d : Nat), ToSaidF d := by
  intro d
  induction d with
  | zero =>
    intro lo A n c l w h _
    obtain rfl := szT_zero_len h
    have hl := h.len
    have HL := Lib.hid hl
    clear hl
    obtain ⟨i0, hi, hz0, hz1, hz2⟩ := info_parts info_Stmt
    obtain ⟨w1, hrun, hown, hgr0⟩ := run_make_full (P := Try.prog) w w.heap.size 28 49 i0 _ 5 Try.underlying28 hi hz0 hz1 .i64 .i64 0 (by omega) (by decide) (Nat.le_refl _)
    have b1 : Below w.heap.size w w1 := (Below.refl _ _).grown hgr0 (Nat.le_refl _) (by simp)
    have hrun' : (Instr.makeSlice 28 (.int .i64 0) (.int .i64 0)).run Try.prog w = .ok (.slice (some ⟨w.heap.size, 0, none⟩) 0 0) w1 := hrun
    have n1 : NF w.heap.size w1 := nf_make Try.underlying28 hi hz0 (by rw [hz2]; omega) (by omega) hrun
    clear hown hgr0 hi hz0 hz1 hz2 hrun
    go_enter Try.func26, Try.ntmps26
    go_wp2
    refine wp_loop_rounds 1 ?_
    rw [rounds_succ]
    go_wp2
    go_ret
    exact ⟨⟨_, _, rfl, ⟨HL.out, rfl⟩, b1, b1.size⟩, n1⟩
  | succ d ih =>
    intro lo A n c l w h hsz
    rw [szT_succ] at hsz
    have hln := h.len
    have hn : n ≤ 1048576 := by omega
    have HQ := Lib.hid hsz
    obtain ⟨i0, hi, hz0, hz1, hz2⟩ := info_parts info_Stmt
    obtain ⟨w1, hrun, hown, hgr0⟩ := run_make_full (P := Try.prog) w w.heap.size 28 49 i0 _ 5 Try.underlying28 hi hz0 hz1 .i64 .i64 n (by rw [hz2]; omega) (by simp only [maxLen]; omega) (Nat.le_refl _)
    have n1 : NF w.heap.size w1 := nf_make Try.underlying28 hi hz0 (by rw [hz2]; omega) (by omega) hrun
    have H := Lib.hid h
    have HL := Lib.hid hln
    clear h hln hi hz0 hz1 hz2 hsz
    have b1 : Below w.heap.size w w1 := (Below.refl _ _).grown hgr0 (Nat.le_refl _) (by simp)
    have s1 := hown.lt w.heap.size rfl
    obtain ⟨zs, hzs⟩ : ∃ zs, zs = (madeCells (Value.agg #[.int .i64 0, .string ⟨#[]⟩, .slice none 0 0, .int .i64 0, .slice none 0 0]).cells (n * 5)).toList := ⟨_, rfl⟩
    rw [← hzs] at hown
    have hzl := hown.1
    have HZ := Lib.hid hzl
    clear hzs hgr0 hzl
    go_enter Try.func26, Try.ntmps26
    go_wp2
    clear hrun
    go_loopw [4] (fun i wr => ∃ (t : Nat) (vs : List (List Value)), t ≤ n ∧ i = .int .i64 t ∧ CopyUpto wr (w.heap.size + 1) d l t vs ∧ wr.ownsRow w.heap.size 49 5 (.slice (some ⟨w.heap.size, 0, none⟩) n n) n (vs.flatten ++ zs.drop (t * 5)) ∧ Below w.heap.size w wr ∧ NF w.heap.size wr) (fun i _ => n - (intOf i).toNat)
    case atStart => exact ⟨0, [], Nat.zero_le _, rfl, CopyUpto.nil, by simpa using hown, b1, n1⟩
    case round =>
      clear hown b1 s1 n1
      obtain ⟨t, vs, ht, rfl, hcp, hown, hb, hN⟩ := hrel
      have hgs := (hown.lt w.heap.size rfl).2
      by_cases hlt : t < n
      · obtain ⟨b, off, s, Aa, ca, Ab, nb, cb, rfl, hbl, hs, hcs, hra, hrb⟩ := (H.out.below hb).at_ hlt
        obtain ⟨q0, q1, q2, q3, q4⟩ := hcs
        have hme := szT_mem hs
        have hz1 : (hdT s).args.length ≤ 1048576 := by have := HQ.out; unfold szE at hme; omega
        have hz2 : szT d (bdT s) ≤ 1048576 := by have := HQ.out; unfold szE at hme; omega
        have HS := Lib.hid hs
        have HRa := Lib.hid hra
        have HRb := Lib.hid hrb
        have HCP := Lib.hid hcp
        clear hs hra hrb hcp hme
        go_wp2_with fail
        refine (toStmt_nf ih lo _ _ _ _ (bdT s) _ _ _ _ _ _ HRa.out HRb.out hz1 hz2).mono ?_
        rintro e w2 ⟨⟨A2, c2, A3, c3, rfl, r2, r3, hb2, hs2⟩, m2⟩
        have hN2 := hN.trans hb2 m2
        clear m2
        have hown2 := ownsRow_below hown hb2
        have hf := hown2.frozenAt
        have hz := hown2.cellAt
        have hll := hown2.1
        obtain ⟨y0, z0⟩ : ∃ y, w2.cell? ⟨w.heap.size, t * 5, none⟩ = some y := ⟨_, (hz _ (by omega)).trans (List.getElem?_eq_getElem (by omega))⟩
        obtain ⟨y1, z1⟩ : ∃ y, w2.cell? ⟨w.heap.size, t * 5 + 1, none⟩ = some y := ⟨_, (hz _ (by omega)).trans (List.getElem?_eq_getElem (by omega))⟩
        obtain ⟨y2, z2⟩ : ∃ y, w2.cell? ⟨w.heap.size, t * 5 + 2, none⟩ = some y := ⟨_, (hz _ (by omega)).trans (List.getElem?_eq_getElem (by omega))⟩
        obtain ⟨y3, z3⟩ : ∃ y, w2.cell? ⟨w.heap.size, t * 5 + 3, none⟩ = some y := ⟨_, (hz _ (by omega)).trans (List.getElem?_eq_getElem (by omega))⟩
        obtain ⟨y4, z4⟩ : ∃ y, w2.cell? ⟨w.heap.size, t * 5 + 4, none⟩ = some y := ⟨_, (hz _ (by omega)).trans (List.getElem?_eq_getElem (by omega))⟩
        have f0 := hf (t * 5)
        have f1 := hf (t * 5 + 1)
        have f2 := hf (t * 5 + 2)
        have f3 := hf (t * 5 + 3)
        have f4 := hf (t * 5 + 4)
        have R2 := Lib.hid r2
        have R3 := Lib.hid r3
        clear hf hz hll q0 q1 q2 q3 q4 r2 r3 hown
        go_wp2_with fail
        go_roundw
        case rel =>
          have hfl : vs.flatten.length = t * 5 := by rw [flatten_len HCP.out.2.1, HCP.out.1]
          have e0 := hown2.stored (t * 5) (.int .i64 (hdT s).k)
          have e1 := e0.1.stored (t * 5 + 1) (.string (hdT s).word)
          have e2 := e1.1.stored (t * 5 + 1 + 1) (.slice A2 (hdT s).args.length c2)
          have e3 := e2.1.stored (t * 5 + 1 + 1 + 1) (.int .i64 (hdT s).count)
          have e4 := e3.1.stored (t * 5 + 1 + 1 + 1 + 1) (.slice A3 nb c3)
          rw [fill_step hfl (by rw [HZ.out]; omega), fill_step (by simp [hfl]) (by rw [HZ.out]; omega), fill_step (by simp [hfl]) (by rw [HZ.out]; omega), fill_step (by simp [hfl]) (by rw [HZ.out]; omega), fill_step (by simp [hfl]) (by rw [HZ.out]; omega)] at e4
          rw [show t * 5 + 1 + 1 + 1 + 1 + 1 = (t + 1) * 5 from by omega] at e4
          have hlo : w.heap.size + 1 ≤ wr.heap.size := hgs
          have k1 := HCP.out.keep (fun b o _ hlt => hb2.cell hlt) hb2.size
          have k2 := k1.snoc (ca := c2) (cb := c3) HS.out (R2.out.lower hlo) (RdT.lower hlo R3.out)
          refine ⟨t + 1, vs ++ [scells (hdT s) A2 c2 A3 nb c3], by omega, by go_num, ?_, ?_, ?_, ?_⟩
          · exact ((((k2.set_ (by simp) _).set_ (by simp) _).set_ (by simp) _).set_ (by simp) _).set_ (by simp) _
          · rw [List.flatten_append]
            simpa [scells] using e4.1
          · exact (((((hb.trans (hb2.mono hb.size)).setCell (by simp) _).setCell (by simp) _).setCell (by simp) _).setCell (by simp) _).setCell (by simp) _
          · exact ((((hN2.setCell _ _).setCell _ _).setCell _ _).setCell _ _).setCell _ _
        case measure => simp [intOf]; omega
      · obtain rfl : t = n := by omega
        have HCP := Lib.hid hcp
        clear hcp
        go_wp2_with fail
        go_ret
        rw [List.drop_of_length_le (by rw [HZ.out]; exact Nat.le_refl _), List.append_nil] at hown
        exact ⟨⟨_, _, rfl, HCP.out.rdT HL.out hown (by omega) (Nat.le_refl _), hb, hb.size⟩, hN⟩
end Go.Proofs.Ytijocafindbebaa
