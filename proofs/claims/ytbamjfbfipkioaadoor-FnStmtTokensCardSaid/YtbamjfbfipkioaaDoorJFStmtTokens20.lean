/- What the calls that this law reaches answer, part 20 of 20. -/
import Derived.Test.YtbamjfbfipkioaaDoorJFStmtTokens19
import Derived.Test.YtbamjfbfipkioaaDoorJFStmtTokens14
import Derived.Test.YtbamjfbfipkioaaDoorJFStmtTokens16
import Derived.Test.YtbamjfbfipkioaaDoorJFStmtTokens17
import Derived.Test.YtbamjfbfipkioaaDoorJFStmtTokens4
import Derived.Test.YtbamjfbfipkioaaDoorJFStmtTokens1
import Derived.Test.YtbamjfbfipkioaaDoorProg
import Derived.Test.YtbamjfbfipkioaaDoorJFStmtTokens7
namespace Go.Proofs.YtbamjfbfipkioaaDoor
open Go.RowKit
set_option linter.unusedVariables false
theorem headV_no {k : Int} (h : inB k 1 7 = false) (word : ByteArray) (na : Nat) (count : Int) (nb : Nat) : headV k word na count nb = false := by simp [headV, h]
theorem vR3_one {d : Nat} {k : Int} {word : ByteArray} {args : List ByteArray} {count : Int} {bd : List (Tr d)} : vR3 k word args count bd.length (validT d bd) = vOne d (validT d) ⟨k, word, args, count⟩ bd := rfl
set_option maxRecDepth 100000 in
set_option maxHeartbeats 2000000 in
theorem vst_impl_no (k : Int) (word : ByteArray) (args : List ByteArray) (count : Int) (Aa : Option Addr) (ca : Nat) (Ab : Option Addr) (nb cb : Nat) (w : World) (rs : List Bool) (hk : inB k 1 7 = false) :
    Calls Tryd.prog 10 #[.agg #[.int .i64 k, .string word, .slice Aa args.length ca, .int .i64 count, .slice Ab nb cb]] w fun e w' => e = .returned (.bool (vRes k word args count nb rs)) ∧ Below w.heap.size w w' ∧ w.heap.size ≤ w'.heap.size := by
  have hk' := inB_not.1 hk
  have HF := Lib.hid (vRes_h (rs := rs) (headV_no hk word args.length count nb))
  have e1 : (k == 1) = false := beq_eq_false_iff_ne.2 (by omega)
  have e2 : (k == 2) = false := beq_eq_false_iff_ne.2 (by omega)
  have e3 : (k == 3) = false := beq_eq_false_iff_ne.2 (by omega)
  have e4 : (k == 4) = false := beq_eq_false_iff_ne.2 (by omega)
  have e5 : (k == 5) = false := beq_eq_false_iff_ne.2 (by omega)
  have e6 : (k == 6) = false := beq_eq_false_iff_ne.2 (by omega)
  have e7 : (k == 7) = false := beq_eq_false_iff_ne.2 (by omega)
  obtain ⟨m, hm⟩ : ∃ m, m = args.length := ⟨_, rfl⟩
  rw [← hm]
  clear hk hk' hm
  go_enter Tryd.func10, Tryd.ntmps10
  go_wp2_with fail
  go_ret
  exact ⟨by rw [HF.out]; rfl, (by repeat (first | exact Below.refl _ _ | assumption | (refine Below.trans ?_ (Below.mono (by assumption) (by first | omega | (simp; done) | (simp; omega)))) | (with_reducible refine Below.drew ?_) | (with_reducible refine Below.alloc ?_ (by first | omega | (simp; done) | (simp; omega)) _) | (with_reducible refine Below.setCell ?_ (by first | omega | (simp; done) | (simp; omega)) _))), (by first | omega | (simp; done) | (simp; omega))⟩
theorem vst_impl_k (k : Int) (word : ByteArray) (args : List ByteArray) (count : Int) (Aa : Option Addr) (ca : Nat) (Ab : Option Addr) (nb cb : Nat) (w : World) (rs : List Bool) (hra : Rd w 1 Aa args.length (strs args)) (hG : GN w) (hz : szS args ≤ 1048576) (hl : args.length ≤ 1048576) (hn : nb ≤ 1048576) (hrs : rs.length = nb) (hel : Elts 10 w Ab nb rs) :
    Calls Tryd.prog 10 #[.agg #[.int .i64 k, .string word, .slice Aa args.length ca, .int .i64 count, .slice Ab nb cb]] w fun e w' => e = .returned (.bool (vRes k word args count nb rs)) ∧ Below w.heap.size w w' ∧ w.heap.size ≤ w'.heap.size := by
  cases hk : inB k 1 7
  · exact vst_impl_no k word args count Aa ca Ab nb cb w rs hk
  · have h := inB_iff.1 hk
    have hc : k = 1 ∨ k = 2 ∨ k = 3 ∨ k = 4 ∨ k = 5 ∨ k = 6 ∨ k = 7 := by omega
    rcases hc with rfl | rfl | rfl | rfl | rfl | rfl | rfl
    · exact vst_impl_1 word args count Aa ca Ab nb cb w rs hra hG hz hl hn hrs hel
    · exact vst_impl_2 word args count Aa ca Ab nb cb w rs hra hG hz hl hn hrs hel
    · exact vst_impl_3 word args count Aa ca Ab nb cb w rs hra hG hz hl hn hrs hel
    · exact vst_impl_4 word args count Aa ca Ab nb cb w rs hra hG hz hl hn hrs hel
    · exact vst_impl_5 word args count Aa ca Ab nb cb w rs hra hG hz hl hn hrs hel
    · exact vst_impl_6 word args count Aa ca Ab nb cb w rs hra hG hz hl hn hrs hel
    · exact vst_impl_7 word args count Aa ca Ab nb cb w rs hra hG hz hl hn hrs hel
def VSaidI (d : Nat) : Prop := ∀ (lo : Nat) (k : Int) (word : ByteArray) (args : List ByteArray) (count : Int) (bd : List (Tr d)) (Aa : Option Addr) (ca : Nat) (Ab : Option Addr) (nb cb : Nat) (w : World), RdL w lo 1 Aa args.length (strs args) → RdT w lo d Ab nb bd → GN w → szS args ≤ 1048576 → args.length ≤ 1048576 → szT d bd ≤ 1048576 →
  Calls Tryd.prog 10 #[.agg #[.int .i64 k, .string word, .slice Aa args.length ca, .int .i64 count, .slice Ab nb cb]] w fun e w' => e = .returned (.bool (vOne d (validT d) ⟨k, word, args, count⟩ bd)) ∧ Below w.heap.size w w' ∧ w.heap.size ≤ w'.heap.size
theorem IsValidStmt_impl : ∀ (d : Nat), VSaidI d := by
  intro d
  induction d with
  | zero =>
    intro lo k word args count bd Aa ca Ab nb cb w hra hrb hG hz hl hsz
    obtain rfl := szT_zero_len hrb
    obtain rfl : bd = [] := List.eq_nil_of_length_eq_zero hrb.len
    exact (vst_impl_k k word args count Aa ca Ab 0 cb w [] hra.rd hG hz hl (by omega) rfl (fun t ht => absurd ht (by omega))).mono fun e w' ⟨h1, h2⟩ => ⟨by rw [h1]; exact congrArg (fun b => Ending.returned (Value.bool b)) (vRes_one (d := 0) (bd := []) rfl), h2⟩
  | succ d ih =>
    intro lo k word args count bd Aa ca Ab nb cb w hra hrb hG hz hl hsz
    have hlen := hrb.len
    subst hlen
    have hn : bd.length ≤ 1048576 := by rw [szT_succ] at hsz; omega
    refine (vst_impl_k k word args count Aa ca Ab bd.length cb w (bd.map fun s => vOne d (validT d) (hdT s) (bdT s)) hra.rd hG hz hl hn (by simp) (fun t ht => ?_)).mono fun e w' ⟨h1, h2⟩ => ⟨by rw [h1]; exact congrArg (fun b => Ending.returned (Value.bool b)) (vRes_one (rs_valid bd)), h2⟩
    obtain ⟨b, off, s, Aa', ca', Ab', nb', cb', rfl, hbl, hs, ⟨c0, c1, c2, c3, c4⟩, h2, h3⟩ := hrb.at_ ht
    refine ⟨b, off, (hdT s).k, (hdT s).word, Aa', (hdT s).args.length, ca', (hdT s).count, Ab', nb', cb', _, rfl, hbl, ⟨c0, c1, c2, c3, c4⟩, by rw [List.getElem?_map, hs]; rfl, fun w' hw' => ?_⟩
    have hme := szT_mem hs
    have hq := hsz
    rw [szT_succ] at hq
    unfold szE at hme
    exact ih lo _ _ _ _ (bdT s) _ _ _ _ _ _ (h2.below hw') (h3.below hw') (hG.below hw') (by omega) (by omega) (by omega)
set_option maxRecDepth 100000 in
set_option maxHeartbeats 2000000 in
theorem vst_spec_no (k : Int) (word : ByteArray) (args : List ByteArray) (count : Int) (Aa : Option Addr) (ca : Nat) (Ab : Option Addr) (nb cb : Nat) (w : World) (V : Bool) (hk : inB k 1 7 = false) :
    Calls Tryd.prog 11 #[.agg #[.int .i64 k, .string word, .slice Aa args.length ca, .int .i64 count, .slice Ab nb cb]] w fun e w' => e = .returned (.bool (vR3 k word args count nb V)) ∧ Below w.heap.size w w' ∧ w.heap.size ≤ w'.heap.size := by
  have HF := Lib.hid (vR3_h (V := V) (args := args) (headV_no hk word args.length count nb))
  obtain ⟨m, hm⟩ : ∃ m, m = args.length := ⟨_, rfl⟩
  rw [← hm]
  clear hm
  obtain ⟨w0, hw0⟩ : ∃ w0, w0 = w.alloc (.cells #[.int .i64 k, .string word, .slice Aa m ca, .int .i64 count, .slice Ab nb cb] 27) := ⟨_, rfl⟩
  have X0 := Lib.hid (show w0.heap[w.heap.size]? = some (.cells #[.int .i64 k, .string word, .slice Aa m ca, .int .i64 count, .slice Ab nb cb] 27 (0, 0)) by rw [hw0]; exact boxed1_0 _ _)
  have b0 : Below w.heap.size w w0 := by rw [hw0]; exact (by repeat (first | exact Below.refl _ _ | assumption | (refine Below.trans ?_ (Below.mono (by assumption) (by first | omega | (simp; done) | (simp; omega)))) | (with_reducible refine Below.drew ?_) | (with_reducible refine Below.alloc ?_ (by first | omega | (simp; done) | (simp; omega)) _) | (with_reducible refine Below.setCell ?_ (by first | omega | (simp; done) | (simp; omega)) _)))
  have hs0 : w.heap.size ≤ w0.heap.size := b0.size
  have B0 := Lib.hid b0
  have HW := Lib.hid hw0
  clear b0 hw0
  go_enter Tryd.func11, Tryd.ntmps11
  go_wp2_with fail
  rw [← HW.out]
  refine (l17Args_any _ _ _ _ _ _ ⟨_, _, _, rfl⟩ ⟨_, _, _, rfl⟩).mono ?_
  rintro e w1 ⟨rfl, b1, s1⟩
  obtain ⟨p0, p1, p2, p3, p4⟩ := boxcells5 (lay := b1) X0.out
  have hB1 : Below w.heap.size w w1 := B0.out.trans (b1.mono hs0)
  have HBB := Lib.hid hB1
  have hS1 : w.heap.size ≤ w1.heap.size := hB1.size
  clear hB1
  go_wp2_with (go_at_call 30; refine (l1In_any _ _ _ _).mono ?_; rintro e w' ⟨rfl, rfl⟩)
  go_ret
  exact ⟨by rw [HF.out]; rfl, HBB.out, hS1⟩
theorem vst_spec_k (k : Int) (word : ByteArray) (args : List ByteArray) (count : Int) (Aa : Option Addr) (ca : Nat) (Ab : Option Addr) (nb cb : Nat) (w : World) (V : Bool) (hra : Rd w 1 Aa args.length (strs args)) (hz : szS args ≤ 1048576) (hl : args.length ≤ 1048576) (hn : nb ≤ 1048576)
    (hall : ∀ w', Below w.heap.size w w' → Calls Tryd.prog 32 #[.slice Ab nb cb] w' fun e w'' => e = .returned (.bool V) ∧ Below w'.heap.size w' w'' ∧ w'.heap.size ≤ w''.heap.size) :
    Calls Tryd.prog 11 #[.agg #[.int .i64 k, .string word, .slice Aa args.length ca, .int .i64 count, .slice Ab nb cb]] w fun e w' => e = .returned (.bool (vR3 k word args count nb V)) ∧ Below w.heap.size w w' ∧ w.heap.size ≤ w'.heap.size := by
  cases hk : inB k 1 7
  · exact vst_spec_no k word args count Aa ca Ab nb cb w V hk
  · have h := inB_iff.1 hk
    have hc : k = 1 ∨ k = 2 ∨ k = 3 ∨ k = 4 ∨ k = 5 ∨ k = 6 ∨ k = 7 := by omega
    rcases hc with rfl | rfl | rfl | rfl | rfl | rfl | rfl
    · exact vst_spec_1 word args count Aa ca Ab nb cb w V hra hz hl hn hall
    · exact vst_spec_2 word args count Aa ca Ab nb cb w V hra hz hl hn hall
    · exact vst_spec_3 word args count Aa ca Ab nb cb w V hra hz hl hn hall
    · exact vst_spec_4 word args count Aa ca Ab nb cb w V hra hz hl hn hall
    · exact vst_spec_5 word args count Aa ca Ab nb cb w V hra hz hl hn hall
    · exact vst_spec_6 word args count Aa ca Ab nb cb w V hra hz hl hn hall
    · exact vst_spec_7 word args count Aa ca Ab nb cb w V hra hz hl hn hall
def AllSaid (d : Nat) : Prop := ∀ (lo : Nat) (A : Option Addr) (n c : Nat) (l : List (Tr d)) (w : World), RdT w lo d A n l → szT d l ≤ 1048576 →
  Calls Tryd.prog 32 #[.slice A n c] w fun e w' => e = .returned (.bool (validT d l)) ∧ Below w.heap.size w w' ∧ w.heap.size ≤ w'.heap.size
def VSaidS (d : Nat) : Prop := ∀ (lo : Nat) (k : Int) (word : ByteArray) (args : List ByteArray) (count : Int) (bd : List (Tr d)) (Aa : Option Addr) (ca : Nat) (Ab : Option Addr) (nb cb : Nat) (w : World), RdL w lo 1 Aa args.length (strs args) → RdT w lo d Ab nb bd → szS args ≤ 1048576 → args.length ≤ 1048576 → szT d bd ≤ 1048576 →
  Calls Tryd.prog 11 #[.agg #[.int .i64 k, .string word, .slice Aa args.length ca, .int .i64 count, .slice Ab nb cb]] w fun e w' => e = .returned (.bool (vOne d (validT d) ⟨k, word, args, count⟩ bd)) ∧ Below w.heap.size w w' ∧ w.heap.size ≤ w'.heap.size
theorem one_of_all {d : Nat} (h : AllSaid d) : VSaidS d := by
  intro lo k word args count bd Aa ca Ab nb cb w hra hrb hz hl hsz
  have hlen := hrb.len
  subst hlen
  have hn : bd.length ≤ 1048576 := by
    cases d with
    | zero => have := szT_zero_len hrb; omega
    | succ d => rw [szT_succ] at hsz; omega
  exact (vst_spec_k k word args count Aa ca Ab bd.length cb w (validT d bd) hra.rd hz hl hn (fun w' hw' => h lo _ _ _ bd w' (hrb.below hw') hsz))
set_option maxRecDepth 100000 in
set_option maxHeartbeats 2000000 in
theorem l17All_any : ∀ (d : Nat), AllSaid d := by
  intro d
  induction d with
  | zero =>
    intro lo A n c l w h _
    obtain rfl := szT_zero_len h
    go_enter Tryd.func32, Tryd.ntmps32
    go_wp2
    refine wp_loop_rounds 1 ?_
    rw [rounds_succ]
    go_wp2
    go_ret
    exact ⟨rfl, Below.refl _ _, Nat.le_refl _⟩
  | succ d ih =>
    intro lo A n c l w h hsz
    have hq := hsz
    rw [szT_succ] at hq
    have hl := h.len
    have hn : n ≤ 1048576 := by omega
    have H := Lib.hid h
    have HL := Lib.hid hl
    have ih' := Lib.hid (one_of_all ih)
    have HQ := Lib.hid hq
    clear h hl hsz hq
    go_enter Tryd.func32, Tryd.ntmps32
    go_wp2
    go_loopw [3] (fun i wr => ∃ t : Nat, t ≤ n ∧ i = .int .i64 t ∧ validT (d + 1) (l.take t) = true ∧ Below w.heap.size w wr) (fun i _ => n - (intOf i).toNat)
    case atStart => exact ⟨0, Nat.zero_le _, rfl, rfl, Below.refl _ _⟩
    case round =>
      obtain ⟨t, ht, rfl, hok, hb⟩ := hrel
      have HOK := Lib.hid hok
      have hbs := hb.size
      clear hok
      by_cases hlt : t < n
      · obtain ⟨b, off, s, Aa', ca', Ab', nb', cb', rfl, hbl, hs, ⟨c0, c1, c2, c3, c4⟩, h2, h3⟩ := (H.out.below hb).at_ hlt
        have hme := szT_mem hs
        unfold szE at hme
        have hq := HQ.out
        have HC := Lib.hid (ih'.out lo (hdT s).k (hdT s).word (hdT s).args (hdT s).count (bdT s) Aa' ca' Ab' nb' cb' wr h2 h3 (by omega) (by omega) (by omega))
        obtain ⟨V, hV⟩ : ∃ V, V = vOne d (validT d) (hdT s) (bdT s) := ⟨_, rfl⟩
        have HV := Lib.hid hV
        have HS := Lib.hid hs
        have HC2 : Hid (Calls Tryd.prog 11 #[.agg #[.int .i64 (hdT s).k, .string (hdT s).word, .slice Aa' (hdT s).args.length ca', .int .i64 (hdT s).count, .slice Ab' nb' cb']] wr fun e w' => e = .returned (.bool V) ∧ Below wr.heap.size wr w' ∧ wr.heap.size ≤ w'.heap.size) := by
          rw [hV]
          exact HC.out
        clear hV hs hme hq HC h2 h3
        cases V
        · have HF := Lib.hid (show validT (d + 1) l = false by
            simp only [validT]
            rw [List.all_eq_false]
            exact ⟨s, List.mem_of_getElem? HS.out, by rw [← HV.out]; simp⟩)
          go_wp2_with fail
          refine HC2.out.mono ?_
          rintro e w2 ⟨rfl, hb2, hs2⟩
          go_wp2_with fail
          go_ret
          exact ⟨by rw [HF.out]; rfl, hb.trans (hb2.mono hbs), by omega⟩
        · have HN := Lib.hid (show validT (d + 1) (l.take (t + 1)) = true by
            have h := HOK.out
            simp only [validT] at h ⊢
            rw [all_take _ HS.out, h, ← HV.out]
            rfl)
          go_wp2_with fail
          refine HC2.out.mono ?_
          rintro e w2 ⟨rfl, hb2, hs2⟩
          go_wp2_with fail
          go_roundw
          case rel => exact ⟨t + 1, by omega, by go_num, HN.out, hb.trans (hb2.mono hbs)⟩
          case measure => simp [intOf]; omega
      · obtain rfl : t = n := by omega
        have HF : Hid (validT (d + 1) l = true) := by
          have h := HOK.out
          rw [List.take_of_length_le (by rw [HL.out]; exact Nat.le_refl _)] at h
          exact h
        go_wp2_with fail
        go_ret
        exact ⟨by rw [HF.out]; rfl, hb, hb.size⟩
theorem IsValidStmt_spec (d : Nat) : VSaidS d := one_of_all (l17All_any d)
end Go.Proofs.YtbamjfbfipkioaaDoor
namespace Go.Proofs.YtbamjfbfipkioaaDoor
open Go.RowKit
set_option linter.unusedVariables false
/-- The tokens that StmtTokens answers. -/
def stToks (V : Bool) (L : List Tk) : List Tk := if V then L else []
theorem stToks_t (L : List Tk) : stToks true L = L := rfl
theorem stToks_f (L : List Tk) : stToks false L = [] := rfl
theorem stToks_len (V : Bool) (L : List Tk) : (stToks V L).length ≤ L.length := by cases V <;> simp [stToks]
set_option maxRecDepth 100000 in
set_option maxHeartbeats 1000000 in
theorem toks_spec_no (k : Int) (word : ByteArray) (count : Int) (Aa : Option Addr) (m ca : Nat) (Ab : Option Addr) (nb cb : Nat) (w : World)
    (hval : ∀ w', Below w.heap.size w w' → Calls Tryd.prog 11 #[.agg #[.int .i64 k, .string word, .slice Aa m ca, .int .i64 count, .slice Ab nb cb]] w' fun e w'' => e = .returned (.bool false) ∧ Below w'.heap.size w' w'' ∧ w'.heap.size ≤ w''.heap.size) :
    Calls Tryd.prog 9 #[.agg #[.int .i64 k, .string word, .slice Aa m ca, .int .i64 count, .slice Ab nb cb]] w (RetTk w []) := by
  have HV := Lib.hid hval
  clear hval
  go_enter Tryd.func9, Tryd.ntmps9
  go_wp2_with fail
  refine (HV.out _ (by repeat (first | exact Below.refl _ _ | assumption | (refine Below.trans ?_ (Below.mono (by assumption) (by first | omega | (simp; done) | (simp; omega)))) | (with_reducible refine Below.drew ?_) | (with_reducible refine Below.alloc ?_ (by first | omega | (simp; done) | (simp; omega)) _) | (with_reducible refine Below.setCell ?_ (by first | omega | (simp; done) | (simp; omega)) _)))).mono ?_
  rintro e w1 ⟨rfl, b1, s1⟩
  have hb1 : Below w.heap.size w w1 := ((Below.refl _ _).alloc (Nat.le_refl _) _).trans (b1.mono (by simp))
  have hs1 := hb1.size
  clear b1 s1
  go_wp2_with fail
  go_ret
  exact ⟨_, rfl, own_low (own_empty w1 _ 2) hs1, (by repeat (first | exact Below.refl _ _ | assumption | (refine Below.trans ?_ (Below.mono (by assumption) (by first | omega | (simp; done) | (simp; omega)))) | (with_reducible refine Below.drew ?_) | (with_reducible refine Below.alloc ?_ (by first | omega | (simp; done) | (simp; omega)) _) | (with_reducible refine Below.setCell ?_ (by first | omega | (simp; done) | (simp; omega)) _))), (by first | omega | (simp; done) | (simp; omega))⟩
def TkSaidS (d : Nat) : Prop := ∀ (lo : Nat) (k : Int) (word : ByteArray) (args : List ByteArray) (count : Int) (bd : List (Tr d)) (Aa : Option Addr) (ca : Nat) (Ab : Option Addr) (nb cb : Nat) (w : World), RdL w lo 1 Aa args.length (strs args) → RdT w lo d Ab nb bd → szS args ≤ 1048576 → args.length ≤ 1048576 → szT d bd ≤ 1048576 → vOne d (validT d) ⟨k, word, args, count⟩ bd = true →
  Calls Tryd.prog 9 #[.agg #[.int .i64 k, .string word, .slice Aa args.length ca, .int .i64 count, .slice Ab nb cb]] w (RetTk w (toks1 ⟨k, word, args, count⟩ (toksT d bd)))
theorem toks_spec_k (k : Int) (hk : 1 ≤ k ∧ k ≤ 7) (word : ByteArray) (args : List ByteArray) (count : Int) (Aa : Option Addr) (m ca : Nat) (Ab : Option Addr) (nb cb : Nat) (w : World) (rs : List (List Tk)) (hm : args.length = m) (hra : Rd w 1 Aa m (strs args)) (hl : m ≤ 1048576) (hn : nb ≤ 1048576) (hrs : rs.length = nb) (hel : EltsT 9 w Ab nb rs) (hR : rs.flatten.length ≤ 1099511627776) (hc : k = 2 → 1 ≤ count ∧ count ≤ 9)
    (hval : ∀ w', Below w.heap.size w w' → Calls Tryd.prog 11 #[.agg #[.int .i64 k, .string word, .slice Aa m ca, .int .i64 count, .slice Ab nb cb]] w' fun e w'' => e = .returned (.bool true) ∧ Below w'.heap.size w' w'' ∧ w'.heap.size ≤ w''.heap.size) :
    Calls Tryd.prog 9 #[.agg #[.int .i64 k, .string word, .slice Aa m ca, .int .i64 count, .slice Ab nb cb]] w (RetTk w (toks1 ⟨k, word, args, count⟩ rs.flatten)) := by
  have h : k = 1 ∨ k = 2 ∨ k = 3 ∨ k = 4 ∨ k = 5 ∨ k = 6 ∨ k = 7 := by omega
  rcases h with rfl | rfl | rfl | rfl | rfl | rfl | rfl
  · exact toks_spec_1 word args count Aa m ca Ab nb cb w rs hm hra hl hn hrs hel hR hval
  · exact toks_spec_2 word args count Aa m ca Ab nb cb w rs hm hra hl hn hrs hel hR (hc rfl).1 (hc rfl).2 hval
  · exact toks_spec_3 word args count Aa m ca Ab nb cb w rs hm hra hl hn hrs hel hR hval
  · exact toks_spec_4 word args count Aa m ca Ab nb cb w rs hm hra hl hn hrs hel hR hval
  · exact toks_spec_5 word args count Aa m ca Ab nb cb w rs hm hra hl hn hrs hel hR hval
  · exact toks_spec_6 word args count Aa m ca Ab nb cb w rs hm hra hl hn hrs hel hR hval
  · exact toks_spec_7 word args count Aa m ca Ab nb cb w rs hm hra hl hn hrs hel hR hval
theorem StmtTokens_spec_v : ∀ (d : Nat), TkSaidS d := by
  intro d
  induction d with
  | zero =>
    intro lo k word args count bd Aa ca Ab nb cb w hra hrb hz hl hsz hv
    obtain rfl := szT_zero_len hrb
    obtain rfl : bd = [] := List.eq_nil_of_length_eq_zero hrb.len
    obtain ⟨h1, h2, _⟩ := vOne_facts hv
    exact toks_spec_k k h1 word args count Aa _ ca Ab 0 cb w [] rfl hra.rd hl (by omega) rfl (fun t ht => absurd ht (by omega)) (by simp) h2 (fun w' hw' => by
      have := IsValidStmt_spec 0 lo k word args count [] Aa ca Ab 0 cb w' (hra.below hw') (hrb.below hw') hz hl hsz
      rwa [hv] at this)
  | succ d ih =>
    intro lo k word args count bd Aa ca Ab nb cb w hra hrb hz hl hsz hv
    have hlen := hrb.len
    subst hlen
    have hn : bd.length ≤ 1048576 := by rw [szT_succ] at hsz; omega
    obtain ⟨h1, h2, h3⟩ := vOne_facts hv
    have htl := toksT_len (d + 1) bd
    rw [toksT_succ] at htl ⊢
    refine toks_spec_k k h1 word args count Aa _ ca Ab bd.length cb w _ rfl hra.rd hl hn (by simp) (fun t ht => ?_) (by omega) h2 (fun w' hw' => by
      have := IsValidStmt_spec (d + 1) lo k word args count bd Aa ca Ab bd.length cb w' (hra.below hw') (hrb.below hw') hz hl hsz
      rwa [hv] at this)
    obtain ⟨b, off, s, Aa', ca', Ab', nb', cb', rfl, hbl, hs, ⟨c0, c1, c2, c3, c4⟩, g2, g3⟩ := hrb.at_ ht
    refine ⟨b, off, (hdT s).k, (hdT s).word, Aa', (hdT s).args.length, ca', (hdT s).count, Ab', nb', cb', _, rfl, hbl, ⟨c0, c1, c2, c3, c4⟩, by rw [List.getElem?_map, hs]; rfl, fun w' hw' => ?_⟩
    have hme := szT_mem hs
    have hq := hsz
    rw [szT_succ] at hq
    unfold szE at hme
    exact ih lo _ _ _ _ (bdT s) _ _ _ _ _ _ (g2.below hw') (g3.below hw') (by omega) (by omega) (by omega) (validT_mem h3 hs)
theorem StmtTokens_spec (d lo : Nat) (k : Int) (word : ByteArray) (args : List ByteArray) (count : Int) (bd : List (Tr d)) (Aa : Option Addr) (ca : Nat) (Ab : Option Addr) (nb cb : Nat) (w : World) (hra : RdL w lo 1 Aa args.length (strs args)) (hrb : RdT w lo d Ab nb bd) (hz : szS args ≤ 1048576) (hl : args.length ≤ 1048576) (hsz : szT d bd ≤ 1048576) :
    Calls Tryd.prog 9 #[.agg #[.int .i64 k, .string word, .slice Aa args.length ca, .int .i64 count, .slice Ab nb cb]] w (RetTk w (stToks (vOne d (validT d) ⟨k, word, args, count⟩ bd) (toks1 ⟨k, word, args, count⟩ (toksT d bd)))) := by
  cases hv : vOne d (validT d) ⟨k, word, args, count⟩ bd
  · rw [stToks_f]
    exact toks_spec_no k word count Aa _ ca Ab nb cb w (fun w' hw' => by
      have := IsValidStmt_spec d lo k word args count bd Aa ca Ab nb cb w' (hra.below hw') (hrb.below hw') hz hl hsz
      rwa [hv] at this)
  · rw [stToks_t]
    exact StmtTokens_spec_v d lo k word args count bd Aa ca Ab nb cb w hra hrb hz hl hsz hv
set_option maxRecDepth 100000 in
set_option maxHeartbeats 1000000 in
theorem StmtTokens_impl (d lo : Nat) (k : Int) (word : ByteArray) (args : List ByteArray) (count : Int) (bd : List (Tr d)) (Aa : Option Addr) (ca : Nat) (Ab : Option Addr) (nb cb : Nat) (w : World) (hra : RdL w lo 1 Aa args.length (strs args)) (hrb : RdT w lo d Ab nb bd) (hG : GN w) (hz : szS args ≤ 1048576) (hl : args.length ≤ 1048576) (hsz : szT d bd ≤ 1048576) :
    Calls Tryd.prog 7 #[.agg #[.int .i64 k, .string word, .slice Aa args.length ca, .int .i64 count, .slice Ab nb cb]] w (RetTk w (stToks (vOne d (validT d) ⟨k, word, args, count⟩ bd) (toks1 ⟨k, word, args, count⟩ (toksT d bd)))) := by
  obtain ⟨w0, hw0⟩ : ∃ w0, w0 = w.alloc (.cells #[.int .i64 k, .string word, .slice Aa args.length ca, .int .i64 count, .slice Ab nb cb] 27) := ⟨_, rfl⟩
  have X0 := Lib.hid (show w0.heap[w.heap.size]? = some (.cells #[.int .i64 k, .string word, .slice Aa args.length ca, .int .i64 count, .slice Ab nb cb] 27 (0, 0)) by rw [hw0]; exact boxed1_0 _ _)
  have b0 : Below w.heap.size w w0 := by rw [hw0]; exact (by repeat (first | exact Below.refl _ _ | assumption | (refine Below.trans ?_ (Below.mono (by assumption) (by first | omega | (simp; done) | (simp; omega)))) | (with_reducible refine Below.drew ?_) | (with_reducible refine Below.alloc ?_ (by first | omega | (simp; done) | (simp; omega)) _) | (with_reducible refine Below.setCell ?_ (by first | omega | (simp; done) | (simp; omega)) _)))
  have s0 : w.heap.size ≤ w0.heap.size := b0.size
  have z0 : w.heap.size < w0.heap.size := by rw [hw0]; simp
  have HW := Lib.hid hw0
  have HI := Lib.hid (IsValidStmt_impl d lo k word args count bd Aa ca Ab nb cb w0 (hra.below b0) (hrb.below b0) (hG.below b0) hz hl hsz)
  have HT := Lib.hid (fun w' (hw' : Below w.heap.size w w') hv => tokensOf_impl d lo k word args count bd Aa ca Ab nb cb w' (hra.below hw') (hrb.below hw') hl hsz hv)
  obtain ⟨V, hV⟩ : ∃ V, V = vOne d (validT d) ⟨k, word, args, count⟩ bd := ⟨_, rfl⟩
  obtain ⟨L, hL⟩ : ∃ L, L = toks1 ⟨k, word, args, count⟩ (toksT d bd) := ⟨_, rfl⟩
  have HT2 : Hid (∀ w', Below w.heap.size w w' → V = true → Calls Tryd.prog 20 #[.agg #[.int .i64 k, .string word, .slice Aa args.length ca, .int .i64 count, .slice Ab nb cb]] w' (RetTk w' L)) := by
    rw [hV, hL]
    exact HT.out
  rw [← hV] at HI ⊢
  rw [← hL]
  have B0 := Lib.hid b0
  clear hw0 b0 hra hrb hG hL HT hV
  obtain ⟨m, hm⟩ : ∃ m, m = args.length := ⟨_, rfl⟩
  rw [← hm] at HI HT2 X0 HW hl ⊢
  clear hm
  cases V
  · rw [stToks_f]
    go_enter Tryd.func7, Tryd.ntmps7
    go_wp2_with fail
    rw [← HW.out]
    refine HI.out.mono ?_
    rintro e w1 ⟨rfl, b1, s1⟩
    go_wp2_with fail
    go_ret
    exact ⟨_, rfl, World.ownsRow_nil _ _ _ _, B0.out.trans (b1.mono s0), by omega⟩
  · rw [stToks_t]
    go_enter Tryd.func7, Tryd.ntmps7
    go_wp2_with fail
    rw [← HW.out]
    refine HI.out.mono ?_
    rintro e w1 ⟨rfl, b1, s1⟩
    obtain ⟨p0, p1, p2, p3, p4⟩ := boxcells5 (lay := b1) X0.out
    have zl1 : w.heap.size < w1.heap.size := by omega
    have hb1 := B0.out.trans (b1.mono s0)
    have HB1 := Lib.hid hb1
    have hs1 := hb1.size
    clear hb1 b1
    go_wp2_with fail
    refine (HT2.out _ HB1.out (by first | rfl | trivial)).mono ?_
    rintro e w2 ⟨v2, rfl, o2, b2, s2⟩
    have O2 := Lib.hid o2
    have B2 := Lib.hid b2
    clear o2 b2
    go_wp2_with fail
    go_ret
    exact ⟨_, rfl, own_low O2.out hs1, HB1.out.trans (B2.out.mono hs1), by omega⟩
end Go.Proofs.YtbamjfbfipkioaaDoor
namespace Go.Proofs.YtbamjfbfipkioaaDoor
open Go.RowKit
set_option linter.unusedVariables false
theorem toks1_count {d : Nat} {h : SH} {bd : List (Tr d)} (hv : vOne d (validT d) h bd = true) (hb : (toksT d bd).length = tokT d bd) : (toks1 h (toksT d bd)).length = tokE (mkT h bd) := by
  unfold vOne headV at hv
  simp only [Bool.and_eq_true, decide_eq_true_eq] at hv
  have hk := inB_iff.1 hv.1.1
  unfold tokE
  rw [hd_mk, bd_mk]
  have hk7 : h.k = 1 ∨ h.k = 2 ∨ h.k = 3 ∨ h.k = 4 ∨ h.k = 5 ∨ h.k = 6 ∨ h.k = 7 := by omega
  unfold toks1
  rcases hk7 with e | e | e | e | e | e | e <;> simp [e, hasB, hb] <;> omega
theorem toksT_count : ∀ (d : Nat) (l : List (Tr d)), validT d l = true → (toksT d l).length = tokT d l := by
  intro d
  induction d with
  | zero => intro l _; rfl
  | succ d ih =>
    intro l
    induction l with
    | nil => intro _; rfl
    | cons s l ihl =>
      intro h
      have h1 : (vOne d (validT d) (hdT s) (bdT s) && validT (d + 1) l) = true := h
      rw [Bool.and_eq_true] at h1
      have h2 := ihl h1.2
      have h3 : vOne d (validT d) (hdT s) (bdT s) = true := h1.1
      have h4 : validT d (bdT s) = true := by
        unfold vOne at h3
        simp only [Bool.and_eq_true] at h3
        exact h3.2.2
      have h5 := toks1_count h3 (ih _ h4)
      have e1 : toksT (d + 1) (s :: l) = toks1 (hdT s) (toksT d (bdT s)) ++ toksT (d + 1) l := rfl
      have e2 : tokT (d + 1) (s :: l) = tokE s + tokT (d + 1) l := by rw [tokT_succ, tokT_succ, List.map_cons, List.sum_cons]
      rw [e1, e2, List.length_append, h2, h5]
      rfl
theorem stToks_count {d : Nat} {h : SH} {bd : List (Tr d)} (hv : vOne d (validT d) h bd = true) : (toks1 h (toksT d bd)).length = tokT (d + 1) [mkT h bd] := by
  have h4 : validT d bd = true := by
    have h3 := hv
    unfold vOne at h3
    simp only [Bool.and_eq_true] at h3
    exact h3.2.2
  rw [toks1_count hv (toksT_count d bd h4), tokT_succ]
  simp
end Go.Proofs.YtbamjfbfipkioaaDoor
namespace Go.Proofs.YtbamjfbfipkioaaDoor
open Go.ChangeShapes Go.WideShapes Go.RowKit Go.Deep
theorem cells_byte : Tryd.prog.cellsOf 5 = 1 := by kernel_rfl
theorem trod_byte {H : Type} {enc : TypeId × Value → H} {w : World} {base : Nat} {spare : Nat → Bool} {held : Bool} (n : Nat) (cs : List Value) (y : DataW H × List MemPlace) (h : DataW.trod enc Tryd.prog w base spare held n 5 cs = some y) : ∃ g : Fin 256, cs = bcell g := by
  obtain ⟨a, e, h1, h2⟩ := DataW.trod_int Tryd.underlying5 h
  simp [Lit.wf, IntKind.min, IntKind.max, IntKind.signed, IntKind.bits] at h2
  exact ⟨⟨a.toNat, by omega⟩, by rw [e]; simp [bcell]; omega⟩
end Go.Proofs.YtbamjfbfipkioaaDoor
namespace Go.Proofs.YtbamjfbfipkioaaDoor
open Go.RowKit
set_option maxRecDepth 100000 in
theorem big_law (A : Option Addr) (n c : Nat) (w : World) (hn : n ≤ 9223372036854775807) : Calls Tryd.prog 5 #[.slice A n c] w fun e w' => e = .returned (.bool (decide (1048576 < n))) ∧ w = w' := by
  by_cases h : 1048576 < n
  · go_enter Tryd.func5, Tryd.ntmps5
    go_wp2_with fail
    go_ret
    exact ⟨by simp [h]; omega, rfl⟩
  · go_enter Tryd.func5, Tryd.ntmps5
    go_wp2_with fail
    go_ret
    exact ⟨by simp [h]; omega, rfl⟩
end Go.Proofs.YtbamjfbfipkioaaDoor
namespace Go.Proofs.YtbamjfbfipkioaaDoor
open Go.RowKit
set_option linter.unusedVariables false
section
variable {P : Program} {ops : Array Oper} {Q : Exit → Act → World → Prop} {md : Region.Mode}
/-- A guarded operation that is wanted. -/
theorem wpOp_yes {i : Nat} {o : Oper} {a : Act} {w : World} {K : Act → World → Prop} (ho : ops[i]? = some o) (hw : Region.wanted o (yielded ops a.tmps) = true) (h : ∀ K' : Act → World → Prop, (∀ a w, K a w → K' a w) → wpList P #[] (Exit.then K' Q) [{ o with guard := none }] a w) : wpOp P ops Q i K a w := by
  have h1 := h K (fun _ _ h => h)
  have h2 : Region.wanted { o with guard := none } (yielded #[] a.tmps) = true := rfl
  unfold wpOp
  simp only [ho, hw, if_true]
  unfold wpList at h1
  simp only [h2, if_true] at h1
  cases o
  rcases h1 with h1 | ⟨h1, h2⟩
  · exact .inl (upon_then h1)
  · exact .inr ⟨h1, h2⟩
/-- A guarded operation that is not wanted. -/
theorem wpOp_off {i : Nat} {o : Oper} {a : Act} {w : World} {K : Act → World → Prop} (d : Nat) (ho : ops[i]? = some o) (hd : o.dst = some d) (hw : Region.wanted o (yielded ops a.tmps) = false) (h : K ⟨a.tmps.setIfInBounds d undef, a.defers⟩ w) : wpOp P ops Q i K a w := by
  unfold wpOp
  simp only [ho, hw, hd]
  exact h
end
end Go.Proofs.YtbamjfbfipkioaaDoor
