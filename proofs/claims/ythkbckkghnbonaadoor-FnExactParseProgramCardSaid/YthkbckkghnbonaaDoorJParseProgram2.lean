/- What the calls that this law reaches answer, part 2 of 12. -/
import Derived.Test.YthkbckkghnbonaaDoorJParseProgram1
import Derived.Lib.LaidTab
import Derived.Stop.LaidErr
import Derived.Laws.IdiomStrings
import Derived.Test.YthkbckkghnbonaaDoorProg
namespace Go.Proofs.YthkbckkghnbonaaDoor
open Go.ChangeShapes Go.WideShapes Go.ChangeAt Go.RowKit Go.Deep
set_option linter.unusedVariables false
set_option maxRecDepth 100000
theorem star6 : "*" ++ "errors.errorString" = "*errors.errorString" := by decide
theorem row6 (u : TypeId) (h : Tryd.prog.typeName? 3 u = some "*errors.errorString") : u = 122 :=
  typeName_ptr_named (nm := "errors.errorString") (by rw [star6]; kernel_rfl) (by kernel_rfl) (by decide) u (by rw [star6]; exact h)
theorem tab6 : (Rows.laid_internal_strconv_uint64pow10 : DataW Unit) = Lib.tabData .u64 Lib.pow10Tab := by kernel_rfl
theorem met6 {W : World} (h : laidMetH Tryd.prog [("math/bits.deBruijn32tab", Rows.laid_math_bits_deBruijn32tab), ("math/bits.deBruijn64tab", Rows.laid_math_bits_deBruijn64tab), ("internal/strconv.uint64pow10", Rows.laid_internal_strconv_uint64pow10), ("strconv.ErrRange", Rows.laid_strconv_ErrRange), ("strconv.ErrSyntax", Rows.laid_strconv_ErrSyntax), ("loop.example/g00506/impl.gateNames", Rows.laid_loop_example_g00506_impl_gateNames)] W) :
    laidMet Tryd.prog [("math/bits.deBruijn32tab", Rows.laid_math_bits_deBruijn32tab), ("math/bits.deBruijn64tab", Rows.laid_math_bits_deBruijn64tab), ("internal/strconv.uint64pow10", Rows.laid_internal_strconv_uint64pow10), ("strconv.ErrRange", Rows.laid_strconv_ErrRange), ("strconv.ErrSyntax", Rows.laid_strconv_ErrSyntax), ("loop.example/g00506/impl.gateNames", Rows.laid_loop_example_g00506_impl_gateNames)] W := by
  rw [MakeChecks.laidMetH_plain _ _ _ (by kernel_rfl)] at h
  exact h
theorem gn_of_laid6 {W : World} (h : laidMetH Tryd.prog [("math/bits.deBruijn32tab", Rows.laid_math_bits_deBruijn32tab), ("math/bits.deBruijn64tab", Rows.laid_math_bits_deBruijn64tab), ("internal/strconv.uint64pow10", Rows.laid_internal_strconv_uint64pow10), ("strconv.ErrRange", Rows.laid_strconv_ErrRange), ("strconv.ErrSyntax", Rows.laid_strconv_ErrSyntax), ("loop.example/g00506/impl.gateNames", Rows.laid_loop_example_g00506_impl_gateNames)] W) : GN W :=
  gn_of_met1 (met6 h).tail.tail.tail.tail.tail
theorem lv_of_laid6 {W : World} (h : laidMetH Tryd.prog [("math/bits.deBruijn32tab", Rows.laid_math_bits_deBruijn32tab), ("math/bits.deBruijn64tab", Rows.laid_math_bits_deBruijn64tab), ("internal/strconv.uint64pow10", Rows.laid_internal_strconv_uint64pow10), ("strconv.ErrRange", Rows.laid_strconv_ErrRange), ("strconv.ErrSyntax", Rows.laid_strconv_ErrSyntax), ("loop.example/g00506/impl.gateNames", Rows.laid_loop_example_g00506_impl_gateNames)] W) : LVb W.heap.size W := by
  have hG := gn_of_laid6 h
  have h := met6 h
  obtain ⟨a, s, hv, _⟩ := laid_sentinel (g := 1) (ti := 91) (tp := 122) (te := 124) (ts := 9) h.tail.tail.tail.tail (by kernel_rfl) (by kernel_rfl) Tryd.underlying91 row6 Tryd.underlying122 Tryd.underlying124 rfl rfl Tryd.underlying9 (by kernel_rfl) (by kernel_rfl)
  have h2 := h.tail.tail
  rw [tab6] at h2
  have ht := Lib.tabIs_of_head (g := 3) (t := 116) (e := 103) (n := 20) (by kernel_rfl) (by kernel_rfl) Tryd.underlying116 Tryd.underlying103 (by kernel_rfl) (by kernel_rfl) h2
  refine lvb_of hG ⟨_, _, hv⟩ ht ⟨?_, ?_⟩
  · have h0 := World.var?_cell (g := 1) (by kernel_rfl) hv 0
    exact block_of_cell (a := ⟨_, _, _⟩) (by simpa using h0)
  · have h0 := Lib.TabIs.cell ht (g := 3) (by kernel_rfl) 0 (by decide)
    exact block_of_cell h0
end Go.Proofs.YthkbckkghnbonaaDoor
namespace Go.Proofs.YthkbckkghnbonaaDoor
open Go.RowKit
set_option linter.unusedVariables false
def ltrB (x : Int) : Bool := decide (97 ≤ x ∧ x ≤ 122) || decide (48 ≤ x ∧ x ≤ 57)
theorem ltrB_1 {x : Int} (h1 : 97 ≤ x) (h2 : x ≤ 122) : ltrB x = true := by simp [ltrB, h1, h2]
theorem ltrB_2 {x : Int} (h1 : 48 ≤ x) (h2 : x ≤ 57) : ltrB x = true := by simp [ltrB, h1, h2]
theorem ltrB_f {x : Int} (h1 : x < 97 ∨ 122 < x) (h2 : x < 48 ∨ 57 < x) : ltrB x = false := by simp [ltrB]; omega
set_option maxRecDepth 100000 in
set_option maxHeartbeats 1000000 in
theorem isLetter_any (x : Int) (w : World) : Calls Tryd.prog 35 #[.int .u8 x] w fun e w' => e = .returned (.bool (ltrB x)) ∧ w = w' := by
  by_cases h1 : 97 ≤ x
  · by_cases h2 : x ≤ 122
    · rw [ltrB_1 h1 h2]
      go_enter Tryd.func35, Tryd.ntmps35
      go_wp2
      go_ret
      exact ⟨rfl, rfl⟩
    · rw [ltrB_f (by omega) (by omega)]
      have h3 : decide (x ≤ 122) = false := by simpa using h2
      have h4 : decide (x ≤ 57) = false := by simp; omega
      have h5 : (48 : Int) ≤ x := by omega
      clear h2
      go_enter Tryd.func35, Tryd.ntmps35
      go_wp2
      go_ret
      exact ⟨rfl, rfl⟩
  · have h3 : decide (97 ≤ x) = false := by simpa using h1
    by_cases h4 : 48 ≤ x
    · by_cases h5 : x ≤ 57
      · rw [ltrB_2 h4 h5]
        clear h1
        go_enter Tryd.func35, Tryd.ntmps35
        go_wp2
        go_ret
        exact ⟨rfl, rfl⟩
      · rw [ltrB_f (by omega) (by omega)]
        have h6 : decide (x ≤ 57) = false := by simpa using h5
        clear h1 h5
        go_enter Tryd.func35, Tryd.ntmps35
        go_wp2
        go_ret
        exact ⟨rfl, rfl⟩
    · rw [ltrB_f (by omega) (by omega)]
      have h6 : decide (48 ≤ x) = false := by simpa using h4
      clear h1 h4
      go_enter Tryd.func35, Tryd.ntmps35
      go_wp2
      go_ret
      exact ⟨rfl, rfl⟩
set_option maxRecDepth 100000 in
set_option maxHeartbeats 1000000 in
theorem l16Letter_any (x : Int) (w : World) : Calls Tryd.prog 30 #[.int .u8 x] w fun e w' => e = .returned (.bool (ltrB x)) ∧ w = w' := by
  by_cases h1 : 97 ≤ x
  · by_cases h2 : x ≤ 122
    · rw [ltrB_1 h1 h2]
      go_enter Tryd.func30, Tryd.ntmps30
      go_wp2
      go_ret
      exact ⟨rfl, rfl⟩
    · rw [ltrB_f (by omega) (by omega)]
      have h3 : decide (x ≤ 122) = false := by simpa using h2
      have h4 : decide (x ≤ 57) = false := by simp; omega
      have h5 : (48 : Int) ≤ x := by omega
      clear h2
      go_enter Tryd.func30, Tryd.ntmps30
      go_wp2
      go_ret
      exact ⟨rfl, rfl⟩
  · have h3 : decide (97 ≤ x) = false := by simpa using h1
    by_cases h4 : 48 ≤ x
    · by_cases h5 : x ≤ 57
      · rw [ltrB_2 h4 h5]
        clear h1
        go_enter Tryd.func30, Tryd.ntmps30
        go_wp2
        go_ret
        exact ⟨rfl, rfl⟩
      · rw [ltrB_f (by omega) (by omega)]
        have h6 : decide (x ≤ 57) = false := by simpa using h5
        clear h1 h5
        go_enter Tryd.func30, Tryd.ntmps30
        go_wp2
        go_ret
        exact ⟨rfl, rfl⟩
    · rw [ltrB_f (by omega) (by omega)]
      have h6 : decide (48 ≤ x) = false := by simpa using h4
      clear h1 h4
      go_enter Tryd.func30, Tryd.ntmps30
      go_wp2
      go_ret
      exact ⟨rfl, rfl⟩
def letsUpto (s : ByteArray) (k : Nat) : Bool := (s.data.toList.take k).all fun c => ltrB c.toNat
def wordOk (s : ByteArray) : Bool := letsUpto s s.size && inB s.size 1 8
theorem lets_step {s : ByteArray} {k : Nat} (h : k < s.size) : letsUpto s (k + 1) = (letsUpto s k && ltrB (s[k].toNat : Int)) := by
  unfold letsUpto
  rw [List.take_succ_eq_append_getElem (by simpa using h)]
  simp
  rfl
theorem lets_le {s : ByteArray} {k : Nat} (h : k ≤ s.size) (hf : letsUpto s k = false) : letsUpto s s.size = false := by
  unfold letsUpto at hf ⊢
  rw [List.all_eq_false] at hf ⊢
  obtain ⟨x, hx, hn⟩ := hf
  exact ⟨x, List.mem_of_mem_take (by rwa [List.take_take, Nat.min_eq_left h] : x ∈ List.take k (List.take s.size s.data.toList)), hn⟩
theorem wordOk_f {s : ByteArray} {k : Nat} (h : k < s.size) (hp : letsUpto s k = true) (hf : ltrB (s[k].toNat : Int) = false) : wordOk s = false := by
  have : letsUpto s (k + 1) = false := by rw [lets_step h, hf]; simp
  rw [wordOk, lets_le (by omega) this]
  rfl
theorem wordOk_e {s : ByteArray} (hp : letsUpto s s.size = true) : wordOk s = inB s.size 1 8 := by rw [wordOk, hp]; rfl
set_option maxRecDepth 100000 in
set_option maxHeartbeats 1000000 in
theorem IsValidWord_impl (s : ByteArray) (w : World) (hs : s.size ≤ 9223372036854775807) : Calls Tryd.prog 36 #[.string s] w fun e w' => e = .returned (.bool (wordOk s)) ∧ w = w' := by
  go_enter Tryd.func36, Tryd.ntmps36
  go_wp2
  go_loop [3] (fun i => ∃ k : Nat, k ≤ s.size ∧ i = .int .i64 k ∧ letsUpto s k = true) (fun i => s.size - (intOf i).toNat)
  case atStart => exact ⟨0, Nat.zero_le _, rfl, rfl⟩
  case round =>
    obtain ⟨k, hk, rfl, hp⟩ := hrel
    have HP := Lib.hid hp
    clear hp
    by_cases hlt : k < s.size
    · cases hl : ltrB (s[k].toNat : Int)
      · have HF := Lib.hid (wordOk_f hlt HP.out hl)
        go_wp2_with (go_at_call 35; refine (isLetter_any _ _).mono ?_; rintro e w' ⟨rfl, rfl⟩)
        go_ret
        exact ⟨by rw [HF.out]; rfl, rfl⟩
      · have HS := Lib.hid (show letsUpto s (k + 1) = true by rw [lets_step hlt, HP.out, hl]; rfl)
        go_wp2_with (go_at_call 35; refine (isLetter_any _ _).mono ?_; rintro e w' ⟨rfl, rfl⟩)
        go_round
        case rel => exact ⟨k + 1, by omega, by go_num, HS.out⟩
        case measure => simp [intOf]; omega
    · obtain rfl : k = s.size := by omega
      have HF := Lib.hid (wordOk_e HP.out)
      go_wp2_with (go_at_call 53; refine (in_any _ _ _ _).mono ?_; rintro e w' ⟨rfl, rfl⟩)
      go_ret
      exact ⟨by rw [HF.out]; rfl, rfl⟩
set_option maxRecDepth 100000 in
set_option maxHeartbeats 1000000 in
theorem IsValidWord_spec (s : ByteArray) (w : World) (hs : s.size ≤ 9223372036854775807) : Calls Tryd.prog 58 #[.string s] w fun e w' => e = .returned (.bool (wordOk s)) ∧ w = w' := by
  go_enter Tryd.func58, Tryd.ntmps58
  go_wp2
  go_loop [3] (fun i => ∃ k : Nat, k ≤ s.size ∧ i = .int .i64 k ∧ letsUpto s k = true) (fun i => s.size - (intOf i).toNat)
  case atStart => exact ⟨0, Nat.zero_le _, rfl, rfl⟩
  case round =>
    obtain ⟨k, hk, rfl, hp⟩ := hrel
    have HP := Lib.hid hp
    clear hp
    by_cases hlt : k < s.size
    · cases hl : ltrB (s[k].toNat : Int)
      · have HF := Lib.hid (wordOk_f hlt HP.out hl)
        go_wp2_with (go_at_call 30; refine (l16Letter_any _ _).mono ?_; rintro e w' ⟨rfl, rfl⟩)
        go_ret
        exact ⟨by rw [HF.out]; rfl, rfl⟩
      · have HS := Lib.hid (show letsUpto s (k + 1) = true by rw [lets_step hlt, HP.out, hl]; rfl)
        go_wp2_with (go_at_call 30; refine (l16Letter_any _ _).mono ?_; rintro e w' ⟨rfl, rfl⟩)
        go_round
        case rel => exact ⟨k + 1, by omega, by go_num, HS.out⟩
        case measure => simp [intOf]; omega
    · obtain rfl : k = s.size := by omega
      have HF := Lib.hid (wordOk_e HP.out)
      go_wp2_with (go_at_call 45; refine (l1In_any _ _ _ _).mono ?_; rintro e w' ⟨rfl, rfl⟩)
      go_ret
      exact ⟨by rw [HF.out]; rfl, rfl⟩
end Go.Proofs.YthkbckkghnbonaaDoor
namespace Go.Proofs.YthkbckkghnbonaaDoor
open Go.RowKit
set_option linter.unusedVariables false
/-- A token as plain data. -/
structure Tk where
  k : Int
  s : ByteArray
def tkc (t : Tk) : List Value := [.int .i64 t.k, .string t.s]
def tkcs (l : List Tk) : List Value := l.flatMap tkc
theorem tkc_len (t : Tk) : (tkc t).length = 2 := rfl
theorem tkcs_len (l : List Tk) : (tkcs l).length = l.length * 2 := by
  induction l with
  | nil => rfl
  | cons x l ih => rw [tkcs, List.flatMap_cons, List.length_append, tkc_len, ← tkcs, ih, List.length_cons]; omega
theorem tkcs_append (l l' : List Tk) : tkcs (l ++ l') = tkcs l ++ tkcs l' := List.flatMap_append
theorem tkc_ones (l : List Tk) : ∀ u ∈ tkcs l, u.oneCell' = true := by
  intro u hu
  obtain ⟨t, _, ht⟩ := List.mem_flatMap.1 hu
  simp only [tkc, List.mem_cons, List.not_mem_nil, or_false] at ht
  rcases ht with rfl | rfl <;> rfl
def wTk (s : ByteArray) : Tk := ⟨1, s⟩
def pTk (k : Int) : Tk := ⟨k, ⟨#[]⟩⟩
theorem info_TkE : (Tryd.prog.info? 41).map (fun i => (i.zero, i.size, i.bytes)) = some (some (.agg #[.int .i64 0, .string ⟨#[]⟩]), 2, 24) := by kernel_rfl
theorem tkcs_at {l : List Tk} {t : Nat} {x : Tk} (h : l[t]? = some x) : (tkcs l)[t * 2]? = some (.int .i64 x.k) ∧ (tkcs l)[t * 2 + 1]? = some (.string x.s) :=
  ⟨flat_at tkc_len l t x 0 h (by decide), flat_at tkc_len l t x 1 h (by decide)⟩
theorem rd_tk {w : World} {A : Option Addr} {n t : Nat} {l : List Tk} {x : Tk} (h : Rd w 2 A n (tkcs l)) (hl : l.length = n) (hx : l[t]? = some x) : ∃ b off, A = some ⟨b, off, none⟩ ∧ b < w.heap.size ∧ w.cell? ⟨b, off + t * 2, none⟩ = some (.int .i64 x.k) ∧ w.cell? ⟨b, off + t * 2 + 1, none⟩ = some (.string x.s) := by
  have hlt := (List.getElem?_eq_some_iff.1 hx).1
  obtain ⟨b, off, e, hb, hc⟩ := h.2 (by omega)
  exact ⟨b, off, e, hb, hc _ _ (tkcs_at hx).1, hc _ _ (tkcs_at hx).2⟩
theorem below_undrew3 {w w' : World} (h : Below w.drew.heap.size w.drew w') : Below w.heap.size w w' := ⟨h.os, h.tape, h.output, h.size, h.block⟩
theorem rd_lit2 {w : World} {cs : Array Value} {e n size b : Nat} (h0 : b = w.heap.size) (hs : cs.size = n * size) : Rd (w.alloc (.cells cs e)) size (some ⟨b, 0, none⟩) n cs.toList := by
  subst h0
  refine ⟨by simpa using hs, fun _ => ⟨_, 0, rfl, by simp, fun j u hu => ?_⟩⟩
  have h := heap_alloc_new w (.cells cs e)
  have hc : cs[j]? = some u := by rw [← Array.getElem?_toList]; exact hu
  rw [Nat.zero_add]
  exact cell_at h hc
end Go.Proofs.YthkbckkghnbonaaDoor
namespace Go.Proofs.YthkbckkghnbonaaDoor
open Go.RowKit
set_option linter.unusedVariables false
def symT (k : Int) : ByteArray := if k = 2 then ⟨#[59]⟩ else if k = 3 then ⟨#[123]⟩ else if k = 4 then ⟨#[125]⟩ else ⟨#[]⟩
/-- The text of a token. -/
def fmtT (k : Int) (s : ByteArray) : ByteArray := if k = 1 ∧ wordOk s = true then s else if s.toList = [] then symT k else ⟨#[]⟩
theorem wordOk_size {s : ByteArray} (h : wordOk s = true) : 1 ≤ s.size ∧ s.size ≤ 8 := by
  unfold wordOk at h
  simp only [Bool.and_eq_true] at h
  have := inB_iff.1 h.2
  omega
theorem symT_size (k : Int) : (symT k).size ≤ 1 := by
  unfold symT
  split
  · exact Nat.le_refl _
  · split
    · exact Nat.le_refl _
    · split
      · exact Nat.le_refl _
      · exact Nat.zero_le _
theorem fmtT_size (k : Int) (s : ByteArray) : (fmtT k s).size ≤ 8 := by
  unfold fmtT
  split
  · rename_i h; exact (wordOk_size h.2).2
  · split
    · have := symT_size k; omega
    · exact Nat.zero_le _
theorem fmtT_w {s : ByteArray} (h : wordOk s = true) : fmtT 1 s = s := if_pos ⟨rfl, h⟩
theorem fmtT_e {k : Int} {s : ByteArray} (h : k ≠ 1 ∨ wordOk s = false) (hs : s.toList = []) : fmtT k s = symT k := by
  rw [fmtT, if_neg (by rcases h with h | h <;> simp [h]), if_pos hs]
theorem fmtT_n {k : Int} {s : ByteArray} (h : k ≠ 1 ∨ wordOk s = false) (hs : s.toList ≠ []) : fmtT k s = ⟨#[]⟩ := by
  rw [fmtT, if_neg (by rcases h with h | h <;> simp [h]), if_neg hs]
set_option maxRecDepth 100000 in
set_option maxHeartbeats 2000000 in
theorem FormatToken_impl (k : Int) (s : ByteArray) (w : World) (hs : s.size ≤ 9223372036854775807) : Calls Tryd.prog 74 #[.agg #[.int .i64 k, .string s]] w fun e w' => e = .returned (.string (fmtT k s)) ∧ Below w.heap.size w w' ∧ w.heap.size ≤ w'.heap.size := by
  by_cases h1 : k = 1
  · subst h1
    cases hw : wordOk s
    · by_cases he : s.toList = []
      · have HF := Lib.hid ((fmtT_e (k := 1) (Or.inr hw) he).trans (show symT 1 = ⟨#[]⟩ from rfl))
        have e2 : s.toList.isEmpty = true := by simp [he]
        clear he
        go_enter Tryd.func74, Tryd.ntmps74
        go_wp2_with (go_at_call 36; refine (IsValidWord_impl _ _ hs).mono ?_; rintro e w' ⟨rfl, rfl⟩)
        go_ret
        exact ⟨by rw [HF.out]; rfl, (by repeat (first | exact Below.refl _ _ | assumption | (refine Below.trans ?_ (Below.mono (by assumption) (by first | omega | (simp; done) | (simp; omega)))) | (with_reducible refine Below.drew ?_) | (with_reducible refine Below.alloc ?_ (by first | omega | (simp; done) | (simp; omega)) _) | (with_reducible refine Below.setCell ?_ (by first | omega | (simp; done) | (simp; omega)) _))), (by first | omega | (simp; done) | (simp; omega))⟩
      · have HF := Lib.hid (fmtT_n (k := 1) (Or.inr hw) he)
        have e2 : s.toList.isEmpty = false := by rw [List.isEmpty_eq_false_iff]; exact he
        clear he
        go_enter Tryd.func74, Tryd.ntmps74
        go_wp2_with (go_at_call 36; refine (IsValidWord_impl _ _ hs).mono ?_; rintro e w' ⟨rfl, rfl⟩)
        go_ret
        exact ⟨by rw [HF.out]; rfl, (by repeat (first | exact Below.refl _ _ | assumption | (refine Below.trans ?_ (Below.mono (by assumption) (by first | omega | (simp; done) | (simp; omega)))) | (with_reducible refine Below.drew ?_) | (with_reducible refine Below.alloc ?_ (by first | omega | (simp; done) | (simp; omega)) _) | (with_reducible refine Below.setCell ?_ (by first | omega | (simp; done) | (simp; omega)) _))), (by first | omega | (simp; done) | (simp; omega))⟩
    · have HF := Lib.hid (fmtT_w hw)
      go_enter Tryd.func74, Tryd.ntmps74
      go_wp2_with (go_at_call 36; refine (IsValidWord_impl _ _ hs).mono ?_; rintro e w' ⟨rfl, rfl⟩)
      go_ret
      exact ⟨by rw [HF.out]; rfl, (by repeat (first | exact Below.refl _ _ | assumption | (refine Below.trans ?_ (Below.mono (by assumption) (by first | omega | (simp; done) | (simp; omega)))) | (with_reducible refine Below.drew ?_) | (with_reducible refine Below.alloc ?_ (by first | omega | (simp; done) | (simp; omega)) _) | (with_reducible refine Below.setCell ?_ (by first | omega | (simp; done) | (simp; omega)) _))), (by first | omega | (simp; done) | (simp; omega))⟩
  · have e1 : (k == 1) = false := beq_eq_false_iff_ne.2 h1
    by_cases he : s.toList = []
    · have e2 : s.toList.isEmpty = true := by simp [he]
      have HF := Lib.hid (fmtT_e (k := k) (Or.inl h1) he)
      clear he
      by_cases h2 : k = 2
      · subst h2
        clear h1 e1
        go_enter Tryd.func74, Tryd.ntmps74
        go_wp2_with fail
        go_ret
        exact ⟨by rw [HF.out]; rfl, (by repeat (first | exact Below.refl _ _ | assumption | (refine Below.trans ?_ (Below.mono (by assumption) (by first | omega | (simp; done) | (simp; omega)))) | (with_reducible refine Below.drew ?_) | (with_reducible refine Below.alloc ?_ (by first | omega | (simp; done) | (simp; omega)) _) | (with_reducible refine Below.setCell ?_ (by first | omega | (simp; done) | (simp; omega)) _))), (by first | omega | (simp; done) | (simp; omega))⟩
      · by_cases h3 : k = 3
        · subst h3
          clear h1 h2 e1
          go_enter Tryd.func74, Tryd.ntmps74
          go_wp2_with fail
          go_ret
          exact ⟨by rw [HF.out]; rfl, (by repeat (first | exact Below.refl _ _ | assumption | (refine Below.trans ?_ (Below.mono (by assumption) (by first | omega | (simp; done) | (simp; omega)))) | (with_reducible refine Below.drew ?_) | (with_reducible refine Below.alloc ?_ (by first | omega | (simp; done) | (simp; omega)) _) | (with_reducible refine Below.setCell ?_ (by first | omega | (simp; done) | (simp; omega)) _))), (by first | omega | (simp; done) | (simp; omega))⟩
        · by_cases h4 : k = 4
          · subst h4
            clear h1 h2 h3 e1
            go_enter Tryd.func74, Tryd.ntmps74
            go_wp2_with fail
            go_ret
            exact ⟨by rw [HF.out]; rfl, (by repeat (first | exact Below.refl _ _ | assumption | (refine Below.trans ?_ (Below.mono (by assumption) (by first | omega | (simp; done) | (simp; omega)))) | (with_reducible refine Below.drew ?_) | (with_reducible refine Below.alloc ?_ (by first | omega | (simp; done) | (simp; omega)) _) | (with_reducible refine Below.setCell ?_ (by first | omega | (simp; done) | (simp; omega)) _))), (by first | omega | (simp; done) | (simp; omega))⟩
          · have HS := Lib.hid (HF.out.trans (show symT k = ⟨#[]⟩ by rw [symT, if_neg h2, if_neg h3, if_neg h4]))
            have e3 : (k == 2) = false := beq_eq_false_iff_ne.2 h2
            have e4 : (k == 3) = false := beq_eq_false_iff_ne.2 h3
            have e5 : (k == 4) = false := beq_eq_false_iff_ne.2 h4
            clear h1 h2 h3 h4
            go_enter Tryd.func74, Tryd.ntmps74
            go_wp2_with fail
            go_ret
            exact ⟨by rw [HS.out]; rfl, (by repeat (first | exact Below.refl _ _ | assumption | (refine Below.trans ?_ (Below.mono (by assumption) (by first | omega | (simp; done) | (simp; omega)))) | (with_reducible refine Below.drew ?_) | (with_reducible refine Below.alloc ?_ (by first | omega | (simp; done) | (simp; omega)) _) | (with_reducible refine Below.setCell ?_ (by first | omega | (simp; done) | (simp; omega)) _))), (by first | omega | (simp; done) | (simp; omega))⟩
    · have HF := Lib.hid (fmtT_n (k := k) (Or.inl h1) he)
      have e2 : s.toList.isEmpty = false := by rw [List.isEmpty_eq_false_iff]; exact he
      clear he h1
      go_enter Tryd.func74, Tryd.ntmps74
      go_wp2_with fail
      go_ret
      exact ⟨by rw [HF.out]; rfl, (by repeat (first | exact Below.refl _ _ | assumption | (refine Below.trans ?_ (Below.mono (by assumption) (by first | omega | (simp; done) | (simp; omega)))) | (with_reducible refine Below.drew ?_) | (with_reducible refine Below.alloc ?_ (by first | omega | (simp; done) | (simp; omega)) _) | (with_reducible refine Below.setCell ?_ (by first | omega | (simp; done) | (simp; omega)) _))), (by first | omega | (simp; done) | (simp; omega))⟩
set_option maxRecDepth 100000 in
set_option maxHeartbeats 2000000 in
theorem FormatToken_spec (k : Int) (s : ByteArray) (w : World) (hs : s.size ≤ 9223372036854775807) : Calls Tryd.prog 31 #[.agg #[.int .i64 k, .string s]] w fun e w' => e = .returned (.string (fmtT k s)) ∧ Below w.heap.size w w' ∧ w.heap.size ≤ w'.heap.size := by
  by_cases h1 : k = 1
  · subst h1
    cases hw : wordOk s
    · by_cases he : s.toList = []
      · have HF := Lib.hid ((fmtT_e (k := 1) (Or.inr hw) he).trans (show symT 1 = ⟨#[]⟩ from rfl))
        have e2 : s.toList.isEmpty = true := by simp [he]
        have hIN : inB 1 2 4 = false := rfl
        clear he
        go_enter Tryd.func31, Tryd.ntmps31
        go_wp2_with (first | (go_at_call 58; refine (IsValidWord_spec _ _ hs).mono ?_; rintro e w' ⟨rfl, rfl⟩) | (go_at_call 45; refine (l1In_any _ _ _ _).mono ?_; rintro e w' ⟨rfl, rfl⟩))
        go_ret
        exact ⟨by rw [HF.out]; rfl, (by repeat (first | exact Below.refl _ _ | assumption | (refine Below.trans ?_ (Below.mono (by assumption) (by first | omega | (simp; done) | (simp; omega)))) | (with_reducible refine Below.drew ?_) | (with_reducible refine Below.alloc ?_ (by first | omega | (simp; done) | (simp; omega)) _) | (with_reducible refine Below.setCell ?_ (by first | omega | (simp; done) | (simp; omega)) _))), (by first | omega | (simp; done) | (simp; omega))⟩
      · have HF := Lib.hid (fmtT_n (k := 1) (Or.inr hw) he)
        have e2 : s.toList.isEmpty = false := by rw [List.isEmpty_eq_false_iff]; exact he
        clear he
        go_enter Tryd.func31, Tryd.ntmps31
        go_wp2_with (go_at_call 58; refine (IsValidWord_spec _ _ hs).mono ?_; rintro e w' ⟨rfl, rfl⟩)
        go_ret
        exact ⟨by rw [HF.out]; rfl, (by repeat (first | exact Below.refl _ _ | assumption | (refine Below.trans ?_ (Below.mono (by assumption) (by first | omega | (simp; done) | (simp; omega)))) | (with_reducible refine Below.drew ?_) | (with_reducible refine Below.alloc ?_ (by first | omega | (simp; done) | (simp; omega)) _) | (with_reducible refine Below.setCell ?_ (by first | omega | (simp; done) | (simp; omega)) _))), (by first | omega | (simp; done) | (simp; omega))⟩
    · have HF := Lib.hid (fmtT_w hw)
      go_enter Tryd.func31, Tryd.ntmps31
      go_wp2_with (go_at_call 58; refine (IsValidWord_spec _ _ hs).mono ?_; rintro e w' ⟨rfl, rfl⟩)
      go_ret
      exact ⟨by rw [HF.out]; rfl, (by repeat (first | exact Below.refl _ _ | assumption | (refine Below.trans ?_ (Below.mono (by assumption) (by first | omega | (simp; done) | (simp; omega)))) | (with_reducible refine Below.drew ?_) | (with_reducible refine Below.alloc ?_ (by first | omega | (simp; done) | (simp; omega)) _) | (with_reducible refine Below.setCell ?_ (by first | omega | (simp; done) | (simp; omega)) _))), (by first | omega | (simp; done) | (simp; omega))⟩
  · have e1 : (k == 1) = false := beq_eq_false_iff_ne.2 h1
    by_cases he : s.toList = []
    · have e2 : s.toList.isEmpty = true := by simp [he]
      have HF := Lib.hid (fmtT_e (k := k) (Or.inl h1) he)
      clear he
      by_cases h2 : k = 2
      · subst h2
        have hIN : inB 2 2 4 = true := rfl
        clear h1 e1
        go_enter Tryd.func31, Tryd.ntmps31
        go_wp2_with (go_at_call 45; refine (l1In_any _ _ _ _).mono ?_; rintro e w' ⟨rfl, rfl⟩)
        go_ret
        exact ⟨by rw [HF.out]; rfl, (by repeat (first | exact Below.refl _ _ | assumption | (refine Below.trans ?_ (Below.mono (by assumption) (by first | omega | (simp; done) | (simp; omega)))) | (with_reducible refine Below.drew ?_) | (with_reducible refine Below.alloc ?_ (by first | omega | (simp; done) | (simp; omega)) _) | (with_reducible refine Below.setCell ?_ (by first | omega | (simp; done) | (simp; omega)) _))), (by first | omega | (simp; done) | (simp; omega))⟩
      · by_cases h3 : k = 3
        · subst h3
          have hIN : inB 3 2 4 = true := rfl
          clear h1 h2 e1
          go_enter Tryd.func31, Tryd.ntmps31
          go_wp2_with (go_at_call 45; refine (l1In_any _ _ _ _).mono ?_; rintro e w' ⟨rfl, rfl⟩)
          go_ret
          exact ⟨by rw [HF.out]; rfl, (by repeat (first | exact Below.refl _ _ | assumption | (refine Below.trans ?_ (Below.mono (by assumption) (by first | omega | (simp; done) | (simp; omega)))) | (with_reducible refine Below.drew ?_) | (with_reducible refine Below.alloc ?_ (by first | omega | (simp; done) | (simp; omega)) _) | (with_reducible refine Below.setCell ?_ (by first | omega | (simp; done) | (simp; omega)) _))), (by first | omega | (simp; done) | (simp; omega))⟩
        · by_cases h4 : k = 4
          · subst h4
            have hIN : inB 4 2 4 = true := rfl
            clear h1 h2 h3 e1
            go_enter Tryd.func31, Tryd.ntmps31
            go_wp2_with (go_at_call 45; refine (l1In_any _ _ _ _).mono ?_; rintro e w' ⟨rfl, rfl⟩)
            go_ret
            exact ⟨by rw [HF.out]; rfl, (by repeat (first | exact Below.refl _ _ | assumption | (refine Below.trans ?_ (Below.mono (by assumption) (by first | omega | (simp; done) | (simp; omega)))) | (with_reducible refine Below.drew ?_) | (with_reducible refine Below.alloc ?_ (by first | omega | (simp; done) | (simp; omega)) _) | (with_reducible refine Below.setCell ?_ (by first | omega | (simp; done) | (simp; omega)) _))), (by first | omega | (simp; done) | (simp; omega))⟩
          · have HS := Lib.hid (HF.out.trans (show symT k = ⟨#[]⟩ by rw [symT, if_neg h2, if_neg h3, if_neg h4]))
            have hIN : inB k 2 4 = false := inB_f (by omega)
            clear h1 h2 h3 h4
            go_enter Tryd.func31, Tryd.ntmps31
            go_wp2_with (go_at_call 45; refine (l1In_any _ _ _ _).mono ?_; rintro e w' ⟨rfl, rfl⟩)
            go_ret
            exact ⟨by rw [HS.out]; rfl, (by repeat (first | exact Below.refl _ _ | assumption | (refine Below.trans ?_ (Below.mono (by assumption) (by first | omega | (simp; done) | (simp; omega)))) | (with_reducible refine Below.drew ?_) | (with_reducible refine Below.alloc ?_ (by first | omega | (simp; done) | (simp; omega)) _) | (with_reducible refine Below.setCell ?_ (by first | omega | (simp; done) | (simp; omega)) _))), (by first | omega | (simp; done) | (simp; omega))⟩
    · have HF := Lib.hid (fmtT_n (k := k) (Or.inl h1) he)
      have e2 : s.toList.isEmpty = false := by rw [List.isEmpty_eq_false_iff]; exact he
      clear he h1
      go_enter Tryd.func31, Tryd.ntmps31
      go_wp2_with fail
      go_ret
      exact ⟨by rw [HF.out]; rfl, (by repeat (first | exact Below.refl _ _ | assumption | (refine Below.trans ?_ (Below.mono (by assumption) (by first | omega | (simp; done) | (simp; omega)))) | (with_reducible refine Below.drew ?_) | (with_reducible refine Below.alloc ?_ (by first | omega | (simp; done) | (simp; omega)) _) | (with_reducible refine Below.setCell ?_ (by first | omega | (simp; done) | (simp; omega)) _))), (by first | omega | (simp; done) | (simp; omega))⟩
/-- The text of a list of tokens. -/
def ftxR : List Tk → ByteArray
  | [] => ⟨#[]⟩
  | t :: r => (if r ≠ [] ∧ t.k ≠ 2 then ftxR r ++ ⟨#[32]⟩ else ftxR r) ++ fmtT t.k t.s
def ftx (l : List Tk) : ByteArray := ftxR l.reverse
theorem ftx_snoc0 (t : Tk) : ftx ([] ++ [t]) = ftx [] ++ fmtT t.k t.s := by simp [ftx, ftxR]
theorem ftx_snoc1 {l : List Tk} {t : Tk} (h : t.k = 2) : ftx (l ++ [t]) = ftx l ++ fmtT t.k t.s := by simp [ftx, ftxR, h]
theorem ftx_snoc2 {l : List Tk} {t : Tk} (h : 0 < l.length) (h2 : t.k ≠ 2) : ftx (l ++ [t]) = ftx l ++ ⟨#[32]⟩ ++ fmtT t.k t.s := by
  have : l ≠ [] := by intro e; subst e; simp at h
  simp [ftx, ftxR, h2, this]
theorem ftxR_size : ∀ (l : List Tk), (ftxR l).size ≤ 9 * l.length := by
  intro l
  induction l with
  | nil => exact Nat.zero_le _
  | cons t r ih =>
    have := fmtT_size t.k t.s
    rw [ftxR, List.length_cons]
    split
    · rw [ByteArray.size_append, ByteArray.size_append]
      have h1 : (⟨#[32]⟩ : ByteArray).size = 1 := rfl
      omega
    · rw [ByteArray.size_append]
      omega
theorem ftx_size (l : List Tk) : (ftx l).size ≤ 9 * l.length := by have := ftxR_size l.reverse; rwa [List.length_reverse] at this

theorem take_snoc' {α : Type} {l : List α} {t : Nat} {x : α} (h : l[t]? = some x) : l.take (t + 1) = l.take t ++ [x] := by rw [List.take_add_one, h]; rfl
set_option maxRecDepth 100000 in
set_option maxHeartbeats 2000000 in
theorem FormatTokens_impl (A : Option Addr) (n c : Nat) (l : List Tk) (w : World) (h : Rd w 2 A n (tkcs l)) (hl : l.length = n) (hn : n ≤ 1099511627776) (hz : ∀ t ∈ l, t.s.size ≤ 1099511627776) :
    Calls Tryd.prog 56 #[.slice A n c] w fun e w' => e = .returned (.string (ftx l)) ∧ Below w.heap.size w w' ∧ w.heap.size ≤ w'.heap.size := by
  have H := Lib.hid h
  have HL := Lib.hid hl
  have HZ := Lib.hid hz
  clear h hl hz
  go_enter Tryd.func56, Tryd.ntmps56
  go_wp2
  go_loopw [3, 8] (fun v i wr => ∃ t : Nat, t ≤ n ∧ i = .int .i64 t ∧ v = .string (ftx (l.take t)) ∧ Below w.heap.size w wr) (fun _ i _ => n - (intOf i).toNat)
  case atStart => exact ⟨0, Nat.zero_le _, rfl, rfl, Below.refl _ _⟩
  case round =>
    obtain ⟨t, ht, rfl, rfl, hb⟩ := hrel
    have hbs := hb.size
    by_cases hlt : t < n
    · obtain ⟨x, hx⟩ : ∃ x, l[t]? = some x := ⟨_, List.getElem?_eq_getElem (by rw [HL.out]; exact hlt)⟩
      obtain ⟨b, off, rfl, hbl, q0, q1⟩ := rd_tk (H.out.below hb) HL.out hx
      have hxz : x.s.size ≤ 9223372036854775807 := by have := HZ.out x (List.mem_of_getElem? hx); omega
      have hfz := fmtT_size x.k x.s
      have htk := take_snoc' hx
      have hal : (l.take t).length = t := by rw [List.length_take, HL.out]; omega
      have haz := ftx_size (l.take t)
      rw [hal] at haz
      have HTK := Lib.hid htk
      have HAL := Lib.hid hal
      obtain ⟨lt, hlt'⟩ : ∃ lt, lt = l.take t := ⟨_, rfl⟩
      rw [← hlt'] at HTK HAL haz ⊢
      obtain ⟨acc, hacc⟩ : ∃ acc, acc = ftx lt := ⟨_, rfl⟩
      have HACC := Lib.hid hacc
      rw [← hacc] at haz ⊢
      obtain ⟨f, hf⟩ : ∃ f, f = fmtT x.k x.s := ⟨_, rfl⟩
      have HF := Lib.hid hf
      rw [← hf] at hfz
      clear hx htk hal hlt' hacc hf
      by_cases h0 : t = 0
      · have hlt0 : lt = [] := List.eq_nil_of_length_eq_zero (by rw [HAL.out]; exact h0)
        have HL0 := Lib.hid hlt0
        have d0 : decide (0 < (t : Int)) = false := by simp; omega
        have d1 : decide (0 < t) = false := by simp; omega
        have e2 : ∀ w : World, (Op.stringOp .add acc f).run Tryd.prog w = .ok (.string (acc ++ f)) w := fun w => run_string_add_sum w _ _ (by omega)
        clear hlt0 h0
        go_wp2_with fail
        refine (FormatToken_impl _ _ _ hxz).mono ?_
        rintro e w1 ⟨rfl, b1, s1⟩
        rw [← HF.out]
        have hbN : Below w.heap.size w w1 := (hb.alloc hbs _).trans (b1.mono (by simp; omega))
        go_wp2_with fail
        go_roundw
        case rel => exact ⟨t + 1, by omega, by go_num, by rw [HTK.out, HL0.out, ftx_snoc0, ← HL0.out, ← HACC.out, ← HF.out], hbN⟩
        case measure => simp [intOf]; omega
      · have d0 : decide (0 < (t : Int)) = true := by simp; omega
        have d1 : decide (0 < t) = true := by simp; omega
        by_cases hk : x.k = 2
        · have ek : (x.k != 2) = false := by simp [hk]
          have e2 : ∀ w : World, (Op.stringOp .add acc f).run Tryd.prog w = .ok (.string (acc ++ f)) w := fun w => run_string_add_sum w _ _ (by omega)
          have HK := Lib.hid hk
          clear hk
          go_wp2_with fail
          refine (FormatToken_impl _ _ _ hxz).mono ?_
          rintro e w1 ⟨rfl, b1, s1⟩
          rw [← HF.out]
          have hbN : Below w.heap.size w w1 := (hb.alloc hbs _).trans (b1.mono (by simp; omega))
          go_wp2_with fail
          go_roundw
          case rel => exact ⟨t + 1, by omega, by go_num, by rw [HTK.out, ftx_snoc1 HK.out, ← HACC.out, ← HF.out], hbN⟩
          case measure => simp [intOf]; omega
        · have ek : (x.k != 2) = true := by simp [hk]
          have e1 : ∀ w : World, (Op.stringOp .add acc ⟨#[32]⟩).run Tryd.prog w = .ok (.string (acc ++ ⟨#[32]⟩)) w := fun w => run_string_add_sum w _ _ (by show acc.size + 1 ≤ _; omega)
          have e2 : ∀ w : World, (Op.stringOp .add (acc ++ ⟨#[32]⟩) f).run Tryd.prog w = .ok (.string (acc ++ ⟨#[32]⟩ ++ f)) w := fun w => run_string_add_sum w _ _ (by rw [ByteArray.size_append]; show acc.size + 1 + f.size ≤ _; omega)
          have HK := Lib.hid hk
          clear hk
          go_wp2_with fail
          refine (FormatToken_impl _ _ _ hxz).mono ?_
          rintro e w1 ⟨rfl, b1, s1⟩
          rw [← HF.out]
          have hbN : Below w.heap.size w w1 := (hb.alloc hbs _).trans (b1.mono (by simp; omega))
          go_wp2_with fail
          go_roundw
          case rel => exact ⟨t + 1, by omega, by go_num, by rw [HTK.out, ftx_snoc2 (by rw [HAL.out]; omega) HK.out, ← HACC.out, ← HF.out], hbN⟩
          case measure => simp [intOf]; omega
    · obtain rfl : t = n := by omega
      have HF : Hid (ftx (l.take t) = ftx l) := by rw [List.take_of_length_le (by rw [HL.out]; exact Nat.le_refl _)]; exact rfl
      go_wp2_with fail
      go_ret
      exact ⟨by rw [← HF.out]; rfl, hb, hb.size⟩
set_option maxRecDepth 100000 in
set_option maxHeartbeats 2000000 in
theorem FormatTokens_spec (A : Option Addr) (n c : Nat) (l : List Tk) (w : World) (h : Rd w 2 A n (tkcs l)) (hl : l.length = n) (hn : n ≤ 1099511627776) (hz : ∀ t ∈ l, t.s.size ≤ 1099511627776) :
    Calls Tryd.prog 50 #[.slice A n c] w fun e w' => e = .returned (.string (ftx l)) ∧ Below w.heap.size w w' ∧ w.heap.size ≤ w'.heap.size := by
  have H := Lib.hid h
  have HL := Lib.hid hl
  have HZ := Lib.hid hz
  clear h hl hz
  go_enter Tryd.func50, Tryd.ntmps50
  go_wp2
  go_loopw [3, 4] (fun v i wr => ∃ t : Nat, t ≤ n ∧ i = .int .i64 t ∧ v = .string (ftx (l.take t)) ∧ Below w.heap.size w wr) (fun _ i _ => n - (intOf i).toNat)
  case atStart => exact ⟨0, Nat.zero_le _, rfl, rfl, Below.refl _ _⟩
  case round =>
    obtain ⟨t, ht, rfl, rfl, hb⟩ := hrel
    have hbs := hb.size
    by_cases hlt : t < n
    · obtain ⟨x, hx⟩ : ∃ x, l[t]? = some x := ⟨_, List.getElem?_eq_getElem (by rw [HL.out]; exact hlt)⟩
      obtain ⟨b, off, rfl, hbl, q0, q1⟩ := rd_tk (H.out.below hb) HL.out hx
      have hxz : x.s.size ≤ 9223372036854775807 := by have := HZ.out x (List.mem_of_getElem? hx); omega
      have hfz := fmtT_size x.k x.s
      have htk := take_snoc' hx
      have hal : (l.take t).length = t := by rw [List.length_take, HL.out]; omega
      have haz := ftx_size (l.take t)
      rw [hal] at haz
      have HTK := Lib.hid htk
      have HAL := Lib.hid hal
      obtain ⟨lt, hlt'⟩ : ∃ lt, lt = l.take t := ⟨_, rfl⟩
      rw [← hlt'] at HTK HAL haz ⊢
      obtain ⟨acc, hacc⟩ : ∃ acc, acc = ftx lt := ⟨_, rfl⟩
      have HACC := Lib.hid hacc
      rw [← hacc] at haz ⊢
      obtain ⟨f, hf⟩ : ∃ f, f = fmtT x.k x.s := ⟨_, rfl⟩
      have HF := Lib.hid hf
      rw [← hf] at hfz
      clear hx htk hal hlt' hacc hf
      by_cases h0 : t = 0
      · have hlt0 : lt = [] := List.eq_nil_of_length_eq_zero (by rw [HAL.out]; exact h0)
        have HL0 := Lib.hid hlt0
        have d0 : decide (0 < (t : Int)) = false := by simp; omega
        have d1 : decide (0 < t) = false := by simp; omega
        have e2 : ∀ w : World, (Op.stringOp .add acc f).run Tryd.prog w = .ok (.string (acc ++ f)) w := fun w => run_string_add_sum w _ _ (by omega)
        clear hlt0 h0
        go_wp2_with fail
        refine (FormatToken_spec _ _ _ hxz).mono ?_
        rintro e w1 ⟨rfl, b1, s1⟩
        rw [← HF.out]
        have hbN : Below w.heap.size w w1 := hb.trans (b1.mono hbs)
        go_wp2_with fail
        go_roundw
        case rel => exact ⟨t + 1, by omega, by go_num, by rw [HTK.out, HL0.out, ftx_snoc0, ← HL0.out, ← HACC.out, ← HF.out], hbN⟩
        case measure => simp [intOf]; omega
      · have d0 : decide (0 < (t : Int)) = true := by simp; omega
        have d1 : decide (0 < t) = true := by simp; omega
        by_cases hk : x.k = 2
        · have ek : (x.k != 2) = false := by simp [hk]
          have e2 : ∀ w : World, (Op.stringOp .add acc f).run Tryd.prog w = .ok (.string (acc ++ f)) w := fun w => run_string_add_sum w _ _ (by omega)
          have HK := Lib.hid hk
          clear hk
          go_wp2_with fail
          refine (FormatToken_spec _ _ _ hxz).mono ?_
          rintro e w1 ⟨rfl, b1, s1⟩
          rw [← HF.out]
          have hbN : Below w.heap.size w w1 := hb.trans (b1.mono hbs)
          go_wp2_with fail
          go_roundw
          case rel => exact ⟨t + 1, by omega, by go_num, by rw [HTK.out, ftx_snoc1 HK.out, ← HACC.out, ← HF.out], hbN⟩
          case measure => simp [intOf]; omega
        · have ek : (x.k != 2) = true := by simp [hk]
          have e1 : ∀ w : World, (Op.stringOp .add acc ⟨#[32]⟩).run Tryd.prog w = .ok (.string (acc ++ ⟨#[32]⟩)) w := fun w => run_string_add_sum w _ _ (by show acc.size + 1 ≤ _; omega)
          have e2 : ∀ w : World, (Op.stringOp .add (acc ++ ⟨#[32]⟩) f).run Tryd.prog w = .ok (.string (acc ++ ⟨#[32]⟩ ++ f)) w := fun w => run_string_add_sum w _ _ (by rw [ByteArray.size_append]; show acc.size + 1 + f.size ≤ _; omega)
          have HK := Lib.hid hk
          clear hk
          go_wp2_with fail
          refine (FormatToken_spec _ _ _ hxz).mono ?_
          rintro e w1 ⟨rfl, b1, s1⟩
          rw [← HF.out]
          have hbN : Below w.heap.size w w1 := hb.trans (b1.mono hbs)
          go_wp2_with fail
          go_roundw
          case rel => exact ⟨t + 1, by omega, by go_num, by rw [HTK.out, ftx_snoc2 (by rw [HAL.out]; omega) HK.out, ← HACC.out, ← HF.out], hbN⟩
          case measure => simp [intOf]; omega
    · obtain rfl : t = n := by omega
      have HF : Hid (ftx (l.take t) = ftx l) := by rw [List.take_of_length_le (by rw [HL.out]; exact Nat.le_refl _)]; exact rfl
      go_wp2_with fail
      go_ret
      exact ⟨by rw [← HF.out]; rfl, hb, hb.size⟩
end Go.Proofs.YthkbckkghnbonaaDoor
namespace Go.Proofs.YthkbckkghnbonaaDoor
open Go.RowKit
set_option linter.unusedVariables false
def dig (x : Int) : ByteArray := ⟨#[48 + x.toNat.toUInt8]⟩
theorem small10 {x : Int} (h0 : 0 ≤ x) (h1 : x ≤ 9) : x = 0 ∨ x = 1 ∨ x = 2 ∨ x = 3 ∨ x = 4 ∨ x = 5 ∨ x = 6 ∨ x = 7 ∨ x = 8 ∨ x = 9 := by omega
set_option maxRecDepth 100000 in
set_option maxHeartbeats 4000000 in
theorem FormatInt_impl9 (x : Int) (h0 : 0 ≤ x) (h1 : x ≤ 9) (w : World) : Calls Tryd.prog 82 #[.int .i64 x] w fun e w' => e = .returned (.string (dig x)) ∧ w = w' := by
  rcases small10 h0 h1 with rfl | rfl | rfl | rfl | rfl | rfl | rfl | rfl | rfl | rfl
  all_goals
    clear h0 h1
    go_enter Tryd.func82, Tryd.ntmps82
    go_wp2
    go_ret
    exact ⟨rfl, rfl⟩
theorem conv_one (W : World) (b : UInt8) : (convert 79 9 (.slice (some ⟨W.heap.size, 0, none⟩) 1 1)).run Tryd.prog (W.alloc (.cells #[.int .u8 (b.toNat : Int)] 5)) = .ok (.string ⟨#[b]⟩) (W.alloc (.cells #[.int .u8 (b.toNat : Int)] 5)) := by
  refine run_convert_bytes_back _ _ _ 5 ⟨W.heap.size, 0, none⟩ 1 [b] Tryd.underlying79 Tryd.underlying5 Tryd.underlying9 (fun j hj => ?_)
  obtain rfl : j = 0 := by simpa using hj
  exact World.cell?_alloc_mark W _ _ _ 0
set_option maxRecDepth 100000 in
set_option maxHeartbeats 2000000 in
theorem FormatInt_spec_0 (w : World) : Calls Tryd.prog 81 #[.int .i64 0] w fun e w' => e = .returned (.string (dig 0)) ∧ Below w.heap.size w w' ∧ w.heap.size ≤ w'.heap.size := by
  go_enter Tryd.func81, Tryd.ntmps81
  go_wp2
  go_ret
  exact ⟨rfl, (by repeat (first | exact Below.refl _ _ | assumption | (refine Below.trans ?_ (Below.mono (by assumption) (by first | omega | (simp; done) | (simp; omega)))) | (with_reducible refine Below.drew ?_) | (with_reducible refine Below.alloc ?_ (by first | omega | (simp; done) | (simp; omega)) _) | (with_reducible refine Below.setCell ?_ (by first | omega | (simp; done) | (simp; omega)) _))), (by first | omega | (simp; done) | (simp; omega))⟩
set_option maxRecDepth 100000 in
set_option maxHeartbeats 2000000 in
theorem FormatInt_spec_1 (w : World) : Calls Tryd.prog 81 #[.int .i64 1] w fun e w' => e = .returned (.string (dig 1)) ∧ Below w.heap.size w w' ∧ w.heap.size ≤ w'.heap.size := by
  have kc : ∀ W : World, (convert 79 9 (.slice (some ⟨W.heap.size, 0, none⟩) 1 1)).run Tryd.prog (W.alloc (.cells #[.int .u8 49] 5)) = .ok (.string ⟨#[49]⟩) (W.alloc (.cells #[.int .u8 49] 5)) := fun W => conv_one W 49
  go_enter Tryd.func81, Tryd.ntmps81
  go_wp2
  refine wp_loop_rounds 2 ?_
  rw [rounds_succ]
  go_wp2
  rw [rounds_succ]
  go_wp2
  go_ret
  exact ⟨rfl, (by repeat (first | exact Below.refl _ _ | assumption | (refine Below.trans ?_ (Below.mono (by assumption) (by first | omega | (simp; done) | (simp; omega)))) | (with_reducible refine Below.drew ?_) | (with_reducible refine Below.alloc ?_ (by first | omega | (simp; done) | (simp; omega)) _) | (with_reducible refine Below.setCell ?_ (by first | omega | (simp; done) | (simp; omega)) _))), (by first | omega | (simp; done) | (simp; omega))⟩
set_option maxRecDepth 100000 in
set_option maxHeartbeats 2000000 in
theorem FormatInt_spec_2 (w : World) : Calls Tryd.prog 81 #[.int .i64 2] w fun e w' => e = .returned (.string (dig 2)) ∧ Below w.heap.size w w' ∧ w.heap.size ≤ w'.heap.size := by
  have kc : ∀ W : World, (convert 79 9 (.slice (some ⟨W.heap.size, 0, none⟩) 1 1)).run Tryd.prog (W.alloc (.cells #[.int .u8 50] 5)) = .ok (.string ⟨#[50]⟩) (W.alloc (.cells #[.int .u8 50] 5)) := fun W => conv_one W 50
  go_enter Tryd.func81, Tryd.ntmps81
  go_wp2
  refine wp_loop_rounds 2 ?_
  rw [rounds_succ]
  go_wp2
  rw [rounds_succ]
  go_wp2
  go_ret
  exact ⟨rfl, (by repeat (first | exact Below.refl _ _ | assumption | (refine Below.trans ?_ (Below.mono (by assumption) (by first | omega | (simp; done) | (simp; omega)))) | (with_reducible refine Below.drew ?_) | (with_reducible refine Below.alloc ?_ (by first | omega | (simp; done) | (simp; omega)) _) | (with_reducible refine Below.setCell ?_ (by first | omega | (simp; done) | (simp; omega)) _))), (by first | omega | (simp; done) | (simp; omega))⟩
set_option maxRecDepth 100000 in
set_option maxHeartbeats 2000000 in
theorem FormatInt_spec_3 (w : World) : Calls Tryd.prog 81 #[.int .i64 3] w fun e w' => e = .returned (.string (dig 3)) ∧ Below w.heap.size w w' ∧ w.heap.size ≤ w'.heap.size := by
  have kc : ∀ W : World, (convert 79 9 (.slice (some ⟨W.heap.size, 0, none⟩) 1 1)).run Tryd.prog (W.alloc (.cells #[.int .u8 51] 5)) = .ok (.string ⟨#[51]⟩) (W.alloc (.cells #[.int .u8 51] 5)) := fun W => conv_one W 51
  go_enter Tryd.func81, Tryd.ntmps81
  go_wp2
  refine wp_loop_rounds 2 ?_
  rw [rounds_succ]
  go_wp2
  rw [rounds_succ]
  go_wp2
  go_ret
  exact ⟨rfl, (by repeat (first | exact Below.refl _ _ | assumption | (refine Below.trans ?_ (Below.mono (by assumption) (by first | omega | (simp; done) | (simp; omega)))) | (with_reducible refine Below.drew ?_) | (with_reducible refine Below.alloc ?_ (by first | omega | (simp; done) | (simp; omega)) _) | (with_reducible refine Below.setCell ?_ (by first | omega | (simp; done) | (simp; omega)) _))), (by first | omega | (simp; done) | (simp; omega))⟩
set_option maxRecDepth 100000 in
set_option maxHeartbeats 2000000 in
theorem FormatInt_spec_4 (w : World) : Calls Tryd.prog 81 #[.int .i64 4] w fun e w' => e = .returned (.string (dig 4)) ∧ Below w.heap.size w w' ∧ w.heap.size ≤ w'.heap.size := by
  have kc : ∀ W : World, (convert 79 9 (.slice (some ⟨W.heap.size, 0, none⟩) 1 1)).run Tryd.prog (W.alloc (.cells #[.int .u8 52] 5)) = .ok (.string ⟨#[52]⟩) (W.alloc (.cells #[.int .u8 52] 5)) := fun W => conv_one W 52
  go_enter Tryd.func81, Tryd.ntmps81
  go_wp2
  refine wp_loop_rounds 2 ?_
  rw [rounds_succ]
  go_wp2
  rw [rounds_succ]
  go_wp2
  go_ret
  exact ⟨rfl, (by repeat (first | exact Below.refl _ _ | assumption | (refine Below.trans ?_ (Below.mono (by assumption) (by first | omega | (simp; done) | (simp; omega)))) | (with_reducible refine Below.drew ?_) | (with_reducible refine Below.alloc ?_ (by first | omega | (simp; done) | (simp; omega)) _) | (with_reducible refine Below.setCell ?_ (by first | omega | (simp; done) | (simp; omega)) _))), (by first | omega | (simp; done) | (simp; omega))⟩
set_option maxRecDepth 100000 in
set_option maxHeartbeats 2000000 in
theorem FormatInt_spec_5 (w : World) : Calls Tryd.prog 81 #[.int .i64 5] w fun e w' => e = .returned (.string (dig 5)) ∧ Below w.heap.size w w' ∧ w.heap.size ≤ w'.heap.size := by
  have kc : ∀ W : World, (convert 79 9 (.slice (some ⟨W.heap.size, 0, none⟩) 1 1)).run Tryd.prog (W.alloc (.cells #[.int .u8 53] 5)) = .ok (.string ⟨#[53]⟩) (W.alloc (.cells #[.int .u8 53] 5)) := fun W => conv_one W 53
  go_enter Tryd.func81, Tryd.ntmps81
  go_wp2
  refine wp_loop_rounds 2 ?_
  rw [rounds_succ]
  go_wp2
  rw [rounds_succ]
  go_wp2
  go_ret
  exact ⟨rfl, (by repeat (first | exact Below.refl _ _ | assumption | (refine Below.trans ?_ (Below.mono (by assumption) (by first | omega | (simp; done) | (simp; omega)))) | (with_reducible refine Below.drew ?_) | (with_reducible refine Below.alloc ?_ (by first | omega | (simp; done) | (simp; omega)) _) | (with_reducible refine Below.setCell ?_ (by first | omega | (simp; done) | (simp; omega)) _))), (by first | omega | (simp; done) | (simp; omega))⟩
set_option maxRecDepth 100000 in
set_option maxHeartbeats 2000000 in
theorem FormatInt_spec_6 (w : World) : Calls Tryd.prog 81 #[.int .i64 6] w fun e w' => e = .returned (.string (dig 6)) ∧ Below w.heap.size w w' ∧ w.heap.size ≤ w'.heap.size := by
  have kc : ∀ W : World, (convert 79 9 (.slice (some ⟨W.heap.size, 0, none⟩) 1 1)).run Tryd.prog (W.alloc (.cells #[.int .u8 54] 5)) = .ok (.string ⟨#[54]⟩) (W.alloc (.cells #[.int .u8 54] 5)) := fun W => conv_one W 54
  go_enter Tryd.func81, Tryd.ntmps81
  go_wp2
  refine wp_loop_rounds 2 ?_
  rw [rounds_succ]
  go_wp2
  rw [rounds_succ]
  go_wp2
  go_ret
  exact ⟨rfl, (by repeat (first | exact Below.refl _ _ | assumption | (refine Below.trans ?_ (Below.mono (by assumption) (by first | omega | (simp; done) | (simp; omega)))) | (with_reducible refine Below.drew ?_) | (with_reducible refine Below.alloc ?_ (by first | omega | (simp; done) | (simp; omega)) _) | (with_reducible refine Below.setCell ?_ (by first | omega | (simp; done) | (simp; omega)) _))), (by first | omega | (simp; done) | (simp; omega))⟩
set_option maxRecDepth 100000 in
set_option maxHeartbeats 2000000 in
theorem FormatInt_spec_7 (w : World) : Calls Tryd.prog 81 #[.int .i64 7] w fun e w' => e = .returned (.string (dig 7)) ∧ Below w.heap.size w w' ∧ w.heap.size ≤ w'.heap.size := by
  have kc : ∀ W : World, (convert 79 9 (.slice (some ⟨W.heap.size, 0, none⟩) 1 1)).run Tryd.prog (W.alloc (.cells #[.int .u8 55] 5)) = .ok (.string ⟨#[55]⟩) (W.alloc (.cells #[.int .u8 55] 5)) := fun W => conv_one W 55
  go_enter Tryd.func81, Tryd.ntmps81
  go_wp2
  refine wp_loop_rounds 2 ?_
  rw [rounds_succ]
  go_wp2
  rw [rounds_succ]
  go_wp2
  go_ret
  exact ⟨rfl, (by repeat (first | exact Below.refl _ _ | assumption | (refine Below.trans ?_ (Below.mono (by assumption) (by first | omega | (simp; done) | (simp; omega)))) | (with_reducible refine Below.drew ?_) | (with_reducible refine Below.alloc ?_ (by first | omega | (simp; done) | (simp; omega)) _) | (with_reducible refine Below.setCell ?_ (by first | omega | (simp; done) | (simp; omega)) _))), (by first | omega | (simp; done) | (simp; omega))⟩
set_option maxRecDepth 100000 in
set_option maxHeartbeats 2000000 in
theorem FormatInt_spec_8 (w : World) : Calls Tryd.prog 81 #[.int .i64 8] w fun e w' => e = .returned (.string (dig 8)) ∧ Below w.heap.size w w' ∧ w.heap.size ≤ w'.heap.size := by
  have kc : ∀ W : World, (convert 79 9 (.slice (some ⟨W.heap.size, 0, none⟩) 1 1)).run Tryd.prog (W.alloc (.cells #[.int .u8 56] 5)) = .ok (.string ⟨#[56]⟩) (W.alloc (.cells #[.int .u8 56] 5)) := fun W => conv_one W 56
  go_enter Tryd.func81, Tryd.ntmps81
  go_wp2
  refine wp_loop_rounds 2 ?_
  rw [rounds_succ]
  go_wp2
  rw [rounds_succ]
  go_wp2
  go_ret
  exact ⟨rfl, (by repeat (first | exact Below.refl _ _ | assumption | (refine Below.trans ?_ (Below.mono (by assumption) (by first | omega | (simp; done) | (simp; omega)))) | (with_reducible refine Below.drew ?_) | (with_reducible refine Below.alloc ?_ (by first | omega | (simp; done) | (simp; omega)) _) | (with_reducible refine Below.setCell ?_ (by first | omega | (simp; done) | (simp; omega)) _))), (by first | omega | (simp; done) | (simp; omega))⟩
set_option maxRecDepth 100000 in
set_option maxHeartbeats 2000000 in
theorem FormatInt_spec_9 (w : World) : Calls Tryd.prog 81 #[.int .i64 9] w fun e w' => e = .returned (.string (dig 9)) ∧ Below w.heap.size w w' ∧ w.heap.size ≤ w'.heap.size := by
  have kc : ∀ W : World, (convert 79 9 (.slice (some ⟨W.heap.size, 0, none⟩) 1 1)).run Tryd.prog (W.alloc (.cells #[.int .u8 57] 5)) = .ok (.string ⟨#[57]⟩) (W.alloc (.cells #[.int .u8 57] 5)) := fun W => conv_one W 57
  go_enter Tryd.func81, Tryd.ntmps81
  go_wp2
  refine wp_loop_rounds 2 ?_
  rw [rounds_succ]
  go_wp2
  rw [rounds_succ]
  go_wp2
  go_ret
  exact ⟨rfl, (by repeat (first | exact Below.refl _ _ | assumption | (refine Below.trans ?_ (Below.mono (by assumption) (by first | omega | (simp; done) | (simp; omega)))) | (with_reducible refine Below.drew ?_) | (with_reducible refine Below.alloc ?_ (by first | omega | (simp; done) | (simp; omega)) _) | (with_reducible refine Below.setCell ?_ (by first | omega | (simp; done) | (simp; omega)) _))), (by first | omega | (simp; done) | (simp; omega))⟩
theorem FormatInt_spec9 (x : Int) (h0 : 0 ≤ x) (h1 : x ≤ 9) (w : World) : Calls Tryd.prog 81 #[.int .i64 x] w fun e w' => e = .returned (.string (dig x)) ∧ Below w.heap.size w w' ∧ w.heap.size ≤ w'.heap.size := by
  rcases small10 h0 h1 with rfl | rfl | rfl | rfl | rfl | rfl | rfl | rfl | rfl | rfl
  · exact FormatInt_spec_0 w
  · exact FormatInt_spec_1 w
  · exact FormatInt_spec_2 w
  · exact FormatInt_spec_3 w
  · exact FormatInt_spec_4 w
  · exact FormatInt_spec_5 w
  · exact FormatInt_spec_6 w
  · exact FormatInt_spec_7 w
  · exact FormatInt_spec_8 w
  · exact FormatInt_spec_9 w
end Go.Proofs.YthkbckkghnbonaaDoor
namespace Go.Proofs.YthkbckkghnbonaaDoor
open Go.RowKit
set_option linter.unusedVariables false
def bcell (x : Fin 256) : List Value := [.int .u8 (x.val : Int)]
/-- Block p is a cursor over bytes that lie elsewhere. -/
def CurAt (w : World) (p : Nat) : Prop := ∃ (A : Option Addr) (n c : Nat) (bs : List (Fin 256)) (i : Nat) (h : Int),
  w.heap[p]? = some (.cells #[.slice A n c, .int .i64 i, .int .i64 h] 0 (0, 0)) ∧ bs.length = n ∧ Rd w 1 A n (bs.flatMap bcell) ∧ (0 < n → ∀ ad, A = some ad → ad.block < p) ∧ i ≤ n ∧ n ≤ 1048576
theorem CurAt.lt {w : World} {p : Nat} (h : CurAt w p) : p < w.heap.size := by
  obtain ⟨_, _, _, _, _, _, h, _⟩ := h
  exact lt_of_block h
theorem CurAt.kept {w w' : World} {p : Nat} (h : CurAt w p) (hb : ∀ k, k ≤ p → w'.heap[k]? = w.heap[k]?) (hs : w.heap.size ≤ w'.heap.size) : CurAt w' p := by
  obtain ⟨A, n, c, bs, i, h, h1, h2, h3, h4, h5⟩ := h
  refine ⟨A, n, c, bs, i, h, (hb p (Nat.le_refl _)).trans h1, h2, ⟨h3.1, fun h0 => ?_⟩, h4, h5⟩
  obtain ⟨b, off, e, hl, hc⟩ := h3.2 h0
  refine ⟨b, off, e, Nat.lt_of_lt_of_le hl hs, fun j u hu => ?_⟩
  rw [← hc j u hu]
  have hk := hb b (Nat.le_of_lt (h4 h0 _ e))
  simp [World.cell?, hk]
theorem CurAt.below {w w' : World} {p : Nat} (h : CurAt w p) (hb : Below w.heap.size w w') : CurAt w' p := h.kept (fun k hk => hb.block k (Nat.lt_of_le_of_lt hk h.lt)) hb.size
theorem CurAt.grown {w w' : World} {p : Nat} {row : Option Nat} (h : CurAt w p) (hg : w.grownBy w' row) (hr : ∀ k, row = some k → p < k) : CurAt w' p :=
  h.kept (fun k hk => hg.block k (Nat.lt_of_le_of_lt hk h.lt) (by
    intro e
    have h1 := hr _ e.symm
    omega)) hg.size
theorem only_drewN {a w : World} {row : Option Nat} (h : a.grownBy w row) (n : Nat) : a.grownBy (w.drewN n) row := ⟨h.os, h.tape, h.output, h.size, h.block⟩
theorem only_setCell {a w : World} {g : Nat} (h : a.grownBy w (some g)) {p : Addr} (hp : p.block = g) (u : Value) : a.grownBy (w.setCell p u) (some g) :=
  ⟨h.os, h.tape, h.output, by simpa [World.setCell] using h.size, fun i hi hne => (Below.heap_setCell w p u i (by
    rintro rfl
    exact hne (by rw [hp]))).trans (h.block i hi hne)⟩
theorem only_of_below {a w : World} (h : Below a.heap.size a w) (row : Option Nat) : a.grownBy w row := ⟨h.os, h.tape, h.output, h.size, fun i hi _ => h.block i hi⟩
theorem grown_rd {w w' : World} {p size n : Nat} {A : Option Addr} {xs : List Value} (h : Rd w size A n xs) (hg : w.grownBy w' (some p)) (hne : 0 < n → ∀ ad, A = some ad → ad.block ≠ p) : Rd w' size A n xs :=
  ⟨h.1, fun h0 => by
    obtain ⟨b, off, e, hl, hc⟩ := h.2 h0
    refine ⟨b, off, e, Nat.lt_of_lt_of_le hl hg.size, fun j u hu => ?_⟩
    rw [← hc j u hu]
    have hne' := hne h0 _ e
    have hk := hg.block b hl (by
      intro e1
      injection e1 with e1
      exact hne' e1)
    simp [World.cell?, hk]⟩
end Go.Proofs.YthkbckkghnbonaaDoor
namespace Go.Proofs.YthkbckkghnbonaaDoor
open Go.RowKit
set_option linter.unusedVariables false
/-- From w on only the cursor p and what is new has turned, and p is a cursor still. -/
structure Fr (w : World) (p : Nat) (w' : World) : Prop where
  cur : CurAt w' p
  gr : w.grownBy w' (some p)
theorem Fr.lt {w w1 : World} {p : Nat} (h : Fr w p w1) (hp : p < w.heap.size) : p < w1.heap.size := h.cur.lt
theorem Fr.below {w w1 w2 : World} {p : Nat} (h : Fr w p w1) (hb : Below w1.heap.size w1 w2) : Fr w p w2 :=
  ⟨h.cur.below hb, h.gr.andThen (only_of_below hb none) (by simp)⟩
theorem Fr.alloc {w w1 : World} {p : Nat} (h : Fr w p w1) (ob : Obj) : Fr w p (w1.alloc ob) := h.below ((Below.refl _ _).alloc (Nat.le_refl _) _)
theorem Fr.call {w w1 w2 : World} {p : Nat} (h : Fr w p w1) (hc : CurAt w2 p) (hg : w1.grownBy w2 (some p)) : Fr w p w2 := ⟨hc, h.gr.trans hg⟩
theorem Fr.own {w w1 w2 : World} {p : Nat} {row : Option Nat} (h : Fr w p w1) (hp : p < w.heap.size) (hg : w1.grownBy w2 row) (hr : ∀ k, row = some k → w.heap.size ≤ k) : Fr w p w2 :=
  ⟨h.cur.grown hg (fun k hk => by have := hr k hk; omega), h.gr.andThen hg (fun j hj => .inl (hr j hj))⟩
theorem Fr.set {w w1 : World} {p : Nat} (h : Fr w p w1) (hp : p < w.heap.size) {a : Addr} (ha : w.heap.size ≤ a.block) (v : Value) : Fr w p (w1.setCell a v) :=
  h.own (row := some a.block) hp (only_setCell (World.grownBy.refl w1 _) rfl v) (fun k hk => by injection hk with hk; omega)
theorem Fr.drewN {w w1 : World} {p : Nat} (h : Fr w p w1) (n : Nat) : Fr w p (w1.drewN n) := ⟨h.cur, only_drewN h.gr n⟩
theorem rd_lit1 {w : World} {cs : Array Value} {e n size b : Nat} (h0 : b = w.heap.size) (hs : cs.size = n * size) : Rd (w.alloc (.cells cs e)) size (some ⟨b, 0, none⟩) n cs.toList := by
  subst h0
  refine ⟨by simpa using hs, fun _ => ⟨_, 0, rfl, by simp, fun j u hu => ?_⟩⟩
  have h := heap_alloc_new w (.cells cs e)
  have hc : cs[j]? = some u := by rw [← Array.getElem?_toList]; exact hu
  rw [Nat.zero_add]
  exact cell_at h hc

theorem free_at {w : World} {b j : Nat} {cs : Array Value} {t : TypeId} (h : w.heap[b]? = some (.cells cs t (0, 0))) : w.frozen? ⟨b, j, none⟩ = false := by simp [World.frozen?, h]


end Go.Proofs.YthkbckkghnbonaaDoor
namespace Go.Proofs.YthkbckkghnbonaaDoor
open Go.RowKit
theorem step_append_rdO {P : Program} (w : World) {ops : Array Oper} {o : Oper} {a : Act} {K : Act → World → Prop} {Q : Exit → Act → World → Prop} {E : Prop} (hgd : o.guard = none) (s x : Operand) (t : TypeId)
    (ho : o.op = .call { callee := .builtin .append, args := #[s, x], argTypes := #[t, t] })
    (base : Nat) (e : TypeId) (i : TypeInfo) (z : Value) (size bytes : Nat) (ht : P.underlying t = some (.slice e)) (hi : P.info? e = some i) (hz : i.zero = some z)
    (hsize : i.size = size) (hby : i.bytes = bytes) (hzs : z.cells.size = size) (hsz : 0 < size)
    (v : Value) (n : Nat) (xs : List Value) (hs : a.eval s = v) (hown : w.ownsRow base e size v n xs)
    (A : Option Addr) (m c : Nat) (news : List Value) (hx : a.eval x = .slice A m c) (hr : Rd w size A m news) (h1 : ∀ u ∈ news, u.oneCell' = true)
    (h63 : n + m ≤ maxLen) (hbytes : (n + m) * bytes ≤ 140737488355328) (hbase : base ≤ w.heap.size)
    (h : ∀ v' w', w'.ownsRow base e size v' (n + m) (xs ++ news) → w.grownBy w' v.ownBlock → (v'.ownBlock = v.ownBlock ∨ v'.ownBlock = some w.heap.size) → K (a.put o.dst v') w') :
    if Region.wanted o (yielded ops a.tmps) = true then Oper.wp P o a w K Q else E := by
  have hw : Region.wanted o (yielded ops a.tmps) = true := by simp [Region.wanted, hgd]
  rw [if_pos hw]
  obtain ⟨v', w', hrun, h2, h3, h4⟩ := run_append_rd (P := P) w base t o.type e i z size bytes ht hi hz hsize hby hzs hsz v n xs hown A m c news hr h1 h63 hbytes hbase
  unfold Oper.wp execOp
  simp only [ho, resolve, invoke, builtin, Sem.run_bind, Sem.run_pure, Result.andThen_ok, List.map_toArray, List.map_cons, List.map_nil, hs, hx, hrun]
  exact h v' w' h2 h3 h4
end Go.Proofs.YthkbckkghnbonaaDoor
namespace Go.Proofs.YthkbckkghnbonaaDoor
section
variable {α : Type} {f : α → α → Bool} {l l' : List α}
end
theorem toList_data (a : ByteArray) : a.toList = a.data.toList := Lib.toList_data a
end Go.Proofs.YthkbckkghnbonaaDoor
namespace Go.Proofs.YthkbckkghnbonaaDoor
open Go.RowKit
theorem quiet_any {P : Program} {f : FuncId} {args : Array Value} {w : World} {n : Nat} {v : Value}
    (h : Calls P f args (w.drewN n) fun e w' => e = .returned v ∧ ∃ m, w' = (w.drewN n).drewN m) : Calls P f args (w.drewN n) fun e w'' => e = .returned v ∧ ∃ m, w'' = w.drewN m :=
  h.mono fun _ _ ⟨he, m, hm⟩ => ⟨he, n + m, by rw [hm, World.drewN_drewN]⟩
theorem drewN2 (w : World) (m n : Nat) : ∃ k, (w.drewN m).drewN n = w.drewN k := ⟨m + n, by rw [World.drewN_drewN]⟩
end Go.Proofs.YthkbckkghnbonaaDoor
namespace Go.Proofs.YthkbckkghnbonaaDoor
open Go.RowKit
set_option linter.unusedVariables false
theorem own_ne_typeG {w : World} {base e size n g : Nat} {v : Value} {xs : List Value} {cs : Array Value} {t : TypeId} (h : w.ownsRow base e size v n xs) (hg : w.heap[g]? = some (.cells cs t (0, 0))) (hne : e ≠ t) : v.ownBlock ≠ some g := by
  rcases h.2 with ⟨rfl, _⟩ | ⟨g', cap, cur, rfl, _, hh, _⟩
  · simp [Value.ownBlock]
  · intro he
    have e1 : g' = g := by simpa [Value.ownBlock] using he
    subst e1
    rw [hh] at hg
    injection hg with hg
    injection hg with _ ht
    exact hne ht
theorem heap_set_farG {w : World} {g : Nat} {o : Obj} {p : Addr} (h : w.heap[g]? = some o) (hp : g ≠ p.block) (u : Value) : (w.setCell p u).heap[g]? = some o := (Below.heap_setCell w p u g hp).trans h
theorem heap_set_selfG {w : World} {g i : Nat} {t : TypeId} {cs : Array Value} (h : w.heap[g]? = some (.cells cs t (0, 0))) (u : Value) : (w.setCell ⟨g, i, none⟩ u).heap[g]? = some (.cells (cs.setIfInBounds i u) t (0, 0)) := by
  simp [World.setCell, Array.getElem?_modify, h]
theorem own_setfarG {w : World} {base e size n : Nat} {v : Value} {xs : List Value} (h : w.ownsRow base e size v n xs) {p : Addr} (hp : v.ownBlock ≠ some p.block) (u : Value) : (w.setCell p u).ownsRow base e size v n xs := by
  refine ⟨h.1, ?_⟩
  rcases h.2 with hn | ⟨g, cap, cur, rfl, hb, hh, rest⟩
  · exact .inl hn
  · exact .inr ⟨g, cap, cur, rfl, hb, heap_set_farG hh (fun e => hp (by simp [Value.ownBlock, e])) u, rest⟩
theorem own_drewG {w : World} {base e size n : Nat} {v : Value} {xs : List Value} (h : w.ownsRow base e size v n xs) : w.drew.ownsRow base e size v n xs := h
theorem own_drewNG {w : World} {base e size n : Nat} {v : Value} {xs : List Value} (h : w.ownsRow base e size v n xs) (k : Nat) : (w.drewN k).ownsRow base e size v n xs := h
theorem own_drawG {w1 w2 : World} {B e size n p : Nat} {v : Value} {xs : List Value} (h : w1.ownsRow B e size v n xs) (hg : w1.grownBy w2 (some p)) (hp : p < B) : w2.ownsRow B e size v n xs := h.kept hg (by
  cases hk : v.ownBlock with
  | none => exact .inl rfl
  | some k =>
    refine .inr fun e => ?_
    injection e with e
    have := (h.lt k hk).1
    omega)
theorem cells5G {w w' : World} {b : Nat} {x0 x1 x2 x3 x4 : Value} {t : TypeId} (lay : Below w'.heap.size w' w) (h : w'.heap[b]? = some (.cells #[x0, x1, x2, x3, x4] t (0, 0))) :
    w.cell? ⟨b, 0, none⟩ = some x0 ∧ w.cell? ⟨b, 1, none⟩ = some x1 ∧ w.cell? ⟨b, 2, none⟩ = some x2 ∧ w.cell? ⟨b, 3, none⟩ = some x3 ∧ w.cell? ⟨b, 4, none⟩ = some x4 := by
  have h' : w.heap[b]? = some (.cells #[x0, x1, x2, x3, x4] t (0, 0)) := (lay.block b (lt_of_block h)).trans h
  exact ⟨by simp [World.cell?, h'], by simp [World.cell?, h'], by simp [World.cell?, h'], by simp [World.cell?, h'], by simp [World.cell?, h']⟩
theorem RdQ.set_ {w : World} {P : Nat → Prop} {size n : Nat} {A : Option Addr} {xs : List Value} (h : RdQ w P size A n xs) {p : Addr} (hp : ¬ P p.block) (u : Value) : RdQ (w.setCell p u) P size A n xs :=
  h.keep (fun b hb _ => Below.heap_setCell w p u b (fun e => hp (e ▸ hb))) (by simp [World.setCell])
theorem RdQ.below {w w' : World} {P : Nat → Prop} {size n : Nat} {A : Option Addr} {xs : List Value} (h : RdQ w P size A n xs) (hb : Below w.heap.size w w') : RdQ w' P size A n xs :=
  h.keep (fun b _ hlt => hb.block b hlt) hb.size
theorem RdQ.call {w w' : World} {P : Nat → Prop} {size n p : Nat} {A : Option Addr} {xs : List Value} (h : RdQ w P size A n xs) (hg : w.grownBy w' (some p)) (hp : ¬ P p) : RdQ w' P size A n xs :=
  h.keep (fun b hb hlt => hg.block b hlt (fun e => by injection e with e; exact hp (e ▸ hb))) hg.size
theorem TrQ.below {w w' : World} {P : Nat → Prop} {d n : Nat} {A : Option Addr} {l : List (Tr d)} (h : TrQ w P d A n l) (hb : Below w.heap.size w w') : TrQ w' P d A n l :=
  h.keep (fun b _ hlt => hb.block b hlt) hb.size
theorem TrQ.call {w w' : World} {P : Nat → Prop} {d n p : Nat} {A : Option Addr} {l : List (Tr d)} (h : TrQ w P d A n l) (hg : w.grownBy w' (some p)) (hp : ¬ P p) : TrQ w' P d A n l :=
  h.keep (fun b hb hlt => hg.block b hlt (fun e => by injection e with e; exact hp (e ▸ hb))) hg.size
theorem rd_drawG {w w' : World} {p size n : Nat} {A : Option Addr} {xs : List Value} (h : Rd w size A n xs) (hg : w.grownBy w' (some p)) (hne : ∀ ad, A = some ad → ad.block ≠ p) : Rd w' size A n xs := grown_rd h hg (fun _ => hne)
theorem heap_topG {w : World} {o : Obj} {n : Nat} (hn : n = w.heap.size) : (w.alloc o).heap[n]? = some o := by subst hn; exact heap_alloc_new w o
theorem heap_pastG {w : World} {o ob : Obj} {n : Nat} (hn : n < w.heap.size) (h : w.heap[n]? = some ob) : (w.alloc o).heap[n]? = some ob := (Below.heap_alloc _ _ _ hn).trans h
theorem wp_name {P : Program} {c : Code} {Q : Exit → Act → World → Prop} {a : Act} {w : World} (h : ∀ wz, wz = w → Code.wp P c Q a wz) : Code.wp P c Q a w := h w rfl
theorem heap_set5 {w : World} {b : Nat} {t : TypeId} {z0 z1 z2 z3 z4 v0 v1 v2 v3 v4 : Value} (h : w.heap[b]? = some (.cells #[z0, z1, z2, z3, z4] t (0, 0))) :
    (((((w.setCell ⟨b, 0, none⟩ v0).setCell ⟨b, 1, none⟩ v1).setCell ⟨b, 2, none⟩ v2).setCell ⟨b, 3, none⟩ v3).setCell ⟨b, 4, none⟩ v4).heap[b]? = some (.cells #[v0, v1, v2, v3, v4] t (0, 0)) :=
  heap_set_selfG (heap_set_selfG (heap_set_selfG (heap_set_selfG (heap_set_selfG h v0) v1) v2) v3) v4
/-- The names that a body is drawn over. -/
structure Names (w : World) (p : Nat) (A : Option Addr) (m : Nat) (N : List ByteArray) : Prop where
  rd : Rd w 1 A m (strs N)
  len : N.length = m
  lo : 1 ≤ m
  hi : m ≤ 4
  small : ∀ s ∈ N, s.size ≤ 9
  ne : ∀ ad, A = some ad → ad.block ≠ p
theorem Names.below {w w' : World} {p m : Nat} {A : Option Addr} {N : List ByteArray} (h : Names w p A m N) (hb : Below w.heap.size w w') : Names w' p A m N := ⟨h.rd.below hb, h.len, h.lo, h.hi, h.small, h.ne⟩
theorem Names.call {w w' : World} {p m : Nat} {A : Option Addr} {N : List ByteArray} (h : Names w p A m N) (hg : w.grownBy w' (some p)) : Names w' p A m N := ⟨rd_drawG h.rd hg h.ne, h.len, h.lo, h.hi, h.small, h.ne⟩
theorem Names.fr {w w' : World} {p m : Nat} {A : Option Addr} {N : List ByteArray} (h : Names w p A m N) (hf : Fr w p w') : Names w' p A m N := h.call hf.gr
theorem Names.at_ {w : World} {p m t : Nat} {A : Option Addr} {N : List ByteArray} (h : Names w p A m N) (ht : t < m) : ∃ b off s, A = some ⟨b, off, none⟩ ∧ b < w.heap.size ∧ w.cell? ⟨b, off + t, none⟩ = some (.string s) ∧ s ∈ N ∧ s.size ≤ 9 := by
  obtain ⟨s, hs⟩ : ∃ s, N[t]? = some s := ⟨_, List.getElem?_eq_getElem (by rw [h.len]; exact ht)⟩
  obtain ⟨b, off, e, hb, hc⟩ := h.rd.2 (by omega)
  have hm := List.mem_of_getElem? hs
  exact ⟨b, off, s, e, hb, hc t _ (strs_at hs), hm, h.small s hm⟩
end Go.Proofs.YthkbckkghnbonaaDoor
namespace Go.Proofs.YthkbckkghnbonaaDoor
open Go.RowKit
set_option linter.unusedVariables false
theorem szE_mk {d : Nat} (h : SH) (bd : List (Tr d)) : szE (mkT h bd) = h.word.size + (h.args.length + szS h.args + szT d bd) := rfl
theorem szT_nil (d : Nat) : szT d [] = 0 := by cases d <;> rfl
theorem sumE_append {d : Nat} (l m : List (Tr (d + 1))) : sumE (l ++ m) = sumE l + sumE m := by simp [sumE]
theorem sumE_one {d : Nat} (s : Tr (d + 1)) : sumE [s] = szE s := by simp [sumE]
theorem szT_append {d : Nat} (l m : List (Tr (d + 1))) : szT (d + 1) (l ++ m) = szT (d + 1) l + szT (d + 1) m := by rw [szT_succ, szT_succ, szT_succ, sumE_append, List.length_append]; omega
theorem szT_one {d : Nat} (s : Tr (d + 1)) : szT (d + 1) [s] = 1 + szE s := by rw [szT_succ, sumE_one]; rfl
end Go.Proofs.YthkbckkghnbonaaDoor
namespace Go.Proofs.YthkbckkghnbonaaDoor
open Go.RowKit
set_option linter.unusedVariables false
/-- Where a reader stands: how many tokens it has read, and the first fault. -/
structure Rs where
  i : Nat
  code : Int
def kindT (T : List Tk) (i : Nat) : Int := match T[i]? with
  | some t => t.k
  | none => 0
def textT (T : List Tk) (i : Nat) : ByteArray := match T[i]? with
  | some t => t.s
  | none => ⟨#[]⟩
def failR (s : Rs) (c : Int) : Rs := if s.code = 0 then ⟨s.i, c⟩ else s
def takeR (T : List Tk) (s : Rs) (k c : Int) : Rs × ByteArray := if s.code = 0 ∧ kindT T s.i = k then (⟨s.i + 1, 0⟩, textT T s.i) else (failR s c, ⟨#[]⟩)
def namesR (T : List Tk) : Nat → Rs → Rs × List ByteArray
  | 0, s => (s, [])
  | n + 1, s => ((namesR T n (takeR T s 1 3).1).1, (takeR T s 1 3).2 :: (namesR T n (takeR T s 1 3).1).2)
/-- A number of repetitions, as a word. -/
def numW (s : ByteArray) : Option Int := ([1, 2, 3, 4, 5, 6, 7, 8, 9] : List Int).find? fun x => s.data.toList == (dig x).data.toList
def numR (T : List Tk) (s : Rs) : Rs × Int := if s.code = 0 ∧ kindT T s.i = 1 then
    (match numW (textT T s.i) with
    | some n => (⟨s.i + 1, 0⟩, n)
    | none => (failR s 6, 0))
  else (failR s 6, 0)
def bodyR {d : Nat} (T : List Tk) (inner : Rs → Rs × List (Tr d)) (s : Rs) : Rs × List (Tr d) :=
  let s1 := if d = 0 ∧ s.code = 0 ∧ kindT T s.i = 3 then failR s 9 else s
  let r := inner (takeR T s1 3 7).1
  ((takeR T r.1 4 8).1, r.2)
/-- What a word begins. -/
def kindW (word : ByteArray) : Int :=
  if word.toList = [114, 101, 112, 101, 97, 116] then 2 else if word.toList = [97, 100, 106, 111, 105, 110, 116] then 3 else if word.toList = [99, 111, 110, 116, 114, 111, 108] then 4
  else if word.toList = [97, 110, 99, 105, 108, 108, 97] then 5 else if word.toList = [109, 101, 97, 115, 117, 114, 101] then 6 else if word.toList = [105, 102] then 7 else 1
def begW (word : ByteArray) : Bool := decide (kindW word ≠ 1) || decide (gkind word ≠ 0)
def stmtR {d : Nat} (T : List Tk) (inner : Rs → Rs × List (Tr d)) (s : Rs) : Rs × Tr (d + 1) :=
  let word := textT T s.i
  let s0 : Rs := ⟨s.i + 1, s.code⟩
  let k := kindW word
  if k = 2 then ((bodyR T inner (numR T s0).1).1, mkT ⟨2, ⟨#[]⟩, [], (numR T s0).2⟩ (bodyR T inner (numR T s0).1).2)
  else if k = 3 then ((bodyR T inner s0).1, mkT ⟨3, ⟨#[]⟩, [], 0⟩ (bodyR T inner s0).2)
  else if k = 6 then ((takeR T (namesR T 2 s0).1 2 4).1, mkT ⟨6, ⟨#[]⟩, (namesR T 2 s0).2, 0⟩ [])
  else if k = 1 then ((takeR T (namesR T (ar (gkind word)) s0).1 2 4).1, mkT ⟨1, word, (namesR T (ar (gkind word)) s0).2, 0⟩ [])
  else ((bodyR T inner (namesR T 1 s0).1).1, mkT ⟨k, ⟨#[]⟩, (namesR T 1 s0).2, 0⟩ (bodyR T inner (namesR T 1 s0).1).2)
def loopR {α : Type} (T : List Tk) (top : Bool) (st : Rs → Rs × α) : Nat → Rs → Rs × List α
  | 0, s => (s, [])
  | f + 1, s => if s.code ≠ 0 then (s, []) else if T.length ≤ s.i ∨ (kindT T s.i = 4 ∧ top = false) then (s, [])
    else if kindT T s.i = 1 ∧ begW (textT T s.i) = true then ((loopR T top st f (st s).1).1, (st s).2 :: (loopR T top st f (st s).1).2) else (⟨s.i, 5⟩, [])
def innerR (T : List Tk) : (d : Nat) → Rs → Rs × List (Tr d)
  | 0, s => (s, [])
  | d + 1, s => loopR T false (stmtR T (innerR T d)) (T.length + 1) s
section
variable {T : List Tk}
theorem kindT_lt {i : Nat} (h : kindT T i ≠ 0) : i < T.length := by
  unfold kindT at h
  rcases Nat.lt_or_ge i T.length with h1 | h1
  · exact h1
  · rw [List.getElem?_eq_none h1] at h
    exact absurd rfl h
theorem failR_i (s : Rs) (c : Int) : (failR s c).i = s.i := by unfold failR; split <;> rfl
theorem takeR_i (s : Rs) (k c : Int) : s.i ≤ (takeR T s k c).1.i ∧ (takeR T s k c).1.i ≤ s.i + 1 := by
  unfold takeR
  split
  · exact ⟨Nat.le_succ _, Nat.le_refl _⟩
  · rw [failR_i]; exact ⟨Nat.le_refl _, Nat.le_succ _⟩
theorem takeR_le {s : Rs} {k c : Int} (hk : k ≠ 0) (h : s.i ≤ T.length) : (takeR T s k c).1.i ≤ T.length := by
  unfold takeR
  split
  · rename_i h1
    have := kindT_lt (T := T) (i := s.i) (by rw [h1.2]; exact hk)
    show s.i + 1 ≤ _
    omega
  · rw [failR_i]; exact h
theorem namesR_i (n : Nat) : ∀ s : Rs, s.i ≤ (namesR T n s).1.i := by
  induction n with
  | zero => intro s; exact Nat.le_refl _
  | succ n ih => intro s; exact Nat.le_trans (takeR_i s 1 3).1 (ih _)
theorem namesR_le (n : Nat) : ∀ s : Rs, s.i ≤ T.length → (namesR T n s).1.i ≤ T.length := by
  induction n with
  | zero => intro s h; exact h
  | succ n ih => intro s h; exact ih _ (takeR_le (by decide) h)
theorem namesR_len (n : Nat) : ∀ s : Rs, (namesR T n s).2.length = n := by
  induction n with
  | zero => intro s; rfl
  | succ n ih => intro s; show (namesR T n _).2.length + 1 = _; rw [ih]
theorem numR_i (s : Rs) : s.i ≤ (numR T s).1.i := by
  unfold numR
  split
  · split
    · exact Nat.le_succ _
    · rw [failR_i]; exact Nat.le_refl _
  · rw [failR_i]; exact Nat.le_refl _
theorem numR_le {s : Rs} (h : s.i ≤ T.length) : (numR T s).1.i ≤ T.length := by
  unfold numR
  split
  · rename_i h1
    split
    · have := kindT_lt (T := T) (i := s.i) (by rw [h1.2]; decide)
      show s.i + 1 ≤ _
      omega
    · rw [failR_i]; exact h
  · rw [failR_i]; exact h
/-- A part of the reader that never goes back nor beyond the end. -/
def Goes {α : Type} (T : List Tk) (f : Rs → Rs × α) : Prop := ∀ s : Rs, s.i ≤ T.length → s.i ≤ (f s).1.i ∧ (f s).1.i ≤ T.length
theorem bodyR_goes {d : Nat} {inner : Rs → Rs × List (Tr d)} (h : Goes T inner) : Goes T (bodyR T inner) := by
  intro s hs
  unfold bodyR
  have key : ∀ s1 : Rs, s1.i = s.i → s.i ≤ (takeR T (inner (takeR T s1 3 7).1).1 4 8).1.i ∧ (takeR T (inner (takeR T s1 3 7).1).1 4 8).1.i ≤ T.length := by
    intro s1 h1
    have a := takeR_i (T := T) s1 3 7
    have b := takeR_le (T := T) (s := s1) (k := 3) (c := 7) (by decide) (by omega)
    have c := h _ b
    exact ⟨by have := (takeR_i (T := T) (inner (takeR T s1 3 7).1).1 4 8).1; omega, takeR_le (by decide) c.2⟩
  show _ ≤ (takeR T (inner (takeR T (if _ then _ else _) 3 7).1).1 4 8).1.i ∧ _
  split
  · exact key _ (failR_i _ _)
  · exact key _ rfl
theorem stmtR_goes {d : Nat} {inner : Rs → Rs × List (Tr d)} (h : Goes T inner) {s : Rs} (hs : s.i < T.length) : s.i + 1 ≤ (stmtR T inner s).1.i ∧ (stmtR T inner s).1.i ≤ T.length := by
  have hb := bodyR_goes h
  unfold stmtR
  have h0 : (⟨s.i + 1, s.code⟩ : Rs).i ≤ T.length := hs
  simp only []
  split
  · have a := numR_le (T := T) h0
    have a2 := numR_i (T := T) ⟨s.i + 1, s.code⟩
    have b := hb _ a
    exact ⟨Nat.le_trans a2 b.1, b.2⟩
  · split
    · exact hb _ h0
    · split
      · have a := namesR_le (T := T) 2 _ h0
        have a2 := namesR_i (T := T) 2 ⟨s.i + 1, s.code⟩
        exact ⟨Nat.le_trans a2 (takeR_i _ _ _).1, takeR_le (by decide) a⟩
      · split
        · have a := namesR_le (T := T) (ar (gkind (textT T s.i))) _ h0
          have a2 := namesR_i (T := T) (ar (gkind (textT T s.i))) ⟨s.i + 1, s.code⟩
          exact ⟨Nat.le_trans a2 (takeR_i _ _ _).1, takeR_le (by decide) a⟩
        · have a := namesR_le (T := T) 1 _ h0
          have a2 := namesR_i (T := T) 1 ⟨s.i + 1, s.code⟩
          have b := hb _ a
          exact ⟨Nat.le_trans a2 b.1, b.2⟩
theorem loopR_goes {α : Type} {top : Bool} {st : Rs → Rs × α} (h : ∀ s : Rs, s.i < T.length → s.i + 1 ≤ (st s).1.i ∧ (st s).1.i ≤ T.length) : ∀ f : Nat, Goes T (loopR T top st f) := by
  intro f
  induction f with
  | zero => intro s hs; exact ⟨Nat.le_refl _, hs⟩
  | succ f ih =>
    intro s hs
    unfold loopR
    split
    · exact ⟨Nat.le_refl _, hs⟩
    · split
      · exact ⟨Nat.le_refl _, hs⟩
      · rename_i h1
        split
        · have h2 := h s (by omega)
          have h3 := ih (st s).1 h2.2
          exact ⟨by show s.i ≤ (loopR T top st f (st s).1).1.i; omega, h3.2⟩
        · exact ⟨Nat.le_refl _, hs⟩
theorem innerR_goes : ∀ d : Nat, Goes T (innerR T d) := by
  intro d
  induction d with
  | zero => intro s hs; exact ⟨Nat.le_refl _, hs⟩
  | succ d ih => exact loopR_goes (fun s hs => stmtR_goes ih hs) _
/-- A fault stays. -/
theorem loopR_code {α : Type} {top : Bool} {st : Rs → Rs × α} {f : Nat} {s : Rs} (h : s.code ≠ 0) : loopR T top st f s = (s, []) := by
  cases f with
  | zero => rfl
  | succ f => unfold loopR; rw [if_pos h]
theorem loopR_end {α : Type} {top : Bool} {st : Rs → Rs × α} {f : Nat} {s : Rs} (h : T.length ≤ s.i ∨ (kindT T s.i = 4 ∧ top = false)) : loopR T top st f s = (s, []) := by
  cases f with
  | zero => rfl
  | succ f =>
    rw [loopR]
    by_cases h0 : s.code ≠ 0
    · rw [if_pos h0]
    · rw [if_neg h0, if_pos h]
theorem loopR_step {α : Type} {top : Bool} {st : Rs → Rs × α} {f : Nat} {s : Rs} (h0 : s.code = 0) (h1 : s.i < T.length) (h2 : kindT T s.i = 1) (h3 : begW (textT T s.i) = true) : loopR T top st (f + 1) s = ((loopR T top st f (st s).1).1, (st s).2 :: (loopR T top st f (st s).1).2) := by
  rw [loopR, if_neg (by simp [h0]), if_neg (by
    rintro (h | ⟨h, _⟩)
    · omega
    · rw [h2] at h
      exact absurd h (by decide)), if_pos ⟨h2, h3⟩]
theorem loopR_bad {α : Type} {top : Bool} {st : Rs → Rs × α} {f : Nat} {s : Rs} (h0 : s.code = 0) (h1 : s.i < T.length) (h2 : ¬ (kindT T s.i = 4 ∧ top = false)) (h3 : ¬ (kindT T s.i = 1 ∧ begW (textT T s.i) = true)) : loopR T top st (f + 1) s = (⟨s.i, 5⟩, []) := by
  rw [loopR, if_neg (by simp [h0]), if_neg (by
    rintro (h | h)
    · omega
    · exact h2 h), if_neg h3]
end
end Go.Proofs.YthkbckkghnbonaaDoor
namespace Go.Proofs.YthkbckkghnbonaaDoor
open Go.RowKit
set_option linter.unusedVariables false
def qR (T : List Tk) : Nat → Rs → Rs × List ByteArray
  | 0, s => if s.code = 0 ∧ kindT T s.i = 1 then (⟨s.i, 10⟩, []) else ((takeR T s 2 4).1, [])
  | m + 1, s => if s.code = 0 ∧ kindT T s.i = 1 then ((qR T m ⟨s.i + 1, 0⟩).1, textT T s.i :: (qR T m ⟨s.i + 1, 0⟩).2) else ((takeR T s 2 4).1, [])
/-- The qubits. -/
def headR (T : List Tk) : Rs × List ByteArray :=
  if kindT T 0 = 1 ∧ (textT T 0).toList = [113, 117, 98, 105, 116, 115] then ((qR T 3 (takeR T ⟨1, 0⟩ 1 3).1).1, (takeR T ⟨1, 0⟩ 1 3).2 :: (qR T 3 (takeR T ⟨1, 0⟩ 1 3).1).2) else (⟨0, 2⟩, [])
def bodyT (T : List Tk) (s : Rs) : Rs × List (Tr 5) := loopR T true (stmtR T (innerR T 4)) (T.length + 1) s
/-- What is read: the fault, its place, the qubits, the statements. -/
def parseR (o : Option (List Tk)) : Int × Nat × List ByteArray × List (Tr 5) := match o with
  | none => (1, 0, [], [])
  | some T => if (bodyT T (headR T).1).1.code = 0 then (0, 0, (headR T).2, (bodyT T (headR T).1).2) else ((bodyT T (headR T).1).1.code, (bodyT T (headR T).1).1.i, [], [])
section
variable {T : List Tk}
def Small8 (T : List Tk) : Prop := ∀ t ∈ T, t.s.size ≤ 8
theorem textT_le (h : Small8 T) (i : Nat) : (textT T i).size ≤ 8 := by
  unfold textT
  cases e : T[i]? with
  | none => exact Nat.zero_le _
  | some t => exact h t (List.mem_of_getElem? e)
theorem takeR_sz (h : Small8 T) (s : Rs) (k c : Int) : (takeR T s k c).2.size ≤ 8 := by
  unfold takeR
  split
  · exact textT_le h _
  · exact Nat.zero_le _
theorem namesR_sz (h : Small8 T) (n : Nat) : ∀ s : Rs, szS (namesR T n s).2 ≤ 8 * n := by
  induction n with
  | zero => intro s; exact Nat.le_refl _
  | succ n ih =>
    intro s
    show (takeR T s 1 3).2.size + szS (namesR T n (takeR T s 1 3).1).2 ≤ _
    have := takeR_sz h s 1 3
    have := ih (takeR T s 1 3).1
    omega
/-- What is read weighs at most forty for each token. -/
def Light {d : Nat} (T : List Tk) (f : Rs → Rs × List (Tr d)) : Prop := ∀ s : Rs, s.i ≤ T.length → szT d (f s).2 + 40 * s.i ≤ 40 * (f s).1.i
theorem bodyR_light {d : Nat} {inner : Rs → Rs × List (Tr d)} (hg : Goes T inner) (h : Light T inner) : Light T (bodyR T inner) := by
  intro s hs
  unfold bodyR
  have key : ∀ s1 : Rs, s1.i = s.i → szT d (inner (takeR T s1 3 7).1).2 + 40 * s.i ≤ 40 * (takeR T (inner (takeR T s1 3 7).1).1 4 8).1.i := by
    intro s1 h1
    have a := (takeR_i (T := T) s1 3 7).1
    have b := takeR_le (T := T) (s := s1) (k := 3) (c := 7) (by decide) (by omega)
    have c := h _ b
    have e := (takeR_i (T := T) (inner (takeR T s1 3 7).1).1 4 8).1
    omega
  show szT d (inner (takeR T (if _ then _ else _) 3 7).1).2 + _ ≤ 40 * (takeR T (inner (takeR T (if _ then _ else _) 3 7).1).1 4 8).1.i
  split
  · exact key _ (failR_i _ _)
  · exact key _ rfl
theorem stmtR_light {d : Nat} {inner : Rs → Rs × List (Tr d)} (hz : Small8 T) (hg : Goes T inner) (h : Light T inner) {s : Rs} (hs : s.i < T.length) : 1 + szE (stmtR T inner s).2 + 40 * s.i ≤ 40 * (stmtR T inner s).1.i := by
  have hb := bodyR_light hg h
  have hbg := bodyR_goes hg
  have h0 : (⟨s.i + 1, s.code⟩ : Rs).i ≤ T.length := hs
  unfold stmtR
  simp only []
  split
  · have a := numR_le (T := T) h0
    have a2 : s.i + 1 ≤ (numR T ⟨s.i + 1, s.code⟩).1.i := numR_i (T := T) ⟨s.i + 1, s.code⟩
    have b := hb _ a
    show 1 + szE (mkT _ _) + _ ≤ _
    rw [szE_mk]
    show 1 + (0 + (0 + 0 + szT d (bodyR T inner (numR T ⟨s.i + 1, s.code⟩).1).2)) + 40 * s.i ≤ 40 * (bodyR T inner (numR T ⟨s.i + 1, s.code⟩).1).1.i
    omega
  · split
    · have b : szT d (bodyR T inner ⟨s.i + 1, s.code⟩).2 + 40 * (s.i + 1) ≤ 40 * (bodyR T inner ⟨s.i + 1, s.code⟩).1.i := hb _ h0
      show 1 + szE (mkT _ _) + _ ≤ _
      rw [szE_mk]
      show 1 + (0 + (0 + 0 + szT d (bodyR T inner ⟨s.i + 1, s.code⟩).2)) + 40 * s.i ≤ 40 * (bodyR T inner ⟨s.i + 1, s.code⟩).1.i
      omega
    · split
      · have a2 : s.i + 1 ≤ (namesR T 2 ⟨s.i + 1, s.code⟩).1.i := namesR_i (T := T) 2 ⟨s.i + 1, s.code⟩
        have a3 := namesR_sz hz 2 ⟨s.i + 1, s.code⟩
        have a4 := namesR_len (T := T) 2 ⟨s.i + 1, s.code⟩
        have a5 := (takeR_i (T := T) (namesR T 2 ⟨s.i + 1, s.code⟩).1 2 4).1
        show 1 + szE (mkT _ _) + _ ≤ _
        rw [szE_mk, szT_nil]
        show 1 + (0 + ((namesR T 2 ⟨s.i + 1, s.code⟩).2.length + szS (namesR T 2 ⟨s.i + 1, s.code⟩).2 + 0)) + 40 * s.i ≤ 40 * (takeR T (namesR T 2 ⟨s.i + 1, s.code⟩).1 2 4).1.i
        omega
      · split
        · have hr := ar_le (gkind (textT T s.i))
          obtain ⟨m, hm⟩ : ∃ m, m = ar (gkind (textT T s.i)) := ⟨_, rfl⟩
          rw [← hm] at hr ⊢
          have a2 : s.i + 1 ≤ (namesR T m ⟨s.i + 1, s.code⟩).1.i := namesR_i (T := T) m ⟨s.i + 1, s.code⟩
          have a3 := namesR_sz hz m ⟨s.i + 1, s.code⟩
          have a4 := namesR_len (T := T) m ⟨s.i + 1, s.code⟩
          have a5 := (takeR_i (T := T) (namesR T m ⟨s.i + 1, s.code⟩).1 2 4).1
          have a6 := textT_le hz s.i
          show 1 + szE (mkT _ _) + _ ≤ _
          rw [szE_mk, szT_nil]
          show 1 + ((textT T s.i).size + ((namesR T m ⟨s.i + 1, s.code⟩).2.length + szS (namesR T m ⟨s.i + 1, s.code⟩).2 + 0)) + 40 * s.i ≤ 40 * (takeR T (namesR T m ⟨s.i + 1, s.code⟩).1 2 4).1.i
          omega
        · have a := namesR_le (T := T) 1 _ h0
          have a2 : s.i + 1 ≤ (namesR T 1 ⟨s.i + 1, s.code⟩).1.i := namesR_i (T := T) 1 ⟨s.i + 1, s.code⟩
          have a3 := namesR_sz hz 1 ⟨s.i + 1, s.code⟩
          have a4 := namesR_len (T := T) 1 ⟨s.i + 1, s.code⟩
          have b := hb _ a
          show 1 + szE (mkT _ _) + _ ≤ _
          rw [szE_mk]
          show 1 + (0 + ((namesR T 1 ⟨s.i + 1, s.code⟩).2.length + szS (namesR T 1 ⟨s.i + 1, s.code⟩).2 + szT d (bodyR T inner (namesR T 1 ⟨s.i + 1, s.code⟩).1).2)) + 40 * s.i ≤ 40 * (bodyR T inner (namesR T 1 ⟨s.i + 1, s.code⟩).1).1.i
          omega
theorem loopR_light {d : Nat} {top : Bool} {st : Rs → Rs × Tr (d + 1)} (hg : ∀ s : Rs, s.i < T.length → s.i + 1 ≤ (st s).1.i ∧ (st s).1.i ≤ T.length) (h : ∀ s : Rs, s.i < T.length → 1 + szE (st s).2 + 40 * s.i ≤ 40 * (st s).1.i) : ∀ f : Nat, Light T (loopR T top st f) := by
  intro f
  induction f with
  | zero => intro s hs; show szT (d + 1) [] + _ ≤ _; rw [szT_nil]; show 0 + 40 * s.i ≤ 40 * s.i; omega
  | succ f ih =>
    intro s hs
    have nil : ∀ c : Int, szT (d + 1) (([] : List (Tr (d + 1)))) + 40 * s.i ≤ 40 * (⟨s.i, c⟩ : Rs).i := fun c => by rw [szT_nil]; show 0 + 40 * s.i ≤ 40 * s.i; omega
    unfold loopR
    split
    · exact nil s.code
    · split
      · exact nil s.code
      · rename_i h1
        split
        · have h2 := hg s (by omega)
          have h3 := h s (by omega)
          have h4 := ih (st s).1 h2.2
          have e : szT (d + 1) ((st s).2 :: (loopR T top st f (st s).1).2) = 1 + szE (st s).2 + szT (d + 1) (loopR T top st f (st s).1).2 := by
            rw [show (st s).2 :: (loopR T top st f (st s).1).2 = [(st s).2] ++ (loopR T top st f (st s).1).2 from rfl, szT_append, szT_one]
          show szT (d + 1) ((st s).2 :: (loopR T top st f (st s).1).2) + 40 * s.i ≤ 40 * (loopR T top st f (st s).1).1.i
          rw [e]
          omega
        · exact nil 5
theorem innerR_light (hz : Small8 T) : ∀ d : Nat, Light T (innerR T d) := by
  intro d
  induction d with
  | zero => intro s hs; show szT 0 [] + _ ≤ _; rw [szT_nil]; show 0 + 40 * s.i ≤ 40 * s.i; omega
  | succ d ih => exact loopR_light (fun s hs => stmtR_goes (innerR_goes d) hs) (fun s hs => stmtR_light hz (innerR_goes d) ih hs) _
theorem bodyT_light (hz : Small8 T) (s : Rs) (hs : s.i ≤ T.length) : szT 5 (bodyT T s).2 + 40 * s.i ≤ 40 * (bodyT T s).1.i ∧ (bodyT T s).1.i ≤ T.length :=
  ⟨loopR_light (fun s hs => stmtR_goes (innerR_goes 4) hs) (fun s hs => stmtR_light hz (innerR_goes 4) (innerR_light hz 4) hs) _ s hs, (loopR_goes (fun s hs => stmtR_goes (innerR_goes 4) hs) _ s hs).2⟩
theorem qR_le (m : Nat) : ∀ s : Rs, s.i ≤ T.length → (qR T m s).1.i ≤ T.length ∧ (qR T m s).2.length ≤ m := by
  induction m with
  | zero =>
    intro s hs
    unfold qR
    split
    · exact ⟨hs, Nat.le_refl _⟩
    · exact ⟨takeR_le (by decide) hs, Nat.le_refl _⟩
  | succ m ih =>
    intro s hs
    unfold qR
    split
    · rename_i h
      have h1 := kindT_lt (T := T) (i := s.i) (by rw [h.2]; decide)
      have h2 := ih ⟨s.i + 1, 0⟩ h1
      exact ⟨h2.1, Nat.succ_le_succ h2.2⟩
    · exact ⟨takeR_le (by decide) hs, Nat.zero_le _⟩
theorem qR_sz (hz : Small8 T) (m : Nat) : ∀ s : Rs, ∀ x ∈ (qR T m s).2, x.size ≤ 8 := by
  induction m with
  | zero =>
    intro s x hx
    unfold qR at hx
    split at hx <;> cases hx
  | succ m ih =>
    intro s x hx
    unfold qR at hx
    split at hx
    · rcases List.mem_cons.1 hx with rfl | hx
      · exact textT_le hz _
      · exact ih _ x hx
    · cases hx
theorem headR_ok (hz : Small8 T) (hl : 1 ≤ T.length ∨ T = []) : (headR T).1.i ≤ T.length ∧ (headR T).2.length ≤ 4 ∧ ∀ x ∈ (headR T).2, x.size ≤ 8 := by
  unfold headR
  split
  · rename_i h
    have h1 := kindT_lt (T := T) (i := 0) (by rw [h.1]; decide)
    have h2 := takeR_le (T := T) (s := ⟨1, 0⟩) (k := 1) (c := 3) (by decide) h1
    have h3 := qR_le (T := T) 3 _ h2
    refine ⟨h3.1, Nat.succ_le_succ h3.2, fun x hx => ?_⟩
    rcases List.mem_cons.1 hx with rfl | hx
    · exact takeR_sz hz _ _ _
    · exact qR_sz hz 3 _ x hx
  · exact ⟨Nat.zero_le _, Nat.zero_le _, fun x hx => by cases hx⟩
end
end Go.Proofs.YthkbckkghnbonaaDoor
