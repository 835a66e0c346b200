/- What the calls that this law reaches answer, part 8 of 17. -/
import Derived.Test.YthkbckkghnbonaaGreatDoorJProgramText7
import Derived.Test.YthkbckkghnbonaaGreatDoorJProgramText1
import Derived.Laws.IdiomStrings
import Derived.Test.YthkbckkghnbonaaGreatDoorJProgramText3
namespace Go.Proofs.YthkbckkghnbonaaGreatDoor
open Go.RowKit
set_option linter.unusedVariables false
def DrewP (w : World) (e : Ending) (w' : World) : Prop := ∃ (Aq : Option Addr) (cq : Nat) (Q : List ByteArray) (Ab : Option Addr) (nb cb : Nat) (l : List (Tr 6)), e = .returned (.agg #[.slice Aq Q.length cq, .slice Ab nb cb]) ∧
  RdL w' 0 1 Aq Q.length (strs Q) ∧ (Q.length ≤ 4 ∧ ∀ s ∈ Q, s.size ≤ 9) ∧ RdT w' 0 6 Ab nb l ∧ szT 6 l ≤ 100000 ∧ Below w.heap.size w w'
theorem szS9p : ∀ Q : List ByteArray, (∀ s ∈ Q, s.size ≤ 9) → szS Q ≤ 9 * Q.length := by
  intro Q
  induction Q with
  | nil => intro _; exact Nat.le_refl _
  | cons s Q ih =>
    intro h
    have h1 := h s (by simp)
    have h2 := ih (fun x hx => h x (by simp [hx]))
    show s.size + szS Q ≤ _
    rw [List.length_cons]
    omega
set_option maxRecDepth 100000 in
set_option maxHeartbeats 2000000 in
theorem DrawFormatProgram_any (A : Option Addr) (n c : Nat) (bs : List (Fin 256)) (w : World) (h : Rd w 1 A n (bs.flatMap bcell)) (hl : bs.length = n) (hn : n ≤ 1048576) : Calls Tryz.prog 8 #[.slice A n c] w (DrewP w) := by
  have b0 : Below w.heap.size w (w.alloc (.cells #[.slice none 0 0, .slice none 0 0] 27)) := (by repeat (first | exact Below.refl _ _ | assumption | (refine Below.trans ?_ (Below.mono (by assumption) (by first | omega | (simp; done) | (simp; omega)))) | (with_reducible refine Below.drew ?_) | (with_reducible refine Below.alloc ?_ (by first | omega | (simp; done) | (simp; omega)) _) | (with_reducible refine Below.setCell ?_ (by first | omega | (simp; done) | (simp; omega)) _)))
  have H := Lib.hid (h.below b0)
  have HL := Lib.hid hl
  clear h hl b0
  go_enter Tryz.func8, Tryz.ntmps8
  go_wp2_with fail
  obtain ⟨w0, hw0⟩ : ∃ w0, w0 = w.alloc (.cells #[.slice none 0 0, .slice none 0 0] 27) := ⟨_, rfl⟩
  rw [← hw0] at H ⊢
  have x0 : w0.heap[w.heap.size]? = some (.cells #[.slice none 0 0, .slice none 0 0] 27 (0, 0)) := by rw [hw0]; exact boxed1_0 _ _
  have b0 : Below w.heap.size w w0 := by rw [hw0]; exact (by repeat (first | exact Below.refl _ _ | assumption | (refine Below.trans ?_ (Below.mono (by assumption) (by first | omega | (simp; done) | (simp; omega)))) | (with_reducible refine Below.drew ?_) | (with_reducible refine Below.alloc ?_ (by first | omega | (simp; done) | (simp; omega)) _) | (with_reducible refine Below.setCell ?_ (by first | omega | (simp; done) | (simp; omega)) _)))
  have s0 : w.heap.size < w0.heap.size := by rw [hw0]; simp
  clear hw0
  refine (l1New_any _ _ _ bs w0 H.out HL.out hn).mono ?_
  rintro e w1 ⟨p, rfl, hp1, hc1, hb1⟩
  have lp := hc1.lt
  have s1 := hb1.size
  have x1 := Lib.hid ((hb1.block _ s0).trans x0)
  have HB1 := Lib.hid (b0.trans (hb1.mono (by omega)))
  have hpX : w.heap.size ≠ p := by omega
  clear hb1 b0 x0
  go_wp2_with fail
  refine (l17Bent_any w1 p hc1).mono ?_
  rintro e w2 ⟨Aq, nq, cq, Q, vb, l, rfl, hq, ⟨hql, hq4, hqc, hqm, hq9⟩, hbo, hz, hc2, hg2⟩
  obtain ⟨A2, c2, rfl, h1, h2⟩ := hbo.slice
  subst hql
  have x2 := box_call x1.out hg2 hpX
  have hz2 := hg2.size
  have B2 := Lib.hid (HB1.out.trans (grown_below hg2 HB1.out.size (fun k hk => by injection hk with hk; omega)))
  have hX1 : w.heap.size < w1.heap.size := by omega
  have HQ := Lib.hid hq
  have HO := Lib.hid hbo
  have HZ := Lib.hid hz
  have HQ9 := Lib.hid hq9
  obtain ⟨r0, r1⟩ := cells2G (lay := Below.refl _ _) x2
  have f0 := free_at (j := 0) x2
  have f1 := free_at (j := 1) x2
  have lx := lt_of_block x2
  clear hbo hq hz hg2 hc2 h1 h2 x2 hq9
  go_wp2_with fail
  refine bodyPost_ret (v := .agg #[.slice Aq Q.length cq, .slice A2 l.length c2]) (by simp [results, Tryz.results8, go_sem, r0, r1]) rfl ?_
  refine ⟨Aq, cq, Q, A2, _, c2, l, rfl, ?_, ⟨hq4, HQ9.out⟩, ?_, HZ.out, (by repeat (first | exact Below.refl _ _ | assumption | (refine Below.trans ?_ (Below.mono (by assumption) (by first | omega | (simp; done) | (simp; omega)))) | (with_reducible refine Below.drew ?_) | (with_reducible refine Below.alloc ?_ (by first | omega | (simp; done) | (simp; omega)) _) | (with_reducible refine Below.setCell ?_ (by first | omega | (simp; done) | (simp; omega)) _)))⟩
  · exact ((HQ.out.set_ (p := ⟨w.heap.size, 0, none⟩) (fun hb => by have := hb.1; simp at this; omega) _).set_ (p := ⟨w.heap.size, 1, none⟩) (fun hb => by have := hb.1; simp at this; omega) _).rd.rdl
  · exact TrQ.rdt (lo := 0) (fun b _ => Nat.zero_le b) (((HO.out.set_ (p := ⟨w.heap.size, 0, none⟩) (by show w.heap.size < _; omega) _).set_ (p := ⟨w.heap.size, 1, none⟩) (by show w.heap.size < _; omega) _).tr rfl)
end Go.Proofs.YthkbckkghnbonaaGreatDoor
namespace Go.Proofs.YthkbckkghnbonaaGreatDoor
open Go.RowKit
set_option linter.unusedVariables false
def ltrB (x : Int) : Bool := decide (97 ≤ x ∧ x ≤ 122) || decide (48 ≤ x ∧ x ≤ 57)
theorem ltrB_1 {x : Int} (h1 : 97 ≤ x) (h2 : x ≤ 122) : ltrB x = true := by simp [ltrB, h1, h2]
theorem ltrB_2 {x : Int} (h1 : 48 ≤ x) (h2 : x ≤ 57) : ltrB x = true := by simp [ltrB, h1, h2]
theorem ltrB_f {x : Int} (h1 : x < 97 ∨ 122 < x) (h2 : x < 48 ∨ 57 < x) : ltrB x = false := by simp [ltrB]; omega
set_option maxRecDepth 100000 in
set_option maxHeartbeats 1000000 in
theorem isLetter_any (x : Int) (w : World) : Calls Tryz.prog 100 #[.int .u8 x] w fun e w' => e = .returned (.bool (ltrB x)) ∧ w = w' := by
  by_cases h1 : 97 ≤ x
  · by_cases h2 : x ≤ 122
    · rw [ltrB_1 h1 h2]
      go_enter Tryz.func100, Tryz.ntmps100
      go_wp2
      go_ret
      exact ⟨rfl, rfl⟩
    · rw [ltrB_f (by omega) (by omega)]
      have h3 : decide (x ≤ 122) = false := by simpa using h2
      have h4 : decide (x ≤ 57) = false := by simp; omega
      have h5 : (48 : Int) ≤ x := by omega
      clear h2
      go_enter Tryz.func100, Tryz.ntmps100
      go_wp2
      go_ret
      exact ⟨rfl, rfl⟩
  · have h3 : decide (97 ≤ x) = false := by simpa using h1
    by_cases h4 : 48 ≤ x
    · by_cases h5 : x ≤ 57
      · rw [ltrB_2 h4 h5]
        clear h1
        go_enter Tryz.func100, Tryz.ntmps100
        go_wp2
        go_ret
        exact ⟨rfl, rfl⟩
      · rw [ltrB_f (by omega) (by omega)]
        have h6 : decide (x ≤ 57) = false := by simpa using h5
        clear h1 h5
        go_enter Tryz.func100, Tryz.ntmps100
        go_wp2
        go_ret
        exact ⟨rfl, rfl⟩
    · rw [ltrB_f (by omega) (by omega)]
      have h6 : decide (48 ≤ x) = false := by simpa using h4
      clear h1 h4
      go_enter Tryz.func100, Tryz.ntmps100
      go_wp2
      go_ret
      exact ⟨rfl, rfl⟩
set_option maxRecDepth 100000 in
set_option maxHeartbeats 1000000 in
theorem l16Letter_any (x : Int) (w : World) : Calls Tryz.prog 89 #[.int .u8 x] w fun e w' => e = .returned (.bool (ltrB x)) ∧ w = w' := by
  by_cases h1 : 97 ≤ x
  · by_cases h2 : x ≤ 122
    · rw [ltrB_1 h1 h2]
      go_enter Tryz.func89, Tryz.ntmps89
      go_wp2
      go_ret
      exact ⟨rfl, rfl⟩
    · rw [ltrB_f (by omega) (by omega)]
      have h3 : decide (x ≤ 122) = false := by simpa using h2
      have h4 : decide (x ≤ 57) = false := by simp; omega
      have h5 : (48 : Int) ≤ x := by omega
      clear h2
      go_enter Tryz.func89, Tryz.ntmps89
      go_wp2
      go_ret
      exact ⟨rfl, rfl⟩
  · have h3 : decide (97 ≤ x) = false := by simpa using h1
    by_cases h4 : 48 ≤ x
    · by_cases h5 : x ≤ 57
      · rw [ltrB_2 h4 h5]
        clear h1
        go_enter Tryz.func89, Tryz.ntmps89
        go_wp2
        go_ret
        exact ⟨rfl, rfl⟩
      · rw [ltrB_f (by omega) (by omega)]
        have h6 : decide (x ≤ 57) = false := by simpa using h5
        clear h1 h5
        go_enter Tryz.func89, Tryz.ntmps89
        go_wp2
        go_ret
        exact ⟨rfl, rfl⟩
    · rw [ltrB_f (by omega) (by omega)]
      have h6 : decide (48 ≤ x) = false := by simpa using h4
      clear h1 h4
      go_enter Tryz.func89, Tryz.ntmps89
      go_wp2
      go_ret
      exact ⟨rfl, rfl⟩
def letsUpto (s : ByteArray) (k : Nat) : Bool := (s.data.toList.take k).all fun c => ltrB c.toNat
def wordOk (s : ByteArray) : Bool := letsUpto s s.size && inB s.size 1 8
theorem lets_step {s : ByteArray} {k : Nat} (h : k < s.size) : letsUpto s (k + 1) = (letsUpto s k && ltrB (s[k].toNat : Int)) := by
  unfold letsUpto
  rw [List.take_succ_eq_append_getElem (by simpa using h)]
  simp
  rfl
theorem lets_le {s : ByteArray} {k : Nat} (h : k ≤ s.size) (hf : letsUpto s k = false) : letsUpto s s.size = false := by
  unfold letsUpto at hf ⊢
  rw [List.all_eq_false] at hf ⊢
  obtain ⟨x, hx, hn⟩ := hf
  exact ⟨x, List.mem_of_mem_take (by rwa [List.take_take, Nat.min_eq_left h] : x ∈ List.take k (List.take s.size s.data.toList)), hn⟩
theorem wordOk_f {s : ByteArray} {k : Nat} (h : k < s.size) (hp : letsUpto s k = true) (hf : ltrB (s[k].toNat : Int) = false) : wordOk s = false := by
  have : letsUpto s (k + 1) = false := by rw [lets_step h, hf]; simp
  rw [wordOk, lets_le (by omega) this]
  rfl
theorem wordOk_e {s : ByteArray} (hp : letsUpto s s.size = true) : wordOk s = inB s.size 1 8 := by rw [wordOk, hp]; rfl
set_option maxRecDepth 100000 in
set_option maxHeartbeats 1000000 in
theorem IsValidWord_impl (s : ByteArray) (w : World) (hs : s.size ≤ 9223372036854775807) : Calls Tryz.prog 42 #[.string s] w fun e w' => e = .returned (.bool (wordOk s)) ∧ w = w' := by
  go_enter Tryz.func42, Tryz.ntmps42
  go_wp2
  go_loop [3] (fun i => ∃ k : Nat, k ≤ s.size ∧ i = .int .i64 k ∧ letsUpto s k = true) (fun i => s.size - (intOf i).toNat)
  case atStart => exact ⟨0, Nat.zero_le _, rfl, rfl⟩
  case round =>
    obtain ⟨k, hk, rfl, hp⟩ := hrel
    have HP := Lib.hid hp
    clear hp
    by_cases hlt : k < s.size
    · cases hl : ltrB (s[k].toNat : Int)
      · have HF := Lib.hid (wordOk_f hlt HP.out hl)
        go_wp2_with (go_at_call 100; refine (isLetter_any _ _).mono ?_; rintro e w' ⟨rfl, rfl⟩)
        go_ret
        exact ⟨by rw [HF.out]; rfl, rfl⟩
      · have HS := Lib.hid (show letsUpto s (k + 1) = true by rw [lets_step hlt, HP.out, hl]; rfl)
        go_wp2_with (go_at_call 100; refine (isLetter_any _ _).mono ?_; rintro e w' ⟨rfl, rfl⟩)
        go_round
        case rel => exact ⟨k + 1, by omega, by go_num, HS.out⟩
        case measure => simp [intOf]; omega
    · obtain rfl : k = s.size := by omega
      have HF := Lib.hid (wordOk_e HP.out)
      go_wp2_with (go_at_call 44; refine (in_any _ _ _ _).mono ?_; rintro e w' ⟨rfl, rfl⟩)
      go_ret
      exact ⟨by rw [HF.out]; rfl, rfl⟩
set_option maxRecDepth 100000 in
set_option maxHeartbeats 1000000 in
theorem IsValidWord_spec (s : ByteArray) (w : World) (hs : s.size ≤ 9223372036854775807) : Calls Tryz.prog 104 #[.string s] w fun e w' => e = .returned (.bool (wordOk s)) ∧ w = w' := by
  go_enter Tryz.func104, Tryz.ntmps104
  go_wp2
  go_loop [3] (fun i => ∃ k : Nat, k ≤ s.size ∧ i = .int .i64 k ∧ letsUpto s k = true) (fun i => s.size - (intOf i).toNat)
  case atStart => exact ⟨0, Nat.zero_le _, rfl, rfl⟩
  case round =>
    obtain ⟨k, hk, rfl, hp⟩ := hrel
    have HP := Lib.hid hp
    clear hp
    by_cases hlt : k < s.size
    · cases hl : ltrB (s[k].toNat : Int)
      · have HF := Lib.hid (wordOk_f hlt HP.out hl)
        go_wp2_with (go_at_call 89; refine (l16Letter_any _ _).mono ?_; rintro e w' ⟨rfl, rfl⟩)
        go_ret
        exact ⟨by rw [HF.out]; rfl, rfl⟩
      · have HS := Lib.hid (show letsUpto s (k + 1) = true by rw [lets_step hlt, HP.out, hl]; rfl)
        go_wp2_with (go_at_call 89; refine (l16Letter_any _ _).mono ?_; rintro e w' ⟨rfl, rfl⟩)
        go_round
        case rel => exact ⟨k + 1, by omega, by go_num, HS.out⟩
        case measure => simp [intOf]; omega
    · obtain rfl : k = s.size := by omega
      have HF := Lib.hid (wordOk_e HP.out)
      go_wp2_with (go_at_call 47; refine (l1In_any _ _ _ _).mono ?_; rintro e w' ⟨rfl, rfl⟩)
      go_ret
      exact ⟨by rw [HF.out]; rfl, rfl⟩
end Go.Proofs.YthkbckkghnbonaaGreatDoor
namespace Go.Proofs.YthkbckkghnbonaaGreatDoor
open Go.RowKit
set_option linter.unusedVariables false
/-- A token as plain data. -/
structure Tk where
  k : Int
  s : ByteArray
def tkc (t : Tk) : List Value := [.int .i64 t.k, .string t.s]
def tkcs (l : List Tk) : List Value := l.flatMap tkc
theorem tkc_len (t : Tk) : (tkc t).length = 2 := rfl
theorem tkcs_len (l : List Tk) : (tkcs l).length = l.length * 2 := by
  induction l with
  | nil => rfl
  | cons x l ih => rw [tkcs, List.flatMap_cons, List.length_append, tkc_len, ← tkcs, ih, List.length_cons]; omega
theorem tkcs_append (l l' : List Tk) : tkcs (l ++ l') = tkcs l ++ tkcs l' := List.flatMap_append
theorem tkc_ones (l : List Tk) : ∀ u ∈ tkcs l, u.oneCell' = true := by
  intro u hu
  obtain ⟨t, _, ht⟩ := List.mem_flatMap.1 hu
  simp only [tkc, List.mem_cons, List.not_mem_nil, or_false] at ht
  rcases ht with rfl | rfl <;> rfl
def wTk (s : ByteArray) : Tk := ⟨1, s⟩
def pTk (k : Int) : Tk := ⟨k, ⟨#[]⟩⟩
theorem info_TkE : (Tryz.prog.info? 110).map (fun i => (i.zero, i.size, i.bytes)) = some (some (.agg #[.int .i64 0, .string ⟨#[]⟩]), 2, 24) := by kernel_rfl
theorem tkcs_at {l : List Tk} {t : Nat} {x : Tk} (h : l[t]? = some x) : (tkcs l)[t * 2]? = some (.int .i64 x.k) ∧ (tkcs l)[t * 2 + 1]? = some (.string x.s) :=
  ⟨flat_at tkc_len l t x 0 h (by decide), flat_at tkc_len l t x 1 h (by decide)⟩
theorem rd_tk {w : World} {A : Option Addr} {n t : Nat} {l : List Tk} {x : Tk} (h : Rd w 2 A n (tkcs l)) (hl : l.length = n) (hx : l[t]? = some x) : ∃ b off, A = some ⟨b, off, none⟩ ∧ b < w.heap.size ∧ w.cell? ⟨b, off + t * 2, none⟩ = some (.int .i64 x.k) ∧ w.cell? ⟨b, off + t * 2 + 1, none⟩ = some (.string x.s) := by
  have hlt := (List.getElem?_eq_some_iff.1 hx).1
  obtain ⟨b, off, e, hb, hc⟩ := h.2 (by omega)
  exact ⟨b, off, e, hb, hc _ _ (tkcs_at hx).1, hc _ _ (tkcs_at hx).2⟩
theorem below_undrew3 {w w' : World} (h : Below w.drew.heap.size w.drew w') : Below w.heap.size w w' := ⟨h.os, h.tape, h.output, h.size, h.block⟩
theorem rd_lit2 {w : World} {cs : Array Value} {e n size b : Nat} (h0 : b = w.heap.size) (hs : cs.size = n * size) : Rd (w.alloc (.cells cs e)) size (some ⟨b, 0, none⟩) n cs.toList := by
  subst h0
  refine ⟨by simpa using hs, fun _ => ⟨_, 0, rfl, by simp, fun j u hu => ?_⟩⟩
  have h := heap_alloc_new w (.cells cs e)
  have hc : cs[j]? = some u := by rw [← Array.getElem?_toList]; exact hu
  rw [Nat.zero_add]
  exact cell_at h hc
end Go.Proofs.YthkbckkghnbonaaGreatDoor
namespace Go.Proofs.YthkbckkghnbonaaGreatDoor
open Go.RowKit
set_option linter.unusedVariables false
def symT (k : Int) : ByteArray := if k = 2 then ⟨#[59]⟩ else if k = 3 then ⟨#[123]⟩ else if k = 4 then ⟨#[125]⟩ else ⟨#[]⟩
/-- The text of a token. -/
def fmtT (k : Int) (s : ByteArray) : ByteArray := if k = 1 ∧ wordOk s = true then s else if s.toList = [] then symT k else ⟨#[]⟩
theorem wordOk_size {s : ByteArray} (h : wordOk s = true) : 1 ≤ s.size ∧ s.size ≤ 8 := by
  unfold wordOk at h
  simp only [Bool.and_eq_true] at h
  have := inB_iff.1 h.2
  omega
theorem symT_size (k : Int) : (symT k).size ≤ 1 := by
  unfold symT
  split
  · exact Nat.le_refl _
  · split
    · exact Nat.le_refl _
    · split
      · exact Nat.le_refl _
      · exact Nat.zero_le _
theorem fmtT_size (k : Int) (s : ByteArray) : (fmtT k s).size ≤ 8 := by
  unfold fmtT
  split
  · rename_i h; exact (wordOk_size h.2).2
  · split
    · have := symT_size k; omega
    · exact Nat.zero_le _
theorem fmtT_w {s : ByteArray} (h : wordOk s = true) : fmtT 1 s = s := if_pos ⟨rfl, h⟩
theorem fmtT_e {k : Int} {s : ByteArray} (h : k ≠ 1 ∨ wordOk s = false) (hs : s.toList = []) : fmtT k s = symT k := by
  rw [fmtT, if_neg (by rcases h with h | h <;> simp [h]), if_pos hs]
theorem fmtT_n {k : Int} {s : ByteArray} (h : k ≠ 1 ∨ wordOk s = false) (hs : s.toList ≠ []) : fmtT k s = ⟨#[]⟩ := by
  rw [fmtT, if_neg (by rcases h with h | h <;> simp [h]), if_neg hs]
set_option maxRecDepth 100000 in
set_option maxHeartbeats 2000000 in
theorem FormatToken_impl (k : Int) (s : ByteArray) (w : World) (hs : s.size ≤ 9223372036854775807) : Calls Tryz.prog 94 #[.agg #[.int .i64 k, .string s]] w fun e w' => e = .returned (.string (fmtT k s)) ∧ Below w.heap.size w w' ∧ w.heap.size ≤ w'.heap.size := by
  by_cases h1 : k = 1
  · subst h1
    cases hw : wordOk s
    · by_cases he : s.toList = []
      · have HF := Lib.hid ((fmtT_e (k := 1) (Or.inr hw) he).trans (show symT 1 = ⟨#[]⟩ from rfl))
        have e2 : s.toList.isEmpty = true := by simp [he]
        clear he
        go_enter Tryz.func94, Tryz.ntmps94
        go_wp2_with (go_at_call 42; refine (IsValidWord_impl _ _ hs).mono ?_; rintro e w' ⟨rfl, rfl⟩)
        go_ret
        exact ⟨by rw [HF.out]; rfl, (by repeat (first | exact Below.refl _ _ | assumption | (refine Below.trans ?_ (Below.mono (by assumption) (by first | omega | (simp; done) | (simp; omega)))) | (with_reducible refine Below.drew ?_) | (with_reducible refine Below.alloc ?_ (by first | omega | (simp; done) | (simp; omega)) _) | (with_reducible refine Below.setCell ?_ (by first | omega | (simp; done) | (simp; omega)) _))), (by first | omega | (simp; done) | (simp; omega))⟩
      · have HF := Lib.hid (fmtT_n (k := 1) (Or.inr hw) he)
        have e2 : s.toList.isEmpty = false := by rw [List.isEmpty_eq_false_iff]; exact he
        clear he
        go_enter Tryz.func94, Tryz.ntmps94
        go_wp2_with (go_at_call 42; refine (IsValidWord_impl _ _ hs).mono ?_; rintro e w' ⟨rfl, rfl⟩)
        go_ret
        exact ⟨by rw [HF.out]; rfl, (by repeat (first | exact Below.refl _ _ | assumption | (refine Below.trans ?_ (Below.mono (by assumption) (by first | omega | (simp; done) | (simp; omega)))) | (with_reducible refine Below.drew ?_) | (with_reducible refine Below.alloc ?_ (by first | omega | (simp; done) | (simp; omega)) _) | (with_reducible refine Below.setCell ?_ (by first | omega | (simp; done) | (simp; omega)) _))), (by first | omega | (simp; done) | (simp; omega))⟩
    · have HF := Lib.hid (fmtT_w hw)
      go_enter Tryz.func94, Tryz.ntmps94
      go_wp2_with (go_at_call 42; refine (IsValidWord_impl _ _ hs).mono ?_; rintro e w' ⟨rfl, rfl⟩)
      go_ret
      exact ⟨by rw [HF.out]; rfl, (by repeat (first | exact Below.refl _ _ | assumption | (refine Below.trans ?_ (Below.mono (by assumption) (by first | omega | (simp; done) | (simp; omega)))) | (with_reducible refine Below.drew ?_) | (with_reducible refine Below.alloc ?_ (by first | omega | (simp; done) | (simp; omega)) _) | (with_reducible refine Below.setCell ?_ (by first | omega | (simp; done) | (simp; omega)) _))), (by first | omega | (simp; done) | (simp; omega))⟩
  · have e1 : (k == 1) = false := beq_eq_false_iff_ne.2 h1
    by_cases he : s.toList = []
    · have e2 : s.toList.isEmpty = true := by simp [he]
      have HF := Lib.hid (fmtT_e (k := k) (Or.inl h1) he)
      clear he
      by_cases h2 : k = 2
      · subst h2
        clear h1 e1
        go_enter Tryz.func94, Tryz.ntmps94
        go_wp2_with fail
        go_ret
        exact ⟨by rw [HF.out]; rfl, (by repeat (first | exact Below.refl _ _ | assumption | (refine Below.trans ?_ (Below.mono (by assumption) (by first | omega | (simp; done) | (simp; omega)))) | (with_reducible refine Below.drew ?_) | (with_reducible refine Below.alloc ?_ (by first | omega | (simp; done) | (simp; omega)) _) | (with_reducible refine Below.setCell ?_ (by first | omega | (simp; done) | (simp; omega)) _))), (by first | omega | (simp; done) | (simp; omega))⟩
      · by_cases h3 : k = 3
        · subst h3
          clear h1 h2 e1
          go_enter Tryz.func94, Tryz.ntmps94
          go_wp2_with fail
          go_ret
          exact ⟨by rw [HF.out]; rfl, (by repeat (first | exact Below.refl _ _ | assumption | (refine Below.trans ?_ (Below.mono (by assumption) (by first | omega | (simp; done) | (simp; omega)))) | (with_reducible refine Below.drew ?_) | (with_reducible refine Below.alloc ?_ (by first | omega | (simp; done) | (simp; omega)) _) | (with_reducible refine Below.setCell ?_ (by first | omega | (simp; done) | (simp; omega)) _))), (by first | omega | (simp; done) | (simp; omega))⟩
        · by_cases h4 : k = 4
          · subst h4
            clear h1 h2 h3 e1
            go_enter Tryz.func94, Tryz.ntmps94
            go_wp2_with fail
            go_ret
            exact ⟨by rw [HF.out]; rfl, (by repeat (first | exact Below.refl _ _ | assumption | (refine Below.trans ?_ (Below.mono (by assumption) (by first | omega | (simp; done) | (simp; omega)))) | (with_reducible refine Below.drew ?_) | (with_reducible refine Below.alloc ?_ (by first | omega | (simp; done) | (simp; omega)) _) | (with_reducible refine Below.setCell ?_ (by first | omega | (simp; done) | (simp; omega)) _))), (by first | omega | (simp; done) | (simp; omega))⟩
          · have HS := Lib.hid (HF.out.trans (show symT k = ⟨#[]⟩ by rw [symT, if_neg h2, if_neg h3, if_neg h4]))
            have e3 : (k == 2) = false := beq_eq_false_iff_ne.2 h2
            have e4 : (k == 3) = false := beq_eq_false_iff_ne.2 h3
            have e5 : (k == 4) = false := beq_eq_false_iff_ne.2 h4
            clear h1 h2 h3 h4
            go_enter Tryz.func94, Tryz.ntmps94
            go_wp2_with fail
            go_ret
            exact ⟨by rw [HS.out]; rfl, (by repeat (first | exact Below.refl _ _ | assumption | (refine Below.trans ?_ (Below.mono (by assumption) (by first | omega | (simp; done) | (simp; omega)))) | (with_reducible refine Below.drew ?_) | (with_reducible refine Below.alloc ?_ (by first | omega | (simp; done) | (simp; omega)) _) | (with_reducible refine Below.setCell ?_ (by first | omega | (simp; done) | (simp; omega)) _))), (by first | omega | (simp; done) | (simp; omega))⟩
    · have HF := Lib.hid (fmtT_n (k := k) (Or.inl h1) he)
      have e2 : s.toList.isEmpty = false := by rw [List.isEmpty_eq_false_iff]; exact he
      clear he h1
      go_enter Tryz.func94, Tryz.ntmps94
      go_wp2_with fail
      go_ret
      exact ⟨by rw [HF.out]; rfl, (by repeat (first | exact Below.refl _ _ | assumption | (refine Below.trans ?_ (Below.mono (by assumption) (by first | omega | (simp; done) | (simp; omega)))) | (with_reducible refine Below.drew ?_) | (with_reducible refine Below.alloc ?_ (by first | omega | (simp; done) | (simp; omega)) _) | (with_reducible refine Below.setCell ?_ (by first | omega | (simp; done) | (simp; omega)) _))), (by first | omega | (simp; done) | (simp; omega))⟩
set_option maxRecDepth 100000 in
set_option maxHeartbeats 2000000 in
theorem FormatToken_spec (k : Int) (s : ByteArray) (w : World) (hs : s.size ≤ 9223372036854775807) : Calls Tryz.prog 90 #[.agg #[.int .i64 k, .string s]] w fun e w' => e = .returned (.string (fmtT k s)) ∧ Below w.heap.size w w' ∧ w.heap.size ≤ w'.heap.size := by
  by_cases h1 : k = 1
  · subst h1
    cases hw : wordOk s
    · by_cases he : s.toList = []
      · have HF := Lib.hid ((fmtT_e (k := 1) (Or.inr hw) he).trans (show symT 1 = ⟨#[]⟩ from rfl))
        have e2 : s.toList.isEmpty = true := by simp [he]
        have hIN : inB 1 2 4 = false := rfl
        clear he
        go_enter Tryz.func90, Tryz.ntmps90
        go_wp2_with (first | (go_at_call 104; refine (IsValidWord_spec _ _ hs).mono ?_; rintro e w' ⟨rfl, rfl⟩) | (go_at_call 47; refine (l1In_any _ _ _ _).mono ?_; rintro e w' ⟨rfl, rfl⟩))
        go_ret
        exact ⟨by rw [HF.out]; rfl, (by repeat (first | exact Below.refl _ _ | assumption | (refine Below.trans ?_ (Below.mono (by assumption) (by first | omega | (simp; done) | (simp; omega)))) | (with_reducible refine Below.drew ?_) | (with_reducible refine Below.alloc ?_ (by first | omega | (simp; done) | (simp; omega)) _) | (with_reducible refine Below.setCell ?_ (by first | omega | (simp; done) | (simp; omega)) _))), (by first | omega | (simp; done) | (simp; omega))⟩
      · have HF := Lib.hid (fmtT_n (k := 1) (Or.inr hw) he)
        have e2 : s.toList.isEmpty = false := by rw [List.isEmpty_eq_false_iff]; exact he
        clear he
        go_enter Tryz.func90, Tryz.ntmps90
        go_wp2_with (go_at_call 104; refine (IsValidWord_spec _ _ hs).mono ?_; rintro e w' ⟨rfl, rfl⟩)
        go_ret
        exact ⟨by rw [HF.out]; rfl, (by repeat (first | exact Below.refl _ _ | assumption | (refine Below.trans ?_ (Below.mono (by assumption) (by first | omega | (simp; done) | (simp; omega)))) | (with_reducible refine Below.drew ?_) | (with_reducible refine Below.alloc ?_ (by first | omega | (simp; done) | (simp; omega)) _) | (with_reducible refine Below.setCell ?_ (by first | omega | (simp; done) | (simp; omega)) _))), (by first | omega | (simp; done) | (simp; omega))⟩
    · have HF := Lib.hid (fmtT_w hw)
      go_enter Tryz.func90, Tryz.ntmps90
      go_wp2_with (go_at_call 104; refine (IsValidWord_spec _ _ hs).mono ?_; rintro e w' ⟨rfl, rfl⟩)
      go_ret
      exact ⟨by rw [HF.out]; rfl, (by repeat (first | exact Below.refl _ _ | assumption | (refine Below.trans ?_ (Below.mono (by assumption) (by first | omega | (simp; done) | (simp; omega)))) | (with_reducible refine Below.drew ?_) | (with_reducible refine Below.alloc ?_ (by first | omega | (simp; done) | (simp; omega)) _) | (with_reducible refine Below.setCell ?_ (by first | omega | (simp; done) | (simp; omega)) _))), (by first | omega | (simp; done) | (simp; omega))⟩
  · have e1 : (k == 1) = false := beq_eq_false_iff_ne.2 h1
    by_cases he : s.toList = []
    · have e2 : s.toList.isEmpty = true := by simp [he]
      have HF := Lib.hid (fmtT_e (k := k) (Or.inl h1) he)
      clear he
      by_cases h2 : k = 2
      · subst h2
        have hIN : inB 2 2 4 = true := rfl
        clear h1 e1
        go_enter Tryz.func90, Tryz.ntmps90
        go_wp2_with (go_at_call 47; refine (l1In_any _ _ _ _).mono ?_; rintro e w' ⟨rfl, rfl⟩)
        go_ret
        exact ⟨by rw [HF.out]; rfl, (by repeat (first | exact Below.refl _ _ | assumption | (refine Below.trans ?_ (Below.mono (by assumption) (by first | omega | (simp; done) | (simp; omega)))) | (with_reducible refine Below.drew ?_) | (with_reducible refine Below.alloc ?_ (by first | omega | (simp; done) | (simp; omega)) _) | (with_reducible refine Below.setCell ?_ (by first | omega | (simp; done) | (simp; omega)) _))), (by first | omega | (simp; done) | (simp; omega))⟩
      · by_cases h3 : k = 3
        · subst h3
          have hIN : inB 3 2 4 = true := rfl
          clear h1 h2 e1
          go_enter Tryz.func90, Tryz.ntmps90
          go_wp2_with (go_at_call 47; refine (l1In_any _ _ _ _).mono ?_; rintro e w' ⟨rfl, rfl⟩)
          go_ret
          exact ⟨by rw [HF.out]; rfl, (by repeat (first | exact Below.refl _ _ | assumption | (refine Below.trans ?_ (Below.mono (by assumption) (by first | omega | (simp; done) | (simp; omega)))) | (with_reducible refine Below.drew ?_) | (with_reducible refine Below.alloc ?_ (by first | omega | (simp; done) | (simp; omega)) _) | (with_reducible refine Below.setCell ?_ (by first | omega | (simp; done) | (simp; omega)) _))), (by first | omega | (simp; done) | (simp; omega))⟩
        · by_cases h4 : k = 4
          · subst h4
            have hIN : inB 4 2 4 = true := rfl
            clear h1 h2 h3 e1
            go_enter Tryz.func90, Tryz.ntmps90
            go_wp2_with (go_at_call 47; refine (l1In_any _ _ _ _).mono ?_; rintro e w' ⟨rfl, rfl⟩)
            go_ret
            exact ⟨by rw [HF.out]; rfl, (by repeat (first | exact Below.refl _ _ | assumption | (refine Below.trans ?_ (Below.mono (by assumption) (by first | omega | (simp; done) | (simp; omega)))) | (with_reducible refine Below.drew ?_) | (with_reducible refine Below.alloc ?_ (by first | omega | (simp; done) | (simp; omega)) _) | (with_reducible refine Below.setCell ?_ (by first | omega | (simp; done) | (simp; omega)) _))), (by first | omega | (simp; done) | (simp; omega))⟩
          · have HS := Lib.hid (HF.out.trans (show symT k = ⟨#[]⟩ by rw [symT, if_neg h2, if_neg h3, if_neg h4]))
            have hIN : inB k 2 4 = false := inB_f (by omega)
            clear h1 h2 h3 h4
            go_enter Tryz.func90, Tryz.ntmps90
            go_wp2_with (go_at_call 47; refine (l1In_any _ _ _ _).mono ?_; rintro e w' ⟨rfl, rfl⟩)
            go_ret
            exact ⟨by rw [HS.out]; rfl, (by repeat (first | exact Below.refl _ _ | assumption | (refine Below.trans ?_ (Below.mono (by assumption) (by first | omega | (simp; done) | (simp; omega)))) | (with_reducible refine Below.drew ?_) | (with_reducible refine Below.alloc ?_ (by first | omega | (simp; done) | (simp; omega)) _) | (with_reducible refine Below.setCell ?_ (by first | omega | (simp; done) | (simp; omega)) _))), (by first | omega | (simp; done) | (simp; omega))⟩
    · have HF := Lib.hid (fmtT_n (k := k) (Or.inl h1) he)
      have e2 : s.toList.isEmpty = false := by rw [List.isEmpty_eq_false_iff]; exact he
      clear he h1
      go_enter Tryz.func90, Tryz.ntmps90
      go_wp2_with fail
      go_ret
      exact ⟨by rw [HF.out]; rfl, (by repeat (first | exact Below.refl _ _ | assumption | (refine Below.trans ?_ (Below.mono (by assumption) (by first | omega | (simp; done) | (simp; omega)))) | (with_reducible refine Below.drew ?_) | (with_reducible refine Below.alloc ?_ (by first | omega | (simp; done) | (simp; omega)) _) | (with_reducible refine Below.setCell ?_ (by first | omega | (simp; done) | (simp; omega)) _))), (by first | omega | (simp; done) | (simp; omega))⟩
/-- The text of a list of tokens. -/
def ftxR : List Tk → ByteArray
  | [] => ⟨#[]⟩
  | t :: r => (if r ≠ [] ∧ t.k ≠ 2 then ftxR r ++ ⟨#[32]⟩ else ftxR r) ++ fmtT t.k t.s
def ftx (l : List Tk) : ByteArray := ftxR l.reverse
theorem ftx_snoc0 (t : Tk) : ftx ([] ++ [t]) = ftx [] ++ fmtT t.k t.s := by simp [ftx, ftxR]
theorem ftx_snoc1 {l : List Tk} {t : Tk} (h : t.k = 2) : ftx (l ++ [t]) = ftx l ++ fmtT t.k t.s := by simp [ftx, ftxR, h]
theorem ftx_snoc2 {l : List Tk} {t : Tk} (h : 0 < l.length) (h2 : t.k ≠ 2) : ftx (l ++ [t]) = ftx l ++ ⟨#[32]⟩ ++ fmtT t.k t.s := by
  have : l ≠ [] := by intro e; subst e; simp at h
  simp [ftx, ftxR, h2, this]
theorem ftxR_size : ∀ (l : List Tk), (ftxR l).size ≤ 9 * l.length := by
  intro l
  induction l with
  | nil => exact Nat.zero_le _
  | cons t r ih =>
    have := fmtT_size t.k t.s
    rw [ftxR, List.length_cons]
    split
    · rw [ByteArray.size_append, ByteArray.size_append]
      have h1 : (⟨#[32]⟩ : ByteArray).size = 1 := rfl
      omega
    · rw [ByteArray.size_append]
      omega
theorem ftx_size (l : List Tk) : (ftx l).size ≤ 9 * l.length := by have := ftxR_size l.reverse; rwa [List.length_reverse] at this

theorem take_snoc' {α : Type} {l : List α} {t : Nat} {x : α} (h : l[t]? = some x) : l.take (t + 1) = l.take t ++ [x] := by rw [List.take_add_one, h]; rfl
set_option maxRecDepth 100000 in
set_option maxHeartbeats 2000000 in
theorem FormatTokens_impl (A : Option Addr) (n c : Nat) (l : List Tk) (w : World) (h : Rd w 2 A n (tkcs l)) (hl : l.length = n) (hn : n ≤ 1099511627776) (hz : ∀ t ∈ l, t.s.size ≤ 1099511627776) :
    Calls Tryz.prog 38 #[.slice A n c] w fun e w' => e = .returned (.string (ftx l)) ∧ Below w.heap.size w w' ∧ w.heap.size ≤ w'.heap.size := by
  have H := Lib.hid h
  have HL := Lib.hid hl
  have HZ := Lib.hid hz
  clear h hl hz
  go_enter Tryz.func38, Tryz.ntmps38
  go_wp2
  go_loopw [3, 8] (fun v i wr => ∃ t : Nat, t ≤ n ∧ i = .int .i64 t ∧ v = .string (ftx (l.take t)) ∧ Below w.heap.size w wr) (fun _ i _ => n - (intOf i).toNat)
  case atStart => exact ⟨0, Nat.zero_le _, rfl, rfl, Below.refl _ _⟩
  case round =>
    obtain ⟨t, ht, rfl, rfl, hb⟩ := hrel
    have hbs := hb.size
    by_cases hlt : t < n
    · obtain ⟨x, hx⟩ : ∃ x, l[t]? = some x := ⟨_, List.getElem?_eq_getElem (by rw [HL.out]; exact hlt)⟩
      obtain ⟨b, off, rfl, hbl, q0, q1⟩ := rd_tk (H.out.below hb) HL.out hx
      have hxz : x.s.size ≤ 9223372036854775807 := by have := HZ.out x (List.mem_of_getElem? hx); omega
      have hfz := fmtT_size x.k x.s
      have htk := take_snoc' hx
      have hal : (l.take t).length = t := by rw [List.length_take, HL.out]; omega
      have haz := ftx_size (l.take t)
      rw [hal] at haz
      have HTK := Lib.hid htk
      have HAL := Lib.hid hal
      obtain ⟨lt, hlt'⟩ : ∃ lt, lt = l.take t := ⟨_, rfl⟩
      rw [← hlt'] at HTK HAL haz ⊢
      obtain ⟨acc, hacc⟩ : ∃ acc, acc = ftx lt := ⟨_, rfl⟩
      have HACC := Lib.hid hacc
      rw [← hacc] at haz ⊢
      obtain ⟨f, hf⟩ : ∃ f, f = fmtT x.k x.s := ⟨_, rfl⟩
      have HF := Lib.hid hf
      rw [← hf] at hfz
      clear hx htk hal hlt' hacc hf
      by_cases h0 : t = 0
      · have hlt0 : lt = [] := List.eq_nil_of_length_eq_zero (by rw [HAL.out]; exact h0)
        have HL0 := Lib.hid hlt0
        have d0 : decide (0 < (t : Int)) = false := by simp; omega
        have d1 : decide (0 < t) = false := by simp; omega
        have e2 : ∀ w : World, (Op.stringOp .add acc f).run Tryz.prog w = .ok (.string (acc ++ f)) w := fun w => run_string_add_sum w _ _ (by omega)
        clear hlt0 h0
        go_wp2_with fail
        refine (FormatToken_impl _ _ _ hxz).mono ?_
        rintro e w1 ⟨rfl, b1, s1⟩
        rw [← HF.out]
        have hbN : Below w.heap.size w w1 := (hb.alloc hbs _).trans (b1.mono (by simp; omega))
        go_wp2_with fail
        go_roundw
        case rel => exact ⟨t + 1, by omega, by go_num, by rw [HTK.out, HL0.out, ftx_snoc0, ← HL0.out, ← HACC.out, ← HF.out], hbN⟩
        case measure => simp [intOf]; omega
      · have d0 : decide (0 < (t : Int)) = true := by simp; omega
        have d1 : decide (0 < t) = true := by simp; omega
        by_cases hk : x.k = 2
        · have ek : (x.k != 2) = false := by simp [hk]
          have e2 : ∀ w : World, (Op.stringOp .add acc f).run Tryz.prog w = .ok (.string (acc ++ f)) w := fun w => run_string_add_sum w _ _ (by omega)
          have HK := Lib.hid hk
          clear hk
          go_wp2_with fail
          refine (FormatToken_impl _ _ _ hxz).mono ?_
          rintro e w1 ⟨rfl, b1, s1⟩
          rw [← HF.out]
          have hbN : Below w.heap.size w w1 := (hb.alloc hbs _).trans (b1.mono (by simp; omega))
          go_wp2_with fail
          go_roundw
          case rel => exact ⟨t + 1, by omega, by go_num, by rw [HTK.out, ftx_snoc1 HK.out, ← HACC.out, ← HF.out], hbN⟩
          case measure => simp [intOf]; omega
        · have ek : (x.k != 2) = true := by simp [hk]
          have e1 : ∀ w : World, (Op.stringOp .add acc ⟨#[32]⟩).run Tryz.prog w = .ok (.string (acc ++ ⟨#[32]⟩)) w := fun w => run_string_add_sum w _ _ (by show acc.size + 1 ≤ _; omega)
          have e2 : ∀ w : World, (Op.stringOp .add (acc ++ ⟨#[32]⟩) f).run Tryz.prog w = .ok (.string (acc ++ ⟨#[32]⟩ ++ f)) w := fun w => run_string_add_sum w _ _ (by rw [ByteArray.size_append]; show acc.size + 1 + f.size ≤ _; omega)
          have HK := Lib.hid hk
          clear hk
          go_wp2_with fail
          refine (FormatToken_impl _ _ _ hxz).mono ?_
          rintro e w1 ⟨rfl, b1, s1⟩
          rw [← HF.out]
          have hbN : Below w.heap.size w w1 := (hb.alloc hbs _).trans (b1.mono (by simp; omega))
          go_wp2_with fail
          go_roundw
          case rel => exact ⟨t + 1, by omega, by go_num, by rw [HTK.out, ftx_snoc2 (by rw [HAL.out]; omega) HK.out, ← HACC.out, ← HF.out], hbN⟩
          case measure => simp [intOf]; omega
    · obtain rfl : t = n := by omega
      have HF : Hid (ftx (l.take t) = ftx l) := by rw [List.take_of_length_le (by rw [HL.out]; exact Nat.le_refl _)]; exact rfl
      go_wp2_with fail
      go_ret
      exact ⟨by rw [← HF.out]; rfl, hb, hb.size⟩
set_option maxRecDepth 100000 in
set_option maxHeartbeats 2000000 in
theorem FormatTokens_spec (A : Option Addr) (n c : Nat) (l : List Tk) (w : World) (h : Rd w 2 A n (tkcs l)) (hl : l.length = n) (hn : n ≤ 1099511627776) (hz : ∀ t ∈ l, t.s.size ≤ 1099511627776) :
    Calls Tryz.prog 40 #[.slice A n c] w fun e w' => e = .returned (.string (ftx l)) ∧ Below w.heap.size w w' ∧ w.heap.size ≤ w'.heap.size := by
  have H := Lib.hid h
  have HL := Lib.hid hl
  have HZ := Lib.hid hz
  clear h hl hz
  go_enter Tryz.func40, Tryz.ntmps40
  go_wp2
  go_loopw [3, 4] (fun v i wr => ∃ t : Nat, t ≤ n ∧ i = .int .i64 t ∧ v = .string (ftx (l.take t)) ∧ Below w.heap.size w wr) (fun _ i _ => n - (intOf i).toNat)
  case atStart => exact ⟨0, Nat.zero_le _, rfl, rfl, Below.refl _ _⟩
  case round =>
    obtain ⟨t, ht, rfl, rfl, hb⟩ := hrel
    have hbs := hb.size
    by_cases hlt : t < n
    · obtain ⟨x, hx⟩ : ∃ x, l[t]? = some x := ⟨_, List.getElem?_eq_getElem (by rw [HL.out]; exact hlt)⟩
      obtain ⟨b, off, rfl, hbl, q0, q1⟩ := rd_tk (H.out.below hb) HL.out hx
      have hxz : x.s.size ≤ 9223372036854775807 := by have := HZ.out x (List.mem_of_getElem? hx); omega
      have hfz := fmtT_size x.k x.s
      have htk := take_snoc' hx
      have hal : (l.take t).length = t := by rw [List.length_take, HL.out]; omega
      have haz := ftx_size (l.take t)
      rw [hal] at haz
      have HTK := Lib.hid htk
      have HAL := Lib.hid hal
      obtain ⟨lt, hlt'⟩ : ∃ lt, lt = l.take t := ⟨_, rfl⟩
      rw [← hlt'] at HTK HAL haz ⊢
      obtain ⟨acc, hacc⟩ : ∃ acc, acc = ftx lt := ⟨_, rfl⟩
      have HACC := Lib.hid hacc
      rw [← hacc] at haz ⊢
      obtain ⟨f, hf⟩ : ∃ f, f = fmtT x.k x.s := ⟨_, rfl⟩
      have HF := Lib.hid hf
      rw [← hf] at hfz
      clear hx htk hal hlt' hacc hf
      by_cases h0 : t = 0
      · have hlt0 : lt = [] := List.eq_nil_of_length_eq_zero (by rw [HAL.out]; exact h0)
        have HL0 := Lib.hid hlt0
        have d0 : decide (0 < (t : Int)) = false := by simp; omega
        have d1 : decide (0 < t) = false := by simp; omega
        have e2 : ∀ w : World, (Op.stringOp .add acc f).run Tryz.prog w = .ok (.string (acc ++ f)) w := fun w => run_string_add_sum w _ _ (by omega)
        clear hlt0 h0
        go_wp2_with fail
        refine (FormatToken_spec _ _ _ hxz).mono ?_
        rintro e w1 ⟨rfl, b1, s1⟩
        rw [← HF.out]
        have hbN : Below w.heap.size w w1 := hb.trans (b1.mono hbs)
        go_wp2_with fail
        go_roundw
        case rel => exact ⟨t + 1, by omega, by go_num, by rw [HTK.out, HL0.out, ftx_snoc0, ← HL0.out, ← HACC.out, ← HF.out], hbN⟩
        case measure => simp [intOf]; omega
      · have d0 : decide (0 < (t : Int)) = true := by simp; omega
        have d1 : decide (0 < t) = true := by simp; omega
        by_cases hk : x.k = 2
        · have ek : (x.k != 2) = false := by simp [hk]
          have e2 : ∀ w : World, (Op.stringOp .add acc f).run Tryz.prog w = .ok (.string (acc ++ f)) w := fun w => run_string_add_sum w _ _ (by omega)
          have HK := Lib.hid hk
          clear hk
          go_wp2_with fail
          refine (FormatToken_spec _ _ _ hxz).mono ?_
          rintro e w1 ⟨rfl, b1, s1⟩
          rw [← HF.out]
          have hbN : Below w.heap.size w w1 := hb.trans (b1.mono hbs)
          go_wp2_with fail
          go_roundw
          case rel => exact ⟨t + 1, by omega, by go_num, by rw [HTK.out, ftx_snoc1 HK.out, ← HACC.out, ← HF.out], hbN⟩
          case measure => simp [intOf]; omega
        · have ek : (x.k != 2) = true := by simp [hk]
          have e1 : ∀ w : World, (Op.stringOp .add acc ⟨#[32]⟩).run Tryz.prog w = .ok (.string (acc ++ ⟨#[32]⟩)) w := fun w => run_string_add_sum w _ _ (by show acc.size + 1 ≤ _; omega)
          have e2 : ∀ w : World, (Op.stringOp .add (acc ++ ⟨#[32]⟩) f).run Tryz.prog w = .ok (.string (acc ++ ⟨#[32]⟩ ++ f)) w := fun w => run_string_add_sum w _ _ (by rw [ByteArray.size_append]; show acc.size + 1 + f.size ≤ _; omega)
          have HK := Lib.hid hk
          clear hk
          go_wp2_with fail
          refine (FormatToken_spec _ _ _ hxz).mono ?_
          rintro e w1 ⟨rfl, b1, s1⟩
          rw [← HF.out]
          have hbN : Below w.heap.size w w1 := hb.trans (b1.mono hbs)
          go_wp2_with fail
          go_roundw
          case rel => exact ⟨t + 1, by omega, by go_num, by rw [HTK.out, ftx_snoc2 (by rw [HAL.out]; omega) HK.out, ← HACC.out, ← HF.out], hbN⟩
          case measure => simp [intOf]; omega
    · obtain rfl : t = n := by omega
      have HF : Hid (ftx (l.take t) = ftx l) := by rw [List.take_of_length_le (by rw [HL.out]; exact Nat.le_refl _)]; exact rfl
      go_wp2_with fail
      go_ret
      exact ⟨by rw [← HF.out]; rfl, hb, hb.size⟩
end Go.Proofs.YthkbckkghnbonaaGreatDoor
namespace Go.Proofs.YthkbckkghnbonaaGreatDoor
open Go.RowKit
set_option linter.unusedVariables false
def dig (x : Int) : ByteArray := ⟨#[48 + x.toNat.toUInt8]⟩
theorem small10 {x : Int} (h0 : 0 ≤ x) (h1 : x ≤ 9) : x = 0 ∨ x = 1 ∨ x = 2 ∨ x = 3 ∨ x = 4 ∨ x = 5 ∨ x = 6 ∨ x = 7 ∨ x = 8 ∨ x = 9 := by omega
set_option maxRecDepth 100000 in
set_option maxHeartbeats 4000000 in
theorem FormatInt_impl9 (x : Int) (h0 : 0 ≤ x) (h1 : x ≤ 9) (w : World) : Calls Tryz.prog 133 #[.int .i64 x] w fun e w' => e = .returned (.string (dig x)) ∧ w = w' := by
  rcases small10 h0 h1 with rfl | rfl | rfl | rfl | rfl | rfl | rfl | rfl | rfl | rfl
  all_goals
    clear h0 h1
    go_enter Tryz.func133, Tryz.ntmps133
    go_wp2
    go_ret
    exact ⟨rfl, rfl⟩
theorem conv_one (W : World) (b : UInt8) : (convert 22 9 (.slice (some ⟨W.heap.size, 0, none⟩) 1 1)).run Tryz.prog (W.alloc (.cells #[.int .u8 (b.toNat : Int)] 5)) = .ok (.string ⟨#[b]⟩) (W.alloc (.cells #[.int .u8 (b.toNat : Int)] 5)) := by
  refine run_convert_bytes_back _ _ _ 5 ⟨W.heap.size, 0, none⟩ 1 [b] Tryz.underlying22 Tryz.underlying5 Tryz.underlying9 (fun j hj => ?_)
  obtain rfl : j = 0 := by simpa using hj
  exact World.cell?_alloc_mark W _ _ _ 0
set_option maxRecDepth 100000 in
set_option maxHeartbeats 2000000 in
theorem FormatInt_spec_0 (w : World) : Calls Tryz.prog 124 #[.int .i64 0] w fun e w' => e = .returned (.string (dig 0)) ∧ Below w.heap.size w w' ∧ w.heap.size ≤ w'.heap.size := by
  go_enter Tryz.func124, Tryz.ntmps124
  go_wp2
  go_ret
  exact ⟨rfl, (by repeat (first | exact Below.refl _ _ | assumption | (refine Below.trans ?_ (Below.mono (by assumption) (by first | omega | (simp; done) | (simp; omega)))) | (with_reducible refine Below.drew ?_) | (with_reducible refine Below.alloc ?_ (by first | omega | (simp; done) | (simp; omega)) _) | (with_reducible refine Below.setCell ?_ (by first | omega | (simp; done) | (simp; omega)) _))), (by first | omega | (simp; done) | (simp; omega))⟩
set_option maxRecDepth 100000 in
set_option maxHeartbeats 2000000 in
theorem FormatInt_spec_1 (w : World) : Calls Tryz.prog 124 #[.int .i64 1] w fun e w' => e = .returned (.string (dig 1)) ∧ Below w.heap.size w w' ∧ w.heap.size ≤ w'.heap.size := by
  have kc : ∀ W : World, (convert 22 9 (.slice (some ⟨W.heap.size, 0, none⟩) 1 1)).run Tryz.prog (W.alloc (.cells #[.int .u8 49] 5)) = .ok (.string ⟨#[49]⟩) (W.alloc (.cells #[.int .u8 49] 5)) := fun W => conv_one W 49
  go_enter Tryz.func124, Tryz.ntmps124
  go_wp2
  refine wp_loop_rounds 2 ?_
  rw [rounds_succ]
  go_wp2
  rw [rounds_succ]
  go_wp2
  go_ret
  exact ⟨rfl, (by repeat (first | exact Below.refl _ _ | assumption | (refine Below.trans ?_ (Below.mono (by assumption) (by first | omega | (simp; done) | (simp; omega)))) | (with_reducible refine Below.drew ?_) | (with_reducible refine Below.alloc ?_ (by first | omega | (simp; done) | (simp; omega)) _) | (with_reducible refine Below.setCell ?_ (by first | omega | (simp; done) | (simp; omega)) _))), (by first | omega | (simp; done) | (simp; omega))⟩
set_option maxRecDepth 100000 in
set_option maxHeartbeats 2000000 in
theorem FormatInt_spec_2 (w : World) : Calls Tryz.prog 124 #[.int .i64 2] w fun e w' => e = .returned (.string (dig 2)) ∧ Below w.heap.size w w' ∧ w.heap.size ≤ w'.heap.size := by
  have kc : ∀ W : World, (convert 22 9 (.slice (some ⟨W.heap.size, 0, none⟩) 1 1)).run Tryz.prog (W.alloc (.cells #[.int .u8 50] 5)) = .ok (.string ⟨#[50]⟩) (W.alloc (.cells #[.int .u8 50] 5)) := fun W => conv_one W 50
  go_enter Tryz.func124, Tryz.ntmps124
  go_wp2
  refine wp_loop_rounds 2 ?_
  rw [rounds_succ]
  go_wp2
  rw [rounds_succ]
  go_wp2
  go_ret
  exact ⟨rfl, (by repeat (first | exact Below.refl _ _ | assumption | (refine Below.trans ?_ (Below.mono (by assumption) (by first | omega | (simp; done) | (simp; omega)))) | (with_reducible refine Below.drew ?_) | (with_reducible refine Below.alloc ?_ (by first | omega | (simp; done) | (simp; omega)) _) | (with_reducible refine Below.setCell ?_ (by first | omega | (simp; done) | (simp; omega)) _))), (by first | omega | (simp; done) | (simp; omega))⟩
set_option maxRecDepth 100000 in
set_option maxHeartbeats 2000000 in
theorem FormatInt_spec_3 (w : World) : Calls Tryz.prog 124 #[.int .i64 3] w fun e w' => e = .returned (.string (dig 3)) ∧ Below w.heap.size w w' ∧ w.heap.size ≤ w'.heap.size := by
  have kc : ∀ W : World, (convert 22 9 (.slice (some ⟨W.heap.size, 0, none⟩) 1 1)).run Tryz.prog (W.alloc (.cells #[.int .u8 51] 5)) = .ok (.string ⟨#[51]⟩) (W.alloc (.cells #[.int .u8 51] 5)) := fun W => conv_one W 51
  go_enter Tryz.func124, Tryz.ntmps124
  go_wp2
  refine wp_loop_rounds 2 ?_
  rw [rounds_succ]
  go_wp2
  rw [rounds_succ]
  go_wp2
  go_ret
  exact ⟨rfl, (by repeat (first | exact Below.refl _ _ | assumption | (refine Below.trans ?_ (Below.mono (by assumption) (by first | omega | (simp; done) | (simp; omega)))) | (with_reducible refine Below.drew ?_) | (with_reducible refine Below.alloc ?_ (by first | omega | (simp; done) | (simp; omega)) _) | (with_reducible refine Below.setCell ?_ (by first | omega | (simp; done) | (simp; omega)) _))), (by first | omega | (simp; done) | (simp; omega))⟩
set_option maxRecDepth 100000 in
set_option maxHeartbeats 2000000 in
theorem FormatInt_spec_4 (w : World) : Calls Tryz.prog 124 #[.int .i64 4] w fun e w' => e = .returned (.string (dig 4)) ∧ Below w.heap.size w w' ∧ w.heap.size ≤ w'.heap.size := by
  have kc : ∀ W : World, (convert 22 9 (.slice (some ⟨W.heap.size, 0, none⟩) 1 1)).run Tryz.prog (W.alloc (.cells #[.int .u8 52] 5)) = .ok (.string ⟨#[52]⟩) (W.alloc (.cells #[.int .u8 52] 5)) := fun W => conv_one W 52
  go_enter Tryz.func124, Tryz.ntmps124
  go_wp2
  refine wp_loop_rounds 2 ?_
  rw [rounds_succ]
  go_wp2
  rw [rounds_succ]
  go_wp2
  go_ret
  exact ⟨rfl, (by repeat (first | exact Below.refl _ _ | assumption | (refine Below.trans ?_ (Below.mono (by assumption) (by first | omega | (simp; done) | (simp; omega)))) | (with_reducible refine Below.drew ?_) | (with_reducible refine Below.alloc ?_ (by first | omega | (simp; done) | (simp; omega)) _) | (with_reducible refine Below.setCell ?_ (by first | omega | (simp; done) | (simp; omega)) _))), (by first | omega | (simp; done) | (simp; omega))⟩
set_option maxRecDepth 100000 in
set_option maxHeartbeats 2000000 in
theorem FormatInt_spec_5 (w : World) : Calls Tryz.prog 124 #[.int .i64 5] w fun e w' => e = .returned (.string (dig 5)) ∧ Below w.heap.size w w' ∧ w.heap.size ≤ w'.heap.size := by
  have kc : ∀ W : World, (convert 22 9 (.slice (some ⟨W.heap.size, 0, none⟩) 1 1)).run Tryz.prog (W.alloc (.cells #[.int .u8 53] 5)) = .ok (.string ⟨#[53]⟩) (W.alloc (.cells #[.int .u8 53] 5)) := fun W => conv_one W 53
  go_enter Tryz.func124, Tryz.ntmps124
  go_wp2
  refine wp_loop_rounds 2 ?_
  rw [rounds_succ]
  go_wp2
  rw [rounds_succ]
  go_wp2
  go_ret
  exact ⟨rfl, (by repeat (first | exact Below.refl _ _ | assumption | (refine Below.trans ?_ (Below.mono (by assumption) (by first | omega | (simp; done) | (simp; omega)))) | (with_reducible refine Below.drew ?_) | (with_reducible refine Below.alloc ?_ (by first | omega | (simp; done) | (simp; omega)) _) | (with_reducible refine Below.setCell ?_ (by first | omega | (simp; done) | (simp; omega)) _))), (by first | omega | (simp; done) | (simp; omega))⟩
set_option maxRecDepth 100000 in
set_option maxHeartbeats 2000000 in
theorem FormatInt_spec_6 (w : World) : Calls Tryz.prog 124 #[.int .i64 6] w fun e w' => e = .returned (.string (dig 6)) ∧ Below w.heap.size w w' ∧ w.heap.size ≤ w'.heap.size := by
  have kc : ∀ W : World, (convert 22 9 (.slice (some ⟨W.heap.size, 0, none⟩) 1 1)).run Tryz.prog (W.alloc (.cells #[.int .u8 54] 5)) = .ok (.string ⟨#[54]⟩) (W.alloc (.cells #[.int .u8 54] 5)) := fun W => conv_one W 54
  go_enter Tryz.func124, Tryz.ntmps124
  go_wp2
  refine wp_loop_rounds 2 ?_
  rw [rounds_succ]
  go_wp2
  rw [rounds_succ]
  go_wp2
  go_ret
  exact ⟨rfl, (by repeat (first | exact Below.refl _ _ | assumption | (refine Below.trans ?_ (Below.mono (by assumption) (by first | omega | (simp; done) | (simp; omega)))) | (with_reducible refine Below.drew ?_) | (with_reducible refine Below.alloc ?_ (by first | omega | (simp; done) | (simp; omega)) _) | (with_reducible refine Below.setCell ?_ (by first | omega | (simp; done) | (simp; omega)) _))), (by first | omega | (simp; done) | (simp; omega))⟩
set_option maxRecDepth 100000 in
set_option maxHeartbeats 2000000 in
theorem FormatInt_spec_7 (w : World) : Calls Tryz.prog 124 #[.int .i64 7] w fun e w' => e = .returned (.string (dig 7)) ∧ Below w.heap.size w w' ∧ w.heap.size ≤ w'.heap.size := by
  have kc : ∀ W : World, (convert 22 9 (.slice (some ⟨W.heap.size, 0, none⟩) 1 1)).run Tryz.prog (W.alloc (.cells #[.int .u8 55] 5)) = .ok (.string ⟨#[55]⟩) (W.alloc (.cells #[.int .u8 55] 5)) := fun W => conv_one W 55
  go_enter Tryz.func124, Tryz.ntmps124
  go_wp2
  refine wp_loop_rounds 2 ?_
  rw [rounds_succ]
  go_wp2
  rw [rounds_succ]
  go_wp2
  go_ret
  exact ⟨rfl, (by repeat (first | exact Below.refl _ _ | assumption | (refine Below.trans ?_ (Below.mono (by assumption) (by first | omega | (simp; done) | (simp; omega)))) | (with_reducible refine Below.drew ?_) | (with_reducible refine Below.alloc ?_ (by first | omega | (simp; done) | (simp; omega)) _) | (with_reducible refine Below.setCell ?_ (by first | omega | (simp; done) | (simp; omega)) _))), (by first | omega | (simp; done) | (simp; omega))⟩
set_option maxRecDepth 100000 in
set_option maxHeartbeats 2000000 in
theorem FormatInt_spec_8 (w : World) : Calls Tryz.prog 124 #[.int .i64 8] w fun e w' => e = .returned (.string (dig 8)) ∧ Below w.heap.size w w' ∧ w.heap.size ≤ w'.heap.size := by
  have kc : ∀ W : World, (convert 22 9 (.slice (some ⟨W.heap.size, 0, none⟩) 1 1)).run Tryz.prog (W.alloc (.cells #[.int .u8 56] 5)) = .ok (.string ⟨#[56]⟩) (W.alloc (.cells #[.int .u8 56] 5)) := fun W => conv_one W 56
  go_enter Tryz.func124, Tryz.ntmps124
  go_wp2
  refine wp_loop_rounds 2 ?_
  rw [rounds_succ]
  go_wp2
  rw [rounds_succ]
  go_wp2
  go_ret
  exact ⟨rfl, (by repeat (first | exact Below.refl _ _ | assumption | (refine Below.trans ?_ (Below.mono (by assumption) (by first | omega | (simp; done) | (simp; omega)))) | (with_reducible refine Below.drew ?_) | (with_reducible refine Below.alloc ?_ (by first | omega | (simp; done) | (simp; omega)) _) | (with_reducible refine Below.setCell ?_ (by first | omega | (simp; done) | (simp; omega)) _))), (by first | omega | (simp; done) | (simp; omega))⟩
set_option maxRecDepth 100000 in
set_option maxHeartbeats 2000000 in
theorem FormatInt_spec_9 (w : World) : Calls Tryz.prog 124 #[.int .i64 9] w fun e w' => e = .returned (.string (dig 9)) ∧ Below w.heap.size w w' ∧ w.heap.size ≤ w'.heap.size := by
  have kc : ∀ W : World, (convert 22 9 (.slice (some ⟨W.heap.size, 0, none⟩) 1 1)).run Tryz.prog (W.alloc (.cells #[.int .u8 57] 5)) = .ok (.string ⟨#[57]⟩) (W.alloc (.cells #[.int .u8 57] 5)) := fun W => conv_one W 57
  go_enter Tryz.func124, Tryz.ntmps124
  go_wp2
  refine wp_loop_rounds 2 ?_
  rw [rounds_succ]
  go_wp2
  rw [rounds_succ]
  go_wp2
  go_ret
  exact ⟨rfl, (by repeat (first | exact Below.refl _ _ | assumption | (refine Below.trans ?_ (Below.mono (by assumption) (by first | omega | (simp; done) | (simp; omega)))) | (with_reducible refine Below.drew ?_) | (with_reducible refine Below.alloc ?_ (by first | omega | (simp; done) | (simp; omega)) _) | (with_reducible refine Below.setCell ?_ (by first | omega | (simp; done) | (simp; omega)) _))), (by first | omega | (simp; done) | (simp; omega))⟩
theorem FormatInt_spec9 (x : Int) (h0 : 0 ≤ x) (h1 : x ≤ 9) (w : World) : Calls Tryz.prog 124 #[.int .i64 x] w fun e w' => e = .returned (.string (dig x)) ∧ Below w.heap.size w w' ∧ w.heap.size ≤ w'.heap.size := by
  rcases small10 h0 h1 with rfl | rfl | rfl | rfl | rfl | rfl | rfl | rfl | rfl | rfl
  · exact FormatInt_spec_0 w
  · exact FormatInt_spec_1 w
  · exact FormatInt_spec_2 w
  · exact FormatInt_spec_3 w
  · exact FormatInt_spec_4 w
  · exact FormatInt_spec_5 w
  · exact FormatInt_spec_6 w
  · exact FormatInt_spec_7 w
  · exact FormatInt_spec_8 w
  · exact FormatInt_spec_9 w
end Go.Proofs.YthkbckkghnbonaaGreatDoor
namespace Go.Proofs.YthkbckkghnbonaaGreatDoor
open Go.RowKit
set_option linter.unusedVariables false
/-- Where a reader stands: how many tokens it has read, and the first fault. -/
structure Rs where
  i : Nat
  code : Int
def kindT (T : List Tk) (i : Nat) : Int := match T[i]? with
  | some t => t.k
  | none => 0
def textT (T : List Tk) (i : Nat) : ByteArray := match T[i]? with
  | some t => t.s
  | none => ⟨#[]⟩
def failR (s : Rs) (c : Int) : Rs := if s.code = 0 then ⟨s.i, c⟩ else s
def takeR (T : List Tk) (s : Rs) (k c : Int) : Rs × ByteArray := if s.code = 0 ∧ kindT T s.i = k then (⟨s.i + 1, 0⟩, textT T s.i) else (failR s c, ⟨#[]⟩)
def namesR (T : List Tk) : Nat → Rs → Rs × List ByteArray
  | 0, s => (s, [])
  | n + 1, s => ((namesR T n (takeR T s 1 3).1).1, (takeR T s 1 3).2 :: (namesR T n (takeR T s 1 3).1).2)
/-- A number of repetitions, as a word. -/
def numW (s : ByteArray) : Option Int := ([1, 2, 3, 4, 5, 6, 7, 8, 9] : List Int).find? fun x => s.data.toList == (dig x).data.toList
def numR (T : List Tk) (s : Rs) : Rs × Int := if s.code = 0 ∧ kindT T s.i = 1 then
    (match numW (textT T s.i) with
    | some n => (⟨s.i + 1, 0⟩, n)
    | none => (failR s 6, 0))
  else (failR s 6, 0)
def bodyR {d : Nat} (T : List Tk) (inner : Rs → Rs × List (Tr d)) (s : Rs) : Rs × List (Tr d) :=
  let s1 := if d = 0 ∧ s.code = 0 ∧ kindT T s.i = 3 then failR s 9 else s
  let r := inner (takeR T s1 3 7).1
  ((takeR T r.1 4 8).1, r.2)
/-- What a word begins. -/
def kindW (word : ByteArray) : Int :=
  if word.toList = [114, 101, 112, 101, 97, 116] then 2 else if word.toList = [97, 100, 106, 111, 105, 110, 116] then 3 else if word.toList = [99, 111, 110, 116, 114, 111, 108] then 4
  else if word.toList = [97, 110, 99, 105, 108, 108, 97] then 5 else if word.toList = [109, 101, 97, 115, 117, 114, 101] then 6 else if word.toList = [105, 102] then 7 else 1
def begW (word : ByteArray) : Bool := decide (kindW word ≠ 1) || decide (gkind word ≠ 0)
def stmtR {d : Nat} (T : List Tk) (inner : Rs → Rs × List (Tr d)) (s : Rs) : Rs × Tr (d + 1) :=
  let word := textT T s.i
  let s0 : Rs := ⟨s.i + 1, s.code⟩
  let k := kindW word
  if k = 2 then ((bodyR T inner (numR T s0).1).1, mkT ⟨2, ⟨#[]⟩, [], (numR T s0).2⟩ (bodyR T inner (numR T s0).1).2)
  else if k = 3 then ((bodyR T inner s0).1, mkT ⟨3, ⟨#[]⟩, [], 0⟩ (bodyR T inner s0).2)
  else if k = 6 then ((takeR T (namesR T 2 s0).1 2 4).1, mkT ⟨6, ⟨#[]⟩, (namesR T 2 s0).2, 0⟩ [])
  else if k = 1 then ((takeR T (namesR T (ar (gkind word)) s0).1 2 4).1, mkT ⟨1, word, (namesR T (ar (gkind word)) s0).2, 0⟩ [])
  else ((bodyR T inner (namesR T 1 s0).1).1, mkT ⟨k, ⟨#[]⟩, (namesR T 1 s0).2, 0⟩ (bodyR T inner (namesR T 1 s0).1).2)
def loopR {α : Type} (T : List Tk) (top : Bool) (st : Rs → Rs × α) : Nat → Rs → Rs × List α
  | 0, s => (s, [])
  | f + 1, s => if s.code ≠ 0 then (s, []) else if T.length ≤ s.i ∨ (kindT T s.i = 4 ∧ top = false) then (s, [])
    else if kindT T s.i = 1 ∧ begW (textT T s.i) = true then ((loopR T top st f (st s).1).1, (st s).2 :: (loopR T top st f (st s).1).2) else (⟨s.i, 5⟩, [])
def innerR (T : List Tk) : (d : Nat) → Rs → Rs × List (Tr d)
  | 0, s => (s, [])
  | d + 1, s => loopR T false (stmtR T (innerR T d)) (T.length + 1) s
section
variable {T : List Tk}
theorem kindT_lt {i : Nat} (h : kindT T i ≠ 0) : i < T.length := by
  unfold kindT at h
  rcases Nat.lt_or_ge i T.length with h1 | h1
  · exact h1
  · rw [List.getElem?_eq_none h1] at h
    exact absurd rfl h
theorem failR_i (s : Rs) (c : Int) : (failR s c).i = s.i := by unfold failR; split <;> rfl
theorem takeR_i (s : Rs) (k c : Int) : s.i ≤ (takeR T s k c).1.i ∧ (takeR T s k c).1.i ≤ s.i + 1 := by
  unfold takeR
  split
  · exact ⟨Nat.le_succ _, Nat.le_refl _⟩
  · rw [failR_i]; exact ⟨Nat.le_refl _, Nat.le_succ _⟩
theorem takeR_le {s : Rs} {k c : Int} (hk : k ≠ 0) (h : s.i ≤ T.length) : (takeR T s k c).1.i ≤ T.length := by
  unfold takeR
  split
  · rename_i h1
    have := kindT_lt (T := T) (i := s.i) (by rw [h1.2]; exact hk)
    show s.i + 1 ≤ _
    omega
  · rw [failR_i]; exact h
theorem namesR_i (n : Nat) : ∀ s : Rs, s.i ≤ (namesR T n s).1.i := by
  induction n with
  | zero => intro s; exact Nat.le_refl _
  | succ n ih => intro s; exact Nat.le_trans (takeR_i s 1 3).1 (ih _)
theorem namesR_le (n : Nat) : ∀ s : Rs, s.i ≤ T.length → (namesR T n s).1.i ≤ T.length := by
  induction n with
  | zero => intro s h; exact h
  | succ n ih => intro s h; exact ih _ (takeR_le (by decide) h)
theorem namesR_len (n : Nat) : ∀ s : Rs, (namesR T n s).2.length = n := by
  induction n with
  | zero => intro s; rfl
  | succ n ih => intro s; show (namesR T n _).2.length + 1 = _; rw [ih]
theorem numR_i (s : Rs) : s.i ≤ (numR T s).1.i := by
  unfold numR
  split
  · split
    · exact Nat.le_succ _
    · rw [failR_i]; exact Nat.le_refl _
  · rw [failR_i]; exact Nat.le_refl _
theorem numR_le {s : Rs} (h : s.i ≤ T.length) : (numR T s).1.i ≤ T.length := by
  unfold numR
  split
  · rename_i h1
    split
    · have := kindT_lt (T := T) (i := s.i) (by rw [h1.2]; decide)
      show s.i + 1 ≤ _
      omega
    · rw [failR_i]; exact h
  · rw [failR_i]; exact h
/-- A part of the reader that never goes back nor beyond the end. -/
def Goes {α : Type} (T : List Tk) (f : Rs → Rs × α) : Prop := ∀ s : Rs, s.i ≤ T.length → s.i ≤ (f s).1.i ∧ (f s).1.i ≤ T.length
theorem bodyR_goes {d : Nat} {inner : Rs → Rs × List (Tr d)} (h : Goes T inner) : Goes T (bodyR T inner) := by
  intro s hs
  unfold bodyR
  have key : ∀ s1 : Rs, s1.i = s.i → s.i ≤ (takeR T (inner (takeR T s1 3 7).1).1 4 8).1.i ∧ (takeR T (inner (takeR T s1 3 7).1).1 4 8).1.i ≤ T.length := by
    intro s1 h1
    have a := takeR_i (T := T) s1 3 7
    have b := takeR_le (T := T) (s := s1) (k := 3) (c := 7) (by decide) (by omega)
    have c := h _ b
    exact ⟨by have := (takeR_i (T := T) (inner (takeR T s1 3 7).1).1 4 8).1; omega, takeR_le (by decide) c.2⟩
  show _ ≤ (takeR T (inner (takeR T (if _ then _ else _) 3 7).1).1 4 8).1.i ∧ _
  split
  · exact key _ (failR_i _ _)
  · exact key _ rfl
theorem stmtR_goes {d : Nat} {inner : Rs → Rs × List (Tr d)} (h : Goes T inner) {s : Rs} (hs : s.i < T.length) : s.i + 1 ≤ (stmtR T inner s).1.i ∧ (stmtR T inner s).1.i ≤ T.length := by
  have hb := bodyR_goes h
  unfold stmtR
  have h0 : (⟨s.i + 1, s.code⟩ : Rs).i ≤ T.length := hs
  simp only []
  split
  · have a := numR_le (T := T) h0
    have a2 := numR_i (T := T) ⟨s.i + 1, s.code⟩
    have b := hb _ a
    exact ⟨Nat.le_trans a2 b.1, b.2⟩
  · split
    · exact hb _ h0
    · split
      · have a := namesR_le (T := T) 2 _ h0
        have a2 := namesR_i (T := T) 2 ⟨s.i + 1, s.code⟩
        exact ⟨Nat.le_trans a2 (takeR_i _ _ _).1, takeR_le (by decide) a⟩
      · split
        · have a := namesR_le (T := T) (ar (gkind (textT T s.i))) _ h0
          have a2 := namesR_i (T := T) (ar (gkind (textT T s.i))) ⟨s.i + 1, s.code⟩
          exact ⟨Nat.le_trans a2 (takeR_i _ _ _).1, takeR_le (by decide) a⟩
        · have a := namesR_le (T := T) 1 _ h0
          have a2 := namesR_i (T := T) 1 ⟨s.i + 1, s.code⟩
          have b := hb _ a
          exact ⟨Nat.le_trans a2 b.1, b.2⟩
theorem loopR_goes {α : Type} {top : Bool} {st : Rs → Rs × α} (h : ∀ s : Rs, s.i < T.length → s.i + 1 ≤ (st s).1.i ∧ (st s).1.i ≤ T.length) : ∀ f : Nat, Goes T (loopR T top st f) := by
  intro f
  induction f with
  | zero => intro s hs; exact ⟨Nat.le_refl _, hs⟩
  | succ f ih =>
    intro s hs
    unfold loopR
    split
    · exact ⟨Nat.le_refl _, hs⟩
    · split
      · exact ⟨Nat.le_refl _, hs⟩
      · rename_i h1
        split
        · have h2 := h s (by omega)
          have h3 := ih (st s).1 h2.2
          exact ⟨by show s.i ≤ (loopR T top st f (st s).1).1.i; omega, h3.2⟩
        · exact ⟨Nat.le_refl _, hs⟩
theorem innerR_goes : ∀ d : Nat, Goes T (innerR T d) := by
  intro d
  induction d with
  | zero => intro s hs; exact ⟨Nat.le_refl _, hs⟩
  | succ d ih => exact loopR_goes (fun s hs => stmtR_goes ih hs) _
/-- A fault stays. -/
theorem loopR_code {α : Type} {top : Bool} {st : Rs → Rs × α} {f : Nat} {s : Rs} (h : s.code ≠ 0) : loopR T top st f s = (s, []) := by
  cases f with
  | zero => rfl
  | succ f => unfold loopR; rw [if_pos h]
theorem loopR_end {α : Type} {top : Bool} {st : Rs → Rs × α} {f : Nat} {s : Rs} (h : T.length ≤ s.i ∨ (kindT T s.i = 4 ∧ top = false)) : loopR T top st f s = (s, []) := by
  cases f with
  | zero => rfl
  | succ f =>
    rw [loopR]
    by_cases h0 : s.code ≠ 0
    · rw [if_pos h0]
    · rw [if_neg h0, if_pos h]
theorem loopR_step {α : Type} {top : Bool} {st : Rs → Rs × α} {f : Nat} {s : Rs} (h0 : s.code = 0) (h1 : s.i < T.length) (h2 : kindT T s.i = 1) (h3 : begW (textT T s.i) = true) : loopR T top st (f + 1) s = ((loopR T top st f (st s).1).1, (st s).2 :: (loopR T top st f (st s).1).2) := by
  rw [loopR, if_neg (by simp [h0]), if_neg (by
    rintro (h | ⟨h, _⟩)
    · omega
    · rw [h2] at h
      exact absurd h (by decide)), if_pos ⟨h2, h3⟩]
theorem loopR_bad {α : Type} {top : Bool} {st : Rs → Rs × α} {f : Nat} {s : Rs} (h0 : s.code = 0) (h1 : s.i < T.length) (h2 : ¬ (kindT T s.i = 4 ∧ top = false)) (h3 : ¬ (kindT T s.i = 1 ∧ begW (textT T s.i) = true)) : loopR T top st (f + 1) s = (⟨s.i, 5⟩, []) := by
  rw [loopR, if_neg (by simp [h0]), if_neg (by
    rintro (h | h)
    · omega
    · exact h2 h), if_neg h3]
end
end Go.Proofs.YthkbckkghnbonaaGreatDoor
namespace Go.Proofs.YthkbckkghnbonaaGreatDoor
open Go.RowKit
set_option linter.unusedVariables false
def qR (T : List Tk) : Nat → Rs → Rs × List ByteArray
  | 0, s => if s.code = 0 ∧ kindT T s.i = 1 then (⟨s.i, 10⟩, []) else ((takeR T s 2 4).1, [])
  | m + 1, s => if s.code = 0 ∧ kindT T s.i = 1 then ((qR T m ⟨s.i + 1, 0⟩).1, textT T s.i :: (qR T m ⟨s.i + 1, 0⟩).2) else ((takeR T s 2 4).1, [])
/-- The qubits. -/
def headR (T : List Tk) : Rs × List ByteArray :=
  if kindT T 0 = 1 ∧ (textT T 0).toList = [113, 117, 98, 105, 116, 115] then ((qR T 3 (takeR T ⟨1, 0⟩ 1 3).1).1, (takeR T ⟨1, 0⟩ 1 3).2 :: (qR T 3 (takeR T ⟨1, 0⟩ 1 3).1).2) else (⟨0, 2⟩, [])
def bodyT (T : List Tk) (s : Rs) : Rs × List (Tr 5) := loopR T true (stmtR T (innerR T 4)) (T.length + 1) s
/-- What is read: the fault, its place, the qubits, the statements. -/
def parseR (o : Option (List Tk)) : Int × Nat × List ByteArray × List (Tr 5) := match o with
  | none => (1, 0, [], [])
  | some T => if (bodyT T (headR T).1).1.code = 0 then (0, 0, (headR T).2, (bodyT T (headR T).1).2) else ((bodyT T (headR T).1).1.code, (bodyT T (headR T).1).1.i, [], [])
section
variable {T : List Tk}
end
end Go.Proofs.YthkbckkghnbonaaGreatDoor
namespace Go.Proofs.YthkbckkghnbonaaGreatDoor
open Go.RowKit
set_option linter.unusedVariables false
def okCount (k count : Int) : Bool := if k = 2 then inB count 1 9 else decide (count = 0)
def headV (k : Int) (word : ByteArray) (na : Nat) (count : Int) (bl : Nat) : Bool :=
  inB k 1 7 && (decide (na = nargs k word) && (decide (k ≠ 1 ∨ nargs k word ≠ 0) && (decide (k = 1 ∨ word.toList = []) && (decide (hasB k = true ∨ bl = 0) && okCount k count))))
theorem gkind_empty {word : ByteArray} (h : word.toList = []) : gkind word = 0 := by
  unfold gkind
  rw [h]
  decide
def vRes (k : Int) (word : ByteArray) (args : List ByteArray) (count : Int) (nb : Nat) (rs : List Bool) : Bool := headV k word args.length count nb && (args.all wordOk && rs.all id)
section
variable {k : Int} {word : ByteArray} {args : List ByteArray} {count : Int} {nb : Nat} {rs : List Bool}
theorem vRes_h (h : headV k word args.length count nb = false) : vRes k word args count nb rs = false := by simp [vRes, h]
theorem vRes_w {t : Nat} {s : ByteArray} (hs : args[t]? = some s) (h : wordOk s = false) : vRes k word args count nb rs = false := by
  have : args.all wordOk = false := by
    rw [List.all_eq_false]
    exact ⟨s, List.mem_of_getElem? hs, by simp [h]⟩
  simp [vRes, this]
theorem vRes_b {t : Nat} (hs : rs[t]? = some false) : vRes k word args count nb rs = false := by
  have : rs.all id = false := by
    rw [List.all_eq_false]
    exact ⟨false, List.mem_of_getElem? hs, by simp⟩
  simp [vRes, this]
theorem vRes_t (h1 : headV k word args.length count nb = true) (h2 : args.all wordOk = true) (h3 : rs.all id = true) : vRes k word args count nb rs = true := by rw [vRes, h1, h2, h3]; rfl
end
theorem all_take {α : Type} (p : α → Bool) {l : List α} {t : Nat} {x : α} (h : l[t]? = some x) : (l.take (t + 1)).all p = ((l.take t).all p && p x) := by
  rw [List.take_add_one, h]
  simp
/-- The statements of a body, and what is answered of each. -/
def Elts (f : Nat) (w : World) (Ab : Option Addr) (nb : Nat) (rs : List Bool) : Prop := ∀ t, t < nb → ∃ (b off : Nat) (k : Int) (wd : ByteArray) (Aa : Option Addr) (na ca : Nat) (ct : Int) (Ab' : Option Addr) (nb' cb' : Nat) (r : Bool),
  Ab = some ⟨b, off, none⟩ ∧ b < w.heap.size ∧ (w.cell? ⟨b, off + t * 5, none⟩ = some (.int .i64 k) ∧ w.cell? ⟨b, off + t * 5 + 1, none⟩ = some (.string wd) ∧ w.cell? ⟨b, off + t * 5 + 2, none⟩ = some (.slice Aa na ca) ∧ w.cell? ⟨b, off + t * 5 + 3, none⟩ = some (.int .i64 ct) ∧ w.cell? ⟨b, off + t * 5 + 4, none⟩ = some (.slice Ab' nb' cb')) ∧
  rs[t]? = some r ∧ ∀ w', Below w.heap.size w w' → Calls Tryz.prog f #[.agg #[.int .i64 k, .string wd, .slice Aa na ca, .int .i64 ct, .slice Ab' nb' cb']] w' fun e w'' => e = .returned (.bool r) ∧ Below w'.heap.size w' w'' ∧ w'.heap.size ≤ w''.heap.size
def vOne (d : Nat) (vt : List (Tr d) → Bool) (h : SH) (bd : List (Tr d)) : Bool := headV h.k h.word h.args.length h.count bd.length && (h.args.all wordOk && vt bd)
/-- Are all statements of a list valid? -/
def validT : (d : Nat) → List (Tr d) → Bool
  | 0, _ => true
  | d + 1, l => l.all fun s => vOne d (validT d) (hdT s) (bdT s)
theorem vRes_one {d : Nat} {k : Int} {word : ByteArray} {args : List ByteArray} {count : Int} {bd : List (Tr d)} {rs : List Bool} (h : rs.all id = validT d bd) : vRes k word args count bd.length rs = vOne d (validT d) ⟨k, word, args, count⟩ bd := by
  simp only [vRes, vOne, h]
theorem rs_valid {d : Nat} (l : List (Tr (d + 1))) : (l.map fun s => vOne d (validT d) (hdT s) (bdT s)).all id = validT (d + 1) l := by simp [validT, List.all_map]
end Go.Proofs.YthkbckkghnbonaaGreatDoor
namespace Go.Proofs.YthkbckkghnbonaaGreatDoor
open Go.RowKit
set_option linter.unusedVariables false
def heads : List ByteArray := [⟨#[]⟩, ⟨#[]⟩, ⟨#[114, 101, 112, 101, 97, 116]⟩, ⟨#[97, 100, 106, 111, 105, 110, 116]⟩, ⟨#[99, 111, 110, 116, 114, 111, 108]⟩, ⟨#[97, 110, 99, 105, 108, 108, 97]⟩, ⟨#[109, 101, 97, 115, 117, 114, 101]⟩, ⟨#[105, 102]⟩]
def headW (k : Int) (word : ByteArray) : ByteArray := if k = 1 then word else heads.getD k.toNat ⟨#[]⟩
/-- The tokens of one statement, those of its body given. -/
def toks1 (h : SH) (body : List Tk) : List Tk :=
  [wTk (headW h.k h.word)] ++ (if h.k = 2 then [wTk (dig h.count)] else []) ++ h.args.map wTk ++ (if h.k = 1 ∨ h.k = 6 then [pTk 2] else [pTk 3] ++ body ++ [pTk 4])
/-- The tokens of a list of statements. -/
def toksT : (d : Nat) → List (Tr d) → List Tk
  | 0, _ => []
  | d + 1, l => l.flatMap fun s => toks1 (hdT s) (toksT d (bdT s))
set_option maxRecDepth 100000 in
theorem word_any (s : ByteArray) (w : World) : Calls Tryz.prog 95 #[.string s] w fun e w' => e = .returned (.agg #[.int .i64 1, .string s]) ∧ Below w.heap.size w w' ∧ w.heap.size ≤ w'.heap.size := by
  go_enter Tryz.func95, Tryz.ntmps95
  go_wp2
  exact bodyPost_ret (v := .agg #[.int .i64 1, .string s]) (by simp [results, Tryz.results95, go_sem]) rfl ⟨rfl, (by repeat (first | exact Below.refl _ _ | assumption | (refine Below.trans ?_ (Below.mono (by assumption) (by first | omega | (simp; done) | (simp; omega)))) | (with_reducible refine Below.drew ?_) | (with_reducible refine Below.alloc ?_ (by first | omega | (simp; done) | (simp; omega)) _) | (with_reducible refine Below.setCell ?_ (by first | omega | (simp; done) | (simp; omega)) _))), (by first | omega | (simp; done) | (simp; omega))⟩
set_option maxRecDepth 100000 in
theorem l19Word_any (s : ByteArray) (w : World) : Calls Tryz.prog 97 #[.string s] w fun e w' => e = .returned (.agg #[.int .i64 1, .string s]) ∧ Below w.heap.size w w' ∧ w.heap.size ≤ w'.heap.size := by
  go_enter Tryz.func97, Tryz.ntmps97
  go_wp2
  exact bodyPost_ret (v := .agg #[.int .i64 1, .string s]) (by simp [results, Tryz.results97, go_sem]) rfl ⟨rfl, (by repeat (first | exact Below.refl _ _ | assumption | (refine Below.trans ?_ (Below.mono (by assumption) (by first | omega | (simp; done) | (simp; omega)))) | (with_reducible refine Below.drew ?_) | (with_reducible refine Below.alloc ?_ (by first | omega | (simp; done) | (simp; omega)) _) | (with_reducible refine Below.setCell ?_ (by first | omega | (simp; done) | (simp; omega)) _))), (by first | omega | (simp; done) | (simp; omega))⟩
end Go.Proofs.YthkbckkghnbonaaGreatDoor
