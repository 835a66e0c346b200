/- What the calls that this law reaches answer, part 2 of 30. -/
import Derived.Test.YtbamjfbfipkioaaDoorJFCheck1
import Derived.Test.YtbamjfbfipkioaaDoorTie
import Derived.Test.YtbamjfbfipkioaaDoorCards
import Derived.LaidMore
import Derived.LaidLaws
import Derived.MakeChecks
import Derived.ChangeVars
import Derived.SliceStrings
import Derived.SevenTiedAt
import Derived.Stop.Joined
namespace Go.Proofs.YtbamjfbfipkioaaDoor
open Go.RowKit
set_option linter.unusedVariables false
def hasB (k : Int) : Bool := k == 2 || (k == 3 || (k == 4 || (k == 5 || k == 7)))
theorem hasB_f {k : Int} (h2 : k ≠ 2) (h3 : k ≠ 3) (h4 : k ≠ 4) (h5 : k ≠ 5) (h7 : k ≠ 7) : hasB k = false := by simp [hasB, h2, h3, h4, h5, h7]
set_option maxRecDepth 100000 in
theorem hasBody_any (k : Int) (w : World) : Calls Tryd.prog 26 #[.int .i64 k] w fun e w' => e = .returned (.bool (hasB k)) ∧ w = w' := by
  by_cases h2 : k = 2
  · subst h2
    go_enter Tryd.func26, Tryd.ntmps26
    go_wp2
    go_ret
    exact ⟨rfl, rfl⟩
  by_cases h3 : k = 3
  · subst h3
    go_enter Tryd.func26, Tryd.ntmps26
    go_wp2
    go_ret
    exact ⟨rfl, rfl⟩
  by_cases h4 : k = 4
  · subst h4
    go_enter Tryd.func26, Tryd.ntmps26
    go_wp2
    go_ret
    exact ⟨rfl, rfl⟩
  by_cases h5 : k = 5
  · subst h5
    go_enter Tryd.func26, Tryd.ntmps26
    go_wp2
    go_ret
    exact ⟨rfl, rfl⟩
  by_cases h7 : k = 7
  · subst h7
    go_enter Tryd.func26, Tryd.ntmps26
    go_wp2
    go_ret
    exact ⟨rfl, rfl⟩
  rw [hasB_f h2 h3 h4 h5 h7]
  have e2 : (k == 2) = false := beq_eq_false_iff_ne.2 h2
  have e3 : (k == 3) = false := beq_eq_false_iff_ne.2 h3
  have e4 : (k == 4) = false := beq_eq_false_iff_ne.2 h4
  have e5 : (k == 5) = false := beq_eq_false_iff_ne.2 h5
  have e7 : (k == 7) = false := beq_eq_false_iff_ne.2 h7
  clear h2 h3 h4 h5 h7
  go_enter Tryd.func26, Tryd.ntmps26
  go_wp2
  go_ret
  exact ⟨rfl, rfl⟩
def imax (a b : Int) : Int := if b < a then a else b
set_option maxRecDepth 100000 in
theorem l1Max_any (a b : Int) (w : World) : Calls Tryd.prog 58 #[.int .i64 a, .int .i64 b] w fun e w' => e = .returned (.int .i64 (imax a b)) ∧ w = w' := by
  by_cases h : b < a
  · rw [show imax a b = a from if_pos h]
    go_enter Tryd.func58, Tryd.ntmps58
    go_wp2
    go_ret
    exact ⟨rfl, rfl⟩
  · rw [show imax a b = b from if_neg h]
    go_enter Tryd.func58, Tryd.ntmps58
    go_wp2
    go_ret
    exact ⟨rfl, rfl⟩
/-- The names of the gates, by their kinds. -/
def gnames : List (List UInt8) := [[], [120], [121], [122], [104], [115], [115, 100], [116], [116, 100], [99, 120], [99, 122], [115, 119, 97, 112], [99, 99, 120]]
def gname (k : Nat) : List UInt8 := gnames.getD k []
set_option maxRecDepth 100000 in
set_option maxHeartbeats 2000000 in
theorem GateName_spec (k : Nat) (h1 : 1 ≤ k) (h2 : k ≤ 12) (w : World) : Calls Tryd.prog 60 #[.int .i64 k] w fun e w' => e = .returned (.string ⟨(gname k).toArray⟩) ∧ Below w.heap.size w w' ∧ w.heap.size ≤ w'.heap.size := by
  have hb : inB (k : Int) 1 12 = true := inB_t (by omega) (by omega)
  have hk : k = 1 ∨ k = 2 ∨ k = 3 ∨ k = 4 ∨ k = 5 ∨ k = 6 ∨ k = 7 ∨ k = 8 ∨ k = 9 ∨ k = 10 ∨ k = 11 ∨ k = 12 := by omega
  clear h1 h2
  rcases hk with rfl | rfl | rfl | rfl | rfl | rfl | rfl | rfl | rfl | rfl | rfl | rfl
  all_goals
    go_enter Tryd.func60, Tryd.ntmps60
    go_wp2_with (go_at_call 30; refine (l1In_any _ _ _ _).mono ?_; rintro e w' ⟨rfl, rfl⟩)
    go_ret
    exact ⟨rfl, (by repeat (first | exact Below.refl _ _ | assumption | (refine Below.trans ?_ (Below.mono (by assumption) (by first | omega | (simp; done) | (simp; omega)))) | (with_reducible refine Below.drew ?_) | (with_reducible refine Below.alloc ?_ (by first | omega | (simp; done) | (simp; omega)) _) | (with_reducible refine Below.setCell ?_ (by first | omega | (simp; done) | (simp; omega)) _))), (by first | omega | (simp; done) | (simp; omega))⟩
/-- The kind of a gate's name; 0 if it is none. -/
def gkindFrom (word : List UInt8) : Nat → Nat → Nat
  | 0, _ => 0
  | f + 1, k => if gname k == word then k else gkindFrom word f (k + 1)
def gkind (word : ByteArray) : Nat := gkindFrom word.toList 12 1
theorem gkindFrom_le (word : List UInt8) : ∀ f k, k + f ≤ 13 → gkindFrom word f k ≤ 12 := by
  intro f
  induction f with
  | zero => intro k _; simp [gkindFrom]
  | succ f ih =>
    intro k h
    simp only [gkindFrom]
    split
    · omega
    · exact ih (k + 1) (by omega)
set_option maxRecDepth 100000 in
set_option maxHeartbeats 1000000 in
theorem GateKind_spec (word : ByteArray) (w : World) : Calls Tryd.prog 48 #[.string word] w fun e w' => e = .returned (.int .i64 (gkind word)) ∧ Below w.heap.size w w' ∧ w.heap.size ≤ w'.heap.size := by
  go_enter Tryd.func48, Tryd.ntmps48
  go_wp2
  go_loopw [3] (fun k wr => ∃ t : Nat, 1 ≤ t ∧ t ≤ 13 ∧ k = .int .i64 t ∧ gkind word = gkindFrom word.toList (13 - t) t ∧ Below w.heap.size w wr) (fun k _ => 13 - (intOf k).toNat)
  case atStart => exact ⟨1, by omega, by omega, rfl, rfl, Below.refl _ _⟩
  case round =>
    obtain ⟨t, h1, ht, rfl, hg, hb⟩ := hrel
    have HG := Lib.hid hg
    clear hg
    by_cases hlt : t ≤ 12
    · have HS : Hid (gkind word = if gname t == word.toList then t else gkindFrom word.toList (13 - (t + 1)) (t + 1)) := by
        have h := HG.out
        rw [show 13 - t = (13 - (t + 1)) + 1 from by omega] at h
        exact h
      cases he : (gname t == word.toList)
      · have HF : Hid (gkind word = gkindFrom word.toList (13 - (t + 1)) (t + 1)) := by
          have h := HS.out
          rw [he] at h
          exact h
        go_wp2_with fail
        refine (GateName_spec t h1 hlt _).mono ?_
        rintro e w1 ⟨rfl, b1, s1⟩
        go_wp2_with fail
        go_roundw
        case rel => exact ⟨t + 1, by omega, by omega, by go_num, HF.out, hb.trans (b1.mono hb.size)⟩
        case measure => simp [intOf]; omega
      · have HF : Hid (gkind word = t) := by
          have h := HS.out
          rw [he] at h
          exact h
        go_wp2_with fail
        refine (GateName_spec t h1 hlt _).mono ?_
        rintro e w1 ⟨rfl, b1, s1⟩
        go_wp2_with fail
        go_ret
        exact ⟨by rw [HF.out]; rfl, hb.trans (b1.mono hb.size), Nat.le_trans hb.size s1⟩
    · obtain rfl : t = 13 := by omega
      have HF : Hid (gkind word = 0) := HG.out
      go_wp2_with fail
      go_ret
      exact ⟨by rw [HF.out]; rfl, hb, hb.size⟩
/-- How many names a statement has. -/
def nargs (k : Int) (word : ByteArray) : Nat := if k = 1 then ar (gkind word) else if k = 2 then 0 else if k = 3 then 0 else if k = 4 then 1 else if k = 5 then 1 else if k = 7 then 1 else 2
set_option maxRecDepth 100000 in
set_option maxHeartbeats 1000000 in
theorem l17Args_any (k : Int) (word : ByteArray) (va : Value) (count : Int) (vb : Value) (w : World) (ha : ∃ A n c, va = .slice A n c) (hb : ∃ A n c, vb = .slice A n c) : Calls Tryd.prog 29 #[.agg #[.int .i64 k, .string word, va, .int .i64 count, vb]] w fun e w' =>
    e = .returned (.tuple #[.int .i64 (nargs k word), .bool (hasB k)]) ∧ Below w.heap.size w w' ∧ w.heap.size ≤ w'.heap.size := by
  obtain ⟨A, n, c, rfl⟩ := ha
  obtain ⟨A', n', c', rfl⟩ := hb
  by_cases h1 : k = 1
  · subst h1
    go_enter Tryd.func29, Tryd.ntmps29
    go_wp2_with fail
    refine (GateKind_spec _ _).mono ?_
    rintro e w1 ⟨rfl, b1, s1⟩
    simp at s1
    go_wp2_with fail
    refine (Arity_spec _ _).mono ?_
    rintro e w' ⟨rfl, rfl⟩
    go_wp2_with fail
    go_ret2
    exact ⟨rfl, (by repeat (first | exact Below.refl _ _ | assumption | (refine Below.trans ?_ (Below.mono (by assumption) (by first | omega | (simp; done) | (simp; omega)))) | (with_reducible refine Below.drew ?_) | (with_reducible refine Below.alloc ?_ (by first | omega | (simp; done) | (simp; omega)) _) | (with_reducible refine Below.setCell ?_ (by first | omega | (simp; done) | (simp; omega)) _))), (by first | omega | (simp; done) | (simp; omega))⟩
  have e1 : (k == 1) = false := beq_eq_false_iff_ne.2 h1
  by_cases h2 : k = 2
  · subst h2
    go_enter Tryd.func29, Tryd.ntmps29
    go_wp2_with fail
    go_ret2
    exact ⟨rfl, (by repeat (first | exact Below.refl _ _ | assumption | (refine Below.trans ?_ (Below.mono (by assumption) (by first | omega | (simp; done) | (simp; omega)))) | (with_reducible refine Below.drew ?_) | (with_reducible refine Below.alloc ?_ (by first | omega | (simp; done) | (simp; omega)) _) | (with_reducible refine Below.setCell ?_ (by first | omega | (simp; done) | (simp; omega)) _))), (by first | omega | (simp; done) | (simp; omega))⟩
  have e2 : (k == 2) = false := beq_eq_false_iff_ne.2 h2
  by_cases h3 : k = 3
  · subst h3
    go_enter Tryd.func29, Tryd.ntmps29
    go_wp2_with fail
    go_ret2
    exact ⟨rfl, (by repeat (first | exact Below.refl _ _ | assumption | (refine Below.trans ?_ (Below.mono (by assumption) (by first | omega | (simp; done) | (simp; omega)))) | (with_reducible refine Below.drew ?_) | (with_reducible refine Below.alloc ?_ (by first | omega | (simp; done) | (simp; omega)) _) | (with_reducible refine Below.setCell ?_ (by first | omega | (simp; done) | (simp; omega)) _))), (by first | omega | (simp; done) | (simp; omega))⟩
  have e3 : (k == 3) = false := beq_eq_false_iff_ne.2 h3
  by_cases h4 : k = 4
  · subst h4
    go_enter Tryd.func29, Tryd.ntmps29
    go_wp2_with fail
    go_ret2
    exact ⟨rfl, (by repeat (first | exact Below.refl _ _ | assumption | (refine Below.trans ?_ (Below.mono (by assumption) (by first | omega | (simp; done) | (simp; omega)))) | (with_reducible refine Below.drew ?_) | (with_reducible refine Below.alloc ?_ (by first | omega | (simp; done) | (simp; omega)) _) | (with_reducible refine Below.setCell ?_ (by first | omega | (simp; done) | (simp; omega)) _))), (by first | omega | (simp; done) | (simp; omega))⟩
  have e4 : (k == 4) = false := beq_eq_false_iff_ne.2 h4
  by_cases h5 : k = 5
  · subst h5
    go_enter Tryd.func29, Tryd.ntmps29
    go_wp2_with fail
    go_ret2
    exact ⟨rfl, (by repeat (first | exact Below.refl _ _ | assumption | (refine Below.trans ?_ (Below.mono (by assumption) (by first | omega | (simp; done) | (simp; omega)))) | (with_reducible refine Below.drew ?_) | (with_reducible refine Below.alloc ?_ (by first | omega | (simp; done) | (simp; omega)) _) | (with_reducible refine Below.setCell ?_ (by first | omega | (simp; done) | (simp; omega)) _))), (by first | omega | (simp; done) | (simp; omega))⟩
  have e5 : (k == 5) = false := beq_eq_false_iff_ne.2 h5
  by_cases h7 : k = 7
  · subst h7
    go_enter Tryd.func29, Tryd.ntmps29
    go_wp2_with fail
    go_ret2
    exact ⟨rfl, (by repeat (first | exact Below.refl _ _ | assumption | (refine Below.trans ?_ (Below.mono (by assumption) (by first | omega | (simp; done) | (simp; omega)))) | (with_reducible refine Below.drew ?_) | (with_reducible refine Below.alloc ?_ (by first | omega | (simp; done) | (simp; omega)) _) | (with_reducible refine Below.setCell ?_ (by first | omega | (simp; done) | (simp; omega)) _))), (by first | omega | (simp; done) | (simp; omega))⟩
  have e7 : (k == 7) = false := beq_eq_false_iff_ne.2 h7
  have HA := Lib.hid (show nargs k word = 2 by simp [nargs, h1, h2, h3, h4, h5, h7])
  have HB := Lib.hid (hasB_f h2 h3 h4 h5 h7)
  clear h1 h2 h3 h4 h5 h7
  go_enter Tryd.func29, Tryd.ntmps29
  go_wp2_with fail
  go_ret2
  exact ⟨by rw [HA.out, HB.out]; rfl, (by repeat (first | exact Below.refl _ _ | assumption | (refine Below.trans ?_ (Below.mono (by assumption) (by first | omega | (simp; done) | (simp; omega)))) | (with_reducible refine Below.drew ?_) | (with_reducible refine Below.alloc ?_ (by first | omega | (simp; done) | (simp; omega)) _) | (with_reducible refine Below.setCell ?_ (by first | omega | (simp; done) | (simp; omega)) _))), (by first | omega | (simp; done) | (simp; omega))⟩
/-- How deep the bodies lie. -/
def nestT : (d : Nat) → List (Tr d) → Nat
  | 0, _ => 0
  | d + 1, l => l.foldl (fun (m : Nat) (s : Tr (d + 1)) => if hasB (hdT s).k then max m (1 + nestT d (bdT s)) else m) 0
theorem sum_ge {d : Nat} {l : List (Tr (d + 1))} {s : Tr (d + 1)} (h : s ∈ l) : szE s ≤ sumE l := by
  obtain ⟨t, ht⟩ := List.getElem?_of_mem h
  exact szT_mem ht
theorem nestT_le : ∀ (d : Nat) (l : List (Tr d)), nestT d l ≤ szT d l := by
  intro d
  induction d with
  | zero => intro l; exact Nat.le_refl _
  | succ d ih =>
    intro l
    have key : ∀ (B : Nat) (l : List (Tr (d + 1))), (∀ s ∈ l, 1 + nestT d (bdT s) ≤ B) → ∀ m, m ≤ B → l.foldl (fun (m : Nat) (s : Tr (d + 1)) => if hasB (hdT s).k then max m (1 + nestT d (bdT s)) else m) m ≤ B := by
      intro B l
      induction l with
      | nil => intro _ m h; exact h
      | cons s l ih2 =>
        intro hB m h
        refine ih2 (fun x hx => hB x (by simp [hx])) _ ?_
        show (if hasB (hdT s).k then max m (1 + nestT d (bdT s)) else m) ≤ B
        have := hB s (by simp)
        split <;> omega
    refine key _ l (fun s hs => ?_) 0 (Nat.zero_le _)
    have h1 := ih (bdT s)
    have h2 := sum_ge hs
    have h3 : 0 < l.length := List.length_pos_of_mem hs
    rw [szT_succ]
    unfold szE at h2
    omega
theorem nest_take_le {d : Nat} (l : List (Tr (d + 1))) (t : Nat) : nestT (d + 1) (l.take t) ≤ szT (d + 1) l := by
  refine Nat.le_trans (nestT_le _ _) ?_
  rw [szT_succ, szT_succ]
  have := sumE_take_le l t
  have := List.length_take_le' t l
  omega
theorem nest_take {d : Nat} (l : List (Tr (d + 1))) (t : Nat) (s : Tr (d + 1)) (h : l[t]? = some s) : nestT (d + 1) (l.take (t + 1)) = if hasB (hdT s).k then max (nestT (d + 1) (l.take t)) (1 + nestT d (bdT s)) else nestT (d + 1) (l.take t) := by
  rw [List.take_add_one, h]
  simp [nestT, List.foldl_append]
def NestSaid_impl (d : Nat) : Prop := ∀ (lo : Nat) (A : Option Addr) (n c : Nat) (l : List (Tr d)) (w : World), RdT w lo d A n l → szT d l ≤ 1048576 →
  Calls Tryd.prog 54 #[.slice A n c] w fun e w' => e = .returned (.int .i64 (nestT d l)) ∧ Below w.heap.size w w' ∧ w.heap.size ≤ w'.heap.size
set_option maxRecDepth 100000 in
set_option maxHeartbeats 2000000 in
theorem NestingDepth_impl : ∀ (d : Nat), NestSaid_impl d := by
  intro d
  induction d with
  | zero =>
    intro lo A n c l w h _
    obtain rfl := szT_zero_len h
    go_enter Tryd.func54, Tryd.ntmps54
    go_wp2
    refine wp_loop_rounds 1 ?_
    rw [rounds_succ]
    go_wp2
    go_ret
    exact ⟨rfl, Below.refl _ _, Nat.le_refl _⟩
  | succ d ih =>
    intro lo A n c l w h hsz
    have hln := h.len
    have hn : n ≤ 1048576 := by rw [szT_succ] at hsz; omega
    have HQ := Lib.hid hsz
    have HL := Lib.hid hln
    have H := Lib.hid h
    clear h hln hsz
    go_enter Tryd.func54, Tryd.ntmps54
    go_wp2
    go_loopw [3, 8] (fun m i wr => ∃ t : Nat, t ≤ n ∧ i = .int .i64 t ∧ m = .int .i64 (nestT (d + 1) (l.take t)) ∧ Below w.heap.size w wr) (fun _ i _ => n - (intOf i).toNat)
    case atStart => exact ⟨0, Nat.zero_le _, rfl, rfl, Below.refl _ _⟩
    case round =>
      obtain ⟨t, ht, rfl, rfl, hb⟩ := hrel
      have hN : nestT (d + 1) (l.take t) ≤ 1048576 := Nat.le_trans (nest_take_le l t) HQ.out
      obtain ⟨N, hNN⟩ : ∃ N, N = nestT (d + 1) (l.take t) := ⟨_, rfl⟩
      rw [← hNN] at hN ⊢
      have HN := Lib.hid hNN
      clear hNN
      have hbs := hb.size
      by_cases hlt : t < n
      · obtain ⟨b, off, s, Aa, ca, Ab, nb, cb, rfl, hbl, hs, hcs, hra, hrb⟩ := (H.out.below hb).at_ hlt
        obtain ⟨q0, q1, q2, q3, q4⟩ := hcs
        have hme := szT_mem hs
        have hz2 : szT d (bdT s) ≤ 1048576 := by have := HQ.out; rw [szT_succ] at this; unfold szE at hme; omega
        have hnb := nestT_le d (bdT s)
        have HT := Lib.hid (nest_take l t s hs)
        have HB := Lib.hid (hrb.below (w' := wr.alloc (.cells #[.int .i64 (hdT s).k, .string (hdT s).word, .slice Aa (hdT s).args.length ca, .int .i64 (hdT s).count, .slice Ab nb cb] 27)) (by repeat (first | exact Below.refl _ _ | assumption | (refine Below.trans ?_ (Below.mono (by assumption) (by first | omega | (simp; done) | (simp; omega)))) | (with_reducible refine Below.drew ?_) | (with_reducible refine Below.alloc ?_ (by first | omega | (simp; done) | (simp; omega)) _) | (with_reducible refine Below.setCell ?_ (by first | omega | (simp; done) | (simp; omega)) _))))
        clear hs hra hrb hme
        cases hk : hasB (hdT s).k
        · have HT2 : Hid (nestT (d + 1) (l.take (t + 1)) = N) := by
            have h := HT.out
            rw [hk, ← HN.out] at h
            exact h
          go_wp2_with (go_at_call 26; refine (hasBody_any _ _).mono ?_; rintro e w' ⟨rfl, rfl⟩)
          go_roundw
          case rel => exact ⟨t + 1, by omega, by go_num, by rw [HT2.out], hb.alloc hb.size _⟩
          case measure => simp [intOf]; omega
        · obtain ⟨M, hM⟩ : ∃ M, M = nestT d (bdT s) := ⟨_, rfl⟩
          have HT2 : Hid (nestT (d + 1) (l.take (t + 1)) = max N (1 + M)) := by
            have h := HT.out
            rw [hk, ← HN.out, ← hM] at h
            exact h
          rw [← hM] at hnb
          have HM := Lib.hid hM
          clear hM
          go_wp2_with (first | (go_at_call 26; refine (hasBody_any _ _).mono ?_; rintro e w' ⟨rfl, rfl⟩) | (go_at_call 54; refine (ih lo _ _ _ (bdT s) _ HB.out hz2).mono ?_; rintro e w1 ⟨rfl, b1, s1⟩; rw [← HM.out]))
          go_roundw
          case rel => exact ⟨t + 1, by omega, by go_num, by rw [HT2.out]; congr 1; split <;> omega, (hb.alloc hb.size _).trans (b1.mono (by simp; omega))⟩
          case measure => simp [intOf]; omega
      · obtain rfl : t = n := by omega
        have HF : Hid (N = nestT (d + 1) l) := by
          have h := HN.out
          rw [List.take_of_length_le (by rw [HL.out]; exact Nat.le_refl _)] at h
          exact h
        go_wp2
        go_ret
        exact ⟨by rw [← HF.out]; rfl, hb, hb.size⟩
def NestSaid_spec (d : Nat) : Prop := ∀ (lo : Nat) (A : Option Addr) (n c : Nat) (l : List (Tr d)) (w : World), RdT w lo d A n l → szT d l ≤ 1048576 →
  Calls Tryd.prog 42 #[.slice A n c] w fun e w' => e = .returned (.int .i64 (nestT d l)) ∧ Below w.heap.size w w' ∧ w.heap.size ≤ w'.heap.size
set_option maxRecDepth 100000 in
set_option maxHeartbeats 2000000 in
theorem NestingDepth_spec : ∀ (d : Nat), NestSaid_spec d := by
  intro d
  induction d with
  | zero =>
    intro lo A n c l w h _
    obtain rfl := szT_zero_len h
    go_enter Tryd.func42, Tryd.ntmps42
    go_wp2
    refine wp_loop_rounds 1 ?_
    rw [rounds_succ]
    go_wp2
    go_ret
    exact ⟨rfl, Below.refl _ _, Nat.le_refl _⟩
  | succ d ih =>
    intro lo A n c l w h hsz
    have hln := h.len
    have hn : n ≤ 1048576 := by rw [szT_succ] at hsz; omega
    have HQ := Lib.hid hsz
    have HL := Lib.hid hln
    have H := Lib.hid h
    clear h hln hsz
    go_enter Tryd.func42, Tryd.ntmps42
    go_wp2
    go_loopw [3, 4] (fun m i wr => ∃ t : Nat, t ≤ n ∧ i = .int .i64 t ∧ m = .int .i64 (nestT (d + 1) (l.take t)) ∧ Below w.heap.size w wr) (fun _ i _ => n - (intOf i).toNat)
    case atStart => exact ⟨0, Nat.zero_le _, rfl, rfl, Below.refl _ _⟩
    case round =>
      obtain ⟨t, ht, rfl, rfl, hb⟩ := hrel
      have hN : nestT (d + 1) (l.take t) ≤ 1048576 := Nat.le_trans (nest_take_le l t) HQ.out
      obtain ⟨N, hNN⟩ : ∃ N, N = nestT (d + 1) (l.take t) := ⟨_, rfl⟩
      rw [← hNN] at hN ⊢
      have HN := Lib.hid hNN
      clear hNN
      have hbs := hb.size
      by_cases hlt : t < n
      · obtain ⟨b, off, s, Aa, ca, Ab, nb, cb, rfl, hbl, hs, hcs, hra, hrb⟩ := (H.out.below hb).at_ hlt
        obtain ⟨q0, q1, q2, q3, q4⟩ := hcs
        have hme := szT_mem hs
        have hz2 : szT d (bdT s) ≤ 1048576 := by have := HQ.out; rw [szT_succ] at this; unfold szE at hme; omega
        have hnb := nestT_le d (bdT s)
        have HT := Lib.hid (nest_take l t s hs)
        have HB := Lib.hid hrb
        clear hs hra hrb hme
        cases hk : hasB (hdT s).k
        · have HT2 : Hid (nestT (d + 1) (l.take (t + 1)) = N) := by
            have h := HT.out
            rw [hk, ← HN.out] at h
            exact h
          go_wp2_with fail
          refine (l17Args_any _ _ _ _ _ _ ⟨_, _, _, rfl⟩ ⟨_, _, _, rfl⟩).mono ?_
          rintro e w1 ⟨rfl, b1, s1⟩
          rw [hk]
          go_wp2_with fail
          go_roundw
          case rel => exact ⟨t + 1, by omega, by go_num, by rw [HT2.out], hb.trans (b1.mono hb.size)⟩
          case measure => simp [intOf]; omega
        · obtain ⟨M, hM⟩ : ∃ M, M = nestT d (bdT s) := ⟨_, rfl⟩
          have HT2 : Hid (nestT (d + 1) (l.take (t + 1)) = max N (1 + M)) := by
            have h := HT.out
            rw [hk, ← HN.out, ← hM] at h
            exact h
          rw [← hM] at hnb
          have HM := Lib.hid hM
          clear hM
          go_wp2_with fail
          refine (l17Args_any _ _ _ _ _ _ ⟨_, _, _, rfl⟩ ⟨_, _, _, rfl⟩).mono ?_
          rintro e w1 ⟨rfl, b1, s1⟩
          rw [hk]
          have q5 := (b1.cell (p := ⟨b, off + t * 5 + 4, none⟩) hbl).trans q4
          clear q0 q1 q2 q3 q4
          go_wp2_with fail
          refine (ih lo _ _ _ (bdT s) _ (HB.out.below b1) hz2).mono ?_
          rintro e w2 ⟨rfl, b2, s2⟩
          rw [← HM.out]
          go_wp2_with fail
          refine (l1Max_any _ _ _).mono ?_
          rintro e w' ⟨rfl, rfl⟩
          go_wp2_with fail
          go_roundw
          case rel => exact ⟨t + 1, by omega, by go_num, by rw [HT2.out]; congr 1; unfold imax; split <;> omega, (hb.trans (b1.mono hb.size)).trans (b2.mono (by omega))⟩
          case measure => simp [intOf]; omega
      · obtain rfl : t = n := by omega
        have HF : Hid (N = nestT (d + 1) l) := by
          have h := HN.out
          rw [List.take_of_length_le (by rw [HL.out]; exact Nat.le_refl _)] at h
          exact h
        go_wp2
        go_ret
        exact ⟨by rw [← HF.out]; rfl, hb, hb.size⟩
end Go.Proofs.YtbamjfbfipkioaaDoor
namespace Go.Proofs.YtbamjfbfipkioaaDoor
open Go.RowKit
set_option linter.unusedVariables false
def gstr (k : Nat) : ByteArray := ⟨(gname k).toArray⟩
def gstrs : List ByteArray := (List.range 13).map gstr
/-- The variable gateNames reads as its thirteen names. -/
def GN (w : World) : Prop := ∃ A c, w.cell? ⟨0, 0, none⟩ = some (.slice A 13 c) ∧ 0 < w.heap.size ∧ Rd w 1 A 13 (strs gstrs)
theorem GN.below {w w' : World} (h : GN w) (hb : Below w.heap.size w w') : GN w' := by
  obtain ⟨A, c, h1, h2, h3⟩ := h
  exact ⟨A, c, (hb.cell (p := ⟨0, 0, none⟩) h2).trans h1, Nat.lt_of_lt_of_le h2 hb.size, h3.below hb⟩
theorem GN.drewN {w : World} (h : GN w) (k : Nat) : GN (w.drewN k) := h
set_option maxRecDepth 100000 in
set_option maxHeartbeats 1000000 in
theorem GateName_impl (k : Nat) (h1 : 1 ≤ k) (h2 : k ≤ 12) (w : World) (hG : GN w) : Calls Tryd.prog 45 #[.int .i64 k] w fun e w' => e = .returned (.string ⟨(gname k).toArray⟩) ∧ w = w' := by
  obtain ⟨A, c, hg, hl, hr⟩ := hG
  obtain ⟨b, off, rfl, hb, hc⟩ := hr.2 (by omega)
  have q0 : w.cell? ⟨b, off + k, none⟩ = some (.string ⟨(gname k).toArray⟩) := hc k _ (by
    simp only [strs, gstrs, List.map_map]
    rw [List.getElem?_map, List.getElem?_range (by omega)]
    rfl)
  have hin : inB (k : Int) 1 12 = true := inB_t (by omega) (by omega)
  clear hc hr
  go_enter Tryd.func45, Tryd.ntmps45
  go_wp2_with (go_at_call 27; refine (in_any _ _ _ _).mono ?_; rintro e w' ⟨rfl, rfl⟩)
  go_ret
  exact ⟨rfl, rfl⟩
set_option maxRecDepth 100000 in
set_option maxHeartbeats 1000000 in
theorem GateKind_impl (word : ByteArray) (w : World) (hG : GN w) : Calls Tryd.prog 25 #[.string word] w fun e w' => e = .returned (.int .i64 (gkind word)) ∧ w = w' := by
  have HGN := Lib.hid hG
  clear hG
  go_enter Tryd.func25, Tryd.ntmps25
  go_wp2
  go_loop [3] (fun k => ∃ t : Nat, 1 ≤ t ∧ t ≤ 13 ∧ k = .int .i64 t ∧ gkind word = gkindFrom word.toList (13 - t) t) (fun k => 13 - (intOf k).toNat)
  case atStart => exact ⟨1, by omega, by omega, rfl, rfl⟩
  case round =>
    obtain ⟨t, h1, ht, rfl, hg⟩ := hrel
    have HG := Lib.hid hg
    clear hg
    by_cases hlt : t ≤ 12
    · have HS : Hid (gkind word = if gname t == word.toList then t else gkindFrom word.toList (13 - (t + 1)) (t + 1)) := by
        have h := HG.out
        rw [show 13 - t = (13 - (t + 1)) + 1 from by omega] at h
        exact h
      cases he : (gname t == word.toList)
      · have HF : Hid (gkind word = gkindFrom word.toList (13 - (t + 1)) (t + 1)) := by
          have h := HS.out
          rw [he] at h
          exact h
        go_wp2_with fail
        refine (GateName_impl t h1 hlt _ HGN.out).mono ?_
        rintro e w1 ⟨rfl, rfl⟩
        go_wp2_with fail
        go_round
        case rel => exact ⟨t + 1, by omega, by omega, by go_num, HF.out⟩
        case measure => simp [intOf]; omega
      · have HF : Hid (gkind word = t) := by
          have h := HS.out
          rw [he] at h
          exact h
        go_wp2_with fail
        refine (GateName_impl t h1 hlt _ HGN.out).mono ?_
        rintro e w1 ⟨rfl, rfl⟩
        go_wp2_with fail
        go_ret
        exact ⟨by rw [HF.out]; rfl, rfl⟩
    · obtain rfl : t = 13 := by omega
      have HF : Hid (gkind word = 0) := HG.out
      go_wp2_with fail
      go_ret
      exact ⟨by rw [HF.out]; rfl, rfl⟩
end Go.Proofs.YtbamjfbfipkioaaDoor
namespace Go.Proofs.YtbamjfbfipkioaaDoor
open Go.ChangeShapes Go.WideShapes Go.ChangeAt Go.RowKit Go.Deep
set_option linter.unusedVariables false
set_option maxRecDepth 100000
theorem gNames : Tryd.prog.globalNamed "loop.example/g00506/impl.gateNames" = some 0 := by kernel_rfl
theorem tNames : (Tryd.prog.globals[0]?).map (·.type) = some 24 := by kernel_rfl
theorem cellsStr : Tryd.prog.cellsOf 9 = 1 := by kernel_rfl
theorem toList_inj {a b : ByteArray} (h : a.data.toList = b.data.toList) : a = b := by
  cases a
  cases b
  simp_all
theorem of_map_eq : ∀ {l l' : List ByteArray}, l.map (fun s => s.data.toList) = l'.map (fun s => s.data.toList) → l = l'
  | [], [], _ => rfl
  | [], _ :: _, h => by simp at h
  | _ :: _, [], h => by simp at h
  | a :: l, b :: l', h => by
    simp only [List.map_cons, List.cons.injEq] at h
    rw [toList_inj h.1, of_map_eq h.2]
theorem lits_inj : ∀ {l : List ByteArray} {l' : List (List UInt8)}, (l.map fun s => (.lit (.string s.data.toList) : DataW Unit)) = l'.map (fun s => .lit (.string s)) → l.map (fun s => s.data.toList) = l'
  | [], [], _ => rfl
  | [], _ :: _, h => by simp at h
  | _ :: _, [], h => by simp at h
  | a :: l, b :: l', h => by
    simp only [List.map_cons, List.cons.injEq, DataW.lit.injEq, Lit.string.injEq] at h
    rw [List.map_cons, h.1, lits_inj h.2]
theorem gn_of_cell {W : World} {fuel : Nat} {cs : Array Value} {p : List MemPlace} (hv : W.var? Tryd.prog "loop.example/g00506/impl.gateNames" = some cs)
    (hd : DataW.trod (fun _ => ()) Tryd.prog W 0 (fun _ => true) false fuel 24 cs.toList = some (Rows.laid_loop_example_g00506_impl_gateNames, p)) : GN W := by
  rcases Go.ChangeShapes.open_strings Tryd.underlying24 Tryd.underlying9 cellsStr hd with ⟨_, hx⟩ | ⟨a, len, cap, ss, hcs, _, hl, hm, hlen, hx, hcell, _⟩
  · simp [Rows.laid_loop_example_g00506_impl_gateNames] at hx
  · have h1 : (Rows.laid_loop_example_g00506_impl_gateNames : DataW Unit) = .slice (Go.ChangeShapes.strs (ss.take len)) (Go.ChangeShapes.strs (ss.drop len)) := by rw [Prod.mk.injEq] at hx; exact hx.1
    have h2 : (Rows.laid_loop_example_g00506_impl_gateNames : DataW Unit) = .slice (gnames.map fun s => .lit (.string s)) [] := rfl
    rw [h2, DataW.slice.injEq] at h1
    have h3 := lits_inj h1.1.symm
    have h4 : ss.take len = gstrs := of_map_eq (by rw [h3]; rfl)
    have h5 : len = 13 := by
      have h6 := congrArg List.length h4
      rw [List.length_take] at h6
      have h7 : gstrs.length = 13 := rfl
      simp at hlen
      omega
    subst h5
    have hss : ss.length = cap := by simpa using hlen
    have hat : ∀ j u, (Go.Proofs.YtbamjfbfipkioaaDoor.strs gstrs)[j]? = some u → W.cell? (a.add j) = some u := by
      intro j u hu
      simp only [Go.Proofs.YtbamjfbfipkioaaDoor.strs, List.getElem?_map] at hu
      obtain ⟨s, hs, rfl⟩ := Option.map_eq_some_iff.1 hu
      rw [← h4] at hs
      have hj : j < 13 := by have := (List.getElem?_eq_some_iff.1 hs).1; rw [List.length_take] at this; omega
      rw [List.getElem?_take, if_pos hj] at hs
      rw [hcell j (by omega)]
      simp [List.getD_eq_getElem?_getD, hs]
    have hc0 := hat 0 (.string (gstr 0)) rfl
    obtain ⟨b, off, spot⟩ := a
    have hspot : spot = none := by simpa [Addr.add] using World.cell?_spot hc0
    subst hspot
    have hg : W.cell? ⟨0, 0, none⟩ = some (.slice (some ⟨b, off, none⟩) 13 cap) := by
      have := World.var?_cell gNames hv 0
      rw [Array.eq_one_of_toList hcs] at this
      simpa using this
    refine ⟨some ⟨b, off, none⟩, cap, hg, block_of_cell hg, rfl, fun _ => ⟨b, off, rfl, by simpa [Addr.add] using block_of_cell hc0, fun j u hu => ?_⟩⟩
    have := hat j u hu
    rwa [add_plain] at this
theorem gn_of_laid1 {W : World} (h : laidMetH Tryd.prog [("loop.example/g00506/impl.gateNames", Rows.laid_loop_example_g00506_impl_gateNames)] W) : GN W := by
  rw [MakeChecks.laidMetH_plain _ _ _ (by kernel_rfl)] at h
  obtain ⟨ps, ⟨g0, t0, cs0, f0, p0, q0, hg0, ht0, hv0, hd0, _⟩, _⟩ := h
  obtain rfl := Option.some.inj (gNames.symm.trans hg0)
  obtain rfl := Option.some.inj (tNames.symm.trans ht0)
  exact gn_of_cell hv0 hd0
section
variable {H : Type} {enc : TypeId × Value → H}
theorem vars_stay {W W' : World} (hl : laidOutB Tryd.prog = true) (hr : Tryd.prog.readableRec 24 = true ∧ 24 < Tryd.prog.types.size) {gs : List (DataW H)} {q : List MemPlace} (h : DataW.TrodVars enc Tryd.prog W (fun _ => true) ["loop.example/g00506/impl.gateNames"] gs q) (hlt : ∀ x ∈ q, x.block < W.heap.size) (hb : Below W.heap.size W W') (hgn : 0 < W.heap.size) :
    ∃ d, gs = [d] ∧ ∀ sp : Nat → Bool, (∀ x ∈ q, sp x.block = true) → DataW.TrodVars enc Tryd.prog W' sp ["loop.example/g00506/impl.gateNames"] [d] q := by
  obtain ⟨g, t, cs, fuel, d, p, rfl, hg, ht, hv, hd, rfl⟩ := trodVars_one h
  obtain rfl := Option.some.inj (gNames.symm.trans hg)
  obtain rfl := Option.some.inj (tNames.symm.trans ht)
  refine ⟨d, rfl, fun sp hsp => ?_⟩
  have hv' : W'.var? Tryd.prog "loop.example/g00506/impl.gateNames" = some cs := by
    simp only [World.var?, gNames, Option.bind_some] at hv ⊢
    rw [hb.block _ hgn]
    exact hv
  obtain ⟨v, hcs⟩ : ∃ v, cs.toList = [v] := by
    rcases open_slice Tryd.underlying24 hd with ⟨h0, _⟩ | ⟨a, len, cap, m, n, D, Pl, hcs, _⟩
    · exact ⟨_, h0⟩
    · exact ⟨_, hcs⟩
  have h1 : DataW.Trod enc Tryd.prog W 0 (fun _ => true) true 24 v d p := ⟨fuel, by
    have e : v.cells.toList = [v] := by
      rcases open_slice Tryd.underlying24 hd with ⟨h0, _⟩ | ⟨a, len, cap, m, n, D, Pl, h0, _⟩
      · rw [hcs] at h0; injection h0 with h0 _; subst h0; rfl
      · rw [hcs] at h0; injection h0 with h0 _; subst h0; rfl
    rw [e, ← hcs]
    exact hd⟩
  have h2 := WideElems.Trod_stays (sp' := sp) hl hr.1 hr.2 h1 (fun x hx => hb.same (hlt x (by simp [hx]))) (fun x hx => hsp x (by simp [hx]))
  obtain ⟨fuel', hf⟩ := h2
  have e : v.cells.toList = [v] := by
    rcases open_slice Tryd.underlying24 hd with ⟨h0, _⟩ | ⟨a, len, cap, m, n, D, Pl, h0, _⟩
    · rw [hcs] at h0; injection h0 with h0 _; subst h0; rfl
    · rw [hcs] at h0; injection h0 with h0 _; subst h0; rfl
  rw [e, ← hcs] at hf
  exact trodVars_mk1 gNames tNames hv' hf
end
theorem strRec : Tryd.prog.readableRec 24 = true ∧ 24 < Tryd.prog.types.size := ⟨by kernel_rfl, of_decide_eq_true (by kernel_rfl)⟩
end Go.Proofs.YtbamjfbfipkioaaDoor
namespace Go.Proofs.YtbamjfbfipkioaaDoor
section
variable {α : Type} {f : α → α → Bool} {l l' : List α}
end
/-- Whether two strings are equal, as Go's '==' asks it. -/
def eqSt (a b : ByteArray) : Bool := a.toList == b.toList
end Go.Proofs.YtbamjfbfipkioaaDoor
namespace Go.Proofs.YtbamjfbfipkioaaDoor
open Go.RowKit
set_option linter.unusedVariables false
def hasS (l : List ByteArray) (s : ByteArray) : Bool := l.any fun x => eqSt x s
theorem hasS_t {l : List ByteArray} {s x : ByteArray} {t : Nat} (h : l[t]? = some x) (he : eqSt x s = true) : hasS l s = true := List.any_eq_true.2 ⟨x, List.mem_of_getElem? h, he⟩
theorem hasS_step {l : List ByteArray} {s x : ByteArray} {t : Nat} (h : l[t]? = some x) (he : eqSt x s = false) (h0 : hasS (l.take t) s = false) : hasS (l.take (t + 1)) s = false := by
  unfold hasS at h0 ⊢
  rw [List.take_add_one, h]
  simp only [Option.toList_some, List.any_append, h0, List.any_cons, List.any_nil, he]
  rfl
set_option maxRecDepth 100000 in
set_option maxHeartbeats 1000000 in
theorem hasWord_any (A : Option Addr) (n c : Nat) (l : List ByteArray) (s : ByteArray) (w : World) (h : Rd w 1 A n (strs l)) (hl : l.length = n) (hn : n ≤ 1099511627776) :
    Calls Tryd.prog 38 #[.slice A n c, .string s] w fun e w' => e = .returned (.bool (hasS l s)) ∧ w = w' := by
  have H := Lib.hid h
  have HL := Lib.hid hl
  clear h hl
  go_enter Tryd.func38, Tryd.ntmps38
  go_wp2
  go_loop [9] (fun i => ∃ t : Nat, t ≤ n ∧ i = .int .i64 t ∧ hasS (l.take t) s = false) (fun i => n - (intOf i).toNat)
  case atStart => exact ⟨0, Nat.zero_le _, rfl, rfl⟩
  case round =>
    obtain ⟨t, ht, rfl, hok⟩ := hrel
    have HOK := Lib.hid hok
    clear hok
    by_cases hlt : t < n
    · obtain ⟨x, hx⟩ : ∃ x, l[t]? = some x := ⟨_, List.getElem?_eq_getElem (by rw [HL.out]; exact hlt)⟩
      obtain ⟨b, off, rfl, _, hc⟩ := H.out.2 (by omega)
      have q0 := hc t _ (strs_at hx)
      have HX := Lib.hid hx
      clear hc hx
      cases he : eqSt x s
      · have hne : (x.toList == s.toList) = false := he
        have HN := Lib.hid (hasS_step HX.out he HOK.out)
        clear he
        go_wp2_with fail
        go_round
        case rel => exact ⟨t + 1, by omega, by go_num, HN.out⟩
        case measure => simp [intOf]; omega
      · have hne : (x.toList == s.toList) = true := he
        have HF := Lib.hid (hasS_t HX.out he)
        clear he
        go_wp2_with fail
        go_ret
        exact ⟨by rw [HF.out]; rfl, rfl⟩
    · obtain rfl : t = n := by omega
      have HF : Hid (hasS l s = false) := by
        have h := HOK.out
        rw [List.take_of_length_le (by rw [HL.out]; exact Nat.le_refl _)] at h
        exact h
      go_wp2_with fail
      go_ret
      exact ⟨by rw [HF.out]; rfl, rfl⟩
set_option maxRecDepth 100000 in
set_option maxHeartbeats 1000000 in
theorem l1Has_any (A : Option Addr) (n c : Nat) (l : List ByteArray) (s : ByteArray) (w : World) (h : Rd w 1 A n (strs l)) (hl : l.length = n) (hn : n ≤ 1099511627776) :
    Calls Tryd.prog 40 #[.slice A n c, .string s] w fun e w' => e = .returned (.bool (hasS l s)) ∧ w = w' := by
  have H := Lib.hid h
  have HL := Lib.hid hl
  clear h hl
  go_enter Tryd.func40, Tryd.ntmps40
  go_wp2
  go_loop [5] (fun i => ∃ t : Nat, t ≤ n ∧ i = .int .i64 t ∧ hasS (l.take t) s = false) (fun i => n - (intOf i).toNat)
  case atStart => exact ⟨0, Nat.zero_le _, rfl, rfl⟩
  case round =>
    obtain ⟨t, ht, rfl, hok⟩ := hrel
    have HOK := Lib.hid hok
    clear hok
    by_cases hlt : t < n
    · obtain ⟨x, hx⟩ : ∃ x, l[t]? = some x := ⟨_, List.getElem?_eq_getElem (by rw [HL.out]; exact hlt)⟩
      obtain ⟨b, off, rfl, _, hc⟩ := H.out.2 (by omega)
      have q0 := hc t _ (strs_at hx)
      have HX := Lib.hid hx
      clear hc hx
      cases he : eqSt x s
      · have hne : (x.toList == s.toList) = false := he
        have HN := Lib.hid (hasS_step HX.out he HOK.out)
        clear he
        go_wp2_with fail
        go_round
        case rel => exact ⟨t + 1, by omega, by go_num, HN.out⟩
        case measure => simp [intOf]; omega
      · have hne : (x.toList == s.toList) = true := he
        have HF := Lib.hid (hasS_t HX.out he)
        clear he
        go_wp2_with fail
        go_ret
        exact ⟨by rw [HF.out]; rfl, rfl⟩
    · obtain rfl : t = n := by omega
      have HF : Hid (hasS l s = false) := by
        have h := HOK.out
        rw [List.take_of_length_le (by rw [HL.out]; exact Nat.le_refl _)] at h
        exact h
      go_wp2_with fail
      go_ret
      exact ⟨by rw [HF.out]; rfl, rfl⟩
end Go.Proofs.YtbamjfbfipkioaaDoor
