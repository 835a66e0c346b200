/- Arity, the qubits of a gate, and when a gate is valid: the program's functions and the reference's compute the same. -/
import Derived.Test.YtgjpicekdbemiaaGate
import Derived.Test.YtgjpicekdbemiaaSeen
namespace Go.Proofs.Ytgjpicekdbemiaa
open Go.RowKit

def ar (k : Int) : Nat := if inB k 1 8 then 1 else if inB k 9 11 then 2 else if k = 12 then 3 else 0
theorem ar_le (k : Int) : ar k ≤ 3 := by
  unfold ar
  split
  · omega
  · split
    · omega
    · split <;> omega
set_option maxRecDepth 100000 in
theorem Arity_impl (k : Int) (w : World) : Calls Try.prog 19 #[.int .i64 k] w fun e w' => e = .returned (.int .i64 (ar k)) ∧ w = w' := by
  cases h1 : inB k 1 8
  · cases h2 : inB k 9 11
    · by_cases h3 : k = 12
      · subst h3
        go_enter Try.func19, Try.ntmps19
        go_wp2_with (go_at_call 34; refine (in_any _ _ _ _).mono ?_; rintro e w' ⟨rfl, rfl⟩)
        go_ret
        exact ⟨rfl, rfl⟩
      · have e : ar k = 0 := by simp [ar, h1, h2, h3]
        rw [e]
        have h4 : (k == 12) = false := beq_eq_false_iff_ne.2 h3
        clear h3 e
        go_enter Try.func19, Try.ntmps19
        go_wp2_with (go_at_call 34; refine (in_any _ _ _ _).mono ?_; rintro e w' ⟨rfl, rfl⟩)
        go_ret
        exact ⟨rfl, rfl⟩
    · have e : ar k = 2 := by simp [ar, h1, h2]
      rw [e]
      clear e
      go_enter Try.func19, Try.ntmps19
      go_wp2_with (go_at_call 34; refine (in_any _ _ _ _).mono ?_; rintro e w' ⟨rfl, rfl⟩)
      go_ret
      exact ⟨rfl, rfl⟩
  · have e : ar k = 1 := by simp [ar, h1]
    rw [e]
    clear e
    go_enter Try.func19, Try.ntmps19
    go_wp2_with (go_at_call 34; refine (in_any _ _ _ _).mono ?_; rintro e w' ⟨rfl, rfl⟩)
    go_ret
    exact ⟨rfl, rfl⟩
set_option maxRecDepth 100000 in
theorem Arity_spec (k : Int) (w : World) : Calls Try.prog 33 #[.int .i64 k] w fun e w' => e = .returned (.int .i64 (ar k)) ∧ w = w' := by
  cases h1 : inB k 1 8
  · cases h2 : inB k 9 11
    · by_cases h3 : k = 12
      · subst h3
        go_enter Try.func33, Try.ntmps33
        go_wp2_with (go_at_call 17; refine (l1In_any _ _ _ _).mono ?_; rintro e w' ⟨rfl, rfl⟩)
        go_ret
        exact ⟨rfl, rfl⟩
      · have e : ar k = 0 := by simp [ar, h1, h2, h3]
        rw [e]
        have h4 : (k == 12) = false := beq_eq_false_iff_ne.2 h3
        clear h3 e
        go_enter Try.func33, Try.ntmps33
        go_wp2_with (go_at_call 17; refine (l1In_any _ _ _ _).mono ?_; rintro e w' ⟨rfl, rfl⟩)
        go_ret
        exact ⟨rfl, rfl⟩
    · have e : ar k = 2 := by simp [ar, h1, h2]
      rw [e]
      clear e
      go_enter Try.func33, Try.ntmps33
      go_wp2_with (go_at_call 17; refine (l1In_any _ _ _ _).mono ?_; rintro e w' ⟨rfl, rfl⟩)
      go_ret
      exact ⟨rfl, rfl⟩
  · have e : ar k = 1 := by simp [ar, h1]
    rw [e]
    clear e
    go_enter Try.func33, Try.ntmps33
    go_wp2_with (go_at_call 17; refine (l1In_any _ _ _ _).mono ?_; rintro e w' ⟨rfl, rfl⟩)
    go_ret
    exact ⟨rfl, rfl⟩

def qsOf (g : Gt) : List Int := [g.a, g.b, g.c]
def vstep (m : Nat) (n : Int) (qs : List Int) (t : Nat) : Bool := if m ≤ t then qs.getD t 0 == 0 else inB (qs.getD t 0) 0 (n - 1) && !(qs.take t).contains (qs.getD t 0)
def vupto (m : Nat) (n : Int) (qs : List Int) : Nat → Bool
  | 0 => true
  | t + 1 => vupto m n qs t && vstep m n qs t
def validG (g : Gt) (n : Int) : Bool := (inB n 1 4 && decide (ar g.k ≠ 0)) && vupto (ar g.k) n (qsOf g) 3
theorem vupto_f {m : Nat} {n : Int} {qs : List Int} {t : Nat} (h : vstep m n qs t = false) (h3 : t < 3) : vupto m n qs 3 = false := by
  match t, h3 with
  | 0, _ => simp [vupto, h]
  | 1, _ => simp [vupto, h]
  | 2, _ => simp [vupto, h]
  | _ + 3, h => omega
theorem validG_n {g : Gt} {n : Int} (h : inB n 1 4 = false) : validG g n = false := by simp [validG, h]
theorem validG_k {g : Gt} {n : Int} (h : ar g.k = 0) : validG g n = false := by simp [validG, h]
theorem validG_f {g : Gt} {n : Int} {t : Nat} (h : vstep (ar g.k) n (qsOf g) t = false) (h3 : t < 3) : validG g n = false := by simp [validG, vupto_f h h3]
theorem validG_t {g : Gt} {n : Int} (h : inB n 1 4 = true) (hk : ar g.k ≠ 0) (h3 : vupto (ar g.k) n (qsOf g) 3 = true) : validG g n = true := by simp [validG, h, hk, h3]
theorem vstep_hi_t {m : Nat} {n : Int} {qs : List Int} {t : Nat} (h : m ≤ t) (hq : (qs.getD t 0 == 0) = true) : vstep m n qs t = true := by simpa [vstep, h] using hq
theorem vstep_hi_f {m : Nat} {n : Int} {qs : List Int} {t : Nat} (h : m ≤ t) (hq : (qs.getD t 0 == 0) = false) : vstep m n qs t = false := by simpa [vstep, h] using hq
theorem vstep_in_f {m : Nat} {n : Int} {qs : List Int} {t : Nat} (h : t < m) (hq : inB (qs.getD t 0) 0 (n - 1) = false) : vstep m n qs t = false := by rw [vstep, if_neg (by omega), hq]; rfl
theorem vstep_seen_f {m : Nat} {n : Int} {qs : List Int} {t : Nat} (h : t < m) (hq : (qs.take t).contains (qs.getD t 0) = true) : vstep m n qs t = false := by rw [vstep, if_neg (by omega), hq]; simp
theorem vstep_lo_t {m : Nat} {n : Int} {qs : List Int} {t : Nat} (h : t < m) (h1 : inB (qs.getD t 0) 0 (n - 1) = true) (h2 : (qs.take t).contains (qs.getD t 0) = false) : vstep m n qs t = true := by rw [vstep, if_neg (by omega), h1, h2]; rfl
theorem take_snoc {qs : List Int} {t : Nat} (h : t < qs.length) : qs.take t ++ [qs.getD t 0] = qs.take (t + 1) := by
  rw [List.take_succ_eq_append_getElem h, List.getD_eq_getElem?_getD, List.getElem?_eq_getElem h]; rfl

theorem ints_at (xs : List Int) (j : Nat) (h : j < xs.length) : (xs.map (Value.int .i64))[j]? = some (.int .i64 (xs.getD j 0)) := by
  simp [List.getD_eq_getElem?_getD, h]
theorem contains_snoc_f {xs : List Int} {x : Int} {t : Nat} (h : t < xs.length) (h1 : (xs.take t).contains x = false) (h2 : (xs.getD t 0 == x) = false) : (xs.take (t + 1)).contains x = false := by
  rw [← take_snoc h]
  have h2' : ¬ x = xs.getD t 0 := fun e => by rw [e] at h2; simp at h2
  rw [List.contains_eq_mem] at h1 ⊢
  simp only [decide_eq_false_iff_not, List.mem_append, List.mem_singleton, not_or] at h1 ⊢
  exact ⟨h1, h2'⟩
theorem contains_at {xs : List Int} {x : Int} {t : Nat} (h : t < xs.length) (h2 : (xs.getD t 0 == x) = true) : xs.contains x = true := by
  have e : xs.getD t 0 = x := by simpa using h2
  rw [List.contains_eq_mem, decide_eq_true_iff, ← e, List.getD_eq_getElem?_getD, List.getElem?_eq_getElem h]
  exact List.getElem_mem h
def hasI (xs : List Int) (x : Int) : Bool := xs.contains x
set_option maxRecDepth 100000 in
theorem l1HasInt_any (A : Option Addr) (n c : Nat) (xs : List Int) (x : Int) (w : World) (h : Rd w 1 A n (xs.map (Value.int .i64))) (hl : xs.length = n) (hn : n ≤ 1099511627776) :
    Calls Try.prog 18 #[.slice A n c, .int .i64 x] w fun e w' => e = .returned (.bool (hasI xs x)) ∧ w = w' := by
  have H := Lib.hid h
  have HL := Lib.hid hl
  clear h hl
  go_enter Try.func18, Try.ntmps18
  go_wp2
  go_loop [5] (fun i => ∃ t : Nat, t ≤ n ∧ i = .int .i64 t ∧ (xs.take t).contains x = false) (fun i => n - (intOf i).toNat)
  case atStart => exact ⟨0, Nat.zero_le _, rfl, by simp⟩
  case round =>
    obtain ⟨t, ht, rfl, hno⟩ := hrel
    have HN := Lib.hid hno
    clear hno
    by_cases hlt : t < n
    · obtain ⟨b, off, rfl, _, hc⟩ := H.out.2 (by omega)
      have q0 := hc t _ (ints_at xs t (by rw [HL.out]; exact hlt))
      clear hc
      obtain ⟨y, hy⟩ : ∃ y, y = xs.getD t 0 := ⟨_, rfl⟩
      rw [← hy] at q0
      have HY := Lib.hid hy
      clear hy
      cases he : (y == x)
      · go_wp2
        go_round
        case rel => exact ⟨t + 1, by omega, by go_num, contains_snoc_f (by rw [HL.out]; exact hlt) HN.out (by rw [← HY.out]; exact he)⟩
        case measure => simp [intOf]; omega
      · have HF : Hid (hasI xs x = true) := Lib.hid (contains_at (by rw [HL.out]; exact hlt) (by rw [← HY.out]; exact he))
        go_wp2
        go_ret
        exact ⟨by rw [HF.out]; rfl, rfl⟩
    · obtain rfl : t = n := by omega
      have HF : Hid (hasI xs x = false) := by
        have h := HN.out
        rw [List.take_of_length_le (by rw [HL.out]; exact Nat.le_refl _)] at h
        exact h
      go_wp2
      go_ret
      exact ⟨by rw [HF.out]; rfl, rfl⟩
theorem info_int : (Try.prog.info? 3).map (fun i => (i.zero, i.size, i.bytes)) = some (some (.int .i64 0), 1, 8) := by kernel_rfl
set_option maxRecDepth 100000 in
set_option maxHeartbeats 1000000 in
theorem GateQubits_spec (k a b c : Int) (w : World) : Calls Try.prog 16 #[.agg #[.int .i64 k, .int .i64 a, .int .i64 b, .int .i64 c]] w
    (RetRow 3 1 w (ar k) (([a, b, c].take (ar k)).map (Value.int .i64))) := by
  have har := ar_le k
  obtain ⟨m, hm⟩ : ∃ m, m = ar k := ⟨_, rfl⟩
  have HM := Lib.hid hm
  rw [← hm] at har ⊢
  clear hm
  obtain ⟨i0, hi, hz0, hz1, hz2⟩ := info_parts info_int
  have hm4 : m = 0 ∨ m = 1 ∨ m = 2 ∨ m = 3 := by omega
  clear har
  rcases hm4 with rfl | rfl | rfl | rfl
  · go_enter Try.func16, Try.ntmps16
    go_wp2_with fail
    refine (Arity_spec _ _).mono ?_
    rintro e w' ⟨rfl, rfl⟩
    rw [← HM.out]
    obtain ⟨w0, hw0⟩ : ∃ w0, w0 = ((w.alloc (.cells #[.int .i64 k, .int .i64 a, .int .i64 b, .int .i64 c] 30)).alloc (.cells #[.int .i64 a, .int .i64 b, .int .i64 c] 3)).alloc (.cells #[] 3) := ⟨_, rfl⟩
    rw [← hw0]
    have X1 : Hid (w0.heap[w.heap.size + 1]? = some (.cells #[.int .i64 a, .int .i64 b, .int .i64 c] 3 (0, 0))) := by rw [hw0]; exact boxed3_1 _ _ _ _
    have hown : w0.ownsRow w.heap.size 3 1 (.slice (some ⟨w.heap.size + 2, 0, none⟩) 0 0) 0 [] := ⟨rfl, .inr ⟨_, 0, #[], rfl, by omega, by rw [hw0]; exact boxed3_2 _ _ _ _, by decide, by decide, rfl, rfl⟩⟩
    have b0 : Below w.heap.size w w0 := by rw [hw0]; exact (by repeat (first | exact Below.refl _ _ | assumption | (refine Below.trans ?_ (Below.mono (by assumption) (by first | omega | (simp; done) | (simp; omega)))) | (with_reducible refine Below.drew ?_) | (with_reducible refine Below.alloc ?_ (by first | omega | (simp; done) | (simp; omega)) _) | (with_reducible refine Below.setCell ?_ (by first | omega | (simp; done) | (simp; omega)) _)))
    have s0 : w.heap.size + 3 = w0.heap.size := by rw [hw0]; simp
    have S0 := Lib.hid s0
    clear s0 hw0
    go_wp2_with (at_builtin; refine wpList_append_own _ rfl _ _ 40 rfl w.heap.size 3 i0 _ 1 8 Try.underlying40 hi hz0 hz1 hz2 rfl (by decide) _ _ _ rfl hown ⟨w.heap.size + 1, 0, none⟩ 0 3 [] rfl rfl ?c1 ?c2 ?c3 ?c4 ?c5 ?_)
    case c1 => exact cells_row X1.out [.int .i64 a, .int .i64 b, .int .i64 c] rfl
    case c2 => exact fun u hu => List.all_eq_true.1 (by rfl) u hu
    case c3 => decide
    case c4 => decide
    case c5 => have := S0.out; omega
    intro v' w3 hown' hgrow _
    clear hown
    go_wp2
    go_ret
    exact ⟨v', rfl, hown', b0.grown hgrow (by have := S0.out; omega) (by intro q hq; simp [Value.ownBlock] at hq; omega), by have := hgrow.size; have := S0.out; omega⟩
  · go_enter Try.func16, Try.ntmps16
    go_wp2_with fail
    refine (Arity_spec _ _).mono ?_
    rintro e w' ⟨rfl, rfl⟩
    rw [← HM.out]
    obtain ⟨w0, hw0⟩ : ∃ w0, w0 = ((w.alloc (.cells #[.int .i64 k, .int .i64 a, .int .i64 b, .int .i64 c] 30)).alloc (.cells #[.int .i64 a, .int .i64 b, .int .i64 c] 3)).alloc (.cells #[] 3) := ⟨_, rfl⟩
    rw [← hw0]
    have X1 : Hid (w0.heap[w.heap.size + 1]? = some (.cells #[.int .i64 a, .int .i64 b, .int .i64 c] 3 (0, 0))) := by rw [hw0]; exact boxed3_1 _ _ _ _
    have hown : w0.ownsRow w.heap.size 3 1 (.slice (some ⟨w.heap.size + 2, 0, none⟩) 0 0) 0 [] := ⟨rfl, .inr ⟨_, 0, #[], rfl, by omega, by rw [hw0]; exact boxed3_2 _ _ _ _, by decide, by decide, rfl, rfl⟩⟩
    have b0 : Below w.heap.size w w0 := by rw [hw0]; exact (by repeat (first | exact Below.refl _ _ | assumption | (refine Below.trans ?_ (Below.mono (by assumption) (by first | omega | (simp; done) | (simp; omega)))) | (with_reducible refine Below.drew ?_) | (with_reducible refine Below.alloc ?_ (by first | omega | (simp; done) | (simp; omega)) _) | (with_reducible refine Below.setCell ?_ (by first | omega | (simp; done) | (simp; omega)) _)))
    have s0 : w.heap.size + 3 = w0.heap.size := by rw [hw0]; simp
    have S0 := Lib.hid s0
    clear s0 hw0
    go_wp2_with (at_builtin; refine wpList_append_own _ rfl _ _ 40 rfl w.heap.size 3 i0 _ 1 8 Try.underlying40 hi hz0 hz1 hz2 rfl (by decide) _ _ _ rfl hown ⟨w.heap.size + 1, 0, none⟩ 1 3 [.int .i64 a] rfl rfl ?c1 ?c2 ?c3 ?c4 ?c5 ?_)
    case c1 => exact cells_row X1.out [.int .i64 b, .int .i64 c] rfl
    case c2 => exact fun u hu => List.all_eq_true.1 (by rfl) u hu
    case c3 => decide
    case c4 => decide
    case c5 => have := S0.out; omega
    intro v' w3 hown' hgrow _
    clear hown
    go_wp2
    go_ret
    exact ⟨v', rfl, hown', b0.grown hgrow (by have := S0.out; omega) (by intro q hq; simp [Value.ownBlock] at hq; omega), by have := hgrow.size; have := S0.out; omega⟩
  · go_enter Try.func16, Try.ntmps16
    go_wp2_with fail
    refine (Arity_spec _ _).mono ?_
    rintro e w' ⟨rfl, rfl⟩
    rw [← HM.out]
    obtain ⟨w0, hw0⟩ : ∃ w0, w0 = ((w.alloc (.cells #[.int .i64 k, .int .i64 a, .int .i64 b, .int .i64 c] 30)).alloc (.cells #[.int .i64 a, .int .i64 b, .int .i64 c] 3)).alloc (.cells #[] 3) := ⟨_, rfl⟩
    rw [← hw0]
    have X1 : Hid (w0.heap[w.heap.size + 1]? = some (.cells #[.int .i64 a, .int .i64 b, .int .i64 c] 3 (0, 0))) := by rw [hw0]; exact boxed3_1 _ _ _ _
    have hown : w0.ownsRow w.heap.size 3 1 (.slice (some ⟨w.heap.size + 2, 0, none⟩) 0 0) 0 [] := ⟨rfl, .inr ⟨_, 0, #[], rfl, by omega, by rw [hw0]; exact boxed3_2 _ _ _ _, by decide, by decide, rfl, rfl⟩⟩
    have b0 : Below w.heap.size w w0 := by rw [hw0]; exact (by repeat (first | exact Below.refl _ _ | assumption | (refine Below.trans ?_ (Below.mono (by assumption) (by first | omega | (simp; done) | (simp; omega)))) | (with_reducible refine Below.drew ?_) | (with_reducible refine Below.alloc ?_ (by first | omega | (simp; done) | (simp; omega)) _) | (with_reducible refine Below.setCell ?_ (by first | omega | (simp; done) | (simp; omega)) _)))
    have s0 : w.heap.size + 3 = w0.heap.size := by rw [hw0]; simp
    have S0 := Lib.hid s0
    clear s0 hw0
    go_wp2_with (at_builtin; refine wpList_append_own _ rfl _ _ 40 rfl w.heap.size 3 i0 _ 1 8 Try.underlying40 hi hz0 hz1 hz2 rfl (by decide) _ _ _ rfl hown ⟨w.heap.size + 1, 0, none⟩ 2 3 [.int .i64 a, .int .i64 b] rfl rfl ?c1 ?c2 ?c3 ?c4 ?c5 ?_)
    case c1 => exact cells_row X1.out [.int .i64 c] rfl
    case c2 => exact fun u hu => List.all_eq_true.1 (by rfl) u hu
    case c3 => decide
    case c4 => decide
    case c5 => have := S0.out; omega
    intro v' w3 hown' hgrow _
    clear hown
    go_wp2
    go_ret
    exact ⟨v', rfl, hown', b0.grown hgrow (by have := S0.out; omega) (by intro q hq; simp [Value.ownBlock] at hq; omega), by have := hgrow.size; have := S0.out; omega⟩
  · go_enter Try.func16, Try.ntmps16
    go_wp2_with fail
    refine (Arity_spec _ _).mono ?_
    rintro e w' ⟨rfl, rfl⟩
    rw [← HM.out]
    obtain ⟨w0, hw0⟩ : ∃ w0, w0 = ((w.alloc (.cells #[.int .i64 k, .int .i64 a, .int .i64 b, .int .i64 c] 30)).alloc (.cells #[.int .i64 a, .int .i64 b, .int .i64 c] 3)).alloc (.cells #[] 3) := ⟨_, rfl⟩
    rw [← hw0]
    have X1 : Hid (w0.heap[w.heap.size + 1]? = some (.cells #[.int .i64 a, .int .i64 b, .int .i64 c] 3 (0, 0))) := by rw [hw0]; exact boxed3_1 _ _ _ _
    have hown : w0.ownsRow w.heap.size 3 1 (.slice (some ⟨w.heap.size + 2, 0, none⟩) 0 0) 0 [] := ⟨rfl, .inr ⟨_, 0, #[], rfl, by omega, by rw [hw0]; exact boxed3_2 _ _ _ _, by decide, by decide, rfl, rfl⟩⟩
    have b0 : Below w.heap.size w w0 := by rw [hw0]; exact (by repeat (first | exact Below.refl _ _ | assumption | (refine Below.trans ?_ (Below.mono (by assumption) (by first | omega | (simp; done) | (simp; omega)))) | (with_reducible refine Below.drew ?_) | (with_reducible refine Below.alloc ?_ (by first | omega | (simp; done) | (simp; omega)) _) | (with_reducible refine Below.setCell ?_ (by first | omega | (simp; done) | (simp; omega)) _)))
    have s0 : w.heap.size + 3 = w0.heap.size := by rw [hw0]; simp
    have S0 := Lib.hid s0
    clear s0 hw0
    go_wp2_with (at_builtin; refine wpList_append_own _ rfl _ _ 40 rfl w.heap.size 3 i0 _ 1 8 Try.underlying40 hi hz0 hz1 hz2 rfl (by decide) _ _ _ rfl hown ⟨w.heap.size + 1, 0, none⟩ 3 3 [.int .i64 a, .int .i64 b, .int .i64 c] rfl rfl ?c1 ?c2 ?c3 ?c4 ?c5 ?_)
    case c1 => exact cells_row X1.out [] rfl
    case c2 => exact fun u hu => List.all_eq_true.1 (by rfl) u hu
    case c3 => decide
    case c4 => decide
    case c5 => have := S0.out; omega
    intro v' w3 hown' hgrow _
    clear hown
    go_wp2
    go_ret
    exact ⟨v', rfl, hown', b0.grown hgrow (by have := S0.out; omega) (by intro q hq; simp [Value.ownBlock] at hq; omega), by have := hgrow.size; have := S0.out; omega⟩
set_option maxRecDepth 100000 in
set_option maxHeartbeats 2000000 in
theorem IsValidGate_spec_in (k a b c n : Int) (w : World) (hn : inB n 1 4 = true) : Calls Try.prog 9 #[.agg #[.int .i64 k, .int .i64 a, .int .i64 b, .int .i64 c], .int .i64 n] w fun e w' =>
    e = .returned (.bool (validG ⟨k, a, b, c⟩ n)) ∧ Below w.heap.size w w' ∧ w.heap.size ≤ w'.heap.size := by
  have har := ar_le k
  have hnn := inB_iff.1 hn
  go_enter Try.func9, Try.ntmps9
  go_wp2_with fail
  obtain ⟨w0, hw0⟩ : ∃ w0, w0 = w.alloc (.cells #[.int .i64 k, .int .i64 a, .int .i64 b, .int .i64 c] 30) := ⟨_, rfl⟩
  rw [← hw0]
  have X0 : Hid (w0.heap[w.heap.size]? = some (.cells #[.int .i64 k, .int .i64 a, .int .i64 b, .int .i64 c] 30 (0, 0))) := by rw [hw0]; exact boxed1_0 _ _
  have b0 : Below w.heap.size w w0 := by rw [hw0]; exact (by repeat (first | exact Below.refl _ _ | assumption | (refine Below.trans ?_ (Below.mono (by assumption) (by first | omega | (simp; done) | (simp; omega)))) | (with_reducible refine Below.drew ?_) | (with_reducible refine Below.alloc ?_ (by first | omega | (simp; done) | (simp; omega)) _) | (with_reducible refine Below.setCell ?_ (by first | omega | (simp; done) | (simp; omega)) _)))
  have s0 : w.heap.size + 1 = w0.heap.size := by rw [hw0]; simp
  have S0 := Lib.hid s0
  clear hw0 s0
  refine (GateQubits_spec _ _ _ _ _).mono ?_
  rintro e w1 ⟨v1, rfl, own1, b1, s1⟩
  obtain ⟨A1, c1, rfl, hc1, hc1m, r1⟩ := rd_of_own own1
  obtain ⟨p0, p1, p2, p3⟩ := boxcells4 (lay := b1) X0.out
  go_wp2_with fail
  clear p0 p1 p2 p3
  obtain ⟨w2, hw2⟩ : ∃ w2, w2 = w1.alloc (.cells #[.int .i64 a, .int .i64 b, .int .i64 c] 3) := ⟨_, rfl⟩
  rw [← hw2]
  have X2 : Hid (w2.heap[w1.heap.size]? = some (.cells #[.int .i64 a, .int .i64 b, .int .i64 c] 3 (0, 0))) := by rw [hw2]; exact boxed1_0 _ _
  have b2 : Below w1.heap.size w1 w2 := by rw [hw2]; exact (by repeat (first | exact Below.refl _ _ | assumption | (refine Below.trans ?_ (Below.mono (by assumption) (by first | omega | (simp; done) | (simp; omega)))) | (with_reducible refine Below.drew ?_) | (with_reducible refine Below.alloc ?_ (by first | omega | (simp; done) | (simp; omega)) _) | (with_reducible refine Below.setCell ?_ (by first | omega | (simp; done) | (simp; omega)) _)))
  have s2 : w1.heap.size + 1 = w2.heap.size := by rw [hw2]; simp
  have S2 := Lib.hid s2
  have R1 := Lib.hid (r1.below b2)
  have HC := Lib.hid hc1m
  clear hw2 s2 r1 own1
  go_loopw [7] (fun i wr => ∃ t : Nat, t ≤ 3 ∧ i = .int .i64 t ∧ vupto (ar k) n [a, b, c] t = true ∧ Below w2.heap.size w2 wr) (fun i _ => 3 - (intOf i).toNat)
  case atStart => exact ⟨0, by omega, rfl, rfl, Below.refl _ _⟩
  case round =>
    obtain ⟨t, ht, rfl, hv, hbel⟩ := hrel
    have HV := Lib.hid hv
    clear hv
    by_cases hlt : t < 3
    · obtain ⟨q, hq⟩ : ∃ q, q = [a, b, c].getD t 0 := ⟨_, rfl⟩
      have q0 : wr.cell? ⟨w1.heap.size, t, none⟩ = some (.int .i64 q) := (hbel.cell (by have := S2.out; simp; omega)).trans (cell_at X2.out (by
        rw [hq]
        match t, hlt with
        | 0, _ => rfl
        | 1, _ => rfl
        | 2, _ => rfl
        | _ + 3, h => omega))
      have HQ := Lib.hid hq
      clear hq
      have hlt' : (t : Int) < 3 := by omega
      by_cases hmt : ar k ≤ t
      · have d1 : decide (ar k ≤ t) = true := by simpa using hmt
        have d2 : decide (t < ar k) = false := by simp; omega
        cases hz : (q == 0)
        · have hz' : (q != 0) = true := by rw [bne, hz]; rfl
          have HF := Lib.hid (validG_f (g := ⟨k, a, b, c⟩) (n := n) (t := t) (vstep_hi_f hmt (by rw [← hz, HQ.out]; rfl)) hlt)
          go_wp2_with fail
          go_quiet (fail)
          go_wp2_with fail
          go_ret
          exact ⟨by rw [HF.out]; rfl, ((b0.trans (b1.mono (by have := S0.out; omega))).trans (b2.mono (by have := S0.out; omega))).trans (below_drewN (hbel.mono (by have := S0.out; have := S2.out; omega)) _), by have := hbel.size; have := S0.out; have := S2.out; simp; omega⟩
        · have hz' : (q != 0) = false := by rw [bne, hz]; rfl
          go_wp2_with fail
          go_quiet (fail)
          go_wp2_with fail
          go_roundw
          case rel => exact ⟨t + 1, by omega, by go_num, by simp [vupto, HV.out]; exact vstep_hi_t hmt (by rw [← hz, HQ.out]), below_drewN hbel _⟩
          case measure => simp [intOf]; omega
      · have hmt' : t < ar k := by omega
        have d1 : decide (ar k ≤ t) = false := by simp; omega
        have d2 : decide (t < ar k) = true := by simp; omega
        obtain ⟨b', off', rfl, hl', _⟩ := R1.out.2 (by omega)
        have RT : Hid (Rd wr 1 (some ⟨b', off', none⟩) t (([a, b, c].take t).map (Value.int .i64))) := by
          have h := (R1.out.below hbel).take (t := t) (by omega)
          rw [← List.map_take, List.take_take, show min t (ar k) = t from by omega] at h
          exact h
        have HL : Hid (([a, b, c].take t).length = t) := by
          show ([a, b, c].take t).length = t
          rw [List.length_take]; simp; omega
        have tc : t ≤ c1 := by omega
        cases h1 : inB q 0 (n - 1)
        · have HF := Lib.hid (validG_f (g := ⟨k, a, b, c⟩) (n := n) (t := t) (vstep_in_f hmt' (by rw [← h1, HQ.out]; rfl)) hlt)
          clear hmt
          go_wp2_with fail
          go_quiet (first | (go_at_call 17; exact quiet_left (l1In_any _ _ _ _)) | (go_at_call 18; exact quiet_left (l1HasInt_any _ _ _ ([a, b, c].take t) _ _ (RT.out.drewN _) HL.out (by omega))))
          go_wp2_with fail
          go_ret
          exact ⟨by rw [HF.out]; rfl, ((b0.trans (b1.mono (by have := S0.out; omega))).trans (b2.mono (by have := S0.out; omega))).trans (below_drewN (hbel.mono (by have := S0.out; have := S2.out; omega)) _), by have := hbel.size; have := S0.out; have := S2.out; simp; omega⟩
        · cases h2 : hasI ([a, b, c].take t) q
          · have HV2 := Lib.hid (vstep_lo_t (n := n) (qs := [a, b, c]) hmt' (by rw [← h1, HQ.out]) (by rw [← h2, HQ.out]; rfl))
            clear hmt
            go_wp2_with fail
            go_quiet (first | (go_at_call 17; exact quiet_left (l1In_any _ _ _ _)) | (go_at_call 18; exact quiet_left (l1HasInt_any _ _ _ ([a, b, c].take t) _ _ (RT.out.drewN _) HL.out (by omega))))
            go_wp2_with fail
            go_roundw
            case rel => exact ⟨t + 1, by omega, by go_num, by simp [vupto, HV.out, HV2.out], below_drewN hbel _⟩
            case measure => simp [intOf]; omega
          · have HF := Lib.hid (validG_f (g := ⟨k, a, b, c⟩) (n := n) (t := t) (vstep_seen_f hmt' (by rw [← h2, HQ.out]; rfl)) hlt)
            clear hmt
            go_wp2_with fail
            go_quiet (first | (go_at_call 17; exact quiet_left (l1In_any _ _ _ _)) | (go_at_call 18; exact quiet_left (l1HasInt_any _ _ _ ([a, b, c].take t) _ _ (RT.out.drewN _) HL.out (by omega))))
            go_wp2_with fail
            go_ret
            exact ⟨by rw [HF.out]; rfl, ((b0.trans (b1.mono (by have := S0.out; omega))).trans (b2.mono (by have := S0.out; omega))).trans (below_drewN (hbel.mono (by have := S0.out; have := S2.out; omega)) _), by have := hbel.size; have := S0.out; have := S2.out; simp; omega⟩
    · obtain rfl : t = 3 := by omega
      by_cases hk : ar k = 0
      · have HF := Lib.hid (validG_k (g := ⟨k, a, b, c⟩) (n := n) hk)
        have hk' : decide (0 < ar k) = false := by simp [hk]
        have HK := Lib.hid hk
        clear hk
        go_wp2_with (go_at_call 17; refine (l1In_any _ _ _ _).mono ?_; rintro e w' ⟨rfl, rfl⟩)
        go_ret
        exact ⟨by rw [HF.out]; rfl, ((b0.trans (b1.mono (by have := S0.out; omega))).trans (b2.mono (by have := S0.out; omega))).trans (hbel.mono (by have := S0.out; have := S2.out; omega)), by have := hbel.size; have := S0.out; have := S2.out; omega⟩
      · have HF := Lib.hid (validG_t (g := ⟨k, a, b, c⟩) hn hk HV.out)
        have hk' : decide (0 < ar k) = true := by simp; omega
        have HK := Lib.hid hk
        clear hk
        go_wp2_with (go_at_call 17; refine (l1In_any _ _ _ _).mono ?_; rintro e w' ⟨rfl, rfl⟩)
        go_ret
        exact ⟨by rw [HF.out]; rfl, ((b0.trans (b1.mono (by have := S0.out; omega))).trans (b2.mono (by have := S0.out; omega))).trans (hbel.mono (by have := S0.out; have := S2.out; omega)), by have := hbel.size; have := S0.out; have := S2.out; omega⟩
set_option maxRecDepth 100000 in
set_option maxHeartbeats 2000000 in
theorem IsValidGate_spec_out (k a b c n : Int) (w : World) (hn : inB n 1 4 = false) : Calls Try.prog 9 #[.agg #[.int .i64 k, .int .i64 a, .int .i64 b, .int .i64 c], .int .i64 n] w fun e w' =>
    e = .returned (.bool (validG ⟨k, a, b, c⟩ n)) ∧ Below w.heap.size w w' ∧ w.heap.size ≤ w'.heap.size := by
  have har := ar_le k
  have HF := Lib.hid (validG_n (g := ⟨k, a, b, c⟩) hn)
  go_enter Try.func9, Try.ntmps9
  go_wp2_with fail
  obtain ⟨w0, hw0⟩ : ∃ w0, w0 = w.alloc (.cells #[.int .i64 k, .int .i64 a, .int .i64 b, .int .i64 c] 30) := ⟨_, rfl⟩
  rw [← hw0]
  have X0 : Hid (w0.heap[w.heap.size]? = some (.cells #[.int .i64 k, .int .i64 a, .int .i64 b, .int .i64 c] 30 (0, 0))) := by rw [hw0]; exact boxed1_0 _ _
  have b0 : Below w.heap.size w w0 := by rw [hw0]; exact (by repeat (first | exact Below.refl _ _ | assumption | (refine Below.trans ?_ (Below.mono (by assumption) (by first | omega | (simp; done) | (simp; omega)))) | (with_reducible refine Below.drew ?_) | (with_reducible refine Below.alloc ?_ (by first | omega | (simp; done) | (simp; omega)) _) | (with_reducible refine Below.setCell ?_ (by first | omega | (simp; done) | (simp; omega)) _)))
  have s0 : w.heap.size + 1 = w0.heap.size := by rw [hw0]; simp
  have S0 := Lib.hid s0
  clear hw0 s0
  refine (GateQubits_spec _ _ _ _ _).mono ?_
  rintro e w1 ⟨v1, rfl, own1, b1, s1⟩
  obtain ⟨A1, c1, rfl, hc1, hc1m, r1⟩ := rd_of_own own1
  obtain ⟨p0, p1, p2, p3⟩ := boxcells4 (lay := b1) X0.out
  go_wp2_with fail
  clear p0 p1 p2 p3
  obtain ⟨w2, hw2⟩ : ∃ w2, w2 = w1.alloc (.cells #[.int .i64 a, .int .i64 b, .int .i64 c] 3) := ⟨_, rfl⟩
  rw [← hw2]
  have X2 : Hid (w2.heap[w1.heap.size]? = some (.cells #[.int .i64 a, .int .i64 b, .int .i64 c] 3 (0, 0))) := by rw [hw2]; exact boxed1_0 _ _
  have b2 : Below w1.heap.size w1 w2 := by rw [hw2]; exact (by repeat (first | exact Below.refl _ _ | assumption | (refine Below.trans ?_ (Below.mono (by assumption) (by first | omega | (simp; done) | (simp; omega)))) | (with_reducible refine Below.drew ?_) | (with_reducible refine Below.alloc ?_ (by first | omega | (simp; done) | (simp; omega)) _) | (with_reducible refine Below.setCell ?_ (by first | omega | (simp; done) | (simp; omega)) _)))
  have s2 : w1.heap.size + 1 = w2.heap.size := by rw [hw2]; simp
  have S2 := Lib.hid s2
  have R1 := Lib.hid (r1.below b2)
  have HC := Lib.hid hc1m
  clear hw2 s2 r1 own1
  go_loopw [7] (fun i wr => ∃ t : Nat, t ≤ 3 ∧ i = .int .i64 t ∧ Below w2.heap.size w2 wr) (fun i _ => 3 - (intOf i).toNat)
  case atStart => exact ⟨0, by omega, rfl, Below.refl _ _⟩
  case round =>
    obtain ⟨t, ht, rfl, hbel⟩ := hrel
    by_cases hlt : t < 3
    · obtain ⟨q, hq⟩ : ∃ q, q = [a, b, c].getD t 0 := ⟨_, rfl⟩
      have q0 : wr.cell? ⟨w1.heap.size, t, none⟩ = some (.int .i64 q) := (hbel.cell (by have := S2.out; simp; omega)).trans (cell_at X2.out (by
        rw [hq]
        match t, hlt with
        | 0, _ => rfl
        | 1, _ => rfl
        | 2, _ => rfl
        | _ + 3, h => omega))
      have HQ := Lib.hid hq
      clear hq
      have hlt' : (t : Int) < 3 := by omega
      by_cases hmt : ar k ≤ t
      · have d1 : decide (ar k ≤ t) = true := by simpa using hmt
        have d2 : decide (t < ar k) = false := by simp; omega
        cases hz : (q == 0)
        · have hz' : (q != 0) = true := by rw [bne, hz]; rfl
          go_wp2_with fail
          go_quiet (fail)
          go_wp2_with fail
          go_ret
          exact ⟨by rw [HF.out]; rfl, ((b0.trans (b1.mono (by have := S0.out; omega))).trans (b2.mono (by have := S0.out; omega))).trans (below_drewN (hbel.mono (by have := S0.out; have := S2.out; omega)) _), by have := hbel.size; have := S0.out; have := S2.out; simp; omega⟩
        · have hz' : (q != 0) = false := by rw [bne, hz]; rfl
          go_wp2_with fail
          go_quiet (fail)
          go_wp2_with fail
          go_roundw
          case rel => exact ⟨t + 1, by omega, by go_num, below_drewN hbel _⟩
          case measure => simp [intOf]; omega
      · have hmt' : t < ar k := by omega
        have d1 : decide (ar k ≤ t) = false := by simp; omega
        have d2 : decide (t < ar k) = true := by simp; omega
        obtain ⟨b', off', rfl, hl', _⟩ := R1.out.2 (by omega)
        have RT : Hid (Rd wr 1 (some ⟨b', off', none⟩) t (([a, b, c].take t).map (Value.int .i64))) := by
          have h := (R1.out.below hbel).take (t := t) (by omega)
          rw [← List.map_take, List.take_take, show min t (ar k) = t from by omega] at h
          exact h
        have HL : Hid (([a, b, c].take t).length = t) := by
          show ([a, b, c].take t).length = t
          rw [List.length_take]; simp; omega
        have tc : t ≤ c1 := by omega
        cases h1 : inB q 0 (wrap64 (n - 1))
        · clear hmt
          go_wp2_with fail
          go_quiet (first | (go_at_call 17; exact quiet_left (l1In_any _ _ _ _)) | (go_at_call 18; exact quiet_left (l1HasInt_any _ _ _ ([a, b, c].take t) _ _ (RT.out.drewN _) HL.out (by omega))))
          go_wp2_with fail
          go_ret
          exact ⟨by rw [HF.out]; rfl, ((b0.trans (b1.mono (by have := S0.out; omega))).trans (b2.mono (by have := S0.out; omega))).trans (below_drewN (hbel.mono (by have := S0.out; have := S2.out; omega)) _), by have := hbel.size; have := S0.out; have := S2.out; simp; omega⟩
        · cases h2 : hasI ([a, b, c].take t) q
          · clear hmt
            go_wp2_with fail
            go_quiet (first | (go_at_call 17; exact quiet_left (l1In_any _ _ _ _)) | (go_at_call 18; exact quiet_left (l1HasInt_any _ _ _ ([a, b, c].take t) _ _ (RT.out.drewN _) HL.out (by omega))))
            go_wp2_with fail
            go_roundw
            case rel => exact ⟨t + 1, by omega, by go_num, below_drewN hbel _⟩
            case measure => simp [intOf]; omega
          · clear hmt
            go_wp2_with fail
            go_quiet (first | (go_at_call 17; exact quiet_left (l1In_any _ _ _ _)) | (go_at_call 18; exact quiet_left (l1HasInt_any _ _ _ ([a, b, c].take t) _ _ (RT.out.drewN _) HL.out (by omega))))
            go_wp2_with fail
            go_ret
            exact ⟨by rw [HF.out]; rfl, ((b0.trans (b1.mono (by have := S0.out; omega))).trans (b2.mono (by have := S0.out; omega))).trans (below_drewN (hbel.mono (by have := S0.out; have := S2.out; omega)) _), by have := hbel.size; have := S0.out; have := S2.out; simp; omega⟩
    · obtain rfl : t = 3 := by omega
      by_cases hk : ar k = 0
      · have hk' : decide (0 < ar k) = false := by simp [hk]
        have HK := Lib.hid hk
        clear hk
        go_wp2_with (go_at_call 17; refine (l1In_any _ _ _ _).mono ?_; rintro e w' ⟨rfl, rfl⟩)
        go_ret
        exact ⟨by rw [HF.out]; rfl, ((b0.trans (b1.mono (by have := S0.out; omega))).trans (b2.mono (by have := S0.out; omega))).trans (hbel.mono (by have := S0.out; have := S2.out; omega)), by have := hbel.size; have := S0.out; have := S2.out; omega⟩
      · have hk' : decide (0 < ar k) = true := by simp; omega
        have HK := Lib.hid hk
        clear hk
        go_wp2_with (go_at_call 17; refine (l1In_any _ _ _ _).mono ?_; rintro e w' ⟨rfl, rfl⟩)
        go_ret
        exact ⟨by rw [HF.out]; rfl, ((b0.trans (b1.mono (by have := S0.out; omega))).trans (b2.mono (by have := S0.out; omega))).trans (hbel.mono (by have := S0.out; have := S2.out; omega)), by have := hbel.size; have := S0.out; have := S2.out; omega⟩
theorem IsValidGate_spec (k a b c n : Int) (w : World) : Calls Try.prog 9 #[.agg #[.int .i64 k, .int .i64 a, .int .i64 b, .int .i64 c], .int .i64 n] w fun e w' =>
    e = .returned (.bool (validG ⟨k, a, b, c⟩ n)) ∧ Below w.heap.size w w' ∧ w.heap.size ≤ w'.heap.size := by
  cases hn : inB n 1 4
  · exact IsValidGate_spec_out k a b c n w hn
  · exact IsValidGate_spec_in k a b c n w hn
end Go.Proofs.Ytgjpicekdbemiaa
