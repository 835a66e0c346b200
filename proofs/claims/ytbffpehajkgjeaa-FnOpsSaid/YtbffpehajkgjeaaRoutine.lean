/- Routines: copying, comparing, counting gates; the program's functions and the reference's compute the same. -/
import Derived.Test.YtbffpehajkgjeaaEqOps
namespace Go.Proofs.Ytbffpehajkgjeaa
open Go.RowKit
set_option linter.unusedVariables false

/-- A call that returns a routine whose list is a row of the call's own. -/
def RetRt (w : World) (N I B : Int) (n : Nat) (xs : List Value) (e : Ending) (w' : World) : Prop :=
  ∃ A c, e = .returned (.agg #[.int .i64 N, .int .i64 I, .int .i64 B, .slice A n c]) ∧ w'.ownsRow w.heap.size 56 8 (.slice A n c) n xs ∧ Below w.heap.size w w' ∧ w.heap.size ≤ w'.heap.size
theorem below_of_drew {w w' : World} (h : Below w.drew.heap.size w.drew w') : Below w.heap.size w w' := ⟨h.os, h.tape, h.output, h.size, h.block⟩
theorem free4 {w w' : World} {b : Nat} {cs : Array Value} {t : TypeId} (lay : Below w'.heap.size w' w) (h : w'.heap[b]? = some (.cells cs t (0, 0))) (j : Nat) : w.frozen? ⟨b, j, none⟩ = false := by
  have h' : w.heap[b]? = some (.cells cs t (0, 0)) := (lay.block b (lt_of_block h)).trans h
  simp [World.frozen?, h']
theorem own_base {w : World} {B B' e size n : Nat} {v : Value} {xs : List Value} (h : w.ownsRow B e size v n xs) (hB : B' ≤ B) : w.ownsRow B' e size v n xs := by
  refine ⟨h.1, ?_⟩
  rcases h.2 with h2 | ⟨g, cap, cur, h1, h2, h3⟩
  · exact .inl h2
  · exact .inr ⟨g, cap, cur, h1, Nat.le_trans hB h2, h3⟩
set_option maxRecDepth 100000 in
set_option maxHeartbeats 1000000 in
theorem toRoutine_any (N I B : Int) (A : Option Addr) (n c : Nat) (l : List Opt) (w : World) (h : Rd w 8 A n (l.flatMap ocells)) (hl : l.length = n) (hn : n ≤ 1099511627776) :
    Calls Try.prog 15 #[.agg #[.int .i64 N, .int .i64 I, .int .i64 B, .slice A n c]] w (RetRt w N I B n (l.flatMap ocells)) := by
  have H := Lib.hid h
  have HL := Lib.hid hl
  clear h hl
  go_enter Try.func15, Try.ntmps15
  go_wp2_with fail
  obtain ⟨w0, hw0⟩ : ∃ w0, w0 = ((w.alloc (.cells #[.int .i64 N, .int .i64 I, .int .i64 B, .slice A n c] 24)).alloc (.cells #[.int .i64 0, .int .i64 0, .int .i64 0, .slice none 0 0] 29)).alloc (.cells #[.int .i64 N, .int .i64 I, .int .i64 B, .slice none 0 0] 29) := ⟨_, rfl⟩
  rw [← hw0]
  have x1 : w0.heap[w.heap.size + 1]? = some (.cells #[.int .i64 0, .int .i64 0, .int .i64 0, .slice none 0 0] 29 (0, 0)) := by rw [hw0]; exact boxed3_1 _ _ _ _
  have x2 : w0.heap[w.heap.size + 2]? = some (.cells #[.int .i64 N, .int .i64 I, .int .i64 B, .slice none 0 0] 29 (0, 0)) := by rw [hw0]; exact boxed3_2 _ _ _ _
  have b0 : Below w.heap.size w w0 := by rw [hw0]; exact (by repeat (first | exact Below.refl _ _ | assumption | (refine Below.trans ?_ (Below.mono (by assumption) (by first | omega | (simp; done) | (simp; omega)))) | (with_reducible refine Below.drew ?_) | (with_reducible refine Below.alloc ?_ (by first | omega | (simp; done) | (simp; omega)) _) | (with_reducible refine Below.setCell ?_ (by first | omega | (simp; done) | (simp; omega)) _)))
  have s0 : w.heap.size + 3 = w0.heap.size := by rw [hw0]; simp
  have S0 := Lib.hid s0
  have R0 := Lib.hid (H.out.below b0)
  clear hw0 s0
  refine (toOpS_any _ _ _ l _ R0.out HL.out hn).mono ?_
  rintro e w1 ⟨v1, rfl, o1, b1, s1⟩
  obtain ⟨A1, c1, rfl, _, _, _⟩ := rd_of_own o1
  obtain ⟨p0, p1, p2, p3⟩ := boxcells4 (lay := b1) x1
  obtain ⟨q0, q1, q2, q3⟩ := boxcells4 (lay := b1) x2
  have f0 := free4 b1 x1 0
  have f1 := free4 b1 x1 1
  have f2 := free4 b1 x1 2
  have f3 := free4 b1 x1 3
  have g3 := free4 b1 x2 3
  clear x1 x2
  go_wp2_with fail
  have hS := S0.out
  refine bodyPost_ret (v := .agg #[.int .i64 N, .int .i64 I, .int .i64 B, .slice A1 n c1]) (by simp [results, Try.results15, go_sem, p0, p1, p2, p3]) rfl ⟨A1, c1, rfl, own_base (B := w0.heap.size) ?_ (by omega), ?_, ?_⟩
  · exact ownsRow_setCell_below (ownsRow_setCell_below (ownsRow_setCell_below (ownsRow_setCell_below (ownsRow_setCell_below o1 (by simp; omega) _) (by simp; omega) _) (by simp; omega) _) (by simp; omega) _) (by simp; omega) _
  · exact ((((((b0.trans (b1.mono (by omega))).setCell (by first | omega | (simp; done) | (simp; omega)) _).setCell (by simp) _).setCell (by simp) _).setCell (by simp) _).setCell (by simp) _)
  · simp [World.setCell]; omega
set_option maxRecDepth 100000 in
theorem szRoutine_any (N I B : Int) (A : Option Addr) (n c : Nat) (left : Int) (w : World) (hn : n ≤ 9223372036854775807) (h0 : 0 ≤ left) (h1 : left ≤ 1099511627776) :
    Calls Try.prog 13 #[.agg #[.int .i64 N, .int .i64 I, .int .i64 B, .slice A n c], .int .i64 left] w fun e w' => e = .returned (.int .i64 (if left - n < 0 then -1 else left - n)) ∧ Below w.heap.size w w' ∧ w.heap.size ≤ w'.heap.size := by
  by_cases hl : left - n < 0
  · go_enter Try.func13, Try.ntmps13
    go_wp2_with fail
    refine (szOpS_any _ _ _ _ _ hn h0 h1).mono ?_
    rintro e w' ⟨rfl, rfl⟩
    rw [if_pos hl]
    go_wp2_with fail
    go_ret
    exact ⟨rfl, (by repeat (first | exact Below.refl _ _ | assumption | (refine Below.trans ?_ (Below.mono (by assumption) (by first | omega | (simp; done) | (simp; omega)))) | (with_reducible refine Below.drew ?_) | (with_reducible refine Below.alloc ?_ (by first | omega | (simp; done) | (simp; omega)) _) | (with_reducible refine Below.setCell ?_ (by first | omega | (simp; done) | (simp; omega)) _))), (by first | omega | (simp; done) | (simp; omega))⟩
  · go_enter Try.func13, Try.ntmps13
    go_wp2_with fail
    refine (szOpS_any _ _ _ _ _ hn h0 h1).mono ?_
    rintro e w' ⟨rfl, rfl⟩
    rw [if_neg (by omega)]
    go_wp2_with fail
    go_ret
    exact ⟨rfl, (by repeat (first | exact Below.refl _ _ | assumption | (refine Below.trans ?_ (Below.mono (by assumption) (by first | omega | (simp; done) | (simp; omega)))) | (with_reducible refine Below.drew ?_) | (with_reducible refine Below.alloc ?_ (by first | omega | (simp; done) | (simp; omega)) _) | (with_reducible refine Below.setCell ?_ (by first | omega | (simp; done) | (simp; omega)) _))), (by first | omega | (simp; done) | (simp; omega))⟩
set_option maxRecDepth 100000 in
theorem eqRoutine_same (N I B : Int) (A A' : Option Addr) (n c c' : Nat) (l : List Opt) (w : World) (hl : l.length = n) (hn : n ≤ 1099511627776) (h1 : Rd w 8 A n (l.flatMap ocells)) (h2 : Rd w 8 A' n (l.flatMap ocells)) :
    Calls Try.prog 17 #[.agg #[.int .i64 N, .int .i64 I, .int .i64 B, .slice A n c], .agg #[.int .i64 N, .int .i64 I, .int .i64 B, .slice A' n c']] w fun e w' => e = .returned (.bool true) ∧ Below w.heap.size w w' ∧ w.heap.size ≤ w'.heap.size := by
  have b0 : Below w.heap.size w ((w.alloc (.cells #[.int .i64 N, .int .i64 I, .int .i64 B, .slice A n c] 29)).alloc (.cells #[.int .i64 N, .int .i64 I, .int .i64 B, .slice A' n c'] 29)) := (by repeat (first | exact Below.refl _ _ | assumption | (refine Below.trans ?_ (Below.mono (by assumption) (by first | omega | (simp; done) | (simp; omega)))) | (with_reducible refine Below.drew ?_) | (with_reducible refine Below.alloc ?_ (by first | omega | (simp; done) | (simp; omega)) _) | (with_reducible refine Below.setCell ?_ (by first | omega | (simp; done) | (simp; omega)) _)))
  have H1 := Lib.hid (h1.below b0)
  have H2 := Lib.hid (h2.below b0)
  have HL := Lib.hid hl
  clear h1 h2 hl b0
  go_enter Try.func17, Try.ntmps17
  go_wp2_with fail
  refine (eqOpS_same _ _ _ _ _ l _ HL.out hn H1.out H2.out).mono ?_
  rintro e w1 ⟨rfl, b1, s1⟩
  simp at s1
  go_wp2_with fail
  go_ret
  exact ⟨rfl, (by repeat (first | exact Below.refl _ _ | assumption | (refine Below.trans ?_ (Below.mono (by assumption) (by first | omega | (simp; done) | (simp; omega)))) | (with_reducible refine Below.drew ?_) | (with_reducible refine Below.alloc ?_ (by first | omega | (simp; done) | (simp; omega)) _) | (with_reducible refine Below.setCell ?_ (by first | omega | (simp; done) | (simp; omega)) _))), (by first | omega | (simp; done) | (simp; omega))⟩
/-- How many gates a list of operations has. -/
def gcount : List Opt → Nat
  | [] => 0
  | o :: l => (if o.k = 1 then 1 else 0) + gcount l
theorem gcount_snoc (l : List Opt) (o : Opt) : gcount (l ++ [o]) = gcount l + (if o.k = 1 then 1 else 0) := by
  induction l with
  | nil => simp [gcount]
  | cons x l ih => simp only [List.cons_append, gcount, ih]; omega
theorem gcount_le : ∀ l : List Opt, gcount l ≤ l.length
  | [] => by simp [gcount]
  | o :: l => by have := gcount_le l; simp only [gcount, List.length_cons]; split <;> omega
theorem gcount_take (l : List Opt) (t : Nat) (o : Opt) (h : l[t]? = some o) : gcount (l.take (t + 1)) = gcount (l.take t) + (if o.k = 1 then 1 else 0) := by
  rw [List.take_add_one, h]
  exact gcount_snoc _ _
set_option maxRecDepth 100000 in
set_option maxHeartbeats 1000000 in
theorem RoutineGateCount_spec (N I B : Int) (A : Option Addr) (n c : Nat) (l : List Opt) (w : World) (h : Rd w 8 A n (l.flatMap ocells)) (hl : l.length = n) (hn : n ≤ 1099511627776) :
    Calls Try.prog 37 #[.agg #[.int .i64 N, .int .i64 I, .int .i64 B, .slice A n c]] w fun e w' => e = .returned (.int .i64 (gcount l)) ∧ Below w.heap.size w w' ∧ w.heap.size ≤ w'.heap.size := by
  have b0 : Below w.heap.size w (w.alloc (.cells #[.int .i64 N, .int .i64 I, .int .i64 B, .slice A n c] 29)) := (by repeat (first | exact Below.refl _ _ | assumption | (refine Below.trans ?_ (Below.mono (by assumption) (by first | omega | (simp; done) | (simp; omega)))) | (with_reducible refine Below.drew ?_) | (with_reducible refine Below.alloc ?_ (by first | omega | (simp; done) | (simp; omega)) _) | (with_reducible refine Below.setCell ?_ (by first | omega | (simp; done) | (simp; omega)) _)))
  have H := Lib.hid (h.below b0)
  have HL := Lib.hid hl
  clear h hl b0
  go_enter Try.func37, Try.ntmps37
  go_wp2
  obtain ⟨w0, hw0⟩ : ∃ w0, w0 = w.alloc (.cells #[.int .i64 N, .int .i64 I, .int .i64 B, .slice A n c] 29) := ⟨_, rfl⟩
  rw [← hw0] at H ⊢
  have x0 : Hid (w0.heap[w.heap.size]? = some (.cells #[.int .i64 N, .int .i64 I, .int .i64 B, .slice A n c] 29 (0, 0))) := by rw [hw0]; exact boxed1_0 _ _
  have b0 : Below w.heap.size w w0 := by rw [hw0]; exact (by repeat (first | exact Below.refl _ _ | assumption | (refine Below.trans ?_ (Below.mono (by assumption) (by first | omega | (simp; done) | (simp; omega)))) | (with_reducible refine Below.drew ?_) | (with_reducible refine Below.alloc ?_ (by first | omega | (simp; done) | (simp; omega)) _) | (with_reducible refine Below.setCell ?_ (by first | omega | (simp; done) | (simp; omega)) _)))
  have S0 := Lib.hid (show w.heap.size + 1 = w0.heap.size by rw [hw0]; simp)
  clear hw0
  go_loopw [3, 4] (fun m i wr => ∃ t : Nat, t ≤ n ∧ i = .int .i64 t ∧ m = .int .i64 (gcount (l.take t)) ∧ Below w0.heap.size w0 wr) (fun _ i _ => n - (intOf i).toNat)
  case atStart => exact ⟨0, Nat.zero_le _, rfl, rfl, Below.refl _ _⟩
  case round =>
    obtain ⟨t, ht, rfl, rfl, hb⟩ := hrel
    have hbs := hb.size
    have hgc : gcount (l.take t) ≤ t := Nat.le_trans (gcount_le _) (List.length_take_le t l)
    obtain ⟨G, hG⟩ : ∃ G, G = gcount (l.take t) := ⟨_, rfl⟩
    rw [← hG] at hgc ⊢
    have HG := Lib.hid hG
    clear hG
    obtain ⟨_, _, _, p3⟩ := boxcells4 (lay := hb) x0.out
    by_cases hlt : t < n
    · have htl : t < l.length := by rw [HL.out]; exact hlt
      obtain ⟨o, ho⟩ : ∃ o, l[t]? = some o := ⟨_, List.getElem?_eq_getElem htl⟩
      obtain ⟨b, off, rfl, hbl, hc⟩ := H.out.2 (by omega)
      have q0 : wr.cell? ⟨b, off + t * 8, none⟩ = some (.int .i64 o.k) := (hb.cell (by have := hbl; simp; omega)).trans (hc (t * 8 + 0) _ (flat_at ocells_len l t o 0 ho (by decide)))
      have q1 : wr.cell? ⟨b, off + t * 8 + 1, none⟩ = some (.int .i64 o.g.k) := (hb.cell (by have := hbl; simp; omega)).trans (hc (t * 8 + 1) _ (flat_at ocells_len l t o 1 ho (by decide)))
      have q2 : wr.cell? ⟨b, off + t * 8 + 2, none⟩ = some (.int .i64 o.g.a) := (hb.cell (by have := hbl; simp; omega)).trans (hc (t * 8 + 2) _ (flat_at ocells_len l t o 2 ho (by decide)))
      have q3 : wr.cell? ⟨b, off + t * 8 + 3, none⟩ = some (.int .i64 o.g.b) := (hb.cell (by have := hbl; simp; omega)).trans (hc (t * 8 + 3) _ (flat_at ocells_len l t o 3 ho (by decide)))
      have q4 : wr.cell? ⟨b, off + t * 8 + 4, none⟩ = some (.int .i64 o.g.c) := (hb.cell (by have := hbl; simp; omega)).trans (hc (t * 8 + 4) _ (flat_at ocells_len l t o 4 ho (by decide)))
      have q5 : wr.cell? ⟨b, off + t * 8 + 5, none⟩ = some (.int .i64 o.q) := (hb.cell (by have := hbl; simp; omega)).trans (hc (t * 8 + 5) _ (flat_at ocells_len l t o 5 ho (by decide)))
      have q6 : wr.cell? ⟨b, off + t * 8 + 6, none⟩ = some (.int .i64 o.bit) := (hb.cell (by have := hbl; simp; omega)).trans (hc (t * 8 + 6) _ (flat_at ocells_len l t o 6 ho (by decide)))
      have q7 : wr.cell? ⟨b, off + t * 8 + 7, none⟩ = some (.int .i64 o.cond) := (hb.cell (by have := hbl; simp; omega)).trans (hc (t * 8 + 7) _ (flat_at ocells_len l t o 7 ho (by decide)))
      have HS := Lib.hid (gcount_take l t o ho)
      clear hc ho htl
      by_cases hk : o.k = 1
      · have hk' : (o.k == 1) = true := by simp [hk]
        have HK := Lib.hid hk
        clear hk
        go_wp2
        go_roundw
        case rel => exact ⟨t + 1, by omega, by go_num, by rw [HS.out, if_pos HK.out, ← HG.out]; go_num, (by repeat (first | exact Below.refl _ _ | assumption | (refine Below.trans ?_ (Below.mono (by assumption) (by first | omega | (simp; done) | (simp; omega)))) | (with_reducible refine Below.drew ?_) | (with_reducible refine Below.alloc ?_ (by first | omega | (simp; done) | (simp; omega)) _) | (with_reducible refine Below.setCell ?_ (by first | omega | (simp; done) | (simp; omega)) _)))⟩
        case measure => simp [intOf]; omega
      · have hk' : (o.k == 1) = false := by simp [hk]
        have HK := Lib.hid hk
        clear hk
        go_wp2
        go_roundw
        case rel => exact ⟨t + 1, by omega, by go_num, by rw [HS.out, if_neg HK.out, ← HG.out]; go_num, (by repeat (first | exact Below.refl _ _ | assumption | (refine Below.trans ?_ (Below.mono (by assumption) (by first | omega | (simp; done) | (simp; omega)))) | (with_reducible refine Below.drew ?_) | (with_reducible refine Below.alloc ?_ (by first | omega | (simp; done) | (simp; omega)) _) | (with_reducible refine Below.setCell ?_ (by first | omega | (simp; done) | (simp; omega)) _)))⟩
        case measure => simp [intOf]; omega
    · obtain rfl : t = n := by omega
      have HT : Hid (G = gcount l) := by
        have h := HG.out
        rw [List.take_of_length_le (by rw [HL.out]; exact Nat.le_refl _)] at h
        exact h
      go_wp2
      go_ret
      exact ⟨by rw [← HT.out]; rfl, b0.trans (hb.mono (by have := S0.out; omega)), by have := hb.size; have := S0.out; omega⟩
set_option maxRecDepth 100000 in
set_option maxHeartbeats 1000000 in
theorem RoutineGateCount_impl (N I B : Int) (A : Option Addr) (n c : Nat) (l : List Opt) (w : World) (h : Rd w 8 A n (l.flatMap ocells)) (hl : l.length = n) (hn : n ≤ 1099511627776) :
    Calls Try.prog 36 #[.agg #[.int .i64 N, .int .i64 I, .int .i64 B, .slice A n c]] w fun e w' => e = .returned (.int .i64 (gcount l)) ∧ Below w.heap.size w w' ∧ w.heap.size ≤ w'.heap.size := by
  have b0 : Below w.heap.size w (w.alloc (.cells #[.int .i64 N, .int .i64 I, .int .i64 B, .slice A n c] 29)) := (by repeat (first | exact Below.refl _ _ | assumption | (refine Below.trans ?_ (Below.mono (by assumption) (by first | omega | (simp; done) | (simp; omega)))) | (with_reducible refine Below.drew ?_) | (with_reducible refine Below.alloc ?_ (by first | omega | (simp; done) | (simp; omega)) _) | (with_reducible refine Below.setCell ?_ (by first | omega | (simp; done) | (simp; omega)) _)))
  have H := Lib.hid (h.below b0)
  have HL := Lib.hid hl
  clear h hl b0
  go_enter Try.func36, Try.ntmps36
  go_wp2
  obtain ⟨w0, hw0⟩ : ∃ w0, w0 = w.alloc (.cells #[.int .i64 N, .int .i64 I, .int .i64 B, .slice A n c] 29) := ⟨_, rfl⟩
  rw [← hw0] at H ⊢
  have x0 : Hid (w0.heap[w.heap.size]? = some (.cells #[.int .i64 N, .int .i64 I, .int .i64 B, .slice A n c] 29 (0, 0))) := by rw [hw0]; exact boxed1_0 _ _
  have b0 : Below w.heap.size w w0 := by rw [hw0]; exact (by repeat (first | exact Below.refl _ _ | assumption | (refine Below.trans ?_ (Below.mono (by assumption) (by first | omega | (simp; done) | (simp; omega)))) | (with_reducible refine Below.drew ?_) | (with_reducible refine Below.alloc ?_ (by first | omega | (simp; done) | (simp; omega)) _) | (with_reducible refine Below.setCell ?_ (by first | omega | (simp; done) | (simp; omega)) _)))
  have S0 := Lib.hid (show w.heap.size + 1 = w0.heap.size by rw [hw0]; simp)
  clear hw0
  go_loopw [3, 9] (fun m i wr => ∃ t : Nat, t ≤ n ∧ i = .int .i64 t ∧ m = .int .i64 (gcount (l.take t)) ∧ Below w0.heap.size w0 wr) (fun _ i _ => n - (intOf i).toNat)
  case atStart => exact ⟨0, Nat.zero_le _, rfl, rfl, Below.refl _ _⟩
  case round =>
    obtain ⟨t, ht, rfl, rfl, hb⟩ := hrel
    have hbs := hb.size
    have hgc : gcount (l.take t) ≤ t := Nat.le_trans (gcount_le _) (List.length_take_le t l)
    obtain ⟨G, hG⟩ : ∃ G, G = gcount (l.take t) := ⟨_, rfl⟩
    rw [← hG] at hgc ⊢
    have HG := Lib.hid hG
    clear hG
    obtain ⟨_, _, _, p3⟩ := boxcells4 (lay := hb) x0.out
    by_cases hlt : t < n
    · have htl : t < l.length := by rw [HL.out]; exact hlt
      obtain ⟨o, ho⟩ : ∃ o, l[t]? = some o := ⟨_, List.getElem?_eq_getElem htl⟩
      obtain ⟨b, off, rfl, hbl, hc⟩ := H.out.2 (by omega)
      have q0 : wr.cell? ⟨b, off + t * 8, none⟩ = some (.int .i64 o.k) := (hb.cell (by have := hbl; simp; omega)).trans (hc (t * 8 + 0) _ (flat_at ocells_len l t o 0 ho (by decide)))
      have q1 : wr.cell? ⟨b, off + t * 8 + 1, none⟩ = some (.int .i64 o.g.k) := (hb.cell (by have := hbl; simp; omega)).trans (hc (t * 8 + 1) _ (flat_at ocells_len l t o 1 ho (by decide)))
      have q2 : wr.cell? ⟨b, off + t * 8 + 2, none⟩ = some (.int .i64 o.g.a) := (hb.cell (by have := hbl; simp; omega)).trans (hc (t * 8 + 2) _ (flat_at ocells_len l t o 2 ho (by decide)))
      have q3 : wr.cell? ⟨b, off + t * 8 + 3, none⟩ = some (.int .i64 o.g.b) := (hb.cell (by have := hbl; simp; omega)).trans (hc (t * 8 + 3) _ (flat_at ocells_len l t o 3 ho (by decide)))
      have q4 : wr.cell? ⟨b, off + t * 8 + 4, none⟩ = some (.int .i64 o.g.c) := (hb.cell (by have := hbl; simp; omega)).trans (hc (t * 8 + 4) _ (flat_at ocells_len l t o 4 ho (by decide)))
      have q5 : wr.cell? ⟨b, off + t * 8 + 5, none⟩ = some (.int .i64 o.q) := (hb.cell (by have := hbl; simp; omega)).trans (hc (t * 8 + 5) _ (flat_at ocells_len l t o 5 ho (by decide)))
      have q6 : wr.cell? ⟨b, off + t * 8 + 6, none⟩ = some (.int .i64 o.bit) := (hb.cell (by have := hbl; simp; omega)).trans (hc (t * 8 + 6) _ (flat_at ocells_len l t o 6 ho (by decide)))
      have q7 : wr.cell? ⟨b, off + t * 8 + 7, none⟩ = some (.int .i64 o.cond) := (hb.cell (by have := hbl; simp; omega)).trans (hc (t * 8 + 7) _ (flat_at ocells_len l t o 7 ho (by decide)))
      have HS := Lib.hid (gcount_take l t o ho)
      clear hc ho htl
      by_cases hk : o.k = 1
      · have hk' : (o.k == 1) = true := by simp [hk]
        have HK := Lib.hid hk
        clear hk
        go_wp2
        go_roundw
        case rel => exact ⟨t + 1, by omega, by go_num, by rw [HS.out, if_pos HK.out, ← HG.out]; go_num, (by repeat (first | exact Below.refl _ _ | assumption | (refine Below.trans ?_ (Below.mono (by assumption) (by first | omega | (simp; done) | (simp; omega)))) | (with_reducible refine Below.drew ?_) | (with_reducible refine Below.alloc ?_ (by first | omega | (simp; done) | (simp; omega)) _) | (with_reducible refine Below.setCell ?_ (by first | omega | (simp; done) | (simp; omega)) _)))⟩
        case measure => simp [intOf]; omega
      · have hk' : (o.k == 1) = false := by simp [hk]
        have HK := Lib.hid hk
        clear hk
        go_wp2
        go_roundw
        case rel => exact ⟨t + 1, by omega, by go_num, by rw [HS.out, if_neg HK.out, ← HG.out]; go_num, (by repeat (first | exact Below.refl _ _ | assumption | (refine Below.trans ?_ (Below.mono (by assumption) (by first | omega | (simp; done) | (simp; omega)))) | (with_reducible refine Below.drew ?_) | (with_reducible refine Below.alloc ?_ (by first | omega | (simp; done) | (simp; omega)) _) | (with_reducible refine Below.setCell ?_ (by first | omega | (simp; done) | (simp; omega)) _)))⟩
        case measure => simp [intOf]; omega
    · obtain rfl : t = n := by omega
      have HT : Hid (G = gcount l) := by
        have h := HG.out
        rw [List.take_of_length_le (by rw [HL.out]; exact Nat.le_refl _)] at h
        exact h
      go_wp2
      go_ret
      exact ⟨by rw [← HT.out]; rfl, b0.trans (hb.mono (by have := S0.out; omega)), by have := hb.size; have := S0.out; omega⟩
def eqRt (N I B : Int) (l : List Opt) (N' I' B' : Int) (l' : List Opt) : Bool := N == N' && (I == I' && (B == B' && eqOs l l'))
set_option maxRecDepth 100000 in
set_option maxHeartbeats 1000000 in
theorem EqualRoutine_impl (N I B N' I' B' : Int) (A A' : Option Addr) (n n' c c' : Nat) (l l' : List Opt) (w : World) (hl : l.length = n) (hl' : l'.length = n') (hn : n ≤ 1099511627776) (h1 : Rd w 8 A n (l.flatMap ocells)) (h2 : Rd w 8 A' n' (l'.flatMap ocells)) :
    Calls Try.prog 38 #[.agg #[.int .i64 N, .int .i64 I, .int .i64 B, .slice A n c], .agg #[.int .i64 N', .int .i64 I', .int .i64 B', .slice A' n' c']] w fun e w' => e = .returned (.bool (eqRt N I B l N' I' B' l')) ∧ Below w.heap.size w w' ∧ w.heap.size ≤ w'.heap.size := by
  have b0 : Below w.heap.size w ((w.alloc (.cells #[.int .i64 N, .int .i64 I, .int .i64 B, .slice A n c] 29)).alloc (.cells #[.int .i64 N', .int .i64 I', .int .i64 B', .slice A' n' c'] 29)) := (by repeat (first | exact Below.refl _ _ | assumption | (refine Below.trans ?_ (Below.mono (by assumption) (by first | omega | (simp; done) | (simp; omega)))) | (with_reducible refine Below.drew ?_) | (with_reducible refine Below.alloc ?_ (by first | omega | (simp; done) | (simp; omega)) _) | (with_reducible refine Below.setCell ?_ (by first | omega | (simp; done) | (simp; omega)) _)))
  have H1 := Lib.hid (h1.below b0)
  have H2 := Lib.hid (h2.below b0)
  have HL := Lib.hid hl
  have HL' := Lib.hid hl'
  clear h1 h2 hl hl' b0
  cases e1 : (N == N')
  · have HF := Lib.hid (show eqRt N I B l N' I' B' l' = false by simp [eqRt, e1])
    go_enter Try.func38, Try.ntmps38
    go_wp2_with fail
    go_ret
    exact ⟨by rw [HF.out]; rfl, (by repeat (first | exact Below.refl _ _ | assumption | (refine Below.trans ?_ (Below.mono (by assumption) (by first | omega | (simp; done) | (simp; omega)))) | (with_reducible refine Below.drew ?_) | (with_reducible refine Below.alloc ?_ (by first | omega | (simp; done) | (simp; omega)) _) | (with_reducible refine Below.setCell ?_ (by first | omega | (simp; done) | (simp; omega)) _))), (by first | omega | (simp; done) | (simp; omega))⟩
  cases e2 : (I == I')
  · have HF := Lib.hid (show eqRt N I B l N' I' B' l' = false by simp [eqRt, e2])
    go_enter Try.func38, Try.ntmps38
    go_wp2_with fail
    go_ret
    exact ⟨by rw [HF.out]; rfl, (by repeat (first | exact Below.refl _ _ | assumption | (refine Below.trans ?_ (Below.mono (by assumption) (by first | omega | (simp; done) | (simp; omega)))) | (with_reducible refine Below.drew ?_) | (with_reducible refine Below.alloc ?_ (by first | omega | (simp; done) | (simp; omega)) _) | (with_reducible refine Below.setCell ?_ (by first | omega | (simp; done) | (simp; omega)) _))), (by first | omega | (simp; done) | (simp; omega))⟩
  cases e3 : (B == B')
  · have HF := Lib.hid (show eqRt N I B l N' I' B' l' = false by simp [eqRt, e3])
    go_enter Try.func38, Try.ntmps38
    go_wp2_with fail
    go_ret
    exact ⟨by rw [HF.out]; rfl, (by repeat (first | exact Below.refl _ _ | assumption | (refine Below.trans ?_ (Below.mono (by assumption) (by first | omega | (simp; done) | (simp; omega)))) | (with_reducible refine Below.drew ?_) | (with_reducible refine Below.alloc ?_ (by first | omega | (simp; done) | (simp; omega)) _) | (with_reducible refine Below.setCell ?_ (by first | omega | (simp; done) | (simp; omega)) _))), (by first | omega | (simp; done) | (simp; omega))⟩
  have HF := Lib.hid (show eqRt N I B l N' I' B' l' = eqOs l l' by rw [eqRt, e1, e2, e3]; simp)
  go_enter Try.func38, Try.ntmps38
  go_wp2_with fail
  refine (sameOp_any _ _ _ _ _ _ l l' _ HL.out HL'.out hn H1.out H2.out).mono ?_
  rintro e w1 ⟨rfl, b1, s1⟩
  simp at s1
  go_wp2_with fail
  go_ret
  exact ⟨by rw [HF.out]; rfl, (by repeat (first | exact Below.refl _ _ | assumption | (refine Below.trans ?_ (Below.mono (by assumption) (by first | omega | (simp; done) | (simp; omega)))) | (with_reducible refine Below.drew ?_) | (with_reducible refine Below.alloc ?_ (by first | omega | (simp; done) | (simp; omega)) _) | (with_reducible refine Below.setCell ?_ (by first | omega | (simp; done) | (simp; omega)) _))), (by first | omega | (simp; done) | (simp; omega))⟩
end Go.Proofs.Ytbffpehajkgjeaa
