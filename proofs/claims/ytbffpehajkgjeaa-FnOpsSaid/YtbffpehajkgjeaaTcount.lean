/- Counting gates of a kind; comparing equal lists of gates (the laws' own loop); the size test. -/
import Derived.Test.YtbffpehajkgjeaaDecompose
import Derived.Test.YtbffpehajkgjeaaGateS
import Derived.Test.YtbffpehajkgjeaaMat
namespace Go.Proofs.Ytbffpehajkgjeaa
open Go.RowKit
set_option linter.unusedVariables false
set_option maxRecDepth 100000 in
theorem big_any (A : Option Addr) (n c : Nat) (w : World) (hn : n ≤ 9223372036854775807) : Calls Try.prog 25 #[.slice A n c] w fun e w' => e = .returned (.bool (decide (1048576 < n))) ∧ w = w' := by
  by_cases h : 1048576 < n
  · go_enter Try.func25, Try.ntmps25
    go_wp2_with fail
    go_ret
    exact ⟨by simp [h]; omega, rfl⟩
  · go_enter Try.func25, Try.ntmps25
    go_wp2_with fail
    go_ret
    exact ⟨by simp [h]; omega, rfl⟩
set_option maxRecDepth 100000 in
set_option maxHeartbeats 1000000 in
theorem sameGates_same (A A' : Option Addr) (n c c' : Nat) (l : List Gt) (w : World) (hl : l.length = n) (hn : n ≤ 1099511627776) (h1 : Rd w 4 A n (l.flatMap gcells)) (h2 : Rd w 4 A' n (l.flatMap gcells)) :
    Calls Try.prog 32 #[.slice A n c, .slice A' n c'] w fun e w' => e = .returned (.bool true) ∧ Below w.heap.size w w' ∧ w.heap.size ≤ w'.heap.size := by
  have H1 := Lib.hid h1
  have H2 := Lib.hid h2
  have HL := Lib.hid hl
  clear h1 h2 hl
  go_enter Try.func32, Try.ntmps32
  go_wp2_with fail
  go_loopw [5] (fun i wr => ∃ k : Nat, k ≤ n ∧ i = .int .i64 k ∧ Below w.heap.size w wr) (fun i _ => n - (intOf i).toNat)
  case atStart => exact ⟨0, Nat.zero_le _, rfl, Below.refl _ _⟩
  case round =>
    obtain ⟨k, hk, rfl, hb⟩ := hrel
    by_cases hlt : k < n
    · have hkl : k < l.length := by rw [HL.out]; exact hlt
      obtain ⟨g, hg⟩ : ∃ g, l[k]? = some g := ⟨_, List.getElem?_eq_getElem hkl⟩
      obtain ⟨b, off, rfl, _, hc⟩ := (H1.out.below hb).2 (by omega)
      obtain ⟨b', off', rfl, _, hc'⟩ := (H2.out.below hb).2 (by omega)
      have q0 := hc (k * 4 + 0) _ (flat_at gcells_len l k g 0 hg (by decide))
      have q0' := hc' (k * 4 + 0) _ (flat_at gcells_len l k g 0 hg (by decide))
      have q1 := hc (k * 4 + 1) _ (flat_at gcells_len l k g 1 hg (by decide))
      have q1' := hc' (k * 4 + 1) _ (flat_at gcells_len l k g 1 hg (by decide))
      have q2 := hc (k * 4 + 2) _ (flat_at gcells_len l k g 2 hg (by decide))
      have q2' := hc' (k * 4 + 2) _ (flat_at gcells_len l k g 2 hg (by decide))
      have q3 := hc (k * 4 + 3) _ (flat_at gcells_len l k g 3 hg (by decide))
      have q3' := hc' (k * 4 + 3) _ (flat_at gcells_len l k g 3 hg (by decide))
      rw [← Nat.add_assoc] at q1 q1' q2 q2' q3 q3'
      rw [Nat.add_zero] at q0 q0'
      clear hc hc' hg hkl
      go_wp2_with fail
      go_quiet (fail)
      go_wp2_with fail
      go_roundw
      case rel => exact ⟨k + 1, by omega, by go_num, below_drewN hb _⟩
      case measure => simp [intOf]; omega
    · go_wp2_with fail
      go_ret
      exact ⟨rfl, hb, hb.size⟩
/-- How many gates of one kind a list has. -/
def kcount (k : Int) : List Gt → Nat
  | [] => 0
  | g :: l => (if g.k = k then 1 else 0) + kcount k l
theorem kcount_snoc (k : Int) (l : List Gt) (g : Gt) : kcount k (l ++ [g]) = kcount k l + (if g.k = k then 1 else 0) := by
  induction l with
  | nil => simp [kcount]
  | cons x l ih => simp only [List.cons_append, kcount, ih]; omega
theorem kcount_le (k : Int) : ∀ l : List Gt, kcount k l ≤ l.length
  | [] => by simp [kcount]
  | g :: l => by have := kcount_le k l; simp only [kcount, List.length_cons]; split <;> omega
theorem kcount_take (k : Int) (l : List Gt) (t : Nat) (g : Gt) (h : l[t]? = some g) : kcount k (l.take (t + 1)) = kcount k (l.take t) + (if g.k = k then 1 else 0) := by
  rw [List.take_add_one, h]
  exact kcount_snoc _ _ _
set_option maxRecDepth 100000 in
set_option maxHeartbeats 1000000 in
theorem CountGates_spec (N k : Int) (A : Option Addr) (n c : Nat) (l : List Gt) (w : World) (h : Rd w 4 A n (l.flatMap gcells)) (hl : l.length = n) (hn : n ≤ 1099511627776) :
    Calls Try.prog 110 #[.agg #[.int .i64 N, .slice A n c], .int .i64 k] w fun e w' => e = .returned (.int .i64 (kcount k l)) ∧ Below w.heap.size w w' ∧ w.heap.size ≤ w'.heap.size := by
  have b0 : Below w.heap.size w (w.alloc (.cells #[.int .i64 N, .slice A n c] 103)) := (by repeat (first | exact Below.refl _ _ | assumption | (refine Below.trans ?_ (Below.mono (by assumption) (by first | omega | (simp; done) | (simp; omega)))) | (with_reducible refine Below.drew ?_) | (with_reducible refine Below.alloc ?_ (by first | omega | (simp; done) | (simp; omega)) _) | (with_reducible refine Below.setCell ?_ (by first | omega | (simp; done) | (simp; omega)) _)))
  have H := Lib.hid (h.below b0)
  have HL := Lib.hid hl
  clear h hl b0
  go_enter Try.func110, Try.ntmps110
  go_wp2_with fail
  obtain ⟨w0, hw0⟩ : ∃ w0, w0 = w.alloc (.cells #[.int .i64 N, .slice A n c] 103) := ⟨_, rfl⟩
  rw [← hw0] at H ⊢
  have x0 : w0.heap[w.heap.size]? = some (.cells #[.int .i64 N, .slice A n c] 103 (0, 0)) := by rw [hw0]; exact boxed1_0 _ _
  have p1 : w0.cell? ⟨w.heap.size, 1, none⟩ = some (.slice A n c) := cell_at (j := 1) x0 rfl
  have b0 : Below w.heap.size w w0 := by rw [hw0]; exact (by repeat (first | exact Below.refl _ _ | assumption | (refine Below.trans ?_ (Below.mono (by assumption) (by first | omega | (simp; done) | (simp; omega)))) | (with_reducible refine Below.drew ?_) | (with_reducible refine Below.alloc ?_ (by first | omega | (simp; done) | (simp; omega)) _) | (with_reducible refine Below.setCell ?_ (by first | omega | (simp; done) | (simp; omega)) _)))
  clear hw0 x0
  go_loop [5, 6] (fun m i => ∃ t : Nat, t ≤ n ∧ i = .int .i64 t ∧ m = .int .i64 (kcount k (l.take t))) (fun _ i => n - (intOf i).toNat)
  case atStart => exact ⟨0, Nat.zero_le _, rfl, rfl⟩
  case round =>
    obtain ⟨t, ht, rfl, rfl⟩ := hrel
    have hgc : kcount k (l.take t) ≤ t := Nat.le_trans (kcount_le _ _) (List.length_take_le t l)
    obtain ⟨G, hG⟩ : ∃ G, G = kcount k (l.take t) := ⟨_, rfl⟩
    rw [← hG] at hgc ⊢
    have HG := Lib.hid hG
    clear hG
    by_cases hlt : t < n
    · have htl : t < l.length := by rw [HL.out]; exact hlt
      obtain ⟨g, hg⟩ : ∃ g, l[t]? = some g := ⟨_, List.getElem?_eq_getElem htl⟩
      obtain ⟨b, off, rfl, hbl, hc⟩ := H.out.2 (by omega)
      have q0 := hc (t * 4 + 0) _ (flat_at gcells_len l t g 0 hg (by decide))
      rw [Nat.add_zero] at q0
      have HS := Lib.hid (kcount_take k l t g hg)
      clear hc hg htl
      by_cases hk : g.k = k
      · have hk' : (g.k == k) = true := by simp [hk]
        have HK := Lib.hid hk
        clear hk
        go_wp2_with fail
        go_round
        case rel => exact ⟨t + 1, by omega, by go_num, by rw [HS.out, if_pos HK.out, ← HG.out]; go_num⟩
        case measure => simp [intOf]; omega
      · have hk' : (g.k == k) = false := by simp [hk]
        have HK := Lib.hid hk
        clear hk
        go_wp2_with fail
        go_round
        case rel => exact ⟨t + 1, by omega, by go_num, by rw [HS.out, if_neg HK.out, ← HG.out]; go_num⟩
        case measure => simp [intOf]; omega
    · obtain rfl : t = n := by omega
      have HT : Hid (G = kcount k l) := by
        have h := HG.out
        rw [List.take_of_length_le (by rw [HL.out]; exact Nat.le_refl _)] at h
        exact h
      go_wp2_with fail
      go_ret
      exact ⟨by rw [← HT.out]; rfl, b0, b0.size⟩
theorem below_undrew {w w' : World} (h : Below w.drew.heap.size w.drew w') : Below w.heap.size w w' := ⟨h.os, h.tape, h.output, h.size, h.block⟩
theorem boxc2 {w w' : World} {b : Nat} {x0 x1 : Value} {t : TypeId} (lay : Below w'.heap.size w' w) (h : w'.heap[b]? = some (.cells #[x0, x1] t (0, 0))) : w.cell? ⟨b, 0, none⟩ = some x0 ∧ w.cell? ⟨b, 1, none⟩ = some x1 := by
  have h' : w.heap[b]? = some (.cells #[x0, x1] t (0, 0)) := (lay.block b (lt_of_block h)).trans h
  exact ⟨by simp [World.cell?, h'], by simp [World.cell?, h']⟩
set_option maxRecDepth 100000 in
set_option maxHeartbeats 2000000 in
theorem TCount_spec (N : Int) (A : Option Addr) (n c : Nat) (l : List Gt) (w : World) (h : Rd w 4 A n (l.flatMap gcells)) (hl : l.length = n) (hn : n ≤ 1099511627776) :
    Calls Try.prog 82 #[.agg #[.int .i64 N, .slice A n c]] w fun e w' => e = .returned (.int .i64 ((kcount 7 l : Int) + kcount 8 l)) ∧ Below w.heap.size w w' ∧ w.heap.size ≤ w'.heap.size := by
  have b0 : Below w.heap.size w (w.alloc (.cells #[.int .i64 N, .slice A n c] 103)) := (by repeat (first | exact Below.refl _ _ | assumption | (refine Below.trans ?_ (Below.mono (by assumption) (by first | omega | (simp; done) | (simp; omega)))) | (with_reducible refine Below.drew ?_) | (with_reducible refine Below.alloc ?_ (by first | omega | (simp; done) | (simp; omega)) _) | (with_reducible refine Below.setCell ?_ (by first | omega | (simp; done) | (simp; omega)) _)))
  have H := Lib.hid (h.below b0)
  have k7 := kcount_le 7 l
  have k8 := kcount_le 8 l
  rw [hl] at k7 k8
  have HL := Lib.hid hl
  clear h hl b0
  go_enter Try.func82, Try.ntmps82
  go_wp2_with fail
  obtain ⟨w0, hw0⟩ : ∃ w0, w0 = w.alloc (.cells #[.int .i64 N, .slice A n c] 103) := ⟨_, rfl⟩
  rw [← hw0] at H ⊢
  have x0 : w0.heap[w.heap.size]? = some (.cells #[.int .i64 N, .slice A n c] 103 (0, 0)) := by rw [hw0]; exact boxed1_0 _ _
  have b0 : Below w.heap.size w w0 := by rw [hw0]; exact (by repeat (first | exact Below.refl _ _ | assumption | (refine Below.trans ?_ (Below.mono (by assumption) (by first | omega | (simp; done) | (simp; omega)))) | (with_reducible refine Below.drew ?_) | (with_reducible refine Below.alloc ?_ (by first | omega | (simp; done) | (simp; omega)) _) | (with_reducible refine Below.setCell ?_ (by first | omega | (simp; done) | (simp; omega)) _)))
  have s0 : w.heap.size < w0.heap.size := by rw [hw0]; simp
  clear hw0
  have p0 : w0.cell? ⟨w.heap.size, 0, none⟩ = some (.int .i64 N) := cell_at (j := 0) x0 rfl
  have p1 : w0.cell? ⟨w.heap.size, 1, none⟩ = some (.slice A n c) := cell_at (j := 1) x0 rfl
  have X0 := Lib.hid x0
  clear x0
  obtain ⟨a7, h7⟩ : ∃ a, a = (kcount 7 l) := ⟨_, rfl⟩
  obtain ⟨a8, h8⟩ : ∃ a, a = (kcount 8 l) := ⟨_, rfl⟩
  have C7 : ∀ w', Rd w' 4 A n (l.flatMap gcells) → Calls Try.prog 110 #[.agg #[.int .i64 N, .slice A n c], .int .i64 7] w' fun e w'' => e = .returned (.int .i64 a7) ∧ Below w'.heap.size w' w'' ∧ w'.heap.size ≤ w''.heap.size := fun w' hr => by rw [h7]; exact CountGates_spec _ _ _ _ _ l _ hr HL.out hn
  have C8 : ∀ w', Rd w' 4 A n (l.flatMap gcells) → Calls Try.prog 110 #[.agg #[.int .i64 N, .slice A n c], .int .i64 8] w' fun e w'' => e = .returned (.int .i64 a8) ∧ Below w'.heap.size w' w'' ∧ w'.heap.size ≤ w''.heap.size := fun w' hr => by rw [h8]; exact CountGates_spec _ _ _ _ _ l _ hr HL.out hn
  rw [← h7] at k7
  rw [← h8] at k8
  have C7 := Lib.hid C7
  have C8 := Lib.hid C8
  have H7 := Lib.hid h7
  have H8 := Lib.hid h8
  clear h7 h8
  go_region_held3 (fun w' => w'.cell? ⟨w.heap.size, 0, none⟩ = some (.int .i64 N) ∧ w'.cell? ⟨w.heap.size, 1, none⟩ = some (.slice A n c)) (go_keep)
    (first
      | (go_at_call 110; (with_reducible refine (C7.out _ ?_).mono ?_); exact H.out; rintro e w7 ⟨rfl, b7, s7⟩; have tb7 := below_undrew b7; obtain ⟨u0, u1⟩ := boxc2 (lay := tb7) X0.out)
      | (go_at_call 110; (with_reducible refine (C8.out _ ?_).mono ?_); exact H.out.below tb7; rintro e w8 ⟨rfl, b8, s8⟩; have tb := tb7.trans (b8.mono tb7.size); obtain ⟨v0, v1⟩ := boxc2 (lay := tb) X0.out))
  all_goals go_wp2_with fail
  all_goals go_ret
  all_goals exact ⟨by rw [← H7.out, ← H8.out]; show Ending.returned (.int .i64 (IntKind.i64.wrap ((a7 : Int) + (a8 : Int)))) = _; rw [IntWalk.i64_in _ (by omega)], b0.trans (tb.mono b0.size), Nat.le_trans b0.size tb.size⟩
set_option maxRecDepth 100000 in
theorem tCount_any (A : Option Addr) (n c : Nat) (l : List Gt) (w : World) (h : Rd w 4 A n (l.flatMap gcells)) (hl : l.length = n) (hn : n ≤ 1099511627776) :
    Calls Try.prog 34 #[.slice A n c] w fun e w' => e = .returned (.int .i64 ((kcount 7 l : Int) + kcount 8 l)) ∧ Below w.heap.size w w' ∧ w.heap.size ≤ w'.heap.size := by
  have C := Lib.hid (TCount_spec 0 A n c l w h hl hn)
  clear h hl
  go_enter Try.func34, Try.ntmps34
  go_wp2_with fail
  refine C.out.mono ?_
  rintro e w1 ⟨rfl, b1, s1⟩
  go_wp2_with fail
  go_ret
  exact ⟨rfl, b1, s1⟩
end Go.Proofs.Ytbffpehajkgjeaa
