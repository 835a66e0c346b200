/- The controlled version of a gate: the program's function and the reference's return the same list. -/
import Derived.Test.YtbffpehajkgjeaaActs
import Derived.Test.YtbffpehajkgjeaaDecompose
namespace Go.Proofs.Ytbffpehajkgjeaa
open Go.RowKit
set_option linter.unusedVariables false
/-- A call that returns a slice of its own and whether it worked. -/
def RetRow2 (E size : Nat) (w : World) (ok : Bool) (n : Nat) (xs : List Value) (e : Ending) (w' : World) : Prop :=
  ∃ v, e = .returned (.tuple #[v, .bool ok]) ∧ w'.ownsRow w.heap.size E size v n xs ∧ Below w.heap.size w w' ∧ w.heap.size ≤ w'.heap.size
theorem retRow2_lit {E size n b : Nat} {ok : Bool} {w W : World} {cs : Array Value} {xs : List Value} (hB : w.heap.size ≤ W.heap.size) (hb : Below w.heap.size w W) (hs : cs.size = n * size) (hm : n ≤ maxLen) (hx : cs.toList = xs) (h0 : b = W.heap.size) :
    RetRow2 E size w ok n xs (.returned (.tuple #[.slice (some ⟨b, 0, none⟩) n n, .bool ok])) (W.alloc (.cells cs E)) := by
  subst hx h0
  exact ⟨_, rfl, World.ownsRow_lit W cs n hB hm hs, hb.alloc hB _, by simp; omega⟩
theorem retRow2_nil {E size : Nat} {ok : Bool} {w W : World} (hB : w.heap.size ≤ W.heap.size) (hb : Below w.heap.size w W) : RetRow2 E size w ok 0 [] (.returned (.tuple #[.slice none 0 0, .bool ok])) W :=
  ⟨_, rfl, World.ownsRow_nil _ _ _ _, hb, hB⟩
/-- The gates of a controlled gate; none where there are none. -/
def cgl (q : Int) (g : Gt) : Option (List Gt) :=
  match g with
  | ⟨k, a, b, _⟩ =>
    if k = 1 then some [gcx q a]
    else if k = 2 then some [g1 6 a, gcx q a, g1 5 a]
    else if k = 3 then some [⟨10, q, a, 0⟩]
    else if k = 4 then some [g1 6 a, g1 4 a, g1 8 a, gcx q a, g1 7 a, g1 4 a, g1 5 a]
    else if k = 5 then some [g1 7 q, g1 7 a, gcx q a, g1 8 a, gcx q a]
    else if k = 6 then some [g1 8 q, g1 8 a, gcx q a, g1 7 a, gcx q a]
    else if k = 9 then some [⟨12, q, a, b⟩]
    else if k = 10 then some [g1 4 b, ⟨12, q, a, b⟩, g1 4 b]
    else if k = 11 then some [gcx b a, ⟨12, q, a, b⟩, gcx b a]
    else none
def cgate (q : Int) (g : Gt) : Option (List Gt) := if validG g 4 = true ∧ inB q 0 3 = true ∧ actsG g q = false then cgl q g else none
theorem cgate_v {q : Int} {g : Gt} (h : validG g 4 = false) : cgate q g = none := by simp [cgate, h]
theorem cgate_q {q : Int} {g : Gt} (h : inB q 0 3 = false) : cgate q g = none := by simp [cgate, h]
theorem cgate_a {q : Int} {g : Gt} (h : actsG g q = true) : cgate q g = none := by simp [cgate, h]
theorem cgate_t {q : Int} {g : Gt} (h1 : validG g 4 = true) (h2 : inB q 0 3 = true) (h3 : actsG g q = false) : cgate q g = cgl q g := by simp [cgate, h1, h2, h3]
theorem valid_k {g : Gt} {n : Int} (h : validG g n = true) : 1 ≤ g.k ∧ g.k ≤ 12 := by
  have hk : ar g.k ≠ 0 := fun e => by rw [validG_k e] at h; cases h
  unfold ar at hk
  split at hk
  · rename_i h1; have := inB_iff.1 h1; omega
  · split at hk
    · rename_i h1; have := inB_iff.1 h1; omega
    · split at hk
      · omega
      · omega
set_option maxRecDepth 100000 in
set_option maxHeartbeats 8000000 in
theorem ControlledGate_impl (q k a b c : Int) (w : World) : Calls Try.prog 71 #[.int .i64 q, .agg #[.int .i64 k, .int .i64 a, .int .i64 b, .int .i64 c]] w
    (RetRow2 46 4 w (cgate q ⟨k, a, b, c⟩).isSome ((cgate q ⟨k, a, b, c⟩).getD []).length (((cgate q ⟨k, a, b, c⟩).getD []).flatMap gcells)) := by
  cases hv : validG ⟨k, a, b, c⟩ 4
  · have hcg := cgate_v (q := q) hv
    rw [hcg]
    go_enter Try.func71, Try.ntmps71
    go_wp2_with (first | (go_at_call 103; refine (IsValidGate_impl _ _ _ _ _ _).mono ?_; rintro e w1 ⟨rfl, b1, s1⟩; simp at s1; obtain ⟨p0, p1, p2, p3⟩ := boxcells4 (lay := b1) (boxed1_0 _ _)) | (go_at_call 66; refine (in_any _ _ _ _).mono ?_; rintro e w' ⟨rfl, rfl⟩) | (go_at_call 106; refine (ActsOn_impl _ _ _ _ _ _).mono ?_; rintro e w2 ⟨rfl, b2, s2⟩; obtain ⟨q0, q1, q2, q3⟩ := boxcells4 (lay := b1.trans (b2.mono b1.size)) (boxed1_0 _ _); have hlt : w.heap.size < w2.heap.size := by omega) | (go_at_call 78; refine (one_any _ _ _).mono ?_; rintro e w' ⟨rfl, hb, hs⟩; (try simp at hs)) | (go_at_call 79; refine (cx_any _ _ _).mono ?_; rintro e w' ⟨rfl, hb, hs⟩; (try simp at hs)))
    go_ret2
    exact retRow2_nil (by first | omega | (simp; done) | (simp; omega)) (by repeat (first | exact Below.refl _ _ | assumption | (refine Below.trans ?_ (Below.mono (by assumption) (by first | omega | (simp; done) | (simp; omega)))) | (with_reducible refine Below.drew ?_) | (with_reducible refine Below.alloc ?_ (by first | omega | (simp; done) | (simp; omega)) _) | (with_reducible refine Below.setCell ?_ (by first | omega | (simp; done) | (simp; omega)) _)))
  cases hq : inB q 0 3
  · have hcg := cgate_q (g := ⟨k, a, b, c⟩) hq
    rw [hcg]
    go_enter Try.func71, Try.ntmps71
    go_wp2_with (first | (go_at_call 103; refine (IsValidGate_impl _ _ _ _ _ _).mono ?_; rintro e w1 ⟨rfl, b1, s1⟩; simp at s1; obtain ⟨p0, p1, p2, p3⟩ := boxcells4 (lay := b1) (boxed1_0 _ _)) | (go_at_call 66; refine (in_any _ _ _ _).mono ?_; rintro e w' ⟨rfl, rfl⟩) | (go_at_call 106; refine (ActsOn_impl _ _ _ _ _ _).mono ?_; rintro e w2 ⟨rfl, b2, s2⟩; obtain ⟨q0, q1, q2, q3⟩ := boxcells4 (lay := b1.trans (b2.mono b1.size)) (boxed1_0 _ _); have hlt : w.heap.size < w2.heap.size := by omega) | (go_at_call 78; refine (one_any _ _ _).mono ?_; rintro e w' ⟨rfl, hb, hs⟩; (try simp at hs)) | (go_at_call 79; refine (cx_any _ _ _).mono ?_; rintro e w' ⟨rfl, hb, hs⟩; (try simp at hs)))
    go_ret2
    exact retRow2_nil (by first | omega | (simp; done) | (simp; omega)) (by repeat (first | exact Below.refl _ _ | assumption | (refine Below.trans ?_ (Below.mono (by assumption) (by first | omega | (simp; done) | (simp; omega)))) | (with_reducible refine Below.drew ?_) | (with_reducible refine Below.alloc ?_ (by first | omega | (simp; done) | (simp; omega)) _) | (with_reducible refine Below.setCell ?_ (by first | omega | (simp; done) | (simp; omega)) _)))
  cases ha : actsG ⟨k, a, b, c⟩ q
  rotate_left
  · have hcg := cgate_a ha
    rw [hcg]
    go_enter Try.func71, Try.ntmps71
    go_wp2_with (first | (go_at_call 103; refine (IsValidGate_impl _ _ _ _ _ _).mono ?_; rintro e w1 ⟨rfl, b1, s1⟩; simp at s1; obtain ⟨p0, p1, p2, p3⟩ := boxcells4 (lay := b1) (boxed1_0 _ _)) | (go_at_call 66; refine (in_any _ _ _ _).mono ?_; rintro e w' ⟨rfl, rfl⟩) | (go_at_call 106; refine (ActsOn_impl _ _ _ _ _ _).mono ?_; rintro e w2 ⟨rfl, b2, s2⟩; obtain ⟨q0, q1, q2, q3⟩ := boxcells4 (lay := b1.trans (b2.mono b1.size)) (boxed1_0 _ _); have hlt : w.heap.size < w2.heap.size := by omega) | (go_at_call 78; refine (one_any _ _ _).mono ?_; rintro e w' ⟨rfl, hb, hs⟩; (try simp at hs)) | (go_at_call 79; refine (cx_any _ _ _).mono ?_; rintro e w' ⟨rfl, hb, hs⟩; (try simp at hs)))
    go_ret2
    exact retRow2_nil (by first | omega | (simp; done) | (simp; omega)) (by repeat (first | exact Below.refl _ _ | assumption | (refine Below.trans ?_ (Below.mono (by assumption) (by first | omega | (simp; done) | (simp; omega)))) | (with_reducible refine Below.drew ?_) | (with_reducible refine Below.alloc ?_ (by first | omega | (simp; done) | (simp; omega)) _) | (with_reducible refine Below.setCell ?_ (by first | omega | (simp; done) | (simp; omega)) _)))
  have hcg := cgate_t hv hq ha
  have hkk := valid_k hv
  simp only at hkk
  have hk : k = 1 ∨ k = 2 ∨ k = 3 ∨ k = 4 ∨ k = 5 ∨ k = 6 ∨ k = 7 ∨ k = 8 ∨ k = 9 ∨ k = 10 ∨ k = 11 ∨ k = 12 := by omega
  clear hkk
  rcases hk with rfl | rfl | rfl | rfl | rfl | rfl | rfl | rfl | rfl | rfl | rfl | rfl
  · rw [show cgl q ⟨1, a, b, c⟩ = some [gcx q a] from rfl] at hcg
    rw [hcg]
    clear hcg
    go_enter Try.func71, Try.ntmps71
    go_wp2_with (first | (go_at_call 103; refine (IsValidGate_impl _ _ _ _ _ _).mono ?_; rintro e w1 ⟨rfl, b1, s1⟩; simp at s1; obtain ⟨p0, p1, p2, p3⟩ := boxcells4 (lay := b1) (boxed1_0 _ _)) | (go_at_call 66; refine (in_any _ _ _ _).mono ?_; rintro e w' ⟨rfl, rfl⟩) | (go_at_call 106; refine (ActsOn_impl _ _ _ _ _ _).mono ?_; rintro e w2 ⟨rfl, b2, s2⟩; obtain ⟨q0, q1, q2, q3⟩ := boxcells4 (lay := b1.trans (b2.mono b1.size)) (boxed1_0 _ _); have hlt : w.heap.size < w2.heap.size := by omega) | (go_at_call 78; refine (one_any _ _ _).mono ?_; rintro e w' ⟨rfl, hb, hs⟩; (try simp at hs)) | (go_at_call 79; refine (cx_any _ _ _).mono ?_; rintro e w' ⟨rfl, hb, hs⟩; (try simp at hs)))
    go_ret2
    refine retRow2_lit ?_ ?_ ?_ ?_ ?_ ?_
    · exact (by first | omega | (simp; done) | (simp; omega))
    · exact (by repeat (first | exact Below.refl _ _ | assumption | (refine Below.trans ?_ (Below.mono (by assumption) (by first | omega | (simp; done) | (simp; omega)))) | (with_reducible refine Below.drew ?_) | (with_reducible refine Below.alloc ?_ (by first | omega | (simp; done) | (simp; omega)) _) | (with_reducible refine Below.setCell ?_ (by first | omega | (simp; done) | (simp; omega)) _)))
    · rfl
    · simp [maxLen]
    · rfl
    · first | rfl | simp
  · rw [show cgl q ⟨2, a, b, c⟩ = some [g1 6 a, gcx q a, g1 5 a] from rfl] at hcg
    rw [hcg]
    clear hcg
    go_enter Try.func71, Try.ntmps71
    go_wp2_with (first | (go_at_call 103; refine (IsValidGate_impl _ _ _ _ _ _).mono ?_; rintro e w1 ⟨rfl, b1, s1⟩; simp at s1; obtain ⟨p0, p1, p2, p3⟩ := boxcells4 (lay := b1) (boxed1_0 _ _)) | (go_at_call 66; refine (in_any _ _ _ _).mono ?_; rintro e w' ⟨rfl, rfl⟩) | (go_at_call 106; refine (ActsOn_impl _ _ _ _ _ _).mono ?_; rintro e w2 ⟨rfl, b2, s2⟩; obtain ⟨q0, q1, q2, q3⟩ := boxcells4 (lay := b1.trans (b2.mono b1.size)) (boxed1_0 _ _); have hlt : w.heap.size < w2.heap.size := by omega) | (go_at_call 78; refine (one_any _ _ _).mono ?_; rintro e w' ⟨rfl, hb, hs⟩; (try simp at hs)) | (go_at_call 79; refine (cx_any _ _ _).mono ?_; rintro e w' ⟨rfl, hb, hs⟩; (try simp at hs)))
    go_ret2
    refine retRow2_lit ?_ ?_ ?_ ?_ ?_ ?_
    · exact (by first | omega | (simp; done) | (simp; omega))
    · exact (by repeat (first | exact Below.refl _ _ | assumption | (refine Below.trans ?_ (Below.mono (by assumption) (by first | omega | (simp; done) | (simp; omega)))) | (with_reducible refine Below.drew ?_) | (with_reducible refine Below.alloc ?_ (by first | omega | (simp; done) | (simp; omega)) _) | (with_reducible refine Below.setCell ?_ (by first | omega | (simp; done) | (simp; omega)) _)))
    · rfl
    · simp [maxLen]
    · rfl
    · first | rfl | simp
  · rw [show cgl q ⟨3, a, b, c⟩ = some [⟨10, q, a, 0⟩] from rfl] at hcg
    rw [hcg]
    clear hcg
    go_enter Try.func71, Try.ntmps71
    go_wp2_with (first | (go_at_call 103; refine (IsValidGate_impl _ _ _ _ _ _).mono ?_; rintro e w1 ⟨rfl, b1, s1⟩; simp at s1; obtain ⟨p0, p1, p2, p3⟩ := boxcells4 (lay := b1) (boxed1_0 _ _)) | (go_at_call 66; refine (in_any _ _ _ _).mono ?_; rintro e w' ⟨rfl, rfl⟩) | (go_at_call 106; refine (ActsOn_impl _ _ _ _ _ _).mono ?_; rintro e w2 ⟨rfl, b2, s2⟩; obtain ⟨q0, q1, q2, q3⟩ := boxcells4 (lay := b1.trans (b2.mono b1.size)) (boxed1_0 _ _); have hlt : w.heap.size < w2.heap.size := by omega) | (go_at_call 78; refine (one_any _ _ _).mono ?_; rintro e w' ⟨rfl, hb, hs⟩; (try simp at hs)) | (go_at_call 79; refine (cx_any _ _ _).mono ?_; rintro e w' ⟨rfl, hb, hs⟩; (try simp at hs)))
    go_ret2
    refine retRow2_lit ?_ ?_ ?_ ?_ ?_ ?_
    · exact (by first | omega | (simp; done) | (simp; omega))
    · exact (by repeat (first | exact Below.refl _ _ | assumption | (refine Below.trans ?_ (Below.mono (by assumption) (by first | omega | (simp; done) | (simp; omega)))) | (with_reducible refine Below.drew ?_) | (with_reducible refine Below.alloc ?_ (by first | omega | (simp; done) | (simp; omega)) _) | (with_reducible refine Below.setCell ?_ (by first | omega | (simp; done) | (simp; omega)) _)))
    · rfl
    · simp [maxLen]
    · rfl
    · first | rfl | simp
  · rw [show cgl q ⟨4, a, b, c⟩ = some [g1 6 a, g1 4 a, g1 8 a, gcx q a, g1 7 a, g1 4 a, g1 5 a] from rfl] at hcg
    rw [hcg]
    clear hcg
    go_enter Try.func71, Try.ntmps71
    go_wp2_with (first | (go_at_call 103; refine (IsValidGate_impl _ _ _ _ _ _).mono ?_; rintro e w1 ⟨rfl, b1, s1⟩; simp at s1; obtain ⟨p0, p1, p2, p3⟩ := boxcells4 (lay := b1) (boxed1_0 _ _)) | (go_at_call 66; refine (in_any _ _ _ _).mono ?_; rintro e w' ⟨rfl, rfl⟩) | (go_at_call 106; refine (ActsOn_impl _ _ _ _ _ _).mono ?_; rintro e w2 ⟨rfl, b2, s2⟩; obtain ⟨q0, q1, q2, q3⟩ := boxcells4 (lay := b1.trans (b2.mono b1.size)) (boxed1_0 _ _); have hlt : w.heap.size < w2.heap.size := by omega) | (go_at_call 78; refine (one_any _ _ _).mono ?_; rintro e w' ⟨rfl, hb, hs⟩; (try simp at hs)) | (go_at_call 79; refine (cx_any _ _ _).mono ?_; rintro e w' ⟨rfl, hb, hs⟩; (try simp at hs)))
    go_ret2
    refine retRow2_lit ?_ ?_ ?_ ?_ ?_ ?_
    · exact (by first | omega | (simp; done) | (simp; omega))
    · exact (by repeat (first | exact Below.refl _ _ | assumption | (refine Below.trans ?_ (Below.mono (by assumption) (by first | omega | (simp; done) | (simp; omega)))) | (with_reducible refine Below.drew ?_) | (with_reducible refine Below.alloc ?_ (by first | omega | (simp; done) | (simp; omega)) _) | (with_reducible refine Below.setCell ?_ (by first | omega | (simp; done) | (simp; omega)) _)))
    · rfl
    · simp [maxLen]
    · rfl
    · first | rfl | simp
  · rw [show cgl q ⟨5, a, b, c⟩ = some [g1 7 q, g1 7 a, gcx q a, g1 8 a, gcx q a] from rfl] at hcg
    rw [hcg]
    clear hcg
    go_enter Try.func71, Try.ntmps71
    go_wp2_with (first | (go_at_call 103; refine (IsValidGate_impl _ _ _ _ _ _).mono ?_; rintro e w1 ⟨rfl, b1, s1⟩; simp at s1; obtain ⟨p0, p1, p2, p3⟩ := boxcells4 (lay := b1) (boxed1_0 _ _)) | (go_at_call 66; refine (in_any _ _ _ _).mono ?_; rintro e w' ⟨rfl, rfl⟩) | (go_at_call 106; refine (ActsOn_impl _ _ _ _ _ _).mono ?_; rintro e w2 ⟨rfl, b2, s2⟩; obtain ⟨q0, q1, q2, q3⟩ := boxcells4 (lay := b1.trans (b2.mono b1.size)) (boxed1_0 _ _); have hlt : w.heap.size < w2.heap.size := by omega) | (go_at_call 78; refine (one_any _ _ _).mono ?_; rintro e w' ⟨rfl, hb, hs⟩; (try simp at hs)) | (go_at_call 79; refine (cx_any _ _ _).mono ?_; rintro e w' ⟨rfl, hb, hs⟩; (try simp at hs)))
    go_ret2
    refine retRow2_lit ?_ ?_ ?_ ?_ ?_ ?_
    · exact (by first | omega | (simp; done) | (simp; omega))
    · exact (by repeat (first | exact Below.refl _ _ | assumption | (refine Below.trans ?_ (Below.mono (by assumption) (by first | omega | (simp; done) | (simp; omega)))) | (with_reducible refine Below.drew ?_) | (with_reducible refine Below.alloc ?_ (by first | omega | (simp; done) | (simp; omega)) _) | (with_reducible refine Below.setCell ?_ (by first | omega | (simp; done) | (simp; omega)) _)))
    · rfl
    · simp [maxLen]
    · rfl
    · first | rfl | simp
  · rw [show cgl q ⟨6, a, b, c⟩ = some [g1 8 q, g1 8 a, gcx q a, g1 7 a, gcx q a] from rfl] at hcg
    rw [hcg]
    clear hcg
    go_enter Try.func71, Try.ntmps71
    go_wp2_with (first | (go_at_call 103; refine (IsValidGate_impl _ _ _ _ _ _).mono ?_; rintro e w1 ⟨rfl, b1, s1⟩; simp at s1; obtain ⟨p0, p1, p2, p3⟩ := boxcells4 (lay := b1) (boxed1_0 _ _)) | (go_at_call 66; refine (in_any _ _ _ _).mono ?_; rintro e w' ⟨rfl, rfl⟩) | (go_at_call 106; refine (ActsOn_impl _ _ _ _ _ _).mono ?_; rintro e w2 ⟨rfl, b2, s2⟩; obtain ⟨q0, q1, q2, q3⟩ := boxcells4 (lay := b1.trans (b2.mono b1.size)) (boxed1_0 _ _); have hlt : w.heap.size < w2.heap.size := by omega) | (go_at_call 78; refine (one_any _ _ _).mono ?_; rintro e w' ⟨rfl, hb, hs⟩; (try simp at hs)) | (go_at_call 79; refine (cx_any _ _ _).mono ?_; rintro e w' ⟨rfl, hb, hs⟩; (try simp at hs)))
    go_ret2
    refine retRow2_lit ?_ ?_ ?_ ?_ ?_ ?_
    · exact (by first | omega | (simp; done) | (simp; omega))
    · exact (by repeat (first | exact Below.refl _ _ | assumption | (refine Below.trans ?_ (Below.mono (by assumption) (by first | omega | (simp; done) | (simp; omega)))) | (with_reducible refine Below.drew ?_) | (with_reducible refine Below.alloc ?_ (by first | omega | (simp; done) | (simp; omega)) _) | (with_reducible refine Below.setCell ?_ (by first | omega | (simp; done) | (simp; omega)) _)))
    · rfl
    · simp [maxLen]
    · rfl
    · first | rfl | simp
  · rw [show cgl q ⟨7, a, b, c⟩ = none from rfl] at hcg
    rw [hcg]
    clear hcg
    go_enter Try.func71, Try.ntmps71
    go_wp2_with (first | (go_at_call 103; refine (IsValidGate_impl _ _ _ _ _ _).mono ?_; rintro e w1 ⟨rfl, b1, s1⟩; simp at s1; obtain ⟨p0, p1, p2, p3⟩ := boxcells4 (lay := b1) (boxed1_0 _ _)) | (go_at_call 66; refine (in_any _ _ _ _).mono ?_; rintro e w' ⟨rfl, rfl⟩) | (go_at_call 106; refine (ActsOn_impl _ _ _ _ _ _).mono ?_; rintro e w2 ⟨rfl, b2, s2⟩; obtain ⟨q0, q1, q2, q3⟩ := boxcells4 (lay := b1.trans (b2.mono b1.size)) (boxed1_0 _ _); have hlt : w.heap.size < w2.heap.size := by omega) | (go_at_call 78; refine (one_any _ _ _).mono ?_; rintro e w' ⟨rfl, hb, hs⟩; (try simp at hs)) | (go_at_call 79; refine (cx_any _ _ _).mono ?_; rintro e w' ⟨rfl, hb, hs⟩; (try simp at hs)))
    go_ret2
    exact retRow2_nil (by first | omega | (simp; done) | (simp; omega)) (by repeat (first | exact Below.refl _ _ | assumption | (refine Below.trans ?_ (Below.mono (by assumption) (by first | omega | (simp; done) | (simp; omega)))) | (with_reducible refine Below.drew ?_) | (with_reducible refine Below.alloc ?_ (by first | omega | (simp; done) | (simp; omega)) _) | (with_reducible refine Below.setCell ?_ (by first | omega | (simp; done) | (simp; omega)) _)))
  · rw [show cgl q ⟨8, a, b, c⟩ = none from rfl] at hcg
    rw [hcg]
    clear hcg
    go_enter Try.func71, Try.ntmps71
    go_wp2_with (first | (go_at_call 103; refine (IsValidGate_impl _ _ _ _ _ _).mono ?_; rintro e w1 ⟨rfl, b1, s1⟩; simp at s1; obtain ⟨p0, p1, p2, p3⟩ := boxcells4 (lay := b1) (boxed1_0 _ _)) | (go_at_call 66; refine (in_any _ _ _ _).mono ?_; rintro e w' ⟨rfl, rfl⟩) | (go_at_call 106; refine (ActsOn_impl _ _ _ _ _ _).mono ?_; rintro e w2 ⟨rfl, b2, s2⟩; obtain ⟨q0, q1, q2, q3⟩ := boxcells4 (lay := b1.trans (b2.mono b1.size)) (boxed1_0 _ _); have hlt : w.heap.size < w2.heap.size := by omega) | (go_at_call 78; refine (one_any _ _ _).mono ?_; rintro e w' ⟨rfl, hb, hs⟩; (try simp at hs)) | (go_at_call 79; refine (cx_any _ _ _).mono ?_; rintro e w' ⟨rfl, hb, hs⟩; (try simp at hs)))
    go_ret2
    exact retRow2_nil (by first | omega | (simp; done) | (simp; omega)) (by repeat (first | exact Below.refl _ _ | assumption | (refine Below.trans ?_ (Below.mono (by assumption) (by first | omega | (simp; done) | (simp; omega)))) | (with_reducible refine Below.drew ?_) | (with_reducible refine Below.alloc ?_ (by first | omega | (simp; done) | (simp; omega)) _) | (with_reducible refine Below.setCell ?_ (by first | omega | (simp; done) | (simp; omega)) _)))
  · rw [show cgl q ⟨9, a, b, c⟩ = some [⟨12, q, a, b⟩] from rfl] at hcg
    rw [hcg]
    clear hcg
    go_enter Try.func71, Try.ntmps71
    go_wp2_with (first | (go_at_call 103; refine (IsValidGate_impl _ _ _ _ _ _).mono ?_; rintro e w1 ⟨rfl, b1, s1⟩; simp at s1; obtain ⟨p0, p1, p2, p3⟩ := boxcells4 (lay := b1) (boxed1_0 _ _)) | (go_at_call 66; refine (in_any _ _ _ _).mono ?_; rintro e w' ⟨rfl, rfl⟩) | (go_at_call 106; refine (ActsOn_impl _ _ _ _ _ _).mono ?_; rintro e w2 ⟨rfl, b2, s2⟩; obtain ⟨q0, q1, q2, q3⟩ := boxcells4 (lay := b1.trans (b2.mono b1.size)) (boxed1_0 _ _); have hlt : w.heap.size < w2.heap.size := by omega) | (go_at_call 78; refine (one_any _ _ _).mono ?_; rintro e w' ⟨rfl, hb, hs⟩; (try simp at hs)) | (go_at_call 79; refine (cx_any _ _ _).mono ?_; rintro e w' ⟨rfl, hb, hs⟩; (try simp at hs)))
    go_ret2
    refine retRow2_lit ?_ ?_ ?_ ?_ ?_ ?_
    · exact (by first | omega | (simp; done) | (simp; omega))
    · exact (by repeat (first | exact Below.refl _ _ | assumption | (refine Below.trans ?_ (Below.mono (by assumption) (by first | omega | (simp; done) | (simp; omega)))) | (with_reducible refine Below.drew ?_) | (with_reducible refine Below.alloc ?_ (by first | omega | (simp; done) | (simp; omega)) _) | (with_reducible refine Below.setCell ?_ (by first | omega | (simp; done) | (simp; omega)) _)))
    · rfl
    · simp [maxLen]
    · rfl
    · first | rfl | simp
  · rw [show cgl q ⟨10, a, b, c⟩ = some [g1 4 b, ⟨12, q, a, b⟩, g1 4 b] from rfl] at hcg
    rw [hcg]
    clear hcg
    go_enter Try.func71, Try.ntmps71
    go_wp2_with (first | (go_at_call 103; refine (IsValidGate_impl _ _ _ _ _ _).mono ?_; rintro e w1 ⟨rfl, b1, s1⟩; simp at s1; obtain ⟨p0, p1, p2, p3⟩ := boxcells4 (lay := b1) (boxed1_0 _ _)) | (go_at_call 66; refine (in_any _ _ _ _).mono ?_; rintro e w' ⟨rfl, rfl⟩) | (go_at_call 106; refine (ActsOn_impl _ _ _ _ _ _).mono ?_; rintro e w2 ⟨rfl, b2, s2⟩; obtain ⟨q0, q1, q2, q3⟩ := boxcells4 (lay := b1.trans (b2.mono b1.size)) (boxed1_0 _ _); have hlt : w.heap.size < w2.heap.size := by omega) | (go_at_call 78; refine (one_any _ _ _).mono ?_; rintro e w' ⟨rfl, hb, hs⟩; (try simp at hs)) | (go_at_call 79; refine (cx_any _ _ _).mono ?_; rintro e w' ⟨rfl, hb, hs⟩; (try simp at hs)))
    go_ret2
    refine retRow2_lit ?_ ?_ ?_ ?_ ?_ ?_
    · exact (by first | omega | (simp; done) | (simp; omega))
    · exact (by repeat (first | exact Below.refl _ _ | assumption | (refine Below.trans ?_ (Below.mono (by assumption) (by first | omega | (simp; done) | (simp; omega)))) | (with_reducible refine Below.drew ?_) | (with_reducible refine Below.alloc ?_ (by first | omega | (simp; done) | (simp; omega)) _) | (with_reducible refine Below.setCell ?_ (by first | omega | (simp; done) | (simp; omega)) _)))
    · rfl
    · simp [maxLen]
    · rfl
    · first | rfl | simp
  · rw [show cgl q ⟨11, a, b, c⟩ = some [gcx b a, ⟨12, q, a, b⟩, gcx b a] from rfl] at hcg
    rw [hcg]
    clear hcg
    go_enter Try.func71, Try.ntmps71
    go_wp2_with (first | (go_at_call 103; refine (IsValidGate_impl _ _ _ _ _ _).mono ?_; rintro e w1 ⟨rfl, b1, s1⟩; simp at s1; obtain ⟨p0, p1, p2, p3⟩ := boxcells4 (lay := b1) (boxed1_0 _ _)) | (go_at_call 66; refine (in_any _ _ _ _).mono ?_; rintro e w' ⟨rfl, rfl⟩) | (go_at_call 106; refine (ActsOn_impl _ _ _ _ _ _).mono ?_; rintro e w2 ⟨rfl, b2, s2⟩; obtain ⟨q0, q1, q2, q3⟩ := boxcells4 (lay := b1.trans (b2.mono b1.size)) (boxed1_0 _ _); have hlt : w.heap.size < w2.heap.size := by omega) | (go_at_call 78; refine (one_any _ _ _).mono ?_; rintro e w' ⟨rfl, hb, hs⟩; (try simp at hs)) | (go_at_call 79; refine (cx_any _ _ _).mono ?_; rintro e w' ⟨rfl, hb, hs⟩; (try simp at hs)))
    go_ret2
    refine retRow2_lit ?_ ?_ ?_ ?_ ?_ ?_
    · exact (by first | omega | (simp; done) | (simp; omega))
    · exact (by repeat (first | exact Below.refl _ _ | assumption | (refine Below.trans ?_ (Below.mono (by assumption) (by first | omega | (simp; done) | (simp; omega)))) | (with_reducible refine Below.drew ?_) | (with_reducible refine Below.alloc ?_ (by first | omega | (simp; done) | (simp; omega)) _) | (with_reducible refine Below.setCell ?_ (by first | omega | (simp; done) | (simp; omega)) _)))
    · rfl
    · simp [maxLen]
    · rfl
    · first | rfl | simp
  · rw [show cgl q ⟨12, a, b, c⟩ = none from rfl] at hcg
    rw [hcg]
    clear hcg
    go_enter Try.func71, Try.ntmps71
    go_wp2_with (first | (go_at_call 103; refine (IsValidGate_impl _ _ _ _ _ _).mono ?_; rintro e w1 ⟨rfl, b1, s1⟩; simp at s1; obtain ⟨p0, p1, p2, p3⟩ := boxcells4 (lay := b1) (boxed1_0 _ _)) | (go_at_call 66; refine (in_any _ _ _ _).mono ?_; rintro e w' ⟨rfl, rfl⟩) | (go_at_call 106; refine (ActsOn_impl _ _ _ _ _ _).mono ?_; rintro e w2 ⟨rfl, b2, s2⟩; obtain ⟨q0, q1, q2, q3⟩ := boxcells4 (lay := b1.trans (b2.mono b1.size)) (boxed1_0 _ _); have hlt : w.heap.size < w2.heap.size := by omega) | (go_at_call 78; refine (one_any _ _ _).mono ?_; rintro e w' ⟨rfl, hb, hs⟩; (try simp at hs)) | (go_at_call 79; refine (cx_any _ _ _).mono ?_; rintro e w' ⟨rfl, hb, hs⟩; (try simp at hs)))
    go_ret2
    exact retRow2_nil (by first | omega | (simp; done) | (simp; omega)) (by repeat (first | exact Below.refl _ _ | assumption | (refine Below.trans ?_ (Below.mono (by assumption) (by first | omega | (simp; done) | (simp; omega)))) | (with_reducible refine Below.drew ?_) | (with_reducible refine Below.alloc ?_ (by first | omega | (simp; done) | (simp; omega)) _) | (with_reducible refine Below.setCell ?_ (by first | omega | (simp; done) | (simp; omega)) _)))
set_option maxRecDepth 100000 in
set_option maxHeartbeats 8000000 in
theorem ControlledGate_spec (q k a b c : Int) (w : World) : Calls Try.prog 68 #[.int .i64 q, .agg #[.int .i64 k, .int .i64 a, .int .i64 b, .int .i64 c]] w
    (RetRow2 46 4 w (cgate q ⟨k, a, b, c⟩).isSome ((cgate q ⟨k, a, b, c⟩).getD []).length (((cgate q ⟨k, a, b, c⟩).getD []).flatMap gcells)) := by
  cases hv : validG ⟨k, a, b, c⟩ 4
  · have hcg := cgate_v (q := q) hv
    rw [hcg]
    go_enter Try.func68, Try.ntmps68
    go_wp2_with (first | (go_at_call 102; refine (IsValidGate_spec _ _ _ _ _ _).mono ?_; rintro e w1 ⟨rfl, b1, s1⟩; simp at s1; obtain ⟨p0, p1, p2, p3⟩ := boxcells4 (lay := b1) (boxed1_0 _ _)) | (go_at_call 64; refine (l1In_any _ _ _ _).mono ?_; rintro e w' ⟨rfl, rfl⟩) | (go_at_call 104; refine (ActsOn_spec _ _ _ _ _ _).mono ?_; rintro e w2 ⟨rfl, b2, s2⟩; obtain ⟨q0, q1, q2, q3⟩ := boxcells4 (lay := b1.trans (b2.mono b1.size)) (boxed1_0 _ _); have hlt : w.heap.size < w2.heap.size := by omega) | (go_at_call 80; refine (l14One_any _ _ _).mono ?_; rintro e w' ⟨rfl, hb, hs⟩; (try simp at hs); (try (obtain ⟨r0, r1, r2, r3⟩ := boxcells4 (lay := hb) (boxed1_0 w2 _)))) | (go_at_call 81; refine (l14Cx_any _ _ _).mono ?_; rintro e w' ⟨rfl, hb, hs⟩; (try simp at hs); (try (obtain ⟨r0, r1, r2, r3⟩ := boxcells4 (lay := hb) (boxed1_0 w2 _)))))
    go_ret2
    refine retRow2_lit ?_ ?_ ?_ ?_ ?_ ?_
    · exact (by first | omega | (simp; done) | (simp; omega))
    · exact (by repeat (first | exact Below.refl _ _ | assumption | (refine Below.trans ?_ (Below.mono (by assumption) (by first | omega | (simp; done) | (simp; omega)))) | (with_reducible refine Below.drew ?_) | (with_reducible refine Below.alloc ?_ (by first | omega | (simp; done) | (simp; omega)) _) | (with_reducible refine Below.setCell ?_ (by first | omega | (simp; done) | (simp; omega)) _)))
    · rfl
    · simp [maxLen]
    · rfl
    · first | rfl | simp
  cases hq : inB q 0 3
  · have hcg := cgate_q (g := ⟨k, a, b, c⟩) hq
    rw [hcg]
    go_enter Try.func68, Try.ntmps68
    go_wp2_with (first | (go_at_call 102; refine (IsValidGate_spec _ _ _ _ _ _).mono ?_; rintro e w1 ⟨rfl, b1, s1⟩; simp at s1; obtain ⟨p0, p1, p2, p3⟩ := boxcells4 (lay := b1) (boxed1_0 _ _)) | (go_at_call 64; refine (l1In_any _ _ _ _).mono ?_; rintro e w' ⟨rfl, rfl⟩) | (go_at_call 104; refine (ActsOn_spec _ _ _ _ _ _).mono ?_; rintro e w2 ⟨rfl, b2, s2⟩; obtain ⟨q0, q1, q2, q3⟩ := boxcells4 (lay := b1.trans (b2.mono b1.size)) (boxed1_0 _ _); have hlt : w.heap.size < w2.heap.size := by omega) | (go_at_call 80; refine (l14One_any _ _ _).mono ?_; rintro e w' ⟨rfl, hb, hs⟩; (try simp at hs); (try (obtain ⟨r0, r1, r2, r3⟩ := boxcells4 (lay := hb) (boxed1_0 w2 _)))) | (go_at_call 81; refine (l14Cx_any _ _ _).mono ?_; rintro e w' ⟨rfl, hb, hs⟩; (try simp at hs); (try (obtain ⟨r0, r1, r2, r3⟩ := boxcells4 (lay := hb) (boxed1_0 w2 _)))))
    go_ret2
    refine retRow2_lit ?_ ?_ ?_ ?_ ?_ ?_
    · exact (by first | omega | (simp; done) | (simp; omega))
    · exact (by repeat (first | exact Below.refl _ _ | assumption | (refine Below.trans ?_ (Below.mono (by assumption) (by first | omega | (simp; done) | (simp; omega)))) | (with_reducible refine Below.drew ?_) | (with_reducible refine Below.alloc ?_ (by first | omega | (simp; done) | (simp; omega)) _) | (with_reducible refine Below.setCell ?_ (by first | omega | (simp; done) | (simp; omega)) _)))
    · rfl
    · simp [maxLen]
    · rfl
    · first | rfl | simp
  cases ha : actsG ⟨k, a, b, c⟩ q
  rotate_left
  · have hcg := cgate_a ha
    rw [hcg]
    go_enter Try.func68, Try.ntmps68
    go_wp2_with (first | (go_at_call 102; refine (IsValidGate_spec _ _ _ _ _ _).mono ?_; rintro e w1 ⟨rfl, b1, s1⟩; simp at s1; obtain ⟨p0, p1, p2, p3⟩ := boxcells4 (lay := b1) (boxed1_0 _ _)) | (go_at_call 64; refine (l1In_any _ _ _ _).mono ?_; rintro e w' ⟨rfl, rfl⟩) | (go_at_call 104; refine (ActsOn_spec _ _ _ _ _ _).mono ?_; rintro e w2 ⟨rfl, b2, s2⟩; obtain ⟨q0, q1, q2, q3⟩ := boxcells4 (lay := b1.trans (b2.mono b1.size)) (boxed1_0 _ _); have hlt : w.heap.size < w2.heap.size := by omega) | (go_at_call 80; refine (l14One_any _ _ _).mono ?_; rintro e w' ⟨rfl, hb, hs⟩; (try simp at hs); (try (obtain ⟨r0, r1, r2, r3⟩ := boxcells4 (lay := hb) (boxed1_0 w2 _)))) | (go_at_call 81; refine (l14Cx_any _ _ _).mono ?_; rintro e w' ⟨rfl, hb, hs⟩; (try simp at hs); (try (obtain ⟨r0, r1, r2, r3⟩ := boxcells4 (lay := hb) (boxed1_0 w2 _)))))
    go_ret2
    refine retRow2_lit ?_ ?_ ?_ ?_ ?_ ?_
    · exact (by first | omega | (simp; done) | (simp; omega))
    · exact (by repeat (first | exact Below.refl _ _ | assumption | (refine Below.trans ?_ (Below.mono (by assumption) (by first | omega | (simp; done) | (simp; omega)))) | (with_reducible refine Below.drew ?_) | (with_reducible refine Below.alloc ?_ (by first | omega | (simp; done) | (simp; omega)) _) | (with_reducible refine Below.setCell ?_ (by first | omega | (simp; done) | (simp; omega)) _)))
    · rfl
    · simp [maxLen]
    · rfl
    · first | rfl | simp
  have hcg := cgate_t hv hq ha
  have hkk := valid_k hv
  simp only at hkk
  have hk : k = 1 ∨ k = 2 ∨ k = 3 ∨ k = 4 ∨ k = 5 ∨ k = 6 ∨ k = 7 ∨ k = 8 ∨ k = 9 ∨ k = 10 ∨ k = 11 ∨ k = 12 := by omega
  clear hkk
  rcases hk with rfl | rfl | rfl | rfl | rfl | rfl | rfl | rfl | rfl | rfl | rfl | rfl
  · rw [show cgl q ⟨1, a, b, c⟩ = some [gcx q a] from rfl] at hcg
    rw [hcg]
    clear hcg
    go_enter Try.func68, Try.ntmps68
    go_wp2_with (first | (go_at_call 102; refine (IsValidGate_spec _ _ _ _ _ _).mono ?_; rintro e w1 ⟨rfl, b1, s1⟩; simp at s1; obtain ⟨p0, p1, p2, p3⟩ := boxcells4 (lay := b1) (boxed1_0 _ _)) | (go_at_call 64; refine (l1In_any _ _ _ _).mono ?_; rintro e w' ⟨rfl, rfl⟩) | (go_at_call 104; refine (ActsOn_spec _ _ _ _ _ _).mono ?_; rintro e w2 ⟨rfl, b2, s2⟩; obtain ⟨q0, q1, q2, q3⟩ := boxcells4 (lay := b1.trans (b2.mono b1.size)) (boxed1_0 _ _); have hlt : w.heap.size < w2.heap.size := by omega) | (go_at_call 80; refine (l14One_any _ _ _).mono ?_; rintro e w' ⟨rfl, hb, hs⟩; (try simp at hs); (try (obtain ⟨r0, r1, r2, r3⟩ := boxcells4 (lay := hb) (boxed1_0 w2 _)))) | (go_at_call 81; refine (l14Cx_any _ _ _).mono ?_; rintro e w' ⟨rfl, hb, hs⟩; (try simp at hs); (try (obtain ⟨r0, r1, r2, r3⟩ := boxcells4 (lay := hb) (boxed1_0 w2 _)))))
    go_ret2
    refine retRow2_lit ?_ ?_ ?_ ?_ ?_ ?_
    · exact (by first | omega | (simp; done) | (simp; omega))
    · exact (by repeat (first | exact Below.refl _ _ | assumption | (refine Below.trans ?_ (Below.mono (by assumption) (by first | omega | (simp; done) | (simp; omega)))) | (with_reducible refine Below.drew ?_) | (with_reducible refine Below.alloc ?_ (by first | omega | (simp; done) | (simp; omega)) _) | (with_reducible refine Below.setCell ?_ (by first | omega | (simp; done) | (simp; omega)) _)))
    · rfl
    · simp [maxLen]
    · rfl
    · first | rfl | simp
  · rw [show cgl q ⟨2, a, b, c⟩ = some [g1 6 a, gcx q a, g1 5 a] from rfl] at hcg
    rw [hcg]
    clear hcg
    go_enter Try.func68, Try.ntmps68
    go_wp2_with (first | (go_at_call 102; refine (IsValidGate_spec _ _ _ _ _ _).mono ?_; rintro e w1 ⟨rfl, b1, s1⟩; simp at s1; obtain ⟨p0, p1, p2, p3⟩ := boxcells4 (lay := b1) (boxed1_0 _ _)) | (go_at_call 64; refine (l1In_any _ _ _ _).mono ?_; rintro e w' ⟨rfl, rfl⟩) | (go_at_call 104; refine (ActsOn_spec _ _ _ _ _ _).mono ?_; rintro e w2 ⟨rfl, b2, s2⟩; obtain ⟨q0, q1, q2, q3⟩ := boxcells4 (lay := b1.trans (b2.mono b1.size)) (boxed1_0 _ _); have hlt : w.heap.size < w2.heap.size := by omega) | (go_at_call 80; refine (l14One_any _ _ _).mono ?_; rintro e w' ⟨rfl, hb, hs⟩; (try simp at hs); (try (obtain ⟨r0, r1, r2, r3⟩ := boxcells4 (lay := hb) (boxed1_0 w2 _)))) | (go_at_call 81; refine (l14Cx_any _ _ _).mono ?_; rintro e w' ⟨rfl, hb, hs⟩; (try simp at hs); (try (obtain ⟨r0, r1, r2, r3⟩ := boxcells4 (lay := hb) (boxed1_0 w2 _)))))
    go_ret2
    refine retRow2_lit ?_ ?_ ?_ ?_ ?_ ?_
    · exact (by first | omega | (simp; done) | (simp; omega))
    · exact (by repeat (first | exact Below.refl _ _ | assumption | (refine Below.trans ?_ (Below.mono (by assumption) (by first | omega | (simp; done) | (simp; omega)))) | (with_reducible refine Below.drew ?_) | (with_reducible refine Below.alloc ?_ (by first | omega | (simp; done) | (simp; omega)) _) | (with_reducible refine Below.setCell ?_ (by first | omega | (simp; done) | (simp; omega)) _)))
    · rfl
    · simp [maxLen]
    · rfl
    · first | rfl | simp
  · rw [show cgl q ⟨3, a, b, c⟩ = some [⟨10, q, a, 0⟩] from rfl] at hcg
    rw [hcg]
    clear hcg
    go_enter Try.func68, Try.ntmps68
    go_wp2_with (first | (go_at_call 102; refine (IsValidGate_spec _ _ _ _ _ _).mono ?_; rintro e w1 ⟨rfl, b1, s1⟩; simp at s1; obtain ⟨p0, p1, p2, p3⟩ := boxcells4 (lay := b1) (boxed1_0 _ _)) | (go_at_call 64; refine (l1In_any _ _ _ _).mono ?_; rintro e w' ⟨rfl, rfl⟩) | (go_at_call 104; refine (ActsOn_spec _ _ _ _ _ _).mono ?_; rintro e w2 ⟨rfl, b2, s2⟩; obtain ⟨q0, q1, q2, q3⟩ := boxcells4 (lay := b1.trans (b2.mono b1.size)) (boxed1_0 _ _); have hlt : w.heap.size < w2.heap.size := by omega) | (go_at_call 80; refine (l14One_any _ _ _).mono ?_; rintro e w' ⟨rfl, hb, hs⟩; (try simp at hs); (try (obtain ⟨r0, r1, r2, r3⟩ := boxcells4 (lay := hb) (boxed1_0 w2 _)))) | (go_at_call 81; refine (l14Cx_any _ _ _).mono ?_; rintro e w' ⟨rfl, hb, hs⟩; (try simp at hs); (try (obtain ⟨r0, r1, r2, r3⟩ := boxcells4 (lay := hb) (boxed1_0 w2 _)))))
    go_ret2
    refine retRow2_lit ?_ ?_ ?_ ?_ ?_ ?_
    · exact (by first | omega | (simp; done) | (simp; omega))
    · exact (by repeat (first | exact Below.refl _ _ | assumption | (refine Below.trans ?_ (Below.mono (by assumption) (by first | omega | (simp; done) | (simp; omega)))) | (with_reducible refine Below.drew ?_) | (with_reducible refine Below.alloc ?_ (by first | omega | (simp; done) | (simp; omega)) _) | (with_reducible refine Below.setCell ?_ (by first | omega | (simp; done) | (simp; omega)) _)))
    · rfl
    · simp [maxLen]
    · rfl
    · first | rfl | simp
  · rw [show cgl q ⟨4, a, b, c⟩ = some [g1 6 a, g1 4 a, g1 8 a, gcx q a, g1 7 a, g1 4 a, g1 5 a] from rfl] at hcg
    rw [hcg]
    clear hcg
    go_enter Try.func68, Try.ntmps68
    go_wp2_with (first | (go_at_call 102; refine (IsValidGate_spec _ _ _ _ _ _).mono ?_; rintro e w1 ⟨rfl, b1, s1⟩; simp at s1; obtain ⟨p0, p1, p2, p3⟩ := boxcells4 (lay := b1) (boxed1_0 _ _)) | (go_at_call 64; refine (l1In_any _ _ _ _).mono ?_; rintro e w' ⟨rfl, rfl⟩) | (go_at_call 104; refine (ActsOn_spec _ _ _ _ _ _).mono ?_; rintro e w2 ⟨rfl, b2, s2⟩; obtain ⟨q0, q1, q2, q3⟩ := boxcells4 (lay := b1.trans (b2.mono b1.size)) (boxed1_0 _ _); have hlt : w.heap.size < w2.heap.size := by omega) | (go_at_call 80; refine (l14One_any _ _ _).mono ?_; rintro e w' ⟨rfl, hb, hs⟩; (try simp at hs); (try (obtain ⟨r0, r1, r2, r3⟩ := boxcells4 (lay := hb) (boxed1_0 w2 _)))) | (go_at_call 81; refine (l14Cx_any _ _ _).mono ?_; rintro e w' ⟨rfl, hb, hs⟩; (try simp at hs); (try (obtain ⟨r0, r1, r2, r3⟩ := boxcells4 (lay := hb) (boxed1_0 w2 _)))))
    go_ret2
    refine retRow2_lit ?_ ?_ ?_ ?_ ?_ ?_
    · exact (by first | omega | (simp; done) | (simp; omega))
    · exact (by repeat (first | exact Below.refl _ _ | assumption | (refine Below.trans ?_ (Below.mono (by assumption) (by first | omega | (simp; done) | (simp; omega)))) | (with_reducible refine Below.drew ?_) | (with_reducible refine Below.alloc ?_ (by first | omega | (simp; done) | (simp; omega)) _) | (with_reducible refine Below.setCell ?_ (by first | omega | (simp; done) | (simp; omega)) _)))
    · rfl
    · simp [maxLen]
    · rfl
    · first | rfl | simp
  · rw [show cgl q ⟨5, a, b, c⟩ = some [g1 7 q, g1 7 a, gcx q a, g1 8 a, gcx q a] from rfl] at hcg
    rw [hcg]
    clear hcg
    go_enter Try.func68, Try.ntmps68
    go_wp2_with (first | (go_at_call 102; refine (IsValidGate_spec _ _ _ _ _ _).mono ?_; rintro e w1 ⟨rfl, b1, s1⟩; simp at s1; obtain ⟨p0, p1, p2, p3⟩ := boxcells4 (lay := b1) (boxed1_0 _ _)) | (go_at_call 64; refine (l1In_any _ _ _ _).mono ?_; rintro e w' ⟨rfl, rfl⟩) | (go_at_call 104; refine (ActsOn_spec _ _ _ _ _ _).mono ?_; rintro e w2 ⟨rfl, b2, s2⟩; obtain ⟨q0, q1, q2, q3⟩ := boxcells4 (lay := b1.trans (b2.mono b1.size)) (boxed1_0 _ _); have hlt : w.heap.size < w2.heap.size := by omega) | (go_at_call 80; refine (l14One_any _ _ _).mono ?_; rintro e w' ⟨rfl, hb, hs⟩; (try simp at hs); (try (obtain ⟨r0, r1, r2, r3⟩ := boxcells4 (lay := hb) (boxed1_0 w2 _)))) | (go_at_call 81; refine (l14Cx_any _ _ _).mono ?_; rintro e w' ⟨rfl, hb, hs⟩; (try simp at hs); (try (obtain ⟨r0, r1, r2, r3⟩ := boxcells4 (lay := hb) (boxed1_0 w2 _)))))
    go_ret2
    refine retRow2_lit ?_ ?_ ?_ ?_ ?_ ?_
    · exact (by first | omega | (simp; done) | (simp; omega))
    · exact (by repeat (first | exact Below.refl _ _ | assumption | (refine Below.trans ?_ (Below.mono (by assumption) (by first | omega | (simp; done) | (simp; omega)))) | (with_reducible refine Below.drew ?_) | (with_reducible refine Below.alloc ?_ (by first | omega | (simp; done) | (simp; omega)) _) | (with_reducible refine Below.setCell ?_ (by first | omega | (simp; done) | (simp; omega)) _)))
    · rfl
    · simp [maxLen]
    · rfl
    · first | rfl | simp
  · rw [show cgl q ⟨6, a, b, c⟩ = some [g1 8 q, g1 8 a, gcx q a, g1 7 a, gcx q a] from rfl] at hcg
    rw [hcg]
    clear hcg
    go_enter Try.func68, Try.ntmps68
    go_wp2_with (first | (go_at_call 102; refine (IsValidGate_spec _ _ _ _ _ _).mono ?_; rintro e w1 ⟨rfl, b1, s1⟩; simp at s1; obtain ⟨p0, p1, p2, p3⟩ := boxcells4 (lay := b1) (boxed1_0 _ _)) | (go_at_call 64; refine (l1In_any _ _ _ _).mono ?_; rintro e w' ⟨rfl, rfl⟩) | (go_at_call 104; refine (ActsOn_spec _ _ _ _ _ _).mono ?_; rintro e w2 ⟨rfl, b2, s2⟩; obtain ⟨q0, q1, q2, q3⟩ := boxcells4 (lay := b1.trans (b2.mono b1.size)) (boxed1_0 _ _); have hlt : w.heap.size < w2.heap.size := by omega) | (go_at_call 80; refine (l14One_any _ _ _).mono ?_; rintro e w' ⟨rfl, hb, hs⟩; (try simp at hs); (try (obtain ⟨r0, r1, r2, r3⟩ := boxcells4 (lay := hb) (boxed1_0 w2 _)))) | (go_at_call 81; refine (l14Cx_any _ _ _).mono ?_; rintro e w' ⟨rfl, hb, hs⟩; (try simp at hs); (try (obtain ⟨r0, r1, r2, r3⟩ := boxcells4 (lay := hb) (boxed1_0 w2 _)))))
    go_ret2
    refine retRow2_lit ?_ ?_ ?_ ?_ ?_ ?_
    · exact (by first | omega | (simp; done) | (simp; omega))
    · exact (by repeat (first | exact Below.refl _ _ | assumption | (refine Below.trans ?_ (Below.mono (by assumption) (by first | omega | (simp; done) | (simp; omega)))) | (with_reducible refine Below.drew ?_) | (with_reducible refine Below.alloc ?_ (by first | omega | (simp; done) | (simp; omega)) _) | (with_reducible refine Below.setCell ?_ (by first | omega | (simp; done) | (simp; omega)) _)))
    · rfl
    · simp [maxLen]
    · rfl
    · first | rfl | simp
  · rw [show cgl q ⟨7, a, b, c⟩ = none from rfl] at hcg
    rw [hcg]
    clear hcg
    go_enter Try.func68, Try.ntmps68
    go_wp2_with (first | (go_at_call 102; refine (IsValidGate_spec _ _ _ _ _ _).mono ?_; rintro e w1 ⟨rfl, b1, s1⟩; simp at s1; obtain ⟨p0, p1, p2, p3⟩ := boxcells4 (lay := b1) (boxed1_0 _ _)) | (go_at_call 64; refine (l1In_any _ _ _ _).mono ?_; rintro e w' ⟨rfl, rfl⟩) | (go_at_call 104; refine (ActsOn_spec _ _ _ _ _ _).mono ?_; rintro e w2 ⟨rfl, b2, s2⟩; obtain ⟨q0, q1, q2, q3⟩ := boxcells4 (lay := b1.trans (b2.mono b1.size)) (boxed1_0 _ _); have hlt : w.heap.size < w2.heap.size := by omega) | (go_at_call 80; refine (l14One_any _ _ _).mono ?_; rintro e w' ⟨rfl, hb, hs⟩; (try simp at hs); (try (obtain ⟨r0, r1, r2, r3⟩ := boxcells4 (lay := hb) (boxed1_0 w2 _)))) | (go_at_call 81; refine (l14Cx_any _ _ _).mono ?_; rintro e w' ⟨rfl, hb, hs⟩; (try simp at hs); (try (obtain ⟨r0, r1, r2, r3⟩ := boxcells4 (lay := hb) (boxed1_0 w2 _)))))
    go_ret2
    refine retRow2_lit ?_ ?_ ?_ ?_ ?_ ?_
    · exact (by first | omega | (simp; done) | (simp; omega))
    · exact (by repeat (first | exact Below.refl _ _ | assumption | (refine Below.trans ?_ (Below.mono (by assumption) (by first | omega | (simp; done) | (simp; omega)))) | (with_reducible refine Below.drew ?_) | (with_reducible refine Below.alloc ?_ (by first | omega | (simp; done) | (simp; omega)) _) | (with_reducible refine Below.setCell ?_ (by first | omega | (simp; done) | (simp; omega)) _)))
    · rfl
    · simp [maxLen]
    · rfl
    · first | rfl | simp
  · rw [show cgl q ⟨8, a, b, c⟩ = none from rfl] at hcg
    rw [hcg]
    clear hcg
    go_enter Try.func68, Try.ntmps68
    go_wp2_with (first | (go_at_call 102; refine (IsValidGate_spec _ _ _ _ _ _).mono ?_; rintro e w1 ⟨rfl, b1, s1⟩; simp at s1; obtain ⟨p0, p1, p2, p3⟩ := boxcells4 (lay := b1) (boxed1_0 _ _)) | (go_at_call 64; refine (l1In_any _ _ _ _).mono ?_; rintro e w' ⟨rfl, rfl⟩) | (go_at_call 104; refine (ActsOn_spec _ _ _ _ _ _).mono ?_; rintro e w2 ⟨rfl, b2, s2⟩; obtain ⟨q0, q1, q2, q3⟩ := boxcells4 (lay := b1.trans (b2.mono b1.size)) (boxed1_0 _ _); have hlt : w.heap.size < w2.heap.size := by omega) | (go_at_call 80; refine (l14One_any _ _ _).mono ?_; rintro e w' ⟨rfl, hb, hs⟩; (try simp at hs); (try (obtain ⟨r0, r1, r2, r3⟩ := boxcells4 (lay := hb) (boxed1_0 w2 _)))) | (go_at_call 81; refine (l14Cx_any _ _ _).mono ?_; rintro e w' ⟨rfl, hb, hs⟩; (try simp at hs); (try (obtain ⟨r0, r1, r2, r3⟩ := boxcells4 (lay := hb) (boxed1_0 w2 _)))))
    go_ret2
    refine retRow2_lit ?_ ?_ ?_ ?_ ?_ ?_
    · exact (by first | omega | (simp; done) | (simp; omega))
    · exact (by repeat (first | exact Below.refl _ _ | assumption | (refine Below.trans ?_ (Below.mono (by assumption) (by first | omega | (simp; done) | (simp; omega)))) | (with_reducible refine Below.drew ?_) | (with_reducible refine Below.alloc ?_ (by first | omega | (simp; done) | (simp; omega)) _) | (with_reducible refine Below.setCell ?_ (by first | omega | (simp; done) | (simp; omega)) _)))
    · rfl
    · simp [maxLen]
    · rfl
    · first | rfl | simp
  · rw [show cgl q ⟨9, a, b, c⟩ = some [⟨12, q, a, b⟩] from rfl] at hcg
    rw [hcg]
    clear hcg
    go_enter Try.func68, Try.ntmps68
    go_wp2_with (first | (go_at_call 102; refine (IsValidGate_spec _ _ _ _ _ _).mono ?_; rintro e w1 ⟨rfl, b1, s1⟩; simp at s1; obtain ⟨p0, p1, p2, p3⟩ := boxcells4 (lay := b1) (boxed1_0 _ _)) | (go_at_call 64; refine (l1In_any _ _ _ _).mono ?_; rintro e w' ⟨rfl, rfl⟩) | (go_at_call 104; refine (ActsOn_spec _ _ _ _ _ _).mono ?_; rintro e w2 ⟨rfl, b2, s2⟩; obtain ⟨q0, q1, q2, q3⟩ := boxcells4 (lay := b1.trans (b2.mono b1.size)) (boxed1_0 _ _); have hlt : w.heap.size < w2.heap.size := by omega) | (go_at_call 80; refine (l14One_any _ _ _).mono ?_; rintro e w' ⟨rfl, hb, hs⟩; (try simp at hs); (try (obtain ⟨r0, r1, r2, r3⟩ := boxcells4 (lay := hb) (boxed1_0 w2 _)))) | (go_at_call 81; refine (l14Cx_any _ _ _).mono ?_; rintro e w' ⟨rfl, hb, hs⟩; (try simp at hs); (try (obtain ⟨r0, r1, r2, r3⟩ := boxcells4 (lay := hb) (boxed1_0 w2 _)))))
    go_ret2
    refine retRow2_lit ?_ ?_ ?_ ?_ ?_ ?_
    · exact (by first | omega | (simp; done) | (simp; omega))
    · exact (by repeat (first | exact Below.refl _ _ | assumption | (refine Below.trans ?_ (Below.mono (by assumption) (by first | omega | (simp; done) | (simp; omega)))) | (with_reducible refine Below.drew ?_) | (with_reducible refine Below.alloc ?_ (by first | omega | (simp; done) | (simp; omega)) _) | (with_reducible refine Below.setCell ?_ (by first | omega | (simp; done) | (simp; omega)) _)))
    · rfl
    · simp [maxLen]
    · rfl
    · first | rfl | simp
  · rw [show cgl q ⟨10, a, b, c⟩ = some [g1 4 b, ⟨12, q, a, b⟩, g1 4 b] from rfl] at hcg
    rw [hcg]
    clear hcg
    go_enter Try.func68, Try.ntmps68
    go_wp2_with (first | (go_at_call 102; refine (IsValidGate_spec _ _ _ _ _ _).mono ?_; rintro e w1 ⟨rfl, b1, s1⟩; simp at s1; obtain ⟨p0, p1, p2, p3⟩ := boxcells4 (lay := b1) (boxed1_0 _ _)) | (go_at_call 64; refine (l1In_any _ _ _ _).mono ?_; rintro e w' ⟨rfl, rfl⟩) | (go_at_call 104; refine (ActsOn_spec _ _ _ _ _ _).mono ?_; rintro e w2 ⟨rfl, b2, s2⟩; obtain ⟨q0, q1, q2, q3⟩ := boxcells4 (lay := b1.trans (b2.mono b1.size)) (boxed1_0 _ _); have hlt : w.heap.size < w2.heap.size := by omega) | (go_at_call 80; refine (l14One_any _ _ _).mono ?_; rintro e w' ⟨rfl, hb, hs⟩; (try simp at hs); (try (obtain ⟨r0, r1, r2, r3⟩ := boxcells4 (lay := hb) (boxed1_0 w2 _)))) | (go_at_call 81; refine (l14Cx_any _ _ _).mono ?_; rintro e w' ⟨rfl, hb, hs⟩; (try simp at hs); (try (obtain ⟨r0, r1, r2, r3⟩ := boxcells4 (lay := hb) (boxed1_0 w2 _)))))
    obtain ⟨t0, t1, t2, t3⟩ := boxcells4 (lay := Below.refl _ _) (boxed1_0 w2 (.cells #[.int .i64 12, .int .i64 q, .int .i64 a, .int .i64 b] 46))
    go_region_held3 (fun W => W.cell? ⟨w2.heap.size, 0, none⟩ = some (.int .i64 12) ∧ W.cell? ⟨w2.heap.size, 1, none⟩ = some (.int .i64 q) ∧ W.cell? ⟨w2.heap.size, 2, none⟩ = some (.int .i64 a) ∧ W.cell? ⟨w2.heap.size, 3, none⟩ = some (.int .i64 b))
      (first | exact ⟨t0, t1, t2, t3⟩ | exact ⟨x0, x1, x2, x3⟩ | exact ⟨y0, y1, y2, y3⟩ | (refine ⟨?_, ?_, ?_, ?_⟩ <;> go_simp))
      (first | (have _t := t0; go_at_call 80; (with_reducible refine (l14One_any _ _ _).mono ?_); rintro e w3 ⟨rfl, hb3, hs3⟩; have b3 := below_undrew hb3; have s3 := b3.size; (try simp at s3); obtain ⟨x0, x1, x2, x3⟩ := boxcells4 (lay := b3) (boxed1_0 w2 _); clear hb3 hs3 t0) | (go_at_call 80; (with_reducible refine (l14One_any _ _ _).mono ?_); rintro e w4 ⟨rfl, b4, s4⟩; obtain ⟨y0, y1, y2, y3⟩ := boxcells4 (lay := b3.trans (b4.mono b3.size)) (boxed1_0 w2 _); have lt4 : w2.heap.size < w4.heap.size := by omega))
    all_goals go_wp2_with fail
    all_goals go_ret2
    all_goals (refine retRow2_lit ?_ ?_ ?_ ?_ ?_ ?_)
    all_goals first | rfl | omega | (simp [maxLen]; done) | (simp; omega) | exact ((((((Below.refl _ _).alloc (Nat.le_refl _) _).trans (b1.mono (by simp))).trans (b2.mono (by omega))).alloc (by omega) _).trans (b3.mono (by simp; omega))).trans (b4.mono (by omega))
  · rw [show cgl q ⟨11, a, b, c⟩ = some [gcx b a, ⟨12, q, a, b⟩, gcx b a] from rfl] at hcg
    rw [hcg]
    clear hcg
    go_enter Try.func68, Try.ntmps68
    go_wp2_with (first | (go_at_call 102; refine (IsValidGate_spec _ _ _ _ _ _).mono ?_; rintro e w1 ⟨rfl, b1, s1⟩; simp at s1; obtain ⟨p0, p1, p2, p3⟩ := boxcells4 (lay := b1) (boxed1_0 _ _)) | (go_at_call 64; refine (l1In_any _ _ _ _).mono ?_; rintro e w' ⟨rfl, rfl⟩) | (go_at_call 104; refine (ActsOn_spec _ _ _ _ _ _).mono ?_; rintro e w2 ⟨rfl, b2, s2⟩; obtain ⟨q0, q1, q2, q3⟩ := boxcells4 (lay := b1.trans (b2.mono b1.size)) (boxed1_0 _ _); have hlt : w.heap.size < w2.heap.size := by omega) | (go_at_call 80; refine (l14One_any _ _ _).mono ?_; rintro e w' ⟨rfl, hb, hs⟩; (try simp at hs); (try (obtain ⟨r0, r1, r2, r3⟩ := boxcells4 (lay := hb) (boxed1_0 w2 _)))) | (go_at_call 81; refine (l14Cx_any _ _ _).mono ?_; rintro e w' ⟨rfl, hb, hs⟩; (try simp at hs); (try (obtain ⟨r0, r1, r2, r3⟩ := boxcells4 (lay := hb) (boxed1_0 w2 _)))))
    obtain ⟨t0, t1, t2, t3⟩ := boxcells4 (lay := Below.refl _ _) (boxed1_0 w2 (.cells #[.int .i64 12, .int .i64 q, .int .i64 a, .int .i64 b] 46))
    go_region_held3 (fun W => W.cell? ⟨w2.heap.size, 0, none⟩ = some (.int .i64 12) ∧ W.cell? ⟨w2.heap.size, 1, none⟩ = some (.int .i64 q) ∧ W.cell? ⟨w2.heap.size, 2, none⟩ = some (.int .i64 a) ∧ W.cell? ⟨w2.heap.size, 3, none⟩ = some (.int .i64 b))
      (first | exact ⟨t0, t1, t2, t3⟩ | exact ⟨x0, x1, x2, x3⟩ | exact ⟨y0, y1, y2, y3⟩ | (refine ⟨?_, ?_, ?_, ?_⟩ <;> go_simp))
      (first | (have _t := t0; go_at_call 81; (with_reducible refine (l14Cx_any _ _ _).mono ?_); rintro e w3 ⟨rfl, hb3, hs3⟩; have b3 := below_undrew hb3; have s3 := b3.size; (try simp at s3); obtain ⟨x0, x1, x2, x3⟩ := boxcells4 (lay := b3) (boxed1_0 w2 _); clear hb3 hs3 t0) | (go_at_call 81; (with_reducible refine (l14Cx_any _ _ _).mono ?_); rintro e w4 ⟨rfl, b4, s4⟩; obtain ⟨y0, y1, y2, y3⟩ := boxcells4 (lay := b3.trans (b4.mono b3.size)) (boxed1_0 w2 _); have lt4 : w2.heap.size < w4.heap.size := by omega))
    all_goals go_wp2_with fail
    all_goals go_ret2
    all_goals (refine retRow2_lit ?_ ?_ ?_ ?_ ?_ ?_)
    all_goals first | rfl | omega | (simp [maxLen]; done) | (simp; omega) | exact ((((((Below.refl _ _).alloc (Nat.le_refl _) _).trans (b1.mono (by simp))).trans (b2.mono (by omega))).alloc (by omega) _).trans (b3.mono (by simp; omega))).trans (b4.mono (by omega))
  · rw [show cgl q ⟨12, a, b, c⟩ = none from rfl] at hcg
    rw [hcg]
    clear hcg
    go_enter Try.func68, Try.ntmps68
    go_wp2_with (first | (go_at_call 102; refine (IsValidGate_spec _ _ _ _ _ _).mono ?_; rintro e w1 ⟨rfl, b1, s1⟩; simp at s1; obtain ⟨p0, p1, p2, p3⟩ := boxcells4 (lay := b1) (boxed1_0 _ _)) | (go_at_call 64; refine (l1In_any _ _ _ _).mono ?_; rintro e w' ⟨rfl, rfl⟩) | (go_at_call 104; refine (ActsOn_spec _ _ _ _ _ _).mono ?_; rintro e w2 ⟨rfl, b2, s2⟩; obtain ⟨q0, q1, q2, q3⟩ := boxcells4 (lay := b1.trans (b2.mono b1.size)) (boxed1_0 _ _); have hlt : w.heap.size < w2.heap.size := by omega) | (go_at_call 80; refine (l14One_any _ _ _).mono ?_; rintro e w' ⟨rfl, hb, hs⟩; (try simp at hs); (try (obtain ⟨r0, r1, r2, r3⟩ := boxcells4 (lay := hb) (boxed1_0 w2 _)))) | (go_at_call 81; refine (l14Cx_any _ _ _).mono ?_; rintro e w' ⟨rfl, hb, hs⟩; (try simp at hs); (try (obtain ⟨r0, r1, r2, r3⟩ := boxcells4 (lay := hb) (boxed1_0 w2 _)))))
    go_ret2
    refine retRow2_lit ?_ ?_ ?_ ?_ ?_ ?_
    · exact (by first | omega | (simp; done) | (simp; omega))
    · exact (by repeat (first | exact Below.refl _ _ | assumption | (refine Below.trans ?_ (Below.mono (by assumption) (by first | omega | (simp; done) | (simp; omega)))) | (with_reducible refine Below.drew ?_) | (with_reducible refine Below.alloc ?_ (by first | omega | (simp; done) | (simp; omega)) _) | (with_reducible refine Below.setCell ?_ (by first | omega | (simp; done) | (simp; omega)) _)))
    · rfl
    · simp [maxLen]
    · rfl
    · first | rfl | simp
end Go.Proofs.Ytbffpehajkgjeaa
