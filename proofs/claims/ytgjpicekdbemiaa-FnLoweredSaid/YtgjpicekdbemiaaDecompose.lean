/- What the decomposition of a gate returns: the program's function and the reference's return the same list. -/
import Derived.Test.YtgjpicekdbemiaaGate
namespace Go.Proofs.Ytgjpicekdbemiaa
open Go.RowKit

def g1 (k a : Int) : Gt := ⟨k, a, 0, 0⟩
def gcx (a b : Int) : Gt := ⟨9, a, b, 0⟩
def dgate (g : Gt) : List Gt :=
  if g.k = 10 then [g1 4 g.b, gcx g.a g.b, g1 4 g.b]
  else if g.k = 11 then [gcx g.a g.b, gcx g.b g.a, gcx g.a g.b]
  else if g.k = 12 then [g1 4 g.c, gcx g.b g.c, g1 8 g.c, gcx g.a g.c, g1 7 g.c, gcx g.b g.c, g1 8 g.c, gcx g.a g.c, g1 7 g.b, g1 7 g.c, g1 4 g.c, gcx g.a g.b, g1 7 g.a, g1 8 g.b, gcx g.a g.b]
  else [g]
theorem dgate_10 (a b c : Int) : dgate ⟨10, a, b, c⟩ = [g1 4 b, gcx a b, g1 4 b] := rfl
theorem dgate_11 (a b c : Int) : dgate ⟨11, a, b, c⟩ = [gcx a b, gcx b a, gcx a b] := rfl
theorem dgate_12 (a b c : Int) : dgate ⟨12, a, b, c⟩ = [g1 4 c, gcx b c, g1 8 c, gcx a c, g1 7 c, gcx b c, g1 8 c, gcx a c, g1 7 b, g1 7 c, g1 4 c, gcx a b, g1 7 a, g1 8 b, gcx a b] := rfl
theorem dgate_ne {k a b c : Int} (h1 : k ≠ 10) (h2 : k ≠ 11) (h3 : k ≠ 12) : dgate ⟨k, a, b, c⟩ = [⟨k, a, b, c⟩] := by simp [dgate, h1, h2, h3]

theorem info_Gate : (Try.prog.info? 30).map (fun i => (i.zero, i.size, i.bytes)) = some (some (.agg #[.int .i64 0, .int .i64 0, .int .i64 0, .int .i64 0]), 4, 32) := by kernel_rfl

set_option maxRecDepth 100000 in
set_option maxHeartbeats 2000000 in
theorem DecomposeGate_impl (k a b c : Int) (w : World) : Calls Try.prog 14 #[.agg #[.int .i64 k, .int .i64 a, .int .i64 b, .int .i64 c]] w
    (RetRow 30 4 w (dgate ⟨k, a, b, c⟩).length ((dgate ⟨k, a, b, c⟩).flatMap gcells)) := by
  by_cases h1 : k = 10
  · subst h1
    rw [dgate_10]
    go_enter Try.func14, Try.ntmps14
    go_wp2_with (first | (go_at_call 29; refine (one_any _ _ _).mono ?_; rintro e w' ⟨rfl, hb, hs⟩; (try simp at hs)) | (go_at_call 30; refine (cx_any _ _ _).mono ?_; rintro e w' ⟨rfl, hb, hs⟩; (try simp at hs)))
    go_ret
    refine retRow_lit ?_ ?_ ?_ ?_ ?_ ?_
    · exact (by first | omega | (simp; done) | (simp; omega))
    · exact (by repeat (first | exact Below.refl _ _ | assumption | (refine Below.trans ?_ (Below.mono (by assumption) (by first | omega | (simp; done) | (simp; omega)))) | (with_reducible refine Below.drew ?_) | (with_reducible refine Below.alloc ?_ (by first | omega | (simp; done) | (simp; omega)) _) | (with_reducible refine Below.setCell ?_ (by first | omega | (simp; done) | (simp; omega)) _)))
    · rfl
    · decide
    · rfl
    · first | rfl | simp
  by_cases h2 : k = 11
  · subst h2
    rw [dgate_11]
    go_enter Try.func14, Try.ntmps14
    go_wp2_with (first | (go_at_call 29; refine (one_any _ _ _).mono ?_; rintro e w' ⟨rfl, hb, hs⟩; (try simp at hs)) | (go_at_call 30; refine (cx_any _ _ _).mono ?_; rintro e w' ⟨rfl, hb, hs⟩; (try simp at hs)))
    go_ret
    refine retRow_lit ?_ ?_ ?_ ?_ ?_ ?_
    · exact (by first | omega | (simp; done) | (simp; omega))
    · exact (by repeat (first | exact Below.refl _ _ | assumption | (refine Below.trans ?_ (Below.mono (by assumption) (by first | omega | (simp; done) | (simp; omega)))) | (with_reducible refine Below.drew ?_) | (with_reducible refine Below.alloc ?_ (by first | omega | (simp; done) | (simp; omega)) _) | (with_reducible refine Below.setCell ?_ (by first | omega | (simp; done) | (simp; omega)) _)))
    · rfl
    · decide
    · rfl
    · first | rfl | simp
  by_cases h3 : k = 12
  · subst h3
    rw [dgate_12]
    go_enter Try.func14, Try.ntmps14
    go_wp2_with (first | (go_at_call 29; refine (one_any _ _ _).mono ?_; rintro e w' ⟨rfl, hb, hs⟩; (try simp at hs)) | (go_at_call 30; refine (cx_any _ _ _).mono ?_; rintro e w' ⟨rfl, hb, hs⟩; (try simp at hs)))
    go_ret
    refine retRow_lit ?_ ?_ ?_ ?_ ?_ ?_
    · exact (by first | omega | (simp; done) | (simp; omega))
    · exact (by repeat (first | exact Below.refl _ _ | assumption | (refine Below.trans ?_ (Below.mono (by assumption) (by first | omega | (simp; done) | (simp; omega)))) | (with_reducible refine Below.drew ?_) | (with_reducible refine Below.alloc ?_ (by first | omega | (simp; done) | (simp; omega)) _) | (with_reducible refine Below.setCell ?_ (by first | omega | (simp; done) | (simp; omega)) _)))
    · rfl
    · decide
    · rfl
    · first | rfl | simp
  · rw [dgate_ne h1 h2 h3]
    have e1 : (k == 10) = false := beq_eq_false_iff_ne.2 h1
    have e2 : (k == 11) = false := beq_eq_false_iff_ne.2 h2
    have e3 : (k == 12) = false := beq_eq_false_iff_ne.2 h3
    clear h1 h2 h3
    go_enter Try.func14, Try.ntmps14
    go_wp2_with (first | (go_at_call 29; refine (one_any _ _ _).mono ?_; rintro e w' ⟨rfl, hb, hs⟩; (try simp at hs)) | (go_at_call 30; refine (cx_any _ _ _).mono ?_; rintro e w' ⟨rfl, hb, hs⟩; (try simp at hs)))
    go_ret
    refine retRow_lit ?_ ?_ ?_ ?_ ?_ ?_
    · exact (by first | omega | (simp; done) | (simp; omega))
    · exact (by repeat (first | exact Below.refl _ _ | assumption | (refine Below.trans ?_ (Below.mono (by assumption) (by first | omega | (simp; done) | (simp; omega)))) | (with_reducible refine Below.drew ?_) | (with_reducible refine Below.alloc ?_ (by first | omega | (simp; done) | (simp; omega)) _) | (with_reducible refine Below.setCell ?_ (by first | omega | (simp; done) | (simp; omega)) _)))
    · rfl
    · decide
    · rfl
    · first | rfl | simp
set_option maxRecDepth 100000 in
set_option maxHeartbeats 2000000 in
theorem DecomposeGate_spec (k a b c : Int) (w : World) : Calls Try.prog 15 #[.agg #[.int .i64 k, .int .i64 a, .int .i64 b, .int .i64 c]] w
    (RetRow 30 4 w (dgate ⟨k, a, b, c⟩).length ((dgate ⟨k, a, b, c⟩).flatMap gcells)) := by
  by_cases h1 : k = 10
  · subst h1
    rw [dgate_10]
    go_enter Try.func15, Try.ntmps15
    go_wp2_with (first | (go_at_call 31; refine (l14One_any _ _ _).mono ?_; rintro e w' ⟨rfl, hb, hs⟩; (try simp at hs)) | (go_at_call 32; refine (l14Cx_any _ _ _).mono ?_; rintro e w' ⟨rfl, hb, hs⟩; (try simp at hs)))
    go_ret
    refine retRow_lit ?_ ?_ ?_ ?_ ?_ ?_
    · exact (by first | omega | (simp; done) | (simp; omega))
    · exact (by repeat (first | exact Below.refl _ _ | assumption | (refine Below.trans ?_ (Below.mono (by assumption) (by first | omega | (simp; done) | (simp; omega)))) | (with_reducible refine Below.drew ?_) | (with_reducible refine Below.alloc ?_ (by first | omega | (simp; done) | (simp; omega)) _) | (with_reducible refine Below.setCell ?_ (by first | omega | (simp; done) | (simp; omega)) _)))
    · rfl
    · decide
    · rfl
    · first | rfl | simp
  by_cases h2 : k = 11
  · subst h2
    rw [dgate_11]
    go_enter Try.func15, Try.ntmps15
    go_wp2_with (first | (go_at_call 31; refine (l14One_any _ _ _).mono ?_; rintro e w' ⟨rfl, hb, hs⟩; (try simp at hs)) | (go_at_call 32; refine (l14Cx_any _ _ _).mono ?_; rintro e w' ⟨rfl, hb, hs⟩; (try simp at hs)))
    go_ret
    refine retRow_lit ?_ ?_ ?_ ?_ ?_ ?_
    · exact (by first | omega | (simp; done) | (simp; omega))
    · exact (by repeat (first | exact Below.refl _ _ | assumption | (refine Below.trans ?_ (Below.mono (by assumption) (by first | omega | (simp; done) | (simp; omega)))) | (with_reducible refine Below.drew ?_) | (with_reducible refine Below.alloc ?_ (by first | omega | (simp; done) | (simp; omega)) _) | (with_reducible refine Below.setCell ?_ (by first | omega | (simp; done) | (simp; omega)) _)))
    · rfl
    · decide
    · rfl
    · first | rfl | simp
  by_cases h3 : k = 12
  · subst h3
    rw [dgate_12]
    go_enter Try.func15, Try.ntmps15
    go_upto_region 11 with (first | (go_at_call 31; refine (l14One_any _ _ _).mono ?_; rintro e w' ⟨rfl, hb, hs⟩; (try simp at hs)) | (go_at_call 32; refine (l14Cx_any _ _ _).mono ?_; rintro e w' ⟨rfl, hb, hs⟩; (try simp at hs)))
    have hown := World.ownsRow_lit (e := 30) (size := 4) (base := w.heap.size) w' #[.int .i64 4, .int .i64 c, .int .i64 0, .int .i64 0, .int .i64 9, .int .i64 b, .int .i64 c, .int .i64 0, .int .i64 8, .int .i64 c, .int .i64 0, .int .i64 0, .int .i64 9, .int .i64 a, .int .i64 c, .int .i64 0, .int .i64 7, .int .i64 c, .int .i64 0, .int .i64 0, .int .i64 9, .int .i64 b, .int .i64 c, .int .i64 0, .int .i64 8, .int .i64 c, .int .i64 0, .int .i64 0, .int .i64 9, .int .i64 a, .int .i64 c, .int .i64 0] 8 (by omega) (by decide) rfl
    obtain ⟨i0, hi, hz0, hz1, hz2⟩ := info_parts info_Gate
    go_wp2_with (first
      | (go_at_call 31; refine (l14One_any _ _ _).mono ?_; rintro e w2 ⟨rfl, hb2, hs2⟩; (try simp at hs2)) | (go_at_call 32; refine (l14Cx_any _ _ _).mono ?_; rintro e w2 ⟨rfl, hb2, hs2⟩; (try simp at hs2))
      | (at_builtin; refine wpList_append_own _ rfl _ _ 24 rfl w.heap.size 30 i0 _ 4 32 Try.underlying24 hi hz0 hz1 hz2 rfl (by decide) _ _ _ rfl (ownsRow_below hown ?c0) ⟨_, 0, none⟩ 7 7 [.int .i64 7, .int .i64 b, .int .i64 0, .int .i64 0, .int .i64 7, .int .i64 c, .int .i64 0, .int .i64 0, .int .i64 4, .int .i64 c, .int .i64 0, .int .i64 0, .int .i64 9, .int .i64 a, .int .i64 b, .int .i64 0, .int .i64 7, .int .i64 a, .int .i64 0, .int .i64 0, .int .i64 8, .int .i64 b, .int .i64 0, .int .i64 0, .int .i64 9, .int .i64 a, .int .i64 b, .int .i64 0] rfl rfl ?c1 ?c2 ?c3 ?c4 ?c5 ?_))
    case c0 => exact (by repeat (first | exact Below.refl _ _ | assumption | (refine Below.trans ?_ (Below.mono (by assumption) (by first | omega | (simp; done) | (simp; omega)))) | (with_reducible refine Below.drew ?_) | (with_reducible refine Below.alloc ?_ (by first | omega | (simp; done) | (simp; omega)) _) | (with_reducible refine Below.setCell ?_ (by first | omega | (simp; done) | (simp; omega)) _)))
    case c1 => exact (World.ownsRow_lit (base := 0) (e := 30) (size := 4) _ _ 7 (Nat.zero_le _) (by decide) rfl).cells rfl
    case c2 => exact fun u hu => List.all_eq_true.1 (by rfl) u hu
    case c3 => decide
    case c4 => decide
    case c5 => exact (by first | omega | (simp; done) | (simp; omega))
    intro v' w3 hown' hgrow _
    clear hown
    go_wp2
    go_ret
    exact ⟨v', rfl, hown', Below.grown (by repeat (first | exact Below.refl _ _ | assumption | (refine Below.trans ?_ (Below.mono (by assumption) (by first | omega | (simp; done) | (simp; omega)))) | (with_reducible refine Below.drew ?_) | (with_reducible refine Below.alloc ?_ (by first | omega | (simp; done) | (simp; omega)) _) | (with_reducible refine Below.setCell ?_ (by first | omega | (simp; done) | (simp; omega)) _))) hgrow (by first | omega | (simp; done) | (simp; omega)) (by intro k hk; simp [Value.ownBlock] at hk; omega), by have := hgrow.size; simp at this; omega⟩
  · rw [dgate_ne h1 h2 h3]
    have e1 : (k == 10) = false := beq_eq_false_iff_ne.2 h1
    have e2 : (k == 11) = false := beq_eq_false_iff_ne.2 h2
    have e3 : (k == 12) = false := beq_eq_false_iff_ne.2 h3
    clear h1 h2 h3
    go_enter Try.func15, Try.ntmps15
    go_wp2_with (first | (go_at_call 31; refine (l14One_any _ _ _).mono ?_; rintro e w' ⟨rfl, hb, hs⟩; (try simp at hs)) | (go_at_call 32; refine (l14Cx_any _ _ _).mono ?_; rintro e w' ⟨rfl, hb, hs⟩; (try simp at hs)))
    go_ret
    refine retRow_lit ?_ ?_ ?_ ?_ ?_ ?_
    · exact (by first | omega | (simp; done) | (simp; omega))
    · exact (by repeat (first | exact Below.refl _ _ | assumption | (refine Below.trans ?_ (Below.mono (by assumption) (by first | omega | (simp; done) | (simp; omega)))) | (with_reducible refine Below.drew ?_) | (with_reducible refine Below.alloc ?_ (by first | omega | (simp; done) | (simp; omega)) _) | (with_reducible refine Below.setCell ?_ (by first | omega | (simp; done) | (simp; omega)) _)))
    · rfl
    · decide
    · rfl
    · first | rfl | simp
end Go.Proofs.Ytgjpicekdbemiaa
