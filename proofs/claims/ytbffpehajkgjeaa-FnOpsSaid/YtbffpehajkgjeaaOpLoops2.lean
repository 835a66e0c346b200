/- Inverting and repeating a list of operations: the program's functions and the reference's return the same lists. -/
import Derived.Test.YtbffpehajkgjeaaOpLoops
namespace Go.Proofs.Ytbffpehajkgjeaa
open Go.RowKit
set_option linter.unusedVariables false
def invO (o : Opt) : Opt := if o.k = 1 then ⟨o.k, invG o.g, o.q, o.bit, o.cond⟩ else o
def adjO (l : List Opt) : List Opt := (l.map invO).reverse
theorem adj_step (l : List Opt) (s : Nat) (o : Opt) (h : l[s]? = some o) : adjO (l.drop s) = adjO (l.drop (s + 1)) ++ [invO o] := by
  have hs := (List.getElem?_eq_some_iff.1 h).1
  have e : l[s] = o := (List.getElem?_eq_some_iff.1 h).2
  rw [List.drop_eq_getElem_cons hs, e]
  simp [adjO]
def repO (l : List Opt) (t : Nat) : List Opt := (List.replicate t l).flatten
def reps (k : Int) : Nat := (min k 9).toNat
theorem rep_step (l : List Opt) (t : Nat) : repO l (t + 1) = repO l t ++ l := by
  simp [repO, List.replicate_succ']
theorem rep_len (l : List Opt) (t : Nat) : (repO l t).length = t * l.length := by
  simp [repO]
set_option maxRecDepth 100000 in
set_option maxHeartbeats 1000000 in
theorem RepeatOps_spec (A : Option Addr) (n c : Nat) (l : List Opt) (k : Int) (w : World) (h : Rd w 8 A n (l.flatMap ocells)) (hl : l.length = n) (hn : n ≤ 1073741824) :
    Calls Try.prog 29 #[.slice A n c, .int .i64 k] w (RetRow 56 8 w ((reps k) * n) ((repO l (reps k)).flatMap ocells)) := by
  obtain ⟨i0, hi, hz0, hz1, hz2⟩ := info_parts info_OpE
  obtain ⟨m, hm⟩ : ∃ m, m = reps k := ⟨_, rfl⟩
  rw [← hm]
  have hm9 : m ≤ 9 := by rw [hm]; unfold reps; omega
  have HM : Hid (m = (min k 9).toNat) := hm
  have H := Lib.hid h
  clear h hl hm
  go_enter Try.func29, Try.ntmps29
  go_wp2
  go_loopw [5, 6] (fun v i wr => ∃ t : Nat, t ≤ m ∧ i = .int .i64 t ∧ wr.ownsRow w.heap.size 56 8 v (t * n) ((repO l t).flatMap ocells) ∧ Below w.heap.size w wr) (fun _ i _ => 9 - (intOf i).toNat)
  case atStart => exact ⟨0, Nat.zero_le _, rfl, by simpa [repO] using own_empty w _ 8, (by repeat (first | exact Below.refl _ _ | assumption | (refine Below.trans ?_ (Below.mono (by assumption) (by first | omega | (simp; done) | (simp; omega)))) | (with_reducible refine Below.drew ?_) | (with_reducible refine Below.alloc ?_ (by first | omega | (simp; done) | (simp; omega)) _) | (with_reducible refine Below.setCell ?_ (by first | omega | (simp; done) | (simp; omega)) _)))⟩
  case round =>
    obtain ⟨t, ht, rfl, hown, hb⟩ := hrel
    have hmn : t * n ≤ 9 * n := Nat.mul_le_mul_right _ (by omega)
    obtain ⟨L, hL⟩ : ∃ L, L = (repO l t).flatMap ocells := ⟨_, rfl⟩
    rw [← hL] at hown
    have HL2 := Lib.hid hL
    obtain ⟨N, hN⟩ : ∃ N, N = t * n := ⟨_, rfl⟩
    rw [← hN] at hown hmn
    have HN := Lib.hid hN
    clear hL hN
    by_cases hlt : t < m
    · have hk1 : (t : Int) < k := by have := HM.out; omega
      have hk2 : (t : Int) < 9 := by omega
      have hr := H.out.below hb
      go_wp2_with (at_builtin; refine wpList_append_rd _ rfl _ _ 27 rfl w.heap.size 56 i0 _ 8 64 Try.underlying27 hi hz0 hz1 hz2 rfl (by decide) _ _ _ rfl hown _ _ _ _ rfl hr (one_flat ocells_one _) ?c3 ?c4 ?c5 ?_)
      case c3 => simp only [maxLen]; omega
      case c4 => omega
      case c5 => exact hb.size
      intro v3 w3 own3 gr3 _
      have b3 := hb.grown gr3 hb.size (own_ge hown)
      clear hown gr3 hr
      go_wp2
      go_roundw
      case rel =>
        refine ⟨t + 1, by omega, by go_num, ?_, b3⟩
        rw [rep_step, List.flatMap_append, ← HL2.out, Nat.add_mul, Nat.one_mul, ← HN.out]
        exact own3
      case measure => simp [intOf]; omega
    · obtain rfl : t = m := by omega
      by_cases hk : k ≤ t
      · have hk1 : decide ((t : Int) < k) = false := by simp; omega
        go_wp2
        go_ret
        exact ⟨_, rfl, by rw [HL2.out, HN.out] at hown; exact hown, hb, hb.size⟩
      · have hk2 : t = 9 := by have := HM.out; omega
        subst hk2
        have hk3 : (9 : Int) < k := by omega
        go_wp2
        go_ret
        exact ⟨_, rfl, by rw [HL2.out, HN.out] at hown; exact hown, hb, hb.size⟩
set_option maxRecDepth 100000 in
set_option maxHeartbeats 1000000 in
theorem RepeatOps_impl (A : Option Addr) (n c : Nat) (l : List Opt) (k : Int) (w : World) (h : Rd w 8 A n (l.flatMap ocells)) (hl : l.length = n) (hn : n ≤ 1073741824) :
    Calls Try.prog 27 #[.slice A n c, .int .i64 k] w (RetRow 56 8 w ((reps k) * n) ((repO l (reps k)).flatMap ocells)) := by
  obtain ⟨i0, hi, hz0, hz1, hz2⟩ := info_parts info_OpE
  obtain ⟨m, hm⟩ : ∃ m, m = reps k := ⟨_, rfl⟩
  rw [← hm]
  have hm9 : m ≤ 9 := by rw [hm]; unfold reps; omega
  have HM : Hid (m = (min k 9).toNat) := hm
  have H := Lib.hid h
  clear h hl hm
  go_enter Try.func27, Try.ntmps27
  go_wp2
  go_loopw [5, 6] (fun v i wr => ∃ t : Nat, t ≤ m ∧ i = .int .i64 t ∧ wr.ownsRow w.heap.size 56 8 v (t * n) ((repO l t).flatMap ocells) ∧ Below w.heap.size w wr) (fun _ i _ => 9 - (intOf i).toNat)
  case atStart => exact ⟨0, Nat.zero_le _, rfl, by simpa [repO] using own_empty w _ 8, (by repeat (first | exact Below.refl _ _ | assumption | (refine Below.trans ?_ (Below.mono (by assumption) (by first | omega | (simp; done) | (simp; omega)))) | (with_reducible refine Below.drew ?_) | (with_reducible refine Below.alloc ?_ (by first | omega | (simp; done) | (simp; omega)) _) | (with_reducible refine Below.setCell ?_ (by first | omega | (simp; done) | (simp; omega)) _)))⟩
  case round =>
    obtain ⟨t, ht, rfl, hown, hb⟩ := hrel
    have hmn : t * n ≤ 9 * n := Nat.mul_le_mul_right _ (by omega)
    obtain ⟨L, hL⟩ : ∃ L, L = (repO l t).flatMap ocells := ⟨_, rfl⟩
    rw [← hL] at hown
    have HL2 := Lib.hid hL
    obtain ⟨N, hN⟩ : ∃ N, N = t * n := ⟨_, rfl⟩
    rw [← hN] at hown hmn
    have HN := Lib.hid hN
    clear hL hN
    by_cases hlt : t < m
    · have hk1 : (t : Int) < k := by have := HM.out; omega
      have hk2 : (t : Int) < 9 := by omega
      by_cases hk9 : k ≤ 9
      · have hk9' : k ≤ 9 := hk9
        have hr := H.out.below hb
        go_wp2_with (at_builtin; refine wpList_append_rd _ rfl _ _ 27 rfl w.heap.size 56 i0 _ 8 64 Try.underlying27 hi hz0 hz1 hz2 rfl (by decide) _ _ _ rfl hown _ _ _ _ rfl hr (one_flat ocells_one _) ?c3 ?c4 ?c5 ?_)
        case c3 => simp only [maxLen]; omega
        case c4 => omega
        case c5 => exact hb.size
        intro v3 w3 own3 gr3 _
        have b3 := hb.grown gr3 hb.size (own_ge hown)
        clear hown gr3 hr
        go_wp2
        go_roundw
        case rel =>
          refine ⟨t + 1, by omega, by go_num, ?_, b3⟩
          rw [rep_step, List.flatMap_append, ← HL2.out, Nat.add_mul, Nat.one_mul, ← HN.out]
          exact own3
        case measure => simp [intOf]; omega
      · have hk9' : 9 < k := by omega
        have hr := H.out.below hb
        go_wp2_with (at_builtin; refine wpList_append_rd _ rfl _ _ 27 rfl w.heap.size 56 i0 _ 8 64 Try.underlying27 hi hz0 hz1 hz2 rfl (by decide) _ _ _ rfl hown _ _ _ _ rfl hr (one_flat ocells_one _) ?c3 ?c4 ?c5 ?_)
        case c3 => simp only [maxLen]; omega
        case c4 => omega
        case c5 => exact hb.size
        intro v3 w3 own3 gr3 _
        have b3 := hb.grown gr3 hb.size (own_ge hown)
        clear hown gr3 hr
        go_wp2
        go_roundw
        case rel =>
          refine ⟨t + 1, by omega, by go_num, ?_, b3⟩
          rw [rep_step, List.flatMap_append, ← HL2.out, Nat.add_mul, Nat.one_mul, ← HN.out]
          exact own3
        case measure => simp [intOf]; omega
    · obtain rfl : t = m := by omega
      by_cases hk : k ≤ t
      · have hk1 : decide ((t : Int) < k) = false := by simp; omega
        go_wp2
        go_ret
        exact ⟨_, rfl, by rw [HL2.out, HN.out] at hown; exact hown, hb, hb.size⟩
      · have hk2 : t = 9 := by have := HM.out; omega
        subst hk2
        have hk3 : (9 : Int) < k := by omega
        go_wp2
        go_ret
        exact ⟨_, rfl, by rw [HL2.out, HN.out] at hown; exact hown, hb, hb.size⟩
end Go.Proofs.Ytbffpehajkgjeaa
