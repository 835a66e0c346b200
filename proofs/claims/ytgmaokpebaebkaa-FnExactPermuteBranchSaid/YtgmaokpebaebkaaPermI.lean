/- Permutations: both sides answer the same. -/
import Derived.Test.YtgmaokpebaebkaaPerm
import Derived.Test.YtgmaokpebaebkaaProg
namespace Go.Proofs.Ytgmaokpebaebkaa
open Go.RowKit
set_option linter.unusedVariables false
theorem hasI_step {p : List Int} {t : Nat} {x : Int} (h : p[t]? = some x) (y : Int) : hasI (p.take (t + 1)) y = (hasI (p.take t) y || decide (y = x)) := by
  unfold hasI
  rw [List.take_add_one, h]
  simp
theorem isP_len {p : List Int} (h : inB p.length 1 4 = false) : isP p = false := by rw [isP, h]; rfl
theorem isP_eq {p : List Int} (h : inB p.length 1 4 = true) : isP p = isPf p 0 p := by rw [isP, h]; rfl
theorem ints_atP {p : List Int} {t : Nat} {x : Int} (h : p[t]? = some x) : (p.map (Value.int .i64))[t]? = some (.int .i64 x) := by simp [h]
theorem ints_take (p : List Int) (t : Nat) : (p.map (Value.int .i64)).take t = (p.take t).map (Value.int .i64) := by simp
set_option maxRecDepth 100000 in
set_option maxHeartbeats 4000000 in
theorem IsPermutation_impl (A : Option Addr) (n c : Nat) (p : List Int) (w : World) (h : Rd w 1 A n (p.map (Value.int .i64))) (hl : p.length = n) (hn : n ≤ 1099511627776) :
    Calls Try.prog 39 #[.slice A n c] w fun e w' => e = .returned (.bool (isP p)) ∧ Below w.heap.size w w' ∧ w.heap.size ≤ w'.heap.size := by
  have H := Lib.hid h
  have HL := Lib.hid hl
  clear h
  cases h14 : inB (n : Int) 1 4
  · have HS := Lib.hid (isP_len (p := p) (by rw [hl]; exact h14))
    clear hl
    go_enter Try.func39, Try.ntmps39
    go_wp2_with (go_at_call 47; (with_reducible refine (in_any (n : Int) 1 4 _).mono ?_); rintro e w' ⟨rfl, rfl⟩; rw [h14])
    go_ret
    exact ⟨by rw [HS.out]; rfl, (by repeat (first | exact Below.refl _ _ | assumption | (refine Below.trans ?_ (Below.mono (by assumption) (by first | omega | (simp; done) | (simp; omega)))) | (with_reducible refine Below.drew ?_) | (with_reducible refine Below.alloc ?_ (by first | omega | (simp; done) | (simp; omega)) _) | (with_reducible refine Below.setCell ?_ (by first | omega | (simp; done) | (simp; omega)) _))), (by first | omega | (simp; done) | (simp; omega))⟩
  · have hn4 := inB_iff.1 h14
    have HS := Lib.hid (isP_eq (p := p) (by rw [hl]; exact h14))
    have H14 := Lib.hid h14
    obtain ⟨w0, hw0⟩ : ∃ w0, w0 = w.alloc (.cells #[.bool false, .bool false, .bool false, .bool false] 83) := ⟨_, rfl⟩
    have X0 := Lib.hid (show w0.heap[w.heap.size]? = some (.cells #[.bool false, .bool false, .bool false, .bool false] 83 (0, 0)) by rw [hw0]; exact boxed1_0 _ _)
    have b0 : Below w.heap.size w w0 := by rw [hw0]; exact (by repeat (first | exact Below.refl _ _ | assumption | (refine Below.trans ?_ (Below.mono (by assumption) (by first | omega | (simp; done) | (simp; omega)))) | (with_reducible refine Below.drew ?_) | (with_reducible refine Below.alloc ?_ (by first | omega | (simp; done) | (simp; omega)) _) | (with_reducible refine Below.setCell ?_ (by first | omega | (simp; done) | (simp; omega)) _)))
    have B0 := Lib.hid b0
    have HW := Lib.hid hw0
    clear hl h14 b0 hw0
    go_enter Try.func39, Try.ntmps39
    go_wp2_with (go_at_call 47; (with_reducible refine (in_any (n : Int) 1 4 _).mono ?_); rintro e w' ⟨rfl, rfl⟩; rw [H14.out])
    rw [← HW.out]
    go_loopw [13] (fun i wr => ∃ t : Nat, t ≤ n ∧ i = .int .i64 t ∧ Hid (isP p = isPf p t (p.drop t)) ∧ Hid (wr.heap[w.heap.size]? = some (.cells #[.bool (hasI (p.take t) 0), .bool (hasI (p.take t) 1), .bool (hasI (p.take t) 2), .bool (hasI (p.take t) 3)] 83 (0, 0))) ∧ Below w.heap.size w wr ∧ w.heap.size ≤ wr.heap.size) (fun i _ => n - (intOf i).toNat)
    case atStart => exact ⟨0, Nat.zero_le _, rfl, HS.out, X0.out, B0.out, B0.out.size⟩
    case round =>
      obtain ⟨t, ht, rfl, hp, hx, hb, hs⟩ := hrel
      have hlx := lt_of_block hx.out
      by_cases hlt : t < n
      · obtain ⟨x, hxt⟩ : ∃ x, p[t]? = some x := ⟨_, List.getElem?_eq_getElem (by rw [HL.out]; exact hlt)⟩
        obtain ⟨b, off, rfl, _, hc⟩ := (H.out.below hb).2 (by omega)
        have q0 := hc t _ (ints_atP hxt)
        have HP := Lib.hid (hp.out.trans (isPf_at hxt))
        have HX := Lib.hid hxt
        have HB := Lib.hid hb
        clear hc hxt hp hb
        cases hin : inB x 0 ((n : Int) - 1)
        · have HF : Hid (isP p = false) := by rw [HP.out, stepP, HL.out, hin]; exact rfl
          go_wp2_with (go_at_call 47; (with_reducible refine (in_any x 0 ((n : Int) - 1) _).mono ?_); rintro e w' ⟨rfl, rfl⟩; rw [hin])
          go_ret
          exact ⟨by rw [HF.out]; rfl, HB.out, hs⟩
        · have hx4 := inB_iff.1 hin
          cases hh : hasI (p.take t) x
          · have HN : Hid (isP p = isPf p (t + 1) (p.drop (t + 1))) := by rw [HP.out, stepP, HL.out, hin, hh]; exact rfl
            obtain ⟨wn, hwn⟩ : ∃ wn, wn = wr.setCell ⟨w.heap.size, x.toNat, none⟩ (.bool true) := ⟨_, rfl⟩
            have HXN : Hid (wn.heap[w.heap.size]? = some (.cells #[.bool (hasI (p.take (t + 1)) 0), .bool (hasI (p.take (t + 1)) 1), .bool (hasI (p.take (t + 1)) 2), .bool (hasI (p.take (t + 1)) 3)] 83 (0, 0))) := by
              rw [hwn, heap_setCell_same _ _ _ _ _ _ hx.out, hasI_step HX.out, hasI_step HX.out, hasI_step HX.out, hasI_step HX.out]
              have h4 : x = 0 ∨ x = 1 ∨ x = 2 ∨ x = 3 := by omega
              rcases h4 with rfl | rfl | rfl | rfl <;> (simp; exact trivial)
            have HBN : Hid (Below w.heap.size w wn) := by rw [hwn]; exact HB.out.setCell (Nat.le_refl _) _
            have hsn : w.heap.size ≤ wn.heap.size := by rw [hwn, World.size_setCell]; exact hs
            have HWN := Lib.hid hwn
            have hfr : ∀ j, wr.frozen? ⟨w.heap.size, j, none⟩ = false := fun j => by simp [World.frozen?, hx.out]
            have q1 : wr.cell? ⟨w.heap.size, x.toNat, none⟩ = some (.bool false) := by
              have h4 : x = 0 ∨ x = 1 ∨ x = 2 ∨ x = 3 := by omega
              rcases h4 with rfl | rfl | rfl | rfl <;> exact cell_at hx.out (by rw [← hh]; rfl)
            clear hwn hx
            obtain ⟨y, rfl⟩ : ∃ y : Nat, x = y := ⟨x.toNat, by omega⟩
            rw [Int.toNat_natCast] at q1 HWN
            have hy4 : y < 4 := by omega
            have hf1 := hfr y
            clear hfr
            go_wp2_with (go_at_call 47; (with_reducible refine (in_any (y : Int) 0 ((n : Int) - 1) _).mono ?_); rintro e w' ⟨rfl, rfl⟩; rw [hin])
            rw [← HWN.out]
            go_roundw
            case rel => exact ⟨t + 1, by omega, by go_num, HN, HXN, HBN.out, hsn⟩
            case measure => simp [intOf]; omega
          · have HF : Hid (isP p = false) := by rw [HP.out, stepP, HL.out, hin, hh]; exact rfl
            have q1 : wr.cell? ⟨w.heap.size, x.toNat, none⟩ = some (.bool true) := by
              have h4 : x = 0 ∨ x = 1 ∨ x = 2 ∨ x = 3 := by omega
              rcases h4 with rfl | rfl | rfl | rfl <;> exact cell_at hx.out (by rw [← hh]; rfl)
            clear hx
            obtain ⟨y, rfl⟩ : ∃ y : Nat, x = y := ⟨x.toNat, by omega⟩
            rw [Int.toNat_natCast] at q1
            have hy4 : y < 4 := by omega
            go_wp2_with (go_at_call 47; (with_reducible refine (in_any (y : Int) 0 ((n : Int) - 1) _).mono ?_); rintro e w' ⟨rfl, rfl⟩; rw [hin])
            go_ret
            exact ⟨by rw [HF.out]; rfl, HB.out, hs⟩
      · obtain rfl : t = n := by omega
        have HF : Hid (isP p = true) := by
          rw [hp.out, List.drop_of_length_le (by rw [HL.out]; exact Nat.le_refl _)]
          exact rfl
        go_wp2_with fail
        go_ret
        exact ⟨by rw [HF.out]; rfl, hb, hs⟩
set_option maxRecDepth 100000 in
set_option maxHeartbeats 4000000 in
theorem IsPermutation_spec (A : Option Addr) (n c : Nat) (p : List Int) (w : World) (h : Rd w 1 A n (p.map (Value.int .i64))) (hl : p.length = n) (hc : n ≤ c) (hn : n ≤ 1099511627776) :
    Calls Try.prog 35 #[.slice A n c] w fun e w' => e = .returned (.bool (isP p)) ∧ Below w.heap.size w w' ∧ w.heap.size ≤ w'.heap.size := by
  have H := Lib.hid h
  have HL := Lib.hid hl
  have HS : Hid (isP p = (inB n 1 4 && isPf p 0 p)) := by rw [isP, hl]; exact rfl
  clear h hl
  go_enter Try.func35, Try.ntmps35
  go_wp2
  go_loopw [3] (fun i wr => ∃ t : Nat, t ≤ n ∧ i = .int .i64 t ∧ Hid (isPf p 0 p = isPf p t (p.drop t)) ∧ Below w.heap.size w wr) (fun i _ => n - (intOf i).toNat)
  case atStart => exact ⟨0, Nat.zero_le _, rfl, rfl, Below.refl _ _⟩
  case round =>
    obtain ⟨t, ht, rfl, hp, hb⟩ := hrel
    have hbs := hb.size
    by_cases hlt : t < n
    · obtain ⟨x, hxt⟩ : ∃ x, p[t]? = some x := ⟨_, List.getElem?_eq_getElem (by rw [HL.out]; exact hlt)⟩
      obtain ⟨b, off, rfl, _, hcl⟩ := (H.out.below hb).2 (by omega)
      have q0 := hcl t _ (ints_atP hxt)
      have HP := Lib.hid (hp.out.trans (isPf_at hxt))
      have RT : Hid (Rd wr 1 (some ⟨b, off, none⟩) t ((p.take t).map (Value.int .i64))) := by
        have := (H.out.below hb).take (t := t) (by omega)
        rw [ints_take] at this
        exact this
      have HTL : Hid ((p.take t).length = t) := by rw [List.length_take, HL.out]; exact Nat.min_eq_left (by omega)
      have HB := Lib.hid hb
      have htc : t ≤ c := by omega
      clear hcl hxt hp hb
      cases hin : inB x 0 ((n : Int) - 1)
      · have HF : Hid (isP p = false) := by rw [HS.out, HP.out, stepP, HL.out, hin]; simp; exact trivial
        go_wp2_with fail
        go_quiet ((go_at_call 49; exact Calls.quiet_of_same ((l1In_any x 0 ((n : Int) - 1) _).mono fun e W h => (⟨h.1.trans (by rw [hin]), h.2.symm⟩ : e = .returned (.bool false) ∧ W = _))))
        go_wp2_with fail
        go_ret
        exact ⟨by rw [HF.out]; exact rfl, below_drewN HB.out _, by show w.heap.size ≤ wr.heap.size; omega⟩
      · cases hh : hasI (p.take t) x
        · have HN : Hid (isPf p 0 p = isPf p (t + 1) (p.drop (t + 1))) := by rw [HP.out, stepP, HL.out, hin, hh]; exact rfl
          have HQ : Hid (∀ (f : FuncId) (args : Array Value) (k : Nat) (r : Bool), ((f = 49 ∧ args = #[.int .i64 x, .int .i64 0, .int .i64 ((n : Int) - 1)] ∧ r = true) ∨ (f = 52 ∧ args = #[.slice (some ⟨b, off, none⟩) t c, .int .i64 x] ∧ r = false)) → Calls Try.prog f args (wr.drewN k) fun e W => e = .returned (.bool r) ∧ W = wr.drewN k) := by
            rintro f args k r (⟨rfl, rfl, rfl⟩ | ⟨rfl, rfl, rfl⟩)
            · exact (l1In_any x 0 ((n : Int) - 1) _).mono fun e W h => ⟨h.1.trans (by rw [hin]), h.2.symm⟩
            · exact (l1HasInt_any (some ⟨b, off, none⟩) t c (p.take t) x _ (RT.out.drewN k) HTL.out (by omega)).mono fun e W h => ⟨h.1.trans (by rw [hh]), h.2.symm⟩
          go_wp2_with fail
          go_quiet (first | (go_at_call 49; exact Calls.quiet_of_same (HQ.out _ _ _ _ (Or.inl ⟨rfl, rfl, rfl⟩))) | (go_at_call 52; exact Calls.quiet_of_same (HQ.out _ _ _ _ (Or.inr ⟨rfl, rfl, rfl⟩))))
          go_wp2_with fail
          go_roundw
          case rel => exact ⟨t + 1, by omega, by go_num, HN, below_drewN HB.out _⟩
          case measure => simp [intOf]; omega
        · have HF : Hid (isP p = false) := by rw [HS.out, HP.out, stepP, HL.out, hin, hh]; simp; exact trivial
          have HQ : Hid (∀ (f : FuncId) (args : Array Value) (k : Nat) (r : Bool), ((f = 49 ∧ args = #[.int .i64 x, .int .i64 0, .int .i64 ((n : Int) - 1)] ∧ r = true) ∨ (f = 52 ∧ args = #[.slice (some ⟨b, off, none⟩) t c, .int .i64 x] ∧ r = true)) → Calls Try.prog f args (wr.drewN k) fun e W => e = .returned (.bool r) ∧ W = wr.drewN k) := by
            rintro f args k r (⟨rfl, rfl, rfl⟩ | ⟨rfl, rfl, rfl⟩)
            · exact (l1In_any x 0 ((n : Int) - 1) _).mono fun e W h => ⟨h.1.trans (by rw [hin]), h.2.symm⟩
            · exact (l1HasInt_any (some ⟨b, off, none⟩) t c (p.take t) x _ (RT.out.drewN k) HTL.out (by omega)).mono fun e W h => ⟨h.1.trans (by rw [hh]), h.2.symm⟩
          go_wp2_with fail
          go_quiet (first | (go_at_call 49; exact Calls.quiet_of_same (HQ.out _ _ _ _ (Or.inl ⟨rfl, rfl, rfl⟩))) | (go_at_call 52; exact Calls.quiet_of_same (HQ.out _ _ _ _ (Or.inr ⟨rfl, rfl, rfl⟩))))
          go_wp2_with fail
          go_ret
          exact ⟨by rw [HF.out]; exact rfl, below_drewN HB.out _, by show w.heap.size ≤ wr.heap.size; omega⟩
    · obtain rfl : t = n := by omega
      have HF : Hid (isP p = inB (t : Int) 1 4) := by
        rw [HS.out, hp.out, List.drop_of_length_le (by rw [HL.out]; exact Nat.le_refl _)]
        simp [isPf]
        exact trivial
      go_wp2_with (go_at_call 49; refine (l1In_any _ _ _ _).mono ?_; rintro e w' ⟨rfl, rfl⟩)
      go_ret
      exact ⟨by rw [HF.out]; exact rfl, hb, hbs⟩
end Go.Proofs.Ytgmaokpebaebkaa
