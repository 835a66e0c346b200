/- Where an index goes: both sides answer the same. -/
import Derived.Test.YtgmaokpebaebkaaPermI
namespace Go.Proofs.Ytgmaokpebaebkaa
open Go.RowKit
set_option linter.unusedVariables false
theorem pidx_no {p : List Int} {i : Int} (h : isP p = false) : pidx p i = 0 := by rw [pidx, h]; rfl
theorem pidx_out {p : List Int} {i : Int} (h : inB i 0 (2 ^ p.length - 1) = false) : pidx p i = 0 := by rw [pidx, h]; simp
theorem pidx_yes {p : List Int} {i : Int} (h : isP p = true) (h2 : inB i 0 (2 ^ p.length - 1) = true) : pidx p i = pix i 0 0 p := by rw [pidx, h, h2]; rfl
theorem pow_le16 {n : Nat} (h : n ≤ 4) : (2 : Int) ^ n ≤ 16 := by
  have : 2 ^ n ≤ 16 := Nat.pow_le_pow_right (n := 2) (by decide) h
  exact_mod_cast this
set_option maxRecDepth 100000 in
set_option maxHeartbeats 4000000 in
theorem PermuteIndex_impl (A : Option Addr) (n c : Nat) (p : List Int) (i : Int) (w : World) (h : Rd w 1 A n (p.map (Value.int .i64))) (hl : p.length = n) (hn : n ≤ 1099511627776) :
    Calls Try.prog 40 #[.slice A n c, .int .i64 i] w fun e w' => e = .returned (.int .i64 (pidx p i)) ∧ Below w.heap.size w w' ∧ w.heap.size ≤ w'.heap.size := by
  have H := Lib.hid h
  have HL := Lib.hid hl
  have HI := Lib.hid (IsPermutation_impl A n c p w h hl hn)
  clear h
  cases hp : isP p
  · have HS := Lib.hid (pidx_no (i := i) hp)
    rw [hp] at HI
    clear hl
    go_enter Try.func40, Try.ntmps40
    go_wp2_with (go_at_call 39; (with_reducible refine HI.out.mono ?_); rintro e w' ⟨rfl, b1, s1⟩)
    go_ret
    exact ⟨by rw [HS.out]; rfl, b1, s1⟩
  · have hm := (isP_mem hp).1
    rw [hl] at hm
    rw [hp] at HI
    have hmem := Lib.hid (isP_mem hp).2
    have hp16 := pow_le16 hm.2
    have hpp : (0 : Int) < 2 ^ n := Int.pow_pos (by decide)
    have hw : wrap64 (wrap64 (2 ^ n) - 1) = 2 ^ n - 1 := by rw [IntWalk.wrap64_in (2 ^ n) (by omega)]; exact IntWalk.wrap64_in _ (by omega)
    cases hin : inB i 0 (2 ^ n - 1)
    · have HS := Lib.hid (pidx_out (p := p) (i := i) (by rw [hl]; exact hin))
      have HB : Hid (inB i 0 (wrap64 (wrap64 (2 ^ n) - 1)) = false) := by rw [hw]; exact hin
      clear hl hp hw hin hp16 hpp
      go_enter Try.func40, Try.ntmps40
      go_wp2_with (first | (go_at_call 39; (with_reducible refine HI.out.mono ?_); rintro e w' ⟨rfl, b1, s1⟩) | (go_at_call 47; (with_reducible refine (in_any i 0 (wrap64 (wrap64 (2 ^ n) - 1)) _).mono ?_); rintro e w' ⟨rfl, rfl⟩; rw [HB.out]))
      go_ret
      exact ⟨by rw [HS.out]; rfl, b1, s1⟩
    · have HS := Lib.hid (pidx_yes (i := i) hp (by rw [hl]; exact hin))
      have HB : Hid (inB i 0 (wrap64 (wrap64 (2 ^ n) - 1)) = true) := by rw [hw]; exact hin
      have HIN := Lib.hid hin
      clear hl hp hw hin hp16 hpp
      go_enter Try.func40, Try.ntmps40
      go_wp2_with (first | (go_at_call 39; (with_reducible refine HI.out.mono ?_); rintro e w' ⟨rfl, b1, s1⟩) | (go_at_call 47; (with_reducible refine (in_any i 0 (wrap64 (wrap64 (2 ^ n) - 1)) _).mono ?_); rintro e w' ⟨rfl, rfl⟩; rw [HB.out]))
      have B1 := Lib.hid b1
      clear b1
      go_loop [5, 22] (fun v q => ∃ (t : Nat) (o : Int), t ≤ n ∧ q = .int .i64 t ∧ v = .int .i64 o ∧ Hid (pidx p i = pix i t o (p.drop t))) (fun _ q => n - (intOf q).toNat)
      case atStart => exact ⟨0, 0, Nat.zero_le _, rfl, rfl, HS.out⟩
      case round =>
        obtain ⟨t, o, ht, rfl, rfl, hd⟩ := hrel
        by_cases hlt : t < n
        · obtain ⟨x, hxt⟩ : ∃ x, p[t]? = some x := ⟨_, List.getElem?_eq_getElem (by rw [HL.out]; exact hlt)⟩
          obtain ⟨b, off, rfl, _, hc⟩ := (H.out.below B1.out).2 (by omega)
          have q0 := hc t _ (ints_atP hxt)
          have hx0 := hmem.out x (List.mem_of_getElem? hxt)
          obtain ⟨k, rfl⟩ : ∃ k : Nat, x = k := ⟨x.toNat, by omega⟩
          have HN : Hid (pidx p i = pix i (t + 1) (bits BinOp.or IntKind.i64 o (wrap64 (bits BinOp.and IntKind.i64 (i / 2 ^ t) 1 * 2 ^ min k 64))) (p.drop (t + 1))) := by
            have hmk : min k 64 = k := by have := HL.out; omega
            rw [hmk, hd.out, pix_at hxt, pst, Int.toNat_natCast]
            exact rfl
          clear hc hxt hd hx0
          go_wp2_with fail
          go_round
          case rel => exact ⟨t + 1, _, by omega, by go_num, rfl, HN⟩
          case measure => simp [intOf]; omega
        · obtain rfl : t = n := by omega
          have HF : Hid (pidx p i = o) := by
            rw [hd.out, List.drop_of_length_le (by rw [HL.out]; exact Nat.le_refl _)]
            exact rfl
          go_wp2_with fail
          go_ret
          exact ⟨by rw [HF.out]; rfl, B1.out, s1⟩
set_option maxRecDepth 100000 in
set_option maxHeartbeats 4000000 in
theorem PermuteIndex_spec (A : Option Addr) (n c : Nat) (p : List Int) (i : Int) (w : World) (h : Rd w 1 A n (p.map (Value.int .i64))) (hl : p.length = n) (hc : n ≤ c) (hn : n ≤ 1099511627776) :
    Calls Try.prog 36 #[.slice A n c, .int .i64 i] w fun e w' => e = .returned (.int .i64 (pidx p i)) ∧ Below w.heap.size w w' ∧ w.heap.size ≤ w'.heap.size := by
  have H := Lib.hid h
  have HL := Lib.hid hl
  have HI := Lib.hid (IsPermutation_spec A n c p w h hl hc hn)
  clear h
  cases hp : isP p
  · have HS := Lib.hid (pidx_no (i := i) hp)
    rw [hp] at HI
    clear hl
    go_enter Try.func36, Try.ntmps36
    go_wp2_with (go_at_call 35; (with_reducible refine HI.out.mono ?_); rintro e w' ⟨rfl, b1, s1⟩)
    go_ret
    exact ⟨by rw [HS.out]; rfl, b1, s1⟩
  · have hm := (isP_mem hp).1
    rw [hl] at hm
    rw [hp] at HI
    have hmem := Lib.hid (isP_mem hp).2
    have hp16 := pow_le16 hm.2
    have hpp : (0 : Int) < 2 ^ n := Int.pow_pos (by decide)
    have hw : wrap64 (wrap64 (2 ^ n) - 1) = 2 ^ n - 1 := by rw [IntWalk.wrap64_in (2 ^ n) (by omega)]; exact IntWalk.wrap64_in _ (by omega)
    cases hin : inB i 0 (2 ^ n - 1)
    · have HS := Lib.hid (pidx_out (p := p) (i := i) (by rw [hl]; exact hin))
      have HB : Hid (inB i 0 (wrap64 (wrap64 (2 ^ n) - 1)) = false) := by rw [hw]; exact hin
      clear hl hp hw hin hp16 hpp
      go_enter Try.func36, Try.ntmps36
      go_wp2_with (first | (go_at_call 35; (with_reducible refine HI.out.mono ?_); rintro e w' ⟨rfl, b1, s1⟩) | (go_at_call 49; (with_reducible refine (l1In_any i 0 (wrap64 (wrap64 (2 ^ n) - 1)) _).mono ?_); rintro e w' ⟨rfl, rfl⟩; rw [HB.out]))
      go_ret
      exact ⟨by rw [HS.out]; rfl, b1, s1⟩
    · have HS := Lib.hid (pidx_yes (i := i) hp (by rw [hl]; exact hin))
      have HB : Hid (inB i 0 (wrap64 (wrap64 (2 ^ n) - 1)) = true) := by rw [hw]; exact hin
      have HIN := Lib.hid hin
      clear hl hp hw hin hp16 hpp
      go_enter Try.func36, Try.ntmps36
      go_wp2_with (first | (go_at_call 35; (with_reducible refine HI.out.mono ?_); rintro e w' ⟨rfl, b1, s1⟩) | (go_at_call 49; (with_reducible refine (l1In_any i 0 (wrap64 (wrap64 (2 ^ n) - 1)) _).mono ?_); rintro e w' ⟨rfl, rfl⟩; rw [HB.out]))
      have B1 := Lib.hid b1
      clear b1
      go_loop [5, 6] (fun v q => ∃ (t : Nat) (o : Int), t ≤ n ∧ q = .int .i64 t ∧ v = .int .i64 o ∧ Hid (pidx p i = pix i t o (p.drop t))) (fun _ q => n - (intOf q).toNat)
      case atStart => exact ⟨0, 0, Nat.zero_le _, rfl, rfl, HS.out⟩
      case round =>
        obtain ⟨t, o, ht, rfl, rfl, hd⟩ := hrel
        by_cases hlt : t < n
        · obtain ⟨x, hxt⟩ : ∃ x, p[t]? = some x := ⟨_, List.getElem?_eq_getElem (by rw [HL.out]; exact hlt)⟩
          obtain ⟨b, off, rfl, _, hcl⟩ := (H.out.below B1.out).2 (by omega)
          have q0 := hcl t _ (ints_atP hxt)
          have hx0 := hmem.out x (List.mem_of_getElem? hxt)
          obtain ⟨k, rfl⟩ : ∃ k : Nat, x = k := ⟨x.toNat, by omega⟩
          have HN : Hid (pidx p i = pix i (t + 1) (bits BinOp.or IntKind.i64 o (wrap64 (bits BinOp.and IntKind.i64 (i / 2 ^ t) 1 * 2 ^ min (IntKind.u64.wrap (k : Int)).toNat 64))) (p.drop (t + 1))) := by
            have hmk : min (IntKind.u64.wrap (k : Int)).toNat 64 = k := by
              have hk4 : k = 0 ∨ k = 1 ∨ k = 2 ∨ k = 3 := by have := HL.out; omega
              rcases hk4 with rfl | rfl | rfl | rfl <;> rfl
            rw [hmk, hd.out, pix_at hxt, pst, Int.toNat_natCast]
            exact rfl
          clear hcl hxt hd hx0
          go_wp2_with fail
          go_round
          case rel => exact ⟨t + 1, _, by omega, by go_num, rfl, HN⟩
          case measure => simp [intOf]; omega
        · obtain rfl : t = n := by omega
          have HF : Hid (pidx p i = o) := by
            rw [hd.out, List.drop_of_length_le (by rw [HL.out]; exact Nat.le_refl _)]
            exact rfl
          go_wp2_with fail
          go_ret
          exact ⟨by rw [HF.out]; rfl, B1.out, s1⟩
end Go.Proofs.Ytgmaokpebaebkaa
