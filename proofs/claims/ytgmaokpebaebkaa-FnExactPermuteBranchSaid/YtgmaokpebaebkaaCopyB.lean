/- Copying a branch, and asking whether it is 0 everywhere, by the program. -/
import Derived.Test.YtgmaokpebaebkaaSide
import Derived.Test.YtgmaokpebaebkaaMeasS
namespace Go.Proofs.Ytgmaokpebaebkaa
open Go.RowKit
set_option linter.unusedVariables false
attribute [local go_sem ↓ high] fold_append
theorem nz_f {l : List Dm} {j : Nat} {x : Dm} (h : l[j]? = some x) (hx : eqD x dz = false) : nz l = true := by
  rw [nz, List.any_eq_true]
  exact ⟨x, List.mem_of_getElem? h, by simp [hx]⟩
theorem anyM_f {M : List (List Dm)} {k : Nat} {r : List Dm} (h : M[k]? = some r) (hr : nz r = true) : anyM M = true := by
  rw [anyM, List.any_eq_true]
  exact ⟨r, List.mem_of_getElem? h, hr⟩
set_option maxRecDepth 100000 in
set_option maxHeartbeats 8000000 in
theorem copyBranch_any (b : Int) (A : Option Addr) (n c : Nat) (M : List (List Dm)) (w : World) (h : RdM w A n M) (hn : n ≤ 68719476736) (hs : szM M ≤ 1099511627776) :
    Calls Try.prog 38 #[.agg #[.int .i64 b, .slice A n c]] w (RetBr w b n M) := by
  obtain ⟨i0, hi0, hz0, hz1, hz2⟩ := info_parts info_DOmegaSE
  obtain ⟨i1, hi1, hy0, hy1, hy2⟩ := info_parts info_DOmegaE
  obtain ⟨w0, hw0⟩ : ∃ w0, w0 = ((w.alloc (.cells #[.int .i64 b, .slice A n c] 37)).alloc (.cells #[.int .i64 0, .slice none 0 0] 37)).alloc (.cells #[.int .i64 b, .slice none 0 0] 37) := ⟨_, rfl⟩
  have X1 := Lib.hid (show w0.heap[w.heap.size + 1]? = some (.cells #[.int .i64 0, .slice none 0 0] 37 (0, 0)) by rw [hw0]; exact boxed3_1 _ _ _ _)
  have X2 := Lib.hid (show w0.heap[w.heap.size + 2]? = some (.cells #[.int .i64 b, .slice none 0 0] 37 (0, 0)) by rw [hw0]; exact boxed3_2 _ _ _ _)
  have b0 : Below w.heap.size w w0 := by rw [hw0]; exact (by repeat (first | exact Below.refl _ _ | assumption | (refine Below.trans ?_ (Below.mono (by assumption) (by first | omega | (simp; done) | (simp; omega)))) | (with_reducible refine Below.drew ?_) | (with_reducible refine Below.alloc ?_ (by first | omega | (simp; done) | (simp; omega)) _) | (with_reducible refine Below.setCell ?_ (by first | omega | (simp; done) | (simp; omega)) _)))
  have s0 : w.heap.size + 3 = w0.heap.size := by rw [hw0]; simp
  have S0 := Lib.hid s0
  have B0 := Lib.hid b0
  have HL := Lib.hid h.len
  have H := Lib.hid h
  have HW := Lib.hid hw0
  clear h b0 s0 hw0
  go_enter Try.func38, Try.ntmps38
  go_wp2_with fail
  rw [← HW.out]
  go_loopw [12] (fun i wr => ∃ (t : Nat) (Ak : Option Addr) (ck : Nat) (F : List Nat), t ≤ n ∧ i = .int .i64 t ∧ wr.heap[w.heap.size + 2]? = some (.cells #[.int .i64 b, .slice Ak t ck] 37 (0, 0)) ∧ OwnM wr (w.heap.size + 3) (.slice Ak t ck) t (M.take t) F ∧ Below (w.heap.size + 2) w0 wr) (fun i _ => n - (intOf i).toNat)
  case atStart => exact ⟨0, none, 0, [], Nat.zero_le _, rfl, X2.out, by simpa using ownM_nil _ _, Below.refl _ _⟩
  case round =>
    obtain ⟨t, Ak, ck, F, ht, rfl, hx2, hown, hb⟩ := hrel
    have hbs := hb.size
    have s0 := S0.out
    have p0 : wr.cell? ⟨w.heap.size + 2, 0, none⟩ = some (.int .i64 b) := cell_at (j := 0) hx2 rfl
    have p1 : wr.cell? ⟨w.heap.size + 2, 1, none⟩ = some (.slice Ak t ck) := cell_at (j := 1) hx2 rfl
    have hXl : w.heap.size + 2 < wr.heap.size := lt_of_block hx2
    have HX2 := Lib.hid hx2
    have hbW := Lib.hid (B0.out.trans (hb.mono (by omega)))
    have HBW := Lib.hid hb
    by_cases hlt : t < n
    · have f1 : wr.frozen? ⟨w.heap.size + 2, 1, none⟩ = false := by simp [World.frozen?, hx2]
      have htl : t < M.length := by rw [HL.out]; exact hlt
      obtain ⟨r, hr⟩ : ∃ r, M[t]? = some r := ⟨_, List.getElem?_eq_getElem htl⟩
      obtain ⟨bb, off, a, c1, rfl, hbl, z0, hc1, hc2, hrd⟩ := (H.out.below hbW.out).at hr
      have hrl := szM_row hr
      have HT := Lib.hid (show M.take (t + 1) = M.take t ++ [r] by rw [List.take_add_one, hr]; rfl)
      obtain ⟨SS, hM1, hM2, hF, hN, hrows⟩ := hown
      subst hF
      have hr2 : Rd (wr.alloc (.cells #[] 67)).drew 5 a r.length (r.flatMap dcells) := (hrd.below ((Below.refl _ _).alloc (Nat.le_refl _) _)).drew
      have hb1 : Below wr.heap.size wr (wr.alloc (.cells #[] 67)).drew := ((Below.refl _ _).alloc (Nat.le_refl _) _).drew
      obtain ⟨v1, w2, hrun1, hown1, hgr1, hat1⟩ := run_append_rd (P := Try.prog) (wr.alloc (.cells #[] 67)).drew wr.heap.size 62 62 67 i1 _ 5 40 Try.underlying62 hi1 hy0 hy1 hy2 rfl (by decide) (.slice (some ⟨wr.heap.size, 0, none⟩) 0 0) 0 [] (own_empty wr _ 5) a r.length c1 (r.flatMap dcells) hr2 (one_flat dcells_one r) (by simp only [maxLen]; omega) (by omega) (by simp [World.drew])
      rw [Nat.zero_add, List.nil_append] at hown1
      have hb3 : Below wr.heap.size wr w2 := hb1.grown hgr1 (by simp [World.drew]) (fun k hk => by simp [Value.ownBlock] at hk; omega)
      obtain ⟨a2, c2, rfl, _, _, _⟩ := rd_of_own hown1
      have om2 := ownsRow_below hM2 hb3
      obtain ⟨v3, w3, hrun3, hown3, hgrow3, hat3⟩ := run_append_rd (P := Try.prog) (w2.alloc (.cells #[.slice a2 r.length c2] 62)) (w.heap.size + 3) 35 35 62 i0 _ 1 24 Try.underlying35 hi0 hz0 hz1 hz2 rfl (by omega) (.slice Ak t ck) t SS (om2.alloc _) (some ⟨w2.heap.size, 0, none⟩) 1 1 [.slice a2 r.length c2] (rd_lit2 rfl rfl) (by simp [Value.oneCell']) (by simp only [maxLen]; omega) (by omega) (by have := hb3.size; simp; omega)
      obtain ⟨A3, c3, rfl, _, _, _⟩ := rd_of_own hown3
      have k2 := (hb3.cell (p := ⟨w.heap.size + 2, 1, none⟩) hXl).trans p1
      have fr2 := (hb3.frozen (p := ⟨w.heap.size + 2, 1, none⟩) hXl).trans f1
      have hX2 : w.heap.size + 2 < w2.heap.size := by have := hb3.size; omega
      obtain ⟨k3, fr3⟩ := held_append hgrow3 (own_ge om2) (Nat.lt_succ_self _) k2 fr2 hX2
      have HSTEP := Lib.hid (states_step (B := w.heap.size + 2) (Nat.lt_succ_self _) (Nat.le_refl _) (by omega) HX2.out hM1 hM2 hN hrows hb hown1 hb3 hown3 hgrow3 hat3)
      rw [← HT.out] at HSTEP
      rw [fold_append] at hrun1 hrun3
      clear hx2 hb hr htl hrd hr2 hb1 hown1 hgr1 hat1 hb3 om2 hown3 hgrow3 hat3 hM1 hM2 hN hrows hbl hrl hi0 hz0 hz1 hz2 hi1 hy0 hy1 hy2 s0
      go_wp2_with fail
      go_region
      all_goals
        go_wp2_with fail
        go_roundw
        case rel =>
          obtain ⟨hx', ⟨F', hF'⟩, hb'⟩ := HSTEP.out
          exact ⟨t + 1, A3, c3, F', by omega, by go_num, hx', hF', hb'⟩
        case measure => simp [intOf]; omega
    · obtain rfl : t = n := by omega
      have hx1 := (hb.block (w.heap.size + 1) (by omega)).trans X1.out
      have q0 : wr.cell? ⟨w.heap.size + 1, 0, none⟩ = some (.int .i64 0) := cell_at (j := 0) hx1 rfl
      have q1 : wr.cell? ⟨w.heap.size + 1, 1, none⟩ = some (.slice none 0 0) := cell_at (j := 1) hx1 rfl
      have f0 : wr.frozen? ⟨w.heap.size + 1, 0, none⟩ = false := by simp [World.frozen?, hx1]
      have f1 : wr.frozen? ⟨w.heap.size + 1, 1, none⟩ = false := by simp [World.frozen?, hx1]
      rw [List.take_of_length_le (by rw [HL.out]; exact Nat.le_refl _)] at hown
      have HO := Lib.hid hown
      clear hx2 hx1 hown s0 hb
      go_wp2_with fail
      refine bodyPost_ret (v := .agg #[.int .i64 b, .slice Ak t ck]) (by simp [results, Try.results38, go_sem, q0, q1]) rfl ⟨Ak, ck, F, rfl, ?_, ?_, ?_⟩
      · exact ((HO.out.base_le (by omega)).kin ((kin_setCell _ (w.heap.size + 1) _ _).trans (kin_setCell _ (w.heap.size + 1) _ _)) (fun k hk hm => by have := (HO.out.lt k hk).1; simp at hm; omega))
      · exact ((hbW.out).setCell (by first | omega | (simp; done) | (simp; omega)) _).setCell (by first | omega | (simp; done) | (simp; omega)) _
      · simp [World.setCell]; omega
end Go.Proofs.Ytgmaokpebaebkaa
