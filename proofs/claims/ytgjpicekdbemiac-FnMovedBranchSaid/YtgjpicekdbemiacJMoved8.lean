/- What the calls that this law reaches answer, part 8 of 9. -/
import Derived.Test.YtgjpicekdbemiacJMoved7
import Derived.Test.YtgjpicekdbemiacJMoved2
import Derived.Test.YtgjpicekdbemiacProg
import Derived.Test.YtgjpicekdbemiacJMoved6
import Derived.Test.YtgjpicekdbemiacJMoved3
namespace Go.Proofs.Ytgjpicekdbemiac
open Go.RowKit
set_option linter.unusedVariables false
def InN (n : Nat) (L : List Int) : Prop := ∀ x ∈ L, 0 ≤ x ∧ x < n
def DPn (w : World) (p n : Nat) (e : Ending) (w' : World) : Prop := ∃ (v : Value) (L : List Int), e = .returned v ∧ L.length = n ∧ InN n L ∧ w'.ownsRow w.heap.size 3 1 v n (L.map (Value.int .i64)) ∧ CurAt w' p ∧ w.grownBy w' (some p)
def RetIntsN (w : World) (n : Nat) (e : Ending) (w' : World) : Prop := ∃ (v : Value) (L : List Int), e = .returned v ∧ L.length = n ∧ InN n L ∧ w'.ownsRow w.heap.size 3 1 v n (L.map (Value.int .i64)) ∧ Below w.heap.size w w' ∧ w.heap.size ≤ w'.heap.size
theorem inN_set {n : Nat} {L : List Int} {y : Int} (h : InN n L) (hy : y ∈ L) (i : Nat) : InN n (L.set i y) := by
  intro x hx
  rcases List.mem_or_eq_of_mem_set hx with h1 | h1
  · exact h x h1
  · rw [h1]; exact h y hy
theorem inN_snoc {n : Nat} {L : List Int} {y : Int} (h : InN n L) (h0 : 0 ≤ y) (h1 : y < n) : InN n (L ++ [y]) := by
  intro x hx
  rcases List.mem_append.1 hx with h2 | h2
  · exact h x h2
  · rw [List.mem_singleton.1 h2]; exact ⟨h0, h1⟩
theorem inN_up {n m : Nat} {L : List Int} (h : InN n L) (hm : n ≤ m) : InN m L := fun x hx => by have := h x hx; omega
theorem pickedN {w : World} {L : List Int} {b : Nat} (hb : b = w.heap.size) : Rd (w.alloc (.cells (L.map (Value.int .i64)).toArray 3)) 1 (some ⟨b, 0, none⟩) L.length (L.map (Value.int .i64)) := by
  have h := rd_lit1 (w := w) (cs := (L.map (Value.int .i64)).toArray) (e := 3) (n := L.length) (size := 1) hb (by simp)
  simpa using h
theorem inN_set2 {n : Nat} {L : List Int} {y z : Int} (h : InN n L) (hy : y ∈ L) (hz : z ∈ L) {i j : Nat} : InN n ((L.set i y).set j z) := by
  intro x hx
  rcases List.mem_or_eq_of_mem_set hx with h1 | h1
  · exact inN_set h hy i x h1
  · rw [h1]; exact h z hz
set_option maxRecDepth 100000 in
set_option maxHeartbeats 1000000 in
theorem IdentityPermutation_n (n : Nat) (w : World) (h1 : 1 ≤ n) (h4 : n ≤ 4) : Calls Try.prog 25 #[.int .i64 n] w (RetIntsN w n) := by
  obtain ⟨i0, hi, hz0, hz1, hz2⟩ := info_parts info_int
  have hin : inB (n : Int) 1 4 = true := inB_iff.2 (by omega)
  go_enter Try.func25, Try.ntmps25
  go_wp2_with fail
  go_loopw [3, 4] (fun v i wr => ∃ (t : Nat) (L : List Int), t ≤ n ∧ i = .int .i64 t ∧ L.length = t ∧ Hid (InN t L) ∧ wr.ownsRow w.heap.size 3 1 v t (L.map (Value.int .i64)) ∧ Below w.heap.size w wr) (fun _ i _ => n - (intOf i).toNat)
  case atStart => exact ⟨0, [], Nat.zero_le _, rfl, rfl, (fun x hx => absurd hx (by simp)), by simpa using own_empty w _ 1, (by repeat (first | exact Below.refl _ _ | assumption | (refine Below.trans ?_ (Below.mono (by assumption) (by first | omega | (simp; done) | (simp; omega)))) | (with_reducible refine Below.drew ?_) | (with_reducible refine Below.alloc ?_ (by first | omega | (simp; done) | (simp; omega)) _) | (with_reducible refine Below.setCell ?_ (by first | omega | (simp; done) | (simp; omega)) _)))⟩
  case round =>
    obtain ⟨t, L, ht, rfl, hL, hin2, hown, hb⟩ := hrel
    have HL := Lib.hid hL
    clear hL
    by_cases hlt : t < n
    · go_wp2_with (first | (go_at_call 29; refine (l1In_any _ _ _ _).mono ?_; rintro e w' ⟨rfl, rfl⟩) | (at_builtin; refine wpList_append_rd _ rfl _ _ 27 rfl w.heap.size 3 i0 _ 1 8 Try.underlying27 hi hz0 hz1 hz2 rfl (by decide) _ _ _ rfl (hown.alloc _) _ 1 1 _ rfl (rd_lit1 ?c0 rfl) ?c2 ?c3 ?c4 ?c5 ?_))
      case c0 => first | rfl | simp
      case c2 => repeat' (first | rfl | apply And.intro)
      case c3 => simp only [maxLen]; omega
      case c4 => omega
      case c5 => have := hb.size; simp; omega
      intro v3 w3 own3 gr3 _
      have b3 := (hb.alloc hb.size _).grown gr3 (by have := hb.size; simp; omega) (own_ge hown)
      clear hown gr3
      go_wp2_with fail
      go_roundw
      case rel => exact ⟨t + 1, L ++ [(t : Int)], by omega, by go_num, by simp [HL.out], inN_snoc (inN_up hin2.out (by omega)) (by omega) (by omega), by simpa using own3, b3⟩
      case measure => simp [intOf]; omega
    · obtain rfl : t = n := by omega
      go_wp2_with (go_at_call 29; refine (l1In_any _ _ _ _).mono ?_; rintro e w' ⟨rfl, rfl⟩)
      go_ret
      exact ⟨_, L, rfl, HL.out, hin2.out, hown, hb, hb.size⟩
set_option maxRecDepth 100000 in
set_option maxHeartbeats 2000000 in
theorem l8Perm_n (n : Nat) (w : World) (p : Nat) (hcur : CurAt w p) (h1 : 1 ≤ n) (h4 : n ≤ 4) : Calls Try.prog 14 #[.pointer (some ⟨p, 0, none⟩), .int .i64 n] w (DPn w p n) := by
  have hp := hcur.lt
  go_enter Try.func14, Try.ntmps14
  go_wp2_with fail
  refine (IdentityPermutation_n n w h1 h4).mono ?_
  rintro e w1 ⟨v, L, rfl, hL, hin, hown, hb, hs⟩
  have HIN := Lib.hid hin
  clear hin
  have hfr : Fr w p w1 := (Fr.start hcur).below hb
  rcases hown.2 with ⟨_, h0⟩ | ⟨g, cap, cur, rfl, hgb, hh, hcp, hm, _, _⟩
  · omega
  have HL := Lib.hid hL
  clear hL hh hb
  go_wp2_with fail
  go_loopw [6, 7, 8] (fun i _ _ wr => ∃ (t : Nat) (L : List Int), t + 1 ≤ n ∧ i = .int .i64 t ∧ L.length = n ∧ Hid (InN n L) ∧ wr.ownsRow w.heap.size 3 1 (.slice (some ⟨g, 0, none⟩) n cap) n (L.map (Value.int .i64)) ∧ Fr w p wr) (fun i _ _ _ => (intOf i).toNat)
  case atStart => exact ⟨n - 1, L, by omega, by congr 1; omega, HL.out, HIN.out, hown, hfr⟩
  case round =>
    clear hown hfr
    obtain ⟨t, L, ht, rfl, hL, hin, hown, hfr⟩ := hrel
    have HL2 := Lib.hid hL
    clear hL
    by_cases hlt : 0 < t
    · go_wp2_with fail
      refine (l1Below_any (t + 1) t wr p hfr.cur (by omega) (by omega) (by omega)).mono ?_
      rintro e w2 ⟨x, hx0, hx1, rfl, hc2, hg2⟩
      obtain ⟨k, rfl⟩ : ∃ k : Nat, x = k := ⟨x.toNat, by omega⟩
      have hfr2 := hfr.call hc2 hg2
      have hown2 : w2.ownsRow w.heap.size 3 1 (.slice (some ⟨g, 0, none⟩) n cap) n (L.map (Value.int .i64)) := hown.kept hg2 (.inr (by
        intro e
        simp [Value.ownBlock] at e
        omega))
      obtain ⟨y1, hy1⟩ : ∃ y, L[t]? = some y := ⟨_, List.getElem?_eq_getElem (by rw [HL2.out]; omega)⟩
      obtain ⟨y2, hy2⟩ : ∃ y, L[k]? = some y := ⟨_, List.getElem?_eq_getElem (by rw [HL2.out]; omega)⟩
      have z1 : w2.cell? ⟨g, t, none⟩ = some (.int .i64 y1) := (hown2.cellAt t (by omega)).trans (by simp [hy1])
      have z2 : w2.cell? ⟨g, k, none⟩ = some (.int .i64 y2) := (hown2.cellAt k (by omega)).trans (by simp [hy2])
      have f1 := hown2.frozenAt t
      have f2 := hown2.frozenAt k
      have HO := Lib.hid hown2
      have HFR := Lib.hid hfr2
      have hm1 := List.mem_of_getElem? hy1
      have hm2 := List.mem_of_getElem? hy2
      have HM1 := Lib.hid hm1
      have HM2 := Lib.hid hm2
      clear hown hown2 hfr hfr2 hy1 hy2 hc2 hg2 hm1 hm2
      by_cases hkt : k = t
      · subst hkt
        have s0 := (HO.out.stored k (.int .i64 y2))
        have s1 := (s0.1.stored k (.int .i64 y2))
        have HS := Lib.hid (And.intro s0 s1)
        clear s0 s1 z1
        go_wp2_with fail
        go_roundw
        case rel => exact ⟨k - 1, (L.set k y2).set k y2, by omega, by congr 1; omega, by simp [HL2.out], by rw [List.set_set]; exact inN_set hin.out HM2.out k, by simpa using HS.out.2.1, (HFR.out.own hp HS.out.1.2 (fun j hj => by injection hj with hj; omega)).own hp HS.out.2.2 (fun j hj => by injection hj with hj; omega)⟩
        case measure => simp [intOf]; omega
      · have s0 := (HO.out.stored t (.int .i64 y2))
        have s1 := (s0.1.stored k (.int .i64 y1))
        have HS := Lib.hid (And.intro s0 s1)
        clear s0 s1
        go_wp2_with fail
        go_roundw
        case rel => exact ⟨t - 1, (L.set t y2).set k y1, by omega, by congr 1; omega, by simp [HL2.out], inN_set2 hin.out HM2.out HM1.out, by simpa using HS.out.2.1, (HFR.out.own hp HS.out.1.2 (fun j hj => by injection hj with hj; omega)).own hp HS.out.2.2 (fun j hj => by injection hj with hj; omega)⟩
        case measure => simp [intOf]; omega
    · obtain rfl : t = 0 := by omega
      go_wp2_with fail
      go_ret
      exact ⟨_, L, rfl, HL2.out, hin.out, hown, hfr.cur, hfr.gr⟩
end Go.Proofs.Ytgjpicekdbemiac
namespace Go.Proofs.Ytgjpicekdbemiac
open Go.RowKit
set_option linter.unusedVariables false
theorem own_drawB {w1 w2 : World} {B e size n p : Nat} {v : Value} {xs : List Value} (h : w1.ownsRow B e size v n xs) (hg : w1.grownBy w2 (some p)) (hp : p < B) : w2.ownsRow B e size v n xs :=
  own_blocks h (fun k hk => hg.block k (h.lt k hk).2 (fun e => by injection e with e; have := (h.lt k hk).1; omega))
theorem grown_undrewB {w w' : World} {row : Option Nat} (h : w.drew.grownBy w' row) : w.grownBy w' row := ⟨h.os, h.tape, h.output, h.size, h.block⟩
/-- A list of branches that was drawn. -/
def DrewBs (w : World) (p : Nat) (e : Ending) (w' : World) : Prop := ∃ (A : Option Addr) (n c : Nat) (L : List Br), e = .returned (.slice A n c) ∧ SB (fun k => k < w.heap.size) w' A n L ∧ n ≤ 64 ∧ (∀ x ∈ L, Shp x.M) ∧ CurAt w' p ∧ w.grownBy w' (some p)
set_option maxRecDepth 100000 in
set_option maxHeartbeats 4000000 in
theorem l24List_any (w : World) (p : Nat) (hcur : CurAt w p) : Calls Try.prog 23 #[.pointer (some ⟨p, 0, none⟩)] w (DrewBs w p) := by
  have hp := hcur.lt
  have HR := Lib.hid (show Calls Try.prog 32 #[.pointer (some ⟨p, 0, none⟩), .int .i64 6] w (DR w p 6) from l21Right_any 6 w p hcur (by decide))
  go_enter Try.func23, Try.ntmps23
  go_wp2_with fail
  refine HR.out.mono ?_
  rintro e w2 ⟨N, I, B, A1, n1, c1, L1, rfl, hl1, hn1, _, _, _, _, ho1, hc2, hg2⟩
  have HSI := Lib.hid (Simulate_any N I B A1 n1 c1 L1 w2 (rd_own8 ho1) hl1 hn1)
  have hs2 := hg2.size
  clear ho1 HR
  go_wp2_with fail
  refine HSI.out.mono ?_
  rintro e w3 ⟨A3, n3, c3, L3, ok, rfl, g1, g2, g3, g4, g5, hb3, hs3⟩
  have G1 := Lib.hid (g1.more (D := fun k => k < w.heap.size) (Near.refl _ _) (fun i _ hd => by have hd' : i < w.heap.size := hd; show i < w2.heap.size; omega))
  have G5 := Lib.hid g5
  have HC := Lib.hid (hc2.below hb3)
  have HG := Lib.hid (hg2.trans (only_of_below hb3 (some p)))
  clear g1 g5 hb3 hc2 hg2 HSI
  go_wp2_with fail
  go_ret
  exact ⟨A3, n3, c3, L3, rfl, G1.out, g2, G5.out, HC.out, HG.out⟩
/-- A branch that was drawn, and a number. -/
def DrewBp (w : World) (e : Ending) (w' : World) : Prop := ∃ (b : Int) (A : Option Addr) (n c : Nat) (M : List (List Dm)) (i : Int), e = .returned (.tuple #[.agg #[.int .i64 b, .slice A n c], .int .i64 i]) ∧ SM (fun k => k < w.heap.size) w' A n M ∧ Shp M ∧ Below w.heap.size w w' ∧ w.heap.size ≤ w'.heap.size
set_option maxRecDepth 100000 in
set_option maxHeartbeats 8000000 in
theorem DrawBranchProbability_any (A : Option Addr) (n c : Nat) (bs : List (Fin 256)) (w : World) (h : Rd w 1 A n (bs.flatMap bcell)) (hl : bs.length = n) (hn : n ≤ 1048576) : Calls Try.prog 11 #[.slice A n c] w (DrewBp w) := by
  obtain ⟨w0, hw0⟩ : ∃ w0, w0 = w.alloc (.cells #[.int .i64 0, .slice none 0 0] 26) := ⟨_, rfl⟩
  have r0 := Lib.hid (show w0.heap[w.heap.size]? = some (.cells #[.int .i64 0, .slice none 0 0] 26 (0, 0)) by rw [hw0]; exact boxed1_0 _ _)
  have b0 : Below w.heap.size w w0 := by rw [hw0]; exact (by repeat (first | exact Below.refl _ _ | assumption | (refine Below.trans ?_ (Below.mono (by assumption) (by first | omega | (simp; done) | (simp; omega)))) | (with_reducible refine Below.drew ?_) | (with_reducible refine Below.alloc ?_ (by first | omega | (simp; done) | (simp; omega)) _) | (with_reducible refine Below.setCell ?_ (by first | omega | (simp; done) | (simp; omega)) _)))
  have s0 : w.heap.size < w0.heap.size := by rw [hw0]; simp
  have H0 := Lib.hid (h.below b0)
  have HW := Lib.hid hw0
  clear h hw0
  go_enter Try.func11, Try.ntmps11
  go_wp2_with fail
  rw [← HW.out]
  refine (l1New_any A n c bs w0 H0.out hl hn).mono ?_
  rintro e w1 ⟨p, rfl, hp1, hc1, hb1⟩
  have r1 := Lib.hid ((hb1.block _ s0).trans r0.out)
  have b1 := b0.trans (hb1.mono b0.size)
  have hpl := hc1.lt
  have hsz := hb1.size
  have HR := Lib.hid (l24List_any w1 p hc1)
  clear hb1 b0 hc1
  go_wp2_with fail
  refine HR.out.mono ?_
  rintro e w2 ⟨A2, n2, c2, L2, rfl, hsb, hn2, hsh, hc2, hg2⟩
  have r2 := (hg2.block _ (by omega) (fun e => by injection e with e; omega)).trans r1.out
  have b2 : Below w.heap.size w w2 := b1.grown hg2 b1.size (fun k e => by injection e with e; omega)
  have hs2 := hg2.size
  have B2 := Lib.hid b2
  have HC := Lib.hid hc2
  have R2 := Lib.hid r2
  have SBL := Lib.hid hsb
  have SHL := Lib.hid hsh
  clear hg2 b1 HR hsb hsh hc2 b2 r2
  by_cases h0 : n2 = 0
  · subst h0
    have kr0 := cell_at (j := 0) R2.out rfl
    have kr1 := cell_at (j := 1) R2.out rfl
    have fr0 := free_b (j := 0) R2.out
    have fr1 := free_b (j := 1) R2.out
    go_wp2_with fail
    exact bodyPost_ret (v := .tuple #[.agg #[.int .i64 0, .slice none 0 0], .int .i64 0]) (by simp [results, Try.results11, go_sem, kr0, kr1]) rfl ⟨0, none, 0, 0, [], 0, rfl, fun W _ => rdM_nil W, shp_nil, below_set2 B2.out (Nat.le_refl _), size_set2 B2.out.size⟩
  · have hk : ((n2 : Int) == 0) = false := by simp; omega
    have hk0 : 0 < n2 := by omega
    have hk1 : (0 : Int) < (n2 : Int) := by omega
    obtain ⟨x, hx⟩ : ∃ x, L2[0]? = some x := ⟨_, List.getElem?_eq_getElem (by rw [SBL.out.len]; omega)⟩
    obtain ⟨bb, off, ax, cx, rfl, hbl, kl0, kl1, hxc, hxm, hsm⟩ := SBL.out.at hx
    simp only [Nat.zero_mul, Nat.add_zero] at kl0 kl1
    have HSX := Lib.hid (SHL.out x (List.mem_of_getElem? hx))
    obtain ⟨S2, e1, e2, e3, e4⟩ := SBL.out
    have hbC : ¬ bb < w1.heap.size := e3 (by omega) _ rfl
    have HSM := Lib.hid hsm
    clear e1 e2 e3 e4 hx hsm
    have KX : Hid (∀ W : World, W.heap[bb]? = w2.heap[bb]? → (W.cell? ⟨bb, off, none⟩ = some (.int .i64 x.b) ∧ W.cell? ⟨bb, off + 1, none⟩ = some (.slice ax x.M.length cx))) := fun W hW => ⟨(show W.cell? ⟨bb, off, none⟩ = w2.cell? ⟨bb, off, none⟩ by simp [World.cell?, hW]).trans kl0, (show W.cell? ⟨bb, off + 1, none⟩ = w2.cell? ⟨bb, off + 1, none⟩ by simp [World.cell?, hW]).trans kl1⟩
    have K0 : Hid (w2.drew.heap[bb]? = w2.heap[bb]?) := rfl
    have hbr : bb ≠ w.heap.size := by omega
    have HA := Lib.hid (show Calls Try.prog 24 #[.pointer (some ⟨p, 0, none⟩), .int .i64 10] w2.drew (DI w2.drew p 0 9) from l1Below_any 10 9 _ p (show CurAt w2.drew p from HC.out) (by omega) (by omega) (by omega))
    clear kl0 kl1
    go_upto_region 5 with (fail)
    go_region_held3 (fun W => W.cell? ⟨bb, off, none⟩ = some (.int .i64 x.b) ∧ W.cell? ⟨bb, off + 1, none⟩ = some (.slice ax x.M.length cx)) ((refine KX.out _ ?_; first | with_reducible exact K0.out | with_reducible exact hbx | exact (Below.heap_setCell _ _ _ _ hbr).trans ((Below.heap_setCell _ _ _ _ hbr).trans hbx)))
      (first | (go_at_call 24; (with_reducible refine HA.out.mono ?_); rintro e w3 ⟨y, hy0, hy1, rfl, hc3, hg3⟩; have hbx : w3.heap[bb]? = w2.heap[bb]? := hg3.block _ (show bb < w2.drew.heap.size from hbl) (fun e => by injection e with e; omega); have hr3 : w3.heap[w.heap.size]? = some (.cells #[.int .i64 0, .slice none 0 0] 26 (0, 0)) := (hg3.block _ (show w.heap.size < w2.drew.heap.size from (by have := B2.out.size; have := lt_of_block R2.out; exact this)) (fun e => by injection e with e; omega)).trans R2.out; have kr0 := cell_at (j := 0) hr3 rfl; have kr1 := cell_at (j := 1) hr3 rfl; have fr0 := free_b (j := 0) hr3; have fr1 := free_b (j := 1) hr3))
    all_goals go_wp2_with fail
    all_goals exact bodyPost_ret (v := .tuple #[.agg #[.int .i64 x.b, .slice ax x.M.length cx], .int .i64 (IntKind.i64.wrap (y - 1))]) (by simp [results, Try.results11, go_sem, kr0, kr1]) rfl ⟨x.b, ax, x.M.length, cx, x.M, _, rfl, ((HSM.out.near (near_grown (grown_undrewB hg3) (fun k e => by injection e with e; show k < w1.heap.size; omega))).near (near_set2 (C := fun k => k < w1.heap.size) (show w.heap.size < w1.heap.size by omega))).more (D := fun k => k < w.heap.size) (Near.refl _ _) (fun i _ hd => by have hd' : i < w.heap.size := hd; show i < w1.heap.size; omega), HSX.out, below_set2 (B2.out.grown (grown_undrewB hg3) B2.out.size (fun k e => by injection e with e; omega)) (Nat.le_refl _), size_set2 (B2.out.grown (grown_undrewB hg3) B2.out.size (fun k e => by injection e with e; omega)).size⟩
end Go.Proofs.Ytgjpicekdbemiac
namespace Go.Proofs.Ytgjpicekdbemiac
open Go.RowKit
set_option linter.unusedVariables false
/-- A row of numbers that was drawn, at most five. -/
def DBt (w : World) (p : Nat) (e : Ending) (w' : World) : Prop := ∃ (A : Option Addr) (n c : Nat) (L : List Int), e = .returned (.slice A n c) ∧ L.length = n ∧ n ≤ 5 ∧ n ≤ c ∧ Rd w' 1 A n (L.map (Value.int .i64)) ∧ (0 < n → ∀ ad, A = some ad → w.heap.size ≤ ad.block) ∧ CurAt w' p ∧ w.grownBy w' (some p)
theorem dbt_own {w W : World} {p B n c : Nat} {A : Option Addr} {L : List Int} (ho : W.ownsRow B 3 1 (.slice A n c) n (L.map (Value.int .i64))) (hB : w.heap.size ≤ B) (hn : n ≤ 5) (hl : L.length = n) (hf : Fr w p W) : DBt w p (.returned (.slice A n c)) W := by
  obtain ⟨A', c', e, h1, h2, hr⟩ := rd_of_own ho
  injection e with e1 e2 e3
  subst e1 e3
  refine ⟨A, n, c, L, rfl, hl, hn, h1, hr, fun h0 ad ea => ?_, hf.cur, hf.gr⟩
  rcases ho.2 with ⟨_, h⟩ | ⟨g, cap, cur, h, hg, _⟩
  · omega
  · injection h with h
    rw [ea] at h
    injection h with h
    rw [h]
    exact Nat.le_trans hB hg
section
attribute [local go_sem ↓ high] fold_append
set_option maxRecDepth 100000 in
set_option maxHeartbeats 8000000 in
theorem l8Bent_any (w : World) (p : Nat) (hcur : CurAt w p) : Calls Try.prog 15 #[.pointer (some ⟨p, 0, none⟩)] w (DBt w p) := by
  have hp := hcur.lt
  obtain ⟨i0, hi, hz0, hz1, hz2⟩ := info_parts info_int
  have HB1 := Lib.hid (show Calls Try.prog 24 #[.pointer (some ⟨p, 0, none⟩), .int .i64 4] w (DI w p 0 3) from l1Below_any 4 3 w p hcur (by omega) (by omega) (by omega))
  have hfr0 := Fr.start hcur
  go_enter Try.func15, Try.ntmps15
  go_wp2_with fail
  refine HB1.out.mono ?_
  rintro e w1 ⟨y, hy0, hy1, rfl, hc1, hg1⟩
  obtain ⟨j, rfl⟩ : ∃ j : Nat, y = j := ⟨y.toNat, by omega⟩
  have hfr1 := hfr0.call hc1 hg1
  have hs1 := hg1.size
  have HP : Hid (Calls Try.prog 14 #[.pointer (some ⟨p, 0, none⟩), .int .i64 (1 + (j : Int))] w1 (DPn w1 p (1 + j))) := by
    have h := l8Perm_n (1 + j) w1 p hc1 (by omega) (by omega)
    rw [show ((1 + j : Nat) : Int) = 1 + (j : Int) from by omega] at h
    exact h
  clear hc1 hg1 HB1 hfr0
  go_wp2_with fail
  refine HP.out.mono ?_
  obtain ⟨N, hN⟩ : ∃ N, N = 1 + j := ⟨_, rfl⟩
  rw [← hN]
  have hN1 : 1 ≤ N := by omega
  have hN4 : N ≤ 4 := by omega
  clear hN
  rintro e w2 ⟨v, L, rfl, hL, _, ho2, hc2, hg2⟩
  have hfr2 := hfr1.call hc2 hg2
  have HL := Lib.hid hL
  have hs2 := hg2.size
  rcases ho2.2 with ⟨_, h0⟩ | ⟨g, cap, cur, rfl, hgb, hh, hcp, hm, _, _⟩
  · omega
  have HB2 := Lib.hid (show Calls Try.prog 24 #[.pointer (some ⟨p, 0, none⟩), .int .i64 8] w2 (DI w2 p 0 7) from l1Below_any 8 7 w2 p hc2 (by omega) (by omega) (by omega))
  have hp1 : p < w1.heap.size := by omega
  clear hc2 hg2 hL hh HP hfr1
  go_wp2_with fail
  refine HB2.out.mono ?_
  rintro e w3 ⟨z, hz0', hz1', rfl, hc3, hg3⟩
  have hfr3 := hfr2.call hc3 hg3
  have ho3 := own_drawB ho2 hg3 hp1
  have hs3 := hg3.size
  clear ho2 hg3 HB2 hfr2
  have HB3 := Lib.hid (show Calls Try.prog 24 #[.pointer (some ⟨p, 0, none⟩), .int .i64 N] w3 (DI w3 p 0 ((N : Int) - 1)) from l1Below_any N ((N : Int) - 1) w3 p hc3 (by omega) (by omega) (by omega))
  clear hc3
  by_cases h0 : z = 0
  · subst h0
    go_wp2_with fail
    refine HB3.out.mono ?_
    rintro e w4 ⟨x, hx0, hx1, rfl, hc4, hg4⟩
    obtain ⟨k, rfl⟩ : ∃ k : Nat, x = k := ⟨x.toNat, by omega⟩
    have hkN : k < N := by omega
    have hfr4 := hfr3.call hc4 hg4
    have ho4 := own_drawB ho3 hg4 hp1
    have hs4 := hg4.size
    clear ho3 hg4 HB3 hfr3 hc4
    go_wp2_with fail
    obtain ⟨w5, hw5⟩ : ∃ w5, w5 = w4.alloc (.cells #[.int .i64 0, .int .i64 1, .int .i64 4, .int .i64 (-1), .int .i64 9223372036854775807] 3) := ⟨_, rfl⟩
    rw [← hw5]
    have hfr5 : Fr w p w5 := by rw [hw5]; exact hfr4.alloc _
    have ho5 : w5.ownsRow w1.heap.size 3 1 (.slice (some ⟨g, 0, none⟩) N cap) N (L.map (Value.int .i64)) := by rw [hw5]; exact ho4.alloc _
    have hr5 : Rd w5 1 (some ⟨w4.heap.size, 0, none⟩) 5 ([0, 1, 4, -1, 9223372036854775807].map (Value.int .i64)) := by rw [hw5]; exact pickedN (L := [0, 1, 4, -1, 9223372036854775807]) rfl
    have HPK := Lib.hid (l1PickInt_any w4.heap.size 5 5 [0, 1, 4, -1, 9223372036854775807] w5 p hfr5.cur rfl (by decide) (by decide) hr5 (by omega))
    clear hw5 ho4 hfr4 hr5
    refine HPK.out.mono ?_
    rintro e w6 ⟨y, hy, rfl, hc6, hg6⟩
    have hfr6 := hfr5.call hc6 hg6
    have ho6 := own_drawB ho5 hg6 hp1
    have hz := ho6.cellAt k (by omega)
    have hf := ho6.frozenAt k
    obtain ⟨u, hu⟩ : ∃ u, w6.cell? ⟨g, k, none⟩ = some u := ⟨_, hz.trans (List.getElem?_eq_getElem (by rw [List.length_map, HL.out]; exact hkN))⟩
    have FIN := Lib.hid (show DBt w p (.returned (.slice (some ⟨g, 0, none⟩) N cap)) (w6.setCell ⟨g, k, none⟩ (.int .i64 y)) from dbt_own (L := L.set k y) (by rw [List.map_set]; exact (ho6.stored k (.int .i64 y)).1) hs1 (by omega) (by rw [List.length_set]; exact HL.out) (hfr6.set hp (by simp; omega) _))
    clear hz hc6 hg6 ho5 ho6 hfr5 hfr6 HPK hy
    go_wp2_with fail
    go_ret
    exact FIN.out
  by_cases h1 : z = 1
  · subst h1
    go_wp2_with fail
    refine HB3.out.mono ?_
    rintro e w4 ⟨x, hx0, hx1, rfl, hc4, hg4⟩
    obtain ⟨k, rfl⟩ : ∃ k : Nat, x = k := ⟨x.toNat, by omega⟩
    have hkN : k < N := by omega
    have hfr4 := hfr3.call hc4 hg4
    have ho4 := own_drawB ho3 hg4 hp1
    have hcap : k ≤ cap := by omega
    have FIN : Hid (DBt w p (.returned (.slice (some ⟨g, 0, none⟩) k cap)) w4) := by
      have hr := (rd_own ho4).take (t := k) (by omega)
      rw [← List.map_take] at hr
      exact ⟨_, k, cap, L.take k, rfl, by rw [List.length_take, HL.out]; omega, by omega, hcap, hr, fun _ ad e => by injection e with e; subst e; show w.heap.size ≤ g; omega, hfr4.cur, hfr4.gr⟩
    clear ho3 ho4 hg4 HB3 hfr3 hc4 hfr4
    go_wp2_with fail
    go_ret
    exact FIN.out
  by_cases h2 : z = 2
  · subst h2
    obtain ⟨v5, w5, hrun5, hown5, hgrow5, hat5⟩ := run_append_rd (P := Try.prog) (w3.alloc (.cells #[.int .i64 N] 3)) w1.heap.size 27 27 3 i0 _ 1 8 Try.underlying27 hi hz0 hz1 hz2 rfl (by omega) (.slice (some ⟨g, 0, none⟩) N cap) N (L.map (Value.int .i64)) (ho3.alloc _) (some ⟨w3.heap.size, 0, none⟩) 1 1 [.int .i64 N] (rd_lit2 rfl rfl) (by simp [Value.oneCell']) (by simp only [maxLen]; omega) (by omega) (by simp; omega)
    rw [fold_append] at hrun5
    obtain ⟨A5, c5, rfl, hc5, _, _⟩ := rd_of_own hown5
    have FIN := Lib.hid (show DBt w p (.returned (.slice A5 (N + 1) c5)) w5 from dbt_own (L := L ++ [(N : Int)]) (by simpa using hown5) hs1 (by omega) (by simp [HL.out]) ((hfr3.alloc _).own hp hgrow5 (fun k hk => by have e : g = k := (by simpa [Value.ownBlock] using hk); omega)))
    clear ho3 HB3 hfr3 hown5 hgrow5 hat5
    go_wp2_with fail
    go_ret
    exact FIN.out
  · have e0 : (z == 0) = false := by simpa using h0
    have e1 : (z == 1) = false := by simpa using h1
    have e2 : (z == 2) = false := by simpa using h2
    have FIN := Lib.hid (show DBt w p (.returned (.slice (some ⟨g, 0, none⟩) N cap)) w3 from dbt_own ho3 hs1 (by omega) HL.out hfr3)
    clear ho3 HB3 hfr3 h0 h1 h2
    go_wp2_with fail
    go_ret
    exact FIN.out
end
end Go.Proofs.Ytgjpicekdbemiac
namespace Go.Proofs.Ytgjpicekdbemiac
open Go.RowKit
set_option linter.unusedVariables false
/-- A branch and a row of numbers that were drawn. -/
def DrewPb (w : World) (e : Ending) (w' : World) : Prop := ∃ (b : Int) (A : Option Addr) (n c : Nat) (M : List (List Dm)) (Ap : Option Addr) (m cp : Nat) (L : List Int), e = .returned (.tuple #[.agg #[.int .i64 b, .slice A n c], .slice Ap m cp]) ∧
  RdM w' A n M ∧ Shp M ∧ Rd w' 1 Ap m (L.map (Value.int .i64)) ∧ L.length = m ∧ m ≤ cp ∧ m ≤ 5 ∧ Below w.heap.size w w' ∧ w.heap.size ≤ w'.heap.size
theorem Dr.done2 {w W : World} {p X Y : Nat} {b : Int} {A : Option Addr} {n c : Nat} {M : List (List Dm)} (h : Dr w p X Y b A n c M W) (hs : Shp M) {Ap : Option Addr} {m cp : Nat} {L : List Int} (hr : Rd W 1 Ap m (L.map (Value.int .i64))) (hl : L.length = m) (hc : m ≤ cp) (hm : m ≤ 5) (hb : 0 < m → ∀ ad, Ap = some ad → w.heap.size < ad.block) (v0 v1 : Value) :
    DrewPb w (.returned (.tuple #[.agg #[.int .i64 b, .slice A n c], .slice Ap m cp])) ((W.setCell ⟨w.heap.size, 0, none⟩ v0).setCell ⟨w.heap.size, 1, none⟩ v1) := by
  have hp := h.hp
  have hY := h.hY
  exact ⟨b, A, n, c, M, Ap, m, cp, L, rfl, (h.sm.near (near_set2 (C := fun k => k < Y ∨ k = X) (.inl (show w.heap.size < Y by omega)))).rd, hs, rd_near hr (near_set2 (C := fun k => k = w.heap.size) rfl) (fun h0 ad e hk => by have := hb h0 ad e; omega), hl, hc, hm, below_set2 h.bw (Nat.le_refl _), size_set2 h.bw.size⟩
theorem cell_asP {w w' : World} {b j : Nat} (h : w.heap[b]? = w'.heap[b]?) : w.cell? ⟨b, j, none⟩ = w'.cell? ⟨b, j, none⟩ := by simp [World.cell?, h]
theorem qc_le4 (m : Nat) : qc m ≤ 4 := by
  unfold qc
  repeat' split
  all_goals omega
/-- The row of a list that reads whatever of C turns lies in no block of C. -/
theorem sm_block {C : Nat → Prop} {w : World} {ab aoff n : Nat} {M : List (List Dm)} {r : List Dm} (h : SM C w (some ⟨ab, aoff, none⟩) n M) (hr : M[0]? = some r) : ¬ C ab := by
  intro hc
  have hn : Near C w { w with heap := w.heap.setIfInBounds ab (.cells #[] 0 (0, 0)) } := by
    refine ⟨by simp, fun k hk hn => ?_⟩
    show (w.heap.setIfInBounds ab _)[k]? = _
    rw [Array.getElem?_setIfInBounds_ne (fun e => hn (by rw [← e]; exact hc))]
  obtain ⟨b, off, a, c, e, hb, hcell, _⟩ := (h _ hn).at hr
  injection e with e
  injection e with e1 e2
  subst e1 e2
  have hb' : ab < w.heap.size := by simpa using hb
  simp [World.cell?, hb'] at hcell
theorem own_above {w W : World} {B e size n m c : Nat} {A : Option Addr} {xs : List Value} (h : W.ownsRow B e size (.slice A n c) n xs) (hB : w.heap.size < B) (hm : m = n) : 0 < m → ∀ ad, A = some ad → w.heap.size < ad.block := by
  intro h0 ad ea
  rcases h.2 with ⟨_, h1⟩ | ⟨g, cap, cur, h1, hg, _⟩
  · omega
  · injection h1 with h1
    rw [ea] at h1
    injection h1 with h1
    rw [h1]
    exact Nat.lt_of_lt_of_le hB hg
set_option maxRecDepth 100000 in
set_option maxHeartbeats 16000000 in
theorem DrawPermuteBranch_any (A : Option Addr) (n c : Nat) (bs : List (Fin 256)) (w : World) (h : Rd w 1 A n (bs.flatMap bcell)) (hl : bs.length = n) (hn : n ≤ 1048576) : Calls Try.prog 5 #[.slice A n c] w (DrewPb w) := by
  obtain ⟨w0, hw0⟩ : ∃ w0, w0 = w.alloc (.cells #[.int .i64 0, .slice none 0 0] 26) := ⟨_, rfl⟩
  have r0 := Lib.hid (show w0.heap[w.heap.size]? = some (.cells #[.int .i64 0, .slice none 0 0] 26 (0, 0)) by rw [hw0]; exact boxed1_0 _ _)
  have b0 : Below w.heap.size w w0 := by rw [hw0]; exact (by repeat (first | exact Below.refl _ _ | assumption | (refine Below.trans ?_ (Below.mono (by assumption) (by first | omega | (simp; done) | (simp; omega)))) | (with_reducible refine Below.drew ?_) | (with_reducible refine Below.alloc ?_ (by first | omega | (simp; done) | (simp; omega)) _) | (with_reducible refine Below.setCell ?_ (by first | omega | (simp; done) | (simp; omega)) _)))
  have s0 : w.heap.size < w0.heap.size := by rw [hw0]; simp
  have H0 := Lib.hid (h.below b0)
  have HW := Lib.hid hw0
  clear h hw0
  go_enter Try.func5, Try.ntmps5
  go_wp2_with fail
  rw [← HW.out]
  refine (l1New_any A n c bs w0 H0.out hl hn).mono ?_
  rintro e w1 ⟨p, rfl, hp1, hc1, hb1⟩
  have r1 := Lib.hid ((hb1.block _ s0).trans r0.out)
  have b1 := b0.trans (hb1.mono b0.size)
  have hpl := hc1.lt
  have hsz := hb1.size
  have HR := Lib.hid (DrawBranchProbability_any A n c bs w1 (H0.out.below hb1) hl hn)
  have HC1 := Lib.hid hc1
  clear hb1 b0 hc1
  go_wp2_with fail
  refine HR.out.mono ?_
  rintro e w2 ⟨b, A2, n2, c2, M, i, rfl, hsm, hshp, hb2, hs2⟩
  have r2 := Lib.hid ((hb2.block _ (by omega)).trans r1.out)
  have b2 := b1.trans (hb2.mono b1.size)
  have HC2 := Lib.hid (HC1.out.below hb2)
  have HSHP := Lib.hid hshp
  have HN2 := Lib.hid hsm.len
  have HSM := Lib.hid hsm
  clear hb2 b1 hshp hsm HR
  go_upto_region 3 with (fail)
  obtain ⟨X, hX⟩ : ∃ X, X = w2.heap.size := ⟨_, rfl⟩
  rw [← hX]
  obtain ⟨w3, hw3⟩ : ∃ w3, w3 = w2.alloc (.cells #[.int .i64 b, .slice A2 n2 c2] 26) := ⟨_, rfl⟩
  rw [← hw3]
  have d3 : Dr w p X w1.heap.size b A2 n2 c2 M w3 := by
    refine ⟨?_, ?_, ?_, ?_, ?_, by omega, by omega, by omega⟩
    · rw [hw3]; exact HC2.out.below ((Below.refl _ _).alloc (Nat.le_refl _) _)
    · rw [hw3, hX]; exact heap_alloc_new _ _
    · rw [hw3]; exact (Below.heap_alloc _ _ _ (by omega)).trans r2.out
    · rw [hw3]
      refine HSM.out.more (near_below ((Below.refl _ _).alloc (Nat.le_refl _) _)) (fun i hi hd => ?_)
      rcases hd with hd | hd
      · exact hd
      · omega
    · rw [hw3]; exact b2.alloc b2.size _
  have D3 := Lib.hid d3
  have kx0 := cell_at (j := 0) d3.x rfl
  have kx1 := cell_at (j := 1) d3.x rfl
  have hw1l : w.heap.size < w1.heap.size := by omega
  have hsw3 : w1.heap.size ≤ w3.heap.size := by have := lt_of_block d3.x; omega
  have hXl : w1.heap.size ≤ X := by omega
  clear hw3 d3 b2 hX
  by_cases h0 : n2 = 0
  · have hk : decide ((0 : Int) < (n2 : Int)) = false := by simp; omega
    have HST := Lib.hid D3.out
    have hk3 : ¬ (0 < n2) := by omega
    have hk4 : decide (0 < n2) = false := by simpa using hk3
    clear h0
    have hst := HST.out.drew
    have KX : Hid (∀ W' : World, W'.heap[X]? = some (.cells #[.int .i64 b, .slice A2 n2 c2] 26 (0, 0)) → (W'.cell? ⟨X, 0, none⟩ = some (.int .i64 b) ∧ W'.cell? ⟨X, 1, none⟩ = some (.slice A2 n2 c2))) := fun W' hW => ⟨cell_at (j := 0) hW rfl, cell_at (j := 1) hW rfl⟩
    have HX0 := Lib.hid hst.x
    have hne : X ≠ w.heap.size := by have := hst.hp; have := hst.hX; have := hst.hY; omega
    have HB := Lib.hid (show Calls Try.prog 15 #[.pointer (some ⟨p, 0, none⟩)] w3.drew (DBt w3.drew p) from l8Bent_any _ p hst.cur)
    have hwl : w.heap.size < w3.heap.size := lt_of_block HST.out.r
    go_upto_region 5 with (fail)
    go_region_held3 (fun W' => W'.cell? ⟨X, 0, none⟩ = some (.int .i64 b) ∧ W'.cell? ⟨X, 1, none⟩ = some (.slice A2 n2 c2)) ((refine KX.out _ ?_; first | with_reducible exact HX0.out | with_reducible exact hst.x | exact (Below.heap_setCell _ _ _ _ hne).trans ((Below.heap_setCell _ _ _ _ hne).trans hst.x)))
      (first | (go_at_call 15; (with_reducible refine HB.out.mono ?_); rintro e v7 ⟨Ap, mp, cp, LP, rfl, hlp, hmp5, hcp5, hrp, hbp0, hc7, hg7⟩; have hst := hst.call hc7 hg7; have hbp : 0 < mp → ∀ ad, Ap = some ad → w.heap.size < ad.block := fun h0 ad e => Nat.lt_of_lt_of_le hwl (hbp0 h0 ad e); have kr0 := cell_at (j := 0) hst.r rfl; have kr1 := cell_at (j := 1) hst.r rfl; have fr0 := free_b (j := 0) hst.r; have fr1 := free_b (j := 1) hst.r))
    all_goals go_wp2_with fail
    all_goals exact bodyPost_ret (v := .tuple #[.agg #[.int .i64 b, .slice A2 n2 c2], .slice Ap mp cp]) (by simp [results, Try.results5, go_sem, kr0, kr1]) rfl (hst.done2 HSHP.out hrp hlp hcp5 hmp5 hbp _ _)
  · have hk : decide ((0 : Int) < (n2 : Int)) = true := by simp; omega
    have hk0 : 0 < n2 := by omega
    have hk1 : (0 : Int) < (n2 : Int) := by omega
    obtain ⟨r, hr⟩ : ∃ r, M[0]? = some r := ⟨_, List.getElem?_eq_getElem (by rw [HN2.out]; exact hk0)⟩
    obtain ⟨ab, aoff, ar, cr, rfl, habl, kr, hrc, hcm, hrd⟩ := D3.out.sm.rd.at hr
    rw [Nat.add_zero] at kr
    have hr16 : r.length ≤ 16 := HSHP.out.2 r (List.mem_of_getElem? hr)
    have HQ := Lib.hid (QubitCount_any ar r.length cr w3 (by omega))
    have hab : ¬ (ab < w1.heap.size ∨ ab = X) := sm_block D3.out.sm hr
    have habp : ab ≠ p := by omega
    have habw : ab ≠ w.heap.size := by omega
    clear hrd hr
    by_cases hq : qc r.length = 0
    · have hqd : decide ((0 : Int) < ((qc r.length : Nat) : Int)) = false := by simp; omega
      have HST := Lib.hid D3.out
      go_wp2_with (go_at_call 12; (with_reducible refine HQ.out.mono ?_); rintro e w' ⟨rfl, rfl⟩)
      have hst := HST.out.drew
      have KX : Hid (∀ W' : World, W'.heap[X]? = some (.cells #[.int .i64 b, .slice (some ⟨ab, aoff, none⟩) n2 c2] 26 (0, 0)) → (W'.cell? ⟨X, 0, none⟩ = some (.int .i64 b) ∧ W'.cell? ⟨X, 1, none⟩ = some (.slice (some ⟨ab, aoff, none⟩) n2 c2))) := fun W' hW => ⟨cell_at (j := 0) hW rfl, cell_at (j := 1) hW rfl⟩
      have HX0 := Lib.hid hst.x
      have hne : X ≠ w.heap.size := by have := hst.hp; have := hst.hX; have := hst.hY; omega
      have HB := Lib.hid (show Calls Try.prog 15 #[.pointer (some ⟨p, 0, none⟩)] w3.drew (DBt w3.drew p) from l8Bent_any _ p hst.cur)
      have hwl : w.heap.size < w3.heap.size := lt_of_block HST.out.r
      go_upto_region 5 with (fail)
      go_region_held3 (fun W' => W'.cell? ⟨X, 0, none⟩ = some (.int .i64 b) ∧ W'.cell? ⟨X, 1, none⟩ = some (.slice (some ⟨ab, aoff, none⟩) n2 c2)) ((refine KX.out _ ?_; first | with_reducible exact HX0.out | with_reducible exact hst.x | exact (Below.heap_setCell _ _ _ _ hne).trans ((Below.heap_setCell _ _ _ _ hne).trans hst.x)))
        (first | (go_at_call 15; (with_reducible refine HB.out.mono ?_); rintro e v7 ⟨Ap, mp, cp, LP, rfl, hlp, hmp5, hcp5, hrp, hbp0, hc7, hg7⟩; have hst := hst.call hc7 hg7; have hbp : 0 < mp → ∀ ad, Ap = some ad → w.heap.size < ad.block := fun h0 ad e => Nat.lt_of_lt_of_le hwl (hbp0 h0 ad e); have kr0 := cell_at (j := 0) hst.r rfl; have kr1 := cell_at (j := 1) hst.r rfl; have fr0 := free_b (j := 0) hst.r; have fr1 := free_b (j := 1) hst.r))
      all_goals go_wp2_with fail
      all_goals exact bodyPost_ret (v := .tuple #[.agg #[.int .i64 b, .slice (some ⟨ab, aoff, none⟩) n2 c2], .slice Ap mp cp]) (by simp [results, Try.results5, go_sem, kr0, kr1]) rfl (hst.done2 HSHP.out hrp hlp hcp5 hmp5 hbp _ _)
    · have hqp : 1 ≤ qc r.length := by omega
      have hq4 : qc r.length ≤ 4 := qc_le4 _
      have hqd : decide ((0 : Int) < ((qc r.length : Nat) : Int)) = true := by simp; omega
      have HO := Lib.hid (l1Once_any 5 w3 p D3.out.cur (by decide) (by decide))
      go_wp2_with (go_at_call 12; (with_reducible refine HQ.out.mono ?_); rintro e w' ⟨rfl, rfl⟩)
      refine HO.out.mono ?_
      rintro e w5 ⟨z, rfl, hc5, hg5⟩
      have HST := Lib.hid (D3.out.call hc5 hg5)
      have hab5 : ab < w5.heap.size := Nat.lt_of_lt_of_le habl hg5.size
      have kr5 : w5.cell? ⟨ab, aoff, none⟩ = some (.slice ar r.length cr) := (cell_asP (hg5.block ab habl (fun e => by injection e with e; omega))).trans kr
      clear hc5 hg5 kx0 kx1 kr HO HQ
      cases z
      case false =>
        have hst := HST.out.drew
        have KX : Hid (∀ W' : World, W'.heap[X]? = some (.cells #[.int .i64 b, .slice (some ⟨ab, aoff, none⟩) n2 c2] 26 (0, 0)) → W'.heap[ab]? = w5.heap[ab]? → (W'.cell? ⟨X, 0, none⟩ = some (.int .i64 b) ∧ W'.cell? ⟨X, 1, none⟩ = some (.slice (some ⟨ab, aoff, none⟩) n2 c2) ∧ W'.cell? ⟨ab, aoff, none⟩ = some (.slice ar r.length cr))) := fun W' hW hM => ⟨cell_at (j := 0) hW rfl, cell_at (j := 1) hW rfl, (cell_asP hM).trans kr5⟩
        have HX0 := Lib.hid hst.x
        have HS0 : Hid (w5.drew.heap[ab]? = w5.heap[ab]?) := rfl
        have hne : X ≠ w.heap.size := by have := hst.hp; have := hst.hX; have := hst.hY; omega
        have HB := Lib.hid (show Calls Try.prog 14 #[.pointer (some ⟨p, 0, none⟩), .int .i64 (qc r.length)] w5.drew (DPn w5.drew p (qc r.length)) from l8Perm_n (qc r.length) _ p hst.cur hqp hq4)
        have HQC := Lib.hid (fun (W : World) => QubitCount_any ar r.length cr W (by omega))
        have hwl : w.heap.size < w5.heap.size := lt_of_block HST.out.r
        go_upto_region 4 with (fail)
        go_region_held3 (fun W' => W'.cell? ⟨X, 0, none⟩ = some (.int .i64 b) ∧ W'.cell? ⟨X, 1, none⟩ = some (.slice (some ⟨ab, aoff, none⟩) n2 c2) ∧ W'.cell? ⟨ab, aoff, none⟩ = some (.slice ar r.length cr)) ((first | (refine KX.out _ ?_ ?_; (with_reducible exact HX0.out); (with_reducible exact HS0.out)) | (refine KX.out _ ?_ ?_; (with_reducible exact hst.x); (with_reducible exact hab7)) | (refine KX.out _ ?_ ?_; (exact (Below.heap_setCell _ _ _ _ hne).trans ((Below.heap_setCell _ _ _ _ hne).trans hst.x)); (exact (Below.heap_setCell _ _ _ _ habw).trans ((Below.heap_setCell _ _ _ _ habw).trans hab7)))))
          (first | (go_at_call 12; (with_reducible refine (HQC.out _).mono ?_); rintro e w' ⟨rfl, rfl⟩) | (go_at_call 14; (with_reducible refine HB.out.mono ?_); rintro e v7 ⟨v, LP, rfl, hlp0, _, hop, hc7, hg7⟩; obtain ⟨Ap, cp, rfl, hcp5, _, hrp⟩ := rd_of_own hop; have hst := hst.call hc7 hg7; have hab7 : v7.heap[ab]? = w5.heap[ab]? := hg7.block ab (show ab < w5.drew.heap.size from hab5) (fun e => by injection e with e; omega); obtain ⟨mp, hmp⟩ : ∃ mp, mp = qc r.length := ⟨_, rfl⟩; have hlp : LP.length = mp := (hlp0.trans hmp.symm); have hmp5 : mp ≤ 5 := (by omega); have hbp : 0 < mp → ∀ ad, Ap = some ad → w.heap.size < ad.block := own_above hop hwl hmp; rw [← hmp] at hrp hcp5; have kr0 := cell_at (j := 0) hst.r rfl; have kr1 := cell_at (j := 1) hst.r rfl; have fr0 := free_b (j := 0) hst.r; have fr1 := free_b (j := 1) hst.r))
        all_goals go_wp2_with fail
        all_goals first | (rw [← hmp]; exact bodyPost_ret (v := .tuple #[.agg #[.int .i64 b, .slice (some ⟨ab, aoff, none⟩) n2 c2], .slice Ap mp cp]) (by simp [results, Try.results5, go_sem, kr0, kr1]) rfl (hst.done2 HSHP.out hrp hlp hcp5 hmp5 hbp _ _)) | (subst hmp; exact bodyPost_ret (v := .tuple #[.agg #[.int .i64 b, .slice (some ⟨ab, aoff, none⟩) n2 c2], .slice Ap mp cp]) (by simp [results, Try.results5, go_sem, kr0, kr1]) rfl (hst.done2 HSHP.out hrp hlp hcp5 hmp5 hbp _ _))
      case true =>
        have hst := HST.out.drew
        have KX : Hid (∀ W' : World, W'.heap[X]? = some (.cells #[.int .i64 b, .slice (some ⟨ab, aoff, none⟩) n2 c2] 26 (0, 0)) → (W'.cell? ⟨X, 0, none⟩ = some (.int .i64 b) ∧ W'.cell? ⟨X, 1, none⟩ = some (.slice (some ⟨ab, aoff, none⟩) n2 c2))) := fun W' hW => ⟨cell_at (j := 0) hW rfl, cell_at (j := 1) hW rfl⟩
        have HX0 := Lib.hid hst.x
        have hne : X ≠ w.heap.size := by have := hst.hp; have := hst.hX; have := hst.hY; omega
        have HB := Lib.hid (show Calls Try.prog 15 #[.pointer (some ⟨p, 0, none⟩)] w5.drew (DBt w5.drew p) from l8Bent_any _ p hst.cur)
        have hwl : w.heap.size < w5.heap.size := lt_of_block HST.out.r
        go_upto_region 5 with (fail)
        go_region_held3 (fun W' => W'.cell? ⟨X, 0, none⟩ = some (.int .i64 b) ∧ W'.cell? ⟨X, 1, none⟩ = some (.slice (some ⟨ab, aoff, none⟩) n2 c2)) ((refine KX.out _ ?_; first | with_reducible exact HX0.out | with_reducible exact hst.x | exact (Below.heap_setCell _ _ _ _ hne).trans ((Below.heap_setCell _ _ _ _ hne).trans hst.x)))
          (first | (go_at_call 15; (with_reducible refine HB.out.mono ?_); rintro e v7 ⟨Ap, mp, cp, LP, rfl, hlp, hmp5, hcp5, hrp, hbp0, hc7, hg7⟩; have hst := hst.call hc7 hg7; have hbp : 0 < mp → ∀ ad, Ap = some ad → w.heap.size < ad.block := fun h0 ad e => Nat.lt_of_lt_of_le hwl (hbp0 h0 ad e); have kr0 := cell_at (j := 0) hst.r rfl; have kr1 := cell_at (j := 1) hst.r rfl; have fr0 := free_b (j := 0) hst.r; have fr1 := free_b (j := 1) hst.r))
        all_goals go_wp2_with fail
        all_goals exact bodyPost_ret (v := .tuple #[.agg #[.int .i64 b, .slice (some ⟨ab, aoff, none⟩) n2 c2], .slice Ap mp cp]) (by simp [results, Try.results5, go_sem, kr0, kr1]) rfl (hst.done2 HSHP.out hrp hlp hcp5 hmp5 hbp _ _)
end Go.Proofs.Ytgjpicekdbemiac
namespace Go.Proofs.Ytgjpicekdbemiac
open Go.RowKit
set_option linter.unusedVariables false
def stepP (p : List Int) (i : Nat) (x : Int) : Bool := inB x 0 ((p.length : Int) - 1) && !hasI (p.take i) x
def isPf (p : List Int) : Nat → List Int → Bool
  | _, [] => true
  | i, x :: r => stepP p i x && isPf p (i + 1) r
/-- Is a list of numbers a permutation of at most four? -/
def isP (p : List Int) : Bool := inB p.length 1 4 && isPf p 0 p
theorem isPf_at {p : List Int} {t : Nat} {x : Int} (h : p[t]? = some x) : isPf p t (p.drop t) = (stepP p t x && isPf p (t + 1) (p.drop (t + 1))) := by
  obtain ⟨ht, he⟩ := List.getElem?_eq_some_iff.1 h
  rw [List.drop_eq_getElem_cons ht, isPf, he]
theorem isPf_mem {p : List Int} : ∀ (l : List Int) (t : Nat), isPf p t l = true → ∀ x ∈ l, 0 ≤ x ∧ x ≤ (p.length : Int) - 1 := by
  intro l
  induction l with
  | nil => intro t _ x hx; cases hx
  | cons y l ih =>
    intro t h x hx
    rw [isPf, Bool.and_eq_true] at h
    rcases List.mem_cons.1 hx with rfl | hx
    · unfold stepP at h
      simp only [Bool.and_eq_true] at h
      exact inB_iff.1 h.1.1
    · exact ih _ h.2 x hx
theorem isP_mem {p : List Int} (h : isP p = true) : (1 ≤ p.length ∧ p.length ≤ 4) ∧ ∀ x ∈ p, 0 ≤ x ∧ x ≤ (p.length : Int) - 1 := by
  unfold isP at h
  rw [Bool.and_eq_true] at h
  have h1 := inB_iff.1 h.1
  exact ⟨by omega, isPf_mem p 0 h.2⟩
/-- One bit of an index, moved. -/
def pst (i out : Int) (q : Nat) (x : Int) : Int := bits BinOp.or IntKind.i64 out (wrap64 (bits BinOp.and IntKind.i64 (i / 2 ^ q) 1 * 2 ^ x.toNat))
def pix (i : Int) : Nat → Int → List Int → Int
  | _, out, [] => out
  | q, out, x :: r => pix i (q + 1) (pst i out q x) r
theorem pix_at {p : List Int} {t : Nat} {x i out : Int} (h : p[t]? = some x) : pix i t out (p.drop t) = pix i (t + 1) (pst i out t x) (p.drop (t + 1)) := by
  obtain ⟨ht, he⟩ := List.getElem?_eq_some_iff.1 h
  rw [List.drop_eq_getElem_cons ht, pix, he]
/-- Where an index goes. -/
def pidx (p : List Int) (i : Int) : Int := if (isP p && inB i 0 (2 ^ p.length - 1)) = true then pix i 0 0 p else 0
theorem and1 (x : Int) : 0 ≤ bits .and .i64 x 1 ∧ bits .and .i64 x 1 ≤ 1 := by
  have h : (BitVec.ofInt 64 x &&& BitVec.ofInt 64 1).toNat ≤ 1 := by
    rw [BitVec.toNat_and]
    exact Nat.le_trans Nat.and_le_right (by decide)
  have e : bits .and .i64 x 1 = IntKind.i64.wrap ((BitVec.ofInt 64 x &&& BitVec.ofInt 64 1).toNat : Int) := rfl
  rw [e, IntWalk.i64_in _ (by omega)]
  omega
theorem or_lt {n : Nat} {a b : Int} (hn : n ≤ 4) (ha : 0 ≤ a) (ha2 : a < 2 ^ n) (hb : 0 ≤ b) (hb2 : b < 2 ^ n) : 0 ≤ bits .or .i64 a b ∧ bits .or .i64 a b < 2 ^ n := by
  obtain ⟨x, rfl⟩ : ∃ x : Nat, a = x := ⟨a.toNat, by omega⟩
  obtain ⟨y, rfl⟩ : ∃ y : Nat, b = y := ⟨b.toNat, by omega⟩
  have hx : x < 2 ^ n := by exact_mod_cast ha2
  have hy : y < 2 ^ n := by exact_mod_cast hb2
  have h16 : 2 ^ n ≤ 16 := Nat.pow_le_pow_right (n := 2) (by decide) hn
  have ex : (BitVec.ofInt 64 (x : Int)).toNat = x := by
    rw [BitVec.ofInt_natCast, BitVec.toNat_ofNat]
    exact Nat.mod_eq_of_lt (by omega)
  have ey : (BitVec.ofInt 64 (y : Int)).toNat = y := by
    rw [BitVec.ofInt_natCast, BitVec.toNat_ofNat]
    exact Nat.mod_eq_of_lt (by omega)
  have e : bits .or .i64 (x : Int) (y : Int) = IntKind.i64.wrap ((BitVec.ofInt 64 (x : Int) ||| BitVec.ofInt 64 (y : Int)).toNat : Int) := rfl
  have h : (BitVec.ofInt 64 (x : Int) ||| BitVec.ofInt 64 (y : Int)).toNat < 2 ^ n := by
    rw [BitVec.toNat_or, ex, ey]
    exact Nat.or_lt_two_pow hx hy
  rw [e, IntWalk.i64_in _ (by omega)]
  refine ⟨by omega, ?_⟩
  exact_mod_cast h
theorem pst_lt {n : Nat} {i out x : Int} {q : Nat} (hn : n ≤ 4) (h0 : 0 ≤ out) (h1 : out < 2 ^ n) (hx0 : 0 ≤ x) (hx : x ≤ (n : Int) - 1) : 0 ≤ pst i out q x ∧ pst i out q x < 2 ^ n := by
  have hb := and1 (i / 2 ^ q)
  obtain ⟨k, rfl⟩ : ∃ k : Nat, x = k := ⟨x.toNat, by omega⟩
  have hk : k + 1 ≤ n := by omega
  have hp : (2 : Int) ^ k * 2 ≤ 2 ^ n := by
    have : 2 ^ (k + 1) ≤ 2 ^ n := Nat.pow_le_pow_right (n := 2) (by decide) hk
    rw [Nat.pow_succ] at this
    exact_mod_cast this
  have hpp : (0 : Int) < 2 ^ k := Int.pow_pos (by decide)
  have h16 : (2 : Int) ^ n ≤ 16 := by
    have : 2 ^ n ≤ 16 := Nat.pow_le_pow_right (n := 2) (by decide) hn
    exact_mod_cast this
  have hy : 0 ≤ bits .and .i64 (i / 2 ^ q) 1 * 2 ^ k ∧ bits .and .i64 (i / 2 ^ q) 1 * 2 ^ k < 2 ^ n := by
    have h : bits .and .i64 (i / 2 ^ q) 1 = 0 ∨ bits .and .i64 (i / 2 ^ q) 1 = 1 := by omega
    rcases h with h | h <;> rw [h]
    · simp; omega
    · simp; omega
  have hw : wrap64 (bits .and .i64 (i / 2 ^ q) 1 * 2 ^ k) = bits .and .i64 (i / 2 ^ q) 1 * 2 ^ k := IntWalk.wrap64_in _ (by omega)
  unfold pst
  rw [show ((k : Int).toNat) = k by omega, hw]
  exact or_lt hn h0 h1 hy.1 hy.2
theorem pix_lt {n : Nat} {i : Int} (hn : n ≤ 4) : ∀ (l : List Int) (q : Nat) (out : Int), 0 ≤ out → out < 2 ^ n → (∀ x ∈ l, 0 ≤ x ∧ x ≤ (n : Int) - 1) → 0 ≤ pix i q out l ∧ pix i q out l < 2 ^ n := by
  intro l
  induction l with
  | nil => intro q out h0 h1 _; exact ⟨h0, h1⟩
  | cons x l ih =>
    intro q out h0 h1 hm
    have hx := hm x (by simp)
    obtain ⟨a, b⟩ := pst_lt (i := i) (q := q) hn h0 h1 hx.1 hx.2
    exact ih _ _ a b (fun y hy => hm y (by simp [hy]))
theorem pidx_lt {p : List Int} (h : isP p = true) (i : Int) : 0 ≤ pidx p i ∧ pidx p i < 2 ^ p.length := by
  obtain ⟨hl, hm⟩ := isP_mem h
  have hpp : (0 : Int) < 2 ^ p.length := Int.pow_pos (by decide)
  unfold pidx
  split
  · exact pix_lt hl.2 p 0 0 (by omega) hpp hm
  · exact ⟨by omega, hpp⟩
end Go.Proofs.Ytgjpicekdbemiac
namespace Go.Proofs.Ytgjpicekdbemiac
open Go.RowKit
set_option linter.unusedVariables false
theorem hasI_step {p : List Int} {t : Nat} {x : Int} (h : p[t]? = some x) (y : Int) : hasI (p.take (t + 1)) y = (hasI (p.take t) y || decide (y = x)) := by
  unfold hasI
  rw [List.take_add_one, h]
  simp
theorem isP_len {p : List Int} (h : inB p.length 1 4 = false) : isP p = false := by rw [isP, h]; rfl
theorem isP_eq {p : List Int} (h : inB p.length 1 4 = true) : isP p = isPf p 0 p := by rw [isP, h]; rfl
theorem ints_atP {p : List Int} {t : Nat} {x : Int} (h : p[t]? = some x) : (p.map (Value.int .i64))[t]? = some (.int .i64 x) := by simp [h]
theorem ints_take (p : List Int) (t : Nat) : (p.map (Value.int .i64)).take t = (p.take t).map (Value.int .i64) := by simp
set_option maxRecDepth 100000 in
set_option maxHeartbeats 4000000 in
theorem IsPermutation_impl (A : Option Addr) (n c : Nat) (p : List Int) (w : World) (h : Rd w 1 A n (p.map (Value.int .i64))) (hl : p.length = n) (hn : n ≤ 1099511627776) :
    Calls Try.prog 17 #[.slice A n c] w fun e w' => e = .returned (.bool (isP p)) ∧ Below w.heap.size w w' ∧ w.heap.size ≤ w'.heap.size := by
  have H := Lib.hid h
  have HL := Lib.hid hl
  clear h
  cases h14 : inB (n : Int) 1 4
  · have HS := Lib.hid (isP_len (p := p) (by rw [hl]; exact h14))
    clear hl
    go_enter Try.func17, Try.ntmps17
    go_wp2_with (go_at_call 27; (with_reducible refine (in_any (n : Int) 1 4 _).mono ?_); rintro e w' ⟨rfl, rfl⟩; rw [h14])
    go_ret
    exact ⟨by rw [HS.out]; rfl, (by repeat (first | exact Below.refl _ _ | assumption | (refine Below.trans ?_ (Below.mono (by assumption) (by first | omega | (simp; done) | (simp; omega)))) | (with_reducible refine Below.drew ?_) | (with_reducible refine Below.alloc ?_ (by first | omega | (simp; done) | (simp; omega)) _) | (with_reducible refine Below.setCell ?_ (by first | omega | (simp; done) | (simp; omega)) _))), (by first | omega | (simp; done) | (simp; omega))⟩
  · have hn4 := inB_iff.1 h14
    have HS := Lib.hid (isP_eq (p := p) (by rw [hl]; exact h14))
    have H14 := Lib.hid h14
    obtain ⟨w0, hw0⟩ : ∃ w0, w0 = w.alloc (.cells #[.bool false, .bool false, .bool false, .bool false] 59) := ⟨_, rfl⟩
    have X0 := Lib.hid (show w0.heap[w.heap.size]? = some (.cells #[.bool false, .bool false, .bool false, .bool false] 59 (0, 0)) by rw [hw0]; exact boxed1_0 _ _)
    have b0 : Below w.heap.size w w0 := by rw [hw0]; exact (by repeat (first | exact Below.refl _ _ | assumption | (refine Below.trans ?_ (Below.mono (by assumption) (by first | omega | (simp; done) | (simp; omega)))) | (with_reducible refine Below.drew ?_) | (with_reducible refine Below.alloc ?_ (by first | omega | (simp; done) | (simp; omega)) _) | (with_reducible refine Below.setCell ?_ (by first | omega | (simp; done) | (simp; omega)) _)))
    have B0 := Lib.hid b0
    have HW := Lib.hid hw0
    clear hl h14 b0 hw0
    go_enter Try.func17, Try.ntmps17
    go_wp2_with (go_at_call 27; (with_reducible refine (in_any (n : Int) 1 4 _).mono ?_); rintro e w' ⟨rfl, rfl⟩; rw [H14.out])
    rw [← HW.out]
    go_loopw [13] (fun i wr => ∃ t : Nat, t ≤ n ∧ i = .int .i64 t ∧ Hid (isP p = isPf p t (p.drop t)) ∧ Hid (wr.heap[w.heap.size]? = some (.cells #[.bool (hasI (p.take t) 0), .bool (hasI (p.take t) 1), .bool (hasI (p.take t) 2), .bool (hasI (p.take t) 3)] 59 (0, 0))) ∧ Below w.heap.size w wr ∧ w.heap.size ≤ wr.heap.size) (fun i _ => n - (intOf i).toNat)
    case atStart => exact ⟨0, Nat.zero_le _, rfl, HS.out, X0.out, B0.out, B0.out.size⟩
    case round =>
      obtain ⟨t, ht, rfl, hp, hx, hb, hs⟩ := hrel
      have hlx := lt_of_block hx.out
      by_cases hlt : t < n
      · obtain ⟨x, hxt⟩ : ∃ x, p[t]? = some x := ⟨_, List.getElem?_eq_getElem (by rw [HL.out]; exact hlt)⟩
        obtain ⟨b, off, rfl, _, hc⟩ := (H.out.below hb).2 (by omega)
        have q0 := hc t _ (ints_atP hxt)
        have HP := Lib.hid (hp.out.trans (isPf_at hxt))
        have HX := Lib.hid hxt
        have HB := Lib.hid hb
        clear hc hxt hp hb
        cases hin : inB x 0 ((n : Int) - 1)
        · have HF : Hid (isP p = false) := by rw [HP.out, stepP, HL.out, hin]; exact rfl
          go_wp2_with (go_at_call 27; (with_reducible refine (in_any x 0 ((n : Int) - 1) _).mono ?_); rintro e w' ⟨rfl, rfl⟩; rw [hin])
          go_ret
          exact ⟨by rw [HF.out]; rfl, HB.out, hs⟩
        · have hx4 := inB_iff.1 hin
          cases hh : hasI (p.take t) x
          · have HN : Hid (isP p = isPf p (t + 1) (p.drop (t + 1))) := by rw [HP.out, stepP, HL.out, hin, hh]; exact rfl
            obtain ⟨wn, hwn⟩ : ∃ wn, wn = wr.setCell ⟨w.heap.size, x.toNat, none⟩ (.bool true) := ⟨_, rfl⟩
            have HXN : Hid (wn.heap[w.heap.size]? = some (.cells #[.bool (hasI (p.take (t + 1)) 0), .bool (hasI (p.take (t + 1)) 1), .bool (hasI (p.take (t + 1)) 2), .bool (hasI (p.take (t + 1)) 3)] 59 (0, 0))) := by
              rw [hwn, heap_setCell_same _ _ _ _ _ _ hx.out, hasI_step HX.out, hasI_step HX.out, hasI_step HX.out, hasI_step HX.out]
              have h4 : x = 0 ∨ x = 1 ∨ x = 2 ∨ x = 3 := by omega
              rcases h4 with rfl | rfl | rfl | rfl <;> (simp; exact trivial)
            have HBN : Hid (Below w.heap.size w wn) := by rw [hwn]; exact HB.out.setCell (Nat.le_refl _) _
            have hsn : w.heap.size ≤ wn.heap.size := by rw [hwn, World.size_setCell]; exact hs
            have HWN := Lib.hid hwn
            have hfr : ∀ j, wr.frozen? ⟨w.heap.size, j, none⟩ = false := fun j => by simp [World.frozen?, hx.out]
            have q1 : wr.cell? ⟨w.heap.size, x.toNat, none⟩ = some (.bool false) := by
              have h4 : x = 0 ∨ x = 1 ∨ x = 2 ∨ x = 3 := by omega
              rcases h4 with rfl | rfl | rfl | rfl <;> exact cell_at hx.out (by rw [← hh]; rfl)
            clear hwn hx
            obtain ⟨y, rfl⟩ : ∃ y : Nat, x = y := ⟨x.toNat, by omega⟩
            rw [Int.toNat_natCast] at q1 HWN
            have hy4 : y < 4 := by omega
            have hf1 := hfr y
            clear hfr
            go_wp2_with (go_at_call 27; (with_reducible refine (in_any (y : Int) 0 ((n : Int) - 1) _).mono ?_); rintro e w' ⟨rfl, rfl⟩; rw [hin])
            rw [← HWN.out]
            go_roundw
            case rel => exact ⟨t + 1, by omega, by go_num, HN, HXN, HBN.out, hsn⟩
            case measure => simp [intOf]; omega
          · have HF : Hid (isP p = false) := by rw [HP.out, stepP, HL.out, hin, hh]; exact rfl
            have q1 : wr.cell? ⟨w.heap.size, x.toNat, none⟩ = some (.bool true) := by
              have h4 : x = 0 ∨ x = 1 ∨ x = 2 ∨ x = 3 := by omega
              rcases h4 with rfl | rfl | rfl | rfl <;> exact cell_at hx.out (by rw [← hh]; rfl)
            clear hx
            obtain ⟨y, rfl⟩ : ∃ y : Nat, x = y := ⟨x.toNat, by omega⟩
            rw [Int.toNat_natCast] at q1
            have hy4 : y < 4 := by omega
            go_wp2_with (go_at_call 27; (with_reducible refine (in_any (y : Int) 0 ((n : Int) - 1) _).mono ?_); rintro e w' ⟨rfl, rfl⟩; rw [hin])
            go_ret
            exact ⟨by rw [HF.out]; rfl, HB.out, hs⟩
      · obtain rfl : t = n := by omega
        have HF : Hid (isP p = true) := by
          rw [hp.out, List.drop_of_length_le (by rw [HL.out]; exact Nat.le_refl _)]
          exact rfl
        go_wp2_with fail
        go_ret
        exact ⟨by rw [HF.out]; rfl, hb, hs⟩
set_option maxRecDepth 100000 in
set_option maxHeartbeats 4000000 in
theorem IsPermutation_spec (A : Option Addr) (n c : Nat) (p : List Int) (w : World) (h : Rd w 1 A n (p.map (Value.int .i64))) (hl : p.length = n) (hc : n ≤ c) (hn : n ≤ 1099511627776) :
    Calls Try.prog 20 #[.slice A n c] w fun e w' => e = .returned (.bool (isP p)) ∧ Below w.heap.size w w' ∧ w.heap.size ≤ w'.heap.size := by
  have H := Lib.hid h
  have HL := Lib.hid hl
  have HS : Hid (isP p = (inB n 1 4 && isPf p 0 p)) := by rw [isP, hl]; exact rfl
  clear h hl
  go_enter Try.func20, Try.ntmps20
  go_wp2
  go_loopw [3] (fun i wr => ∃ t : Nat, t ≤ n ∧ i = .int .i64 t ∧ Hid (isPf p 0 p = isPf p t (p.drop t)) ∧ Below w.heap.size w wr) (fun i _ => n - (intOf i).toNat)
  case atStart => exact ⟨0, Nat.zero_le _, rfl, rfl, Below.refl _ _⟩
  case round =>
    obtain ⟨t, ht, rfl, hp, hb⟩ := hrel
    have hbs := hb.size
    by_cases hlt : t < n
    · obtain ⟨x, hxt⟩ : ∃ x, p[t]? = some x := ⟨_, List.getElem?_eq_getElem (by rw [HL.out]; exact hlt)⟩
      obtain ⟨b, off, rfl, _, hcl⟩ := (H.out.below hb).2 (by omega)
      have q0 := hcl t _ (ints_atP hxt)
      have HP := Lib.hid (hp.out.trans (isPf_at hxt))
      have RT : Hid (Rd wr 1 (some ⟨b, off, none⟩) t ((p.take t).map (Value.int .i64))) := by
        have := (H.out.below hb).take (t := t) (by omega)
        rw [ints_take] at this
        exact this
      have HTL : Hid ((p.take t).length = t) := by rw [List.length_take, HL.out]; exact Nat.min_eq_left (by omega)
      have HB := Lib.hid hb
      have htc : t ≤ c := by omega
      clear hcl hxt hp hb
      cases hin : inB x 0 ((n : Int) - 1)
      · have HF : Hid (isP p = false) := by rw [HS.out, HP.out, stepP, HL.out, hin]; simp; exact trivial
        go_wp2_with fail
        go_quiet ((go_at_call 29; exact Calls.quiet_of_same ((l1In_any x 0 ((n : Int) - 1) _).mono fun e W h => (⟨h.1.trans (by rw [hin]), h.2.symm⟩ : e = .returned (.bool false) ∧ W = _))))
        go_wp2_with fail
        go_ret
        exact ⟨by rw [HF.out]; exact rfl, below_drewN HB.out _, by show w.heap.size ≤ wr.heap.size; omega⟩
      · cases hh : hasI (p.take t) x
        · have HN : Hid (isPf p 0 p = isPf p (t + 1) (p.drop (t + 1))) := by rw [HP.out, stepP, HL.out, hin, hh]; exact rfl
          have HQ : Hid (∀ (f : FuncId) (args : Array Value) (k : Nat) (r : Bool), ((f = 29 ∧ args = #[.int .i64 x, .int .i64 0, .int .i64 ((n : Int) - 1)] ∧ r = true) ∨ (f = 30 ∧ args = #[.slice (some ⟨b, off, none⟩) t c, .int .i64 x] ∧ r = false)) → Calls Try.prog f args (wr.drewN k) fun e W => e = .returned (.bool r) ∧ W = wr.drewN k) := by
            rintro f args k r (⟨rfl, rfl, rfl⟩ | ⟨rfl, rfl, rfl⟩)
            · exact (l1In_any x 0 ((n : Int) - 1) _).mono fun e W h => ⟨h.1.trans (by rw [hin]), h.2.symm⟩
            · exact (l1HasInt_any (some ⟨b, off, none⟩) t c (p.take t) x _ (RT.out.drewN k) HTL.out (by omega)).mono fun e W h => ⟨h.1.trans (by rw [hh]), h.2.symm⟩
          go_wp2_with fail
          go_quiet (first | (go_at_call 29; exact Calls.quiet_of_same (HQ.out _ _ _ _ (Or.inl ⟨rfl, rfl, rfl⟩))) | (go_at_call 30; exact Calls.quiet_of_same (HQ.out _ _ _ _ (Or.inr ⟨rfl, rfl, rfl⟩))))
          go_wp2_with fail
          go_roundw
          case rel => exact ⟨t + 1, by omega, by go_num, HN, below_drewN HB.out _⟩
          case measure => simp [intOf]; omega
        · have HF : Hid (isP p = false) := by rw [HS.out, HP.out, stepP, HL.out, hin, hh]; simp; exact trivial
          have HQ : Hid (∀ (f : FuncId) (args : Array Value) (k : Nat) (r : Bool), ((f = 29 ∧ args = #[.int .i64 x, .int .i64 0, .int .i64 ((n : Int) - 1)] ∧ r = true) ∨ (f = 30 ∧ args = #[.slice (some ⟨b, off, none⟩) t c, .int .i64 x] ∧ r = true)) → Calls Try.prog f args (wr.drewN k) fun e W => e = .returned (.bool r) ∧ W = wr.drewN k) := by
            rintro f args k r (⟨rfl, rfl, rfl⟩ | ⟨rfl, rfl, rfl⟩)
            · exact (l1In_any x 0 ((n : Int) - 1) _).mono fun e W h => ⟨h.1.trans (by rw [hin]), h.2.symm⟩
            · exact (l1HasInt_any (some ⟨b, off, none⟩) t c (p.take t) x _ (RT.out.drewN k) HTL.out (by omega)).mono fun e W h => ⟨h.1.trans (by rw [hh]), h.2.symm⟩
          go_wp2_with fail
          go_quiet (first | (go_at_call 29; exact Calls.quiet_of_same (HQ.out _ _ _ _ (Or.inl ⟨rfl, rfl, rfl⟩))) | (go_at_call 30; exact Calls.quiet_of_same (HQ.out _ _ _ _ (Or.inr ⟨rfl, rfl, rfl⟩))))
          go_wp2_with fail
          go_ret
          exact ⟨by rw [HF.out]; exact rfl, below_drewN HB.out _, by show w.heap.size ≤ wr.heap.size; omega⟩
    · obtain rfl : t = n := by omega
      have HF : Hid (isP p = inB (t : Int) 1 4) := by
        rw [HS.out, hp.out, List.drop_of_length_le (by rw [HL.out]; exact Nat.le_refl _)]
        simp [isPf]
        exact trivial
      go_wp2_with (go_at_call 29; refine (l1In_any _ _ _ _).mono ?_; rintro e w' ⟨rfl, rfl⟩)
      go_ret
      exact ⟨by rw [HF.out]; exact rfl, hb, hbs⟩
end Go.Proofs.Ytgjpicekdbemiac
namespace Go.Proofs.Ytgjpicekdbemiac
open Go.RowKit
set_option linter.unusedVariables false
theorem pidx_no {p : List Int} {i : Int} (h : isP p = false) : pidx p i = 0 := by rw [pidx, h]; rfl
theorem pidx_out {p : List Int} {i : Int} (h : inB i 0 (2 ^ p.length - 1) = false) : pidx p i = 0 := by rw [pidx, h]; simp
theorem pidx_yes {p : List Int} {i : Int} (h : isP p = true) (h2 : inB i 0 (2 ^ p.length - 1) = true) : pidx p i = pix i 0 0 p := by rw [pidx, h, h2]; rfl
theorem pow_le16 {n : Nat} (h : n ≤ 4) : (2 : Int) ^ n ≤ 16 := by
  have : 2 ^ n ≤ 16 := Nat.pow_le_pow_right (n := 2) (by decide) h
  exact_mod_cast this
set_option maxRecDepth 100000 in
set_option maxHeartbeats 4000000 in
theorem PermuteIndex_impl (A : Option Addr) (n c : Nat) (p : List Int) (i : Int) (w : World) (h : Rd w 1 A n (p.map (Value.int .i64))) (hl : p.length = n) (hn : n ≤ 1099511627776) :
    Calls Try.prog 18 #[.slice A n c, .int .i64 i] w fun e w' => e = .returned (.int .i64 (pidx p i)) ∧ Below w.heap.size w w' ∧ w.heap.size ≤ w'.heap.size := by
  have H := Lib.hid h
  have HL := Lib.hid hl
  have HI := Lib.hid (IsPermutation_impl A n c p w h hl hn)
  clear h
  cases hp : isP p
  · have HS := Lib.hid (pidx_no (i := i) hp)
    rw [hp] at HI
    clear hl
    go_enter Try.func18, Try.ntmps18
    go_wp2_with (go_at_call 17; (with_reducible refine HI.out.mono ?_); rintro e w' ⟨rfl, b1, s1⟩)
    go_ret
    exact ⟨by rw [HS.out]; rfl, b1, s1⟩
  · have hm := (isP_mem hp).1
    rw [hl] at hm
    rw [hp] at HI
    have hmem := Lib.hid (isP_mem hp).2
    have hp16 := pow_le16 hm.2
    have hpp : (0 : Int) < 2 ^ n := Int.pow_pos (by decide)
    have hw : wrap64 (wrap64 (2 ^ n) - 1) = 2 ^ n - 1 := by rw [IntWalk.wrap64_in (2 ^ n) (by omega)]; exact IntWalk.wrap64_in _ (by omega)
    cases hin : inB i 0 (2 ^ n - 1)
    · have HS := Lib.hid (pidx_out (p := p) (i := i) (by rw [hl]; exact hin))
      have HB : Hid (inB i 0 (wrap64 (wrap64 (2 ^ n) - 1)) = false) := by rw [hw]; exact hin
      clear hl hp hw hin hp16 hpp
      go_enter Try.func18, Try.ntmps18
      go_wp2_with (first | (go_at_call 17; (with_reducible refine HI.out.mono ?_); rintro e w' ⟨rfl, b1, s1⟩) | (go_at_call 27; (with_reducible refine (in_any i 0 (wrap64 (wrap64 (2 ^ n) - 1)) _).mono ?_); rintro e w' ⟨rfl, rfl⟩; rw [HB.out]))
      go_ret
      exact ⟨by rw [HS.out]; rfl, b1, s1⟩
    · have HS := Lib.hid (pidx_yes (i := i) hp (by rw [hl]; exact hin))
      have HB : Hid (inB i 0 (wrap64 (wrap64 (2 ^ n) - 1)) = true) := by rw [hw]; exact hin
      have HIN := Lib.hid hin
      clear hl hp hw hin hp16 hpp
      go_enter Try.func18, Try.ntmps18
      go_wp2_with (first | (go_at_call 17; (with_reducible refine HI.out.mono ?_); rintro e w' ⟨rfl, b1, s1⟩) | (go_at_call 27; (with_reducible refine (in_any i 0 (wrap64 (wrap64 (2 ^ n) - 1)) _).mono ?_); rintro e w' ⟨rfl, rfl⟩; rw [HB.out]))
      have B1 := Lib.hid b1
      clear b1
      go_loop [5, 22] (fun v q => ∃ (t : Nat) (o : Int), t ≤ n ∧ q = .int .i64 t ∧ v = .int .i64 o ∧ Hid (pidx p i = pix i t o (p.drop t))) (fun _ q => n - (intOf q).toNat)
      case atStart => exact ⟨0, 0, Nat.zero_le _, rfl, rfl, HS.out⟩
      case round =>
        obtain ⟨t, o, ht, rfl, rfl, hd⟩ := hrel
        by_cases hlt : t < n
        · obtain ⟨x, hxt⟩ : ∃ x, p[t]? = some x := ⟨_, List.getElem?_eq_getElem (by rw [HL.out]; exact hlt)⟩
          obtain ⟨b, off, rfl, _, hc⟩ := (H.out.below B1.out).2 (by omega)
          have q0 := hc t _ (ints_atP hxt)
          have hx0 := hmem.out x (List.mem_of_getElem? hxt)
          obtain ⟨k, rfl⟩ : ∃ k : Nat, x = k := ⟨x.toNat, by omega⟩
          have HN : Hid (pidx p i = pix i (t + 1) (bits BinOp.or IntKind.i64 o (wrap64 (bits BinOp.and IntKind.i64 (i / 2 ^ t) 1 * 2 ^ min k 64))) (p.drop (t + 1))) := by
            have hmk : min k 64 = k := by have := HL.out; omega
            rw [hmk, hd.out, pix_at hxt, pst, Int.toNat_natCast]
            exact rfl
          clear hc hxt hd hx0
          go_wp2_with fail
          go_round
          case rel => exact ⟨t + 1, _, by omega, by go_num, rfl, HN⟩
          case measure => simp [intOf]; omega
        · obtain rfl : t = n := by omega
          have HF : Hid (pidx p i = o) := by
            rw [hd.out, List.drop_of_length_le (by rw [HL.out]; exact Nat.le_refl _)]
            exact rfl
          go_wp2_with fail
          go_ret
          exact ⟨by rw [HF.out]; rfl, B1.out, s1⟩
set_option maxRecDepth 100000 in
set_option maxHeartbeats 4000000 in
theorem PermuteIndex_spec (A : Option Addr) (n c : Nat) (p : List Int) (i : Int) (w : World) (h : Rd w 1 A n (p.map (Value.int .i64))) (hl : p.length = n) (hc : n ≤ c) (hn : n ≤ 1099511627776) :
    Calls Try.prog 21 #[.slice A n c, .int .i64 i] w fun e w' => e = .returned (.int .i64 (pidx p i)) ∧ Below w.heap.size w w' ∧ w.heap.size ≤ w'.heap.size := by
  have H := Lib.hid h
  have HL := Lib.hid hl
  have HI := Lib.hid (IsPermutation_spec A n c p w h hl hc hn)
  clear h
  cases hp : isP p
  · have HS := Lib.hid (pidx_no (i := i) hp)
    rw [hp] at HI
    clear hl
    go_enter Try.func21, Try.ntmps21
    go_wp2_with (go_at_call 20; (with_reducible refine HI.out.mono ?_); rintro e w' ⟨rfl, b1, s1⟩)
    go_ret
    exact ⟨by rw [HS.out]; rfl, b1, s1⟩
  · have hm := (isP_mem hp).1
    rw [hl] at hm
    rw [hp] at HI
    have hmem := Lib.hid (isP_mem hp).2
    have hp16 := pow_le16 hm.2
    have hpp : (0 : Int) < 2 ^ n := Int.pow_pos (by decide)
    have hw : wrap64 (wrap64 (2 ^ n) - 1) = 2 ^ n - 1 := by rw [IntWalk.wrap64_in (2 ^ n) (by omega)]; exact IntWalk.wrap64_in _ (by omega)
    cases hin : inB i 0 (2 ^ n - 1)
    · have HS := Lib.hid (pidx_out (p := p) (i := i) (by rw [hl]; exact hin))
      have HB : Hid (inB i 0 (wrap64 (wrap64 (2 ^ n) - 1)) = false) := by rw [hw]; exact hin
      clear hl hp hw hin hp16 hpp
      go_enter Try.func21, Try.ntmps21
      go_wp2_with (first | (go_at_call 20; (with_reducible refine HI.out.mono ?_); rintro e w' ⟨rfl, b1, s1⟩) | (go_at_call 29; (with_reducible refine (l1In_any i 0 (wrap64 (wrap64 (2 ^ n) - 1)) _).mono ?_); rintro e w' ⟨rfl, rfl⟩; rw [HB.out]))
      go_ret
      exact ⟨by rw [HS.out]; rfl, b1, s1⟩
    · have HS := Lib.hid (pidx_yes (i := i) hp (by rw [hl]; exact hin))
      have HB : Hid (inB i 0 (wrap64 (wrap64 (2 ^ n) - 1)) = true) := by rw [hw]; exact hin
      have HIN := Lib.hid hin
      clear hl hp hw hin hp16 hpp
      go_enter Try.func21, Try.ntmps21
      go_wp2_with (first | (go_at_call 20; (with_reducible refine HI.out.mono ?_); rintro e w' ⟨rfl, b1, s1⟩) | (go_at_call 29; (with_reducible refine (l1In_any i 0 (wrap64 (wrap64 (2 ^ n) - 1)) _).mono ?_); rintro e w' ⟨rfl, rfl⟩; rw [HB.out]))
      have B1 := Lib.hid b1
      clear b1
      go_loop [5, 6] (fun v q => ∃ (t : Nat) (o : Int), t ≤ n ∧ q = .int .i64 t ∧ v = .int .i64 o ∧ Hid (pidx p i = pix i t o (p.drop t))) (fun _ q => n - (intOf q).toNat)
      case atStart => exact ⟨0, 0, Nat.zero_le _, rfl, rfl, HS.out⟩
      case round =>
        obtain ⟨t, o, ht, rfl, rfl, hd⟩ := hrel
        by_cases hlt : t < n
        · obtain ⟨x, hxt⟩ : ∃ x, p[t]? = some x := ⟨_, List.getElem?_eq_getElem (by rw [HL.out]; exact hlt)⟩
          obtain ⟨b, off, rfl, _, hcl⟩ := (H.out.below B1.out).2 (by omega)
          have q0 := hcl t _ (ints_atP hxt)
          have hx0 := hmem.out x (List.mem_of_getElem? hxt)
          obtain ⟨k, rfl⟩ : ∃ k : Nat, x = k := ⟨x.toNat, by omega⟩
          have HN : Hid (pidx p i = pix i (t + 1) (bits BinOp.or IntKind.i64 o (wrap64 (bits BinOp.and IntKind.i64 (i / 2 ^ t) 1 * 2 ^ min (IntKind.u64.wrap (k : Int)).toNat 64))) (p.drop (t + 1))) := by
            have hmk : min (IntKind.u64.wrap (k : Int)).toNat 64 = k := by
              have hk4 : k = 0 ∨ k = 1 ∨ k = 2 ∨ k = 3 := by have := HL.out; omega
              rcases hk4 with rfl | rfl | rfl | rfl <;> rfl
            rw [hmk, hd.out, pix_at hxt, pst, Int.toNat_natCast]
            exact rfl
          clear hcl hxt hd hx0
          go_wp2_with fail
          go_round
          case rel => exact ⟨t + 1, _, by omega, by go_num, rfl, HN⟩
          case measure => simp [intOf]; omega
        · obtain rfl : t = n := by omega
          have HF : Hid (pidx p i = o) := by
            rw [hd.out, List.drop_of_length_le (by rw [HL.out]; exact Nat.le_refl _)]
            exact rfl
          go_wp2_with fail
          go_ret
          exact ⟨by rw [HF.out]; rfl, B1.out, s1⟩
end Go.Proofs.Ytgjpicekdbemiac
namespace Go.Proofs.Ytgjpicekdbemiac
open Go.RowKit
set_option linter.unusedVariables false
theorem rd_litC {w : World} {cs : Array Value} {e n size b : Nat} (h0 : b = w.heap.size) (hs : cs.size = n * size) : Rd (w.alloc (.cells cs e)) size (some ⟨b, 0, none⟩) n cs.toList := rd_lit2 h0 hs
theorem dcs_one (r : List Dm) : ∀ u ∈ r.flatMap dcells, u.oneCell' = true := one_flat dcells_one r
set_option maxRecDepth 100000 in
set_option maxHeartbeats 2000000 in
theorem l6Copy_any (A : Option Addr) (n c : Nat) (r : List Dm) (w : World) (h : Rd w 5 A n (r.flatMap dcells)) (hl : r.length = n) (hn : n ≤ 1099511627776) :
    Calls Try.prog 28 #[.slice A n c] w (RetRow 47 5 w n (r.flatMap dcells)) := by
  obtain ⟨i1, hi1, hy0, hy1, hy2⟩ := info_parts info_DOmegaE
  have hE := own_empty w 47 5
  have b0 : Below w.heap.size w (w.alloc (.cells #[] 47)) := (by repeat (first | exact Below.refl _ _ | assumption | (refine Below.trans ?_ (Below.mono (by assumption) (by first | omega | (simp; done) | (simp; omega)))) | (with_reducible refine Below.drew ?_) | (with_reducible refine Below.alloc ?_ (by first | omega | (simp; done) | (simp; omega)) _) | (with_reducible refine Below.setCell ?_ (by first | omega | (simp; done) | (simp; omega)) _)))
  have H := Lib.hid (h.below b0)
  have HE := Lib.hid hE
  clear h hE b0
  go_enter Try.func28, Try.ntmps28
  go_wp2_with (at_builtin; refine wpList_append_rd _ rfl _ _ 38 rfl w.heap.size 47 i1 _ 5 40 Try.underlying38 hi1 hy0 hy1 hy2 rfl (by decide) _ _ _ rfl HE.out _ _ _ _ rfl H.out (dcs_one r) ?c3 ?c4 ?c5 ?_)
  case c3 => simp only [maxLen]; omega
  case c4 => omega
  case c5 => simp
  intro v1 w1 own1 gr1 _
  have own1 : w1.ownsRow w.heap.size 47 5 v1 n (r.flatMap dcells) := by simpa using own1
  have b1 := ((Below.refl w.heap.size w).alloc (Nat.le_refl _) _).grown gr1 (by simp) (own_ge HE.out)
  clear gr1
  go_wp2_with fail
  go_ret
  exact ⟨_, rfl, own1, b1, b1.size⟩
set_option maxRecDepth 100000 in
set_option maxHeartbeats 4000000 in
theorem l7Copy_any (A : Option Addr) (n c : Nat) (M : List (List Dm)) (w : World) (h : RdM w A n M) (hn : n ≤ 68719476736) (hs : szM M ≤ 1099511627776) :
    Calls Try.prog 19 #[.slice A n c] w (RetM w n M) := by
  obtain ⟨i0, hi0, hz0, hz1, hz2⟩ := info_parts info_DOmegaSE
  have HL := Lib.hid h.len
  have H := Lib.hid h
  have hE := own_empty w 38 1
  have O0 : Hid (OwnM (w.alloc (.cells #[] 38)) w.heap.size (.slice (some ⟨w.heap.size, 0, none⟩) 0 0) 0 [] [w.heap.size]) := ⟨[], rfl, hE, rfl, by simp, by simp⟩
  clear h hE
  go_enter Try.func19, Try.ntmps19
  go_wp2_with fail
  go_loopw [3, 4] (fun v i wr => ∃ (t : Nat) (F : List Nat), t ≤ n ∧ i = .int .i64 t ∧ Hid (OwnM wr w.heap.size v t (M.take t) F) ∧ Below w.heap.size w wr) (fun _ i _ => n - (intOf i).toNat)
  case atStart => exact ⟨0, _, Nat.zero_le _, rfl, O0, (by repeat (first | exact Below.refl _ _ | assumption | (refine Below.trans ?_ (Below.mono (by assumption) (by first | omega | (simp; done) | (simp; omega)))) | (with_reducible refine Below.drew ?_) | (with_reducible refine Below.alloc ?_ (by first | omega | (simp; done) | (simp; omega)) _) | (with_reducible refine Below.setCell ?_ (by first | omega | (simp; done) | (simp; omega)) _)))⟩
  case round =>
    obtain ⟨t, F, ht, rfl, hown, hb⟩ := hrel
    have hbs := hb.size
    by_cases hlt : t < n
    · have htl : t < M.length := by rw [HL.out]; exact hlt
      obtain ⟨r, hr⟩ : ∃ r, M[t]? = some r := ⟨_, List.getElem?_eq_getElem htl⟩
      obtain ⟨bb, off, a, c1, rfl, hbl, z0, hc1, hc2, hrd⟩ := (H.out.below hb).at hr
      have hrl := szM_row hr
      have HT := Lib.hid (show M.take (t + 1) = M.take t ++ [r] by rw [List.take_add_one, hr]; rfl)
      have HB := Lib.hid hb
      have HRD := Lib.hid hrd
      clear hr htl hb hrd
      go_wp2_with fail
      refine (l6Copy_any a r.length c1 r wr HRD.out rfl (by omega)).mono ?_
      rintro e w1 ⟨u, rfl, own1, b1, s1⟩
      obtain ⟨S, hM1, hM2, hF, hN, hrows⟩ := hown.out.below b1
      have HN := Lib.hid (hF ▸ hN)
      have HR := Lib.hid hrows
      have HM1 := Lib.hid hM1
      have HM2 := Lib.hid hM2
      have HO1 := Lib.hid own1
      have HFL : Hid (∀ k ∈ F, k < wr.heap.size) := fun k hk => (hown.out.lt k hk).2
      have HFE := Lib.hid hF
      have HOV := Lib.hid (own_ge hM2)
      obtain ⟨a2, c2, rfl, _, _, _⟩ := rd_of_own own1
      have HB1 := Lib.hid (HB.out.trans (b1.mono hbs))
      clear hM1 hM2 hF hN hrows own1 b1 hown z0
      go_wp2_with (at_builtin; refine wpList_append_rd _ rfl _ _ 24 rfl w.heap.size 38 i0 _ 1 24 Try.underlying24 hi0 hz0 hz1 hz2 rfl (by decide) _ _ _ rfl (HM2.out.alloc _) _ 1 1 _ rfl (rd_litC ?c0 rfl) ?c2 ?c3 ?c4 ?c5 ?_)
      case c0 => first | rfl | simp
      case c2 => simp [Value.oneCell']
      case c3 => simp only [maxLen]; omega
      case c4 => omega
      case c5 => have := HB1.out.size; simp; omega
      intro v3 w3 own3 gr3 at3
      have HG3 := Lib.hid gr3
      have HA3 := Lib.hid at3
      have HO3 := Lib.hid own3
      clear own3 gr3 at3
      go_wp2_with fail
      go_roundw
      case rel =>
        obtain ⟨F', hO, _⟩ := ownM_snoc (r := r) HM1.out (HM2.out.alloc _) HN.out (fun j r hj => by obtain ⟨u, h1, h2⟩ := HR.out j r hj; exact ⟨u, h1, h2.alloc _⟩) ((own_from HO1.out (by omega)).alloc _) (fun k hk hm => by
          have h1 := (HO1.out.lt k hk).1
          have h2 := HFL.out k (by rw [HFE.out]; exact hm)
          omega) HO3.out HG3.out (HA3.out.imp id (fun h => h.trans (by simp)))
        refine ⟨t + 1, F', by omega, by go_num, ?_, ?_⟩
        · rw [HT.out]; exact hO
        · exact (HB1.out.alloc (by omega) _).grown HG3.out (by simp; omega) HOV.out
      case measure => simp [intOf]; omega
    · obtain rfl : t = n := by omega
      have HO : Hid (∃ F, OwnM wr w.heap.size _ t M F) := ⟨F, by have h := hown.out; rw [List.take_of_length_le (by rw [HL.out]; exact Nat.le_refl _)] at h; exact h⟩
      go_wp2_with fail
      go_ret
      obtain ⟨F, hO⟩ := HO.out
      exact ⟨_, F, rfl, hO, hb, hbs⟩
end Go.Proofs.Ytgjpicekdbemiac
