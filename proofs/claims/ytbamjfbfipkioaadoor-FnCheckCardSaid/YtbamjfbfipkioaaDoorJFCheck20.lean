/- What the calls that this law reaches answer, part 20 of 30. -/
import Derived.Test.YtbamjfbfipkioaaDoorJFCheck19
namespace Go.Proofs.YtbamjfbfipkioaaDoor
open Go.RowKit
set_option linter.unusedVariables false
def InN (n : Nat) (L : List Int) : Prop := ∀ x ∈ L, 0 ≤ x ∧ x < n
def DPn (w : World) (p n : Nat) (e : Ending) (w' : World) : Prop := ∃ (v : Value) (L : List Int), e = .returned v ∧ L.length = n ∧ InN n L ∧ w'.ownsRow w.heap.size 3 1 v n (L.map (Value.int .i64)) ∧ CurAt w' p ∧ w.grownBy w' (some p)
def RetIntsN (w : World) (n : Nat) (e : Ending) (w' : World) : Prop := ∃ (v : Value) (L : List Int), e = .returned v ∧ L.length = n ∧ InN n L ∧ w'.ownsRow w.heap.size 3 1 v n (L.map (Value.int .i64)) ∧ Below w.heap.size w w' ∧ w.heap.size ≤ w'.heap.size
def DGk (kind : Int) (w : World) (p : Nat) (e : Ending) (w' : World) : Prop := ∃ a b c : Int, e = .returned (.agg #[.int .i64 kind, .int .i64 a, .int .i64 b, .int .i64 c]) ∧ CurAt w' p ∧ w.grownBy w' (some p)
def DGn (n : Nat) (w : World) (p : Nat) (e : Ending) (w' : World) : Prop := ∃ k a b c : Int, (1 ≤ k ∧ k ≤ 12 ∧ ar k ≤ n) ∧ e = .returned (.agg #[.int .i64 k, .int .i64 a, .int .i64 b, .int .i64 c]) ∧ CurAt w' p ∧ w.grownBy w' (some p)
theorem inN_set {n : Nat} {L : List Int} {y : Int} (h : InN n L) (hy : y ∈ L) (i : Nat) : InN n (L.set i y) := by
  intro x hx
  rcases List.mem_or_eq_of_mem_set hx with h1 | h1
  · exact h x h1
  · rw [h1]; exact h y hy
theorem inN_snoc {n : Nat} {L : List Int} {y : Int} (h : InN n L) (h0 : 0 ≤ y) (h1 : y < n) : InN n (L ++ [y]) := by
  intro x hx
  rcases List.mem_append.1 hx with h2 | h2
  · exact h x h2
  · rw [List.mem_singleton.1 h2]; exact ⟨h0, h1⟩
theorem inN_up {n m : Nat} {L : List Int} (h : InN n L) (hm : n ≤ m) : InN m L := fun x hx => by have := h x hx; omega
theorem picks8 {y : Int} (h : y ∈ ([4, 7, 5, 8, 9, 9, 9, 9] : List Int)) : 1 ≤ y ∧ y ≤ 12 := by
  simp only [List.mem_cons, List.not_mem_nil, or_false] at h
  omega
theorem pickedN {w : World} {L : List Int} {b : Nat} (hb : b = w.heap.size) : Rd (w.alloc (.cells (L.map (Value.int .i64)).toArray 3)) 1 (some ⟨b, 0, none⟩) L.length (L.map (Value.int .i64)) := by
  have h := rd_lit1 (w := w) (cs := (L.map (Value.int .i64)).toArray) (e := 3) (n := L.length) (size := 1) hb (by simp)
  simpa using h
theorem inN_set2 {n : Nat} {L : List Int} {y z : Int} (h : InN n L) (hy : y ∈ L) (hz : z ∈ L) {i j : Nat} : InN n ((L.set i y).set j z) := by
  intro x hx
  rcases List.mem_or_eq_of_mem_set hx with h1 | h1
  · exact inN_set h hy i x h1
  · rw [h1]; exact h z hz
set_option maxRecDepth 100000 in
set_option maxHeartbeats 1000000 in
theorem IdentityPermutation_n (n : Nat) (w : World) (h1 : 1 ≤ n) (h4 : n ≤ 4) : Calls Tryd.prog 80 #[.int .i64 n] w (RetIntsN w n) := by
  obtain ⟨i0, hi, hz0, hz1, hz2⟩ := info_parts info_int
  have hin : inB (n : Int) 1 4 = true := inB_iff.2 (by omega)
  go_enter Tryd.func80, Tryd.ntmps80
  go_wp2_with fail
  go_loopw [3, 4] (fun v i wr => ∃ (t : Nat) (L : List Int), t ≤ n ∧ i = .int .i64 t ∧ L.length = t ∧ Hid (InN t L) ∧ wr.ownsRow w.heap.size 3 1 v t (L.map (Value.int .i64)) ∧ Below w.heap.size w wr) (fun _ i _ => n - (intOf i).toNat)
  case atStart => exact ⟨0, [], Nat.zero_le _, rfl, rfl, (fun x hx => absurd hx (by simp)), by simpa using own_empty w _ 1, (by repeat (first | exact Below.refl _ _ | assumption | (refine Below.trans ?_ (Below.mono (by assumption) (by first | omega | (simp; done) | (simp; omega)))) | (with_reducible refine Below.drew ?_) | (with_reducible refine Below.alloc ?_ (by first | omega | (simp; done) | (simp; omega)) _) | (with_reducible refine Below.setCell ?_ (by first | omega | (simp; done) | (simp; omega)) _)))⟩
  case round =>
    obtain ⟨t, L, ht, rfl, hL, hin2, hown, hb⟩ := hrel
    have HL := Lib.hid hL
    clear hL
    by_cases hlt : t < n
    · go_wp2_with (first | (go_at_call 30; refine (l1In_any _ _ _ _).mono ?_; rintro e w' ⟨rfl, rfl⟩) | (at_builtin; refine wpList_append_rd _ rfl _ _ 76 rfl w.heap.size 3 i0 _ 1 8 Tryd.underlying76 hi hz0 hz1 hz2 rfl (by decide) _ _ _ rfl (hown.alloc _) _ 1 1 _ rfl (rd_lit1 ?c0 rfl) ?c2 ?c3 ?c4 ?c5 ?_))
      case c0 => first | rfl | simp
      case c2 => repeat' (first | rfl | apply And.intro)
      case c3 => simp only [maxLen]; omega
      case c4 => omega
      case c5 => have := hb.size; simp; omega
      intro v3 w3 own3 gr3 _
      have b3 := (hb.alloc hb.size _).grown gr3 (by have := hb.size; simp; omega) (own_ge hown)
      clear hown gr3
      go_wp2_with fail
      go_roundw
      case rel => exact ⟨t + 1, L ++ [(t : Int)], by omega, by go_num, by simp [HL.out], inN_snoc (inN_up hin2.out (by omega)) (by omega) (by omega), by simpa using own3, b3⟩
      case measure => simp [intOf]; omega
    · obtain rfl : t = n := by omega
      go_wp2_with (go_at_call 30; refine (l1In_any _ _ _ _).mono ?_; rintro e w' ⟨rfl, rfl⟩)
      go_ret
      exact ⟨_, L, rfl, HL.out, hin2.out, hown, hb, hb.size⟩
set_option maxRecDepth 100000 in
set_option maxHeartbeats 2000000 in
theorem l8Perm_n (n : Nat) (w : World) (p : Nat) (hcur : CurAt w p) (h1 : 1 ≤ n) (h4 : n ≤ 4) : Calls Tryd.prog 74 #[.pointer (some ⟨p, 0, none⟩), .int .i64 n] w (DPn w p n) := by
  have hp := hcur.lt
  go_enter Tryd.func74, Tryd.ntmps74
  go_wp2_with fail
  refine (IdentityPermutation_n n w h1 h4).mono ?_
  rintro e w1 ⟨v, L, rfl, hL, hin, hown, hb, hs⟩
  have HIN := Lib.hid hin
  clear hin
  have hfr : Fr w p w1 := (Fr.start hcur).below hb
  rcases hown.2 with ⟨_, h0⟩ | ⟨g, cap, cur, rfl, hgb, hh, hcp, hm, _, _⟩
  · omega
  have HL := Lib.hid hL
  clear hL hh hb
  go_wp2_with fail
  go_loopw [6, 7, 8] (fun i _ _ wr => ∃ (t : Nat) (L : List Int), t + 1 ≤ n ∧ i = .int .i64 t ∧ L.length = n ∧ Hid (InN n L) ∧ wr.ownsRow w.heap.size 3 1 (.slice (some ⟨g, 0, none⟩) n cap) n (L.map (Value.int .i64)) ∧ Fr w p wr) (fun i _ _ _ => (intOf i).toNat)
  case atStart => exact ⟨n - 1, L, by omega, by congr 1; omega, HL.out, HIN.out, hown, hfr⟩
  case round =>
    clear hown hfr
    obtain ⟨t, L, ht, rfl, hL, hin, hown, hfr⟩ := hrel
    have HL2 := Lib.hid hL
    clear hL
    by_cases hlt : 0 < t
    · go_wp2_with fail
      refine (l1Below_any (t + 1) t wr p hfr.cur (by omega) (by omega) (by omega)).mono ?_
      rintro e w2 ⟨x, hx0, hx1, rfl, hc2, hg2⟩
      obtain ⟨k, rfl⟩ : ∃ k : Nat, x = k := ⟨x.toNat, by omega⟩
      have hfr2 := hfr.call hc2 hg2
      have hown2 : w2.ownsRow w.heap.size 3 1 (.slice (some ⟨g, 0, none⟩) n cap) n (L.map (Value.int .i64)) := hown.kept hg2 (.inr (by
        intro e
        simp [Value.ownBlock] at e
        omega))
      obtain ⟨y1, hy1⟩ : ∃ y, L[t]? = some y := ⟨_, List.getElem?_eq_getElem (by rw [HL2.out]; omega)⟩
      obtain ⟨y2, hy2⟩ : ∃ y, L[k]? = some y := ⟨_, List.getElem?_eq_getElem (by rw [HL2.out]; omega)⟩
      have z1 : w2.cell? ⟨g, t, none⟩ = some (.int .i64 y1) := (hown2.cellAt t (by omega)).trans (by simp [hy1])
      have z2 : w2.cell? ⟨g, k, none⟩ = some (.int .i64 y2) := (hown2.cellAt k (by omega)).trans (by simp [hy2])
      have f1 := hown2.frozenAt t
      have f2 := hown2.frozenAt k
      have HO := Lib.hid hown2
      have HFR := Lib.hid hfr2
      have hm1 := List.mem_of_getElem? hy1
      have hm2 := List.mem_of_getElem? hy2
      have HM1 := Lib.hid hm1
      have HM2 := Lib.hid hm2
      clear hown hown2 hfr hfr2 hy1 hy2 hc2 hg2 hm1 hm2
      by_cases hkt : k = t
      · subst hkt
        have s0 := (HO.out.stored k (.int .i64 y2))
        have s1 := (s0.1.stored k (.int .i64 y2))
        have HS := Lib.hid (And.intro s0 s1)
        clear s0 s1 z1
        go_wp2_with fail
        go_roundw
        case rel => exact ⟨k - 1, (L.set k y2).set k y2, by omega, by congr 1; omega, by simp [HL2.out], by rw [List.set_set]; exact inN_set hin.out HM2.out k, by simpa using HS.out.2.1, (HFR.out.own hp HS.out.1.2 (fun j hj => by injection hj with hj; omega)).own hp HS.out.2.2 (fun j hj => by injection hj with hj; omega)⟩
        case measure => simp [intOf]; omega
      · have s0 := (HO.out.stored t (.int .i64 y2))
        have s1 := (s0.1.stored k (.int .i64 y1))
        have HS := Lib.hid (And.intro s0 s1)
        clear s0 s1
        go_wp2_with fail
        go_roundw
        case rel => exact ⟨t - 1, (L.set t y2).set k y1, by omega, by congr 1; omega, by simp [HL2.out], inN_set2 hin.out HM2.out HM1.out, by simpa using HS.out.2.1, (HFR.out.own hp HS.out.1.2 (fun j hj => by injection hj with hj; omega)).own hp HS.out.2.2 (fun j hj => by injection hj with hj; omega)⟩
        case measure => simp [intOf]; omega
    · obtain rfl : t = 0 := by omega
      go_wp2_with fail
      go_ret
      exact ⟨_, L, rfl, HL2.out, hin.out, hown, hfr.cur, hfr.gr⟩
set_option maxRecDepth 100000 in
set_option maxHeartbeats 2000000 in
theorem l9On_k (kind : Int) (n : Nat) (w : World) (p : Nat) (hcur : CurAt w p) (h1 : 1 ≤ n) (h4 : n ≤ 4) (hk : ar kind ≤ n) : Calls Tryd.prog 79 #[.pointer (some ⟨p, 0, none⟩), .int .i64 kind, .int .i64 n] w (DGk kind w p) := by
  have hp := hcur.lt
  go_enter Tryd.func79, Tryd.ntmps79
  go_wp2_with fail
  obtain ⟨w0, hw0⟩ : ∃ w0, w0 = w.alloc (.cells #[.int .i64 0, .int .i64 0, .int .i64 0, .int .i64 0] 92) := ⟨_, rfl⟩
  rw [← hw0]
  have x0 : w0.heap[w.heap.size]? = some (.cells #[.int .i64 0, .int .i64 0, .int .i64 0, .int .i64 0] 92 (0, 0)) := by rw [hw0]; exact boxed1_0 _ _
  have hfr0 : Fr w p w0 := by rw [hw0]; exact (Fr.start hcur).alloc _
  have s0 : w.heap.size < w0.heap.size := by rw [hw0]; simp
  clear hw0
  refine (l8Perm_n n w0 p hfr0.cur h1 h4).mono ?_
  rintro e w1 ⟨v, L, rfl, hL, _, hown, hc1, hg1⟩
  have x1 := box_call x0 hg1 (by omega)
  have hfr1 := hfr0.call hc1 hg1
  have s1 : w.heap.size < w1.heap.size := by have := hg1.size; omega
  rcases hown.2 with ⟨_, h0⟩ | ⟨g, cap, cur, rfl, hgb, hh, hcp, hm, _, _⟩
  · omega
  obtain ⟨y0, hy0⟩ : ∃ y, L[0]? = some y := ⟨_, List.getElem?_eq_getElem (by omega)⟩
  have z0 : w1.cell? ⟨g, 0, none⟩ = some (.int .i64 y0) := (hown.cellAt 0 (by omega)).trans (by simp [hy0])
  obtain ⟨q0, q1, q2, q3⟩ := boxcells4 (lay := Below.refl _ _) x1
  have f0 := free_at (j := 0) x1
  have f1 := free_at (j := 1) x1
  have f2 := free_at (j := 2) x1
  have f3 := free_at (j := 3) x1
  have hglt : g < w1.heap.size := (hown.lt g rfl).2
  have hne : g ≠ w.heap.size := by omega
  have HL := Lib.hid hL
  have HO := Lib.hid hown
  have har := ar_le kind
  clear hy0 hL hown hh x0 x1 hc1 hg1 hfr0
  by_cases a1 : 1 < ar kind
  · obtain ⟨y1, hy1⟩ : ∃ y, L[1]? = some y := ⟨_, List.getElem?_eq_getElem (by rw [HL.out]; omega)⟩
    have z1 : w1.cell? ⟨g, 1, none⟩ = some (.int .i64 y1) := (HO.out.cellAt 1 (by omega)).trans (by simp [hy1])
    clear hy1
    by_cases a2 : 2 < ar kind
    · obtain ⟨y2, hy2⟩ : ∃ y, L[2]? = some y := ⟨_, List.getElem?_eq_getElem (by rw [HL.out]; omega)⟩
      have z2 : w1.cell? ⟨g, 2, none⟩ = some (.int .i64 y2) := (HO.out.cellAt 2 (by omega)).trans (by simp [hy2])
      clear hy2
      go_wp2_with (go_at_call 47; refine (Arity_spec _ _).mono ?_; rintro e w' ⟨rfl, rfl⟩)
      exact bodyPost_ret (v := .agg #[.int .i64 kind, .int .i64 y0, .int .i64 y1, .int .i64 y2]) (by simp [results, Tryd.results79, go_sem, s1, q0, q1, q2, q3]) rfl ⟨_, _, _, rfl, (Fr.cur (w := w) (by repeat (first | assumption | (with_reducible refine Fr.alloc ?_ _) | (with_reducible refine Fr.set ?_ hp (by first | omega | (simp; done) | (simp; omega)) _)))), (Fr.gr (by repeat (first | assumption | (with_reducible refine Fr.alloc ?_ _) | (with_reducible refine Fr.set ?_ hp (by first | omega | (simp; done) | (simp; omega)) _))))⟩
    · go_wp2_with (go_at_call 47; refine (Arity_spec _ _).mono ?_; rintro e w' ⟨rfl, rfl⟩)
      exact bodyPost_ret (v := .agg #[.int .i64 kind, .int .i64 y0, .int .i64 y1, .int .i64 0]) (by simp [results, Tryd.results79, go_sem, s1, q0, q1, q2, q3]) rfl ⟨_, _, _, rfl, (Fr.cur (w := w) (by repeat (first | assumption | (with_reducible refine Fr.alloc ?_ _) | (with_reducible refine Fr.set ?_ hp (by first | omega | (simp; done) | (simp; omega)) _)))), (Fr.gr (by repeat (first | assumption | (with_reducible refine Fr.alloc ?_ _) | (with_reducible refine Fr.set ?_ hp (by first | omega | (simp; done) | (simp; omega)) _))))⟩
  · go_wp2_with (go_at_call 47; refine (Arity_spec _ _).mono ?_; rintro e w' ⟨rfl, rfl⟩)
    exact bodyPost_ret (v := .agg #[.int .i64 kind, .int .i64 y0, .int .i64 0, .int .i64 0]) (by simp [results, Tryd.results79, go_sem, s1, q0, q1, q2, q3]) rfl ⟨_, _, _, rfl, (Fr.cur (w := w) (by repeat (first | assumption | (with_reducible refine Fr.alloc ?_ _) | (with_reducible refine Fr.set ?_ hp (by first | omega | (simp; done) | (simp; omega)) _)))), (Fr.gr (by repeat (first | assumption | (with_reducible refine Fr.alloc ?_ _) | (with_reducible refine Fr.set ?_ hp (by first | omega | (simp; done) | (simp; omega)) _))))⟩
set_option maxRecDepth 100000 in
set_option maxHeartbeats 2000000 in
theorem l9GateN_1 (w : World) (p : Nat) (hcur : CurAt w p) : Calls Tryd.prog 72 #[.pointer (some ⟨p, 0, none⟩), .int .i64 1] w (DGn 1 w p) := by
  have hp := hcur.lt
  go_enter Tryd.func72, Tryd.ntmps72
  go_wp2_with fail
  obtain ⟨w0, hw0⟩ : ∃ w0, w0 = (w.alloc (.cells #[.int .i64 0, .int .i64 0, .int .i64 0, .int .i64 0] 92)).alloc (.cells #[.int .i64 0, .int .i64 8, .int .i64 11, .int .i64 12, .int .i64 12] 3) := ⟨_, rfl⟩
  rw [← hw0]
  have x0 : w0.heap[w.heap.size]? = some (.cells #[.int .i64 0, .int .i64 0, .int .i64 0, .int .i64 0] 92 (0, 0)) := by rw [hw0]; exact boxed2_0 _ _ _
  have hfr0 : Fr w p w0 := by rw [hw0]; exact ((Fr.start hcur).alloc _).alloc _
  have s0 : w.heap.size < w0.heap.size := by rw [hw0]; simp; omega
  clear hw0
  refine (l1Below_any 8 11 w0 p hfr0.cur (by omega) (by omega) (by omega)).mono ?_
  rintro e w1 ⟨x, hx0, hx1, rfl, hc1, hg1⟩
  have x1 := box_call x0 hg1 (by omega)
  have hfr1 := hfr0.call hc1 hg1
  have s1 : w.heap.size < w1.heap.size := by have := hg1.size; omega
  have X1 := Lib.hid x1
  clear x0 x1 hc1 hg1 hfr0
  go_wp2_with fail
  refine (l1Once_any 2 w1 p hfr1.cur (by omega) (by omega)).mono ?_
  rintro e w2 ⟨b, rfl, hc2, hg2⟩
  have x2 := box_call X1.out hg2 (by omega)
  have hfr2 := hfr1.call hc2 hg2
  have s2 : w.heap.size < w2.heap.size := by have := hg2.size; omega
  have X2 := Lib.hid x2
  clear X1 x2 hc2 hg2 hfr1
  cases b
  · by_cases hA : 1 < ar (1 + x)
    · go_wp2_with (go_at_call 47; refine (Arity_spec _ _).mono ?_; rintro e w' ⟨rfl, rfl⟩)
      refine (l9On_k (4) 1 w2 p hfr2.cur (by omega) (by omega) (show ar 4 ≤ 1 by decide)).mono ?_
      rintro e w3 ⟨a, b, c, rfl, hc, hg⟩
      have x3 := box_call X2.out hg (by omega)
      have hfr3 := hfr2.call hc hg
      have s3 : w.heap.size < w3.heap.size := by have := hg.size; omega
      obtain ⟨q0, q1, q2, q3⟩ := boxcells4 (lay := Below.refl _ _) x3
      have f0 := free_at (j := 0) x3
      have f1 := free_at (j := 1) x3
      have f2 := free_at (j := 2) x3
      have f3 := free_at (j := 3) x3
      clear X2 x3 hc hg hfr2
      go_wp2_with fail
      exact bodyPost_ret (v := .agg #[.int .i64 (4), .int .i64 a, .int .i64 b, .int .i64 c]) (by simp [results, Tryd.results72, go_sem, q0, q1, q2, q3]) rfl ⟨_, _, _, _, ⟨by omega, by omega, show ar 4 ≤ 1 by decide⟩, rfl, (Fr.cur (w := w) (by repeat (first | assumption | (with_reducible refine Fr.alloc ?_ _) | (with_reducible refine Fr.set ?_ hp (by first | omega | (simp; done) | (simp; omega)) _)))), (Fr.gr (by repeat (first | assumption | (with_reducible refine Fr.alloc ?_ _) | (with_reducible refine Fr.set ?_ hp (by first | omega | (simp; done) | (simp; omega)) _))))⟩
    · go_wp2_with (go_at_call 47; refine (Arity_spec _ _).mono ?_; rintro e w' ⟨rfl, rfl⟩)
      refine (l9On_k (1 + x) 1 w2 p hfr2.cur (by omega) (by omega) (by omega)).mono ?_
      rintro e w3 ⟨a, b, c, rfl, hc, hg⟩
      have x3 := box_call X2.out hg (by omega)
      have hfr3 := hfr2.call hc hg
      have s3 : w.heap.size < w3.heap.size := by have := hg.size; omega
      obtain ⟨q0, q1, q2, q3⟩ := boxcells4 (lay := Below.refl _ _) x3
      have f0 := free_at (j := 0) x3
      have f1 := free_at (j := 1) x3
      have f2 := free_at (j := 2) x3
      have f3 := free_at (j := 3) x3
      clear X2 x3 hc hg hfr2
      go_wp2_with fail
      exact bodyPost_ret (v := .agg #[.int .i64 (1 + x), .int .i64 a, .int .i64 b, .int .i64 c]) (by simp [results, Tryd.results72, go_sem, q0, q1, q2, q3]) rfl ⟨_, _, _, _, ⟨by omega, by omega, by omega⟩, rfl, (Fr.cur (w := w) (by repeat (first | assumption | (with_reducible refine Fr.alloc ?_ _) | (with_reducible refine Fr.set ?_ hp (by first | omega | (simp; done) | (simp; omega)) _)))), (Fr.gr (by repeat (first | assumption | (with_reducible refine Fr.alloc ?_ _) | (with_reducible refine Fr.set ?_ hp (by first | omega | (simp; done) | (simp; omega)) _))))⟩
  · go_wp2_with fail
    obtain ⟨w3, hw3⟩ : ∃ w3, w3 = w2.alloc (.cells #[.int .i64 4, .int .i64 7, .int .i64 5, .int .i64 8, .int .i64 9, .int .i64 9, .int .i64 9, .int .i64 9] 3) := ⟨_, rfl⟩
    rw [← hw3]
    have x3 : w3.heap[w.heap.size]? = some (.cells #[.int .i64 0, .int .i64 0, .int .i64 0, .int .i64 0] 92 (0, 0)) := by rw [hw3]; exact (Below.heap_alloc _ _ _ s2).trans X2.out
    have hfr3 : Fr w p w3 := by rw [hw3]; exact hfr2.alloc _
    have hpk := pickedN (w := w2) (L := [4, 7, 5, 8, 9, 9, 9, 9]) rfl
    have hr3 : Rd w3 1 (some ⟨w2.heap.size, 0, none⟩) 8 (([4, 7, 5, 8, 9, 9, 9, 9] : List Int).map (Value.int .i64)) := by rw [hw3]; exact hpk
    have s3 : w.heap.size < w3.heap.size := by rw [hw3]; simp; omega
    clear hw3 hpk X2
    refine (l1PickInt_any w2.heap.size 8 8 [4, 7, 5, 8, 9, 9, 9, 9] w3 p hfr3.cur rfl (by omega) (by omega) hr3 (by omega)).mono ?_
    rintro e w4 ⟨y, hy, rfl, hc4, hg4⟩
    have hyb := picks8 hy
    clear hy
    have x4 := box_call x3 hg4 (by omega)
    have hfr4 := hfr3.call hc4 hg4
    have s4 : w.heap.size < w4.heap.size := by have := hg4.size; omega
    have X4 := Lib.hid x4
    clear x3 x4 hc4 hg4 hfr3 hr3
    by_cases hA : 1 < ar (y)
    · go_wp2_with (go_at_call 47; refine (Arity_spec _ _).mono ?_; rintro e w' ⟨rfl, rfl⟩)
      refine (l9On_k (4) 1 w4 p hfr4.cur (by omega) (by omega) (show ar 4 ≤ 1 by decide)).mono ?_
      rintro e w5 ⟨a, b, c, rfl, hc, hg⟩
      have x5 := box_call X4.out hg (by omega)
      have hfr5 := hfr4.call hc hg
      have s5 : w.heap.size < w5.heap.size := by have := hg.size; omega
      obtain ⟨q0, q1, q2, q3⟩ := boxcells4 (lay := Below.refl _ _) x5
      have f0 := free_at (j := 0) x5
      have f1 := free_at (j := 1) x5
      have f2 := free_at (j := 2) x5
      have f3 := free_at (j := 3) x5
      clear X4 x5 hc hg hfr4
      go_wp2_with fail
      exact bodyPost_ret (v := .agg #[.int .i64 (4), .int .i64 a, .int .i64 b, .int .i64 c]) (by simp [results, Tryd.results72, go_sem, q0, q1, q2, q3]) rfl ⟨_, _, _, _, ⟨by omega, by omega, show ar 4 ≤ 1 by decide⟩, rfl, (Fr.cur (w := w) (by repeat (first | assumption | (with_reducible refine Fr.alloc ?_ _) | (with_reducible refine Fr.set ?_ hp (by first | omega | (simp; done) | (simp; omega)) _)))), (Fr.gr (by repeat (first | assumption | (with_reducible refine Fr.alloc ?_ _) | (with_reducible refine Fr.set ?_ hp (by first | omega | (simp; done) | (simp; omega)) _))))⟩
    · go_wp2_with (go_at_call 47; refine (Arity_spec _ _).mono ?_; rintro e w' ⟨rfl, rfl⟩)
      refine (l9On_k (y) 1 w4 p hfr4.cur (by omega) (by omega) (by omega)).mono ?_
      rintro e w5 ⟨a, b, c, rfl, hc, hg⟩
      have x5 := box_call X4.out hg (by omega)
      have hfr5 := hfr4.call hc hg
      have s5 : w.heap.size < w5.heap.size := by have := hg.size; omega
      obtain ⟨q0, q1, q2, q3⟩ := boxcells4 (lay := Below.refl _ _) x5
      have f0 := free_at (j := 0) x5
      have f1 := free_at (j := 1) x5
      have f2 := free_at (j := 2) x5
      have f3 := free_at (j := 3) x5
      clear X4 x5 hc hg hfr4
      go_wp2_with fail
      exact bodyPost_ret (v := .agg #[.int .i64 (y), .int .i64 a, .int .i64 b, .int .i64 c]) (by simp [results, Tryd.results72, go_sem, q0, q1, q2, q3]) rfl ⟨_, _, _, _, ⟨by omega, by omega, by omega⟩, rfl, (Fr.cur (w := w) (by repeat (first | assumption | (with_reducible refine Fr.alloc ?_ _) | (with_reducible refine Fr.set ?_ hp (by first | omega | (simp; done) | (simp; omega)) _)))), (Fr.gr (by repeat (first | assumption | (with_reducible refine Fr.alloc ?_ _) | (with_reducible refine Fr.set ?_ hp (by first | omega | (simp; done) | (simp; omega)) _))))⟩
set_option maxRecDepth 100000 in
set_option maxHeartbeats 2000000 in
theorem l9GateN_2 (w : World) (p : Nat) (hcur : CurAt w p) : Calls Tryd.prog 72 #[.pointer (some ⟨p, 0, none⟩), .int .i64 2] w (DGn 2 w p) := by
  have hp := hcur.lt
  go_enter Tryd.func72, Tryd.ntmps72
  go_wp2_with fail
  obtain ⟨w0, hw0⟩ : ∃ w0, w0 = (w.alloc (.cells #[.int .i64 0, .int .i64 0, .int .i64 0, .int .i64 0] 92)).alloc (.cells #[.int .i64 0, .int .i64 8, .int .i64 11, .int .i64 12, .int .i64 12] 3) := ⟨_, rfl⟩
  rw [← hw0]
  have x0 : w0.heap[w.heap.size]? = some (.cells #[.int .i64 0, .int .i64 0, .int .i64 0, .int .i64 0] 92 (0, 0)) := by rw [hw0]; exact boxed2_0 _ _ _
  have hfr0 : Fr w p w0 := by rw [hw0]; exact ((Fr.start hcur).alloc _).alloc _
  have s0 : w.heap.size < w0.heap.size := by rw [hw0]; simp; omega
  clear hw0
  refine (l1Below_any 11 11 w0 p hfr0.cur (by omega) (by omega) (by omega)).mono ?_
  rintro e w1 ⟨x, hx0, hx1, rfl, hc1, hg1⟩
  have x1 := box_call x0 hg1 (by omega)
  have hfr1 := hfr0.call hc1 hg1
  have s1 : w.heap.size < w1.heap.size := by have := hg1.size; omega
  have X1 := Lib.hid x1
  clear x0 x1 hc1 hg1 hfr0
  go_wp2_with fail
  refine (l1Once_any 2 w1 p hfr1.cur (by omega) (by omega)).mono ?_
  rintro e w2 ⟨b, rfl, hc2, hg2⟩
  have x2 := box_call X1.out hg2 (by omega)
  have hfr2 := hfr1.call hc2 hg2
  have s2 : w.heap.size < w2.heap.size := by have := hg2.size; omega
  have X2 := Lib.hid x2
  clear X1 x2 hc2 hg2 hfr1
  cases b
  · by_cases hA : 2 < ar (1 + x)
    · go_wp2_with (go_at_call 47; refine (Arity_spec _ _).mono ?_; rintro e w' ⟨rfl, rfl⟩)
      refine (l9On_k (4) 2 w2 p hfr2.cur (by omega) (by omega) (show ar 4 ≤ 2 by decide)).mono ?_
      rintro e w3 ⟨a, b, c, rfl, hc, hg⟩
      have x3 := box_call X2.out hg (by omega)
      have hfr3 := hfr2.call hc hg
      have s3 : w.heap.size < w3.heap.size := by have := hg.size; omega
      obtain ⟨q0, q1, q2, q3⟩ := boxcells4 (lay := Below.refl _ _) x3
      have f0 := free_at (j := 0) x3
      have f1 := free_at (j := 1) x3
      have f2 := free_at (j := 2) x3
      have f3 := free_at (j := 3) x3
      clear X2 x3 hc hg hfr2
      go_wp2_with fail
      exact bodyPost_ret (v := .agg #[.int .i64 (4), .int .i64 a, .int .i64 b, .int .i64 c]) (by simp [results, Tryd.results72, go_sem, q0, q1, q2, q3]) rfl ⟨_, _, _, _, ⟨by omega, by omega, show ar 4 ≤ 2 by decide⟩, rfl, (Fr.cur (w := w) (by repeat (first | assumption | (with_reducible refine Fr.alloc ?_ _) | (with_reducible refine Fr.set ?_ hp (by first | omega | (simp; done) | (simp; omega)) _)))), (Fr.gr (by repeat (first | assumption | (with_reducible refine Fr.alloc ?_ _) | (with_reducible refine Fr.set ?_ hp (by first | omega | (simp; done) | (simp; omega)) _))))⟩
    · go_wp2_with (go_at_call 47; refine (Arity_spec _ _).mono ?_; rintro e w' ⟨rfl, rfl⟩)
      refine (l9On_k (1 + x) 2 w2 p hfr2.cur (by omega) (by omega) (by omega)).mono ?_
      rintro e w3 ⟨a, b, c, rfl, hc, hg⟩
      have x3 := box_call X2.out hg (by omega)
      have hfr3 := hfr2.call hc hg
      have s3 : w.heap.size < w3.heap.size := by have := hg.size; omega
      obtain ⟨q0, q1, q2, q3⟩ := boxcells4 (lay := Below.refl _ _) x3
      have f0 := free_at (j := 0) x3
      have f1 := free_at (j := 1) x3
      have f2 := free_at (j := 2) x3
      have f3 := free_at (j := 3) x3
      clear X2 x3 hc hg hfr2
      go_wp2_with fail
      exact bodyPost_ret (v := .agg #[.int .i64 (1 + x), .int .i64 a, .int .i64 b, .int .i64 c]) (by simp [results, Tryd.results72, go_sem, q0, q1, q2, q3]) rfl ⟨_, _, _, _, ⟨by omega, by omega, by omega⟩, rfl, (Fr.cur (w := w) (by repeat (first | assumption | (with_reducible refine Fr.alloc ?_ _) | (with_reducible refine Fr.set ?_ hp (by first | omega | (simp; done) | (simp; omega)) _)))), (Fr.gr (by repeat (first | assumption | (with_reducible refine Fr.alloc ?_ _) | (with_reducible refine Fr.set ?_ hp (by first | omega | (simp; done) | (simp; omega)) _))))⟩
  · go_wp2_with fail
    obtain ⟨w3, hw3⟩ : ∃ w3, w3 = w2.alloc (.cells #[.int .i64 4, .int .i64 7, .int .i64 5, .int .i64 8, .int .i64 9, .int .i64 9, .int .i64 9, .int .i64 9] 3) := ⟨_, rfl⟩
    rw [← hw3]
    have x3 : w3.heap[w.heap.size]? = some (.cells #[.int .i64 0, .int .i64 0, .int .i64 0, .int .i64 0] 92 (0, 0)) := by rw [hw3]; exact (Below.heap_alloc _ _ _ s2).trans X2.out
    have hfr3 : Fr w p w3 := by rw [hw3]; exact hfr2.alloc _
    have hpk := pickedN (w := w2) (L := [4, 7, 5, 8, 9, 9, 9, 9]) rfl
    have hr3 : Rd w3 1 (some ⟨w2.heap.size, 0, none⟩) 8 (([4, 7, 5, 8, 9, 9, 9, 9] : List Int).map (Value.int .i64)) := by rw [hw3]; exact hpk
    have s3 : w.heap.size < w3.heap.size := by rw [hw3]; simp; omega
    clear hw3 hpk X2
    refine (l1PickInt_any w2.heap.size 8 8 [4, 7, 5, 8, 9, 9, 9, 9] w3 p hfr3.cur rfl (by omega) (by omega) hr3 (by omega)).mono ?_
    rintro e w4 ⟨y, hy, rfl, hc4, hg4⟩
    have hyb := picks8 hy
    clear hy
    have x4 := box_call x3 hg4 (by omega)
    have hfr4 := hfr3.call hc4 hg4
    have s4 : w.heap.size < w4.heap.size := by have := hg4.size; omega
    have X4 := Lib.hid x4
    clear x3 x4 hc4 hg4 hfr3 hr3
    by_cases hA : 2 < ar (y)
    · go_wp2_with (go_at_call 47; refine (Arity_spec _ _).mono ?_; rintro e w' ⟨rfl, rfl⟩)
      refine (l9On_k (4) 2 w4 p hfr4.cur (by omega) (by omega) (show ar 4 ≤ 2 by decide)).mono ?_
      rintro e w5 ⟨a, b, c, rfl, hc, hg⟩
      have x5 := box_call X4.out hg (by omega)
      have hfr5 := hfr4.call hc hg
      have s5 : w.heap.size < w5.heap.size := by have := hg.size; omega
      obtain ⟨q0, q1, q2, q3⟩ := boxcells4 (lay := Below.refl _ _) x5
      have f0 := free_at (j := 0) x5
      have f1 := free_at (j := 1) x5
      have f2 := free_at (j := 2) x5
      have f3 := free_at (j := 3) x5
      clear X4 x5 hc hg hfr4
      go_wp2_with fail
      exact bodyPost_ret (v := .agg #[.int .i64 (4), .int .i64 a, .int .i64 b, .int .i64 c]) (by simp [results, Tryd.results72, go_sem, q0, q1, q2, q3]) rfl ⟨_, _, _, _, ⟨by omega, by omega, show ar 4 ≤ 2 by decide⟩, rfl, (Fr.cur (w := w) (by repeat (first | assumption | (with_reducible refine Fr.alloc ?_ _) | (with_reducible refine Fr.set ?_ hp (by first | omega | (simp; done) | (simp; omega)) _)))), (Fr.gr (by repeat (first | assumption | (with_reducible refine Fr.alloc ?_ _) | (with_reducible refine Fr.set ?_ hp (by first | omega | (simp; done) | (simp; omega)) _))))⟩
    · go_wp2_with (go_at_call 47; refine (Arity_spec _ _).mono ?_; rintro e w' ⟨rfl, rfl⟩)
      refine (l9On_k (y) 2 w4 p hfr4.cur (by omega) (by omega) (by omega)).mono ?_
      rintro e w5 ⟨a, b, c, rfl, hc, hg⟩
      have x5 := box_call X4.out hg (by omega)
      have hfr5 := hfr4.call hc hg
      have s5 : w.heap.size < w5.heap.size := by have := hg.size; omega
      obtain ⟨q0, q1, q2, q3⟩ := boxcells4 (lay := Below.refl _ _) x5
      have f0 := free_at (j := 0) x5
      have f1 := free_at (j := 1) x5
      have f2 := free_at (j := 2) x5
      have f3 := free_at (j := 3) x5
      clear X4 x5 hc hg hfr4
      go_wp2_with fail
      exact bodyPost_ret (v := .agg #[.int .i64 (y), .int .i64 a, .int .i64 b, .int .i64 c]) (by simp [results, Tryd.results72, go_sem, q0, q1, q2, q3]) rfl ⟨_, _, _, _, ⟨by omega, by omega, by omega⟩, rfl, (Fr.cur (w := w) (by repeat (first | assumption | (with_reducible refine Fr.alloc ?_ _) | (with_reducible refine Fr.set ?_ hp (by first | omega | (simp; done) | (simp; omega)) _)))), (Fr.gr (by repeat (first | assumption | (with_reducible refine Fr.alloc ?_ _) | (with_reducible refine Fr.set ?_ hp (by first | omega | (simp; done) | (simp; omega)) _))))⟩
set_option maxRecDepth 100000 in
set_option maxHeartbeats 2000000 in
theorem l9GateN_3 (w : World) (p : Nat) (hcur : CurAt w p) : Calls Tryd.prog 72 #[.pointer (some ⟨p, 0, none⟩), .int .i64 3] w (DGn 3 w p) := by
  have hp := hcur.lt
  go_enter Tryd.func72, Tryd.ntmps72
  go_wp2_with fail
  obtain ⟨w0, hw0⟩ : ∃ w0, w0 = (w.alloc (.cells #[.int .i64 0, .int .i64 0, .int .i64 0, .int .i64 0] 92)).alloc (.cells #[.int .i64 0, .int .i64 8, .int .i64 11, .int .i64 12, .int .i64 12] 3) := ⟨_, rfl⟩
  rw [← hw0]
  have x0 : w0.heap[w.heap.size]? = some (.cells #[.int .i64 0, .int .i64 0, .int .i64 0, .int .i64 0] 92 (0, 0)) := by rw [hw0]; exact boxed2_0 _ _ _
  have hfr0 : Fr w p w0 := by rw [hw0]; exact ((Fr.start hcur).alloc _).alloc _
  have s0 : w.heap.size < w0.heap.size := by rw [hw0]; simp; omega
  clear hw0
  refine (l1Below_any 12 11 w0 p hfr0.cur (by omega) (by omega) (by omega)).mono ?_
  rintro e w1 ⟨x, hx0, hx1, rfl, hc1, hg1⟩
  have x1 := box_call x0 hg1 (by omega)
  have hfr1 := hfr0.call hc1 hg1
  have s1 : w.heap.size < w1.heap.size := by have := hg1.size; omega
  have X1 := Lib.hid x1
  clear x0 x1 hc1 hg1 hfr0
  go_wp2_with fail
  refine (l1Once_any 2 w1 p hfr1.cur (by omega) (by omega)).mono ?_
  rintro e w2 ⟨b, rfl, hc2, hg2⟩
  have x2 := box_call X1.out hg2 (by omega)
  have hfr2 := hfr1.call hc2 hg2
  have s2 : w.heap.size < w2.heap.size := by have := hg2.size; omega
  have X2 := Lib.hid x2
  clear X1 x2 hc2 hg2 hfr1
  cases b
  · by_cases hA : 3 < ar (1 + x)
    · go_wp2_with (go_at_call 47; refine (Arity_spec _ _).mono ?_; rintro e w' ⟨rfl, rfl⟩)
      refine (l9On_k (4) 3 w2 p hfr2.cur (by omega) (by omega) (show ar 4 ≤ 3 by decide)).mono ?_
      rintro e w3 ⟨a, b, c, rfl, hc, hg⟩
      have x3 := box_call X2.out hg (by omega)
      have hfr3 := hfr2.call hc hg
      have s3 : w.heap.size < w3.heap.size := by have := hg.size; omega
      obtain ⟨q0, q1, q2, q3⟩ := boxcells4 (lay := Below.refl _ _) x3
      have f0 := free_at (j := 0) x3
      have f1 := free_at (j := 1) x3
      have f2 := free_at (j := 2) x3
      have f3 := free_at (j := 3) x3
      clear X2 x3 hc hg hfr2
      go_wp2_with fail
      exact bodyPost_ret (v := .agg #[.int .i64 (4), .int .i64 a, .int .i64 b, .int .i64 c]) (by simp [results, Tryd.results72, go_sem, q0, q1, q2, q3]) rfl ⟨_, _, _, _, ⟨by omega, by omega, show ar 4 ≤ 3 by decide⟩, rfl, (Fr.cur (w := w) (by repeat (first | assumption | (with_reducible refine Fr.alloc ?_ _) | (with_reducible refine Fr.set ?_ hp (by first | omega | (simp; done) | (simp; omega)) _)))), (Fr.gr (by repeat (first | assumption | (with_reducible refine Fr.alloc ?_ _) | (with_reducible refine Fr.set ?_ hp (by first | omega | (simp; done) | (simp; omega)) _))))⟩
    · go_wp2_with (go_at_call 47; refine (Arity_spec _ _).mono ?_; rintro e w' ⟨rfl, rfl⟩)
      refine (l9On_k (1 + x) 3 w2 p hfr2.cur (by omega) (by omega) (by omega)).mono ?_
      rintro e w3 ⟨a, b, c, rfl, hc, hg⟩
      have x3 := box_call X2.out hg (by omega)
      have hfr3 := hfr2.call hc hg
      have s3 : w.heap.size < w3.heap.size := by have := hg.size; omega
      obtain ⟨q0, q1, q2, q3⟩ := boxcells4 (lay := Below.refl _ _) x3
      have f0 := free_at (j := 0) x3
      have f1 := free_at (j := 1) x3
      have f2 := free_at (j := 2) x3
      have f3 := free_at (j := 3) x3
      clear X2 x3 hc hg hfr2
      go_wp2_with fail
      exact bodyPost_ret (v := .agg #[.int .i64 (1 + x), .int .i64 a, .int .i64 b, .int .i64 c]) (by simp [results, Tryd.results72, go_sem, q0, q1, q2, q3]) rfl ⟨_, _, _, _, ⟨by omega, by omega, by omega⟩, rfl, (Fr.cur (w := w) (by repeat (first | assumption | (with_reducible refine Fr.alloc ?_ _) | (with_reducible refine Fr.set ?_ hp (by first | omega | (simp; done) | (simp; omega)) _)))), (Fr.gr (by repeat (first | assumption | (with_reducible refine Fr.alloc ?_ _) | (with_reducible refine Fr.set ?_ hp (by first | omega | (simp; done) | (simp; omega)) _))))⟩
  · go_wp2_with fail
    obtain ⟨w3, hw3⟩ : ∃ w3, w3 = w2.alloc (.cells #[.int .i64 4, .int .i64 7, .int .i64 5, .int .i64 8, .int .i64 9, .int .i64 9, .int .i64 9, .int .i64 9] 3) := ⟨_, rfl⟩
    rw [← hw3]
    have x3 : w3.heap[w.heap.size]? = some (.cells #[.int .i64 0, .int .i64 0, .int .i64 0, .int .i64 0] 92 (0, 0)) := by rw [hw3]; exact (Below.heap_alloc _ _ _ s2).trans X2.out
    have hfr3 : Fr w p w3 := by rw [hw3]; exact hfr2.alloc _
    have hpk := pickedN (w := w2) (L := [4, 7, 5, 8, 9, 9, 9, 9]) rfl
    have hr3 : Rd w3 1 (some ⟨w2.heap.size, 0, none⟩) 8 (([4, 7, 5, 8, 9, 9, 9, 9] : List Int).map (Value.int .i64)) := by rw [hw3]; exact hpk
    have s3 : w.heap.size < w3.heap.size := by rw [hw3]; simp; omega
    clear hw3 hpk X2
    refine (l1PickInt_any w2.heap.size 8 8 [4, 7, 5, 8, 9, 9, 9, 9] w3 p hfr3.cur rfl (by omega) (by omega) hr3 (by omega)).mono ?_
    rintro e w4 ⟨y, hy, rfl, hc4, hg4⟩
    have hyb := picks8 hy
    clear hy
    have x4 := box_call x3 hg4 (by omega)
    have hfr4 := hfr3.call hc4 hg4
    have s4 : w.heap.size < w4.heap.size := by have := hg4.size; omega
    have X4 := Lib.hid x4
    clear x3 x4 hc4 hg4 hfr3 hr3
    by_cases hA : 3 < ar (y)
    · go_wp2_with (go_at_call 47; refine (Arity_spec _ _).mono ?_; rintro e w' ⟨rfl, rfl⟩)
      refine (l9On_k (4) 3 w4 p hfr4.cur (by omega) (by omega) (show ar 4 ≤ 3 by decide)).mono ?_
      rintro e w5 ⟨a, b, c, rfl, hc, hg⟩
      have x5 := box_call X4.out hg (by omega)
      have hfr5 := hfr4.call hc hg
      have s5 : w.heap.size < w5.heap.size := by have := hg.size; omega
      obtain ⟨q0, q1, q2, q3⟩ := boxcells4 (lay := Below.refl _ _) x5
      have f0 := free_at (j := 0) x5
      have f1 := free_at (j := 1) x5
      have f2 := free_at (j := 2) x5
      have f3 := free_at (j := 3) x5
      clear X4 x5 hc hg hfr4
      go_wp2_with fail
      exact bodyPost_ret (v := .agg #[.int .i64 (4), .int .i64 a, .int .i64 b, .int .i64 c]) (by simp [results, Tryd.results72, go_sem, q0, q1, q2, q3]) rfl ⟨_, _, _, _, ⟨by omega, by omega, show ar 4 ≤ 3 by decide⟩, rfl, (Fr.cur (w := w) (by repeat (first | assumption | (with_reducible refine Fr.alloc ?_ _) | (with_reducible refine Fr.set ?_ hp (by first | omega | (simp; done) | (simp; omega)) _)))), (Fr.gr (by repeat (first | assumption | (with_reducible refine Fr.alloc ?_ _) | (with_reducible refine Fr.set ?_ hp (by first | omega | (simp; done) | (simp; omega)) _))))⟩
    · go_wp2_with (go_at_call 47; refine (Arity_spec _ _).mono ?_; rintro e w' ⟨rfl, rfl⟩)
      refine (l9On_k (y) 3 w4 p hfr4.cur (by omega) (by omega) (by omega)).mono ?_
      rintro e w5 ⟨a, b, c, rfl, hc, hg⟩
      have x5 := box_call X4.out hg (by omega)
      have hfr5 := hfr4.call hc hg
      have s5 : w.heap.size < w5.heap.size := by have := hg.size; omega
      obtain ⟨q0, q1, q2, q3⟩ := boxcells4 (lay := Below.refl _ _) x5
      have f0 := free_at (j := 0) x5
      have f1 := free_at (j := 1) x5
      have f2 := free_at (j := 2) x5
      have f3 := free_at (j := 3) x5
      clear X4 x5 hc hg hfr4
      go_wp2_with fail
      exact bodyPost_ret (v := .agg #[.int .i64 (y), .int .i64 a, .int .i64 b, .int .i64 c]) (by simp [results, Tryd.results72, go_sem, q0, q1, q2, q3]) rfl ⟨_, _, _, _, ⟨by omega, by omega, by omega⟩, rfl, (Fr.cur (w := w) (by repeat (first | assumption | (with_reducible refine Fr.alloc ?_ _) | (with_reducible refine Fr.set ?_ hp (by first | omega | (simp; done) | (simp; omega)) _)))), (Fr.gr (by repeat (first | assumption | (with_reducible refine Fr.alloc ?_ _) | (with_reducible refine Fr.set ?_ hp (by first | omega | (simp; done) | (simp; omega)) _))))⟩
set_option maxRecDepth 100000 in
set_option maxHeartbeats 2000000 in
theorem l9GateN_4 (w : World) (p : Nat) (hcur : CurAt w p) : Calls Tryd.prog 72 #[.pointer (some ⟨p, 0, none⟩), .int .i64 4] w (DGn 4 w p) := by
  have hp := hcur.lt
  go_enter Tryd.func72, Tryd.ntmps72
  go_wp2_with fail
  obtain ⟨w0, hw0⟩ : ∃ w0, w0 = (w.alloc (.cells #[.int .i64 0, .int .i64 0, .int .i64 0, .int .i64 0] 92)).alloc (.cells #[.int .i64 0, .int .i64 8, .int .i64 11, .int .i64 12, .int .i64 12] 3) := ⟨_, rfl⟩
  rw [← hw0]
  have x0 : w0.heap[w.heap.size]? = some (.cells #[.int .i64 0, .int .i64 0, .int .i64 0, .int .i64 0] 92 (0, 0)) := by rw [hw0]; exact boxed2_0 _ _ _
  have hfr0 : Fr w p w0 := by rw [hw0]; exact ((Fr.start hcur).alloc _).alloc _
  have s0 : w.heap.size < w0.heap.size := by rw [hw0]; simp; omega
  clear hw0
  refine (l1Below_any 12 11 w0 p hfr0.cur (by omega) (by omega) (by omega)).mono ?_
  rintro e w1 ⟨x, hx0, hx1, rfl, hc1, hg1⟩
  have x1 := box_call x0 hg1 (by omega)
  have hfr1 := hfr0.call hc1 hg1
  have s1 : w.heap.size < w1.heap.size := by have := hg1.size; omega
  have X1 := Lib.hid x1
  clear x0 x1 hc1 hg1 hfr0
  go_wp2_with fail
  refine (l1Once_any 2 w1 p hfr1.cur (by omega) (by omega)).mono ?_
  rintro e w2 ⟨b, rfl, hc2, hg2⟩
  have x2 := box_call X1.out hg2 (by omega)
  have hfr2 := hfr1.call hc2 hg2
  have s2 : w.heap.size < w2.heap.size := by have := hg2.size; omega
  have X2 := Lib.hid x2
  clear X1 x2 hc2 hg2 hfr1
  cases b
  · by_cases hA : 4 < ar (1 + x)
    · go_wp2_with (go_at_call 47; refine (Arity_spec _ _).mono ?_; rintro e w' ⟨rfl, rfl⟩)
      refine (l9On_k (4) 4 w2 p hfr2.cur (by omega) (by omega) (show ar 4 ≤ 4 by decide)).mono ?_
      rintro e w3 ⟨a, b, c, rfl, hc, hg⟩
      have x3 := box_call X2.out hg (by omega)
      have hfr3 := hfr2.call hc hg
      have s3 : w.heap.size < w3.heap.size := by have := hg.size; omega
      obtain ⟨q0, q1, q2, q3⟩ := boxcells4 (lay := Below.refl _ _) x3
      have f0 := free_at (j := 0) x3
      have f1 := free_at (j := 1) x3
      have f2 := free_at (j := 2) x3
      have f3 := free_at (j := 3) x3
      clear X2 x3 hc hg hfr2
      go_wp2_with fail
      exact bodyPost_ret (v := .agg #[.int .i64 (4), .int .i64 a, .int .i64 b, .int .i64 c]) (by simp [results, Tryd.results72, go_sem, q0, q1, q2, q3]) rfl ⟨_, _, _, _, ⟨by omega, by omega, show ar 4 ≤ 4 by decide⟩, rfl, (Fr.cur (w := w) (by repeat (first | assumption | (with_reducible refine Fr.alloc ?_ _) | (with_reducible refine Fr.set ?_ hp (by first | omega | (simp; done) | (simp; omega)) _)))), (Fr.gr (by repeat (first | assumption | (with_reducible refine Fr.alloc ?_ _) | (with_reducible refine Fr.set ?_ hp (by first | omega | (simp; done) | (simp; omega)) _))))⟩
    · go_wp2_with (go_at_call 47; refine (Arity_spec _ _).mono ?_; rintro e w' ⟨rfl, rfl⟩)
      refine (l9On_k (1 + x) 4 w2 p hfr2.cur (by omega) (by omega) (by omega)).mono ?_
      rintro e w3 ⟨a, b, c, rfl, hc, hg⟩
      have x3 := box_call X2.out hg (by omega)
      have hfr3 := hfr2.call hc hg
      have s3 : w.heap.size < w3.heap.size := by have := hg.size; omega
      obtain ⟨q0, q1, q2, q3⟩ := boxcells4 (lay := Below.refl _ _) x3
      have f0 := free_at (j := 0) x3
      have f1 := free_at (j := 1) x3
      have f2 := free_at (j := 2) x3
      have f3 := free_at (j := 3) x3
      clear X2 x3 hc hg hfr2
      go_wp2_with fail
      exact bodyPost_ret (v := .agg #[.int .i64 (1 + x), .int .i64 a, .int .i64 b, .int .i64 c]) (by simp [results, Tryd.results72, go_sem, q0, q1, q2, q3]) rfl ⟨_, _, _, _, ⟨by omega, by omega, by omega⟩, rfl, (Fr.cur (w := w) (by repeat (first | assumption | (with_reducible refine Fr.alloc ?_ _) | (with_reducible refine Fr.set ?_ hp (by first | omega | (simp; done) | (simp; omega)) _)))), (Fr.gr (by repeat (first | assumption | (with_reducible refine Fr.alloc ?_ _) | (with_reducible refine Fr.set ?_ hp (by first | omega | (simp; done) | (simp; omega)) _))))⟩
  · go_wp2_with fail
    obtain ⟨w3, hw3⟩ : ∃ w3, w3 = w2.alloc (.cells #[.int .i64 4, .int .i64 7, .int .i64 5, .int .i64 8, .int .i64 9, .int .i64 9, .int .i64 9, .int .i64 9] 3) := ⟨_, rfl⟩
    rw [← hw3]
    have x3 : w3.heap[w.heap.size]? = some (.cells #[.int .i64 0, .int .i64 0, .int .i64 0, .int .i64 0] 92 (0, 0)) := by rw [hw3]; exact (Below.heap_alloc _ _ _ s2).trans X2.out
    have hfr3 : Fr w p w3 := by rw [hw3]; exact hfr2.alloc _
    have hpk := pickedN (w := w2) (L := [4, 7, 5, 8, 9, 9, 9, 9]) rfl
    have hr3 : Rd w3 1 (some ⟨w2.heap.size, 0, none⟩) 8 (([4, 7, 5, 8, 9, 9, 9, 9] : List Int).map (Value.int .i64)) := by rw [hw3]; exact hpk
    have s3 : w.heap.size < w3.heap.size := by rw [hw3]; simp; omega
    clear hw3 hpk X2
    refine (l1PickInt_any w2.heap.size 8 8 [4, 7, 5, 8, 9, 9, 9, 9] w3 p hfr3.cur rfl (by omega) (by omega) hr3 (by omega)).mono ?_
    rintro e w4 ⟨y, hy, rfl, hc4, hg4⟩
    have hyb := picks8 hy
    clear hy
    have x4 := box_call x3 hg4 (by omega)
    have hfr4 := hfr3.call hc4 hg4
    have s4 : w.heap.size < w4.heap.size := by have := hg4.size; omega
    have X4 := Lib.hid x4
    clear x3 x4 hc4 hg4 hfr3 hr3
    by_cases hA : 4 < ar (y)
    · go_wp2_with (go_at_call 47; refine (Arity_spec _ _).mono ?_; rintro e w' ⟨rfl, rfl⟩)
      refine (l9On_k (4) 4 w4 p hfr4.cur (by omega) (by omega) (show ar 4 ≤ 4 by decide)).mono ?_
      rintro e w5 ⟨a, b, c, rfl, hc, hg⟩
      have x5 := box_call X4.out hg (by omega)
      have hfr5 := hfr4.call hc hg
      have s5 : w.heap.size < w5.heap.size := by have := hg.size; omega
      obtain ⟨q0, q1, q2, q3⟩ := boxcells4 (lay := Below.refl _ _) x5
      have f0 := free_at (j := 0) x5
      have f1 := free_at (j := 1) x5
      have f2 := free_at (j := 2) x5
      have f3 := free_at (j := 3) x5
      clear X4 x5 hc hg hfr4
      go_wp2_with fail
      exact bodyPost_ret (v := .agg #[.int .i64 (4), .int .i64 a, .int .i64 b, .int .i64 c]) (by simp [results, Tryd.results72, go_sem, q0, q1, q2, q3]) rfl ⟨_, _, _, _, ⟨by omega, by omega, show ar 4 ≤ 4 by decide⟩, rfl, (Fr.cur (w := w) (by repeat (first | assumption | (with_reducible refine Fr.alloc ?_ _) | (with_reducible refine Fr.set ?_ hp (by first | omega | (simp; done) | (simp; omega)) _)))), (Fr.gr (by repeat (first | assumption | (with_reducible refine Fr.alloc ?_ _) | (with_reducible refine Fr.set ?_ hp (by first | omega | (simp; done) | (simp; omega)) _))))⟩
    · go_wp2_with (go_at_call 47; refine (Arity_spec _ _).mono ?_; rintro e w' ⟨rfl, rfl⟩)
      refine (l9On_k (y) 4 w4 p hfr4.cur (by omega) (by omega) (by omega)).mono ?_
      rintro e w5 ⟨a, b, c, rfl, hc, hg⟩
      have x5 := box_call X4.out hg (by omega)
      have hfr5 := hfr4.call hc hg
      have s5 : w.heap.size < w5.heap.size := by have := hg.size; omega
      obtain ⟨q0, q1, q2, q3⟩ := boxcells4 (lay := Below.refl _ _) x5
      have f0 := free_at (j := 0) x5
      have f1 := free_at (j := 1) x5
      have f2 := free_at (j := 2) x5
      have f3 := free_at (j := 3) x5
      clear X4 x5 hc hg hfr4
      go_wp2_with fail
      exact bodyPost_ret (v := .agg #[.int .i64 (y), .int .i64 a, .int .i64 b, .int .i64 c]) (by simp [results, Tryd.results72, go_sem, q0, q1, q2, q3]) rfl ⟨_, _, _, _, ⟨by omega, by omega, by omega⟩, rfl, (Fr.cur (w := w) (by repeat (first | assumption | (with_reducible refine Fr.alloc ?_ _) | (with_reducible refine Fr.set ?_ hp (by first | omega | (simp; done) | (simp; omega)) _)))), (Fr.gr (by repeat (first | assumption | (with_reducible refine Fr.alloc ?_ _) | (with_reducible refine Fr.set ?_ hp (by first | omega | (simp; done) | (simp; omega)) _))))⟩
theorem l9GateN_any (n : Nat) (w : World) (p : Nat) (hcur : CurAt w p) (h1 : 1 ≤ n) (h4 : n ≤ 4) : Calls Tryd.prog 72 #[.pointer (some ⟨p, 0, none⟩), .int .i64 n] w (DGn n w p) := by
  have h : n = 1 ∨ n = 2 ∨ n = 3 ∨ n = 4 := by omega
  rcases h with rfl | rfl | rfl | rfl
  · exact l9GateN_1 w p hcur
  · exact l9GateN_2 w p hcur
  · exact l9GateN_3 w p hcur
  · exact l9GateN_4 w p hcur
end Go.Proofs.YtbamjfbfipkioaaDoor
