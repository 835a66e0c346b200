/- When a routine is valid: the program's function and the reference's compute the same. -/
import Derived.Test.YtbffpehajkgjeaaRoutine
namespace Go.Proofs.Ytbffpehajkgjeaa
open Go.RowKit
set_option linter.unusedVariables false
def okO (N B K : Int) (o : Opt) : Bool := validOp o N B && (!decide (K < o.cond) && !(o.k == 2 && o.bit != K))
def vst (N B : Int) (s : Option Int) (o : Opt) : Option Int := match s with
  | none => none
  | some K => if okO N B K o = true then some (K + if o.k = 2 then 1 else 0) else none
def vrun (N B : Int) (l : List Opt) : Option Int := l.foldl (vst N B) (some 0)
def validRt (N I B : Int) (l : List Opt) : Bool := inB N 1 4 && (inB I 1 N && (inB B 0 3 && (decide (l.length ≤ 120) && vrun N B l == some B)))
theorem validRt_in {N I B : Int} {l : List Opt} (e1 : inB N 1 4 = true) (e2 : inB I 1 N = true) (e3 : inB B 0 3 = true) (h : l.length ≤ 120) : validRt N I B l = (vrun N B l == some B) := by
  unfold validRt; rw [e1, e2, e3]; simp [h]
theorem vrun_good {N B K : Int} {l : List Opt} {t : Nat} {o : Opt} (h : vrun N B (l.take t) = some K) (ho : l[t]? = some o) (hk : okO N B K o = true) : vrun N B (l.take (t + 1)) = some (K + if o.k = 2 then 1 else 0) := by
  rw [List.take_add_one, ho]
  unfold vrun at h ⊢
  rw [List.foldl_append, h]
  simp [vst, hk]
theorem vst_none (N B : Int) (l : List Opt) : l.foldl (vst N B) none = none := by
  induction l with
  | nil => rfl
  | cons x l ih => exact ih
theorem vrun_bad {N B K : Int} {l : List Opt} {t : Nat} {o : Opt} (h : vrun N B (l.take t) = some K) (ho : l[t]? = some o) (hk : okO N B K o = false) : vrun N B l = none := by
  have hlt := (List.getElem?_eq_some_iff.1 ho).1
  have e : l = l.take t ++ o :: l.drop (t + 1) := by
    have h1 := List.drop_eq_getElem_cons hlt
    have h2 : l[t] = o := by have := (List.getElem?_eq_some_iff.1 ho).2; exact this
    rw [h2] at h1
    rw [← h1, List.take_append_drop]
  unfold vrun at h ⊢
  rw [e, List.foldl_append, h, List.foldl_cons]
  have : vst N B (some K) o = none := by simp [vst, hk]
  rw [this]
  exact vst_none N B _
theorem o2_of {o : Opt} (h : (o.k == 2) = true) : o.k = 2 := by simpa using h
theorem o2_not {o : Opt} (h : (o.k == 2) = false) : ¬ o.k = 2 := by simpa using h
set_option maxRecDepth 100000 in
set_option maxHeartbeats 4000000 in
theorem IsValidRoutine_spec (N I B : Int) (A : Option Addr) (n c : Nat) (l : List Opt) (w : World) (h : Rd w 8 A n (l.flatMap ocells)) (hl : l.length = n) (hn : n ≤ 1099511627776) :
    Calls Try.prog 14 #[.agg #[.int .i64 N, .int .i64 I, .int .i64 B, .slice A n c]] w fun e w' => e = .returned (.bool (validRt N I B l)) ∧ Below w.heap.size w w' ∧ w.heap.size ≤ w'.heap.size := by
  have b0 : Below w.heap.size w (w.alloc (.cells #[.int .i64 N, .int .i64 I, .int .i64 B, .slice A n c] 29)) := (by repeat (first | exact Below.refl _ _ | assumption | (refine Below.trans ?_ (Below.mono (by assumption) (by first | omega | (simp; done) | (simp; omega)))) | (with_reducible refine Below.drew ?_) | (with_reducible refine Below.alloc ?_ (by first | omega | (simp; done) | (simp; omega)) _) | (with_reducible refine Below.setCell ?_ (by first | omega | (simp; done) | (simp; omega)) _)))
  have H := Lib.hid (h.below b0)
  have HL := Lib.hid hl
  clear h hl b0
  cases e1 : inB N 1 4
  · have HF := Lib.hid (show validRt N I B l = false by simp [validRt, e1])
    go_enter Try.func14, Try.ntmps14
    go_wp2_with (go_at_call 64; refine (l1In_any _ _ _ _).mono ?_; rintro e w' ⟨rfl, rfl⟩)
    go_ret
    exact ⟨by rw [HF.out]; rfl, (by repeat (first | exact Below.refl _ _ | assumption | (refine Below.trans ?_ (Below.mono (by assumption) (by first | omega | (simp; done) | (simp; omega)))) | (with_reducible refine Below.drew ?_) | (with_reducible refine Below.alloc ?_ (by first | omega | (simp; done) | (simp; omega)) _) | (with_reducible refine Below.setCell ?_ (by first | omega | (simp; done) | (simp; omega)) _))), (by first | omega | (simp; done) | (simp; omega))⟩
  cases e2 : inB I 1 N
  · have HF := Lib.hid (show validRt N I B l = false by simp [validRt, e2])
    go_enter Try.func14, Try.ntmps14
    go_wp2_with (go_at_call 64; refine (l1In_any _ _ _ _).mono ?_; rintro e w' ⟨rfl, rfl⟩)
    go_ret
    exact ⟨by rw [HF.out]; rfl, (by repeat (first | exact Below.refl _ _ | assumption | (refine Below.trans ?_ (Below.mono (by assumption) (by first | omega | (simp; done) | (simp; omega)))) | (with_reducible refine Below.drew ?_) | (with_reducible refine Below.alloc ?_ (by first | omega | (simp; done) | (simp; omega)) _) | (with_reducible refine Below.setCell ?_ (by first | omega | (simp; done) | (simp; omega)) _))), (by first | omega | (simp; done) | (simp; omega))⟩
  cases e3 : inB B 0 3
  · have HF := Lib.hid (show validRt N I B l = false by simp [validRt, e3])
    go_enter Try.func14, Try.ntmps14
    go_wp2_with (go_at_call 64; refine (l1In_any _ _ _ _).mono ?_; rintro e w' ⟨rfl, rfl⟩)
    go_ret
    exact ⟨by rw [HF.out]; rfl, (by repeat (first | exact Below.refl _ _ | assumption | (refine Below.trans ?_ (Below.mono (by assumption) (by first | omega | (simp; done) | (simp; omega)))) | (with_reducible refine Below.drew ?_) | (with_reducible refine Below.alloc ?_ (by first | omega | (simp; done) | (simp; omega)) _) | (with_reducible refine Below.setCell ?_ (by first | omega | (simp; done) | (simp; omega)) _))), (by first | omega | (simp; done) | (simp; omega))⟩
  by_cases hle : n ≤ 120
  case neg =>
    have HF := Lib.hid (show validRt N I B l = false by have := HL.out; simp [validRt]; omega)
    have hgt : 120 < n := by omega
    clear hle
    go_enter Try.func14, Try.ntmps14
    go_wp2_with (go_at_call 64; refine (l1In_any _ _ _ _).mono ?_; rintro e w' ⟨rfl, rfl⟩)
    go_ret
    exact ⟨by rw [HF.out]; rfl, (by repeat (first | exact Below.refl _ _ | assumption | (refine Below.trans ?_ (Below.mono (by assumption) (by first | omega | (simp; done) | (simp; omega)))) | (with_reducible refine Below.drew ?_) | (with_reducible refine Below.alloc ?_ (by first | omega | (simp; done) | (simp; omega)) _) | (with_reducible refine Below.setCell ?_ (by first | omega | (simp; done) | (simp; omega)) _))), (by first | omega | (simp; done) | (simp; omega))⟩
  have HF := Lib.hid (validRt_in e1 e2 e3 (show l.length ≤ 120 by rw [HL.out]; exact hle))
  have hBB := inB_iff.1 e3
  go_enter Try.func14, Try.ntmps14
  go_wp2_with (go_at_call 64; refine (l1In_any _ _ _ _).mono ?_; rintro e w' ⟨rfl, rfl⟩)
  obtain ⟨w0, hw0⟩ : ∃ w0, w0 = w.alloc (.cells #[.int .i64 N, .int .i64 I, .int .i64 B, .slice A n c] 29) := ⟨_, rfl⟩
  rw [← hw0] at H ⊢
  have x0 : Hid (w0.heap[w.heap.size]? = some (.cells #[.int .i64 N, .int .i64 I, .int .i64 B, .slice A n c] 29 (0, 0))) := by rw [hw0]; exact boxed1_0 _ _
  have b0 : Below w.heap.size w w0 := by rw [hw0]; exact (by repeat (first | exact Below.refl _ _ | assumption | (refine Below.trans ?_ (Below.mono (by assumption) (by first | omega | (simp; done) | (simp; omega)))) | (with_reducible refine Below.drew ?_) | (with_reducible refine Below.alloc ?_ (by first | omega | (simp; done) | (simp; omega)) _) | (with_reducible refine Below.setCell ?_ (by first | omega | (simp; done) | (simp; omega)) _)))
  have S0 := Lib.hid (show w.heap.size + 1 = w0.heap.size by rw [hw0]; simp)
  clear hw0
  go_loopw [3, 4] (fun m i wr => ∃ (t : Nat) (K : Int), t ≤ n ∧ i = .int .i64 t ∧ m = .int .i64 K ∧ 0 ≤ K ∧ K ≤ t ∧ vrun N B (l.take t) = some K ∧ Below w0.heap.size w0 wr) (fun _ i _ => n - (intOf i).toNat)
  case atStart => exact ⟨0, 0, Nat.zero_le _, rfl, rfl, by omega, by omega, rfl, Below.refl _ _⟩
  case round =>
    obtain ⟨t, K, ht, rfl, rfl, hK0, hK1, hcg, hb⟩ := hrel
    have hbs := hb.size
    have hlt0 : w.heap.size < wr.heap.size := by have := S0.out; omega
    have HC := Lib.hid hcg
    clear hcg
    obtain ⟨p0, p1, p2, p3⟩ := boxcells4 (lay := hb) x0.out
    by_cases hlt : t < n
    · have htl : t < l.length := by rw [HL.out]; exact hlt
      obtain ⟨o, ho⟩ : ∃ o, l[t]? = some o := ⟨_, List.getElem?_eq_getElem htl⟩
      obtain ⟨b, off, rfl, hbl, hc⟩ := H.out.2 (by omega)
      have q0 : wr.cell? ⟨b, off + t * 8, none⟩ = some (.int .i64 o.k) := (hb.cell (by have := hbl; simp; omega)).trans (hc (t * 8 + 0) _ (flat_at ocells_len l t o 0 ho (by decide)))
      have q1 : wr.cell? ⟨b, off + t * 8 + 1, none⟩ = some (.int .i64 o.g.k) := (hb.cell (by have := hbl; simp; omega)).trans (hc (t * 8 + 1) _ (flat_at ocells_len l t o 1 ho (by decide)))
      have q2 : wr.cell? ⟨b, off + t * 8 + 2, none⟩ = some (.int .i64 o.g.a) := (hb.cell (by have := hbl; simp; omega)).trans (hc (t * 8 + 2) _ (flat_at ocells_len l t o 2 ho (by decide)))
      have q3 : wr.cell? ⟨b, off + t * 8 + 3, none⟩ = some (.int .i64 o.g.b) := (hb.cell (by have := hbl; simp; omega)).trans (hc (t * 8 + 3) _ (flat_at ocells_len l t o 3 ho (by decide)))
      have q4 : wr.cell? ⟨b, off + t * 8 + 4, none⟩ = some (.int .i64 o.g.c) := (hb.cell (by have := hbl; simp; omega)).trans (hc (t * 8 + 4) _ (flat_at ocells_len l t o 4 ho (by decide)))
      have q5 : wr.cell? ⟨b, off + t * 8 + 5, none⟩ = some (.int .i64 o.q) := (hb.cell (by have := hbl; simp; omega)).trans (hc (t * 8 + 5) _ (flat_at ocells_len l t o 5 ho (by decide)))
      have q6 : wr.cell? ⟨b, off + t * 8 + 6, none⟩ = some (.int .i64 o.bit) := (hb.cell (by have := hbl; simp; omega)).trans (hc (t * 8 + 6) _ (flat_at ocells_len l t o 6 ho (by decide)))
      have q7 : wr.cell? ⟨b, off + t * 8 + 7, none⟩ = some (.int .i64 o.cond) := (hb.cell (by have := hbl; simp; omega)).trans (hc (t * 8 + 7) _ (flat_at ocells_len l t o 7 ho (by decide)))
      have HO := Lib.hid ho
      clear hc ho htl
      go_wp2_with fail
      obtain ⟨w1, hw1⟩ : ∃ w1, w1 = wr.alloc (.cells #[.int .i64 o.k, .int .i64 o.g.k, .int .i64 o.g.a, .int .i64 o.g.b, .int .i64 o.g.c, .int .i64 o.q, .int .i64 o.bit, .int .i64 o.cond] 56) := ⟨_, rfl⟩
      rw [← hw1]
      have x1 : Hid (w1.heap[wr.heap.size]? = some (.cells #[.int .i64 o.k, .int .i64 o.g.k, .int .i64 o.g.a, .int .i64 o.g.b, .int .i64 o.g.c, .int .i64 o.q, .int .i64 o.bit, .int .i64 o.cond] 56 (0, 0))) := by rw [hw1]; exact boxed1_0 _ _
      have b1 : Below w0.heap.size w0 w1 := by rw [hw1]; exact hb.alloc hbs _
      have s1 : wr.heap.size + 1 = w1.heap.size := by rw [hw1]; simp
      have S1 := Lib.hid s1
      clear hw1 s1 p0 p1 p2 p3 q0 q1 q2 q3 q4 q5 q6 q7
      refine (IsValidOp_spec _ _ _ _ _ _ _ _ _ _ _).mono ?_
      rintro e w2 ⟨rfl, b2, s2⟩
      have hs1 := S1.out
      have b12 : Below w0.heap.size w0 w2 := b1.trans (b2.mono (by omega))
      have hle2 : wr.heap.size < w2.heap.size := by omega
      clear hs1
      obtain ⟨p0, p1, p2, p3⟩ := boxcells4 (lay := b12) x0.out
      obtain ⟨z0, z1, z2, z3, z4, z5, z6, z7⟩ := boxcells8 (lay := b2) x1.out
      cases hv : validOp ⟨o.k, ⟨o.g.k, o.g.a, o.g.b, o.g.c⟩, o.q, o.bit, o.cond⟩ N B
      · have HE := Lib.hid (vrun_bad HC.out HO.out (by simp only [okO]; rw [show validOp o N B = false from hv]; rfl))
        go_wp2_with fail
        all_goals go_ret
        all_goals exact ⟨by rw [HF.out, HE.out]; rfl, b0.trans (b12.mono (by have := S0.out; omega)), by have := S0.out; have := S1.out; omega⟩
      by_cases hco : K < o.cond
      · have HE := Lib.hid (vrun_bad HC.out HO.out (by simp [okO, hco]))
        go_wp2_with fail
        all_goals go_ret
        all_goals exact ⟨by rw [HF.out, HE.out]; rfl, b0.trans (b12.mono (by have := S0.out; omega)), by have := S0.out; have := S1.out; omega⟩
      have hco2 : o.cond ≤ K := by omega
      have HCO := Lib.hid hco
      clear hco
      cases hk : (o.k == 2)
      · have HS := Lib.hid (vrun_good HC.out HO.out (by simp only [okO]; rw [show validOp o N B = true from hv, hk]; simp [HCO.out]))
        have HK := Lib.hid hk
        go_wp2_with fail
        go_roundw
        case rel => exact ⟨t + 1, K, by omega, by go_num, rfl, by omega, by omega, by rw [HS.out]; exact congrArg some (by simp [o2_not HK.out]), b12⟩
        case measure => simp [intOf]; omega
      cases hbt : (o.bit == K)
      · have hbt' : (o.bit != K) = true := by simp only [bne, hbt]; rfl
        have HE := Lib.hid (vrun_bad HC.out HO.out (by simp only [okO]; rw [hk, hbt']; simp))
        go_wp2_with fail
        all_goals go_ret
        all_goals exact ⟨by rw [HF.out, HE.out]; rfl, b0.trans (b12.mono (by have := S0.out; omega)), by have := S0.out; have := S1.out; omega⟩
      · have hbt' : (o.bit != K) = false := by simp only [bne, hbt]; rfl
        have HS := Lib.hid (vrun_good HC.out HO.out (by simp only [okO]; rw [show validOp o N B = true from hv, hk, hbt']; simp [HCO.out]))
        have HK := Lib.hid hk
        go_wp2_with fail
        go_roundw
        case rel => exact ⟨t + 1, K + 1, by omega, by go_num, rfl, by omega, by omega, by rw [HS.out]; exact congrArg some (by simp [o2_of HK.out]), b12⟩
        case measure => simp [intOf]; omega
    · obtain rfl : t = n := by omega
      have HT : Hid (vrun N B l = some K) := by
        have h := HC.out
        rw [List.take_of_length_le (by rw [HL.out]; exact Nat.le_refl _)] at h
        exact h
      go_wp2_with fail
      go_ret
      exact ⟨by rw [HF.out, HT.out]; rfl, b0.trans (hb.mono (by have := S0.out; omega)), by have := hb.size; have := S0.out; omega⟩
set_option maxRecDepth 100000 in
set_option maxHeartbeats 4000000 in
theorem IsValidRoutine_impl (N I B : Int) (A : Option Addr) (n c : Nat) (l : List Opt) (w : World) (h : Rd w 8 A n (l.flatMap ocells)) (hl : l.length = n) (hn : n ≤ 1099511627776) :
    Calls Try.prog 16 #[.agg #[.int .i64 N, .int .i64 I, .int .i64 B, .slice A n c]] w fun e w' => e = .returned (.bool (validRt N I B l)) ∧ Below w.heap.size w w' ∧ w.heap.size ≤ w'.heap.size := by
  have b0 : Below w.heap.size w (w.alloc (.cells #[.int .i64 N, .int .i64 I, .int .i64 B, .slice A n c] 29)) := (by repeat (first | exact Below.refl _ _ | assumption | (refine Below.trans ?_ (Below.mono (by assumption) (by first | omega | (simp; done) | (simp; omega)))) | (with_reducible refine Below.drew ?_) | (with_reducible refine Below.alloc ?_ (by first | omega | (simp; done) | (simp; omega)) _) | (with_reducible refine Below.setCell ?_ (by first | omega | (simp; done) | (simp; omega)) _)))
  have H := Lib.hid (h.below b0)
  have HL := Lib.hid hl
  clear h hl b0
  cases e1 : inB N 1 4
  · have HF := Lib.hid (show validRt N I B l = false by simp [validRt, e1])
    go_enter Try.func16, Try.ntmps16
    go_wp2_with (go_at_call 66; refine (in_any _ _ _ _).mono ?_; rintro e w' ⟨rfl, rfl⟩)
    go_ret
    exact ⟨by rw [HF.out]; rfl, (by repeat (first | exact Below.refl _ _ | assumption | (refine Below.trans ?_ (Below.mono (by assumption) (by first | omega | (simp; done) | (simp; omega)))) | (with_reducible refine Below.drew ?_) | (with_reducible refine Below.alloc ?_ (by first | omega | (simp; done) | (simp; omega)) _) | (with_reducible refine Below.setCell ?_ (by first | omega | (simp; done) | (simp; omega)) _))), (by first | omega | (simp; done) | (simp; omega))⟩
  cases e2 : inB I 1 N
  · have HF := Lib.hid (show validRt N I B l = false by simp [validRt, e2])
    go_enter Try.func16, Try.ntmps16
    go_wp2_with (go_at_call 66; refine (in_any _ _ _ _).mono ?_; rintro e w' ⟨rfl, rfl⟩)
    go_ret
    exact ⟨by rw [HF.out]; rfl, (by repeat (first | exact Below.refl _ _ | assumption | (refine Below.trans ?_ (Below.mono (by assumption) (by first | omega | (simp; done) | (simp; omega)))) | (with_reducible refine Below.drew ?_) | (with_reducible refine Below.alloc ?_ (by first | omega | (simp; done) | (simp; omega)) _) | (with_reducible refine Below.setCell ?_ (by first | omega | (simp; done) | (simp; omega)) _))), (by first | omega | (simp; done) | (simp; omega))⟩
  cases e3 : inB B 0 3
  · have HF := Lib.hid (show validRt N I B l = false by simp [validRt, e3])
    go_enter Try.func16, Try.ntmps16
    go_wp2_with (go_at_call 66; refine (in_any _ _ _ _).mono ?_; rintro e w' ⟨rfl, rfl⟩)
    go_ret
    exact ⟨by rw [HF.out]; rfl, (by repeat (first | exact Below.refl _ _ | assumption | (refine Below.trans ?_ (Below.mono (by assumption) (by first | omega | (simp; done) | (simp; omega)))) | (with_reducible refine Below.drew ?_) | (with_reducible refine Below.alloc ?_ (by first | omega | (simp; done) | (simp; omega)) _) | (with_reducible refine Below.setCell ?_ (by first | omega | (simp; done) | (simp; omega)) _))), (by first | omega | (simp; done) | (simp; omega))⟩
  by_cases hle : n ≤ 120
  case neg =>
    have HF := Lib.hid (show validRt N I B l = false by have := HL.out; simp [validRt]; omega)
    have hgt : 120 < n := by omega
    clear hle
    go_enter Try.func16, Try.ntmps16
    go_wp2_with (go_at_call 66; refine (in_any _ _ _ _).mono ?_; rintro e w' ⟨rfl, rfl⟩)
    go_ret
    exact ⟨by rw [HF.out]; rfl, (by repeat (first | exact Below.refl _ _ | assumption | (refine Below.trans ?_ (Below.mono (by assumption) (by first | omega | (simp; done) | (simp; omega)))) | (with_reducible refine Below.drew ?_) | (with_reducible refine Below.alloc ?_ (by first | omega | (simp; done) | (simp; omega)) _) | (with_reducible refine Below.setCell ?_ (by first | omega | (simp; done) | (simp; omega)) _))), (by first | omega | (simp; done) | (simp; omega))⟩
  have HF := Lib.hid (validRt_in e1 e2 e3 (show l.length ≤ 120 by rw [HL.out]; exact hle))
  have hBB := inB_iff.1 e3
  go_enter Try.func16, Try.ntmps16
  go_wp2_with (go_at_call 66; refine (in_any _ _ _ _).mono ?_; rintro e w' ⟨rfl, rfl⟩)
  obtain ⟨w0, hw0⟩ : ∃ w0, w0 = w.alloc (.cells #[.int .i64 N, .int .i64 I, .int .i64 B, .slice A n c] 29) := ⟨_, rfl⟩
  rw [← hw0] at H ⊢
  have x0 : Hid (w0.heap[w.heap.size]? = some (.cells #[.int .i64 N, .int .i64 I, .int .i64 B, .slice A n c] 29 (0, 0))) := by rw [hw0]; exact boxed1_0 _ _
  have b0 : Below w.heap.size w w0 := by rw [hw0]; exact (by repeat (first | exact Below.refl _ _ | assumption | (refine Below.trans ?_ (Below.mono (by assumption) (by first | omega | (simp; done) | (simp; omega)))) | (with_reducible refine Below.drew ?_) | (with_reducible refine Below.alloc ?_ (by first | omega | (simp; done) | (simp; omega)) _) | (with_reducible refine Below.setCell ?_ (by first | omega | (simp; done) | (simp; omega)) _)))
  have S0 := Lib.hid (show w.heap.size + 1 = w0.heap.size by rw [hw0]; simp)
  clear hw0
  go_loopw [3, 33] (fun m i wr => ∃ (t : Nat) (K : Int), t ≤ n ∧ i = .int .i64 t ∧ m = .int .i64 K ∧ 0 ≤ K ∧ K ≤ t ∧ vrun N B (l.take t) = some K ∧ Below w0.heap.size w0 wr) (fun _ i _ => n - (intOf i).toNat)
  case atStart => exact ⟨0, 0, Nat.zero_le _, rfl, rfl, by omega, by omega, rfl, Below.refl _ _⟩
  case round =>
    obtain ⟨t, K, ht, rfl, rfl, hK0, hK1, hcg, hb⟩ := hrel
    have hbs := hb.size
    have hlt0 : w.heap.size < wr.heap.size := by have := S0.out; omega
    have HC := Lib.hid hcg
    clear hcg
    obtain ⟨p0, p1, p2, p3⟩ := boxcells4 (lay := hb) x0.out
    by_cases hlt : t < n
    · have htl : t < l.length := by rw [HL.out]; exact hlt
      obtain ⟨o, ho⟩ : ∃ o, l[t]? = some o := ⟨_, List.getElem?_eq_getElem htl⟩
      obtain ⟨b, off, rfl, hbl, hc⟩ := H.out.2 (by omega)
      have q0 : wr.cell? ⟨b, off + t * 8, none⟩ = some (.int .i64 o.k) := (hb.cell (by have := hbl; simp; omega)).trans (hc (t * 8 + 0) _ (flat_at ocells_len l t o 0 ho (by decide)))
      have q1 : wr.cell? ⟨b, off + t * 8 + 1, none⟩ = some (.int .i64 o.g.k) := (hb.cell (by have := hbl; simp; omega)).trans (hc (t * 8 + 1) _ (flat_at ocells_len l t o 1 ho (by decide)))
      have q2 : wr.cell? ⟨b, off + t * 8 + 2, none⟩ = some (.int .i64 o.g.a) := (hb.cell (by have := hbl; simp; omega)).trans (hc (t * 8 + 2) _ (flat_at ocells_len l t o 2 ho (by decide)))
      have q3 : wr.cell? ⟨b, off + t * 8 + 3, none⟩ = some (.int .i64 o.g.b) := (hb.cell (by have := hbl; simp; omega)).trans (hc (t * 8 + 3) _ (flat_at ocells_len l t o 3 ho (by decide)))
      have q4 : wr.cell? ⟨b, off + t * 8 + 4, none⟩ = some (.int .i64 o.g.c) := (hb.cell (by have := hbl; simp; omega)).trans (hc (t * 8 + 4) _ (flat_at ocells_len l t o 4 ho (by decide)))
      have q5 : wr.cell? ⟨b, off + t * 8 + 5, none⟩ = some (.int .i64 o.q) := (hb.cell (by have := hbl; simp; omega)).trans (hc (t * 8 + 5) _ (flat_at ocells_len l t o 5 ho (by decide)))
      have q6 : wr.cell? ⟨b, off + t * 8 + 6, none⟩ = some (.int .i64 o.bit) := (hb.cell (by have := hbl; simp; omega)).trans (hc (t * 8 + 6) _ (flat_at ocells_len l t o 6 ho (by decide)))
      have q7 : wr.cell? ⟨b, off + t * 8 + 7, none⟩ = some (.int .i64 o.cond) := (hb.cell (by have := hbl; simp; omega)).trans (hc (t * 8 + 7) _ (flat_at ocells_len l t o 7 ho (by decide)))
      have HO := Lib.hid ho
      clear hc ho htl
      go_wp2_with fail
      obtain ⟨w1, hw1⟩ : ∃ w1, w1 = wr.alloc (.cells #[.int .i64 o.k, .int .i64 o.g.k, .int .i64 o.g.a, .int .i64 o.g.b, .int .i64 o.g.c, .int .i64 o.q, .int .i64 o.bit, .int .i64 o.cond] 56) := ⟨_, rfl⟩
      rw [← hw1]
      have x1 : Hid (w1.heap[wr.heap.size]? = some (.cells #[.int .i64 o.k, .int .i64 o.g.k, .int .i64 o.g.a, .int .i64 o.g.b, .int .i64 o.g.c, .int .i64 o.q, .int .i64 o.bit, .int .i64 o.cond] 56 (0, 0))) := by rw [hw1]; exact boxed1_0 _ _
      have b1 : Below w0.heap.size w0 w1 := by rw [hw1]; exact hb.alloc hbs _
      have s1 : wr.heap.size + 1 = w1.heap.size := by rw [hw1]; simp
      have S1 := Lib.hid s1
      clear hw1 s1 p0 p1 p2 p3 q0 q1 q2 q3 q4 q5 q6 q7
      refine (IsValidOp_impl _ _ _ _ _ _ _ _ _ _ _).mono ?_
      rintro e w2 ⟨rfl, b2, s2⟩
      have hs1 := S1.out
      have b12 : Below w0.heap.size w0 w2 := b1.trans (b2.mono (by omega))
      have hle2 : wr.heap.size < w2.heap.size := by omega
      clear hs1
      obtain ⟨p0, p1, p2, p3⟩ := boxcells4 (lay := b12) x0.out
      obtain ⟨z0, z1, z2, z3, z4, z5, z6, z7⟩ := boxcells8 (lay := b2) x1.out
      cases hv : validOp ⟨o.k, ⟨o.g.k, o.g.a, o.g.b, o.g.c⟩, o.q, o.bit, o.cond⟩ N B
      · have HE := Lib.hid (vrun_bad HC.out HO.out (by simp only [okO]; rw [show validOp o N B = false from hv]; rfl))
        go_wp2_with fail
        all_goals go_ret
        all_goals exact ⟨by rw [HF.out, HE.out]; rfl, b0.trans (b12.mono (by have := S0.out; omega)), by have := S0.out; have := S1.out; omega⟩
      by_cases hco : K < o.cond
      · have HE := Lib.hid (vrun_bad HC.out HO.out (by simp [okO, hco]))
        go_wp2_with fail
        all_goals go_ret
        all_goals exact ⟨by rw [HF.out, HE.out]; rfl, b0.trans (b12.mono (by have := S0.out; omega)), by have := S0.out; have := S1.out; omega⟩
      have hco2 : o.cond ≤ K := by omega
      have HCO := Lib.hid hco
      clear hco
      cases hk : (o.k == 2)
      · have HS := Lib.hid (vrun_good HC.out HO.out (by simp only [okO]; rw [show validOp o N B = true from hv, hk]; simp [HCO.out]))
        have HK := Lib.hid hk
        go_wp2_with fail
        go_roundw
        case rel => exact ⟨t + 1, K, by omega, by go_num, rfl, by omega, by omega, by rw [HS.out]; exact congrArg some (by simp [o2_not HK.out]), b12⟩
        case measure => simp [intOf]; omega
      cases hbt : (o.bit == K)
      · have hbt' : (o.bit != K) = true := by simp only [bne, hbt]; rfl
        have HE := Lib.hid (vrun_bad HC.out HO.out (by simp only [okO]; rw [hk, hbt']; simp))
        go_wp2_with fail
        all_goals go_ret
        all_goals exact ⟨by rw [HF.out, HE.out]; rfl, b0.trans (b12.mono (by have := S0.out; omega)), by have := S0.out; have := S1.out; omega⟩
      · have hbt' : (o.bit != K) = false := by simp only [bne, hbt]; rfl
        have HS := Lib.hid (vrun_good HC.out HO.out (by simp only [okO]; rw [show validOp o N B = true from hv, hk, hbt']; simp [HCO.out]))
        have HK := Lib.hid hk
        go_wp2_with fail
        go_roundw
        case rel => exact ⟨t + 1, K + 1, by omega, by go_num, rfl, by omega, by omega, by rw [HS.out]; exact congrArg some (by simp [o2_of HK.out]), b12⟩
        case measure => simp [intOf]; omega
    · obtain rfl : t = n := by omega
      have HT : Hid (vrun N B l = some K) := by
        have h := HC.out
        rw [List.take_of_length_le (by rw [HL.out]; exact Nat.le_refl _)] at h
        exact h
      go_wp2_with fail
      go_ret
      exact ⟨by rw [HF.out, HT.out]; rfl, b0.trans (hb.mono (by have := S0.out; omega)), by have := hb.size; have := S0.out; omega⟩
end Go.Proofs.Ytbffpehajkgjeaa
