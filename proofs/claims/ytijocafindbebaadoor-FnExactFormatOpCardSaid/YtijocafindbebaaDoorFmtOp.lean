/- Operations as text, both sides. -/
import Derived.Test.YtijocafindbebaaDoorFmt
namespace Go.Proofs.YtijocafindbebaaDoor
open Go.RowKit
set_option linter.unusedVariables false
def mTx (q b : Int) : ByteArray := ⟨#[109, 101, 97, 115, 117, 114, 101, 32]⟩ ++ dig q ++ ⟨#[32]⟩ ++ dig b
def cTx (q : Int) : ByteArray := ⟨#[99, 108, 101, 97, 110, 32]⟩ ++ dig q
def iTx (c : Int) (gt : ByteArray) : ByteArray := ⟨#[105, 102, 32]⟩ ++ dig (c - 1) ++ ⟨#[32]⟩ ++ gt
def opTx (o : Opt) : ByteArray := if validOp o 4 3 = true then (if o.k = 2 then mTx o.q o.bit else if o.k = 3 then cTx o.q else if 0 < o.cond then iTx o.cond (gateTx o.g) else gateTx o.g) else ⟨#[]⟩
theorem validOp_yes {k gk ga gb gc q b c : Int} (h : validOp ⟨k, ⟨gk, ga, gb, gc⟩, q, b, c⟩ 4 3 = true) : (k = 1 ∧ 0 ≤ c ∧ c ≤ 3) ∨ (k = 2 ∧ 0 ≤ q ∧ q ≤ 3 ∧ 0 ≤ b ∧ b ≤ 3) ∨ (k = 3 ∧ 0 ≤ q ∧ q ≤ 3) := by
  unfold validOp at h
  simp only [Bool.and_eq_true] at h
  obtain ⟨_, _, h⟩ := h
  split at h
  · simp only [Bool.and_eq_true] at h
    have := inB_iff.1 h.2.2.2
    exact .inl ⟨by assumption, by omega, by omega⟩
  · split at h
    · simp only [Bool.and_eq_true] at h
      have h1 := inB_iff.1 h.2.2.1
      have h2 := inB_iff.1 h.2.2.2
      exact .inr (.inl ⟨by assumption, by omega, by omega, by omega, by omega⟩)
    · split at h
      · simp only [Bool.and_eq_true] at h
        have h1 := inB_iff.1 h.2.2.2
        exact .inr (.inr ⟨by assumption, by omega, by omega⟩)
      · exact absurd h (by simp)
theorem gateTx_size (g : Gt) : (gateTx g).size ≤ 100 := by
  unfold gateTx
  split
  · rename_i h
    obtain ⟨hk, _⟩ := validG_yes h
    obtain ⟨n, hn, _, h2⟩ := ar_pos hk
    rw [gTx_size, hn, Int.toNat_natCast]
    have := gstr_size h2
    have h3 : (qsOf g).length = 3 := rfl
    rw [List.length_take, h3]
    omega
  · exact Nat.zero_le _
theorem bdrewF {w w' : World} (h : Below w.drew.heap.size w.drew w') : Below w.heap.size w w' := ⟨h.os, h.tape, h.output, h.size, h.block⟩
set_option maxRecDepth 100000 in
set_option maxHeartbeats 4000000 in
theorem FormatOp_impl_no (k gk ga gb gc q bit cond : Int) (w : World) (hG : GN w) (hv : validOp ⟨k, ⟨gk, ga, gb, gc⟩, q, bit, cond⟩ 4 3 = false) : Calls Tryd.prog 44 #[.agg #[.int .i64 k, .int .i64 gk, .int .i64 ga, .int .i64 gb, .int .i64 gc, .int .i64 q, .int .i64 bit, .int .i64 cond]] w fun e w' => e = .returned (.string (⟨#[]⟩)) ∧ Below w.heap.size w w' ∧ w.heap.size ≤ w'.heap.size := by
  obtain ⟨w0, hw0⟩ : ∃ w0, w0 = w.alloc (.cells #[.int .i64 k, .int .i64 gk, .int .i64 ga, .int .i64 gb, .int .i64 gc, .int .i64 q, .int .i64 bit, .int .i64 cond] 66) := ⟨_, rfl⟩
  have X0 : Hid (w0.heap[w.heap.size]? = some (.cells #[.int .i64 k, .int .i64 gk, .int .i64 ga, .int .i64 gb, .int .i64 gc, .int .i64 q, .int .i64 bit, .int .i64 cond] 66 (0, 0))) := by rw [hw0]; exact boxed1_0 _ _
  have b0 : Below w.heap.size w w0 := by rw [hw0]; exact (by repeat (first | exact Below.refl _ _ | assumption | (refine Below.trans ?_ (Below.mono (by assumption) (by first | omega | (simp; done) | (simp; omega)))) | (with_reducible refine Below.drew ?_) | (with_reducible refine Below.alloc ?_ (by first | omega | (simp; done) | (simp; omega)) _) | (with_reducible refine Below.setCell ?_ (by first | omega | (simp; done) | (simp; omega)) _)))
  have s0 : w.heap.size ≤ w0.heap.size := b0.size
  have z0 : w.heap.size < w0.heap.size := by rw [hw0]; simp
  have B0 := Lib.hid b0
  have HW := Lib.hid hw0
  have HGN := Lib.hid hG
  clear hG
  have HV := Lib.hid (IsValidOp_impl k gk ga gb gc q bit cond 4 3 w0)
  rw [hv] at HV
  clear b0 hw0 hv
  go_enter Tryd.func44, Tryd.ntmps44
  go_wp2_with fail
  rw [← HW.out]
  refine HV.out.mono ?_
  rintro e w1 ⟨rfl, b1, s1⟩
  have B1 := Lib.hid (B0.out.trans (b1.mono s0))
  have S1 : w.heap.size ≤ w1.heap.size := B1.out.size
  go_wp2_with fail
  go_ret
  exact ⟨rfl, B1.out, S1⟩
set_option maxRecDepth 100000 in
set_option maxHeartbeats 4000000 in
theorem FormatOp_impl_k2 (gk ga gb gc q bit cond : Int) (w : World) (hG : GN w) (hv : validOp ⟨2, ⟨gk, ga, gb, gc⟩, q, bit, cond⟩ 4 3 = true) (q1 : 0 ≤ q) (q2 : q ≤ 3) (r1 : 0 ≤ bit) (r2 : bit ≤ 3) : Calls Tryd.prog 44 #[.agg #[.int .i64 2, .int .i64 gk, .int .i64 ga, .int .i64 gb, .int .i64 gc, .int .i64 q, .int .i64 bit, .int .i64 cond]] w fun e w' => e = .returned (.string (mTx q bit)) ∧ Below w.heap.size w w' ∧ w.heap.size ≤ w'.heap.size := by
  obtain ⟨w0, hw0⟩ : ∃ w0, w0 = w.alloc (.cells #[.int .i64 2, .int .i64 gk, .int .i64 ga, .int .i64 gb, .int .i64 gc, .int .i64 q, .int .i64 bit, .int .i64 cond] 66) := ⟨_, rfl⟩
  have X0 : Hid (w0.heap[w.heap.size]? = some (.cells #[.int .i64 2, .int .i64 gk, .int .i64 ga, .int .i64 gb, .int .i64 gc, .int .i64 q, .int .i64 bit, .int .i64 cond] 66 (0, 0))) := by rw [hw0]; exact boxed1_0 _ _
  have b0 : Below w.heap.size w w0 := by rw [hw0]; exact (by repeat (first | exact Below.refl _ _ | assumption | (refine Below.trans ?_ (Below.mono (by assumption) (by first | omega | (simp; done) | (simp; omega)))) | (with_reducible refine Below.drew ?_) | (with_reducible refine Below.alloc ?_ (by first | omega | (simp; done) | (simp; omega)) _) | (with_reducible refine Below.setCell ?_ (by first | omega | (simp; done) | (simp; omega)) _)))
  have s0 : w.heap.size ≤ w0.heap.size := b0.size
  have z0 : w.heap.size < w0.heap.size := by rw [hw0]; simp
  have B0 := Lib.hid b0
  have HW := Lib.hid hw0
  have HGN := Lib.hid hG
  clear hG
  have HV := Lib.hid (IsValidOp_impl 2 gk ga gb gc q bit cond 4 3 w0)
  rw [hv] at HV
  clear b0 hw0 hv
  have e1 : ∀ w : World, (Op.stringOp .add (⟨#[109, 101, 97, 115, 117, 114, 101, 32]⟩) (dig q)).run Tryd.prog w = .ok (.string (⟨#[109, 101, 97, 115, 117, 114, 101, 32]⟩ ++ dig q)) w := fun w => run_string_add_sum w _ _ (by show 8 + 1 ≤ _; omega)
  have e2 : ∀ w : World, (Op.stringOp .add (⟨#[109, 101, 97, 115, 117, 114, 101, 32]⟩ ++ dig q) (⟨#[32]⟩)).run Tryd.prog w = .ok (.string (⟨#[109, 101, 97, 115, 117, 114, 101, 32]⟩ ++ dig q ++ ⟨#[32]⟩)) w := fun w => run_string_add_sum w _ _ (by rw [ByteArray.size_append]; show 8 + 1 + 1 ≤ _; omega)
  have e3 : ∀ w : World, (Op.stringOp .add (⟨#[109, 101, 97, 115, 117, 114, 101, 32]⟩ ++ dig q ++ ⟨#[32]⟩) (dig bit)).run Tryd.prog w = .ok (.string (⟨#[109, 101, 97, 115, 117, 114, 101, 32]⟩ ++ dig q ++ ⟨#[32]⟩ ++ dig bit)) w := fun w => run_string_add_sum w _ _ (by rw [ByteArray.size_append, ByteArray.size_append]; show 8 + 1 + 1 + 1 ≤ _; omega)
  go_enter Tryd.func44, Tryd.ntmps44
  go_wp2_with fail
  rw [← HW.out]
  refine HV.out.mono ?_
  rintro e w1 ⟨rfl, b1, s1⟩
  have B1 := Lib.hid (B0.out.trans (b1.mono s0))
  have S1 : w.heap.size ≤ w1.heap.size := B1.out.size
  obtain ⟨p0, p1, p2, p3, p4, p5, p6, p7⟩ := boxcells8 (lay := b1) X0.out
  go_wp2_with fail
  go_region_held3 (fun W => W.cell? ⟨w.heap.size, 5, none⟩ = some (.int .i64 q) ∧ W.cell? ⟨w.heap.size, 6, none⟩ = some (.int .i64 bit)) (first | exact ⟨p5, p6⟩ | exact ⟨m5, m6⟩ | exact ⟨n5, n6⟩) (first | (go_at_call 87; (with_reducible refine (FormatInt_impl (q) q1 q2 _).mono ?_); rintro e w' ⟨rfl, rfl⟩) | (go_at_call 87; (with_reducible refine (FormatInt_impl (bit) r1 r2 _).mono ?_); rintro e w' ⟨rfl, rfl⟩))
  all_goals (go_wp2_with fail; go_ret; exact ⟨rfl, B1.out.drew, (B1.out.drew).size⟩)
set_option maxRecDepth 100000 in
set_option maxHeartbeats 4000000 in
theorem FormatOp_impl_k3 (gk ga gb gc q bit cond : Int) (w : World) (hG : GN w) (hv : validOp ⟨3, ⟨gk, ga, gb, gc⟩, q, bit, cond⟩ 4 3 = true) (q1 : 0 ≤ q) (q2 : q ≤ 3) : Calls Tryd.prog 44 #[.agg #[.int .i64 3, .int .i64 gk, .int .i64 ga, .int .i64 gb, .int .i64 gc, .int .i64 q, .int .i64 bit, .int .i64 cond]] w fun e w' => e = .returned (.string (cTx q)) ∧ Below w.heap.size w w' ∧ w.heap.size ≤ w'.heap.size := by
  obtain ⟨w0, hw0⟩ : ∃ w0, w0 = w.alloc (.cells #[.int .i64 3, .int .i64 gk, .int .i64 ga, .int .i64 gb, .int .i64 gc, .int .i64 q, .int .i64 bit, .int .i64 cond] 66) := ⟨_, rfl⟩
  have X0 : Hid (w0.heap[w.heap.size]? = some (.cells #[.int .i64 3, .int .i64 gk, .int .i64 ga, .int .i64 gb, .int .i64 gc, .int .i64 q, .int .i64 bit, .int .i64 cond] 66 (0, 0))) := by rw [hw0]; exact boxed1_0 _ _
  have b0 : Below w.heap.size w w0 := by rw [hw0]; exact (by repeat (first | exact Below.refl _ _ | assumption | (refine Below.trans ?_ (Below.mono (by assumption) (by first | omega | (simp; done) | (simp; omega)))) | (with_reducible refine Below.drew ?_) | (with_reducible refine Below.alloc ?_ (by first | omega | (simp; done) | (simp; omega)) _) | (with_reducible refine Below.setCell ?_ (by first | omega | (simp; done) | (simp; omega)) _)))
  have s0 : w.heap.size ≤ w0.heap.size := b0.size
  have z0 : w.heap.size < w0.heap.size := by rw [hw0]; simp
  have B0 := Lib.hid b0
  have HW := Lib.hid hw0
  have HGN := Lib.hid hG
  clear hG
  have HV := Lib.hid (IsValidOp_impl 3 gk ga gb gc q bit cond 4 3 w0)
  rw [hv] at HV
  clear b0 hw0 hv
  have e1 : ∀ w : World, (Op.stringOp .add (⟨#[99, 108, 101, 97, 110, 32]⟩) (dig q)).run Tryd.prog w = .ok (.string (⟨#[99, 108, 101, 97, 110, 32]⟩ ++ dig q)) w := fun w => run_string_add_sum w _ _ (by show 6 + 1 ≤ _; omega)
  go_enter Tryd.func44, Tryd.ntmps44
  go_wp2_with fail
  rw [← HW.out]
  refine HV.out.mono ?_
  rintro e w1 ⟨rfl, b1, s1⟩
  have B1 := Lib.hid (B0.out.trans (b1.mono s0))
  have S1 : w.heap.size ≤ w1.heap.size := B1.out.size
  obtain ⟨p0, p1, p2, p3, p4, p5, p6, p7⟩ := boxcells8 (lay := b1) X0.out
  go_wp2_with fail
  refine (FormatInt_impl (q) q1 q2 _).mono ?_
  rintro e w' ⟨rfl, rfl⟩
  go_wp2_with fail
  go_ret
  exact ⟨rfl, B1.out, S1⟩
set_option maxRecDepth 100000 in
set_option maxHeartbeats 4000000 in
theorem FormatOp_impl_if (gk ga gb gc q bit cond : Int) (w : World) (hG : GN w) (hv : validOp ⟨1, ⟨gk, ga, gb, gc⟩, q, bit, cond⟩ 4 3 = true) (c1 : 0 < cond) (c2 : cond ≤ 3) : Calls Tryd.prog 44 #[.agg #[.int .i64 1, .int .i64 gk, .int .i64 ga, .int .i64 gb, .int .i64 gc, .int .i64 q, .int .i64 bit, .int .i64 cond]] w fun e w' => e = .returned (.string (iTx cond (gateTx ⟨gk, ga, gb, gc⟩))) ∧ Below w.heap.size w w' ∧ w.heap.size ≤ w'.heap.size := by
  obtain ⟨w0, hw0⟩ : ∃ w0, w0 = w.alloc (.cells #[.int .i64 1, .int .i64 gk, .int .i64 ga, .int .i64 gb, .int .i64 gc, .int .i64 q, .int .i64 bit, .int .i64 cond] 66) := ⟨_, rfl⟩
  have X0 : Hid (w0.heap[w.heap.size]? = some (.cells #[.int .i64 1, .int .i64 gk, .int .i64 ga, .int .i64 gb, .int .i64 gc, .int .i64 q, .int .i64 bit, .int .i64 cond] 66 (0, 0))) := by rw [hw0]; exact boxed1_0 _ _
  have b0 : Below w.heap.size w w0 := by rw [hw0]; exact (by repeat (first | exact Below.refl _ _ | assumption | (refine Below.trans ?_ (Below.mono (by assumption) (by first | omega | (simp; done) | (simp; omega)))) | (with_reducible refine Below.drew ?_) | (with_reducible refine Below.alloc ?_ (by first | omega | (simp; done) | (simp; omega)) _) | (with_reducible refine Below.setCell ?_ (by first | omega | (simp; done) | (simp; omega)) _)))
  have s0 : w.heap.size ≤ w0.heap.size := b0.size
  have z0 : w.heap.size < w0.heap.size := by rw [hw0]; simp
  have B0 := Lib.hid b0
  have HW := Lib.hid hw0
  have HGN := Lib.hid hG
  clear hG
  have HV := Lib.hid (IsValidOp_impl 1 gk ga gb gc q bit cond 4 3 w0)
  rw [hv] at HV
  clear b0 hw0 hv
  have HFG := Lib.hid (fun w (h : GN w) => FormatGate_impl gk ga gb gc w h)
  obtain ⟨gt, hgt⟩ : ∃ gt, gt = gateTx ⟨gk, ga, gb, gc⟩ := ⟨_, rfl⟩
  have hgz : gt.size ≤ 100 := by rw [hgt]; exact gateTx_size _
  rw [← hgt] at HFG ⊢
  clear hgt
  have hw1 : IntKind.i64.wrap (cond - 1) = cond - 1 := IntWalk.i64_in _ (by omega)
  have d1 : 0 ≤ cond - 1 := by omega
  have d2 : cond - 1 ≤ 3 := by omega
  have e1 : ∀ w : World, (Op.stringOp .add (⟨#[105, 102, 32]⟩) (dig (cond - 1))).run Tryd.prog w = .ok (.string (⟨#[105, 102, 32]⟩ ++ dig (cond - 1))) w := fun w => run_string_add_sum w _ _ (by show 3 + 1 ≤ _; omega)
  have e2 : ∀ w : World, (Op.stringOp .add (⟨#[105, 102, 32]⟩ ++ dig (cond - 1)) (⟨#[32]⟩)).run Tryd.prog w = .ok (.string (⟨#[105, 102, 32]⟩ ++ dig (cond - 1) ++ ⟨#[32]⟩)) w := fun w => run_string_add_sum w _ _ (by rw [ByteArray.size_append]; show 3 + 1 + 1 ≤ _; omega)
  have e3 : ∀ w : World, (Op.stringOp .add (⟨#[105, 102, 32]⟩ ++ dig (cond - 1) ++ ⟨#[32]⟩) (gt)).run Tryd.prog w = .ok (.string (⟨#[105, 102, 32]⟩ ++ dig (cond - 1) ++ ⟨#[32]⟩ ++ gt)) w := fun w => run_string_add_sum w _ _ (by rw [ByteArray.size_append, ByteArray.size_append]; show 3 + 1 + 1 + gt.size ≤ _; omega)
  go_enter Tryd.func44, Tryd.ntmps44
  go_wp2_with fail
  rw [← HW.out]
  refine HV.out.mono ?_
  rintro e w1 ⟨rfl, b1, s1⟩
  have B1 := Lib.hid (B0.out.trans (b1.mono s0))
  have S1 : w.heap.size ≤ w1.heap.size := B1.out.size
  obtain ⟨p0, p1, p2, p3, p4, p5, p6, p7⟩ := boxcells8 (lay := b1) X0.out
  go_wp2_with fail
  go_region_held3 (fun W => W.cell? ⟨w.heap.size, 1, none⟩ = some (.int .i64 gk) ∧ W.cell? ⟨w.heap.size, 2, none⟩ = some (.int .i64 ga) ∧ W.cell? ⟨w.heap.size, 3, none⟩ = some (.int .i64 gb) ∧ W.cell? ⟨w.heap.size, 4, none⟩ = some (.int .i64 gc) ∧ W.cell? ⟨w.heap.size, 7, none⟩ = some (.int .i64 cond)) (first | exact ⟨p1, p2, p3, p4, p7⟩ | exact ⟨m1, m2, m3, m4, m7⟩ | exact ⟨n1, n2, n3, n4, n7⟩) (first | (go_at_call 87; (with_reducible refine (FormatInt_impl (cond - 1) d1 d2 _).mono ?_); rintro e w' ⟨rfl, rfl⟩) | (go_at_call 88; (with_reducible refine (HFG.out _ ?_).mono ?_); exact HGN.out.below B1.out.drew; rintro e yn ⟨rfl, dn, _⟩; have un := b1.trans ((bdrewF dn).mono s1); obtain ⟨n0, n1, n2, n3, n4, n5, n6, n7⟩ := boxcells8 (lay := un) X0.out))
  all_goals (go_wp2_with fail; go_ret; exact ⟨rfl, B0.out.trans (un.mono s0), (B0.out.trans (un.mono s0)).size⟩)
set_option maxRecDepth 100000 in
set_option maxHeartbeats 4000000 in
theorem FormatOp_impl_pl (gk ga gb gc q bit : Int) (w : World) (hG : GN w) (hv : validOp ⟨1, ⟨gk, ga, gb, gc⟩, q, bit, 0⟩ 4 3 = true) : Calls Tryd.prog 44 #[.agg #[.int .i64 1, .int .i64 gk, .int .i64 ga, .int .i64 gb, .int .i64 gc, .int .i64 q, .int .i64 bit, .int .i64 0]] w fun e w' => e = .returned (.string (gateTx ⟨gk, ga, gb, gc⟩)) ∧ Below w.heap.size w w' ∧ w.heap.size ≤ w'.heap.size := by
  obtain ⟨w0, hw0⟩ : ∃ w0, w0 = w.alloc (.cells #[.int .i64 1, .int .i64 gk, .int .i64 ga, .int .i64 gb, .int .i64 gc, .int .i64 q, .int .i64 bit, .int .i64 0] 66) := ⟨_, rfl⟩
  have X0 : Hid (w0.heap[w.heap.size]? = some (.cells #[.int .i64 1, .int .i64 gk, .int .i64 ga, .int .i64 gb, .int .i64 gc, .int .i64 q, .int .i64 bit, .int .i64 0] 66 (0, 0))) := by rw [hw0]; exact boxed1_0 _ _
  have b0 : Below w.heap.size w w0 := by rw [hw0]; exact (by repeat (first | exact Below.refl _ _ | assumption | (refine Below.trans ?_ (Below.mono (by assumption) (by first | omega | (simp; done) | (simp; omega)))) | (with_reducible refine Below.drew ?_) | (with_reducible refine Below.alloc ?_ (by first | omega | (simp; done) | (simp; omega)) _) | (with_reducible refine Below.setCell ?_ (by first | omega | (simp; done) | (simp; omega)) _)))
  have s0 : w.heap.size ≤ w0.heap.size := b0.size
  have z0 : w.heap.size < w0.heap.size := by rw [hw0]; simp
  have B0 := Lib.hid b0
  have HW := Lib.hid hw0
  have HGN := Lib.hid hG
  clear hG
  have HV := Lib.hid (IsValidOp_impl 1 gk ga gb gc q bit 0 4 3 w0)
  rw [hv] at HV
  clear b0 hw0 hv
  have HFG := Lib.hid (fun w (h : GN w) => FormatGate_impl gk ga gb gc w h)
  obtain ⟨gt, hgt⟩ : ∃ gt, gt = gateTx ⟨gk, ga, gb, gc⟩ := ⟨_, rfl⟩
  have hgz : gt.size ≤ 100 := by rw [hgt]; exact gateTx_size _
  rw [← hgt] at HFG ⊢
  clear hgt
  go_enter Tryd.func44, Tryd.ntmps44
  go_wp2_with fail
  rw [← HW.out]
  refine HV.out.mono ?_
  rintro e w1 ⟨rfl, b1, s1⟩
  have B1 := Lib.hid (B0.out.trans (b1.mono s0))
  have S1 : w.heap.size ≤ w1.heap.size := B1.out.size
  obtain ⟨p0, p1, p2, p3, p4, p5, p6, p7⟩ := boxcells8 (lay := b1) X0.out
  go_wp2_with fail
  refine (HFG.out _ (HGN.out.below B1.out)).mono ?_
  rintro e w2 ⟨rfl, b2, s2⟩
  go_wp2_with fail
  go_ret
  exact ⟨rfl, B1.out.trans (b2.mono S1), by omega⟩
theorem FormatOp_impl (k gk ga gb gc q bit cond : Int) (w : World) (hG : GN w) : Calls Tryd.prog 44 #[.agg #[.int .i64 k, .int .i64 gk, .int .i64 ga, .int .i64 gb, .int .i64 gc, .int .i64 q, .int .i64 bit, .int .i64 cond]] w fun e w' => e = .returned (.string (opTx ⟨k, ⟨gk, ga, gb, gc⟩, q, bit, cond⟩)) ∧ Below w.heap.size w w' ∧ w.heap.size ≤ w'.heap.size := by
  unfold opTx
  cases hv : validOp ⟨k, ⟨gk, ga, gb, gc⟩, q, bit, cond⟩ 4 3
  · rw [if_neg (by simp)]
    exact FormatOp_impl_no k gk ga gb gc q bit cond w hG hv
  · rw [if_pos rfl]
    rcases validOp_yes hv with ⟨rfl, c1, c2⟩ | ⟨rfl, q1, q2, r1, r2⟩ | ⟨rfl, q1, q2⟩
    · rw [if_neg (show ¬ (1 : Int) = 2 by decide), if_neg (show ¬ (1 : Int) = 3 by decide)]
      by_cases hc : 0 < cond
      · rw [if_pos hc]
        exact FormatOp_impl_if gk ga gb gc q bit cond w hG hv hc c2
      · rw [if_neg hc]
        obtain rfl : cond = 0 := by omega
        exact FormatOp_impl_pl gk ga gb gc q bit w hG hv
    · rw [if_pos rfl]
      exact FormatOp_impl_k2 gk ga gb gc q bit cond w hG hv q1 q2 r1 r2
    · rw [if_neg (show ¬ (3 : Int) = 2 by decide), if_pos rfl]
      exact FormatOp_impl_k3 gk ga gb gc q bit cond w hG hv q1 q2
set_option maxRecDepth 100000 in
set_option maxHeartbeats 4000000 in
theorem FormatOp_spec_no (k gk ga gb gc q bit cond : Int) (w : World) (hv : validOp ⟨k, ⟨gk, ga, gb, gc⟩, q, bit, cond⟩ 4 3 = false) : Calls Tryd.prog 42 #[.agg #[.int .i64 k, .int .i64 gk, .int .i64 ga, .int .i64 gb, .int .i64 gc, .int .i64 q, .int .i64 bit, .int .i64 cond]] w fun e w' => e = .returned (.string (⟨#[]⟩)) ∧ Below w.heap.size w w' ∧ w.heap.size ≤ w'.heap.size := by
  obtain ⟨w0, hw0⟩ : ∃ w0, w0 = w.alloc (.cells #[.int .i64 k, .int .i64 gk, .int .i64 ga, .int .i64 gb, .int .i64 gc, .int .i64 q, .int .i64 bit, .int .i64 cond] 66) := ⟨_, rfl⟩
  have X0 : Hid (w0.heap[w.heap.size]? = some (.cells #[.int .i64 k, .int .i64 gk, .int .i64 ga, .int .i64 gb, .int .i64 gc, .int .i64 q, .int .i64 bit, .int .i64 cond] 66 (0, 0))) := by rw [hw0]; exact boxed1_0 _ _
  have b0 : Below w.heap.size w w0 := by rw [hw0]; exact (by repeat (first | exact Below.refl _ _ | assumption | (refine Below.trans ?_ (Below.mono (by assumption) (by first | omega | (simp; done) | (simp; omega)))) | (with_reducible refine Below.drew ?_) | (with_reducible refine Below.alloc ?_ (by first | omega | (simp; done) | (simp; omega)) _) | (with_reducible refine Below.setCell ?_ (by first | omega | (simp; done) | (simp; omega)) _)))
  have s0 : w.heap.size ≤ w0.heap.size := b0.size
  have z0 : w.heap.size < w0.heap.size := by rw [hw0]; simp
  have B0 := Lib.hid b0
  have HW := Lib.hid hw0
  have HV := Lib.hid (IsValidOp_spec k gk ga gb gc q bit cond 4 3 w0)
  rw [hv] at HV
  clear b0 hw0 hv
  go_enter Tryd.func42, Tryd.ntmps42
  go_wp2_with fail
  rw [← HW.out]
  refine HV.out.mono ?_
  rintro e w1 ⟨rfl, b1, s1⟩
  have B1 := Lib.hid (B0.out.trans (b1.mono s0))
  have S1 : w.heap.size ≤ w1.heap.size := B1.out.size
  go_wp2_with fail
  go_ret
  exact ⟨rfl, B1.out, S1⟩
set_option maxRecDepth 100000 in
set_option maxHeartbeats 4000000 in
theorem FormatOp_spec_k2 (gk ga gb gc q bit cond : Int) (w : World) (hv : validOp ⟨2, ⟨gk, ga, gb, gc⟩, q, bit, cond⟩ 4 3 = true) (q1 : 0 ≤ q) (q2 : q ≤ 3) (r1 : 0 ≤ bit) (r2 : bit ≤ 3) : Calls Tryd.prog 42 #[.agg #[.int .i64 2, .int .i64 gk, .int .i64 ga, .int .i64 gb, .int .i64 gc, .int .i64 q, .int .i64 bit, .int .i64 cond]] w fun e w' => e = .returned (.string (mTx q bit)) ∧ Below w.heap.size w w' ∧ w.heap.size ≤ w'.heap.size := by
  obtain ⟨w0, hw0⟩ : ∃ w0, w0 = w.alloc (.cells #[.int .i64 2, .int .i64 gk, .int .i64 ga, .int .i64 gb, .int .i64 gc, .int .i64 q, .int .i64 bit, .int .i64 cond] 66) := ⟨_, rfl⟩
  have X0 : Hid (w0.heap[w.heap.size]? = some (.cells #[.int .i64 2, .int .i64 gk, .int .i64 ga, .int .i64 gb, .int .i64 gc, .int .i64 q, .int .i64 bit, .int .i64 cond] 66 (0, 0))) := by rw [hw0]; exact boxed1_0 _ _
  have b0 : Below w.heap.size w w0 := by rw [hw0]; exact (by repeat (first | exact Below.refl _ _ | assumption | (refine Below.trans ?_ (Below.mono (by assumption) (by first | omega | (simp; done) | (simp; omega)))) | (with_reducible refine Below.drew ?_) | (with_reducible refine Below.alloc ?_ (by first | omega | (simp; done) | (simp; omega)) _) | (with_reducible refine Below.setCell ?_ (by first | omega | (simp; done) | (simp; omega)) _)))
  have s0 : w.heap.size ≤ w0.heap.size := b0.size
  have z0 : w.heap.size < w0.heap.size := by rw [hw0]; simp
  have B0 := Lib.hid b0
  have HW := Lib.hid hw0
  have HV := Lib.hid (IsValidOp_spec 2 gk ga gb gc q bit cond 4 3 w0)
  rw [hv] at HV
  clear b0 hw0 hv
  have e1 : ∀ w : World, (Op.stringOp .add (⟨#[109, 101, 97, 115, 117, 114, 101, 32]⟩) (dig q)).run Tryd.prog w = .ok (.string (⟨#[109, 101, 97, 115, 117, 114, 101, 32]⟩ ++ dig q)) w := fun w => run_string_add_sum w _ _ (by show 8 + 1 ≤ _; omega)
  have e2 : ∀ w : World, (Op.stringOp .add (⟨#[109, 101, 97, 115, 117, 114, 101, 32]⟩ ++ dig q) (⟨#[32]⟩)).run Tryd.prog w = .ok (.string (⟨#[109, 101, 97, 115, 117, 114, 101, 32]⟩ ++ dig q ++ ⟨#[32]⟩)) w := fun w => run_string_add_sum w _ _ (by rw [ByteArray.size_append]; show 8 + 1 + 1 ≤ _; omega)
  have e3 : ∀ w : World, (Op.stringOp .add (⟨#[109, 101, 97, 115, 117, 114, 101, 32]⟩ ++ dig q ++ ⟨#[32]⟩) (dig bit)).run Tryd.prog w = .ok (.string (⟨#[109, 101, 97, 115, 117, 114, 101, 32]⟩ ++ dig q ++ ⟨#[32]⟩ ++ dig bit)) w := fun w => run_string_add_sum w _ _ (by rw [ByteArray.size_append, ByteArray.size_append]; show 8 + 1 + 1 + 1 ≤ _; omega)
  go_enter Tryd.func42, Tryd.ntmps42
  go_wp2_with fail
  rw [← HW.out]
  refine HV.out.mono ?_
  rintro e w1 ⟨rfl, b1, s1⟩
  have B1 := Lib.hid (B0.out.trans (b1.mono s0))
  have S1 : w.heap.size ≤ w1.heap.size := B1.out.size
  obtain ⟨p0, p1, p2, p3, p4, p5, p6, p7⟩ := boxcells8 (lay := b1) X0.out
  go_wp2_with fail
  go_region_held3 (fun W => W.cell? ⟨w.heap.size, 5, none⟩ = some (.int .i64 q) ∧ W.cell? ⟨w.heap.size, 6, none⟩ = some (.int .i64 bit)) (first | exact ⟨p5, p6⟩ | exact ⟨m5, m6⟩ | exact ⟨n5, n6⟩) (first | (go_at_call 64; (with_reducible refine (FormatInt_spec (q) q1 q2 _).mono ?_); rintro e ym ⟨rfl, dm, _⟩; have um := b1.trans ((bdrewF dm).mono s1); obtain ⟨m0, m1, m2, m3, m4, m5, m6, m7⟩ := boxcells8 (lay := um) X0.out) | (go_at_call 64; (with_reducible refine (FormatInt_spec (bit) r1 r2 _).mono ?_); rintro e yn ⟨rfl, dn, _⟩; have un := um.trans (dn.mono um.size); obtain ⟨n0, n1, n2, n3, n4, n5, n6, n7⟩ := boxcells8 (lay := un) X0.out))
  all_goals (go_wp2_with fail; go_ret; exact ⟨rfl, B0.out.trans (un.mono s0), (B0.out.trans (un.mono s0)).size⟩)
set_option maxRecDepth 100000 in
set_option maxHeartbeats 4000000 in
theorem FormatOp_spec_k3 (gk ga gb gc q bit cond : Int) (w : World) (hv : validOp ⟨3, ⟨gk, ga, gb, gc⟩, q, bit, cond⟩ 4 3 = true) (q1 : 0 ≤ q) (q2 : q ≤ 3) : Calls Tryd.prog 42 #[.agg #[.int .i64 3, .int .i64 gk, .int .i64 ga, .int .i64 gb, .int .i64 gc, .int .i64 q, .int .i64 bit, .int .i64 cond]] w fun e w' => e = .returned (.string (cTx q)) ∧ Below w.heap.size w w' ∧ w.heap.size ≤ w'.heap.size := by
  obtain ⟨w0, hw0⟩ : ∃ w0, w0 = w.alloc (.cells #[.int .i64 3, .int .i64 gk, .int .i64 ga, .int .i64 gb, .int .i64 gc, .int .i64 q, .int .i64 bit, .int .i64 cond] 66) := ⟨_, rfl⟩
  have X0 : Hid (w0.heap[w.heap.size]? = some (.cells #[.int .i64 3, .int .i64 gk, .int .i64 ga, .int .i64 gb, .int .i64 gc, .int .i64 q, .int .i64 bit, .int .i64 cond] 66 (0, 0))) := by rw [hw0]; exact boxed1_0 _ _
  have b0 : Below w.heap.size w w0 := by rw [hw0]; exact (by repeat (first | exact Below.refl _ _ | assumption | (refine Below.trans ?_ (Below.mono (by assumption) (by first | omega | (simp; done) | (simp; omega)))) | (with_reducible refine Below.drew ?_) | (with_reducible refine Below.alloc ?_ (by first | omega | (simp; done) | (simp; omega)) _) | (with_reducible refine Below.setCell ?_ (by first | omega | (simp; done) | (simp; omega)) _)))
  have s0 : w.heap.size ≤ w0.heap.size := b0.size
  have z0 : w.heap.size < w0.heap.size := by rw [hw0]; simp
  have B0 := Lib.hid b0
  have HW := Lib.hid hw0
  have HV := Lib.hid (IsValidOp_spec 3 gk ga gb gc q bit cond 4 3 w0)
  rw [hv] at HV
  clear b0 hw0 hv
  have e1 : ∀ w : World, (Op.stringOp .add (⟨#[99, 108, 101, 97, 110, 32]⟩) (dig q)).run Tryd.prog w = .ok (.string (⟨#[99, 108, 101, 97, 110, 32]⟩ ++ dig q)) w := fun w => run_string_add_sum w _ _ (by show 6 + 1 ≤ _; omega)
  go_enter Tryd.func42, Tryd.ntmps42
  go_wp2_with fail
  rw [← HW.out]
  refine HV.out.mono ?_
  rintro e w1 ⟨rfl, b1, s1⟩
  have B1 := Lib.hid (B0.out.trans (b1.mono s0))
  have S1 : w.heap.size ≤ w1.heap.size := B1.out.size
  obtain ⟨p0, p1, p2, p3, p4, p5, p6, p7⟩ := boxcells8 (lay := b1) X0.out
  go_wp2_with fail
  refine (FormatInt_spec (q) q1 q2 _).mono ?_
  rintro e w2 ⟨rfl, b2, s2⟩
  go_wp2_with fail
  go_ret
  exact ⟨rfl, B1.out.trans (b2.mono S1), by omega⟩
set_option maxRecDepth 100000 in
set_option maxHeartbeats 4000000 in
theorem FormatOp_spec_if (gk ga gb gc q bit cond : Int) (w : World) (hv : validOp ⟨1, ⟨gk, ga, gb, gc⟩, q, bit, cond⟩ 4 3 = true) (c1 : 0 < cond) (c2 : cond ≤ 3) : Calls Tryd.prog 42 #[.agg #[.int .i64 1, .int .i64 gk, .int .i64 ga, .int .i64 gb, .int .i64 gc, .int .i64 q, .int .i64 bit, .int .i64 cond]] w fun e w' => e = .returned (.string (iTx cond (gateTx ⟨gk, ga, gb, gc⟩))) ∧ Below w.heap.size w w' ∧ w.heap.size ≤ w'.heap.size := by
  obtain ⟨w0, hw0⟩ : ∃ w0, w0 = w.alloc (.cells #[.int .i64 1, .int .i64 gk, .int .i64 ga, .int .i64 gb, .int .i64 gc, .int .i64 q, .int .i64 bit, .int .i64 cond] 66) := ⟨_, rfl⟩
  have X0 : Hid (w0.heap[w.heap.size]? = some (.cells #[.int .i64 1, .int .i64 gk, .int .i64 ga, .int .i64 gb, .int .i64 gc, .int .i64 q, .int .i64 bit, .int .i64 cond] 66 (0, 0))) := by rw [hw0]; exact boxed1_0 _ _
  have b0 : Below w.heap.size w w0 := by rw [hw0]; exact (by repeat (first | exact Below.refl _ _ | assumption | (refine Below.trans ?_ (Below.mono (by assumption) (by first | omega | (simp; done) | (simp; omega)))) | (with_reducible refine Below.drew ?_) | (with_reducible refine Below.alloc ?_ (by first | omega | (simp; done) | (simp; omega)) _) | (with_reducible refine Below.setCell ?_ (by first | omega | (simp; done) | (simp; omega)) _)))
  have s0 : w.heap.size ≤ w0.heap.size := b0.size
  have z0 : w.heap.size < w0.heap.size := by rw [hw0]; simp
  have B0 := Lib.hid b0
  have HW := Lib.hid hw0
  have HV := Lib.hid (IsValidOp_spec 1 gk ga gb gc q bit cond 4 3 w0)
  rw [hv] at HV
  clear b0 hw0 hv
  have HFG := Lib.hid (fun w => FormatGate_spec gk ga gb gc w)
  obtain ⟨gt, hgt⟩ : ∃ gt, gt = gateTx ⟨gk, ga, gb, gc⟩ := ⟨_, rfl⟩
  have hgz : gt.size ≤ 100 := by rw [hgt]; exact gateTx_size _
  rw [← hgt] at HFG ⊢
  clear hgt
  have hw1 : IntKind.i64.wrap (cond - 1) = cond - 1 := IntWalk.i64_in _ (by omega)
  have d1 : 0 ≤ cond - 1 := by omega
  have d2 : cond - 1 ≤ 3 := by omega
  have e1 : ∀ w : World, (Op.stringOp .add (⟨#[105, 102, 32]⟩) (dig (cond - 1))).run Tryd.prog w = .ok (.string (⟨#[105, 102, 32]⟩ ++ dig (cond - 1))) w := fun w => run_string_add_sum w _ _ (by show 3 + 1 ≤ _; omega)
  have e2 : ∀ w : World, (Op.stringOp .add (⟨#[105, 102, 32]⟩ ++ dig (cond - 1)) (⟨#[32]⟩)).run Tryd.prog w = .ok (.string (⟨#[105, 102, 32]⟩ ++ dig (cond - 1) ++ ⟨#[32]⟩)) w := fun w => run_string_add_sum w _ _ (by rw [ByteArray.size_append]; show 3 + 1 + 1 ≤ _; omega)
  have e3 : ∀ w : World, (Op.stringOp .add (⟨#[105, 102, 32]⟩ ++ dig (cond - 1) ++ ⟨#[32]⟩) (gt)).run Tryd.prog w = .ok (.string (⟨#[105, 102, 32]⟩ ++ dig (cond - 1) ++ ⟨#[32]⟩ ++ gt)) w := fun w => run_string_add_sum w _ _ (by rw [ByteArray.size_append, ByteArray.size_append]; show 3 + 1 + 1 + gt.size ≤ _; omega)
  go_enter Tryd.func42, Tryd.ntmps42
  go_wp2_with fail
  rw [← HW.out]
  refine HV.out.mono ?_
  rintro e w1 ⟨rfl, b1, s1⟩
  have B1 := Lib.hid (B0.out.trans (b1.mono s0))
  have S1 : w.heap.size ≤ w1.heap.size := B1.out.size
  obtain ⟨p0, p1, p2, p3, p4, p5, p6, p7⟩ := boxcells8 (lay := b1) X0.out
  go_wp2_with fail
  go_region_held3 (fun W => W.cell? ⟨w.heap.size, 1, none⟩ = some (.int .i64 gk) ∧ W.cell? ⟨w.heap.size, 2, none⟩ = some (.int .i64 ga) ∧ W.cell? ⟨w.heap.size, 3, none⟩ = some (.int .i64 gb) ∧ W.cell? ⟨w.heap.size, 4, none⟩ = some (.int .i64 gc) ∧ W.cell? ⟨w.heap.size, 7, none⟩ = some (.int .i64 cond)) (first | exact ⟨p1, p2, p3, p4, p7⟩ | exact ⟨m1, m2, m3, m4, m7⟩ | exact ⟨n1, n2, n3, n4, n7⟩) (first | (go_at_call 64; (with_reducible refine (FormatInt_spec (cond - 1) d1 d2 _).mono ?_); rintro e ym ⟨rfl, dm, _⟩; have um := b1.trans ((bdrewF dm).mono s1); obtain ⟨m0, m1, m2, m3, m4, m5, m6, m7⟩ := boxcells8 (lay := um) X0.out) | (go_at_call 84; (with_reducible refine (HFG.out _).mono ?_); rintro e yn ⟨rfl, dn, _⟩; have un := um.trans (dn.mono um.size); obtain ⟨n0, n1, n2, n3, n4, n5, n6, n7⟩ := boxcells8 (lay := un) X0.out))
  all_goals (go_wp2_with fail; go_ret; exact ⟨rfl, B0.out.trans (un.mono s0), (B0.out.trans (un.mono s0)).size⟩)
set_option maxRecDepth 100000 in
set_option maxHeartbeats 4000000 in
theorem FormatOp_spec_pl (gk ga gb gc q bit : Int) (w : World) (hv : validOp ⟨1, ⟨gk, ga, gb, gc⟩, q, bit, 0⟩ 4 3 = true) : Calls Tryd.prog 42 #[.agg #[.int .i64 1, .int .i64 gk, .int .i64 ga, .int .i64 gb, .int .i64 gc, .int .i64 q, .int .i64 bit, .int .i64 0]] w fun e w' => e = .returned (.string (gateTx ⟨gk, ga, gb, gc⟩)) ∧ Below w.heap.size w w' ∧ w.heap.size ≤ w'.heap.size := by
  obtain ⟨w0, hw0⟩ : ∃ w0, w0 = w.alloc (.cells #[.int .i64 1, .int .i64 gk, .int .i64 ga, .int .i64 gb, .int .i64 gc, .int .i64 q, .int .i64 bit, .int .i64 0] 66) := ⟨_, rfl⟩
  have X0 : Hid (w0.heap[w.heap.size]? = some (.cells #[.int .i64 1, .int .i64 gk, .int .i64 ga, .int .i64 gb, .int .i64 gc, .int .i64 q, .int .i64 bit, .int .i64 0] 66 (0, 0))) := by rw [hw0]; exact boxed1_0 _ _
  have b0 : Below w.heap.size w w0 := by rw [hw0]; exact (by repeat (first | exact Below.refl _ _ | assumption | (refine Below.trans ?_ (Below.mono (by assumption) (by first | omega | (simp; done) | (simp; omega)))) | (with_reducible refine Below.drew ?_) | (with_reducible refine Below.alloc ?_ (by first | omega | (simp; done) | (simp; omega)) _) | (with_reducible refine Below.setCell ?_ (by first | omega | (simp; done) | (simp; omega)) _)))
  have s0 : w.heap.size ≤ w0.heap.size := b0.size
  have z0 : w.heap.size < w0.heap.size := by rw [hw0]; simp
  have B0 := Lib.hid b0
  have HW := Lib.hid hw0
  have HV := Lib.hid (IsValidOp_spec 1 gk ga gb gc q bit 0 4 3 w0)
  rw [hv] at HV
  clear b0 hw0 hv
  have HFG := Lib.hid (fun w => FormatGate_spec gk ga gb gc w)
  obtain ⟨gt, hgt⟩ : ∃ gt, gt = gateTx ⟨gk, ga, gb, gc⟩ := ⟨_, rfl⟩
  have hgz : gt.size ≤ 100 := by rw [hgt]; exact gateTx_size _
  rw [← hgt] at HFG ⊢
  clear hgt
  go_enter Tryd.func42, Tryd.ntmps42
  go_wp2_with fail
  rw [← HW.out]
  refine HV.out.mono ?_
  rintro e w1 ⟨rfl, b1, s1⟩
  have B1 := Lib.hid (B0.out.trans (b1.mono s0))
  have S1 : w.heap.size ≤ w1.heap.size := B1.out.size
  obtain ⟨p0, p1, p2, p3, p4, p5, p6, p7⟩ := boxcells8 (lay := b1) X0.out
  go_wp2_with fail
  refine (HFG.out _).mono ?_
  rintro e w2 ⟨rfl, b2, s2⟩
  go_wp2_with fail
  go_ret
  exact ⟨rfl, B1.out.trans (b2.mono S1), by omega⟩
theorem FormatOp_spec (k gk ga gb gc q bit cond : Int) (w : World) : Calls Tryd.prog 42 #[.agg #[.int .i64 k, .int .i64 gk, .int .i64 ga, .int .i64 gb, .int .i64 gc, .int .i64 q, .int .i64 bit, .int .i64 cond]] w fun e w' => e = .returned (.string (opTx ⟨k, ⟨gk, ga, gb, gc⟩, q, bit, cond⟩)) ∧ Below w.heap.size w w' ∧ w.heap.size ≤ w'.heap.size := by
  unfold opTx
  cases hv : validOp ⟨k, ⟨gk, ga, gb, gc⟩, q, bit, cond⟩ 4 3
  · rw [if_neg (by simp)]
    exact FormatOp_spec_no k gk ga gb gc q bit cond w hv
  · rw [if_pos rfl]
    rcases validOp_yes hv with ⟨rfl, c1, c2⟩ | ⟨rfl, q1, q2, r1, r2⟩ | ⟨rfl, q1, q2⟩
    · rw [if_neg (show ¬ (1 : Int) = 2 by decide), if_neg (show ¬ (1 : Int) = 3 by decide)]
      by_cases hc : 0 < cond
      · rw [if_pos hc]
        exact FormatOp_spec_if gk ga gb gc q bit cond w hv hc c2
      · rw [if_neg hc]
        obtain rfl : cond = 0 := by omega
        exact FormatOp_spec_pl gk ga gb gc q bit w hv
    · rw [if_pos rfl]
      exact FormatOp_spec_k2 gk ga gb gc q bit cond w hv q1 q2 r1 r2
    · rw [if_neg (show ¬ (3 : Int) = 2 by decide), if_pos rfl]
      exact FormatOp_spec_k3 gk ga gb gc q bit cond w hv q1 q2
end Go.Proofs.YtijocafindbebaaDoor
