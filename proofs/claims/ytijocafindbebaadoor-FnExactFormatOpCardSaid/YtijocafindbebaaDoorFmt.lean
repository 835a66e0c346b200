/- Gates as text, both sides. -/
import Derived.Test.YtijocafindbebaaDoorGN
import Derived.Test.YtijocafindbebaaDoorDig
import Derived.Test.YtijocafindbebaaDoorActs
import Derived.Test.YtijocafindbebaaDoorValidOp
namespace Go.Proofs.YtijocafindbebaaDoor
open Go.RowKit
set_option linter.unusedVariables false
def sp (s : ByteArray) (q : Int) : ByteArray := s ++ ⟨#[32]⟩ ++ dig q
def gTx (nm : ByteArray) (qs : List Int) : ByteArray := qs.foldl sp nm
def gateTx (g : Gt) : ByteArray := if validG g 4 then gTx (gstr g.k.toNat) ((qsOf g).take (ar g.k)) else ⟨#[]⟩
theorem gTx_step {nm : ByteArray} {xs : List Int} {t : Nat} {q : Int} (h : xs[t]? = some q) : gTx nm (xs.take (t + 1)) = sp (gTx nm (xs.take t)) q := by
  unfold gTx
  rw [List.take_add_one, h]
  simp
theorem dig_size (q : Int) : (dig q).size = 1 := rfl
theorem sp_size (s : ByteArray) (q : Int) : (sp s q).size = s.size + 2 := by
  unfold sp
  rw [ByteArray.size_append, ByteArray.size_append, dig_size]
  rfl
theorem gTx_size : ∀ (qs : List Int) (nm : ByteArray), (gTx nm qs).size = nm.size + 2 * qs.length
  | [], _ => rfl
  | q :: qs, nm => by
    show (gTx (sp nm q) qs).size = _
    rw [gTx_size qs, sp_size, List.length_cons]
    omega
theorem gstr_size {k : Nat} (h : k ≤ 12) : (gstr k).size ≤ 4 := (by decide : ∀ k : Fin 13, (gstr k).size ≤ 4) ⟨k, by omega⟩
theorem ar_pos {k : Int} (h : ar k ≠ 0) : ∃ n : Nat, k = n ∧ 1 ≤ n ∧ n ≤ 12 := by
  refine ⟨k.toNat, ?_⟩
  unfold ar at h
  split at h
  · have := inB_iff.1 (by assumption); omega
  · split at h
    · have := inB_iff.1 (by assumption); omega
    · split at h
      · omega
      · exact absurd rfl h
theorem validG_yes {g : Gt} (h : validG g 4 = true) : ar g.k ≠ 0 ∧ ∀ (t : Nat) (q : Int), ((qsOf g).take (ar g.k))[t]? = some q → 0 ≤ q ∧ q ≤ 3 := by
  unfold validG at h
  simp only [Bool.and_eq_true, decide_eq_true_eq] at h
  obtain ⟨⟨_, hk⟩, hv⟩ := h
  refine ⟨hk, fun t q hq => ?_⟩
  have hlt := (List.getElem?_eq_some_iff.1 hq).1
  have h3 : (qsOf g).length = 3 := rfl
  have htm : t < ar g.k ∧ t < 3 := by simp at hlt; omega
  rw [List.getElem?_take_of_lt htm.1] at hq
  have hs : vstep (ar g.k) 4 (qsOf g) t = true := by
    simp only [vupto, Bool.true_and, Bool.and_eq_true] at hv
    obtain ⟨⟨h0, h1⟩, h2⟩ := hv
    have : t = 0 ∨ t = 1 ∨ t = 2 := by omega
    rcases this with rfl | rfl | rfl
    · exact h0
    · exact h1
    · exact h2
  unfold vstep at hs
  rw [if_neg (by omega), List.getD_eq_getElem?_getD, hq] at hs
  simp only [Option.getD_some, Bool.and_eq_true] at hs
  have := inB_iff.1 hs.1
  omega
set_option maxRecDepth 100000 in
set_option maxHeartbeats 4000000 in
theorem FormatGate_impl (k a b c : Int) (w : World) (hG : GN w) : Calls Tryd.prog 88 #[.agg #[.int .i64 k, .int .i64 a, .int .i64 b, .int .i64 c]] w fun e w' => e = .returned (.string (gateTx ⟨k, a, b, c⟩)) ∧ Below w.heap.size w w' ∧ w.heap.size ≤ w'.heap.size := by
  obtain ⟨w0, hw0⟩ : ∃ w0, w0 = w.alloc (.cells #[.int .i64 k, .int .i64 a, .int .i64 b, .int .i64 c] 64) := ⟨_, rfl⟩
  have X0 : Hid (w0.heap[w.heap.size]? = some (.cells #[.int .i64 k, .int .i64 a, .int .i64 b, .int .i64 c] 64 (0, 0))) := by rw [hw0]; exact boxed1_0 _ _
  have b0 : Below w.heap.size w w0 := by rw [hw0]; exact (by repeat (first | exact Below.refl _ _ | assumption | (refine Below.trans ?_ (Below.mono (by assumption) (by first | omega | (simp; done) | (simp; omega)))) | (with_reducible refine Below.drew ?_) | (with_reducible refine Below.alloc ?_ (by first | omega | (simp; done) | (simp; omega)) _) | (with_reducible refine Below.setCell ?_ (by first | omega | (simp; done) | (simp; omega)) _)))
  have s0 : w.heap.size ≤ w0.heap.size := b0.size
  have B0 := Lib.hid b0
  have HW := Lib.hid hw0
  have HGN := Lib.hid hG
  have HV := Lib.hid (IsValidGate_impl k a b c 4 w0)
  clear b0 hw0 hG
  cases hv : validG ⟨k, a, b, c⟩ 4
  · have HF := Lib.hid (show gateTx ⟨k, a, b, c⟩ = ⟨#[]⟩ by unfold gateTx; rw [hv]; rfl)
    rw [hv] at HV
    clear hv
    go_enter Tryd.func88, Tryd.ntmps88
    go_wp2_with fail
    rw [← HW.out]
    refine HV.out.mono ?_
    rintro e w1 ⟨rfl, b1, s1⟩
    go_wp2_with fail
    go_ret
    exact ⟨by rw [HF.out]; rfl, B0.out.trans (b1.mono s0), by omega⟩
  · obtain ⟨hk, hq⟩ := validG_yes hv
    obtain ⟨kn, hkn, k1, k2⟩ := ar_pos hk
    obtain rfl : k = kn := hkn
    obtain ⟨xs, hxs⟩ : ∃ xs, xs = [a, b, c].take (ar kn) := ⟨_, rfl⟩
    obtain ⟨m, hm⟩ : ∃ m, m = ar (kn : Int) := ⟨_, rfl⟩
    have har := ar_le (kn : Int)
    have hxl : xs.length = m := by rw [hxs, hm]; simp; omega
    have HF := Lib.hid (show gateTx ⟨kn, a, b, c⟩ = gTx (gstr kn) xs by unfold gateTx; rw [hv, hxs]; rfl)
    have HQ := Lib.hid (show ∀ (t : Nat) (q : Int), xs[t]? = some q → 0 ≤ q ∧ q ≤ 3 by rw [hxs]; exact hq)
    have HGQ := Lib.hid (fun w => GateQubits_impl kn a b c w)
    rw [← hxs, ← hm] at HGQ
    rw [hv] at HV
    rw [← hm] at har
    have HL := Lib.hid hxl
    clear hv hk hq hxs hm hxl
    go_enter Tryd.func88, Tryd.ntmps88
    go_wp2_with fail
    rw [← HW.out]
    refine HV.out.mono ?_
    rintro e w1 ⟨rfl, b1, s1⟩
    have B1 := Lib.hid (B0.out.trans (b1.mono s0))
    obtain ⟨p0, p1, p2, p3⟩ := boxcells4 (lay := b1) X0.out
    go_wp2_with fail
    refine (GateName_impl kn k1 k2 _ (HGN.out.below B1.out)).mono ?_
    rintro e w' ⟨rfl, rfl⟩
    go_wp2_with fail
    refine (HGQ.out _).mono ?_
    rintro e w2 ⟨A, cp, rfl, r2, b2, s2⟩
    have R2 := Lib.hid r2
    have B2 := Lib.hid (B1.out.trans (b2.mono (by omega)))
    have S2 : w.heap.size ≤ w2.heap.size := by omega
    clear r2 p0 p1 p2 p3
    go_wp2_with fail
    go_loop [3, 15] (fun s i => ∃ t : Nat, t ≤ m ∧ i = .int .i64 t ∧ s = .string (gTx (gstr kn) (xs.take t))) (fun _ i => m - (intOf i).toNat)
    case atStart => exact ⟨0, Nat.zero_le _, rfl, rfl⟩
    case round =>
      obtain ⟨t, ht, rfl, rfl⟩ := hrel
      by_cases hlt : t < m
      · obtain ⟨q, hq⟩ : ∃ q, xs[t]? = some q := ⟨_, List.getElem?_eq_getElem (by have := HL.out; omega)⟩
        obtain ⟨b', off, rfl, _, hc⟩ := R2.out.2 (by omega)
        have q0 := hc t (.int .i64 q) (by rw [List.getElem?_map, hq]; rfl)
        have HS := Lib.hid (gTx_step (nm := gstr kn) hq)
        obtain ⟨q1, q2⟩ := HQ.out t q hq
        obtain ⟨tx, htx⟩ : ∃ tx, tx = gTx (gstr kn) (xs.take t) := ⟨_, rfl⟩
        have hz : tx.size ≤ 100 := by rw [htx, gTx_size]; have := gstr_size k2; have := HL.out; simp; omega
        have HZ := Lib.hid hz
        rw [← htx] at HS ⊢
        have e1 : ∀ w : World, (Op.stringOp .add tx ⟨#[32]⟩).run Tryd.prog w = .ok (.string (tx ++ ⟨#[32]⟩)) w := fun w => run_string_add_sum w _ _ (by show tx.size + 1 ≤ _; omega)
        have e2 : ∀ w : World, (Op.stringOp .add (tx ++ ⟨#[32]⟩) (dig q)).run Tryd.prog w = .ok (.string (tx ++ ⟨#[32]⟩ ++ dig q)) w := fun w => run_string_add_sum w _ _ (by rw [ByteArray.size_append, dig_size]; show tx.size + 1 + 1 ≤ _; omega)
        clear hz
        clear hc hq htx
        go_wp2_with fail
        refine (FormatInt_impl q q1 q2 _).mono ?_
        rintro e w' ⟨rfl, rfl⟩
        go_wp2_with fail
        go_round
        case rel => exact ⟨t + 1, by omega, by go_num, by rw [HS.out]; rfl⟩
        case measure => simp [intOf]; omega
      · have HT : Hid (gTx (gstr kn) (xs.take t) = gTx (gstr kn) xs) := by
          rw [List.take_of_length_le (by have := HL.out; omega)]; exact rfl
        go_wp2_with fail
        go_ret
        exact ⟨by rw [HF.out, ← HT.out]; rfl, B2.out, S2⟩
set_option maxRecDepth 100000 in
set_option maxHeartbeats 4000000 in
theorem FormatGate_spec (k a b c : Int) (w : World) : Calls Tryd.prog 84 #[.agg #[.int .i64 k, .int .i64 a, .int .i64 b, .int .i64 c]] w fun e w' => e = .returned (.string (gateTx ⟨k, a, b, c⟩)) ∧ Below w.heap.size w w' ∧ w.heap.size ≤ w'.heap.size := by
  obtain ⟨w0, hw0⟩ : ∃ w0, w0 = w.alloc (.cells #[.int .i64 k, .int .i64 a, .int .i64 b, .int .i64 c] 64) := ⟨_, rfl⟩
  have X0 : Hid (w0.heap[w.heap.size]? = some (.cells #[.int .i64 k, .int .i64 a, .int .i64 b, .int .i64 c] 64 (0, 0))) := by rw [hw0]; exact boxed1_0 _ _
  have b0 : Below w.heap.size w w0 := by rw [hw0]; exact (by repeat (first | exact Below.refl _ _ | assumption | (refine Below.trans ?_ (Below.mono (by assumption) (by first | omega | (simp; done) | (simp; omega)))) | (with_reducible refine Below.drew ?_) | (with_reducible refine Below.alloc ?_ (by first | omega | (simp; done) | (simp; omega)) _) | (with_reducible refine Below.setCell ?_ (by first | omega | (simp; done) | (simp; omega)) _)))
  have s0 : w.heap.size ≤ w0.heap.size := b0.size
  have z0 : w.heap.size < w0.heap.size := by rw [hw0]; simp
  have B0 := Lib.hid b0
  have HW := Lib.hid hw0
  have HV := Lib.hid (IsValidGate_spec k a b c 4 w0)
  clear b0 hw0
  cases hv : validG ⟨k, a, b, c⟩ 4
  · have HF := Lib.hid (show gateTx ⟨k, a, b, c⟩ = ⟨#[]⟩ by unfold gateTx; rw [hv]; rfl)
    rw [hv] at HV
    clear hv
    go_enter Tryd.func84, Tryd.ntmps84
    go_wp2_with fail
    rw [← HW.out]
    refine HV.out.mono ?_
    rintro e w1 ⟨rfl, b1, s1⟩
    go_wp2_with fail
    go_ret
    exact ⟨by rw [HF.out]; rfl, B0.out.trans (b1.mono s0), by omega⟩
  · obtain ⟨hk, hq⟩ := validG_yes hv
    obtain ⟨kn, hkn, k1, k2⟩ := ar_pos hk
    obtain rfl : k = kn := hkn
    obtain ⟨xs, hxs⟩ : ∃ xs, xs = [a, b, c].take (ar kn) := ⟨_, rfl⟩
    obtain ⟨m, hm⟩ : ∃ m, m = ar (kn : Int) := ⟨_, rfl⟩
    have har := ar_le (kn : Int)
    have hxl : xs.length = m := by rw [hxs, hm]; simp; omega
    have HF := Lib.hid (show gateTx ⟨kn, a, b, c⟩ = gTx (gstr kn) xs by unfold gateTx; rw [hv, hxs]; rfl)
    have HQ := Lib.hid (show ∀ (t : Nat) (q : Int), xs[t]? = some q → 0 ≤ q ∧ q ≤ 3 by rw [hxs]; exact hq)
    have HGQ := Lib.hid (fun w => GateQubits_spec kn a b c w)
    rw [← hxs, ← hm] at HGQ
    rw [hv] at HV
    rw [← hm] at har
    have HL := Lib.hid hxl
    clear hv hk hq hxs hm hxl
    go_enter Tryd.func84, Tryd.ntmps84
    go_wp2_with fail
    rw [← HW.out]
    refine HV.out.mono ?_
    rintro e w1 ⟨rfl, b1, s1⟩
    have B1 := Lib.hid (B0.out.trans (b1.mono s0))
    obtain ⟨p0, p1, p2, p3⟩ := boxcells4 (lay := b1) X0.out
    go_wp2_with fail
    refine (GateName_spec kn k1 k2 _).mono ?_
    rintro e w1' ⟨rfl, b1', s1'⟩
    obtain ⟨m0, m1, m2, m3⟩ := boxcells4 (lay := b1.trans (b1'.mono s1)) X0.out
    clear p0 p1 p2 p3
    go_wp2_with fail
    refine (HGQ.out _).mono ?_
    rintro e w2 ⟨v, rfl, o2, b2, s2⟩
    obtain ⟨A, cp, rfl, _, _, r2⟩ := rd_of_own o2
    have R2 := Lib.hid r2
    have B2 := Lib.hid ((B1.out.trans (b1'.mono (by omega))).trans (b2.mono (by omega)))
    have S2 : w.heap.size ≤ w2.heap.size := by omega
    clear r2 o2 m0 m1 m2 m3
    go_wp2_with fail
    go_loopw [3, 5] (fun s i wr => ∃ t : Nat, t ≤ m ∧ i = .int .i64 t ∧ s = .string (gTx (gstr kn) (xs.take t)) ∧ Below w2.heap.size w2 wr) (fun _ i _ => m - (intOf i).toNat)
    case atStart => exact ⟨0, Nat.zero_le _, rfl, rfl, Below.refl _ _⟩
    case round =>
      obtain ⟨t, ht, rfl, rfl, hb⟩ := hrel
      have hbs := hb.size
      by_cases hlt : t < m
      · obtain ⟨q, hq⟩ : ∃ q, xs[t]? = some q := ⟨_, List.getElem?_eq_getElem (by have := HL.out; omega)⟩
        obtain ⟨b', off, rfl, _, hc⟩ := (R2.out.below hb).2 (by omega)
        have q0 := hc t (.int .i64 q) (by rw [List.getElem?_map, hq]; rfl)
        have HS := Lib.hid (gTx_step (nm := gstr kn) hq)
        obtain ⟨q1, q2⟩ := HQ.out t q hq
        obtain ⟨tx, htx⟩ : ∃ tx, tx = gTx (gstr kn) (xs.take t) := ⟨_, rfl⟩
        have hz : tx.size ≤ 100 := by rw [htx, gTx_size]; have := gstr_size k2; have := HL.out; simp; omega
        have HZ := Lib.hid hz
        rw [← htx] at HS ⊢
        have e1 : ∀ w : World, (Op.stringOp .add tx ⟨#[32]⟩).run Tryd.prog w = .ok (.string (tx ++ ⟨#[32]⟩)) w := fun w => run_string_add_sum w _ _ (by show tx.size + 1 ≤ _; omega)
        have e2 : ∀ w : World, (Op.stringOp .add (tx ++ ⟨#[32]⟩) (dig q)).run Tryd.prog w = .ok (.string (tx ++ ⟨#[32]⟩ ++ dig q)) w := fun w => run_string_add_sum w _ _ (by rw [ByteArray.size_append, dig_size]; show tx.size + 1 + 1 ≤ _; omega)
        clear hz
        clear hc hq htx
        go_wp2_with fail
        refine (FormatInt_spec q q1 q2 _).mono ?_
        rintro e w3 ⟨rfl, b3, s3⟩
        go_wp2_with fail
        go_roundw
        case rel => exact ⟨t + 1, by omega, by go_num, by rw [HS.out]; rfl, hb.trans (b3.mono hbs)⟩
        case measure => simp [intOf]; omega
      · have HT : Hid (gTx (gstr kn) (xs.take t) = gTx (gstr kn) xs) := by
          rw [List.take_of_length_le (by have := HL.out; omega)]; exact rfl
        go_wp2_with fail
        go_ret
        exact ⟨by rw [HF.out, ← HT.out]; rfl, B2.out.trans (hb.mono S2), by omega⟩
end Go.Proofs.YtijocafindbebaaDoor
