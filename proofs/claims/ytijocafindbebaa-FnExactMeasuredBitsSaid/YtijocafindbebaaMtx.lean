/- The text of a mark: the laws' markText. -/
import Derived.Test.YtijocafindbebaaProg
import Derived.Test.YtijocafindbebaaKit
import Derived.Laws.IdiomStrings
namespace Go.Proofs.Ytijocafindbebaa
open Go.RowKit
set_option linter.unusedVariables false
def mdig : Nat → Nat → ByteArray → ByteArray
  | 0, _, acc => acc
  | f + 1, k, acc => if k = 0 then acc else mdig f (k / 10) (⟨#[(48 + k % 10).toUInt8]⟩ ++ acc)
theorem mdig_zero (f : Nat) (acc : ByteArray) : mdig f 0 acc = acc := by cases f <;> simp [mdig]
theorem mdig_step {f k : Nat} (acc : ByteArray) (h : 0 < k) : mdig (f + 1) k acc = mdig f (k / 10) (⟨#[(48 + k % 10).toUInt8]⟩ ++ acc) := by rw [mdig, if_neg (by omega)]
def mtx (k : Int) : ByteArray := ⟨#[109]⟩ ++ mdig 20 k.toNat ⟨#[]⟩
theorem pow_div {f k : Nat} (h : k < 10 ^ (f + 1)) : k / 10 < 10 ^ f := by rw [Nat.pow_succ] at h; omega
theorem pow_zero_lt {f k : Nat} (h : k < 10 ^ f) (h0 : 0 < k) : ∃ f', f = f' + 1 := by
  cases f with
  | zero => simp at h; omega
  | succ f => exact ⟨f, rfl⟩
theorem u8_of (k : Nat) : (((48 + k % 10).toUInt8).toNat : Int) = 48 + (k : Int) % 10 := by
  have : (48 + k % 10).toUInt8.toNat = (48 + k % 10) % 256 := by simp [Nat.toUInt8]
  omega
theorem conv1 (W : World) (b : UInt8) : (convert 37 9 (.slice (some ⟨W.heap.size, 0, none⟩) 1 1)).run Try.prog (W.alloc (.cells #[.int .u8 (b.toNat : Int)] 5)) = .ok (.string ⟨#[b]⟩) (W.alloc (.cells #[.int .u8 (b.toNat : Int)] 5)) := by
  refine run_convert_bytes_back _ _ _ 5 ⟨W.heap.size, 0, none⟩ 1 [b] Try.underlying37 Try.underlying5 Try.underlying9 (fun j hj => ?_)
  obtain rfl : j = 0 := by simpa using hj
  exact World.cell?_alloc_mark W _ _ _ 0
set_option maxRecDepth 100000 in
set_option maxHeartbeats 2000000 in
theorem markText_any (k : Int) (w : World) (h0 : 1 ≤ k) (h1 : k ≤ 1099511627776000) : Calls Try.prog 31 #[.int .i64 k] w fun e w' => e = .returned (.string (mtx k)) ∧ Below w.heap.size w w' ∧ w.heap.size ≤ w'.heap.size := by
  obtain ⟨K, rfl⟩ : ∃ K : Nat, k = K := ⟨k.toNat, by omega⟩
  obtain ⟨M, hM⟩ : ∃ M, M = mdig 20 K ⟨#[]⟩ := ⟨_, rfl⟩
  have HT := Lib.hid (show mtx (K : Int) = ⟨#[109]⟩ ++ M by rw [hM, mtx]; rfl)
  have HP := Lib.hid (show K < 10 ^ 20 by omega)
  have HM := Lib.hid hM.symm
  clear hM
  have hd : decide (K = 0) = false := by simp; omega
  go_enter Try.func31, Try.ntmps31
  go_wp2_with fail
  go_loopw [0, 3] (fun kk o wr => ∃ (f j : Nat) (acc : ByteArray), f ≤ 20 ∧ kk = .int .i64 j ∧ j ≤ 1099511627776000 ∧ j < 10 ^ f ∧ acc.size + f = 20 ∧ o = .string acc ∧ Hid (mdig f j acc = M) ∧ Below w.heap.size w wr) (fun kk _ _ => (intOf kk).toNat)
  case atStart => exact ⟨20, K, ⟨#[]⟩, Nat.le_refl _, rfl, by omega, HP.out, rfl, rfl, HM, Below.refl _ _⟩
  case round =>
    obtain ⟨f, j, acc, hf, rfl, hj, hp, hs, rfl, hm, hb⟩ := hrel
    have hbs := hb.size
    by_cases hlt : 0 < j
    · obtain ⟨f, rfl⟩ := pow_zero_lt hp hlt
      have HP2 := Lib.hid (pow_div hp)
      have HM2 := Lib.hid ((mdig_step acc hlt).symm.trans hm.out)
      clear hp hm
      obtain ⟨b, hbb⟩ : ∃ b, b = (48 + j % 10).toUInt8 := ⟨_, rfl⟩
      have hb8 := u8_of j
      rw [← hbb] at HM2 hb8
      have kc : ∀ W : World, (convert 37 9 (.slice (some ⟨W.heap.size, 0, none⟩) 1 1)).run Try.prog (W.alloc (.cells #[.int .u8 (48 + (j : Int) % 10)] 5)) = .ok (.string ⟨#[b]⟩) (W.alloc (.cells #[.int .u8 (48 + (j : Int) % 10)] 5)) := fun W => by
        rw [← hb8]
        exact conv1 W b
      have e1 : ∀ w : World, (Op.stringOp .add ⟨#[b]⟩ acc).run Try.prog w = .ok (.string (⟨#[b]⟩ ++ acc)) w := fun w => run_string_add_sum w _ _ (by show 1 + acc.size ≤ _; omega)
      clear hbb hb8
      go_wp2_with fail
      go_roundw
      case rel => exact ⟨f, j / 10, ⟨#[b]⟩ ++ acc, by omega, by simp, by omega, HP2.out, by rw [ByteArray.size_append]; show 1 + acc.size + f = 20; omega, rfl, HM2, (by repeat (first | exact Below.refl _ _ | assumption | (refine Below.trans ?_ (Below.mono (by assumption) (by first | omega | (simp; done) | (simp; omega)))) | (with_reducible refine Below.drew ?_) | (with_reducible refine Below.alloc ?_ (by first | omega | (simp; done) | (simp; omega)) _) | (with_reducible refine Below.setCell ?_ (by first | omega | (simp; done) | (simp; omega)) _)))⟩
      case measure => simp [intOf]; omega
    · have hacc : acc = M := by
        have := hm.out
        obtain rfl : j = 0 := by omega
        rwa [mdig_zero] at this
      subst hacc
      have e0 : decide (0 < (j : Int)) = false := by simp; omega
      have e2 : decide (0 < j) = false := by simp; omega
      have e1 : ∀ w : World, (Op.stringOp .add ⟨#[109]⟩ acc).run Try.prog w = .ok (.string (⟨#[109]⟩ ++ acc)) w := fun w => run_string_add_sum w _ _ (by show 1 + acc.size ≤ _; omega)
      clear hm HM
      go_wp2_with fail
      go_ret
      exact ⟨by rw [HT.out]; rfl, (by repeat (first | exact Below.refl _ _ | assumption | (refine Below.trans ?_ (Below.mono (by assumption) (by first | omega | (simp; done) | (simp; omega)))) | (with_reducible refine Below.drew ?_) | (with_reducible refine Below.alloc ?_ (by first | omega | (simp; done) | (simp; omega)) _) | (with_reducible refine Below.setCell ?_ (by first | omega | (simp; done) | (simp; omega)) _))), by omega⟩
end Go.Proofs.Ytijocafindbebaa
