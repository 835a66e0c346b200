/- Small numbers as text, both sides. -/
import Derived.Test.YtijocafindbebaaDoorIn
import Derived.Laws.IdiomStrings
namespace Go.Proofs.YtijocafindbebaaDoor
open Go.RowKit
set_option linter.unusedVariables false
def dig (x : Int) : ByteArray := ⟨#[48 + x.toNat.toUInt8]⟩
theorem small10 {x : Int} (h0 : 0 ≤ x) (h1 : x ≤ 9) : x = 0 ∨ x = 1 ∨ x = 2 ∨ x = 3 ∨ x = 4 ∨ x = 5 ∨ x = 6 ∨ x = 7 ∨ x = 8 ∨ x = 9 := by omega
theorem small4 {x : Int} (h0 : 0 ≤ x) (h1 : x ≤ 3) : x = 0 ∨ x = 1 ∨ x = 2 ∨ x = 3 := by omega
set_option maxRecDepth 100000 in
set_option maxHeartbeats 4000000 in
theorem FormatInt_impl9 (x : Int) (h0 : 0 ≤ x) (h1 : x ≤ 9) (w : World) : Calls Tryd.prog 87 #[.int .i64 x] w fun e w' => e = .returned (.string (dig x)) ∧ w = w' := by
  rcases small10 h0 h1 with rfl | rfl | rfl | rfl | rfl | rfl | rfl | rfl | rfl | rfl
  all_goals
    clear h0 h1
    go_enter Tryd.func87, Tryd.ntmps87
    go_wp2
    go_ret
    exact ⟨rfl, rfl⟩
theorem FormatInt_impl (x : Int) (h0 : 0 ≤ x) (h1 : x ≤ 3) (w : World) : Calls Tryd.prog 87 #[.int .i64 x] w fun e w' => e = .returned (.string (dig x)) ∧ w = w' := FormatInt_impl9 x h0 (by omega) w
theorem conv_one (W : World) (b : UInt8) : (convert 53 9 (.slice (some ⟨W.heap.size, 0, none⟩) 1 1)).run Tryd.prog (W.alloc (.cells #[.int .u8 (b.toNat : Int)] 5)) = .ok (.string ⟨#[b]⟩) (W.alloc (.cells #[.int .u8 (b.toNat : Int)] 5)) := by
  refine run_convert_bytes_back _ _ _ 5 ⟨W.heap.size, 0, none⟩ 1 [b] Tryd.underlying53 Tryd.underlying5 Tryd.underlying9 (fun j hj => ?_)
  obtain rfl : j = 0 := by simpa using hj
  exact World.cell?_alloc_mark W _ _ _ 0
set_option maxRecDepth 100000 in
set_option maxHeartbeats 2000000 in
theorem FormatInt_spec_0 (w : World) : Calls Tryd.prog 64 #[.int .i64 0] w fun e w' => e = .returned (.string (dig 0)) ∧ Below w.heap.size w w' ∧ w.heap.size ≤ w'.heap.size := by
  go_enter Tryd.func64, Tryd.ntmps64
  go_wp2
  go_ret
  exact ⟨rfl, (by repeat (first | exact Below.refl _ _ | assumption | (refine Below.trans ?_ (Below.mono (by assumption) (by first | omega | (simp; done) | (simp; omega)))) | (with_reducible refine Below.drew ?_) | (with_reducible refine Below.alloc ?_ (by first | omega | (simp; done) | (simp; omega)) _) | (with_reducible refine Below.setCell ?_ (by first | omega | (simp; done) | (simp; omega)) _))), (by first | omega | (simp; done) | (simp; omega))⟩
set_option maxRecDepth 100000 in
set_option maxHeartbeats 2000000 in
theorem FormatInt_spec_1 (w : World) : Calls Tryd.prog 64 #[.int .i64 1] w fun e w' => e = .returned (.string (dig 1)) ∧ Below w.heap.size w w' ∧ w.heap.size ≤ w'.heap.size := by
  have kc : ∀ W : World, (convert 53 9 (.slice (some ⟨W.heap.size, 0, none⟩) 1 1)).run Tryd.prog (W.alloc (.cells #[.int .u8 49] 5)) = .ok (.string ⟨#[49]⟩) (W.alloc (.cells #[.int .u8 49] 5)) := fun W => conv_one W 49
  go_enter Tryd.func64, Tryd.ntmps64
  go_wp2
  refine wp_loop_rounds 2 ?_
  rw [rounds_succ]
  go_wp2
  rw [rounds_succ]
  go_wp2
  go_ret
  exact ⟨rfl, (by repeat (first | exact Below.refl _ _ | assumption | (refine Below.trans ?_ (Below.mono (by assumption) (by first | omega | (simp; done) | (simp; omega)))) | (with_reducible refine Below.drew ?_) | (with_reducible refine Below.alloc ?_ (by first | omega | (simp; done) | (simp; omega)) _) | (with_reducible refine Below.setCell ?_ (by first | omega | (simp; done) | (simp; omega)) _))), (by first | omega | (simp; done) | (simp; omega))⟩
set_option maxRecDepth 100000 in
set_option maxHeartbeats 2000000 in
theorem FormatInt_spec_2 (w : World) : Calls Tryd.prog 64 #[.int .i64 2] w fun e w' => e = .returned (.string (dig 2)) ∧ Below w.heap.size w w' ∧ w.heap.size ≤ w'.heap.size := by
  have kc : ∀ W : World, (convert 53 9 (.slice (some ⟨W.heap.size, 0, none⟩) 1 1)).run Tryd.prog (W.alloc (.cells #[.int .u8 50] 5)) = .ok (.string ⟨#[50]⟩) (W.alloc (.cells #[.int .u8 50] 5)) := fun W => conv_one W 50
  go_enter Tryd.func64, Tryd.ntmps64
  go_wp2
  refine wp_loop_rounds 2 ?_
  rw [rounds_succ]
  go_wp2
  rw [rounds_succ]
  go_wp2
  go_ret
  exact ⟨rfl, (by repeat (first | exact Below.refl _ _ | assumption | (refine Below.trans ?_ (Below.mono (by assumption) (by first | omega | (simp; done) | (simp; omega)))) | (with_reducible refine Below.drew ?_) | (with_reducible refine Below.alloc ?_ (by first | omega | (simp; done) | (simp; omega)) _) | (with_reducible refine Below.setCell ?_ (by first | omega | (simp; done) | (simp; omega)) _))), (by first | omega | (simp; done) | (simp; omega))⟩
set_option maxRecDepth 100000 in
set_option maxHeartbeats 2000000 in
theorem FormatInt_spec_3 (w : World) : Calls Tryd.prog 64 #[.int .i64 3] w fun e w' => e = .returned (.string (dig 3)) ∧ Below w.heap.size w w' ∧ w.heap.size ≤ w'.heap.size := by
  have kc : ∀ W : World, (convert 53 9 (.slice (some ⟨W.heap.size, 0, none⟩) 1 1)).run Tryd.prog (W.alloc (.cells #[.int .u8 51] 5)) = .ok (.string ⟨#[51]⟩) (W.alloc (.cells #[.int .u8 51] 5)) := fun W => conv_one W 51
  go_enter Tryd.func64, Tryd.ntmps64
  go_wp2
  refine wp_loop_rounds 2 ?_
  rw [rounds_succ]
  go_wp2
  rw [rounds_succ]
  go_wp2
  go_ret
  exact ⟨rfl, (by repeat (first | exact Below.refl _ _ | assumption | (refine Below.trans ?_ (Below.mono (by assumption) (by first | omega | (simp; done) | (simp; omega)))) | (with_reducible refine Below.drew ?_) | (with_reducible refine Below.alloc ?_ (by first | omega | (simp; done) | (simp; omega)) _) | (with_reducible refine Below.setCell ?_ (by first | omega | (simp; done) | (simp; omega)) _))), (by first | omega | (simp; done) | (simp; omega))⟩
set_option maxRecDepth 100000 in
set_option maxHeartbeats 2000000 in
theorem FormatInt_spec_4 (w : World) : Calls Tryd.prog 64 #[.int .i64 4] w fun e w' => e = .returned (.string (dig 4)) ∧ Below w.heap.size w w' ∧ w.heap.size ≤ w'.heap.size := by
  have kc : ∀ W : World, (convert 53 9 (.slice (some ⟨W.heap.size, 0, none⟩) 1 1)).run Tryd.prog (W.alloc (.cells #[.int .u8 52] 5)) = .ok (.string ⟨#[52]⟩) (W.alloc (.cells #[.int .u8 52] 5)) := fun W => conv_one W 52
  go_enter Tryd.func64, Tryd.ntmps64
  go_wp2
  refine wp_loop_rounds 2 ?_
  rw [rounds_succ]
  go_wp2
  rw [rounds_succ]
  go_wp2
  go_ret
  exact ⟨rfl, (by repeat (first | exact Below.refl _ _ | assumption | (refine Below.trans ?_ (Below.mono (by assumption) (by first | omega | (simp; done) | (simp; omega)))) | (with_reducible refine Below.drew ?_) | (with_reducible refine Below.alloc ?_ (by first | omega | (simp; done) | (simp; omega)) _) | (with_reducible refine Below.setCell ?_ (by first | omega | (simp; done) | (simp; omega)) _))), (by first | omega | (simp; done) | (simp; omega))⟩
set_option maxRecDepth 100000 in
set_option maxHeartbeats 2000000 in
theorem FormatInt_spec_5 (w : World) : Calls Tryd.prog 64 #[.int .i64 5] w fun e w' => e = .returned (.string (dig 5)) ∧ Below w.heap.size w w' ∧ w.heap.size ≤ w'.heap.size := by
  have kc : ∀ W : World, (convert 53 9 (.slice (some ⟨W.heap.size, 0, none⟩) 1 1)).run Tryd.prog (W.alloc (.cells #[.int .u8 53] 5)) = .ok (.string ⟨#[53]⟩) (W.alloc (.cells #[.int .u8 53] 5)) := fun W => conv_one W 53
  go_enter Tryd.func64, Tryd.ntmps64
  go_wp2
  refine wp_loop_rounds 2 ?_
  rw [rounds_succ]
  go_wp2
  rw [rounds_succ]
  go_wp2
  go_ret
  exact ⟨rfl, (by repeat (first | exact Below.refl _ _ | assumption | (refine Below.trans ?_ (Below.mono (by assumption) (by first | omega | (simp; done) | (simp; omega)))) | (with_reducible refine Below.drew ?_) | (with_reducible refine Below.alloc ?_ (by first | omega | (simp; done) | (simp; omega)) _) | (with_reducible refine Below.setCell ?_ (by first | omega | (simp; done) | (simp; omega)) _))), (by first | omega | (simp; done) | (simp; omega))⟩
set_option maxRecDepth 100000 in
set_option maxHeartbeats 2000000 in
theorem FormatInt_spec_6 (w : World) : Calls Tryd.prog 64 #[.int .i64 6] w fun e w' => e = .returned (.string (dig 6)) ∧ Below w.heap.size w w' ∧ w.heap.size ≤ w'.heap.size := by
  have kc : ∀ W : World, (convert 53 9 (.slice (some ⟨W.heap.size, 0, none⟩) 1 1)).run Tryd.prog (W.alloc (.cells #[.int .u8 54] 5)) = .ok (.string ⟨#[54]⟩) (W.alloc (.cells #[.int .u8 54] 5)) := fun W => conv_one W 54
  go_enter Tryd.func64, Tryd.ntmps64
  go_wp2
  refine wp_loop_rounds 2 ?_
  rw [rounds_succ]
  go_wp2
  rw [rounds_succ]
  go_wp2
  go_ret
  exact ⟨rfl, (by repeat (first | exact Below.refl _ _ | assumption | (refine Below.trans ?_ (Below.mono (by assumption) (by first | omega | (simp; done) | (simp; omega)))) | (with_reducible refine Below.drew ?_) | (with_reducible refine Below.alloc ?_ (by first | omega | (simp; done) | (simp; omega)) _) | (with_reducible refine Below.setCell ?_ (by first | omega | (simp; done) | (simp; omega)) _))), (by first | omega | (simp; done) | (simp; omega))⟩
set_option maxRecDepth 100000 in
set_option maxHeartbeats 2000000 in
theorem FormatInt_spec_7 (w : World) : Calls Tryd.prog 64 #[.int .i64 7] w fun e w' => e = .returned (.string (dig 7)) ∧ Below w.heap.size w w' ∧ w.heap.size ≤ w'.heap.size := by
  have kc : ∀ W : World, (convert 53 9 (.slice (some ⟨W.heap.size, 0, none⟩) 1 1)).run Tryd.prog (W.alloc (.cells #[.int .u8 55] 5)) = .ok (.string ⟨#[55]⟩) (W.alloc (.cells #[.int .u8 55] 5)) := fun W => conv_one W 55
  go_enter Tryd.func64, Tryd.ntmps64
  go_wp2
  refine wp_loop_rounds 2 ?_
  rw [rounds_succ]
  go_wp2
  rw [rounds_succ]
  go_wp2
  go_ret
  exact ⟨rfl, (by repeat (first | exact Below.refl _ _ | assumption | (refine Below.trans ?_ (Below.mono (by assumption) (by first | omega | (simp; done) | (simp; omega)))) | (with_reducible refine Below.drew ?_) | (with_reducible refine Below.alloc ?_ (by first | omega | (simp; done) | (simp; omega)) _) | (with_reducible refine Below.setCell ?_ (by first | omega | (simp; done) | (simp; omega)) _))), (by first | omega | (simp; done) | (simp; omega))⟩
set_option maxRecDepth 100000 in
set_option maxHeartbeats 2000000 in
theorem FormatInt_spec_8 (w : World) : Calls Tryd.prog 64 #[.int .i64 8] w fun e w' => e = .returned (.string (dig 8)) ∧ Below w.heap.size w w' ∧ w.heap.size ≤ w'.heap.size := by
  have kc : ∀ W : World, (convert 53 9 (.slice (some ⟨W.heap.size, 0, none⟩) 1 1)).run Tryd.prog (W.alloc (.cells #[.int .u8 56] 5)) = .ok (.string ⟨#[56]⟩) (W.alloc (.cells #[.int .u8 56] 5)) := fun W => conv_one W 56
  go_enter Tryd.func64, Tryd.ntmps64
  go_wp2
  refine wp_loop_rounds 2 ?_
  rw [rounds_succ]
  go_wp2
  rw [rounds_succ]
  go_wp2
  go_ret
  exact ⟨rfl, (by repeat (first | exact Below.refl _ _ | assumption | (refine Below.trans ?_ (Below.mono (by assumption) (by first | omega | (simp; done) | (simp; omega)))) | (with_reducible refine Below.drew ?_) | (with_reducible refine Below.alloc ?_ (by first | omega | (simp; done) | (simp; omega)) _) | (with_reducible refine Below.setCell ?_ (by first | omega | (simp; done) | (simp; omega)) _))), (by first | omega | (simp; done) | (simp; omega))⟩
set_option maxRecDepth 100000 in
set_option maxHeartbeats 2000000 in
theorem FormatInt_spec_9 (w : World) : Calls Tryd.prog 64 #[.int .i64 9] w fun e w' => e = .returned (.string (dig 9)) ∧ Below w.heap.size w w' ∧ w.heap.size ≤ w'.heap.size := by
  have kc : ∀ W : World, (convert 53 9 (.slice (some ⟨W.heap.size, 0, none⟩) 1 1)).run Tryd.prog (W.alloc (.cells #[.int .u8 57] 5)) = .ok (.string ⟨#[57]⟩) (W.alloc (.cells #[.int .u8 57] 5)) := fun W => conv_one W 57
  go_enter Tryd.func64, Tryd.ntmps64
  go_wp2
  refine wp_loop_rounds 2 ?_
  rw [rounds_succ]
  go_wp2
  rw [rounds_succ]
  go_wp2
  go_ret
  exact ⟨rfl, (by repeat (first | exact Below.refl _ _ | assumption | (refine Below.trans ?_ (Below.mono (by assumption) (by first | omega | (simp; done) | (simp; omega)))) | (with_reducible refine Below.drew ?_) | (with_reducible refine Below.alloc ?_ (by first | omega | (simp; done) | (simp; omega)) _) | (with_reducible refine Below.setCell ?_ (by first | omega | (simp; done) | (simp; omega)) _))), (by first | omega | (simp; done) | (simp; omega))⟩
theorem FormatInt_spec9 (x : Int) (h0 : 0 ≤ x) (h1 : x ≤ 9) (w : World) : Calls Tryd.prog 64 #[.int .i64 x] w fun e w' => e = .returned (.string (dig x)) ∧ Below w.heap.size w w' ∧ w.heap.size ≤ w'.heap.size := by
  rcases small10 h0 h1 with rfl | rfl | rfl | rfl | rfl | rfl | rfl | rfl | rfl | rfl
  · exact FormatInt_spec_0 w
  · exact FormatInt_spec_1 w
  · exact FormatInt_spec_2 w
  · exact FormatInt_spec_3 w
  · exact FormatInt_spec_4 w
  · exact FormatInt_spec_5 w
  · exact FormatInt_spec_6 w
  · exact FormatInt_spec_7 w
  · exact FormatInt_spec_8 w
  · exact FormatInt_spec_9 w
theorem FormatInt_spec (x : Int) (h0 : 0 ≤ x) (h1 : x ≤ 3) (w : World) : Calls Tryd.prog 64 #[.int .i64 x] w fun e w' => e = .returned (.string (dig x)) ∧ Below w.heap.size w w' ∧ w.heap.size ≤ w'.heap.size := FormatInt_spec9 x h0 (by omega) w
end Go.Proofs.YtijocafindbebaaDoor
