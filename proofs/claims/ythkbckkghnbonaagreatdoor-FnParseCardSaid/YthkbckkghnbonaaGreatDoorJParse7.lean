/- What the calls that this law reaches answer, part 7 of 16. -/
import Derived.Test.YthkbckkghnbonaaGreatDoorJParse1
import Derived.Laws.IdiomStrings
import Derived.Test.YthkbckkghnbonaaGreatDoorJParse6
import Derived.Test.YthkbckkghnbonaaGreatDoorJParse5
import Derived.Test.YthkbckkghnbonaaGreatDoorProg
namespace Go.Proofs.YthkbckkghnbonaaGreatDoor
open Go.RowKit
set_option linter.unusedVariables false
def dig (x : Int) : ByteArray := ⟨#[48 + x.toNat.toUInt8]⟩
theorem small10 {x : Int} (h0 : 0 ≤ x) (h1 : x ≤ 9) : x = 0 ∨ x = 1 ∨ x = 2 ∨ x = 3 ∨ x = 4 ∨ x = 5 ∨ x = 6 ∨ x = 7 ∨ x = 8 ∨ x = 9 := by omega
set_option maxRecDepth 100000 in
set_option maxHeartbeats 4000000 in
theorem FormatInt_impl9 (x : Int) (h0 : 0 ≤ x) (h1 : x ≤ 9) (w : World) : Calls Tryz.prog 133 #[.int .i64 x] w fun e w' => e = .returned (.string (dig x)) ∧ w = w' := by
  rcases small10 h0 h1 with rfl | rfl | rfl | rfl | rfl | rfl | rfl | rfl | rfl | rfl
  all_goals
    clear h0 h1
    go_enter Tryz.func133, Tryz.ntmps133
    go_wp2
    go_ret
    exact ⟨rfl, rfl⟩
theorem conv_one (W : World) (b : UInt8) : (convert 22 9 (.slice (some ⟨W.heap.size, 0, none⟩) 1 1)).run Tryz.prog (W.alloc (.cells #[.int .u8 (b.toNat : Int)] 5)) = .ok (.string ⟨#[b]⟩) (W.alloc (.cells #[.int .u8 (b.toNat : Int)] 5)) := by
  refine run_convert_bytes_back _ _ _ 5 ⟨W.heap.size, 0, none⟩ 1 [b] Tryz.underlying22 Tryz.underlying5 Tryz.underlying9 (fun j hj => ?_)
  obtain rfl : j = 0 := by simpa using hj
  exact World.cell?_alloc_mark W _ _ _ 0
set_option maxRecDepth 100000 in
set_option maxHeartbeats 2000000 in
theorem FormatInt_spec_0 (w : World) : Calls Tryz.prog 124 #[.int .i64 0] w fun e w' => e = .returned (.string (dig 0)) ∧ Below w.heap.size w w' ∧ w.heap.size ≤ w'.heap.size := by
  go_enter Tryz.func124, Tryz.ntmps124
  go_wp2
  go_ret
  exact ⟨rfl, (by repeat (first | exact Below.refl _ _ | assumption | (refine Below.trans ?_ (Below.mono (by assumption) (by first | omega | (simp; done) | (simp; omega)))) | (with_reducible refine Below.drew ?_) | (with_reducible refine Below.alloc ?_ (by first | omega | (simp; done) | (simp; omega)) _) | (with_reducible refine Below.setCell ?_ (by first | omega | (simp; done) | (simp; omega)) _))), (by first | omega | (simp; done) | (simp; omega))⟩
set_option maxRecDepth 100000 in
set_option maxHeartbeats 2000000 in
theorem FormatInt_spec_1 (w : World) : Calls Tryz.prog 124 #[.int .i64 1] w fun e w' => e = .returned (.string (dig 1)) ∧ Below w.heap.size w w' ∧ w.heap.size ≤ w'.heap.size := by
  have kc : ∀ W : World, (convert 22 9 (.slice (some ⟨W.heap.size, 0, none⟩) 1 1)).run Tryz.prog (W.alloc (.cells #[.int .u8 49] 5)) = .ok (.string ⟨#[49]⟩) (W.alloc (.cells #[.int .u8 49] 5)) := fun W => conv_one W 49
  go_enter Tryz.func124, Tryz.ntmps124
  go_wp2
  refine wp_loop_rounds 2 ?_
  rw [rounds_succ]
  go_wp2
  rw [rounds_succ]
  go_wp2
  go_ret
  exact ⟨rfl, (by repeat (first | exact Below.refl _ _ | assumption | (refine Below.trans ?_ (Below.mono (by assumption) (by first | omega | (simp; done) | (simp; omega)))) | (with_reducible refine Below.drew ?_) | (with_reducible refine Below.alloc ?_ (by first | omega | (simp; done) | (simp; omega)) _) | (with_reducible refine Below.setCell ?_ (by first | omega | (simp; done) | (simp; omega)) _))), (by first | omega | (simp; done) | (simp; omega))⟩
set_option maxRecDepth 100000 in
set_option maxHeartbeats 2000000 in
theorem FormatInt_spec_2 (w : World) : Calls Tryz.prog 124 #[.int .i64 2] w fun e w' => e = .returned (.string (dig 2)) ∧ Below w.heap.size w w' ∧ w.heap.size ≤ w'.heap.size := by
  have kc : ∀ W : World, (convert 22 9 (.slice (some ⟨W.heap.size, 0, none⟩) 1 1)).run Tryz.prog (W.alloc (.cells #[.int .u8 50] 5)) = .ok (.string ⟨#[50]⟩) (W.alloc (.cells #[.int .u8 50] 5)) := fun W => conv_one W 50
  go_enter Tryz.func124, Tryz.ntmps124
  go_wp2
  refine wp_loop_rounds 2 ?_
  rw [rounds_succ]
  go_wp2
  rw [rounds_succ]
  go_wp2
  go_ret
  exact ⟨rfl, (by repeat (first | exact Below.refl _ _ | assumption | (refine Below.trans ?_ (Below.mono (by assumption) (by first | omega | (simp; done) | (simp; omega)))) | (with_reducible refine Below.drew ?_) | (with_reducible refine Below.alloc ?_ (by first | omega | (simp; done) | (simp; omega)) _) | (with_reducible refine Below.setCell ?_ (by first | omega | (simp; done) | (simp; omega)) _))), (by first | omega | (simp; done) | (simp; omega))⟩
set_option maxRecDepth 100000 in
set_option maxHeartbeats 2000000 in
theorem FormatInt_spec_3 (w : World) : Calls Tryz.prog 124 #[.int .i64 3] w fun e w' => e = .returned (.string (dig 3)) ∧ Below w.heap.size w w' ∧ w.heap.size ≤ w'.heap.size := by
  have kc : ∀ W : World, (convert 22 9 (.slice (some ⟨W.heap.size, 0, none⟩) 1 1)).run Tryz.prog (W.alloc (.cells #[.int .u8 51] 5)) = .ok (.string ⟨#[51]⟩) (W.alloc (.cells #[.int .u8 51] 5)) := fun W => conv_one W 51
  go_enter Tryz.func124, Tryz.ntmps124
  go_wp2
  refine wp_loop_rounds 2 ?_
  rw [rounds_succ]
  go_wp2
  rw [rounds_succ]
  go_wp2
  go_ret
  exact ⟨rfl, (by repeat (first | exact Below.refl _ _ | assumption | (refine Below.trans ?_ (Below.mono (by assumption) (by first | omega | (simp; done) | (simp; omega)))) | (with_reducible refine Below.drew ?_) | (with_reducible refine Below.alloc ?_ (by first | omega | (simp; done) | (simp; omega)) _) | (with_reducible refine Below.setCell ?_ (by first | omega | (simp; done) | (simp; omega)) _))), (by first | omega | (simp; done) | (simp; omega))⟩
set_option maxRecDepth 100000 in
set_option maxHeartbeats 2000000 in
theorem FormatInt_spec_4 (w : World) : Calls Tryz.prog 124 #[.int .i64 4] w fun e w' => e = .returned (.string (dig 4)) ∧ Below w.heap.size w w' ∧ w.heap.size ≤ w'.heap.size := by
  have kc : ∀ W : World, (convert 22 9 (.slice (some ⟨W.heap.size, 0, none⟩) 1 1)).run Tryz.prog (W.alloc (.cells #[.int .u8 52] 5)) = .ok (.string ⟨#[52]⟩) (W.alloc (.cells #[.int .u8 52] 5)) := fun W => conv_one W 52
  go_enter Tryz.func124, Tryz.ntmps124
  go_wp2
  refine wp_loop_rounds 2 ?_
  rw [rounds_succ]
  go_wp2
  rw [rounds_succ]
  go_wp2
  go_ret
  exact ⟨rfl, (by repeat (first | exact Below.refl _ _ | assumption | (refine Below.trans ?_ (Below.mono (by assumption) (by first | omega | (simp; done) | (simp; omega)))) | (with_reducible refine Below.drew ?_) | (with_reducible refine Below.alloc ?_ (by first | omega | (simp; done) | (simp; omega)) _) | (with_reducible refine Below.setCell ?_ (by first | omega | (simp; done) | (simp; omega)) _))), (by first | omega | (simp; done) | (simp; omega))⟩
set_option maxRecDepth 100000 in
set_option maxHeartbeats 2000000 in
theorem FormatInt_spec_5 (w : World) : Calls Tryz.prog 124 #[.int .i64 5] w fun e w' => e = .returned (.string (dig 5)) ∧ Below w.heap.size w w' ∧ w.heap.size ≤ w'.heap.size := by
  have kc : ∀ W : World, (convert 22 9 (.slice (some ⟨W.heap.size, 0, none⟩) 1 1)).run Tryz.prog (W.alloc (.cells #[.int .u8 53] 5)) = .ok (.string ⟨#[53]⟩) (W.alloc (.cells #[.int .u8 53] 5)) := fun W => conv_one W 53
  go_enter Tryz.func124, Tryz.ntmps124
  go_wp2
  refine wp_loop_rounds 2 ?_
  rw [rounds_succ]
  go_wp2
  rw [rounds_succ]
  go_wp2
  go_ret
  exact ⟨rfl, (by repeat (first | exact Below.refl _ _ | assumption | (refine Below.trans ?_ (Below.mono (by assumption) (by first | omega | (simp; done) | (simp; omega)))) | (with_reducible refine Below.drew ?_) | (with_reducible refine Below.alloc ?_ (by first | omega | (simp; done) | (simp; omega)) _) | (with_reducible refine Below.setCell ?_ (by first | omega | (simp; done) | (simp; omega)) _))), (by first | omega | (simp; done) | (simp; omega))⟩
set_option maxRecDepth 100000 in
set_option maxHeartbeats 2000000 in
theorem FormatInt_spec_6 (w : World) : Calls Tryz.prog 124 #[.int .i64 6] w fun e w' => e = .returned (.string (dig 6)) ∧ Below w.heap.size w w' ∧ w.heap.size ≤ w'.heap.size := by
  have kc : ∀ W : World, (convert 22 9 (.slice (some ⟨W.heap.size, 0, none⟩) 1 1)).run Tryz.prog (W.alloc (.cells #[.int .u8 54] 5)) = .ok (.string ⟨#[54]⟩) (W.alloc (.cells #[.int .u8 54] 5)) := fun W => conv_one W 54
  go_enter Tryz.func124, Tryz.ntmps124
  go_wp2
  refine wp_loop_rounds 2 ?_
  rw [rounds_succ]
  go_wp2
  rw [rounds_succ]
  go_wp2
  go_ret
  exact ⟨rfl, (by repeat (first | exact Below.refl _ _ | assumption | (refine Below.trans ?_ (Below.mono (by assumption) (by first | omega | (simp; done) | (simp; omega)))) | (with_reducible refine Below.drew ?_) | (with_reducible refine Below.alloc ?_ (by first | omega | (simp; done) | (simp; omega)) _) | (with_reducible refine Below.setCell ?_ (by first | omega | (simp; done) | (simp; omega)) _))), (by first | omega | (simp; done) | (simp; omega))⟩
set_option maxRecDepth 100000 in
set_option maxHeartbeats 2000000 in
theorem FormatInt_spec_7 (w : World) : Calls Tryz.prog 124 #[.int .i64 7] w fun e w' => e = .returned (.string (dig 7)) ∧ Below w.heap.size w w' ∧ w.heap.size ≤ w'.heap.size := by
  have kc : ∀ W : World, (convert 22 9 (.slice (some ⟨W.heap.size, 0, none⟩) 1 1)).run Tryz.prog (W.alloc (.cells #[.int .u8 55] 5)) = .ok (.string ⟨#[55]⟩) (W.alloc (.cells #[.int .u8 55] 5)) := fun W => conv_one W 55
  go_enter Tryz.func124, Tryz.ntmps124
  go_wp2
  refine wp_loop_rounds 2 ?_
  rw [rounds_succ]
  go_wp2
  rw [rounds_succ]
  go_wp2
  go_ret
  exact ⟨rfl, (by repeat (first | exact Below.refl _ _ | assumption | (refine Below.trans ?_ (Below.mono (by assumption) (by first | omega | (simp; done) | (simp; omega)))) | (with_reducible refine Below.drew ?_) | (with_reducible refine Below.alloc ?_ (by first | omega | (simp; done) | (simp; omega)) _) | (with_reducible refine Below.setCell ?_ (by first | omega | (simp; done) | (simp; omega)) _))), (by first | omega | (simp; done) | (simp; omega))⟩
set_option maxRecDepth 100000 in
set_option maxHeartbeats 2000000 in
theorem FormatInt_spec_8 (w : World) : Calls Tryz.prog 124 #[.int .i64 8] w fun e w' => e = .returned (.string (dig 8)) ∧ Below w.heap.size w w' ∧ w.heap.size ≤ w'.heap.size := by
  have kc : ∀ W : World, (convert 22 9 (.slice (some ⟨W.heap.size, 0, none⟩) 1 1)).run Tryz.prog (W.alloc (.cells #[.int .u8 56] 5)) = .ok (.string ⟨#[56]⟩) (W.alloc (.cells #[.int .u8 56] 5)) := fun W => conv_one W 56
  go_enter Tryz.func124, Tryz.ntmps124
  go_wp2
  refine wp_loop_rounds 2 ?_
  rw [rounds_succ]
  go_wp2
  rw [rounds_succ]
  go_wp2
  go_ret
  exact ⟨rfl, (by repeat (first | exact Below.refl _ _ | assumption | (refine Below.trans ?_ (Below.mono (by assumption) (by first | omega | (simp; done) | (simp; omega)))) | (with_reducible refine Below.drew ?_) | (with_reducible refine Below.alloc ?_ (by first | omega | (simp; done) | (simp; omega)) _) | (with_reducible refine Below.setCell ?_ (by first | omega | (simp; done) | (simp; omega)) _))), (by first | omega | (simp; done) | (simp; omega))⟩
set_option maxRecDepth 100000 in
set_option maxHeartbeats 2000000 in
theorem FormatInt_spec_9 (w : World) : Calls Tryz.prog 124 #[.int .i64 9] w fun e w' => e = .returned (.string (dig 9)) ∧ Below w.heap.size w w' ∧ w.heap.size ≤ w'.heap.size := by
  have kc : ∀ W : World, (convert 22 9 (.slice (some ⟨W.heap.size, 0, none⟩) 1 1)).run Tryz.prog (W.alloc (.cells #[.int .u8 57] 5)) = .ok (.string ⟨#[57]⟩) (W.alloc (.cells #[.int .u8 57] 5)) := fun W => conv_one W 57
  go_enter Tryz.func124, Tryz.ntmps124
  go_wp2
  refine wp_loop_rounds 2 ?_
  rw [rounds_succ]
  go_wp2
  rw [rounds_succ]
  go_wp2
  go_ret
  exact ⟨rfl, (by repeat (first | exact Below.refl _ _ | assumption | (refine Below.trans ?_ (Below.mono (by assumption) (by first | omega | (simp; done) | (simp; omega)))) | (with_reducible refine Below.drew ?_) | (with_reducible refine Below.alloc ?_ (by first | omega | (simp; done) | (simp; omega)) _) | (with_reducible refine Below.setCell ?_ (by first | omega | (simp; done) | (simp; omega)) _))), (by first | omega | (simp; done) | (simp; omega))⟩
theorem FormatInt_spec9 (x : Int) (h0 : 0 ≤ x) (h1 : x ≤ 9) (w : World) : Calls Tryz.prog 124 #[.int .i64 x] w fun e w' => e = .returned (.string (dig x)) ∧ Below w.heap.size w w' ∧ w.heap.size ≤ w'.heap.size := by
  rcases small10 h0 h1 with rfl | rfl | rfl | rfl | rfl | rfl | rfl | rfl | rfl | rfl
  · exact FormatInt_spec_0 w
  · exact FormatInt_spec_1 w
  · exact FormatInt_spec_2 w
  · exact FormatInt_spec_3 w
  · exact FormatInt_spec_4 w
  · exact FormatInt_spec_5 w
  · exact FormatInt_spec_6 w
  · exact FormatInt_spec_7 w
  · exact FormatInt_spec_8 w
  · exact FormatInt_spec_9 w
end Go.Proofs.YthkbckkghnbonaaGreatDoor
namespace Go.Proofs.YthkbckkghnbonaaGreatDoor
open Go.RowKit
set_option linter.unusedVariables false
def heads : List ByteArray := [⟨#[]⟩, ⟨#[]⟩, ⟨#[114, 101, 112, 101, 97, 116]⟩, ⟨#[97, 100, 106, 111, 105, 110, 116]⟩, ⟨#[99, 111, 110, 116, 114, 111, 108]⟩, ⟨#[97, 110, 99, 105, 108, 108, 97]⟩, ⟨#[109, 101, 97, 115, 117, 114, 101]⟩, ⟨#[105, 102]⟩]
def headW (k : Int) (word : ByteArray) : ByteArray := if k = 1 then word else heads.getD k.toNat ⟨#[]⟩
/-- The tokens of one statement, those of its body given. -/
def toks1 (h : SH) (body : List Tk) : List Tk :=
  [wTk (headW h.k h.word)] ++ (if h.k = 2 then [wTk (dig h.count)] else []) ++ h.args.map wTk ++ (if h.k = 1 ∨ h.k = 6 then [pTk 2] else [pTk 3] ++ body ++ [pTk 4])
/-- The tokens of a list of statements. -/
def toksT : (d : Nat) → List (Tr d) → List Tk
  | 0, _ => []
  | d + 1, l => l.flatMap fun s => toks1 (hdT s) (toksT d (bdT s))
set_option maxRecDepth 100000 in
theorem word_any (s : ByteArray) (w : World) : Calls Tryz.prog 95 #[.string s] w fun e w' => e = .returned (.agg #[.int .i64 1, .string s]) ∧ Below w.heap.size w w' ∧ w.heap.size ≤ w'.heap.size := by
  go_enter Tryz.func95, Tryz.ntmps95
  go_wp2
  exact bodyPost_ret (v := .agg #[.int .i64 1, .string s]) (by simp [results, Tryz.results95, go_sem]) rfl ⟨rfl, (by repeat (first | exact Below.refl _ _ | assumption | (refine Below.trans ?_ (Below.mono (by assumption) (by first | omega | (simp; done) | (simp; omega)))) | (with_reducible refine Below.drew ?_) | (with_reducible refine Below.alloc ?_ (by first | omega | (simp; done) | (simp; omega)) _) | (with_reducible refine Below.setCell ?_ (by first | omega | (simp; done) | (simp; omega)) _))), (by first | omega | (simp; done) | (simp; omega))⟩
set_option maxRecDepth 100000 in
theorem l19Word_any (s : ByteArray) (w : World) : Calls Tryz.prog 97 #[.string s] w fun e w' => e = .returned (.agg #[.int .i64 1, .string s]) ∧ Below w.heap.size w w' ∧ w.heap.size ≤ w'.heap.size := by
  go_enter Tryz.func97, Tryz.ntmps97
  go_wp2
  exact bodyPost_ret (v := .agg #[.int .i64 1, .string s]) (by simp [results, Tryz.results97, go_sem]) rfl ⟨rfl, (by repeat (first | exact Below.refl _ _ | assumption | (refine Below.trans ?_ (Below.mono (by assumption) (by first | omega | (simp; done) | (simp; omega)))) | (with_reducible refine Below.drew ?_) | (with_reducible refine Below.alloc ?_ (by first | omega | (simp; done) | (simp; omega)) _) | (with_reducible refine Below.setCell ?_ (by first | omega | (simp; done) | (simp; omega)) _))), (by first | omega | (simp; done) | (simp; omega))⟩
end Go.Proofs.YthkbckkghnbonaaGreatDoor
namespace Go.Proofs.YthkbckkghnbonaaGreatDoor
open Go.RowKit
set_option linter.unusedVariables false
theorem validT_mem {d : Nat} {l : List (Tr (d + 1))} {t : Nat} {s : Tr (d + 1)} (h : validT (d + 1) l = true) (hs : l[t]? = some s) : vOne d (validT d) (hdT s) (bdT s) = true := List.all_eq_true.1 h s (List.mem_of_getElem? hs)
theorem vOne_facts {d : Nat} {k : Int} {word : ByteArray} {args : List ByteArray} {count : Int} {bd : List (Tr d)} (h : vOne d (validT d) ⟨k, word, args, count⟩ bd = true) : (1 ≤ k ∧ k ≤ 7) ∧ (k = 2 → 1 ≤ count ∧ count ≤ 9) ∧ validT d bd = true := by
  unfold vOne headV at h
  simp only [Bool.and_eq_true] at h
  obtain ⟨⟨h1, _, _, _, _, h2⟩, _, h3⟩ := h
  refine ⟨inB_iff.1 h1, fun hk => ?_, h3⟩
  unfold okCount at h2
  rw [if_pos hk] at h2
  exact inB_iff.1 h2
theorem own_low {w : World} {B B' e size n : Nat} {v : Value} {xs : List Value} (h : w.ownsRow B e size v n xs) (hB : B' ≤ B) : w.ownsRow B' e size v n xs := by
  refine ⟨h.1, ?_⟩
  rcases h.2 with h2 | ⟨g, cap, cur, h1, h2, h3⟩
  · exact .inl h2
  · exact .inr ⟨g, cap, cur, h1, Nat.le_trans hB h2, h3⟩
end Go.Proofs.YthkbckkghnbonaaGreatDoor
namespace Go.Proofs.YthkbckkghnbonaaGreatDoor
open Go.RowKit
set_option linter.unusedVariables false
/-- A call that hands back these tokens in new memory. -/
def RetTk (w : World) (L : List Tk) : Ending → World → Prop := RetRow 110 2 w L.length (tkcs L)
theorem retTk_of {w w' : World} {L : List Tk} {v : Value} {n : Nat} {xs : List Value} (he : xs = tkcs L) (ho : w'.ownsRow w.heap.size 110 2 v n xs) (hb : Below w.heap.size w w') (hs : w.heap.size ≤ w'.heap.size) : RetTk w L (.returned v) w' := by
  subst he
  have hn : L.length = n := by have := ho.1; rw [tkcs_len] at this; omega
  exact ⟨v, rfl, by rw [hn]; exact ho, hb, hs⟩
/-- The statements of a body, and the tokens of each. -/
def EltsT (f : Nat) (w : World) (Ab : Option Addr) (nb : Nat) (rs : List (List Tk)) : Prop := ∀ t, t < nb → ∃ (b off : Nat) (k : Int) (wd : ByteArray) (Aa : Option Addr) (na ca : Nat) (ct : Int) (Ab' : Option Addr) (nb' cb' : Nat) (r : List Tk),
  Ab = some ⟨b, off, none⟩ ∧ b < w.heap.size ∧ (w.cell? ⟨b, off + t * 5, none⟩ = some (.int .i64 k) ∧ w.cell? ⟨b, off + t * 5 + 1, none⟩ = some (.string wd) ∧ w.cell? ⟨b, off + t * 5 + 2, none⟩ = some (.slice Aa na ca) ∧ w.cell? ⟨b, off + t * 5 + 3, none⟩ = some (.int .i64 ct) ∧ w.cell? ⟨b, off + t * 5 + 4, none⟩ = some (.slice Ab' nb' cb')) ∧
  rs[t]? = some r ∧ ∀ w', Below w.heap.size w w' → Calls Tryz.prog f #[.agg #[.int .i64 k, .string wd, .slice Aa na ca, .int .i64 ct, .slice Ab' nb' cb']] w' (RetTk w' r)
theorem map_step {α : Type} {f : ByteArray → α} {l : List ByteArray} {t : Nat} {s : ByteArray} (h : l[t]? = some s) : (l.take (t + 1)).map f = (l.take t).map f ++ [f s] := by
  rw [List.take_add_one, h]
  simp
set_option maxRecDepth 100000 in
set_option maxHeartbeats 1000000 in
theorem l19Words_any (A : Option Addr) (n c : Nat) (l : List ByteArray) (w : World) (h : Rd w 1 A n (strs l)) (hl : l.length = n) (hn : n ≤ 1048576) :
    Calls Tryz.prog 98 #[.slice A n c] w (RetRow 110 2 w n (tkcs (l.map wTk))) := by
  obtain ⟨i0, hi, hz0, hz1, hz2⟩ := info_parts info_TkE
  have H := Lib.hid h
  have HL := Lib.hid hl
  clear h hl
  go_enter Tryz.func98, Tryz.ntmps98
  go_wp2
  go_loopw [3, 4] (fun v i wr => ∃ t : Nat, t ≤ n ∧ i = .int .i64 t ∧ wr.ownsRow w.heap.size 110 2 v t (tkcs ((l.take t).map wTk)) ∧ Below w.heap.size w wr) (fun _ i _ => n - (intOf i).toNat)
  case atStart => exact ⟨0, Nat.zero_le _, rfl, own_empty w _ 2, (by repeat (first | exact Below.refl _ _ | assumption | (refine Below.trans ?_ (Below.mono (by assumption) (by first | omega | (simp; done) | (simp; omega)))) | (with_reducible refine Below.drew ?_) | (with_reducible refine Below.alloc ?_ (by first | omega | (simp; done) | (simp; omega)) _) | (with_reducible refine Below.setCell ?_ (by first | omega | (simp; done) | (simp; omega)) _)))⟩
  case round =>
    obtain ⟨t, ht, rfl, hown, hb⟩ := hrel
    have hbs := hb.size
    by_cases hlt : t < n
    · obtain ⟨s, hs⟩ : ∃ s, l[t]? = some s := ⟨_, List.getElem?_eq_getElem (by have := HL.out; omega)⟩
      obtain ⟨b, off, rfl, hbl, hc⟩ := H.out.2 (by omega)
      have q0 : wr.cell? ⟨b, off + t, none⟩ = some (.string s) := (hb.cell (by exact hbl)).trans (hc t _ (strs_at hs))
      have HS := Lib.hid (map_step (f := wTk) hs)
      obtain ⟨L, hL⟩ : ∃ L, L = (l.take t).map wTk := ⟨_, rfl⟩
      rw [← hL] at hown HS
      clear hc hs hL
      go_wp2_with fail
      refine (l19Word_any s _).mono ?_
      rintro e w1 ⟨rfl, b1, s1⟩
      have hown1 := ownsRow_below hown b1
      have hb1 := hb.trans (b1.mono hbs)
      have hb1s := hb1.size
      clear hown
      go_wp2_with (at_builtin; refine wpList_append_rd _ rfl _ _ 53 rfl w.heap.size 110 i0 _ 2 24 Tryz.underlying53 hi hz0 hz1 hz2 rfl (by decide) _ _ _ rfl (hown1.alloc _) _ 1 1 _ rfl (rd_lit2 ?c0 rfl) ?c2 ?c3 ?c4 ?c5 ?_)
      case c0 => first | rfl | simp
      case c2 => repeat' (first | rfl | apply And.intro)
      case c3 => simp only [maxLen]; omega
      case c4 => omega
      case c5 => simp; omega
      intro v3 w3 own3 gr3 _
      have b3 := (hb1.alloc hb1s _).grown gr3 (by simp; omega) (own_ge hown1)
      clear hown1 gr3
      go_wp2_with fail
      go_roundw
      case rel =>
        refine ⟨t + 1, by omega, by go_num, ?_, b3⟩
        rw [HS.out, tkcs_append]
        exact own3
      case measure => simp [intOf]; omega
    · obtain rfl : t = n := by omega
      go_wp2_with fail
      go_ret
      exact ⟨_, rfl, by rw [List.take_of_length_le (by rw [HL.out]; exact Nat.le_refl _)] at hown; exact hown, hb, hb.size⟩
end Go.Proofs.YthkbckkghnbonaaGreatDoor
namespace Go.Proofs.YthkbckkghnbonaaGreatDoor
open Go.RowKit
set_option linter.unusedVariables false
theorem u8_of (k : Nat) : (((48 + k % 10).toUInt8).toNat : Int) = 48 + (k : Int) % 10 := by
  have : (48 + k % 10).toUInt8.toNat = (48 + k % 10) % 256 := by simp [Nat.toUInt8]
  omega
theorem conv1 (W : World) (b : UInt8) : (convert 22 9 (.slice (some ⟨W.heap.size, 0, none⟩) 1 1)).run Tryz.prog (W.alloc (.cells #[.int .u8 (b.toNat : Int)] 5)) = .ok (.string ⟨#[b]⟩) (W.alloc (.cells #[.int .u8 (b.toNat : Int)] 5)) := by
  refine run_convert_bytes_back _ _ _ 5 ⟨W.heap.size, 0, none⟩ 1 [b] Tryz.underlying22 Tryz.underlying5 Tryz.underlying9 (fun j hj => ?_)
  obtain rfl : j = 0 := by simpa using hj
  exact World.cell?_alloc_mark W _ _ _ 0
end Go.Proofs.YthkbckkghnbonaaGreatDoor
namespace Go.Proofs.YthkbckkghnbonaaGreatDoor
open Go.RowKit
set_option linter.unusedVariables false
theorem flat_le {α : Type} : ∀ (rs : List (List α)) (t : Nat), (rs.take t).flatten.length ≤ rs.flatten.length := by
  intro rs t
  conv => rhs; rw [← List.take_append_drop t rs, List.flatten_append, List.length_append]
  omega
theorem flat_step {α : Type} {rs : List (List α)} {t : Nat} {r : List α} (h : rs[t]? = some r) : (rs.take (t + 1)).flatten = (rs.take t).flatten ++ r := by
  rw [List.take_add_one, h]
  simp
set_option maxRecDepth 100000 in
set_option maxHeartbeats 4000000 in
theorem toks_impl_1 (word : ByteArray) (args : List ByteArray) (count : Int) (Aa : Option Addr) (m ca : Nat) (Ab : Option Addr) (nb cb : Nat) (w : World) (rs : List (List Tk)) (hm : args.length = m) (hra : Rd w 1 Aa m (strs args)) (hl : m ≤ 1048576) (hn : nb ≤ 1048576) (hrs : rs.length = nb) (hel : EltsT 96 w Ab nb rs) (hR : rs.flatten.length ≤ 1099511627776) :
    Calls Tryz.prog 96 #[.agg #[.int .i64 1, .string word, .slice Aa m ca, .int .i64 count, .slice Ab nb cb]] w (RetTk w (toks1 ⟨1, word, args, count⟩ rs.flatten)) := by
  obtain ⟨i0, hi, hz0, hz1, hz2⟩ := info_parts info_TkE
  obtain ⟨w0, hw0⟩ : ∃ w0, w0 = w.alloc (.cells #[.int .i64 1, .string word, .slice Aa m ca, .int .i64 count, .slice Ab nb cb] 66) := ⟨_, rfl⟩
  have X0 := Lib.hid (show w0.heap[w.heap.size]? = some (.cells #[.int .i64 1, .string word, .slice Aa m ca, .int .i64 count, .slice Ab nb cb] 66 (0, 0)) by rw [hw0]; exact boxed1_0 _ _)
  have b0 : Below w.heap.size w w0 := by rw [hw0]; exact (by repeat (first | exact Below.refl _ _ | assumption | (refine Below.trans ?_ (Below.mono (by assumption) (by first | omega | (simp; done) | (simp; omega)))) | (with_reducible refine Below.drew ?_) | (with_reducible refine Below.alloc ?_ (by first | omega | (simp; done) | (simp; omega)) _) | (with_reducible refine Below.setCell ?_ (by first | omega | (simp; done) | (simp; omega)) _)))
  have s0 : w.heap.size ≤ w0.heap.size := b0.size
  have z0 : w.heap.size < w0.heap.size := by rw [hw0]; simp
  have B0 := Lib.hid b0
  have HW := Lib.hid hw0
  have HM := Lib.hid hm
  have HRA := Lib.hid (hra.below b0)
  have HEL := Lib.hid hel
  have HRS := Lib.hid hrs
  have HR := Lib.hid hR
  clear b0 hw0 hm hra hel hrs hR
  go_enter Tryz.func96, Tryz.ntmps96
  go_wp2_with fail
  rw [← HW.out]
  refine (word_any _ _).mono ?_
  rintro e w1 ⟨rfl, b1, s1⟩
  have hb1 : Below w0.heap.size w0 w1 := ((Below.refl _ _).alloc (Nat.le_refl _) _).trans (b1.mono (by simp))
  have hs1 := hb1.size
  obtain ⟨p0, p1, p2, p3, p4⟩ := boxcells5 (lay := hb1) X0.out
  have zl1 : w.heap.size < w1.heap.size := by omega
  clear b1 s1
  obtain ⟨w2, hw2⟩ : ∃ w2, w2 = w1.alloc (.cells #[.int .i64 1, .string word] 110) := ⟨_, rfl⟩
  have own2 : w2.ownsRow w0.heap.size 110 2 (.slice (some ⟨w1.heap.size, 0, none⟩) 1 1) 1 (tkcs [wTk word]) := by rw [hw2]; exact World.ownsRow_lit w1 #[.int .i64 1, .string word] 1 hs1 (by simp [maxLen]) rfl
  have hb2 : Below w0.heap.size w0 w2 := by rw [hw2]; exact hb1.alloc hs1 _
  have hs2 := hb2.size
  have HW2 := Lib.hid hw2
  clear hw2
  go_wp2_with fail
  rw [← HW2.out]
  obtain ⟨L0, hL0⟩ : ∃ L0, L0 = [wTk word] := ⟨_, rfl⟩
  have HL0 := Lib.hid hL0
  rw [← hL0] at own2
  clear hL0
  go_loopw [4, 33] (fun v i wr => ∃ t : Nat, t ≤ m ∧ i = .int .i64 t ∧ wr.ownsRow w0.heap.size 110 2 v (1 + t) (tkcs (L0 ++ (args.take t).map wTk)) ∧ Below w0.heap.size w0 wr) (fun _ i _ => m - (intOf i).toNat)
  case atStart => exact ⟨0, Nat.zero_le _, rfl, by simpa using own2, hb2⟩
  case round =>
    obtain ⟨t, ht, rfl, hown, hb⟩ := hrel
    have hbs := hb.size
    by_cases hlt : t < m
    · obtain ⟨s, hs⟩ : ∃ s, args[t]? = some s := ⟨_, List.getElem?_eq_getElem (by have := HM.out; omega)⟩
      obtain ⟨b, off, rfl, hbl, hc⟩ := HRA.out.2 (by omega)
      have q0 : wr.cell? ⟨b, off + t, none⟩ = some (.string s) := (hb.cell (by exact hbl)).trans (hc t _ (strs_at hs))
      have HS := Lib.hid (map_step (f := wTk) hs)
      obtain ⟨L, hL⟩ : ∃ L, L = (args.take t).map wTk := ⟨_, rfl⟩
      rw [← hL] at hown HS
      clear hc hs hL
      go_wp2_with fail
      refine (word_any s _).mono ?_
      rintro e w5 ⟨rfl, b5, s5⟩
      have hown1 := ownsRow_below hown b5
      have hb5 := hb.trans (b5.mono hbs)
      have hb5s := hb5.size
      clear hown
      go_wp2_with (at_builtin; refine wpList_append_rd _ rfl _ _ 53 rfl w0.heap.size 110 i0 _ 2 24 Tryz.underlying53 hi hz0 hz1 hz2 rfl (by decide) _ _ _ rfl (hown1.alloc _) _ 1 1 _ rfl (rd_lit2 ?c0 rfl) ?c2 ?c3 ?c4 ?c5 ?_)
      case c0 => first | rfl | simp
      case c2 => repeat' (first | rfl | apply And.intro)
      case c3 => simp only [maxLen]; omega
      case c4 => omega
      case c5 => first | omega | (simp; omega)
      intro v6 w6 own6 gr6 _
      have hb6 := (hb5.alloc hb5s _).grown gr6 (by simp; omega) (own_ge hown1)
      clear hown1 gr6
      go_wp2_with fail
      go_roundw
      case rel =>
        refine ⟨t + 1, by omega, by go_num, ?_, hb6⟩
        rw [HS.out, ← List.append_assoc, tkcs_append, ← Nat.add_assoc]
        exact own6
      case measure => simp [intOf]; omega
    · obtain rfl : m = t := by omega
      rw [List.take_of_length_le (by have := HM.out; omega)] at hown
      obtain ⟨L1, hL1⟩ : ∃ L1, L1 = L0 ++ args.map wTk := ⟨_, rfl⟩
      rw [← hL1] at hown
      have HL1 : Hid (L1 = [wTk word] ++ args.map wTk) := by rw [hL1, HL0.out]; exact rfl
      clear hL1
      obtain ⟨p0, p1, p2, p3, p4⟩ := boxcells5 (lay := hb) X0.out
      have zl : w.heap.size < wr.heap.size := by omega
      go_wp2_with (first | (go_at_call 103; refine (hasBody_any _ _).mono ?_; rintro e w' ⟨rfl, rfl⟩) | (at_builtin; refine wpList_append_rd _ rfl _ _ 53 rfl w0.heap.size 110 i0 _ 2 24 Tryz.underlying53 hi hz0 hz1 hz2 rfl (by decide) _ _ _ rfl (hown.alloc _) _ 1 1 _ rfl (rd_lit2 ?c0 rfl) ?c2 ?c3 ?c4 ?c5 ?_))
      case c0 => first | rfl | simp
      case c2 => repeat' (first | rfl | apply And.intro)
      case c3 => simp only [maxLen]; omega
      case c4 => omega
      case c5 => first | omega | (simp; omega)
      intro v7 w7 own7 gr7 _
      have hb7 := (hb.alloc hbs _).grown gr7 (by simp; omega) (own_ge hown)
      have hs7 := hb7.size
      clear hown gr7 p0 p1 p2 p3 p4
      go_wp2_with fail
      go_ret
      have e : toks1 ⟨1, word, args, count⟩ rs.flatten = ([wTk word] ++ args.map wTk) ++ [pTk 2] := by simp [toks1, headW]
      refine retTk_of ?_ (own_low own7 s0) (B0.out.trans (hb7.mono s0)) (by omega)
      rw [e, tkcs_append, ← HL1.out]
      rfl
set_option maxRecDepth 100000 in
set_option maxHeartbeats 4000000 in
theorem toks_impl_2 (word : ByteArray) (args : List ByteArray) (count : Int) (Aa : Option Addr) (m ca : Nat) (Ab : Option Addr) (nb cb : Nat) (w : World) (rs : List (List Tk)) (hm : args.length = m) (hra : Rd w 1 Aa m (strs args)) (hl : m ≤ 1048576) (hn : nb ≤ 1048576) (hrs : rs.length = nb) (hel : EltsT 96 w Ab nb rs) (hR : rs.flatten.length ≤ 1099511627776) (c1 : 1 ≤ count) (c2 : count ≤ 9) :
    Calls Tryz.prog 96 #[.agg #[.int .i64 2, .string word, .slice Aa m ca, .int .i64 count, .slice Ab nb cb]] w (RetTk w (toks1 ⟨2, word, args, count⟩ rs.flatten)) := by
  obtain ⟨i0, hi, hz0, hz1, hz2⟩ := info_parts info_TkE
  obtain ⟨w0, hw0⟩ : ∃ w0, w0 = w.alloc (.cells #[.int .i64 2, .string word, .slice Aa m ca, .int .i64 count, .slice Ab nb cb] 66) := ⟨_, rfl⟩
  have X0 := Lib.hid (show w0.heap[w.heap.size]? = some (.cells #[.int .i64 2, .string word, .slice Aa m ca, .int .i64 count, .slice Ab nb cb] 66 (0, 0)) by rw [hw0]; exact boxed1_0 _ _)
  have b0 : Below w.heap.size w w0 := by rw [hw0]; exact (by repeat (first | exact Below.refl _ _ | assumption | (refine Below.trans ?_ (Below.mono (by assumption) (by first | omega | (simp; done) | (simp; omega)))) | (with_reducible refine Below.drew ?_) | (with_reducible refine Below.alloc ?_ (by first | omega | (simp; done) | (simp; omega)) _) | (with_reducible refine Below.setCell ?_ (by first | omega | (simp; done) | (simp; omega)) _)))
  have s0 : w.heap.size ≤ w0.heap.size := b0.size
  have z0 : w.heap.size < w0.heap.size := by rw [hw0]; simp
  have B0 := Lib.hid b0
  have HW := Lib.hid hw0
  have HM := Lib.hid hm
  have HRA := Lib.hid (hra.below b0)
  have HEL := Lib.hid hel
  have HRS := Lib.hid hrs
  have HR := Lib.hid hR
  clear b0 hw0 hm hra hel hrs hR
  go_enter Tryz.func96, Tryz.ntmps96
  go_wp2_with fail
  rw [← HW.out]
  refine (word_any _ _).mono ?_
  rintro e w1 ⟨rfl, b1, s1⟩
  have hb1 : Below w0.heap.size w0 w1 := ((Below.refl _ _).alloc (Nat.le_refl _) _).trans (b1.mono (by simp))
  have hs1 := hb1.size
  obtain ⟨p0, p1, p2, p3, p4⟩ := boxcells5 (lay := hb1) X0.out
  have zl1 : w.heap.size < w1.heap.size := by omega
  clear b1 s1
  obtain ⟨w2, hw2⟩ : ∃ w2, w2 = w1.alloc (.cells #[.int .i64 1, .string ⟨#[114, 101, 112, 101, 97, 116]⟩] 110) := ⟨_, rfl⟩
  have own2 : w2.ownsRow w0.heap.size 110 2 (.slice (some ⟨w1.heap.size, 0, none⟩) 1 1) 1 (tkcs [wTk ⟨#[114, 101, 112, 101, 97, 116]⟩]) := by rw [hw2]; exact World.ownsRow_lit w1 #[.int .i64 1, .string ⟨#[114, 101, 112, 101, 97, 116]⟩] 1 hs1 (by simp [maxLen]) rfl
  have hb2 : Below w0.heap.size w0 w2 := by rw [hw2]; exact hb1.alloc hs1 _
  have hs2 := hb2.size
  have HW2 := Lib.hid hw2
  clear hw2
  go_wp2_with fail
  rw [← HW2.out]
  refine (FormatInt_impl9 count (by omega) c2 _).mono ?_
  rintro e w' ⟨rfl, rfl⟩
  go_wp2_with fail
  refine (word_any _ _).mono ?_
  rintro e w3 ⟨rfl, b3, s3⟩
  have own3 := ownsRow_below own2 b3
  have hb3 := hb2.trans (b3.mono hs2)
  have hs3 := hb3.size
  clear own2
  go_wp2_with (at_builtin; refine wpList_append_rd _ rfl _ _ 53 rfl w0.heap.size 110 i0 _ 2 24 Tryz.underlying53 hi hz0 hz1 hz2 rfl (by decide) _ _ _ rfl (own3.alloc _) _ 1 1 _ rfl (rd_lit2 ?c0 rfl) ?c2 ?c3 ?c4 ?c5 ?_)
  case c0 => first | rfl | simp
  case c2 => repeat' (first | rfl | apply And.intro)
  case c3 => simp only [maxLen]; omega
  case c4 => omega
  case c5 => first | omega | (simp; omega)
  intro v4 w4 own4 gr4 _
  have hb4 := (hb3.alloc hs3 _).grown gr4 (by simp; omega) (own_ge own3)
  have hs4 := hb4.size
  clear own3 gr4 p0 p1 p2 p3 p4
  obtain ⟨p0, p1, p2, p3, p4⟩ := boxcells5 (lay := hb4) X0.out
  have zl4 : w.heap.size < w4.heap.size := by omega
  have own4 : w4.ownsRow w0.heap.size 110 2 v4 2 (tkcs ([wTk ⟨#[114, 101, 112, 101, 97, 116]⟩] ++ [wTk (dig count)])) := by rw [tkcs_append]; exact own4
  go_wp2_with fail
  obtain ⟨L0, hL0⟩ : ∃ L0, L0 = ([wTk ⟨#[114, 101, 112, 101, 97, 116]⟩] ++ [wTk (dig count)]) := ⟨_, rfl⟩
  have HL0 := Lib.hid hL0
  rw [← hL0] at own4
  clear hL0
  go_loopw [4, 33] (fun v i wr => ∃ t : Nat, t ≤ m ∧ i = .int .i64 t ∧ wr.ownsRow w0.heap.size 110 2 v (2 + t) (tkcs (L0 ++ (args.take t).map wTk)) ∧ Below w0.heap.size w0 wr) (fun _ i _ => m - (intOf i).toNat)
  case atStart => exact ⟨0, Nat.zero_le _, rfl, by simpa using own4, hb4⟩
  case round =>
    obtain ⟨t, ht, rfl, hown, hb⟩ := hrel
    have hbs := hb.size
    by_cases hlt : t < m
    · obtain ⟨s, hs⟩ : ∃ s, args[t]? = some s := ⟨_, List.getElem?_eq_getElem (by have := HM.out; omega)⟩
      obtain ⟨b, off, rfl, hbl, hc⟩ := HRA.out.2 (by omega)
      have q0 : wr.cell? ⟨b, off + t, none⟩ = some (.string s) := (hb.cell (by exact hbl)).trans (hc t _ (strs_at hs))
      have HS := Lib.hid (map_step (f := wTk) hs)
      obtain ⟨L, hL⟩ : ∃ L, L = (args.take t).map wTk := ⟨_, rfl⟩
      rw [← hL] at hown HS
      clear hc hs hL
      go_wp2_with fail
      refine (word_any s _).mono ?_
      rintro e w5 ⟨rfl, b5, s5⟩
      have hown1 := ownsRow_below hown b5
      have hb5 := hb.trans (b5.mono hbs)
      have hb5s := hb5.size
      clear hown
      go_wp2_with (at_builtin; refine wpList_append_rd _ rfl _ _ 53 rfl w0.heap.size 110 i0 _ 2 24 Tryz.underlying53 hi hz0 hz1 hz2 rfl (by decide) _ _ _ rfl (hown1.alloc _) _ 1 1 _ rfl (rd_lit2 ?c0 rfl) ?c2 ?c3 ?c4 ?c5 ?_)
      case c0 => first | rfl | simp
      case c2 => repeat' (first | rfl | apply And.intro)
      case c3 => simp only [maxLen]; omega
      case c4 => omega
      case c5 => first | omega | (simp; omega)
      intro v6 w6 own6 gr6 _
      have hb6 := (hb5.alloc hb5s _).grown gr6 (by simp; omega) (own_ge hown1)
      clear hown1 gr6
      go_wp2_with fail
      go_roundw
      case rel =>
        refine ⟨t + 1, by omega, by go_num, ?_, hb6⟩
        rw [HS.out, ← List.append_assoc, tkcs_append, ← Nat.add_assoc]
        exact own6
      case measure => simp [intOf]; omega
    · obtain rfl : m = t := by omega
      rw [List.take_of_length_le (by have := HM.out; omega)] at hown
      obtain ⟨L1, hL1⟩ : ∃ L1, L1 = L0 ++ args.map wTk := ⟨_, rfl⟩
      rw [← hL1] at hown
      have HL1 : Hid (L1 = ([wTk ⟨#[114, 101, 112, 101, 97, 116]⟩] ++ [wTk (dig count)]) ++ args.map wTk) := by rw [hL1, HL0.out]; exact rfl
      clear hL1
      obtain ⟨p0, p1, p2, p3, p4⟩ := boxcells5 (lay := hb) X0.out
      have zl : w.heap.size < wr.heap.size := by omega
      go_wp2_with (first | (go_at_call 103; refine (hasBody_any _ _).mono ?_; rintro e w' ⟨rfl, rfl⟩) | (at_builtin; refine wpList_append_rd _ rfl _ _ 53 rfl w0.heap.size 110 i0 _ 2 24 Tryz.underlying53 hi hz0 hz1 hz2 rfl (by decide) _ _ _ rfl (hown.alloc _) _ 1 1 _ rfl (rd_lit2 ?c0 rfl) ?c2 ?c3 ?c4 ?c5 ?_))
      case c0 => first | rfl | simp
      case c2 => repeat' (first | rfl | apply And.intro)
      case c3 => simp only [maxLen]; omega
      case c4 => omega
      case c5 => first | omega | (simp; omega)
      intro v7 w7 own7 gr7 _
      have hb7 := (hb.alloc hbs _).grown gr7 (by simp; omega) (own_ge hown)
      have hs7 := hb7.size
      clear hown gr7 p0 p1 p2 p3 p4
      obtain ⟨p0, p1, p2, p3, p4⟩ := boxcells5 (lay := hb7) X0.out
      have zl7 : w.heap.size < w7.heap.size := by omega
      obtain ⟨L2, hL2⟩ : ∃ L2, L2 = L1 ++ [pTk 3] := ⟨_, rfl⟩
      have own7 : w7.ownsRow w0.heap.size 110 2 v7 (2 + m + 1) (tkcs L2) := by rw [hL2, tkcs_append]; exact own7
      have HL2 := Lib.hid hL2
      obtain ⟨N2, hN2⟩ : ∃ N2, N2 = 2 + m + 1 := ⟨_, rfl⟩
      rw [← hN2] at own7
      have hN2' : N2 ≤ 1048580 := by omega
      clear hL2 hN2
      go_wp2_with fail
      go_loopw [4, 58] (fun v i wr => ∃ t : Nat, t ≤ nb ∧ i = .int .i64 t ∧ wr.ownsRow w0.heap.size 110 2 v (N2 + (rs.take t).flatten.length) (tkcs (L2 ++ (rs.take t).flatten)) ∧ Below w0.heap.size w0 wr) (fun _ i _ => nb - (intOf i).toNat)
      case atStart => exact ⟨0, Nat.zero_le _, rfl, by simpa using own7, hb7⟩
      case round =>
        obtain ⟨t, ht, rfl, hown, hb⟩ := hrel
        have hbs := hb.size
        have hFle := flat_le rs t
        have hRR := HR.out
        by_cases hlt : t < nb
        · obtain ⟨b, off, k', wd', Aa', na', ca', ct', Ab', nb', cb', r, rfl, hbl, ⟨q0, q1, q2, q3, q4⟩, hr, hcall⟩ := HEL.out t hlt
          have hbw := (B0.out.trans (hb.mono s0))
          rw [← hbw.cell (p := ⟨b, _, none⟩) hbl] at q0 q1 q2 q3 q4
          have HC := Lib.hid (hcall _ ((hbw.alloc (by omega) (.cells #[.int .i64 k', .string wd', .slice Aa' na' ca', .int .i64 ct', .slice Ab' nb' cb'] 66))))
          have HS := Lib.hid (flat_step hr)
          have hF1 := flat_le rs (t + 1)
          rw [flat_step hr, List.length_append] at hF1
          obtain ⟨F, hF⟩ : ∃ F, F = (rs.take t).flatten := ⟨_, rfl⟩
          rw [← hF] at hown HS hF1 hFle
          have hlt0 : b < wr.heap.size := by have := hbw.size; omega
          clear hcall hr hbl hF
          go_wp2_with fail
          refine HC.out.mono ?_
          rintro e w8 ⟨v8, rfl, o8, b8, s8⟩
          obtain ⟨A8, c8, rfl, _, _, r8⟩ := rd_of_own o8
          have hb8' : Below wr.heap.size wr w8 := ((Below.refl _ _).alloc (Nat.le_refl _) _).trans (b8.mono (by simp))
          have own8 := ownsRow_below hown hb8'
          have hb8 := hb.trans (hb8'.mono hbs)
          have hs8 := hb8.size
          clear hown o8 b8 s8 q0 q1 q2 q3 q4
          go_wp2_with (at_builtin; refine wpList_append_rd _ rfl _ _ 53 rfl w0.heap.size 110 i0 _ 2 24 Tryz.underlying53 hi hz0 hz1 hz2 rfl (by decide) _ _ _ rfl own8 _ _ _ _ rfl r8 ?c2 ?c3 ?c4 ?c5 ?_)
          case c2 => exact tkc_ones r
          case c3 => simp only [maxLen]; omega
          case c4 => omega
          case c5 => first | omega | (simp; omega)
          intro v9 w9 own9 gr9 _
          have hb9 := hb8.grown gr9 (by omega) (own_ge own8)
          clear own8 gr9 r8
          go_wp2_with fail
          go_roundw
          case rel =>
            refine ⟨t + 1, by omega, by go_num, ?_, hb9⟩
            rw [HS.out, ← List.append_assoc, tkcs_append, List.length_append, ← Nat.add_assoc]
            exact own9
          case measure => simp [intOf]; omega
        · obtain rfl : nb = t := by omega
          rw [List.take_of_length_le (by have := HRS.out; omega)] at hown hFle
          skip
          go_wp2_with (at_builtin; refine wpList_append_rd _ rfl _ _ 53 rfl w0.heap.size 110 i0 _ 2 24 Tryz.underlying53 hi hz0 hz1 hz2 rfl (by decide) _ _ _ rfl (hown.alloc _) _ 1 1 _ rfl (rd_lit2 ?c0 rfl) ?c2 ?c3 ?c4 ?c5 ?_)
          case c0 => first | rfl | simp
          case c2 => repeat' (first | rfl | apply And.intro)
          case c3 => simp only [maxLen]; omega
          case c4 => omega
          case c5 => first | omega | (simp; omega)
          intro v10 w10 own10 gr10 _
          have hb10 := (hb.alloc hbs _).grown gr10 (by simp; omega) (own_ge hown)
          have hs10 := hb10.size
          clear hown gr10
          go_wp2_with fail
          go_ret
          have e : toks1 ⟨2, word, args, count⟩ rs.flatten = (((([wTk ⟨#[114, 101, 112, 101, 97, 116]⟩] ++ [wTk (dig count)]) ++ args.map wTk) ++ [pTk 3]) ++ rs.flatten) ++ [pTk 4] := by simp [toks1, headW, heads]
          refine retTk_of ?_ (own_low own10 s0) (B0.out.trans (hb10.mono s0)) (by omega)
          have e2 : tkcs (toks1 ⟨2, word, args, count⟩ rs.flatten) = tkcs (L2 ++ rs.flatten) ++ tkcs [pTk 4] := by rw [e, tkcs_append, ← HL1.out, ← HL2.out]
          rw [e2]
          rfl
set_option maxRecDepth 100000 in
set_option maxHeartbeats 4000000 in
theorem toks_impl_3 (word : ByteArray) (args : List ByteArray) (count : Int) (Aa : Option Addr) (m ca : Nat) (Ab : Option Addr) (nb cb : Nat) (w : World) (rs : List (List Tk)) (hm : args.length = m) (hra : Rd w 1 Aa m (strs args)) (hl : m ≤ 1048576) (hn : nb ≤ 1048576) (hrs : rs.length = nb) (hel : EltsT 96 w Ab nb rs) (hR : rs.flatten.length ≤ 1099511627776) :
    Calls Tryz.prog 96 #[.agg #[.int .i64 3, .string word, .slice Aa m ca, .int .i64 count, .slice Ab nb cb]] w (RetTk w (toks1 ⟨3, word, args, count⟩ rs.flatten)) := by
  obtain ⟨i0, hi, hz0, hz1, hz2⟩ := info_parts info_TkE
  obtain ⟨w0, hw0⟩ : ∃ w0, w0 = w.alloc (.cells #[.int .i64 3, .string word, .slice Aa m ca, .int .i64 count, .slice Ab nb cb] 66) := ⟨_, rfl⟩
  have X0 := Lib.hid (show w0.heap[w.heap.size]? = some (.cells #[.int .i64 3, .string word, .slice Aa m ca, .int .i64 count, .slice Ab nb cb] 66 (0, 0)) by rw [hw0]; exact boxed1_0 _ _)
  have b0 : Below w.heap.size w w0 := by rw [hw0]; exact (by repeat (first | exact Below.refl _ _ | assumption | (refine Below.trans ?_ (Below.mono (by assumption) (by first | omega | (simp; done) | (simp; omega)))) | (with_reducible refine Below.drew ?_) | (with_reducible refine Below.alloc ?_ (by first | omega | (simp; done) | (simp; omega)) _) | (with_reducible refine Below.setCell ?_ (by first | omega | (simp; done) | (simp; omega)) _)))
  have s0 : w.heap.size ≤ w0.heap.size := b0.size
  have z0 : w.heap.size < w0.heap.size := by rw [hw0]; simp
  have B0 := Lib.hid b0
  have HW := Lib.hid hw0
  have HM := Lib.hid hm
  have HRA := Lib.hid (hra.below b0)
  have HEL := Lib.hid hel
  have HRS := Lib.hid hrs
  have HR := Lib.hid hR
  clear b0 hw0 hm hra hel hrs hR
  go_enter Tryz.func96, Tryz.ntmps96
  go_wp2_with fail
  rw [← HW.out]
  refine (word_any _ _).mono ?_
  rintro e w1 ⟨rfl, b1, s1⟩
  have hb1 : Below w0.heap.size w0 w1 := ((Below.refl _ _).alloc (Nat.le_refl _) _).trans (b1.mono (by simp))
  have hs1 := hb1.size
  obtain ⟨p0, p1, p2, p3, p4⟩ := boxcells5 (lay := hb1) X0.out
  have zl1 : w.heap.size < w1.heap.size := by omega
  clear b1 s1
  obtain ⟨w2, hw2⟩ : ∃ w2, w2 = w1.alloc (.cells #[.int .i64 1, .string ⟨#[97, 100, 106, 111, 105, 110, 116]⟩] 110) := ⟨_, rfl⟩
  have own2 : w2.ownsRow w0.heap.size 110 2 (.slice (some ⟨w1.heap.size, 0, none⟩) 1 1) 1 (tkcs [wTk ⟨#[97, 100, 106, 111, 105, 110, 116]⟩]) := by rw [hw2]; exact World.ownsRow_lit w1 #[.int .i64 1, .string ⟨#[97, 100, 106, 111, 105, 110, 116]⟩] 1 hs1 (by simp [maxLen]) rfl
  have hb2 : Below w0.heap.size w0 w2 := by rw [hw2]; exact hb1.alloc hs1 _
  have hs2 := hb2.size
  have HW2 := Lib.hid hw2
  clear hw2
  go_wp2_with fail
  rw [← HW2.out]
  obtain ⟨L0, hL0⟩ : ∃ L0, L0 = [wTk ⟨#[97, 100, 106, 111, 105, 110, 116]⟩] := ⟨_, rfl⟩
  have HL0 := Lib.hid hL0
  rw [← hL0] at own2
  clear hL0
  go_loopw [4, 33] (fun v i wr => ∃ t : Nat, t ≤ m ∧ i = .int .i64 t ∧ wr.ownsRow w0.heap.size 110 2 v (1 + t) (tkcs (L0 ++ (args.take t).map wTk)) ∧ Below w0.heap.size w0 wr) (fun _ i _ => m - (intOf i).toNat)
  case atStart => exact ⟨0, Nat.zero_le _, rfl, by simpa using own2, hb2⟩
  case round =>
    obtain ⟨t, ht, rfl, hown, hb⟩ := hrel
    have hbs := hb.size
    by_cases hlt : t < m
    · obtain ⟨s, hs⟩ : ∃ s, args[t]? = some s := ⟨_, List.getElem?_eq_getElem (by have := HM.out; omega)⟩
      obtain ⟨b, off, rfl, hbl, hc⟩ := HRA.out.2 (by omega)
      have q0 : wr.cell? ⟨b, off + t, none⟩ = some (.string s) := (hb.cell (by exact hbl)).trans (hc t _ (strs_at hs))
      have HS := Lib.hid (map_step (f := wTk) hs)
      obtain ⟨L, hL⟩ : ∃ L, L = (args.take t).map wTk := ⟨_, rfl⟩
      rw [← hL] at hown HS
      clear hc hs hL
      go_wp2_with fail
      refine (word_any s _).mono ?_
      rintro e w5 ⟨rfl, b5, s5⟩
      have hown1 := ownsRow_below hown b5
      have hb5 := hb.trans (b5.mono hbs)
      have hb5s := hb5.size
      clear hown
      go_wp2_with (at_builtin; refine wpList_append_rd _ rfl _ _ 53 rfl w0.heap.size 110 i0 _ 2 24 Tryz.underlying53 hi hz0 hz1 hz2 rfl (by decide) _ _ _ rfl (hown1.alloc _) _ 1 1 _ rfl (rd_lit2 ?c0 rfl) ?c2 ?c3 ?c4 ?c5 ?_)
      case c0 => first | rfl | simp
      case c2 => repeat' (first | rfl | apply And.intro)
      case c3 => simp only [maxLen]; omega
      case c4 => omega
      case c5 => first | omega | (simp; omega)
      intro v6 w6 own6 gr6 _
      have hb6 := (hb5.alloc hb5s _).grown gr6 (by simp; omega) (own_ge hown1)
      clear hown1 gr6
      go_wp2_with fail
      go_roundw
      case rel =>
        refine ⟨t + 1, by omega, by go_num, ?_, hb6⟩
        rw [HS.out, ← List.append_assoc, tkcs_append, ← Nat.add_assoc]
        exact own6
      case measure => simp [intOf]; omega
    · obtain rfl : m = t := by omega
      rw [List.take_of_length_le (by have := HM.out; omega)] at hown
      obtain ⟨L1, hL1⟩ : ∃ L1, L1 = L0 ++ args.map wTk := ⟨_, rfl⟩
      rw [← hL1] at hown
      have HL1 : Hid (L1 = [wTk ⟨#[97, 100, 106, 111, 105, 110, 116]⟩] ++ args.map wTk) := by rw [hL1, HL0.out]; exact rfl
      clear hL1
      obtain ⟨p0, p1, p2, p3, p4⟩ := boxcells5 (lay := hb) X0.out
      have zl : w.heap.size < wr.heap.size := by omega
      go_wp2_with (first | (go_at_call 103; refine (hasBody_any _ _).mono ?_; rintro e w' ⟨rfl, rfl⟩) | (at_builtin; refine wpList_append_rd _ rfl _ _ 53 rfl w0.heap.size 110 i0 _ 2 24 Tryz.underlying53 hi hz0 hz1 hz2 rfl (by decide) _ _ _ rfl (hown.alloc _) _ 1 1 _ rfl (rd_lit2 ?c0 rfl) ?c2 ?c3 ?c4 ?c5 ?_))
      case c0 => first | rfl | simp
      case c2 => repeat' (first | rfl | apply And.intro)
      case c3 => simp only [maxLen]; omega
      case c4 => omega
      case c5 => first | omega | (simp; omega)
      intro v7 w7 own7 gr7 _
      have hb7 := (hb.alloc hbs _).grown gr7 (by simp; omega) (own_ge hown)
      have hs7 := hb7.size
      clear hown gr7 p0 p1 p2 p3 p4
      obtain ⟨p0, p1, p2, p3, p4⟩ := boxcells5 (lay := hb7) X0.out
      have zl7 : w.heap.size < w7.heap.size := by omega
      obtain ⟨L2, hL2⟩ : ∃ L2, L2 = L1 ++ [pTk 3] := ⟨_, rfl⟩
      have own7 : w7.ownsRow w0.heap.size 110 2 v7 (1 + m + 1) (tkcs L2) := by rw [hL2, tkcs_append]; exact own7
      have HL2 := Lib.hid hL2
      obtain ⟨N2, hN2⟩ : ∃ N2, N2 = 1 + m + 1 := ⟨_, rfl⟩
      rw [← hN2] at own7
      have hN2' : N2 ≤ 1048580 := by omega
      clear hL2 hN2
      go_wp2_with fail
      go_loopw [4, 58] (fun v i wr => ∃ t : Nat, t ≤ nb ∧ i = .int .i64 t ∧ wr.ownsRow w0.heap.size 110 2 v (N2 + (rs.take t).flatten.length) (tkcs (L2 ++ (rs.take t).flatten)) ∧ Below w0.heap.size w0 wr) (fun _ i _ => nb - (intOf i).toNat)
      case atStart => exact ⟨0, Nat.zero_le _, rfl, by simpa using own7, hb7⟩
      case round =>
        obtain ⟨t, ht, rfl, hown, hb⟩ := hrel
        have hbs := hb.size
        have hFle := flat_le rs t
        have hRR := HR.out
        by_cases hlt : t < nb
        · obtain ⟨b, off, k', wd', Aa', na', ca', ct', Ab', nb', cb', r, rfl, hbl, ⟨q0, q1, q2, q3, q4⟩, hr, hcall⟩ := HEL.out t hlt
          have hbw := (B0.out.trans (hb.mono s0))
          rw [← hbw.cell (p := ⟨b, _, none⟩) hbl] at q0 q1 q2 q3 q4
          have HC := Lib.hid (hcall _ ((hbw.alloc (by omega) (.cells #[.int .i64 k', .string wd', .slice Aa' na' ca', .int .i64 ct', .slice Ab' nb' cb'] 66))))
          have HS := Lib.hid (flat_step hr)
          have hF1 := flat_le rs (t + 1)
          rw [flat_step hr, List.length_append] at hF1
          obtain ⟨F, hF⟩ : ∃ F, F = (rs.take t).flatten := ⟨_, rfl⟩
          rw [← hF] at hown HS hF1 hFle
          have hlt0 : b < wr.heap.size := by have := hbw.size; omega
          clear hcall hr hbl hF
          go_wp2_with fail
          refine HC.out.mono ?_
          rintro e w8 ⟨v8, rfl, o8, b8, s8⟩
          obtain ⟨A8, c8, rfl, _, _, r8⟩ := rd_of_own o8
          have hb8' : Below wr.heap.size wr w8 := ((Below.refl _ _).alloc (Nat.le_refl _) _).trans (b8.mono (by simp))
          have own8 := ownsRow_below hown hb8'
          have hb8 := hb.trans (hb8'.mono hbs)
          have hs8 := hb8.size
          clear hown o8 b8 s8 q0 q1 q2 q3 q4
          go_wp2_with (at_builtin; refine wpList_append_rd _ rfl _ _ 53 rfl w0.heap.size 110 i0 _ 2 24 Tryz.underlying53 hi hz0 hz1 hz2 rfl (by decide) _ _ _ rfl own8 _ _ _ _ rfl r8 ?c2 ?c3 ?c4 ?c5 ?_)
          case c2 => exact tkc_ones r
          case c3 => simp only [maxLen]; omega
          case c4 => omega
          case c5 => first | omega | (simp; omega)
          intro v9 w9 own9 gr9 _
          have hb9 := hb8.grown gr9 (by omega) (own_ge own8)
          clear own8 gr9 r8
          go_wp2_with fail
          go_roundw
          case rel =>
            refine ⟨t + 1, by omega, by go_num, ?_, hb9⟩
            rw [HS.out, ← List.append_assoc, tkcs_append, List.length_append, ← Nat.add_assoc]
            exact own9
          case measure => simp [intOf]; omega
        · obtain rfl : nb = t := by omega
          rw [List.take_of_length_le (by have := HRS.out; omega)] at hown hFle
          skip
          go_wp2_with (at_builtin; refine wpList_append_rd _ rfl _ _ 53 rfl w0.heap.size 110 i0 _ 2 24 Tryz.underlying53 hi hz0 hz1 hz2 rfl (by decide) _ _ _ rfl (hown.alloc _) _ 1 1 _ rfl (rd_lit2 ?c0 rfl) ?c2 ?c3 ?c4 ?c5 ?_)
          case c0 => first | rfl | simp
          case c2 => repeat' (first | rfl | apply And.intro)
          case c3 => simp only [maxLen]; omega
          case c4 => omega
          case c5 => first | omega | (simp; omega)
          intro v10 w10 own10 gr10 _
          have hb10 := (hb.alloc hbs _).grown gr10 (by simp; omega) (own_ge hown)
          have hs10 := hb10.size
          clear hown gr10
          go_wp2_with fail
          go_ret
          have e : toks1 ⟨3, word, args, count⟩ rs.flatten = ((([wTk ⟨#[97, 100, 106, 111, 105, 110, 116]⟩] ++ args.map wTk) ++ [pTk 3]) ++ rs.flatten) ++ [pTk 4] := by simp [toks1, headW, heads]
          refine retTk_of ?_ (own_low own10 s0) (B0.out.trans (hb10.mono s0)) (by omega)
          have e2 : tkcs (toks1 ⟨3, word, args, count⟩ rs.flatten) = tkcs (L2 ++ rs.flatten) ++ tkcs [pTk 4] := by rw [e, tkcs_append, ← HL1.out, ← HL2.out]
          rw [e2]
          rfl
set_option maxRecDepth 100000 in
set_option maxHeartbeats 4000000 in
theorem toks_impl_4 (word : ByteArray) (args : List ByteArray) (count : Int) (Aa : Option Addr) (m ca : Nat) (Ab : Option Addr) (nb cb : Nat) (w : World) (rs : List (List Tk)) (hm : args.length = m) (hra : Rd w 1 Aa m (strs args)) (hl : m ≤ 1048576) (hn : nb ≤ 1048576) (hrs : rs.length = nb) (hel : EltsT 96 w Ab nb rs) (hR : rs.flatten.length ≤ 1099511627776) :
    Calls Tryz.prog 96 #[.agg #[.int .i64 4, .string word, .slice Aa m ca, .int .i64 count, .slice Ab nb cb]] w (RetTk w (toks1 ⟨4, word, args, count⟩ rs.flatten)) := by
  obtain ⟨i0, hi, hz0, hz1, hz2⟩ := info_parts info_TkE
  obtain ⟨w0, hw0⟩ : ∃ w0, w0 = w.alloc (.cells #[.int .i64 4, .string word, .slice Aa m ca, .int .i64 count, .slice Ab nb cb] 66) := ⟨_, rfl⟩
  have X0 := Lib.hid (show w0.heap[w.heap.size]? = some (.cells #[.int .i64 4, .string word, .slice Aa m ca, .int .i64 count, .slice Ab nb cb] 66 (0, 0)) by rw [hw0]; exact boxed1_0 _ _)
  have b0 : Below w.heap.size w w0 := by rw [hw0]; exact (by repeat (first | exact Below.refl _ _ | assumption | (refine Below.trans ?_ (Below.mono (by assumption) (by first | omega | (simp; done) | (simp; omega)))) | (with_reducible refine Below.drew ?_) | (with_reducible refine Below.alloc ?_ (by first | omega | (simp; done) | (simp; omega)) _) | (with_reducible refine Below.setCell ?_ (by first | omega | (simp; done) | (simp; omega)) _)))
  have s0 : w.heap.size ≤ w0.heap.size := b0.size
  have z0 : w.heap.size < w0.heap.size := by rw [hw0]; simp
  have B0 := Lib.hid b0
  have HW := Lib.hid hw0
  have HM := Lib.hid hm
  have HRA := Lib.hid (hra.below b0)
  have HEL := Lib.hid hel
  have HRS := Lib.hid hrs
  have HR := Lib.hid hR
  clear b0 hw0 hm hra hel hrs hR
  go_enter Tryz.func96, Tryz.ntmps96
  go_wp2_with fail
  rw [← HW.out]
  refine (word_any _ _).mono ?_
  rintro e w1 ⟨rfl, b1, s1⟩
  have hb1 : Below w0.heap.size w0 w1 := ((Below.refl _ _).alloc (Nat.le_refl _) _).trans (b1.mono (by simp))
  have hs1 := hb1.size
  obtain ⟨p0, p1, p2, p3, p4⟩ := boxcells5 (lay := hb1) X0.out
  have zl1 : w.heap.size < w1.heap.size := by omega
  clear b1 s1
  obtain ⟨w2, hw2⟩ : ∃ w2, w2 = w1.alloc (.cells #[.int .i64 1, .string ⟨#[99, 111, 110, 116, 114, 111, 108]⟩] 110) := ⟨_, rfl⟩
  have own2 : w2.ownsRow w0.heap.size 110 2 (.slice (some ⟨w1.heap.size, 0, none⟩) 1 1) 1 (tkcs [wTk ⟨#[99, 111, 110, 116, 114, 111, 108]⟩]) := by rw [hw2]; exact World.ownsRow_lit w1 #[.int .i64 1, .string ⟨#[99, 111, 110, 116, 114, 111, 108]⟩] 1 hs1 (by simp [maxLen]) rfl
  have hb2 : Below w0.heap.size w0 w2 := by rw [hw2]; exact hb1.alloc hs1 _
  have hs2 := hb2.size
  have HW2 := Lib.hid hw2
  clear hw2
  go_wp2_with fail
  rw [← HW2.out]
  obtain ⟨L0, hL0⟩ : ∃ L0, L0 = [wTk ⟨#[99, 111, 110, 116, 114, 111, 108]⟩] := ⟨_, rfl⟩
  have HL0 := Lib.hid hL0
  rw [← hL0] at own2
  clear hL0
  go_loopw [4, 33] (fun v i wr => ∃ t : Nat, t ≤ m ∧ i = .int .i64 t ∧ wr.ownsRow w0.heap.size 110 2 v (1 + t) (tkcs (L0 ++ (args.take t).map wTk)) ∧ Below w0.heap.size w0 wr) (fun _ i _ => m - (intOf i).toNat)
  case atStart => exact ⟨0, Nat.zero_le _, rfl, by simpa using own2, hb2⟩
  case round =>
    obtain ⟨t, ht, rfl, hown, hb⟩ := hrel
    have hbs := hb.size
    by_cases hlt : t < m
    · obtain ⟨s, hs⟩ : ∃ s, args[t]? = some s := ⟨_, List.getElem?_eq_getElem (by have := HM.out; omega)⟩
      obtain ⟨b, off, rfl, hbl, hc⟩ := HRA.out.2 (by omega)
      have q0 : wr.cell? ⟨b, off + t, none⟩ = some (.string s) := (hb.cell (by exact hbl)).trans (hc t _ (strs_at hs))
      have HS := Lib.hid (map_step (f := wTk) hs)
      obtain ⟨L, hL⟩ : ∃ L, L = (args.take t).map wTk := ⟨_, rfl⟩
      rw [← hL] at hown HS
      clear hc hs hL
      go_wp2_with fail
      refine (word_any s _).mono ?_
      rintro e w5 ⟨rfl, b5, s5⟩
      have hown1 := ownsRow_below hown b5
      have hb5 := hb.trans (b5.mono hbs)
      have hb5s := hb5.size
      clear hown
      go_wp2_with (at_builtin; refine wpList_append_rd _ rfl _ _ 53 rfl w0.heap.size 110 i0 _ 2 24 Tryz.underlying53 hi hz0 hz1 hz2 rfl (by decide) _ _ _ rfl (hown1.alloc _) _ 1 1 _ rfl (rd_lit2 ?c0 rfl) ?c2 ?c3 ?c4 ?c5 ?_)
      case c0 => first | rfl | simp
      case c2 => repeat' (first | rfl | apply And.intro)
      case c3 => simp only [maxLen]; omega
      case c4 => omega
      case c5 => first | omega | (simp; omega)
      intro v6 w6 own6 gr6 _
      have hb6 := (hb5.alloc hb5s _).grown gr6 (by simp; omega) (own_ge hown1)
      clear hown1 gr6
      go_wp2_with fail
      go_roundw
      case rel =>
        refine ⟨t + 1, by omega, by go_num, ?_, hb6⟩
        rw [HS.out, ← List.append_assoc, tkcs_append, ← Nat.add_assoc]
        exact own6
      case measure => simp [intOf]; omega
    · obtain rfl : m = t := by omega
      rw [List.take_of_length_le (by have := HM.out; omega)] at hown
      obtain ⟨L1, hL1⟩ : ∃ L1, L1 = L0 ++ args.map wTk := ⟨_, rfl⟩
      rw [← hL1] at hown
      have HL1 : Hid (L1 = [wTk ⟨#[99, 111, 110, 116, 114, 111, 108]⟩] ++ args.map wTk) := by rw [hL1, HL0.out]; exact rfl
      clear hL1
      obtain ⟨p0, p1, p2, p3, p4⟩ := boxcells5 (lay := hb) X0.out
      have zl : w.heap.size < wr.heap.size := by omega
      go_wp2_with (first | (go_at_call 103; refine (hasBody_any _ _).mono ?_; rintro e w' ⟨rfl, rfl⟩) | (at_builtin; refine wpList_append_rd _ rfl _ _ 53 rfl w0.heap.size 110 i0 _ 2 24 Tryz.underlying53 hi hz0 hz1 hz2 rfl (by decide) _ _ _ rfl (hown.alloc _) _ 1 1 _ rfl (rd_lit2 ?c0 rfl) ?c2 ?c3 ?c4 ?c5 ?_))
      case c0 => first | rfl | simp
      case c2 => repeat' (first | rfl | apply And.intro)
      case c3 => simp only [maxLen]; omega
      case c4 => omega
      case c5 => first | omega | (simp; omega)
      intro v7 w7 own7 gr7 _
      have hb7 := (hb.alloc hbs _).grown gr7 (by simp; omega) (own_ge hown)
      have hs7 := hb7.size
      clear hown gr7 p0 p1 p2 p3 p4
      obtain ⟨p0, p1, p2, p3, p4⟩ := boxcells5 (lay := hb7) X0.out
      have zl7 : w.heap.size < w7.heap.size := by omega
      obtain ⟨L2, hL2⟩ : ∃ L2, L2 = L1 ++ [pTk 3] := ⟨_, rfl⟩
      have own7 : w7.ownsRow w0.heap.size 110 2 v7 (1 + m + 1) (tkcs L2) := by rw [hL2, tkcs_append]; exact own7
      have HL2 := Lib.hid hL2
      obtain ⟨N2, hN2⟩ : ∃ N2, N2 = 1 + m + 1 := ⟨_, rfl⟩
      rw [← hN2] at own7
      have hN2' : N2 ≤ 1048580 := by omega
      clear hL2 hN2
      go_wp2_with fail
      go_loopw [4, 58] (fun v i wr => ∃ t : Nat, t ≤ nb ∧ i = .int .i64 t ∧ wr.ownsRow w0.heap.size 110 2 v (N2 + (rs.take t).flatten.length) (tkcs (L2 ++ (rs.take t).flatten)) ∧ Below w0.heap.size w0 wr) (fun _ i _ => nb - (intOf i).toNat)
      case atStart => exact ⟨0, Nat.zero_le _, rfl, by simpa using own7, hb7⟩
      case round =>
        obtain ⟨t, ht, rfl, hown, hb⟩ := hrel
        have hbs := hb.size
        have hFle := flat_le rs t
        have hRR := HR.out
        by_cases hlt : t < nb
        · obtain ⟨b, off, k', wd', Aa', na', ca', ct', Ab', nb', cb', r, rfl, hbl, ⟨q0, q1, q2, q3, q4⟩, hr, hcall⟩ := HEL.out t hlt
          have hbw := (B0.out.trans (hb.mono s0))
          rw [← hbw.cell (p := ⟨b, _, none⟩) hbl] at q0 q1 q2 q3 q4
          have HC := Lib.hid (hcall _ ((hbw.alloc (by omega) (.cells #[.int .i64 k', .string wd', .slice Aa' na' ca', .int .i64 ct', .slice Ab' nb' cb'] 66))))
          have HS := Lib.hid (flat_step hr)
          have hF1 := flat_le rs (t + 1)
          rw [flat_step hr, List.length_append] at hF1
          obtain ⟨F, hF⟩ : ∃ F, F = (rs.take t).flatten := ⟨_, rfl⟩
          rw [← hF] at hown HS hF1 hFle
          have hlt0 : b < wr.heap.size := by have := hbw.size; omega
          clear hcall hr hbl hF
          go_wp2_with fail
          refine HC.out.mono ?_
          rintro e w8 ⟨v8, rfl, o8, b8, s8⟩
          obtain ⟨A8, c8, rfl, _, _, r8⟩ := rd_of_own o8
          have hb8' : Below wr.heap.size wr w8 := ((Below.refl _ _).alloc (Nat.le_refl _) _).trans (b8.mono (by simp))
          have own8 := ownsRow_below hown hb8'
          have hb8 := hb.trans (hb8'.mono hbs)
          have hs8 := hb8.size
          clear hown o8 b8 s8 q0 q1 q2 q3 q4
          go_wp2_with (at_builtin; refine wpList_append_rd _ rfl _ _ 53 rfl w0.heap.size 110 i0 _ 2 24 Tryz.underlying53 hi hz0 hz1 hz2 rfl (by decide) _ _ _ rfl own8 _ _ _ _ rfl r8 ?c2 ?c3 ?c4 ?c5 ?_)
          case c2 => exact tkc_ones r
          case c3 => simp only [maxLen]; omega
          case c4 => omega
          case c5 => first | omega | (simp; omega)
          intro v9 w9 own9 gr9 _
          have hb9 := hb8.grown gr9 (by omega) (own_ge own8)
          clear own8 gr9 r8
          go_wp2_with fail
          go_roundw
          case rel =>
            refine ⟨t + 1, by omega, by go_num, ?_, hb9⟩
            rw [HS.out, ← List.append_assoc, tkcs_append, List.length_append, ← Nat.add_assoc]
            exact own9
          case measure => simp [intOf]; omega
        · obtain rfl : nb = t := by omega
          rw [List.take_of_length_le (by have := HRS.out; omega)] at hown hFle
          skip
          go_wp2_with (at_builtin; refine wpList_append_rd _ rfl _ _ 53 rfl w0.heap.size 110 i0 _ 2 24 Tryz.underlying53 hi hz0 hz1 hz2 rfl (by decide) _ _ _ rfl (hown.alloc _) _ 1 1 _ rfl (rd_lit2 ?c0 rfl) ?c2 ?c3 ?c4 ?c5 ?_)
          case c0 => first | rfl | simp
          case c2 => repeat' (first | rfl | apply And.intro)
          case c3 => simp only [maxLen]; omega
          case c4 => omega
          case c5 => first | omega | (simp; omega)
          intro v10 w10 own10 gr10 _
          have hb10 := (hb.alloc hbs _).grown gr10 (by simp; omega) (own_ge hown)
          have hs10 := hb10.size
          clear hown gr10
          go_wp2_with fail
          go_ret
          have e : toks1 ⟨4, word, args, count⟩ rs.flatten = ((([wTk ⟨#[99, 111, 110, 116, 114, 111, 108]⟩] ++ args.map wTk) ++ [pTk 3]) ++ rs.flatten) ++ [pTk 4] := by simp [toks1, headW, heads]
          refine retTk_of ?_ (own_low own10 s0) (B0.out.trans (hb10.mono s0)) (by omega)
          have e2 : tkcs (toks1 ⟨4, word, args, count⟩ rs.flatten) = tkcs (L2 ++ rs.flatten) ++ tkcs [pTk 4] := by rw [e, tkcs_append, ← HL1.out, ← HL2.out]
          rw [e2]
          rfl
set_option maxRecDepth 100000 in
set_option maxHeartbeats 4000000 in
theorem toks_impl_5 (word : ByteArray) (args : List ByteArray) (count : Int) (Aa : Option Addr) (m ca : Nat) (Ab : Option Addr) (nb cb : Nat) (w : World) (rs : List (List Tk)) (hm : args.length = m) (hra : Rd w 1 Aa m (strs args)) (hl : m ≤ 1048576) (hn : nb ≤ 1048576) (hrs : rs.length = nb) (hel : EltsT 96 w Ab nb rs) (hR : rs.flatten.length ≤ 1099511627776) :
    Calls Tryz.prog 96 #[.agg #[.int .i64 5, .string word, .slice Aa m ca, .int .i64 count, .slice Ab nb cb]] w (RetTk w (toks1 ⟨5, word, args, count⟩ rs.flatten)) := by
  obtain ⟨i0, hi, hz0, hz1, hz2⟩ := info_parts info_TkE
  obtain ⟨w0, hw0⟩ : ∃ w0, w0 = w.alloc (.cells #[.int .i64 5, .string word, .slice Aa m ca, .int .i64 count, .slice Ab nb cb] 66) := ⟨_, rfl⟩
  have X0 := Lib.hid (show w0.heap[w.heap.size]? = some (.cells #[.int .i64 5, .string word, .slice Aa m ca, .int .i64 count, .slice Ab nb cb] 66 (0, 0)) by rw [hw0]; exact boxed1_0 _ _)
  have b0 : Below w.heap.size w w0 := by rw [hw0]; exact (by repeat (first | exact Below.refl _ _ | assumption | (refine Below.trans ?_ (Below.mono (by assumption) (by first | omega | (simp; done) | (simp; omega)))) | (with_reducible refine Below.drew ?_) | (with_reducible refine Below.alloc ?_ (by first | omega | (simp; done) | (simp; omega)) _) | (with_reducible refine Below.setCell ?_ (by first | omega | (simp; done) | (simp; omega)) _)))
  have s0 : w.heap.size ≤ w0.heap.size := b0.size
  have z0 : w.heap.size < w0.heap.size := by rw [hw0]; simp
  have B0 := Lib.hid b0
  have HW := Lib.hid hw0
  have HM := Lib.hid hm
  have HRA := Lib.hid (hra.below b0)
  have HEL := Lib.hid hel
  have HRS := Lib.hid hrs
  have HR := Lib.hid hR
  clear b0 hw0 hm hra hel hrs hR
  go_enter Tryz.func96, Tryz.ntmps96
  go_wp2_with fail
  rw [← HW.out]
  refine (word_any _ _).mono ?_
  rintro e w1 ⟨rfl, b1, s1⟩
  have hb1 : Below w0.heap.size w0 w1 := ((Below.refl _ _).alloc (Nat.le_refl _) _).trans (b1.mono (by simp))
  have hs1 := hb1.size
  obtain ⟨p0, p1, p2, p3, p4⟩ := boxcells5 (lay := hb1) X0.out
  have zl1 : w.heap.size < w1.heap.size := by omega
  clear b1 s1
  obtain ⟨w2, hw2⟩ : ∃ w2, w2 = w1.alloc (.cells #[.int .i64 1, .string ⟨#[97, 110, 99, 105, 108, 108, 97]⟩] 110) := ⟨_, rfl⟩
  have own2 : w2.ownsRow w0.heap.size 110 2 (.slice (some ⟨w1.heap.size, 0, none⟩) 1 1) 1 (tkcs [wTk ⟨#[97, 110, 99, 105, 108, 108, 97]⟩]) := by rw [hw2]; exact World.ownsRow_lit w1 #[.int .i64 1, .string ⟨#[97, 110, 99, 105, 108, 108, 97]⟩] 1 hs1 (by simp [maxLen]) rfl
  have hb2 : Below w0.heap.size w0 w2 := by rw [hw2]; exact hb1.alloc hs1 _
  have hs2 := hb2.size
  have HW2 := Lib.hid hw2
  clear hw2
  go_wp2_with fail
  rw [← HW2.out]
  obtain ⟨L0, hL0⟩ : ∃ L0, L0 = [wTk ⟨#[97, 110, 99, 105, 108, 108, 97]⟩] := ⟨_, rfl⟩
  have HL0 := Lib.hid hL0
  rw [← hL0] at own2
  clear hL0
  go_loopw [4, 33] (fun v i wr => ∃ t : Nat, t ≤ m ∧ i = .int .i64 t ∧ wr.ownsRow w0.heap.size 110 2 v (1 + t) (tkcs (L0 ++ (args.take t).map wTk)) ∧ Below w0.heap.size w0 wr) (fun _ i _ => m - (intOf i).toNat)
  case atStart => exact ⟨0, Nat.zero_le _, rfl, by simpa using own2, hb2⟩
  case round =>
    obtain ⟨t, ht, rfl, hown, hb⟩ := hrel
    have hbs := hb.size
    by_cases hlt : t < m
    · obtain ⟨s, hs⟩ : ∃ s, args[t]? = some s := ⟨_, List.getElem?_eq_getElem (by have := HM.out; omega)⟩
      obtain ⟨b, off, rfl, hbl, hc⟩ := HRA.out.2 (by omega)
      have q0 : wr.cell? ⟨b, off + t, none⟩ = some (.string s) := (hb.cell (by exact hbl)).trans (hc t _ (strs_at hs))
      have HS := Lib.hid (map_step (f := wTk) hs)
      obtain ⟨L, hL⟩ : ∃ L, L = (args.take t).map wTk := ⟨_, rfl⟩
      rw [← hL] at hown HS
      clear hc hs hL
      go_wp2_with fail
      refine (word_any s _).mono ?_
      rintro e w5 ⟨rfl, b5, s5⟩
      have hown1 := ownsRow_below hown b5
      have hb5 := hb.trans (b5.mono hbs)
      have hb5s := hb5.size
      clear hown
      go_wp2_with (at_builtin; refine wpList_append_rd _ rfl _ _ 53 rfl w0.heap.size 110 i0 _ 2 24 Tryz.underlying53 hi hz0 hz1 hz2 rfl (by decide) _ _ _ rfl (hown1.alloc _) _ 1 1 _ rfl (rd_lit2 ?c0 rfl) ?c2 ?c3 ?c4 ?c5 ?_)
      case c0 => first | rfl | simp
      case c2 => repeat' (first | rfl | apply And.intro)
      case c3 => simp only [maxLen]; omega
      case c4 => omega
      case c5 => first | omega | (simp; omega)
      intro v6 w6 own6 gr6 _
      have hb6 := (hb5.alloc hb5s _).grown gr6 (by simp; omega) (own_ge hown1)
      clear hown1 gr6
      go_wp2_with fail
      go_roundw
      case rel =>
        refine ⟨t + 1, by omega, by go_num, ?_, hb6⟩
        rw [HS.out, ← List.append_assoc, tkcs_append, ← Nat.add_assoc]
        exact own6
      case measure => simp [intOf]; omega
    · obtain rfl : m = t := by omega
      rw [List.take_of_length_le (by have := HM.out; omega)] at hown
      obtain ⟨L1, hL1⟩ : ∃ L1, L1 = L0 ++ args.map wTk := ⟨_, rfl⟩
      rw [← hL1] at hown
      have HL1 : Hid (L1 = [wTk ⟨#[97, 110, 99, 105, 108, 108, 97]⟩] ++ args.map wTk) := by rw [hL1, HL0.out]; exact rfl
      clear hL1
      obtain ⟨p0, p1, p2, p3, p4⟩ := boxcells5 (lay := hb) X0.out
      have zl : w.heap.size < wr.heap.size := by omega
      go_wp2_with (first | (go_at_call 103; refine (hasBody_any _ _).mono ?_; rintro e w' ⟨rfl, rfl⟩) | (at_builtin; refine wpList_append_rd _ rfl _ _ 53 rfl w0.heap.size 110 i0 _ 2 24 Tryz.underlying53 hi hz0 hz1 hz2 rfl (by decide) _ _ _ rfl (hown.alloc _) _ 1 1 _ rfl (rd_lit2 ?c0 rfl) ?c2 ?c3 ?c4 ?c5 ?_))
      case c0 => first | rfl | simp
      case c2 => repeat' (first | rfl | apply And.intro)
      case c3 => simp only [maxLen]; omega
      case c4 => omega
      case c5 => first | omega | (simp; omega)
      intro v7 w7 own7 gr7 _
      have hb7 := (hb.alloc hbs _).grown gr7 (by simp; omega) (own_ge hown)
      have hs7 := hb7.size
      clear hown gr7 p0 p1 p2 p3 p4
      obtain ⟨p0, p1, p2, p3, p4⟩ := boxcells5 (lay := hb7) X0.out
      have zl7 : w.heap.size < w7.heap.size := by omega
      obtain ⟨L2, hL2⟩ : ∃ L2, L2 = L1 ++ [pTk 3] := ⟨_, rfl⟩
      have own7 : w7.ownsRow w0.heap.size 110 2 v7 (1 + m + 1) (tkcs L2) := by rw [hL2, tkcs_append]; exact own7
      have HL2 := Lib.hid hL2
      obtain ⟨N2, hN2⟩ : ∃ N2, N2 = 1 + m + 1 := ⟨_, rfl⟩
      rw [← hN2] at own7
      have hN2' : N2 ≤ 1048580 := by omega
      clear hL2 hN2
      go_wp2_with fail
      go_loopw [4, 58] (fun v i wr => ∃ t : Nat, t ≤ nb ∧ i = .int .i64 t ∧ wr.ownsRow w0.heap.size 110 2 v (N2 + (rs.take t).flatten.length) (tkcs (L2 ++ (rs.take t).flatten)) ∧ Below w0.heap.size w0 wr) (fun _ i _ => nb - (intOf i).toNat)
      case atStart => exact ⟨0, Nat.zero_le _, rfl, by simpa using own7, hb7⟩
      case round =>
        obtain ⟨t, ht, rfl, hown, hb⟩ := hrel
        have hbs := hb.size
        have hFle := flat_le rs t
        have hRR := HR.out
        by_cases hlt : t < nb
        · obtain ⟨b, off, k', wd', Aa', na', ca', ct', Ab', nb', cb', r, rfl, hbl, ⟨q0, q1, q2, q3, q4⟩, hr, hcall⟩ := HEL.out t hlt
          have hbw := (B0.out.trans (hb.mono s0))
          rw [← hbw.cell (p := ⟨b, _, none⟩) hbl] at q0 q1 q2 q3 q4
          have HC := Lib.hid (hcall _ ((hbw.alloc (by omega) (.cells #[.int .i64 k', .string wd', .slice Aa' na' ca', .int .i64 ct', .slice Ab' nb' cb'] 66))))
          have HS := Lib.hid (flat_step hr)
          have hF1 := flat_le rs (t + 1)
          rw [flat_step hr, List.length_append] at hF1
          obtain ⟨F, hF⟩ : ∃ F, F = (rs.take t).flatten := ⟨_, rfl⟩
          rw [← hF] at hown HS hF1 hFle
          have hlt0 : b < wr.heap.size := by have := hbw.size; omega
          clear hcall hr hbl hF
          go_wp2_with fail
          refine HC.out.mono ?_
          rintro e w8 ⟨v8, rfl, o8, b8, s8⟩
          obtain ⟨A8, c8, rfl, _, _, r8⟩ := rd_of_own o8
          have hb8' : Below wr.heap.size wr w8 := ((Below.refl _ _).alloc (Nat.le_refl _) _).trans (b8.mono (by simp))
          have own8 := ownsRow_below hown hb8'
          have hb8 := hb.trans (hb8'.mono hbs)
          have hs8 := hb8.size
          clear hown o8 b8 s8 q0 q1 q2 q3 q4
          go_wp2_with (at_builtin; refine wpList_append_rd _ rfl _ _ 53 rfl w0.heap.size 110 i0 _ 2 24 Tryz.underlying53 hi hz0 hz1 hz2 rfl (by decide) _ _ _ rfl own8 _ _ _ _ rfl r8 ?c2 ?c3 ?c4 ?c5 ?_)
          case c2 => exact tkc_ones r
          case c3 => simp only [maxLen]; omega
          case c4 => omega
          case c5 => first | omega | (simp; omega)
          intro v9 w9 own9 gr9 _
          have hb9 := hb8.grown gr9 (by omega) (own_ge own8)
          clear own8 gr9 r8
          go_wp2_with fail
          go_roundw
          case rel =>
            refine ⟨t + 1, by omega, by go_num, ?_, hb9⟩
            rw [HS.out, ← List.append_assoc, tkcs_append, List.length_append, ← Nat.add_assoc]
            exact own9
          case measure => simp [intOf]; omega
        · obtain rfl : nb = t := by omega
          rw [List.take_of_length_le (by have := HRS.out; omega)] at hown hFle
          skip
          go_wp2_with (at_builtin; refine wpList_append_rd _ rfl _ _ 53 rfl w0.heap.size 110 i0 _ 2 24 Tryz.underlying53 hi hz0 hz1 hz2 rfl (by decide) _ _ _ rfl (hown.alloc _) _ 1 1 _ rfl (rd_lit2 ?c0 rfl) ?c2 ?c3 ?c4 ?c5 ?_)
          case c0 => first | rfl | simp
          case c2 => repeat' (first | rfl | apply And.intro)
          case c3 => simp only [maxLen]; omega
          case c4 => omega
          case c5 => first | omega | (simp; omega)
          intro v10 w10 own10 gr10 _
          have hb10 := (hb.alloc hbs _).grown gr10 (by simp; omega) (own_ge hown)
          have hs10 := hb10.size
          clear hown gr10
          go_wp2_with fail
          go_ret
          have e : toks1 ⟨5, word, args, count⟩ rs.flatten = ((([wTk ⟨#[97, 110, 99, 105, 108, 108, 97]⟩] ++ args.map wTk) ++ [pTk 3]) ++ rs.flatten) ++ [pTk 4] := by simp [toks1, headW, heads]
          refine retTk_of ?_ (own_low own10 s0) (B0.out.trans (hb10.mono s0)) (by omega)
          have e2 : tkcs (toks1 ⟨5, word, args, count⟩ rs.flatten) = tkcs (L2 ++ rs.flatten) ++ tkcs [pTk 4] := by rw [e, tkcs_append, ← HL1.out, ← HL2.out]
          rw [e2]
          rfl
set_option maxRecDepth 100000 in
set_option maxHeartbeats 4000000 in
theorem toks_impl_6 (word : ByteArray) (args : List ByteArray) (count : Int) (Aa : Option Addr) (m ca : Nat) (Ab : Option Addr) (nb cb : Nat) (w : World) (rs : List (List Tk)) (hm : args.length = m) (hra : Rd w 1 Aa m (strs args)) (hl : m ≤ 1048576) (hn : nb ≤ 1048576) (hrs : rs.length = nb) (hel : EltsT 96 w Ab nb rs) (hR : rs.flatten.length ≤ 1099511627776) :
    Calls Tryz.prog 96 #[.agg #[.int .i64 6, .string word, .slice Aa m ca, .int .i64 count, .slice Ab nb cb]] w (RetTk w (toks1 ⟨6, word, args, count⟩ rs.flatten)) := by
  obtain ⟨i0, hi, hz0, hz1, hz2⟩ := info_parts info_TkE
  obtain ⟨w0, hw0⟩ : ∃ w0, w0 = w.alloc (.cells #[.int .i64 6, .string word, .slice Aa m ca, .int .i64 count, .slice Ab nb cb] 66) := ⟨_, rfl⟩
  have X0 := Lib.hid (show w0.heap[w.heap.size]? = some (.cells #[.int .i64 6, .string word, .slice Aa m ca, .int .i64 count, .slice Ab nb cb] 66 (0, 0)) by rw [hw0]; exact boxed1_0 _ _)
  have b0 : Below w.heap.size w w0 := by rw [hw0]; exact (by repeat (first | exact Below.refl _ _ | assumption | (refine Below.trans ?_ (Below.mono (by assumption) (by first | omega | (simp; done) | (simp; omega)))) | (with_reducible refine Below.drew ?_) | (with_reducible refine Below.alloc ?_ (by first | omega | (simp; done) | (simp; omega)) _) | (with_reducible refine Below.setCell ?_ (by first | omega | (simp; done) | (simp; omega)) _)))
  have s0 : w.heap.size ≤ w0.heap.size := b0.size
  have z0 : w.heap.size < w0.heap.size := by rw [hw0]; simp
  have B0 := Lib.hid b0
  have HW := Lib.hid hw0
  have HM := Lib.hid hm
  have HRA := Lib.hid (hra.below b0)
  have HEL := Lib.hid hel
  have HRS := Lib.hid hrs
  have HR := Lib.hid hR
  clear b0 hw0 hm hra hel hrs hR
  go_enter Tryz.func96, Tryz.ntmps96
  go_wp2_with fail
  rw [← HW.out]
  refine (word_any _ _).mono ?_
  rintro e w1 ⟨rfl, b1, s1⟩
  have hb1 : Below w0.heap.size w0 w1 := ((Below.refl _ _).alloc (Nat.le_refl _) _).trans (b1.mono (by simp))
  have hs1 := hb1.size
  obtain ⟨p0, p1, p2, p3, p4⟩ := boxcells5 (lay := hb1) X0.out
  have zl1 : w.heap.size < w1.heap.size := by omega
  clear b1 s1
  obtain ⟨w2, hw2⟩ : ∃ w2, w2 = w1.alloc (.cells #[.int .i64 1, .string ⟨#[109, 101, 97, 115, 117, 114, 101]⟩] 110) := ⟨_, rfl⟩
  have own2 : w2.ownsRow w0.heap.size 110 2 (.slice (some ⟨w1.heap.size, 0, none⟩) 1 1) 1 (tkcs [wTk ⟨#[109, 101, 97, 115, 117, 114, 101]⟩]) := by rw [hw2]; exact World.ownsRow_lit w1 #[.int .i64 1, .string ⟨#[109, 101, 97, 115, 117, 114, 101]⟩] 1 hs1 (by simp [maxLen]) rfl
  have hb2 : Below w0.heap.size w0 w2 := by rw [hw2]; exact hb1.alloc hs1 _
  have hs2 := hb2.size
  have HW2 := Lib.hid hw2
  clear hw2
  go_wp2_with fail
  rw [← HW2.out]
  obtain ⟨L0, hL0⟩ : ∃ L0, L0 = [wTk ⟨#[109, 101, 97, 115, 117, 114, 101]⟩] := ⟨_, rfl⟩
  have HL0 := Lib.hid hL0
  rw [← hL0] at own2
  clear hL0
  go_loopw [4, 33] (fun v i wr => ∃ t : Nat, t ≤ m ∧ i = .int .i64 t ∧ wr.ownsRow w0.heap.size 110 2 v (1 + t) (tkcs (L0 ++ (args.take t).map wTk)) ∧ Below w0.heap.size w0 wr) (fun _ i _ => m - (intOf i).toNat)
  case atStart => exact ⟨0, Nat.zero_le _, rfl, by simpa using own2, hb2⟩
  case round =>
    obtain ⟨t, ht, rfl, hown, hb⟩ := hrel
    have hbs := hb.size
    by_cases hlt : t < m
    · obtain ⟨s, hs⟩ : ∃ s, args[t]? = some s := ⟨_, List.getElem?_eq_getElem (by have := HM.out; omega)⟩
      obtain ⟨b, off, rfl, hbl, hc⟩ := HRA.out.2 (by omega)
      have q0 : wr.cell? ⟨b, off + t, none⟩ = some (.string s) := (hb.cell (by exact hbl)).trans (hc t _ (strs_at hs))
      have HS := Lib.hid (map_step (f := wTk) hs)
      obtain ⟨L, hL⟩ : ∃ L, L = (args.take t).map wTk := ⟨_, rfl⟩
      rw [← hL] at hown HS
      clear hc hs hL
      go_wp2_with fail
      refine (word_any s _).mono ?_
      rintro e w5 ⟨rfl, b5, s5⟩
      have hown1 := ownsRow_below hown b5
      have hb5 := hb.trans (b5.mono hbs)
      have hb5s := hb5.size
      clear hown
      go_wp2_with (at_builtin; refine wpList_append_rd _ rfl _ _ 53 rfl w0.heap.size 110 i0 _ 2 24 Tryz.underlying53 hi hz0 hz1 hz2 rfl (by decide) _ _ _ rfl (hown1.alloc _) _ 1 1 _ rfl (rd_lit2 ?c0 rfl) ?c2 ?c3 ?c4 ?c5 ?_)
      case c0 => first | rfl | simp
      case c2 => repeat' (first | rfl | apply And.intro)
      case c3 => simp only [maxLen]; omega
      case c4 => omega
      case c5 => first | omega | (simp; omega)
      intro v6 w6 own6 gr6 _
      have hb6 := (hb5.alloc hb5s _).grown gr6 (by simp; omega) (own_ge hown1)
      clear hown1 gr6
      go_wp2_with fail
      go_roundw
      case rel =>
        refine ⟨t + 1, by omega, by go_num, ?_, hb6⟩
        rw [HS.out, ← List.append_assoc, tkcs_append, ← Nat.add_assoc]
        exact own6
      case measure => simp [intOf]; omega
    · obtain rfl : m = t := by omega
      rw [List.take_of_length_le (by have := HM.out; omega)] at hown
      obtain ⟨L1, hL1⟩ : ∃ L1, L1 = L0 ++ args.map wTk := ⟨_, rfl⟩
      rw [← hL1] at hown
      have HL1 : Hid (L1 = [wTk ⟨#[109, 101, 97, 115, 117, 114, 101]⟩] ++ args.map wTk) := by rw [hL1, HL0.out]; exact rfl
      clear hL1
      obtain ⟨p0, p1, p2, p3, p4⟩ := boxcells5 (lay := hb) X0.out
      have zl : w.heap.size < wr.heap.size := by omega
      go_wp2_with (first | (go_at_call 103; refine (hasBody_any _ _).mono ?_; rintro e w' ⟨rfl, rfl⟩) | (at_builtin; refine wpList_append_rd _ rfl _ _ 53 rfl w0.heap.size 110 i0 _ 2 24 Tryz.underlying53 hi hz0 hz1 hz2 rfl (by decide) _ _ _ rfl (hown.alloc _) _ 1 1 _ rfl (rd_lit2 ?c0 rfl) ?c2 ?c3 ?c4 ?c5 ?_))
      case c0 => first | rfl | simp
      case c2 => repeat' (first | rfl | apply And.intro)
      case c3 => simp only [maxLen]; omega
      case c4 => omega
      case c5 => first | omega | (simp; omega)
      intro v7 w7 own7 gr7 _
      have hb7 := (hb.alloc hbs _).grown gr7 (by simp; omega) (own_ge hown)
      have hs7 := hb7.size
      clear hown gr7 p0 p1 p2 p3 p4
      go_wp2_with fail
      go_ret
      have e : toks1 ⟨6, word, args, count⟩ rs.flatten = ([wTk ⟨#[109, 101, 97, 115, 117, 114, 101]⟩] ++ args.map wTk) ++ [pTk 2] := by simp [toks1, headW, heads]
      refine retTk_of ?_ (own_low own7 s0) (B0.out.trans (hb7.mono s0)) (by omega)
      rw [e, tkcs_append, ← HL1.out]
      rfl
set_option maxRecDepth 100000 in
set_option maxHeartbeats 4000000 in
theorem toks_impl_7 (word : ByteArray) (args : List ByteArray) (count : Int) (Aa : Option Addr) (m ca : Nat) (Ab : Option Addr) (nb cb : Nat) (w : World) (rs : List (List Tk)) (hm : args.length = m) (hra : Rd w 1 Aa m (strs args)) (hl : m ≤ 1048576) (hn : nb ≤ 1048576) (hrs : rs.length = nb) (hel : EltsT 96 w Ab nb rs) (hR : rs.flatten.length ≤ 1099511627776) :
    Calls Tryz.prog 96 #[.agg #[.int .i64 7, .string word, .slice Aa m ca, .int .i64 count, .slice Ab nb cb]] w (RetTk w (toks1 ⟨7, word, args, count⟩ rs.flatten)) := by
  obtain ⟨i0, hi, hz0, hz1, hz2⟩ := info_parts info_TkE
  obtain ⟨w0, hw0⟩ : ∃ w0, w0 = w.alloc (.cells #[.int .i64 7, .string word, .slice Aa m ca, .int .i64 count, .slice Ab nb cb] 66) := ⟨_, rfl⟩
  have X0 := Lib.hid (show w0.heap[w.heap.size]? = some (.cells #[.int .i64 7, .string word, .slice Aa m ca, .int .i64 count, .slice Ab nb cb] 66 (0, 0)) by rw [hw0]; exact boxed1_0 _ _)
  have b0 : Below w.heap.size w w0 := by rw [hw0]; exact (by repeat (first | exact Below.refl _ _ | assumption | (refine Below.trans ?_ (Below.mono (by assumption) (by first | omega | (simp; done) | (simp; omega)))) | (with_reducible refine Below.drew ?_) | (with_reducible refine Below.alloc ?_ (by first | omega | (simp; done) | (simp; omega)) _) | (with_reducible refine Below.setCell ?_ (by first | omega | (simp; done) | (simp; omega)) _)))
  have s0 : w.heap.size ≤ w0.heap.size := b0.size
  have z0 : w.heap.size < w0.heap.size := by rw [hw0]; simp
  have B0 := Lib.hid b0
  have HW := Lib.hid hw0
  have HM := Lib.hid hm
  have HRA := Lib.hid (hra.below b0)
  have HEL := Lib.hid hel
  have HRS := Lib.hid hrs
  have HR := Lib.hid hR
  clear b0 hw0 hm hra hel hrs hR
  go_enter Tryz.func96, Tryz.ntmps96
  go_wp2_with fail
  rw [← HW.out]
  refine (word_any _ _).mono ?_
  rintro e w1 ⟨rfl, b1, s1⟩
  have hb1 : Below w0.heap.size w0 w1 := ((Below.refl _ _).alloc (Nat.le_refl _) _).trans (b1.mono (by simp))
  have hs1 := hb1.size
  obtain ⟨p0, p1, p2, p3, p4⟩ := boxcells5 (lay := hb1) X0.out
  have zl1 : w.heap.size < w1.heap.size := by omega
  clear b1 s1
  obtain ⟨w2, hw2⟩ : ∃ w2, w2 = w1.alloc (.cells #[.int .i64 1, .string ⟨#[105, 102]⟩] 110) := ⟨_, rfl⟩
  have own2 : w2.ownsRow w0.heap.size 110 2 (.slice (some ⟨w1.heap.size, 0, none⟩) 1 1) 1 (tkcs [wTk ⟨#[105, 102]⟩]) := by rw [hw2]; exact World.ownsRow_lit w1 #[.int .i64 1, .string ⟨#[105, 102]⟩] 1 hs1 (by simp [maxLen]) rfl
  have hb2 : Below w0.heap.size w0 w2 := by rw [hw2]; exact hb1.alloc hs1 _
  have hs2 := hb2.size
  have HW2 := Lib.hid hw2
  clear hw2
  go_wp2_with fail
  rw [← HW2.out]
  obtain ⟨L0, hL0⟩ : ∃ L0, L0 = [wTk ⟨#[105, 102]⟩] := ⟨_, rfl⟩
  have HL0 := Lib.hid hL0
  rw [← hL0] at own2
  clear hL0
  go_loopw [4, 33] (fun v i wr => ∃ t : Nat, t ≤ m ∧ i = .int .i64 t ∧ wr.ownsRow w0.heap.size 110 2 v (1 + t) (tkcs (L0 ++ (args.take t).map wTk)) ∧ Below w0.heap.size w0 wr) (fun _ i _ => m - (intOf i).toNat)
  case atStart => exact ⟨0, Nat.zero_le _, rfl, by simpa using own2, hb2⟩
  case round =>
    obtain ⟨t, ht, rfl, hown, hb⟩ := hrel
    have hbs := hb.size
    by_cases hlt : t < m
    · obtain ⟨s, hs⟩ : ∃ s, args[t]? = some s := ⟨_, List.getElem?_eq_getElem (by have := HM.out; omega)⟩
      obtain ⟨b, off, rfl, hbl, hc⟩ := HRA.out.2 (by omega)
      have q0 : wr.cell? ⟨b, off + t, none⟩ = some (.string s) := (hb.cell (by exact hbl)).trans (hc t _ (strs_at hs))
      have HS := Lib.hid (map_step (f := wTk) hs)
      obtain ⟨L, hL⟩ : ∃ L, L = (args.take t).map wTk := ⟨_, rfl⟩
      rw [← hL] at hown HS
      clear hc hs hL
      go_wp2_with fail
      refine (word_any s _).mono ?_
      rintro e w5 ⟨rfl, b5, s5⟩
      have hown1 := ownsRow_below hown b5
      have hb5 := hb.trans (b5.mono hbs)
      have hb5s := hb5.size
      clear hown
      go_wp2_with (at_builtin; refine wpList_append_rd _ rfl _ _ 53 rfl w0.heap.size 110 i0 _ 2 24 Tryz.underlying53 hi hz0 hz1 hz2 rfl (by decide) _ _ _ rfl (hown1.alloc _) _ 1 1 _ rfl (rd_lit2 ?c0 rfl) ?c2 ?c3 ?c4 ?c5 ?_)
      case c0 => first | rfl | simp
      case c2 => repeat' (first | rfl | apply And.intro)
      case c3 => simp only [maxLen]; omega
      case c4 => omega
      case c5 => first | omega | (simp; omega)
      intro v6 w6 own6 gr6 _
      have hb6 := (hb5.alloc hb5s _).grown gr6 (by simp; omega) (own_ge hown1)
      clear hown1 gr6
      go_wp2_with fail
      go_roundw
      case rel =>
        refine ⟨t + 1, by omega, by go_num, ?_, hb6⟩
        rw [HS.out, ← List.append_assoc, tkcs_append, ← Nat.add_assoc]
        exact own6
      case measure => simp [intOf]; omega
    · obtain rfl : m = t := by omega
      rw [List.take_of_length_le (by have := HM.out; omega)] at hown
      obtain ⟨L1, hL1⟩ : ∃ L1, L1 = L0 ++ args.map wTk := ⟨_, rfl⟩
      rw [← hL1] at hown
      have HL1 : Hid (L1 = [wTk ⟨#[105, 102]⟩] ++ args.map wTk) := by rw [hL1, HL0.out]; exact rfl
      clear hL1
      obtain ⟨p0, p1, p2, p3, p4⟩ := boxcells5 (lay := hb) X0.out
      have zl : w.heap.size < wr.heap.size := by omega
      go_wp2_with (first | (go_at_call 103; refine (hasBody_any _ _).mono ?_; rintro e w' ⟨rfl, rfl⟩) | (at_builtin; refine wpList_append_rd _ rfl _ _ 53 rfl w0.heap.size 110 i0 _ 2 24 Tryz.underlying53 hi hz0 hz1 hz2 rfl (by decide) _ _ _ rfl (hown.alloc _) _ 1 1 _ rfl (rd_lit2 ?c0 rfl) ?c2 ?c3 ?c4 ?c5 ?_))
      case c0 => first | rfl | simp
      case c2 => repeat' (first | rfl | apply And.intro)
      case c3 => simp only [maxLen]; omega
      case c4 => omega
      case c5 => first | omega | (simp; omega)
      intro v7 w7 own7 gr7 _
      have hb7 := (hb.alloc hbs _).grown gr7 (by simp; omega) (own_ge hown)
      have hs7 := hb7.size
      clear hown gr7 p0 p1 p2 p3 p4
      obtain ⟨p0, p1, p2, p3, p4⟩ := boxcells5 (lay := hb7) X0.out
      have zl7 : w.heap.size < w7.heap.size := by omega
      obtain ⟨L2, hL2⟩ : ∃ L2, L2 = L1 ++ [pTk 3] := ⟨_, rfl⟩
      have own7 : w7.ownsRow w0.heap.size 110 2 v7 (1 + m + 1) (tkcs L2) := by rw [hL2, tkcs_append]; exact own7
      have HL2 := Lib.hid hL2
      obtain ⟨N2, hN2⟩ : ∃ N2, N2 = 1 + m + 1 := ⟨_, rfl⟩
      rw [← hN2] at own7
      have hN2' : N2 ≤ 1048580 := by omega
      clear hL2 hN2
      go_wp2_with fail
      go_loopw [4, 58] (fun v i wr => ∃ t : Nat, t ≤ nb ∧ i = .int .i64 t ∧ wr.ownsRow w0.heap.size 110 2 v (N2 + (rs.take t).flatten.length) (tkcs (L2 ++ (rs.take t).flatten)) ∧ Below w0.heap.size w0 wr) (fun _ i _ => nb - (intOf i).toNat)
      case atStart => exact ⟨0, Nat.zero_le _, rfl, by simpa using own7, hb7⟩
      case round =>
        obtain ⟨t, ht, rfl, hown, hb⟩ := hrel
        have hbs := hb.size
        have hFle := flat_le rs t
        have hRR := HR.out
        by_cases hlt : t < nb
        · obtain ⟨b, off, k', wd', Aa', na', ca', ct', Ab', nb', cb', r, rfl, hbl, ⟨q0, q1, q2, q3, q4⟩, hr, hcall⟩ := HEL.out t hlt
          have hbw := (B0.out.trans (hb.mono s0))
          rw [← hbw.cell (p := ⟨b, _, none⟩) hbl] at q0 q1 q2 q3 q4
          have HC := Lib.hid (hcall _ ((hbw.alloc (by omega) (.cells #[.int .i64 k', .string wd', .slice Aa' na' ca', .int .i64 ct', .slice Ab' nb' cb'] 66))))
          have HS := Lib.hid (flat_step hr)
          have hF1 := flat_le rs (t + 1)
          rw [flat_step hr, List.length_append] at hF1
          obtain ⟨F, hF⟩ : ∃ F, F = (rs.take t).flatten := ⟨_, rfl⟩
          rw [← hF] at hown HS hF1 hFle
          have hlt0 : b < wr.heap.size := by have := hbw.size; omega
          clear hcall hr hbl hF
          go_wp2_with fail
          refine HC.out.mono ?_
          rintro e w8 ⟨v8, rfl, o8, b8, s8⟩
          obtain ⟨A8, c8, rfl, _, _, r8⟩ := rd_of_own o8
          have hb8' : Below wr.heap.size wr w8 := ((Below.refl _ _).alloc (Nat.le_refl _) _).trans (b8.mono (by simp))
          have own8 := ownsRow_below hown hb8'
          have hb8 := hb.trans (hb8'.mono hbs)
          have hs8 := hb8.size
          clear hown o8 b8 s8 q0 q1 q2 q3 q4
          go_wp2_with (at_builtin; refine wpList_append_rd _ rfl _ _ 53 rfl w0.heap.size 110 i0 _ 2 24 Tryz.underlying53 hi hz0 hz1 hz2 rfl (by decide) _ _ _ rfl own8 _ _ _ _ rfl r8 ?c2 ?c3 ?c4 ?c5 ?_)
          case c2 => exact tkc_ones r
          case c3 => simp only [maxLen]; omega
          case c4 => omega
          case c5 => first | omega | (simp; omega)
          intro v9 w9 own9 gr9 _
          have hb9 := hb8.grown gr9 (by omega) (own_ge own8)
          clear own8 gr9 r8
          go_wp2_with fail
          go_roundw
          case rel =>
            refine ⟨t + 1, by omega, by go_num, ?_, hb9⟩
            rw [HS.out, ← List.append_assoc, tkcs_append, List.length_append, ← Nat.add_assoc]
            exact own9
          case measure => simp [intOf]; omega
        · obtain rfl : nb = t := by omega
          rw [List.take_of_length_le (by have := HRS.out; omega)] at hown hFle
          skip
          go_wp2_with (at_builtin; refine wpList_append_rd _ rfl _ _ 53 rfl w0.heap.size 110 i0 _ 2 24 Tryz.underlying53 hi hz0 hz1 hz2 rfl (by decide) _ _ _ rfl (hown.alloc _) _ 1 1 _ rfl (rd_lit2 ?c0 rfl) ?c2 ?c3 ?c4 ?c5 ?_)
          case c0 => first | rfl | simp
          case c2 => repeat' (first | rfl | apply And.intro)
          case c3 => simp only [maxLen]; omega
          case c4 => omega
          case c5 => first | omega | (simp; omega)
          intro v10 w10 own10 gr10 _
          have hb10 := (hb.alloc hbs _).grown gr10 (by simp; omega) (own_ge hown)
          have hs10 := hb10.size
          clear hown gr10
          go_wp2_with fail
          go_ret
          have e : toks1 ⟨7, word, args, count⟩ rs.flatten = ((([wTk ⟨#[105, 102]⟩] ++ args.map wTk) ++ [pTk 3]) ++ rs.flatten) ++ [pTk 4] := by simp [toks1, headW, heads]
          refine retTk_of ?_ (own_low own10 s0) (B0.out.trans (hb10.mono s0)) (by omega)
          have e2 : tkcs (toks1 ⟨7, word, args, count⟩ rs.flatten) = tkcs (L2 ++ rs.flatten) ++ tkcs [pTk 4] := by rw [e, tkcs_append, ← HL1.out, ← HL2.out]
          rw [e2]
          rfl
end Go.Proofs.YthkbckkghnbonaaGreatDoor
