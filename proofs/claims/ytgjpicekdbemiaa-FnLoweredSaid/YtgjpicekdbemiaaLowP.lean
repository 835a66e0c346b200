/- Plain: from a basis state a list of valid gates and its decomposition do the same; what a decomposition holds is basic. -/
import Derived.Test.YtgjpicekdbemiaaApt
import Derived.Test.YtgjpicekdbemiaaDcc
import Derived.Test.YtgjpicekdbemiaaDecomposeS
namespace Go.Proofs.Ytgjpicekdbemiaa
open Go.RowKit
set_option linter.unusedVariables false
def unitV (i : Nat) : Nat → Zw := fun j => if j = i then ⟨1, 0, 0, 0⟩ else ⟨0, 0, 0, 0⟩
theorem bst_vec (i : Nat) (h : i < 8) : bst 8 i = vec 0 (unitV i) := by
  obtain rfl | rfl | rfl | rfl | rfl | rfl | rfl | rfl : i = 0 ∨ i = 1 ∨ i = 2 ∨ i = 3 ∨ i = 4 ∨ i = 5 ∨ i = 6 ∨ i = 7 := by omega
  all_goals rfl
theorem unit_nb (i : Nat) : ∀ j, nb (2 ^ 0) (unitV i j) := by
  intro j
  unfold unitV
  split <;> (unfold nb; simp)
def outP (L : List Gt) (i : Nat) : List Dm := (apGs L (bst 8 i)).getD []
theorem low_same (L : List Gt) (hv : ∀ g ∈ L, validG g 3 = true) (hh : hcs L ≤ 12) (i : Nat) (hi : i < 8) :
    apGs (L.flatMap dgate) (bst 8 i) = some (outP L i) ∧ apGs L (bst 8 i) = some (outP L i) ∧ (outP L i).length = 8 ∧ stOk (outP L i) = true ∧ stOk (bst 8 i) = true := by
  have hp : ∀ m : Nat, m ≤ 12 → (2 : Int) ^ m ≤ 1048576 := by decide
  obtain ⟨k', u', h1, h2, h3, h4⟩ := dgates_C L (k := 0) (u := unitV i) hv (unit_nb i) (by omega)
  rw [← bst_vec i hi] at h1 h2
  have e : outP L i = vec k' u' := by unfold outP; rw [h1]; rfl
  have h5 := hp k' h3
  refine ⟨by rw [e]; exact h2, by rw [e]; exact h1, by rw [e, vec_len], by rw [e]; exact stOk_vec h4 (by omega) (by omega), ?_⟩
  rw [bst_vec i hi]
  exact stOk_vec (unit_nb i) (by decide) (by decide)
theorem dgateP_le (g : Gt) : (dgate g).length ≤ 15 := by
  unfold dgate
  split
  · simp
  · split
    · simp
    · split <;> simp
theorem dgatesP_le : ∀ L : List Gt, (L.flatMap dgate).length ≤ 15 * L.length
  | [] => by simp
  | g :: L => by
    have h1 := dgateP_le g
    have h2 := dgatesP_le L
    simp only [List.flatMap_cons, List.length_append, List.length_cons]
    omega
def basic (g : Gt) : Bool := ar g.k == 1 || g.k == 9
theorem basic_1 (k a : Int) (h : ar k = 1) : basic (g1 k a) = true := by
  show (ar k == 1 || k == 9) = true
  rw [h]
  rfl
theorem basic_cx (a b : Int) : basic (gcx a b) = true := rfl
theorem basic_dgate {g : Gt} (hv : validG g 3 = true) : ∀ x ∈ dgate g, basic x = true := by
  have h4 : ar 4 = 1 := by decide
  have h7 : ar 7 = 1 := by decide
  have h8 : ar 8 = 1 := by decide
  unfold dgate
  split
  · simp [basic_1 _ _ h4, basic_cx]
  · split
    · simp [basic_cx]
    · split
      · simp [basic_1 _ _ h4, basic_1 _ _ h7, basic_1 _ _ h8, basic_cx]
      · rename_i n10 n11 n12
        have ha : ar g.k ≠ 0 := by
          simp only [validG, Bool.and_eq_true, decide_eq_true_eq] at hv
          exact hv.1.2
        intro x hx
        obtain rfl : x = g := by simpa using hx
        unfold basic
        rw [Bool.or_eq_true, beq_iff_eq, beq_iff_eq]
        unfold ar at ha ⊢
        by_cases h1 : inB x.k 1 8 = true
        · left; rw [if_pos h1]
        · rw [if_neg h1] at ha
          by_cases h2 : inB x.k 9 11 = true
          · right
            have := inB_iff.1 h2
            omega
          · rw [if_neg h2, if_neg n12] at ha
            exact absurd rfl ha
theorem basic_all {L : List Gt} (hv : ∀ g ∈ L, validG g 3 = true) : ∀ x ∈ L.flatMap dgate, basic x = true := by
  intro x hx
  obtain ⟨g, hg, hx⟩ := List.mem_flatMap.1 hx
  exact basic_dgate (hv g hg) x hx
set_option maxRecDepth 100000 in
theorem IsBasicGate_any (k a b c : Int) (w : World) : Calls Try.prog 10 #[.agg #[.int .i64 k, .int .i64 a, .int .i64 b, .int .i64 c]] w (Ret (.bool (basic ⟨k, a, b, c⟩)) w) := by
  obtain ⟨r, hr⟩ : ∃ r : Int, r = (ar k : Int) := ⟨_, rfl⟩
  have HA := Lib.hid (Arity_impl k)
  rw [← hr] at HA
  obtain ⟨q, hq⟩ : ∃ q, q = basic ⟨k, a, b, c⟩ := ⟨_, rfl⟩
  have hB : q = (r == 1 || k == 9) := by
    rw [hq, hr]
    show (ar k == 1 || k == 9) = _
    congr 1
    rw [Bool.eq_iff_iff, beq_iff_eq, beq_iff_eq]
    omega
  rw [← hq]
  have HB := Lib.hid hB
  clear hr hq hB
  cases h1 : r == 1
  · cases h9 : k == 9
    · go_enter Try.func10, Try.ntmps10
      go_wp2_with fail
      refine (HA.out _).mono ?_
      rintro e w' ⟨rfl, rfl⟩
      go_wp2_with fail
      go_ret
      exact ⟨by rw [HB.out, h1, h9]; rfl, (by repeat (first | exact Below.refl _ _ | assumption | (refine Below.trans ?_ (Below.mono (by assumption) (by first | omega | (simp; done) | (simp; omega)))) | (with_reducible refine Below.drew ?_) | (with_reducible refine Below.alloc ?_ (by first | omega | (simp; done) | (simp; omega)) _) | (with_reducible refine Below.setCell ?_ (by first | omega | (simp; done) | (simp; omega)) _))), (by first | omega | (simp; done) | (simp; omega))⟩
    · go_enter Try.func10, Try.ntmps10
      go_wp2_with fail
      refine (HA.out _).mono ?_
      rintro e w' ⟨rfl, rfl⟩
      go_wp2_with fail
      go_ret
      exact ⟨by rw [HB.out, h1, h9]; rfl, (by repeat (first | exact Below.refl _ _ | assumption | (refine Below.trans ?_ (Below.mono (by assumption) (by first | omega | (simp; done) | (simp; omega)))) | (with_reducible refine Below.drew ?_) | (with_reducible refine Below.alloc ?_ (by first | omega | (simp; done) | (simp; omega)) _) | (with_reducible refine Below.setCell ?_ (by first | omega | (simp; done) | (simp; omega)) _))), (by first | omega | (simp; done) | (simp; omega))⟩
  · go_enter Try.func10, Try.ntmps10
    go_wp2_with fail
    refine (HA.out _).mono ?_
    rintro e w' ⟨rfl, rfl⟩
    go_wp2_with fail
    go_ret
    exact ⟨by rw [HB.out, h1]; rfl, (by repeat (first | exact Below.refl _ _ | assumption | (refine Below.trans ?_ (Below.mono (by assumption) (by first | omega | (simp; done) | (simp; omega)))) | (with_reducible refine Below.drew ?_) | (with_reducible refine Below.alloc ?_ (by first | omega | (simp; done) | (simp; omega)) _) | (with_reducible refine Below.setCell ?_ (by first | omega | (simp; done) | (simp; omega)) _))), (by first | omega | (simp; done) | (simp; omega))⟩
end Go.Proofs.Ytgjpicekdbemiaa
