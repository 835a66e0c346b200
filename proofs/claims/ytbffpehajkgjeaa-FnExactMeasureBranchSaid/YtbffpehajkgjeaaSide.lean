/- The amplitudes of a state on one side of a qubit: plain facts, the reference's function, and writing single amplitudes. -/
import Derived.Test.YtbffpehajkgjeaaEqD
import Derived.Test.YtbffpehajkgjeaaBrsS
namespace Go.Proofs.Ytbffpehajkgjeaa
open Go.RowKit
set_option linter.unusedVariables false
def dz : Dm := ⟨0, 0, 0, 0, 0⟩
/-- Bit q of i, as the machine reckons it. -/
def bitI (i : Nat) (q : Int) : Int := bits BinOp.and IntKind.i64 ((i : Int) / 2 ^ q.toNat) 1
def sideL (q one : Int) (l : List Dm) : List Dm := l.mapIdx fun i x => if bitI i q = one then x else dz
theorem sideL_len (q one : Int) (l : List Dm) : (sideL q one l).length = l.length := by simp [sideL]
theorem sideL_at (q one : Int) {l : List Dm} {i : Nat} {x : Dm} (h : l[i]? = some x) : (sideL q one l)[i]? = some (if bitI i q = one then x else dz) := by simp [sideL, h]
/-- Has a list an amplitude that is not 0? -/
def nz (l : List Dm) : Bool := l.any fun x => !eqD x dz
theorem nz_snoc (l : List Dm) (x : Dm) : nz (l ++ [x]) = (nz l || !eqD x dz) := by simp [nz]
theorem nz_take {l : List Dm} {t : Nat} {x : Dm} (h : l[t]? = some x) : nz (l.take (t + 1)) = (nz (l.take t) || !eqD x dz) := by rw [List.take_add_one, h]; exact nz_snoc _ _
/-- The first t of P, then zeros. -/
def fillD (P : List Dm) (t n : Nat) : List Dm := P.take t ++ List.replicate (n - t) dz
theorem fillD_zero (P : List Dm) (n : Nat) : fillD P 0 n = List.replicate n dz := by simp [fillD]
theorem fillD_end {P : List Dm} {n : Nat} (h : P.length = n) : fillD P n n = P := by simp [fillD, ← h]
theorem fillD_len {P : List Dm} {t n : Nat} (h : P.length = n) (ht : t ≤ n) : (fillD P t n).length = n := by simp [fillD, h]; omega
theorem fillD_at {P : List Dm} {t n : Nat} (h : P.length = n) (ht : t < n) : (fillD P t n)[t]? = some dz := by
  have hl : (P.take t).length = t := by rw [List.length_take]; omega
  rw [fillD, List.getElem?_append_right (by omega), hl, Nat.sub_self, List.getElem?_replicate, if_pos (by omega)]
theorem fillD_set {P : List Dm} {t n : Nat} {x : Dm} (h : P.length = n) (hx : P[t]? = some x) : (fillD P t n).set t x = fillD P (t + 1) n := by
  have ht := (List.getElem?_eq_some_iff.1 hx).1
  have hl : (P.take t).length = t := by rw [List.length_take]; omega
  unfold fillD
  rw [List.set_append_right _ _ (by omega), hl, Nat.sub_self, show n - t = (n - (t + 1)) + 1 from by omega, List.replicate_succ, List.set_cons_zero, List.take_add_one, hx]
  simp
theorem fillD_off {P : List Dm} {t n : Nat} (h : P.length = n) (hx : P[t]? = some dz) : fillD P t n = fillD P (t + 1) n := by
  have ht := (List.getElem?_eq_some_iff.1 hx).1
  unfold fillD
  rw [show n - t = (n - (t + 1)) + 1 from by omega, List.replicate_succ, List.take_add_one, hx]
  simp
theorem made_dz (n : Nat) : (madeCells (Value.agg #[.int .i64 0, .int .i64 0, .int .i64 0, .int .i64 0, .int .i64 0]).cells (n * 5)).toList = (List.replicate n dz).flatMap dcells := by
  refine List.ext_getElem? fun j => ?_
  have hL : ((List.replicate n dz).flatMap dcells).length = n * 5 := by rw [flat_length dcells 5 dcells_len]; simp
  by_cases hj : j < n * 5
  · have h1 := flat_at dcells_len (List.replicate n dz) (j / 5) dz (j % 5) (by rw [List.getElem?_replicate, if_pos (by omega)]) (Nat.mod_lt _ (by decide))
    rw [show j / 5 * 5 + j % 5 = j from by omega] at h1
    rw [h1]
    have h5 : j % 5 = 0 ∨ j % 5 = 1 ∨ j % 5 = 2 ∨ j % 5 = 3 ∨ j % 5 = 4 := by omega
    have h2 : (madeCells (Value.agg #[.int .i64 0, .int .i64 0, .int .i64 0, .int .i64 0, .int .i64 0]).cells (n * 5)).toList[j]? = some ((#[Value.int .i64 0, .int .i64 0, .int .i64 0, .int .i64 0, .int .i64 0] : Array Value)[j % 5]!) := by
      simp [madeCells, hj, Value.cells]
    rw [h2]
    rcases h5 with h | h | h | h | h <;> rw [h] <;> rfl
  · rw [List.getElem?_eq_none (by rw [Array.length_toList, size_madeCells]; omega), List.getElem?_eq_none (by rw [hL]; omega)]
theorem neq_D0 (w : World) (a : Dm) : (binOp .neq 118 (.agg #[.int .i64 a.a, .int .i64 a.b, .int .i64 a.c, .int .i64 a.d, .int .i64 a.e]) (.agg #[.int .i64 0, .int .i64 0, .int .i64 0, .int .i64 0, .int .i64 0])).run Try.prog w = .ok (.bool (!eqD a dz)) w := neq_D w a dz
/-- The cells of amplitude i of an owned row. -/
theorem dcell5 {w : World} {base g n cap i T : Nat} {l : List Dm} {x : Dm} (h : w.ownsRow base T 5 (.slice (some ⟨g, 0, none⟩) n cap) n (l.flatMap dcells)) (hx : l[i]? = some x) :
    (w.cell? ⟨g, i * 5, none⟩ = some (.int .i64 x.a) ∧ w.cell? ⟨g, i * 5 + 1, none⟩ = some (.int .i64 x.b) ∧ w.cell? ⟨g, i * 5 + 2, none⟩ = some (.int .i64 x.c) ∧ w.cell? ⟨g, i * 5 + 3, none⟩ = some (.int .i64 x.d) ∧ w.cell? ⟨g, i * 5 + 4, none⟩ = some (.int .i64 x.e)) ∧
    w.frozen? ⟨g, i * 5, none⟩ = false ∧ w.frozen? ⟨g, i * 5 + 1, none⟩ = false ∧ w.frozen? ⟨g, i * 5 + 2, none⟩ = false ∧ w.frozen? ⟨g, i * 5 + 3, none⟩ = false ∧ w.frozen? ⟨g, i * 5 + 4, none⟩ = false := by
  have hlen := h.1
  have hi := (List.getElem?_eq_some_iff.1 hx).1
  have hl : l.length = n := by rw [flat_length dcells 5 dcells_len] at hlen; omega
  have hc := h.cellAt
  have at_ : ∀ j u, (dcells x)[j]? = some u → j < 5 → w.cell? ⟨g, i * 5 + j, none⟩ = some u := fun j u hu hj => by
    rw [hc _ (by omega), flat_at dcells_len l i x j hx hj]
    exact hu
  have hf := h.frozenAt
  exact ⟨⟨at_ 0 _ rfl (by decide), at_ 1 _ rfl (by decide), at_ 2 _ rfl (by decide), at_ 3 _ rfl (by decide), at_ 4 _ rfl (by decide)⟩, hf _, hf _, hf _, hf _, hf _⟩
/-- Storing an amplitude at place i. -/
theorem store5 {w : World} {base g n cap i T : Nat} {l : List Dm} (x : Dm) (h : w.ownsRow base T 5 (.slice (some ⟨g, 0, none⟩) n cap) n (l.flatMap dcells)) :
    (((((w.setCell ⟨g, i * 5, none⟩ (.int .i64 x.a)).setCell ⟨g, i * 5 + 1, none⟩ (.int .i64 x.b)).setCell ⟨g, i * 5 + 1 + 1, none⟩ (.int .i64 x.c)).setCell ⟨g, i * 5 + 1 + 1 + 1, none⟩ (.int .i64 x.d)).setCell ⟨g, i * 5 + 1 + 1 + 1 + 1, none⟩ (.int .i64 x.e)).ownsRow base T 5 (.slice (some ⟨g, 0, none⟩) n cap) n ((l.set i x).flatMap dcells) ∧
    w.grownBy (((((w.setCell ⟨g, i * 5, none⟩ (.int .i64 x.a)).setCell ⟨g, i * 5 + 1, none⟩ (.int .i64 x.b)).setCell ⟨g, i * 5 + 1 + 1, none⟩ (.int .i64 x.c)).setCell ⟨g, i * 5 + 1 + 1 + 1, none⟩ (.int .i64 x.d)).setCell ⟨g, i * 5 + 1 + 1 + 1 + 1, none⟩ (.int .i64 x.e)) (some g) := by
  have s0 := h.stored (i * 5) (.int .i64 x.a)
  have s1 := s0.1.stored (i * 5 + 1) (.int .i64 x.b)
  have s2 := s1.1.stored (i * 5 + 1 + 1) (.int .i64 x.c)
  have s3 := s2.1.stored (i * 5 + 1 + 1 + 1) (.int .i64 x.d)
  have s4 := s3.1.stored (i * 5 + 1 + 1 + 1 + 1) (.int .i64 x.e)
  rw [flat_set5] at s4
  exact ⟨s4.1, (((s0.2.trans s1.2).trans s2.2).trans s3.2).trans s4.2⟩
/-- A state of its own, and whether it has something. -/
def RetSide (w : World) (n : Nat) (l : List Dm) (b : Bool) (e : Ending) (w' : World) : Prop :=
  ∃ A c, e = .returned (.tuple #[.slice A n c, .bool b]) ∧ w'.ownsRow w.heap.size 118 5 (.slice A n c) n (l.flatMap dcells) ∧ Below w.heap.size w w' ∧ w.heap.size ≤ w'.heap.size
set_option maxRecDepth 100000 in
set_option maxHeartbeats 4000000 in
theorem l23Side_any (A : Option Addr) (n c : Nat) (l : List Dm) (q one : Int) (w : World) (h : Rd w 5 A n (l.flatMap dcells)) (hl : l.length = n) (hn : n ≤ 1099511627776) (hq0 : 0 ≤ q) (hq : q ≤ 3) :
    Calls Try.prog 93 #[.slice A n c, .int .i64 q, .int .i64 one] w (RetSide w n (sideL q one l) (nz (sideL q one l))) := by
  obtain ⟨i0, hi, hz0, hz1, hz2⟩ := info_parts info_DOmegaE
  obtain ⟨w1, hrun, hown, hgr0⟩ := run_make_full (P := Try.prog) w w.heap.size 106 118 i0 _ 5 Try.underlying106 hi hz0 hz1 .i64 .i64 n (by rw [hz2]; omega) (by simp only [maxLen]; omega) (Nat.le_refl _)
  rw [made_dz, ← fillD_zero (sideL q one l)] at hown
  have H := Lib.hid h
  have HL := Lib.hid hl
  have HP := Lib.hid (show (sideL q one l).length = n by rw [sideL_len]; exact hl)
  clear h hl hi hz0 hz1 hz2
  have b1 : Below w.heap.size w w1 := (Below.refl _ _).grown hgr0 (Nat.le_refl _) (by simp)
  clear hgr0
  go_enter Try.func93, Try.ntmps93
  go_wp2_with fail
  clear hrun
  go_loopw [9, 10] (fun s i wr => ∃ t : Nat, t ≤ n ∧ i = .int .i64 t ∧ s = .bool (nz ((sideL q one l).take t)) ∧ wr.ownsRow w.heap.size 118 5 (.slice (some ⟨w.heap.size, 0, none⟩) n n) n ((fillD (sideL q one l) t n).flatMap dcells) ∧ Below w.heap.size w wr) (fun _ i _ => n - (intOf i).toNat)
  case atStart => exact ⟨0, Nat.zero_le _, rfl, rfl, hown, b1⟩
  case round =>
    clear hown b1
    obtain ⟨t, ht, rfl, rfl, hown, hb⟩ := hrel
    have hbs := hb.size
    by_cases hlt : t < n
    · have htl : t < l.length := by rw [HL.out]; exact hlt
      obtain ⟨g, hg⟩ : ∃ g, l[t]? = some g := ⟨_, List.getElem?_eq_getElem htl⟩
      obtain ⟨b, off, rfl, hbl, hc⟩ := H.out.2 (by omega)
      have q0 : wr.cell? ⟨b, off + t * 5, none⟩ = some (.int .i64 g.a) := (hb.cell (by exact hbl)).trans (hc (t * 5 + 0) _ (flat_at dcells_len l t g 0 hg (by decide)))
      have q1 : wr.cell? ⟨b, off + t * 5 + 1, none⟩ = some (.int .i64 g.b) := (hb.cell (by exact hbl)).trans (by rw [Nat.add_assoc]; exact hc (t * 5 + 1) _ (flat_at dcells_len l t g 1 hg (by decide)))
      have q2 : wr.cell? ⟨b, off + t * 5 + 2, none⟩ = some (.int .i64 g.c) := (hb.cell (by exact hbl)).trans (by rw [Nat.add_assoc]; exact hc (t * 5 + 2) _ (flat_at dcells_len l t g 2 hg (by decide)))
      have q3 : wr.cell? ⟨b, off + t * 5 + 3, none⟩ = some (.int .i64 g.d) := (hb.cell (by exact hbl)).trans (by rw [Nat.add_assoc]; exact hc (t * 5 + 3) _ (flat_at dcells_len l t g 3 hg (by decide)))
      have q4 : wr.cell? ⟨b, off + t * 5 + 4, none⟩ = some (.int .i64 g.e) := (hb.cell (by exact hbl)).trans (by rw [Nat.add_assoc]; exact hc (t * 5 + 4) _ (flat_at dcells_len l t g 4 hg (by decide)))
      have hne : b ≠ w.heap.size := by omega
      obtain ⟨⟨z0, z1, z2, z3, z4⟩, f0, f1, f2, f3, f4⟩ := dcell5 hown (fillD_at HP.out hlt)
      have HS := Lib.hid (sideL_at q one hg)
      have HN : Hid (∀ x : Dm, (sideL q one l)[t]? = some x → nz ((sideL q one l).take (t + 1)) = (nz ((sideL q one l).take t) || !eqD x dz)) := Lib.hid (fun x h => nz_take h)
      obtain ⟨Z, hZ⟩ : ∃ Z, Z = nz ((sideL q one l).take t) := ⟨_, rfl⟩
      rw [← hZ] at HN ⊢
      clear hZ hc hg htl hbl
      by_cases hbit : bitI t q = one
      · have hb1 : (bits BinOp.and IntKind.i64 ((t : Int) / 2 ^ q.toNat) 1 == one) = true := by simpa [bitI] using hbit
        have HB := Lib.hid hbit
        have hne0 := fun w => neq_D0 w g
        clear hbit
        cases Z
        · go_wp2_with fail
          go_roundw
          case rel =>
            have hs := HS.out
            rw [if_pos HB.out] at hs
            have s := store5 (i := t) g hown
            rw [fillD_set HP.out hs] at s
            exact ⟨t + 1, by omega, by go_num, by rw [HN.out _ hs]; rfl, s.1, hb.grown s.2 (by omega) (by simp)⟩
          case measure => simp [intOf]; omega
        · go_wp2_with fail
          go_roundw
          case rel =>
            have hs := HS.out
            rw [if_pos HB.out] at hs
            have s := store5 (i := t) g hown
            rw [fillD_set HP.out hs] at s
            exact ⟨t + 1, by omega, by go_num, by rw [HN.out _ hs]; rfl, s.1, hb.grown s.2 (by omega) (by simp)⟩
          case measure => simp [intOf]; omega
      · have hb1 : (bits BinOp.and IntKind.i64 ((t : Int) / 2 ^ q.toNat) 1 == one) = false := by simpa [bitI] using hbit
        have HB := Lib.hid hbit
        clear hbit
        go_wp2_with fail
        go_roundw
        case rel =>
          have hs := HS.out
          rw [if_neg HB.out] at hs
          rw [fillD_off HP.out hs] at hown
          exact ⟨t + 1, by omega, by go_num, by rw [HN.out _ hs]; simp [eqD_refl], hown, hb⟩
        case measure => simp [intOf]; omega
    · obtain rfl : t = n := by omega
      go_wp2_with fail
      go_ret2
      rw [fillD_end HP.out] at hown
      exact ⟨_, _, by rw [List.take_of_length_le (by rw [HP.out]; exact Nat.le_refl _)]; rfl, hown, hb, hb.size⟩
end Go.Proofs.Ytbffpehajkgjeaa
