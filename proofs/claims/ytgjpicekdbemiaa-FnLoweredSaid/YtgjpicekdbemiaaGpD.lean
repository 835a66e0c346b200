/- Gates on amplitudes, plain: a list of gates and the decomposed list do the same to every state of three qubits. -/
import Derived.Test.YtgjpicekdbemiaaGpL
namespace Go.Proofs.Ytgjpicekdbemiaa
open Go.RowKit
set_option linter.unusedVariables false
def cl (u : Nat → Zw) (j : Nat) : Zw := if j < 8 then u j else zz
theorem cl_lt {u : Nat → Zw} {j : Nat} (h : j < 8) : cl u j = u j := by rw [cl, if_pos h]
theorem vec_cl (K : Nat) (u : Nat → Zw) : vec K (cl u) = vec K u := vec_congr fun j h => cl_lt h
def stepC (g : Gt) (u : Nat → Zw) : Nat → Zw := cl (stepG g u)
def runC : List Gt → (Nat → Zw) → Nat → Zw
  | [], u => u
  | g :: r, u => runC r (stepC g u)
def hgs (l : List Gt) : Nat := (l.map hg).sum
theorem hg_le (g : Gt) : hg g ≤ 1 := by unfold hg; split <;> omega
theorem pow_hg (g : Gt) : (1 : Int) + (hg g : Nat) = 2 ^ hg g := by
  have := hg_le g
  obtain h | h : hg g = 0 ∨ hg g = 1 := by omega
  · rw [h]; rfl
  · rw [h]; rfl
theorem nb_cl {B : Int} {u : Nat → Zw} (hB : 0 ≤ B) (h : ∀ j, j < 8 → nb B (u j)) : ∀ j, nb B (cl u j) := by
  intro j
  unfold cl
  split
  · rename_i hj; exact h j hj
  · simp only [nb, zz]; omega
theorem apG_C {g : Gt} (hv : validG g 3 = true) {B : Int} {k : Nat} {u : Nat → Zw} (hu : ∀ j, nb B (u j)) (hB0 : 0 ≤ B) (hB : B ≤ 1048576) (hK6 : k + hg g ≤ 60) :
    apG g (vec k u) = some (vec (k + hg g) (stepC g u)) ∧ ∀ j, nb (B * 2 ^ hg g) (stepC g u j) := by
  obtain ⟨h1, h2⟩ := apG_vec hv hu hB0 hB hK6
  rw [pow_hg] at h2
  exact ⟨by rw [h1, stepC, vec_cl], nb_cl (Int.mul_nonneg hB0 (Int.le_of_lt (Int.pow_pos (by decide)))) h2⟩
theorem le_mul1 {B x : Int} (h : 0 ≤ B) (hx : 1 ≤ x) : B ≤ B * x := by
  have := Int.mul_le_mul_of_nonneg_left hx h
  rw [Int.mul_one] at this
  exact this
theorem apGs_C : ∀ (l : List Gt) {B : Int} {k : Nat} {u : Nat → Zw}, (∀ g ∈ l, validG g 3 = true) → (∀ j, nb B (u j)) → 0 ≤ B → B * 2 ^ hgs l ≤ 1048576 → k + hgs l ≤ 60 →
    apGs l (vec k u) = some (vec (k + hgs l) (runC l u)) ∧ ∀ j, nb (B * 2 ^ hgs l) (runC l u j)
  | [], B, k, u, hv, hu, hB0, hB, hk => ⟨rfl, fun j => by simpa [hgs, runC] using hu j⟩
  | g :: r, B, k, u, hv, hu, hB0, hB, hk => by
    have e : hgs (g :: r) = hg g + hgs r := by simp [hgs]
    have p0 : (1 : Int) ≤ 2 ^ hg g := by rw [← pow_hg]; omega
    have p1 : (1 : Int) ≤ 2 ^ hgs r := by have h : (0 : Int) < 2 ^ hgs r := Int.pow_pos (by decide); omega
    have eb : B * 2 ^ hgs (g :: r) = B * 2 ^ hg g * 2 ^ hgs r := by rw [e, Int.pow_add, Int.mul_assoc]
    rw [e] at hk
    have hb1 : 0 ≤ B * 2 ^ hg g := Int.mul_nonneg hB0 (by omega)
    rw [eb] at hB ⊢
    have hBg : B * 2 ^ hg g ≤ 1048576 := Int.le_trans (le_mul1 hb1 p1) hB
    have hB' : B ≤ 1048576 := Int.le_trans (le_mul1 hB0 p0) hBg
    obtain ⟨h1, h2⟩ := apG_C (k := k) (hv g (by simp)) hu hB0 hB' (by omega)
    obtain ⟨h3, h4⟩ := apGs_C r (fun g' h => hv g' (by simp [h])) h2 hb1 hB (k := k + hg g) (by omega)
    refine ⟨?_, h4⟩
    rw [apGs, h1]
    simp only
    rw [h3, e, runC, Nat.add_assoc]
/-- The gates that a decomposition uses, told place by place. -/
def zneg (n : Zw) : Zw := ⟨-n.a, -n.b, -n.c, -n.d⟩
def zr1 (n : Zw) : Zw := ⟨-n.d, n.a, n.b, n.c⟩
def zr7 (n : Zw) : Zw := ⟨n.b, n.c, n.d, -n.a⟩
def eH (a : Nat) (u : Nat → Zw) (j : Nat) : Zw := if bt j a = true then zsum (u (fl j a)) (zneg (u j)) else zsum (u j) (u (fl j a))
def eT (a : Nat) (u : Nat → Zw) (j : Nat) : Zw := if bt j a = true then zr1 (u j) else u j
def eD (a : Nat) (u : Nat → Zw) (j : Nat) : Zw := if bt j a = true then zr7 (u j) else u j
def eX (a b : Nat) (u : Nat → Zw) (j : Nat) : Zw := if bt j a = true then u (fl j b) else u j
def srcE (k a b c j : Nat) : List (Nat × Zw) :=
  if k = 4 then (if bt j a = true then [(fl j a, zph 0), (j, zph 4)] else [(j, zph 0), (fl j a, zph 0)])
  else if k = 7 then [(j, zph (if bt j a = true then 1 else 0))]
  else if k = 8 then [(j, zph (if bt j a = true then 7 else 0))]
  else if k = 9 then [(if bt j a = true then fl j b else j, zph 0)]
  else if k = 10 then [(j, zph (if (bt j a && bt j b) = true then 4 else 0))]
  else if k = 11 then [(if bt j a != bt j b then fl (fl j a) b else j, zph 0)]
  else [(if (bt j a && bt j b) = true then fl j c else j, zph 0)]
def srcK (k : Nat) : Bool := decide (k = 1) || (decide (k = 2) || (decide (k = 3) || (decide (k = 5) || decide (k = 6))))
theorem src_all0 : (over4 fun k a b c => !validG (gt4 k a b c) 3 || (srcK k || (List.range 8).all fun j => decide (src (gt4 k a b c) j 8 = srcE k a b c j))) = true := by decide +kernel
theorem src_all (k : Nat) (hk : k < 13) (a : Nat) (ha : a < 3) (b : Nat) (hb : b < 3) (c : Nat) (hc : c < 3) (hv : validG ⟨(k : Nat), (a : Nat), (b : Nat), (c : Nat)⟩ 3 = true) (hs : srcK k = false) (j : Nat) (hj : j < 8) : src ⟨(k : Nat), (a : Nat), (b : Nat), (c : Nat)⟩ j 8 = srcE k a b c j := by
  have h := over4_get src_all0 hk ha hb hc
  have hv' : validG (gt4 k a b c) 3 = true := hv
  rw [hv', hs, Bool.not_true, Bool.false_or, Bool.false_or] at h
  exact of_decide_eq_true (List.all_eq_true.1 h j (List.mem_range.2 hj))
theorem p0 (n : Zw) : zprod n (zph 0) = n := by apply Zw.ext' <;> simp [zprod, zph]
theorem p4 (n : Zw) : zprod n (zph 4) = zneg n := by apply Zw.ext' <;> simp [zprod, zph, zneg] <;> omega
theorem p1 (n : Zw) : zprod n (zph 1) = zr1 n := by apply Zw.ext' <;> simp [zprod, zph, zr1] <;> omega
theorem p7 (n : Zw) : zprod n (zph 7) = zr7 n := by apply Zw.ext' <;> simp [zprod, zph, zr7] <;> omega
theorem acc1 (u : Nat → Zw) (i : Nat) (y : Zw) : acc u zz [(i, y)] = zprod (u i) y := by simp [acc, z_sum]
theorem acc2 (u : Nat → Zw) (i i' : Nat) (y y' : Zw) : acc u zz [(i, y), (i', y')] = zsum (zprod (u i) y) (zprod (u i') y') := by simp [acc, z_sum]
theorem val_all : (List.range 3).all (fun a => validG (gt4 4 a 0 0) 3 && (validG (gt4 7 a 0 0) 3 && (validG (gt4 8 a 0 0) 3 && (List.range 3).all fun b => decide (a = b) || validG (gt4 9 a b 0) 3))) = true := by decide +kernel
theorem val4 (a : Nat) (ha : a < 3) : validG ⟨4, (a : Nat), 0, 0⟩ 3 = true ∧ validG ⟨7, (a : Nat), 0, 0⟩ 3 = true ∧ validG ⟨8, (a : Nat), 0, 0⟩ 3 = true := by
  have h := List.all_eq_true.1 val_all a (List.mem_range.2 ha)
  simp only [Bool.and_eq_true] at h
  exact ⟨h.1, h.2.1, h.2.2.1⟩
theorem val9 (a : Nat) (ha : a < 3) (b : Nat) (hb : b < 3) (hab : a ≠ b) : validG ⟨9, (a : Nat), (b : Nat), 0⟩ 3 = true := by
  have h := List.all_eq_true.1 val_all a (List.mem_range.2 ha)
  simp only [Bool.and_eq_true] at h
  have h2 := List.all_eq_true.1 h.2.2.2 b (List.mem_range.2 hb)
  rw [decide_eq_false hab, Bool.false_or] at h2
  exact h2
theorem step_h {a j : Nat} (ha : a < 3) (hj : j < 8) (u : Nat → Zw) : stepC ⟨4, (a : Nat), 0, 0⟩ u j = eH a u j := by
  rw [stepC, cl_lt hj, stepG]
  have := src_all 4 (by decide) a ha 0 (by decide) 0 (by decide) (val4 a ha).1 rfl j hj
  have e : src ⟨4, (a : Nat), 0, 0⟩ j 8 = srcE 4 a 0 0 j := this
  rw [e, srcE, if_pos rfl, eH]
  by_cases h : bt j a = true
  · rw [if_pos h, if_pos h, acc2, p0, p4]
  · rw [if_neg h, if_neg h, acc2, p0, p0]
theorem step_t {a j : Nat} (ha : a < 3) (hj : j < 8) (u : Nat → Zw) : stepC ⟨7, (a : Nat), 0, 0⟩ u j = eT a u j := by
  rw [stepC, cl_lt hj, stepG]
  have e : src ⟨7, (a : Nat), 0, 0⟩ j 8 = srcE 7 a 0 0 j := src_all 7 (by decide) a ha 0 (by decide) 0 (by decide) (val4 a ha).2.1 rfl j hj
  rw [e, srcE, if_neg (by decide), if_pos rfl, eT, acc1]
  by_cases h : bt j a = true
  · rw [if_pos h, if_pos h, p1]
  · rw [if_neg h, if_neg h, p0]
theorem step_d {a j : Nat} (ha : a < 3) (hj : j < 8) (u : Nat → Zw) : stepC ⟨8, (a : Nat), 0, 0⟩ u j = eD a u j := by
  rw [stepC, cl_lt hj, stepG]
  have e : src ⟨8, (a : Nat), 0, 0⟩ j 8 = srcE 8 a 0 0 j := src_all 8 (by decide) a ha 0 (by decide) 0 (by decide) (val4 a ha).2.2 rfl j hj
  rw [e, srcE, if_neg (by decide), if_neg (by decide), if_pos rfl, eD, acc1]
  by_cases h : bt j a = true
  · rw [if_pos h, if_pos h, p7]
  · rw [if_neg h, if_neg h, p0]
theorem step_x {a b j : Nat} (ha : a < 3) (hb : b < 3) (hab : a ≠ b) (hj : j < 8) (u : Nat → Zw) : stepC ⟨9, (a : Nat), (b : Nat), 0⟩ u j = eX a b u j := by
  rw [stepC, cl_lt hj, stepG]
  have e : src ⟨9, (a : Nat), (b : Nat), 0⟩ j 8 = srcE 9 a b 0 j := src_all 9 (by decide) a ha b hb 0 (by decide) (val9 a ha b hb hab) rfl j hj
  rw [e, srcE, if_neg (by decide), if_neg (by decide), if_neg (by decide), if_pos rfl, eX, acc1, p0]
  by_cases h : bt j a = true
  · rw [if_pos h, if_pos h]
  · rw [if_neg h, if_neg h]
theorem phs_lt {L : List (Nat × Zw)} (h : phs L = true) {u v : Nat → Zw} (he : ∀ j, j < 8 → u j = v j) : ∀ z, acc u z L = acc v z L := by
  induction L with
  | nil => intro z; rfl
  | cons p L ih =>
    intro z
    simp only [phs, List.all_cons, Bool.and_eq_true, decide_eq_true_eq] at h
    show acc u (zsum z (zprod (u p.1) p.2)) L = acc v (zsum z (zprod (v p.1) p.2)) L
    rw [he _ h.1.1]
    exact ih (by simpa [phs] using h.2) _
theorem stepC_congr {g : Gt} (hv : validG g 3 = true) {u v : Nat → Zw} (he : ∀ j, j < 8 → u j = v j) : stepC g u = stepC g v := by
  obtain ⟨kk, a, b, c, hk, ha, hb, hc, rfl⟩ := valid3 hv
  have hf := (all_fine kk hk a ha b hb c hc hv).2
  funext j
  unfold stepC cl
  split
  · rename_i hj
    have := List.all_eq_true.1 hf j (List.mem_range.2 hj)
    simp only [Bool.and_eq_true] at this
    exact phs_lt this.1 he zz
  · rfl
theorem runC_congr {l : List Gt} (hv : ∀ g ∈ l, validG g 3 = true) {u v : Nat → Zw} (he : ∀ j, j < 8 → u j = v j) : ∀ j, j < 8 → runC l u j = runC l v j := by
  cases l with
  | nil => exact he
  | cons g r =>
    intro j hj
    rw [runC, runC, stepC_congr (hv g (by simp)) he]
/-- A basic gate of a decomposition: told place by place. -/
inductive Bas : Gt → ((Nat → Zw) → Nat → Zw) → Prop
  | h (a : Nat) (ha : a < 3) : Bas ⟨4, (a : Nat), 0, 0⟩ (eH a)
  | t (a : Nat) (ha : a < 3) : Bas ⟨7, (a : Nat), 0, 0⟩ (eT a)
  | d (a : Nat) (ha : a < 3) : Bas ⟨8, (a : Nat), 0, 0⟩ (eD a)
  | x (a b : Nat) (ha : a < 3) (hb : b < 3) (hab : a ≠ b) : Bas ⟨9, (a : Nat), (b : Nat), 0⟩ (eX a b)
theorem Bas.valid {g : Gt} {f : (Nat → Zw) → Nat → Zw} (h : Bas g f) : validG g 3 = true := by
  cases h with
  | h a ha => exact (val4 a ha).1
  | t a ha => exact (val4 a ha).2.1
  | d a ha => exact (val4 a ha).2.2
  | x a b ha hb hab => exact val9 a ha b hb hab
theorem Bas.step {g : Gt} {f : (Nat → Zw) → Nat → Zw} (h : Bas g f) (u : Nat → Zw) : ∀ j, j < 8 → stepC g u j = f u j := by
  intro j hj
  cases h with
  | h a ha => exact step_h ha hj u
  | t a ha => exact step_t ha hj u
  | d a ha => exact step_d ha hj u
  | x a b ha hb hab => exact step_x ha hb hab hj u
inductive BasL : List Gt → ((Nat → Zw) → Nat → Zw) → Prop
  | nil : BasL [] id
  | cons {g : Gt} {f : (Nat → Zw) → Nat → Zw} {l : List Gt} {F : (Nat → Zw) → Nat → Zw} (h : Bas g f) (t : BasL l F) : BasL (g :: l) (fun u => F (f u))
theorem BasL.valid {l : List Gt} {F : (Nat → Zw) → Nat → Zw} (h : BasL l F) : ∀ g ∈ l, validG g 3 = true := by
  induction h with
  | nil => simp
  | cons h t ih =>
    intro g hg
    rcases List.mem_cons.1 hg with rfl | hg
    · exact h.valid
    · exact ih g hg
theorem BasL.run {l : List Gt} {F : (Nat → Zw) → Nat → Zw} (h : BasL l F) : ∀ (u : Nat → Zw) (j : Nat), j < 8 → runC l u j = F u j := by
  induction h with
  | nil => intro u j _; rfl
  | cons h t ih =>
    intro u j hj
    rw [runC, runC_congr t.valid (h.step u) j hj]
    exact ih _ j hj
set_option maxHeartbeats 4000000 in
theorem id_cz : ∀ (u : Nat → Zw) (a b j : Nat), a < 3 → b < 3 → a ≠ b → j < 8 → eH b (eX a b (eH b u)) j = sq (sq (if (bt j a && bt j b) = true then zneg (u j) else u j)) := by
  intro u a b j ha hb hab hj
  obtain rfl | rfl | rfl : a = 0 ∨ a = 1 ∨ a = 2 := by omega
  all_goals (obtain rfl | rfl | rfl : b = 0 ∨ b = 1 ∨ b = 2 := by omega)
  all_goals (try (exact absurd rfl hab))
  all_goals (obtain rfl | rfl | rfl | rfl | rfl | rfl | rfl | rfl : j = 0 ∨ j = 1 ∨ j = 2 ∨ j = 3 ∨ j = 4 ∨ j = 5 ∨ j = 6 ∨ j = 7 := by omega)
  all_goals (simp [eH, eX, bt, fl]; apply Zw.ext' <;> simp only [zsum, zneg, sq] <;> omega)
set_option maxHeartbeats 4000000 in
theorem id_sw : ∀ (u : Nat → Zw) (a b j : Nat), a < 3 → b < 3 → a ≠ b → j < 8 → eX a b (eX b a (eX a b u)) j = u (if bt j a != bt j b then fl (fl j a) b else j) := by
  intro u a b j ha hb hab hj
  obtain rfl | rfl | rfl : a = 0 ∨ a = 1 ∨ a = 2 := by omega
  all_goals (obtain rfl | rfl | rfl : b = 0 ∨ b = 1 ∨ b = 2 := by omega)
  all_goals (try (exact absurd rfl hab))
  all_goals (obtain rfl | rfl | rfl | rfl | rfl | rfl | rfl | rfl : j = 0 ∨ j = 1 ∨ j = 2 ∨ j = 3 ∨ j = 4 ∨ j = 5 ∨ j = 6 ∨ j = 7 := by omega)
  all_goals (simp [eX, bt, fl])
set_option maxHeartbeats 16000000 in
theorem id_ccx : ∀ (u : Nat → Zw) (a b c j : Nat), a < 3 → b < 3 → c < 3 → a ≠ b → a ≠ c → b ≠ c → j < 8 →
    eX a b (eD b (eT a (eX a b (eH c (eT c (eT b (eX a c (eD c (eX b c (eT c (eX a c (eD c (eX b c (eH c u)))))))))))))) j = sq (sq (u (if (bt j a && bt j b) = true then fl j c else j))) := by
  intro u a b c j ha hb hc hab hac hbc hj
  obtain rfl | rfl | rfl : a = 0 ∨ a = 1 ∨ a = 2 := by omega
  all_goals (obtain rfl | rfl | rfl : b = 0 ∨ b = 1 ∨ b = 2 := by omega)
  all_goals (try (exact absurd rfl hab))
  all_goals (obtain rfl | rfl | rfl : c = 0 ∨ c = 1 ∨ c = 2 := by omega)
  all_goals (try (exact absurd rfl hac))
  all_goals (try (exact absurd rfl hbc))
  all_goals (obtain rfl | rfl | rfl | rfl | rfl | rfl | rfl | rfl : j = 0 ∨ j = 1 ∨ j = 2 ∨ j = 3 ∨ j = 4 ∨ j = 5 ∨ j = 6 ∨ j = 7 := by omega)
  all_goals (simp [eH, eX, eT, eD, bt, fl]; apply Zw.ext' <;> simp only [zsum, zneg, zr1, zr7, sq] <;> omega)
theorem cD_up2 (k : Nat) (n : Zw) : cD (k + 2) (sq (sq n)) = cD k n := by
  unfold cD
  rw [cn_sq (k + 1) (sq n), cn_sq k n]
/-- How many halvings a gate brings when it is decomposed. -/
def hc (g : Gt) : Nat := if g.k = 4 then 1 else if g.k = 10 then 2 else if g.k = 12 then 2 else 0
theorem step_cz {a b j : Nat} (ha : a < 3) (hb : b < 3) (hv : validG ⟨10, (a : Nat), (b : Nat), 0⟩ 3 = true) (hj : j < 8) (u : Nat → Zw) : stepC ⟨10, (a : Nat), (b : Nat), 0⟩ u j = if (bt j a && bt j b) = true then zneg (u j) else u j := by
  rw [stepC, cl_lt hj, stepG]
  have e : src ⟨10, (a : Nat), (b : Nat), 0⟩ j 8 = srcE 10 a b 0 j := src_all 10 (by decide) a ha b hb 0 (by decide) hv rfl j hj
  rw [e]
  show acc u zz [(j, zph (if (bt j a && bt j b) = true then 4 else 0))] = _
  rw [acc1]
  by_cases h : (bt j a && bt j b) = true
  · rw [if_pos h, if_pos h, p4]
  · rw [if_neg h, if_neg h, p0]
theorem step_sw {a b j : Nat} (ha : a < 3) (hb : b < 3) (hv : validG ⟨11, (a : Nat), (b : Nat), 0⟩ 3 = true) (hj : j < 8) (u : Nat → Zw) : stepC ⟨11, (a : Nat), (b : Nat), 0⟩ u j = u (if bt j a != bt j b then fl (fl j a) b else j) := by
  rw [stepC, cl_lt hj, stepG]
  have e : src ⟨11, (a : Nat), (b : Nat), 0⟩ j 8 = srcE 11 a b 0 j := src_all 11 (by decide) a ha b hb 0 (by decide) hv rfl j hj
  rw [e]
  show acc u zz [(if bt j a != bt j b then fl (fl j a) b else j, zph 0)] = _
  rw [acc1, p0]
theorem step_ccx {a b c j : Nat} (ha : a < 3) (hb : b < 3) (hc : c < 3) (hv : validG ⟨12, (a : Nat), (b : Nat), (c : Nat)⟩ 3 = true) (hj : j < 8) (u : Nat → Zw) : stepC ⟨12, (a : Nat), (b : Nat), (c : Nat)⟩ u j = u (if (bt j a && bt j b) = true then fl j c else j) := by
  rw [stepC, cl_lt hj, stepG]
  have e : src ⟨12, (a : Nat), (b : Nat), (c : Nat)⟩ j 8 = srcE 12 a b c j := src_all 12 (by decide) a ha b hb c hc hv rfl j hj
  rw [e]
  show acc u zz [(if (bt j a && bt j b) = true then fl j c else j, zph 0)] = _
  rw [acc1, p0]
theorem val10_all : (over4 fun k a b c => !validG (gt4 k a b c) 3 || ((decide (k ≠ 10) || (decide (a ≠ b) && decide (c = 0))) && ((decide (k ≠ 11) || (decide (a ≠ b) && decide (c = 0))) && (decide (k ≠ 12) || (decide (a ≠ b) && (decide (a ≠ c) && decide (b ≠ c))))))) = true := by decide +kernel
theorem val10 (a : Nat) (ha : a < 3) (b : Nat) (hb : b < 3) (c : Nat) (hc : c < 3) : (validG ⟨10, (a : Nat), (b : Nat), (c : Nat)⟩ 3 = true → a ≠ b ∧ c = 0) ∧ (validG ⟨11, (a : Nat), (b : Nat), (c : Nat)⟩ 3 = true → a ≠ b ∧ c = 0) ∧ (validG ⟨12, (a : Nat), (b : Nat), (c : Nat)⟩ 3 = true → a ≠ b ∧ a ≠ c ∧ b ≠ c) := by
  refine ⟨fun hv => ?_, fun hv => ?_, fun hv => ?_⟩
  · have h := over4_get val10_all (k := 10) (by decide) ha hb hc
    rw [show validG (gt4 10 a b c) 3 = true from hv] at h
    simp only [Bool.not_true, Bool.false_or, Bool.and_eq_true, Bool.or_eq_true, decide_eq_true_eq] at h
    exact h.1.resolve_left (fun h => h rfl)
  · have h := over4_get val10_all (k := 11) (by decide) ha hb hc
    rw [show validG (gt4 11 a b c) 3 = true from hv] at h
    simp only [Bool.not_true, Bool.false_or, Bool.and_eq_true, Bool.or_eq_true, decide_eq_true_eq] at h
    exact h.2.1.resolve_left (fun h => h rfl)
  · have h := over4_get val10_all (k := 12) (by decide) ha hb hc
    rw [show validG (gt4 12 a b c) 3 = true from hv] at h
    simp only [Bool.not_true, Bool.false_or, Bool.and_eq_true, Bool.or_eq_true, decide_eq_true_eq] at h
    exact h.2.2.resolve_left (fun h => h rfl)
set_option maxHeartbeats 4000000 in
theorem dgate_C {g : Gt} (hv : validG g 3 = true) {k : Nat} {u : Nat → Zw} (hu : ∀ j, nb (2 ^ k) (u j)) (hk : k + hc g ≤ 12) :
    apGs (dgate g) (vec k u) = some (vec (k + hg g) (stepC g u)) := by
  have hp : ∀ m : Nat, m ≤ 12 → (2 : Int) ^ m ≤ 1048576 := by decide
  have hp0 : (0 : Int) ≤ 2 ^ k := Int.le_of_lt (Int.pow_pos (by decide))
  obtain ⟨kk, a, b, c, hk', ha, hb, hc', rfl⟩ := valid3 hv
  have hone : ∀ x : Gt, validG x 3 = true → k + hg x ≤ 12 → apGs [x] (vec k u) = some (vec (k + hg x) (stepC x u)) := by
    intro x hx hkx
    rw [apGs, (apG_C hx hu hp0 (hp k (by omega)) (by omega)).1]
    rfl
  by_cases h10 : kk = 10
  · subst h10
    obtain ⟨hab, rfl⟩ := (val10 a ha b hb c hc').1 hv
    have hB := BasL.cons (Bas.h b hb) (BasL.cons (Bas.x a b ha hb hab) (BasL.cons (Bas.h b hb) BasL.nil))
    have hV : ∀ g ∈ dgate ⟨10, (a : Nat), (b : Nat), 0⟩, validG g 3 = true := hB.valid
    have hL : ∀ (u : Nat → Zw) (j : Nat), j < 8 → runC (dgate ⟨10, (a : Nat), (b : Nat), 0⟩) u j = eH b (eX a b (eH b u)) j := fun u j hj => hB.run u j hj
    have hh : hgs (dgate ⟨10, (a : Nat), (b : Nat), 0⟩) = 2 := rfl
    have hk2 : k + 2 ≤ 12 := hk
    obtain ⟨h1, _⟩ := apGs_C _ hV hu hp0 (k := k) (by rw [hh, ← Int.pow_add]; exact hp (k + 2) hk2) (by rw [hh]; omega)
    refine h1.trans ?_
    rw [hh]
    congr 1
    show vec (k + 2) _ = vec k _
    unfold vec
    refine List.map_congr_left fun j hj => ?_
    have hj := List.mem_range.1 hj
    rw [hL u j hj, id_cz u a b j ha hb hab hj, cD_up2]
    exact congrArg _ (step_cz ha hb hv hj u).symm
  · by_cases h11 : kk = 11
    · subst h11
      obtain ⟨hab, rfl⟩ := (val10 a ha b hb c hc').2.1 hv
      have hB := BasL.cons (Bas.x a b ha hb hab) (BasL.cons (Bas.x b a hb ha (Ne.symm hab)) (BasL.cons (Bas.x a b ha hb hab) BasL.nil))
      have hV : ∀ g ∈ dgate ⟨11, (a : Nat), (b : Nat), 0⟩, validG g 3 = true := hB.valid
      have hL : ∀ (u : Nat → Zw) (j : Nat), j < 8 → runC (dgate ⟨11, (a : Nat), (b : Nat), 0⟩) u j = eX a b (eX b a (eX a b u)) j := fun u j hj => hB.run u j hj
      have hh : hgs (dgate ⟨11, (a : Nat), (b : Nat), 0⟩) = 0 := rfl
      obtain ⟨h1, _⟩ := apGs_C _ hV hu hp0 (k := k) (by rw [hh, Int.pow_zero, Int.mul_one]; exact hp k (by omega)) (by rw [hh]; omega)
      refine h1.trans ?_
      rw [hh]
      congr 1
      show vec k _ = vec k _
      refine vec_congr fun j hj => ?_
      rw [hL u j hj, id_sw u a b j ha hb hab hj]
      exact (step_sw ha hb hv hj u).symm
    · by_cases h12 : kk = 12
      · subst h12
        obtain ⟨hab, hac, hbc⟩ := (val10 a ha b hb c hc').2.2 hv
        have hB := BasL.cons (Bas.h c hc') (BasL.cons (Bas.x b c hb hc' hbc) (BasL.cons (Bas.d c hc') (BasL.cons (Bas.x a c ha hc' hac) (BasL.cons (Bas.t c hc') (BasL.cons (Bas.x b c hb hc' hbc) (BasL.cons (Bas.d c hc') (BasL.cons (Bas.x a c ha hc' hac) (BasL.cons (Bas.t b hb) (BasL.cons (Bas.t c hc') (BasL.cons (Bas.h c hc') (BasL.cons (Bas.x a b ha hb hab) (BasL.cons (Bas.t a ha) (BasL.cons (Bas.d b hb) (BasL.cons (Bas.x a b ha hb hab) BasL.nil))))))))))))))
        have hV : ∀ g ∈ dgate ⟨12, (a : Nat), (b : Nat), (c : Nat)⟩, validG g 3 = true := hB.valid
        have hL : ∀ (u : Nat → Zw) (j : Nat), j < 8 → runC (dgate ⟨12, (a : Nat), (b : Nat), (c : Nat)⟩) u j = eX a b (eD b (eT a (eX a b (eH c (eT c (eT b (eX a c (eD c (eX b c (eT c (eX a c (eD c (eX b c (eH c u)))))))))))))) j := fun u j hj => hB.run u j hj
        have hh : hgs (dgate ⟨12, (a : Nat), (b : Nat), (c : Nat)⟩) = 2 := rfl
        have hk2 : k + 2 ≤ 12 := hk
        obtain ⟨h1, _⟩ := apGs_C _ hV hu hp0 (k := k) (by rw [hh, ← Int.pow_add]; exact hp (k + 2) hk2) (by rw [hh]; omega)
        refine h1.trans ?_
        rw [hh]
        congr 1
        show vec (k + 2) _ = vec k _
        unfold vec
        refine List.map_congr_left fun j hj => ?_
        have hj := List.mem_range.1 hj
        rw [hL u j hj, id_ccx u a b c j ha hb hc' hab hac hbc hj, cD_up2]
        exact congrArg _ (step_ccx ha hb hc' hv hj u).symm
      · rw [dgate_ne (by omega) (by omega) (by omega)]
        refine hone _ hv ?_
        have : hg ⟨(kk : Nat), (a : Nat), (b : Nat), (c : Nat)⟩ ≤ hc ⟨(kk : Nat), (a : Nat), (b : Nat), (c : Nat)⟩ := by
          unfold hg hc
          split <;> omega
        omega
def hcs (l : List Gt) : Nat := (l.map hc).sum
theorem hg_hc (g : Gt) : hg g ≤ hc g := by unfold hg hc; split <;> omega
/-- A list of valid gates and its decomposition do the same. -/
theorem dgates_C : ∀ (l : List Gt) {k : Nat} {u : Nat → Zw}, (∀ g ∈ l, validG g 3 = true) → (∀ j, nb (2 ^ k) (u j)) → k + hcs l ≤ 12 →
    ∃ (k' : Nat) (u' : Nat → Zw), apGs l (vec k u) = some (vec k' u') ∧ apGs (l.flatMap dgate) (vec k u) = some (vec k' u') ∧ k' ≤ 12 ∧ ∀ j, nb (2 ^ k') (u' j)
  | [], k, u, hv, hu, hk => ⟨k, u, rfl, rfl, by simpa [hcs] using hk, hu⟩
  | g :: r, k, u, hv, hu, hk => by
    have hp : ∀ m : Nat, m ≤ 12 → (2 : Int) ^ m ≤ 1048576 := by decide
    have hp0 : (0 : Int) ≤ 2 ^ k := Int.le_of_lt (Int.pow_pos (by decide))
    have e : hcs (g :: r) = hc g + hcs r := by simp [hcs]
    have hh := hg_hc g
    rw [e] at hk
    obtain ⟨h1, h2⟩ := apG_C (hv g (by simp)) hu hp0 (hp k (by omega)) (show k + hg g ≤ 60 by omega)
    rw [← Int.pow_add] at h2
    have h3 := dgate_C (hv g (by simp)) hu (by omega)
    obtain ⟨k', u', i1, i2, i3, i4⟩ := dgates_C r (fun x hx => hv x (by simp [hx])) h2 (by omega)
    refine ⟨k', u', ?_, ?_, i3, i4⟩
    · rw [apGs, h1]; exact i1
    · rw [List.flatMap_cons, apGs_app, h3]; exact i2
end Go.Proofs.Ytgjpicekdbemiaa
