/- Gates on amplitudes, plain: on three qubits the reference's application of a valid gate is exact, and a decomposed gate does what the gate does. -/
import Derived.Test.YtgjpicekdbemiaaGp
import Derived.Test.YtgjpicekdbemiaaZwL
import Derived.Test.YtgjpicekdbemiaaDecompose
namespace Go.Proofs.Ytgjpicekdbemiaa
open Go.RowKit
set_option linter.unusedVariables false
instance decZw : DecidableEq Zw := fun x y => decidable_of_iff (x.a = y.a ∧ x.b = y.b ∧ x.c = y.c ∧ x.d = y.d) ⟨fun h => Zw.ext' h.1 h.2.1 h.2.2.1 h.2.2.2, fun h => by subst h; exact ⟨rfl, rfl, rfl, rfl⟩⟩
def vec (K : Nat) (u : Nat → Zw) : List Dm := (List.range 8).map fun i => cD K (u i)
theorem vec_len (K : Nat) (u : Nat → Zw) : (vec K u).length = 8 := by simp [vec]
theorem vec_getD {K i : Nat} {u : Nat → Zw} (h : i < 8) : (vec K u).getD i d0 = cD K (u i) := by simp [vec, h]
theorem vec_congr {K : Nat} {u v : Nat → Zw} (h : ∀ j, j < 8 → u j = v j) : vec K u = vec K v := by
  unfold vec
  exact List.map_congr_left (fun i hi => by rw [h i (List.mem_range.1 hi)])
theorem vec_set {K j : Nat} {f : Nat → Zw} (x : Zw) (h : j < 8) : (vec K f).set j (cD K x) = vec K (fun i => if i = j then x else f i) := by
  unfold vec
  apply List.ext_getElem?
  intro i
  rw [List.getElem?_set]
  by_cases e : j = i
  · subst e
    simp [h]
  · rw [if_neg e]
    by_cases hi : i < 8
    · simp [hi, show ¬ i = j from fun h => e h.symm]
    · simp [hi]
def upd (n : Zw) : (Nat → Zw) → List Snt → Nat → Zw
  | f, [] => f
  | f, s :: r => upd n (fun j => if j = s.j then zsum (f j) (zprod n s.y) else f j) r
def goodS (e : Nat) (s : Snt) : Prop := s.j < 8 ∧ nb 1 s.y ∧ s.e = e ∧ sby s = cD s.e s.y
theorem puts_vec {B : Int} {k K e : Nat} {n : Zw} (hn : nb B n) (hB0 : 0 ≤ B) (hB : B ≤ 1048576) (hK : k + e = K) (hK6 : K ≤ 60) : ∀ {L : List Snt} {C : Int} {f : Nat → Zw}, (∀ s ∈ L, goodS e s) → (∀ j, nb C (f j)) → 0 ≤ C → C + 4 * B * L.length ≤ 1073741824 →
    puts (cD k n) (vec K f) L = some (vec K (upd n f L)) ∧ ∀ j, nb (C + 4 * B * L.length) (upd n f L j)
  | [], C, f, hL, hf, hC0, hC => ⟨rfl, fun j => nb_up (hf j) (by simp)⟩
  | s :: r, C, f, hL, hf, hC0, hC => by
    obtain ⟨h1, h2, h3, h4⟩ := hL s (by simp)
    have hlen : (4 * B * ((s :: r).length : Int)) = 4 * B + 4 * B * (r.length : Int) := by rw [List.length_cons, Int.natCast_add, Int.mul_add]; omega
    have hr0 : 0 ≤ 4 * B * (r.length : Int) := Int.mul_nonneg (by omega) (by omega)
    rw [hlen] at hC ⊢
    have hp : nb (4 * B) (zprod n s.y) := nb_prod hn h2
    have e1 : put1 (cD k n) (vec K f) s = some (vec K (fun j => if j = s.j then zsum (f j) (zprod n s.y) else f j)) := by
      unfold put1
      rw [h4, mulD_cD hn h2 (by omega) hB0 (by omega)]
      simp only
      rw [vec_getD h1, show k + s.e = K from by omega, addD_cD (hf s.j) hp (by omega) hC0 (by omega) hK6]
      simp only
      rw [vec_set _ h1]
      congr 1
      apply vec_congr
      intro j _
      by_cases e : j = s.j
      · subst e; simp
      · simp [e]
    have hf' : ∀ j, nb (C + 4 * B) ((fun j => if j = s.j then zsum (f j) (zprod n s.y) else f j) j) := by
      intro j
      show nb _ (if j = s.j then zsum (f j) (zprod n s.y) else f j)
      split
      · exact nb_sum (hf j) hp
      · exact nb_up (hf j) (by omega)
    obtain ⟨i1, i2⟩ := puts_vec hn hB0 hB hK hK6 (L := r) (C := C + 4 * B) (fun s' hs' => hL s' (by simp [hs'])) hf' (by omega) (by omega)
    refine ⟨by rw [puts, e1]; exact i1, fun j => ?_⟩
    have := i2 j
    rw [upd, ← Int.add_assoc]
    exact this
theorem upd_zz : ∀ (L : List Snt) (f : Nat → Zw), upd zz f L = f
  | [], f => rfl
  | s :: r, f => by
    rw [upd]
    have : (fun j => if j = s.j then zsum (f j) (zprod zz s.y) else f j) = f := by
      funext j
      rw [z_prod, sum_z]
      simp
    rw [this]
    exact upd_zz r f
def srcs (i j : Nat) (L : List Snt) : List (Nat × Zw) := L.filterMap fun s => if j = s.j then some (i, s.y) else none
def acc (u : Nat → Zw) (z : Zw) (L : List (Nat × Zw)) : Zw := L.foldl (fun z p => zsum z (zprod (u p.1) p.2)) z
theorem upd_at (u : Nat → Zw) (i j : Nat) : ∀ (L : List Snt) (f : Nat → Zw), upd (u i) f L j = acc u (f j) (srcs i j L)
  | [], f => rfl
  | s :: r, f => by
    rw [upd, upd_at u i j r]
    by_cases e : j = s.j
    · simp [srcs, acc, e]
    · simp [srcs, acc, e]
def fin (g : Gt) (u : Nat → Zw) : Nat → Nat → Zw
  | 0 => fun _ => zz
  | t + 1 => upd (u t) (fin g u t) (goes g t)
def src (g : Gt) (j t : Nat) : List (Nat × Zw) := (List.range t).flatMap fun i => srcs i j (goes g i)
theorem fin_at (g : Gt) (u : Nat → Zw) (j : Nat) : ∀ t, fin g u t j = acc u zz (src g j t)
  | 0 => rfl
  | t + 1 => by
    rw [fin, upd_at, fin_at g u j t]
    simp [src, List.range_succ, acc, List.foldl_append]
def hg (g : Gt) : Nat := if g.k = 4 then 1 else 0
theorem apS_vec {g : Gt} {B : Int} {k : Nat} {u : Nat → Zw} (hg8 : ∀ i, i < 8 → (∀ s ∈ goes g i, goodS (hg g) s) ∧ (goes g i).length ≤ 2) (hu : ∀ j, nb B (u j)) (hB0 : 0 ≤ B) (hB : B ≤ 1048576) (hK6 : k + hg g ≤ 60) :
    ∀ t, t ≤ 8 → apS g (vec k u) t = some (vec (k + hg g) (fin g u t)) ∧ ∀ j, nb (8 * B * t) (fin g u t j)
  | 0, _ => by
    refine ⟨?_, fun j => ?_⟩
    · rw [apS, vec_len]
      congr 1
      simp only [vec, fin, cD_z]
      rfl
    · simp only [fin, nb, zz]; omega
  | t + 1, ht => by
    obtain ⟨i1, i2⟩ := apS_vec hg8 hu hB0 hB hK6 t (by omega)
    obtain ⟨h1, h2⟩ := hg8 t (by omega)
    have e8 : 8 * B * ((t + 1 : Nat) : Int) = 8 * B * (t : Int) + 8 * B := by rw [Int.natCast_add, Int.mul_add]; omega
    have t0 : 0 ≤ 8 * B * (t : Int) := Int.mul_nonneg (by omega) (by omega)
    have t1 : 8 * B * (t : Int) ≤ 8 * B * 7 := Int.mul_le_mul_of_nonneg_left (by omega) (by omega)
    have hl : 4 * B * ((goes g t).length : Int) ≤ 8 * B := by
      have : 4 * B * ((goes g t).length : Int) ≤ 4 * B * 2 := Int.mul_le_mul_of_nonneg_left (by omega) (by omega)
      omega
    rw [apS, i1]
    simp only
    rw [vec_getD (by omega)]
    by_cases hz : isZ (cD k (u t)) = true
    · rw [if_pos hz]
      have h0 := cD_zero (isZ_iff.1 hz)
      have ef : fin g u (t + 1) = fin g u t := by rw [fin, h0, upd_zz]
      rw [ef]
      exact ⟨rfl, fun j => nb_up (i2 j) (by omega)⟩
    · rw [if_neg hz]
      obtain ⟨p1, p2⟩ := puts_vec (hu t) hB0 hB rfl hK6 h1 i2 t0 (by omega)
      exact ⟨p1, fun j => nb_up (p2 j) (by omega)⟩
def stepG (g : Gt) (u : Nat → Zw) (j : Nat) : Zw := acc u zz (src g j 8)
theorem stOk_vec {B : Int} {k : Nat} {u : Nat → Zw} (hu : ∀ j, nb B (u j)) (hB : B ≤ 1073741824) (hk : k ≤ 60) : stOk (vec k u) = true := by
  unfold stOk
  rw [vec_len]
  simp only [Bool.and_eq_true, List.all_eq_true]
  refine ⟨fun x hx => ?_, rfl⟩
  simp only [vec, List.mem_map] at hx
  obtain ⟨i, _, rfl⟩ := hx
  exact dOk_cD (hu i) hB hk
theorem valid3 {g : Gt} (h : validG g 3 = true) : ∃ k a b c : Nat, k < 13 ∧ a < 3 ∧ b < 3 ∧ c < 3 ∧ g = ⟨k, a, b, c⟩ := by
  obtain ⟨k, a, b, c⟩ := g
  unfold validG at h
  simp only [Bool.and_eq_true, vupto, qsOf] at h
  obtain ⟨⟨_, h0⟩, ⟨⟨_, h1⟩, h2⟩, h3⟩ := h
  have hk : 1 ≤ k ∧ k ≤ 12 := by
    have h0 : ar k ≠ 0 := of_decide_eq_true h0
    unfold ar at h0
    split at h0
    · rename_i h; have := inB_iff.1 h; omega
    · split at h0
      · rename_i h; have := inB_iff.1 h; omega
      · split at h0
        · omega
        · exact absurd rfl h0
  have hq : ∀ (m t : Nat) (qs : List Int) (x : Int), qs.getD t 0 = x → vstep m 3 qs t = true → 0 ≤ x ∧ x ≤ 2 := by
    intro m t qs x hx h
    subst hx
    unfold vstep at h
    split at h
    · have : qs.getD t 0 = 0 := by simpa using h
      omega
    · simp only [Bool.and_eq_true] at h
      have := inB_iff.1 h.1
      omega
  have q1 := hq _ 0 _ a rfl h1
  have q2 := hq _ 1 _ b rfl h2
  have q3 := hq _ 2 _ c rfl h3
  refine ⟨k.toNat, a.toNat, b.toNat, c.toNat, by omega, by omega, by omega, by omega, ?_⟩
  rw [Int.toNat_of_nonneg (by omega), Int.toNat_of_nonneg (by omega), Int.toNat_of_nonneg (by omega), Int.toNat_of_nonneg (by omega)]
def fineS (e : Nat) (s : Snt) : Bool := decide (s.j < 8) && (decide (s.e = e) && ((decide (s.e = 0) && (List.range 8).any fun p => decide (s.y = zph p)) || (decide (s.e = 1) && (decide (s.y = zph 0) || decide (s.y = zph 4)))))
theorem nb_zph : ∀ p : Nat, nb 1 (zph p)
  | 0 => by simp [nb, zph]
  | 1 => by simp [nb, zph]
  | 2 => by simp [nb, zph]
  | 3 => by simp [nb, zph]
  | 4 => by simp [nb, zph]
  | 5 => by simp [nb, zph]
  | 6 => by simp [nb, zph]
  | n + 7 => by simp [nb, zph]
theorem goodS_of {e : Nat} {s : Snt} (h : fineS e s = true) : goodS e s := by
  unfold fineS at h
  simp only [Bool.and_eq_true, Bool.or_eq_true, decide_eq_true_eq, List.any_eq_true] at h
  obtain ⟨h1, h2, h3⟩ := h
  obtain ⟨j, y, e'⟩ := s
  simp only at h1 h2 h3
  rcases h3 with ⟨h3, p, _, h4⟩ | ⟨h3, h4 | h4⟩
  · subst h3 h4; exact ⟨h1, nb_zph p, h2, rfl⟩
  · subst h3 h4; exact ⟨h1, nb_zph 0, h2, rfl⟩
  · subst h3 h4; exact ⟨h1, nb_zph 4, h2, rfl⟩
def fineG (g : Gt) : Bool := (List.range 8).all fun i => (goes g i).all (fineS (hg g)) && decide ((goes g i).length ≤ 2)
def phs (L : List (Nat × Zw)) : Bool := L.all fun p => decide (p.1 < 8) && (List.range 8).any fun q => decide (p.2 = zph q)
def fineT (g : Gt) : Bool := (List.range 8).all fun j => phs (src g j 8) && decide ((src g j 8).length ≤ 1 + hg g)
def over4 (p : Nat → Nat → Nat → Nat → Bool) : Bool := (List.range 13).all fun k => (List.range 3).all fun a => (List.range 3).all fun b => (List.range 3).all fun c => p k a b c
theorem over4_get {p : Nat → Nat → Nat → Nat → Bool} (h : over4 p = true) {k a b c : Nat} (hk : k < 13) (ha : a < 3) (hb : b < 3) (hc : c < 3) : p k a b c = true :=
  List.all_eq_true.1 (List.all_eq_true.1 (List.all_eq_true.1 (List.all_eq_true.1 h k (List.mem_range.2 hk)) a (List.mem_range.2 ha)) b (List.mem_range.2 hb)) c (List.mem_range.2 hc)
def gt4 (k a b c : Nat) : Gt := ⟨k, a, b, c⟩
theorem all_fine0 : (over4 fun k a b c => !validG (gt4 k a b c) 3 || (fineG (gt4 k a b c) && fineT (gt4 k a b c))) = true := by decide +kernel
theorem all_fine (k : Nat) (hk : k < 13) (a : Nat) (ha : a < 3) (b : Nat) (hb : b < 3) (c : Nat) (hc : c < 3) (hv : validG ⟨(k : Nat), (a : Nat), (b : Nat), (c : Nat)⟩ 3 = true) : fineG ⟨(k : Nat), (a : Nat), (b : Nat), (c : Nat)⟩ = true ∧ fineT ⟨(k : Nat), (a : Nat), (b : Nat), (c : Nat)⟩ = true := by
  have h := over4_get all_fine0 hk ha hb hc
  have hv' : validG (gt4 k a b c) 3 = true := hv
  rw [hv', Bool.not_true, Bool.false_or, Bool.and_eq_true] at h
  exact h
theorem prod_ph {B : Int} {n : Zw} (h : nb B n) : ∀ p : Nat, nb B (zprod n (zph p))
  | 0 => by simp only [nb, zprod, zph] at *; omega
  | 1 => by simp only [nb, zprod, zph] at *; omega
  | 2 => by simp only [nb, zprod, zph] at *; omega
  | 3 => by simp only [nb, zprod, zph] at *; omega
  | 4 => by simp only [nb, zprod, zph] at *; omega
  | 5 => by simp only [nb, zprod, zph] at *; omega
  | 6 => by simp only [nb, zprod, zph] at *; omega
  | q + 7 => by simp only [nb, zprod, zph] at *; omega
theorem nb_acc {B : Int} {u : Nat → Zw} (hu : ∀ j, nb B (u j)) (hB : 0 ≤ B) : ∀ (L : List (Nat × Zw)) {z : Zw} {C : Int}, phs L = true → nb C z → nb (C + B * L.length) (acc u z L)
  | [], z, C, _, hz => nb_up hz (by simp)
  | p :: L, z, C, h, hz => by
    simp only [phs, List.all_cons, Bool.and_eq_true, List.any_eq_true, decide_eq_true_eq] at h
    obtain ⟨⟨_, q, _, hq⟩, h2⟩ := h
    have h3 : nb (C + B) (zsum z (zprod (u p.1) p.2)) := nb_sum hz (by rw [hq]; exact prod_ph (hu _) q)
    have := nb_acc hu hB L (by simpa [phs] using h2) h3
    rw [List.length_cons, Int.natCast_add, Int.mul_add, Int.natCast_one, Int.mul_one, show C + (B * (L.length : Int) + B) = C + B + B * L.length from by omega]
    exact this
/-- A valid gate on three qubits, applied by the reference: exact. -/
theorem apG_vec {g : Gt} (hv : validG g 3 = true) {B : Int} {k : Nat} {u : Nat → Zw} (hu : ∀ j, nb B (u j)) (hB0 : 0 ≤ B) (hB : B ≤ 1048576) (hK6 : k + hg g ≤ 60) :
    apG g (vec k u) = some (vec (k + hg g) (stepG g u)) ∧ ∀ j, j < 8 → nb (B * (1 + hg g)) (stepG g u j) := by
  obtain ⟨kk, a, b, c, hk, ha, hb, hc, rfl⟩ := valid3 hv
  obtain ⟨hf, hf'⟩ := all_fine kk hk a ha b hb c hc hv
  have h8 : ∀ i, i < 8 → (∀ s ∈ goes ⟨kk, a, b, c⟩ i, goodS (hg ⟨kk, a, b, c⟩) s) ∧ (goes ⟨kk, a, b, c⟩ i).length ≤ 2 := by
    intro i hi
    have := List.all_eq_true.1 hf i (List.mem_range.2 hi)
    simp only [Bool.and_eq_true, List.all_eq_true, decide_eq_true_eq] at this
    exact ⟨fun s hs => goodS_of (this.1 s hs), this.2⟩
  obtain ⟨h1, _⟩ := apS_vec h8 hu hB0 hB hK6 8 (Nat.le_refl _)
  refine ⟨?_, fun j hj => ?_⟩
  · unfold apG
    rw [stOk_vec hu (by omega) (by omega), vec_len, show qc 8 = 3 from rfl, show ((3 : Nat) : Int) = 3 from rfl, hv, if_pos (show (true && true) = true from rfl), h1]
    congr 1
    apply vec_congr
    intro j _
    rw [fin_at]
    rfl
  · have := List.all_eq_true.1 hf' j (List.mem_range.2 hj)
    simp only [Bool.and_eq_true, decide_eq_true_eq] at this
    have hz : nb 0 zz := by simp [nb, zz]
    have h2 := nb_acc hu hB0 _ this.1 hz
    have h3 : B * ((src ⟨kk, a, b, c⟩ j 8).length : Int) ≤ B * (1 + hg ⟨kk, a, b, c⟩) := Int.mul_le_mul_of_nonneg_left (by have := this.2; omega) hB0
    exact nb_up h2 (by omega)
end Go.Proofs.Ytgjpicekdbemiaa
