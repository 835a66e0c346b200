/- Lists of branches: what it means that one reads as plain data, and that a call owns one whole; no walk. -/
import Derived.Test.YtgjpicekdbemiaaBranch
namespace Go.Proofs.Ytgjpicekdbemiaa
open Go.RowKit
set_option linter.unusedVariables false
/-- A branch as plain data. -/
structure Br where
  b : Int
  M : List (List Dm)
/-- A list of branches that reads. -/
def RdB (w : World) (A : Option Addr) (n : Nat) (L : List Br) : Prop :=
  ∃ S : List Value, L.length = n ∧ Rd w 2 A n S ∧ ∀ (j : Nat) (x : Br), L[j]? = some x → ∃ a c, S[j * 2]? = some (.int .i64 x.b) ∧ S[j * 2 + 1]? = some (.slice a x.M.length c) ∧ x.M.length ≤ c ∧ c ≤ maxLen ∧ RdM w a x.M.length x.M
theorem RdB.below {w w' : World} {A : Option Addr} {n : Nat} {L : List Br} (h : RdB w A n L) (hb : Below w.heap.size w w') : RdB w' A n L := by
  obtain ⟨S, h1, h2, h3⟩ := h
  refine ⟨S, h1, h2.below hb, fun j r hj => ?_⟩
  obtain ⟨a, c, e0, e, e1, e2, hr⟩ := h3 j r hj
  exact ⟨a, c, e0, e, e1, e2, hr.below hb⟩
theorem RdB.len {w : World} {A : Option Addr} {n : Nat} {L : List Br} (h : RdB w A n L) : L.length = n := by obtain ⟨_, h, _⟩ := h; exact h
theorem RdB.drew {w : World} {A : Option Addr} {n : Nat} {L : List Br} (h : RdB w A n L) : RdB w.drew A n L := h
theorem RdM.drewN {w : World} {A : Option Addr} {n : Nat} {M : List (List Dm)} (h : RdM w A n M) (k : Nat) : RdM (w.drewN k) A n M := h
theorem RdB.drewN {w : World} {A : Option Addr} {n : Nat} {L : List Br} (h : RdB w A n L) (k : Nat) : RdB (w.drewN k) A n L := h
/-- The branch j: its cells, and what they read. -/
theorem RdB.at {w : World} {A : Option Addr} {n j : Nat} {L : List Br} {x : Br} (h : RdB w A n L) (hj : L[j]? = some x) :
    ∃ b off a c, A = some ⟨b, off, none⟩ ∧ b < w.heap.size ∧ w.cell? ⟨b, off + j * 2, none⟩ = some (.int .i64 x.b) ∧ w.cell? ⟨b, off + j * 2 + 1, none⟩ = some (.slice a x.M.length c) ∧ x.M.length ≤ c ∧ c ≤ maxLen ∧ RdM w a x.M.length x.M := by
  obtain ⟨S, h1, h2, h3⟩ := h
  have hlt := (List.getElem?_eq_some_iff.1 hj).1
  obtain ⟨b, off, e, hl, hc⟩ := h2.2 (by omega)
  obtain ⟨a, c, e0, es, e1, e2, hr⟩ := h3 j x hj
  exact ⟨b, off, a, c, e, hl, hc _ _ e0, hc _ _ es, e1, e2, hr⟩
/-- The whole size of a list of branches. -/
def szB (L : List Br) : Nat := (L.map fun x => x.M.length + szM x.M).sum
theorem szB_snoc (L : List Br) (x : Br) : szB (L ++ [x]) = szB L + (x.M.length + szM x.M) := by simp [szB]
theorem szB_take (L : List Br) (t : Nat) (x : Br) (h : L[t]? = some x) : szB (L.take (t + 1)) = szB (L.take t) + (x.M.length + szM x.M) := by rw [List.take_add_one, h]; exact szB_snoc _ _
theorem szB_take_le : ∀ (L : List Br) (t : Nat), szB (L.take t) ≤ szB L
  | [], t => by simp [szB]
  | r :: L, 0 => by simp [szB]
  | r :: L, t + 1 => by
    have := szB_take_le L t
    simp only [szB, List.take_succ_cons, List.map_cons, List.sum_cons] at this ⊢
    omega
theorem szB_at {L : List Br} {t : Nat} {x : Br} (h : L[t]? = some x) : x.M.length + szM x.M ≤ szB L := by
  have h1 := szB_take L t x h
  have h2 := szB_take_le L (t + 1)
  omega
theorem szM_le_row {M : List (List Dm)} {n : Nat} (h : ∀ r ∈ M, r.length ≤ n) : szM M ≤ M.length * n := by
  induction M with
  | nil => simp [szM]
  | cons r M ih =>
    have h1 := ih (fun x hx => h x (by simp [hx]))
    have h2 := h r (by simp)
    simp only [szM, List.map_cons, List.sum_cons, List.length_cons] at h1 ⊢
    rw [Nat.add_mul]
    omega
/-- The branches of a list, their cells S and the blocks F that they own. -/
def RowsB (w : World) (base : Nat) : List Br → List Value → List Nat → Prop
  | [], S, F => S = [] ∧ F = []
  | x :: L, S, F => ∃ a c G S' F', S = .int .i64 x.b :: .slice a x.M.length c :: S' ∧ F = G ++ F' ∧ OwnM w base (.slice a x.M.length c) x.M.length x.M G ∧ RowsB w base L S' F'
theorem RowsB.len {w : World} {base : Nat} : ∀ {L : List Br} {S : List Value} {F : List Nat}, RowsB w base L S F → S.length = L.length * 2
  | [], _, _, h => by rw [h.1]; rfl
  | x :: L, _, _, ⟨a, c, G, S', F', rfl, _, _, h⟩ => by have := RowsB.len h; simp only [List.length_cons, this]; omega
theorem RowsB.kin {w w' : World} {base : Nat} {K : List Nat} (hk : Kin K w w') : ∀ {L : List Br} {S : List Value} {F : List Nat}, RowsB w base L S F → (∀ k ∈ F, k ∉ K) → RowsB w' base L S F
  | [], _, _, h, _ => h
  | x :: L, _, _, ⟨a, c, G, S', F', e1, rfl, h1, h2⟩, hF => ⟨a, c, G, S', F', e1, rfl, h1.kin hk (fun k hk' => hF k (by simp [hk'])), RowsB.kin hk h2 (fun k hk' => hF k (by simp [hk']))⟩
theorem RowsB.base_le {w : World} {base base' : Nat} (hB : base' ≤ base) : ∀ {L : List Br} {S : List Value} {F : List Nat}, RowsB w base L S F → RowsB w base' L S F
  | [], _, _, h => h
  | x :: L, _, _, ⟨a, c, G, S', F', e1, e2, h1, h2⟩ => ⟨a, c, G, S', F', e1, e2, h1.base_le hB, RowsB.base_le hB h2⟩
theorem RowsB.lt {w : World} {base : Nat} : ∀ {L : List Br} {S : List Value} {F : List Nat}, RowsB w base L S F → ∀ k ∈ F, base ≤ k ∧ k < w.heap.size
  | [], _, _, h, k, hk => by rw [h.2] at hk; cases hk
  | x :: L, _, _, ⟨a, c, G, S', F', _, rfl, h1, h2⟩, k, hk => by
    rcases List.mem_append.1 hk with h | h
    · exact h1.lt k h
    · exact RowsB.lt h2 k h
theorem RowsB.app {w : World} {base : Nat} : ∀ {L L' : List Br} {S S' : List Value} {F F' : List Nat}, RowsB w base L S F → RowsB w base L' S' F' → RowsB w base (L ++ L') (S ++ S') (F ++ F')
  | [], _, _, _, _, _, ⟨rfl, rfl⟩, h' => h'
  | x :: L, _, _, _, _, _, ⟨a, c, G, S1, F1, rfl, rfl, h1, h2⟩, h' => ⟨a, c, G, _, _, rfl, by rw [List.append_assoc], h1, RowsB.app h2 h'⟩
theorem rowsB_one {w : World} {base : Nat} {b : Int} {a : Option Addr} {n c : Nat} {M : List (List Dm)} {G : List Nat} (h : OwnM w base (.slice a n c) n M G) : RowsB w base [⟨b, M⟩] [.int .i64 b, .slice a n c] G := by
  have hl : M.length = n := h.rd'.len
  subst hl
  exact ⟨a, c, G, [], [], rfl, by simp, h, rfl, rfl⟩
/-- The branch t of a list of branches apart from those ahead and behind. -/
theorem RowsB.split {w : World} {base : Nat} : ∀ {t : Nat} {L : List Br} {S : List Value} {F : List Nat} {x : Br}, RowsB w base L S F → L[t]? = some x →
    ∃ a c G S1 S2 F1 F2, S = S1 ++ ([.int .i64 x.b, .slice a x.M.length c] ++ S2) ∧ F = F1 ++ (G ++ F2) ∧ S1.length = t * 2 ∧ RowsB w base (L.take t) S1 F1 ∧ OwnM w base (.slice a x.M.length c) x.M.length x.M G ∧ RowsB w base (L.drop (t + 1)) S2 F2
  | t, [], _, _, _, _, h => by simp at h
  | 0, y :: L, _, _, x, ⟨a, c, G, S', F', rfl, rfl, h1, h2⟩, h => by
    simp at h
    subst h
    exact ⟨a, c, G, [], S', [], F', rfl, rfl, rfl, ⟨rfl, rfl⟩, h1, h2⟩
  | t + 1, y :: L, _, _, x, ⟨a, c, G, S', F', rfl, rfl, h1, h2⟩, h => by
    obtain ⟨a', c', G', S1, S2, F1, F2, rfl, rfl, hl, r1, r2, r3⟩ := RowsB.split (t := t) h2 (by simpa using h)
    exact ⟨a', c', G', _, S2, G ++ F1, F2, by simp only [List.cons_append], by rw [List.append_assoc], by simp only [List.length_cons, hl]; omega, ⟨a, c, G, S1, F1, rfl, rfl, h1, r1⟩, r2, r3⟩
/-- The list of branches whose numbers are marks. -/
def markB (k : Int) : List Br → List Br
  | [] => []
  | x :: L => ⟨k, markM (k + 1) x.M⟩ :: markB (k + 1 + 5 * szM x.M) L
def kB (L : List Br) : Nat := (L.map fun x => 1 + 5 * szM x.M).sum
theorem kB_snoc (L : List Br) (x : Br) : kB (L ++ [x]) = kB L + (1 + 5 * szM x.M) := by simp [kB]
theorem kB_take (L : List Br) (t : Nat) (x : Br) (h : L[t]? = some x) : kB (L.take (t + 1)) = kB (L.take t) + (1 + 5 * szM x.M) := by rw [List.take_add_one, h]; exact kB_snoc _ _
theorem kB_take_le : ∀ (L : List Br) (t : Nat), kB (L.take t) ≤ kB L
  | [], t => by simp [kB]
  | r :: L, 0 => by simp [kB]
  | r :: L, t + 1 => by
    have := kB_take_le L t
    simp only [kB, List.take_succ_cons, List.map_cons, List.sum_cons] at this ⊢
    omega
theorem kB_le (L : List Br) : kB L ≤ L.length + 5 * szB L := by
  induction L with
  | nil => simp [kB]
  | cons x L ih => simp only [kB, szB, List.map_cons, List.sum_cons, List.length_cons] at ih ⊢; omega
theorem markB_length : ∀ (k : Int) (L : List Br), (markB k L).length = L.length
  | _, [] => rfl
  | k, r :: L => by simp [markB, markB_length _ L]
theorem markB_app : ∀ (k : Int) (L L' : List Br), markB k (L ++ L') = markB k L ++ markB (k + kB L) L'
  | k, [], L' => by simp [markB, kB]
  | k, x :: L, L' => by
    have e : k + 1 + 5 * (szM x.M : Int) + (kB L : Int) = k + (kB (x :: L) : Int) := by
      simp only [kB, List.map_cons, List.sum_cons]
      omega
    simp only [List.cons_append, markB, markB_app _ L L', e]
theorem markB_take (k : Int) (L : List Br) (t : Nat) (x : Br) (h : L[t]? = some x) : markB k (L.take (t + 1)) = markB k (L.take t) ++ [⟨k + kB (L.take t), markM (k + kB (L.take t) + 1) x.M⟩] := by
  rw [List.take_add_one, h]
  exact markB_app _ _ _
theorem markB_at (k : Int) (L : List Br) (t : Nat) (x : Br) (h : L[t]? = some x) : (markB k L)[t]? = some ⟨k + kB (L.take t), markM (k + kB (L.take t) + 1) x.M⟩ := by
  have hlt := (List.getElem?_eq_some_iff.1 h).1
  have e : L = L.take (t + 1) ++ L.drop (t + 1) := (List.take_append_drop _ _).symm
  have h2 : markB k L = markB k (L.take (t + 1)) ++ markB (k + kB (L.take (t + 1))) (L.drop (t + 1)) := by rw [← markB_app, ← e]
  rw [h2, markB_take k L t x h, List.append_assoc, List.getElem?_append_right (by rw [markB_length, List.length_take]; omega), markB_length, List.length_take, Nat.min_eq_left (by omega), Nat.sub_self]
  rfl
end Go.Proofs.Ytgjpicekdbemiaa
