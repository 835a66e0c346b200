/- Lists of states (slices of slices of amplitudes): what it means that one reads as plain data, and that a call owns one whole; no walk. -/
import Derived.Test.YtgjpicekdbemiaaDOmegaS
import Derived.Test.YtgjpicekdbemiaaAppend
namespace Go.Proofs.Ytgjpicekdbemiaa
open Go.RowKit
set_option linter.unusedVariables false
/-- Only the blocks of the list F, and new ones, have turned. -/
structure Kin (F : List Nat) (w w' : World) : Prop where
  os : w'.os = w.os
  tape : w'.tape = w.tape
  output : w'.output = w.output
  size : w.heap.size ≤ w'.heap.size
  block : ∀ k, k < w.heap.size → k ∉ F → w'.heap[k]? = w.heap[k]?
theorem Kin.refl (F : List Nat) (w : World) : Kin F w w := ⟨rfl, rfl, rfl, Nat.le_refl _, fun _ _ _ => rfl⟩
theorem Kin.trans {F : List Nat} {a b c : World} (h : Kin F a b) (k : Kin F b c) : Kin F a c :=
  ⟨k.os.trans h.os, k.tape.trans h.tape, k.output.trans h.output, Nat.le_trans h.size k.size, fun i hi hn => (k.block i (Nat.lt_of_lt_of_le hi h.size) hn).trans (h.block i hi hn)⟩
theorem Kin.mono {F G : List Nat} {a b : World} (h : Kin F a b) (hs : ∀ x ∈ F, x ∈ G) : Kin G a b := ⟨h.os, h.tape, h.output, h.size, fun i hi hn => h.block i hi (fun hF => hn (hs i hF))⟩
theorem Kin.below {F : List Nat} {B : Nat} {w w' : World} (h : Kin F w w') (hB : B ≤ w.heap.size) (hF : ∀ k ∈ F, B ≤ k) : Below B w w' :=
  ⟨h.os, h.tape, h.output, h.size, fun k hk => h.block k (by omega) (fun hm => by have := hF k hm; omega)⟩
theorem kin_of_grown {w w' : World} {row : Option Nat} (h : w.grownBy w' row) : Kin row.toList w w' :=
  ⟨h.os, h.tape, h.output, h.size, fun k hk hn => h.block k hk (fun e => hn (by rw [← e]; simp))⟩
theorem kin_of_below {w w' : World} (F : List Nat) (h : Below w.heap.size w w') : Kin F w w' := ⟨h.os, h.tape, h.output, h.size, fun k hk _ => h.block k hk⟩
theorem Kin.drew {F : List Nat} {a b : World} (h : Kin F a b) : Kin F a b.drew := ⟨h.os, h.tape, h.output, h.size, h.block⟩
theorem own_blocks {w w' : World} {base e size n : Nat} {v : Value} {xs : List Value} (h : w.ownsRow base e size v n xs) (hk : ∀ k, v.ownBlock = some k → w'.heap[k]? = w.heap[k]?) : w'.ownsRow base e size v n xs := by
  refine ⟨h.1, ?_⟩
  rcases h.2 with hn | ⟨g, cap, cur, rfl, hb, hgg, rest⟩
  · exact .inl hn
  · exact .inr ⟨g, cap, cur, rfl, hb, (hk g rfl).trans hgg, rest⟩
theorem own_kin {F : List Nat} {w w' : World} {base e size n : Nat} {v : Value} {xs : List Value} (h : w.ownsRow base e size v n xs) (hk : Kin F w w') (hF : ∀ k, v.ownBlock = some k → k ∉ F) : w'.ownsRow base e size v n xs :=
  own_blocks h (fun k e => hk.block k (h.lt k e).2 (hF k e))
theorem rd_kin {F : List Nat} {w w' : World} {size n : Nat} {A : Option Addr} {xs : List Value} (h : Rd w size A n xs) (hk : Kin F w w') (hF : ∀ b off, A = some ⟨b, off, none⟩ → b ∉ F) : Rd w' size A n xs :=
  ⟨h.1, fun hn => by
    obtain ⟨b, off, e, hl, hc⟩ := h.2 hn
    refine ⟨b, off, e, Nat.lt_of_lt_of_le hl hk.size, fun j u hu => ?_⟩
    rw [← hc j u hu]
    have := hk.block b hl (hF b off e)
    simp [World.cell?, this]⟩
/-- A list of states that reads. -/
def RdM (w : World) (A : Option Addr) (n : Nat) (M : List (List Dm)) : Prop :=
  ∃ S : List Value, M.length = n ∧ Rd w 1 A n S ∧ ∀ (j : Nat) (r : List Dm), M[j]? = some r → ∃ a c, S[j]? = some (.slice a r.length c) ∧ r.length ≤ c ∧ c ≤ maxLen ∧ Rd w 5 a r.length (r.flatMap dcells)
theorem RdM.below {w w' : World} {A : Option Addr} {n : Nat} {M : List (List Dm)} (h : RdM w A n M) (hb : Below w.heap.size w w') : RdM w' A n M := by
  obtain ⟨S, h1, h2, h3⟩ := h
  refine ⟨S, h1, h2.below hb, fun j r hj => ?_⟩
  obtain ⟨a, c, e, e1, e2, hr⟩ := h3 j r hj
  exact ⟨a, c, e, e1, e2, hr.below hb⟩
theorem RdM.len {w : World} {A : Option Addr} {n : Nat} {M : List (List Dm)} (h : RdM w A n M) : M.length = n := by obtain ⟨_, h, _⟩ := h; exact h
theorem RdM.drew {w : World} {A : Option Addr} {n : Nat} {M : List (List Dm)} (h : RdM w A n M) : RdM w.drew A n M := h
/-- The row j: its cell, and what it reads. -/
theorem RdM.at {w : World} {A : Option Addr} {n j : Nat} {M : List (List Dm)} {r : List Dm} (h : RdM w A n M) (hj : M[j]? = some r) :
    ∃ b off a c, A = some ⟨b, off, none⟩ ∧ b < w.heap.size ∧ w.cell? ⟨b, off + j, none⟩ = some (.slice a r.length c) ∧ r.length ≤ c ∧ c ≤ maxLen ∧ Rd w 5 a r.length (r.flatMap dcells) := by
  obtain ⟨S, h1, h2, h3⟩ := h
  have hlt := (List.getElem?_eq_some_iff.1 hj).1
  obtain ⟨b, off, e, hl, hc⟩ := h2.2 (by omega)
  obtain ⟨a, c, es, e1, e2, hr⟩ := h3 j r hj
  exact ⟨b, off, a, c, e, hl, hc j _ es, e1, e2, hr⟩
/-- The whole size of a list of states. -/
def szM (M : List (List Dm)) : Nat := (M.map List.length).sum
theorem szM_snoc (M : List (List Dm)) (r : List Dm) : szM (M ++ [r]) = szM M + r.length := by simp [szM]
theorem szM_take (M : List (List Dm)) (t : Nat) (r : List Dm) (h : M[t]? = some r) : szM (M.take (t + 1)) = szM (M.take t) + r.length := by rw [List.take_add_one, h]; exact szM_snoc _ _
theorem szM_take_le : ∀ (M : List (List Dm)) (t : Nat), szM (M.take t) ≤ szM M
  | [], t => by simp [szM]
  | r :: M, 0 => by simp [szM]
  | r :: M, t + 1 => by
    have := szM_take_le M t
    simp only [szM, List.take_succ_cons, List.map_cons, List.sum_cons] at this ⊢
    omega
theorem szM_row {M : List (List Dm)} {t : Nat} {r : List Dm} (h : M[t]? = some r) : r.length ≤ szM M := by
  have h1 := szM_take M t r h
  have h2 := szM_take_le M (t + 1)
  omega
/-- A call owns a list of states whole: the outer row and each state, in the blocks F, none twice. -/
def OwnM (w : World) (base : Nat) (v : Value) (n : Nat) (M : List (List Dm)) (F : List Nat) : Prop :=
  ∃ S : List Value, M.length = n ∧ w.ownsRow base 47 1 v n S ∧ F = v.ownBlock.toList ++ S.flatMap (fun u => u.ownBlock.toList) ∧ F.Nodup ∧
    ∀ (j : Nat) (r : List Dm), M[j]? = some r → ∃ u, S[j]? = some u ∧ w.ownsRow base 67 5 u r.length (r.flatMap dcells)
theorem own_S {M : List (List Dm)} {S : List Value} {n : Nat} (h1 : M.length = n) (h2 : S.length = n * 1) {j : Nat} {u : Value} (hj : S[j]? = some u) : ∃ r, M[j]? = some r :=
  ⟨_, List.getElem?_eq_getElem (by have := (List.getElem?_eq_some_iff.1 hj).1; omega)⟩
theorem OwnM.lt {w : World} {base n : Nat} {v : Value} {M : List (List Dm)} {F : List Nat} (h : OwnM w base v n M F) : ∀ k ∈ F, base ≤ k ∧ k < w.heap.size := by
  obtain ⟨S, h1, h2, rfl, _, h4⟩ := h
  intro k hk
  rcases List.mem_append.1 hk with hk | hk
  · exact h2.lt k (by simpa using hk)
  · obtain ⟨u, hu, hk⟩ := List.mem_flatMap.1 hk
    obtain ⟨j, hj⟩ := List.mem_iff_getElem?.1 hu
    obtain ⟨r, hr⟩ := own_S h1 h2.1 hj
    obtain ⟨u', hu', ho⟩ := h4 j r hr
    rw [hj] at hu'
    cases hu'
    exact ho.lt k (by simpa using hk)
theorem OwnM.kin {G : List Nat} {w w' : World} {base n : Nat} {v : Value} {M : List (List Dm)} {F : List Nat} (h : OwnM w base v n M F) (hk : Kin G w w') (hF : ∀ k ∈ F, k ∉ G) : OwnM w' base v n M F := by
  obtain ⟨S, h1, h2, rfl, h3, h4⟩ := h
  refine ⟨S, h1, own_kin h2 hk (fun k e => hF k (by simp [e])), rfl, h3, fun j r hj => ?_⟩
  obtain ⟨u, hu, ho⟩ := h4 j r hj
  exact ⟨u, hu, own_kin ho hk (fun k e => hF k (List.mem_append.2 (.inr (List.mem_flatMap.2 ⟨u, List.mem_of_getElem? hu, by simp [e]⟩))))⟩
theorem OwnM.below {w w' : World} {base n : Nat} {v : Value} {M : List (List Dm)} {F : List Nat} (h : OwnM w base v n M F) (hb : Below w.heap.size w w') : OwnM w' base v n M F := h.kin (kin_of_below [] hb) (by simp)
theorem OwnM.base_le {w : World} {base base' n : Nat} {v : Value} {M : List (List Dm)} {F : List Nat} (h : OwnM w base v n M F) (hB : base' ≤ base) : OwnM w base' v n M F := by
  have ob : ∀ {B e size n : Nat} {v : Value} {xs : List Value}, base = B → w.ownsRow B e size v n xs → w.ownsRow base' e size v n xs := by
    intro B e size n v xs hh h
    refine ⟨h.1, ?_⟩
    rcases h.2 with h2 | ⟨g, cap, cur, h1, h2, h3⟩
    · exact .inl h2
    · exact .inr ⟨g, cap, cur, h1, by omega, h3⟩
  obtain ⟨S, h1, h2, rfl, h3, h4⟩ := h
  refine ⟨S, h1, ob rfl h2, rfl, h3, fun j r hj => ?_⟩
  obtain ⟨u, hu, ho⟩ := h4 j r hj
  exact ⟨u, hu, ob rfl ho⟩
theorem OwnM.rd {w : World} {base n : Nat} {v : Value} {M : List (List Dm)} {F : List Nat} (h : OwnM w base v n M F) : ∃ A c, v = .slice A n c ∧ n ≤ c ∧ c ≤ maxLen ∧ RdM w A n M := by
  obtain ⟨S, h1, h2, _, _, h4⟩ := h
  obtain ⟨A, c, e, e1, e2, hr⟩ := rd_of_own h2
  refine ⟨A, c, e, e1, e2, S, h1, hr, fun j r hj => ?_⟩
  obtain ⟨u, hu, ho⟩ := h4 j r hj
  obtain ⟨a, c', rfl, e3, e4, hr'⟩ := rd_of_own ho
  exact ⟨a, c', hu, e3, e4, hr'⟩
theorem OwnM.rd' {w : World} {base n c : Nat} {A : Option Addr} {M : List (List Dm)} {F : List Nat} (h : OwnM w base (.slice A n c) n M F) : RdM w A n M := by
  obtain ⟨A', c', e, _, _, r⟩ := h.rd
  injection e with e1 e2 e3
  rw [e1]
  exact r
theorem ownM_nil (w : World) (base : Nat) : OwnM w base (.slice none 0 0) 0 [] [] := ⟨[], rfl, World.ownsRow_nil _ _ _ _, by simp [Value.ownBlock], List.nodup_nil, by simp⟩
/-- Behind 'append' of one state: what is owned then. -/
theorem ownM_snoc {w w' : World} {base n : Nat} {v v' u : Value} {M : List (List Dm)} {r : List Dm} {S : List Value} (h1 : M.length = n) (h2 : w.ownsRow base 47 1 v n S) (h3 : (v.ownBlock.toList ++ S.flatMap (fun u => u.ownBlock.toList)).Nodup)
    (h4 : ∀ (j : Nat) (r : List Dm), M[j]? = some r → ∃ u, S[j]? = some u ∧ w.ownsRow base 67 5 u r.length (r.flatMap dcells))
    (hu : w.ownsRow base 67 5 u r.length (r.flatMap dcells)) (hd : ∀ k, u.ownBlock = some k → k ∉ v.ownBlock.toList ++ S.flatMap (fun u => u.ownBlock.toList))
    (h' : w'.ownsRow base 47 1 v' (n + 1) (S ++ [u])) (hg : w.grownBy w' v.ownBlock) (hb : v'.ownBlock = v.ownBlock ∨ v'.ownBlock = some w.heap.size) :
    ∃ F', OwnM w' base v' (n + 1) (M ++ [r]) F' ∧ ∀ k ∈ F', k ∈ v.ownBlock.toList ++ S.flatMap (fun u => u.ownBlock.toList) ∨ u.ownBlock = some k ∨ k = w.heap.size := by
  have hF := OwnM.lt ⟨S, h1, h2, rfl, h3, h4⟩
  have hS : S.length = n := by simpa using h2.1
  have hv : ∀ k, v'.ownBlock = some k → v.ownBlock = some k ∨ k = w.heap.size := by
    intro k hk
    rcases hb with hb | hb
    · rw [← hb]; exact .inl hk
    · rw [hb] at hk; injection hk with hk; exact .inr hk.symm
  refine ⟨_, ⟨S ++ [u], by simp [h1], h', rfl, ?_, fun j r' hj => ?_⟩, ?_⟩
  · rw [List.flatMap_append]
    have hnd := List.nodup_append.1 h3
    have hu1 : (List.flatMap (fun u => u.ownBlock.toList) [u]) = u.ownBlock.toList := by simp
    rw [hu1]
    refine List.nodup_append.2 ⟨by cases v'.ownBlock <;> simp, List.nodup_append.2 ⟨hnd.2.1, by cases u.ownBlock <;> simp, ?_⟩, ?_⟩
    · intro a ha b hb' e
      subst e
      exact hd a (by simpa using hb') (List.mem_append.2 (.inr ha))
    · intro a ha b hb' e
      subst e
      rcases hv a (by simpa using ha) with hva | hva
      · rcases List.mem_append.1 hb' with hb' | hb'
        · exact hnd.2.2 a (by simpa using hva) a hb' rfl
        · exact hd a (by simpa using hb') (List.mem_append.2 (.inl (by simpa using hva)))
      · subst hva
        rcases List.mem_append.1 hb' with hb' | hb'
        · have := hF _ (List.mem_append.2 (.inr hb'))
          omega
        · have := (hu.lt _ (by simpa using hb')).2
          omega
  · by_cases hjn : j < n
    · rw [List.getElem?_append_left (by omega)] at hj
      obtain ⟨u', hu', ho⟩ := h4 j r' hj
      refine ⟨u', by rw [List.getElem?_append_left (by omega)]; exact hu', ho.kept hg ?_⟩
      cases hvk : v.ownBlock with
      | none => cases u'.ownBlock <;> simp
      | some k =>
        refine .inr fun e => ?_
        have hnd := (List.nodup_append.1 h3).2.2
        exact hnd k (by simp [hvk]) k (List.mem_flatMap.2 ⟨u', List.mem_of_getElem? hu', by simp [e]⟩) rfl
    · have hj' := (List.getElem?_eq_some_iff.1 hj).1
      simp at hj'
      obtain rfl : j = n := by omega
      rw [List.getElem?_append_right (by omega), h1] at hj
      simp at hj
      subst hj
      refine ⟨u, by rw [List.getElem?_append_right (by omega), hS]; simp, hu.kept hg ?_⟩
      cases hvk : v.ownBlock with
      | none => cases u.ownBlock <;> simp
      | some k => exact .inr fun e => hd k e (List.mem_append.2 (.inl (by simp [hvk])))
  · intro k hk
    rcases List.mem_append.1 hk with hk | hk
    · rcases hv k (by simpa using hk) with h | h
      · exact .inl (List.mem_append.2 (.inl (by simpa using h)))
      · exact .inr (.inr h)
    · rw [List.flatMap_append] at hk
      rcases List.mem_append.1 hk with hk | hk
      · exact .inl (List.mem_append.2 (.inr hk))
      · exact .inr (.inl (by simpa using hk))
/-- Behind a write into the row t alone. -/
theorem ownM_set {w w' : World} {base n t : Nat} {v u : Value} {M : List (List Dm)} {r r' : List Dm} {S : List Value} (h1 : M.length = n) (h2 : w.ownsRow base 47 1 v n S) (h3 : (v.ownBlock.toList ++ S.flatMap (fun u => u.ownBlock.toList)).Nodup)
    (h4 : ∀ (j : Nat) (r : List Dm), M[j]? = some r → ∃ u, S[j]? = some u ∧ w.ownsRow base 67 5 u r.length (r.flatMap dcells))
    (hu : S[t]? = some u) (ht : t < n) (ho : w'.ownsRow base 67 5 u r'.length (r'.flatMap dcells)) (hg : w.grownBy w' u.ownBlock) :
    w'.ownsRow base 47 1 v n S ∧ ∀ (j : Nat) (r : List Dm), (M.set t r')[j]? = some r → ∃ u, S[j]? = some u ∧ w'.ownsRow base 67 5 u r.length (r.flatMap dcells) := by
  have hnd := List.nodup_append.1 h3
  have hmem : u ∈ S := List.mem_of_getElem? hu
  refine ⟨h2.kept hg ?_, fun j r hj => ?_⟩
  · cases hvk : v.ownBlock with
    | none => exact .inl rfl
    | some k => exact .inr fun e => hnd.2.2 k (by simp [hvk]) k (List.mem_flatMap.2 ⟨u, hmem, by simp [← e]⟩) rfl
  · by_cases hjt : j = t
    · subst hjt
      rw [List.getElem?_set_self (by omega)] at hj
      injection hj with hj
      subst hj
      exact ⟨u, hu, ho⟩
    · rw [List.getElem?_set_ne (Ne.symm hjt)] at hj
      obtain ⟨u', hu', ho'⟩ := h4 j r hj
      refine ⟨u', hu', ho'.kept hg ?_⟩
      cases huk : u'.ownBlock with
      | none => exact .inl rfl
      | some k =>
        refine .inr fun e => ?_
        have hpw := List.pairwise_flatMap.1 (List.nodup_iff_pairwise_ne.1 hnd.2.1) |>.2
        have hlj := (List.getElem?_eq_some_iff.1 hu').1
        have hlt := (List.getElem?_eq_some_iff.1 hu).1
        have ej := (List.getElem?_eq_some_iff.1 hu').2
        have et := (List.getElem?_eq_some_iff.1 hu).2
        rcases Nat.lt_or_gt_of_ne hjt with hh | hh
        · have := List.pairwise_iff_getElem.1 hpw j t hlj hlt hh
          rw [ej, et] at this
          exact this k (by simp [huk]) k (by simp [← e]) rfl
        · have := List.pairwise_iff_getElem.1 hpw t j hlt hlj hh
          rw [ej, et] at this
          exact this k (by simp [← e]) k (by simp [huk]) rfl
theorem own_from {w : World} {B B' e size n : Nat} {v : Value} {xs : List Value} (h : w.ownsRow B e size v n xs) (hB : B' ≤ B) : w.ownsRow B' e size v n xs := by
  refine ⟨h.1, ?_⟩
  rcases h.2 with h2 | ⟨g, cap, cur, h1, h2, h3⟩
  · exact .inl h2
  · exact .inr ⟨g, cap, cur, h1, Nat.le_trans hB h2, h3⟩
/-- One state more, stored into the outer row B. -/
theorem rows_snoc {w w2 w3 : World} {B t : Nat} {S : List Value} {M : List (List Dm)} {r : List Dm} {u : Value} (hS : S.length = t) (hM : M[t]? = some r) (hB : B < w.heap.size) (hnd : (B :: S.flatMap (fun u => u.ownBlock.toList)).Nodup)
    (hrows : ∀ (j : Nat) (r : List Dm), (M.take t)[j]? = some r → ∃ u, S[j]? = some u ∧ w.ownsRow B 67 5 u r.length (r.flatMap dcells))
    (hb : Below w.heap.size w w2) (ho : w2.ownsRow w.heap.size 67 5 u r.length (r.flatMap dcells)) (hg : w2.grownBy w3 (some B)) :
    (B :: (S ++ [u]).flatMap (fun u => u.ownBlock.toList)).Nodup ∧ ∀ (j : Nat) (r : List Dm), (M.take (t + 1))[j]? = some r → ∃ u', (S ++ [u])[j]? = some u' ∧ w3.ownsRow B 67 5 u' r.length (r.flatMap dcells) := by
  have hlt := (List.getElem?_eq_some_iff.1 hM).1
  have hML : (M.take t).length = t := by rw [List.length_take]; omega
  have hold : ∀ k ∈ S.flatMap (fun u => u.ownBlock.toList), k < w.heap.size := by
    intro k hk
    obtain ⟨x, hx, hk⟩ := List.mem_flatMap.1 hk
    obtain ⟨j, hj⟩ := List.mem_iff_getElem?.1 hx
    have hjl := (List.getElem?_eq_some_iff.1 hj).1
    obtain ⟨x', hx', hox⟩ := hrows j _ (List.getElem?_eq_getElem (by omega))
    rw [hj] at hx'
    cases hx'
    exact (hox.lt k (by simpa using hk)).2
  have hnew : ∀ k, u.ownBlock = some k → w.heap.size ≤ k := fun k hk => (ho.lt k hk).1
  have hcons := List.nodup_cons.1 hnd
  refine ⟨?_, fun j r' hj => ?_⟩
  · rw [List.flatMap_append]
    have hu1 : (List.flatMap (fun u => u.ownBlock.toList) [u]) = u.ownBlock.toList := by simp
    rw [hu1]
    refine List.nodup_cons.2 ⟨fun hm => ?_, List.nodup_append.2 ⟨hcons.2, by cases u.ownBlock <;> simp, ?_⟩⟩
    · rcases List.mem_append.1 hm with hm | hm
      · exact hcons.1 hm
      · have := hnew B (by simpa using hm)
        omega
    · intro a ha b hb' e
      subst e
      have h1 := hold a ha
      have h2 := hnew a (by simpa using hb')
      omega
  · by_cases hjt : j < t
    · rw [List.take_add_one, List.getElem?_append_left (by omega)] at hj
      obtain ⟨x, hx, hox⟩ := hrows j r' hj
      refine ⟨x, by rw [List.getElem?_append_left (by omega)]; exact hx, (ownsRow_below hox hb).kept hg ?_⟩
      cases hxk : x.ownBlock with
      | none => exact .inl rfl
      | some k =>
        refine .inr fun e => ?_
        injection e with e
        subst e
        exact hcons.1 (List.mem_flatMap.2 ⟨x, List.mem_of_getElem? hx, by simp [hxk]⟩)
    · have hj' := (List.getElem?_eq_some_iff.1 hj).1
      rw [List.length_take] at hj'
      obtain rfl : j = t := by omega
      rw [List.take_add_one, List.getElem?_append_right (by omega), hML, hM] at hj
      simp at hj
      subst hj
      refine ⟨u, by rw [List.getElem?_append_right (by omega), hS]; simp, (own_from ho (Nat.le_of_lt hB)).kept hg ?_⟩
      cases huk : u.ownBlock with
      | none => exact .inl rfl
      | some k =>
        refine .inr fun e => ?_
        injection e with e
        have := hnew k huk
        omega
end Go.Proofs.Ytgjpicekdbemiaa
