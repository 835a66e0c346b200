/- What the calls that this law reaches answer, part 4 of 12. -/
import Derived.Test.YthkbckkghnbonaaDoorJParseProgram2
import Derived.Test.YthkbckkghnbonaaDoorJParseProgram3
import Derived.Test.YthkbckkghnbonaaDoorJParseProgram1
namespace Go.Proofs.YthkbckkghnbonaaDoor
open Go.RowKit
set_option linter.unusedVariables false
/-- A slice in a block from lo on and below hi, whose cells may be written. -/
def SlI (w : World) (lo hi size : Nat) (A : Option Addr) (n : Nat) (xs : List Value) : Prop :=
  xs.length = n * size ∧ (0 < n → ∃ b off, A = some ⟨b, off, none⟩ ∧ (lo ≤ b ∧ b < hi ∧ b < w.heap.size) ∧ (∀ j u, xs[j]? = some u → w.cell? ⟨b, off + j, none⟩ = some u) ∧ ∀ j, w.frozen? ⟨b, off + j, none⟩ = false)
/-- Elements and their cells, each in an interval of its own that leaves out the block o. -/
def ElG {α : Type} (S : Nat → Nat → List Value → α → Prop) (o : Option Nat) (hi : Nat) : Nat → List (List Value) → List α → Prop
  | _, [], [] => True
  | lo, c :: cs, s :: l => ∃ m1 m2, (lo ≤ m1 ∧ m1 ≤ m2 ∧ m2 ≤ hi) ∧ (∀ k, o = some k → k < m1 ∨ m2 ≤ k) ∧ S m1 m2 c s ∧ ElG S o hi m2 cs l
  | _, _, _ => False
/-- The slice (A, n) reads as the statements l: all blocks from lo on and below hi, no two of them one. -/
def TrI (w : World) : (d : Nat) → Nat → Nat → Option Addr → Nat → List (Tr d) → Prop
  | 0, _, _, _, n, l => l.length = n ∧ n = 0
  | d + 1, lo, hi, A, n, l => l.length = n ∧ (0 < n → ∃ b off css, A = some ⟨b, off, none⟩ ∧ (lo ≤ b ∧ b < hi ∧ b < w.heap.size) ∧ (∀ j u, css.flatten[j]? = some u → w.cell? ⟨b, off + j, none⟩ = some u) ∧ (∀ j, w.frozen? ⟨b, off + j, none⟩ = false) ∧
      ElG (fun m1 m2 cs (s : Tr (d + 1)) => ∃ Aa ca Ab nb cb c, cs = scl (hdT s) Aa ca Ab nb cb ∧ (m1 ≤ c ∧ c ≤ m2) ∧ SlI w m1 c 1 Aa (hdT s).args.length (strs (hdT s).args) ∧ TrI w d c m2 Ab nb (bdT s) ∧ (hdT s).args.length ≤ ca) (some b) hi lo css l)
/-- Five cells that are a statement, its names from m1 on, its body behind them and below m2. -/
def StI (w : World) (d m1 m2 : Nat) (cs : List Value) (s : Tr (d + 1)) : Prop :=
  ∃ Aa ca Ab nb cb c, cs = scl (hdT s) Aa ca Ab nb cb ∧ (m1 ≤ c ∧ c ≤ m2) ∧ SlI w m1 c 1 Aa (hdT s).args.length (strs (hdT s).args) ∧ TrI w d c m2 Ab nb (bdT s) ∧ (hdT s).args.length ≤ ca
section
variable {w w' : World}
theorem TrI.len : ∀ {d lo hi n : Nat} {A : Option Addr} {l : List (Tr d)}, TrI w d lo hi A n l → l.length = n
  | 0, _, _, _, _, _, h => h.1
  | _ + 1, _, _, _, _, _, h => h.1
theorem trI_nil {lo hi : Nat} {A : Option Addr} : ∀ {d : Nat}, TrI w d lo hi A 0 []
  | 0 => ⟨rfl, rfl⟩
  | _ + 1 => ⟨rfl, fun h => absurd h (by omega)⟩
theorem SlI.keep {lo hi size n : Nat} {A : Option Addr} {xs : List Value} (h : SlI w lo hi size A n xs) (hk : ∀ b, lo ≤ b → b < hi → b < w.heap.size → w'.heap[b]? = w.heap[b]?) (hs : w.heap.size ≤ w'.heap.size) : SlI w' lo hi size A n xs :=
  ⟨h.1, fun h0 => by
    obtain ⟨b, off, e, ⟨h1, h2, h3⟩, hc, hf⟩ := h.2 h0
    have hb := hk b h1 h2 h3
    refine ⟨b, off, e, ⟨h1, h2, Nat.lt_of_lt_of_le h3 hs⟩, fun j u hu => ?_, fun j => ?_⟩
    · rw [← hc j u hu]; simp [World.cell?, hb]
    · rw [← hf j]; simp [World.frozen?, hb]⟩
theorem SlI.wide {lo lo' hi hi' size n : Nat} {A : Option Addr} {xs : List Value} (h : SlI w lo hi size A n xs) (hl : lo' ≤ lo) (hh : hi ≤ hi') : SlI w lo' hi' size A n xs :=
  ⟨h.1, fun h0 => by
    obtain ⟨b, off, e, ⟨h1, h2, h3⟩, hc, hf⟩ := h.2 h0
    exact ⟨b, off, e, ⟨Nat.le_trans hl h1, Nat.lt_of_lt_of_le h2 hh, h3⟩, hc, hf⟩⟩
theorem slI_none {lo hi size : Nat} {A : Option Addr} : SlI w lo hi size A 0 [] := ⟨by simp, fun h => absurd h (by omega)⟩
theorem slI_of_own {base E size n c : Nat} {A : Option Addr} {xs : List Value} (h : w.ownsRow base E size (.slice A n c) n xs) : SlI w base w.heap.size size A n xs := by
  have r := rd_own h
  refine ⟨r.1, fun h0 => ?_⟩
  obtain ⟨b, off, e, hb, hc⟩ := r.2 h0
  subst e
  rcases h.2 with ⟨e, e2⟩ | ⟨g, cap, cur, e, hg, hh, _⟩
  · omega
  · injection e with e e2 e3
    injection e with e
    injection e with e1 e4
    subst e1 e4
    exact ⟨b, 0, rfl, ⟨hg, hb, hb⟩, hc, fun j => free_at hh⟩
theorem SlI.rdq {lo hi size n : Nat} {A : Option Addr} {xs : List Value} (h : SlI w lo hi size A n xs) : RdL w lo size A n xs :=
  ⟨h.1, fun h0 => by
    obtain ⟨b, off, e, ⟨h1, h2, h3⟩, hc, hf⟩ := h.2 h0
    exact ⟨b, off, e, h1, h3, hc⟩⟩
theorem ElG.mono {α : Type} {S S' : Nat → Nat → List Value → α → Prop} {o o' : Option Nat} {hi hi' : Nat} (hh : hi ≤ hi') :
    ∀ {css : List (List Value)} {l : List α} {lo lo' : Nat}, lo' ≤ lo → ElG S o hi lo css l →
    (∀ m1 m2 c s, lo ≤ m1 → m1 ≤ m2 → m2 ≤ hi → (∀ k, o = some k → k < m1 ∨ m2 ≤ k) → S m1 m2 c s → S' m1 m2 c s ∧ ∀ k, o' = some k → k < m1 ∨ m2 ≤ k) → ElG S' o' hi' lo' css l
  | [], [], _, _, _, _, _ => trivial
  | _ :: _, _ :: _, lo, lo', hl, ⟨m1, m2, ⟨h1, h2, h3⟩, h4, h5, h6⟩, f => by
    obtain ⟨a, b⟩ := f m1 m2 _ _ h1 h2 h3 h4 h5
    exact ⟨m1, m2, ⟨Nat.le_trans hl h1, h2, Nat.le_trans h3 hh⟩, b, a, ElG.mono hh (Nat.le_refl _) h6 (fun n1 n2 c s g1 g2 g3 g4 g5 => f n1 n2 c s (by omega) g2 g3 g4 g5)⟩
  | [], _ :: _, _, _, _, h, _ => h.elim
  | _ :: _, [], _, _, _, h, _ => h.elim
theorem ElG.snoc {α : Type} {S : Nat → Nat → List Value → α → Prop} {o : Option Nat} {hi m1 m2 : Nat} {c : List Value} {s : α} (h1 : hi ≤ m1) (h2 : m1 ≤ m2) (h3 : ∀ k, o = some k → k < m1 ∨ m2 ≤ k) (h4 : S m1 m2 c s) :
    ∀ {css : List (List Value)} {l : List α} {lo : Nat}, lo ≤ hi → ElG S o hi lo css l → ElG S o m2 lo (css ++ [c]) (l ++ [s])
  | [], [], _, hl, _ => ⟨m1, m2, ⟨by omega, h2, Nat.le_refl _⟩, h3, h4, trivial⟩
  | _ :: _, _ :: _, _, _, ⟨n1, n2, ⟨g1, g2, g3⟩, g4, g5, g6⟩ => ⟨n1, n2, ⟨g1, g2, by omega⟩, g4, g5, ElG.snoc h1 h2 h3 h4 g3 g6⟩
  | [], _ :: _, _, _, h => h.elim
  | _ :: _, [], _, _, h => h.elim
theorem ElG.len {α : Type} {S : Nat → Nat → List Value → α → Prop} {o : Option Nat} {hi : Nat} (hS : ∀ m1 m2 c s, S m1 m2 c s → c.length = 5) :
    ∀ {css : List (List Value)} {l : List α} {lo : Nat}, ElG S o hi lo css l → css.length = l.length ∧ ∀ c ∈ css, c.length = 5
  | [], [], _, _ => ⟨rfl, by simp⟩
  | _ :: _, _ :: _, _, ⟨m1, m2, _, _, h5, h6⟩ => by
    obtain ⟨a, b⟩ := ElG.len hS h6
    refine ⟨by simp [a], fun c hc => ?_⟩
    rcases List.mem_cons.1 hc with rfl | hc
    · exact hS _ _ _ _ h5
    · exact b c hc
  | [], _ :: _, _, h => h.elim
  | _ :: _, [], _, h => h.elim
theorem ElG.get {α : Type} {S : Nat → Nat → List Value → α → Prop} {o : Option Nat} {hi : Nat} :
    ∀ {css : List (List Value)} {l : List α} {lo : Nat}, ElG S o hi lo css l → ∀ {i : Nat} {s : α}, l[i]? = some s → ∃ m1 m2 c, css[i]? = some c ∧ (lo ≤ m1 ∧ m1 ≤ m2 ∧ m2 ≤ hi) ∧ (∀ k, o = some k → k < m1 ∨ m2 ≤ k) ∧ S m1 m2 c s
  | [], [], _, _, i, s, h => by simp at h
  | c :: _, _ :: _, lo, ⟨m1, m2, h1, h4, h5, h6⟩, 0, s, h => by
    simp only [List.getElem?_cons_zero, Option.some.injEq] at h
    subst h
    exact ⟨m1, m2, c, rfl, h1, h4, h5⟩
  | _ :: _, _ :: _, lo, ⟨m1, m2, h1, h4, h5, h6⟩, i + 1, s, h => by
    simp only [List.getElem?_cons_succ] at h
    obtain ⟨n1, n2, c, g1, g2, g3, g4⟩ := ElG.get h6 h
    exact ⟨n1, n2, c, by simpa using g1, by omega, g3, g4⟩
  | [], _ :: _, _, h, _, _, _ => h.elim
  | _ :: _, [], _, h, _, _, _ => h.elim
theorem StI.len {d m1 m2 : Nat} {cs : List Value} {s : Tr (d + 1)} (h : StI w d m1 m2 cs s) : cs.length = 5 := by
  obtain ⟨Aa, ca, Ab, nb, cb, c, rfl, _⟩ := h
  rfl
theorem StI.ones {d m1 m2 : Nat} {cs : List Value} {s : Tr (d + 1)} (h : StI w d m1 m2 cs s) : ∀ u ∈ cs, u.oneCell' = true := by
  obtain ⟨Aa, ca, Ab, nb, cb, c, rfl, _⟩ := h
  intro u hu
  simp only [scl, List.mem_cons, List.not_mem_nil, or_false] at hu
  rcases hu with rfl | rfl | rfl | rfl | rfl <;> rfl
theorem TrI.wide {hi' lo' : Nat} : ∀ {d lo hi n : Nat} {A : Option Addr} {l : List (Tr d)}, TrI w d lo hi A n l → lo' ≤ lo → hi ≤ hi' → TrI w d lo' hi' A n l := by
  intro d lo hi n A l h hl hh
  cases d with
  | zero => exact h
  | succ d =>
    refine ⟨h.1, fun h0 => ?_⟩
    obtain ⟨b, off, css, e, ⟨h1, h2, h3⟩, hc, hf, he⟩ := h.2 h0
    exact ⟨b, off, css, e, ⟨Nat.le_trans hl h1, Nat.lt_of_lt_of_le h2 hh, h3⟩, hc, hf, ElG.mono hh hl he (fun _ _ _ _ _ _ _ g1 g2 => ⟨g2, g1⟩)⟩
theorem TrI.keep (hs : w.heap.size ≤ w'.heap.size) : ∀ {d lo hi n : Nat} {A : Option Addr} {l : List (Tr d)}, TrI w d lo hi A n l → (∀ b, lo ≤ b → b < hi → b < w.heap.size → w'.heap[b]? = w.heap[b]?) → TrI w' d lo hi A n l := by
  intro d
  induction d with
  | zero => intro lo hi n A l h _; exact h
  | succ d ih =>
    intro lo hi n A l h hk
    refine ⟨h.1, fun h0 => ?_⟩
    obtain ⟨b, off, css, e, ⟨h1, h2, h3⟩, hc, hf, he⟩ := h.2 h0
    have hb := hk b h1 h2 h3
    refine ⟨b, off, css, e, ⟨h1, h2, Nat.lt_of_lt_of_le h3 hs⟩, fun j u hu => ?_, fun j => ?_, ElG.mono (Nat.le_refl _) (Nat.le_refl _) he (fun m1 m2 cs s a1 a2 a3 g1 g2 => ⟨?_, g1⟩)⟩
    · rw [← hc j u hu]; simp [World.cell?, hb]
    · rw [← hf j]; simp [World.frozen?, hb]
    · obtain ⟨Aa, ca, Ab, nb, cb, c, k1, ⟨k2, k3⟩, k4, k5, k6⟩ := g2
      exact ⟨Aa, ca, Ab, nb, cb, c, k1, ⟨k2, k3⟩, k4.keep (fun b p1 p2 p3 => hk b (by omega) (by omega) p3) hs, ih k5 (fun b p1 p2 p3 => hk b (by omega) (by omega) p3), k6⟩
theorem StI.keep {d m1 m2 : Nat} {cs : List Value} {s : Tr (d + 1)} (h : StI w d m1 m2 cs s) (hs : w.heap.size ≤ w'.heap.size) (hk : ∀ b, m1 ≤ b → b < m2 → b < w.heap.size → w'.heap[b]? = w.heap[b]?) : StI w' d m1 m2 cs s := by
  obtain ⟨Aa, ca, Ab, nb, cb, c, k1, ⟨k2, k3⟩, k4, k5, k6⟩ := h
  exact ⟨Aa, ca, Ab, nb, cb, c, k1, ⟨k2, k3⟩, k4.keep (fun b p1 p2 p3 => hk b (by omega) (by omega) p3) hs, k5.keep hs (fun b p1 p2 p3 => hk b (by omega) (by omega) p3), k6⟩
theorem stI_mk {d m1 c m2 ca nb cb n : Nat} {h : SH} {Aa Ab : Option Addr} {bd : List (Tr d)} (hn : h.args.length = n) (h1 : m1 ≤ c) (h2 : c ≤ m2) (ha : SlI w m1 c 1 Aa n (strs h.args)) (hb : TrI w d c m2 Ab nb bd) (hc : n ≤ ca) :
    StI w d m1 m2 [.int .i64 h.k, .string h.word, .slice Aa n ca, .int .i64 h.count, .slice Ab nb cb] (mkT h bd) := by
  subst hn
  exact ⟨Aa, ca, Ab, nb, cb, c, rfl, ⟨h1, h2⟩, ha, hb, hc⟩
theorem TrI.rdt : ∀ {d lo hi n : Nat} {A : Option Addr} {l : List (Tr d)}, TrI w d lo hi A n l → RdT w lo d A n l := by
  intro d
  induction d with
  | zero => intro lo hi n A l h; exact h
  | succ d ih =>
    intro lo hi n A l h
    refine ⟨h.1, fun h0 => ?_⟩
    obtain ⟨b, off, css, e, ⟨h1, h2, h3⟩, hc, hf, he⟩ := h.2 h0
    refine ⟨b, off, e, h1, h3, fun i s hi => ?_⟩
    have h5 := (ElG.len (fun _ _ _ _ h => StI.len (w := w) h) he).2
    obtain ⟨m1, m2, c, hci, ⟨g1, g2, g3⟩, _, Aa, ca, Ab, nb, cb, cc, rfl, ⟨k2, k3⟩, k4, k5, k6⟩ := ElG.get he hi
    have f : ∀ j, j < 5 → ∀ u, (scl (hdT s) Aa ca Ab nb cb)[j]? = some u → w.cell? ⟨b, off + (i * 5 + j), none⟩ = some u := fun j hj u hu => hc _ _ ((flat5 (R := fun c => c.length = 5) (fun _ h => h) css h5 i j _ hci hj).trans hu)
    refine ⟨Aa, ca, Ab, nb, cb, ⟨f 0 (by decide) _ rfl, ?_, ?_, ?_, ?_⟩, k4.rdq.lower (by omega), (ih k5).lower (by omega), k6⟩
    · have := f 1 (by decide) _ rfl; rwa [← Nat.add_assoc] at this
    · have := f 2 (by decide) _ rfl; rwa [← Nat.add_assoc] at this
    · have := f 3 (by decide) _ rfl; rwa [← Nat.add_assoc] at this
    · have := f 4 (by decide) _ rfl; rwa [← Nat.add_assoc] at this
end
/-- A row of statements of the call's own, what they point to in intervals from base on and below hi, the row itself in none of them. -/
def OwnI (w : World) (base hi d : Nat) (v : Value) (l : List (Tr (d + 1))) : Prop :=
  ∃ css, w.ownsRow base 61 5 v l.length css.flatten ∧ (base ≤ hi ∧ hi ≤ w.heap.size) ∧ ElG (StI w d) v.ownBlock hi base css l
section
variable {w w' : World} {base hi d : Nat} {v : Value} {l : List (Tr (d + 1))}
theorem OwnI.grown {row : Option Nat} (h : OwnI w base hi d v l) (hg : w.grownBy w' row) (hr : ∀ k, row = some k → k < base) : OwnI w' base hi d v l := by
  obtain ⟨css, ho, ⟨h1, h2⟩, he⟩ := h
  refine ⟨css, ho.kept hg ?_, ⟨h1, Nat.le_trans h2 hg.size⟩, ElG.mono (Nat.le_refl _) (Nat.le_refl _) he (fun m1 m2 c s a1 a2 a3 g1 g2 => ⟨g2.keep hg.size (fun b p1 p2 p3 => hg.block b p3 (fun e => ?_)), g1⟩)⟩
  · cases hk : v.ownBlock with
    | none => exact .inl rfl
    | some k =>
      refine .inr fun e => ?_
      have h1 := hr k e.symm
      have h2 := (ho.lt k hk).1
      omega
  · have := hr b e.symm
    omega
theorem OwnI.below (h : OwnI w base hi d v l) (hb : Below w.heap.size w w') : OwnI w' base hi d v l :=
  h.grown (row := none) ⟨hb.os, hb.tape, hb.output, hb.size, fun k hk _ => hb.block k hk⟩ (fun k e => by cases e)
theorem ownI_empty (w : World) (d : Nat) : OwnI (w.alloc (.cells #[] 61)) w.heap.size w.heap.size d (.slice (some ⟨w.heap.size, 0, none⟩) 0 0) [] := ⟨[], own_empty w _ 5, ⟨Nat.le_refl _, by simp⟩, trivial⟩
theorem OwnI.slice (h : OwnI w base hi d v l) : ∃ A c, v = .slice A l.length c ∧ l.length ≤ c ∧ c ≤ maxLen := by
  obtain ⟨css, ho, _⟩ := h
  obtain ⟨A, c, e, h1, h2, _⟩ := rd_of_own ho
  exact ⟨A, c, e, h1, h2⟩
theorem OwnI.lt (h : OwnI w base hi d v l) : ∀ k, v.ownBlock = some k → k < w.heap.size := fun k hk => by
  obtain ⟨xs, ho, _⟩ := h
  exact (ho.lt k hk).2
/-- The row, open for one more statement, which lies behind it. -/
theorem OwnI.add {m1 m2 : Nat} {cs : List Value} {s : Tr (d + 1)} (h : OwnI w base hi d v l) (hv : ∀ k, v.ownBlock = some k → k < m1) (h1 : hi ≤ m1) (h2 : m1 ≤ m2) (h3 : m2 ≤ w.heap.size) (hs : StI w d m1 m2 cs s) :
    ∃ xs, w.ownsRow base 61 5 v l.length xs ∧ ∀ (wa w6 : World) (v6 : Value), w6.ownsRow base 61 5 v6 (l.length + 1) (xs ++ cs) → Below w.heap.size w wa → wa.grownBy w6 v.ownBlock → (v6.ownBlock = v.ownBlock ∨ v6.ownBlock = some wa.heap.size) → OwnI w6 base m2 d v6 (l ++ [s]) := by
  obtain ⟨css, ho, ⟨a1, a2⟩, he⟩ := h
  refine ⟨css.flatten, ho, fun wa w6 v6 h6 hba hg hat => ?_⟩
  have hsz : w.heap.size ≤ w6.heap.size := Nat.le_trans hba.size hg.size
  refine ⟨css ++ [cs], ?_, ⟨by omega, by omega⟩, ElG.mono (Nat.le_refl _) (Nat.le_refl _) (ElG.snoc h1 h2 (fun k hk => .inl (hv k hk)) hs a1 he) (fun n1 n2 c s b1 b2 b3 g1 g2 => ⟨g2.keep hsz (fun b p1 p2 p3 => ?_), fun k hk => ?_⟩)⟩
  · rw [List.flatten_append, List.length_append]
    simpa using h6
  · refine (hg.block b (Nat.lt_of_lt_of_le p3 hba.size) (fun e => ?_)).trans (hba.block b p3)
    have := g1 b e.symm
    omega
  · rcases hat with e | e
    · exact g1 k (e ▸ hk)
    · rw [hk] at e
      injection e with e
      have := hba.size
      omega
theorem OwnI.tr {A : Option Addr} {n c : Nat} (h : OwnI w base hi d (.slice A n c) l) (hn : l.length = n) : TrI w (d + 1) base w.heap.size A n l := by
  obtain ⟨css, ho, ⟨a1, a2⟩, he⟩ := h
  rw [hn] at ho
  have r := rd_own ho
  refine ⟨hn, fun h0 => ?_⟩
  obtain ⟨b, off, e, hb, hc⟩ := r.2 h0
  subst e
  rcases ho.2 with ⟨e, e2⟩ | ⟨g, cap, cur, e, hg, hh, _⟩
  · omega
  · injection e with e e2 e3
    injection e with e
    injection e with e1 e4
    subst e1 e4
    exact ⟨b, 0, css, rfl, ⟨hg, hb, hb⟩, hc, fun j => free_at hh, ElG.mono a2 (Nat.le_refl _) he (fun _ _ _ _ _ _ _ g1 g2 => ⟨g2, g1⟩)⟩
end
end Go.Proofs.YthkbckkghnbonaaDoor
namespace Go.Proofs.YthkbckkghnbonaaDoor
open Go.RowKit
set_option linter.unusedVariables false
theorem namesR_step {T : List Tk} {m t : Nat} {s st : Rs} {Q : List ByteArray} (ht : t < m) (h : namesR T m s = ((namesR T (m - t) st).1, Q ++ (namesR T (m - t) st).2)) :
    namesR T m s = ((namesR T (m - (t + 1)) (takeR T st 1 3).1).1, (Q ++ [(takeR T st 1 3).2]) ++ (namesR T (m - (t + 1)) (takeR T st 1 3).1).2) := by
  obtain ⟨f, hf⟩ : ∃ f, m - t = f + 1 := ⟨m - t - 1, by omega⟩
  have hf2 : m - (t + 1) = f := by omega
  rw [h, hf, hf2, namesR]
  simp
theorem strs_snoc1 (Q : List ByteArray) (a : ByteArray) : strs (Q ++ [a]) = strs Q ++ [.string a] := by simp [strs]
theorem one_strN (a : ByteArray) : ∀ u ∈ (#[Value.string a] : Array Value).toList, u.oneCell' = true := by
  intro u hu
  rw [List.mem_singleton.1 hu]
  rfl
def RnI (R : Nat) (A : Option Addr) (n c : Nat) (T : List Tk) (o : Int) (Q : List ByteArray) (s : Rs) (w : World) (e : Ending) (w' : World) : Prop :=
  ∃ A' c', e = .returned (.slice A' Q.length c') ∧ w'.ownsRow w.heap.size 9 1 (.slice A' Q.length c') Q.length (strs Q) ∧ RdI R A n c T o s w' ∧ w.grownBy w' (some R)
set_option maxRecDepth 100000 in
set_option maxHeartbeats 4000000 in
theorem names_any (R n c : Nat) (A : Option Addr) (T : List Tk) (o : Int) (s : Rs) (m : Nat) (w : World) (h : RdI R A n c T o s w) (hn : n ≤ 1048576) (hm : m ≤ 3) : Calls Tryd.prog 39 #[.pointer (some ⟨R, 0, none⟩), .int .i64 m] w (RnI R A n c T o (namesR T m s).2 (namesR T m s).1 w) := by
  obtain ⟨i0, hi, hz0, hz1, hz2⟩ := info_parts info_str
  have lR := h.cells.2.2
  have H := Lib.hid h
  clear h
  go_enter Tryd.func39, Tryd.ntmps39
  go_wp2_with fail
  obtain ⟨w0, hw0⟩ : ∃ w0, w0 = w.alloc (.cells #[] 9) := ⟨_, rfl⟩
  rw [← hw0]
  have b0 : Below w.heap.size w w0 := by rw [hw0]; exact (by repeat (first | exact Below.refl _ _ | assumption | (refine Below.trans ?_ (Below.mono (by assumption) (by first | omega | (simp; done) | (simp; omega)))) | (with_reducible refine Below.drew ?_) | (with_reducible refine Below.alloc ?_ (by first | omega | (simp; done) | (simp; omega)) _) | (with_reducible refine Below.setCell ?_ (by first | omega | (simp; done) | (simp; omega)) _)))
  have OW := Lib.hid (show w0.ownsRow w.heap.size 9 1 (.slice (some ⟨w.heap.size, 0, none⟩) 0 0) 0 [] by rw [hw0]; exact own_empty _ _ _)
  have H0 := Lib.hid (H.out.below b0)
  have G0 := Lib.hid (only_of_below b0 (some R))
  clear hw0 b0 H
  go_loopw [5, 6] (fun v i wr => ∃ (t : Nat) (Q : List ByteArray) (st : Rs), i = .int .i64 t ∧ t ≤ m ∧ Hid (Q.length = t) ∧ Hid (wr.ownsRow w.heap.size 9 1 v t (strs Q)) ∧ Hid (RdI R A n c T o st wr) ∧ Hid (w.grownBy wr (some R)) ∧ Hid (namesR T m s = ((namesR T (m - t) st).1, Q ++ (namesR T (m - t) st).2))) (fun _ i _ => m - (intOf i).toNat)
  case atStart => exact ⟨0, [], s, rfl, Nat.zero_le _, rfl, OW.out, H0.out, G0.out, rfl⟩
  case round =>
    obtain ⟨t, Q, st, rfl, ht, hQ, hown, hrd, hgr, heq⟩ := hrel
    obtain ⟨wE, rfl⟩ : ∃ wE : World, wE = wr := ⟨_, rfl⟩
    by_cases hlt : t < m
    · obtain ⟨A0, c0, rfl, _, _, _⟩ := rd_of_own hown.out
      go_wp2_with fail
      refine (take_any R n c A T o st 1 3 _ hrd.out hn (by decide)).mono ?_
      rintro e w1 ⟨rfl, hr1, hg1⟩
      have own1 := own_drawG hown.out hg1 lR
      have hgw := hgr.out.andThen hg1 (fun j hj => .inr hj)
      have hs1 := hgw.size
      have lr1 := hr1.cells.2.2
      have H1 := Lib.hid hr1
      have HG := Lib.hid hgw
      have HW := Lib.hid own1.lt
      clear hg1 hgw hr1
      go_wp2_with (at_builtin; refine wpList_append_rd _ rfl _ _ 22 rfl w.heap.size 9 i0 _ 1 16 Tryd.underlying22 hi hz0 hz1 hz2 rfl (by decide) _ _ _ rfl (own1.alloc _) _ 1 1 _ rfl (rd_lit1 ?c0 rfl) (one_strN _) ?c3 ?c4 ?c5 ?_)
      try (case c0 => first | rfl | simp)
      case c3 => simp only [maxLen]; omega
      case c4 => omega
      case c5 => first | omega | (simp; omega)
      intro v6 w6 own6 gr6 hat
      have hge : ∀ k, (Value.slice A0 t c0).ownBlock = some k → w.heap.size ≤ k := fun k hk => (own1.lt k hk).1
      have H6 := Lib.hid ((H1.out.below ((Below.refl _ _).alloc (Nat.le_refl _) _)).own gr6 (fun k hk => by have := hge k hk; omega))
      have G6 := Lib.hid (gr_own (gr_below HG.out ((Below.refl _ _).alloc (Nat.le_refl _) _)) gr6 hge)
      have O6 := Lib.hid own6
      clear gr6 own6 own1 hge
      go_wp2_with fail
      go_roundw
      case rel => exact ⟨t + 1, Q ++ [(takeR T st 1 3).2], (takeR T st 1 3).1, by go_num, by omega, by rw [List.length_append, hQ.out]; rfl, by rw [strs_snoc1]; exact O6.out, H6.out, G6.out, namesR_step hlt heq.out⟩
      case measure => simp [intOf]; omega
    · obtain rfl : t = m := by omega
      have HF : Hid (namesR T t s = (st, Q)) := by
        show namesR T t s = _
        rw [heq.out, Nat.sub_self]
        simp [namesR]
      obtain ⟨A0, c0, rfl, _, _, _⟩ := rd_of_own hown.out
      go_wp2_with fail
      go_ret
      rw [HF.out]
      exact ⟨A0, c0, by rw [hQ.out]; rfl, by rw [hQ.out]; exact hown.out, hrd.out, hgr.out⟩
end Go.Proofs.YthkbckkghnbonaaDoor
namespace Go.Proofs.YthkbckkghnbonaaDoor
open Go.RowKit
set_option linter.unusedVariables false
theorem takeR_keep {T : List Tk} {s : Rs} {k c : Int} (h : s.code ≠ 0) : (takeR T s k c).1 = s := by rw [takeR_no (fun e => h e.1)]; exact failR_1 h c
theorem takeR_code {T : List Tk} {s : Rs} {k c : Int} (h : (takeR T s k c).1.code = 0) : s.code = 0 := Classical.byContradiction fun h1 => h1 (by rw [takeR_keep h1] at h; exact h)
theorem failR_ne {s : Rs} {c : Int} (hc : c ≠ 0) : (failR s c).code ≠ 0 := by
  unfold failR
  split
  · exact hc
  · assumption
theorem takeR_ne {T : List Tk} {s : Rs} {k c : Int} (hc : c ≠ 0) (h : ¬ (s.code = 0 ∧ kindT T s.i = k)) : (takeR T s k c).1.code ≠ 0 := by rw [takeR_no h]; exact failR_ne hc
theorem bodyR_a {d : Nat} {T : List Tk} {inner : Rs → Rs × List (Tr d)} {s : Rs} (h : d = 0 ∧ s.code = 0 ∧ kindT T s.i = 3) : bodyR T inner s = ((takeR T (inner (takeR T (failR s 9) 3 7).1).1 4 8).1, (inner (takeR T (failR s 9) 3 7).1).2) := by
  unfold bodyR
  simp only [if_pos h]
theorem bodyR_b {d : Nat} {T : List Tk} {inner : Rs → Rs × List (Tr d)} {s : Rs} (h : ¬ (d = 0 ∧ s.code = 0 ∧ kindT T s.i = 3)) : bodyR T inner s = ((takeR T (inner (takeR T s 3 7).1).1 4 8).1, (inner (takeR T s 3 7).1).2) := by
  unfold bodyR
  simp only [if_neg h]
theorem gr_refl (w : World) (R : Nat) : w.grownBy w (some R) := World.grownBy.refl _ _
theorem gr_gr {w w' w'' : World} {R : Nat} (h : w.grownBy w' (some R)) (k : w'.grownBy w'' (some R)) : w.grownBy w'' (some R) := h.andThen k (fun j hj => .inr hj)
theorem trI_gr {w w' : World} {d R lo hi n : Nat} {A : Option Addr} {l : List (Tr d)} (h : TrI w d lo hi A n l) (hg : w.grownBy w' (some R)) (hR : R < lo) : TrI w' d lo hi A n l :=
  h.keep hg.size (fun b h1 _ h3 => hg.block b h3 (fun e => by injection e with e; omega))
theorem slI_gr {w w' : World} {R lo hi size n : Nat} {A : Option Addr} {xs : List Value} (h : SlI w lo hi size A n xs) (hg : w.grownBy w' (some R)) (hR : R < lo) : SlI w' lo hi size A n xs :=
  h.keep (fun b h1 _ h3 => hg.block b h3 (fun e => by injection e with e; omega)) hg.size

def RlS (R : Nat) (A : Option Addr) (n c : Nat) (T : List Tk) (d : Nat) (s : Rs) (l : List (Tr d)) (w : World) (e : Ending) (w' : World) : Prop :=
  ∃ Ab nb cb l', e = .returned (.slice Ab nb cb) ∧ (s.code = 0 → l' = l) ∧ TrI w' d w.heap.size w'.heap.size Ab nb l' ∧ RdS R A n c T s w' ∧ w.grownBy w' (some R)
def InnerS (d : Nat) : Prop := ∀ (R n c : Nat) (A : Option Addr) (T : List Tk) (s : Rs) (k : Int) (w : World), RdS R A n c T s w → n ≤ 160 → (∀ t ∈ T, wellTk t) → (d = 0 → s.code ≠ 0) → k = 5 - d →
  Calls Tryd.prog 15 #[.pointer (some ⟨R, 0, none⟩), .int .i64 k] w (RlS R A n c T d (innerR T d s).1 (innerR T d s).2 w)
def BodyS (d : Nat) : Prop := ∀ (R n c : Nat) (A : Option Addr) (T : List Tk) (s : Rs) (k : Int) (w : World), RdS R A n c T s w → n ≤ 160 → (∀ t ∈ T, wellTk t) → k = 4 - d →
  Calls Tryd.prog 60 #[.pointer (some ⟨R, 0, none⟩), .int .i64 k] w (RlS R A n c T d (bodyR T (innerR T d) s).1 (bodyR T (innerR T d) s).2 w)
set_option maxRecDepth 100000 in
set_option maxHeartbeats 1000000 in
theorem l18Body_of (d : Nat) (hd : d ≤ 4) (ih0 : InnerS d) : BodyS d := by
  intro R n c A T s k w h hn hT0 hk
  obtain ⟨⟨k0, k1, k2⟩, f1, f2, lR⟩ := h.cells
  have H := Lib.hid h
  have ih := Lib.hid ih0
  have hT := Lib.hid hT0
  have hk1 : 0 ≤ k := by omega
  have hk2 : k ≤ 4 := by omega
  have KD := Lib.hid hk
  clear h ih0 hT0 hk
  by_cases h0 : s.code = 0
  · have H0 := Lib.hid h0
    by_cases h1 : kindT T s.i = 3
    · have HK := Lib.hid h1
      by_cases h2 : d = 0
      · obtain rfl : k = 4 := by have := KD.out; omega
        have HE := Lib.hid (bodyR_a (T := T) (inner := innerR T d) (s := s) ⟨h2, h0, h1⟩)
        rw [h0] at k2
        clear h0 h1
        go_enter Tryd.func60, Tryd.ntmps60
        go_wp2_with (first | (go_at_call 13; refine (l18Kind_any R n c _ T s w H.out (by omega)).mono ?_; rintro e w' ⟨rfl, m, rfl⟩; rw [HK.out]) | (go_at_call 32; refine (l18Fail_any R n c _ T s 9 _ (H.out.drewN _)).mono ?_; rintro e w1 ⟨rfl, hr1, hg1⟩))
        have GR1 := Lib.hid (gr_gr (gr_drewN (gr_refl w R) _) hg1)
        have H1 := Lib.hid hr1
        clear hg1 hr1
        refine (l18Take_any R n c _ T _ 3 7 _ H1.out (by omega) (by decide)).mono ?_
        rintro e w2 ⟨rfl, hr2, hg2⟩
        have GR2 := Lib.hid (gr_gr GR1.out hg2)
        have H2 := Lib.hid hr2
        clear hg2 hr2
        go_wp2_with fail
        refine (ih.out R n c _ T (takeR T (failR s 9) 3 7).1 5 _ H2.out hn hT.out (fun h0 => ?_) (by have := KD.out; omega)).mono ?_
        · exact takeR_ne (by decide) (fun e => failR_ne (by decide) e.1)
        rintro e w3 ⟨Ab, nb, cb, l', rfl, hl, htr, hr3, hg3⟩
        have GR3 := Lib.hid (gr_gr GR2.out hg3)
        have hz2 := GR2.out.size
        have hz3 := hg3.size
        have HT := Lib.hid htr
        have HL := Lib.hid hl
        have H3 := Lib.hid hr3
        have lR3 := GR2.out.size
        clear hg3 hr3 htr hl
        go_wp2_with fail
        refine (l18Take_any R n c _ T _ 4 8 _ H3.out (by omega) (by decide)).mono ?_
        rintro e w4 ⟨rfl, hr4, hg4⟩
        have hz4 := hg4.size
        go_wp2_with fail
        go_ret
        rw [HE.out]
        refine ⟨Ab, nb, cb, l', rfl, fun h => HL.out (takeR_code h), ?_, hr4, gr_gr GR3.out hg4⟩
        exact (trI_gr (HT.out) hg4 (by omega)).wide (by omega) (by omega)
      · have hk4 : (k == 4) = false := by have := KD.out; simp; omega
        have HE := Lib.hid (bodyR_b (T := T) (inner := innerR T d) (s := s) (fun e => h2 e.1))
        rw [h0] at k2
        clear h0 h1
        go_enter Tryd.func60, Tryd.ntmps60
        go_wp2_with (go_at_call 13; refine (l18Kind_any R n c _ T s w H.out (by omega)).mono ?_; rintro e w' ⟨rfl, m, rfl⟩; rw [HK.out])
        have GR1 := Lib.hid (gr_drewN (gr_refl w R) m)
        have H1 := Lib.hid (H.out.drewN m)
        refine (l18Take_any R n c _ T _ 3 7 _ H1.out (by omega) (by decide)).mono ?_
        rintro e w2 ⟨rfl, hr2, hg2⟩
        have GR2 := Lib.hid (gr_gr GR1.out hg2)
        have H2 := Lib.hid hr2
        clear hg2 hr2
        go_wp2_with fail
        refine (ih.out R n c _ T (takeR T s 3 7).1 (k + 1) _ H2.out hn hT.out (fun h0 => ?_) (by have := KD.out; omega)).mono ?_
        · exact absurd h0 h2
        rintro e w3 ⟨Ab, nb, cb, l', rfl, hl, htr, hr3, hg3⟩
        have GR3 := Lib.hid (gr_gr GR2.out hg3)
        have hz2 := GR2.out.size
        have hz3 := hg3.size
        have HT := Lib.hid htr
        have HL := Lib.hid hl
        have H3 := Lib.hid hr3
        have lR3 := GR2.out.size
        clear hg3 hr3 htr hl
        go_wp2_with fail
        refine (l18Take_any R n c _ T _ 4 8 _ H3.out (by omega) (by decide)).mono ?_
        rintro e w4 ⟨rfl, hr4, hg4⟩
        have hz4 := hg4.size
        go_wp2_with fail
        go_ret
        rw [HE.out]
        refine ⟨Ab, nb, cb, l', rfl, fun h => HL.out (takeR_code h), ?_, hr4, gr_gr GR3.out hg4⟩
        exact (trI_gr (HT.out) hg4 (by omega)).wide (by omega) (by omega)
    · have e1 : (kindT T s.i == 3) = false := by simp [h1]
      have HE := Lib.hid (bodyR_b (T := T) (inner := innerR T d) (s := s) (fun e => h1 e.2.2))
      have H1N := Lib.hid h1
      rw [h0] at k2
      clear h0 h1
      go_enter Tryd.func60, Tryd.ntmps60
      go_wp2_with (go_at_call 13; refine (l18Kind_any R n c _ T s w H.out (by omega)).mono ?_; rintro e w' ⟨rfl, m, rfl⟩)
      have GR1 := Lib.hid (gr_drewN (gr_refl w R) m)
      have H1 := Lib.hid (H.out.drewN m)
      refine (l18Take_any R n c _ T _ 3 7 _ H1.out (by omega) (by decide)).mono ?_
      rintro e w2 ⟨rfl, hr2, hg2⟩
      have GR2 := Lib.hid (gr_gr GR1.out hg2)
      have H2 := Lib.hid hr2
      clear hg2 hr2
      go_wp2_with fail
      refine (ih.out R n c _ T (takeR T s 3 7).1 (k + 1) _ H2.out hn hT.out (fun h0 => ?_) (by have := KD.out; omega)).mono ?_
      · exact takeR_ne (by decide) (fun e => H1N.out e.2)
      rintro e w3 ⟨Ab, nb, cb, l', rfl, hl, htr, hr3, hg3⟩
      have GR3 := Lib.hid (gr_gr GR2.out hg3)
      have hz2 := GR2.out.size
      have hz3 := hg3.size
      have HT := Lib.hid htr
      have HL := Lib.hid hl
      have H3 := Lib.hid hr3
      have lR3 := GR2.out.size
      clear hg3 hr3 htr hl
      go_wp2_with fail
      refine (l18Take_any R n c _ T _ 4 8 _ H3.out (by omega) (by decide)).mono ?_
      rintro e w4 ⟨rfl, hr4, hg4⟩
      have hz4 := hg4.size
      go_wp2_with fail
      go_ret
      rw [HE.out]
      refine ⟨Ab, nb, cb, l', rfl, fun h => HL.out (takeR_code h), ?_, hr4, gr_gr GR3.out hg4⟩
      exact (trI_gr (HT.out) hg4 (by omega)).wide (by omega) (by omega)
  · have e0 : (s.code == 0) = false := by simp [h0]
    have HE := Lib.hid (bodyR_b (T := T) (inner := innerR T d) (s := s) (fun e => h0 e.2.1))
    have H0N := Lib.hid h0
    clear h0
    go_enter Tryd.func60, Tryd.ntmps60
    go_wp2_with fail
    have GR1 := Lib.hid (gr_refl w R)
    have H1 := Lib.hid H.out
    refine (l18Take_any R n c _ T _ 3 7 _ H1.out (by omega) (by decide)).mono ?_
    rintro e w2 ⟨rfl, hr2, hg2⟩
    have GR2 := Lib.hid (gr_gr GR1.out hg2)
    have H2 := Lib.hid hr2
    clear hg2 hr2
    go_wp2_with fail
    refine (ih.out R n c _ T (takeR T s 3 7).1 (k + 1) _ H2.out hn hT.out (fun h0 => ?_) (by have := KD.out; omega)).mono ?_
    · exact takeR_ne (by decide) (fun e => H0N.out e.1)
    rintro e w3 ⟨Ab, nb, cb, l', rfl, hl, htr, hr3, hg3⟩
    have GR3 := Lib.hid (gr_gr GR2.out hg3)
    have hz2 := GR2.out.size
    have hz3 := hg3.size
    have HT := Lib.hid htr
    have HL := Lib.hid hl
    have H3 := Lib.hid hr3
    have lR3 := GR2.out.size
    clear hg3 hr3 htr hl
    go_wp2_with fail
    refine (l18Take_any R n c _ T _ 4 8 _ H3.out (by omega) (by decide)).mono ?_
    rintro e w4 ⟨rfl, hr4, hg4⟩
    have hz4 := hg4.size
    go_wp2_with fail
    go_ret
    rw [HE.out]
    refine ⟨Ab, nb, cb, l', rfl, fun h => HL.out (takeR_code h), ?_, hr4, gr_gr GR3.out hg4⟩
    exact (trI_gr (HT.out) hg4 (by omega)).wide (by omega) (by omega)
def RlI (R : Nat) (A : Option Addr) (n c : Nat) (T : List Tk) (o : Int) (d : Nat) (s : Rs) (l : List (Tr d)) (w : World) (e : Ending) (w' : World) : Prop :=
  ∃ Ab nb cb l', e = .returned (.slice Ab nb cb) ∧ (s.code = 0 → l' = l) ∧ TrI w' d w.heap.size w'.heap.size Ab nb l' ∧ RdI R A n c T o s w' ∧ w.grownBy w' (some R)
def InnerI (d : Nat) : Prop := ∀ (B R n c : Nat) (A : Option Addr) (T : List Tk) (o : Int) (s : Rs) (w : World), RdI R A n c T o s w → LVb B w → B ≤ R → n ≤ 160 → (∀ t ∈ T, wellTk t) → (d = 0 → s.code ≠ 0) → o = 5 - d →
  Calls Tryd.prog 18 #[.pointer (some ⟨R, 0, none⟩)] w (RlI R A n c T o d (innerR T d s).1 (innerR T d s).2 w)
def BodyI (d : Nat) : Prop := ∀ (B R n c : Nat) (A : Option Addr) (T : List Tk) (o : Int) (s : Rs) (w : World), RdI R A n c T o s w → LVb B w → B ≤ R → n ≤ 160 → (∀ t ∈ T, wellTk t) → o = 4 - d →
  Calls Tryd.prog 65 #[.pointer (some ⟨R, 0, none⟩)] w (RlI R A n c T o d (bodyR T (innerR T d) s).1 (bodyR T (innerR T d) s).2 w)
set_option maxRecDepth 100000 in
set_option maxHeartbeats 1000000 in
theorem body_of (d : Nat) (hd : d ≤ 4) (ih0 : InnerI d) : BodyI d := by
  intro B R n c A T o s w h hv hBR hn hT0 hk
  obtain ⟨⟨k0, k1, ko, k2⟩, ⟨f1, f3, f2⟩, lR⟩ := h.cells
  have H := Lib.hid h
  have HV := Lib.hid hv
  have ih := Lib.hid ih0
  have hT := Lib.hid hT0
  have hk1 : 0 ≤ o := by omega
  have hk2 : o ≤ 4 := by omega
  have KD := Lib.hid hk
  clear h hv ih0 hT0 hk
  by_cases h0 : s.code = 0
  · have H0 := Lib.hid h0
    by_cases h1 : kindT T s.i = 3
    · have HK := Lib.hid h1
      by_cases h2 : d = 0
      · obtain rfl : o = 4 := by have := KD.out; omega
        have HE := Lib.hid (bodyR_a (T := T) (inner := innerR T d) (s := s) ⟨h2, h0, h1⟩)
        rw [h0] at k2
        clear h0 h1
        go_enter Tryd.func65, Tryd.ntmps65
        go_wp2_with (first | (go_at_call 37; refine (kind_any R n c _ T 4 s w H.out (by omega)).mono ?_; rintro e w' ⟨rfl, m, rfl⟩; rw [HK.out]) | (go_at_call 38; refine (fail_any R n c _ T 4 s 9 _ (H.out.drewN _)).mono ?_; rintro e w1 ⟨rfl, hr1, hg1⟩))
        have GR1 := Lib.hid (gr_gr (gr_drewN (gr_refl w R) _) hg1)
        have H1 := Lib.hid hr1
        clear hg1 hr1
        refine (take_any R n c _ T 4 _ 3 7 _ H1.out (by omega) (by decide)).mono ?_
        rintro e w2 ⟨rfl, hr2, hg2⟩
        have GR2 := Lib.hid (gr_gr GR1.out hg2)
        have H2 := Lib.hid hr2
        clear hg2 hr2
        obtain ⟨⟨a0, a1, ao, a2⟩, ⟨g1, g3, g2⟩, lR2⟩ := H2.out.cells
        have H2o := Lib.hid (H2.out.opn 5)
        have GR2o := Lib.hid (gr_gr GR2.out (gr_set (W := w2) (R := R) (j := 2) (.int .i64 5)))
        clear k0 k1 ko k2 f1 f2 f3
        go_wp2_with fail
        refine (ih.out B R n c _ T 5 (takeR T (failR s 9) 3 7).1 _ H2o.out (HV.out.grown GR2o.out (fun k hk => by injection hk with hk; omega)) hBR hn hT.out (fun h0 => ?_) (by have := KD.out; omega)).mono ?_
        · exact takeR_ne (by decide) (fun e => failR_ne (by decide) e.1)
        rintro e w3 ⟨Ab, nb, cb, l', rfl, hl, htr, hr3, hg3⟩
        have GR3 := Lib.hid (gr_gr GR2o.out hg3)
        have hz2 := GR2.out.size
        have hz2o : (w2.setCell ⟨R, 2, none⟩ (.int .i64 5)).heap.size = w2.heap.size := by rw [size_setCell]
        have hz3 := hg3.size
        have HT := Lib.hid htr
        have HL := Lib.hid hl
        have H3 := Lib.hid hr3
        have lR3 := GR2.out.size
        clear hg3 hr3 htr hl
        clear a0 a1 ao a2 g1 g2 g3 lR2
        obtain ⟨⟨a0, a1, ao, a2⟩, ⟨g1, g3, g2⟩, lR4⟩ := H3.out.cells
        have H3o := Lib.hid (H3.out.opn 4)
        have HTo := Lib.hid (trI_gr HT.out (gr_set (W := w3) (R := R) (j := 2) (.int .i64 4)) (by omega))
        have GR3o := Lib.hid (gr_gr GR3.out (gr_set (W := w3) (R := R) (j := 2) (.int .i64 4)))
        have hzo : (w3.setCell ⟨R, 2, none⟩ (.int .i64 4)).heap.size = w3.heap.size := by rw [size_setCell]
        go_wp2_with fail
        refine (take_any R n c _ T 4 _ 4 8 _ H3o.out (by omega) (by decide)).mono ?_
        rintro e w4 ⟨rfl, hr4, hg4⟩
        have hz4 := hg4.size
        go_wp2_with fail
        go_ret
        rw [HE.out]
        refine ⟨Ab, nb, cb, l', rfl, fun h => HL.out (takeR_code h), ?_, hr4, gr_gr GR3o.out hg4⟩
        exact (trI_gr (HTo.out) hg4 (by rw [size_setCell]; omega)).wide (by rw [size_setCell]; omega) (by omega)
      · have hk4 : (o == 4) = false := by have := KD.out; simp; omega
        have HE := Lib.hid (bodyR_b (T := T) (inner := innerR T d) (s := s) (fun e => h2 e.1))
        rw [h0] at k2
        clear h0 h1
        go_enter Tryd.func65, Tryd.ntmps65
        go_wp2_with (go_at_call 37; refine (kind_any R n c _ T o s w H.out (by omega)).mono ?_; rintro e w' ⟨rfl, m, rfl⟩; rw [HK.out])
        have GR1 := Lib.hid (gr_drewN (gr_refl w R) m)
        have H1 := Lib.hid (H.out.drewN m)
        refine (take_any R n c _ T o _ 3 7 _ H1.out (by omega) (by decide)).mono ?_
        rintro e w2 ⟨rfl, hr2, hg2⟩
        have GR2 := Lib.hid (gr_gr GR1.out hg2)
        have H2 := Lib.hid hr2
        clear hg2 hr2
        obtain ⟨⟨a0, a1, ao, a2⟩, ⟨g1, g3, g2⟩, lR2⟩ := H2.out.cells
        have H2o := Lib.hid (H2.out.opn (o + 1))
        have GR2o := Lib.hid (gr_gr GR2.out (gr_set (W := w2) (R := R) (j := 2) (.int .i64 (o + 1))))
        clear k0 k1 ko k2 f1 f2 f3
        go_wp2_with fail
        refine (ih.out B R n c _ T (o + 1) (takeR T s 3 7).1 _ H2o.out (HV.out.grown GR2o.out (fun k hk => by injection hk with hk; omega)) hBR hn hT.out (fun h0 => ?_) (by have := KD.out; omega)).mono ?_
        · exact absurd h0 h2
        rintro e w3 ⟨Ab, nb, cb, l', rfl, hl, htr, hr3, hg3⟩
        have GR3 := Lib.hid (gr_gr GR2o.out hg3)
        have hz2 := GR2.out.size
        have hz2o : (w2.setCell ⟨R, 2, none⟩ (.int .i64 (o + 1))).heap.size = w2.heap.size := by rw [size_setCell]
        have hz3 := hg3.size
        have HT := Lib.hid htr
        have HL := Lib.hid hl
        have H3 := Lib.hid hr3
        have lR3 := GR2.out.size
        clear hg3 hr3 htr hl
        clear a0 a1 ao a2 g1 g2 g3 lR2
        obtain ⟨⟨a0, a1, ao, a2⟩, ⟨g1, g3, g2⟩, lR4⟩ := H3.out.cells
        have H3o := Lib.hid (H3.out.opn o)
        have HTo := Lib.hid (trI_gr HT.out (gr_set (W := w3) (R := R) (j := 2) (.int .i64 o)) (by omega))
        have GR3o := Lib.hid (gr_gr GR3.out (gr_set (W := w3) (R := R) (j := 2) (.int .i64 o)))
        have hzo : (w3.setCell ⟨R, 2, none⟩ (.int .i64 o)).heap.size = w3.heap.size := by rw [size_setCell]
        go_wp2_with fail
        refine (take_any R n c _ T o _ 4 8 _ H3o.out (by omega) (by decide)).mono ?_
        rintro e w4 ⟨rfl, hr4, hg4⟩
        have hz4 := hg4.size
        go_wp2_with fail
        go_ret
        rw [HE.out]
        refine ⟨Ab, nb, cb, l', rfl, fun h => HL.out (takeR_code h), ?_, hr4, gr_gr GR3o.out hg4⟩
        exact (trI_gr (HTo.out) hg4 (by rw [size_setCell]; omega)).wide (by rw [size_setCell]; omega) (by omega)
    · have e1 : (kindT T s.i == 3) = false := by simp [h1]
      have HE := Lib.hid (bodyR_b (T := T) (inner := innerR T d) (s := s) (fun e => h1 e.2.2))
      have H1N := Lib.hid h1
      rw [h0] at k2
      clear h0 h1
      go_enter Tryd.func65, Tryd.ntmps65
      go_wp2_with (go_at_call 37; refine (kind_any R n c _ T o s w H.out (by omega)).mono ?_; rintro e w' ⟨rfl, m, rfl⟩)
      have GR1 := Lib.hid (gr_drewN (gr_refl w R) m)
      have H1 := Lib.hid (H.out.drewN m)
      refine (take_any R n c _ T o _ 3 7 _ H1.out (by omega) (by decide)).mono ?_
      rintro e w2 ⟨rfl, hr2, hg2⟩
      have GR2 := Lib.hid (gr_gr GR1.out hg2)
      have H2 := Lib.hid hr2
      clear hg2 hr2
      obtain ⟨⟨a0, a1, ao, a2⟩, ⟨g1, g3, g2⟩, lR2⟩ := H2.out.cells
      have H2o := Lib.hid (H2.out.opn (o + 1))
      have GR2o := Lib.hid (gr_gr GR2.out (gr_set (W := w2) (R := R) (j := 2) (.int .i64 (o + 1))))
      clear k0 k1 ko k2 f1 f2 f3
      go_wp2_with fail
      refine (ih.out B R n c _ T (o + 1) (takeR T s 3 7).1 _ H2o.out (HV.out.grown GR2o.out (fun k hk => by injection hk with hk; omega)) hBR hn hT.out (fun h0 => ?_) (by have := KD.out; omega)).mono ?_
      · exact takeR_ne (by decide) (fun e => H1N.out e.2)
      rintro e w3 ⟨Ab, nb, cb, l', rfl, hl, htr, hr3, hg3⟩
      have GR3 := Lib.hid (gr_gr GR2o.out hg3)
      have hz2 := GR2.out.size
      have hz2o : (w2.setCell ⟨R, 2, none⟩ (.int .i64 (o + 1))).heap.size = w2.heap.size := by rw [size_setCell]
      have hz3 := hg3.size
      have HT := Lib.hid htr
      have HL := Lib.hid hl
      have H3 := Lib.hid hr3
      have lR3 := GR2.out.size
      clear hg3 hr3 htr hl
      clear a0 a1 ao a2 g1 g2 g3 lR2
      obtain ⟨⟨a0, a1, ao, a2⟩, ⟨g1, g3, g2⟩, lR4⟩ := H3.out.cells
      have H3o := Lib.hid (H3.out.opn o)
      have HTo := Lib.hid (trI_gr HT.out (gr_set (W := w3) (R := R) (j := 2) (.int .i64 o)) (by omega))
      have GR3o := Lib.hid (gr_gr GR3.out (gr_set (W := w3) (R := R) (j := 2) (.int .i64 o)))
      have hzo : (w3.setCell ⟨R, 2, none⟩ (.int .i64 o)).heap.size = w3.heap.size := by rw [size_setCell]
      go_wp2_with fail
      refine (take_any R n c _ T o _ 4 8 _ H3o.out (by omega) (by decide)).mono ?_
      rintro e w4 ⟨rfl, hr4, hg4⟩
      have hz4 := hg4.size
      go_wp2_with fail
      go_ret
      rw [HE.out]
      refine ⟨Ab, nb, cb, l', rfl, fun h => HL.out (takeR_code h), ?_, hr4, gr_gr GR3o.out hg4⟩
      exact (trI_gr (HTo.out) hg4 (by rw [size_setCell]; omega)).wide (by rw [size_setCell]; omega) (by omega)
  · have e0 : (s.code == 0) = false := by simp [h0]
    have HE := Lib.hid (bodyR_b (T := T) (inner := innerR T d) (s := s) (fun e => h0 e.2.1))
    have H0N := Lib.hid h0
    clear h0
    go_enter Tryd.func65, Tryd.ntmps65
    go_wp2_with fail
    have GR1 := Lib.hid (gr_refl w R)
    have H1 := Lib.hid H.out
    refine (take_any R n c _ T o _ 3 7 _ H1.out (by omega) (by decide)).mono ?_
    rintro e w2 ⟨rfl, hr2, hg2⟩
    have GR2 := Lib.hid (gr_gr GR1.out hg2)
    have H2 := Lib.hid hr2
    clear hg2 hr2
    obtain ⟨⟨a0, a1, ao, a2⟩, ⟨g1, g3, g2⟩, lR2⟩ := H2.out.cells
    have H2o := Lib.hid (H2.out.opn (o + 1))
    have GR2o := Lib.hid (gr_gr GR2.out (gr_set (W := w2) (R := R) (j := 2) (.int .i64 (o + 1))))
    clear k0 k1 ko k2 f1 f2 f3
    go_wp2_with fail
    refine (ih.out B R n c _ T (o + 1) (takeR T s 3 7).1 _ H2o.out (HV.out.grown GR2o.out (fun k hk => by injection hk with hk; omega)) hBR hn hT.out (fun h0 => ?_) (by have := KD.out; omega)).mono ?_
    · exact takeR_ne (by decide) (fun e => H0N.out e.1)
    rintro e w3 ⟨Ab, nb, cb, l', rfl, hl, htr, hr3, hg3⟩
    have GR3 := Lib.hid (gr_gr GR2o.out hg3)
    have hz2 := GR2.out.size
    have hz2o : (w2.setCell ⟨R, 2, none⟩ (.int .i64 (o + 1))).heap.size = w2.heap.size := by rw [size_setCell]
    have hz3 := hg3.size
    have HT := Lib.hid htr
    have HL := Lib.hid hl
    have H3 := Lib.hid hr3
    have lR3 := GR2.out.size
    clear hg3 hr3 htr hl
    clear a0 a1 ao a2 g1 g2 g3 lR2
    obtain ⟨⟨a0, a1, ao, a2⟩, ⟨g1, g3, g2⟩, lR4⟩ := H3.out.cells
    have H3o := Lib.hid (H3.out.opn o)
    have HTo := Lib.hid (trI_gr HT.out (gr_set (W := w3) (R := R) (j := 2) (.int .i64 o)) (by omega))
    have GR3o := Lib.hid (gr_gr GR3.out (gr_set (W := w3) (R := R) (j := 2) (.int .i64 o)))
    have hzo : (w3.setCell ⟨R, 2, none⟩ (.int .i64 o)).heap.size = w3.heap.size := by rw [size_setCell]
    go_wp2_with fail
    refine (take_any R n c _ T o _ 4 8 _ H3o.out (by omega) (by decide)).mono ?_
    rintro e w4 ⟨rfl, hr4, hg4⟩
    have hz4 := hg4.size
    go_wp2_with fail
    go_ret
    rw [HE.out]
    refine ⟨Ab, nb, cb, l', rfl, fun h => HL.out (takeR_code h), ?_, hr4, gr_gr GR3o.out hg4⟩
    exact (trI_gr (HTo.out) hg4 (by rw [size_setCell]; omega)).wide (by rw [size_setCell]; omega) (by omega)
end Go.Proofs.YthkbckkghnbonaaDoor
namespace Go.Proofs.YthkbckkghnbonaaDoor
open Go.RowKit
set_option linter.unusedVariables false

def KwF (word : ByteArray) (k : Int) : Prop := (word.toList == [114, 101, 112, 101, 97, 116]) = decide (k = 2) ∧ (word.toList == [97, 100, 106, 111, 105, 110, 116]) = decide (k = 3) ∧ (word.toList == [99, 111, 110, 116, 114, 111, 108]) = decide (k = 4) ∧ (word.toList == [97, 110, 99, 105, 108, 108, 97]) = decide (k = 5) ∧ (word.toList == [109, 101, 97, 115, 117, 114, 101]) = decide (k = 6) ∧ (word.toList == [105, 102]) = decide (k = 7)
theorem kw_facts (word : ByteArray) : KwF word (kindW word) := by
  unfold KwF kindW
  generalize word.toList = l
  by_cases h2 : l = [114, 101, 112, 101, 97, 116]
  · subst h2
    decide
  by_cases h3 : l = [97, 100, 106, 111, 105, 110, 116]
  · subst h3
    decide
  by_cases h4 : l = [99, 111, 110, 116, 114, 111, 108]
  · subst h4
    decide
  by_cases h5 : l = [97, 110, 99, 105, 108, 108, 97]
  · subst h5
    decide
  by_cases h6 : l = [109, 101, 97, 115, 117, 114, 101]
  · subst h6
    decide
  by_cases h7 : l = [105, 102]
  · subst h7
    decide
  simp [h2, h3, h4, h5, h6, h7]
theorem kw_val (word : ByteArray) : kindW word = 1 ∨ kindW word = 2 ∨ kindW word = 3 ∨ kindW word = 4 ∨ kindW word = 5 ∨ kindW word = 6 ∨ kindW word = 7 := by
  unfold kindW
  repeat' split
  all_goals simp
theorem kw_1 {word : ByteArray} (h : kindW word = 1) : (word.toList == [114, 101, 112, 101, 97, 116]) = false ∧ (word.toList == [97, 100, 106, 111, 105, 110, 116]) = false ∧ (word.toList == [99, 111, 110, 116, 114, 111, 108]) = false ∧ (word.toList == [97, 110, 99, 105, 108, 108, 97]) = false ∧ (word.toList == [109, 101, 97, 115, 117, 114, 101]) = false ∧ (word.toList == [105, 102]) = false := by
  have := kw_facts word
  rw [h] at this
  exact this
theorem kw_2 {word : ByteArray} (h : kindW word = 2) : (word.toList == [114, 101, 112, 101, 97, 116]) = true ∧ (word.toList == [97, 100, 106, 111, 105, 110, 116]) = false ∧ (word.toList == [99, 111, 110, 116, 114, 111, 108]) = false ∧ (word.toList == [97, 110, 99, 105, 108, 108, 97]) = false ∧ (word.toList == [109, 101, 97, 115, 117, 114, 101]) = false ∧ (word.toList == [105, 102]) = false := by
  have := kw_facts word
  rw [h] at this
  exact this
theorem kw_3 {word : ByteArray} (h : kindW word = 3) : (word.toList == [114, 101, 112, 101, 97, 116]) = false ∧ (word.toList == [97, 100, 106, 111, 105, 110, 116]) = true ∧ (word.toList == [99, 111, 110, 116, 114, 111, 108]) = false ∧ (word.toList == [97, 110, 99, 105, 108, 108, 97]) = false ∧ (word.toList == [109, 101, 97, 115, 117, 114, 101]) = false ∧ (word.toList == [105, 102]) = false := by
  have := kw_facts word
  rw [h] at this
  exact this
theorem kw_4 {word : ByteArray} (h : kindW word = 4) : (word.toList == [114, 101, 112, 101, 97, 116]) = false ∧ (word.toList == [97, 100, 106, 111, 105, 110, 116]) = false ∧ (word.toList == [99, 111, 110, 116, 114, 111, 108]) = true ∧ (word.toList == [97, 110, 99, 105, 108, 108, 97]) = false ∧ (word.toList == [109, 101, 97, 115, 117, 114, 101]) = false ∧ (word.toList == [105, 102]) = false := by
  have := kw_facts word
  rw [h] at this
  exact this
theorem kw_5 {word : ByteArray} (h : kindW word = 5) : (word.toList == [114, 101, 112, 101, 97, 116]) = false ∧ (word.toList == [97, 100, 106, 111, 105, 110, 116]) = false ∧ (word.toList == [99, 111, 110, 116, 114, 111, 108]) = false ∧ (word.toList == [97, 110, 99, 105, 108, 108, 97]) = true ∧ (word.toList == [109, 101, 97, 115, 117, 114, 101]) = false ∧ (word.toList == [105, 102]) = false := by
  have := kw_facts word
  rw [h] at this
  exact this
theorem kw_6 {word : ByteArray} (h : kindW word = 6) : (word.toList == [114, 101, 112, 101, 97, 116]) = false ∧ (word.toList == [97, 100, 106, 111, 105, 110, 116]) = false ∧ (word.toList == [99, 111, 110, 116, 114, 111, 108]) = false ∧ (word.toList == [97, 110, 99, 105, 108, 108, 97]) = false ∧ (word.toList == [109, 101, 97, 115, 117, 114, 101]) = true ∧ (word.toList == [105, 102]) = false := by
  have := kw_facts word
  rw [h] at this
  exact this
theorem kw_7 {word : ByteArray} (h : kindW word = 7) : (word.toList == [114, 101, 112, 101, 97, 116]) = false ∧ (word.toList == [97, 100, 106, 111, 105, 110, 116]) = false ∧ (word.toList == [99, 111, 110, 116, 114, 111, 108]) = false ∧ (word.toList == [97, 110, 99, 105, 108, 108, 97]) = false ∧ (word.toList == [109, 101, 97, 115, 117, 114, 101]) = false ∧ (word.toList == [105, 102]) = true := by
  have := kw_facts word
  rw [h] at this
  exact this
theorem beg_2 {word : ByteArray} (h : kindW word = 2) : begW word = true := by unfold begW; rw [h]; rfl
theorem beg_3 {word : ByteArray} (h : kindW word = 3) : begW word = true := by unfold begW; rw [h]; rfl
theorem beg_4 {word : ByteArray} (h : kindW word = 4) : begW word = true := by unfold begW; rw [h]; rfl
theorem beg_5 {word : ByteArray} (h : kindW word = 5) : begW word = true := by unfold begW; rw [h]; rfl
theorem beg_6 {word : ByteArray} (h : kindW word = 6) : begW word = true := by unfold begW; rw [h]; rfl
theorem beg_7 {word : ByteArray} (h : kindW word = 7) : begW word = true := by unfold begW; rw [h]; rfl
theorem beg_1 {word : ByteArray} (h : kindW word = 1) : begW word = !(gkind word == 0) := by
  unfold begW
  rw [h]
  cases e : decide (gkind word ≠ 0)
  · have e2 : gkind word = 0 := by simpa using e
    simp [e2]
  · have e2 : gkind word ≠ 0 := by simpa using e
    simp [e2]
set_option maxRecDepth 100000 in
set_option maxHeartbeats 1000000 in
theorem begins_any (word : ByteArray) (w : World) (hG : GN w) : Calls Tryd.prog 41 #[.string word] w fun e w' => e = .returned (.bool (begW word)) ∧ w = w' := by
  have HGN := Lib.hid hG
  clear hG
  rcases kw_val word with h | h | h | h | h | h | h
  · have HB := Lib.hid (beg_1 h)
    obtain ⟨q2, q3, q4, q5, q6, q7⟩ := kw_1 h
    clear h
    go_enter Tryd.func41, Tryd.ntmps41
    go_wp2_with (go_at_call 63; refine (GateKind_impl word _ HGN.out).mono ?_; rintro e w' ⟨rfl, rfl⟩)
    go_ret
    exact ⟨by rw [HB.out]; cases gkind word <;> rfl, rfl⟩
  · have HB := Lib.hid (beg_2 h)
    obtain ⟨q2, q3, q4, q5, q6, q7⟩ := kw_2 h
    clear h
    go_enter Tryd.func41, Tryd.ntmps41
    go_wp2_with fail
    go_ret
    exact ⟨by rw [HB.out]; rfl, rfl⟩
  · have HB := Lib.hid (beg_3 h)
    obtain ⟨q2, q3, q4, q5, q6, q7⟩ := kw_3 h
    clear h
    go_enter Tryd.func41, Tryd.ntmps41
    go_wp2_with fail
    go_ret
    exact ⟨by rw [HB.out]; rfl, rfl⟩
  · have HB := Lib.hid (beg_4 h)
    obtain ⟨q2, q3, q4, q5, q6, q7⟩ := kw_4 h
    clear h
    go_enter Tryd.func41, Tryd.ntmps41
    go_wp2_with fail
    go_ret
    exact ⟨by rw [HB.out]; rfl, rfl⟩
  · have HB := Lib.hid (beg_5 h)
    obtain ⟨q2, q3, q4, q5, q6, q7⟩ := kw_5 h
    clear h
    go_enter Tryd.func41, Tryd.ntmps41
    go_wp2_with fail
    go_ret
    exact ⟨by rw [HB.out]; rfl, rfl⟩
  · have HB := Lib.hid (beg_6 h)
    obtain ⟨q2, q3, q4, q5, q6, q7⟩ := kw_6 h
    clear h
    go_enter Tryd.func41, Tryd.ntmps41
    go_wp2_with fail
    go_ret
    exact ⟨by rw [HB.out]; rfl, rfl⟩
  · have HB := Lib.hid (beg_7 h)
    obtain ⟨q2, q3, q4, q5, q6, q7⟩ := kw_7 h
    clear h
    go_enter Tryd.func41, Tryd.ntmps41
    go_wp2_with fail
    go_ret
    exact ⟨by rw [HB.out]; rfl, rfl⟩
end Go.Proofs.YthkbckkghnbonaaDoor
namespace Go.Proofs.YthkbckkghnbonaaDoor
open Go.RowKit
set_option linter.unusedVariables false
def okCount (k count : Int) : Bool := if k = 2 then inB count 1 9 else decide (count = 0)
def headV (k : Int) (word : ByteArray) (na : Nat) (count : Int) (bl : Nat) : Bool :=
  inB k 1 7 && (decide (na = nargs k word) && (decide (k ≠ 1 ∨ nargs k word ≠ 0) && (decide (k = 1 ∨ word.toList = []) && (decide (hasB k = true ∨ bl = 0) && okCount k count))))
theorem gkind_empty {word : ByteArray} (h : word.toList = []) : gkind word = 0 := by
  unfold gkind
  rw [h]
  decide
def vRes (k : Int) (word : ByteArray) (args : List ByteArray) (count : Int) (nb : Nat) (rs : List Bool) : Bool := headV k word args.length count nb && (args.all wordOk && rs.all id)
section
variable {k : Int} {word : ByteArray} {args : List ByteArray} {count : Int} {nb : Nat} {rs : List Bool}
theorem vRes_h (h : headV k word args.length count nb = false) : vRes k word args count nb rs = false := by simp [vRes, h]
theorem vRes_w {t : Nat} {s : ByteArray} (hs : args[t]? = some s) (h : wordOk s = false) : vRes k word args count nb rs = false := by
  have : args.all wordOk = false := by
    rw [List.all_eq_false]
    exact ⟨s, List.mem_of_getElem? hs, by simp [h]⟩
  simp [vRes, this]
theorem vRes_b {t : Nat} (hs : rs[t]? = some false) : vRes k word args count nb rs = false := by
  have : rs.all id = false := by
    rw [List.all_eq_false]
    exact ⟨false, List.mem_of_getElem? hs, by simp⟩
  simp [vRes, this]
theorem vRes_t (h1 : headV k word args.length count nb = true) (h2 : args.all wordOk = true) (h3 : rs.all id = true) : vRes k word args count nb rs = true := by rw [vRes, h1, h2, h3]; rfl
end
theorem all_take {α : Type} (p : α → Bool) {l : List α} {t : Nat} {x : α} (h : l[t]? = some x) : (l.take (t + 1)).all p = ((l.take t).all p && p x) := by
  rw [List.take_add_one, h]
  simp
/-- The statements of a body, and what is answered of each. -/
def Elts (f : Nat) (w : World) (Ab : Option Addr) (nb : Nat) (rs : List Bool) : Prop := ∀ t, t < nb → ∃ (b off : Nat) (k : Int) (wd : ByteArray) (Aa : Option Addr) (na ca : Nat) (ct : Int) (Ab' : Option Addr) (nb' cb' : Nat) (r : Bool),
  Ab = some ⟨b, off, none⟩ ∧ b < w.heap.size ∧ (w.cell? ⟨b, off + t * 5, none⟩ = some (.int .i64 k) ∧ w.cell? ⟨b, off + t * 5 + 1, none⟩ = some (.string wd) ∧ w.cell? ⟨b, off + t * 5 + 2, none⟩ = some (.slice Aa na ca) ∧ w.cell? ⟨b, off + t * 5 + 3, none⟩ = some (.int .i64 ct) ∧ w.cell? ⟨b, off + t * 5 + 4, none⟩ = some (.slice Ab' nb' cb')) ∧
  rs[t]? = some r ∧ ∀ w', Below w.heap.size w w' → Calls Tryd.prog f #[.agg #[.int .i64 k, .string wd, .slice Aa na ca, .int .i64 ct, .slice Ab' nb' cb']] w' fun e w'' => e = .returned (.bool r) ∧ Below w'.heap.size w' w'' ∧ w'.heap.size ≤ w''.heap.size
def vOne (d : Nat) (vt : List (Tr d) → Bool) (h : SH) (bd : List (Tr d)) : Bool := headV h.k h.word h.args.length h.count bd.length && (h.args.all wordOk && vt bd)
/-- Are all statements of a list valid? -/
def validT : (d : Nat) → List (Tr d) → Bool
  | 0, _ => true
  | d + 1, l => l.all fun s => vOne d (validT d) (hdT s) (bdT s)
theorem vRes_one {d : Nat} {k : Int} {word : ByteArray} {args : List ByteArray} {count : Int} {bd : List (Tr d)} {rs : List Bool} (h : rs.all id = validT d bd) : vRes k word args count bd.length rs = vOne d (validT d) ⟨k, word, args, count⟩ bd := by
  simp only [vRes, vOne, h]
theorem rs_valid {d : Nat} (l : List (Tr (d + 1))) : (l.map fun s => vOne d (validT d) (hdT s) (bdT s)).all id = validT (d + 1) l := by simp [validT, List.all_map]
end Go.Proofs.YthkbckkghnbonaaDoor
namespace Go.Proofs.YthkbckkghnbonaaDoor
open Go.RowKit
set_option linter.unusedVariables false
def heads : List ByteArray := [⟨#[]⟩, ⟨#[]⟩, ⟨#[114, 101, 112, 101, 97, 116]⟩, ⟨#[97, 100, 106, 111, 105, 110, 116]⟩, ⟨#[99, 111, 110, 116, 114, 111, 108]⟩, ⟨#[97, 110, 99, 105, 108, 108, 97]⟩, ⟨#[109, 101, 97, 115, 117, 114, 101]⟩, ⟨#[105, 102]⟩]
def headW (k : Int) (word : ByteArray) : ByteArray := if k = 1 then word else heads.getD k.toNat ⟨#[]⟩
/-- The tokens of one statement, those of its body given. -/
def toks1 (h : SH) (body : List Tk) : List Tk :=
  [wTk (headW h.k h.word)] ++ (if h.k = 2 then [wTk (dig h.count)] else []) ++ h.args.map wTk ++ (if h.k = 1 ∨ h.k = 6 then [pTk 2] else [pTk 3] ++ body ++ [pTk 4])
/-- The tokens of a list of statements. -/
def toksT : (d : Nat) → List (Tr d) → List Tk
  | 0, _ => []
  | d + 1, l => l.flatMap fun s => toks1 (hdT s) (toksT d (bdT s))
set_option maxRecDepth 100000 in
theorem word_any (s : ByteArray) (w : World) : Calls Tryd.prog 75 #[.string s] w fun e w' => e = .returned (.agg #[.int .i64 1, .string s]) ∧ Below w.heap.size w w' ∧ w.heap.size ≤ w'.heap.size := by
  go_enter Tryd.func75, Tryd.ntmps75
  go_wp2
  exact bodyPost_ret (v := .agg #[.int .i64 1, .string s]) (by simp [results, Tryd.results75, go_sem]) rfl ⟨rfl, (by repeat (first | exact Below.refl _ _ | assumption | (refine Below.trans ?_ (Below.mono (by assumption) (by first | omega | (simp; done) | (simp; omega)))) | (with_reducible refine Below.drew ?_) | (with_reducible refine Below.alloc ?_ (by first | omega | (simp; done) | (simp; omega)) _) | (with_reducible refine Below.setCell ?_ (by first | omega | (simp; done) | (simp; omega)) _))), (by first | omega | (simp; done) | (simp; omega))⟩
set_option maxRecDepth 100000 in
theorem l19Word_any (s : ByteArray) (w : World) : Calls Tryd.prog 70 #[.string s] w fun e w' => e = .returned (.agg #[.int .i64 1, .string s]) ∧ Below w.heap.size w w' ∧ w.heap.size ≤ w'.heap.size := by
  go_enter Tryd.func70, Tryd.ntmps70
  go_wp2
  exact bodyPost_ret (v := .agg #[.int .i64 1, .string s]) (by simp [results, Tryd.results70, go_sem]) rfl ⟨rfl, (by repeat (first | exact Below.refl _ _ | assumption | (refine Below.trans ?_ (Below.mono (by assumption) (by first | omega | (simp; done) | (simp; omega)))) | (with_reducible refine Below.drew ?_) | (with_reducible refine Below.alloc ?_ (by first | omega | (simp; done) | (simp; omega)) _) | (with_reducible refine Below.setCell ?_ (by first | omega | (simp; done) | (simp; omega)) _))), (by first | omega | (simp; done) | (simp; omega))⟩
end Go.Proofs.YthkbckkghnbonaaDoor
namespace Go.Proofs.YthkbckkghnbonaaDoor
open Go.RowKit
set_option linter.unusedVariables false
section
variable {T pre post : List Tk}
end
theorem stmtR_word {T : List Tk} {e : Nat} {inner : Rs → Rs × List (Tr e)} {i : Nat} {word : ByteArray} (h : textT T i = word) :
    (kindW word = 2 → stmtR T inner ⟨i, 0⟩ = ((bodyR T inner (numR T ⟨i + 1, 0⟩).1).1, mkT ⟨2, ⟨#[]⟩, [], (numR T ⟨i + 1, 0⟩).2⟩ (bodyR T inner (numR T ⟨i + 1, 0⟩).1).2)) ∧
    (kindW word = 3 → stmtR T inner ⟨i, 0⟩ = ((bodyR T inner ⟨i + 1, 0⟩).1, mkT ⟨3, ⟨#[]⟩, [], 0⟩ (bodyR T inner ⟨i + 1, 0⟩).2)) ∧
    (kindW word = 6 → stmtR T inner ⟨i, 0⟩ = ((takeR T (namesR T 2 ⟨i + 1, 0⟩).1 2 4).1, mkT ⟨6, ⟨#[]⟩, (namesR T 2 ⟨i + 1, 0⟩).2, 0⟩ [])) ∧
    (kindW word = 1 → stmtR T inner ⟨i, 0⟩ = ((takeR T (namesR T (ar (gkind word)) ⟨i + 1, 0⟩).1 2 4).1, mkT ⟨1, word, (namesR T (ar (gkind word)) ⟨i + 1, 0⟩).2, 0⟩ [])) ∧
    (∀ k : Int, (k = 4 ∨ k = 5 ∨ k = 7) → kindW word = k → stmtR T inner ⟨i, 0⟩ = ((bodyR T inner (namesR T 1 ⟨i + 1, 0⟩).1).1, mkT ⟨k, ⟨#[]⟩, (namesR T 1 ⟨i + 1, 0⟩).2, 0⟩ (bodyR T inner (namesR T 1 ⟨i + 1, 0⟩).1).2)) := by
  subst h
  refine ⟨fun hk => ?_, fun hk => ?_, fun hk => ?_, fun hk => ?_, fun k hk4 hk => ?_⟩
  · unfold stmtR; simp only []; rw [if_pos hk]
  · unfold stmtR; simp only []; rw [if_neg (by rw [hk]; decide), if_pos hk]
  · unfold stmtR; simp only []; rw [if_neg (by rw [hk]; decide), if_neg (by rw [hk]; decide), if_pos hk]
  · unfold stmtR; simp only []; rw [if_neg (by rw [hk]; decide), if_neg (by rw [hk]; decide), if_neg (by rw [hk]; decide), if_pos hk]
  · unfold stmtR; simp only []; rw [hk, if_neg (by omega), if_neg (by omega), if_neg (by omega), if_neg (by omega)]
end Go.Proofs.YthkbckkghnbonaaDoor
namespace Go.Proofs.YthkbckkghnbonaaDoor
open Go.RowKit
set_option linter.unusedVariables false
theorem heap_gr {w w' : World} {R X : Nat} {ob : Obj} (h : w.heap[X]? = some ob) (hg : w.grownBy w' (some R)) (hne : X ≠ R) : w'.heap[X]? = some ob := (hg.block X (lt_of_block h) (fun e => by injection e with e; exact hne e)).trans h
theorem stI_gr {w w' : World} {d R m1 m2 : Nat} {cs : List Value} {s : Tr (d + 1)} (h : StI w d m1 m2 cs s) (hg : w.grownBy w' (some R)) (hR : R < m1) : StI w' d m1 m2 cs s :=
  h.keep hg.size (fun b h1 _ h3 => hg.block b h3 (fun e => by injection e with e; omega))
theorem gr_set5 (w : World) (X : Nat) (v0 v1 v2 v3 v4 : Value) : w.grownBy (((((w.setCell ⟨X, 0, none⟩ v0).setCell ⟨X, 1, none⟩ v1).setCell ⟨X, 2, none⟩ v2).setCell ⟨X, 3, none⟩ v3).setCell ⟨X, 4, none⟩ v4) (some X) :=
  gr_gr (gr_gr (gr_gr (gr_gr (gr_set v0) (gr_set v1)) (gr_set v2)) (gr_set v3)) (gr_set v4)
/-- A block of the call's own may turn. -/
theorem gr_own2 {w w1 w2 : World} {R X : Nat} (h : w.grownBy w1 (some R)) (k : w1.grownBy w2 (some X)) (hX : w.heap.size ≤ X) : w.grownBy w2 (some R) := h.andThen k (fun j hj => .inl (by injection hj with hj; omega))
theorem stI_wide {w : World} {d m1 m2 m1' m2' : Nat} {cs : List Value} {s : Tr (d + 1)} (h : StI w d m1 m2 cs s) (h1 : m1' ≤ m1) (h2 : m2 ≤ m2') : StI w d m1' m2' cs s := by
  obtain ⟨Aa, ca, Ab, nb, cb, c, k1, ⟨k2, k3⟩, k4, k5, k6⟩ := h
  exact ⟨Aa, ca, Ab, nb, cb, c, k1, ⟨by omega, by omega⟩, k4.wide h1 (Nat.le_refl _), k5.wide (Nat.le_refl _) h2, k6⟩
theorem RdI.far {R n c X : Nat} {A : Option Addr} {T : List Tk} {o : Int} {s : Rs} {w w' : World} (h : RdI R A n c T o s w) (hg : w.grownBy w' (some X)) (hX : R < X) : RdI R A n c T o s w' := h.own hg (fun k hk => by injection hk with hk; omega)
def RsI (R : Nat) (A : Option Addr) (n c : Nat) (T : List Tk) (o : Int) (d : Nat) (s : Rs) (st : Tr (d + 1)) (w : World) (e : Ending) (w' : World) : Prop :=
  ∃ x0 x1 x2 x3 x4 st', e = .returned (.agg #[x0, x1, x2, x3, x4]) ∧ (s.code = 0 → st' = st) ∧ StI w' d w.heap.size w'.heap.size [x0, x1, x2, x3, x4] st' ∧ RdI R A n c T o s w' ∧ w.grownBy w' (some R)
def StmtI (d : Nat) : Prop := ∀ (B R n c : Nat) (A : Option Addr) (T : List Tk) (o : Int) (i : Nat) (w : World), RdI R A n c T o ⟨i, 0⟩ w → LVb B w → B ≤ R → n ≤ 160 → (∀ t ∈ T, wellTk t) → i < n → begW (textT T i) = true → o = 4 - d →
  Calls Tryd.prog 42 #[.pointer (some ⟨R, 0, none⟩), .string (textT T i)] w (RsI R A n c T o d (stmtR T (innerR T d) ⟨i, 0⟩).1 (stmtR T (innerR T d) ⟨i, 0⟩).2 w)
set_option maxRecDepth 100000 in
set_option maxHeartbeats 2000000 in
theorem statement_of (d : Nat) (hd : d ≤ 4) (hb0 : BodyI d) : StmtI d := by
  intro B R n c A T o i w h hv hBR hn hT0 hi0 hbg hk
  obtain ⟨⟨k0, k1, ko, k2⟩, ⟨f1, f3, f2⟩, lR⟩ := h.cells
  have IB := Lib.hid hb0
  have hT := Lib.hid hT0
  have KD := Lib.hid hk
  have hiT : i + 1 ≤ T.length := by have := h.l; omega
  have WD := Lib.hid (stmtR_word (T := T) (inner := innerR T d) (i := i) rfl)
  obtain ⟨word, hw⟩ : ∃ word, word = textT T i := ⟨_, rfl⟩
  rw [← hw] at WD hbg ⊢
  have HW := Lib.hid hw
  obtain ⟨w0, hw0⟩ : ∃ w0, w0 = (w.setCell ⟨R, 1, none⟩ (.int .i64 ((i : Int) + 1))).alloc (.cells #[.int .i64 0, .string ⟨#[]⟩, .slice none 0 0, .int .i64 0, .slice none 0 0] 61) := ⟨_, rfl⟩
  have GR0 : w.grownBy w0 (some R) := by rw [hw0]; exact gr_below (gr_set _) ((Below.refl _ _).alloc (Nat.le_refl _) _)
  have H0 : RdI R A n c T o ⟨i + 1, 0⟩ w0 := by rw [hw0]; exact (h.atv (i := i + 1) (v := (i : Int) + 1) hiT (by simp)).below ((Below.refl _ _).alloc (Nat.le_refl _) _)
  have X0 : w0.heap[w.heap.size]? = some (.cells #[.int .i64 0, .string ⟨#[]⟩, .slice none 0 0, .int .i64 0, .slice none 0 0] 61 (0, 0)) := by rw [hw0]; exact heap_topG (by rw [size_setCell])
  have hz0 : w.heap.size < w0.heap.size := by rw [hw0]; simp
  have V0 := Lib.hid (hv.grown GR0 (fun k hk => by injection hk with hk; omega))
  have HW0 := Lib.hid hw0
  have GR0 := Lib.hid GR0
  have H0 := Lib.hid H0
  have X0 := Lib.hid X0
  obtain ⟨X, hX⟩ : ∃ X, X = w.heap.size := ⟨_, rfl⟩
  have HX := Lib.hid hX
  rw [← hX] at X0 hz0
  have hRX : R < X := by omega
  simp only [] at k1 k2
  clear h hv hb0 hT0 hk hw hw0 hX
  rcases kw_val word with hk | hk | hk | hk | hk | hk | hk
  · obtain ⟨q2, q3, q4, q5, q6, q7⟩ := kw_1 hk
    have HE := Lib.hid (WD.out.2.2.2.1 hk)
    have har := ar_le (gkind word)
    clear hk hbg
    go_enter Tryd.func42, Tryd.ntmps42
    go_wp2_with (first | (go_at_call 63; rw [← HW0.out, ← HX.out]; refine (GateKind_impl word _ V0.out.gn').mono ?_; rintro e w' ⟨rfl, rfl⟩) | (go_at_call 66; refine (Arity_impl _ _).mono ?_; rintro e w' ⟨rfl, rfl⟩))
    obtain ⟨m, hm⟩ : ∃ m, m = ar (gkind word) := ⟨_, rfl⟩
    rw [← hm] at HE har ⊢
    clear hm
    refine (names_any R n c _ T o ⟨i + 1, 0⟩ m w0 H0.out (by omega) (by omega)).mono ?_
    rintro e w1 ⟨A1, c1, rfl, ho, hr, hg⟩
    have hql := namesR_len (T := T) m ⟨i + 1, 0⟩
    obtain ⟨Q, hQ⟩ : ∃ Q, Q = (namesR T m ⟨i + 1, 0⟩).2 := ⟨_, rfl⟩
    obtain ⟨s1, hs1⟩ : ∃ s1, s1 = (namesR T m ⟨i + 1, 0⟩).1 := ⟨_, rfl⟩
    rw [← hQ] at HE ho hql ⊢
    rw [← hs1] at HE hr
    have HQL := Lib.hid hql
    have SL := Lib.hid (slI_of_own ho)
    have hc1 : Q.length ≤ c1 := by
      obtain ⟨A9, c9, e9, h9, _⟩ := rd_of_own ho
      injection e9 with _ _ e9
      omega
    have GR1 := Lib.hid (gr_gr GR0.out hg)
    have X1 := Lib.hid (heap_gr X0.out hg (by omega))
    have V1 := Lib.hid (V0.out.grown hg (fun k hk => by injection hk with hk; omega))
    have H1 := Lib.hid hr
    have hz1 := hg.size
    clear hg hr ho hQ hs1 hql
    go_wp2_with fail
    obtain ⟨wy, hwy⟩ : ∃ wy, wy = w1.alloc (.cells #[.int .i64 1, .string word, .slice A1 Q.length c1, .int .i64 0, .slice none 0 0] 61) := ⟨_, rfl⟩
    rw [← hwy]
    have by1 : Below w1.heap.size w1 wy := by rw [hwy]; exact (Below.refl _ _).alloc (Nat.le_refl _) _
    have Y1 : wy.heap[w1.heap.size]? = some (.cells #[.int .i64 1, .string word, .slice A1 Q.length c1, .int .i64 0, .slice none 0 0] 61 (0, 0)) := by rw [hwy]; exact heap_topG rfl
    have GRy := Lib.hid (gr_below GR1.out by1)
    have Hy := Lib.hid (H1.out.below by1)
    have Xy := Lib.hid ((by1.block X (lt_of_block X1.out)).trans X1.out)
    have SLy := Lib.hid (SL.out.keep (fun b _ _ h => by1.block b h) by1.size)
    have Y1 := Lib.hid Y1
    have Vy := Lib.hid (V1.out.below (by1.mono V1.out.le))
    have hzy := by1.size
    clear hwy by1
    refine (take_any R n c _ T o s1 2 4 wy Hy.out (by omega) (by decide)).mono ?_
    rintro e w2 ⟨rfl, hr, hg⟩
    have GR2 := Lib.hid (gr_gr GRy.out hg)
    have X2 := Lib.hid (heap_gr Xy.out hg (by omega))
    have V2 := Lib.hid (Vy.out.grown hg (fun k hk => by injection hk with hk; omega))
    have H2 := Lib.hid hr
    have hz2 := hg.size
    have Y2 := Lib.hid (heap_gr Y1.out hg (by omega))
    have GRy2 := Lib.hid hg
    clear hg hr
    obtain ⟨y0, y1, y2, y3, y4⟩ := cells5G (lay := Below.refl _ _) Y2.out
    have SQ := Lib.hid (stI_mk (d := d) (h := ⟨1, word, Q, 0⟩) (Aa := A1) (ca := c1) (Ab := none) (cb := 0) (n := Q.length) (m2 := w2.heap.size) rfl hz1 (by omega) (slI_gr SLy.out GRy2.out (by omega)) trI_nil hc1)
    obtain ⟨p0, p1, p2, p3, p4⟩ := cells5G (lay := Below.refl _ _) X2.out
    have g0 := free_at (j := 0) X2.out
    have g1 := free_at (j := 1) X2.out
    have g2 := free_at (j := 2) X2.out
    have g3 := free_at (j := 3) X2.out
    have g4 := free_at (j := 4) X2.out
    have lX := lt_of_block X2.out
    go_wp2_with fail
    obtain ⟨w9, hw9⟩ : ∃ w9, w9 = ((((w2.setCell ⟨X, 0, none⟩ (.int .i64 1)).setCell ⟨X, 1, none⟩ (.string word)).setCell ⟨X, 2, none⟩ ((.slice A1 Q.length c1))).setCell ⟨X, 3, none⟩ (.int .i64 0)).setCell ⟨X, 4, none⟩ (.slice none 0 0) := ⟨_, rfl⟩
    have X9 : w9.heap[X]? = some (.cells #[.int .i64 1, .string word, (.slice A1 Q.length c1), .int .i64 0, .slice none 0 0] 61 (0, 0)) := by rw [hw9]; exact heap_set5 X2.out
    have G9 : w2.grownBy w9 (some X) := by rw [hw9]; exact gr_set5 _ _ _ _ _ _ _
    obtain ⟨r0, r1, r2, r3, r4⟩ := cells5G (lay := Below.refl _ _) X9
    have hz9 := G9.size
    rw [← hw9]
    exact bodyPost_ret (v := .agg #[.int .i64 1, .string word, (.slice A1 Q.length c1), .int .i64 0, .slice none 0 0]) (by simp [results, Tryd.results42, go_sem, r0, r1, r2, r3, r4]) rfl ⟨_, _, _, _, _, mkT ⟨1, word, Q, 0⟩ [], rfl, by rw [HE.out]; exact fun _ => rfl, stI_wide (stI_gr SQ.out G9 (by omega)) (by have := HX.out; omega) (by omega), by rw [HE.out]; exact H2.out.far G9 (by omega), gr_own2 GR2.out G9 (by have := HX.out; omega)⟩
  · obtain ⟨q2, q3, q4, q5, q6, q7⟩ := kw_2 hk
    have HE := Lib.hid (WD.out.1 hk)
    clear hk hbg
    go_enter Tryd.func42, Tryd.ntmps42
    go_wp2_with fail
    rw [← HW0.out, ← HX.out]
    refine (number_any B R n c _ T o ⟨i + 1, 0⟩ w0 H0.out V0.out hBR (by omega) hT.out).mono ?_
    rintro e w1 ⟨rfl, hr, hg⟩
    have GR1 := Lib.hid (gr_gr GR0.out hg)
    have X1 := Lib.hid (heap_gr X0.out hg (by omega))
    have V1 := Lib.hid (V0.out.grown hg (fun k hk => by injection hk with hk; omega))
    have H1 := Lib.hid hr
    have hz1 := hg.size

    clear hg hr
    obtain ⟨x, hx⟩ : ∃ x, x = (numR T ⟨i + 1, 0⟩).2 := ⟨_, rfl⟩
    rw [← hx] at HE ⊢
    clear hx
    go_wp2_with fail
    refine (IB.out B R n c _ T o (numR T ⟨i + 1, 0⟩).1 w1 H1.out V1.out hBR hn hT.out KD.out).mono ?_
    rintro e w2 ⟨Ab, nb, cb, l', rfl, hl, htr, hr, hg⟩
    have GR2 := Lib.hid (gr_gr GR1.out hg)
    have X2 := Lib.hid (heap_gr X1.out hg (by omega))
    have V2 := Lib.hid (V1.out.grown hg (fun k hk => by injection hk with hk; omega))
    have H2 := Lib.hid hr
    have hz2 := hg.size
    have HL := Lib.hid hl
    have TR := Lib.hid htr
    have GR12 := Lib.hid hg
    clear hl htr
    clear hg hr
    have SQ := Lib.hid (stI_mk (h := ⟨2, ⟨#[]⟩, [], x⟩) (Aa := none) (ca := 0) (cb := cb) (n := 0) rfl (Nat.le_refl w1.heap.size) hz2 slI_none TR.out (Nat.le_refl _))
    obtain ⟨p0, p1, p2, p3, p4⟩ := cells5G (lay := Below.refl _ _) X2.out
    have g0 := free_at (j := 0) X2.out
    have g1 := free_at (j := 1) X2.out
    have g2 := free_at (j := 2) X2.out
    have g3 := free_at (j := 3) X2.out
    have g4 := free_at (j := 4) X2.out
    have lX := lt_of_block X2.out
    go_wp2_with fail
    obtain ⟨w9, hw9⟩ : ∃ w9, w9 = ((((w2.setCell ⟨X, 0, none⟩ (.int .i64 2)).setCell ⟨X, 1, none⟩ (.string ⟨#[]⟩)).setCell ⟨X, 2, none⟩ (.slice none 0 0)).setCell ⟨X, 3, none⟩ (.int .i64 x)).setCell ⟨X, 4, none⟩ (.slice Ab nb cb) := ⟨_, rfl⟩
    have X9 : w9.heap[X]? = some (.cells #[.int .i64 2, .string ⟨#[]⟩, .slice none 0 0, .int .i64 x, .slice Ab nb cb] 61 (0, 0)) := by rw [hw9]; exact heap_set5 X2.out
    have G9 : w2.grownBy w9 (some X) := by rw [hw9]; exact gr_set5 _ _ _ _ _ _ _
    obtain ⟨r0, r1, r2, r3, r4⟩ := cells5G (lay := Below.refl _ _) X9
    have hz9 := G9.size
    rw [← hw9]
    exact bodyPost_ret (v := .agg #[.int .i64 2, .string ⟨#[]⟩, .slice none 0 0, .int .i64 x, .slice Ab nb cb]) (by simp [results, Tryd.results42, go_sem, r0, r1, r2, r3, r4]) rfl ⟨_, _, _, _, _, mkT ⟨2, ⟨#[]⟩, [], x⟩ l', rfl, by rw [HE.out]; exact fun h => by rw [HL.out h], stI_wide (stI_gr SQ.out G9 (by omega)) (by have := HX.out; omega) (by omega), by rw [HE.out]; exact H2.out.far G9 (by omega), gr_own2 GR2.out G9 (by have := HX.out; omega)⟩
  · obtain ⟨q2, q3, q4, q5, q6, q7⟩ := kw_3 hk
    have HE := Lib.hid (WD.out.2.1 hk)
    clear hk hbg
    go_enter Tryd.func42, Tryd.ntmps42
    go_wp2_with fail
    rw [← HW0.out, ← HX.out]
    refine (IB.out B R n c _ T o ⟨i + 1, 0⟩ w0 H0.out V0.out hBR hn hT.out KD.out).mono ?_
    rintro e w1 ⟨Ab, nb, cb, l', rfl, hl, htr, hr, hg⟩
    have GR1 := Lib.hid (gr_gr GR0.out hg)
    have X1 := Lib.hid (heap_gr X0.out hg (by omega))
    have V1 := Lib.hid (V0.out.grown hg (fun k hk => by injection hk with hk; omega))
    have H1 := Lib.hid hr
    have hz1 := hg.size
    have HL := Lib.hid hl
    have TR := Lib.hid htr
    have GR12 := Lib.hid hg
    clear hl htr
    clear hg hr
    have SQ := Lib.hid (stI_mk (h := ⟨3, ⟨#[]⟩, [], 0⟩) (Aa := none) (ca := 0) (cb := cb) (n := 0) rfl (Nat.le_refl w0.heap.size) hz1 slI_none TR.out (Nat.le_refl _))
    obtain ⟨p0, p1, p2, p3, p4⟩ := cells5G (lay := Below.refl _ _) X1.out
    have g0 := free_at (j := 0) X1.out
    have g1 := free_at (j := 1) X1.out
    have g2 := free_at (j := 2) X1.out
    have g3 := free_at (j := 3) X1.out
    have g4 := free_at (j := 4) X1.out
    have lX := lt_of_block X1.out
    go_wp2_with fail
    obtain ⟨w9, hw9⟩ : ∃ w9, w9 = ((((w1.setCell ⟨X, 0, none⟩ (.int .i64 3)).setCell ⟨X, 1, none⟩ (.string ⟨#[]⟩)).setCell ⟨X, 2, none⟩ (.slice none 0 0)).setCell ⟨X, 3, none⟩ (.int .i64 0)).setCell ⟨X, 4, none⟩ (.slice Ab nb cb) := ⟨_, rfl⟩
    have X9 : w9.heap[X]? = some (.cells #[.int .i64 3, .string ⟨#[]⟩, .slice none 0 0, .int .i64 0, .slice Ab nb cb] 61 (0, 0)) := by rw [hw9]; exact heap_set5 X1.out
    have G9 : w1.grownBy w9 (some X) := by rw [hw9]; exact gr_set5 _ _ _ _ _ _ _
    obtain ⟨r0, r1, r2, r3, r4⟩ := cells5G (lay := Below.refl _ _) X9
    have hz9 := G9.size
    rw [← hw9]
    exact bodyPost_ret (v := .agg #[.int .i64 3, .string ⟨#[]⟩, .slice none 0 0, .int .i64 0, .slice Ab nb cb]) (by simp [results, Tryd.results42, go_sem, r0, r1, r2, r3, r4]) rfl ⟨_, _, _, _, _, mkT ⟨3, ⟨#[]⟩, [], 0⟩ l', rfl, by rw [HE.out]; exact fun h => by rw [HL.out h], stI_wide (stI_gr SQ.out G9 (by omega)) (by have := HX.out; omega) (by omega), by rw [HE.out]; exact H1.out.far G9 (by omega), gr_own2 GR1.out G9 (by have := HX.out; omega)⟩
  · obtain ⟨q2, q3, q4, q5, q6, q7⟩ := kw_4 hk
    have HE := Lib.hid (WD.out.2.2.2.2 4 (by decide) hk)
    clear hk hbg
    go_enter Tryd.func42, Tryd.ntmps42
    go_wp2_with fail
    rw [← HW0.out, ← HX.out]
    refine (names_any R n c _ T o ⟨i + 1, 0⟩ 1 w0 H0.out (by omega) (by omega)).mono ?_
    rintro e w1 ⟨A1, c1, rfl, ho, hr, hg⟩
    have hql := namesR_len (T := T) 1 ⟨i + 1, 0⟩
    obtain ⟨Q, hQ⟩ : ∃ Q, Q = (namesR T 1 ⟨i + 1, 0⟩).2 := ⟨_, rfl⟩
    obtain ⟨s1, hs1⟩ : ∃ s1, s1 = (namesR T 1 ⟨i + 1, 0⟩).1 := ⟨_, rfl⟩
    rw [← hQ] at HE ho hql ⊢
    rw [← hs1] at HE hr
    have HQL := Lib.hid hql
    have SL := Lib.hid (slI_of_own ho)
    have hc1 : Q.length ≤ c1 := by
      obtain ⟨A9, c9, e9, h9, _⟩ := rd_of_own ho
      injection e9 with _ _ e9
      omega
    have GR1 := Lib.hid (gr_gr GR0.out hg)
    have X1 := Lib.hid (heap_gr X0.out hg (by omega))
    have V1 := Lib.hid (V0.out.grown hg (fun k hk => by injection hk with hk; omega))
    have H1 := Lib.hid hr
    have hz1 := hg.size
    clear hg hr ho hQ hs1 hql
    go_wp2_with fail
    refine (IB.out B R n c _ T o s1 w1 H1.out V1.out hBR hn hT.out KD.out).mono ?_
    rintro e w2 ⟨Ab, nb, cb, l', rfl, hl, htr, hr, hg⟩
    have GR2 := Lib.hid (gr_gr GR1.out hg)
    have X2 := Lib.hid (heap_gr X1.out hg (by omega))
    have V2 := Lib.hid (V1.out.grown hg (fun k hk => by injection hk with hk; omega))
    have H2 := Lib.hid hr
    have hz2 := hg.size
    have HL := Lib.hid hl
    have TR := Lib.hid htr
    have GR12 := Lib.hid hg
    clear hl htr
    clear hg hr
    have SQ := Lib.hid (stI_mk (h := ⟨4, ⟨#[]⟩, Q, 0⟩) (Aa := A1) (ca := c1) (cb := cb) (n := Q.length) rfl hz1 hz2 (slI_gr SL.out GR12.out (by omega)) TR.out hc1)
    obtain ⟨p0, p1, p2, p3, p4⟩ := cells5G (lay := Below.refl _ _) X2.out
    have g0 := free_at (j := 0) X2.out
    have g1 := free_at (j := 1) X2.out
    have g2 := free_at (j := 2) X2.out
    have g3 := free_at (j := 3) X2.out
    have g4 := free_at (j := 4) X2.out
    have lX := lt_of_block X2.out
    go_wp2_with fail
    obtain ⟨w9, hw9⟩ : ∃ w9, w9 = ((((w2.setCell ⟨X, 0, none⟩ (.int .i64 4)).setCell ⟨X, 1, none⟩ (.string ⟨#[]⟩)).setCell ⟨X, 2, none⟩ ((.slice A1 Q.length c1))).setCell ⟨X, 3, none⟩ (.int .i64 0)).setCell ⟨X, 4, none⟩ (.slice Ab nb cb) := ⟨_, rfl⟩
    have X9 : w9.heap[X]? = some (.cells #[.int .i64 4, .string ⟨#[]⟩, (.slice A1 Q.length c1), .int .i64 0, .slice Ab nb cb] 61 (0, 0)) := by rw [hw9]; exact heap_set5 X2.out
    have G9 : w2.grownBy w9 (some X) := by rw [hw9]; exact gr_set5 _ _ _ _ _ _ _
    obtain ⟨r0, r1, r2, r3, r4⟩ := cells5G (lay := Below.refl _ _) X9
    have hz9 := G9.size
    rw [← hw9]
    exact bodyPost_ret (v := .agg #[.int .i64 4, .string ⟨#[]⟩, (.slice A1 Q.length c1), .int .i64 0, .slice Ab nb cb]) (by simp [results, Tryd.results42, go_sem, r0, r1, r2, r3, r4]) rfl ⟨_, _, _, _, _, mkT ⟨4, ⟨#[]⟩, Q, 0⟩ l', rfl, by rw [HE.out]; exact fun h => by rw [HL.out h], stI_wide (stI_gr SQ.out G9 (by omega)) (by have := HX.out; omega) (by omega), by rw [HE.out]; exact H2.out.far G9 (by omega), gr_own2 GR2.out G9 (by have := HX.out; omega)⟩
  · obtain ⟨q2, q3, q4, q5, q6, q7⟩ := kw_5 hk
    have HE := Lib.hid (WD.out.2.2.2.2 5 (by decide) hk)
    clear hk hbg
    go_enter Tryd.func42, Tryd.ntmps42
    go_wp2_with fail
    rw [← HW0.out, ← HX.out]
    refine (names_any R n c _ T o ⟨i + 1, 0⟩ 1 w0 H0.out (by omega) (by omega)).mono ?_
    rintro e w1 ⟨A1, c1, rfl, ho, hr, hg⟩
    have hql := namesR_len (T := T) 1 ⟨i + 1, 0⟩
    obtain ⟨Q, hQ⟩ : ∃ Q, Q = (namesR T 1 ⟨i + 1, 0⟩).2 := ⟨_, rfl⟩
    obtain ⟨s1, hs1⟩ : ∃ s1, s1 = (namesR T 1 ⟨i + 1, 0⟩).1 := ⟨_, rfl⟩
    rw [← hQ] at HE ho hql ⊢
    rw [← hs1] at HE hr
    have HQL := Lib.hid hql
    have SL := Lib.hid (slI_of_own ho)
    have hc1 : Q.length ≤ c1 := by
      obtain ⟨A9, c9, e9, h9, _⟩ := rd_of_own ho
      injection e9 with _ _ e9
      omega
    have GR1 := Lib.hid (gr_gr GR0.out hg)
    have X1 := Lib.hid (heap_gr X0.out hg (by omega))
    have V1 := Lib.hid (V0.out.grown hg (fun k hk => by injection hk with hk; omega))
    have H1 := Lib.hid hr
    have hz1 := hg.size
    clear hg hr ho hQ hs1 hql
    go_wp2_with fail
    refine (IB.out B R n c _ T o s1 w1 H1.out V1.out hBR hn hT.out KD.out).mono ?_
    rintro e w2 ⟨Ab, nb, cb, l', rfl, hl, htr, hr, hg⟩
    have GR2 := Lib.hid (gr_gr GR1.out hg)
    have X2 := Lib.hid (heap_gr X1.out hg (by omega))
    have V2 := Lib.hid (V1.out.grown hg (fun k hk => by injection hk with hk; omega))
    have H2 := Lib.hid hr
    have hz2 := hg.size
    have HL := Lib.hid hl
    have TR := Lib.hid htr
    have GR12 := Lib.hid hg
    clear hl htr
    clear hg hr
    have SQ := Lib.hid (stI_mk (h := ⟨5, ⟨#[]⟩, Q, 0⟩) (Aa := A1) (ca := c1) (cb := cb) (n := Q.length) rfl hz1 hz2 (slI_gr SL.out GR12.out (by omega)) TR.out hc1)
    obtain ⟨p0, p1, p2, p3, p4⟩ := cells5G (lay := Below.refl _ _) X2.out
    have g0 := free_at (j := 0) X2.out
    have g1 := free_at (j := 1) X2.out
    have g2 := free_at (j := 2) X2.out
    have g3 := free_at (j := 3) X2.out
    have g4 := free_at (j := 4) X2.out
    have lX := lt_of_block X2.out
    go_wp2_with fail
    obtain ⟨w9, hw9⟩ : ∃ w9, w9 = ((((w2.setCell ⟨X, 0, none⟩ (.int .i64 5)).setCell ⟨X, 1, none⟩ (.string ⟨#[]⟩)).setCell ⟨X, 2, none⟩ ((.slice A1 Q.length c1))).setCell ⟨X, 3, none⟩ (.int .i64 0)).setCell ⟨X, 4, none⟩ (.slice Ab nb cb) := ⟨_, rfl⟩
    have X9 : w9.heap[X]? = some (.cells #[.int .i64 5, .string ⟨#[]⟩, (.slice A1 Q.length c1), .int .i64 0, .slice Ab nb cb] 61 (0, 0)) := by rw [hw9]; exact heap_set5 X2.out
    have G9 : w2.grownBy w9 (some X) := by rw [hw9]; exact gr_set5 _ _ _ _ _ _ _
    obtain ⟨r0, r1, r2, r3, r4⟩ := cells5G (lay := Below.refl _ _) X9
    have hz9 := G9.size
    rw [← hw9]
    exact bodyPost_ret (v := .agg #[.int .i64 5, .string ⟨#[]⟩, (.slice A1 Q.length c1), .int .i64 0, .slice Ab nb cb]) (by simp [results, Tryd.results42, go_sem, r0, r1, r2, r3, r4]) rfl ⟨_, _, _, _, _, mkT ⟨5, ⟨#[]⟩, Q, 0⟩ l', rfl, by rw [HE.out]; exact fun h => by rw [HL.out h], stI_wide (stI_gr SQ.out G9 (by omega)) (by have := HX.out; omega) (by omega), by rw [HE.out]; exact H2.out.far G9 (by omega), gr_own2 GR2.out G9 (by have := HX.out; omega)⟩
  · obtain ⟨q2, q3, q4, q5, q6, q7⟩ := kw_6 hk
    have HE := Lib.hid (WD.out.2.2.1 hk)
    clear hk hbg
    go_enter Tryd.func42, Tryd.ntmps42
    go_wp2_with fail
    rw [← HW0.out, ← HX.out]
    refine (names_any R n c _ T o ⟨i + 1, 0⟩ 2 w0 H0.out (by omega) (by omega)).mono ?_
    rintro e w1 ⟨A1, c1, rfl, ho, hr, hg⟩
    have hql := namesR_len (T := T) 2 ⟨i + 1, 0⟩
    obtain ⟨Q, hQ⟩ : ∃ Q, Q = (namesR T 2 ⟨i + 1, 0⟩).2 := ⟨_, rfl⟩
    obtain ⟨s1, hs1⟩ : ∃ s1, s1 = (namesR T 2 ⟨i + 1, 0⟩).1 := ⟨_, rfl⟩
    rw [← hQ] at HE ho hql ⊢
    rw [← hs1] at HE hr
    have HQL := Lib.hid hql
    have SL := Lib.hid (slI_of_own ho)
    have hc1 : Q.length ≤ c1 := by
      obtain ⟨A9, c9, e9, h9, _⟩ := rd_of_own ho
      injection e9 with _ _ e9
      omega
    have GR1 := Lib.hid (gr_gr GR0.out hg)
    have X1 := Lib.hid (heap_gr X0.out hg (by omega))
    have V1 := Lib.hid (V0.out.grown hg (fun k hk => by injection hk with hk; omega))
    have H1 := Lib.hid hr
    have hz1 := hg.size
    clear hg hr ho hQ hs1 hql
    go_wp2_with fail
    obtain ⟨wy, hwy⟩ : ∃ wy, wy = w1.alloc (.cells #[.int .i64 6, .string ⟨#[]⟩, .slice A1 Q.length c1, .int .i64 0, .slice none 0 0] 61) := ⟨_, rfl⟩
    rw [← hwy]
    have by1 : Below w1.heap.size w1 wy := by rw [hwy]; exact (Below.refl _ _).alloc (Nat.le_refl _) _
    have Y1 : wy.heap[w1.heap.size]? = some (.cells #[.int .i64 6, .string ⟨#[]⟩, .slice A1 Q.length c1, .int .i64 0, .slice none 0 0] 61 (0, 0)) := by rw [hwy]; exact heap_topG rfl
    have GRy := Lib.hid (gr_below GR1.out by1)
    have Hy := Lib.hid (H1.out.below by1)
    have Xy := Lib.hid ((by1.block X (lt_of_block X1.out)).trans X1.out)
    have SLy := Lib.hid (SL.out.keep (fun b _ _ h => by1.block b h) by1.size)
    have Y1 := Lib.hid Y1
    have Vy := Lib.hid (V1.out.below (by1.mono V1.out.le))
    have hzy := by1.size
    clear hwy by1
    refine (take_any R n c _ T o s1 2 4 wy Hy.out (by omega) (by decide)).mono ?_
    rintro e w2 ⟨rfl, hr, hg⟩
    have GR2 := Lib.hid (gr_gr GRy.out hg)
    have X2 := Lib.hid (heap_gr Xy.out hg (by omega))
    have V2 := Lib.hid (Vy.out.grown hg (fun k hk => by injection hk with hk; omega))
    have H2 := Lib.hid hr
    have hz2 := hg.size
    have Y2 := Lib.hid (heap_gr Y1.out hg (by omega))
    have GRy2 := Lib.hid hg
    clear hg hr
    obtain ⟨y0, y1, y2, y3, y4⟩ := cells5G (lay := Below.refl _ _) Y2.out
    have SQ := Lib.hid (stI_mk (d := d) (h := ⟨6, ⟨#[]⟩, Q, 0⟩) (Aa := A1) (ca := c1) (Ab := none) (cb := 0) (n := Q.length) (m2 := w2.heap.size) rfl hz1 (by omega) (slI_gr SLy.out GRy2.out (by omega)) trI_nil hc1)
    obtain ⟨p0, p1, p2, p3, p4⟩ := cells5G (lay := Below.refl _ _) X2.out
    have g0 := free_at (j := 0) X2.out
    have g1 := free_at (j := 1) X2.out
    have g2 := free_at (j := 2) X2.out
    have g3 := free_at (j := 3) X2.out
    have g4 := free_at (j := 4) X2.out
    have lX := lt_of_block X2.out
    go_wp2_with fail
    obtain ⟨w9, hw9⟩ : ∃ w9, w9 = ((((w2.setCell ⟨X, 0, none⟩ (.int .i64 6)).setCell ⟨X, 1, none⟩ (.string ⟨#[]⟩)).setCell ⟨X, 2, none⟩ ((.slice A1 Q.length c1))).setCell ⟨X, 3, none⟩ (.int .i64 0)).setCell ⟨X, 4, none⟩ (.slice none 0 0) := ⟨_, rfl⟩
    have X9 : w9.heap[X]? = some (.cells #[.int .i64 6, .string ⟨#[]⟩, (.slice A1 Q.length c1), .int .i64 0, .slice none 0 0] 61 (0, 0)) := by rw [hw9]; exact heap_set5 X2.out
    have G9 : w2.grownBy w9 (some X) := by rw [hw9]; exact gr_set5 _ _ _ _ _ _ _
    obtain ⟨r0, r1, r2, r3, r4⟩ := cells5G (lay := Below.refl _ _) X9
    have hz9 := G9.size
    rw [← hw9]
    exact bodyPost_ret (v := .agg #[.int .i64 6, .string ⟨#[]⟩, (.slice A1 Q.length c1), .int .i64 0, .slice none 0 0]) (by simp [results, Tryd.results42, go_sem, r0, r1, r2, r3, r4]) rfl ⟨_, _, _, _, _, mkT ⟨6, ⟨#[]⟩, Q, 0⟩ [], rfl, by rw [HE.out]; exact fun _ => rfl, stI_wide (stI_gr SQ.out G9 (by omega)) (by have := HX.out; omega) (by omega), by rw [HE.out]; exact H2.out.far G9 (by omega), gr_own2 GR2.out G9 (by have := HX.out; omega)⟩
  · obtain ⟨q2, q3, q4, q5, q6, q7⟩ := kw_7 hk
    have HE := Lib.hid (WD.out.2.2.2.2 7 (by decide) hk)
    clear hk hbg
    go_enter Tryd.func42, Tryd.ntmps42
    go_wp2_with fail
    rw [← HW0.out, ← HX.out]
    refine (names_any R n c _ T o ⟨i + 1, 0⟩ 1 w0 H0.out (by omega) (by omega)).mono ?_
    rintro e w1 ⟨A1, c1, rfl, ho, hr, hg⟩
    have hql := namesR_len (T := T) 1 ⟨i + 1, 0⟩
    obtain ⟨Q, hQ⟩ : ∃ Q, Q = (namesR T 1 ⟨i + 1, 0⟩).2 := ⟨_, rfl⟩
    obtain ⟨s1, hs1⟩ : ∃ s1, s1 = (namesR T 1 ⟨i + 1, 0⟩).1 := ⟨_, rfl⟩
    rw [← hQ] at HE ho hql ⊢
    rw [← hs1] at HE hr
    have HQL := Lib.hid hql
    have SL := Lib.hid (slI_of_own ho)
    have hc1 : Q.length ≤ c1 := by
      obtain ⟨A9, c9, e9, h9, _⟩ := rd_of_own ho
      injection e9 with _ _ e9
      omega
    have GR1 := Lib.hid (gr_gr GR0.out hg)
    have X1 := Lib.hid (heap_gr X0.out hg (by omega))
    have V1 := Lib.hid (V0.out.grown hg (fun k hk => by injection hk with hk; omega))
    have H1 := Lib.hid hr
    have hz1 := hg.size
    clear hg hr ho hQ hs1 hql
    go_wp2_with fail
    refine (IB.out B R n c _ T o s1 w1 H1.out V1.out hBR hn hT.out KD.out).mono ?_
    rintro e w2 ⟨Ab, nb, cb, l', rfl, hl, htr, hr, hg⟩
    have GR2 := Lib.hid (gr_gr GR1.out hg)
    have X2 := Lib.hid (heap_gr X1.out hg (by omega))
    have V2 := Lib.hid (V1.out.grown hg (fun k hk => by injection hk with hk; omega))
    have H2 := Lib.hid hr
    have hz2 := hg.size
    have HL := Lib.hid hl
    have TR := Lib.hid htr
    have GR12 := Lib.hid hg
    clear hl htr
    clear hg hr
    have SQ := Lib.hid (stI_mk (h := ⟨7, ⟨#[]⟩, Q, 0⟩) (Aa := A1) (ca := c1) (cb := cb) (n := Q.length) rfl hz1 hz2 (slI_gr SL.out GR12.out (by omega)) TR.out hc1)
    obtain ⟨p0, p1, p2, p3, p4⟩ := cells5G (lay := Below.refl _ _) X2.out
    have g0 := free_at (j := 0) X2.out
    have g1 := free_at (j := 1) X2.out
    have g2 := free_at (j := 2) X2.out
    have g3 := free_at (j := 3) X2.out
    have g4 := free_at (j := 4) X2.out
    have lX := lt_of_block X2.out
    go_wp2_with fail
    obtain ⟨w9, hw9⟩ : ∃ w9, w9 = ((((w2.setCell ⟨X, 0, none⟩ (.int .i64 7)).setCell ⟨X, 1, none⟩ (.string ⟨#[]⟩)).setCell ⟨X, 2, none⟩ ((.slice A1 Q.length c1))).setCell ⟨X, 3, none⟩ (.int .i64 0)).setCell ⟨X, 4, none⟩ (.slice Ab nb cb) := ⟨_, rfl⟩
    have X9 : w9.heap[X]? = some (.cells #[.int .i64 7, .string ⟨#[]⟩, (.slice A1 Q.length c1), .int .i64 0, .slice Ab nb cb] 61 (0, 0)) := by rw [hw9]; exact heap_set5 X2.out
    have G9 : w2.grownBy w9 (some X) := by rw [hw9]; exact gr_set5 _ _ _ _ _ _ _
    obtain ⟨r0, r1, r2, r3, r4⟩ := cells5G (lay := Below.refl _ _) X9
    have hz9 := G9.size
    rw [← hw9]
    exact bodyPost_ret (v := .agg #[.int .i64 7, .string ⟨#[]⟩, (.slice A1 Q.length c1), .int .i64 0, .slice Ab nb cb]) (by simp [results, Tryd.results42, go_sem, r0, r1, r2, r3, r4]) rfl ⟨_, _, _, _, _, mkT ⟨7, ⟨#[]⟩, Q, 0⟩ l', rfl, by rw [HE.out]; exact fun h => by rw [HL.out h], stI_wide (stI_gr SQ.out G9 (by omega)) (by have := HX.out; omega) (by omega), by rw [HE.out]; exact H2.out.far G9 (by omega), gr_own2 GR2.out G9 (by have := HX.out; omega)⟩
end Go.Proofs.YthkbckkghnbonaaDoor
