/- Statements as plain data, by their depth; what it means that a slice of statements in memory reads as such a list; what keeps that. -/
import Derived.Test.YtbamjfbfipkioaaAppend
namespace Go.Proofs.Ytbamjfbfipkioaa
open Go.RowKit

/-- A statement without its body. -/
structure SH where
  k : Int
  word : ByteArray
  args : List ByteArray
  count : Int
/-- Statements of depth at most d. -/
def Tr : Nat → Type
  | 0 => Empty
  | d + 1 => SH × List (Tr d)

/-- A statement's head and its body. -/
def hdT {d : Nat} (s : Tr (d + 1)) : SH := (show SH × List (Tr d) from s).1
def bdT {d : Nat} (s : Tr (d + 1)) : List (Tr d) := (show SH × List (Tr d) from s).2
def mkT {d : Nat} (h : SH) (b : List (Tr d)) : Tr (d + 1) := (show SH × List (Tr d) from (h, b))
theorem hd_mk {d : Nat} (h : SH) (b : List (Tr d)) : hdT (mkT h b) = h := rfl
theorem bd_mk {d : Nat} (h : SH) (b : List (Tr d)) : bdT (mkT h b) = b := rfl
theorem mk_eta {d : Nat} (s : Tr (d + 1)) : mkT (hdT s) (bdT s) = s := rfl

/-- As 'Rd', and no block below lo. -/
def RdL (w : World) (lo size : Nat) (A : Option Addr) (n : Nat) (xs : List Value) : Prop :=
  xs.length = n * size ∧ (0 < n → ∃ b off, A = some ⟨b, off, none⟩ ∧ lo ≤ b ∧ b < w.heap.size ∧ ∀ j u, xs[j]? = some u → w.cell? ⟨b, off + j, none⟩ = some u)
/-- The five cells of a statement at block b, offset o. -/
def SCells (w : World) (b o : Nat) (s : SH) (Aa : Option Addr) (ca : Nat) (Ab : Option Addr) (nb cb : Nat) : Prop :=
  w.cell? ⟨b, o, none⟩ = some (.int .i64 s.k) ∧ w.cell? ⟨b, o + 1, none⟩ = some (.string s.word) ∧ w.cell? ⟨b, o + 2, none⟩ = some (.slice Aa s.args.length ca) ∧
  w.cell? ⟨b, o + 3, none⟩ = some (.int .i64 s.count) ∧ w.cell? ⟨b, o + 4, none⟩ = some (.slice Ab nb cb)
def strs (l : List ByteArray) : List Value := l.map Value.string
/-- The slice (A, n) reads as the statements l; no block below lo. -/
def RdT (w : World) (lo : Nat) : (d : Nat) → Option Addr → Nat → List (Tr d) → Prop
  | 0, _, n, l => l.length = n ∧ n = 0
  | d + 1, A, n, l => l.length = n ∧ (0 < n → ∃ b off, A = some ⟨b, off, none⟩ ∧ lo ≤ b ∧ b < w.heap.size ∧ ∀ (i : Nat) (s : Tr (d + 1)), l[i]? = some s →
      ∃ Aa ca Ab nb cb, SCells w b (off + i * 5) (hdT s) Aa ca Ab nb cb ∧ RdL w lo 1 Aa (hdT s).args.length (strs (hdT s).args) ∧ RdT w lo d Ab nb (bdT s) ∧ (hdT s).args.length ≤ ca)
section
variable {w w' : World} {lo lo' size : Nat}
theorem RdL.rd {A : Option Addr} {n : Nat} {xs : List Value} (h : RdL w lo size A n xs) : Rd w size A n xs :=
  ⟨h.1, fun h0 => by obtain ⟨b, off, e, _, hb, hc⟩ := h.2 h0; exact ⟨b, off, e, hb, hc⟩⟩
theorem Rd.rdl {A : Option Addr} {n : Nat} {xs : List Value} (h : Rd w size A n xs) : RdL w 0 size A n xs :=
  ⟨h.1, fun h0 => by obtain ⟨b, off, e, hb, hc⟩ := h.2 h0; exact ⟨b, off, e, Nat.zero_le _, hb, hc⟩⟩
theorem RdL.keep {A : Option Addr} {n : Nat} {xs : List Value} (h : RdL w lo size A n xs) (hk : ∀ b o, lo ≤ b → b < w.heap.size → w'.cell? ⟨b, o, none⟩ = w.cell? ⟨b, o, none⟩) (hs : w.heap.size ≤ w'.heap.size) : RdL w' lo size A n xs :=
  ⟨h.1, fun h0 => by
    obtain ⟨b, off, e, hl, hb, hc⟩ := h.2 h0
    exact ⟨b, off, e, hl, Nat.lt_of_lt_of_le hb hs, fun j u hu => (hk _ _ hl hb).trans (hc j u hu)⟩⟩
theorem RdL.lower {A : Option Addr} {n : Nat} {xs : List Value} (h : RdL w lo size A n xs) (hl : lo' ≤ lo) : RdL w lo' size A n xs :=
  ⟨h.1, fun h0 => by
    obtain ⟨b, off, e, h1, hb, hc⟩ := h.2 h0
    exact ⟨b, off, e, Nat.le_trans hl h1, hb, hc⟩⟩
theorem SCells.keep {b o : Nat} {s : SH} {Aa Ab : Option Addr} {ca nb cb : Nat} (h : SCells w b o s Aa ca Ab nb cb) (hk : ∀ o, w'.cell? ⟨b, o, none⟩ = w.cell? ⟨b, o, none⟩) : SCells w' b o s Aa ca Ab nb cb :=
  ⟨(hk _).trans h.1, (hk _).trans h.2.1, (hk _).trans h.2.2.1, (hk _).trans h.2.2.2.1, (hk _).trans h.2.2.2.2⟩
theorem RdT.len : ∀ {d : Nat} {A : Option Addr} {n : Nat} {l : List (Tr d)}, RdT w lo d A n l → l.length = n
  | 0, _, _, _, h => h.1
  | _ + 1, _, _, _, h => h.1
theorem RdT.keep (hk : ∀ b o, lo ≤ b → b < w.heap.size → w'.cell? ⟨b, o, none⟩ = w.cell? ⟨b, o, none⟩) (hs : w.heap.size ≤ w'.heap.size) :
    ∀ {d : Nat} {A : Option Addr} {n : Nat} {l : List (Tr d)}, RdT w lo d A n l → RdT w' lo d A n l := by
  intro d
  induction d with
  | zero => intro A n l h; exact h
  | succ d ih =>
    intro A n l h
    refine ⟨h.1, fun h0 => ?_⟩
    obtain ⟨b, off, e, hl, hb, hc⟩ := h.2 h0
    refine ⟨b, off, e, hl, Nat.lt_of_lt_of_le hb hs, fun i s hi => ?_⟩
    obtain ⟨Aa, ca, Ab, nb, cb, h1, h2, h3, h4⟩ := hc i s hi
    exact ⟨Aa, ca, Ab, nb, cb, h1.keep (fun o => hk b o hl hb), h2.keep hk hs, ih h3, h4⟩
theorem RdT.lower (hl : lo' ≤ lo) : ∀ {d : Nat} {A : Option Addr} {n : Nat} {l : List (Tr d)}, RdT w lo d A n l → RdT w lo' d A n l := by
  intro d
  induction d with
  | zero => intro A n l h; exact h
  | succ d ih =>
    intro A n l h
    refine ⟨h.1, fun h0 => ?_⟩
    obtain ⟨b, off, e, h1, hb, hc⟩ := h.2 h0
    refine ⟨b, off, e, Nat.le_trans hl h1, hb, fun i s hi => ?_⟩
    obtain ⟨Aa, ca, Ab, nb, cb, h1, h2, h3, h4⟩ := hc i s hi
    exact ⟨Aa, ca, Ab, nb, cb, h1, h2.lower hl, ih h3, h4⟩
theorem RdT.below {d : Nat} {A : Option Addr} {n : Nat} {l : List (Tr d)} (h : RdT w lo d A n l) (hb : Below w.heap.size w w') : RdT w' lo d A n l :=
  h.keep (fun _ _ _ hlt => hb.cell hlt) hb.size
theorem RdL.below {A : Option Addr} {n : Nat} {xs : List Value} (h : RdL w lo size A n xs) (hb : Below w.heap.size w w') : RdL w' lo size A n xs :=
  h.keep (fun _ _ _ hlt => hb.cell hlt) hb.size
/-- An element of a slice of statements. -/
theorem RdT.at_ {d : Nat} {A : Option Addr} {n i : Nat} {l : List (Tr (d + 1))} (h : RdT w lo (d + 1) A n l) (hi : i < n) :
    ∃ (b off : Nat) (s : Tr (d + 1)) (Aa : Option Addr) (ca : Nat) (Ab : Option Addr) (nb cb : Nat), A = some ⟨b, off, none⟩ ∧ b < w.heap.size ∧ l[i]? = some s ∧
      SCells w b (off + i * 5) (hdT s) Aa ca Ab nb cb ∧ RdL w lo 1 Aa (hdT s).args.length (strs (hdT s).args) ∧ RdT w lo d Ab nb (bdT s) := by
  obtain ⟨b, off, e, _, hb, hc⟩ := h.2 (by omega)
  have hl : i < l.length := by rw [h.1]; exact hi
  obtain ⟨s, hs⟩ : ∃ s, l[i]? = some s := ⟨_, List.getElem?_eq_getElem hl⟩
  obtain ⟨Aa, ca, Ab, nb, cb, h1, h2, h3, _⟩ := hc i s hs
  exact ⟨b, off, s, Aa, ca, Ab, nb, cb, e, hb, hs, h1, h2, h3⟩
/-- An element of a slice of statements, its names' capacity too. -/
theorem RdT.at_c {d : Nat} {A : Option Addr} {n i : Nat} {l : List (Tr (d + 1))} (h : RdT w lo (d + 1) A n l) (hi : i < n) :
    ∃ (b off : Nat) (s : Tr (d + 1)) (Aa : Option Addr) (ca : Nat) (Ab : Option Addr) (nb cb : Nat), A = some ⟨b, off, none⟩ ∧ b < w.heap.size ∧ l[i]? = some s ∧
      SCells w b (off + i * 5) (hdT s) Aa ca Ab nb cb ∧ RdL w lo 1 Aa (hdT s).args.length (strs (hdT s).args) ∧ RdT w lo d Ab nb (bdT s) ∧ (hdT s).args.length ≤ ca := by
  obtain ⟨b, off, e, _, hb, hc⟩ := h.2 (by omega)
  have hl : i < l.length := by rw [h.1]; exact hi
  obtain ⟨s, hs⟩ : ∃ s, l[i]? = some s := ⟨_, List.getElem?_eq_getElem hl⟩
  obtain ⟨Aa, ca, Ab, nb, cb, h1, h2, h3, h4⟩ := hc i s hs
  exact ⟨b, off, s, Aa, ca, Ab, nb, cb, e, hb, hs, h1, h2, h3, h4⟩
end
end Go.Proofs.Ytbamjfbfipkioaa
