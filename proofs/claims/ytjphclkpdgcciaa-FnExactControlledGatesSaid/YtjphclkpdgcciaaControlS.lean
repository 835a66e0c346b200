/- The controlled version of a list of gates: the program's function and the reference's return the same list. -/
import Derived.Test.YtjphclkpdgcciaaControl
import Derived.Test.YtjphclkpdgcciaaDecomposeS
namespace Go.Proofs.Ytjphclkpdgcciaa
open Go.RowKit
set_option linter.unusedVariables false
def cgL (q : Int) (g : Gt) : List Gt := (cgate q g).getD []
def cgB (q : Int) (g : Gt) : Bool := (cgate q g).isSome
theorem cgl_len {q : Int} {g : Gt} {L : List Gt} (h : cgl q g = some L) : L.length ≤ 7 := by
  obtain ⟨k, a, b, c⟩ := g
  simp only [cgl] at h
  repeat' (split at h)
  all_goals (cases h; try simp)
theorem cgL_len (q : Int) (g : Gt) : (cgL q g).length ≤ 7 := by
  unfold cgL cgate
  split
  · cases h : cgl q g with
    | none => simp
    | some L => exact cgl_len h
  · simp
theorem ControlledGate_impl2 (q k a b c : Int) (w : World) : Calls Try.prog 51 #[.int .i64 q, .agg #[.int .i64 k, .int .i64 a, .int .i64 b, .int .i64 c]] w
    (RetRow2 28 4 w (cgB q ⟨k, a, b, c⟩) (cgL q ⟨k, a, b, c⟩).length ((cgL q ⟨k, a, b, c⟩).flatMap gcells)) := ControlledGate_impl q k a b c w
theorem ControlledGate_spec2 (q k a b c : Int) (w : World) : Calls Try.prog 50 #[.int .i64 q, .agg #[.int .i64 k, .int .i64 a, .int .i64 b, .int .i64 c]] w
    (RetRow2 28 4 w (cgB q ⟨k, a, b, c⟩) (cgL q ⟨k, a, b, c⟩).length ((cgL q ⟨k, a, b, c⟩).flatMap gcells)) := ControlledGate_spec q k a b c w
/-- The gates of a controlled list, where each gate has some. -/
def cgs (q : Int) : List Gt → Option (List Gt)
  | [] => some []
  | g :: l => if cgB q g then (cgs q l).map (cgL q g ++ ·) else none
def csB (q : Int) (l : List Gt) : Bool := (cgs q l).isSome
def csL (q : Int) (l : List Gt) : List Gt := (cgs q l).getD []
theorem cgs_len {q : Int} : ∀ {l : List Gt} {L : List Gt}, cgs q l = some L → L.length ≤ l.length * 7 := by
  intro l
  induction l with
  | nil => intro L h; simp [cgs] at h; subst h; simp
  | cons g l ih =>
    intro L h
    simp only [cgs] at h
    split at h
    · rw [Option.map_eq_some_iff] at h
      obtain ⟨M, h1, rfl⟩ := h
      have := ih h1
      have := cgL_len q g
      simp only [List.length_append, List.length_cons]
      omega
    · cases h
theorem cgs_snoc {q : Int} {g : Gt} (hk : cgB q g = true) : ∀ {l : List Gt} {L : List Gt}, cgs q l = some L → cgs q (l ++ [g]) = some (L ++ cgL q g) := by
  intro l
  induction l with
  | nil => intro L h; simp [cgs] at h; subst h; simp [cgs, hk]
  | cons x l ih =>
    intro L h
    simp only [cgs] at h
    split at h
    · rename_i hx
      rw [Option.map_eq_some_iff] at h
      obtain ⟨M, h1, rfl⟩ := h
      simp only [List.cons_append, cgs, hx, if_true, ih h1, Option.map_some, List.append_assoc]
    · cases h
theorem cgs_step {q : Int} {l L : List Gt} {t : Nat} {g : Gt} (h : cgs q (l.take t) = some L) (hg : l[t]? = some g) (hk : cgB q g = true) : cgs q (l.take (t + 1)) = some (L ++ cgL q g) := by
  rw [List.take_add_one, hg]
  exact cgs_snoc hk h
theorem cs_none {q : Int} {t : Nat} {g : Gt} : ∀ {l : List Gt}, l[t]? = some g → cgB q g = false → csB q l = false ∧ csL q l = [] := by
  have key : ∀ {l : List Gt} {t : Nat}, l[t]? = some g → cgB q g = false → cgs q l = none := by
    intro l
    induction l with
    | nil => intro t h; simp at h
    | cons x l ih =>
      intro t h hk
      cases t with
      | zero => simp at h; subst h; simp [cgs, hk]
      | succ t =>
        simp only [cgs]
        split
        · rw [ih (by simpa using h) hk]; rfl
        · rfl
  intro l h hk
  exact ⟨by rw [csB, key h hk]; rfl, by rw [csL, key h hk]; rfl⟩
theorem csL_le (q : Int) (l : List Gt) : (csL q l).length ≤ l.length * 7 := by
  unfold csL
  cases h : cgs q l with
  | none => simp
  | some L => exact cgs_len h
set_option maxHeartbeats 2000000 in
theorem ControlledGates_spec (q : Int) (A : Option Addr) (n c : Nat) (l : List Gt) (w : World) (h : Rd w 4 A n (l.flatMap gcells)) (hl : l.length = n) (hn : n ≤ 1073741824) :
    Calls Try.prog 52 #[.int .i64 q, .slice A n c] w (RetRow2 28 4 w (csB q l) (csL q l).length ((csL q l).flatMap gcells)) := by
  obtain ⟨i0, hi, hz0, hz1, hz2⟩ := info_parts info_Gate
  have H := Lib.hid h
  have HL := Lib.hid hl
  clear h hl
  go_enter Try.func52, Try.ntmps52
  go_wp2
  go_loopw [6, 7] (fun v i wr => ∃ (t : Nat) (L : List Gt), t ≤ n ∧ i = .int .i64 t ∧ cgs q (l.take t) = some L ∧ wr.ownsRow w.heap.size 28 4 v L.length (L.flatMap gcells) ∧ Below w.heap.size w wr) (fun _ i _ => n - (intOf i).toNat)
  case atStart => exact ⟨0, [], Nat.zero_le _, rfl, rfl, by simpa using own_empty w _ 4, (by repeat (first | exact Below.refl _ _ | assumption | (refine Below.trans ?_ (Below.mono (by assumption) (by first | omega | (simp; done) | (simp; omega)))) | (with_reducible refine Below.drew ?_) | (with_reducible refine Below.alloc ?_ (by first | omega | (simp; done) | (simp; omega)) _) | (with_reducible refine Below.setCell ?_ (by first | omega | (simp; done) | (simp; omega)) _)))⟩
  case round =>
    obtain ⟨t, L, ht, rfl, hcg, hown, hb⟩ := hrel
    have hd1 := cgs_len hcg
    have hd3 := List.length_take_le t l
    have hd : L.length ≤ t * 7 := Nat.le_trans hd1 (Nat.mul_le_mul_right _ hd3)
    have HC := Lib.hid hcg
    clear hcg hd1 hd3
    by_cases hlt : t < n
    · have htl : t < l.length := by rw [HL.out]; exact hlt
      obtain ⟨g, hg⟩ : ∃ g, l[t]? = some g := ⟨_, List.getElem?_eq_getElem htl⟩
      obtain ⟨b, off, rfl, hbl, hc⟩ := H.out.2 (by omega)
      have q0 : wr.cell? ⟨b, off + t * 4, none⟩ = some (.int .i64 g.k) := (hb.cell (by exact hbl)).trans (hc (t * 4 + 0) _ (flat_at gcells_len l t g 0 hg (by decide)))
      have q1 : wr.cell? ⟨b, off + t * 4 + 1, none⟩ = some (.int .i64 g.a) := (hb.cell (by exact hbl)).trans (hc (t * 4 + 1) _ (flat_at gcells_len l t g 1 hg (by decide)))
      have q2 : wr.cell? ⟨b, off + t * 4 + 2, none⟩ = some (.int .i64 g.b) := (hb.cell (by exact hbl)).trans (hc (t * 4 + 2) _ (flat_at gcells_len l t g 2 hg (by decide)))
      have q3 : wr.cell? ⟨b, off + t * 4 + 3, none⟩ = some (.int .i64 g.c) := (hb.cell (by exact hbl)).trans (hc (t * 4 + 3) _ (flat_at gcells_len l t g 3 hg (by decide)))
      have HG := Lib.hid hg
      clear hc hg htl
      go_wp2_with fail
      refine (ControlledGate_spec2 _ _ _ _ _ _).mono ?_
      rintro e w2 ⟨v2, rfl, own2, hb2, hs2⟩
      (try simp at hs2)
      obtain ⟨A2, c2, rfl, _, _, r2⟩ := rd_of_own own2
      have hown2 := ownsRow_below (hown) hb2
      have hb2' : Below w.heap.size w w2 := hb.trans (hb2.mono hb.size)
      have hd2 := cgL_len q ⟨g.k, g.a, g.b, g.c⟩
      clear q0 q1 q2 q3 hown own2 hb2
      cases hk : cgB q ⟨g.k, g.a, g.b, g.c⟩
      · have HF := Lib.hid (cs_none (l := l) HG.out hk)
        go_wp2_with fail
        go_ret2
        rw [show csB q l = false from HF.out.1, show csL q l = [] from HF.out.2]
        exact retRow2_lit hb2'.size hb2' rfl (by simp [maxLen]) rfl rfl
      · have HS := Lib.hid (cgs_step HC.out HG.out hk)
        go_wp2_with (at_builtin; refine wpList_append_rd _ rfl _ _ 26 rfl w.heap.size 28 i0 _ 4 32 Try.underlying26 hi hz0 hz1 hz2 rfl (by decide) _ _ _ rfl hown2 _ _ _ _ rfl r2 (one_flat gcells_one _) ?c3 ?c4 ?c5 ?_)
        case c3 => simp only [maxLen]; omega
        case c4 => omega
        case c5 => exact hb2'.size
        intro v3 w3 own3 gr3 _
        have b3 := hb2'.grown gr3 hb2'.size (own_ge hown2)
        clear hown2 gr3 r2
        go_wp2
        go_roundw
        case rel =>
          refine ⟨t + 1, _, by omega, by go_num, HS.out, ?_, b3⟩
          rw [List.flatMap_append, List.length_append]
          exact own3
        case measure => simp [intOf]; omega
    · obtain rfl : t = n := by omega
      have HF : Hid (csB q l = true ∧ csL q l = L) := by
        have h := HC.out
        rw [List.take_of_length_le (by rw [HL.out]; exact Nat.le_refl _)] at h
        exact ⟨by rw [csB, h]; rfl, by rw [csL, h]; rfl⟩
      go_wp2
      go_ret2
      rw [HF.out.1, HF.out.2]
      exact ⟨_, rfl, hown, hb, hb.size⟩
set_option maxHeartbeats 2000000 in
theorem ControlledGates_impl (q : Int) (A : Option Addr) (n c : Nat) (l : List Gt) (w : World) (h : Rd w 4 A n (l.flatMap gcells)) (hl : l.length = n) (hn : n ≤ 1073741824) :
    Calls Try.prog 53 #[.int .i64 q, .slice A n c] w (RetRow2 28 4 w (csB q l) (csL q l).length ((csL q l).flatMap gcells)) := by
  obtain ⟨i0, hi, hz0, hz1, hz2⟩ := info_parts info_Gate
  have H := Lib.hid h
  have HL := Lib.hid hl
  clear h hl
  go_enter Try.func53, Try.ntmps53
  go_wp2
  go_loopw [6, 14] (fun v i wr => ∃ (t : Nat) (L : List Gt), t ≤ n ∧ i = .int .i64 t ∧ cgs q (l.take t) = some L ∧ wr.ownsRow w.heap.size 28 4 v L.length (L.flatMap gcells) ∧ Below w.heap.size w wr) (fun _ i _ => n - (intOf i).toNat)
  case atStart => exact ⟨0, [], Nat.zero_le _, rfl, rfl, by simpa using own_empty w _ 4, (by repeat (first | exact Below.refl _ _ | assumption | (refine Below.trans ?_ (Below.mono (by assumption) (by first | omega | (simp; done) | (simp; omega)))) | (with_reducible refine Below.drew ?_) | (with_reducible refine Below.alloc ?_ (by first | omega | (simp; done) | (simp; omega)) _) | (with_reducible refine Below.setCell ?_ (by first | omega | (simp; done) | (simp; omega)) _)))⟩
  case round =>
    obtain ⟨t, L, ht, rfl, hcg, hown, hb⟩ := hrel
    have hd1 := cgs_len hcg
    have hd3 := List.length_take_le t l
    have hd : L.length ≤ t * 7 := Nat.le_trans hd1 (Nat.mul_le_mul_right _ hd3)
    have HC := Lib.hid hcg
    clear hcg hd1 hd3
    by_cases hlt : t < n
    · have htl : t < l.length := by rw [HL.out]; exact hlt
      obtain ⟨g, hg⟩ : ∃ g, l[t]? = some g := ⟨_, List.getElem?_eq_getElem htl⟩
      obtain ⟨b, off, rfl, hbl, hc⟩ := H.out.2 (by omega)
      have q0 : wr.cell? ⟨b, off + t * 4, none⟩ = some (.int .i64 g.k) := (hb.cell (by exact hbl)).trans (hc (t * 4 + 0) _ (flat_at gcells_len l t g 0 hg (by decide)))
      have q1 : wr.cell? ⟨b, off + t * 4 + 1, none⟩ = some (.int .i64 g.a) := (hb.cell (by exact hbl)).trans (hc (t * 4 + 1) _ (flat_at gcells_len l t g 1 hg (by decide)))
      have q2 : wr.cell? ⟨b, off + t * 4 + 2, none⟩ = some (.int .i64 g.b) := (hb.cell (by exact hbl)).trans (hc (t * 4 + 2) _ (flat_at gcells_len l t g 2 hg (by decide)))
      have q3 : wr.cell? ⟨b, off + t * 4 + 3, none⟩ = some (.int .i64 g.c) := (hb.cell (by exact hbl)).trans (hc (t * 4 + 3) _ (flat_at gcells_len l t g 3 hg (by decide)))
      have HG := Lib.hid hg
      clear hc hg htl
      go_wp2_with fail
      refine (ControlledGate_impl2 _ _ _ _ _ _).mono ?_
      rintro e w2 ⟨v2, rfl, own2, hb2, hs2⟩
      (try simp at hs2)
      obtain ⟨A2, c2, rfl, _, _, r2⟩ := rd_of_own own2
      have hown2 := ownsRow_below (hown.alloc _) hb2
      have hb2' : Below w.heap.size w w2 := (hb.alloc hb.size _).trans (hb2.mono (by have := hb.size; simp; omega))
      have hd2 := cgL_len q ⟨g.k, g.a, g.b, g.c⟩
      clear q0 q1 q2 q3 hown own2 hb2
      cases hk : cgB q ⟨g.k, g.a, g.b, g.c⟩
      · have HF := Lib.hid (cs_none (l := l) HG.out hk)
        go_wp2_with fail
        go_ret2
        rw [show csB q l = false from HF.out.1, show csL q l = [] from HF.out.2]
        exact retRow2_nil hb2'.size hb2'
      · have HS := Lib.hid (cgs_step HC.out HG.out hk)
        go_wp2_with (at_builtin; refine wpList_append_rd _ rfl _ _ 26 rfl w.heap.size 28 i0 _ 4 32 Try.underlying26 hi hz0 hz1 hz2 rfl (by decide) _ _ _ rfl hown2 _ _ _ _ rfl r2 (one_flat gcells_one _) ?c3 ?c4 ?c5 ?_)
        case c3 => simp only [maxLen]; omega
        case c4 => omega
        case c5 => exact hb2'.size
        intro v3 w3 own3 gr3 _
        have b3 := hb2'.grown gr3 hb2'.size (own_ge hown2)
        clear hown2 gr3 r2
        go_wp2
        go_roundw
        case rel =>
          refine ⟨t + 1, _, by omega, by go_num, HS.out, ?_, b3⟩
          rw [List.flatMap_append, List.length_append]
          exact own3
        case measure => simp [intOf]; omega
    · obtain rfl : t = n := by omega
      have HF : Hid (csB q l = true ∧ csL q l = L) := by
        have h := HC.out
        rw [List.take_of_length_le (by rw [HL.out]; exact Nat.le_refl _)] at h
        exact ⟨by rw [csB, h]; rfl, by rw [csL, h]; rfl⟩
      go_wp2
      go_ret2
      rw [HF.out.1, HF.out.2]
      exact ⟨_, rfl, hown, hb, hb.size⟩
end Go.Proofs.Ytjphclkpdgcciaa
