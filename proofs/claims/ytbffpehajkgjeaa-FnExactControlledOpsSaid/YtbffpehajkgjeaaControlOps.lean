/- The controlled version of a list of operations: the program's function and the reference's return the same list. -/
import Derived.Test.YtbffpehajkgjeaaControlS
import Derived.Test.YtbffpehajkgjeaaOpLoops
namespace Go.Proofs.Ytbffpehajkgjeaa
open Go.RowKit
set_option linter.unusedVariables false
def coL (q : Int) (o : Opt) : List Opt := if o.k = 1 then (cgL q o.g).map (gop o.cond) else [o]
def coB (q : Int) (o : Opt) : Bool := if o.k = 1 then cgB q o.g else true
theorem coB_not (q : Int) {o : Opt} (h : (o.k == 1) = false) : coB q o = true := by
  have h1 : ¬ o.k = 1 := by simpa using h
  simp [coB, h1]
theorem coL_not (q : Int) {o : Opt} (h : (o.k == 1) = false) : coL q o = [o] := by
  have h1 : ¬ o.k = 1 := by simpa using h
  simp [coL, h1]
theorem coB_gate {q : Int} {o : Opt} {x : Bool} (h : (o.k == 1) = true) (hx : cgB q ⟨o.g.k, o.g.a, o.g.b, o.g.c⟩ = x) : coB q o = x := by
  have h1 : o.k = 1 := by simpa using h
  simp [coB, h1]
  exact hx
theorem coL_gate (q : Int) {o : Opt} (h : (o.k == 1) = true) : coL q o = (cgL q ⟨o.g.k, o.g.a, o.g.b, o.g.c⟩).map (gop o.cond) := by
  have h1 : o.k = 1 := by simpa using h
  simp [coL, h1]
theorem coL_len (q : Int) (o : Opt) : (coL q o).length ≤ 7 := by
  unfold coL
  split
  · simpa using cgL_len q o.g
  · simp
def cos (q : Int) : List Opt → Option (List Opt)
  | [] => some []
  | g :: l => if coB q g then (cos q l).map (coL q g ++ ·) else none
def osB (q : Int) (l : List Opt) : Bool := (cos q l).isSome
def osL (q : Int) (l : List Opt) : List Opt := (cos q l).getD []
theorem cos_len {q : Int} : ∀ {l : List Opt} {L : List Opt}, cos q l = some L → L.length ≤ l.length * 7 := by
  intro l
  induction l with
  | nil => intro L h; simp [cos] at h; subst h; simp
  | cons g l ih =>
    intro L h
    simp only [cos] at h
    split at h
    · rw [Option.map_eq_some_iff] at h
      obtain ⟨M, h1, rfl⟩ := h
      have := ih h1
      have := coL_len q g
      simp only [List.length_append, List.length_cons]
      omega
    · cases h
theorem cos_snoc {q : Int} {g : Opt} (hk : coB q g = true) : ∀ {l : List Opt} {L : List Opt}, cos q l = some L → cos q (l ++ [g]) = some (L ++ coL q g) := by
  intro l
  induction l with
  | nil => intro L h; simp [cos] at h; subst h; simp [cos, hk]
  | cons x l ih =>
    intro L h
    simp only [cos] at h
    split at h
    · rename_i hx
      rw [Option.map_eq_some_iff] at h
      obtain ⟨M, h1, rfl⟩ := h
      simp only [List.cons_append, cos, hx, if_true, ih h1, Option.map_some, List.append_assoc]
    · cases h
theorem cos_step {q : Int} {l L : List Opt} {t : Nat} {g : Opt} (h : cos q (l.take t) = some L) (hg : l[t]? = some g) (hk : coB q g = true) : cos q (l.take (t + 1)) = some (L ++ coL q g) := by
  rw [List.take_add_one, hg]
  exact cos_snoc hk h
theorem os_none {q : Int} {t : Nat} {g : Opt} : ∀ {l : List Opt}, l[t]? = some g → coB q g = false → osB q l = false ∧ osL q l = [] := by
  have key : ∀ {l : List Opt} {t : Nat}, l[t]? = some g → coB q g = false → cos q l = none := by
    intro l
    induction l with
    | nil => intro t h; simp at h
    | cons x l ih =>
      intro t h hk
      cases t with
      | zero => simp at h; subst h; simp [cos, hk]
      | succ t =>
        simp only [cos]
        split
        · rw [ih (by simpa using h) hk]; rfl
        · rfl
  intro l h hk
  exact ⟨by rw [osB, key h hk]; rfl, by rw [osL, key h hk]; rfl⟩
theorem osL_le (q : Int) (l : List Opt) : (osL q l).length ≤ l.length * 7 := by
  unfold osL
  cases h : cos q l with
  | none => simp
  | some L => exact cos_len h
set_option maxRecDepth 100000 in
set_option maxHeartbeats 4000000 in
theorem ControlledOps_spec (q : Int) (A : Option Addr) (n c : Nat) (l : List Opt) (w : World) (h : Rd w 8 A n (l.flatMap ocells)) (hl : l.length = n) (hn : n ≤ 1073741824) :
    Calls Try.prog 19 #[.int .i64 q, .slice A n c] w (RetRow2 56 8 w (osB q l) (osL q l).length ((osL q l).flatMap ocells)) := by
  obtain ⟨i0, hi, hz0, hz1, hz2⟩ := info_parts info_OpE
  have H := Lib.hid h
  have HL := Lib.hid hl
  clear h hl
  go_enter Try.func19, Try.ntmps19
  go_wp2
  go_loopw [6, 7] (fun v i wr => ∃ (t : Nat) (L : List Opt), t ≤ n ∧ i = .int .i64 t ∧ cos q (l.take t) = some L ∧ wr.ownsRow w.heap.size 56 8 v L.length (L.flatMap ocells) ∧ Below w.heap.size w wr) (fun _ i _ => n - (intOf i).toNat)
  case atStart => exact ⟨0, [], Nat.zero_le _, rfl, rfl, by simpa using own_empty w _ 8, (by repeat (first | exact Below.refl _ _ | assumption | (refine Below.trans ?_ (Below.mono (by assumption) (by first | omega | (simp; done) | (simp; omega)))) | (with_reducible refine Below.drew ?_) | (with_reducible refine Below.alloc ?_ (by first | omega | (simp; done) | (simp; omega)) _) | (with_reducible refine Below.setCell ?_ (by first | omega | (simp; done) | (simp; omega)) _)))⟩
  case round =>
    obtain ⟨t, L, ht, rfl, hcg, hown, hb⟩ := hrel
    have hd1 := cos_len hcg
    have hd3 := List.length_take_le t l
    have hd : L.length ≤ t * 7 := Nat.le_trans hd1 (Nat.mul_le_mul_right _ hd3)
    have HC := Lib.hid hcg
    clear hcg hd1 hd3
    by_cases hlt : t < n
    · have htl : t < l.length := by rw [HL.out]; exact hlt
      obtain ⟨o, ho⟩ : ∃ o, l[t]? = some o := ⟨_, List.getElem?_eq_getElem htl⟩
      obtain ⟨b, off, rfl, hbl, hc⟩ := H.out.2 (by omega)
      have q0 : wr.cell? ⟨b, off + t * 8, none⟩ = some (.int .i64 o.k) := (hb.cell (by exact hbl)).trans (hc (t * 8 + 0) _ (flat_at ocells_len l t o 0 ho (by decide)))
      have q1 : wr.cell? ⟨b, off + t * 8 + 1, none⟩ = some (.int .i64 o.g.k) := (hb.cell (by exact hbl)).trans (hc (t * 8 + 1) _ (flat_at ocells_len l t o 1 ho (by decide)))
      have q2 : wr.cell? ⟨b, off + t * 8 + 2, none⟩ = some (.int .i64 o.g.a) := (hb.cell (by exact hbl)).trans (hc (t * 8 + 2) _ (flat_at ocells_len l t o 2 ho (by decide)))
      have q3 : wr.cell? ⟨b, off + t * 8 + 3, none⟩ = some (.int .i64 o.g.b) := (hb.cell (by exact hbl)).trans (hc (t * 8 + 3) _ (flat_at ocells_len l t o 3 ho (by decide)))
      have q4 : wr.cell? ⟨b, off + t * 8 + 4, none⟩ = some (.int .i64 o.g.c) := (hb.cell (by exact hbl)).trans (hc (t * 8 + 4) _ (flat_at ocells_len l t o 4 ho (by decide)))
      have q5 : wr.cell? ⟨b, off + t * 8 + 5, none⟩ = some (.int .i64 o.q) := (hb.cell (by exact hbl)).trans (hc (t * 8 + 5) _ (flat_at ocells_len l t o 5 ho (by decide)))
      have q6 : wr.cell? ⟨b, off + t * 8 + 6, none⟩ = some (.int .i64 o.bit) := (hb.cell (by exact hbl)).trans (hc (t * 8 + 6) _ (flat_at ocells_len l t o 6 ho (by decide)))
      have q7 : wr.cell? ⟨b, off + t * 8 + 7, none⟩ = some (.int .i64 o.cond) := (hb.cell (by exact hbl)).trans (hc (t * 8 + 7) _ (flat_at ocells_len l t o 7 ho (by decide)))
      have HG := Lib.hid ho
      have HC0 := Lib.hid hc
      clear hc ho htl
      cases hk : (o.k == 1)
      · have hk' : (o.k != 1) = true := by simp only [bne, hk]; rfl
        have HS := Lib.hid (cos_step HC.out HG.out (coB_not q hk))
        have HO := Lib.hid (coL_not q hk)
        clear hk
        go_wp2_with (at_builtin; refine wpList_append_rd _ rfl _ _ 27 rfl w.heap.size 56 i0 _ 8 64 Try.underlying27 hi hz0 hz1 hz2 rfl (by decide) _ _ _ rfl (hown.alloc _) _ 1 1 _ rfl (rd_lit ?c0 rfl) ?c2 ?c3 ?c4 ?c5 ?_)
        case c0 => first | rfl | simp
        case c2 => repeat' (first | rfl | apply And.intro)
        case c3 => simp only [maxLen]; omega
        case c4 => omega
        case c5 => have := hb.size; simp; omega
        intro v3 w3 own3 gr3 _
        have b3 := (hb.alloc hb.size _).grown gr3 (by have := hb.size; simp; omega) (own_ge hown)
        clear hown gr3
        go_wp2_with fail
        go_roundw
        case rel =>
          refine ⟨t + 1, _, by omega, by go_num, HS.out, ?_, b3⟩
          rw [HO.out, List.flatMap_append, List.length_append]
          exact own3
        case measure => simp [intOf]; omega
      have hk' : (o.k != 1) = false := by simp only [bne, hk]; rfl
      have HK := Lib.hid hk
      clear hk
      go_wp2_with fail
      refine (ControlledGate_spec2 _ _ _ _ _ _).mono ?_
      rintro e w2 ⟨v2, rfl, own2, hb2, hs2⟩
      (try simp at hs2)
      obtain ⟨A2, c2, rfl, _, _, r2⟩ := rd_of_own own2
      have hown2 := ownsRow_below (hown) hb2
      have hb2' : Below w.heap.size w w2 := hb.trans (hb2.mono hb.size)
      have hd2 := cgL_len q ⟨o.g.k, o.g.a, o.g.b, o.g.c⟩
      clear q0 q1 q2 q3 q4 q5 q6 q7
      have z7 : w2.cell? ⟨b, off + t * 8 + 7, none⟩ = some (.int .i64 o.cond) := (hb2'.cell (by exact hbl)).trans (HC0.out (t * 8 + 7) _ (flat_at ocells_len l t o 7 HG.out (by decide)))
      clear hown own2 hb2
      cases hk : cgB q ⟨o.g.k, o.g.a, o.g.b, o.g.c⟩
      · have HF := Lib.hid (os_none (l := l) HG.out (coB_gate HK.out hk))
        go_wp2_with fail
        go_ret2
        rw [show osB q l = false from HF.out.1, show osL q l = [] from HF.out.2]
        exact retRow2_lit hb2'.size hb2' rfl (by simp [maxLen]) rfl rfl
      · have HS := Lib.hid (cos_step HC.out HG.out (coB_gate HK.out hk))
        have HO := Lib.hid (coL_gate q HK.out)
        go_wp2_with fail
        refine (GateOps_spec _ _ _ (cgL q ⟨o.g.k, o.g.a, o.g.b, o.g.c⟩) _ _ r2 rfl (by omega)).mono ?_
        rintro e w3 ⟨v3, rfl, own3, hb3, hs3⟩
        obtain ⟨A3, c3, rfl, _, _, r3⟩ := rd_of_own own3
        have hown3 := ownsRow_below hown2 hb3
        have hb3' : Below w.heap.size w w3 := hb2'.trans (hb3.mono hb2'.size)
        clear own3 hown2 r2
        go_wp2_with (at_builtin; refine wpList_append_rd _ rfl _ _ 27 rfl w.heap.size 56 i0 _ 8 64 Try.underlying27 hi hz0 hz1 hz2 rfl (by decide) _ _ _ rfl hown3 _ _ _ _ rfl r3 (one_flat ocells_one _) ?c3 ?c4 ?c5 ?_)
        case c3 => simp only [maxLen]; omega
        case c4 => omega
        case c5 => exact hb3'.size
        intro v4 w4 own4 gr4 _
        have b4 := hb3'.grown gr4 hb3'.size (own_ge hown3)
        clear hown3 gr4 r3
        go_wp2_with fail
        go_roundw
        case rel =>
          refine ⟨t + 1, _, by omega, by go_num, HS.out, ?_, b4⟩
          rw [HO.out, List.flatMap_append, List.length_append, List.length_map]
          exact own4
        case measure => simp [intOf]; omega
    · obtain rfl : t = n := by omega
      have HF : Hid (osB q l = true ∧ osL q l = L) := by
        have h := HC.out
        rw [List.take_of_length_le (by rw [HL.out]; exact Nat.le_refl _)] at h
        exact ⟨by rw [osB, h]; rfl, by rw [osL, h]; rfl⟩
      go_wp2
      go_ret2
      rw [HF.out.1, HF.out.2]
      exact ⟨_, rfl, hown, hb, hb.size⟩
set_option maxRecDepth 100000 in
set_option maxHeartbeats 4000000 in
theorem ControlledOps_impl (q : Int) (A : Option Addr) (n c : Nat) (l : List Opt) (w : World) (h : Rd w 8 A n (l.flatMap ocells)) (hl : l.length = n) (hn : n ≤ 1073741824) :
    Calls Try.prog 21 #[.int .i64 q, .slice A n c] w (RetRow2 56 8 w (osB q l) (osL q l).length ((osL q l).flatMap ocells)) := by
  obtain ⟨i0, hi, hz0, hz1, hz2⟩ := info_parts info_OpE
  have H := Lib.hid h
  have HL := Lib.hid hl
  clear h hl
  go_enter Try.func21, Try.ntmps21
  go_wp2
  go_loopw [6, 14] (fun v i wr => ∃ (t : Nat) (L : List Opt), t ≤ n ∧ i = .int .i64 t ∧ cos q (l.take t) = some L ∧ wr.ownsRow w.heap.size 56 8 v L.length (L.flatMap ocells) ∧ Below w.heap.size w wr) (fun _ i _ => n - (intOf i).toNat)
  case atStart => exact ⟨0, [], Nat.zero_le _, rfl, rfl, by simpa using own_empty w _ 8, (by repeat (first | exact Below.refl _ _ | assumption | (refine Below.trans ?_ (Below.mono (by assumption) (by first | omega | (simp; done) | (simp; omega)))) | (with_reducible refine Below.drew ?_) | (with_reducible refine Below.alloc ?_ (by first | omega | (simp; done) | (simp; omega)) _) | (with_reducible refine Below.setCell ?_ (by first | omega | (simp; done) | (simp; omega)) _)))⟩
  case round =>
    obtain ⟨t, L, ht, rfl, hcg, hown, hb⟩ := hrel
    have hd1 := cos_len hcg
    have hd3 := List.length_take_le t l
    have hd : L.length ≤ t * 7 := Nat.le_trans hd1 (Nat.mul_le_mul_right _ hd3)
    have HC := Lib.hid hcg
    clear hcg hd1 hd3
    by_cases hlt : t < n
    · have htl : t < l.length := by rw [HL.out]; exact hlt
      obtain ⟨o, ho⟩ : ∃ o, l[t]? = some o := ⟨_, List.getElem?_eq_getElem htl⟩
      obtain ⟨b, off, rfl, hbl, hc⟩ := H.out.2 (by omega)
      have q0 : wr.cell? ⟨b, off + t * 8, none⟩ = some (.int .i64 o.k) := (hb.cell (by exact hbl)).trans (hc (t * 8 + 0) _ (flat_at ocells_len l t o 0 ho (by decide)))
      have q1 : wr.cell? ⟨b, off + t * 8 + 1, none⟩ = some (.int .i64 o.g.k) := (hb.cell (by exact hbl)).trans (hc (t * 8 + 1) _ (flat_at ocells_len l t o 1 ho (by decide)))
      have q2 : wr.cell? ⟨b, off + t * 8 + 2, none⟩ = some (.int .i64 o.g.a) := (hb.cell (by exact hbl)).trans (hc (t * 8 + 2) _ (flat_at ocells_len l t o 2 ho (by decide)))
      have q3 : wr.cell? ⟨b, off + t * 8 + 3, none⟩ = some (.int .i64 o.g.b) := (hb.cell (by exact hbl)).trans (hc (t * 8 + 3) _ (flat_at ocells_len l t o 3 ho (by decide)))
      have q4 : wr.cell? ⟨b, off + t * 8 + 4, none⟩ = some (.int .i64 o.g.c) := (hb.cell (by exact hbl)).trans (hc (t * 8 + 4) _ (flat_at ocells_len l t o 4 ho (by decide)))
      have q5 : wr.cell? ⟨b, off + t * 8 + 5, none⟩ = some (.int .i64 o.q) := (hb.cell (by exact hbl)).trans (hc (t * 8 + 5) _ (flat_at ocells_len l t o 5 ho (by decide)))
      have q6 : wr.cell? ⟨b, off + t * 8 + 6, none⟩ = some (.int .i64 o.bit) := (hb.cell (by exact hbl)).trans (hc (t * 8 + 6) _ (flat_at ocells_len l t o 6 ho (by decide)))
      have q7 : wr.cell? ⟨b, off + t * 8 + 7, none⟩ = some (.int .i64 o.cond) := (hb.cell (by exact hbl)).trans (hc (t * 8 + 7) _ (flat_at ocells_len l t o 7 ho (by decide)))
      have HG := Lib.hid ho
      have HC0 := Lib.hid hc
      clear hc ho htl
      cases hk : (o.k == 1)
      · have hk' : (o.k != 1) = true := by simp only [bne, hk]; rfl
        have HS := Lib.hid (cos_step HC.out HG.out (coB_not q hk))
        have HO := Lib.hid (coL_not q hk)
        clear hk
        go_wp2_with (at_builtin; refine wpList_append_rd _ rfl _ _ 27 rfl w.heap.size 56 i0 _ 8 64 Try.underlying27 hi hz0 hz1 hz2 rfl (by decide) _ _ _ rfl ((hown.alloc _).alloc _) _ 1 1 _ rfl (rd_lit ?c0 rfl) ?c2 ?c3 ?c4 ?c5 ?_)
        case c0 => first | rfl | simp
        case c2 => repeat' (first | rfl | apply And.intro)
        case c3 => simp only [maxLen]; omega
        case c4 => omega
        case c5 => have := hb.size; simp; omega
        intro v3 w3 own3 gr3 _
        have b3 := ((hb.alloc hb.size _).alloc (by have := hb.size; simp; omega) _).grown gr3 (by have := hb.size; simp; omega) (own_ge hown)
        clear hown gr3
        go_wp2_with fail
        go_roundw
        case rel =>
          refine ⟨t + 1, _, by omega, by go_num, HS.out, ?_, b3⟩
          rw [HO.out, List.flatMap_append, List.length_append]
          exact own3
        case measure => simp [intOf]; omega
      have hk' : (o.k != 1) = false := by simp only [bne, hk]; rfl
      have HK := Lib.hid hk
      clear hk
      go_wp2_with fail
      refine (ControlledGate_impl2 _ _ _ _ _ _).mono ?_
      rintro e w2 ⟨v2, rfl, own2, hb2, hs2⟩
      (try simp at hs2)
      obtain ⟨A2, c2, rfl, _, _, r2⟩ := rd_of_own own2
      have hown2 := ownsRow_below (hown.alloc _) hb2
      have hb2' : Below w.heap.size w w2 := (hb.alloc hb.size _).trans (hb2.mono (by have := hb.size; simp; omega))
      have hd2 := cgL_len q ⟨o.g.k, o.g.a, o.g.b, o.g.c⟩
      clear q0 q1 q2 q3 q4 q5 q6 q7
      obtain ⟨z0, z1, z2, z3, z4, z5, z6, z7⟩ := boxcells8 (lay := hb2) (boxed1_0 _ _)
      clear hown own2 hb2
      cases hk : cgB q ⟨o.g.k, o.g.a, o.g.b, o.g.c⟩
      · have HF := Lib.hid (os_none (l := l) HG.out (coB_gate HK.out hk))
        go_wp2_with fail
        go_ret2
        rw [show osB q l = false from HF.out.1, show osL q l = [] from HF.out.2]
        exact retRow2_nil hb2'.size hb2'
      · have HS := Lib.hid (cos_step HC.out HG.out (coB_gate HK.out hk))
        have HO := Lib.hid (coL_gate q HK.out)
        go_wp2_with fail
        refine (GateOps_impl _ _ _ (cgL q ⟨o.g.k, o.g.a, o.g.b, o.g.c⟩) _ _ r2 rfl (by omega)).mono ?_
        rintro e w3 ⟨v3, rfl, own3, hb3, hs3⟩
        obtain ⟨A3, c3, rfl, _, _, r3⟩ := rd_of_own own3
        have hown3 := ownsRow_below hown2 hb3
        have hb3' : Below w.heap.size w w3 := hb2'.trans (hb3.mono hb2'.size)
        clear own3 hown2 r2
        go_wp2_with (at_builtin; refine wpList_append_rd _ rfl _ _ 27 rfl w.heap.size 56 i0 _ 8 64 Try.underlying27 hi hz0 hz1 hz2 rfl (by decide) _ _ _ rfl hown3 _ _ _ _ rfl r3 (one_flat ocells_one _) ?c3 ?c4 ?c5 ?_)
        case c3 => simp only [maxLen]; omega
        case c4 => omega
        case c5 => exact hb3'.size
        intro v4 w4 own4 gr4 _
        have b4 := hb3'.grown gr4 hb3'.size (own_ge hown3)
        clear hown3 gr4 r3
        go_wp2_with fail
        go_roundw
        case rel =>
          refine ⟨t + 1, _, by omega, by go_num, HS.out, ?_, b4⟩
          rw [HO.out, List.flatMap_append, List.length_append, List.length_map]
          exact own4
        case measure => simp [intOf]; omega
    · obtain rfl : t = n := by omega
      have HF : Hid (osB q l = true ∧ osL q l = L) := by
        have h := HC.out
        rw [List.take_of_length_le (by rw [HL.out]; exact Nat.le_refl _)] at h
        exact ⟨by rw [osB, h]; rfl, by rw [osL, h]; rfl⟩
      go_wp2
      go_ret2
      rw [HF.out.1, HF.out.2]
      exact ⟨_, rfl, hown, hb, hb.size⟩
end Go.Proofs.Ytbffpehajkgjeaa
