/- What the calls that this law reaches answer, part 7 of 8. -/
import Derived.Test.YtgjpicekdbemiabJSplit6
import Derived.Test.YtgjpicekdbemiabProg
import Derived.Test.YtgjpicekdbemiabJSplit3
import Derived.Test.YtgjpicekdbemiabJSplit2
namespace Go.Proofs.Ytgjpicekdbemiab
open Go.RowKit
set_option linter.unusedVariables false
theorem ops_of_run {N B : Int} : ∀ {l : List Opt} {K : Int} {s : Option Int}, l.foldl (vst N B) s = some K → ∀ o ∈ l, 0 ≤ o.cond ∧ o.cond ≤ 3
  | [], K, s, _, o, ho => by simp at ho
  | x :: l, K, s, h, o, ho => by
    rw [List.foldl_cons] at h
    rcases List.mem_cons.1 ho with rfl | ho
    · cases s with
      | none => rw [show vst N B none o = none from rfl, vst_none] at h; cases h
      | some k =>
        by_cases hk : okO N B k o = true
        · unfold okO at hk
          rw [Bool.and_eq_true] at hk
          have hv := hk.1
          unfold validOp at hv
          simp only [Bool.and_eq_true] at hv
          obtain ⟨_, hb, hv⟩ := hv
          have hb := inB_iff.1 hb
          split at hv
          · simp only [Bool.and_eq_true] at hv
            have := inB_iff.1 hv.2.2.2
            omega
          · split at hv
            · simp only [Bool.and_eq_true] at hv
              have : o.cond = 0 := by simpa using hv.2.1
              omega
            · split at hv
              · simp only [Bool.and_eq_true] at hv
                have : o.cond = 0 := by simpa using hv.2.2.1
                omega
              · cases hv
        · rw [show vst N B (some k) o = none by simp only [vst]; rw [if_neg hk], vst_none] at h; cases h
    · exact ops_of_run h o ho
theorem rt_ops {N I B : Int} {l : List Opt} (h : validRt N I B l = true) : ∀ o ∈ l, 0 ≤ o.cond ∧ o.cond ≤ 3 := by
  unfold validRt at h
  simp only [Bool.and_eq_true] at h
  have h1 : vrun N B l = some B := by simpa using h.2.2.2.2
  exact ops_of_run h1
theorem initM_shp (n k : Int) : Shp (initM n k) := by
  refine ⟨initM_len_le n k, fun r hr => ?_⟩
  unfold initM at hr
  split at hr
  · rename_i h
    simp only [okI, Bool.and_eq_true] at h
    have h1 := inB_iff.1 h.1
    unfold rng at hr
    obtain ⟨i, _, rfl⟩ := List.mem_map.1 hr
    rw [bst_len]
    have hn : n = 1 ∨ n = 2 ∨ n = 3 ∨ n = 4 := by omega
    rcases hn with rfl | rfl | rfl | rfl <;> decide
  · simp at hr
/-- A list of branches and whether there is one: it reads whatever there was before turns. -/
def RetL (w : World) (e : Ending) (w' : World) : Prop := ∃ (A : Option Addr) (n c : Nat) (L : List Br) (ok : Bool), e = .returned (.tuple #[.slice A n c, .bool ok]) ∧
  SB (fun k => k < w.heap.size) w' A n L ∧ n ≤ 64 ∧ n ≤ c ∧ c ≤ maxLen ∧ (∀ x ∈ L, Shp x.M) ∧ Below w.heap.size w w' ∧ w.heap.size ≤ w'.heap.size
theorem sb_lit0 {C : Nat → Prop} {w : World} (b : Nat) : SB C w (some ⟨b, 0, none⟩) 0 [] := ⟨[], rfl, ⟨rfl, fun h => absurd h (by decide)⟩, fun h => absurd h (by decide), RowS.nil _ _⟩
theorem retL_none {w W : World} {b : Nat} (hb : Below w.heap.size w W) (h0 : b = W.heap.size) : RetL w (.returned (.tuple #[.slice (some ⟨b, 0, none⟩) 0 0, .bool false])) (W.alloc (.cells #[] 26)) :=
  ⟨_, 0, 0, [], false, rfl, sb_lit0 b, by decide, Nat.le_refl _, Nat.zero_le _, by simp, hb.alloc hb.size _, by have := hb.size; simp; omega⟩
set_option maxRecDepth 100000 in
set_option maxHeartbeats 16000000 in
theorem SimulatePrefix_any (N I B : Int) (A : Option Addr) (n c : Nat) (l : List Opt) (w : World) (h : Rd w 8 A n (l.flatMap ocells)) (hl : l.length = n) (hn : n ≤ 6) :
    Calls Try.prog 20 #[.agg #[.int .i64 N, .int .i64 I, .int .i64 B, .slice A n c], .int .i64 n] w (RetL w) := by
  obtain ⟨w0, hw0⟩ : ∃ w0, w0 = w.alloc (.cells #[.int .i64 N, .int .i64 I, .int .i64 B, .slice A n c] 39) := ⟨_, rfl⟩
  have x0 := Lib.hid (show w0.heap[w.heap.size]? = some (.cells #[.int .i64 N, .int .i64 I, .int .i64 B, .slice A n c] 39 (0, 0)) by rw [hw0]; exact boxed1_0 _ _)
  have b0 : Below w.heap.size w w0 := by rw [hw0]; exact (by repeat (first | exact Below.refl _ _ | assumption | (refine Below.trans ?_ (Below.mono (by assumption) (by first | omega | (simp; done) | (simp; omega)))) | (with_reducible refine Below.drew ?_) | (with_reducible refine Below.alloc ?_ (by first | omega | (simp; done) | (simp; omega)) _) | (with_reducible refine Below.setCell ?_ (by first | omega | (simp; done) | (simp; omega)) _)))
  have s0 : w.heap.size < w0.heap.size := by rw [hw0]; simp
  have H0 := Lib.hid (h.below b0)
  have H := Lib.hid h
  have HL := Lib.hid hl
  have HW := Lib.hid hw0
  obtain ⟨p0, p1, p2, p3⟩ := boxcells4 (lay := Below.refl _ _) x0.out
  clear h hl hw0
  go_enter Try.func20, Try.ntmps20
  go_upto_region 1 with (fail)
  rw [← HW.out]
  go_wp2_with fail
  refine (IsValidRoutine_spec N I B A n c l w0 H0.out HL.out (by omega)).mono ?_
  cases hv : validRt N I B l
  · rintro e w1 ⟨rfl, hb1, hs1⟩
    clear hv
    go_wp2_with fail
    exact bodyPost_ret (v := .tuple #[.slice (some ⟨w1.heap.size, 0, none⟩) 0 0, .bool false]) (by simp [results, Try.results20, go_sem]) rfl (retL_none (b0.trans (hb1.mono b0.size)) rfl)
  · rintro e w1 ⟨rfl, hb1, hs1⟩
    have HOPS := Lib.hid (rt_ops hv)
    have x1 := (hb1.block _ s0).trans x0.out
    obtain ⟨q0, q1, q2, q3⟩ := boxcells4 (lay := Below.refl _ _) x1
    have X1 := Lib.hid x1
    have b1 := b0.trans (hb1.mono b0.size)
    have s1 : w.heap.size < w1.heap.size := by omega
    clear hv p0 p1 p2 p3 x1
    go_wp2_with fail
    refine (InitialBranch_spec N I _).mono ?_
    rintro e w2 ⟨Ai, ci, Fi, rfl, hoi, hb2, hs2⟩
    have x2 := Lib.hid ((hb2.block _ s1).trans X1.out)
    have b2 := b1.trans (hb2.mono b1.size)
    have hoi' : OwnM w2 w1.heap.size (.slice Ai (initM N I).length ci) (initM N I).length (initM N I) Fi := hoi
    obtain ⟨_, _, e5, e6, e7, _⟩ := hoi.rd
    injection e5 with e8 e9 e10
    subst e8 e10
    have HSM := Lib.hid (ownM_sm (C := fun k => k < w.heap.size) hoi (fun k hk hc => by have := (hoi.lt k hk).1; have hc' : k < w.heap.size := hc; omega))
    have SHP := Lib.hid (initM_shp N I)
    have HML := Lib.hid (show (initM N I).length ≤ 16 from initM_len_le N I)
    clear hoi hoi' q0 q1 q2 q3
    go_wp2_with fail
    obtain ⟨w3, hw3⟩ : ∃ w3, w3 = w2.alloc (.cells #[.int .i64 0, .slice Ai (initM N I).length ci] 26) := ⟨_, rfl⟩
    rw [← hw3]
    have b3 : Below w.heap.size w w3 := by rw [hw3]; exact b2.alloc b2.size _
    have x3 := Lib.hid (show w3.heap[w.heap.size]? = some (.cells #[.int .i64 N, .int .i64 I, .int .i64 B, .slice A n c] 39 (0, 0)) by rw [hw3]; exact (Below.heap_alloc _ _ _ (by omega)).trans x2.out)
    have s3 : w.heap.size < w3.heap.size := by rw [hw3]; simp; omega
    have sb0 : SB (fun k => k < w.heap.size) w3 (some ⟨w2.heap.size, 0, none⟩) 1 [⟨0, initM N I⟩] := by
      rw [hw3]
      refine ⟨[.int .i64 0, .slice Ai (initM N I).length ci], rfl, rd_lit2 rfl rfl, fun _ ad e hc => ?_, RowS.one (HSM.out.below ((Below.refl _ _).alloc (Nat.le_refl _) _)) e6 e7⟩
      injection e with e
      subst e
      simp at hc
      omega
    clear hw3 b1 b2 hb1 hb2 hs1 hs2 x2 b0
    go_loopw [6, 7] (fun v i wr => ∃ (t m : Nat) (A2 : Option Addr) (c2 : Nat) (L2 : List Br), i = .int .i64 t ∧ v = .slice A2 m c2 ∧ t ≤ n ∧ m ≤ 2 ^ t ∧ m ≤ c2 ∧ c2 ≤ maxLen ∧ SB (fun k => k < w.heap.size) wr A2 m L2 ∧ (∀ x ∈ L2, Shp x.M) ∧ Below w3.heap.size w3 wr) (fun _ i _ => n - (intOf i).toNat)
    case atStart => exact ⟨0, 1, _, 1, _, rfl, rfl, Nat.zero_le _, Nat.le_refl _, Nat.le_refl _, by decide, sb0, fun x hx => by simp at hx; subst hx; exact SHP.out, Below.refl _ _⟩
    case round =>
      obtain ⟨t, m, A2, c2, L2, rfl, rfl, ht, hm, hc2, hcm, hsb, hsh, hb⟩ := hrel
      have hx := (hb.block _ s3).trans x3.out
      have bw : Below w.heap.size w wr := b3.trans (hb.mono b3.size)
      have hsw := bw.size
      obtain ⟨q0, q1, q2, q3⟩ := boxcells4 (lay := Below.refl _ _) hx
      have hm64 : m ≤ 64 := Nat.le_trans hm (by
        have : (2 : Nat) ^ t ≤ 2 ^ 6 := Nat.pow_le_pow_right (by decide) (by omega)
        exact this)
      have HM := Lib.hid hm
      have HSB := Lib.hid hsb
      have HSHP := Lib.hid hsh
      clear hm hsb hsh
      by_cases hlt : t < n
      · obtain ⟨o, ho⟩ : ∃ o, l[t]? = some o := ⟨_, List.getElem?_eq_getElem (by rw [HL.out]; exact hlt)⟩
        obtain ⟨bb, off, rfl, hbl, hc⟩ := H.out.2 (by omega)
        have z0 := (bw.cell (p := ⟨bb, off + (t * 8 + 0), none⟩) hbl).trans (hc (t * 8 + 0) _ (flat_at ocells_len l t o 0 ho (by decide)))
        have z1 := (bw.cell (p := ⟨bb, off + (t * 8 + 1), none⟩) hbl).trans (hc (t * 8 + 1) _ (flat_at ocells_len l t o 1 ho (by decide)))
        have z2 := (bw.cell (p := ⟨bb, off + (t * 8 + 2), none⟩) hbl).trans (hc (t * 8 + 2) _ (flat_at ocells_len l t o 2 ho (by decide)))
        have z3 := (bw.cell (p := ⟨bb, off + (t * 8 + 3), none⟩) hbl).trans (hc (t * 8 + 3) _ (flat_at ocells_len l t o 3 ho (by decide)))
        have z4 := (bw.cell (p := ⟨bb, off + (t * 8 + 4), none⟩) hbl).trans (hc (t * 8 + 4) _ (flat_at ocells_len l t o 4 ho (by decide)))
        have z5 := (bw.cell (p := ⟨bb, off + (t * 8 + 5), none⟩) hbl).trans (hc (t * 8 + 5) _ (flat_at ocells_len l t o 5 ho (by decide)))
        have z6 := (bw.cell (p := ⟨bb, off + (t * 8 + 6), none⟩) hbl).trans (hc (t * 8 + 6) _ (flat_at ocells_len l t o 6 ho (by decide)))
        have z7 := (bw.cell (p := ⟨bb, off + (t * 8 + 7), none⟩) hbl).trans (hc (t * 8 + 7) _ (flat_at ocells_len l t o 7 ho (by decide)))
        rw [← Nat.add_assoc] at z1 z2 z3 z4 z5 z6 z7
        rw [Nat.add_zero] at z0
        have hcond := HOPS.out o (List.mem_of_getElem? ho)
        have HST := Lib.hid (l23Step_any (fun k => k < w.heap.size) A2 m c2 L2 o wr HSB.out (fun k hk => by have hc' : k < w.heap.size := hk; omega) (by omega) HSHP.out hcond.1 hcond.2)
        clear hc ho hcond hx
        go_wp2_with fail
        refine HST.out.mono ?_
        rintro e w4 ⟨A4, n4, c4, L4, ok, rfl, hok, hb4, hs4⟩
        have HOK := Lib.hid hok
        clear hok z0 z1 z2 z3 z4 z5 z6 z7 q0 q1 q2 q3 HST
        cases ok
        · go_wp2_with fail
          exact bodyPost_ret (v := .tuple #[.slice (some ⟨w4.heap.size, 0, none⟩) 0 0, .bool false]) (by simp [results, Try.results20, go_sem]) rfl (retL_none (bw.trans (hb4.mono hsw)) rfl)
        · go_wp2_with fail
          go_roundw
          case rel =>
            obtain ⟨g1, g2, g3, g4, g5⟩ := HOK.out trivial
            refine ⟨t + 1, n4, A4, c4, L4, by go_num, rfl, by omega, ?_, g3, g4, g1, g5, hb.trans (hb4.mono hb.size)⟩
            have := HM.out
            rw [Nat.pow_succ]
            omega
          case measure => simp [intOf]; omega
      · obtain rfl : t = n := by omega
        clear hx
        go_wp2_with fail
        exact bodyPost_ret (v := .tuple #[.slice A2 m c2, .bool true]) (by simp [results, Try.results20, go_sem]) rfl ⟨A2, m, c2, L2, true, rfl, HSB.out, hm64, hc2, hcm, HSHP.out, bw, hsw⟩
set_option maxRecDepth 100000 in
set_option maxHeartbeats 4000000 in
theorem Simulate_any (N I B : Int) (A : Option Addr) (n c : Nat) (l : List Opt) (w : World) (h : Rd w 8 A n (l.flatMap ocells)) (hl : l.length = n) (hn : n ≤ 6) :
    Calls Try.prog 11 #[.agg #[.int .i64 N, .int .i64 I, .int .i64 B, .slice A n c]] w (RetL w) := by
  obtain ⟨w0, hw0⟩ : ∃ w0, w0 = w.alloc (.cells #[.int .i64 N, .int .i64 I, .int .i64 B, .slice A n c] 39) := ⟨_, rfl⟩
  have b0 : Below w.heap.size w w0 := by rw [hw0]; exact (by repeat (first | exact Below.refl _ _ | assumption | (refine Below.trans ?_ (Below.mono (by assumption) (by first | omega | (simp; done) | (simp; omega)))) | (with_reducible refine Below.drew ?_) | (with_reducible refine Below.alloc ?_ (by first | omega | (simp; done) | (simp; omega)) _) | (with_reducible refine Below.setCell ?_ (by first | omega | (simp; done) | (simp; omega)) _)))
  have H0 := Lib.hid (h.below b0)
  have HW := Lib.hid hw0
  clear h hw0
  go_enter Try.func11, Try.ntmps11
  go_wp2_with fail
  rw [← HW.out]
  refine (SimulatePrefix_any N I B A n c l w0 H0.out hl hn).mono ?_
  rintro e w1 ⟨A1, n1, c1, L1, ok, rfl, g1, g2, g3, g4, g5, hb1, hs1⟩
  have G1 := Lib.hid (g1.more (D := fun k => k < w.heap.size) (Near.refl _ _) (fun i _ hd => by have := b0.size; simp at hd ⊢; omega))
  have G5 := Lib.hid g5
  have B1 := Lib.hid (b0.trans (hb1.mono b0.size))
  clear g1 g5 hb1 hs1
  go_wp2_with fail
  exact bodyPost_ret (v := .tuple #[.slice A1 n1 c1, .bool ok]) (by simp [results, Try.results11, go_sem]) rfl ⟨A1, n1, c1, L1, ok, rfl, G1.out, g2, g3, g4, G5.out, B1.out, B1.out.size⟩
end Go.Proofs.Ytgjpicekdbemiab
namespace Go.Proofs.Ytgjpicekdbemiab
open Go.RowKit
set_option linter.unusedVariables false
def bcell (x : Fin 256) : List Value := [.int .u8 (x.val : Int)]
theorem bcell_len (x : Fin 256) : (bcell x).length = 1 := rfl
/-- Block p is a cursor over bytes that lie elsewhere. -/
def CurAt (w : World) (p : Nat) : Prop := ∃ (A : Option Addr) (n c : Nat) (bs : List (Fin 256)) (i : Nat) (h : Int),
  w.heap[p]? = some (.cells #[.slice A n c, .int .i64 i, .int .i64 h] 55 (0, 0)) ∧ bs.length = n ∧ Rd w 1 A n (bs.flatMap bcell) ∧ (0 < n → ∀ ad, A = some ad → ad.block < p) ∧ i ≤ n ∧ n ≤ 1048576
theorem CurAt.lt {w : World} {p : Nat} (h : CurAt w p) : p < w.heap.size := by
  obtain ⟨_, _, _, _, _, _, h, _⟩ := h
  exact lt_of_block h
theorem CurAt.kept {w w' : World} {p : Nat} (h : CurAt w p) (hb : ∀ k, k ≤ p → w'.heap[k]? = w.heap[k]?) (hs : w.heap.size ≤ w'.heap.size) : CurAt w' p := by
  obtain ⟨A, n, c, bs, i, h, h1, h2, h3, h4, h5⟩ := h
  refine ⟨A, n, c, bs, i, h, (hb p (Nat.le_refl _)).trans h1, h2, ⟨h3.1, fun h0 => ?_⟩, h4, h5⟩
  obtain ⟨b, off, e, hl, hc⟩ := h3.2 h0
  refine ⟨b, off, e, Nat.lt_of_lt_of_le hl hs, fun j u hu => ?_⟩
  rw [← hc j u hu]
  have hk := hb b (Nat.le_of_lt (h4 h0 _ e))
  simp [World.cell?, hk]
theorem CurAt.below {w w' : World} {p : Nat} (h : CurAt w p) (hb : Below w.heap.size w w') : CurAt w' p := h.kept (fun k hk => hb.block k (Nat.lt_of_le_of_lt hk h.lt)) hb.size
theorem CurAt.grown {w w' : World} {p : Nat} {row : Option Nat} (h : CurAt w p) (hg : w.grownBy w' row) (hr : ∀ k, row = some k → p < k) : CurAt w' p :=
  h.kept (fun k hk => hg.block k (Nat.lt_of_le_of_lt hk h.lt) (by
    intro e
    have h1 := hr _ e.symm
    omega)) hg.size
def DI (w : World) (p : Nat) (lo hi : Int) (e : Ending) (w' : World) : Prop := ∃ x : Int, lo ≤ x ∧ x ≤ hi ∧ e = .returned (.int .i64 x) ∧ CurAt w' p ∧ w.grownBy w' (some p)
def DB (w : World) (p : Nat) (e : Ending) (w' : World) : Prop := ∃ x : Bool, e = .returned (.bool x) ∧ CurAt w' p ∧ w.grownBy w' (some p)
def DL (L : List Int) (w : World) (p : Nat) (e : Ending) (w' : World) : Prop := ∃ x : Int, x ∈ L ∧ e = .returned (.int .i64 x) ∧ CurAt w' p ∧ w.grownBy w' (some p)
theorem and255 (x : Int) : 0 ≤ bits .and .i64 x 255 ∧ bits .and .i64 x 255 ≤ 255 := by
  have h : (BitVec.ofInt 64 x &&& BitVec.ofInt 64 255).toNat ≤ 255 := by
    rw [BitVec.toNat_and]
    exact Nat.le_trans Nat.and_le_right (by decide)
  have e : bits .and .i64 x 255 = IntKind.i64.wrap ((BitVec.ofInt 64 x &&& BitVec.ofInt 64 255).toNat : Int) := rfl
  rw [e, IntWalk.i64_in _ (by omega)]
  omega
theorem only_drewN {a w : World} {row : Option Nat} (h : a.grownBy w row) (n : Nat) : a.grownBy (w.drewN n) row := ⟨h.os, h.tape, h.output, h.size, h.block⟩
theorem only_setCell {a w : World} {g : Nat} (h : a.grownBy w (some g)) {p : Addr} (hp : p.block = g) (u : Value) : a.grownBy (w.setCell p u) (some g) :=
  ⟨h.os, h.tape, h.output, by simpa [World.setCell] using h.size, fun i hi hne => (Below.heap_setCell w p u i (by
    rintro rfl
    exact hne (by rw [hp]))).trans (h.block i hi hne)⟩
theorem only_of_below {a w : World} (h : Below a.heap.size a w) (row : Option Nat) : a.grownBy w row := ⟨h.os, h.tape, h.output, h.size, fun i hi _ => h.block i hi⟩
/-- The cursor behind the stores of one draw. -/
theorem cur_stored {w w' : World} {p : Nat} {A : Option Addr} {n c : Nat} {bs : List (Fin 256)} {i' : Nat} {h' : Int} (hg : w.grownBy w' (some p)) (hp : p < w.heap.size)
    (h1 : w'.heap[p]? = some (.cells #[.slice A n c, .int .i64 i', .int .i64 h'] 55 (0, 0))) (h2 : bs.length = n) (h3 : Rd w 1 A n (bs.flatMap bcell)) (h4 : 0 < n → ∀ ad, A = some ad → ad.block < p) (h5 : i' ≤ n) (h6 : n ≤ 1048576) : CurAt w' p := by
  refine ⟨A, n, c, bs, i', h', h1, h2, ⟨h3.1, fun h0 => ?_⟩, h4, h5, h6⟩
  obtain ⟨b, off, e, hl, hc⟩ := h3.2 h0
  refine ⟨b, off, e, Nat.lt_of_lt_of_le hl hg.size, fun j u hu => ?_⟩
  have hne := h4 h0 _ e
  rw [← hc j u hu]
  have hk := hg.block b hl (by
    intro e1
    injection e1 with e1
    simp only at hne
    omega)
  simp [World.cell?, hk]
set_option maxRecDepth 100000 in
set_option maxHeartbeats 2000000 in
theorem l1Byte_any (w : World) (p : Nat) (hcur : CurAt w p) : Calls Try.prog 23 #[.pointer (some ⟨p, 0, none⟩)] w (DI w p 0 255) := by
  have hp := hcur.lt
  obtain ⟨A, n, c, bs, i, h, h1, h2, h3, h4, h5, h6⟩ := hcur
  have p0 := cell_at (j := 0) h1 rfl
  have p1 := cell_at (j := 1) h1 rfl
  have p2 := cell_at (j := 2) h1 rfl
  have f2 : w.frozen? ⟨p, 2, none⟩ = false := by simp [World.frozen?, h1]
  have H1 := Lib.hid h1
  have H2 := Lib.hid h2
  have H3 := Lib.hid h3
  have H4 := Lib.hid h4
  clear h1 h2 h3 h4
  go_enter Try.func23, Try.ntmps23
  go_wp2
  obtain ⟨w1, hw1⟩ : ∃ w1, w1 = w.setCell ⟨p, 2, none⟩ (.int .i64 (wrap64 (wrap64 (h * 6364136223846793005) + 1442695040888963407))) := ⟨_, rfl⟩
  rw [← hw1]
  obtain ⟨h', hh'⟩ : ∃ h', h' = wrap64 (wrap64 (h * 6364136223846793005) + 1442695040888963407) := ⟨_, rfl⟩
  rw [← hh'] at hw1 ⊢
  have g1 : w.grownBy w1 (some p) := by rw [hw1]; exact only_setCell (World.grownBy.refl w _) rfl _
  have x1 : w1.heap[p]? = some (.cells #[.slice A n c, .int .i64 i, .int .i64 h'] 55 (0, 0)) := by rw [hw1, heap_setCell_same _ _ _ _ _ _ H1.out]; rfl
  clear hw1 hh' p0 p1 p2 f2
  have p0 := cell_at (j := 0) x1 rfl
  have p1 := cell_at (j := 1) x1 rfl
  have p2 := cell_at (j := 2) x1 rfl
  have f1 : w1.frozen? ⟨p, 1, none⟩ = false := by simp [World.frozen?, x1]
  have X1 := Lib.hid x1
  clear x1
  by_cases hin : i < n
  · obtain ⟨x, hx⟩ : ∃ x, bs[i]? = some x := ⟨_, List.getElem?_eq_getElem (by rw [H2.out]; exact hin)⟩
    obtain ⟨b, off, rfl, hbl, hc⟩ := H3.out.2 (by omega)
    have hbp : b < p := H4.out (by omega) _ rfl
    have q0 : w1.cell? ⟨b, off + i, none⟩ = some (.int .u8 (x.val : Int)) := by
      have h := hc (i * 1 + 0) _ (flat_at bcell_len bs i x 0 hx (by decide))
      have hk := g1.block b hbl (by
        intro e
        injection e with e
        omega)
      simpa [World.cell?, hk] using h
    have hx2 := x.isLt
    clear hc hx
    go_quiet (fail)
    go_wp2_with fail
    go_quiet (fail)
    go_wp2_with fail
    go_quiet (fail)
    go_wp2_with fail
    go_ret
    have g2 : ∀ k, w.grownBy ((w1.drewN k).setCell ⟨p, 1, none⟩ (.int .i64 ((i : Int) + 1))) (some p) := fun k => only_setCell (only_drewN g1 k) rfl _
    refine ⟨_, (and255 _).1, (and255 _).2, rfl, cur_stored (i' := i + 1) (h' := h') (c := c) (g2 _) hp ?_ H2.out H3.out H4.out (by omega) h6, g2 _⟩
    rw [heap_setCell_same _ _ _ _ _ _ (show (w1.drewN _).heap[p]? = some (.cells #[.slice (some ⟨b, off, none⟩) n c, .int .i64 i, .int .i64 h'] 55 (0, 0)) from X1.out)]
    rfl
  · go_quiet (fail)
    go_wp2_with fail
    go_quiet (fail)
    go_wp2_with fail
    go_ret
    have g2 : ∀ k l, w.grownBy ((w1.drewN k).drewN l) (some p) := fun k l => only_drewN (only_drewN g1 k) l
    exact ⟨_, (and255 _).1, (and255 _).2, rfl, cur_stored (i' := i) (h' := h') (c := c) (g2 _ _) hp X1.out H2.out H3.out H4.out (by omega) h6, g2 _ _⟩
set_option maxRecDepth 100000 in
set_option maxHeartbeats 2000000 in
theorem l1Below_any (n hi : Int) (w : World) (p : Nat) (hcur : CurAt w p) (h0 : 0 ≤ hi) (hn : n ≤ hi + 1) (hm : n ≤ 9223372036854775807) : Calls Try.prog 13 #[.pointer (some ⟨p, 0, none⟩), .int .i64 n] w (DI w p 0 hi) := by
  by_cases h1 : n ≤ 0
  · go_enter Try.func13, Try.ntmps13
    go_wp2_with fail
    go_ret
    exact ⟨0, by omega, h0, rfl, hcur, World.grownBy.refl w _⟩
  by_cases h2 : n ≤ 256
  · go_enter Try.func13, Try.ntmps13
    go_wp2_with fail
    refine (l1Byte_any w p hcur).mono ?_
    rintro e w1 ⟨x, hx0, hx1, rfl, hc1, hg1⟩
    go_wp2_with fail
    go_ret
    exact ⟨x % n, Int.emod_nonneg _ (by omega), by have := Int.emod_lt_of_pos x (show 0 < n by omega); omega, rfl, hc1, hg1⟩
  · go_enter Try.func13, Try.ntmps13
    go_wp2_with fail
    refine (l1Byte_any w p hcur).mono ?_
    rintro e w1 ⟨x, hx0, hx1, rfl, hc1, hg1⟩
    go_wp2_with fail
    refine (l1Byte_any w1 p hc1).mono ?_
    rintro e w2 ⟨y, hy0, hy1, rfl, hc2, hg2⟩
    go_wp2_with fail
    refine (l1Byte_any w2 p hc2).mono ?_
    rintro e w3 ⟨z, hz0, hz1, rfl, hc3, hg3⟩
    go_wp2_with fail
    refine (l1Byte_any w3 p hc3).mono ?_
    rintro e w4 ⟨u, hu0, hu1, rfl, hc4, hg4⟩
    go_wp2_with fail
    go_ret
    exact ⟨(x * 16777216 + y * 65536 + z * 256 + u) % n, Int.emod_nonneg _ (by omega), by have := Int.emod_lt_of_pos (x * 16777216 + y * 65536 + z * 256 + u) (show 0 < n by omega); omega, rfl, hc4, ((hg1.trans hg2).trans hg3).trans hg4⟩
set_option maxRecDepth 100000 in
theorem l1Once_any (n : Int) (w : World) (p : Nat) (hcur : CurAt w p) (hm0 : -9223372036854775808 ≤ n) (hm : n ≤ 9223372036854775807) : Calls Try.prog 21 #[.pointer (some ⟨p, 0, none⟩), .int .i64 n] w (DB w p) := by
  go_enter Try.func21, Try.ntmps21
  go_wp2_with fail
  refine (l1Below_any n 9223372036854775807 w p hcur (by omega) (by omega) hm).mono ?_
  rintro e w1 ⟨x, hx0, hx1, rfl, hc1, hg1⟩
  go_wp2_with fail
  go_ret
  exact ⟨_, rfl, hc1, hg1⟩
theorem grown_rd {w w' : World} {p size n : Nat} {A : Option Addr} {xs : List Value} (h : Rd w size A n xs) (hg : w.grownBy w' (some p)) (hne : 0 < n → ∀ ad, A = some ad → ad.block ≠ p) : Rd w' size A n xs :=
  ⟨h.1, fun h0 => by
    obtain ⟨b, off, e, hl, hc⟩ := h.2 h0
    refine ⟨b, off, e, Nat.lt_of_lt_of_le hl hg.size, fun j u hu => ?_⟩
    rw [← hc j u hu]
    have hne' := hne h0 _ e
    have hk := hg.block b hl (by
      intro e1
      injection e1 with e1
      exact hne' e1)
    simp [World.cell?, hk]⟩
set_option maxRecDepth 100000 in
set_option maxHeartbeats 1000000 in
theorem l1PickInt_any (b k c : Nat) (L : List Int) (w : World) (p : Nat) (hcur : CurAt w p) (hL : L.length = k) (hk : 0 < k) (hk2 : k ≤ 1000) (hr : Rd w 1 (some ⟨b, 0, none⟩) k (L.map (Value.int .i64))) (hne : b ≠ p) : Calls Try.prog 27 #[.pointer (some ⟨p, 0, none⟩), .slice (some ⟨b, 0, none⟩) k c] w (DL L w p) := by
  have HL := Lib.hid hL
  have HR := Lib.hid hr
  clear hL hr
  go_enter Try.func27, Try.ntmps27
  go_wp2_with fail
  refine (l1Below_any k (k - 1) w p hcur (by omega) (by omega) (by omega)).mono ?_
  rintro e w1 ⟨x, hx0, hx1, rfl, hc1, hg1⟩
  obtain ⟨j, rfl⟩ : ∃ j : Nat, x = j := ⟨x.toNat, by omega⟩
  have hjk : j < k := by omega
  obtain ⟨y, hy⟩ : ∃ y, L[j]? = some y := ⟨_, List.getElem?_eq_getElem (by rw [HL.out]; exact hjk)⟩
  have hq : w1.cell? ⟨b, j, none⟩ = some (.int .i64 y) := by
    obtain ⟨b', off, e, hl, hc⟩ := (grown_rd HR.out hg1 (fun _ ad e => by cases e; exact hne)).2 hk
    injection e with e
    injection e with e1 e2
    subst e1 e2
    have := hc j (.int .i64 y) (by simp [hy])
    simpa using this
  have HY := Lib.hid (List.mem_of_getElem? hy)
  clear hy
  go_wp2_with fail
  go_ret
  exact ⟨y, HY.out, rfl, hc1, hg1⟩
def NewCur (w : World) (e : Ending) (w' : World) : Prop := ∃ p, e = .returned (.pointer (some ⟨p, 0, none⟩)) ∧ w.heap.size ≤ p ∧ CurAt w' p ∧ Below w.heap.size w w'
theorem new_cur {w : World} {A : Option Addr} {n c : Nat} {bs : List (Fin 256)} {h : Int} (hr : Rd w 1 A n (bs.flatMap bcell)) (hl : bs.length = n) (hn : n ≤ 1048576) :
    NewCur w (.returned (.pointer (some ⟨w.heap.size, 0, none⟩))) (w.alloc (.cells #[.slice A n c, .int .i64 0, .int .i64 h] 55)) := by
  have hb : Below w.heap.size w (w.alloc (.cells #[.slice A n c, .int .i64 0, .int .i64 h] 55)) := (by repeat (first | exact Below.refl _ _ | assumption | (refine Below.trans ?_ (Below.mono (by assumption) (by first | omega | (simp; done) | (simp; omega)))) | (with_reducible refine Below.drew ?_) | (with_reducible refine Below.alloc ?_ (by first | omega | (simp; done) | (simp; omega)) _) | (with_reducible refine Below.setCell ?_ (by first | omega | (simp; done) | (simp; omega)) _)))
  refine ⟨w.heap.size, rfl, Nat.le_refl _, ⟨A, n, c, bs, 0, h, heap_alloc_new w _, hl, hr.below hb, fun h0 ad e => ?_, Nat.zero_le _, hn⟩, hb⟩
  obtain ⟨b, off, e', hlt, _⟩ := hr.2 h0
  rw [e] at e'
  injection e' with e'
  rw [e']
  exact hlt
set_option maxRecDepth 100000 in
set_option maxHeartbeats 1000000 in
theorem l1New_any (A : Option Addr) (n c : Nat) (bs : List (Fin 256)) (w : World) (h : Rd w 1 A n (bs.flatMap bcell)) (hl : bs.length = n) (hn : n ≤ 1048576) : Calls Try.prog 10 #[.slice A n c] w (NewCur w) := by
  have H := Lib.hid h
  have HL := Lib.hid hl
  clear h hl
  go_enter Try.func10, Try.ntmps10
  go_wp2_with fail
  go_loop [3, 4] (fun s i => ∃ (t : Nat) (h : Int), t ≤ n ∧ i = .int .i64 t ∧ s = .int .i64 h) (fun _ i => n - (intOf i).toNat)
  case atStart => exact ⟨0, _, Nat.zero_le _, rfl, rfl⟩
  case round =>
    obtain ⟨t, h, ht, rfl, rfl⟩ := hrel
    by_cases hlt : t < n
    · by_cases h4 : t < 4000
      · obtain ⟨x, hx⟩ : ∃ x, bs[t]? = some x := ⟨_, List.getElem?_eq_getElem (by rw [HL.out]; exact hlt)⟩
        obtain ⟨b, off, rfl, hbl, hc⟩ := H.out.2 (by omega)
        have q0 : w.cell? ⟨b, off + t, none⟩ = some (.int .u8 (x.val : Int)) := by
          have := hc (t * 1 + 0) _ (flat_at bcell_len bs t x 0 hx (by decide))
          simpa using this
        have hx2 := x.isLt
        clear hc hx
        go_wp2_with fail
        go_round
        case rel => exact ⟨t + 1, _, by omega, by go_num, rfl⟩
        case measure => simp [intOf]; omega
      · go_wp2_with fail
        go_ret
        exact new_cur H.out HL.out hn
    · go_wp2_with fail
      go_ret
      exact new_cur H.out HL.out hn
end Go.Proofs.Ytgjpicekdbemiab
namespace Go.Proofs.Ytgjpicekdbemiab
open Go.RowKit
set_option linter.unusedVariables false
/-- From w on only the cursor p and what is new has turned, and p is a cursor still. -/
structure Fr (w : World) (p : Nat) (w' : World) : Prop where
  cur : CurAt w' p
  gr : w.grownBy w' (some p)
theorem Fr.start {w : World} {p : Nat} (h : CurAt w p) : Fr w p w := ⟨h, World.grownBy.refl w _⟩
theorem Fr.lt {w w1 : World} {p : Nat} (h : Fr w p w1) (hp : p < w.heap.size) : p < w1.heap.size := h.cur.lt
theorem Fr.below {w w1 w2 : World} {p : Nat} (h : Fr w p w1) (hb : Below w1.heap.size w1 w2) : Fr w p w2 :=
  ⟨h.cur.below hb, h.gr.andThen (only_of_below hb none) (by simp)⟩
theorem Fr.alloc {w w1 : World} {p : Nat} (h : Fr w p w1) (ob : Obj) : Fr w p (w1.alloc ob) := h.below ((Below.refl _ _).alloc (Nat.le_refl _) _)
theorem Fr.call {w w1 w2 : World} {p : Nat} (h : Fr w p w1) (hc : CurAt w2 p) (hg : w1.grownBy w2 (some p)) : Fr w p w2 := ⟨hc, h.gr.trans hg⟩
theorem Fr.own {w w1 w2 : World} {p : Nat} {row : Option Nat} (h : Fr w p w1) (hp : p < w.heap.size) (hg : w1.grownBy w2 row) (hr : ∀ k, row = some k → w.heap.size ≤ k) : Fr w p w2 :=
  ⟨h.cur.grown hg (fun k hk => by have := hr k hk; omega), h.gr.andThen hg (fun j hj => .inl (hr j hj))⟩
theorem Fr.set {w w1 : World} {p : Nat} (h : Fr w p w1) (hp : p < w.heap.size) {a : Addr} (ha : w.heap.size ≤ a.block) (v : Value) : Fr w p (w1.setCell a v) :=
  h.own (row := some a.block) hp (only_setCell (World.grownBy.refl w1 _) rfl v) (fun k hk => by injection hk with hk; omega)
theorem Fr.drewN {w w1 : World} {p : Nat} (h : Fr w p w1) (n : Nat) : Fr w p (w1.drewN n) := ⟨h.cur, only_drewN h.gr n⟩
/-- A block of the call's own stays as it is behind a draw. -/
theorem box_call {w1 w2 : World} {b p : Nat} {ob : Obj} (h : w1.heap[b]? = some ob) (hg : w1.grownBy w2 (some p)) (hne : b ≠ p) : w2.heap[b]? = some ob :=
  (hg.block b (lt_of_block h) (fun e => hne (by injection e))).trans h
def DG (w : World) (p : Nat) (e : Ending) (w' : World) : Prop := ∃ k a b c : Int, e = .returned (.agg #[.int .i64 k, .int .i64 a, .int .i64 b, .int .i64 c]) ∧ CurAt w' p ∧ w.grownBy w' (some p)
def DP (w : World) (p n : Nat) (e : Ending) (w' : World) : Prop := ∃ (v : Value) (L : List Int), e = .returned v ∧ L.length = n ∧ w'.ownsRow w.heap.size 3 1 v n (L.map (Value.int .i64)) ∧ CurAt w' p ∧ w.grownBy w' (some p)
def RetInts (w : World) (n : Nat) (e : Ending) (w' : World) : Prop := ∃ (v : Value) (L : List Int), e = .returned v ∧ L.length = n ∧ w'.ownsRow w.heap.size 3 1 v n (L.map (Value.int .i64)) ∧ Below w.heap.size w w' ∧ w.heap.size ≤ w'.heap.size
theorem rd_lit1 {w : World} {cs : Array Value} {e n size b : Nat} (h0 : b = w.heap.size) (hs : cs.size = n * size) : Rd (w.alloc (.cells cs e)) size (some ⟨b, 0, none⟩) n cs.toList := by
  subst h0
  refine ⟨by simpa using hs, fun _ => ⟨_, 0, rfl, by simp, fun j u hu => ?_⟩⟩
  have h := heap_alloc_new w (.cells cs e)
  have hc : cs[j]? = some u := by rw [← Array.getElem?_toList]; exact hu
  rw [Nat.zero_add]
  exact cell_at h hc
set_option maxRecDepth 100000 in
set_option maxHeartbeats 1000000 in
theorem IdentityPermutation_ints (n : Nat) (w : World) (h1 : 1 ≤ n) (h4 : n ≤ 4) : Calls Try.prog 37 #[.int .i64 n] w (RetInts w n) := by
  obtain ⟨i0, hi, hz0, hz1, hz2⟩ := info_parts info_int
  have hin : inB (n : Int) 1 4 = true := inB_iff.2 (by omega)
  go_enter Try.func37, Try.ntmps37
  go_wp2_with fail
  go_loopw [3, 4] (fun v i wr => ∃ (t : Nat) (L : List Int), t ≤ n ∧ i = .int .i64 t ∧ L.length = t ∧ wr.ownsRow w.heap.size 3 1 v t (L.map (Value.int .i64)) ∧ Below w.heap.size w wr) (fun _ i _ => n - (intOf i).toNat)
  case atStart => exact ⟨0, [], Nat.zero_le _, rfl, rfl, by simpa using own_empty w _ 1, (by repeat (first | exact Below.refl _ _ | assumption | (refine Below.trans ?_ (Below.mono (by assumption) (by first | omega | (simp; done) | (simp; omega)))) | (with_reducible refine Below.drew ?_) | (with_reducible refine Below.alloc ?_ (by first | omega | (simp; done) | (simp; omega)) _) | (with_reducible refine Below.setCell ?_ (by first | omega | (simp; done) | (simp; omega)) _)))⟩
  case round =>
    obtain ⟨t, L, ht, rfl, hL, hown, hb⟩ := hrel
    have HL := Lib.hid hL
    clear hL
    by_cases hlt : t < n
    · go_wp2_with (first | (go_at_call 17; refine (l1In_any _ _ _ _).mono ?_; rintro e w' ⟨rfl, rfl⟩) | (at_builtin; refine wpList_append_rd _ rfl _ _ 67 rfl w.heap.size 3 i0 _ 1 8 Try.underlying67 hi hz0 hz1 hz2 rfl (by decide) _ _ _ rfl (hown.alloc _) _ 1 1 _ rfl (rd_lit1 ?c0 rfl) ?c2 ?c3 ?c4 ?c5 ?_))
      case c0 => first | rfl | simp
      case c2 => repeat' (first | rfl | apply And.intro)
      case c3 => simp only [maxLen]; omega
      case c4 => omega
      case c5 => have := hb.size; simp; omega
      intro v3 w3 own3 gr3 _
      have b3 := (hb.alloc hb.size _).grown gr3 (by have := hb.size; simp; omega) (own_ge hown)
      clear hown gr3
      go_wp2_with fail
      go_roundw
      case rel => exact ⟨t + 1, L ++ [(t : Int)], by omega, by go_num, by simp [HL.out], by simpa using own3, b3⟩
      case measure => simp [intOf]; omega
    · obtain rfl : t = n := by omega
      go_wp2_with (go_at_call 17; refine (l1In_any _ _ _ _).mono ?_; rintro e w' ⟨rfl, rfl⟩)
      go_ret
      exact ⟨_, L, rfl, HL.out, hown, hb, hb.size⟩
set_option maxRecDepth 100000 in
set_option maxHeartbeats 2000000 in
theorem l8Perm_any (n : Nat) (w : World) (p : Nat) (hcur : CurAt w p) (h1 : 1 ≤ n) (h4 : n ≤ 4) : Calls Try.prog 33 #[.pointer (some ⟨p, 0, none⟩), .int .i64 n] w (DP w p n) := by
  have hp := hcur.lt
  go_enter Try.func33, Try.ntmps33
  go_wp2_with fail
  refine (IdentityPermutation_ints n w h1 h4).mono ?_
  rintro e w1 ⟨v, L, rfl, hL, hown, hb, hs⟩
  have hfr : Fr w p w1 := (Fr.start hcur).below hb
  rcases hown.2 with ⟨_, h0⟩ | ⟨g, cap, cur, rfl, hgb, hh, hcp, hm, _, _⟩
  · omega
  have HL := Lib.hid hL
  clear hL hh hb
  go_wp2_with fail
  go_loopw [6, 7, 8] (fun i _ _ wr => ∃ (t : Nat) (L : List Int), t + 1 ≤ n ∧ i = .int .i64 t ∧ L.length = n ∧ wr.ownsRow w.heap.size 3 1 (.slice (some ⟨g, 0, none⟩) n cap) n (L.map (Value.int .i64)) ∧ Fr w p wr) (fun i _ _ _ => (intOf i).toNat)
  case atStart => exact ⟨n - 1, L, by omega, by congr 1; omega, HL.out, hown, hfr⟩
  case round =>
    clear hown hfr
    obtain ⟨t, L, ht, rfl, hL, hown, hfr⟩ := hrel
    have HL2 := Lib.hid hL
    clear hL
    by_cases hlt : 0 < t
    · go_wp2_with fail
      refine (l1Below_any (t + 1) t wr p hfr.cur (by omega) (by omega) (by omega)).mono ?_
      rintro e w2 ⟨x, hx0, hx1, rfl, hc2, hg2⟩
      obtain ⟨k, rfl⟩ : ∃ k : Nat, x = k := ⟨x.toNat, by omega⟩
      have hfr2 := hfr.call hc2 hg2
      have hown2 : w2.ownsRow w.heap.size 3 1 (.slice (some ⟨g, 0, none⟩) n cap) n (L.map (Value.int .i64)) := hown.kept hg2 (.inr (by
        intro e
        simp [Value.ownBlock] at e
        omega))
      obtain ⟨y1, hy1⟩ : ∃ y, L[t]? = some y := ⟨_, List.getElem?_eq_getElem (by rw [HL2.out]; omega)⟩
      obtain ⟨y2, hy2⟩ : ∃ y, L[k]? = some y := ⟨_, List.getElem?_eq_getElem (by rw [HL2.out]; omega)⟩
      have z1 : w2.cell? ⟨g, t, none⟩ = some (.int .i64 y1) := (hown2.cellAt t (by omega)).trans (by simp [hy1])
      have z2 : w2.cell? ⟨g, k, none⟩ = some (.int .i64 y2) := (hown2.cellAt k (by omega)).trans (by simp [hy2])
      have f1 := hown2.frozenAt t
      have f2 := hown2.frozenAt k
      have HO := Lib.hid hown2
      have HFR := Lib.hid hfr2
      clear hown hown2 hfr hfr2 hy1 hy2 hc2 hg2
      by_cases hkt : k = t
      · subst hkt
        have s0 := (HO.out.stored k (.int .i64 y2))
        have s1 := (s0.1.stored k (.int .i64 y2))
        have HS := Lib.hid (And.intro s0 s1)
        clear s0 s1 z1
        go_wp2_with fail
        go_roundw
        case rel => exact ⟨k - 1, (L.set k y2).set k y2, by omega, by congr 1; omega, by simp [HL2.out], by simpa using HS.out.2.1, (HFR.out.own hp HS.out.1.2 (fun j hj => by injection hj with hj; omega)).own hp HS.out.2.2 (fun j hj => by injection hj with hj; omega)⟩
        case measure => simp [intOf]; omega
      · have s0 := (HO.out.stored t (.int .i64 y2))
        have s1 := (s0.1.stored k (.int .i64 y1))
        have HS := Lib.hid (And.intro s0 s1)
        clear s0 s1
        go_wp2_with fail
        go_roundw
        case rel => exact ⟨t - 1, (L.set t y2).set k y1, by omega, by congr 1; omega, by simp [HL2.out], by simpa using HS.out.2.1, (HFR.out.own hp HS.out.1.2 (fun j hj => by injection hj with hj; omega)).own hp HS.out.2.2 (fun j hj => by injection hj with hj; omega)⟩
        case measure => simp [intOf]; omega
    · obtain rfl : t = 0 := by omega
      go_wp2_with fail
      go_ret
      exact ⟨_, L, rfl, HL2.out, hown, hfr.cur, hfr.gr⟩

theorem free_at {w : World} {b j : Nat} {cs : Array Value} {t : TypeId} (h : w.heap[b]? = some (.cells cs t (0, 0))) : w.frozen? ⟨b, j, none⟩ = false := by simp [World.frozen?, h]

set_option maxRecDepth 100000 in
set_option maxHeartbeats 2000000 in
theorem l9On_any (kind : Int) (n : Nat) (w : World) (p : Nat) (hcur : CurAt w p) (h1 : 1 ≤ n) (h4 : n ≤ 4) (hk : ar kind ≤ n) : Calls Try.prog 29 #[.pointer (some ⟨p, 0, none⟩), .int .i64 kind, .int .i64 n] w (DG w p) := by
  have hp := hcur.lt
  go_enter Try.func29, Try.ntmps29
  go_wp2_with fail
  obtain ⟨w0, hw0⟩ : ∃ w0, w0 = w.alloc (.cells #[.int .i64 0, .int .i64 0, .int .i64 0, .int .i64 0] 59) := ⟨_, rfl⟩
  rw [← hw0]
  have x0 : w0.heap[w.heap.size]? = some (.cells #[.int .i64 0, .int .i64 0, .int .i64 0, .int .i64 0] 59 (0, 0)) := by rw [hw0]; exact boxed1_0 _ _
  have hfr0 : Fr w p w0 := by rw [hw0]; exact (Fr.start hcur).alloc _
  have s0 : w.heap.size < w0.heap.size := by rw [hw0]; simp
  clear hw0
  refine (l8Perm_any n w0 p hfr0.cur h1 h4).mono ?_
  rintro e w1 ⟨v, L, rfl, hL, hown, hc1, hg1⟩
  have x1 := box_call x0 hg1 (by omega)
  have hfr1 := hfr0.call hc1 hg1
  have s1 : w.heap.size < w1.heap.size := by have := hg1.size; omega
  rcases hown.2 with ⟨_, h0⟩ | ⟨g, cap, cur, rfl, hgb, hh, hcp, hm, _, _⟩
  · omega
  obtain ⟨y0, hy0⟩ : ∃ y, L[0]? = some y := ⟨_, List.getElem?_eq_getElem (by omega)⟩
  have z0 : w1.cell? ⟨g, 0, none⟩ = some (.int .i64 y0) := (hown.cellAt 0 (by omega)).trans (by simp [hy0])
  obtain ⟨q0, q1, q2, q3⟩ := boxcells4 (lay := Below.refl _ _) x1
  have f0 := free_at (j := 0) x1
  have f1 := free_at (j := 1) x1
  have f2 := free_at (j := 2) x1
  have f3 := free_at (j := 3) x1
  have hglt : g < w1.heap.size := (hown.lt g rfl).2
  have hne : g ≠ w.heap.size := by omega
  have HL := Lib.hid hL
  have HO := Lib.hid hown
  have har := ar_le kind
  clear hy0 hL hown hh x0 x1 hc1 hg1 hfr0
  by_cases a1 : 1 < ar kind
  · obtain ⟨y1, hy1⟩ : ∃ y, L[1]? = some y := ⟨_, List.getElem?_eq_getElem (by rw [HL.out]; omega)⟩
    have z1 : w1.cell? ⟨g, 1, none⟩ = some (.int .i64 y1) := (HO.out.cellAt 1 (by omega)).trans (by simp [hy1])
    clear hy1
    by_cases a2 : 2 < ar kind
    · obtain ⟨y2, hy2⟩ : ∃ y, L[2]? = some y := ⟨_, List.getElem?_eq_getElem (by rw [HL.out]; omega)⟩
      have z2 : w1.cell? ⟨g, 2, none⟩ = some (.int .i64 y2) := (HO.out.cellAt 2 (by omega)).trans (by simp [hy2])
      clear hy2
      go_wp2_with (go_at_call 28; refine (Arity_spec _ _).mono ?_; rintro e w' ⟨rfl, rfl⟩)
      exact bodyPost_ret (v := .agg #[.int .i64 kind, .int .i64 y0, .int .i64 y1, .int .i64 y2]) (by simp [results, Try.results29, go_sem, s1, q0, q1, q2, q3]) rfl ⟨_, _, _, _, rfl, (Fr.cur (w := w) (by repeat (first | assumption | (with_reducible refine Fr.alloc ?_ _) | (with_reducible refine Fr.set ?_ hp (by first | omega | (simp; done) | (simp; omega)) _)))), (Fr.gr (by repeat (first | assumption | (with_reducible refine Fr.alloc ?_ _) | (with_reducible refine Fr.set ?_ hp (by first | omega | (simp; done) | (simp; omega)) _))))⟩
    · go_wp2_with (go_at_call 28; refine (Arity_spec _ _).mono ?_; rintro e w' ⟨rfl, rfl⟩)
      exact bodyPost_ret (v := .agg #[.int .i64 kind, .int .i64 y0, .int .i64 y1, .int .i64 0]) (by simp [results, Try.results29, go_sem, s1, q0, q1, q2, q3]) rfl ⟨_, _, _, _, rfl, (Fr.cur (w := w) (by repeat (first | assumption | (with_reducible refine Fr.alloc ?_ _) | (with_reducible refine Fr.set ?_ hp (by first | omega | (simp; done) | (simp; omega)) _)))), (Fr.gr (by repeat (first | assumption | (with_reducible refine Fr.alloc ?_ _) | (with_reducible refine Fr.set ?_ hp (by first | omega | (simp; done) | (simp; omega)) _))))⟩
  · go_wp2_with (go_at_call 28; refine (Arity_spec _ _).mono ?_; rintro e w' ⟨rfl, rfl⟩)
    exact bodyPost_ret (v := .agg #[.int .i64 kind, .int .i64 y0, .int .i64 0, .int .i64 0]) (by simp [results, Try.results29, go_sem, s1, q0, q1, q2, q3]) rfl ⟨_, _, _, _, rfl, (Fr.cur (w := w) (by repeat (first | assumption | (with_reducible refine Fr.alloc ?_ _) | (with_reducible refine Fr.set ?_ hp (by first | omega | (simp; done) | (simp; omega)) _)))), (Fr.gr (by repeat (first | assumption | (with_reducible refine Fr.alloc ?_ _) | (with_reducible refine Fr.set ?_ hp (by first | omega | (simp; done) | (simp; omega)) _))))⟩

end Go.Proofs.Ytgjpicekdbemiab
namespace Go.Proofs.Ytgjpicekdbemiab
open Go.RowKit
set_option linter.unusedVariables false
theorem picked {w : World} {L : List Int} {b : Nat} (hb : b = w.heap.size) : Rd (w.alloc (.cells (L.map (Value.int .i64)).toArray 3)) 1 (some ⟨b, 0, none⟩) L.length (L.map (Value.int .i64)) := by
  have h := rd_lit1 (w := w) (cs := (L.map (Value.int .i64)).toArray) (e := 3) (n := L.length) (size := 1) hb (by simp)
  simpa using h
set_option maxRecDepth 100000 in
set_option maxHeartbeats 2000000 in
theorem l9Gate_1 (w : World) (p : Nat) (hcur : CurAt w p) : Calls Try.prog 22 #[.pointer (some ⟨p, 0, none⟩), .int .i64 1] w (DG w p) := by
  have hp := hcur.lt
  go_enter Try.func22, Try.ntmps22
  go_wp2_with fail
  obtain ⟨w0, hw0⟩ : ∃ w0, w0 = (w.alloc (.cells #[.int .i64 0, .int .i64 0, .int .i64 0, .int .i64 0] 59)).alloc (.cells #[.int .i64 0, .int .i64 8, .int .i64 11, .int .i64 12, .int .i64 12] 3) := ⟨_, rfl⟩
  rw [← hw0]
  have x0 : w0.heap[w.heap.size]? = some (.cells #[.int .i64 0, .int .i64 0, .int .i64 0, .int .i64 0] 59 (0, 0)) := by rw [hw0]; exact boxed2_0 _ _ _
  have hfr0 : Fr w p w0 := by rw [hw0]; exact ((Fr.start hcur).alloc _).alloc _
  have s0 : w.heap.size < w0.heap.size := by rw [hw0]; simp; omega
  clear hw0
  refine (l1Below_any 8 11 w0 p hfr0.cur (by omega) (by omega) (by omega)).mono ?_
  rintro e w1 ⟨x, hx0, hx1, rfl, hc1, hg1⟩
  have x1 := box_call x0 hg1 (by omega)
  have hfr1 := hfr0.call hc1 hg1
  have s1 : w.heap.size < w1.heap.size := by have := hg1.size; omega
  have X1 := Lib.hid x1
  clear x0 x1 hc1 hg1 hfr0
  go_wp2_with fail
  refine (l1Once_any 2 w1 p hfr1.cur (by omega) (by omega)).mono ?_
  rintro e w2 ⟨b, rfl, hc2, hg2⟩
  have x2 := box_call X1.out hg2 (by omega)
  have hfr2 := hfr1.call hc2 hg2
  have s2 : w.heap.size < w2.heap.size := by have := hg2.size; omega
  have X2 := Lib.hid x2
  clear X1 x2 hc2 hg2 hfr1
  cases b
  · by_cases hA : 1 < ar (1 + x)
    · go_wp2_with (go_at_call 28; refine (Arity_spec _ _).mono ?_; rintro e w' ⟨rfl, rfl⟩)
      refine (l9On_any (4) 1 w2 p hfr2.cur (by omega) (by omega) (show ar 4 ≤ 1 by decide)).mono ?_
      rintro e w3 ⟨k, a, b, c, rfl, hc, hg⟩
      have x3 := box_call X2.out hg (by omega)
      have hfr3 := hfr2.call hc hg
      have s3 : w.heap.size < w3.heap.size := by have := hg.size; omega
      obtain ⟨q0, q1, q2, q3⟩ := boxcells4 (lay := Below.refl _ _) x3
      have f0 := free_at (j := 0) x3
      have f1 := free_at (j := 1) x3
      have f2 := free_at (j := 2) x3
      have f3 := free_at (j := 3) x3
      clear X2 x3 hc hg hfr2
      go_wp2_with fail
      exact bodyPost_ret (v := .agg #[.int .i64 k, .int .i64 a, .int .i64 b, .int .i64 c]) (by simp [results, Try.results22, go_sem, q0, q1, q2, q3]) rfl ⟨_, _, _, _, rfl, (Fr.cur (w := w) (by repeat (first | assumption | (with_reducible refine Fr.alloc ?_ _) | (with_reducible refine Fr.set ?_ hp (by first | omega | (simp; done) | (simp; omega)) _)))), (Fr.gr (by repeat (first | assumption | (with_reducible refine Fr.alloc ?_ _) | (with_reducible refine Fr.set ?_ hp (by first | omega | (simp; done) | (simp; omega)) _))))⟩
    · go_wp2_with (go_at_call 28; refine (Arity_spec _ _).mono ?_; rintro e w' ⟨rfl, rfl⟩)
      refine (l9On_any (1 + x) 1 w2 p hfr2.cur (by omega) (by omega) (by omega)).mono ?_
      rintro e w3 ⟨k, a, b, c, rfl, hc, hg⟩
      have x3 := box_call X2.out hg (by omega)
      have hfr3 := hfr2.call hc hg
      have s3 : w.heap.size < w3.heap.size := by have := hg.size; omega
      obtain ⟨q0, q1, q2, q3⟩ := boxcells4 (lay := Below.refl _ _) x3
      have f0 := free_at (j := 0) x3
      have f1 := free_at (j := 1) x3
      have f2 := free_at (j := 2) x3
      have f3 := free_at (j := 3) x3
      clear X2 x3 hc hg hfr2
      go_wp2_with fail
      exact bodyPost_ret (v := .agg #[.int .i64 k, .int .i64 a, .int .i64 b, .int .i64 c]) (by simp [results, Try.results22, go_sem, q0, q1, q2, q3]) rfl ⟨_, _, _, _, rfl, (Fr.cur (w := w) (by repeat (first | assumption | (with_reducible refine Fr.alloc ?_ _) | (with_reducible refine Fr.set ?_ hp (by first | omega | (simp; done) | (simp; omega)) _)))), (Fr.gr (by repeat (first | assumption | (with_reducible refine Fr.alloc ?_ _) | (with_reducible refine Fr.set ?_ hp (by first | omega | (simp; done) | (simp; omega)) _))))⟩
  · go_wp2_with fail
    obtain ⟨w3, hw3⟩ : ∃ w3, w3 = w2.alloc (.cells #[.int .i64 4, .int .i64 7, .int .i64 5, .int .i64 8, .int .i64 9, .int .i64 9, .int .i64 9, .int .i64 9] 3) := ⟨_, rfl⟩
    rw [← hw3]
    have x3 : w3.heap[w.heap.size]? = some (.cells #[.int .i64 0, .int .i64 0, .int .i64 0, .int .i64 0] 59 (0, 0)) := by rw [hw3]; exact (Below.heap_alloc _ _ _ s2).trans X2.out
    have hfr3 : Fr w p w3 := by rw [hw3]; exact hfr2.alloc _
    have hpk := picked (w := w2) (L := [4, 7, 5, 8, 9, 9, 9, 9]) rfl
    have hr3 : Rd w3 1 (some ⟨w2.heap.size, 0, none⟩) 8 (([4, 7, 5, 8, 9, 9, 9, 9] : List Int).map (Value.int .i64)) := by rw [hw3]; exact hpk
    have s3 : w.heap.size < w3.heap.size := by rw [hw3]; simp; omega
    clear hw3 hpk X2
    refine (l1PickInt_any w2.heap.size 8 8 [4, 7, 5, 8, 9, 9, 9, 9] w3 p hfr3.cur rfl (by omega) (by omega) hr3 (by omega)).mono ?_
    rintro e w4 ⟨y, hy, rfl, hc4, hg4⟩
    have x4 := box_call x3 hg4 (by omega)
    have hfr4 := hfr3.call hc4 hg4
    have s4 : w.heap.size < w4.heap.size := by have := hg4.size; omega
    have X4 := Lib.hid x4
    clear x3 x4 hc4 hg4 hfr3 hr3 hy
    by_cases hA : 1 < ar (y)
    · go_wp2_with (go_at_call 28; refine (Arity_spec _ _).mono ?_; rintro e w' ⟨rfl, rfl⟩)
      refine (l9On_any (4) 1 w4 p hfr4.cur (by omega) (by omega) (show ar 4 ≤ 1 by decide)).mono ?_
      rintro e w5 ⟨k, a, b, c, rfl, hc, hg⟩
      have x5 := box_call X4.out hg (by omega)
      have hfr5 := hfr4.call hc hg
      have s5 : w.heap.size < w5.heap.size := by have := hg.size; omega
      obtain ⟨q0, q1, q2, q3⟩ := boxcells4 (lay := Below.refl _ _) x5
      have f0 := free_at (j := 0) x5
      have f1 := free_at (j := 1) x5
      have f2 := free_at (j := 2) x5
      have f3 := free_at (j := 3) x5
      clear X4 x5 hc hg hfr4
      go_wp2_with fail
      exact bodyPost_ret (v := .agg #[.int .i64 k, .int .i64 a, .int .i64 b, .int .i64 c]) (by simp [results, Try.results22, go_sem, q0, q1, q2, q3]) rfl ⟨_, _, _, _, rfl, (Fr.cur (w := w) (by repeat (first | assumption | (with_reducible refine Fr.alloc ?_ _) | (with_reducible refine Fr.set ?_ hp (by first | omega | (simp; done) | (simp; omega)) _)))), (Fr.gr (by repeat (first | assumption | (with_reducible refine Fr.alloc ?_ _) | (with_reducible refine Fr.set ?_ hp (by first | omega | (simp; done) | (simp; omega)) _))))⟩
    · go_wp2_with (go_at_call 28; refine (Arity_spec _ _).mono ?_; rintro e w' ⟨rfl, rfl⟩)
      refine (l9On_any (y) 1 w4 p hfr4.cur (by omega) (by omega) (by omega)).mono ?_
      rintro e w5 ⟨k, a, b, c, rfl, hc, hg⟩
      have x5 := box_call X4.out hg (by omega)
      have hfr5 := hfr4.call hc hg
      have s5 : w.heap.size < w5.heap.size := by have := hg.size; omega
      obtain ⟨q0, q1, q2, q3⟩ := boxcells4 (lay := Below.refl _ _) x5
      have f0 := free_at (j := 0) x5
      have f1 := free_at (j := 1) x5
      have f2 := free_at (j := 2) x5
      have f3 := free_at (j := 3) x5
      clear X4 x5 hc hg hfr4
      go_wp2_with fail
      exact bodyPost_ret (v := .agg #[.int .i64 k, .int .i64 a, .int .i64 b, .int .i64 c]) (by simp [results, Try.results22, go_sem, q0, q1, q2, q3]) rfl ⟨_, _, _, _, rfl, (Fr.cur (w := w) (by repeat (first | assumption | (with_reducible refine Fr.alloc ?_ _) | (with_reducible refine Fr.set ?_ hp (by first | omega | (simp; done) | (simp; omega)) _)))), (Fr.gr (by repeat (first | assumption | (with_reducible refine Fr.alloc ?_ _) | (with_reducible refine Fr.set ?_ hp (by first | omega | (simp; done) | (simp; omega)) _))))⟩

set_option maxRecDepth 100000 in
set_option maxHeartbeats 2000000 in
theorem l9Gate_2 (w : World) (p : Nat) (hcur : CurAt w p) : Calls Try.prog 22 #[.pointer (some ⟨p, 0, none⟩), .int .i64 2] w (DG w p) := by
  have hp := hcur.lt
  go_enter Try.func22, Try.ntmps22
  go_wp2_with fail
  obtain ⟨w0, hw0⟩ : ∃ w0, w0 = (w.alloc (.cells #[.int .i64 0, .int .i64 0, .int .i64 0, .int .i64 0] 59)).alloc (.cells #[.int .i64 0, .int .i64 8, .int .i64 11, .int .i64 12, .int .i64 12] 3) := ⟨_, rfl⟩
  rw [← hw0]
  have x0 : w0.heap[w.heap.size]? = some (.cells #[.int .i64 0, .int .i64 0, .int .i64 0, .int .i64 0] 59 (0, 0)) := by rw [hw0]; exact boxed2_0 _ _ _
  have hfr0 : Fr w p w0 := by rw [hw0]; exact ((Fr.start hcur).alloc _).alloc _
  have s0 : w.heap.size < w0.heap.size := by rw [hw0]; simp; omega
  clear hw0
  refine (l1Below_any 11 11 w0 p hfr0.cur (by omega) (by omega) (by omega)).mono ?_
  rintro e w1 ⟨x, hx0, hx1, rfl, hc1, hg1⟩
  have x1 := box_call x0 hg1 (by omega)
  have hfr1 := hfr0.call hc1 hg1
  have s1 : w.heap.size < w1.heap.size := by have := hg1.size; omega
  have X1 := Lib.hid x1
  clear x0 x1 hc1 hg1 hfr0
  go_wp2_with fail
  refine (l1Once_any 2 w1 p hfr1.cur (by omega) (by omega)).mono ?_
  rintro e w2 ⟨b, rfl, hc2, hg2⟩
  have x2 := box_call X1.out hg2 (by omega)
  have hfr2 := hfr1.call hc2 hg2
  have s2 : w.heap.size < w2.heap.size := by have := hg2.size; omega
  have X2 := Lib.hid x2
  clear X1 x2 hc2 hg2 hfr1
  cases b
  · by_cases hA : 2 < ar (1 + x)
    · go_wp2_with (go_at_call 28; refine (Arity_spec _ _).mono ?_; rintro e w' ⟨rfl, rfl⟩)
      refine (l9On_any (4) 2 w2 p hfr2.cur (by omega) (by omega) (show ar 4 ≤ 2 by decide)).mono ?_
      rintro e w3 ⟨k, a, b, c, rfl, hc, hg⟩
      have x3 := box_call X2.out hg (by omega)
      have hfr3 := hfr2.call hc hg
      have s3 : w.heap.size < w3.heap.size := by have := hg.size; omega
      obtain ⟨q0, q1, q2, q3⟩ := boxcells4 (lay := Below.refl _ _) x3
      have f0 := free_at (j := 0) x3
      have f1 := free_at (j := 1) x3
      have f2 := free_at (j := 2) x3
      have f3 := free_at (j := 3) x3
      clear X2 x3 hc hg hfr2
      go_wp2_with fail
      exact bodyPost_ret (v := .agg #[.int .i64 k, .int .i64 a, .int .i64 b, .int .i64 c]) (by simp [results, Try.results22, go_sem, q0, q1, q2, q3]) rfl ⟨_, _, _, _, rfl, (Fr.cur (w := w) (by repeat (first | assumption | (with_reducible refine Fr.alloc ?_ _) | (with_reducible refine Fr.set ?_ hp (by first | omega | (simp; done) | (simp; omega)) _)))), (Fr.gr (by repeat (first | assumption | (with_reducible refine Fr.alloc ?_ _) | (with_reducible refine Fr.set ?_ hp (by first | omega | (simp; done) | (simp; omega)) _))))⟩
    · go_wp2_with (go_at_call 28; refine (Arity_spec _ _).mono ?_; rintro e w' ⟨rfl, rfl⟩)
      refine (l9On_any (1 + x) 2 w2 p hfr2.cur (by omega) (by omega) (by omega)).mono ?_
      rintro e w3 ⟨k, a, b, c, rfl, hc, hg⟩
      have x3 := box_call X2.out hg (by omega)
      have hfr3 := hfr2.call hc hg
      have s3 : w.heap.size < w3.heap.size := by have := hg.size; omega
      obtain ⟨q0, q1, q2, q3⟩ := boxcells4 (lay := Below.refl _ _) x3
      have f0 := free_at (j := 0) x3
      have f1 := free_at (j := 1) x3
      have f2 := free_at (j := 2) x3
      have f3 := free_at (j := 3) x3
      clear X2 x3 hc hg hfr2
      go_wp2_with fail
      exact bodyPost_ret (v := .agg #[.int .i64 k, .int .i64 a, .int .i64 b, .int .i64 c]) (by simp [results, Try.results22, go_sem, q0, q1, q2, q3]) rfl ⟨_, _, _, _, rfl, (Fr.cur (w := w) (by repeat (first | assumption | (with_reducible refine Fr.alloc ?_ _) | (with_reducible refine Fr.set ?_ hp (by first | omega | (simp; done) | (simp; omega)) _)))), (Fr.gr (by repeat (first | assumption | (with_reducible refine Fr.alloc ?_ _) | (with_reducible refine Fr.set ?_ hp (by first | omega | (simp; done) | (simp; omega)) _))))⟩
  · go_wp2_with fail
    obtain ⟨w3, hw3⟩ : ∃ w3, w3 = w2.alloc (.cells #[.int .i64 4, .int .i64 7, .int .i64 5, .int .i64 8, .int .i64 9, .int .i64 9, .int .i64 9, .int .i64 9] 3) := ⟨_, rfl⟩
    rw [← hw3]
    have x3 : w3.heap[w.heap.size]? = some (.cells #[.int .i64 0, .int .i64 0, .int .i64 0, .int .i64 0] 59 (0, 0)) := by rw [hw3]; exact (Below.heap_alloc _ _ _ s2).trans X2.out
    have hfr3 : Fr w p w3 := by rw [hw3]; exact hfr2.alloc _
    have hpk := picked (w := w2) (L := [4, 7, 5, 8, 9, 9, 9, 9]) rfl
    have hr3 : Rd w3 1 (some ⟨w2.heap.size, 0, none⟩) 8 (([4, 7, 5, 8, 9, 9, 9, 9] : List Int).map (Value.int .i64)) := by rw [hw3]; exact hpk
    have s3 : w.heap.size < w3.heap.size := by rw [hw3]; simp; omega
    clear hw3 hpk X2
    refine (l1PickInt_any w2.heap.size 8 8 [4, 7, 5, 8, 9, 9, 9, 9] w3 p hfr3.cur rfl (by omega) (by omega) hr3 (by omega)).mono ?_
    rintro e w4 ⟨y, hy, rfl, hc4, hg4⟩
    have x4 := box_call x3 hg4 (by omega)
    have hfr4 := hfr3.call hc4 hg4
    have s4 : w.heap.size < w4.heap.size := by have := hg4.size; omega
    have X4 := Lib.hid x4
    clear x3 x4 hc4 hg4 hfr3 hr3 hy
    by_cases hA : 2 < ar (y)
    · go_wp2_with (go_at_call 28; refine (Arity_spec _ _).mono ?_; rintro e w' ⟨rfl, rfl⟩)
      refine (l9On_any (4) 2 w4 p hfr4.cur (by omega) (by omega) (show ar 4 ≤ 2 by decide)).mono ?_
      rintro e w5 ⟨k, a, b, c, rfl, hc, hg⟩
      have x5 := box_call X4.out hg (by omega)
      have hfr5 := hfr4.call hc hg
      have s5 : w.heap.size < w5.heap.size := by have := hg.size; omega
      obtain ⟨q0, q1, q2, q3⟩ := boxcells4 (lay := Below.refl _ _) x5
      have f0 := free_at (j := 0) x5
      have f1 := free_at (j := 1) x5
      have f2 := free_at (j := 2) x5
      have f3 := free_at (j := 3) x5
      clear X4 x5 hc hg hfr4
      go_wp2_with fail
      exact bodyPost_ret (v := .agg #[.int .i64 k, .int .i64 a, .int .i64 b, .int .i64 c]) (by simp [results, Try.results22, go_sem, q0, q1, q2, q3]) rfl ⟨_, _, _, _, rfl, (Fr.cur (w := w) (by repeat (first | assumption | (with_reducible refine Fr.alloc ?_ _) | (with_reducible refine Fr.set ?_ hp (by first | omega | (simp; done) | (simp; omega)) _)))), (Fr.gr (by repeat (first | assumption | (with_reducible refine Fr.alloc ?_ _) | (with_reducible refine Fr.set ?_ hp (by first | omega | (simp; done) | (simp; omega)) _))))⟩
    · go_wp2_with (go_at_call 28; refine (Arity_spec _ _).mono ?_; rintro e w' ⟨rfl, rfl⟩)
      refine (l9On_any (y) 2 w4 p hfr4.cur (by omega) (by omega) (by omega)).mono ?_
      rintro e w5 ⟨k, a, b, c, rfl, hc, hg⟩
      have x5 := box_call X4.out hg (by omega)
      have hfr5 := hfr4.call hc hg
      have s5 : w.heap.size < w5.heap.size := by have := hg.size; omega
      obtain ⟨q0, q1, q2, q3⟩ := boxcells4 (lay := Below.refl _ _) x5
      have f0 := free_at (j := 0) x5
      have f1 := free_at (j := 1) x5
      have f2 := free_at (j := 2) x5
      have f3 := free_at (j := 3) x5
      clear X4 x5 hc hg hfr4
      go_wp2_with fail
      exact bodyPost_ret (v := .agg #[.int .i64 k, .int .i64 a, .int .i64 b, .int .i64 c]) (by simp [results, Try.results22, go_sem, q0, q1, q2, q3]) rfl ⟨_, _, _, _, rfl, (Fr.cur (w := w) (by repeat (first | assumption | (with_reducible refine Fr.alloc ?_ _) | (with_reducible refine Fr.set ?_ hp (by first | omega | (simp; done) | (simp; omega)) _)))), (Fr.gr (by repeat (first | assumption | (with_reducible refine Fr.alloc ?_ _) | (with_reducible refine Fr.set ?_ hp (by first | omega | (simp; done) | (simp; omega)) _))))⟩

set_option maxRecDepth 100000 in
set_option maxHeartbeats 2000000 in
theorem l9Gate_3 (w : World) (p : Nat) (hcur : CurAt w p) : Calls Try.prog 22 #[.pointer (some ⟨p, 0, none⟩), .int .i64 3] w (DG w p) := by
  have hp := hcur.lt
  go_enter Try.func22, Try.ntmps22
  go_wp2_with fail
  obtain ⟨w0, hw0⟩ : ∃ w0, w0 = (w.alloc (.cells #[.int .i64 0, .int .i64 0, .int .i64 0, .int .i64 0] 59)).alloc (.cells #[.int .i64 0, .int .i64 8, .int .i64 11, .int .i64 12, .int .i64 12] 3) := ⟨_, rfl⟩
  rw [← hw0]
  have x0 : w0.heap[w.heap.size]? = some (.cells #[.int .i64 0, .int .i64 0, .int .i64 0, .int .i64 0] 59 (0, 0)) := by rw [hw0]; exact boxed2_0 _ _ _
  have hfr0 : Fr w p w0 := by rw [hw0]; exact ((Fr.start hcur).alloc _).alloc _
  have s0 : w.heap.size < w0.heap.size := by rw [hw0]; simp; omega
  clear hw0
  refine (l1Below_any 12 11 w0 p hfr0.cur (by omega) (by omega) (by omega)).mono ?_
  rintro e w1 ⟨x, hx0, hx1, rfl, hc1, hg1⟩
  have x1 := box_call x0 hg1 (by omega)
  have hfr1 := hfr0.call hc1 hg1
  have s1 : w.heap.size < w1.heap.size := by have := hg1.size; omega
  have X1 := Lib.hid x1
  clear x0 x1 hc1 hg1 hfr0
  go_wp2_with fail
  refine (l1Once_any 2 w1 p hfr1.cur (by omega) (by omega)).mono ?_
  rintro e w2 ⟨b, rfl, hc2, hg2⟩
  have x2 := box_call X1.out hg2 (by omega)
  have hfr2 := hfr1.call hc2 hg2
  have s2 : w.heap.size < w2.heap.size := by have := hg2.size; omega
  have X2 := Lib.hid x2
  clear X1 x2 hc2 hg2 hfr1
  cases b
  · by_cases hA : 3 < ar (1 + x)
    · go_wp2_with (go_at_call 28; refine (Arity_spec _ _).mono ?_; rintro e w' ⟨rfl, rfl⟩)
      refine (l9On_any (4) 3 w2 p hfr2.cur (by omega) (by omega) (show ar 4 ≤ 3 by decide)).mono ?_
      rintro e w3 ⟨k, a, b, c, rfl, hc, hg⟩
      have x3 := box_call X2.out hg (by omega)
      have hfr3 := hfr2.call hc hg
      have s3 : w.heap.size < w3.heap.size := by have := hg.size; omega
      obtain ⟨q0, q1, q2, q3⟩ := boxcells4 (lay := Below.refl _ _) x3
      have f0 := free_at (j := 0) x3
      have f1 := free_at (j := 1) x3
      have f2 := free_at (j := 2) x3
      have f3 := free_at (j := 3) x3
      clear X2 x3 hc hg hfr2
      go_wp2_with fail
      exact bodyPost_ret (v := .agg #[.int .i64 k, .int .i64 a, .int .i64 b, .int .i64 c]) (by simp [results, Try.results22, go_sem, q0, q1, q2, q3]) rfl ⟨_, _, _, _, rfl, (Fr.cur (w := w) (by repeat (first | assumption | (with_reducible refine Fr.alloc ?_ _) | (with_reducible refine Fr.set ?_ hp (by first | omega | (simp; done) | (simp; omega)) _)))), (Fr.gr (by repeat (first | assumption | (with_reducible refine Fr.alloc ?_ _) | (with_reducible refine Fr.set ?_ hp (by first | omega | (simp; done) | (simp; omega)) _))))⟩
    · go_wp2_with (go_at_call 28; refine (Arity_spec _ _).mono ?_; rintro e w' ⟨rfl, rfl⟩)
      refine (l9On_any (1 + x) 3 w2 p hfr2.cur (by omega) (by omega) (by omega)).mono ?_
      rintro e w3 ⟨k, a, b, c, rfl, hc, hg⟩
      have x3 := box_call X2.out hg (by omega)
      have hfr3 := hfr2.call hc hg
      have s3 : w.heap.size < w3.heap.size := by have := hg.size; omega
      obtain ⟨q0, q1, q2, q3⟩ := boxcells4 (lay := Below.refl _ _) x3
      have f0 := free_at (j := 0) x3
      have f1 := free_at (j := 1) x3
      have f2 := free_at (j := 2) x3
      have f3 := free_at (j := 3) x3
      clear X2 x3 hc hg hfr2
      go_wp2_with fail
      exact bodyPost_ret (v := .agg #[.int .i64 k, .int .i64 a, .int .i64 b, .int .i64 c]) (by simp [results, Try.results22, go_sem, q0, q1, q2, q3]) rfl ⟨_, _, _, _, rfl, (Fr.cur (w := w) (by repeat (first | assumption | (with_reducible refine Fr.alloc ?_ _) | (with_reducible refine Fr.set ?_ hp (by first | omega | (simp; done) | (simp; omega)) _)))), (Fr.gr (by repeat (first | assumption | (with_reducible refine Fr.alloc ?_ _) | (with_reducible refine Fr.set ?_ hp (by first | omega | (simp; done) | (simp; omega)) _))))⟩
  · go_wp2_with fail
    obtain ⟨w3, hw3⟩ : ∃ w3, w3 = w2.alloc (.cells #[.int .i64 4, .int .i64 7, .int .i64 5, .int .i64 8, .int .i64 9, .int .i64 9, .int .i64 9, .int .i64 9] 3) := ⟨_, rfl⟩
    rw [← hw3]
    have x3 : w3.heap[w.heap.size]? = some (.cells #[.int .i64 0, .int .i64 0, .int .i64 0, .int .i64 0] 59 (0, 0)) := by rw [hw3]; exact (Below.heap_alloc _ _ _ s2).trans X2.out
    have hfr3 : Fr w p w3 := by rw [hw3]; exact hfr2.alloc _
    have hpk := picked (w := w2) (L := [4, 7, 5, 8, 9, 9, 9, 9]) rfl
    have hr3 : Rd w3 1 (some ⟨w2.heap.size, 0, none⟩) 8 (([4, 7, 5, 8, 9, 9, 9, 9] : List Int).map (Value.int .i64)) := by rw [hw3]; exact hpk
    have s3 : w.heap.size < w3.heap.size := by rw [hw3]; simp; omega
    clear hw3 hpk X2
    refine (l1PickInt_any w2.heap.size 8 8 [4, 7, 5, 8, 9, 9, 9, 9] w3 p hfr3.cur rfl (by omega) (by omega) hr3 (by omega)).mono ?_
    rintro e w4 ⟨y, hy, rfl, hc4, hg4⟩
    have x4 := box_call x3 hg4 (by omega)
    have hfr4 := hfr3.call hc4 hg4
    have s4 : w.heap.size < w4.heap.size := by have := hg4.size; omega
    have X4 := Lib.hid x4
    clear x3 x4 hc4 hg4 hfr3 hr3 hy
    by_cases hA : 3 < ar (y)
    · go_wp2_with (go_at_call 28; refine (Arity_spec _ _).mono ?_; rintro e w' ⟨rfl, rfl⟩)
      refine (l9On_any (4) 3 w4 p hfr4.cur (by omega) (by omega) (show ar 4 ≤ 3 by decide)).mono ?_
      rintro e w5 ⟨k, a, b, c, rfl, hc, hg⟩
      have x5 := box_call X4.out hg (by omega)
      have hfr5 := hfr4.call hc hg
      have s5 : w.heap.size < w5.heap.size := by have := hg.size; omega
      obtain ⟨q0, q1, q2, q3⟩ := boxcells4 (lay := Below.refl _ _) x5
      have f0 := free_at (j := 0) x5
      have f1 := free_at (j := 1) x5
      have f2 := free_at (j := 2) x5
      have f3 := free_at (j := 3) x5
      clear X4 x5 hc hg hfr4
      go_wp2_with fail
      exact bodyPost_ret (v := .agg #[.int .i64 k, .int .i64 a, .int .i64 b, .int .i64 c]) (by simp [results, Try.results22, go_sem, q0, q1, q2, q3]) rfl ⟨_, _, _, _, rfl, (Fr.cur (w := w) (by repeat (first | assumption | (with_reducible refine Fr.alloc ?_ _) | (with_reducible refine Fr.set ?_ hp (by first | omega | (simp; done) | (simp; omega)) _)))), (Fr.gr (by repeat (first | assumption | (with_reducible refine Fr.alloc ?_ _) | (with_reducible refine Fr.set ?_ hp (by first | omega | (simp; done) | (simp; omega)) _))))⟩
    · go_wp2_with (go_at_call 28; refine (Arity_spec _ _).mono ?_; rintro e w' ⟨rfl, rfl⟩)
      refine (l9On_any (y) 3 w4 p hfr4.cur (by omega) (by omega) (by omega)).mono ?_
      rintro e w5 ⟨k, a, b, c, rfl, hc, hg⟩
      have x5 := box_call X4.out hg (by omega)
      have hfr5 := hfr4.call hc hg
      have s5 : w.heap.size < w5.heap.size := by have := hg.size; omega
      obtain ⟨q0, q1, q2, q3⟩ := boxcells4 (lay := Below.refl _ _) x5
      have f0 := free_at (j := 0) x5
      have f1 := free_at (j := 1) x5
      have f2 := free_at (j := 2) x5
      have f3 := free_at (j := 3) x5
      clear X4 x5 hc hg hfr4
      go_wp2_with fail
      exact bodyPost_ret (v := .agg #[.int .i64 k, .int .i64 a, .int .i64 b, .int .i64 c]) (by simp [results, Try.results22, go_sem, q0, q1, q2, q3]) rfl ⟨_, _, _, _, rfl, (Fr.cur (w := w) (by repeat (first | assumption | (with_reducible refine Fr.alloc ?_ _) | (with_reducible refine Fr.set ?_ hp (by first | omega | (simp; done) | (simp; omega)) _)))), (Fr.gr (by repeat (first | assumption | (with_reducible refine Fr.alloc ?_ _) | (with_reducible refine Fr.set ?_ hp (by first | omega | (simp; done) | (simp; omega)) _))))⟩

set_option maxRecDepth 100000 in
set_option maxHeartbeats 2000000 in
theorem l9Gate_4 (w : World) (p : Nat) (hcur : CurAt w p) : Calls Try.prog 22 #[.pointer (some ⟨p, 0, none⟩), .int .i64 4] w (DG w p) := by
  have hp := hcur.lt
  go_enter Try.func22, Try.ntmps22
  go_wp2_with fail
  obtain ⟨w0, hw0⟩ : ∃ w0, w0 = (w.alloc (.cells #[.int .i64 0, .int .i64 0, .int .i64 0, .int .i64 0] 59)).alloc (.cells #[.int .i64 0, .int .i64 8, .int .i64 11, .int .i64 12, .int .i64 12] 3) := ⟨_, rfl⟩
  rw [← hw0]
  have x0 : w0.heap[w.heap.size]? = some (.cells #[.int .i64 0, .int .i64 0, .int .i64 0, .int .i64 0] 59 (0, 0)) := by rw [hw0]; exact boxed2_0 _ _ _
  have hfr0 : Fr w p w0 := by rw [hw0]; exact ((Fr.start hcur).alloc _).alloc _
  have s0 : w.heap.size < w0.heap.size := by rw [hw0]; simp; omega
  clear hw0
  refine (l1Below_any 12 11 w0 p hfr0.cur (by omega) (by omega) (by omega)).mono ?_
  rintro e w1 ⟨x, hx0, hx1, rfl, hc1, hg1⟩
  have x1 := box_call x0 hg1 (by omega)
  have hfr1 := hfr0.call hc1 hg1
  have s1 : w.heap.size < w1.heap.size := by have := hg1.size; omega
  have X1 := Lib.hid x1
  clear x0 x1 hc1 hg1 hfr0
  go_wp2_with fail
  refine (l1Once_any 2 w1 p hfr1.cur (by omega) (by omega)).mono ?_
  rintro e w2 ⟨b, rfl, hc2, hg2⟩
  have x2 := box_call X1.out hg2 (by omega)
  have hfr2 := hfr1.call hc2 hg2
  have s2 : w.heap.size < w2.heap.size := by have := hg2.size; omega
  have X2 := Lib.hid x2
  clear X1 x2 hc2 hg2 hfr1
  cases b
  · by_cases hA : 4 < ar (1 + x)
    · go_wp2_with (go_at_call 28; refine (Arity_spec _ _).mono ?_; rintro e w' ⟨rfl, rfl⟩)
      refine (l9On_any (4) 4 w2 p hfr2.cur (by omega) (by omega) (show ar 4 ≤ 4 by decide)).mono ?_
      rintro e w3 ⟨k, a, b, c, rfl, hc, hg⟩
      have x3 := box_call X2.out hg (by omega)
      have hfr3 := hfr2.call hc hg
      have s3 : w.heap.size < w3.heap.size := by have := hg.size; omega
      obtain ⟨q0, q1, q2, q3⟩ := boxcells4 (lay := Below.refl _ _) x3
      have f0 := free_at (j := 0) x3
      have f1 := free_at (j := 1) x3
      have f2 := free_at (j := 2) x3
      have f3 := free_at (j := 3) x3
      clear X2 x3 hc hg hfr2
      go_wp2_with fail
      exact bodyPost_ret (v := .agg #[.int .i64 k, .int .i64 a, .int .i64 b, .int .i64 c]) (by simp [results, Try.results22, go_sem, q0, q1, q2, q3]) rfl ⟨_, _, _, _, rfl, (Fr.cur (w := w) (by repeat (first | assumption | (with_reducible refine Fr.alloc ?_ _) | (with_reducible refine Fr.set ?_ hp (by first | omega | (simp; done) | (simp; omega)) _)))), (Fr.gr (by repeat (first | assumption | (with_reducible refine Fr.alloc ?_ _) | (with_reducible refine Fr.set ?_ hp (by first | omega | (simp; done) | (simp; omega)) _))))⟩
    · go_wp2_with (go_at_call 28; refine (Arity_spec _ _).mono ?_; rintro e w' ⟨rfl, rfl⟩)
      refine (l9On_any (1 + x) 4 w2 p hfr2.cur (by omega) (by omega) (by omega)).mono ?_
      rintro e w3 ⟨k, a, b, c, rfl, hc, hg⟩
      have x3 := box_call X2.out hg (by omega)
      have hfr3 := hfr2.call hc hg
      have s3 : w.heap.size < w3.heap.size := by have := hg.size; omega
      obtain ⟨q0, q1, q2, q3⟩ := boxcells4 (lay := Below.refl _ _) x3
      have f0 := free_at (j := 0) x3
      have f1 := free_at (j := 1) x3
      have f2 := free_at (j := 2) x3
      have f3 := free_at (j := 3) x3
      clear X2 x3 hc hg hfr2
      go_wp2_with fail
      exact bodyPost_ret (v := .agg #[.int .i64 k, .int .i64 a, .int .i64 b, .int .i64 c]) (by simp [results, Try.results22, go_sem, q0, q1, q2, q3]) rfl ⟨_, _, _, _, rfl, (Fr.cur (w := w) (by repeat (first | assumption | (with_reducible refine Fr.alloc ?_ _) | (with_reducible refine Fr.set ?_ hp (by first | omega | (simp; done) | (simp; omega)) _)))), (Fr.gr (by repeat (first | assumption | (with_reducible refine Fr.alloc ?_ _) | (with_reducible refine Fr.set ?_ hp (by first | omega | (simp; done) | (simp; omega)) _))))⟩
  · go_wp2_with fail
    obtain ⟨w3, hw3⟩ : ∃ w3, w3 = w2.alloc (.cells #[.int .i64 4, .int .i64 7, .int .i64 5, .int .i64 8, .int .i64 9, .int .i64 9, .int .i64 9, .int .i64 9] 3) := ⟨_, rfl⟩
    rw [← hw3]
    have x3 : w3.heap[w.heap.size]? = some (.cells #[.int .i64 0, .int .i64 0, .int .i64 0, .int .i64 0] 59 (0, 0)) := by rw [hw3]; exact (Below.heap_alloc _ _ _ s2).trans X2.out
    have hfr3 : Fr w p w3 := by rw [hw3]; exact hfr2.alloc _
    have hpk := picked (w := w2) (L := [4, 7, 5, 8, 9, 9, 9, 9]) rfl
    have hr3 : Rd w3 1 (some ⟨w2.heap.size, 0, none⟩) 8 (([4, 7, 5, 8, 9, 9, 9, 9] : List Int).map (Value.int .i64)) := by rw [hw3]; exact hpk
    have s3 : w.heap.size < w3.heap.size := by rw [hw3]; simp; omega
    clear hw3 hpk X2
    refine (l1PickInt_any w2.heap.size 8 8 [4, 7, 5, 8, 9, 9, 9, 9] w3 p hfr3.cur rfl (by omega) (by omega) hr3 (by omega)).mono ?_
    rintro e w4 ⟨y, hy, rfl, hc4, hg4⟩
    have x4 := box_call x3 hg4 (by omega)
    have hfr4 := hfr3.call hc4 hg4
    have s4 : w.heap.size < w4.heap.size := by have := hg4.size; omega
    have X4 := Lib.hid x4
    clear x3 x4 hc4 hg4 hfr3 hr3 hy
    by_cases hA : 4 < ar (y)
    · go_wp2_with (go_at_call 28; refine (Arity_spec _ _).mono ?_; rintro e w' ⟨rfl, rfl⟩)
      refine (l9On_any (4) 4 w4 p hfr4.cur (by omega) (by omega) (show ar 4 ≤ 4 by decide)).mono ?_
      rintro e w5 ⟨k, a, b, c, rfl, hc, hg⟩
      have x5 := box_call X4.out hg (by omega)
      have hfr5 := hfr4.call hc hg
      have s5 : w.heap.size < w5.heap.size := by have := hg.size; omega
      obtain ⟨q0, q1, q2, q3⟩ := boxcells4 (lay := Below.refl _ _) x5
      have f0 := free_at (j := 0) x5
      have f1 := free_at (j := 1) x5
      have f2 := free_at (j := 2) x5
      have f3 := free_at (j := 3) x5
      clear X4 x5 hc hg hfr4
      go_wp2_with fail
      exact bodyPost_ret (v := .agg #[.int .i64 k, .int .i64 a, .int .i64 b, .int .i64 c]) (by simp [results, Try.results22, go_sem, q0, q1, q2, q3]) rfl ⟨_, _, _, _, rfl, (Fr.cur (w := w) (by repeat (first | assumption | (with_reducible refine Fr.alloc ?_ _) | (with_reducible refine Fr.set ?_ hp (by first | omega | (simp; done) | (simp; omega)) _)))), (Fr.gr (by repeat (first | assumption | (with_reducible refine Fr.alloc ?_ _) | (with_reducible refine Fr.set ?_ hp (by first | omega | (simp; done) | (simp; omega)) _))))⟩
    · go_wp2_with (go_at_call 28; refine (Arity_spec _ _).mono ?_; rintro e w' ⟨rfl, rfl⟩)
      refine (l9On_any (y) 4 w4 p hfr4.cur (by omega) (by omega) (by omega)).mono ?_
      rintro e w5 ⟨k, a, b, c, rfl, hc, hg⟩
      have x5 := box_call X4.out hg (by omega)
      have hfr5 := hfr4.call hc hg
      have s5 : w.heap.size < w5.heap.size := by have := hg.size; omega
      obtain ⟨q0, q1, q2, q3⟩ := boxcells4 (lay := Below.refl _ _) x5
      have f0 := free_at (j := 0) x5
      have f1 := free_at (j := 1) x5
      have f2 := free_at (j := 2) x5
      have f3 := free_at (j := 3) x5
      clear X4 x5 hc hg hfr4
      go_wp2_with fail
      exact bodyPost_ret (v := .agg #[.int .i64 k, .int .i64 a, .int .i64 b, .int .i64 c]) (by simp [results, Try.results22, go_sem, q0, q1, q2, q3]) rfl ⟨_, _, _, _, rfl, (Fr.cur (w := w) (by repeat (first | assumption | (with_reducible refine Fr.alloc ?_ _) | (with_reducible refine Fr.set ?_ hp (by first | omega | (simp; done) | (simp; omega)) _)))), (Fr.gr (by repeat (first | assumption | (with_reducible refine Fr.alloc ?_ _) | (with_reducible refine Fr.set ?_ hp (by first | omega | (simp; done) | (simp; omega)) _))))⟩

theorem l9Gate_any (n : Nat) (w : World) (p : Nat) (hcur : CurAt w p) (h1 : 1 ≤ n) (h4 : n ≤ 4) : Calls Try.prog 22 #[.pointer (some ⟨p, 0, none⟩), .int .i64 n] w (DG w p) := by
  have hn : n = 1 ∨ n = 2 ∨ n = 3 ∨ n = 4 := by omega
  rcases hn with rfl | rfl | rfl | rfl
  · exact l9Gate_1 w p hcur
  · exact l9Gate_2 w p hcur
  · exact l9Gate_3 w p hcur
  · exact l9Gate_4 w p hcur


end Go.Proofs.Ytgjpicekdbemiab
