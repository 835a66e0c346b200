/- The reference's scaling of a state by one, its check of a matrix, and the phase between a matrix and itself. -/
import Derived.Test.YtgjpicekdbemiaaApL
import Derived.Test.YtgjpicekdbemiaaEqD
namespace Go.Proofs.Ytgjpicekdbemiaa
open Go.RowKit
set_option linter.unusedVariables false
theorem mulD_one {x : Dm} (h : dOk x = true) : mulD x ⟨1, 0, 0, 0, 0⟩ = some x := by
  have h' := h
  simp only [dOk, Bool.and_eq_true, Bool.or_eq_true, inB_iff, beq_iff_eq] at h'
  obtain ⟨hz, ⟨h0, h1⟩, hr⟩ := h'
  have hp : zprod x.n ⟨1, 0, 0, 0⟩ = x.n := by apply Zw.ext' <;> simp [zprod]
  have h1' : dOk ⟨1, 0, 0, 0, 0⟩ = true := by decide +kernel
  have hm : zmul x.n (Dm.n ⟨1, 0, 0, 0, 0⟩) = some x.n := by
    show zmul x.n ⟨1, 0, 0, 0⟩ = _
    rw [zmul, hz, show zOk ⟨1, 0, 0, 0⟩ = true from by decide +kernel, if_pos (by rfl), hp, zif_t hz]
  have hred : red x.e.toNat x.n = (x.n, x.e.toNat) := by
    cases hk : x.e.toNat with
    | zero => rfl
    | succ k =>
      rcases hr with hr | hr
      · cases hzd : zdiv x.n with
        | none => rw [red, hzd]
        | some m => rw [hzd] at hr; cases hr
      · rw [hr] at hk; cases hk
  have hnd : newD x.n x.e = some x := by
    unfold newD
    rw [hz, show inB x.e 0 120 = true from inB_iff.2 ⟨h0, by omega⟩, if_pos (by rfl), hred]
    rw [if_pos (by show x.e.toNat ≤ 60; omega)]
    show some (dmk x.n (x.e.toNat : Int)) = some x
    rw [Int.toNat_of_nonneg h0]
    rfl
  unfold mulD
  rw [h, h1', if_pos (by rfl), hm]
  show newD x.n (x.e + 0) = some x
  rw [Int.add_zero]
  exact hnd
theorem stOk_at {l : List Dm} (h : stOk l = true) {x : Dm} (hx : x ∈ l) : dOk x = true := by
  simp only [stOk, Bool.and_eq_true, List.all_eq_true] at h
  exact h.1 x hx
/-- A call that returns a state that is another one's copy. -/
def RetSt (w : World) (l : List Dm) (e : Ending) (w' : World) : Prop := ∃ (A : Option Addr) (c : Nat), e = .returned (.tuple #[.slice A l.length c, .bool true]) ∧ w'.ownsRow w.heap.size 67 5 (.slice A l.length c) l.length (l.flatMap dcells) ∧ Below w.heap.size w w' ∧ w.heap.size ≤ w'.heap.size
section
attribute [local go_sem ↓ high] fold_append
set_option maxRecDepth 100000 in
set_option maxHeartbeats 8000000 in
theorem ScaleState_one (A : Option Addr) (n c : Nat) (l : List Dm) (w : World) (h : Rd w 5 A n (l.flatMap dcells)) (hl : l.length = n) (hn : n ≤ 1099511627776) (hst : stOk l = true) :
    Calls Try.prog 40 #[.slice A n c, .agg #[.int .i64 1, .int .i64 0, .int .i64 0, .int .i64 0, .int .i64 0]] w (RetSt w l) := by
  obtain ⟨i0, hi, hz0, hz1, hz2⟩ := info_parts info_DOmegaE
  have HV := Lib.hid (fun (w' : World) (hb : Below w.heap.size w w') => hst ▸ IsValidState_any A n c l w' (h.below hb) hl hn)
  have H := Lib.hid h
  have HL := Lib.hid hl
  have HST := Lib.hid hst
  clear h hl hst
  go_enter Try.func40, Try.ntmps40
  go_upto_region 1 with (fail)
  obtain ⟨w0, hw0⟩ : ∃ w0, w0 = w.alloc (.cells #[.int .i64 1, .int .i64 0, .int .i64 0, .int .i64 0, .int .i64 0] 67) := ⟨_, rfl⟩
  rw [← hw0]
  have x0 : w0.heap[w.heap.size]? = some (.cells #[.int .i64 1, .int .i64 0, .int .i64 0, .int .i64 0, .int .i64 0] 67 (0, 0)) := by rw [hw0]; exact boxed1_0 _ _
  have b0 : Below w.heap.size w w0 := by rw [hw0]; exact (by repeat (first | exact Below.refl _ _ | assumption | (refine Below.trans ?_ (Below.mono (by assumption) (by first | omega | (simp; done) | (simp; omega)))) | (with_reducible refine Below.drew ?_) | (with_reducible refine Below.alloc ?_ (by first | omega | (simp; done) | (simp; omega)) _) | (with_reducible refine Below.setCell ?_ (by first | omega | (simp; done) | (simp; omega)) _)))
  have s0 : w.heap.size + 1 = w0.heap.size := by rw [hw0]; simp
  clear hw0
  go_wp2_with fail
  go_loopw [6, 7] (fun v i wr => ∃ (t : Nat) (A2 : Option Addr) (c2 : Nat), v = .slice A2 t c2 ∧ i = .int .i64 t ∧ t ≤ n ∧ wr.ownsRow (w.heap.size + 1) 67 5 (.slice A2 t c2) t ((l.take t).flatMap dcells) ∧ wr.heap[w.heap.size]? = some (.cells #[.int .i64 1, .int .i64 0, .int .i64 0, .int .i64 0, .int .i64 0] 67 (0, 0)) ∧ Below w.heap.size w wr) (fun _ i _ => n - (intOf i).toNat)
  case atStart => exact ⟨0, _, 0, rfl, rfl, Nat.zero_le _, own_lowS (own_empty _ _ _) (by omega), (Below.heap_alloc _ _ _ (by omega)).trans x0, b0.alloc b0.size _⟩
  case round =>
    obtain ⟨t, A2, c2, rfl, rfl, ht, hown, hx, hb⟩ := hrel
    have hsw := hb.size
    have hxl := lt_of_block hx
    by_cases hlt : t < n
    · obtain ⟨x, hxt⟩ : ∃ x, l[t]? = some x := ⟨_, List.getElem?_eq_getElem (by rw [HL.out]; exact hlt)⟩
      obtain ⟨b, off, rfl, hbl, hc⟩ := (H.out.below hb).2 (by omega)
      have q0 := hc (t * 5 + 0) _ (flat_at dcells_len l t x 0 hxt (by decide))
      have q1 := hc (t * 5 + 1) _ (flat_at dcells_len l t x 1 hxt (by decide))
      have q2 := hc (t * 5 + 2) _ (flat_at dcells_len l t x 2 hxt (by decide))
      have q3 := hc (t * 5 + 3) _ (flat_at dcells_len l t x 3 hxt (by decide))
      have q4 := hc (t * 5 + 4) _ (flat_at dcells_len l t x 4 hxt (by decide))
      rw [← Nat.add_assoc] at q0 q1 q2 q3 q4
      rw [Nat.add_zero] at q0
      have y0 := cell_at (j := 0) hx rfl
      have y1 := cell_at (j := 1) hx rfl
      have y2 := cell_at (j := 2) hx rfl
      have y3 := cell_at (j := 3) hx rfl
      have y4 := cell_at (j := 4) hx rfl
      have KX : Hid (∀ W : World, Below wr.heap.size wr W → ((W.cell? ⟨b, off + t * 5, none⟩ = some (.int .i64 x.a) ∧ W.cell? ⟨b, off + t * 5 + 1, none⟩ = some (.int .i64 x.b) ∧ W.cell? ⟨b, off + t * 5 + 2, none⟩ = some (.int .i64 x.c) ∧ W.cell? ⟨b, off + t * 5 + 3, none⟩ = some (.int .i64 x.d) ∧ W.cell? ⟨b, off + t * 5 + 4, none⟩ = some (.int .i64 x.e)) ∧ (W.cell? ⟨w.heap.size, 0, none⟩ = some (.int .i64 1) ∧ W.cell? ⟨w.heap.size, 1, none⟩ = some (.int .i64 0) ∧ W.cell? ⟨w.heap.size, 2, none⟩ = some (.int .i64 0) ∧ W.cell? ⟨w.heap.size, 3, none⟩ = some (.int .i64 0) ∧ W.cell? ⟨w.heap.size, 4, none⟩ = some (.int .i64 0)))) := fun W hW => ⟨⟨(hW.cell (p := ⟨b, off + t * 5, none⟩) hbl).trans q0, (hW.cell (p := ⟨b, off + t * 5 + 1, none⟩) hbl).trans q1, (hW.cell (p := ⟨b, off + t * 5 + 2, none⟩) hbl).trans q2, (hW.cell (p := ⟨b, off + t * 5 + 3, none⟩) hbl).trans q3, (hW.cell (p := ⟨b, off + t * 5 + 4, none⟩) hbl).trans q4⟩, (hW.cell (p := ⟨w.heap.size, 0, none⟩) hxl).trans y0, (hW.cell (p := ⟨w.heap.size, 1, none⟩) hxl).trans y1, (hW.cell (p := ⟨w.heap.size, 2, none⟩) hxl).trans y2, (hW.cell (p := ⟨w.heap.size, 3, none⟩) hxl).trans y3, (hW.cell (p := ⟨w.heap.size, 4, none⟩) hxl).trans y4⟩
      have KD := Lib.hid (show Below wr.heap.size wr wr.drew from (Below.refl _ _).drew)
      have KA := Lib.hid (fun ob : Obj => (show Below wr.heap.size wr (wr.drew.alloc ob) from (Below.refl _ _).drew.alloc (Nat.le_refl _) _))
      have KB := Lib.hid (fun ob : Obj => (show Below wr.heap.size wr (wr.alloc ob).drew from ((Below.refl _ _).alloc (Nat.le_refl _) _).drew))
      have hmul := mulD_one (stOk_at HST.out (List.mem_of_getElem? hxt))
      have hpd' : dres (mulD ⟨x.a, x.b, x.c, x.d, x.e⟩ ⟨1, 0, 0, 0, 0⟩) = .tuple #[.agg #[.int .i64 x.a, .int .i64 x.b, .int .i64 x.c, .int .i64 x.d, .int .i64 x.e], .bool true] := by
        rw [show mulD ⟨x.a, x.b, x.c, x.d, x.e⟩ ⟨1, 0, 0, 0, 0⟩ = some x from hmul]
        rfl
      have HX := Lib.hid hxt
      have HW := Lib.hid (And.intro hown (And.intro hx hb))
      clear hc hxt hown hmul y0 y1 y2 y3 y4 q0 q1 q2 q3 q4 hx b0 x0 s0
      go_upto_region 5 with (fail)
      go_cut [8, 9] (fun pv okv wc => ∃ P1 : Nat, pv = .pointer (some ⟨P1, 0, none⟩) ∧ okv = .bool true ∧ wc.heap[P1]? = some (.cells #[.int .i64 x.a, .int .i64 x.b, .int .i64 x.c, .int .i64 x.d, .int .i64 x.e] 67 (0, 0)) ∧ wr.heap.size ≤ P1 ∧ Below wr.heap.size wr wc)
      case first =>
        go_region_held3 (fun W => (W.cell? ⟨b, off + t * 5, none⟩ = some (.int .i64 x.a) ∧ W.cell? ⟨b, off + t * 5 + 1, none⟩ = some (.int .i64 x.b) ∧ W.cell? ⟨b, off + t * 5 + 2, none⟩ = some (.int .i64 x.c) ∧ W.cell? ⟨b, off + t * 5 + 3, none⟩ = some (.int .i64 x.d) ∧ W.cell? ⟨b, off + t * 5 + 4, none⟩ = some (.int .i64 x.e)) ∧ (W.cell? ⟨w.heap.size, 0, none⟩ = some (.int .i64 1) ∧ W.cell? ⟨w.heap.size, 1, none⟩ = some (.int .i64 0) ∧ W.cell? ⟨w.heap.size, 2, none⟩ = some (.int .i64 0) ∧ W.cell? ⟨w.heap.size, 3, none⟩ = some (.int .i64 0) ∧ W.cell? ⟨w.heap.size, 4, none⟩ = some (.int .i64 0))) ((refine KX.out _ ?_; first | with_reducible exact Below.refl _ _ | with_reducible exact KD.out | with_reducible exact KA.out _ | with_reducible exact KB.out _ | with_reducible exact c1 | with_reducible exact c1.alloc c1.size _ | with_reducible exact ((((c1.setCell (by simp) _).setCell (by simp) _).setCell (by simp) _).setCell (by simp) _).setCell (by simp) _ | with_reducible exact (((((c1.alloc c1.size _).setCell (by simp; omega) _).setCell (by simp; omega) _).setCell (by simp; omega) _).setCell (by simp; omega) _).setCell (by simp; omega) _)) (first | (go_at_call 48; (with_reducible refine (MulDOmega_any _ _ _ _ _ _ _ _ _ _ _).mono ?_); rw [hpd']; rintro e w5 ⟨rfl, hc, hcs⟩; first | (have c1 : Below wr.heap.size wr w5 := below_undrewA hc) | (have c1 : Below wr.heap.size wr w5 := ((Below.refl _ _).drew.alloc (Nat.le_refl _) _).trans (hc.mono (by simp)); have hbx : w5.heap[wr.heap.size]? = some (.cells #[.int .i64 0, .int .i64 0, .int .i64 0, .int .i64 0, .int .i64 0] 67 (0, 0)) := (hc.block _ (by simp)).trans (heap_alloc_new wr.drew (.cells #[.int .i64 0, .int .i64 0, .int .i64 0, .int .i64 0, .int .i64 0] 67)); have bf0 := free_b (j := 0) hbx; have bk0 := cell_at (j := 0) hbx rfl; have bf1 := free_b (j := 1) hbx; have bk1 := cell_at (j := 1) hbx rfl; have bf2 := free_b (j := 2) hbx; have bk2 := cell_at (j := 2) hbx rfl; have bf3 := free_b (j := 3) hbx; have bk3 := cell_at (j := 3) hbx rfl; have bf4 := free_b (j := 4) hbx; have bk4 := cell_at (j := 4) hbx rfl; have bl : wr.heap.size < w5.heap.size := lt_of_block hbx)))
        all_goals (go_wp2_with (fail); go_meet; first | (refine ⟨w5.heap.size, (by with_reducible rfl), (by with_reducible rfl), ?_, c1.size, ?_⟩; (with_reducible exact heap_alloc_new _ _); (with_reducible exact c1.alloc c1.size _)) | (refine ⟨wr.heap.size, (by with_reducible rfl), (by with_reducible rfl), ?_, Nat.le_refl _, ?_⟩; (with_reducible exact set5 _ _ _ _ _ hbx); (with_reducible exact ((((c1.setCell (by simp) _).setCell (by simp) _).setCell (by simp) _).setCell (by simp) _).setCell (by simp) _)))
      case rest =>
        obtain ⟨P1, rfl, rfl, hP1, hP1g, bc1⟩ := hcut
        obtain ⟨wA, rfl⟩ : ∃ wA : World, wA = wc := ⟨_, rfl⟩
        have bA : Below w.heap.size w wA := HW.out.2.2.trans (bc1.mono hsw)
        have HVA := Lib.hid (HV.out wA bA)
        have hP := Lib.hid (And.intro hP1 (And.intro hP1g bc1))
        clear hP1 hP1g bc1
        go_wp2_with fail
        refine HVA.out.mono ?_
        rintro e wB ⟨rfl, hbB, hsB⟩
        obtain ⟨hP1, hP1g, bc1⟩ := hP.out
        have hPB := (hbB.block P1 (lt_of_block hP1)).trans hP1
        have bB := bc1.trans (hbB.mono bc1.size)
        have ownB := own_kin HW.out.1 (kin_of_below [] bB) (fun k _ => by simp)
        have hxB := (bB.block _ hxl).trans HW.out.2.1
        have bwB : Below w.heap.size w wB := HW.out.2.2.trans (bB.mono hsw)
        have v0 := cell_at (j := 0) hPB rfl
        have v1 := cell_at (j := 1) hPB rfl
        have v2 := cell_at (j := 2) hPB rfl
        have v3 := cell_at (j := 3) hPB rfl
        have v4 := cell_at (j := 4) hPB rfl
        have hBs := bwB.size
        have HB := Lib.hid (And.intro hxB bwB)
        have ohi : ∀ k, (Value.slice A2 t c2).ownBlock = some k → w.heap.size < k := fun k hk => (ownB.lt k hk).1
        have OHI := Lib.hid ohi
        have OB := Lib.hid ownB
        clear hP1 hP1g bc1 hPB bB hxB bwB hbB hsB HVA hP bA ohi
        go_wp2_with (at_builtin; refine wpList_append_rd _ rfl _ _ 47 rfl (w.heap.size + 1) 67 i0 _ 5 40 Try.underlying47 hi hz0 hz1 hz2 rfl (by decide) _ _ _ rfl (OB.out.alloc _) _ 1 1 _ rfl (rd_lit2 ?c0 rfl) ?c2 ?c3 ?c4 ?c5 ?_)
        case c0 => first | rfl | simp
        case c2 => repeat' (first | rfl | apply And.intro)
        case c3 => simp only [maxLen]; omega
        case c4 => omega
        case c5 => first | omega | (simp; omega)
        intro vv ww own3 gr3 hat3
        obtain ⟨A3, c3, rfl, _, _, _⟩ := rd_of_own own3
        have HN := Lib.hid (show ww.heap[w.heap.size]? = some (.cells #[.int .i64 1, .int .i64 0, .int .i64 0, .int .i64 0, .int .i64 0] 67 (0, 0)) by
          rw [gr3.block w.heap.size (by simp; have := lt_of_block HB.out.1; omega) (fun e => by have := OHI.out _ e.symm; omega)]
          exact (Below.heap_alloc _ _ _ (lt_of_block HB.out.1)).trans HB.out.1)
        have HBW := Lib.hid (show Below w.heap.size w ww from (HB.out.2.alloc HB.out.2.size _).grown gr3 (by simp; omega) (fun k hk => Nat.le_of_lt (OHI.out k hk)))
        have HO := Lib.hid own3
        clear own3 gr3 hat3 v0 v1 v2 v3 v4
        go_wp2_with fail
        go_roundw
        case rel =>
          refine ⟨t + 1, A3, c3, rfl, by go_num, by omega, ?_, HN.out, HBW.out⟩
          have := HO.out
          rw [List.take_add_one, HX.out, List.flatMap_append]
          simpa [dcells] using this
        case measure => simp [intOf]; omega
    · obtain rfl : t = n := by omega
      have HVA := Lib.hid (HV.out wr hb)
      have HW := Lib.hid (And.intro hown hb)
      clear hx hown b0 x0 s0
      go_wp2_with fail
      refine HVA.out.mono ?_
      rintro e wB ⟨rfl, hbB, hsB⟩
      have ho := own_kin HW.out.1 (kin_of_below [] hbB) (fun k _ => by simp)
      rw [List.take_of_length_le (by rw [HL.out]; exact Nat.le_refl _)] at ho
      have ho2 := own_lowS ho (Nat.le_succ _)
      have hbw : Below w.heap.size w wB := HW.out.2.trans (hbB.mono hsw)
      have FIN := Lib.hid (show RetSt w l (.returned (.tuple #[.slice A2 t c2, .bool true])) wB from by
        have e := HL.out
        exact ⟨A2, c2, by rw [e], by rw [e]; exact ho2, hbw, hbw.size⟩)
      clear ho ho2 hbw hbB
      go_wp2_with fail
      exact bodyPost_ret (v := .tuple #[.slice A2 t c2, .bool true]) (by simp [results, Try.results40, go_sem]) rfl FIN.out
end
end Go.Proofs.Ytgjpicekdbemiaa
