/- The measured bits: the program's MeasuredBits and the function that it calls. -/
import Derived.Test.YtijocafindbebaaBitsS
import Derived.Laws.EntriesVeiled
namespace Go.Proofs.Ytijocafindbebaa
open Go.RowKit
set_option linter.unusedVariables false
theorem own_ne_type {w : World} {base e size n g : Nat} {v : Value} {xs : List Value} {cs : Array Value} {t : TypeId} (h : w.ownsRow base e size v n xs) (hg : w.heap[g]? = some (.cells cs t (0, 0))) (hne : e ≠ t) : v.ownBlock ≠ some g := by
  rcases h.2 with ⟨rfl, _⟩ | ⟨g', cap, cur, rfl, _, hh, _⟩
  · simp [Value.ownBlock]
  · intro he
    have e1 : g' = g := by simpa [Value.ownBlock] using he
    subst e1
    rw [hh] at hg
    injection hg with hg
    injection hg with _ ht
    exact hne ht
theorem own_setfar {w : World} {base e size n : Nat} {v : Value} {xs : List Value} (h : w.ownsRow base e size v n xs) {p : Addr} (hp : v.ownBlock ≠ some p.block) (u : Value) : (w.setCell p u).ownsRow base e size v n xs := by
  refine ⟨h.1, ?_⟩
  rcases h.2 with hn | ⟨g, cap, cur, rfl, hb, hh, rest⟩
  · exact .inl hn
  · exact .inr ⟨g, cap, cur, rfl, hb, heap_set_far hh (fun e => hp (by simp [Value.ownBlock, e])) u, rest⟩
theorem step_append_rd {P : Program} (w : World) {ops : Array Oper} {o : Oper} {a : Act} {K : Act → World → Prop} {Q : Exit → Act → World → Prop} {E : Prop} (hgd : o.guard = none) (s x : Operand) (t : TypeId)
    (ho : o.op = .call { callee := .builtin .append, args := #[s, x], argTypes := #[t, t] })
    (base : Nat) (e : TypeId) (i : TypeInfo) (z : Value) (size bytes : Nat) (ht : P.underlying t = some (.slice e)) (hi : P.info? e = some i) (hz : i.zero = some z)
    (hsize : i.size = size) (hby : i.bytes = bytes) (hzs : z.cells.size = size) (hsz : 0 < size)
    (v : Value) (n : Nat) (xs : List Value) (hs : a.eval s = v) (hown : w.ownsRow base e size v n xs)
    (A : Option Addr) (m c : Nat) (news : List Value) (hx : a.eval x = .slice A m c) (hr : Rd w size A m news) (h1 : ∀ u ∈ news, u.oneCell' = true)
    (h63 : n + m ≤ maxLen) (hbytes : (n + m) * bytes ≤ 140737488355328) (hbase : base ≤ w.heap.size)
    (h : ∀ v' w', w'.ownsRow base e size v' (n + m) (xs ++ news) → w.grownBy w' v.ownBlock → (v'.ownBlock = v.ownBlock ∨ v'.ownBlock = some w.heap.size) → K (a.put o.dst v') w') :
    if Region.wanted o (yielded ops a.tmps) = true then Oper.wp P o a w K Q else E := by
  have hw : Region.wanted o (yielded ops a.tmps) = true := by simp [Region.wanted, hgd]
  rw [if_pos hw]
  obtain ⟨v', w', hrun, h2, h3, h4⟩ := run_append_rd (P := P) w base t o.type e i z size bytes ht hi hz hsize hby hzs hsz v n xs hown A m c news hr h1 h63 hbytes hbase
  unfold Oper.wp execOp
  simp only [ho, resolve, invoke, builtin, Sem.run_bind, Sem.run_pure, Result.andThen_ok, List.map_toArray, List.map_cons, List.map_nil, hs, hx, hrun]
  exact h v' w' h2 h3 h4
theorem own_drewN {w : World} {base e size n : Nat} {v : Value} {xs : List Value} (h : w.ownsRow base e size v n xs) (k : Nat) : (w.drewN k).ownsRow base e size v n xs := h
theorem free_at3 {w : World} {b j : Nat} {cs : Array Value} {t : TypeId} (h : w.heap[b]? = some (.cells cs t (0, 0))) : w.frozen? ⟨b, j, none⟩ = false := by simp [World.frozen?, h]
theorem one_str (a : ByteArray) : ∀ u ∈ [Value.string a], u.oneCell' = true := by
  intro u hu
  simp at hu
  subst hu
  rfl
/-- What the two variables of the program's MeasuredBits hold: the words found, the function itself. -/
structure Vis (w : World) (base X V : Nat) (out : List ByteArray) (v : Value) : Prop where
  x : w.heap[X]? = some (.cells #[v] 22 (0, 0))
  f : w.heap[V]? = some (.cells #[.func (.func 27) #[] #[.pointer (some ⟨X, 0, none⟩), .pointer (some ⟨V, 0, none⟩)]] 47 (0, 0))
  o : OutS w base v out
def VisPost (base X V : Nat) (out : List ByteArray) (w : World) (e : Ending) (w' : World) : Prop := ∃ v', e = .returned (.tuple #[]) ∧ Vis w' base X V out v' ∧ Below base w w' ∧ w.heap.size ≤ w'.heap.size
def VisSaid (d : Nat) : Prop := ∀ (lo base X V : Nat) (A : Option Addr) (n c : Nat) (l : List (Tr d)) (v : Value) (out : List ByteArray) (w0 w : World), RdT w0 lo d A n l → w0.heap.size ≤ base → base ≤ w.heap.size → Below base w0 w → base ≤ X → base ≤ V → Vis w base X V out v → out.length + szT d l ≤ 1048576 →
  Calls Try.prog 27 #[.slice A n c, .pointer (some ⟨X, 0, none⟩), .pointer (some ⟨V, 0, none⟩)] w (VisPost base X V (bitsT d l out) w)
theorem Vis.below {w w' : World} {base X V : Nat} {out : List ByteArray} {v : Value} (h : Vis w base X V out v) (hb : Below w.heap.size w w') : Vis w' base X V out v :=
  ⟨(hb.block _ (lt_of_block h.x)).trans h.x, (hb.block _ (lt_of_block h.f)).trans h.f, ownsRow_below h.o hb⟩
set_option maxRecDepth 100000 in
set_option maxHeartbeats 4000000 in
theorem visit_any : ∀ (d : Nat), VisSaid d := by
  intro d
  induction d with
  | zero =>
    intro lo base X V A n c l v out w0 w h h0 hbs hb hX hV hv _
    obtain rfl := szT_zero_len h
    go_enter Try.func27, Try.ntmps27
    go_wp2
    refine wp_loop_rounds 1 ?_
    rw [rounds_succ]
    go_wp2
    go_end0
    exact ⟨_, rfl, hv, Below.refl _ _, Nat.le_refl _⟩
  | succ d ih =>
    intro lo base X V A n c l v out w0 w h h0 hbs hb hX hV hv hsz
    obtain ⟨i0, hi, hz0, hz1, hz2⟩ := info_parts info_str
    have hl := h.len
    have hq := hsz
    rw [szT_succ] at hq
    have hn : n ≤ 1048576 := by omega
    have H := Lib.hid h
    have HL := Lib.hid hl
    have HB0 := Lib.hid hb
    have HQ := Lib.hid hq
    have IH := Lib.hid ih
    clear h hl hb hsz hq ih
    go_enter Try.func27, Try.ntmps27
    go_wp2
    go_loopw [8] (fun i wr => ∃ (t : Nat) (v : Value), t ≤ n ∧ i = .int .i64 t ∧ Vis wr base X V (bitsT (d + 1) (l.take t) out) v ∧ Below base w wr) (fun i _ => n - (intOf i).toNat)
    case atStart => exact ⟨0, v, Nat.zero_le _, rfl, hv, Below.refl _ _⟩
    case round =>
      clear hv
      obtain ⟨t, v, ht, rfl, hO, hb⟩ := hrel
      have hbz := hb.size
      by_cases hlt : t < n
      · have hb0 : Below w0.heap.size w0 wr := (HB0.out.trans hb).mono h0
        have hz0' := hb0.size
        obtain ⟨b, off, s, Aa, ca, Ab, nb, cb, rfl, hbl, hs, ⟨c0, c1, c2, c3, c4⟩, ha, hbd⟩ := H.out.at_ hlt
        rw [← hb0.cell (p := ⟨b, _, none⟩) hbl] at c0 c1 c2 c3 c4
        have HSTEP := Lib.hid (bitsT_step l t s out hs)
        have hq := HQ.out
        have hl' := HL.out
        have h1 := sumE_take l t s hs
        have h2 := sumE_take_le l (t + 1)
        have h3 : szE s = (hdT s).word.size + ((hdT s).args.length + szS (hdT s).args + szT d (bdT s)) := rfl
        have h4 := bitsT_len (d + 1) (l.take t) out
        rw [szT_succ, List.length_take] at h4
        obtain ⟨O, hOe⟩ : ∃ O, O = bitsT (d + 1) (l.take t) out := ⟨_, rfl⟩
        rw [← hOe] at hO HSTEP h4
        have h5 := bits1_len (hdT s) O
        have hsz' : (bits1 (hdT s) O).length + szT d (bdT s) ≤ 1048576 := by omega
        have hol : O.length ≤ 1048576 := by omega
        have hal : (hdT s).args.length ≤ 1048576 := by omega
        have HBD := Lib.hid hbd
        obtain ⟨Y, hY⟩ : ∃ Y, Y = bits1 (hdT s) O := ⟨_, rfl⟩
        rw [← hY] at HSTEP hsz'
        have HY := Lib.hid hY
        obtain ⟨Ao, co, rfl, _, _, ro⟩ := rd_of_own hO.o
        obtain ⟨wa, hwa⟩ : ∃ wa, wa = wr.alloc (.cells #[.int .i64 (hdT s).k, .string (hdT s).word, .slice Aa (hdT s).args.length ca, .int .i64 (hdT s).count, .slice Ab nb cb] 49) := ⟨_, rfl⟩
        have ba : Below wr.heap.size wr wa := by rw [hwa]; exact (by repeat (first | exact Below.refl _ _ | assumption | (refine Below.trans ?_ (Below.mono (by assumption) (by first | omega | (simp; done) | (simp; omega)))) | (with_reducible refine Below.drew ?_) | (with_reducible refine Below.alloc ?_ (by first | omega | (simp; done) | (simp; omega)) _) | (with_reducible refine Below.setCell ?_ (by first | omega | (simp; done) | (simp; omega)) _)))
        have S := Lib.hid (show wa.heap[wr.heap.size]? = some (.cells #[.int .i64 (hdT s).k, .string (hdT s).word, .slice Aa (hdT s).args.length ca, .int .i64 (hdT s).count, .slice Ab nb cb] 49 (0, 0)) by rw [hwa]; exact boxed1_0 _ _)
        have hsa : wr.heap.size + 1 = wa.heap.size := by rw [hwa]; simp
        have VI := Lib.hid (hO.below ba)
        have hxl := lt_of_block hO.x
        have hvl := lt_of_block hO.f
        have RO := Lib.hid (ro.below ba)
        have BA := Lib.hid (hb.trans (ba.mono (by omega)))
        have WA := Lib.hid hwa
        have HA := Lib.hid ha
        obtain ⟨k, hk0⟩ : ∃ k, k = (hdT s).k := ⟨_, rfl⟩
        obtain ⟨na, hna⟩ : ∃ na, na = (hdT s).args.length := ⟨_, rfl⟩
        rw [← hk0] at c0 S WA
        rw [← hna] at c2 hal S WA HA
        have HK := Lib.hid hk0
        have HNA := Lib.hid hna
        clear hs ha hbd hq hl' h1 h2 h3 h4 h5 hOe hO ro hwa ba hk0 hna hY hb hb0
        obtain ⟨p0, p1, p2, p3, p4⟩ := boxcells5 (lay := Below.refl _ _) S.out
        have hls : wr.heap.size < wa.heap.size := by omega
        have px := cell_at (j := 0) (u := .slice Ao O.length co) VI.out.x rfl
        have pv := cell_at (j := 0) VI.out.f rfl
        go_wp2_with fail
        rw [← WA.out]
        by_cases hk : k = 6
        · subst hk
          by_cases h1 : 1 < na
          · have hi1 : (1 : Int) < (na : Int) := by omega
            obtain ⟨bq, offq, rfl, _, hbq, hcq⟩ := HA.out.2 (by omega)
            have hq1 := hcq 1 _ (strs_at (argAt_of (by rw [← HNA.out]; exact h1)))
            have hb0 : Below w0.heap.size w0 wa := (HB0.out.trans BA.out).mono h0
            have q1 : wa.cell? ⟨bq, offq + 1, none⟩ = some (.string (argAt (hdT s))) := (hb0.cell (p := ⟨bq, offq + 1, none⟩) hbq).trans hq1
            have hlt1 : bq < wa.heap.size := by have := hb0.size; omega
            obtain ⟨a, hae⟩ : ∃ a, a = argAt (hdT s) := ⟨_, rfl⟩
            rw [← hae] at q1
            have HAE := Lib.hid hae
            clear hcq hq1 hae hb0
            cases hh : hasS O a
            · have HYO : Hid (Y = O ++ [a]) := by rw [HY.out, bits1_t (newB_t (by rw [← HK.out]) (by rw [← HNA.out]; exact h1) (by rw [← HAE.out]; exact hh)), ← HAE.out]; exact rfl
              go_quiet ((go_at_call 28; exact Calls.quiet_of_same ((hasWord_any _ _ _ O a _ (RO.out.drewN _) rfl (by omega)).mono fun _ _ h => ⟨h.1, h.2.symm⟩)))
              go_wp2_with fail
              have hbw : base ≤ wa.heap.size := by have := BA.out.size; omega
              have hxa : X < wa.heap.size := by omega
              have hxA : ∀ (k : Nat) (ob : Obj), ((wa.drewN k).alloc ob).cell? ⟨X, 0, none⟩ = some (.slice Ao O.length co) := fun k ob => (World.cell?_alloc_lt (wa.drewN k) ob ⟨X, 0, none⟩ hxa).trans px
              go_region_law (first | (refine step_append_rd _ (by rfl) (.tmp 30) (.tmp 35) 22 (by rfl) base 9 i0 _ 1 16 Try.underlying22 hi hz0 hz1 hz2 (by rfl) (by decide) _ O.length _ (by rfl) (by exact ((own_drewN VI.out.o _).alloc _)) _ 1 _ [.string a] (by rfl) (by exact rd_lit3 (w := wa.drewN _) (by rfl) rfl) (by exact one_str a) (by simp only [maxLen]; omega) (by omega) (by simp; omega) ?_; intro v3 w3 own3 gr3 _; obtain ⟨A3, c3, rfl, _, _, _⟩ := rd_of_own own3; have hx3 : w3.heap[X]? = some (.cells #[.slice Ao O.length co] 22 (0, 0)) := (gr3.block X (by simp; omega) (fun e => own_ne_type VI.out.o VI.out.x (by decide) e.symm)).trans ((Below.heap_alloc _ _ _ (by simp; omega)).trans VI.out.x); have px3 := cell_at (j := 0) (u := .slice Ao O.length co) hx3 rfl; have fx3 := free_at3 (j := 0) hx3; have hlx3 := lt_of_block hx3))
              all_goals
                have hv3 : w3.heap[V]? = some (.cells #[.func (.func 27) #[] #[.pointer (some ⟨X, 0, none⟩), .pointer (some ⟨V, 0, none⟩)]] 47 (0, 0)) := (gr3.block V (by simp; omega) (fun e => own_ne_type VI.out.o VI.out.f (by decide) e.symm)).trans ((Below.heap_alloc _ _ _ (by simp; omega)).trans VI.out.f)
                have hs3 : w3.heap[wr.heap.size]? = some (.cells #[.int .i64 6, .string (hdT s).word, .slice (some ⟨bq, offq, none⟩) na ca, .int .i64 (hdT s).count, .slice Ab nb cb] 49 (0, 0)) := (gr3.block wr.heap.size (by simp; omega) (fun e => own_ne_type VI.out.o S.out (by decide) e.symm)).trans ((Below.heap_alloc _ _ _ (by simp; omega)).trans S.out)
                have hvx : V ≠ X := fun e => by rw [e, hx3] at hv3; injection hv3 with hv3; injection hv3 with _ hv3; exact absurd hv3 (by decide)
                have hsx : wr.heap.size ≠ X := by omega
                obtain ⟨w4, hw4⟩ : ∃ w4, w4 = w3.setCell ⟨X, 0, none⟩ (.slice A3 (O.length + 1) c3) := ⟨_, rfl⟩
                have VI4 : Hid (Vis w4 base X V Y (.slice A3 (O.length + 1) c3)) := by
                  rw [hw4, HYO.out]
                  exact ⟨heap_set_self hx3 _, heap_set_far hv3 hvx _, by unfold OutS; rw [List.length_append, strs_snoc]; exact own_setfar own3 (own_ne_type own3 hx3 (by decide)) _⟩
                have hs4 : w4.heap[wr.heap.size]? = some (.cells #[.int .i64 6, .string (hdT s).word, .slice (some ⟨bq, offq, none⟩) na ca, .int .i64 (hdT s).count, .slice Ab nb cb] 49 (0, 0)) := by rw [hw4]; exact heap_set_far hs3 hsx _
                have BY : Hid (Below base w w4) := by rw [hw4]; exact (((below_drewN BA.out _).alloc hbw _).grown gr3 (by simp; omega) (own_ge VI.out.o)).setCell hX _
                have r4 := cell_at (j := 4) (u := .slice Ab nb cb) hs4 rfl
                have rv := cell_at (j := 0) VI4.out.f rfl
                have hl4 := lt_of_block hs4
                have W4 := Lib.hid hw4
                clear hxA hxa gr3 own3 hx3 px3 fx3 hlx3 hv3 hs3 hvx hsx hw4 hs4 p0 p1 p2 p3 p4 px pv q1
                rw [← W4.out]
                go_wp2_with fail
        
                refine (IH.out lo base X V _ _ _ (bdT s) _ Y w0 _ HBD.out h0 (by have := BY.out.size; omega) (HB0.out.trans BY.out) hX hV VI4.out hsz').mono ?_
                rintro e wz ⟨vz, rfl, oz, bz, sz⟩
                have OZ := Lib.hid oz
                have BZ := Lib.hid (BY.out.trans bz)
                clear oz bz
                go_wp2_with fail
                go_roundw
                case rel => exact ⟨t + 1, vz, by omega, by go_num, by rw [HSTEP.out]; exact OZ.out, BZ.out⟩
                case measure => simp [intOf]; omega
            · have HYO : Hid (Y = O) := by rw [HY.out, bits1_f (newB_h (by rw [← HAE.out]; exact hh))]; exact rfl
              go_quiet ((go_at_call 28; exact Calls.quiet_of_same ((hasWord_any _ _ _ O a _ (RO.out.drewN _) rfl (by omega)).mono fun _ _ h => ⟨h.1, h.2.symm⟩)))
              go_wp2_with fail
              refine (IH.out lo base X V _ _ _ (bdT s) _ Y w0 _ HBD.out h0 (by show base ≤ wa.heap.size; have := BA.out.size; omega) (HB0.out.trans (below_drewN BA.out _)) hX hV (by rw [HYO.out]; exact VI.out.below (below_drewN (Below.refl _ _) _)) hsz').mono ?_
              rintro e wz ⟨vz, rfl, oz, bz, sz⟩
              have OZ := Lib.hid oz
              have BZ := Lib.hid ((below_drewN BA.out _).trans bz)
              clear oz bz
              go_wp2_with fail
              go_roundw
              case rel => exact ⟨t + 1, vz, by omega, by go_num, by rw [HSTEP.out]; exact OZ.out, BZ.out⟩
              case measure => simp [intOf]; omega
          · have HYO : Hid (Y = O) := by rw [HY.out, bits1_f (newB_l (by rw [← HNA.out]; exact h1))]; exact rfl
            have hi1 : decide ((1 : Int) < (na : Int)) = false := by simp; omega
            have hi2 : decide (1 < na) = false := by simp; omega
            clear h1
            go_quiet (fail)
            go_wp2_with fail
            refine (IH.out lo base X V _ _ _ (bdT s) _ Y w0 _ HBD.out h0 (by show base ≤ wa.heap.size; have := BA.out.size; omega) (HB0.out.trans (below_drewN BA.out _)) hX hV (by rw [HYO.out]; exact VI.out.below (below_drewN (Below.refl _ _) _)) hsz').mono ?_
            rintro e wz ⟨vz, rfl, oz, bz, sz⟩
            have OZ := Lib.hid oz
            have BZ := Lib.hid ((below_drewN BA.out _).trans bz)
            clear oz bz
            go_wp2_with fail
            go_roundw
            case rel => exact ⟨t + 1, vz, by omega, by go_num, by rw [HSTEP.out]; exact OZ.out, BZ.out⟩
            case measure => simp [intOf]; omega
        · have HYO : Hid (Y = O) := by rw [HY.out, bits1_f (newB_k (by rw [← HK.out]; exact hk))]; exact rfl
          have ek : (k == 6) = false := beq_eq_false_iff_ne.2 hk
          clear hk
          go_quiet (fail)
          go_wp2_with fail
          refine (IH.out lo base X V _ _ _ (bdT s) _ Y w0 _ HBD.out h0 (by show base ≤ wa.heap.size; have := BA.out.size; omega) (HB0.out.trans (below_drewN BA.out _)) hX hV (by rw [HYO.out]; exact VI.out.below (below_drewN (Below.refl _ _) _)) hsz').mono ?_
          rintro e wz ⟨vz, rfl, oz, bz, sz⟩
          have OZ := Lib.hid oz
          have BZ := Lib.hid ((below_drewN BA.out _).trans bz)
          clear oz bz
          go_wp2_with fail
          go_roundw
          case rel => exact ⟨t + 1, vz, by omega, by go_num, by rw [HSTEP.out]; exact OZ.out, BZ.out⟩
          case measure => simp [intOf]; omega
      · obtain rfl : t = n := by omega
        have HF : Hid (bitsT (d + 1) (l.take t) out = bitsT (d + 1) l out) := by rw [List.take_of_length_le (by rw [HL.out]; exact Nat.le_refl _)]; exact rfl
        have HO := Lib.hid hO
        clear hO
        go_wp2_with fail
        go_end0
        exact ⟨_, rfl, by rw [← HF.out]; exact HO.out, hb, hbz⟩
set_option maxRecDepth 100000 in
set_option maxHeartbeats 2000000 in
theorem MeasuredBits_impl (d lo : Nat) (Aq : Option Addr) (m cq : Nat) (l : List (Tr d)) (Ab : Option Addr) (nb cb : Nat) (w : World) (hrb : RdT w lo d Ab nb l) (hsz : szT d l ≤ 1048576) :
    Calls Try.prog 8 #[.agg #[.slice Aq m cq, .slice Ab nb cb]] w (RetStrs w (bitsT d l [])) := by
  have hmf : ∀ (fn : Fn) (first cap : Array Value) (w : World), (Instr.makeFunc fn first cap).run Try.prog w = .ok (.func fn first cap) w := fun _ _ _ _ => rfl
  obtain ⟨w3, hw3⟩ : ∃ w3, w3 = (((w.alloc (.cells #[.slice Aq m cq, .slice Ab nb cb] 30)).alloc (.cells #[] 9)).alloc (.cells #[.slice (some ⟨w.heap.size + 1, 0, none⟩) 0 0] 22)).alloc (.cells #[.func (.func 27) #[] #[.pointer (some ⟨w.heap.size + 1 + 1, 0, none⟩), .pointer (some ⟨w.heap.size + 1 + 1 + 1, 0, none⟩)]] 47) := ⟨_, rfl⟩
  have b3 : Below w.heap.size w w3 := by rw [hw3]; exact (by repeat (first | exact Below.refl _ _ | assumption | (refine Below.trans ?_ (Below.mono (by assumption) (by first | omega | (simp; done) | (simp; omega)))) | (with_reducible refine Below.drew ?_) | (with_reducible refine Below.alloc ?_ (by first | omega | (simp; done) | (simp; omega)) _) | (with_reducible refine Below.setCell ?_ (by first | omega | (simp; done) | (simp; omega)) _)))
  have hv : Vis w3 w.heap.size (w.heap.size + 1 + 1) (w.heap.size + 1 + 1 + 1) [] (.slice (some ⟨w.heap.size + 1, 0, none⟩) 0 0) := by
    rw [hw3]
    refine ⟨?_, ?_, ?_⟩
    · have h := heap_alloc_new ((w.alloc (.cells #[.slice Aq m cq, .slice Ab nb cb] 30)).alloc (.cells #[] 9)) (.cells #[.slice (some ⟨w.heap.size + 1, 0, none⟩) 0 0] 22)
      refine (Below.heap_alloc _ _ _ (by simp)).trans ?_
      simpa using h
    · have h := heap_alloc_new (((w.alloc (.cells #[.slice Aq m cq, .slice Ab nb cb] 30)).alloc (.cells #[] 9)).alloc (.cells #[.slice (some ⟨w.heap.size + 1, 0, none⟩) 0 0] 22)) (.cells #[.func (.func 27) #[] #[.pointer (some ⟨w.heap.size + 1 + 1, 0, none⟩), .pointer (some ⟨w.heap.size + 1 + 1 + 1, 0, none⟩)]] 47)
      simpa using h
    · have h := own_lowB (own_empty (w.alloc (.cells #[.slice Aq m cq, .slice Ab nb cb] 30)) 9 1) (B' := w.heap.size) (by simp)
      have h' : OutS ((w.alloc (.cells #[.slice Aq m cq, .slice Ab nb cb] 30)).alloc (.cells #[] 9)) w.heap.size (.slice (some ⟨w.heap.size + 1, 0, none⟩) 0 0) [] := by unfold OutS; simpa [strs] using h
      exact (World.ownsRow.alloc (World.ownsRow.alloc h' _) _)
  have hs3 := b3.size
  have HV := Lib.hid hv
  have H := Lib.hid hrb
  have B3 := Lib.hid b3
  have W3 := Lib.hid hw3
  clear hv hrb b3 hw3
  go_enter Try.func8, Try.ntmps8
  go_wp2_with fail
  rw [← W3.out]
  refine (visit_any d lo w.heap.size _ _ _ _ _ l _ [] w _ H.out (Nat.le_refl _) hs3 B3.out (by omega) (by omega) HV.out (by simpa using hsz)).mono ?_
  rintro e w4 ⟨v4, rfl, vi, b4, s4⟩
  have px := cell_at (j := 0) (u := v4) vi.x rfl
  have O4 := Lib.hid vi.o
  have B4 := Lib.hid (B3.out.trans b4)
  clear vi b4
  go_wp2_with fail
  go_ret
  exact ⟨_, rfl, O4.out, B4.out, by omega⟩
end Go.Proofs.Ytijocafindbebaa
