/- The branch that a simulation begins with: the program's function and the reference's return the same. -/
import Derived.Test.YtbffpehajkgjeaaBasis
namespace Go.Proofs.Ytbffpehajkgjeaa
open Go.RowKit
set_option linter.unusedVariables false
/-- A call that returns a branch whose states are its own. -/
def RetBr (w : World) (b : Int) (n : Nat) (M : List (List Dm)) (e : Ending) (w' : World) : Prop :=
  ∃ A c F, e = .returned (.agg #[.int .i64 b, .slice A n c]) ∧ OwnM w' w.heap.size (.slice A n c) n M F ∧ Below w.heap.size w w' ∧ w.heap.size ≤ w'.heap.size
def rng (m N : Nat) : List (List Dm) := (List.range m).map (bst N)
theorem rng_len (m N : Nat) : (rng m N).length = m := by simp [rng]
theorem rng_succ (m N : Nat) : rng (m + 1) N = rng m N ++ [bst N m] := by simp [rng, List.range_succ]
theorem boxcells2 {w w' : World} {b : Nat} {x0 x1 : Value} {t : TypeId} (lay : Below w'.heap.size w' w) (h : w'.heap[b]? = some (.cells #[x0, x1] t (0, 0))) : w.cell? ⟨b, 0, none⟩ = some x0 ∧ w.cell? ⟨b, 1, none⟩ = some x1 := by
  have h' : w.heap[b]? = some (.cells #[x0, x1] t (0, 0)) := (lay.block b (lt_of_block h)).trans h
  exact ⟨by simp [World.cell?, h'], by simp [World.cell?, h']⟩
theorem below_of_drew2 {w w' : World} (h : Below w.drew.heap.size w.drew w') : Below w.heap.size w w' := ⟨h.os, h.tape, h.output, h.size, h.block⟩
theorem held_call {wr w2 : World} {X base T size n : Nat} {V v : Value} {S : List Value} (hb2 : Below wr.drew.heap.size wr.drew w2) (p1 : wr.cell? ⟨X, 1, none⟩ = some V) (f1 : wr.frozen? ⟨X, 1, none⟩ = false) (hX : X < wr.heap.size) (om : wr.ownsRow base T size v n S) :
    w2.cell? ⟨X, 1, none⟩ = some V ∧ w2.frozen? ⟨X, 1, none⟩ = false ∧ w2.ownsRow base T size v n S ∧ Below wr.heap.size wr w2 ∧ X < w2.heap.size := by
  have hb3 := below_of_drew2 hb2
  have hs := hb3.size
  exact ⟨(hb3.cell (p := ⟨X, 1, none⟩) hX).trans p1, (hb3.frozen (p := ⟨X, 1, none⟩) hX).trans f1, ownsRow_below om hb3, hb3, by omega⟩
theorem held_append {w2 w3 : World} {X base : Nat} {V v : Value} {o : Obj} (hg : (w2.alloc o).grownBy w3 v.ownBlock) (hbase : ∀ k, v.ownBlock = some k → base ≤ k) (hX : X < base) (k2 : w2.cell? ⟨X, 1, none⟩ = some V) (fr2 : w2.frozen? ⟨X, 1, none⟩ = false) (hX2 : X < w2.heap.size) :
    w3.cell? ⟨X, 1, none⟩ = some V ∧ w3.frozen? ⟨X, 1, none⟩ = false := by
  have h1 : (w2.alloc o).heap[X]? = w2.heap[X]? := Below.heap_alloc _ _ _ hX2
  have h2 : w3.heap[X]? = (w2.alloc o).heap[X]? := hg.block X (by simp; omega) (fun e => by have := hbase X e.symm; omega)
  rw [h1] at h2
  exact ⟨by rw [← k2]; simp [World.cell?, h2], by rw [← fr2]; simp [World.frozen?, h2]⟩
theorem rd_lit2 {w : World} {cs : Array Value} {e n size b : Nat} (h0 : b = w.heap.size) (hs : cs.size = n * size) : Rd (w.alloc (.cells cs e)) size (some ⟨b, 0, none⟩) n cs.toList := by
  subst h0
  refine ⟨by simpa using hs, fun _ => ⟨_, 0, rfl, by simp, fun j u hu => ?_⟩⟩
  have h := heap_alloc_new w (.cells cs e)
  have hc : cs[j]? = some u := by rw [← Array.getElem?_toList]; exact hu
  rw [Nat.zero_add]
  exact cell_at h hc
/-- 'append', kept shut in a walk. -/
def appSem (ts : Array TypeId) (ty : TypeId) (args : Array Value) : Sem Value := Builtin.append_ ts ty args
theorem fold_append (ts : Array TypeId) (ty : TypeId) (args : Array Value) : Builtin.append_ ts ty args = appSem ts ty args := rfl
attribute [local go_sem ↓ high] fold_append
theorem kin_setCell (w : World) (X j : Nat) (v : Value) : Kin [X] w (w.setCell ⟨X, j, none⟩ v) :=
  ⟨rfl, rfl, rfl, by simp [World.setCell], fun k _ hn => Below.heap_setCell w _ v k (fun e => hn (by simp [e]))⟩
/-- 'x.States = append(x.States, r)': what holds behind it. -/
theorem states_step {w0 wr w2 w3 : World} {B base X t c c2 c3 T : Nat} {A A3 a2 : Option Addr} {bits : Value} {M : List (List Dm)} {r : List Dm} {SS : List Value} {o : Obj}
    (hX : X < base) (hBX : B ≤ X) (hbase : base ≤ wr.heap.size) (hx1 : wr.heap[X]? = some (.cells #[bits, .slice A t c] T (0, 0)))
    (hM1 : M.length = t) (hM2 : wr.ownsRow base 106 1 (.slice A t c) t SS) (hN : ((Value.slice A t c).ownBlock.toList ++ SS.flatMap (fun u => u.ownBlock.toList)).Nodup)
    (hrows : ∀ (j : Nat) (r : List Dm), M[j]? = some r → ∃ u, SS[j]? = some u ∧ wr.ownsRow base 118 5 u r.length (r.flatMap dcells))
    (hb : Below B w0 wr) (own2 : w2.ownsRow wr.heap.size 118 5 (.slice a2 r.length c2) r.length (r.flatMap dcells)) (hb3 : Below wr.heap.size wr w2)
    (hown3 : w3.ownsRow base 106 1 (.slice A3 (t + 1) c3) (t + 1) (SS ++ [.slice a2 r.length c2])) (hg : (w2.alloc o).grownBy w3 (Value.slice A t c).ownBlock)
    (hat : (Value.slice A3 (t + 1) c3).ownBlock = (Value.slice A t c).ownBlock ∨ (Value.slice A3 (t + 1) c3).ownBlock = some (w2.alloc o).heap.size) :
    (w3.setCell ⟨X, 1, none⟩ (.slice A3 (t + 1) c3)).heap[X]? = some (.cells #[bits, .slice A3 (t + 1) c3] T (0, 0)) ∧ (∃ F, OwnM (w3.setCell ⟨X, 1, none⟩ (.slice A3 (t + 1) c3)) base (.slice A3 (t + 1) c3) (t + 1) (M ++ [r]) F) ∧ Below B w0 (w3.setCell ⟨X, 1, none⟩ (.slice A3 (t + 1) c3)) := by
  have hs2 := hb3.size
  have hga := hM2.lt
  have hblk : ∀ k, k < base → w3.heap[k]? = wr.heap[k]? := by
    intro k hk
    have h1 : w3.heap[k]? = (w2.alloc o).heap[k]? := hg.block k (by simp; omega) (fun e => by have := (hga k e.symm).1; omega)
    rw [h1, Below.heap_alloc _ _ _ (by omega), hb3.block k (by omega)]
  have hx3 : w3.heap[X]? = some (.cells #[bits, .slice A t c] T (0, 0)) := by rw [hblk X hX]; exact hx1
  have hsize3 := hg.size
  have hal : w2.heap.size + 1 ≤ w3.heap.size := by simpa using hsize3
  refine ⟨by rw [heap_setCell_same _ _ _ _ _ _ hx3]; rfl, ?_, ?_⟩
  · have hrows2 : ∀ (j : Nat) (r : List Dm), M[j]? = some r → ∃ u, SS[j]? = some u ∧ (w2.alloc o).ownsRow base 118 5 u r.length (r.flatMap dcells) := fun j r hj => by
      obtain ⟨u, hu, ho⟩ := hrows j r hj
      exact ⟨u, hu, (ownsRow_below ho hb3).alloc _⟩
    have hlt := OwnM.lt ⟨SS, hM1, hM2, rfl, hN, hrows⟩
    obtain ⟨F', hF', _⟩ := ownM_snoc (w := w2.alloc o) (w' := w3) (v' := .slice A3 (t + 1) c3) (r := r) hM1 ((ownsRow_below hM2 hb3).alloc _) hN hrows2 ((own_from own2 hbase).alloc _) (fun k hk hm => by
      have h1 := (own2.lt k hk).1
      have h2 := (hlt k hm).2
      omega) hown3 hg hat
    exact ⟨F', hF'.kin (kin_setCell _ _ _ _) (fun k hk hm => by
      have h1 := (hF'.lt k hk).1
      simp at hm
      omega)⟩
  · have hbw : Below B w0 w3 := ⟨by rw [hg.os]; exact hb3.os.trans hb.os, by rw [hg.tape]; exact hb3.tape.trans hb.tape, by rw [hg.output]; exact hb3.output.trans hb.output, by have := hb.size; omega, fun k hk => (hblk k (by omega)).trans (hb.block k hk)⟩
    exact hbw.setCell (by exact hBX) _
def okI (n k : Int) : Bool := inB n 1 4 && inB k 1 n
def initM (n k : Int) : List (List Dm) := if okI n k = true then rng (2 ^ k.toNat) (2 ^ n.toNat) else []
theorem initM_no {n k : Int} (h : okI n k = false) : initM n k = [] := by simp [initM, h]
theorem initM_len_le (n k : Int) : (initM n k).length ≤ 16 := by
  unfold initM
  split
  · rename_i h
    simp only [okI, Bool.and_eq_true] at h
    have h1 := inB_iff.1 h.1
    have h2 := inB_iff.1 h.2
    rw [rng_len]
    have hk : k = 1 ∨ k = 2 ∨ k = 3 ∨ k = 4 := by omega
    rcases hk with rfl | rfl | rfl | rfl <;> decide
  · simp
theorem szM_rng (m N : Nat) : szM (rng m N) = m * N := by
  induction m with
  | zero => simp [rng, szM]
  | succ m ih => rw [rng_succ, szM_snoc, ih, bst_len, Nat.add_mul, Nat.one_mul]
theorem initM_sz_le (n k : Int) : szM (initM n k) ≤ 256 := by
  unfold initM
  split
  · rename_i h
    simp only [okI, Bool.and_eq_true] at h
    have h1 := inB_iff.1 h.1
    have h2 := inB_iff.1 h.2
    rw [szM_rng]
    have hk : k = 1 ∨ k = 2 ∨ k = 3 ∨ k = 4 := by omega
    have hn : n = 1 ∨ n = 2 ∨ n = 3 ∨ n = 4 := by omega
    rcases hk with rfl | rfl | rfl | rfl <;> rcases hn with rfl | rfl | rfl | rfl <;> decide
  · simp [szM]
theorem pow_lt {k K t : Nat} {n : Int} (hK : K = 2 ^ k) (h : k ≤ n.toNat) (ht : t < K) : t < 2 ^ n.toNat := by
  subst hK
  exact Nat.lt_of_lt_of_le ht (Nat.pow_le_pow_right (by omega) h)
set_option maxRecDepth 100000 in
set_option maxHeartbeats 4000000 in
theorem InitialBranch_impl_1 (n : Int) (w : World) (h1 : 1 ≤ n) (h4 : n ≤ 4) : Calls Try.prog 41 #[.int .i64 n, .int .i64 1] w (RetBr w 0 2 (rng 2 (2 ^ n.toNat))) := by
  obtain ⟨i0, hi0, hz0, hz1, hz2⟩ := info_parts info_DOmegaSE
  go_enter Try.func41, Try.ntmps41
  go_wp2_with fail
  obtain ⟨w0, hw0⟩ : ∃ w0, w0 = (w.alloc (.cells #[.int .i64 0, .slice none 0 0] 59)).alloc (.cells #[.int .i64 0, .slice none 0 0] 59) := ⟨_, rfl⟩
  rw [← hw0]
  have X0 := Lib.hid (show w0.heap[w.heap.size]? = some (.cells #[.int .i64 0, .slice none 0 0] 59 (0, 0)) by rw [hw0]; exact boxed2_0 _ _ _)
  have X1 := Lib.hid (show w0.heap[w.heap.size + 1]? = some (.cells #[.int .i64 0, .slice none 0 0] 59 (0, 0)) by rw [hw0]; exact boxed2_1 _ _ _)
  have b0 : Below w.heap.size w w0 := by rw [hw0]; exact (by repeat (first | exact Below.refl _ _ | assumption | (refine Below.trans ?_ (Below.mono (by assumption) (by first | omega | (simp; done) | (simp; omega)))) | (with_reducible refine Below.drew ?_) | (with_reducible refine Below.alloc ?_ (by first | omega | (simp; done) | (simp; omega)) _) | (with_reducible refine Below.setCell ?_ (by first | omega | (simp; done) | (simp; omega)) _)))
  have s0 : w.heap.size + 2 = w0.heap.size := by rw [hw0]; simp
  have S0 := Lib.hid s0
  clear hw0 s0
  go_loopw [6] (fun i wr => ∃ (t : Nat) (A : Option Addr) (c : Nat) (F : List Nat), t ≤ 2 ∧ i = .int .i64 t ∧ wr.heap[w.heap.size + 1]? = some (.cells #[.int .i64 0, .slice A t c] 59 (0, 0)) ∧ OwnM wr (w.heap.size + 2) (.slice A t c) t (rng t (2 ^ n.toNat)) F ∧ Below (w.heap.size + 1) w0 wr) (fun i _ => 2 - (intOf i).toNat)
  case atStart => exact ⟨0, none, 0, [], by omega, rfl, X1.out, ownM_nil _ _, Below.refl _ _⟩
  case round =>
    obtain ⟨t, A, c, F, ht, rfl, hx1, hown, hb⟩ := hrel
    have hbs := hb.size
    have s0 := S0.out
    by_cases hlt : t < 2
    · have p1 : wr.cell? ⟨w.heap.size + 1, 1, none⟩ = some (.slice A t c) := cell_at (j := 1) hx1 rfl
      have f1 : wr.frozen? ⟨w.heap.size + 1, 1, none⟩ = false := by simp [World.frozen?, hx1]
      have HX1 := Lib.hid hx1
      have HT := Lib.hid (show t < 2 ^ n.toNat from pow_lt (k := 1) rfl (by omega) hlt)
      obtain ⟨SS, hM1, hM2, hF, hN, hrows⟩ := hown
      subst hF
      have HM1 := Lib.hid hM1
      have HM2 := Lib.hid hM2
      have HN := Lib.hid hN
      have HROW := Lib.hid hrows
      have hXlt : w.heap.size + 1 < wr.heap.size := by omega
      clear hx1 hM1 hM2 hN hrows
      go_wp2_with fail
      go_region_with (go_at_call 86; (with_reducible refine (BasisState_impl n t _ (by omega) h4 HT.out).mono ?_); rintro e w2 ⟨u, rfl, own2, hb2, hs2⟩; obtain ⟨k2, fr2, om2, hb3, hX2⟩ := held_call hb2 p1 f1 hXlt HM2.out; obtain ⟨a2, c2, rfl, _, _, _⟩ := rd_of_own own2; obtain ⟨v3, w3, hrun3, hown3, hgrow3, hat3⟩ := run_append_rd (P := Try.prog) (w2.alloc (.cells #[.slice a2 (bst (2 ^ n.toNat) t).length c2] 106)) (w.heap.size + 2) 57 57 106 i0 _ 1 24 Try.underlying57 hi0 hz0 hz1 hz2 rfl (by omega) (.slice A t c) t SS (om2.alloc _) (some ⟨w2.heap.size, 0, none⟩) 1 1 [.slice a2 (bst (2 ^ n.toNat) t).length c2] (rd_lit2 rfl rfl) (by simp [Value.oneCell']) (by simp only [maxLen]; omega) (by omega) (by simp; omega); rw [fold_append] at hrun3; obtain ⟨A3, c3, rfl, _, _, _⟩ := rd_of_own hown3; obtain ⟨k3, fr3⟩ := held_append hgrow3 (own_ge om2) (Nat.lt_succ_self _) k2 fr2 hX2)
      all_goals
        go_wp2_with fail
        go_roundw
        case rel =>
          obtain ⟨hx', ⟨F', hF'⟩, hb'⟩ := states_step (B := w.heap.size + 1) (Nat.lt_succ_self _) (Nat.le_refl _) (by omega) HX1.out HM1.out HM2.out HN.out HROW.out hb own2 hb3 hown3 hgrow3 hat3
          exact ⟨t + 1, A3, c3, F', by omega, by go_num, hx', by rw [rng_succ]; exact hF', hb'⟩
        case measure => simp [intOf]; omega
    · obtain rfl : t = 2 := by omega
      have hx0 := (hb.block w.heap.size (by omega)).trans X0.out
      have p0 : wr.cell? ⟨w.heap.size + 1, 0, none⟩ = some (.int .i64 0) := cell_at (j := 0) hx1 rfl
      have p1 : wr.cell? ⟨w.heap.size + 1, 1, none⟩ = some (.slice A 2 c) := cell_at (j := 1) hx1 rfl
      have q0 : wr.cell? ⟨w.heap.size, 0, none⟩ = some (.int .i64 0) := cell_at (j := 0) hx0 rfl
      have q1 : wr.cell? ⟨w.heap.size, 1, none⟩ = some (.slice none 0 0) := cell_at (j := 1) hx0 rfl
      have f0 : wr.frozen? ⟨w.heap.size, 0, none⟩ = false := by simp [World.frozen?, hx0]
      have f1 : wr.frozen? ⟨w.heap.size, 1, none⟩ = false := by simp [World.frozen?, hx0]
      have HO := Lib.hid hown
      clear hx1 hx0 hown
      go_wp2_with fail
      refine bodyPost_ret (v := .agg #[.int .i64 0, .slice A 2 c]) (by simp [results, Try.results41, go_sem, q0, q1]) rfl ⟨A, c, F, rfl, ?_, ?_, ?_⟩
      · exact ((HO.out.base_le (by omega)).kin ((kin_setCell _ w.heap.size _ _).trans (kin_setCell _ w.heap.size _ _)) (fun k hk hm => by have := (HO.out.lt k hk).1; simp at hm; omega))
      · exact ((b0.trans (hb.mono (by omega))).setCell (by simp) _).setCell (by simp) _
      · simp [World.setCell]; omega

set_option maxRecDepth 100000 in
set_option maxHeartbeats 4000000 in
theorem InitialBranch_impl_2 (n : Int) (w : World) (h1 : 2 ≤ n) (h4 : n ≤ 4) : Calls Try.prog 41 #[.int .i64 n, .int .i64 2] w (RetBr w 0 4 (rng 4 (2 ^ n.toNat))) := by
  obtain ⟨i0, hi0, hz0, hz1, hz2⟩ := info_parts info_DOmegaSE
  go_enter Try.func41, Try.ntmps41
  go_wp2_with fail
  obtain ⟨w0, hw0⟩ : ∃ w0, w0 = (w.alloc (.cells #[.int .i64 0, .slice none 0 0] 59)).alloc (.cells #[.int .i64 0, .slice none 0 0] 59) := ⟨_, rfl⟩
  rw [← hw0]
  have X0 := Lib.hid (show w0.heap[w.heap.size]? = some (.cells #[.int .i64 0, .slice none 0 0] 59 (0, 0)) by rw [hw0]; exact boxed2_0 _ _ _)
  have X1 := Lib.hid (show w0.heap[w.heap.size + 1]? = some (.cells #[.int .i64 0, .slice none 0 0] 59 (0, 0)) by rw [hw0]; exact boxed2_1 _ _ _)
  have b0 : Below w.heap.size w w0 := by rw [hw0]; exact (by repeat (first | exact Below.refl _ _ | assumption | (refine Below.trans ?_ (Below.mono (by assumption) (by first | omega | (simp; done) | (simp; omega)))) | (with_reducible refine Below.drew ?_) | (with_reducible refine Below.alloc ?_ (by first | omega | (simp; done) | (simp; omega)) _) | (with_reducible refine Below.setCell ?_ (by first | omega | (simp; done) | (simp; omega)) _)))
  have s0 : w.heap.size + 2 = w0.heap.size := by rw [hw0]; simp
  have S0 := Lib.hid s0
  clear hw0 s0
  go_loopw [6] (fun i wr => ∃ (t : Nat) (A : Option Addr) (c : Nat) (F : List Nat), t ≤ 4 ∧ i = .int .i64 t ∧ wr.heap[w.heap.size + 1]? = some (.cells #[.int .i64 0, .slice A t c] 59 (0, 0)) ∧ OwnM wr (w.heap.size + 2) (.slice A t c) t (rng t (2 ^ n.toNat)) F ∧ Below (w.heap.size + 1) w0 wr) (fun i _ => 4 - (intOf i).toNat)
  case atStart => exact ⟨0, none, 0, [], by omega, rfl, X1.out, ownM_nil _ _, Below.refl _ _⟩
  case round =>
    obtain ⟨t, A, c, F, ht, rfl, hx1, hown, hb⟩ := hrel
    have hbs := hb.size
    have s0 := S0.out
    by_cases hlt : t < 4
    · have p1 : wr.cell? ⟨w.heap.size + 1, 1, none⟩ = some (.slice A t c) := cell_at (j := 1) hx1 rfl
      have f1 : wr.frozen? ⟨w.heap.size + 1, 1, none⟩ = false := by simp [World.frozen?, hx1]
      have HX1 := Lib.hid hx1
      have HT := Lib.hid (show t < 2 ^ n.toNat from pow_lt (k := 2) rfl (by omega) hlt)
      obtain ⟨SS, hM1, hM2, hF, hN, hrows⟩ := hown
      subst hF
      have HM1 := Lib.hid hM1
      have HM2 := Lib.hid hM2
      have HN := Lib.hid hN
      have HROW := Lib.hid hrows
      have hXlt : w.heap.size + 1 < wr.heap.size := by omega
      clear hx1 hM1 hM2 hN hrows
      go_wp2_with fail
      go_region_with (go_at_call 86; (with_reducible refine (BasisState_impl n t _ (by omega) h4 HT.out).mono ?_); rintro e w2 ⟨u, rfl, own2, hb2, hs2⟩; obtain ⟨k2, fr2, om2, hb3, hX2⟩ := held_call hb2 p1 f1 hXlt HM2.out; obtain ⟨a2, c2, rfl, _, _, _⟩ := rd_of_own own2; obtain ⟨v3, w3, hrun3, hown3, hgrow3, hat3⟩ := run_append_rd (P := Try.prog) (w2.alloc (.cells #[.slice a2 (bst (2 ^ n.toNat) t).length c2] 106)) (w.heap.size + 2) 57 57 106 i0 _ 1 24 Try.underlying57 hi0 hz0 hz1 hz2 rfl (by omega) (.slice A t c) t SS (om2.alloc _) (some ⟨w2.heap.size, 0, none⟩) 1 1 [.slice a2 (bst (2 ^ n.toNat) t).length c2] (rd_lit2 rfl rfl) (by simp [Value.oneCell']) (by simp only [maxLen]; omega) (by omega) (by simp; omega); rw [fold_append] at hrun3; obtain ⟨A3, c3, rfl, _, _, _⟩ := rd_of_own hown3; obtain ⟨k3, fr3⟩ := held_append hgrow3 (own_ge om2) (Nat.lt_succ_self _) k2 fr2 hX2)
      all_goals
        go_wp2_with fail
        go_roundw
        case rel =>
          obtain ⟨hx', ⟨F', hF'⟩, hb'⟩ := states_step (B := w.heap.size + 1) (Nat.lt_succ_self _) (Nat.le_refl _) (by omega) HX1.out HM1.out HM2.out HN.out HROW.out hb own2 hb3 hown3 hgrow3 hat3
          exact ⟨t + 1, A3, c3, F', by omega, by go_num, hx', by rw [rng_succ]; exact hF', hb'⟩
        case measure => simp [intOf]; omega
    · obtain rfl : t = 4 := by omega
      have hx0 := (hb.block w.heap.size (by omega)).trans X0.out
      have p0 : wr.cell? ⟨w.heap.size + 1, 0, none⟩ = some (.int .i64 0) := cell_at (j := 0) hx1 rfl
      have p1 : wr.cell? ⟨w.heap.size + 1, 1, none⟩ = some (.slice A 4 c) := cell_at (j := 1) hx1 rfl
      have q0 : wr.cell? ⟨w.heap.size, 0, none⟩ = some (.int .i64 0) := cell_at (j := 0) hx0 rfl
      have q1 : wr.cell? ⟨w.heap.size, 1, none⟩ = some (.slice none 0 0) := cell_at (j := 1) hx0 rfl
      have f0 : wr.frozen? ⟨w.heap.size, 0, none⟩ = false := by simp [World.frozen?, hx0]
      have f1 : wr.frozen? ⟨w.heap.size, 1, none⟩ = false := by simp [World.frozen?, hx0]
      have HO := Lib.hid hown
      clear hx1 hx0 hown
      go_wp2_with fail
      refine bodyPost_ret (v := .agg #[.int .i64 0, .slice A 4 c]) (by simp [results, Try.results41, go_sem, q0, q1]) rfl ⟨A, c, F, rfl, ?_, ?_, ?_⟩
      · exact ((HO.out.base_le (by omega)).kin ((kin_setCell _ w.heap.size _ _).trans (kin_setCell _ w.heap.size _ _)) (fun k hk hm => by have := (HO.out.lt k hk).1; simp at hm; omega))
      · exact ((b0.trans (hb.mono (by omega))).setCell (by simp) _).setCell (by simp) _
      · simp [World.setCell]; omega

set_option maxRecDepth 100000 in
set_option maxHeartbeats 4000000 in
theorem InitialBranch_impl_3 (n : Int) (w : World) (h1 : 3 ≤ n) (h4 : n ≤ 4) : Calls Try.prog 41 #[.int .i64 n, .int .i64 3] w (RetBr w 0 8 (rng 8 (2 ^ n.toNat))) := by
  obtain ⟨i0, hi0, hz0, hz1, hz2⟩ := info_parts info_DOmegaSE
  go_enter Try.func41, Try.ntmps41
  go_wp2_with fail
  obtain ⟨w0, hw0⟩ : ∃ w0, w0 = (w.alloc (.cells #[.int .i64 0, .slice none 0 0] 59)).alloc (.cells #[.int .i64 0, .slice none 0 0] 59) := ⟨_, rfl⟩
  rw [← hw0]
  have X0 := Lib.hid (show w0.heap[w.heap.size]? = some (.cells #[.int .i64 0, .slice none 0 0] 59 (0, 0)) by rw [hw0]; exact boxed2_0 _ _ _)
  have X1 := Lib.hid (show w0.heap[w.heap.size + 1]? = some (.cells #[.int .i64 0, .slice none 0 0] 59 (0, 0)) by rw [hw0]; exact boxed2_1 _ _ _)
  have b0 : Below w.heap.size w w0 := by rw [hw0]; exact (by repeat (first | exact Below.refl _ _ | assumption | (refine Below.trans ?_ (Below.mono (by assumption) (by first | omega | (simp; done) | (simp; omega)))) | (with_reducible refine Below.drew ?_) | (with_reducible refine Below.alloc ?_ (by first | omega | (simp; done) | (simp; omega)) _) | (with_reducible refine Below.setCell ?_ (by first | omega | (simp; done) | (simp; omega)) _)))
  have s0 : w.heap.size + 2 = w0.heap.size := by rw [hw0]; simp
  have S0 := Lib.hid s0
  clear hw0 s0
  go_loopw [6] (fun i wr => ∃ (t : Nat) (A : Option Addr) (c : Nat) (F : List Nat), t ≤ 8 ∧ i = .int .i64 t ∧ wr.heap[w.heap.size + 1]? = some (.cells #[.int .i64 0, .slice A t c] 59 (0, 0)) ∧ OwnM wr (w.heap.size + 2) (.slice A t c) t (rng t (2 ^ n.toNat)) F ∧ Below (w.heap.size + 1) w0 wr) (fun i _ => 8 - (intOf i).toNat)
  case atStart => exact ⟨0, none, 0, [], by omega, rfl, X1.out, ownM_nil _ _, Below.refl _ _⟩
  case round =>
    obtain ⟨t, A, c, F, ht, rfl, hx1, hown, hb⟩ := hrel
    have hbs := hb.size
    have s0 := S0.out
    by_cases hlt : t < 8
    · have p1 : wr.cell? ⟨w.heap.size + 1, 1, none⟩ = some (.slice A t c) := cell_at (j := 1) hx1 rfl
      have f1 : wr.frozen? ⟨w.heap.size + 1, 1, none⟩ = false := by simp [World.frozen?, hx1]
      have HX1 := Lib.hid hx1
      have HT := Lib.hid (show t < 2 ^ n.toNat from pow_lt (k := 3) rfl (by omega) hlt)
      obtain ⟨SS, hM1, hM2, hF, hN, hrows⟩ := hown
      subst hF
      have HM1 := Lib.hid hM1
      have HM2 := Lib.hid hM2
      have HN := Lib.hid hN
      have HROW := Lib.hid hrows
      have hXlt : w.heap.size + 1 < wr.heap.size := by omega
      clear hx1 hM1 hM2 hN hrows
      go_wp2_with fail
      go_region_with (go_at_call 86; (with_reducible refine (BasisState_impl n t _ (by omega) h4 HT.out).mono ?_); rintro e w2 ⟨u, rfl, own2, hb2, hs2⟩; obtain ⟨k2, fr2, om2, hb3, hX2⟩ := held_call hb2 p1 f1 hXlt HM2.out; obtain ⟨a2, c2, rfl, _, _, _⟩ := rd_of_own own2; obtain ⟨v3, w3, hrun3, hown3, hgrow3, hat3⟩ := run_append_rd (P := Try.prog) (w2.alloc (.cells #[.slice a2 (bst (2 ^ n.toNat) t).length c2] 106)) (w.heap.size + 2) 57 57 106 i0 _ 1 24 Try.underlying57 hi0 hz0 hz1 hz2 rfl (by omega) (.slice A t c) t SS (om2.alloc _) (some ⟨w2.heap.size, 0, none⟩) 1 1 [.slice a2 (bst (2 ^ n.toNat) t).length c2] (rd_lit2 rfl rfl) (by simp [Value.oneCell']) (by simp only [maxLen]; omega) (by omega) (by simp; omega); rw [fold_append] at hrun3; obtain ⟨A3, c3, rfl, _, _, _⟩ := rd_of_own hown3; obtain ⟨k3, fr3⟩ := held_append hgrow3 (own_ge om2) (Nat.lt_succ_self _) k2 fr2 hX2)
      all_goals
        go_wp2_with fail
        go_roundw
        case rel =>
          obtain ⟨hx', ⟨F', hF'⟩, hb'⟩ := states_step (B := w.heap.size + 1) (Nat.lt_succ_self _) (Nat.le_refl _) (by omega) HX1.out HM1.out HM2.out HN.out HROW.out hb own2 hb3 hown3 hgrow3 hat3
          exact ⟨t + 1, A3, c3, F', by omega, by go_num, hx', by rw [rng_succ]; exact hF', hb'⟩
        case measure => simp [intOf]; omega
    · obtain rfl : t = 8 := by omega
      have hx0 := (hb.block w.heap.size (by omega)).trans X0.out
      have p0 : wr.cell? ⟨w.heap.size + 1, 0, none⟩ = some (.int .i64 0) := cell_at (j := 0) hx1 rfl
      have p1 : wr.cell? ⟨w.heap.size + 1, 1, none⟩ = some (.slice A 8 c) := cell_at (j := 1) hx1 rfl
      have q0 : wr.cell? ⟨w.heap.size, 0, none⟩ = some (.int .i64 0) := cell_at (j := 0) hx0 rfl
      have q1 : wr.cell? ⟨w.heap.size, 1, none⟩ = some (.slice none 0 0) := cell_at (j := 1) hx0 rfl
      have f0 : wr.frozen? ⟨w.heap.size, 0, none⟩ = false := by simp [World.frozen?, hx0]
      have f1 : wr.frozen? ⟨w.heap.size, 1, none⟩ = false := by simp [World.frozen?, hx0]
      have HO := Lib.hid hown
      clear hx1 hx0 hown
      go_wp2_with fail
      refine bodyPost_ret (v := .agg #[.int .i64 0, .slice A 8 c]) (by simp [results, Try.results41, go_sem, q0, q1]) rfl ⟨A, c, F, rfl, ?_, ?_, ?_⟩
      · exact ((HO.out.base_le (by omega)).kin ((kin_setCell _ w.heap.size _ _).trans (kin_setCell _ w.heap.size _ _)) (fun k hk hm => by have := (HO.out.lt k hk).1; simp at hm; omega))
      · exact ((b0.trans (hb.mono (by omega))).setCell (by simp) _).setCell (by simp) _
      · simp [World.setCell]; omega

set_option maxRecDepth 100000 in
set_option maxHeartbeats 4000000 in
theorem InitialBranch_impl_4 (n : Int) (w : World) (h1 : 4 ≤ n) (h4 : n ≤ 4) : Calls Try.prog 41 #[.int .i64 n, .int .i64 4] w (RetBr w 0 16 (rng 16 (2 ^ n.toNat))) := by
  obtain ⟨i0, hi0, hz0, hz1, hz2⟩ := info_parts info_DOmegaSE
  go_enter Try.func41, Try.ntmps41
  go_wp2_with fail
  obtain ⟨w0, hw0⟩ : ∃ w0, w0 = (w.alloc (.cells #[.int .i64 0, .slice none 0 0] 59)).alloc (.cells #[.int .i64 0, .slice none 0 0] 59) := ⟨_, rfl⟩
  rw [← hw0]
  have X0 := Lib.hid (show w0.heap[w.heap.size]? = some (.cells #[.int .i64 0, .slice none 0 0] 59 (0, 0)) by rw [hw0]; exact boxed2_0 _ _ _)
  have X1 := Lib.hid (show w0.heap[w.heap.size + 1]? = some (.cells #[.int .i64 0, .slice none 0 0] 59 (0, 0)) by rw [hw0]; exact boxed2_1 _ _ _)
  have b0 : Below w.heap.size w w0 := by rw [hw0]; exact (by repeat (first | exact Below.refl _ _ | assumption | (refine Below.trans ?_ (Below.mono (by assumption) (by first | omega | (simp; done) | (simp; omega)))) | (with_reducible refine Below.drew ?_) | (with_reducible refine Below.alloc ?_ (by first | omega | (simp; done) | (simp; omega)) _) | (with_reducible refine Below.setCell ?_ (by first | omega | (simp; done) | (simp; omega)) _)))
  have s0 : w.heap.size + 2 = w0.heap.size := by rw [hw0]; simp
  have S0 := Lib.hid s0
  clear hw0 s0
  go_loopw [6] (fun i wr => ∃ (t : Nat) (A : Option Addr) (c : Nat) (F : List Nat), t ≤ 16 ∧ i = .int .i64 t ∧ wr.heap[w.heap.size + 1]? = some (.cells #[.int .i64 0, .slice A t c] 59 (0, 0)) ∧ OwnM wr (w.heap.size + 2) (.slice A t c) t (rng t (2 ^ n.toNat)) F ∧ Below (w.heap.size + 1) w0 wr) (fun i _ => 16 - (intOf i).toNat)
  case atStart => exact ⟨0, none, 0, [], by omega, rfl, X1.out, ownM_nil _ _, Below.refl _ _⟩
  case round =>
    obtain ⟨t, A, c, F, ht, rfl, hx1, hown, hb⟩ := hrel
    have hbs := hb.size
    have s0 := S0.out
    by_cases hlt : t < 16
    · have p1 : wr.cell? ⟨w.heap.size + 1, 1, none⟩ = some (.slice A t c) := cell_at (j := 1) hx1 rfl
      have f1 : wr.frozen? ⟨w.heap.size + 1, 1, none⟩ = false := by simp [World.frozen?, hx1]
      have HX1 := Lib.hid hx1
      have HT := Lib.hid (show t < 2 ^ n.toNat from pow_lt (k := 4) rfl (by omega) hlt)
      obtain ⟨SS, hM1, hM2, hF, hN, hrows⟩ := hown
      subst hF
      have HM1 := Lib.hid hM1
      have HM2 := Lib.hid hM2
      have HN := Lib.hid hN
      have HROW := Lib.hid hrows
      have hXlt : w.heap.size + 1 < wr.heap.size := by omega
      clear hx1 hM1 hM2 hN hrows
      go_wp2_with fail
      go_region_with (go_at_call 86; (with_reducible refine (BasisState_impl n t _ (by omega) h4 HT.out).mono ?_); rintro e w2 ⟨u, rfl, own2, hb2, hs2⟩; obtain ⟨k2, fr2, om2, hb3, hX2⟩ := held_call hb2 p1 f1 hXlt HM2.out; obtain ⟨a2, c2, rfl, _, _, _⟩ := rd_of_own own2; obtain ⟨v3, w3, hrun3, hown3, hgrow3, hat3⟩ := run_append_rd (P := Try.prog) (w2.alloc (.cells #[.slice a2 (bst (2 ^ n.toNat) t).length c2] 106)) (w.heap.size + 2) 57 57 106 i0 _ 1 24 Try.underlying57 hi0 hz0 hz1 hz2 rfl (by omega) (.slice A t c) t SS (om2.alloc _) (some ⟨w2.heap.size, 0, none⟩) 1 1 [.slice a2 (bst (2 ^ n.toNat) t).length c2] (rd_lit2 rfl rfl) (by simp [Value.oneCell']) (by simp only [maxLen]; omega) (by omega) (by simp; omega); rw [fold_append] at hrun3; obtain ⟨A3, c3, rfl, _, _, _⟩ := rd_of_own hown3; obtain ⟨k3, fr3⟩ := held_append hgrow3 (own_ge om2) (Nat.lt_succ_self _) k2 fr2 hX2)
      all_goals
        go_wp2_with fail
        go_roundw
        case rel =>
          obtain ⟨hx', ⟨F', hF'⟩, hb'⟩ := states_step (B := w.heap.size + 1) (Nat.lt_succ_self _) (Nat.le_refl _) (by omega) HX1.out HM1.out HM2.out HN.out HROW.out hb own2 hb3 hown3 hgrow3 hat3
          exact ⟨t + 1, A3, c3, F', by omega, by go_num, hx', by rw [rng_succ]; exact hF', hb'⟩
        case measure => simp [intOf]; omega
    · obtain rfl : t = 16 := by omega
      have hx0 := (hb.block w.heap.size (by omega)).trans X0.out
      have p0 : wr.cell? ⟨w.heap.size + 1, 0, none⟩ = some (.int .i64 0) := cell_at (j := 0) hx1 rfl
      have p1 : wr.cell? ⟨w.heap.size + 1, 1, none⟩ = some (.slice A 16 c) := cell_at (j := 1) hx1 rfl
      have q0 : wr.cell? ⟨w.heap.size, 0, none⟩ = some (.int .i64 0) := cell_at (j := 0) hx0 rfl
      have q1 : wr.cell? ⟨w.heap.size, 1, none⟩ = some (.slice none 0 0) := cell_at (j := 1) hx0 rfl
      have f0 : wr.frozen? ⟨w.heap.size, 0, none⟩ = false := by simp [World.frozen?, hx0]
      have f1 : wr.frozen? ⟨w.heap.size, 1, none⟩ = false := by simp [World.frozen?, hx0]
      have HO := Lib.hid hown
      clear hx1 hx0 hown
      go_wp2_with fail
      refine bodyPost_ret (v := .agg #[.int .i64 0, .slice A 16 c]) (by simp [results, Try.results41, go_sem, q0, q1]) rfl ⟨A, c, F, rfl, ?_, ?_, ?_⟩
      · exact ((HO.out.base_le (by omega)).kin ((kin_setCell _ w.heap.size _ _).trans (kin_setCell _ w.heap.size _ _)) (fun k hk hm => by have := (HO.out.lt k hk).1; simp at hm; omega))
      · exact ((b0.trans (hb.mono (by omega))).setCell (by simp) _).setCell (by simp) _
      · simp [World.setCell]; omega

set_option maxRecDepth 100000 in
theorem InitialBranch_impl_no (n k : Int) (w : World) (h : okI n k = false) : Calls Try.prog 41 #[.int .i64 n, .int .i64 k] w (RetBr w 0 0 []) := by
  have hz : n < 1 ∨ (1 ≤ n ∧ 4 < n) ∨ (1 ≤ n ∧ n ≤ 4 ∧ k < 1) ∨ (1 ≤ n ∧ n ≤ 4 ∧ 1 ≤ k ∧ n < k) := by
    rcases Bool.and_eq_false_iff.1 h with h | h
    · have : ¬ (1 ≤ n ∧ n ≤ 4) := fun hh => by rw [inB_iff.2 hh] at h; cases h
      omega
    · have : ¬ (1 ≤ k ∧ k ≤ n) := fun hh => by rw [inB_iff.2 hh] at h; cases h
      omega
  clear h
  rcases hz with h | ⟨h, g⟩ | ⟨h, g, j⟩ | ⟨h, g, j, l⟩
  · go_enter Try.func41, Try.ntmps41
    go_wp2_with fail
    exact bodyPost_ret (v := .agg #[.int .i64 0, .slice none 0 0]) (by simp [results, Try.results41, go_sem]) rfl ⟨none, 0, [], rfl, ownM_nil _ _, (by repeat (first | exact Below.refl _ _ | assumption | (refine Below.trans ?_ (Below.mono (by assumption) (by first | omega | (simp; done) | (simp; omega)))) | (with_reducible refine Below.drew ?_) | (with_reducible refine Below.alloc ?_ (by first | omega | (simp; done) | (simp; omega)) _) | (with_reducible refine Below.setCell ?_ (by first | omega | (simp; done) | (simp; omega)) _))), (by first | omega | (simp; done) | (simp; omega))⟩
  · go_enter Try.func41, Try.ntmps41
    go_wp2_with fail
    exact bodyPost_ret (v := .agg #[.int .i64 0, .slice none 0 0]) (by simp [results, Try.results41, go_sem]) rfl ⟨none, 0, [], rfl, ownM_nil _ _, (by repeat (first | exact Below.refl _ _ | assumption | (refine Below.trans ?_ (Below.mono (by assumption) (by first | omega | (simp; done) | (simp; omega)))) | (with_reducible refine Below.drew ?_) | (with_reducible refine Below.alloc ?_ (by first | omega | (simp; done) | (simp; omega)) _) | (with_reducible refine Below.setCell ?_ (by first | omega | (simp; done) | (simp; omega)) _))), (by first | omega | (simp; done) | (simp; omega))⟩
  · go_enter Try.func41, Try.ntmps41
    go_wp2_with fail
    exact bodyPost_ret (v := .agg #[.int .i64 0, .slice none 0 0]) (by simp [results, Try.results41, go_sem]) rfl ⟨none, 0, [], rfl, ownM_nil _ _, (by repeat (first | exact Below.refl _ _ | assumption | (refine Below.trans ?_ (Below.mono (by assumption) (by first | omega | (simp; done) | (simp; omega)))) | (with_reducible refine Below.drew ?_) | (with_reducible refine Below.alloc ?_ (by first | omega | (simp; done) | (simp; omega)) _) | (with_reducible refine Below.setCell ?_ (by first | omega | (simp; done) | (simp; omega)) _))), (by first | omega | (simp; done) | (simp; omega))⟩
  · go_enter Try.func41, Try.ntmps41
    go_wp2_with fail
    exact bodyPost_ret (v := .agg #[.int .i64 0, .slice none 0 0]) (by simp [results, Try.results41, go_sem]) rfl ⟨none, 0, [], rfl, ownM_nil _ _, (by repeat (first | exact Below.refl _ _ | assumption | (refine Below.trans ?_ (Below.mono (by assumption) (by first | omega | (simp; done) | (simp; omega)))) | (with_reducible refine Below.drew ?_) | (with_reducible refine Below.alloc ?_ (by first | omega | (simp; done) | (simp; omega)) _) | (with_reducible refine Below.setCell ?_ (by first | omega | (simp; done) | (simp; omega)) _))), (by first | omega | (simp; done) | (simp; omega))⟩

theorem InitialBranch_impl (n k : Int) (w : World) : Calls Try.prog 41 #[.int .i64 n, .int .i64 k] w (RetBr w 0 (initM n k).length (initM n k)) := by
  cases h : okI n k
  · rw [initM_no h]
    exact InitialBranch_impl_no n k w h
  · have e : initM n k = rng (2 ^ k.toNat) (2 ^ n.toNat) := by simp [initM, h]
    rw [e, rng_len]
    simp only [okI, Bool.and_eq_true] at h
    have h1 := inB_iff.1 h.1
    have h2 := inB_iff.1 h.2
    have hk : k = 1 ∨ k = 2 ∨ k = 3 ∨ k = 4 := by omega
    rcases hk with rfl | rfl | rfl | rfl
    · exact InitialBranch_impl_1 n w (by omega) (by omega)
    · exact InitialBranch_impl_2 n w (by omega) (by omega)
    · exact InitialBranch_impl_3 n w (by omega) (by omega)
    · exact InitialBranch_impl_4 n w (by omega) (by omega)
set_option maxRecDepth 100000 in
set_option maxHeartbeats 4000000 in
theorem InitialBranch_spec_1 (n : Int) (w : World) (h1 : 1 ≤ n) (h4 : n ≤ 4) : Calls Try.prog 40 #[.int .i64 n, .int .i64 1] w (RetBr w 0 2 (rng 2 (2 ^ n.toNat))) := by
  obtain ⟨i0, hi0, hz0, hz1, hz2⟩ := info_parts info_DOmegaSE
  have hin1 : inB n 1 4 = true := inB_iff.2 (by omega)
  have hin2 : inB 1 1 n = true := inB_iff.2 (by omega)
  go_enter Try.func40, Try.ntmps40
  go_wp2_with (go_at_call 64; refine (l1In_any _ _ _ _).mono ?_; rintro e w' ⟨rfl, rfl⟩)
  obtain ⟨w0, hw0⟩ : ∃ w0, w0 = (w.alloc (.cells #[.int .i64 0, .slice none 0 0] 59)).alloc (.cells #[.int .i64 0, .slice none 0 0] 59) := ⟨_, rfl⟩
  rw [← hw0]
  have X0 := Lib.hid (show w0.heap[w.heap.size]? = some (.cells #[.int .i64 0, .slice none 0 0] 59 (0, 0)) by rw [hw0]; exact boxed2_0 _ _ _)
  have X1 := Lib.hid (show w0.heap[w.heap.size + 1]? = some (.cells #[.int .i64 0, .slice none 0 0] 59 (0, 0)) by rw [hw0]; exact boxed2_1 _ _ _)
  have b0 : Below w.heap.size w w0 := by rw [hw0]; exact (by repeat (first | exact Below.refl _ _ | assumption | (refine Below.trans ?_ (Below.mono (by assumption) (by first | omega | (simp; done) | (simp; omega)))) | (with_reducible refine Below.drew ?_) | (with_reducible refine Below.alloc ?_ (by first | omega | (simp; done) | (simp; omega)) _) | (with_reducible refine Below.setCell ?_ (by first | omega | (simp; done) | (simp; omega)) _)))
  have s0 : w.heap.size + 2 = w0.heap.size := by rw [hw0]; simp
  have S0 := Lib.hid s0
  clear hw0 s0
  go_loopw [6] (fun i wr => ∃ (t : Nat) (A : Option Addr) (c : Nat) (F : List Nat), t ≤ 2 ∧ i = .int .i64 t ∧ wr.heap[w.heap.size + 1]? = some (.cells #[.int .i64 0, .slice A t c] 59 (0, 0)) ∧ OwnM wr (w.heap.size + 2) (.slice A t c) t (rng t (2 ^ n.toNat)) F ∧ Below (w.heap.size + 1) w0 wr) (fun i _ => 2 - (intOf i).toNat)
  case atStart => exact ⟨0, none, 0, [], by omega, rfl, X1.out, ownM_nil _ _, Below.refl _ _⟩
  case round =>
    obtain ⟨t, A, c, F, ht, rfl, hx1, hown, hb⟩ := hrel
    have hbs := hb.size
    have s0 := S0.out
    by_cases hlt : t < 2
    · have p1 : wr.cell? ⟨w.heap.size + 1, 1, none⟩ = some (.slice A t c) := cell_at (j := 1) hx1 rfl
      have f1 : wr.frozen? ⟨w.heap.size + 1, 1, none⟩ = false := by simp [World.frozen?, hx1]
      have HX1 := Lib.hid hx1
      have HT := Lib.hid (show t < 2 ^ n.toNat from pow_lt (k := 1) rfl (by omega) hlt)
      obtain ⟨SS, hM1, hM2, hF, hN, hrows⟩ := hown
      subst hF
      have HM1 := Lib.hid hM1
      have HM2 := Lib.hid hM2
      have HN := Lib.hid hN
      have HROW := Lib.hid hrows
      have hXlt : w.heap.size + 1 < wr.heap.size := by omega
      clear hx1 hM1 hM2 hN hrows
      go_wp2_with fail
      go_region_with (go_at_call 85; (with_reducible refine (BasisState_spec n t _ (by omega) h4 HT.out).mono ?_); rintro e w2 ⟨u, rfl, own2, hb2, hs2⟩; obtain ⟨k2, fr2, om2, hb3, hX2⟩ := held_call hb2 p1 f1 hXlt HM2.out; obtain ⟨a2, c2, rfl, _, _, _⟩ := rd_of_own own2; obtain ⟨v3, w3, hrun3, hown3, hgrow3, hat3⟩ := run_append_rd (P := Try.prog) (w2.alloc (.cells #[.slice a2 (bst (2 ^ n.toNat) t).length c2] 106)) (w.heap.size + 2) 57 57 106 i0 _ 1 24 Try.underlying57 hi0 hz0 hz1 hz2 rfl (by omega) (.slice A t c) t SS (om2.alloc _) (some ⟨w2.heap.size, 0, none⟩) 1 1 [.slice a2 (bst (2 ^ n.toNat) t).length c2] (rd_lit2 rfl rfl) (by simp [Value.oneCell']) (by simp only [maxLen]; omega) (by omega) (by simp; omega); rw [fold_append] at hrun3; obtain ⟨A3, c3, rfl, _, _, _⟩ := rd_of_own hown3; obtain ⟨k3, fr3⟩ := held_append hgrow3 (own_ge om2) (Nat.lt_succ_self _) k2 fr2 hX2)
      all_goals
        go_wp2_with fail
        go_roundw
        case rel =>
          obtain ⟨hx', ⟨F', hF'⟩, hb'⟩ := states_step (B := w.heap.size + 1) (Nat.lt_succ_self _) (Nat.le_refl _) (by omega) HX1.out HM1.out HM2.out HN.out HROW.out hb own2 hb3 hown3 hgrow3 hat3
          exact ⟨t + 1, A3, c3, F', by omega, by go_num, hx', by rw [rng_succ]; exact hF', hb'⟩
        case measure => simp [intOf]; omega
    · obtain rfl : t = 2 := by omega
      have hx0 := (hb.block w.heap.size (by omega)).trans X0.out
      have p0 : wr.cell? ⟨w.heap.size + 1, 0, none⟩ = some (.int .i64 0) := cell_at (j := 0) hx1 rfl
      have p1 : wr.cell? ⟨w.heap.size + 1, 1, none⟩ = some (.slice A 2 c) := cell_at (j := 1) hx1 rfl
      have q0 : wr.cell? ⟨w.heap.size, 0, none⟩ = some (.int .i64 0) := cell_at (j := 0) hx0 rfl
      have q1 : wr.cell? ⟨w.heap.size, 1, none⟩ = some (.slice none 0 0) := cell_at (j := 1) hx0 rfl
      have f0 : wr.frozen? ⟨w.heap.size, 0, none⟩ = false := by simp [World.frozen?, hx0]
      have f1 : wr.frozen? ⟨w.heap.size, 1, none⟩ = false := by simp [World.frozen?, hx0]
      have HO := Lib.hid hown
      clear hx1 hx0 hown
      go_wp2_with fail
      refine bodyPost_ret (v := .agg #[.int .i64 0, .slice A 2 c]) (by simp [results, Try.results40, go_sem, q0, q1]) rfl ⟨A, c, F, rfl, ?_, ?_, ?_⟩
      · exact ((HO.out.base_le (by omega)).kin ((kin_setCell _ w.heap.size _ _).trans (kin_setCell _ w.heap.size _ _)) (fun k hk hm => by have := (HO.out.lt k hk).1; simp at hm; omega))
      · exact ((b0.trans (hb.mono (by omega))).setCell (by simp) _).setCell (by simp) _
      · simp [World.setCell]; omega

set_option maxRecDepth 100000 in
set_option maxHeartbeats 4000000 in
theorem InitialBranch_spec_2 (n : Int) (w : World) (h1 : 2 ≤ n) (h4 : n ≤ 4) : Calls Try.prog 40 #[.int .i64 n, .int .i64 2] w (RetBr w 0 4 (rng 4 (2 ^ n.toNat))) := by
  obtain ⟨i0, hi0, hz0, hz1, hz2⟩ := info_parts info_DOmegaSE
  have hin1 : inB n 1 4 = true := inB_iff.2 (by omega)
  have hin2 : inB 2 1 n = true := inB_iff.2 (by omega)
  go_enter Try.func40, Try.ntmps40
  go_wp2_with (go_at_call 64; refine (l1In_any _ _ _ _).mono ?_; rintro e w' ⟨rfl, rfl⟩)
  obtain ⟨w0, hw0⟩ : ∃ w0, w0 = (w.alloc (.cells #[.int .i64 0, .slice none 0 0] 59)).alloc (.cells #[.int .i64 0, .slice none 0 0] 59) := ⟨_, rfl⟩
  rw [← hw0]
  have X0 := Lib.hid (show w0.heap[w.heap.size]? = some (.cells #[.int .i64 0, .slice none 0 0] 59 (0, 0)) by rw [hw0]; exact boxed2_0 _ _ _)
  have X1 := Lib.hid (show w0.heap[w.heap.size + 1]? = some (.cells #[.int .i64 0, .slice none 0 0] 59 (0, 0)) by rw [hw0]; exact boxed2_1 _ _ _)
  have b0 : Below w.heap.size w w0 := by rw [hw0]; exact (by repeat (first | exact Below.refl _ _ | assumption | (refine Below.trans ?_ (Below.mono (by assumption) (by first | omega | (simp; done) | (simp; omega)))) | (with_reducible refine Below.drew ?_) | (with_reducible refine Below.alloc ?_ (by first | omega | (simp; done) | (simp; omega)) _) | (with_reducible refine Below.setCell ?_ (by first | omega | (simp; done) | (simp; omega)) _)))
  have s0 : w.heap.size + 2 = w0.heap.size := by rw [hw0]; simp
  have S0 := Lib.hid s0
  clear hw0 s0
  go_loopw [6] (fun i wr => ∃ (t : Nat) (A : Option Addr) (c : Nat) (F : List Nat), t ≤ 4 ∧ i = .int .i64 t ∧ wr.heap[w.heap.size + 1]? = some (.cells #[.int .i64 0, .slice A t c] 59 (0, 0)) ∧ OwnM wr (w.heap.size + 2) (.slice A t c) t (rng t (2 ^ n.toNat)) F ∧ Below (w.heap.size + 1) w0 wr) (fun i _ => 4 - (intOf i).toNat)
  case atStart => exact ⟨0, none, 0, [], by omega, rfl, X1.out, ownM_nil _ _, Below.refl _ _⟩
  case round =>
    obtain ⟨t, A, c, F, ht, rfl, hx1, hown, hb⟩ := hrel
    have hbs := hb.size
    have s0 := S0.out
    by_cases hlt : t < 4
    · have p1 : wr.cell? ⟨w.heap.size + 1, 1, none⟩ = some (.slice A t c) := cell_at (j := 1) hx1 rfl
      have f1 : wr.frozen? ⟨w.heap.size + 1, 1, none⟩ = false := by simp [World.frozen?, hx1]
      have HX1 := Lib.hid hx1
      have HT := Lib.hid (show t < 2 ^ n.toNat from pow_lt (k := 2) rfl (by omega) hlt)
      obtain ⟨SS, hM1, hM2, hF, hN, hrows⟩ := hown
      subst hF
      have HM1 := Lib.hid hM1
      have HM2 := Lib.hid hM2
      have HN := Lib.hid hN
      have HROW := Lib.hid hrows
      have hXlt : w.heap.size + 1 < wr.heap.size := by omega
      clear hx1 hM1 hM2 hN hrows
      go_wp2_with fail
      go_region_with (go_at_call 85; (with_reducible refine (BasisState_spec n t _ (by omega) h4 HT.out).mono ?_); rintro e w2 ⟨u, rfl, own2, hb2, hs2⟩; obtain ⟨k2, fr2, om2, hb3, hX2⟩ := held_call hb2 p1 f1 hXlt HM2.out; obtain ⟨a2, c2, rfl, _, _, _⟩ := rd_of_own own2; obtain ⟨v3, w3, hrun3, hown3, hgrow3, hat3⟩ := run_append_rd (P := Try.prog) (w2.alloc (.cells #[.slice a2 (bst (2 ^ n.toNat) t).length c2] 106)) (w.heap.size + 2) 57 57 106 i0 _ 1 24 Try.underlying57 hi0 hz0 hz1 hz2 rfl (by omega) (.slice A t c) t SS (om2.alloc _) (some ⟨w2.heap.size, 0, none⟩) 1 1 [.slice a2 (bst (2 ^ n.toNat) t).length c2] (rd_lit2 rfl rfl) (by simp [Value.oneCell']) (by simp only [maxLen]; omega) (by omega) (by simp; omega); rw [fold_append] at hrun3; obtain ⟨A3, c3, rfl, _, _, _⟩ := rd_of_own hown3; obtain ⟨k3, fr3⟩ := held_append hgrow3 (own_ge om2) (Nat.lt_succ_self _) k2 fr2 hX2)
      all_goals
        go_wp2_with fail
        go_roundw
        case rel =>
          obtain ⟨hx', ⟨F', hF'⟩, hb'⟩ := states_step (B := w.heap.size + 1) (Nat.lt_succ_self _) (Nat.le_refl _) (by omega) HX1.out HM1.out HM2.out HN.out HROW.out hb own2 hb3 hown3 hgrow3 hat3
          exact ⟨t + 1, A3, c3, F', by omega, by go_num, hx', by rw [rng_succ]; exact hF', hb'⟩
        case measure => simp [intOf]; omega
    · obtain rfl : t = 4 := by omega
      have hx0 := (hb.block w.heap.size (by omega)).trans X0.out
      have p0 : wr.cell? ⟨w.heap.size + 1, 0, none⟩ = some (.int .i64 0) := cell_at (j := 0) hx1 rfl
      have p1 : wr.cell? ⟨w.heap.size + 1, 1, none⟩ = some (.slice A 4 c) := cell_at (j := 1) hx1 rfl
      have q0 : wr.cell? ⟨w.heap.size, 0, none⟩ = some (.int .i64 0) := cell_at (j := 0) hx0 rfl
      have q1 : wr.cell? ⟨w.heap.size, 1, none⟩ = some (.slice none 0 0) := cell_at (j := 1) hx0 rfl
      have f0 : wr.frozen? ⟨w.heap.size, 0, none⟩ = false := by simp [World.frozen?, hx0]
      have f1 : wr.frozen? ⟨w.heap.size, 1, none⟩ = false := by simp [World.frozen?, hx0]
      have HO := Lib.hid hown
      clear hx1 hx0 hown
      go_wp2_with fail
      refine bodyPost_ret (v := .agg #[.int .i64 0, .slice A 4 c]) (by simp [results, Try.results40, go_sem, q0, q1]) rfl ⟨A, c, F, rfl, ?_, ?_, ?_⟩
      · exact ((HO.out.base_le (by omega)).kin ((kin_setCell _ w.heap.size _ _).trans (kin_setCell _ w.heap.size _ _)) (fun k hk hm => by have := (HO.out.lt k hk).1; simp at hm; omega))
      · exact ((b0.trans (hb.mono (by omega))).setCell (by simp) _).setCell (by simp) _
      · simp [World.setCell]; omega

set_option maxRecDepth 100000 in
set_option maxHeartbeats 4000000 in
theorem InitialBranch_spec_3 (n : Int) (w : World) (h1 : 3 ≤ n) (h4 : n ≤ 4) : Calls Try.prog 40 #[.int .i64 n, .int .i64 3] w (RetBr w 0 8 (rng 8 (2 ^ n.toNat))) := by
  obtain ⟨i0, hi0, hz0, hz1, hz2⟩ := info_parts info_DOmegaSE
  have hin1 : inB n 1 4 = true := inB_iff.2 (by omega)
  have hin2 : inB 3 1 n = true := inB_iff.2 (by omega)
  go_enter Try.func40, Try.ntmps40
  go_wp2_with (go_at_call 64; refine (l1In_any _ _ _ _).mono ?_; rintro e w' ⟨rfl, rfl⟩)
  obtain ⟨w0, hw0⟩ : ∃ w0, w0 = (w.alloc (.cells #[.int .i64 0, .slice none 0 0] 59)).alloc (.cells #[.int .i64 0, .slice none 0 0] 59) := ⟨_, rfl⟩
  rw [← hw0]
  have X0 := Lib.hid (show w0.heap[w.heap.size]? = some (.cells #[.int .i64 0, .slice none 0 0] 59 (0, 0)) by rw [hw0]; exact boxed2_0 _ _ _)
  have X1 := Lib.hid (show w0.heap[w.heap.size + 1]? = some (.cells #[.int .i64 0, .slice none 0 0] 59 (0, 0)) by rw [hw0]; exact boxed2_1 _ _ _)
  have b0 : Below w.heap.size w w0 := by rw [hw0]; exact (by repeat (first | exact Below.refl _ _ | assumption | (refine Below.trans ?_ (Below.mono (by assumption) (by first | omega | (simp; done) | (simp; omega)))) | (with_reducible refine Below.drew ?_) | (with_reducible refine Below.alloc ?_ (by first | omega | (simp; done) | (simp; omega)) _) | (with_reducible refine Below.setCell ?_ (by first | omega | (simp; done) | (simp; omega)) _)))
  have s0 : w.heap.size + 2 = w0.heap.size := by rw [hw0]; simp
  have S0 := Lib.hid s0
  clear hw0 s0
  go_loopw [6] (fun i wr => ∃ (t : Nat) (A : Option Addr) (c : Nat) (F : List Nat), t ≤ 8 ∧ i = .int .i64 t ∧ wr.heap[w.heap.size + 1]? = some (.cells #[.int .i64 0, .slice A t c] 59 (0, 0)) ∧ OwnM wr (w.heap.size + 2) (.slice A t c) t (rng t (2 ^ n.toNat)) F ∧ Below (w.heap.size + 1) w0 wr) (fun i _ => 8 - (intOf i).toNat)
  case atStart => exact ⟨0, none, 0, [], by omega, rfl, X1.out, ownM_nil _ _, Below.refl _ _⟩
  case round =>
    obtain ⟨t, A, c, F, ht, rfl, hx1, hown, hb⟩ := hrel
    have hbs := hb.size
    have s0 := S0.out
    by_cases hlt : t < 8
    · have p1 : wr.cell? ⟨w.heap.size + 1, 1, none⟩ = some (.slice A t c) := cell_at (j := 1) hx1 rfl
      have f1 : wr.frozen? ⟨w.heap.size + 1, 1, none⟩ = false := by simp [World.frozen?, hx1]
      have HX1 := Lib.hid hx1
      have HT := Lib.hid (show t < 2 ^ n.toNat from pow_lt (k := 3) rfl (by omega) hlt)
      obtain ⟨SS, hM1, hM2, hF, hN, hrows⟩ := hown
      subst hF
      have HM1 := Lib.hid hM1
      have HM2 := Lib.hid hM2
      have HN := Lib.hid hN
      have HROW := Lib.hid hrows
      have hXlt : w.heap.size + 1 < wr.heap.size := by omega
      clear hx1 hM1 hM2 hN hrows
      go_wp2_with fail
      go_region_with (go_at_call 85; (with_reducible refine (BasisState_spec n t _ (by omega) h4 HT.out).mono ?_); rintro e w2 ⟨u, rfl, own2, hb2, hs2⟩; obtain ⟨k2, fr2, om2, hb3, hX2⟩ := held_call hb2 p1 f1 hXlt HM2.out; obtain ⟨a2, c2, rfl, _, _, _⟩ := rd_of_own own2; obtain ⟨v3, w3, hrun3, hown3, hgrow3, hat3⟩ := run_append_rd (P := Try.prog) (w2.alloc (.cells #[.slice a2 (bst (2 ^ n.toNat) t).length c2] 106)) (w.heap.size + 2) 57 57 106 i0 _ 1 24 Try.underlying57 hi0 hz0 hz1 hz2 rfl (by omega) (.slice A t c) t SS (om2.alloc _) (some ⟨w2.heap.size, 0, none⟩) 1 1 [.slice a2 (bst (2 ^ n.toNat) t).length c2] (rd_lit2 rfl rfl) (by simp [Value.oneCell']) (by simp only [maxLen]; omega) (by omega) (by simp; omega); rw [fold_append] at hrun3; obtain ⟨A3, c3, rfl, _, _, _⟩ := rd_of_own hown3; obtain ⟨k3, fr3⟩ := held_append hgrow3 (own_ge om2) (Nat.lt_succ_self _) k2 fr2 hX2)
      all_goals
        go_wp2_with fail
        go_roundw
        case rel =>
          obtain ⟨hx', ⟨F', hF'⟩, hb'⟩ := states_step (B := w.heap.size + 1) (Nat.lt_succ_self _) (Nat.le_refl _) (by omega) HX1.out HM1.out HM2.out HN.out HROW.out hb own2 hb3 hown3 hgrow3 hat3
          exact ⟨t + 1, A3, c3, F', by omega, by go_num, hx', by rw [rng_succ]; exact hF', hb'⟩
        case measure => simp [intOf]; omega
    · obtain rfl : t = 8 := by omega
      have hx0 := (hb.block w.heap.size (by omega)).trans X0.out
      have p0 : wr.cell? ⟨w.heap.size + 1, 0, none⟩ = some (.int .i64 0) := cell_at (j := 0) hx1 rfl
      have p1 : wr.cell? ⟨w.heap.size + 1, 1, none⟩ = some (.slice A 8 c) := cell_at (j := 1) hx1 rfl
      have q0 : wr.cell? ⟨w.heap.size, 0, none⟩ = some (.int .i64 0) := cell_at (j := 0) hx0 rfl
      have q1 : wr.cell? ⟨w.heap.size, 1, none⟩ = some (.slice none 0 0) := cell_at (j := 1) hx0 rfl
      have f0 : wr.frozen? ⟨w.heap.size, 0, none⟩ = false := by simp [World.frozen?, hx0]
      have f1 : wr.frozen? ⟨w.heap.size, 1, none⟩ = false := by simp [World.frozen?, hx0]
      have HO := Lib.hid hown
      clear hx1 hx0 hown
      go_wp2_with fail
      refine bodyPost_ret (v := .agg #[.int .i64 0, .slice A 8 c]) (by simp [results, Try.results40, go_sem, q0, q1]) rfl ⟨A, c, F, rfl, ?_, ?_, ?_⟩
      · exact ((HO.out.base_le (by omega)).kin ((kin_setCell _ w.heap.size _ _).trans (kin_setCell _ w.heap.size _ _)) (fun k hk hm => by have := (HO.out.lt k hk).1; simp at hm; omega))
      · exact ((b0.trans (hb.mono (by omega))).setCell (by simp) _).setCell (by simp) _
      · simp [World.setCell]; omega

set_option maxRecDepth 100000 in
set_option maxHeartbeats 4000000 in
theorem InitialBranch_spec_4 (n : Int) (w : World) (h1 : 4 ≤ n) (h4 : n ≤ 4) : Calls Try.prog 40 #[.int .i64 n, .int .i64 4] w (RetBr w 0 16 (rng 16 (2 ^ n.toNat))) := by
  obtain ⟨i0, hi0, hz0, hz1, hz2⟩ := info_parts info_DOmegaSE
  have hin1 : inB n 1 4 = true := inB_iff.2 (by omega)
  have hin2 : inB 4 1 n = true := inB_iff.2 (by omega)
  go_enter Try.func40, Try.ntmps40
  go_wp2_with (go_at_call 64; refine (l1In_any _ _ _ _).mono ?_; rintro e w' ⟨rfl, rfl⟩)
  obtain ⟨w0, hw0⟩ : ∃ w0, w0 = (w.alloc (.cells #[.int .i64 0, .slice none 0 0] 59)).alloc (.cells #[.int .i64 0, .slice none 0 0] 59) := ⟨_, rfl⟩
  rw [← hw0]
  have X0 := Lib.hid (show w0.heap[w.heap.size]? = some (.cells #[.int .i64 0, .slice none 0 0] 59 (0, 0)) by rw [hw0]; exact boxed2_0 _ _ _)
  have X1 := Lib.hid (show w0.heap[w.heap.size + 1]? = some (.cells #[.int .i64 0, .slice none 0 0] 59 (0, 0)) by rw [hw0]; exact boxed2_1 _ _ _)
  have b0 : Below w.heap.size w w0 := by rw [hw0]; exact (by repeat (first | exact Below.refl _ _ | assumption | (refine Below.trans ?_ (Below.mono (by assumption) (by first | omega | (simp; done) | (simp; omega)))) | (with_reducible refine Below.drew ?_) | (with_reducible refine Below.alloc ?_ (by first | omega | (simp; done) | (simp; omega)) _) | (with_reducible refine Below.setCell ?_ (by first | omega | (simp; done) | (simp; omega)) _)))
  have s0 : w.heap.size + 2 = w0.heap.size := by rw [hw0]; simp
  have S0 := Lib.hid s0
  clear hw0 s0
  go_loopw [6] (fun i wr => ∃ (t : Nat) (A : Option Addr) (c : Nat) (F : List Nat), t ≤ 16 ∧ i = .int .i64 t ∧ wr.heap[w.heap.size + 1]? = some (.cells #[.int .i64 0, .slice A t c] 59 (0, 0)) ∧ OwnM wr (w.heap.size + 2) (.slice A t c) t (rng t (2 ^ n.toNat)) F ∧ Below (w.heap.size + 1) w0 wr) (fun i _ => 16 - (intOf i).toNat)
  case atStart => exact ⟨0, none, 0, [], by omega, rfl, X1.out, ownM_nil _ _, Below.refl _ _⟩
  case round =>
    obtain ⟨t, A, c, F, ht, rfl, hx1, hown, hb⟩ := hrel
    have hbs := hb.size
    have s0 := S0.out
    by_cases hlt : t < 16
    · have p1 : wr.cell? ⟨w.heap.size + 1, 1, none⟩ = some (.slice A t c) := cell_at (j := 1) hx1 rfl
      have f1 : wr.frozen? ⟨w.heap.size + 1, 1, none⟩ = false := by simp [World.frozen?, hx1]
      have HX1 := Lib.hid hx1
      have HT := Lib.hid (show t < 2 ^ n.toNat from pow_lt (k := 4) rfl (by omega) hlt)
      obtain ⟨SS, hM1, hM2, hF, hN, hrows⟩ := hown
      subst hF
      have HM1 := Lib.hid hM1
      have HM2 := Lib.hid hM2
      have HN := Lib.hid hN
      have HROW := Lib.hid hrows
      have hXlt : w.heap.size + 1 < wr.heap.size := by omega
      clear hx1 hM1 hM2 hN hrows
      go_wp2_with fail
      go_region_with (go_at_call 85; (with_reducible refine (BasisState_spec n t _ (by omega) h4 HT.out).mono ?_); rintro e w2 ⟨u, rfl, own2, hb2, hs2⟩; obtain ⟨k2, fr2, om2, hb3, hX2⟩ := held_call hb2 p1 f1 hXlt HM2.out; obtain ⟨a2, c2, rfl, _, _, _⟩ := rd_of_own own2; obtain ⟨v3, w3, hrun3, hown3, hgrow3, hat3⟩ := run_append_rd (P := Try.prog) (w2.alloc (.cells #[.slice a2 (bst (2 ^ n.toNat) t).length c2] 106)) (w.heap.size + 2) 57 57 106 i0 _ 1 24 Try.underlying57 hi0 hz0 hz1 hz2 rfl (by omega) (.slice A t c) t SS (om2.alloc _) (some ⟨w2.heap.size, 0, none⟩) 1 1 [.slice a2 (bst (2 ^ n.toNat) t).length c2] (rd_lit2 rfl rfl) (by simp [Value.oneCell']) (by simp only [maxLen]; omega) (by omega) (by simp; omega); rw [fold_append] at hrun3; obtain ⟨A3, c3, rfl, _, _, _⟩ := rd_of_own hown3; obtain ⟨k3, fr3⟩ := held_append hgrow3 (own_ge om2) (Nat.lt_succ_self _) k2 fr2 hX2)
      all_goals
        go_wp2_with fail
        go_roundw
        case rel =>
          obtain ⟨hx', ⟨F', hF'⟩, hb'⟩ := states_step (B := w.heap.size + 1) (Nat.lt_succ_self _) (Nat.le_refl _) (by omega) HX1.out HM1.out HM2.out HN.out HROW.out hb own2 hb3 hown3 hgrow3 hat3
          exact ⟨t + 1, A3, c3, F', by omega, by go_num, hx', by rw [rng_succ]; exact hF', hb'⟩
        case measure => simp [intOf]; omega
    · obtain rfl : t = 16 := by omega
      have hx0 := (hb.block w.heap.size (by omega)).trans X0.out
      have p0 : wr.cell? ⟨w.heap.size + 1, 0, none⟩ = some (.int .i64 0) := cell_at (j := 0) hx1 rfl
      have p1 : wr.cell? ⟨w.heap.size + 1, 1, none⟩ = some (.slice A 16 c) := cell_at (j := 1) hx1 rfl
      have q0 : wr.cell? ⟨w.heap.size, 0, none⟩ = some (.int .i64 0) := cell_at (j := 0) hx0 rfl
      have q1 : wr.cell? ⟨w.heap.size, 1, none⟩ = some (.slice none 0 0) := cell_at (j := 1) hx0 rfl
      have f0 : wr.frozen? ⟨w.heap.size, 0, none⟩ = false := by simp [World.frozen?, hx0]
      have f1 : wr.frozen? ⟨w.heap.size, 1, none⟩ = false := by simp [World.frozen?, hx0]
      have HO := Lib.hid hown
      clear hx1 hx0 hown
      go_wp2_with fail
      refine bodyPost_ret (v := .agg #[.int .i64 0, .slice A 16 c]) (by simp [results, Try.results40, go_sem, q0, q1]) rfl ⟨A, c, F, rfl, ?_, ?_, ?_⟩
      · exact ((HO.out.base_le (by omega)).kin ((kin_setCell _ w.heap.size _ _).trans (kin_setCell _ w.heap.size _ _)) (fun k hk hm => by have := (HO.out.lt k hk).1; simp at hm; omega))
      · exact ((b0.trans (hb.mono (by omega))).setCell (by simp) _).setCell (by simp) _
      · simp [World.setCell]; omega

set_option maxRecDepth 100000 in
theorem InitialBranch_spec_no (n k : Int) (w : World) (h : okI n k = false) : Calls Try.prog 40 #[.int .i64 n, .int .i64 k] w (RetBr w 0 0 []) := by
  cases e1 : inB n 1 4
  · go_enter Try.func40, Try.ntmps40
    go_wp2_with (go_at_call 64; refine (l1In_any _ _ _ _).mono ?_; rintro e w' ⟨rfl, rfl⟩)
    exact bodyPost_ret (v := .agg #[.int .i64 0, .slice none 0 0]) (by simp [results, Try.results40, go_sem]) rfl ⟨none, 0, [], rfl, ownM_nil _ _, (by repeat (first | exact Below.refl _ _ | assumption | (refine Below.trans ?_ (Below.mono (by assumption) (by first | omega | (simp; done) | (simp; omega)))) | (with_reducible refine Below.drew ?_) | (with_reducible refine Below.alloc ?_ (by first | omega | (simp; done) | (simp; omega)) _) | (with_reducible refine Below.setCell ?_ (by first | omega | (simp; done) | (simp; omega)) _))), (by first | omega | (simp; done) | (simp; omega))⟩
  · have e2 : inB k 1 n = false := by simpa [okI, e1] using h
    go_enter Try.func40, Try.ntmps40
    go_wp2_with (go_at_call 64; refine (l1In_any _ _ _ _).mono ?_; rintro e w' ⟨rfl, rfl⟩)
    exact bodyPost_ret (v := .agg #[.int .i64 0, .slice none 0 0]) (by simp [results, Try.results40, go_sem]) rfl ⟨none, 0, [], rfl, ownM_nil _ _, (by repeat (first | exact Below.refl _ _ | assumption | (refine Below.trans ?_ (Below.mono (by assumption) (by first | omega | (simp; done) | (simp; omega)))) | (with_reducible refine Below.drew ?_) | (with_reducible refine Below.alloc ?_ (by first | omega | (simp; done) | (simp; omega)) _) | (with_reducible refine Below.setCell ?_ (by first | omega | (simp; done) | (simp; omega)) _))), (by first | omega | (simp; done) | (simp; omega))⟩

theorem InitialBranch_spec (n k : Int) (w : World) : Calls Try.prog 40 #[.int .i64 n, .int .i64 k] w (RetBr w 0 (initM n k).length (initM n k)) := by
  cases h : okI n k
  · rw [initM_no h]
    exact InitialBranch_spec_no n k w h
  · have e : initM n k = rng (2 ^ k.toNat) (2 ^ n.toNat) := by simp [initM, h]
    rw [e, rng_len]
    simp only [okI, Bool.and_eq_true] at h
    have h1 := inB_iff.1 h.1
    have h2 := inB_iff.1 h.2
    have hk : k = 1 ∨ k = 2 ∨ k = 3 ∨ k = 4 := by omega
    rcases hk with rfl | rfl | rfl | rfl
    · exact InitialBranch_spec_1 n w (by omega) (by omega)
    · exact InitialBranch_spec_2 n w (by omega) (by omega)
    · exact InitialBranch_spec_3 n w (by omega) (by omega)
    · exact InitialBranch_spec_4 n w (by omega) (by omega)
end Go.Proofs.Ytbffpehajkgjeaa
