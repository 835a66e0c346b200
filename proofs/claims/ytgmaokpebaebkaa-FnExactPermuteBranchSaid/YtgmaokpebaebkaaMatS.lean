/- Contracts of the laws' loops over lists of states: the size, comparing equal ones, marking, reading the marks back, copying. -/
import Derived.Test.YtgmaokpebaebkaaMat
namespace Go.Proofs.Ytgmaokpebaebkaa
open Go.RowKit
set_option linter.unusedVariables false
def szV (left : Int) (M : List (List Dm)) : Int := if left - (M.length + szM M) < 0 then -1 else left - (M.length + szM M)
set_option maxRecDepth 100000 in
set_option maxHeartbeats 1000000 in
theorem szDOmegaSS_any (A : Option Addr) (n c : Nat) (M : List (List Dm)) (left : Int) (w : World) (h : RdM w A n M) (hn : n ≤ 9223372036854775807) (h0 : 0 ≤ left) (h1 : left ≤ 1099511627776) :
    Calls Try.prog 33 #[.slice A n c, .int .i64 left] w fun e w' => e = .returned (.int .i64 (szV left M)) ∧ w = w' := by
  have hl := h.len
  have H := Lib.hid h
  by_cases hs : left - n < 0
  · have HF := Lib.hid (show szV left M = -1 by unfold szV; rw [if_pos (by omega)])
    clear h hl
    go_enter Try.func33, Try.ntmps33
    go_wp2_with fail
    go_ret
    exact ⟨by rw [HF.out]; rfl, rfl⟩
  have HL := Lib.hid hl
  clear h hl
  go_enter Try.func33, Try.ntmps33
  go_wp2_with fail
  go_loop [1, 5] (fun s i => ∃ t : Nat, t ≤ n ∧ i = .int .i64 t ∧ s = .int .i64 (left - n - szM (M.take t)) ∧ 0 ≤ left - n - szM (M.take t)) (fun _ i => n - (intOf i).toNat)
  case atStart => exact ⟨0, Nat.zero_le _, rfl, by simp [szM], by simp [szM]; omega⟩
  case round =>
    obtain ⟨t, ht, rfl, rfl, hnn⟩ := hrel
    by_cases hlt : t < n
    · have htl : t < M.length := by rw [HL.out]; exact hlt
      obtain ⟨r, hr⟩ : ∃ r, M[t]? = some r := ⟨_, List.getElem?_eq_getElem htl⟩
      obtain ⟨b, off, a, c', rfl, hbl, q0, e1, e2, hrd⟩ := H.out.at hr
      have HS := Lib.hid (szM_take M t r hr)
      have HT := Lib.hid (szM_take_le M (t + 1))
      obtain ⟨Z, hZ⟩ : ∃ Z, Z = szM (M.take t) := ⟨_, rfl⟩
      rw [← hZ] at hnn ⊢
      have HZ := Lib.hid hZ
      have hr63 : r.length ≤ 9223372036854775807 := by simp only [maxLen] at e2; omega
      clear hZ hr htl hrd e1 e2
      go_wp2_with fail
      refine (szDOmegaS_any _ _ _ _ _ hr63 hnn (by omega)).mono ?_
      rintro e w' ⟨rfl, rfl⟩
      by_cases hneg : left - n - Z - r.length < 0
      · have HF := Lib.hid (show szV left M = -1 by
          unfold szV
          rw [if_pos (by
            have a1 := HS.out; have a2 := HT.out; have a3 := HL.out; have a4 := HZ.out
            omega)])
        rw [if_pos hneg]
        go_wp2_with fail
        go_ret
        exact ⟨by rw [HF.out]; rfl, rfl⟩
      · rw [if_neg hneg]
        go_wp2_with fail
        go_round
        case rel => exact ⟨t + 1, by omega, by go_num, by rw [HS.out, ← HZ.out]; congr 1; omega, by rw [HS.out, ← HZ.out]; omega⟩
        case measure => simp [intOf]; omega
    · obtain rfl : t = n := by omega
      have HF := Lib.hid (show left - t - szM (M.take t) = szV left M by
        rw [List.take_of_length_le (by rw [HL.out]; exact Nat.le_refl _)] at hnn ⊢
        unfold szV
        rw [HL.out, if_neg (by omega)]
        omega)
      go_wp2_with fail
      go_ret
      exact ⟨by rw [← HF.out]; rfl, rfl⟩
set_option maxRecDepth 100000 in
set_option maxHeartbeats 1000000 in
theorem eqDOmegaSS_same (A A' : Option Addr) (n c c' : Nat) (M : List (List Dm)) (w : World) (h1 : RdM w A n M) (h2 : RdM w A' n M) (hn : n ≤ 1099511627776) (hs : szM M ≤ 1099511627776) :
    Calls Try.prog 41 #[.slice A n c, .slice A' n c'] w fun e w' => e = .returned (.bool true) ∧ Below w.heap.size w w' ∧ w.heap.size ≤ w'.heap.size := by
  have HL := Lib.hid h1.len
  have H1 := Lib.hid h1
  have H2 := Lib.hid h2
  clear h1 h2
  go_enter Try.func41, Try.ntmps41
  go_wp2_with fail
  go_loopw [5] (fun i wr => ∃ k : Nat, k ≤ n ∧ i = .int .i64 k ∧ Below w.heap.size w wr) (fun i _ => n - (intOf i).toNat)
  case atStart => exact ⟨0, Nat.zero_le _, rfl, Below.refl _ _⟩
  case round =>
    obtain ⟨k, hk, rfl, hb⟩ := hrel
    by_cases hlt : k < n
    · have hkl : k < M.length := by rw [HL.out]; exact hlt
      obtain ⟨r, hr⟩ : ∃ r, M[k]? = some r := ⟨_, List.getElem?_eq_getElem hkl⟩
      obtain ⟨b, off, a, c1, rfl, _, q0, _, _, hrd⟩ := (H1.out.below hb).at hr
      obtain ⟨b', off', a', c1', rfl, _, q0', _, _, hrd'⟩ := (H2.out.below hb).at hr
      have hrl := szM_row hr
      have HR := Lib.hid hrd
      have HR' := Lib.hid hrd'
      clear hr hkl hrd hrd'
      go_wp2_with fail
      go_still_tail 8, (by kernel_rfl)
      change wpList _ _ _ _ _ wr.drew
      go_wp2_with (go_at_call 54; refine (eqDOmegaS_same _ _ _ _ _ r _ rfl (by omega) HR.out.drew HR'.out.drew).mono ?_; rintro e w' ⟨rfl, hb', hs'⟩)
      go_roundw
      case rel => exact ⟨k + 1, by omega, by go_num, hb.drew.trans (hb'.mono hb.size)⟩
      case measure => simp [intOf]; omega
    · go_wp2_with fail
      go_ret
      exact ⟨rfl, hb, hb.size⟩
/-- A state of marks. -/
def markR (k : Int) (m : Nat) : List Dm := (List.range m).map fun (i : Nat) => ⟨k + 5 * i, k + 5 * i + 1, k + 5 * i + 2, k + 5 * i + 3, k + 5 * i + 4⟩
theorem markR_length (k : Int) (m : Nat) : (markR k m).length = m := by simp [markR]
theorem markR_cells (k : Int) (m : Nat) : (markR k m).flatMap dcells = marks k (m * 5) := by
  induction m with
  | zero => rfl
  | succ m ih =>
    have h1 : markR k (m + 1) = markR k m ++ [⟨k + 5 * m, k + 5 * m + 1, k + 5 * m + 2, k + 5 * m + 3, k + 5 * m + 4⟩] := by simp [markR, List.range_succ]
    have h2 : marks k ((m + 1) * 5) = marks k (m * 5) ++ [.int .i64 (k + 5 * m), .int .i64 (k + 5 * m + 1), .int .i64 (k + 5 * m + 2), .int .i64 (k + 5 * m + 3), .int .i64 (k + 5 * m + 4)] := by
      rw [show (m + 1) * 5 = m * 5 + 1 + 1 + 1 + 1 + 1 from by omega]
      simp only [marks, List.range_succ, List.map_append, List.map_cons, List.map_nil, List.append_assoc, List.cons_append, List.nil_append]
      congr 1
      simp only [List.cons.injEq, Value.int.injEq, true_and, and_true]
      refine ⟨by omega, by omega, by omega, by omega, by omega⟩
    rw [h1, List.flatMap_append, ih, h2]
    rfl
def markM (k : Int) : List (List Dm) → List (List Dm)
  | [] => []
  | r :: M => markR k r.length :: markM (k + 5 * r.length) M
theorem markM_length : ∀ (k : Int) (M : List (List Dm)), (markM k M).length = M.length
  | _, [] => rfl
  | k, r :: M => by simp [markM, markM_length _ M]
theorem markM_snoc : ∀ (k : Int) (L : List (List Dm)) (r : List Dm), markM k (L ++ [r]) = markM k L ++ [markR (k + 5 * szM L) r.length]
  | k, [], r => by simp [markM, szM]
  | k, x :: L, r => by
    have e : k + 5 * (x.length : Int) + 5 * (szM L : Int) = k + 5 * (szM (x :: L) : Int) := by
      simp only [szM, List.map_cons, List.sum_cons]
      omega
    simp only [List.cons_append, markM, markM_snoc _ L r, e]
theorem markM_take (k : Int) (M : List (List Dm)) (t : Nat) (r : List Dm) (h : M[t]? = some r) : markM k (M.take (t + 1)) = markM k (M.take t) ++ [markR (k + 5 * szM (M.take t)) r.length] := by
  rw [List.take_add_one, h]
  exact markM_snoc _ _ _
theorem markM_at (k : Int) (M : List (List Dm)) (t : Nat) (r : List Dm) (h : M[t]? = some r) : (markM k M)[t]? = some (markR (k + 5 * szM (M.take t)) r.length) := by
  have hlt := (List.getElem?_eq_some_iff.1 h).1
  have e : M = M.take (t + 1) ++ M.drop (t + 1) := (List.take_append_drop _ _).symm
  have key : ∀ (L R : List (List Dm)) (k : Int), ∃ R', markM k (L ++ R) = markM k L ++ R' := by
    intro L
    induction L with
    | nil => intro R k; exact ⟨_, rfl⟩
    | cons x L ih => intro R k; obtain ⟨R', e⟩ := ih R (k + 5 * x.length); exact ⟨R', by simp only [List.cons_append, markM, e]⟩
  obtain ⟨R', e'⟩ := key (M.take (t + 1)) (M.drop (t + 1)) k
  rw [← e] at e'
  rw [e', markM_take k M t r h, List.append_assoc, List.getElem?_append_right (by rw [markM_length, List.length_take]; omega)]
  rw [markM_length, List.length_take, Nat.min_eq_left (by omega), Nat.sub_self]
  rfl
set_option maxRecDepth 100000 in
set_option maxHeartbeats 2000000 in
theorem markDOmegaSS_any (v : Value) (n base : Nat) (M : List (List Dm)) (F : List Nat) (k : Int) (w : World) (hown : OwnM w base v n M F) (hn : n ≤ 1099511627776) (hs : szM M ≤ 68719476736) (hk0 : 0 ≤ k) (hk1 : k ≤ 549755813888) :
    Calls Try.prog 42 #[v, .int .i64 k] w fun e w' => e = .returned (.int .i64 (k + 5 * szM M)) ∧ OwnM w' base v n (markM k M) F ∧ Kin F w w' := by
  obtain ⟨S, h1, h2, rfl, h3, h4⟩ := hown
  obtain ⟨A, c, rfl, _, _, hr0⟩ := rd_of_own h2
  have HL := Lib.hid h1
  have HN := Lib.hid h3
  have HS2 := Lib.hid h2
  have HR := Lib.hid h4
  clear h1 h3 h2 h4 hr0
  go_enter Try.func42, Try.ntmps42
  go_wp2_with fail
  go_loopw [1, 5] (fun kk i wr => ∃ t : Nat, t ≤ n ∧ i = .int .i64 t ∧ kk = .int .i64 (k + 5 * szM (M.take t)) ∧ wr.ownsRow base 62 1 (.slice A n c) n S ∧ (∀ (j : Nat) (r : List Dm), (markM k (M.take t) ++ M.drop t)[j]? = some r → ∃ u, S[j]? = some u ∧ wr.ownsRow base 67 5 u r.length (r.flatMap dcells)) ∧ Kin ((Value.slice A n c).ownBlock.toList ++ S.flatMap (fun u => u.ownBlock.toList)) w wr) (fun _ i _ => n - (intOf i).toNat)
  case atStart => exact ⟨0, Nat.zero_le _, rfl, by simp [szM], HS2.out, by simpa [markM] using HR.out, Kin.refl _ _⟩
  case round =>
    obtain ⟨t, ht, rfl, rfl, ho, hrow, hkin⟩ := hrel
    have hz1 := szM_take_le M t
    obtain ⟨Z, hZ⟩ : ∃ Z, Z = szM (M.take t) := ⟨_, rfl⟩
    rw [← hZ] at hz1 ⊢
    have HZ := Lib.hid hZ
    clear hZ
    by_cases hlt : t < n
    · have htl : t < M.length := by rw [HL.out]; exact hlt
      obtain ⟨r, hr⟩ : ∃ r, M[t]? = some r := ⟨_, List.getElem?_eq_getElem htl⟩
      have hlen : (markM k (M.take t)).length = t := by rw [markM_length, List.length_take]; omega
      have hat : (markM k (M.take t) ++ M.drop t)[t]? = some r := by
        rw [List.getElem?_append_right (by omega), hlen, Nat.sub_self, List.getElem?_drop, Nat.add_zero]
        exact hr
      obtain ⟨u, hu, hou⟩ := hrow t r hat
      obtain ⟨a, c', rfl, _, _, _⟩ := rd_of_own hou
      obtain ⟨b, off, hA, _, hc⟩ := (rd_own ho).2 (by omega)
      subst hA
      have q0 := hc t _ hu
      have hrl := szM_row hr
      have HT := Lib.hid (szM_take M t r hr)
      have HR2 := Lib.hid hr
      have HU := Lib.hid hu
      have HROW := Lib.hid hrow
      have HLEN := Lib.hid hlen
      clear hc hr hu htl hat hrow hlen
      go_wp2_with fail
      refine (markDOmegaS_any _ _ base _ (k + 5 * Z) _ hou (by omega) (by omega) (by omega)).mono ?_
      rintro e w1 ⟨rfl, hou1, hgr⟩
      have HG := Lib.hid hgr
      have HO := Lib.hid ho
      have HOU := Lib.hid hou1
      clear hgr ho hou1 hou q0
      go_wp2_with fail
      go_roundw
      case rel =>
        have hnew : w1.ownsRow base 67 5 (.slice a r.length c') (markR (k + 5 * Z) r.length).length ((markR (k + 5 * Z) r.length).flatMap dcells) := by
          rw [markR_cells, markR_length]; exact HOU.out
        have hset : (markM k (M.take t) ++ M.drop t).length = n := by rw [List.length_append, HLEN.out, List.length_drop, HL.out]; omega
        have h5 := ownM_set (M := markM k (M.take t) ++ M.drop t) (t := t) (r := r) (r' := markR (k + 5 * Z) r.length) hset HO.out HN.out HROW.out HU.out hlt hnew HG.out
        have hlist : (markM k (M.take t) ++ M.drop t).set t (markR (k + 5 * Z) r.length) = markM k (M.take (t + 1)) ++ M.drop (t + 1) := by
          have hd : M.drop t = r :: M.drop (t + 1) := by
            have hlt' : t < M.length := by rw [HL.out]; exact hlt
            rw [List.drop_eq_getElem_cons hlt']
            congr 1
            exact (List.getElem?_eq_some_iff.1 HR2.out).2
          rw [List.set_append_right _ _ (by rw [HLEN.out]; exact Nat.le_refl _), HLEN.out, Nat.sub_self, hd, List.set_cons_zero, markM_take k M t r HR2.out, ← HZ.out, List.append_assoc]
          rfl
        rw [hlist] at h5
        refine ⟨t + 1, by omega, by go_num, by rw [HT.out, ← HZ.out]; congr 1; omega, h5.1, h5.2, hkin.trans ((kin_of_grown HG.out).mono fun x hx => List.mem_append.2 (.inr (List.mem_flatMap.2 ⟨_, List.mem_of_getElem? HU.out, hx⟩)))⟩
      case measure => simp [intOf]; omega
    · obtain rfl : t = n := by omega
      have HF : Hid (Z = szM M) := by
        have h := HZ.out
        rw [List.take_of_length_le (by rw [HL.out]; exact Nat.le_refl _)] at h
        exact h
      have HROW := Lib.hid hrow
      clear hrow
      go_wp2_with fail
      go_ret
      refine ⟨by rw [← HF.out]; rfl, ⟨S, by rw [markM_length]; exact HL.out, ho, rfl, HN.out, ?_⟩, hkin⟩
      have h := HROW.out
      rw [List.take_of_length_le (by rw [HL.out]; exact Nat.le_refl _), List.drop_of_length_le (by rw [HL.out]; exact Nat.le_refl _), List.append_nil] at h
      exact h
set_option maxRecDepth 100000 in
set_option maxHeartbeats 1000000 in
theorem heldDOmegaSS_any (A : Option Addr) (n c : Nat) (M : List (List Dm)) (k : Int) (w : World) (h : RdM w A n (markM k M)) (hn : n ≤ 1099511627776) (hs : szM M ≤ 68719476736) (hk0 : 0 ≤ k) (hk1 : k ≤ 549755813888) :
    Calls Try.prog 43 #[.slice A n c, .int .i64 k] w fun e w' => e = .returned (.int .i64 (k + 5 * szM M)) ∧ w = w' := by
  have HL := Lib.hid (show M.length = n by rw [← markM_length k M]; exact h.len)
  have H := Lib.hid h
  clear h
  go_enter Try.func43, Try.ntmps43
  go_wp2_with fail
  go_loop [1, 5] (fun kk i => ∃ t : Nat, t ≤ n ∧ i = .int .i64 t ∧ kk = .int .i64 (k + 5 * szM (M.take t))) (fun _ i => n - (intOf i).toNat)
  case atStart => exact ⟨0, Nat.zero_le _, rfl, by simp [szM]⟩
  case round =>
    obtain ⟨t, ht, rfl, rfl⟩ := hrel
    have hz1 := szM_take_le M t
    by_cases hlt : t < n
    · have htl : t < M.length := by rw [HL.out]; exact hlt
      obtain ⟨r, hr⟩ : ∃ r, M[t]? = some r := ⟨_, List.getElem?_eq_getElem htl⟩
      obtain ⟨b, off, a, c', rfl, hbl, q0, _, _, hrd⟩ := H.out.at (markM_at k M t r hr)
      rw [markR_cells, markR_length] at hrd
      rw [markR_length] at q0
      have hrl := szM_row hr
      have HT := Lib.hid (szM_take M t r hr)
      obtain ⟨Z, hZ⟩ : ∃ Z, Z = szM (M.take t) := ⟨_, rfl⟩
      rw [← hZ] at hz1 hrd ⊢
      have HZ := Lib.hid hZ
      clear hZ hr htl
      go_wp2_with fail
      refine (heldDOmegaS_any _ _ _ _ _ hrd (by omega) (by omega) (by omega)).mono ?_
      rintro e w' ⟨rfl, rfl⟩
      go_wp2_with fail
      go_round
      case rel => exact ⟨t + 1, by omega, by go_num, by rw [HT.out, ← HZ.out]; congr 1; omega⟩
      case measure => simp [intOf]; omega
    · obtain rfl : t = n := by omega
      rw [List.take_of_length_le (by rw [HL.out]; exact Nat.le_refl _)]
      go_wp2_with fail
      go_ret
      exact ⟨rfl, rfl⟩
/-- A call that returns a list of states of its own. -/
def RetM (w : World) (n : Nat) (M : List (List Dm)) (e : Ending) (w' : World) : Prop :=
  ∃ v F, e = .returned v ∧ OwnM w' w.heap.size v n M F ∧ Below w.heap.size w w' ∧ w.heap.size ≤ w'.heap.size
theorem info_DOmegaSE : (Try.prog.info? 62).map (fun i => (i.zero, i.size, i.bytes)) = some (some (.slice none 0 0), 1, 24) := by kernel_rfl
set_option maxRecDepth 100000 in
set_option maxHeartbeats 2000000 in
theorem toDOmegaSS_any (A : Option Addr) (n c : Nat) (M : List (List Dm)) (w : World) (h : RdM w A n M) (hn : n ≤ 1099511627776) (hs : szM M ≤ 1099511627776) :
    Calls Try.prog 37 #[.slice A n c] w (RetM w n M) := by
  obtain ⟨i0, hi, hz0, hz1, hz2⟩ := info_parts info_DOmegaSE
  obtain ⟨w1, hrun, hown, hgr0⟩ := run_make_full (P := Try.prog) w w.heap.size 35 62 i0 _ 1 Try.underlying35 hi hz0 hz1 .i64 .i64 n (by rw [hz2]; omega) (by simp only [maxLen]; omega) (Nat.le_refl _)
  have HL := Lib.hid h.len
  have H := Lib.hid h
  clear h hi hz0 hz1 hz2
  have b1 : Below w.heap.size w w1 := (Below.refl _ _).grown hgr0 (Nat.le_refl _) (by simp)
  obtain ⟨zs, hzs⟩ : ∃ zs, zs = (madeCells (Value.slice none 0 0).cells (n * 1)).toList := ⟨_, rfl⟩
  rw [← hzs] at hown
  have hzl := hown.1
  have HZ := Lib.hid hzl
  clear hzs hgr0 hzl
  go_enter Try.func37, Try.ntmps37
  go_wp2_with fail
  clear hrun
  go_loopw [4] (fun i wr => ∃ (t : Nat) (S : List Value), t ≤ n ∧ i = .int .i64 t ∧ S.length = t ∧ wr.ownsRow w.heap.size 62 1 (.slice (some ⟨w.heap.size, 0, none⟩) n n) n (S ++ zs.drop t) ∧ (w.heap.size :: S.flatMap (fun u => u.ownBlock.toList)).Nodup ∧ (∀ (j : Nat) (r : List Dm), (M.take t)[j]? = some r → ∃ u, S[j]? = some u ∧ wr.ownsRow w.heap.size 67 5 u r.length (r.flatMap dcells)) ∧ Below w.heap.size w wr) (fun i _ => n - (intOf i).toNat)
  case atStart => exact ⟨0, [], Nat.zero_le _, rfl, rfl, by simpa using hown, by simp, by simp, b1⟩
  case round =>
    clear hown b1
    obtain ⟨t, S, ht, rfl, hSl, hown, hnd, hrows, hb⟩ := hrel
    have HSL := Lib.hid hSl
    have HND := Lib.hid hnd
    have HROW := Lib.hid hrows
    clear hSl hnd hrows
    by_cases hlt : t < n
    · have htl : t < M.length := by rw [HL.out]; exact hlt
      obtain ⟨r, hr⟩ : ∃ r, M[t]? = some r := ⟨_, List.getElem?_eq_getElem htl⟩
      obtain ⟨b, off, a, c', rfl, hbl, q0, _, _, hrd⟩ := (H.out.below hb).at hr
      have hrl := szM_row hr
      have HR := Lib.hid hr
      clear hr htl
      go_wp2_with fail
      refine (toDOmegaS_any _ _ _ r _ hrd rfl (by omega)).mono ?_
      rintro e w2 ⟨u, rfl, own2, hb2, hs2⟩
      have hown2 := ownsRow_below hown hb2
      have hltB : w.heap.size < wr.heap.size := (hown.lt _ rfl).2
      have HO2 := Lib.hid own2
      obtain ⟨a2, c2, rfl, _, _, _⟩ := rd_of_own own2
      have hf := hown2.frozenAt
      have hz := hown2.cellAt
      have hll := hown2.1
      obtain ⟨y0, z0⟩ : ∃ y, w2.cell? ⟨w.heap.size, t, none⟩ = some y := ⟨_, (hz _ (by omega)).trans (List.getElem?_eq_getElem (by omega))⟩
      have f0 := hf t
      clear hf hz hll q0 hrd own2 hown
      go_wp2_with fail
      go_roundw
      case rel =>
        have s0 := hown2.stored t (.slice a2 r.length c2)
        rw [fill_step HSL.out (by rw [HZ.out]; omega)] at s0
        have hbs := hb.size
        have hrs := rows_snoc HSL.out HR.out hltB HND.out HROW.out hb2 HO2.out s0.2
        refine ⟨t + 1, S ++ [.slice a2 r.length c2], by omega, by go_num, by simp [HSL.out], s0.1, hrs.1, hrs.2, (hb.trans (hb2.mono hb.size)).grown s0.2 (by have := hb2.size; omega) (by simp)⟩
      case measure => simp [intOf]; omega
    · obtain rfl : t = n := by omega
      go_wp2_with fail
      go_ret
      refine ⟨_, _, rfl, ⟨S, HL.out, ?_, rfl, HND.out, ?_⟩, hb, hb.size⟩
      · rw [List.drop_of_length_le (by rw [HZ.out]; omega), List.append_nil] at hown; exact hown
      · have h := HROW.out
        rw [List.take_of_length_le (by rw [HL.out]; exact Nat.le_refl _)] at h
        exact h
end Go.Proofs.Ytgmaokpebaebkaa
