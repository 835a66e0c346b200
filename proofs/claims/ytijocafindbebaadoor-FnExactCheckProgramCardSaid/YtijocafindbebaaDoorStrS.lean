/- Contracts of the loops over slices of strings that the laws, the program and the reference use. -/
import Derived.Test.YtijocafindbebaaDoorProg
import Derived.Test.YtijocafindbebaaDoorTree
namespace Go.Proofs.YtijocafindbebaaDoor
open Go.RowKit
set_option linter.unusedVariables false
theorem strs_length (l : List ByteArray) : (strs l).length = l.length := by simp [strs]
theorem strs_at {l : List ByteArray} {k : Nat} {s : ByteArray} (h : l[k]? = some s) : (strs l)[k]? = some (.string s) := by simp [strs, h]
theorem rdl_own {w : World} {base E size n c : Nat} {A : Option Addr} {xs : List Value} (h : w.ownsRow base E size (.slice A n c) n xs) : RdL w base size A n xs := by
  have hr := rd_own h
  refine ⟨hr.1, fun h0 => ?_⟩
  obtain ⟨b, off, e, hb, hc⟩ := hr.2 h0
  subst e
  obtain ⟨g, cap, hv, hg, _⟩ := h.form h0
  injection hv with hv _ _
  injection hv with hv
  injection hv with hv _ _
  exact ⟨b, off, rfl, by rw [hv]; exact hg, hb, hc⟩
theorem info_str : (Tryd.prog.info? 9).map (fun i => (i.zero, i.size, i.bytes)) = some (some (.string ByteArray.empty), 1, 16) := by kernel_rfl
set_option maxRecDepth 100000 in
set_option maxHeartbeats 1000000 in
theorem eqStringS_same (A A' : Option Addr) (n c c' : Nat) (l : List ByteArray) (w : World) (hl : l.length = n) (hn : n ≤ 1099511627776) (h1 : Rd w 1 A n (strs l)) (h2 : Rd w 1 A' n (strs l)) :
    Calls Tryd.prog 58 #[.slice A n c, .slice A' n c'] w fun e w' => e = .returned (.bool true) ∧ Below w.heap.size w w' ∧ w.heap.size ≤ w'.heap.size := by
  have H1 := Lib.hid h1
  have H2 := Lib.hid h2
  have HL := Lib.hid hl
  clear h1 h2 hl
  go_enter Tryd.func58, Tryd.ntmps58
  go_wp2
  go_loopw [5] (fun i wr => ∃ k : Nat, k ≤ n ∧ i = .int .i64 k ∧ Below w.heap.size w wr) (fun i _ => n - (intOf i).toNat)
  case atStart => exact ⟨0, Nat.zero_le _, rfl, Below.refl _ _⟩
  case round =>
    obtain ⟨k, hk, rfl, hb⟩ := hrel
    by_cases hlt : k < n
    · have hkl : k < l.length := by rw [HL.out]; exact hlt
      obtain ⟨s, hs⟩ : ∃ s, l[k]? = some s := ⟨_, List.getElem?_eq_getElem hkl⟩
      obtain ⟨b, off, rfl, _, hc⟩ := (H1.out.below hb).2 (by omega)
      obtain ⟨b', off', rfl, _, hc'⟩ := (H2.out.below hb).2 (by omega)
      have q0 := hc k _ (strs_at hs)
      have q0' := hc' k _ (strs_at hs)
      clear hc hc' hs hkl
      go_wp2_with fail
      go_quiet (fail)
      go_wp2_with fail
      go_roundw
      case rel => exact ⟨k + 1, by omega, by go_num, below_drewN hb _⟩
      case measure => simp [intOf]; omega
    · go_wp2_with fail
      go_ret
      exact ⟨rfl, hb, hb.size⟩
set_option maxRecDepth 100000 in
set_option maxHeartbeats 1000000 in
theorem toStringS_any (A : Option Addr) (n c : Nat) (l : List ByteArray) (w : World) (h : Rd w 1 A n (strs l)) (hl : l.length = n) (hn : n ≤ 1099511627776) :
    Calls Tryd.prog 51 #[.slice A n c] w (RetRow 9 1 w n (strs l)) := by
  obtain ⟨i0, hi, hz0, hz1, hz2⟩ := info_parts info_str
  obtain ⟨w1, hrun, hown, hgr0⟩ := run_make_full (P := Tryd.prog) w w.heap.size 22 9 i0 _ 1 Tryd.underlying22 hi hz0 hz1 .i64 .i64 n (by rw [hz2]; omega) (by simp only [maxLen]; omega) (Nat.le_refl _)
  have H := Lib.hid h
  have HL := Lib.hid hl
  clear h hl hi hz0 hz1 hz2
  have b1 : Below w.heap.size w w1 := (Below.refl _ _).grown hgr0 (Nat.le_refl _) (by simp)
  obtain ⟨zs, hzs⟩ : ∃ zs, zs = (madeCells (Value.string ByteArray.empty).cells (n * 1)).toList := ⟨_, rfl⟩
  rw [← hzs] at hown
  have hzl := hown.1
  have HZ := Lib.hid hzl
  clear hzs hgr0 hzl
  go_enter Tryd.func51, Tryd.ntmps51
  go_wp2
  clear hrun
  go_loopw [4] (fun i wr => ∃ t : Nat, t ≤ n ∧ i = .int .i64 t ∧ wr.ownsRow w.heap.size 9 1 (.slice (some ⟨w.heap.size, 0, none⟩) n n) n (strs (l.take t) ++ zs.drop t) ∧ Below w.heap.size w wr) (fun i _ => n - (intOf i).toNat)
  case atStart => exact ⟨0, Nat.zero_le _, rfl, by simpa [strs] using hown, b1⟩
  case round =>
    clear hown b1
    obtain ⟨t, ht, rfl, hown, hb⟩ := hrel
    by_cases hlt : t < n
    · have htl : t < l.length := by rw [HL.out]; exact hlt
      obtain ⟨s, hs⟩ : ∃ s, l[t]? = some s := ⟨_, List.getElem?_eq_getElem htl⟩
      obtain ⟨b, off, rfl, hbl, hc⟩ := H.out.2 (by omega)
      have q0 : wr.cell? ⟨b, off + t, none⟩ = some (.string s) := (hb.cell (by exact hbl)).trans (hc t _ (strs_at hs))
      have hf := hown.frozenAt t
      have hll := hown.1
      obtain ⟨y0, z0⟩ : ∃ y, wr.cell? ⟨w.heap.size, t, none⟩ = some y := ⟨_, (hown.cellAt t (by omega)).trans (List.getElem?_eq_getElem (by omega))⟩
      have HG := Lib.hid hs
      have HC := Lib.hid htl
      clear hc hs htl hll
      go_wp2_with fail
      go_roundw
      case rel =>
        have s0 := hown.stored t (.string s)
        rw [fill_step (by simp [strs, Nat.min_eq_left (Nat.le_of_lt HC.out)]) (by rw [HZ.out]; omega)] at s0
        refine ⟨t + 1, by omega, by go_num, ?_, hb.grown s0.2 hb.size (by simp)⟩
        rw [List.take_add_one, HG.out]
        simpa [strs] using s0.1
      case measure => simp [intOf]; omega
    · obtain rfl : t = n := by omega
      go_wp2_with fail
      go_ret
      exact ⟨_, rfl, by rw [List.drop_of_length_le (by rw [HZ.out]; omega), List.append_nil, List.take_of_length_le (by rw [HL.out]; exact Nat.le_refl _)] at hown; exact hown, hb, hb.size⟩
/-- What is left of a size, or -1. -/
def subSz (left : Int) (m : Nat) : Int := if left < m then -1 else left - m
theorem subSz_neg {left : Int} {m : Nat} (h : left < m) : subSz left m = -1 := if_pos h
theorem subSz_pos {left : Int} {m : Nat} (h : ¬ left < m) : subSz left m = left - m := if_neg h
/-- What a list of strings counts in a law's size. -/
def szS : List ByteArray → Nat
  | [] => 0
  | s :: l => s.size + szS l
theorem szS_take (l : List ByteArray) (t : Nat) (s : ByteArray) (h : l[t]? = some s) : szS (l.take (t + 1)) = szS (l.take t) + s.size := by
  induction l generalizing t with
  | nil => simp at h
  | cons x l ih =>
    cases t with
    | zero => simp at h; subst h; simp [szS]
    | succ t => simp only [List.take_succ_cons, szS, ih t (by simpa using h)]; omega
theorem szS_take_le (l : List ByteArray) (t : Nat) : szS (l.take t) ≤ szS l := by
  induction l generalizing t with
  | nil => simp [szS]
  | cons x l ih =>
    cases t with
    | zero => simp [szS]
    | succ t => simp only [List.take_succ_cons, szS]; have := ih t; omega
set_option maxRecDepth 100000 in
set_option maxHeartbeats 1000000 in
theorem szStringS_any (A : Option Addr) (n c : Nat) (l : List ByteArray) (left : Int) (w : World) (h : Rd w 1 A n (strs l)) (hl : l.length = n) (hn : n ≤ 9223372036854775807) (hz : ∀ s ∈ l, s.size ≤ 9223372036854775807) (h0 : 0 ≤ left) (h1 : left ≤ 1099511627776) :
    Calls Tryd.prog 45 #[.slice A n c, .int .i64 left] w fun e w' => e = .returned (.int .i64 (subSz left (n + szS l))) ∧ w = w' := by
  have H := Lib.hid h
  have HL := Lib.hid hl
  have HZ := Lib.hid hz
  clear h hl hz
  by_cases hbig : left - n < 0
  · have HF := Lib.hid (subSz_neg (left := left) (m := n + szS l) (by omega))
    go_enter Tryd.func45, Tryd.ntmps45
    go_wp2
    go_ret
    exact ⟨by rw [HF.out]; rfl, rfl⟩
  · have hbig' : 0 ≤ left - n := by omega
    go_enter Tryd.func45, Tryd.ntmps45
    go_wp2
    go_loop [1, 5] (fun k i => ∃ t : Nat, t ≤ n ∧ i = .int .i64 t ∧ 0 ≤ left - n - szS (l.take t) ∧ k = .int .i64 (left - n - szS (l.take t))) (fun _ i => n - (intOf i).toNat)
    case atStart => exact ⟨0, Nat.zero_le _, rfl, by simpa [szS] using hbig', by simp [szS]⟩
    case round =>
      obtain ⟨t, ht, rfl, hp, rfl⟩ := hrel
      have hle := szS_take_le l t
      obtain ⟨Z, hZ⟩ : ∃ Z, Z = szS (l.take t) := ⟨_, rfl⟩
      rw [← hZ] at hp hle ⊢
      have HT := Lib.hid hZ
      clear hZ
      by_cases hlt : t < n
      · have htl : t < l.length := by rw [HL.out]; exact hlt
        obtain ⟨s, hs⟩ : ∃ s, l[t]? = some s := ⟨_, List.getElem?_eq_getElem htl⟩
        obtain ⟨b, off, rfl, _, hc⟩ := H.out.2 (by omega)
        have q0 := hc t _ (strs_at hs)
        have hsz := HZ.out s (List.mem_of_getElem? hs)
        have hst := szS_take l t s hs
        have hle2 := szS_take_le l (t + 1)
        rw [hst, ← HT.out] at hle2
        have HS := Lib.hid hst
        clear hc hs htl hst
        by_cases hneg : left - n - Z - s.size < 0
        · have HF := Lib.hid (subSz_neg (left := left) (m := n + szS l) (by omega))
          go_wp2
          go_ret
          exact ⟨by rw [HF.out]; rfl, rfl⟩
        · have hneg' : 0 ≤ left - n - Z - s.size := by omega
          go_wp2
          go_round
          case rel => exact ⟨t + 1, by omega, by go_num, by rw [HS.out, ← HT.out]; omega, by rw [HS.out, ← HT.out]; congr 1; omega⟩
          case measure => simp [intOf]; omega
      · obtain rfl : t = n := by omega
        have HF : Hid (subSz left (t + szS l) = left - t - Z) := by
          have h := HT.out
          rw [List.take_of_length_le (by rw [HL.out]; exact Nat.le_refl _)] at h
          rw [← h]
          exact (subSz_pos (by omega)).trans (by omega)
        go_wp2
        go_ret
        exact ⟨by rw [HF.out]; rfl, rfl⟩
end Go.Proofs.YtijocafindbebaaDoor
