/- The table of the gates' names, as the program's start lays it; the program's GateName and GateKind. -/
import Derived.Test.YtijocafindbebaaDoorNest
namespace Go.Proofs.YtijocafindbebaaDoor
open Go.RowKit
set_option linter.unusedVariables false
def gstr (k : Nat) : ByteArray := ⟨(gname k).toArray⟩
def gstrs : List ByteArray := (List.range 13).map gstr
/-- The variable gateNames reads as its thirteen names. -/
def GN (w : World) : Prop := ∃ A c, w.cell? ⟨0, 0, none⟩ = some (.slice A 13 c) ∧ 0 < w.heap.size ∧ Rd w 1 A 13 (strs gstrs)
theorem GN.below {w w' : World} (h : GN w) (hb : Below w.heap.size w w') : GN w' := by
  obtain ⟨A, c, h1, h2, h3⟩ := h
  exact ⟨A, c, (hb.cell (p := ⟨0, 0, none⟩) h2).trans h1, Nat.lt_of_lt_of_le h2 hb.size, h3.below hb⟩
theorem GN.drewN {w : World} (h : GN w) (k : Nat) : GN (w.drewN k) := h
set_option maxRecDepth 100000 in
set_option maxHeartbeats 1000000 in
theorem GateName_impl (k : Nat) (h1 : 1 ≤ k) (h2 : k ≤ 12) (w : World) (hG : GN w) : Calls Tryd.prog 92 #[.int .i64 k] w fun e w' => e = .returned (.string ⟨(gname k).toArray⟩) ∧ w = w' := by
  obtain ⟨A, c, hg, hl, hr⟩ := hG
  obtain ⟨b, off, rfl, hb, hc⟩ := hr.2 (by omega)
  have q0 : w.cell? ⟨b, off + k, none⟩ = some (.string ⟨(gname k).toArray⟩) := hc k _ (by
    simp only [strs, gstrs, List.map_map]
    rw [List.getElem?_map, List.getElem?_range (by omega)]
    rfl)
  have hin : inB (k : Int) 1 12 = true := inB_t (by omega) (by omega)
  clear hc hr
  go_enter Tryd.func92, Tryd.ntmps92
  go_wp2_with (go_at_call 56; refine (in_any _ _ _ _).mono ?_; rintro e w' ⟨rfl, rfl⟩)
  go_ret
  exact ⟨rfl, rfl⟩
set_option maxRecDepth 100000 in
set_option maxHeartbeats 1000000 in
theorem GateKind_impl (word : ByteArray) (w : World) (hG : GN w) : Calls Tryd.prog 54 #[.string word] w fun e w' => e = .returned (.int .i64 (gkind word)) ∧ w = w' := by
  have HGN := Lib.hid hG
  clear hG
  go_enter Tryd.func54, Tryd.ntmps54
  go_wp2
  go_loop [3] (fun k => ∃ t : Nat, 1 ≤ t ∧ t ≤ 13 ∧ k = .int .i64 t ∧ gkind word = gkindFrom word.toList (13 - t) t) (fun k => 13 - (intOf k).toNat)
  case atStart => exact ⟨1, by omega, by omega, rfl, rfl⟩
  case round =>
    obtain ⟨t, h1, ht, rfl, hg⟩ := hrel
    have HG := Lib.hid hg
    clear hg
    by_cases hlt : t ≤ 12
    · have HS : Hid (gkind word = if gname t == word.toList then t else gkindFrom word.toList (13 - (t + 1)) (t + 1)) := by
        have h := HG.out
        rw [show 13 - t = (13 - (t + 1)) + 1 from by omega] at h
        exact h
      cases he : (gname t == word.toList)
      · have HF : Hid (gkind word = gkindFrom word.toList (13 - (t + 1)) (t + 1)) := by
          have h := HS.out
          rw [he] at h
          exact h
        go_wp2_with fail
        refine (GateName_impl t h1 hlt _ HGN.out).mono ?_
        rintro e w1 ⟨rfl, rfl⟩
        go_wp2_with fail
        go_round
        case rel => exact ⟨t + 1, by omega, by omega, by go_num, HF.out⟩
        case measure => simp [intOf]; omega
      · have HF : Hid (gkind word = t) := by
          have h := HS.out
          rw [he] at h
          exact h
        go_wp2_with fail
        refine (GateName_impl t h1 hlt _ HGN.out).mono ?_
        rintro e w1 ⟨rfl, rfl⟩
        go_wp2_with fail
        go_ret
        exact ⟨by rw [HF.out]; rfl, rfl⟩
    · obtain rfl : t = 13 := by omega
      have HF : Hid (gkind word = 0) := HG.out
      go_wp2_with fail
      go_ret
      exact ⟨by rw [HF.out]; rfl, rfl⟩
end Go.Proofs.YtijocafindbebaaDoor
