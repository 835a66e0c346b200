/- The decomposition of a list of gates: the program's function and the reference's return the same list. -/
import Derived.Test.YtgjpicekdbemiaaDecompose
import Derived.Test.YtgjpicekdbemiaaGateS
import Derived.Test.YtgjpicekdbemiaaAppend
namespace Go.Proofs.Ytgjpicekdbemiaa
open Go.RowKit
theorem gcells_one (g : Gt) : ((gcells g).all Value.oneCell') = true := rfl
theorem dgate_le (g : Gt) : (dgate g).length ≤ 15 := by
  unfold dgate
  split
  · simp
  · split
    · simp
    · split <;> simp
theorem dgates_le : ∀ l : List Gt, (l.flatMap dgate).length ≤ l.length * 15 := by
  intro l
  induction l with
  | nil => simp
  | cons g l ih => simp only [List.flatMap_cons, List.length_append, List.length_cons]; have := dgate_le g; omega
theorem dtake (l : List Gt) (t : Nat) (g : Gt) (h : l[t]? = some g) : (l.take (t + 1)).flatMap dgate = (l.take t).flatMap dgate ++ dgate g := by
  rw [List.take_add_one, h, List.flatMap_append]
  simp
set_option maxRecDepth 100000 in
set_option maxHeartbeats 1000000 in
theorem DecomposeGates_spec (A : Option Addr) (n c : Nat) (l : List Gt) (w : World) (h : Rd w 4 A n (l.flatMap gcells)) (hl : l.length = n) (hn : n ≤ 1073741824) :
    Calls Try.prog 8 #[.slice A n c] w (RetRow 30 4 w (l.flatMap dgate).length ((l.flatMap dgate).flatMap gcells)) := by
  obtain ⟨i0, hi, hz0, hz1, hz2⟩ := info_parts info_Gate
  have H := Lib.hid h
  have HL := Lib.hid hl
  clear h hl
  go_enter Try.func8, Try.ntmps8
  go_wp2
  go_loopw [3, 4] (fun v i wr => ∃ t : Nat, t ≤ n ∧ i = .int .i64 t ∧ wr.ownsRow w.heap.size 30 4 v ((l.take t).flatMap dgate).length (((l.take t).flatMap dgate).flatMap gcells) ∧ Below w.heap.size w wr) (fun _ i _ => n - (intOf i).toNat)
  case atStart => exact ⟨0, Nat.zero_le _, rfl, by simpa using own_empty w _ 4, (by repeat (first | exact Below.refl _ _ | assumption | (refine Below.trans ?_ (Below.mono (by assumption) (by first | omega | (simp; done) | (simp; omega)))) | (with_reducible refine Below.drew ?_) | (with_reducible refine Below.alloc ?_ (by first | omega | (simp; done) | (simp; omega)) _) | (with_reducible refine Below.setCell ?_ (by first | omega | (simp; done) | (simp; omega)) _)))⟩
  case round =>
    obtain ⟨t, ht, rfl, hown, hb⟩ := hrel
    by_cases hlt : t < n
    · have htl : t < l.length := by rw [HL.out]; exact hlt
      obtain ⟨g, hg⟩ : ∃ g, l[t]? = some g := ⟨_, List.getElem?_eq_getElem htl⟩
      obtain ⟨b, off, rfl, hbl, hc⟩ := H.out.2 (by omega)
      have q0 : wr.cell? ⟨b, off + t * 4, none⟩ = some (.int .i64 g.k) := (hb.cell (by exact hbl)).trans (hc (t * 4 + 0) _ (flat_at gcells_len l t g 0 hg (by decide)))
      have q1 : wr.cell? ⟨b, off + t * 4 + 1, none⟩ = some (.int .i64 g.a) := (hb.cell (by exact hbl)).trans (hc (t * 4 + 1) _ (flat_at gcells_len l t g 1 hg (by decide)))
      have q2 : wr.cell? ⟨b, off + t * 4 + 2, none⟩ = some (.int .i64 g.b) := (hb.cell (by exact hbl)).trans (hc (t * 4 + 2) _ (flat_at gcells_len l t g 2 hg (by decide)))
      have q3 : wr.cell? ⟨b, off + t * 4 + 3, none⟩ = some (.int .i64 g.c) := (hb.cell (by exact hbl)).trans (hc (t * 4 + 3) _ (flat_at gcells_len l t g 3 hg (by decide)))
      have HG := Lib.hid hg
      obtain ⟨L, hL⟩ : ∃ L, L = (l.take t).flatMap dgate := ⟨_, rfl⟩
      have hd1 : L.length ≤ t * 15 := by rw [hL]; exact Nat.le_trans (dgates_le _) (Nat.mul_le_mul_right _ (List.length_take_le t l))
      have hd2 := dgate_le ⟨g.k, g.a, g.b, g.c⟩
      rw [← hL] at hown
      have HL2 := Lib.hid hL
      clear hL
      clear hc hg htl
      go_wp2_with fail
      refine (DecomposeGate_spec _ _ _ _ _).mono ?_
      rintro e w2 ⟨v2, rfl, own2, hb2, hs2⟩
      obtain ⟨A2, c2, rfl, _, _, r2⟩ := rd_of_own own2
      have hown2 := ownsRow_below hown hb2
      clear q0 q1 q2 q3 hown own2
      go_wp2_with (at_builtin; refine wpList_append_rd _ rfl _ _ 24 rfl w.heap.size 30 i0 _ 4 32 Try.underlying24 hi hz0 hz1 hz2 rfl (by decide) _ _ _ rfl hown2 _ _ _ _ rfl r2 (one_flat gcells_one _) ?c3 ?c4 ?c5 ?_)
      case c3 => simp only [maxLen]; omega
      case c4 => omega
      case c5 => exact Nat.le_trans hb.size hs2
      intro v3 w3 own3 gr3 _
      have b3 := ((hb.trans (hb2.mono hb.size)).grown gr3 (Nat.le_trans hb.size hs2) (own_ge hown2))
      clear hown2 gr3 r2
      go_wp2
      go_roundw
      case rel =>
        refine ⟨t + 1, by omega, by go_num, ?_, b3⟩
        rw [dtake l t g HG.out, ← HL2.out, List.flatMap_append, List.length_append]
        exact own3
      case measure => simp [intOf]; omega
    · obtain rfl : t = n := by omega
      go_wp2
      go_ret
      exact ⟨_, rfl, by rw [List.take_of_length_le (by rw [HL.out]; exact Nat.le_refl _)] at hown; exact hown, hb, hb.size⟩
set_option maxRecDepth 100000 in
set_option maxHeartbeats 1000000 in
theorem DecomposeGates_impl (A : Option Addr) (n c : Nat) (l : List Gt) (w : World) (h : Rd w 4 A n (l.flatMap gcells)) (hl : l.length = n) (hn : n ≤ 1073741824) :
    Calls Try.prog 6 #[.slice A n c] w (RetRow 30 4 w (l.flatMap dgate).length ((l.flatMap dgate).flatMap gcells)) := by
  obtain ⟨i0, hi, hz0, hz1, hz2⟩ := info_parts info_Gate
  have H := Lib.hid h
  have HL := Lib.hid hl
  clear h hl
  go_enter Try.func6, Try.ntmps6
  go_wp2
  go_loopw [3, 9] (fun v i wr => ∃ t : Nat, t ≤ n ∧ i = .int .i64 t ∧ wr.ownsRow w.heap.size 30 4 v ((l.take t).flatMap dgate).length (((l.take t).flatMap dgate).flatMap gcells) ∧ Below w.heap.size w wr) (fun _ i _ => n - (intOf i).toNat)
  case atStart => exact ⟨0, Nat.zero_le _, rfl, by simpa using own_empty w _ 4, (by repeat (first | exact Below.refl _ _ | assumption | (refine Below.trans ?_ (Below.mono (by assumption) (by first | omega | (simp; done) | (simp; omega)))) | (with_reducible refine Below.drew ?_) | (with_reducible refine Below.alloc ?_ (by first | omega | (simp; done) | (simp; omega)) _) | (with_reducible refine Below.setCell ?_ (by first | omega | (simp; done) | (simp; omega)) _)))⟩
  case round =>
    obtain ⟨t, ht, rfl, hown, hb⟩ := hrel
    by_cases hlt : t < n
    · have htl : t < l.length := by rw [HL.out]; exact hlt
      obtain ⟨g, hg⟩ : ∃ g, l[t]? = some g := ⟨_, List.getElem?_eq_getElem htl⟩
      obtain ⟨b, off, rfl, hbl, hc⟩ := H.out.2 (by omega)
      have q0 : wr.cell? ⟨b, off + t * 4, none⟩ = some (.int .i64 g.k) := (hb.cell (by exact hbl)).trans (hc (t * 4 + 0) _ (flat_at gcells_len l t g 0 hg (by decide)))
      have q1 : wr.cell? ⟨b, off + t * 4 + 1, none⟩ = some (.int .i64 g.a) := (hb.cell (by exact hbl)).trans (hc (t * 4 + 1) _ (flat_at gcells_len l t g 1 hg (by decide)))
      have q2 : wr.cell? ⟨b, off + t * 4 + 2, none⟩ = some (.int .i64 g.b) := (hb.cell (by exact hbl)).trans (hc (t * 4 + 2) _ (flat_at gcells_len l t g 2 hg (by decide)))
      have q3 : wr.cell? ⟨b, off + t * 4 + 3, none⟩ = some (.int .i64 g.c) := (hb.cell (by exact hbl)).trans (hc (t * 4 + 3) _ (flat_at gcells_len l t g 3 hg (by decide)))
      have HG := Lib.hid hg
      obtain ⟨L, hL⟩ : ∃ L, L = (l.take t).flatMap dgate := ⟨_, rfl⟩
      have hd1 : L.length ≤ t * 15 := by rw [hL]; exact Nat.le_trans (dgates_le _) (Nat.mul_le_mul_right _ (List.length_take_le t l))
      have hd2 := dgate_le ⟨g.k, g.a, g.b, g.c⟩
      rw [← hL] at hown
      have HL2 := Lib.hid hL
      clear hL
      clear hc hg htl
      go_wp2_with fail
      refine (DecomposeGate_impl _ _ _ _ _).mono ?_
      rintro e w2 ⟨v2, rfl, own2, hb2, hs2⟩
      simp at hs2
      obtain ⟨A2, c2, rfl, _, _, r2⟩ := rd_of_own own2
      have hown2 := ownsRow_below (hown.alloc _) hb2
      have hb2' : Below w.heap.size w w2 := (hb.alloc hb.size _).trans (hb2.mono (by have := hb.size; simp; omega))
      clear q0 q1 q2 q3 hown own2 hb2
      go_wp2_with (at_builtin; refine wpList_append_rd _ rfl _ _ 24 rfl w.heap.size 30 i0 _ 4 32 Try.underlying24 hi hz0 hz1 hz2 rfl (by decide) _ _ _ rfl hown2 _ _ _ _ rfl r2 (one_flat gcells_one _) ?c3 ?c4 ?c5 ?_)
      case c3 => simp only [maxLen]; omega
      case c4 => omega
      case c5 => exact hb2'.size
      intro v3 w3 own3 gr3 _
      have b3 := hb2'.grown gr3 hb2'.size (own_ge hown2)
      clear hown2 gr3 r2
      go_wp2
      go_roundw
      case rel =>
        refine ⟨t + 1, by omega, by go_num, ?_, b3⟩
        rw [dtake l t g HG.out, ← HL2.out, List.flatMap_append, List.length_append]
        exact own3
      case measure => simp [intOf]; omega
    · obtain rfl : t = n := by omega
      go_wp2
      go_ret
      exact ⟨_, rfl, by rw [List.take_of_length_le (by rw [HL.out]; exact Nat.le_refl _)] at hown; exact hown, hb, hb.size⟩
end Go.Proofs.Ytgjpicekdbemiaa
