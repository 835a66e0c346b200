/- Lists of operations: making them out of gates, inverting, repeating; the program's functions and the reference's return the same lists. -/
import Derived.Test.YtbffpehajkgjeaaOpS
import Derived.Test.YtbffpehajkgjeaaGateS
import Derived.Test.YtbffpehajkgjeaaAppend
namespace Go.Proofs.Ytbffpehajkgjeaa
open Go.RowKit
theorem ocells_one (o : Opt) : ((ocells o).all Value.oneCell') = true := rfl
theorem rd_lit {w : World} {cs : Array Value} {e n size b : Nat} (h0 : b = w.heap.size) (hs : cs.size = n * size) : Rd (w.alloc (.cells cs e)) size (some ⟨b, 0, none⟩) n cs.toList := by
  subst h0
  refine ⟨by simpa using hs, fun _ => ⟨_, 0, rfl, by simp, fun j u hu => ?_⟩⟩
  have h := heap_alloc_new w (.cells cs e)
  have hc : cs[j]? = some u := by rw [← Array.getElem?_toList]; exact hu
  rw [Nat.zero_add]
  exact cell_at h hc

def gop (cond : Int) (g : Gt) : Opt := ⟨1, g, 0, 0, cond⟩
set_option maxRecDepth 100000 in
set_option maxHeartbeats 1000000 in
theorem GateOps_spec (A : Option Addr) (n c : Nat) (l : List Gt) (cond : Int) (w : World) (h : Rd w 4 A n (l.flatMap gcells)) (hl : l.length = n) (hn : n ≤ 1073741824) :
    Calls Try.prog 69 #[.slice A n c, .int .i64 cond] w (RetRow 56 8 w n ((l.map (gop cond)).flatMap ocells)) := by
  obtain ⟨i0, hi, hz0, hz1, hz2⟩ := info_parts info_OpE
  have H := Lib.hid h
  have HL := Lib.hid hl
  clear h hl
  go_enter Try.func69, Try.ntmps69
  go_wp2
  go_loopw [5, 6] (fun v i wr => ∃ t : Nat, t ≤ n ∧ i = .int .i64 t ∧ wr.ownsRow w.heap.size 56 8 v t (((l.take t).map (gop cond)).flatMap ocells) ∧ Below w.heap.size w wr) (fun _ i _ => n - (intOf i).toNat)
  case atStart => exact ⟨0, Nat.zero_le _, rfl, by simpa using own_empty w _ 8, (by repeat (first | exact Below.refl _ _ | assumption | (refine Below.trans ?_ (Below.mono (by assumption) (by first | omega | (simp; done) | (simp; omega)))) | (with_reducible refine Below.drew ?_) | (with_reducible refine Below.alloc ?_ (by first | omega | (simp; done) | (simp; omega)) _) | (with_reducible refine Below.setCell ?_ (by first | omega | (simp; done) | (simp; omega)) _)))⟩
  case round =>
    obtain ⟨t, ht, rfl, hown, hb⟩ := hrel
    by_cases hlt : t < n
    · have htl : t < l.length := by rw [HL.out]; exact hlt
      obtain ⟨g, hg⟩ : ∃ g, l[t]? = some g := ⟨_, List.getElem?_eq_getElem htl⟩
      obtain ⟨b, off, rfl, hbl, hc⟩ := H.out.2 (by omega)
      have q0 : wr.cell? ⟨b, off + t * 4, none⟩ = some (.int .i64 g.k) := (hb.cell (by exact hbl)).trans (hc (t * 4 + 0) _ (flat_at gcells_len l t g 0 hg (by decide)))
      have q1 : wr.cell? ⟨b, off + t * 4 + 1, none⟩ = some (.int .i64 g.a) := (hb.cell (by exact hbl)).trans (hc (t * 4 + 1) _ (flat_at gcells_len l t g 1 hg (by decide)))
      have q2 : wr.cell? ⟨b, off + t * 4 + 2, none⟩ = some (.int .i64 g.b) := (hb.cell (by exact hbl)).trans (hc (t * 4 + 2) _ (flat_at gcells_len l t g 2 hg (by decide)))
      have q3 : wr.cell? ⟨b, off + t * 4 + 3, none⟩ = some (.int .i64 g.c) := (hb.cell (by exact hbl)).trans (hc (t * 4 + 3) _ (flat_at gcells_len l t g 3 hg (by decide)))
      have HG := Lib.hid hg
      obtain ⟨L, hL⟩ : ∃ L, L = ((l.take t).map (gop cond)).flatMap ocells := ⟨_, rfl⟩
      rw [← hL] at hown
      have HL2 := Lib.hid hL
      clear hc hg htl hL
      go_wp2_with (at_builtin; refine wpList_append_rd _ rfl _ _ 27 rfl w.heap.size 56 i0 _ 8 64 Try.underlying27 hi hz0 hz1 hz2 rfl (by decide) _ _ _ rfl (hown.alloc _) _ 1 1 _ rfl (rd_lit ?c0 rfl) ?c2 ?c3 ?c4 ?c5 ?_)
      case c0 => first | rfl | simp
      case c2 => repeat' (first | rfl | apply And.intro)
      case c3 => simp only [maxLen]; omega
      case c4 => omega
      case c5 => have := hb.size; simp; omega
      intro v3 w3 own3 gr3 _
      have b3 := (hb.alloc hb.size _).grown gr3 (by have := hb.size; simp; omega) (own_ge hown)
      clear hown gr3
      go_wp2
      go_roundw
      case rel =>
        refine ⟨t + 1, by omega, by go_num, ?_, b3⟩
        rw [List.take_add_one, HG.out, List.map_append, List.flatMap_append, ← HL2.out]
        exact own3
      case measure => simp [intOf]; omega
    · obtain rfl : t = n := by omega
      go_wp2
      go_ret
      exact ⟨_, rfl, by rw [List.take_of_length_le (by rw [HL.out]; exact Nat.le_refl _)] at hown; exact hown, hb, hb.size⟩
set_option maxRecDepth 100000 in
set_option maxHeartbeats 1000000 in
theorem GateOps_impl (A : Option Addr) (n c : Nat) (l : List Gt) (cond : Int) (w : World) (h : Rd w 4 A n (l.flatMap gcells)) (hl : l.length = n) (hn : n ≤ 1073741824) :
    Calls Try.prog 72 #[.slice A n c, .int .i64 cond] w (RetRow 56 8 w n ((l.map (gop cond)).flatMap ocells)) := by
  obtain ⟨i0, hi, hz0, hz1, hz2⟩ := info_parts info_OpE
  have H := Lib.hid h
  have HL := Lib.hid hl
  clear h hl
  go_enter Try.func72, Try.ntmps72
  go_wp2
  go_loopw [5, 11] (fun v i wr => ∃ t : Nat, t ≤ n ∧ i = .int .i64 t ∧ wr.ownsRow w.heap.size 56 8 v t (((l.take t).map (gop cond)).flatMap ocells) ∧ Below w.heap.size w wr) (fun _ i _ => n - (intOf i).toNat)
  case atStart => exact ⟨0, Nat.zero_le _, rfl, by simpa using own_empty w _ 8, (by repeat (first | exact Below.refl _ _ | assumption | (refine Below.trans ?_ (Below.mono (by assumption) (by first | omega | (simp; done) | (simp; omega)))) | (with_reducible refine Below.drew ?_) | (with_reducible refine Below.alloc ?_ (by first | omega | (simp; done) | (simp; omega)) _) | (with_reducible refine Below.setCell ?_ (by first | omega | (simp; done) | (simp; omega)) _)))⟩
  case round =>
    obtain ⟨t, ht, rfl, hown, hb⟩ := hrel
    by_cases hlt : t < n
    · have htl : t < l.length := by rw [HL.out]; exact hlt
      obtain ⟨g, hg⟩ : ∃ g, l[t]? = some g := ⟨_, List.getElem?_eq_getElem htl⟩
      obtain ⟨b, off, rfl, hbl, hc⟩ := H.out.2 (by omega)
      have q0 : wr.cell? ⟨b, off + t * 4, none⟩ = some (.int .i64 g.k) := (hb.cell (by exact hbl)).trans (hc (t * 4 + 0) _ (flat_at gcells_len l t g 0 hg (by decide)))
      have q1 : wr.cell? ⟨b, off + t * 4 + 1, none⟩ = some (.int .i64 g.a) := (hb.cell (by exact hbl)).trans (hc (t * 4 + 1) _ (flat_at gcells_len l t g 1 hg (by decide)))
      have q2 : wr.cell? ⟨b, off + t * 4 + 2, none⟩ = some (.int .i64 g.b) := (hb.cell (by exact hbl)).trans (hc (t * 4 + 2) _ (flat_at gcells_len l t g 2 hg (by decide)))
      have q3 : wr.cell? ⟨b, off + t * 4 + 3, none⟩ = some (.int .i64 g.c) := (hb.cell (by exact hbl)).trans (hc (t * 4 + 3) _ (flat_at gcells_len l t g 3 hg (by decide)))
      have HG := Lib.hid hg
      obtain ⟨L, hL⟩ : ∃ L, L = ((l.take t).map (gop cond)).flatMap ocells := ⟨_, rfl⟩
      rw [← hL] at hown
      have HL2 := Lib.hid hL
      clear hc hg htl hL
      go_wp2_with (at_builtin; refine wpList_append_rd _ rfl _ _ 27 rfl w.heap.size 56 i0 _ 8 64 Try.underlying27 hi hz0 hz1 hz2 rfl (by decide) _ _ _ rfl ((hown.alloc _).alloc _) _ 1 1 _ rfl (rd_lit ?c0 rfl) ?c2 ?c3 ?c4 ?c5 ?_)
      case c0 => first | rfl | simp
      case c2 => repeat' (first | rfl | apply And.intro)
      case c3 => simp only [maxLen]; omega
      case c4 => omega
      case c5 => have := hb.size; simp; omega
      intro v3 w3 own3 gr3 _
      have b3 := ((hb.alloc hb.size _).alloc (by have := hb.size; simp; omega) _).grown gr3 (by have := hb.size; simp; omega) (own_ge hown)
      clear hown gr3
      go_wp2
      go_roundw
      case rel =>
        refine ⟨t + 1, by omega, by go_num, ?_, b3⟩
        rw [List.take_add_one, HG.out, List.map_append, List.flatMap_append, ← HL2.out]
        exact own3
      case measure => simp [intOf]; omega
    · obtain rfl : t = n := by omega
      go_wp2
      go_ret
      exact ⟨_, rfl, by rw [List.take_of_length_le (by rw [HL.out]; exact Nat.le_refl _)] at hown; exact hown, hb, hb.size⟩

/-- The power by which a gate's kind is inverted. -/
def invk (k : Int) : Int := if k = 5 then 6 else if k = 6 then 5 else if k = 7 then 8 else if k = 8 then 7 else k
theorem invk_ne {k : Int} (h5 : k ≠ 5) (h6 : k ≠ 6) (h7 : k ≠ 7) (h8 : k ≠ 8) : invk k = k := by simp [invk, h5, h6, h7, h8]
def invG (g : Gt) : Gt := ⟨invk g.k, g.a, g.b, g.c⟩
end Go.Proofs.Ytbffpehajkgjeaa
