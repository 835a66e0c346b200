/- Lists of tokens: the reference's words. -/
import Derived.Test.YtijocafindbebaaDoorTkn
namespace Go.Proofs.YtijocafindbebaaDoor
open Go.RowKit
set_option linter.unusedVariables false
theorem rd_lit2 {w : World} {cs : Array Value} {e n size b : Nat} (h0 : b = w.heap.size) (hs : cs.size = n * size) : Rd (w.alloc (.cells cs e)) size (some ⟨b, 0, none⟩) n cs.toList := by
  subst h0
  refine ⟨by simpa using hs, fun _ => ⟨_, 0, rfl, by simp, fun j u hu => ?_⟩⟩
  have h := heap_alloc_new w (.cells cs e)
  have hc : cs[j]? = some u := by rw [← Array.getElem?_toList]; exact hu
  rw [Nat.zero_add]
  exact cell_at h hc
theorem own_low {w : World} {B B' e size n : Nat} {v : Value} {xs : List Value} (h : w.ownsRow B e size v n xs) (hB : B' ≤ B) : w.ownsRow B' e size v n xs := by
  refine ⟨h.1, ?_⟩
  rcases h.2 with h2 | ⟨g, cap, cur, h1, h2, h3⟩
  · exact .inl h2
  · exact .inr ⟨g, cap, cur, h1, Nat.le_trans hB h2, h3⟩
/-- A call that hands back these tokens in new memory. -/
def RetTk (w : World) (L : List Tk) : Ending → World → Prop := RetRow 85 2 w L.length (tkcs L)
theorem retTk_of {w w' : World} {L : List Tk} {v : Value} {n : Nat} {xs : List Value} (he : xs = tkcs L) (ho : w'.ownsRow w.heap.size 85 2 v n xs) (hb : Below w.heap.size w w') (hs : w.heap.size ≤ w'.heap.size) : RetTk w L (.returned v) w' := by
  subst he
  have hn : L.length = n := by have := ho.1; rw [tkcs_len] at this; omega
  exact ⟨v, rfl, by rw [hn]; exact ho, hb, hs⟩
/-- The statements of a body, and the tokens of each. -/
def EltsT (f : Nat) (w : World) (Ab : Option Addr) (nb : Nat) (rs : List (List Tk)) : Prop := ∀ t, t < nb → ∃ (b off : Nat) (k : Int) (wd : ByteArray) (Aa : Option Addr) (na ca : Nat) (ct : Int) (Ab' : Option Addr) (nb' cb' : Nat) (r : List Tk),
  Ab = some ⟨b, off, none⟩ ∧ b < w.heap.size ∧ (w.cell? ⟨b, off + t * 5, none⟩ = some (.int .i64 k) ∧ w.cell? ⟨b, off + t * 5 + 1, none⟩ = some (.string wd) ∧ w.cell? ⟨b, off + t * 5 + 2, none⟩ = some (.slice Aa na ca) ∧ w.cell? ⟨b, off + t * 5 + 3, none⟩ = some (.int .i64 ct) ∧ w.cell? ⟨b, off + t * 5 + 4, none⟩ = some (.slice Ab' nb' cb')) ∧
  rs[t]? = some r ∧ ∀ w', Below w.heap.size w w' → Calls Tryd.prog f #[.agg #[.int .i64 k, .string wd, .slice Aa na ca, .int .i64 ct, .slice Ab' nb' cb']] w' (RetTk w' r)
theorem map_step {α : Type} {f : ByteArray → α} {l : List ByteArray} {t : Nat} {s : ByteArray} (h : l[t]? = some s) : (l.take (t + 1)).map f = (l.take t).map f ++ [f s] := by
  rw [List.take_add_one, h]
  simp
set_option maxRecDepth 100000 in
set_option maxHeartbeats 1000000 in
theorem l19Words_any (A : Option Addr) (n c : Nat) (l : List ByteArray) (w : World) (h : Rd w 1 A n (strs l)) (hl : l.length = n) (hn : n ≤ 1048576) :
    Calls Tryd.prog 65 #[.slice A n c] w (RetRow 85 2 w n (tkcs (l.map wTk))) := by
  obtain ⟨i0, hi, hz0, hz1, hz2⟩ := info_parts info_TkE
  have H := Lib.hid h
  have HL := Lib.hid hl
  clear h hl
  go_enter Tryd.func65, Tryd.ntmps65
  go_wp2
  go_loopw [3, 4] (fun v i wr => ∃ t : Nat, t ≤ n ∧ i = .int .i64 t ∧ wr.ownsRow w.heap.size 85 2 v t (tkcs ((l.take t).map wTk)) ∧ Below w.heap.size w wr) (fun _ i _ => n - (intOf i).toNat)
  case atStart => exact ⟨0, Nat.zero_le _, rfl, own_empty w _ 2, (by repeat (first | exact Below.refl _ _ | assumption | (refine Below.trans ?_ (Below.mono (by assumption) (by first | omega | (simp; done) | (simp; omega)))) | (with_reducible refine Below.drew ?_) | (with_reducible refine Below.alloc ?_ (by first | omega | (simp; done) | (simp; omega)) _) | (with_reducible refine Below.setCell ?_ (by first | omega | (simp; done) | (simp; omega)) _)))⟩
  case round =>
    obtain ⟨t, ht, rfl, hown, hb⟩ := hrel
    have hbs := hb.size
    by_cases hlt : t < n
    · obtain ⟨s, hs⟩ : ∃ s, l[t]? = some s := ⟨_, List.getElem?_eq_getElem (by have := HL.out; omega)⟩
      obtain ⟨b, off, rfl, hbl, hc⟩ := H.out.2 (by omega)
      have q0 : wr.cell? ⟨b, off + t, none⟩ = some (.string s) := (hb.cell (by exact hbl)).trans (hc t _ (strs_at hs))
      have HS := Lib.hid (map_step (f := wTk) hs)
      obtain ⟨L, hL⟩ : ∃ L, L = (l.take t).map wTk := ⟨_, rfl⟩
      rw [← hL] at hown HS
      clear hc hs hL
      go_wp2_with fail
      refine (l19Word_any s _).mono ?_
      rintro e w1 ⟨rfl, b1, s1⟩
      have hown1 := ownsRow_below hown b1
      have hb1 := hb.trans (b1.mono hbs)
      have hb1s := hb1.size
      clear hown
      go_wp2_with (at_builtin; refine wpList_append_rd _ rfl _ _ 43 rfl w.heap.size 85 i0 _ 2 24 Tryd.underlying43 hi hz0 hz1 hz2 rfl (by decide) _ _ _ rfl (hown1.alloc _) _ 1 1 _ rfl (rd_lit2 ?c0 rfl) ?c2 ?c3 ?c4 ?c5 ?_)
      case c0 => first | rfl | simp
      case c2 => repeat' (first | rfl | apply And.intro)
      case c3 => simp only [maxLen]; omega
      case c4 => omega
      case c5 => simp; omega
      intro v3 w3 own3 gr3 _
      have b3 := (hb1.alloc hb1s _).grown gr3 (by simp; omega) (own_ge hown1)
      clear hown1 gr3
      go_wp2_with fail
      go_roundw
      case rel =>
        refine ⟨t + 1, by omega, by go_num, ?_, b3⟩
        rw [HS.out, tkcs_append]
        exact own3
      case measure => simp [intOf]; omega
    · obtain rfl : t = n := by omega
      go_wp2_with fail
      go_ret
      exact ⟨_, rfl, by rw [List.take_of_length_le (by rw [HL.out]; exact Nat.le_refl _)] at hown; exact hown, hb, hb.size⟩
end Go.Proofs.YtijocafindbebaaDoor
