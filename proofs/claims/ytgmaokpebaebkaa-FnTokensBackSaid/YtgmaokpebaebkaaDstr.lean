/- Drawing texts: each draw returns a text of few bytes, and writes nothing but the cursor. -/
import Derived.Test.YtgmaokpebaebkaaDraw2
import Derived.Test.YtgmaokpebaebkaaTkS
namespace Go.Proofs.Ytgmaokpebaebkaa
open Go.RowKit
set_option linter.unusedVariables false
theorem own_drawS {w1 w2 : World} {B e size n p : Nat} {v : Value} {xs : List Value} (h : w1.ownsRow B e size v n xs) (hg : w1.grownBy w2 (some p)) (hp : p < B) : w2.ownsRow B e size v n xs := h.kept hg (by
  cases hk : v.ownBlock with
  | none => exact .inl rfl
  | some k =>
    refine .inr fun e => ?_
    injection e with e
    have := (h.lt k hk).1
    omega)
theorem pickedS {w : World} {L : List ByteArray} {b : Nat} (hb : b = w.heap.size) : Rd (w.alloc (.cells (L.map Value.string).toArray 9)) 1 (some ⟨b, 0, none⟩) L.length (L.map Value.string) := by
  have h := rd_lit1 (w := w) (cs := (L.map Value.string).toArray) (e := 9) (n := L.length) (size := 1) hb (by simp)
  simpa using h
/-- A draw of one of some texts. -/
def DSm (L : List ByteArray) (w : World) (p : Nat) (e : Ending) (w' : World) : Prop := ∃ x : ByteArray, x ∈ L ∧ e = .returned (.string x) ∧ CurAt w' p ∧ w.grownBy w' (some p)
set_option maxRecDepth 100000 in
set_option maxHeartbeats 1000000 in
theorem l1Pick_any (b k c : Nat) (L : List ByteArray) (w : World) (p : Nat) (hcur : CurAt w p) (hL : L.length = k) (hk : 0 < k) (hk2 : k ≤ 1000) (hr : Rd w 1 (some ⟨b, 0, none⟩) k (L.map Value.string)) (hne : b ≠ p) : Calls Try.prog 45 #[.pointer (some ⟨p, 0, none⟩), .slice (some ⟨b, 0, none⟩) k c] w (DSm L w p) := by
  have HL := Lib.hid hL
  have HR := Lib.hid hr
  clear hL hr
  go_enter Try.func45, Try.ntmps45
  go_wp2_with fail
  refine (l1Below_any k (k - 1) w p hcur (by omega) (by omega) (by omega)).mono ?_
  rintro e w1 ⟨x, hx0, hx1, rfl, hc1, hg1⟩
  obtain ⟨j, rfl⟩ : ∃ j : Nat, x = j := ⟨x.toNat, by omega⟩
  have hjk : j < k := by omega
  obtain ⟨y, hy⟩ : ∃ y, L[j]? = some y := ⟨_, List.getElem?_eq_getElem (by rw [HL.out]; exact hjk)⟩
  have hq : w1.cell? ⟨b, j, none⟩ = some (.string y) := by
    obtain ⟨b', off, e, hl, hc⟩ := (grown_rd HR.out hg1 (fun _ ad e => by cases e; exact hne)).2 hk
    injection e with e
    injection e with e1 e2
    subst e1 e2
    have := hc j (.string y) (by simp [hy])
    simpa using this
  have HY := Lib.hid (List.mem_of_getElem? hy)
  clear hy
  go_wp2_with fail
  go_ret
  exact ⟨y, HY.out, rfl, hc1, hg1⟩
/-- A drawn token: its text is short. -/
def DTk (w : World) (p : Nat) (e : Ending) (w' : World) : Prop := ∃ (k : Int) (s : ByteArray), s.size ≤ 8 ∧ e = .returned (.agg #[.int .i64 k, .string s]) ∧ CurAt w' p ∧ w.grownBy w' (some p)
def words6 : List ByteArray := [⟨#[97]⟩, ⟨#[104]⟩, ⟨#[113, 117, 98, 105, 116, 115]⟩, ⟨#[48]⟩, ⟨#[114, 101, 112, 101, 97, 116]⟩, ⟨#[49, 50, 51, 52, 53, 54, 55, 56]⟩]
theorem words6_le : ∀ s ∈ words6, s.size ≤ 8 := by
  intro s hs
  simp only [words6, List.mem_cons, List.not_mem_nil, or_false] at hs
  rcases hs with rfl | rfl | rfl | rfl | rfl | rfl <;> decide
set_option maxRecDepth 100000 in
set_option maxHeartbeats 2000000 in
theorem l16Token_any (w : World) (p : Nat) (hcur : CurAt w p) : Calls Try.prog 46 #[.pointer (some ⟨p, 0, none⟩)] w (DTk w p) := by
  have hp := hcur.lt
  go_enter Try.func46, Try.ntmps46
  go_wp2_with fail
  obtain ⟨w0, hw0⟩ : ∃ w0, w0 = w.alloc (.cells #[.int .i64 0, .string ⟨#[]⟩] 54) := ⟨_, rfl⟩
  rw [← hw0]
  have x0 : w0.heap[w.heap.size]? = some (.cells #[.int .i64 0, .string ⟨#[]⟩] 54 (0, 0)) := by rw [hw0]; exact boxed1_0 _ _
  have hfr0 : Fr w p w0 := by rw [hw0]; exact (Fr.start hcur).alloc _
  have s0 : w.heap.size < w0.heap.size := by rw [hw0]; simp
  clear hw0
  refine (l1Once_any 2 w0 p hfr0.cur (by omega) (by omega)).mono ?_
  rintro e w1 ⟨b, rfl, hc1, hg1⟩
  have x1 := box_call x0 hg1 (by omega)
  have hfr1 := hfr0.call hc1 hg1
  have s1 : w.heap.size < w1.heap.size := by have := hg1.size; omega
  have X1 := Lib.hid x1
  clear x0 x1 hc1 hg1 hfr0
  cases b
  · go_wp2_with fail
    refine (l1Below_any 3 2 w1 p hfr1.cur (by omega) (by omega) (by omega)).mono ?_
    rintro e w2 ⟨x, hx0, hx1, rfl, hc2, hg2⟩
    have x2 := box_call X1.out hg2 (by omega)
    have hfr2 := hfr1.call hc2 hg2
    have s2 : w.heap.size < w2.heap.size := by have := hg2.size; omega
    obtain ⟨q0, q1⟩ := cells2 (lay := Below.refl _ _) x2
    have f0 := free_at (j := 0) x2
    have f1 := free_at (j := 1) x2
    clear X1 x2 hc2 hg2 hfr1
    go_wp2_with fail
    exact bodyPost_ret (v := .agg #[.int .i64 (2 + x), .string ⟨#[]⟩]) (by simp [results, Try.results46, go_sem, q0, q1]) rfl ⟨_, _, by decide, rfl, (Fr.cur (w := w) (by repeat (first | assumption | (with_reducible refine Fr.alloc ?_ _) | (with_reducible refine Fr.set ?_ hp (by first | omega | (simp; done) | (simp; omega)) _)))), (Fr.gr (by repeat (first | assumption | (with_reducible refine Fr.alloc ?_ _) | (with_reducible refine Fr.set ?_ hp (by first | omega | (simp; done) | (simp; omega)) _))))⟩
  · go_wp2_with fail
    obtain ⟨w2, hw2⟩ : ∃ w2, w2 = w1.alloc (.cells #[.string ⟨#[97]⟩, .string ⟨#[104]⟩, .string ⟨#[113, 117, 98, 105, 116, 115]⟩, .string ⟨#[48]⟩, .string ⟨#[114, 101, 112, 101, 97, 116]⟩, .string ⟨#[49, 50, 51, 52, 53, 54, 55, 56]⟩] 9) := ⟨_, rfl⟩
    rw [← hw2]
    have hr2 : Rd w2 1 (some ⟨w1.heap.size, 0, none⟩) 6 (words6.map Value.string) := by rw [hw2]; exact pickedS (w := w1) (L := words6) rfl
    have hba : Below w1.heap.size w1 w2 := by rw [hw2]; exact (by repeat (first | exact Below.refl _ _ | assumption | (refine Below.trans ?_ (Below.mono (by assumption) (by first | omega | (simp; done) | (simp; omega)))) | (with_reducible refine Below.drew ?_) | (with_reducible refine Below.alloc ?_ (by first | omega | (simp; done) | (simp; omega)) _) | (with_reducible refine Below.setCell ?_ (by first | omega | (simp; done) | (simp; omega)) _)))
    have x2 := (hba.block _ s1).trans X1.out
    have hfr2 := hfr1.below hba
    have s2 : w.heap.size < w2.heap.size := by have := hba.size; omega
    have X2 := Lib.hid x2
    have hl1 := hfr1.cur.lt
    clear hw2 X1 x2 hba
    refine (l1Pick_any w1.heap.size 6 6 words6 w2 p hfr2.cur rfl (by omega) (by omega) hr2 (by omega)).mono ?_
    rintro e w3 ⟨y, hy, rfl, hc3, hg3⟩
    have x3 := box_call X2.out hg3 (by omega)
    have hfr3 := hfr2.call hc3 hg3
    have s3 : w.heap.size < w3.heap.size := by have := hg3.size; omega
    obtain ⟨q0, q1⟩ := cells2 (lay := Below.refl _ _) x3
    have f0 := free_at (j := 0) x3
    have f1 := free_at (j := 1) x3
    have HY := Lib.hid (words6_le y hy)
    clear X2 x3 hc3 hg3 hfr1 hfr2 hr2 hy
    go_wp2_with fail
    exact bodyPost_ret (v := .agg #[.int .i64 1, .string y]) (by simp [results, Try.results46, go_sem, q0, q1]) rfl ⟨_, _, HY.out, rfl, (Fr.cur (w := w) (by repeat (first | assumption | (with_reducible refine Fr.alloc ?_ _) | (with_reducible refine Fr.set ?_ hp (by first | omega | (simp; done) | (simp; omega)) _)))), (Fr.gr (by repeat (first | assumption | (with_reducible refine Fr.alloc ?_ _) | (with_reducible refine Fr.set ?_ hp (by first | omega | (simp; done) | (simp; omega)) _))))⟩
def DTks (w : World) (p : Nat) (e : Ending) (w' : World) : Prop := ∃ (A : Option Addr) (n c : Nat) (T : List Tk), e = .returned (.slice A n c) ∧ T.length = n ∧ n ≤ 8 ∧ (∀ t ∈ T, t.s.size ≤ 8) ∧ Rd w' 2 A n (tkcs T) ∧ CurAt w' p ∧ w.grownBy w' (some p)
set_option maxRecDepth 100000 in
set_option maxHeartbeats 2000000 in
theorem l16List_any (w : World) (p : Nat) (hcur : CurAt w p) : Calls Try.prog 26 #[.pointer (some ⟨p, 0, none⟩)] w (DTks w p) := by
  obtain ⟨i0, hi, hz0, hz1, hz2⟩ := info_parts info_TkE
  have hp := hcur.lt
  go_enter Try.func26, Try.ntmps26
  go_wp2_with fail
  obtain ⟨w0, hw0⟩ : ∃ w0, w0 = w.alloc (.cells #[] 54) := ⟨_, rfl⟩
  rw [← hw0]
  have own0 : w0.ownsRow w.heap.size 54 2 (.slice (some ⟨w.heap.size, 0, none⟩) 0 0) 0 [] := by rw [hw0]; exact own_empty w _ _
  have hfr0 : Fr w p w0 := by rw [hw0]; exact (Fr.start hcur).alloc _
  clear hw0
  refine (l1Below_any 8 7 w0 p hfr0.cur (by omega) (by omega) (by omega)).mono ?_
  rintro e w1 ⟨n, hn0, hn1, rfl, hc1, hg1⟩
  have own1 := own_drawS own0 hg1 hp
  have hfr1 := hfr0.call hc1 hg1
  obtain ⟨m, rfl⟩ : ∃ m : Nat, n = m := ⟨n.toNat, by omega⟩
  clear own0 hfr0 hc1 hg1
  have OW := Lib.hid own1
  have FR := Lib.hid hfr1
  clear own1 hfr1
  go_wp2_with fail
  go_loopw [3, 5] (fun v i wr => ∃ T : List Tk, i = .int .i64 T.length ∧ T.length ≤ m ∧ Hid (∀ t ∈ T, t.s.size ≤ 8) ∧ Hid (wr.ownsRow w.heap.size 54 2 v T.length (tkcs T)) ∧ Hid (Fr w p wr)) (fun _ i _ => m - (intOf i).toNat)
  case atStart => exact ⟨[], rfl, Nat.zero_le _, (by simp : ∀ t ∈ ([] : List Tk), t.s.size ≤ 8), OW.out, FR.out⟩
  case round =>
    obtain ⟨T, rfl, hT, hsm, hown, hfr⟩ := hrel
    by_cases hlt : T.length < m
    · go_wp2_with fail
      refine (l16Token_any _ p hfr.out.cur).mono ?_
      rintro e w2 ⟨k, s, hs, rfl, hc2, hg2⟩
      have own2 := own_drawS hown.out hg2 hp
      have fr2 := hfr.out.call hc2 hg2
      have hsz := fr2.gr.size
      have HS := Lib.hid (show ∀ t ∈ T ++ [⟨k, s⟩], t.s.size ≤ 8 from fun t ht => by
        rcases List.mem_append.1 ht with h | h
        · exact hsm.out t h
        · rw [List.mem_singleton.1 h]; exact hs)
      clear hc2 hg2 hown
      go_wp2_with (at_builtin; refine wpList_append_rd _ rfl _ _ 25 rfl w.heap.size 54 i0 _ 2 24 Try.underlying25 hi hz0 hz1 hz2 rfl (by decide) _ _ _ rfl (own2.alloc _) _ 1 1 _ rfl (rd_lit2 ?c0 rfl) ?c2 ?c3 ?c4 ?c5 ?_)
      case c0 => first | rfl | simp
      case c2 => repeat' (first | rfl | apply And.intro)
      case c3 => simp only [maxLen]; omega
      case c4 => omega
      case c5 => first | omega | (simp; omega)
      intro v6 w6 own6 gr6 _
      have fr6 := (fr2.alloc (.cells #[.int .i64 k, .string s] 54)).own hp gr6 (fun k hk => own_ge own2 k hk)
      have FR6 := Lib.hid fr6
      have O6 := Lib.hid own6
      clear gr6 own2 fr2 fr6 own6
      go_wp2_with fail
      go_roundw
      case rel => exact ⟨T ++ [⟨k, s⟩], by rw [List.length_append]; go_num, by rw [List.length_append]; exact hlt, HS, by rw [List.length_append, tkcs_append]; exact O6.out, FR6.out⟩
      case measure => simp [intOf]; omega
    · obtain ⟨A, c, rfl, _, _, r⟩ := rd_of_own hown.out
      have R := Lib.hid r
      clear r
      go_wp2_with fail
      go_ret
      exact ⟨A, _, c, T, rfl, rfl, by omega, hsm.out, R.out, hfr.out.cur, hfr.out.gr⟩
/-- A drawn text of at most M bytes. -/
def DTx (M : Nat) (w : World) (p : Nat) (e : Ending) (w' : World) : Prop := ∃ x : ByteArray, x.size ≤ M ∧ e = .returned (.string x) ∧ CurAt w' p ∧ w.grownBy w' (some p)
set_option maxRecDepth 100000 in
set_option maxHeartbeats 2000000 in
theorem l1Turned_any (M b k c : Nat) (s : ByteArray) (L : List ByteArray) (w : World) (p : Nat) (hcur : CurAt w p) (hs : s.size ≤ M) (hM : M ≤ 1099511627776) (hL : L.length = k) (hk : 0 < k) (hk2 : k ≤ 1000) (h9 : ∀ x ∈ L, x.size ≤ 9) (hr : Rd w 1 (some ⟨b, 0, none⟩) k (L.map Value.string)) (hne : b ≠ p) :
    Calls Try.prog 24 #[.pointer (some ⟨p, 0, none⟩), .string s, .slice (some ⟨b, 0, none⟩) k c] w (DTx (M + 9) w p) := by
  have HL := Lib.hid hL
  have HR := Lib.hid hr
  have H9 := Lib.hid h9
  have CU := Lib.hid hcur
  clear hL hr h9 hcur
  go_enter Try.func24, Try.ntmps24
  go_wp2_with fail
  refine (l1Below_any _ s.size w p CU.out (by omega) (by omega) (by omega)).mono ?_
  rintro e w1 ⟨x, hx0, hx1, rfl, hc1, hg1⟩
  obtain ⟨j, rfl⟩ : ∃ j : Nat, x = j := ⟨x.toNat, by omega⟩
  have R1 := Lib.hid (grown_rd HR.out hg1 (fun _ ad e => by cases e; exact hne))
  have FR1 := Lib.hid (Fr.mk hc1 hg1)
  clear hc1 hg1
  go_wp2_with fail
  refine (l1Below_any 6 5 w1 p FR1.out.cur (by omega) (by omega) (by omega)).mono ?_
  rintro e w2 ⟨y, hy0, hy1, rfl, hc2, hg2⟩
  have R2 := Lib.hid (grown_rd R1.out hg2 (fun _ ad e => by cases e; exact hne))
  have FR2 := Lib.hid (FR1.out.call hc2 hg2)
  clear hc2 hg2 R1 FR1
  by_cases h0 : y = 0
  · have e0 : (y == 0) = true := by simp [h0]
    clear h0
    have FD : Fr w p w2.drew := ⟨FR2.out.cur, FR2.out.gr.os, FR2.out.gr.tape, FR2.out.gr.output, FR2.out.gr.size, FR2.out.gr.block⟩
    have RD : Rd w2.drew 1 (some ⟨b, 0, none⟩) k (L.map Value.string) := R2.out
    have z1 : (s.extract 0 j).size ≤ j := by simp; omega
    have z2 : (s.extract j s.size).size ≤ s.size - j := by simp
    have FDD := Lib.hid FD
    clear FD
    go_wp2_with fail
    go_region_with (go_at_call 45; (with_reducible refine (l1Pick_any b k c L _ p FDD.out.cur HL.out hk hk2 RD hne).mono ?_); rintro e w3 ⟨z, hz, rfl, hc3, hg3⟩; have hz9 := H9.out z hz; have a1 : ∀ w : World, (Op.stringOp .add (s.extract 0 j) z).run Try.prog w = .ok (.string (s.extract 0 j ++ z)) w := fun w => run_string_add_sum w _ _ (by omega); have a2 : ∀ w : World, (Op.stringOp .add (s.extract 0 j ++ z) (s.extract j s.size)).run Try.prog w = .ok (.string (s.extract 0 j ++ z ++ s.extract j s.size)) w := fun w => run_string_add_sum w _ _ (by rw [ByteArray.size_append]; omega))
    go_wp2_with fail
    go_ret
    exact ⟨_, by rw [ByteArray.size_append, ByteArray.size_append]; omega, rfl, hc3, FDD.out.gr.trans hg3⟩
  · have e0 : (y == 0) = false := by simp [h0]
    by_cases h1 : y = 1
    · have e1 : (y == 1) = true := by simp [h1]
      clear h0 h1
      go_wp2_with fail
      go_ret
      exact ⟨_, by simp; omega, rfl, FR2.out.cur, FR2.out.gr⟩
    · have e1 : (y == 1) = false := by simp [h1]
      clear h0 h1
      go_wp2_with fail
      go_ret
      exact ⟨s, by omega, rfl, FR2.out.cur, FR2.out.gr⟩
theorem turns10 : ∀ x ∈ ([⟨#[32]⟩, ⟨#[10]⟩, ⟨#[59]⟩, ⟨#[123]⟩, ⟨#[125]⟩, ⟨#[97]⟩, ⟨#[65]⟩, ⟨#[49, 50, 51, 52, 53, 54, 55, 56, 57]⟩, ⟨#[9]⟩, ⟨#[32, 32]⟩] : List ByteArray), x.size ≤ 9 := by
  intro s hs
  simp only [List.mem_cons, List.not_mem_nil, or_false] at hs
  rcases hs with rfl | rfl | rfl | rfl | rfl | rfl | rfl | rfl | rfl | rfl <;> decide
theorem ftx_small {T : List Tk} (h : T.length ≤ 8) : (ftx T).size ≤ 1000 := by have := ftx_size T; omega
def DrewTx (M : Nat) (w : World) (e : Ending) (w' : World) : Prop := ∃ x : ByteArray, x.size ≤ M ∧ e = .returned (.string x) ∧ Below w.heap.size w w'
set_option maxRecDepth 100000 in
set_option maxHeartbeats 2000000 in
theorem DrawTokenize_any (A : Option Addr) (n c : Nat) (bs : List (Fin 256)) (w : World) (h : Rd w 1 A n (bs.flatMap bcell)) (hl : bs.length = n) (hn : n ≤ 1048576) : Calls Try.prog 6 #[.slice A n c] w (DrewTx 1009 w) := by
  have H := Lib.hid h
  have HL := Lib.hid hl
  clear h hl
  go_enter Try.func6, Try.ntmps6
  go_wp2_with fail
  refine (l1New_any _ _ _ bs w H.out HL.out hn).mono ?_
  rintro e w1 ⟨p, rfl, hp1, hc1, hb1⟩
  have lp := hc1.lt
  have HB1 := Lib.hid hb1
  clear hb1
  go_wp2_with fail
  refine (l1Once_any 40 w1 p hc1 (by omega) (by omega)).mono ?_
  rintro e w2 ⟨b, rfl, hc2, hg2⟩
  have fr2 := (Fr.start hc1).call hc2 hg2
  clear hc2 hg2
  have FR2 := Lib.hid fr2
  clear fr2
  cases b
  · go_wp2_with fail
    refine (l16List_any w2 p FR2.out.cur).mono ?_
    rintro e w3 ⟨B, m, d, T, rfl, hT, hm, hsm, r, hc3, hg3⟩
    have FR3 := Lib.hid (FR2.out.call hc3 hg3)
    have HTL := Lib.hid hT
    have HSM := Lib.hid hsm
    have R := Lib.hid r
    clear hc3 hg3 hT hsm r
    go_wp2_with fail
    refine (FormatTokens_spec _ _ _ T w3 R.out HTL.out (by omega) (fun t ht => by have := HSM.out t ht; omega)).mono ?_
    rintro e w4 ⟨rfl, b4, s4⟩
    have FR4 := Lib.hid (FR3.out.below b4)
    have hz := ftx_small (T := T) (by rw [HTL.out]; exact hm)
    obtain ⟨x, hx⟩ : ∃ x, x = ftx T := ⟨_, rfl⟩
    rw [← hx] at hz ⊢
    clear hx b4 s4
    go_wp2_with fail
    obtain ⟨w5, hw5⟩ : ∃ w5, w5 = w4.alloc (.cells #[.string ⟨#[32]⟩, .string ⟨#[10]⟩, .string ⟨#[59]⟩, .string ⟨#[123]⟩, .string ⟨#[125]⟩, .string ⟨#[97]⟩, .string ⟨#[65]⟩, .string ⟨#[49, 50, 51, 52, 53, 54, 55, 56, 57]⟩, .string ⟨#[9]⟩, .string ⟨#[32, 32]⟩] 9) := ⟨_, rfl⟩
    rw [← hw5]
    have FR5 := Lib.hid (show Fr w1 p w5 by rw [hw5]; exact FR4.out.alloc _)
    have hl4 := FR4.out.cur.lt
    have R5 := Lib.hid (show Rd w5 1 (some ⟨w4.heap.size, 0, none⟩) 10 (([⟨#[32]⟩, ⟨#[10]⟩, ⟨#[59]⟩, ⟨#[123]⟩, ⟨#[125]⟩, ⟨#[97]⟩, ⟨#[65]⟩, ⟨#[49, 50, 51, 52, 53, 54, 55, 56, 57]⟩, ⟨#[9]⟩, ⟨#[32, 32]⟩] : List ByteArray).map Value.string) by rw [hw5]; exact pickedS (w := w4) rfl)
    clear hw5
    refine (l1Turned_any 1000 _ 10 _ x _ w5 p FR5.out.cur hz (by omega) rfl (by omega) (by omega) turns10 R5.out (by omega)).mono ?_
    rintro e w6 ⟨y, hy, rfl, hc6, hg6⟩
    have hb6 := HB1.out.trans (below_of_only (FR5.out.gr.trans hg6) HB1.out.size hp1)
    go_wp2_with fail
    go_ret
    exact ⟨y, hy, rfl, hb6⟩
  · go_wp2_with fail
    refine (l1Below_any 3 2 w2 p FR2.out.cur (by omega) (by omega) (by omega)).mono ?_
    rintro e w3 ⟨x, hx0, hx1, rfl, hc3, hg3⟩
    have HB3 := Lib.hid (HB1.out.trans (below_of_only (FR2.out.gr.trans hg3) HB1.out.size hp1))
    clear hc3 hg3
    obtain ⟨m, rfl⟩ : ∃ m : Nat, x = m := ⟨x.toNat, by omega⟩
    go_wp2_with fail
    go_loop [4, 6] (fun s i => ∃ (t : Nat) (u : ByteArray), t ≤ 159 + m ∧ i = .int .i64 t ∧ s = .string u ∧ u.size = t) (fun _ i => 159 + m - (intOf i).toNat)
    case atStart => exact ⟨0, _, Nat.zero_le _, rfl, rfl, rfl⟩
    case round =>
      obtain ⟨t, u, ht, rfl, rfl, hu⟩ := hrel
      by_cases hlt : t < 159 + m
      · have a1 : ∀ w : World, (Op.stringOp .add u ⟨#[59]⟩).run Try.prog w = .ok (.string (u ++ ⟨#[59]⟩)) w := fun w => run_string_add_sum w _ _ (by show u.size + 1 ≤ _; omega)
        go_wp2_with fail
        go_round
        case rel => exact ⟨t + 1, _, by omega, by go_num, rfl, by rw [ByteArray.size_append, hu]; rfl⟩
        case measure => simp [intOf]; omega
      · go_wp2_with fail
        go_ret
        exact ⟨u, by omega, rfl, HB3.out⟩
end Go.Proofs.Ytgmaokpebaebkaa
