/- What the calls that this law reaches answer, part 13 of 20. -/
import Derived.Test.YtbamjfbfipkioaaDoorJFStmtTokens8
import Derived.Test.YtbamjfbfipkioaaDoorJFStmtTokens10
import Derived.Test.YtbamjfbfipkioaaDoorJFStmtTokens12
import Derived.Test.YtbamjfbfipkioaaDoorJFStmtTokens2
import Derived.Test.YtbamjfbfipkioaaDoorJFStmtTokens1
import Derived.Laws.IdiomStrings
namespace Go.Proofs.YtbamjfbfipkioaaDoor
open Go.RowKit
set_option linter.unusedVariables false
theorem l17Body_any : ∀ d : Nat, d ≤ 9 → BodySaid d
  | 0, _ => fun A m c N wild w p hc hn => l17Body_zero A m c N wild w p hc hn
  | d + 1, h => fun A m c N wild w p hc hn => l17Body_succ d (by omega) (l17Body_any d (by omega)) A m c N wild w p hc hn
theorem l17Right_all (w : World) (p : Nat) (hc : CurAt w p) : Calls Tryd.prog 50 #[.pointer (some ⟨p, 0, none⟩)] w (DRt w p) := l17Right_any (l17Body_any 2 (by omega)) w p hc
theorem l17Bent_any (w : World) (p : Nat) (hc : CurAt w p) : Calls Tryd.prog 34 #[.pointer (some ⟨p, 0, none⟩)] w (DBn w p) := l17Bent_of l17Right_all w p hc
end Go.Proofs.YtbamjfbfipkioaaDoor
namespace Go.Proofs.YtbamjfbfipkioaaDoor
open Go.RowKit
set_option linter.unusedVariables false
theorem RdT.set0 {w : World} {lo d n : Nat} {A : Option Addr} {l : List (Tr d)} (h : RdT w lo d A n l) {p : Addr} (hp : p.block < lo) (u : Value) : RdT (w.setCell p u) lo d A n l :=
  RdT.keep (fun b o hl hb => by
    have : (w.setCell p u).heap[b]? = w.heap[b]? := Below.heap_setCell w p u b (by omega)
    simp [World.cell?, this]) (by rw [size_setCell]; exact Nat.le_refl _) h
theorem RdL.set0 {w : World} {lo size n : Nat} {A : Option Addr} {xs : List Value} (h : RdL w lo size A n xs) {p : Addr} (hp : p.block < lo) (u : Value) : RdL (w.setCell p u) lo size A n xs :=
  RdL.keep h (fun b o hl hb => by
    have : (w.setCell p u).heap[b]? = w.heap[b]? := Below.heap_setCell w p u b (by omega)
    simp [World.cell?, this]) (by rw [size_setCell]; exact Nat.le_refl _)
/-- A drawn statement. -/
def DrewOne (w : World) (e : Ending) (w' : World) : Prop := ∃ (h : SH) (bd : List (Tr 5)) (Aa : Option Addr) (ca : Nat) (Ab : Option Addr) (nb cb : Nat), e = .returned (.agg #[.int .i64 h.k, .string h.word, .slice Aa h.args.length ca, .int .i64 h.count, .slice Ab nb cb]) ∧
  RdL w' (w.heap.size + 1) 1 Aa h.args.length (strs h.args) ∧ RdT w' (w.heap.size + 1) 5 Ab nb bd ∧ (szE (mkT h bd) ≤ 100000 ∧ h.args.length ≤ ca) ∧ Below w.heap.size w w'
theorem sz_mem {l : List (Tr 6)} {i : Nat} {s : Tr 6} (h : l[i]? = some s) (hz : szT 6 l ≤ 100000) : szE s ≤ 100000 := by
  have h1 := sum_ge (List.mem_of_getElem? h)
  have h2 : szT 6 l = l.length + sumE l := szT_succ l
  omega
set_option maxRecDepth 100000 in
set_option maxHeartbeats 4000000 in
theorem DrawIsValidStmt_any (A : Option Addr) (n c : Nat) (bs : List (Fin 256)) (w : World) (h : Rd w 1 A n (bs.flatMap bcell)) (hl : bs.length = n) (hn : n ≤ 1048576) : Calls Tryd.prog 19 #[.slice A n c] w (DrewOne w) := by
  have b0 : Below w.heap.size w (w.alloc (.cells #[.int .i64 0, .string ⟨#[]⟩, .slice none 0 0, .int .i64 0, .slice none 0 0] 27)) := (by repeat (first | exact Below.refl _ _ | assumption | (refine Below.trans ?_ (Below.mono (by assumption) (by first | omega | (simp; done) | (simp; omega)))) | (with_reducible refine Below.drew ?_) | (with_reducible refine Below.alloc ?_ (by first | omega | (simp; done) | (simp; omega)) _) | (with_reducible refine Below.setCell ?_ (by first | omega | (simp; done) | (simp; omega)) _)))
  have H := Lib.hid (h.below b0)
  have HL := Lib.hid hl
  clear h hl b0
  go_enter Tryd.func19, Tryd.ntmps19
  go_wp2_with fail
  obtain ⟨w0, hw0⟩ : ∃ w0, w0 = w.alloc (.cells #[.int .i64 0, .string ⟨#[]⟩, .slice none 0 0, .int .i64 0, .slice none 0 0] 27) := ⟨_, rfl⟩
  rw [← hw0] at H ⊢
  have x0 : w0.heap[w.heap.size]? = some (.cells #[.int .i64 0, .string ⟨#[]⟩, .slice none 0 0, .int .i64 0, .slice none 0 0] 27 (0, 0)) := by rw [hw0]; exact boxed1_0 _ _
  have b0 : Below w.heap.size w w0 := by rw [hw0]; exact (by repeat (first | exact Below.refl _ _ | assumption | (refine Below.trans ?_ (Below.mono (by assumption) (by first | omega | (simp; done) | (simp; omega)))) | (with_reducible refine Below.drew ?_) | (with_reducible refine Below.alloc ?_ (by first | omega | (simp; done) | (simp; omega)) _) | (with_reducible refine Below.setCell ?_ (by first | omega | (simp; done) | (simp; omega)) _)))
  have s0 : w.heap.size < w0.heap.size := by rw [hw0]; simp
  clear hw0
  refine (l1New_any _ _ _ bs w0 H.out HL.out hn).mono ?_
  rintro e w1 ⟨p, rfl, hp1, hc1, hb1⟩
  have lp := hc1.lt
  have s1 := hb1.size
  have x1 := (hb1.block _ s0).trans x0
  have X1 := Lib.hid x1
  clear x0 x1
  go_wp2_with fail
  refine (l17Bent_any w1 p hc1).mono ?_
  rintro e w2 ⟨Aq, nq, cq, Q, vb, l, rfl, hq, hqs, hbo, hz, hc2, hg2⟩
  have s2 := hg2.size
  have x2 := box_call X1.out hg2 (by omega)
  have hb2 : Below w.heap.size w w2 := (b0.trans (hb1.mono (by omega))).trans (below_of_only hg2 (by omega) (by omega))
  obtain ⟨A2, c2, rfl, h1, h2⟩ := hbo.slice
  obtain ⟨m, hm⟩ : ∃ m, m = l.length := ⟨_, rfl⟩
  rw [← hm] at hbo h1
  have hrt : RdT w2 (w1.heap.size + 1) 6 A2 m l := TrQ.rdt (lo := w1.heap.size + 1) (fun b hb => hb) (hbo.tr hm.symm)
  have HRT := Lib.hid (RdT.lower (lo' := w.heap.size + 1) (by omega) hrt)
  have hm6 : m ≤ 100000 := by
    have h5 : szT 6 l = l.length + sumE l := szT_succ l
    omega
  have HZ := Lib.hid hz
  have HB2 := Lib.hid hb2
  have X2 := Lib.hid x2
  rw [← hm]
  clear hbo hrt hz hb2 x2 X1 hq hqs hg2 hc2 hm
  go_upto_region 2 with (fail)
  obtain ⟨w3, hw3⟩ : ∃ w3, w3 = w2.alloc (.cells #[.slice Aq nq cq, .slice A2 m c2] 35) := ⟨_, rfl⟩
  rw [← hw3]
  have b3 : Below w2.heap.size w2 w3 := by rw [hw3]; exact (by repeat (first | exact Below.refl _ _ | assumption | (refine Below.trans ?_ (Below.mono (by assumption) (by first | omega | (simp; done) | (simp; omega)))) | (with_reducible refine Below.drew ?_) | (with_reducible refine Below.alloc ?_ (by first | omega | (simp; done) | (simp; omega)) _) | (with_reducible refine Below.setCell ?_ (by first | omega | (simp; done) | (simp; omega)) _)))
  have s3 : w2.heap.size + 1 = w3.heap.size := by rw [hw3]; simp
  have xp : w3.heap[w2.heap.size]? = some (.cells #[.slice Aq nq cq, .slice A2 m c2] 35 (0, 0)) := by rw [hw3]; exact boxed1_0 _ _
  have x3 := (b3.block _ (lt_of_block X2.out)).trans X2.out
  have HRT := Lib.hid (HRT.out.below b3)
  have HB3 := Lib.hid (HB2.out.trans (b3.mono (by omega)))
  obtain ⟨k0, k1⟩ := cells2G (lay := Below.refl _ _) xp
  obtain ⟨q0, q1, q2, q3, q4⟩ := boxcells5 (lay := Below.refl _ _) x3
  have f0 := free_at (j := 0) x3
  have f1 := free_at (j := 1) x3
  have f2 := free_at (j := 2) x3
  have f3 := free_at (j := 3) x3
  have f4 := free_at (j := 4) x3
  have l3 := lt_of_block x3
  clear hw3 b3 xp x3 X2 HB2
  cases m with
  | zero =>
    go_wp2_with fail
    exact bodyPost_ret (v := .agg #[.int .i64 0, .string ⟨#[]⟩, .slice none 0 0, .int .i64 0, .slice none 0 0]) (by simp [results, Tryd.results19, go_sem, q0, q1, q2, q3, q4]) rfl ⟨⟨0, ⟨#[]⟩, [], 0⟩, [], none, 0, none, 0, 0, rfl, ⟨rfl, fun h => absurd h (Nat.lt_irrefl 0)⟩, ⟨rfl, fun h => absurd h (Nat.lt_irrefl 0)⟩, ⟨by decide, Nat.le_refl _⟩, (by repeat (first | exact Below.refl _ _ | assumption | (refine Below.trans ?_ (Below.mono (by assumption) (by first | omega | (simp; done) | (simp; omega)))) | (with_reducible refine Below.drew ?_) | (with_reducible refine Below.alloc ?_ (by first | omega | (simp; done) | (simp; omega)) _) | (with_reducible refine Below.setCell ?_ (by first | omega | (simp; done) | (simp; omega)) _)))⟩
  | succ m =>
    obtain ⟨b, off, s, Aa, ca, Ab, nb, cb, rfl, hbl, hls, ⟨g0, g1, g2, g3, g4⟩, hra, hrb, hca⟩ := RdT.at_c HRT.out (show m < m + 1 by omega)
    have HSZ := Lib.hid (sz_mem hls HZ.out)
    have HRA := Lib.hid hra
    have HRB := Lib.hid hrb
    have HCA := Lib.hid hca
    clear hls hra hrb hca
    go_wp2_with fail
    refine bodyPost_ret (v := .agg #[.int .i64 (hdT s).k, .string (hdT s).word, .slice Aa (hdT s).args.length ca, .int .i64 (hdT s).count, .slice Ab nb cb]) (by simp [results, Tryd.results19, go_sem, q0, q1, q2, q3, q4]) rfl ⟨hdT s, bdT s, Aa, ca, Ab, nb, cb, rfl, ?_, ?_, ⟨HSZ.out, HCA.out⟩, (by repeat (first | exact Below.refl _ _ | assumption | (refine Below.trans ?_ (Below.mono (by assumption) (by first | omega | (simp; done) | (simp; omega)))) | (with_reducible refine Below.drew ?_) | (with_reducible refine Below.alloc ?_ (by first | omega | (simp; done) | (simp; omega)) _) | (with_reducible refine Below.setCell ?_ (by first | omega | (simp; done) | (simp; omega)) _)))⟩
    · exact ((((HRA.out.set0 (by simp) _).set0 (by simp) _).set0 (by simp) _).set0 (by simp) _).set0 (by simp) _
    · exact ((((HRB.out.set0 (by simp) _).set0 (by simp) _).set0 (by simp) _).set0 (by simp) _).set0 (by simp) _
set_option maxRecDepth 100000 in
set_option maxHeartbeats 2000000 in
theorem DrawStmtTokens_any (A : Option Addr) (n c : Nat) (bs : List (Fin 256)) (w : World) (h : Rd w 1 A n (bs.flatMap bcell)) (hl : bs.length = n) (hn : n ≤ 1048576) : Calls Tryd.prog 6 #[.slice A n c] w (DrewOne w) := by
  have b0 : Below w.heap.size w (w.alloc (.cells #[.int .i64 0, .string ⟨#[]⟩, .slice none 0 0, .int .i64 0, .slice none 0 0] 27)) := (by repeat (first | exact Below.refl _ _ | assumption | (refine Below.trans ?_ (Below.mono (by assumption) (by first | omega | (simp; done) | (simp; omega)))) | (with_reducible refine Below.drew ?_) | (with_reducible refine Below.alloc ?_ (by first | omega | (simp; done) | (simp; omega)) _) | (with_reducible refine Below.setCell ?_ (by first | omega | (simp; done) | (simp; omega)) _)))
  have H := Lib.hid (h.below b0)
  have HL := Lib.hid hl
  clear h hl b0
  go_enter Tryd.func6, Tryd.ntmps6
  go_wp2_with fail
  obtain ⟨w0, hw0⟩ : ∃ w0, w0 = w.alloc (.cells #[.int .i64 0, .string ⟨#[]⟩, .slice none 0 0, .int .i64 0, .slice none 0 0] 27) := ⟨_, rfl⟩
  rw [← hw0] at H ⊢
  have x0 : w0.heap[w.heap.size]? = some (.cells #[.int .i64 0, .string ⟨#[]⟩, .slice none 0 0, .int .i64 0, .slice none 0 0] 27 (0, 0)) := by rw [hw0]; exact boxed1_0 _ _
  have b0 : Below w.heap.size w w0 := by rw [hw0]; exact (by repeat (first | exact Below.refl _ _ | assumption | (refine Below.trans ?_ (Below.mono (by assumption) (by first | omega | (simp; done) | (simp; omega)))) | (with_reducible refine Below.drew ?_) | (with_reducible refine Below.alloc ?_ (by first | omega | (simp; done) | (simp; omega)) _) | (with_reducible refine Below.setCell ?_ (by first | omega | (simp; done) | (simp; omega)) _)))
  have s0 : w.heap.size < w0.heap.size := by rw [hw0]; simp
  clear hw0
  refine (DrawIsValidStmt_any _ _ _ bs w0 H.out HL.out hn).mono ?_
  rintro e w1 ⟨hd, bd, Aa, ca, Ab, nb, cb, rfl, hra, hrb, hz, hb1⟩
  have s1 := hb1.size
  have x1 := (hb1.block _ s0).trans x0
  have HRA := Lib.hid (RdL.lower (lo' := w.heap.size + 1) hra (by omega))
  have HRB := Lib.hid (RdT.lower (lo' := w.heap.size + 1) (by omega) hrb)
  have HB3 := Lib.hid (b0.trans (hb1.mono (by omega)))
  obtain ⟨q0, q1, q2, q3, q4⟩ := boxcells5 (lay := Below.refl _ _) x1
  have f0 := free_at (j := 0) x1
  have f1 := free_at (j := 1) x1
  have f2 := free_at (j := 2) x1
  have f3 := free_at (j := 3) x1
  have f4 := free_at (j := 4) x1
  have l3 := lt_of_block x1
  clear hra hrb hb1 x0 x1 b0
  go_wp2_with fail
  refine bodyPost_ret (v := .agg #[.int .i64 hd.k, .string hd.word, .slice Aa hd.args.length ca, .int .i64 hd.count, .slice Ab nb cb]) (by simp [results, Tryd.results6, go_sem, q0, q1, q2, q3, q4]) rfl ⟨hd, bd, Aa, ca, Ab, nb, cb, rfl, ?_, ?_, hz, (by repeat (first | exact Below.refl _ _ | assumption | (refine Below.trans ?_ (Below.mono (by assumption) (by first | omega | (simp; done) | (simp; omega)))) | (with_reducible refine Below.drew ?_) | (with_reducible refine Below.alloc ?_ (by first | omega | (simp; done) | (simp; omega)) _) | (with_reducible refine Below.setCell ?_ (by first | omega | (simp; done) | (simp; omega)) _)))⟩
  · exact ((((HRA.out.set0 (by simp) _).set0 (by simp) _).set0 (by simp) _).set0 (by simp) _).set0 (by simp) _
  · exact ((((HRB.out.set0 (by simp) _).set0 (by simp) _).set0 (by simp) _).set0 (by simp) _).set0 (by simp) _
end Go.Proofs.YtbamjfbfipkioaaDoor
namespace Go.Proofs.YtbamjfbfipkioaaDoor
open Go.RowKit
set_option linter.unusedVariables false
def ltrB (x : Int) : Bool := decide (97 ≤ x ∧ x ≤ 122) || decide (48 ≤ x ∧ x ≤ 57)
theorem ltrB_1 {x : Int} (h1 : 97 ≤ x) (h2 : x ≤ 122) : ltrB x = true := by simp [ltrB, h1, h2]
theorem ltrB_2 {x : Int} (h1 : 48 ≤ x) (h2 : x ≤ 57) : ltrB x = true := by simp [ltrB, h1, h2]
theorem ltrB_f {x : Int} (h1 : x < 97 ∨ 122 < x) (h2 : x < 48 ∨ 57 < x) : ltrB x = false := by simp [ltrB]; omega
set_option maxRecDepth 100000 in
set_option maxHeartbeats 1000000 in
theorem isLetter_any (x : Int) (w : World) : Calls Tryd.prog 46 #[.int .u8 x] w fun e w' => e = .returned (.bool (ltrB x)) ∧ w = w' := by
  by_cases h1 : 97 ≤ x
  · by_cases h2 : x ≤ 122
    · rw [ltrB_1 h1 h2]
      go_enter Tryd.func46, Tryd.ntmps46
      go_wp2
      go_ret
      exact ⟨rfl, rfl⟩
    · rw [ltrB_f (by omega) (by omega)]
      have h3 : decide (x ≤ 122) = false := by simpa using h2
      have h4 : decide (x ≤ 57) = false := by simp; omega
      have h5 : (48 : Int) ≤ x := by omega
      clear h2
      go_enter Tryd.func46, Tryd.ntmps46
      go_wp2
      go_ret
      exact ⟨rfl, rfl⟩
  · have h3 : decide (97 ≤ x) = false := by simpa using h1
    by_cases h4 : 48 ≤ x
    · by_cases h5 : x ≤ 57
      · rw [ltrB_2 h4 h5]
        clear h1
        go_enter Tryd.func46, Tryd.ntmps46
        go_wp2
        go_ret
        exact ⟨rfl, rfl⟩
      · rw [ltrB_f (by omega) (by omega)]
        have h6 : decide (x ≤ 57) = false := by simpa using h5
        clear h1 h5
        go_enter Tryd.func46, Tryd.ntmps46
        go_wp2
        go_ret
        exact ⟨rfl, rfl⟩
    · rw [ltrB_f (by omega) (by omega)]
      have h6 : decide (48 ≤ x) = false := by simpa using h4
      clear h1 h4
      go_enter Tryd.func46, Tryd.ntmps46
      go_wp2
      go_ret
      exact ⟨rfl, rfl⟩
set_option maxRecDepth 100000 in
set_option maxHeartbeats 1000000 in
theorem l16Letter_any (x : Int) (w : World) : Calls Tryd.prog 61 #[.int .u8 x] w fun e w' => e = .returned (.bool (ltrB x)) ∧ w = w' := by
  by_cases h1 : 97 ≤ x
  · by_cases h2 : x ≤ 122
    · rw [ltrB_1 h1 h2]
      go_enter Tryd.func61, Tryd.ntmps61
      go_wp2
      go_ret
      exact ⟨rfl, rfl⟩
    · rw [ltrB_f (by omega) (by omega)]
      have h3 : decide (x ≤ 122) = false := by simpa using h2
      have h4 : decide (x ≤ 57) = false := by simp; omega
      have h5 : (48 : Int) ≤ x := by omega
      clear h2
      go_enter Tryd.func61, Tryd.ntmps61
      go_wp2
      go_ret
      exact ⟨rfl, rfl⟩
  · have h3 : decide (97 ≤ x) = false := by simpa using h1
    by_cases h4 : 48 ≤ x
    · by_cases h5 : x ≤ 57
      · rw [ltrB_2 h4 h5]
        clear h1
        go_enter Tryd.func61, Tryd.ntmps61
        go_wp2
        go_ret
        exact ⟨rfl, rfl⟩
      · rw [ltrB_f (by omega) (by omega)]
        have h6 : decide (x ≤ 57) = false := by simpa using h5
        clear h1 h5
        go_enter Tryd.func61, Tryd.ntmps61
        go_wp2
        go_ret
        exact ⟨rfl, rfl⟩
    · rw [ltrB_f (by omega) (by omega)]
      have h6 : decide (48 ≤ x) = false := by simpa using h4
      clear h1 h4
      go_enter Tryd.func61, Tryd.ntmps61
      go_wp2
      go_ret
      exact ⟨rfl, rfl⟩
def letsUpto (s : ByteArray) (k : Nat) : Bool := (s.data.toList.take k).all fun c => ltrB c.toNat
def wordOk (s : ByteArray) : Bool := letsUpto s s.size && inB s.size 1 8
theorem lets_step {s : ByteArray} {k : Nat} (h : k < s.size) : letsUpto s (k + 1) = (letsUpto s k && ltrB (s[k].toNat : Int)) := by
  unfold letsUpto
  rw [List.take_succ_eq_append_getElem (by simpa using h)]
  simp
  rfl
theorem lets_le {s : ByteArray} {k : Nat} (h : k ≤ s.size) (hf : letsUpto s k = false) : letsUpto s s.size = false := by
  unfold letsUpto at hf ⊢
  rw [List.all_eq_false] at hf ⊢
  obtain ⟨x, hx, hn⟩ := hf
  exact ⟨x, List.mem_of_mem_take (by rwa [List.take_take, Nat.min_eq_left h] : x ∈ List.take k (List.take s.size s.data.toList)), hn⟩
theorem wordOk_f {s : ByteArray} {k : Nat} (h : k < s.size) (hp : letsUpto s k = true) (hf : ltrB (s[k].toNat : Int) = false) : wordOk s = false := by
  have : letsUpto s (k + 1) = false := by rw [lets_step h, hf]; simp
  rw [wordOk, lets_le (by omega) this]
  rfl
theorem wordOk_e {s : ByteArray} (hp : letsUpto s s.size = true) : wordOk s = inB s.size 1 8 := by rw [wordOk, hp]; rfl
set_option maxRecDepth 100000 in
set_option maxHeartbeats 1000000 in
theorem IsValidWord_impl (s : ByteArray) (w : World) (hs : s.size ≤ 9223372036854775807) : Calls Tryd.prog 28 #[.string s] w fun e w' => e = .returned (.bool (wordOk s)) ∧ w = w' := by
  go_enter Tryd.func28, Tryd.ntmps28
  go_wp2
  go_loop [3] (fun i => ∃ k : Nat, k ≤ s.size ∧ i = .int .i64 k ∧ letsUpto s k = true) (fun i => s.size - (intOf i).toNat)
  case atStart => exact ⟨0, Nat.zero_le _, rfl, rfl⟩
  case round =>
    obtain ⟨k, hk, rfl, hp⟩ := hrel
    have HP := Lib.hid hp
    clear hp
    by_cases hlt : k < s.size
    · cases hl : ltrB (s[k].toNat : Int)
      · have HF := Lib.hid (wordOk_f hlt HP.out hl)
        go_wp2_with (go_at_call 46; refine (isLetter_any _ _).mono ?_; rintro e w' ⟨rfl, rfl⟩)
        go_ret
        exact ⟨by rw [HF.out]; rfl, rfl⟩
      · have HS := Lib.hid (show letsUpto s (k + 1) = true by rw [lets_step hlt, HP.out, hl]; rfl)
        go_wp2_with (go_at_call 46; refine (isLetter_any _ _).mono ?_; rintro e w' ⟨rfl, rfl⟩)
        go_round
        case rel => exact ⟨k + 1, by omega, by go_num, HS.out⟩
        case measure => simp [intOf]; omega
    · obtain rfl : k = s.size := by omega
      have HF := Lib.hid (wordOk_e HP.out)
      go_wp2_with (go_at_call 27; refine (in_any _ _ _ _).mono ?_; rintro e w' ⟨rfl, rfl⟩)
      go_ret
      exact ⟨by rw [HF.out]; rfl, rfl⟩
set_option maxRecDepth 100000 in
set_option maxHeartbeats 1000000 in
theorem IsValidWord_spec (s : ByteArray) (w : World) (hs : s.size ≤ 9223372036854775807) : Calls Tryd.prog 49 #[.string s] w fun e w' => e = .returned (.bool (wordOk s)) ∧ w = w' := by
  go_enter Tryd.func49, Tryd.ntmps49
  go_wp2
  go_loop [3] (fun i => ∃ k : Nat, k ≤ s.size ∧ i = .int .i64 k ∧ letsUpto s k = true) (fun i => s.size - (intOf i).toNat)
  case atStart => exact ⟨0, Nat.zero_le _, rfl, rfl⟩
  case round =>
    obtain ⟨k, hk, rfl, hp⟩ := hrel
    have HP := Lib.hid hp
    clear hp
    by_cases hlt : k < s.size
    · cases hl : ltrB (s[k].toNat : Int)
      · have HF := Lib.hid (wordOk_f hlt HP.out hl)
        go_wp2_with (go_at_call 61; refine (l16Letter_any _ _).mono ?_; rintro e w' ⟨rfl, rfl⟩)
        go_ret
        exact ⟨by rw [HF.out]; rfl, rfl⟩
      · have HS := Lib.hid (show letsUpto s (k + 1) = true by rw [lets_step hlt, HP.out, hl]; rfl)
        go_wp2_with (go_at_call 61; refine (l16Letter_any _ _).mono ?_; rintro e w' ⟨rfl, rfl⟩)
        go_round
        case rel => exact ⟨k + 1, by omega, by go_num, HS.out⟩
        case measure => simp [intOf]; omega
    · obtain rfl : k = s.size := by omega
      have HF := Lib.hid (wordOk_e HP.out)
      go_wp2_with (go_at_call 30; refine (l1In_any _ _ _ _).mono ?_; rintro e w' ⟨rfl, rfl⟩)
      go_ret
      exact ⟨by rw [HF.out]; rfl, rfl⟩
end Go.Proofs.YtbamjfbfipkioaaDoor
namespace Go.Proofs.YtbamjfbfipkioaaDoor
open Go.RowKit
set_option linter.unusedVariables false
def okCount (k count : Int) : Bool := if k = 2 then inB count 1 9 else decide (count = 0)
def headV (k : Int) (word : ByteArray) (na : Nat) (count : Int) (bl : Nat) : Bool :=
  inB k 1 7 && (decide (na = nargs k word) && (decide (k ≠ 1 ∨ nargs k word ≠ 0) && (decide (k = 1 ∨ word.toList = []) && (decide (hasB k = true ∨ bl = 0) && okCount k count))))
theorem gkind_empty {word : ByteArray} (h : word.toList = []) : gkind word = 0 := by
  unfold gkind
  rw [h]
  decide
def vRes (k : Int) (word : ByteArray) (args : List ByteArray) (count : Int) (nb : Nat) (rs : List Bool) : Bool := headV k word args.length count nb && (args.all wordOk && rs.all id)
section
variable {k : Int} {word : ByteArray} {args : List ByteArray} {count : Int} {nb : Nat} {rs : List Bool}
theorem vRes_h (h : headV k word args.length count nb = false) : vRes k word args count nb rs = false := by simp [vRes, h]
theorem vRes_w {t : Nat} {s : ByteArray} (hs : args[t]? = some s) (h : wordOk s = false) : vRes k word args count nb rs = false := by
  have : args.all wordOk = false := by
    rw [List.all_eq_false]
    exact ⟨s, List.mem_of_getElem? hs, by simp [h]⟩
  simp [vRes, this]
theorem vRes_b {t : Nat} (hs : rs[t]? = some false) : vRes k word args count nb rs = false := by
  have : rs.all id = false := by
    rw [List.all_eq_false]
    exact ⟨false, List.mem_of_getElem? hs, by simp⟩
  simp [vRes, this]
theorem vRes_t (h1 : headV k word args.length count nb = true) (h2 : args.all wordOk = true) (h3 : rs.all id = true) : vRes k word args count nb rs = true := by rw [vRes, h1, h2, h3]; rfl
end
theorem all_take {α : Type} (p : α → Bool) {l : List α} {t : Nat} {x : α} (h : l[t]? = some x) : (l.take (t + 1)).all p = ((l.take t).all p && p x) := by
  rw [List.take_add_one, h]
  simp
/-- The statements of a body, and what is answered of each. -/
def Elts (f : Nat) (w : World) (Ab : Option Addr) (nb : Nat) (rs : List Bool) : Prop := ∀ t, t < nb → ∃ (b off : Nat) (k : Int) (wd : ByteArray) (Aa : Option Addr) (na ca : Nat) (ct : Int) (Ab' : Option Addr) (nb' cb' : Nat) (r : Bool),
  Ab = some ⟨b, off, none⟩ ∧ b < w.heap.size ∧ (w.cell? ⟨b, off + t * 5, none⟩ = some (.int .i64 k) ∧ w.cell? ⟨b, off + t * 5 + 1, none⟩ = some (.string wd) ∧ w.cell? ⟨b, off + t * 5 + 2, none⟩ = some (.slice Aa na ca) ∧ w.cell? ⟨b, off + t * 5 + 3, none⟩ = some (.int .i64 ct) ∧ w.cell? ⟨b, off + t * 5 + 4, none⟩ = some (.slice Ab' nb' cb')) ∧
  rs[t]? = some r ∧ ∀ w', Below w.heap.size w w' → Calls Tryd.prog f #[.agg #[.int .i64 k, .string wd, .slice Aa na ca, .int .i64 ct, .slice Ab' nb' cb']] w' fun e w'' => e = .returned (.bool r) ∧ Below w'.heap.size w' w'' ∧ w'.heap.size ≤ w''.heap.size
def vOne (d : Nat) (vt : List (Tr d) → Bool) (h : SH) (bd : List (Tr d)) : Bool := headV h.k h.word h.args.length h.count bd.length && (h.args.all wordOk && vt bd)
/-- Are all statements of a list valid? -/
def validT : (d : Nat) → List (Tr d) → Bool
  | 0, _ => true
  | d + 1, l => l.all fun s => vOne d (validT d) (hdT s) (bdT s)
theorem vRes_one {d : Nat} {k : Int} {word : ByteArray} {args : List ByteArray} {count : Int} {bd : List (Tr d)} {rs : List Bool} (h : rs.all id = validT d bd) : vRes k word args count bd.length rs = vOne d (validT d) ⟨k, word, args, count⟩ bd := by
  simp only [vRes, vOne, h]
theorem rs_valid {d : Nat} (l : List (Tr (d + 1))) : (l.map fun s => vOne d (validT d) (hdT s) (bdT s)).all id = validT (d + 1) l := by simp [validT, List.all_map]
end Go.Proofs.YtbamjfbfipkioaaDoor
namespace Go.Proofs.YtbamjfbfipkioaaDoor
open Go.RowKit
set_option linter.unusedVariables false
def dig (x : Int) : ByteArray := ⟨#[48 + x.toNat.toUInt8]⟩
theorem small10 {x : Int} (h0 : 0 ≤ x) (h1 : x ≤ 9) : x = 0 ∨ x = 1 ∨ x = 2 ∨ x = 3 ∨ x = 4 ∨ x = 5 ∨ x = 6 ∨ x = 7 ∨ x = 8 ∨ x = 9 := by omega
theorem small4 {x : Int} (h0 : 0 ≤ x) (h1 : x ≤ 3) : x = 0 ∨ x = 1 ∨ x = 2 ∨ x = 3 := by omega
set_option maxRecDepth 100000 in
set_option maxHeartbeats 4000000 in
theorem FormatInt_impl9 (x : Int) (h0 : 0 ≤ x) (h1 : x ≤ 9) (w : World) : Calls Tryd.prog 44 #[.int .i64 x] w fun e w' => e = .returned (.string (dig x)) ∧ w = w' := by
  rcases small10 h0 h1 with rfl | rfl | rfl | rfl | rfl | rfl | rfl | rfl | rfl | rfl
  all_goals
    clear h0 h1
    go_enter Tryd.func44, Tryd.ntmps44
    go_wp2
    go_ret
    exact ⟨rfl, rfl⟩
theorem FormatInt_impl (x : Int) (h0 : 0 ≤ x) (h1 : x ≤ 3) (w : World) : Calls Tryd.prog 44 #[.int .i64 x] w fun e w' => e = .returned (.string (dig x)) ∧ w = w' := FormatInt_impl9 x h0 (by omega) w
theorem conv_one (W : World) (b : UInt8) : (convert 22 9 (.slice (some ⟨W.heap.size, 0, none⟩) 1 1)).run Tryd.prog (W.alloc (.cells #[.int .u8 (b.toNat : Int)] 5)) = .ok (.string ⟨#[b]⟩) (W.alloc (.cells #[.int .u8 (b.toNat : Int)] 5)) := by
  refine run_convert_bytes_back _ _ _ 5 ⟨W.heap.size, 0, none⟩ 1 [b] Tryd.underlying22 Tryd.underlying5 Tryd.underlying9 (fun j hj => ?_)
  obtain rfl : j = 0 := by simpa using hj
  exact World.cell?_alloc_mark W _ _ _ 0
set_option maxRecDepth 100000 in
set_option maxHeartbeats 2000000 in
theorem FormatInt_spec_0 (w : World) : Calls Tryd.prog 22 #[.int .i64 0] w fun e w' => e = .returned (.string (dig 0)) ∧ Below w.heap.size w w' ∧ w.heap.size ≤ w'.heap.size := by
  go_enter Tryd.func22, Tryd.ntmps22
  go_wp2
  go_ret
  exact ⟨rfl, (by repeat (first | exact Below.refl _ _ | assumption | (refine Below.trans ?_ (Below.mono (by assumption) (by first | omega | (simp; done) | (simp; omega)))) | (with_reducible refine Below.drew ?_) | (with_reducible refine Below.alloc ?_ (by first | omega | (simp; done) | (simp; omega)) _) | (with_reducible refine Below.setCell ?_ (by first | omega | (simp; done) | (simp; omega)) _))), (by first | omega | (simp; done) | (simp; omega))⟩
set_option maxRecDepth 100000 in
set_option maxHeartbeats 2000000 in
theorem FormatInt_spec_1 (w : World) : Calls Tryd.prog 22 #[.int .i64 1] w fun e w' => e = .returned (.string (dig 1)) ∧ Below w.heap.size w w' ∧ w.heap.size ≤ w'.heap.size := by
  have kc : ∀ W : World, (convert 22 9 (.slice (some ⟨W.heap.size, 0, none⟩) 1 1)).run Tryd.prog (W.alloc (.cells #[.int .u8 49] 5)) = .ok (.string ⟨#[49]⟩) (W.alloc (.cells #[.int .u8 49] 5)) := fun W => conv_one W 49
  go_enter Tryd.func22, Tryd.ntmps22
  go_wp2
  refine wp_loop_rounds 2 ?_
  rw [rounds_succ]
  go_wp2
  rw [rounds_succ]
  go_wp2
  go_ret
  exact ⟨rfl, (by repeat (first | exact Below.refl _ _ | assumption | (refine Below.trans ?_ (Below.mono (by assumption) (by first | omega | (simp; done) | (simp; omega)))) | (with_reducible refine Below.drew ?_) | (with_reducible refine Below.alloc ?_ (by first | omega | (simp; done) | (simp; omega)) _) | (with_reducible refine Below.setCell ?_ (by first | omega | (simp; done) | (simp; omega)) _))), (by first | omega | (simp; done) | (simp; omega))⟩
set_option maxRecDepth 100000 in
set_option maxHeartbeats 2000000 in
theorem FormatInt_spec_2 (w : World) : Calls Tryd.prog 22 #[.int .i64 2] w fun e w' => e = .returned (.string (dig 2)) ∧ Below w.heap.size w w' ∧ w.heap.size ≤ w'.heap.size := by
  have kc : ∀ W : World, (convert 22 9 (.slice (some ⟨W.heap.size, 0, none⟩) 1 1)).run Tryd.prog (W.alloc (.cells #[.int .u8 50] 5)) = .ok (.string ⟨#[50]⟩) (W.alloc (.cells #[.int .u8 50] 5)) := fun W => conv_one W 50
  go_enter Tryd.func22, Tryd.ntmps22
  go_wp2
  refine wp_loop_rounds 2 ?_
  rw [rounds_succ]
  go_wp2
  rw [rounds_succ]
  go_wp2
  go_ret
  exact ⟨rfl, (by repeat (first | exact Below.refl _ _ | assumption | (refine Below.trans ?_ (Below.mono (by assumption) (by first | omega | (simp; done) | (simp; omega)))) | (with_reducible refine Below.drew ?_) | (with_reducible refine Below.alloc ?_ (by first | omega | (simp; done) | (simp; omega)) _) | (with_reducible refine Below.setCell ?_ (by first | omega | (simp; done) | (simp; omega)) _))), (by first | omega | (simp; done) | (simp; omega))⟩
set_option maxRecDepth 100000 in
set_option maxHeartbeats 2000000 in
theorem FormatInt_spec_3 (w : World) : Calls Tryd.prog 22 #[.int .i64 3] w fun e w' => e = .returned (.string (dig 3)) ∧ Below w.heap.size w w' ∧ w.heap.size ≤ w'.heap.size := by
  have kc : ∀ W : World, (convert 22 9 (.slice (some ⟨W.heap.size, 0, none⟩) 1 1)).run Tryd.prog (W.alloc (.cells #[.int .u8 51] 5)) = .ok (.string ⟨#[51]⟩) (W.alloc (.cells #[.int .u8 51] 5)) := fun W => conv_one W 51
  go_enter Tryd.func22, Tryd.ntmps22
  go_wp2
  refine wp_loop_rounds 2 ?_
  rw [rounds_succ]
  go_wp2
  rw [rounds_succ]
  go_wp2
  go_ret
  exact ⟨rfl, (by repeat (first | exact Below.refl _ _ | assumption | (refine Below.trans ?_ (Below.mono (by assumption) (by first | omega | (simp; done) | (simp; omega)))) | (with_reducible refine Below.drew ?_) | (with_reducible refine Below.alloc ?_ (by first | omega | (simp; done) | (simp; omega)) _) | (with_reducible refine Below.setCell ?_ (by first | omega | (simp; done) | (simp; omega)) _))), (by first | omega | (simp; done) | (simp; omega))⟩
set_option maxRecDepth 100000 in
set_option maxHeartbeats 2000000 in
theorem FormatInt_spec_4 (w : World) : Calls Tryd.prog 22 #[.int .i64 4] w fun e w' => e = .returned (.string (dig 4)) ∧ Below w.heap.size w w' ∧ w.heap.size ≤ w'.heap.size := by
  have kc : ∀ W : World, (convert 22 9 (.slice (some ⟨W.heap.size, 0, none⟩) 1 1)).run Tryd.prog (W.alloc (.cells #[.int .u8 52] 5)) = .ok (.string ⟨#[52]⟩) (W.alloc (.cells #[.int .u8 52] 5)) := fun W => conv_one W 52
  go_enter Tryd.func22, Tryd.ntmps22
  go_wp2
  refine wp_loop_rounds 2 ?_
  rw [rounds_succ]
  go_wp2
  rw [rounds_succ]
  go_wp2
  go_ret
  exact ⟨rfl, (by repeat (first | exact Below.refl _ _ | assumption | (refine Below.trans ?_ (Below.mono (by assumption) (by first | omega | (simp; done) | (simp; omega)))) | (with_reducible refine Below.drew ?_) | (with_reducible refine Below.alloc ?_ (by first | omega | (simp; done) | (simp; omega)) _) | (with_reducible refine Below.setCell ?_ (by first | omega | (simp; done) | (simp; omega)) _))), (by first | omega | (simp; done) | (simp; omega))⟩
set_option maxRecDepth 100000 in
set_option maxHeartbeats 2000000 in
theorem FormatInt_spec_5 (w : World) : Calls Tryd.prog 22 #[.int .i64 5] w fun e w' => e = .returned (.string (dig 5)) ∧ Below w.heap.size w w' ∧ w.heap.size ≤ w'.heap.size := by
  have kc : ∀ W : World, (convert 22 9 (.slice (some ⟨W.heap.size, 0, none⟩) 1 1)).run Tryd.prog (W.alloc (.cells #[.int .u8 53] 5)) = .ok (.string ⟨#[53]⟩) (W.alloc (.cells #[.int .u8 53] 5)) := fun W => conv_one W 53
  go_enter Tryd.func22, Tryd.ntmps22
  go_wp2
  refine wp_loop_rounds 2 ?_
  rw [rounds_succ]
  go_wp2
  rw [rounds_succ]
  go_wp2
  go_ret
  exact ⟨rfl, (by repeat (first | exact Below.refl _ _ | assumption | (refine Below.trans ?_ (Below.mono (by assumption) (by first | omega | (simp; done) | (simp; omega)))) | (with_reducible refine Below.drew ?_) | (with_reducible refine Below.alloc ?_ (by first | omega | (simp; done) | (simp; omega)) _) | (with_reducible refine Below.setCell ?_ (by first | omega | (simp; done) | (simp; omega)) _))), (by first | omega | (simp; done) | (simp; omega))⟩
set_option maxRecDepth 100000 in
set_option maxHeartbeats 2000000 in
theorem FormatInt_spec_6 (w : World) : Calls Tryd.prog 22 #[.int .i64 6] w fun e w' => e = .returned (.string (dig 6)) ∧ Below w.heap.size w w' ∧ w.heap.size ≤ w'.heap.size := by
  have kc : ∀ W : World, (convert 22 9 (.slice (some ⟨W.heap.size, 0, none⟩) 1 1)).run Tryd.prog (W.alloc (.cells #[.int .u8 54] 5)) = .ok (.string ⟨#[54]⟩) (W.alloc (.cells #[.int .u8 54] 5)) := fun W => conv_one W 54
  go_enter Tryd.func22, Tryd.ntmps22
  go_wp2
  refine wp_loop_rounds 2 ?_
  rw [rounds_succ]
  go_wp2
  rw [rounds_succ]
  go_wp2
  go_ret
  exact ⟨rfl, (by repeat (first | exact Below.refl _ _ | assumption | (refine Below.trans ?_ (Below.mono (by assumption) (by first | omega | (simp; done) | (simp; omega)))) | (with_reducible refine Below.drew ?_) | (with_reducible refine Below.alloc ?_ (by first | omega | (simp; done) | (simp; omega)) _) | (with_reducible refine Below.setCell ?_ (by first | omega | (simp; done) | (simp; omega)) _))), (by first | omega | (simp; done) | (simp; omega))⟩
set_option maxRecDepth 100000 in
set_option maxHeartbeats 2000000 in
theorem FormatInt_spec_7 (w : World) : Calls Tryd.prog 22 #[.int .i64 7] w fun e w' => e = .returned (.string (dig 7)) ∧ Below w.heap.size w w' ∧ w.heap.size ≤ w'.heap.size := by
  have kc : ∀ W : World, (convert 22 9 (.slice (some ⟨W.heap.size, 0, none⟩) 1 1)).run Tryd.prog (W.alloc (.cells #[.int .u8 55] 5)) = .ok (.string ⟨#[55]⟩) (W.alloc (.cells #[.int .u8 55] 5)) := fun W => conv_one W 55
  go_enter Tryd.func22, Tryd.ntmps22
  go_wp2
  refine wp_loop_rounds 2 ?_
  rw [rounds_succ]
  go_wp2
  rw [rounds_succ]
  go_wp2
  go_ret
  exact ⟨rfl, (by repeat (first | exact Below.refl _ _ | assumption | (refine Below.trans ?_ (Below.mono (by assumption) (by first | omega | (simp; done) | (simp; omega)))) | (with_reducible refine Below.drew ?_) | (with_reducible refine Below.alloc ?_ (by first | omega | (simp; done) | (simp; omega)) _) | (with_reducible refine Below.setCell ?_ (by first | omega | (simp; done) | (simp; omega)) _))), (by first | omega | (simp; done) | (simp; omega))⟩
set_option maxRecDepth 100000 in
set_option maxHeartbeats 2000000 in
theorem FormatInt_spec_8 (w : World) : Calls Tryd.prog 22 #[.int .i64 8] w fun e w' => e = .returned (.string (dig 8)) ∧ Below w.heap.size w w' ∧ w.heap.size ≤ w'.heap.size := by
  have kc : ∀ W : World, (convert 22 9 (.slice (some ⟨W.heap.size, 0, none⟩) 1 1)).run Tryd.prog (W.alloc (.cells #[.int .u8 56] 5)) = .ok (.string ⟨#[56]⟩) (W.alloc (.cells #[.int .u8 56] 5)) := fun W => conv_one W 56
  go_enter Tryd.func22, Tryd.ntmps22
  go_wp2
  refine wp_loop_rounds 2 ?_
  rw [rounds_succ]
  go_wp2
  rw [rounds_succ]
  go_wp2
  go_ret
  exact ⟨rfl, (by repeat (first | exact Below.refl _ _ | assumption | (refine Below.trans ?_ (Below.mono (by assumption) (by first | omega | (simp; done) | (simp; omega)))) | (with_reducible refine Below.drew ?_) | (with_reducible refine Below.alloc ?_ (by first | omega | (simp; done) | (simp; omega)) _) | (with_reducible refine Below.setCell ?_ (by first | omega | (simp; done) | (simp; omega)) _))), (by first | omega | (simp; done) | (simp; omega))⟩
set_option maxRecDepth 100000 in
set_option maxHeartbeats 2000000 in
theorem FormatInt_spec_9 (w : World) : Calls Tryd.prog 22 #[.int .i64 9] w fun e w' => e = .returned (.string (dig 9)) ∧ Below w.heap.size w w' ∧ w.heap.size ≤ w'.heap.size := by
  have kc : ∀ W : World, (convert 22 9 (.slice (some ⟨W.heap.size, 0, none⟩) 1 1)).run Tryd.prog (W.alloc (.cells #[.int .u8 57] 5)) = .ok (.string ⟨#[57]⟩) (W.alloc (.cells #[.int .u8 57] 5)) := fun W => conv_one W 57
  go_enter Tryd.func22, Tryd.ntmps22
  go_wp2
  refine wp_loop_rounds 2 ?_
  rw [rounds_succ]
  go_wp2
  rw [rounds_succ]
  go_wp2
  go_ret
  exact ⟨rfl, (by repeat (first | exact Below.refl _ _ | assumption | (refine Below.trans ?_ (Below.mono (by assumption) (by first | omega | (simp; done) | (simp; omega)))) | (with_reducible refine Below.drew ?_) | (with_reducible refine Below.alloc ?_ (by first | omega | (simp; done) | (simp; omega)) _) | (with_reducible refine Below.setCell ?_ (by first | omega | (simp; done) | (simp; omega)) _))), (by first | omega | (simp; done) | (simp; omega))⟩
theorem FormatInt_spec9 (x : Int) (h0 : 0 ≤ x) (h1 : x ≤ 9) (w : World) : Calls Tryd.prog 22 #[.int .i64 x] w fun e w' => e = .returned (.string (dig x)) ∧ Below w.heap.size w w' ∧ w.heap.size ≤ w'.heap.size := by
  rcases small10 h0 h1 with rfl | rfl | rfl | rfl | rfl | rfl | rfl | rfl | rfl | rfl
  · exact FormatInt_spec_0 w
  · exact FormatInt_spec_1 w
  · exact FormatInt_spec_2 w
  · exact FormatInt_spec_3 w
  · exact FormatInt_spec_4 w
  · exact FormatInt_spec_5 w
  · exact FormatInt_spec_6 w
  · exact FormatInt_spec_7 w
  · exact FormatInt_spec_8 w
  · exact FormatInt_spec_9 w
theorem FormatInt_spec (x : Int) (h0 : 0 ≤ x) (h1 : x ≤ 3) (w : World) : Calls Tryd.prog 22 #[.int .i64 x] w fun e w' => e = .returned (.string (dig x)) ∧ Below w.heap.size w w' ∧ w.heap.size ≤ w'.heap.size := FormatInt_spec9 x h0 (by omega) w
end Go.Proofs.YtbamjfbfipkioaaDoor
