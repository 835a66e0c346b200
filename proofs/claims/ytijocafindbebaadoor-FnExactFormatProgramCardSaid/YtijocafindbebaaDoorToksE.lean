/- StmtTokens on both sides: the tokens of a valid statement, none of another. -/
import Derived.Test.YtijocafindbebaaDoorToksS
import Derived.Test.YtijocafindbebaaDoorToksD
import Derived.Test.YtijocafindbebaaDoorVstD
namespace Go.Proofs.YtijocafindbebaaDoor
open Go.RowKit
set_option linter.unusedVariables false
/-- The tokens that StmtTokens answers. -/
def stToks (V : Bool) (L : List Tk) : List Tk := if V then L else []
theorem stToks_t (L : List Tk) : stToks true L = L := rfl
theorem stToks_f (L : List Tk) : stToks false L = [] := rfl
theorem stToks_len (V : Bool) (L : List Tk) : (stToks V L).length ≤ L.length := by cases V <;> simp [stToks]
set_option maxRecDepth 100000 in
set_option maxHeartbeats 1000000 in
theorem toks_spec_no (k : Int) (word : ByteArray) (count : Int) (Aa : Option Addr) (m ca : Nat) (Ab : Option Addr) (nb cb : Nat) (w : World)
    (hval : ∀ w', Below w.heap.size w w' → Calls Tryd.prog 13 #[.agg #[.int .i64 k, .string word, .slice Aa m ca, .int .i64 count, .slice Ab nb cb]] w' fun e w'' => e = .returned (.bool false) ∧ Below w'.heap.size w' w'' ∧ w'.heap.size ≤ w''.heap.size) :
    Calls Tryd.prog 22 #[.agg #[.int .i64 k, .string word, .slice Aa m ca, .int .i64 count, .slice Ab nb cb]] w (RetTk w []) := by
  have HV := Lib.hid hval
  clear hval
  go_enter Tryd.func22, Tryd.ntmps22
  go_wp2_with fail
  refine (HV.out _ (by repeat (first | exact Below.refl _ _ | assumption | (refine Below.trans ?_ (Below.mono (by assumption) (by first | omega | (simp; done) | (simp; omega)))) | (with_reducible refine Below.drew ?_) | (with_reducible refine Below.alloc ?_ (by first | omega | (simp; done) | (simp; omega)) _) | (with_reducible refine Below.setCell ?_ (by first | omega | (simp; done) | (simp; omega)) _)))).mono ?_
  rintro e w1 ⟨rfl, b1, s1⟩
  have hb1 : Below w.heap.size w w1 := ((Below.refl _ _).alloc (Nat.le_refl _) _).trans (b1.mono (by simp))
  have hs1 := hb1.size
  clear b1 s1
  go_wp2_with fail
  go_ret
  exact ⟨_, rfl, own_low (own_empty w1 _ 2) hs1, (by repeat (first | exact Below.refl _ _ | assumption | (refine Below.trans ?_ (Below.mono (by assumption) (by first | omega | (simp; done) | (simp; omega)))) | (with_reducible refine Below.drew ?_) | (with_reducible refine Below.alloc ?_ (by first | omega | (simp; done) | (simp; omega)) _) | (with_reducible refine Below.setCell ?_ (by first | omega | (simp; done) | (simp; omega)) _))), (by first | omega | (simp; done) | (simp; omega))⟩
def TkSaidS (d : Nat) : Prop := ∀ (lo : Nat) (k : Int) (word : ByteArray) (args : List ByteArray) (count : Int) (bd : List (Tr d)) (Aa : Option Addr) (ca : Nat) (Ab : Option Addr) (nb cb : Nat) (w : World), RdL w lo 1 Aa args.length (strs args) → RdT w lo d Ab nb bd → szS args ≤ 1048576 → args.length ≤ 1048576 → szT d bd ≤ 1048576 → vOne d (validT d) ⟨k, word, args, count⟩ bd = true →
  Calls Tryd.prog 22 #[.agg #[.int .i64 k, .string word, .slice Aa args.length ca, .int .i64 count, .slice Ab nb cb]] w (RetTk w (toks1 ⟨k, word, args, count⟩ (toksT d bd)))
theorem toks_spec_k (k : Int) (hk : 1 ≤ k ∧ k ≤ 7) (word : ByteArray) (args : List ByteArray) (count : Int) (Aa : Option Addr) (m ca : Nat) (Ab : Option Addr) (nb cb : Nat) (w : World) (rs : List (List Tk)) (hm : args.length = m) (hra : Rd w 1 Aa m (strs args)) (hl : m ≤ 1048576) (hn : nb ≤ 1048576) (hrs : rs.length = nb) (hel : EltsT 22 w Ab nb rs) (hR : rs.flatten.length ≤ 1099511627776) (hc : k = 2 → 1 ≤ count ∧ count ≤ 9)
    (hval : ∀ w', Below w.heap.size w w' → Calls Tryd.prog 13 #[.agg #[.int .i64 k, .string word, .slice Aa m ca, .int .i64 count, .slice Ab nb cb]] w' fun e w'' => e = .returned (.bool true) ∧ Below w'.heap.size w' w'' ∧ w'.heap.size ≤ w''.heap.size) :
    Calls Tryd.prog 22 #[.agg #[.int .i64 k, .string word, .slice Aa m ca, .int .i64 count, .slice Ab nb cb]] w (RetTk w (toks1 ⟨k, word, args, count⟩ rs.flatten)) := by
  have h : k = 1 ∨ k = 2 ∨ k = 3 ∨ k = 4 ∨ k = 5 ∨ k = 6 ∨ k = 7 := by omega
  rcases h with rfl | rfl | rfl | rfl | rfl | rfl | rfl
  · exact toks_spec_1 word args count Aa m ca Ab nb cb w rs hm hra hl hn hrs hel hR hval
  · exact toks_spec_2 word args count Aa m ca Ab nb cb w rs hm hra hl hn hrs hel hR (hc rfl).1 (hc rfl).2 hval
  · exact toks_spec_3 word args count Aa m ca Ab nb cb w rs hm hra hl hn hrs hel hR hval
  · exact toks_spec_4 word args count Aa m ca Ab nb cb w rs hm hra hl hn hrs hel hR hval
  · exact toks_spec_5 word args count Aa m ca Ab nb cb w rs hm hra hl hn hrs hel hR hval
  · exact toks_spec_6 word args count Aa m ca Ab nb cb w rs hm hra hl hn hrs hel hR hval
  · exact toks_spec_7 word args count Aa m ca Ab nb cb w rs hm hra hl hn hrs hel hR hval
theorem StmtTokens_spec_v : ∀ (d : Nat), TkSaidS d := by
  intro d
  induction d with
  | zero =>
    intro lo k word args count bd Aa ca Ab nb cb w hra hrb hz hl hsz hv
    obtain rfl := szT_zero_len hrb
    obtain rfl : bd = [] := List.eq_nil_of_length_eq_zero hrb.len
    obtain ⟨h1, h2, _⟩ := vOne_facts hv
    exact toks_spec_k k h1 word args count Aa _ ca Ab 0 cb w [] rfl hra.rd hl (by omega) rfl (fun t ht => absurd ht (by omega)) (by simp) h2 (fun w' hw' => by
      have := IsValidStmt_spec 0 lo k word args count [] Aa ca Ab 0 cb w' (hra.below hw') (hrb.below hw') hz hl hsz
      rwa [hv] at this)
  | succ d ih =>
    intro lo k word args count bd Aa ca Ab nb cb w hra hrb hz hl hsz hv
    have hlen := hrb.len
    subst hlen
    have hn : bd.length ≤ 1048576 := by rw [szT_succ] at hsz; omega
    obtain ⟨h1, h2, h3⟩ := vOne_facts hv
    have htl := toksT_len (d + 1) bd
    rw [toksT_succ] at htl ⊢
    refine toks_spec_k k h1 word args count Aa _ ca Ab bd.length cb w _ rfl hra.rd hl hn (by simp) (fun t ht => ?_) (by omega) h2 (fun w' hw' => by
      have := IsValidStmt_spec (d + 1) lo k word args count bd Aa ca Ab bd.length cb w' (hra.below hw') (hrb.below hw') hz hl hsz
      rwa [hv] at this)
    obtain ⟨b, off, s, Aa', ca', Ab', nb', cb', rfl, hbl, hs, ⟨c0, c1, c2, c3, c4⟩, g2, g3⟩ := hrb.at_ ht
    refine ⟨b, off, (hdT s).k, (hdT s).word, Aa', (hdT s).args.length, ca', (hdT s).count, Ab', nb', cb', _, rfl, hbl, ⟨c0, c1, c2, c3, c4⟩, by rw [List.getElem?_map, hs]; rfl, fun w' hw' => ?_⟩
    have hme := szT_mem hs
    have hq := hsz
    rw [szT_succ] at hq
    unfold szE at hme
    exact ih lo _ _ _ _ (bdT s) _ _ _ _ _ _ (g2.below hw') (g3.below hw') (by omega) (by omega) (by omega) (validT_mem h3 hs)
theorem StmtTokens_spec (d lo : Nat) (k : Int) (word : ByteArray) (args : List ByteArray) (count : Int) (bd : List (Tr d)) (Aa : Option Addr) (ca : Nat) (Ab : Option Addr) (nb cb : Nat) (w : World) (hra : RdL w lo 1 Aa args.length (strs args)) (hrb : RdT w lo d Ab nb bd) (hz : szS args ≤ 1048576) (hl : args.length ≤ 1048576) (hsz : szT d bd ≤ 1048576) :
    Calls Tryd.prog 22 #[.agg #[.int .i64 k, .string word, .slice Aa args.length ca, .int .i64 count, .slice Ab nb cb]] w (RetTk w (stToks (vOne d (validT d) ⟨k, word, args, count⟩ bd) (toks1 ⟨k, word, args, count⟩ (toksT d bd)))) := by
  cases hv : vOne d (validT d) ⟨k, word, args, count⟩ bd
  · rw [stToks_f]
    exact toks_spec_no k word count Aa _ ca Ab nb cb w (fun w' hw' => by
      have := IsValidStmt_spec d lo k word args count bd Aa ca Ab nb cb w' (hra.below hw') (hrb.below hw') hz hl hsz
      rwa [hv] at this)
  · rw [stToks_t]
    exact StmtTokens_spec_v d lo k word args count bd Aa ca Ab nb cb w hra hrb hz hl hsz hv
set_option maxRecDepth 100000 in
set_option maxHeartbeats 1000000 in
theorem StmtTokens_impl (d lo : Nat) (k : Int) (word : ByteArray) (args : List ByteArray) (count : Int) (bd : List (Tr d)) (Aa : Option Addr) (ca : Nat) (Ab : Option Addr) (nb cb : Nat) (w : World) (hra : RdL w lo 1 Aa args.length (strs args)) (hrb : RdT w lo d Ab nb bd) (hG : GN w) (hz : szS args ≤ 1048576) (hl : args.length ≤ 1048576) (hsz : szT d bd ≤ 1048576) :
    Calls Tryd.prog 23 #[.agg #[.int .i64 k, .string word, .slice Aa args.length ca, .int .i64 count, .slice Ab nb cb]] w (RetTk w (stToks (vOne d (validT d) ⟨k, word, args, count⟩ bd) (toks1 ⟨k, word, args, count⟩ (toksT d bd)))) := by
  obtain ⟨w0, hw0⟩ : ∃ w0, w0 = w.alloc (.cells #[.int .i64 k, .string word, .slice Aa args.length ca, .int .i64 count, .slice Ab nb cb] 30) := ⟨_, rfl⟩
  have X0 := Lib.hid (show w0.heap[w.heap.size]? = some (.cells #[.int .i64 k, .string word, .slice Aa args.length ca, .int .i64 count, .slice Ab nb cb] 30 (0, 0)) by rw [hw0]; exact boxed1_0 _ _)
  have b0 : Below w.heap.size w w0 := by rw [hw0]; exact (by repeat (first | exact Below.refl _ _ | assumption | (refine Below.trans ?_ (Below.mono (by assumption) (by first | omega | (simp; done) | (simp; omega)))) | (with_reducible refine Below.drew ?_) | (with_reducible refine Below.alloc ?_ (by first | omega | (simp; done) | (simp; omega)) _) | (with_reducible refine Below.setCell ?_ (by first | omega | (simp; done) | (simp; omega)) _)))
  have s0 : w.heap.size ≤ w0.heap.size := b0.size
  have z0 : w.heap.size < w0.heap.size := by rw [hw0]; simp
  have HW := Lib.hid hw0
  have HI := Lib.hid (IsValidStmt_impl d lo k word args count bd Aa ca Ab nb cb w0 (hra.below b0) (hrb.below b0) (hG.below b0) hz hl hsz)
  have HT := Lib.hid (fun w' (hw' : Below w.heap.size w w') hv => tokensOf_impl d lo k word args count bd Aa ca Ab nb cb w' (hra.below hw') (hrb.below hw') hl hsz hv)
  obtain ⟨V, hV⟩ : ∃ V, V = vOne d (validT d) ⟨k, word, args, count⟩ bd := ⟨_, rfl⟩
  obtain ⟨L, hL⟩ : ∃ L, L = toks1 ⟨k, word, args, count⟩ (toksT d bd) := ⟨_, rfl⟩
  have HT2 : Hid (∀ w', Below w.heap.size w w' → V = true → Calls Tryd.prog 66 #[.agg #[.int .i64 k, .string word, .slice Aa args.length ca, .int .i64 count, .slice Ab nb cb]] w' (RetTk w' L)) := by
    rw [hV, hL]
    exact HT.out
  rw [← hV] at HI ⊢
  rw [← hL]
  have B0 := Lib.hid b0
  clear hw0 b0 hra hrb hG hL HT hV
  obtain ⟨m, hm⟩ : ∃ m, m = args.length := ⟨_, rfl⟩
  rw [← hm] at HI HT2 X0 HW hl ⊢
  clear hm
  cases V
  · rw [stToks_f]
    go_enter Tryd.func23, Tryd.ntmps23
    go_wp2_with fail
    rw [← HW.out]
    refine HI.out.mono ?_
    rintro e w1 ⟨rfl, b1, s1⟩
    go_wp2_with fail
    go_ret
    exact ⟨_, rfl, World.ownsRow_nil _ _ _ _, B0.out.trans (b1.mono s0), by omega⟩
  · rw [stToks_t]
    go_enter Tryd.func23, Tryd.ntmps23
    go_wp2_with fail
    rw [← HW.out]
    refine HI.out.mono ?_
    rintro e w1 ⟨rfl, b1, s1⟩
    obtain ⟨p0, p1, p2, p3, p4⟩ := boxcells5 (lay := b1) X0.out
    have zl1 : w.heap.size < w1.heap.size := by omega
    have hb1 := B0.out.trans (b1.mono s0)
    have HB1 := Lib.hid hb1
    have hs1 := hb1.size
    clear hb1 b1
    go_wp2_with fail
    refine (HT2.out _ HB1.out (by first | rfl | trivial)).mono ?_
    rintro e w2 ⟨v2, rfl, o2, b2, s2⟩
    have O2 := Lib.hid o2
    have B2 := Lib.hid b2
    clear o2 b2
    go_wp2_with fail
    go_ret
    exact ⟨_, rfl, own_low O2.out hs1, HB1.out.trans (B2.out.mono hs1), by omega⟩
end Go.Proofs.YtijocafindbebaaDoor
