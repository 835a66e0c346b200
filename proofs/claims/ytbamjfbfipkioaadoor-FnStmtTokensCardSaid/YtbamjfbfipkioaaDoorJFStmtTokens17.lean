/- What the calls that this law reaches answer, part 17 of 20. -/
import Derived.Test.YtbamjfbfipkioaaDoorJFStmtTokens15
import Derived.Test.YtbamjfbfipkioaaDoorJFStmtTokens14
namespace Go.Proofs.YtbamjfbfipkioaaDoor
open Go.RowKit
set_option linter.unusedVariables false
theorem toksT_succ {d : Nat} (l : List (Tr (d + 1))) : toksT (d + 1) l = (l.map fun s => toks1 (hdT s) (toksT d (bdT s))).flatten := List.flatMap_def
theorem toks1_len (h : SH) (b : List Tk) : (toks1 h b).length ≤ 4 + h.args.length + b.length := by
  unfold toks1
  split <;> split <;> simp <;> omega
theorem toksT_len : ∀ (d : Nat) (l : List (Tr d)), (toksT d l).length ≤ 4 * szT d l := by
  intro d
  induction d with
  | zero => intro l; exact Nat.zero_le _
  | succ d ih =>
    intro l
    rw [toksT_succ, szT_succ]
    unfold sumE
    induction l with
    | nil => simp
    | cons s l ih2 =>
      have h1 := ih (bdT s)
      have h3 := toks1_len (hdT s) (toksT d (bdT s))
      simp only [List.map_cons, List.flatten_cons, List.length_append, List.sum_cons, List.length_cons]
      have h2 : (toks1 (hdT s) (toksT d (bdT s))).length ≤ 4 + 4 * szE s := by
        unfold szE
        omega
      omega
theorem validT_mem {d : Nat} {l : List (Tr (d + 1))} {t : Nat} {s : Tr (d + 1)} (h : validT (d + 1) l = true) (hs : l[t]? = some s) : vOne d (validT d) (hdT s) (bdT s) = true := List.all_eq_true.1 h s (List.mem_of_getElem? hs)
theorem vOne_facts {d : Nat} {k : Int} {word : ByteArray} {args : List ByteArray} {count : Int} {bd : List (Tr d)} (h : vOne d (validT d) ⟨k, word, args, count⟩ bd = true) : (1 ≤ k ∧ k ≤ 7) ∧ (k = 2 → 1 ≤ count ∧ count ≤ 9) ∧ validT d bd = true := by
  unfold vOne headV at h
  simp only [Bool.and_eq_true] at h
  obtain ⟨⟨h1, _, _, _, _, h2⟩, _, h3⟩ := h
  refine ⟨inB_iff.1 h1, fun hk => ?_, h3⟩
  unfold okCount at h2
  rw [if_pos hk] at h2
  exact inB_iff.1 h2
theorem toks_impl_k (k : Int) (hk : 1 ≤ k ∧ k ≤ 7) (word : ByteArray) (args : List ByteArray) (count : Int) (Aa : Option Addr) (m ca : Nat) (Ab : Option Addr) (nb cb : Nat) (w : World) (rs : List (List Tk)) (hm : args.length = m) (hra : Rd w 1 Aa m (strs args)) (hl : m ≤ 1048576) (hn : nb ≤ 1048576) (hrs : rs.length = nb) (hel : EltsT 20 w Ab nb rs) (hR : rs.flatten.length ≤ 1099511627776) (hc : k = 2 → 1 ≤ count ∧ count ≤ 9) :
    Calls Tryd.prog 20 #[.agg #[.int .i64 k, .string word, .slice Aa m ca, .int .i64 count, .slice Ab nb cb]] w (RetTk w (toks1 ⟨k, word, args, count⟩ rs.flatten)) := by
  have h : k = 1 ∨ k = 2 ∨ k = 3 ∨ k = 4 ∨ k = 5 ∨ k = 6 ∨ k = 7 := by omega
  rcases h with rfl | rfl | rfl | rfl | rfl | rfl | rfl
  · exact toks_impl_1 word args count Aa m ca Ab nb cb w rs hm hra hl hn hrs hel hR
  · exact toks_impl_2 word args count Aa m ca Ab nb cb w rs hm hra hl hn hrs hel hR (hc rfl).1 (hc rfl).2
  · exact toks_impl_3 word args count Aa m ca Ab nb cb w rs hm hra hl hn hrs hel hR
  · exact toks_impl_4 word args count Aa m ca Ab nb cb w rs hm hra hl hn hrs hel hR
  · exact toks_impl_5 word args count Aa m ca Ab nb cb w rs hm hra hl hn hrs hel hR
  · exact toks_impl_6 word args count Aa m ca Ab nb cb w rs hm hra hl hn hrs hel hR
  · exact toks_impl_7 word args count Aa m ca Ab nb cb w rs hm hra hl hn hrs hel hR
def TkSaidI (d : Nat) : Prop := ∀ (lo : Nat) (k : Int) (word : ByteArray) (args : List ByteArray) (count : Int) (bd : List (Tr d)) (Aa : Option Addr) (ca : Nat) (Ab : Option Addr) (nb cb : Nat) (w : World), RdL w lo 1 Aa args.length (strs args) → RdT w lo d Ab nb bd → args.length ≤ 1048576 → szT d bd ≤ 1048576 → vOne d (validT d) ⟨k, word, args, count⟩ bd = true →
  Calls Tryd.prog 20 #[.agg #[.int .i64 k, .string word, .slice Aa args.length ca, .int .i64 count, .slice Ab nb cb]] w (RetTk w (toks1 ⟨k, word, args, count⟩ (toksT d bd)))
theorem tokensOf_impl : ∀ (d : Nat), TkSaidI d := by
  intro d
  induction d with
  | zero =>
    intro lo k word args count bd Aa ca Ab nb cb w hra hrb hl hsz hv
    obtain rfl := szT_zero_len hrb
    obtain rfl : bd = [] := List.eq_nil_of_length_eq_zero hrb.len
    obtain ⟨h1, h2, _⟩ := vOne_facts hv
    exact toks_impl_k k h1 word args count Aa _ ca Ab 0 cb w [] rfl hra.rd hl (by omega) rfl (fun t ht => absurd ht (by omega)) (by simp) h2
  | succ d ih =>
    intro lo k word args count bd Aa ca Ab nb cb w hra hrb hl hsz hv
    have hlen := hrb.len
    subst hlen
    have hn : bd.length ≤ 1048576 := by rw [szT_succ] at hsz; omega
    obtain ⟨h1, h2, h3⟩ := vOne_facts hv
    have htl := toksT_len (d + 1) bd
    rw [toksT_succ] at htl ⊢
    refine toks_impl_k k h1 word args count Aa _ ca Ab bd.length cb w _ rfl hra.rd hl hn (by simp) (fun t ht => ?_) (by omega) h2
    obtain ⟨b, off, s, Aa', ca', Ab', nb', cb', rfl, hbl, hs, ⟨c0, c1, c2, c3, c4⟩, g2, g3⟩ := hrb.at_ ht
    refine ⟨b, off, (hdT s).k, (hdT s).word, Aa', (hdT s).args.length, ca', (hdT s).count, Ab', nb', cb', _, rfl, hbl, ⟨c0, c1, c2, c3, c4⟩, by rw [List.getElem?_map, hs]; rfl, fun w' hw' => ?_⟩
    have hme := szT_mem hs
    have hq := hsz
    rw [szT_succ] at hq
    unfold szE at hme
    exact ih lo _ _ _ _ (bdT s) _ _ _ _ _ _ (g2.below hw') (g3.below hw') (by omega) (by omega) (validT_mem h3 hs)
end Go.Proofs.YtbamjfbfipkioaaDoor
