/- What the calls that this law reaches answer, part 14 of 20. -/
import Derived.Test.YtbamjfbfipkioaaDoorJFStmtTokens13
import Derived.Test.YtbamjfbfipkioaaDoorJFStmtTokens1
import Derived.Test.YtbamjfbfipkioaaDoorProg
import Derived.Laws.IdiomStrings
import Derived.Test.YtbamjfbfipkioaaDoorJFStmtTokens2
import Derived.Test.YtbamjfbfipkioaaDoorJFStmtTokens6
namespace Go.Proofs.YtbamjfbfipkioaaDoor
open Go.RowKit
set_option linter.unusedVariables false
/-- A token as plain data. -/
structure Tk where
  k : Int
  s : ByteArray
def tkc (t : Tk) : List Value := [.int .i64 t.k, .string t.s]
def tkcs (l : List Tk) : List Value := l.flatMap tkc
theorem tkc_len (t : Tk) : (tkc t).length = 2 := rfl
theorem tkcs_len (l : List Tk) : (tkcs l).length = l.length * 2 := by
  induction l with
  | nil => rfl
  | cons x l ih => rw [tkcs, List.flatMap_cons, List.length_append, tkc_len, ← tkcs, ih, List.length_cons]; omega
theorem tkcs_append (l l' : List Tk) : tkcs (l ++ l') = tkcs l ++ tkcs l' := List.flatMap_append
theorem tkcs_one (t : Tk) : tkcs [t] = [.int .i64 t.k, .string t.s] := rfl
theorem tkc_ones (l : List Tk) : ∀ u ∈ tkcs l, u.oneCell' = true := by
  intro u hu
  obtain ⟨t, _, ht⟩ := List.mem_flatMap.1 hu
  simp only [tkc, List.mem_cons, List.not_mem_nil, or_false] at ht
  rcases ht with rfl | rfl <;> rfl
def wTk (s : ByteArray) : Tk := ⟨1, s⟩
def pTk (k : Int) : Tk := ⟨k, ⟨#[]⟩⟩
def heads : List ByteArray := [⟨#[]⟩, ⟨#[]⟩, ⟨#[114, 101, 112, 101, 97, 116]⟩, ⟨#[97, 100, 106, 111, 105, 110, 116]⟩, ⟨#[99, 111, 110, 116, 114, 111, 108]⟩, ⟨#[97, 110, 99, 105, 108, 108, 97]⟩, ⟨#[109, 101, 97, 115, 117, 114, 101]⟩, ⟨#[105, 102]⟩]
def headW (k : Int) (word : ByteArray) : ByteArray := if k = 1 then word else heads.getD k.toNat ⟨#[]⟩
/-- The tokens of one statement, those of its body given. -/
def toks1 (h : SH) (body : List Tk) : List Tk :=
  [wTk (headW h.k h.word)] ++ (if h.k = 2 then [wTk (dig h.count)] else []) ++ h.args.map wTk ++ (if h.k = 1 ∨ h.k = 6 then [pTk 2] else [pTk 3] ++ body ++ [pTk 4])
/-- The tokens of a list of statements. -/
def toksT : (d : Nat) → List (Tr d) → List Tk
  | 0, _ => []
  | d + 1, l => l.flatMap fun s => toks1 (hdT s) (toksT d (bdT s))
theorem info_TkE : (Tryd.prog.info? 42).map (fun i => (i.zero, i.size, i.bytes)) = some (some (.agg #[.int .i64 0, .string ⟨#[]⟩]), 2, 24) := by kernel_rfl
set_option maxRecDepth 100000 in
theorem word_any (s : ByteArray) (w : World) : Calls Tryd.prog 43 #[.string s] w fun e w' => e = .returned (.agg #[.int .i64 1, .string s]) ∧ Below w.heap.size w w' ∧ w.heap.size ≤ w'.heap.size := by
  go_enter Tryd.func43, Tryd.ntmps43
  go_wp2
  exact bodyPost_ret (v := .agg #[.int .i64 1, .string s]) (by simp [results, Tryd.results43, go_sem]) rfl ⟨rfl, (by repeat (first | exact Below.refl _ _ | assumption | (refine Below.trans ?_ (Below.mono (by assumption) (by first | omega | (simp; done) | (simp; omega)))) | (with_reducible refine Below.drew ?_) | (with_reducible refine Below.alloc ?_ (by first | omega | (simp; done) | (simp; omega)) _) | (with_reducible refine Below.setCell ?_ (by first | omega | (simp; done) | (simp; omega)) _))), (by first | omega | (simp; done) | (simp; omega))⟩
set_option maxRecDepth 100000 in
theorem l19Word_any (s : ByteArray) (w : World) : Calls Tryd.prog 21 #[.string s] w fun e w' => e = .returned (.agg #[.int .i64 1, .string s]) ∧ Below w.heap.size w w' ∧ w.heap.size ≤ w'.heap.size := by
  go_enter Tryd.func21, Tryd.ntmps21
  go_wp2
  exact bodyPost_ret (v := .agg #[.int .i64 1, .string s]) (by simp [results, Tryd.results21, go_sem]) rfl ⟨rfl, (by repeat (first | exact Below.refl _ _ | assumption | (refine Below.trans ?_ (Below.mono (by assumption) (by first | omega | (simp; done) | (simp; omega)))) | (with_reducible refine Below.drew ?_) | (with_reducible refine Below.alloc ?_ (by first | omega | (simp; done) | (simp; omega)) _) | (with_reducible refine Below.setCell ?_ (by first | omega | (simp; done) | (simp; omega)) _))), (by first | omega | (simp; done) | (simp; omega))⟩
end Go.Proofs.YtbamjfbfipkioaaDoor
namespace Go.Proofs.YtbamjfbfipkioaaDoor
open Go.RowKit
set_option linter.unusedVariables false
theorem rd_lit2 {w : World} {cs : Array Value} {e n size b : Nat} (h0 : b = w.heap.size) (hs : cs.size = n * size) : Rd (w.alloc (.cells cs e)) size (some ⟨b, 0, none⟩) n cs.toList := by
  subst h0
  refine ⟨by simpa using hs, fun _ => ⟨_, 0, rfl, by simp, fun j u hu => ?_⟩⟩
  have h := heap_alloc_new w (.cells cs e)
  have hc : cs[j]? = some u := by rw [← Array.getElem?_toList]; exact hu
  rw [Nat.zero_add]
  exact cell_at h hc
theorem own_low {w : World} {B B' e size n : Nat} {v : Value} {xs : List Value} (h : w.ownsRow B e size v n xs) (hB : B' ≤ B) : w.ownsRow B' e size v n xs := by
  refine ⟨h.1, ?_⟩
  rcases h.2 with h2 | ⟨g, cap, cur, h1, h2, h3⟩
  · exact .inl h2
  · exact .inr ⟨g, cap, cur, h1, Nat.le_trans hB h2, h3⟩
/-- A call that hands back these tokens in new memory. -/
def RetTk (w : World) (L : List Tk) : Ending → World → Prop := RetRow 42 2 w L.length (tkcs L)
theorem retTk_of {w w' : World} {L : List Tk} {v : Value} {n : Nat} {xs : List Value} (he : xs = tkcs L) (ho : w'.ownsRow w.heap.size 42 2 v n xs) (hb : Below w.heap.size w w') (hs : w.heap.size ≤ w'.heap.size) : RetTk w L (.returned v) w' := by
  subst he
  have hn : L.length = n := by have := ho.1; rw [tkcs_len] at this; omega
  exact ⟨v, rfl, by rw [hn]; exact ho, hb, hs⟩
/-- The statements of a body, and the tokens of each. -/
def EltsT (f : Nat) (w : World) (Ab : Option Addr) (nb : Nat) (rs : List (List Tk)) : Prop := ∀ t, t < nb → ∃ (b off : Nat) (k : Int) (wd : ByteArray) (Aa : Option Addr) (na ca : Nat) (ct : Int) (Ab' : Option Addr) (nb' cb' : Nat) (r : List Tk),
  Ab = some ⟨b, off, none⟩ ∧ b < w.heap.size ∧ (w.cell? ⟨b, off + t * 5, none⟩ = some (.int .i64 k) ∧ w.cell? ⟨b, off + t * 5 + 1, none⟩ = some (.string wd) ∧ w.cell? ⟨b, off + t * 5 + 2, none⟩ = some (.slice Aa na ca) ∧ w.cell? ⟨b, off + t * 5 + 3, none⟩ = some (.int .i64 ct) ∧ w.cell? ⟨b, off + t * 5 + 4, none⟩ = some (.slice Ab' nb' cb')) ∧
  rs[t]? = some r ∧ ∀ w', Below w.heap.size w w' → Calls Tryd.prog f #[.agg #[.int .i64 k, .string wd, .slice Aa na ca, .int .i64 ct, .slice Ab' nb' cb']] w' (RetTk w' r)
theorem map_step {α : Type} {f : ByteArray → α} {l : List ByteArray} {t : Nat} {s : ByteArray} (h : l[t]? = some s) : (l.take (t + 1)).map f = (l.take t).map f ++ [f s] := by
  rw [List.take_add_one, h]
  simp
set_option maxRecDepth 100000 in
set_option maxHeartbeats 1000000 in
theorem l19Words_any (A : Option Addr) (n c : Nat) (l : List ByteArray) (w : World) (h : Rd w 1 A n (strs l)) (hl : l.length = n) (hn : n ≤ 1048576) :
    Calls Tryd.prog 23 #[.slice A n c] w (RetRow 42 2 w n (tkcs (l.map wTk))) := by
  obtain ⟨i0, hi, hz0, hz1, hz2⟩ := info_parts info_TkE
  have H := Lib.hid h
  have HL := Lib.hid hl
  clear h hl
  go_enter Tryd.func23, Tryd.ntmps23
  go_wp2
  go_loopw [3, 4] (fun v i wr => ∃ t : Nat, t ≤ n ∧ i = .int .i64 t ∧ wr.ownsRow w.heap.size 42 2 v t (tkcs ((l.take t).map wTk)) ∧ Below w.heap.size w wr) (fun _ i _ => n - (intOf i).toNat)
  case atStart => exact ⟨0, Nat.zero_le _, rfl, own_empty w _ 2, (by repeat (first | exact Below.refl _ _ | assumption | (refine Below.trans ?_ (Below.mono (by assumption) (by first | omega | (simp; done) | (simp; omega)))) | (with_reducible refine Below.drew ?_) | (with_reducible refine Below.alloc ?_ (by first | omega | (simp; done) | (simp; omega)) _) | (with_reducible refine Below.setCell ?_ (by first | omega | (simp; done) | (simp; omega)) _)))⟩
  case round =>
    obtain ⟨t, ht, rfl, hown, hb⟩ := hrel
    have hbs := hb.size
    by_cases hlt : t < n
    · obtain ⟨s, hs⟩ : ∃ s, l[t]? = some s := ⟨_, List.getElem?_eq_getElem (by have := HL.out; omega)⟩
      obtain ⟨b, off, rfl, hbl, hc⟩ := H.out.2 (by omega)
      have q0 : wr.cell? ⟨b, off + t, none⟩ = some (.string s) := (hb.cell (by exact hbl)).trans (hc t _ (strs_at hs))
      have HS := Lib.hid (map_step (f := wTk) hs)
      obtain ⟨L, hL⟩ : ∃ L, L = (l.take t).map wTk := ⟨_, rfl⟩
      rw [← hL] at hown HS
      clear hc hs hL
      go_wp2_with fail
      refine (l19Word_any s _).mono ?_
      rintro e w1 ⟨rfl, b1, s1⟩
      have hown1 := ownsRow_below hown b1
      have hb1 := hb.trans (b1.mono hbs)
      have hb1s := hb1.size
      clear hown
      go_wp2_with (at_builtin; refine wpList_append_rd _ rfl _ _ 29 rfl w.heap.size 42 i0 _ 2 24 Tryd.underlying29 hi hz0 hz1 hz2 rfl (by decide) _ _ _ rfl (hown1.alloc _) _ 1 1 _ rfl (rd_lit2 ?c0 rfl) ?c2 ?c3 ?c4 ?c5 ?_)
      case c0 => first | rfl | simp
      case c2 => repeat' (first | rfl | apply And.intro)
      case c3 => simp only [maxLen]; omega
      case c4 => omega
      case c5 => simp; omega
      intro v3 w3 own3 gr3 _
      have b3 := (hb1.alloc hb1s _).grown gr3 (by simp; omega) (own_ge hown1)
      clear hown1 gr3
      go_wp2_with fail
      go_roundw
      case rel =>
        refine ⟨t + 1, by omega, by go_num, ?_, b3⟩
        rw [HS.out, tkcs_append]
        exact own3
      case measure => simp [intOf]; omega
    · obtain rfl : t = n := by omega
      go_wp2_with fail
      go_ret
      exact ⟨_, rfl, by rw [List.take_of_length_le (by rw [HL.out]; exact Nat.le_refl _)] at hown; exact hown, hb, hb.size⟩
end Go.Proofs.YtbamjfbfipkioaaDoor
namespace Go.Proofs.YtbamjfbfipkioaaDoor
open Go.RowKit
set_option linter.unusedVariables false
def mdig : Nat → Nat → ByteArray → ByteArray
  | 0, _, acc => acc
  | f + 1, k, acc => if k = 0 then acc else mdig f (k / 10) (⟨#[(48 + k % 10).toUInt8]⟩ ++ acc)
theorem mdig_zero (f : Nat) (acc : ByteArray) : mdig f 0 acc = acc := by cases f <;> simp [mdig]
theorem mdig_step {f k : Nat} (acc : ByteArray) (h : 0 < k) : mdig (f + 1) k acc = mdig f (k / 10) (⟨#[(48 + k % 10).toUInt8]⟩ ++ acc) := by rw [mdig, if_neg (by omega)]
def mtx (k : Int) : ByteArray := ⟨#[109]⟩ ++ mdig 20 k.toNat ⟨#[]⟩
theorem pow_div {f k : Nat} (h : k < 10 ^ (f + 1)) : k / 10 < 10 ^ f := by rw [Nat.pow_succ] at h; omega
theorem pow_zero_lt {f k : Nat} (h : k < 10 ^ f) (h0 : 0 < k) : ∃ f', f = f' + 1 := by
  cases f with
  | zero => simp at h; omega
  | succ f => exact ⟨f, rfl⟩
theorem u8_of (k : Nat) : (((48 + k % 10).toUInt8).toNat : Int) = 48 + (k : Int) % 10 := by
  have : (48 + k % 10).toUInt8.toNat = (48 + k % 10) % 256 := by simp [Nat.toUInt8]
  omega
theorem conv1 (W : World) (b : UInt8) : (convert 22 9 (.slice (some ⟨W.heap.size, 0, none⟩) 1 1)).run Tryd.prog (W.alloc (.cells #[.int .u8 (b.toNat : Int)] 5)) = .ok (.string ⟨#[b]⟩) (W.alloc (.cells #[.int .u8 (b.toNat : Int)] 5)) := by
  refine run_convert_bytes_back _ _ _ 5 ⟨W.heap.size, 0, none⟩ 1 [b] Tryd.underlying22 Tryd.underlying5 Tryd.underlying9 (fun j hj => ?_)
  obtain rfl : j = 0 := by simpa using hj
  exact World.cell?_alloc_mark W _ _ _ 0
end Go.Proofs.YtbamjfbfipkioaaDoor
namespace Go.Proofs.YtbamjfbfipkioaaDoor
open Go.RowKit
set_option linter.unusedVariables false
theorem tkcs_at {l : List Tk} {t : Nat} {x : Tk} (h : l[t]? = some x) : (tkcs l)[t * 2]? = some (.int .i64 x.k) ∧ (tkcs l)[t * 2 + 1]? = some (.string x.s) :=
  ⟨flat_at tkc_len l t x 0 h (by decide), flat_at tkc_len l t x 1 h (by decide)⟩
theorem rd_tk {w : World} {A : Option Addr} {n t : Nat} {l : List Tk} {x : Tk} (h : Rd w 2 A n (tkcs l)) (hl : l.length = n) (hx : l[t]? = some x) : ∃ b off, A = some ⟨b, off, none⟩ ∧ b < w.heap.size ∧ w.cell? ⟨b, off + t * 2, none⟩ = some (.int .i64 x.k) ∧ w.cell? ⟨b, off + t * 2 + 1, none⟩ = some (.string x.s) := by
  have hlt := (List.getElem?_eq_some_iff.1 hx).1
  obtain ⟨b, off, e, hb, hc⟩ := h.2 (by omega)
  exact ⟨b, off, e, hb, hc _ _ (tkcs_at hx).1, hc _ _ (tkcs_at hx).2⟩
/-- The marks of m tokens from k on. -/
def mkTk (k : Int) (m : Nat) : List Value := (List.range m).flatMap fun i : Nat => [.int .i64 (k + 2 * i), .string (mtx (k + 2 * i + 1))]
theorem mkTk_succ (k : Int) (m : Nat) : mkTk k (m + 1) = mkTk k m ++ [.int .i64 (k + 2 * m), .string (mtx (k + 2 * m + 1))] := by simp [mkTk, List.range_succ]
theorem mkTk_len (k : Int) (m : Nat) : (mkTk k m).length = m * 2 := by
  induction m with
  | zero => rfl
  | succ m ih => rw [mkTk_succ, List.length_append, ih]; simp; omega
theorem mkTk_at (k : Int) {m t : Nat} (h : t < m) : (mkTk k m)[t * 2]? = some (.int .i64 (k + 2 * t)) ∧ (mkTk k m)[t * 2 + 1]? = some (.string (mtx (k + 2 * t + 1))) := by
  have hr : (List.range m)[t]? = some t := by simp [h]
  exact ⟨flat_at (f := fun i : Nat => [.int .i64 (k + 2 * (i : Int)), .string (mtx (k + 2 * (i : Int) + 1))]) (k := 2) (fun _ => rfl) _ t t 0 hr (by decide), flat_at (f := fun i : Nat => [.int .i64 (k + 2 * (i : Int)), .string (mtx (k + 2 * (i : Int) + 1))]) (k := 2) (fun _ => rfl) _ t t 1 hr (by decide)⟩
theorem below_undrew3 {w w' : World} (h : Below w.drew.heap.size w.drew w') : Below w.heap.size w w' := ⟨h.os, h.tape, h.output, h.size, h.block⟩
end Go.Proofs.YtbamjfbfipkioaaDoor
namespace Go.Proofs.YtbamjfbfipkioaaDoor
open Go.RowKit
set_option linter.unusedVariables false
theorem below_drewN5 {B : Nat} {w w' : World} (h : Below B w w') (k : Nat) : Below B w (w'.drewN k) := ⟨h.os, h.tape, h.output, h.size, h.block⟩
set_option maxRecDepth 100000 in
set_option maxHeartbeats 1000000 in
theorem sameTokens_same (A A' : Option Addr) (n c c' : Nat) (l : List Tk) (w : World) (hl : l.length = n) (hn : n ≤ 1099511627776) (h1 : Rd w 2 A n (tkcs l)) (h2 : Rd w 2 A' n (tkcs l)) :
    Calls Tryd.prog 8 #[.slice A n c, .slice A' n c'] w fun e w' => e = .returned (.bool true) ∧ Below w.heap.size w w' ∧ w.heap.size ≤ w'.heap.size := by
  have H1 := Lib.hid h1
  have H2 := Lib.hid h2
  have HL := Lib.hid hl
  clear h1 h2 hl
  go_enter Tryd.func8, Tryd.ntmps8
  go_wp2_with fail
  go_loopw [5] (fun i wr => ∃ k : Nat, k ≤ n ∧ i = .int .i64 k ∧ Below w.heap.size w wr) (fun i _ => n - (intOf i).toNat)
  case atStart => exact ⟨0, Nat.zero_le _, rfl, Below.refl _ _⟩
  case round =>
    obtain ⟨k, hk, rfl, hb⟩ := hrel
    by_cases hlt : k < n
    · obtain ⟨x, hx⟩ : ∃ x, l[k]? = some x := ⟨_, List.getElem?_eq_getElem (by rw [HL.out]; exact hlt)⟩
      obtain ⟨b, off, rfl, hbl, q0, q1⟩ := rd_tk (H1.out.below hb) HL.out hx
      obtain ⟨b', off', rfl, hbl', r0, r1⟩ := rd_tk (H2.out.below hb) HL.out hx
      clear hx
      go_wp2_with fail
      go_quiet (fail)
      go_wp2_with fail
      go_roundw
      case rel => exact ⟨k + 1, by omega, by go_num, below_drewN5 hb _⟩
      case measure => simp [intOf]; omega
    · go_wp2_with fail
      go_ret
      exact ⟨rfl, hb, hb.size⟩
end Go.Proofs.YtbamjfbfipkioaaDoor
namespace Go.Proofs.YtbamjfbfipkioaaDoor
open Go.RowKit
set_option linter.unusedVariables false
theorem hasB_two {k : Int} (h : hasB k = false) : (k == 2) = false := by
  unfold hasB at h
  cases h2 : (k == 2)
  · rfl
  · rw [h2] at h
    exact absurd h (by simp)
def tokT : (d : Nat) → List (Tr d) → Nat
  | 0, _ => 0
  | d + 1, l => (l.map fun (s : Tr (d + 1)) => (if (hdT s).k == 2 then 3 else 2) + (hdT s).args.length + (if hasB (hdT s).k then 1 + tokT d (bdT s) else 0)).sum
def tokE {d : Nat} (s : Tr (d + 1)) : Nat := (if (hdT s).k == 2 then 3 else 2) + (hdT s).args.length + (if hasB (hdT s).k then 1 + tokT d (bdT s) else 0)
theorem tokT_succ {d : Nat} (l : List (Tr (d + 1))) : tokT (d + 1) l = (l.map tokE).sum := rfl
theorem tokE_a {d : Nat} {s : Tr (d + 1)} (hk : hasB (hdT s).k = false) (hq : ((hdT s).k == 2) = false) : tokE s = 2 + (hdT s).args.length := by
  simp only [tokE, hk, hq]; simp
theorem tokE_b {d : Nat} {s : Tr (d + 1)} (hk : hasB (hdT s).k = true) (hq : ((hdT s).k == 2) = false) : tokE s = 2 + (hdT s).args.length + (1 + tokT d (bdT s)) := by
  simp only [tokE, hk, hq]; simp
theorem tokE_c {d : Nat} {s : Tr (d + 1)} (hk : hasB (hdT s).k = true) (hq : ((hdT s).k == 2) = true) : tokE s = 3 + (hdT s).args.length + (1 + tokT d (bdT s)) := by
  simp only [tokE, hk, hq]; simp
theorem tokT_le : ∀ (d : Nat) (l : List (Tr d)), tokT d l ≤ 4 * szT d l := by
  intro d
  induction d with
  | zero => intro l; exact Nat.zero_le _
  | succ d ih =>
    intro l
    rw [tokT_succ, szT_succ]
    unfold sumE
    induction l with
    | nil => simp
    | cons s l ih2 =>
      have h1 := ih (bdT s)
      simp only [List.map_cons, List.sum_cons, List.length_cons]
      have h2 : tokE s ≤ 4 + 4 * szE s := by
        unfold tokE szE
        split <;> split <;> omega
      omega
theorem tok_take_le {d : Nat} (l : List (Tr (d + 1))) (t : Nat) : tokT (d + 1) (l.take t) ≤ 4 * szT (d + 1) l := by
  refine Nat.le_trans (tokT_le _ _) ?_
  rw [szT_succ, szT_succ]
  have := sumE_take_le l t
  have := List.length_take_le' t l
  omega
theorem tok_take {d : Nat} (l : List (Tr (d + 1))) (t : Nat) (s : Tr (d + 1)) (h : l[t]? = some s) : tokT (d + 1) (l.take (t + 1)) = tokT (d + 1) (l.take t) + tokE s := by
  rw [List.take_add_one, h, tokT_succ, tokT_succ]
  simp
def TokSaid_impl (d : Nat) : Prop := ∀ (lo : Nat) (A : Option Addr) (n c : Nat) (l : List (Tr d)) (w : World), RdT w lo d A n l → szT d l ≤ 1048576 →
  Calls Tryd.prog 55 #[.slice A n c] w fun e w' => e = .returned (.int .i64 (tokT d l)) ∧ Below w.heap.size w w' ∧ w.heap.size ≤ w'.heap.size
set_option maxRecDepth 100000 in
set_option maxHeartbeats 2000000 in
theorem StmtTokenCount_impl : ∀ (d : Nat), TokSaid_impl d := by
  intro d
  induction d with
  | zero =>
    intro lo A n c l w h _
    obtain rfl := szT_zero_len h
    go_enter Tryd.func55, Tryd.ntmps55
    go_wp2
    refine wp_loop_rounds 1 ?_
    rw [rounds_succ]
    go_wp2
    go_ret
    exact ⟨rfl, Below.refl _ _, Nat.le_refl _⟩
  | succ d ih =>
    intro lo A n c l w h hsz
    have hln := h.len
    have hn : n ≤ 1048576 := by rw [szT_succ] at hsz; omega
    have HQ := Lib.hid hsz
    have HL := Lib.hid hln
    have H := Lib.hid h
    clear h hln hsz
    go_enter Tryd.func55, Tryd.ntmps55
    go_wp2
    go_loopw [3, 8] (fun m i wr => ∃ t : Nat, t ≤ n ∧ i = .int .i64 t ∧ m = .int .i64 (tokT (d + 1) (l.take t)) ∧ Below w.heap.size w wr) (fun _ i _ => n - (intOf i).toNat)
    case atStart => exact ⟨0, Nat.zero_le _, rfl, rfl, Below.refl _ _⟩
    case round =>
      obtain ⟨t, ht, rfl, rfl, hb⟩ := hrel
      have hN : tokT (d + 1) (l.take t) ≤ 4194304 := Nat.le_trans (tok_take_le l t) (by have := HQ.out; omega)
      obtain ⟨N, hNN⟩ : ∃ N, N = tokT (d + 1) (l.take t) := ⟨_, rfl⟩
      rw [← hNN] at hN ⊢
      have HN := Lib.hid hNN
      clear hNN
      have hbs := hb.size
      by_cases hlt : t < n
      · obtain ⟨b, off, s, Aa, ca, Ab, nb, cb, rfl, hbl, hs, hcs, hra, hrb⟩ := (H.out.below hb).at_ hlt
        obtain ⟨q0, q1, q2, q3, q4⟩ := hcs
        have hme := szT_mem hs
        have hz2 : szT d (bdT s) ≤ 1048576 := by have := HQ.out; rw [szT_succ] at this; unfold szE at hme; omega
        have hz3 : (hdT s).args.length ≤ 1048576 := by have := HQ.out; rw [szT_succ] at this; unfold szE at hme; omega
        have hnb := tokT_le d (bdT s)
        have HT := Lib.hid (tok_take l t s hs)
        have HB := Lib.hid (hrb.below (w' := wr.alloc (.cells #[.int .i64 (hdT s).k, .string (hdT s).word, .slice Aa (hdT s).args.length ca, .int .i64 (hdT s).count, .slice Ab nb cb] 27)) (by repeat (first | exact Below.refl _ _ | assumption | (refine Below.trans ?_ (Below.mono (by assumption) (by first | omega | (simp; done) | (simp; omega)))) | (with_reducible refine Below.drew ?_) | (with_reducible refine Below.alloc ?_ (by first | omega | (simp; done) | (simp; omega)) _) | (with_reducible refine Below.setCell ?_ (by first | omega | (simp; done) | (simp; omega)) _))))
        clear hs hra hrb hme
        obtain ⟨M, hM⟩ : ∃ M, M = tokT d (bdT s) := ⟨_, rfl⟩
        rw [← hM] at hnb
        have HM := Lib.hid hM
        clear hM
        cases hk : hasB (hdT s).k
        · have hq : ((hdT s).k == 2) = false := hasB_two hk
          have HT2 : Hid (tokT (d + 1) (l.take (t + 1)) = N + (2 + (hdT s).args.length)) := by
            have h := HT.out
            rw [← HN.out, tokE_a hk hq] at h
            exact h
          go_wp2_with (go_at_call 26; refine (hasBody_any _ _).mono ?_; rintro e w' ⟨rfl, rfl⟩)
          go_roundw
          case rel => exact ⟨t + 1, by omega, by go_num, by rw [HT2.out]; congr 1; omega, (hb.alloc hb.size _)⟩
          case measure => simp [intOf]; omega
        · cases hq : ((hdT s).k == 2)
          · have HT2 : Hid (tokT (d + 1) (l.take (t + 1)) = N + (2 + (hdT s).args.length + (1 + M))) := by
              have h := HT.out
              rw [← HN.out, tokE_b hk hq] at h
              rw [HM.out]
              exact h
            go_wp2_with (first | (go_at_call 26; refine (hasBody_any _ _).mono ?_; rintro e w' ⟨rfl, rfl⟩) | (go_at_call 55; refine (ih lo _ _ _ (bdT s) _ HB.out hz2).mono ?_; rintro e w1 ⟨rfl, b1, s1⟩; rw [← HM.out]))
            go_roundw
            case rel => exact ⟨t + 1, by omega, by go_num, by rw [HT2.out]; congr 1; omega, (hb.alloc hb.size _).trans (b1.mono (by simp; omega))⟩
            case measure => simp [intOf]; omega
          · have HT2 : Hid (tokT (d + 1) (l.take (t + 1)) = N + (3 + (hdT s).args.length + (1 + M))) := by
              have h := HT.out
              rw [← HN.out, tokE_c hk hq] at h
              rw [HM.out]
              exact h
            go_wp2_with (first | (go_at_call 26; refine (hasBody_any _ _).mono ?_; rintro e w' ⟨rfl, rfl⟩) | (go_at_call 55; refine (ih lo _ _ _ (bdT s) _ HB.out hz2).mono ?_; rintro e w1 ⟨rfl, b1, s1⟩; rw [← HM.out]))
            go_roundw
            case rel => exact ⟨t + 1, by omega, by go_num, by rw [HT2.out]; congr 1; omega, (hb.alloc hb.size _).trans (b1.mono (by simp; omega))⟩
            case measure => simp [intOf]; omega
      · obtain rfl : t = n := by omega
        have HF : Hid (N = tokT (d + 1) l) := by
          have h := HN.out
          rw [List.take_of_length_le (by rw [HL.out]; exact Nat.le_refl _)] at h
          exact h
        go_wp2
        go_ret
        exact ⟨by rw [← HF.out]; rfl, hb, hb.size⟩
def TokSaid_spec (d : Nat) : Prop := ∀ (lo : Nat) (A : Option Addr) (n c : Nat) (l : List (Tr d)) (w : World), RdT w lo d A n l → szT d l ≤ 1048576 →
  Calls Tryd.prog 12 #[.slice A n c] w fun e w' => e = .returned (.int .i64 (tokT d l)) ∧ Below w.heap.size w w' ∧ w.heap.size ≤ w'.heap.size
set_option maxRecDepth 100000 in
set_option maxHeartbeats 2000000 in
theorem StmtTokenCount_spec : ∀ (d : Nat), TokSaid_spec d := by
  intro d
  induction d with
  | zero =>
    intro lo A n c l w h _
    obtain rfl := szT_zero_len h
    go_enter Tryd.func12, Tryd.ntmps12
    go_wp2
    refine wp_loop_rounds 1 ?_
    rw [rounds_succ]
    go_wp2
    go_ret
    exact ⟨rfl, Below.refl _ _, Nat.le_refl _⟩
  | succ d ih =>
    intro lo A n c l w h hsz
    have hln := h.len
    have hn : n ≤ 1048576 := by rw [szT_succ] at hsz; omega
    have HQ := Lib.hid hsz
    have HL := Lib.hid hln
    have H := Lib.hid h
    clear h hln hsz
    go_enter Tryd.func12, Tryd.ntmps12
    go_wp2
    go_loopw [3, 4] (fun m i wr => ∃ t : Nat, t ≤ n ∧ i = .int .i64 t ∧ m = .int .i64 (tokT (d + 1) (l.take t)) ∧ Below w.heap.size w wr) (fun _ i _ => n - (intOf i).toNat)
    case atStart => exact ⟨0, Nat.zero_le _, rfl, rfl, Below.refl _ _⟩
    case round =>
      obtain ⟨t, ht, rfl, rfl, hb⟩ := hrel
      have hN : tokT (d + 1) (l.take t) ≤ 4194304 := Nat.le_trans (tok_take_le l t) (by have := HQ.out; omega)
      obtain ⟨N, hNN⟩ : ∃ N, N = tokT (d + 1) (l.take t) := ⟨_, rfl⟩
      rw [← hNN] at hN ⊢
      have HN := Lib.hid hNN
      clear hNN
      have hbs := hb.size
      by_cases hlt : t < n
      · obtain ⟨b, off, s, Aa, ca, Ab, nb, cb, rfl, hbl, hs, hcs, hra, hrb⟩ := (H.out.below hb).at_ hlt
        obtain ⟨q0, q1, q2, q3, q4⟩ := hcs
        have hme := szT_mem hs
        have hz2 : szT d (bdT s) ≤ 1048576 := by have := HQ.out; rw [szT_succ] at this; unfold szE at hme; omega
        have hz3 : (hdT s).args.length ≤ 1048576 := by have := HQ.out; rw [szT_succ] at this; unfold szE at hme; omega
        have hnb := tokT_le d (bdT s)
        have HT := Lib.hid (tok_take l t s hs)
        have HB := Lib.hid hrb
        clear hs hra hrb hme
        obtain ⟨M, hM⟩ : ∃ M, M = tokT d (bdT s) := ⟨_, rfl⟩
        rw [← hM] at hnb
        have HM := Lib.hid hM
        clear hM
        cases hk : hasB (hdT s).k
        · have hq : ((hdT s).k == 2) = false := hasB_two hk
          have HT2 : Hid (tokT (d + 1) (l.take (t + 1)) = N + (2 + (hdT s).args.length)) := by
            have h := HT.out
            rw [← HN.out, tokE_a hk hq] at h
            exact h
          go_wp2_with fail
          refine (l17Args_any _ _ _ _ _ _ ⟨_, _, _, rfl⟩ ⟨_, _, _, rfl⟩).mono ?_
          rintro e w1 ⟨rfl, b1, s1⟩
          rw [hk]
          have r0 := (b1.cell (p := ⟨b, off + t * 5, none⟩) hbl).trans q0
          have r2 := (b1.cell (p := ⟨b, off + t * 5 + 2, none⟩) hbl).trans q2
          have r4 := (b1.cell (p := ⟨b, off + t * 5 + 4, none⟩) hbl).trans q4
          clear q0 q1 q2 q3 q4
          go_wp2_with fail
          go_roundw
          case rel => exact ⟨t + 1, by omega, by go_num, by rw [HT2.out]; congr 1; omega, (hb.trans (b1.mono hb.size))⟩
          case measure => simp [intOf]; omega
        · cases hq : ((hdT s).k == 2)
          · have HT2 : Hid (tokT (d + 1) (l.take (t + 1)) = N + (2 + (hdT s).args.length + (1 + M))) := by
              have h := HT.out
              rw [← HN.out, tokE_b hk hq] at h
              rw [HM.out]
              exact h
            go_wp2_with fail
            refine (l17Args_any _ _ _ _ _ _ ⟨_, _, _, rfl⟩ ⟨_, _, _, rfl⟩).mono ?_
            rintro e w1 ⟨rfl, b1, s1⟩
            rw [hk]
            have r0 := (b1.cell (p := ⟨b, off + t * 5, none⟩) hbl).trans q0
            have r2 := (b1.cell (p := ⟨b, off + t * 5 + 2, none⟩) hbl).trans q2
            have r4 := (b1.cell (p := ⟨b, off + t * 5 + 4, none⟩) hbl).trans q4
            clear q0 q1 q2 q3 q4
            go_wp2_with fail
            refine (ih lo _ _ _ (bdT s) _ (HB.out.below b1) hz2).mono ?_
            rintro e w2 ⟨rfl, b2, s2⟩
            rw [← HM.out]
            go_wp2_with fail
            go_roundw
            case rel => exact ⟨t + 1, by omega, by go_num, by rw [HT2.out]; congr 1; omega, ((hb.trans (b1.mono hb.size)).trans (b2.mono (by omega)))⟩
            case measure => simp [intOf]; omega
          · have HT2 : Hid (tokT (d + 1) (l.take (t + 1)) = N + (3 + (hdT s).args.length + (1 + M))) := by
              have h := HT.out
              rw [← HN.out, tokE_c hk hq] at h
              rw [HM.out]
              exact h
            go_wp2_with fail
            refine (l17Args_any _ _ _ _ _ _ ⟨_, _, _, rfl⟩ ⟨_, _, _, rfl⟩).mono ?_
            rintro e w1 ⟨rfl, b1, s1⟩
            rw [hk]
            have r0 := (b1.cell (p := ⟨b, off + t * 5, none⟩) hbl).trans q0
            have r2 := (b1.cell (p := ⟨b, off + t * 5 + 2, none⟩) hbl).trans q2
            have r4 := (b1.cell (p := ⟨b, off + t * 5 + 4, none⟩) hbl).trans q4
            clear q0 q1 q2 q3 q4
            go_wp2_with fail
            refine (ih lo _ _ _ (bdT s) _ (HB.out.below b1) hz2).mono ?_
            rintro e w2 ⟨rfl, b2, s2⟩
            rw [← HM.out]
            go_wp2_with fail
            go_roundw
            case rel => exact ⟨t + 1, by omega, by go_num, by rw [HT2.out]; congr 1; omega, ((hb.trans (b1.mono hb.size)).trans (b2.mono (by omega)))⟩
            case measure => simp [intOf]; omega
      · obtain rfl : t = n := by omega
        have HF : Hid (N = tokT (d + 1) l) := by
          have h := HN.out
          rw [List.take_of_length_le (by rw [HL.out]; exact Nat.le_refl _)] at h
          exact h
        go_wp2
        go_ret
        exact ⟨by rw [← HF.out]; rfl, hb, hb.size⟩
end Go.Proofs.YtbamjfbfipkioaaDoor
