/- What the calls that this law reaches answer, part 2 of 20. -/
import Derived.Test.YtbamjfbfipkioaaDoorJFStmtTokens1
import Derived.Test.YtbamjfbfipkioaaDoorProg
import Derived.WalkKit
namespace Go.Proofs.YtbamjfbfipkioaaDoor
open Go.RowKit
set_option linter.unusedVariables false
theorem RdT.drew {w : World} {lo d n : Nat} {A : Option Addr} {l : List (Tr d)} (h : RdT w lo d A n l) : RdT w.drew lo d A n l := RdT.keep (w := w) (w' := w.drew) (fun _ _ _ _ => rfl) (Nat.le_refl _) h
theorem RdT.drewN {w : World} {lo d n : Nat} {A : Option Addr} {l : List (Tr d)} (h : RdT w lo d A n l) (k : Nat) : RdT (w.drewN k) lo d A n l := RdT.keep (w := w) (w' := w.drewN k) (fun _ _ _ _ => rfl) (Nat.le_refl _) h
end Go.Proofs.YtbamjfbfipkioaaDoor
namespace Go.Proofs.YtbamjfbfipkioaaDoor
open Go.RowKit

def inB (n lo hi : Int) : Bool := decide (lo ≤ n ∧ n ≤ hi)
theorem inB_t {n lo hi : Int} (h1 : lo ≤ n) (h2 : n ≤ hi) : inB n lo hi = true := by simp [inB, h1, h2]
theorem inB_f {n lo hi : Int} (h : n < lo ∨ hi < n) : inB n lo hi = false := by simp [inB]; omega
theorem inB_iff {n lo hi : Int} : inB n lo hi = true ↔ lo ≤ n ∧ n ≤ hi := by simp [inB]
theorem inB_not {n lo hi : Int} : inB n lo hi = false ↔ n < lo ∨ hi < n := by simp [inB]; omega

set_option maxRecDepth 100000 in
theorem in_any (n lo hi : Int) (w : World) : Calls Tryd.prog 27 #[.int .i64 n, .int .i64 lo, .int .i64 hi] w fun e w' => e = .returned (.bool (inB n lo hi)) ∧ w = w' := by
  by_cases h1 : lo ≤ n
  · by_cases h2 : n ≤ hi
    · rw [inB_t h1 h2]
      go_enter Tryd.func27, Tryd.ntmps27
      go_wp2
      go_ret
      exact ⟨rfl, rfl⟩
    · rw [inB_f (Or.inr (by omega))]
      have h3 : decide (n ≤ hi) = false := by simpa using h2
      clear h2
      go_enter Tryd.func27, Tryd.ntmps27
      go_wp2
      go_ret
      exact ⟨rfl, rfl⟩
  · rw [inB_f (Or.inl (by omega))]
    have h3 : decide (lo ≤ n) = false := by simpa using h1
    clear h1
    go_enter Tryd.func27, Tryd.ntmps27
    go_wp2
    go_ret
    exact ⟨rfl, rfl⟩
set_option maxRecDepth 100000 in
theorem l1In_any (n lo hi : Int) (w : World) : Calls Tryd.prog 30 #[.int .i64 n, .int .i64 lo, .int .i64 hi] w fun e w' => e = .returned (.bool (inB n lo hi)) ∧ w = w' := by
  by_cases h1 : lo ≤ n
  · by_cases h2 : n ≤ hi
    · rw [inB_t h1 h2]
      go_enter Tryd.func30, Tryd.ntmps30
      go_wp2
      go_ret
      exact ⟨rfl, rfl⟩
    · rw [inB_f (Or.inr (by omega))]
      have h3 : decide (n ≤ hi) = false := by simpa using h2
      clear h2
      go_enter Tryd.func30, Tryd.ntmps30
      go_wp2
      go_ret
      exact ⟨rfl, rfl⟩
  · rw [inB_f (Or.inl (by omega))]
    have h3 : decide (lo ≤ n) = false := by simpa using h1
    clear h1
    go_enter Tryd.func30, Tryd.ntmps30
    go_wp2
    go_ret
    exact ⟨rfl, rfl⟩
end Go.Proofs.YtbamjfbfipkioaaDoor
namespace Go.Proofs.YtbamjfbfipkioaaDoor
open Go.RowKit

end Go.Proofs.YtbamjfbfipkioaaDoor
namespace Go.Proofs.YtbamjfbfipkioaaDoor
open Go.RowKit

def SeenMap (w : World) (r : Nat) (ks : List Int) : Prop :=
  ∃ es clk, w.heap[r]? = some (.map es clk) ∧ es.toList.map (fun e => (e.key, e.val)) = ks.map (fun q => (Value.int .i64 q, Value.bool true))
theorem findNow_seen (q : Int) : ∀ (es : List MapEntry) (ks : List Int) (i : Nat), es.map (fun e => (e.key, e.val)) = ks.map (fun q => (Value.int .i64 q, Value.bool true)) →
    ∃ a, Instr.findNow (.int .i64) (.int .i64 q) es i = some a ∧ (ks.contains q = true → ∃ j, a = some (j, .bool true)) ∧ (ks.contains q = false → a = none) := by
  intro es
  induction es with
  | nil =>
    intro ks i h
    cases ks with
    | nil => exact ⟨none, rfl, by simp, by simp⟩
    | cons _ _ => simp at h
  | cons x es ih =>
    intro ks i h
    cases ks with
    | nil => simp at h
    | cons y ks =>
      simp only [List.map_cons, List.cons.injEq, Prod.mk.injEq] at h
      obtain ⟨⟨hk, hv⟩, ht⟩ := h
      by_cases hq : q = y
      · subst hq
        exact ⟨some (i, .bool true), by simp [Instr.findNow, hk, hv, Instr.sameNow], fun _ => ⟨i, rfl⟩, fun h => by simp at h⟩
      · obtain ⟨a, h1, h2, h3⟩ := ih ks (i + 1) ht
        have hb : (q == y) = false := by simpa using hq
        refine ⟨a, by simp [Instr.findNow, hk, Instr.sameNow, hb, h1], fun h => h2 ?_, fun h => h3 ?_⟩
        · simpa [List.contains_cons, hb, hq] using h
        · simpa [List.contains_cons, hb, hq] using h
section
variable {P : Program} {t k e : TypeId} {w : World} {r : Nat} {ks : List Int} {q : Int}
theorem seen_new (w : World) : SeenMap (w.alloc (.map #[] 0)) w.heap.size [] := ⟨#[], 0, heap_alloc_new w _, rfl⟩
theorem seen_lookup (ht : P.underlying t = some (.map k e)) (hk : P.underlying k = some (.int .i64)) (hz : (zeroValue e).run P w = .ok (.bool false) w) (h : SeenMap w r ks) :
    (Instr.lookup t (.map (some r)) (.int .i64 q) false).run P w = .ok (.bool (ks.contains q)) w := by
  obtain ⟨es, clk, hb, hes⟩ := h
  obtain ⟨a, h1, h2, h3⟩ := findNow_seen q es.toList ks 0 hes
  have c1 : ∀ b, (Instr.checkKey b 10000 k (.int .i64 q)).run P w = .ok () w := fun b => MapKept.run_checkKey hk (by simp [MapKept.IsKey]) b 9999
  have c2 := MapKept.run_findKey (w := w) hk h1
  cases hc : ks.contains q
  · have := h3 hc
    subst this
    simp [Instr.lookup, run_underlying ht, Sem.run_bind, MapKept.run_getObj_map hb, c1, c2, hz]
  · obtain ⟨j, rfl⟩ := h2 hc
    simp [Instr.lookup, run_underlying ht, Sem.run_bind, MapKept.run_getObj_map hb, c1, c2]
theorem seen_update (ht : P.underlying t = some (.map k e)) (hk : P.underlying k = some (.int .i64)) (h : SeenMap w r ks) (hq : ks.contains q = false) :
    ∃ w', (Instr.mapUpdate t (.map (some r)) (.int .i64 q) (.bool true)).run P w = .ok () w' ∧ SeenMap w' r (ks ++ [q]) ∧ w.grownBy w' (some r) := by
  obtain ⟨es, clk, hb, hes⟩ := h
  obtain ⟨a, h1, _, h3⟩ := findNow_seen q es.toList ks 0 hes
  have := h3 hq
  subst this
  have c1 : ∀ b, (Instr.checkKey b 10000 k (.int .i64 q)).run P w = .ok () w := fun b => MapKept.run_checkKey hk (by simp [MapKept.IsKey]) b 9999
  have c2 := MapKept.run_findKey (w := w) hk h1
  have hs := MapKept.heap_set (o' := .map (es.push { key := .int .i64 q, val := .bool true, born := clk }) (clk + 1)) hb
  refine ⟨{ w with heap := w.heap.setIfInBounds r (.map (es.push { key := .int .i64 q, val := .bool true, born := clk }) (clk + 1)) }, ?_, ⟨_, _, hs.1, ?_⟩, ⟨rfl, rfl, rfl, by simp, fun i _ hi => hs.2 i (fun e => hi (by rw [e]))⟩⟩
  · have c3 := MapKept.run_setObj_map (P := P) (.map (es.push { key := .int .i64 q, val := .bool true, born := clk }) (clk + 1)) hb
    simp [Instr.mapUpdate, run_underlying ht, Sem.run_bind, MapKept.run_getObj_map hb, c1, c2, c3]
  · simp [hes]
end
end Go.Proofs.YtbamjfbfipkioaaDoor
namespace Go.Proofs.YtbamjfbfipkioaaDoor
open Go.RowKit

def ar (k : Int) : Nat := if inB k 1 8 then 1 else if inB k 9 11 then 2 else if k = 12 then 3 else 0
theorem ar_le (k : Int) : ar k ≤ 3 := by
  unfold ar
  split
  · omega
  · split
    · omega
    · split <;> omega
set_option maxRecDepth 100000 in
theorem Arity_impl (k : Int) (w : World) : Calls Tryd.prog 24 #[.int .i64 k] w fun e w' => e = .returned (.int .i64 (ar k)) ∧ w = w' := by
  cases h1 : inB k 1 8
  · cases h2 : inB k 9 11
    · by_cases h3 : k = 12
      · subst h3
        go_enter Tryd.func24, Tryd.ntmps24
        go_wp2_with (go_at_call 27; refine (in_any _ _ _ _).mono ?_; rintro e w' ⟨rfl, rfl⟩)
        go_ret
        exact ⟨rfl, rfl⟩
      · have e : ar k = 0 := by simp [ar, h1, h2, h3]
        rw [e]
        have h4 : (k == 12) = false := beq_eq_false_iff_ne.2 h3
        clear h3 e
        go_enter Tryd.func24, Tryd.ntmps24
        go_wp2_with (go_at_call 27; refine (in_any _ _ _ _).mono ?_; rintro e w' ⟨rfl, rfl⟩)
        go_ret
        exact ⟨rfl, rfl⟩
    · have e : ar k = 2 := by simp [ar, h1, h2]
      rw [e]
      clear e
      go_enter Tryd.func24, Tryd.ntmps24
      go_wp2_with (go_at_call 27; refine (in_any _ _ _ _).mono ?_; rintro e w' ⟨rfl, rfl⟩)
      go_ret
      exact ⟨rfl, rfl⟩
  · have e : ar k = 1 := by simp [ar, h1]
    rw [e]
    clear e
    go_enter Tryd.func24, Tryd.ntmps24
    go_wp2_with (go_at_call 27; refine (in_any _ _ _ _).mono ?_; rintro e w' ⟨rfl, rfl⟩)
    go_ret
    exact ⟨rfl, rfl⟩
set_option maxRecDepth 100000 in
theorem Arity_spec (k : Int) (w : World) : Calls Tryd.prog 47 #[.int .i64 k] w fun e w' => e = .returned (.int .i64 (ar k)) ∧ w = w' := by
  cases h1 : inB k 1 8
  · cases h2 : inB k 9 11
    · by_cases h3 : k = 12
      · subst h3
        go_enter Tryd.func47, Tryd.ntmps47
        go_wp2_with (go_at_call 30; refine (l1In_any _ _ _ _).mono ?_; rintro e w' ⟨rfl, rfl⟩)
        go_ret
        exact ⟨rfl, rfl⟩
      · have e : ar k = 0 := by simp [ar, h1, h2, h3]
        rw [e]
        have h4 : (k == 12) = false := beq_eq_false_iff_ne.2 h3
        clear h3 e
        go_enter Tryd.func47, Tryd.ntmps47
        go_wp2_with (go_at_call 30; refine (l1In_any _ _ _ _).mono ?_; rintro e w' ⟨rfl, rfl⟩)
        go_ret
        exact ⟨rfl, rfl⟩
    · have e : ar k = 2 := by simp [ar, h1, h2]
      rw [e]
      clear e
      go_enter Tryd.func47, Tryd.ntmps47
      go_wp2_with (go_at_call 30; refine (l1In_any _ _ _ _).mono ?_; rintro e w' ⟨rfl, rfl⟩)
      go_ret
      exact ⟨rfl, rfl⟩
  · have e : ar k = 1 := by simp [ar, h1]
    rw [e]
    clear e
    go_enter Tryd.func47, Tryd.ntmps47
    go_wp2_with (go_at_call 30; refine (l1In_any _ _ _ _).mono ?_; rintro e w' ⟨rfl, rfl⟩)
    go_ret
    exact ⟨rfl, rfl⟩

def qsOf (g : Gt) : List Int := [g.a, g.b, g.c]
def vstep (m : Nat) (n : Int) (qs : List Int) (t : Nat) : Bool := if m ≤ t then qs.getD t 0 == 0 else inB (qs.getD t 0) 0 (n - 1) && !(qs.take t).contains (qs.getD t 0)
def vupto (m : Nat) (n : Int) (qs : List Int) : Nat → Bool
  | 0 => true
  | t + 1 => vupto m n qs t && vstep m n qs t
def validG (g : Gt) (n : Int) : Bool := (inB n 1 4 && decide (ar g.k ≠ 0)) && vupto (ar g.k) n (qsOf g) 3
theorem vupto_f {m : Nat} {n : Int} {qs : List Int} {t : Nat} (h : vstep m n qs t = false) (h3 : t < 3) : vupto m n qs 3 = false := by
  match t, h3 with
  | 0, _ => simp [vupto, h]
  | 1, _ => simp [vupto, h]
  | 2, _ => simp [vupto, h]
  | _ + 3, h => omega
theorem validG_n {g : Gt} {n : Int} (h : inB n 1 4 = false) : validG g n = false := by simp [validG, h]
theorem validG_k {g : Gt} {n : Int} (h : ar g.k = 0) : validG g n = false := by simp [validG, h]
theorem validG_f {g : Gt} {n : Int} {t : Nat} (h : vstep (ar g.k) n (qsOf g) t = false) (h3 : t < 3) : validG g n = false := by simp [validG, vupto_f h h3]
theorem validG_t {g : Gt} {n : Int} (h : inB n 1 4 = true) (hk : ar g.k ≠ 0) (h3 : vupto (ar g.k) n (qsOf g) 3 = true) : validG g n = true := by simp [validG, h, hk, h3]
theorem vstep_hi_t {m : Nat} {n : Int} {qs : List Int} {t : Nat} (h : m ≤ t) (hq : (qs.getD t 0 == 0) = true) : vstep m n qs t = true := by simpa [vstep, h] using hq
theorem vstep_hi_f {m : Nat} {n : Int} {qs : List Int} {t : Nat} (h : m ≤ t) (hq : (qs.getD t 0 == 0) = false) : vstep m n qs t = false := by simpa [vstep, h] using hq
theorem vstep_in_f {m : Nat} {n : Int} {qs : List Int} {t : Nat} (h : t < m) (hq : inB (qs.getD t 0) 0 (n - 1) = false) : vstep m n qs t = false := by rw [vstep, if_neg (by omega), hq]; rfl
theorem vstep_seen_f {m : Nat} {n : Int} {qs : List Int} {t : Nat} (h : t < m) (hq : (qs.take t).contains (qs.getD t 0) = true) : vstep m n qs t = false := by rw [vstep, if_neg (by omega), hq]; simp
theorem vstep_lo_t {m : Nat} {n : Int} {qs : List Int} {t : Nat} (h : t < m) (h1 : inB (qs.getD t 0) 0 (n - 1) = true) (h2 : (qs.take t).contains (qs.getD t 0) = false) : vstep m n qs t = true := by rw [vstep, if_neg (by omega), h1, h2]; rfl
theorem take_snoc {qs : List Int} {t : Nat} (h : t < qs.length) : qs.take t ++ [qs.getD t 0] = qs.take (t + 1) := by
  rw [List.take_succ_eq_append_getElem h, List.getD_eq_getElem?_getD, List.getElem?_eq_getElem h]; rfl

theorem info_int : (Tryd.prog.info? 3).map (fun i => (i.zero, i.size, i.bytes)) = some (some (.int .i64 0), 1, 8) := by kernel_rfl
end Go.Proofs.YtbamjfbfipkioaaDoor
namespace Go.Proofs.YtbamjfbfipkioaaDoor
open Go.RowKit
set_option linter.unusedVariables false
def hasB (k : Int) : Bool := k == 2 || (k == 3 || (k == 4 || (k == 5 || k == 7)))
theorem hasB_f {k : Int} (h2 : k ≠ 2) (h3 : k ≠ 3) (h4 : k ≠ 4) (h5 : k ≠ 5) (h7 : k ≠ 7) : hasB k = false := by simp [hasB, h2, h3, h4, h5, h7]
set_option maxRecDepth 100000 in
theorem hasBody_any (k : Int) (w : World) : Calls Tryd.prog 26 #[.int .i64 k] w fun e w' => e = .returned (.bool (hasB k)) ∧ w = w' := by
  by_cases h2 : k = 2
  · subst h2
    go_enter Tryd.func26, Tryd.ntmps26
    go_wp2
    go_ret
    exact ⟨rfl, rfl⟩
  by_cases h3 : k = 3
  · subst h3
    go_enter Tryd.func26, Tryd.ntmps26
    go_wp2
    go_ret
    exact ⟨rfl, rfl⟩
  by_cases h4 : k = 4
  · subst h4
    go_enter Tryd.func26, Tryd.ntmps26
    go_wp2
    go_ret
    exact ⟨rfl, rfl⟩
  by_cases h5 : k = 5
  · subst h5
    go_enter Tryd.func26, Tryd.ntmps26
    go_wp2
    go_ret
    exact ⟨rfl, rfl⟩
  by_cases h7 : k = 7
  · subst h7
    go_enter Tryd.func26, Tryd.ntmps26
    go_wp2
    go_ret
    exact ⟨rfl, rfl⟩
  rw [hasB_f h2 h3 h4 h5 h7]
  have e2 : (k == 2) = false := beq_eq_false_iff_ne.2 h2
  have e3 : (k == 3) = false := beq_eq_false_iff_ne.2 h3
  have e4 : (k == 4) = false := beq_eq_false_iff_ne.2 h4
  have e5 : (k == 5) = false := beq_eq_false_iff_ne.2 h5
  have e7 : (k == 7) = false := beq_eq_false_iff_ne.2 h7
  clear h2 h3 h4 h5 h7
  go_enter Tryd.func26, Tryd.ntmps26
  go_wp2
  go_ret
  exact ⟨rfl, rfl⟩
def imax (a b : Int) : Int := if b < a then a else b
set_option maxRecDepth 100000 in
theorem l1Max_any (a b : Int) (w : World) : Calls Tryd.prog 58 #[.int .i64 a, .int .i64 b] w fun e w' => e = .returned (.int .i64 (imax a b)) ∧ w = w' := by
  by_cases h : b < a
  · rw [show imax a b = a from if_pos h]
    go_enter Tryd.func58, Tryd.ntmps58
    go_wp2
    go_ret
    exact ⟨rfl, rfl⟩
  · rw [show imax a b = b from if_neg h]
    go_enter Tryd.func58, Tryd.ntmps58
    go_wp2
    go_ret
    exact ⟨rfl, rfl⟩
/-- The names of the gates, by their kinds. -/
def gnames : List (List UInt8) := [[], [120], [121], [122], [104], [115], [115, 100], [116], [116, 100], [99, 120], [99, 122], [115, 119, 97, 112], [99, 99, 120]]
def gname (k : Nat) : List UInt8 := gnames.getD k []
set_option maxRecDepth 100000 in
set_option maxHeartbeats 2000000 in
theorem GateName_spec (k : Nat) (h1 : 1 ≤ k) (h2 : k ≤ 12) (w : World) : Calls Tryd.prog 60 #[.int .i64 k] w fun e w' => e = .returned (.string ⟨(gname k).toArray⟩) ∧ Below w.heap.size w w' ∧ w.heap.size ≤ w'.heap.size := by
  have hb : inB (k : Int) 1 12 = true := inB_t (by omega) (by omega)
  have hk : k = 1 ∨ k = 2 ∨ k = 3 ∨ k = 4 ∨ k = 5 ∨ k = 6 ∨ k = 7 ∨ k = 8 ∨ k = 9 ∨ k = 10 ∨ k = 11 ∨ k = 12 := by omega
  clear h1 h2
  rcases hk with rfl | rfl | rfl | rfl | rfl | rfl | rfl | rfl | rfl | rfl | rfl | rfl
  all_goals
    go_enter Tryd.func60, Tryd.ntmps60
    go_wp2_with (go_at_call 30; refine (l1In_any _ _ _ _).mono ?_; rintro e w' ⟨rfl, rfl⟩)
    go_ret
    exact ⟨rfl, (by repeat (first | exact Below.refl _ _ | assumption | (refine Below.trans ?_ (Below.mono (by assumption) (by first | omega | (simp; done) | (simp; omega)))) | (with_reducible refine Below.drew ?_) | (with_reducible refine Below.alloc ?_ (by first | omega | (simp; done) | (simp; omega)) _) | (with_reducible refine Below.setCell ?_ (by first | omega | (simp; done) | (simp; omega)) _))), (by first | omega | (simp; done) | (simp; omega))⟩
/-- The kind of a gate's name; 0 if it is none. -/
def gkindFrom (word : List UInt8) : Nat → Nat → Nat
  | 0, _ => 0
  | f + 1, k => if gname k == word then k else gkindFrom word f (k + 1)
def gkind (word : ByteArray) : Nat := gkindFrom word.toList 12 1
theorem gkindFrom_le (word : List UInt8) : ∀ f k, k + f ≤ 13 → gkindFrom word f k ≤ 12 := by
  intro f
  induction f with
  | zero => intro k _; simp [gkindFrom]
  | succ f ih =>
    intro k h
    simp only [gkindFrom]
    split
    · omega
    · exact ih (k + 1) (by omega)
set_option maxRecDepth 100000 in
set_option maxHeartbeats 1000000 in
theorem GateKind_spec (word : ByteArray) (w : World) : Calls Tryd.prog 48 #[.string word] w fun e w' => e = .returned (.int .i64 (gkind word)) ∧ Below w.heap.size w w' ∧ w.heap.size ≤ w'.heap.size := by
  go_enter Tryd.func48, Tryd.ntmps48
  go_wp2
  go_loopw [3] (fun k wr => ∃ t : Nat, 1 ≤ t ∧ t ≤ 13 ∧ k = .int .i64 t ∧ gkind word = gkindFrom word.toList (13 - t) t ∧ Below w.heap.size w wr) (fun k _ => 13 - (intOf k).toNat)
  case atStart => exact ⟨1, by omega, by omega, rfl, rfl, Below.refl _ _⟩
  case round =>
    obtain ⟨t, h1, ht, rfl, hg, hb⟩ := hrel
    have HG := Lib.hid hg
    clear hg
    by_cases hlt : t ≤ 12
    · have HS : Hid (gkind word = if gname t == word.toList then t else gkindFrom word.toList (13 - (t + 1)) (t + 1)) := by
        have h := HG.out
        rw [show 13 - t = (13 - (t + 1)) + 1 from by omega] at h
        exact h
      cases he : (gname t == word.toList)
      · have HF : Hid (gkind word = gkindFrom word.toList (13 - (t + 1)) (t + 1)) := by
          have h := HS.out
          rw [he] at h
          exact h
        go_wp2_with fail
        refine (GateName_spec t h1 hlt _).mono ?_
        rintro e w1 ⟨rfl, b1, s1⟩
        go_wp2_with fail
        go_roundw
        case rel => exact ⟨t + 1, by omega, by omega, by go_num, HF.out, hb.trans (b1.mono hb.size)⟩
        case measure => simp [intOf]; omega
      · have HF : Hid (gkind word = t) := by
          have h := HS.out
          rw [he] at h
          exact h
        go_wp2_with fail
        refine (GateName_spec t h1 hlt _).mono ?_
        rintro e w1 ⟨rfl, b1, s1⟩
        go_wp2_with fail
        go_ret
        exact ⟨by rw [HF.out]; rfl, hb.trans (b1.mono hb.size), Nat.le_trans hb.size s1⟩
    · obtain rfl : t = 13 := by omega
      have HF : Hid (gkind word = 0) := HG.out
      go_wp2_with fail
      go_ret
      exact ⟨by rw [HF.out]; rfl, hb, hb.size⟩
/-- How many names a statement has. -/
def nargs (k : Int) (word : ByteArray) : Nat := if k = 1 then ar (gkind word) else if k = 2 then 0 else if k = 3 then 0 else if k = 4 then 1 else if k = 5 then 1 else if k = 7 then 1 else 2
set_option maxRecDepth 100000 in
set_option maxHeartbeats 1000000 in
theorem l17Args_any (k : Int) (word : ByteArray) (va : Value) (count : Int) (vb : Value) (w : World) (ha : ∃ A n c, va = .slice A n c) (hb : ∃ A n c, vb = .slice A n c) : Calls Tryd.prog 29 #[.agg #[.int .i64 k, .string word, va, .int .i64 count, vb]] w fun e w' =>
    e = .returned (.tuple #[.int .i64 (nargs k word), .bool (hasB k)]) ∧ Below w.heap.size w w' ∧ w.heap.size ≤ w'.heap.size := by
  obtain ⟨A, n, c, rfl⟩ := ha
  obtain ⟨A', n', c', rfl⟩ := hb
  by_cases h1 : k = 1
  · subst h1
    go_enter Tryd.func29, Tryd.ntmps29
    go_wp2_with fail
    refine (GateKind_spec _ _).mono ?_
    rintro e w1 ⟨rfl, b1, s1⟩
    simp at s1
    go_wp2_with fail
    refine (Arity_spec _ _).mono ?_
    rintro e w' ⟨rfl, rfl⟩
    go_wp2_with fail
    go_ret2
    exact ⟨rfl, (by repeat (first | exact Below.refl _ _ | assumption | (refine Below.trans ?_ (Below.mono (by assumption) (by first | omega | (simp; done) | (simp; omega)))) | (with_reducible refine Below.drew ?_) | (with_reducible refine Below.alloc ?_ (by first | omega | (simp; done) | (simp; omega)) _) | (with_reducible refine Below.setCell ?_ (by first | omega | (simp; done) | (simp; omega)) _))), (by first | omega | (simp; done) | (simp; omega))⟩
  have e1 : (k == 1) = false := beq_eq_false_iff_ne.2 h1
  by_cases h2 : k = 2
  · subst h2
    go_enter Tryd.func29, Tryd.ntmps29
    go_wp2_with fail
    go_ret2
    exact ⟨rfl, (by repeat (first | exact Below.refl _ _ | assumption | (refine Below.trans ?_ (Below.mono (by assumption) (by first | omega | (simp; done) | (simp; omega)))) | (with_reducible refine Below.drew ?_) | (with_reducible refine Below.alloc ?_ (by first | omega | (simp; done) | (simp; omega)) _) | (with_reducible refine Below.setCell ?_ (by first | omega | (simp; done) | (simp; omega)) _))), (by first | omega | (simp; done) | (simp; omega))⟩
  have e2 : (k == 2) = false := beq_eq_false_iff_ne.2 h2
  by_cases h3 : k = 3
  · subst h3
    go_enter Tryd.func29, Tryd.ntmps29
    go_wp2_with fail
    go_ret2
    exact ⟨rfl, (by repeat (first | exact Below.refl _ _ | assumption | (refine Below.trans ?_ (Below.mono (by assumption) (by first | omega | (simp; done) | (simp; omega)))) | (with_reducible refine Below.drew ?_) | (with_reducible refine Below.alloc ?_ (by first | omega | (simp; done) | (simp; omega)) _) | (with_reducible refine Below.setCell ?_ (by first | omega | (simp; done) | (simp; omega)) _))), (by first | omega | (simp; done) | (simp; omega))⟩
  have e3 : (k == 3) = false := beq_eq_false_iff_ne.2 h3
  by_cases h4 : k = 4
  · subst h4
    go_enter Tryd.func29, Tryd.ntmps29
    go_wp2_with fail
    go_ret2
    exact ⟨rfl, (by repeat (first | exact Below.refl _ _ | assumption | (refine Below.trans ?_ (Below.mono (by assumption) (by first | omega | (simp; done) | (simp; omega)))) | (with_reducible refine Below.drew ?_) | (with_reducible refine Below.alloc ?_ (by first | omega | (simp; done) | (simp; omega)) _) | (with_reducible refine Below.setCell ?_ (by first | omega | (simp; done) | (simp; omega)) _))), (by first | omega | (simp; done) | (simp; omega))⟩
  have e4 : (k == 4) = false := beq_eq_false_iff_ne.2 h4
  by_cases h5 : k = 5
  · subst h5
    go_enter Tryd.func29, Tryd.ntmps29
    go_wp2_with fail
    go_ret2
    exact ⟨rfl, (by repeat (first | exact Below.refl _ _ | assumption | (refine Below.trans ?_ (Below.mono (by assumption) (by first | omega | (simp; done) | (simp; omega)))) | (with_reducible refine Below.drew ?_) | (with_reducible refine Below.alloc ?_ (by first | omega | (simp; done) | (simp; omega)) _) | (with_reducible refine Below.setCell ?_ (by first | omega | (simp; done) | (simp; omega)) _))), (by first | omega | (simp; done) | (simp; omega))⟩
  have e5 : (k == 5) = false := beq_eq_false_iff_ne.2 h5
  by_cases h7 : k = 7
  · subst h7
    go_enter Tryd.func29, Tryd.ntmps29
    go_wp2_with fail
    go_ret2
    exact ⟨rfl, (by repeat (first | exact Below.refl _ _ | assumption | (refine Below.trans ?_ (Below.mono (by assumption) (by first | omega | (simp; done) | (simp; omega)))) | (with_reducible refine Below.drew ?_) | (with_reducible refine Below.alloc ?_ (by first | omega | (simp; done) | (simp; omega)) _) | (with_reducible refine Below.setCell ?_ (by first | omega | (simp; done) | (simp; omega)) _))), (by first | omega | (simp; done) | (simp; omega))⟩
  have e7 : (k == 7) = false := beq_eq_false_iff_ne.2 h7
  have HA := Lib.hid (show nargs k word = 2 by simp [nargs, h1, h2, h3, h4, h5, h7])
  have HB := Lib.hid (hasB_f h2 h3 h4 h5 h7)
  clear h1 h2 h3 h4 h5 h7
  go_enter Tryd.func29, Tryd.ntmps29
  go_wp2_with fail
  go_ret2
  exact ⟨by rw [HA.out, HB.out]; rfl, (by repeat (first | exact Below.refl _ _ | assumption | (refine Below.trans ?_ (Below.mono (by assumption) (by first | omega | (simp; done) | (simp; omega)))) | (with_reducible refine Below.drew ?_) | (with_reducible refine Below.alloc ?_ (by first | omega | (simp; done) | (simp; omega)) _) | (with_reducible refine Below.setCell ?_ (by first | omega | (simp; done) | (simp; omega)) _))), (by first | omega | (simp; done) | (simp; omega))⟩
/-- How deep the bodies lie. -/
def nestT : (d : Nat) → List (Tr d) → Nat
  | 0, _ => 0
  | d + 1, l => l.foldl (fun (m : Nat) (s : Tr (d + 1)) => if hasB (hdT s).k then max m (1 + nestT d (bdT s)) else m) 0
theorem sum_ge {d : Nat} {l : List (Tr (d + 1))} {s : Tr (d + 1)} (h : s ∈ l) : szE s ≤ sumE l := by
  obtain ⟨t, ht⟩ := List.getElem?_of_mem h
  exact szT_mem ht
theorem nestT_le : ∀ (d : Nat) (l : List (Tr d)), nestT d l ≤ szT d l := by
  intro d
  induction d with
  | zero => intro l; exact Nat.le_refl _
  | succ d ih =>
    intro l
    have key : ∀ (B : Nat) (l : List (Tr (d + 1))), (∀ s ∈ l, 1 + nestT d (bdT s) ≤ B) → ∀ m, m ≤ B → l.foldl (fun (m : Nat) (s : Tr (d + 1)) => if hasB (hdT s).k then max m (1 + nestT d (bdT s)) else m) m ≤ B := by
      intro B l
      induction l with
      | nil => intro _ m h; exact h
      | cons s l ih2 =>
        intro hB m h
        refine ih2 (fun x hx => hB x (by simp [hx])) _ ?_
        show (if hasB (hdT s).k then max m (1 + nestT d (bdT s)) else m) ≤ B
        have := hB s (by simp)
        split <;> omega
    refine key _ l (fun s hs => ?_) 0 (Nat.zero_le _)
    have h1 := ih (bdT s)
    have h2 := sum_ge hs
    have h3 : 0 < l.length := List.length_pos_of_mem hs
    rw [szT_succ]
    unfold szE at h2
    omega
theorem nest_take_le {d : Nat} (l : List (Tr (d + 1))) (t : Nat) : nestT (d + 1) (l.take t) ≤ szT (d + 1) l := by
  refine Nat.le_trans (nestT_le _ _) ?_
  rw [szT_succ, szT_succ]
  have := sumE_take_le l t
  have := List.length_take_le' t l
  omega
theorem nest_take {d : Nat} (l : List (Tr (d + 1))) (t : Nat) (s : Tr (d + 1)) (h : l[t]? = some s) : nestT (d + 1) (l.take (t + 1)) = if hasB (hdT s).k then max (nestT (d + 1) (l.take t)) (1 + nestT d (bdT s)) else nestT (d + 1) (l.take t) := by
  rw [List.take_add_one, h]
  simp [nestT, List.foldl_append]
def NestSaid_impl (d : Nat) : Prop := ∀ (lo : Nat) (A : Option Addr) (n c : Nat) (l : List (Tr d)) (w : World), RdT w lo d A n l → szT d l ≤ 1048576 →
  Calls Tryd.prog 54 #[.slice A n c] w fun e w' => e = .returned (.int .i64 (nestT d l)) ∧ Below w.heap.size w w' ∧ w.heap.size ≤ w'.heap.size
set_option maxRecDepth 100000 in
set_option maxHeartbeats 2000000 in
theorem NestingDepth_impl : ∀ (d : Nat), NestSaid_impl d := by
  intro d
  induction d with
  | zero =>
    intro lo A n c l w h _
    obtain rfl := szT_zero_len h
    go_enter Tryd.func54, Tryd.ntmps54
    go_wp2
    refine wp_loop_rounds 1 ?_
    rw [rounds_succ]
    go_wp2
    go_ret
    exact ⟨rfl, Below.refl _ _, Nat.le_refl _⟩
  | succ d ih =>
    intro lo A n c l w h hsz
    have hln := h.len
    have hn : n ≤ 1048576 := by rw [szT_succ] at hsz; omega
    have HQ := Lib.hid hsz
    have HL := Lib.hid hln
    have H := Lib.hid h
    clear h hln hsz
    go_enter Tryd.func54, Tryd.ntmps54
    go_wp2
    go_loopw [3, 8] (fun m i wr => ∃ t : Nat, t ≤ n ∧ i = .int .i64 t ∧ m = .int .i64 (nestT (d + 1) (l.take t)) ∧ Below w.heap.size w wr) (fun _ i _ => n - (intOf i).toNat)
    case atStart => exact ⟨0, Nat.zero_le _, rfl, rfl, Below.refl _ _⟩
    case round =>
      obtain ⟨t, ht, rfl, rfl, hb⟩ := hrel
      have hN : nestT (d + 1) (l.take t) ≤ 1048576 := Nat.le_trans (nest_take_le l t) HQ.out
      obtain ⟨N, hNN⟩ : ∃ N, N = nestT (d + 1) (l.take t) := ⟨_, rfl⟩
      rw [← hNN] at hN ⊢
      have HN := Lib.hid hNN
      clear hNN
      have hbs := hb.size
      by_cases hlt : t < n
      · obtain ⟨b, off, s, Aa, ca, Ab, nb, cb, rfl, hbl, hs, hcs, hra, hrb⟩ := (H.out.below hb).at_ hlt
        obtain ⟨q0, q1, q2, q3, q4⟩ := hcs
        have hme := szT_mem hs
        have hz2 : szT d (bdT s) ≤ 1048576 := by have := HQ.out; rw [szT_succ] at this; unfold szE at hme; omega
        have hnb := nestT_le d (bdT s)
        have HT := Lib.hid (nest_take l t s hs)
        have HB := Lib.hid (hrb.below (w' := wr.alloc (.cells #[.int .i64 (hdT s).k, .string (hdT s).word, .slice Aa (hdT s).args.length ca, .int .i64 (hdT s).count, .slice Ab nb cb] 27)) (by repeat (first | exact Below.refl _ _ | assumption | (refine Below.trans ?_ (Below.mono (by assumption) (by first | omega | (simp; done) | (simp; omega)))) | (with_reducible refine Below.drew ?_) | (with_reducible refine Below.alloc ?_ (by first | omega | (simp; done) | (simp; omega)) _) | (with_reducible refine Below.setCell ?_ (by first | omega | (simp; done) | (simp; omega)) _))))
        clear hs hra hrb hme
        cases hk : hasB (hdT s).k
        · have HT2 : Hid (nestT (d + 1) (l.take (t + 1)) = N) := by
            have h := HT.out
            rw [hk, ← HN.out] at h
            exact h
          go_wp2_with (go_at_call 26; refine (hasBody_any _ _).mono ?_; rintro e w' ⟨rfl, rfl⟩)
          go_roundw
          case rel => exact ⟨t + 1, by omega, by go_num, by rw [HT2.out], hb.alloc hb.size _⟩
          case measure => simp [intOf]; omega
        · obtain ⟨M, hM⟩ : ∃ M, M = nestT d (bdT s) := ⟨_, rfl⟩
          have HT2 : Hid (nestT (d + 1) (l.take (t + 1)) = max N (1 + M)) := by
            have h := HT.out
            rw [hk, ← HN.out, ← hM] at h
            exact h
          rw [← hM] at hnb
          have HM := Lib.hid hM
          clear hM
          go_wp2_with (first | (go_at_call 26; refine (hasBody_any _ _).mono ?_; rintro e w' ⟨rfl, rfl⟩) | (go_at_call 54; refine (ih lo _ _ _ (bdT s) _ HB.out hz2).mono ?_; rintro e w1 ⟨rfl, b1, s1⟩; rw [← HM.out]))
          go_roundw
          case rel => exact ⟨t + 1, by omega, by go_num, by rw [HT2.out]; congr 1; split <;> omega, (hb.alloc hb.size _).trans (b1.mono (by simp; omega))⟩
          case measure => simp [intOf]; omega
      · obtain rfl : t = n := by omega
        have HF : Hid (N = nestT (d + 1) l) := by
          have h := HN.out
          rw [List.take_of_length_le (by rw [HL.out]; exact Nat.le_refl _)] at h
          exact h
        go_wp2
        go_ret
        exact ⟨by rw [← HF.out]; rfl, hb, hb.size⟩
def NestSaid_spec (d : Nat) : Prop := ∀ (lo : Nat) (A : Option Addr) (n c : Nat) (l : List (Tr d)) (w : World), RdT w lo d A n l → szT d l ≤ 1048576 →
  Calls Tryd.prog 42 #[.slice A n c] w fun e w' => e = .returned (.int .i64 (nestT d l)) ∧ Below w.heap.size w w' ∧ w.heap.size ≤ w'.heap.size
set_option maxRecDepth 100000 in
set_option maxHeartbeats 2000000 in
theorem NestingDepth_spec : ∀ (d : Nat), NestSaid_spec d := by
  intro d
  induction d with
  | zero =>
    intro lo A n c l w h _
    obtain rfl := szT_zero_len h
    go_enter Tryd.func42, Tryd.ntmps42
    go_wp2
    refine wp_loop_rounds 1 ?_
    rw [rounds_succ]
    go_wp2
    go_ret
    exact ⟨rfl, Below.refl _ _, Nat.le_refl _⟩
  | succ d ih =>
    intro lo A n c l w h hsz
    have hln := h.len
    have hn : n ≤ 1048576 := by rw [szT_succ] at hsz; omega
    have HQ := Lib.hid hsz
    have HL := Lib.hid hln
    have H := Lib.hid h
    clear h hln hsz
    go_enter Tryd.func42, Tryd.ntmps42
    go_wp2
    go_loopw [3, 4] (fun m i wr => ∃ t : Nat, t ≤ n ∧ i = .int .i64 t ∧ m = .int .i64 (nestT (d + 1) (l.take t)) ∧ Below w.heap.size w wr) (fun _ i _ => n - (intOf i).toNat)
    case atStart => exact ⟨0, Nat.zero_le _, rfl, rfl, Below.refl _ _⟩
    case round =>
      obtain ⟨t, ht, rfl, rfl, hb⟩ := hrel
      have hN : nestT (d + 1) (l.take t) ≤ 1048576 := Nat.le_trans (nest_take_le l t) HQ.out
      obtain ⟨N, hNN⟩ : ∃ N, N = nestT (d + 1) (l.take t) := ⟨_, rfl⟩
      rw [← hNN] at hN ⊢
      have HN := Lib.hid hNN
      clear hNN
      have hbs := hb.size
      by_cases hlt : t < n
      · obtain ⟨b, off, s, Aa, ca, Ab, nb, cb, rfl, hbl, hs, hcs, hra, hrb⟩ := (H.out.below hb).at_ hlt
        obtain ⟨q0, q1, q2, q3, q4⟩ := hcs
        have hme := szT_mem hs
        have hz2 : szT d (bdT s) ≤ 1048576 := by have := HQ.out; rw [szT_succ] at this; unfold szE at hme; omega
        have hnb := nestT_le d (bdT s)
        have HT := Lib.hid (nest_take l t s hs)
        have HB := Lib.hid hrb
        clear hs hra hrb hme
        cases hk : hasB (hdT s).k
        · have HT2 : Hid (nestT (d + 1) (l.take (t + 1)) = N) := by
            have h := HT.out
            rw [hk, ← HN.out] at h
            exact h
          go_wp2_with fail
          refine (l17Args_any _ _ _ _ _ _ ⟨_, _, _, rfl⟩ ⟨_, _, _, rfl⟩).mono ?_
          rintro e w1 ⟨rfl, b1, s1⟩
          rw [hk]
          go_wp2_with fail
          go_roundw
          case rel => exact ⟨t + 1, by omega, by go_num, by rw [HT2.out], hb.trans (b1.mono hb.size)⟩
          case measure => simp [intOf]; omega
        · obtain ⟨M, hM⟩ : ∃ M, M = nestT d (bdT s) := ⟨_, rfl⟩
          have HT2 : Hid (nestT (d + 1) (l.take (t + 1)) = max N (1 + M)) := by
            have h := HT.out
            rw [hk, ← HN.out, ← hM] at h
            exact h
          rw [← hM] at hnb
          have HM := Lib.hid hM
          clear hM
          go_wp2_with fail
          refine (l17Args_any _ _ _ _ _ _ ⟨_, _, _, rfl⟩ ⟨_, _, _, rfl⟩).mono ?_
          rintro e w1 ⟨rfl, b1, s1⟩
          rw [hk]
          have q5 := (b1.cell (p := ⟨b, off + t * 5 + 4, none⟩) hbl).trans q4
          clear q0 q1 q2 q3 q4
          go_wp2_with fail
          refine (ih lo _ _ _ (bdT s) _ (HB.out.below b1) hz2).mono ?_
          rintro e w2 ⟨rfl, b2, s2⟩
          rw [← HM.out]
          go_wp2_with fail
          refine (l1Max_any _ _ _).mono ?_
          rintro e w' ⟨rfl, rfl⟩
          go_wp2_with fail
          go_roundw
          case rel => exact ⟨t + 1, by omega, by go_num, by rw [HT2.out]; congr 1; unfold imax; split <;> omega, (hb.trans (b1.mono hb.size)).trans (b2.mono (by omega))⟩
          case measure => simp [intOf]; omega
      · obtain rfl : t = n := by omega
        have HF : Hid (N = nestT (d + 1) l) := by
          have h := HN.out
          rw [List.take_of_length_le (by rw [HL.out]; exact Nat.le_refl _)] at h
          exact h
        go_wp2
        go_ret
        exact ⟨by rw [← HF.out]; rfl, hb, hb.size⟩
end Go.Proofs.YtbamjfbfipkioaaDoor
namespace Go.Proofs.YtbamjfbfipkioaaDoor
open Go.RowKit
set_option linter.unusedVariables false
def gstr (k : Nat) : ByteArray := ⟨(gname k).toArray⟩
def gstrs : List ByteArray := (List.range 13).map gstr
/-- The variable gateNames reads as its thirteen names. -/
def GN (w : World) : Prop := ∃ A c, w.cell? ⟨0, 0, none⟩ = some (.slice A 13 c) ∧ 0 < w.heap.size ∧ Rd w 1 A 13 (strs gstrs)
theorem GN.below {w w' : World} (h : GN w) (hb : Below w.heap.size w w') : GN w' := by
  obtain ⟨A, c, h1, h2, h3⟩ := h
  exact ⟨A, c, (hb.cell (p := ⟨0, 0, none⟩) h2).trans h1, Nat.lt_of_lt_of_le h2 hb.size, h3.below hb⟩
theorem GN.drewN {w : World} (h : GN w) (k : Nat) : GN (w.drewN k) := h
set_option maxRecDepth 100000 in
set_option maxHeartbeats 1000000 in
theorem GateName_impl (k : Nat) (h1 : 1 ≤ k) (h2 : k ≤ 12) (w : World) (hG : GN w) : Calls Tryd.prog 45 #[.int .i64 k] w fun e w' => e = .returned (.string ⟨(gname k).toArray⟩) ∧ w = w' := by
  obtain ⟨A, c, hg, hl, hr⟩ := hG
  obtain ⟨b, off, rfl, hb, hc⟩ := hr.2 (by omega)
  have q0 : w.cell? ⟨b, off + k, none⟩ = some (.string ⟨(gname k).toArray⟩) := hc k _ (by
    simp only [strs, gstrs, List.map_map]
    rw [List.getElem?_map, List.getElem?_range (by omega)]
    rfl)
  have hin : inB (k : Int) 1 12 = true := inB_t (by omega) (by omega)
  clear hc hr
  go_enter Tryd.func45, Tryd.ntmps45
  go_wp2_with (go_at_call 27; refine (in_any _ _ _ _).mono ?_; rintro e w' ⟨rfl, rfl⟩)
  go_ret
  exact ⟨rfl, rfl⟩
set_option maxRecDepth 100000 in
set_option maxHeartbeats 1000000 in
theorem GateKind_impl (word : ByteArray) (w : World) (hG : GN w) : Calls Tryd.prog 25 #[.string word] w fun e w' => e = .returned (.int .i64 (gkind word)) ∧ w = w' := by
  have HGN := Lib.hid hG
  clear hG
  go_enter Tryd.func25, Tryd.ntmps25
  go_wp2
  go_loop [3] (fun k => ∃ t : Nat, 1 ≤ t ∧ t ≤ 13 ∧ k = .int .i64 t ∧ gkind word = gkindFrom word.toList (13 - t) t) (fun k => 13 - (intOf k).toNat)
  case atStart => exact ⟨1, by omega, by omega, rfl, rfl⟩
  case round =>
    obtain ⟨t, h1, ht, rfl, hg⟩ := hrel
    have HG := Lib.hid hg
    clear hg
    by_cases hlt : t ≤ 12
    · have HS : Hid (gkind word = if gname t == word.toList then t else gkindFrom word.toList (13 - (t + 1)) (t + 1)) := by
        have h := HG.out
        rw [show 13 - t = (13 - (t + 1)) + 1 from by omega] at h
        exact h
      cases he : (gname t == word.toList)
      · have HF : Hid (gkind word = gkindFrom word.toList (13 - (t + 1)) (t + 1)) := by
          have h := HS.out
          rw [he] at h
          exact h
        go_wp2_with fail
        refine (GateName_impl t h1 hlt _ HGN.out).mono ?_
        rintro e w1 ⟨rfl, rfl⟩
        go_wp2_with fail
        go_round
        case rel => exact ⟨t + 1, by omega, by omega, by go_num, HF.out⟩
        case measure => simp [intOf]; omega
      · have HF : Hid (gkind word = t) := by
          have h := HS.out
          rw [he] at h
          exact h
        go_wp2_with fail
        refine (GateName_impl t h1 hlt _ HGN.out).mono ?_
        rintro e w1 ⟨rfl, rfl⟩
        go_wp2_with fail
        go_ret
        exact ⟨by rw [HF.out]; rfl, rfl⟩
    · obtain rfl : t = 13 := by omega
      have HF : Hid (gkind word = 0) := HG.out
      go_wp2_with fail
      go_ret
      exact ⟨by rw [HF.out]; rfl, rfl⟩
end Go.Proofs.YtbamjfbfipkioaaDoor
