/- What the calls that this law reaches answer, part 6 of 20. -/
import Derived.Test.YtbamjfbfipkioaaDoorJFStmtTokens1
import Derived.Test.YtbamjfbfipkioaaDoorJFStmtTokens2
import Derived.Test.YtbamjfbfipkioaaDoorJFStmtTokens4
import Derived.Test.YtbamjfbfipkioaaDoorJFStmtTokens3
import Derived.Test.YtbamjfbfipkioaaDoorJFStmtTokens5
namespace Go.Proofs.YtbamjfbfipkioaaDoor
open Go.RowKit
theorem step_append_rdO {P : Program} (w : World) {ops : Array Oper} {o : Oper} {a : Act} {K : Act → World → Prop} {Q : Exit → Act → World → Prop} {E : Prop} (hgd : o.guard = none) (s x : Operand) (t : TypeId)
    (ho : o.op = .call { callee := .builtin .append, args := #[s, x], argTypes := #[t, t] })
    (base : Nat) (e : TypeId) (i : TypeInfo) (z : Value) (size bytes : Nat) (ht : P.underlying t = some (.slice e)) (hi : P.info? e = some i) (hz : i.zero = some z)
    (hsize : i.size = size) (hby : i.bytes = bytes) (hzs : z.cells.size = size) (hsz : 0 < size)
    (v : Value) (n : Nat) (xs : List Value) (hs : a.eval s = v) (hown : w.ownsRow base e size v n xs)
    (A : Option Addr) (m c : Nat) (news : List Value) (hx : a.eval x = .slice A m c) (hr : Rd w size A m news) (h1 : ∀ u ∈ news, u.oneCell' = true)
    (h63 : n + m ≤ maxLen) (hbytes : (n + m) * bytes ≤ 140737488355328) (hbase : base ≤ w.heap.size)
    (h : ∀ v' w', w'.ownsRow base e size v' (n + m) (xs ++ news) → w.grownBy w' v.ownBlock → (v'.ownBlock = v.ownBlock ∨ v'.ownBlock = some w.heap.size) → K (a.put o.dst v') w') :
    if Region.wanted o (yielded ops a.tmps) = true then Oper.wp P o a w K Q else E := by
  have hw : Region.wanted o (yielded ops a.tmps) = true := by simp [Region.wanted, hgd]
  rw [if_pos hw]
  obtain ⟨v', w', hrun, h2, h3, h4⟩ := run_append_rd (P := P) w base t o.type e i z size bytes ht hi hz hsize hby hzs hsz v n xs hown A m c news hr h1 h63 hbytes hbase
  unfold Oper.wp execOp
  simp only [ho, resolve, invoke, builtin, Sem.run_bind, Sem.run_pure, Result.andThen_ok, List.map_toArray, List.map_cons, List.map_nil, hs, hx, hrun]
  exact h v' w' h2 h3 h4
end Go.Proofs.YtbamjfbfipkioaaDoor
namespace Go.Proofs.YtbamjfbfipkioaaDoor
open Go.RowKit
set_option linter.unusedVariables false
def imin (a b : Int) : Int := if a < b then a else b
set_option maxRecDepth 100000 in
theorem l1Min_any (a b : Int) (w : World) : Calls Tryd.prog 73 #[.int .i64 a, .int .i64 b] w fun e w' => e = .returned (.int .i64 (imin a b)) ∧ w = w' := by
  by_cases h : a < b
  · rw [show imin a b = a from if_pos h]
    go_enter Tryd.func73, Tryd.ntmps73
    go_wp2
    go_ret
    exact ⟨rfl, rfl⟩
  · rw [show imin a b = b from if_neg h]
    go_enter Tryd.func73, Tryd.ntmps73
    go_wp2
    go_ret
    exact ⟨rfl, rfl⟩
theorem imin_min {n : Nat} {x : Int} (h : x = n) : imin 1000000 x = ((min 1000000 n : Nat) : Int) := by
  subst h
  unfold imin
  split <;> omega
theorem below_undrew {w w' : World} (h : Below w.drew.heap.size w.drew w') : Below w.heap.size w w' := ⟨h.os, h.tape, h.output, h.size, h.block⟩
/-- What one statement adds, its body counting M. -/
def expE (k count : Int) (M : Nat) : Nat := if k = 1 then 1 else if k = 6 then 0 else if k = 2 then M * (min (max count 0) 1000000).toNat else if k = 4 then 7 * M else M
theorem expE_1 {k c : Int} {M : Nat} (h : k = 1) : expE k c M = 1 := by subst h; rfl
theorem expE_6 {k c : Int} {M : Nat} (h : k = 6) : expE k c M = 0 := by subst h; rfl
theorem expE_4 {k c : Int} {M : Nat} (h : k = 4) : expE k c M = 7 * M := by subst h; rfl
theorem expE_2n {k c : Int} {M : Nat} (h : k = 2) (hc : c < 0) : expE k c M = 0 := by
  subst h
  have : (min (max c 0) 1000000).toNat = 0 := by omega
  simp [expE, this]
theorem expE_2m {k c : Int} {M C : Nat} (h : k = 2) (hc : c = C) (hC : C ≤ 1000000) : expE k c M = M * C := by
  subst h
  have : (min (max c 0) 1000000).toNat = C := by omega
  simp [expE, this]
theorem expE_2b {k c : Int} {M : Nat} (h : k = 2) (hc : 1000000 < c) : expE k c M = M * 1000000 := by
  subst h
  have : (min (max c 0) 1000000).toNat = 1000000 := by omega
  simp [expE, this]
theorem expE_x {k c : Int} {M : Nat} (h1 : k ≠ 1) (h6 : k ≠ 6) (h2 : k ≠ 2) (h4 : k ≠ 4) : expE k c M = M := by simp [expE, h1, h6, h2, h4]
theorem mul_small {M C : Nat} (h : M ≤ 1000000) (h' : C ≤ 1000000) : (M : Int) * (C : Int) ≤ 1000000000000 := by
  have h1 : M * C ≤ 1000000 * C := Nat.mul_le_mul_right C h
  rw [← Int.natCast_mul]
  omega
theorem mul_zero_le (M C : Nat) : 0 ≤ (M : Int) * (C : Int) := by
  rw [← Int.natCast_mul]
  omega
def expT : (d : Nat) → List (Tr d) → Nat
  | 0, _ => 0
  | d + 1, l => l.foldl (fun (n : Nat) (s : Tr (d + 1)) => min 1000000 (n + expE (hdT s).k (hdT s).count (expT d (bdT s)))) 0
theorem exp_take {d : Nat} (l : List (Tr (d + 1))) (t : Nat) (s : Tr (d + 1)) (h : l[t]? = some s) : expT (d + 1) (l.take (t + 1)) = min 1000000 (expT (d + 1) (l.take t) + expE (hdT s).k (hdT s).count (expT d (bdT s))) := by
  rw [List.take_add_one, h]
  simp [expT, List.foldl_append]
theorem expT_le : ∀ (d : Nat) (l : List (Tr d)), expT d l ≤ 1000000 := by
  intro d l
  cases d with
  | zero => exact Nat.zero_le _
  | succ d =>
    rcases List.eq_nil_or_concat l with rfl | ⟨l', s, rfl⟩
    · exact Nat.zero_le _
    · simp only [expT, List.concat_eq_append, List.foldl_append, List.foldl_cons, List.foldl_nil]
      exact Nat.min_le_left _ _
end Go.Proofs.YtbamjfbfipkioaaDoor
namespace Go.Proofs.YtbamjfbfipkioaaDoor
def eqBy {α : Type} (f : α → α → Bool) (l l' : List α) : Bool := (l.length == l'.length) && (List.zip l l').all (fun p => f p.1 p.2)
def EqUpto {α : Type} (f : α → α → Bool) (l l' : List α) (t : Nat) : Prop := ∀ j, j < t → ∀ x y, l[j]? = some x → l'[j]? = some y → f x y = true
section
variable {α : Type} {f : α → α → Bool} {l l' : List α}
theorem eqBy_len (h : l.length ≠ l'.length) : eqBy f l l' = false := by simp [eqBy, h]
theorem eqBy_f {k : Nat} {x y : α} (hx : l[k]? = some x) (hy : l'[k]? = some y) (h : f x y = false) : eqBy f l l' = false := by
  have hm : (x, y) ∈ List.zip l l' := by
    have : (List.zip l l')[k]? = some (x, y) := by rw [List.getElem?_zip_eq_some]; exact ⟨hx, hy⟩
    exact List.mem_of_getElem? this
  rw [eqBy, Bool.and_eq_false_iff]
  right
  rw [List.all_eq_false]
  exact ⟨_, hm, by simp [h]⟩
theorem eqBy_t {t : Nat} (hl : l.length = l'.length) (h : EqUpto f l l' t) (ht : l.length ≤ t) : eqBy f l l' = true := by
  rw [eqBy, Bool.and_eq_true]
  refine ⟨by simp [hl], List.all_eq_true.2 fun p hp => ?_⟩
  obtain ⟨j, hj⟩ := List.getElem?_of_mem hp
  rw [List.getElem?_zip_eq_some] at hj
  have := (List.getElem?_eq_some_iff.1 hj.1).1
  exact h j (by omega) _ _ hj.1 hj.2
theorem eqUpto_zero : EqUpto f l l' 0 := fun _ h => absurd h (by omega)
theorem eqUpto_step {t : Nat} {x y : α} (h : EqUpto f l l' t) (hx : l[t]? = some x) (hy : l'[t]? = some y) (he : f x y = true) : EqUpto f l l' (t + 1) := by
  intro j hj a b ha hb
  by_cases hjt : j < t
  · exact h j hjt a b ha hb
  · obtain rfl : j = t := by omega
    rw [hx] at ha
    rw [hy] at hb
    injection ha with ha
    injection hb with hb
    subst ha hb
    exact he
theorem eqBy_refl (hf : ∀ x ∈ l, f x x = true) : eqBy f l l = true :=
  eqBy_t rfl (fun j _ x y hx hy => by rw [hx] at hy; injection hy with hy; subst hy; exact hf x (List.mem_of_getElem? hx)) (Nat.le_refl _)
theorem eqBy_eq (hf : ∀ x ∈ l, ∀ y, f x y = true → x = y) (h : eqBy f l l' = true) : l = l' := by
  rw [eqBy, Bool.and_eq_true] at h
  obtain ⟨h1, h2⟩ := h
  refine List.ext_getElem (by simpa using h1) fun i hi hi' => ?_
  refine hf _ (List.getElem_mem hi) _ ?_
  have hz : (l[i], l'[i]) ∈ List.zip l l' := by
    have : (List.zip l l')[i]? = some (l[i], l'[i]) := by rw [List.getElem?_zip_eq_some]; exact ⟨List.getElem?_eq_getElem hi, List.getElem?_eq_getElem hi'⟩
    exact List.mem_of_getElem? this
  exact List.all_eq_true.1 h2 _ hz
end
/-- Whether two strings are equal, as Go's '==' asks it. -/
def eqSt (a b : ByteArray) : Bool := a.toList == b.toList
theorem toList_data (a : ByteArray) : a.toList = a.data.toList := Lib.toList_data a
theorem eqSt_refl (a : ByteArray) : eqSt a a = true := by simp [eqSt]
theorem eqSt_eq {a b : ByteArray} (h : eqSt a b = true) : a = b := by
  have h' : a.toList = b.toList := by simpa [eqSt] using h
  rw [toList_data, toList_data] at h'
  cases a
  cases b
  simp_all
end Go.Proofs.YtbamjfbfipkioaaDoor
namespace Go.Proofs.YtbamjfbfipkioaaDoor
open Go.RowKit
theorem quiet_any {P : Program} {f : FuncId} {args : Array Value} {w : World} {n : Nat} {v : Value}
    (h : Calls P f args (w.drewN n) fun e w' => e = .returned v ∧ ∃ m, w' = (w.drewN n).drewN m) : Calls P f args (w.drewN n) fun e w'' => e = .returned v ∧ ∃ m, w'' = w.drewN m :=
  h.mono fun _ _ ⟨he, m, hm⟩ => ⟨he, n + m, by rw [hm, World.drewN_drewN]⟩
theorem quiet_anyAdd {P : Program} {f : FuncId} {args : Array Value} {w : World} {a n : Nat} {v : Value}
    (h : Calls P f args (w.drewN (a + n)) fun e w' => e = .returned v ∧ ∃ m, w' = (w.drewN (a + n)).drewN m) :
    Calls P f args (w.drewN (a + n)) fun e w'' => e = .returned v ∧ ∃ m, w'' = w.drewN (a + m) :=
  h.mono fun _ _ ⟨he, m, hm⟩ => ⟨he, n + m, by rw [hm, World.drewN_drewN, Nat.add_assoc]⟩
theorem drewN2 (w : World) (m n : Nat) : ∃ k, (w.drewN m).drewN n = w.drewN k := ⟨m + n, by rw [World.drewN_drewN]⟩
theorem below_quiet {w w' : World} (h : ∃ m, w' = w.drewN m) : Below w.heap.size w w' ∧ w.heap.size ≤ w'.heap.size := by
  obtain ⟨m, rfl⟩ := h
  exact ⟨below_drewN (Below.refl _ _) m, Nat.le_refl _⟩
end Go.Proofs.YtbamjfbfipkioaaDoor
namespace Go.Proofs.YtbamjfbfipkioaaDoor
open Go.RowKit
set_option linter.unusedVariables false
end Go.Proofs.YtbamjfbfipkioaaDoor
namespace Go.Proofs.YtbamjfbfipkioaaDoor
open Go.RowKit
set_option linter.unusedVariables false
def hasS (l : List ByteArray) (s : ByteArray) : Bool := l.any fun x => eqSt x s
theorem hasS_t {l : List ByteArray} {s x : ByteArray} {t : Nat} (h : l[t]? = some x) (he : eqSt x s = true) : hasS l s = true := List.any_eq_true.2 ⟨x, List.mem_of_getElem? h, he⟩
theorem hasS_step {l : List ByteArray} {s x : ByteArray} {t : Nat} (h : l[t]? = some x) (he : eqSt x s = false) (h0 : hasS (l.take t) s = false) : hasS (l.take (t + 1)) s = false := by
  unfold hasS at h0 ⊢
  rw [List.take_add_one, h]
  simp only [Option.toList_some, List.any_append, h0, List.any_cons, List.any_nil, he]
  rfl
set_option maxRecDepth 100000 in
set_option maxHeartbeats 1000000 in
theorem hasWord_any (A : Option Addr) (n c : Nat) (l : List ByteArray) (s : ByteArray) (w : World) (h : Rd w 1 A n (strs l)) (hl : l.length = n) (hn : n ≤ 1099511627776) :
    Calls Tryd.prog 38 #[.slice A n c, .string s] w fun e w' => e = .returned (.bool (hasS l s)) ∧ w = w' := by
  have H := Lib.hid h
  have HL := Lib.hid hl
  clear h hl
  go_enter Tryd.func38, Tryd.ntmps38
  go_wp2
  go_loop [9] (fun i => ∃ t : Nat, t ≤ n ∧ i = .int .i64 t ∧ hasS (l.take t) s = false) (fun i => n - (intOf i).toNat)
  case atStart => exact ⟨0, Nat.zero_le _, rfl, rfl⟩
  case round =>
    obtain ⟨t, ht, rfl, hok⟩ := hrel
    have HOK := Lib.hid hok
    clear hok
    by_cases hlt : t < n
    · obtain ⟨x, hx⟩ : ∃ x, l[t]? = some x := ⟨_, List.getElem?_eq_getElem (by rw [HL.out]; exact hlt)⟩
      obtain ⟨b, off, rfl, _, hc⟩ := H.out.2 (by omega)
      have q0 := hc t _ (strs_at hx)
      have HX := Lib.hid hx
      clear hc hx
      cases he : eqSt x s
      · have hne : (x.toList == s.toList) = false := he
        have HN := Lib.hid (hasS_step HX.out he HOK.out)
        clear he
        go_wp2_with fail
        go_round
        case rel => exact ⟨t + 1, by omega, by go_num, HN.out⟩
        case measure => simp [intOf]; omega
      · have hne : (x.toList == s.toList) = true := he
        have HF := Lib.hid (hasS_t HX.out he)
        clear he
        go_wp2_with fail
        go_ret
        exact ⟨by rw [HF.out]; rfl, rfl⟩
    · obtain rfl : t = n := by omega
      have HF : Hid (hasS l s = false) := by
        have h := HOK.out
        rw [List.take_of_length_le (by rw [HL.out]; exact Nat.le_refl _)] at h
        exact h
      go_wp2_with fail
      go_ret
      exact ⟨by rw [HF.out]; rfl, rfl⟩
set_option maxRecDepth 100000 in
set_option maxHeartbeats 1000000 in
theorem l1Has_any (A : Option Addr) (n c : Nat) (l : List ByteArray) (s : ByteArray) (w : World) (h : Rd w 1 A n (strs l)) (hl : l.length = n) (hn : n ≤ 1099511627776) :
    Calls Tryd.prog 40 #[.slice A n c, .string s] w fun e w' => e = .returned (.bool (hasS l s)) ∧ w = w' := by
  have H := Lib.hid h
  have HL := Lib.hid hl
  clear h hl
  go_enter Tryd.func40, Tryd.ntmps40
  go_wp2
  go_loop [5] (fun i => ∃ t : Nat, t ≤ n ∧ i = .int .i64 t ∧ hasS (l.take t) s = false) (fun i => n - (intOf i).toNat)
  case atStart => exact ⟨0, Nat.zero_le _, rfl, rfl⟩
  case round =>
    obtain ⟨t, ht, rfl, hok⟩ := hrel
    have HOK := Lib.hid hok
    clear hok
    by_cases hlt : t < n
    · obtain ⟨x, hx⟩ : ∃ x, l[t]? = some x := ⟨_, List.getElem?_eq_getElem (by rw [HL.out]; exact hlt)⟩
      obtain ⟨b, off, rfl, _, hc⟩ := H.out.2 (by omega)
      have q0 := hc t _ (strs_at hx)
      have HX := Lib.hid hx
      clear hc hx
      cases he : eqSt x s
      · have hne : (x.toList == s.toList) = false := he
        have HN := Lib.hid (hasS_step HX.out he HOK.out)
        clear he
        go_wp2_with fail
        go_round
        case rel => exact ⟨t + 1, by omega, by go_num, HN.out⟩
        case measure => simp [intOf]; omega
      · have hne : (x.toList == s.toList) = true := he
        have HF := Lib.hid (hasS_t HX.out he)
        clear he
        go_wp2_with fail
        go_ret
        exact ⟨by rw [HF.out]; rfl, rfl⟩
    · obtain rfl : t = n := by omega
      have HF : Hid (hasS l s = false) := by
        have h := HOK.out
        rw [List.take_of_length_le (by rw [HL.out]; exact Nat.le_refl _)] at h
        exact h
      go_wp2_with fail
      go_ret
      exact ⟨by rw [HF.out]; rfl, rfl⟩
end Go.Proofs.YtbamjfbfipkioaaDoor
namespace Go.Proofs.YtbamjfbfipkioaaDoor
open Go.RowKit
set_option linter.unusedVariables false
theorem pickedS {w : World} {L : List ByteArray} {b : Nat} (hb : b = w.heap.size) : Rd (w.alloc (.cells (L.map Value.string).toArray 9)) 1 (some ⟨b, 0, none⟩) L.length (L.map Value.string) := by
  have h := rd_lit1 (w := w) (cs := (L.map Value.string).toArray) (e := 9) (n := L.length) (size := 1) hb (by simp)
  simpa using h
/-- A draw of one of some texts. -/
def DSm (L : List ByteArray) (w : World) (p : Nat) (e : Ending) (w' : World) : Prop := ∃ x : ByteArray, x ∈ L ∧ e = .returned (.string x) ∧ CurAt w' p ∧ w.grownBy w' (some p)
set_option maxRecDepth 100000 in
set_option maxHeartbeats 1000000 in
theorem l1Pick_any (b k c : Nat) (L : List ByteArray) (w : World) (p : Nat) (hcur : CurAt w p) (hL : L.length = k) (hk : 0 < k) (hk2 : k ≤ 1000) (hr : Rd w 1 (some ⟨b, 0, none⟩) k (L.map Value.string)) (hne : b ≠ p) : Calls Tryd.prog 35 #[.pointer (some ⟨p, 0, none⟩), .slice (some ⟨b, 0, none⟩) k c] w (DSm L w p) := by
  have HL := Lib.hid hL
  have HR := Lib.hid hr
  clear hL hr
  go_enter Tryd.func35, Tryd.ntmps35
  go_wp2_with fail
  refine (l1Below_any k (k - 1) w p hcur (by omega) (by omega) (by omega)).mono ?_
  rintro e w1 ⟨x, hx0, hx1, rfl, hc1, hg1⟩
  obtain ⟨j, rfl⟩ : ∃ j : Nat, x = j := ⟨x.toNat, by omega⟩
  have hjk : j < k := by omega
  obtain ⟨y, hy⟩ : ∃ y, L[j]? = some y := ⟨_, List.getElem?_eq_getElem (by rw [HL.out]; exact hjk)⟩
  have hq : w1.cell? ⟨b, j, none⟩ = some (.string y) := by
    obtain ⟨b', off, e, hl, hc⟩ := (grown_rd HR.out hg1 (fun _ ad e => by cases e; exact hne)).2 hk
    injection e with e
    injection e with e1 e2
    subst e1 e2
    have := hc j (.string y) (by simp [hy])
    simpa using this
  have HY := Lib.hid (List.mem_of_getElem? hy)
  clear hy
  go_wp2_with fail
  go_ret
  exact ⟨y, HY.out, rfl, hc1, hg1⟩
/-- A drawn text of at most M bytes. -/
def DTx (M : Nat) (w : World) (p : Nat) (e : Ending) (w' : World) : Prop := ∃ x : ByteArray, x.size ≤ M ∧ e = .returned (.string x) ∧ CurAt w' p ∧ w.grownBy w' (some p)
end Go.Proofs.YtbamjfbfipkioaaDoor
namespace Go.Proofs.YtbamjfbfipkioaaDoor
open Go.RowKit
set_option linter.unusedVariables false
theorem own_ne_typeG {w : World} {base e size n g : Nat} {v : Value} {xs : List Value} {cs : Array Value} {t : TypeId} (h : w.ownsRow base e size v n xs) (hg : w.heap[g]? = some (.cells cs t (0, 0))) (hne : e ≠ t) : v.ownBlock ≠ some g := by
  rcases h.2 with ⟨rfl, _⟩ | ⟨g', cap, cur, rfl, _, hh, _⟩
  · simp [Value.ownBlock]
  · intro he
    have e1 : g' = g := by simpa [Value.ownBlock] using he
    subst e1
    rw [hh] at hg
    injection hg with hg
    injection hg with _ ht
    exact hne ht
theorem heap_set_farG {w : World} {g : Nat} {o : Obj} {p : Addr} (h : w.heap[g]? = some o) (hp : g ≠ p.block) (u : Value) : (w.setCell p u).heap[g]? = some o := (Below.heap_setCell w p u g hp).trans h
theorem heap_set_selfG {w : World} {g i : Nat} {t : TypeId} {cs : Array Value} (h : w.heap[g]? = some (.cells cs t (0, 0))) (u : Value) : (w.setCell ⟨g, i, none⟩ u).heap[g]? = some (.cells (cs.setIfInBounds i u) t (0, 0)) := by
  simp [World.setCell, Array.getElem?_modify, h]
theorem own_setfarG {w : World} {base e size n : Nat} {v : Value} {xs : List Value} (h : w.ownsRow base e size v n xs) {p : Addr} (hp : v.ownBlock ≠ some p.block) (u : Value) : (w.setCell p u).ownsRow base e size v n xs := by
  refine ⟨h.1, ?_⟩
  rcases h.2 with hn | ⟨g, cap, cur, rfl, hb, hh, rest⟩
  · exact .inl hn
  · exact .inr ⟨g, cap, cur, rfl, hb, heap_set_farG hh (fun e => hp (by simp [Value.ownBlock, e])) u, rest⟩
theorem own_drewG {w : World} {base e size n : Nat} {v : Value} {xs : List Value} (h : w.ownsRow base e size v n xs) : w.drew.ownsRow base e size v n xs := h
theorem own_drewNG {w : World} {base e size n : Nat} {v : Value} {xs : List Value} (h : w.ownsRow base e size v n xs) (k : Nat) : (w.drewN k).ownsRow base e size v n xs := h
theorem own_drawG {w1 w2 : World} {B e size n p : Nat} {v : Value} {xs : List Value} (h : w1.ownsRow B e size v n xs) (hg : w1.grownBy w2 (some p)) (hp : p < B) : w2.ownsRow B e size v n xs := h.kept hg (by
  cases hk : v.ownBlock with
  | none => exact .inl rfl
  | some k =>
    refine .inr fun e => ?_
    injection e with e
    have := (h.lt k hk).1
    omega)
theorem cells5G {w w' : World} {b : Nat} {x0 x1 x2 x3 x4 : Value} {t : TypeId} (lay : Below w'.heap.size w' w) (h : w'.heap[b]? = some (.cells #[x0, x1, x2, x3, x4] t (0, 0))) :
    w.cell? ⟨b, 0, none⟩ = some x0 ∧ w.cell? ⟨b, 1, none⟩ = some x1 ∧ w.cell? ⟨b, 2, none⟩ = some x2 ∧ w.cell? ⟨b, 3, none⟩ = some x3 ∧ w.cell? ⟨b, 4, none⟩ = some x4 := by
  have h' : w.heap[b]? = some (.cells #[x0, x1, x2, x3, x4] t (0, 0)) := (lay.block b (lt_of_block h)).trans h
  exact ⟨by simp [World.cell?, h'], by simp [World.cell?, h'], by simp [World.cell?, h'], by simp [World.cell?, h'], by simp [World.cell?, h']⟩
theorem one_strG (a : ByteArray) : ∀ u ∈ [Value.string a], u.oneCell' = true := by
  intro u hu
  rw [List.mem_singleton.1 hu]
  rfl
theorem strs_snocG (l : List ByteArray) (a : ByteArray) : strs (l ++ [a]) = strs l ++ [.string a] := by simp [strs]
theorem strs_oneG : ∀ l : List ByteArray, ∀ u ∈ strs l, u.oneCell' = true := by
  intro l u hu
  obtain ⟨s, _, rfl⟩ := List.mem_map.1 hu
  rfl
theorem RdQ.set_ {w : World} {P : Nat → Prop} {size n : Nat} {A : Option Addr} {xs : List Value} (h : RdQ w P size A n xs) {p : Addr} (hp : ¬ P p.block) (u : Value) : RdQ (w.setCell p u) P size A n xs :=
  h.keep (fun b hb _ => Below.heap_setCell w p u b (fun e => hp (e ▸ hb))) (by simp [World.setCell])
theorem RdQ.below {w w' : World} {P : Nat → Prop} {size n : Nat} {A : Option Addr} {xs : List Value} (h : RdQ w P size A n xs) (hb : Below w.heap.size w w') : RdQ w' P size A n xs :=
  h.keep (fun b _ hlt => hb.block b hlt) hb.size
theorem RdQ.call {w w' : World} {P : Nat → Prop} {size n p : Nat} {A : Option Addr} {xs : List Value} (h : RdQ w P size A n xs) (hg : w.grownBy w' (some p)) (hp : ¬ P p) : RdQ w' P size A n xs :=
  h.keep (fun b hb hlt => hg.block b hlt (fun e => by injection e with e; exact hp (e ▸ hb))) hg.size
theorem TrQ.below {w w' : World} {P : Nat → Prop} {d n : Nat} {A : Option Addr} {l : List (Tr d)} (h : TrQ w P d A n l) (hb : Below w.heap.size w w') : TrQ w' P d A n l :=
  h.keep (fun b _ hlt => hb.block b hlt) hb.size
theorem TrQ.call {w w' : World} {P : Nat → Prop} {d n p : Nat} {A : Option Addr} {l : List (Tr d)} (h : TrQ w P d A n l) (hg : w.grownBy w' (some p)) (hp : ¬ P p) : TrQ w' P d A n l :=
  h.keep (fun b hb hlt => hg.block b hlt (fun e => by injection e with e; exact hp (e ▸ hb))) hg.size
theorem trQ_nil {w : World} {P : Nat → Prop} {A : Option Addr} : ∀ d : Nat, TrQ w P d A 0 []
  | 0 => ⟨rfl, rfl⟩
  | _ + 1 => ⟨rfl, fun h => absurd h (by omega)⟩
theorem rd_drawG {w w' : World} {p size n : Nat} {A : Option Addr} {xs : List Value} (h : Rd w size A n xs) (hg : w.grownBy w' (some p)) (hne : ∀ ad, A = some ad → ad.block ≠ p) : Rd w' size A n xs := grown_rd h hg (fun _ => hne)
theorem heap_topG {w : World} {o : Obj} {n : Nat} (hn : n = w.heap.size) : (w.alloc o).heap[n]? = some o := by subst hn; exact heap_alloc_new w o
theorem heap_pastG {w : World} {o ob : Obj} {n : Nat} (hn : n < w.heap.size) (h : w.heap[n]? = some ob) : (w.alloc o).heap[n]? = some ob := (Below.heap_alloc _ _ _ hn).trans h
theorem heap_drewG {w : World} {ob : Obj} {n : Nat} (h : w.heap[n]? = some ob) : w.drew.heap[n]? = some ob := h
theorem rdQ_topG {w : World} {cs : Array Value} {e n size b : Nat} {P : Nat → Prop} (h0 : b = w.heap.size) (hs : cs.size = n * size) (hP : P b) : RdQ (w.alloc (.cells cs e)) P size (some ⟨b, 0, none⟩) n cs.toList := by
  have r := rd_lit1 (e := e) h0 hs
  refine ⟨r.1, fun h => ?_⟩
  obtain ⟨b', off, e, hb, hc⟩ := r.2 h
  injection e with e
  injection e with e1 e2
  subst e1 e2
  exact ⟨b, 0, rfl, hP, hb, hc⟩
theorem rdQ_pastG {w : World} {o : Obj} {P : Nat → Prop} {size n : Nat} {A : Option Addr} {xs : List Value} (h : RdQ w P size A n xs) : RdQ (w.alloc o) P size A n xs := h.below ((Below.refl _ _).alloc (Nat.le_refl _) _)
theorem rdQ_drewG {w : World} {P : Nat → Prop} {size n : Nat} {A : Option Addr} {xs : List Value} (h : RdQ w P size A n xs) : RdQ w.drew P size A n xs := h
theorem wp_name {P : Program} {c : Code} {Q : Exit → Act → World → Prop} {a : Act} {w : World} (h : ∀ wz, wz = w → Code.wp P c Q a wz) : Code.wp P c Q a w := h w rfl
theorem heap_set5 {w : World} {b : Nat} {t : TypeId} {z0 z1 z2 z3 z4 v0 v1 v2 v3 v4 : Value} (h : w.heap[b]? = some (.cells #[z0, z1, z2, z3, z4] t (0, 0))) :
    (((((w.setCell ⟨b, 0, none⟩ v0).setCell ⟨b, 1, none⟩ v1).setCell ⟨b, 2, none⟩ v2).setCell ⟨b, 3, none⟩ v3).setCell ⟨b, 4, none⟩ v4).heap[b]? = some (.cells #[v0, v1, v2, v3, v4] t (0, 0)) :=
  heap_set_selfG (heap_set_selfG (heap_set_selfG (heap_set_selfG (heap_set_selfG h v0) v1) v2) v3) v4
theorem szS_le (m : Nat) : ∀ l : List ByteArray, (∀ s ∈ l, s.size ≤ m) → szS l ≤ l.length * m := by
  intro l
  induction l with
  | nil => intro _; exact Nat.zero_le _
  | cons s l ih =>
    intro h
    have h1 := h s (by simp)
    have h2 := ih (fun x hx => h x (by simp [hx]))
    rw [szS, List.length_cons, Nat.add_mul, Nat.one_mul]
    omega
theorem gname_size (k : Nat) (h : k ≤ 12) : (⟨(gname k).toArray⟩ : ByteArray).size ≤ 4 := by
  have hk : k = 0 ∨ k = 1 ∨ k = 2 ∨ k = 3 ∨ k = 4 ∨ k = 5 ∨ k = 6 ∨ k = 7 ∨ k = 8 ∨ k = 9 ∨ k = 10 ∨ k = 11 ∨ k = 12 := by omega
  rcases hk with rfl | rfl | rfl | rfl | rfl | rfl | rfl | rfl | rfl | rfl | rfl | rfl | rfl <;> decide
/-- The names that a body is drawn over. -/
structure Names (w : World) (p : Nat) (A : Option Addr) (m : Nat) (N : List ByteArray) : Prop where
  rd : Rd w 1 A m (strs N)
  len : N.length = m
  lo : 1 ≤ m
  hi : m ≤ 4
  small : ∀ s ∈ N, s.size ≤ 9
  ne : ∀ ad, A = some ad → ad.block ≠ p
theorem Names.below {w w' : World} {p m : Nat} {A : Option Addr} {N : List ByteArray} (h : Names w p A m N) (hb : Below w.heap.size w w') : Names w' p A m N := ⟨h.rd.below hb, h.len, h.lo, h.hi, h.small, h.ne⟩
theorem Names.call {w w' : World} {p m : Nat} {A : Option Addr} {N : List ByteArray} (h : Names w p A m N) (hg : w.grownBy w' (some p)) : Names w' p A m N := ⟨rd_drawG h.rd hg h.ne, h.len, h.lo, h.hi, h.small, h.ne⟩
theorem Names.fr {w w' : World} {p m : Nat} {A : Option Addr} {N : List ByteArray} (h : Names w p A m N) (hf : Fr w p w') : Names w' p A m N := h.call hf.gr
theorem Names.at_ {w : World} {p m t : Nat} {A : Option Addr} {N : List ByteArray} (h : Names w p A m N) (ht : t < m) : ∃ b off s, A = some ⟨b, off, none⟩ ∧ b < w.heap.size ∧ w.cell? ⟨b, off + t, none⟩ = some (.string s) ∧ s ∈ N ∧ s.size ≤ 9 := by
  obtain ⟨s, hs⟩ : ∃ s, N[t]? = some s := ⟨_, List.getElem?_eq_getElem (by rw [h.len]; exact ht)⟩
  obtain ⟨b, off, e, hb, hc⟩ := h.rd.2 (by omega)
  have hm := List.mem_of_getElem? hs
  exact ⟨b, off, s, e, hb, hc t _ (strs_at hs), hm, h.small s hm⟩
/-- A drawn gate's statement. -/
def DGt (w : World) (p : Nat) (e : Ending) (w' : World) : Prop := ∃ (word : ByteArray) (args : List ByteArray) (Aa : Option Addr) (ca : Nat), e = .returned (.agg #[.int .i64 1, .string word, .slice Aa args.length ca, .int .i64 0, .slice none 0 0]) ∧
  RdQ w' (w.heap.size ≤ ·) 1 Aa args.length (strs args) ∧ (args.length ≤ ca ∧ word.size ≤ 4 ∧ args.length ≤ 3 ∧ szS args ≤ 27) ∧ CurAt w' p ∧ w.grownBy w' (some p)
end Go.Proofs.YtbamjfbfipkioaaDoor
namespace Go.Proofs.YtbamjfbfipkioaaDoor
open Go.RowKit
set_option linter.unusedVariables false
set_option maxRecDepth 100000 in
set_option maxHeartbeats 4000000 in
theorem l17Gate_any (A : Option Addr) (m c : Nat) (N : List ByteArray) (w : World) (p : Nat) (hcur : CurAt w p) (hN : Names w p A m N) : Calls Tryd.prog 63 #[.pointer (some ⟨p, 0, none⟩), .slice A m c] w (DGt w p) := by
  obtain ⟨i0, hi, hz0, hz1, hz2⟩ := info_parts info_str
  have hp := hcur.lt
  have h1 := hN.lo
  have h4 := hN.hi
  have HN := Lib.hid hN
  clear hN
  go_enter Tryd.func63, Tryd.ntmps63
  go_wp2_with fail
  obtain ⟨w0, hw0⟩ : ∃ w0, w0 = w.alloc (.cells #[.int .i64 0, .string ⟨#[]⟩, .slice none 0 0, .int .i64 0, .slice none 0 0] 27) := ⟨_, rfl⟩
  rw [← hw0]
  have x0 : w0.heap[w.heap.size]? = some (.cells #[.int .i64 0, .string ⟨#[]⟩, .slice none 0 0, .int .i64 0, .slice none 0 0] 27 (0, 0)) := by rw [hw0]; exact boxed1_0 _ _
  have hfr0 : Fr w p w0 := by rw [hw0]; exact (Fr.start hcur).alloc _
  have s0 : w.heap.size < w0.heap.size := by rw [hw0]; simp
  clear hw0
  obtain ⟨q, hq, hq1, hq3, hqm⟩ : ∃ q : Nat, imin 3 m = q ∧ 1 ≤ q ∧ q ≤ 3 ∧ q ≤ m := ⟨min 3 m, by unfold imin; split <;> omega, by omega, by omega, by omega⟩
  have HQ := Lib.hid hq
  clear hq
  refine (l1Min_any _ _ _).mono ?_
  rintro e w' ⟨rfl, rfl⟩
  rw [HQ.out]
  go_wp2_with fail
  refine (l9GateN_any q w0 p hfr0.cur (by omega) (by omega)).mono ?_
  rintro e w1 ⟨k, a, b, c2, ⟨hk1, hk2, hka⟩, rfl, hc1, hg1⟩
  obtain ⟨k, rfl⟩ : ∃ k' : Nat, k = k' := ⟨k.toNat, by omega⟩
  have x1 := box_call x0 hg1 (by omega)
  have hfr1 := hfr0.call hc1 hg1
  have X1 := Lib.hid x1
  have FR1 := Lib.hid hfr1
  have s1 : w.heap.size < w1.heap.size := by have := hg1.size; omega
  clear x0 x1 hc1 hg1 hfr0 hfr1
  go_wp2_with fail
  obtain ⟨w2, hw2⟩ : ∃ w2, w2 = w1.alloc (.cells #[.int .i64 k, .int .i64 a, .int .i64 b, .int .i64 c2] 92) := ⟨_, rfl⟩
  rw [← hw2]
  have y2 : w2.heap[w1.heap.size]? = some (.cells #[.int .i64 k, .int .i64 a, .int .i64 b, .int .i64 c2] 92 (0, 0)) := by rw [hw2]; exact boxed1_0 _ _
  have ba : Below w1.heap.size w1 w2 := by rw [hw2]; exact (by repeat (first | exact Below.refl _ _ | assumption | (refine Below.trans ?_ (Below.mono (by assumption) (by first | omega | (simp; done) | (simp; omega)))) | (with_reducible refine Below.drew ?_) | (with_reducible refine Below.alloc ?_ (by first | omega | (simp; done) | (simp; omega)) _) | (with_reducible refine Below.setCell ?_ (by first | omega | (simp; done) | (simp; omega)) _)))
  have x2 := (ba.block _ s1).trans X1.out
  have hfr2 := FR1.out.below ba
  have hp1 : p < w1.heap.size := FR1.out.cur.lt
  have s2 : w1.heap.size < w2.heap.size := by rw [hw2]; simp
  clear hw2 X1
  refine (l8Perm_n m w2 p hfr2.cur h1 h4).mono ?_
  rintro e w3 ⟨v, L, rfl, hL, hin, hown, hc3, hg3⟩
  have x3 := box_call x2 hg3 (by omega)
  have y3 := box_call y2 hg3 (by omega)
  have hfr3 := hfr2.call hc3 hg3
  have s3 : w2.heap.size ≤ w3.heap.size := hg3.size
  obtain ⟨Ap, cp, rfl, _, _, rp⟩ := rd_of_own hown
  have X3 := Lib.hid x3
  have Y3 := Lib.hid y3
  have FR3 := Lib.hid hfr3
  have RP := Lib.hid rp
  have HL := Lib.hid hL
  have HIN := Lib.hid hin
  obtain ⟨q0, q1, q2, q3⟩ := boxcells4 (lay := Below.refl _ _) y3
  clear x2 x3 y2 y3 ba hfr2 hfr3 hc3 hg3 hown rp hL hin
  go_wp2_with fail
  refine (GateName_spec k (by omega) (by omega) _).mono ?_
  rintro e w4 ⟨rfl, b4, s4⟩
  have hgn := gname_size k (by omega)
  obtain ⟨wd, hwd⟩ : ∃ wd : ByteArray, wd = ⟨(gname k).toArray⟩ := ⟨_, rfl⟩
  rw [← hwd] at hgn ⊢
  have X4 := Lib.hid ((b4.block _ (lt_of_block X3.out)).trans X3.out)
  have Y4 := Lib.hid ((b4.block _ (lt_of_block Y3.out)).trans Y3.out)
  have FR4 := Lib.hid (FR3.out.below b4)
  have RP4 := Lib.hid (RP.out.below b4)
  clear hwd X3 Y3 FR3 RP b4 q0 q1 q2 q3
  go_wp2_with fail
  obtain ⟨X, hX⟩ : ∃ X, X = w4.heap.size := ⟨_, rfl⟩
  obtain ⟨w5, hw5⟩ : ∃ w5, w5 = w4.alloc (.cells #[.int .i64 1, .string wd, .slice none 0 0, .int .i64 0, .slice none 0 0] 27) := ⟨_, rfl⟩
  rw [← hw5, ← hX]
  have z5 : w5.heap[X]? = some (.cells #[.int .i64 1, .string wd, .slice none 0 0, .int .i64 0, .slice none 0 0] 27 (0, 0)) := by rw [hw5, hX]; exact boxed1_0 _ _
  have b5 : Below X w4 w5 := by rw [hw5, hX]; exact (by repeat (first | exact Below.refl _ _ | assumption | (refine Below.trans ?_ (Below.mono (by assumption) (by first | omega | (simp; done) | (simp; omega)))) | (with_reducible refine Below.drew ?_) | (with_reducible refine Below.alloc ?_ (by first | omega | (simp; done) | (simp; omega)) _) | (with_reducible refine Below.setCell ?_ (by first | omega | (simp; done) | (simp; omega)) _)))
  have s5 : X + 1 = w5.heap.size := by rw [hw5, hX]; simp
  have Z5 := Lib.hid z5
  have B5 := Lib.hid b5
  have HN4 := Lib.hid (HN.out.fr FR4.out)
  have hXs : w2.heap.size ≤ X := by omega
  have HX := Lib.hid hX
  clear hw5 z5 b5 hX
  go_loopw [8] (fun i wr => ∃ (t ca : Nat) (Aa : Option Addr) (args : List ByteArray), i = .int .i64 t ∧ t ≤ ar k ∧ args.length = t ∧ Hid (∀ s ∈ args, s.size ≤ 9) ∧ Hid (wr.heap[X]? = some (.cells #[.int .i64 1, .string wd, .slice Aa t ca, .int .i64 0, .slice none 0 0] 27 (0, 0))) ∧ Hid (wr.ownsRow (X + 1) 9 1 (.slice Aa t ca) t (strs args)) ∧ Hid (Below X w4 wr)) (fun i _ => ar k - (intOf i).toNat)
  case atStart => exact ⟨0, 0, none, [], rfl, Nat.zero_le _, rfl, (fun s hs => absurd hs (by simp) : ∀ s ∈ ([] : List ByteArray), s.size ≤ 9), Z5.out, ⟨rfl, .inl ⟨rfl, rfl⟩⟩, B5.out⟩
  case round =>
    obtain ⟨t, ca, Aa, args, rfl, ht, hal, hsm, hx, hown, hb⟩ := hrel
    obtain ⟨wE, rfl⟩ : ∃ wE : World, wE = wr := ⟨_, rfl⟩
    have hbs := hb.out.size
    have hlX := lt_of_block hx.out
    have y := (hb.out.block _ (by omega)).trans Y4.out
    obtain ⟨q0, q1, q2, q3⟩ := boxcells4 (lay := Below.refl _ _) y
    obtain ⟨x0, x1, x2, x3, x4⟩ := cells5G (lay := Below.refl _ _) hx.out
    have f2 := free_at (j := 2) hx.out
    have hk9 : ar k ≤ 3 := ar_le k
    have HAL := Lib.hid hal
    clear y hal
    by_cases hlt : t < ar k
    · obtain ⟨y, hy⟩ : ∃ y, L[t]? = some y := ⟨_, List.getElem?_eq_getElem (by rw [HL.out]; omega)⟩
      have hyr := HIN.out y (List.mem_of_getElem? hy)
      obtain ⟨j, rfl⟩ : ∃ j : Nat, y = j := ⟨y.toNat, by omega⟩
      have hbw : Below w4.heap.size w4 w4 := Below.refl _ _
      have hbx : Below w4.heap.size w4 wE := by rw [← HX.out]; exact hb.out
      obtain ⟨bp, op, rfl, hbp, hcp⟩ := (RP4.out.below hbx).2 (by omega)
      have pj : wE.cell? ⟨bp, op + t, none⟩ = some (.int .i64 j) := hcp t _ (by simp [hy])
      obtain ⟨bn, on, s, rfl, hbn, nj, hsN, hs9⟩ := (HN4.out.below hbx).at_ (t := j) (by omega)
      have hjm : j < m := by omega
      have htm : t < m := by omega
      have hS := Lib.hid (show ∀ x ∈ args ++ [s], x.size ≤ 9 from fun x hx => by
        rcases List.mem_append.1 hx with h | h
        · exact hsm.out x h
        · rw [List.mem_singleton.1 h]; exact hs9)
      have hbaX : ∀ ob : Obj, (wE.drew.alloc ob).cell? ⟨X, 2, none⟩ = some (.slice Aa t ca) := fun ob => (World.cell?_alloc_lt wE.drew ob ⟨X, 2, none⟩ hlX).trans x2
      clear hcp hy hbw hbx
      go_wp2_with (go_at_call 47; refine (Arity_spec _ _).mono ?_; rintro e w' ⟨rfl, rfl⟩)
      go_region_law (first | (refine step_append_rdO _ (by rfl) (.tmp 30) (.tmp 38) 24 (by rfl) (X + 1) 9 i0 _ 1 16 Tryd.underlying24 hi hz0 hz1 hz2 (by rfl) (by decide) _ t _ (by rfl) (by exact ((own_drewG hown.out).alloc _)) _ 1 _ [.string s] (by rfl) (by exact rd_lit1 (w := wE.drew) (by rfl) rfl) (by exact one_strG s) (by simp only [maxLen]; omega) (by omega) (by first | omega | (simp; done) | (simp; omega)) ?_; intro v3 w3 own3 gr3 _; obtain ⟨A3, c3, rfl, _, _, _⟩ := rd_of_own own3; have hx3 : w3.heap[X]? = some (.cells #[.int .i64 1, .string wd, .slice Aa t ca, .int .i64 0, .slice none 0 0] 27 (0, 0)) := (gr3.block X (by first | omega | (simp; done) | (simp; omega)) (fun e => own_ne_typeG hown.out hx.out (by decide) e.symm)).trans ((Below.heap_alloc _ _ _ (by first | omega | (simp; done) | (simp; omega))).trans hx.out); have px3 := cell_at (j := 2) (u := .slice Aa t ca) hx3 rfl; have fx3 := free_at (j := 2) hx3; have hlx3 := lt_of_block hx3))
      all_goals
        obtain ⟨w6, hw6⟩ : ∃ w6, w6 = w3.setCell ⟨X, 2, none⟩ (.slice A3 (t + 1) c3) := ⟨_, rfl⟩
        have x6 : w6.heap[X]? = some (.cells #[.int .i64 1, .string wd, .slice A3 (t + 1) c3, .int .i64 0, .slice none 0 0] 27 (0, 0)) := by rw [hw6]; exact heap_set_selfG hx3 _
        have own6 : w6.ownsRow (X + 1) 9 1 (.slice A3 (t + 1) c3) (t + 1) (strs (args ++ [s])) := by rw [hw6, strs_snocG]; exact own_setfarG own3 (own_ne_typeG own3 hx3 (by decide)) _
        have b6 : Below X w4 w6 := by rw [hw6]; exact (((below_drewN hb.out 1).alloc (show X ≤ wE.heap.size by omega) _).grown gr3 (by first | omega | (simp; done) | (simp; omega)) (own_ge (own_lowT hown.out (by omega)))).setCell (Nat.le_refl _) _
        have H6 := Lib.hid (And.intro x6 (And.intro own6 b6))
        go_wp2_with fail
        rw [← hw6]
        go_roundw
        case rel => exact ⟨t + 1, c3, A3, args ++ [s], by go_num, by omega, by rw [List.length_append, HAL.out]; rfl, hS, H6.out.1, H6.out.2.1, H6.out.2.2⟩
        case measure => simp [intOf]; omega
    · obtain rfl : t = ar k := by omega
      have rX := (hb.out.block _ (show w.heap.size < X by omega)).trans X4.out
      obtain ⟨r0, r1, r2, r3, r4⟩ := cells5G (lay := Below.refl _ _) rX
      have g0 := free_at (j := 0) rX
      have g1 := free_at (j := 1) rX
      have g2 := free_at (j := 2) rX
      have g3 := free_at (j := 3) rX
      have g4 := free_at (j := 4) rX
      have FRE := Lib.hid (FR4.out.below (show Below w4.heap.size w4 wE by rw [← HX.out]; exact hb.out))
      have HQE := Lib.hid (rdQ_of_own (own_lowT hown.out (show w.heap.size + 1 ≤ X + 1 by omega)))
      have hz := Lib.hid (szS_le 9 args hsm.out)
      clear rX
      go_wp2_with (go_at_call 47; refine (Arity_spec _ _).mono ?_; rintro e w' ⟨rfl, rfl⟩)
      have hfrE := FRE.out
      have hcap : ar k ≤ ca := by
        obtain ⟨_, _, e, h, _, _⟩ := rd_of_own hown.out
        injection e with _ _ e
        omega
      have hzz := hz.out
      rw [HAL.out] at hzz
      exact bodyPost_ret (v := .agg #[.int .i64 1, .string wd, .slice Aa (ar k) ca, .int .i64 0, .slice none 0 0]) (by simp [results, Tryd.results63, go_sem, r0, r1, r2, r3, r4]) rfl ⟨wd, args, Aa, ca, by rw [HAL.out], by rw [HAL.out]; exact RdQ.mono (P := (w.heap.size + 1 ≤ ·)) (by repeat (first | exact HQE.out | (with_reducible refine RdQ.set_ ?_ (by simp) _))) (fun b _ h => Nat.le_of_succ_le h), by rw [HAL.out]; exact ⟨hcap, hgn, hk9, by omega⟩, (Fr.cur (w := w) (by repeat (first | assumption | (with_reducible refine Fr.alloc ?_ _) | (with_reducible refine Fr.set ?_ hp (by first | omega | (simp; done) | (simp; omega)) _)))), (Fr.gr (by repeat (first | assumption | (with_reducible refine Fr.alloc ?_ _) | (with_reducible refine Fr.set ?_ hp (by first | omega | (simp; done) | (simp; omega)) _))))⟩
end Go.Proofs.YtbamjfbfipkioaaDoor
