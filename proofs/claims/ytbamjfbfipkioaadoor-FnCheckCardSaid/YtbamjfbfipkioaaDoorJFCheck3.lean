/- What the calls that this law reaches answer, part 3 of 30. -/
import Derived.Test.YtbamjfbfipkioaaDoorJFCheck1
import Derived.Test.YtbamjfbfipkioaaDoorJFCheck2
namespace Go.Proofs.YtbamjfbfipkioaaDoor
open Go.RowKit
set_option linter.unusedVariables false
def ltrB (x : Int) : Bool := decide (97 ≤ x ∧ x ≤ 122) || decide (48 ≤ x ∧ x ≤ 57)
theorem ltrB_1 {x : Int} (h1 : 97 ≤ x) (h2 : x ≤ 122) : ltrB x = true := by simp [ltrB, h1, h2]
theorem ltrB_2 {x : Int} (h1 : 48 ≤ x) (h2 : x ≤ 57) : ltrB x = true := by simp [ltrB, h1, h2]
theorem ltrB_f {x : Int} (h1 : x < 97 ∨ 122 < x) (h2 : x < 48 ∨ 57 < x) : ltrB x = false := by simp [ltrB]; omega
set_option maxRecDepth 100000 in
set_option maxHeartbeats 1000000 in
theorem isLetter_any (x : Int) (w : World) : Calls Tryd.prog 46 #[.int .u8 x] w fun e w' => e = .returned (.bool (ltrB x)) ∧ w = w' := by
  by_cases h1 : 97 ≤ x
  · by_cases h2 : x ≤ 122
    · rw [ltrB_1 h1 h2]
      go_enter Tryd.func46, Tryd.ntmps46
      go_wp2
      go_ret
      exact ⟨rfl, rfl⟩
    · rw [ltrB_f (by omega) (by omega)]
      have h3 : decide (x ≤ 122) = false := by simpa using h2
      have h4 : decide (x ≤ 57) = false := by simp; omega
      have h5 : (48 : Int) ≤ x := by omega
      clear h2
      go_enter Tryd.func46, Tryd.ntmps46
      go_wp2
      go_ret
      exact ⟨rfl, rfl⟩
  · have h3 : decide (97 ≤ x) = false := by simpa using h1
    by_cases h4 : 48 ≤ x
    · by_cases h5 : x ≤ 57
      · rw [ltrB_2 h4 h5]
        clear h1
        go_enter Tryd.func46, Tryd.ntmps46
        go_wp2
        go_ret
        exact ⟨rfl, rfl⟩
      · rw [ltrB_f (by omega) (by omega)]
        have h6 : decide (x ≤ 57) = false := by simpa using h5
        clear h1 h5
        go_enter Tryd.func46, Tryd.ntmps46
        go_wp2
        go_ret
        exact ⟨rfl, rfl⟩
    · rw [ltrB_f (by omega) (by omega)]
      have h6 : decide (48 ≤ x) = false := by simpa using h4
      clear h1 h4
      go_enter Tryd.func46, Tryd.ntmps46
      go_wp2
      go_ret
      exact ⟨rfl, rfl⟩
set_option maxRecDepth 100000 in
set_option maxHeartbeats 1000000 in
theorem l16Letter_any (x : Int) (w : World) : Calls Tryd.prog 61 #[.int .u8 x] w fun e w' => e = .returned (.bool (ltrB x)) ∧ w = w' := by
  by_cases h1 : 97 ≤ x
  · by_cases h2 : x ≤ 122
    · rw [ltrB_1 h1 h2]
      go_enter Tryd.func61, Tryd.ntmps61
      go_wp2
      go_ret
      exact ⟨rfl, rfl⟩
    · rw [ltrB_f (by omega) (by omega)]
      have h3 : decide (x ≤ 122) = false := by simpa using h2
      have h4 : decide (x ≤ 57) = false := by simp; omega
      have h5 : (48 : Int) ≤ x := by omega
      clear h2
      go_enter Tryd.func61, Tryd.ntmps61
      go_wp2
      go_ret
      exact ⟨rfl, rfl⟩
  · have h3 : decide (97 ≤ x) = false := by simpa using h1
    by_cases h4 : 48 ≤ x
    · by_cases h5 : x ≤ 57
      · rw [ltrB_2 h4 h5]
        clear h1
        go_enter Tryd.func61, Tryd.ntmps61
        go_wp2
        go_ret
        exact ⟨rfl, rfl⟩
      · rw [ltrB_f (by omega) (by omega)]
        have h6 : decide (x ≤ 57) = false := by simpa using h5
        clear h1 h5
        go_enter Tryd.func61, Tryd.ntmps61
        go_wp2
        go_ret
        exact ⟨rfl, rfl⟩
    · rw [ltrB_f (by omega) (by omega)]
      have h6 : decide (48 ≤ x) = false := by simpa using h4
      clear h1 h4
      go_enter Tryd.func61, Tryd.ntmps61
      go_wp2
      go_ret
      exact ⟨rfl, rfl⟩
def letsUpto (s : ByteArray) (k : Nat) : Bool := (s.data.toList.take k).all fun c => ltrB c.toNat
def wordOk (s : ByteArray) : Bool := letsUpto s s.size && inB s.size 1 8
theorem lets_step {s : ByteArray} {k : Nat} (h : k < s.size) : letsUpto s (k + 1) = (letsUpto s k && ltrB (s[k].toNat : Int)) := by
  unfold letsUpto
  rw [List.take_succ_eq_append_getElem (by simpa using h)]
  simp
  rfl
theorem lets_le {s : ByteArray} {k : Nat} (h : k ≤ s.size) (hf : letsUpto s k = false) : letsUpto s s.size = false := by
  unfold letsUpto at hf ⊢
  rw [List.all_eq_false] at hf ⊢
  obtain ⟨x, hx, hn⟩ := hf
  exact ⟨x, List.mem_of_mem_take (by rwa [List.take_take, Nat.min_eq_left h] : x ∈ List.take k (List.take s.size s.data.toList)), hn⟩
theorem wordOk_f {s : ByteArray} {k : Nat} (h : k < s.size) (hp : letsUpto s k = true) (hf : ltrB (s[k].toNat : Int) = false) : wordOk s = false := by
  have : letsUpto s (k + 1) = false := by rw [lets_step h, hf]; simp
  rw [wordOk, lets_le (by omega) this]
  rfl
theorem wordOk_e {s : ByteArray} (hp : letsUpto s s.size = true) : wordOk s = inB s.size 1 8 := by rw [wordOk, hp]; rfl
set_option maxRecDepth 100000 in
set_option maxHeartbeats 1000000 in
theorem IsValidWord_impl (s : ByteArray) (w : World) (hs : s.size ≤ 9223372036854775807) : Calls Tryd.prog 28 #[.string s] w fun e w' => e = .returned (.bool (wordOk s)) ∧ w = w' := by
  go_enter Tryd.func28, Tryd.ntmps28
  go_wp2
  go_loop [3] (fun i => ∃ k : Nat, k ≤ s.size ∧ i = .int .i64 k ∧ letsUpto s k = true) (fun i => s.size - (intOf i).toNat)
  case atStart => exact ⟨0, Nat.zero_le _, rfl, rfl⟩
  case round =>
    obtain ⟨k, hk, rfl, hp⟩ := hrel
    have HP := Lib.hid hp
    clear hp
    by_cases hlt : k < s.size
    · cases hl : ltrB (s[k].toNat : Int)
      · have HF := Lib.hid (wordOk_f hlt HP.out hl)
        go_wp2_with (go_at_call 46; refine (isLetter_any _ _).mono ?_; rintro e w' ⟨rfl, rfl⟩)
        go_ret
        exact ⟨by rw [HF.out]; rfl, rfl⟩
      · have HS := Lib.hid (show letsUpto s (k + 1) = true by rw [lets_step hlt, HP.out, hl]; rfl)
        go_wp2_with (go_at_call 46; refine (isLetter_any _ _).mono ?_; rintro e w' ⟨rfl, rfl⟩)
        go_round
        case rel => exact ⟨k + 1, by omega, by go_num, HS.out⟩
        case measure => simp [intOf]; omega
    · obtain rfl : k = s.size := by omega
      have HF := Lib.hid (wordOk_e HP.out)
      go_wp2_with (go_at_call 27; refine (in_any _ _ _ _).mono ?_; rintro e w' ⟨rfl, rfl⟩)
      go_ret
      exact ⟨by rw [HF.out]; rfl, rfl⟩
set_option maxRecDepth 100000 in
set_option maxHeartbeats 1000000 in
theorem IsValidWord_spec (s : ByteArray) (w : World) (hs : s.size ≤ 9223372036854775807) : Calls Tryd.prog 49 #[.string s] w fun e w' => e = .returned (.bool (wordOk s)) ∧ w = w' := by
  go_enter Tryd.func49, Tryd.ntmps49
  go_wp2
  go_loop [3] (fun i => ∃ k : Nat, k ≤ s.size ∧ i = .int .i64 k ∧ letsUpto s k = true) (fun i => s.size - (intOf i).toNat)
  case atStart => exact ⟨0, Nat.zero_le _, rfl, rfl⟩
  case round =>
    obtain ⟨k, hk, rfl, hp⟩ := hrel
    have HP := Lib.hid hp
    clear hp
    by_cases hlt : k < s.size
    · cases hl : ltrB (s[k].toNat : Int)
      · have HF := Lib.hid (wordOk_f hlt HP.out hl)
        go_wp2_with (go_at_call 61; refine (l16Letter_any _ _).mono ?_; rintro e w' ⟨rfl, rfl⟩)
        go_ret
        exact ⟨by rw [HF.out]; rfl, rfl⟩
      · have HS := Lib.hid (show letsUpto s (k + 1) = true by rw [lets_step hlt, HP.out, hl]; rfl)
        go_wp2_with (go_at_call 61; refine (l16Letter_any _ _).mono ?_; rintro e w' ⟨rfl, rfl⟩)
        go_round
        case rel => exact ⟨k + 1, by omega, by go_num, HS.out⟩
        case measure => simp [intOf]; omega
    · obtain rfl : k = s.size := by omega
      have HF := Lib.hid (wordOk_e HP.out)
      go_wp2_with (go_at_call 30; refine (l1In_any _ _ _ _).mono ?_; rintro e w' ⟨rfl, rfl⟩)
      go_ret
      exact ⟨by rw [HF.out]; rfl, rfl⟩
end Go.Proofs.YtbamjfbfipkioaaDoor
namespace Go.Proofs.YtbamjfbfipkioaaDoor
open Go.RowKit
set_option linter.unusedVariables false
def okCount (k count : Int) : Bool := if k = 2 then inB count 1 9 else decide (count = 0)
def headV (k : Int) (word : ByteArray) (na : Nat) (count : Int) (bl : Nat) : Bool :=
  inB k 1 7 && (decide (na = nargs k word) && (decide (k ≠ 1 ∨ nargs k word ≠ 0) && (decide (k = 1 ∨ word.toList = []) && (decide (hasB k = true ∨ bl = 0) && okCount k count))))
theorem gkind_empty {word : ByteArray} (h : word.toList = []) : gkind word = 0 := by
  unfold gkind
  rw [h]
  decide
def vRes (k : Int) (word : ByteArray) (args : List ByteArray) (count : Int) (nb : Nat) (rs : List Bool) : Bool := headV k word args.length count nb && (args.all wordOk && rs.all id)
section
variable {k : Int} {word : ByteArray} {args : List ByteArray} {count : Int} {nb : Nat} {rs : List Bool}
theorem vRes_h (h : headV k word args.length count nb = false) : vRes k word args count nb rs = false := by simp [vRes, h]
theorem vRes_w {t : Nat} {s : ByteArray} (hs : args[t]? = some s) (h : wordOk s = false) : vRes k word args count nb rs = false := by
  have : args.all wordOk = false := by
    rw [List.all_eq_false]
    exact ⟨s, List.mem_of_getElem? hs, by simp [h]⟩
  simp [vRes, this]
theorem vRes_b {t : Nat} (hs : rs[t]? = some false) : vRes k word args count nb rs = false := by
  have : rs.all id = false := by
    rw [List.all_eq_false]
    exact ⟨false, List.mem_of_getElem? hs, by simp⟩
  simp [vRes, this]
theorem vRes_t (h1 : headV k word args.length count nb = true) (h2 : args.all wordOk = true) (h3 : rs.all id = true) : vRes k word args count nb rs = true := by rw [vRes, h1, h2, h3]; rfl
end
theorem all_take {α : Type} (p : α → Bool) {l : List α} {t : Nat} {x : α} (h : l[t]? = some x) : (l.take (t + 1)).all p = ((l.take t).all p && p x) := by
  rw [List.take_add_one, h]
  simp
/-- The statements of a body, and what is answered of each. -/
def Elts (f : Nat) (w : World) (Ab : Option Addr) (nb : Nat) (rs : List Bool) : Prop := ∀ t, t < nb → ∃ (b off : Nat) (k : Int) (wd : ByteArray) (Aa : Option Addr) (na ca : Nat) (ct : Int) (Ab' : Option Addr) (nb' cb' : Nat) (r : Bool),
  Ab = some ⟨b, off, none⟩ ∧ b < w.heap.size ∧ (w.cell? ⟨b, off + t * 5, none⟩ = some (.int .i64 k) ∧ w.cell? ⟨b, off + t * 5 + 1, none⟩ = some (.string wd) ∧ w.cell? ⟨b, off + t * 5 + 2, none⟩ = some (.slice Aa na ca) ∧ w.cell? ⟨b, off + t * 5 + 3, none⟩ = some (.int .i64 ct) ∧ w.cell? ⟨b, off + t * 5 + 4, none⟩ = some (.slice Ab' nb' cb')) ∧
  rs[t]? = some r ∧ ∀ w', Below w.heap.size w w' → Calls Tryd.prog f #[.agg #[.int .i64 k, .string wd, .slice Aa na ca, .int .i64 ct, .slice Ab' nb' cb']] w' fun e w'' => e = .returned (.bool r) ∧ Below w'.heap.size w' w'' ∧ w'.heap.size ≤ w''.heap.size
def vOne (d : Nat) (vt : List (Tr d) → Bool) (h : SH) (bd : List (Tr d)) : Bool := headV h.k h.word h.args.length h.count bd.length && (h.args.all wordOk && vt bd)
/-- Are all statements of a list valid? -/
def validT : (d : Nat) → List (Tr d) → Bool
  | 0, _ => true
  | d + 1, l => l.all fun s => vOne d (validT d) (hdT s) (bdT s)
theorem vRes_one {d : Nat} {k : Int} {word : ByteArray} {args : List ByteArray} {count : Int} {bd : List (Tr d)} {rs : List Bool} (h : rs.all id = validT d bd) : vRes k word args count bd.length rs = vOne d (validT d) ⟨k, word, args, count⟩ bd := by
  simp only [vRes, vOne, h]
theorem rs_valid {d : Nat} (l : List (Tr (d + 1))) : (l.map fun s => vOne d (validT d) (hdT s) (bdT s)).all id = validT (d + 1) l := by simp [validT, List.all_map]
end Go.Proofs.YtbamjfbfipkioaaDoor
namespace Go.Proofs.YtbamjfbfipkioaaDoor
open Go.RowKit
set_option linter.unusedVariables false
/-- A code and a name. -/
abbrev Bad := Int × ByteArray
def bad0 : Bad := (0, ⟨#[]⟩)
def argBad (names held : List ByteArray) (a : ByteArray) : Bad := if hasS names a = false then (2, a) else if hasS held a = true then (4, a) else bad0
def chkA (names held args : List ByteArray) : Nat → List ByteArray → Bad
  | _, [] => bad0
  | i, a :: r => if hasS names a = false then (2, a) else if hasS held a = true then (4, a) else if hasS (args.take i) a = true then (3, a) else chkA names held args (i + 1) r
def ctlS (k : Int) (n : Nat) : Bool := if n = 0 then true else if n = 1 then (k != 7 && (k != 8 && k != 12)) else decide (n = 2) && (k == 1 || k == 3)
def hardW (word : ByteArray) : Bool := word.toList == [116] || (word.toList == [116, 100] || word.toList == [99, 99, 120])
def badI (word : ByteArray) (n : Nat) : Bool := (decide (n = 1) && hardW word) || ((decide (n = 2) && (!(word.toList == [120]) && !(word.toList == [122]))) || decide (2 < n))
def gateBad (names held args : List ByteArray) (word : ByteArray) : Bad := if (chkA names held args 0 args).1 = 0 then (if ctlS (gkind word) held.length = true then bad0 else (9, word)) else chkA names held args 0 args
section
variable {names held args : List ByteArray} {t : Nat} {a : ByteArray}
theorem drop_at (h : args[t]? = some a) : args.drop t = a :: args.drop (t + 1) := by
  obtain ⟨hl, rfl⟩ := List.getElem?_eq_some_iff.1 h
  exact List.drop_eq_getElem_cons hl
theorem chkA_2 (h : args[t]? = some a) (h1 : hasS names a = false) : chkA names held args t (args.drop t) = (2, a) := by rw [drop_at h, chkA, if_pos h1]
theorem chkA_4 (h : args[t]? = some a) (h1 : hasS names a = true) (h2 : hasS held a = true) : chkA names held args t (args.drop t) = (4, a) := by rw [drop_at h, chkA, if_neg (by simp [h1]), if_pos h2]
theorem chkA_3 (h : args[t]? = some a) (h1 : hasS names a = true) (h2 : hasS held a = false) (h3 : hasS (args.take t) a = true) : chkA names held args t (args.drop t) = (3, a) := by rw [drop_at h, chkA, if_neg (by simp [h1]), if_neg (by simp [h2]), if_pos h3]
theorem chkA_0 (h : args[t]? = some a) (h1 : hasS names a = true) (h2 : hasS held a = false) (h3 : hasS (args.take t) a = false) : chkA names held args t (args.drop t) = chkA names held args (t + 1) (args.drop (t + 1)) := by rw [drop_at h, chkA, if_neg (by simp [h1]), if_neg (by simp [h2]), if_neg (by simp [h3])]
theorem gateBad_n {word : ByteArray} {c : Bad} (h : chkA names held args 0 args = c) (hc : c.1 ≠ 0) : gateBad names held args word = c := by rw [gateBad, h, if_neg hc]
theorem gateBad_t {word : ByteArray} (h : chkA names held args 0 args = bad0) (hc : ctlS (gkind word) held.length = true) : gateBad names held args word = bad0 := by rw [gateBad, h, if_pos (show bad0.1 = 0 from rfl), if_pos hc]
theorem gateBad_f {word : ByteArray} (h : chkA names held args 0 args = bad0) (hc : ctlS (gkind word) held.length = false) : gateBad names held args word = (9, word) := by rw [gateBad, h, if_pos (show bad0.1 = 0 from rfl), if_neg (by simp [hc])]
end
theorem gk_names : ∀ k, k < 13 → 0 < k → gkindFrom (gname k) 12 1 = k := by decide
theorem gk_eq {word : ByteArray} {k : Nat} (hk : k < 13) (h0 : 0 < k) : (gkind word = k) ↔ word.toList = gname k := by
  constructor
  · intro h
    have key : ∀ f j, j + f ≤ 13 → gkindFrom word.toList f j = k → word.toList = gname k := by
      intro f
      induction f with
      | zero => intro j _ e; simp [gkindFrom] at e; omega
      | succ f ih =>
        intro j hj e
        simp only [gkindFrom] at e
        split at e
        · rename_i hh
          have := LawfulBEq.eq_of_beq hh
          rw [← e]
          exact this.symm
        · exact ih (j + 1) (by omega) e
    exact key 12 1 (by omega) h
  · intro h
    unfold gkind
    rw [h]
    exact gk_names k hk h0
theorem gk_ne {word : ByteArray} {k : Nat} (hk : k < 13) (h0 : 0 < k) : ((gkind word : Int) != (k : Int)) = !(word.toList == gname k) := by
  by_cases h : word.toList = gname k
  · have := (gk_eq hk h0).2 h
    rw [this, h]
    simp
  · have : gkind word ≠ k := fun e => h ((gk_eq hk h0).1 e)
    have h1 : (word.toList == gname k) = false := by simpa using h
    rw [h1]
    simp
    omega
theorem badI_ctl (word : ByteArray) (n : Nat) : badI word n = !ctlS (gkind word) n := by
  have e7 := gk_ne (word := word) (k := 7) (by decide) (by decide)
  have e8 := gk_ne (word := word) (k := 8) (by decide) (by decide)
  have e12 := gk_ne (word := word) (k := 12) (by decide) (by decide)
  have e1 := gk_ne (word := word) (k := 1) (by decide) (by decide)
  have e3 := gk_ne (word := word) (k := 3) (by decide) (by decide)
  have g7 : gname 7 = [116] := rfl
  have g8 : gname 8 = [116, 100] := rfl
  have g12 : gname 12 = [99, 99, 120] := rfl
  have g1 : gname 1 = [120] := rfl
  have g3 : gname 3 = [122] := rfl
  rw [g7] at e7; rw [g8] at e8; rw [g12] at e12; rw [g1] at e1; rw [g3] at e3
  have f1 : ((gkind word : Int) == 1) = (word.toList == [120]) := by
    have : ((gkind word : Int) == 1) = !((gkind word : Int) != 1) := by simp [bne]
    rw [this]
    have e1' : ((gkind word : Int) != 1) = !(word.toList == [120]) := e1
    rw [e1']
    simp
  have f3 : ((gkind word : Int) == 3) = (word.toList == [122]) := by
    have : ((gkind word : Int) == 3) = !((gkind word : Int) != 3) := by simp [bne]
    rw [this]
    have e3' : ((gkind word : Int) != 3) = !(word.toList == [122]) := e3
    rw [e3']
    simp
  have e7' : ((gkind word : Int) != 7) = !(word.toList == [116]) := e7
  have e8' : ((gkind word : Int) != 8) = !(word.toList == [116, 100]) := e8
  have e12' : ((gkind word : Int) != 12) = !(word.toList == [99, 99, 120]) := e12
  unfold badI ctlS hardW
  rw [f1, f3, e7', e8', e12']
  by_cases n0 : n = 0
  · subst n0; simp
  · by_cases n1 : n = 1
    · subst n1
      cases word.toList == [116] <;> cases word.toList == [116, 100] <;> cases word.toList == [99, 99, 120] <;> simp
    · by_cases n2 : n = 2
      · subst n2
        cases word.toList == [120] <;> cases word.toList == [122] <;> simp
      · have : 2 < n := by omega
        simp [n0, n1, n2, this]
end Go.Proofs.YtbamjfbfipkioaaDoor
