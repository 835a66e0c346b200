/- What the calls that this law reaches answer, part 6 of 30. -/
import Derived.Test.YtbamjfbfipkioaaDoorJFCheck5
namespace Go.Proofs.YtbamjfbfipkioaaDoor
open Go.RowKit
set_option linter.unusedVariables false
def arg1 (h : SH) : ByteArray := h.args.getD 1 ⟨#[]⟩
theorem arg1_of {h : SH} (hl : 1 < h.args.length) : h.args[1]? = some (arg1 h) := by
  unfold arg1
  rw [List.getD_eq_getElem?_getD, List.getElem?_eq_getElem hl]
  rfl
/-- A measurement at the top: what is wrong with it, and the bits behind it. -/
def measT (names bits : List ByteArray) (q b : ByteArray) : Bad × List ByteArray :=
  if hasS names q = false then ((2, q), bits)
  else if hasS names b = true then ((1, b), bits)
  else if hasS bits b = true then ((1, b), bits)
  else if bits.length = 3 then ((8, b), bits)
  else (bad0, bits ++ [b])
/-- A statement at the top. -/
def oneT (d : Nat) (h : SH) (bd : List (Tr d)) (names bits : List ByteArray) : Bad × List ByteArray :=
  if h.k = 6 then measT names bits (arg0 h) (arg1 h)
  else if h.k = 7 then (if hasS bits (arg0 h) = true then chkN d bd names [] else (7, arg0 h), bits)
  else (oneN h (chkN d bd) names [], bits)
def topB {α : Type} (f : α → List ByteArray → Bad × List ByteArray) : List α → List ByteArray → Bad
  | [], _ => bad0
  | s :: l, bits => if (f s bits).1.1 = 0 then topB f l (f s bits).2 else (f s bits).1
/-- The statements of a program. -/
def chkT : (d : Nat) → List (Tr d) → List ByteArray → List ByteArray → Bad
  | 0, _, _, _ => bad0
  | d + 1, l, names, bits => topB (fun s bits => oneT d (hdT s) (bdT s) names bits) l bits
theorem topB_at {α : Type} {f : α → List ByteArray → Bad × List ByteArray} {l : List α} {t : Nat} {s : α} {bits : List ByteArray} (h : l[t]? = some s) : topB f (l.drop t) bits = if (f s bits).1.1 = 0 then topB f (l.drop (t + 1)) (f s bits).2 else (f s bits).1 := by
  obtain ⟨ht, he⟩ := List.getElem?_eq_some_iff.1 h
  rw [List.drop_eq_getElem_cons ht, topB, he]
theorem measT_len {names bits : List ByteArray} {q b : ByteArray} (h : bits.length ≤ 3) : (measT names bits q b).2.length ≤ 3 := by
  unfold measT
  split
  · exact h
  · split
    · exact h
    · split
      · exact h
      · split
        · exact h
        · simp
          omega
theorem oneT_len {d : Nat} {h : SH} {bd : List (Tr d)} {names bits : List ByteArray} (hb : bits.length ≤ 3) : (oneT d h bd names bits).2.length ≤ 3 := by
  unfold oneT
  split
  · exact measT_len hb
  · split <;> exact hb
/-- All blocks but X, and but one row's, are as they were. -/
structure Mod (X : Nat) (r : Option Nat) (w w' : World) : Prop where
  os : w'.os = w.os
  tape : w'.tape = w.tape
  output : w'.output = w.output
  size : w.heap.size ≤ w'.heap.size
  block : ∀ b, b < w.heap.size → b ≠ X → r ≠ some b → w'.heap[b]? = w.heap[b]?
theorem Mod.of_below {w w' : World} (X : Nat) (r : Option Nat) (h : Below w.heap.size w w') : Mod X r w w' := ⟨h.os, h.tape, h.output, h.size, fun b hb _ _ => h.block b hb⟩
theorem Mod.trans {X : Nat} {r r' : Option Nat} {w w1 w2 : World} (h : Mod X r w w1) (h' : Mod X r' w1 w2) (hr : r' = r ∨ ∃ k, r' = some k ∧ w.heap.size ≤ k) : Mod X r w w2 :=
  ⟨h'.os.trans h.os, h'.tape.trans h.tape, h'.output.trans h.output, Nat.le_trans h.size h'.size, fun b hb h1 h2 =>
    (h'.block b (Nat.lt_of_lt_of_le hb h.size) h1 (by
      rcases hr with rfl | ⟨k, rfl, hk⟩
      · exact h2
      · intro e
        have := Option.some.inj e
        omega)).trans (h.block b hb h1 h2)⟩
theorem Mod.grown {X : Nat} {r : Option Nat} {w w1 : World} (h : w.grownBy w1 r) : Mod X r w w1 := ⟨h.os, h.tape, h.output, h.size, fun b hb _ h2 => h.block b hb (fun e => h2 e.symm)⟩
theorem Mod.set {X : Nat} {r : Option Nat} {w w1 : World} (h : Mod X r w w1) {p : Addr} (hp : p.block = X ∨ w.heap.size ≤ p.block) (u : Value) : Mod X r w (w1.setCell p u) :=
  ⟨by simp [World.setCell, h.os], by simp [World.setCell, h.tape], by simp [World.setCell, h.output], by rw [size_setCell]; exact h.size, fun b hb h1 h2 => by
    rw [← h.block b hb h1 h2]
    exact Below.heap_setCell w1 p u b (fun e => by rcases hp with hp | hp <;> omega)⟩
theorem Mod.below {X B : Nat} {r : Option Nat} {w w' : World} (h : Mod X r w w') (hB : B ≤ w.heap.size) (hX : B ≤ X) (hr : ∀ k, r = some k → B ≤ k) : Below B w w' :=
  ⟨h.os, h.tape, h.output, h.size, fun b hb => h.block b (by omega) (by omega) (fun e => by have := hr b e; omega)⟩
/-- The program's checker: its block, and the bits that it knows, a row of its own. -/
structure CkS (w : World) (base X : Nat) (bits : List ByteArray) (v : Value) : Prop where
  x : w.heap[X]? = some (.cells #[v] 62 (0, 0))
  o : w.ownsRow base 9 1 v bits.length (strs bits)
def Grew (r : Option Nat) (z : Nat) (r' : Option Nat) : Prop := r' = r ∨ ∃ k, r' = some k ∧ z ≤ k
def RetM (base X : Nat) (v : Value) (r : Bad × List ByteArray) (w : World) (e : Ending) (w' : World) : Prop :=
  ∃ v', e = .returned (.tuple #[.int .i64 r.1.1, .string r.1.2]) ∧ CkS w' base X r.2 v' ∧ Mod X v.ownBlock w w' ∧ Grew v.ownBlock w.heap.size v'.ownBlock
theorem CkS.below {w w' : World} {base X : Nat} {bits : List ByteArray} {v : Value} (h : CkS w base X bits v) (hb : Below w.heap.size w w') : CkS w' base X bits v :=
  ⟨(hb.block _ (lt_of_block h.x)).trans h.x, ownsRow_below h.o hb⟩
theorem own_ne_typeM {w : World} {base e size n g : Nat} {v : Value} {xs : List Value} {cs : Array Value} {t : TypeId} (h : w.ownsRow base e size v n xs) (hg : w.heap[g]? = some (.cells cs t (0, 0))) (hne : e ≠ t) : v.ownBlock ≠ some g := by
  rcases h.2 with ⟨rfl, _⟩ | ⟨g', cap, cur, rfl, _, hh, _⟩
  · simp [Value.ownBlock]
  · intro he
    have e1 : g' = g := by simpa [Value.ownBlock] using he
    subst e1
    rw [hh] at hg
    injection hg with hg
    injection hg with _ ht
    exact hne ht
theorem own_setfarM {w : World} {base e size n : Nat} {v : Value} {xs : List Value} (h : w.ownsRow base e size v n xs) {p : Addr} (hp : v.ownBlock ≠ some p.block) (u : Value) : (w.setCell p u).ownsRow base e size v n xs := by
  refine ⟨h.1, ?_⟩
  rcases h.2 with hn | ⟨g, cap, cur, rfl, hb, hh, rest⟩
  · exact .inl hn
  · exact .inr ⟨g, cap, cur, rfl, hb, heap_set_far hh (fun e => hp (by simp [Value.ownBlock, e])) u, rest⟩
theorem free_atM {w : World} {b j : Nat} {cs : Array Value} {t : TypeId} (h : w.heap[b]? = some (.cells cs t (0, 0))) : w.frozen? ⟨b, j, none⟩ = false := by simp [World.frozen?, h]
set_option maxRecDepth 100000 in
set_option maxHeartbeats 8000000 in
theorem measure_top (word : ByteArray) (args : List ByteArray) (count : Int) (Aa : Option Addr) (m ca : Nat) (Ac : Option Addr) (nc cc : Nat) (An Ah : Option Addr) (nn cn nh ch base X : Nat) (names bits : List ByteArray) (v : Value) (a c : ByteArray) (w : World)
    (hck : CkS w base X bits v) (hbase : base ≤ w.heap.size) (hb3 : bits.length ≤ 3) (hm : args.length = m) (hra : Rd w 1 Aa m (strs args)) (h2 : 2 ≤ m) (ha : args[0]? = some a) (hc : args[1]? = some c) (hnn : names.length = nn) (hrn : Rd w 1 An nn (strs names)) (h4 : nn ≤ 1048576) :
    Calls Tryd.prog 66 #[.pointer (some ⟨X, 0, none⟩), .agg #[.int .i64 6, .string word, .slice Aa m ca, .int .i64 count, .slice Ac nc cc], .agg #[.slice An nn cn, .slice Ah nh ch, .bool false]] w (RetM base X v (measT names bits a c) w) := by
  obtain ⟨i0, hi, hz0, hz1, hz2⟩ := info_parts info_str
  obtain ⟨w0, hw0⟩ : ∃ w0, w0 = (w.alloc (.cells #[.int .i64 6, .string word, .slice Aa m ca, .int .i64 count, .slice Ac nc cc] 27)).alloc (.cells #[.slice An nn cn, .slice Ah nh ch, .bool false] 65) := ⟨_, rfl⟩
  have X0 := Lib.hid (show w0.heap[w.heap.size]? = some (.cells #[.int .i64 6, .string word, .slice Aa m ca, .int .i64 count, .slice Ac nc cc] 27 (0, 0)) by rw [hw0]; exact boxed2_0 _ _ _)
  have X1 := Lib.hid (show w0.heap[w.heap.size + 1]? = some (.cells #[.slice An nn cn, .slice Ah nh ch, .bool false] 65 (0, 0)) by rw [hw0]; exact boxed2_1 _ _ _)
  have b0 : Below w.heap.size w w0 := by rw [hw0]; exact (by repeat (first | exact Below.refl _ _ | assumption | (refine Below.trans ?_ (Below.mono (by assumption) (by first | omega | (simp; done) | (simp; omega)))) | (with_reducible refine Below.drew ?_) | (with_reducible refine Below.alloc ?_ (by first | omega | (simp; done) | (simp; omega)) _) | (with_reducible refine Below.setCell ?_ (by first | omega | (simp; done) | (simp; omega)) _)))
  have hz : w.heap.size + 1 < w0.heap.size := by rw [hw0]; simp
  have HW := Lib.hid hw0
  have hraA := hra.below b0
  have B0 := Lib.hid b0
  have HNA := Lib.hid (hrn.below b0)
  have HNN := Lib.hid hnn
  obtain ⟨A, cb, rfl, hcap, _, _⟩ := rd_of_own hck.o
  have CK := Lib.hid (hck.below b0)
  have HRB := Lib.hid (rd_own CK.out.o)
  have px := cell_at (j := 0) (u := .slice A bits.length cb) CK.out.x rfl
  have fx := free_atM (j := 0) CK.out.x
  have hxl : X < w0.heap.size := lt_of_block CK.out.x
  have hxw : X < w.heap.size := lt_of_block hck.x
  obtain ⟨p0, p1, p2, p3, p4⟩ := boxcells5 (lay := Below.refl _ _) X0.out
  obtain ⟨q0, q1, q2⟩ := boxcells3 (lay := Below.refl _ _) X1.out
  obtain ⟨b, off, rfl, hbl, hcl⟩ := hraA.2 (by omega)
  have r0 := hcl 0 _ (strs_at ha)
  have r1 := hcl 1 _ (strs_at hc)
  simp only [Nat.add_zero] at r0
  clear hw0 hra hraA hcl ha hc hm hck hrn hnn
  clear b0
  cases e1 : hasS names a
  · have HS : Hid (measT names bits a c = ((2, a), bits)) := by rw [measT, if_pos e1]; exact rfl
    go_enter Tryd.func66, Tryd.ntmps66
    go_upto_region 1 with (fail)
    rw [← HW.out]
    go_wp2_with (first | (go_at_call 38; (with_reducible refine (hasWord_any An nn cn names a w0 HNA.out HNN.out (by omega)).mono ?_); rintro e w' ⟨rfl, rfl⟩) | (go_at_call 38; (with_reducible refine (hasWord_any An nn cn names c w0 HNA.out HNN.out (by omega)).mono ?_); rintro e w' ⟨rfl, rfl⟩) | (go_at_call 38; (with_reducible refine (hasWord_any A bits.length cb bits c w0 HRB.out rfl (by omega)).mono ?_); rintro e w' ⟨rfl, rfl⟩))
    go_ret2
    exact ⟨_, by rw [HS.out]; exact rfl, by rw [HS.out]; exact CK.out, Mod.of_below _ _ B0.out, .inl rfl⟩
  · cases e2 : hasS names c
    · cases e3 : hasS bits c
      · by_cases h3 : bits.length = 3
        · have HS : Hid (measT names bits a c = ((8, c), bits)) := by rw [measT, if_neg (by rw [e1]; decide), if_neg (by rw [e2]; decide), if_neg (by rw [e3]; decide), if_pos h3]; exact rfl
          have d3 : decide ((3 : Int) ≤ (bits.length : Int)) = true := by simp; omega
          have d3' : decide (3 ≤ bits.length) = true := by simp; omega
          have H3 := Lib.hid h3
          clear h3
          go_enter Tryd.func66, Tryd.ntmps66
          go_upto_region 1 with (fail)
          rw [← HW.out]
          go_wp2_with (first | (go_at_call 38; (with_reducible refine (hasWord_any An nn cn names a w0 HNA.out HNN.out (by omega)).mono ?_); rintro e w' ⟨rfl, rfl⟩) | (go_at_call 38; (with_reducible refine (hasWord_any An nn cn names c w0 HNA.out HNN.out (by omega)).mono ?_); rintro e w' ⟨rfl, rfl⟩) | (go_at_call 38; (with_reducible refine (hasWord_any A bits.length cb bits c w0 HRB.out rfl (by omega)).mono ?_); rintro e w' ⟨rfl, rfl⟩))
          go_ret2
          exact ⟨_, by rw [HS.out]; exact rfl, by rw [HS.out]; exact CK.out, Mod.of_below _ _ B0.out, .inl rfl⟩
        · have HS : Hid (measT names bits a c = (bad0, bits ++ [c])) := by rw [measT, if_neg (by rw [e1]; decide), if_neg (by rw [e2]; decide), if_neg (by rw [e3]; decide), if_neg h3]; exact rfl
          have d3 : decide ((3 : Int) ≤ (bits.length : Int)) = false := by simp; omega
          have d3' : decide (3 ≤ bits.length) = false := by simp; omega
          have hb2 : bits.length ≤ 2 := by omega
          have H3 := Lib.hid h3
          clear h3
          go_enter Tryd.func66, Tryd.ntmps66
          go_upto_region 1 with (fail)
          rw [← HW.out]
          go_wp2_with (first | (first | (go_at_call 38; (with_reducible refine (hasWord_any An nn cn names a w0 HNA.out HNN.out (by omega)).mono ?_); rintro e w' ⟨rfl, rfl⟩) | (go_at_call 38; (with_reducible refine (hasWord_any An nn cn names c w0 HNA.out HNN.out (by omega)).mono ?_); rintro e w' ⟨rfl, rfl⟩) | (go_at_call 38; (with_reducible refine (hasWord_any A bits.length cb bits c w0 HRB.out rfl (by omega)).mono ?_); rintro e w' ⟨rfl, rfl⟩)) | (at_builtin; refine wpList_append_rd _ rfl _ _ 24 rfl base 9 i0 _ 1 16 Tryd.underlying24 hi hz0 hz1 hz2 rfl (by decide) _ _ _ rfl (CK.out.o.alloc _) _ 1 1 _ rfl (rd_lit4 ?c0 rfl) ?c2 ?c3 ?c4 ?c5 ?_))
          case c0 => first | omega | rfl | (simp; done)
          case c2 => repeat' (first | rfl | apply And.intro)
          case c3 => simp only [maxLen]; omega
          case c4 => omega
          case c5 => simp; omega
          intro v3 w3 own3 gr3 at3
          obtain ⟨A3, c3, rfl, _, _, _⟩ := rd_of_own own3
          have hx3 : w3.heap[X]? = some (.cells #[.slice A bits.length cb] 62 (0, 0)) := (gr3.block X (by simp; omega) (fun e => own_ne_typeM CK.out.o CK.out.x (by decide) e.symm)).trans ((Below.heap_alloc _ _ _ (by omega)).trans CK.out.x)
          have px3 := cell_at (j := 0) (u := .slice A bits.length cb) hx3 rfl
          have fx3 := free_atM (j := 0) hx3
          have hlx3 := lt_of_block hx3
          have M3 : Mod X (Value.slice A bits.length cb).ownBlock w w3 := ((Mod.of_below X (Value.slice A bits.length cb).ownBlock B0.out).trans (Mod.of_below X _ ((Below.refl _ _).alloc (Nat.le_refl _) _)) (.inl rfl)).trans (Mod.grown gr3) (.inl rfl)
          have C4 : CkS (w3.setCell ⟨X, 0, none⟩ (.slice A3 (bits.length + 1) c3)) base X (bits ++ [c]) (.slice A3 (bits.length + 1) c3) := ⟨heap_set_self hx3 _, by rw [List.length_append, strs_snoc2]; exact own_setfarM own3 (own_ne_typeM own3 hx3 (by decide)) _⟩
          have G4 : Grew (Value.slice A bits.length cb).ownBlock w.heap.size (Value.slice A3 (bits.length + 1) c3).ownBlock := by
            rcases at3 with e | e
            · exact .inl e
            · exact .inr ⟨_, e, by have := B0.out.size; first | omega | (simp; omega)⟩
          have M4 := Lib.hid (M3.set (p := ⟨X, 0, none⟩) (.inl rfl) (.slice A3 (bits.length + 1) c3))
          have HC4 := Lib.hid C4
          have HG4 := Lib.hid G4
          clear M3 C4 G4 gr3 own3 at3 hx3
          go_wp2_with fail
          go_ret2
          exact ⟨_, by rw [HS.out]; exact rfl, by rw [HS.out]; exact HC4.out, M4.out, HG4.out⟩
      · have HS : Hid (measT names bits a c = ((1, c), bits)) := by rw [measT, if_neg (by rw [e1]; decide), if_neg (by rw [e2]; decide), if_pos e3]; exact rfl
        go_enter Tryd.func66, Tryd.ntmps66
        go_upto_region 1 with (fail)
        rw [← HW.out]
        go_wp2_with (first | (go_at_call 38; (with_reducible refine (hasWord_any An nn cn names a w0 HNA.out HNN.out (by omega)).mono ?_); rintro e w' ⟨rfl, rfl⟩) | (go_at_call 38; (with_reducible refine (hasWord_any An nn cn names c w0 HNA.out HNN.out (by omega)).mono ?_); rintro e w' ⟨rfl, rfl⟩) | (go_at_call 38; (with_reducible refine (hasWord_any A bits.length cb bits c w0 HRB.out rfl (by omega)).mono ?_); rintro e w' ⟨rfl, rfl⟩))
        go_ret2
        exact ⟨_, by rw [HS.out]; exact rfl, by rw [HS.out]; exact CK.out, Mod.of_below _ _ B0.out, .inl rfl⟩
    · have HS : Hid (measT names bits a c = ((1, c), bits)) := by rw [measT, if_neg (by rw [e1]; decide), if_pos e2]; exact rfl
      go_enter Tryd.func66, Tryd.ntmps66
      go_upto_region 1 with (fail)
      rw [← HW.out]
      go_wp2_with (first | (go_at_call 38; (with_reducible refine (hasWord_any An nn cn names a w0 HNA.out HNN.out (by omega)).mono ?_); rintro e w' ⟨rfl, rfl⟩) | (go_at_call 38; (with_reducible refine (hasWord_any An nn cn names c w0 HNA.out HNN.out (by omega)).mono ?_); rintro e w' ⟨rfl, rfl⟩) | (go_at_call 38; (with_reducible refine (hasWord_any A bits.length cb bits c w0 HRB.out rfl (by omega)).mono ?_); rintro e w' ⟨rfl, rfl⟩))
      go_ret2
      exact ⟨_, by rw [HS.out]; exact rfl, by rw [HS.out]; exact CK.out, Mod.of_below _ _ B0.out, .inl rfl⟩
end Go.Proofs.YtbamjfbfipkioaaDoor
