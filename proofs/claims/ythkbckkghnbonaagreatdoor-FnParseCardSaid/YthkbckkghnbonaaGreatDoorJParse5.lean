/- What the calls that this law reaches answer, part 5 of 16. -/
import Derived.Test.YthkbckkghnbonaaGreatDoorJParse4
import Derived.Test.YthkbckkghnbonaaGreatDoorJParse3
import Derived.Test.YthkbckkghnbonaaGreatDoorJParse1
namespace Go.Proofs.YthkbckkghnbonaaGreatDoor
open Go.RowKit
set_option linter.unusedVariables false
/-- A call's own row of statements, in memory. -/
def LitB (R : Nat) (W : World) (A : Option Addr) (n : Nat) : Prop := ∃ (cs : List Value) (m : List (Tr 3)), RdQ W (R ≤ ·) 5 A n cs ∧ ElQ W (R ≤ ·) 2 cs m ∧ m.length = n ∧ Few 2 m
theorem LitB.fr {R p n : Nat} {A : Option Addr} {W W1 : World} (h : LitB R W A n) (hf : Fr W p W1) (hp : p < R) : LitB R W1 A n := by
  obtain ⟨cs, m, h1, h2, h3⟩ := h
  exact ⟨cs, m, fr_rdQ h1 hf (by omega), h2.keep (fun b hb hlt => hf.gr.block b hlt (fun e => by injection e with e; omega)) hf.gr.size, h3⟩
theorem OwnT.litB {W : World} {R B c : Nat} {A : Option Addr} {l : List (Tr 3)} (h : OwnT W B 2 (.slice A l.length c) l) (hf : Few 2 l) (hb : R ≤ B) : LitB R W A l.length := by
  obtain ⟨xs, ho, he⟩ := h
  exact ⟨xs, l, (rdQ_of_own ho).mono (fun b _ h => Nat.le_trans hb h), he.mono (fun b _ h => Nat.le_trans hb h.1), rfl, hf⟩
theorem few_app {l m : List (Tr 3)} (h1 : l.length ≤ 3) (h2 : ∀ s ∈ l, szE s ≤ bE 2) (hm : Few 2 m) : (l ++ m).length ≤ 6 ∧ ∀ s ∈ l ++ m, szE s ≤ bE 2 := by
  have h3 := hm.1
  refine ⟨by rw [List.length_append]; omega, fun s hs => ?_⟩
  rcases List.mem_append.1 hs with h | h
  · exact h2 s h
  · exact hm.2 s h
theorem OwnT.set0 {w : World} {base d : Nat} {v : Value} {l : List (Tr (d + 1))} (h : OwnT w base d v l) {p : Addr} (hp : p.block < base) (u : Value) : OwnT (w.setCell p u) base d v l :=
  h.grown (only_setCell (World.grownBy.refl w (some p.block)) rfl u) (fun k hk => by injection hk with hk; omega)
set_option maxRecDepth 100000 in
set_option maxHeartbeats 8000000 in
theorem l17Right_any (hbody : BodySaid 2) (w : World) (p : Nat) (hcur : CurAt w p) : Calls Tryz.prog 80 #[.pointer (some ⟨p, 0, none⟩)] w (DRt w p) := by
  obtain ⟨i0, hi, hz0, hz1, hz2⟩ := info_parts info_Stmt
  obtain ⟨j0, hj, hy0, hy1, hy2⟩ := info_parts info_str
  have hp := hcur.lt
  go_enter Tryz.func80, Tryz.ntmps80
  go_wp2_with fail
  obtain ⟨w0, hw0⟩ : ∃ w0, w0 = w.alloc (.cells #[.slice none 0 0, .slice none 0 0] 27) := ⟨_, rfl⟩
  rw [← hw0]
  have z0 : w0.heap.size = w.heap.size + 1 := by rw [hw0]; simp
  have x0 : w0.heap[w.heap.size]? = some (.cells #[.slice none 0 0, .slice none 0 0] 27 (0, 0)) := by rw [hw0]; exact boxed1_0 _ _
  have fr0 : Fr w p w0 := by rw [hw0]; exact (Fr.start hcur).alloc _
  obtain ⟨wa, hwa⟩ : ∃ wa, wa = w0.alloc (.cells #[] 9) := ⟨_, rfl⟩
  rw [← hwa]
  have za : wa.heap.size = w.heap.size + 1 + 1 := by rw [hwa]; simp [z0]
  have ba : Below w0.heap.size w0 wa := by rw [hwa]; exact (by repeat (first | exact Below.refl _ _ | assumption | (refine Below.trans ?_ (Below.mono (by assumption) (by first | omega | (simp; done) | (simp; omega)))) | (with_reducible refine Below.drew ?_) | (with_reducible refine Below.alloc ?_ (by first | omega | (simp; done) | (simp; omega)) _) | (with_reducible refine Below.setCell ?_ (by first | omega | (simp; done) | (simp; omega)) _)))
  have owna : wa.ownsRow w0.heap.size 9 1 (.slice (some ⟨w.heap.size + 1, 0, none⟩) 0 0) 0 [] := by rw [hwa, ← z0]; exact own_empty w0 _ _
  obtain ⟨wb, hwb⟩ : ∃ wb, wb = wa.alloc (.cells #[.string ⟨#[97]⟩, .string ⟨#[98]⟩, .string ⟨#[99]⟩] 9) := ⟨_, rfl⟩
  rw [← hwb]
  have zb : wb.heap.size = w.heap.size + 1 + 1 + 1 := by rw [hwb]; simp [za]
  have bb : Below wa.heap.size wa wb := by rw [hwb]; exact (by repeat (first | exact Below.refl _ _ | assumption | (refine Below.trans ?_ (Below.mono (by assumption) (by first | omega | (simp; done) | (simp; omega)))) | (with_reducible refine Below.drew ?_) | (with_reducible refine Below.alloc ?_ (by first | omega | (simp; done) | (simp; omega)) _) | (with_reducible refine Below.setCell ?_ (by first | omega | (simp; done) | (simp; omega)) _)))
  have rb : Rd wb 1 (some ⟨w.heap.size + 1 + 1, 0, none⟩) 3 (strs [⟨#[97]⟩, ⟨#[98]⟩, ⟨#[99]⟩]) := by rw [hwb]; exact pickedS (w := wa) za.symm
  have frb := (fr0.below ba).below bb
  have xb := (bb.block _ (by omega)).trans ((ba.block _ (by omega)).trans x0)
  have ownb := ownsRow_below owna bb
  clear hw0 hwa hwb ba bb owna x0 fr0
  refine (l1Below_any 3 2 wb p frb.cur (by omega) (by omega) (by omega)).mono ?_
  rintro e w1 ⟨j, hj0, hj1, rfl, hc1, hg1⟩
  obtain ⟨j, rfl⟩ : ∃ j' : Nat, j = j' := ⟨j.toNat, by omega⟩
  have hsz1 := hg1.size
  have FR1 := Lib.hid (frb.call hc1 hg1)
  have X1 := Lib.hid (box_call xb hg1 (by omega))
  have OB := own_drawG ownb hg1 (by omega)
  have RB := (rd_drawG rb hg1 (fun ad e => by injection e with e; subst e; show w.heap.size + 1 + 1 ≠ p; omega)).take (t := 1 + j) (by omega)
  have HQ := Lib.hid (abc_take (j := j) (by omega))
  have HRL := Lib.hid RB.1
  clear frb xb ownb rb hc1 hg1
  go_wp2_with (at_builtin; refine wpList_append_rd _ rfl _ _ 24 rfl w0.heap.size 9 j0 _ 1 16 Tryz.underlying24 hj hy0 hy1 hy2 rfl (by decide) _ _ _ rfl OB _ (1 + j) _ _ rfl RB ?c2 ?c3 ?c4 ?c5 ?_)
  case c2 => exact fun u hu => strs_oneG _ u (List.mem_of_mem_take hu)
  case c3 => simp only [maxLen]; omega
  case c4 => omega
  case c5 => omega
  intro v6 w6 own6 gr6 hat
  obtain ⟨Aq, cq, rfl, _, _, _⟩ := rd_of_own own6
  go_upto_region 2 with (fail)
  try rw [Nat.zero_add] at own6
  obtain ⟨nq, hnq⟩ : ∃ nq, nq = 1 + j := ⟨_, rfl⟩
  rw [← hnq] at own6 ⊢
  obtain ⟨Q, hQe⟩ : ∃ Q, Q = ([⟨#[97]⟩, ⟨#[98]⟩, ⟨#[99]⟩] : List ByteArray).take (1 + j) := ⟨_, rfl⟩
  have hQ3 : Short 3 Q := by rw [hQe]; exact HQ.out
  have hQl : Q.length = nq := by rw [hQe, hnq, List.length_take]; show min (1 + j) 3 = 1 + j; omega
  have own6q : w6.ownsRow w0.heap.size 9 1 (.slice Aq nq cq) nq (strs Q) := by
    rw [hQe]
    have e : strs (([⟨#[97]⟩, ⟨#[98]⟩, ⟨#[99]⟩] : List ByteArray).take (1 + j)) = (strs [⟨#[97]⟩, ⟨#[98]⟩, ⟨#[99]⟩]).take (1 + j) := by simp [strs, List.map_take]
    rw [e]
    rw [← hnq]
    rw [z0]
    simpa using own6
  obtain ⟨X, hX⟩ : ∃ X, X = w6.heap.size := ⟨_, rfl⟩
  have fr6 := FR1.out.own hp gr6 (fun k hk => by have := own_ge OB k hk; omega)
  have r6 := (gr6.block _ (lt_of_block X1.out) (fun e => by have := own_ge OB _ e.symm; omega)).trans X1.out
  have hXlo : w.heap.size < X := by have := lt_of_block r6; omega
  obtain ⟨w7, hw7⟩ : ∃ w7, w7 = w6.alloc (.cells #[.slice Aq nq cq, .slice none 0 0] 27) := ⟨_, rfl⟩
  rw [← hw7, ← hX]
  have P7 : PS w p X Aq nq cq Q 2 (.slice none 0 0) [] w7 := by
    have b7 : Below w6.heap.size w6 w7 := by rw [hw7]; exact (by repeat (first | exact Below.refl _ _ | assumption | (refine Below.trans ?_ (Below.mono (by assumption) (by first | omega | (simp; done) | (simp; omega)))) | (with_reducible refine Below.drew ?_) | (with_reducible refine Below.alloc ?_ (by first | omega | (simp; done) | (simp; omega)) _) | (with_reducible refine Below.setCell ?_ (by first | omega | (simp; done) | (simp; omega)) _)))
    refine ⟨fr6.below b7, hXlo, (b7.block _ (lt_of_block r6)).trans r6, by rw [hw7, hX]; exact boxed1_0 _ _, ownsRow_below (own_lowT own6q (by omega)) b7, hQl, fun k hk => ?_, ownT_nil _ _ _⟩
    have := (own6q.lt k hk).2
    omega
  have P7H := Lib.hid P7
  have HQ3 := Lib.hid hQ3
  have hnq1 : 1 ≤ nq := by rw [← hQl]; exact hQ3.1
  have hnq3 : nq ≤ 3 := by rw [← hQl]; exact hQ3.2.1
  clear own6 own6q gr6 fr6 r6 hw7 hX P7 hQe hQ3 HQ X1 OB RB HRL hat hnq FR1 hQl
  go_wp2_with fail
  refine (l1Once_any 2 w7 p P7H.out.fr.cur (by omega) (by omega)).mono ?_
  rintro e w8 ⟨wild, rfl, hc8, hg8⟩
  have P8 := Lib.hid (P7H.out.call hp ⟨hc8, hg8⟩)
  clear hc8 hg8 P7H
  go_upto_region 3 with (fail)
  go_cut [19] (fun g W => ∃ b : Bool, g = .bool b ∧ PS w p X Aq nq cq Q 2 (.slice none 0 0) [] W)
  case first =>
    cases wild
    · go_wp2_with fail
      go_meet
      exact ⟨_, rfl, P8.out⟩
    · go_wp2_with fail
      refine (l1Once_any 2 w8 p P8.out.fr.cur (by omega) (by omega)).mono ?_
      rintro e w9 ⟨b9, rfl, hc9, hg9⟩
      have P9 := Lib.hid (P8.out.call hp ⟨hc9, hg9⟩)
      clear hc9 hg9 P8
      go_wp2_with fail
      go_meet
      exact ⟨_, rfl, P9.out⟩
  case rest =>
    obtain ⟨b9, rfl, hp9⟩ := hcut
    obtain ⟨w9, rfl⟩ : ∃ w9 : World, w9 = wc := ⟨_, rfl⟩
    have P9 := Lib.hid hp9
    clear hp9 P8
    go_upto_if 19 with (fail)
    go_cut [] (fun W => ∃ (vb : Value) (l : List (Tr 3)), l.length ≤ 3 ∧ (∀ s ∈ l, szE s ≤ bE 2) ∧ PS w p X Aq nq cq Q 2 vb l W)
    case first =>
      cases b9
      · go_wp2_with fail
        go_meet
        exact ⟨_, [], by decide, (fun s hs => absurd hs (by simp)), P9.out⟩
      · go_upto_region 4 with (fail)
        obtain ⟨wc, rfl⟩ : ∃ wc : World, wc = w9 := ⟨_, rfl⟩
        have NM := Lib.hid (P9.out.names hp ⟨HQ3.out.1, by have := HQ3.out.2.1; omega, HQ3.out.2.2⟩)
        obtain ⟨gq, oq, q0, rfl, hgl, cq0, _, hq09⟩ := NM.out.at_ (t := 0) (by omega)
        rw [Nat.add_zero] at cq0
        have PC := P9
        have hgp : gq ≠ p := NM.out.ne _ rfl
        obtain ⟨c0, c1⟩ := cells2G (lay := Below.refl _ _) PC.out.x
        have hXl := lt_of_block PC.out.x
        have hXp : X ≠ p := by omega
        have frD : Fr w p wc := PC.out.fr
        have frS : Fr wc p wc := Fr.start PC.out.fr.cur
        have hpc : p < wc.heap.size := PC.out.fr.cur.lt
        have C0 := Lib.hid c0
        have C1 := Lib.hid c1
        have CQ := Lib.hid cq0
        have tok1 : True := trivial
        have hnq0 : 0 < nq := by omega
        clear c0 c1 cq0 P9
        obtain ⟨J0, hJ0⟩ : ∃ J : Array Value → Array Bool → Act → World → Prop, J = (fun A0 listed a W => ∃ (wd1 : ByteArray) (as1 : List ByteArray) (A1 : Option Addr) (ca1 : Nat) (b2 : Nat) (b3 : Nat) (wd2 : ByteArray) (as2 : List ByteArray) (A2 : Option Addr) (ca2 : Nat) (b5 : Nat) (b6 : Nat) (A6 : Option Addr) (c6 : Nat), ∃ x20 x21 x22 x23 x24 x25 x26 x27 x28 x29 x30 x31 x32 x33 x34 x35 x36 x37 x38 x39 x40 x41 : Value, a = ⟨((((((((((((((((((((((A0.setIfInBounds 20 x20).setIfInBounds 21 x21).setIfInBounds 22 x22).setIfInBounds 23 x23).setIfInBounds 24 x24).setIfInBounds 25 x25).setIfInBounds 26 x26).setIfInBounds 27 x27).setIfInBounds 28 x28).setIfInBounds 29 x29).setIfInBounds 30 x30).setIfInBounds 31 x31).setIfInBounds 32 x32).setIfInBounds 33 x33).setIfInBounds 34 x34).setIfInBounds 35 x35).setIfInBounds 36 x36).setIfInBounds 37 x37).setIfInBounds 38 x38).setIfInBounds 39 x39).setIfInBounds 40 x40).setIfInBounds 41 x41), []⟩ ∧ (Ls listed 0 → x20 = .pointer (some ⟨X, 1, none⟩)) ∧ (Ls listed 1 → x21 = .slice none 0 0) ∧ (Ls listed 2 → x22 = .pointer (some ⟨p, 0, none⟩)) ∧ (Ls listed 3 → x23 = .pointer (some ⟨X, 0, none⟩)) ∧ (Ls listed 4 → x24 = .slice (some ⟨gq, oq, none⟩) nq cq) ∧ (Ls listed 5 → x25 = .agg #[.int .i64 1, .string wd1, .slice A1 as1.length ca1, .int .i64 0, .slice none 0 0] ∧ (as1.length ≤ ca1 ∧ wd1.size ≤ 4 ∧ as1.length ≤ 3 ∧ szS as1 ≤ 27)) ∧ (Ls listed 6 → x26 = .pointer (some ⟨X, 0, none⟩)) ∧ (Ls listed 7 → x27 = .slice (some ⟨gq, oq, none⟩) nq cq) ∧ (Ls listed 8 → x28 = .pointer (some ⟨gq, oq, none⟩)) ∧ (Ls listed 9 → x29 = .string q0) ∧ (Ls listed 10 → x30 = .slice (some ⟨b2, 0, none⟩) 2 2) ∧ (Ls listed 11 → x31 = .agg #[.int .i64 6, .string ⟨#[]⟩, .slice (some ⟨b2, 0, none⟩) 2 2, .int .i64 0, .slice none 0 0]) ∧ (Ls listed 12 → x32 = .slice (some ⟨b3, 0, none⟩) 1 1) ∧ (Ls listed 13 → x33 = .pointer (some ⟨p, 0, none⟩)) ∧ (Ls listed 14 → x34 = .pointer (some ⟨X, 0, none⟩)) ∧ (Ls listed 15 → x35 = .slice (some ⟨gq, oq, none⟩) nq cq) ∧ (Ls listed 16 → x36 = .agg #[.int .i64 1, .string wd2, .slice A2 as2.length ca2, .int .i64 0, .slice none 0 0] ∧ (as2.length ≤ ca2 ∧ wd2.size ≤ 4 ∧ as2.length ≤ 3 ∧ szS as2 ≤ 27)) ∧ (Ls listed 17 → x37 = .slice (some ⟨b5, 0, none⟩) 1 1 ∧ szT 2 [mkT (d := 1) ⟨1, wd2, as2, 0⟩ []] ≤ 40) ∧ (Ls listed 18 → x38 = .agg #[.int .i64 7, .string ⟨#[]⟩, .slice (some ⟨b3, 0, none⟩) 1 1, .int .i64 0, .slice (some ⟨b5, 0, none⟩) 1 1] ∧ szT 2 [mkT (d := 1) ⟨1, wd2, as2, 0⟩ []] ≤ 40) ∧ (Ls listed 19 → x39 = .slice (some ⟨b6, 0, none⟩) 3 3) ∧ (Ls listed 20 → x40 = .slice A6 3 c6) ∧ (Ls listed 21 → x41 = .pointer (some ⟨X, 1, none⟩)) ∧ (Ls listed 22 → (∃ (vb : Value) (l : List (Tr 3)), l.length ≤ 3 ∧ (∀ s ∈ l, szE s ≤ bE 2) ∧ PS w p X (some ⟨gq, oq, none⟩) nq cq Q 2 vb l W)) ∧ (Ls listed 5 → ¬ Ls listed 20 → RdQ W (fun b => X + 1 ≤ b) 1 A1 as1.length (strs as1)) ∧ (Ls listed 10 → ¬ Ls listed 20 → RdQ W (fun b => X + 1 ≤ b) 1 (some ⟨b2, 0, none⟩) 2 (strs [q0, ⟨#[114]⟩])) ∧ (Ls listed 12 → ¬ Ls listed 20 → RdQ W (fun b => X + 1 ≤ b) 1 (some ⟨b3, 0, none⟩) 1 (strs [⟨#[114]⟩])) ∧ (Ls listed 16 → ¬ Ls listed 20 → RdQ W (fun b => X + 1 ≤ b) 1 A2 as2.length (strs as2)) ∧ (Ls listed 17 → ¬ Ls listed 20 → TrQ W (fun b => X + 1 ≤ b) 2 (some ⟨b5, 0, none⟩) 1 [mkT (d := 1) ⟨1, wd2, as2, 0⟩ []]) ∧ (Ls listed 19 → ¬ Ls listed 20 → Lit3 (X + 1) W b6) ∧ (¬ Ls listed 20 → Fr wc p W) ∧ (Ls listed 20 → ¬ Ls listed 22 → (∃ (W5 : World) (m : List (Tr 3)), Fr wc p W5 ∧ W5.grownBy W (Value.slice none 0 0).ownBlock ∧ OwnT W (X + 1) 2 (.slice A6 3 c6) m ∧ W.heap[X]? = some (.cells #[.slice (some ⟨gq, oq, none⟩) nq cq, .slice none 0 0] 27 (0, 0)) ∧ m.length ≤ 3 ∧ ∀ s ∈ m, szE s ≤ bE 2))) := ⟨_, rfl⟩
        have HJ0 := Lib.hid hJ0
        clear hJ0
        refine wp_region_inv2 (by kernel_rfl) J0 ?_ ?_ ?_
        · intro A0
          rw [HJ0.out]
          exact ⟨⟨#[]⟩, [], none, 0, 0, 0, ⟨#[]⟩, [], none, 0, 0, 0, none, 0, A0.getD 20 undef, A0.getD 21 undef, A0.getD 22 undef, A0.getD 23 undef, A0.getD 24 undef, A0.getD 25 undef, A0.getD 26 undef, A0.getD 27 undef, A0.getD 28 undef, A0.getD 29 undef, A0.getD 30 undef, A0.getD 31 undef, A0.getD 32 undef, A0.getD 33 undef, A0.getD 34 undef, A0.getD 35 undef, A0.getD 36 undef, A0.getD 37 undef, A0.getD 38 undef, A0.getD 39 undef, A0.getD 40 undef, A0.getD 41 undef, by simp only [set_self], fun h => h.none, fun h => h.none, fun h => h.none, fun h => h.none, fun h => h.none, fun h => h.none, fun h => h.none, fun h => h.none, fun h => h.none, fun h => h.none, fun h => h.none, fun h => h.none, fun h => h.none, fun h => h.none, fun h => h.none, fun h => h.none, fun h => h.none, fun h => h.none, fun h => h.none, fun h => h.none, fun h => h.none, fun h => h.none, fun h => h.none, fun h => h.none, fun h => h.none, fun h => h.none, fun h => h.none, fun h => h.none, fun h => h.none, fun _ => frS.drew, fun h => h.none⟩
        · intro listed a W hsize hcl hJ i hi
          have hil := ready_lt hi
          have hnl := ready_not hi
          have hnow := ready_now hi hsize
          have HCL := Lib.hid hcl
          rw [HJ0.out] at hJ
          obtain ⟨wd1, as1, A1, ca1, b2, b3, wd2, as2, A2, ca2, b5, b6, A6, c6, x20, x21, x22, x23, x24, x25, x26, x27, x28, x29, x30, x31, x32, x33, x34, x35, x36, x37, x38, x39, x40, x41, rfl, HF⟩ := hJ
          have HH := Lib.hid HF
          have hi2 : i = 0 ∨ i = 1 ∨ i = 2 ∨ i = 3 ∨ i = 4 ∨ i = 5 ∨ i = 6 ∨ i = 7 ∨ i = 8 ∨ i = 9 ∨ i = 10 ∨ i = 11 ∨ i = 12 ∨ i = 13 ∨ i = 14 ∨ i = 15 ∨ i = 16 ∨ i = 17 ∨ i = 18 ∨ i = 19 ∨ i = 20 ∨ i = 21 ∨ i = 22 := by simp at hil; omega
          clear hil hcl HF
          rcases hi2 with rfl | rfl | rfl | rfl | rfl | rfl | rfl | rfl | rfl | rfl | rfl | rfl | rfl | rfl | rfl | rfl | rfl | rfl | rfl | rfl | rfl | rfl | rfl
          · clear hi HCL
            simp only [List.setIfInBounds_toArray, List.set_cons_succ, List.set_cons_zero]
            refine wpOp_one rfl rfl ?_
            intro K hK
            go_wp2_with fail
            rw [HJ0.out]
            exact ⟨wd1, as1, A1, ca1, b2, b3, wd2, as2, A2, ca2, b5, b6, A6, c6, .pointer (some ⟨X, 1, none⟩), x21, x22, x23, x24, x25, x26, x27, x28, x29, x30, x31, x32, x33, x34, x35, x36, x37, x38, x39, x40, x41, (by simp only [List.setIfInBounds_toArray, List.set_cons_succ, List.set_cons_zero]), fun _ => rfl, Bk (pj1 HH.out), Bk (pj2 HH.out), Bk (pj3 HH.out), Bk (pj4 HH.out), Bk (pj5 HH.out), Bk (pj6 HH.out), Bk (pj7 HH.out), Bk (pj8 HH.out), Bk (pj9 HH.out), Bk (pj10 HH.out), Bk (pj11 HH.out), Bk (pj12 HH.out), Bk (pj13 HH.out), Bk (pj14 HH.out), Bk (pj15 HH.out), Bk (pj16 HH.out), Bk (pj17 HH.out), Bk (pj18 HH.out), Bk (pj19 HH.out), Bk (pj20 HH.out), Bk (pj21 HH.out), Bk (pj22 HH.out), Bw (pj23 HH.out), Bw (pj24 HH.out), Bw (pj25 HH.out), Bw (pj26 HH.out), Bw (pj27 HH.out), Bw (pj28 HH.out), Bi (pj29 HH.out), Bw (pe30 HH.out)⟩
          · have hns : ¬ Ls listed 20 := fun h => hnl (dq HCL h 1)
            have D0 := (pj0 HH.out) (rq hi 0)
            have V0 := (pj29 HH.out) hns
            have hnla : ¬ Ls listed 22 := fun h => hns (HCL.out.dep2 h 20 (by kernel_rfl))
            clear hi HCL
            simp only [List.setIfInBounds_toArray, List.set_cons_succ, List.set_cons_zero, D0]
            have k0 := fr_cell V0 hXl hXp C1.out
            refine wpOp_one rfl rfl ?_
            intro K hK
            go_wp2_with fail
            rw [HJ0.out]
            exact ⟨wd1, as1, A1, ca1, b2, b3, wd2, as2, A2, ca2, b5, b6, A6, c6, x20, .slice none 0 0, x22, x23, x24, x25, x26, x27, x28, x29, x30, x31, x32, x33, x34, x35, x36, x37, x38, x39, x40, x41, (by simp only [List.setIfInBounds_toArray, List.set_cons_succ, List.set_cons_zero, D0]), Bk (pj0 HH.out), fun _ => rfl, Bk (pj2 HH.out), Bk (pj3 HH.out), Bk (pj4 HH.out), Bk (pj5 HH.out), Bk (pj6 HH.out), Bk (pj7 HH.out), Bk (pj8 HH.out), Bk (pj9 HH.out), Bk (pj10 HH.out), Bk (pj11 HH.out), Bk (pj12 HH.out), Bk (pj13 HH.out), Bk (pj14 HH.out), Bk (pj15 HH.out), Bk (pj16 HH.out), Bk (pj17 HH.out), Bk (pj18 HH.out), Bk (pj19 HH.out), Bk (pj20 HH.out), Bk (pj21 HH.out), Bk (pj22 HH.out), Bw (pj23 HH.out), Bw (pj24 HH.out), Bw (pj25 HH.out), Bw (pj26 HH.out), Bw (pj27 HH.out), Bw (pj28 HH.out), Bi (pj29 HH.out), Bw (pe30 HH.out)⟩
          · clear hi HCL
            simp only [List.setIfInBounds_toArray, List.set_cons_succ, List.set_cons_zero]
            refine wpOp_one rfl rfl ?_
            intro K hK
            go_wp2_with fail
            rw [HJ0.out]
            exact ⟨wd1, as1, A1, ca1, b2, b3, wd2, as2, A2, ca2, b5, b6, A6, c6, x20, x21, .pointer (some ⟨p, 0, none⟩), x23, x24, x25, x26, x27, x28, x29, x30, x31, x32, x33, x34, x35, x36, x37, x38, x39, x40, x41, (by simp only [List.setIfInBounds_toArray, List.set_cons_succ, List.set_cons_zero]), Bk (pj0 HH.out), Bk (pj1 HH.out), fun _ => rfl, Bk (pj3 HH.out), Bk (pj4 HH.out), Bk (pj5 HH.out), Bk (pj6 HH.out), Bk (pj7 HH.out), Bk (pj8 HH.out), Bk (pj9 HH.out), Bk (pj10 HH.out), Bk (pj11 HH.out), Bk (pj12 HH.out), Bk (pj13 HH.out), Bk (pj14 HH.out), Bk (pj15 HH.out), Bk (pj16 HH.out), Bk (pj17 HH.out), Bk (pj18 HH.out), Bk (pj19 HH.out), Bk (pj20 HH.out), Bk (pj21 HH.out), Bk (pj22 HH.out), Bw (pj23 HH.out), Bw (pj24 HH.out), Bw (pj25 HH.out), Bw (pj26 HH.out), Bw (pj27 HH.out), Bw (pj28 HH.out), Bi (pj29 HH.out), Bw (pe30 HH.out)⟩
          · clear hi HCL
            simp only [List.setIfInBounds_toArray, List.set_cons_succ, List.set_cons_zero]
            refine wpOp_one rfl rfl ?_
            intro K hK
            go_wp2_with fail
            rw [HJ0.out]
            exact ⟨wd1, as1, A1, ca1, b2, b3, wd2, as2, A2, ca2, b5, b6, A6, c6, x20, x21, x22, .pointer (some ⟨X, 0, none⟩), x24, x25, x26, x27, x28, x29, x30, x31, x32, x33, x34, x35, x36, x37, x38, x39, x40, x41, (by simp only [List.setIfInBounds_toArray, List.set_cons_succ, List.set_cons_zero]), Bk (pj0 HH.out), Bk (pj1 HH.out), Bk (pj2 HH.out), fun _ => rfl, Bk (pj4 HH.out), Bk (pj5 HH.out), Bk (pj6 HH.out), Bk (pj7 HH.out), Bk (pj8 HH.out), Bk (pj9 HH.out), Bk (pj10 HH.out), Bk (pj11 HH.out), Bk (pj12 HH.out), Bk (pj13 HH.out), Bk (pj14 HH.out), Bk (pj15 HH.out), Bk (pj16 HH.out), Bk (pj17 HH.out), Bk (pj18 HH.out), Bk (pj19 HH.out), Bk (pj20 HH.out), Bk (pj21 HH.out), Bk (pj22 HH.out), Bw (pj23 HH.out), Bw (pj24 HH.out), Bw (pj25 HH.out), Bw (pj26 HH.out), Bw (pj27 HH.out), Bw (pj28 HH.out), Bi (pj29 HH.out), Bw (pe30 HH.out)⟩
          · have hns : ¬ Ls listed 20 := fun h => hnl (dq HCL (dq HCL (dq HCL h 19) 5) 4)
            have D3 := (pj3 HH.out) (rq hi 3)
            have V0 := (pj29 HH.out) hns
            have hnla : ¬ Ls listed 22 := fun h => hns (HCL.out.dep2 h 20 (by kernel_rfl))
            clear hi HCL
            simp only [List.setIfInBounds_toArray, List.set_cons_succ, List.set_cons_zero, D3]
            have k0 := fr_cell V0 hXl hXp C0.out
            refine wpOp_one rfl rfl ?_
            intro K hK
            go_wp2_with fail
            rw [HJ0.out]
            exact ⟨wd1, as1, A1, ca1, b2, b3, wd2, as2, A2, ca2, b5, b6, A6, c6, x20, x21, x22, x23, .slice (some ⟨gq, oq, none⟩) nq cq, x25, x26, x27, x28, x29, x30, x31, x32, x33, x34, x35, x36, x37, x38, x39, x40, x41, (by simp only [List.setIfInBounds_toArray, List.set_cons_succ, List.set_cons_zero, D3]), Bk (pj0 HH.out), Bk (pj1 HH.out), Bk (pj2 HH.out), Bk (pj3 HH.out), fun _ => rfl, Bk (pj5 HH.out), Bk (pj6 HH.out), Bk (pj7 HH.out), Bk (pj8 HH.out), Bk (pj9 HH.out), Bk (pj10 HH.out), Bk (pj11 HH.out), Bk (pj12 HH.out), Bk (pj13 HH.out), Bk (pj14 HH.out), Bk (pj15 HH.out), Bk (pj16 HH.out), Bk (pj17 HH.out), Bk (pj18 HH.out), Bk (pj19 HH.out), Bk (pj20 HH.out), Bk (pj21 HH.out), Bk (pj22 HH.out), Bw (pj23 HH.out), Bw (pj24 HH.out), Bw (pj25 HH.out), Bw (pj26 HH.out), Bw (pj27 HH.out), Bw (pj28 HH.out), Bi (pj29 HH.out), Bw (pe30 HH.out)⟩
          · have hns : ¬ Ls listed 20 := fun h => hnl (dq HCL (dq HCL h 19) 5)
            have D2 := (pj2 HH.out) (rq hi 2)
            have D4 := (pj4 HH.out) (rq hi 4)
            have V0 := (pj29 HH.out) hns
            have hnla : ¬ Ls listed 22 := fun h => hns (HCL.out.dep2 h 20 (by kernel_rfl))
            clear hi HCL
            simp only [List.setIfInBounds_toArray, List.set_cons_succ, List.set_cons_zero, D2, D4]
            refine wpOp_one rfl rfl ?_
            intro K hK
            go_wp2_with fail
            refine (l17Gate_any _ _ _ Q _ p V0.cur (NM.out.fr V0)).mono ?_
            rintro e y1 ⟨wd7, as7, A7, ca7, rfl, q7, hb7, hc, hg⟩
            go_wp2_with fail
            rw [HJ0.out]
            exact ⟨wd7, as7, A7, ca7, b2, b3, wd2, as2, A2, ca2, b5, b6, A6, c6, x20, x21, x22, x23, x24, .agg #[.int .i64 1, .string wd7, .slice A7 as7.length ca7, .int .i64 0, .slice none 0 0], x26, x27, x28, x29, x30, x31, x32, x33, x34, x35, x36, x37, x38, x39, x40, x41, (by simp only [List.setIfInBounds_toArray, List.set_cons_succ, List.set_cons_zero, D2, D4]), Bk (pj0 HH.out), Bk (pj1 HH.out), Bk (pj2 HH.out), Bk (pj3 HH.out), Bk (pj4 HH.out), fun _ => ⟨rfl, hb7⟩, Bk (pj6 HH.out), Bk (pj7 HH.out), Bk (pj8 HH.out), Bk (pj9 HH.out), Bk (pj10 HH.out), Bk (pj11 HH.out), Bk (pj12 HH.out), Bk (pj13 HH.out), Bk (pj14 HH.out), Bk (pj15 HH.out), Bk (pj16 HH.out), Bk (pj17 HH.out), Bk (pj18 HH.out), Bk (pj19 HH.out), Bk (pj20 HH.out), Bk (pj21 HH.out), Ba hnla, fun _ _ => q7.mono (fun b _ hb => Nat.le_trans (show X + 1 ≤ W.heap.size by have := V0.gr.size; omega) hb), (Bt (pj24 HH.out) fun x => fr_rdQ x (Fr.mk hc hg) (by omega)), (Bt (pj25 HH.out) fun x => fr_rdQ x (Fr.mk hc hg) (by omega)), (Bt (pj26 HH.out) fun x => fr_rdQ x (Fr.mk hc hg) (by omega)), (Bt (pj27 HH.out) fun x => TrQ.call x (Fr.gr (Fr.mk hc hg)) (by omega)), (Bt (pj28 HH.out) fun x => Lit3.fr x (Fr.mk hc hg) (by omega)), fun h => Fr.call ((pj29 HH.out) (fun h2 => h h2.fwd)) (Fr.cur (Fr.mk hc hg)) (Fr.gr (Fr.mk hc hg)), fun h1 _ => absurd (h1.back (by decide)) hns⟩
          · clear hi HCL
            simp only [List.setIfInBounds_toArray, List.set_cons_succ, List.set_cons_zero]
            refine wpOp_one rfl rfl ?_
            intro K hK
            go_wp2_with fail
            rw [HJ0.out]
            exact ⟨wd1, as1, A1, ca1, b2, b3, wd2, as2, A2, ca2, b5, b6, A6, c6, x20, x21, x22, x23, x24, x25, .pointer (some ⟨X, 0, none⟩), x27, x28, x29, x30, x31, x32, x33, x34, x35, x36, x37, x38, x39, x40, x41, (by simp only [List.setIfInBounds_toArray, List.set_cons_succ, List.set_cons_zero]), Bk (pj0 HH.out), Bk (pj1 HH.out), Bk (pj2 HH.out), Bk (pj3 HH.out), Bk (pj4 HH.out), Bk (pj5 HH.out), fun _ => rfl, Bk (pj7 HH.out), Bk (pj8 HH.out), Bk (pj9 HH.out), Bk (pj10 HH.out), Bk (pj11 HH.out), Bk (pj12 HH.out), Bk (pj13 HH.out), Bk (pj14 HH.out), Bk (pj15 HH.out), Bk (pj16 HH.out), Bk (pj17 HH.out), Bk (pj18 HH.out), Bk (pj19 HH.out), Bk (pj20 HH.out), Bk (pj21 HH.out), Bk (pj22 HH.out), Bw (pj23 HH.out), Bw (pj24 HH.out), Bw (pj25 HH.out), Bw (pj26 HH.out), Bw (pj27 HH.out), Bw (pj28 HH.out), Bi (pj29 HH.out), Bw (pe30 HH.out)⟩
          · have hns : ¬ Ls listed 20 := fun h => hnl (dq HCL (dq HCL (dq HCL (dq HCL (dq HCL (dq HCL h 19) 11) 10) 9) 8) 7)
            have D6 := (pj6 HH.out) (rq hi 6)
            have V0 := (pj29 HH.out) hns
            have hnla : ¬ Ls listed 22 := fun h => hns (HCL.out.dep2 h 20 (by kernel_rfl))
            clear hi HCL
            simp only [List.setIfInBounds_toArray, List.set_cons_succ, List.set_cons_zero, D6]
            have k0 := fr_cell V0 hXl hXp C0.out
            refine wpOp_one rfl rfl ?_
            intro K hK
            go_wp2_with fail
            rw [HJ0.out]
            exact ⟨wd1, as1, A1, ca1, b2, b3, wd2, as2, A2, ca2, b5, b6, A6, c6, x20, x21, x22, x23, x24, x25, x26, .slice (some ⟨gq, oq, none⟩) nq cq, x28, x29, x30, x31, x32, x33, x34, x35, x36, x37, x38, x39, x40, x41, (by simp only [List.setIfInBounds_toArray, List.set_cons_succ, List.set_cons_zero, D6]), Bk (pj0 HH.out), Bk (pj1 HH.out), Bk (pj2 HH.out), Bk (pj3 HH.out), Bk (pj4 HH.out), Bk (pj5 HH.out), Bk (pj6 HH.out), fun _ => rfl, Bk (pj8 HH.out), Bk (pj9 HH.out), Bk (pj10 HH.out), Bk (pj11 HH.out), Bk (pj12 HH.out), Bk (pj13 HH.out), Bk (pj14 HH.out), Bk (pj15 HH.out), Bk (pj16 HH.out), Bk (pj17 HH.out), Bk (pj18 HH.out), Bk (pj19 HH.out), Bk (pj20 HH.out), Bk (pj21 HH.out), Bk (pj22 HH.out), Bw (pj23 HH.out), Bw (pj24 HH.out), Bw (pj25 HH.out), Bw (pj26 HH.out), Bw (pj27 HH.out), Bw (pj28 HH.out), Bi (pj29 HH.out), Bw (pe30 HH.out)⟩
          · have D7 := (pj7 HH.out) (rq hi 7)
            clear hi HCL
            simp only [List.setIfInBounds_toArray, List.set_cons_succ, List.set_cons_zero, D7]
            refine wpOp_one rfl rfl ?_
            intro K hK
            go_wp2_with fail
            rw [HJ0.out]
            exact ⟨wd1, as1, A1, ca1, b2, b3, wd2, as2, A2, ca2, b5, b6, A6, c6, x20, x21, x22, x23, x24, x25, x26, x27, .pointer (some ⟨gq, oq, none⟩), x29, x30, x31, x32, x33, x34, x35, x36, x37, x38, x39, x40, x41, (by simp only [List.setIfInBounds_toArray, List.set_cons_succ, List.set_cons_zero, D7]), Bk (pj0 HH.out), Bk (pj1 HH.out), Bk (pj2 HH.out), Bk (pj3 HH.out), Bk (pj4 HH.out), Bk (pj5 HH.out), Bk (pj6 HH.out), Bk (pj7 HH.out), fun _ => rfl, Bk (pj9 HH.out), Bk (pj10 HH.out), Bk (pj11 HH.out), Bk (pj12 HH.out), Bk (pj13 HH.out), Bk (pj14 HH.out), Bk (pj15 HH.out), Bk (pj16 HH.out), Bk (pj17 HH.out), Bk (pj18 HH.out), Bk (pj19 HH.out), Bk (pj20 HH.out), Bk (pj21 HH.out), Bk (pj22 HH.out), Bw (pj23 HH.out), Bw (pj24 HH.out), Bw (pj25 HH.out), Bw (pj26 HH.out), Bw (pj27 HH.out), Bw (pj28 HH.out), Bi (pj29 HH.out), Bw (pe30 HH.out)⟩
          · have hns : ¬ Ls listed 20 := fun h => hnl (dq HCL (dq HCL (dq HCL (dq HCL h 19) 11) 10) 9)
            have D8 := (pj8 HH.out) (rq hi 8)
            have V0 := (pj29 HH.out) hns
            have hnla : ¬ Ls listed 22 := fun h => hns (HCL.out.dep2 h 20 (by kernel_rfl))
            clear hi HCL
            simp only [List.setIfInBounds_toArray, List.set_cons_succ, List.set_cons_zero, D8]
            have k0 := fr_cell V0 hgl hgp CQ.out
            refine wpOp_one rfl rfl ?_
            intro K hK
            go_wp2_with fail
            rw [HJ0.out]
            exact ⟨wd1, as1, A1, ca1, b2, b3, wd2, as2, A2, ca2, b5, b6, A6, c6, x20, x21, x22, x23, x24, x25, x26, x27, x28, .string q0, x30, x31, x32, x33, x34, x35, x36, x37, x38, x39, x40, x41, (by simp only [List.setIfInBounds_toArray, List.set_cons_succ, List.set_cons_zero, D8]), Bk (pj0 HH.out), Bk (pj1 HH.out), Bk (pj2 HH.out), Bk (pj3 HH.out), Bk (pj4 HH.out), Bk (pj5 HH.out), Bk (pj6 HH.out), Bk (pj7 HH.out), Bk (pj8 HH.out), fun _ => rfl, Bk (pj10 HH.out), Bk (pj11 HH.out), Bk (pj12 HH.out), Bk (pj13 HH.out), Bk (pj14 HH.out), Bk (pj15 HH.out), Bk (pj16 HH.out), Bk (pj17 HH.out), Bk (pj18 HH.out), Bk (pj19 HH.out), Bk (pj20 HH.out), Bk (pj21 HH.out), Bk (pj22 HH.out), Bw (pj23 HH.out), Bw (pj24 HH.out), Bw (pj25 HH.out), Bw (pj26 HH.out), Bw (pj27 HH.out), Bw (pj28 HH.out), Bi (pj29 HH.out), Bw (pe30 HH.out)⟩
          · have hns : ¬ Ls listed 20 := fun h => hnl (dq HCL (dq HCL (dq HCL h 19) 11) 10)
            have D9 := (pj9 HH.out) (rq hi 9)
            have V0 := (pj29 HH.out) hns
            have hk11 : ¬ Ls listed 11 := fun h => hnl (dq HCL h 10)
            have hnla : ¬ Ls listed 22 := fun h => hns (HCL.out.dep2 h 20 (by kernel_rfl))
            clear hi HCL
            simp only [List.setIfInBounds_toArray, List.set_cons_succ, List.set_cons_zero, D9]
            refine wpOp_one rfl rfl ?_
            intro K hK
            go_wp2_with fail
            rw [HJ0.out]
            exact ⟨wd1, as1, A1, ca1, W.heap.size, b3, wd2, as2, A2, ca2, b5, b6, A6, c6, x20, x21, x22, x23, x24, x25, x26, x27, x28, x29, .slice (some ⟨W.heap.size, 0, none⟩) 2 2, x31, x32, x33, x34, x35, x36, x37, x38, x39, x40, x41, (by simp only [List.setIfInBounds_toArray, List.set_cons_succ, List.set_cons_zero, D9]), Bk (pj0 HH.out), Bk (pj1 HH.out), Bk (pj2 HH.out), Bk (pj3 HH.out), Bk (pj4 HH.out), Bk (pj5 HH.out), Bk (pj6 HH.out), Bk (pj7 HH.out), Bk (pj8 HH.out), Bk (pj9 HH.out), fun _ => rfl, Ba hk11, Bk (pj12 HH.out), Bk (pj13 HH.out), Bk (pj14 HH.out), Bk (pj15 HH.out), Bk (pj16 HH.out), Bk (pj17 HH.out), Bk (pj18 HH.out), Bk (pj19 HH.out), Bk (pj20 HH.out), Bk (pj21 HH.out), Ba hnla, (Bt (pj23 HH.out) fun x => fr_rdQ x (Fr.alloc (Fr.start V0.cur) _) (by omega)), fun _ _ => rdQ_topH rfl rfl (show X + 1 ≤ W.heap.size by have := V0.gr.size; omega) rfl, (Bt (pj25 HH.out) fun x => fr_rdQ x (Fr.alloc (Fr.start V0.cur) _) (by omega)), (Bt (pj26 HH.out) fun x => fr_rdQ x (Fr.alloc (Fr.start V0.cur) _) (by omega)), (Bt (pj27 HH.out) fun x => TrQ.call x (Fr.gr (Fr.alloc (Fr.start V0.cur) _)) (by omega)), (Bt (pj28 HH.out) fun x => Lit3.fr x (Fr.alloc (Fr.start V0.cur) _) (by omega)), fun h => Fr.call ((pj29 HH.out) (fun h2 => h h2.fwd)) (Fr.cur (Fr.alloc (Fr.start V0.cur) _)) (Fr.gr (Fr.alloc (Fr.start V0.cur) _)), fun h1 _ => absurd (h1.back (by decide)) hns⟩
          · have D10 := (pj10 HH.out) (rq hi 10)
            clear hi HCL
            simp only [List.setIfInBounds_toArray, List.set_cons_succ, List.set_cons_zero, D10]
            refine wpOp_one rfl rfl ?_
            intro K hK
            go_wp2_with fail
            rw [HJ0.out]
            exact ⟨wd1, as1, A1, ca1, b2, b3, wd2, as2, A2, ca2, b5, b6, A6, c6, x20, x21, x22, x23, x24, x25, x26, x27, x28, x29, x30, .agg #[.int .i64 6, .string ⟨#[]⟩, .slice (some ⟨b2, 0, none⟩) 2 2, .int .i64 0, .slice none 0 0], x32, x33, x34, x35, x36, x37, x38, x39, x40, x41, (by simp only [List.setIfInBounds_toArray, List.set_cons_succ, List.set_cons_zero, D10]), Bk (pj0 HH.out), Bk (pj1 HH.out), Bk (pj2 HH.out), Bk (pj3 HH.out), Bk (pj4 HH.out), Bk (pj5 HH.out), Bk (pj6 HH.out), Bk (pj7 HH.out), Bk (pj8 HH.out), Bk (pj9 HH.out), Bk (pj10 HH.out), fun _ => rfl, Bk (pj12 HH.out), Bk (pj13 HH.out), Bk (pj14 HH.out), Bk (pj15 HH.out), Bk (pj16 HH.out), Bk (pj17 HH.out), Bk (pj18 HH.out), Bk (pj19 HH.out), Bk (pj20 HH.out), Bk (pj21 HH.out), Bk (pj22 HH.out), Bw (pj23 HH.out), Bw (pj24 HH.out), Bw (pj25 HH.out), Bw (pj26 HH.out), Bw (pj27 HH.out), Bw (pj28 HH.out), Bi (pj29 HH.out), Bw (pe30 HH.out)⟩
          · have hns : ¬ Ls listed 20 := fun h => hnl (dq HCL (dq HCL (dq HCL h 19) 18) 12)
            have V0 := (pj29 HH.out) hns
            have hk18 : ¬ Ls listed 18 := fun h => hnl (dq HCL h 12)
            have hnla : ¬ Ls listed 22 := fun h => hns (HCL.out.dep2 h 20 (by kernel_rfl))
            clear hi HCL
            simp only [List.setIfInBounds_toArray, List.set_cons_succ, List.set_cons_zero]
            refine wpOp_one rfl rfl ?_
            intro K hK
            go_wp2_with fail
            rw [HJ0.out]
            exact ⟨wd1, as1, A1, ca1, b2, W.heap.size, wd2, as2, A2, ca2, b5, b6, A6, c6, x20, x21, x22, x23, x24, x25, x26, x27, x28, x29, x30, x31, .slice (some ⟨W.heap.size, 0, none⟩) 1 1, x33, x34, x35, x36, x37, x38, x39, x40, x41, (by simp only [List.setIfInBounds_toArray, List.set_cons_succ, List.set_cons_zero]), Bk (pj0 HH.out), Bk (pj1 HH.out), Bk (pj2 HH.out), Bk (pj3 HH.out), Bk (pj4 HH.out), Bk (pj5 HH.out), Bk (pj6 HH.out), Bk (pj7 HH.out), Bk (pj8 HH.out), Bk (pj9 HH.out), Bk (pj10 HH.out), Bk (pj11 HH.out), fun _ => rfl, Bk (pj13 HH.out), Bk (pj14 HH.out), Bk (pj15 HH.out), Bk (pj16 HH.out), Bk (pj17 HH.out), Ba hk18, Bk (pj19 HH.out), Bk (pj20 HH.out), Bk (pj21 HH.out), Ba hnla, (Bt (pj23 HH.out) fun x => fr_rdQ x (Fr.alloc (Fr.start V0.cur) _) (by omega)), (Bt (pj24 HH.out) fun x => fr_rdQ x (Fr.alloc (Fr.start V0.cur) _) (by omega)), fun _ _ => rdQ_topH rfl rfl (show X + 1 ≤ W.heap.size by have := V0.gr.size; omega) rfl, (Bt (pj26 HH.out) fun x => fr_rdQ x (Fr.alloc (Fr.start V0.cur) _) (by omega)), (Bt (pj27 HH.out) fun x => TrQ.call x (Fr.gr (Fr.alloc (Fr.start V0.cur) _)) (by omega)), (Bt (pj28 HH.out) fun x => Lit3.fr x (Fr.alloc (Fr.start V0.cur) _) (by omega)), fun h => Fr.call ((pj29 HH.out) (fun h2 => h h2.fwd)) (Fr.cur (Fr.alloc (Fr.start V0.cur) _)) (Fr.gr (Fr.alloc (Fr.start V0.cur) _)), fun h1 _ => absurd (h1.back (by decide)) hns⟩
          · clear hi HCL
            simp only [List.setIfInBounds_toArray, List.set_cons_succ, List.set_cons_zero]
            refine wpOp_one rfl rfl ?_
            intro K hK
            go_wp2_with fail
            rw [HJ0.out]
            exact ⟨wd1, as1, A1, ca1, b2, b3, wd2, as2, A2, ca2, b5, b6, A6, c6, x20, x21, x22, x23, x24, x25, x26, x27, x28, x29, x30, x31, x32, .pointer (some ⟨p, 0, none⟩), x34, x35, x36, x37, x38, x39, x40, x41, (by simp only [List.setIfInBounds_toArray, List.set_cons_succ, List.set_cons_zero]), Bk (pj0 HH.out), Bk (pj1 HH.out), Bk (pj2 HH.out), Bk (pj3 HH.out), Bk (pj4 HH.out), Bk (pj5 HH.out), Bk (pj6 HH.out), Bk (pj7 HH.out), Bk (pj8 HH.out), Bk (pj9 HH.out), Bk (pj10 HH.out), Bk (pj11 HH.out), Bk (pj12 HH.out), fun _ => rfl, Bk (pj14 HH.out), Bk (pj15 HH.out), Bk (pj16 HH.out), Bk (pj17 HH.out), Bk (pj18 HH.out), Bk (pj19 HH.out), Bk (pj20 HH.out), Bk (pj21 HH.out), Bk (pj22 HH.out), Bw (pj23 HH.out), Bw (pj24 HH.out), Bw (pj25 HH.out), Bw (pj26 HH.out), Bw (pj27 HH.out), Bw (pj28 HH.out), Bi (pj29 HH.out), Bw (pe30 HH.out)⟩
          · clear hi HCL
            simp only [List.setIfInBounds_toArray, List.set_cons_succ, List.set_cons_zero]
            refine wpOp_one rfl rfl ?_
            intro K hK
            go_wp2_with fail
            rw [HJ0.out]
            exact ⟨wd1, as1, A1, ca1, b2, b3, wd2, as2, A2, ca2, b5, b6, A6, c6, x20, x21, x22, x23, x24, x25, x26, x27, x28, x29, x30, x31, x32, x33, .pointer (some ⟨X, 0, none⟩), x35, x36, x37, x38, x39, x40, x41, (by simp only [List.setIfInBounds_toArray, List.set_cons_succ, List.set_cons_zero]), Bk (pj0 HH.out), Bk (pj1 HH.out), Bk (pj2 HH.out), Bk (pj3 HH.out), Bk (pj4 HH.out), Bk (pj5 HH.out), Bk (pj6 HH.out), Bk (pj7 HH.out), Bk (pj8 HH.out), Bk (pj9 HH.out), Bk (pj10 HH.out), Bk (pj11 HH.out), Bk (pj12 HH.out), Bk (pj13 HH.out), fun _ => rfl, Bk (pj15 HH.out), Bk (pj16 HH.out), Bk (pj17 HH.out), Bk (pj18 HH.out), Bk (pj19 HH.out), Bk (pj20 HH.out), Bk (pj21 HH.out), Bk (pj22 HH.out), Bw (pj23 HH.out), Bw (pj24 HH.out), Bw (pj25 HH.out), Bw (pj26 HH.out), Bw (pj27 HH.out), Bw (pj28 HH.out), Bi (pj29 HH.out), Bw (pe30 HH.out)⟩
          · have hns : ¬ Ls listed 20 := fun h => hnl (dq HCL (dq HCL (dq HCL (dq HCL (dq HCL h 19) 18) 17) 16) 15)
            have D14 := (pj14 HH.out) (rq hi 14)
            have V0 := (pj29 HH.out) hns
            have hnla : ¬ Ls listed 22 := fun h => hns (HCL.out.dep2 h 20 (by kernel_rfl))
            clear hi HCL
            simp only [List.setIfInBounds_toArray, List.set_cons_succ, List.set_cons_zero, D14]
            have k0 := fr_cell V0 hXl hXp C0.out
            refine wpOp_one rfl rfl ?_
            intro K hK
            go_wp2_with fail
            rw [HJ0.out]
            exact ⟨wd1, as1, A1, ca1, b2, b3, wd2, as2, A2, ca2, b5, b6, A6, c6, x20, x21, x22, x23, x24, x25, x26, x27, x28, x29, x30, x31, x32, x33, x34, .slice (some ⟨gq, oq, none⟩) nq cq, x36, x37, x38, x39, x40, x41, (by simp only [List.setIfInBounds_toArray, List.set_cons_succ, List.set_cons_zero, D14]), Bk (pj0 HH.out), Bk (pj1 HH.out), Bk (pj2 HH.out), Bk (pj3 HH.out), Bk (pj4 HH.out), Bk (pj5 HH.out), Bk (pj6 HH.out), Bk (pj7 HH.out), Bk (pj8 HH.out), Bk (pj9 HH.out), Bk (pj10 HH.out), Bk (pj11 HH.out), Bk (pj12 HH.out), Bk (pj13 HH.out), Bk (pj14 HH.out), fun _ => rfl, Bk (pj16 HH.out), Bk (pj17 HH.out), Bk (pj18 HH.out), Bk (pj19 HH.out), Bk (pj20 HH.out), Bk (pj21 HH.out), Bk (pj22 HH.out), Bw (pj23 HH.out), Bw (pj24 HH.out), Bw (pj25 HH.out), Bw (pj26 HH.out), Bw (pj27 HH.out), Bw (pj28 HH.out), Bi (pj29 HH.out), Bw (pe30 HH.out)⟩
          · have hns : ¬ Ls listed 20 := fun h => hnl (dq HCL (dq HCL (dq HCL (dq HCL h 19) 18) 17) 16)
            have D13 := (pj13 HH.out) (rq hi 13)
            have D15 := (pj15 HH.out) (rq hi 15)
            have V0 := (pj29 HH.out) hns
            have hk17 : ¬ Ls listed 17 := fun h => hnl (dq HCL h 16)
            have hk18 : ¬ Ls listed 18 := fun h => hnl (dq HCL (dq HCL h 17) 16)
            have hnla : ¬ Ls listed 22 := fun h => hns (HCL.out.dep2 h 20 (by kernel_rfl))
            clear hi HCL
            simp only [List.setIfInBounds_toArray, List.set_cons_succ, List.set_cons_zero, D13, D15]
            refine wpOp_one rfl rfl ?_
            intro K hK
            go_wp2_with fail
            refine (l17Gate_any _ _ _ Q _ p V0.cur (NM.out.fr V0)).mono ?_
            rintro e y1 ⟨wd7, as7, A7, ca7, rfl, q7, hb7, hc, hg⟩
            go_wp2_with fail
            rw [HJ0.out]
            exact ⟨wd1, as1, A1, ca1, b2, b3, wd7, as7, A7, ca7, b5, b6, A6, c6, x20, x21, x22, x23, x24, x25, x26, x27, x28, x29, x30, x31, x32, x33, x34, x35, .agg #[.int .i64 1, .string wd7, .slice A7 as7.length ca7, .int .i64 0, .slice none 0 0], x37, x38, x39, x40, x41, (by simp only [List.setIfInBounds_toArray, List.set_cons_succ, List.set_cons_zero, D13, D15]), Bk (pj0 HH.out), Bk (pj1 HH.out), Bk (pj2 HH.out), Bk (pj3 HH.out), Bk (pj4 HH.out), Bk (pj5 HH.out), Bk (pj6 HH.out), Bk (pj7 HH.out), Bk (pj8 HH.out), Bk (pj9 HH.out), Bk (pj10 HH.out), Bk (pj11 HH.out), Bk (pj12 HH.out), Bk (pj13 HH.out), Bk (pj14 HH.out), Bk (pj15 HH.out), fun _ => ⟨rfl, hb7⟩, Ba hk17, Ba hk18, Bk (pj19 HH.out), Bk (pj20 HH.out), Bk (pj21 HH.out), Ba hnla, (Bt (pj23 HH.out) fun x => fr_rdQ x (Fr.mk hc hg) (by omega)), (Bt (pj24 HH.out) fun x => fr_rdQ x (Fr.mk hc hg) (by omega)), (Bt (pj25 HH.out) fun x => fr_rdQ x (Fr.mk hc hg) (by omega)), fun _ _ => q7.mono (fun b _ hb => Nat.le_trans (show X + 1 ≤ W.heap.size by have := V0.gr.size; omega) hb), Bb hk17, (Bt (pj28 HH.out) fun x => Lit3.fr x (Fr.mk hc hg) (by omega)), fun h => Fr.call ((pj29 HH.out) (fun h2 => h h2.fwd)) (Fr.cur (Fr.mk hc hg)) (Fr.gr (Fr.mk hc hg)), fun h1 _ => absurd (h1.back (by decide)) hns⟩
          · have hns : ¬ Ls listed 20 := fun h => hnl (dq HCL (dq HCL (dq HCL h 19) 18) 17)
            have D16 := (pj16 HH.out) (rq hi 16)
            have E16 := (pj26 HH.out) (rq hi 16) hns
            have V0 := (pj29 HH.out) hns
            have hk18 : ¬ Ls listed 18 := fun h => hnl (dq HCL h 17)
            have hnla : ¬ Ls listed 22 := fun h => hns (HCL.out.dep2 h 20 (by kernel_rfl))
            clear hi HCL
            obtain ⟨D16, X16⟩ := D16
            simp only [List.setIfInBounds_toArray, List.set_cons_succ, List.set_cons_zero, D16]
            refine wpOp_one rfl rfl ?_
            intro K hK
            go_wp2_with fail
            rw [HJ0.out]
            exact ⟨wd1, as1, A1, ca1, b2, b3, wd2, as2, A2, ca2, W.heap.size, b6, A6, c6, x20, x21, x22, x23, x24, x25, x26, x27, x28, x29, x30, x31, x32, x33, x34, x35, x36, .slice (some ⟨W.heap.size, 0, none⟩) 1 1, x38, x39, x40, x41, (by simp only [List.setIfInBounds_toArray, List.set_cons_succ, List.set_cons_zero, D16]), Bk (pj0 HH.out), Bk (pj1 HH.out), Bk (pj2 HH.out), Bk (pj3 HH.out), Bk (pj4 HH.out), Bk (pj5 HH.out), Bk (pj6 HH.out), Bk (pj7 HH.out), Bk (pj8 HH.out), Bk (pj9 HH.out), Bk (pj10 HH.out), Bk (pj11 HH.out), Bk (pj12 HH.out), Bk (pj13 HH.out), Bk (pj14 HH.out), Bk (pj15 HH.out), Bk (pj16 HH.out), fun _ => ⟨rfl, gate_sz X16.2.1 X16.2.2.1 X16.2.2.2⟩, Ba hk18, Bk (pj19 HH.out), Bk (pj20 HH.out), Bk (pj21 HH.out), Ba hnla, (Bt (pj23 HH.out) fun x => fr_rdQ x (Fr.alloc (Fr.start V0.cur) _) (by omega)), (Bt (pj24 HH.out) fun x => fr_rdQ x (Fr.alloc (Fr.start V0.cur) _) (by omega)), (Bt (pj25 HH.out) fun x => fr_rdQ x (Fr.alloc (Fr.start V0.cur) _) (by omega)), (Bt (pj26 HH.out) fun x => fr_rdQ x (Fr.alloc (Fr.start V0.cur) _) (by omega)), fun _ _ => (ElQ.one (stQ_mk (d := 1) (h := ⟨1, wd2, as2, 0⟩) (Aa := A2) (ca := ca2) (Ab := none) (cb := 0) (fr_rdQ E16 (Fr.alloc (Fr.start V0.cur) _) (by omega)) (trQ_nil 1) X16.1)).tr (rdQ_topH rfl rfl (show X + 1 ≤ W.heap.size by have := V0.gr.size; omega) rfl) rfl, (Bt (pj28 HH.out) fun x => Lit3.fr x (Fr.alloc (Fr.start V0.cur) _) (by omega)), fun h => Fr.call ((pj29 HH.out) (fun h2 => h h2.fwd)) (Fr.cur (Fr.alloc (Fr.start V0.cur) _)) (Fr.gr (Fr.alloc (Fr.start V0.cur) _)), fun h1 _ => absurd (h1.back (by decide)) hns⟩
          · have D12 := (pj12 HH.out) (rq hi 12)
            have D17 := (pj17 HH.out) (rq hi 17)
            clear hi HCL
            obtain ⟨D17, X17⟩ := D17
            simp only [List.setIfInBounds_toArray, List.set_cons_succ, List.set_cons_zero, D12, D17]
            refine wpOp_one rfl rfl ?_
            intro K hK
            go_wp2_with fail
            rw [HJ0.out]
            exact ⟨wd1, as1, A1, ca1, b2, b3, wd2, as2, A2, ca2, b5, b6, A6, c6, x20, x21, x22, x23, x24, x25, x26, x27, x28, x29, x30, x31, x32, x33, x34, x35, x36, x37, .agg #[.int .i64 7, .string ⟨#[]⟩, .slice (some ⟨b3, 0, none⟩) 1 1, .int .i64 0, .slice (some ⟨b5, 0, none⟩) 1 1], x39, x40, x41, (by simp only [List.setIfInBounds_toArray, List.set_cons_succ, List.set_cons_zero, D12, D17]), Bk (pj0 HH.out), Bk (pj1 HH.out), Bk (pj2 HH.out), Bk (pj3 HH.out), Bk (pj4 HH.out), Bk (pj5 HH.out), Bk (pj6 HH.out), Bk (pj7 HH.out), Bk (pj8 HH.out), Bk (pj9 HH.out), Bk (pj10 HH.out), Bk (pj11 HH.out), Bk (pj12 HH.out), Bk (pj13 HH.out), Bk (pj14 HH.out), Bk (pj15 HH.out), Bk (pj16 HH.out), Bk (pj17 HH.out), fun _ => ⟨rfl, X17⟩, Bk (pj19 HH.out), Bk (pj20 HH.out), Bk (pj21 HH.out), Bk (pj22 HH.out), Bw (pj23 HH.out), Bw (pj24 HH.out), Bw (pj25 HH.out), Bw (pj26 HH.out), Bw (pj27 HH.out), Bw (pj28 HH.out), Bi (pj29 HH.out), Bw (pe30 HH.out)⟩
          · have hns : ¬ Ls listed 20 := fun h => hnl (dq HCL h 19)
            have D5 := (pj5 HH.out) (rq hi 5)
            have E5 := (pj23 HH.out) (rq hi 5) hns
            have D11 := (pj11 HH.out) (rq hi 11)
            have D18 := (pj18 HH.out) (rq hi 18)
            have E10 := (pj24 HH.out) (dq HCL (rq hi 11) 10) hns
            have E12 := (pj25 HH.out) (dq HCL (rq hi 18) 12) hns
            have E17 := (pj27 HH.out) (dq HCL (rq hi 18) 17) hns
            have V0 := (pj29 HH.out) hns
            have hnla : ¬ Ls listed 22 := fun h => hns (HCL.out.dep2 h 20 (by kernel_rfl))
            clear hi HCL
            obtain ⟨D5, X5⟩ := D5
            obtain ⟨D18, X18⟩ := D18
            simp only [List.setIfInBounds_toArray, List.set_cons_succ, List.set_cons_zero, D5, D11, D18]
            refine wpOp_one rfl rfl ?_
            intro K hK
            go_wp2_with fail
            rw [HJ0.out]
            exact ⟨wd1, as1, A1, ca1, b2, b3, wd2, as2, A2, ca2, b5, W.heap.size, A6, c6, x20, x21, x22, x23, x24, x25, x26, x27, x28, x29, x30, x31, x32, x33, x34, x35, x36, x37, x38, .slice (some ⟨W.heap.size, 0, none⟩) 3 3, x40, x41, (by simp only [List.setIfInBounds_toArray, List.set_cons_succ, List.set_cons_zero, D5, D11, D18]), Bk (pj0 HH.out), Bk (pj1 HH.out), Bk (pj2 HH.out), Bk (pj3 HH.out), Bk (pj4 HH.out), Bk (pj5 HH.out), Bk (pj6 HH.out), Bk (pj7 HH.out), Bk (pj8 HH.out), Bk (pj9 HH.out), Bk (pj10 HH.out), Bk (pj11 HH.out), Bk (pj12 HH.out), Bk (pj13 HH.out), Bk (pj14 HH.out), Bk (pj15 HH.out), Bk (pj16 HH.out), Bk (pj17 HH.out), Bk (pj18 HH.out), fun _ => rfl, Bk (pj20 HH.out), Bk (pj21 HH.out), Ba hnla, (Bt (pj23 HH.out) fun x => fr_rdQ x (Fr.alloc (Fr.start V0.cur) _) (by omega)), (Bt (pj24 HH.out) fun x => fr_rdQ x (Fr.alloc (Fr.start V0.cur) _) (by omega)), (Bt (pj25 HH.out) fun x => fr_rdQ x (Fr.alloc (Fr.start V0.cur) _) (by omega)), (Bt (pj26 HH.out) fun x => fr_rdQ x (Fr.alloc (Fr.start V0.cur) _) (by omega)), (Bt (pj27 HH.out) fun x => TrQ.call x (Fr.gr (Fr.alloc (Fr.start V0.cur) _)) (by omega)), fun _ _ => ⟨_, _, rdQ_topH rfl rfl (show X + 1 ≤ W.heap.size by have := V0.gr.size; omega) rfl, ((ElQ.one (stQ_mk (d := 2) (h := ⟨1, wd1, as1, 0⟩) (Aa := A1) (ca := ca1) (Ab := none) (cb := 0) (fr_rdQ E5 (Fr.alloc (Fr.start V0.cur) _) (by omega)) (trQ_nil 2) X5.1)).append (ElQ.one (stQ_mk (d := 2) (h := ⟨6, ⟨#[]⟩, [q0, ⟨#[114]⟩], 0⟩) (Aa := some ⟨b2, 0, none⟩) (ca := 2) (Ab := none) (cb := 0) (fr_rdQ E10 (Fr.alloc (Fr.start V0.cur) _) (by omega)) (trQ_nil 2) (Nat.le_refl _)))).append (ElQ.one (stQ_mk (d := 2) (h := ⟨7, ⟨#[]⟩, [⟨#[114]⟩], 0⟩) (Aa := some ⟨b3, 0, none⟩) (ca := 1) (Ab := some ⟨b5, 0, none⟩) (cb := 1) (fr_rdQ E12 (Fr.alloc (Fr.start V0.cur) _) (by omega)) (TrQ.call E17 (Fr.gr (Fr.alloc (Fr.start V0.cur) _)) (by omega)) (Nat.le_refl _))), rfl, three_le X5.2.1 X5.2.2.1 X5.2.2.2 hq09 X18⟩, fun h => Fr.call ((pj29 HH.out) (fun h2 => h h2.fwd)) (Fr.cur (Fr.alloc (Fr.start V0.cur) _)) (Fr.gr (Fr.alloc (Fr.start V0.cur) _)), fun h1 _ => absurd (h1.back (by decide)) hns⟩
          · have hns : ¬ Ls listed 20 := hnl
            have D1 := (pj1 HH.out) (rq hi 1)
            have D19 := (pj19 HH.out) (rq hi 19)
            have E19 := (pj28 HH.out) (rq hi 19) hns
            have V0 := (pj29 HH.out) hns
            have hnla : ¬ Ls listed 22 := fun h => hns (HCL.out.dep2 h 20 (by kernel_rfl))
            clear hi HCL
            simp only [List.setIfInBounds_toArray, List.set_cons_succ, List.set_cons_zero, D1, D19]
            obtain ⟨cs, m, hlr, hel, hml, hmz⟩ := E19
            have hX5 := Lib.hid (fr_heap V0 hXp PC.out.x)
            refine wpOp_one rfl rfl ?_
            intro K hK
            simp only [List.getElem_toArray, List.getElem_cons_succ, List.getElem_cons_zero]
            refine wpList_append_rd _ rfl _ _ 25 rfl (X + 1) 66 i0 _ 5 80 Tryz.underlying25 hi hz0 hz1 hz2 rfl (by decide) (.slice none 0 0) 0 [] rfl ⟨rfl, .inl ⟨rfl, rfl⟩⟩ _ 3 3 _ rfl hlr.rd hel.ones ?c3 ?c4 ?c5 ?_
            case c3 => simp only [maxLen]; omega
            case c4 => omega
            case c5 => have := V0.gr.size; omega
            intro v6 W6 own6 gr6 hat
            obtain ⟨A7, c7, rfl, _, _, _⟩ := rd_of_own own6
            go_wp2_with fail
            rw [HJ0.out]
            exact ⟨wd1, as1, A1, ca1, b2, b3, wd2, as2, A2, ca2, b5, b6, A7, c7, x20, x21, x22, x23, x24, x25, x26, x27, x28, x29, x30, x31, x32, x33, x34, x35, x36, x37, x38, x39, .slice A7 3 c7, x41, (by first | (simp only [List.setIfInBounds_toArray, List.set_cons_succ, List.set_cons_zero, D1, D19] <;> fail) | simp only [Act.put, List.setIfInBounds_toArray, List.set_cons_succ, List.set_cons_zero, D1, D19]), Bk (pj0 HH.out), Bk (pj1 HH.out), Bk (pj2 HH.out), Bk (pj3 HH.out), Bk (pj4 HH.out), Bk (pj5 HH.out), Bk (pj6 HH.out), Bk (pj7 HH.out), Bk (pj8 HH.out), Bk (pj9 HH.out), Bk (pj10 HH.out), Bk (pj11 HH.out), Bk (pj12 HH.out), Bk (pj13 HH.out), Bk (pj14 HH.out), Bk (pj15 HH.out), Bk (pj16 HH.out), Bk (pj17 HH.out), Bk (pj18 HH.out), Bk (pj19 HH.out), fun _ => rfl, Bk (pj21 HH.out), Ba hnla, fun _ h => absurd hnow h, fun _ h => absurd hnow h, fun _ h => absurd hnow h, fun _ h => absurd hnow h, fun _ h => absurd hnow h, fun _ h => absurd hnow h, fun h => absurd hnow h, fun _ _ => ⟨W, m, V0, gr6, OwnT.push (xs := []) (l := []) ElQ.nil (hel.mono (fun b _ hb => ⟨hb, fun e => by cases e⟩)) (by rw [hml]; exact own6) (Below.refl _ _) gr6 hat, (gr6.block X (lt_of_block hX5.out) (by simp [Value.ownBlock])).trans hX5.out, by omega, hmz⟩⟩
          · clear hi HCL
            simp only [List.setIfInBounds_toArray, List.set_cons_succ, List.set_cons_zero]
            refine wpOp_one rfl rfl ?_
            intro K hK
            go_wp2_with fail
            rw [HJ0.out]
            exact ⟨wd1, as1, A1, ca1, b2, b3, wd2, as2, A2, ca2, b5, b6, A6, c6, x20, x21, x22, x23, x24, x25, x26, x27, x28, x29, x30, x31, x32, x33, x34, x35, x36, x37, x38, x39, x40, .pointer (some ⟨X, 1, none⟩), (by simp only [List.setIfInBounds_toArray, List.set_cons_succ, List.set_cons_zero]), Bk (pj0 HH.out), Bk (pj1 HH.out), Bk (pj2 HH.out), Bk (pj3 HH.out), Bk (pj4 HH.out), Bk (pj5 HH.out), Bk (pj6 HH.out), Bk (pj7 HH.out), Bk (pj8 HH.out), Bk (pj9 HH.out), Bk (pj10 HH.out), Bk (pj11 HH.out), Bk (pj12 HH.out), Bk (pj13 HH.out), Bk (pj14 HH.out), Bk (pj15 HH.out), Bk (pj16 HH.out), Bk (pj17 HH.out), Bk (pj18 HH.out), Bk (pj19 HH.out), Bk (pj20 HH.out), fun _ => rfl, Bk (pj22 HH.out), Bw (pj23 HH.out), Bw (pj24 HH.out), Bw (pj25 HH.out), Bw (pj26 HH.out), Bw (pj27 HH.out), Bw (pj28 HH.out), Bi (pj29 HH.out), Bw (pe30 HH.out)⟩
          · have D20 := (pj20 HH.out) (rq hi 20)
            have D21 := (pj21 HH.out) (rq hi 21)
            have HST := rq hi 20
            have VL := (pe30 HH.out) HST hnl
            clear hi HCL
            simp only [List.setIfInBounds_toArray, List.set_cons_succ, List.set_cons_zero, D20, D21]
            obtain ⟨W5, m, l1, l2, l3, l4, l5, l6⟩ := VL
            have px6 := cell_at (j := 1) l4 rfl
            have fx6 := free_at (j := 1) l4
            have lx6 := lt_of_block l4
            have PEH := Lib.hid (PC.out.put hp l1 l2 l3 l4)
            have ML := Lib.hid (And.intro l5 l6)
            clear l1 l2 l3 l4 l5 l6
            refine wpOp_one rfl rfl ?_
            intro K hK
            go_wp2_with fail
            rw [HJ0.out]
            exact ⟨wd1, as1, A1, ca1, b2, b3, wd2, as2, A2, ca2, b5, b6, A6, c6, x20, x21, x22, x23, x24, x25, x26, x27, x28, x29, x30, x31, x32, x33, x34, x35, x36, x37, x38, x39, x40, x41, (by simp only [List.setIfInBounds_toArray, List.set_cons_succ, List.set_cons_zero, D20, D21]), Bk (pj0 HH.out), Bk (pj1 HH.out), Bk (pj2 HH.out), Bk (pj3 HH.out), Bk (pj4 HH.out), Bk (pj5 HH.out), Bk (pj6 HH.out), Bk (pj7 HH.out), Bk (pj8 HH.out), Bk (pj9 HH.out), Bk (pj10 HH.out), Bk (pj11 HH.out), Bk (pj12 HH.out), Bk (pj13 HH.out), Bk (pj14 HH.out), Bk (pj15 HH.out), Bk (pj16 HH.out), Bk (pj17 HH.out), Bk (pj18 HH.out), Bk (pj19 HH.out), Bk (pj20 HH.out), Bk (pj21 HH.out), fun _ => ⟨_, m, ML.out.1, ML.out.2, PEH.out⟩, fun _ h => absurd (Ls.fwd HST) h, fun _ h => absurd (Ls.fwd HST) h, fun _ h => absurd (Ls.fwd HST) h, fun _ h => absurd (Ls.fwd HST) h, fun _ h => absurd (Ls.fwd HST) h, fun _ h => absurd (Ls.fwd HST) h, fun h => absurd (Ls.fwd HST) h, fun _ h => absurd hnow h⟩
        · intro listed a W hsize hJ hr
          rw [HJ0.out] at hJ
          have hall := all_listed hsize (by kernel_rfl) hr
          obtain ⟨wd1, as1, A1, ca1, b2, b3, wd2, as2, A2, ca2, b5, b6, A6, c6, x20, x21, x22, x23, x24, x25, x26, x27, x28, x29, x30, x31, x32, x33, x34, x35, x36, x37, x38, x39, x40, x41, rfl, HF⟩ := hJ
          have HH := Lib.hid HF
          have HEND := (pj22 HH.out) (hall 22 (by decide))
          clear HF HH hall hr hsize
          simp only [List.setIfInBounds_toArray, List.set_cons_succ, List.set_cons_zero]
          go_wp2_with fail
          go_meet
          exact HEND
    case rest =>
      obtain ⟨vb, l, hl3, hsm, hps⟩ := hcut
      obtain ⟨Ab, cb, rfl, _, _⟩ := hps.b.slice
      obtain ⟨wz, rfl⟩ : ∃ wz : World, wz = wc := ⟨_, rfl⟩
      go_upto_region 5 with (fail)
      obtain ⟨nb, hnb⟩ : ∃ nb, nb = l.length := ⟨_, rfl⟩
      rw [← hnb] at hps
      have hnb3 : nb ≤ 3 := by omega
      have HNB := Lib.hid hnb
      have HSM := Lib.hid hsm
      have PC := Lib.hid hps
      clear hps hsm hnb P9
      have NM := Lib.hid (PC.out.names hp ⟨HQ3.out.1, by have := HQ3.out.2.1; omega, HQ3.out.2.2⟩)
      obtain ⟨c0, c1⟩ := cells2G (lay := Below.refl _ _) PC.out.x
      have hXl := lt_of_block PC.out.x
      have hXp : X ≠ p := by omega
      have frD : Fr w p wz := PC.out.fr
      have frS : Fr wz p wz := Fr.start PC.out.fr.cur
      have hpc : p < wz.heap.size := PC.out.fr.cur.lt
      have C0 := Lib.hid c0
      have C1 := Lib.hid c1
      have HLT := Lib.hid PC.out.b.lt
      have HGE := Lib.hid PC.out.b.ge
      clear c0 c1
      obtain ⟨J0, hJ0⟩ : ∃ J : Array Value → Array Bool → Act → World → Prop, J = (fun A0 listed a W => ∃ (A3 : Option Addr) (n3 : Nat) (c3 : Nat) (A6 : Option Addr) (n6 : Nat) (c6 : Nat), ∃ x42 x43 x44 x45 x46 x47 x48 x49 x50 : Value, a = ⟨(((((((((A0.setIfInBounds 42 x42).setIfInBounds 43 x43).setIfInBounds 44 x44).setIfInBounds 45 x45).setIfInBounds 46 x46).setIfInBounds 47 x47).setIfInBounds 48 x48).setIfInBounds 49 x49).setIfInBounds 50 x50), []⟩ ∧ (Ls listed 0 → x42 = .pointer (some ⟨X, 1, none⟩)) ∧ (Ls listed 1 → x43 = .slice Ab nb cb) ∧ (Ls listed 2 → x44 = .pointer (some ⟨p, 0, none⟩)) ∧ (Ls listed 3 → x45 = .pointer (some ⟨X, 0, none⟩)) ∧ (Ls listed 4 → x46 = .slice Aq nq cq) ∧ (Ls listed 5 → x47 = .bool wild) ∧ (Ls listed 6 → x48 = .slice A3 n3 c3 ∧ n3 ≤ 3) ∧ (Ls listed 7 → x49 = .slice A6 n6 c6) ∧ (Ls listed 8 → x50 = .pointer (some ⟨X, 1, none⟩)) ∧ (Ls listed 9 → (∃ (vb : Value) (l : List (Tr 3)), l.length ≤ 6 ∧ (∀ s ∈ l, szE s ≤ bE 2) ∧ PS w p X Aq nq cq Q 2 vb l W)) ∧ (Ls listed 6 → ¬ Ls listed 7 → LitB wz.heap.size W A3 n3) ∧ (¬ Ls listed 7 → Fr wz p W) ∧ (Ls listed 7 → ¬ Ls listed 9 → (∃ (W5 : World) (m : List (Tr 3)), Fr wz p W5 ∧ W5.grownBy W (Value.slice Ab nb cb).ownBlock ∧ OwnT W (X + 1) 2 (.slice A6 n6 c6) m ∧ W.heap[X]? = some (.cells #[.slice Aq nq cq, .slice Ab nb cb] 27 (0, 0)) ∧ m.length ≤ 6 ∧ ∀ s ∈ m, szE s ≤ bE 2))) := ⟨_, rfl⟩
      have HJ0 := Lib.hid hJ0
      clear hJ0
      refine wp_region_inv2 (by kernel_rfl) J0 ?_ ?_ ?_
      · intro A0
        rw [HJ0.out]
        exact ⟨none, 0, 0, none, 0, 0, A0.getD 42 undef, A0.getD 43 undef, A0.getD 44 undef, A0.getD 45 undef, A0.getD 46 undef, A0.getD 47 undef, A0.getD 48 undef, A0.getD 49 undef, A0.getD 50 undef, by simp only [set_self], fun h => h.none, fun h => h.none, fun h => h.none, fun h => h.none, fun h => h.none, fun h => h.none, fun h => h.none, fun h => h.none, fun h => h.none, fun h => h.none, fun h => h.none, fun _ => frS.drew, fun h => h.none⟩
      · intro listed a W hsize hcl hJ i hi
        have hil := ready_lt hi
        have hnl := ready_not hi
        have hnow := ready_now hi hsize
        have HCL := Lib.hid hcl
        rw [HJ0.out] at hJ
        obtain ⟨A3, n3, c3, A6, n6, c6, x42, x43, x44, x45, x46, x47, x48, x49, x50, rfl, HF⟩ := hJ
        have HH := Lib.hid HF
        have hi2 : i = 0 ∨ i = 1 ∨ i = 2 ∨ i = 3 ∨ i = 4 ∨ i = 5 ∨ i = 6 ∨ i = 7 ∨ i = 8 ∨ i = 9 := by simp at hil; omega
        clear hil hcl HF
        rcases hi2 with rfl | rfl | rfl | rfl | rfl | rfl | rfl | rfl | rfl | rfl
        · clear hi HCL
          simp only [List.setIfInBounds_toArray, List.set_cons_succ, List.set_cons_zero]
          refine wpOp_one rfl rfl ?_
          intro K hK
          go_wp2_with fail
          rw [HJ0.out]
          exact ⟨A3, n3, c3, A6, n6, c6, .pointer (some ⟨X, 1, none⟩), x43, x44, x45, x46, x47, x48, x49, x50, (by simp only [List.setIfInBounds_toArray, List.set_cons_succ, List.set_cons_zero]), fun _ => rfl, Bk (pj1 HH.out), Bk (pj2 HH.out), Bk (pj3 HH.out), Bk (pj4 HH.out), Bk (pj5 HH.out), Bk (pj6 HH.out), Bk (pj7 HH.out), Bk (pj8 HH.out), Bk (pj9 HH.out), Bw (pj10 HH.out), Bi (pj11 HH.out), Bw (pe12 HH.out)⟩
        · have hns : ¬ Ls listed 7 := fun h => hnl (dq HCL h 1)
          have D0 := (pj0 HH.out) (rq hi 0)
          have V0 := (pj11 HH.out) hns
          have hnla : ¬ Ls listed 9 := fun h => hns (HCL.out.dep2 h 7 (by kernel_rfl))
          clear hi HCL
          simp only [List.setIfInBounds_toArray, List.set_cons_succ, List.set_cons_zero, D0]
          have k0 := fr_cell V0 hXl hXp C1.out
          refine wpOp_one rfl rfl ?_
          intro K hK
          go_wp2_with fail
          rw [HJ0.out]
          exact ⟨A3, n3, c3, A6, n6, c6, x42, .slice Ab nb cb, x44, x45, x46, x47, x48, x49, x50, (by simp only [List.setIfInBounds_toArray, List.set_cons_succ, List.set_cons_zero, D0]), Bk (pj0 HH.out), fun _ => rfl, Bk (pj2 HH.out), Bk (pj3 HH.out), Bk (pj4 HH.out), Bk (pj5 HH.out), Bk (pj6 HH.out), Bk (pj7 HH.out), Bk (pj8 HH.out), Bk (pj9 HH.out), Bw (pj10 HH.out), Bi (pj11 HH.out), Bw (pe12 HH.out)⟩
        · clear hi HCL
          simp only [List.setIfInBounds_toArray, List.set_cons_succ, List.set_cons_zero]
          refine wpOp_one rfl rfl ?_
          intro K hK
          go_wp2_with fail
          rw [HJ0.out]
          exact ⟨A3, n3, c3, A6, n6, c6, x42, x43, .pointer (some ⟨p, 0, none⟩), x45, x46, x47, x48, x49, x50, (by simp only [List.setIfInBounds_toArray, List.set_cons_succ, List.set_cons_zero]), Bk (pj0 HH.out), Bk (pj1 HH.out), fun _ => rfl, Bk (pj3 HH.out), Bk (pj4 HH.out), Bk (pj5 HH.out), Bk (pj6 HH.out), Bk (pj7 HH.out), Bk (pj8 HH.out), Bk (pj9 HH.out), Bw (pj10 HH.out), Bi (pj11 HH.out), Bw (pe12 HH.out)⟩
        · clear hi HCL
          simp only [List.setIfInBounds_toArray, List.set_cons_succ, List.set_cons_zero]
          refine wpOp_one rfl rfl ?_
          intro K hK
          go_wp2_with fail
          rw [HJ0.out]
          exact ⟨A3, n3, c3, A6, n6, c6, x42, x43, x44, .pointer (some ⟨X, 0, none⟩), x46, x47, x48, x49, x50, (by simp only [List.setIfInBounds_toArray, List.set_cons_succ, List.set_cons_zero]), Bk (pj0 HH.out), Bk (pj1 HH.out), Bk (pj2 HH.out), fun _ => rfl, Bk (pj4 HH.out), Bk (pj5 HH.out), Bk (pj6 HH.out), Bk (pj7 HH.out), Bk (pj8 HH.out), Bk (pj9 HH.out), Bw (pj10 HH.out), Bi (pj11 HH.out), Bw (pe12 HH.out)⟩
        · have hns : ¬ Ls listed 7 := fun h => hnl (dq HCL (dq HCL h 6) 4)
          have D3 := (pj3 HH.out) (rq hi 3)
          have V0 := (pj11 HH.out) hns
          have hnla : ¬ Ls listed 9 := fun h => hns (HCL.out.dep2 h 7 (by kernel_rfl))
          clear hi HCL
          simp only [List.setIfInBounds_toArray, List.set_cons_succ, List.set_cons_zero, D3]
          have k0 := fr_cell V0 hXl hXp C0.out
          refine wpOp_one rfl rfl ?_
          intro K hK
          go_wp2_with fail
          rw [HJ0.out]
          exact ⟨A3, n3, c3, A6, n6, c6, x42, x43, x44, x45, .slice Aq nq cq, x47, x48, x49, x50, (by simp only [List.setIfInBounds_toArray, List.set_cons_succ, List.set_cons_zero, D3]), Bk (pj0 HH.out), Bk (pj1 HH.out), Bk (pj2 HH.out), Bk (pj3 HH.out), fun _ => rfl, Bk (pj5 HH.out), Bk (pj6 HH.out), Bk (pj7 HH.out), Bk (pj8 HH.out), Bk (pj9 HH.out), Bw (pj10 HH.out), Bi (pj11 HH.out), Bw (pe12 HH.out)⟩
        · clear hi HCL
          simp only [List.setIfInBounds_toArray, List.set_cons_succ, List.set_cons_zero]
          refine wpOp_one rfl rfl ?_
          intro K hK
          go_wp2_with fail
          rw [HJ0.out]
          exact ⟨A3, n3, c3, A6, n6, c6, x42, x43, x44, x45, x46, .bool wild, x48, x49, x50, (by simp only [List.setIfInBounds_toArray, List.set_cons_succ, List.set_cons_zero]), Bk (pj0 HH.out), Bk (pj1 HH.out), Bk (pj2 HH.out), Bk (pj3 HH.out), Bk (pj4 HH.out), fun _ => rfl, Bk (pj6 HH.out), Bk (pj7 HH.out), Bk (pj8 HH.out), Bk (pj9 HH.out), Bw (pj10 HH.out), Bi (pj11 HH.out), Bw (pe12 HH.out)⟩
        · have hns : ¬ Ls listed 7 := fun h => hnl (dq HCL h 6)
          have D2 := (pj2 HH.out) (rq hi 2)
          have D4 := (pj4 HH.out) (rq hi 4)
          have D5 := (pj5 HH.out) (rq hi 5)
          have V0 := (pj11 HH.out) hns
          have hnla : ¬ Ls listed 9 := fun h => hns (HCL.out.dep2 h 7 (by kernel_rfl))
          clear hi HCL
          simp only [List.setIfInBounds_toArray, List.set_cons_succ, List.set_cons_zero, D2, D4, D5]
          refine wpOp_one rfl rfl ?_
          intro K hK
          go_wp2_with fail
          refine (hbody _ _ _ Q wild _ p V0.cur (NM.out.fr V0)).mono ?_
          rintro e y1 ⟨v7, m7, rfl, ho7, hf7, hc, hg⟩
          obtain ⟨A7, c7, rfl, _, _⟩ := ho7.slice
          go_wp2_with fail
          rw [HJ0.out]
          exact ⟨A7, m7.length, c7, A6, n6, c6, x42, x43, x44, x45, x46, x47, .slice A7 m7.length c7, x49, x50, (by simp only [List.setIfInBounds_toArray, List.set_cons_succ, List.set_cons_zero, D2, D4, D5]), Bk (pj0 HH.out), Bk (pj1 HH.out), Bk (pj2 HH.out), Bk (pj3 HH.out), Bk (pj4 HH.out), Bk (pj5 HH.out), fun _ => ⟨rfl, hf7.1⟩, Bk (pj7 HH.out), Bk (pj8 HH.out), Ba hnla, fun _ _ => ho7.litB hf7 V0.gr.size, fun h => Fr.call ((pj11 HH.out) (fun h2 => h h2.fwd)) (Fr.cur (Fr.mk hc hg)) (Fr.gr (Fr.mk hc hg)), fun h1 _ => absurd (h1.back (by decide)) hns⟩
        · have hns : ¬ Ls listed 7 := hnl
          have D1 := (pj1 HH.out) (rq hi 1)
          have D6 := (pj6 HH.out) (rq hi 6)
          have E6 := (pj10 HH.out) (rq hi 6) hns
          have V0 := (pj11 HH.out) hns
          have hnla : ¬ Ls listed 9 := fun h => hns (HCL.out.dep2 h 7 (by kernel_rfl))
          clear hi HCL
          obtain ⟨D6, X6⟩ := D6
          simp only [List.setIfInBounds_toArray, List.set_cons_succ, List.set_cons_zero, D1, D6]
          obtain ⟨cs, m, hlr, hel, hml, hmf⟩ := E6
          have HX5 := Lib.hid (fr_heap V0 hXp PC.out.x)
          obtain ⟨xs, hox, hxe⟩ := fr_own PC.out.b V0 (by omega)
          rw [← HNB.out] at hox
          have HXO := Lib.hid hox
          have HXE := Lib.hid hxe
          have HML := Lib.hid hml
          have HMF := Lib.hid hmf
          have hn3 := X6
          clear hox hxe hml hmf
          refine wpOp_one rfl rfl ?_
          intro K hK
          simp only [List.getElem_toArray, List.getElem_cons_succ, List.getElem_cons_zero]
          refine wpList_append_rd _ rfl _ _ 25 rfl (X + 1) 66 i0 _ 5 80 Tryz.underlying25 hi hz0 hz1 hz2 rfl (by decide) (.slice Ab nb cb) nb xs rfl HXO.out _ n3 c3 _ rfl hlr.rd hel.ones ?c3 ?c4 ?c5 ?_
          case c3 => simp only [maxLen]; omega
          case c4 => omega
          case c5 => have := V0.gr.size; omega
          intro v6 W6 own6 gr6 hat
          obtain ⟨A7, c7, rfl, _, _, _⟩ := rd_of_own own6
          go_wp2_with fail
          rw [HJ0.out]
          exact ⟨A3, n3, c3, A7, (nb + n3), c7, x42, x43, x44, x45, x46, x47, x48, .slice A7 (nb + n3) c7, x50, (by first | (simp only [List.setIfInBounds_toArray, List.set_cons_succ, List.set_cons_zero, D1, D6] <;> fail) | simp only [Act.put, List.setIfInBounds_toArray, List.set_cons_succ, List.set_cons_zero, D1, D6]), Bk (pj0 HH.out), Bk (pj1 HH.out), Bk (pj2 HH.out), Bk (pj3 HH.out), Bk (pj4 HH.out), Bk (pj5 HH.out), Bk (pj6 HH.out), fun _ => rfl, Bk (pj8 HH.out), Ba hnla, fun _ h => absurd hnow h, fun h => absurd hnow h, fun _ _ => ⟨W, l ++ m, V0, gr6, OwnT.push (xs := xs) (l := l) HXE.out (hel.mono (fun b _ hb => ⟨by omega, fun e => by have := HLT.out b e.symm; omega⟩)) (by rw [← HNB.out, HML.out]; exact own6) (Below.refl _ _) gr6 hat, (gr6.block X (lt_of_block HX5.out) (fun e => by have := HGE.out X e.symm; omega)).trans HX5.out, few_app hl3 HSM.out HMF.out⟩⟩
        · clear hi HCL
          simp only [List.setIfInBounds_toArray, List.set_cons_succ, List.set_cons_zero]
          refine wpOp_one rfl rfl ?_
          intro K hK
          go_wp2_with fail
          rw [HJ0.out]
          exact ⟨A3, n3, c3, A6, n6, c6, x42, x43, x44, x45, x46, x47, x48, x49, .pointer (some ⟨X, 1, none⟩), (by simp only [List.setIfInBounds_toArray, List.set_cons_succ, List.set_cons_zero]), Bk (pj0 HH.out), Bk (pj1 HH.out), Bk (pj2 HH.out), Bk (pj3 HH.out), Bk (pj4 HH.out), Bk (pj5 HH.out), Bk (pj6 HH.out), Bk (pj7 HH.out), fun _ => rfl, Bk (pj9 HH.out), Bw (pj10 HH.out), Bi (pj11 HH.out), Bw (pe12 HH.out)⟩
        · have D7 := (pj7 HH.out) (rq hi 7)
          have D8 := (pj8 HH.out) (rq hi 8)
          have HST := rq hi 7
          have VL := (pe12 HH.out) HST hnl
          clear hi HCL
          simp only [List.setIfInBounds_toArray, List.set_cons_succ, List.set_cons_zero, D7, D8]
          obtain ⟨W5, m, l1, l2, l3, l4, l5, l6⟩ := VL
          have px6 := cell_at (j := 1) l4 rfl
          have fx6 := free_at (j := 1) l4
          have lx6 := lt_of_block l4
          have PEH := Lib.hid (PC.out.put hp l1 l2 l3 l4)
          have ML := Lib.hid (And.intro l5 l6)
          clear l1 l2 l3 l4 l5 l6
          refine wpOp_one rfl rfl ?_
          intro K hK
          go_wp2_with fail
          rw [HJ0.out]
          exact ⟨A3, n3, c3, A6, n6, c6, x42, x43, x44, x45, x46, x47, x48, x49, x50, (by simp only [List.setIfInBounds_toArray, List.set_cons_succ, List.set_cons_zero, D7, D8]), Bk (pj0 HH.out), Bk (pj1 HH.out), Bk (pj2 HH.out), Bk (pj3 HH.out), Bk (pj4 HH.out), Bk (pj5 HH.out), Bk (pj6 HH.out), Bk (pj7 HH.out), Bk (pj8 HH.out), fun _ => ⟨_, m, ML.out.1, ML.out.2, PEH.out⟩, fun _ h => absurd (Ls.fwd HST) h, fun h => absurd (Ls.fwd HST) h, fun _ h => absurd hnow h⟩
      · intro listed a W hsize hJ hr
        rw [HJ0.out] at hJ
        have hall := all_listed hsize (by kernel_rfl) hr
        obtain ⟨A3, n3, c3, A6, n6, c6, x42, x43, x44, x45, x46, x47, x48, x49, x50, rfl, HF⟩ := hJ
        have HH := Lib.hid HF
        have HEND := (pj9 HH.out) (hall 9 (by decide))
        clear HF HH hall hr hsize
        simp only [List.setIfInBounds_toArray, List.set_cons_succ, List.set_cons_zero]
        obtain ⟨vb6, l6, hl6, hs6, hps6⟩ := HEND
        obtain ⟨A6, c6, rfl, _, _⟩ := hps6.b.slice
        obtain ⟨nb6, hnb6⟩ : ∃ nb6, nb6 = l6.length := ⟨_, rfl⟩
        rw [← hnb6] at hps6
        clear hnb6
        have HNE := Lib.hid (own_ne_typeG hps6.q hps6.r0 (by decide))
        obtain ⟨k0, k1⟩ := cells2G (lay := Below.refl _ _) hps6.x
        obtain ⟨r0, r1⟩ := cells2G (lay := Below.refl _ _) hps6.r0
        have g0 := free_at (j := 0) hps6.r0
        have g1 := free_at (j := 1) hps6.r0
        have hfr6 := hps6.fr
        have hlo6 := hps6.lo
        have hsz6 := lt_of_block hps6.x
        have H6 := Lib.hid (And.intro hps6 (And.intro hl6 hs6))
        clear hps6 hl6 hs6
        go_wp2_with fail
        exact bodyPost_ret (v := .agg #[.slice Aq nq cq, .slice A6 nb6 c6]) (by simp [results, Tryz.results80, go_sem, r0, r1]) rfl ⟨Aq, nq, cq, X + 1, Q, _, l6, rfl, (by repeat (first | exact H6.out.1.q | (refine own_setfarG ?_ HNE.out _))), H6.out.1.ql, (fun k hk => Nat.lt_succ_of_lt (H6.out.1.qx k hk)), ⟨by omega, by simp [World.setCell]; omega⟩, (by repeat (first | exact H6.out.1.b | (refine OwnT.set0 ?_ (Nat.lt_succ_of_lt hlo6) _))), HQ3.out, H6.out.2, (Fr.cur (w := w) (by first | ((repeat (first | assumption | (with_reducible refine Fr.alloc ?_ _) | (with_reducible refine Fr.drew ?_) | (with_reducible refine Fr.set ?_ (by omega) (by first | omega | (simp; done) | (simp; omega)) _))) <;> fail) | fail)), (Fr.gr (by first | ((repeat (first | assumption | (with_reducible refine Fr.alloc ?_ _) | (with_reducible refine Fr.drew ?_) | (with_reducible refine Fr.set ?_ (by omega) (by first | omega | (simp; done) | (simp; omega)) _))) <;> fail) | fail))⟩
end Go.Proofs.YthkbckkghnbonaaGreatDoor
namespace Go.Proofs.YthkbckkghnbonaaGreatDoor
open Go.RowKit
set_option linter.unusedVariables false
theorem TrQ.set_ {w : World} {P : Nat → Prop} {d n : Nat} {A : Option Addr} {l : List (Tr d)} (h : TrQ w P d A n l) {p : Addr} (hp : ¬ P p.block) (u : Value) : TrQ (w.setCell p u) P d A n l :=
  h.keep (fun b hb _ => Below.heap_setCell w p u b (fun e => hp (e ▸ hb))) (by simp [World.setCell])
end Go.Proofs.YthkbckkghnbonaaGreatDoor
namespace Go.Proofs.YthkbckkghnbonaaGreatDoor
open Go.RowKit
set_option linter.unusedVariables false
/-- The program's variable X ahead of the bending. -/
structure SBe (w : World) (p X B : Nat) (Aq : Option Addr) (nq cq : Nat) (Q : List ByteArray) (Ab : Option Addr) (nb cb : Nat) (l : List (Tr 3)) (xs : List Value) (W : World) : Prop where
  fr : Fr w p W
  r0 : W.heap[w.heap.size]? = some (.cells #[.slice none 0 0, .slice none 0 0] 27 (0, 0))
  x : W.heap[X]? = some (.cells #[.slice Aq nq cq, .slice Ab nb cb] 27 (0, 0))
  q : W.ownsRow (w.heap.size + 1) 9 1 (.slice Aq nq cq) nq (strs Q)
  ql : Q.length = nq
  qs : Short 3 Q
  qb : ∀ k, (Value.slice Aq nq cq).ownBlock = some k → k < B
  hB : w.heap.size + 1 ≤ B
  hX : B ≤ X
  bo : W.ownsRow B 66 5 (.slice Ab nb cb) nb xs
  be : ElQ W (fun b => B ≤ b ∧ b < X ∧ some b ≠ (Value.slice Ab nb cb).ownBlock) 2 xs l
  bl : l.length = nb
  bs : szT 3 l ≤ 16000
  bx : ∀ k, (Value.slice Ab nb cb).ownBlock = some k → k < X
section
variable {w W : World} {p X B nq cq nb cb : Nat} {Aq Ab : Option Addr} {Q : List ByteArray} {l : List (Tr 3)} {xs : List Value}
theorem SBe.call {W' : World} (h : SBe w p X B Aq nq cq Q Ab nb cb l xs W) (hp : p < w.heap.size) (hf : Fr W p W') : SBe w p X B Aq nq cq Q Ab nb cb l xs W' := by
  have h1 := h.hB
  have h2 := h.hX
  exact ⟨h.fr.call hf.cur hf.gr, fr_heap hf (by omega) h.r0, fr_heap hf (by omega) h.x, own_drawG h.q hf.gr (by omega), h.ql, h.qs, h.qb, h.hB, h.hX, own_drawG h.bo hf.gr (by omega),
    h.be.keep (fun b hb hlt => hf.gr.block b hlt (fun e => by injection e with e; have := hb.1; omega)) hf.gr.size, h.bl, h.bs, h.bx⟩
end
end Go.Proofs.YthkbckkghnbonaaGreatDoor
namespace Go.Proofs.YthkbckkghnbonaaGreatDoor
open Go.RowKit
set_option linter.unusedVariables false
theorem OwnT.set_ {w : World} {base d : Nat} {v : Value} {l : List (Tr (d + 1))} (h : OwnT w base d v l) {p : Addr} (hp : p.block < base) (u : Value) : OwnT (w.setCell p u) base d v l :=
  h.grown (only_setCell (World.grownBy.refl w (some p.block)) rfl u) (fun k hk => by injection hk with hk; omega)
theorem szT_few {l : List (Tr 3)} (h1 : l.length ≤ 6) (h2 : ∀ s ∈ l, szE s ≤ bE 2) : szT 3 l ≤ 16000 := by
  have h := sumE_bound (bE 2) l h2
  have e : bE 2 = 2500 := rfl
  rw [e] at h
  have := Nat.mul_le_mul_right 2500 h1
  rw [szT_succ]
  omega
end Go.Proofs.YthkbckkghnbonaaGreatDoor
namespace Go.Proofs.YthkbckkghnbonaaGreatDoor
open Go.RowKit
set_option linter.unusedVariables false
theorem l17Body_any : ∀ d : Nat, d ≤ 9 → BodySaid d
  | 0, _ => fun A m c N wild w p hc hn => l17Body_zero A m c N wild w p hc hn
  | d + 1, h => fun A m c N wild w p hc hn => l17Body_succ d (by omega) (l17Body_any d (by omega)) A m c N wild w p hc hn
theorem l17Right_all (w : World) (p : Nat) (hc : CurAt w p) : Calls Tryz.prog 80 #[.pointer (some ⟨p, 0, none⟩)] w (DRt w p) := l17Right_any (l17Body_any 2 (by omega)) w p hc
end Go.Proofs.YthkbckkghnbonaaGreatDoor
namespace Go.Proofs.YthkbckkghnbonaaGreatDoor
open Go.RowKit
set_option linter.unusedVariables false
theorem szS9p : ∀ Q : List ByteArray, (∀ s ∈ Q, s.size ≤ 9) → szS Q ≤ 9 * Q.length := by
  intro Q
  induction Q with
  | nil => intro _; exact Nat.le_refl _
  | cons s Q ih =>
    intro h
    have h1 := h s (by simp)
    have h2 := ih (fun x hx => h x (by simp [hx]))
    show s.size + szS Q ≤ _
    rw [List.length_cons]
    omega
end Go.Proofs.YthkbckkghnbonaaGreatDoor
namespace Go.Proofs.YthkbckkghnbonaaGreatDoor
open Go.RowKit
set_option linter.unusedVariables false
def ltrB (x : Int) : Bool := decide (97 ≤ x ∧ x ≤ 122) || decide (48 ≤ x ∧ x ≤ 57)
theorem ltrB_1 {x : Int} (h1 : 97 ≤ x) (h2 : x ≤ 122) : ltrB x = true := by simp [ltrB, h1, h2]
theorem ltrB_2 {x : Int} (h1 : 48 ≤ x) (h2 : x ≤ 57) : ltrB x = true := by simp [ltrB, h1, h2]
theorem ltrB_f {x : Int} (h1 : x < 97 ∨ 122 < x) (h2 : x < 48 ∨ 57 < x) : ltrB x = false := by simp [ltrB]; omega
set_option maxRecDepth 100000 in
set_option maxHeartbeats 1000000 in
theorem isLetter_any (x : Int) (w : World) : Calls Tryz.prog 100 #[.int .u8 x] w fun e w' => e = .returned (.bool (ltrB x)) ∧ w = w' := by
  by_cases h1 : 97 ≤ x
  · by_cases h2 : x ≤ 122
    · rw [ltrB_1 h1 h2]
      go_enter Tryz.func100, Tryz.ntmps100
      go_wp2
      go_ret
      exact ⟨rfl, rfl⟩
    · rw [ltrB_f (by omega) (by omega)]
      have h3 : decide (x ≤ 122) = false := by simpa using h2
      have h4 : decide (x ≤ 57) = false := by simp; omega
      have h5 : (48 : Int) ≤ x := by omega
      clear h2
      go_enter Tryz.func100, Tryz.ntmps100
      go_wp2
      go_ret
      exact ⟨rfl, rfl⟩
  · have h3 : decide (97 ≤ x) = false := by simpa using h1
    by_cases h4 : 48 ≤ x
    · by_cases h5 : x ≤ 57
      · rw [ltrB_2 h4 h5]
        clear h1
        go_enter Tryz.func100, Tryz.ntmps100
        go_wp2
        go_ret
        exact ⟨rfl, rfl⟩
      · rw [ltrB_f (by omega) (by omega)]
        have h6 : decide (x ≤ 57) = false := by simpa using h5
        clear h1 h5
        go_enter Tryz.func100, Tryz.ntmps100
        go_wp2
        go_ret
        exact ⟨rfl, rfl⟩
    · rw [ltrB_f (by omega) (by omega)]
      have h6 : decide (48 ≤ x) = false := by simpa using h4
      clear h1 h4
      go_enter Tryz.func100, Tryz.ntmps100
      go_wp2
      go_ret
      exact ⟨rfl, rfl⟩
set_option maxRecDepth 100000 in
set_option maxHeartbeats 1000000 in
theorem l16Letter_any (x : Int) (w : World) : Calls Tryz.prog 89 #[.int .u8 x] w fun e w' => e = .returned (.bool (ltrB x)) ∧ w = w' := by
  by_cases h1 : 97 ≤ x
  · by_cases h2 : x ≤ 122
    · rw [ltrB_1 h1 h2]
      go_enter Tryz.func89, Tryz.ntmps89
      go_wp2
      go_ret
      exact ⟨rfl, rfl⟩
    · rw [ltrB_f (by omega) (by omega)]
      have h3 : decide (x ≤ 122) = false := by simpa using h2
      have h4 : decide (x ≤ 57) = false := by simp; omega
      have h5 : (48 : Int) ≤ x := by omega
      clear h2
      go_enter Tryz.func89, Tryz.ntmps89
      go_wp2
      go_ret
      exact ⟨rfl, rfl⟩
  · have h3 : decide (97 ≤ x) = false := by simpa using h1
    by_cases h4 : 48 ≤ x
    · by_cases h5 : x ≤ 57
      · rw [ltrB_2 h4 h5]
        clear h1
        go_enter Tryz.func89, Tryz.ntmps89
        go_wp2
        go_ret
        exact ⟨rfl, rfl⟩
      · rw [ltrB_f (by omega) (by omega)]
        have h6 : decide (x ≤ 57) = false := by simpa using h5
        clear h1 h5
        go_enter Tryz.func89, Tryz.ntmps89
        go_wp2
        go_ret
        exact ⟨rfl, rfl⟩
    · rw [ltrB_f (by omega) (by omega)]
      have h6 : decide (48 ≤ x) = false := by simpa using h4
      clear h1 h4
      go_enter Tryz.func89, Tryz.ntmps89
      go_wp2
      go_ret
      exact ⟨rfl, rfl⟩
def letsUpto (s : ByteArray) (k : Nat) : Bool := (s.data.toList.take k).all fun c => ltrB c.toNat
def wordOk (s : ByteArray) : Bool := letsUpto s s.size && inB s.size 1 8
theorem lets_step {s : ByteArray} {k : Nat} (h : k < s.size) : letsUpto s (k + 1) = (letsUpto s k && ltrB (s[k].toNat : Int)) := by
  unfold letsUpto
  rw [List.take_succ_eq_append_getElem (by simpa using h)]
  simp
  rfl
theorem lets_le {s : ByteArray} {k : Nat} (h : k ≤ s.size) (hf : letsUpto s k = false) : letsUpto s s.size = false := by
  unfold letsUpto at hf ⊢
  rw [List.all_eq_false] at hf ⊢
  obtain ⟨x, hx, hn⟩ := hf
  exact ⟨x, List.mem_of_mem_take (by rwa [List.take_take, Nat.min_eq_left h] : x ∈ List.take k (List.take s.size s.data.toList)), hn⟩
theorem wordOk_f {s : ByteArray} {k : Nat} (h : k < s.size) (hp : letsUpto s k = true) (hf : ltrB (s[k].toNat : Int) = false) : wordOk s = false := by
  have : letsUpto s (k + 1) = false := by rw [lets_step h, hf]; simp
  rw [wordOk, lets_le (by omega) this]
  rfl
theorem wordOk_e {s : ByteArray} (hp : letsUpto s s.size = true) : wordOk s = inB s.size 1 8 := by rw [wordOk, hp]; rfl
set_option maxRecDepth 100000 in
set_option maxHeartbeats 1000000 in
theorem IsValidWord_impl (s : ByteArray) (w : World) (hs : s.size ≤ 9223372036854775807) : Calls Tryz.prog 42 #[.string s] w fun e w' => e = .returned (.bool (wordOk s)) ∧ w = w' := by
  go_enter Tryz.func42, Tryz.ntmps42
  go_wp2
  go_loop [3] (fun i => ∃ k : Nat, k ≤ s.size ∧ i = .int .i64 k ∧ letsUpto s k = true) (fun i => s.size - (intOf i).toNat)
  case atStart => exact ⟨0, Nat.zero_le _, rfl, rfl⟩
  case round =>
    obtain ⟨k, hk, rfl, hp⟩ := hrel
    have HP := Lib.hid hp
    clear hp
    by_cases hlt : k < s.size
    · cases hl : ltrB (s[k].toNat : Int)
      · have HF := Lib.hid (wordOk_f hlt HP.out hl)
        go_wp2_with (go_at_call 100; refine (isLetter_any _ _).mono ?_; rintro e w' ⟨rfl, rfl⟩)
        go_ret
        exact ⟨by rw [HF.out]; rfl, rfl⟩
      · have HS := Lib.hid (show letsUpto s (k + 1) = true by rw [lets_step hlt, HP.out, hl]; rfl)
        go_wp2_with (go_at_call 100; refine (isLetter_any _ _).mono ?_; rintro e w' ⟨rfl, rfl⟩)
        go_round
        case rel => exact ⟨k + 1, by omega, by go_num, HS.out⟩
        case measure => simp [intOf]; omega
    · obtain rfl : k = s.size := by omega
      have HF := Lib.hid (wordOk_e HP.out)
      go_wp2_with (go_at_call 44; refine (in_any _ _ _ _).mono ?_; rintro e w' ⟨rfl, rfl⟩)
      go_ret
      exact ⟨by rw [HF.out]; rfl, rfl⟩
set_option maxRecDepth 100000 in
set_option maxHeartbeats 1000000 in
theorem IsValidWord_spec (s : ByteArray) (w : World) (hs : s.size ≤ 9223372036854775807) : Calls Tryz.prog 104 #[.string s] w fun e w' => e = .returned (.bool (wordOk s)) ∧ w = w' := by
  go_enter Tryz.func104, Tryz.ntmps104
  go_wp2
  go_loop [3] (fun i => ∃ k : Nat, k ≤ s.size ∧ i = .int .i64 k ∧ letsUpto s k = true) (fun i => s.size - (intOf i).toNat)
  case atStart => exact ⟨0, Nat.zero_le _, rfl, rfl⟩
  case round =>
    obtain ⟨k, hk, rfl, hp⟩ := hrel
    have HP := Lib.hid hp
    clear hp
    by_cases hlt : k < s.size
    · cases hl : ltrB (s[k].toNat : Int)
      · have HF := Lib.hid (wordOk_f hlt HP.out hl)
        go_wp2_with (go_at_call 89; refine (l16Letter_any _ _).mono ?_; rintro e w' ⟨rfl, rfl⟩)
        go_ret
        exact ⟨by rw [HF.out]; rfl, rfl⟩
      · have HS := Lib.hid (show letsUpto s (k + 1) = true by rw [lets_step hlt, HP.out, hl]; rfl)
        go_wp2_with (go_at_call 89; refine (l16Letter_any _ _).mono ?_; rintro e w' ⟨rfl, rfl⟩)
        go_round
        case rel => exact ⟨k + 1, by omega, by go_num, HS.out⟩
        case measure => simp [intOf]; omega
    · obtain rfl : k = s.size := by omega
      have HF := Lib.hid (wordOk_e HP.out)
      go_wp2_with (go_at_call 47; refine (l1In_any _ _ _ _).mono ?_; rintro e w' ⟨rfl, rfl⟩)
      go_ret
      exact ⟨by rw [HF.out]; rfl, rfl⟩
end Go.Proofs.YthkbckkghnbonaaGreatDoor
namespace Go.Proofs.YthkbckkghnbonaaGreatDoor
open Go.RowKit
set_option linter.unusedVariables false
/-- A token as plain data. -/
structure Tk where
  k : Int
  s : ByteArray
def tkc (t : Tk) : List Value := [.int .i64 t.k, .string t.s]
def tkcs (l : List Tk) : List Value := l.flatMap tkc
theorem tkc_len (t : Tk) : (tkc t).length = 2 := rfl
theorem tkcs_len (l : List Tk) : (tkcs l).length = l.length * 2 := by
  induction l with
  | nil => rfl
  | cons x l ih => rw [tkcs, List.flatMap_cons, List.length_append, tkc_len, ← tkcs, ih, List.length_cons]; omega
theorem tkcs_append (l l' : List Tk) : tkcs (l ++ l') = tkcs l ++ tkcs l' := List.flatMap_append
theorem tkcs_one (t : Tk) : tkcs [t] = [.int .i64 t.k, .string t.s] := rfl
theorem tkc_ones (l : List Tk) : ∀ u ∈ tkcs l, u.oneCell' = true := by
  intro u hu
  obtain ⟨t, _, ht⟩ := List.mem_flatMap.1 hu
  simp only [tkc, List.mem_cons, List.not_mem_nil, or_false] at ht
  rcases ht with rfl | rfl <;> rfl
def wTk (s : ByteArray) : Tk := ⟨1, s⟩
def pTk (k : Int) : Tk := ⟨k, ⟨#[]⟩⟩
theorem info_TkE : (Tryz.prog.info? 110).map (fun i => (i.zero, i.size, i.bytes)) = some (some (.agg #[.int .i64 0, .string ⟨#[]⟩]), 2, 24) := by kernel_rfl
theorem tkcs_at {l : List Tk} {t : Nat} {x : Tk} (h : l[t]? = some x) : (tkcs l)[t * 2]? = some (.int .i64 x.k) ∧ (tkcs l)[t * 2 + 1]? = some (.string x.s) :=
  ⟨flat_at tkc_len l t x 0 h (by decide), flat_at tkc_len l t x 1 h (by decide)⟩
theorem rd_tk {w : World} {A : Option Addr} {n t : Nat} {l : List Tk} {x : Tk} (h : Rd w 2 A n (tkcs l)) (hl : l.length = n) (hx : l[t]? = some x) : ∃ b off, A = some ⟨b, off, none⟩ ∧ b < w.heap.size ∧ w.cell? ⟨b, off + t * 2, none⟩ = some (.int .i64 x.k) ∧ w.cell? ⟨b, off + t * 2 + 1, none⟩ = some (.string x.s) := by
  have hlt := (List.getElem?_eq_some_iff.1 hx).1
  obtain ⟨b, off, e, hb, hc⟩ := h.2 (by omega)
  exact ⟨b, off, e, hb, hc _ _ (tkcs_at hx).1, hc _ _ (tkcs_at hx).2⟩
theorem below_undrew3 {w w' : World} (h : Below w.drew.heap.size w.drew w') : Below w.heap.size w w' := ⟨h.os, h.tape, h.output, h.size, h.block⟩
theorem rd_lit2 {w : World} {cs : Array Value} {e n size b : Nat} (h0 : b = w.heap.size) (hs : cs.size = n * size) : Rd (w.alloc (.cells cs e)) size (some ⟨b, 0, none⟩) n cs.toList := by
  subst h0
  refine ⟨by simpa using hs, fun _ => ⟨_, 0, rfl, by simp, fun j u hu => ?_⟩⟩
  have h := heap_alloc_new w (.cells cs e)
  have hc : cs[j]? = some u := by rw [← Array.getElem?_toList]; exact hu
  rw [Nat.zero_add]
  exact cell_at h hc
end Go.Proofs.YthkbckkghnbonaaGreatDoor
