/- What the calls that this law reaches answer, part 2 of 16. -/
import Derived.Test.YthkbckkghnbonaaGreatDoorJParse1
import Derived.Test.YthkbckkghnbonaaGreatDoorShelf
import Derived.WalkSmall
import Derived.Lib.LaidTab
import Derived.Stop.LaidErr
import Derived.Test.YthkbckkghnbonaaGreatDoorProg
namespace Go.Proofs.YthkbckkghnbonaaGreatDoor
open Go.RowKit
set_option linter.unusedVariables false
structure LVb (B : Nat) (w : World) : Prop where
  le : B ≤ w.heap.size
  gn : ∃ A c, w.cell? ⟨0, 0, none⟩ = some (.slice A 13 c) ∧ 0 < B ∧ RdQ w (· < B) 1 A 13 (strs gstrs)
  es : ∃ tp p, w.var? Tryz.prog "strconv.ErrSyntax" = some #[.iface tp p]
  tb : Lib.TabIs Tryz.prog w "internal/strconv.uint64pow10" .u64 Lib.pow10Tab
  lo : 2 < B ∧ 1 < B
theorem LVb.below {B : Nat} {w w' : World} (h : LVb B w) (hb : Below B w w') : LVb B w' := by
  obtain ⟨h1, ⟨A, c, g1, g2, g3⟩, ⟨tp, p, e1⟩, h4, h5⟩ := h
  refine ⟨Nat.le_trans h1 hb.size, ⟨A, c, (hb.cell (p := ⟨0, 0, none⟩) g2).trans g1, g2, g3.keep (fun b hb1 hb2 => hb.block b hb1) hb.size⟩, ⟨tp, p, ?_⟩, ?_, h5⟩
  · exact var?_below hb (by kernel_rfl) h5.1 e1
  · exact var?_below hb (by kernel_rfl) h5.2 h4
theorem LVb.grown {B : Nat} {w w' : World} {row : Option Nat} (h : LVb B w) (hg : w.grownBy w' row) (hr : ∀ k, row = some k → B ≤ k) : LVb B w' :=
  h.below ((Below.refl B w).grown hg h.le hr)
theorem LVb.gn' {B : Nat} {w : World} (h : LVb B w) : GN w := by
  obtain ⟨A, c, g1, g2, g3⟩ := h.gn
  exact ⟨A, c, g1, Nat.lt_of_lt_of_le g2 h.le, g3.rd⟩
theorem lvb_of {w : World} (h1 : GN w) (h2 : ∃ tp p, w.var? Tryz.prog "strconv.ErrSyntax" = some #[.iface tp p]) (h3 : Lib.TabIs Tryz.prog w "internal/strconv.uint64pow10" .u64 Lib.pow10Tab) (h4 : 2 < w.heap.size ∧ 1 < w.heap.size) : LVb w.heap.size w := by
  obtain ⟨A, c, g1, g2, g3⟩ := h1
  refine ⟨Nat.le_refl _, ⟨A, c, g1, g2, g3.1, fun h0 => ?_⟩, h2, h3, h4⟩
  obtain ⟨b, off, e, hb, hc⟩ := g3.2 h0
  exact ⟨b, off, e, hb, hb, hc⟩
end Go.Proofs.YthkbckkghnbonaaGreatDoor
namespace Go.Proofs.YthkbckkghnbonaaGreatDoor
open Go.ChangeShapes Go.WideShapes Go.ChangeAt Go.RowKit Go.Deep
set_option linter.unusedVariables false
set_option maxRecDepth 100000
theorem star6 : "*" ++ "errors.errorString" = "*errors.errorString" := by decide
theorem row6 (u : TypeId) (h : Tryz.prog.typeName? 3 u = some "*errors.errorString") : u = 230 :=
  typeName_ptr_named (nm := "errors.errorString") (by rw [star6]; kernel_rfl) (by kernel_rfl) (by decide) u (by rw [star6]; exact h)
theorem tab6 : (Rows.laid_internal_strconv_uint64pow10 : DataW Unit) = Lib.tabData .u64 Lib.pow10Tab := by kernel_rfl
theorem met6 {W : World} (h : laidMetH Tryz.prog [("math/bits.deBruijn32tab", Rows.laid_math_bits_deBruijn32tab), ("math/bits.deBruijn64tab", Rows.laid_math_bits_deBruijn64tab), ("internal/strconv.uint64pow10", Rows.laid_internal_strconv_uint64pow10), ("strconv.ErrRange", Rows.laid_strconv_ErrRange), ("strconv.ErrSyntax", Rows.laid_strconv_ErrSyntax), ("loop.example/g00506/impl.gateNames", Rows.laid_loop_example_g00506_impl_gateNames)] W) :
    laidMet Tryz.prog [("math/bits.deBruijn32tab", Rows.laid_math_bits_deBruijn32tab), ("math/bits.deBruijn64tab", Rows.laid_math_bits_deBruijn64tab), ("internal/strconv.uint64pow10", Rows.laid_internal_strconv_uint64pow10), ("strconv.ErrRange", Rows.laid_strconv_ErrRange), ("strconv.ErrSyntax", Rows.laid_strconv_ErrSyntax), ("loop.example/g00506/impl.gateNames", Rows.laid_loop_example_g00506_impl_gateNames)] W := by
  rw [MakeChecks.laidMetH_plain _ _ _ (by kernel_rfl)] at h
  exact h
theorem gn_of_laid6 {W : World} (h : laidMetH Tryz.prog [("math/bits.deBruijn32tab", Rows.laid_math_bits_deBruijn32tab), ("math/bits.deBruijn64tab", Rows.laid_math_bits_deBruijn64tab), ("internal/strconv.uint64pow10", Rows.laid_internal_strconv_uint64pow10), ("strconv.ErrRange", Rows.laid_strconv_ErrRange), ("strconv.ErrSyntax", Rows.laid_strconv_ErrSyntax), ("loop.example/g00506/impl.gateNames", Rows.laid_loop_example_g00506_impl_gateNames)] W) : GN W :=
  gn_of_met1 (met6 h).tail.tail.tail.tail.tail
theorem lv_of_laid6 {W : World} (h : laidMetH Tryz.prog [("math/bits.deBruijn32tab", Rows.laid_math_bits_deBruijn32tab), ("math/bits.deBruijn64tab", Rows.laid_math_bits_deBruijn64tab), ("internal/strconv.uint64pow10", Rows.laid_internal_strconv_uint64pow10), ("strconv.ErrRange", Rows.laid_strconv_ErrRange), ("strconv.ErrSyntax", Rows.laid_strconv_ErrSyntax), ("loop.example/g00506/impl.gateNames", Rows.laid_loop_example_g00506_impl_gateNames)] W) : LVb W.heap.size W := by
  have hG := gn_of_laid6 h
  have h := met6 h
  obtain ⟨a, s, hv, _⟩ := laid_sentinel (g := 2) (ti := 198) (tp := 230) (te := 232) (ts := 9) h.tail.tail.tail.tail (by kernel_rfl) (by kernel_rfl) Tryz.underlying198 row6 Tryz.underlying230 Tryz.underlying232 rfl rfl Tryz.underlying9 (by kernel_rfl) (by kernel_rfl)
  have h2 := h.tail.tail
  rw [tab6] at h2
  have ht := Lib.tabIs_of_head (g := 1) (t := 209) (e := 202) (n := 20) (by kernel_rfl) (by kernel_rfl) Tryz.underlying209 Tryz.underlying202 (by kernel_rfl) (by kernel_rfl) h2
  refine lvb_of hG ⟨_, _, hv⟩ ht ⟨?_, ?_⟩
  · have h0 := World.var?_cell (g := 2) (by kernel_rfl) hv 0
    exact block_of_cell (a := ⟨_, _, _⟩) (by simpa using h0)
  · have h0 := Lib.TabIs.cell ht (g := 1) (by kernel_rfl) 0 (by decide)
    exact block_of_cell h0
end Go.Proofs.YthkbckkghnbonaaGreatDoor
namespace Go.Proofs.YthkbckkghnbonaaGreatDoor
open Go.ChangeShapes Go.WideShapes Go.ChangeAt Go.RowKit
set_option linter.unusedVariables false
theorem LVb.up {B : Nat} {w : World} (h : LVb B w) : LVb w.heap.size w := by
  obtain ⟨h1, ⟨A, c, g1, g2, g3⟩, he, h4, h5⟩ := h
  exact ⟨Nat.le_refl _, ⟨A, c, g1, Nat.lt_of_lt_of_le g2 h1, g3.mono (fun b _ h => Nat.lt_of_lt_of_le h h1)⟩, he, h4, ⟨Nat.lt_of_lt_of_le h5.1 h1, Nat.lt_of_lt_of_le h5.2 h1⟩⟩
end Go.Proofs.YthkbckkghnbonaaGreatDoor
namespace Go.Proofs.YthkbckkghnbonaaGreatDoor
open Go.RowKit
set_option linter.unusedVariables false
def bcell (x : Fin 256) : List Value := [.int .u8 (x.val : Int)]
theorem bcell_len (x : Fin 256) : (bcell x).length = 1 := rfl
/-- Block p is a cursor over bytes that lie elsewhere. -/
def CurAt (w : World) (p : Nat) : Prop := ∃ (A : Option Addr) (n c : Nat) (bs : List (Fin 256)) (i : Nat) (h : Int),
  w.heap[p]? = some (.cells #[.slice A n c, .int .i64 i, .int .i64 h] 126 (0, 0)) ∧ bs.length = n ∧ Rd w 1 A n (bs.flatMap bcell) ∧ (0 < n → ∀ ad, A = some ad → ad.block < p) ∧ i ≤ n ∧ n ≤ 1048576
theorem CurAt.lt {w : World} {p : Nat} (h : CurAt w p) : p < w.heap.size := by
  obtain ⟨_, _, _, _, _, _, h, _⟩ := h
  exact lt_of_block h
theorem CurAt.kept {w w' : World} {p : Nat} (h : CurAt w p) (hb : ∀ k, k ≤ p → w'.heap[k]? = w.heap[k]?) (hs : w.heap.size ≤ w'.heap.size) : CurAt w' p := by
  obtain ⟨A, n, c, bs, i, h, h1, h2, h3, h4, h5⟩ := h
  refine ⟨A, n, c, bs, i, h, (hb p (Nat.le_refl _)).trans h1, h2, ⟨h3.1, fun h0 => ?_⟩, h4, h5⟩
  obtain ⟨b, off, e, hl, hc⟩ := h3.2 h0
  refine ⟨b, off, e, Nat.lt_of_lt_of_le hl hs, fun j u hu => ?_⟩
  rw [← hc j u hu]
  have hk := hb b (Nat.le_of_lt (h4 h0 _ e))
  simp [World.cell?, hk]
theorem CurAt.below {w w' : World} {p : Nat} (h : CurAt w p) (hb : Below w.heap.size w w') : CurAt w' p := h.kept (fun k hk => hb.block k (Nat.lt_of_le_of_lt hk h.lt)) hb.size
theorem CurAt.grown {w w' : World} {p : Nat} {row : Option Nat} (h : CurAt w p) (hg : w.grownBy w' row) (hr : ∀ k, row = some k → p < k) : CurAt w' p :=
  h.kept (fun k hk => hg.block k (Nat.lt_of_le_of_lt hk h.lt) (by
    intro e
    have h1 := hr _ e.symm
    omega)) hg.size
def DI (w : World) (p : Nat) (lo hi : Int) (e : Ending) (w' : World) : Prop := ∃ x : Int, lo ≤ x ∧ x ≤ hi ∧ e = .returned (.int .i64 x) ∧ CurAt w' p ∧ w.grownBy w' (some p)
def DB (w : World) (p : Nat) (e : Ending) (w' : World) : Prop := ∃ x : Bool, e = .returned (.bool x) ∧ CurAt w' p ∧ w.grownBy w' (some p)
def DL (L : List Int) (w : World) (p : Nat) (e : Ending) (w' : World) : Prop := ∃ x : Int, x ∈ L ∧ e = .returned (.int .i64 x) ∧ CurAt w' p ∧ w.grownBy w' (some p)
theorem and255 (x : Int) : 0 ≤ bits .and .i64 x 255 ∧ bits .and .i64 x 255 ≤ 255 := by
  have h : (BitVec.ofInt 64 x &&& BitVec.ofInt 64 255).toNat ≤ 255 := by
    rw [BitVec.toNat_and]
    exact Nat.le_trans Nat.and_le_right (by decide)
  have e : bits .and .i64 x 255 = IntKind.i64.wrap ((BitVec.ofInt 64 x &&& BitVec.ofInt 64 255).toNat : Int) := rfl
  rw [e, IntWalk.i64_in _ (by omega)]
  omega
theorem only_drewN {a w : World} {row : Option Nat} (h : a.grownBy w row) (n : Nat) : a.grownBy (w.drewN n) row := ⟨h.os, h.tape, h.output, h.size, h.block⟩
theorem only_setCell {a w : World} {g : Nat} (h : a.grownBy w (some g)) {p : Addr} (hp : p.block = g) (u : Value) : a.grownBy (w.setCell p u) (some g) :=
  ⟨h.os, h.tape, h.output, by simpa [World.setCell] using h.size, fun i hi hne => (Below.heap_setCell w p u i (by
    rintro rfl
    exact hne (by rw [hp]))).trans (h.block i hi hne)⟩
theorem only_of_below {a w : World} (h : Below a.heap.size a w) (row : Option Nat) : a.grownBy w row := ⟨h.os, h.tape, h.output, h.size, fun i hi _ => h.block i hi⟩
theorem below_of_only {a w : World} {B p : Nat} (h : a.grownBy w (some p)) (hB : B ≤ a.heap.size) (hp : B ≤ p) : Below B a w := ⟨h.os, h.tape, h.output, h.size, fun i hi => h.block i (by omega) (by intro e; injection e with e; omega)⟩
/-- The cursor behind the stores of one draw. -/
theorem cur_stored {w w' : World} {p : Nat} {A : Option Addr} {n c : Nat} {bs : List (Fin 256)} {i' : Nat} {h' : Int} (hg : w.grownBy w' (some p)) (hp : p < w.heap.size)
    (h1 : w'.heap[p]? = some (.cells #[.slice A n c, .int .i64 i', .int .i64 h'] 126 (0, 0))) (h2 : bs.length = n) (h3 : Rd w 1 A n (bs.flatMap bcell)) (h4 : 0 < n → ∀ ad, A = some ad → ad.block < p) (h5 : i' ≤ n) (h6 : n ≤ 1048576) : CurAt w' p := by
  refine ⟨A, n, c, bs, i', h', h1, h2, ⟨h3.1, fun h0 => ?_⟩, h4, h5, h6⟩
  obtain ⟨b, off, e, hl, hc⟩ := h3.2 h0
  refine ⟨b, off, e, Nat.lt_of_lt_of_le hl hg.size, fun j u hu => ?_⟩
  have hne := h4 h0 _ e
  rw [← hc j u hu]
  have hk := hg.block b hl (by
    intro e1
    injection e1 with e1
    simp only at hne
    omega)
  simp [World.cell?, hk]
set_option maxRecDepth 100000 in
set_option maxHeartbeats 2000000 in
theorem l1Byte_any (w : World) (p : Nat) (hcur : CurAt w p) : Calls Tryz.prog 129 #[.pointer (some ⟨p, 0, none⟩)] w (DI w p 0 255) := by
  have hp := hcur.lt
  obtain ⟨A, n, c, bs, i, h, h1, h2, h3, h4, h5, h6⟩ := hcur
  have p0 := cell_at (j := 0) h1 rfl
  have p1 := cell_at (j := 1) h1 rfl
  have p2 := cell_at (j := 2) h1 rfl
  have f2 : w.frozen? ⟨p, 2, none⟩ = false := by simp [World.frozen?, h1]
  have H1 := Lib.hid h1
  have H2 := Lib.hid h2
  have H3 := Lib.hid h3
  have H4 := Lib.hid h4
  clear h1 h2 h3 h4
  go_enter Tryz.func129, Tryz.ntmps129
  go_wp2
  obtain ⟨w1, hw1⟩ : ∃ w1, w1 = w.setCell ⟨p, 2, none⟩ (.int .i64 (wrap64 (wrap64 (h * 6364136223846793005) + 1442695040888963407))) := ⟨_, rfl⟩
  rw [← hw1]
  obtain ⟨h', hh'⟩ : ∃ h', h' = wrap64 (wrap64 (h * 6364136223846793005) + 1442695040888963407) := ⟨_, rfl⟩
  rw [← hh'] at hw1 ⊢
  have g1 : w.grownBy w1 (some p) := by rw [hw1]; exact only_setCell (World.grownBy.refl w _) rfl _
  have x1 : w1.heap[p]? = some (.cells #[.slice A n c, .int .i64 i, .int .i64 h'] 126 (0, 0)) := by rw [hw1, heap_setCell_same _ _ _ _ _ _ H1.out]; rfl
  clear hw1 hh' p0 p1 p2 f2
  have p0 := cell_at (j := 0) x1 rfl
  have p1 := cell_at (j := 1) x1 rfl
  have p2 := cell_at (j := 2) x1 rfl
  have f1 : w1.frozen? ⟨p, 1, none⟩ = false := by simp [World.frozen?, x1]
  have X1 := Lib.hid x1
  clear x1
  by_cases hin : i < n
  · obtain ⟨x, hx⟩ : ∃ x, bs[i]? = some x := ⟨_, List.getElem?_eq_getElem (by rw [H2.out]; exact hin)⟩
    obtain ⟨b, off, rfl, hbl, hc⟩ := H3.out.2 (by omega)
    have hbp : b < p := H4.out (by omega) _ rfl
    have q0 : w1.cell? ⟨b, off + i, none⟩ = some (.int .u8 (x.val : Int)) := by
      have h := hc (i * 1 + 0) _ (flat_at bcell_len bs i x 0 hx (by decide))
      have hk := g1.block b hbl (by
        intro e
        injection e with e
        omega)
      simpa [World.cell?, hk] using h
    have hx2 := x.isLt
    clear hc hx
    go_quiet (fail)
    go_wp2_with fail
    go_quiet (fail)
    go_wp2_with fail
    go_quiet (fail)
    go_wp2_with fail
    go_ret
    have g2 : ∀ k, w.grownBy ((w1.drewN k).setCell ⟨p, 1, none⟩ (.int .i64 ((i : Int) + 1))) (some p) := fun k => only_setCell (only_drewN g1 k) rfl _
    refine ⟨_, (and255 _).1, (and255 _).2, rfl, cur_stored (i' := i + 1) (h' := h') (c := c) (g2 _) hp ?_ H2.out H3.out H4.out (by omega) h6, g2 _⟩
    rw [heap_setCell_same _ _ _ _ _ _ (show (w1.drewN _).heap[p]? = some (.cells #[.slice (some ⟨b, off, none⟩) n c, .int .i64 i, .int .i64 h'] 126 (0, 0)) from X1.out)]
    rfl
  · go_quiet (fail)
    go_wp2_with fail
    go_quiet (fail)
    go_wp2_with fail
    go_ret
    have g2 : ∀ k l, w.grownBy ((w1.drewN k).drewN l) (some p) := fun k l => only_drewN (only_drewN g1 k) l
    exact ⟨_, (and255 _).1, (and255 _).2, rfl, cur_stored (i' := i) (h' := h') (c := c) (g2 _ _) hp X1.out H2.out H3.out H4.out (by omega) h6, g2 _ _⟩
set_option maxRecDepth 100000 in
set_option maxHeartbeats 2000000 in
theorem l1Below_any (n hi : Int) (w : World) (p : Nat) (hcur : CurAt w p) (h0 : 0 ≤ hi) (hn : n ≤ hi + 1) (hm : n ≤ 9223372036854775807) : Calls Tryz.prog 81 #[.pointer (some ⟨p, 0, none⟩), .int .i64 n] w (DI w p 0 hi) := by
  by_cases h1 : n ≤ 0
  · go_enter Tryz.func81, Tryz.ntmps81
    go_wp2_with fail
    go_ret
    exact ⟨0, by omega, h0, rfl, hcur, World.grownBy.refl w _⟩
  by_cases h2 : n ≤ 256
  · go_enter Tryz.func81, Tryz.ntmps81
    go_wp2_with fail
    refine (l1Byte_any w p hcur).mono ?_
    rintro e w1 ⟨x, hx0, hx1, rfl, hc1, hg1⟩
    go_wp2_with fail
    go_ret
    exact ⟨x % n, Int.emod_nonneg _ (by omega), by have := Int.emod_lt_of_pos x (show 0 < n by omega); omega, rfl, hc1, hg1⟩
  · go_enter Tryz.func81, Tryz.ntmps81
    go_wp2_with fail
    refine (l1Byte_any w p hcur).mono ?_
    rintro e w1 ⟨x, hx0, hx1, rfl, hc1, hg1⟩
    go_wp2_with fail
    refine (l1Byte_any w1 p hc1).mono ?_
    rintro e w2 ⟨y, hy0, hy1, rfl, hc2, hg2⟩
    go_wp2_with fail
    refine (l1Byte_any w2 p hc2).mono ?_
    rintro e w3 ⟨z, hz0, hz1, rfl, hc3, hg3⟩
    go_wp2_with fail
    refine (l1Byte_any w3 p hc3).mono ?_
    rintro e w4 ⟨u, hu0, hu1, rfl, hc4, hg4⟩
    go_wp2_with fail
    go_ret
    exact ⟨(x * 16777216 + y * 65536 + z * 256 + u) % n, Int.emod_nonneg _ (by omega), by have := Int.emod_lt_of_pos (x * 16777216 + y * 65536 + z * 256 + u) (show 0 < n by omega); omega, rfl, hc4, ((hg1.trans hg2).trans hg3).trans hg4⟩
set_option maxRecDepth 100000 in
theorem l1Once_any (n : Int) (w : World) (p : Nat) (hcur : CurAt w p) (hm0 : -9223372036854775808 ≤ n) (hm : n ≤ 9223372036854775807) : Calls Tryz.prog 83 #[.pointer (some ⟨p, 0, none⟩), .int .i64 n] w (DB w p) := by
  go_enter Tryz.func83, Tryz.ntmps83
  go_wp2_with fail
  refine (l1Below_any n 9223372036854775807 w p hcur (by omega) (by omega) hm).mono ?_
  rintro e w1 ⟨x, hx0, hx1, rfl, hc1, hg1⟩
  go_wp2_with fail
  go_ret
  exact ⟨_, rfl, hc1, hg1⟩
theorem grown_rd {w w' : World} {p size n : Nat} {A : Option Addr} {xs : List Value} (h : Rd w size A n xs) (hg : w.grownBy w' (some p)) (hne : 0 < n → ∀ ad, A = some ad → ad.block ≠ p) : Rd w' size A n xs :=
  ⟨h.1, fun h0 => by
    obtain ⟨b, off, e, hl, hc⟩ := h.2 h0
    refine ⟨b, off, e, Nat.lt_of_lt_of_le hl hg.size, fun j u hu => ?_⟩
    rw [← hc j u hu]
    have hne' := hne h0 _ e
    have hk := hg.block b hl (by
      intro e1
      injection e1 with e1
      exact hne' e1)
    simp [World.cell?, hk]⟩
set_option maxRecDepth 100000 in
set_option maxHeartbeats 1000000 in
theorem l1PickInt_any (b k c : Nat) (L : List Int) (w : World) (p : Nat) (hcur : CurAt w p) (hL : L.length = k) (hk : 0 < k) (hk2 : k ≤ 1000) (hr : Rd w 1 (some ⟨b, 0, none⟩) k (L.map (Value.int .i64))) (hne : b ≠ p) : Calls Tryz.prog 92 #[.pointer (some ⟨p, 0, none⟩), .slice (some ⟨b, 0, none⟩) k c] w (DL L w p) := by
  have HL := Lib.hid hL
  have HR := Lib.hid hr
  clear hL hr
  go_enter Tryz.func92, Tryz.ntmps92
  go_wp2_with fail
  refine (l1Below_any k (k - 1) w p hcur (by omega) (by omega) (by omega)).mono ?_
  rintro e w1 ⟨x, hx0, hx1, rfl, hc1, hg1⟩
  obtain ⟨j, rfl⟩ : ∃ j : Nat, x = j := ⟨x.toNat, by omega⟩
  have hjk : j < k := by omega
  obtain ⟨y, hy⟩ : ∃ y, L[j]? = some y := ⟨_, List.getElem?_eq_getElem (by rw [HL.out]; exact hjk)⟩
  have hq : w1.cell? ⟨b, j, none⟩ = some (.int .i64 y) := by
    obtain ⟨b', off, e, hl, hc⟩ := (grown_rd HR.out hg1 (fun _ ad e => by cases e; exact hne)).2 hk
    injection e with e
    injection e with e1 e2
    subst e1 e2
    have := hc j (.int .i64 y) (by simp [hy])
    simpa using this
  have HY := Lib.hid (List.mem_of_getElem? hy)
  clear hy
  go_wp2_with fail
  go_ret
  exact ⟨y, HY.out, rfl, hc1, hg1⟩
def NewCur (w : World) (e : Ending) (w' : World) : Prop := ∃ p, e = .returned (.pointer (some ⟨p, 0, none⟩)) ∧ w.heap.size ≤ p ∧ CurAt w' p ∧ Below w.heap.size w w'
theorem new_cur {w : World} {A : Option Addr} {n c : Nat} {bs : List (Fin 256)} {h : Int} (hr : Rd w 1 A n (bs.flatMap bcell)) (hl : bs.length = n) (hn : n ≤ 1048576) :
    NewCur w (.returned (.pointer (some ⟨w.heap.size, 0, none⟩))) (w.alloc (.cells #[.slice A n c, .int .i64 0, .int .i64 h] 126)) := by
  have hb : Below w.heap.size w (w.alloc (.cells #[.slice A n c, .int .i64 0, .int .i64 h] 126)) := (by repeat (first | exact Below.refl _ _ | assumption | (refine Below.trans ?_ (Below.mono (by assumption) (by first | omega | (simp; done) | (simp; omega)))) | (with_reducible refine Below.drew ?_) | (with_reducible refine Below.alloc ?_ (by first | omega | (simp; done) | (simp; omega)) _) | (with_reducible refine Below.setCell ?_ (by first | omega | (simp; done) | (simp; omega)) _)))
  refine ⟨w.heap.size, rfl, Nat.le_refl _, ⟨A, n, c, bs, 0, h, heap_alloc_new w _, hl, hr.below hb, fun h0 ad e => ?_, Nat.zero_le _, hn⟩, hb⟩
  obtain ⟨b, off, e', hlt, _⟩ := hr.2 h0
  rw [e] at e'
  injection e' with e'
  rw [e']
  exact hlt
set_option maxRecDepth 100000 in
set_option maxHeartbeats 1000000 in
theorem l1New_any (A : Option Addr) (n c : Nat) (bs : List (Fin 256)) (w : World) (h : Rd w 1 A n (bs.flatMap bcell)) (hl : bs.length = n) (hn : n ≤ 1048576) : Calls Tryz.prog 37 #[.slice A n c] w (NewCur w) := by
  have H := Lib.hid h
  have HL := Lib.hid hl
  clear h hl
  go_enter Tryz.func37, Tryz.ntmps37
  go_wp2_with fail
  go_loop [3, 4] (fun s i => ∃ (t : Nat) (h : Int), t ≤ n ∧ i = .int .i64 t ∧ s = .int .i64 h) (fun _ i => n - (intOf i).toNat)
  case atStart => exact ⟨0, _, Nat.zero_le _, rfl, rfl⟩
  case round =>
    obtain ⟨t, h, ht, rfl, rfl⟩ := hrel
    by_cases hlt : t < n
    · by_cases h4 : t < 4000
      · obtain ⟨x, hx⟩ : ∃ x, bs[t]? = some x := ⟨_, List.getElem?_eq_getElem (by rw [HL.out]; exact hlt)⟩
        obtain ⟨b, off, rfl, hbl, hc⟩ := H.out.2 (by omega)
        have q0 : w.cell? ⟨b, off + t, none⟩ = some (.int .u8 (x.val : Int)) := by
          have := hc (t * 1 + 0) _ (flat_at bcell_len bs t x 0 hx (by decide))
          simpa using this
        have hx2 := x.isLt
        clear hc hx
        go_wp2_with fail
        go_round
        case rel => exact ⟨t + 1, _, by omega, by go_num, rfl⟩
        case measure => simp [intOf]; omega
      · go_wp2_with fail
        go_ret
        exact new_cur H.out HL.out hn
    · go_wp2_with fail
      go_ret
      exact new_cur H.out HL.out hn
end Go.Proofs.YthkbckkghnbonaaGreatDoor
namespace Go.Proofs.YthkbckkghnbonaaGreatDoor
open Go.RowKit
set_option linter.unusedVariables false
/-- From w on only the cursor p and what is new has turned, and p is a cursor still. -/
structure Fr (w : World) (p : Nat) (w' : World) : Prop where
  cur : CurAt w' p
  gr : w.grownBy w' (some p)
theorem Fr.start {w : World} {p : Nat} (h : CurAt w p) : Fr w p w := ⟨h, World.grownBy.refl w _⟩
theorem Fr.lt {w w1 : World} {p : Nat} (h : Fr w p w1) (hp : p < w.heap.size) : p < w1.heap.size := h.cur.lt
theorem Fr.below {w w1 w2 : World} {p : Nat} (h : Fr w p w1) (hb : Below w1.heap.size w1 w2) : Fr w p w2 :=
  ⟨h.cur.below hb, h.gr.andThen (only_of_below hb none) (by simp)⟩
theorem Fr.alloc {w w1 : World} {p : Nat} (h : Fr w p w1) (ob : Obj) : Fr w p (w1.alloc ob) := h.below ((Below.refl _ _).alloc (Nat.le_refl _) _)
theorem Fr.call {w w1 w2 : World} {p : Nat} (h : Fr w p w1) (hc : CurAt w2 p) (hg : w1.grownBy w2 (some p)) : Fr w p w2 := ⟨hc, h.gr.trans hg⟩
theorem Fr.own {w w1 w2 : World} {p : Nat} {row : Option Nat} (h : Fr w p w1) (hp : p < w.heap.size) (hg : w1.grownBy w2 row) (hr : ∀ k, row = some k → w.heap.size ≤ k) : Fr w p w2 :=
  ⟨h.cur.grown hg (fun k hk => by have := hr k hk; omega), h.gr.andThen hg (fun j hj => .inl (hr j hj))⟩
theorem Fr.set {w w1 : World} {p : Nat} (h : Fr w p w1) (hp : p < w.heap.size) {a : Addr} (ha : w.heap.size ≤ a.block) (v : Value) : Fr w p (w1.setCell a v) :=
  h.own (row := some a.block) hp (only_setCell (World.grownBy.refl w1 _) rfl v) (fun k hk => by injection hk with hk; omega)
theorem Fr.drewN {w w1 : World} {p : Nat} (h : Fr w p w1) (n : Nat) : Fr w p (w1.drewN n) := ⟨h.cur, only_drewN h.gr n⟩
/-- A block of the call's own stays as it is behind a draw. -/
theorem box_call {w1 w2 : World} {b p : Nat} {ob : Obj} (h : w1.heap[b]? = some ob) (hg : w1.grownBy w2 (some p)) (hne : b ≠ p) : w2.heap[b]? = some ob :=
  (hg.block b (lt_of_block h) (fun e => hne (by injection e))).trans h
theorem rd_lit1 {w : World} {cs : Array Value} {e n size b : Nat} (h0 : b = w.heap.size) (hs : cs.size = n * size) : Rd (w.alloc (.cells cs e)) size (some ⟨b, 0, none⟩) n cs.toList := by
  subst h0
  refine ⟨by simpa using hs, fun _ => ⟨_, 0, rfl, by simp, fun j u hu => ?_⟩⟩
  have h := heap_alloc_new w (.cells cs e)
  have hc : cs[j]? = some u := by rw [← Array.getElem?_toList]; exact hu
  rw [Nat.zero_add]
  exact cell_at h hc
theorem free_at {w : World} {b j : Nat} {cs : Array Value} {t : TypeId} (h : w.heap[b]? = some (.cells cs t (0, 0))) : w.frozen? ⟨b, j, none⟩ = false := by simp [World.frozen?, h]

end Go.Proofs.YthkbckkghnbonaaGreatDoor
namespace Go.Proofs.YthkbckkghnbonaaGreatDoor
open Go.RowKit
set_option linter.unusedVariables false
def InN (n : Nat) (L : List Int) : Prop := ∀ x ∈ L, 0 ≤ x ∧ x < n
def DPn (w : World) (p n : Nat) (e : Ending) (w' : World) : Prop := ∃ (v : Value) (L : List Int), e = .returned v ∧ L.length = n ∧ InN n L ∧ w'.ownsRow w.heap.size 3 1 v n (L.map (Value.int .i64)) ∧ CurAt w' p ∧ w.grownBy w' (some p)
def RetIntsN (w : World) (n : Nat) (e : Ending) (w' : World) : Prop := ∃ (v : Value) (L : List Int), e = .returned v ∧ L.length = n ∧ InN n L ∧ w'.ownsRow w.heap.size 3 1 v n (L.map (Value.int .i64)) ∧ Below w.heap.size w w' ∧ w.heap.size ≤ w'.heap.size
def DGk (kind : Int) (w : World) (p : Nat) (e : Ending) (w' : World) : Prop := ∃ a b c : Int, e = .returned (.agg #[.int .i64 kind, .int .i64 a, .int .i64 b, .int .i64 c]) ∧ CurAt w' p ∧ w.grownBy w' (some p)
def DGn (n : Nat) (w : World) (p : Nat) (e : Ending) (w' : World) : Prop := ∃ k a b c : Int, (1 ≤ k ∧ k ≤ 12 ∧ ar k ≤ n) ∧ e = .returned (.agg #[.int .i64 k, .int .i64 a, .int .i64 b, .int .i64 c]) ∧ CurAt w' p ∧ w.grownBy w' (some p)
theorem inN_set {n : Nat} {L : List Int} {y : Int} (h : InN n L) (hy : y ∈ L) (i : Nat) : InN n (L.set i y) := by
  intro x hx
  rcases List.mem_or_eq_of_mem_set hx with h1 | h1
  · exact h x h1
  · rw [h1]; exact h y hy
theorem inN_snoc {n : Nat} {L : List Int} {y : Int} (h : InN n L) (h0 : 0 ≤ y) (h1 : y < n) : InN n (L ++ [y]) := by
  intro x hx
  rcases List.mem_append.1 hx with h2 | h2
  · exact h x h2
  · rw [List.mem_singleton.1 h2]; exact ⟨h0, h1⟩
theorem inN_up {n m : Nat} {L : List Int} (h : InN n L) (hm : n ≤ m) : InN m L := fun x hx => by have := h x hx; omega
theorem picks8 {y : Int} (h : y ∈ ([4, 7, 5, 8, 9, 9, 9, 9] : List Int)) : 1 ≤ y ∧ y ≤ 12 := by
  simp only [List.mem_cons, List.not_mem_nil, or_false] at h
  omega
theorem pickedN {w : World} {L : List Int} {b : Nat} (hb : b = w.heap.size) : Rd (w.alloc (.cells (L.map (Value.int .i64)).toArray 3)) 1 (some ⟨b, 0, none⟩) L.length (L.map (Value.int .i64)) := by
  have h := rd_lit1 (w := w) (cs := (L.map (Value.int .i64)).toArray) (e := 3) (n := L.length) (size := 1) hb (by simp)
  simpa using h
theorem inN_set2 {n : Nat} {L : List Int} {y z : Int} (h : InN n L) (hy : y ∈ L) (hz : z ∈ L) {i j : Nat} : InN n ((L.set i y).set j z) := by
  intro x hx
  rcases List.mem_or_eq_of_mem_set hx with h1 | h1
  · exact inN_set h hy i x h1
  · rw [h1]; exact h z hz
set_option maxRecDepth 100000 in
set_option maxHeartbeats 1000000 in
theorem IdentityPermutation_n (n : Nat) (w : World) (h1 : 1 ≤ n) (h4 : n ≤ 4) : Calls Tryz.prog 179 #[.int .i64 n] w (RetIntsN w n) := by
  obtain ⟨i0, hi, hz0, hz1, hz2⟩ := info_parts info_int
  have hin : inB (n : Int) 1 4 = true := inB_iff.2 (by omega)
  go_enter Tryz.func179, Tryz.ntmps179
  go_wp2_with fail
  go_loopw [3, 4] (fun v i wr => ∃ (t : Nat) (L : List Int), t ≤ n ∧ i = .int .i64 t ∧ L.length = t ∧ Hid (InN t L) ∧ wr.ownsRow w.heap.size 3 1 v t (L.map (Value.int .i64)) ∧ Below w.heap.size w wr) (fun _ i _ => n - (intOf i).toNat)
  case atStart => exact ⟨0, [], Nat.zero_le _, rfl, rfl, (fun x hx => absurd hx (by simp)), by simpa using own_empty w _ 1, (by repeat (first | exact Below.refl _ _ | assumption | (refine Below.trans ?_ (Below.mono (by assumption) (by first | omega | (simp; done) | (simp; omega)))) | (with_reducible refine Below.drew ?_) | (with_reducible refine Below.alloc ?_ (by first | omega | (simp; done) | (simp; omega)) _) | (with_reducible refine Below.setCell ?_ (by first | omega | (simp; done) | (simp; omega)) _)))⟩
  case round =>
    obtain ⟨t, L, ht, rfl, hL, hin2, hown, hb⟩ := hrel
    have HL := Lib.hid hL
    clear hL
    by_cases hlt : t < n
    · go_wp2_with (first | (go_at_call 47; refine (l1In_any _ _ _ _).mono ?_; rintro e w' ⟨rfl, rfl⟩) | (at_builtin; refine wpList_append_rd _ rfl _ _ 123 rfl w.heap.size 3 i0 _ 1 8 Tryz.underlying123 hi hz0 hz1 hz2 rfl (by decide) _ _ _ rfl (hown.alloc _) _ 1 1 _ rfl (rd_lit1 ?c0 rfl) ?c2 ?c3 ?c4 ?c5 ?_))
      case c0 => first | rfl | simp
      case c2 => repeat' (first | rfl | apply And.intro)
      case c3 => simp only [maxLen]; omega
      case c4 => omega
      case c5 => have := hb.size; simp; omega
      intro v3 w3 own3 gr3 _
      have b3 := (hb.alloc hb.size _).grown gr3 (by have := hb.size; simp; omega) (own_ge hown)
      clear hown gr3
      go_wp2_with fail
      go_roundw
      case rel => exact ⟨t + 1, L ++ [(t : Int)], by omega, by go_num, by simp [HL.out], inN_snoc (inN_up hin2.out (by omega)) (by omega) (by omega), by simpa using own3, b3⟩
      case measure => simp [intOf]; omega
    · obtain rfl : t = n := by omega
      go_wp2_with (go_at_call 47; refine (l1In_any _ _ _ _).mono ?_; rintro e w' ⟨rfl, rfl⟩)
      go_ret
      exact ⟨_, L, rfl, HL.out, hin2.out, hown, hb, hb.size⟩
set_option maxRecDepth 100000 in
set_option maxHeartbeats 2000000 in
theorem l8Perm_n (n : Nat) (w : World) (p : Nat) (hcur : CurAt w p) (h1 : 1 ≤ n) (h4 : n ≤ 4) : Calls Tryz.prog 160 #[.pointer (some ⟨p, 0, none⟩), .int .i64 n] w (DPn w p n) := by
  have hp := hcur.lt
  go_enter Tryz.func160, Tryz.ntmps160
  go_wp2_with fail
  refine (IdentityPermutation_n n w h1 h4).mono ?_
  rintro e w1 ⟨v, L, rfl, hL, hin, hown, hb, hs⟩
  have HIN := Lib.hid hin
  clear hin
  have hfr : Fr w p w1 := (Fr.start hcur).below hb
  rcases hown.2 with ⟨_, h0⟩ | ⟨g, cap, cur, rfl, hgb, hh, hcp, hm, _, _⟩
  · omega
  have HL := Lib.hid hL
  clear hL hh hb
  go_wp2_with fail
  go_loopw [6, 7, 8] (fun i _ _ wr => ∃ (t : Nat) (L : List Int), t + 1 ≤ n ∧ i = .int .i64 t ∧ L.length = n ∧ Hid (InN n L) ∧ wr.ownsRow w.heap.size 3 1 (.slice (some ⟨g, 0, none⟩) n cap) n (L.map (Value.int .i64)) ∧ Fr w p wr) (fun i _ _ _ => (intOf i).toNat)
  case atStart => exact ⟨n - 1, L, by omega, by congr 1; omega, HL.out, HIN.out, hown, hfr⟩
  case round =>
    clear hown hfr
    obtain ⟨t, L, ht, rfl, hL, hin, hown, hfr⟩ := hrel
    have HL2 := Lib.hid hL
    clear hL
    by_cases hlt : 0 < t
    · go_wp2_with fail
      refine (l1Below_any (t + 1) t wr p hfr.cur (by omega) (by omega) (by omega)).mono ?_
      rintro e w2 ⟨x, hx0, hx1, rfl, hc2, hg2⟩
      obtain ⟨k, rfl⟩ : ∃ k : Nat, x = k := ⟨x.toNat, by omega⟩
      have hfr2 := hfr.call hc2 hg2
      have hown2 : w2.ownsRow w.heap.size 3 1 (.slice (some ⟨g, 0, none⟩) n cap) n (L.map (Value.int .i64)) := hown.kept hg2 (.inr (by
        intro e
        simp [Value.ownBlock] at e
        omega))
      obtain ⟨y1, hy1⟩ : ∃ y, L[t]? = some y := ⟨_, List.getElem?_eq_getElem (by rw [HL2.out]; omega)⟩
      obtain ⟨y2, hy2⟩ : ∃ y, L[k]? = some y := ⟨_, List.getElem?_eq_getElem (by rw [HL2.out]; omega)⟩
      have z1 : w2.cell? ⟨g, t, none⟩ = some (.int .i64 y1) := (hown2.cellAt t (by omega)).trans (by simp [hy1])
      have z2 : w2.cell? ⟨g, k, none⟩ = some (.int .i64 y2) := (hown2.cellAt k (by omega)).trans (by simp [hy2])
      have f1 := hown2.frozenAt t
      have f2 := hown2.frozenAt k
      have HO := Lib.hid hown2
      have HFR := Lib.hid hfr2
      have hm1 := List.mem_of_getElem? hy1
      have hm2 := List.mem_of_getElem? hy2
      have HM1 := Lib.hid hm1
      have HM2 := Lib.hid hm2
      clear hown hown2 hfr hfr2 hy1 hy2 hc2 hg2 hm1 hm2
      by_cases hkt : k = t
      · subst hkt
        have s0 := (HO.out.stored k (.int .i64 y2))
        have s1 := (s0.1.stored k (.int .i64 y2))
        have HS := Lib.hid (And.intro s0 s1)
        clear s0 s1 z1
        go_wp2_with fail
        go_roundw
        case rel => exact ⟨k - 1, (L.set k y2).set k y2, by omega, by congr 1; omega, by simp [HL2.out], by rw [List.set_set]; exact inN_set hin.out HM2.out k, by simpa using HS.out.2.1, (HFR.out.own hp HS.out.1.2 (fun j hj => by injection hj with hj; omega)).own hp HS.out.2.2 (fun j hj => by injection hj with hj; omega)⟩
        case measure => simp [intOf]; omega
      · have s0 := (HO.out.stored t (.int .i64 y2))
        have s1 := (s0.1.stored k (.int .i64 y1))
        have HS := Lib.hid (And.intro s0 s1)
        clear s0 s1
        go_wp2_with fail
        go_roundw
        case rel => exact ⟨t - 1, (L.set t y2).set k y1, by omega, by congr 1; omega, by simp [HL2.out], inN_set2 hin.out HM2.out HM1.out, by simpa using HS.out.2.1, (HFR.out.own hp HS.out.1.2 (fun j hj => by injection hj with hj; omega)).own hp HS.out.2.2 (fun j hj => by injection hj with hj; omega)⟩
        case measure => simp [intOf]; omega
    · obtain rfl : t = 0 := by omega
      go_wp2_with fail
      go_ret
      exact ⟨_, L, rfl, HL2.out, hin.out, hown, hfr.cur, hfr.gr⟩
set_option maxRecDepth 100000 in
set_option maxHeartbeats 2000000 in
theorem l9On_k (kind : Int) (n : Nat) (w : World) (p : Nat) (hcur : CurAt w p) (h1 : 1 ≤ n) (h4 : n ≤ 4) (hk : ar kind ≤ n) : Calls Tryz.prog 178 #[.pointer (some ⟨p, 0, none⟩), .int .i64 kind, .int .i64 n] w (DGk kind w p) := by
  have hp := hcur.lt
  go_enter Tryz.func178, Tryz.ntmps178
  go_wp2_with fail
  obtain ⟨w0, hw0⟩ : ∃ w0, w0 = w.alloc (.cells #[.int .i64 0, .int .i64 0, .int .i64 0, .int .i64 0] 102) := ⟨_, rfl⟩
  rw [← hw0]
  have x0 : w0.heap[w.heap.size]? = some (.cells #[.int .i64 0, .int .i64 0, .int .i64 0, .int .i64 0] 102 (0, 0)) := by rw [hw0]; exact boxed1_0 _ _
  have hfr0 : Fr w p w0 := by rw [hw0]; exact (Fr.start hcur).alloc _
  have s0 : w.heap.size < w0.heap.size := by rw [hw0]; simp
  clear hw0
  refine (l8Perm_n n w0 p hfr0.cur h1 h4).mono ?_
  rintro e w1 ⟨v, L, rfl, hL, _, hown, hc1, hg1⟩
  have x1 := box_call x0 hg1 (by omega)
  have hfr1 := hfr0.call hc1 hg1
  have s1 : w.heap.size < w1.heap.size := by have := hg1.size; omega
  rcases hown.2 with ⟨_, h0⟩ | ⟨g, cap, cur, rfl, hgb, hh, hcp, hm, _, _⟩
  · omega
  obtain ⟨y0, hy0⟩ : ∃ y, L[0]? = some y := ⟨_, List.getElem?_eq_getElem (by omega)⟩
  have z0 : w1.cell? ⟨g, 0, none⟩ = some (.int .i64 y0) := (hown.cellAt 0 (by omega)).trans (by simp [hy0])
  obtain ⟨q0, q1, q2, q3⟩ := boxcells4 (lay := Below.refl _ _) x1
  have f0 := free_at (j := 0) x1
  have f1 := free_at (j := 1) x1
  have f2 := free_at (j := 2) x1
  have f3 := free_at (j := 3) x1
  have hglt : g < w1.heap.size := (hown.lt g rfl).2
  have hne : g ≠ w.heap.size := by omega
  have HL := Lib.hid hL
  have HO := Lib.hid hown
  have har := ar_le kind
  clear hy0 hL hown hh x0 x1 hc1 hg1 hfr0
  by_cases a1 : 1 < ar kind
  · obtain ⟨y1, hy1⟩ : ∃ y, L[1]? = some y := ⟨_, List.getElem?_eq_getElem (by rw [HL.out]; omega)⟩
    have z1 : w1.cell? ⟨g, 1, none⟩ = some (.int .i64 y1) := (HO.out.cellAt 1 (by omega)).trans (by simp [hy1])
    clear hy1
    by_cases a2 : 2 < ar kind
    · obtain ⟨y2, hy2⟩ : ∃ y, L[2]? = some y := ⟨_, List.getElem?_eq_getElem (by rw [HL.out]; omega)⟩
      have z2 : w1.cell? ⟨g, 2, none⟩ = some (.int .i64 y2) := (HO.out.cellAt 2 (by omega)).trans (by simp [hy2])
      clear hy2
      go_wp2_with (go_at_call 135; refine (Arity_spec _ _).mono ?_; rintro e w' ⟨rfl, rfl⟩)
      exact bodyPost_ret (v := .agg #[.int .i64 kind, .int .i64 y0, .int .i64 y1, .int .i64 y2]) (by simp [results, Tryz.results178, go_sem, s1, q0, q1, q2, q3]) rfl ⟨_, _, _, rfl, (Fr.cur (w := w) (by repeat (first | assumption | (with_reducible refine Fr.alloc ?_ _) | (with_reducible refine Fr.set ?_ hp (by first | omega | (simp; done) | (simp; omega)) _)))), (Fr.gr (by repeat (first | assumption | (with_reducible refine Fr.alloc ?_ _) | (with_reducible refine Fr.set ?_ hp (by first | omega | (simp; done) | (simp; omega)) _))))⟩
    · go_wp2_with (go_at_call 135; refine (Arity_spec _ _).mono ?_; rintro e w' ⟨rfl, rfl⟩)
      exact bodyPost_ret (v := .agg #[.int .i64 kind, .int .i64 y0, .int .i64 y1, .int .i64 0]) (by simp [results, Tryz.results178, go_sem, s1, q0, q1, q2, q3]) rfl ⟨_, _, _, rfl, (Fr.cur (w := w) (by repeat (first | assumption | (with_reducible refine Fr.alloc ?_ _) | (with_reducible refine Fr.set ?_ hp (by first | omega | (simp; done) | (simp; omega)) _)))), (Fr.gr (by repeat (first | assumption | (with_reducible refine Fr.alloc ?_ _) | (with_reducible refine Fr.set ?_ hp (by first | omega | (simp; done) | (simp; omega)) _))))⟩
  · go_wp2_with (go_at_call 135; refine (Arity_spec _ _).mono ?_; rintro e w' ⟨rfl, rfl⟩)
    exact bodyPost_ret (v := .agg #[.int .i64 kind, .int .i64 y0, .int .i64 0, .int .i64 0]) (by simp [results, Tryz.results178, go_sem, s1, q0, q1, q2, q3]) rfl ⟨_, _, _, rfl, (Fr.cur (w := w) (by repeat (first | assumption | (with_reducible refine Fr.alloc ?_ _) | (with_reducible refine Fr.set ?_ hp (by first | omega | (simp; done) | (simp; omega)) _)))), (Fr.gr (by repeat (first | assumption | (with_reducible refine Fr.alloc ?_ _) | (with_reducible refine Fr.set ?_ hp (by first | omega | (simp; done) | (simp; omega)) _))))⟩
set_option maxRecDepth 100000 in
set_option maxHeartbeats 2000000 in
theorem l9GateN_1 (w : World) (p : Nat) (hcur : CurAt w p) : Calls Tryz.prog 158 #[.pointer (some ⟨p, 0, none⟩), .int .i64 1] w (DGn 1 w p) := by
  have hp := hcur.lt
  go_enter Tryz.func158, Tryz.ntmps158
  go_wp2_with fail
  obtain ⟨w0, hw0⟩ : ∃ w0, w0 = (w.alloc (.cells #[.int .i64 0, .int .i64 0, .int .i64 0, .int .i64 0] 102)).alloc (.cells #[.int .i64 0, .int .i64 8, .int .i64 11, .int .i64 12, .int .i64 12] 3) := ⟨_, rfl⟩
  rw [← hw0]
  have x0 : w0.heap[w.heap.size]? = some (.cells #[.int .i64 0, .int .i64 0, .int .i64 0, .int .i64 0] 102 (0, 0)) := by rw [hw0]; exact boxed2_0 _ _ _
  have hfr0 : Fr w p w0 := by rw [hw0]; exact ((Fr.start hcur).alloc _).alloc _
  have s0 : w.heap.size < w0.heap.size := by rw [hw0]; simp; omega
  clear hw0
  refine (l1Below_any 8 11 w0 p hfr0.cur (by omega) (by omega) (by omega)).mono ?_
  rintro e w1 ⟨x, hx0, hx1, rfl, hc1, hg1⟩
  have x1 := box_call x0 hg1 (by omega)
  have hfr1 := hfr0.call hc1 hg1
  have s1 : w.heap.size < w1.heap.size := by have := hg1.size; omega
  have X1 := Lib.hid x1
  clear x0 x1 hc1 hg1 hfr0
  go_wp2_with fail
  refine (l1Once_any 2 w1 p hfr1.cur (by omega) (by omega)).mono ?_
  rintro e w2 ⟨b, rfl, hc2, hg2⟩
  have x2 := box_call X1.out hg2 (by omega)
  have hfr2 := hfr1.call hc2 hg2
  have s2 : w.heap.size < w2.heap.size := by have := hg2.size; omega
  have X2 := Lib.hid x2
  clear X1 x2 hc2 hg2 hfr1
  cases b
  · by_cases hA : 1 < ar (1 + x)
    · go_wp2_with (go_at_call 135; refine (Arity_spec _ _).mono ?_; rintro e w' ⟨rfl, rfl⟩)
      refine (l9On_k (4) 1 w2 p hfr2.cur (by omega) (by omega) (show ar 4 ≤ 1 by decide)).mono ?_
      rintro e w3 ⟨a, b, c, rfl, hc, hg⟩
      have x3 := box_call X2.out hg (by omega)
      have hfr3 := hfr2.call hc hg
      have s3 : w.heap.size < w3.heap.size := by have := hg.size; omega
      obtain ⟨q0, q1, q2, q3⟩ := boxcells4 (lay := Below.refl _ _) x3
      have f0 := free_at (j := 0) x3
      have f1 := free_at (j := 1) x3
      have f2 := free_at (j := 2) x3
      have f3 := free_at (j := 3) x3
      clear X2 x3 hc hg hfr2
      go_wp2_with fail
      exact bodyPost_ret (v := .agg #[.int .i64 (4), .int .i64 a, .int .i64 b, .int .i64 c]) (by simp [results, Tryz.results158, go_sem, q0, q1, q2, q3]) rfl ⟨_, _, _, _, ⟨by omega, by omega, show ar 4 ≤ 1 by decide⟩, rfl, (Fr.cur (w := w) (by repeat (first | assumption | (with_reducible refine Fr.alloc ?_ _) | (with_reducible refine Fr.set ?_ hp (by first | omega | (simp; done) | (simp; omega)) _)))), (Fr.gr (by repeat (first | assumption | (with_reducible refine Fr.alloc ?_ _) | (with_reducible refine Fr.set ?_ hp (by first | omega | (simp; done) | (simp; omega)) _))))⟩
    · go_wp2_with (go_at_call 135; refine (Arity_spec _ _).mono ?_; rintro e w' ⟨rfl, rfl⟩)
      refine (l9On_k (1 + x) 1 w2 p hfr2.cur (by omega) (by omega) (by omega)).mono ?_
      rintro e w3 ⟨a, b, c, rfl, hc, hg⟩
      have x3 := box_call X2.out hg (by omega)
      have hfr3 := hfr2.call hc hg
      have s3 : w.heap.size < w3.heap.size := by have := hg.size; omega
      obtain ⟨q0, q1, q2, q3⟩ := boxcells4 (lay := Below.refl _ _) x3
      have f0 := free_at (j := 0) x3
      have f1 := free_at (j := 1) x3
      have f2 := free_at (j := 2) x3
      have f3 := free_at (j := 3) x3
      clear X2 x3 hc hg hfr2
      go_wp2_with fail
      exact bodyPost_ret (v := .agg #[.int .i64 (1 + x), .int .i64 a, .int .i64 b, .int .i64 c]) (by simp [results, Tryz.results158, go_sem, q0, q1, q2, q3]) rfl ⟨_, _, _, _, ⟨by omega, by omega, by omega⟩, rfl, (Fr.cur (w := w) (by repeat (first | assumption | (with_reducible refine Fr.alloc ?_ _) | (with_reducible refine Fr.set ?_ hp (by first | omega | (simp; done) | (simp; omega)) _)))), (Fr.gr (by repeat (first | assumption | (with_reducible refine Fr.alloc ?_ _) | (with_reducible refine Fr.set ?_ hp (by first | omega | (simp; done) | (simp; omega)) _))))⟩
  · go_wp2_with fail
    obtain ⟨w3, hw3⟩ : ∃ w3, w3 = w2.alloc (.cells #[.int .i64 4, .int .i64 7, .int .i64 5, .int .i64 8, .int .i64 9, .int .i64 9, .int .i64 9, .int .i64 9] 3) := ⟨_, rfl⟩
    rw [← hw3]
    have x3 : w3.heap[w.heap.size]? = some (.cells #[.int .i64 0, .int .i64 0, .int .i64 0, .int .i64 0] 102 (0, 0)) := by rw [hw3]; exact (Below.heap_alloc _ _ _ s2).trans X2.out
    have hfr3 : Fr w p w3 := by rw [hw3]; exact hfr2.alloc _
    have hpk := pickedN (w := w2) (L := [4, 7, 5, 8, 9, 9, 9, 9]) rfl
    have hr3 : Rd w3 1 (some ⟨w2.heap.size, 0, none⟩) 8 (([4, 7, 5, 8, 9, 9, 9, 9] : List Int).map (Value.int .i64)) := by rw [hw3]; exact hpk
    have s3 : w.heap.size < w3.heap.size := by rw [hw3]; simp; omega
    clear hw3 hpk X2
    refine (l1PickInt_any w2.heap.size 8 8 [4, 7, 5, 8, 9, 9, 9, 9] w3 p hfr3.cur rfl (by omega) (by omega) hr3 (by omega)).mono ?_
    rintro e w4 ⟨y, hy, rfl, hc4, hg4⟩
    have hyb := picks8 hy
    clear hy
    have x4 := box_call x3 hg4 (by omega)
    have hfr4 := hfr3.call hc4 hg4
    have s4 : w.heap.size < w4.heap.size := by have := hg4.size; omega
    have X4 := Lib.hid x4
    clear x3 x4 hc4 hg4 hfr3 hr3
    by_cases hA : 1 < ar (y)
    · go_wp2_with (go_at_call 135; refine (Arity_spec _ _).mono ?_; rintro e w' ⟨rfl, rfl⟩)
      refine (l9On_k (4) 1 w4 p hfr4.cur (by omega) (by omega) (show ar 4 ≤ 1 by decide)).mono ?_
      rintro e w5 ⟨a, b, c, rfl, hc, hg⟩
      have x5 := box_call X4.out hg (by omega)
      have hfr5 := hfr4.call hc hg
      have s5 : w.heap.size < w5.heap.size := by have := hg.size; omega
      obtain ⟨q0, q1, q2, q3⟩ := boxcells4 (lay := Below.refl _ _) x5
      have f0 := free_at (j := 0) x5
      have f1 := free_at (j := 1) x5
      have f2 := free_at (j := 2) x5
      have f3 := free_at (j := 3) x5
      clear X4 x5 hc hg hfr4
      go_wp2_with fail
      exact bodyPost_ret (v := .agg #[.int .i64 (4), .int .i64 a, .int .i64 b, .int .i64 c]) (by simp [results, Tryz.results158, go_sem, q0, q1, q2, q3]) rfl ⟨_, _, _, _, ⟨by omega, by omega, show ar 4 ≤ 1 by decide⟩, rfl, (Fr.cur (w := w) (by repeat (first | assumption | (with_reducible refine Fr.alloc ?_ _) | (with_reducible refine Fr.set ?_ hp (by first | omega | (simp; done) | (simp; omega)) _)))), (Fr.gr (by repeat (first | assumption | (with_reducible refine Fr.alloc ?_ _) | (with_reducible refine Fr.set ?_ hp (by first | omega | (simp; done) | (simp; omega)) _))))⟩
    · go_wp2_with (go_at_call 135; refine (Arity_spec _ _).mono ?_; rintro e w' ⟨rfl, rfl⟩)
      refine (l9On_k (y) 1 w4 p hfr4.cur (by omega) (by omega) (by omega)).mono ?_
      rintro e w5 ⟨a, b, c, rfl, hc, hg⟩
      have x5 := box_call X4.out hg (by omega)
      have hfr5 := hfr4.call hc hg
      have s5 : w.heap.size < w5.heap.size := by have := hg.size; omega
      obtain ⟨q0, q1, q2, q3⟩ := boxcells4 (lay := Below.refl _ _) x5
      have f0 := free_at (j := 0) x5
      have f1 := free_at (j := 1) x5
      have f2 := free_at (j := 2) x5
      have f3 := free_at (j := 3) x5
      clear X4 x5 hc hg hfr4
      go_wp2_with fail
      exact bodyPost_ret (v := .agg #[.int .i64 (y), .int .i64 a, .int .i64 b, .int .i64 c]) (by simp [results, Tryz.results158, go_sem, q0, q1, q2, q3]) rfl ⟨_, _, _, _, ⟨by omega, by omega, by omega⟩, rfl, (Fr.cur (w := w) (by repeat (first | assumption | (with_reducible refine Fr.alloc ?_ _) | (with_reducible refine Fr.set ?_ hp (by first | omega | (simp; done) | (simp; omega)) _)))), (Fr.gr (by repeat (first | assumption | (with_reducible refine Fr.alloc ?_ _) | (with_reducible refine Fr.set ?_ hp (by first | omega | (simp; done) | (simp; omega)) _))))⟩
set_option maxRecDepth 100000 in
set_option maxHeartbeats 2000000 in
theorem l9GateN_2 (w : World) (p : Nat) (hcur : CurAt w p) : Calls Tryz.prog 158 #[.pointer (some ⟨p, 0, none⟩), .int .i64 2] w (DGn 2 w p) := by
  have hp := hcur.lt
  go_enter Tryz.func158, Tryz.ntmps158
  go_wp2_with fail
  obtain ⟨w0, hw0⟩ : ∃ w0, w0 = (w.alloc (.cells #[.int .i64 0, .int .i64 0, .int .i64 0, .int .i64 0] 102)).alloc (.cells #[.int .i64 0, .int .i64 8, .int .i64 11, .int .i64 12, .int .i64 12] 3) := ⟨_, rfl⟩
  rw [← hw0]
  have x0 : w0.heap[w.heap.size]? = some (.cells #[.int .i64 0, .int .i64 0, .int .i64 0, .int .i64 0] 102 (0, 0)) := by rw [hw0]; exact boxed2_0 _ _ _
  have hfr0 : Fr w p w0 := by rw [hw0]; exact ((Fr.start hcur).alloc _).alloc _
  have s0 : w.heap.size < w0.heap.size := by rw [hw0]; simp; omega
  clear hw0
  refine (l1Below_any 11 11 w0 p hfr0.cur (by omega) (by omega) (by omega)).mono ?_
  rintro e w1 ⟨x, hx0, hx1, rfl, hc1, hg1⟩
  have x1 := box_call x0 hg1 (by omega)
  have hfr1 := hfr0.call hc1 hg1
  have s1 : w.heap.size < w1.heap.size := by have := hg1.size; omega
  have X1 := Lib.hid x1
  clear x0 x1 hc1 hg1 hfr0
  go_wp2_with fail
  refine (l1Once_any 2 w1 p hfr1.cur (by omega) (by omega)).mono ?_
  rintro e w2 ⟨b, rfl, hc2, hg2⟩
  have x2 := box_call X1.out hg2 (by omega)
  have hfr2 := hfr1.call hc2 hg2
  have s2 : w.heap.size < w2.heap.size := by have := hg2.size; omega
  have X2 := Lib.hid x2
  clear X1 x2 hc2 hg2 hfr1
  cases b
  · by_cases hA : 2 < ar (1 + x)
    · go_wp2_with (go_at_call 135; refine (Arity_spec _ _).mono ?_; rintro e w' ⟨rfl, rfl⟩)
      refine (l9On_k (4) 2 w2 p hfr2.cur (by omega) (by omega) (show ar 4 ≤ 2 by decide)).mono ?_
      rintro e w3 ⟨a, b, c, rfl, hc, hg⟩
      have x3 := box_call X2.out hg (by omega)
      have hfr3 := hfr2.call hc hg
      have s3 : w.heap.size < w3.heap.size := by have := hg.size; omega
      obtain ⟨q0, q1, q2, q3⟩ := boxcells4 (lay := Below.refl _ _) x3
      have f0 := free_at (j := 0) x3
      have f1 := free_at (j := 1) x3
      have f2 := free_at (j := 2) x3
      have f3 := free_at (j := 3) x3
      clear X2 x3 hc hg hfr2
      go_wp2_with fail
      exact bodyPost_ret (v := .agg #[.int .i64 (4), .int .i64 a, .int .i64 b, .int .i64 c]) (by simp [results, Tryz.results158, go_sem, q0, q1, q2, q3]) rfl ⟨_, _, _, _, ⟨by omega, by omega, show ar 4 ≤ 2 by decide⟩, rfl, (Fr.cur (w := w) (by repeat (first | assumption | (with_reducible refine Fr.alloc ?_ _) | (with_reducible refine Fr.set ?_ hp (by first | omega | (simp; done) | (simp; omega)) _)))), (Fr.gr (by repeat (first | assumption | (with_reducible refine Fr.alloc ?_ _) | (with_reducible refine Fr.set ?_ hp (by first | omega | (simp; done) | (simp; omega)) _))))⟩
    · go_wp2_with (go_at_call 135; refine (Arity_spec _ _).mono ?_; rintro e w' ⟨rfl, rfl⟩)
      refine (l9On_k (1 + x) 2 w2 p hfr2.cur (by omega) (by omega) (by omega)).mono ?_
      rintro e w3 ⟨a, b, c, rfl, hc, hg⟩
      have x3 := box_call X2.out hg (by omega)
      have hfr3 := hfr2.call hc hg
      have s3 : w.heap.size < w3.heap.size := by have := hg.size; omega
      obtain ⟨q0, q1, q2, q3⟩ := boxcells4 (lay := Below.refl _ _) x3
      have f0 := free_at (j := 0) x3
      have f1 := free_at (j := 1) x3
      have f2 := free_at (j := 2) x3
      have f3 := free_at (j := 3) x3
      clear X2 x3 hc hg hfr2
      go_wp2_with fail
      exact bodyPost_ret (v := .agg #[.int .i64 (1 + x), .int .i64 a, .int .i64 b, .int .i64 c]) (by simp [results, Tryz.results158, go_sem, q0, q1, q2, q3]) rfl ⟨_, _, _, _, ⟨by omega, by omega, by omega⟩, rfl, (Fr.cur (w := w) (by repeat (first | assumption | (with_reducible refine Fr.alloc ?_ _) | (with_reducible refine Fr.set ?_ hp (by first | omega | (simp; done) | (simp; omega)) _)))), (Fr.gr (by repeat (first | assumption | (with_reducible refine Fr.alloc ?_ _) | (with_reducible refine Fr.set ?_ hp (by first | omega | (simp; done) | (simp; omega)) _))))⟩
  · go_wp2_with fail
    obtain ⟨w3, hw3⟩ : ∃ w3, w3 = w2.alloc (.cells #[.int .i64 4, .int .i64 7, .int .i64 5, .int .i64 8, .int .i64 9, .int .i64 9, .int .i64 9, .int .i64 9] 3) := ⟨_, rfl⟩
    rw [← hw3]
    have x3 : w3.heap[w.heap.size]? = some (.cells #[.int .i64 0, .int .i64 0, .int .i64 0, .int .i64 0] 102 (0, 0)) := by rw [hw3]; exact (Below.heap_alloc _ _ _ s2).trans X2.out
    have hfr3 : Fr w p w3 := by rw [hw3]; exact hfr2.alloc _
    have hpk := pickedN (w := w2) (L := [4, 7, 5, 8, 9, 9, 9, 9]) rfl
    have hr3 : Rd w3 1 (some ⟨w2.heap.size, 0, none⟩) 8 (([4, 7, 5, 8, 9, 9, 9, 9] : List Int).map (Value.int .i64)) := by rw [hw3]; exact hpk
    have s3 : w.heap.size < w3.heap.size := by rw [hw3]; simp; omega
    clear hw3 hpk X2
    refine (l1PickInt_any w2.heap.size 8 8 [4, 7, 5, 8, 9, 9, 9, 9] w3 p hfr3.cur rfl (by omega) (by omega) hr3 (by omega)).mono ?_
    rintro e w4 ⟨y, hy, rfl, hc4, hg4⟩
    have hyb := picks8 hy
    clear hy
    have x4 := box_call x3 hg4 (by omega)
    have hfr4 := hfr3.call hc4 hg4
    have s4 : w.heap.size < w4.heap.size := by have := hg4.size; omega
    have X4 := Lib.hid x4
    clear x3 x4 hc4 hg4 hfr3 hr3
    by_cases hA : 2 < ar (y)
    · go_wp2_with (go_at_call 135; refine (Arity_spec _ _).mono ?_; rintro e w' ⟨rfl, rfl⟩)
      refine (l9On_k (4) 2 w4 p hfr4.cur (by omega) (by omega) (show ar 4 ≤ 2 by decide)).mono ?_
      rintro e w5 ⟨a, b, c, rfl, hc, hg⟩
      have x5 := box_call X4.out hg (by omega)
      have hfr5 := hfr4.call hc hg
      have s5 : w.heap.size < w5.heap.size := by have := hg.size; omega
      obtain ⟨q0, q1, q2, q3⟩ := boxcells4 (lay := Below.refl _ _) x5
      have f0 := free_at (j := 0) x5
      have f1 := free_at (j := 1) x5
      have f2 := free_at (j := 2) x5
      have f3 := free_at (j := 3) x5
      clear X4 x5 hc hg hfr4
      go_wp2_with fail
      exact bodyPost_ret (v := .agg #[.int .i64 (4), .int .i64 a, .int .i64 b, .int .i64 c]) (by simp [results, Tryz.results158, go_sem, q0, q1, q2, q3]) rfl ⟨_, _, _, _, ⟨by omega, by omega, show ar 4 ≤ 2 by decide⟩, rfl, (Fr.cur (w := w) (by repeat (first | assumption | (with_reducible refine Fr.alloc ?_ _) | (with_reducible refine Fr.set ?_ hp (by first | omega | (simp; done) | (simp; omega)) _)))), (Fr.gr (by repeat (first | assumption | (with_reducible refine Fr.alloc ?_ _) | (with_reducible refine Fr.set ?_ hp (by first | omega | (simp; done) | (simp; omega)) _))))⟩
    · go_wp2_with (go_at_call 135; refine (Arity_spec _ _).mono ?_; rintro e w' ⟨rfl, rfl⟩)
      refine (l9On_k (y) 2 w4 p hfr4.cur (by omega) (by omega) (by omega)).mono ?_
      rintro e w5 ⟨a, b, c, rfl, hc, hg⟩
      have x5 := box_call X4.out hg (by omega)
      have hfr5 := hfr4.call hc hg
      have s5 : w.heap.size < w5.heap.size := by have := hg.size; omega
      obtain ⟨q0, q1, q2, q3⟩ := boxcells4 (lay := Below.refl _ _) x5
      have f0 := free_at (j := 0) x5
      have f1 := free_at (j := 1) x5
      have f2 := free_at (j := 2) x5
      have f3 := free_at (j := 3) x5
      clear X4 x5 hc hg hfr4
      go_wp2_with fail
      exact bodyPost_ret (v := .agg #[.int .i64 (y), .int .i64 a, .int .i64 b, .int .i64 c]) (by simp [results, Tryz.results158, go_sem, q0, q1, q2, q3]) rfl ⟨_, _, _, _, ⟨by omega, by omega, by omega⟩, rfl, (Fr.cur (w := w) (by repeat (first | assumption | (with_reducible refine Fr.alloc ?_ _) | (with_reducible refine Fr.set ?_ hp (by first | omega | (simp; done) | (simp; omega)) _)))), (Fr.gr (by repeat (first | assumption | (with_reducible refine Fr.alloc ?_ _) | (with_reducible refine Fr.set ?_ hp (by first | omega | (simp; done) | (simp; omega)) _))))⟩
set_option maxRecDepth 100000 in
set_option maxHeartbeats 2000000 in
theorem l9GateN_3 (w : World) (p : Nat) (hcur : CurAt w p) : Calls Tryz.prog 158 #[.pointer (some ⟨p, 0, none⟩), .int .i64 3] w (DGn 3 w p) := by
  have hp := hcur.lt
  go_enter Tryz.func158, Tryz.ntmps158
  go_wp2_with fail
  obtain ⟨w0, hw0⟩ : ∃ w0, w0 = (w.alloc (.cells #[.int .i64 0, .int .i64 0, .int .i64 0, .int .i64 0] 102)).alloc (.cells #[.int .i64 0, .int .i64 8, .int .i64 11, .int .i64 12, .int .i64 12] 3) := ⟨_, rfl⟩
  rw [← hw0]
  have x0 : w0.heap[w.heap.size]? = some (.cells #[.int .i64 0, .int .i64 0, .int .i64 0, .int .i64 0] 102 (0, 0)) := by rw [hw0]; exact boxed2_0 _ _ _
  have hfr0 : Fr w p w0 := by rw [hw0]; exact ((Fr.start hcur).alloc _).alloc _
  have s0 : w.heap.size < w0.heap.size := by rw [hw0]; simp; omega
  clear hw0
  refine (l1Below_any 12 11 w0 p hfr0.cur (by omega) (by omega) (by omega)).mono ?_
  rintro e w1 ⟨x, hx0, hx1, rfl, hc1, hg1⟩
  have x1 := box_call x0 hg1 (by omega)
  have hfr1 := hfr0.call hc1 hg1
  have s1 : w.heap.size < w1.heap.size := by have := hg1.size; omega
  have X1 := Lib.hid x1
  clear x0 x1 hc1 hg1 hfr0
  go_wp2_with fail
  refine (l1Once_any 2 w1 p hfr1.cur (by omega) (by omega)).mono ?_
  rintro e w2 ⟨b, rfl, hc2, hg2⟩
  have x2 := box_call X1.out hg2 (by omega)
  have hfr2 := hfr1.call hc2 hg2
  have s2 : w.heap.size < w2.heap.size := by have := hg2.size; omega
  have X2 := Lib.hid x2
  clear X1 x2 hc2 hg2 hfr1
  cases b
  · by_cases hA : 3 < ar (1 + x)
    · go_wp2_with (go_at_call 135; refine (Arity_spec _ _).mono ?_; rintro e w' ⟨rfl, rfl⟩)
      refine (l9On_k (4) 3 w2 p hfr2.cur (by omega) (by omega) (show ar 4 ≤ 3 by decide)).mono ?_
      rintro e w3 ⟨a, b, c, rfl, hc, hg⟩
      have x3 := box_call X2.out hg (by omega)
      have hfr3 := hfr2.call hc hg
      have s3 : w.heap.size < w3.heap.size := by have := hg.size; omega
      obtain ⟨q0, q1, q2, q3⟩ := boxcells4 (lay := Below.refl _ _) x3
      have f0 := free_at (j := 0) x3
      have f1 := free_at (j := 1) x3
      have f2 := free_at (j := 2) x3
      have f3 := free_at (j := 3) x3
      clear X2 x3 hc hg hfr2
      go_wp2_with fail
      exact bodyPost_ret (v := .agg #[.int .i64 (4), .int .i64 a, .int .i64 b, .int .i64 c]) (by simp [results, Tryz.results158, go_sem, q0, q1, q2, q3]) rfl ⟨_, _, _, _, ⟨by omega, by omega, show ar 4 ≤ 3 by decide⟩, rfl, (Fr.cur (w := w) (by repeat (first | assumption | (with_reducible refine Fr.alloc ?_ _) | (with_reducible refine Fr.set ?_ hp (by first | omega | (simp; done) | (simp; omega)) _)))), (Fr.gr (by repeat (first | assumption | (with_reducible refine Fr.alloc ?_ _) | (with_reducible refine Fr.set ?_ hp (by first | omega | (simp; done) | (simp; omega)) _))))⟩
    · go_wp2_with (go_at_call 135; refine (Arity_spec _ _).mono ?_; rintro e w' ⟨rfl, rfl⟩)
      refine (l9On_k (1 + x) 3 w2 p hfr2.cur (by omega) (by omega) (by omega)).mono ?_
      rintro e w3 ⟨a, b, c, rfl, hc, hg⟩
      have x3 := box_call X2.out hg (by omega)
      have hfr3 := hfr2.call hc hg
      have s3 : w.heap.size < w3.heap.size := by have := hg.size; omega
      obtain ⟨q0, q1, q2, q3⟩ := boxcells4 (lay := Below.refl _ _) x3
      have f0 := free_at (j := 0) x3
      have f1 := free_at (j := 1) x3
      have f2 := free_at (j := 2) x3
      have f3 := free_at (j := 3) x3
      clear X2 x3 hc hg hfr2
      go_wp2_with fail
      exact bodyPost_ret (v := .agg #[.int .i64 (1 + x), .int .i64 a, .int .i64 b, .int .i64 c]) (by simp [results, Tryz.results158, go_sem, q0, q1, q2, q3]) rfl ⟨_, _, _, _, ⟨by omega, by omega, by omega⟩, rfl, (Fr.cur (w := w) (by repeat (first | assumption | (with_reducible refine Fr.alloc ?_ _) | (with_reducible refine Fr.set ?_ hp (by first | omega | (simp; done) | (simp; omega)) _)))), (Fr.gr (by repeat (first | assumption | (with_reducible refine Fr.alloc ?_ _) | (with_reducible refine Fr.set ?_ hp (by first | omega | (simp; done) | (simp; omega)) _))))⟩
  · go_wp2_with fail
    obtain ⟨w3, hw3⟩ : ∃ w3, w3 = w2.alloc (.cells #[.int .i64 4, .int .i64 7, .int .i64 5, .int .i64 8, .int .i64 9, .int .i64 9, .int .i64 9, .int .i64 9] 3) := ⟨_, rfl⟩
    rw [← hw3]
    have x3 : w3.heap[w.heap.size]? = some (.cells #[.int .i64 0, .int .i64 0, .int .i64 0, .int .i64 0] 102 (0, 0)) := by rw [hw3]; exact (Below.heap_alloc _ _ _ s2).trans X2.out
    have hfr3 : Fr w p w3 := by rw [hw3]; exact hfr2.alloc _
    have hpk := pickedN (w := w2) (L := [4, 7, 5, 8, 9, 9, 9, 9]) rfl
    have hr3 : Rd w3 1 (some ⟨w2.heap.size, 0, none⟩) 8 (([4, 7, 5, 8, 9, 9, 9, 9] : List Int).map (Value.int .i64)) := by rw [hw3]; exact hpk
    have s3 : w.heap.size < w3.heap.size := by rw [hw3]; simp; omega
    clear hw3 hpk X2
    refine (l1PickInt_any w2.heap.size 8 8 [4, 7, 5, 8, 9, 9, 9, 9] w3 p hfr3.cur rfl (by omega) (by omega) hr3 (by omega)).mono ?_
    rintro e w4 ⟨y, hy, rfl, hc4, hg4⟩
    have hyb := picks8 hy
    clear hy
    have x4 := box_call x3 hg4 (by omega)
    have hfr4 := hfr3.call hc4 hg4
    have s4 : w.heap.size < w4.heap.size := by have := hg4.size; omega
    have X4 := Lib.hid x4
    clear x3 x4 hc4 hg4 hfr3 hr3
    by_cases hA : 3 < ar (y)
    · go_wp2_with (go_at_call 135; refine (Arity_spec _ _).mono ?_; rintro e w' ⟨rfl, rfl⟩)
      refine (l9On_k (4) 3 w4 p hfr4.cur (by omega) (by omega) (show ar 4 ≤ 3 by decide)).mono ?_
      rintro e w5 ⟨a, b, c, rfl, hc, hg⟩
      have x5 := box_call X4.out hg (by omega)
      have hfr5 := hfr4.call hc hg
      have s5 : w.heap.size < w5.heap.size := by have := hg.size; omega
      obtain ⟨q0, q1, q2, q3⟩ := boxcells4 (lay := Below.refl _ _) x5
      have f0 := free_at (j := 0) x5
      have f1 := free_at (j := 1) x5
      have f2 := free_at (j := 2) x5
      have f3 := free_at (j := 3) x5
      clear X4 x5 hc hg hfr4
      go_wp2_with fail
      exact bodyPost_ret (v := .agg #[.int .i64 (4), .int .i64 a, .int .i64 b, .int .i64 c]) (by simp [results, Tryz.results158, go_sem, q0, q1, q2, q3]) rfl ⟨_, _, _, _, ⟨by omega, by omega, show ar 4 ≤ 3 by decide⟩, rfl, (Fr.cur (w := w) (by repeat (first | assumption | (with_reducible refine Fr.alloc ?_ _) | (with_reducible refine Fr.set ?_ hp (by first | omega | (simp; done) | (simp; omega)) _)))), (Fr.gr (by repeat (first | assumption | (with_reducible refine Fr.alloc ?_ _) | (with_reducible refine Fr.set ?_ hp (by first | omega | (simp; done) | (simp; omega)) _))))⟩
    · go_wp2_with (go_at_call 135; refine (Arity_spec _ _).mono ?_; rintro e w' ⟨rfl, rfl⟩)
      refine (l9On_k (y) 3 w4 p hfr4.cur (by omega) (by omega) (by omega)).mono ?_
      rintro e w5 ⟨a, b, c, rfl, hc, hg⟩
      have x5 := box_call X4.out hg (by omega)
      have hfr5 := hfr4.call hc hg
      have s5 : w.heap.size < w5.heap.size := by have := hg.size; omega
      obtain ⟨q0, q1, q2, q3⟩ := boxcells4 (lay := Below.refl _ _) x5
      have f0 := free_at (j := 0) x5
      have f1 := free_at (j := 1) x5
      have f2 := free_at (j := 2) x5
      have f3 := free_at (j := 3) x5
      clear X4 x5 hc hg hfr4
      go_wp2_with fail
      exact bodyPost_ret (v := .agg #[.int .i64 (y), .int .i64 a, .int .i64 b, .int .i64 c]) (by simp [results, Tryz.results158, go_sem, q0, q1, q2, q3]) rfl ⟨_, _, _, _, ⟨by omega, by omega, by omega⟩, rfl, (Fr.cur (w := w) (by repeat (first | assumption | (with_reducible refine Fr.alloc ?_ _) | (with_reducible refine Fr.set ?_ hp (by first | omega | (simp; done) | (simp; omega)) _)))), (Fr.gr (by repeat (first | assumption | (with_reducible refine Fr.alloc ?_ _) | (with_reducible refine Fr.set ?_ hp (by first | omega | (simp; done) | (simp; omega)) _))))⟩
set_option maxRecDepth 100000 in
set_option maxHeartbeats 2000000 in
theorem l9GateN_4 (w : World) (p : Nat) (hcur : CurAt w p) : Calls Tryz.prog 158 #[.pointer (some ⟨p, 0, none⟩), .int .i64 4] w (DGn 4 w p) := by
  have hp := hcur.lt
  go_enter Tryz.func158, Tryz.ntmps158
  go_wp2_with fail
  obtain ⟨w0, hw0⟩ : ∃ w0, w0 = (w.alloc (.cells #[.int .i64 0, .int .i64 0, .int .i64 0, .int .i64 0] 102)).alloc (.cells #[.int .i64 0, .int .i64 8, .int .i64 11, .int .i64 12, .int .i64 12] 3) := ⟨_, rfl⟩
  rw [← hw0]
  have x0 : w0.heap[w.heap.size]? = some (.cells #[.int .i64 0, .int .i64 0, .int .i64 0, .int .i64 0] 102 (0, 0)) := by rw [hw0]; exact boxed2_0 _ _ _
  have hfr0 : Fr w p w0 := by rw [hw0]; exact ((Fr.start hcur).alloc _).alloc _
  have s0 : w.heap.size < w0.heap.size := by rw [hw0]; simp; omega
  clear hw0
  refine (l1Below_any 12 11 w0 p hfr0.cur (by omega) (by omega) (by omega)).mono ?_
  rintro e w1 ⟨x, hx0, hx1, rfl, hc1, hg1⟩
  have x1 := box_call x0 hg1 (by omega)
  have hfr1 := hfr0.call hc1 hg1
  have s1 : w.heap.size < w1.heap.size := by have := hg1.size; omega
  have X1 := Lib.hid x1
  clear x0 x1 hc1 hg1 hfr0
  go_wp2_with fail
  refine (l1Once_any 2 w1 p hfr1.cur (by omega) (by omega)).mono ?_
  rintro e w2 ⟨b, rfl, hc2, hg2⟩
  have x2 := box_call X1.out hg2 (by omega)
  have hfr2 := hfr1.call hc2 hg2
  have s2 : w.heap.size < w2.heap.size := by have := hg2.size; omega
  have X2 := Lib.hid x2
  clear X1 x2 hc2 hg2 hfr1
  cases b
  · by_cases hA : 4 < ar (1 + x)
    · go_wp2_with (go_at_call 135; refine (Arity_spec _ _).mono ?_; rintro e w' ⟨rfl, rfl⟩)
      refine (l9On_k (4) 4 w2 p hfr2.cur (by omega) (by omega) (show ar 4 ≤ 4 by decide)).mono ?_
      rintro e w3 ⟨a, b, c, rfl, hc, hg⟩
      have x3 := box_call X2.out hg (by omega)
      have hfr3 := hfr2.call hc hg
      have s3 : w.heap.size < w3.heap.size := by have := hg.size; omega
      obtain ⟨q0, q1, q2, q3⟩ := boxcells4 (lay := Below.refl _ _) x3
      have f0 := free_at (j := 0) x3
      have f1 := free_at (j := 1) x3
      have f2 := free_at (j := 2) x3
      have f3 := free_at (j := 3) x3
      clear X2 x3 hc hg hfr2
      go_wp2_with fail
      exact bodyPost_ret (v := .agg #[.int .i64 (4), .int .i64 a, .int .i64 b, .int .i64 c]) (by simp [results, Tryz.results158, go_sem, q0, q1, q2, q3]) rfl ⟨_, _, _, _, ⟨by omega, by omega, show ar 4 ≤ 4 by decide⟩, rfl, (Fr.cur (w := w) (by repeat (first | assumption | (with_reducible refine Fr.alloc ?_ _) | (with_reducible refine Fr.set ?_ hp (by first | omega | (simp; done) | (simp; omega)) _)))), (Fr.gr (by repeat (first | assumption | (with_reducible refine Fr.alloc ?_ _) | (with_reducible refine Fr.set ?_ hp (by first | omega | (simp; done) | (simp; omega)) _))))⟩
    · go_wp2_with (go_at_call 135; refine (Arity_spec _ _).mono ?_; rintro e w' ⟨rfl, rfl⟩)
      refine (l9On_k (1 + x) 4 w2 p hfr2.cur (by omega) (by omega) (by omega)).mono ?_
      rintro e w3 ⟨a, b, c, rfl, hc, hg⟩
      have x3 := box_call X2.out hg (by omega)
      have hfr3 := hfr2.call hc hg
      have s3 : w.heap.size < w3.heap.size := by have := hg.size; omega
      obtain ⟨q0, q1, q2, q3⟩ := boxcells4 (lay := Below.refl _ _) x3
      have f0 := free_at (j := 0) x3
      have f1 := free_at (j := 1) x3
      have f2 := free_at (j := 2) x3
      have f3 := free_at (j := 3) x3
      clear X2 x3 hc hg hfr2
      go_wp2_with fail
      exact bodyPost_ret (v := .agg #[.int .i64 (1 + x), .int .i64 a, .int .i64 b, .int .i64 c]) (by simp [results, Tryz.results158, go_sem, q0, q1, q2, q3]) rfl ⟨_, _, _, _, ⟨by omega, by omega, by omega⟩, rfl, (Fr.cur (w := w) (by repeat (first | assumption | (with_reducible refine Fr.alloc ?_ _) | (with_reducible refine Fr.set ?_ hp (by first | omega | (simp; done) | (simp; omega)) _)))), (Fr.gr (by repeat (first | assumption | (with_reducible refine Fr.alloc ?_ _) | (with_reducible refine Fr.set ?_ hp (by first | omega | (simp; done) | (simp; omega)) _))))⟩
  · go_wp2_with fail
    obtain ⟨w3, hw3⟩ : ∃ w3, w3 = w2.alloc (.cells #[.int .i64 4, .int .i64 7, .int .i64 5, .int .i64 8, .int .i64 9, .int .i64 9, .int .i64 9, .int .i64 9] 3) := ⟨_, rfl⟩
    rw [← hw3]
    have x3 : w3.heap[w.heap.size]? = some (.cells #[.int .i64 0, .int .i64 0, .int .i64 0, .int .i64 0] 102 (0, 0)) := by rw [hw3]; exact (Below.heap_alloc _ _ _ s2).trans X2.out
    have hfr3 : Fr w p w3 := by rw [hw3]; exact hfr2.alloc _
    have hpk := pickedN (w := w2) (L := [4, 7, 5, 8, 9, 9, 9, 9]) rfl
    have hr3 : Rd w3 1 (some ⟨w2.heap.size, 0, none⟩) 8 (([4, 7, 5, 8, 9, 9, 9, 9] : List Int).map (Value.int .i64)) := by rw [hw3]; exact hpk
    have s3 : w.heap.size < w3.heap.size := by rw [hw3]; simp; omega
    clear hw3 hpk X2
    refine (l1PickInt_any w2.heap.size 8 8 [4, 7, 5, 8, 9, 9, 9, 9] w3 p hfr3.cur rfl (by omega) (by omega) hr3 (by omega)).mono ?_
    rintro e w4 ⟨y, hy, rfl, hc4, hg4⟩
    have hyb := picks8 hy
    clear hy
    have x4 := box_call x3 hg4 (by omega)
    have hfr4 := hfr3.call hc4 hg4
    have s4 : w.heap.size < w4.heap.size := by have := hg4.size; omega
    have X4 := Lib.hid x4
    clear x3 x4 hc4 hg4 hfr3 hr3
    by_cases hA : 4 < ar (y)
    · go_wp2_with (go_at_call 135; refine (Arity_spec _ _).mono ?_; rintro e w' ⟨rfl, rfl⟩)
      refine (l9On_k (4) 4 w4 p hfr4.cur (by omega) (by omega) (show ar 4 ≤ 4 by decide)).mono ?_
      rintro e w5 ⟨a, b, c, rfl, hc, hg⟩
      have x5 := box_call X4.out hg (by omega)
      have hfr5 := hfr4.call hc hg
      have s5 : w.heap.size < w5.heap.size := by have := hg.size; omega
      obtain ⟨q0, q1, q2, q3⟩ := boxcells4 (lay := Below.refl _ _) x5
      have f0 := free_at (j := 0) x5
      have f1 := free_at (j := 1) x5
      have f2 := free_at (j := 2) x5
      have f3 := free_at (j := 3) x5
      clear X4 x5 hc hg hfr4
      go_wp2_with fail
      exact bodyPost_ret (v := .agg #[.int .i64 (4), .int .i64 a, .int .i64 b, .int .i64 c]) (by simp [results, Tryz.results158, go_sem, q0, q1, q2, q3]) rfl ⟨_, _, _, _, ⟨by omega, by omega, show ar 4 ≤ 4 by decide⟩, rfl, (Fr.cur (w := w) (by repeat (first | assumption | (with_reducible refine Fr.alloc ?_ _) | (with_reducible refine Fr.set ?_ hp (by first | omega | (simp; done) | (simp; omega)) _)))), (Fr.gr (by repeat (first | assumption | (with_reducible refine Fr.alloc ?_ _) | (with_reducible refine Fr.set ?_ hp (by first | omega | (simp; done) | (simp; omega)) _))))⟩
    · go_wp2_with (go_at_call 135; refine (Arity_spec _ _).mono ?_; rintro e w' ⟨rfl, rfl⟩)
      refine (l9On_k (y) 4 w4 p hfr4.cur (by omega) (by omega) (by omega)).mono ?_
      rintro e w5 ⟨a, b, c, rfl, hc, hg⟩
      have x5 := box_call X4.out hg (by omega)
      have hfr5 := hfr4.call hc hg
      have s5 : w.heap.size < w5.heap.size := by have := hg.size; omega
      obtain ⟨q0, q1, q2, q3⟩ := boxcells4 (lay := Below.refl _ _) x5
      have f0 := free_at (j := 0) x5
      have f1 := free_at (j := 1) x5
      have f2 := free_at (j := 2) x5
      have f3 := free_at (j := 3) x5
      clear X4 x5 hc hg hfr4
      go_wp2_with fail
      exact bodyPost_ret (v := .agg #[.int .i64 (y), .int .i64 a, .int .i64 b, .int .i64 c]) (by simp [results, Tryz.results158, go_sem, q0, q1, q2, q3]) rfl ⟨_, _, _, _, ⟨by omega, by omega, by omega⟩, rfl, (Fr.cur (w := w) (by repeat (first | assumption | (with_reducible refine Fr.alloc ?_ _) | (with_reducible refine Fr.set ?_ hp (by first | omega | (simp; done) | (simp; omega)) _)))), (Fr.gr (by repeat (first | assumption | (with_reducible refine Fr.alloc ?_ _) | (with_reducible refine Fr.set ?_ hp (by first | omega | (simp; done) | (simp; omega)) _))))⟩
theorem l9GateN_any (n : Nat) (w : World) (p : Nat) (hcur : CurAt w p) (h1 : 1 ≤ n) (h4 : n ≤ 4) : Calls Tryz.prog 158 #[.pointer (some ⟨p, 0, none⟩), .int .i64 n] w (DGn n w p) := by
  have h : n = 1 ∨ n = 2 ∨ n = 3 ∨ n = 4 := by omega
  rcases h with rfl | rfl | rfl | rfl
  · exact l9GateN_1 w p hcur
  · exact l9GateN_2 w p hcur
  · exact l9GateN_3 w p hcur
  · exact l9GateN_4 w p hcur
end Go.Proofs.YthkbckkghnbonaaGreatDoor
namespace Go.Proofs.YthkbckkghnbonaaGreatDoor
open Go.RowKit
theorem step_append_rdO {P : Program} (w : World) {ops : Array Oper} {o : Oper} {a : Act} {K : Act → World → Prop} {Q : Exit → Act → World → Prop} {E : Prop} (hgd : o.guard = none) (s x : Operand) (t : TypeId)
    (ho : o.op = .call { callee := .builtin .append, args := #[s, x], argTypes := #[t, t] })
    (base : Nat) (e : TypeId) (i : TypeInfo) (z : Value) (size bytes : Nat) (ht : P.underlying t = some (.slice e)) (hi : P.info? e = some i) (hz : i.zero = some z)
    (hsize : i.size = size) (hby : i.bytes = bytes) (hzs : z.cells.size = size) (hsz : 0 < size)
    (v : Value) (n : Nat) (xs : List Value) (hs : a.eval s = v) (hown : w.ownsRow base e size v n xs)
    (A : Option Addr) (m c : Nat) (news : List Value) (hx : a.eval x = .slice A m c) (hr : Rd w size A m news) (h1 : ∀ u ∈ news, u.oneCell' = true)
    (h63 : n + m ≤ maxLen) (hbytes : (n + m) * bytes ≤ 140737488355328) (hbase : base ≤ w.heap.size)
    (h : ∀ v' w', w'.ownsRow base e size v' (n + m) (xs ++ news) → w.grownBy w' v.ownBlock → (v'.ownBlock = v.ownBlock ∨ v'.ownBlock = some w.heap.size) → K (a.put o.dst v') w') :
    if Region.wanted o (yielded ops a.tmps) = true then Oper.wp P o a w K Q else E := by
  have hw : Region.wanted o (yielded ops a.tmps) = true := by simp [Region.wanted, hgd]
  rw [if_pos hw]
  obtain ⟨v', w', hrun, h2, h3, h4⟩ := run_append_rd (P := P) w base t o.type e i z size bytes ht hi hz hsize hby hzs hsz v n xs hown A m c news hr h1 h63 hbytes hbase
  unfold Oper.wp execOp
  simp only [ho, resolve, invoke, builtin, Sem.run_bind, Sem.run_pure, Result.andThen_ok, List.map_toArray, List.map_cons, List.map_nil, hs, hx, hrun]
  exact h v' w' h2 h3 h4
end Go.Proofs.YthkbckkghnbonaaGreatDoor
namespace Go.Proofs.YthkbckkghnbonaaGreatDoor
open Go.RowKit
set_option linter.unusedVariables false
def imin (a b : Int) : Int := if a < b then a else b
set_option maxRecDepth 100000 in
theorem l1Min_any (a b : Int) (w : World) : Calls Tryz.prog 159 #[.int .i64 a, .int .i64 b] w fun e w' => e = .returned (.int .i64 (imin a b)) ∧ w = w' := by
  by_cases h : a < b
  · rw [show imin a b = a from if_pos h]
    go_enter Tryz.func159, Tryz.ntmps159
    go_wp2
    go_ret
    exact ⟨rfl, rfl⟩
  · rw [show imin a b = b from if_neg h]
    go_enter Tryz.func159, Tryz.ntmps159
    go_wp2
    go_ret
    exact ⟨rfl, rfl⟩
end Go.Proofs.YthkbckkghnbonaaGreatDoor
namespace Go.Proofs.YthkbckkghnbonaaGreatDoor
def eqBy {α : Type} (f : α → α → Bool) (l l' : List α) : Bool := (l.length == l'.length) && (List.zip l l').all (fun p => f p.1 p.2)
def EqUpto {α : Type} (f : α → α → Bool) (l l' : List α) (t : Nat) : Prop := ∀ j, j < t → ∀ x y, l[j]? = some x → l'[j]? = some y → f x y = true
section
variable {α : Type} {f : α → α → Bool} {l l' : List α}
theorem eqBy_len (h : l.length ≠ l'.length) : eqBy f l l' = false := by simp [eqBy, h]
theorem eqBy_f {k : Nat} {x y : α} (hx : l[k]? = some x) (hy : l'[k]? = some y) (h : f x y = false) : eqBy f l l' = false := by
  have hm : (x, y) ∈ List.zip l l' := by
    have : (List.zip l l')[k]? = some (x, y) := by rw [List.getElem?_zip_eq_some]; exact ⟨hx, hy⟩
    exact List.mem_of_getElem? this
  rw [eqBy, Bool.and_eq_false_iff]
  right
  rw [List.all_eq_false]
  exact ⟨_, hm, by simp [h]⟩
theorem eqBy_t {t : Nat} (hl : l.length = l'.length) (h : EqUpto f l l' t) (ht : l.length ≤ t) : eqBy f l l' = true := by
  rw [eqBy, Bool.and_eq_true]
  refine ⟨by simp [hl], List.all_eq_true.2 fun p hp => ?_⟩
  obtain ⟨j, hj⟩ := List.getElem?_of_mem hp
  rw [List.getElem?_zip_eq_some] at hj
  have := (List.getElem?_eq_some_iff.1 hj.1).1
  exact h j (by omega) _ _ hj.1 hj.2
theorem eqUpto_zero : EqUpto f l l' 0 := fun _ h => absurd h (by omega)
theorem eqUpto_step {t : Nat} {x y : α} (h : EqUpto f l l' t) (hx : l[t]? = some x) (hy : l'[t]? = some y) (he : f x y = true) : EqUpto f l l' (t + 1) := by
  intro j hj a b ha hb
  by_cases hjt : j < t
  · exact h j hjt a b ha hb
  · obtain rfl : j = t := by omega
    rw [hx] at ha
    rw [hy] at hb
    injection ha with ha
    injection hb with hb
    subst ha hb
    exact he
theorem eqBy_refl (hf : ∀ x ∈ l, f x x = true) : eqBy f l l = true :=
  eqBy_t rfl (fun j _ x y hx hy => by rw [hx] at hy; injection hy with hy; subst hy; exact hf x (List.mem_of_getElem? hx)) (Nat.le_refl _)
end
/-- Whether two strings are equal, as Go's '==' asks it. -/
def eqSt (a b : ByteArray) : Bool := a.toList == b.toList
theorem toList_data (a : ByteArray) : a.toList = a.data.toList := Lib.toList_data a
theorem eqSt_refl (a : ByteArray) : eqSt a a = true := by simp [eqSt]
theorem eqSt_eq {a b : ByteArray} (h : eqSt a b = true) : a = b := by
  have h' : a.toList = b.toList := by simpa [eqSt] using h
  rw [toList_data, toList_data] at h'
  cases a
  cases b
  simp_all
end Go.Proofs.YthkbckkghnbonaaGreatDoor
namespace Go.Proofs.YthkbckkghnbonaaGreatDoor
open Go.RowKit
theorem quiet_any {P : Program} {f : FuncId} {args : Array Value} {w : World} {n : Nat} {v : Value}
    (h : Calls P f args (w.drewN n) fun e w' => e = .returned v ∧ ∃ m, w' = (w.drewN n).drewN m) : Calls P f args (w.drewN n) fun e w'' => e = .returned v ∧ ∃ m, w'' = w.drewN m :=
  h.mono fun _ _ ⟨he, m, hm⟩ => ⟨he, n + m, by rw [hm, World.drewN_drewN]⟩
theorem quiet_anyAdd {P : Program} {f : FuncId} {args : Array Value} {w : World} {a n : Nat} {v : Value}
    (h : Calls P f args (w.drewN (a + n)) fun e w' => e = .returned v ∧ ∃ m, w' = (w.drewN (a + n)).drewN m) :
    Calls P f args (w.drewN (a + n)) fun e w'' => e = .returned v ∧ ∃ m, w'' = w.drewN (a + m) :=
  h.mono fun _ _ ⟨he, m, hm⟩ => ⟨he, n + m, by rw [hm, World.drewN_drewN, Nat.add_assoc]⟩
theorem drewN2 (w : World) (m n : Nat) : ∃ k, (w.drewN m).drewN n = w.drewN k := ⟨m + n, by rw [World.drewN_drewN]⟩
theorem below_quiet {w w' : World} (h : ∃ m, w' = w.drewN m) : Below w.heap.size w w' ∧ w.heap.size ≤ w'.heap.size := by
  obtain ⟨m, rfl⟩ := h
  exact ⟨below_drewN (Below.refl _ _) m, Nat.le_refl _⟩
end Go.Proofs.YthkbckkghnbonaaGreatDoor
namespace Go.Proofs.YthkbckkghnbonaaGreatDoor
open Go.RowKit
set_option linter.unusedVariables false
set_option maxRecDepth 100000 in
set_option maxHeartbeats 2000000 in
theorem l17Texts_any (A A' : Option Addr) (n n' c c' : Nat) (l l' : List ByteArray) (w : World) (hl : l.length = n) (hl' : l'.length = n') (hn : n ≤ 1099511627776) (h1 : Rd w 1 A n (strs l)) (h2 : Rd w 1 A' n' (strs l')) :
    Calls Tryz.prog 55 #[.slice A n c, .slice A' n' c'] w fun e w' => e = .returned (.bool (eqBy eqSt l l')) ∧ ∃ m, w' = w.drewN m := by
  have HL := Lib.hid hl
  have HL' := Lib.hid hl'
  by_cases hnn : n = n'
  · subst hnn
    have H1 := Lib.hid h1
    have H2 := Lib.hid h2
    clear h1 h2 hl hl'
    go_enter Tryz.func55, Tryz.ntmps55
    go_wp2
    go_loopw [5] (fun i wr => ∃ k : Nat, k ≤ n ∧ i = .int .i64 k ∧ EqUpto eqSt l l' k ∧ ∃ m, wr = w.drewN m) (fun i _ => n - (intOf i).toNat)
    case atStart => exact ⟨0, Nat.zero_le _, rfl, eqUpto_zero, 0, rfl⟩
    case round =>
      obtain ⟨k, hk, rfl, hup, m, rfl⟩ := hrel
      by_cases hlt : k < n
      · have hkl : k < l.length := by rw [HL.out]; exact hlt
        have hkl' : k < l'.length := by rw [HL'.out]; exact hlt
        obtain ⟨g, hg⟩ : ∃ g, l[k]? = some g := ⟨_, List.getElem?_eq_getElem hkl⟩
        obtain ⟨g', hg'⟩ : ∃ g, l'[k]? = some g := ⟨_, List.getElem?_eq_getElem hkl'⟩
        obtain ⟨b, off, rfl, _, hc⟩ := H1.out.2 (by omega)
        obtain ⟨b', off', rfl, _, hc'⟩ := H2.out.2 (by omega)
        have q0 := hc k _ (strs_at hg)
        have q0' := hc' k _ (strs_at hg')
        cases he : eqSt g g'
        · have HF := Lib.hid (eqBy_f hg hg' he)
          have hne : (g.toList == g'.toList) = false := he
          clear hc hc' hg hg' hkl hkl' hup he
          go_wp2_with fail
          go_quiet (fail)
          go_wp2_with fail
          go_ret
          exact ⟨by rw [HF.out]; rfl, (by first | exact ⟨_, rfl⟩ | exact drewN2 _ _ _)⟩
        · have hgg := eqSt_eq he
          subst hgg
          have HU := Lib.hid (eqUpto_step hup hg hg' he)
          clear hc hc' hg hg' hkl hkl' hup he
          go_wp2_with fail
          go_quiet (fail)
          go_wp2_with fail
          go_roundw
          case rel => exact ⟨k + 1, by omega, by go_num, HU.out, (by first | exact ⟨_, rfl⟩ | exact drewN2 _ _ _)⟩
          case measure => simp [intOf]; omega
      · obtain rfl : k = n := by omega
        have HF := Lib.hid (eqBy_t (by rw [HL.out, HL'.out]) hup (by rw [HL.out]; exact Nat.le_refl _))
        go_wp2_with fail
        go_ret
        exact ⟨by rw [HF.out]; rfl, m, rfl⟩
  · have HF := Lib.hid (eqBy_len (f := eqSt) (l := l) (l' := l') (by rw [HL.out, HL'.out]; exact hnn))
    have hne : ((n : Int) != (n' : Int)) = true := by rw [bne_iff_ne]; omega
    clear h1 h2 hl hl'
    go_enter Tryz.func55, Tryz.ntmps55
    go_wp2
    go_ret
    exact ⟨by rw [HF.out]; rfl, 0, rfl⟩
end Go.Proofs.YthkbckkghnbonaaGreatDoor
namespace Go.Proofs.YthkbckkghnbonaaGreatDoor
open Go.RowKit
set_option linter.unusedVariables false
def hasS (l : List ByteArray) (s : ByteArray) : Bool := l.any fun x => eqSt x s
theorem hasS_t {l : List ByteArray} {s x : ByteArray} {t : Nat} (h : l[t]? = some x) (he : eqSt x s = true) : hasS l s = true := List.any_eq_true.2 ⟨x, List.mem_of_getElem? h, he⟩
theorem hasS_step {l : List ByteArray} {s x : ByteArray} {t : Nat} (h : l[t]? = some x) (he : eqSt x s = false) (h0 : hasS (l.take t) s = false) : hasS (l.take (t + 1)) s = false := by
  unfold hasS at h0 ⊢
  rw [List.take_add_one, h]
  simp only [Option.toList_some, List.any_append, h0, List.any_cons, List.any_nil, he]
  rfl
set_option maxRecDepth 100000 in
set_option maxHeartbeats 1000000 in
theorem l1Has_any (A : Option Addr) (n c : Nat) (l : List ByteArray) (s : ByteArray) (w : World) (h : Rd w 1 A n (strs l)) (hl : l.length = n) (hn : n ≤ 1099511627776) :
    Calls Tryz.prog 77 #[.slice A n c, .string s] w fun e w' => e = .returned (.bool (hasS l s)) ∧ w = w' := by
  have H := Lib.hid h
  have HL := Lib.hid hl
  clear h hl
  go_enter Tryz.func77, Tryz.ntmps77
  go_wp2
  go_loop [5] (fun i => ∃ t : Nat, t ≤ n ∧ i = .int .i64 t ∧ hasS (l.take t) s = false) (fun i => n - (intOf i).toNat)
  case atStart => exact ⟨0, Nat.zero_le _, rfl, rfl⟩
  case round =>
    obtain ⟨t, ht, rfl, hok⟩ := hrel
    have HOK := Lib.hid hok
    clear hok
    by_cases hlt : t < n
    · obtain ⟨x, hx⟩ : ∃ x, l[t]? = some x := ⟨_, List.getElem?_eq_getElem (by rw [HL.out]; exact hlt)⟩
      obtain ⟨b, off, rfl, _, hc⟩ := H.out.2 (by omega)
      have q0 := hc t _ (strs_at hx)
      have HX := Lib.hid hx
      clear hc hx
      cases he : eqSt x s
      · have hne : (x.toList == s.toList) = false := he
        have HN := Lib.hid (hasS_step HX.out he HOK.out)
        clear he
        go_wp2_with fail
        go_round
        case rel => exact ⟨t + 1, by omega, by go_num, HN.out⟩
        case measure => simp [intOf]; omega
      · have hne : (x.toList == s.toList) = true := he
        have HF := Lib.hid (hasS_t HX.out he)
        clear he
        go_wp2_with fail
        go_ret
        exact ⟨by rw [HF.out]; rfl, rfl⟩
    · obtain rfl : t = n := by omega
      have HF : Hid (hasS l s = false) := by
        have h := HOK.out
        rw [List.take_of_length_le (by rw [HL.out]; exact Nat.le_refl _)] at h
        exact h
      go_wp2_with fail
      go_ret
      exact ⟨by rw [HF.out]; rfl, rfl⟩
end Go.Proofs.YthkbckkghnbonaaGreatDoor
namespace Go.Proofs.YthkbckkghnbonaaGreatDoor
open Go.RowKit
set_option linter.unusedVariables false
theorem pickedS {w : World} {L : List ByteArray} {b : Nat} (hb : b = w.heap.size) : Rd (w.alloc (.cells (L.map Value.string).toArray 9)) 1 (some ⟨b, 0, none⟩) L.length (L.map Value.string) := by
  have h := rd_lit1 (w := w) (cs := (L.map Value.string).toArray) (e := 9) (n := L.length) (size := 1) hb (by simp)
  simpa using h
/-- A draw of one of some texts. -/
def DSm (L : List ByteArray) (w : World) (p : Nat) (e : Ending) (w' : World) : Prop := ∃ x : ByteArray, x ∈ L ∧ e = .returned (.string x) ∧ CurAt w' p ∧ w.grownBy w' (some p)
set_option maxRecDepth 100000 in
set_option maxHeartbeats 1000000 in
theorem l1Pick_any (b k c : Nat) (L : List ByteArray) (w : World) (p : Nat) (hcur : CurAt w p) (hL : L.length = k) (hk : 0 < k) (hk2 : k ≤ 1000) (hr : Rd w 1 (some ⟨b, 0, none⟩) k (L.map Value.string)) (hne : b ≠ p) : Calls Tryz.prog 91 #[.pointer (some ⟨p, 0, none⟩), .slice (some ⟨b, 0, none⟩) k c] w (DSm L w p) := by
  have HL := Lib.hid hL
  have HR := Lib.hid hr
  clear hL hr
  go_enter Tryz.func91, Tryz.ntmps91
  go_wp2_with fail
  refine (l1Below_any k (k - 1) w p hcur (by omega) (by omega) (by omega)).mono ?_
  rintro e w1 ⟨x, hx0, hx1, rfl, hc1, hg1⟩
  obtain ⟨j, rfl⟩ : ∃ j : Nat, x = j := ⟨x.toNat, by omega⟩
  have hjk : j < k := by omega
  obtain ⟨y, hy⟩ : ∃ y, L[j]? = some y := ⟨_, List.getElem?_eq_getElem (by rw [HL.out]; exact hjk)⟩
  have hq : w1.cell? ⟨b, j, none⟩ = some (.string y) := by
    obtain ⟨b', off, e, hl, hc⟩ := (grown_rd HR.out hg1 (fun _ ad e => by cases e; exact hne)).2 hk
    injection e with e
    injection e with e1 e2
    subst e1 e2
    have := hc j (.string y) (by simp [hy])
    simpa using this
  have HY := Lib.hid (List.mem_of_getElem? hy)
  clear hy
  go_wp2_with fail
  go_ret
  exact ⟨y, HY.out, rfl, hc1, hg1⟩
/-- A drawn text of at most M bytes. -/
def DTx (M : Nat) (w : World) (p : Nat) (e : Ending) (w' : World) : Prop := ∃ x : ByteArray, x.size ≤ M ∧ e = .returned (.string x) ∧ CurAt w' p ∧ w.grownBy w' (some p)
end Go.Proofs.YthkbckkghnbonaaGreatDoor
namespace Go.Proofs.YthkbckkghnbonaaGreatDoor
open Go.RowKit
set_option linter.unusedVariables false
theorem own_ne_typeG {w : World} {base e size n g : Nat} {v : Value} {xs : List Value} {cs : Array Value} {t : TypeId} (h : w.ownsRow base e size v n xs) (hg : w.heap[g]? = some (.cells cs t (0, 0))) (hne : e ≠ t) : v.ownBlock ≠ some g := by
  rcases h.2 with ⟨rfl, _⟩ | ⟨g', cap, cur, rfl, _, hh, _⟩
  · simp [Value.ownBlock]
  · intro he
    have e1 : g' = g := by simpa [Value.ownBlock] using he
    subst e1
    rw [hh] at hg
    injection hg with hg
    injection hg with _ ht
    exact hne ht
theorem heap_set_farG {w : World} {g : Nat} {o : Obj} {p : Addr} (h : w.heap[g]? = some o) (hp : g ≠ p.block) (u : Value) : (w.setCell p u).heap[g]? = some o := (Below.heap_setCell w p u g hp).trans h
theorem heap_set_selfG {w : World} {g i : Nat} {t : TypeId} {cs : Array Value} (h : w.heap[g]? = some (.cells cs t (0, 0))) (u : Value) : (w.setCell ⟨g, i, none⟩ u).heap[g]? = some (.cells (cs.setIfInBounds i u) t (0, 0)) := by
  simp [World.setCell, Array.getElem?_modify, h]
theorem own_setfarG {w : World} {base e size n : Nat} {v : Value} {xs : List Value} (h : w.ownsRow base e size v n xs) {p : Addr} (hp : v.ownBlock ≠ some p.block) (u : Value) : (w.setCell p u).ownsRow base e size v n xs := by
  refine ⟨h.1, ?_⟩
  rcases h.2 with hn | ⟨g, cap, cur, rfl, hb, hh, rest⟩
  · exact .inl hn
  · exact .inr ⟨g, cap, cur, rfl, hb, heap_set_farG hh (fun e => hp (by simp [Value.ownBlock, e])) u, rest⟩
theorem own_drewG {w : World} {base e size n : Nat} {v : Value} {xs : List Value} (h : w.ownsRow base e size v n xs) : w.drew.ownsRow base e size v n xs := h
theorem own_drewNG {w : World} {base e size n : Nat} {v : Value} {xs : List Value} (h : w.ownsRow base e size v n xs) (k : Nat) : (w.drewN k).ownsRow base e size v n xs := h
theorem own_drawG {w1 w2 : World} {B e size n p : Nat} {v : Value} {xs : List Value} (h : w1.ownsRow B e size v n xs) (hg : w1.grownBy w2 (some p)) (hp : p < B) : w2.ownsRow B e size v n xs := h.kept hg (by
  cases hk : v.ownBlock with
  | none => exact .inl rfl
  | some k =>
    refine .inr fun e => ?_
    injection e with e
    have := (h.lt k hk).1
    omega)
theorem cells5G {w w' : World} {b : Nat} {x0 x1 x2 x3 x4 : Value} {t : TypeId} (lay : Below w'.heap.size w' w) (h : w'.heap[b]? = some (.cells #[x0, x1, x2, x3, x4] t (0, 0))) :
    w.cell? ⟨b, 0, none⟩ = some x0 ∧ w.cell? ⟨b, 1, none⟩ = some x1 ∧ w.cell? ⟨b, 2, none⟩ = some x2 ∧ w.cell? ⟨b, 3, none⟩ = some x3 ∧ w.cell? ⟨b, 4, none⟩ = some x4 := by
  have h' : w.heap[b]? = some (.cells #[x0, x1, x2, x3, x4] t (0, 0)) := (lay.block b (lt_of_block h)).trans h
  exact ⟨by simp [World.cell?, h'], by simp [World.cell?, h'], by simp [World.cell?, h'], by simp [World.cell?, h'], by simp [World.cell?, h']⟩
theorem one_strG (a : ByteArray) : ∀ u ∈ [Value.string a], u.oneCell' = true := by
  intro u hu
  rw [List.mem_singleton.1 hu]
  rfl
theorem strs_snocG (l : List ByteArray) (a : ByteArray) : strs (l ++ [a]) = strs l ++ [.string a] := by simp [strs]
theorem strs_oneG : ∀ l : List ByteArray, ∀ u ∈ strs l, u.oneCell' = true := by
  intro l u hu
  obtain ⟨s, _, rfl⟩ := List.mem_map.1 hu
  rfl
theorem RdQ.set_ {w : World} {P : Nat → Prop} {size n : Nat} {A : Option Addr} {xs : List Value} (h : RdQ w P size A n xs) {p : Addr} (hp : ¬ P p.block) (u : Value) : RdQ (w.setCell p u) P size A n xs :=
  h.keep (fun b hb _ => Below.heap_setCell w p u b (fun e => hp (e ▸ hb))) (by simp [World.setCell])
theorem RdQ.below {w w' : World} {P : Nat → Prop} {size n : Nat} {A : Option Addr} {xs : List Value} (h : RdQ w P size A n xs) (hb : Below w.heap.size w w') : RdQ w' P size A n xs :=
  h.keep (fun b _ hlt => hb.block b hlt) hb.size
theorem RdQ.call {w w' : World} {P : Nat → Prop} {size n p : Nat} {A : Option Addr} {xs : List Value} (h : RdQ w P size A n xs) (hg : w.grownBy w' (some p)) (hp : ¬ P p) : RdQ w' P size A n xs :=
  h.keep (fun b hb hlt => hg.block b hlt (fun e => by injection e with e; exact hp (e ▸ hb))) hg.size
theorem TrQ.below {w w' : World} {P : Nat → Prop} {d n : Nat} {A : Option Addr} {l : List (Tr d)} (h : TrQ w P d A n l) (hb : Below w.heap.size w w') : TrQ w' P d A n l :=
  h.keep (fun b _ hlt => hb.block b hlt) hb.size
theorem TrQ.call {w w' : World} {P : Nat → Prop} {d n p : Nat} {A : Option Addr} {l : List (Tr d)} (h : TrQ w P d A n l) (hg : w.grownBy w' (some p)) (hp : ¬ P p) : TrQ w' P d A n l :=
  h.keep (fun b hb hlt => hg.block b hlt (fun e => by injection e with e; exact hp (e ▸ hb))) hg.size
theorem trQ_nil {w : World} {P : Nat → Prop} {A : Option Addr} : ∀ d : Nat, TrQ w P d A 0 []
  | 0 => ⟨rfl, rfl⟩
  | _ + 1 => ⟨rfl, fun h => absurd h (by omega)⟩
theorem rd_drawG {w w' : World} {p size n : Nat} {A : Option Addr} {xs : List Value} (h : Rd w size A n xs) (hg : w.grownBy w' (some p)) (hne : ∀ ad, A = some ad → ad.block ≠ p) : Rd w' size A n xs := grown_rd h hg (fun _ => hne)
theorem heap_topG {w : World} {o : Obj} {n : Nat} (hn : n = w.heap.size) : (w.alloc o).heap[n]? = some o := by subst hn; exact heap_alloc_new w o
theorem heap_pastG {w : World} {o ob : Obj} {n : Nat} (hn : n < w.heap.size) (h : w.heap[n]? = some ob) : (w.alloc o).heap[n]? = some ob := (Below.heap_alloc _ _ _ hn).trans h
theorem rdQ_topG {w : World} {cs : Array Value} {e n size b : Nat} {P : Nat → Prop} (h0 : b = w.heap.size) (hs : cs.size = n * size) (hP : P b) : RdQ (w.alloc (.cells cs e)) P size (some ⟨b, 0, none⟩) n cs.toList := by
  have r := rd_lit1 (e := e) h0 hs
  refine ⟨r.1, fun h => ?_⟩
  obtain ⟨b', off, e, hb, hc⟩ := r.2 h
  injection e with e
  injection e with e1 e2
  subst e1 e2
  exact ⟨b, 0, rfl, hP, hb, hc⟩
theorem wp_name {P : Program} {c : Code} {Q : Exit → Act → World → Prop} {a : Act} {w : World} (h : ∀ wz, wz = w → Code.wp P c Q a wz) : Code.wp P c Q a w := h w rfl
theorem heap_set5 {w : World} {b : Nat} {t : TypeId} {z0 z1 z2 z3 z4 v0 v1 v2 v3 v4 : Value} (h : w.heap[b]? = some (.cells #[z0, z1, z2, z3, z4] t (0, 0))) :
    (((((w.setCell ⟨b, 0, none⟩ v0).setCell ⟨b, 1, none⟩ v1).setCell ⟨b, 2, none⟩ v2).setCell ⟨b, 3, none⟩ v3).setCell ⟨b, 4, none⟩ v4).heap[b]? = some (.cells #[v0, v1, v2, v3, v4] t (0, 0)) :=
  heap_set_selfG (heap_set_selfG (heap_set_selfG (heap_set_selfG (heap_set_selfG h v0) v1) v2) v3) v4
theorem szS_le (m : Nat) : ∀ l : List ByteArray, (∀ s ∈ l, s.size ≤ m) → szS l ≤ l.length * m := by
  intro l
  induction l with
  | nil => intro _; exact Nat.zero_le _
  | cons s l ih =>
    intro h
    have h1 := h s (by simp)
    have h2 := ih (fun x hx => h x (by simp [hx]))
    rw [szS, List.length_cons, Nat.add_mul, Nat.one_mul]
    omega
theorem gname_size (k : Nat) (h : k ≤ 12) : (⟨(gname k).toArray⟩ : ByteArray).size ≤ 4 := by
  have hk : k = 0 ∨ k = 1 ∨ k = 2 ∨ k = 3 ∨ k = 4 ∨ k = 5 ∨ k = 6 ∨ k = 7 ∨ k = 8 ∨ k = 9 ∨ k = 10 ∨ k = 11 ∨ k = 12 := by omega
  rcases hk with rfl | rfl | rfl | rfl | rfl | rfl | rfl | rfl | rfl | rfl | rfl | rfl | rfl <;> decide
/-- The names that a body is drawn over. -/
structure Names (w : World) (p : Nat) (A : Option Addr) (m : Nat) (N : List ByteArray) : Prop where
  rd : Rd w 1 A m (strs N)
  len : N.length = m
  lo : 1 ≤ m
  hi : m ≤ 4
  small : ∀ s ∈ N, s.size ≤ 9
  ne : ∀ ad, A = some ad → ad.block ≠ p
theorem Names.below {w w' : World} {p m : Nat} {A : Option Addr} {N : List ByteArray} (h : Names w p A m N) (hb : Below w.heap.size w w') : Names w' p A m N := ⟨h.rd.below hb, h.len, h.lo, h.hi, h.small, h.ne⟩
theorem Names.call {w w' : World} {p m : Nat} {A : Option Addr} {N : List ByteArray} (h : Names w p A m N) (hg : w.grownBy w' (some p)) : Names w' p A m N := ⟨rd_drawG h.rd hg h.ne, h.len, h.lo, h.hi, h.small, h.ne⟩
theorem Names.fr {w w' : World} {p m : Nat} {A : Option Addr} {N : List ByteArray} (h : Names w p A m N) (hf : Fr w p w') : Names w' p A m N := h.call hf.gr
theorem Names.at_ {w : World} {p m t : Nat} {A : Option Addr} {N : List ByteArray} (h : Names w p A m N) (ht : t < m) : ∃ b off s, A = some ⟨b, off, none⟩ ∧ b < w.heap.size ∧ w.cell? ⟨b, off + t, none⟩ = some (.string s) ∧ s ∈ N ∧ s.size ≤ 9 := by
  obtain ⟨s, hs⟩ : ∃ s, N[t]? = some s := ⟨_, List.getElem?_eq_getElem (by rw [h.len]; exact ht)⟩
  obtain ⟨b, off, e, hb, hc⟩ := h.rd.2 (by omega)
  have hm := List.mem_of_getElem? hs
  exact ⟨b, off, s, e, hb, hc t _ (strs_at hs), hm, h.small s hm⟩
/-- A drawn gate's statement. -/
def DGt (w : World) (p : Nat) (e : Ending) (w' : World) : Prop := ∃ (word : ByteArray) (args : List ByteArray) (Aa : Option Addr) (ca : Nat), e = .returned (.agg #[.int .i64 1, .string word, .slice Aa args.length ca, .int .i64 0, .slice none 0 0]) ∧
  RdQ w' (w.heap.size ≤ ·) 1 Aa args.length (strs args) ∧ (args.length ≤ ca ∧ word.size ≤ 4 ∧ args.length ≤ 3 ∧ szS args ≤ 27) ∧ CurAt w' p ∧ w.grownBy w' (some p)
end Go.Proofs.YthkbckkghnbonaaGreatDoor
