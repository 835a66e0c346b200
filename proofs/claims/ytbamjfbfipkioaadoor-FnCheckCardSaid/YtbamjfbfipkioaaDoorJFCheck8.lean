/- What the calls that this law reaches answer, part 8 of 30. -/
import Derived.Test.YtbamjfbfipkioaaDoorJFCheck7
import Derived.Test.YtbamjfbfipkioaaDoorJFCheck6
namespace Go.Proofs.YtbamjfbfipkioaaDoor
open Go.RowKit
set_option linter.unusedVariables false
theorem l20Stmt_in (d : Nat) (k : Int) (hk : 1 ≤ k ∧ k ≤ 7) (word : ByteArray) (args names held : List ByteArray) (count : Int) (bd : List (Tr d)) (Aa : Option Addr) (m ca : Nat) (Ac : Option Addr) (nc cc E : Nat) (An Ah Ab : Option Addr) (nn cn nh ch nb cb : Nat) (w : World)
    (hx : w.heap[E]? = some (.cells #[.slice An nn cn, .slice Ah nh ch, .bool true, .slice Ab nb cb] 71 (0, 0))) (hm : args.length = m) (hra : Rd w 1 Aa m (strs args)) (hca : m ≤ ca) (hnn : names.length = nn) (hrn : Rd w 1 An nn (strs names)) (hnh : held.length = nh) (hrh : Rd w 1 Ah nh (strs held)) (h1 : m ≤ 1048576) (h2 : nn ≤ 4) (h3 : nh + m + szT d bd ≤ 1048576)
    (hv : vOne d (validT d) ⟨k, word, args, count⟩ bd = true) (hbody : BodyS d bd w Ac nc cc) :
    Calls Tryd.prog 57 #[.agg #[.int .i64 k, .string word, .slice Aa m ca, .int .i64 count, .slice Ac nc cc], .pointer (some ⟨E, 0, none⟩)] w (RetBadA (oneN ⟨k, word, args, count⟩ (chkN d bd) names held) w) := by
  have h : k = 1 ∨ k = 2 ∨ k = 3 ∨ k = 4 ∨ k = 5 ∨ k = 6 ∨ k = 7 := by omega
  rcases h with rfl | rfl | rfl | rfl | rfl | rfl | rfl
  · exact l20Stmt_1 d word args names held count bd Aa m ca Ac nc cc E An Ah Ab nn cn nh ch nb cb true w hx hm hra hca hnn hrn hnh hrh h1 h2 h3 hv hbody
  · exact l20Stmt_2 d word args names held count bd Aa m ca Ac nc cc E An Ah Ab nn cn nh ch nb cb true w hx hm hra hca hnn hrn hnh hrh h1 h2 h3 hv hbody
  · exact l20Stmt_3 d word args names held count bd Aa m ca Ac nc cc E An Ah Ab nn cn nh ch nb cb true w hx hm hra hca hnn hrn hnh hrh h1 h2 h3 hv hbody
  · exact l20Stmt_4 d word args names held count bd Aa m ca Ac nc cc E An Ah Ab nn cn nh ch nb cb true w hx hm hra hca hnn hrn hnh hrh h1 h2 h3 hv hbody
  · exact l20Stmt_5 d word args names held count bd Aa m ca Ac nc cc E An Ah Ab nn cn nh ch nb cb true w hx hm hra hca hnn hrn hnh hrh h1 h2 h3 hv hbody
  · exact l20Stmt_6 d word args names held count bd Aa m ca Ac nc cc E An Ah Ab nn cn nh ch nb cb w hx hm hra hca hnn hrn hnh hrh h1 h2 h3 hv hbody
  · exact l20Stmt_7 d word args names held count bd Aa m ca Ac nc cc E An Ah Ab nn cn nh ch nb cb w hx hm hra hca hnn hrn hnh hrh h1 h2 h3 hv hbody
def AllSaidN (d : Nat) : Prop := ∀ (lo : Nat) (A : Option Addr) (n c : Nat) (l : List (Tr d)) (E : Nat) (An : Option Addr) (nn cn : Nat) (Ah : Option Addr) (nh ch : Nat) (Ab : Option Addr) (nb cb : Nat) (names held : List ByteArray) (w : World), RdT w lo d A n l →
  w.heap[E]? = some (.cells #[.slice An nn cn, .slice Ah nh ch, .bool true, .slice Ab nb cb] 71 (0, 0)) → Rd w 1 An nn (strs names) → Rd w 1 Ah nh (strs held) → names.length = nn → held.length = nh → nn ≤ 4 → nh + szT d l ≤ 1048576 → validT d l = true →
  Calls Tryd.prog 41 #[.slice A n c, .pointer (some ⟨E, 0, none⟩)] w (RetBadA (chkN d l names held) w)
theorem bodyS_of {d lo : Nat} (h : AllSaidN d) {bd : List (Tr d)} {w : World} {Ac : Option Addr} {nc : Nat} (cc : Nat) (hr : RdT w lo d Ac nc bd) (hv : validT d bd = true) : BodyS d bd w Ac nc cc :=
  fun E An nn cn Ah nh ch Ab nb cb names held w' hb hx h1 h2 h3 h4 h5 h6 => h lo Ac nc cc bd E An nn cn Ah nh ch Ab nb cb names held w' (hr.below hb) hx h1 h2 h3 h4 h5 h6 hv
theorem firstB_at {L : List Bad} {t : Nat} {c : Bad} (h : L[t]? = some c) (hz : ∀ x ∈ L.take t, x.1 = 0) (hc : c.1 ≠ 0) : firstB L = c := firstB_take h (firstB_zero hz) hz hc
theorem take_zero {L : List Bad} {t : Nat} {c : Bad} (h : L[t]? = some c) (hz : ∀ x ∈ L.take t, x.1 = 0) (hc : c.1 = 0) : ∀ x ∈ L.take (t + 1), x.1 = 0 := by
  intro x hx
  rw [List.take_add_one, h] at hx
  rcases List.mem_append.1 hx with hx | hx
  · exact hz x hx
  · simp at hx
    rw [hx]
    exact hc
set_option maxRecDepth 100000 in
set_option maxHeartbeats 4000000 in
theorem l20All_in : ∀ (d : Nat), AllSaidN d := by
  intro d
  induction d with
  | zero =>
    intro lo A n c l E An nn cn Ah nh ch Ab nb cb names held w h hx _ _ _ _ _ _ _
    obtain rfl := szT_zero_len h
    go_enter Tryd.func41, Tryd.ntmps41
    go_wp2
    refine wp_loop_rounds 1 ?_
    rw [rounds_succ]
    go_wp2
    exact bodyPost_ret (v := .agg #[.int .i64 0, .string ⟨#[]⟩]) (by simp [results, Tryd.results41, go_sem]) rfl ⟨rfl, (by repeat (first | exact Below.refl _ _ | assumption | (refine Below.trans ?_ (Below.mono (by assumption) (by first | omega | (simp; done) | (simp; omega)))) | (with_reducible refine Below.drew ?_) | (with_reducible refine Below.alloc ?_ (by first | omega | (simp; done) | (simp; omega)) _) | (with_reducible refine Below.setCell ?_ (by first | omega | (simp; done) | (simp; omega)) _))), (by first | omega | (simp; done) | (simp; omega))⟩
  | succ d ih =>
    intro lo A n c l E An nn cn Ah nh ch Ab nb cb names held w h hx hrn hrh hnn hnh h4 hsz hv
    have hq := hsz
    rw [szT_succ] at hq
    have hln := h.len
    have hn : n ≤ 1048576 := by omega
    obtain ⟨L, hL⟩ : ∃ L, L = l.map fun s => oneN (hdT s) (chkN d (bdT s)) names held := ⟨_, rfl⟩
    have HRES : Hid (chkN (d + 1) l names held = firstB L) := by rw [hL]; exact rfl
    obtain ⟨w0, hw0⟩ : ∃ w0, w0 = w.alloc (.cells #[.int .i64 0, .string ⟨#[]⟩] 67) := ⟨_, rfl⟩
    have X0 := Lib.hid (show w0.heap[w.heap.size]? = some (.cells #[.int .i64 0, .string ⟨#[]⟩] 67 (0, 0)) by rw [hw0]; exact boxed1_0 _ _)
    have b0 : Below w.heap.size w w0 := by rw [hw0]; exact (by repeat (first | exact Below.refl _ _ | assumption | (refine Below.trans ?_ (Below.mono (by assumption) (by first | omega | (simp; done) | (simp; omega)))) | (with_reducible refine Below.drew ?_) | (with_reducible refine Below.alloc ?_ (by first | omega | (simp; done) | (simp; omega)) _) | (with_reducible refine Below.setCell ?_ (by first | omega | (simp; done) | (simp; omega)) _)))
    have hz0 : w.heap.size < w0.heap.size := by rw [hw0]; simp
    have HW := Lib.hid hw0
    have H := Lib.hid h
    have HLN := Lib.hid hln
    have HL := Lib.hid hL
    have XE := Lib.hid hx
    have HN := Lib.hid hrn
    have HH := Lib.hid hrh
    have HNN := Lib.hid hnn
    have HNH := Lib.hid hnh
    have HQ := Lib.hid hq
    have HV := Lib.hid hv
    have IH := Lib.hid ih
    have B0 := Lib.hid b0
    clear h hln hL hx hrn hrh hnn hnh hsz hq hv ih hw0 b0
    go_enter Tryd.func41, Tryd.ntmps41
    go_wp2_with fail
    rw [← HW.out]
    go_loopw [5] (fun i wr => ∃ t : Nat, t ≤ n ∧ i = .int .i64 t ∧ Hid (∀ x ∈ L.take t, x.1 = 0) ∧ Below w0.heap.size w0 wr) (fun i _ => n - (intOf i).toNat)
    case atStart => exact ⟨0, Nat.zero_le _, rfl, fun x hx => by simp at hx, Below.refl _ _⟩
    case round =>
      obtain ⟨t, ht, rfl, hzs, hb⟩ := hrel
      have hbs := hb.size
      by_cases hlt : t < n
      · have hbw : Below w.heap.size w wr := B0.out.trans (hb.mono (by omega))
        obtain ⟨b, off, s, Aa, ca, Ac, nc, cc, rfl, hbl, hs, ⟨c0, c1, c2, c3, c4⟩, ha, hbd, hcap⟩ := (H.out.below hbw).at_c hlt
        have hme := szT_mem hs
        have hze : szE s = (hdT s).word.size + ((hdT s).args.length + szS (hdT s).args + szT d (bdT s)) := rfl
        have hq := HQ.out
        have hvs := validT_mem HV.out hs
        obtain ⟨hk, _, hvb⟩ := vOne_facts hvs
        have HC := Lib.hid (l20Stmt_in d (hdT s).k hk (hdT s).word (hdT s).args names held (hdT s).count (bdT s) Aa _ ca Ac nc cc E An Ah Ab nn cn nh ch nb cb wr ((hbw.block E (lt_of_block XE.out)).trans XE.out) rfl ha.rd hcap HNN.out (HN.out.below hbw) HNH.out (HH.out.below hbw) (by omega) h4 (by omega) hvs (bodyS_of IH.out cc hbd hvb))
        obtain ⟨cc', hcc⟩ : ∃ c', c' = oneN (hdT s) (chkN d (bdT s)) names held := ⟨_, rfl⟩
        have HC2 : Hid (Calls Tryd.prog 57 #[.agg #[.int .i64 (hdT s).k, .string (hdT s).word, .slice Aa (hdT s).args.length ca, .int .i64 (hdT s).count, .slice Ac nc cc], .pointer (some ⟨E, 0, none⟩)] wr (RetBadA cc' wr)) := by
          rw [hcc]
          exact HC.out
        have HAT : Hid (L[t]? = some cc') := by
          rw [HL.out, List.getElem?_map, hs, hcc]
          exact rfl
        clear hs ha hbd hcap hme hze hq hvs hk hvb HC hcc
        go_wp2_with fail
        refine HC2.out.mono ?_
        rintro e w1 ⟨rfl, b1, s1⟩
        have bb := hb.trans (b1.mono hbs)
        obtain ⟨k0, k1⟩ := boxc2 (lay := bb) X0.out
        have f0 := boxfree bb X0.out 0
        have f1 := boxfree bb X0.out 1
        have hl1 : w.heap.size < w1.heap.size := by omega
        clear c0 c1 c2 c3 c4
        by_cases hc0 : cc'.1 = 0
        · have HZ := Lib.hid (take_zero HAT.out hzs.out hc0)
          have hne : (cc'.1 != 0) = false := by simp [hc0]
          have HC0 := Lib.hid hc0
          clear hc0
          go_wp2_with fail
          go_roundw
          case rel => exact ⟨t + 1, by omega, by go_num, HZ, bb.alloc (by omega) _⟩
          case measure => simp [intOf]; omega
        · have HF := Lib.hid (HRES.out.trans (firstB_at HAT.out hzs.out hc0))
          have hne : (cc'.1 != 0) = true := by rw [bne_iff_ne]; exact hc0
          clear hc0
          go_wp2_with fail
          exact bodyPost_ret (v := .agg #[.int .i64 cc'.1, .string cc'.2]) (by simp [results, Tryd.results41, go_sem, k0, k1, hl1]) rfl ⟨by rw [HF.out], (((B0.out.trans (bb.mono (by omega))).setCell (Nat.le_refl _) _).setCell (Nat.le_refl _) _).alloc (by rw [size_setCell, size_setCell]; omega) _, by simp [World.setCell]; omega⟩
      · obtain rfl : t = n := by omega
        have HF : Hid (chkN (d + 1) l names held = bad0) := by
          rw [HRES.out]
          refine firstB_zero ?_
          have := hzs.out
          rwa [List.take_of_length_le (by rw [HL.out, List.length_map, HLN.out]; exact Nat.le_refl _)] at this
        obtain ⟨k0, k1⟩ := boxc2 (lay := hb) X0.out
        have f0 := boxfree hb X0.out 0
        have f1 := boxfree hb X0.out 1
        have hl1 : w.heap.size < wr.heap.size := by omega
        go_wp2_with fail
        exact bodyPost_ret (v := .agg #[.int .i64 0, .string ⟨#[]⟩]) (by simp [results, Tryd.results41, go_sem, k0, k1]) rfl ⟨by rw [HF.out]; rfl, ((B0.out.trans (hb.mono (by omega))).setCell (by simp) _).setCell (by simp) _, by simp [World.setCell]; omega⟩
end Go.Proofs.YtbamjfbfipkioaaDoor
namespace Go.Proofs.YtbamjfbfipkioaaDoor
open Go.RowKit
set_option linter.unusedVariables false
theorem Mod.drewN {X : Nat} {r : Option Nat} {w w' : World} (h : Mod X r w w') (k : Nat) : Mod X r w (w'.drewN k) := ⟨h.os, h.tape, h.output, h.size, h.block⟩
/-- The reference's environment at the top: its block, and the bits that it knows, a row of its own. -/
structure EvS (w : World) (base E : Nat) (An : Option Addr) (nn cn : Nat) (bits : List ByteArray) (v : Value) : Prop where
  x : w.heap[E]? = some (.cells #[.slice An nn cn, .slice none 0 0, .bool false, v] 71 (0, 0))
  o : w.ownsRow base 9 1 v bits.length (strs bits)
theorem EvS.below {w w' : World} {base E : Nat} {An : Option Addr} {nn cn : Nat} {bits : List ByteArray} {v : Value} (h : EvS w base E An nn cn bits v) (hb : Below w.heap.size w w') : EvS w' base E An nn cn bits v :=
  ⟨(hb.block _ (lt_of_block h.x)).trans h.x, ownsRow_below h.o hb⟩
theorem EvS.drewN {w : World} {base E : Nat} {An : Option Addr} {nn cn : Nat} {bits : List ByteArray} {v : Value} (h : EvS w base E An nn cn bits v) (k : Nat) : EvS (w.drewN k) base E An nn cn bits v := ⟨h.x, h.o⟩
theorem EvS.set {w : World} {base E : Nat} {An : Option Addr} {nn cn : Nat} {bits : List ByteArray} {v : Value} (h : EvS w base E An nn cn bits v) {p : Addr} (h1 : E ≠ p.block) (h2 : v.ownBlock ≠ some p.block) (u : Value) : EvS (w.setCell p u) base E An nn cn bits v :=
  ⟨heap_set_far h.x h1 u, own_setfarM h.o h2 u⟩
def RetMS (base E : Nat) (An : Option Addr) (nn cn : Nat) (v : Value) (r : Bad × List ByteArray) (w : World) (e : Ending) (w' : World) : Prop :=
  ∃ v', e = .returned (.agg #[.int .i64 r.1.1, .string r.1.2]) ∧ EvS w' base E An nn cn r.2 v' ∧ Mod E v.ownBlock w w' ∧ Grew v.ownBlock w.heap.size v'.ownBlock
theorem Grew.weakV {r r' : Option Nat} {z z' : Nat} (h : Grew r z r') (hz : z' ≤ z) : Grew r z' r' := by
  rcases h with h | ⟨k, h, hk⟩
  · exact .inl h
  · exact .inr ⟨k, h, Nat.le_trans hz hk⟩
theorem rnil (w : World) : Rd w 1 none 0 (strs []) := ⟨rfl, fun h => absurd h (by decide)⟩
theorem own_drewNV {w : World} {base e size n : Nat} {v : Value} {xs : List Value} (h : w.ownsRow base e size v n xs) (k : Nat) : (w.drewN k).ownsRow base e size v n xs := h
theorem one_strV (a : ByteArray) : ∀ u ∈ [Value.string a], u.oneCell' = true := by
  intro u hu
  simp at hu
  subst hu
  rfl
set_option maxRecDepth 100000 in
set_option maxHeartbeats 8000000 in
theorem l20Measure_top (word : ByteArray) (args : List ByteArray) (count : Int) (Aa : Option Addr) (m ca : Nat) (Ac : Option Addr) (nc cc : Nat) (An : Option Addr) (nn cn base E : Nat) (names bits : List ByteArray) (v : Value) (a c : ByteArray) (w : World)
    (hev : EvS w base E An nn cn bits v) (hbase : base ≤ w.heap.size) (hb3 : bits.length ≤ 3) (hm : args.length = m) (hra : Rd w 1 Aa m (strs args)) (hca : m ≤ ca) (h2 : 2 ≤ m) (h1 : m ≤ 1048576) (ha : args[0]? = some a) (hc : args[1]? = some c) (hnn : names.length = nn) (hrn : Rd w 1 An nn (strs names)) (h4 : nn ≤ 1048576) :
    Calls Tryd.prog 70 #[.agg #[.int .i64 6, .string word, .slice Aa m ca, .int .i64 count, .slice Ac nc cc], .pointer (some ⟨E, 0, none⟩)] w (RetMS base E An nn cn v (measT names bits a c) w) := by
  obtain ⟨i0, hi, hzi0, hzi1, hzi2⟩ := info_parts info_str
  obtain ⟨A, cb, rfl, hcap, _, _⟩ := rd_of_own hev.o
  obtain ⟨b, off, rfl, hbw, hcl⟩ := hra.2 (by omega)
  obtain ⟨w0, hw0⟩ : ∃ w0, w0 = (w.alloc (.cells #[.int .i64 6, .string word, .slice (some ⟨b, off, none⟩) m ca, .int .i64 count, .slice Ac nc cc] 27)).alloc (.cells #[.int .i64 0, .string ⟨#[]⟩] 67) := ⟨_, rfl⟩
  have X0 := Lib.hid (show w0.heap[w.heap.size]? = some (.cells #[.int .i64 6, .string word, .slice (some ⟨b, off, none⟩) m ca, .int .i64 count, .slice Ac nc cc] 27 (0, 0)) by rw [hw0]; exact boxed2_0 _ _ _)
  have X1 := Lib.hid (show w0.heap[w.heap.size + 1]? = some (.cells #[.int .i64 0, .string ⟨#[]⟩] 67 (0, 0)) by rw [hw0]; exact boxed2_1 _ _ _)
  have b0 : Below w.heap.size w w0 := by rw [hw0]; exact (by repeat (first | exact Below.refl _ _ | assumption | (refine Below.trans ?_ (Below.mono (by assumption) (by first | omega | (simp; done) | (simp; omega)))) | (with_reducible refine Below.drew ?_) | (with_reducible refine Below.alloc ?_ (by first | omega | (simp; done) | (simp; omega)) _) | (with_reducible refine Below.setCell ?_ (by first | omega | (simp; done) | (simp; omega)) _)))
  have hz1 : w.heap.size + 1 < w0.heap.size := by rw [hw0]; simp
  have hz0 : w.heap.size < w0.heap.size := by omega
  have hbl : b < w0.heap.size := by omega
  have r0 := hcl 0 _ (strs_at ha)
  have r1 := hcl 1 _ (strs_at hc)
  rw [Nat.add_zero, ← b0.cell (p := ⟨b, off, none⟩) hbw] at r0
  rw [← b0.cell (p := ⟨b, off + 1, none⟩) hbw] at r1
  have hxw : E < w.heap.size := lt_of_block hev.x
  have hvl : ∀ k, (Value.slice A bits.length cb).ownBlock = some k → k < w.heap.size := fun k e => (hev.o.lt k e).2
  have VN : Hid ((Value.slice A bits.length cb).ownBlock ≠ some (w.heap.size + 1)) := fun e => by have := hvl _ e; omega
  have HW := Lib.hid hw0
  have B0 := Lib.hid b0
  have HN := Lib.hid (hrn.below b0)
  have HNN := Lib.hid hnn
  have EV := Lib.hid (hev.below b0)
  have al : ∀ (W : World) (ob : Obj), Below W.heap.size W (W.alloc ob) := fun W ob => (Below.refl _ _).alloc (Nat.le_refl _) _
  have AL := Lib.hid al
  have hm3 : (0 : Int) < (m : Int) := by omega
  have hm4 : (1 : Int) < (m : Int) := by omega
  have hm2 : 0 < m := by omega
  have hm5 : 1 < m := by omega
  obtain ⟨e0, e1, e2, e3⟩ := boxcells4' (lay := Below.refl _ _) EV.out.x
  obtain ⟨p0, p1, p2, p3, p4⟩ := boxcells5 (lay := Below.refl _ _) X0.out
  obtain ⟨k0, k1⟩ := boxc2 (lay := Below.refl _ _) X1.out
  have f0 := boxfree (Below.refl _ _) X1.out 0
  have f1 := boxfree (Below.refl _ _) X1.out 1
  have hE0 : E < w0.heap.size := by omega
  have KS : Hid (∀ W : World, Below (w.heap.size + 1) w0 W → (W.cell? ⟨E, 0, none⟩ = some (.slice An nn cn) ∧ W.cell? ⟨E, 1, none⟩ = some (.slice none 0 0) ∧ W.cell? ⟨E, 2, none⟩ = some (.bool false) ∧ W.cell? ⟨E, 3, none⟩ = some (.slice A bits.length cb) ∧ W.cell? ⟨w.heap.size, 2, none⟩ = some (.slice (some ⟨b, off, none⟩) m ca) ∧ W.cell? ⟨b, off, none⟩ = some (.string a))) := fun W hW =>
    ⟨(hW.cell (p := ⟨E, 0, none⟩) (by show E < _; omega)).trans e0, (hW.cell (p := ⟨E, 1, none⟩) (by show E < _; omega)).trans e1, (hW.cell (p := ⟨E, 2, none⟩) (by show E < _; omega)).trans e2, (hW.cell (p := ⟨E, 3, none⟩) (by show E < _; omega)).trans e3, (hW.cell (p := ⟨w.heap.size, 2, none⟩) (by show w.heap.size < _; omega)).trans p2, (hW.cell (p := ⟨b, off, none⟩) (by show b < _; omega)).trans r0⟩
  have R1 := Lib.hid r1
  obtain ⟨z, hzd⟩ : ∃ z, z = argBad names [] a := ⟨_, rfl⟩
  have HC := Lib.hid hzd
  clear hcl ha hc hm hra hev hrn hnn hw0 b0 hvl al hzd r1
  go_enter Tryd.func70, Tryd.ntmps70
  go_upto_region 1 with (fail)
  rw [← HW.out]
  go_wp2_with fail
  go_region_held3 (fun W => W.cell? ⟨E, 0, none⟩ = some (.slice An nn cn) ∧ W.cell? ⟨E, 1, none⟩ = some (.slice none 0 0) ∧ W.cell? ⟨E, 2, none⟩ = some (.bool false) ∧ W.cell? ⟨E, 3, none⟩ = some (.slice A bits.length cb) ∧ W.cell? ⟨w.heap.size, 2, none⟩ = some (.slice (some ⟨b, off, none⟩) m ca) ∧ W.cell? ⟨b, off, none⟩ = some (.string a)) ((refine KS.out _ ?_; first | exact Below.refl _ _ | exact (Below.refl _ _).drew | exact Below.mono b1 (by omega) | exact ((Below.refl w0.heap.size w0).drew.alloc (Nat.le_refl _) _).mono (by omega) | exact (b1.alloc b1.size _).mono (by omega) | exact ((b1.mono (by omega)).setCell (by simp; omega) _).setCell (by simp; omega) _)) (first | (go_at_call 68; (with_reducible refine (l20Arg_any a names [] An none A nn cn 0 0 bits.length cb false _ HNN.out (by first | exact HN.out.drew | exact HN.out.drew.below (AL.out _ _)) rfl (rnil _) (by omega) (by omega)).mono ?_); rintro e w1 ⟨rfl, b1d, s1d⟩; rw [← HC.out]; first | (have b1 : Below w0.heap.size w0 w1 := below_undrewC b1d) | (have b1 : Below w0.heap.size w0 w1 := ((Below.refl _ _).drew.alloc (Nat.le_refl _) _).trans (b1d.mono (by simp)); obtain ⟨y0, y1⟩ : w1.cell? ⟨w0.heap.size, 0, none⟩ = some (.int .i64 0) ∧ w1.cell? ⟨w0.heap.size, 1, none⟩ = some (.string ⟨#[]⟩) := boxc2 (lay := b1d) (heap_alloc_new w0.drew (.cells #[.int .i64 0, .string ⟨#[]⟩] 67)); have y2 : w1.frozen? ⟨w0.heap.size, 0, none⟩ = false := boxfree b1d (heap_alloc_new w0.drew (.cells #[.int .i64 0, .string ⟨#[]⟩] 67)) 0; have y3 : w1.frozen? ⟨w0.heap.size, 1, none⟩ = false := boxfree b1d (heap_alloc_new w0.drew (.cells #[.int .i64 0, .string ⟨#[]⟩] 67)) 1; have y6 : w1.heap[w0.heap.size]? = some (.cells #[.int .i64 0, .string ⟨#[]⟩] 67 (0, 0)) := (b1d.block _ (by simp)).trans (heap_alloc_new w0.drew _); have y4 : w0.heap.size < w1.heap.size := lt_of_block y6)))
  all_goals
    have hs1 := b1.size
    first
    | (have y5 := y4
       obtain ⟨G, hGe⟩ : ∃ G, G = w0.heap.size := ⟨_, rfl⟩
       obtain ⟨wy, hwy⟩ : ∃ wy, wy = (w1.setCell ⟨w0.heap.size, 0, none⟩ (.int .i64 z.1)).setCell ⟨w0.heap.size, 1, none⟩ (.string z.2) := ⟨_, rfl⟩
       have hxy : wy.heap[G]? = some (.cells #[.int .i64 z.1, .string z.2] 67 (0, 0)) := by rw [hwy, hGe]; exact heap_set_self (heap_set_self y6 _) _
       have by2 : Below w0.heap.size w0 wy := by rw [hwy]; exact (b1.setCell (Nat.le_refl _) _).setCell (Nat.le_refl _) _
       rw [← hwy, ← hGe]
       clear hwy hGe y0 y1 y2 y3 y4 y5 y6)
    | (obtain ⟨G, hGe⟩ : ∃ G, G = w1.heap.size := ⟨_, rfl⟩
       obtain ⟨wy, hwy⟩ : ∃ wy, wy = w1.alloc (.cells #[.int .i64 z.1, .string z.2] 67) := ⟨_, rfl⟩
       have hxy : wy.heap[G]? = some (.cells #[.int .i64 z.1, .string z.2] 67 (0, 0)) := by rw [hwy, hGe]; exact heap_alloc_new _ _
       have by2 : Below w0.heap.size w0 wy := by rw [hwy]; exact b1.alloc hs1 _
       rw [← hwy, ← hGe]
       clear hwy hGe)
    clear b1 hs1 b1d s1d e0 e1 e2 e3 p0 p1 p2 p3 p4 k0 k1 f0 f1
    have hsy := by2.size
    have hgl := lt_of_block hxy
    obtain ⟨z0, z1⟩ := boxc2 (lay := Below.refl _ _) hxy
    obtain ⟨e0, e1, e2', e3'⟩ := boxcells4' (lay := by2) EV.out.x
    obtain ⟨p0, p1, p2, p3, p4⟩ := boxcells5 (lay := by2) X0.out
    obtain ⟨k0, k1⟩ := boxc2 (lay := by2) X1.out
    have f0 := boxfree by2 X1.out 0
    have f1 := boxfree by2 X1.out 1
    have hl1 : w.heap.size + 1 < wy.heap.size := by omega
    have r1 := (by2.cell (p := ⟨b, off + 1, none⟩) hbl).trans R1.out
    have HNY := Lib.hid (HN.out.below by2)
    have EVY := Lib.hid (EV.out.below by2)
    have HRY := Lib.hid (rd_own EVY.out.o)
    have MY : Hid (Mod E (Value.slice A bits.length cb).ownBlock w wy) := (Mod.of_below E _ B0.out).trans (Mod.of_below E _ by2) (.inl rfl)
    have KY := Lib.hid ((by2.block (w.heap.size + 1) hz1).trans X1.out)
    clear r0 hxy by2
    cases e1 : hasS names a
    · have hzz : z = (2, a) := by rw [HC.out, argBad, if_pos e1]
      subst hzz
      have HS : Hid (measT names bits a c = ((2, a), bits)) := by rw [measT, if_pos e1]; exact rfl
      have z0' : wy.cell? ⟨G, 0, none⟩ = some (.int .i64 2) := z0
      have z1' : wy.cell? ⟨G, 1, none⟩ = some (.string a) := z1
      clear z0 z1
      go_wp2_with fail
      exact bodyPost_ret (v := .agg #[.int .i64 2, .string a]) (by simp [results, Tryd.results70, go_sem, k0, k1]) rfl ⟨_, by rw [HS.out], by rw [HS.out]; exact (EVY.out.set (by dsimp only; omega) (by dsimp only; exact VN.out) _).set (by dsimp only; omega) (by dsimp only; exact VN.out) _, (MY.out.set (.inr (by simp)) _).set (.inr (by simp)) _, .inl rfl⟩
    · have hzz : z = bad0 := by rw [HC.out, argBad, if_neg (by rw [e1]; decide)]; exact rfl
      subst hzz
      have z0' : wy.cell? ⟨G, 0, none⟩ = some (.int .i64 0) := z0
      have z1' : wy.cell? ⟨G, 1, none⟩ = some (.string ⟨#[]⟩) := z1
      clear z0 z1
      go_wp2_with fail
      clear z0' z1'
      cases e2 : hasS names c
      · cases e3 : hasS bits c
        · by_cases h3 : bits.length = 3
          · have HS : Hid (measT names bits a c = ((8, c), bits)) := by rw [measT, if_neg (by rw [e1]; decide), if_neg (by rw [e2]; decide), if_neg (by rw [e3]; decide), if_pos h3]; exact rfl
            have d3 : ((bits.length : Int) == 3) = true := by simp; omega
            have H3 := Lib.hid h3
            clear h3
            have HB : Hid (∀ (S : Value) (r : Bool) (k : Nat), ((S = .slice An nn cn ∧ r = false) ∨ (S = .slice A bits.length cb ∧ r = false)) → Calls Tryd.prog 40 #[S, .string c] (wy.drewN k) fun e W => e = .returned (.bool r) ∧ W = wy.drewN k) := by
              rintro S r k (⟨rfl, rfl⟩ | ⟨rfl, rfl⟩)
              · exact (l1Has_any An nn cn names c _ (HNY.out.drewN k) HNN.out (by omega)).mono fun e W h => ⟨h.1.trans (by rw [e2]), h.2.symm⟩
              · exact (l1Has_any A bits.length cb bits c _ (HRY.out.drewN k) rfl (by omega)).mono fun e W h => ⟨h.1.trans (by rw [e3]), h.2.symm⟩
            go_quiet ((go_at_call 40; exact Calls.quiet_of_same (HB.out _ _ _ (by first | exact Or.inl ⟨rfl, rfl⟩ | exact Or.inr ⟨rfl, rfl⟩))))
            go_wp2_with fail
            exact bodyPost_ret (v := .agg #[.int .i64 8, .string c]) (by simp [results, Tryd.results70, go_sem, k0, k1]) rfl ⟨_, by rw [HS.out], by rw [HS.out]; exact ((EVY.out.drewN _).set (by dsimp only; omega) (by dsimp only; exact VN.out) _).set (by dsimp only; omega) (by dsimp only; exact VN.out) _, ((MY.out.drewN _).set (.inr (by simp)) _).set (.inr (by simp)) _, .inl rfl⟩
          · have HS : Hid (measT names bits a c = (bad0, bits ++ [c])) := by rw [measT, if_neg (by rw [e1]; decide), if_neg (by rw [e2]; decide), if_neg (by rw [e3]; decide), if_neg h3]; exact rfl
            have d3 : ((bits.length : Int) == 3) = false := by rw [beq_eq_false_iff_ne]; omega
            have hb2 : bits.length ≤ 2 := by omega
            have H3 := Lib.hid h3
            clear h3
            have HB : Hid (∀ (S : Value) (r : Bool) (k : Nat), ((S = .slice An nn cn ∧ r = false) ∨ (S = .slice A bits.length cb ∧ r = false)) → Calls Tryd.prog 40 #[S, .string c] (wy.drewN k) fun e W => e = .returned (.bool r) ∧ W = wy.drewN k) := by
              rintro S r k (⟨rfl, rfl⟩ | ⟨rfl, rfl⟩)
              · exact (l1Has_any An nn cn names c _ (HNY.out.drewN k) HNN.out (by omega)).mono fun e W h => ⟨h.1.trans (by rw [e2]), h.2.symm⟩
              · exact (l1Has_any A bits.length cb bits c _ (HRY.out.drewN k) rfl (by omega)).mono fun e W h => ⟨h.1.trans (by rw [e3]), h.2.symm⟩
            go_quiet ((go_at_call 40; exact Calls.quiet_of_same (HB.out _ _ _ (by first | exact Or.inl ⟨rfl, rfl⟩ | exact Or.inr ⟨rfl, rfl⟩))))
            go_wp2_with fail
            have hEy : E < wy.heap.size := by omega
            have hxA : ∀ (k : Nat) (ob : Obj), ((wy.drewN k).alloc ob).cell? ⟨E, 3, none⟩ = some (.slice A bits.length cb) := fun k ob => (World.cell?_alloc_lt (wy.drewN k) ob ⟨E, 3, none⟩ hEy).trans e3'
            go_region_law (first | (refine step_append_rdO _ (by rfl) (.tmp 67) (.tmp 72) 24 (by rfl) base 9 i0 _ 1 16 Tryd.underlying24 hi hzi0 hzi1 hzi2 (by rfl) (by decide) _ bits.length _ (by rfl) (by exact ((own_drewNV EVY.out.o _).alloc _)) _ 1 _ [.string c] (by rfl) (by exact rd_lit4 (w := wy.drewN _) (by rfl) rfl) (by exact one_strV c) (by simp only [maxLen]; omega) (by omega) (by simp; omega) ?_; intro v3 w3 own3 gr3 at3; obtain ⟨A3, c3, rfl, _, _, _⟩ := rd_of_own own3; have hx3 : w3.heap[E]? = some (.cells #[.slice An nn cn, .slice none 0 0, .bool false, .slice A bits.length cb] 71 (0, 0)) := (gr3.block E (by simp; omega) (fun e => own_ne_typeM EVY.out.o EVY.out.x (by decide) e.symm)).trans ((Below.heap_alloc _ _ _ (by simp; omega)).trans EVY.out.x); have px3 := cell_at (j := 3) (u := .slice A bits.length cb) hx3 rfl; have fx3 := free_atM (j := 3) hx3; have hlx3 := lt_of_block hx3))
            all_goals
              have hk3 : w3.heap[w.heap.size + 1]? = some (.cells #[.int .i64 0, .string ⟨#[]⟩] 67 (0, 0)) := (gr3.block (w.heap.size + 1) (by simp; omega) (fun e => own_ne_typeM EVY.out.o KY.out (by decide) e.symm)).trans ((Below.heap_alloc _ _ _ (by simp; omega)).trans KY.out)
              have M3 : Mod E (Value.slice A bits.length cb).ownBlock w w3 := ((MY.out.drewN _).trans (Mod.of_below E _ ((Below.refl _ _).alloc (Nat.le_refl _) _)) (.inl rfl)).trans (Mod.grown gr3) (.inl rfl)
              have G4 : Grew (Value.slice A bits.length cb).ownBlock (w.heap.size + 1 + 1) (Value.slice A3 (bits.length + 1) c3).ownBlock := by
                rcases at3 with e | e
                · exact .inl e
                · exact .inr ⟨_, e, by first | omega | (simp; omega)⟩
              obtain ⟨w4, hw4⟩ : ∃ w4, w4 = w3.setCell ⟨E, 3, none⟩ (.slice A3 (bits.length + 1) c3) := ⟨_, rfl⟩
              have EV4 : EvS w4 base E An nn cn (bits ++ [c]) (.slice A3 (bits.length + 1) c3) := by rw [hw4]; exact ⟨heap_set_self hx3 _, by rw [List.length_append, strs_snoc2]; exact own_setfarM own3 (own_ne_typeM own3 hx3 (by decide)) _⟩
              have hk4 : w4.heap[w.heap.size + 1]? = some (.cells #[.int .i64 0, .string ⟨#[]⟩] 67 (0, 0)) := by rw [hw4]; exact heap_set_far hk3 (by dsimp only; omega) _
              have M4 : Mod E (Value.slice A bits.length cb).ownBlock w w4 := by rw [hw4]; exact M3.set (p := ⟨E, 3, none⟩) (.inl rfl) _
              have x4 : (Value.slice A3 (bits.length + 1) c3).ownBlock ≠ some (w.heap.size + 1) := fun e => by
                rcases G4 with g | ⟨k, g, hk⟩
                · exact VN.out (g.symm.trans e)
                · have := Option.some.inj (g.symm.trans e); omega
              have HE4 := Lib.hid EV4
              have HM4 := Lib.hid M4
              have HG4 := Lib.hid (G4.weakV (z' := w.heap.size) (by omega))
              have HX4 := Lib.hid x4
              have W4 := Lib.hid hw4
              have hl4 : w.heap.size + 1 < w4.heap.size := lt_of_block hk4
              clear k0 k1 f0 f1
              obtain ⟨k0, k1⟩ := boxc2 (lay := Below.refl _ _) hk4
              have f0 := boxfree (Below.refl _ _) hk4 0
              have f1 := boxfree (Below.refl _ _) hk4 1
              clear hxA own3 gr3 at3 hx3 px3 fx3 hlx3 hk3 M3 G4 hw4 EV4 hk4 M4 x4 e0 e3' p0 p1 p2 p3 p4 r1
              rw [← W4.out]
              go_wp2_with fail
              exact bodyPost_ret (v := .agg #[.int .i64 0, .string ⟨#[]⟩]) (by simp [results, Tryd.results70, go_sem, k0, k1]) rfl ⟨_, by rw [HS.out]; exact rfl, by rw [HS.out]; exact (HE4.out.set (by dsimp only; omega) (by dsimp only; exact HX4.out) _).set (by dsimp only; omega) (by dsimp only; exact HX4.out) _, (HM4.out.set (.inr (by simp)) _).set (.inr (by simp)) _, HG4.out⟩
        · have HS : Hid (measT names bits a c = ((1, c), bits)) := by rw [measT, if_neg (by rw [e1]; decide), if_neg (by rw [e2]; decide), if_pos e3]; exact rfl
          have HB : Hid (∀ (S : Value) (r : Bool) (k : Nat), ((S = .slice An nn cn ∧ r = false) ∨ (S = .slice A bits.length cb ∧ r = true)) → Calls Tryd.prog 40 #[S, .string c] (wy.drewN k) fun e W => e = .returned (.bool r) ∧ W = wy.drewN k) := by
            rintro S r k (⟨rfl, rfl⟩ | ⟨rfl, rfl⟩)
            · exact (l1Has_any An nn cn names c _ (HNY.out.drewN k) HNN.out (by omega)).mono fun e W h => ⟨h.1.trans (by rw [e2]), h.2.symm⟩
            · exact (l1Has_any A bits.length cb bits c _ (HRY.out.drewN k) rfl (by omega)).mono fun e W h => ⟨h.1.trans (by rw [e3]), h.2.symm⟩
          go_quiet ((go_at_call 40; exact Calls.quiet_of_same (HB.out _ _ _ (by first | exact Or.inl ⟨rfl, rfl⟩ | exact Or.inr ⟨rfl, rfl⟩))))
          go_wp2_with fail
          exact bodyPost_ret (v := .agg #[.int .i64 1, .string c]) (by simp [results, Tryd.results70, go_sem, k0, k1]) rfl ⟨_, by rw [HS.out], by rw [HS.out]; exact ((EVY.out.drewN _).set (by dsimp only; omega) (by dsimp only; exact VN.out) _).set (by dsimp only; omega) (by dsimp only; exact VN.out) _, ((MY.out.drewN _).set (.inr (by simp)) _).set (.inr (by simp)) _, .inl rfl⟩
      · have HS : Hid (measT names bits a c = ((1, c), bits)) := by rw [measT, if_neg (by rw [e1]; decide), if_pos e2]; exact rfl
        go_quiet ((go_at_call 40; exact Calls.quiet_of_same ((l1Has_any An nn cn names c _ (HNY.out.drewN _) HNN.out (by omega)).mono fun e W h => (⟨h.1.trans (by rw [e2]), h.2.symm⟩ : e = .returned (.bool true) ∧ W = _))))
        go_wp2_with fail
        exact bodyPost_ret (v := .agg #[.int .i64 1, .string c]) (by simp [results, Tryd.results70, go_sem, k0, k1]) rfl ⟨_, by rw [HS.out], by rw [HS.out]; exact ((EVY.out.drewN _).set (by dsimp only; omega) (by dsimp only; exact VN.out) _).set (by dsimp only; omega) (by dsimp only; exact VN.out) _, ((MY.out.drewN _).set (.inr (by simp)) _).set (.inr (by simp)) _, .inl rfl⟩
end Go.Proofs.YtbamjfbfipkioaaDoor
