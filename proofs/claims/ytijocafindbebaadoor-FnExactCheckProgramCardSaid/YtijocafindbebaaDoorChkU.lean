/- Checking in the reference: nested statements, by induction on the depth. -/
import Derived.Test.YtijocafindbebaaDoorChkT
namespace Go.Proofs.YtijocafindbebaaDoor
open Go.RowKit
set_option linter.unusedVariables false
theorem l20Stmt_in (d : Nat) (k : Int) (hk : 1 ≤ k ∧ k ≤ 7) (word : ByteArray) (args names held : List ByteArray) (count : Int) (bd : List (Tr d)) (Aa : Option Addr) (m ca : Nat) (Ac : Option Addr) (nc cc E : Nat) (An Ah Ab : Option Addr) (nn cn nh ch nb cb : Nat) (w : World)
    (hx : w.heap[E]? = some (.cells #[.slice An nn cn, .slice Ah nh ch, .bool true, .slice Ab nb cb] 97 (0, 0))) (hm : args.length = m) (hra : Rd w 1 Aa m (strs args)) (hca : m ≤ ca) (hnn : names.length = nn) (hrn : Rd w 1 An nn (strs names)) (hnh : held.length = nh) (hrh : Rd w 1 Ah nh (strs held)) (h1 : m ≤ 1048576) (h2 : nn ≤ 4) (h3 : nh + m + szT d bd ≤ 1048576)
    (hv : vOne d (validT d) ⟨k, word, args, count⟩ bd = true) (hbody : BodyS d bd w Ac nc cc) :
    Calls Tryd.prog 97 #[.agg #[.int .i64 k, .string word, .slice Aa m ca, .int .i64 count, .slice Ac nc cc], .pointer (some ⟨E, 0, none⟩)] w (RetBadA (oneN ⟨k, word, args, count⟩ (chkN d bd) names held) w) := by
  have h : k = 1 ∨ k = 2 ∨ k = 3 ∨ k = 4 ∨ k = 5 ∨ k = 6 ∨ k = 7 := by omega
  rcases h with rfl | rfl | rfl | rfl | rfl | rfl | rfl
  · exact l20Stmt_1 d word args names held count bd Aa m ca Ac nc cc E An Ah Ab nn cn nh ch nb cb true w hx hm hra hca hnn hrn hnh hrh h1 h2 h3 hv hbody
  · exact l20Stmt_2 d word args names held count bd Aa m ca Ac nc cc E An Ah Ab nn cn nh ch nb cb true w hx hm hra hca hnn hrn hnh hrh h1 h2 h3 hv hbody
  · exact l20Stmt_3 d word args names held count bd Aa m ca Ac nc cc E An Ah Ab nn cn nh ch nb cb true w hx hm hra hca hnn hrn hnh hrh h1 h2 h3 hv hbody
  · exact l20Stmt_4 d word args names held count bd Aa m ca Ac nc cc E An Ah Ab nn cn nh ch nb cb true w hx hm hra hca hnn hrn hnh hrh h1 h2 h3 hv hbody
  · exact l20Stmt_5 d word args names held count bd Aa m ca Ac nc cc E An Ah Ab nn cn nh ch nb cb true w hx hm hra hca hnn hrn hnh hrh h1 h2 h3 hv hbody
  · exact l20Stmt_6 d word args names held count bd Aa m ca Ac nc cc E An Ah Ab nn cn nh ch nb cb w hx hm hra hca hnn hrn hnh hrh h1 h2 h3 hv hbody
  · exact l20Stmt_7 d word args names held count bd Aa m ca Ac nc cc E An Ah Ab nn cn nh ch nb cb w hx hm hra hca hnn hrn hnh hrh h1 h2 h3 hv hbody
def AllSaidN (d : Nat) : Prop := ∀ (lo : Nat) (A : Option Addr) (n c : Nat) (l : List (Tr d)) (E : Nat) (An : Option Addr) (nn cn : Nat) (Ah : Option Addr) (nh ch : Nat) (Ab : Option Addr) (nb cb : Nat) (names held : List ByteArray) (w : World), RdT w lo d A n l →
  w.heap[E]? = some (.cells #[.slice An nn cn, .slice Ah nh ch, .bool true, .slice Ab nb cb] 97 (0, 0)) → Rd w 1 An nn (strs names) → Rd w 1 Ah nh (strs held) → names.length = nn → held.length = nh → nn ≤ 4 → nh + szT d l ≤ 1048576 → validT d l = true →
  Calls Tryd.prog 75 #[.slice A n c, .pointer (some ⟨E, 0, none⟩)] w (RetBadA (chkN d l names held) w)
theorem bodyS_of {d lo : Nat} (h : AllSaidN d) {bd : List (Tr d)} {w : World} {Ac : Option Addr} {nc : Nat} (cc : Nat) (hr : RdT w lo d Ac nc bd) (hv : validT d bd = true) : BodyS d bd w Ac nc cc :=
  fun E An nn cn Ah nh ch Ab nb cb names held w' hb hx h1 h2 h3 h4 h5 h6 => h lo Ac nc cc bd E An nn cn Ah nh ch Ab nb cb names held w' (hr.below hb) hx h1 h2 h3 h4 h5 h6 hv
theorem firstB_at {L : List Bad} {t : Nat} {c : Bad} (h : L[t]? = some c) (hz : ∀ x ∈ L.take t, x.1 = 0) (hc : c.1 ≠ 0) : firstB L = c := firstB_take h (firstB_zero hz) hz hc
theorem take_zero {L : List Bad} {t : Nat} {c : Bad} (h : L[t]? = some c) (hz : ∀ x ∈ L.take t, x.1 = 0) (hc : c.1 = 0) : ∀ x ∈ L.take (t + 1), x.1 = 0 := by
  intro x hx
  rw [List.take_add_one, h] at hx
  rcases List.mem_append.1 hx with hx | hx
  · exact hz x hx
  · simp at hx
    rw [hx]
    exact hc
set_option maxRecDepth 100000 in
set_option maxHeartbeats 4000000 in
theorem l20All_in : ∀ (d : Nat), AllSaidN d := by
  intro d
  induction d with
  | zero =>
    intro lo A n c l E An nn cn Ah nh ch Ab nb cb names held w h hx _ _ _ _ _ _ _
    obtain rfl := szT_zero_len h
    go_enter Tryd.func75, Tryd.ntmps75
    go_wp2
    refine wp_loop_rounds 1 ?_
    rw [rounds_succ]
    go_wp2
    exact bodyPost_ret (v := .agg #[.int .i64 0, .string ⟨#[]⟩]) (by simp [results, Tryd.results75, go_sem]) rfl ⟨rfl, (by repeat (first | exact Below.refl _ _ | assumption | (refine Below.trans ?_ (Below.mono (by assumption) (by first | omega | (simp; done) | (simp; omega)))) | (with_reducible refine Below.drew ?_) | (with_reducible refine Below.alloc ?_ (by first | omega | (simp; done) | (simp; omega)) _) | (with_reducible refine Below.setCell ?_ (by first | omega | (simp; done) | (simp; omega)) _))), (by first | omega | (simp; done) | (simp; omega))⟩
  | succ d ih =>
    intro lo A n c l E An nn cn Ah nh ch Ab nb cb names held w h hx hrn hrh hnn hnh h4 hsz hv
    have hq := hsz
    rw [szT_succ] at hq
    have hln := h.len
    have hn : n ≤ 1048576 := by omega
    obtain ⟨L, hL⟩ : ∃ L, L = l.map fun s => oneN (hdT s) (chkN d (bdT s)) names held := ⟨_, rfl⟩
    have HRES : Hid (chkN (d + 1) l names held = firstB L) := by rw [hL]; exact rfl
    obtain ⟨w0, hw0⟩ : ∃ w0, w0 = w.alloc (.cells #[.int .i64 0, .string ⟨#[]⟩] 93) := ⟨_, rfl⟩
    have X0 := Lib.hid (show w0.heap[w.heap.size]? = some (.cells #[.int .i64 0, .string ⟨#[]⟩] 93 (0, 0)) by rw [hw0]; exact boxed1_0 _ _)
    have b0 : Below w.heap.size w w0 := by rw [hw0]; exact (by repeat (first | exact Below.refl _ _ | assumption | (refine Below.trans ?_ (Below.mono (by assumption) (by first | omega | (simp; done) | (simp; omega)))) | (with_reducible refine Below.drew ?_) | (with_reducible refine Below.alloc ?_ (by first | omega | (simp; done) | (simp; omega)) _) | (with_reducible refine Below.setCell ?_ (by first | omega | (simp; done) | (simp; omega)) _)))
    have hz0 : w.heap.size < w0.heap.size := by rw [hw0]; simp
    have HW := Lib.hid hw0
    have H := Lib.hid h
    have HLN := Lib.hid hln
    have HL := Lib.hid hL
    have XE := Lib.hid hx
    have HN := Lib.hid hrn
    have HH := Lib.hid hrh
    have HNN := Lib.hid hnn
    have HNH := Lib.hid hnh
    have HQ := Lib.hid hq
    have HV := Lib.hid hv
    have IH := Lib.hid ih
    have B0 := Lib.hid b0
    clear h hln hL hx hrn hrh hnn hnh hsz hq hv ih hw0 b0
    go_enter Tryd.func75, Tryd.ntmps75
    go_wp2_with fail
    rw [← HW.out]
    go_loopw [5] (fun i wr => ∃ t : Nat, t ≤ n ∧ i = .int .i64 t ∧ Hid (∀ x ∈ L.take t, x.1 = 0) ∧ Below w0.heap.size w0 wr) (fun i _ => n - (intOf i).toNat)
    case atStart => exact ⟨0, Nat.zero_le _, rfl, fun x hx => by simp at hx, Below.refl _ _⟩
    case round =>
      obtain ⟨t, ht, rfl, hzs, hb⟩ := hrel
      have hbs := hb.size
      by_cases hlt : t < n
      · have hbw : Below w.heap.size w wr := B0.out.trans (hb.mono (by omega))
        obtain ⟨b, off, s, Aa, ca, Ac, nc, cc, rfl, hbl, hs, ⟨c0, c1, c2, c3, c4⟩, ha, hbd, hcap⟩ := (H.out.below hbw).at_c hlt
        have hme := szT_mem hs
        have hze : szE s = (hdT s).word.size + ((hdT s).args.length + szS (hdT s).args + szT d (bdT s)) := rfl
        have hq := HQ.out
        have hvs := validT_mem HV.out hs
        obtain ⟨hk, _, hvb⟩ := vOne_facts hvs
        have HC := Lib.hid (l20Stmt_in d (hdT s).k hk (hdT s).word (hdT s).args names held (hdT s).count (bdT s) Aa _ ca Ac nc cc E An Ah Ab nn cn nh ch nb cb wr ((hbw.block E (lt_of_block XE.out)).trans XE.out) rfl ha.rd hcap HNN.out (HN.out.below hbw) HNH.out (HH.out.below hbw) (by omega) h4 (by omega) hvs (bodyS_of IH.out cc hbd hvb))
        obtain ⟨cc', hcc⟩ : ∃ c', c' = oneN (hdT s) (chkN d (bdT s)) names held := ⟨_, rfl⟩
        have HC2 : Hid (Calls Tryd.prog 97 #[.agg #[.int .i64 (hdT s).k, .string (hdT s).word, .slice Aa (hdT s).args.length ca, .int .i64 (hdT s).count, .slice Ac nc cc], .pointer (some ⟨E, 0, none⟩)] wr (RetBadA cc' wr)) := by
          rw [hcc]
          exact HC.out
        have HAT : Hid (L[t]? = some cc') := by
          rw [HL.out, List.getElem?_map, hs, hcc]
          exact rfl
        clear hs ha hbd hcap hme hze hq hvs hk hvb HC hcc
        go_wp2_with fail
        refine HC2.out.mono ?_
        rintro e w1 ⟨rfl, b1, s1⟩
        have bb := hb.trans (b1.mono hbs)
        obtain ⟨k0, k1⟩ := boxc2 (lay := bb) X0.out
        have f0 := boxfree bb X0.out 0
        have f1 := boxfree bb X0.out 1
        have hl1 : w.heap.size < w1.heap.size := by omega
        clear c0 c1 c2 c3 c4
        by_cases hc0 : cc'.1 = 0
        · have HZ := Lib.hid (take_zero HAT.out hzs.out hc0)
          have hne : (cc'.1 != 0) = false := by simp [hc0]
          have HC0 := Lib.hid hc0
          clear hc0
          go_wp2_with fail
          go_roundw
          case rel => exact ⟨t + 1, by omega, by go_num, HZ, bb.alloc (by omega) _⟩
          case measure => simp [intOf]; omega
        · have HF := Lib.hid (HRES.out.trans (firstB_at HAT.out hzs.out hc0))
          have hne : (cc'.1 != 0) = true := by rw [bne_iff_ne]; exact hc0
          clear hc0
          go_wp2_with fail
          exact bodyPost_ret (v := .agg #[.int .i64 cc'.1, .string cc'.2]) (by simp [results, Tryd.results75, go_sem, k0, k1, hl1]) rfl ⟨by rw [HF.out], (((B0.out.trans (bb.mono (by omega))).setCell (Nat.le_refl _) _).setCell (Nat.le_refl _) _).alloc (by rw [size_setCell, size_setCell]; omega) _, by simp [World.setCell]; omega⟩
      · obtain rfl : t = n := by omega
        have HF : Hid (chkN (d + 1) l names held = bad0) := by
          rw [HRES.out]
          refine firstB_zero ?_
          have := hzs.out
          rwa [List.take_of_length_le (by rw [HL.out, List.length_map, HLN.out]; exact Nat.le_refl _)] at this
        obtain ⟨k0, k1⟩ := boxc2 (lay := hb) X0.out
        have f0 := boxfree hb X0.out 0
        have f1 := boxfree hb X0.out 1
        have hl1 : w.heap.size < wr.heap.size := by omega
        go_wp2_with fail
        exact bodyPost_ret (v := .agg #[.int .i64 0, .string ⟨#[]⟩]) (by simp [results, Tryd.results75, go_sem, k0, k1]) rfl ⟨by rw [HF.out]; rfl, ((B0.out.trans (hb.mono (by omega))).setCell (by simp) _).setCell (by simp) _, by simp [World.setCell]; omega⟩
end Go.Proofs.YtijocafindbebaaDoor
