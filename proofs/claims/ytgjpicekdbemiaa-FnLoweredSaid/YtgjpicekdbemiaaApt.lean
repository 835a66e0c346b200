/- The laws' comparison of two lists of gates on every basis state, where both do the same: no phase apart. -/
import Derived.Test.YtgjpicekdbemiaaGph
namespace Go.Proofs.Ytgjpicekdbemiaa
open Go.RowKit
set_option linter.unusedVariables false
theorem info_StatesA : (Try.prog.info? 47).map (fun i => (i.zero, i.size, i.bytes)) = some (some (.slice none 0 0), 1, 24) := by kernel_rfl
theorem push_two {w2 w3 : World} {base t t2 c1 c3 : Nat} {A1 A3 : Option Addr} {v2 u : Value} {M M2 : List (List Dm)} {S : List Value} {F2 : List Nat} {r : List Dm} {ob : Obj}
    (hM1 : M.length = t) (hM2 : w2.ownsRow base 47 1 (.slice A1 t c1) t S) (hN : ((Value.slice A1 t c1).ownBlock.toList ++ S.flatMap (fun u => u.ownBlock.toList)).Nodup)
    (hrows : ∀ (j : Nat) (r : List Dm), M[j]? = some r → ∃ u, S[j]? = some u ∧ w2.ownsRow base 67 5 u r.length (r.flatMap dcells))
    (h2 : OwnM w2 base v2 t2 M2 F2) (hd : ∀ k ∈ ((Value.slice A1 t c1).ownBlock.toList ++ S.flatMap (fun u => u.ownBlock.toList)), k ∉ F2)
    (hu : w2.ownsRow base 67 5 u r.length (r.flatMap dcells)) (hu1 : ∀ k, u.ownBlock = some k → k ∉ ((Value.slice A1 t c1).ownBlock.toList ++ S.flatMap (fun u => u.ownBlock.toList)) ∧ k ∉ F2)
    (h3 : w3.ownsRow base 47 1 (.slice A3 (t + 1) c3) (t + 1) (S ++ [u])) (hg : (w2.alloc ob).grownBy w3 (Value.slice A1 t c1).ownBlock)
    (hat : (Value.slice A3 (t + 1) c3).ownBlock = (Value.slice A1 t c1).ownBlock ∨ (Value.slice A3 (t + 1) c3).ownBlock = some (w2.alloc ob).heap.size) :
    ∃ F1, OwnM w3 base (.slice A3 (t + 1) c3) (t + 1) (M ++ [r]) F1 ∧ OwnM w3 base v2 t2 M2 F2 ∧ (∀ k ∈ F1, k ∉ F2) ∧ ∀ k ∈ F1, k ∈ ((Value.slice A1 t c1).ownBlock.toList ++ S.flatMap (fun u => u.ownBlock.toList)) ∨ u.ownBlock = some k ∨ k = (w2.alloc ob).heap.size := by
  have ba : Below w2.heap.size w2 (w2.alloc ob) := (Below.refl _ _).alloc (Nat.le_refl _) _
  obtain ⟨F1, o1, hF⟩ := ownM_snoc (r := r) (u := u) hM1 (hM2.alloc ob) hN (fun j r' hj => by
    obtain ⟨u', e, ho⟩ := hrows j r' hj
    exact ⟨u', e, ho.alloc ob⟩) (hu.alloc ob) (fun k hk => (hu1 k hk).1) h3 hg hat
  have h2l := h2.lt
  refine ⟨F1, o1, (h2.below ba).kin (kin_of_grown hg) (fun k hk hm => hd k (List.mem_append.2 (.inl hm)) hk), fun k hk hm => ?_, hF⟩
  rcases hF k hk with h | h | h
  · exact hd k h hm
  · exact (hu1 k h).2 hm
  · have := (h2l k hm).2
    rw [h] at this
    simp at this
    omega
set_option maxRecDepth 100000 in
set_option maxHeartbeats 16000000 in
theorem apart_t (P : Nat → List Dm) (Aa : Option Addr) (na ca : Nat) (la : List Gt) (Ab : Option Addr) (nb cb : Nat) (lb : List Gt) (w : World) (ha : Rd w 4 Aa na (la.flatMap gcells)) (hla : la.length = na) (hna : na ≤ 1099511627776) (hb : Rd w 4 Ab nb (lb.flatMap gcells)) (hlb : lb.length = nb) (hnb : nb ≤ 1099511627776)
    (hP : ∀ i, i < 8 → apGs la (bst 8 i) = some (P i) ∧ apGs lb (bst 8 i) = some (P i) ∧ (P i).length = 8 ∧ stOk (P i) = true ∧ stOk (bst 8 i) = true) :
    Calls Try.prog 11 #[.slice Aa na ca, .slice Ab nb cb, .int .i64 3] w (Ret (.tuple #[.int .i64 0, .bool true]) w) := by
  obtain ⟨i0, hi0, hz0, hz1, hz2⟩ := info_parts info_StatesA
  have HA := Lib.hid ha
  have HB := Lib.hid hb
  have HLA := Lib.hid hla
  have HLB := Lib.hid hlb
  have HP := Lib.hid hP
  clear ha hb hla hlb hP
  have E2 : ((w.alloc (.cells #[] 47)).alloc (.cells #[] 47)).ownsRow w.heap.size 47 1 (.slice (some ⟨w.heap.size + 1, 0, none⟩) 0 0) 0 [] := by
    have h := own_lowS (own_empty (w.alloc (.cells #[] 47)) 47 1) (show w.heap.size ≤ (w.alloc (.cells #[] 47)).heap.size by simp)
    simpa using h
  go_enter Try.func11, Try.ntmps11
  go_wp2_with fail
  go_loopw [8, 9, 10] (fun x y i wr => ∃ (t : Nat) (A1 A2 : Option Addr) (c1 c2 : Nat) (F1 F2 : List Nat), x = .slice A1 t c1 ∧ y = .slice A2 t c2 ∧ i = .int .i64 t ∧ t ≤ 8 ∧ OwnM wr w.heap.size (.slice A1 t c1) t ((List.range t).map P) F1 ∧ OwnM wr w.heap.size (.slice A2 t c2) t ((List.range t).map P) F2 ∧ (∀ k ∈ F1, k ∉ F2) ∧ Below w.heap.size w wr) (fun _ _ i _ => 8 - (intOf i).toNat)
  case atStart =>
    refine ⟨0, _, _, 0, 0, _, _, rfl, rfl, rfl, by omega, ⟨[], rfl, (own_empty w 47 1).alloc _, rfl, by simp [Value.ownBlock], by simp⟩, ⟨[], rfl, E2, rfl, by simp [Value.ownBlock], by simp⟩, ?_, (by repeat (first | exact Below.refl _ _ | assumption | (refine Below.trans ?_ (Below.mono (by assumption) (by first | omega | (simp; done) | (simp; omega)))) | (with_reducible refine Below.drew ?_) | (with_reducible refine Below.alloc ?_ (by first | omega | (simp; done) | (simp; omega)) _) | (with_reducible refine Below.setCell ?_ (by first | omega | (simp; done) | (simp; omega)) _)))⟩
    intro k hk hm
    simp [Value.ownBlock] at hk hm
    omega
  case round =>
    obtain ⟨t, A1, A2, c1, c2, F1, F2, rfl, rfl, rfl, ht, o1, o2, hd, hbl⟩ := hrel
    obtain ⟨wE, rfl⟩ : ∃ wE : World, wE = wr := ⟨_, rfl⟩
    have hsE := hbl.size
    by_cases hlt : t < 8
    · have hd8 : decide ((t : Int) < 8) = true := by simp; omega
      have HO := Lib.hid (And.intro o1 (And.intro o2 (And.intro hd hbl)))
      obtain ⟨p1, p2, p3, p4, p5⟩ := HP.out t hlt
      have HPT := Lib.hid (And.intro p1 (And.intro p2 (And.intro p3 (And.intro p4 p5))))
      have HB1 := Lib.hid (BasisState_spec_3 t wE hlt)
      clear o1 o2 hd p1 p2 p3 p4 p5
      go_wp2_with fail
      refine HB1.out.mono ?_
      rintro e w1 ⟨v1, rfl, ow1, hb1, hs1⟩
      obtain ⟨A3, c3, rfl, _, _, r1⟩ := rd_of_own ow1
      have B1 : Below w.heap.size w w1 := hbl.trans (hb1.mono hsE)
      have HG1 := Lib.hid (HPT.out.1 ▸ ApplyGates_any Aa na ca la A3 8 c3 (bst 8 t) w1 (HA.out.below B1) HLA.out hna r1 (bst_len 8 t) (by omega) HPT.out.2.2.2.2)
      have K1 := Lib.hid hb1
      clear ow1 r1 HB1 hb1
      go_wp2_with fail
      refine HG1.out.mono ?_
      rintro e w2 ⟨A4, n4, c4, ok4, o4, rfl, h4, hl4, ow4, hb2, hs2⟩
      obtain ⟨rfl, rfl⟩ : ok4 = true ∧ o4 = P t := by
        rcases h4 with ⟨h, h'⟩ | ⟨_, h, _⟩
        · injection h' with h'
          exact ⟨h, h'.symm⟩
        · cases h
      obtain rfl : n4 = 8 := by rw [← hl4]; exact HPT.out.2.2.1
      have B2 : Below w.heap.size w w2 := B1.trans (hb2.mono B1.size)
      have K2 := Lib.hid (K1.out.trans (hb2.mono hs1))
      have HB2 := Lib.hid (BasisState_spec_3 t w2 hlt)
      have OW4 := Lib.hid ow4
      clear h4 hl4 HG1 hb2 ow4
      go_wp2_with fail
      refine HB2.out.mono ?_
      rintro e w3 ⟨v1, rfl, ow1, hb3, hs3⟩
      obtain ⟨A5, c5, rfl, _, _, r1⟩ := rd_of_own ow1
      have B3 : Below w.heap.size w w3 := B2.trans (hb3.mono B2.size)
      have HG1 := Lib.hid (HPT.out.2.1 ▸ ApplyGates_any Ab nb cb lb A5 8 c5 (bst 8 t) w3 (HB.out.below B3) HLB.out hnb r1 (bst_len 8 t) (by omega) HPT.out.2.2.2.2)
      have K3 := Lib.hid hb3
      clear ow1 r1 HB2 hb3
      go_wp2_with fail
      refine HG1.out.mono ?_
      rintro e w4 ⟨A6, n6, c6, ok6, o6, rfl, h6, hl6, ow6, hb4, hs4⟩
      obtain ⟨rfl, rfl⟩ : ok6 = true ∧ o6 = P t := by
        rcases h6 with ⟨h, h'⟩ | ⟨_, h, _⟩
        · injection h' with h'
          exact ⟨h, h'.symm⟩
        · cases h
      obtain rfl : n6 = 8 := by rw [← hl6]; exact HPT.out.2.2.1
      have K4 := Lib.hid (K3.out.trans (hb4.mono hs3))
      have B4 : Below w.heap.size w w4 := B3.trans (hb4.mono B3.size)
      have hPl := HPT.out.2.2.1
      obtain ⟨o1, o2, hd, _⟩ := HO.out
      have KE := K2.out.trans (K4.out.mono K2.out.size)
      have o1' := o1.below KE
      have o2' := o2.below KE
      have l1 := o1.lt
      have l2 := o2.lt
      have u4 : w4.ownsRow w1.heap.size 67 5 (.slice A4 8 c4) 8 ((P t).flatMap dcells) := own_kin OW4.out (kin_of_below [] K4.out) (fun k _ => by simp)
      have u4l := OW4.out.lt
      have u6l := ow6.lt
      obtain ⟨S1, m1, m2, hF1, m4, m5⟩ := o1'
      subst hF1
      have M1 := Lib.hid (And.intro m1 (And.intro m4 m5))
      have M2 := Lib.hid m2
      have O2 := Lib.hid o2'
      have HD := Lib.hid hd
      have U4 := Lib.hid (own_lowS (B' := w.heap.size) u4 (by omega))
      have U6 := Lib.hid (own_lowS (B' := w.heap.size) ow6 (by omega))
      have L1 := Lib.hid l1
      have L2 := Lib.hid l2
      have U4L := Lib.hid u4l
      have U6L := Lib.hid u6l
      have s4 := B4.size
      clear h6 hl6 HG1 hb4 ow6 o1 o2 hd o2' u4 u4l u6l l1 l2 m1 m2 m4 m5 KE
      go_wp2_with (at_builtin; refine wpList_append_rd _ rfl _ _ 45 rfl w.heap.size 47 i0 _ 1 24 Try.underlying45 hi0 hz0 hz1 hz2 rfl (by decide) _ _ _ rfl (M2.out.alloc _) _ 1 1 _ rfl (rd_lit2 ?c0 rfl) ?c2 ?c3 ?c4 ?c5 ?_)
      case c0 => first | rfl | simp
      case c2 => repeat' (first | rfl | apply And.intro)
      case c3 => simp only [maxLen]; omega
      case c4 => omega
      case c5 => first | omega | (simp; omega)
      intro vv ww own3 gr3 hat3
      obtain ⟨A7, c7, rfl, _, _, _⟩ := rd_of_own own3
      have hu1 : ∀ k, (Value.slice A4 8 c4).ownBlock = some k → k ∉ ((Value.slice A1 t c1).ownBlock.toList ++ S1.flatMap (fun u => u.ownBlock.toList)) ∧ k ∉ F2 := fun k hk => by
        have h1 := (U4L.out k hk).1
        exact ⟨fun h => by have := (L1.out k h).2; omega, fun h => by have := (L2.out k h).2; omega⟩
      obtain ⟨G1, n1, n2, nd, nk⟩ := push_two (r := P t) M1.out.1 M2.out M1.out.2.1 M1.out.2.2 O2.out HD.out (by rw [hPl]; exact U4.out) hu1 own3 gr3 (by rw [World.size_alloc]; exact hat3)
      have u6' : ww.ownsRow w.heap.size 67 5 (.slice A6 8 c6) 8 ((P t).flatMap dcells) := (U6.out.alloc _).kept gr3 (by
        cases hk : (Value.slice A1 t c1).ownBlock with
        | none => cases (Value.slice A6 8 c6).ownBlock <;> simp
        | some k =>
          refine .inr fun e => ?_
          have h1 := (U6L.out k e).1
          have h2 := (L1.out k (List.mem_append.2 (.inl (by simp [hk])))).2
          omega)
      have gs := gr3.size
      have B5 : Below w.heap.size w ww := (B4.alloc s4 _).grown gr3 (by simp; omega) (fun k hk => (M2.out.lt k hk).1)
      obtain ⟨S2, m1, m2, hF2, m4, m5⟩ := n2
      subst hF2
      have N1 := Lib.hid (And.intro m1 (And.intro m4 m5))
      have N2 := Lib.hid m2
      have NO := Lib.hid n1
      have ND := Lib.hid nd
      have NK := Lib.hid nk
      have U6' := Lib.hid u6'
      simp only [World.size_alloc] at gs
      have s5 := B5.size
      clear own3 gr3 hat3 n1 nd nk m1 m2 m4 m5 u6'
      go_wp2_with (at_builtin; refine wpList_append_rd _ rfl _ _ 45 rfl w.heap.size 47 i0 _ 1 24 Try.underlying45 hi0 hz0 hz1 hz2 rfl (by decide) _ _ _ rfl (N2.out.alloc _) _ 1 1 _ rfl (rd_lit2 ?d0 rfl) ?d2 ?d3 ?d4 ?d5 ?_)
      case d0 => first | rfl | simp
      case d2 => repeat' (first | rfl | apply And.intro)
      case d3 => simp only [maxLen]; omega
      case d4 => omega
      case d5 => first | omega | (simp; omega)
      intro vv2 ww2 own4 gr4 hat4
      obtain ⟨A8, c8, rfl, _, _, _⟩ := rd_of_own own4
      have FIN : ∃ F1 F2, OwnM ww2 w.heap.size (.slice A7 (t + 1) c7) (t + 1) ((List.range (t + 1)).map P) F1 ∧ OwnM ww2 w.heap.size (.slice A8 (t + 1) c8) (t + 1) ((List.range (t + 1)).map P) F2 ∧ (∀ k ∈ F1, k ∉ F2) ∧ Below w.heap.size w ww2 := by
        have hu2 : ∀ k, (Value.slice A6 8 c6).ownBlock = some k → k ∉ ((Value.slice A2 t c2).ownBlock.toList ++ S2.flatMap (fun u => u.ownBlock.toList)) ∧ k ∉ G1 := fun k hk => by
          have h1 := (U6L.out k hk)
          refine ⟨fun h => by have := (L2.out k h).2; omega, fun h => ?_⟩
          rcases NK.out k h with h | h | h
          · have := (L1.out k h).2; omega
          · have := (U4L.out k h).2; omega
          · simp at h; omega
        obtain ⟨G2, z1, z2, zd, _⟩ := push_two (r := P t) N1.out.1 N2.out N1.out.2.1 N1.out.2.2 NO.out (fun k hk hm => ND.out k hm hk) (by rw [hPl]; exact U6'.out) hu2 own4 gr4 (by rw [World.size_alloc]; exact hat4)
        refine ⟨G1, G2, ?_, ?_, fun k hk hm => zd k hm hk, (B5.alloc s5 _).grown gr4 (by simp; omega) (fun k hk => (N2.out.lt k hk).1)⟩
        · rw [List.range_succ, List.map_append]; exact z2
        · rw [List.range_succ, List.map_append]; exact z1
      clear own4 gr4 hat4
      go_wp2_with fail
      go_roundw
      case rel =>
        obtain ⟨G1, G2, z1, z2, zd, zb⟩ := FIN
        exact ⟨t + 1, A7, A8, c7, c8, G1, G2, rfl, rfl, by go_num, by omega, z1, z2, zd, zb⟩
      case measure => simp [intOf]; omega
    · obtain rfl : t = 8 := by omega
      have HG := Lib.hid (GlobalPhase_t A1 A2 8 c1 c2 ((List.range 8).map P) wE o1.rd' o2.rd' (by decide) (by decide) (fun r hr => by
        obtain ⟨i, hi, rfl⟩ := List.mem_map.1 hr
        have := HP.out i (List.mem_range.1 hi)
        exact ⟨this.2.2.1, this.2.2.2.1⟩))
      clear o1 o2 hd
      go_wp2_with fail
      refine HG.out.mono ?_
      rintro e w1 ⟨rfl, hb1, hs1⟩
      have B1 : Below w.heap.size w w1 := hbl.trans (hb1.mono hsE)
      have s1 := B1.size
      go_wp2_with fail
      exact bodyPost_ret (v := .tuple #[.int .i64 0, .bool true]) (by simp [results, Try.results11, go_sem]) rfl ⟨rfl, B1, s1⟩
end Go.Proofs.Ytgjpicekdbemiaa
