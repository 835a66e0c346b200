/- Drawing a list of statements, as the laws do. -/
import Derived.Test.YtbamjfbfipkioaaDbd
import Derived.Test.YtbamjfbfipkioaaDrt
import Derived.Test.YtbamjfbfipkioaaDbn
namespace Go.Proofs.Ytbamjfbfipkioaa
open Go.RowKit
set_option linter.unusedVariables false
theorem l17Body_any : ∀ d : Nat, d ≤ 9 → BodySaid d
  | 0, _ => fun A m c N wild w p hc hn => l17Body_zero A m c N wild w p hc hn
  | d + 1, h => fun A m c N wild w p hc hn => l17Body_succ d (by omega) (l17Body_any d (by omega)) A m c N wild w p hc hn
theorem l17Right_all (w : World) (p : Nat) (hc : CurAt w p) : Calls Try.prog 18 #[.pointer (some ⟨p, 0, none⟩)] w (DRt w p) := l17Right_any (l17Body_any 2 (by omega)) w p hc
theorem l17Bent_any (w : World) (p : Nat) (hc : CurAt w p) : Calls Try.prog 12 #[.pointer (some ⟨p, 0, none⟩)] w (DBn w p) := l17Bent_of l17Right_all w p hc
theorem ownT_at {w : World} {base d n c : Nat} {A : Option Addr} {l : List (Tr (d + 1))} (h : OwnT w base d (.slice A n c) l) : (A = none ∧ n = 0 ∧ c = 0) ∨ ∃ g, A = some ⟨g, 0, none⟩ ∧ g < w.heap.size := by
  obtain ⟨xs, ho, _⟩ := h
  have hlt := fun k hk => (ho.lt k hk).2
  rcases ho.2 with ⟨h1, _⟩ | ⟨g, cap, cur, h1, _⟩
  · injection h1 with h3 h4 h5
    exact .inl ⟨h3, h4, h5⟩
  · rw [h1] at hlt
    injection h1 with h3 _ _
    exact .inr ⟨g, h3, hlt g rfl⟩
def DrewSt (w : World) (e : Ending) (w' : World) : Prop := ∃ (A : Option Addr) (n c : Nat) (l : List (Tr 6)), e = .returned (.slice A n c) ∧ RdT w' 0 6 A n l ∧ (n ≤ c ∧ c ≤ maxLen ∧ szT 6 l ≤ 100000 ∧ ((A = none ∧ n = 0 ∧ c = 0) ∨ ∃ g, A = some ⟨g, 0, none⟩ ∧ g < w'.heap.size)) ∧ Below w.heap.size w w'
set_option maxRecDepth 100000 in
set_option maxHeartbeats 2000000 in
theorem DrawNestingDepth_any (A : Option Addr) (n c : Nat) (bs : List (Fin 256)) (w : World) (h : Rd w 1 A n (bs.flatMap bcell)) (hl : bs.length = n) (hn : n ≤ 1048576) : Calls Try.prog 5 #[.slice A n c] w (DrewSt w) := by
  have H := Lib.hid h
  have HL := Lib.hid hl
  clear h hl
  go_enter Try.func5, Try.ntmps5
  go_wp2_with fail
  refine (l1New_any _ _ _ bs w H.out HL.out hn).mono ?_
  rintro e w1 ⟨p, rfl, hp1, hc1, hb1⟩
  have lp := hc1.lt
  have HB1 := Lib.hid hb1
  clear hb1
  go_wp2_with fail
  refine (l17Bent_any w1 p hc1).mono ?_
  rintro e w2 ⟨Aq, nq, cq, Q, vb, l, rfl, hq, hqs, hbo, hz, hc2, hg2⟩
  obtain ⟨A2, c2, rfl, h1, h2⟩ := hbo.slice
  have h3 := ownT_at hbo
  have HH := Lib.hid (And.intro (TrQ.rdt (lo := 0) (fun b _ => Nat.zero_le b) (hbo.tr rfl)) (And.intro (And.intro h1 (And.intro h2 (And.intro hz h3))) (HB1.out.trans (grown_below hg2 HB1.out.size (fun k hk => by injection hk with hk; omega)))))
  clear hbo hq hqs hz hg2 hc2 h1 h2 h3
  have hf : ∀ w, Sem.run Try.prog (Instr.field 31 (.agg #[.slice Aq nq cq, .slice A2 l.length c2]) 1) w = .ok (.slice A2 l.length c2) w := fun _ => by kernel_rfl
  go_wp2_with fail
  go_ret
  exact ⟨A2, _, c2, l, rfl, HH.out.1, HH.out.2.1, HH.out.2.2⟩
end Go.Proofs.Ytbamjfbfipkioaa
