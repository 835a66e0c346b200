/- What the calls that this law reaches answer, part 28 of 30. -/
import Derived.Test.YtbamjfbfipkioaaDoorJFCheck23
import Derived.Test.YtbamjfbfipkioaaDoorJFCheck25
import Derived.Test.YtbamjfbfipkioaaDoorJFCheck27
import Derived.Test.YtbamjfbfipkioaaDoorJFCheck22
import Derived.Test.YtbamjfbfipkioaaDoorJFCheck1
import Derived.Laws.IdiomStrings
namespace Go.Proofs.YtbamjfbfipkioaaDoor
open Go.RowKit
set_option linter.unusedVariables false
theorem l17Body_any : ∀ d : Nat, d ≤ 9 → BodySaid d
  | 0, _ => fun A m c N wild w p hc hn => l17Body_zero A m c N wild w p hc hn
  | d + 1, h => fun A m c N wild w p hc hn => l17Body_succ d (by omega) (l17Body_any d (by omega)) A m c N wild w p hc hn
theorem l17Right_all (w : World) (p : Nat) (hc : CurAt w p) : Calls Tryd.prog 50 #[.pointer (some ⟨p, 0, none⟩)] w (DRt w p) := l17Right_any (l17Body_any 2 (by omega)) w p hc
theorem l17Bent_any (w : World) (p : Nat) (hc : CurAt w p) : Calls Tryd.prog 34 #[.pointer (some ⟨p, 0, none⟩)] w (DBn w p) := l17Bent_of l17Right_all w p hc
end Go.Proofs.YtbamjfbfipkioaaDoor
namespace Go.Proofs.YtbamjfbfipkioaaDoor
open Go.RowKit
set_option linter.unusedVariables false
theorem RdT.set0 {w : World} {lo d n : Nat} {A : Option Addr} {l : List (Tr d)} (h : RdT w lo d A n l) {p : Addr} (hp : p.block < lo) (u : Value) : RdT (w.setCell p u) lo d A n l :=
  RdT.keep (fun b o hl hb => by
    have : (w.setCell p u).heap[b]? = w.heap[b]? := Below.heap_setCell w p u b (by omega)
    simp [World.cell?, this]) (by rw [size_setCell]; exact Nat.le_refl _) h
theorem RdL.set0 {w : World} {lo size n : Nat} {A : Option Addr} {xs : List Value} (h : RdL w lo size A n xs) {p : Addr} (hp : p.block < lo) (u : Value) : RdL (w.setCell p u) lo size A n xs :=
  RdL.keep h (fun b o hl hb => by
    have : (w.setCell p u).heap[b]? = w.heap[b]? := Below.heap_setCell w p u b (by omega)
    simp [World.cell?, this]) (by rw [size_setCell]; exact Nat.le_refl _)
end Go.Proofs.YtbamjfbfipkioaaDoor
namespace Go.Proofs.YtbamjfbfipkioaaDoor
open Go.RowKit
set_option linter.unusedVariables false
/-- The program's variable X: its qubits, its statements in a row of their own, all above the world w1 but the cursor. -/
structure PD (w1 : World) (p X : Nat) (Aq : Option Addr) (nq cq : Nat) (Q : List ByteArray) (Ab : Option Addr) (nb cb : Nat) (l : List (Tr 6)) (xs : List Value) (W : World) : Prop where
  fr : Fr w1 p W
  lo : w1.heap.size ≤ X
  x : W.heap[X]? = some (.cells #[.slice Aq nq cq, .slice Ab nb cb] 35 (0, 0))
  q : RdQ W (fun b => w1.heap.size < b ∧ b ≠ X ∧ some b ≠ (Value.slice Ab nb cb).ownBlock) 1 Aq nq (strs Q)
  bl : l.length = nb
  bo : W.ownsRow (w1.heap.size + 1) 27 5 (.slice Ab nb cb) nb xs
  be : ElQ W (fun b => w1.heap.size < b ∧ b ≠ X ∧ some b ≠ (Value.slice Ab nb cb).ownBlock) 5 xs l
  vx : (Value.slice Ab nb cb).ownBlock ≠ some X
section
variable {w1 W : World} {p X nq cq nb cb : Nat} {Aq Ab : Option Addr} {Q : List ByteArray} {l : List (Tr 6)} {xs : List Value}
theorem PD.call {W' : World} (h : PD w1 p X Aq nq cq Q Ab nb cb l xs W) (hp : p < w1.heap.size) (hf : Fr W p W') : PD w1 p X Aq nq cq Q Ab nb cb l xs W' := by
  have h1 := h.lo
  exact ⟨h.fr.call hf.cur hf.gr, h.lo, fr_heap hf (by omega) h.x, fr_rdQ h.q hf (fun hb => by have := hb.1; omega), h.bl, own_drawG h.bo hf.gr (by omega),
    h.be.keep (fun b hb hlt => hf.gr.block b hlt (fun e => by injection e with e; have := hb.1; omega)) hf.gr.size, h.vx⟩
theorem PD.ge (h : PD w1 p X Aq nq cq Q Ab nb cb l xs W) : ∀ k, (Value.slice Ab nb cb).ownBlock = some k → w1.heap.size + 1 ≤ k := fun k hk => (h.bo.lt k hk).1
theorem PD.push {W5 W6 : World} {A6 : Option Addr} {n6 c6 : Nat} {P : Nat → Prop} {cs : List Value} {s : Tr 6} (h : PD w1 p X Aq nq cq Q Ab nb cb l xs W) (hp : p < w1.heap.size) (hf : Fr W p W5) (hst : StQ W5 P 5 cs s) (hP : ∀ b, P b → w1.heap.size < b ∧ b ≠ X ∧ some b ≠ (Value.slice Ab nb cb).ownBlock)
    (ho : W6.ownsRow (w1.heap.size + 1) 27 5 (.slice A6 n6 c6) (nb + 1) (xs ++ cs)) (hn : n6 = nb + 1) (hg : W5.grownBy W6 (Value.slice Ab nb cb).ownBlock)
    (hat : (Value.slice A6 n6 c6).ownBlock = (Value.slice Ab nb cb).ownBlock ∨ (Value.slice A6 n6 c6).ownBlock = some W5.heap.size) (hx : W6.heap[X]? = some (.cells #[.slice Aq nq cq, .slice Ab nb cb] 35 (0, 0))) :
    PD w1 p X Aq nq cq Q A6 n6 c6 (l ++ [s]) (xs ++ cs) (W6.setCell ⟨X, 1, none⟩ (.slice A6 n6 c6)) := by
  have h1 := h.lo
  have h5 := h.call hp hf
  have hX5 := lt_of_block h5.x
  have f6 := h5.fr.own hp hg (fun k hk => by have := h5.ge k hk; omega)
  have hsz := hg.size
  have keep : ∀ b, b < W5.heap.size → some b ≠ (Value.slice Ab nb cb).ownBlock → W6.heap[b]? = W5.heap[b]? := fun b hb hne => hg.block b hb hne
  have hv6 : ∀ k, (Value.slice A6 n6 c6).ownBlock = some k → k ≠ X ∧ (k = W5.heap.size ∨ (Value.slice Ab nb cb).ownBlock = some k) := fun k hk => by
    rcases hat with e | e
    · rw [e] at hk
      exact ⟨fun e2 => h.vx (by rw [hk, e2]), .inr hk⟩
    · rw [hk] at e
      injection e with e
      exact ⟨by omega, .inl e⟩
  have hvx : (Value.slice A6 n6 c6).ownBlock ≠ some X := fun e => (hv6 X e).1 rfl
  have fin : ∀ b, (w1.heap.size < b ∧ b ≠ X ∧ some b ≠ (Value.slice Ab nb cb).ownBlock ∧ b < W5.heap.size) → w1.heap.size < b ∧ b ≠ X ∧ some b ≠ (Value.slice A6 n6 c6).ownBlock := fun b hb => ⟨hb.1, hb.2.1, fun e => by
    rcases (hv6 b e.symm).2 with e' | e'
    · have := hb.2.2.2
      omega
    · exact hb.2.2.1 e'.symm⟩
  refine ⟨f6.set hp (show w1.heap.size ≤ X by omega) _, h.lo, heap_set_selfG hx _, ?_, by rw [List.length_append, h.bl, hn]; rfl, ?_, ?_, hvx⟩
  · have a := h5.q.mono (P' := fun b => w1.heap.size < b ∧ b ≠ X ∧ some b ≠ (Value.slice Ab nb cb).ownBlock ∧ b < W5.heap.size) (fun b hlt hb => ⟨hb.1, hb.2.1, hb.2.2, hlt⟩)
    have b := a.keep (w' := W6) (fun b hb hlt => keep b hlt hb.2.2.1) hsz
    exact (b.set_ (p := ⟨X, 1, none⟩) (fun hb => hb.2.1 rfl) _).mono (fun b _ hb => fin b hb)
  · rw [hn] at ho hvx ⊢
    exact own_setfarG ho hvx _
  · have a : ElQ W5 (fun b => w1.heap.size < b ∧ b ≠ X ∧ some b ≠ (Value.slice Ab nb cb).ownBlock) 5 (xs ++ cs) (l ++ [s]) := h5.be.append (ElQ.one (hst.mono (fun b _ hb => hP b hb)))
    have b := (a.mono (P' := fun b => w1.heap.size < b ∧ b ≠ X ∧ some b ≠ (Value.slice Ab nb cb).ownBlock ∧ b < W5.heap.size) (fun b hlt hb => ⟨hb.1, hb.2.1, hb.2.2, hlt⟩)).keep (w' := W6) (fun b hb hlt => keep b hlt hb.2.2.1) hsz
    exact ((b.keep (fun b hb _ => Below.heap_setCell W6 ⟨X, 1, none⟩ _ b (fun e => hb.2.1 e)) (by simp [World.setCell])).mono (fun b _ hb => fin b hb))
end
/-- A drawn program for the checks. -/
def DrewPg (w : World) (e : Ending) (w' : World) : Prop := ∃ (Aq : Option Addr) (cq : Nat) (Q : List ByteArray) (A : Option Addr) (n c : Nat) (l : List (Tr 6)), e = .returned (.agg #[.slice Aq Q.length cq, .slice A n c]) ∧
  RdL w' 0 1 Aq Q.length (strs Q) ∧ (Q.length ≤ 4 ∧ Q.length ≤ cq ∧ cq ≤ maxLen ∧ ∀ s ∈ Q, s.size ≤ 9) ∧ RdT w' 0 6 A n l ∧ (n ≤ c ∧ c ≤ maxLen ∧ szT 6 l ≤ 400000) ∧ Below w.heap.size w w'
theorem PD.done {w w1 W : World} {p X nq cq nb cb : Nat} {Aq Ab : Option Addr} {Q : List ByteArray} {l : List (Tr 6)} {xs : List Value} (h : PD w1 p X Aq nq cq Q Ab nb cb l xs W) (hw : w.heap.size < w1.heap.size) (hb : Below w.heap.size w W) (u0 u1 : Value) (hz : szT 6 l ≤ 400000) (hql : Q.length = nq) (hq4 : nq ≤ 4) (hqc : nq ≤ cq) (hcm : cq ≤ maxLen) (hq9 : ∀ s ∈ Q, s.size ≤ 9) :
    DrewPg w (.returned (.agg #[.slice Aq nq cq, .slice Ab nb cb])) ((W.setCell ⟨w.heap.size, 0, none⟩ u0).setCell ⟨w.heap.size, 1, none⟩ u1) := by
  subst hql
  obtain ⟨_, _, e, h1, h2, _⟩ := rd_of_own h.bo
  injection e with _ _ e
  subst e
  refine ⟨Aq, cq, Q, Ab, nb, cb, l, rfl, ?_, ⟨hq4, hqc, hcm, hq9⟩, ?_, ⟨h1, h2, hz⟩, (by repeat (first | exact Below.refl _ _ | assumption | (refine Below.trans ?_ (Below.mono (by assumption) (by first | omega | (simp; done) | (simp; omega)))) | (with_reducible refine Below.drew ?_) | (with_reducible refine Below.alloc ?_ (by first | omega | (simp; done) | (simp; omega)) _) | (with_reducible refine Below.setCell ?_ (by first | omega | (simp; done) | (simp; omega)) _)))⟩
  · exact ((h.q.set_ (p := ⟨w.heap.size, 0, none⟩) (fun hb => by have := hb.1; simp at this; omega) _).set_ (p := ⟨w.heap.size, 1, none⟩) (fun hb => by have := hb.1; simp at this; omega) _).rd.rdl
  · have r := (h.be.mono (P' := fun b => w.heap.size + 1 ≤ b) (fun b _ hb => by have := hb.1; omega)).tr ((rdQ_of_own h.bo).mono (P' := fun b => w.heap.size + 1 ≤ b) (fun b _ hb => by have hb' : w1.heap.size + 1 ≤ b := hb; omega)) h.bl
    exact RdT.lower (Nat.zero_le _) (RdT.set0 (RdT.set0 (TrQ.rdt (lo := w.heap.size + 1) (fun b hb => hb) r) (by simp) _) (by simp) _)
theorem szS9 : ∀ Q : List ByteArray, (∀ s ∈ Q, s.size ≤ 9) → szS Q ≤ 9 * Q.length := by
  intro Q
  induction Q with
  | nil => intro _; exact Nat.le_refl _
  | cons s Q ih =>
    intro h
    have h1 := h s (by simp)
    have h2 := ih (fun x hx => h x (by simp [hx]))
    show s.size + szS Q ≤ _
    rw [List.length_cons]
    omega
end Go.Proofs.YtbamjfbfipkioaaDoor
namespace Go.Proofs.YtbamjfbfipkioaaDoor
open Go.RowKit
set_option linter.unusedVariables false
section
variable {P : Program} {ops : Array Oper} {Q : Exit → Act → World → Prop}
/-- A region in the order of its text, by an invariant. -/
theorem wpOps_inv {J : Array Bool → Act → World → Prop} (hac : (ops.toList.zipIdx.all fun x => x.1.after.all fun e => decide (e.on < x.2)) = true)
    (hs : ∀ listed a w, listed.size = ops.size → ClosedL .any ops listed → J listed a w → ∀ i ∈ Region.ready .any ops listed, wpOp P ops Q i (fun a' w' => J (listed.setIfInBounds i true) a' w') a w)
    (he : ∀ listed a w, listed.size = ops.size → J listed a w → Region.ready .any ops listed = [] → Q .normal a w) :
    ∀ (n k : Nat) (listed : Array Bool) (a : Act) (w : World), k + n = ops.size → listed.size = ops.size → (∀ i, i < ops.size → listed.getD i false = decide (i < k)) → J listed a w → wpOps P ops Q (List.range' k n) a w := by
  have hon : ∀ (i : Nat) (o : Oper), ops[i]? = some o → ∀ e ∈ o.after, e.on < i := fun i o ho e he => by
    have h1 := List.all_eq_true.1 hac (o, i) (by
      rw [List.mk_mem_zipIdx_iff_getElem?]
      simpa using ho)
    have h2 := Array.all_eq_true'.1 h1 e he
    simpa using h2
  intro n
  induction n with
  | zero =>
    intro k listed a w hk hz hl hJ
    refine he listed a w hz hJ ?_
    rw [List.eq_nil_iff_forall_not_mem]
    intro j hj
    obtain ⟨h1, o, ho, _⟩ := mem_ready.1 hj
    have hjl := (Array.getElem?_eq_some_iff.1 ho).1
    have h2 := hl j hjl
    have hj2 : j < listed.size := by omega
    simp [hj2] at h1 h2
    rw [h1] at h2
    have : j < k := by omega
    simp [this] at h2
  | succ n ih =>
    intro k listed a w hk hz hl hJ
    have hkl : k < ops.size := by omega
    have hkz : k < listed.size := by omega
    rw [List.range'_succ, wpOps_cons]
    have hcl : ClosedL .any ops listed := fun i o ho hi e he _ => by
      have hil := (Array.getElem?_eq_some_iff.1 ho).1
      rw [hl i hil] at hi
      have h1 := hon i o ho e he
      have h2 : i < k := of_decide_eq_true hi
      rw [hl e.on (by omega)]
      exact decide_eq_true (by omega)
    have hmem : k ∈ Region.ready .any ops listed := mem_ready.2 ⟨by
      have h2 := hl k hkl
      simp [hkz] at h2 ⊢
      exact h2, ops[k], Array.getElem?_eq_getElem hkl, fun e he _ => by
      have h1 := hon k ops[k] (Array.getElem?_eq_getElem hkl) e he
      rw [hl e.on (by omega)]
      exact decide_eq_true h1⟩
    refine wpOp_mono (fun a' w' h => ih (k + 1) _ a' w' (by omega) (by simpa using hz) (fun i hi => ?_) h) (hs listed a w hz hcl hJ k hmem)
    by_cases hne : k = i
    · subst hne
      simp [hkz]
    · rw [getD_set_ne false hne, hl i hi]
      by_cases h3 : i < k
      · simp [h3, show i < k + 1 by omega]
      · simp [h3, show ¬ i < k + 1 by omega]
theorem wp_region_invF {id : Nat} {a : Act} {w : World} (hac : (ops.toList.zipIdx.all fun x => x.1.after.all fun e => decide (e.on < x.2)) = true) (J : Array Value → Array Bool → Act → World → Prop) (h0 : ∀ A0 : Array Value, J A0 (Array.replicate ops.size false) ⟨A0, a.defers⟩ w)
    (hs : ∀ listed a' w, listed.size = ops.size → ClosedL .any ops listed → J a.tmps listed a' w → ∀ i ∈ Region.ready .any ops listed, wpOp P ops Q i (fun b w' => J a.tmps (listed.setIfInBounds i true) b w') a' w)
    (he : ∀ listed a' w, listed.size = ops.size → J a.tmps listed a' w → Region.ready .any ops listed = [] → Q .normal a' w) : (Code.region id ops false).wp P Q a w :=
  wp_region (by
    rw [List.range_eq_range']
    exact wpOps_inv hac hs he ops.size 0 (Array.replicate ops.size false) a w (by omega) (by simp) (fun i _ => by rw [rep_false]; simp) (h0 a.tmps))
end
end Go.Proofs.YtbamjfbfipkioaaDoor
namespace Go.Proofs.YtbamjfbfipkioaaDoor
open Go.RowKit
set_option linter.unusedVariables false
def dig (x : Int) : ByteArray := ⟨#[48 + x.toNat.toUInt8]⟩
theorem small10 {x : Int} (h0 : 0 ≤ x) (h1 : x ≤ 9) : x = 0 ∨ x = 1 ∨ x = 2 ∨ x = 3 ∨ x = 4 ∨ x = 5 ∨ x = 6 ∨ x = 7 ∨ x = 8 ∨ x = 9 := by omega
theorem conv_one (W : World) (b : UInt8) : (convert 22 9 (.slice (some ⟨W.heap.size, 0, none⟩) 1 1)).run Tryd.prog (W.alloc (.cells #[.int .u8 (b.toNat : Int)] 5)) = .ok (.string ⟨#[b]⟩) (W.alloc (.cells #[.int .u8 (b.toNat : Int)] 5)) := by
  refine run_convert_bytes_back _ _ _ 5 ⟨W.heap.size, 0, none⟩ 1 [b] Tryd.underlying22 Tryd.underlying5 Tryd.underlying9 (fun j hj => ?_)
  obtain rfl : j = 0 := by simpa using hj
  exact World.cell?_alloc_mark W _ _ _ 0
set_option maxRecDepth 100000 in
set_option maxHeartbeats 2000000 in
theorem FormatInt_spec_0 (w : World) : Calls Tryd.prog 22 #[.int .i64 0] w fun e w' => e = .returned (.string (dig 0)) ∧ Below w.heap.size w w' ∧ w.heap.size ≤ w'.heap.size := by
  go_enter Tryd.func22, Tryd.ntmps22
  go_wp2
  go_ret
  exact ⟨rfl, (by repeat (first | exact Below.refl _ _ | assumption | (refine Below.trans ?_ (Below.mono (by assumption) (by first | omega | (simp; done) | (simp; omega)))) | (with_reducible refine Below.drew ?_) | (with_reducible refine Below.alloc ?_ (by first | omega | (simp; done) | (simp; omega)) _) | (with_reducible refine Below.setCell ?_ (by first | omega | (simp; done) | (simp; omega)) _))), (by first | omega | (simp; done) | (simp; omega))⟩
set_option maxRecDepth 100000 in
set_option maxHeartbeats 2000000 in
theorem FormatInt_spec_1 (w : World) : Calls Tryd.prog 22 #[.int .i64 1] w fun e w' => e = .returned (.string (dig 1)) ∧ Below w.heap.size w w' ∧ w.heap.size ≤ w'.heap.size := by
  have kc : ∀ W : World, (convert 22 9 (.slice (some ⟨W.heap.size, 0, none⟩) 1 1)).run Tryd.prog (W.alloc (.cells #[.int .u8 49] 5)) = .ok (.string ⟨#[49]⟩) (W.alloc (.cells #[.int .u8 49] 5)) := fun W => conv_one W 49
  go_enter Tryd.func22, Tryd.ntmps22
  go_wp2
  refine wp_loop_rounds 2 ?_
  rw [rounds_succ]
  go_wp2
  rw [rounds_succ]
  go_wp2
  go_ret
  exact ⟨rfl, (by repeat (first | exact Below.refl _ _ | assumption | (refine Below.trans ?_ (Below.mono (by assumption) (by first | omega | (simp; done) | (simp; omega)))) | (with_reducible refine Below.drew ?_) | (with_reducible refine Below.alloc ?_ (by first | omega | (simp; done) | (simp; omega)) _) | (with_reducible refine Below.setCell ?_ (by first | omega | (simp; done) | (simp; omega)) _))), (by first | omega | (simp; done) | (simp; omega))⟩
set_option maxRecDepth 100000 in
set_option maxHeartbeats 2000000 in
theorem FormatInt_spec_2 (w : World) : Calls Tryd.prog 22 #[.int .i64 2] w fun e w' => e = .returned (.string (dig 2)) ∧ Below w.heap.size w w' ∧ w.heap.size ≤ w'.heap.size := by
  have kc : ∀ W : World, (convert 22 9 (.slice (some ⟨W.heap.size, 0, none⟩) 1 1)).run Tryd.prog (W.alloc (.cells #[.int .u8 50] 5)) = .ok (.string ⟨#[50]⟩) (W.alloc (.cells #[.int .u8 50] 5)) := fun W => conv_one W 50
  go_enter Tryd.func22, Tryd.ntmps22
  go_wp2
  refine wp_loop_rounds 2 ?_
  rw [rounds_succ]
  go_wp2
  rw [rounds_succ]
  go_wp2
  go_ret
  exact ⟨rfl, (by repeat (first | exact Below.refl _ _ | assumption | (refine Below.trans ?_ (Below.mono (by assumption) (by first | omega | (simp; done) | (simp; omega)))) | (with_reducible refine Below.drew ?_) | (with_reducible refine Below.alloc ?_ (by first | omega | (simp; done) | (simp; omega)) _) | (with_reducible refine Below.setCell ?_ (by first | omega | (simp; done) | (simp; omega)) _))), (by first | omega | (simp; done) | (simp; omega))⟩
set_option maxRecDepth 100000 in
set_option maxHeartbeats 2000000 in
theorem FormatInt_spec_3 (w : World) : Calls Tryd.prog 22 #[.int .i64 3] w fun e w' => e = .returned (.string (dig 3)) ∧ Below w.heap.size w w' ∧ w.heap.size ≤ w'.heap.size := by
  have kc : ∀ W : World, (convert 22 9 (.slice (some ⟨W.heap.size, 0, none⟩) 1 1)).run Tryd.prog (W.alloc (.cells #[.int .u8 51] 5)) = .ok (.string ⟨#[51]⟩) (W.alloc (.cells #[.int .u8 51] 5)) := fun W => conv_one W 51
  go_enter Tryd.func22, Tryd.ntmps22
  go_wp2
  refine wp_loop_rounds 2 ?_
  rw [rounds_succ]
  go_wp2
  rw [rounds_succ]
  go_wp2
  go_ret
  exact ⟨rfl, (by repeat (first | exact Below.refl _ _ | assumption | (refine Below.trans ?_ (Below.mono (by assumption) (by first | omega | (simp; done) | (simp; omega)))) | (with_reducible refine Below.drew ?_) | (with_reducible refine Below.alloc ?_ (by first | omega | (simp; done) | (simp; omega)) _) | (with_reducible refine Below.setCell ?_ (by first | omega | (simp; done) | (simp; omega)) _))), (by first | omega | (simp; done) | (simp; omega))⟩
set_option maxRecDepth 100000 in
set_option maxHeartbeats 2000000 in
theorem FormatInt_spec_4 (w : World) : Calls Tryd.prog 22 #[.int .i64 4] w fun e w' => e = .returned (.string (dig 4)) ∧ Below w.heap.size w w' ∧ w.heap.size ≤ w'.heap.size := by
  have kc : ∀ W : World, (convert 22 9 (.slice (some ⟨W.heap.size, 0, none⟩) 1 1)).run Tryd.prog (W.alloc (.cells #[.int .u8 52] 5)) = .ok (.string ⟨#[52]⟩) (W.alloc (.cells #[.int .u8 52] 5)) := fun W => conv_one W 52
  go_enter Tryd.func22, Tryd.ntmps22
  go_wp2
  refine wp_loop_rounds 2 ?_
  rw [rounds_succ]
  go_wp2
  rw [rounds_succ]
  go_wp2
  go_ret
  exact ⟨rfl, (by repeat (first | exact Below.refl _ _ | assumption | (refine Below.trans ?_ (Below.mono (by assumption) (by first | omega | (simp; done) | (simp; omega)))) | (with_reducible refine Below.drew ?_) | (with_reducible refine Below.alloc ?_ (by first | omega | (simp; done) | (simp; omega)) _) | (with_reducible refine Below.setCell ?_ (by first | omega | (simp; done) | (simp; omega)) _))), (by first | omega | (simp; done) | (simp; omega))⟩
set_option maxRecDepth 100000 in
set_option maxHeartbeats 2000000 in
theorem FormatInt_spec_5 (w : World) : Calls Tryd.prog 22 #[.int .i64 5] w fun e w' => e = .returned (.string (dig 5)) ∧ Below w.heap.size w w' ∧ w.heap.size ≤ w'.heap.size := by
  have kc : ∀ W : World, (convert 22 9 (.slice (some ⟨W.heap.size, 0, none⟩) 1 1)).run Tryd.prog (W.alloc (.cells #[.int .u8 53] 5)) = .ok (.string ⟨#[53]⟩) (W.alloc (.cells #[.int .u8 53] 5)) := fun W => conv_one W 53
  go_enter Tryd.func22, Tryd.ntmps22
  go_wp2
  refine wp_loop_rounds 2 ?_
  rw [rounds_succ]
  go_wp2
  rw [rounds_succ]
  go_wp2
  go_ret
  exact ⟨rfl, (by repeat (first | exact Below.refl _ _ | assumption | (refine Below.trans ?_ (Below.mono (by assumption) (by first | omega | (simp; done) | (simp; omega)))) | (with_reducible refine Below.drew ?_) | (with_reducible refine Below.alloc ?_ (by first | omega | (simp; done) | (simp; omega)) _) | (with_reducible refine Below.setCell ?_ (by first | omega | (simp; done) | (simp; omega)) _))), (by first | omega | (simp; done) | (simp; omega))⟩
set_option maxRecDepth 100000 in
set_option maxHeartbeats 2000000 in
theorem FormatInt_spec_6 (w : World) : Calls Tryd.prog 22 #[.int .i64 6] w fun e w' => e = .returned (.string (dig 6)) ∧ Below w.heap.size w w' ∧ w.heap.size ≤ w'.heap.size := by
  have kc : ∀ W : World, (convert 22 9 (.slice (some ⟨W.heap.size, 0, none⟩) 1 1)).run Tryd.prog (W.alloc (.cells #[.int .u8 54] 5)) = .ok (.string ⟨#[54]⟩) (W.alloc (.cells #[.int .u8 54] 5)) := fun W => conv_one W 54
  go_enter Tryd.func22, Tryd.ntmps22
  go_wp2
  refine wp_loop_rounds 2 ?_
  rw [rounds_succ]
  go_wp2
  rw [rounds_succ]
  go_wp2
  go_ret
  exact ⟨rfl, (by repeat (first | exact Below.refl _ _ | assumption | (refine Below.trans ?_ (Below.mono (by assumption) (by first | omega | (simp; done) | (simp; omega)))) | (with_reducible refine Below.drew ?_) | (with_reducible refine Below.alloc ?_ (by first | omega | (simp; done) | (simp; omega)) _) | (with_reducible refine Below.setCell ?_ (by first | omega | (simp; done) | (simp; omega)) _))), (by first | omega | (simp; done) | (simp; omega))⟩
set_option maxRecDepth 100000 in
set_option maxHeartbeats 2000000 in
theorem FormatInt_spec_7 (w : World) : Calls Tryd.prog 22 #[.int .i64 7] w fun e w' => e = .returned (.string (dig 7)) ∧ Below w.heap.size w w' ∧ w.heap.size ≤ w'.heap.size := by
  have kc : ∀ W : World, (convert 22 9 (.slice (some ⟨W.heap.size, 0, none⟩) 1 1)).run Tryd.prog (W.alloc (.cells #[.int .u8 55] 5)) = .ok (.string ⟨#[55]⟩) (W.alloc (.cells #[.int .u8 55] 5)) := fun W => conv_one W 55
  go_enter Tryd.func22, Tryd.ntmps22
  go_wp2
  refine wp_loop_rounds 2 ?_
  rw [rounds_succ]
  go_wp2
  rw [rounds_succ]
  go_wp2
  go_ret
  exact ⟨rfl, (by repeat (first | exact Below.refl _ _ | assumption | (refine Below.trans ?_ (Below.mono (by assumption) (by first | omega | (simp; done) | (simp; omega)))) | (with_reducible refine Below.drew ?_) | (with_reducible refine Below.alloc ?_ (by first | omega | (simp; done) | (simp; omega)) _) | (with_reducible refine Below.setCell ?_ (by first | omega | (simp; done) | (simp; omega)) _))), (by first | omega | (simp; done) | (simp; omega))⟩
set_option maxRecDepth 100000 in
set_option maxHeartbeats 2000000 in
theorem FormatInt_spec_8 (w : World) : Calls Tryd.prog 22 #[.int .i64 8] w fun e w' => e = .returned (.string (dig 8)) ∧ Below w.heap.size w w' ∧ w.heap.size ≤ w'.heap.size := by
  have kc : ∀ W : World, (convert 22 9 (.slice (some ⟨W.heap.size, 0, none⟩) 1 1)).run Tryd.prog (W.alloc (.cells #[.int .u8 56] 5)) = .ok (.string ⟨#[56]⟩) (W.alloc (.cells #[.int .u8 56] 5)) := fun W => conv_one W 56
  go_enter Tryd.func22, Tryd.ntmps22
  go_wp2
  refine wp_loop_rounds 2 ?_
  rw [rounds_succ]
  go_wp2
  rw [rounds_succ]
  go_wp2
  go_ret
  exact ⟨rfl, (by repeat (first | exact Below.refl _ _ | assumption | (refine Below.trans ?_ (Below.mono (by assumption) (by first | omega | (simp; done) | (simp; omega)))) | (with_reducible refine Below.drew ?_) | (with_reducible refine Below.alloc ?_ (by first | omega | (simp; done) | (simp; omega)) _) | (with_reducible refine Below.setCell ?_ (by first | omega | (simp; done) | (simp; omega)) _))), (by first | omega | (simp; done) | (simp; omega))⟩
set_option maxRecDepth 100000 in
set_option maxHeartbeats 2000000 in
theorem FormatInt_spec_9 (w : World) : Calls Tryd.prog 22 #[.int .i64 9] w fun e w' => e = .returned (.string (dig 9)) ∧ Below w.heap.size w w' ∧ w.heap.size ≤ w'.heap.size := by
  have kc : ∀ W : World, (convert 22 9 (.slice (some ⟨W.heap.size, 0, none⟩) 1 1)).run Tryd.prog (W.alloc (.cells #[.int .u8 57] 5)) = .ok (.string ⟨#[57]⟩) (W.alloc (.cells #[.int .u8 57] 5)) := fun W => conv_one W 57
  go_enter Tryd.func22, Tryd.ntmps22
  go_wp2
  refine wp_loop_rounds 2 ?_
  rw [rounds_succ]
  go_wp2
  rw [rounds_succ]
  go_wp2
  go_ret
  exact ⟨rfl, (by repeat (first | exact Below.refl _ _ | assumption | (refine Below.trans ?_ (Below.mono (by assumption) (by first | omega | (simp; done) | (simp; omega)))) | (with_reducible refine Below.drew ?_) | (with_reducible refine Below.alloc ?_ (by first | omega | (simp; done) | (simp; omega)) _) | (with_reducible refine Below.setCell ?_ (by first | omega | (simp; done) | (simp; omega)) _))), (by first | omega | (simp; done) | (simp; omega))⟩
theorem FormatInt_spec9 (x : Int) (h0 : 0 ≤ x) (h1 : x ≤ 9) (w : World) : Calls Tryd.prog 22 #[.int .i64 x] w fun e w' => e = .returned (.string (dig x)) ∧ Below w.heap.size w w' ∧ w.heap.size ≤ w'.heap.size := by
  rcases small10 h0 h1 with rfl | rfl | rfl | rfl | rfl | rfl | rfl | rfl | rfl | rfl
  · exact FormatInt_spec_0 w
  · exact FormatInt_spec_1 w
  · exact FormatInt_spec_2 w
  · exact FormatInt_spec_3 w
  · exact FormatInt_spec_4 w
  · exact FormatInt_spec_5 w
  · exact FormatInt_spec_6 w
  · exact FormatInt_spec_7 w
  · exact FormatInt_spec_8 w
  · exact FormatInt_spec_9 w
end Go.Proofs.YtbamjfbfipkioaaDoor
