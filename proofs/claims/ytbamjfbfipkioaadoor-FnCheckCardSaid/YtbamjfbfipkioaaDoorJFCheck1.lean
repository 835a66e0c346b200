/- What the calls that this law reaches answer, part 1 of 30. -/
import Derived.WalkKit
import Derived.ProofKit
import Derived.OpenShut
import Derived.Carry
import Derived.Deep.Slices
import Derived.Deep.Fields
import Derived.ChangeSame
import Derived.Deep.Cut
import Derived.Deep.CutBlock
import Derived.Deep.DeepCutAuto
import Derived.Deep.LoopGhost
import Derived.StillTailTactics
import Derived.Deep.QuietTactic
import Derived.BigQuiet
import Derived.Deep.RegionHeld3
import Derived.Deep.RegionLaw
import Derived.Deep.RegionWith
import Derived.Lib.Hide
import Derived.Deep.DeepFit
import Derived.Deep.DeepMust
import Derived.WalkLawsBesides
import Derived.WalkSpells
import Derived.RegionTactic
import Derived.Deep.AppendLies
import Derived.Deep.Draws
import Derived.Maps.AppendAt
import Derived.Laws.OwnMore
import Derived.OwnWalk
import Derived.Outline
import Derived.Laws.Rows
import Derived.IntWalk
import Derived.Lib.SmallJoins
import Derived.Test.YtbamjfbfipkioaaDoorRows
import Derived.Test.YtbamjfbfipkioaaDoorProg
namespace Go.Proofs.YtbamjfbfipkioaaDoor
open Go.ChangeShapes Go.WideShapes Go.RowKit Go.Deep

section
variable {H : Type} {enc : TypeId × Value → H} {P : Program}
theorem trodAll_stays {W W' : World} {sp : Nat → Bool} (hl : laidOutB P = true) : ∀ {ts : List TypeId} {vs : List Value} {ds : List (DataW H)} {ps : List MemPlace},
    (∀ t ∈ ts, P.readableRec t = true ∧ t < P.types.size) → DataW.TrodAll enc P W 0 (fun _ => true) true ts vs ds ps →
    (∀ x ∈ ps, W.sameAt W' x) → (∀ x ∈ ps, sp x.block = true) → DataW.TrodAll enc P W' 0 sp true ts vs ds ps := by
  intro ts
  induction ts with
  | nil =>
    intro vs ds ps _ h _ _
    obtain ⟨rfl, rfl, rfl⟩ := trodAll_nil h
    exact trodAll_mk0
  | cons t ts ih =>
    intro vs ds ps ht h hs hsp
    obtain ⟨v, vs', d, ds', p, q, rfl, rfl, rfl, h0, h1⟩ := trodAll_cons h
    have h2 := ht t (by simp)
    refine trodAll_cons_mk ?_ (ih (fun t' h' => ht t' (by simp [h'])) h1 (fun x hx => hs x (by simp [hx])) (fun x hx => hsp x (by simp [hx])))
    exact WideElems.Trod_stays hl h2.1 h2.2 h0 (fun x hx => hs x (by simp [hx])) (fun x hx => hsp x (by simp [hx]))

theorem post_of_below {f : Func} {s : ChangeSpec} {apart fresh handsOn again : Bool} {W W' : World} {args : Array Value} {v : Value} {ds gs : List (DataW H)} {before pa pv : List MemPlace}
    (hW : DataW.Whole enc P f.params.toList s.vars apart W args.toList ds gs before)
    (hres : ∀ (b : Nat) (sp : Nat → Bool) (hd : Bool), DataW.TrodAll enc P W' b sp hd f.resultTypes.toList (v.resultList f.resultTypes.size) (s.fn H (ds ++ gs)).results [])
    (hargs : ∀ sp : Nat → Bool, (∀ p ∈ before, sp p.block = true) → DataW.TrodAll enc P W' 0 sp true f.params.toList args.toList (s.fn H (ds ++ gs)).args pa)
    (hvars : ∀ sp : Nat → Bool, (∀ p ∈ before, sp p.block = true) → DataW.TrodVars enc P W' sp s.vars (s.fn H (ds ++ gs)).vars pv)
    (hps : before = pa ++ pv) (hb : Below W.heap.size W W')
    (hok : ∀ (j : Nat) (t : TypeId) (r : Value), f.resultTypes[j]? = some t → (v.resultList f.resultTypes.size)[j]? = some r → Value.okWide P W' .any 0 t r) :
    s.post enc P f apart fresh handsOn again W args v W' := by
  have hlt : ∀ p ∈ before, p.block < W.heap.size := fun p hp => hW.lt p hp
  have hold : ∀ p ∈ before, (fun b => decide (b < W.heap.size)) p.block = true := fun p hp => by simpa using hlt p hp
  refine ⟨ds, gs, before, [], pa, pv, hW, hres _ _ _, hargs _ hold, hvars _ hold, World.keptBut_mono (fun p hp => ⟨hp, ?_⟩) (hb.frame (· ∈ before)), fun _ => ?_⟩
  · rw [hps, List.mem_append] at hp
    exact Or.inr hp
  · obtain ⟨_, _, _, _, _, hz, hn⟩ := hW
    refine ⟨hok, _, _, ([] ++ pa) ++ pv, ⟨[] ++ pa, pv, trodAll_append (hargs _ (fun _ _ => rfl)) (hres _ _ _), hvars _ (fun _ _ => rfl), rfl, ?_, ?_⟩, ?_⟩
    · intro b off hp
      have hin : MemPlace.cell b off ∈ before := by rw [hps]; simpa using hp
      rw [hb.frozen (hlt _ hin)]
      exact hz b off hin
    · intro ha
      have := hn ha
      rw [hps] at this
      simpa using this
    · intro p hp _
      rw [hps]
      simpa using hp
end

/-- A call that makes memory and returns a slice of its own: it owns the row xs of n elements; what was there is as it was. -/
def RetRow (E size : Nat) (w : World) (n : Nat) (xs : List Value) (e : Ending) (w' : World) : Prop :=
  ∃ v, e = .returned v ∧ w'.ownsRow w.heap.size E size v n xs ∧ Below w.heap.size w w' ∧ w.heap.size ≤ w'.heap.size

theorem ownsRow_below {w w' : World} {base E size n : Nat} {v : Value} {xs : List Value} (h : w.ownsRow base E size v n xs) (hb : Below w.heap.size w w') : w'.ownsRow base E size v n xs :=
  h.kept (row := none) ⟨hb.os, hb.tape, hb.output, hb.size, fun k hk _ => hb.block k hk⟩ (by cases v.ownBlock <;> simp)
/-- The slice value '.slice A n c' holds the cells xs (n elements of 'size' cells), and lies in the heap. -/
def Rd (w : World) (size : Nat) (A : Option Addr) (n : Nat) (xs : List Value) : Prop :=
  xs.length = n * size ∧ (0 < n → ∃ b off, A = some ⟨b, off, none⟩ ∧ b < w.heap.size ∧ ∀ j u, xs[j]? = some u → w.cell? ⟨b, off + j, none⟩ = some u)
theorem Rd.below {w w' : World} {size n : Nat} {A : Option Addr} {xs : List Value} (h : Rd w size A n xs) (hb : Below w.heap.size w w') : Rd w' size A n xs :=
  ⟨h.1, fun hn => by
    obtain ⟨b, off, e, hl, hc⟩ := h.2 hn
    exact ⟨b, off, e, Nat.lt_of_lt_of_le hl hb.size, fun j u hu => (hb.cell (p := ⟨b, off + j, none⟩) hl).trans (hc j u hu)⟩⟩
theorem Rd.len {w : World} {size n : Nat} {A : Option Addr} {xs : List Value} (h : Rd w size A n xs) : xs.length = n * size := h.1
theorem rd_of_own {w : World} {base E size n : Nat} {v : Value} {xs : List Value} (h : w.ownsRow base E size v n xs) : ∃ A c, v = .slice A n c ∧ n ≤ c ∧ c ≤ maxLen ∧ Rd w size A n xs := by
  rcases h.2 with ⟨rfl, rfl⟩ | ⟨g, cap, cur, rfl, hb, hh, hc, hm, _, _⟩
  · exact ⟨none, 0, rfl, Nat.le_refl _, Nat.zero_le _, h.1, fun h => absurd h (by omega)⟩
  · refine ⟨_, cap, rfl, hc, hm, h.1, fun _ => ⟨g, 0, rfl, (h.lt g rfl).2, fun j u hu => ?_⟩⟩
    have := h.cells (g := g) rfl j u hu
    rwa [Go.WideShapes.add_plain] at this

/-- The cells of boxed arguments stay readable behind whatever happens above. -/
theorem boxcells4 {w w' : World} {b : Nat} {x0 x1 x2 x3 : Value} {t : TypeId} (lay : Below w'.heap.size w' w) (h : w'.heap[b]? = some (.cells #[x0, x1, x2, x3] t (0, 0))) :
    w.cell? ⟨b, 0, none⟩ = some x0 ∧ w.cell? ⟨b, 1, none⟩ = some x1 ∧ w.cell? ⟨b, 2, none⟩ = some x2 ∧ w.cell? ⟨b, 3, none⟩ = some x3 := by
  have h' : w.heap[b]? = some (.cells #[x0, x1, x2, x3] t (0, 0)) := (lay.block b (lt_of_block h)).trans h
  exact ⟨by simp [World.cell?, h'], by simp [World.cell?, h'], by simp [World.cell?, h'], by simp [World.cell?, h']⟩
theorem boxed1_0 (w : World) (o : Obj) : (w.alloc o).heap[w.heap.size]? = some o := heap_alloc_new w o
theorem boxed2_0 (w : World) (o o' : Obj) : ((w.alloc o).alloc o').heap[w.heap.size]? = some o := (Below.heap_alloc _ _ _ (by simp)).trans (heap_alloc_new w o)
theorem boxed2_1 (w : World) (o o' : Obj) : ((w.alloc o).alloc o').heap[w.heap.size + 1]? = some o' := by
  have h := heap_alloc_new (w.alloc o) o'
  simpa using h
theorem boxed3_0 (w : World) (o o' o'' : Obj) : (((w.alloc o).alloc o').alloc o'').heap[w.heap.size]? = some o := (Below.heap_alloc _ _ _ (by simp; omega)).trans (boxed2_0 w o o')
theorem boxed3_1 (w : World) (o o' o'' : Obj) : (((w.alloc o).alloc o').alloc o'').heap[w.heap.size + 1]? = some o' := (Below.heap_alloc _ _ _ (by simp)).trans (boxed2_1 w o o')
theorem boxed3_2 (w : World) (o o' o'' : Obj) : (((w.alloc o).alloc o').alloc o'').heap[w.heap.size + 2]? = some o'' := by
  have h := heap_alloc_new ((w.alloc o).alloc o') o''
  simpa using h
theorem cell_at {w : World} {b j : Nat} {cs : Array Value} {t : TypeId} {u : Value} (h : w.heap[b]? = some (.cells cs t (0, 0))) (hj : cs[j]? = some u) : w.cell? ⟨b, j, none⟩ = some u := by simp [World.cell?, h, hj]
theorem below_drewN {B : Nat} {a w : World} (h : Below B a w) (n : Nat) : Below B a (w.drewN n) := ⟨h.os, h.tape, h.output, h.size, h.block⟩
theorem Rd.drew {w : World} {size n : Nat} {A : Option Addr} {xs : List Value} (h : Rd w size A n xs) : Rd w.drew size A n xs := h
theorem Rd.drewN {w : World} {size n : Nat} {A : Option Addr} {xs : List Value} (h : Rd w size A n xs) (k : Nat) : Rd (w.drewN k) size A n xs := h
theorem Rd.take {w : World} {n : Nat} {A : Option Addr} {xs : List Value} (h : Rd w 1 A n xs) {t : Nat} (ht : t ≤ n) : Rd w 1 A t (xs.take t) :=
  ⟨by rw [List.length_take, h.1]; omega, fun h0 => by
    obtain ⟨b, off, e, hl, hc⟩ := h.2 (by omega)
    exact ⟨b, off, e, hl, fun j u hu => hc j u (by
      have hj := (List.getElem?_eq_some_iff.1 hu).1
      rw [List.length_take] at hj
      rw [← hu, List.getElem?_take, if_pos (by omega)])⟩⟩
theorem grown_below {w w' : World} {B : Nat} {row : Option Nat} (h : w.grownBy w' row) (hB : B ≤ w.heap.size) (hr : ∀ k, row = some k → B ≤ k) : Below B w w' := (Below.refl _ _).grown h hB hr

theorem flat_length {α : Type} (f : α → List Value) (k : Nat) (hf : ∀ x, (f x).length = k) : ∀ l : List α, (l.flatMap f).length = l.length * k := by
  intro l
  induction l with
  | nil => simp
  | cons x l ih => simp only [List.flatMap_cons, List.length_append, hf, ih, List.length_cons]; rw [Nat.add_mul]; omega
end Go.Proofs.YtbamjfbfipkioaaDoor
namespace Go.Proofs.YtbamjfbfipkioaaDoor
theorem own : ownKnob Tryd.prog.godebug = none := by kernel_rfl
theorem laidOut : laidOutB Tryd.prog = true := by kernel_rfl
end Go.Proofs.YtbamjfbfipkioaaDoor
namespace Go.Proofs.YtbamjfbfipkioaaDoor
open Go.ChangeShapes Go.WideShapes Go.RowKit Go.Deep

theorem exists_list {α : Type} {n : Nat} {p : Nat → α → Prop} (h : ∀ i, i < n → ∃ g, p i g) : ∃ l : List α, l.length = n ∧ ∀ (i : Nat) (g : α), l[i]? = some g → p i g := by
  induction n with
  | zero => exact ⟨[], rfl, by simp⟩
  | succ n ih =>
    obtain ⟨l, hl, hp⟩ := ih (fun i hi => h i (by omega))
    obtain ⟨g, hg⟩ := h n (by omega)
    refine ⟨l ++ [g], by simp [hl], fun i g' hi => ?_⟩
    by_cases hin : i < n
    · rw [List.getElem?_append_left (by omega)] at hi
      exact hp i g' hi
    · have hi' := (List.getElem?_eq_some_iff.1 hi).1
      simp at hi'
      obtain rfl : i = n := by omega
      rw [List.getElem?_append_right (by omega), hl] at hi
      simp at hi
      subst hi
      exact hg
theorem flat_get {α : Type} {f : α → List Value} {k : Nat} (hf : ∀ x, (f x).length = k) : ∀ (l : List α) (j : Nat) (u : Value), (l.flatMap f)[j]? = some u → ∃ g, l[j / k]? = some g ∧ (f g)[j % k]? = some u := by
  intro l
  induction l with
  | nil => intro j u h; simp at h
  | cons x l ih =>
    intro j u h
    rw [List.flatMap_cons] at h
    by_cases hj : j < k
    · rw [List.getElem?_append_left (by rw [hf]; exact hj)] at h
      exact ⟨x, by rw [Nat.div_eq_of_lt hj]; rfl, by rw [Nat.mod_eq_of_lt hj]; exact h⟩
    · have hk : k ≤ j := by omega
      rw [List.getElem?_append_right (by rw [hf]; exact hk), hf] at h
      obtain ⟨g, h1, h2⟩ := ih _ u h
      have hk0 : 0 < k := by
        rcases Nat.eq_zero_or_pos k with h0 | h0
        · subst h0
          have := (List.getElem?_eq_some_iff.1 h2).1
          rw [hf] at this
          omega
        · exact h0
      refine ⟨g, ?_, ?_⟩
      · rw [Nat.div_eq_sub_div hk0 hk]
        simpa using h1
      · rw [Nat.mod_eq_sub_mod hk]
        exact h2
theorem flat_at {α : Type} {f : α → List Value} {k : Nat} (hf : ∀ x, (f x).length = k) : ∀ (l : List α) (i : Nat) (g : α) (j : Nat), l[i]? = some g → j < k → (l.flatMap f)[i * k + j]? = (f g)[j]? := by
  intro l
  induction l with
  | nil => intro i g j h; simp at h
  | cons x l ih =>
    intro i g j h hj
    rw [List.flatMap_cons]
    cases i with
    | zero =>
      simp at h
      subst h
      rw [List.getElem?_append_left (by rw [hf]; omega)]
      simp
    | succ i =>
      rw [List.getElem?_append_right (by rw [hf, Nat.add_mul]; omega), hf, ← ih i g j (by simpa using h) hj]
      congr 1
      rw [Nat.add_mul]
      omega
section
variable {H : Type} {enc : TypeId × Value → H} {P : Program} {w : World} {base : Nat} {spare : Nat → Bool} {held : Bool}
theorem slice_one {r : Reach} {b0 fuel : Nat} {t e : TypeId} {v : Value} {x : DataW H × List MemPlace} (hv : Value.okWide P w r b0 t v) (ht : P.underlying t = some (.slice e))
    (h : DataW.trod enc P w base spare held fuel t v.cells.toList = some x) : DataW.trod enc P w base spare held fuel t [v] = some x := by
  obtain ⟨a, len, cap, rfl⟩ := okWide_slice ht hv
  exact h
theorem block_of_cell {a : Addr} {u : Value} (h : w.cell? a = some u) : a.block < w.heap.size := by
  unfold World.cell? at h
  rcases Nat.lt_or_ge a.block w.heap.size with hl | hl
  · exact hl
  · rw [Array.getElem?_eq_none hl] at h
    simp at h
/-- A slice that can be read, its elements of 'size' cells each that are 'cellsf g' for some plain g. -/
theorem rd_of_slice {α : Type} {t e : TypeId} {size fuel : Nat} {cellsf : α → List Value} {v : Value} {x : DataW H × List MemPlace} (ht : P.underlying t = some (.slice e)) (hC : P.cellsOf e = size) (hsz : 0 < size)
    (hE : ∀ (n : Nat) (cs : List Value) (y : DataW H × List MemPlace), DataW.trod enc P w base spare held n e cs = some y → ∃ g : α, cs = cellsf g)
    (hlen : ∀ g, (cellsf g).length = size) (h : DataW.trod enc P w base spare held fuel t [v] = some x) :
    ∃ (A : Option Addr) (n c : Nat) (l : List α), v = .slice A n c ∧ n ≤ c ∧ c ≤ maxLen ∧ l.length = n ∧ Rd w size A n (l.flatMap cellsf) := by
  rcases open_slice ht h with ⟨h0, _⟩ | ⟨a, len, cap, m, n, D, Pl, hcs, hb, hl, hm, hmm, hx, hi⟩
  · simp at h0
    subst h0
    exact ⟨none, 0, 0, [], rfl, Nat.le_refl _, Nat.zero_le _, rfl, by simp, fun h => absurd h (by omega)⟩
  · simp at hcs
    subst hcs
    have hlm : len ≤ m := by rw [hmm]; split <;> omega
    obtain ⟨l, hll, hp⟩ := exists_list (n := len) (p := fun i g => w.cells? base (a.add (i * P.cellsOf e)) (P.cellsOf e) = some (cellsf g)) (fun i hi' => by
      obtain ⟨cs', hc, ht'⟩ := hi i (by omega)
      obtain ⟨g, rfl⟩ := hE _ _ _ ht'
      exact ⟨g, hc⟩)
    refine ⟨some a, len, cap, l, rfl, hl, hm, hll, by rw [flat_length cellsf size hlen, hll], fun h0 => ?_⟩
    have hcell : ∀ (j : Nat) (u : Value), (l.flatMap cellsf)[j]? = some u → w.cell? (a.add j) = some u := by
      intro j u hu
      obtain ⟨g, h1, h2⟩ := flat_get hlen l j u hu
      have h3 := hp _ _ h1
      rw [hC] at h3
      obtain ⟨_, _, hat⟩ := World.cells?_some h3
      have h4 := hat (j % size) (Nat.mod_lt _ hsz)
      rw [Go.Deep.add_add, Nat.mul_comm, Nat.div_add_mod, h2] at h4
      exact h4
    have hj0 : ∃ u, (l.flatMap cellsf)[0]? = some u := ⟨_, List.getElem?_eq_getElem (by rw [flat_length cellsf size hlen, hll]; exact Nat.mul_pos h0 hsz)⟩
    obtain ⟨u0, hu0⟩ := hj0
    have hc0 := hcell 0 u0 hu0
    obtain ⟨b, off, spot⟩ := a
    have hspot : spot = none := by simpa [Addr.add] using World.cell?_spot hc0
    subst hspot
    refine ⟨b, off, rfl, by simpa [Addr.add] using block_of_cell hc0, fun j u hu => ?_⟩
    have := hcell j u hu
    rwa [add_plain] at this
end
end Go.Proofs.YtbamjfbfipkioaaDoor
namespace Go.Proofs.YtbamjfbfipkioaaDoor
open Go.RowKit
section
variable {P : Program} (w : World)
theorem run_append_nil (base : Nat) (t ty e : TypeId) (i : TypeInfo) (size : Nat) (ht : P.underlying t = some (.slice e)) (hi : P.info? e = some i)
    (v : Value) (n : Nat) (xs : List Value) (hown : w.ownsRow base e size v n xs) (c : Nat) : (Builtin.append_ #[t, t] ty #[v, .slice none 0 c]).run P w = .ok v w := by
  rcases hown.2 with ⟨rfl, rfl⟩ | ⟨g, cap, cur, rfl, _, _, hnc, _⟩
  · simp [Builtin.append_, run_underlying ht, sizeOf, typeInfo, hi, Builtin.lenOf, Builtin.firstCells]
  · simp [Builtin.append_, run_underlying ht, sizeOf, typeInfo, hi, Builtin.lenOf, Builtin.firstCells, hnc, storeCells]
theorem run_append_rd (base : Nat) (t ty e : TypeId) (i : TypeInfo) (z : Value) (size bytes : Nat) (ht : P.underlying t = some (.slice e)) (hi : P.info? e = some i) (hz : i.zero = some z)
    (hsize : i.size = size) (hby : i.bytes = bytes) (hzs : z.cells.size = size) (hsz : 0 < size)
    (v : Value) (n : Nat) (xs : List Value) (hown : w.ownsRow base e size v n xs) (A : Option Addr) (m c : Nat) (news : List Value) (hr : Rd w size A m news) (h1 : ∀ u ∈ news, u.oneCell' = true)
    (h63 : n + m ≤ maxLen) (hbytes : (n + m) * bytes ≤ 140737488355328) (hbase : base ≤ w.heap.size) :
    ∃ v' w', (Builtin.append_ #[t, t] ty #[v, .slice A m c]).run P w = .ok v' w' ∧ w'.ownsRow base e size v' (n + m) (xs ++ news) ∧ w.grownBy w' v.ownBlock ∧ (v'.ownBlock = v.ownBlock ∨ v'.ownBlock = some w.heap.size) := by
  rcases A with _ | ad
  · have hm : m = 0 := by
      rcases Nat.eq_zero_or_pos m with h0 | h0
      · exact h0
      · obtain ⟨_, _, h, _⟩ := hr.2 h0
        cases h
    subst hm
    have hn : news = [] := List.eq_nil_of_length_eq_zero (by simpa using hr.1)
    subst hn
    exact ⟨v, w, run_append_nil w base t ty e i size ht hi v n xs hown c, by simpa using hown, World.grownBy.refl w _, .inl rfl⟩
  · have hcells : ∀ j u, news[j]? = some u → w.cell? (ad.add j) = some u := by
      intro j u hu
      rcases Nat.eq_zero_or_pos m with h0 | h0
      · subst h0
        have hn : news = [] := List.eq_nil_of_length_eq_zero (by simpa using hr.1)
        subst hn
        simp at hu
      · obtain ⟨b, off, h, _, hc⟩ := hr.2 h0
        injection h with h
        subst h
        rw [Go.WideShapes.add_plain]
        exact hc j u hu
    obtain ⟨v', w', hrun, h2, h3, _, h5⟩ := run_append_own_at (P := P) w base t ty e i z size bytes ht hi hz hsize hby hzs hsz v n xs hown ad m c news hr.1 hcells h1 h63 hbytes hbase
    exact ⟨v', w', hrun, h2, h3, h5⟩
theorem wpList_append_rd {ops : Array Oper} {rest : List Oper} {o : Oper} {a : Act} {Q : Exit → Act → World → Prop} (hgd : o.guard = none) (s x : Operand) (t : TypeId)
    (ho : o.op = .call { callee := .builtin .append, args := #[s, x], argTypes := #[t, t] })
    (base : Nat) (e : TypeId) (i : TypeInfo) (z : Value) (size bytes : Nat) (ht : P.underlying t = some (.slice e)) (hi : P.info? e = some i) (hz : i.zero = some z)
    (hsize : i.size = size) (hby : i.bytes = bytes) (hzs : z.cells.size = size) (hsz : 0 < size)
    (v : Value) (n : Nat) (xs : List Value) (hs : a.eval s = v) (hown : w.ownsRow base e size v n xs)
    (A : Option Addr) (m c : Nat) (news : List Value) (hx : a.eval x = .slice A m c) (hr : Rd w size A m news) (h1 : ∀ u ∈ news, u.oneCell' = true)
    (h63 : n + m ≤ maxLen) (hbytes : (n + m) * bytes ≤ 140737488355328) (hbase : base ≤ w.heap.size)
    (h : ∀ v' w', w'.ownsRow base e size v' (n + m) (xs ++ news) → w.grownBy w' v.ownBlock → (v'.ownBlock = v.ownBlock ∨ v'.ownBlock = some w.heap.size) → wpList P ops Q rest (a.put o.dst v') w') : wpList P ops Q (o :: rest) a w := by
  refine wpList_plain hgd fun _ hK => ?_
  obtain ⟨v', w', hrun, h2, h3, h4⟩ := run_append_rd (P := P) w base t o.type e i z size bytes ht hi hz hsize hby hzs hsz v n xs hown A m c news hr h1 h63 hbytes hbase
  unfold Oper.wp execOp
  simp only [ho, resolve, invoke, builtin, Sem.run_bind, Sem.run_pure, Result.andThen_ok, List.map_toArray, List.map_cons, List.map_nil, hs, hx, hrun]
  exact hK _ _ (h v' w' h2 h3 h4)
end
theorem own_ge {w : World} {base e size n : Nat} {v : Value} {xs : List Value} (h : w.ownsRow base e size v n xs) : ∀ k, v.ownBlock = some k → base ≤ k := fun k hk => (h.lt k hk).1
theorem rd_own {w : World} {base E size n c : Nat} {A : Option Addr} {xs : List Value} (h : w.ownsRow base E size (.slice A n c) n xs) : Rd w size A n xs := by
  obtain ⟨A', c', e, _, _, r⟩ := rd_of_own h
  injection e with e1 e2 e3
  rw [e1]
  exact r
/-- The row 'out' that an empty literal slice begins with. -/
theorem own_empty (w : World) (e size : Nat) : (w.alloc (.cells #[] e)).ownsRow w.heap.size e size (.slice (some ⟨w.heap.size, 0, none⟩) 0 0) 0 [] := World.ownsRow_lit w #[] 0 (Nat.le_refl _) (Nat.zero_le _) (by simp)
end Go.Proofs.YtbamjfbfipkioaaDoor
namespace Go.Proofs.YtbamjfbfipkioaaDoor
open Go.RowKit

/-- A statement without its body. -/
structure SH where
  k : Int
  word : ByteArray
  args : List ByteArray
  count : Int
/-- Statements of depth at most d. -/
def Tr : Nat → Type
  | 0 => Empty
  | d + 1 => SH × List (Tr d)

/-- A statement's head and its body. -/
def hdT {d : Nat} (s : Tr (d + 1)) : SH := (show SH × List (Tr d) from s).1
def bdT {d : Nat} (s : Tr (d + 1)) : List (Tr d) := (show SH × List (Tr d) from s).2
def mkT {d : Nat} (h : SH) (b : List (Tr d)) : Tr (d + 1) := (show SH × List (Tr d) from (h, b))
/-- As 'Rd', and no block below lo. -/
def RdL (w : World) (lo size : Nat) (A : Option Addr) (n : Nat) (xs : List Value) : Prop :=
  xs.length = n * size ∧ (0 < n → ∃ b off, A = some ⟨b, off, none⟩ ∧ lo ≤ b ∧ b < w.heap.size ∧ ∀ j u, xs[j]? = some u → w.cell? ⟨b, off + j, none⟩ = some u)
/-- The five cells of a statement at block b, offset o. -/
def SCells (w : World) (b o : Nat) (s : SH) (Aa : Option Addr) (ca : Nat) (Ab : Option Addr) (nb cb : Nat) : Prop :=
  w.cell? ⟨b, o, none⟩ = some (.int .i64 s.k) ∧ w.cell? ⟨b, o + 1, none⟩ = some (.string s.word) ∧ w.cell? ⟨b, o + 2, none⟩ = some (.slice Aa s.args.length ca) ∧
  w.cell? ⟨b, o + 3, none⟩ = some (.int .i64 s.count) ∧ w.cell? ⟨b, o + 4, none⟩ = some (.slice Ab nb cb)
def strs (l : List ByteArray) : List Value := l.map Value.string
/-- The slice (A, n) reads as the statements l; no block below lo. -/
def RdT (w : World) (lo : Nat) : (d : Nat) → Option Addr → Nat → List (Tr d) → Prop
  | 0, _, n, l => l.length = n ∧ n = 0
  | d + 1, A, n, l => l.length = n ∧ (0 < n → ∃ b off, A = some ⟨b, off, none⟩ ∧ lo ≤ b ∧ b < w.heap.size ∧ ∀ (i : Nat) (s : Tr (d + 1)), l[i]? = some s →
      ∃ Aa ca Ab nb cb, SCells w b (off + i * 5) (hdT s) Aa ca Ab nb cb ∧ RdL w lo 1 Aa (hdT s).args.length (strs (hdT s).args) ∧ RdT w lo d Ab nb (bdT s) ∧ (hdT s).args.length ≤ ca)
section
variable {w w' : World} {lo lo' size : Nat}
theorem RdL.rd {A : Option Addr} {n : Nat} {xs : List Value} (h : RdL w lo size A n xs) : Rd w size A n xs :=
  ⟨h.1, fun h0 => by obtain ⟨b, off, e, _, hb, hc⟩ := h.2 h0; exact ⟨b, off, e, hb, hc⟩⟩
theorem Rd.rdl {A : Option Addr} {n : Nat} {xs : List Value} (h : Rd w size A n xs) : RdL w 0 size A n xs :=
  ⟨h.1, fun h0 => by obtain ⟨b, off, e, hb, hc⟩ := h.2 h0; exact ⟨b, off, e, Nat.zero_le _, hb, hc⟩⟩
theorem RdL.keep {A : Option Addr} {n : Nat} {xs : List Value} (h : RdL w lo size A n xs) (hk : ∀ b o, lo ≤ b → b < w.heap.size → w'.cell? ⟨b, o, none⟩ = w.cell? ⟨b, o, none⟩) (hs : w.heap.size ≤ w'.heap.size) : RdL w' lo size A n xs :=
  ⟨h.1, fun h0 => by
    obtain ⟨b, off, e, hl, hb, hc⟩ := h.2 h0
    exact ⟨b, off, e, hl, Nat.lt_of_lt_of_le hb hs, fun j u hu => (hk _ _ hl hb).trans (hc j u hu)⟩⟩
theorem RdL.lower {A : Option Addr} {n : Nat} {xs : List Value} (h : RdL w lo size A n xs) (hl : lo' ≤ lo) : RdL w lo' size A n xs :=
  ⟨h.1, fun h0 => by
    obtain ⟨b, off, e, h1, hb, hc⟩ := h.2 h0
    exact ⟨b, off, e, Nat.le_trans hl h1, hb, hc⟩⟩
theorem SCells.keep {b o : Nat} {s : SH} {Aa Ab : Option Addr} {ca nb cb : Nat} (h : SCells w b o s Aa ca Ab nb cb) (hk : ∀ o, w'.cell? ⟨b, o, none⟩ = w.cell? ⟨b, o, none⟩) : SCells w' b o s Aa ca Ab nb cb :=
  ⟨(hk _).trans h.1, (hk _).trans h.2.1, (hk _).trans h.2.2.1, (hk _).trans h.2.2.2.1, (hk _).trans h.2.2.2.2⟩
theorem RdT.len : ∀ {d : Nat} {A : Option Addr} {n : Nat} {l : List (Tr d)}, RdT w lo d A n l → l.length = n
  | 0, _, _, _, h => h.1
  | _ + 1, _, _, _, h => h.1
theorem RdT.keep (hk : ∀ b o, lo ≤ b → b < w.heap.size → w'.cell? ⟨b, o, none⟩ = w.cell? ⟨b, o, none⟩) (hs : w.heap.size ≤ w'.heap.size) :
    ∀ {d : Nat} {A : Option Addr} {n : Nat} {l : List (Tr d)}, RdT w lo d A n l → RdT w' lo d A n l := by
  intro d
  induction d with
  | zero => intro A n l h; exact h
  | succ d ih =>
    intro A n l h
    refine ⟨h.1, fun h0 => ?_⟩
    obtain ⟨b, off, e, hl, hb, hc⟩ := h.2 h0
    refine ⟨b, off, e, hl, Nat.lt_of_lt_of_le hb hs, fun i s hi => ?_⟩
    obtain ⟨Aa, ca, Ab, nb, cb, h1, h2, h3, h4⟩ := hc i s hi
    exact ⟨Aa, ca, Ab, nb, cb, h1.keep (fun o => hk b o hl hb), h2.keep hk hs, ih h3, h4⟩
theorem RdT.lower (hl : lo' ≤ lo) : ∀ {d : Nat} {A : Option Addr} {n : Nat} {l : List (Tr d)}, RdT w lo d A n l → RdT w lo' d A n l := by
  intro d
  induction d with
  | zero => intro A n l h; exact h
  | succ d ih =>
    intro A n l h
    refine ⟨h.1, fun h0 => ?_⟩
    obtain ⟨b, off, e, h1, hb, hc⟩ := h.2 h0
    refine ⟨b, off, e, Nat.le_trans hl h1, hb, fun i s hi => ?_⟩
    obtain ⟨Aa, ca, Ab, nb, cb, h1, h2, h3, h4⟩ := hc i s hi
    exact ⟨Aa, ca, Ab, nb, cb, h1, h2.lower hl, ih h3, h4⟩
theorem RdT.below {d : Nat} {A : Option Addr} {n : Nat} {l : List (Tr d)} (h : RdT w lo d A n l) (hb : Below w.heap.size w w') : RdT w' lo d A n l :=
  h.keep (fun _ _ _ hlt => hb.cell hlt) hb.size
theorem RdL.below {A : Option Addr} {n : Nat} {xs : List Value} (h : RdL w lo size A n xs) (hb : Below w.heap.size w w') : RdL w' lo size A n xs :=
  h.keep (fun _ _ _ hlt => hb.cell hlt) hb.size
/-- An element of a slice of statements. -/
theorem RdT.at_ {d : Nat} {A : Option Addr} {n i : Nat} {l : List (Tr (d + 1))} (h : RdT w lo (d + 1) A n l) (hi : i < n) :
    ∃ (b off : Nat) (s : Tr (d + 1)) (Aa : Option Addr) (ca : Nat) (Ab : Option Addr) (nb cb : Nat), A = some ⟨b, off, none⟩ ∧ b < w.heap.size ∧ l[i]? = some s ∧
      SCells w b (off + i * 5) (hdT s) Aa ca Ab nb cb ∧ RdL w lo 1 Aa (hdT s).args.length (strs (hdT s).args) ∧ RdT w lo d Ab nb (bdT s) := by
  obtain ⟨b, off, e, _, hb, hc⟩ := h.2 (by omega)
  have hl : i < l.length := by rw [h.1]; exact hi
  obtain ⟨s, hs⟩ : ∃ s, l[i]? = some s := ⟨_, List.getElem?_eq_getElem hl⟩
  obtain ⟨Aa, ca, Ab, nb, cb, h1, h2, h3, _⟩ := hc i s hs
  exact ⟨b, off, s, Aa, ca, Ab, nb, cb, e, hb, hs, h1, h2, h3⟩
/-- An element of a slice of statements, its names' capacity too. -/
theorem RdT.at_c {d : Nat} {A : Option Addr} {n i : Nat} {l : List (Tr (d + 1))} (h : RdT w lo (d + 1) A n l) (hi : i < n) :
    ∃ (b off : Nat) (s : Tr (d + 1)) (Aa : Option Addr) (ca : Nat) (Ab : Option Addr) (nb cb : Nat), A = some ⟨b, off, none⟩ ∧ b < w.heap.size ∧ l[i]? = some s ∧
      SCells w b (off + i * 5) (hdT s) Aa ca Ab nb cb ∧ RdL w lo 1 Aa (hdT s).args.length (strs (hdT s).args) ∧ RdT w lo d Ab nb (bdT s) ∧ (hdT s).args.length ≤ ca := by
  obtain ⟨b, off, e, _, hb, hc⟩ := h.2 (by omega)
  have hl : i < l.length := by rw [h.1]; exact hi
  obtain ⟨s, hs⟩ : ∃ s, l[i]? = some s := ⟨_, List.getElem?_eq_getElem hl⟩
  obtain ⟨Aa, ca, Ab, nb, cb, h1, h2, h3, h4⟩ := hc i s hs
  exact ⟨b, off, s, Aa, ca, Ab, nb, cb, e, hb, hs, h1, h2, h3, h4⟩
end
end Go.Proofs.YtbamjfbfipkioaaDoor
namespace Go.Proofs.YtbamjfbfipkioaaDoor
open Go.RowKit
set_option linter.unusedVariables false
theorem strs_at {l : List ByteArray} {k : Nat} {s : ByteArray} (h : l[k]? = some s) : (strs l)[k]? = some (.string s) := by simp [strs, h]
theorem info_str : (Tryd.prog.info? 9).map (fun i => (i.zero, i.size, i.bytes)) = some (some (.string ByteArray.empty), 1, 16) := by kernel_rfl
/-- What a list of strings counts in a law's size. -/
def szS : List ByteArray → Nat
  | [] => 0
  | s :: l => s.size + szS l
theorem szS_take (l : List ByteArray) (t : Nat) (s : ByteArray) (h : l[t]? = some s) : szS (l.take (t + 1)) = szS (l.take t) + s.size := by
  induction l generalizing t with
  | nil => simp at h
  | cons x l ih =>
    cases t with
    | zero => simp at h; subst h; simp [szS]
    | succ t => simp only [List.take_succ_cons, szS, ih t (by simpa using h)]; omega
theorem szS_take_le (l : List ByteArray) (t : Nat) : szS (l.take t) ≤ szS l := by
  induction l generalizing t with
  | nil => simp [szS]
  | cons x l ih =>
    cases t with
    | zero => simp [szS]
    | succ t => simp only [List.take_succ_cons, szS]; have := ih t; omega
end Go.Proofs.YtbamjfbfipkioaaDoor
namespace Go.Proofs.YtbamjfbfipkioaaDoor
open Go.RowKit
set_option linter.unusedVariables false
/-- What a list of statements counts in a law's size. -/
def szT : (d : Nat) → List (Tr d) → Nat
  | 0, _ => 0
  | d + 1, l => l.length + (l.map fun (s : Tr (d + 1)) => (hdT s).word.size + ((hdT s).args.length + szS (hdT s).args + szT d (bdT s))).sum
def szE {d : Nat} (s : Tr (d + 1)) : Nat := (hdT s).word.size + ((hdT s).args.length + szS (hdT s).args + szT d (bdT s))
def sumE {d : Nat} (l : List (Tr (d + 1))) : Nat := (l.map szE).sum
theorem szT_succ {d : Nat} (l : List (Tr (d + 1))) : szT (d + 1) l = l.length + sumE l := rfl
theorem sumE_take {d : Nat} (l : List (Tr (d + 1))) (t : Nat) (s : Tr (d + 1)) (h : l[t]? = some s) : sumE (l.take (t + 1)) = sumE (l.take t) + szE s := by
  rw [List.take_add_one, h]
  simp [sumE]
theorem sumE_take_le {d : Nat} (l : List (Tr (d + 1))) (t : Nat) : sumE (l.take t) ≤ sumE l := by
  have h : sumE l = sumE (l.take t) + sumE (l.drop t) := by
    unfold sumE
    rw [← List.sum_append, ← List.map_append, List.take_append_drop]
  omega
theorem szT_zero_len {w : World} {lo : Nat} {A : Option Addr} {n : Nat} {l : List (Tr 0)} (h : RdT w lo 0 A n l) : n = 0 := h.2
end Go.Proofs.YtbamjfbfipkioaaDoor
namespace Go.Proofs.YtbamjfbfipkioaaDoor
open Go.RowKit
set_option linter.unusedVariables false
section
variable {w w' : World} {lo : Nat}
theorem setCell_keep {p : Addr} (hp : p.block < lo) (u : Value) : ∀ b o, lo ≤ b → b < w.heap.size → (w.setCell p u).cell? ⟨b, o, none⟩ = w.cell? ⟨b, o, none⟩ :=
  fun b o hb _ => World.cell?_setCell_other w p ⟨b, o, none⟩ u (fun e => by subst e; simp at hp; omega)
theorem size_setCell (p : Addr) (u : Value) : (w.setCell p u).heap.size = w.heap.size := by simp [World.setCell]
theorem RdT.set_ {d n : Nat} {A : Option Addr} {l : List (Tr d)} (h : RdT w lo d A n l) {p : Addr} (hp : p.block < lo) (u : Value) : RdT (w.setCell p u) lo d A n l :=
  h.keep (setCell_keep hp u) (by rw [size_setCell]; exact Nat.le_refl _)
theorem RdL.set_ {size n : Nat} {A : Option Addr} {xs : List Value} (h : RdL w lo size A n xs) {p : Addr} (hp : p.block < lo) (u : Value) : RdL (w.setCell p u) lo size A n xs :=
  h.keep (setCell_keep hp u) (by rw [size_setCell]; exact Nat.le_refl _)
theorem heap_set_self {g i : Nat} {t : TypeId} {cs : Array Value} (h : w.heap[g]? = some (.cells cs t (0, 0))) (u : Value) : (w.setCell ⟨g, i, none⟩ u).heap[g]? = some (.cells (cs.setIfInBounds i u) t (0, 0)) := by
  simp [World.setCell, Array.getElem?_modify, h]
theorem heap_set_far {g : Nat} {o : Obj} {p : Addr} (h : w.heap[g]? = some o) (hp : g ≠ p.block) (u : Value) : (w.setCell p u).heap[g]? = some o := (Below.heap_setCell w p u g hp).trans h
theorem boxcells5 {b : Nat} {x0 x1 x2 x3 x4 : Value} {t : TypeId} (lay : Below w'.heap.size w' w) (h : w'.heap[b]? = some (.cells #[x0, x1, x2, x3, x4] t (0, 0))) :
    w.cell? ⟨b, 0, none⟩ = some x0 ∧ w.cell? ⟨b, 1, none⟩ = some x1 ∧ w.cell? ⟨b, 2, none⟩ = some x2 ∧ w.cell? ⟨b, 3, none⟩ = some x3 ∧ w.cell? ⟨b, 4, none⟩ = some x4 := by
  have h' : w.heap[b]? = some (.cells #[x0, x1, x2, x3, x4] t (0, 0)) := (lay.block b (lt_of_block h)).trans h
  exact ⟨by simp [World.cell?, h'], by simp [World.cell?, h'], by simp [World.cell?, h'], by simp [World.cell?, h'], by simp [World.cell?, h']⟩
theorem boxfree {b : Nat} {cs : Array Value} {t : TypeId} (lay : Below w'.heap.size w' w) (h : w'.heap[b]? = some (.cells cs t (0, 0))) (j : Nat) : w.frozen? ⟨b, j, none⟩ = false := by
  have h' : w.heap[b]? = some (.cells cs t (0, 0)) := (lay.block b (lt_of_block h)).trans h
  simp [World.frozen?, h']
end
theorem szT_mem {d : Nat} {l : List (Tr (d + 1))} {t : Nat} {s : Tr (d + 1)} (h : l[t]? = some s) : szE s ≤ sumE l := by
  have h1 := sumE_take l t s h
  have h2 := sumE_take_le l (t + 1)
  omega
theorem info_Stmt : (Tryd.prog.info? 27).map (fun i => (i.zero, i.size, i.bytes)) = some (some (.agg #[.int .i64 0, .string ⟨#[]⟩, .slice none 0 0, .int .i64 0, .slice none 0 0]), 5, 80) := by kernel_rfl
end Go.Proofs.YtbamjfbfipkioaaDoor
namespace Go.Proofs.YtbamjfbfipkioaaDoor
open Go.RowKit
set_option linter.unusedVariables false
theorem RdT.drew {w : World} {lo d n : Nat} {A : Option Addr} {l : List (Tr d)} (h : RdT w lo d A n l) : RdT w.drew lo d A n l := RdT.keep (w := w) (w' := w.drew) (fun _ _ _ _ => rfl) (Nat.le_refl _) h
theorem RdT.drewN {w : World} {lo d n : Nat} {A : Option Addr} {l : List (Tr d)} (h : RdT w lo d A n l) (k : Nat) : RdT (w.drewN k) lo d A n l := RdT.keep (w := w) (w' := w.drewN k) (fun _ _ _ _ => rfl) (Nat.le_refl _) h
end Go.Proofs.YtbamjfbfipkioaaDoor
namespace Go.Proofs.YtbamjfbfipkioaaDoor
open Go.RowKit

def inB (n lo hi : Int) : Bool := decide (lo ≤ n ∧ n ≤ hi)
theorem inB_t {n lo hi : Int} (h1 : lo ≤ n) (h2 : n ≤ hi) : inB n lo hi = true := by simp [inB, h1, h2]
theorem inB_f {n lo hi : Int} (h : n < lo ∨ hi < n) : inB n lo hi = false := by simp [inB]; omega
theorem inB_iff {n lo hi : Int} : inB n lo hi = true ↔ lo ≤ n ∧ n ≤ hi := by simp [inB]
theorem inB_not {n lo hi : Int} : inB n lo hi = false ↔ n < lo ∨ hi < n := by simp [inB]; omega

set_option maxRecDepth 100000 in
theorem in_any (n lo hi : Int) (w : World) : Calls Tryd.prog 27 #[.int .i64 n, .int .i64 lo, .int .i64 hi] w fun e w' => e = .returned (.bool (inB n lo hi)) ∧ w = w' := by
  by_cases h1 : lo ≤ n
  · by_cases h2 : n ≤ hi
    · rw [inB_t h1 h2]
      go_enter Tryd.func27, Tryd.ntmps27
      go_wp2
      go_ret
      exact ⟨rfl, rfl⟩
    · rw [inB_f (Or.inr (by omega))]
      have h3 : decide (n ≤ hi) = false := by simpa using h2
      clear h2
      go_enter Tryd.func27, Tryd.ntmps27
      go_wp2
      go_ret
      exact ⟨rfl, rfl⟩
  · rw [inB_f (Or.inl (by omega))]
    have h3 : decide (lo ≤ n) = false := by simpa using h1
    clear h1
    go_enter Tryd.func27, Tryd.ntmps27
    go_wp2
    go_ret
    exact ⟨rfl, rfl⟩
set_option maxRecDepth 100000 in
theorem l1In_any (n lo hi : Int) (w : World) : Calls Tryd.prog 30 #[.int .i64 n, .int .i64 lo, .int .i64 hi] w fun e w' => e = .returned (.bool (inB n lo hi)) ∧ w = w' := by
  by_cases h1 : lo ≤ n
  · by_cases h2 : n ≤ hi
    · rw [inB_t h1 h2]
      go_enter Tryd.func30, Tryd.ntmps30
      go_wp2
      go_ret
      exact ⟨rfl, rfl⟩
    · rw [inB_f (Or.inr (by omega))]
      have h3 : decide (n ≤ hi) = false := by simpa using h2
      clear h2
      go_enter Tryd.func30, Tryd.ntmps30
      go_wp2
      go_ret
      exact ⟨rfl, rfl⟩
  · rw [inB_f (Or.inl (by omega))]
    have h3 : decide (lo ≤ n) = false := by simpa using h1
    clear h1
    go_enter Tryd.func30, Tryd.ntmps30
    go_wp2
    go_ret
    exact ⟨rfl, rfl⟩
end Go.Proofs.YtbamjfbfipkioaaDoor
namespace Go.Proofs.YtbamjfbfipkioaaDoor
open Go.RowKit

def ar (k : Int) : Nat := if inB k 1 8 then 1 else if inB k 9 11 then 2 else if k = 12 then 3 else 0
theorem ar_le (k : Int) : ar k ≤ 3 := by
  unfold ar
  split
  · omega
  · split
    · omega
    · split <;> omega
set_option maxRecDepth 100000 in
theorem Arity_impl (k : Int) (w : World) : Calls Tryd.prog 24 #[.int .i64 k] w fun e w' => e = .returned (.int .i64 (ar k)) ∧ w = w' := by
  cases h1 : inB k 1 8
  · cases h2 : inB k 9 11
    · by_cases h3 : k = 12
      · subst h3
        go_enter Tryd.func24, Tryd.ntmps24
        go_wp2_with (go_at_call 27; refine (in_any _ _ _ _).mono ?_; rintro e w' ⟨rfl, rfl⟩)
        go_ret
        exact ⟨rfl, rfl⟩
      · have e : ar k = 0 := by simp [ar, h1, h2, h3]
        rw [e]
        have h4 : (k == 12) = false := beq_eq_false_iff_ne.2 h3
        clear h3 e
        go_enter Tryd.func24, Tryd.ntmps24
        go_wp2_with (go_at_call 27; refine (in_any _ _ _ _).mono ?_; rintro e w' ⟨rfl, rfl⟩)
        go_ret
        exact ⟨rfl, rfl⟩
    · have e : ar k = 2 := by simp [ar, h1, h2]
      rw [e]
      clear e
      go_enter Tryd.func24, Tryd.ntmps24
      go_wp2_with (go_at_call 27; refine (in_any _ _ _ _).mono ?_; rintro e w' ⟨rfl, rfl⟩)
      go_ret
      exact ⟨rfl, rfl⟩
  · have e : ar k = 1 := by simp [ar, h1]
    rw [e]
    clear e
    go_enter Tryd.func24, Tryd.ntmps24
    go_wp2_with (go_at_call 27; refine (in_any _ _ _ _).mono ?_; rintro e w' ⟨rfl, rfl⟩)
    go_ret
    exact ⟨rfl, rfl⟩
set_option maxRecDepth 100000 in
theorem Arity_spec (k : Int) (w : World) : Calls Tryd.prog 47 #[.int .i64 k] w fun e w' => e = .returned (.int .i64 (ar k)) ∧ w = w' := by
  cases h1 : inB k 1 8
  · cases h2 : inB k 9 11
    · by_cases h3 : k = 12
      · subst h3
        go_enter Tryd.func47, Tryd.ntmps47
        go_wp2_with (go_at_call 30; refine (l1In_any _ _ _ _).mono ?_; rintro e w' ⟨rfl, rfl⟩)
        go_ret
        exact ⟨rfl, rfl⟩
      · have e : ar k = 0 := by simp [ar, h1, h2, h3]
        rw [e]
        have h4 : (k == 12) = false := beq_eq_false_iff_ne.2 h3
        clear h3 e
        go_enter Tryd.func47, Tryd.ntmps47
        go_wp2_with (go_at_call 30; refine (l1In_any _ _ _ _).mono ?_; rintro e w' ⟨rfl, rfl⟩)
        go_ret
        exact ⟨rfl, rfl⟩
    · have e : ar k = 2 := by simp [ar, h1, h2]
      rw [e]
      clear e
      go_enter Tryd.func47, Tryd.ntmps47
      go_wp2_with (go_at_call 30; refine (l1In_any _ _ _ _).mono ?_; rintro e w' ⟨rfl, rfl⟩)
      go_ret
      exact ⟨rfl, rfl⟩
  · have e : ar k = 1 := by simp [ar, h1]
    rw [e]
    clear e
    go_enter Tryd.func47, Tryd.ntmps47
    go_wp2_with (go_at_call 30; refine (l1In_any _ _ _ _).mono ?_; rintro e w' ⟨rfl, rfl⟩)
    go_ret
    exact ⟨rfl, rfl⟩

theorem info_int : (Tryd.prog.info? 3).map (fun i => (i.zero, i.size, i.bytes)) = some (some (.int .i64 0), 1, 8) := by kernel_rfl
end Go.Proofs.YtbamjfbfipkioaaDoor
