/- What the calls that this law reaches answer, part 1 of 16. -/
import Derived.WalkKit
import Derived.ProofKit
import Derived.OpenShut
import Derived.Carry
import Derived.Deep.Slices
import Derived.Deep.Fields
import Derived.ChangeSame
import Derived.Deep.Cut
import Derived.Deep.CutBlock
import Derived.Deep.DeepCutAuto
import Derived.Deep.LoopGhost
import Derived.StillTailTactics
import Derived.Deep.QuietTactic
import Derived.BigQuiet
import Derived.Deep.RegionHeld3
import Derived.Deep.RegionLaw
import Derived.Deep.RegionWith
import Derived.Lib.Hide
import Derived.Deep.DeepFit
import Derived.Deep.DeepMust
import Derived.WalkLawsBesides
import Derived.WalkSpells
import Derived.RegionTactic
import Derived.Deep.AppendLies
import Derived.Deep.Draws
import Derived.Maps.AppendAt
import Derived.Laws.OwnMore
import Derived.OwnWalk
import Derived.Outline
import Derived.Laws.Rows
import Derived.IntWalk
import Derived.Lib.SmallJoins
import Derived.Test.YthkbckkghnbonaaGreatDoorRows
import Derived.Test.YthkbckkghnbonaaGreatDoorProg
import Derived.Test.YthkbckkghnbonaaGreatDoorTie
import Derived.Test.YthkbckkghnbonaaGreatDoorCards
import Derived.LaidMore
import Derived.LaidLaws
import Derived.MakeChecks
import Derived.ChangeVars
import Derived.SliceStrings
import Derived.SevenTiedAt
import Derived.Stop.Joined
import Derived.Stop.LaidErr
namespace Go.Proofs.YthkbckkghnbonaaGreatDoor
open Go.ChangeShapes Go.WideShapes Go.RowKit Go.Deep

section
variable {H : Type} {enc : TypeId × Value → H} {P : Program}
theorem trodAll_stays {W W' : World} {sp : Nat → Bool} (hl : laidOutB P = true) : ∀ {ts : List TypeId} {vs : List Value} {ds : List (DataW H)} {ps : List MemPlace},
    (∀ t ∈ ts, P.readableRec t = true ∧ t < P.types.size) → DataW.TrodAll enc P W 0 (fun _ => true) true ts vs ds ps →
    (∀ x ∈ ps, W.sameAt W' x) → (∀ x ∈ ps, sp x.block = true) → DataW.TrodAll enc P W' 0 sp true ts vs ds ps := by
  intro ts
  induction ts with
  | nil =>
    intro vs ds ps _ h _ _
    obtain ⟨rfl, rfl, rfl⟩ := trodAll_nil h
    exact trodAll_mk0
  | cons t ts ih =>
    intro vs ds ps ht h hs hsp
    obtain ⟨v, vs', d, ds', p, q, rfl, rfl, rfl, h0, h1⟩ := trodAll_cons h
    have h2 := ht t (by simp)
    refine trodAll_cons_mk ?_ (ih (fun t' h' => ht t' (by simp [h'])) h1 (fun x hx => hs x (by simp [hx])) (fun x hx => hsp x (by simp [hx])))
    exact WideElems.Trod_stays hl h2.1 h2.2 h0 (fun x hx => hs x (by simp [hx])) (fun x hx => hsp x (by simp [hx]))

theorem post_of_below {f : Func} {s : ChangeSpec} {apart fresh handsOn again : Bool} {W W' : World} {args : Array Value} {v : Value} {ds gs : List (DataW H)} {before pa pv : List MemPlace}
    (hW : DataW.Whole enc P f.params.toList s.vars apart W args.toList ds gs before)
    (hres : ∀ (b : Nat) (sp : Nat → Bool) (hd : Bool), DataW.TrodAll enc P W' b sp hd f.resultTypes.toList (v.resultList f.resultTypes.size) (s.fn H (ds ++ gs)).results [])
    (hargs : ∀ sp : Nat → Bool, (∀ p ∈ before, sp p.block = true) → DataW.TrodAll enc P W' 0 sp true f.params.toList args.toList (s.fn H (ds ++ gs)).args pa)
    (hvars : ∀ sp : Nat → Bool, (∀ p ∈ before, sp p.block = true) → DataW.TrodVars enc P W' sp s.vars (s.fn H (ds ++ gs)).vars pv)
    (hps : before = pa ++ pv) (hb : Below W.heap.size W W')
    (hok : ∀ (j : Nat) (t : TypeId) (r : Value), f.resultTypes[j]? = some t → (v.resultList f.resultTypes.size)[j]? = some r → Value.okWide P W' .any 0 t r) :
    s.post enc P f apart fresh handsOn again W args v W' := by
  have hlt : ∀ p ∈ before, p.block < W.heap.size := fun p hp => hW.lt p hp
  have hold : ∀ p ∈ before, (fun b => decide (b < W.heap.size)) p.block = true := fun p hp => by simpa using hlt p hp
  refine ⟨ds, gs, before, [], pa, pv, hW, hres _ _ _, hargs _ hold, hvars _ hold, World.keptBut_mono (fun p hp => ⟨hp, ?_⟩) (hb.frame (· ∈ before)), fun _ => ?_⟩
  · rw [hps, List.mem_append] at hp
    exact Or.inr hp
  · obtain ⟨_, _, _, _, _, hz, hn⟩ := hW
    refine ⟨hok, _, _, ([] ++ pa) ++ pv, ⟨[] ++ pa, pv, trodAll_append (hargs _ (fun _ _ => rfl)) (hres _ _ _), hvars _ (fun _ _ => rfl), rfl, ?_, ?_⟩, ?_⟩
    · intro b off hp
      have hin : MemPlace.cell b off ∈ before := by rw [hps]; simpa using hp
      rw [hb.frozen (hlt _ hin)]
      exact hz b off hin
    · intro ha
      have := hn ha
      rw [hps] at this
      simpa using this
    · intro p hp _
      rw [hps]
      simpa using hp
end

/-- A call that makes memory and returns a slice of its own: it owns the row xs of n elements; what was there is as it was. -/
def RetRow (E size : Nat) (w : World) (n : Nat) (xs : List Value) (e : Ending) (w' : World) : Prop :=
  ∃ v, e = .returned v ∧ w'.ownsRow w.heap.size E size v n xs ∧ Below w.heap.size w w' ∧ w.heap.size ≤ w'.heap.size

theorem ownsRow_below {w w' : World} {base E size n : Nat} {v : Value} {xs : List Value} (h : w.ownsRow base E size v n xs) (hb : Below w.heap.size w w') : w'.ownsRow base E size v n xs :=
  h.kept (row := none) ⟨hb.os, hb.tape, hb.output, hb.size, fun k hk _ => hb.block k hk⟩ (by cases v.ownBlock <;> simp)
/-- The slice value '.slice A n c' holds the cells xs (n elements of 'size' cells), and lies in the heap. -/
def Rd (w : World) (size : Nat) (A : Option Addr) (n : Nat) (xs : List Value) : Prop :=
  xs.length = n * size ∧ (0 < n → ∃ b off, A = some ⟨b, off, none⟩ ∧ b < w.heap.size ∧ ∀ j u, xs[j]? = some u → w.cell? ⟨b, off + j, none⟩ = some u)
theorem Rd.below {w w' : World} {size n : Nat} {A : Option Addr} {xs : List Value} (h : Rd w size A n xs) (hb : Below w.heap.size w w') : Rd w' size A n xs :=
  ⟨h.1, fun hn => by
    obtain ⟨b, off, e, hl, hc⟩ := h.2 hn
    exact ⟨b, off, e, Nat.lt_of_lt_of_le hl hb.size, fun j u hu => (hb.cell (p := ⟨b, off + j, none⟩) hl).trans (hc j u hu)⟩⟩
theorem Rd.len {w : World} {size n : Nat} {A : Option Addr} {xs : List Value} (h : Rd w size A n xs) : xs.length = n * size := h.1
theorem rd_of_own {w : World} {base E size n : Nat} {v : Value} {xs : List Value} (h : w.ownsRow base E size v n xs) : ∃ A c, v = .slice A n c ∧ n ≤ c ∧ c ≤ maxLen ∧ Rd w size A n xs := by
  rcases h.2 with ⟨rfl, rfl⟩ | ⟨g, cap, cur, rfl, hb, hh, hc, hm, _, _⟩
  · exact ⟨none, 0, rfl, Nat.le_refl _, Nat.zero_le _, h.1, fun h => absurd h (by omega)⟩
  · refine ⟨_, cap, rfl, hc, hm, h.1, fun _ => ⟨g, 0, rfl, (h.lt g rfl).2, fun j u hu => ?_⟩⟩
    have := h.cells (g := g) rfl j u hu
    rwa [Go.WideShapes.add_plain] at this

/-- The cells of boxed arguments stay readable behind whatever happens above. -/
theorem boxcells4 {w w' : World} {b : Nat} {x0 x1 x2 x3 : Value} {t : TypeId} (lay : Below w'.heap.size w' w) (h : w'.heap[b]? = some (.cells #[x0, x1, x2, x3] t (0, 0))) :
    w.cell? ⟨b, 0, none⟩ = some x0 ∧ w.cell? ⟨b, 1, none⟩ = some x1 ∧ w.cell? ⟨b, 2, none⟩ = some x2 ∧ w.cell? ⟨b, 3, none⟩ = some x3 := by
  have h' : w.heap[b]? = some (.cells #[x0, x1, x2, x3] t (0, 0)) := (lay.block b (lt_of_block h)).trans h
  exact ⟨by simp [World.cell?, h'], by simp [World.cell?, h'], by simp [World.cell?, h'], by simp [World.cell?, h']⟩
theorem boxed1_0 (w : World) (o : Obj) : (w.alloc o).heap[w.heap.size]? = some o := heap_alloc_new w o
theorem boxed2_0 (w : World) (o o' : Obj) : ((w.alloc o).alloc o').heap[w.heap.size]? = some o := (Below.heap_alloc _ _ _ (by simp)).trans (heap_alloc_new w o)
theorem boxed2_1 (w : World) (o o' : Obj) : ((w.alloc o).alloc o').heap[w.heap.size + 1]? = some o' := by
  have h := heap_alloc_new (w.alloc o) o'
  simpa using h
theorem cell_at {w : World} {b j : Nat} {cs : Array Value} {t : TypeId} {u : Value} (h : w.heap[b]? = some (.cells cs t (0, 0))) (hj : cs[j]? = some u) : w.cell? ⟨b, j, none⟩ = some u := by simp [World.cell?, h, hj]
theorem quiet_left {P : Program} {f : FuncId} {args : Array Value} {w : World} {n : Nat} {v : Value}
    (h : Calls P f args (w.drewN n) fun e w' => e = .returned v ∧ w.drewN n = w') : Calls P f args (w.drewN n) fun e w'' => e = .returned v ∧ ∃ m, w'' = w.drewN m :=
  h.mono fun _ _ ⟨he, hm⟩ => ⟨he, n, hm.symm⟩
theorem below_drewN {B : Nat} {a w : World} (h : Below B a w) (n : Nat) : Below B a (w.drewN n) := ⟨h.os, h.tape, h.output, h.size, h.block⟩
theorem Rd.drew {w : World} {size n : Nat} {A : Option Addr} {xs : List Value} (h : Rd w size A n xs) : Rd w.drew size A n xs := h
theorem Rd.drewN {w : World} {size n : Nat} {A : Option Addr} {xs : List Value} (h : Rd w size A n xs) (k : Nat) : Rd (w.drewN k) size A n xs := h
theorem Rd.take {w : World} {n : Nat} {A : Option Addr} {xs : List Value} (h : Rd w 1 A n xs) {t : Nat} (ht : t ≤ n) : Rd w 1 A t (xs.take t) :=
  ⟨by rw [List.length_take, h.1]; omega, fun h0 => by
    obtain ⟨b, off, e, hl, hc⟩ := h.2 (by omega)
    exact ⟨b, off, e, hl, fun j u hu => hc j u (by
      have hj := (List.getElem?_eq_some_iff.1 hu).1
      rw [List.length_take] at hj
      rw [← hu, List.getElem?_take, if_pos (by omega)])⟩⟩
theorem flat_length {α : Type} (f : α → List Value) (k : Nat) (hf : ∀ x, (f x).length = k) : ∀ l : List α, (l.flatMap f).length = l.length * k := by
  intro l
  induction l with
  | nil => simp
  | cons x l ih => simp only [List.flatMap_cons, List.length_append, hf, ih, List.length_cons]; rw [Nat.add_mul]; omega
end Go.Proofs.YthkbckkghnbonaaGreatDoor
namespace Go.Proofs.YthkbckkghnbonaaGreatDoor
theorem own : ownKnob Tryz.prog.godebug = none := by kernel_rfl
theorem laidOut : laidOutB Tryz.prog = true := by kernel_rfl
end Go.Proofs.YthkbckkghnbonaaGreatDoor
namespace Go.Proofs.YthkbckkghnbonaaGreatDoor
open Go.ChangeShapes Go.WideShapes Go.RowKit Go.Deep

theorem exists_list {α : Type} {n : Nat} {p : Nat → α → Prop} (h : ∀ i, i < n → ∃ g, p i g) : ∃ l : List α, l.length = n ∧ ∀ (i : Nat) (g : α), l[i]? = some g → p i g := by
  induction n with
  | zero => exact ⟨[], rfl, by simp⟩
  | succ n ih =>
    obtain ⟨l, hl, hp⟩ := ih (fun i hi => h i (by omega))
    obtain ⟨g, hg⟩ := h n (by omega)
    refine ⟨l ++ [g], by simp [hl], fun i g' hi => ?_⟩
    by_cases hin : i < n
    · rw [List.getElem?_append_left (by omega)] at hi
      exact hp i g' hi
    · have hi' := (List.getElem?_eq_some_iff.1 hi).1
      simp at hi'
      obtain rfl : i = n := by omega
      rw [List.getElem?_append_right (by omega), hl] at hi
      simp at hi
      subst hi
      exact hg
theorem flat_get {α : Type} {f : α → List Value} {k : Nat} (hf : ∀ x, (f x).length = k) : ∀ (l : List α) (j : Nat) (u : Value), (l.flatMap f)[j]? = some u → ∃ g, l[j / k]? = some g ∧ (f g)[j % k]? = some u := by
  intro l
  induction l with
  | nil => intro j u h; simp at h
  | cons x l ih =>
    intro j u h
    rw [List.flatMap_cons] at h
    by_cases hj : j < k
    · rw [List.getElem?_append_left (by rw [hf]; exact hj)] at h
      exact ⟨x, by rw [Nat.div_eq_of_lt hj]; rfl, by rw [Nat.mod_eq_of_lt hj]; exact h⟩
    · have hk : k ≤ j := by omega
      rw [List.getElem?_append_right (by rw [hf]; exact hk), hf] at h
      obtain ⟨g, h1, h2⟩ := ih _ u h
      have hk0 : 0 < k := by
        rcases Nat.eq_zero_or_pos k with h0 | h0
        · subst h0
          have := (List.getElem?_eq_some_iff.1 h2).1
          rw [hf] at this
          omega
        · exact h0
      refine ⟨g, ?_, ?_⟩
      · rw [Nat.div_eq_sub_div hk0 hk]
        simpa using h1
      · rw [Nat.mod_eq_sub_mod hk]
        exact h2
theorem flat_at {α : Type} {f : α → List Value} {k : Nat} (hf : ∀ x, (f x).length = k) : ∀ (l : List α) (i : Nat) (g : α) (j : Nat), l[i]? = some g → j < k → (l.flatMap f)[i * k + j]? = (f g)[j]? := by
  intro l
  induction l with
  | nil => intro i g j h; simp at h
  | cons x l ih =>
    intro i g j h hj
    rw [List.flatMap_cons]
    cases i with
    | zero =>
      simp at h
      subst h
      rw [List.getElem?_append_left (by rw [hf]; omega)]
      simp
    | succ i =>
      rw [List.getElem?_append_right (by rw [hf, Nat.add_mul]; omega), hf, ← ih i g j (by simpa using h) hj]
      congr 1
      rw [Nat.add_mul]
      omega
section
variable {H : Type} {enc : TypeId × Value → H} {P : Program} {w : World} {base : Nat} {spare : Nat → Bool} {held : Bool}
theorem slice_one {r : Reach} {b0 fuel : Nat} {t e : TypeId} {v : Value} {x : DataW H × List MemPlace} (hv : Value.okWide P w r b0 t v) (ht : P.underlying t = some (.slice e))
    (h : DataW.trod enc P w base spare held fuel t v.cells.toList = some x) : DataW.trod enc P w base spare held fuel t [v] = some x := by
  obtain ⟨a, len, cap, rfl⟩ := okWide_slice ht hv
  exact h
theorem block_of_cell {a : Addr} {u : Value} (h : w.cell? a = some u) : a.block < w.heap.size := by
  unfold World.cell? at h
  rcases Nat.lt_or_ge a.block w.heap.size with hl | hl
  · exact hl
  · rw [Array.getElem?_eq_none hl] at h
    simp at h
/-- A slice that can be read, its elements of 'size' cells each that are 'cellsf g' for some plain g. -/
theorem rd_of_slice {α : Type} {t e : TypeId} {size fuel : Nat} {cellsf : α → List Value} {v : Value} {x : DataW H × List MemPlace} (ht : P.underlying t = some (.slice e)) (hC : P.cellsOf e = size) (hsz : 0 < size)
    (hE : ∀ (n : Nat) (cs : List Value) (y : DataW H × List MemPlace), DataW.trod enc P w base spare held n e cs = some y → ∃ g : α, cs = cellsf g)
    (hlen : ∀ g, (cellsf g).length = size) (h : DataW.trod enc P w base spare held fuel t [v] = some x) :
    ∃ (A : Option Addr) (n c : Nat) (l : List α), v = .slice A n c ∧ n ≤ c ∧ c ≤ maxLen ∧ l.length = n ∧ Rd w size A n (l.flatMap cellsf) := by
  rcases open_slice ht h with ⟨h0, _⟩ | ⟨a, len, cap, m, n, D, Pl, hcs, hb, hl, hm, hmm, hx, hi⟩
  · simp at h0
    subst h0
    exact ⟨none, 0, 0, [], rfl, Nat.le_refl _, Nat.zero_le _, rfl, by simp, fun h => absurd h (by omega)⟩
  · simp at hcs
    subst hcs
    have hlm : len ≤ m := by rw [hmm]; split <;> omega
    obtain ⟨l, hll, hp⟩ := exists_list (n := len) (p := fun i g => w.cells? base (a.add (i * P.cellsOf e)) (P.cellsOf e) = some (cellsf g)) (fun i hi' => by
      obtain ⟨cs', hc, ht'⟩ := hi i (by omega)
      obtain ⟨g, rfl⟩ := hE _ _ _ ht'
      exact ⟨g, hc⟩)
    refine ⟨some a, len, cap, l, rfl, hl, hm, hll, by rw [flat_length cellsf size hlen, hll], fun h0 => ?_⟩
    have hcell : ∀ (j : Nat) (u : Value), (l.flatMap cellsf)[j]? = some u → w.cell? (a.add j) = some u := by
      intro j u hu
      obtain ⟨g, h1, h2⟩ := flat_get hlen l j u hu
      have h3 := hp _ _ h1
      rw [hC] at h3
      obtain ⟨_, _, hat⟩ := World.cells?_some h3
      have h4 := hat (j % size) (Nat.mod_lt _ hsz)
      rw [Go.Deep.add_add, Nat.mul_comm, Nat.div_add_mod, h2] at h4
      exact h4
    have hj0 : ∃ u, (l.flatMap cellsf)[0]? = some u := ⟨_, List.getElem?_eq_getElem (by rw [flat_length cellsf size hlen, hll]; exact Nat.mul_pos h0 hsz)⟩
    obtain ⟨u0, hu0⟩ := hj0
    have hc0 := hcell 0 u0 hu0
    obtain ⟨b, off, spot⟩ := a
    have hspot : spot = none := by simpa [Addr.add] using World.cell?_spot hc0
    subst hspot
    refine ⟨b, off, rfl, by simpa [Addr.add] using block_of_cell hc0, fun j u hu => ?_⟩
    have := hcell j u hu
    rwa [add_plain] at this
end
end Go.Proofs.YthkbckkghnbonaaGreatDoor
namespace Go.Proofs.YthkbckkghnbonaaGreatDoor
open Go.RowKit
section
variable {P : Program} (w : World)
theorem run_append_nil (base : Nat) (t ty e : TypeId) (i : TypeInfo) (size : Nat) (ht : P.underlying t = some (.slice e)) (hi : P.info? e = some i)
    (v : Value) (n : Nat) (xs : List Value) (hown : w.ownsRow base e size v n xs) (c : Nat) : (Builtin.append_ #[t, t] ty #[v, .slice none 0 c]).run P w = .ok v w := by
  rcases hown.2 with ⟨rfl, rfl⟩ | ⟨g, cap, cur, rfl, _, _, hnc, _⟩
  · simp [Builtin.append_, run_underlying ht, sizeOf, typeInfo, hi, Builtin.lenOf, Builtin.firstCells]
  · simp [Builtin.append_, run_underlying ht, sizeOf, typeInfo, hi, Builtin.lenOf, Builtin.firstCells, hnc, storeCells]
theorem run_append_rd (base : Nat) (t ty e : TypeId) (i : TypeInfo) (z : Value) (size bytes : Nat) (ht : P.underlying t = some (.slice e)) (hi : P.info? e = some i) (hz : i.zero = some z)
    (hsize : i.size = size) (hby : i.bytes = bytes) (hzs : z.cells.size = size) (hsz : 0 < size)
    (v : Value) (n : Nat) (xs : List Value) (hown : w.ownsRow base e size v n xs) (A : Option Addr) (m c : Nat) (news : List Value) (hr : Rd w size A m news) (h1 : ∀ u ∈ news, u.oneCell' = true)
    (h63 : n + m ≤ maxLen) (hbytes : (n + m) * bytes ≤ 140737488355328) (hbase : base ≤ w.heap.size) :
    ∃ v' w', (Builtin.append_ #[t, t] ty #[v, .slice A m c]).run P w = .ok v' w' ∧ w'.ownsRow base e size v' (n + m) (xs ++ news) ∧ w.grownBy w' v.ownBlock ∧ (v'.ownBlock = v.ownBlock ∨ v'.ownBlock = some w.heap.size) := by
  rcases A with _ | ad
  · have hm : m = 0 := by
      rcases Nat.eq_zero_or_pos m with h0 | h0
      · exact h0
      · obtain ⟨_, _, h, _⟩ := hr.2 h0
        cases h
    subst hm
    have hn : news = [] := List.eq_nil_of_length_eq_zero (by simpa using hr.1)
    subst hn
    exact ⟨v, w, run_append_nil w base t ty e i size ht hi v n xs hown c, by simpa using hown, World.grownBy.refl w _, .inl rfl⟩
  · have hcells : ∀ j u, news[j]? = some u → w.cell? (ad.add j) = some u := by
      intro j u hu
      rcases Nat.eq_zero_or_pos m with h0 | h0
      · subst h0
        have hn : news = [] := List.eq_nil_of_length_eq_zero (by simpa using hr.1)
        subst hn
        simp at hu
      · obtain ⟨b, off, h, _, hc⟩ := hr.2 h0
        injection h with h
        subst h
        rw [Go.WideShapes.add_plain]
        exact hc j u hu
    obtain ⟨v', w', hrun, h2, h3, _, h5⟩ := run_append_own_at (P := P) w base t ty e i z size bytes ht hi hz hsize hby hzs hsz v n xs hown ad m c news hr.1 hcells h1 h63 hbytes hbase
    exact ⟨v', w', hrun, h2, h3, h5⟩
theorem wpList_append_rd {ops : Array Oper} {rest : List Oper} {o : Oper} {a : Act} {Q : Exit → Act → World → Prop} (hgd : o.guard = none) (s x : Operand) (t : TypeId)
    (ho : o.op = .call { callee := .builtin .append, args := #[s, x], argTypes := #[t, t] })
    (base : Nat) (e : TypeId) (i : TypeInfo) (z : Value) (size bytes : Nat) (ht : P.underlying t = some (.slice e)) (hi : P.info? e = some i) (hz : i.zero = some z)
    (hsize : i.size = size) (hby : i.bytes = bytes) (hzs : z.cells.size = size) (hsz : 0 < size)
    (v : Value) (n : Nat) (xs : List Value) (hs : a.eval s = v) (hown : w.ownsRow base e size v n xs)
    (A : Option Addr) (m c : Nat) (news : List Value) (hx : a.eval x = .slice A m c) (hr : Rd w size A m news) (h1 : ∀ u ∈ news, u.oneCell' = true)
    (h63 : n + m ≤ maxLen) (hbytes : (n + m) * bytes ≤ 140737488355328) (hbase : base ≤ w.heap.size)
    (h : ∀ v' w', w'.ownsRow base e size v' (n + m) (xs ++ news) → w.grownBy w' v.ownBlock → (v'.ownBlock = v.ownBlock ∨ v'.ownBlock = some w.heap.size) → wpList P ops Q rest (a.put o.dst v') w') : wpList P ops Q (o :: rest) a w := by
  refine wpList_plain hgd fun _ hK => ?_
  obtain ⟨v', w', hrun, h2, h3, h4⟩ := run_append_rd (P := P) w base t o.type e i z size bytes ht hi hz hsize hby hzs hsz v n xs hown A m c news hr h1 h63 hbytes hbase
  unfold Oper.wp execOp
  simp only [ho, resolve, invoke, builtin, Sem.run_bind, Sem.run_pure, Result.andThen_ok, List.map_toArray, List.map_cons, List.map_nil, hs, hx, hrun]
  exact hK _ _ (h v' w' h2 h3 h4)
end
theorem own_ge {w : World} {base e size n : Nat} {v : Value} {xs : List Value} (h : w.ownsRow base e size v n xs) : ∀ k, v.ownBlock = some k → base ≤ k := fun k hk => (h.lt k hk).1
theorem rd_own {w : World} {base E size n c : Nat} {A : Option Addr} {xs : List Value} (h : w.ownsRow base E size (.slice A n c) n xs) : Rd w size A n xs := by
  obtain ⟨A', c', e, _, _, r⟩ := rd_of_own h
  injection e with e1 e2 e3
  rw [e1]
  exact r
/-- The row 'out' that an empty literal slice begins with. -/
theorem own_empty (w : World) (e size : Nat) : (w.alloc (.cells #[] e)).ownsRow w.heap.size e size (.slice (some ⟨w.heap.size, 0, none⟩) 0 0) 0 [] := World.ownsRow_lit w #[] 0 (Nat.le_refl _) (Nat.zero_le _) (by simp)
end Go.Proofs.YthkbckkghnbonaaGreatDoor
namespace Go.Proofs.YthkbckkghnbonaaGreatDoor
open Go.RowKit

/-- A statement without its body. -/
structure SH where
  k : Int
  word : ByteArray
  args : List ByteArray
  count : Int
/-- Statements of depth at most d. -/
def Tr : Nat → Type
  | 0 => Empty
  | d + 1 => SH × List (Tr d)

/-- A statement's head and its body. -/
def hdT {d : Nat} (s : Tr (d + 1)) : SH := (show SH × List (Tr d) from s).1
def bdT {d : Nat} (s : Tr (d + 1)) : List (Tr d) := (show SH × List (Tr d) from s).2
def mkT {d : Nat} (h : SH) (b : List (Tr d)) : Tr (d + 1) := (show SH × List (Tr d) from (h, b))
theorem hd_mk {d : Nat} (h : SH) (b : List (Tr d)) : hdT (mkT h b) = h := rfl
theorem bd_mk {d : Nat} (h : SH) (b : List (Tr d)) : bdT (mkT h b) = b := rfl
theorem mk_eta {d : Nat} (s : Tr (d + 1)) : mkT (hdT s) (bdT s) = s := rfl

/-- As 'Rd', and no block below lo. -/
def RdL (w : World) (lo size : Nat) (A : Option Addr) (n : Nat) (xs : List Value) : Prop :=
  xs.length = n * size ∧ (0 < n → ∃ b off, A = some ⟨b, off, none⟩ ∧ lo ≤ b ∧ b < w.heap.size ∧ ∀ j u, xs[j]? = some u → w.cell? ⟨b, off + j, none⟩ = some u)
/-- The five cells of a statement at block b, offset o. -/
def SCells (w : World) (b o : Nat) (s : SH) (Aa : Option Addr) (ca : Nat) (Ab : Option Addr) (nb cb : Nat) : Prop :=
  w.cell? ⟨b, o, none⟩ = some (.int .i64 s.k) ∧ w.cell? ⟨b, o + 1, none⟩ = some (.string s.word) ∧ w.cell? ⟨b, o + 2, none⟩ = some (.slice Aa s.args.length ca) ∧
  w.cell? ⟨b, o + 3, none⟩ = some (.int .i64 s.count) ∧ w.cell? ⟨b, o + 4, none⟩ = some (.slice Ab nb cb)
def strs (l : List ByteArray) : List Value := l.map Value.string
/-- The slice (A, n) reads as the statements l; no block below lo. -/
def RdT (w : World) (lo : Nat) : (d : Nat) → Option Addr → Nat → List (Tr d) → Prop
  | 0, _, n, l => l.length = n ∧ n = 0
  | d + 1, A, n, l => l.length = n ∧ (0 < n → ∃ b off, A = some ⟨b, off, none⟩ ∧ lo ≤ b ∧ b < w.heap.size ∧ ∀ (i : Nat) (s : Tr (d + 1)), l[i]? = some s →
      ∃ Aa ca Ab nb cb, SCells w b (off + i * 5) (hdT s) Aa ca Ab nb cb ∧ RdL w lo 1 Aa (hdT s).args.length (strs (hdT s).args) ∧ RdT w lo d Ab nb (bdT s) ∧ (hdT s).args.length ≤ ca)
section
variable {w w' : World} {lo lo' size : Nat}
theorem RdL.rd {A : Option Addr} {n : Nat} {xs : List Value} (h : RdL w lo size A n xs) : Rd w size A n xs :=
  ⟨h.1, fun h0 => by obtain ⟨b, off, e, _, hb, hc⟩ := h.2 h0; exact ⟨b, off, e, hb, hc⟩⟩
theorem Rd.rdl {A : Option Addr} {n : Nat} {xs : List Value} (h : Rd w size A n xs) : RdL w 0 size A n xs :=
  ⟨h.1, fun h0 => by obtain ⟨b, off, e, hb, hc⟩ := h.2 h0; exact ⟨b, off, e, Nat.zero_le _, hb, hc⟩⟩
theorem RdL.keep {A : Option Addr} {n : Nat} {xs : List Value} (h : RdL w lo size A n xs) (hk : ∀ b o, lo ≤ b → b < w.heap.size → w'.cell? ⟨b, o, none⟩ = w.cell? ⟨b, o, none⟩) (hs : w.heap.size ≤ w'.heap.size) : RdL w' lo size A n xs :=
  ⟨h.1, fun h0 => by
    obtain ⟨b, off, e, hl, hb, hc⟩ := h.2 h0
    exact ⟨b, off, e, hl, Nat.lt_of_lt_of_le hb hs, fun j u hu => (hk _ _ hl hb).trans (hc j u hu)⟩⟩
theorem RdL.lower {A : Option Addr} {n : Nat} {xs : List Value} (h : RdL w lo size A n xs) (hl : lo' ≤ lo) : RdL w lo' size A n xs :=
  ⟨h.1, fun h0 => by
    obtain ⟨b, off, e, h1, hb, hc⟩ := h.2 h0
    exact ⟨b, off, e, Nat.le_trans hl h1, hb, hc⟩⟩
theorem SCells.keep {b o : Nat} {s : SH} {Aa Ab : Option Addr} {ca nb cb : Nat} (h : SCells w b o s Aa ca Ab nb cb) (hk : ∀ o, w'.cell? ⟨b, o, none⟩ = w.cell? ⟨b, o, none⟩) : SCells w' b o s Aa ca Ab nb cb :=
  ⟨(hk _).trans h.1, (hk _).trans h.2.1, (hk _).trans h.2.2.1, (hk _).trans h.2.2.2.1, (hk _).trans h.2.2.2.2⟩
theorem RdT.len : ∀ {d : Nat} {A : Option Addr} {n : Nat} {l : List (Tr d)}, RdT w lo d A n l → l.length = n
  | 0, _, _, _, h => h.1
  | _ + 1, _, _, _, h => h.1
theorem RdT.keep (hk : ∀ b o, lo ≤ b → b < w.heap.size → w'.cell? ⟨b, o, none⟩ = w.cell? ⟨b, o, none⟩) (hs : w.heap.size ≤ w'.heap.size) :
    ∀ {d : Nat} {A : Option Addr} {n : Nat} {l : List (Tr d)}, RdT w lo d A n l → RdT w' lo d A n l := by
  intro d
  induction d with
  | zero => intro A n l h; exact h
  | succ d ih =>
    intro A n l h
    refine ⟨h.1, fun h0 => ?_⟩
    obtain ⟨b, off, e, hl, hb, hc⟩ := h.2 h0
    refine ⟨b, off, e, hl, Nat.lt_of_lt_of_le hb hs, fun i s hi => ?_⟩
    obtain ⟨Aa, ca, Ab, nb, cb, h1, h2, h3, h4⟩ := hc i s hi
    exact ⟨Aa, ca, Ab, nb, cb, h1.keep (fun o => hk b o hl hb), h2.keep hk hs, ih h3, h4⟩
theorem RdT.lower (hl : lo' ≤ lo) : ∀ {d : Nat} {A : Option Addr} {n : Nat} {l : List (Tr d)}, RdT w lo d A n l → RdT w lo' d A n l := by
  intro d
  induction d with
  | zero => intro A n l h; exact h
  | succ d ih =>
    intro A n l h
    refine ⟨h.1, fun h0 => ?_⟩
    obtain ⟨b, off, e, h1, hb, hc⟩ := h.2 h0
    refine ⟨b, off, e, Nat.le_trans hl h1, hb, fun i s hi => ?_⟩
    obtain ⟨Aa, ca, Ab, nb, cb, h1, h2, h3, h4⟩ := hc i s hi
    exact ⟨Aa, ca, Ab, nb, cb, h1, h2.lower hl, ih h3, h4⟩
theorem RdT.below {d : Nat} {A : Option Addr} {n : Nat} {l : List (Tr d)} (h : RdT w lo d A n l) (hb : Below w.heap.size w w') : RdT w' lo d A n l :=
  h.keep (fun _ _ _ hlt => hb.cell hlt) hb.size
theorem RdL.below {A : Option Addr} {n : Nat} {xs : List Value} (h : RdL w lo size A n xs) (hb : Below w.heap.size w w') : RdL w' lo size A n xs :=
  h.keep (fun _ _ _ hlt => hb.cell hlt) hb.size
/-- An element of a slice of statements. -/
theorem RdT.at_ {d : Nat} {A : Option Addr} {n i : Nat} {l : List (Tr (d + 1))} (h : RdT w lo (d + 1) A n l) (hi : i < n) :
    ∃ (b off : Nat) (s : Tr (d + 1)) (Aa : Option Addr) (ca : Nat) (Ab : Option Addr) (nb cb : Nat), A = some ⟨b, off, none⟩ ∧ b < w.heap.size ∧ l[i]? = some s ∧
      SCells w b (off + i * 5) (hdT s) Aa ca Ab nb cb ∧ RdL w lo 1 Aa (hdT s).args.length (strs (hdT s).args) ∧ RdT w lo d Ab nb (bdT s) := by
  obtain ⟨b, off, e, _, hb, hc⟩ := h.2 (by omega)
  have hl : i < l.length := by rw [h.1]; exact hi
  obtain ⟨s, hs⟩ : ∃ s, l[i]? = some s := ⟨_, List.getElem?_eq_getElem hl⟩
  obtain ⟨Aa, ca, Ab, nb, cb, h1, h2, h3, _⟩ := hc i s hs
  exact ⟨b, off, s, Aa, ca, Ab, nb, cb, e, hb, hs, h1, h2, h3⟩
end
end Go.Proofs.YthkbckkghnbonaaGreatDoor
namespace Go.Proofs.YthkbckkghnbonaaGreatDoor
open Go.RowKit
set_option linter.unusedVariables false
theorem strs_length (l : List ByteArray) : (strs l).length = l.length := by simp [strs]
theorem strs_at {l : List ByteArray} {k : Nat} {s : ByteArray} (h : l[k]? = some s) : (strs l)[k]? = some (.string s) := by simp [strs, h]
theorem info_str : (Tryz.prog.info? 9).map (fun i => (i.zero, i.size, i.bytes)) = some (some (.string ByteArray.empty), 1, 16) := by kernel_rfl
/-- What a list of strings counts in a law's size. -/
def szS : List ByteArray → Nat
  | [] => 0
  | s :: l => s.size + szS l
theorem szS_take (l : List ByteArray) (t : Nat) (s : ByteArray) (h : l[t]? = some s) : szS (l.take (t + 1)) = szS (l.take t) + s.size := by
  induction l generalizing t with
  | nil => simp at h
  | cons x l ih =>
    cases t with
    | zero => simp at h; subst h; simp [szS]
    | succ t => simp only [List.take_succ_cons, szS, ih t (by simpa using h)]; omega
theorem szS_take_le (l : List ByteArray) (t : Nat) : szS (l.take t) ≤ szS l := by
  induction l generalizing t with
  | nil => simp [szS]
  | cons x l ih =>
    cases t with
    | zero => simp [szS]
    | succ t => simp only [List.take_succ_cons, szS]; have := ih t; omega
end Go.Proofs.YthkbckkghnbonaaGreatDoor
namespace Go.Proofs.YthkbckkghnbonaaGreatDoor
open Go.RowKit
set_option linter.unusedVariables false
/-- What a list of statements counts in a law's size. -/
def szT : (d : Nat) → List (Tr d) → Nat
  | 0, _ => 0
  | d + 1, l => l.length + (l.map fun (s : Tr (d + 1)) => (hdT s).word.size + ((hdT s).args.length + szS (hdT s).args + szT d (bdT s))).sum
def szE {d : Nat} (s : Tr (d + 1)) : Nat := (hdT s).word.size + ((hdT s).args.length + szS (hdT s).args + szT d (bdT s))
def sumE {d : Nat} (l : List (Tr (d + 1))) : Nat := (l.map szE).sum
theorem szT_succ {d : Nat} (l : List (Tr (d + 1))) : szT (d + 1) l = l.length + sumE l := rfl
theorem sumE_take {d : Nat} (l : List (Tr (d + 1))) (t : Nat) (s : Tr (d + 1)) (h : l[t]? = some s) : sumE (l.take (t + 1)) = sumE (l.take t) + szE s := by
  rw [List.take_add_one, h]
  simp [sumE]
theorem sumE_take_le {d : Nat} (l : List (Tr (d + 1))) (t : Nat) : sumE (l.take t) ≤ sumE l := by
  have h : sumE l = sumE (l.take t) + sumE (l.drop t) := by
    unfold sumE
    rw [← List.sum_append, ← List.map_append, List.take_append_drop]
  omega
theorem szT_zero_len {w : World} {lo : Nat} {A : Option Addr} {n : Nat} {l : List (Tr 0)} (h : RdT w lo 0 A n l) : n = 0 := h.2
end Go.Proofs.YthkbckkghnbonaaGreatDoor
namespace Go.Proofs.YthkbckkghnbonaaGreatDoor
open Go.RowKit
set_option linter.unusedVariables false
section
variable {w w' : World} {lo : Nat}
theorem setCell_keep {p : Addr} (hp : p.block < lo) (u : Value) : ∀ b o, lo ≤ b → b < w.heap.size → (w.setCell p u).cell? ⟨b, o, none⟩ = w.cell? ⟨b, o, none⟩ :=
  fun b o hb _ => World.cell?_setCell_other w p ⟨b, o, none⟩ u (fun e => by subst e; simp at hp; omega)
theorem size_setCell (p : Addr) (u : Value) : (w.setCell p u).heap.size = w.heap.size := by simp [World.setCell]
theorem RdT.set_ {d n : Nat} {A : Option Addr} {l : List (Tr d)} (h : RdT w lo d A n l) {p : Addr} (hp : p.block < lo) (u : Value) : RdT (w.setCell p u) lo d A n l :=
  h.keep (setCell_keep hp u) (by rw [size_setCell]; exact Nat.le_refl _)
theorem RdL.set_ {size n : Nat} {A : Option Addr} {xs : List Value} (h : RdL w lo size A n xs) {p : Addr} (hp : p.block < lo) (u : Value) : RdL (w.setCell p u) lo size A n xs :=
  h.keep (setCell_keep hp u) (by rw [size_setCell]; exact Nat.le_refl _)
theorem boxcells5 {b : Nat} {x0 x1 x2 x3 x4 : Value} {t : TypeId} (lay : Below w'.heap.size w' w) (h : w'.heap[b]? = some (.cells #[x0, x1, x2, x3, x4] t (0, 0))) :
    w.cell? ⟨b, 0, none⟩ = some x0 ∧ w.cell? ⟨b, 1, none⟩ = some x1 ∧ w.cell? ⟨b, 2, none⟩ = some x2 ∧ w.cell? ⟨b, 3, none⟩ = some x3 ∧ w.cell? ⟨b, 4, none⟩ = some x4 := by
  have h' : w.heap[b]? = some (.cells #[x0, x1, x2, x3, x4] t (0, 0)) := (lay.block b (lt_of_block h)).trans h
  exact ⟨by simp [World.cell?, h'], by simp [World.cell?, h'], by simp [World.cell?, h'], by simp [World.cell?, h'], by simp [World.cell?, h']⟩
end
theorem szT_mem {d : Nat} {l : List (Tr (d + 1))} {t : Nat} {s : Tr (d + 1)} (h : l[t]? = some s) : szE s ≤ sumE l := by
  have h1 := sumE_take l t s h
  have h2 := sumE_take_le l (t + 1)
  omega
theorem info_Stmt : (Tryz.prog.info? 66).map (fun i => (i.zero, i.size, i.bytes)) = some (some (.agg #[.int .i64 0, .string ⟨#[]⟩, .slice none 0 0, .int .i64 0, .slice none 0 0]), 5, 80) := by kernel_rfl
/-- The cells of a copied statement. -/
def scells (s : SH) (Aa : Option Addr) (ca : Nat) (Ab : Option Addr) (nb cb : Nat) : List Value := [.int .i64 s.k, .string s.word, .slice Aa s.args.length ca, .int .i64 s.count, .slice Ab nb cb]
/-- The first t statements have been copied; vs are their cells. -/
def CopyUpto (w : World) (lo d : Nat) (l : List (Tr (d + 1))) (t : Nat) (vs : List (List Value)) : Prop :=
  vs.length = t ∧ (∀ v ∈ vs, v.length = 5) ∧ ∀ (i : Nat) (s : Tr (d + 1)), i < t → l[i]? = some s → ∃ Aa ca Ab nb cb, vs[i]? = some (scells (hdT s) Aa ca Ab nb cb) ∧ RdL w lo 1 Aa (hdT s).args.length (strs (hdT s).args) ∧ RdT w lo d Ab nb (bdT s) ∧ (hdT s).args.length ≤ ca
theorem CopyUpto.nil {w : World} {lo d : Nat} {l : List (Tr (d + 1))} : CopyUpto w lo d l 0 [] := ⟨rfl, by simp, fun _ _ h => absurd h (by omega)⟩
theorem CopyUpto.keep {w w' : World} {lo d : Nat} {l : List (Tr (d + 1))} {t : Nat} {vs : List (List Value)} (h : CopyUpto w lo d l t vs) (hk : ∀ b o, lo ≤ b → b < w.heap.size → w'.cell? ⟨b, o, none⟩ = w.cell? ⟨b, o, none⟩) (hs : w.heap.size ≤ w'.heap.size) : CopyUpto w' lo d l t vs :=
  ⟨h.1, h.2.1, fun i s hi hl => by
    obtain ⟨Aa, ca, Ab, nb, cb, h1, h2, h3, h4⟩ := h.2.2 i s hi hl
    exact ⟨Aa, ca, Ab, nb, cb, h1, h2.keep hk hs, h3.keep hk hs, h4⟩⟩
theorem CopyUpto.set_ {w : World} {lo d : Nat} {l : List (Tr (d + 1))} {t : Nat} {vs : List (List Value)} (h : CopyUpto w lo d l t vs) {p : Addr} (hp : p.block < lo) (u : Value) : CopyUpto (w.setCell p u) lo d l t vs :=
  h.keep (setCell_keep hp u) (by rw [size_setCell]; exact Nat.le_refl _)
theorem CopyUpto.snoc {w : World} {lo d : Nat} {l : List (Tr (d + 1))} {t : Nat} {vs : List (List Value)} (h : CopyUpto w lo d l t vs) {s : Tr (d + 1)} (hs : l[t]? = some s) {Aa Ab : Option Addr} {ca nb cb : Nat}
    (h1 : RdL w lo 1 Aa (hdT s).args.length (strs (hdT s).args)) (h2 : RdT w lo d Ab nb (bdT s)) (h3 : (hdT s).args.length ≤ ca) : CopyUpto w lo d l (t + 1) (vs ++ [scells (hdT s) Aa ca Ab nb cb]) := by
  refine ⟨by simp [h.1], fun v hv => ?_, fun i s' hi hl => ?_⟩
  · rcases List.mem_append.1 hv with hv | hv
    · exact h.2.1 v hv
    · simp at hv; subst hv; rfl
  · by_cases hit : i < t
    · obtain ⟨Aa', ca', Ab', nb', cb', e1, e2, e3⟩ := h.2.2 i s' hit hl
      exact ⟨Aa', ca', Ab', nb', cb', by rw [List.getElem?_append_left (by rw [h.1]; exact hit)]; exact e1, e2, e3⟩
    · obtain rfl : i = t := by omega
      rw [hs] at hl
      injection hl with hl
      subst hl
      exact ⟨Aa, ca, Ab, nb, cb, by rw [List.getElem?_append_right (by rw [h.1]; exact Nat.le_refl _), h.1]; simp, h1, h2, h3⟩
end Go.Proofs.YthkbckkghnbonaaGreatDoor
namespace Go.Proofs.YthkbckkghnbonaaGreatDoor
open Go.RowKit
set_option linter.unusedVariables false
theorem RdT.drew {w : World} {lo d n : Nat} {A : Option Addr} {l : List (Tr d)} (h : RdT w lo d A n l) : RdT w.drew lo d A n l := RdT.keep (w := w) (w' := w.drew) (fun _ _ _ _ => rfl) (Nat.le_refl _) h
theorem RdT.drewN {w : World} {lo d n : Nat} {A : Option Addr} {l : List (Tr d)} (h : RdT w lo d A n l) (k : Nat) : RdT (w.drewN k) lo d A n l := RdT.keep (w := w) (w' := w.drewN k) (fun _ _ _ _ => rfl) (Nat.le_refl _) h
end Go.Proofs.YthkbckkghnbonaaGreatDoor
namespace Go.Proofs.YthkbckkghnbonaaGreatDoor
open Go.RowKit

def inB (n lo hi : Int) : Bool := decide (lo ≤ n ∧ n ≤ hi)
theorem inB_t {n lo hi : Int} (h1 : lo ≤ n) (h2 : n ≤ hi) : inB n lo hi = true := by simp [inB, h1, h2]
theorem inB_f {n lo hi : Int} (h : n < lo ∨ hi < n) : inB n lo hi = false := by simp [inB]; omega
theorem inB_iff {n lo hi : Int} : inB n lo hi = true ↔ lo ≤ n ∧ n ≤ hi := by simp [inB]
theorem inB_not {n lo hi : Int} : inB n lo hi = false ↔ n < lo ∨ hi < n := by simp [inB]; omega

set_option maxRecDepth 100000 in
theorem in_any (n lo hi : Int) (w : World) : Calls Tryz.prog 44 #[.int .i64 n, .int .i64 lo, .int .i64 hi] w fun e w' => e = .returned (.bool (inB n lo hi)) ∧ w = w' := by
  by_cases h1 : lo ≤ n
  · by_cases h2 : n ≤ hi
    · rw [inB_t h1 h2]
      go_enter Tryz.func44, Tryz.ntmps44
      go_wp2
      go_ret
      exact ⟨rfl, rfl⟩
    · rw [inB_f (Or.inr (by omega))]
      have h3 : decide (n ≤ hi) = false := by simpa using h2
      clear h2
      go_enter Tryz.func44, Tryz.ntmps44
      go_wp2
      go_ret
      exact ⟨rfl, rfl⟩
  · rw [inB_f (Or.inl (by omega))]
    have h3 : decide (lo ≤ n) = false := by simpa using h1
    clear h1
    go_enter Tryz.func44, Tryz.ntmps44
    go_wp2
    go_ret
    exact ⟨rfl, rfl⟩
set_option maxRecDepth 100000 in
theorem l1In_any (n lo hi : Int) (w : World) : Calls Tryz.prog 47 #[.int .i64 n, .int .i64 lo, .int .i64 hi] w fun e w' => e = .returned (.bool (inB n lo hi)) ∧ w = w' := by
  by_cases h1 : lo ≤ n
  · by_cases h2 : n ≤ hi
    · rw [inB_t h1 h2]
      go_enter Tryz.func47, Tryz.ntmps47
      go_wp2
      go_ret
      exact ⟨rfl, rfl⟩
    · rw [inB_f (Or.inr (by omega))]
      have h3 : decide (n ≤ hi) = false := by simpa using h2
      clear h2
      go_enter Tryz.func47, Tryz.ntmps47
      go_wp2
      go_ret
      exact ⟨rfl, rfl⟩
  · rw [inB_f (Or.inl (by omega))]
    have h3 : decide (lo ≤ n) = false := by simpa using h1
    clear h1
    go_enter Tryz.func47, Tryz.ntmps47
    go_wp2
    go_ret
    exact ⟨rfl, rfl⟩
end Go.Proofs.YthkbckkghnbonaaGreatDoor
namespace Go.Proofs.YthkbckkghnbonaaGreatDoor
open Go.RowKit

def ar (k : Int) : Nat := if inB k 1 8 then 1 else if inB k 9 11 then 2 else if k = 12 then 3 else 0
theorem ar_le (k : Int) : ar k ≤ 3 := by
  unfold ar
  split
  · omega
  · split
    · omega
    · split <;> omega
set_option maxRecDepth 100000 in
theorem Arity_impl (k : Int) (w : World) : Calls Tryz.prog 101 #[.int .i64 k] w fun e w' => e = .returned (.int .i64 (ar k)) ∧ w = w' := by
  cases h1 : inB k 1 8
  · cases h2 : inB k 9 11
    · by_cases h3 : k = 12
      · subst h3
        go_enter Tryz.func101, Tryz.ntmps101
        go_wp2_with (go_at_call 44; refine (in_any _ _ _ _).mono ?_; rintro e w' ⟨rfl, rfl⟩)
        go_ret
        exact ⟨rfl, rfl⟩
      · have e : ar k = 0 := by simp [ar, h1, h2, h3]
        rw [e]
        have h4 : (k == 12) = false := beq_eq_false_iff_ne.2 h3
        clear h3 e
        go_enter Tryz.func101, Tryz.ntmps101
        go_wp2_with (go_at_call 44; refine (in_any _ _ _ _).mono ?_; rintro e w' ⟨rfl, rfl⟩)
        go_ret
        exact ⟨rfl, rfl⟩
    · have e : ar k = 2 := by simp [ar, h1, h2]
      rw [e]
      clear e
      go_enter Tryz.func101, Tryz.ntmps101
      go_wp2_with (go_at_call 44; refine (in_any _ _ _ _).mono ?_; rintro e w' ⟨rfl, rfl⟩)
      go_ret
      exact ⟨rfl, rfl⟩
  · have e : ar k = 1 := by simp [ar, h1]
    rw [e]
    clear e
    go_enter Tryz.func101, Tryz.ntmps101
    go_wp2_with (go_at_call 44; refine (in_any _ _ _ _).mono ?_; rintro e w' ⟨rfl, rfl⟩)
    go_ret
    exact ⟨rfl, rfl⟩
set_option maxRecDepth 100000 in
theorem Arity_spec (k : Int) (w : World) : Calls Tryz.prog 135 #[.int .i64 k] w fun e w' => e = .returned (.int .i64 (ar k)) ∧ w = w' := by
  cases h1 : inB k 1 8
  · cases h2 : inB k 9 11
    · by_cases h3 : k = 12
      · subst h3
        go_enter Tryz.func135, Tryz.ntmps135
        go_wp2_with (go_at_call 47; refine (l1In_any _ _ _ _).mono ?_; rintro e w' ⟨rfl, rfl⟩)
        go_ret
        exact ⟨rfl, rfl⟩
      · have e : ar k = 0 := by simp [ar, h1, h2, h3]
        rw [e]
        have h4 : (k == 12) = false := beq_eq_false_iff_ne.2 h3
        clear h3 e
        go_enter Tryz.func135, Tryz.ntmps135
        go_wp2_with (go_at_call 47; refine (l1In_any _ _ _ _).mono ?_; rintro e w' ⟨rfl, rfl⟩)
        go_ret
        exact ⟨rfl, rfl⟩
    · have e : ar k = 2 := by simp [ar, h1, h2]
      rw [e]
      clear e
      go_enter Tryz.func135, Tryz.ntmps135
      go_wp2_with (go_at_call 47; refine (l1In_any _ _ _ _).mono ?_; rintro e w' ⟨rfl, rfl⟩)
      go_ret
      exact ⟨rfl, rfl⟩
  · have e : ar k = 1 := by simp [ar, h1]
    rw [e]
    clear e
    go_enter Tryz.func135, Tryz.ntmps135
    go_wp2_with (go_at_call 47; refine (l1In_any _ _ _ _).mono ?_; rintro e w' ⟨rfl, rfl⟩)
    go_ret
    exact ⟨rfl, rfl⟩

theorem info_int : (Tryz.prog.info? 3).map (fun i => (i.zero, i.size, i.bytes)) = some (some (.int .i64 0), 1, 8) := by kernel_rfl
end Go.Proofs.YthkbckkghnbonaaGreatDoor
namespace Go.Proofs.YthkbckkghnbonaaGreatDoor
open Go.RowKit
set_option linter.unusedVariables false
def hasB (k : Int) : Bool := k == 2 || (k == 3 || (k == 4 || (k == 5 || k == 7)))
theorem hasB_f {k : Int} (h2 : k ≠ 2) (h3 : k ≠ 3) (h4 : k ≠ 4) (h5 : k ≠ 5) (h7 : k ≠ 7) : hasB k = false := by simp [hasB, h2, h3, h4, h5, h7]
set_option maxRecDepth 100000 in
theorem hasBody_any (k : Int) (w : World) : Calls Tryz.prog 103 #[.int .i64 k] w fun e w' => e = .returned (.bool (hasB k)) ∧ w = w' := by
  by_cases h2 : k = 2
  · subst h2
    go_enter Tryz.func103, Tryz.ntmps103
    go_wp2
    go_ret
    exact ⟨rfl, rfl⟩
  by_cases h3 : k = 3
  · subst h3
    go_enter Tryz.func103, Tryz.ntmps103
    go_wp2
    go_ret
    exact ⟨rfl, rfl⟩
  by_cases h4 : k = 4
  · subst h4
    go_enter Tryz.func103, Tryz.ntmps103
    go_wp2
    go_ret
    exact ⟨rfl, rfl⟩
  by_cases h5 : k = 5
  · subst h5
    go_enter Tryz.func103, Tryz.ntmps103
    go_wp2
    go_ret
    exact ⟨rfl, rfl⟩
  by_cases h7 : k = 7
  · subst h7
    go_enter Tryz.func103, Tryz.ntmps103
    go_wp2
    go_ret
    exact ⟨rfl, rfl⟩
  rw [hasB_f h2 h3 h4 h5 h7]
  have e2 : (k == 2) = false := beq_eq_false_iff_ne.2 h2
  have e3 : (k == 3) = false := beq_eq_false_iff_ne.2 h3
  have e4 : (k == 4) = false := beq_eq_false_iff_ne.2 h4
  have e5 : (k == 5) = false := beq_eq_false_iff_ne.2 h5
  have e7 : (k == 7) = false := beq_eq_false_iff_ne.2 h7
  clear h2 h3 h4 h5 h7
  go_enter Tryz.func103, Tryz.ntmps103
  go_wp2
  go_ret
  exact ⟨rfl, rfl⟩
def imax (a b : Int) : Int := if b < a then a else b
set_option maxRecDepth 100000 in
theorem l1Max_any (a b : Int) (w : World) : Calls Tryz.prog 107 #[.int .i64 a, .int .i64 b] w fun e w' => e = .returned (.int .i64 (imax a b)) ∧ w = w' := by
  by_cases h : b < a
  · rw [show imax a b = a from if_pos h]
    go_enter Tryz.func107, Tryz.ntmps107
    go_wp2
    go_ret
    exact ⟨rfl, rfl⟩
  · rw [show imax a b = b from if_neg h]
    go_enter Tryz.func107, Tryz.ntmps107
    go_wp2
    go_ret
    exact ⟨rfl, rfl⟩
/-- The names of the gates, by their kinds. -/
def gnames : List (List UInt8) := [[], [120], [121], [122], [104], [115], [115, 100], [116], [116, 100], [99, 120], [99, 122], [115, 119, 97, 112], [99, 99, 120]]
def gname (k : Nat) : List UInt8 := gnames.getD k []
set_option maxRecDepth 100000 in
set_option maxHeartbeats 2000000 in
theorem GateName_spec (k : Nat) (h1 : 1 ≤ k) (h2 : k ≤ 12) (w : World) : Calls Tryz.prog 161 #[.int .i64 k] w fun e w' => e = .returned (.string ⟨(gname k).toArray⟩) ∧ Below w.heap.size w w' ∧ w.heap.size ≤ w'.heap.size := by
  have hb : inB (k : Int) 1 12 = true := inB_t (by omega) (by omega)
  have hk : k = 1 ∨ k = 2 ∨ k = 3 ∨ k = 4 ∨ k = 5 ∨ k = 6 ∨ k = 7 ∨ k = 8 ∨ k = 9 ∨ k = 10 ∨ k = 11 ∨ k = 12 := by omega
  clear h1 h2
  rcases hk with rfl | rfl | rfl | rfl | rfl | rfl | rfl | rfl | rfl | rfl | rfl | rfl
  all_goals
    go_enter Tryz.func161, Tryz.ntmps161
    go_wp2_with (go_at_call 47; refine (l1In_any _ _ _ _).mono ?_; rintro e w' ⟨rfl, rfl⟩)
    go_ret
    exact ⟨rfl, (by repeat (first | exact Below.refl _ _ | assumption | (refine Below.trans ?_ (Below.mono (by assumption) (by first | omega | (simp; done) | (simp; omega)))) | (with_reducible refine Below.drew ?_) | (with_reducible refine Below.alloc ?_ (by first | omega | (simp; done) | (simp; omega)) _) | (with_reducible refine Below.setCell ?_ (by first | omega | (simp; done) | (simp; omega)) _))), (by first | omega | (simp; done) | (simp; omega))⟩
/-- The kind of a gate's name; 0 if it is none. -/
def gkindFrom (word : List UInt8) : Nat → Nat → Nat
  | 0, _ => 0
  | f + 1, k => if gname k == word then k else gkindFrom word f (k + 1)
def gkind (word : ByteArray) : Nat := gkindFrom word.toList 12 1
theorem gkindFrom_le (word : List UInt8) : ∀ f k, k + f ≤ 13 → gkindFrom word f k ≤ 12 := by
  intro f
  induction f with
  | zero => intro k _; simp [gkindFrom]
  | succ f ih =>
    intro k h
    simp only [gkindFrom]
    split
    · omega
    · exact ih (k + 1) (by omega)
set_option maxRecDepth 100000 in
set_option maxHeartbeats 1000000 in
theorem GateKind_spec (word : ByteArray) (w : World) : Calls Tryz.prog 136 #[.string word] w fun e w' => e = .returned (.int .i64 (gkind word)) ∧ Below w.heap.size w w' ∧ w.heap.size ≤ w'.heap.size := by
  go_enter Tryz.func136, Tryz.ntmps136
  go_wp2
  go_loopw [3] (fun k wr => ∃ t : Nat, 1 ≤ t ∧ t ≤ 13 ∧ k = .int .i64 t ∧ gkind word = gkindFrom word.toList (13 - t) t ∧ Below w.heap.size w wr) (fun k _ => 13 - (intOf k).toNat)
  case atStart => exact ⟨1, by omega, by omega, rfl, rfl, Below.refl _ _⟩
  case round =>
    obtain ⟨t, h1, ht, rfl, hg, hb⟩ := hrel
    have HG := Lib.hid hg
    clear hg
    by_cases hlt : t ≤ 12
    · have HS : Hid (gkind word = if gname t == word.toList then t else gkindFrom word.toList (13 - (t + 1)) (t + 1)) := by
        have h := HG.out
        rw [show 13 - t = (13 - (t + 1)) + 1 from by omega] at h
        exact h
      cases he : (gname t == word.toList)
      · have HF : Hid (gkind word = gkindFrom word.toList (13 - (t + 1)) (t + 1)) := by
          have h := HS.out
          rw [he] at h
          exact h
        go_wp2_with fail
        refine (GateName_spec t h1 hlt _).mono ?_
        rintro e w1 ⟨rfl, b1, s1⟩
        go_wp2_with fail
        go_roundw
        case rel => exact ⟨t + 1, by omega, by omega, by go_num, HF.out, hb.trans (b1.mono hb.size)⟩
        case measure => simp [intOf]; omega
      · have HF : Hid (gkind word = t) := by
          have h := HS.out
          rw [he] at h
          exact h
        go_wp2_with fail
        refine (GateName_spec t h1 hlt _).mono ?_
        rintro e w1 ⟨rfl, b1, s1⟩
        go_wp2_with fail
        go_ret
        exact ⟨by rw [HF.out]; rfl, hb.trans (b1.mono hb.size), Nat.le_trans hb.size s1⟩
    · obtain rfl : t = 13 := by omega
      have HF : Hid (gkind word = 0) := HG.out
      go_wp2_with fail
      go_ret
      exact ⟨by rw [HF.out]; rfl, hb, hb.size⟩
/-- How many names a statement has. -/
def nargs (k : Int) (word : ByteArray) : Nat := if k = 1 then ar (gkind word) else if k = 2 then 0 else if k = 3 then 0 else if k = 4 then 1 else if k = 5 then 1 else if k = 7 then 1 else 2
set_option maxRecDepth 100000 in
set_option maxHeartbeats 1000000 in
theorem l17Args_any (k : Int) (word : ByteArray) (va : Value) (count : Int) (vb : Value) (w : World) (ha : ∃ A n c, va = .slice A n c) (hb : ∃ A n c, vb = .slice A n c) : Calls Tryz.prog 106 #[.agg #[.int .i64 k, .string word, va, .int .i64 count, vb]] w fun e w' =>
    e = .returned (.tuple #[.int .i64 (nargs k word), .bool (hasB k)]) ∧ Below w.heap.size w w' ∧ w.heap.size ≤ w'.heap.size := by
  obtain ⟨A, n, c, rfl⟩ := ha
  obtain ⟨A', n', c', rfl⟩ := hb
  by_cases h1 : k = 1
  · subst h1
    go_enter Tryz.func106, Tryz.ntmps106
    go_wp2_with fail
    refine (GateKind_spec _ _).mono ?_
    rintro e w1 ⟨rfl, b1, s1⟩
    simp at s1
    go_wp2_with fail
    refine (Arity_spec _ _).mono ?_
    rintro e w' ⟨rfl, rfl⟩
    go_wp2_with fail
    go_ret2
    exact ⟨rfl, (by repeat (first | exact Below.refl _ _ | assumption | (refine Below.trans ?_ (Below.mono (by assumption) (by first | omega | (simp; done) | (simp; omega)))) | (with_reducible refine Below.drew ?_) | (with_reducible refine Below.alloc ?_ (by first | omega | (simp; done) | (simp; omega)) _) | (with_reducible refine Below.setCell ?_ (by first | omega | (simp; done) | (simp; omega)) _))), (by first | omega | (simp; done) | (simp; omega))⟩
  have e1 : (k == 1) = false := beq_eq_false_iff_ne.2 h1
  by_cases h2 : k = 2
  · subst h2
    go_enter Tryz.func106, Tryz.ntmps106
    go_wp2_with fail
    go_ret2
    exact ⟨rfl, (by repeat (first | exact Below.refl _ _ | assumption | (refine Below.trans ?_ (Below.mono (by assumption) (by first | omega | (simp; done) | (simp; omega)))) | (with_reducible refine Below.drew ?_) | (with_reducible refine Below.alloc ?_ (by first | omega | (simp; done) | (simp; omega)) _) | (with_reducible refine Below.setCell ?_ (by first | omega | (simp; done) | (simp; omega)) _))), (by first | omega | (simp; done) | (simp; omega))⟩
  have e2 : (k == 2) = false := beq_eq_false_iff_ne.2 h2
  by_cases h3 : k = 3
  · subst h3
    go_enter Tryz.func106, Tryz.ntmps106
    go_wp2_with fail
    go_ret2
    exact ⟨rfl, (by repeat (first | exact Below.refl _ _ | assumption | (refine Below.trans ?_ (Below.mono (by assumption) (by first | omega | (simp; done) | (simp; omega)))) | (with_reducible refine Below.drew ?_) | (with_reducible refine Below.alloc ?_ (by first | omega | (simp; done) | (simp; omega)) _) | (with_reducible refine Below.setCell ?_ (by first | omega | (simp; done) | (simp; omega)) _))), (by first | omega | (simp; done) | (simp; omega))⟩
  have e3 : (k == 3) = false := beq_eq_false_iff_ne.2 h3
  by_cases h4 : k = 4
  · subst h4
    go_enter Tryz.func106, Tryz.ntmps106
    go_wp2_with fail
    go_ret2
    exact ⟨rfl, (by repeat (first | exact Below.refl _ _ | assumption | (refine Below.trans ?_ (Below.mono (by assumption) (by first | omega | (simp; done) | (simp; omega)))) | (with_reducible refine Below.drew ?_) | (with_reducible refine Below.alloc ?_ (by first | omega | (simp; done) | (simp; omega)) _) | (with_reducible refine Below.setCell ?_ (by first | omega | (simp; done) | (simp; omega)) _))), (by first | omega | (simp; done) | (simp; omega))⟩
  have e4 : (k == 4) = false := beq_eq_false_iff_ne.2 h4
  by_cases h5 : k = 5
  · subst h5
    go_enter Tryz.func106, Tryz.ntmps106
    go_wp2_with fail
    go_ret2
    exact ⟨rfl, (by repeat (first | exact Below.refl _ _ | assumption | (refine Below.trans ?_ (Below.mono (by assumption) (by first | omega | (simp; done) | (simp; omega)))) | (with_reducible refine Below.drew ?_) | (with_reducible refine Below.alloc ?_ (by first | omega | (simp; done) | (simp; omega)) _) | (with_reducible refine Below.setCell ?_ (by first | omega | (simp; done) | (simp; omega)) _))), (by first | omega | (simp; done) | (simp; omega))⟩
  have e5 : (k == 5) = false := beq_eq_false_iff_ne.2 h5
  by_cases h7 : k = 7
  · subst h7
    go_enter Tryz.func106, Tryz.ntmps106
    go_wp2_with fail
    go_ret2
    exact ⟨rfl, (by repeat (first | exact Below.refl _ _ | assumption | (refine Below.trans ?_ (Below.mono (by assumption) (by first | omega | (simp; done) | (simp; omega)))) | (with_reducible refine Below.drew ?_) | (with_reducible refine Below.alloc ?_ (by first | omega | (simp; done) | (simp; omega)) _) | (with_reducible refine Below.setCell ?_ (by first | omega | (simp; done) | (simp; omega)) _))), (by first | omega | (simp; done) | (simp; omega))⟩
  have e7 : (k == 7) = false := beq_eq_false_iff_ne.2 h7
  have HA := Lib.hid (show nargs k word = 2 by simp [nargs, h1, h2, h3, h4, h5, h7])
  have HB := Lib.hid (hasB_f h2 h3 h4 h5 h7)
  clear h1 h2 h3 h4 h5 h7
  go_enter Tryz.func106, Tryz.ntmps106
  go_wp2_with fail
  go_ret2
  exact ⟨by rw [HA.out, HB.out]; rfl, (by repeat (first | exact Below.refl _ _ | assumption | (refine Below.trans ?_ (Below.mono (by assumption) (by first | omega | (simp; done) | (simp; omega)))) | (with_reducible refine Below.drew ?_) | (with_reducible refine Below.alloc ?_ (by first | omega | (simp; done) | (simp; omega)) _) | (with_reducible refine Below.setCell ?_ (by first | omega | (simp; done) | (simp; omega)) _))), (by first | omega | (simp; done) | (simp; omega))⟩
/-- How deep the bodies lie. -/
def nestT : (d : Nat) → List (Tr d) → Nat
  | 0, _ => 0
  | d + 1, l => l.foldl (fun (m : Nat) (s : Tr (d + 1)) => if hasB (hdT s).k then max m (1 + nestT d (bdT s)) else m) 0
theorem sum_ge {d : Nat} {l : List (Tr (d + 1))} {s : Tr (d + 1)} (h : s ∈ l) : szE s ≤ sumE l := by
  obtain ⟨t, ht⟩ := List.getElem?_of_mem h
  exact szT_mem ht
theorem nestT_le : ∀ (d : Nat) (l : List (Tr d)), nestT d l ≤ szT d l := by
  intro d
  induction d with
  | zero => intro l; exact Nat.le_refl _
  | succ d ih =>
    intro l
    have key : ∀ (B : Nat) (l : List (Tr (d + 1))), (∀ s ∈ l, 1 + nestT d (bdT s) ≤ B) → ∀ m, m ≤ B → l.foldl (fun (m : Nat) (s : Tr (d + 1)) => if hasB (hdT s).k then max m (1 + nestT d (bdT s)) else m) m ≤ B := by
      intro B l
      induction l with
      | nil => intro _ m h; exact h
      | cons s l ih2 =>
        intro hB m h
        refine ih2 (fun x hx => hB x (by simp [hx])) _ ?_
        show (if hasB (hdT s).k then max m (1 + nestT d (bdT s)) else m) ≤ B
        have := hB s (by simp)
        split <;> omega
    refine key _ l (fun s hs => ?_) 0 (Nat.zero_le _)
    have h1 := ih (bdT s)
    have h2 := sum_ge hs
    have h3 : 0 < l.length := List.length_pos_of_mem hs
    rw [szT_succ]
    unfold szE at h2
    omega
theorem nest_take_le {d : Nat} (l : List (Tr (d + 1))) (t : Nat) : nestT (d + 1) (l.take t) ≤ szT (d + 1) l := by
  refine Nat.le_trans (nestT_le _ _) ?_
  rw [szT_succ, szT_succ]
  have := sumE_take_le l t
  have := List.length_take_le' t l
  omega
theorem nest_take {d : Nat} (l : List (Tr (d + 1))) (t : Nat) (s : Tr (d + 1)) (h : l[t]? = some s) : nestT (d + 1) (l.take (t + 1)) = if hasB (hdT s).k then max (nestT (d + 1) (l.take t)) (1 + nestT d (bdT s)) else nestT (d + 1) (l.take t) := by
  rw [List.take_add_one, h]
  simp [nestT, List.foldl_append]
def NestSaid_impl (d : Nat) : Prop := ∀ (lo : Nat) (A : Option Addr) (n c : Nat) (l : List (Tr d)) (w : World), RdT w lo d A n l → szT d l ≤ 1048576 →
  Calls Tryz.prog 45 #[.slice A n c] w fun e w' => e = .returned (.int .i64 (nestT d l)) ∧ Below w.heap.size w w' ∧ w.heap.size ≤ w'.heap.size
set_option maxRecDepth 100000 in
set_option maxHeartbeats 2000000 in
theorem NestingDepth_impl : ∀ (d : Nat), NestSaid_impl d := by
  intro d
  induction d with
  | zero =>
    intro lo A n c l w h _
    obtain rfl := szT_zero_len h
    go_enter Tryz.func45, Tryz.ntmps45
    go_wp2
    refine wp_loop_rounds 1 ?_
    rw [rounds_succ]
    go_wp2
    go_ret
    exact ⟨rfl, Below.refl _ _, Nat.le_refl _⟩
  | succ d ih =>
    intro lo A n c l w h hsz
    have hln := h.len
    have hn : n ≤ 1048576 := by rw [szT_succ] at hsz; omega
    have HQ := Lib.hid hsz
    have HL := Lib.hid hln
    have H := Lib.hid h
    clear h hln hsz
    go_enter Tryz.func45, Tryz.ntmps45
    go_wp2
    go_loopw [3, 8] (fun m i wr => ∃ t : Nat, t ≤ n ∧ i = .int .i64 t ∧ m = .int .i64 (nestT (d + 1) (l.take t)) ∧ Below w.heap.size w wr) (fun _ i _ => n - (intOf i).toNat)
    case atStart => exact ⟨0, Nat.zero_le _, rfl, rfl, Below.refl _ _⟩
    case round =>
      obtain ⟨t, ht, rfl, rfl, hb⟩ := hrel
      have hN : nestT (d + 1) (l.take t) ≤ 1048576 := Nat.le_trans (nest_take_le l t) HQ.out
      obtain ⟨N, hNN⟩ : ∃ N, N = nestT (d + 1) (l.take t) := ⟨_, rfl⟩
      rw [← hNN] at hN ⊢
      have HN := Lib.hid hNN
      clear hNN
      have hbs := hb.size
      by_cases hlt : t < n
      · obtain ⟨b, off, s, Aa, ca, Ab, nb, cb, rfl, hbl, hs, hcs, hra, hrb⟩ := (H.out.below hb).at_ hlt
        obtain ⟨q0, q1, q2, q3, q4⟩ := hcs
        have hme := szT_mem hs
        have hz2 : szT d (bdT s) ≤ 1048576 := by have := HQ.out; rw [szT_succ] at this; unfold szE at hme; omega
        have hnb := nestT_le d (bdT s)
        have HT := Lib.hid (nest_take l t s hs)
        have HB := Lib.hid (hrb.below (w' := wr.alloc (.cells #[.int .i64 (hdT s).k, .string (hdT s).word, .slice Aa (hdT s).args.length ca, .int .i64 (hdT s).count, .slice Ab nb cb] 66)) (by repeat (first | exact Below.refl _ _ | assumption | (refine Below.trans ?_ (Below.mono (by assumption) (by first | omega | (simp; done) | (simp; omega)))) | (with_reducible refine Below.drew ?_) | (with_reducible refine Below.alloc ?_ (by first | omega | (simp; done) | (simp; omega)) _) | (with_reducible refine Below.setCell ?_ (by first | omega | (simp; done) | (simp; omega)) _))))
        clear hs hra hrb hme
        cases hk : hasB (hdT s).k
        · have HT2 : Hid (nestT (d + 1) (l.take (t + 1)) = N) := by
            have h := HT.out
            rw [hk, ← HN.out] at h
            exact h
          go_wp2_with (go_at_call 103; refine (hasBody_any _ _).mono ?_; rintro e w' ⟨rfl, rfl⟩)
          go_roundw
          case rel => exact ⟨t + 1, by omega, by go_num, by rw [HT2.out], hb.alloc hb.size _⟩
          case measure => simp [intOf]; omega
        · obtain ⟨M, hM⟩ : ∃ M, M = nestT d (bdT s) := ⟨_, rfl⟩
          have HT2 : Hid (nestT (d + 1) (l.take (t + 1)) = max N (1 + M)) := by
            have h := HT.out
            rw [hk, ← HN.out, ← hM] at h
            exact h
          rw [← hM] at hnb
          have HM := Lib.hid hM
          clear hM
          go_wp2_with (first | (go_at_call 103; refine (hasBody_any _ _).mono ?_; rintro e w' ⟨rfl, rfl⟩) | (go_at_call 45; refine (ih lo _ _ _ (bdT s) _ HB.out hz2).mono ?_; rintro e w1 ⟨rfl, b1, s1⟩; rw [← HM.out]))
          go_roundw
          case rel => exact ⟨t + 1, by omega, by go_num, by rw [HT2.out]; congr 1; first | omega | (split <;> omega), (hb.alloc hb.size _).trans (b1.mono (by simp; omega))⟩
          case measure => simp [intOf]; omega
      · obtain rfl : t = n := by omega
        have HF : Hid (N = nestT (d + 1) l) := by
          have h := HN.out
          rw [List.take_of_length_le (by rw [HL.out]; exact Nat.le_refl _)] at h
          exact h
        go_wp2
        go_ret
        exact ⟨by rw [← HF.out]; rfl, hb, hb.size⟩
def NestSaid_spec (d : Nat) : Prop := ∀ (lo : Nat) (A : Option Addr) (n c : Nat) (l : List (Tr d)) (w : World), RdT w lo d A n l → szT d l ≤ 1048576 →
  Calls Tryz.prog 50 #[.slice A n c] w fun e w' => e = .returned (.int .i64 (nestT d l)) ∧ Below w.heap.size w w' ∧ w.heap.size ≤ w'.heap.size
set_option maxRecDepth 100000 in
set_option maxHeartbeats 2000000 in
theorem NestingDepth_spec : ∀ (d : Nat), NestSaid_spec d := by
  intro d
  induction d with
  | zero =>
    intro lo A n c l w h _
    obtain rfl := szT_zero_len h
    go_enter Tryz.func50, Tryz.ntmps50
    go_wp2
    refine wp_loop_rounds 1 ?_
    rw [rounds_succ]
    go_wp2
    go_ret
    exact ⟨rfl, Below.refl _ _, Nat.le_refl _⟩
  | succ d ih =>
    intro lo A n c l w h hsz
    have hln := h.len
    have hn : n ≤ 1048576 := by rw [szT_succ] at hsz; omega
    have HQ := Lib.hid hsz
    have HL := Lib.hid hln
    have H := Lib.hid h
    clear h hln hsz
    go_enter Tryz.func50, Tryz.ntmps50
    go_wp2
    go_loopw [3, 4] (fun m i wr => ∃ t : Nat, t ≤ n ∧ i = .int .i64 t ∧ m = .int .i64 (nestT (d + 1) (l.take t)) ∧ Below w.heap.size w wr) (fun _ i _ => n - (intOf i).toNat)
    case atStart => exact ⟨0, Nat.zero_le _, rfl, rfl, Below.refl _ _⟩
    case round =>
      obtain ⟨t, ht, rfl, rfl, hb⟩ := hrel
      have hN : nestT (d + 1) (l.take t) ≤ 1048576 := Nat.le_trans (nest_take_le l t) HQ.out
      obtain ⟨N, hNN⟩ : ∃ N, N = nestT (d + 1) (l.take t) := ⟨_, rfl⟩
      rw [← hNN] at hN ⊢
      have HN := Lib.hid hNN
      clear hNN
      have hbs := hb.size
      by_cases hlt : t < n
      · obtain ⟨b, off, s, Aa, ca, Ab, nb, cb, rfl, hbl, hs, hcs, hra, hrb⟩ := (H.out.below hb).at_ hlt
        obtain ⟨q0, q1, q2, q3, q4⟩ := hcs
        have hme := szT_mem hs
        have hz2 : szT d (bdT s) ≤ 1048576 := by have := HQ.out; rw [szT_succ] at this; unfold szE at hme; omega
        have hnb := nestT_le d (bdT s)
        have HT := Lib.hid (nest_take l t s hs)
        have HB := Lib.hid hrb
        clear hs hra hrb hme
        cases hk : hasB (hdT s).k
        · have HT2 : Hid (nestT (d + 1) (l.take (t + 1)) = N) := by
            have h := HT.out
            rw [hk, ← HN.out] at h
            exact h
          go_wp2_with fail
          refine (l17Args_any _ _ _ _ _ _ ⟨_, _, _, rfl⟩ ⟨_, _, _, rfl⟩).mono ?_
          rintro e w1 ⟨rfl, b1, s1⟩
          rw [hk]
          go_wp2_with fail
          go_roundw
          case rel => exact ⟨t + 1, by omega, by go_num, by rw [HT2.out], hb.trans (b1.mono hb.size)⟩
          case measure => simp [intOf]; omega
        · obtain ⟨M, hM⟩ : ∃ M, M = nestT d (bdT s) := ⟨_, rfl⟩
          have HT2 : Hid (nestT (d + 1) (l.take (t + 1)) = max N (1 + M)) := by
            have h := HT.out
            rw [hk, ← HN.out, ← hM] at h
            exact h
          rw [← hM] at hnb
          have HM := Lib.hid hM
          clear hM
          go_wp2_with fail
          refine (l17Args_any _ _ _ _ _ _ ⟨_, _, _, rfl⟩ ⟨_, _, _, rfl⟩).mono ?_
          rintro e w1 ⟨rfl, b1, s1⟩
          rw [hk]
          have q5 := (b1.cell (p := ⟨b, off + t * 5 + 4, none⟩) hbl).trans q4
          clear q0 q1 q2 q3 q4
          go_wp2_with fail
          refine (ih lo _ _ _ (bdT s) _ (HB.out.below b1) hz2).mono ?_
          rintro e w2 ⟨rfl, b2, s2⟩
          rw [← HM.out]
          go_wp2_with fail
          refine (l1Max_any _ _ _).mono ?_
          rintro e w' ⟨rfl, rfl⟩
          go_wp2_with fail
          go_roundw
          case rel => exact ⟨t + 1, by omega, by go_num, by rw [HT2.out]; congr 1; unfold imax; split <;> omega, (hb.trans (b1.mono hb.size)).trans (b2.mono (by omega))⟩
          case measure => simp [intOf]; omega
      · obtain rfl : t = n := by omega
        have HF : Hid (N = nestT (d + 1) l) := by
          have h := HN.out
          rw [List.take_of_length_le (by rw [HL.out]; exact Nat.le_refl _)] at h
          exact h
        go_wp2
        go_ret
        exact ⟨by rw [← HF.out]; rfl, hb, hb.size⟩
end Go.Proofs.YthkbckkghnbonaaGreatDoor
namespace Go.Proofs.YthkbckkghnbonaaGreatDoor
open Go.RowKit
set_option linter.unusedVariables false
def gstr (k : Nat) : ByteArray := ⟨(gname k).toArray⟩
def gstrs : List ByteArray := (List.range 13).map gstr
/-- The variable gateNames reads as its thirteen names. -/
def GN (w : World) : Prop := ∃ A c, w.cell? ⟨0, 0, none⟩ = some (.slice A 13 c) ∧ 0 < w.heap.size ∧ Rd w 1 A 13 (strs gstrs)
theorem GN.below {w w' : World} (h : GN w) (hb : Below w.heap.size w w') : GN w' := by
  obtain ⟨A, c, h1, h2, h3⟩ := h
  exact ⟨A, c, (hb.cell (p := ⟨0, 0, none⟩) h2).trans h1, Nat.lt_of_lt_of_le h2 hb.size, h3.below hb⟩
theorem GN.drewN {w : World} (h : GN w) (k : Nat) : GN (w.drewN k) := h
set_option maxRecDepth 100000 in
set_option maxHeartbeats 1000000 in
theorem GateName_impl (k : Nat) (h1 : 1 ≤ k) (h2 : k ≤ 12) (w : World) (hG : GN w) : Calls Tryz.prog 134 #[.int .i64 k] w fun e w' => e = .returned (.string ⟨(gname k).toArray⟩) ∧ w = w' := by
  obtain ⟨A, c, hg, hl, hr⟩ := hG
  obtain ⟨b, off, rfl, hb, hc⟩ := hr.2 (by omega)
  have q0 : w.cell? ⟨b, off + k, none⟩ = some (.string ⟨(gname k).toArray⟩) := hc k _ (by
    simp only [strs, gstrs, List.map_map]
    rw [List.getElem?_map, List.getElem?_range (by omega)]
    rfl)
  have hin : inB (k : Int) 1 12 = true := inB_t (by omega) (by omega)
  clear hc hr
  go_enter Tryz.func134, Tryz.ntmps134
  go_wp2_with (go_at_call 44; refine (in_any _ _ _ _).mono ?_; rintro e w' ⟨rfl, rfl⟩)
  go_ret
  exact ⟨rfl, rfl⟩
set_option maxRecDepth 100000 in
set_option maxHeartbeats 1000000 in
theorem GateKind_impl (word : ByteArray) (w : World) (hG : GN w) : Calls Tryz.prog 102 #[.string word] w fun e w' => e = .returned (.int .i64 (gkind word)) ∧ w = w' := by
  have HGN := Lib.hid hG
  clear hG
  go_enter Tryz.func102, Tryz.ntmps102
  go_wp2
  go_loop [3] (fun k => ∃ t : Nat, 1 ≤ t ∧ t ≤ 13 ∧ k = .int .i64 t ∧ gkind word = gkindFrom word.toList (13 - t) t) (fun k => 13 - (intOf k).toNat)
  case atStart => exact ⟨1, by omega, by omega, rfl, rfl⟩
  case round =>
    obtain ⟨t, h1, ht, rfl, hg⟩ := hrel
    have HG := Lib.hid hg
    clear hg
    by_cases hlt : t ≤ 12
    · have HS : Hid (gkind word = if gname t == word.toList then t else gkindFrom word.toList (13 - (t + 1)) (t + 1)) := by
        have h := HG.out
        rw [show 13 - t = (13 - (t + 1)) + 1 from by omega] at h
        exact h
      cases he : (gname t == word.toList)
      · have HF : Hid (gkind word = gkindFrom word.toList (13 - (t + 1)) (t + 1)) := by
          have h := HS.out
          rw [he] at h
          exact h
        go_wp2_with fail
        refine (GateName_impl t h1 hlt _ HGN.out).mono ?_
        rintro e w1 ⟨rfl, rfl⟩
        go_wp2_with fail
        go_round
        case rel => exact ⟨t + 1, by omega, by omega, by go_num, HF.out⟩
        case measure => simp [intOf]; omega
      · have HF : Hid (gkind word = t) := by
          have h := HS.out
          rw [he] at h
          exact h
        go_wp2_with fail
        refine (GateName_impl t h1 hlt _ HGN.out).mono ?_
        rintro e w1 ⟨rfl, rfl⟩
        go_wp2_with fail
        go_ret
        exact ⟨by rw [HF.out]; rfl, rfl⟩
    · obtain rfl : t = 13 := by omega
      have HF : Hid (gkind word = 0) := HG.out
      go_wp2_with fail
      go_ret
      exact ⟨by rw [HF.out]; rfl, rfl⟩
end Go.Proofs.YthkbckkghnbonaaGreatDoor
namespace Go.Proofs.YthkbckkghnbonaaGreatDoor
open Go.ChangeShapes Go.WideShapes Go.ChangeAt Go.RowKit Go.Deep
set_option linter.unusedVariables false
set_option maxRecDepth 100000
theorem gNames : Tryz.prog.globalNamed "loop.example/g00506/impl.gateNames" = some 0 := by kernel_rfl
theorem tNames : (Tryz.prog.globals[0]?).map (·.type) = some 24 := by kernel_rfl
theorem cellsStr : Tryz.prog.cellsOf 9 = 1 := by kernel_rfl
theorem toList_inj {a b : ByteArray} (h : a.data.toList = b.data.toList) : a = b := by
  cases a
  cases b
  simp_all
theorem of_map_eq : ∀ {l l' : List ByteArray}, l.map (fun s => s.data.toList) = l'.map (fun s => s.data.toList) → l = l'
  | [], [], _ => rfl
  | [], _ :: _, h => by simp at h
  | _ :: _, [], h => by simp at h
  | a :: l, b :: l', h => by
    simp only [List.map_cons, List.cons.injEq] at h
    rw [toList_inj h.1, of_map_eq h.2]
theorem lits_inj : ∀ {l : List ByteArray} {l' : List (List UInt8)}, (l.map fun s => (.lit (.string s.data.toList) : DataW Unit)) = l'.map (fun s => .lit (.string s)) → l.map (fun s => s.data.toList) = l'
  | [], [], _ => rfl
  | [], _ :: _, h => by simp at h
  | _ :: _, [], h => by simp at h
  | a :: l, b :: l', h => by
    simp only [List.map_cons, List.cons.injEq, DataW.lit.injEq, Lit.string.injEq] at h
    rw [List.map_cons, h.1, lits_inj h.2]
theorem gn_of_cell {W : World} {fuel : Nat} {cs : Array Value} {p : List MemPlace} (hv : W.var? Tryz.prog "loop.example/g00506/impl.gateNames" = some cs)
    (hd : DataW.trod (fun _ => ()) Tryz.prog W 0 (fun _ => true) false fuel 24 cs.toList = some (Rows.laid_loop_example_g00506_impl_gateNames, p)) : GN W := by
  rcases Go.ChangeShapes.open_strings Tryz.underlying24 Tryz.underlying9 cellsStr hd with ⟨_, hx⟩ | ⟨a, len, cap, ss, hcs, _, hl, hm, hlen, hx, hcell, _⟩
  · simp [Rows.laid_loop_example_g00506_impl_gateNames] at hx
  · have h1 : (Rows.laid_loop_example_g00506_impl_gateNames : DataW Unit) = .slice (Go.ChangeShapes.strs (ss.take len)) (Go.ChangeShapes.strs (ss.drop len)) := by rw [Prod.mk.injEq] at hx; exact hx.1
    have h2 : (Rows.laid_loop_example_g00506_impl_gateNames : DataW Unit) = .slice (gnames.map fun s => .lit (.string s)) [] := rfl
    rw [h2, DataW.slice.injEq] at h1
    have h3 := lits_inj h1.1.symm
    have h4 : ss.take len = gstrs := of_map_eq (by rw [h3]; rfl)
    have h5 : len = 13 := by
      have h6 := congrArg List.length h4
      rw [List.length_take] at h6
      have h7 : gstrs.length = 13 := rfl
      simp at hlen
      omega
    subst h5
    have hss : ss.length = cap := by simpa using hlen
    have hat : ∀ j u, (Go.Proofs.YthkbckkghnbonaaGreatDoor.strs gstrs)[j]? = some u → W.cell? (a.add j) = some u := by
      intro j u hu
      simp only [Go.Proofs.YthkbckkghnbonaaGreatDoor.strs, List.getElem?_map] at hu
      obtain ⟨s, hs, rfl⟩ := Option.map_eq_some_iff.1 hu
      rw [← h4] at hs
      have hj : j < 13 := by have := (List.getElem?_eq_some_iff.1 hs).1; rw [List.length_take] at this; omega
      rw [List.getElem?_take, if_pos hj] at hs
      rw [hcell j (by omega)]
      simp [List.getD_eq_getElem?_getD, hs]
    have hc0 := hat 0 (.string (gstr 0)) rfl
    obtain ⟨b, off, spot⟩ := a
    have hspot : spot = none := by simpa [Addr.add] using World.cell?_spot hc0
    subst hspot
    have hg : W.cell? ⟨0, 0, none⟩ = some (.slice (some ⟨b, off, none⟩) 13 cap) := by
      have := World.var?_cell gNames hv 0
      rw [Array.eq_one_of_toList hcs] at this
      simpa using this
    refine ⟨some ⟨b, off, none⟩, cap, hg, block_of_cell hg, rfl, fun _ => ⟨b, off, rfl, by simpa [Addr.add] using block_of_cell hc0, fun j u hu => ?_⟩⟩
    have := hat j u hu
    rwa [add_plain] at this
section
variable {H : Type} {enc : TypeId × Value → H}
theorem vars_stay {W W' : World} (hl : laidOutB Tryz.prog = true) (hr : Tryz.prog.readableRec 24 = true ∧ 24 < Tryz.prog.types.size) {gs : List (DataW H)} {q : List MemPlace} (h : DataW.TrodVars enc Tryz.prog W (fun _ => true) ["loop.example/g00506/impl.gateNames"] gs q) (hlt : ∀ x ∈ q, x.block < W.heap.size) (hb : Below W.heap.size W W') (hgn : 0 < W.heap.size) :
    ∃ d, gs = [d] ∧ ∀ sp : Nat → Bool, (∀ x ∈ q, sp x.block = true) → DataW.TrodVars enc Tryz.prog W' sp ["loop.example/g00506/impl.gateNames"] [d] q := by
  obtain ⟨g, t, cs, fuel, d, p, rfl, hg, ht, hv, hd, rfl⟩ := trodVars_one h
  obtain rfl := Option.some.inj (gNames.symm.trans hg)
  obtain rfl := Option.some.inj (tNames.symm.trans ht)
  refine ⟨d, rfl, fun sp hsp => ?_⟩
  have hv' : W'.var? Tryz.prog "loop.example/g00506/impl.gateNames" = some cs := by
    simp only [World.var?, gNames, Option.bind_some] at hv ⊢
    rw [hb.block _ hgn]
    exact hv
  obtain ⟨v, hcs⟩ : ∃ v, cs.toList = [v] := by
    rcases open_slice Tryz.underlying24 hd with ⟨h0, _⟩ | ⟨a, len, cap, m, n, D, Pl, hcs, _⟩
    · exact ⟨_, h0⟩
    · exact ⟨_, hcs⟩
  have h1 : DataW.Trod enc Tryz.prog W 0 (fun _ => true) true 24 v d p := ⟨fuel, by
    have e : v.cells.toList = [v] := by
      rcases open_slice Tryz.underlying24 hd with ⟨h0, _⟩ | ⟨a, len, cap, m, n, D, Pl, h0, _⟩
      · rw [hcs] at h0; injection h0 with h0 _; subst h0; rfl
      · rw [hcs] at h0; injection h0 with h0 _; subst h0; rfl
    rw [e, ← hcs]
    exact hd⟩
  have h2 := WideElems.Trod_stays (sp' := sp) hl hr.1 hr.2 h1 (fun x hx => hb.same (hlt x (by simp [hx]))) (fun x hx => hsp x (by simp [hx]))
  obtain ⟨fuel', hf⟩ := h2
  have e : v.cells.toList = [v] := by
    rcases open_slice Tryz.underlying24 hd with ⟨h0, _⟩ | ⟨a, len, cap, m, n, D, Pl, h0, _⟩
    · rw [hcs] at h0; injection h0 with h0 _; subst h0; rfl
    · rw [hcs] at h0; injection h0 with h0 _; subst h0; rfl
  rw [e, ← hcs] at hf
  exact trodVars_mk1 gNames tNames hv' hf
end
theorem strRec : Tryz.prog.readableRec 24 = true ∧ 24 < Tryz.prog.types.size := ⟨by kernel_rfl, of_decide_eq_true (by kernel_rfl)⟩
end Go.Proofs.YthkbckkghnbonaaGreatDoor
namespace Go.Proofs.YthkbckkghnbonaaGreatDoor
open Go.ChangeShapes Go.WideShapes Go.ChangeAt Go.RowKit Go.Deep
set_option linter.unusedVariables false
set_option maxRecDepth 100000
theorem gn_of_met1 {W : World} (h : laidMet Tryz.prog [("loop.example/g00506/impl.gateNames", Rows.laid_loop_example_g00506_impl_gateNames)] W) : GN W := by
  obtain ⟨ps, ⟨g0, t0, cs0, f0, p0, q0, hg0, ht0, hv0, hd0, _⟩, _⟩ := h
  obtain rfl := Option.some.inj (gNames.symm.trans hg0)
  obtain rfl := Option.some.inj (tNames.symm.trans ht0)
  exact gn_of_cell hv0 hd0
end Go.Proofs.YthkbckkghnbonaaGreatDoor
namespace Go.Proofs.YthkbckkghnbonaaGreatDoor
open Go.RowKit
set_option linter.unusedVariables false
/-- As 'Rd', at a block with the property P. -/
def RdQ (w : World) (P : Nat → Prop) (size : Nat) (A : Option Addr) (n : Nat) (xs : List Value) : Prop :=
  xs.length = n * size ∧ (0 < n → ∃ b off, A = some ⟨b, off, none⟩ ∧ P b ∧ b < w.heap.size ∧ ∀ j u, xs[j]? = some u → w.cell? ⟨b, off + j, none⟩ = some u)
/-- The slice (A, n) reads as the statements l, all blocks with the property P. -/
def TrQ (w : World) (P : Nat → Prop) : (d : Nat) → Option Addr → Nat → List (Tr d) → Prop
  | 0, _, n, l => l.length = n ∧ n = 0
  | d + 1, A, n, l => l.length = n ∧ (0 < n → ∃ b off, A = some ⟨b, off, none⟩ ∧ P b ∧ b < w.heap.size ∧ ∀ (i : Nat) (s : Tr (d + 1)), l[i]? = some s →
      ∃ Aa ca Ab nb cb, SCells w b (off + i * 5) (hdT s) Aa ca Ab nb cb ∧ RdQ w P 1 Aa (hdT s).args.length (strs (hdT s).args) ∧ TrQ w P d Ab nb (bdT s) ∧ (hdT s).args.length ≤ ca)
section
variable {w w' : World} {P P' : Nat → Prop}
theorem RdQ.rd {size n : Nat} {A : Option Addr} {xs : List Value} (h : RdQ w P size A n xs) : Rd w size A n xs :=
  ⟨h.1, fun h0 => by obtain ⟨b, off, e, _, hb, hc⟩ := h.2 h0; exact ⟨b, off, e, hb, hc⟩⟩
theorem RdQ.mono {size n : Nat} {A : Option Addr} {xs : List Value} (h : RdQ w P size A n xs) (hp : ∀ b, b < w.heap.size → P b → P' b) : RdQ w P' size A n xs :=
  ⟨h.1, fun h0 => by obtain ⟨b, off, e, h1, hb, hc⟩ := h.2 h0; exact ⟨b, off, e, hp b hb h1, hb, hc⟩⟩
theorem RdQ.keep {size n : Nat} {A : Option Addr} {xs : List Value} (h : RdQ w P size A n xs) (hk : ∀ b, P b → b < w.heap.size → w'.heap[b]? = w.heap[b]?) (hs : w.heap.size ≤ w'.heap.size) : RdQ w' P size A n xs :=
  ⟨h.1, fun h0 => by
    obtain ⟨b, off, e, h1, hb, hc⟩ := h.2 h0
    refine ⟨b, off, e, h1, Nat.lt_of_lt_of_le hb hs, fun j u hu => ?_⟩
    rw [← hc j u hu]
    have := hk b h1 hb
    simp [World.cell?, this]⟩
theorem rdQ_of_own {base E size n c : Nat} {A : Option Addr} {xs : List Value} (h : w.ownsRow base E size (.slice A n c) n xs) : RdQ w (base ≤ ·) size A n xs := by
  have r := rd_own h
  refine ⟨r.1, fun h0 => ?_⟩
  obtain ⟨b, off, e, hb, hc⟩ := r.2 h0
  refine ⟨b, off, e, ?_, hb, hc⟩
  subst e
  exact (h.lt b rfl).1
theorem TrQ.len : ∀ {d : Nat} {A : Option Addr} {n : Nat} {l : List (Tr d)}, TrQ w P d A n l → l.length = n
  | 0, _, _, _, h => h.1
  | _ + 1, _, _, _, h => h.1
theorem cell_same {b : Nat} (h : w'.heap[b]? = w.heap[b]?) (o : Nat) : w'.cell? ⟨b, o, none⟩ = w.cell? ⟨b, o, none⟩ := by simp [World.cell?, h]
theorem TrQ.mono (hp : ∀ b, b < w.heap.size → P b → P' b) : ∀ {d : Nat} {A : Option Addr} {n : Nat} {l : List (Tr d)}, TrQ w P d A n l → TrQ w P' d A n l := by
  intro d
  induction d with
  | zero => intro A n l h; exact h
  | succ d ih =>
    intro A n l h
    refine ⟨h.1, fun h0 => ?_⟩
    obtain ⟨b, off, e, h1, hb, hc⟩ := h.2 h0
    refine ⟨b, off, e, hp b hb h1, hb, fun i s hi => ?_⟩
    obtain ⟨Aa, ca, Ab, nb, cb, h1, h2, h3, h4⟩ := hc i s hi
    exact ⟨Aa, ca, Ab, nb, cb, h1, h2.mono hp, ih h3, h4⟩
theorem TrQ.keep (hk : ∀ b, P b → b < w.heap.size → w'.heap[b]? = w.heap[b]?) (hs : w.heap.size ≤ w'.heap.size) :
    ∀ {d : Nat} {A : Option Addr} {n : Nat} {l : List (Tr d)}, TrQ w P d A n l → TrQ w' P d A n l := by
  intro d
  induction d with
  | zero => intro A n l h; exact h
  | succ d ih =>
    intro A n l h
    refine ⟨h.1, fun h0 => ?_⟩
    obtain ⟨b, off, e, hl, hb, hc⟩ := h.2 h0
    refine ⟨b, off, e, hl, Nat.lt_of_lt_of_le hb hs, fun i s hi => ?_⟩
    obtain ⟨Aa, ca, Ab, nb, cb, h1, h2, h3, h4⟩ := hc i s hi
    exact ⟨Aa, ca, Ab, nb, cb, h1.keep (cell_same (hk b hl hb)), h2.keep hk hs, ih h3, h4⟩
theorem TrQ.rdt {lo : Nat} (hp : ∀ b, P b → lo ≤ b) : ∀ {d : Nat} {A : Option Addr} {n : Nat} {l : List (Tr d)}, TrQ w P d A n l → RdT w lo d A n l := by
  intro d
  induction d with
  | zero => intro A n l h; exact h
  | succ d ih =>
    intro A n l h
    refine ⟨h.1, fun h0 => ?_⟩
    obtain ⟨b, off, e, h1, hb, hc⟩ := h.2 h0
    refine ⟨b, off, e, hp b h1, hb, fun i s hi => ?_⟩
    obtain ⟨Aa, ca, Ab, nb, cb, h1, h2, h3, h4⟩ := hc i s hi
    refine ⟨Aa, ca, Ab, nb, cb, h1, ⟨h2.1, fun h0 => ?_⟩, ih h3, h4⟩
    obtain ⟨b, off, e, h1, hb, hc⟩ := h2.2 h0
    exact ⟨b, off, e, hp b h1, hb, hc⟩
/-- Statements of depth at most d are statements of depth at most d + 1. -/
def upT : (d : Nat) → Tr d → Tr (d + 1)
  | 0, e => nomatch (show Empty from e)
  | d + 1, s => mkT (hdT s) ((bdT s).map (upT d))
theorem TrQ.up : ∀ {d : Nat} {A : Option Addr} {n : Nat} {l : List (Tr d)}, TrQ w P d A n l → TrQ w P (d + 1) A n (l.map (upT d)) := by
  intro d
  induction d with
  | zero =>
    intro A n l h
    have h1 : l.length = n := h.1
    have h2 : n = 0 := h.2
    exact ⟨by rw [List.length_map]; exact h1, fun h0 => absurd h0 (by omega)⟩
  | succ d ih =>
    intro A n l h
    refine ⟨by rw [List.length_map]; exact h.1, fun h0 => ?_⟩
    obtain ⟨b, off, e, h1, hb, hc⟩ := h.2 h0
    refine ⟨b, off, e, h1, hb, fun i s hi => ?_⟩
    rw [List.getElem?_map, Option.map_eq_some_iff] at hi
    obtain ⟨t, ht, rfl⟩ := hi
    obtain ⟨Aa, ca, Ab, nb, cb, h1, h2, h3, h4⟩ := hc i t ht
    exact ⟨Aa, ca, Ab, nb, cb, h1, h2, ih h3, h4⟩
theorem szT_up : ∀ (d : Nat) (l : List (Tr d)), szT (d + 1) (l.map (upT d)) = szT d l := by
  intro d
  induction d with
  | zero =>
    intro l
    cases l with
    | nil => rfl
    | cons x _ => exact nomatch (show Empty from x)
  | succ d ih =>
    intro l
    rw [szT_succ, szT_succ, List.length_map]
    congr 1
    unfold sumE
    rw [List.map_map]
    congr 1
    apply List.map_congr_left
    intro s _
    show (hdT s).word.size + ((hdT s).args.length + szS (hdT s).args + szT (d + 1) ((bdT s).map (upT d))) = _
    rw [ih]
    rfl
/-- The five cells of a statement, as a list. -/
def scl (s : SH) (Aa : Option Addr) (ca : Nat) (Ab : Option Addr) (nb cb : Nat) : List Value := [.int .i64 s.k, .string s.word, .slice Aa s.args.length ca, .int .i64 s.count, .slice Ab nb cb]
/-- Five cells that are a statement whose names and body lie in blocks of Q. -/
def StQ (w : World) (Q : Nat → Prop) (d : Nat) (cs : List Value) (s : Tr (d + 1)) : Prop :=
  ∃ Aa ca Ab nb cb, cs = scl (hdT s) Aa ca Ab nb cb ∧ RdQ w Q 1 Aa (hdT s).args.length (strs (hdT s).args) ∧ TrQ w Q d Ab nb (bdT s) ∧ (hdT s).args.length ≤ ca
/-- Two lists, element by element. -/
def Fa2 {α β : Type} (R : α → β → Prop) : List α → List β → Prop
  | [], [] => True
  | a :: l, b :: m => R a b ∧ Fa2 R l m
  | _, _ => False
/-- Cells that are a list of statements, as 'StQ'. -/
def ElQ (w : World) (Q : Nat → Prop) (d : Nat) (xs : List Value) (l : List (Tr (d + 1))) : Prop :=
  ∃ css : List (List Value), xs = css.flatten ∧ Fa2 (StQ w Q d) css l
theorem StQ.mono {d : Nat} {cs : List Value} {s : Tr (d + 1)} (h : StQ w P d cs s) (hp : ∀ b, b < w.heap.size → P b → P' b) : StQ w P' d cs s := by
  obtain ⟨Aa, ca, Ab, nb, cb, h1, h2, h3, h4⟩ := h
  exact ⟨Aa, ca, Ab, nb, cb, h1, h2.mono hp, h3.mono hp, h4⟩
theorem StQ.keep {d : Nat} {cs : List Value} {s : Tr (d + 1)} (h : StQ w P d cs s) (hk : ∀ b, P b → b < w.heap.size → w'.heap[b]? = w.heap[b]?) (hs : w.heap.size ≤ w'.heap.size) : StQ w' P d cs s := by
  obtain ⟨Aa, ca, Ab, nb, cb, h1, h2, h3, h4⟩ := h
  exact ⟨Aa, ca, Ab, nb, cb, h1, h2.keep hk hs, h3.keep hk hs, h4⟩
theorem StQ.up {d : Nat} {cs : List Value} {s : Tr (d + 1)} (h : StQ w P d cs s) : StQ w P (d + 1) cs (upT (d + 1) s) := by
  obtain ⟨Aa, ca, Ab, nb, cb, h1, h2, h3, h4⟩ := h
  exact ⟨Aa, ca, Ab, nb, cb, h1, h2, h3.up, h4⟩
theorem forall2_mono {α β : Type} {R S : α → β → Prop} (h : ∀ a b, R a b → S a b) : ∀ {l : List α} {m : List β}, Fa2 R l m → Fa2 S l m
  | [], [], _ => trivial
  | _ :: _, _ :: _, h1 => ⟨h _ _ h1.1, forall2_mono h h1.2⟩
theorem forall2_append {α β : Type} {R : α → β → Prop} : ∀ {l l' : List α} {m m' : List β}, Fa2 R l m → Fa2 R l' m' → Fa2 R (l ++ l') (m ++ m')
  | [], _, [], _, _, h2 => h2
  | _ :: _, _, _ :: _, _, h1, h2 => ⟨h1.1, forall2_append h1.2 h2⟩
theorem forall2_at {α β : Type} {R : α → β → Prop} : ∀ {l : List α} {m : List β}, Fa2 R l m → ∀ {i : Nat} {y : β}, m[i]? = some y → ∃ x, l[i]? = some x ∧ R x y
  | [], [], _, i, y, h => by simp at h
  | a :: _, _ :: _, h1, 0, y, h => by
    simp only [List.getElem?_cons_zero, Option.some.injEq] at h
    subst h
    exact ⟨a, rfl, h1.1⟩
  | _ :: _, _ :: _, h1, i + 1, y, h => by
    simp only [List.getElem?_cons_succ] at h ⊢
    exact forall2_at h1.2 h
theorem forall2_map {α β γ : Type} {R : α → β → Prop} {S : α → γ → Prop} {f : β → γ} (h : ∀ a b, R a b → S a (f b)) : ∀ {l : List α} {m : List β}, Fa2 R l m → Fa2 S l (m.map f)
  | [], [], _ => trivial
  | _ :: _, _ :: _, h1 => ⟨h _ _ h1.1, forall2_map h h1.2⟩
theorem ElQ.nil {Q : Nat → Prop} {d : Nat} : ElQ w Q d [] [] := ⟨[], rfl, trivial⟩
theorem ElQ.mono {d : Nat} {xs : List Value} {l : List (Tr (d + 1))} (h : ElQ w P d xs l) (hp : ∀ b, b < w.heap.size → P b → P' b) : ElQ w P' d xs l := by
  obtain ⟨css, e, h⟩ := h
  exact ⟨css, e, forall2_mono (fun _ _ h => h.mono hp) h⟩
theorem ElQ.keep {d : Nat} {xs : List Value} {l : List (Tr (d + 1))} (h : ElQ w P d xs l) (hk : ∀ b, P b → b < w.heap.size → w'.heap[b]? = w.heap[b]?) (hs : w.heap.size ≤ w'.heap.size) : ElQ w' P d xs l := by
  obtain ⟨css, e, h⟩ := h
  exact ⟨css, e, forall2_mono (fun _ _ h => h.keep hk hs) h⟩
theorem ElQ.up {d : Nat} {xs : List Value} {l : List (Tr (d + 1))} (h : ElQ w P d xs l) : ElQ w P (d + 1) xs (l.map (upT (d + 1))) := by
  obtain ⟨css, e, h⟩ := h
  exact ⟨css, e, forall2_map (fun _ _ h => h.up) h⟩
theorem ElQ.append {d : Nat} {xs ys : List Value} {l m : List (Tr (d + 1))} (h : ElQ w P d xs l) (h' : ElQ w P d ys m) : ElQ w P d (xs ++ ys) (l ++ m) := by
  obtain ⟨css, e, h⟩ := h
  obtain ⟨dss, e', h'⟩ := h'
  exact ⟨css ++ dss, by rw [e, e', List.flatten_append], forall2_append h h'⟩
theorem ElQ.one {d : Nat} {cs : List Value} {s : Tr (d + 1)} (h : StQ w P d cs s) : ElQ w P d cs [s] := ⟨[cs], by simp, h, trivial⟩
theorem StQ.len {d : Nat} {cs : List Value} {s : Tr (d + 1)} (h : StQ w P d cs s) : cs.length = 5 := by
  obtain ⟨Aa, ca, Ab, nb, cb, rfl, _⟩ := h
  rfl
theorem StQ.ones {d : Nat} {cs : List Value} {s : Tr (d + 1)} (h : StQ w P d cs s) : ∀ u ∈ cs, u.oneCell' = true := by
  obtain ⟨Aa, ca, Ab, nb, cb, rfl, _⟩ := h
  intro u hu
  simp only [scl, List.mem_cons, List.not_mem_nil, or_false] at hu
  rcases hu with rfl | rfl | rfl | rfl | rfl <;> rfl
theorem flat5 {R : List Value → Prop} (hR : ∀ c, R c → c.length = 5) : ∀ (css : List (List Value)), (∀ c ∈ css, R c) → ∀ (i j : Nat) (c : List Value), css[i]? = some c → j < 5 → css.flatten[i * 5 + j]? = c[j]? := by
  intro css
  induction css with
  | nil => intro _ i j c h _; simp at h
  | cons x css ih =>
    intro hc i j c h hj
    have hx := hR x (hc x (by simp))
    cases i with
    | zero =>
      simp only [List.getElem?_cons_zero, Option.some.injEq] at h
      subst h
      rw [Nat.zero_mul, Nat.zero_add, List.flatten_cons, List.getElem?_append_left (by omega)]
    | succ i =>
      simp only [List.getElem?_cons_succ] at h
      rw [List.flatten_cons, List.getElem?_append_right (by omega), hx, show (i + 1) * 5 + j - 5 = i * 5 + j by omega]
      exact ih (fun c h => hc c (by simp [h])) i j c h hj
theorem ElQ.all5 {d : Nat} : ∀ {css : List (List Value)} {l : List (Tr (d + 1))}, Fa2 (StQ w P d) css l → ∀ c ∈ css, c.length = 5
  | [], [], _, c, h => by simp at h
  | _ :: _, _ :: _, h1, c, hc => by
    rcases List.mem_cons.1 hc with rfl | hc
    · exact h1.1.len
    · exact ElQ.all5 h1.2 c hc
theorem ElQ.ones2 {d : Nat} : ∀ {css : List (List Value)} {l : List (Tr (d + 1))}, Fa2 (StQ w P d) css l → (∀ u ∈ css.flatten, u.oneCell' = true) ∧ css.flatten.length = l.length * 5
  | [], [], _ => ⟨by simp, rfl⟩
  | _ :: _, _ :: _, h1 => by
    obtain ⟨i1, i2⟩ := ElQ.ones2 h1.2
    refine ⟨fun u hu => ?_, by rw [List.flatten_cons, List.length_append, h1.1.len, i2, List.length_cons]; omega⟩
    rw [List.flatten_cons] at hu
    rcases List.mem_append.1 hu with hu | hu
    · exact h1.1.ones u hu
    · exact i1 u hu
theorem ElQ.ones {d : Nat} {xs : List Value} {l : List (Tr (d + 1))} (h : ElQ w P d xs l) : ∀ u ∈ xs, u.oneCell' = true := by
  obtain ⟨css, rfl, h⟩ := h
  exact (ElQ.ones2 h).1
theorem ElQ.len {d : Nat} {xs : List Value} {l : List (Tr (d + 1))} (h : ElQ w P d xs l) : xs.length = l.length * 5 := by
  obtain ⟨css, rfl, h⟩ := h
  exact (ElQ.ones2 h).2
/-- Cells that lie in memory, with what they point to, are statements that a slice reads as. -/
theorem ElQ.tr {d n : Nat} {A : Option Addr} {xs : List Value} {l : List (Tr (d + 1))} (h : ElQ w P d xs l) (hr : RdQ w P 5 A n xs) (hn : l.length = n) : TrQ w P (d + 1) A n l := by
  refine ⟨hn, fun h0 => ?_⟩
  obtain ⟨b, off, e, hp, hb, hc⟩ := hr.2 h0
  refine ⟨b, off, e, hp, hb, fun i s hi => ?_⟩
  obtain ⟨css, rfl, h⟩ := h
  obtain ⟨c, hci, Aa, ca, Ab, nb, cb, rfl, h2, h3, h4⟩ := forall2_at h hi
  have ha := ElQ.all5 h
  have f : ∀ j, j < 5 → ∀ u, (scl (hdT s) Aa ca Ab nb cb)[j]? = some u → w.cell? ⟨b, off + (i * 5 + j), none⟩ = some u := fun j hj u hu => hc _ _ ((flat5 (R := fun c => c.length = 5) (fun _ h => h) css ha i j _ hci hj).trans hu)
  refine ⟨Aa, ca, Ab, nb, cb, ⟨f 0 (by decide) _ rfl, ?_, ?_, ?_, ?_⟩, h2, h3, h4⟩
  · have := f 1 (by decide) _ rfl; rwa [← Nat.add_assoc] at this
  · have := f 2 (by decide) _ rfl; rwa [← Nat.add_assoc] at this
  · have := f 3 (by decide) _ rfl; rwa [← Nat.add_assoc] at this
  · have := f 4 (by decide) _ rfl; rwa [← Nat.add_assoc] at this
end
/-- A row of statements of the call's own: the cells, and what they point to, lie in blocks from base on; what they point to is not the row itself. -/
def OwnT (w : World) (base d : Nat) (v : Value) (l : List (Tr (d + 1))) : Prop :=
  ∃ xs, w.ownsRow base 66 5 v l.length xs ∧ ElQ w (fun b => base ≤ b ∧ some b ≠ v.ownBlock) d xs l
theorem OwnT.grown {w w' : World} {base d : Nat} {v : Value} {l : List (Tr (d + 1))} {row : Option Nat} (h : OwnT w base d v l) (hg : w.grownBy w' row) (hr : ∀ k, row = some k → k < base) : OwnT w' base d v l := by
  obtain ⟨xs, ho, he⟩ := h
  refine ⟨xs, ho.kept hg ?_, he.keep (fun b hp hb => hg.block b hb (fun e => ?_)) hg.size⟩
  · cases hk : v.ownBlock with
    | none => exact .inl rfl
    | some k =>
      refine .inr fun e => ?_
      have h1 := hr k e.symm
      have h2 := (ho.lt k hk).1
      omega
  · have := hr b e.symm
    omega
theorem OwnT.below {w w' : World} {base d : Nat} {v : Value} {l : List (Tr (d + 1))} (h : OwnT w base d v l) (hb : Below w.heap.size w w') : OwnT w' base d v l :=
  h.grown (row := none) ⟨hb.os, hb.tape, hb.output, hb.size, fun k hk _ => hb.block k hk⟩ (fun k e => by cases e)
theorem ownT_empty (w : World) (d : Nat) : OwnT (w.alloc (.cells #[] 66)) w.heap.size d (.slice (some ⟨w.heap.size, 0, none⟩) 0 0) [] := ⟨[], own_empty w _ 5, ElQ.nil⟩
theorem ownT_nil (w : World) (base d : Nat) : OwnT w base d (.slice none 0 0) [] := ⟨[], ⟨rfl, .inl ⟨rfl, rfl⟩⟩, ElQ.nil⟩
/-- An append of some statements to the row. -/
theorem OwnT.push {w wa w6 : World} {base d : Nat} {v v6 : Value} {xs ys : List Value} {l m : List (Tr (d + 1))} (hx : ElQ w (fun b => base ≤ b ∧ some b ≠ v.ownBlock) d xs l) (hy : ElQ w (fun b => base ≤ b ∧ some b ≠ v.ownBlock) d ys m)
    (ho6 : w6.ownsRow base 66 5 v6 (l.length + m.length) (xs ++ ys)) (hba : Below w.heap.size w wa) (hg : wa.grownBy w6 v.ownBlock) (hv : v6.ownBlock = v.ownBlock ∨ v6.ownBlock = some wa.heap.size) : OwnT w6 base d v6 (l ++ m) := by
  refine ⟨xs ++ ys, by rw [List.length_append]; exact ho6, ElQ.mono (P := fun b => base ≤ b ∧ some b ≠ v.ownBlock ∧ b < w.heap.size) ?_ ?_⟩
  · have hk : ∀ b, (base ≤ b ∧ some b ≠ v.ownBlock ∧ b < w.heap.size) → b < w.heap.size → w6.heap[b]? = w.heap[b]? := fun b hp hb => (hg.block b (Nat.lt_of_lt_of_le hb hba.size) hp.2.1).trans (hba.block b hb)
    have hs : w.heap.size ≤ w6.heap.size := Nat.le_trans hba.size hg.size
    exact ((hx.mono (fun b hb hp => ⟨hp.1, hp.2, hb⟩)).append (hy.mono (fun b hb hp => ⟨hp.1, hp.2, hb⟩))).keep hk hs
  · intro b _ hp
    refine ⟨hp.1, ?_⟩
    rcases hv with e | e
    · rw [e]; exact hp.2.1
    · rw [e]
      intro e
      injection e with e
      have := hba.size
      omega
/-- The row as statements that a slice reads as. -/
theorem OwnT.tr {w : World} {base d n c : Nat} {A : Option Addr} {l : List (Tr (d + 1))} (h : OwnT w base d (.slice A n c) l) (hn : l.length = n) : TrQ w (base ≤ ·) (d + 1) A n l := by
  obtain ⟨xs, ho, he⟩ := h
  rw [hn] at ho
  exact (he.mono (fun b _ hp => hp.1)).tr (rdQ_of_own ho) hn
theorem OwnT.up {w : World} {base d : Nat} {v : Value} {l : List (Tr (d + 1))} (h : OwnT w base d v l) : OwnT w base (d + 1) v (l.map (upT (d + 1))) := by
  obtain ⟨xs, ho, he⟩ := h
  exact ⟨xs, by rw [List.length_map]; exact ho, he.up⟩
theorem OwnT.slice {w : World} {base d : Nat} {v : Value} {l : List (Tr (d + 1))} (h : OwnT w base d v l) : ∃ A c, v = .slice A l.length c ∧ l.length ≤ c ∧ c ≤ maxLen := by
  obtain ⟨xs, ho, _⟩ := h
  obtain ⟨A, c, e, h1, h2, _⟩ := rd_of_own ho
  exact ⟨A, c, e, h1, h2⟩
theorem own_lowT {w : World} {B B' e size n : Nat} {v : Value} {xs : List Value} (h : w.ownsRow B e size v n xs) (hB : B' ≤ B) : w.ownsRow B' e size v n xs := by
  refine ⟨h.1, ?_⟩
  rcases h.2 with h2 | ⟨g, cap, cur, h1, h2, h3⟩
  · exact .inl h2
  · exact .inr ⟨g, cap, cur, h1, Nat.le_trans hB h2, h3⟩
end Go.Proofs.YthkbckkghnbonaaGreatDoor
