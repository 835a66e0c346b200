/- What the calls that this law reaches answer, part 1 of 9. -/
import Derived.WalkKit
import Derived.ProofKit
import Derived.OpenShut
import Derived.Carry
import Derived.Deep.Slices
import Derived.Deep.Fields
import Derived.ChangeSame
import Derived.Deep.Cut
import Derived.Deep.CutBlock
import Derived.Deep.DeepCutAuto
import Derived.Deep.LoopGhost
import Derived.StillTailTactics
import Derived.Deep.QuietTactic
import Derived.BigQuiet
import Derived.Deep.RegionHeld3
import Derived.Deep.RegionLaw
import Derived.Deep.RegionWith
import Derived.Lib.Hide
import Derived.Deep.DeepFit
import Derived.Deep.DeepMust
import Derived.WalkLawsBesides
import Derived.WalkSpells
import Derived.RegionTactic
import Derived.Deep.AppendLies
import Derived.Deep.Draws
import Derived.Maps.AppendAt
import Derived.Laws.OwnMore
import Derived.OwnWalk
import Derived.Outline
import Derived.Laws.Rows
import Derived.IntWalk
import Derived.Lib.SmallJoins
import Derived.Test.YtgjpicekdbemiacRows
import Derived.Test.YtgjpicekdbemiacProg
namespace Go.Proofs.Ytgjpicekdbemiac
open Go.ChangeShapes Go.WideShapes Go.RowKit Go.Deep

section
variable {H : Type} {enc : TypeId × Value → H} {P : Program}
theorem trodAll_stays {W W' : World} {sp : Nat → Bool} (hl : laidOutB P = true) : ∀ {ts : List TypeId} {vs : List Value} {ds : List (DataW H)} {ps : List MemPlace},
    (∀ t ∈ ts, P.readableRec t = true ∧ t < P.types.size) → DataW.TrodAll enc P W 0 (fun _ => true) true ts vs ds ps →
    (∀ x ∈ ps, W.sameAt W' x) → (∀ x ∈ ps, sp x.block = true) → DataW.TrodAll enc P W' 0 sp true ts vs ds ps := by
  intro ts
  induction ts with
  | nil =>
    intro vs ds ps _ h _ _
    obtain ⟨rfl, rfl, rfl⟩ := trodAll_nil h
    exact trodAll_mk0
  | cons t ts ih =>
    intro vs ds ps ht h hs hsp
    obtain ⟨v, vs', d, ds', p, q, rfl, rfl, rfl, h0, h1⟩ := trodAll_cons h
    have h2 := ht t (by simp)
    refine trodAll_cons_mk ?_ (ih (fun t' h' => ht t' (by simp [h'])) h1 (fun x hx => hs x (by simp [hx])) (fun x hx => hsp x (by simp [hx])))
    exact WideElems.Trod_stays hl h2.1 h2.2 h0 (fun x hx => hs x (by simp [hx])) (fun x hx => hsp x (by simp [hx]))

theorem post_of_below {f : Func} {s : ChangeSpec} {apart fresh handsOn again : Bool} {W W' : World} {args : Array Value} {v : Value} {ds gs : List (DataW H)} {before pa pv : List MemPlace}
    (hW : DataW.Whole enc P f.params.toList s.vars apart W args.toList ds gs before)
    (hres : ∀ (b : Nat) (sp : Nat → Bool) (hd : Bool), DataW.TrodAll enc P W' b sp hd f.resultTypes.toList (v.resultList f.resultTypes.size) (s.fn H (ds ++ gs)).results [])
    (hargs : ∀ sp : Nat → Bool, (∀ p ∈ before, sp p.block = true) → DataW.TrodAll enc P W' 0 sp true f.params.toList args.toList (s.fn H (ds ++ gs)).args pa)
    (hvars : ∀ sp : Nat → Bool, (∀ p ∈ before, sp p.block = true) → DataW.TrodVars enc P W' sp s.vars (s.fn H (ds ++ gs)).vars pv)
    (hps : before = pa ++ pv) (hb : Below W.heap.size W W')
    (hok : ∀ (j : Nat) (t : TypeId) (r : Value), f.resultTypes[j]? = some t → (v.resultList f.resultTypes.size)[j]? = some r → Value.okWide P W' .any 0 t r) :
    s.post enc P f apart fresh handsOn again W args v W' := by
  have hlt : ∀ p ∈ before, p.block < W.heap.size := fun p hp => hW.lt p hp
  have hold : ∀ p ∈ before, (fun b => decide (b < W.heap.size)) p.block = true := fun p hp => by simpa using hlt p hp
  refine ⟨ds, gs, before, [], pa, pv, hW, hres _ _ _, hargs _ hold, hvars _ hold, World.keptBut_mono (fun p hp => ⟨hp, ?_⟩) (hb.frame (· ∈ before)), fun _ => ?_⟩
  · rw [hps, List.mem_append] at hp
    exact Or.inr hp
  · obtain ⟨_, _, _, _, _, hz, hn⟩ := hW
    refine ⟨hok, _, _, ([] ++ pa) ++ pv, ⟨[] ++ pa, pv, trodAll_append (hargs _ (fun _ _ => rfl)) (hres _ _ _), hvars _ (fun _ _ => rfl), rfl, ?_, ?_⟩, ?_⟩
    · intro b off hp
      have hin : MemPlace.cell b off ∈ before := by rw [hps]; simpa using hp
      rw [hb.frozen (hlt _ hin)]
      exact hz b off hin
    · intro ha
      have := hn ha
      rw [hps] at this
      simpa using this
    · intro p hp _
      rw [hps]
      simpa using hp
end

/-- A call that makes memory and returns a slice of its own: it owns the row xs of n elements; what was there is as it was. -/
def RetRow (E size : Nat) (w : World) (n : Nat) (xs : List Value) (e : Ending) (w' : World) : Prop :=
  ∃ v, e = .returned v ∧ w'.ownsRow w.heap.size E size v n xs ∧ Below w.heap.size w w' ∧ w.heap.size ≤ w'.heap.size

theorem ownsRow_below {w w' : World} {base E size n : Nat} {v : Value} {xs : List Value} (h : w.ownsRow base E size v n xs) (hb : Below w.heap.size w w') : w'.ownsRow base E size v n xs :=
  h.kept (row := none) ⟨hb.os, hb.tape, hb.output, hb.size, fun k hk _ => hb.block k hk⟩ (by cases v.ownBlock <;> simp)
theorem retRow_lit {E size n b : Nat} {w W : World} {cs : Array Value} {xs : List Value} (hB : w.heap.size ≤ W.heap.size) (hb : Below w.heap.size w W) (hs : cs.size = n * size) (hm : n ≤ maxLen) (hx : cs.toList = xs) (h0 : b = W.heap.size) :
    RetRow E size w n xs (.returned (.slice (some ⟨b, 0, none⟩) n n)) (W.alloc (.cells cs E)) := by
  subst hx h0
  exact ⟨_, rfl, World.ownsRow_lit W cs n hB hm hs, hb.alloc hB _, by simp; omega⟩

/-- The slice value '.slice A n c' holds the cells xs (n elements of 'size' cells), and lies in the heap. -/
def Rd (w : World) (size : Nat) (A : Option Addr) (n : Nat) (xs : List Value) : Prop :=
  xs.length = n * size ∧ (0 < n → ∃ b off, A = some ⟨b, off, none⟩ ∧ b < w.heap.size ∧ ∀ j u, xs[j]? = some u → w.cell? ⟨b, off + j, none⟩ = some u)
theorem Rd.below {w w' : World} {size n : Nat} {A : Option Addr} {xs : List Value} (h : Rd w size A n xs) (hb : Below w.heap.size w w') : Rd w' size A n xs :=
  ⟨h.1, fun hn => by
    obtain ⟨b, off, e, hl, hc⟩ := h.2 hn
    exact ⟨b, off, e, Nat.lt_of_lt_of_le hl hb.size, fun j u hu => (hb.cell (p := ⟨b, off + j, none⟩) hl).trans (hc j u hu)⟩⟩
theorem Rd.len {w : World} {size n : Nat} {A : Option Addr} {xs : List Value} (h : Rd w size A n xs) : xs.length = n * size := h.1
theorem rd_of_own {w : World} {base E size n : Nat} {v : Value} {xs : List Value} (h : w.ownsRow base E size v n xs) : ∃ A c, v = .slice A n c ∧ n ≤ c ∧ c ≤ maxLen ∧ Rd w size A n xs := by
  rcases h.2 with ⟨rfl, rfl⟩ | ⟨g, cap, cur, rfl, hb, hh, hc, hm, _, _⟩
  · exact ⟨none, 0, rfl, Nat.le_refl _, Nat.zero_le _, h.1, fun h => absurd h (by omega)⟩
  · refine ⟨_, cap, rfl, hc, hm, h.1, fun _ => ⟨g, 0, rfl, (h.lt g rfl).2, fun j u hu => ?_⟩⟩
    have := h.cells (g := g) rfl j u hu
    rwa [Go.WideShapes.add_plain] at this

/-- The cells of boxed arguments stay readable behind whatever happens above. -/
theorem boxcells4 {w w' : World} {b : Nat} {x0 x1 x2 x3 : Value} {t : TypeId} (lay : Below w'.heap.size w' w) (h : w'.heap[b]? = some (.cells #[x0, x1, x2, x3] t (0, 0))) :
    w.cell? ⟨b, 0, none⟩ = some x0 ∧ w.cell? ⟨b, 1, none⟩ = some x1 ∧ w.cell? ⟨b, 2, none⟩ = some x2 ∧ w.cell? ⟨b, 3, none⟩ = some x3 := by
  have h' : w.heap[b]? = some (.cells #[x0, x1, x2, x3] t (0, 0)) := (lay.block b (lt_of_block h)).trans h
  exact ⟨by simp [World.cell?, h'], by simp [World.cell?, h'], by simp [World.cell?, h'], by simp [World.cell?, h']⟩
theorem boxcells8 {w w' : World} {b : Nat} {x0 x1 x2 x3 x4 x5 x6 x7 : Value} {t : TypeId} (lay : Below w'.heap.size w' w) (h : w'.heap[b]? = some (.cells #[x0, x1, x2, x3, x4, x5, x6, x7] t (0, 0))) :
    w.cell? ⟨b, 0, none⟩ = some x0 ∧ w.cell? ⟨b, 1, none⟩ = some x1 ∧ w.cell? ⟨b, 2, none⟩ = some x2 ∧ w.cell? ⟨b, 3, none⟩ = some x3 ∧ w.cell? ⟨b, 4, none⟩ = some x4 ∧ w.cell? ⟨b, 5, none⟩ = some x5 ∧ w.cell? ⟨b, 6, none⟩ = some x6 ∧ w.cell? ⟨b, 7, none⟩ = some x7 := by
  have h' : w.heap[b]? = some (.cells #[x0, x1, x2, x3, x4, x5, x6, x7] t (0, 0)) := (lay.block b (lt_of_block h)).trans h
  exact ⟨by simp [World.cell?, h'], by simp [World.cell?, h'], by simp [World.cell?, h'], by simp [World.cell?, h'], by simp [World.cell?, h'], by simp [World.cell?, h'], by simp [World.cell?, h'], by simp [World.cell?, h']⟩
theorem boxed1_0 (w : World) (o : Obj) : (w.alloc o).heap[w.heap.size]? = some o := heap_alloc_new w o
theorem boxed2_0 (w : World) (o o' : Obj) : ((w.alloc o).alloc o').heap[w.heap.size]? = some o := (Below.heap_alloc _ _ _ (by simp)).trans (heap_alloc_new w o)
theorem boxed2_1 (w : World) (o o' : Obj) : ((w.alloc o).alloc o').heap[w.heap.size + 1]? = some o' := by
  have h := heap_alloc_new (w.alloc o) o'
  simpa using h
theorem boxed3_0 (w : World) (o o' o'' : Obj) : (((w.alloc o).alloc o').alloc o'').heap[w.heap.size]? = some o := (Below.heap_alloc _ _ _ (by simp; omega)).trans (boxed2_0 w o o')
theorem boxed3_1 (w : World) (o o' o'' : Obj) : (((w.alloc o).alloc o').alloc o'').heap[w.heap.size + 1]? = some o' := (Below.heap_alloc _ _ _ (by simp)).trans (boxed2_1 w o o')
theorem boxed3_2 (w : World) (o o' o'' : Obj) : (((w.alloc o).alloc o').alloc o'').heap[w.heap.size + 2]? = some o'' := by
  have h := heap_alloc_new ((w.alloc o).alloc o') o''
  simpa using h
theorem cell_at {w : World} {b j : Nat} {cs : Array Value} {t : TypeId} {u : Value} (h : w.heap[b]? = some (.cells cs t (0, 0))) (hj : cs[j]? = some u) : w.cell? ⟨b, j, none⟩ = some u := by simp [World.cell?, h, hj]
theorem cells_row {w : World} {b : Nat} {cs : Array Value} {t : TypeId} (h : w.heap[b]? = some (.cells cs t (0, 0))) {xs : List Value} (ys : List Value) (hp : cs.toList = xs ++ ys) :
    ∀ j u, xs[j]? = some u → w.cell? ((⟨b, 0, none⟩ : Addr).add j) = some u := by
  intro j u hj
  have hc : cs[j]? = some u := by
    rw [← Array.getElem?_toList, hp, List.getElem?_append_left (List.getElem?_eq_some_iff.1 hj).1]
    exact hj
  rw [Go.WideShapes.add_plain]
  simp [World.cell?, h, hc]
theorem quiet_left {P : Program} {f : FuncId} {args : Array Value} {w : World} {n : Nat} {v : Value}
    (h : Calls P f args (w.drewN n) fun e w' => e = .returned v ∧ w.drewN n = w') : Calls P f args (w.drewN n) fun e w'' => e = .returned v ∧ ∃ m, w'' = w.drewN m :=
  h.mono fun _ _ ⟨he, hm⟩ => ⟨he, n, hm.symm⟩
theorem below_drewN {B : Nat} {a w : World} (h : Below B a w) (n : Nat) : Below B a (w.drewN n) := ⟨h.os, h.tape, h.output, h.size, h.block⟩
theorem Rd.drew {w : World} {size n : Nat} {A : Option Addr} {xs : List Value} (h : Rd w size A n xs) : Rd w.drew size A n xs := h
theorem Rd.drewN {w : World} {size n : Nat} {A : Option Addr} {xs : List Value} (h : Rd w size A n xs) (k : Nat) : Rd (w.drewN k) size A n xs := h
theorem Rd.take {w : World} {n : Nat} {A : Option Addr} {xs : List Value} (h : Rd w 1 A n xs) {t : Nat} (ht : t ≤ n) : Rd w 1 A t (xs.take t) :=
  ⟨by rw [List.length_take, h.1]; omega, fun h0 => by
    obtain ⟨b, off, e, hl, hc⟩ := h.2 (by omega)
    exact ⟨b, off, e, hl, fun j u hu => hc j u (by
      have hj := (List.getElem?_eq_some_iff.1 hu).1
      rw [List.length_take] at hj
      rw [← hu, List.getElem?_take, if_pos (by omega)])⟩⟩
theorem grown_below {w w' : World} {B : Nat} {row : Option Nat} (h : w.grownBy w' row) (hB : B ≤ w.heap.size) (hr : ∀ k, row = some k → B ≤ k) : Below B w w' := (Below.refl _ _).grown h hB hr

/-- A gate as plain data. -/
structure Gt where
  k : Int
  a : Int
  b : Int
  c : Int
theorem flat_length {α : Type} (f : α → List Value) (k : Nat) (hf : ∀ x, (f x).length = k) : ∀ l : List α, (l.flatMap f).length = l.length * k := by
  intro l
  induction l with
  | nil => simp
  | cons x l ih => simp only [List.flatMap_cons, List.length_append, hf, ih, List.length_cons]; rw [Nat.add_mul]; omega
end Go.Proofs.Ytgjpicekdbemiac
namespace Go.Proofs.Ytgjpicekdbemiac
theorem own : ownKnob Try.prog.godebug = none := by kernel_rfl
theorem laidOut : laidOutB Try.prog = true := by kernel_rfl
end Go.Proofs.Ytgjpicekdbemiac
namespace Go.Proofs.Ytgjpicekdbemiac
open Go.RowKit
/-- An amplitude as plain data. -/
structure Dm where
  a : Int
  b : Int
  c : Int
  d : Int
  e : Int
def dcells (x : Dm) : List Value := [.int .i64 x.a, .int .i64 x.b, .int .i64 x.c, .int .i64 x.d, .int .i64 x.e]
theorem dcells_one (x : Dm) : ((dcells x).all Value.oneCell') = true := rfl
end Go.Proofs.Ytgjpicekdbemiac
namespace Go.Proofs.Ytgjpicekdbemiac
open Go.RowKit

def inB (n lo hi : Int) : Bool := decide (lo ≤ n ∧ n ≤ hi)
theorem inB_t {n lo hi : Int} (h1 : lo ≤ n) (h2 : n ≤ hi) : inB n lo hi = true := by simp [inB, h1, h2]
theorem inB_f {n lo hi : Int} (h : n < lo ∨ hi < n) : inB n lo hi = false := by simp [inB]; omega
theorem inB_iff {n lo hi : Int} : inB n lo hi = true ↔ lo ≤ n ∧ n ≤ hi := by simp [inB]
set_option maxRecDepth 100000 in
theorem in_any (n lo hi : Int) (w : World) : Calls Try.prog 27 #[.int .i64 n, .int .i64 lo, .int .i64 hi] w fun e w' => e = .returned (.bool (inB n lo hi)) ∧ w = w' := by
  by_cases h1 : lo ≤ n
  · by_cases h2 : n ≤ hi
    · rw [inB_t h1 h2]
      go_enter Try.func27, Try.ntmps27
      go_wp2
      go_ret
      exact ⟨rfl, rfl⟩
    · rw [inB_f (Or.inr (by omega))]
      have h3 : decide (n ≤ hi) = false := by simpa using h2
      clear h2
      go_enter Try.func27, Try.ntmps27
      go_wp2
      go_ret
      exact ⟨rfl, rfl⟩
  · rw [inB_f (Or.inl (by omega))]
    have h3 : decide (lo ≤ n) = false := by simpa using h1
    clear h1
    go_enter Try.func27, Try.ntmps27
    go_wp2
    go_ret
    exact ⟨rfl, rfl⟩
set_option maxRecDepth 100000 in
theorem l1In_any (n lo hi : Int) (w : World) : Calls Try.prog 29 #[.int .i64 n, .int .i64 lo, .int .i64 hi] w fun e w' => e = .returned (.bool (inB n lo hi)) ∧ w = w' := by
  by_cases h1 : lo ≤ n
  · by_cases h2 : n ≤ hi
    · rw [inB_t h1 h2]
      go_enter Try.func29, Try.ntmps29
      go_wp2
      go_ret
      exact ⟨rfl, rfl⟩
    · rw [inB_f (Or.inr (by omega))]
      have h3 : decide (n ≤ hi) = false := by simpa using h2
      clear h2
      go_enter Try.func29, Try.ntmps29
      go_wp2
      go_ret
      exact ⟨rfl, rfl⟩
  · rw [inB_f (Or.inl (by omega))]
    have h3 : decide (lo ≤ n) = false := by simpa using h1
    clear h1
    go_enter Try.func29, Try.ntmps29
    go_wp2
    go_ret
    exact ⟨rfl, rfl⟩
end Go.Proofs.Ytgjpicekdbemiac
namespace Go.Proofs.Ytgjpicekdbemiac
open Go.RowKit
set_option linter.unusedVariables false
/-- A number of Z[omega] as plain data. -/
structure Zw where
  a : Int
  b : Int
  c : Int
  d : Int
def zz : Zw := ⟨0, 0, 0, 0⟩
def zIn (x : Int) : Bool := inB x (-1073741824) 1073741824
def zOk (x : Zw) : Bool := zIn x.a && (zIn x.b && (zIn x.c && zIn x.d))
theorem zOk_iff {x : Zw} : zOk x = true ↔ (-1073741824 ≤ x.a ∧ x.a ≤ 1073741824) ∧ (-1073741824 ≤ x.b ∧ x.b ≤ 1073741824) ∧ (-1073741824 ≤ x.c ∧ x.c ≤ 1073741824) ∧ (-1073741824 ≤ x.d ∧ x.d ≤ 1073741824) := by
  simp only [zOk, zIn, Bool.and_eq_true, inB_iff]
def zif (x : Zw) : Option Zw := if zOk x = true then some x else none
theorem zif_t {x : Zw} (h : zOk x = true) : zif x = some x := by rw [zif, if_pos h]
theorem zif_f {x : Zw} (h : zOk x = false) : zif x = none := by rw [zif, if_neg (by rw [h]; decide)]
/-- Two results, a number and whether there is one. -/
def zres (r : Option Zw) : Value := match r with
  | some x => .tuple #[.agg #[.int .i64 x.a, .int .i64 x.b, .int .i64 x.c, .int .i64 x.d], .bool true]
  | none => .tuple #[.agg #[.int .i64 0, .int .i64 0, .int .i64 0, .int .i64 0], .bool false]
def zsum (x y : Zw) : Zw := ⟨x.a + y.a, x.b + y.b, x.c + y.c, x.d + y.d⟩
def zprod (x y : Zw) : Zw := ⟨x.a * y.a - x.b * y.d - x.c * y.c - x.d * y.b, x.a * y.b + x.b * y.a - x.c * y.d - x.d * y.c, x.a * y.c + x.b * y.b + x.c * y.a - x.d * y.d, x.a * y.d + x.b * y.c + x.c * y.b + x.d * y.a⟩
def sq (x : Zw) : Zw := ⟨x.b - x.d, x.a + x.c, x.b + x.d, x.c - x.a⟩
def zadd (x y : Zw) : Option Zw := if (zOk x && zOk y) = true then zif (zsum x y) else none
def zmul (x y : Zw) : Option Zw := if (zOk x && zOk y) = true then zif (zprod x y) else none
def ev (x : Int) : Bool := x.tmod 2 == 0
def evs (x : Zw) : Bool := ev x.a && (ev x.b && (ev x.c && ev x.d))
def half (x : Zw) : Zw := ⟨x.a.tdiv 2, x.b.tdiv 2, x.c.tdiv 2, x.d.tdiv 2⟩
def zdiv (x : Zw) : Option Zw := if (zOk x && evs (sq x)) = true then some (half (sq x)) else none
def red : Nat → Zw → Zw × Nat
  | 0, n => (n, 0)
  | k + 1, n => match zdiv n with
    | none => (n, k + 1)
    | some m => red k m
def up : Nat → Zw → Option Zw
  | 0, n => some n
  | t + 1, n => match zmul n ⟨0, 1, 0, -1⟩ with
    | none => none
    | some m => up t m
/-- The number of an amplitude, and an amplitude of a number. -/
def Dm.n (x : Dm) : Zw := ⟨x.a, x.b, x.c, x.d⟩
def dmk (n : Zw) (e : Int) : Dm := ⟨n.a, n.b, n.c, n.d, e⟩
def d0 : Dm := ⟨0, 0, 0, 0, 0⟩
def dres (r : Option Dm) : Value := match r with
  | some x => .tuple #[.agg #[.int .i64 x.a, .int .i64 x.b, .int .i64 x.c, .int .i64 x.d, .int .i64 x.e], .bool true]
  | none => .tuple #[.agg #[.int .i64 0, .int .i64 0, .int .i64 0, .int .i64 0, .int .i64 0], .bool false]
def dOk (x : Dm) : Bool := zOk x.n && (inB x.e 0 60 && ((zdiv x.n).isNone || x.e == 0))
def newD (n : Zw) (k : Int) : Option Dm := if (zOk n && inB k 0 120) = true then (if (red k.toNat n).2 ≤ 60 then some (dmk (red k.toNat n).1 (red k.toNat n).2) else none) else none
def addD (x y : Dm) : Option Dm := if (dOk x && dOk y) = true then
    (match up (max x.e y.e - x.e).toNat x.n, up (max x.e y.e - y.e).toNat y.n with
      | some a, some b => match zadd a b with
        | some n => newD n (max x.e y.e)
        | none => none
      | _, _ => none) else none
def mulD (x y : Dm) : Option Dm := if (dOk x && dOk y) = true then
    (match zmul x.n y.n with
      | some n => newD n (x.e + y.e)
      | none => none) else none
end Go.Proofs.Ytgjpicekdbemiac
namespace Go.Proofs.Ytgjpicekdbemiac
open Go.RowKit
set_option linter.unusedVariables false
/-- A call that returns a value, and makes memory. -/
def Ret (v : Value) (w : World) (e : Ending) (w' : World) : Prop := e = .returned v ∧ Below w.heap.size w w' ∧ w.heap.size ≤ w'.heap.size
theorem free_b {w : World} {b j : Nat} {cs : Array Value} {t : TypeId} (h : w.heap[b]? = some (.cells cs t (0, 0))) : w.frozen? ⟨b, j, none⟩ = false := by simp [World.frozen?, h]
theorem zres_some (a b c d : Int) : zres (some ⟨a, b, c, d⟩) = .tuple #[.agg #[.int .i64 a, .int .i64 b, .int .i64 c, .int .i64 d], .bool true] := rfl
theorem zres_none : zres none = .tuple #[.agg #[.int .i64 0, .int .i64 0, .int .i64 0, .int .i64 0], .bool false] := rfl
set_option maxRecDepth 100000 in
theorem l2Near_any (n : Int) (w : World) : Calls Try.prog 69 #[.int .i64 n] w fun e w' => e = .returned (.bool (zIn n)) ∧ w = w' := by
  go_enter Try.func69, Try.ntmps69
  go_wp2_with (go_at_call 29; refine (l1In_any _ _ _ _).mono ?_; rintro e w' ⟨rfl, rfl⟩)
  go_ret
  exact ⟨rfl, rfl⟩
theorem zOk_f1 {a b c d : Int} (h : zIn a = false) : zOk ⟨a, b, c, d⟩ = false := by simp [zOk, h]
theorem zOk_f2 {a b c d : Int} (h : zIn a = true) (h2 : zIn b = false) : zOk ⟨a, b, c, d⟩ = false := by simp [zOk, h2]
theorem zOk_f3 {a b c d : Int} (h : zIn a = true) (h2 : zIn b = true) (h3 : zIn c = false) : zOk ⟨a, b, c, d⟩ = false := by simp [zOk, h3]
theorem zOk_f4 {a b c d : Int} (h : zIn a = true) (h2 : zIn b = true) (h3 : zIn c = true) (h4 : zIn d = false) : zOk ⟨a, b, c, d⟩ = false := by simp [zOk, h4]
theorem zOk_t {a b c d : Int} (h : zIn a = true) (h2 : zIn b = true) (h3 : zIn c = true) (h4 : zIn d = true) : zOk ⟨a, b, c, d⟩ = true := by simp [zOk, h, h2, h3, h4]
set_option maxRecDepth 100000 in
set_option maxHeartbeats 1000000 in
theorem IsValidZOmega_any (a b c d : Int) (w : World) : Calls Try.prog 66 #[.agg #[.int .i64 a, .int .i64 b, .int .i64 c, .int .i64 d]] w fun e w' => e = .returned (.bool (zOk ⟨a, b, c, d⟩)) ∧ w.alloc (.cells #[.int .i64 a, .int .i64 b, .int .i64 c, .int .i64 d] 45) = w' := by
  cases h1 : zIn a
  · rw [zOk_f1 h1]
    go_enter Try.func66, Try.ntmps66
    go_wp2_with (go_at_call 69; refine (l2Near_any _ _).mono ?_; rintro e w' ⟨rfl, rfl⟩)
    go_ret
    exact ⟨rfl, rfl⟩
  cases h2 : zIn b
  · rw [zOk_f2 h1 h2]
    go_enter Try.func66, Try.ntmps66
    go_wp2_with (go_at_call 69; refine (l2Near_any _ _).mono ?_; rintro e w' ⟨rfl, rfl⟩)
    go_ret
    exact ⟨rfl, rfl⟩
  cases h3 : zIn c
  · rw [zOk_f3 h1 h2 h3]
    go_enter Try.func66, Try.ntmps66
    go_wp2_with (go_at_call 69; refine (l2Near_any _ _).mono ?_; rintro e w' ⟨rfl, rfl⟩)
    go_ret
    exact ⟨rfl, rfl⟩
  cases h4 : zIn d
  · rw [zOk_f4 h1 h2 h3 h4]
    go_enter Try.func66, Try.ntmps66
    go_wp2_with (go_at_call 69; refine (l2Near_any _ _).mono ?_; rintro e w' ⟨rfl, rfl⟩)
    go_ret
    exact ⟨rfl, rfl⟩
  · rw [zOk_t h1 h2 h3 h4]
    go_enter Try.func66, Try.ntmps66
    go_wp2_with (go_at_call 69; refine (l2Near_any _ _).mono ?_; rintro e w' ⟨rfl, rfl⟩)
    go_ret
    exact ⟨rfl, rfl⟩
set_option maxRecDepth 100000 in
theorem l2If_any (a b c d : Int) (w : World) : Calls Try.prog 68 #[.agg #[.int .i64 a, .int .i64 b, .int .i64 c, .int .i64 d]] w (Ret (zres (zif ⟨a, b, c, d⟩)) w) := by
  cases h : zOk ⟨a, b, c, d⟩
  · rw [zif_f h]
    go_enter Try.func68, Try.ntmps68
    go_wp2_with (go_at_call 66; refine (IsValidZOmega_any _ _ _ _ _).mono ?_; rw [h]; rintro e w1 ⟨rfl, rfl⟩)
    exact bodyPost_ret (v := zres none) (by simp [results, Try.results68, go_sem, zres]) rfl ⟨rfl, (by repeat (first | exact Below.refl _ _ | assumption | (refine Below.trans ?_ (Below.mono (by assumption) (by first | omega | (simp; done) | (simp; omega)))) | (with_reducible refine Below.drew ?_) | (with_reducible refine Below.alloc ?_ (by first | omega | (simp; done) | (simp; omega)) _) | (with_reducible refine Below.setCell ?_ (by first | omega | (simp; done) | (simp; omega)) _))), (by first | omega | (simp; done) | (simp; omega))⟩
  · rw [zif_t h]
    go_enter Try.func68, Try.ntmps68
    go_wp2_with (go_at_call 66; refine (IsValidZOmega_any _ _ _ _ _).mono ?_; rw [h]; rintro e w1 ⟨rfl, rfl⟩)
    exact bodyPost_ret (v := zres (some ⟨a, b, c, d⟩)) (by simp [results, Try.results68, go_sem, zres]) rfl ⟨rfl, (by repeat (first | exact Below.refl _ _ | assumption | (refine Below.trans ?_ (Below.mono (by assumption) (by first | omega | (simp; done) | (simp; omega)))) | (with_reducible refine Below.drew ?_) | (with_reducible refine Below.alloc ?_ (by first | omega | (simp; done) | (simp; omega)) _) | (with_reducible refine Below.setCell ?_ (by first | omega | (simp; done) | (simp; omega)) _))), (by first | omega | (simp; done) | (simp; omega))⟩
theorem zadd_f1 {x y : Zw} (h : zOk x = false) : zadd x y = none := by unfold zadd; rw [h, if_neg (by simp)]
theorem zadd_f2 {x y : Zw} (h : zOk x = true) (h' : zOk y = false) : zadd x y = none := by unfold zadd; rw [h, h', if_neg (by simp)]
theorem zadd_t {x y : Zw} (h : zOk x = true) (h' : zOk y = true) : zadd x y = zif (zsum x y) := by unfold zadd; rw [h, h', if_pos (by simp)]
set_option maxRecDepth 100000 in
set_option maxHeartbeats 4000000 in
theorem AddZOmega_any (a b c d p q r s : Int) (w : World) : Calls Try.prog 64 #[.agg #[.int .i64 a, .int .i64 b, .int .i64 c, .int .i64 d], .agg #[.int .i64 p, .int .i64 q, .int .i64 r, .int .i64 s]] w (Ret (zres (zadd ⟨a, b, c, d⟩ ⟨p, q, r, s⟩)) w) := by
  cases h1 : zOk ⟨a, b, c, d⟩
  · rw [zadd_f1 h1]
    go_enter Try.func64, Try.ntmps64
    go_wp2_with (go_at_call 66; refine (IsValidZOmega_any _ _ _ _ _).mono ?_; rw [h1]; rintro e w1 ⟨rfl, rfl⟩)
    exact bodyPost_ret (v := zres none) (by simp [results, Try.results64, go_sem, zres]) rfl ⟨rfl, (by repeat (first | exact Below.refl _ _ | assumption | (refine Below.trans ?_ (Below.mono (by assumption) (by first | omega | (simp; done) | (simp; omega)))) | (with_reducible refine Below.drew ?_) | (with_reducible refine Below.alloc ?_ (by first | omega | (simp; done) | (simp; omega)) _) | (with_reducible refine Below.setCell ?_ (by first | omega | (simp; done) | (simp; omega)) _))), (by first | omega | (simp; done) | (simp; omega))⟩
  cases h2 : zOk ⟨p, q, r, s⟩
  · rw [zadd_f2 h1 h2]
    go_enter Try.func64, Try.ntmps64
    go_wp2_with (first | (go_at_call 66; refine (IsValidZOmega_any _ _ _ _ _).mono ?_; rw [h1]; rintro e w1 ⟨rfl, rfl⟩) | (go_at_call 66; refine (IsValidZOmega_any _ _ _ _ _).mono ?_; rw [h2]; rintro e w1 ⟨rfl, rfl⟩))
    exact bodyPost_ret (v := zres none) (by simp [results, Try.results64, go_sem, zres]) rfl ⟨rfl, (by repeat (first | exact Below.refl _ _ | assumption | (refine Below.trans ?_ (Below.mono (by assumption) (by first | omega | (simp; done) | (simp; omega)))) | (with_reducible refine Below.drew ?_) | (with_reducible refine Below.alloc ?_ (by first | omega | (simp; done) | (simp; omega)) _) | (with_reducible refine Below.setCell ?_ (by first | omega | (simp; done) | (simp; omega)) _))), (by first | omega | (simp; done) | (simp; omega))⟩
  · rw [zadd_t h1 h2]
    obtain ⟨⟨a1, a2⟩, ⟨b1, b2⟩, ⟨c1, c2⟩, ⟨d1, d2⟩⟩ := zOk_iff.1 h1
    obtain ⟨⟨p1, p2⟩, ⟨q1, q2⟩, ⟨r1, r2⟩, ⟨s1, s2⟩⟩ := zOk_iff.1 h2
    simp only at a1 a2 b1 b2 c1 c2 d1 d2 p1 p2 q1 q2 r1 r2 s1 s2
    obtain ⟨R, hR⟩ : ∃ R, R = zif (zsum ⟨a, b, c, d⟩ ⟨p, q, r, s⟩) := ⟨_, rfl⟩
    rw [← hR]
    have HR := Lib.hid hR
    clear hR
    go_enter Try.func64, Try.ntmps64
    go_wp2_with (first | (go_at_call 66; refine (IsValidZOmega_any _ _ _ _ _).mono ?_; rw [h1]; rintro e w1 ⟨rfl, rfl⟩) | (go_at_call 66; refine (IsValidZOmega_any _ _ _ _ _).mono ?_; rw [h2]; rintro e w1 ⟨rfl, rfl⟩))
    obtain ⟨w0, hw0⟩ : ∃ w0, w0 = (((w.alloc (.cells #[.int .i64 a, .int .i64 b, .int .i64 c, .int .i64 d] 45)).alloc (.cells #[.int .i64 p, .int .i64 q, .int .i64 r, .int .i64 s] 45)).alloc (.cells #[.int .i64 0, .int .i64 0, .int .i64 0, .int .i64 0] 45)) := ⟨_, rfl⟩
    rw [← hw0]
    have x2 : w0.heap[w.heap.size + 1 + 1]? = some (.cells #[.int .i64 0, .int .i64 0, .int .i64 0, .int .i64 0] 45 (0, 0)) := by rw [hw0]; exact boxed3_2 _ _ _ _
    have b0 : Below w.heap.size w w0 := by rw [hw0]; exact (by repeat (first | exact Below.refl _ _ | assumption | (refine Below.trans ?_ (Below.mono (by assumption) (by first | omega | (simp; done) | (simp; omega)))) | (with_reducible refine Below.drew ?_) | (with_reducible refine Below.alloc ?_ (by first | omega | (simp; done) | (simp; omega)) _) | (with_reducible refine Below.setCell ?_ (by first | omega | (simp; done) | (simp; omega)) _)))
    have s0 : w.heap.size + 3 = w0.heap.size := by rw [hw0]; simp
    refine (l2If_any _ _ _ _ _).mono ?_
    rintro e w1 ⟨rfl, hb, hs⟩
    have x2' := ((show Below w0.heap.size w0 w1 from (by repeat (first | exact Below.refl _ _ | assumption | (refine Below.trans ?_ (Below.mono (by assumption) (by first | omega | (simp; done) | (simp; omega)))) | (with_reducible refine Below.drew ?_) | (with_reducible refine Below.alloc ?_ (by first | omega | (simp; done) | (simp; omega)) _) | (with_reducible refine Below.setCell ?_ (by first | omega | (simp; done) | (simp; omega)) _)))).block _ (by omega)).trans x2
    rw [show zif ⟨a + p, b + q, c + r, d + s⟩ = R from HR.out.symm]
    have kx2'0 := cell_at (j := 0) x2' rfl
    have fx2'0 := free_b (j := 0) x2'
    have kx2'1 := cell_at (j := 1) x2' rfl
    have fx2'1 := free_b (j := 1) x2'
    have kx2'2 := cell_at (j := 2) x2' rfl
    have fx2'2 := free_b (j := 2) x2'
    have kx2'3 := cell_at (j := 3) x2' rfl
    have fx2'3 := free_b (j := 3) x2'
    have b1 : Below w.heap.size w w1 := (by repeat (first | exact Below.refl _ _ | assumption | (refine Below.trans ?_ (Below.mono (by assumption) (by first | omega | (simp; done) | (simp; omega)))) | (with_reducible refine Below.drew ?_) | (with_reducible refine Below.alloc ?_ (by first | omega | (simp; done) | (simp; omega)) _) | (with_reducible refine Below.setCell ?_ (by first | omega | (simp; done) | (simp; omega)) _)))
    have s1 : w.heap.size + 3 ≤ w1.heap.size := by simp at hs; omega
    clear hw0 x2 x2' hb hs b0 s0
    cases R with
    | none =>
      rw [zres_none]
      go_wp2_with fail
      exact bodyPost_ret (v := zres none) (by simp [results, Try.results64, go_sem, zres, kx2'0, kx2'1, kx2'2, kx2'3]) rfl ⟨rfl, (by repeat (first | exact Below.refl _ _ | assumption | (refine Below.trans ?_ (Below.mono (by assumption) (by first | omega | (simp; done) | (simp; omega)))) | (with_reducible refine Below.drew ?_) | (with_reducible refine Below.alloc ?_ (by first | omega | (simp; done) | (simp; omega)) _) | (with_reducible refine Below.setCell ?_ (by first | omega | (simp; done) | (simp; omega)) _))), (by first | omega | (simp; done) | (simp; omega))⟩
    | some z =>
      obtain ⟨z1, z2, z3, z4⟩ := z
      rw [zres_some]
      go_wp2_with fail
      exact bodyPost_ret (v := zres (some ⟨z1, z2, z3, z4⟩)) (by simp [results, Try.results64, go_sem, zres, kx2'0, kx2'1, kx2'2, kx2'3]) rfl ⟨rfl, (by repeat (first | exact Below.refl _ _ | assumption | (refine Below.trans ?_ (Below.mono (by assumption) (by first | omega | (simp; done) | (simp; omega)))) | (with_reducible refine Below.drew ?_) | (with_reducible refine Below.alloc ?_ (by first | omega | (simp; done) | (simp; omega)) _) | (with_reducible refine Below.setCell ?_ (by first | omega | (simp; done) | (simp; omega)) _))), (by first | omega | (simp; done) | (simp; omega))⟩
theorem mul_lim {x y : Int} (h : -1073741824 ≤ x ∧ x ≤ 1073741824) (h' : -1073741824 ≤ y ∧ y ≤ 1073741824) : -1152921504606846976 ≤ x * y ∧ x * y ≤ 1152921504606846976 := by
  have h1 : (x * y).natAbs ≤ 1073741824 * 1073741824 := by
    rw [Int.natAbs_mul]
    exact Nat.mul_le_mul (by omega) (by omega)
  omega
theorem zmul_f1 {x y : Zw} (h : zOk x = false) : zmul x y = none := by unfold zmul; rw [h, if_neg (by simp)]
theorem zmul_f2 {x y : Zw} (h : zOk x = true) (h' : zOk y = false) : zmul x y = none := by unfold zmul; rw [h, h', if_neg (by simp)]
theorem zmul_t {x y : Zw} (h : zOk x = true) (h' : zOk y = true) : zmul x y = zif (zprod x y) := by unfold zmul; rw [h, h', if_pos (by simp)]
set_option maxRecDepth 100000 in
set_option maxHeartbeats 4000000 in
theorem MulZOmega_any (a b c d p q r s : Int) (w : World) : Calls Try.prog 60 #[.agg #[.int .i64 a, .int .i64 b, .int .i64 c, .int .i64 d], .agg #[.int .i64 p, .int .i64 q, .int .i64 r, .int .i64 s]] w (Ret (zres (zmul ⟨a, b, c, d⟩ ⟨p, q, r, s⟩)) w) := by
  cases h1 : zOk ⟨a, b, c, d⟩
  · rw [zmul_f1 h1]
    go_enter Try.func60, Try.ntmps60
    go_wp2_with (go_at_call 66; refine (IsValidZOmega_any _ _ _ _ _).mono ?_; rw [h1]; rintro e w1 ⟨rfl, rfl⟩)
    exact bodyPost_ret (v := zres none) (by simp [results, Try.results60, go_sem, zres]) rfl ⟨rfl, (by repeat (first | exact Below.refl _ _ | assumption | (refine Below.trans ?_ (Below.mono (by assumption) (by first | omega | (simp; done) | (simp; omega)))) | (with_reducible refine Below.drew ?_) | (with_reducible refine Below.alloc ?_ (by first | omega | (simp; done) | (simp; omega)) _) | (with_reducible refine Below.setCell ?_ (by first | omega | (simp; done) | (simp; omega)) _))), (by first | omega | (simp; done) | (simp; omega))⟩
  cases h2 : zOk ⟨p, q, r, s⟩
  · rw [zmul_f2 h1 h2]
    go_enter Try.func60, Try.ntmps60
    go_wp2_with (first | (go_at_call 66; refine (IsValidZOmega_any _ _ _ _ _).mono ?_; rw [h1]; rintro e w1 ⟨rfl, rfl⟩) | (go_at_call 66; refine (IsValidZOmega_any _ _ _ _ _).mono ?_; rw [h2]; rintro e w1 ⟨rfl, rfl⟩))
    exact bodyPost_ret (v := zres none) (by simp [results, Try.results60, go_sem, zres]) rfl ⟨rfl, (by repeat (first | exact Below.refl _ _ | assumption | (refine Below.trans ?_ (Below.mono (by assumption) (by first | omega | (simp; done) | (simp; omega)))) | (with_reducible refine Below.drew ?_) | (with_reducible refine Below.alloc ?_ (by first | omega | (simp; done) | (simp; omega)) _) | (with_reducible refine Below.setCell ?_ (by first | omega | (simp; done) | (simp; omega)) _))), (by first | omega | (simp; done) | (simp; omega))⟩
  · rw [zmul_t h1 h2]
    obtain ⟨⟨a1, a2⟩, ⟨b1, b2⟩, ⟨c1, c2⟩, ⟨d1, d2⟩⟩ := zOk_iff.1 h1
    obtain ⟨⟨p1, p2⟩, ⟨q1, q2⟩, ⟨r1, r2⟩, ⟨s1, s2⟩⟩ := zOk_iff.1 h2
    simp only at a1 a2 b1 b2 c1 c2 d1 d2 p1 p2 q1 q2 r1 r2 s1 s2
    have map := mul_lim ⟨a1, a2⟩ ⟨p1, p2⟩
    have maq := mul_lim ⟨a1, a2⟩ ⟨q1, q2⟩
    have mar := mul_lim ⟨a1, a2⟩ ⟨r1, r2⟩
    have mas := mul_lim ⟨a1, a2⟩ ⟨s1, s2⟩
    have mbp := mul_lim ⟨b1, b2⟩ ⟨p1, p2⟩
    have mbq := mul_lim ⟨b1, b2⟩ ⟨q1, q2⟩
    have mbr := mul_lim ⟨b1, b2⟩ ⟨r1, r2⟩
    have mbs := mul_lim ⟨b1, b2⟩ ⟨s1, s2⟩
    have mcp := mul_lim ⟨c1, c2⟩ ⟨p1, p2⟩
    have mcq := mul_lim ⟨c1, c2⟩ ⟨q1, q2⟩
    have mcr := mul_lim ⟨c1, c2⟩ ⟨r1, r2⟩
    have mcs := mul_lim ⟨c1, c2⟩ ⟨s1, s2⟩
    have mdp := mul_lim ⟨d1, d2⟩ ⟨p1, p2⟩
    have mdq := mul_lim ⟨d1, d2⟩ ⟨q1, q2⟩
    have mdr := mul_lim ⟨d1, d2⟩ ⟨r1, r2⟩
    have mds := mul_lim ⟨d1, d2⟩ ⟨s1, s2⟩
    obtain ⟨R, hR⟩ : ∃ R, R = zif (zprod ⟨a, b, c, d⟩ ⟨p, q, r, s⟩) := ⟨_, rfl⟩
    rw [← hR]
    have HR := Lib.hid hR
    clear hR
    go_enter Try.func60, Try.ntmps60
    go_wp2_with (first | (go_at_call 66; refine (IsValidZOmega_any _ _ _ _ _).mono ?_; rw [h1]; rintro e w1 ⟨rfl, rfl⟩) | (go_at_call 66; refine (IsValidZOmega_any _ _ _ _ _).mono ?_; rw [h2]; rintro e w1 ⟨rfl, rfl⟩))
    obtain ⟨w0, hw0⟩ : ∃ w0, w0 = (((w.alloc (.cells #[.int .i64 a, .int .i64 b, .int .i64 c, .int .i64 d] 45)).alloc (.cells #[.int .i64 p, .int .i64 q, .int .i64 r, .int .i64 s] 45)).alloc (.cells #[.int .i64 0, .int .i64 0, .int .i64 0, .int .i64 0] 45)) := ⟨_, rfl⟩
    rw [← hw0]
    have x2 : w0.heap[w.heap.size + 1 + 1]? = some (.cells #[.int .i64 0, .int .i64 0, .int .i64 0, .int .i64 0] 45 (0, 0)) := by rw [hw0]; exact boxed3_2 _ _ _ _
    have b0 : Below w.heap.size w w0 := by rw [hw0]; exact (by repeat (first | exact Below.refl _ _ | assumption | (refine Below.trans ?_ (Below.mono (by assumption) (by first | omega | (simp; done) | (simp; omega)))) | (with_reducible refine Below.drew ?_) | (with_reducible refine Below.alloc ?_ (by first | omega | (simp; done) | (simp; omega)) _) | (with_reducible refine Below.setCell ?_ (by first | omega | (simp; done) | (simp; omega)) _)))
    have s0 : w.heap.size + 3 = w0.heap.size := by rw [hw0]; simp
    refine (l2If_any _ _ _ _ _).mono ?_
    rintro e w1 ⟨rfl, hb, hs⟩
    have x2' := ((show Below w0.heap.size w0 w1 from (by repeat (first | exact Below.refl _ _ | assumption | (refine Below.trans ?_ (Below.mono (by assumption) (by first | omega | (simp; done) | (simp; omega)))) | (with_reducible refine Below.drew ?_) | (with_reducible refine Below.alloc ?_ (by first | omega | (simp; done) | (simp; omega)) _) | (with_reducible refine Below.setCell ?_ (by first | omega | (simp; done) | (simp; omega)) _)))).block _ (by omega)).trans x2
    rw [show zif ⟨a * p - b * s - c * r - d * q, a * q + b * p - c * s - d * r, a * r + b * q + c * p - d * s, a * s + b * r + c * q + d * p⟩ = R from HR.out.symm]
    have kx2'0 := cell_at (j := 0) x2' rfl
    have fx2'0 := free_b (j := 0) x2'
    have kx2'1 := cell_at (j := 1) x2' rfl
    have fx2'1 := free_b (j := 1) x2'
    have kx2'2 := cell_at (j := 2) x2' rfl
    have fx2'2 := free_b (j := 2) x2'
    have kx2'3 := cell_at (j := 3) x2' rfl
    have fx2'3 := free_b (j := 3) x2'
    have b1 : Below w.heap.size w w1 := (by repeat (first | exact Below.refl _ _ | assumption | (refine Below.trans ?_ (Below.mono (by assumption) (by first | omega | (simp; done) | (simp; omega)))) | (with_reducible refine Below.drew ?_) | (with_reducible refine Below.alloc ?_ (by first | omega | (simp; done) | (simp; omega)) _) | (with_reducible refine Below.setCell ?_ (by first | omega | (simp; done) | (simp; omega)) _)))
    have s1 : w.heap.size + 3 ≤ w1.heap.size := by simp at hs; omega
    clear hw0 x2 x2' hb hs b0 s0
    cases R with
    | none =>
      rw [zres_none]
      go_wp2_with fail
      exact bodyPost_ret (v := zres none) (by simp [results, Try.results60, go_sem, zres, kx2'0, kx2'1, kx2'2, kx2'3]) rfl ⟨rfl, (by repeat (first | exact Below.refl _ _ | assumption | (refine Below.trans ?_ (Below.mono (by assumption) (by first | omega | (simp; done) | (simp; omega)))) | (with_reducible refine Below.drew ?_) | (with_reducible refine Below.alloc ?_ (by first | omega | (simp; done) | (simp; omega)) _) | (with_reducible refine Below.setCell ?_ (by first | omega | (simp; done) | (simp; omega)) _))), (by first | omega | (simp; done) | (simp; omega))⟩
    | some z =>
      obtain ⟨z1, z2, z3, z4⟩ := z
      rw [zres_some]
      go_wp2_with fail
      exact bodyPost_ret (v := zres (some ⟨z1, z2, z3, z4⟩)) (by simp [results, Try.results60, go_sem, zres, kx2'0, kx2'1, kx2'2, kx2'3]) rfl ⟨rfl, (by repeat (first | exact Below.refl _ _ | assumption | (refine Below.trans ?_ (Below.mono (by assumption) (by first | omega | (simp; done) | (simp; omega)))) | (with_reducible refine Below.drew ?_) | (with_reducible refine Below.alloc ?_ (by first | omega | (simp; done) | (simp; omega)) _) | (with_reducible refine Below.setCell ?_ (by first | omega | (simp; done) | (simp; omega)) _))), (by first | omega | (simp; done) | (simp; omega))⟩
end Go.Proofs.Ytgjpicekdbemiac
namespace Go.Proofs.Ytgjpicekdbemiac
open Go.RowKit
set_option linter.unusedVariables false
theorem ret_set5 {v : Value} {w w1 : World} {r : Nat} {v0 v1 v2 v3 v4 : Value} (h : Below w.heap.size w w1) (hr : w.heap.size ≤ r) :
    Ret v w (.returned v) (((((w1.setCell ⟨r, 0, none⟩ v0).setCell ⟨r, 1, none⟩ v1).setCell ⟨r, 2, none⟩ v2).setCell ⟨r, 3, none⟩ v3).setCell ⟨r, 4, none⟩ v4) :=
  ⟨rfl, ((((h.setCell hr v0).setCell hr v1).setCell hr v2).setCell hr v3).setCell hr v4, by have := h.size; simpa [World.setCell] using this⟩
theorem ret_alloc {v : Value} {w W : World} {e : Ending} (o : Obj) (h : Ret v w e W) : Ret v w e (W.alloc o) := ⟨h.1, h.2.1.alloc h.2.2 o, by have := h.2.2; simp; omega⟩
theorem zdiv_f {x : Zw} (h : zOk x = false) : zdiv x = none := by unfold zdiv; rw [h, if_neg (by simp)]
theorem zdiv_n {x : Zw} (h : evs (sq x) = false) : zdiv x = none := by unfold zdiv; rw [h, if_neg (by simp)]
theorem zdiv_t {x : Zw} (h : zOk x = true) (h' : evs (sq x) = true) : zdiv x = some (half (sq x)) := by unfold zdiv; rw [h, h', if_pos (by simp)]
theorem ev_f1 {x : Int} (h : ev x = false) : (x.tmod 2 == 0) = false := h
theorem ev_f2 {x : Int} (h : ev x = false) : (x.tmod 2 != 0) = true := by unfold ev at h; simp only [bne, h, Bool.not_false]
theorem ev_t1 {x : Int} (h : ev x = true) : (x.tmod 2 == 0) = true := h
theorem ev_t2 {x : Int} (h : ev x = true) : (x.tmod 2 != 0) = false := by unfold ev at h; simp only [bne, h, Bool.not_true]
set_option maxRecDepth 100000 in
set_option maxHeartbeats 4000000 in
theorem DivSqrt2_any (a b c d : Int) (w : World) : Calls Try.prog 65 #[.agg #[.int .i64 a, .int .i64 b, .int .i64 c, .int .i64 d]] w (Ret (zres (zdiv ⟨a, b, c, d⟩)) w) := by
  cases h1 : zOk ⟨a, b, c, d⟩
  · rw [zdiv_f h1]
    go_enter Try.func65, Try.ntmps65
    go_wp2_with (go_at_call 66; refine (IsValidZOmega_any _ _ _ _ _).mono ?_; rw [h1]; rintro e w1 ⟨rfl, rfl⟩)
    exact bodyPost_ret (v := zres none) (by simp [results, Try.results65, go_sem, zres]) rfl ⟨rfl, (by repeat (first | exact Below.refl _ _ | assumption | (refine Below.trans ?_ (Below.mono (by assumption) (by first | omega | (simp; done) | (simp; omega)))) | (with_reducible refine Below.drew ?_) | (with_reducible refine Below.alloc ?_ (by first | omega | (simp; done) | (simp; omega)) _) | (with_reducible refine Below.setCell ?_ (by first | omega | (simp; done) | (simp; omega)) _))), (by first | omega | (simp; done) | (simp; omega))⟩
  obtain ⟨⟨a1, a2⟩, ⟨b1, b2⟩, ⟨c1, c2⟩, ⟨d1, d2⟩⟩ := zOk_iff.1 h1
  simp only at a1 a2 b1 b2 c1 c2 d1 d2
  cases h2 : ev (b - d)
  · rw [zdiv_n (x := ⟨a, b, c, d⟩) (by simp [evs, sq, h2])]
    have u0 := ev_f1 h2
    have v0 := ev_f2 h2
    go_enter Try.func65, Try.ntmps65
    go_wp2_with (go_at_call 66; refine (IsValidZOmega_any _ _ _ _ _).mono ?_; rw [h1]; rintro e w1 ⟨rfl, rfl⟩)
    exact bodyPost_ret (v := zres none) (by simp [results, Try.results65, go_sem, zres]) rfl ⟨rfl, (by repeat (first | exact Below.refl _ _ | assumption | (refine Below.trans ?_ (Below.mono (by assumption) (by first | omega | (simp; done) | (simp; omega)))) | (with_reducible refine Below.drew ?_) | (with_reducible refine Below.alloc ?_ (by first | omega | (simp; done) | (simp; omega)) _) | (with_reducible refine Below.setCell ?_ (by first | omega | (simp; done) | (simp; omega)) _))), (by first | omega | (simp; done) | (simp; omega))⟩
  cases h3 : ev (a + c)
  · rw [zdiv_n (x := ⟨a, b, c, d⟩) (by simp [evs, sq, h3])]
    have u0 := ev_t1 h2
    have v0 := ev_t2 h2
    have u1 := ev_f1 h3
    have v1 := ev_f2 h3
    go_enter Try.func65, Try.ntmps65
    go_wp2_with (go_at_call 66; refine (IsValidZOmega_any _ _ _ _ _).mono ?_; rw [h1]; rintro e w1 ⟨rfl, rfl⟩)
    exact bodyPost_ret (v := zres none) (by simp [results, Try.results65, go_sem, zres]) rfl ⟨rfl, (by repeat (first | exact Below.refl _ _ | assumption | (refine Below.trans ?_ (Below.mono (by assumption) (by first | omega | (simp; done) | (simp; omega)))) | (with_reducible refine Below.drew ?_) | (with_reducible refine Below.alloc ?_ (by first | omega | (simp; done) | (simp; omega)) _) | (with_reducible refine Below.setCell ?_ (by first | omega | (simp; done) | (simp; omega)) _))), (by first | omega | (simp; done) | (simp; omega))⟩
  cases h4 : ev (b + d)
  · rw [zdiv_n (x := ⟨a, b, c, d⟩) (by simp [evs, sq, h4])]
    have u0 := ev_t1 h2
    have v0 := ev_t2 h2
    have u1 := ev_t1 h3
    have v1 := ev_t2 h3
    have u2 := ev_f1 h4
    have v2 := ev_f2 h4
    go_enter Try.func65, Try.ntmps65
    go_wp2_with (go_at_call 66; refine (IsValidZOmega_any _ _ _ _ _).mono ?_; rw [h1]; rintro e w1 ⟨rfl, rfl⟩)
    exact bodyPost_ret (v := zres none) (by simp [results, Try.results65, go_sem, zres]) rfl ⟨rfl, (by repeat (first | exact Below.refl _ _ | assumption | (refine Below.trans ?_ (Below.mono (by assumption) (by first | omega | (simp; done) | (simp; omega)))) | (with_reducible refine Below.drew ?_) | (with_reducible refine Below.alloc ?_ (by first | omega | (simp; done) | (simp; omega)) _) | (with_reducible refine Below.setCell ?_ (by first | omega | (simp; done) | (simp; omega)) _))), (by first | omega | (simp; done) | (simp; omega))⟩
  cases h5 : ev (c - a)
  · rw [zdiv_n (x := ⟨a, b, c, d⟩) (by simp [evs, sq, h5])]
    have u0 := ev_t1 h2
    have v0 := ev_t2 h2
    have u1 := ev_t1 h3
    have v1 := ev_t2 h3
    have u2 := ev_t1 h4
    have v2 := ev_t2 h4
    have u3 := ev_f1 h5
    have v3 := ev_f2 h5
    go_enter Try.func65, Try.ntmps65
    go_wp2_with (go_at_call 66; refine (IsValidZOmega_any _ _ _ _ _).mono ?_; rw [h1]; rintro e w1 ⟨rfl, rfl⟩)
    exact bodyPost_ret (v := zres none) (by simp [results, Try.results65, go_sem, zres]) rfl ⟨rfl, (by repeat (first | exact Below.refl _ _ | assumption | (refine Below.trans ?_ (Below.mono (by assumption) (by first | omega | (simp; done) | (simp; omega)))) | (with_reducible refine Below.drew ?_) | (with_reducible refine Below.alloc ?_ (by first | omega | (simp; done) | (simp; omega)) _) | (with_reducible refine Below.setCell ?_ (by first | omega | (simp; done) | (simp; omega)) _))), (by first | omega | (simp; done) | (simp; omega))⟩
  rw [zdiv_t h1 (by simp [evs, sq, h2, h3, h4, h5])]
  have u0 := ev_t1 h2
  have v0 := ev_t2 h2
  have u1 := ev_t1 h3
  have v1 := ev_t2 h3
  have u2 := ev_t1 h4
  have v2 := ev_t2 h4
  have u3 := ev_t1 h5
  have v3 := ev_t2 h5
  go_enter Try.func65, Try.ntmps65
  go_wp2_with (go_at_call 66; refine (IsValidZOmega_any _ _ _ _ _).mono ?_; rw [h1]; rintro e w1 ⟨rfl, rfl⟩)
  exact bodyPost_ret (v := zres (some ⟨(b - d).tdiv 2, (a + c).tdiv 2, (b + d).tdiv 2, (c - a).tdiv 2⟩)) (by simp [results, Try.results65, go_sem, zres]) rfl ⟨rfl, (by repeat (first | exact Below.refl _ _ | assumption | (refine Below.trans ?_ (Below.mono (by assumption) (by first | omega | (simp; done) | (simp; omega)))) | (with_reducible refine Below.drew ?_) | (with_reducible refine Below.alloc ?_ (by first | omega | (simp; done) | (simp; omega)) _) | (with_reducible refine Below.setCell ?_ (by first | omega | (simp; done) | (simp; omega)) _))), (by first | omega | (simp; done) | (simp; omega))⟩
theorem dOk_1 {a b c d e : Int} (h : zOk ⟨a, b, c, d⟩ = false) : dOk ⟨a, b, c, d, e⟩ = false := by simp [dOk, Dm.n, h]
theorem dOk_2 {a b c d e : Int} (h : inB e 0 60 = false) : dOk ⟨a, b, c, d, e⟩ = false := by simp [dOk, h]
theorem dOk_3 {a b c d e : Int} (h1 : zOk ⟨a, b, c, d⟩ = true) (h : inB e 0 60 = true) (h3 : zdiv ⟨a, b, c, d⟩ = none) : dOk ⟨a, b, c, d, e⟩ = true := by simp [dOk, Dm.n, h1, h, h3]
theorem dOk_4 {a b c d e : Int} {z : Zw} (h1 : zOk ⟨a, b, c, d⟩ = true) (h : inB e 0 60 = true) (h3 : zdiv ⟨a, b, c, d⟩ = some z) : dOk ⟨a, b, c, d, e⟩ = (e == 0) := by simp [dOk, Dm.n, h1, h, h3]
set_option maxRecDepth 100000 in
set_option maxHeartbeats 4000000 in
theorem IsValidDOmega_any (a b c d e : Int) (w : World) : Calls Try.prog 54 #[.agg #[.int .i64 a, .int .i64 b, .int .i64 c, .int .i64 d, .int .i64 e]] w (Ret (.bool (dOk ⟨a, b, c, d, e⟩)) w) := by
  obtain ⟨v, hv⟩ : ∃ v, v = dOk ⟨a, b, c, d, e⟩ := ⟨_, rfl⟩
  rw [← hv]
  have HV := Lib.hid hv
  clear hv
  go_enter Try.func54, Try.ntmps54
  go_wp2_with fail
  obtain ⟨w0, hw0⟩ : ∃ w0, w0 = w.alloc (.cells #[.int .i64 a, .int .i64 b, .int .i64 c, .int .i64 d, .int .i64 e] 47) := ⟨_, rfl⟩
  rw [← hw0]
  have x0 : w0.heap[w.heap.size]? = some (.cells #[.int .i64 a, .int .i64 b, .int .i64 c, .int .i64 d, .int .i64 e] 47 (0, 0)) := by rw [hw0]; exact boxed1_0 _ _
  have b0 : Below w.heap.size w w0 := by rw [hw0]; exact (by repeat (first | exact Below.refl _ _ | assumption | (refine Below.trans ?_ (Below.mono (by assumption) (by first | omega | (simp; done) | (simp; omega)))) | (with_reducible refine Below.drew ?_) | (with_reducible refine Below.alloc ?_ (by first | omega | (simp; done) | (simp; omega)) _) | (with_reducible refine Below.setCell ?_ (by first | omega | (simp; done) | (simp; omega)) _)))
  have s0 : w.heap.size + 1 = w0.heap.size := by rw [hw0]; simp
  refine (DivSqrt2_any _ _ _ _ _).mono ?_
  rintro e1 w1 ⟨rfl, hb, hs⟩
  have x1 := (hb.block _ (by omega)).trans x0
  have b1 : Below w.heap.size w w1 := (by repeat (first | exact Below.refl _ _ | assumption | (refine Below.trans ?_ (Below.mono (by assumption) (by first | omega | (simp; done) | (simp; omega)))) | (with_reducible refine Below.drew ?_) | (with_reducible refine Below.alloc ?_ (by first | omega | (simp; done) | (simp; omega)) _) | (with_reducible refine Below.setCell ?_ (by first | omega | (simp; done) | (simp; omega)) _)))
  have s1 : w.heap.size + 1 ≤ w1.heap.size := by omega
  have l1 : w.heap.size < w1.heap.size := by omega
  have kx10 := cell_at (j := 0) x1 rfl
  have kx11 := cell_at (j := 1) x1 rfl
  have kx12 := cell_at (j := 2) x1 rfl
  have kx13 := cell_at (j := 3) x1 rfl
  have kx14 := cell_at (j := 4) x1 rfl
  clear hw0 x0 x1 b0 s0 hb hs
  cases h3 : zdiv ⟨a, b, c, d⟩ with
  | none =>
    rw [zres_none]
    cases h1 : zOk ⟨a, b, c, d⟩
    · rw [dOk_1 h1] at HV
      go_wp2_with (go_at_call 66; refine (IsValidZOmega_any _ _ _ _ _).mono ?_; rw [h1]; rintro e w1 ⟨rfl, rfl⟩)
      go_ret
      exact ⟨by rw [HV.out]; rfl, (by repeat (first | exact Below.refl _ _ | assumption | (refine Below.trans ?_ (Below.mono (by assumption) (by first | omega | (simp; done) | (simp; omega)))) | (with_reducible refine Below.drew ?_) | (with_reducible refine Below.alloc ?_ (by first | omega | (simp; done) | (simp; omega)) _) | (with_reducible refine Below.setCell ?_ (by first | omega | (simp; done) | (simp; omega)) _))), (by first | omega | (simp; done) | (simp; omega))⟩
    cases h2 : inB e 0 60
    · rw [dOk_2 h2] at HV
      go_wp2_with (first | (go_at_call 66; refine (IsValidZOmega_any _ _ _ _ _).mono ?_; rw [h1]; rintro e w1 ⟨rfl, rfl⟩) | (go_at_call 29; refine (l1In_any _ _ _ _).mono ?_; rw [h2]; rintro e w' ⟨rfl, rfl⟩))
      go_ret
      exact ⟨by rw [HV.out]; rfl, (by repeat (first | exact Below.refl _ _ | assumption | (refine Below.trans ?_ (Below.mono (by assumption) (by first | omega | (simp; done) | (simp; omega)))) | (with_reducible refine Below.drew ?_) | (with_reducible refine Below.alloc ?_ (by first | omega | (simp; done) | (simp; omega)) _) | (with_reducible refine Below.setCell ?_ (by first | omega | (simp; done) | (simp; omega)) _))), (by first | omega | (simp; done) | (simp; omega))⟩
    · rw [dOk_3 h1 h2 h3] at HV
      clear h3
      go_wp2_with (first | (go_at_call 66; refine (IsValidZOmega_any _ _ _ _ _).mono ?_; rw [h1]; rintro e w1 ⟨rfl, rfl⟩) | (go_at_call 29; refine (l1In_any _ _ _ _).mono ?_; rw [h2]; rintro e w' ⟨rfl, rfl⟩))
      go_ret
      exact ⟨by rw [HV.out]; rfl, (by repeat (first | exact Below.refl _ _ | assumption | (refine Below.trans ?_ (Below.mono (by assumption) (by first | omega | (simp; done) | (simp; omega)))) | (with_reducible refine Below.drew ?_) | (with_reducible refine Below.alloc ?_ (by first | omega | (simp; done) | (simp; omega)) _) | (with_reducible refine Below.setCell ?_ (by first | omega | (simp; done) | (simp; omega)) _))), (by first | omega | (simp; done) | (simp; omega))⟩
  | some z =>
    obtain ⟨z1, z2, z3, z4⟩ := z
    rw [zres_some]
    cases h1 : zOk ⟨a, b, c, d⟩
    · rw [dOk_1 h1] at HV
      go_wp2_with (go_at_call 66; refine (IsValidZOmega_any _ _ _ _ _).mono ?_; rw [h1]; rintro e w1 ⟨rfl, rfl⟩)
      go_ret
      exact ⟨by rw [HV.out]; rfl, (by repeat (first | exact Below.refl _ _ | assumption | (refine Below.trans ?_ (Below.mono (by assumption) (by first | omega | (simp; done) | (simp; omega)))) | (with_reducible refine Below.drew ?_) | (with_reducible refine Below.alloc ?_ (by first | omega | (simp; done) | (simp; omega)) _) | (with_reducible refine Below.setCell ?_ (by first | omega | (simp; done) | (simp; omega)) _))), (by first | omega | (simp; done) | (simp; omega))⟩
    cases h2 : inB e 0 60
    · rw [dOk_2 h2] at HV
      go_wp2_with (first | (go_at_call 66; refine (IsValidZOmega_any _ _ _ _ _).mono ?_; rw [h1]; rintro e w1 ⟨rfl, rfl⟩) | (go_at_call 29; refine (l1In_any _ _ _ _).mono ?_; rw [h2]; rintro e w' ⟨rfl, rfl⟩))
      go_ret
      exact ⟨by rw [HV.out]; rfl, (by repeat (first | exact Below.refl _ _ | assumption | (refine Below.trans ?_ (Below.mono (by assumption) (by first | omega | (simp; done) | (simp; omega)))) | (with_reducible refine Below.drew ?_) | (with_reducible refine Below.alloc ?_ (by first | omega | (simp; done) | (simp; omega)) _) | (with_reducible refine Below.setCell ?_ (by first | omega | (simp; done) | (simp; omega)) _))), (by first | omega | (simp; done) | (simp; omega))⟩
    · rw [dOk_4 h1 h2 h3] at HV
      clear h3
      cases h4 : (e == 0)
      · rw [h4] at HV
        go_wp2_with (first | (go_at_call 66; refine (IsValidZOmega_any _ _ _ _ _).mono ?_; rw [h1]; rintro e w1 ⟨rfl, rfl⟩) | (go_at_call 29; refine (l1In_any _ _ _ _).mono ?_; rw [h2]; rintro e w' ⟨rfl, rfl⟩))
        go_ret
        exact ⟨by rw [HV.out]; rfl, (by repeat (first | exact Below.refl _ _ | assumption | (refine Below.trans ?_ (Below.mono (by assumption) (by first | omega | (simp; done) | (simp; omega)))) | (with_reducible refine Below.drew ?_) | (with_reducible refine Below.alloc ?_ (by first | omega | (simp; done) | (simp; omega)) _) | (with_reducible refine Below.setCell ?_ (by first | omega | (simp; done) | (simp; omega)) _))), (by first | omega | (simp; done) | (simp; omega))⟩
      · rw [h4] at HV
        go_wp2_with (first | (go_at_call 66; refine (IsValidZOmega_any _ _ _ _ _).mono ?_; rw [h1]; rintro e w1 ⟨rfl, rfl⟩) | (go_at_call 29; refine (l1In_any _ _ _ _).mono ?_; rw [h2]; rintro e w' ⟨rfl, rfl⟩))
        go_ret
        exact ⟨by rw [HV.out]; rfl, (by repeat (first | exact Below.refl _ _ | assumption | (refine Below.trans ?_ (Below.mono (by assumption) (by first | omega | (simp; done) | (simp; omega)))) | (with_reducible refine Below.drew ?_) | (with_reducible refine Below.alloc ?_ (by first | omega | (simp; done) | (simp; omega)) _) | (with_reducible refine Below.setCell ?_ (by first | omega | (simp; done) | (simp; omega)) _))), (by first | omega | (simp; done) | (simp; omega))⟩
end Go.Proofs.Ytgjpicekdbemiac
namespace Go.Proofs.Ytgjpicekdbemiac
open Go.RowKit
set_option linter.unusedVariables false
theorem set4 {w : World} {b : Nat} {x0 x1 x2 x3 : Value} {t : TypeId} (v0 v1 v2 v3 : Value) (h : w.heap[b]? = some (.cells #[x0, x1, x2, x3] t (0, 0))) :
    ((((w.setCell ⟨b, 0, none⟩ v0).setCell ⟨b, 1, none⟩ v1).setCell ⟨b, 2, none⟩ v2).setCell ⟨b, 3, none⟩ v3).heap[b]? = some (.cells #[v0, v1, v2, v3] t (0, 0)) := by
  rw [heap_setCell_same _ _ _ _ _ _ (heap_setCell_same _ _ _ _ _ _ (heap_setCell_same _ _ _ _ _ _ (heap_setCell_same _ _ _ _ _ _ h)))]
  rfl
theorem set4_past {w : World} {b b' : Nat} {o : Obj} (v0 v1 v2 v3 : Value) (h : w.heap[b]? = some o) (hn : b ≠ b') :
    ((((w.setCell ⟨b', 0, none⟩ v0).setCell ⟨b', 1, none⟩ v1).setCell ⟨b', 2, none⟩ v2).setCell ⟨b', 3, none⟩ v3).heap[b]? = some o :=
  (Below.heap_setCell _ _ _ _ hn).trans ((Below.heap_setCell _ _ _ _ hn).trans ((Below.heap_setCell _ _ _ _ hn).trans ((Below.heap_setCell _ _ _ _ hn).trans h)))
theorem newD_f1 {n : Zw} {k : Int} (h : zOk n = false) : newD n k = none := by unfold newD; rw [h, if_neg (by simp)]
theorem newD_f2 {n : Zw} {k : Int} (h : inB k 0 120 = false) : newD n k = none := by unfold newD; rw [h, if_neg (by simp)]
theorem newD_t {n : Zw} {k : Int} (h : zOk n = true) (h2 : inB k 0 120 = true) {m : Zw} {j : Nat} (hr : red k.toNat n = (m, j)) : newD n k = if j ≤ 60 then some (dmk m j) else none := by
  unfold newD; rw [h, h2, if_pos (by simp), hr]
set_option maxRecDepth 100000 in
set_option maxHeartbeats 4000000 in
theorem NewDOmega_any (a b c d k : Int) (w : World) : Calls Try.prog 61 #[.agg #[.int .i64 a, .int .i64 b, .int .i64 c, .int .i64 d], .int .i64 k] w (Ret (dres (newD ⟨a, b, c, d⟩ k)) w) := by
  cases h1 : zOk ⟨a, b, c, d⟩
  · rw [newD_f1 h1]
    go_enter Try.func61, Try.ntmps61
    go_wp2_with (go_at_call 66; refine (IsValidZOmega_any _ _ _ _ _).mono ?_; rw [h1]; rintro e w1 ⟨rfl, rfl⟩)
    exact bodyPost_ret (v := dres none) (by simp [results, Try.results61, go_sem, dres]) rfl ⟨rfl, (by repeat (first | exact Below.refl _ _ | assumption | (refine Below.trans ?_ (Below.mono (by assumption) (by first | omega | (simp; done) | (simp; omega)))) | (with_reducible refine Below.drew ?_) | (with_reducible refine Below.alloc ?_ (by first | omega | (simp; done) | (simp; omega)) _) | (with_reducible refine Below.setCell ?_ (by first | omega | (simp; done) | (simp; omega)) _))), (by first | omega | (simp; done) | (simp; omega))⟩
  cases h2 : inB k 0 120
  · rw [newD_f2 h2]
    go_enter Try.func61, Try.ntmps61
    go_wp2_with (first | (go_at_call 66; refine (IsValidZOmega_any _ _ _ _ _).mono ?_; rw [h1]; rintro e w1 ⟨rfl, rfl⟩) | (go_at_call 29; refine (l1In_any _ _ _ _).mono ?_; rw [h2]; rintro e w' ⟨rfl, rfl⟩))
    exact bodyPost_ret (v := dres none) (by simp [results, Try.results61, go_sem, dres]) rfl ⟨rfl, (by repeat (first | exact Below.refl _ _ | assumption | (refine Below.trans ?_ (Below.mono (by assumption) (by first | omega | (simp; done) | (simp; omega)))) | (with_reducible refine Below.drew ?_) | (with_reducible refine Below.alloc ?_ (by first | omega | (simp; done) | (simp; omega)) _) | (with_reducible refine Below.setCell ?_ (by first | omega | (simp; done) | (simp; omega)) _))), (by first | omega | (simp; done) | (simp; omega))⟩
  have h2' := inB_iff.1 h2
  obtain ⟨K, rfl⟩ : ∃ K : Nat, k = K := ⟨k.toNat, by omega⟩
  have hK : K ≤ 120 := by omega
  have HT := Lib.hid (fun (m : Zw) (j : Nat) (hr : red K ⟨a, b, c, d⟩ = (m, j)) => newD_t (k := (K : Int)) h1 h2 hr)
  obtain ⟨R, hR⟩ : ∃ R, R = newD ⟨a, b, c, d⟩ K := ⟨_, rfl⟩
  rw [← hR] at HT ⊢
  clear hR
  go_enter Try.func61, Try.ntmps61
  go_wp2_with (first | (go_at_call 66; refine (IsValidZOmega_any _ _ _ _ _).mono ?_; rw [h1]; rintro e w1 ⟨rfl, rfl⟩) | (go_at_call 29; refine (l1In_any _ _ _ _).mono ?_; rw [h2]; rintro e w' ⟨rfl, rfl⟩))
  clear h1 h2 h2'
  obtain ⟨w0, hw0⟩ : ∃ w0, w0 = ((w.alloc (.cells #[.int .i64 a, .int .i64 b, .int .i64 c, .int .i64 d] 45)).alloc (.cells #[.int .i64 0, .int .i64 0, .int .i64 0, .int .i64 0, .int .i64 0] 47)).alloc (.cells #[.int .i64 a, .int .i64 b, .int .i64 c, .int .i64 d] 45) := ⟨_, rfl⟩
  rw [← hw0]
  have x0 := Lib.hid (show w0.heap[w.heap.size]? = some (.cells #[.int .i64 a, .int .i64 b, .int .i64 c, .int .i64 d] 45 (0, 0)) by rw [hw0]; exact boxed3_0 _ _ _ _)
  have x1 := Lib.hid (show w0.heap[w.heap.size + 1]? = some (.cells #[.int .i64 0, .int .i64 0, .int .i64 0, .int .i64 0, .int .i64 0] 47 (0, 0)) by rw [hw0]; exact boxed3_1 _ _ _ _)
  have b0 : Below w.heap.size w w0 := by rw [hw0]; exact (by repeat (first | exact Below.refl _ _ | assumption | (refine Below.trans ?_ (Below.mono (by assumption) (by first | omega | (simp; done) | (simp; omega)))) | (with_reducible refine Below.drew ?_) | (with_reducible refine Below.alloc ?_ (by first | omega | (simp; done) | (simp; omega)) _) | (with_reducible refine Below.setCell ?_ (by first | omega | (simp; done) | (simp; omega)) _)))
  have S0 := Lib.hid (show w.heap.size + 3 = w0.heap.size by rw [hw0]; simp)
  clear hw0
  go_loopw [1] (fun kv wr => ∃ (j : Nat) (m : Zw), kv = .int .i64 j ∧ j ≤ 120 ∧ red K ⟨a, b, c, d⟩ = red j m ∧ wr.heap[w.heap.size]? = some (.cells #[.int .i64 m.a, .int .i64 m.b, .int .i64 m.c, .int .i64 m.d] 45 (0, 0)) ∧ wr.heap[w.heap.size + 1]? = some (.cells #[.int .i64 0, .int .i64 0, .int .i64 0, .int .i64 0, .int .i64 0] 47 (0, 0)) ∧ Below w.heap.size w wr ∧ w.heap.size + 3 ≤ wr.heap.size) (fun kv _ => (intOf kv).toNat)
  case atStart => exact ⟨K, ⟨a, b, c, d⟩, rfl, hK, rfl, x0.out, x1.out, b0, Nat.le_of_eq S0.out⟩
  case round =>
    obtain ⟨j, m, rfl, hj, hr, hx0, hx1, hb, hs⟩ := hrel
    have HR := Lib.hid hr
    obtain ⟨m1, m2, m3, m4⟩ := m
    clear b0 hr
    by_cases hj0 : j = 0
    · subst hj0
      have e := HT.out ⟨m1, m2, m3, m4⟩ 0 HR.out
      rw [if_pos (by omega)] at e
      have E := Lib.hid e
      clear e
      have khx00 := cell_at (j := 0) hx0 rfl
      have khx01 := cell_at (j := 1) hx0 rfl
      have khx02 := cell_at (j := 2) hx0 rfl
      have khx03 := cell_at (j := 3) hx0 rfl
      have khx10 := cell_at (j := 0) hx1 rfl
      have fhx10 := free_b (j := 0) hx1
      have khx11 := cell_at (j := 1) hx1 rfl
      have fhx11 := free_b (j := 1) hx1
      have khx12 := cell_at (j := 2) hx1 rfl
      have fhx12 := free_b (j := 2) hx1
      have khx13 := cell_at (j := 3) hx1 rfl
      have fhx13 := free_b (j := 3) hx1
      have khx14 := cell_at (j := 4) hx1 rfl
      have fhx14 := free_b (j := 4) hx1
      go_wp2_with fail
      exact bodyPost_ret (v := dres R) (by rw [E.out]; simp [results, Try.results61, go_sem, dres, dmk, khx10, khx11, khx12, khx13, khx14]) rfl (ret_set5 hb (by omega))
    · obtain ⟨i, rfl⟩ : ∃ i, j = i + 1 := ⟨j - 1, by omega⟩
      have khx00 := cell_at (j := 0) hx0 rfl
      have khx01 := cell_at (j := 1) hx0 rfl
      have khx02 := cell_at (j := 2) hx0 rfl
      have khx03 := cell_at (j := 3) hx0 rfl
      go_wp2_with fail
      refine (DivSqrt2_any _ _ _ _ _).mono ?_
      rintro e w1 ⟨rfl, hb1, hs1⟩
      have y0 := (hb1.block _ (by omega)).trans hx0
      have y1 := (hb1.block _ (by omega)).trans hx1
      have hs2 : w.heap.size + 3 ≤ w1.heap.size := by omega
      have hb2 : Below w.heap.size w w1 := (by repeat (first | exact Below.refl _ _ | assumption | (refine Below.trans ?_ (Below.mono (by assumption) (by first | omega | (simp; done) | (simp; omega)))) | (with_reducible refine Below.drew ?_) | (with_reducible refine Below.alloc ?_ (by first | omega | (simp; done) | (simp; omega)) _) | (with_reducible refine Below.setCell ?_ (by first | omega | (simp; done) | (simp; omega)) _)))
      clear hx0 hx1 hb hb1 hs1 hs khx00 khx01 khx02 khx03
      have l0 : w.heap.size < w1.heap.size := by omega
      have l1 : w.heap.size + 1 < w1.heap.size := by omega
      have Y0 := Lib.hid y0
      have Y1 := Lib.hid y1
      clear y0 y1
      cases hd : zdiv ⟨m1, m2, m3, m4⟩ with
      | none =>
        have hrr : red K ⟨a, b, c, d⟩ = (⟨m1, m2, m3, m4⟩, i + 1) := by rw [HR.out, red, hd]
        have e := HT.out ⟨m1, m2, m3, m4⟩ (i + 1) hrr
        clear hd hrr
        have y0 := Y0.out
        have y1 := Y1.out
        have ky00 := cell_at (j := 0) y0 rfl
        have ky01 := cell_at (j := 1) y0 rfl
        have ky02 := cell_at (j := 2) y0 rfl
        have ky03 := cell_at (j := 3) y0 rfl
        have ky10 := cell_at (j := 0) y1 rfl
        have fy10 := free_b (j := 0) y1
        have ky11 := cell_at (j := 1) y1 rfl
        have fy11 := free_b (j := 1) y1
        have ky12 := cell_at (j := 2) y1 rfl
        have fy12 := free_b (j := 2) y1
        have ky13 := cell_at (j := 3) y1 rfl
        have fy13 := free_b (j := 3) y1
        have ky14 := cell_at (j := 4) y1 rfl
        have fy14 := free_b (j := 4) y1
        clear y0 y1
        rw [zres_none]
        by_cases hi : i + 1 ≤ 60
        · rw [if_pos hi] at e
          have E := Lib.hid e
          clear e
          have hi' : decide (60 < ((i + 1 : Nat) : Int)) = false := by simp; omega
          go_wp2_with fail
          exact bodyPost_ret (v := dres R) (by rw [E.out]; simp [results, Try.results61, go_sem, dres, dmk, l1, ky10, ky11, ky12, ky13, ky14]) rfl (ret_alloc _ (ret_set5 hb2 (by omega)))
        · rw [if_neg hi] at e
          have E := Lib.hid e
          clear e
          have hi' : decide (60 < ((i + 1 : Nat) : Int)) = true := by simp; omega
          go_wp2_with fail
          exact bodyPost_ret (v := dres R) (by rw [E.out]; simp [results, Try.results61, go_sem, dres, l1, ky10, ky11, ky12, ky13, ky14]) rfl (ret_alloc _ (ret_set5 hb2 (by omega)))
      | some z =>
        have hrr : red K ⟨a, b, c, d⟩ = red i z := by rw [HR.out, red, hd]
        have HRR := Lib.hid hrr
        obtain ⟨z1, z2, z3, z4⟩ := z
        clear hd hrr
        have y0 := Y0.out
        have ky00 := cell_at (j := 0) y0 rfl
        have fy00 := free_b (j := 0) y0
        have ky01 := cell_at (j := 1) y0 rfl
        have fy01 := free_b (j := 1) y0
        have ky02 := cell_at (j := 2) y0 rfl
        have fy02 := free_b (j := 2) y0
        have ky03 := cell_at (j := 3) y0 rfl
        have fy03 := free_b (j := 3) y0
        clear y0
        rw [zres_some]
        go_wp2_with fail
        go_roundw
        case rel =>
          refine ⟨i, ⟨z1, z2, z3, z4⟩, by go_num, by omega, HRR.out, ?_, ?_, (by repeat (first | exact Below.refl _ _ | assumption | (refine Below.trans ?_ (Below.mono (by assumption) (by first | omega | (simp; done) | (simp; omega)))) | (with_reducible refine Below.drew ?_) | (with_reducible refine Below.alloc ?_ (by first | omega | (simp; done) | (simp; omega)) _) | (with_reducible refine Below.setCell ?_ (by first | omega | (simp; done) | (simp; omega)) _))), (by first | omega | (simp; done) | (simp; omega))⟩
          · exact (Below.heap_alloc _ _ _ (by simpa [World.setCell] using l0)).trans (set4 _ _ _ _ Y0.out)
          · exact (Below.heap_alloc _ _ _ (by simpa [World.setCell] using l1)).trans (set4_past _ _ _ _ Y1.out (by omega))
        case measure => simp [intOf]
end Go.Proofs.Ytgjpicekdbemiac
namespace Go.Proofs.Ytgjpicekdbemiac
open Go.RowKit
set_option linter.unusedVariables false
set_option maxRecDepth 100000 in
theorem l1MaxD_any (a b : Int) (w : World) : Calls Try.prog 62 #[.int .i64 a, .int .i64 b] w fun e w' => e = .returned (.int .i64 (max a b)) ∧ w = w' := by
  by_cases h : b < a
  · rw [Int.max_eq_left (by omega)]
    go_enter Try.func62, Try.ntmps62
    go_wp2_with fail
    go_ret
    exact ⟨rfl, rfl⟩
  · rw [Int.max_eq_right (by omega)]
    go_enter Try.func62, Try.ntmps62
    go_wp2_with fail
    go_ret
    exact ⟨rfl, rfl⟩
set_option maxRecDepth 100000 in
set_option maxHeartbeats 4000000 in
theorem l3Up_any (a b c d : Int) (t : Nat) (w : World) (ht : t ≤ 1000) : Calls Try.prog 63 #[.agg #[.int .i64 a, .int .i64 b, .int .i64 c, .int .i64 d], .int .i64 t] w (Ret (zres (up t ⟨a, b, c, d⟩)) w) := by
  obtain ⟨R, hR⟩ : ∃ R, R = up t ⟨a, b, c, d⟩ := ⟨_, rfl⟩
  rw [← hR]
  have HR := Lib.hid hR
  clear hR
  go_enter Try.func63, Try.ntmps63
  go_wp2_with fail
  obtain ⟨w0, hw0⟩ : ∃ w0, w0 = (w.alloc (.cells #[.int .i64 a, .int .i64 b, .int .i64 c, .int .i64 d] 45)).alloc (.cells #[.int .i64 0, .int .i64 0, .int .i64 0, .int .i64 0] 45) := ⟨_, rfl⟩
  rw [← hw0]
  have x0 := Lib.hid (show w0.heap[w.heap.size]? = some (.cells #[.int .i64 a, .int .i64 b, .int .i64 c, .int .i64 d] 45 (0, 0)) by rw [hw0]; exact boxed2_0 _ _ _)
  have x1 := Lib.hid (show w0.heap[w.heap.size + 1]? = some (.cells #[.int .i64 0, .int .i64 0, .int .i64 0, .int .i64 0] 45 (0, 0)) by rw [hw0]; exact boxed2_1 _ _ _)
  have b0 : Below w.heap.size w w0 := by rw [hw0]; exact (by repeat (first | exact Below.refl _ _ | assumption | (refine Below.trans ?_ (Below.mono (by assumption) (by first | omega | (simp; done) | (simp; omega)))) | (with_reducible refine Below.drew ?_) | (with_reducible refine Below.alloc ?_ (by first | omega | (simp; done) | (simp; omega)) _) | (with_reducible refine Below.setCell ?_ (by first | omega | (simp; done) | (simp; omega)) _)))
  have S0 := Lib.hid (show w.heap.size + 2 = w0.heap.size by rw [hw0]; simp)
  clear hw0
  go_loopw [6] (fun kv wr => ∃ (i : Nat) (m : Zw), kv = .int .i64 i ∧ i ≤ t ∧ R = up (t - i) m ∧ wr.heap[w.heap.size]? = some (.cells #[.int .i64 m.a, .int .i64 m.b, .int .i64 m.c, .int .i64 m.d] 45 (0, 0)) ∧ wr.heap[w.heap.size + 1]? = some (.cells #[.int .i64 0, .int .i64 0, .int .i64 0, .int .i64 0] 45 (0, 0)) ∧ Below w.heap.size w wr ∧ w.heap.size + 2 ≤ wr.heap.size) (fun kv _ => t - (intOf kv).toNat)
  case atStart => exact ⟨0, ⟨a, b, c, d⟩, rfl, Nat.zero_le _, HR.out, x0.out, x1.out, b0, Nat.le_of_eq S0.out⟩
  case round =>
    obtain ⟨i, m, rfl, hi, hr, hx0, hx1, hb, hs⟩ := hrel
    have HR := Lib.hid hr
    obtain ⟨m1, m2, m3, m4⟩ := m
    clear b0 hr
    by_cases hit : i = t
    · subst hit
      have e := HR.out
      rw [Nat.sub_self, up] at e
      have E := Lib.hid e
      clear e
      have khx00 := cell_at (j := 0) hx0 rfl
      have khx01 := cell_at (j := 1) hx0 rfl
      have khx02 := cell_at (j := 2) hx0 rfl
      have khx03 := cell_at (j := 3) hx0 rfl
      have khx10 := cell_at (j := 0) hx1 rfl
      have fhx10 := free_b (j := 0) hx1
      have khx11 := cell_at (j := 1) hx1 rfl
      have fhx11 := free_b (j := 1) hx1
      have khx12 := cell_at (j := 2) hx1 rfl
      have fhx12 := free_b (j := 2) hx1
      have khx13 := cell_at (j := 3) hx1 rfl
      have fhx13 := free_b (j := 3) hx1
      go_wp2_with fail
      exact bodyPost_ret (v := zres R) (by rw [E.out]; simp [results, Try.results63, go_sem, zres, khx10, khx11, khx12, khx13]) rfl ⟨rfl, (by repeat (first | exact Below.refl _ _ | assumption | (refine Below.trans ?_ (Below.mono (by assumption) (by first | omega | (simp; done) | (simp; omega)))) | (with_reducible refine Below.drew ?_) | (with_reducible refine Below.alloc ?_ (by first | omega | (simp; done) | (simp; omega)) _) | (with_reducible refine Below.setCell ?_ (by first | omega | (simp; done) | (simp; omega)) _))), (by first | omega | (simp; done) | (simp; omega))⟩
    · have hlt : i < t := by omega
      have khx00 := cell_at (j := 0) hx0 rfl
      have khx01 := cell_at (j := 1) hx0 rfl
      have khx02 := cell_at (j := 2) hx0 rfl
      have khx03 := cell_at (j := 3) hx0 rfl
      go_wp2_with fail
      refine (MulZOmega_any _ _ _ _ _ _ _ _ _).mono ?_
      rintro e w1 ⟨rfl, hb1, hs1⟩
      have y0 := (hb1.block _ (by omega)).trans hx0
      have y1 := (hb1.block _ (by omega)).trans hx1
      have hs2 : w.heap.size + 2 ≤ w1.heap.size := by omega
      have hb2 : Below w.heap.size w w1 := (by repeat (first | exact Below.refl _ _ | assumption | (refine Below.trans ?_ (Below.mono (by assumption) (by first | omega | (simp; done) | (simp; omega)))) | (with_reducible refine Below.drew ?_) | (with_reducible refine Below.alloc ?_ (by first | omega | (simp; done) | (simp; omega)) _) | (with_reducible refine Below.setCell ?_ (by first | omega | (simp; done) | (simp; omega)) _)))
      clear hx0 hx1 hb hb1 hs1 hs khx00 khx01 khx02 khx03
      have l0 : w.heap.size < w1.heap.size := by omega
      have l1 : w.heap.size + 1 < w1.heap.size := by omega
      have e := HR.out
      rw [show t - i = (t - (i + 1)) + 1 from by omega, up] at e
      cases hd : zmul ⟨m1, m2, m3, m4⟩ ⟨0, 1, 0, -1⟩ with
      | none =>
        rw [hd] at e
        have E := Lib.hid e
        clear hd e
        have ky10 := cell_at (j := 0) y1 rfl
        have fy10 := free_b (j := 0) y1
        have ky11 := cell_at (j := 1) y1 rfl
        have fy11 := free_b (j := 1) y1
        have ky12 := cell_at (j := 2) y1 rfl
        have fy12 := free_b (j := 2) y1
        have ky13 := cell_at (j := 3) y1 rfl
        have fy13 := free_b (j := 3) y1
        clear y0 y1
        rw [zres_none]
        go_wp2_with fail
        exact bodyPost_ret (v := zres R) (by rw [E.out]; simp [results, Try.results63, go_sem, zres, l1, ky10, ky11, ky12, ky13]) rfl ⟨rfl, (by repeat (first | exact Below.refl _ _ | assumption | (refine Below.trans ?_ (Below.mono (by assumption) (by first | omega | (simp; done) | (simp; omega)))) | (with_reducible refine Below.drew ?_) | (with_reducible refine Below.alloc ?_ (by first | omega | (simp; done) | (simp; omega)) _) | (with_reducible refine Below.setCell ?_ (by first | omega | (simp; done) | (simp; omega)) _))), (by first | omega | (simp; done) | (simp; omega))⟩
      | some z =>
        rw [hd] at e
        have E := Lib.hid e
        obtain ⟨z1, z2, z3, z4⟩ := z
        clear hd e
        have Y0 := Lib.hid y0
        have Y1 := Lib.hid y1
        have ky00 := cell_at (j := 0) y0 rfl
        have fy00 := free_b (j := 0) y0
        have ky01 := cell_at (j := 1) y0 rfl
        have fy01 := free_b (j := 1) y0
        have ky02 := cell_at (j := 2) y0 rfl
        have fy02 := free_b (j := 2) y0
        have ky03 := cell_at (j := 3) y0 rfl
        have fy03 := free_b (j := 3) y0
        clear y0 y1
        rw [zres_some]
        go_wp2_with fail
        go_roundw
        case rel =>
          refine ⟨i + 1, ⟨z1, z2, z3, z4⟩, by go_num, by omega, E.out, ?_, ?_, (by repeat (first | exact Below.refl _ _ | assumption | (refine Below.trans ?_ (Below.mono (by assumption) (by first | omega | (simp; done) | (simp; omega)))) | (with_reducible refine Below.drew ?_) | (with_reducible refine Below.alloc ?_ (by first | omega | (simp; done) | (simp; omega)) _) | (with_reducible refine Below.setCell ?_ (by first | omega | (simp; done) | (simp; omega)) _))), (by first | omega | (simp; done) | (simp; omega))⟩
          · exact (Below.heap_alloc _ _ _ (by simpa [World.setCell] using l0)).trans (set4 _ _ _ _ Y0.out)
          · exact (Below.heap_alloc _ _ _ (by simpa [World.setCell] using l1)).trans (set4_past _ _ _ _ Y1.out (by omega))
        case measure => simp [intOf]; omega
end Go.Proofs.Ytgjpicekdbemiac
namespace Go.Proofs.Ytgjpicekdbemiac
open Go.RowKit
set_option linter.unusedVariables false
/-- Two results as a pair: a number, and whether it is right. -/
theorem zres_form (r : Option Zw) : ∃ (z : Zw) (ok : Bool), zres r = .tuple #[.agg #[.int .i64 z.a, .int .i64 z.b, .int .i64 z.c, .int .i64 z.d], .bool ok] ∧ ((ok = true ∧ r = some z) ∨ (ok = false ∧ r = none ∧ z = zz)) := by
  cases r with
  | none => exact ⟨zz, false, rfl, .inr ⟨rfl, rfl, rfl⟩⟩
  | some z => exact ⟨z, true, rfl, .inl ⟨rfl, rfl⟩⟩
theorem dres_form (r : Option Dm) : ∃ (z : Dm) (ok : Bool), dres r = .tuple #[.agg #[.int .i64 z.a, .int .i64 z.b, .int .i64 z.c, .int .i64 z.d, .int .i64 z.e], .bool ok] ∧ ((ok = true ∧ r = some z) ∨ (ok = false ∧ r = none ∧ z = d0)) := by
  cases r with
  | none => exact ⟨d0, false, rfl, .inr ⟨rfl, rfl, rfl⟩⟩
  | some z => exact ⟨z, true, rfl, .inl ⟨rfl, rfl⟩⟩
theorem mulD_1 {x y : Dm} (h : dOk x = false) : mulD x y = none := by unfold mulD; rw [h, if_neg (by simp)]
theorem mulD_2 {x y : Dm} (h : dOk y = false) : mulD x y = none := by unfold mulD; rw [h, if_neg (by simp)]
theorem mulD_3 {x y : Dm} (h : zmul x.n y.n = none) : mulD x y = none := by unfold mulD; rw [h]; split <;> rfl
theorem mulD_4 {x y : Dm} {n : Zw} (hx : dOk x = true) (hy : dOk y = true) (h : zmul x.n y.n = some n) : mulD x y = newD n (x.e + y.e) := by unfold mulD; rw [h, hx, hy, if_pos (by simp)]
theorem dOk_e {x : Dm} (h : dOk x = true) : 0 ≤ x.e ∧ x.e ≤ 60 := by
  unfold dOk at h
  simp only [Bool.and_eq_true] at h
  exact inB_iff.1 h.2.1
theorem addD_1 {x y : Dm} (h : dOk x = false) : addD x y = none := by unfold addD; rw [h, if_neg (by simp)]
theorem addD_2 {x y : Dm} (h : dOk y = false) : addD x y = none := by unfold addD; rw [h, if_neg (by simp)]
theorem addD_3 {x y : Dm} (hx : dOk x = true) (hy : dOk y = true) (h : up (max x.e y.e - x.e).toNat x.n = none) : addD x y = none := by unfold addD; rw [h, hx, hy, if_pos (by simp)]
theorem addD_4 {x y : Dm} {a : Zw} (hx : dOk x = true) (hy : dOk y = true) (h : up (max x.e y.e - x.e).toNat x.n = some a) (h2 : up (max x.e y.e - y.e).toNat y.n = none) : addD x y = none := by unfold addD; rw [h, h2, hx, hy, if_pos (by simp)]
theorem addD_5 {x y : Dm} {a b : Zw} (hx : dOk x = true) (hy : dOk y = true) (h : up (max x.e y.e - x.e).toNat x.n = some a) (h2 : up (max x.e y.e - y.e).toNat y.n = some b) (h3 : zadd a b = none) : addD x y = none := by unfold addD; rw [h, h2, hx, hy, if_pos (by simp)]; simp only [h3]
theorem addD_6 {x y : Dm} {a b n : Zw} (hx : dOk x = true) (hy : dOk y = true) (h : up (max x.e y.e - x.e).toNat x.n = some a) (h2 : up (max x.e y.e - y.e).toNat y.n = some b) (h3 : zadd a b = some n) : addD x y = newD n (max x.e y.e) := by unfold addD; rw [h, h2, hx, hy, if_pos (by simp)]; simp only [h3]
set_option maxRecDepth 100000 in
set_option maxHeartbeats 8000000 in
theorem MulDOmega_any (a b c d e p q r s t : Int) (w : World) : Calls Try.prog 52 #[.agg #[.int .i64 a, .int .i64 b, .int .i64 c, .int .i64 d, .int .i64 e], .agg #[.int .i64 p, .int .i64 q, .int .i64 r, .int .i64 s, .int .i64 t]] w (Ret (dres (mulD ⟨a, b, c, d, e⟩ ⟨p, q, r, s, t⟩)) w) := by
  obtain ⟨z, ok, hz, hzr⟩ := zres_form (zmul ⟨a, b, c, d⟩ ⟨p, q, r, s⟩)
  have HZR := Lib.hid hzr
  clear hzr
  obtain ⟨R, hR⟩ : ∃ R, R = mulD ⟨a, b, c, d, e⟩ ⟨p, q, r, s, t⟩ := ⟨_, rfl⟩
  rw [← hR]
  have HR := Lib.hid hR
  clear hR
  go_enter Try.func52, Try.ntmps52
  go_wp2_with fail
  obtain ⟨w0, hw0⟩ : ∃ w0, w0 = ((w.alloc (.cells #[.int .i64 a, .int .i64 b, .int .i64 c, .int .i64 d, .int .i64 e] 47)).alloc (.cells #[.int .i64 p, .int .i64 q, .int .i64 r, .int .i64 s, .int .i64 t] 47)).alloc (.cells #[.int .i64 0, .int .i64 0, .int .i64 0, .int .i64 0, .int .i64 0] 47) := ⟨_, rfl⟩
  rw [← hw0]
  have x0 := Lib.hid (show w0.heap[w.heap.size]? = some (.cells #[.int .i64 a, .int .i64 b, .int .i64 c, .int .i64 d, .int .i64 e] 47 (0, 0)) by rw [hw0]; exact boxed3_0 _ _ _ _)
  have y0 := Lib.hid (show w0.heap[w.heap.size + 1]? = some (.cells #[.int .i64 p, .int .i64 q, .int .i64 r, .int .i64 s, .int .i64 t] 47 (0, 0)) by rw [hw0]; exact boxed3_1 _ _ _ _)
  have r0 := Lib.hid (show w0.heap[w.heap.size + 2]? = some (.cells #[.int .i64 0, .int .i64 0, .int .i64 0, .int .i64 0, .int .i64 0] 47 (0, 0)) by rw [hw0]; exact boxed3_2 _ _ _ _)
  have b0 : Below w.heap.size w w0 := by rw [hw0]; exact (by repeat (first | exact Below.refl _ _ | assumption | (refine Below.trans ?_ (Below.mono (by assumption) (by first | omega | (simp; done) | (simp; omega)))) | (with_reducible refine Below.drew ?_) | (with_reducible refine Below.alloc ?_ (by first | omega | (simp; done) | (simp; omega)) _) | (with_reducible refine Below.setCell ?_ (by first | omega | (simp; done) | (simp; omega)) _)))
  have s0 : w.heap.size + 3 ≤ w0.heap.size := by rw [hw0]; simp
  clear hw0
  have kx0 := cell_at (j := 0) x0.out rfl
  have kx1 := cell_at (j := 1) x0.out rfl
  have kx2 := cell_at (j := 2) x0.out rfl
  have kx3 := cell_at (j := 3) x0.out rfl
  have ky0 := cell_at (j := 0) y0.out rfl
  have ky1 := cell_at (j := 1) y0.out rfl
  have ky2 := cell_at (j := 2) y0.out rfl
  have ky3 := cell_at (j := 3) y0.out rfl
  try go_wp2_with fail
  refine (MulZOmega_any _ _ _ _ _ _ _ _ _).mono ?_
  rw [hz]
  rintro e1 w1 ⟨rfl, hb1, hs1⟩
  have x1 := Lib.hid ((hb1.block _ (by omega)).trans x0.out)
  have y1 := Lib.hid ((hb1.block _ (by omega)).trans y0.out)
  have r1 := Lib.hid ((hb1.block _ (by omega)).trans r0.out)
  have b1 := b0.trans (hb1.mono b0.size)
  have s1 : w.heap.size + 3 ≤ w1.heap.size := by omega
  clear kx0 kx1 kx2 kx3
  clear ky0 ky1 ky2 ky3
  have kx0 := cell_at (j := 0) x1.out rfl
  have kx1 := cell_at (j := 1) x1.out rfl
  have kx2 := cell_at (j := 2) x1.out rfl
  have kx3 := cell_at (j := 3) x1.out rfl
  have kx4 := cell_at (j := 4) x1.out rfl
  have l1 : w.heap.size < w1.heap.size := by omega
  go_wp2_with fail
  clear kx0 kx1 kx2 kx3 kx4
  obtain ⟨w2, hw2⟩ : ∃ w', w' = w1.alloc (.cells #[.int .i64 z.a, .int .i64 z.b, .int .i64 z.c, .int .i64 z.d] 45) := ⟨_, rfl⟩
  rw [← hw2]
  have x2 := Lib.hid (show w2.heap[w.heap.size]? = some (.cells #[.int .i64 a, .int .i64 b, .int .i64 c, .int .i64 d, .int .i64 e] 47 (0, 0)) by rw [hw2]; exact (Below.heap_alloc _ _ _ (by omega)).trans x1.out)
  have y2 := Lib.hid (show w2.heap[w.heap.size + 1]? = some (.cells #[.int .i64 p, .int .i64 q, .int .i64 r, .int .i64 s, .int .i64 t] 47 (0, 0)) by rw [hw2]; exact (Below.heap_alloc _ _ _ (by omega)).trans y1.out)
  have r2 := Lib.hid (show w2.heap[w.heap.size + 2]? = some (.cells #[.int .i64 0, .int .i64 0, .int .i64 0, .int .i64 0, .int .i64 0] 47 (0, 0)) by rw [hw2]; exact (Below.heap_alloc _ _ _ (by omega)).trans r1.out)
  have n2 := Lib.hid (show w2.heap[w1.heap.size]? = some (.cells #[.int .i64 z.a, .int .i64 z.b, .int .i64 z.c, .int .i64 z.d] 45 (0, 0)) by rw [hw2]; exact heap_alloc_new _ _)
  have b2 : Below w.heap.size w w2 := by rw [hw2]; exact b1.alloc b1.size _
  have s2 : w.heap.size + 3 ≤ w2.heap.size := by rw [hw2]; simp; omega
  have g2 : w1.heap.size + 1 = w2.heap.size := by rw [hw2]; simp
  cases hx : dOk ⟨a, b, c, d, e⟩
  · refine (IsValidDOmega_any _ _ _ _ _ _).mono ?_
    rw [hx]
    rintro e3 w3 ⟨rfl, hb3, hs3⟩
    have x3 := Lib.hid ((hb3.block _ (by omega)).trans x2.out)
    have y3 := Lib.hid ((hb3.block _ (by omega)).trans y2.out)
    have r3 := Lib.hid ((hb3.block _ (by omega)).trans r2.out)
    have n3 := Lib.hid ((hb3.block _ (by omega)).trans n2.out)
    have b3 := b2.trans (hb3.mono b2.size)
    have s3 : w.heap.size + 3 ≤ w3.heap.size := by omega
    have kr0 := cell_at (j := 0) r3.out rfl
    have fr0 := free_b (j := 0) r3.out
    have kr1 := cell_at (j := 1) r3.out rfl
    have fr1 := free_b (j := 1) r3.out
    have kr2 := cell_at (j := 2) r3.out rfl
    have fr2 := free_b (j := 2) r3.out
    have kr3 := cell_at (j := 3) r3.out rfl
    have fr3 := free_b (j := 3) r3.out
    have kr4 := cell_at (j := 4) r3.out rfl
    have fr4 := free_b (j := 4) r3.out
    have E := Lib.hid (show R = none by rw [HR.out]; exact mulD_1 hx)
    go_wp2_with fail
    exact bodyPost_ret (v := dres R) (by rw [E.out]; simp [results, Try.results52, go_sem, dres, kr0, kr1, kr2, kr3, kr4]) rfl (ret_set5 b3 (by omega))
  refine (IsValidDOmega_any _ _ _ _ _ _).mono ?_
  rw [hx]
  rintro e3 w3 ⟨rfl, hb3, hs3⟩
  have x3 := Lib.hid ((hb3.block _ (by omega)).trans x2.out)
  have y3 := Lib.hid ((hb3.block _ (by omega)).trans y2.out)
  have r3 := Lib.hid ((hb3.block _ (by omega)).trans r2.out)
  have n3 := Lib.hid ((hb3.block _ (by omega)).trans n2.out)
  have b3 := b2.trans (hb3.mono b2.size)
  have s3 : w.heap.size + 3 ≤ w3.heap.size := by omega
  have ky0 := cell_at (j := 0) y3.out rfl
  have ky1 := cell_at (j := 1) y3.out rfl
  have ky2 := cell_at (j := 2) y3.out rfl
  have ky3 := cell_at (j := 3) y3.out rfl
  have ky4 := cell_at (j := 4) y3.out rfl
  go_wp2_with fail
  clear ky0 ky1 ky2 ky3 ky4
  cases hy : dOk ⟨p, q, r, s, t⟩
  · refine (IsValidDOmega_any _ _ _ _ _ _).mono ?_
    rw [hy]
    rintro e4 w4 ⟨rfl, hb4, hs4⟩
    have x4 := Lib.hid ((hb4.block _ (by omega)).trans x3.out)
    have y4 := Lib.hid ((hb4.block _ (by omega)).trans y3.out)
    have r4 := Lib.hid ((hb4.block _ (by omega)).trans r3.out)
    have n4 := Lib.hid ((hb4.block _ (by omega)).trans n3.out)
    have b4 := b3.trans (hb4.mono b3.size)
    have s4 : w.heap.size + 3 ≤ w4.heap.size := by omega
    have kr0 := cell_at (j := 0) r4.out rfl
    have fr0 := free_b (j := 0) r4.out
    have kr1 := cell_at (j := 1) r4.out rfl
    have fr1 := free_b (j := 1) r4.out
    have kr2 := cell_at (j := 2) r4.out rfl
    have fr2 := free_b (j := 2) r4.out
    have kr3 := cell_at (j := 3) r4.out rfl
    have fr3 := free_b (j := 3) r4.out
    have kr4 := cell_at (j := 4) r4.out rfl
    have fr4 := free_b (j := 4) r4.out
    have E := Lib.hid (show R = none by rw [HR.out]; exact mulD_2 hy)
    go_wp2_with fail
    exact bodyPost_ret (v := dres R) (by rw [E.out]; simp [results, Try.results52, go_sem, dres, kr0, kr1, kr2, kr3, kr4]) rfl (ret_set5 b4 (by omega))
  refine (IsValidDOmega_any _ _ _ _ _ _).mono ?_
  rw [hy]
  rintro e4 w4 ⟨rfl, hb4, hs4⟩
  have x4 := Lib.hid ((hb4.block _ (by omega)).trans x3.out)
  have y4 := Lib.hid ((hb4.block _ (by omega)).trans y3.out)
  have r4 := Lib.hid ((hb4.block _ (by omega)).trans r3.out)
  have n4 := Lib.hid ((hb4.block _ (by omega)).trans n3.out)
  have b4 := b3.trans (hb4.mono b3.size)
  have s4 : w.heap.size + 3 ≤ w4.heap.size := by omega
  rcases HZR.out with ⟨rfl, hzm⟩ | ⟨rfl, hzm, _⟩
  · have hex := dOk_e hx
    have hey := dOk_e hy
    simp only at hex hey
    have E := Lib.hid (show R = newD z (e + t) by rw [HR.out]; exact mulD_4 hx hy hzm)
    clear hzm
    have kn0 := cell_at (j := 0) n4.out rfl
    have kn1 := cell_at (j := 1) n4.out rfl
    have kn2 := cell_at (j := 2) n4.out rfl
    have kn3 := cell_at (j := 3) n4.out rfl
    have kx0 := cell_at (j := 0) x4.out rfl
    have kx1 := cell_at (j := 1) x4.out rfl
    have kx2 := cell_at (j := 2) x4.out rfl
    have kx3 := cell_at (j := 3) x4.out rfl
    have kx4 := cell_at (j := 4) x4.out rfl
    have ky0 := cell_at (j := 0) y4.out rfl
    have ky1 := cell_at (j := 1) y4.out rfl
    have ky2 := cell_at (j := 2) y4.out rfl
    have ky3 := cell_at (j := 3) y4.out rfl
    have ky4 := cell_at (j := 4) y4.out rfl
    go_wp2_with fail
    clear kn0 kn1 kn2 kn3
    clear kx0 kx1 kx2 kx3 kx4
    clear ky0 ky1 ky2 ky3 ky4
    obtain ⟨v, ok, hv, hvr⟩ := dres_form (newD z (e + t))
    rw [← E.out] at hv hvr
    refine (NewDOmega_any _ _ _ _ _ _).mono ?_
    rintro e5 w5 ⟨rfl, hb5, hs5⟩
    have r5 := Lib.hid ((hb5.block _ (by omega)).trans r4.out)
    have b5 := b4.trans (hb5.mono b4.size)
    have s5 : w.heap.size + 3 ≤ w5.heap.size := by omega
    rw [show newD ⟨z.a, z.b, z.c, z.d⟩ (e + t) = R from E.out.symm, hv]
    have kr0 := cell_at (j := 0) r5.out rfl
    have fr0 := free_b (j := 0) r5.out
    have kr1 := cell_at (j := 1) r5.out rfl
    have fr1 := free_b (j := 1) r5.out
    have kr2 := cell_at (j := 2) r5.out rfl
    have fr2 := free_b (j := 2) r5.out
    have kr3 := cell_at (j := 3) r5.out rfl
    have fr3 := free_b (j := 3) r5.out
    have kr4 := cell_at (j := 4) r5.out rfl
    have fr4 := free_b (j := 4) r5.out
    go_wp2_with fail
    exact bodyPost_ret (v := dres R) (by rw [hv]; simp [results, Try.results52, go_sem, kr0, kr1, kr2, kr3, kr4]) rfl (ret_set5 b5 (by omega))
  · have E0 := hzm
    have kr0 := cell_at (j := 0) r4.out rfl
    have fr0 := free_b (j := 0) r4.out
    have kr1 := cell_at (j := 1) r4.out rfl
    have fr1 := free_b (j := 1) r4.out
    have kr2 := cell_at (j := 2) r4.out rfl
    have fr2 := free_b (j := 2) r4.out
    have kr3 := cell_at (j := 3) r4.out rfl
    have fr3 := free_b (j := 3) r4.out
    have kr4 := cell_at (j := 4) r4.out rfl
    have fr4 := free_b (j := 4) r4.out
    have E := Lib.hid (show R = none by rw [HR.out]; exact mulD_3 E0)
    go_wp2_with fail
    exact bodyPost_ret (v := dres R) (by rw [E.out]; simp [results, Try.results52, go_sem, dres, kr0, kr1, kr2, kr3, kr4]) rfl (ret_set5 b4 (by omega))
end Go.Proofs.Ytgjpicekdbemiac
