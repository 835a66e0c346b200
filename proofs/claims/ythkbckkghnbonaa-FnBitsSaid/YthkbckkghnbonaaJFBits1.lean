/- What the calls that this law reaches answer, part 1 of 15. -/
import Derived.WalkKit
import Derived.ProofKit
import Derived.OpenShut
import Derived.Carry
import Derived.Deep.Slices
import Derived.Deep.Fields
import Derived.ChangeSame
import Derived.Deep.Cut
import Derived.Deep.CutBlock
import Derived.Deep.DeepCutAuto
import Derived.Deep.LoopGhost
import Derived.StillTailTactics
import Derived.Deep.QuietTactic
import Derived.BigQuiet
import Derived.Deep.RegionHeld3
import Derived.Deep.RegionLaw
import Derived.Deep.RegionWith
import Derived.Lib.Hide
import Derived.Deep.DeepFit
import Derived.Deep.DeepMust
import Derived.WalkLawsBesides
import Derived.WalkSpells
import Derived.RegionTactic
import Derived.Deep.AppendLies
import Derived.Deep.Draws
import Derived.Maps.AppendAt
import Derived.Laws.OwnMore
import Derived.OwnWalk
import Derived.Outline
import Derived.Laws.Rows
import Derived.IntWalk
import Derived.Lib.SmallJoins
import Derived.Test.YthkbckkghnbonaaRows
import Derived.Test.YthkbckkghnbonaaProg
set_option maxRecDepth 100000
set_option maxHeartbeats 16000000
set_option linter.unusedVariables false
namespace Go.Proofs.Ythkbckkghnbonaa
open Go.ChangeShapes Go.WideShapes Go.RowKit Go.Deep

section
variable {H:Type} {enc:TypeId × Value→H} {P:Program}
theorem hD {p:Prop} (h:p):Hid p:=Lib.hid h
theorem zA {α:Type _} (l:List α) (i:Nat) (a:α):l.toArray.setIfInBounds i a=(l.set i a).toArray:=List.setIfInBounds_toArray ..
theorem zB {α:Type _} (x:α) (l:List α) (n:Nat) (a:α):(x :: l).set (n+1) a=x :: l.set n a:=rfl
theorem zC {α:Type _} (x:α) (l:List α) (a:α):(x :: l).set 0 a=a :: l:=rfl
theorem Zq5 {p:Prop} (h:p:=by simp):p:=h
theorem trodAll_stays {W W':World} {sp:Nat→Bool} (hl:laidOutB P=true):∀ {ts:List TypeId} {vs:List Value} {ds:List (DataW H)} {ps:List MemPlace},
  (∀ t∈ts,P.readableRec t=true∧t<P.types.size)→DataW.TrodAll enc P W 0 (fun _=>true) true ts vs ds ps →
  (∀ x∈ps,W.sameAt W' x)→(∀ x∈ps,sp x.block=true)→DataW.TrodAll enc P W' 0 sp true ts vs ds ps:=by
 intro ts
 induction ts with
 | nil =>
  intro vs ds ps _ h _ _
  obtain ⟨rfl,rfl,rfl⟩:=trodAll_nil h
  exact trodAll_mk0
 | cons t ts ih =>
  intro vs ds ps ht h hs hsp
  obtain ⟨v,vs',d,ds',p,q,rfl,rfl,rfl,h0,h1⟩:=trodAll_cons h
  have h2:=ht t Zq5
  refine trodAll_cons_mk ?_ (ih (fun t' h'=>ht t' (by simp [h'])) h1 (fun x hx=>hs x (by simp [hx])) (fun x hx=>hsp x (by simp [hx])))
  exact WideElems.Trod_stays hl h2.1 h2.2 h0 (fun x hx=>hs x (by simp [hx])) (fun x hx=>hsp x (by simp [hx]))

theorem post_of_below {f:Func} {s:ChangeSpec} {apart fresh handsOn again:Bool} {W W':World} {args:Array Value} {v:Value} {ds gs:List (DataW H)} {before pa pv:List MemPlace}
  (hW:DataW.Whole enc P f.params.toList s.vars apart W args.toList ds gs before)
  (hres:∀ (b:Nat) (sp:Nat→Bool) (hd:Bool),DataW.TrodAll enc P W' b sp hd f.resultTypes.toList (v.resultList f.resultTypes.size) (s.fn H (ds++gs)).results [])
  (hargs:∀ sp:Nat→Bool,(∀ p∈before,sp p.block=true)→DataW.TrodAll enc P W' 0 sp true f.params.toList args.toList (s.fn H (ds++gs)).args pa)
  (hvars:∀ sp:Nat→Bool,(∀ p∈before,sp p.block=true)→DataW.TrodVars enc P W' sp s.vars (s.fn H (ds++gs)).vars pv)
  (hps:before=pa++pv) (hb:Below W.heap.size W W')
  (hok:∀ (j:Nat) (t:TypeId) (r:Value),f.resultTypes[j]?=some t→(v.resultList f.resultTypes.size)[j]?=some r→Value.okWide P W' .any 0 t r) :
  s.post enc P f apart fresh handsOn again W args v W':=by
 have hlt:∀ p∈before,p.block<W.heap.size:=fun p hp=>hW.lt p hp
 have hold:∀ p∈before,(fun b=>decide (b<W.heap.size)) p.block=true:=fun p hp=>by simpa using hlt p hp
 refine ⟨ds,gs,before,[],pa,pv,hW,hres _ _ _,hargs _ hold,hvars _ hold,World.keptBut_mono (fun p hp=>⟨hp,?_⟩) (hb.frame (·∈before)),fun _=>?_⟩
 ·rw[hps,List.mem_append] at hp
  exact Or.inr hp
 ·obtain ⟨_,_,_,_,_,hz,hn⟩:=hW
  refine ⟨hok,_,_,([]++pa)++pv,⟨[]++pa,pv,trodAll_append (hargs _ (fun _ _=>rfl)) (hres _ _ _),hvars _ (fun _ _=>rfl),rfl,?_,?_⟩,?_⟩
  ·intro b off hp
   have hin:MemPlace.cell b off∈before:=by rw[hps];simpa using hp
   rw[hb.frozen (hlt _ hin)]
   exact hz b off hin
  ·intro ha
   have:=hn ha
   rw[hps] at this
   simpa using this
  ·intro p hp _
   rw[hps]
   simpa using hp
end

def RetRow (E size:Nat) (w:World) (n:Nat) (xs:List Value) (e:Ending) (w':World):Prop :=
 ∃ v,e=.returned v∧w'.ownsRow w.heap.size E size v n xs∧Below w.heap.size w w'∧w.heap.size≤w'.heap.size

theorem ownsRow_below {w w':World} {base E size n:Nat} {v:Value} {xs:List Value} (h:w.ownsRow base E size v n xs) (hb:Below w.heap.size w w'):w'.ownsRow base E size v n xs :=
 h.kept (row:=none) ⟨hb.os,hb.tape,hb.output,hb.size,fun k hk _=>hb.block k hk⟩ (by cases v.ownBlock <;> simp)
def Rd (w:World) (size:Nat) (A:Option Addr) (n:Nat) (xs:List Value):Prop :=
 xs.length=n*size∧(0<n→∃ b off,A=some ⟨b,off,none⟩∧b<w.heap.size∧∀ j u,xs[j]?=some u→w.cell? ⟨b,off+j,none⟩=some u)
theorem Rd.below {w w':World} {size n:Nat} {A:Option Addr} {xs:List Value} (h:Rd w size A n xs) (hb:Below w.heap.size w w'):Rd w' size A n xs :=
 ⟨h.1,fun hn=>by
  obtain ⟨b,off,e,hl,hc⟩:=h.2 hn
  exact ⟨b,off,e,Nat.lt_of_lt_of_le hl hb.size,fun j u hu=>(hb.cell (p:=⟨b,off+j,none⟩) hl).trans (hc j u hu)⟩⟩
theorem Rd.len {w:World} {size n:Nat} {A:Option Addr} {xs:List Value} (h:Rd w size A n xs):xs.length=n*size:=h.1
theorem Zq1 {p:Prop} (h:p:=by omega):p:=h
theorem rd_of_own {w:World} {base E size n:Nat} {v:Value} {xs:List Value} (h:w.ownsRow base E size v n xs):∃ A c,v=.slice A n c∧n≤c∧c≤maxLen∧Rd w size A n xs:=by
 rcases h.2 with ⟨rfl,rfl⟩|⟨g,cap,cur,rfl,hb,hh,hc,hm,_,_⟩
 ·exact ⟨none,0,rfl,Nat.le_refl _,Nat.zero_le _,h.1,fun h=>absurd h Zq1⟩
 ·refine ⟨_,cap,rfl,hc,hm,h.1,fun _=>⟨g,0,rfl,(h.lt g rfl).2,fun j u hu=>?_⟩⟩
  have:=h.cells (g:=g) rfl j u hu
  rwa [Go.WideShapes.add_plain] at this

theorem boxcells4 {w w':World} {b:Nat} {x0 x1 x2 x3:Value} {t:TypeId} (lay:Below w'.heap.size w' w) (h:w'.heap[b]?=some (.cells #[x0,x1,x2,x3] t (0,0))) :
  w.cell? ⟨b,0,none⟩=some x0∧w.cell? ⟨b,1,none⟩=some x1∧w.cell? ⟨b,2,none⟩=some x2∧w.cell? ⟨b,3,none⟩=some x3:=by
 have h':w.heap[b]?=some (.cells #[x0,x1,x2,x3] t (0,0)):=(lay.block b (lt_of_block h)).trans h
 exact ⟨by simp [World.cell?,h'],by simp [World.cell?,h'],by simp [World.cell?,h'],by simp [World.cell?,h']⟩
theorem boxcells8 {w w':World} {b:Nat} {x0 x1 x2 x3 x4 x5 x6 x7:Value} {t:TypeId} (lay:Below w'.heap.size w' w) (h:w'.heap[b]?=some (.cells #[x0,x1,x2,x3,x4,x5,x6,x7] t (0,0))) :
  w.cell? ⟨b,0,none⟩=some x0∧w.cell? ⟨b,1,none⟩=some x1∧w.cell? ⟨b,2,none⟩=some x2∧w.cell? ⟨b,3,none⟩=some x3∧w.cell? ⟨b,4,none⟩=some x4∧w.cell? ⟨b,5,none⟩=some x5∧w.cell? ⟨b,6,none⟩=some x6∧w.cell? ⟨b,7,none⟩=some x7:=by
 have h':w.heap[b]?=some (.cells #[x0,x1,x2,x3,x4,x5,x6,x7] t (0,0)):=(lay.block b (lt_of_block h)).trans h
 exact ⟨by simp [World.cell?,h'],by simp [World.cell?,h'],by simp [World.cell?,h'],by simp [World.cell?,h'],by simp [World.cell?,h'],by simp [World.cell?,h'],by simp [World.cell?,h'],by simp [World.cell?,h']⟩
theorem boxed1_0 (w:World) (o:Obj):(w.alloc o).heap[w.heap.size]?=some o:=heap_alloc_new w o
theorem boxed2_0 (w:World) (o o':Obj):((w.alloc o).alloc o').heap[w.heap.size]?=some o:=(Below.heap_alloc _ _ _ Zq5).trans (heap_alloc_new w o)
theorem boxed2_1 (w:World) (o o':Obj):((w.alloc o).alloc o').heap[w.heap.size+1]?=some o':=by
 have h:=heap_alloc_new (w.alloc o) o'
 simpa using h
theorem Zq6 {p:Prop} (h:p:=by simp;omega):p:=h
theorem boxed3_0 (w:World) (o o' o'':Obj):(((w.alloc o).alloc o').alloc o'').heap[w.heap.size]?=some o:=(Below.heap_alloc _ _ _ Zq6).trans (boxed2_0 w o o')
theorem boxed3_1 (w:World) (o o' o'':Obj):(((w.alloc o).alloc o').alloc o'').heap[w.heap.size+1]?=some o':=(Below.heap_alloc _ _ _ Zq5).trans (boxed2_1 w o o')
theorem boxed3_2 (w:World) (o o' o'':Obj):(((w.alloc o).alloc o').alloc o'').heap[w.heap.size+2]?=some o'':=by
 have h:=heap_alloc_new ((w.alloc o).alloc o') o''
 simpa using h
theorem cell_at {w:World} {b j:Nat} {cs:Array Value} {t:TypeId} {u:Value} (h:w.heap[b]?=some (.cells cs t (0,0))) (hj:cs[j]?=some u):w.cell? ⟨b,j,none⟩=some u:=by simp [World.cell?,h,hj]
theorem cells_row {w:World} {b:Nat} {cs:Array Value} {t:TypeId} (h:w.heap[b]?=some (.cells cs t (0,0))) {xs:List Value} (ys:List Value) (hp:cs.toList=xs++ys) :
  ∀ j u,xs[j]?=some u→w.cell? ((⟨b,0,none⟩:Addr).add j)=some u:=by
 intro j u hj
 have hc:cs[j]?=some u:=by
  rw[←Array.getElem?_toList,hp,List.getElem?_append_left (List.getElem?_eq_some_iff.1 hj).1]
  exact hj
 rw[Go.WideShapes.add_plain]
 simp [World.cell?,h,hc]
theorem quiet_left {P:Program} {f:FuncId} {args:Array Value} {w:World} {n:Nat} {v:Value}
  (h:Calls P f args (w.drewN n) fun e w'=>e=.returned v∧w.drewN n=w'):Calls P f args (w.drewN n) fun e w''=>e=.returned v∧∃ m,w''=w.drewN m :=
 h.mono fun _ _ ⟨he,hm⟩=>⟨he,n,hm.symm⟩
theorem below_drewN {B:Nat} {a w:World} (h:Below B a w) (n:Nat):Below B a (w.drewN n):=⟨h.os,h.tape,h.output,h.size,h.block⟩
theorem Rd.drew {w:World} {size n:Nat} {A:Option Addr} {xs:List Value} (h:Rd w size A n xs):Rd w.drew size A n xs:=h
theorem Rd.drewN {w:World} {size n:Nat} {A:Option Addr} {xs:List Value} (h:Rd w size A n xs) (k:Nat):Rd (w.drewN k) size A n xs:=h
theorem Rd.take {w:World} {n:Nat} {A:Option Addr} {xs:List Value} (h:Rd w 1 A n xs) {t:Nat} (ht:t≤n):Rd w 1 A t (xs.take t) :=
 ⟨by rw[List.length_take,h.1];omega,fun h0=>by
  obtain ⟨b,off,e,hl,hc⟩:=h.2 Zq1
  exact ⟨b,off,e,hl,fun j u hu=>hc j u (by
   have hj:=(List.getElem?_eq_some_iff.1 hu).1
   rw[List.length_take] at hj
   rw[←hu,List.getElem?_take,if_pos Zq1])⟩⟩
theorem grown_below {w w':World} {B:Nat} {row:Option Nat} (h:w.grownBy w' row) (hB:B≤w.heap.size) (hr:∀ k,row=some k→B≤k):Below B w w':=(Below.refl _ _).grown h hB hr

structure Gt where
 k:Int
 a:Int
 b:Int
 c:Int
def gcells (g:Gt):List Value:=[.int .i64 g.k,.int .i64 g.a,.int .i64 g.b,.int .i64 g.c]
theorem flat_length {α:Type} (f:α→List Value) (k:Nat) (hf:∀ x,(f x).length=k):∀ l:List α,(l.flatMap f).length=l.length*k:=by
 intro l
 induction l with
 | nil=>simp
 | cons x l ih=>simp only[List.flatMap_cons,List.length_append,hf,ih,List.length_cons];rw[Nat.add_mul];omega
end Go.Proofs.Ythkbckkghnbonaa
namespace Go.Proofs.Ythkbckkghnbonaa
theorem own:ownKnob Try.prog.godebug=none:=by kernel_rfl
theorem laidOut:laidOutB Try.prog=true:=by kernel_rfl
end Go.Proofs.Ythkbckkghnbonaa
namespace Go.Proofs.Ythkbckkghnbonaa
open Go.RowKit

def inB (n lo hi:Int):Bool:=decide (lo≤n∧n≤hi)
theorem inB_t {n lo hi:Int} (h1:lo≤n) (h2:n≤hi):inB n lo hi=true:=by simp [inB,h1,h2]
theorem inB_f {n lo hi:Int} (h:n<lo∨hi<n):inB n lo hi=false:=by simp [inB];omega
theorem inB_iff {n lo hi:Int}:inB n lo hi=true ↔ lo≤n∧n≤hi:=by simp [inB]
theorem l1In_any (n lo hi:Int) (w:World):Calls Try.prog 32 #[.int .i64 n,.int .i64 lo,.int .i64 hi] w fun e w'=>e=.returned (.bool (inB n lo hi))∧w=w':=by
 by_cases h1:lo≤n
 ·by_cases h2:n≤hi
  ·rw[inB_t h1 h2]
   go_enter Try.func32,Try.ntmps32
   go_wp2
   go_ret
   exact ⟨rfl,rfl⟩
  ·rw[inB_f (Or.inr Zq1)]
   have h3:decide (n≤hi)=false:=by simpa using h2
   clear h2
   go_enter Try.func32,Try.ntmps32
   go_wp2
   go_ret
   exact ⟨rfl,rfl⟩
 ·rw[inB_f (Or.inl Zq1)]
  have h3:decide (lo≤n)=false:=by simpa using h1
  clear h1
  go_enter Try.func32,Try.ntmps32
  go_wp2
  go_ret
  exact ⟨rfl,rfl⟩
theorem Zq0 {p:Prop} (h:p:=by repeat (first|exact Below.refl _ _|assumption|(refine Below.trans ?_ (Below.mono (by assumption) (by first|omega|(simp;done)|(simp;omega))))|(with_reducible refine Below.drew ?_)|(with_reducible refine Below.alloc ?_ (by first|omega|(simp;done)|(simp;omega)) _)|(with_reducible refine Below.setCell ?_ (by first|omega|(simp;done)|(simp;omega)) _))):p:=h
theorem Zq2 {p:Prop} (h:p:=by first|omega|(simp;done)|(simp;omega)):p:=h
theorem l14One_any (k a:Int) (w:World):Calls Try.prog 76 #[.int .i64 k,.int .i64 a] w fun e w' =>
  e=.returned (.agg #[.int .i64 k,.int .i64 a,.int .i64 0,.int .i64 0])∧Below w.heap.size w w'∧w.heap.size≤w'.heap.size:=by
 go_enter Try.func76,Try.ntmps76
 go_wp2
 exact bodyPost_ret (v:=.agg #[.int .i64 k,.int .i64 a,.int .i64 0,.int .i64 0]) (by simp [results,Try.results76,go_sem]) rfl ⟨rfl,Zq0,Zq2⟩
theorem l14Cx_any (a b:Int) (w:World):Calls Try.prog 75 #[.int .i64 a,.int .i64 b] w fun e w' =>
  e=.returned (.agg #[.int .i64 9,.int .i64 a,.int .i64 b,.int .i64 0])∧Below w.heap.size w w'∧w.heap.size≤w'.heap.size:=by
 go_enter Try.func75,Try.ntmps75
 go_wp2
 exact bodyPost_ret (v:=.agg #[.int .i64 9,.int .i64 a,.int .i64 b,.int .i64 0]) (by simp [results,Try.results75,go_sem]) rfl ⟨rfl,Zq0,Zq2⟩
def ar (k:Int):Nat:=if inB k 1 8 then 1 else if inB k 9 11 then 2 else if k=12 then 3 else 0
theorem ar_le (k:Int):ar k≤3:=by
 unfold ar
 split
 ·omega
 ·split
  ·omega
  ·split <;> omega
theorem Arity_spec (k:Int) (w:World):Calls Try.prog 58 #[.int .i64 k] w fun e w'=>e=.returned (.int .i64 (ar k))∧w=w':=by
 cases h1:inB k 1 8
 ·cases h2:inB k 9 11
  ·by_cases h3:k=12
   ·subst h3
    go_enter Try.func58,Try.ntmps58
    go_wp2_with (go_at_call 32;refine(l1In_any _ _ _ _).mono ?_;rintro e w' ⟨rfl,rfl⟩)
    go_ret
    exact ⟨rfl,rfl⟩
   ·have e:ar k=0:=by simp [ar,h1,h2,h3]
    rw[e]
    have h4:(k==12)=false:=beq_eq_false_iff_ne.2 h3
    clear h3 e
    go_enter Try.func58,Try.ntmps58
    go_wp2_with (go_at_call 32;refine(l1In_any _ _ _ _).mono ?_;rintro e w' ⟨rfl,rfl⟩)
    go_ret
    exact ⟨rfl,rfl⟩
  ·have e:ar k=2:=by simp [ar,h1,h2]
   rw[e]
   clear e
   go_enter Try.func58,Try.ntmps58
   go_wp2_with (go_at_call 32;refine(l1In_any _ _ _ _).mono ?_;rintro e w' ⟨rfl,rfl⟩)
   go_ret
   exact ⟨rfl,rfl⟩
 ·have e:ar k=1:=by simp [ar,h1]
  rw[e]
  clear e
  go_enter Try.func58,Try.ntmps58
  go_wp2_with (go_at_call 32;refine(l1In_any _ _ _ _).mono ?_;rintro e w' ⟨rfl,rfl⟩)
  go_ret
  exact ⟨rfl,rfl⟩

def qsOf (g:Gt):List Int:=[g.a,g.b,g.c]
def vstep (m:Nat) (n:Int) (qs:List Int) (t:Nat):Bool:=if m≤t then qs.getD t 0==0 else inB (qs.getD t 0) 0 (n - 1)&&!(qs.take t).contains (qs.getD t 0)
def vupto (m:Nat) (n:Int) (qs:List Int):Nat→Bool
 | 0=>true
 | t+1=>vupto m n qs t&&vstep m n qs t
def validG (g:Gt) (n:Int):Bool:=(inB n 1 4&&decide (ar g.k≠0))&&vupto (ar g.k) n (qsOf g) 3
theorem vupto_f {m:Nat} {n:Int} {qs:List Int} {t:Nat} (h:vstep m n qs t=false) (h3:t<3):vupto m n qs 3=false:=by
 match t,h3 with
 | 0,_=>simp [vupto,h]
 | 1,_=>simp [vupto,h]
 | 2,_=>simp [vupto,h]
 | _+3,h=>omega
theorem validG_n {g:Gt} {n:Int} (h:inB n 1 4=false):validG g n=false:=by simp [validG,h]
theorem validG_k {g:Gt} {n:Int} (h:ar g.k=0):validG g n=false:=by simp [validG,h]
theorem validG_f {g:Gt} {n:Int} {t:Nat} (h:vstep (ar g.k) n (qsOf g) t=false) (h3:t<3):validG g n=false:=by simp [validG,vupto_f h h3]
theorem validG_t {g:Gt} {n:Int} (h:inB n 1 4=true) (hk:ar g.k≠0) (h3:vupto (ar g.k) n (qsOf g) 3=true):validG g n=true:=by simp [validG,h,hk,h3]
theorem vstep_hi_t {m:Nat} {n:Int} {qs:List Int} {t:Nat} (h:m≤t) (hq:(qs.getD t 0==0)=true):vstep m n qs t=true:=by simpa [vstep,h] using hq
theorem vstep_hi_f {m:Nat} {n:Int} {qs:List Int} {t:Nat} (h:m≤t) (hq:(qs.getD t 0==0)=false):vstep m n qs t=false:=by simpa [vstep,h] using hq
theorem vstep_in_f {m:Nat} {n:Int} {qs:List Int} {t:Nat} (h:t<m) (hq:inB (qs.getD t 0) 0 (n - 1)=false):vstep m n qs t=false:=by rw[vstep,if_neg Zq1,hq];rfl
theorem vstep_seen_f {m:Nat} {n:Int} {qs:List Int} {t:Nat} (h:t<m) (hq:(qs.take t).contains (qs.getD t 0)=true):vstep m n qs t=false:=by rw[vstep,if_neg Zq1,hq];simp
theorem vstep_lo_t {m:Nat} {n:Int} {qs:List Int} {t:Nat} (h:t<m) (h1:inB (qs.getD t 0) 0 (n - 1)=true) (h2:(qs.take t).contains (qs.getD t 0)=false):vstep m n qs t=true:=by rw[vstep,if_neg Zq1,h1,h2];rfl
theorem take_snoc {qs:List Int} {t:Nat} (h:t<qs.length):qs.take t++[qs.getD t 0]=qs.take (t+1):=by
 rw[List.take_succ_eq_append_getElem h,List.getD_eq_getElem?_getD,List.getElem?_eq_getElem h];rfl

theorem ints_at (xs:List Int) (j:Nat) (h:j<xs.length):(xs.map (Value.int .i64))[j]?=some (.int .i64 (xs.getD j 0)):=by
 simp [List.getD_eq_getElem?_getD,h]
theorem contains_snoc_f {xs:List Int} {x:Int} {t:Nat} (h:t<xs.length) (h1:(xs.take t).contains x=false) (h2:(xs.getD t 0==x)=false):(xs.take (t+1)).contains x=false:=by
 rw[←take_snoc h]
 have h2':¬ x=xs.getD t 0:=fun e=>by rw[e] at h2;simp at h2
 rw[List.contains_eq_mem] at h1 ⊢
 simp only[decide_eq_false_iff_not,List.mem_append,List.mem_singleton,not_or] at h1 ⊢
 exact ⟨h1,h2'⟩
theorem contains_at {xs:List Int} {x:Int} {t:Nat} (h:t<xs.length) (h2:(xs.getD t 0==x)=true):xs.contains x=true:=by
 have e:xs.getD t 0=x:=by simpa using h2
 rw[List.contains_eq_mem,decide_eq_true_iff,←e,List.getD_eq_getElem?_getD,List.getElem?_eq_getElem h]
 exact List.getElem_mem h
def hasI (xs:List Int) (x:Int):Bool:=xs.contains x
theorem l1HasInt_any (A:Option Addr) (n c:Nat) (xs:List Int) (x:Int) (w:World) (h:Rd w 1 A n (xs.map (Value.int .i64))) (hl:xs.length=n) (hn:n≤1099511627776) :
  Calls Try.prog 70 #[.slice A n c,.int .i64 x] w fun e w'=>e=.returned (.bool (hasI xs x))∧w=w':=by
 have H:=hD h
 have HL:=hD hl
 clear h hl
 go_enter Try.func70,Try.ntmps70
 go_wp2
 go_loop [5] (fun i=>∃ t:Nat,t≤n∧i=.int .i64 t∧(xs.take t).contains x=false) (fun i=>n - (intOf i).toNat)
 case atStart=>exact ⟨0,Nat.zero_le _,rfl,by simp⟩
 case round =>
  obtain ⟨t,ht,rfl,hno⟩:=hrel
  have HN:=hD hno
  clear hno
  by_cases hlt:t<n
  ·obtain ⟨b,off,rfl,_,hc⟩:=H.out.2 Zq1
   have q0:=hc t _ (ints_at xs t (by rw[HL.out];exact hlt))
   clear hc
   obtain ⟨y,hy⟩:∃ y,y=xs.getD t 0:=⟨_,rfl⟩
   rw[←hy] at q0
   have HY:=hD hy
   clear hy
   cases he:(y==x)
   ·go_wp2
    go_round
    case rel=>exact ⟨t+1,by omega,by go_num,contains_snoc_f (by rw[HL.out];exact hlt) HN.out (by rw[←HY.out];exact he)⟩
    case measure=>simp [intOf];omega
   ·have HF:Hid (hasI xs x=true):=hD (contains_at (by rw[HL.out];exact hlt) (by rw[←HY.out];exact he))
    go_wp2
    go_ret
    exact ⟨by rw[HF.out];rfl,rfl⟩
  ·obtain rfl:t=n:=by omega
   have HF:Hid (hasI xs x=false):=by
    have h:=HN.out
    rw[List.take_of_length_le (by rw[HL.out];exact Nat.le_refl _)] at h
    exact h
   go_wp2
   go_ret
   exact ⟨by rw[HF.out];rfl,rfl⟩
theorem info_int:(Try.prog.info? 3).map (fun i=>(i.zero,i.size,i.bytes))=some (some (.int .i64 0),1,8):=by kernel_rfl
theorem Zq4 {p:Prop} (h:p:=by decide):p:=h
theorem GateQubits_spec (k a b c:Int) (w:World):Calls Try.prog 69 #[.agg #[.int .i64 k,.int .i64 a,.int .i64 b,.int .i64 c]] w
  (RetRow 3 1 w (ar k) (([a,b,c].take (ar k)).map (Value.int .i64))):=by
 have har:=ar_le k
 obtain ⟨m,hm⟩:∃ m,m=ar k:=⟨_,rfl⟩
 have HM:=hD hm
 rw[←hm] at har ⊢
 clear hm
 obtain ⟨i0,hi,hz0,hz1,hz2⟩:=info_parts info_int
 have hm4:m=0∨m=1∨m=2∨m=3:=by omega
 clear har
 rcases hm4 with rfl|rfl|rfl|rfl
 ·go_enter Try.func69,Try.ntmps69
  go_wp2_with fail
  refine(Arity_spec _ _).mono ?_
  rintro e w' ⟨rfl,rfl⟩
  rw[←HM.out]
  obtain ⟨w0,hw0⟩:∃ w0,w0=((w.alloc (.cells #[.int .i64 k,.int .i64 a,.int .i64 b,.int .i64 c] 58)).alloc (.cells #[.int .i64 a,.int .i64 b,.int .i64 c] 3)).alloc (.cells #[] 3):=⟨_,rfl⟩
  rw[←hw0]
  have X1:Hid (w0.heap[w.heap.size+1]?=some (.cells #[.int .i64 a,.int .i64 b,.int .i64 c] 3 (0,0))):=by rw[hw0];exact boxed3_1 _ _ _ _
  have hown:w0.ownsRow w.heap.size 3 1 (.slice (some ⟨w.heap.size+2,0,none⟩) 0 0) 0 []:=⟨rfl,.inr ⟨_,0,#[],rfl,by omega,by rw[hw0];exact boxed3_2 _ _ _ _,by decide,by decide,rfl,rfl⟩⟩
  have b0:Below w.heap.size w w0:=by rw[hw0];exact Zq0
  have s0:w.heap.size+3=w0.heap.size:=by rw[hw0];simp
  have S0:=hD s0
  clear s0 hw0
  go_wp2_with (at_builtin;refine wpList_append_own _ rfl _ _ 64 rfl w.heap.size 3 i0 _ 1 8 Try.underlying64 hi hz0 hz1 hz2 rfl Zq4 _ _ _ rfl hown ⟨w.heap.size+1,0,none⟩ 0 3 [] rfl rfl ?c1 ?c2 ?c3 ?c4 ?c5 ?_)
  case c1=>exact cells_row X1.out [.int .i64 a,.int .i64 b,.int .i64 c] rfl
  case c2=>exact fun u hu=>List.all_eq_true.1 (by rfl) u hu
  case c3=>decide
  case c4=>decide
  case c5=>have:=S0.out;omega
  intro v' w3 hown' hgrow _
  clear hown
  go_wp2
  go_ret
  exact ⟨v',rfl,hown',b0.grown hgrow (by have:=S0.out;omega) (by intro q hq;simp [Value.ownBlock] at hq;omega),by have:=hgrow.size;have:=S0.out;omega⟩
 ·go_enter Try.func69,Try.ntmps69
  go_wp2_with fail
  refine(Arity_spec _ _).mono ?_
  rintro e w' ⟨rfl,rfl⟩
  rw[←HM.out]
  obtain ⟨w0,hw0⟩:∃ w0,w0=((w.alloc (.cells #[.int .i64 k,.int .i64 a,.int .i64 b,.int .i64 c] 58)).alloc (.cells #[.int .i64 a,.int .i64 b,.int .i64 c] 3)).alloc (.cells #[] 3):=⟨_,rfl⟩
  rw[←hw0]
  have X1:Hid (w0.heap[w.heap.size+1]?=some (.cells #[.int .i64 a,.int .i64 b,.int .i64 c] 3 (0,0))):=by rw[hw0];exact boxed3_1 _ _ _ _
  have hown:w0.ownsRow w.heap.size 3 1 (.slice (some ⟨w.heap.size+2,0,none⟩) 0 0) 0 []:=⟨rfl,.inr ⟨_,0,#[],rfl,by omega,by rw[hw0];exact boxed3_2 _ _ _ _,by decide,by decide,rfl,rfl⟩⟩
  have b0:Below w.heap.size w w0:=by rw[hw0];exact Zq0
  have s0:w.heap.size+3=w0.heap.size:=by rw[hw0];simp
  have S0:=hD s0
  clear s0 hw0
  go_wp2_with (at_builtin;refine wpList_append_own _ rfl _ _ 64 rfl w.heap.size 3 i0 _ 1 8 Try.underlying64 hi hz0 hz1 hz2 rfl Zq4 _ _ _ rfl hown ⟨w.heap.size+1,0,none⟩ 1 3 [.int .i64 a] rfl rfl ?c1 ?c2 ?c3 ?c4 ?c5 ?_)
  case c1=>exact cells_row X1.out [.int .i64 b,.int .i64 c] rfl
  case c2=>exact fun u hu=>List.all_eq_true.1 (by rfl) u hu
  case c3=>decide
  case c4=>decide
  case c5=>have:=S0.out;omega
  intro v' w3 hown' hgrow _
  clear hown
  go_wp2
  go_ret
  exact ⟨v',rfl,hown',b0.grown hgrow (by have:=S0.out;omega) (by intro q hq;simp [Value.ownBlock] at hq;omega),by have:=hgrow.size;have:=S0.out;omega⟩
 ·go_enter Try.func69,Try.ntmps69
  go_wp2_with fail
  refine(Arity_spec _ _).mono ?_
  rintro e w' ⟨rfl,rfl⟩
  rw[←HM.out]
  obtain ⟨w0,hw0⟩:∃ w0,w0=((w.alloc (.cells #[.int .i64 k,.int .i64 a,.int .i64 b,.int .i64 c] 58)).alloc (.cells #[.int .i64 a,.int .i64 b,.int .i64 c] 3)).alloc (.cells #[] 3):=⟨_,rfl⟩
  rw[←hw0]
  have X1:Hid (w0.heap[w.heap.size+1]?=some (.cells #[.int .i64 a,.int .i64 b,.int .i64 c] 3 (0,0))):=by rw[hw0];exact boxed3_1 _ _ _ _
  have hown:w0.ownsRow w.heap.size 3 1 (.slice (some ⟨w.heap.size+2,0,none⟩) 0 0) 0 []:=⟨rfl,.inr ⟨_,0,#[],rfl,by omega,by rw[hw0];exact boxed3_2 _ _ _ _,by decide,by decide,rfl,rfl⟩⟩
  have b0:Below w.heap.size w w0:=by rw[hw0];exact Zq0
  have s0:w.heap.size+3=w0.heap.size:=by rw[hw0];simp
  have S0:=hD s0
  clear s0 hw0
  go_wp2_with (at_builtin;refine wpList_append_own _ rfl _ _ 64 rfl w.heap.size 3 i0 _ 1 8 Try.underlying64 hi hz0 hz1 hz2 rfl Zq4 _ _ _ rfl hown ⟨w.heap.size+1,0,none⟩ 2 3 [.int .i64 a,.int .i64 b] rfl rfl ?c1 ?c2 ?c3 ?c4 ?c5 ?_)
  case c1=>exact cells_row X1.out [.int .i64 c] rfl
  case c2=>exact fun u hu=>List.all_eq_true.1 (by rfl) u hu
  case c3=>decide
  case c4=>decide
  case c5=>have:=S0.out;omega
  intro v' w3 hown' hgrow _
  clear hown
  go_wp2
  go_ret
  exact ⟨v',rfl,hown',b0.grown hgrow (by have:=S0.out;omega) (by intro q hq;simp [Value.ownBlock] at hq;omega),by have:=hgrow.size;have:=S0.out;omega⟩
 ·go_enter Try.func69,Try.ntmps69
  go_wp2_with fail
  refine(Arity_spec _ _).mono ?_
  rintro e w' ⟨rfl,rfl⟩
  rw[←HM.out]
  obtain ⟨w0,hw0⟩:∃ w0,w0=((w.alloc (.cells #[.int .i64 k,.int .i64 a,.int .i64 b,.int .i64 c] 58)).alloc (.cells #[.int .i64 a,.int .i64 b,.int .i64 c] 3)).alloc (.cells #[] 3):=⟨_,rfl⟩
  rw[←hw0]
  have X1:Hid (w0.heap[w.heap.size+1]?=some (.cells #[.int .i64 a,.int .i64 b,.int .i64 c] 3 (0,0))):=by rw[hw0];exact boxed3_1 _ _ _ _
  have hown:w0.ownsRow w.heap.size 3 1 (.slice (some ⟨w.heap.size+2,0,none⟩) 0 0) 0 []:=⟨rfl,.inr ⟨_,0,#[],rfl,by omega,by rw[hw0];exact boxed3_2 _ _ _ _,by decide,by decide,rfl,rfl⟩⟩
  have b0:Below w.heap.size w w0:=by rw[hw0];exact Zq0
  have s0:w.heap.size+3=w0.heap.size:=by rw[hw0];simp
  have S0:=hD s0
  clear s0 hw0
  go_wp2_with (at_builtin;refine wpList_append_own _ rfl _ _ 64 rfl w.heap.size 3 i0 _ 1 8 Try.underlying64 hi hz0 hz1 hz2 rfl Zq4 _ _ _ rfl hown ⟨w.heap.size+1,0,none⟩ 3 3 [.int .i64 a,.int .i64 b,.int .i64 c] rfl rfl ?c1 ?c2 ?c3 ?c4 ?c5 ?_)
  case c1=>exact cells_row X1.out [] rfl
  case c2=>exact fun u hu=>List.all_eq_true.1 (by rfl) u hu
  case c3=>decide
  case c4=>decide
  case c5=>have:=S0.out;omega
  intro v' w3 hown' hgrow _
  clear hown
  go_wp2
  go_ret
  exact ⟨v',rfl,hown',b0.grown hgrow (by have:=S0.out;omega) (by intro q hq;simp [Value.ownBlock] at hq;omega),by have:=hgrow.size;have:=S0.out;omega⟩
theorem IsValidGate_spec_in (k a b c n:Int) (w:World) (hn:inB n 1 4=true):Calls Try.prog 54 #[.agg #[.int .i64 k,.int .i64 a,.int .i64 b,.int .i64 c],.int .i64 n] w fun e w' =>
  e=.returned (.bool (validG ⟨k,a,b,c⟩ n))∧Below w.heap.size w w'∧w.heap.size≤w'.heap.size:=by
 have har:=ar_le k
 have hnn:=inB_iff.1 hn
 go_enter Try.func54,Try.ntmps54
 go_wp2_with fail
 obtain ⟨w0,hw0⟩:∃ w0,w0=w.alloc (.cells #[.int .i64 k,.int .i64 a,.int .i64 b,.int .i64 c] 58):=⟨_,rfl⟩
 rw[←hw0]
 have X0:Hid (w0.heap[w.heap.size]?=some (.cells #[.int .i64 k,.int .i64 a,.int .i64 b,.int .i64 c] 58 (0,0))):=by rw[hw0];exact boxed1_0 _ _
 have b0:Below w.heap.size w w0:=by rw[hw0];exact Zq0
 have s0:w.heap.size+1=w0.heap.size:=by rw[hw0];simp
 have S0:=hD s0
 clear hw0 s0
 refine(GateQubits_spec _ _ _ _ _).mono ?_
 rintro e w1 ⟨v1,rfl,own1,b1,s1⟩
 obtain ⟨A1,c1,rfl,hc1,hc1m,r1⟩:=rd_of_own own1
 obtain ⟨p0,p1,p2,p3⟩:=boxcells4 (lay:=b1) X0.out
 go_wp2_with fail
 clear p0 p1 p2 p3
 obtain ⟨w2,hw2⟩:∃ w2,w2=w1.alloc (.cells #[.int .i64 a,.int .i64 b,.int .i64 c] 3):=⟨_,rfl⟩
 rw[←hw2]
 have X2:Hid (w2.heap[w1.heap.size]?=some (.cells #[.int .i64 a,.int .i64 b,.int .i64 c] 3 (0,0))):=by rw[hw2];exact boxed1_0 _ _
 have b2:Below w1.heap.size w1 w2:=by rw[hw2];exact Zq0
 have s2:w1.heap.size+1=w2.heap.size:=by rw[hw2];simp
 have S2:=hD s2
 have R1:=hD (r1.below b2)
 have HC:=hD hc1m
 clear hw2 s2 r1 own1
 go_loopw [7] (fun i wr=>∃ t:Nat,t≤3∧i=.int .i64 t∧vupto (ar k) n [a,b,c] t=true∧Below w2.heap.size w2 wr) (fun i _=>3 - (intOf i).toNat)
 case atStart=>exact ⟨0,by omega,rfl,rfl,Below.refl _ _⟩
 case round =>
  obtain ⟨t,ht,rfl,hv,hbel⟩:=hrel
  have HV:=hD hv
  clear hv
  by_cases hlt:t<3
  ·obtain ⟨q,hq⟩:∃ q,q=[a,b,c].getD t 0:=⟨_,rfl⟩
   have q0:wr.cell? ⟨w1.heap.size,t,none⟩=some (.int .i64 q):=(hbel.cell (by have:=S2.out;simp;omega)).trans (cell_at X2.out (by
    rw[hq]
    match t,hlt with
    | 0,_=>rfl
    | 1,_=>rfl
    | 2,_=>rfl
    | _+3,h=>omega))
   have HQ:=hD hq
   clear hq
   have hlt':(t:Int)<3:=by omega
   by_cases hmt:ar k≤t
   ·have d1:decide (ar k≤t)=true:=by simpa using hmt
    have d2:decide (t<ar k)=false:=by simp;omega
    cases hz:(q==0)
    ·have hz':(q != 0)=true:=by rw[bne,hz];rfl
     have HF:=hD (validG_f (g:=⟨k,a,b,c⟩) (n:=n) (t:=t) (vstep_hi_f hmt (by rw[←hz,HQ.out];rfl)) hlt)
     go_wp2_with fail
     go_quiet (fail)
     go_wp2_with fail
     go_ret
     exact ⟨by rw[HF.out];rfl,((b0.trans (b1.mono (by have:=S0.out;omega))).trans (b2.mono (by have:=S0.out;omega))).trans (below_drewN (hbel.mono (by have:=S0.out;have:=S2.out;omega)) _),by have:=hbel.size;have:=S0.out;have:=S2.out;simp;omega⟩
    ·have hz':(q != 0)=false:=by rw[bne,hz];rfl
     go_wp2_with fail
     go_quiet (fail)
     go_wp2_with fail
     go_roundw
     case rel=>exact ⟨t+1,by omega,by go_num,by simp [vupto,HV.out];exact vstep_hi_t hmt (by rw[←hz,HQ.out]),below_drewN hbel _⟩
     case measure=>simp [intOf];omega
   ·have hmt':t<ar k:=by omega
    have d1:decide (ar k≤t)=false:=by simp;omega
    have d2:decide (t<ar k)=true:=by simp;omega
    obtain ⟨b',off',rfl,hl',_⟩:=R1.out.2 Zq1
    have RT:Hid (Rd wr 1 (some ⟨b',off',none⟩) t (([a,b,c].take t).map (Value.int .i64))):=by
     have h:=(R1.out.below hbel).take (t:=t) Zq1
     rw[←List.map_take,List.take_take,show min t (ar k)=t from by omega] at h
     exact h
    have HL:Hid (([a,b,c].take t).length=t):=by
     show([a,b,c].take t).length=t
     rw[List.length_take];simp;omega
    have tc:t≤c1:=by omega
    cases h1:inB q 0 (n - 1)
    ·have HF:=hD (validG_f (g:=⟨k,a,b,c⟩) (n:=n) (t:=t) (vstep_in_f hmt' (by rw[←h1,HQ.out];rfl)) hlt)
     clear hmt
     go_wp2_with fail
     go_quiet (first|(go_at_call 32;exact quiet_left (l1In_any _ _ _ _))|(go_at_call 70;exact quiet_left (l1HasInt_any _ _ _ ([a,b,c].take t) _ _ (RT.out.drewN _) HL.out Zq1)))
     go_wp2_with fail
     go_ret
     exact ⟨by rw[HF.out];rfl,((b0.trans (b1.mono (by have:=S0.out;omega))).trans (b2.mono (by have:=S0.out;omega))).trans (below_drewN (hbel.mono (by have:=S0.out;have:=S2.out;omega)) _),by have:=hbel.size;have:=S0.out;have:=S2.out;simp;omega⟩
    ·cases h2:hasI ([a,b,c].take t) q
     ·have HV2:=hD (vstep_lo_t (n:=n) (qs:=[a,b,c]) hmt' (by rw[←h1,HQ.out]) (by rw[←h2,HQ.out];rfl))
      clear hmt
      go_wp2_with fail
      go_quiet (first|(go_at_call 32;exact quiet_left (l1In_any _ _ _ _))|(go_at_call 70;exact quiet_left (l1HasInt_any _ _ _ ([a,b,c].take t) _ _ (RT.out.drewN _) HL.out Zq1)))
      go_wp2_with fail
      go_roundw
      case rel=>exact ⟨t+1,by omega,by go_num,by simp [vupto,HV.out,HV2.out],below_drewN hbel _⟩
      case measure=>simp [intOf];omega
     ·have HF:=hD (validG_f (g:=⟨k,a,b,c⟩) (n:=n) (t:=t) (vstep_seen_f hmt' (by rw[←h2,HQ.out];rfl)) hlt)
      clear hmt
      go_wp2_with fail
      go_quiet (first|(go_at_call 32;exact quiet_left (l1In_any _ _ _ _))|(go_at_call 70;exact quiet_left (l1HasInt_any _ _ _ ([a,b,c].take t) _ _ (RT.out.drewN _) HL.out Zq1)))
      go_wp2_with fail
      go_ret
      exact ⟨by rw[HF.out];rfl,((b0.trans (b1.mono (by have:=S0.out;omega))).trans (b2.mono (by have:=S0.out;omega))).trans (below_drewN (hbel.mono (by have:=S0.out;have:=S2.out;omega)) _),by have:=hbel.size;have:=S0.out;have:=S2.out;simp;omega⟩
  ·obtain rfl:t=3:=by omega
   by_cases hk:ar k=0
   ·have HF:=hD (validG_k (g:=⟨k,a,b,c⟩) (n:=n) hk)
    have hk':decide (0<ar k)=false:=by simp [hk]
    have HK:=hD hk
    clear hk
    go_wp2_with (go_at_call 32;refine(l1In_any _ _ _ _).mono ?_;rintro e w' ⟨rfl,rfl⟩)
    go_ret
    exact ⟨by rw[HF.out];rfl,((b0.trans (b1.mono (by have:=S0.out;omega))).trans (b2.mono (by have:=S0.out;omega))).trans (hbel.mono (by have:=S0.out;have:=S2.out;omega)),by have:=hbel.size;have:=S0.out;have:=S2.out;omega⟩
   ·have HF:=hD (validG_t (g:=⟨k,a,b,c⟩) hn hk HV.out)
    have hk':decide (0<ar k)=true:=by simp;omega
    have HK:=hD hk
    clear hk
    go_wp2_with (go_at_call 32;refine(l1In_any _ _ _ _).mono ?_;rintro e w' ⟨rfl,rfl⟩)
    go_ret
    exact ⟨by rw[HF.out];rfl,((b0.trans (b1.mono (by have:=S0.out;omega))).trans (b2.mono (by have:=S0.out;omega))).trans (hbel.mono (by have:=S0.out;have:=S2.out;omega)),by have:=hbel.size;have:=S0.out;have:=S2.out;omega⟩
theorem IsValidGate_spec_out (k a b c n:Int) (w:World) (hn:inB n 1 4=false):Calls Try.prog 54 #[.agg #[.int .i64 k,.int .i64 a,.int .i64 b,.int .i64 c],.int .i64 n] w fun e w' =>
  e=.returned (.bool (validG ⟨k,a,b,c⟩ n))∧Below w.heap.size w w'∧w.heap.size≤w'.heap.size:=by
 have har:=ar_le k
 have HF:=hD (validG_n (g:=⟨k,a,b,c⟩) hn)
 go_enter Try.func54,Try.ntmps54
 go_wp2_with fail
 obtain ⟨w0,hw0⟩:∃ w0,w0=w.alloc (.cells #[.int .i64 k,.int .i64 a,.int .i64 b,.int .i64 c] 58):=⟨_,rfl⟩
 rw[←hw0]
 have X0:Hid (w0.heap[w.heap.size]?=some (.cells #[.int .i64 k,.int .i64 a,.int .i64 b,.int .i64 c] 58 (0,0))):=by rw[hw0];exact boxed1_0 _ _
 have b0:Below w.heap.size w w0:=by rw[hw0];exact Zq0
 have s0:w.heap.size+1=w0.heap.size:=by rw[hw0];simp
 have S0:=hD s0
 clear hw0 s0
 refine(GateQubits_spec _ _ _ _ _).mono ?_
 rintro e w1 ⟨v1,rfl,own1,b1,s1⟩
 obtain ⟨A1,c1,rfl,hc1,hc1m,r1⟩:=rd_of_own own1
 obtain ⟨p0,p1,p2,p3⟩:=boxcells4 (lay:=b1) X0.out
 go_wp2_with fail
 clear p0 p1 p2 p3
 obtain ⟨w2,hw2⟩:∃ w2,w2=w1.alloc (.cells #[.int .i64 a,.int .i64 b,.int .i64 c] 3):=⟨_,rfl⟩
 rw[←hw2]
 have X2:Hid (w2.heap[w1.heap.size]?=some (.cells #[.int .i64 a,.int .i64 b,.int .i64 c] 3 (0,0))):=by rw[hw2];exact boxed1_0 _ _
 have b2:Below w1.heap.size w1 w2:=by rw[hw2];exact Zq0
 have s2:w1.heap.size+1=w2.heap.size:=by rw[hw2];simp
 have S2:=hD s2
 have R1:=hD (r1.below b2)
 have HC:=hD hc1m
 clear hw2 s2 r1 own1
 go_loopw [7] (fun i wr=>∃ t:Nat,t≤3∧i=.int .i64 t∧Below w2.heap.size w2 wr) (fun i _=>3 - (intOf i).toNat)
 case atStart=>exact ⟨0,by omega,rfl,Below.refl _ _⟩
 case round =>
  obtain ⟨t,ht,rfl,hbel⟩:=hrel
  by_cases hlt:t<3
  ·obtain ⟨q,hq⟩:∃ q,q=[a,b,c].getD t 0:=⟨_,rfl⟩
   have q0:wr.cell? ⟨w1.heap.size,t,none⟩=some (.int .i64 q):=(hbel.cell (by have:=S2.out;simp;omega)).trans (cell_at X2.out (by
    rw[hq]
    match t,hlt with
    | 0,_=>rfl
    | 1,_=>rfl
    | 2,_=>rfl
    | _+3,h=>omega))
   have HQ:=hD hq
   clear hq
   have hlt':(t:Int)<3:=by omega
   by_cases hmt:ar k≤t
   ·have d1:decide (ar k≤t)=true:=by simpa using hmt
    have d2:decide (t<ar k)=false:=by simp;omega
    cases hz:(q==0)
    ·have hz':(q != 0)=true:=by rw[bne,hz];rfl
     go_wp2_with fail
     go_quiet (fail)
     go_wp2_with fail
     go_ret
     exact ⟨by rw[HF.out];rfl,((b0.trans (b1.mono (by have:=S0.out;omega))).trans (b2.mono (by have:=S0.out;omega))).trans (below_drewN (hbel.mono (by have:=S0.out;have:=S2.out;omega)) _),by have:=hbel.size;have:=S0.out;have:=S2.out;simp;omega⟩
    ·have hz':(q != 0)=false:=by rw[bne,hz];rfl
     go_wp2_with fail
     go_quiet (fail)
     go_wp2_with fail
     go_roundw
     case rel=>exact ⟨t+1,by omega,by go_num,below_drewN hbel _⟩
     case measure=>simp [intOf];omega
   ·have hmt':t<ar k:=by omega
    have d1:decide (ar k≤t)=false:=by simp;omega
    have d2:decide (t<ar k)=true:=by simp;omega
    obtain ⟨b',off',rfl,hl',_⟩:=R1.out.2 Zq1
    have RT:Hid (Rd wr 1 (some ⟨b',off',none⟩) t (([a,b,c].take t).map (Value.int .i64))):=by
     have h:=(R1.out.below hbel).take (t:=t) Zq1
     rw[←List.map_take,List.take_take,show min t (ar k)=t from by omega] at h
     exact h
    have HL:Hid (([a,b,c].take t).length=t):=by
     show([a,b,c].take t).length=t
     rw[List.length_take];simp;omega
    have tc:t≤c1:=by omega
    cases h1:inB q 0 (wrap64 (n - 1))
    ·clear hmt
     go_wp2_with fail
     go_quiet (first|(go_at_call 32;exact quiet_left (l1In_any _ _ _ _))|(go_at_call 70;exact quiet_left (l1HasInt_any _ _ _ ([a,b,c].take t) _ _ (RT.out.drewN _) HL.out Zq1)))
     go_wp2_with fail
     go_ret
     exact ⟨by rw[HF.out];rfl,((b0.trans (b1.mono (by have:=S0.out;omega))).trans (b2.mono (by have:=S0.out;omega))).trans (below_drewN (hbel.mono (by have:=S0.out;have:=S2.out;omega)) _),by have:=hbel.size;have:=S0.out;have:=S2.out;simp;omega⟩
    ·cases h2:hasI ([a,b,c].take t) q
     ·clear hmt
      go_wp2_with fail
      go_quiet (first|(go_at_call 32;exact quiet_left (l1In_any _ _ _ _))|(go_at_call 70;exact quiet_left (l1HasInt_any _ _ _ ([a,b,c].take t) _ _ (RT.out.drewN _) HL.out Zq1)))
      go_wp2_with fail
      go_roundw
      case rel=>exact ⟨t+1,by omega,by go_num,below_drewN hbel _⟩
      case measure=>simp [intOf];omega
     ·clear hmt
      go_wp2_with fail
      go_quiet (first|(go_at_call 32;exact quiet_left (l1In_any _ _ _ _))|(go_at_call 70;exact quiet_left (l1HasInt_any _ _ _ ([a,b,c].take t) _ _ (RT.out.drewN _) HL.out Zq1)))
      go_wp2_with fail
      go_ret
      exact ⟨by rw[HF.out];rfl,((b0.trans (b1.mono (by have:=S0.out;omega))).trans (b2.mono (by have:=S0.out;omega))).trans (below_drewN (hbel.mono (by have:=S0.out;have:=S2.out;omega)) _),by have:=hbel.size;have:=S0.out;have:=S2.out;simp;omega⟩
  ·obtain rfl:t=3:=by omega
   by_cases hk:ar k=0
   ·have hk':decide (0<ar k)=false:=by simp [hk]
    have HK:=hD hk
    clear hk
    go_wp2_with (go_at_call 32;refine(l1In_any _ _ _ _).mono ?_;rintro e w' ⟨rfl,rfl⟩)
    go_ret
    exact ⟨by rw[HF.out];rfl,((b0.trans (b1.mono (by have:=S0.out;omega))).trans (b2.mono (by have:=S0.out;omega))).trans (hbel.mono (by have:=S0.out;have:=S2.out;omega)),by have:=hbel.size;have:=S0.out;have:=S2.out;omega⟩
   ·have hk':decide (0<ar k)=true:=by simp;omega
    have HK:=hD hk
    clear hk
    go_wp2_with (go_at_call 32;refine(l1In_any _ _ _ _).mono ?_;rintro e w' ⟨rfl,rfl⟩)
    go_ret
    exact ⟨by rw[HF.out];rfl,((b0.trans (b1.mono (by have:=S0.out;omega))).trans (b2.mono (by have:=S0.out;omega))).trans (hbel.mono (by have:=S0.out;have:=S2.out;omega)),by have:=hbel.size;have:=S0.out;have:=S2.out;omega⟩
theorem IsValidGate_spec (k a b c n:Int) (w:World):Calls Try.prog 54 #[.agg #[.int .i64 k,.int .i64 a,.int .i64 b,.int .i64 c],.int .i64 n] w fun e w' =>
  e=.returned (.bool (validG ⟨k,a,b,c⟩ n))∧Below w.heap.size w w'∧w.heap.size≤w'.heap.size:=by
 cases hn:inB n 1 4
 ·exact IsValidGate_spec_out k a b c n w hn
 ·exact IsValidGate_spec_in k a b c n w hn
end Go.Proofs.Ythkbckkghnbonaa
namespace Go.Proofs.Ythkbckkghnbonaa
open Go.ChangeShapes Go.WideShapes Go.RowKit Go.Deep

theorem exists_list {α:Type} {n:Nat} {p:Nat→α→Prop} (h:∀ i,i<n→∃ g,p i g):∃ l:List α,l.length=n∧∀ (i:Nat) (g:α),l[i]?=some g→p i g:=by
 induction n with
 | zero=>exact ⟨[],rfl,by simp⟩
 | succ n ih =>
  obtain ⟨l,hl,hp⟩:=ih (fun i hi=>h i Zq1)
  obtain ⟨g,hg⟩:=h n Zq1
  refine ⟨l++[g],by simp [hl],fun i g' hi=>?_⟩
  by_cases hin:i<n
  ·rw[List.getElem?_append_left Zq1] at hi
   exact hp i g' hi
  ·have hi':=(List.getElem?_eq_some_iff.1 hi).1
   simp at hi'
   obtain rfl:i=n:=by omega
   rw[List.getElem?_append_right Zq1,hl] at hi
   simp at hi
   subst hi
   exact hg
theorem flat_get {α:Type} {f:α→List Value} {k:Nat} (hf:∀ x,(f x).length=k):∀ (l:List α) (j:Nat) (u:Value),(l.flatMap f)[j]?=some u→∃ g,l[j / k]?=some g∧(f g)[j % k]?=some u:=by
 intro l
 induction l with
 | nil=>intro j u h;simp at h
 | cons x l ih =>
  intro j u h
  rw[List.flatMap_cons] at h
  by_cases hj:j<k
  ·rw[List.getElem?_append_left (by rw[hf];exact hj)] at h
   exact ⟨x,by rw[Nat.div_eq_of_lt hj];rfl,by rw[Nat.mod_eq_of_lt hj];exact h⟩
  ·have hk:k≤j:=by omega
   rw[List.getElem?_append_right (by rw[hf];exact hk),hf] at h
   obtain ⟨g,h1,h2⟩:=ih _ u h
   have hk0:0<k:=by
    rcases Nat.eq_zero_or_pos k with h0|h0
    ·subst h0
     have:=(List.getElem?_eq_some_iff.1 h2).1
     rw[hf] at this
     omega
    ·exact h0
   refine ⟨g,?_,?_⟩
   ·rw[Nat.div_eq_sub_div hk0 hk]
    simpa using h1
   ·rw[Nat.mod_eq_sub_mod hk]
    exact h2
theorem flat_at {α:Type} {f:α→List Value} {k:Nat} (hf:∀ x,(f x).length=k):∀ (l:List α) (i:Nat) (g:α) (j:Nat),l[i]?=some g→j<k→(l.flatMap f)[i*k+j]?=(f g)[j]?:=by
 intro l
 induction l with
 | nil=>intro i g j h;simp at h
 | cons x l ih =>
  intro i g j h hj
  rw[List.flatMap_cons]
  cases i with
  | zero =>
   simp at h
   subst h
   rw[List.getElem?_append_left (by rw[hf];omega)]
   simp
  | succ i =>
   rw[List.getElem?_append_right (by rw[hf,Nat.add_mul];omega),hf,←ih i g j (by simpa using h) hj]
   congr 1
   rw[Nat.add_mul]
   omega
section
variable {H:Type} {enc:TypeId × Value→H} {P:Program} {w:World} {base:Nat} {spare:Nat→Bool} {held:Bool}
theorem slice_one {r:Reach} {b0 fuel:Nat} {t e:TypeId} {v:Value} {x:DataW H × List MemPlace} (hv:Value.okWide P w r b0 t v) (ht:P.underlying t=some (.slice e))
  (h:DataW.trod enc P w base spare held fuel t v.cells.toList=some x):DataW.trod enc P w base spare held fuel t [v]=some x:=by
 obtain ⟨a,len,cap,rfl⟩:=okWide_slice ht hv
 exact h
theorem block_of_cell {a:Addr} {u:Value} (h:w.cell? a=some u):a.block<w.heap.size:=by
 unfold World.cell? at h
 rcases Nat.lt_or_ge a.block w.heap.size with hl|hl
 ·exact hl
 ·rw[Array.getElem?_eq_none hl] at h
  simp at h
theorem rd_of_slice {α:Type} {t e:TypeId} {size fuel:Nat} {cellsf:α→List Value} {v:Value} {x:DataW H × List MemPlace} (ht:P.underlying t=some (.slice e)) (hC:P.cellsOf e=size) (hsz:0<size)
  (hE:∀ (n:Nat) (cs:List Value) (y:DataW H × List MemPlace),DataW.trod enc P w base spare held n e cs=some y→∃ g:α,cs=cellsf g)
  (hlen:∀ g,(cellsf g).length=size) (h:DataW.trod enc P w base spare held fuel t [v]=some x) :
  ∃ (A:Option Addr) (n c:Nat) (l:List α),v=.slice A n c∧n≤c∧c≤maxLen∧l.length=n∧Rd w size A n (l.flatMap cellsf):=by
 rcases open_slice ht h with ⟨h0,_⟩|⟨a,len,cap,m,n,D,Pl,hcs,hb,hl,hm,hmm,hx,hi⟩
 ·simp at h0
  subst h0
  exact ⟨none,0,0,[],rfl,Nat.le_refl _,Nat.zero_le _,rfl,by simp,fun h=>absurd h Zq1⟩
 ·simp at hcs
  subst hcs
  have hlm:len≤m:=by rw[hmm];split <;> omega
  obtain ⟨l,hll,hp⟩:=exists_list (n:=len) (p:=fun i g=>w.cells? base (a.add (i*P.cellsOf e)) (P.cellsOf e)=some (cellsf g)) (fun i hi'=>by
   obtain ⟨cs',hc,ht'⟩:=hi i Zq1
   obtain ⟨g,rfl⟩:=hE _ _ _ ht'
   exact ⟨g,hc⟩)
  refine ⟨some a,len,cap,l,rfl,hl,hm,hll,by rw[flat_length cellsf size hlen,hll],fun h0=>?_⟩
  have hcell:∀ (j:Nat) (u:Value),(l.flatMap cellsf)[j]?=some u→w.cell? (a.add j)=some u:=by
   intro j u hu
   obtain ⟨g,h1,h2⟩:=flat_get hlen l j u hu
   have h3:=hp _ _ h1
   rw[hC] at h3
   obtain ⟨_,_,hat⟩:=World.cells?_some h3
   have h4:=hat (j % size) (Nat.mod_lt _ hsz)
   rw[Go.Deep.add_add,Nat.mul_comm,Nat.div_add_mod,h2] at h4
   exact h4
  have hj0:∃ u,(l.flatMap cellsf)[0]?=some u:=⟨_,List.getElem?_eq_getElem (by rw[flat_length cellsf size hlen,hll];exact Nat.mul_pos h0 hsz)⟩
  obtain ⟨u0,hu0⟩:=hj0
  have hc0:=hcell 0 u0 hu0
  obtain ⟨b,off,spot⟩:=a
  have hspot:spot=none:=by simpa [Addr.add] using World.cell?_spot hc0
  subst hspot
  refine ⟨b,off,rfl,by simpa [Addr.add] using block_of_cell hc0,fun j u hu=>?_⟩
  have:=hcell j u hu
  rwa [add_plain] at this
end
end Go.Proofs.Ythkbckkghnbonaa
namespace Go.Proofs.Ythkbckkghnbonaa
open Go.RowKit
section
variable {P:Program} (w:World)
theorem run_append_nil (base:Nat) (t ty e:TypeId) (i:TypeInfo) (size:Nat) (ht:P.underlying t=some (.slice e)) (hi:P.info? e=some i)
  (v:Value) (n:Nat) (xs:List Value) (hown:w.ownsRow base e size v n xs) (c:Nat):(Builtin.append_ #[t,t] ty #[v,.slice none 0 c]).run P w=.ok v w:=by
 rcases hown.2 with ⟨rfl,rfl⟩|⟨g,cap,cur,rfl,_,_,hnc,_⟩
 ·simp [Builtin.append_,run_underlying ht,sizeOf,typeInfo,hi,Builtin.lenOf,Builtin.firstCells]
 ·simp [Builtin.append_,run_underlying ht,sizeOf,typeInfo,hi,Builtin.lenOf,Builtin.firstCells,hnc,storeCells]
theorem run_append_rd (base:Nat) (t ty e:TypeId) (i:TypeInfo) (z:Value) (size bytes:Nat) (ht:P.underlying t=some (.slice e)) (hi:P.info? e=some i) (hz:i.zero=some z)
  (hsize:i.size=size) (hby:i.bytes=bytes) (hzs:z.cells.size=size) (hsz:0<size)
  (v:Value) (n:Nat) (xs:List Value) (hown:w.ownsRow base e size v n xs) (A:Option Addr) (m c:Nat) (news:List Value) (hr:Rd w size A m news) (h1:∀ u∈news,u.oneCell'=true)
  (h63:n+m≤maxLen) (hbytes:(n+m)*bytes≤140737488355328) (hbase:base≤w.heap.size) :
  ∃ v' w',(Builtin.append_ #[t,t] ty #[v,.slice A m c]).run P w=.ok v' w'∧w'.ownsRow base e size v' (n+m) (xs++news)∧w.grownBy w' v.ownBlock∧(v'.ownBlock=v.ownBlock∨v'.ownBlock=some w.heap.size):=by
 rcases A with _|ad
 ·have hm:m=0:=by
   rcases Nat.eq_zero_or_pos m with h0|h0
   ·exact h0
   ·obtain ⟨_,_,h,_⟩:=hr.2 h0
    cases h
  subst hm
  have hn:news=[]:=List.eq_nil_of_length_eq_zero (by simpa using hr.1)
  subst hn
  exact ⟨v,w,run_append_nil w base t ty e i size ht hi v n xs hown c,by simpa using hown,World.grownBy.refl w _,.inl rfl⟩
 ·have hcells:∀ j u,news[j]?=some u→w.cell? (ad.add j)=some u:=by
   intro j u hu
   rcases Nat.eq_zero_or_pos m with h0|h0
   ·subst h0
    have hn:news=[]:=List.eq_nil_of_length_eq_zero (by simpa using hr.1)
    subst hn
    simp at hu
   ·obtain ⟨b,off,h,_,hc⟩:=hr.2 h0
    injection h with h
    subst h
    rw[Go.WideShapes.add_plain]
    exact hc j u hu
  obtain ⟨v',w',hrun,h2,h3,_,h5⟩:=run_append_own_at (P:=P) w base t ty e i z size bytes ht hi hz hsize hby hzs hsz v n xs hown ad m c news hr.1 hcells h1 h63 hbytes hbase
  exact ⟨v',w',hrun,h2,h3,h5⟩
theorem wpList_append_rd {ops:Array Oper} {rest:List Oper} {o:Oper} {a:Act} {Q:Exit→Act→World→Prop} (hgd:o.guard=none) (s x:Operand) (t:TypeId)
  (ho:o.op=.call { callee:=.builtin .append,args:=#[s,x],argTypes:=#[t,t] })
  (base:Nat) (e:TypeId) (i:TypeInfo) (z:Value) (size bytes:Nat) (ht:P.underlying t=some (.slice e)) (hi:P.info? e=some i) (hz:i.zero=some z)
  (hsize:i.size=size) (hby:i.bytes=bytes) (hzs:z.cells.size=size) (hsz:0<size)
  (v:Value) (n:Nat) (xs:List Value) (hs:a.eval s=v) (hown:w.ownsRow base e size v n xs)
  (A:Option Addr) (m c:Nat) (news:List Value) (hx:a.eval x=.slice A m c) (hr:Rd w size A m news) (h1:∀ u∈news,u.oneCell'=true)
  (h63:n+m≤maxLen) (hbytes:(n+m)*bytes≤140737488355328) (hbase:base≤w.heap.size)
  (h:∀ v' w',w'.ownsRow base e size v' (n+m) (xs++news)→w.grownBy w' v.ownBlock→(v'.ownBlock=v.ownBlock∨v'.ownBlock=some w.heap.size)→wpList P ops Q rest (a.put o.dst v') w'):wpList P ops Q (o :: rest) a w:=by
 refine wpList_plain hgd fun _ hK=>?_
 obtain ⟨v',w',hrun,h2,h3,h4⟩:=run_append_rd (P:=P) w base t o.type e i z size bytes ht hi hz hsize hby hzs hsz v n xs hown A m c news hr h1 h63 hbytes hbase
 unfold Oper.wp execOp
 simp only[ho,resolve,invoke,builtin,Sem.run_bind,Sem.run_pure,Result.andThen_ok,List.map_toArray,List.map_cons,List.map_nil,hs,hx,hrun]
 exact hK _ _ (h v' w' h2 h3 h4)
end
theorem one_flat {α:Type} {f:α→List Value} (hf:∀ x,((f x).all Value.oneCell')=true) (l:List α):∀ u∈l.flatMap f,u.oneCell'=true:=by
 intro u hu
 obtain ⟨x,_,hx⟩:=List.mem_flatMap.1 hu
 exact List.all_eq_true.1 (hf x) u hx
theorem own_ge {w:World} {base e size n:Nat} {v:Value} {xs:List Value} (h:w.ownsRow base e size v n xs):∀ k,v.ownBlock=some k→base≤k:=fun k hk=>(h.lt k hk).1
theorem rd_own {w:World} {base E size n c:Nat} {A:Option Addr} {xs:List Value} (h:w.ownsRow base E size (.slice A n c) n xs):Rd w size A n xs:=by
 obtain ⟨A',c',e,_,_,r⟩:=rd_of_own h
 injection e with e1 e2 e3
 rw[e1]
 exact r
theorem own_empty (w:World) (e size:Nat):(w.alloc (.cells #[] e)).ownsRow w.heap.size e size (.slice (some ⟨w.heap.size,0,none⟩) 0 0) 0 []:=World.ownsRow_lit w #[] 0 (Nat.le_refl _) (Nat.zero_le _) Zq5
theorem below_undrew {w w':World} (h:Below w.drew.heap.size w.drew w'):Below w.heap.size w w':=⟨h.os,h.tape,h.output,h.size,h.block⟩
def actsG (g:Gt) (q:Int):Bool:=hasI ((qsOf g).take (ar g.k)) q
theorem ActsOn_spec (k a b c q:Int) (w:World):Calls Try.prog 74 #[.agg #[.int .i64 k,.int .i64 a,.int .i64 b,.int .i64 c],.int .i64 q] w fun e w' =>
  e=.returned (.bool (actsG ⟨k,a,b,c⟩ q))∧Below w.heap.size w w'∧w.heap.size≤w'.heap.size:=by
 have har:=ar_le k
 have HL:Hid (([a,b,c].take (ar k)).length=ar k):=hD (by rw[List.length_take];simp;omega)
 go_enter Try.func74,Try.ntmps74
 go_wp2_with fail
 refine(GateQubits_spec _ _ _ _ _).mono ?_
 rintro e w1 ⟨v1,rfl,own1,b1,s1⟩
 simp at s1
 obtain ⟨A1,c1,rfl,_,_,r1⟩:=rd_of_own own1
 go_wp2_with fail
 refine(l1HasInt_any _ _ _ ([a,b,c].take (ar k)) _ _ r1 HL.out Zq1).mono ?_
 rintro e w2 ⟨rfl,rfl⟩
 go_wp2_with fail
 go_ret
 exact ⟨rfl,Zq0,Zq2⟩
def g1 (k a:Int):Gt:=⟨k,a,0,0⟩
def gcx (a b:Int):Gt:=⟨9,a,b,0⟩
def RetRow2 (E size:Nat) (w:World) (ok:Bool) (n:Nat) (xs:List Value) (e:Ending) (w':World):Prop :=
 ∃ v,e=.returned (.tuple #[v,.bool ok])∧w'.ownsRow w.heap.size E size v n xs∧Below w.heap.size w w'∧w.heap.size≤w'.heap.size
theorem retRow2_lit {E size n b:Nat} {ok:Bool} {w W:World} {cs:Array Value} {xs:List Value} (hB:w.heap.size≤W.heap.size) (hb:Below w.heap.size w W) (hs:cs.size=n*size) (hm:n≤maxLen) (hx:cs.toList=xs) (h0:b=W.heap.size) :
  RetRow2 E size w ok n xs (.returned (.tuple #[.slice (some ⟨b,0,none⟩) n n,.bool ok])) (W.alloc (.cells cs E)):=by
 subst hx h0
 exact ⟨_,rfl,World.ownsRow_lit W cs n hB hm hs,hb.alloc hB _,by simp;omega⟩
def cgl (q:Int) (g:Gt):Option (List Gt) :=
 match g with
 | ⟨k,a,b,_⟩ =>
  if k=1 then some [gcx q a]
  else if k=2 then some [g1 6 a,gcx q a,g1 5 a]
  else if k=3 then some [⟨10,q,a,0⟩]
  else if k=4 then some [g1 6 a,g1 4 a,g1 8 a,gcx q a,g1 7 a,g1 4 a,g1 5 a]
  else if k=5 then some [g1 7 q,g1 7 a,gcx q a,g1 8 a,gcx q a]
  else if k=6 then some [g1 8 q,g1 8 a,gcx q a,g1 7 a,gcx q a]
  else if k=9 then some [⟨12,q,a,b⟩]
  else if k=10 then some [g1 4 b,⟨12,q,a,b⟩,g1 4 b]
  else if k=11 then some [gcx b a,⟨12,q,a,b⟩,gcx b a]
  else none
def cgate (q:Int) (g:Gt):Option (List Gt):=if validG g 4=true∧inB q 0 3=true∧actsG g q=false then cgl q g else none
theorem cgate_v {q:Int} {g:Gt} (h:validG g 4=false):cgate q g=none:=by simp [cgate,h]
theorem cgate_q {q:Int} {g:Gt} (h:inB q 0 3=false):cgate q g=none:=by simp [cgate,h]
theorem cgate_a {q:Int} {g:Gt} (h:actsG g q=true):cgate q g=none:=by simp [cgate,h]
theorem cgate_t {q:Int} {g:Gt} (h1:validG g 4=true) (h2:inB q 0 3=true) (h3:actsG g q=false):cgate q g=cgl q g:=by simp [cgate,h1,h2,h3]
theorem valid_k {g:Gt} {n:Int} (h:validG g n=true):1≤g.k∧g.k≤12:=by
 have hk:ar g.k≠0:=fun e=>by rw[validG_k e] at h;cases h
 unfold ar at hk
 split at hk
 ·rename_i h1;have:=inB_iff.1 h1;omega
 ·split at hk
  ·rename_i h1;have:=inB_iff.1 h1;omega
  ·split at hk
   ·omega
   ·omega
theorem ControlledGate_spec (q k a b c:Int) (w:World):Calls Try.prog 67 #[.int .i64 q,.agg #[.int .i64 k,.int .i64 a,.int .i64 b,.int .i64 c]] w
  (RetRow2 58 4 w (cgate q ⟨k,a,b,c⟩).isSome ((cgate q ⟨k,a,b,c⟩).getD []).length (((cgate q ⟨k,a,b,c⟩).getD []).flatMap gcells)):=by
 cases hv:validG ⟨k,a,b,c⟩ 4
 ·have hcg:=cgate_v (q:=q) hv
  rw[hcg]
  go_enter Try.func67,Try.ntmps67
  go_wp2_with (first|(go_at_call 54;refine(IsValidGate_spec _ _ _ _ _ _).mono ?_;rintro e w1 ⟨rfl,b1,s1⟩;simp at s1;obtain ⟨p0,p1,p2,p3⟩:=boxcells4 (lay:=b1) (boxed1_0 _ _))|(go_at_call 32;refine(l1In_any _ _ _ _).mono ?_;rintro e w' ⟨rfl,rfl⟩)|(go_at_call 74;refine(ActsOn_spec _ _ _ _ _ _).mono ?_;rintro e w2 ⟨rfl,b2,s2⟩;obtain ⟨q0,q1,q2,q3⟩:=boxcells4 (lay:=b1.trans (b2.mono b1.size)) (boxed1_0 _ _);have hlt:w.heap.size<w2.heap.size:=by omega)|(go_at_call 76;refine(l14One_any _ _ _).mono ?_;rintro e w' ⟨rfl,hb,hs⟩;(try simp at hs);(try (obtain ⟨r0,r1,r2,r3⟩:=boxcells4 (lay:=hb) (boxed1_0 w2 _))))|(go_at_call 75;refine(l14Cx_any _ _ _).mono ?_;rintro e w' ⟨rfl,hb,hs⟩;(try simp at hs);(try (obtain ⟨r0,r1,r2,r3⟩:=boxcells4 (lay:=hb) (boxed1_0 w2 _)))))
  go_ret2
  refine retRow2_lit ?_ ?_ ?_ ?_ ?_ ?_
  ·exact Zq2
  ·exact Zq0
  ·rfl
  ·simp [maxLen]
  ·rfl
  ·first|rfl|simp
 cases hq:inB q 0 3
 ·have hcg:=cgate_q (g:=⟨k,a,b,c⟩) hq
  rw[hcg]
  go_enter Try.func67,Try.ntmps67
  go_wp2_with (first|(go_at_call 54;refine(IsValidGate_spec _ _ _ _ _ _).mono ?_;rintro e w1 ⟨rfl,b1,s1⟩;simp at s1;obtain ⟨p0,p1,p2,p3⟩:=boxcells4 (lay:=b1) (boxed1_0 _ _))|(go_at_call 32;refine(l1In_any _ _ _ _).mono ?_;rintro e w' ⟨rfl,rfl⟩)|(go_at_call 74;refine(ActsOn_spec _ _ _ _ _ _).mono ?_;rintro e w2 ⟨rfl,b2,s2⟩;obtain ⟨q0,q1,q2,q3⟩:=boxcells4 (lay:=b1.trans (b2.mono b1.size)) (boxed1_0 _ _);have hlt:w.heap.size<w2.heap.size:=by omega)|(go_at_call 76;refine(l14One_any _ _ _).mono ?_;rintro e w' ⟨rfl,hb,hs⟩;(try simp at hs);(try (obtain ⟨r0,r1,r2,r3⟩:=boxcells4 (lay:=hb) (boxed1_0 w2 _))))|(go_at_call 75;refine(l14Cx_any _ _ _).mono ?_;rintro e w' ⟨rfl,hb,hs⟩;(try simp at hs);(try (obtain ⟨r0,r1,r2,r3⟩:=boxcells4 (lay:=hb) (boxed1_0 w2 _)))))
  go_ret2
  refine retRow2_lit ?_ ?_ ?_ ?_ ?_ ?_
  ·exact Zq2
  ·exact Zq0
  ·rfl
  ·simp [maxLen]
  ·rfl
  ·first|rfl|simp
 cases ha:actsG ⟨k,a,b,c⟩ q
 rotate_left
 ·have hcg:=cgate_a ha
  rw[hcg]
  go_enter Try.func67,Try.ntmps67
  go_wp2_with (first|(go_at_call 54;refine(IsValidGate_spec _ _ _ _ _ _).mono ?_;rintro e w1 ⟨rfl,b1,s1⟩;simp at s1;obtain ⟨p0,p1,p2,p3⟩:=boxcells4 (lay:=b1) (boxed1_0 _ _))|(go_at_call 32;refine(l1In_any _ _ _ _).mono ?_;rintro e w' ⟨rfl,rfl⟩)|(go_at_call 74;refine(ActsOn_spec _ _ _ _ _ _).mono ?_;rintro e w2 ⟨rfl,b2,s2⟩;obtain ⟨q0,q1,q2,q3⟩:=boxcells4 (lay:=b1.trans (b2.mono b1.size)) (boxed1_0 _ _);have hlt:w.heap.size<w2.heap.size:=by omega)|(go_at_call 76;refine(l14One_any _ _ _).mono ?_;rintro e w' ⟨rfl,hb,hs⟩;(try simp at hs);(try (obtain ⟨r0,r1,r2,r3⟩:=boxcells4 (lay:=hb) (boxed1_0 w2 _))))|(go_at_call 75;refine(l14Cx_any _ _ _).mono ?_;rintro e w' ⟨rfl,hb,hs⟩;(try simp at hs);(try (obtain ⟨r0,r1,r2,r3⟩:=boxcells4 (lay:=hb) (boxed1_0 w2 _)))))
  go_ret2
  refine retRow2_lit ?_ ?_ ?_ ?_ ?_ ?_
  ·exact Zq2
  ·exact Zq0
  ·rfl
  ·simp [maxLen]
  ·rfl
  ·first|rfl|simp
 have hcg:=cgate_t hv hq ha
 have hkk:=valid_k hv
 simp only at hkk
 have hk:k=1∨k=2∨k=3∨k=4∨k=5∨k=6∨k=7∨k=8∨k=9∨k=10∨k=11∨k=12:=by omega
 clear hkk
 rcases hk with rfl|rfl|rfl|rfl|rfl|rfl|rfl|rfl|rfl|rfl|rfl|rfl
 rw[show cgl q ⟨1,a,b,c⟩=some [gcx q a] from rfl] at hcg
 rotate_left
 rw[show cgl q ⟨2,a,b,c⟩=some [g1 6 a,gcx q a,g1 5 a] from rfl] at hcg
 rotate_left
 rw[show cgl q ⟨3,a,b,c⟩=some [⟨10,q,a,0⟩] from rfl] at hcg
 rotate_left
 rw[show cgl q ⟨4,a,b,c⟩=some [g1 6 a,g1 4 a,g1 8 a,gcx q a,g1 7 a,g1 4 a,g1 5 a] from rfl] at hcg
 rotate_left
 rw[show cgl q ⟨5,a,b,c⟩=some [g1 7 q,g1 7 a,gcx q a,g1 8 a,gcx q a] from rfl] at hcg
 rotate_left
 rw[show cgl q ⟨6,a,b,c⟩=some [g1 8 q,g1 8 a,gcx q a,g1 7 a,gcx q a] from rfl] at hcg
 rotate_left
 rw[show cgl q ⟨7,a,b,c⟩=none from rfl] at hcg
 rotate_left
 rw[show cgl q ⟨8,a,b,c⟩=none from rfl] at hcg
 rotate_left
 rw[show cgl q ⟨9,a,b,c⟩=some [⟨12,q,a,b⟩] from rfl] at hcg
 rotate_left
 ·rw[show cgl q ⟨10,a,b,c⟩=some [g1 4 b,⟨12,q,a,b⟩,g1 4 b] from rfl] at hcg
  rw[hcg]
  clear hcg
  go_enter Try.func67,Try.ntmps67
  go_wp2_with (first|(go_at_call 54;refine(IsValidGate_spec _ _ _ _ _ _).mono ?_;rintro e w1 ⟨rfl,b1,s1⟩;simp at s1;obtain ⟨p0,p1,p2,p3⟩:=boxcells4 (lay:=b1) (boxed1_0 _ _))|(go_at_call 32;refine(l1In_any _ _ _ _).mono ?_;rintro e w' ⟨rfl,rfl⟩)|(go_at_call 74;refine(ActsOn_spec _ _ _ _ _ _).mono ?_;rintro e w2 ⟨rfl,b2,s2⟩;obtain ⟨q0,q1,q2,q3⟩:=boxcells4 (lay:=b1.trans (b2.mono b1.size)) (boxed1_0 _ _);have hlt:w.heap.size<w2.heap.size:=by omega)|(go_at_call 76;refine(l14One_any _ _ _).mono ?_;rintro e w' ⟨rfl,hb,hs⟩;(try simp at hs);(try (obtain ⟨r0,r1,r2,r3⟩:=boxcells4 (lay:=hb) (boxed1_0 w2 _))))|(go_at_call 75;refine(l14Cx_any _ _ _).mono ?_;rintro e w' ⟨rfl,hb,hs⟩;(try simp at hs);(try (obtain ⟨r0,r1,r2,r3⟩:=boxcells4 (lay:=hb) (boxed1_0 w2 _)))))
  obtain ⟨t0,t1,t2,t3⟩:=boxcells4 (lay:=Below.refl _ _) (boxed1_0 w2 (.cells #[.int .i64 12,.int .i64 q,.int .i64 a,.int .i64 b] 58))
  go_region_held3 (fun W=>W.cell? ⟨w2.heap.size,0,none⟩=some (.int .i64 12)∧W.cell? ⟨w2.heap.size,1,none⟩=some (.int .i64 q)∧W.cell? ⟨w2.heap.size,2,none⟩=some (.int .i64 a)∧W.cell? ⟨w2.heap.size,3,none⟩=some (.int .i64 b))
   (first|exact ⟨t0,t1,t2,t3⟩|exact ⟨x0,x1,x2,x3⟩|exact ⟨y0,y1,y2,y3⟩|(refine ⟨?_,?_,?_,?_⟩ <;> go_simp))
   (first|(have _t:=t0;go_at_call 76;(with_reducible refine(l14One_any _ _ _).mono ?_);rintro e w3 ⟨rfl,hb3,hs3⟩;have b3:=below_undrew hb3;have s3:=b3.size;(try simp at s3);obtain ⟨x0,x1,x2,x3⟩:=boxcells4 (lay:=b3) (boxed1_0 w2 _);clear hb3 hs3 t0)|(go_at_call 76;(with_reducible refine(l14One_any _ _ _).mono ?_);rintro e w4 ⟨rfl,b4,s4⟩;obtain ⟨y0,y1,y2,y3⟩:=boxcells4 (lay:=b3.trans (b4.mono b3.size)) (boxed1_0 w2 _);have lt4:w2.heap.size<w4.heap.size:=by omega))
  all_goals go_wp2_with fail
  all_goals go_ret2
  all_goals (refine retRow2_lit ?_ ?_ ?_ ?_ ?_ ?_)
  all_goals first|rfl|omega|(simp [maxLen];done)|(simp;omega)|exact((((((Below.refl _ _).alloc (Nat.le_refl _) _).trans (b1.mono Zq5)).trans (b2.mono Zq1)).alloc Zq1 _).trans (b3.mono Zq6)).trans (b4.mono Zq1)
 ·rw[show cgl q ⟨11,a,b,c⟩=some [gcx b a,⟨12,q,a,b⟩,gcx b a] from rfl] at hcg
  rw[hcg]
  clear hcg
  go_enter Try.func67,Try.ntmps67
  go_wp2_with (first|(go_at_call 54;refine(IsValidGate_spec _ _ _ _ _ _).mono ?_;rintro e w1 ⟨rfl,b1,s1⟩;simp at s1;obtain ⟨p0,p1,p2,p3⟩:=boxcells4 (lay:=b1) (boxed1_0 _ _))|(go_at_call 32;refine(l1In_any _ _ _ _).mono ?_;rintro e w' ⟨rfl,rfl⟩)|(go_at_call 74;refine(ActsOn_spec _ _ _ _ _ _).mono ?_;rintro e w2 ⟨rfl,b2,s2⟩;obtain ⟨q0,q1,q2,q3⟩:=boxcells4 (lay:=b1.trans (b2.mono b1.size)) (boxed1_0 _ _);have hlt:w.heap.size<w2.heap.size:=by omega)|(go_at_call 76;refine(l14One_any _ _ _).mono ?_;rintro e w' ⟨rfl,hb,hs⟩;(try simp at hs);(try (obtain ⟨r0,r1,r2,r3⟩:=boxcells4 (lay:=hb) (boxed1_0 w2 _))))|(go_at_call 75;refine(l14Cx_any _ _ _).mono ?_;rintro e w' ⟨rfl,hb,hs⟩;(try simp at hs);(try (obtain ⟨r0,r1,r2,r3⟩:=boxcells4 (lay:=hb) (boxed1_0 w2 _)))))
  obtain ⟨t0,t1,t2,t3⟩:=boxcells4 (lay:=Below.refl _ _) (boxed1_0 w2 (.cells #[.int .i64 12,.int .i64 q,.int .i64 a,.int .i64 b] 58))
  go_region_held3 (fun W=>W.cell? ⟨w2.heap.size,0,none⟩=some (.int .i64 12)∧W.cell? ⟨w2.heap.size,1,none⟩=some (.int .i64 q)∧W.cell? ⟨w2.heap.size,2,none⟩=some (.int .i64 a)∧W.cell? ⟨w2.heap.size,3,none⟩=some (.int .i64 b))
   (first|exact ⟨t0,t1,t2,t3⟩|exact ⟨x0,x1,x2,x3⟩|exact ⟨y0,y1,y2,y3⟩|(refine ⟨?_,?_,?_,?_⟩ <;> go_simp))
   (first|(have _t:=t0;go_at_call 75;(with_reducible refine(l14Cx_any _ _ _).mono ?_);rintro e w3 ⟨rfl,hb3,hs3⟩;have b3:=below_undrew hb3;have s3:=b3.size;(try simp at s3);obtain ⟨x0,x1,x2,x3⟩:=boxcells4 (lay:=b3) (boxed1_0 w2 _);clear hb3 hs3 t0)|(go_at_call 75;(with_reducible refine(l14Cx_any _ _ _).mono ?_);rintro e w4 ⟨rfl,b4,s4⟩;obtain ⟨y0,y1,y2,y3⟩:=boxcells4 (lay:=b3.trans (b4.mono b3.size)) (boxed1_0 w2 _);have lt4:w2.heap.size<w4.heap.size:=by omega))
  all_goals go_wp2_with fail
  all_goals go_ret2
  all_goals (refine retRow2_lit ?_ ?_ ?_ ?_ ?_ ?_)
  all_goals first|rfl|omega|(simp [maxLen];done)|(simp;omega)|exact((((((Below.refl _ _).alloc (Nat.le_refl _) _).trans (b1.mono Zq5)).trans (b2.mono Zq1)).alloc Zq1 _).trans (b3.mono Zq6)).trans (b4.mono Zq1)
 rw[show cgl q ⟨12,a,b,c⟩=none from rfl] at hcg
 rotate_left
 all_goals
  rw[hcg]
  clear hcg
  go_enter Try.func67,Try.ntmps67
  go_wp2_with (first|(go_at_call 54;refine(IsValidGate_spec _ _ _ _ _ _).mono ?_;rintro e w1 ⟨rfl,b1,s1⟩;simp at s1;obtain ⟨p0,p1,p2,p3⟩:=boxcells4 (lay:=b1) (boxed1_0 _ _))|(go_at_call 32;refine(l1In_any _ _ _ _).mono ?_;rintro e w' ⟨rfl,rfl⟩)|(go_at_call 74;refine(ActsOn_spec _ _ _ _ _ _).mono ?_;rintro e w2 ⟨rfl,b2,s2⟩;obtain ⟨q0,q1,q2,q3⟩:=boxcells4 (lay:=b1.trans (b2.mono b1.size)) (boxed1_0 _ _);have hlt:w.heap.size<w2.heap.size:=by omega)|(go_at_call 76;refine(l14One_any _ _ _).mono ?_;rintro e w' ⟨rfl,hb,hs⟩;(try simp at hs);(try (obtain ⟨r0,r1,r2,r3⟩:=boxcells4 (lay:=hb) (boxed1_0 w2 _))))|(go_at_call 75;refine(l14Cx_any _ _ _).mono ?_;rintro e w' ⟨rfl,hb,hs⟩;(try simp at hs);(try (obtain ⟨r0,r1,r2,r3⟩:=boxcells4 (lay:=hb) (boxed1_0 w2 _)))))
  go_ret2
  refine retRow2_lit ?_ ?_ ?_ ?_ ?_ ?_
  ·exact Zq2
  ·exact Zq0
  ·rfl
  ·simp [maxLen]
  ·rfl
  ·first|rfl|simp
theorem gcells_len (x:Gt):(gcells x).length=4:=rfl
def cgL (q:Int) (g:Gt):List Gt:=(cgate q g).getD []
def cgB (q:Int) (g:Gt):Bool:=(cgate q g).isSome
theorem cgl_len {q:Int} {g:Gt} {L:List Gt} (h:cgl q g=some L):L.length≤7:=by
 obtain ⟨k,a,b,c⟩:=g
 simp only[cgl] at h
 repeat' (split at h)
 all_goals (cases h;try simp)
theorem cgL_len (q:Int) (g:Gt):(cgL q g).length≤7:=by
 unfold cgL cgate
 split
 ·cases h:cgl q g with
  | none=>simp
  | some L=>exact cgl_len h
 ·simp
theorem ControlledGate_spec2 (q k a b c:Int) (w:World):Calls Try.prog 67 #[.int .i64 q,.agg #[.int .i64 k,.int .i64 a,.int .i64 b,.int .i64 c]] w
  (RetRow2 58 4 w (cgB q ⟨k,a,b,c⟩) (cgL q ⟨k,a,b,c⟩).length ((cgL q ⟨k,a,b,c⟩).flatMap gcells)):=ControlledGate_spec q k a b c w
structure Opt where
 k:Int
 g:Gt
 q:Int
 bit:Int
 cond:Int
def ocells (o:Opt):List Value:=[.int .i64 o.k,.int .i64 o.g.k,.int .i64 o.g.a,.int .i64 o.g.b,.int .i64 o.g.c,.int .i64 o.q,.int .i64 o.bit,.int .i64 o.cond]
def zeroG (g:Gt):Bool:=g.k==0&&(g.a==0&&(g.b==0&&g.c==0))
def validOp (o:Opt) (n bits:Int):Bool :=
 inB n 1 4&&(inB bits 0 3 &&
  (if o.k=1 then o.q==0&&(o.bit==0&&(validG o.g n&&inB o.cond 0 bits))
   else if o.k=2 then zeroG o.g&&(o.cond==0&&(inB o.q 0 (n - 1)&&inB o.bit 0 (bits - 1)))
   else if o.k=3 then zeroG o.g&&(o.bit==0&&(o.cond==0&&inB o.q 0 (n - 1)))
   else false))
theorem IsValidOp_spec (k gk ga gb gc q bit cond n bits:Int) (w:World):Calls Try.prog 38 #[.agg #[.int .i64 k,.int .i64 gk,.int .i64 ga,.int .i64 gb,.int .i64 gc,.int .i64 q,.int .i64 bit,.int .i64 cond],.int .i64 n,.int .i64 bits] w fun e w' =>
  e=.returned (.bool (validOp ⟨k,⟨gk,ga,gb,gc⟩,q,bit,cond⟩ n bits))∧Below w.heap.size w w'∧w.heap.size≤w'.heap.size:=by
 cases hn:inB n 1 4
 ·rw[show validOp ⟨k,⟨gk,ga,gb,gc⟩,q,bit,cond⟩ n bits=false by simp [validOp,hn]]
  go_enter Try.func38,Try.ntmps38
  go_wp2_with (first|(go_at_call 32;refine(l1In_any _ _ _ _).mono ?_;rintro e w' ⟨rfl,rfl⟩)|(go_at_call 54;refine(IsValidGate_spec _ _ _ _ _ _).mono ?_;rintro e w' ⟨rfl,hb,hs⟩;simp at hs;obtain ⟨p0,p1,p2,p3,p4,p5,p6,p7⟩:=boxcells8 (lay:=hb) (boxed1_0 _ _)))
  go_ret
  exact ⟨rfl,Zq0,Zq2⟩
 have hnn:=inB_iff.1 hn
 cases hbt:inB bits 0 3
 ·rw[show validOp ⟨k,⟨gk,ga,gb,gc⟩,q,bit,cond⟩ n bits=false by simp [validOp,hn,hbt]]
  go_enter Try.func38,Try.ntmps38
  go_wp2_with (first|(go_at_call 32;refine(l1In_any _ _ _ _).mono ?_;rintro e w' ⟨rfl,rfl⟩)|(go_at_call 54;refine(IsValidGate_spec _ _ _ _ _ _).mono ?_;rintro e w' ⟨rfl,hb,hs⟩;simp at hs;obtain ⟨p0,p1,p2,p3,p4,p5,p6,p7⟩:=boxcells8 (lay:=hb) (boxed1_0 _ _)))
  go_ret
  exact ⟨rfl,Zq0,Zq2⟩
 have hbb:=inB_iff.1 hbt
 by_cases h1:k=1
 ·subst h1
  by_cases hq:q=0
  ·subst hq
   by_cases hb:bit=0
   ·subst hb
    cases hv:validG ⟨gk,ga,gb,gc⟩ n
    ·rw[show validOp ⟨1,⟨gk,ga,gb,gc⟩,0,0,cond⟩ n bits=false by simp [validOp,hv]]
     go_enter Try.func38,Try.ntmps38
     go_wp2_with (first|(go_at_call 32;refine(l1In_any _ _ _ _).mono ?_;rintro e w' ⟨rfl,rfl⟩)|(go_at_call 54;refine(IsValidGate_spec _ _ _ _ _ _).mono ?_;rintro e w' ⟨rfl,hb,hs⟩;simp at hs;obtain ⟨p0,p1,p2,p3,p4,p5,p6,p7⟩:=boxcells8 (lay:=hb) (boxed1_0 _ _)))
     go_ret
     exact ⟨rfl,Zq0,Zq2⟩
    ·cases hc:inB cond 0 bits
     ·rw[show validOp ⟨1,⟨gk,ga,gb,gc⟩,0,0,cond⟩ n bits=false by simp [validOp,hc]]
      go_enter Try.func38,Try.ntmps38
      go_wp2_with (first|(go_at_call 32;refine(l1In_any _ _ _ _).mono ?_;rintro e w' ⟨rfl,rfl⟩)|(go_at_call 54;refine(IsValidGate_spec _ _ _ _ _ _).mono ?_;rintro e w' ⟨rfl,hb,hs⟩;simp at hs;obtain ⟨p0,p1,p2,p3,p4,p5,p6,p7⟩:=boxcells8 (lay:=hb) (boxed1_0 _ _)))
      go_ret
      exact ⟨rfl,Zq0,Zq2⟩
     ·rw[show validOp ⟨1,⟨gk,ga,gb,gc⟩,0,0,cond⟩ n bits=true by simp [validOp,hn,hbt,hv,hc]]
      go_enter Try.func38,Try.ntmps38
      go_wp2_with (first|(go_at_call 32;refine(l1In_any _ _ _ _).mono ?_;rintro e w' ⟨rfl,rfl⟩)|(go_at_call 54;refine(IsValidGate_spec _ _ _ _ _ _).mono ?_;rintro e w' ⟨rfl,hb,hs⟩;simp at hs;obtain ⟨p0,p1,p2,p3,p4,p5,p6,p7⟩:=boxcells8 (lay:=hb) (boxed1_0 _ _)))
      go_ret
      exact ⟨rfl,Zq0,Zq2⟩
   ·rw[show validOp ⟨1,⟨gk,ga,gb,gc⟩,0,bit,cond⟩ n bits=false by simp [validOp,hb]]
    go_enter Try.func38,Try.ntmps38
    go_wp2_with (first|(go_at_call 32;refine(l1In_any _ _ _ _).mono ?_;rintro e w' ⟨rfl,rfl⟩)|(go_at_call 54;refine(IsValidGate_spec _ _ _ _ _ _).mono ?_;rintro e w' ⟨rfl,hb,hs⟩;simp at hs;obtain ⟨p0,p1,p2,p3,p4,p5,p6,p7⟩:=boxcells8 (lay:=hb) (boxed1_0 _ _)))
    go_ret
    exact ⟨rfl,Zq0,Zq2⟩
  ·rw[show validOp ⟨1,⟨gk,ga,gb,gc⟩,q,bit,cond⟩ n bits=false by simp [validOp,hq]]
   go_enter Try.func38,Try.ntmps38
   go_wp2_with (first|(go_at_call 32;refine(l1In_any _ _ _ _).mono ?_;rintro e w' ⟨rfl,rfl⟩)|(go_at_call 54;refine(IsValidGate_spec _ _ _ _ _ _).mono ?_;rintro e w' ⟨rfl,hb,hs⟩;simp at hs;obtain ⟨p0,p1,p2,p3,p4,p5,p6,p7⟩:=boxcells8 (lay:=hb) (boxed1_0 _ _)))
   go_ret
   exact ⟨rfl,Zq0,Zq2⟩
 have h1':(k==1)=false:=beq_eq_false_iff_ne.2 h1
 by_cases h2:k=2
 ·subst h2
  have hz:((((gk≠0∨gk=0∧ga≠0)∨gk=0∧ga=0∧gb≠0)∨gk=0∧ga=0∧gb=0∧gc≠0)∨gk=0∧ga=0∧gb=0∧gc=0∧cond≠0)∨gk=0∧ga=0∧gb=0∧gc=0∧cond=0:=by omega
  rcases hz with ((((h|⟨rfl,h⟩)|⟨rfl,rfl,h⟩)|⟨rfl,rfl,rfl,h⟩)|⟨rfl,rfl,rfl,rfl,h⟩)|⟨rfl,rfl,rfl,rfl,rfl⟩
  ·rw[show validOp ⟨2,⟨gk,ga,gb,gc⟩,q,bit,cond⟩ n bits=false by simp [validOp,zeroG,h]]
   go_enter Try.func38,Try.ntmps38
   go_wp2_with (first|(go_at_call 32;refine(l1In_any _ _ _ _).mono ?_;rintro e w' ⟨rfl,rfl⟩)|(go_at_call 54;refine(IsValidGate_spec _ _ _ _ _ _).mono ?_;rintro e w' ⟨rfl,hb,hs⟩;simp at hs;obtain ⟨p0,p1,p2,p3,p4,p5,p6,p7⟩:=boxcells8 (lay:=hb) (boxed1_0 _ _)))
   go_ret
   exact ⟨rfl,Zq0,Zq2⟩
  ·rw[show validOp ⟨2,⟨0,ga,gb,gc⟩,q,bit,cond⟩ n bits=false by simp [validOp,zeroG,h]]
   go_enter Try.func38,Try.ntmps38
   go_wp2_with (first|(go_at_call 32;refine(l1In_any _ _ _ _).mono ?_;rintro e w' ⟨rfl,rfl⟩)|(go_at_call 54;refine(IsValidGate_spec _ _ _ _ _ _).mono ?_;rintro e w' ⟨rfl,hb,hs⟩;simp at hs;obtain ⟨p0,p1,p2,p3,p4,p5,p6,p7⟩:=boxcells8 (lay:=hb) (boxed1_0 _ _)))
   go_ret
   exact ⟨rfl,Zq0,Zq2⟩
  ·rw[show validOp ⟨2,⟨0,0,gb,gc⟩,q,bit,cond⟩ n bits=false by simp [validOp,zeroG,h]]
   go_enter Try.func38,Try.ntmps38
   go_wp2_with (first|(go_at_call 32;refine(l1In_any _ _ _ _).mono ?_;rintro e w' ⟨rfl,rfl⟩)|(go_at_call 54;refine(IsValidGate_spec _ _ _ _ _ _).mono ?_;rintro e w' ⟨rfl,hb,hs⟩;simp at hs;obtain ⟨p0,p1,p2,p3,p4,p5,p6,p7⟩:=boxcells8 (lay:=hb) (boxed1_0 _ _)))
   go_ret
   exact ⟨rfl,Zq0,Zq2⟩
  ·rw[show validOp ⟨2,⟨0,0,0,gc⟩,q,bit,cond⟩ n bits=false by simp [validOp,zeroG,h]]
   go_enter Try.func38,Try.ntmps38
   go_wp2_with (first|(go_at_call 32;refine(l1In_any _ _ _ _).mono ?_;rintro e w' ⟨rfl,rfl⟩)|(go_at_call 54;refine(IsValidGate_spec _ _ _ _ _ _).mono ?_;rintro e w' ⟨rfl,hb,hs⟩;simp at hs;obtain ⟨p0,p1,p2,p3,p4,p5,p6,p7⟩:=boxcells8 (lay:=hb) (boxed1_0 _ _)))
   go_ret
   exact ⟨rfl,Zq0,Zq2⟩
  ·rw[show validOp ⟨2,⟨0,0,0,0⟩,q,bit,cond⟩ n bits=false by simp [validOp,zeroG,h]]
   go_enter Try.func38,Try.ntmps38
   go_wp2_with (first|(go_at_call 32;refine(l1In_any _ _ _ _).mono ?_;rintro e w' ⟨rfl,rfl⟩)|(go_at_call 54;refine(IsValidGate_spec _ _ _ _ _ _).mono ?_;rintro e w' ⟨rfl,hb,hs⟩;simp at hs;obtain ⟨p0,p1,p2,p3,p4,p5,p6,p7⟩:=boxcells8 (lay:=hb) (boxed1_0 _ _)))
   go_ret
   exact ⟨rfl,Zq0,Zq2⟩
  ·cases hq:inB q 0 (n - 1)
   ·rw[show validOp ⟨2,⟨0,0,0,0⟩,q,bit,0⟩ n bits=false by simp [validOp,zeroG,hq]]
    go_enter Try.func38,Try.ntmps38
    go_wp2_with (first|(go_at_call 32;refine(l1In_any _ _ _ _).mono ?_;rintro e w' ⟨rfl,rfl⟩)|(go_at_call 54;refine(IsValidGate_spec _ _ _ _ _ _).mono ?_;rintro e w' ⟨rfl,hb,hs⟩;simp at hs;obtain ⟨p0,p1,p2,p3,p4,p5,p6,p7⟩:=boxcells8 (lay:=hb) (boxed1_0 _ _)))
    go_ret
    exact ⟨rfl,Zq0,Zq2⟩
   ·cases hc:inB bit 0 (bits - 1)
    ·rw[show validOp ⟨2,⟨0,0,0,0⟩,q,bit,0⟩ n bits=false by simp [validOp,zeroG,hc]]
     go_enter Try.func38,Try.ntmps38
     go_wp2_with (first|(go_at_call 32;refine(l1In_any _ _ _ _).mono ?_;rintro e w' ⟨rfl,rfl⟩)|(go_at_call 54;refine(IsValidGate_spec _ _ _ _ _ _).mono ?_;rintro e w' ⟨rfl,hb,hs⟩;simp at hs;obtain ⟨p0,p1,p2,p3,p4,p5,p6,p7⟩:=boxcells8 (lay:=hb) (boxed1_0 _ _)))
     go_ret
     exact ⟨rfl,Zq0,Zq2⟩
    ·rw[show validOp ⟨2,⟨0,0,0,0⟩,q,bit,0⟩ n bits=true by simp [validOp,zeroG,hn,hbt,hq,hc]]
     go_enter Try.func38,Try.ntmps38
     go_wp2_with (first|(go_at_call 32;refine(l1In_any _ _ _ _).mono ?_;rintro e w' ⟨rfl,rfl⟩)|(go_at_call 54;refine(IsValidGate_spec _ _ _ _ _ _).mono ?_;rintro e w' ⟨rfl,hb,hs⟩;simp at hs;obtain ⟨p0,p1,p2,p3,p4,p5,p6,p7⟩:=boxcells8 (lay:=hb) (boxed1_0 _ _)))
     go_ret
     exact ⟨rfl,Zq0,Zq2⟩
 have h2':(k==2)=false:=beq_eq_false_iff_ne.2 h2
 by_cases h3:k=3
 ·subst h3
  have hz:(((((gk≠0∨gk=0∧ga≠0)∨gk=0∧ga=0∧gb≠0)∨gk=0∧ga=0∧gb=0∧gc≠0)∨gk=0∧ga=0∧gb=0∧gc=0∧bit≠0)∨gk=0∧ga=0∧gb=0∧gc=0∧bit=0∧cond≠0)∨gk=0∧ga=0∧gb=0∧gc=0∧bit=0∧cond=0:=by omega
  rcases hz with (((((h|⟨rfl,h⟩)|⟨rfl,rfl,h⟩)|⟨rfl,rfl,rfl,h⟩)|⟨rfl,rfl,rfl,rfl,h⟩)|⟨rfl,rfl,rfl,rfl,rfl,h⟩)|⟨rfl,rfl,rfl,rfl,rfl,rfl⟩
  ·rw[show validOp ⟨3,⟨gk,ga,gb,gc⟩,q,bit,cond⟩ n bits=false by simp [validOp,zeroG,h]]
   go_enter Try.func38,Try.ntmps38
   go_wp2_with (first|(go_at_call 32;refine(l1In_any _ _ _ _).mono ?_;rintro e w' ⟨rfl,rfl⟩)|(go_at_call 54;refine(IsValidGate_spec _ _ _ _ _ _).mono ?_;rintro e w' ⟨rfl,hb,hs⟩;simp at hs;obtain ⟨p0,p1,p2,p3,p4,p5,p6,p7⟩:=boxcells8 (lay:=hb) (boxed1_0 _ _)))
   go_ret
   exact ⟨rfl,Zq0,Zq2⟩
  ·rw[show validOp ⟨3,⟨0,ga,gb,gc⟩,q,bit,cond⟩ n bits=false by simp [validOp,zeroG,h]]
   go_enter Try.func38,Try.ntmps38
   go_wp2_with (first|(go_at_call 32;refine(l1In_any _ _ _ _).mono ?_;rintro e w' ⟨rfl,rfl⟩)|(go_at_call 54;refine(IsValidGate_spec _ _ _ _ _ _).mono ?_;rintro e w' ⟨rfl,hb,hs⟩;simp at hs;obtain ⟨p0,p1,p2,p3,p4,p5,p6,p7⟩:=boxcells8 (lay:=hb) (boxed1_0 _ _)))
   go_ret
   exact ⟨rfl,Zq0,Zq2⟩
  ·rw[show validOp ⟨3,⟨0,0,gb,gc⟩,q,bit,cond⟩ n bits=false by simp [validOp,zeroG,h]]
   go_enter Try.func38,Try.ntmps38
   go_wp2_with (first|(go_at_call 32;refine(l1In_any _ _ _ _).mono ?_;rintro e w' ⟨rfl,rfl⟩)|(go_at_call 54;refine(IsValidGate_spec _ _ _ _ _ _).mono ?_;rintro e w' ⟨rfl,hb,hs⟩;simp at hs;obtain ⟨p0,p1,p2,p3,p4,p5,p6,p7⟩:=boxcells8 (lay:=hb) (boxed1_0 _ _)))
   go_ret
   exact ⟨rfl,Zq0,Zq2⟩
  ·rw[show validOp ⟨3,⟨0,0,0,gc⟩,q,bit,cond⟩ n bits=false by simp [validOp,zeroG,h]]
   go_enter Try.func38,Try.ntmps38
   go_wp2_with (first|(go_at_call 32;refine(l1In_any _ _ _ _).mono ?_;rintro e w' ⟨rfl,rfl⟩)|(go_at_call 54;refine(IsValidGate_spec _ _ _ _ _ _).mono ?_;rintro e w' ⟨rfl,hb,hs⟩;simp at hs;obtain ⟨p0,p1,p2,p3,p4,p5,p6,p7⟩:=boxcells8 (lay:=hb) (boxed1_0 _ _)))
   go_ret
   exact ⟨rfl,Zq0,Zq2⟩
  ·rw[show validOp ⟨3,⟨0,0,0,0⟩,q,bit,cond⟩ n bits=false by simp [validOp,zeroG,h]]
   go_enter Try.func38,Try.ntmps38
   go_wp2_with (first|(go_at_call 32;refine(l1In_any _ _ _ _).mono ?_;rintro e w' ⟨rfl,rfl⟩)|(go_at_call 54;refine(IsValidGate_spec _ _ _ _ _ _).mono ?_;rintro e w' ⟨rfl,hb,hs⟩;simp at hs;obtain ⟨p0,p1,p2,p3,p4,p5,p6,p7⟩:=boxcells8 (lay:=hb) (boxed1_0 _ _)))
   go_ret
   exact ⟨rfl,Zq0,Zq2⟩
  ·rw[show validOp ⟨3,⟨0,0,0,0⟩,q,0,cond⟩ n bits=false by simp [validOp,zeroG,h]]
   go_enter Try.func38,Try.ntmps38
   go_wp2_with (first|(go_at_call 32;refine(l1In_any _ _ _ _).mono ?_;rintro e w' ⟨rfl,rfl⟩)|(go_at_call 54;refine(IsValidGate_spec _ _ _ _ _ _).mono ?_;rintro e w' ⟨rfl,hb,hs⟩;simp at hs;obtain ⟨p0,p1,p2,p3,p4,p5,p6,p7⟩:=boxcells8 (lay:=hb) (boxed1_0 _ _)))
   go_ret
   exact ⟨rfl,Zq0,Zq2⟩
  ·cases hq:inB q 0 (n - 1)
   ·rw[show validOp ⟨3,⟨0,0,0,0⟩,q,0,0⟩ n bits=false by simp [validOp,zeroG,hq]]
    go_enter Try.func38,Try.ntmps38
    go_wp2_with (first|(go_at_call 32;refine(l1In_any _ _ _ _).mono ?_;rintro e w' ⟨rfl,rfl⟩)|(go_at_call 54;refine(IsValidGate_spec _ _ _ _ _ _).mono ?_;rintro e w' ⟨rfl,hb,hs⟩;simp at hs;obtain ⟨p0,p1,p2,p3,p4,p5,p6,p7⟩:=boxcells8 (lay:=hb) (boxed1_0 _ _)))
    go_ret
    exact ⟨rfl,Zq0,Zq2⟩
   ·rw[show validOp ⟨3,⟨0,0,0,0⟩,q,0,0⟩ n bits=true by simp [validOp,zeroG,hn,hbt,hq]]
    go_enter Try.func38,Try.ntmps38
    go_wp2_with (first|(go_at_call 32;refine(l1In_any _ _ _ _).mono ?_;rintro e w' ⟨rfl,rfl⟩)|(go_at_call 54;refine(IsValidGate_spec _ _ _ _ _ _).mono ?_;rintro e w' ⟨rfl,hb,hs⟩;simp at hs;obtain ⟨p0,p1,p2,p3,p4,p5,p6,p7⟩:=boxcells8 (lay:=hb) (boxed1_0 _ _)))
    go_ret
    exact ⟨rfl,Zq0,Zq2⟩
 have h3':(k==3)=false:=beq_eq_false_iff_ne.2 h3
 rw[show validOp ⟨k,⟨gk,ga,gb,gc⟩,q,bit,cond⟩ n bits=false by simp [validOp,h1,h2,h3]]
 clear h1 h2 h3
 go_enter Try.func38,Try.ntmps38
 go_wp2_with (first|(go_at_call 32;refine(l1In_any _ _ _ _).mono ?_;rintro e w' ⟨rfl,rfl⟩)|(go_at_call 54;refine(IsValidGate_spec _ _ _ _ _ _).mono ?_;rintro e w' ⟨rfl,hb,hs⟩;simp at hs;obtain ⟨p0,p1,p2,p3,p4,p5,p6,p7⟩:=boxcells8 (lay:=hb) (boxed1_0 _ _)))
 go_ret
 exact ⟨rfl,Zq0,Zq2⟩
theorem ocells_len (x:Opt):(ocells x).length=8:=rfl
theorem info_OpE:(Try.prog.info? 60).map (fun i=>(i.zero,i.size,i.bytes))=some (some (.agg #[.int .i64 0,.int .i64 0,.int .i64 0,.int .i64 0,.int .i64 0,.int .i64 0,.int .i64 0,.int .i64 0]),8,64):=by kernel_rfl
theorem ocells_one (o:Opt):((ocells o).all Value.oneCell')=true:=rfl
theorem rd_lit {w:World} {cs:Array Value} {e n size b:Nat} (h0:b=w.heap.size) (hs:cs.size=n*size):Rd (w.alloc (.cells cs e)) size (some ⟨b,0,none⟩) n cs.toList:=by
 subst h0
 refine ⟨by simpa using hs,fun _=>⟨_,0,rfl,by simp,fun j u hu=>?_⟩⟩
 have h:=heap_alloc_new w (.cells cs e)
 have hc:cs[j]?=some u:=by rw[←Array.getElem?_toList];exact hu
 rw[Nat.zero_add]
 exact cell_at h hc

def gop (cond:Int) (g:Gt):Opt:=⟨1,g,0,0,cond⟩
theorem GateOps_spec (A:Option Addr) (n c:Nat) (l:List Gt) (cond:Int) (w:World) (h:Rd w 4 A n (l.flatMap gcells)) (hl:l.length=n) (hn:n≤1073741824) :
  Calls Try.prog 68 #[.slice A n c,.int .i64 cond] w (RetRow 60 8 w n ((l.map (gop cond)).flatMap ocells)):=by
 obtain ⟨i0,hi,hz0,hz1,hz2⟩:=info_parts info_OpE
 have H:=hD h
 have HL:=hD hl
 clear h hl
 go_enter Try.func68,Try.ntmps68
 go_wp2
 go_loopw [5,6] (fun v i wr=>∃ t:Nat,t≤n∧i=.int .i64 t∧wr.ownsRow w.heap.size 60 8 v t (((l.take t).map (gop cond)).flatMap ocells)∧Below w.heap.size w wr) (fun _ i _=>n - (intOf i).toNat)
 case atStart=>exact ⟨0,Nat.zero_le _,rfl,by simpa using own_empty w _ 8,Zq0⟩
 case round =>
  obtain ⟨t,ht,rfl,hown,hb⟩:=hrel
  by_cases hlt:t<n
  ·have htl:t<l.length:=by rw[HL.out];exact hlt
   obtain ⟨g,hg⟩:∃ g,l[t]?=some g:=⟨_,List.getElem?_eq_getElem htl⟩
   obtain ⟨b,off,rfl,hbl,hc⟩:=H.out.2 Zq1
   have q0:wr.cell? ⟨b,off+t*4,none⟩=some (.int .i64 g.k):=(hb.cell (by exact hbl)).trans (hc (t*4+0) _ (flat_at gcells_len l t g 0 hg Zq4))
   have q1:wr.cell? ⟨b,off+t*4+1,none⟩=some (.int .i64 g.a):=(hb.cell (by exact hbl)).trans (hc (t*4+1) _ (flat_at gcells_len l t g 1 hg Zq4))
   have q2:wr.cell? ⟨b,off+t*4+2,none⟩=some (.int .i64 g.b):=(hb.cell (by exact hbl)).trans (hc (t*4+2) _ (flat_at gcells_len l t g 2 hg Zq4))
   have q3:wr.cell? ⟨b,off+t*4+3,none⟩=some (.int .i64 g.c):=(hb.cell (by exact hbl)).trans (hc (t*4+3) _ (flat_at gcells_len l t g 3 hg Zq4))
   have HG:=hD hg
   obtain ⟨L,hL⟩:∃ L,L=((l.take t).map (gop cond)).flatMap ocells:=⟨_,rfl⟩
   rw[←hL] at hown
   have HL2:=hD hL
   clear hc hg htl hL
   go_wp2_with (at_builtin;refine wpList_append_rd _ rfl _ _ 31 rfl w.heap.size 60 i0 _ 8 64 Try.underlying31 hi hz0 hz1 hz2 rfl Zq4 _ _ _ rfl (hown.alloc _) _ 1 1 _ rfl (rd_lit ?c0 rfl) ?c2 ?c3 ?c4 ?c5 ?_)
   case c0=>first|rfl|simp
   case c2=>repeat' (first|rfl|apply And.intro)
   case c3=>simp only[maxLen];omega
   case c4=>omega
   case c5=>have:=hb.size;simp;omega
   intro v3 w3 own3 gr3 _
   have b3:=(hb.alloc hb.size _).grown gr3 (by have:=hb.size;simp;omega) (own_ge hown)
   clear hown gr3
   go_wp2
   go_roundw
   case rel =>
    refine ⟨t+1,by omega,by go_num,?_,b3⟩
    rw[List.take_add_one,HG.out,List.map_append,List.flatMap_append,←HL2.out]
    exact own3
   case measure=>simp [intOf];omega
  ·obtain rfl:t=n:=by omega
   go_wp2
   go_ret
   exact ⟨_,rfl,by rw[List.take_of_length_le (by rw[HL.out];exact Nat.le_refl _)] at hown;exact hown,hb,hb.size⟩

def invk (k:Int):Int:=if k=5 then 6 else if k=6 then 5 else if k=7 then 8 else if k=8 then 7 else k
theorem invk_ne {k:Int} (h5:k≠5) (h6:k≠6) (h7:k≠7) (h8:k≠8):invk k=k:=by simp [invk,h5,h6,h7,h8]
def invG (g:Gt):Gt:=⟨invk g.k,g.a,g.b,g.c⟩
theorem InverseGate_spec (k a b c:Int) (w:World):Calls Try.prog 66 #[.agg #[.int .i64 k,.int .i64 a,.int .i64 b,.int .i64 c]] w fun e w' =>
  e=.returned (.agg #[.int .i64 (invk k),.int .i64 a,.int .i64 b,.int .i64 c])∧(w.alloc (.cells #[.int .i64 (invk k),.int .i64 a,.int .i64 b,.int .i64 c] 58)).alloc (.cells #[.int .i64 (invk k),.int .i64 a,.int .i64 b,.int .i64 c] 58)=w':=by
 by_cases h5:k=5
 ·subst h5
  go_enter Try.func66,Try.ntmps66
  go_wp2
  exact bodyPost_ret (v:=.agg #[.int .i64 6,.int .i64 a,.int .i64 b,.int .i64 c]) (by simp [results,Try.results66,go_sem]) rfl ⟨rfl,rfl⟩
 by_cases h6:k=6
 ·subst h6
  go_enter Try.func66,Try.ntmps66
  go_wp2
  exact bodyPost_ret (v:=.agg #[.int .i64 5,.int .i64 a,.int .i64 b,.int .i64 c]) (by simp [results,Try.results66,go_sem]) rfl ⟨rfl,rfl⟩
 by_cases h7:k=7
 ·subst h7
  go_enter Try.func66,Try.ntmps66
  go_wp2
  exact bodyPost_ret (v:=.agg #[.int .i64 8,.int .i64 a,.int .i64 b,.int .i64 c]) (by simp [results,Try.results66,go_sem]) rfl ⟨rfl,rfl⟩
 by_cases h8:k=8
 ·subst h8
  go_enter Try.func66,Try.ntmps66
  go_wp2
  exact bodyPost_ret (v:=.agg #[.int .i64 7,.int .i64 a,.int .i64 b,.int .i64 c]) (by simp [results,Try.results66,go_sem]) rfl ⟨rfl,rfl⟩
 rw[invk_ne h5 h6 h7 h8]
 have e5:(k==5)=false:=beq_eq_false_iff_ne.2 h5
 have e6:(k==6)=false:=beq_eq_false_iff_ne.2 h6
 have e7:(k==7)=false:=beq_eq_false_iff_ne.2 h7
 have e8:(k==8)=false:=beq_eq_false_iff_ne.2 h8
 clear h5 h6 h7 h8
 go_enter Try.func66,Try.ntmps66
 go_wp2
 exact bodyPost_ret (v:=.agg #[.int .i64 k,.int .i64 a,.int .i64 b,.int .i64 c]) (by simp [results,Try.results66,go_sem]) rfl ⟨rfl,rfl⟩
def coL (q:Int) (o:Opt):List Opt:=if o.k=1 then (cgL q o.g).map (gop o.cond) else [o]
def coB (q:Int) (o:Opt):Bool:=if o.k=1 then cgB q o.g else true
theorem coB_not (q:Int) {o:Opt} (h:(o.k==1)=false):coB q o=true:=by
 have h1:¬ o.k=1:=by simpa using h
 simp [coB,h1]
theorem coL_not (q:Int) {o:Opt} (h:(o.k==1)=false):coL q o=[o]:=by
 have h1:¬ o.k=1:=by simpa using h
 simp [coL,h1]
theorem coB_gate {q:Int} {o:Opt} {x:Bool} (h:(o.k==1)=true) (hx:cgB q ⟨o.g.k,o.g.a,o.g.b,o.g.c⟩=x):coB q o=x:=by
 have h1:o.k=1:=by simpa using h
 simp [coB,h1]
 exact hx
theorem coL_gate (q:Int) {o:Opt} (h:(o.k==1)=true):coL q o=(cgL q ⟨o.g.k,o.g.a,o.g.b,o.g.c⟩).map (gop o.cond):=by
 have h1:o.k=1:=by simpa using h
 simp [coL,h1]
theorem coL_len (q:Int) (o:Opt):(coL q o).length≤7:=by
 unfold coL
 split
 ·simpa using cgL_len q o.g
 ·simp
def cos (q:Int):List Opt→Option (List Opt)
 | []=>some []
 | g :: l=>if coB q g then (cos q l).map (coL q g++·) else none
def osB (q:Int) (l:List Opt):Bool:=(cos q l).isSome
def osL (q:Int) (l:List Opt):List Opt:=(cos q l).getD []
theorem cos_len {q:Int}:∀ {l:List Opt} {L:List Opt},cos q l=some L→L.length≤l.length*7:=by
 intro l
 induction l with
 | nil=>intro L h;simp [cos] at h;subst h;simp
 | cons g l ih =>
  intro L h
  simp only[cos] at h
  split at h
  ·rw[Option.map_eq_some_iff] at h
   obtain ⟨M,h1,rfl⟩:=h
   have:=ih h1
   have:=coL_len q g
   simp only[List.length_append,List.length_cons]
   omega
  ·cases h
theorem cos_snoc {q:Int} {g:Opt} (hk:coB q g=true):∀ {l:List Opt} {L:List Opt},cos q l=some L→cos q (l++[g])=some (L++coL q g):=by
 intro l
 induction l with
 | nil=>intro L h;simp [cos] at h;subst h;simp [cos,hk]
 | cons x l ih =>
  intro L h
  simp only[cos] at h
  split at h
  ·rename_i hx
   rw[Option.map_eq_some_iff] at h
   obtain ⟨M,h1,rfl⟩:=h
   simp only[List.cons_append,cos,hx,if_true,ih h1,Option.map_some,List.append_assoc]
  ·cases h
theorem cos_step {q:Int} {l L:List Opt} {t:Nat} {g:Opt} (h:cos q (l.take t)=some L) (hg:l[t]?=some g) (hk:coB q g=true):cos q (l.take (t+1))=some (L++coL q g):=by
 rw[List.take_add_one,hg]
 exact cos_snoc hk h
theorem os_none {q:Int} {t:Nat} {g:Opt}:∀ {l:List Opt},l[t]?=some g→coB q g=false→osB q l=false∧osL q l=[]:=by
 have key:∀ {l:List Opt} {t:Nat},l[t]?=some g→coB q g=false→cos q l=none:=by
  intro l
  induction l with
  | nil=>intro t h;simp at h
  | cons x l ih =>
   intro t h hk
   cases t with
   | zero=>simp at h;subst h;simp [cos,hk]
   | succ t =>
    simp only[cos]
    split
    ·rw[ih (by simpa using h) hk];rfl
    ·rfl
 intro l h hk
 exact ⟨by rw[osB,key h hk];rfl,by rw[osL,key h hk];rfl⟩
theorem osL_le (q:Int) (l:List Opt):(osL q l).length≤l.length*7:=by
 unfold osL
 cases h:cos q l with
 | none=>simp
 | some L=>exact cos_len h
theorem ControlledOps_spec (q:Int) (A:Option Addr) (n c:Nat) (l:List Opt) (w:World) (h:Rd w 8 A n (l.flatMap ocells)) (hl:l.length=n) (hn:n≤1073741824) :
  Calls Try.prog 49 #[.int .i64 q,.slice A n c] w (RetRow2 60 8 w (osB q l) (osL q l).length ((osL q l).flatMap ocells)):=by
 obtain ⟨i0,hi,hz0,hz1,hz2⟩:=info_parts info_OpE
 have H:=hD h
 have HL:=hD hl
 clear h hl
 go_enter Try.func49,Try.ntmps49
 go_wp2
 go_loopw [6,7] (fun v i wr=>∃ (t:Nat) (L:List Opt),t≤n∧i=.int .i64 t∧cos q (l.take t)=some L∧wr.ownsRow w.heap.size 60 8 v L.length (L.flatMap ocells)∧Below w.heap.size w wr) (fun _ i _=>n - (intOf i).toNat)
 case atStart=>exact ⟨0,[],Nat.zero_le _,rfl,rfl,by simpa using own_empty w _ 8,Zq0⟩
 case round =>
  obtain ⟨t,L,ht,rfl,hcg,hown,hb⟩:=hrel
  have hd1:=cos_len hcg
  have hd3:=List.length_take_le t l
  have hd:L.length≤t*7:=Nat.le_trans hd1 (Nat.mul_le_mul_right _ hd3)
  have HC:=hD hcg
  clear hcg hd1 hd3
  by_cases hlt:t<n
  ·have htl:t<l.length:=by rw[HL.out];exact hlt
   obtain ⟨o,ho⟩:∃ o,l[t]?=some o:=⟨_,List.getElem?_eq_getElem htl⟩
   obtain ⟨b,off,rfl,hbl,hc⟩:=H.out.2 Zq1
   have q0:wr.cell? ⟨b,off+t*8,none⟩=some (.int .i64 o.k):=(hb.cell (by exact hbl)).trans (hc (t*8+0) _ (flat_at ocells_len l t o 0 ho Zq4))
   have q1:wr.cell? ⟨b,off+t*8+1,none⟩=some (.int .i64 o.g.k):=(hb.cell (by exact hbl)).trans (hc (t*8+1) _ (flat_at ocells_len l t o 1 ho Zq4))
   have q2:wr.cell? ⟨b,off+t*8+2,none⟩=some (.int .i64 o.g.a):=(hb.cell (by exact hbl)).trans (hc (t*8+2) _ (flat_at ocells_len l t o 2 ho Zq4))
   have q3:wr.cell? ⟨b,off+t*8+3,none⟩=some (.int .i64 o.g.b):=(hb.cell (by exact hbl)).trans (hc (t*8+3) _ (flat_at ocells_len l t o 3 ho Zq4))
   have q4:wr.cell? ⟨b,off+t*8+4,none⟩=some (.int .i64 o.g.c):=(hb.cell (by exact hbl)).trans (hc (t*8+4) _ (flat_at ocells_len l t o 4 ho Zq4))
   have q5:wr.cell? ⟨b,off+t*8+5,none⟩=some (.int .i64 o.q):=(hb.cell (by exact hbl)).trans (hc (t*8+5) _ (flat_at ocells_len l t o 5 ho Zq4))
   have q6:wr.cell? ⟨b,off+t*8+6,none⟩=some (.int .i64 o.bit):=(hb.cell (by exact hbl)).trans (hc (t*8+6) _ (flat_at ocells_len l t o 6 ho Zq4))
   have q7:wr.cell? ⟨b,off+t*8+7,none⟩=some (.int .i64 o.cond):=(hb.cell (by exact hbl)).trans (hc (t*8+7) _ (flat_at ocells_len l t o 7 ho Zq4))
   have HG:=hD ho
   have HC0:=hD hc
   clear hc ho htl
   cases hk:(o.k==1)
   ·have hk':(o.k != 1)=true:=by simp only[bne,hk];rfl
    have HS:=hD (cos_step HC.out HG.out (coB_not q hk))
    have HO:=hD (coL_not q hk)
    clear hk
    go_wp2_with (at_builtin;refine wpList_append_rd _ rfl _ _ 31 rfl w.heap.size 60 i0 _ 8 64 Try.underlying31 hi hz0 hz1 hz2 rfl Zq4 _ _ _ rfl (hown.alloc _) _ 1 1 _ rfl (rd_lit ?c0 rfl) ?c2 ?c3 ?c4 ?c5 ?_)
    case c0=>first|rfl|simp
    case c2=>repeat' (first|rfl|apply And.intro)
    case c3=>simp only[maxLen];omega
    case c4=>omega
    case c5=>have:=hb.size;simp;omega
    intro v3 w3 own3 gr3 _
    have b3:=(hb.alloc hb.size _).grown gr3 (by have:=hb.size;simp;omega) (own_ge hown)
    clear hown gr3
    go_wp2_with fail
    go_roundw
    case rel =>
     refine ⟨t+1,_,by omega,by go_num,HS.out,?_,b3⟩
     rw[HO.out,List.flatMap_append,List.length_append]
     exact own3
    case measure=>simp [intOf];omega
   have hk':(o.k != 1)=false:=by simp only[bne,hk];rfl
   have HK:=hD hk
   clear hk
   go_wp2_with fail
   refine(ControlledGate_spec2 _ _ _ _ _ _).mono ?_
   rintro e w2 ⟨v2,rfl,own2,hb2,hs2⟩
   (try simp at hs2)
   obtain ⟨A2,c2,rfl,_,_,r2⟩:=rd_of_own own2
   have hown2:=ownsRow_below (hown) hb2
   have hb2':Below w.heap.size w w2:=hb.trans (hb2.mono hb.size)
   have hd2:=cgL_len q ⟨o.g.k,o.g.a,o.g.b,o.g.c⟩
   clear q0 q1 q2 q3 q4 q5 q6 q7
   have z7:w2.cell? ⟨b,off+t*8+7,none⟩=some (.int .i64 o.cond):=(hb2'.cell (by exact hbl)).trans (HC0.out (t*8+7) _ (flat_at ocells_len l t o 7 HG.out Zq4))
   clear hown own2 hb2
   cases hk:cgB q ⟨o.g.k,o.g.a,o.g.b,o.g.c⟩
   ·have HF:=hD (os_none (l:=l) HG.out (coB_gate HK.out hk))
    go_wp2_with fail
    go_ret2
    rw[show osB q l=false from HF.out.1,show osL q l=[] from HF.out.2]
    exact retRow2_lit hb2'.size hb2' rfl (by simp [maxLen]) rfl rfl
   ·have HS:=hD (cos_step HC.out HG.out (coB_gate HK.out hk))
    have HO:=hD (coL_gate q HK.out)
    go_wp2_with fail
    refine(GateOps_spec _ _ _ (cgL q ⟨o.g.k,o.g.a,o.g.b,o.g.c⟩) _ _ r2 rfl Zq1).mono ?_
    rintro e w3 ⟨v3,rfl,own3,hb3,hs3⟩
    obtain ⟨A3,c3,rfl,_,_,r3⟩:=rd_of_own own3
    have hown3:=ownsRow_below hown2 hb3
    have hb3':Below w.heap.size w w3:=hb2'.trans (hb3.mono hb2'.size)
    clear own3 hown2 r2
    go_wp2_with (at_builtin;refine wpList_append_rd _ rfl _ _ 31 rfl w.heap.size 60 i0 _ 8 64 Try.underlying31 hi hz0 hz1 hz2 rfl Zq4 _ _ _ rfl hown3 _ _ _ _ rfl r3 (one_flat ocells_one _) ?c3 ?c4 ?c5 ?_)
    case c3=>simp only[maxLen];omega
    case c4=>omega
    case c5=>exact hb3'.size
    intro v4 w4 own4 gr4 _
    have b4:=hb3'.grown gr4 hb3'.size (own_ge hown3)
    clear hown3 gr4 r3
    go_wp2_with fail
    go_roundw
    case rel =>
     refine ⟨t+1,_,by omega,by go_num,HS.out,?_,b4⟩
     rw[HO.out,List.flatMap_append,List.length_append,List.length_map]
     exact own4
    case measure=>simp [intOf];omega
  ·obtain rfl:t=n:=by omega
   have HF:Hid (osB q l=true∧osL q l=L):=by
    have h:=HC.out
    rw[List.take_of_length_le (by rw[HL.out];exact Nat.le_refl _)] at h
    exact ⟨by rw[osB,h];rfl,by rw[osL,h];rfl⟩
   go_wp2
   go_ret2
   rw[HF.out.1,HF.out.2]
   exact ⟨_,rfl,hown,hb,hb.size⟩
end Go.Proofs.Ythkbckkghnbonaa
