/- What the calls that this law reaches answer, part 1 of 20. -/
import Derived.WalkKit
import Derived.ProofKit
import Derived.OpenShut
import Derived.Carry
import Derived.Deep.Slices
import Derived.Deep.Fields
import Derived.ChangeSame
import Derived.Deep.Cut
import Derived.Deep.CutBlock
import Derived.Deep.DeepCutAuto
import Derived.Deep.LoopGhost
import Derived.StillTailTactics
import Derived.Deep.QuietTactic
import Derived.BigQuiet
import Derived.Deep.RegionHeld3
import Derived.Deep.RegionLaw
import Derived.Deep.RegionWith
import Derived.Lib.Hide
import Derived.Deep.DeepFit
import Derived.Deep.DeepMust
import Derived.WalkLawsBesides
import Derived.WalkSpells
import Derived.RegionTactic
import Derived.Deep.AppendLies
import Derived.Deep.Draws
import Derived.Maps.AppendAt
import Derived.Laws.OwnMore
import Derived.OwnWalk
import Derived.Outline
import Derived.Laws.Rows
import Derived.IntWalk
import Derived.Lib.SmallJoins
import Derived.Test.YthkbckkghnbonaaGreatDoorRows
import Derived.Test.YthkbckkghnbonaaGreatDoorProg
set_option maxRecDepth 100000
set_option maxHeartbeats 16000000
set_option linter.unusedVariables false
namespace Go.Proofs.YthkbckkghnbonaaGreatDoor
open Go.ChangeShapes Go.WideShapes Go.RowKit Go.Deep

section
variable {H:Type} {enc:TypeId × Value→H} {P:Program}
theorem hD {p:Prop} (h:p):Hid p:=Lib.hid h
theorem zA {α:Type _} (l:List α) (i:Nat) (a:α):l.toArray.setIfInBounds i a=(l.set i a).toArray:=List.setIfInBounds_toArray ..
theorem zB {α:Type _} (x:α) (l:List α) (n:Nat) (a:α):(x :: l).set (n+1) a=x :: l.set n a:=rfl
theorem zC {α:Type _} (x:α) (l:List α) (a:α):(x :: l).set 0 a=a :: l:=rfl
theorem Zq11 {p:Prop} (h:p:=by simp):p:=h
theorem ylz {W W':World} {sp:Nat→Bool} (hl:laidOutB P=true):∀ {ts:List TypeId} {vs:List Value} {ds:List (DataW H)} {ps:List MemPlace},
  (∀ t∈ts,P.readableRec t=true∧t<P.types.size)→DataW.TrodAll enc P W 0 (fun _=>true) true ts vs ds ps →
  (∀ x∈ps,W.sameAt W' x)→(∀ x∈ps,sp x.block=true)→DataW.TrodAll enc P W' 0 sp true ts vs ds ps:=by
 intro ts
 induction ts with
 | nil =>
  intro vs ds ps _ h _ _
  obtain ⟨rfl,rfl,rfl⟩:=trodAll_nil h
  exact trodAll_mk0
 | cons t ts ih =>
  intro vs ds ps ht h hs hsp
  obtain ⟨v,vs',d,ds',p,q,rfl,rfl,rfl,h0,h1⟩:=trodAll_cons h
  have h2:=ht t Zq11
  refine trodAll_cons_mk ?_ (ih (fun t' h'=>ht t' (by simp [h'])) h1 (fun x hx=>hs x (by simp [hx])) (fun x hx=>hsp x (by simp [hx])))
  exact WideElems.Trod_stays hl h2.1 h2.2 h0 (fun x hx=>hs x (by simp [hx])) (fun x hx=>hsp x (by simp [hx]))

theorem yl0 {f:Func} {s:ChangeSpec} {apart fresh handsOn again:Bool} {W W':World} {args:Array Value} {v:Value} {ds gs:List (DataW H)} {before pa pv:List MemPlace}
  (hW:DataW.Whole enc P f.params.toList s.vars apart W args.toList ds gs before)
  (hres:∀ (b:Nat) (sp:Nat→Bool) (hd:Bool),DataW.TrodAll enc P W' b sp hd f.resultTypes.toList (v.resultList f.resultTypes.size) (s.fn H (ds++gs)).results [])
  (hargs:∀ sp:Nat→Bool,(∀ p∈before,sp p.block=true)→DataW.TrodAll enc P W' 0 sp true f.params.toList args.toList (s.fn H (ds++gs)).args pa)
  (hvars:∀ sp:Nat→Bool,(∀ p∈before,sp p.block=true)→DataW.TrodVars enc P W' sp s.vars (s.fn H (ds++gs)).vars pv)
  (hps:before=pa++pv) (hb:Below W.heap.size W W')
  (hok:∀ (j:Nat) (t:TypeId) (r:Value),f.resultTypes[j]?=some t→(v.resultList f.resultTypes.size)[j]?=some r→Value.okWide P W' .any 0 t r) :
  s.post enc P f apart fresh handsOn again W args v W':=by
 have hlt:∀ p∈before,p.block<W.heap.size:=fun p hp=>hW.lt p hp
 have hold:∀ p∈before,(fun b=>decide (b<W.heap.size)) p.block=true:=fun p hp=>by simpa using hlt p hp
 refine ⟨ds,gs,before,[],pa,pv,hW,hres _ _ _,hargs _ hold,hvars _ hold,World.keptBut_mono (fun p hp=>⟨hp,?_⟩) (hb.frame (·∈before)),fun _=>?_⟩
 ·rw[hps,List.mem_append] at hp
  exact Or.inr hp
 ·obtain ⟨_,_,_,_,_,hz,hn⟩:=hW
  refine ⟨hok,_,_,([]++pa)++pv,⟨[]++pa,pv,trodAll_append (hargs _ (fun _ _=>rfl)) (hres _ _ _),hvars _ (fun _ _=>rfl),rfl,?_,?_⟩,?_⟩
  ·intro b off hp
   have hin:MemPlace.cell b off∈before:=by rw[hps];simpa using hp
   rw[hb.frozen (hlt _ hin)]
   exact hz b off hin
  ·intro ha
   have:=hn ha
   rw[hps] at this
   simpa using this
  ·intro p hp _
   rw[hps]
   simpa using hp
end

def ye2 (E size:Nat) (w:World) (n:Nat) (xs:List Value) (e:Ending) (w':World):Prop :=
 ∃ v,e=.returned v∧w'.ownsRow w.heap.size E size v n xs∧Below w.heap.size w w'∧w.heap.size≤w'.heap.size

theorem yat {w w':World} {base E size n:Nat} {v:Value} {xs:List Value} (h:w.ownsRow base E size v n xs) (hb:Below w.heap.size w w'):w'.ownsRow base E size v n xs :=
 h.kept (row:=none) ⟨hb.os,hb.tape,hb.output,hb.size,fun k hk _=>hb.block k hk⟩ (by cases v.ownBlock <;> simp)
def Rd (w:World) (size:Nat) (A:Option Addr) (n:Nat) (xs:List Value):Prop :=
 xs.length=n*size∧(0<n→∃ b off,A=some ⟨b,off,none⟩∧b<w.heap.size∧∀ j u,xs[j]?=some u→w.cell? ⟨b,off+j,none⟩=some u)
theorem Rd.below {w w':World} {size n:Nat} {A:Option Addr} {xs:List Value} (h:Rd w size A n xs) (hb:Below w.heap.size w w'):Rd w' size A n xs :=
 ⟨h.1,fun hn=>by
  obtain ⟨b,off,e,hl,hc⟩:=h.2 hn
  exact ⟨b,off,e,Nat.lt_of_lt_of_le hl hb.size,fun j u hu=>(hb.cell (p:=⟨b,off+j,none⟩) hl).trans (hc j u hu)⟩⟩
theorem Rd.len {w:World} {size n:Nat} {A:Option Addr} {xs:List Value} (h:Rd w size A n xs):xs.length=n*size:=h.1
theorem Zq6 {p:Prop} (h:p:=by omega):p:=h
theorem yah {w:World} {base E size n:Nat} {v:Value} {xs:List Value} (h:w.ownsRow base E size v n xs):∃ A c,v=.slice A n c∧n≤c∧c≤maxLen∧Rd w size A n xs:=by
 rcases h.2 with ⟨rfl,rfl⟩|⟨g,cap,cur,rfl,hb,hh,hc,hm,_,_⟩
 ·exact ⟨none,0,rfl,Nat.le_refl _,Nat.zero_le _,h.1,fun h=>absurd h Zq6⟩
 ·refine ⟨_,cap,rfl,hc,hm,h.1,fun _=>⟨g,0,rfl,(h.lt g rfl).2,fun j u hu=>?_⟩⟩
  have:=h.cells (g:=g) rfl j u hu
  rwa [Go.WideShapes.add_plain] at this

theorem yai {w w':World} {b:Nat} {x0 x1 x2 x3:Value} {t:TypeId} (lay:Below w'.heap.size w' w) (h:w'.heap[b]?=some (.cells #[x0,x1,x2,x3] t (0,0))) :
  w.cell? ⟨b,0,none⟩=some x0∧w.cell? ⟨b,1,none⟩=some x1∧w.cell? ⟨b,2,none⟩=some x2∧w.cell? ⟨b,3,none⟩=some x3:=by
 have h':w.heap[b]?=some (.cells #[x0,x1,x2,x3] t (0,0)):=(lay.block b (lt_of_block h)).trans h
 exact ⟨by simp [World.cell?,h'],by simp [World.cell?,h'],by simp [World.cell?,h'],by simp [World.cell?,h']⟩
theorem ya0 {w w':World} {b:Nat} {x0 x1 x2 x3 x4 x5 x6 x7:Value} {t:TypeId} (lay:Below w'.heap.size w' w) (h:w'.heap[b]?=some (.cells #[x0,x1,x2,x3,x4,x5,x6,x7] t (0,0))) :
  w.cell? ⟨b,0,none⟩=some x0∧w.cell? ⟨b,1,none⟩=some x1∧w.cell? ⟨b,2,none⟩=some x2∧w.cell? ⟨b,3,none⟩=some x3∧w.cell? ⟨b,4,none⟩=some x4∧w.cell? ⟨b,5,none⟩=some x5∧w.cell? ⟨b,6,none⟩=some x6∧w.cell? ⟨b,7,none⟩=some x7:=by
 have h':w.heap[b]?=some (.cells #[x0,x1,x2,x3,x4,x5,x6,x7] t (0,0)):=(lay.block b (lt_of_block h)).trans h
 exact ⟨by simp [World.cell?,h'],by simp [World.cell?,h'],by simp [World.cell?,h'],by simp [World.cell?,h'],by simp [World.cell?,h'],by simp [World.cell?,h'],by simp [World.cell?,h'],by simp [World.cell?,h']⟩
theorem yac (w:World) (o:Obj):(w.alloc o).heap[w.heap.size]?=some o:=heap_alloc_new w o
theorem ydo (w:World) (o o':Obj):((w.alloc o).alloc o').heap[w.heap.size]?=some o:=(Below.heap_alloc _ _ _ Zq11).trans (heap_alloc_new w o)
theorem yem (w:World) (o o':Obj):((w.alloc o).alloc o').heap[w.heap.size+1]?=some o':=by
 have h:=heap_alloc_new (w.alloc o) o'
 simpa using h
theorem Zq10 {p:Prop} (h:p:=by simp;omega):p:=h
theorem ydp (w:World) (o o' o'':Obj):(((w.alloc o).alloc o').alloc o'').heap[w.heap.size]?=some o:=(Below.heap_alloc _ _ _ Zq10).trans (ydo w o o')
theorem ycw (w:World) (o o' o'':Obj):(((w.alloc o).alloc o').alloc o'').heap[w.heap.size+1]?=some o':=(Below.heap_alloc _ _ _ Zq11).trans (yem w o o')
theorem ycx (w:World) (o o' o'':Obj):(((w.alloc o).alloc o').alloc o'').heap[w.heap.size+2]?=some o'':=by
 have h:=heap_alloc_new ((w.alloc o).alloc o') o''
 simpa using h
theorem yaj {w:World} {b j:Nat} {cs:Array Value} {t:TypeId} {u:Value} (h:w.heap[b]?=some (.cells cs t (0,0))) (hj:cs[j]?=some u):w.cell? ⟨b,j,none⟩=some u:=by simp [World.cell?,h,hj]
theorem yfp {w:World} {b:Nat} {cs:Array Value} {t:TypeId} (h:w.heap[b]?=some (.cells cs t (0,0))) {xs:List Value} (ys:List Value) (hp:cs.toList=xs++ys) :
  ∀ j u,xs[j]?=some u→w.cell? ((⟨b,0,none⟩:Addr).add j)=some u:=by
 intro j u hj
 have hc:cs[j]?=some u:=by
  rw[←Array.getElem?_toList,hp,List.getElem?_append_left (List.getElem?_eq_some_iff.1 hj).1]
  exact hj
 rw[Go.WideShapes.add_plain]
 simp [World.cell?,h,hc]
theorem yc1 {P:Program} {f:FuncId} {args:Array Value} {w:World} {n:Nat} {v:Value}
  (h:Calls P f args (w.drewN n) fun e w'=>e=.returned v∧w.drewN n=w'):Calls P f args (w.drewN n) fun e w''=>e=.returned v∧∃ m,w''=w.drewN m :=
 h.mono fun _ _ ⟨he,hm⟩=>⟨he,n,hm.symm⟩
theorem yaq {B:Nat} {a w:World} (h:Below B a w) (n:Nat):Below B a (w.drewN n):=⟨h.os,h.tape,h.output,h.size,h.block⟩
theorem Rd.drew {w:World} {size n:Nat} {A:Option Addr} {xs:List Value} (h:Rd w size A n xs):Rd w.drew size A n xs:=h
theorem Rd.drewN {w:World} {size n:Nat} {A:Option Addr} {xs:List Value} (h:Rd w size A n xs) (k:Nat):Rd (w.drewN k) size A n xs:=h
theorem Rd.take {w:World} {n:Nat} {A:Option Addr} {xs:List Value} (h:Rd w 1 A n xs) {t:Nat} (ht:t≤n):Rd w 1 A t (xs.take t) :=
 ⟨by rw[List.length_take,h.1];omega,fun h0=>by
  obtain ⟨b,off,e,hl,hc⟩:=h.2 Zq6
  exact ⟨b,off,e,hl,fun j u hu=>hc j u (by
   have hj:=(List.getElem?_eq_some_iff.1 hu).1
   rw[List.length_take] at hj
   rw[←hu,List.getElem?_take,if_pos Zq6])⟩⟩
theorem yd4 {w w':World} {B:Nat} {row:Option Nat} (h:w.grownBy w' row) (hB:B≤w.heap.size) (hr:∀ k,row=some k→B≤k):Below B w w':=(Below.refl _ _).grown h hB hr

structure Gt where
 k:Int
 a:Int
 b:Int
 c:Int
def ygb (g:Gt):List Value:=[.int .i64 g.k,.int .i64 g.a,.int .i64 g.b,.int .i64 g.c]
theorem yi4 {α:Type} (f:α→List Value) (k:Nat) (hf:∀ x,(f x).length=k):∀ l:List α,(l.flatMap f).length=l.length*k:=by
 intro l
 induction l with
 | nil=>simp
 | cons x l ih=>simp only[List.flatMap_cons,List.length_append,hf,ih,List.length_cons];rw[Nat.add_mul];omega
end Go.Proofs.YthkbckkghnbonaaGreatDoor
namespace Go.Proofs.YthkbckkghnbonaaGreatDoor
theorem own:ownKnob Tryz.prog.godebug=none:=by kernel_rfl
theorem yn3:laidOutB Tryz.prog=true:=by kernel_rfl
end Go.Proofs.YthkbckkghnbonaaGreatDoor
namespace Go.Proofs.YthkbckkghnbonaaGreatDoor
open Go.ChangeShapes Go.WideShapes Go.RowKit Go.Deep

theorem yni {α:Type} {n:Nat} {p:Nat→α→Prop} (h:∀ i,i<n→∃ g,p i g):∃ l:List α,l.length=n∧∀ (i:Nat) (g:α),l[i]?=some g→p i g:=by
 induction n with
 | zero=>exact ⟨[],rfl,by simp⟩
 | succ n ih =>
  obtain ⟨l,hl,hp⟩:=ih (fun i hi=>h i Zq6)
  obtain ⟨g,hg⟩:=h n Zq6
  refine ⟨l++[g],by simp [hl],fun i g' hi=>?_⟩
  by_cases hin:i<n
  ·rw[List.getElem?_append_left Zq6] at hi
   exact hp i g' hi
  ·have hi':=(List.getElem?_eq_some_iff.1 hi).1
   simp at hi'
   obtain rfl:i=n:=by omega
   rw[List.getElem?_append_right Zq6,hl] at hi
   simp at hi
   subst hi
   exact hg
theorem yr3 {α:Type} {f:α→List Value} {k:Nat} (hf:∀ x,(f x).length=k):∀ (l:List α) (j:Nat) (u:Value),(l.flatMap f)[j]?=some u→∃ g,l[j / k]?=some g∧(f g)[j % k]?=some u:=by
 intro l
 induction l with
 | nil=>intro j u h;simp at h
 | cons x l ih =>
  intro j u h
  rw[List.flatMap_cons] at h
  by_cases hj:j<k
  ·rw[List.getElem?_append_left (by rw[hf];exact hj)] at h
   exact ⟨x,by rw[Nat.div_eq_of_lt hj];rfl,by rw[Nat.mod_eq_of_lt hj];exact h⟩
  ·have hk:k≤j:=by omega
   rw[List.getElem?_append_right (by rw[hf];exact hk),hf] at h
   obtain ⟨g,h1,h2⟩:=ih _ u h
   have hk0:0<k:=by
    rcases Nat.eq_zero_or_pos k with h0|h0
    ·subst h0
     have:=(List.getElem?_eq_some_iff.1 h2).1
     rw[hf] at this
     omega
    ·exact h0
   refine ⟨g,?_,?_⟩
   ·rw[Nat.div_eq_sub_div hk0 hk]
    simpa using h1
   ·rw[Nat.mod_eq_sub_mod hk]
    exact h2
theorem yal {α:Type} {f:α→List Value} {k:Nat} (hf:∀ x,(f x).length=k):∀ (l:List α) (i:Nat) (g:α) (j:Nat),l[i]?=some g→j<k→(l.flatMap f)[i*k+j]?=(f g)[j]?:=by
 intro l
 induction l with
 | nil=>intro i g j h;simp at h
 | cons x l ih =>
  intro i g j h hj
  rw[List.flatMap_cons]
  cases i with
  | zero =>
   simp at h
   subst h
   rw[List.getElem?_append_left (by rw[hf];omega)]
   simp
  | succ i =>
   rw[List.getElem?_append_right (by rw[hf,Nat.add_mul];omega),hf,←ih i g j (by simpa using h) hj]
   congr 1
   rw[Nat.add_mul]
   omega
section
variable {H:Type} {enc:TypeId × Value→H} {P:Program} {w:World} {base:Nat} {spare:Nat→Bool} {held:Bool}
theorem yp6 {r:Reach} {b0 fuel:Nat} {t e:TypeId} {v:Value} {x:DataW H × List MemPlace} (hv:Value.okWide P w r b0 t v) (ht:P.underlying t=some (.slice e))
  (h:DataW.trod enc P w base spare held fuel t v.cells.toList=some x):DataW.trod enc P w base spare held fuel t [v]=some x:=by
 obtain ⟨a,len,cap,rfl⟩:=okWide_slice ht hv
 exact h
theorem yfu {a:Addr} {u:Value} (h:w.cell? a=some u):a.block<w.heap.size:=by
 unfold World.cell? at h
 rcases Nat.lt_or_ge a.block w.heap.size with hl|hl
 ·exact hl
 ·rw[Array.getElem?_eq_none hl] at h
  simp at h
theorem ynj {α:Type} {t e:TypeId} {size fuel:Nat} {cellsf:α→List Value} {v:Value} {x:DataW H × List MemPlace} (ht:P.underlying t=some (.slice e)) (hC:P.cellsOf e=size) (hsz:0<size)
  (hE:∀ (n:Nat) (cs:List Value) (y:DataW H × List MemPlace),DataW.trod enc P w base spare held n e cs=some y→∃ g:α,cs=cellsf g)
  (hlen:∀ g,(cellsf g).length=size) (h:DataW.trod enc P w base spare held fuel t [v]=some x) :
  ∃ (A:Option Addr) (n c:Nat) (l:List α),v=.slice A n c∧n≤c∧c≤maxLen∧l.length=n∧Rd w size A n (l.flatMap cellsf):=by
 rcases open_slice ht h with ⟨h0,_⟩|⟨a,len,cap,m,n,D,Pl,hcs,hb,hl,hm,hmm,hx,hi⟩
 ·simp at h0
  subst h0
  exact ⟨none,0,0,[],rfl,Nat.le_refl _,Nat.zero_le _,rfl,by simp,fun h=>absurd h Zq6⟩
 ·simp at hcs
  subst hcs
  have hlm:len≤m:=by rw[hmm];split <;> omega
  obtain ⟨l,hll,hp⟩:=yni (n:=len) (p:=fun i g=>w.cells? base (a.add (i*P.cellsOf e)) (P.cellsOf e)=some (cellsf g)) (fun i hi'=>by
   obtain ⟨cs',hc,ht'⟩:=hi i Zq6
   obtain ⟨g,rfl⟩:=hE _ _ _ ht'
   exact ⟨g,hc⟩)
  refine ⟨some a,len,cap,l,rfl,hl,hm,hll,by rw[yi4 cellsf size hlen,hll],fun h0=>?_⟩
  have hcell:∀ (j:Nat) (u:Value),(l.flatMap cellsf)[j]?=some u→w.cell? (a.add j)=some u:=by
   intro j u hu
   obtain ⟨g,h1,h2⟩:=yr3 hlen l j u hu
   have h3:=hp _ _ h1
   rw[hC] at h3
   obtain ⟨_,_,hat⟩:=World.cells?_some h3
   have h4:=hat (j % size) (Nat.mod_lt _ hsz)
   rw[Go.Deep.add_add,Nat.mul_comm,Nat.div_add_mod,h2] at h4
   exact h4
  have hj0:∃ u,(l.flatMap cellsf)[0]?=some u:=⟨_,List.getElem?_eq_getElem (by rw[yi4 cellsf size hlen,hll];exact Nat.mul_pos h0 hsz)⟩
  obtain ⟨u0,hu0⟩:=hj0
  have hc0:=hcell 0 u0 hu0
  obtain ⟨b,off,spot⟩:=a
  have hspot:spot=none:=by simpa [Addr.add] using World.cell?_spot hc0
  subst hspot
  refine ⟨b,off,rfl,by simpa [Addr.add] using yfu hc0,fun j u hu=>?_⟩
  have:=hcell j u hu
  rwa [add_plain] at this
end
end Go.Proofs.YthkbckkghnbonaaGreatDoor
namespace Go.Proofs.YthkbckkghnbonaaGreatDoor
open Go.RowKit
section
variable {P:Program} (w:World)
theorem ykq (base:Nat) (t ty e:TypeId) (i:TypeInfo) (size:Nat) (ht:P.underlying t=some (.slice e)) (hi:P.info? e=some i)
  (v:Value) (n:Nat) (xs:List Value) (hown:w.ownsRow base e size v n xs) (c:Nat):(Builtin.append_ #[t,t] ty #[v,.slice none 0 c]).run P w=.ok v w:=by
 rcases hown.2 with ⟨rfl,rfl⟩|⟨g,cap,cur,rfl,_,_,hnc,_⟩
 ·simp [Builtin.append_,run_underlying ht,sizeOf,typeInfo,hi,Builtin.lenOf,Builtin.firstCells]
 ·simp [Builtin.append_,run_underlying ht,sizeOf,typeInfo,hi,Builtin.lenOf,Builtin.firstCells,hnc,storeCells]
theorem yht (base:Nat) (t ty e:TypeId) (i:TypeInfo) (z:Value) (size bytes:Nat) (ht:P.underlying t=some (.slice e)) (hi:P.info? e=some i) (hz:i.zero=some z)
  (hsize:i.size=size) (hby:i.bytes=bytes) (hzs:z.cells.size=size) (hsz:0<size)
  (v:Value) (n:Nat) (xs:List Value) (hown:w.ownsRow base e size v n xs) (A:Option Addr) (m c:Nat) (news:List Value) (hr:Rd w size A m news) (h1:∀ u∈news,u.oneCell'=true)
  (h63:n+m≤maxLen) (hbytes:(n+m)*bytes≤140737488355328) (hbase:base≤w.heap.size) :
  ∃ v' w',(Builtin.append_ #[t,t] ty #[v,.slice A m c]).run P w=.ok v' w'∧w'.ownsRow base e size v' (n+m) (xs++news)∧w.grownBy w' v.ownBlock∧(v'.ownBlock=v.ownBlock∨v'.ownBlock=some w.heap.size):=by
 rcases A with _|ad
 ·have hm:m=0:=by
   rcases Nat.eq_zero_or_pos m with h0|h0
   ·exact h0
   ·obtain ⟨_,_,h,_⟩:=hr.2 h0
    cases h
  subst hm
  have hn:news=[]:=List.eq_nil_of_length_eq_zero (by simpa using hr.1)
  subst hn
  exact ⟨v,w,ykq w base t ty e i size ht hi v n xs hown c,by simpa using hown,World.grownBy.refl w _,.inl rfl⟩
 ·have hcells:∀ j u,news[j]?=some u→w.cell? (ad.add j)=some u:=by
   intro j u hu
   rcases Nat.eq_zero_or_pos m with h0|h0
   ·subst h0
    have hn:news=[]:=List.eq_nil_of_length_eq_zero (by simpa using hr.1)
    subst hn
    simp at hu
   ·obtain ⟨b,off,h,_,hc⟩:=hr.2 h0
    injection h with h
    subst h
    rw[Go.WideShapes.add_plain]
    exact hc j u hu
  obtain ⟨v',w',hrun,h2,h3,_,h5⟩:=run_append_own_at (P:=P) w base t ty e i z size bytes ht hi hz hsize hby hzs hsz v n xs hown ad m c news hr.1 hcells h1 h63 hbytes hbase
  exact ⟨v',w',hrun,h2,h3,h5⟩
theorem yae {ops:Array Oper} {rest:List Oper} {o:Oper} {a:Act} {Q:Exit→Act→World→Prop} (hgd:o.guard=none) (s x:Operand) (t:TypeId)
  (ho:o.op=.call { callee:=.builtin .append,args:=#[s,x],argTypes:=#[t,t] })
  (base:Nat) (e:TypeId) (i:TypeInfo) (z:Value) (size bytes:Nat) (ht:P.underlying t=some (.slice e)) (hi:P.info? e=some i) (hz:i.zero=some z)
  (hsize:i.size=size) (hby:i.bytes=bytes) (hzs:z.cells.size=size) (hsz:0<size)
  (v:Value) (n:Nat) (xs:List Value) (hs:a.eval s=v) (hown:w.ownsRow base e size v n xs)
  (A:Option Addr) (m c:Nat) (news:List Value) (hx:a.eval x=.slice A m c) (hr:Rd w size A m news) (h1:∀ u∈news,u.oneCell'=true)
  (h63:n+m≤maxLen) (hbytes:(n+m)*bytes≤140737488355328) (hbase:base≤w.heap.size)
  (h:∀ v' w',w'.ownsRow base e size v' (n+m) (xs++news)→w.grownBy w' v.ownBlock→(v'.ownBlock=v.ownBlock∨v'.ownBlock=some w.heap.size)→wpList P ops Q rest (a.put o.dst v') w'):wpList P ops Q (o :: rest) a w:=by
 refine wpList_plain hgd fun _ hK=>?_
 obtain ⟨v',w',hrun,h2,h3,h4⟩:=yht (P:=P) w base t o.type e i z size bytes ht hi hz hsize hby hzs hsz v n xs hown A m c news hr h1 h63 hbytes hbase
 unfold Oper.wp execOp
 simp only[ho,resolve,invoke,builtin,Sem.run_bind,Sem.run_pure,Result.andThen_ok,List.map_toArray,List.map_cons,List.map_nil,hs,hx,hrun]
 exact hK _ _ (h v' w' h2 h3 h4)
end
theorem yed {α:Type} {f:α→List Value} (hf:∀ x,((f x).all Value.oneCell')=true) (l:List α):∀ u∈l.flatMap f,u.oneCell'=true:=by
 intro u hu
 obtain ⟨x,_,hx⟩:=List.mem_flatMap.1 hu
 exact List.all_eq_true.1 (hf x) u hx
theorem ybe {w:World} {base e size n:Nat} {v:Value} {xs:List Value} (h:w.ownsRow base e size v n xs):∀ k,v.ownBlock=some k→base≤k:=fun k hk=>(h.lt k hk).1
theorem ybv {w:World} {base E size n c:Nat} {A:Option Addr} {xs:List Value} (h:w.ownsRow base E size (.slice A n c) n xs):Rd w size A n xs:=by
 obtain ⟨A',c',e,_,_,r⟩:=yah h
 injection e with e1 e2 e3
 rw[e1]
 exact r
theorem yb2 (w:World) (e size:Nat):(w.alloc (.cells #[] e)).ownsRow w.heap.size e size (.slice (some ⟨w.heap.size,0,none⟩) 0 0) 0 []:=World.ownsRow_lit w #[] 0 (Nat.le_refl _) (Nat.zero_le _) Zq11
structure SH where
 k:Int
 word:ByteArray
 args:List ByteArray
 count:Int
def Tr:Nat→Type
 | 0=>Empty
 | d+1=>SH × List (Tr d)

def hdT {d:Nat} (s:Tr (d+1)):SH:=(show SH × List (Tr d) from s).1
def bdT {d:Nat} (s:Tr (d+1)):List (Tr d):=(show SH × List (Tr d) from s).2
def mkT {d:Nat} (h:SH) (b:List (Tr d)):Tr (d+1):=(show SH × List (Tr d) from(h,b))
def RdL (w:World) (lo size:Nat) (A:Option Addr) (n:Nat) (xs:List Value):Prop :=
 xs.length=n*size∧(0<n→∃ b off,A=some ⟨b,off,none⟩∧lo≤b∧b<w.heap.size∧∀ j u,xs[j]?=some u→w.cell? ⟨b,off+j,none⟩=some u)
def ygc (w:World) (b o:Nat) (s:SH) (Aa:Option Addr) (ca:Nat) (Ab:Option Addr) (nb cb:Nat):Prop :=
 w.cell? ⟨b,o,none⟩=some (.int .i64 s.k)∧w.cell? ⟨b,o+1,none⟩=some (.string s.word)∧w.cell? ⟨b,o+2,none⟩=some (.slice Aa s.args.length ca) ∧
 w.cell? ⟨b,o+3,none⟩=some (.int .i64 s.count)∧w.cell? ⟨b,o+4,none⟩=some (.slice Ab nb cb)
def strs (l:List ByteArray):List Value:=l.map Value.string
def RdT (w:World) (lo:Nat):(d:Nat)→Option Addr→Nat→List (Tr d)→Prop
 | 0,_,n,l=>l.length=n∧n=0
 | d+1,A,n,l=>l.length=n∧(0<n→∃ b off,A=some ⟨b,off,none⟩∧lo≤b∧b<w.heap.size∧∀ (i:Nat) (s:Tr (d+1)),l[i]?=some s →
   ∃ Aa ca Ab nb cb,ygc w b (off+i*5) (hdT s) Aa ca Ab nb cb∧RdL w lo 1 Aa (hdT s).args.length (strs (hdT s).args)∧RdT w lo d Ab nb (bdT s)∧(hdT s).args.length≤ca)
section
variable {w w':World} {lo lo' size:Nat}
theorem RdL.rd {A:Option Addr} {n:Nat} {xs:List Value} (h:RdL w lo size A n xs):Rd w size A n xs :=
 ⟨h.1,fun h0=>by obtain ⟨b,off,e,_,hb,hc⟩:=h.2 h0;exact ⟨b,off,e,hb,hc⟩⟩
theorem RdL.keep {A:Option Addr} {n:Nat} {xs:List Value} (h:RdL w lo size A n xs) (hk:∀ b o,lo≤b→b<w.heap.size→w'.cell? ⟨b,o,none⟩=w.cell? ⟨b,o,none⟩) (hs:w.heap.size≤w'.heap.size):RdL w' lo size A n xs :=
 ⟨h.1,fun h0=>by
  obtain ⟨b,off,e,hl,hb,hc⟩:=h.2 h0
  exact ⟨b,off,e,hl,Nat.lt_of_lt_of_le hb hs,fun j u hu=>(hk _ _ hl hb).trans (hc j u hu)⟩⟩
theorem RdL.lower {A:Option Addr} {n:Nat} {xs:List Value} (h:RdL w lo size A n xs) (hl:lo'≤lo):RdL w lo' size A n xs :=
 ⟨h.1,fun h0=>by
  obtain ⟨b,off,e,h1,hb,hc⟩:=h.2 h0
  exact ⟨b,off,e,Nat.le_trans hl h1,hb,hc⟩⟩
theorem ygc.keep {b o:Nat} {s:SH} {Aa Ab:Option Addr} {ca nb cb:Nat} (h:ygc w b o s Aa ca Ab nb cb) (hk:∀ o,w'.cell? ⟨b,o,none⟩=w.cell? ⟨b,o,none⟩):ygc w' b o s Aa ca Ab nb cb :=
 ⟨(hk _).trans h.1,(hk _).trans h.2.1,(hk _).trans h.2.2.1,(hk _).trans h.2.2.2.1,(hk _).trans h.2.2.2.2⟩
theorem RdT.len:∀ {d:Nat} {A:Option Addr} {n:Nat} {l:List (Tr d)},RdT w lo d A n l→l.length=n
 | 0,_,_,_,h=>h.1
 | _+1,_,_,_,h=>h.1
theorem RdT.keep (hk:∀ b o,lo≤b→b<w.heap.size→w'.cell? ⟨b,o,none⟩=w.cell? ⟨b,o,none⟩) (hs:w.heap.size≤w'.heap.size) :
  ∀ {d:Nat} {A:Option Addr} {n:Nat} {l:List (Tr d)},RdT w lo d A n l→RdT w' lo d A n l:=by
 intro d
 induction d with
 | zero=>intro A n l h;exact h
 | succ d ih =>
  intro A n l h
  refine ⟨h.1,fun h0=>?_⟩
  obtain ⟨b,off,e,hl,hb,hc⟩:=h.2 h0
  refine ⟨b,off,e,hl,Nat.lt_of_lt_of_le hb hs,fun i s hi=>?_⟩
  obtain ⟨Aa,ca,Ab,nb,cb,h1,h2,h3,h4⟩:=hc i s hi
  exact ⟨Aa,ca,Ab,nb,cb,h1.keep (fun o=>hk b o hl hb),h2.keep hk hs,ih h3,h4⟩
theorem RdT.lower (hl:lo'≤lo):∀ {d:Nat} {A:Option Addr} {n:Nat} {l:List (Tr d)},RdT w lo d A n l→RdT w lo' d A n l:=by
 intro d
 induction d with
 | zero=>intro A n l h;exact h
 | succ d ih =>
  intro A n l h
  refine ⟨h.1,fun h0=>?_⟩
  obtain ⟨b,off,e,h1,hb,hc⟩:=h.2 h0
  refine ⟨b,off,e,Nat.le_trans hl h1,hb,fun i s hi=>?_⟩
  obtain ⟨Aa,ca,Ab,nb,cb,h1,h2,h3,h4⟩:=hc i s hi
  exact ⟨Aa,ca,Ab,nb,cb,h1,h2.lower hl,ih h3,h4⟩
theorem RdT.below {d:Nat} {A:Option Addr} {n:Nat} {l:List (Tr d)} (h:RdT w lo d A n l) (hb:Below w.heap.size w w'):RdT w' lo d A n l :=
 h.keep (fun _ _ _ hlt=>hb.cell hlt) hb.size
theorem RdL.below {A:Option Addr} {n:Nat} {xs:List Value} (h:RdL w lo size A n xs) (hb:Below w.heap.size w w'):RdL w' lo size A n xs :=
 h.keep (fun _ _ _ hlt=>hb.cell hlt) hb.size
theorem RdT.at_ {d:Nat} {A:Option Addr} {n i:Nat} {l:List (Tr (d+1))} (h:RdT w lo (d+1) A n l) (hi:i<n) :
  ∃ (b off:Nat) (s:Tr (d+1)) (Aa:Option Addr) (ca:Nat) (Ab:Option Addr) (nb cb:Nat),A=some ⟨b,off,none⟩∧b<w.heap.size∧l[i]?=some s ∧
   ygc w b (off+i*5) (hdT s) Aa ca Ab nb cb∧RdL w lo 1 Aa (hdT s).args.length (strs (hdT s).args)∧RdT w lo d Ab nb (bdT s):=by
 obtain ⟨b,off,e,_,hb,hc⟩:=h.2 Zq6
 have hl:i<l.length:=by rw[h.1];exact hi
 obtain ⟨s,hs⟩:∃ s,l[i]?=some s:=⟨_,List.getElem?_eq_getElem hl⟩
 obtain ⟨Aa,ca,Ab,nb,cb,h1,h2,h3,_⟩:=hc i s hs
 exact ⟨b,off,s,Aa,ca,Ab,nb,cb,e,hb,hs,h1,h2,h3⟩
theorem RdT.at_c {d:Nat} {A:Option Addr} {n i:Nat} {l:List (Tr (d+1))} (h:RdT w lo (d+1) A n l) (hi:i<n) :
  ∃ (b off:Nat) (s:Tr (d+1)) (Aa:Option Addr) (ca:Nat) (Ab:Option Addr) (nb cb:Nat),A=some ⟨b,off,none⟩∧b<w.heap.size∧l[i]?=some s ∧
   ygc w b (off+i*5) (hdT s) Aa ca Ab nb cb∧RdL w lo 1 Aa (hdT s).args.length (strs (hdT s).args)∧RdT w lo d Ab nb (bdT s)∧(hdT s).args.length≤ca:=by
 obtain ⟨b,off,e,_,hb,hc⟩:=h.2 Zq6
 have hl:i<l.length:=by rw[h.1];exact hi
 obtain ⟨s,hs⟩:∃ s,l[i]?=some s:=⟨_,List.getElem?_eq_getElem hl⟩
 obtain ⟨Aa,ca,Ab,nb,cb,h1,h2,h3,h4⟩:=hc i s hs
 exact ⟨b,off,s,Aa,ca,Ab,nb,cb,e,hb,hs,h1,h2,h3,h4⟩
end
theorem ybr {l:List ByteArray} {k:Nat} {s:ByteArray} (h:l[k]?=some s):(strs l)[k]?=some (.string s):=by simp [strs,h]
theorem ydh:(Tryz.prog.info? 9).map (fun i=>(i.zero,i.size,i.bytes))=some (some (.string ByteArray.empty),1,16):=by kernel_rfl
def szS:List ByteArray→Nat
 | []=>0
 | s :: l=>s.size+szS l
theorem yr4 (l:List ByteArray) (t:Nat) (s:ByteArray) (h:l[t]?=some s):szS (l.take (t+1))=szS (l.take t)+s.size:=by
 induction l generalizing t with
 | nil=>simp at h
 | cons x l ih =>
  cases t with
  | zero=>simp at h;subst h;simp [szS]
  | succ t=>simp only[List.take_succ_cons,szS,ih t (by simpa using h)];omega
theorem ynk (l:List ByteArray) (t:Nat):szS (l.take t)≤szS l:=by
 induction l generalizing t with
 | nil=>simp [szS]
 | cons x l ih =>
  cases t with
  | zero=>simp [szS]
  | succ t=>simp only[List.take_succ_cons,szS];have:=ih t;omega
def szT:(d:Nat)→List (Tr d)→Nat
 | 0,_=>0
 | d+1,l=>l.length+(l.map fun (s:Tr (d+1))=>(hdT s).word.size+((hdT s).args.length+szS (hdT s).args+szT d (bdT s))).sum
def szE {d:Nat} (s:Tr (d+1)):Nat:=(hdT s).word.size+((hdT s).args.length+szS (hdT s).args+szT d (bdT s))
def sumE {d:Nat} (l:List (Tr (d+1))):Nat:=(l.map szE).sum
theorem ybb {d:Nat} (l:List (Tr (d+1))):szT (d+1) l=l.length+sumE l:=rfl
theorem yp7 {d:Nat} (l:List (Tr (d+1))) (t:Nat) (s:Tr (d+1)) (h:l[t]?=some s):sumE (l.take (t+1))=sumE (l.take t)+szE s:=by
 rw[List.take_add_one,h]
 simp [sumE]
theorem ygd {d:Nat} (l:List (Tr (d+1))) (t:Nat):sumE (l.take t)≤sumE l:=by
 have h:sumE l=sumE (l.take t)+sumE (l.drop t):=by
  unfold sumE
  rw[←List.sum_append,←List.map_append,List.take_append_drop]
 omega
theorem ycl {w:World} {lo:Nat} {A:Option Addr} {n:Nat} {l:List (Tr 0)} (h:RdT w lo 0 A n l):n=0:=h.2
section
variable {w w':World} {lo:Nat}
theorem yge {p:Addr} (hp:p.block<lo) (u:Value):∀ b o,lo≤b→b<w.heap.size→(w.setCell p u).cell? ⟨b,o,none⟩=w.cell? ⟨b,o,none⟩ :=
 fun b o hb _=>World.cell?_setCell_other w p ⟨b,o,none⟩ u (fun e=>by subst e;simp at hp;omega)
theorem ych (p:Addr) (u:Value):(w.setCell p u).heap.size=w.heap.size:=by simp [World.setCell]
theorem RdT.set_ {d n:Nat} {A:Option Addr} {l:List (Tr d)} (h:RdT w lo d A n l) {p:Addr} (hp:p.block<lo) (u:Value):RdT (w.setCell p u) lo d A n l :=
 h.keep (yge hp u) (by rw[ych];exact Nat.le_refl _)
theorem RdL.set_ {size n:Nat} {A:Option Addr} {xs:List Value} (h:RdL w lo size A n xs) {p:Addr} (hp:p.block<lo) (u:Value):RdL (w.setCell p u) lo size A n xs :=
 h.keep (yge hp u) (by rw[ych];exact Nat.le_refl _)
theorem yb6 {g i:Nat} {t:TypeId} {cs:Array Value} (h:w.heap[g]?=some (.cells cs t (0,0))) (u:Value):(w.setCell ⟨g,i,none⟩ u).heap[g]?=some (.cells (cs.setIfInBounds i u) t (0,0)):=by
 simp [World.setCell,Array.getElem?_modify,h]
theorem yc9 {g:Nat} {o:Obj} {p:Addr} (h:w.heap[g]?=some o) (hp:g≠p.block) (u:Value):(w.setCell p u).heap[g]?=some o:=(Below.heap_setCell w p u g hp).trans h
theorem yas {b:Nat} {x0 x1 x2 x3 x4:Value} {t:TypeId} (lay:Below w'.heap.size w' w) (h:w'.heap[b]?=some (.cells #[x0,x1,x2,x3,x4] t (0,0))) :
  w.cell? ⟨b,0,none⟩=some x0∧w.cell? ⟨b,1,none⟩=some x1∧w.cell? ⟨b,2,none⟩=some x2∧w.cell? ⟨b,3,none⟩=some x3∧w.cell? ⟨b,4,none⟩=some x4:=by
 have h':w.heap[b]?=some (.cells #[x0,x1,x2,x3,x4] t (0,0)):=(lay.block b (lt_of_block h)).trans h
 exact ⟨by simp [World.cell?,h'],by simp [World.cell?,h'],by simp [World.cell?,h'],by simp [World.cell?,h'],by simp [World.cell?,h']⟩
theorem ya6 {b:Nat} {cs:Array Value} {t:TypeId} (lay:Below w'.heap.size w' w) (h:w'.heap[b]?=some (.cells cs t (0,0))) (j:Nat):w.frozen? ⟨b,j,none⟩=false:=by
 have h':w.heap[b]?=some (.cells cs t (0,0)):=(lay.block b (lt_of_block h)).trans h
 simp [World.frozen?,h']
end
theorem ydw {d:Nat} {l:List (Tr (d+1))} {t:Nat} {s:Tr (d+1)} (h:l[t]?=some s):szE s≤sumE l:=by
 have h1:=yp7 l t s h
 have h2:=ygd l (t+1)
 omega
theorem yex:(Tryz.prog.info? 66).map (fun i=>(i.zero,i.size,i.bytes))=some (some (.agg #[.int .i64 0,.string ⟨#[]⟩,.slice none 0 0,.int .i64 0,.slice none 0 0]),5,80):=by kernel_rfl
def ytr (s:SH) (Aa:Option Addr) (ca:Nat) (Ab:Option Addr) (nb cb:Nat):List Value:=[.int .i64 s.k,.string s.word,.slice Aa s.args.length ca,.int .i64 s.count,.slice Ab nb cb]
def yen (w:World) (lo d:Nat) (l:List (Tr (d+1))) (t:Nat) (vs:List (List Value)):Prop :=
 vs.length=t∧(∀ v∈vs,v.length=5)∧∀ (i:Nat) (s:Tr (d+1)),i<t→l[i]?=some s→∃ Aa ca Ab nb cb,vs[i]?=some (ytr (hdT s) Aa ca Ab nb cb)∧RdL w lo 1 Aa (hdT s).args.length (strs (hdT s).args)∧RdT w lo d Ab nb (bdT s)∧(hdT s).args.length≤ca
theorem yen.nil {w:World} {lo d:Nat} {l:List (Tr (d+1))}:yen w lo d l 0 []:=⟨rfl,by simp,fun _ _ h=>absurd h Zq6⟩
theorem yen.keep {w w':World} {lo d:Nat} {l:List (Tr (d+1))} {t:Nat} {vs:List (List Value)} (h:yen w lo d l t vs) (hk:∀ b o,lo≤b→b<w.heap.size→w'.cell? ⟨b,o,none⟩=w.cell? ⟨b,o,none⟩) (hs:w.heap.size≤w'.heap.size):yen w' lo d l t vs :=
 ⟨h.1,h.2.1,fun i s hi hl=>by
  obtain ⟨Aa,ca,Ab,nb,cb,h1,h2,h3,h4⟩:=h.2.2 i s hi hl
  exact ⟨Aa,ca,Ab,nb,cb,h1,h2.keep hk hs,h3.keep hk hs,h4⟩⟩
theorem yen.set_ {w:World} {lo d:Nat} {l:List (Tr (d+1))} {t:Nat} {vs:List (List Value)} (h:yen w lo d l t vs) {p:Addr} (hp:p.block<lo) (u:Value):yen (w.setCell p u) lo d l t vs :=
 h.keep (yge hp u) (by rw[ych];exact Nat.le_refl _)
theorem RdT.drew {w:World} {lo d n:Nat} {A:Option Addr} {l:List (Tr d)} (h:RdT w lo d A n l):RdT w.drew lo d A n l:=RdT.keep (w:=w) (w':=w.drew) (fun _ _ _ _=>rfl) (Nat.le_refl _) h
theorem RdT.drewN {w:World} {lo d n:Nat} {A:Option Addr} {l:List (Tr d)} (h:RdT w lo d A n l) (k:Nat):RdT (w.drewN k) lo d A n l:=RdT.keep (w:=w) (w':=w.drewN k) (fun _ _ _ _=>rfl) (Nat.le_refl _) h
def inB (n lo hi:Int):Bool:=decide (lo≤n∧n≤hi)
theorem yl6 {n lo hi:Int} (h1:lo≤n) (h2:n≤hi):inB n lo hi=true:=by simp [inB,h1,h2]
theorem yl7 {n lo hi:Int} (h:n<lo∨hi<n):inB n lo hi=false:=by simp [inB];omega
theorem ycf {n lo hi:Int}:inB n lo hi=true ↔ lo≤n∧n≤hi:=by simp [inB]
theorem ys2 {n lo hi:Int}:inB n lo hi=false ↔ n<lo∨hi<n:=by simp [inB];omega

theorem yav (n lo hi:Int) (w:World):Calls Tryz.prog 44 #[.int .i64 n,.int .i64 lo,.int .i64 hi] w fun e w'=>e=.returned (.bool (inB n lo hi))∧w=w':=by
 by_cases h1:lo≤n
 ·by_cases h2:n≤hi
  ·rw[yl6 h1 h2]
   go_enter Tryz.func44,Tryz.ntmps44
   go_wp2
   go_ret
   exact ⟨rfl,rfl⟩
  ·rw[yl7 (Or.inr Zq6)]
   have h3:decide (n≤hi)=false:=by simpa using h2
   clear h2
   go_enter Tryz.func44,Tryz.ntmps44
   go_wp2
   go_ret
   exact ⟨rfl,rfl⟩
 ·rw[yl7 (Or.inl Zq6)]
  have h3:decide (lo≤n)=false:=by simpa using h1
  clear h1
  go_enter Tryz.func44,Tryz.ntmps44
  go_wp2
  go_ret
  exact ⟨rfl,rfl⟩
theorem yag (n lo hi:Int) (w:World):Calls Tryz.prog 47 #[.int .i64 n,.int .i64 lo,.int .i64 hi] w fun e w'=>e=.returned (.bool (inB n lo hi))∧w=w':=by
 by_cases h1:lo≤n
 ·by_cases h2:n≤hi
  ·rw[yl6 h1 h2]
   go_enter Tryz.func47,Tryz.ntmps47
   go_wp2
   go_ret
   exact ⟨rfl,rfl⟩
  ·rw[yl7 (Or.inr Zq6)]
   have h3:decide (n≤hi)=false:=by simpa using h2
   clear h2
   go_enter Tryz.func47,Tryz.ntmps47
   go_wp2
   go_ret
   exact ⟨rfl,rfl⟩
 ·rw[yl7 (Or.inl Zq6)]
  have h3:decide (lo≤n)=false:=by simpa using h1
  clear h1
  go_enter Tryz.func47,Tryz.ntmps47
  go_wp2
  go_ret
  exact ⟨rfl,rfl⟩
theorem Zq0 {p:Prop} (h:p:=by repeat (first|exact Below.refl _ _|assumption|(refine Below.trans ?_ (Below.mono (by assumption) (by first|omega|(simp;done)|(simp;omega))))|(with_reducible refine Below.drew ?_)|(with_reducible refine Below.alloc ?_ (by first|omega|(simp;done)|(simp;omega)) _)|(with_reducible refine Below.setCell ?_ (by first|omega|(simp;done)|(simp;omega)) _))):p:=h
theorem Zq5 {p:Prop} (h:p:=by first|omega|(simp;done)|(simp;omega)):p:=h
theorem yd0 (k a:Int) (w:World):Calls Tryz.prog 185 #[.int .i64 k,.int .i64 a] w fun e w' =>
  e=.returned (.agg #[.int .i64 k,.int .i64 a,.int .i64 0,.int .i64 0])∧Below w.heap.size w w'∧w.heap.size≤w'.heap.size:=by
 go_enter Tryz.func185,Tryz.ntmps185
 go_wp2
 exact bodyPost_ret (v:=.agg #[.int .i64 k,.int .i64 a,.int .i64 0,.int .i64 0]) (by simp [results,Tryz.results185,go_sem]) rfl ⟨rfl,Zq0,Zq5⟩
theorem yec (a b:Int) (w:World):Calls Tryz.prog 184 #[.int .i64 a,.int .i64 b] w fun e w' =>
  e=.returned (.agg #[.int .i64 9,.int .i64 a,.int .i64 b,.int .i64 0])∧Below w.heap.size w w'∧w.heap.size≤w'.heap.size:=by
 go_enter Tryz.func184,Tryz.ntmps184
 go_wp2
 exact bodyPost_ret (v:=.agg #[.int .i64 9,.int .i64 a,.int .i64 b,.int .i64 0]) (by simp [results,Tryz.results184,go_sem]) rfl ⟨rfl,Zq0,Zq5⟩
theorem yfe (k a:Int) (w:World):Calls Tryz.prog 188 #[.int .i64 k,.int .i64 a] w fun e w' =>
  e=.returned (.agg #[.int .i64 k,.int .i64 a,.int .i64 0,.int .i64 0])∧Below w.heap.size w w'∧w.heap.size≤w'.heap.size:=by
 go_enter Tryz.func188,Tryz.ntmps188
 go_wp2
 exact bodyPost_ret (v:=.agg #[.int .i64 k,.int .i64 a,.int .i64 0,.int .i64 0]) (by simp [results,Tryz.results188,go_sem]) rfl ⟨rfl,Zq0,Zq5⟩
theorem ygf (a b:Int) (w:World):Calls Tryz.prog 187 #[.int .i64 a,.int .i64 b] w fun e w' =>
  e=.returned (.agg #[.int .i64 9,.int .i64 a,.int .i64 b,.int .i64 0])∧Below w.heap.size w w'∧w.heap.size≤w'.heap.size:=by
 go_enter Tryz.func187,Tryz.ntmps187
 go_wp2
 exact bodyPost_ret (v:=.agg #[.int .i64 9,.int .i64 a,.int .i64 b,.int .i64 0]) (by simp [results,Tryz.results187,go_sem]) rfl ⟨rfl,Zq0,Zq5⟩
def ygx (w:World) (r:Nat) (ks:List Int):Prop :=
 ∃ es clk,w.heap[r]?=some (.map es clk)∧es.toList.map (fun e=>(e.key,e.val))=ks.map (fun q=>(Value.int .i64 q,Value.bool true))
theorem yh1 (q:Int):∀ (es:List MapEntry) (ks:List Int) (i:Nat),es.map (fun e=>(e.key,e.val))=ks.map (fun q=>(Value.int .i64 q,Value.bool true)) →
  ∃ a,Instr.findNow (.int .i64) (.int .i64 q) es i=some a∧(ks.contains q=true→∃ j,a=some (j,.bool true))∧(ks.contains q=false→a=none):=by
 intro es
 induction es with
 | nil =>
  intro ks i h
  cases ks with
  | nil=>exact ⟨none,rfl,by simp,by simp⟩
  | cons _ _=>simp at h
 | cons x es ih =>
  intro ks i h
  cases ks with
  | nil=>simp at h
  | cons y ks =>
   simp only[List.map_cons,List.cons.injEq,Prod.mk.injEq] at h
   obtain ⟨⟨hk,hv⟩,ht⟩:=h
   by_cases hq:q=y
   ·subst hq
    exact ⟨some (i,.bool true),by simp [Instr.findNow,hk,hv,Instr.sameNow],fun _=>⟨i,rfl⟩,fun h=>by simp at h⟩
   ·obtain ⟨a,h1,h2,h3⟩:=ih ks (i+1) ht
    have hb:(q==y)=false:=by simpa using hq
    refine ⟨a,by simp [Instr.findNow,hk,Instr.sameNow,hb,h1],fun h=>h2 ?_,fun h=>h3 ?_⟩
    ·simpa [List.contains_cons,hb,hq] using h
    ·simpa [List.contains_cons,hb,hq] using h
section
variable {P:Program} {t k e:TypeId} {w:World} {r:Nat} {ks:List Int} {q:Int}
theorem ynl (ht:P.underlying t=some (.map k e)) (hk:P.underlying k=some (.int .i64)) (hz:(zeroValue e).run P w=.ok (.bool false) w) (h:ygx w r ks) :
  (Instr.lookup t (.map (some r)) (.int .i64 q) false).run P w=.ok (.bool (ks.contains q)) w:=by
 obtain ⟨es,clk,hb,hes⟩:=h
 obtain ⟨a,h1,h2,h3⟩:=yh1 q es.toList ks 0 hes
 have c1:∀ b,(Instr.checkKey b 10000 k (.int .i64 q)).run P w=.ok () w:=fun b=>MapKept.run_checkKey hk (by simp [MapKept.IsKey]) b 9999
 have c2:=MapKept.run_findKey (w:=w) hk h1
 cases hc:ks.contains q
 ·have:=h3 hc
  subst this
  simp [Instr.lookup,run_underlying ht,Sem.run_bind,MapKept.run_getObj_map hb,c1,c2,hz]
 ·obtain ⟨j,rfl⟩:=h2 hc
  simp [Instr.lookup,run_underlying ht,Sem.run_bind,MapKept.run_getObj_map hb,c1,c2]
theorem ynm (ht:P.underlying t=some (.map k e)) (hk:P.underlying k=some (.int .i64)) (h:ygx w r ks) (hq:ks.contains q=false) :
  ∃ w',(Instr.mapUpdate t (.map (some r)) (.int .i64 q) (.bool true)).run P w=.ok () w'∧ygx w' r (ks++[q])∧w.grownBy w' (some r):=by
 obtain ⟨es,clk,hb,hes⟩:=h
 obtain ⟨a,h1,_,h3⟩:=yh1 q es.toList ks 0 hes
 have:=h3 hq
 subst this
 have c1:∀ b,(Instr.checkKey b 10000 k (.int .i64 q)).run P w=.ok () w:=fun b=>MapKept.run_checkKey hk (by simp [MapKept.IsKey]) b 9999
 have c2:=MapKept.run_findKey (w:=w) hk h1
 have hs:=MapKept.heap_set (o':=.map (es.push { key:=.int .i64 q,val:=.bool true,born:=clk }) (clk+1)) hb
 refine ⟨{ w with heap:=w.heap.setIfInBounds r (.map (es.push { key:=.int .i64 q,val:=.bool true,born:=clk }) (clk+1)) },?_,⟨_,_,hs.1,?_⟩,⟨rfl,rfl,rfl,by simp,fun i _ hi=>hs.2 i (fun e=>hi (by rw[e]))⟩⟩
 ·have c3:=MapKept.run_setObj_map (P:=P) (.map (es.push { key:=.int .i64 q,val:=.bool true,born:=clk }) (clk+1)) hb
  simp [Instr.mapUpdate,run_underlying ht,Sem.run_bind,MapKept.run_getObj_map hb,c1,c2,c3]
 ·simp [hes]
end
def ar (k:Int):Nat:=if inB k 1 8 then 1 else if inB k 9 11 then 2 else if k=12 then 3 else 0
theorem yfz (k:Int):ar k≤3:=by
 unfold ar
 split
 ·omega
 ·split
  ·omega
  ·split <;> omega
theorem ya5 (k:Int) (w:World):Calls Tryz.prog 101 #[.int .i64 k] w fun e w'=>e=.returned (.int .i64 (ar k))∧w=w':=by
 cases h1:inB k 1 8
 ·cases h2:inB k 9 11
  ·by_cases h3:k=12
   ·subst h3
    go_enter Tryz.func101,Tryz.ntmps101
    go_wp2_with (go_at_call 44;refine(yav _ _ _ _).mono ?_;rintro e w' ⟨rfl,rfl⟩)
    go_ret
    exact ⟨rfl,rfl⟩
   ·have e:ar k=0:=by simp [ar,h1,h2,h3]
    rw[e]
    have h4:(k==12)=false:=beq_eq_false_iff_ne.2 h3
    clear h3 e
    go_enter Tryz.func101,Tryz.ntmps101
    go_wp2_with (go_at_call 44;refine(yav _ _ _ _).mono ?_;rintro e w' ⟨rfl,rfl⟩)
    go_ret
    exact ⟨rfl,rfl⟩
  ·have e:ar k=2:=by simp [ar,h1,h2]
   rw[e]
   clear e
   go_enter Tryz.func101,Tryz.ntmps101
   go_wp2_with (go_at_call 44;refine(yav _ _ _ _).mono ?_;rintro e w' ⟨rfl,rfl⟩)
   go_ret
   exact ⟨rfl,rfl⟩
 ·have e:ar k=1:=by simp [ar,h1]
  rw[e]
  clear e
  go_enter Tryz.func101,Tryz.ntmps101
  go_wp2_with (go_at_call 44;refine(yav _ _ _ _).mono ?_;rintro e w' ⟨rfl,rfl⟩)
  go_ret
  exact ⟨rfl,rfl⟩
theorem ybq (k:Int) (w:World):Calls Tryz.prog 135 #[.int .i64 k] w fun e w'=>e=.returned (.int .i64 (ar k))∧w=w':=by
 cases h1:inB k 1 8
 ·cases h2:inB k 9 11
  ·by_cases h3:k=12
   ·subst h3
    go_enter Tryz.func135,Tryz.ntmps135
    go_wp2_with (go_at_call 47;refine(yag _ _ _ _).mono ?_;rintro e w' ⟨rfl,rfl⟩)
    go_ret
    exact ⟨rfl,rfl⟩
   ·have e:ar k=0:=by simp [ar,h1,h2,h3]
    rw[e]
    have h4:(k==12)=false:=beq_eq_false_iff_ne.2 h3
    clear h3 e
    go_enter Tryz.func135,Tryz.ntmps135
    go_wp2_with (go_at_call 47;refine(yag _ _ _ _).mono ?_;rintro e w' ⟨rfl,rfl⟩)
    go_ret
    exact ⟨rfl,rfl⟩
  ·have e:ar k=2:=by simp [ar,h1,h2]
   rw[e]
   clear e
   go_enter Tryz.func135,Tryz.ntmps135
   go_wp2_with (go_at_call 47;refine(yag _ _ _ _).mono ?_;rintro e w' ⟨rfl,rfl⟩)
   go_ret
   exact ⟨rfl,rfl⟩
 ·have e:ar k=1:=by simp [ar,h1]
  rw[e]
  clear e
  go_enter Tryz.func135,Tryz.ntmps135
  go_wp2_with (go_at_call 47;refine(yag _ _ _ _).mono ?_;rintro e w' ⟨rfl,rfl⟩)
  go_ret
  exact ⟨rfl,rfl⟩

def qsOf (g:Gt):List Int:=[g.a,g.b,g.c]
def yd8 (m:Nat) (n:Int) (qs:List Int) (t:Nat):Bool:=if m≤t then qs.getD t 0==0 else inB (qs.getD t 0) 0 (n - 1)&&!(qs.take t).contains (qs.getD t 0)
def yd9 (m:Nat) (n:Int) (qs:List Int):Nat→Bool
 | 0=>true
 | t+1=>yd9 m n qs t&&yd8 m n qs t
def ybs (g:Gt) (n:Int):Bool:=(inB n 1 4&&decide (ar g.k≠0))&&yd9 (ar g.k) n (qsOf g) 3
theorem ys3 {m:Nat} {n:Int} {qs:List Int} {t:Nat} (h:yd8 m n qs t=false) (h3:t<3):yd9 m n qs 3=false:=by
 match t,h3 with
 | 0,_=>simp [yd9,h]
 | 1,_=>simp [yd9,h]
 | 2,_=>simp [yd9,h]
 | _+3,h=>omega
theorem ymd {g:Gt} {n:Int} (h:inB n 1 4=false):ybs g n=false:=by simp [ybs,h]
theorem yjd {g:Gt} {n:Int} (h:ar g.k=0):ybs g n=false:=by simp [ybs,h]
theorem yff {g:Gt} {n:Int} {t:Nat} (h:yd8 (ar g.k) n (qsOf g) t=false) (h3:t<3):ybs g n=false:=by simp [ybs,ys3 h h3]
theorem yme {g:Gt} {n:Int} (h:inB n 1 4=true) (hk:ar g.k≠0) (h3:yd9 (ar g.k) n (qsOf g) 3=true):ybs g n=true:=by simp [ybs,h,hk,h3]
theorem yj0 {m:Nat} {n:Int} {qs:List Int} {t:Nat} (h:m≤t) (hq:(qs.getD t 0==0)=true):yd8 m n qs t=true:=by simpa [yd8,h] using hq
theorem yj1 {m:Nat} {n:Int} {qs:List Int} {t:Nat} (h:m≤t) (hq:(qs.getD t 0==0)=false):yd8 m n qs t=false:=by simpa [yd8,h] using hq
theorem yj2 {m:Nat} {n:Int} {qs:List Int} {t:Nat} (h:t<m) (hq:inB (qs.getD t 0) 0 (n - 1)=false):yd8 m n qs t=false:=by rw[yd8,if_neg Zq6,hq];rfl
theorem yh2 {m:Nat} {n:Int} {qs:List Int} {t:Nat} (h:t<m) (hq:(qs.take t).contains (qs.getD t 0)=true):yd8 m n qs t=false:=by rw[yd8,if_neg Zq6,hq];simp
theorem yj3 {m:Nat} {n:Int} {qs:List Int} {t:Nat} (h:t<m) (h1:inB (qs.getD t 0) 0 (n - 1)=true) (h2:(qs.take t).contains (qs.getD t 0)=false):yd8 m n qs t=true:=by rw[yd8,if_neg Zq6,h1,h2];rfl
theorem ylc {qs:List Int} {t:Nat} (h:t<qs.length):qs.take t++[qs.getD t 0]=qs.take (t+1):=by
 rw[List.take_succ_eq_append_getElem h,List.getD_eq_getElem?_getD,List.getElem?_eq_getElem h];rfl

theorem yp8 (w:World):(zeroValue 4).run Tryz.prog w=.ok (.bool false) w:=by kernel_rfl
theorem yau (k a b c n:Int) (w:World):Calls Tryz.prog 126 #[.agg #[.int .i64 k,.int .i64 a,.int .i64 b,.int .i64 c],.int .i64 n] w fun e w' =>
  e=.returned (.bool (ybs ⟨k,a,b,c⟩ n))∧Below w.heap.size w w'∧w.heap.size≤w'.heap.size:=by
 have har:=yfz k
 cases hn:inB n 1 4
 ·rw[ymd hn]
  go_enter Tryz.func126,Tryz.ntmps126
  go_wp2_with (first|(go_at_call 44;refine(yav _ _ _ _).mono ?_;rintro e w' ⟨rfl,rfl⟩)|(go_at_call 101;refine(ya5 _ _).mono ?_;rintro e w' ⟨rfl,rfl⟩))
  go_ret
  exact ⟨rfl,Zq0,Zq5⟩
 by_cases hk:ar k=0
 ·rw[yjd hk]
  go_enter Tryz.func126,Tryz.ntmps126
  go_wp2_with (first|(go_at_call 44;refine(yav _ _ _ _).mono ?_;rintro e w' ⟨rfl,rfl⟩)|(go_at_call 101;refine(ya5 _ _).mono ?_;rintro e w' ⟨rfl,rfl⟩))
  go_ret
  exact ⟨rfl,Zq0,Zq5⟩
 have hk':((ar k:Int)==0)=false:=by simpa using hk
 have hnn:=ycf.1 hn
 have HK:=hD hk
 clear hk
 have hmm:=@run_makeMap Tryz.prog
 go_enter Tryz.func126,Tryz.ntmps126
 go_wp2_with (first|(go_at_call 44;refine(yav _ _ _ _).mono ?_;rintro e w' ⟨rfl,rfl⟩)|(go_at_call 101;refine(ya5 _ _).mono ?_;rintro e w' ⟨rfl,rfl⟩))
 obtain ⟨w0,hw0⟩:∃ w0,w0=((w.alloc (.cells #[.int .i64 k,.int .i64 a,.int .i64 b,.int .i64 c] 102)).alloc (.cells #[.int .i64 a,.int .i64 b,.int .i64 c] 3)).alloc (.map #[] 0):=⟨_,rfl⟩
 rw[←hw0]
 have x0:w0.heap[w.heap.size]?=some (.cells #[.int .i64 k,.int .i64 a,.int .i64 b,.int .i64 c] 102 (0,0)):=by rw[hw0];exact ydp _ _ _ _
 have x1:w0.heap[w.heap.size+1]?=some (.cells #[.int .i64 a,.int .i64 b,.int .i64 c] 3 (0,0)):=by rw[hw0];exact ycw _ _ _ _
 have x2:ygx w0 (w.heap.size+2) []:=by rw[hw0];exact ⟨#[],0,ycx _ _ _ _,rfl⟩
 have b0:Below w.heap.size w w0:=by rw[hw0];exact Zq0
 have s0:w.heap.size+3=w0.heap.size:=by rw[hw0];simp
 have X0:=hD x0
 have X1:=hD x1
 have S0:=hD s0
 clear x0 x1 s0 hw0 hmm
 go_loopw [28] (fun i wr=>∃ t:Nat,t≤3∧i=.int .i64 t∧yd9 (ar k) n [a,b,c] t=true∧ygx wr (w.heap.size+2) ([a,b,c].take (min t (ar k)))∧Below (w.heap.size+2) w0 wr) (fun i _=>3 - (intOf i).toNat)
 case atStart=>exact ⟨0,by omega,rfl,rfl,by simpa using x2,Below.refl _ _⟩
 case round =>
  obtain ⟨t,ht,rfl,hv,hseen,hbel⟩:=hrel
  have HV:=hD hv
  clear hv x2
  have k0:wr.cell? ⟨w.heap.size,0,none⟩=some (.int .i64 k):=(hbel.cell Zq11).trans (yaj X0.out rfl)
  by_cases hlt:t<3
  ·obtain ⟨q,hq⟩:∃ q,q=[a,b,c].getD t 0:=⟨_,rfl⟩
   have q0:wr.cell? ⟨w.heap.size+1,t,none⟩=some (.int .i64 q):=(hbel.cell Zq11).trans (yaj X1.out (by
    rw[hq]
    match t,hlt with
    | 0,_=>rfl
    | 1,_=>rfl
    | 2,_=>rfl
    | _+3,h=>omega))
   have HQ:=hD hq
   clear hq
   by_cases hmt:ar k≤t
   ·cases hz:(q==0)
    ·have hz':(q != 0)=true:=by rw[bne,hz];rfl
     have HF:=hD (yff (g:=⟨k,a,b,c⟩) (n:=n) (t:=t) (yj1 hmt (by rw[←hz,HQ.out];rfl)) hlt)
     go_wp2_with (first|(go_at_call 44;refine(yav _ _ _ _).mono ?_;rintro e w' ⟨rfl,rfl⟩)|(go_at_call 101;refine(ya5 _ _).mono ?_;rintro e w' ⟨rfl,rfl⟩))
     go_ret
     exact ⟨by rw[HF.out];rfl,b0.trans (hbel.mono Zq6),by have:=hbel.size;have:=S0.out;omega⟩
    ·have hz':(q != 0)=false:=by rw[bne,hz];rfl
     go_wp2_with (first|(go_at_call 44;refine(yav _ _ _ _).mono ?_;rintro e w' ⟨rfl,rfl⟩)|(go_at_call 101;refine(ya5 _ _).mono ?_;rintro e w' ⟨rfl,rfl⟩))
     go_roundw
     case rel=>exact ⟨t+1,by omega,by go_num,by simp [yd9,HV.out];exact yj0 hmt (by rw[←hz,HQ.out]),by rw[show min (t+1) (ar k)=min t (ar k) from by omega];exact hseen,hbel⟩
     case measure=>simp [intOf];omega
   ·have hmt':t<ar k:=by omega
    have hmin:min t (ar k)=t:=by omega
    rw[hmin] at hseen
    have hlook:=ynl (q:=q) Tryz.underlying177 Tryz.underlying3 (yp8 wr) hseen
    cases h1:inB q 0 (n - 1)
    ·have HF:=hD (yff (g:=⟨k,a,b,c⟩) (n:=n) (t:=t) (yj2 hmt' (by rw[←h1,HQ.out];rfl)) hlt)
     clear hmt hmin
     go_wp2_with (first|(go_at_call 44;refine(yav _ _ _ _).mono ?_;rintro e w' ⟨rfl,rfl⟩)|(go_at_call 101;refine(ya5 _ _).mono ?_;rintro e w' ⟨rfl,rfl⟩))
     go_ret
     exact ⟨by rw[HF.out];rfl,b0.trans (hbel.mono Zq6),by have:=hbel.size;have:=S0.out;omega⟩
    ·cases h2:([a,b,c].take t).contains q
     ·obtain ⟨w2,hupd,hseen2,hgr⟩:=ynm Tryz.underlying177 Tryz.underlying3 hseen h2
      have HT:=hD hseen2
      rw[h2] at hlook
      have HV2:=hD (yj3 (n:=n) (qs:=[a,b,c]) hmt' (by rw[←h1,HQ.out]) (by rw[←h2,HQ.out]))
      have HM:=hD hmin
      clear hmt hmin hseen2 hseen h2
      go_wp2_with (first|(go_at_call 44;refine(yav _ _ _ _).mono ?_;rintro e w' ⟨rfl,rfl⟩)|(go_at_call 101;refine(ya5 _ _).mono ?_;rintro e w' ⟨rfl,rfl⟩))
      go_roundw
      case rel =>
       refine ⟨t+1,by omega,by go_num,by simp [yd9,HV.out,HV2.out],?_,hbel.trans (yd4 hgr (by have:=hbel.size;have:=S0.out;omega) Zq11)⟩
       rw[show min (t+1) (ar k)=t+1 from by omega,←ylc (by simpa using hlt),←HQ.out]
       exact HT.out
      case measure=>simp [intOf];omega
     ·have HF:=hD (yff (g:=⟨k,a,b,c⟩) (n:=n) (t:=t) (yh2 hmt' (by rw[←h2,HQ.out];rfl)) hlt)
      rw[h2] at hlook
      clear hmt hmin h2 hseen
      go_wp2_with (first|(go_at_call 44;refine(yav _ _ _ _).mono ?_;rintro e w' ⟨rfl,rfl⟩)|(go_at_call 101;refine(ya5 _ _).mono ?_;rintro e w' ⟨rfl,rfl⟩))
      go_ret
      exact ⟨by rw[HF.out];rfl,b0.trans (hbel.mono Zq6),by have:=hbel.size;have:=S0.out;omega⟩
  ·obtain rfl:t=3:=by omega
   have HF:=hD (yme (g:=⟨k,a,b,c⟩) hn HK.out HV.out)
   go_wp2_with (first|(go_at_call 44;refine(yav _ _ _ _).mono ?_;rintro e w' ⟨rfl,rfl⟩)|(go_at_call 101;refine(ya5 _ _).mono ?_;rintro e w' ⟨rfl,rfl⟩))
   go_ret
   exact ⟨by rw[HF.out];rfl,b0.trans (hbel.mono Zq6),by have:=hbel.size;have:=S0.out;omega⟩
theorem yn4 (xs:List Int) (j:Nat) (h:j<xs.length):(xs.map (Value.int .i64))[j]?=some (.int .i64 (xs.getD j 0)):=by
 simp [List.getD_eq_getElem?_getD,h]
theorem ygo {xs:List Int} {x:Int} {t:Nat} (h:t<xs.length) (h1:(xs.take t).contains x=false) (h2:(xs.getD t 0==x)=false):(xs.take (t+1)).contains x=false:=by
 rw[←ylc h]
 have h2':¬ x=xs.getD t 0:=fun e=>by rw[e] at h2;simp at h2
 rw[List.contains_eq_mem] at h1 ⊢
 simp only[decide_eq_false_iff_not,List.mem_append,List.mem_singleton,not_or] at h1 ⊢
 exact ⟨h1,h2'⟩
theorem yi5 {xs:List Int} {x:Int} {t:Nat} (h:t<xs.length) (h2:(xs.getD t 0==x)=true):xs.contains x=true:=by
 have e:xs.getD t 0=x:=by simpa using h2
 rw[List.contains_eq_mem,decide_eq_true_iff,←e,List.getD_eq_getElem?_getD,List.getElem?_eq_getElem h]
 exact List.getElem_mem h
def hasI (xs:List Int) (x:Int):Bool:=xs.contains x
theorem ydx (A:Option Addr) (n c:Nat) (xs:List Int) (x:Int) (w:World) (h:Rd w 1 A n (xs.map (Value.int .i64))) (hl:xs.length=n) (hn:n≤1099511627776) :
  Calls Tryz.prog 172 #[.slice A n c,.int .i64 x] w fun e w'=>e=.returned (.bool (hasI xs x))∧w=w':=by
 have H:=hD h
 have HL:=hD hl
 clear h hl
 go_enter Tryz.func172,Tryz.ntmps172
 go_wp2
 go_loop [5] (fun i=>∃ t:Nat,t≤n∧i=.int .i64 t∧(xs.take t).contains x=false) (fun i=>n - (intOf i).toNat)
 case atStart=>exact ⟨0,Nat.zero_le _,rfl,by simp⟩
 case round =>
  obtain ⟨t,ht,rfl,hno⟩:=hrel
  have HN:=hD hno
  clear hno
  by_cases hlt:t<n
  ·obtain ⟨b,off,rfl,_,hc⟩:=H.out.2 Zq6
   have q0:=hc t _ (yn4 xs t (by rw[HL.out];exact hlt))
   clear hc
   obtain ⟨y,hy⟩:∃ y,y=xs.getD t 0:=⟨_,rfl⟩
   rw[←hy] at q0
   have HY:=hD hy
   clear hy
   cases he:(y==x)
   ·go_wp2
    go_round
    case rel=>exact ⟨t+1,by omega,by go_num,ygo (by rw[HL.out];exact hlt) HN.out (by rw[←HY.out];exact he)⟩
    case measure=>simp [intOf];omega
   ·have HF:Hid (hasI xs x=true):=hD (yi5 (by rw[HL.out];exact hlt) (by rw[←HY.out];exact he))
    go_wp2
    go_ret
    exact ⟨by rw[HF.out];rfl,rfl⟩
  ·obtain rfl:t=n:=by omega
   have HF:Hid (hasI xs x=false):=by
    have h:=HN.out
    rw[List.take_of_length_le (by rw[HL.out];exact Nat.le_refl _)] at h
    exact h
   go_wp2
   go_ret
   exact ⟨by rw[HF.out];rfl,rfl⟩
theorem ymf:(Tryz.prog.info? 3).map (fun i=>(i.zero,i.size,i.bytes))=some (some (.int .i64 0),1,8):=by kernel_rfl
theorem Zq9 {p:Prop} (h:p:=by decide):p:=h
theorem ye3 (k a b c:Int) (w:World):Calls Tryz.prog 171 #[.agg #[.int .i64 k,.int .i64 a,.int .i64 b,.int .i64 c]] w
  (ye2 3 1 w (ar k) (([a,b,c].take (ar k)).map (Value.int .i64))):=by
 have har:=yfz k
 obtain ⟨m,hm⟩:∃ m,m=ar k:=⟨_,rfl⟩
 have HM:=hD hm
 rw[←hm] at har ⊢
 clear hm
 obtain ⟨i0,hi,hz0,hz1,hz2⟩:=info_parts ymf
 have hm4:m=0∨m=1∨m=2∨m=3:=by omega
 clear har
 rcases hm4 with rfl|rfl|rfl|rfl
 ·go_enter Tryz.func171,Tryz.ntmps171
  go_wp2_with fail
  refine(ybq _ _).mono ?_
  rintro e w' ⟨rfl,rfl⟩
  rw[←HM.out]
  obtain ⟨w0,hw0⟩:∃ w0,w0=((w.alloc (.cells #[.int .i64 k,.int .i64 a,.int .i64 b,.int .i64 c] 102)).alloc (.cells #[.int .i64 a,.int .i64 b,.int .i64 c] 3)).alloc (.cells #[] 3):=⟨_,rfl⟩
  rw[←hw0]
  have X1:Hid (w0.heap[w.heap.size+1]?=some (.cells #[.int .i64 a,.int .i64 b,.int .i64 c] 3 (0,0))):=by rw[hw0];exact ycw _ _ _ _
  have hown:w0.ownsRow w.heap.size 3 1 (.slice (some ⟨w.heap.size+2,0,none⟩) 0 0) 0 []:=⟨rfl,.inr ⟨_,0,#[],rfl,by omega,by rw[hw0];exact ycx _ _ _ _,by decide,by decide,rfl,rfl⟩⟩
  have b0:Below w.heap.size w w0:=by rw[hw0];exact Zq0
  have s0:w.heap.size+3=w0.heap.size:=by rw[hw0];simp
  have S0:=hD s0
  clear s0 hw0
  go_wp2_with (at_builtin;refine wpList_append_own _ rfl _ _ 123 rfl w.heap.size 3 i0 _ 1 8 Tryz.underlying123 hi hz0 hz1 hz2 rfl Zq9 _ _ _ rfl hown ⟨w.heap.size+1,0,none⟩ 0 3 [] rfl rfl ?c1 ?c2 ?c3 ?c4 ?c5 ?_)
  case c1=>exact yfp X1.out [.int .i64 a,.int .i64 b,.int .i64 c] rfl
  case c2=>exact fun u hu=>List.all_eq_true.1 (by rfl) u hu
  case c3=>decide
  case c4=>decide
  case c5=>have:=S0.out;omega
  intro v' w3 hown' hgrow _
  clear hown
  go_wp2
  go_ret
  exact ⟨v',rfl,hown',b0.grown hgrow (by have:=S0.out;omega) (by intro q hq;simp [Value.ownBlock] at hq;omega),by have:=hgrow.size;have:=S0.out;omega⟩
 ·go_enter Tryz.func171,Tryz.ntmps171
  go_wp2_with fail
  refine(ybq _ _).mono ?_
  rintro e w' ⟨rfl,rfl⟩
  rw[←HM.out]
  obtain ⟨w0,hw0⟩:∃ w0,w0=((w.alloc (.cells #[.int .i64 k,.int .i64 a,.int .i64 b,.int .i64 c] 102)).alloc (.cells #[.int .i64 a,.int .i64 b,.int .i64 c] 3)).alloc (.cells #[] 3):=⟨_,rfl⟩
  rw[←hw0]
  have X1:Hid (w0.heap[w.heap.size+1]?=some (.cells #[.int .i64 a,.int .i64 b,.int .i64 c] 3 (0,0))):=by rw[hw0];exact ycw _ _ _ _
  have hown:w0.ownsRow w.heap.size 3 1 (.slice (some ⟨w.heap.size+2,0,none⟩) 0 0) 0 []:=⟨rfl,.inr ⟨_,0,#[],rfl,by omega,by rw[hw0];exact ycx _ _ _ _,by decide,by decide,rfl,rfl⟩⟩
  have b0:Below w.heap.size w w0:=by rw[hw0];exact Zq0
  have s0:w.heap.size+3=w0.heap.size:=by rw[hw0];simp
  have S0:=hD s0
  clear s0 hw0
  go_wp2_with (at_builtin;refine wpList_append_own _ rfl _ _ 123 rfl w.heap.size 3 i0 _ 1 8 Tryz.underlying123 hi hz0 hz1 hz2 rfl Zq9 _ _ _ rfl hown ⟨w.heap.size+1,0,none⟩ 1 3 [.int .i64 a] rfl rfl ?c1 ?c2 ?c3 ?c4 ?c5 ?_)
  case c1=>exact yfp X1.out [.int .i64 b,.int .i64 c] rfl
  case c2=>exact fun u hu=>List.all_eq_true.1 (by rfl) u hu
  case c3=>decide
  case c4=>decide
  case c5=>have:=S0.out;omega
  intro v' w3 hown' hgrow _
  clear hown
  go_wp2
  go_ret
  exact ⟨v',rfl,hown',b0.grown hgrow (by have:=S0.out;omega) (by intro q hq;simp [Value.ownBlock] at hq;omega),by have:=hgrow.size;have:=S0.out;omega⟩
 ·go_enter Tryz.func171,Tryz.ntmps171
  go_wp2_with fail
  refine(ybq _ _).mono ?_
  rintro e w' ⟨rfl,rfl⟩
  rw[←HM.out]
  obtain ⟨w0,hw0⟩:∃ w0,w0=((w.alloc (.cells #[.int .i64 k,.int .i64 a,.int .i64 b,.int .i64 c] 102)).alloc (.cells #[.int .i64 a,.int .i64 b,.int .i64 c] 3)).alloc (.cells #[] 3):=⟨_,rfl⟩
  rw[←hw0]
  have X1:Hid (w0.heap[w.heap.size+1]?=some (.cells #[.int .i64 a,.int .i64 b,.int .i64 c] 3 (0,0))):=by rw[hw0];exact ycw _ _ _ _
  have hown:w0.ownsRow w.heap.size 3 1 (.slice (some ⟨w.heap.size+2,0,none⟩) 0 0) 0 []:=⟨rfl,.inr ⟨_,0,#[],rfl,by omega,by rw[hw0];exact ycx _ _ _ _,by decide,by decide,rfl,rfl⟩⟩
  have b0:Below w.heap.size w w0:=by rw[hw0];exact Zq0
  have s0:w.heap.size+3=w0.heap.size:=by rw[hw0];simp
  have S0:=hD s0
  clear s0 hw0
  go_wp2_with (at_builtin;refine wpList_append_own _ rfl _ _ 123 rfl w.heap.size 3 i0 _ 1 8 Tryz.underlying123 hi hz0 hz1 hz2 rfl Zq9 _ _ _ rfl hown ⟨w.heap.size+1,0,none⟩ 2 3 [.int .i64 a,.int .i64 b] rfl rfl ?c1 ?c2 ?c3 ?c4 ?c5 ?_)
  case c1=>exact yfp X1.out [.int .i64 c] rfl
  case c2=>exact fun u hu=>List.all_eq_true.1 (by rfl) u hu
  case c3=>decide
  case c4=>decide
  case c5=>have:=S0.out;omega
  intro v' w3 hown' hgrow _
  clear hown
  go_wp2
  go_ret
  exact ⟨v',rfl,hown',b0.grown hgrow (by have:=S0.out;omega) (by intro q hq;simp [Value.ownBlock] at hq;omega),by have:=hgrow.size;have:=S0.out;omega⟩
 ·go_enter Tryz.func171,Tryz.ntmps171
  go_wp2_with fail
  refine(ybq _ _).mono ?_
  rintro e w' ⟨rfl,rfl⟩
  rw[←HM.out]
  obtain ⟨w0,hw0⟩:∃ w0,w0=((w.alloc (.cells #[.int .i64 k,.int .i64 a,.int .i64 b,.int .i64 c] 102)).alloc (.cells #[.int .i64 a,.int .i64 b,.int .i64 c] 3)).alloc (.cells #[] 3):=⟨_,rfl⟩
  rw[←hw0]
  have X1:Hid (w0.heap[w.heap.size+1]?=some (.cells #[.int .i64 a,.int .i64 b,.int .i64 c] 3 (0,0))):=by rw[hw0];exact ycw _ _ _ _
  have hown:w0.ownsRow w.heap.size 3 1 (.slice (some ⟨w.heap.size+2,0,none⟩) 0 0) 0 []:=⟨rfl,.inr ⟨_,0,#[],rfl,by omega,by rw[hw0];exact ycx _ _ _ _,by decide,by decide,rfl,rfl⟩⟩
  have b0:Below w.heap.size w w0:=by rw[hw0];exact Zq0
  have s0:w.heap.size+3=w0.heap.size:=by rw[hw0];simp
  have S0:=hD s0
  clear s0 hw0
  go_wp2_with (at_builtin;refine wpList_append_own _ rfl _ _ 123 rfl w.heap.size 3 i0 _ 1 8 Tryz.underlying123 hi hz0 hz1 hz2 rfl Zq9 _ _ _ rfl hown ⟨w.heap.size+1,0,none⟩ 3 3 [.int .i64 a,.int .i64 b,.int .i64 c] rfl rfl ?c1 ?c2 ?c3 ?c4 ?c5 ?_)
  case c1=>exact yfp X1.out [] rfl
  case c2=>exact fun u hu=>List.all_eq_true.1 (by rfl) u hu
  case c3=>decide
  case c4=>decide
  case c5=>have:=S0.out;omega
  intro v' w3 hown' hgrow _
  clear hown
  go_wp2
  go_ret
  exact ⟨v',rfl,hown',b0.grown hgrow (by have:=S0.out;omega) (by intro q hq;simp [Value.ownBlock] at hq;omega),by have:=hgrow.size;have:=S0.out;omega⟩
theorem yhw (k a b c n:Int) (w:World) (hn:inB n 1 4=true):Calls Tryz.prog 147 #[.agg #[.int .i64 k,.int .i64 a,.int .i64 b,.int .i64 c],.int .i64 n] w fun e w' =>
  e=.returned (.bool (ybs ⟨k,a,b,c⟩ n))∧Below w.heap.size w w'∧w.heap.size≤w'.heap.size:=by
 have har:=yfz k
 have hnn:=ycf.1 hn
 go_enter Tryz.func147,Tryz.ntmps147
 go_wp2_with fail
 obtain ⟨w0,hw0⟩:∃ w0,w0=w.alloc (.cells #[.int .i64 k,.int .i64 a,.int .i64 b,.int .i64 c] 102):=⟨_,rfl⟩
 rw[←hw0]
 have X0:Hid (w0.heap[w.heap.size]?=some (.cells #[.int .i64 k,.int .i64 a,.int .i64 b,.int .i64 c] 102 (0,0))):=by rw[hw0];exact yac _ _
 have b0:Below w.heap.size w w0:=by rw[hw0];exact Zq0
 have s0:w.heap.size+1=w0.heap.size:=by rw[hw0];simp
 have S0:=hD s0
 clear hw0 s0
 refine(ye3 _ _ _ _ _).mono ?_
 rintro e w1 ⟨v1,rfl,own1,b1,s1⟩
 obtain ⟨A1,c1,rfl,hc1,hc1m,r1⟩:=yah own1
 obtain ⟨p0,p1,p2,p3⟩:=yai (lay:=b1) X0.out
 go_wp2_with fail
 clear p0 p1 p2 p3
 obtain ⟨w2,hw2⟩:∃ w2,w2=w1.alloc (.cells #[.int .i64 a,.int .i64 b,.int .i64 c] 3):=⟨_,rfl⟩
 rw[←hw2]
 have X2:Hid (w2.heap[w1.heap.size]?=some (.cells #[.int .i64 a,.int .i64 b,.int .i64 c] 3 (0,0))):=by rw[hw2];exact yac _ _
 have b2:Below w1.heap.size w1 w2:=by rw[hw2];exact Zq0
 have s2:w1.heap.size+1=w2.heap.size:=by rw[hw2];simp
 have S2:=hD s2
 have R1:=hD (r1.below b2)
 have HC:=hD hc1m
 clear hw2 s2 r1 own1
 go_loopw [7] (fun i wr=>∃ t:Nat,t≤3∧i=.int .i64 t∧yd9 (ar k) n [a,b,c] t=true∧Below w2.heap.size w2 wr) (fun i _=>3 - (intOf i).toNat)
 case atStart=>exact ⟨0,by omega,rfl,rfl,Below.refl _ _⟩
 case round =>
  obtain ⟨t,ht,rfl,hv,hbel⟩:=hrel
  have HV:=hD hv
  clear hv
  by_cases hlt:t<3
  ·obtain ⟨q,hq⟩:∃ q,q=[a,b,c].getD t 0:=⟨_,rfl⟩
   have q0:wr.cell? ⟨w1.heap.size,t,none⟩=some (.int .i64 q):=(hbel.cell (by have:=S2.out;simp;omega)).trans (yaj X2.out (by
    rw[hq]
    match t,hlt with
    | 0,_=>rfl
    | 1,_=>rfl
    | 2,_=>rfl
    | _+3,h=>omega))
   have HQ:=hD hq
   clear hq
   have hlt':(t:Int)<3:=by omega
   by_cases hmt:ar k≤t
   ·have d1:decide (ar k≤t)=true:=by simpa using hmt
    have d2:decide (t<ar k)=false:=by simp;omega
    cases hz:(q==0)
    ·have hz':(q != 0)=true:=by rw[bne,hz];rfl
     have HF:=hD (yff (g:=⟨k,a,b,c⟩) (n:=n) (t:=t) (yj1 hmt (by rw[←hz,HQ.out];rfl)) hlt)
     go_wp2_with fail
     go_quiet (fail)
     go_wp2_with fail
     go_ret
     exact ⟨by rw[HF.out];rfl,((b0.trans (b1.mono (by have:=S0.out;omega))).trans (b2.mono (by have:=S0.out;omega))).trans (yaq (hbel.mono (by have:=S0.out;have:=S2.out;omega)) _),by have:=hbel.size;have:=S0.out;have:=S2.out;simp;omega⟩
    ·have hz':(q != 0)=false:=by rw[bne,hz];rfl
     go_wp2_with fail
     go_quiet (fail)
     go_wp2_with fail
     go_roundw
     case rel=>exact ⟨t+1,by omega,by go_num,by simp [yd9,HV.out];exact yj0 hmt (by rw[←hz,HQ.out]),yaq hbel _⟩
     case measure=>simp [intOf];omega
   ·have hmt':t<ar k:=by omega
    have d1:decide (ar k≤t)=false:=by simp;omega
    have d2:decide (t<ar k)=true:=by simp;omega
    obtain ⟨b',off',rfl,hl',_⟩:=R1.out.2 Zq6
    have RT:Hid (Rd wr 1 (some ⟨b',off',none⟩) t (([a,b,c].take t).map (Value.int .i64))):=by
     have h:=(R1.out.below hbel).take (t:=t) Zq6
     rw[←List.map_take,List.take_take,show min t (ar k)=t from by omega] at h
     exact h
    have HL:Hid (([a,b,c].take t).length=t):=by
     show([a,b,c].take t).length=t
     rw[List.length_take];simp;omega
    have tc:t≤c1:=by omega
    cases h1:inB q 0 (n - 1)
    ·have HF:=hD (yff (g:=⟨k,a,b,c⟩) (n:=n) (t:=t) (yj2 hmt' (by rw[←h1,HQ.out];rfl)) hlt)
     clear hmt
     go_wp2_with fail
     go_quiet (first|(go_at_call 47;exact yc1 (yag _ _ _ _))|(go_at_call 172;exact yc1 (ydx _ _ _ ([a,b,c].take t) _ _ (RT.out.drewN _) HL.out Zq6)))
     go_wp2_with fail
     go_ret
     exact ⟨by rw[HF.out];rfl,((b0.trans (b1.mono (by have:=S0.out;omega))).trans (b2.mono (by have:=S0.out;omega))).trans (yaq (hbel.mono (by have:=S0.out;have:=S2.out;omega)) _),by have:=hbel.size;have:=S0.out;have:=S2.out;simp;omega⟩
    ·cases h2:hasI ([a,b,c].take t) q
     ·have HV2:=hD (yj3 (n:=n) (qs:=[a,b,c]) hmt' (by rw[←h1,HQ.out]) (by rw[←h2,HQ.out];rfl))
      clear hmt
      go_wp2_with fail
      go_quiet (first|(go_at_call 47;exact yc1 (yag _ _ _ _))|(go_at_call 172;exact yc1 (ydx _ _ _ ([a,b,c].take t) _ _ (RT.out.drewN _) HL.out Zq6)))
      go_wp2_with fail
      go_roundw
      case rel=>exact ⟨t+1,by omega,by go_num,by simp [yd9,HV.out,HV2.out],yaq hbel _⟩
      case measure=>simp [intOf];omega
     ·have HF:=hD (yff (g:=⟨k,a,b,c⟩) (n:=n) (t:=t) (yh2 hmt' (by rw[←h2,HQ.out];rfl)) hlt)
      clear hmt
      go_wp2_with fail
      go_quiet (first|(go_at_call 47;exact yc1 (yag _ _ _ _))|(go_at_call 172;exact yc1 (ydx _ _ _ ([a,b,c].take t) _ _ (RT.out.drewN _) HL.out Zq6)))
      go_wp2_with fail
      go_ret
      exact ⟨by rw[HF.out];rfl,((b0.trans (b1.mono (by have:=S0.out;omega))).trans (b2.mono (by have:=S0.out;omega))).trans (yaq (hbel.mono (by have:=S0.out;have:=S2.out;omega)) _),by have:=hbel.size;have:=S0.out;have:=S2.out;simp;omega⟩
  ·obtain rfl:t=3:=by omega
   by_cases hk:ar k=0
   ·have HF:=hD (yjd (g:=⟨k,a,b,c⟩) (n:=n) hk)
    have hk':decide (0<ar k)=false:=by simp [hk]
    have HK:=hD hk
    clear hk
    go_wp2_with (go_at_call 47;refine(yag _ _ _ _).mono ?_;rintro e w' ⟨rfl,rfl⟩)
    go_ret
    exact ⟨by rw[HF.out];rfl,((b0.trans (b1.mono (by have:=S0.out;omega))).trans (b2.mono (by have:=S0.out;omega))).trans (hbel.mono (by have:=S0.out;have:=S2.out;omega)),by have:=hbel.size;have:=S0.out;have:=S2.out;omega⟩
   ·have HF:=hD (yme (g:=⟨k,a,b,c⟩) hn hk HV.out)
    have hk':decide (0<ar k)=true:=by simp;omega
    have HK:=hD hk
    clear hk
    go_wp2_with (go_at_call 47;refine(yag _ _ _ _).mono ?_;rintro e w' ⟨rfl,rfl⟩)
    go_ret
    exact ⟨by rw[HF.out];rfl,((b0.trans (b1.mono (by have:=S0.out;omega))).trans (b2.mono (by have:=S0.out;omega))).trans (hbel.mono (by have:=S0.out;have:=S2.out;omega)),by have:=hbel.size;have:=S0.out;have:=S2.out;omega⟩
theorem yhb (k a b c n:Int) (w:World) (hn:inB n 1 4=false):Calls Tryz.prog 147 #[.agg #[.int .i64 k,.int .i64 a,.int .i64 b,.int .i64 c],.int .i64 n] w fun e w' =>
  e=.returned (.bool (ybs ⟨k,a,b,c⟩ n))∧Below w.heap.size w w'∧w.heap.size≤w'.heap.size:=by
 have har:=yfz k
 have HF:=hD (ymd (g:=⟨k,a,b,c⟩) hn)
 go_enter Tryz.func147,Tryz.ntmps147
 go_wp2_with fail
 obtain ⟨w0,hw0⟩:∃ w0,w0=w.alloc (.cells #[.int .i64 k,.int .i64 a,.int .i64 b,.int .i64 c] 102):=⟨_,rfl⟩
 rw[←hw0]
 have X0:Hid (w0.heap[w.heap.size]?=some (.cells #[.int .i64 k,.int .i64 a,.int .i64 b,.int .i64 c] 102 (0,0))):=by rw[hw0];exact yac _ _
 have b0:Below w.heap.size w w0:=by rw[hw0];exact Zq0
 have s0:w.heap.size+1=w0.heap.size:=by rw[hw0];simp
 have S0:=hD s0
 clear hw0 s0
 refine(ye3 _ _ _ _ _).mono ?_
 rintro e w1 ⟨v1,rfl,own1,b1,s1⟩
 obtain ⟨A1,c1,rfl,hc1,hc1m,r1⟩:=yah own1
 obtain ⟨p0,p1,p2,p3⟩:=yai (lay:=b1) X0.out
 go_wp2_with fail
 clear p0 p1 p2 p3
 obtain ⟨w2,hw2⟩:∃ w2,w2=w1.alloc (.cells #[.int .i64 a,.int .i64 b,.int .i64 c] 3):=⟨_,rfl⟩
 rw[←hw2]
 have X2:Hid (w2.heap[w1.heap.size]?=some (.cells #[.int .i64 a,.int .i64 b,.int .i64 c] 3 (0,0))):=by rw[hw2];exact yac _ _
 have b2:Below w1.heap.size w1 w2:=by rw[hw2];exact Zq0
 have s2:w1.heap.size+1=w2.heap.size:=by rw[hw2];simp
 have S2:=hD s2
 have R1:=hD (r1.below b2)
 have HC:=hD hc1m
 clear hw2 s2 r1 own1
 go_loopw [7] (fun i wr=>∃ t:Nat,t≤3∧i=.int .i64 t∧Below w2.heap.size w2 wr) (fun i _=>3 - (intOf i).toNat)
 case atStart=>exact ⟨0,by omega,rfl,Below.refl _ _⟩
 case round =>
  obtain ⟨t,ht,rfl,hbel⟩:=hrel
  by_cases hlt:t<3
  ·obtain ⟨q,hq⟩:∃ q,q=[a,b,c].getD t 0:=⟨_,rfl⟩
   have q0:wr.cell? ⟨w1.heap.size,t,none⟩=some (.int .i64 q):=(hbel.cell (by have:=S2.out;simp;omega)).trans (yaj X2.out (by
    rw[hq]
    match t,hlt with
    | 0,_=>rfl
    | 1,_=>rfl
    | 2,_=>rfl
    | _+3,h=>omega))
   have HQ:=hD hq
   clear hq
   have hlt':(t:Int)<3:=by omega
   by_cases hmt:ar k≤t
   ·have d1:decide (ar k≤t)=true:=by simpa using hmt
    have d2:decide (t<ar k)=false:=by simp;omega
    cases hz:(q==0)
    ·have hz':(q != 0)=true:=by rw[bne,hz];rfl
     go_wp2_with fail
     go_quiet (fail)
     go_wp2_with fail
     go_ret
     exact ⟨by rw[HF.out];rfl,((b0.trans (b1.mono (by have:=S0.out;omega))).trans (b2.mono (by have:=S0.out;omega))).trans (yaq (hbel.mono (by have:=S0.out;have:=S2.out;omega)) _),by have:=hbel.size;have:=S0.out;have:=S2.out;simp;omega⟩
    ·have hz':(q != 0)=false:=by rw[bne,hz];rfl
     go_wp2_with fail
     go_quiet (fail)
     go_wp2_with fail
     go_roundw
     case rel=>exact ⟨t+1,by omega,by go_num,yaq hbel _⟩
     case measure=>simp [intOf];omega
   ·have hmt':t<ar k:=by omega
    have d1:decide (ar k≤t)=false:=by simp;omega
    have d2:decide (t<ar k)=true:=by simp;omega
    obtain ⟨b',off',rfl,hl',_⟩:=R1.out.2 Zq6
    have RT:Hid (Rd wr 1 (some ⟨b',off',none⟩) t (([a,b,c].take t).map (Value.int .i64))):=by
     have h:=(R1.out.below hbel).take (t:=t) Zq6
     rw[←List.map_take,List.take_take,show min t (ar k)=t from by omega] at h
     exact h
    have HL:Hid (([a,b,c].take t).length=t):=by
     show([a,b,c].take t).length=t
     rw[List.length_take];simp;omega
    have tc:t≤c1:=by omega
    cases h1:inB q 0 (wrap64 (n - 1))
    ·clear hmt
     go_wp2_with fail
     go_quiet (first|(go_at_call 47;exact yc1 (yag _ _ _ _))|(go_at_call 172;exact yc1 (ydx _ _ _ ([a,b,c].take t) _ _ (RT.out.drewN _) HL.out Zq6)))
     go_wp2_with fail
     go_ret
     exact ⟨by rw[HF.out];rfl,((b0.trans (b1.mono (by have:=S0.out;omega))).trans (b2.mono (by have:=S0.out;omega))).trans (yaq (hbel.mono (by have:=S0.out;have:=S2.out;omega)) _),by have:=hbel.size;have:=S0.out;have:=S2.out;simp;omega⟩
    ·cases h2:hasI ([a,b,c].take t) q
     ·clear hmt
      go_wp2_with fail
      go_quiet (first|(go_at_call 47;exact yc1 (yag _ _ _ _))|(go_at_call 172;exact yc1 (ydx _ _ _ ([a,b,c].take t) _ _ (RT.out.drewN _) HL.out Zq6)))
      go_wp2_with fail
      go_roundw
      case rel=>exact ⟨t+1,by omega,by go_num,yaq hbel _⟩
      case measure=>simp [intOf];omega
     ·clear hmt
      go_wp2_with fail
      go_quiet (first|(go_at_call 47;exact yc1 (yag _ _ _ _))|(go_at_call 172;exact yc1 (ydx _ _ _ ([a,b,c].take t) _ _ (RT.out.drewN _) HL.out Zq6)))
      go_wp2_with fail
      go_ret
      exact ⟨by rw[HF.out];rfl,((b0.trans (b1.mono (by have:=S0.out;omega))).trans (b2.mono (by have:=S0.out;omega))).trans (yaq (hbel.mono (by have:=S0.out;have:=S2.out;omega)) _),by have:=hbel.size;have:=S0.out;have:=S2.out;simp;omega⟩
  ·obtain rfl:t=3:=by omega
   by_cases hk:ar k=0
   ·have hk':decide (0<ar k)=false:=by simp [hk]
    have HK:=hD hk
    clear hk
    go_wp2_with (go_at_call 47;refine(yag _ _ _ _).mono ?_;rintro e w' ⟨rfl,rfl⟩)
    go_ret
    exact ⟨by rw[HF.out];rfl,((b0.trans (b1.mono (by have:=S0.out;omega))).trans (b2.mono (by have:=S0.out;omega))).trans (hbel.mono (by have:=S0.out;have:=S2.out;omega)),by have:=hbel.size;have:=S0.out;have:=S2.out;omega⟩
   ·have hk':decide (0<ar k)=true:=by simp;omega
    have HK:=hD hk
    clear hk
    go_wp2_with (go_at_call 47;refine(yag _ _ _ _).mono ?_;rintro e w' ⟨rfl,rfl⟩)
    go_ret
    exact ⟨by rw[HF.out];rfl,((b0.trans (b1.mono (by have:=S0.out;omega))).trans (b2.mono (by have:=S0.out;omega))).trans (hbel.mono (by have:=S0.out;have:=S2.out;omega)),by have:=hbel.size;have:=S0.out;have:=S2.out;omega⟩
theorem yaw (k a b c n:Int) (w:World):Calls Tryz.prog 147 #[.agg #[.int .i64 k,.int .i64 a,.int .i64 b,.int .i64 c],.int .i64 n] w fun e w' =>
  e=.returned (.bool (ybs ⟨k,a,b,c⟩ n))∧Below w.heap.size w w'∧w.heap.size≤w'.heap.size:=by
 cases hn:inB n 1 4
 ·exact yhb k a b c n w hn
 ·exact yhw k a b c n w hn
def hasB (k:Int):Bool:=k==2 || (k==3 || (k==4 || (k==5 || k==7)))
theorem yp9 {k:Int} (h2:k≠2) (h3:k≠3) (h4:k≠4) (h5:k≠5) (h7:k≠7):hasB k=false:=by simp [hasB,h2,h3,h4,h5,h7]
theorem yba (k:Int) (w:World):Calls Tryz.prog 103 #[.int .i64 k] w fun e w'=>e=.returned (.bool (hasB k))∧w=w':=by
 by_cases h2:k=2
 ·subst h2
  go_enter Tryz.func103,Tryz.ntmps103
  go_wp2
  go_ret
  exact ⟨rfl,rfl⟩
 by_cases h3:k=3
 ·subst h3
  go_enter Tryz.func103,Tryz.ntmps103
  go_wp2
  go_ret
  exact ⟨rfl,rfl⟩
 by_cases h4:k=4
 ·subst h4
  go_enter Tryz.func103,Tryz.ntmps103
  go_wp2
  go_ret
  exact ⟨rfl,rfl⟩
 by_cases h5:k=5
 ·subst h5
  go_enter Tryz.func103,Tryz.ntmps103
  go_wp2
  go_ret
  exact ⟨rfl,rfl⟩
 by_cases h7:k=7
 ·subst h7
  go_enter Tryz.func103,Tryz.ntmps103
  go_wp2
  go_ret
  exact ⟨rfl,rfl⟩
 rw[yp9 h2 h3 h4 h5 h7]
 have e2:(k==2)=false:=beq_eq_false_iff_ne.2 h2
 have e3:(k==3)=false:=beq_eq_false_iff_ne.2 h3
 have e4:(k==4)=false:=beq_eq_false_iff_ne.2 h4
 have e5:(k==5)=false:=beq_eq_false_iff_ne.2 h5
 have e7:(k==7)=false:=beq_eq_false_iff_ne.2 h7
 clear h2 h3 h4 h5 h7
 go_enter Tryz.func103,Tryz.ntmps103
 go_wp2
 go_ret
 exact ⟨rfl,rfl⟩
def imax (a b:Int):Int:=if b<a then a else b
theorem yld (a b:Int) (w:World):Calls Tryz.prog 107 #[.int .i64 a,.int .i64 b] w fun e w'=>e=.returned (.int .i64 (imax a b))∧w=w':=by
 by_cases h:b<a
 ·rw[show imax a b=a from if_pos h]
  go_enter Tryz.func107,Tryz.ntmps107
  go_wp2
  go_ret
  exact ⟨rfl,rfl⟩
 ·rw[show imax a b=b from if_neg h]
  go_enter Tryz.func107,Tryz.ntmps107
  go_wp2
  go_ret
  exact ⟨rfl,rfl⟩
def yqa:List (List UInt8):=[[],[120],[121],[122],[104],[115],[115,100],[116],[116,100],[99,120],[99,122],[115,119,97,112],[99,99,120]]
def ydg (k:Nat):List UInt8:=yqa.getD k []
theorem yfv (k:Nat) (h1:1≤k) (h2:k≤12) (w:World):Calls Tryz.prog 161 #[.int .i64 k] w fun e w'=>e=.returned (.string ⟨(ydg k).toArray⟩)∧Below w.heap.size w w'∧w.heap.size≤w'.heap.size:=by
 have hb:inB (k:Int) 1 12=true:=yl6 Zq6 Zq6
 have hk:k=1∨k=2∨k=3∨k=4∨k=5∨k=6∨k=7∨k=8∨k=9∨k=10∨k=11∨k=12:=by omega
 clear h1 h2
 rcases hk with rfl|rfl|rfl|rfl|rfl|rfl|rfl|rfl|rfl|rfl|rfl|rfl
 all_goals
  go_enter Tryz.func161,Tryz.ntmps161
  go_wp2_with (go_at_call 47;refine(yag _ _ _ _).mono ?_;rintro e w' ⟨rfl,rfl⟩)
  go_ret
  exact ⟨rfl,Zq0,Zq5⟩
def yct (word:List UInt8):Nat→Nat→Nat
 | 0,_=>0
 | f+1,k=>if ydg k==word then k else yct word f (k+1)
def yao (word:ByteArray):Nat:=yct word.toList 12 1
theorem ymg (word:List UInt8):∀ f k,k+f≤13→yct word f k≤12:=by
 intro f
 induction f with
 | zero=>intro k _;simp [yct]
 | succ f ih =>
  intro k h
  simp only[yct]
  split
  ·omega
  ·exact ih (k+1) Zq6
theorem yfw (word:ByteArray) (w:World):Calls Tryz.prog 136 #[.string word] w fun e w'=>e=.returned (.int .i64 (yao word))∧Below w.heap.size w w'∧w.heap.size≤w'.heap.size:=by
 go_enter Tryz.func136,Tryz.ntmps136
 go_wp2
 go_loopw [3] (fun k wr=>∃ t:Nat,1≤t∧t≤13∧k=.int .i64 t∧yao word=yct word.toList (13 - t) t∧Below w.heap.size w wr) (fun k _=>13 - (intOf k).toNat)
 case atStart=>exact ⟨1,by omega,by omega,rfl,rfl,Below.refl _ _⟩
 case round =>
  obtain ⟨t,h1,ht,rfl,hg,hb⟩:=hrel
  have HG:=hD hg
  clear hg
  by_cases hlt:t≤12
  ·have HS:Hid (yao word=if ydg t==word.toList then t else yct word.toList (13 - (t+1)) (t+1)):=by
    have h:=HG.out
    rw[show 13 - t=(13 - (t+1))+1 from by omega] at h
    exact h
   cases he:(ydg t==word.toList)
   ·have HF:Hid (yao word=yct word.toList (13 - (t+1)) (t+1)):=by
     have h:=HS.out
     rw[he] at h
     exact h
    go_wp2_with fail
    refine(yfv t h1 hlt _).mono ?_
    rintro e w1 ⟨rfl,b1,s1⟩
    go_wp2_with fail
    go_roundw
    case rel=>exact ⟨t+1,by omega,by omega,by go_num,HF.out,hb.trans (b1.mono hb.size)⟩
    case measure=>simp [intOf];omega
   ·have HF:Hid (yao word=t):=by
     have h:=HS.out
     rw[he] at h
     exact h
    go_wp2_with fail
    refine(yfv t h1 hlt _).mono ?_
    rintro e w1 ⟨rfl,b1,s1⟩
    go_wp2_with fail
    go_ret
    exact ⟨by rw[HF.out];rfl,hb.trans (b1.mono hb.size),Nat.le_trans hb.size s1⟩
  ·obtain rfl:t=13:=by omega
   have HF:Hid (yao word=0):=HG.out
   go_wp2_with fail
   go_ret
   exact ⟨by rw[HF.out];rfl,hb,hb.size⟩
def yar (k:Int) (word:ByteArray):Nat:=if k=1 then ar (yao word) else if k=2 then 0 else if k=3 then 0 else if k=4 then 1 else if k=5 then 1 else if k=7 then 1 else 2
theorem yax (k:Int) (word:ByteArray) (va:Value) (count:Int) (vb:Value) (w:World) (ha:∃ A n c,va=.slice A n c) (hb:∃ A n c,vb=.slice A n c):Calls Tryz.prog 106 #[.agg #[.int .i64 k,.string word,va,.int .i64 count,vb]] w fun e w' =>
  e=.returned (.tuple #[.int .i64 (yar k word),.bool (hasB k)])∧Below w.heap.size w w'∧w.heap.size≤w'.heap.size:=by
 obtain ⟨A,n,c,rfl⟩:=ha
 obtain ⟨A',n',c',rfl⟩:=hb
 by_cases h1:k=1
 ·subst h1
  go_enter Tryz.func106,Tryz.ntmps106
  go_wp2_with fail
  refine(yfw _ _).mono ?_
  rintro e w1 ⟨rfl,b1,s1⟩
  simp at s1
  go_wp2_with fail
  refine(ybq _ _).mono ?_
  rintro e w' ⟨rfl,rfl⟩
  go_wp2_with fail
  go_ret2
  exact ⟨rfl,Zq0,Zq5⟩
 have e1:(k==1)=false:=beq_eq_false_iff_ne.2 h1
 by_cases h2:k=2
 ·subst h2
  go_enter Tryz.func106,Tryz.ntmps106
  go_wp2_with fail
  go_ret2
  exact ⟨rfl,Zq0,Zq5⟩
 have e2:(k==2)=false:=beq_eq_false_iff_ne.2 h2
 by_cases h3:k=3
 ·subst h3
  go_enter Tryz.func106,Tryz.ntmps106
  go_wp2_with fail
  go_ret2
  exact ⟨rfl,Zq0,Zq5⟩
 have e3:(k==3)=false:=beq_eq_false_iff_ne.2 h3
 by_cases h4:k=4
 ·subst h4
  go_enter Tryz.func106,Tryz.ntmps106
  go_wp2_with fail
  go_ret2
  exact ⟨rfl,Zq0,Zq5⟩
 have e4:(k==4)=false:=beq_eq_false_iff_ne.2 h4
 by_cases h5:k=5
 ·subst h5
  go_enter Tryz.func106,Tryz.ntmps106
  go_wp2_with fail
  go_ret2
  exact ⟨rfl,Zq0,Zq5⟩
 have e5:(k==5)=false:=beq_eq_false_iff_ne.2 h5
 by_cases h7:k=7
 ·subst h7
  go_enter Tryz.func106,Tryz.ntmps106
  go_wp2_with fail
  go_ret2
  exact ⟨rfl,Zq0,Zq5⟩
 have e7:(k==7)=false:=beq_eq_false_iff_ne.2 h7
 have HA:=hD (show yar k word=2 by simp [yar,h1,h2,h3,h4,h5,h7])
 have HB:=hD (yp9 h2 h3 h4 h5 h7)
 clear h1 h2 h3 h4 h5 h7
 go_enter Tryz.func106,Tryz.ntmps106
 go_wp2_with fail
 go_ret2
 exact ⟨by rw[HA.out,HB.out];rfl,Zq0,Zq5⟩
def ybf:(d:Nat)→List (Tr d)→Nat
 | 0,_=>0
 | d+1,l=>l.foldl (fun (m:Nat) (s:Tr (d+1))=>if hasB (hdT s).k then max m (1+ybf d (bdT s)) else m) 0
theorem yts {d:Nat} {l:List (Tr (d+1))} {s:Tr (d+1)} (h:s∈l):szE s≤sumE l:=by
 obtain ⟨t,ht⟩:=List.getElem?_of_mem h
 exact ydw ht
theorem yje:∀ (d:Nat) (l:List (Tr d)),ybf d l≤szT d l:=by
 intro d
 induction d with
 | zero=>intro l;exact Nat.le_refl _
 | succ d ih =>
  intro l
  have key:∀ (B:Nat) (l:List (Tr (d+1))),(∀ s∈l,1+ybf d (bdT s)≤B)→∀ m,m≤B→l.foldl (fun (m:Nat) (s:Tr (d+1))=>if hasB (hdT s).k then max m (1+ybf d (bdT s)) else m) m≤B:=by
   intro B l
   induction l with
   | nil=>intro _ m h;exact h
   | cons s l ih2 =>
    intro hB m h
    refine ih2 (fun x hx=>hB x (by simp [hx])) _ ?_
    show(if hasB (hdT s).k then max m (1+ybf d (bdT s)) else m)≤B
    have:=hB s Zq11
    split <;> omega
  refine key _ l (fun s hs=>?_) 0 (Nat.zero_le _)
  have h1:=ih (bdT s)
  have h2:=yts hs
  have h3:0<l.length:=List.length_pos_of_mem hs
  rw[ybb]
  unfold szE at h2
  omega
theorem yh3 {d:Nat} (l:List (Tr (d+1))) (t:Nat):ybf (d+1) (l.take t)≤szT (d+1) l:=by
 refine Nat.le_trans (yje _ _) ?_
 rw[ybb,ybb]
 have:=ygd l t
 have:=List.length_take_le' t l
 omega
theorem yle {d:Nat} (l:List (Tr (d+1))) (t:Nat) (s:Tr (d+1)) (h:l[t]?=some s):ybf (d+1) (l.take (t+1))=if hasB (hdT s).k then max (ybf (d+1) (l.take t)) (1+ybf d (bdT s)) else ybf (d+1) (l.take t):=by
 rw[List.take_add_one,h]
 simp [ybf,List.foldl_append]
def yl1 (d:Nat):Prop:=∀ (lo:Nat) (A:Option Addr) (n c:Nat) (l:List (Tr d)) (w:World),RdT w lo d A n l→szT d l≤1048576 →
 Calls Tryz.prog 45 #[.slice A n c] w fun e w'=>e=.returned (.int .i64 (ybf d l))∧Below w.heap.size w w'∧w.heap.size≤w'.heap.size
theorem yi0:∀ (d:Nat),yl1 d:=by
 intro d
 induction d with
 | zero =>
  intro lo A n c l w h _
  obtain rfl:=ycl h
  go_enter Tryz.func45,Tryz.ntmps45
  go_wp2
  refine wp_loop_rounds 1 ?_
  rw[rounds_succ]
  go_wp2
  go_ret
  exact ⟨rfl,Below.refl _ _,Nat.le_refl _⟩
 | succ d ih =>
  intro lo A n c l w h hsz
  have hln:=h.len
  have hn:n≤1048576:=by rw[ybb] at hsz;omega
  have HQ:=hD hsz
  have HL:=hD hln
  have H:=hD h
  clear h hln hsz
  go_enter Tryz.func45,Tryz.ntmps45
  go_wp2
  go_loopw [3,8] (fun m i wr=>∃ t:Nat,t≤n∧i=.int .i64 t∧m=.int .i64 (ybf (d+1) (l.take t))∧Below w.heap.size w wr) (fun _ i _=>n - (intOf i).toNat)
  case atStart=>exact ⟨0,Nat.zero_le _,rfl,rfl,Below.refl _ _⟩
  case round =>
   obtain ⟨t,ht,rfl,rfl,hb⟩:=hrel
   have hN:ybf (d+1) (l.take t)≤1048576:=Nat.le_trans (yh3 l t) HQ.out
   obtain ⟨N,hNN⟩:∃ N,N=ybf (d+1) (l.take t):=⟨_,rfl⟩
   rw[←hNN] at hN ⊢
   have HN:=hD hNN
   clear hNN
   have hbs:=hb.size
   by_cases hlt:t<n
   ·obtain ⟨b,off,s,Aa,ca,Ab,nb,cb,rfl,hbl,hs,hcs,hra,hrb⟩:=(H.out.below hb).at_ hlt
    obtain ⟨q0,q1,q2,q3,q4⟩:=hcs
    have hme:=ydw hs
    have hz2:szT d (bdT s)≤1048576:=by have:=HQ.out;rw[ybb] at this;unfold szE at hme;omega
    have hnb:=yje d (bdT s)
    have HT:=hD (yle l t s hs)
    have HB:=hD (hrb.below (w':=wr.alloc (.cells #[.int .i64 (hdT s).k,.string (hdT s).word,.slice Aa (hdT s).args.length ca,.int .i64 (hdT s).count,.slice Ab nb cb] 66)) Zq0)
    clear hs hra hrb hme
    cases hk:hasB (hdT s).k
    ·have HT2:Hid (ybf (d+1) (l.take (t+1))=N):=by
      have h:=HT.out
      rw[hk,←HN.out] at h
      exact h
     go_wp2_with (go_at_call 103;refine(yba _ _).mono ?_;rintro e w' ⟨rfl,rfl⟩)
     go_roundw
     case rel=>exact ⟨t+1,by omega,by go_num,by rw[HT2.out],hb.alloc hb.size _⟩
     case measure=>simp [intOf];omega
    ·obtain ⟨M,hM⟩:∃ M,M=ybf d (bdT s):=⟨_,rfl⟩
     have HT2:Hid (ybf (d+1) (l.take (t+1))=max N (1+M)):=by
      have h:=HT.out
      rw[hk,←HN.out,←hM] at h
      exact h
     rw[←hM] at hnb
     have HM:=hD hM
     clear hM
     go_wp2_with (first|(go_at_call 103;refine(yba _ _).mono ?_;rintro e w' ⟨rfl,rfl⟩)|(go_at_call 45;refine(ih lo _ _ _ (bdT s) _ HB.out hz2).mono ?_;rintro e w1 ⟨rfl,b1,s1⟩;rw[←HM.out]))
     go_roundw
     case rel=>exact ⟨t+1,by omega,by go_num,by rw[HT2.out];congr 1;first|omega|(split <;> omega),(hb.alloc hb.size _).trans (b1.mono Zq10)⟩
     case measure=>simp [intOf];omega
   ·obtain rfl:t=n:=by omega
    have HF:Hid (N=ybf (d+1) l):=by
     have h:=HN.out
     rw[List.take_of_length_le (by rw[HL.out];exact Nat.le_refl _)] at h
     exact h
    go_wp2
    go_ret
    exact ⟨by rw[←HF.out];rfl,hb,hb.size⟩
def yl2 (d:Nat):Prop:=∀ (lo:Nat) (A:Option Addr) (n c:Nat) (l:List (Tr d)) (w:World),RdT w lo d A n l→szT d l≤1048576 →
 Calls Tryz.prog 50 #[.slice A n c] w fun e w'=>e=.returned (.int .i64 (ybf d l))∧Below w.heap.size w w'∧w.heap.size≤w'.heap.size
theorem yi1:∀ (d:Nat),yl2 d:=by
 intro d
 induction d with
 | zero =>
  intro lo A n c l w h _
  obtain rfl:=ycl h
  go_enter Tryz.func50,Tryz.ntmps50
  go_wp2
  refine wp_loop_rounds 1 ?_
  rw[rounds_succ]
  go_wp2
  go_ret
  exact ⟨rfl,Below.refl _ _,Nat.le_refl _⟩
 | succ d ih =>
  intro lo A n c l w h hsz
  have hln:=h.len
  have hn:n≤1048576:=by rw[ybb] at hsz;omega
  have HQ:=hD hsz
  have HL:=hD hln
  have H:=hD h
  clear h hln hsz
  go_enter Tryz.func50,Tryz.ntmps50
  go_wp2
  go_loopw [3,4] (fun m i wr=>∃ t:Nat,t≤n∧i=.int .i64 t∧m=.int .i64 (ybf (d+1) (l.take t))∧Below w.heap.size w wr) (fun _ i _=>n - (intOf i).toNat)
  case atStart=>exact ⟨0,Nat.zero_le _,rfl,rfl,Below.refl _ _⟩
  case round =>
   obtain ⟨t,ht,rfl,rfl,hb⟩:=hrel
   have hN:ybf (d+1) (l.take t)≤1048576:=Nat.le_trans (yh3 l t) HQ.out
   obtain ⟨N,hNN⟩:∃ N,N=ybf (d+1) (l.take t):=⟨_,rfl⟩
   rw[←hNN] at hN ⊢
   have HN:=hD hNN
   clear hNN
   have hbs:=hb.size
   by_cases hlt:t<n
   ·obtain ⟨b,off,s,Aa,ca,Ab,nb,cb,rfl,hbl,hs,hcs,hra,hrb⟩:=(H.out.below hb).at_ hlt
    obtain ⟨q0,q1,q2,q3,q4⟩:=hcs
    have hme:=ydw hs
    have hz2:szT d (bdT s)≤1048576:=by have:=HQ.out;rw[ybb] at this;unfold szE at hme;omega
    have hnb:=yje d (bdT s)
    have HT:=hD (yle l t s hs)
    have HB:=hD hrb
    clear hs hra hrb hme
    cases hk:hasB (hdT s).k
    ·have HT2:Hid (ybf (d+1) (l.take (t+1))=N):=by
      have h:=HT.out
      rw[hk,←HN.out] at h
      exact h
     go_wp2_with fail
     refine(yax _ _ _ _ _ _ ⟨_,_,_,rfl⟩ ⟨_,_,_,rfl⟩).mono ?_
     rintro e w1 ⟨rfl,b1,s1⟩
     rw[hk]
     go_wp2_with fail
     go_roundw
     case rel=>exact ⟨t+1,by omega,by go_num,by rw[HT2.out],hb.trans (b1.mono hb.size)⟩
     case measure=>simp [intOf];omega
    ·obtain ⟨M,hM⟩:∃ M,M=ybf d (bdT s):=⟨_,rfl⟩
     have HT2:Hid (ybf (d+1) (l.take (t+1))=max N (1+M)):=by
      have h:=HT.out
      rw[hk,←HN.out,←hM] at h
      exact h
     rw[←hM] at hnb
     have HM:=hD hM
     clear hM
     go_wp2_with fail
     refine(yax _ _ _ _ _ _ ⟨_,_,_,rfl⟩ ⟨_,_,_,rfl⟩).mono ?_
     rintro e w1 ⟨rfl,b1,s1⟩
     rw[hk]
     have q5:=(b1.cell (p:=⟨b,off+t*5+4,none⟩) hbl).trans q4
     clear q0 q1 q2 q3 q4
     go_wp2_with fail
     refine(ih lo _ _ _ (bdT s) _ (HB.out.below b1) hz2).mono ?_
     rintro e w2 ⟨rfl,b2,s2⟩
     rw[←HM.out]
     go_wp2_with fail
     refine(yld _ _ _).mono ?_
     rintro e w' ⟨rfl,rfl⟩
     go_wp2_with fail
     go_roundw
     case rel=>exact ⟨t+1,by omega,by go_num,by rw[HT2.out];congr 1;unfold imax;split <;> omega,(hb.trans (b1.mono hb.size)).trans (b2.mono Zq6)⟩
     case measure=>simp [intOf];omega
   ·obtain rfl:t=n:=by omega
    have HF:Hid (N=ybf (d+1) l):=by
     have h:=HN.out
     rw[List.take_of_length_le (by rw[HL.out];exact Nat.le_refl _)] at h
     exact h
    go_wp2
    go_ret
    exact ⟨by rw[←HF.out];rfl,hb,hb.size⟩
def gstr (k:Nat):ByteArray:=⟨(ydg k).toArray⟩
def yio:List ByteArray:=(List.range 13).map gstr
def GN (w:World):Prop:=∃ A c,w.cell? ⟨0,0,none⟩=some (.slice A 13 c)∧0<w.heap.size∧Rd w 1 A 13 (strs yio)
theorem GN.below {w w':World} (h:GN w) (hb:Below w.heap.size w w'):GN w':=by
 obtain ⟨A,c,h1,h2,h3⟩:=h
 exact ⟨A,c,(hb.cell (p:=⟨0,0,none⟩) h2).trans h1,Nat.lt_of_lt_of_le h2 hb.size,h3.below hb⟩
theorem GN.drewN {w:World} (h:GN w) (k:Nat):GN (w.drewN k):=h
theorem yhu (k:Nat) (h1:1≤k) (h2:k≤12) (w:World) (hG:GN w):Calls Tryz.prog 134 #[.int .i64 k] w fun e w'=>e=.returned (.string ⟨(ydg k).toArray⟩)∧w=w':=by
 obtain ⟨A,c,hg,hl,hr⟩:=hG
 obtain ⟨b,off,rfl,hb,hc⟩:=hr.2 Zq6
 have q0:w.cell? ⟨b,off+k,none⟩=some (.string ⟨(ydg k).toArray⟩):=hc k _ (by
  simp only[strs,yio,List.map_map]
  rw[List.getElem?_map,List.getElem?_range Zq6]
  rfl)
 have hin:inB (k:Int) 1 12=true:=yl6 Zq6 Zq6
 clear hc hr
 go_enter Tryz.func134,Tryz.ntmps134
 go_wp2_with (go_at_call 44;refine(yav _ _ _ _).mono ?_;rintro e w' ⟨rfl,rfl⟩)
 go_ret
 exact ⟨rfl,rfl⟩
theorem ya8 (word:ByteArray) (w:World) (hG:GN w):Calls Tryz.prog 102 #[.string word] w fun e w'=>e=.returned (.int .i64 (yao word))∧w=w':=by
 have HGN:=hD hG
 clear hG
 go_enter Tryz.func102,Tryz.ntmps102
 go_wp2
 go_loop [3] (fun k=>∃ t:Nat,1≤t∧t≤13∧k=.int .i64 t∧yao word=yct word.toList (13 - t) t) (fun k=>13 - (intOf k).toNat)
 case atStart=>exact ⟨1,by omega,by omega,rfl,rfl⟩
 case round =>
  obtain ⟨t,h1,ht,rfl,hg⟩:=hrel
  have HG:=hD hg
  clear hg
  by_cases hlt:t≤12
  ·have HS:Hid (yao word=if ydg t==word.toList then t else yct word.toList (13 - (t+1)) (t+1)):=by
    have h:=HG.out
    rw[show 13 - t=(13 - (t+1))+1 from by omega] at h
    exact h
   cases he:(ydg t==word.toList)
   ·have HF:Hid (yao word=yct word.toList (13 - (t+1)) (t+1)):=by
     have h:=HS.out
     rw[he] at h
     exact h
    go_wp2_with fail
    refine(yhu t h1 hlt _ HGN.out).mono ?_
    rintro e w1 ⟨rfl,rfl⟩
    go_wp2_with fail
    go_round
    case rel=>exact ⟨t+1,by omega,by omega,by go_num,HF.out⟩
    case measure=>simp [intOf];omega
   ·have HF:Hid (yao word=t):=by
     have h:=HS.out
     rw[he] at h
     exact h
    go_wp2_with fail
    refine(yhu t h1 hlt _ HGN.out).mono ?_
    rintro e w1 ⟨rfl,rfl⟩
    go_wp2_with fail
    go_ret
    exact ⟨by rw[HF.out];rfl,rfl⟩
  ·obtain rfl:t=13:=by omega
   have HF:Hid (yao word=0):=HG.out
   go_wp2_with fail
   go_ret
   exact ⟨by rw[HF.out];rfl,rfl⟩
end Go.Proofs.YthkbckkghnbonaaGreatDoor
