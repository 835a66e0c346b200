/- What the calls that this law reaches answer, part 1 of 16. -/
import Derived.WalkKit
import Derived.ProofKit
import Derived.OpenShut
import Derived.Carry
import Derived.Deep.Slices
import Derived.Deep.Fields
import Derived.ChangeSame
import Derived.Deep.Cut
import Derived.Deep.CutBlock
import Derived.Deep.DeepCutAuto
import Derived.Deep.LoopGhost
import Derived.StillTailTactics
import Derived.Deep.QuietTactic
import Derived.BigQuiet
import Derived.Deep.RegionHeld3
import Derived.Deep.RegionLaw
import Derived.Deep.RegionWith
import Derived.Lib.Hide
import Derived.Deep.DeepFit
import Derived.Deep.DeepMust
import Derived.WalkLawsBesides
import Derived.WalkSpells
import Derived.RegionTactic
import Derived.Deep.AppendLies
import Derived.Deep.Draws
import Derived.Maps.AppendAt
import Derived.Laws.OwnMore
import Derived.OwnWalk
import Derived.Outline
import Derived.Laws.Rows
import Derived.IntWalk
import Derived.Lib.SmallJoins
import Derived.Test.YthkbckkghnbonaaGreatDoorRows
import Derived.Test.YthkbckkghnbonaaGreatDoorProg
set_option maxRecDepth 100000
set_option maxHeartbeats 16000000
set_option linter.unusedVariables false
namespace Go.Proofs.YthkbckkghnbonaaGreatDoor
open Go.ChangeShapes Go.WideShapes Go.RowKit Go.Deep

section
variable {H:Type} {enc:TypeId × Value→H} {P:Program}
theorem hD {p:Prop} (h:p):Hid p:=Lib.hid h
theorem zA {α:Type _} (l:List α) (i:Nat) (a:α):l.toArray.setIfInBounds i a=(l.set i a).toArray:=List.setIfInBounds_toArray ..
theorem zB {α:Type _} (x:α) (l:List α) (n:Nat) (a:α):(x :: l).set (n+1) a=x :: l.set n a:=rfl
theorem zC {α:Type _} (x:α) (l:List α) (a:α):(x :: l).set 0 a=a :: l:=rfl
theorem Zq11 {p:Prop} (h:p:=by simp):p:=h
theorem trodAll_stays {W W':World} {sp:Nat→Bool} (hl:laidOutB P=true):∀ {ts:List TypeId} {vs:List Value} {ds:List (DataW H)} {ps:List MemPlace},
  (∀ t∈ts,P.readableRec t=true∧t<P.types.size)→DataW.TrodAll enc P W 0 (fun _=>true) true ts vs ds ps →
  (∀ x∈ps,W.sameAt W' x)→(∀ x∈ps,sp x.block=true)→DataW.TrodAll enc P W' 0 sp true ts vs ds ps:=by
 intro ts
 induction ts with
 | nil =>
  intro vs ds ps _ h _ _
  obtain ⟨rfl,rfl,rfl⟩:=trodAll_nil h
  exact trodAll_mk0
 | cons t ts ih =>
  intro vs ds ps ht h hs hsp
  obtain ⟨v,vs',d,ds',p,q,rfl,rfl,rfl,h0,h1⟩:=trodAll_cons h
  have h2:=ht t Zq11
  refine trodAll_cons_mk ?_ (ih (fun t' h'=>ht t' (by simp [h'])) h1 (fun x hx=>hs x (by simp [hx])) (fun x hx=>hsp x (by simp [hx])))
  exact WideElems.Trod_stays hl h2.1 h2.2 h0 (fun x hx=>hs x (by simp [hx])) (fun x hx=>hsp x (by simp [hx]))

theorem post_of_below {f:Func} {s:ChangeSpec} {apart fresh handsOn again:Bool} {W W':World} {args:Array Value} {v:Value} {ds gs:List (DataW H)} {before pa pv:List MemPlace}
  (hW:DataW.Whole enc P f.params.toList s.vars apart W args.toList ds gs before)
  (hres:∀ (b:Nat) (sp:Nat→Bool) (hd:Bool),DataW.TrodAll enc P W' b sp hd f.resultTypes.toList (v.resultList f.resultTypes.size) (s.fn H (ds++gs)).results [])
  (hargs:∀ sp:Nat→Bool,(∀ p∈before,sp p.block=true)→DataW.TrodAll enc P W' 0 sp true f.params.toList args.toList (s.fn H (ds++gs)).args pa)
  (hvars:∀ sp:Nat→Bool,(∀ p∈before,sp p.block=true)→DataW.TrodVars enc P W' sp s.vars (s.fn H (ds++gs)).vars pv)
  (hps:before=pa++pv) (hb:Below W.heap.size W W')
  (hok:∀ (j:Nat) (t:TypeId) (r:Value),f.resultTypes[j]?=some t→(v.resultList f.resultTypes.size)[j]?=some r→Value.okWide P W' .any 0 t r) :
  s.post enc P f apart fresh handsOn again W args v W':=by
 have hlt:∀ p∈before,p.block<W.heap.size:=fun p hp=>hW.lt p hp
 have hold:∀ p∈before,(fun b=>decide (b<W.heap.size)) p.block=true:=fun p hp=>by simpa using hlt p hp
 refine ⟨ds,gs,before,[],pa,pv,hW,hres _ _ _,hargs _ hold,hvars _ hold,World.keptBut_mono (fun p hp=>⟨hp,?_⟩) (hb.frame (·∈before)),fun _=>?_⟩
 ·rw[hps,List.mem_append] at hp
  exact Or.inr hp
 ·obtain ⟨_,_,_,_,_,hz,hn⟩:=hW
  refine ⟨hok,_,_,([]++pa)++pv,⟨[]++pa,pv,trodAll_append (hargs _ (fun _ _=>rfl)) (hres _ _ _),hvars _ (fun _ _=>rfl),rfl,?_,?_⟩,?_⟩
  ·intro b off hp
   have hin:MemPlace.cell b off∈before:=by rw[hps];simpa using hp
   rw[hb.frozen (hlt _ hin)]
   exact hz b off hin
  ·intro ha
   have:=hn ha
   rw[hps] at this
   simpa using this
  ·intro p hp _
   rw[hps]
   simpa using hp
end

def RetRow (E size:Nat) (w:World) (n:Nat) (xs:List Value) (e:Ending) (w':World):Prop :=
 ∃ v,e=.returned v∧w'.ownsRow w.heap.size E size v n xs∧Below w.heap.size w w'∧w.heap.size≤w'.heap.size

theorem ownsRow_below {w w':World} {base E size n:Nat} {v:Value} {xs:List Value} (h:w.ownsRow base E size v n xs) (hb:Below w.heap.size w w'):w'.ownsRow base E size v n xs :=
 h.kept (row:=none) ⟨hb.os,hb.tape,hb.output,hb.size,fun k hk _=>hb.block k hk⟩ (by cases v.ownBlock <;> simp)
def Rd (w:World) (size:Nat) (A:Option Addr) (n:Nat) (xs:List Value):Prop :=
 xs.length=n*size∧(0<n→∃ b off,A=some ⟨b,off,none⟩∧b<w.heap.size∧∀ j u,xs[j]?=some u→w.cell? ⟨b,off+j,none⟩=some u)
theorem Rd.below {w w':World} {size n:Nat} {A:Option Addr} {xs:List Value} (h:Rd w size A n xs) (hb:Below w.heap.size w w'):Rd w' size A n xs :=
 ⟨h.1,fun hn=>by
  obtain ⟨b,off,e,hl,hc⟩:=h.2 hn
  exact ⟨b,off,e,Nat.lt_of_lt_of_le hl hb.size,fun j u hu=>(hb.cell (p:=⟨b,off+j,none⟩) hl).trans (hc j u hu)⟩⟩
theorem Rd.len {w:World} {size n:Nat} {A:Option Addr} {xs:List Value} (h:Rd w size A n xs):xs.length=n*size:=h.1
theorem Zq6 {p:Prop} (h:p:=by omega):p:=h
theorem rd_of_own {w:World} {base E size n:Nat} {v:Value} {xs:List Value} (h:w.ownsRow base E size v n xs):∃ A c,v=.slice A n c∧n≤c∧c≤maxLen∧Rd w size A n xs:=by
 rcases h.2 with ⟨rfl,rfl⟩|⟨g,cap,cur,rfl,hb,hh,hc,hm,_,_⟩
 ·exact ⟨none,0,rfl,Nat.le_refl _,Nat.zero_le _,h.1,fun h=>absurd h Zq6⟩
 ·refine ⟨_,cap,rfl,hc,hm,h.1,fun _=>⟨g,0,rfl,(h.lt g rfl).2,fun j u hu=>?_⟩⟩
  have:=h.cells (g:=g) rfl j u hu
  rwa [Go.WideShapes.add_plain] at this

def marks (k:Int) (m:Nat):List Value:=(List.range m).map fun (i:Nat)=>.int .i64 (k+i)
theorem marks_length (k:Int) (m:Nat):(marks k m).length=m:=by simp [marks]
theorem marks_at (k:Int) (m j:Nat) (h:j<m):(marks k m)[j]?=some (.int .i64 (k+j)):=by simp [marks,h]
theorem mark_step {k:Int} {m:Nat} {u:Value} {xs:List Value} (hu:u=.int .i64 (k+m)) (h:m<xs.length) :
  (marks k m++xs.drop m).set m u=marks k (m+1)++xs.drop (m+1):=by
 subst hu
 rw[List.set_append_right _ _ (by simp [marks]),marks_length,Nat.sub_self,List.drop_eq_getElem_cons h,List.set_cons_zero]
 simp [marks,List.range_succ]

theorem boxcells4 {w w':World} {b:Nat} {x0 x1 x2 x3:Value} {t:TypeId} (lay:Below w'.heap.size w' w) (h:w'.heap[b]?=some (.cells #[x0,x1,x2,x3] t (0,0))) :
  w.cell? ⟨b,0,none⟩=some x0∧w.cell? ⟨b,1,none⟩=some x1∧w.cell? ⟨b,2,none⟩=some x2∧w.cell? ⟨b,3,none⟩=some x3:=by
 have h':w.heap[b]?=some (.cells #[x0,x1,x2,x3] t (0,0)):=(lay.block b (lt_of_block h)).trans h
 exact ⟨by simp [World.cell?,h'],by simp [World.cell?,h'],by simp [World.cell?,h'],by simp [World.cell?,h']⟩
theorem boxcells8 {w w':World} {b:Nat} {x0 x1 x2 x3 x4 x5 x6 x7:Value} {t:TypeId} (lay:Below w'.heap.size w' w) (h:w'.heap[b]?=some (.cells #[x0,x1,x2,x3,x4,x5,x6,x7] t (0,0))) :
  w.cell? ⟨b,0,none⟩=some x0∧w.cell? ⟨b,1,none⟩=some x1∧w.cell? ⟨b,2,none⟩=some x2∧w.cell? ⟨b,3,none⟩=some x3∧w.cell? ⟨b,4,none⟩=some x4∧w.cell? ⟨b,5,none⟩=some x5∧w.cell? ⟨b,6,none⟩=some x6∧w.cell? ⟨b,7,none⟩=some x7:=by
 have h':w.heap[b]?=some (.cells #[x0,x1,x2,x3,x4,x5,x6,x7] t (0,0)):=(lay.block b (lt_of_block h)).trans h
 exact ⟨by simp [World.cell?,h'],by simp [World.cell?,h'],by simp [World.cell?,h'],by simp [World.cell?,h'],by simp [World.cell?,h'],by simp [World.cell?,h'],by simp [World.cell?,h'],by simp [World.cell?,h']⟩
theorem boxed1_0 (w:World) (o:Obj):(w.alloc o).heap[w.heap.size]?=some o:=heap_alloc_new w o
theorem boxed2_0 (w:World) (o o':Obj):((w.alloc o).alloc o').heap[w.heap.size]?=some o:=(Below.heap_alloc _ _ _ Zq11).trans (heap_alloc_new w o)
theorem boxed2_1 (w:World) (o o':Obj):((w.alloc o).alloc o').heap[w.heap.size+1]?=some o':=by
 have h:=heap_alloc_new (w.alloc o) o'
 simpa using h
theorem Zq9 {p:Prop} (h:p:=by simp;omega):p:=h
theorem boxed3_0 (w:World) (o o' o'':Obj):(((w.alloc o).alloc o').alloc o'').heap[w.heap.size]?=some o:=(Below.heap_alloc _ _ _ Zq9).trans (boxed2_0 w o o')
theorem boxed3_1 (w:World) (o o' o'':Obj):(((w.alloc o).alloc o').alloc o'').heap[w.heap.size+1]?=some o':=(Below.heap_alloc _ _ _ Zq11).trans (boxed2_1 w o o')
theorem boxed3_2 (w:World) (o o' o'':Obj):(((w.alloc o).alloc o').alloc o'').heap[w.heap.size+2]?=some o'':=by
 have h:=heap_alloc_new ((w.alloc o).alloc o') o''
 simpa using h
theorem cell_at {w:World} {b j:Nat} {cs:Array Value} {t:TypeId} {u:Value} (h:w.heap[b]?=some (.cells cs t (0,0))) (hj:cs[j]?=some u):w.cell? ⟨b,j,none⟩=some u:=by simp [World.cell?,h,hj]
theorem cells_row {w:World} {b:Nat} {cs:Array Value} {t:TypeId} (h:w.heap[b]?=some (.cells cs t (0,0))) {xs:List Value} (ys:List Value) (hp:cs.toList=xs++ys) :
  ∀ j u,xs[j]?=some u→w.cell? ((⟨b,0,none⟩:Addr).add j)=some u:=by
 intro j u hj
 have hc:cs[j]?=some u:=by
  rw[←Array.getElem?_toList,hp,List.getElem?_append_left (List.getElem?_eq_some_iff.1 hj).1]
  exact hj
 rw[Go.WideShapes.add_plain]
 simp [World.cell?,h,hc]
theorem quiet_left {P:Program} {f:FuncId} {args:Array Value} {w:World} {n:Nat} {v:Value}
  (h:Calls P f args (w.drewN n) fun e w'=>e=.returned v∧w.drewN n=w'):Calls P f args (w.drewN n) fun e w''=>e=.returned v∧∃ m,w''=w.drewN m :=
 h.mono fun _ _ ⟨he,hm⟩=>⟨he,n,hm.symm⟩
theorem below_drewN {B:Nat} {a w:World} (h:Below B a w) (n:Nat):Below B a (w.drewN n):=⟨h.os,h.tape,h.output,h.size,h.block⟩
theorem Rd.drew {w:World} {size n:Nat} {A:Option Addr} {xs:List Value} (h:Rd w size A n xs):Rd w.drew size A n xs:=h
theorem Rd.drewN {w:World} {size n:Nat} {A:Option Addr} {xs:List Value} (h:Rd w size A n xs) (k:Nat):Rd (w.drewN k) size A n xs:=h
theorem Rd.take {w:World} {n:Nat} {A:Option Addr} {xs:List Value} (h:Rd w 1 A n xs) {t:Nat} (ht:t≤n):Rd w 1 A t (xs.take t) :=
 ⟨by rw[List.length_take,h.1];omega,fun h0=>by
  obtain ⟨b,off,e,hl,hc⟩:=h.2 Zq6
  exact ⟨b,off,e,hl,fun j u hu=>hc j u (by
   have hj:=(List.getElem?_eq_some_iff.1 hu).1
   rw[List.length_take] at hj
   rw[←hu,List.getElem?_take,if_pos Zq6])⟩⟩
theorem grown_below {w w':World} {B:Nat} {row:Option Nat} (h:w.grownBy w' row) (hB:B≤w.heap.size) (hr:∀ k,row=some k→B≤k):Below B w w':=(Below.refl _ _).grown h hB hr

structure Gt where
 k:Int
 a:Int
 b:Int
 c:Int
def gcells (g:Gt):List Value:=[.int .i64 g.k,.int .i64 g.a,.int .i64 g.b,.int .i64 g.c]
theorem flat_length {α:Type} (f:α→List Value) (k:Nat) (hf:∀ x,(f x).length=k):∀ l:List α,(l.flatMap f).length=l.length*k:=by
 intro l
 induction l with
 | nil=>simp
 | cons x l ih=>simp only[List.flatMap_cons,List.length_append,hf,ih,List.length_cons];rw[Nat.add_mul];omega
end Go.Proofs.YthkbckkghnbonaaGreatDoor
namespace Go.Proofs.YthkbckkghnbonaaGreatDoor
theorem own:ownKnob Tryz.prog.godebug=none:=by kernel_rfl
theorem laidOut:laidOutB Tryz.prog=true:=by kernel_rfl
end Go.Proofs.YthkbckkghnbonaaGreatDoor
namespace Go.Proofs.YthkbckkghnbonaaGreatDoor
open Go.ChangeShapes Go.WideShapes Go.RowKit Go.Deep

theorem exists_list {α:Type} {n:Nat} {p:Nat→α→Prop} (h:∀ i,i<n→∃ g,p i g):∃ l:List α,l.length=n∧∀ (i:Nat) (g:α),l[i]?=some g→p i g:=by
 induction n with
 | zero=>exact ⟨[],rfl,by simp⟩
 | succ n ih =>
  obtain ⟨l,hl,hp⟩:=ih (fun i hi=>h i Zq6)
  obtain ⟨g,hg⟩:=h n Zq6
  refine ⟨l++[g],by simp [hl],fun i g' hi=>?_⟩
  by_cases hin:i<n
  ·rw[List.getElem?_append_left Zq6] at hi
   exact hp i g' hi
  ·have hi':=(List.getElem?_eq_some_iff.1 hi).1
   simp at hi'
   obtain rfl:i=n:=by omega
   rw[List.getElem?_append_right Zq6,hl] at hi
   simp at hi
   subst hi
   exact hg
theorem flat_get {α:Type} {f:α→List Value} {k:Nat} (hf:∀ x,(f x).length=k):∀ (l:List α) (j:Nat) (u:Value),(l.flatMap f)[j]?=some u→∃ g,l[j / k]?=some g∧(f g)[j % k]?=some u:=by
 intro l
 induction l with
 | nil=>intro j u h;simp at h
 | cons x l ih =>
  intro j u h
  rw[List.flatMap_cons] at h
  by_cases hj:j<k
  ·rw[List.getElem?_append_left (by rw[hf];exact hj)] at h
   exact ⟨x,by rw[Nat.div_eq_of_lt hj];rfl,by rw[Nat.mod_eq_of_lt hj];exact h⟩
  ·have hk:k≤j:=by omega
   rw[List.getElem?_append_right (by rw[hf];exact hk),hf] at h
   obtain ⟨g,h1,h2⟩:=ih _ u h
   have hk0:0<k:=by
    rcases Nat.eq_zero_or_pos k with h0|h0
    ·subst h0
     have:=(List.getElem?_eq_some_iff.1 h2).1
     rw[hf] at this
     omega
    ·exact h0
   refine ⟨g,?_,?_⟩
   ·rw[Nat.div_eq_sub_div hk0 hk]
    simpa using h1
   ·rw[Nat.mod_eq_sub_mod hk]
    exact h2
theorem flat_at {α:Type} {f:α→List Value} {k:Nat} (hf:∀ x,(f x).length=k):∀ (l:List α) (i:Nat) (g:α) (j:Nat),l[i]?=some g→j<k→(l.flatMap f)[i*k+j]?=(f g)[j]?:=by
 intro l
 induction l with
 | nil=>intro i g j h;simp at h
 | cons x l ih =>
  intro i g j h hj
  rw[List.flatMap_cons]
  cases i with
  | zero =>
   simp at h
   subst h
   rw[List.getElem?_append_left (by rw[hf];omega)]
   simp
  | succ i =>
   rw[List.getElem?_append_right (by rw[hf,Nat.add_mul];omega),hf,←ih i g j (by simpa using h) hj]
   congr 1
   rw[Nat.add_mul]
   omega
theorem fill_step {pre zs:List Value} {m:Nat} {u:Value} (hm:pre.length=m) (h:m<zs.length):(pre++zs.drop m).set m u=(pre++[u])++zs.drop (m+1):=by
 subst hm
 rw[List.set_append_right _ _ (Nat.le_refl _),Nat.sub_self,List.drop_eq_getElem_cons h,List.set_cons_zero]
 simp
section
variable {H:Type} {enc:TypeId × Value→H} {P:Program} {w:World} {base:Nat} {spare:Nat→Bool} {held:Bool}
theorem block_of_cell {a:Addr} {u:Value} (h:w.cell? a=some u):a.block<w.heap.size:=by
 unfold World.cell? at h
 rcases Nat.lt_or_ge a.block w.heap.size with hl|hl
 ·exact hl
 ·rw[Array.getElem?_eq_none hl] at h
  simp at h
theorem rd_of_slice {α:Type} {t e:TypeId} {size fuel:Nat} {cellsf:α→List Value} {v:Value} {x:DataW H × List MemPlace} (ht:P.underlying t=some (.slice e)) (hC:P.cellsOf e=size) (hsz:0<size)
  (hE:∀ (n:Nat) (cs:List Value) (y:DataW H × List MemPlace),DataW.trod enc P w base spare held n e cs=some y→∃ g:α,cs=cellsf g)
  (hlen:∀ g,(cellsf g).length=size) (h:DataW.trod enc P w base spare held fuel t [v]=some x) :
  ∃ (A:Option Addr) (n c:Nat) (l:List α),v=.slice A n c∧n≤c∧c≤maxLen∧l.length=n∧Rd w size A n (l.flatMap cellsf):=by
 rcases open_slice ht h with ⟨h0,_⟩|⟨a,len,cap,m,n,D,Pl,hcs,hb,hl,hm,hmm,hx,hi⟩
 ·simp at h0
  subst h0
  exact ⟨none,0,0,[],rfl,Nat.le_refl _,Nat.zero_le _,rfl,by simp,fun h=>absurd h Zq6⟩
 ·simp at hcs
  subst hcs
  have hlm:len≤m:=by rw[hmm];split <;> omega
  obtain ⟨l,hll,hp⟩:=exists_list (n:=len) (p:=fun i g=>w.cells? base (a.add (i*P.cellsOf e)) (P.cellsOf e)=some (cellsf g)) (fun i hi'=>by
   obtain ⟨cs',hc,ht'⟩:=hi i Zq6
   obtain ⟨g,rfl⟩:=hE _ _ _ ht'
   exact ⟨g,hc⟩)
  refine ⟨some a,len,cap,l,rfl,hl,hm,hll,by rw[flat_length cellsf size hlen,hll],fun h0=>?_⟩
  have hcell:∀ (j:Nat) (u:Value),(l.flatMap cellsf)[j]?=some u→w.cell? (a.add j)=some u:=by
   intro j u hu
   obtain ⟨g,h1,h2⟩:=flat_get hlen l j u hu
   have h3:=hp _ _ h1
   rw[hC] at h3
   obtain ⟨_,_,hat⟩:=World.cells?_some h3
   have h4:=hat (j % size) (Nat.mod_lt _ hsz)
   rw[Go.Deep.add_add,Nat.mul_comm,Nat.div_add_mod,h2] at h4
   exact h4
  have hj0:∃ u,(l.flatMap cellsf)[0]?=some u:=⟨_,List.getElem?_eq_getElem (by rw[flat_length cellsf size hlen,hll];exact Nat.mul_pos h0 hsz)⟩
  obtain ⟨u0,hu0⟩:=hj0
  have hc0:=hcell 0 u0 hu0
  obtain ⟨b,off,spot⟩:=a
  have hspot:spot=none:=by simpa [Addr.add] using World.cell?_spot hc0
  subst hspot
  refine ⟨b,off,rfl,by simpa [Addr.add] using block_of_cell hc0,fun j u hu=>?_⟩
  have:=hcell j u hu
  rwa [add_plain] at this
end
end Go.Proofs.YthkbckkghnbonaaGreatDoor
namespace Go.Proofs.YthkbckkghnbonaaGreatDoor
open Go.RowKit
section
variable {P:Program} (w:World)
theorem run_append_nil (base:Nat) (t ty e:TypeId) (i:TypeInfo) (size:Nat) (ht:P.underlying t=some (.slice e)) (hi:P.info? e=some i)
  (v:Value) (n:Nat) (xs:List Value) (hown:w.ownsRow base e size v n xs) (c:Nat):(Builtin.append_ #[t,t] ty #[v,.slice none 0 c]).run P w=.ok v w:=by
 rcases hown.2 with ⟨rfl,rfl⟩|⟨g,cap,cur,rfl,_,_,hnc,_⟩
 ·simp [Builtin.append_,run_underlying ht,sizeOf,typeInfo,hi,Builtin.lenOf,Builtin.firstCells]
 ·simp [Builtin.append_,run_underlying ht,sizeOf,typeInfo,hi,Builtin.lenOf,Builtin.firstCells,hnc,storeCells]
theorem run_append_rd (base:Nat) (t ty e:TypeId) (i:TypeInfo) (z:Value) (size bytes:Nat) (ht:P.underlying t=some (.slice e)) (hi:P.info? e=some i) (hz:i.zero=some z)
  (hsize:i.size=size) (hby:i.bytes=bytes) (hzs:z.cells.size=size) (hsz:0<size)
  (v:Value) (n:Nat) (xs:List Value) (hown:w.ownsRow base e size v n xs) (A:Option Addr) (m c:Nat) (news:List Value) (hr:Rd w size A m news) (h1:∀ u∈news,u.oneCell'=true)
  (h63:n+m≤maxLen) (hbytes:(n+m)*bytes≤140737488355328) (hbase:base≤w.heap.size) :
  ∃ v' w',(Builtin.append_ #[t,t] ty #[v,.slice A m c]).run P w=.ok v' w'∧w'.ownsRow base e size v' (n+m) (xs++news)∧w.grownBy w' v.ownBlock∧(v'.ownBlock=v.ownBlock∨v'.ownBlock=some w.heap.size):=by
 rcases A with _|ad
 ·have hm:m=0:=by
   rcases Nat.eq_zero_or_pos m with h0|h0
   ·exact h0
   ·obtain ⟨_,_,h,_⟩:=hr.2 h0
    cases h
  subst hm
  have hn:news=[]:=List.eq_nil_of_length_eq_zero (by simpa using hr.1)
  subst hn
  exact ⟨v,w,run_append_nil w base t ty e i size ht hi v n xs hown c,by simpa using hown,World.grownBy.refl w _,.inl rfl⟩
 ·have hcells:∀ j u,news[j]?=some u→w.cell? (ad.add j)=some u:=by
   intro j u hu
   rcases Nat.eq_zero_or_pos m with h0|h0
   ·subst h0
    have hn:news=[]:=List.eq_nil_of_length_eq_zero (by simpa using hr.1)
    subst hn
    simp at hu
   ·obtain ⟨b,off,h,_,hc⟩:=hr.2 h0
    injection h with h
    subst h
    rw[Go.WideShapes.add_plain]
    exact hc j u hu
  obtain ⟨v',w',hrun,h2,h3,_,h5⟩:=run_append_own_at (P:=P) w base t ty e i z size bytes ht hi hz hsize hby hzs hsz v n xs hown ad m c news hr.1 hcells h1 h63 hbytes hbase
  exact ⟨v',w',hrun,h2,h3,h5⟩
theorem wpList_append_rd {ops:Array Oper} {rest:List Oper} {o:Oper} {a:Act} {Q:Exit→Act→World→Prop} (hgd:o.guard=none) (s x:Operand) (t:TypeId)
  (ho:o.op=.call { callee:=.builtin .append,args:=#[s,x],argTypes:=#[t,t] })
  (base:Nat) (e:TypeId) (i:TypeInfo) (z:Value) (size bytes:Nat) (ht:P.underlying t=some (.slice e)) (hi:P.info? e=some i) (hz:i.zero=some z)
  (hsize:i.size=size) (hby:i.bytes=bytes) (hzs:z.cells.size=size) (hsz:0<size)
  (v:Value) (n:Nat) (xs:List Value) (hs:a.eval s=v) (hown:w.ownsRow base e size v n xs)
  (A:Option Addr) (m c:Nat) (news:List Value) (hx:a.eval x=.slice A m c) (hr:Rd w size A m news) (h1:∀ u∈news,u.oneCell'=true)
  (h63:n+m≤maxLen) (hbytes:(n+m)*bytes≤140737488355328) (hbase:base≤w.heap.size)
  (h:∀ v' w',w'.ownsRow base e size v' (n+m) (xs++news)→w.grownBy w' v.ownBlock→(v'.ownBlock=v.ownBlock∨v'.ownBlock=some w.heap.size)→wpList P ops Q rest (a.put o.dst v') w'):wpList P ops Q (o :: rest) a w:=by
 refine wpList_plain hgd fun _ hK=>?_
 obtain ⟨v',w',hrun,h2,h3,h4⟩:=run_append_rd (P:=P) w base t o.type e i z size bytes ht hi hz hsize hby hzs hsz v n xs hown A m c news hr h1 h63 hbytes hbase
 unfold Oper.wp execOp
 simp only[ho,resolve,invoke,builtin,Sem.run_bind,Sem.run_pure,Result.andThen_ok,List.map_toArray,List.map_cons,List.map_nil,hs,hx,hrun]
 exact hK _ _ (h v' w' h2 h3 h4)
end
theorem one_flat {α:Type} {f:α→List Value} (hf:∀ x,((f x).all Value.oneCell')=true) (l:List α):∀ u∈l.flatMap f,u.oneCell'=true:=by
 intro u hu
 obtain ⟨x,_,hx⟩:=List.mem_flatMap.1 hu
 exact List.all_eq_true.1 (hf x) u hx
theorem own_ge {w:World} {base e size n:Nat} {v:Value} {xs:List Value} (h:w.ownsRow base e size v n xs):∀ k,v.ownBlock=some k→base≤k:=fun k hk=>(h.lt k hk).1
theorem rd_own {w:World} {base E size n c:Nat} {A:Option Addr} {xs:List Value} (h:w.ownsRow base E size (.slice A n c) n xs):Rd w size A n xs:=by
 obtain ⟨A',c',e,_,_,r⟩:=rd_of_own h
 injection e with e1 e2 e3
 rw[e1]
 exact r
theorem own_empty (w:World) (e size:Nat):(w.alloc (.cells #[] e)).ownsRow w.heap.size e size (.slice (some ⟨w.heap.size,0,none⟩) 0 0) 0 []:=World.ownsRow_lit w #[] 0 (Nat.le_refl _) (Nat.zero_le _) Zq11
structure SH where
 k:Int
 word:ByteArray
 args:List ByteArray
 count:Int
def Tr:Nat→Type
 | 0=>Empty
 | d+1=>SH × List (Tr d)

def hdT {d:Nat} (s:Tr (d+1)):SH:=(show SH × List (Tr d) from s).1
def bdT {d:Nat} (s:Tr (d+1)):List (Tr d):=(show SH × List (Tr d) from s).2
def mkT {d:Nat} (h:SH) (b:List (Tr d)):Tr (d+1):=(show SH × List (Tr d) from(h,b))
def RdL (w:World) (lo size:Nat) (A:Option Addr) (n:Nat) (xs:List Value):Prop :=
 xs.length=n*size∧(0<n→∃ b off,A=some ⟨b,off,none⟩∧lo≤b∧b<w.heap.size∧∀ j u,xs[j]?=some u→w.cell? ⟨b,off+j,none⟩=some u)
def SCells (w:World) (b o:Nat) (s:SH) (Aa:Option Addr) (ca:Nat) (Ab:Option Addr) (nb cb:Nat):Prop :=
 w.cell? ⟨b,o,none⟩=some (.int .i64 s.k)∧w.cell? ⟨b,o+1,none⟩=some (.string s.word)∧w.cell? ⟨b,o+2,none⟩=some (.slice Aa s.args.length ca) ∧
 w.cell? ⟨b,o+3,none⟩=some (.int .i64 s.count)∧w.cell? ⟨b,o+4,none⟩=some (.slice Ab nb cb)
def strs (l:List ByteArray):List Value:=l.map Value.string
def RdT (w:World) (lo:Nat):(d:Nat)→Option Addr→Nat→List (Tr d)→Prop
 | 0,_,n,l=>l.length=n∧n=0
 | d+1,A,n,l=>l.length=n∧(0<n→∃ b off,A=some ⟨b,off,none⟩∧lo≤b∧b<w.heap.size∧∀ (i:Nat) (s:Tr (d+1)),l[i]?=some s →
   ∃ Aa ca Ab nb cb,SCells w b (off+i*5) (hdT s) Aa ca Ab nb cb∧RdL w lo 1 Aa (hdT s).args.length (strs (hdT s).args)∧RdT w lo d Ab nb (bdT s)∧(hdT s).args.length≤ca)
section
variable {w w':World} {lo lo' size:Nat}
theorem RdL.rd {A:Option Addr} {n:Nat} {xs:List Value} (h:RdL w lo size A n xs):Rd w size A n xs :=
 ⟨h.1,fun h0=>by obtain ⟨b,off,e,_,hb,hc⟩:=h.2 h0;exact ⟨b,off,e,hb,hc⟩⟩
theorem Rd.rdl {A:Option Addr} {n:Nat} {xs:List Value} (h:Rd w size A n xs):RdL w 0 size A n xs :=
 ⟨h.1,fun h0=>by obtain ⟨b,off,e,hb,hc⟩:=h.2 h0;exact ⟨b,off,e,Nat.zero_le _,hb,hc⟩⟩
theorem RdL.keep {A:Option Addr} {n:Nat} {xs:List Value} (h:RdL w lo size A n xs) (hk:∀ b o,lo≤b→b<w.heap.size→w'.cell? ⟨b,o,none⟩=w.cell? ⟨b,o,none⟩) (hs:w.heap.size≤w'.heap.size):RdL w' lo size A n xs :=
 ⟨h.1,fun h0=>by
  obtain ⟨b,off,e,hl,hb,hc⟩:=h.2 h0
  exact ⟨b,off,e,hl,Nat.lt_of_lt_of_le hb hs,fun j u hu=>(hk _ _ hl hb).trans (hc j u hu)⟩⟩
theorem RdL.lower {A:Option Addr} {n:Nat} {xs:List Value} (h:RdL w lo size A n xs) (hl:lo'≤lo):RdL w lo' size A n xs :=
 ⟨h.1,fun h0=>by
  obtain ⟨b,off,e,h1,hb,hc⟩:=h.2 h0
  exact ⟨b,off,e,Nat.le_trans hl h1,hb,hc⟩⟩
theorem SCells.keep {b o:Nat} {s:SH} {Aa Ab:Option Addr} {ca nb cb:Nat} (h:SCells w b o s Aa ca Ab nb cb) (hk:∀ o,w'.cell? ⟨b,o,none⟩=w.cell? ⟨b,o,none⟩):SCells w' b o s Aa ca Ab nb cb :=
 ⟨(hk _).trans h.1,(hk _).trans h.2.1,(hk _).trans h.2.2.1,(hk _).trans h.2.2.2.1,(hk _).trans h.2.2.2.2⟩
theorem RdT.len:∀ {d:Nat} {A:Option Addr} {n:Nat} {l:List (Tr d)},RdT w lo d A n l→l.length=n
 | 0,_,_,_,h=>h.1
 | _+1,_,_,_,h=>h.1
theorem RdT.keep (hk:∀ b o,lo≤b→b<w.heap.size→w'.cell? ⟨b,o,none⟩=w.cell? ⟨b,o,none⟩) (hs:w.heap.size≤w'.heap.size) :
  ∀ {d:Nat} {A:Option Addr} {n:Nat} {l:List (Tr d)},RdT w lo d A n l→RdT w' lo d A n l:=by
 intro d
 induction d with
 | zero=>intro A n l h;exact h
 | succ d ih =>
  intro A n l h
  refine ⟨h.1,fun h0=>?_⟩
  obtain ⟨b,off,e,hl,hb,hc⟩:=h.2 h0
  refine ⟨b,off,e,hl,Nat.lt_of_lt_of_le hb hs,fun i s hi=>?_⟩
  obtain ⟨Aa,ca,Ab,nb,cb,h1,h2,h3,h4⟩:=hc i s hi
  exact ⟨Aa,ca,Ab,nb,cb,h1.keep (fun o=>hk b o hl hb),h2.keep hk hs,ih h3,h4⟩
theorem RdT.lower (hl:lo'≤lo):∀ {d:Nat} {A:Option Addr} {n:Nat} {l:List (Tr d)},RdT w lo d A n l→RdT w lo' d A n l:=by
 intro d
 induction d with
 | zero=>intro A n l h;exact h
 | succ d ih =>
  intro A n l h
  refine ⟨h.1,fun h0=>?_⟩
  obtain ⟨b,off,e,h1,hb,hc⟩:=h.2 h0
  refine ⟨b,off,e,Nat.le_trans hl h1,hb,fun i s hi=>?_⟩
  obtain ⟨Aa,ca,Ab,nb,cb,h1,h2,h3,h4⟩:=hc i s hi
  exact ⟨Aa,ca,Ab,nb,cb,h1,h2.lower hl,ih h3,h4⟩
theorem RdT.below {d:Nat} {A:Option Addr} {n:Nat} {l:List (Tr d)} (h:RdT w lo d A n l) (hb:Below w.heap.size w w'):RdT w' lo d A n l :=
 h.keep (fun _ _ _ hlt=>hb.cell hlt) hb.size
theorem RdL.below {A:Option Addr} {n:Nat} {xs:List Value} (h:RdL w lo size A n xs) (hb:Below w.heap.size w w'):RdL w' lo size A n xs :=
 h.keep (fun _ _ _ hlt=>hb.cell hlt) hb.size
theorem RdT.at_ {d:Nat} {A:Option Addr} {n i:Nat} {l:List (Tr (d+1))} (h:RdT w lo (d+1) A n l) (hi:i<n) :
  ∃ (b off:Nat) (s:Tr (d+1)) (Aa:Option Addr) (ca:Nat) (Ab:Option Addr) (nb cb:Nat),A=some ⟨b,off,none⟩∧b<w.heap.size∧l[i]?=some s ∧
   SCells w b (off+i*5) (hdT s) Aa ca Ab nb cb∧RdL w lo 1 Aa (hdT s).args.length (strs (hdT s).args)∧RdT w lo d Ab nb (bdT s):=by
 obtain ⟨b,off,e,_,hb,hc⟩:=h.2 Zq6
 have hl:i<l.length:=by rw[h.1];exact hi
 obtain ⟨s,hs⟩:∃ s,l[i]?=some s:=⟨_,List.getElem?_eq_getElem hl⟩
 obtain ⟨Aa,ca,Ab,nb,cb,h1,h2,h3,_⟩:=hc i s hs
 exact ⟨b,off,s,Aa,ca,Ab,nb,cb,e,hb,hs,h1,h2,h3⟩
theorem RdT.at_c {d:Nat} {A:Option Addr} {n i:Nat} {l:List (Tr (d+1))} (h:RdT w lo (d+1) A n l) (hi:i<n) :
  ∃ (b off:Nat) (s:Tr (d+1)) (Aa:Option Addr) (ca:Nat) (Ab:Option Addr) (nb cb:Nat),A=some ⟨b,off,none⟩∧b<w.heap.size∧l[i]?=some s ∧
   SCells w b (off+i*5) (hdT s) Aa ca Ab nb cb∧RdL w lo 1 Aa (hdT s).args.length (strs (hdT s).args)∧RdT w lo d Ab nb (bdT s)∧(hdT s).args.length≤ca:=by
 obtain ⟨b,off,e,_,hb,hc⟩:=h.2 Zq6
 have hl:i<l.length:=by rw[h.1];exact hi
 obtain ⟨s,hs⟩:∃ s,l[i]?=some s:=⟨_,List.getElem?_eq_getElem hl⟩
 obtain ⟨Aa,ca,Ab,nb,cb,h1,h2,h3,h4⟩:=hc i s hs
 exact ⟨b,off,s,Aa,ca,Ab,nb,cb,e,hb,hs,h1,h2,h3,h4⟩
end
theorem strs_length (l:List ByteArray):(strs l).length=l.length:=by simp [strs]
theorem strs_at {l:List ByteArray} {k:Nat} {s:ByteArray} (h:l[k]?=some s):(strs l)[k]?=some (.string s):=by simp [strs,h]
theorem rdl_own {w:World} {base E size n c:Nat} {A:Option Addr} {xs:List Value} (h:w.ownsRow base E size (.slice A n c) n xs):RdL w base size A n xs:=by
 have hr:=rd_own h
 refine ⟨hr.1,fun h0=>?_⟩
 obtain ⟨b,off,e,hb,hc⟩:=hr.2 h0
 subst e
 obtain ⟨g,cap,hv,hg,_⟩:=h.form h0
 injection hv with hv _ _
 injection hv with hv
 injection hv with hv _ _
 exact ⟨b,off,rfl,by rw[hv];exact hg,hb,hc⟩
theorem info_str:(Tryz.prog.info? 9).map (fun i=>(i.zero,i.size,i.bytes))=some (some (.string ByteArray.empty),1,16):=by kernel_rfl
theorem eqStringS_same (A A':Option Addr) (n c c':Nat) (l:List ByteArray) (w:World) (hl:l.length=n) (hn:n≤1099511627776) (h1:Rd w 1 A n (strs l)) (h2:Rd w 1 A' n (strs l)) :
  Calls Tryz.prog 69 #[.slice A n c,.slice A' n c'] w fun e w'=>e=.returned (.bool true)∧Below w.heap.size w w'∧w.heap.size≤w'.heap.size:=by
 have H1:=hD h1
 have H2:=hD h2
 have HL:=hD hl
 clear h1 h2 hl
 go_enter Tryz.func69,Tryz.ntmps69
 go_wp2
 go_loopw [5] (fun i wr=>∃ k:Nat,k≤n∧i=.int .i64 k∧Below w.heap.size w wr) (fun i _=>n - (intOf i).toNat)
 case atStart=>exact ⟨0,Nat.zero_le _,rfl,Below.refl _ _⟩
 case round =>
  obtain ⟨k,hk,rfl,hb⟩:=hrel
  by_cases hlt:k<n
  ·have hkl:k<l.length:=by rw[HL.out];exact hlt
   obtain ⟨s,hs⟩:∃ s,l[k]?=some s:=⟨_,List.getElem?_eq_getElem hkl⟩
   obtain ⟨b,off,rfl,_,hc⟩:=(H1.out.below hb).2 Zq6
   obtain ⟨b',off',rfl,_,hc'⟩:=(H2.out.below hb).2 Zq6
   have q0:=hc k _ (strs_at hs)
   have q0':=hc' k _ (strs_at hs)
   clear hc hc' hs hkl
   go_wp2_with fail
   go_quiet (fail)
   go_wp2_with fail
   go_roundw
   case rel=>exact ⟨k+1,by omega,by go_num,below_drewN hb _⟩
   case measure=>simp [intOf];omega
  ·go_wp2_with fail
   go_ret
   exact ⟨rfl,hb,hb.size⟩
theorem Zq12 {p:Prop} (h:p:=by simp only[maxLen];omega):p:=h
theorem toStringS_any (A:Option Addr) (n c:Nat) (l:List ByteArray) (w:World) (h:Rd w 1 A n (strs l)) (hl:l.length=n) (hn:n≤1099511627776) :
  Calls Tryz.prog 64 #[.slice A n c] w (RetRow 9 1 w n (strs l)):=by
 obtain ⟨i0,hi,hz0,hz1,hz2⟩:=info_parts info_str
 obtain ⟨w1,hrun,hown,hgr0⟩:=run_make_full (P:=Tryz.prog) w w.heap.size 24 9 i0 _ 1 Tryz.underlying24 hi hz0 hz1 .i64 .i64 n (by rw[hz2];omega) Zq12 (Nat.le_refl _)
 have H:=hD h
 have HL:=hD hl
 clear h hl hi hz0 hz1 hz2
 have b1:Below w.heap.size w w1:=(Below.refl _ _).grown hgr0 (Nat.le_refl _) Zq11
 obtain ⟨zs,hzs⟩:∃ zs,zs=(madeCells (Value.string ByteArray.empty).cells (n*1)).toList:=⟨_,rfl⟩
 rw[←hzs] at hown
 have hzl:=hown.1
 have HZ:=hD hzl
 clear hzs hgr0 hzl
 go_enter Tryz.func64,Tryz.ntmps64
 go_wp2
 clear hrun
 go_loopw [4] (fun i wr=>∃ t:Nat,t≤n∧i=.int .i64 t∧wr.ownsRow w.heap.size 9 1 (.slice (some ⟨w.heap.size,0,none⟩) n n) n (strs (l.take t)++zs.drop t)∧Below w.heap.size w wr) (fun i _=>n - (intOf i).toNat)
 case atStart=>exact ⟨0,Nat.zero_le _,rfl,by simpa [strs] using hown,b1⟩
 case round =>
  clear hown b1
  obtain ⟨t,ht,rfl,hown,hb⟩:=hrel
  by_cases hlt:t<n
  ·have htl:t<l.length:=by rw[HL.out];exact hlt
   obtain ⟨s,hs⟩:∃ s,l[t]?=some s:=⟨_,List.getElem?_eq_getElem htl⟩
   obtain ⟨b,off,rfl,hbl,hc⟩:=H.out.2 Zq6
   have q0:wr.cell? ⟨b,off+t,none⟩=some (.string s):=(hb.cell (by exact hbl)).trans (hc t _ (strs_at hs))
   have hf:=hown.frozenAt t
   have hll:=hown.1
   obtain ⟨y0,z0⟩:∃ y,wr.cell? ⟨w.heap.size,t,none⟩=some y:=⟨_,(hown.cellAt t Zq6).trans (List.getElem?_eq_getElem Zq6)⟩
   have HG:=hD hs
   have HC:=hD htl
   clear hc hs htl hll
   go_wp2_with fail
   go_roundw
   case rel =>
    have s0:=hown.stored t (.string s)
    rw[fill_step (by simp [strs,Nat.min_eq_left (Nat.le_of_lt HC.out)]) (by rw[HZ.out];omega)] at s0
    refine ⟨t+1,by omega,by go_num,?_,hb.grown s0.2 hb.size Zq11⟩
    rw[List.take_add_one,HG.out]
    simpa [strs] using s0.1
   case measure=>simp [intOf];omega
  ·obtain rfl:t=n:=by omega
   go_wp2_with fail
   go_ret
   exact ⟨_,rfl,by rw[List.drop_of_length_le (by rw[HZ.out];omega),List.append_nil,List.take_of_length_le (by rw[HL.out];exact Nat.le_refl _)] at hown;exact hown,hb,hb.size⟩
def subSz (left:Int) (m:Nat):Int:=if left<m then -1 else left - m
theorem subSz_neg {left:Int} {m:Nat} (h:left<m):subSz left m=-1:=if_pos h
theorem subSz_pos {left:Int} {m:Nat} (h:¬ left<m):subSz left m=left - m:=if_neg h
def szS:List ByteArray→Nat
 | []=>0
 | s :: l=>s.size+szS l
theorem szS_take (l:List ByteArray) (t:Nat) (s:ByteArray) (h:l[t]?=some s):szS (l.take (t+1))=szS (l.take t)+s.size:=by
 induction l generalizing t with
 | nil=>simp at h
 | cons x l ih =>
  cases t with
  | zero=>simp at h;subst h;simp [szS]
  | succ t=>simp only[List.take_succ_cons,szS,ih t (by simpa using h)];omega
theorem szS_take_le (l:List ByteArray) (t:Nat):szS (l.take t)≤szS l:=by
 induction l generalizing t with
 | nil=>simp [szS]
 | cons x l ih =>
  cases t with
  | zero=>simp [szS]
  | succ t=>simp only[List.take_succ_cons,szS];have:=ih t;omega
theorem szStringS_any (A:Option Addr) (n c:Nat) (l:List ByteArray) (left:Int) (w:World) (h:Rd w 1 A n (strs l)) (hl:l.length=n) (hn:n≤9223372036854775807) (hz:∀ s∈l,s.size≤9223372036854775807) (h0:0≤left) (h1:left≤1099511627776) :
  Calls Tryz.prog 59 #[.slice A n c,.int .i64 left] w fun e w'=>e=.returned (.int .i64 (subSz left (n+szS l)))∧w=w':=by
 have H:=hD h
 have HL:=hD hl
 have HZ:=hD hz
 clear h hl hz
 by_cases hbig:left - n<0
 ·have HF:=hD (subSz_neg (left:=left) (m:=n+szS l) Zq6)
  go_enter Tryz.func59,Tryz.ntmps59
  go_wp2
  go_ret
  exact ⟨by rw[HF.out];rfl,rfl⟩
 ·have hbig':0≤left - n:=by omega
  go_enter Tryz.func59,Tryz.ntmps59
  go_wp2
  go_loop [1,5] (fun k i=>∃ t:Nat,t≤n∧i=.int .i64 t∧0≤left - n - szS (l.take t)∧k=.int .i64 (left - n - szS (l.take t))) (fun _ i=>n - (intOf i).toNat)
  case atStart=>exact ⟨0,Nat.zero_le _,rfl,by simpa [szS] using hbig',by simp [szS]⟩
  case round =>
   obtain ⟨t,ht,rfl,hp,rfl⟩:=hrel
   have hle:=szS_take_le l t
   obtain ⟨Z,hZ⟩:∃ Z,Z=szS (l.take t):=⟨_,rfl⟩
   rw[←hZ] at hp hle ⊢
   have HT:=hD hZ
   clear hZ
   by_cases hlt:t<n
   ·have htl:t<l.length:=by rw[HL.out];exact hlt
    obtain ⟨s,hs⟩:∃ s,l[t]?=some s:=⟨_,List.getElem?_eq_getElem htl⟩
    obtain ⟨b,off,rfl,_,hc⟩:=H.out.2 Zq6
    have q0:=hc t _ (strs_at hs)
    have hsz:=HZ.out s (List.mem_of_getElem? hs)
    have hst:=szS_take l t s hs
    have hle2:=szS_take_le l (t+1)
    rw[hst,←HT.out] at hle2
    have HS:=hD hst
    clear hc hs htl hst
    by_cases hneg:left - n - Z - s.size<0
    ·have HF:=hD (subSz_neg (left:=left) (m:=n+szS l) Zq6)
     go_wp2
     go_ret
     exact ⟨by rw[HF.out];rfl,rfl⟩
    ·have hneg':0≤left - n - Z - s.size:=by omega
     go_wp2
     go_round
     case rel=>exact ⟨t+1,by omega,by go_num,by rw[HS.out,←HT.out];omega,by rw[HS.out,←HT.out];congr 1;omega⟩
     case measure=>simp [intOf];omega
   ·obtain rfl:t=n:=by omega
    have HF:Hid (subSz left (t+szS l)=left - t - Z):=by
     have h:=HT.out
     rw[List.take_of_length_le (by rw[HL.out];exact Nat.le_refl _)] at h
     rw[←h]
     exact(subSz_pos Zq6).trans Zq6
    go_wp2
    go_ret
    exact ⟨by rw[HF.out];rfl,rfl⟩
def szT:(d:Nat)→List (Tr d)→Nat
 | 0,_=>0
 | d+1,l=>l.length+(l.map fun (s:Tr (d+1))=>(hdT s).word.size+((hdT s).args.length+szS (hdT s).args+szT d (bdT s))).sum
def OkT:(d:Nat)→List (Tr d)→Prop
 | 0,_=>True
 | d+1,l=>l.length≤9223372036854775807∧∀ s∈l,(hdT s).word.size≤9223372036854775807∧(hdT s).args.length≤9223372036854775807∧(∀ a∈(hdT s).args,a.size≤9223372036854775807)∧OkT d (bdT s)
def szE {d:Nat} (s:Tr (d+1)):Nat:=(hdT s).word.size+((hdT s).args.length+szS (hdT s).args+szT d (bdT s))
def sumE {d:Nat} (l:List (Tr (d+1))):Nat:=(l.map szE).sum
theorem szT_succ {d:Nat} (l:List (Tr (d+1))):szT (d+1) l=l.length+sumE l:=rfl
theorem sumE_nil {d:Nat}:sumE ([]:List (Tr (d+1)))=0:=rfl
theorem sumE_take {d:Nat} (l:List (Tr (d+1))) (t:Nat) (s:Tr (d+1)) (h:l[t]?=some s):sumE (l.take (t+1))=sumE (l.take t)+szE s:=by
 rw[List.take_add_one,h]
 simp [sumE]
theorem sumE_take_le {d:Nat} (l:List (Tr (d+1))) (t:Nat):sumE (l.take t)≤sumE l:=by
 have h:sumE l=sumE (l.take t)+sumE (l.drop t):=by
  unfold sumE
  rw[←List.sum_append,←List.map_append,List.take_append_drop]
 omega
theorem szT_zero_len {w:World} {lo:Nat} {A:Option Addr} {n:Nat} {l:List (Tr 0)} (h:RdT w lo 0 A n l):n=0:=h.2
def SzSaid (d:Nat):Prop:=∀ (lo:Nat) (A:Option Addr) (n c:Nat) (l:List (Tr d)) (left:Int) (w:World),RdT w lo d A n l→OkT d l→0≤left→left≤1099511627776 →
  Calls Tryz.prog 60 #[.slice A n c,.int .i64 left] w fun e w'=>e=.returned (.int .i64 (subSz left (szT d l)))∧Below w.heap.size w w'∧w.heap.size≤w'.heap.size
theorem Zq0 {p:Prop} (h:p:=by repeat (first|exact Below.refl _ _|assumption|(refine Below.trans ?_ (Below.mono (by assumption) (by first|omega|(simp;done)|(simp;omega))))|(with_reducible refine Below.drew ?_)|(with_reducible refine Below.alloc ?_ (by first|omega|(simp;done)|(simp;omega)) _)|(with_reducible refine Below.setCell ?_ (by first|omega|(simp;done)|(simp;omega)) _))):p:=h
theorem Zq5 {p:Prop} (h:p:=by first|omega|(simp;done)|(simp;omega)):p:=h
theorem szStmt_of {d:Nat} (ih:SzSaid d) (lo:Nat) (k:Int) (word:ByteArray) (args:List ByteArray) (count:Int) (bd:List (Tr d)) (Aa:Option Addr) (ca:Nat) (Ab:Option Addr) (nb cb:Nat) (left:Int) (w:World)
  (hra:RdL w lo 1 Aa args.length (strs args)) (hrb:RdT w lo d Ab nb bd) (h1:word.size≤9223372036854775807) (h2:args.length≤9223372036854775807) (h3:∀ a∈args,a.size≤9223372036854775807) (h4:OkT d bd) (h5:0≤left) (h6:left≤1099511627776) :
  Calls Tryz.prog 114 #[.agg #[.int .i64 k,.string word,.slice Aa args.length ca,.int .i64 count,.slice Ab nb cb],.int .i64 left] w fun e w' =>
   e=.returned (.int .i64 (subSz left (word.size+(args.length+szS args+szT d bd))))∧Below w.heap.size w w'∧w.heap.size≤w'.heap.size:=by
 have b0:Below w.heap.size w (w.alloc (.cells #[.int .i64 k,.string word,.slice Aa args.length ca,.int .i64 count,.slice Ab nb cb] 143)):=Zq0
 have HA:=hD (hra.rd.below b0)
 have HB:=hD (hrb.below b0)
 have H3:=hD h3
 have H4:=hD h4
 obtain ⟨m,hm⟩:∃ m,m=args.length:=⟨_,rfl⟩
 obtain ⟨z,hz⟩:∃ z,z=szS args:=⟨_,rfl⟩
 obtain ⟨y,hy⟩:∃ y,y=szT d bd:=⟨_,rfl⟩
 rw[←hm] at h2
 rw[←hm,←hz,←hy]
 have HM:=hD hm
 have HZ:=hD hz
 have HY:=hD hy
 rw[←hm] at HA HB
 clear b0 hra hrb h3 h4 hm hz hy
 by_cases c1:left - word.size<0
 ·have HF:=hD (subSz_neg (left:=left) (m:=word.size+(m+z+y)) Zq6)
  go_enter Tryz.func114,Tryz.ntmps114
  go_wp2_with fail
  go_ret
  exact ⟨by rw[HF.out];rfl,Zq0,Zq5⟩
 have c1':0≤left - word.size:=by omega
 by_cases c2:left - word.size<m+z
 ·have HF:=hD (subSz_neg (left:=left) (m:=word.size+(m+z+y)) Zq6)
  have HS:=hD (subSz_neg (left:=left - word.size) (m:=m+z) Zq6)
  go_enter Tryz.func114,Tryz.ntmps114
  go_wp2_with fail
  refine(szStringS_any _ _ _ args _ _ HA.out HM.out.symm h2 H3.out Zq6 Zq6).mono ?_
  rintro e w' ⟨rfl,rfl⟩
  rw[←HZ.out,HS.out]
  go_wp2_with fail
  go_ret
  exact ⟨by rw[HF.out];rfl,Zq0,Zq5⟩
 have HS:=hD (subSz_pos (left:=left - word.size) (m:=m+z) Zq6)
 have c2':0≤left - (word.size:Int) - ((m:Int)+(z:Int)):=by omega
 by_cases c3:left - (word.size:Int) - ((m:Int)+(z:Int))<y
 ·have HF:=hD (subSz_neg (left:=left) (m:=word.size+(m+z+y)) Zq6)
  have HT:=hD (subSz_neg (left:=left - (word.size:Int) - ((m:Int)+(z:Int))) (m:=y) Zq6)
  go_enter Tryz.func114,Tryz.ntmps114
  go_wp2_with fail
  refine(szStringS_any _ _ _ args _ _ HA.out HM.out.symm h2 H3.out Zq6 Zq6).mono ?_
  rintro e w' ⟨rfl,rfl⟩
  rw[←HZ.out,HS.out]
  go_wp2_with fail
  refine(ih lo _ _ _ bd _ _ HB.out H4.out Zq6 Zq6).mono ?_
  rintro e w1 ⟨rfl,b1,s1⟩
  simp at s1
  rw[←HY.out,HT.out]
  go_wp2_with fail
  go_ret
  exact ⟨by rw[HF.out];rfl,Zq0,Zq5⟩
 have HT:=hD (subSz_pos (left:=left - (word.size:Int) - ((m:Int)+(z:Int))) (m:=y) Zq6)
 have HF:=hD ((subSz_pos (left:=left) (m:=word.size+(m+z+y)) Zq6).trans (show left - ((word.size+(m+z+y):Nat):Int)=left - (word.size:Int) - ((m:Int)+(z:Int)) - (y:Int) by omega))
 go_enter Tryz.func114,Tryz.ntmps114
 go_wp2_with fail
 refine(szStringS_any _ _ _ args _ _ HA.out HM.out.symm h2 H3.out Zq6 Zq6).mono ?_
 rintro e w' ⟨rfl,rfl⟩
 rw[←HZ.out,HS.out]
 go_wp2_with fail
 refine(ih lo _ _ _ bd _ _ HB.out H4.out Zq6 Zq6).mono ?_
 rintro e w1 ⟨rfl,b1,s1⟩
 simp at s1
 rw[←HY.out,HT.out]
 go_wp2_with fail
 go_ret
 exact ⟨by rw[HF.out];rfl,Zq0,Zq5⟩
theorem szStmtS_any:∀ (d:Nat),SzSaid d:=by
 intro d
 induction d with
 | zero =>
  intro lo A n c l left w h _ h0 h1
  obtain rfl:=szT_zero_len h
  have HF:=hD (subSz_pos (left:=left) (m:=szT 0 l) (by simp [szT];omega))
  go_enter Tryz.func60,Tryz.ntmps60
  go_wp2
  refine wp_loop_rounds 1 ?_
  rw[rounds_succ]
  go_wp2
  go_ret
  exact ⟨by rw[HF.out];simp [szT],Below.refl _ _,Nat.le_refl _⟩
 | succ d ih =>
  intro lo A n c l left w h hok h0 h1
  have H:=hD h
  have HO:=hD hok
  have hn:n≤9223372036854775807:=by rw[←h.len];exact hok.1
  have hln:=h.len
  have HL:=hD hln
  clear h hok hln
  by_cases hbig:left - n<0
  ·have HF:=hD (subSz_neg (left:=left) (m:=szT (d+1) l) (by rw[szT_succ,HL.out];omega))
   go_enter Tryz.func60,Tryz.ntmps60
   go_wp2
   go_ret
   exact ⟨by rw[HF.out];rfl,Below.refl _ _,Nat.le_refl _⟩
  ·have hbig':0≤left - n:=by omega
   go_enter Tryz.func60,Tryz.ntmps60
   go_wp2_with fail
   go_loopw [1,5] (fun k i wr=>∃ t:Nat,t≤n∧i=.int .i64 t∧0≤left - n - sumE (l.take t)∧k=.int .i64 (left - n - sumE (l.take t))∧Below w.heap.size w wr) (fun _ i _=>n - (intOf i).toNat)
   case atStart=>exact ⟨0,Nat.zero_le _,rfl,by rw[List.take_zero,sumE_nil];omega,by rw[List.take_zero,sumE_nil];simp,Below.refl _ _⟩
   case round =>
    obtain ⟨t,ht,rfl,hp,rfl,hb⟩:=hrel
    have hle:=sumE_take_le l t
    obtain ⟨Z,hZ⟩:∃ Z,Z=sumE (l.take t):=⟨_,rfl⟩
    rw[←hZ] at hp hle ⊢
    have HT:=hD hZ
    clear hZ
    by_cases hlt:t<n
    ·obtain ⟨b,off,s,Aa,ca,Ab,nb,cb,rfl,hbl,hs,hcs,hra,hrb⟩:=(H.out.below hb).at_ hlt
     obtain ⟨q0,q1,q2,q3,q4⟩:=hcs
     have hmem:=List.mem_of_getElem? hs
     have ho:=HO.out.2 _ hmem
     have hst:=sumE_take l t s hs
     have hle2:=sumE_take_le l (t+1)
     rw[hst,←HT.out] at hle2
     have HS:=hD hst
     have HRa:=hD hra
     have HRb:=hD hrb
     have HO2:=hD ho
     clear hs hst hra hrb ho hmem
     have HE:Hid (szE s=(hdT s).word.size+((hdT s).args.length+szS (hdT s).args+szT d (bdT s))):=hD rfl
     obtain ⟨y,hy⟩:∃ y,y=szE s:=⟨_,rfl⟩
     rw[←hy] at hle2
     have HY:=hD hy
     clear hy
     go_wp2_with fail
     refine(szStmt_of ih lo _ _ _ _ (bdT s) _ _ _ _ _ _ _ HRa.out HRb.out HO2.out.1 HO2.out.2.1 HO2.out.2.2.1 HO2.out.2.2.2 Zq6 Zq6).mono ?_
     rintro e w1 ⟨rfl,b1,s1⟩
     rw[←HE.out,←HY.out]
     by_cases hneg:left - n - Z<y
     ·have HN:=hD (subSz_neg (left:=left - n - Z) (m:=y) Zq6)
      have HF:=hD (subSz_neg (left:=left) (m:=szT (d+1) l) (by rw[szT_succ,HL.out];omega))
      rw[HN.out]
      go_wp2_with fail
      go_ret
      exact ⟨by rw[HF.out];rfl,hb.trans (b1.mono hb.size),Nat.le_trans hb.size s1⟩
     ·have HN:=hD (subSz_pos (left:=left - n - Z) (m:=y) Zq6)
      have hneg':0≤left - n - Z - y:=by omega
      rw[HN.out]
      go_wp2_with fail
      go_roundw
      case rel=>exact ⟨t+1,by omega,by go_num,by rw[HS.out,←HT.out,←HY.out];omega,by rw[HS.out,←HT.out,←HY.out];congr 1;omega,hb.trans (b1.mono hb.size)⟩
      case measure=>simp [intOf];omega
    ·obtain rfl:t=n:=by omega
     have HF:Hid (subSz left (szT (d+1) l)=left - t - Z):=by
      have h:=HT.out
      rw[List.take_of_length_le (by rw[HL.out];exact Nat.le_refl _)] at h
      rw[szT_succ,HL.out,←h]
      exact(subSz_pos Zq6).trans Zq6
     go_wp2_with fail
     go_ret
     exact ⟨by rw[HF.out];rfl,hb,hb.size⟩
section
variable {w w':World} {lo:Nat}
theorem setCell_keep {p:Addr} (hp:p.block<lo) (u:Value):∀ b o,lo≤b→b<w.heap.size→(w.setCell p u).cell? ⟨b,o,none⟩=w.cell? ⟨b,o,none⟩ :=
 fun b o hb _=>World.cell?_setCell_other w p ⟨b,o,none⟩ u (fun e=>by subst e;simp at hp;omega)
theorem size_setCell (p:Addr) (u:Value):(w.setCell p u).heap.size=w.heap.size:=by simp [World.setCell]
theorem RdT.set_ {d n:Nat} {A:Option Addr} {l:List (Tr d)} (h:RdT w lo d A n l) {p:Addr} (hp:p.block<lo) (u:Value):RdT (w.setCell p u) lo d A n l :=
 h.keep (setCell_keep hp u) (by rw[size_setCell];exact Nat.le_refl _)
theorem RdL.set_ {size n:Nat} {A:Option Addr} {xs:List Value} (h:RdL w lo size A n xs) {p:Addr} (hp:p.block<lo) (u:Value):RdL (w.setCell p u) lo size A n xs :=
 h.keep (setCell_keep hp u) (by rw[size_setCell];exact Nat.le_refl _)
theorem heap_set_self {g i:Nat} {t:TypeId} {cs:Array Value} (h:w.heap[g]?=some (.cells cs t (0,0))) (u:Value):(w.setCell ⟨g,i,none⟩ u).heap[g]?=some (.cells (cs.setIfInBounds i u) t (0,0)):=by
 simp [World.setCell,Array.getElem?_modify,h]
theorem heap_set_far {g:Nat} {o:Obj} {p:Addr} (h:w.heap[g]?=some o) (hp:g≠p.block) (u:Value):(w.setCell p u).heap[g]?=some o:=(Below.heap_setCell w p u g hp).trans h
theorem boxcells5 {b:Nat} {x0 x1 x2 x3 x4:Value} {t:TypeId} (lay:Below w'.heap.size w' w) (h:w'.heap[b]?=some (.cells #[x0,x1,x2,x3,x4] t (0,0))) :
  w.cell? ⟨b,0,none⟩=some x0∧w.cell? ⟨b,1,none⟩=some x1∧w.cell? ⟨b,2,none⟩=some x2∧w.cell? ⟨b,3,none⟩=some x3∧w.cell? ⟨b,4,none⟩=some x4:=by
 have h':w.heap[b]?=some (.cells #[x0,x1,x2,x3,x4] t (0,0)):=(lay.block b (lt_of_block h)).trans h
 exact ⟨by simp [World.cell?,h'],by simp [World.cell?,h'],by simp [World.cell?,h'],by simp [World.cell?,h'],by simp [World.cell?,h']⟩
theorem boxfree {b:Nat} {cs:Array Value} {t:TypeId} (lay:Below w'.heap.size w' w) (h:w'.heap[b]?=some (.cells cs t (0,0))) (j:Nat):w.frozen? ⟨b,j,none⟩=false:=by
 have h':w.heap[b]?=some (.cells cs t (0,0)):=(lay.block b (lt_of_block h)).trans h
 simp [World.frozen?,h']
end
def RetT (d n:Nat) (l:List (Tr d)) (w:World) (e:Ending) (w':World):Prop :=
 ∃ A c,e=.returned (.slice A n c)∧RdT w' w.heap.size d A n l∧Below w.heap.size w w'∧w.heap.size≤w'.heap.size
theorem szT_mem {d:Nat} {l:List (Tr (d+1))} {t:Nat} {s:Tr (d+1)} (h:l[t]?=some s):szE s≤sumE l:=by
 have h1:=sumE_take l t s h
 have h2:=sumE_take_le l (t+1)
 omega
theorem info_Stmt:(Tryz.prog.info? 66).map (fun i=>(i.zero,i.size,i.bytes))=some (some (.agg #[.int .i64 0,.string ⟨#[]⟩,.slice none 0 0,.int .i64 0,.slice none 0 0]),5,80):=by kernel_rfl
def ToSaid (d:Nat):Prop:=∀ (lo:Nat) (A:Option Addr) (n c:Nat) (l:List (Tr d)) (w:World),RdT w lo d A n l→szT d l≤1048576→Calls Tryz.prog 65 #[.slice A n c] w (RetT d n l w)
def RetS (d nb:Nat) (k:Int) (word:ByteArray) (args:List ByteArray) (count:Int) (bd:List (Tr d)) (w:World) (e:Ending) (w':World):Prop :=
 ∃ Aa ca Ab cb,e=.returned (.agg #[.int .i64 k,.string word,.slice Aa args.length ca,.int .i64 count,.slice Ab nb cb])∧RdL w' w.heap.size 1 Aa args.length (strs args)∧RdT w' w.heap.size d Ab nb bd∧Below w.heap.size w w'∧w.heap.size≤w'.heap.size
def RetSC (d nb:Nat) (k:Int) (word:ByteArray) (args:List ByteArray) (count:Int) (bd:List (Tr d)) (w:World) (e:Ending) (w':World):Prop :=
 ∃ Aa ca Ab cb,e=.returned (.agg #[.int .i64 k,.string word,.slice Aa args.length ca,.int .i64 count,.slice Ab nb cb])∧RdL w' w.heap.size 1 Aa args.length (strs args)∧RdT w' w.heap.size d Ab nb bd∧Below w.heap.size w w'∧w.heap.size≤w'.heap.size∧args.length≤ca
theorem toStmt_c {d:Nat} (ih:ToSaid d) (lo:Nat) (k:Int) (word:ByteArray) (args:List ByteArray) (count:Int) (bd:List (Tr d)) (Aa:Option Addr) (ca:Nat) (Ab:Option Addr) (nb cb:Nat) (w:World)
  (hra:RdL w lo 1 Aa args.length (strs args)) (hrb:RdT w lo d Ab nb bd) (h1:args.length≤1048576) (h2:szT d bd≤1048576) :
  Calls Tryz.prog 117 #[.agg #[.int .i64 k,.string word,.slice Aa args.length ca,.int .i64 count,.slice Ab nb cb]] w (RetSC d nb k word args count bd w):=by
 obtain ⟨m,hm⟩:∃ m,m=args.length:=⟨_,rfl⟩
 rw[←hm] at hra h1 ⊢
 have HM:=hD hm
 have HA:=hD hra
 have HB:=hD hrb
 clear hm hra hrb
 go_enter Tryz.func117,Tryz.ntmps117
 go_wp2_with fail
 obtain ⟨w0,hw0⟩:∃ w0,w0=((w.alloc (.cells #[.int .i64 k,.string word,.slice Aa m ca,.int .i64 count,.slice Ab nb cb] 143)).alloc (.cells #[.int .i64 0,.string ⟨#[]⟩,.slice none 0 0,.int .i64 0,.slice none 0 0] 66)).alloc (.cells #[.int .i64 k,.string word,.slice none 0 0,.int .i64 0,.slice none 0 0] 66):=⟨_,rfl⟩
 rw[←hw0]
 have x0:w0.heap[w.heap.size]?=some (.cells #[.int .i64 k,.string word,.slice Aa m ca,.int .i64 count,.slice Ab nb cb] 143 (0,0)):=by rw[hw0];exact boxed3_0 _ _ _ _
 have x1:w0.heap[w.heap.size+1]?=some (.cells #[.int .i64 0,.string ⟨#[]⟩,.slice none 0 0,.int .i64 0,.slice none 0 0] 66 (0,0)):=by rw[hw0];exact boxed3_1 _ _ _ _
 have x2:w0.heap[w.heap.size+2]?=some (.cells #[.int .i64 k,.string word,.slice none 0 0,.int .i64 0,.slice none 0 0] 66 (0,0)):=by rw[hw0];exact boxed3_2 _ _ _ _
 have b0:Below w.heap.size w w0:=by rw[hw0];exact Zq0
 have s0:w.heap.size+3=w0.heap.size:=by rw[hw0];simp
 have S0:=hD s0
 have X0:=hD x0
 have X1:=hD x1
 have X2:=hD x2
 clear hw0 s0 x0 x1 x2
 refine(toStringS_any _ _ _ args _ (HA.out.rd.below b0) HM.out.symm Zq6).mono ?_
 rintro e w1 ⟨v1,rfl,o1,b1,s1⟩
 obtain ⟨A1,c1,rfl,hcap1,_,_⟩:=rd_of_own o1
 obtain ⟨_,_,_,p3,p4⟩:=boxcells5 (lay:=b1) X0.out
 obtain ⟨_,_,q2,q3,_⟩:=boxcells5 (lay:=b1) X2.out
 have f2:=boxfree b1 X2.out 2
 have f3:=boxfree b1 X2.out 3
 go_wp2_with fail
 obtain ⟨w2,hw2⟩:∃ w2,w2=(w1.setCell ⟨w.heap.size+2,2,none⟩ (.slice A1 m c1)).setCell ⟨w.heap.size+2,3,none⟩ (.int .i64 count):=⟨_,rfl⟩
 rw[←hw2]
 have hS:=S0.out
 have y1:w2.heap[w.heap.size+1]?=some (.cells #[.int .i64 0,.string ⟨#[]⟩,.slice none 0 0,.int .i64 0,.slice none 0 0] 66 (0,0)):=by
  rw[hw2];exact heap_set_far (heap_set_far ((b1.block _ Zq6).trans X1.out) Zq11 _) Zq11 _
 have y2:w2.heap[w.heap.size+2]?=some (.cells #[.int .i64 k,.string word,.slice A1 m c1,.int .i64 count,.slice none 0 0] 66 (0,0)):=by
  rw[hw2];exact heap_set_self (heap_set_self ((b1.block _ Zq6).trans X2.out) _) _
 have b2:Below w.heap.size w w2:=by rw[hw2];exact((b0.trans (b1.mono Zq6)).setCell Zq11 _).setCell Zq11 _
 have s2:w1.heap.size=w2.heap.size:=by rw[hw2,size_setCell,size_setCell]
 have r1:RdL w2 (w.heap.size+3) 1 A1 m (strs args):=by
  rw[hw2];exact((rdl_own o1).lower Zq6 |>.set_ Zq11 _).set_ Zq11 _
 have Y1:=hD y1
 have Y2:=hD y2
 have R1:=hD r1
 have S2:=hD s2
 clear hw2 y1 y2 r1 s2 p3 p4 q2 q3 f2 f3 o1 hS
 refine(ih lo _ _ _ bd _ (HB.out.below b2) h2).mono ?_
 rintro e w3 ⟨A3,c3,rfl,r3,b3,s3⟩
 obtain ⟨t0,t1,t2,t3,t4⟩:=boxcells5 (lay:=b3) Y1.out
 obtain ⟨u0,u1,u2,u3,u4⟩:=boxcells5 (lay:=b3) Y2.out
 have g0:=boxfree b3 Y1.out 0
 have g1:=boxfree b3 Y1.out 1
 have g2:=boxfree b3 Y1.out 2
 have g3:=boxfree b3 Y1.out 3
 have g4:=boxfree b3 Y1.out 4
 have g5:=boxfree b3 Y2.out 4
 have R3:=hD r3
 clear r3
 go_wp2_with fail
 have hS:=S0.out
 have hS2:=S2.out
 refine bodyPost_ret (v:=.agg #[.int .i64 k,.string word,.slice A1 m c1,.int .i64 count,.slice A3 nb c3]) (by simp [results,Tryz.results117,go_sem,t0,t1,t2,t3,t4]) rfl ⟨A1,c1,A3,c3,by rw[←HM.out],?_,?_,?_,?_,by rw[←HM.out];exact hcap1⟩
 ·rw[←HM.out]
  exact RdL.lower (lo:=w.heap.size+3) ((((((R1.out.below b3).set_ Zq11 _).set_ Zq11 _).set_ Zq11 _).set_ Zq11 _).set_ Zq11 _ |>.set_ Zq11 _) Zq6
 ·exact RdT.lower (lo:=w2.heap.size) Zq6 ((((((R3.out.set_ Zq9 _).set_ Zq9 _).set_ Zq9 _).set_ Zq9 _).set_ Zq9 _).set_ Zq9 _)
 ·exact(((((((b2.trans (b3.mono Zq6)).setCell Zq5 _).setCell Zq5 _).setCell Zq5 _).setCell Zq5 _).setCell Zq5 _).setCell Zq5 _)
 ·simp [World.setCell];omega
def scells (s:SH) (Aa:Option Addr) (ca:Nat) (Ab:Option Addr) (nb cb:Nat):List Value:=[.int .i64 s.k,.string s.word,.slice Aa s.args.length ca,.int .i64 s.count,.slice Ab nb cb]
def CopyUpto (w:World) (lo d:Nat) (l:List (Tr (d+1))) (t:Nat) (vs:List (List Value)):Prop :=
 vs.length=t∧(∀ v∈vs,v.length=5)∧∀ (i:Nat) (s:Tr (d+1)),i<t→l[i]?=some s→∃ Aa ca Ab nb cb,vs[i]?=some (scells (hdT s) Aa ca Ab nb cb)∧RdL w lo 1 Aa (hdT s).args.length (strs (hdT s).args)∧RdT w lo d Ab nb (bdT s)∧(hdT s).args.length≤ca
theorem flatten_len {vs:List (List Value)} (h:∀ v∈vs,v.length=5):vs.flatten.length=vs.length*5:=by
 induction vs with
 | nil=>rfl
 | cons v vs ih =>
  rw[List.flatten_cons,List.length_append,ih (fun x hx=>h x (by simp [hx])),h v Zq11,List.length_cons]
  omega
theorem flatten_at {vs:List (List Value)} (h:∀ v∈vs,v.length=5) {i j:Nat} {v:List Value} (hi:vs[i]?=some v) (hj:j<5):vs.flatten[i*5+j]?=v[j]?:=by
 induction vs generalizing i with
 | nil=>simp at hi
 | cons x vs ih =>
  have hx:=h x Zq11
  rw[List.flatten_cons]
  cases i with
  | zero =>
   simp at hi
   subst hi
   rw[List.getElem?_append_left Zq6]
   simp
  | succ i =>
   rw[List.getElem?_append_right Zq6,←ih (fun y hy=>h y (by simp [hy])) (by simpa using hi)]
   congr 1
   omega
theorem CopyUpto.nil {w:World} {lo d:Nat} {l:List (Tr (d+1))}:CopyUpto w lo d l 0 []:=⟨rfl,by simp,fun _ _ h=>absurd h Zq6⟩
theorem CopyUpto.keep {w w':World} {lo d:Nat} {l:List (Tr (d+1))} {t:Nat} {vs:List (List Value)} (h:CopyUpto w lo d l t vs) (hk:∀ b o,lo≤b→b<w.heap.size→w'.cell? ⟨b,o,none⟩=w.cell? ⟨b,o,none⟩) (hs:w.heap.size≤w'.heap.size):CopyUpto w' lo d l t vs :=
 ⟨h.1,h.2.1,fun i s hi hl=>by
  obtain ⟨Aa,ca,Ab,nb,cb,h1,h2,h3,h4⟩:=h.2.2 i s hi hl
  exact ⟨Aa,ca,Ab,nb,cb,h1,h2.keep hk hs,h3.keep hk hs,h4⟩⟩
theorem CopyUpto.set_ {w:World} {lo d:Nat} {l:List (Tr (d+1))} {t:Nat} {vs:List (List Value)} (h:CopyUpto w lo d l t vs) {p:Addr} (hp:p.block<lo) (u:Value):CopyUpto (w.setCell p u) lo d l t vs :=
 h.keep (setCell_keep hp u) (by rw[size_setCell];exact Nat.le_refl _)
theorem CopyUpto.snoc {w:World} {lo d:Nat} {l:List (Tr (d+1))} {t:Nat} {vs:List (List Value)} (h:CopyUpto w lo d l t vs) {s:Tr (d+1)} (hs:l[t]?=some s) {Aa Ab:Option Addr} {ca nb cb:Nat}
  (h1:RdL w lo 1 Aa (hdT s).args.length (strs (hdT s).args)) (h2:RdT w lo d Ab nb (bdT s)) (h3:(hdT s).args.length≤ca):CopyUpto w lo d l (t+1) (vs++[scells (hdT s) Aa ca Ab nb cb]):=by
 refine ⟨by simp [h.1],fun v hv=>?_,fun i s' hi hl=>?_⟩
 ·rcases List.mem_append.1 hv with hv|hv
  ·exact h.2.1 v hv
  ·simp at hv;subst hv;rfl
 ·by_cases hit:i<t
  ·obtain ⟨Aa',ca',Ab',nb',cb',e1,e2,e3⟩:=h.2.2 i s' hit hl
   exact ⟨Aa',ca',Ab',nb',cb',by rw[List.getElem?_append_left (by rw[h.1];exact hit)];exact e1,e2,e3⟩
  ·obtain rfl:i=t:=by omega
   rw[hs] at hl
   injection hl with hl
   subst hl
   exact ⟨Aa,ca,Ab,nb,cb,by rw[List.getElem?_append_right (by rw[h.1];exact Nat.le_refl _),h.1];simp,h1,h2,h3⟩
theorem Zq8 {p:Prop} (h:p:=by decide):p:=h
theorem CopyUpto.rdT {w:World} {lo lo' d g n E:Nat} {l:List (Tr (d+1))} {vs:List (List Value)} (h:CopyUpto w lo d l n vs) (hl:l.length=n) (hown:w.ownsRow g E 5 (.slice (some ⟨g,0,none⟩) n n) n vs.flatten) (h1:lo'≤lo) (h2:lo'≤g) :
  RdT w lo' (d+1) (some ⟨g,0,none⟩) n l:=by
 refine ⟨hl,fun h0=>⟨g,0,rfl,h2,(hown.lt g rfl).2,fun i s hi=>?_⟩⟩
 have hin:i<n:=by have:=(List.getElem?_eq_some_iff.1 hi).1;omega
 obtain ⟨Aa,ca,Ab,nb,cb,e1,e2,e3,e4⟩:=h.2.2 i s hin hi
 have hc:∀ j,j<5→w.cell? ⟨g,i*5+j,none⟩=(scells (hdT s) Aa ca Ab nb cb)[j]?:=fun j hj=>(hown.cellAt _ Zq6).trans (flatten_at h.2.1 e1 hj)
 refine ⟨Aa,ca,Ab,nb,cb,⟨?_,?_,?_,?_,?_⟩,e2.lower h1,e3.lower h1,e4⟩
 ·rw[Nat.zero_add];exact hc 0 Zq8
 ·rw[Nat.zero_add];exact hc 1 Zq8
 ·rw[Nat.zero_add];exact hc 2 Zq8
 ·rw[Nat.zero_add];exact hc 3 Zq8
 ·rw[Nat.zero_add];exact hc 4 Zq8
theorem toStmtS_any:∀ (d:Nat),ToSaid d:=by
 intro d
 induction d with
 | zero =>
  intro lo A n c l w h _
  obtain rfl:=szT_zero_len h
  have hl:=h.len
  have HL:=hD hl
  clear hl
  obtain ⟨i0,hi,hz0,hz1,hz2⟩:=info_parts info_Stmt
  obtain ⟨w1,hrun,hown,hgr0⟩:=run_make_full (P:=Tryz.prog) w w.heap.size 25 66 i0 _ 5 Tryz.underlying25 hi hz0 hz1 .i64 .i64 0 Zq6 Zq8 (Nat.le_refl _)
  have b1:Below w.heap.size w w1:=(Below.refl _ _).grown hgr0 (Nat.le_refl _) Zq11
  have hrun':(Instr.makeSlice 25 (.int .i64 0) (.int .i64 0)).run Tryz.prog w=.ok (.slice (some ⟨w.heap.size,0,none⟩) 0 0) w1:=hrun
  clear hown hgr0 hi hz0 hz1 hz2 hrun
  go_enter Tryz.func65,Tryz.ntmps65
  go_wp2
  refine wp_loop_rounds 1 ?_
  rw[rounds_succ]
  go_wp2
  go_ret
  exact ⟨_,_,rfl,⟨HL.out,rfl⟩,b1,b1.size⟩
 | succ d ih =>
  intro lo A n c l w h hsz
  rw[szT_succ] at hsz
  have hln:=h.len
  have hn:n≤1048576:=by omega
  have HQ:=hD hsz
  obtain ⟨i0,hi,hz0,hz1,hz2⟩:=info_parts info_Stmt
  obtain ⟨w1,hrun,hown,hgr0⟩:=run_make_full (P:=Tryz.prog) w w.heap.size 25 66 i0 _ 5 Tryz.underlying25 hi hz0 hz1 .i64 .i64 n (by rw[hz2];omega) Zq12 (Nat.le_refl _)
  have H:=hD h
  have HL:=hD hln
  clear h hln hi hz0 hz1 hz2 hsz
  have b1:Below w.heap.size w w1:=(Below.refl _ _).grown hgr0 (Nat.le_refl _) Zq11
  have s1:=hown.lt w.heap.size rfl
  obtain ⟨zs,hzs⟩:∃ zs,zs=(madeCells (Value.agg #[.int .i64 0,.string ⟨#[]⟩,.slice none 0 0,.int .i64 0,.slice none 0 0]).cells (n*5)).toList:=⟨_,rfl⟩
  rw[←hzs] at hown
  have hzl:=hown.1
  have HZ:=hD hzl
  clear hzs hgr0 hzl
  go_enter Tryz.func65,Tryz.ntmps65
  go_wp2
  clear hrun
  go_loopw [4] (fun i wr=>∃ (t:Nat) (vs:List (List Value)),t≤n∧i=.int .i64 t∧CopyUpto wr (w.heap.size+1) d l t vs∧wr.ownsRow w.heap.size 66 5 (.slice (some ⟨w.heap.size,0,none⟩) n n) n (vs.flatten++zs.drop (t*5))∧Below w.heap.size w wr) (fun i _=>n - (intOf i).toNat)
  case atStart=>exact ⟨0,[],Nat.zero_le _,rfl,CopyUpto.nil,by simpa using hown,b1⟩
  case round =>
   clear hown b1 s1
   obtain ⟨t,vs,ht,rfl,hcp,hown,hb⟩:=hrel
   have hgs:=(hown.lt w.heap.size rfl).2
   by_cases hlt:t<n
   ·obtain ⟨b,off,s,Aa,ca,Ab,nb,cb,rfl,hbl,hs,hcs,hra,hrb⟩:=(H.out.below hb).at_ hlt
    obtain ⟨q0,q1,q2,q3,q4⟩:=hcs
    have hme:=szT_mem hs
    have hz1:(hdT s).args.length≤1048576:=by have:=HQ.out;unfold szE at hme;omega
    have hz2:szT d (bdT s)≤1048576:=by have:=HQ.out;unfold szE at hme;omega
    have HS:=hD hs
    have HRa:=hD hra
    have HRb:=hD hrb
    have HCP:=hD hcp
    clear hs hra hrb hcp hme
    go_wp2_with fail
    refine(toStmt_c ih lo _ _ _ _ (bdT s) _ _ _ _ _ _ HRa.out HRb.out hz1 hz2).mono ?_
    rintro e w2 ⟨A2,c2,A3,c3,rfl,r2,r3,hb2,hs2,hcap2⟩
    have HCAP:=hD hcap2
    clear hcap2
    have hown2:=ownsRow_below hown hb2
    have hf:=hown2.frozenAt
    have hz:=hown2.cellAt
    have hll:=hown2.1
    obtain ⟨y0,z0⟩:∃ y,w2.cell? ⟨w.heap.size,t*5,none⟩=some y:=⟨_,(hz _ Zq6).trans (List.getElem?_eq_getElem Zq6)⟩
    obtain ⟨y1,z1⟩:∃ y,w2.cell? ⟨w.heap.size,t*5+1,none⟩=some y:=⟨_,(hz _ Zq6).trans (List.getElem?_eq_getElem Zq6)⟩
    obtain ⟨y2,z2⟩:∃ y,w2.cell? ⟨w.heap.size,t*5+2,none⟩=some y:=⟨_,(hz _ Zq6).trans (List.getElem?_eq_getElem Zq6)⟩
    obtain ⟨y3,z3⟩:∃ y,w2.cell? ⟨w.heap.size,t*5+3,none⟩=some y:=⟨_,(hz _ Zq6).trans (List.getElem?_eq_getElem Zq6)⟩
    obtain ⟨y4,z4⟩:∃ y,w2.cell? ⟨w.heap.size,t*5+4,none⟩=some y:=⟨_,(hz _ Zq6).trans (List.getElem?_eq_getElem Zq6)⟩
    have f0:=hf (t*5)
    have f1:=hf (t*5+1)
    have f2:=hf (t*5+2)
    have f3:=hf (t*5+3)
    have f4:=hf (t*5+4)
    have R2:=hD r2
    have R3:=hD r3
    clear hf hz hll q0 q1 q2 q3 q4 r2 r3 hown
    go_wp2_with fail
    go_roundw
    case rel =>
     have hfl:vs.flatten.length=t*5:=by rw[flatten_len HCP.out.2.1,HCP.out.1]
     have e0:=hown2.stored (t*5) (.int .i64 (hdT s).k)
     have e1:=e0.1.stored (t*5+1) (.string (hdT s).word)
     have e2:=e1.1.stored (t*5+1+1) (.slice A2 (hdT s).args.length c2)
     have e3:=e2.1.stored (t*5+1+1+1) (.int .i64 (hdT s).count)
     have e4:=e3.1.stored (t*5+1+1+1+1) (.slice A3 nb c3)
     rw[fill_step hfl (by rw[HZ.out];omega),fill_step (by simp [hfl]) (by rw[HZ.out];omega),fill_step (by simp [hfl]) (by rw[HZ.out];omega),fill_step (by simp [hfl]) (by rw[HZ.out];omega),fill_step (by simp [hfl]) (by rw[HZ.out];omega)] at e4
     rw[show t*5+1+1+1+1+1=(t+1)*5 from by omega] at e4
     have hlo:w.heap.size+1≤wr.heap.size:=hgs
     have k1:=HCP.out.keep (fun b o _ hlt=>hb2.cell hlt) hb2.size
     have k2:=k1.snoc (ca:=c2) (cb:=c3) HS.out (R2.out.lower hlo) (RdT.lower hlo R3.out) HCAP.out
     refine ⟨t+1,vs++[scells (hdT s) A2 c2 A3 nb c3],by omega,by go_num,?_,?_,?_⟩
     ·exact((((k2.set_ Zq11 _).set_ Zq11 _).set_ Zq11 _).set_ Zq11 _).set_ Zq11 _
     ·rw[List.flatten_append]
      simpa [scells] using e4.1
     ·exact(((((hb.trans (hb2.mono hb.size)).setCell Zq11 _).setCell Zq11 _).setCell Zq11 _).setCell Zq11 _).setCell Zq11 _
    case measure=>simp [intOf];omega
   ·obtain rfl:t=n:=by omega
    have HCP:=hD hcp
    clear hcp
    go_wp2_with fail
    go_ret
    rw[List.drop_of_length_le (by rw[HZ.out];exact Nat.le_refl _),List.append_nil] at hown
    exact ⟨_,_,rfl,HCP.out.rdT HL.out hown Zq6 (Nat.le_refl _),hb,hb.size⟩
theorem RdT.drew {w:World} {lo d n:Nat} {A:Option Addr} {l:List (Tr d)} (h:RdT w lo d A n l):RdT w.drew lo d A n l:=RdT.keep (w:=w) (w':=w.drew) (fun _ _ _ _=>rfl) (Nat.le_refl _) h
theorem RdT.drewN {w:World} {lo d n:Nat} {A:Option Addr} {l:List (Tr d)} (h:RdT w lo d A n l) (k:Nat):RdT (w.drewN k) lo d A n l:=RdT.keep (w:=w) (w':=w.drewN k) (fun _ _ _ _=>rfl) (Nat.le_refl _) h
def EqSaid (d:Nat):Prop:=∀ (lo lo':Nat) (A A':Option Addr) (n c c':Nat) (l:List (Tr d)) (w:World),RdT w lo d A n l→RdT w lo' d A' n l→szT d l≤1048576 →
 Calls Tryz.prog 70 #[.slice A n c,.slice A' n c'] w fun e w'=>e=.returned (.bool true)∧Below w.heap.size w w'∧w.heap.size≤w'.heap.size
theorem eqStmt_of {d:Nat} (ih:EqSaid d) (lo lo':Nat) (k:Int) (word:ByteArray) (args:List ByteArray) (count:Int) (bd:List (Tr d)) (Aa:Option Addr) (ca:Nat) (Ab:Option Addr) (nb cb:Nat) (Aa':Option Addr) (ca':Nat) (Ab':Option Addr) (cb':Nat) (w:World)
  (hra:RdL w lo 1 Aa args.length (strs args)) (hrb:RdT w lo d Ab nb bd) (hra':RdL w lo' 1 Aa' args.length (strs args)) (hrb':RdT w lo' d Ab' nb bd) (h1:args.length≤1048576) (h2:szT d bd≤1048576) :
  Calls Tryz.prog 122 #[.agg #[.int .i64 k,.string word,.slice Aa args.length ca,.int .i64 count,.slice Ab nb cb],.agg #[.int .i64 k,.string word,.slice Aa' args.length ca',.int .i64 count,.slice Ab' nb cb']] w fun e w' =>
   e=.returned (.bool true)∧Below w.heap.size w w'∧w.heap.size≤w'.heap.size:=by
 obtain ⟨m,hm⟩:∃ m,m=args.length:=⟨_,rfl⟩
 rw[←hm] at hra hra' h1 ⊢
 have HM:=hD hm
 have HA:=hD hra
 have HB:=hD hrb
 have HA':=hD hra'
 have HB':=hD hrb'
 clear hm hra hrb hra' hrb'
 go_enter Tryz.func122,Tryz.ntmps122
 go_wp2_with fail
 obtain ⟨w0,hw0⟩:∃ w0,w0=(w.alloc (.cells #[.int .i64 k,.string word,.slice Aa m ca,.int .i64 count,.slice Ab nb cb] 66)).alloc (.cells #[.int .i64 k,.string word,.slice Aa' m ca',.int .i64 count,.slice Ab' nb cb'] 66):=⟨_,rfl⟩
 rw[←hw0]
 have X0:=hD (show w0.heap[w.heap.size]?=some (.cells #[.int .i64 k,.string word,.slice Aa m ca,.int .i64 count,.slice Ab nb cb] 66 (0,0)) by rw[hw0];exact boxed2_0 _ _ _)
 have X1:=hD (show w0.heap[w.heap.size+1]?=some (.cells #[.int .i64 k,.string word,.slice Aa' m ca',.int .i64 count,.slice Ab' nb cb'] 66 (0,0)) by rw[hw0];exact boxed2_1 _ _ _)
 have b0:Below w.heap.size w w0:=by rw[hw0];exact Zq0
 have s0:w.heap.size≤w0.heap.size:=b0.size
 clear hw0
 refine(eqStringS_same _ _ _ _ _ args _ HM.out.symm Zq6 (HA.out.rd.below b0) (HA'.out.rd.below b0)).mono ?_
 rintro e w1 ⟨rfl,b1,s1⟩
 obtain ⟨_,_,_,p3,p4⟩:=boxcells5 (lay:=b1) X0.out
 obtain ⟨_,_,_,q3,q4⟩:=boxcells5 (lay:=b1) X1.out
 have b01:Below w.heap.size w w1:=b0.trans (b1.mono s0)
 go_wp2_with fail
 refine(ih lo lo' _ _ _ _ _ bd _ (HB.out.below b01) (HB'.out.below b01) h2).mono ?_
 rintro e w2 ⟨rfl,b2,s2⟩
 go_wp2_with fail
 go_ret
 exact ⟨rfl,b01.trans (b2.mono Zq6),by omega⟩
theorem Zq10 {p:Prop} (h:p:=by kernel_rfl):p:=h
theorem eqStmtS_any:∀ (d:Nat),EqSaid d:=by
 intro d
 induction d with
 | zero =>
  intro lo lo' A A' n c c' l w h h' _
  obtain rfl:=szT_zero_len h
  go_enter Tryz.func70,Tryz.ntmps70
  go_wp2
  refine wp_loop_rounds 1 ?_
  rw[rounds_succ]
  go_wp2
  go_ret
  exact ⟨rfl,Below.refl _ _,Nat.le_refl _⟩
 | succ d ih =>
  intro lo lo' A A' n c c' l w h h' hsz
  rw[szT_succ] at hsz
  have hln:=h.len
  have hn:n≤1048576:=by omega
  have HQ:=hD hsz
  have H:=hD h
  have H':=hD h'
  clear h h' hln hsz
  go_enter Tryz.func70,Tryz.ntmps70
  go_wp2
  go_loopw [5] (fun i wr=>∃ t:Nat,t≤n∧i=.int .i64 t∧Below w.heap.size w wr) (fun i _=>n - (intOf i).toNat)
  case atStart=>exact ⟨0,Nat.zero_le _,rfl,Below.refl _ _⟩
  case round =>
   obtain ⟨t,ht,rfl,hb⟩:=hrel
   by_cases hlt:t<n
   ·obtain ⟨b,off,s,Aa,ca,Ab,nb,cb,rfl,hbl,hs,hcs,hra,hrb⟩:=(H.out.below hb).at_ hlt
    obtain ⟨b',off',s',Aa',ca',Ab',nb',cb',rfl,hbl',hs',hcs',hra',hrb'⟩:=(H'.out.below hb).at_ hlt
    obtain rfl:s=s':=by rw[hs] at hs';injection hs'
    obtain rfl:nb=nb':=by rw[←hrb.len,←hrb'.len]
    obtain ⟨q0,q1,q2,q3,q4⟩:=hcs
    obtain ⟨p0,p1,p2,p3,p4⟩:=hcs'
    have hme:=szT_mem hs
    have hz1:(hdT s).args.length≤1048576:=by have:=HQ.out;unfold szE at hme;omega
    have hz2:szT d (bdT s)≤1048576:=by have:=HQ.out;unfold szE at hme;omega
    have R1:=hD hra
    have R2:=hD hrb
    have R3:=hD hra'
    have R4:=hD hrb'
    clear hs hs' hra hrb hra' hrb' hme
    go_wp2_with fail
    go_still_tail 8,Zq10
    change wpList _ _ _ _ _ wr.drew
    go_wp2_with fail
    refine(eqStmt_of ih lo lo' _ _ _ _ (bdT s) _ _ _ _ _ _ _ _ _ _ (by exact R1.out) R2.out.drew (by exact R3.out) R4.out.drew hz1 hz2).mono ?_
    rintro e w1 ⟨rfl,b1,s1⟩
    go_wp2_with fail
    go_roundw
    case rel=>exact ⟨t+1,by omega,by go_num,hb.drew.trans (b1.mono hb.size)⟩
    case measure=>simp [intOf];omega
   ·go_wp2_with fail
    go_ret
    exact ⟨rfl,hb,hb.size⟩
def inB (n lo hi:Int):Bool:=decide (lo≤n∧n≤hi)
theorem inB_t {n lo hi:Int} (h1:lo≤n) (h2:n≤hi):inB n lo hi=true:=by simp [inB,h1,h2]
theorem inB_f {n lo hi:Int} (h:n<lo∨hi<n):inB n lo hi=false:=by simp [inB];omega
theorem inB_iff {n lo hi:Int}:inB n lo hi=true ↔ lo≤n∧n≤hi:=by simp [inB]
theorem inB_not {n lo hi:Int}:inB n lo hi=false ↔ n<lo∨hi<n:=by simp [inB];omega

theorem in_any (n lo hi:Int) (w:World):Calls Tryz.prog 44 #[.int .i64 n,.int .i64 lo,.int .i64 hi] w fun e w'=>e=.returned (.bool (inB n lo hi))∧w=w':=by
 by_cases h1:lo≤n
 ·by_cases h2:n≤hi
  ·rw[inB_t h1 h2]
   go_enter Tryz.func44,Tryz.ntmps44
   go_wp2
   go_ret
   exact ⟨rfl,rfl⟩
  ·rw[inB_f (Or.inr Zq6)]
   have h3:decide (n≤hi)=false:=by simpa using h2
   clear h2
   go_enter Tryz.func44,Tryz.ntmps44
   go_wp2
   go_ret
   exact ⟨rfl,rfl⟩
 ·rw[inB_f (Or.inl Zq6)]
  have h3:decide (lo≤n)=false:=by simpa using h1
  clear h1
  go_enter Tryz.func44,Tryz.ntmps44
  go_wp2
  go_ret
  exact ⟨rfl,rfl⟩
theorem l1In_any (n lo hi:Int) (w:World):Calls Tryz.prog 47 #[.int .i64 n,.int .i64 lo,.int .i64 hi] w fun e w'=>e=.returned (.bool (inB n lo hi))∧w=w':=by
 by_cases h1:lo≤n
 ·by_cases h2:n≤hi
  ·rw[inB_t h1 h2]
   go_enter Tryz.func47,Tryz.ntmps47
   go_wp2
   go_ret
   exact ⟨rfl,rfl⟩
  ·rw[inB_f (Or.inr Zq6)]
   have h3:decide (n≤hi)=false:=by simpa using h2
   clear h2
   go_enter Tryz.func47,Tryz.ntmps47
   go_wp2
   go_ret
   exact ⟨rfl,rfl⟩
 ·rw[inB_f (Or.inl Zq6)]
  have h3:decide (lo≤n)=false:=by simpa using h1
  clear h1
  go_enter Tryz.func47,Tryz.ntmps47
  go_wp2
  go_ret
  exact ⟨rfl,rfl⟩
theorem l14One_any (k a:Int) (w:World):Calls Tryz.prog 185 #[.int .i64 k,.int .i64 a] w fun e w' =>
  e=.returned (.agg #[.int .i64 k,.int .i64 a,.int .i64 0,.int .i64 0])∧Below w.heap.size w w'∧w.heap.size≤w'.heap.size:=by
 go_enter Tryz.func185,Tryz.ntmps185
 go_wp2
 exact bodyPost_ret (v:=.agg #[.int .i64 k,.int .i64 a,.int .i64 0,.int .i64 0]) (by simp [results,Tryz.results185,go_sem]) rfl ⟨rfl,Zq0,Zq5⟩
theorem l14Cx_any (a b:Int) (w:World):Calls Tryz.prog 184 #[.int .i64 a,.int .i64 b] w fun e w' =>
  e=.returned (.agg #[.int .i64 9,.int .i64 a,.int .i64 b,.int .i64 0])∧Below w.heap.size w w'∧w.heap.size≤w'.heap.size:=by
 go_enter Tryz.func184,Tryz.ntmps184
 go_wp2
 exact bodyPost_ret (v:=.agg #[.int .i64 9,.int .i64 a,.int .i64 b,.int .i64 0]) (by simp [results,Tryz.results184,go_sem]) rfl ⟨rfl,Zq0,Zq5⟩
theorem one_any (k a:Int) (w:World):Calls Tryz.prog 188 #[.int .i64 k,.int .i64 a] w fun e w' =>
  e=.returned (.agg #[.int .i64 k,.int .i64 a,.int .i64 0,.int .i64 0])∧Below w.heap.size w w'∧w.heap.size≤w'.heap.size:=by
 go_enter Tryz.func188,Tryz.ntmps188
 go_wp2
 exact bodyPost_ret (v:=.agg #[.int .i64 k,.int .i64 a,.int .i64 0,.int .i64 0]) (by simp [results,Tryz.results188,go_sem]) rfl ⟨rfl,Zq0,Zq5⟩
theorem cx_any (a b:Int) (w:World):Calls Tryz.prog 187 #[.int .i64 a,.int .i64 b] w fun e w' =>
  e=.returned (.agg #[.int .i64 9,.int .i64 a,.int .i64 b,.int .i64 0])∧Below w.heap.size w w'∧w.heap.size≤w'.heap.size:=by
 go_enter Tryz.func187,Tryz.ntmps187
 go_wp2
 exact bodyPost_ret (v:=.agg #[.int .i64 9,.int .i64 a,.int .i64 b,.int .i64 0]) (by simp [results,Tryz.results187,go_sem]) rfl ⟨rfl,Zq0,Zq5⟩
def SeenMap (w:World) (r:Nat) (ks:List Int):Prop :=
 ∃ es clk,w.heap[r]?=some (.map es clk)∧es.toList.map (fun e=>(e.key,e.val))=ks.map (fun q=>(Value.int .i64 q,Value.bool true))
theorem findNow_seen (q:Int):∀ (es:List MapEntry) (ks:List Int) (i:Nat),es.map (fun e=>(e.key,e.val))=ks.map (fun q=>(Value.int .i64 q,Value.bool true)) →
  ∃ a,Instr.findNow (.int .i64) (.int .i64 q) es i=some a∧(ks.contains q=true→∃ j,a=some (j,.bool true))∧(ks.contains q=false→a=none):=by
 intro es
 induction es with
 | nil =>
  intro ks i h
  cases ks with
  | nil=>exact ⟨none,rfl,by simp,by simp⟩
  | cons _ _=>simp at h
 | cons x es ih =>
  intro ks i h
  cases ks with
  | nil=>simp at h
  | cons y ks =>
   simp only[List.map_cons,List.cons.injEq,Prod.mk.injEq] at h
   obtain ⟨⟨hk,hv⟩,ht⟩:=h
   by_cases hq:q=y
   ·subst hq
    exact ⟨some (i,.bool true),by simp [Instr.findNow,hk,hv,Instr.sameNow],fun _=>⟨i,rfl⟩,fun h=>by simp at h⟩
   ·obtain ⟨a,h1,h2,h3⟩:=ih ks (i+1) ht
    have hb:(q==y)=false:=by simpa using hq
    refine ⟨a,by simp [Instr.findNow,hk,Instr.sameNow,hb,h1],fun h=>h2 ?_,fun h=>h3 ?_⟩
    ·simpa [List.contains_cons,hb,hq] using h
    ·simpa [List.contains_cons,hb,hq] using h
section
variable {P:Program} {t k e:TypeId} {w:World} {r:Nat} {ks:List Int} {q:Int}
theorem seen_lookup (ht:P.underlying t=some (.map k e)) (hk:P.underlying k=some (.int .i64)) (hz:(zeroValue e).run P w=.ok (.bool false) w) (h:SeenMap w r ks) :
  (Instr.lookup t (.map (some r)) (.int .i64 q) false).run P w=.ok (.bool (ks.contains q)) w:=by
 obtain ⟨es,clk,hb,hes⟩:=h
 obtain ⟨a,h1,h2,h3⟩:=findNow_seen q es.toList ks 0 hes
 have c1:∀ b,(Instr.checkKey b 10000 k (.int .i64 q)).run P w=.ok () w:=fun b=>MapKept.run_checkKey hk (by simp [MapKept.IsKey]) b 9999
 have c2:=MapKept.run_findKey (w:=w) hk h1
 cases hc:ks.contains q
 ·have:=h3 hc
  subst this
  simp [Instr.lookup,run_underlying ht,Sem.run_bind,MapKept.run_getObj_map hb,c1,c2,hz]
 ·obtain ⟨j,rfl⟩:=h2 hc
  simp [Instr.lookup,run_underlying ht,Sem.run_bind,MapKept.run_getObj_map hb,c1,c2]
theorem seen_update (ht:P.underlying t=some (.map k e)) (hk:P.underlying k=some (.int .i64)) (h:SeenMap w r ks) (hq:ks.contains q=false) :
  ∃ w',(Instr.mapUpdate t (.map (some r)) (.int .i64 q) (.bool true)).run P w=.ok () w'∧SeenMap w' r (ks++[q])∧w.grownBy w' (some r):=by
 obtain ⟨es,clk,hb,hes⟩:=h
 obtain ⟨a,h1,_,h3⟩:=findNow_seen q es.toList ks 0 hes
 have:=h3 hq
 subst this
 have c1:∀ b,(Instr.checkKey b 10000 k (.int .i64 q)).run P w=.ok () w:=fun b=>MapKept.run_checkKey hk (by simp [MapKept.IsKey]) b 9999
 have c2:=MapKept.run_findKey (w:=w) hk h1
 have hs:=MapKept.heap_set (o':=.map (es.push { key:=.int .i64 q,val:=.bool true,born:=clk }) (clk+1)) hb
 refine ⟨{ w with heap:=w.heap.setIfInBounds r (.map (es.push { key:=.int .i64 q,val:=.bool true,born:=clk }) (clk+1)) },?_,⟨_,_,hs.1,?_⟩,⟨rfl,rfl,rfl,by simp,fun i _ hi=>hs.2 i (fun e=>hi (by rw[e]))⟩⟩
 ·have c3:=MapKept.run_setObj_map (P:=P) (.map (es.push { key:=.int .i64 q,val:=.bool true,born:=clk }) (clk+1)) hb
  simp [Instr.mapUpdate,run_underlying ht,Sem.run_bind,MapKept.run_getObj_map hb,c1,c2,c3]
 ·simp [hes]
end
end Go.Proofs.YthkbckkghnbonaaGreatDoor
