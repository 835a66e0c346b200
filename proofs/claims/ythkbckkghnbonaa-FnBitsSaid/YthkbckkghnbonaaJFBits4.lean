/- What the calls that this law reaches answer, part 4 of 15. -/
import Derived.Test.YthkbckkghnbonaaJFBits3
import Derived.Test.YthkbckkghnbonaaJFBits2
import Derived.Test.YthkbckkghnbonaaJFBits1
import Derived.Laws.IdiomStrings
set_option maxRecDepth 100000
set_option maxHeartbeats 16000000
set_option linter.unusedVariables false
namespace Go.Proofs.Ythkbckkghnbonaa
open Go.RowKit
set_option linter.unusedVariables false
theorem own_ne_typeG {w:World} {base e size n g:Nat} {v:Value} {xs:List Value} {cs:Array Value} {t:TypeId} (h:w.ownsRow base e size v n xs) (hg:w.heap[g]?=some (.cells cs t (0,0))) (hne:e≠t):v.ownBlock≠some g:=by
 rcases h.2 with ⟨rfl,_⟩|⟨g',cap,cur,rfl,_,hh,_⟩
 ·simp [Value.ownBlock]
 ·intro he
  have e1:g'=g:=by simpa [Value.ownBlock] using he
  subst e1
  rw[hh] at hg
  injection hg with hg
  injection hg with _ ht
  exact hne ht
theorem heap_set_farG {w:World} {g:Nat} {o:Obj} {p:Addr} (h:w.heap[g]?=some o) (hp:g≠p.block) (u:Value):(w.setCell p u).heap[g]?=some o:=(Below.heap_setCell w p u g hp).trans h
theorem heap_set_selfG {w:World} {g i:Nat} {t:TypeId} {cs:Array Value} (h:w.heap[g]?=some (.cells cs t (0,0))) (u:Value):(w.setCell ⟨g,i,none⟩ u).heap[g]?=some (.cells (cs.setIfInBounds i u) t (0,0)):=by
 simp [World.setCell,Array.getElem?_modify,h]
theorem own_setfarG {w:World} {base e size n:Nat} {v:Value} {xs:List Value} (h:w.ownsRow base e size v n xs) {p:Addr} (hp:v.ownBlock≠some p.block) (u:Value):(w.setCell p u).ownsRow base e size v n xs:=by
 refine ⟨h.1,?_⟩
 rcases h.2 with hn|⟨g,cap,cur,rfl,hb,hh,rest⟩
 ·exact .inl hn
 ·exact .inr ⟨g,cap,cur,rfl,hb,heap_set_farG hh (fun e=>hp (by simp [Value.ownBlock,e])) u,rest⟩
theorem own_drewG {w:World} {base e size n:Nat} {v:Value} {xs:List Value} (h:w.ownsRow base e size v n xs):w.drew.ownsRow base e size v n xs:=h
theorem own_drawG {w1 w2:World} {B e size n p:Nat} {v:Value} {xs:List Value} (h:w1.ownsRow B e size v n xs) (hg:w1.grownBy w2 (some p)) (hp:p<B):w2.ownsRow B e size v n xs:=h.kept hg (by
 cases hk:v.ownBlock with
 | none=>exact .inl rfl
 | some k =>
  refine .inr fun e=>?_
  injection e with e
  have:=(h.lt k hk).1
  omega)
theorem cells5G {w w':World} {b:Nat} {x0 x1 x2 x3 x4:Value} {t:TypeId} (lay:Below w'.heap.size w' w) (h:w'.heap[b]?=some (.cells #[x0,x1,x2,x3,x4] t (0,0))) :
  w.cell? ⟨b,0,none⟩=some x0∧w.cell? ⟨b,1,none⟩=some x1∧w.cell? ⟨b,2,none⟩=some x2∧w.cell? ⟨b,3,none⟩=some x3∧w.cell? ⟨b,4,none⟩=some x4:=by
 have h':w.heap[b]?=some (.cells #[x0,x1,x2,x3,x4] t (0,0)):=(lay.block b (lt_of_block h)).trans h
 exact ⟨by simp [World.cell?,h'],by simp [World.cell?,h'],by simp [World.cell?,h'],by simp [World.cell?,h'],by simp [World.cell?,h']⟩
theorem one_strG (a:ByteArray):∀ u∈[Value.string a],u.oneCell'=true:=by
 intro u hu
 rw[List.mem_singleton.1 hu]
 rfl
theorem strs_snocG (l:List ByteArray) (a:ByteArray):strs (l++[a])=strs l++[.string a]:=by simp [strs]
theorem strs_oneG:∀ l:List ByteArray,∀ u∈strs l,u.oneCell'=true:=by
 intro l u hu
 obtain ⟨s,_,rfl⟩:=List.mem_map.1 hu
 rfl
theorem RdQ.set_ {w:World} {P:Nat→Prop} {size n:Nat} {A:Option Addr} {xs:List Value} (h:RdQ w P size A n xs) {p:Addr} (hp:¬ P p.block) (u:Value):RdQ (w.setCell p u) P size A n xs :=
 h.keep (fun b hb _=>Below.heap_setCell w p u b (fun e=>hp (e▸hb))) (by simp [World.setCell])
theorem RdQ.below {w w':World} {P:Nat→Prop} {size n:Nat} {A:Option Addr} {xs:List Value} (h:RdQ w P size A n xs) (hb:Below w.heap.size w w'):RdQ w' P size A n xs :=
 h.keep (fun b _ hlt=>hb.block b hlt) hb.size
theorem RdQ.call {w w':World} {P:Nat→Prop} {size n p:Nat} {A:Option Addr} {xs:List Value} (h:RdQ w P size A n xs) (hg:w.grownBy w' (some p)) (hp:¬ P p):RdQ w' P size A n xs :=
 h.keep (fun b hb hlt=>hg.block b hlt (fun e=>by injection e with e;exact hp (e▸hb))) hg.size
theorem TrQ.below {w w':World} {P:Nat→Prop} {d n:Nat} {A:Option Addr} {l:List (Tr d)} (h:TrQ w P d A n l) (hb:Below w.heap.size w w'):TrQ w' P d A n l :=
 h.keep (fun b _ hlt=>hb.block b hlt) hb.size
theorem TrQ.call {w w':World} {P:Nat→Prop} {d n p:Nat} {A:Option Addr} {l:List (Tr d)} (h:TrQ w P d A n l) (hg:w.grownBy w' (some p)) (hp:¬ P p):TrQ w' P d A n l :=
 h.keep (fun b hb hlt=>hg.block b hlt (fun e=>by injection e with e;exact hp (e▸hb))) hg.size
theorem trQ_nil {w:World} {P:Nat→Prop} {A:Option Addr}:∀ d:Nat,TrQ w P d A 0 []
 | 0=>⟨rfl,rfl⟩
 | _+1=>⟨rfl,fun h=>absurd h Zq1⟩
theorem rd_drawG {w w':World} {p size n:Nat} {A:Option Addr} {xs:List Value} (h:Rd w size A n xs) (hg:w.grownBy w' (some p)) (hne:∀ ad,A=some ad→ad.block≠p):Rd w' size A n xs:=grown_rd h hg (fun _=>hne)
theorem heap_pastG {w:World} {o ob:Obj} {n:Nat} (hn:n<w.heap.size) (h:w.heap[n]?=some ob):(w.alloc o).heap[n]?=some ob:=(Below.heap_alloc _ _ _ hn).trans h
theorem rdQ_topG {w:World} {cs:Array Value} {e n size b:Nat} {P:Nat→Prop} (h0:b=w.heap.size) (hs:cs.size=n*size) (hP:P b):RdQ (w.alloc (.cells cs e)) P size (some ⟨b,0,none⟩) n cs.toList:=by
 have r:=rd_lit1 (e:=e) h0 hs
 refine ⟨r.1,fun h=>?_⟩
 obtain ⟨b',off,e,hb,hc⟩:=r.2 h
 injection e with e
 injection e with e1 e2
 subst e1 e2
 exact ⟨b,0,rfl,hP,hb,hc⟩
theorem wp_name {P:Program} {c:Code} {Q:Exit→Act→World→Prop} {a:Act} {w:World} (h:∀ wz,wz=w→Code.wp P c Q a wz):Code.wp P c Q a w:=h w rfl
theorem heap_set5 {w:World} {b:Nat} {t:TypeId} {z0 z1 z2 z3 z4 v0 v1 v2 v3 v4:Value} (h:w.heap[b]?=some (.cells #[z0,z1,z2,z3,z4] t (0,0))) :
  (((((w.setCell ⟨b,0,none⟩ v0).setCell ⟨b,1,none⟩ v1).setCell ⟨b,2,none⟩ v2).setCell ⟨b,3,none⟩ v3).setCell ⟨b,4,none⟩ v4).heap[b]?=some (.cells #[v0,v1,v2,v3,v4] t (0,0)) :=
 heap_set_selfG (heap_set_selfG (heap_set_selfG (heap_set_selfG (heap_set_selfG h v0) v1) v2) v3) v4
theorem szS_le (m:Nat):∀ l:List ByteArray,(∀ s∈l,s.size≤m)→szS l≤l.length*m:=by
 intro l
 induction l with
 | nil=>intro _;exact Nat.zero_le _
 | cons s l ih =>
  intro h
  have h1:=h s Zq5
  have h2:=ih (fun x hx=>h x (by simp [hx]))
  rw[szS,List.length_cons,Nat.add_mul,Nat.one_mul]
  omega
theorem gname_size (k:Nat) (h:k≤12):(⟨(gname k).toArray⟩:ByteArray).size≤4:=by
 have hk:k=0∨k=1∨k=2∨k=3∨k=4∨k=5∨k=6∨k=7∨k=8∨k=9∨k=10∨k=11∨k=12:=by omega
 rcases hk with rfl|rfl|rfl|rfl|rfl|rfl|rfl|rfl|rfl|rfl|rfl|rfl|rfl <;> decide
structure Names (w:World) (p:Nat) (A:Option Addr) (m:Nat) (N:List ByteArray):Prop where
 rd:Rd w 1 A m (strs N)
 len:N.length=m
 lo:1≤m
 hi:m≤4
 small:∀ s∈N,s.size≤9
 ne:∀ ad,A=some ad→ad.block≠p
theorem Names.below {w w':World} {p m:Nat} {A:Option Addr} {N:List ByteArray} (h:Names w p A m N) (hb:Below w.heap.size w w'):Names w' p A m N:=⟨h.rd.below hb,h.len,h.lo,h.hi,h.small,h.ne⟩
theorem Names.call {w w':World} {p m:Nat} {A:Option Addr} {N:List ByteArray} (h:Names w p A m N) (hg:w.grownBy w' (some p)):Names w' p A m N:=⟨rd_drawG h.rd hg h.ne,h.len,h.lo,h.hi,h.small,h.ne⟩
theorem Names.fr {w w':World} {p m:Nat} {A:Option Addr} {N:List ByteArray} (h:Names w p A m N) (hf:Fr w p w'):Names w' p A m N:=h.call hf.gr
theorem Names.at_ {w:World} {p m t:Nat} {A:Option Addr} {N:List ByteArray} (h:Names w p A m N) (ht:t<m):∃ b off s,A=some ⟨b,off,none⟩∧b<w.heap.size∧w.cell? ⟨b,off+t,none⟩=some (.string s)∧s∈N∧s.size≤9:=by
 obtain ⟨s,hs⟩:∃ s,N[t]?=some s:=⟨_,List.getElem?_eq_getElem (by rw[h.len];exact ht)⟩
 obtain ⟨b,off,e,hb,hc⟩:=h.rd.2 Zq1
 have hm:=List.mem_of_getElem? hs
 exact ⟨b,off,s,e,hb,hc t _ (strs_at hs),hm,h.small s hm⟩
def DGt (w:World) (p:Nat) (e:Ending) (w':World):Prop:=∃ (word:ByteArray) (args:List ByteArray) (Aa:Option Addr) (ca:Nat),e=.returned (.agg #[.int .i64 1,.string word,.slice Aa args.length ca,.int .i64 0,.slice none 0 0]) ∧
 RdQ w' (w.heap.size≤·) 1 Aa args.length (strs args)∧(args.length≤ca∧word.size≤4∧args.length≤3∧szS args≤27)∧CurAt w' p∧w.grownBy w' (some p)
theorem below_drewE {B:Nat} {w w':World} (h:Below B w w'):Below B w w'.drew:=⟨h.os,h.tape,h.output,h.size,h.block⟩
theorem belE {w w1 w2:World} (f:Below w.heap.size w w1) (h:Below w1.heap.size w1 w2):Below w.heap.size w w2:=f.trans (h.mono f.size)
theorem below_allocE {w:World} {o:Obj}:Below w.heap.size w (w.alloc o):=(Below.refl _ _).alloc (Nat.le_refl _) _
theorem below_heapE {w w':World} {g n:Nat} {o:Obj} (f:w.heap[g]?=some o∧n≤g) (st:Below w.heap.size w w'):w'.heap[g]?=some o∧n≤g:=⟨(st.block _ (lt_of_block f.1)).trans f.1,f.2⟩
theorem cells4E {w:World} {b:Nat} {x0 x1 x2 x3:Value} {t:TypeId} (h:w.heap[b]?=some (.cells #[x0,x1,x2,x3] t (0,0))):w.cell? ⟨b,0,none⟩=some x0∧w.cell? ⟨b,1,none⟩=some x1∧w.cell? ⟨b,2,none⟩=some x2∧w.cell? ⟨b,3,none⟩=some x3:=⟨cell_at h rfl,cell_at h rfl,cell_at h rfl,cell_at h rfl⟩
theorem heap_set4E {w:World} {b:Nat} {t:TypeId} {z0 z1 z2 z3 v0 v1 v2 v3:Value} (h:w.heap[b]?=some (.cells #[z0,z1,z2,z3] t (0,0))) :
  ((((w.setCell ⟨b,0,none⟩ v0).setCell ⟨b,1,none⟩ v1).setCell ⟨b,2,none⟩ v2).setCell ⟨b,3,none⟩ v3).heap[b]?=some (.cells #[v0,v1,v2,v3] t (0,0)) :=
 heap_set_selfG (heap_set_selfG (heap_set_selfG (heap_set_selfG h v0) v1) v2) v3
theorem setBelow4 {w:World} {b B:Nat} {v0 v1 v2 v3:Value} (h:B≤b):Below B w ((((w.setCell ⟨b,0,none⟩ v0).setCell ⟨b,1,none⟩ v1).setCell ⟨b,2,none⟩ v2).setCell ⟨b,3,none⟩ v3) :=
 ((((Below.refl B w).setCell h _).setCell h _).setCell h _).setCell h _
theorem below_set4E {w w':World} {b:Nat} {v0 v1 v2 v3:Value} (f:Below w.heap.size w w') (h:w.heap.size≤b):Below w.heap.size w ((((w'.setCell ⟨b,0,none⟩ v0).setCell ⟨b,1,none⟩ v1).setCell ⟨b,2,none⟩ v2).setCell ⟨b,3,none⟩ v3) :=
 f.trans (setBelow4 h)
theorem Zq3 {p:Prop} (h:p:=by kernel_rfl):p:=h
theorem l22Gate_any (h:SH) (Aa:Option Addr) (ca:Nat) (Ab:Option Addr) (nb cb:Nat) (names:List ByteArray) (An:Option Addr) (nn cn:Nat) (w:World) (ra:Rd w 1 Aa h.args.length (strs h.args)) (rn:Rd w 1 An nn (strs names)) (hn:names.length=nn) (hnn:nn≤1048576) (h1:1≤h.args.length) (h3:h.args.length≤3) :
  Calls Try.prog 46 #[.agg #[.int .i64 h.k,.string h.word,.slice Aa h.args.length ca,.int .i64 h.count,.slice Ab nb cb],.slice An nn cn] w fun e w' =>
   e=.returned (.agg #[.int .i64 (gat (fS names) h).k,.int .i64 (gat (fS names) h).a,.int .i64 (gat (fS names) h).b,.int .i64 (gat (fS names) h).c])∧Below w.heap.size w w':=by
 obtain ⟨m,hm⟩:∃ m,h.args.length=m:=⟨_,rfl⟩
 obtain ⟨b,off,rfl,hbw,hc⟩:=ra.2 Zq1
 have ha0:=arg0_of (h:=h) Zq1
 obtain ⟨a0,hA0⟩:∃ a0,a0=arg0 h:=⟨_,rfl⟩
 rw[←hA0] at ha0
 obtain ⟨x0,hx0⟩:∃ x0,x0=fS names a0:=⟨_,rfl⟩
 rw[hm] at h1 h3 ⊢
 obtain ⟨X,hX⟩:∃ X,X=w.heap.size:=⟨_,rfl⟩
 obtain ⟨w0,hw0⟩:∃ w0,w0=(w.alloc (.cells #[.int .i64 h.k,.string h.word,.slice (some ⟨b,off,none⟩) m ca,.int .i64 h.count,.slice Ab nb cb] 42)).alloc (.cells #[.int .i64 0,.int .i64 0,.int .i64 0,.int .i64 0] 58):=⟨_,rfl⟩
 have B0:=hD (show Below w.heap.size w w0 by rw[hw0];exact Zq0)
 have X0:=hD (show w0.heap[X]?=some (.cells #[.int .i64 h.k,.string h.word,.slice (some ⟨b,off,none⟩) m ca,.int .i64 h.count,.slice Ab nb cb] 42 (0,0)) by rw[hw0,hX];exact boxed2_0 _ _ _)
 have Y0:=hD (show w0.heap[X+1]?=some (.cells #[.int .i64 0,.int .i64 0,.int .i64 0,.int .i64 0] 58 (0,0)) by rw[hw0,hX];exact boxed2_1 _ _ _)
 have hX0:=lt_of_block X0.out
 have hY0:=lt_of_block Y0.out
 have hb0:b<w0.heap.size:=Nat.lt_of_lt_of_le hbw B0.out.size
 have HC:=hD (fun j u (h:(strs h.args)[j]?=some u)=>(B0.out.cell (p:=⟨b,off+j,none⟩) hbw).trans (hc j u h))
 have c0:w0.cell? ⟨b,off,none⟩=some (.string a0):=HC.out 0 _ (by unfold strs;rw[List.getElem?_map,ha0];rfl)
 have RN:=hD (rn.below B0.out)
 have HNN:=hD hn
 have HM:=hD hm
 have HX0:=hD hx0
 have HA0:=hD hA0
 have HW0:=hD hw0
 have HX:=hD hX
 have hXw:w.heap.size≤X:=by omega
 have hbX:b<X:=by omega
 clear hm hn ra rn hc ha0 hA0 hx0 hw0 hX
 obtain ⟨_,k1,k2,_,_⟩:=cells5G (lay:=Below.refl _ _) X0.out
 go_enter Try.func46,Try.ntmps46
 go_upto_region 1 with (fail)
 rw[←HW0.out,←HX.out]
 obtain ⟨J0,hJ0⟩:∃ J:Array Value→Array Bool→Act→World→Prop,J=(fun A0 Lz a W=>∃ (g0:Nat),∃ x6 x7 x8 x9 x10 x11 x12 x13 x14 x15 x5:Value,a=⟨(((((((((((A0.setIfInBounds 6 x6).setIfInBounds 7 x7).setIfInBounds 8 x8).setIfInBounds 9 x9).setIfInBounds 10 x10).setIfInBounds 11 x11).setIfInBounds 12 x12).setIfInBounds 13 x13).setIfInBounds 14 x14).setIfInBounds 15 x15).setIfInBounds 5 x5),[]⟩∧(Ls Lz 0→x6=.pointer (some ⟨X,1,none⟩))∧(Ls Lz 1→x7=.string h.word)∧(Ls Lz 2→x8=.int .i64 (gkind h.word))∧(Ls Lz 3→x9=.slice An nn cn)∧(Ls Lz 4→x10=.pointer (some ⟨X,2,none⟩))∧(Ls Lz 5→x11=.slice (some ⟨b,off,none⟩) m ca)∧(Ls Lz 6→x12=.pointer (some ⟨b,off,none⟩))∧(Ls Lz 7→x13=.string a0)∧(Ls Lz 8→x14=.int .i64 x0)∧(Ls Lz 9→x15=.agg #[.int .i64 (gkind h.word),.int .i64 x0,.int .i64 0,.int .i64 0])∧(Ls Lz 10→x5=.pointer (some ⟨g0,0,none⟩))∧(Ls Lz 11→(x5=.pointer (some ⟨g0,0,none⟩)∧W.heap[g0]?=some (.cells #[.int .i64 (gkind h.word),.int .i64 x0,.int .i64 0,.int .i64 0] 58 (0,0))∧w0.heap.size≤g0∧Below w0.heap.size w0 W))∧(Ls Lz 10→¬ Ls Lz 11→(W.heap[g0]?=some (.cells #[.int .i64 0,.int .i64 0,.int .i64 0,.int .i64 0] 58 (0,0))∧w0.heap.size≤g0))∧(¬ Ls Lz 11→Below w0.heap.size w0 W)∧(Ls Lz 11→¬ Ls Lz 11→True)):=⟨_,rfl⟩
 have HJ0:=hD hJ0
 clear hJ0
 refine wp_region_inv2 Zq3 J0 ?_ ?_ ?_
 ·intro A0
  rw[HJ0.out]
  exact ⟨0,A0.getD 6 undef,A0.getD 7 undef,A0.getD 8 undef,A0.getD 9 undef,A0.getD 10 undef,A0.getD 11 undef,A0.getD 12 undef,A0.getD 13 undef,A0.getD 14 undef,A0.getD 15 undef,A0.getD 5 undef,by simp only[set_self],zn,zn,zn,zn,zn,zn,zn,zn,zn,zn,zn,zn,zn,fun _=>below_drewE (Below.refl _ _),zn⟩
 ·intro Lz a W hsize hcl hJ i hi
  have hil:=ready_lt hi
  have hnl:=ready_not hi
  have hnow:=ready_now hi hsize
  have HCL:=hD hcl
  rw[HJ0.out] at hJ
  obtain ⟨g0,x6,x7,x8,x9,x10,x11,x12,x13,x14,x15,x5,rfl,HF⟩:=hJ
  have HH:=hD HF
  have hi2:i=0∨i=1∨i=2∨i=3∨i=4∨i=5∨i=6∨i=7∨i=8∨i=9∨i=10∨i=11:=by simp at hil;omega
  clear hil hcl HF
  rcases hi2 with rfl|rfl|rfl|rfl|rfl|rfl|rfl|rfl|rfl|rfl|rfl|rfl
  ·clear hi HCL
   simp only[zA,zB,zC]
   refine wpOp_one rfl rfl fun K hK=>?_
   go_wp2_with fail
   rw[HJ0.out]
   exact ⟨g0,.pointer (some ⟨X,1,none⟩),x7,x8,x9,x10,x11,x12,x13,x14,x15,x5,(by simp only[zA,zB,zC]),zT HH⟩
  ·have hns:¬ Ls Lz 11:=fun h=>hnl (dq HCL (dq HCL (dq HCL h 9) 2) 1)
   have D0:=(pj0 HH.out) (rq hi 0)
   have V0:=(pj13 HH.out) hns
   clear hi HCL
   simp only[zA,zB,zC,D0]
   have k0:=(V0.cell (p:=⟨X,1,none⟩) hX0).trans k1
   refine wpOp_one rfl rfl fun K hK=>?_
   go_wp2_with fail
   rw[HJ0.out]
   exact ⟨g0,x6,.string h.word,x8,x9,x10,x11,x12,x13,x14,x15,x5,(by simp only[zA,zB,zC,D0]),zT HH⟩
  ·have hns:¬ Ls Lz 11:=fun h=>hnl (dq HCL (dq HCL h 9) 2)
   have D1:=(pj1 HH.out) (rq hi 1)
   have V0:=(pj13 HH.out) hns
   clear hi HCL
   simp only[zA,zB,zC,D1]
   refine wpOp_one rfl rfl fun K hK=>?_
   go_wp2_with fail
   refine(GateKind_spec h.word W).mono ?_
   rintro e y ⟨rfl,hb,hs⟩
   go_wp2_with fail
   rw[HJ0.out]
   exact ⟨g0,x6,x7,.int .i64 (gkind h.word),x9,x10,x11,x12,x13,x14,x15,x5,(by simp only[zA,zB,zC,D1]),zk HH,zk HH,fun _=>rfl,zk HH,zk HH,zk HH,zk HH,zk HH,zk HH,zk HH,zk HH,Ba hns,(Bt (pj12 HH.out) fun x=>below_heapE x hb),fun h=>belE ((pj13 HH.out) (fun h2=>h h2.fwd)) hb,Bb hns⟩
  ·clear hi HCL
   simp only[zA,zB,zC]
   refine wpOp_one rfl rfl fun K hK=>?_
   go_wp2_with fail
   rw[HJ0.out]
   exact ⟨g0,x6,x7,x8,.slice An nn cn,x10,x11,x12,x13,x14,x15,x5,(by simp only[zA,zB,zC]),zT HH⟩
  ·clear hi HCL
   simp only[zA,zB,zC]
   refine wpOp_one rfl rfl fun K hK=>?_
   go_wp2_with fail
   rw[HJ0.out]
   exact ⟨g0,x6,x7,x8,x9,.pointer (some ⟨X,2,none⟩),x11,x12,x13,x14,x15,x5,(by simp only[zA,zB,zC]),zT HH⟩
  ·have hns:¬ Ls Lz 11:=fun h=>hnl (dq HCL (dq HCL (dq HCL (dq HCL (dq HCL h 9) 8) 7) 6) 5)
   have D4:=(pj4 HH.out) (rq hi 4)
   have V0:=(pj13 HH.out) hns
   clear hi HCL
   simp only[zA,zB,zC,D4]
   have k0:=(V0.cell (p:=⟨X,2,none⟩) hX0).trans k2
   refine wpOp_one rfl rfl fun K hK=>?_
   go_wp2_with fail
   rw[HJ0.out]
   exact ⟨g0,x6,x7,x8,x9,x10,.slice (some ⟨b,off,none⟩) m ca,x12,x13,x14,x15,x5,(by simp only[zA,zB,zC,D4]),zT HH⟩
  ·have D5:=(pj5 HH.out) (rq hi 5)
   clear hi HCL
   simp only[zA,zB,zC,D5]
   refine wpOp_one rfl rfl fun K hK=>?_
   go_wp2_with fail
   rw[HJ0.out]
   exact ⟨g0,x6,x7,x8,x9,x10,x11,.pointer (some ⟨b,off,none⟩),x13,x14,x15,x5,(by simp only[zA,zB,zC,D5]),zT HH⟩
  ·have hns:¬ Ls Lz 11:=fun h=>hnl (dq HCL (dq HCL (dq HCL h 9) 8) 7)
   have D6:=(pj6 HH.out) (rq hi 6)
   have V0:=(pj13 HH.out) hns
   clear hi HCL
   simp only[zA,zB,zC,D6]
   have q:=(V0.cell (p:=⟨b,off,none⟩) hb0).trans c0
   refine wpOp_one rfl rfl fun K hK=>?_
   go_wp2_with fail
   rw[HJ0.out]
   exact ⟨g0,x6,x7,x8,x9,x10,x11,x12,.string a0,x14,x15,x5,(by simp only[zA,zB,zC,D6]),zT HH⟩
  ·have hns:¬ Ls Lz 11:=fun h=>hnl (dq HCL (dq HCL h 9) 8)
   have D3:=(pj3 HH.out) (rq hi 3)
   have D7:=(pj7 HH.out) (rq hi 7)
   have V0:=(pj13 HH.out) hns
   clear hi HCL
   simp only[zA,zB,zC,D3,D7]
   refine wpOp_one rfl rfl fun K hK=>?_
   go_wp2_with fail
   refine(l22At_any An nn cn names a0 W (RN.out.below V0) HNN.out Zq1).mono ?_
   rintro e y ⟨rfl,rfl⟩
   rw[←HX0.out]
   go_wp2_with fail
   rw[HJ0.out]
   exact ⟨g0,x6,x7,x8,x9,x10,x11,x12,x13,.int .i64 x0,x15,x5,(by simp only[zA,zB,zC,D3,D7]),zT HH⟩
  ·have D2:=(pj2 HH.out) (rq hi 2)
   have D8:=(pj8 HH.out) (rq hi 8)
   clear hi HCL
   simp only[zA,zB,zC,D2,D8]
   refine wpOp_one rfl rfl fun K hK=>?_
   go_wp2_with fail
   rw[HJ0.out]
   exact ⟨g0,x6,x7,x8,x9,x10,x11,x12,x13,x14,.agg #[.int .i64 (gkind h.word),.int .i64 x0,.int .i64 0,.int .i64 0],x5,(by simp only[zA,zB,zC,D2,D8]),zT HH⟩
  ·have hns:¬ Ls Lz 11:=fun h=>hnl (dq HCL h 10)
   have V0:=(pj13 HH.out) hns
   clear hi HCL
   simp only[zA,zB,zC]
   refine wpOp_one rfl rfl fun K hK=>?_
   go_wp2_with fail
   rw[HJ0.out]
   exact ⟨W.heap.size,x6,x7,x8,x9,x10,x11,x12,x13,x14,x15,.pointer (some ⟨W.heap.size,0,none⟩),(by simp only[zA,zB,zC]),zk HH,zk HH,zk HH,zk HH,zk HH,zk HH,zk HH,zk HH,zk HH,zk HH,fun _=>rfl,Ba hns,fun _ _=>⟨heap_alloc_new W _,V0.size⟩,fun h=>belE ((pj13 HH.out) (fun h2=>h h2.fwd)) below_allocE,Bb hns⟩
  ·have hns:¬ Ls Lz 11:=hnl
   have D9:=(pj9 HH.out) (rq hi 9)
   have D10:=(pj10 HH.out) (rq hi 10)
   have E10:=(pj12 HH.out) (rq hi 10) hns
   have V0:=(pj13 HH.out) hns
   clear hi HCL
   simp only[zA,zB,zC,D9,D10]
   have z0:=cell_at (j:=0) E10.1 rfl
   have z1:=cell_at (j:=1) E10.1 rfl
   have z2:=cell_at (j:=2) E10.1 rfl
   have z3:=cell_at (j:=3) E10.1 rfl
   have f0:=free_at (j:=0) E10.1
   have f1:=free_at (j:=1) E10.1
   have f2:=free_at (j:=2) E10.1
   have f3:=free_at (j:=3) E10.1
   have lg:=lt_of_block E10.1
   have HE:=hD E10
   clear E10
   refine wpOp_one rfl rfl fun K hK=>?_
   go_wp2_with fail
   rw[HJ0.out]
   exact ⟨g0,x6,x7,x8,x9,x10,x11,x12,x13,x14,x15,x5,(by first|(simp only[zA,zB,zC,D9,D10] <;> fail)|simp only[Act.put,zA,zB,zC,D9,D10]),zk HH,zk HH,zk HH,zk HH,zk HH,zk HH,zk HH,zk HH,zk HH,zk HH,zk HH,fun _=>⟨D10,heap_set4E HE.out.1,HE.out.2,below_set4E V0 HE.out.2⟩,zx hnow,zy hnow,zx hnow⟩
 ·intro Lz a W hsize hJ hr
  rw[HJ0.out] at hJ
  have hall:=all_listed hsize Zq3 hr
  obtain ⟨g0,x6,x7,x8,x9,x10,x11,x12,x13,x14,x15,x5,rfl,HF⟩:=hJ
  have HH:=hD HF
  have HEND:=(pj11 HH.out) (hall 11 Zq4)
  clear HF HH hall hr hsize
  simp only[zA,zB,zC]
  obtain ⟨rfl,hg,hg0,hbF⟩:=HEND
  obtain ⟨w1,rfl⟩:∃ w1:World,w1=W:=⟨_,rfl⟩
  have hs1:=hbF.size
  have hgn:g0≠X∧g0≠X+1∧g0≠b:=by omega
  have BB:=hD hbF
  have GG:=hD hg
  have XX:=hD ((hbF.block X Zq1).trans X0.out)
  have YY:=hD ((hbF.block (X+1) Zq1).trans Y0.out)
  have CC:=hD (fun j u (h:(strs h.args)[j]?=some u)=>(hbF.cell (p:=⟨b,off+j,none⟩) hb0).trans (HC.out j u h))
  have RN1:=hD (RN.out.below hbF)
  clear hg hbF
  have cells:∀ (W:World) (b0 c0:Int),W.heap[g0]?=some (.cells #[.int .i64 (gkind h.word),.int .i64 x0,.int .i64 b0,.int .i64 c0] 58 (0,0))→W.cell? ⟨g0,0,none⟩=some (.int .i64 (gkind h.word))∧W.cell? ⟨g0,1,none⟩=some (.int .i64 x0)∧W.cell? ⟨g0,2,none⟩=some (.int .i64 b0)∧W.cell? ⟨g0,3,none⟩=some (.int .i64 c0):=fun W b0 c0 h=>⟨cell_at h rfl,cell_at h rfl,cell_at h rfl,cell_at h rfl⟩
  have BBw1:=BB
  have GGw1:=GG
  have XXw1:=XX
  have YYw1:=YY
  have CCw1:=CC
  have RNw1:=RN1
  clear BB GG XX YY CC RN1
  have hm3:m=1∨m=2∨m=3:=by omega
  rcases hm3 with rfl|rfl|rfl
  ·have HG:Hid (gat (fS names) h=⟨gkind h.word,x0,0,0⟩):=by
    show _=_
    unfold gat
    rw[HM.out,HX0.out,HA0.out]
    rfl
   obtain ⟨p0,p1,p2,p3,p4⟩:=cells5G (lay:=Below.refl _ _) XXw1.out
   obtain ⟨g1,g2,g3,g4⟩:=cells w1 _ _ GGw1.out
   obtain ⟨r0,r1,r2,r3⟩:=cells4E YYw1.out
   have f0:=free_at (j:=0) YYw1.out
   have f1:=free_at (j:=1) YYw1.out
   have f2:=free_at (j:=2) YYw1.out
   have f3:=free_at (j:=3) YYw1.out
   have lX:=lt_of_block XXw1.out
   have lY:=lt_of_block YYw1.out
   have lG:=lt_of_block GGw1.out
   clear cells
   go_wp2_with fail
   refine bodyPost_ret (v:=.agg #[.int .i64 (gkind h.word),.int .i64 x0,.int .i64 0,.int .i64 0]) (by simp [results,Try.results46,go_sem,r0,r1,r2,r3]) rfl ⟨by rw[HG.out],?_⟩
   exact(B0.out.trans (BBw1.out.mono Zq1)).trans (setBelow4 Zq1)
  ·obtain ⟨a1,ha1⟩:∃ a,h.args[1]?=some a:=⟨_,List.getElem?_eq_getElem (by have:=HM.out;omega)⟩
   have HG1:=hD ha1
   obtain ⟨x1,hx1⟩:∃ x,x=fS names a1:=⟨_,rfl⟩
   have HX1:=hD hx1
   clear ha1 hx1
   have HB1:Hid (arg1 h=a1):=by
    show _=_
    unfold arg1
    rw[List.getD_eq_getElem?_getD,HG1.out]
    rfl
   have HG:Hid (gat (fS names) h=⟨gkind h.word,x0,x1,0⟩):=by
    show _=_
    unfold gat
    rw[HM.out,HX0.out,HA0.out,HB1.out,HX1.out]
    rfl
   obtain ⟨p0,p1,p2,p3,p4⟩:=cells5G (lay:=Below.refl _ _) XXw1.out
   obtain ⟨g1,g2,g3,g4⟩:=cells w1 _ _ GGw1.out
   have f2:=free_at (j:=2) GGw1.out
   have lX:=lt_of_block XXw1.out
   have lG:=lt_of_block GGw1.out
   have cj:w1.cell? ⟨b,off+1,none⟩=some (.string a1):=CCw1.out 1 _ (by unfold strs;rw[List.getElem?_map,HG1.out];rfl)
   go_upto_region 4 with (go_at_call 50;refine(l22At_any An nn cn names a1 w1 RNw1.out HNN.out Zq1).mono ?_;rintro e y ⟨rfl,rfl⟩;rw[←HX1.out])
   refine wp_name (fun w2 hwn=>?_)
   have GGw2:=hD (show w2.heap[g0]?=some (.cells #[.int .i64 (gkind h.word),.int .i64 x0,.int .i64 x1,.int .i64 0] 58 (0,0)) by rw[hwn];exact heap_set_selfG GGw1.out _)
   have bn:Below w0.heap.size w1 w2:=by rw[hwn];exact(Below.refl _ _).setCell hg0 _
   have BBw2:=hD (BBw1.out.trans bn)
   have XXw2:=hD ((BBw2.out.block X Zq1).trans X0.out)
   have YYw2:=hD ((BBw2.out.block (X+1) Zq1).trans Y0.out)
   have CCw2:=hD (fun j u (h:(strs h.args)[j]?=some u)=>(BBw2.out.cell (p:=⟨b,off+j,none⟩) hb0).trans (HC.out j u h))
   have RNw2:=hD (RN.out.below BBw2.out)
   clear hwn bn p0 p1 p2 p3 p4 g1 g2 g3 g4 f2 lX lG cj
   obtain ⟨p0,p1,p2,p3,p4⟩:=cells5G (lay:=Below.refl _ _) XXw2.out
   obtain ⟨g1,g2,g3,g4⟩:=cells w2 _ _ GGw2.out
   obtain ⟨r0,r1,r2,r3⟩:=cells4E YYw2.out
   have f0:=free_at (j:=0) YYw2.out
   have f1:=free_at (j:=1) YYw2.out
   have f2:=free_at (j:=2) YYw2.out
   have f3:=free_at (j:=3) YYw2.out
   have lX:=lt_of_block XXw2.out
   have lY:=lt_of_block YYw2.out
   have lG:=lt_of_block GGw2.out
   clear cells
   go_wp2_with fail
   refine bodyPost_ret (v:=.agg #[.int .i64 (gkind h.word),.int .i64 x0,.int .i64 x1,.int .i64 0]) (by simp [results,Try.results46,go_sem,r0,r1,r2,r3]) rfl ⟨by rw[HG.out],?_⟩
   exact(B0.out.trans (BBw2.out.mono Zq1)).trans (setBelow4 Zq1)
  ·obtain ⟨a1,ha1⟩:∃ a,h.args[1]?=some a:=⟨_,List.getElem?_eq_getElem (by have:=HM.out;omega)⟩
   have HG1:=hD ha1
   obtain ⟨x1,hx1⟩:∃ x,x=fS names a1:=⟨_,rfl⟩
   have HX1:=hD hx1
   clear ha1 hx1
   obtain ⟨a2,ha2⟩:∃ a,h.args[2]?=some a:=⟨_,List.getElem?_eq_getElem (by have:=HM.out;omega)⟩
   have HG2:=hD ha2
   obtain ⟨x2,hx2⟩:∃ x,x=fS names a2:=⟨_,rfl⟩
   have HX2:=hD hx2
   clear ha2 hx2
   have HB1:Hid (arg1 h=a1):=by
    show _=_
    unfold arg1
    rw[List.getD_eq_getElem?_getD,HG1.out]
    rfl
   have HB2:Hid (h.args.getD 2 ⟨#[]⟩=a2):=by
    show _=_
    rw[List.getD_eq_getElem?_getD,HG2.out]
    rfl
   have HG:Hid (gat (fS names) h=⟨gkind h.word,x0,x1,x2⟩):=by
    show _=_
    unfold gat
    rw[HM.out,HX0.out,HA0.out,HB1.out,HX1.out,HB2.out,HX2.out]
    rfl
   obtain ⟨p0,p1,p2,p3,p4⟩:=cells5G (lay:=Below.refl _ _) XXw1.out
   obtain ⟨g1,g2,g3,g4⟩:=cells w1 _ _ GGw1.out
   have f2:=free_at (j:=2) GGw1.out
   have lX:=lt_of_block XXw1.out
   have lG:=lt_of_block GGw1.out
   have cj:w1.cell? ⟨b,off+1,none⟩=some (.string a1):=CCw1.out 1 _ (by unfold strs;rw[List.getElem?_map,HG1.out];rfl)
   go_upto_region 4 with (go_at_call 50;refine(l22At_any An nn cn names a1 w1 RNw1.out HNN.out Zq1).mono ?_;rintro e y ⟨rfl,rfl⟩;rw[←HX1.out])
   refine wp_name (fun w2 hwn=>?_)
   have GGw2:=hD (show w2.heap[g0]?=some (.cells #[.int .i64 (gkind h.word),.int .i64 x0,.int .i64 x1,.int .i64 0] 58 (0,0)) by rw[hwn];exact heap_set_selfG GGw1.out _)
   have bn:Below w0.heap.size w1 w2:=by rw[hwn];exact(Below.refl _ _).setCell hg0 _
   have BBw2:=hD (BBw1.out.trans bn)
   have XXw2:=hD ((BBw2.out.block X Zq1).trans X0.out)
   have YYw2:=hD ((BBw2.out.block (X+1) Zq1).trans Y0.out)
   have CCw2:=hD (fun j u (h:(strs h.args)[j]?=some u)=>(BBw2.out.cell (p:=⟨b,off+j,none⟩) hb0).trans (HC.out j u h))
   have RNw2:=hD (RN.out.below BBw2.out)
   clear hwn bn p0 p1 p2 p3 p4 g1 g2 g3 g4 f2 lX lG cj
   obtain ⟨p0,p1,p2,p3,p4⟩:=cells5G (lay:=Below.refl _ _) XXw2.out
   obtain ⟨g1,g2,g3,g4⟩:=cells w2 _ _ GGw2.out
   have f3:=free_at (j:=3) GGw2.out
   have lX:=lt_of_block XXw2.out
   have lG:=lt_of_block GGw2.out
   have cj:w2.cell? ⟨b,off+2,none⟩=some (.string a2):=CCw2.out 2 _ (by unfold strs;rw[List.getElem?_map,HG2.out];rfl)
   go_upto_region 6 with (go_at_call 50;refine(l22At_any An nn cn names a2 w2 RNw2.out HNN.out Zq1).mono ?_;rintro e y ⟨rfl,rfl⟩;rw[←HX2.out])
   refine wp_name (fun w3 hwn=>?_)
   have GGw3:=hD (show w3.heap[g0]?=some (.cells #[.int .i64 (gkind h.word),.int .i64 x0,.int .i64 x1,.int .i64 x2] 58 (0,0)) by rw[hwn];exact heap_set_selfG GGw2.out _)
   have bn:Below w0.heap.size w2 w3:=by rw[hwn];exact(Below.refl _ _).setCell hg0 _
   have BBw3:=hD (BBw2.out.trans bn)
   have XXw3:=hD ((BBw3.out.block X Zq1).trans X0.out)
   have YYw3:=hD ((BBw3.out.block (X+1) Zq1).trans Y0.out)
   have CCw3:=hD (fun j u (h:(strs h.args)[j]?=some u)=>(BBw3.out.cell (p:=⟨b,off+j,none⟩) hb0).trans (HC.out j u h))
   have RNw3:=hD (RN.out.below BBw3.out)
   clear hwn bn p0 p1 p2 p3 p4 g1 g2 g3 g4 f3 lX lG cj
   obtain ⟨p0,p1,p2,p3,p4⟩:=cells5G (lay:=Below.refl _ _) XXw3.out
   obtain ⟨g1,g2,g3,g4⟩:=cells w3 _ _ GGw3.out
   obtain ⟨r0,r1,r2,r3⟩:=cells4E YYw3.out
   have f0:=free_at (j:=0) YYw3.out
   have f1:=free_at (j:=1) YYw3.out
   have f2:=free_at (j:=2) YYw3.out
   have f3:=free_at (j:=3) YYw3.out
   have lX:=lt_of_block XXw3.out
   have lY:=lt_of_block YYw3.out
   have lG:=lt_of_block GGw3.out
   clear cells
   go_wp2_with fail
   refine bodyPost_ret (v:=.agg #[.int .i64 (gkind h.word),.int .i64 x0,.int .i64 x1,.int .i64 x2]) (by simp [results,Try.results46,go_sem,r0,r1,r2,r3]) rfl ⟨by rw[HG.out],?_⟩
   exact(B0.out.trans (BBw3.out.mono Zq1)).trans (setBelow4 Zq1)
def dig (x:Int):ByteArray:=⟨#[48+x.toNat.toUInt8]⟩
theorem small10 {x:Int} (h0:0≤x) (h1:x≤9):x=0∨x=1∨x=2∨x=3∨x=4∨x=5∨x=6∨x=7∨x=8∨x=9:=by omega
theorem conv_one (W:World) (b:UInt8):(convert 22 9 (.slice (some ⟨W.heap.size,0,none⟩) 1 1)).run Try.prog (W.alloc (.cells #[.int .u8 (b.toNat:Int)] 5))=.ok (.string ⟨#[b]⟩) (W.alloc (.cells #[.int .u8 (b.toNat:Int)] 5)):=by
 refine run_convert_bytes_back _ _ _ 5 ⟨W.heap.size,0,none⟩ 1 [b] Try.underlying22 Try.underlying5 Try.underlying9 (fun j hj=>?_)
 obtain rfl:j=0:=by simpa using hj
 exact World.cell?_alloc_mark W _ _ _ 0
theorem FormatInt_spec_0 (w:World):Calls Try.prog 16 #[.int .i64 0] w fun e w'=>e=.returned (.string (dig 0))∧Below w.heap.size w w'∧w.heap.size≤w'.heap.size:=by
 go_enter Try.func16,Try.ntmps16
 go_wp2
 go_ret
 exact ⟨rfl,Zq0,Zq2⟩
theorem FormatInt_spec_1 (w:World):Calls Try.prog 16 #[.int .i64 1] w fun e w'=>e=.returned (.string (dig 1))∧Below w.heap.size w w'∧w.heap.size≤w'.heap.size:=by
 have kc:∀ W:World,(convert 22 9 (.slice (some ⟨W.heap.size,0,none⟩) 1 1)).run Try.prog (W.alloc (.cells #[.int .u8 49] 5))=.ok (.string ⟨#[49]⟩) (W.alloc (.cells #[.int .u8 49] 5)):=fun W=>conv_one W 49
 go_enter Try.func16,Try.ntmps16
 go_wp2
 refine wp_loop_rounds 2 ?_
 rw[rounds_succ]
 go_wp2
 rw[rounds_succ]
 go_wp2
 go_ret
 exact ⟨rfl,Zq0,Zq2⟩
theorem FormatInt_spec_2 (w:World):Calls Try.prog 16 #[.int .i64 2] w fun e w'=>e=.returned (.string (dig 2))∧Below w.heap.size w w'∧w.heap.size≤w'.heap.size:=by
 have kc:∀ W:World,(convert 22 9 (.slice (some ⟨W.heap.size,0,none⟩) 1 1)).run Try.prog (W.alloc (.cells #[.int .u8 50] 5))=.ok (.string ⟨#[50]⟩) (W.alloc (.cells #[.int .u8 50] 5)):=fun W=>conv_one W 50
 go_enter Try.func16,Try.ntmps16
 go_wp2
 refine wp_loop_rounds 2 ?_
 rw[rounds_succ]
 go_wp2
 rw[rounds_succ]
 go_wp2
 go_ret
 exact ⟨rfl,Zq0,Zq2⟩
theorem FormatInt_spec_3 (w:World):Calls Try.prog 16 #[.int .i64 3] w fun e w'=>e=.returned (.string (dig 3))∧Below w.heap.size w w'∧w.heap.size≤w'.heap.size:=by
 have kc:∀ W:World,(convert 22 9 (.slice (some ⟨W.heap.size,0,none⟩) 1 1)).run Try.prog (W.alloc (.cells #[.int .u8 51] 5))=.ok (.string ⟨#[51]⟩) (W.alloc (.cells #[.int .u8 51] 5)):=fun W=>conv_one W 51
 go_enter Try.func16,Try.ntmps16
 go_wp2
 refine wp_loop_rounds 2 ?_
 rw[rounds_succ]
 go_wp2
 rw[rounds_succ]
 go_wp2
 go_ret
 exact ⟨rfl,Zq0,Zq2⟩
theorem FormatInt_spec_4 (w:World):Calls Try.prog 16 #[.int .i64 4] w fun e w'=>e=.returned (.string (dig 4))∧Below w.heap.size w w'∧w.heap.size≤w'.heap.size:=by
 have kc:∀ W:World,(convert 22 9 (.slice (some ⟨W.heap.size,0,none⟩) 1 1)).run Try.prog (W.alloc (.cells #[.int .u8 52] 5))=.ok (.string ⟨#[52]⟩) (W.alloc (.cells #[.int .u8 52] 5)):=fun W=>conv_one W 52
 go_enter Try.func16,Try.ntmps16
 go_wp2
 refine wp_loop_rounds 2 ?_
 rw[rounds_succ]
 go_wp2
 rw[rounds_succ]
 go_wp2
 go_ret
 exact ⟨rfl,Zq0,Zq2⟩
theorem FormatInt_spec_5 (w:World):Calls Try.prog 16 #[.int .i64 5] w fun e w'=>e=.returned (.string (dig 5))∧Below w.heap.size w w'∧w.heap.size≤w'.heap.size:=by
 have kc:∀ W:World,(convert 22 9 (.slice (some ⟨W.heap.size,0,none⟩) 1 1)).run Try.prog (W.alloc (.cells #[.int .u8 53] 5))=.ok (.string ⟨#[53]⟩) (W.alloc (.cells #[.int .u8 53] 5)):=fun W=>conv_one W 53
 go_enter Try.func16,Try.ntmps16
 go_wp2
 refine wp_loop_rounds 2 ?_
 rw[rounds_succ]
 go_wp2
 rw[rounds_succ]
 go_wp2
 go_ret
 exact ⟨rfl,Zq0,Zq2⟩
theorem FormatInt_spec_6 (w:World):Calls Try.prog 16 #[.int .i64 6] w fun e w'=>e=.returned (.string (dig 6))∧Below w.heap.size w w'∧w.heap.size≤w'.heap.size:=by
 have kc:∀ W:World,(convert 22 9 (.slice (some ⟨W.heap.size,0,none⟩) 1 1)).run Try.prog (W.alloc (.cells #[.int .u8 54] 5))=.ok (.string ⟨#[54]⟩) (W.alloc (.cells #[.int .u8 54] 5)):=fun W=>conv_one W 54
 go_enter Try.func16,Try.ntmps16
 go_wp2
 refine wp_loop_rounds 2 ?_
 rw[rounds_succ]
 go_wp2
 rw[rounds_succ]
 go_wp2
 go_ret
 exact ⟨rfl,Zq0,Zq2⟩
theorem FormatInt_spec_7 (w:World):Calls Try.prog 16 #[.int .i64 7] w fun e w'=>e=.returned (.string (dig 7))∧Below w.heap.size w w'∧w.heap.size≤w'.heap.size:=by
 have kc:∀ W:World,(convert 22 9 (.slice (some ⟨W.heap.size,0,none⟩) 1 1)).run Try.prog (W.alloc (.cells #[.int .u8 55] 5))=.ok (.string ⟨#[55]⟩) (W.alloc (.cells #[.int .u8 55] 5)):=fun W=>conv_one W 55
 go_enter Try.func16,Try.ntmps16
 go_wp2
 refine wp_loop_rounds 2 ?_
 rw[rounds_succ]
 go_wp2
 rw[rounds_succ]
 go_wp2
 go_ret
 exact ⟨rfl,Zq0,Zq2⟩
theorem FormatInt_spec_8 (w:World):Calls Try.prog 16 #[.int .i64 8] w fun e w'=>e=.returned (.string (dig 8))∧Below w.heap.size w w'∧w.heap.size≤w'.heap.size:=by
 have kc:∀ W:World,(convert 22 9 (.slice (some ⟨W.heap.size,0,none⟩) 1 1)).run Try.prog (W.alloc (.cells #[.int .u8 56] 5))=.ok (.string ⟨#[56]⟩) (W.alloc (.cells #[.int .u8 56] 5)):=fun W=>conv_one W 56
 go_enter Try.func16,Try.ntmps16
 go_wp2
 refine wp_loop_rounds 2 ?_
 rw[rounds_succ]
 go_wp2
 rw[rounds_succ]
 go_wp2
 go_ret
 exact ⟨rfl,Zq0,Zq2⟩
theorem FormatInt_spec_9 (w:World):Calls Try.prog 16 #[.int .i64 9] w fun e w'=>e=.returned (.string (dig 9))∧Below w.heap.size w w'∧w.heap.size≤w'.heap.size:=by
 have kc:∀ W:World,(convert 22 9 (.slice (some ⟨W.heap.size,0,none⟩) 1 1)).run Try.prog (W.alloc (.cells #[.int .u8 57] 5))=.ok (.string ⟨#[57]⟩) (W.alloc (.cells #[.int .u8 57] 5)):=fun W=>conv_one W 57
 go_enter Try.func16,Try.ntmps16
 go_wp2
 refine wp_loop_rounds 2 ?_
 rw[rounds_succ]
 go_wp2
 rw[rounds_succ]
 go_wp2
 go_ret
 exact ⟨rfl,Zq0,Zq2⟩
theorem FormatInt_spec9 (x:Int) (h0:0≤x) (h1:x≤9) (w:World):Calls Try.prog 16 #[.int .i64 x] w fun e w'=>e=.returned (.string (dig x))∧Below w.heap.size w w'∧w.heap.size≤w'.heap.size:=by
 rcases small10 h0 h1 with rfl|rfl|rfl|rfl|rfl|rfl|rfl|rfl|rfl|rfl
 ·exact FormatInt_spec_0 w
 ·exact FormatInt_spec_1 w
 ·exact FormatInt_spec_2 w
 ·exact FormatInt_spec_3 w
 ·exact FormatInt_spec_4 w
 ·exact FormatInt_spec_5 w
 ·exact FormatInt_spec_6 w
 ·exact FormatInt_spec_7 w
 ·exact FormatInt_spec_8 w
 ·exact FormatInt_spec_9 w
theorem l17Gate_any (A:Option Addr) (m c:Nat) (N:List ByteArray) (w:World) (p:Nat) (hcur:CurAt w p) (hN:Names w p A m N):Calls Try.prog 40 #[.pointer (some ⟨p,0,none⟩),.slice A m c] w (DGt w p):=by
 obtain ⟨i0,hi,hz0,hz1,hz2⟩:=info_parts info_str
 have hp:=hcur.lt
 have h1:=hN.lo
 have h4:=hN.hi
 have HN:=hD hN
 clear hN
 go_enter Try.func40,Try.ntmps40
 go_wp2_with fail
 obtain ⟨w0,hw0⟩:∃ w0,w0=w.alloc (.cells #[.int .i64 0,.string ⟨#[]⟩,.slice none 0 0,.int .i64 0,.slice none 0 0] 42):=⟨_,rfl⟩
 rw[←hw0]
 have x0:w0.heap[w.heap.size]?=some (.cells #[.int .i64 0,.string ⟨#[]⟩,.slice none 0 0,.int .i64 0,.slice none 0 0] 42 (0,0)):=by rw[hw0];exact boxed1_0 _ _
 have hfr0:Fr w p w0:=by rw[hw0];exact(Fr.start hcur).alloc _
 have s0:w.heap.size<w0.heap.size:=by rw[hw0];simp
 clear hw0
 obtain ⟨q,hq,hq1,hq3,hqm⟩:∃ q:Nat,imin 3 m=q∧1≤q∧q≤3∧q≤m:=⟨min 3 m,by unfold imin;split <;> omega,by omega,by omega,by omega⟩
 have HQ:=hD hq
 clear hq
 refine(l1Min_any _ _ _).mono ?_
 rintro e w' ⟨rfl,rfl⟩
 rw[HQ.out]
 go_wp2_with fail
 refine(l9GateN_any q w0 p hfr0.cur Zq1 Zq1).mono ?_
 rintro e w1 ⟨k,a,b,c2,⟨hk1,hk2,hka⟩,rfl,hc1,hg1⟩
 obtain ⟨k,rfl⟩:∃ k':Nat,k=k':=⟨k.toNat,by omega⟩
 have x1:=box_call x0 hg1 Zq1
 have hfr1:=hfr0.call hc1 hg1
 have X1:=hD x1
 have FR1:=hD hfr1
 have s1:w.heap.size<w1.heap.size:=by have:=hg1.size;omega
 clear x0 x1 hc1 hg1 hfr0 hfr1
 go_wp2_with fail
 obtain ⟨w2,hw2⟩:∃ w2,w2=w1.alloc (.cells #[.int .i64 k,.int .i64 a,.int .i64 b,.int .i64 c2] 58):=⟨_,rfl⟩
 rw[←hw2]
 have y2:w2.heap[w1.heap.size]?=some (.cells #[.int .i64 k,.int .i64 a,.int .i64 b,.int .i64 c2] 58 (0,0)):=by rw[hw2];exact boxed1_0 _ _
 have ba:Below w1.heap.size w1 w2:=by rw[hw2];exact Zq0
 have x2:=(ba.block _ s1).trans X1.out
 have hfr2:=FR1.out.below ba
 have hp1:p<w1.heap.size:=FR1.out.cur.lt
 have s2:w1.heap.size<w2.heap.size:=by rw[hw2];simp
 clear hw2 X1
 refine(l8Perm_n m w2 p hfr2.cur h1 h4).mono ?_
 rintro e w3 ⟨v,L,rfl,hL,hin,hown,hc3,hg3⟩
 have x3:=box_call x2 hg3 Zq1
 have y3:=box_call y2 hg3 Zq1
 have hfr3:=hfr2.call hc3 hg3
 have s3:w2.heap.size≤w3.heap.size:=hg3.size
 obtain ⟨Ap,cp,rfl,_,_,rp⟩:=rd_of_own hown
 have X3:=hD x3
 have Y3:=hD y3
 have FR3:=hD hfr3
 have RP:=hD rp
 have HL:=hD hL
 have HIN:=hD hin
 obtain ⟨q0,q1,q2,q3⟩:=boxcells4 (lay:=Below.refl _ _) y3
 clear x2 x3 y2 y3 ba hfr2 hfr3 hc3 hg3 hown rp hL hin
 go_wp2_with fail
 refine(GateName_spec k Zq1 Zq1 _).mono ?_
 rintro e w4 ⟨rfl,b4,s4⟩
 have hgn:=gname_size k Zq1
 obtain ⟨wd,hwd⟩:∃ wd:ByteArray,wd=⟨(gname k).toArray⟩:=⟨_,rfl⟩
 rw[←hwd] at hgn ⊢
 have X4:=hD ((b4.block _ (lt_of_block X3.out)).trans X3.out)
 have Y4:=hD ((b4.block _ (lt_of_block Y3.out)).trans Y3.out)
 have FR4:=hD (FR3.out.below b4)
 have RP4:=hD (RP.out.below b4)
 clear hwd X3 Y3 FR3 RP b4 q0 q1 q2 q3
 go_wp2_with fail
 obtain ⟨X,hX⟩:∃ X,X=w4.heap.size:=⟨_,rfl⟩
 obtain ⟨w5,hw5⟩:∃ w5,w5=w4.alloc (.cells #[.int .i64 1,.string wd,.slice none 0 0,.int .i64 0,.slice none 0 0] 42):=⟨_,rfl⟩
 rw[←hw5,←hX]
 have z5:w5.heap[X]?=some (.cells #[.int .i64 1,.string wd,.slice none 0 0,.int .i64 0,.slice none 0 0] 42 (0,0)):=by rw[hw5,hX];exact boxed1_0 _ _
 have b5:Below X w4 w5:=by rw[hw5,hX];exact Zq0
 have s5:X+1=w5.heap.size:=by rw[hw5,hX];simp
 have Z5:=hD z5
 have B5:=hD b5
 have HN4:=hD (HN.out.fr FR4.out)
 have hXs:w2.heap.size≤X:=by omega
 have HX:=hD hX
 clear hw5 z5 b5 hX
 go_loopw [8] (fun i wr=>∃ (t ca:Nat) (Aa:Option Addr) (args:List ByteArray),i=.int .i64 t∧t≤ar k∧args.length=t∧Hid (∀ s∈args,s.size≤9)∧Hid (wr.heap[X]?=some (.cells #[.int .i64 1,.string wd,.slice Aa t ca,.int .i64 0,.slice none 0 0] 42 (0,0)))∧Hid (wr.ownsRow (X+1) 9 1 (.slice Aa t ca) t (strs args))∧Hid (Below X w4 wr)) (fun i _=>ar k - (intOf i).toNat)
 case atStart=>exact ⟨0,0,none,[],rfl,Nat.zero_le _,rfl,(fun s hs=>absurd hs Zq5:∀ s∈([]:List ByteArray),s.size≤9),Z5.out,⟨rfl,.inl ⟨rfl,rfl⟩⟩,B5.out⟩
 case round =>
  obtain ⟨t,ca,Aa,args,rfl,ht,hal,hsm,hx,hown,hb⟩:=hrel
  obtain ⟨wE,rfl⟩:∃ wE:World,wE=wr:=⟨_,rfl⟩
  have hbs:=hb.out.size
  have hlX:=lt_of_block hx.out
  have y:=(hb.out.block _ Zq1).trans Y4.out
  obtain ⟨q0,q1,q2,q3⟩:=boxcells4 (lay:=Below.refl _ _) y
  obtain ⟨x0,x1,x2,x3,x4⟩:=cells5G (lay:=Below.refl _ _) hx.out
  have f2:=free_at (j:=2) hx.out
  have hk9:ar k≤3:=ar_le k
  have HAL:=hD hal
  clear y hal
  by_cases hlt:t<ar k
  ·obtain ⟨y,hy⟩:∃ y,L[t]?=some y:=⟨_,List.getElem?_eq_getElem (by rw[HL.out];omega)⟩
   have hyr:=HIN.out y (List.mem_of_getElem? hy)
   obtain ⟨j,rfl⟩:∃ j:Nat,y=j:=⟨y.toNat,by omega⟩
   have hbw:Below w4.heap.size w4 w4:=Below.refl _ _
   have hbx:Below w4.heap.size w4 wE:=by rw[←HX.out];exact hb.out
   obtain ⟨bp,op,rfl,hbp,hcp⟩:=(RP4.out.below hbx).2 Zq1
   have pj:wE.cell? ⟨bp,op+t,none⟩=some (.int .i64 j):=hcp t _ (by simp [hy])
   obtain ⟨bn,on,s,rfl,hbn,nj,hsN,hs9⟩:=(HN4.out.below hbx).at_ (t:=j) Zq1
   have hjm:j<m:=by omega
   have htm:t<m:=by omega
   have hS:=hD (show ∀ x∈args++[s],x.size≤9 from fun x hx=>by
    rcases List.mem_append.1 hx with h|h
    ·exact hsm.out x h
    ·rw[List.mem_singleton.1 h];exact hs9)
   have hbaX:∀ ob:Obj,(wE.drew.alloc ob).cell? ⟨X,2,none⟩=some (.slice Aa t ca):=fun ob=>(World.cell?_alloc_lt wE.drew ob ⟨X,2,none⟩ hlX).trans x2
   clear hcp hy hbw hbx
   go_wp2_with (go_at_call 58;refine(Arity_spec _ _).mono ?_;rintro e w' ⟨rfl,rfl⟩)
   go_region_law (first|(refine step_append_rdO _ (by rfl) (.tmp 30) (.tmp 38) 24 (by rfl) (X+1) 9 i0 _ 1 16 Try.underlying24 hi hz0 hz1 hz2 (by rfl) Zq4 _ t _ (by rfl) (by exact((own_drewG hown.out).alloc _)) _ 1 _ [.string s] (by rfl) (by exact rd_lit1 (w:=wE.drew) (by rfl) rfl) (by exact one_strG s) (by simp only[maxLen];omega) Zq1 Zq2 ?_;intro v3 w3 own3 gr3 _;obtain ⟨A3,c3,rfl,_,_,_⟩:=rd_of_own own3;have hx3:w3.heap[X]?=some (.cells #[.int .i64 1,.string wd,.slice Aa t ca,.int .i64 0,.slice none 0 0] 42 (0,0)):=(gr3.block X Zq2 (fun e=>own_ne_typeG hown.out hx.out Zq4 e.symm)).trans ((Below.heap_alloc _ _ _ Zq2).trans hx.out);have px3:=cell_at (j:=2) (u:=.slice Aa t ca) hx3 rfl;have fx3:=free_at (j:=2) hx3;have hlx3:=lt_of_block hx3))
   all_goals
    obtain ⟨w6,hw6⟩:∃ w6,w6=w3.setCell ⟨X,2,none⟩ (.slice A3 (t+1) c3):=⟨_,rfl⟩
    have x6:w6.heap[X]?=some (.cells #[.int .i64 1,.string wd,.slice A3 (t+1) c3,.int .i64 0,.slice none 0 0] 42 (0,0)):=by rw[hw6];exact heap_set_selfG hx3 _
    have own6:w6.ownsRow (X+1) 9 1 (.slice A3 (t+1) c3) (t+1) (strs (args++[s])):=by rw[hw6,strs_snocG];exact own_setfarG own3 (own_ne_typeG own3 hx3 Zq4) _
    have b6:Below X w4 w6:=by rw[hw6];exact(((below_drewN hb.out 1).alloc (show X≤wE.heap.size by omega) _).grown gr3 Zq2 (own_ge (own_lowT hown.out Zq1))).setCell (Nat.le_refl _) _
    have H6:=hD (And.intro x6 (And.intro own6 b6))
    go_wp2_with fail
    rw[←hw6]
    go_roundw
    case rel=>exact ⟨t+1,c3,A3,args++[s],by go_num,by omega,by rw[List.length_append,HAL.out];rfl,hS,H6.out.1,H6.out.2.1,H6.out.2.2⟩
    case measure=>simp [intOf];omega
  ·obtain rfl:t=ar k:=by omega
   have rX:=(hb.out.block _ (show w.heap.size<X by omega)).trans X4.out
   obtain ⟨r0,r1,r2,r3,r4⟩:=cells5G (lay:=Below.refl _ _) rX
   have g0:=free_at (j:=0) rX
   have g1:=free_at (j:=1) rX
   have g2:=free_at (j:=2) rX
   have g3:=free_at (j:=3) rX
   have g4:=free_at (j:=4) rX
   have FRE:=hD (FR4.out.below (show Below w4.heap.size w4 wE by rw[←HX.out];exact hb.out))
   have HQE:=hD (rdQ_of_own (own_lowT hown.out (show w.heap.size+1≤X+1 by omega)))
   have hz:=hD (szS_le 9 args hsm.out)
   clear rX
   go_wp2_with (go_at_call 58;refine(Arity_spec _ _).mono ?_;rintro e w' ⟨rfl,rfl⟩)
   have hfrE:=FRE.out
   have hcap:ar k≤ca:=by
    obtain ⟨_,_,e,h,_,_⟩:=rd_of_own hown.out
    injection e with _ _ e
    omega
   have hzz:=hz.out
   rw[HAL.out] at hzz
   exact bodyPost_ret (v:=.agg #[.int .i64 1,.string wd,.slice Aa (ar k) ca,.int .i64 0,.slice none 0 0]) (by simp [results,Try.results40,go_sem,r0,r1,r2,r3,r4]) rfl ⟨wd,args,Aa,ca,by rw[HAL.out],by rw[HAL.out];exact RdQ.mono (P:=(w.heap.size+1≤·)) (by repeat (first|exact HQE.out|(with_reducible refine RdQ.set_ ?_ Zq5 _))) (fun b _ h=>Nat.le_of_succ_le h),by rw[HAL.out];exact ⟨hcap,hgn,hk9,by omega⟩,(Fr.cur (w:=w) (by repeat (first|assumption|(with_reducible refine Fr.alloc ?_ _)|(with_reducible refine Fr.set ?_ hp Zq2 _)))),(Fr.gr (by repeat (first|assumption|(with_reducible refine Fr.alloc ?_ _)|(with_reducible refine Fr.set ?_ hp Zq2 _))))⟩
theorem rdQ_lit {w:World} {cs:Array Value} {e n size b base:Nat} (h0:b=w.heap.size) (hs:cs.size=n*size) (hB:base≤b):RdQ (w.alloc (.cells cs e)) (base≤·) size (some ⟨b,0,none⟩) n cs.toList:=by
 have r:=rd_lit1 (e:=e) h0 hs
 refine ⟨r.1,fun h=>?_⟩
 obtain ⟨b',off,e,hb,hc⟩:=r.2 h
 injection e with e
 injection e with e1 e2
 subst e1 e2
 exact ⟨b,0,rfl,hB,hb,hc⟩
theorem stQ_mk {w:World} {Q:Nat→Prop} {d:Nat} {h:SH} {Aa Ab:Option Addr} {ca nb cb:Nat} {bd:List (Tr d)} (h1:RdQ w Q 1 Aa h.args.length (strs h.args)) (h2:TrQ w Q d Ab nb bd) (h3:h.args.length≤ca):StQ w Q d (scl h Aa ca Ab nb cb) (mkT h bd) :=
 ⟨Aa,ca,Ab,nb,cb,rfl,h1,h2,h3⟩
theorem szE_mk {d:Nat} (h:SH) (bd:List (Tr d)):szE (mkT h bd)=h.word.size+(h.args.length+szS h.args+szT d bd):=rfl
theorem szT_nil (d:Nat):szT d []=0:=by cases d <;> rfl
theorem sumE_append {d:Nat} (l m:List (Tr (d+1))):sumE (l++m)=sumE l+sumE m:=by simp [sumE]
theorem sumE_one {d:Nat} (s:Tr (d+1)):sumE [s]=szE s:=by simp [sumE]
theorem szT_append {d:Nat} (l m:List (Tr (d+1))):szT (d+1) (l++m)=szT (d+1) l+szT (d+1) m:=by rw[szT_succ,szT_succ,szT_succ,sumE_append,List.length_append];omega
theorem szT_one {d:Nat} (s:Tr (d+1)):szT (d+1) [s]=1+szE s:=by rw[szT_succ,sumE_one];rfl
def DFree (m:Nat) (w:World) (e:Ending) (w':World):Prop:=∃ (A:Option Addr) (n c:Nat) (F:List ByteArray),e=.returned (.slice A n c)∧F.length=n∧n≤m∧(∀ s∈F,s.size≤9)∧RdQ w' (w.heap.size≤·) 1 A n (strs F)∧Below w.heap.size w w'∧w.heap.size≤w'.heap.size
theorem l17Free_any (A A':Option Addr) (m c m' c':Nat) (N M:List ByteArray) (w:World) (hN:Rd w 1 A m (strs N)) (hl:N.length=m) (h9:∀ s∈N,s.size≤9) (hm:m≤4) (hM:Rd w 1 A' m' (strs M)) (hl':M.length=m') (hm':m'≤4) :
  Calls Try.prog 59 #[.slice A m c,.slice A' m' c'] w (DFree m w):=by
 obtain ⟨i0,hi,hz0,hz1,hz2⟩:=info_parts info_str
 have HN:=hD hN
 have HM:=hD hM
 have HL:=hD hl
 have HL':=hD hl'
 have H9:=hD h9
 clear hN hM hl hl' h9
 go_enter Try.func59,Try.ntmps59
 go_wp2_with fail
 obtain ⟨w0,hw0⟩:∃ w0,w0=w.alloc (.cells #[] 9):=⟨_,rfl⟩
 rw[←hw0]
 have own0:w0.ownsRow w.heap.size 9 1 (.slice (some ⟨w.heap.size,0,none⟩) 0 0) 0 []:=by rw[hw0];exact own_empty w _ _
 have b0:Below w.heap.size w w0:=by rw[hw0];exact Zq0
 have OW:=hD own0
 have B0:=hD b0
 clear own0 b0 hw0
 go_loopw [5,6] (fun v i wr=>∃ (t:Nat) (F:List ByteArray),t≤m∧i=.int .i64 t∧F.length≤t∧Hid (∀ s∈F,s.size≤9)∧Hid (wr.ownsRow w.heap.size 9 1 v F.length (strs F))∧Hid (Below w.heap.size w wr)) (fun _ i _=>m - (intOf i).toNat)
 case atStart=>exact ⟨0,[],Nat.zero_le _,rfl,Nat.zero_le _,(fun s hs=>absurd hs Zq5:∀ s∈([]:List ByteArray),s.size≤9),OW.out,B0.out⟩
 case round =>
  obtain ⟨t,F,ht,rfl,hF,h9,hown,hb⟩:=hrel
  have hbs:=hb.out.size
  by_cases hlt:t<m
  ·obtain ⟨x,hx⟩:∃ x,N[t]?=some x:=⟨_,List.getElem?_eq_getElem (by rw[HL.out];exact hlt)⟩
   obtain ⟨b,off,rfl,hbl,hc⟩:=(HN.out.below hb.out).2 Zq1
   have q0:wr.cell? ⟨b,off+t,none⟩=some (.string x):=hc t _ (strs_at hx)
   have HX:=hD (show ∀ s∈F++[x],s.size≤9 from fun s hs=>by
    rcases List.mem_append.1 hs with h|h
    ·exact h9.out s h
    ·rw[List.mem_singleton.1 h];exact H9.out x (List.mem_of_getElem? hx))
   clear hc hx
   cases hh:hasS M x
   ·have hown':=hown.out
    go_wp2_with (first|(go_at_call 30;refine(l1Has_any _ _ _ M x _ (HM.out.below hb.out) HL'.out Zq1).mono ?_;rintro e w' ⟨rfl,rfl⟩;rw[hh])|(at_builtin;refine wpList_append_rd _ rfl _ _ 24 rfl w.heap.size 9 i0 _ 1 16 Try.underlying24 hi hz0 hz1 hz2 rfl Zq4 _ _ _ rfl (hown'.alloc _) _ 1 1 _ rfl (rd_lit1 ?c0 rfl) ?c2 ?c3 ?c4 ?c5 ?_))
    case c0=>first|rfl|simp
    case c2=>repeat' (first|rfl|apply And.intro)
    case c3=>simp only[maxLen];omega
    case c4=>omega
    case c5=>first|omega|(simp;omega)
    intro v6 w6 own6 gr6 _
    have hb6:=hD ((hb.out.alloc hbs _).grown gr6 Zq2 (own_ge hown'))
    have O6:=hD own6
    clear gr6 own6 hown'
    go_wp2_with fail
    go_roundw
    case rel=>exact ⟨t+1,F++[x],by omega,by go_num,by rw[List.length_append];exact Nat.succ_le_succ hF,HX,by rw[List.length_append,strs_snocG];exact O6.out,hb6⟩
    case measure=>simp [intOf];omega
   ·go_wp2_with (go_at_call 30;refine(l1Has_any _ _ _ M x _ (HM.out.below hb.out) HL'.out Zq1).mono ?_;rintro e w' ⟨rfl,rfl⟩;rw[hh])
    go_roundw
    case rel=>exact ⟨t+1,F,by omega,by go_num,by omega,h9,hown,hb⟩
    case measure=>simp [intOf];omega
  ·obtain ⟨B,d,rfl,_,_,_⟩:=rd_of_own hown.out
   go_wp2_with fail
   go_ret
   exact ⟨B,_,d,F,rfl,rfl,by omega,h9.out,rdQ_of_own hown.out,hb.out,hbs⟩
def DCl (w:World) (p:Nat) (e:Ending) (w':World):Prop:=∃ (A:Option Addr) (c:Nat) (l:List (Tr 1)),e=.returned (.slice A 3 c)∧TrQ w' (w.heap.size≤·) 1 A 3 l∧szT 1 l≤100∧CurAt w' p∧w.grownBy w' (some p)
theorem l17Clean_any (A:Option Addr) (m c:Nat) (N:List ByteArray) (z:ByteArray) (w:World) (p:Nat) (hcur:CurAt w p) (hN:Names w p A m N) (hz:z.size≤9):Calls Try.prog 60 #[.pointer (some ⟨p,0,none⟩),.slice A m c,.string z] w (DCl w p):=by
 have hp:=hcur.lt
 have h1:=hN.lo
 have h4:=hN.hi
 have HN:=hD hN
 clear hN
 go_enter Try.func60,Try.ntmps60
 go_wp2_with fail
 refine(l1Below_any m (m - 1) w p hcur Zq1 Zq1 Zq1).mono ?_
 rintro e w1 ⟨j,hj0,hj1,rfl,hc1,hg1⟩
 obtain ⟨j,rfl⟩:∃ j':Nat,j=j':=⟨j.toNat,by omega⟩
 have FR1:=hD ((Fr.start hcur).call hc1 hg1)
 obtain ⟨b,off,a,rfl,hbl,q0,_,ha9⟩:=(HN.out.call hg1).at_ (t:=j) Zq1
 clear hc1 hg1
 have s1:=FR1.out.gr.size
 have hp1:p<w1.heap.size:=FR1.out.cur.lt
 go_wp2_with fail
 obtain ⟨wa,hwa⟩:∃ wa,wa=w1.alloc (.cells #[.string a,.string z] 9):=⟨_,rfl⟩
 rw[←hwa]
 obtain ⟨wb,hwb⟩:∃ wb,wb=wa.alloc (.cells #[.int .i64 1,.string ⟨#[99,120]⟩,.slice (some ⟨w1.heap.size,0,none⟩) 2 2,.int .i64 0,.slice none 0 0] 42):=⟨_,rfl⟩
 rw[←hwb]
 obtain ⟨wc,hwc⟩:∃ wc,wc=wb.alloc (.cells #[.string ⟨#[122]⟩,.string ⟨#[115]⟩,.string ⟨#[116]⟩,.string ⟨#[116,100]⟩] 9):=⟨_,rfl⟩
 rw[←hwc]
 have za:wa.heap.size=w1.heap.size+1:=by rw[hwa];simp
 have zb:wb.heap.size=w1.heap.size+1+1:=by rw[hwb];simp [za]
 have zc:wc.heap.size=w1.heap.size+1+1+1:=by rw[hwc];simp [zb]
 have ba:Below w1.heap.size w1 wa:=by rw[hwa];exact Zq0
 have bb:Below wa.heap.size wa wb:=by rw[hwb];exact Zq0
 have bc:Below wb.heap.size wb wc:=by rw[hwc];exact Zq0
 have ra:RdQ wa (w.heap.size≤·) 1 (some ⟨w1.heap.size,0,none⟩) 2 (strs [a,z]):=by rw[hwa];exact rdQ_lit rfl rfl s1
 have rc:Rd wc 1 (some ⟨w1.heap.size+1+1,0,none⟩) 4 (([⟨#[122]⟩,⟨#[115]⟩,⟨#[116]⟩,⟨#[116,100]⟩]:List ByteArray).map Value.string):=by rw[hwc];exact pickedS (w:=wb) zb.symm
 have xb:wb.heap[w1.heap.size+1]?=some (.cells #[.int .i64 1,.string ⟨#[99,120]⟩,.slice (some ⟨w1.heap.size,0,none⟩) 2 2,.int .i64 0,.slice none 0 0] 42 (0,0)):=by rw[hwb,←za];exact boxed1_0 _ _
 have frc:Fr w p wc:=((FR1.out.below ba).below bb).below bc
 have rac:=(ra.below bb).below bc
 have xc:=(bc.block _ Zq1).trans xb
 have RA:=hD rac
 have XC:=hD xc
 clear hwa hwb hwc ba bb bc ra rac xb xc
 refine(l1Pick_any _ 4 4 _ wc p frc.cur rfl Zq1 Zq1 rc Zq1).mono ?_
 rintro e w2 ⟨y,hy,rfl,hc2,hg2⟩
 have hy9:y.size≤9:=by
  simp only[List.mem_cons,List.not_mem_nil,or_false] at hy
  rcases hy with rfl|rfl|rfl|rfl <;> decide
 have FR2:=hD (frc.call hc2 hg2)
 have RA2:=hD (RA.out.call hg2 Zq1)
 have XC2:=hD (box_call XC.out hg2 Zq1)
 have s2:=hg2.size
 clear frc hc2 hg2 rc hy RA XC
 go_upto_region 4 with (fail)
 obtain ⟨wd,hwd⟩:∃ wd,wd=w2.alloc (.cells #[.string z] 9):=⟨_,rfl⟩
 rw[←hwd]
 obtain ⟨we,hwe⟩:∃ we,we=wd.alloc (.cells #[.int .i64 1,.string y,.slice (some ⟨w2.heap.size,0,none⟩) 1 1,.int .i64 0,.slice none 0 0] 42):=⟨_,rfl⟩
 rw[←hwe]
 have zd:wd.heap.size=w2.heap.size+1:=by rw[hwd];simp
 have bd:Below w2.heap.size w2 wd:=by rw[hwd];exact Zq0
 have rd:RdQ wd (w.heap.size≤·) 1 (some ⟨w2.heap.size,0,none⟩) 1 (strs [z]):=by rw[hwd];exact rdQ_lit rfl rfl FR2.out.gr.size
 have ze:we.heap.size=w2.heap.size+1+1:=by rw[hwe];simp [zd]
 have be:Below wd.heap.size wd we:=by rw[hwe];exact Zq0
 have xe:we.heap[w2.heap.size+1]?=some (.cells #[.int .i64 1,.string y,.slice (some ⟨w2.heap.size,0,none⟩) 1 1,.int .i64 0,.slice none 0 0] 42 (0,0)):=by rw[hwe,←zd];exact boxed1_0 _ _
 have xd:=(be.block _ Zq1).trans ((bd.block _ Zq1).trans XC2.out)
 obtain ⟨q0,q1,q2,q3,q4⟩:=cells5G (lay:=Below.refl _ _) xe
 obtain ⟨r0,r1,r2,r3,r4⟩:=cells5G (lay:=Below.refl _ _) xd
 have HB:=hD (And.intro rd (And.intro bd be))
 clear hwd hwe xe xd rd bd be
 go_wp2_with fail
 go_ret
 obtain ⟨rd,bd,be⟩:=HB.out
 have bf:Below we.heap.size we (we.alloc (.cells #[.int .i64 1,.string ⟨#[99,120]⟩,.slice (some ⟨w1.heap.size,0,none⟩) 2 2,.int .i64 0,.slice none 0 0,.int .i64 1,.string y,.slice (some ⟨w2.heap.size,0,none⟩) 1 1,.int .i64 0,.slice none 0 0,.int .i64 1,.string ⟨#[99,120]⟩,.slice (some ⟨w1.heap.size,0,none⟩) 2 2,.int .i64 0,.slice none 0 0] 42)):=Zq0
 have rl:=rdQ_lit (w:=we) (base:=w.heap.size) (cs:=#[.int .i64 1,.string ⟨#[99,120]⟩,.slice (some ⟨w1.heap.size,0,none⟩) 2 2,.int .i64 0,.slice none 0 0,.int .i64 1,.string y,.slice (some ⟨w2.heap.size,0,none⟩) 1 1,.int .i64 0,.slice none 0 0,.int .i64 1,.string ⟨#[99,120]⟩,.slice (some ⟨w1.heap.size,0,none⟩) 2 2,.int .i64 0,.slice none 0 0]) (e:=42) (n:=3) (size:=5) ze.symm rfl Zq1
 have f1:=stQ_mk (d:=0) (h:=⟨1,⟨#[99,120]⟩,[a,z],0⟩) (ca:=2) (cb:=0) (((RA2.out.below bd).below be).below bf) (trQ_nil (A:=none) 0) (Nat.le_refl _)
 have f2:=stQ_mk (d:=0) (h:=⟨1,y,[z],0⟩) (ca:=1) (cb:=0) ((rd.below be).below bf) (trQ_nil (A:=none) 0) (Nat.le_refl _)
 have hf:=((ElQ.one f1).append (ElQ.one f2)).append (ElQ.one f1)
 have fr:=((FR2.out.below bd).below be).below bf
 refine ⟨_,3,_,rfl,ElQ.tr hf rl rfl,?_,fr.cur,fr.gr⟩
 rw[szT_append,szT_append,szT_one,szT_one,szE_mk,szE_mk]
 simp only[szT_nil,szS,List.length_cons,List.length_nil]
 have:(⟨#[99,120]⟩:ByteArray).size=2:=rfl
 omega
theorem bytes_nil {s:ByteArray} (h:s.toList=[]):s=⟨#[]⟩:=by
 rw[Lib.toList_data] at h
 cases s with
 | mk a =>
  have:a=#[]:=by simpa using h
  rw[this]
theorem vOne_all {d:Nat} {h:SH} {bd:List (Tr d)} (hv:vOne d (validT d) h bd=true):(1≤h.k∧h.k≤7)∧h.args.length=nargs h.k h.word∧(h.k≠1∨nargs h.k h.word≠0)∧(h.k=1∨h.word=⟨#[]⟩)∧(hasB h.k=true∨bd=[])∧(h.k=2→1≤h.count∧h.count≤9)∧(h.k≠2→h.count=0)∧validT d bd=true:=by
 unfold vOne headV at hv
 simp only[Bool.and_eq_true,decide_eq_true_eq] at hv
 obtain ⟨⟨h1,h2,h3,h4,h5,h6⟩,_,h7⟩:=hv
 unfold okCount at h6
 refine ⟨inB_iff.1 h1,h2,h3,h4.imp id bytes_nil,h5.imp id List.eq_nil_of_length_eq_zero,fun hk=>?_,fun hk=>?_,h7⟩
 ·rw[if_pos hk] at h6
  exact inB_iff.1 h6
 ·rw[if_neg hk] at h6
  simpa using h6
theorem hasB_two {k:Int} (h:hasB k=false):(k==2)=false:=by
 unfold hasB at h
 cases h2:(k==2)
 ·rfl
 ·rw[h2] at h
  exact absurd h Zq5
def tokT:(d:Nat)→List (Tr d)→Nat
 | 0,_=>0
 | d+1,l=>(l.map fun (s:Tr (d+1))=>(if (hdT s).k==2 then 3 else 2)+(hdT s).args.length+(if hasB (hdT s).k then 1+tokT d (bdT s) else 0)).sum
def tokE {d:Nat} (s:Tr (d+1)):Nat:=(if (hdT s).k==2 then 3 else 2)+(hdT s).args.length+(if hasB (hdT s).k then 1+tokT d (bdT s) else 0)
theorem tokT_succ {d:Nat} (l:List (Tr (d+1))):tokT (d+1) l=(l.map tokE).sum:=rfl
theorem tokE_a {d:Nat} {s:Tr (d+1)} (hk:hasB (hdT s).k=false) (hq:((hdT s).k==2)=false):tokE s=2+(hdT s).args.length:=by
 simp only[tokE,hk,hq];simp
theorem tokE_b {d:Nat} {s:Tr (d+1)} (hk:hasB (hdT s).k=true) (hq:((hdT s).k==2)=false):tokE s=2+(hdT s).args.length+(1+tokT d (bdT s)):=by
 simp only[tokE,hk,hq];simp
theorem tokE_c {d:Nat} {s:Tr (d+1)} (hk:hasB (hdT s).k=true) (hq:((hdT s).k==2)=true):tokE s=3+(hdT s).args.length+(1+tokT d (bdT s)):=by
 simp only[tokE,hk,hq];simp
theorem tokT_le:∀ (d:Nat) (l:List (Tr d)),tokT d l≤4*szT d l:=by
 intro d
 induction d with
 | zero=>intro l;exact Nat.zero_le _
 | succ d ih =>
  intro l
  rw[tokT_succ,szT_succ]
  unfold sumE
  induction l with
  | nil=>simp
  | cons s l ih2 =>
   have h1:=ih (bdT s)
   simp only[List.map_cons,List.sum_cons,List.length_cons]
   have h2:tokE s≤4+4*szE s:=by
    unfold tokE szE
    split <;> split <;> omega
   omega
theorem tok_take_le {d:Nat} (l:List (Tr (d+1))) (t:Nat):tokT (d+1) (l.take t)≤4*szT (d+1) l:=by
 refine Nat.le_trans (tokT_le _ _) ?_
 rw[szT_succ,szT_succ]
 have:=sumE_take_le l t
 have:=List.length_take_le' t l
 omega
theorem tok_take {d:Nat} (l:List (Tr (d+1))) (t:Nat) (s:Tr (d+1)) (h:l[t]?=some s):tokT (d+1) (l.take (t+1))=tokT (d+1) (l.take t)+tokE s:=by
 rw[List.take_add_one,h,tokT_succ,tokT_succ]
 simp
def TokSaid_spec (d:Nat):Prop:=∀ (lo:Nat) (A:Option Addr) (n c:Nat) (l:List (Tr d)) (w:World),RdT w lo d A n l→szT d l≤1048576 →
 Calls Try.prog 36 #[.slice A n c] w fun e w'=>e=.returned (.int .i64 (tokT d l))∧Below w.heap.size w w'∧w.heap.size≤w'.heap.size
theorem StmtTokenCount_spec:∀ (d:Nat),TokSaid_spec d:=by
 intro d
 induction d with
 | zero =>
  intro lo A n c l w h _
  obtain rfl:=szT_zero_len h
  go_enter Try.func36,Try.ntmps36
  go_wp2
  refine wp_loop_rounds 1 ?_
  rw[rounds_succ]
  go_wp2
  go_ret
  exact ⟨rfl,Below.refl _ _,Nat.le_refl _⟩
 | succ d ih =>
  intro lo A n c l w h hsz
  have hln:=h.len
  have hn:n≤1048576:=by rw[szT_succ] at hsz;omega
  have HQ:=hD hsz
  have HL:=hD hln
  have H:=hD h
  clear h hln hsz
  go_enter Try.func36,Try.ntmps36
  go_wp2
  go_loopw [3,4] (fun m i wr=>∃ t:Nat,t≤n∧i=.int .i64 t∧m=.int .i64 (tokT (d+1) (l.take t))∧Below w.heap.size w wr) (fun _ i _=>n - (intOf i).toNat)
  case atStart=>exact ⟨0,Nat.zero_le _,rfl,rfl,Below.refl _ _⟩
  case round =>
   obtain ⟨t,ht,rfl,rfl,hb⟩:=hrel
   have hN:tokT (d+1) (l.take t)≤4194304:=Nat.le_trans (tok_take_le l t) (by have:=HQ.out;omega)
   obtain ⟨N,hNN⟩:∃ N,N=tokT (d+1) (l.take t):=⟨_,rfl⟩
   rw[←hNN] at hN ⊢
   have HN:=hD hNN
   clear hNN
   have hbs:=hb.size
   by_cases hlt:t<n
   ·obtain ⟨b,off,s,Aa,ca,Ab,nb,cb,rfl,hbl,hs,hcs,hra,hrb⟩:=(H.out.below hb).at_ hlt
    obtain ⟨q0,q1,q2,q3,q4⟩:=hcs
    have hme:=szT_mem hs
    have hz2:szT d (bdT s)≤1048576:=by have:=HQ.out;rw[szT_succ] at this;unfold szE at hme;omega
    have hz3:(hdT s).args.length≤1048576:=by have:=HQ.out;rw[szT_succ] at this;unfold szE at hme;omega
    have hnb:=tokT_le d (bdT s)
    have HT:=hD (tok_take l t s hs)
    have HB:=hD hrb
    clear hs hra hrb hme
    obtain ⟨M,hM⟩:∃ M,M=tokT d (bdT s):=⟨_,rfl⟩
    rw[←hM] at hnb
    have HM:=hD hM
    clear hM
    cases hk:hasB (hdT s).k
    ·have hq:((hdT s).k==2)=false:=hasB_two hk
     have HT2:Hid (tokT (d+1) (l.take (t+1))=N+(2+(hdT s).args.length)):=by
      have h:=HT.out
      rw[←HN.out,tokE_a hk hq] at h
      exact h
     go_wp2_with fail
     refine(l17Args_any _ _ _ _ _ _ ⟨_,_,_,rfl⟩ ⟨_,_,_,rfl⟩).mono ?_
     rintro e w1 ⟨rfl,b1,s1⟩
     rw[hk]
     have r0:=(b1.cell (p:=⟨b,off+t*5,none⟩) hbl).trans q0
     have r2:=(b1.cell (p:=⟨b,off+t*5+2,none⟩) hbl).trans q2
     have r4:=(b1.cell (p:=⟨b,off+t*5+4,none⟩) hbl).trans q4
     clear q0 q1 q2 q3 q4
     go_wp2_with fail
     go_roundw
     case rel=>exact ⟨t+1,by omega,by go_num,by rw[HT2.out];congr 1;omega,(hb.trans (b1.mono hb.size))⟩
     case measure=>simp [intOf];omega
    ·cases hq:((hdT s).k==2)
     ·have HT2:Hid (tokT (d+1) (l.take (t+1))=N+(2+(hdT s).args.length+(1+M))):=by
       have h:=HT.out
       rw[←HN.out,tokE_b hk hq] at h
       rw[HM.out]
       exact h
      go_wp2_with fail
      refine(l17Args_any _ _ _ _ _ _ ⟨_,_,_,rfl⟩ ⟨_,_,_,rfl⟩).mono ?_
      rintro e w1 ⟨rfl,b1,s1⟩
      rw[hk]
      have r0:=(b1.cell (p:=⟨b,off+t*5,none⟩) hbl).trans q0
      have r2:=(b1.cell (p:=⟨b,off+t*5+2,none⟩) hbl).trans q2
      have r4:=(b1.cell (p:=⟨b,off+t*5+4,none⟩) hbl).trans q4
      clear q0 q1 q2 q3 q4
      go_wp2_with fail
      refine(ih lo _ _ _ (bdT s) _ (HB.out.below b1) hz2).mono ?_
      rintro e w2 ⟨rfl,b2,s2⟩
      rw[←HM.out]
      go_wp2_with fail
      go_roundw
      case rel=>exact ⟨t+1,by omega,by go_num,by rw[HT2.out];congr 1;omega,((hb.trans (b1.mono hb.size)).trans (b2.mono Zq1))⟩
      case measure=>simp [intOf];omega
     ·have HT2:Hid (tokT (d+1) (l.take (t+1))=N+(3+(hdT s).args.length+(1+M))):=by
       have h:=HT.out
       rw[←HN.out,tokE_c hk hq] at h
       rw[HM.out]
       exact h
      go_wp2_with fail
      refine(l17Args_any _ _ _ _ _ _ ⟨_,_,_,rfl⟩ ⟨_,_,_,rfl⟩).mono ?_
      rintro e w1 ⟨rfl,b1,s1⟩
      rw[hk]
      have r0:=(b1.cell (p:=⟨b,off+t*5,none⟩) hbl).trans q0
      have r2:=(b1.cell (p:=⟨b,off+t*5+2,none⟩) hbl).trans q2
      have r4:=(b1.cell (p:=⟨b,off+t*5+4,none⟩) hbl).trans q4
      clear q0 q1 q2 q3 q4
      go_wp2_with fail
      refine(ih lo _ _ _ (bdT s) _ (HB.out.below b1) hz2).mono ?_
      rintro e w2 ⟨rfl,b2,s2⟩
      rw[←HM.out]
      go_wp2_with fail
      go_roundw
      case rel=>exact ⟨t+1,by omega,by go_num,by rw[HT2.out];congr 1;omega,((hb.trans (b1.mono hb.size)).trans (b2.mono Zq1))⟩
      case measure=>simp [intOf];omega
   ·obtain rfl:t=n:=by omega
    have HF:Hid (N=tokT (d+1) l):=by
     have h:=HN.out
     rw[List.take_of_length_le (by rw[HL.out];exact Nat.le_refl _)] at h
     exact h
    go_wp2
    go_ret
    exact ⟨by rw[←HF.out];rfl,hb,hb.size⟩
theorem RdT.take {w:World} {lo d n:Nat} {A:Option Addr} {l:List (Tr (d+1))} (h:RdT w lo (d+1) A n l) {t:Nat} (ht:t≤n):RdT w lo (d+1) A t (l.take t):=by
 refine ⟨by rw[List.length_take,h.1];omega,fun h0=>?_⟩
 obtain ⟨b,off,e,h1,hb,hc⟩:=h.2 Zq1
 refine ⟨b,off,e,h1,hb,fun i s hi=>hc i s ?_⟩
 rw[List.getElem?_take] at hi
 split at hi
 ·exact hi
 ·cases hi
theorem RdT.drop {w:World} {lo d n b off:Nat} {l:List (Tr (d+1))} (h:RdT w lo (d+1) (some ⟨b,off,none⟩) n l) {t:Nat} (ht:t≤n):RdT w lo (d+1) (some ⟨b,off+t*5,none⟩) (n - t) (l.drop t):=by
 refine ⟨by rw[List.length_drop,h.1],fun h0=>?_⟩
 obtain ⟨b',off',e,h1,hb,hc⟩:=h.2 Zq1
 injection e with e
 injection e with e1 e2
 subst e1 e2
 refine ⟨b,off+t*5,rfl,h1,hb,fun i s hi=>?_⟩
 rw[List.getElem?_drop] at hi
 obtain ⟨Aa,ca,Ab,nb,cb,h1,h2⟩:=hc _ s hi
 rw[show off+(t+i)*5=off+t*5+i*5 by omega] at h1
 exact ⟨Aa,ca,Ab,nb,cb,h1,h2⟩
theorem RdT.nil {w:World} {lo d:Nat} {A:Option Addr}:RdT w lo (d+1) A 0 []:=⟨rfl,fun h=>absurd h Zq1⟩
theorem nest_from {d:Nat} (l:List (Tr (d+1))):∀ m:Nat,l.foldl (fun (m:Nat) (s:Tr (d+1))=>if hasB (hdT s).k then max m (1+nestT d (bdT s)) else m) m=max m (nestT (d+1) l):=by
 induction l with
 | nil=>intro m;simp [nestT]
 | cons s l ih =>
  intro m
  show l.foldl _ (if hasB (hdT s).k then max m (1+nestT d (bdT s)) else m)=max m (l.foldl _ (if hasB (hdT s).k then max 0 (1+nestT d (bdT s)) else 0))
  rw[ih,ih]
  split <;> omega
theorem nest_cons {d:Nat} (s:Tr (d+1)) (l:List (Tr (d+1))):nestT (d+1) (s :: l)=max (if hasB (hdT s).k then 1+nestT d (bdT s) else 0) (nestT (d+1) l):=by
 show l.foldl _ (if hasB (hdT s).k then max 0 (1+nestT d (bdT s)) else 0)=_
 rw[nest_from]
 split <;> simp
def gcount:List Opt→Nat
 | []=>0
 | o :: l=>(if o.k=1 then 1 else 0)+gcount l
theorem gcount_snoc (l:List Opt) (o:Opt):gcount (l++[o])=gcount l+(if o.k=1 then 1 else 0):=by
 induction l with
 | nil=>simp [gcount]
 | cons x l ih=>simp only[List.cons_append,gcount,ih];omega
theorem gcount_le:∀ l:List Opt,gcount l≤l.length
 | []=>by simp [gcount]
 | o :: l=>by have:=gcount_le l;simp only[gcount,List.length_cons];split <;> omega
theorem gcount_take (l:List Opt) (t:Nat) (o:Opt) (h:l[t]?=some o):gcount (l.take (t+1))=gcount (l.take t)+(if o.k=1 then 1 else 0):=by
 rw[List.take_add_one,h]
 exact gcount_snoc _ _
theorem RoutineGateCount_spec (N I B:Int) (A:Option Addr) (n c:Nat) (l:List Opt) (w:World) (h:Rd w 8 A n (l.flatMap ocells)) (hl:l.length=n) (hn:n≤1099511627776) :
  Calls Try.prog 11 #[.agg #[.int .i64 N,.int .i64 I,.int .i64 B,.slice A n c]] w fun e w'=>e=.returned (.int .i64 (gcount l))∧Below w.heap.size w w'∧w.heap.size≤w'.heap.size:=by
 have b0:Below w.heap.size w (w.alloc (.cells #[.int .i64 N,.int .i64 I,.int .i64 B,.slice A n c] 33)):=Zq0
 have H:=hD (h.below b0)
 have HL:=hD hl
 clear h hl b0
 go_enter Try.func11,Try.ntmps11
 go_wp2
 obtain ⟨w0,hw0⟩:∃ w0,w0=w.alloc (.cells #[.int .i64 N,.int .i64 I,.int .i64 B,.slice A n c] 33):=⟨_,rfl⟩
 rw[←hw0] at H ⊢
 have x0:Hid (w0.heap[w.heap.size]?=some (.cells #[.int .i64 N,.int .i64 I,.int .i64 B,.slice A n c] 33 (0,0))):=by rw[hw0];exact boxed1_0 _ _
 have b0:Below w.heap.size w w0:=by rw[hw0];exact Zq0
 have S0:=hD (show w.heap.size+1=w0.heap.size by rw[hw0];simp)
 clear hw0
 go_loopw [3,4] (fun m i wr=>∃ t:Nat,t≤n∧i=.int .i64 t∧m=.int .i64 (gcount (l.take t))∧Below w0.heap.size w0 wr) (fun _ i _=>n - (intOf i).toNat)
 case atStart=>exact ⟨0,Nat.zero_le _,rfl,rfl,Below.refl _ _⟩
 case round =>
  obtain ⟨t,ht,rfl,rfl,hb⟩:=hrel
  have hbs:=hb.size
  have hgc:gcount (l.take t)≤t:=Nat.le_trans (gcount_le _) (List.length_take_le t l)
  obtain ⟨G,hG⟩:∃ G,G=gcount (l.take t):=⟨_,rfl⟩
  rw[←hG] at hgc ⊢
  have HG:=hD hG
  clear hG
  obtain ⟨_,_,_,p3⟩:=boxcells4 (lay:=hb) x0.out
  by_cases hlt:t<n
  ·have htl:t<l.length:=by rw[HL.out];exact hlt
   obtain ⟨o,ho⟩:∃ o,l[t]?=some o:=⟨_,List.getElem?_eq_getElem htl⟩
   obtain ⟨b,off,rfl,hbl,hc⟩:=H.out.2 Zq1
   have q0:wr.cell? ⟨b,off+t*8,none⟩=some (.int .i64 o.k):=(hb.cell (by have:=hbl;simp;omega)).trans (hc (t*8+0) _ (flat_at ocells_len l t o 0 ho Zq4))
   have q1:wr.cell? ⟨b,off+t*8+1,none⟩=some (.int .i64 o.g.k):=(hb.cell (by have:=hbl;simp;omega)).trans (hc (t*8+1) _ (flat_at ocells_len l t o 1 ho Zq4))
   have q2:wr.cell? ⟨b,off+t*8+2,none⟩=some (.int .i64 o.g.a):=(hb.cell (by have:=hbl;simp;omega)).trans (hc (t*8+2) _ (flat_at ocells_len l t o 2 ho Zq4))
   have q3:wr.cell? ⟨b,off+t*8+3,none⟩=some (.int .i64 o.g.b):=(hb.cell (by have:=hbl;simp;omega)).trans (hc (t*8+3) _ (flat_at ocells_len l t o 3 ho Zq4))
   have q4:wr.cell? ⟨b,off+t*8+4,none⟩=some (.int .i64 o.g.c):=(hb.cell (by have:=hbl;simp;omega)).trans (hc (t*8+4) _ (flat_at ocells_len l t o 4 ho Zq4))
   have q5:wr.cell? ⟨b,off+t*8+5,none⟩=some (.int .i64 o.q):=(hb.cell (by have:=hbl;simp;omega)).trans (hc (t*8+5) _ (flat_at ocells_len l t o 5 ho Zq4))
   have q6:wr.cell? ⟨b,off+t*8+6,none⟩=some (.int .i64 o.bit):=(hb.cell (by have:=hbl;simp;omega)).trans (hc (t*8+6) _ (flat_at ocells_len l t o 6 ho Zq4))
   have q7:wr.cell? ⟨b,off+t*8+7,none⟩=some (.int .i64 o.cond):=(hb.cell (by have:=hbl;simp;omega)).trans (hc (t*8+7) _ (flat_at ocells_len l t o 7 ho Zq4))
   have HS:=hD (gcount_take l t o ho)
   clear hc ho htl
   by_cases hk:o.k=1
   ·have hk':(o.k==1)=true:=by simp [hk]
    have HK:=hD hk
    clear hk
    go_wp2
    go_roundw
    case rel=>exact ⟨t+1,by omega,by go_num,by rw[HS.out,if_pos HK.out,←HG.out];go_num,Zq0⟩
    case measure=>simp [intOf];omega
   ·have hk':(o.k==1)=false:=by simp [hk]
    have HK:=hD hk
    clear hk
    go_wp2
    go_roundw
    case rel=>exact ⟨t+1,by omega,by go_num,by rw[HS.out,if_neg HK.out,←HG.out];go_num,Zq0⟩
    case measure=>simp [intOf];omega
  ·obtain rfl:t=n:=by omega
   have HT:Hid (G=gcount l):=by
    have h:=HG.out
    rw[List.take_of_length_le (by rw[HL.out];exact Nat.le_refl _)] at h
    exact h
   go_wp2
   go_ret
   exact ⟨by rw[←HT.out];rfl,b0.trans (hb.mono (by have:=S0.out;omega)),by have:=hb.size;have:=S0.out;omega⟩
def okO (N B K:Int) (o:Opt):Bool:=validOp o N B&&(!decide (K<o.cond)&&!(o.k==2&&o.bit != K))
def vst (N B:Int) (s:Option Int) (o:Opt):Option Int:=match s with
 | none=>none
 | some K=>if okO N B K o=true then some (K+if o.k=2 then 1 else 0) else none
def vrun (N B:Int) (l:List Opt):Option Int:=l.foldl (vst N B) (some 0)
def validRt (N I B:Int) (l:List Opt):Bool:=inB N 1 4&&(inB I 1 N&&(inB B 0 3&&(decide (l.length≤120)&&vrun N B l==some B)))
theorem validRt_in {N I B:Int} {l:List Opt} (e1:inB N 1 4=true) (e2:inB I 1 N=true) (e3:inB B 0 3=true) (h:l.length≤120):validRt N I B l=(vrun N B l==some B):=by
 unfold validRt;rw[e1,e2,e3];simp [h]
theorem vrun_good {N B K:Int} {l:List Opt} {t:Nat} {o:Opt} (h:vrun N B (l.take t)=some K) (ho:l[t]?=some o) (hk:okO N B K o=true):vrun N B (l.take (t+1))=some (K+if o.k=2 then 1 else 0):=by
 rw[List.take_add_one,ho]
 unfold vrun at h ⊢
 rw[List.foldl_append,h]
 simp [vst,hk]
theorem vst_none (N B:Int) (l:List Opt):l.foldl (vst N B) none=none:=by
 induction l with
 | nil=>rfl
 | cons x l ih=>exact ih
theorem vrun_bad {N B K:Int} {l:List Opt} {t:Nat} {o:Opt} (h:vrun N B (l.take t)=some K) (ho:l[t]?=some o) (hk:okO N B K o=false):vrun N B l=none:=by
 have hlt:=(List.getElem?_eq_some_iff.1 ho).1
 have e:l=l.take t++o :: l.drop (t+1):=by
  have h1:=List.drop_eq_getElem_cons hlt
  have h2:l[t]=o:=by have:=(List.getElem?_eq_some_iff.1 ho).2;exact this
  rw[h2] at h1
  rw[←h1,List.take_append_drop]
 unfold vrun at h ⊢
 rw[e,List.foldl_append,h,List.foldl_cons]
 have:vst N B (some K) o=none:=by simp [vst,hk]
 rw[this]
 exact vst_none N B _
theorem o2_of {o:Opt} (h:(o.k==2)=true):o.k=2:=by simpa using h
theorem o2_not {o:Opt} (h:(o.k==2)=false):¬ o.k=2:=by simpa using h
theorem IsValidRoutine_spec (N I B:Int) (A:Option Addr) (n c:Nat) (l:List Opt) (w:World) (h:Rd w 8 A n (l.flatMap ocells)) (hl:l.length=n) (hn:n≤1099511627776) :
  Calls Try.prog 25 #[.agg #[.int .i64 N,.int .i64 I,.int .i64 B,.slice A n c]] w fun e w'=>e=.returned (.bool (validRt N I B l))∧Below w.heap.size w w'∧w.heap.size≤w'.heap.size:=by
 have b0:Below w.heap.size w (w.alloc (.cells #[.int .i64 N,.int .i64 I,.int .i64 B,.slice A n c] 33)):=Zq0
 have H:=hD (h.below b0)
 have HL:=hD hl
 clear h hl b0
 cases e1:inB N 1 4
 ·have HF:=hD (show validRt N I B l=false by simp [validRt,e1])
  go_enter Try.func25,Try.ntmps25
  go_wp2_with (go_at_call 32;refine(l1In_any _ _ _ _).mono ?_;rintro e w' ⟨rfl,rfl⟩)
  go_ret
  exact ⟨by rw[HF.out];rfl,Zq0,Zq2⟩
 cases e2:inB I 1 N
 ·have HF:=hD (show validRt N I B l=false by simp [validRt,e2])
  go_enter Try.func25,Try.ntmps25
  go_wp2_with (go_at_call 32;refine(l1In_any _ _ _ _).mono ?_;rintro e w' ⟨rfl,rfl⟩)
  go_ret
  exact ⟨by rw[HF.out];rfl,Zq0,Zq2⟩
 cases e3:inB B 0 3
 ·have HF:=hD (show validRt N I B l=false by simp [validRt,e3])
  go_enter Try.func25,Try.ntmps25
  go_wp2_with (go_at_call 32;refine(l1In_any _ _ _ _).mono ?_;rintro e w' ⟨rfl,rfl⟩)
  go_ret
  exact ⟨by rw[HF.out];rfl,Zq0,Zq2⟩
 by_cases hle:n≤120
 case neg =>
  have HF:=hD (show validRt N I B l=false by have:=HL.out;simp [validRt];omega)
  have hgt:120<n:=by omega
  clear hle
  go_enter Try.func25,Try.ntmps25
  go_wp2_with (go_at_call 32;refine(l1In_any _ _ _ _).mono ?_;rintro e w' ⟨rfl,rfl⟩)
  go_ret
  exact ⟨by rw[HF.out];rfl,Zq0,Zq2⟩
 have HF:=hD (validRt_in e1 e2 e3 (show l.length≤120 by rw[HL.out];exact hle))
 have hBB:=inB_iff.1 e3
 go_enter Try.func25,Try.ntmps25
 go_wp2_with (go_at_call 32;refine(l1In_any _ _ _ _).mono ?_;rintro e w' ⟨rfl,rfl⟩)
 obtain ⟨w0,hw0⟩:∃ w0,w0=w.alloc (.cells #[.int .i64 N,.int .i64 I,.int .i64 B,.slice A n c] 33):=⟨_,rfl⟩
 rw[←hw0] at H ⊢
 have x0:Hid (w0.heap[w.heap.size]?=some (.cells #[.int .i64 N,.int .i64 I,.int .i64 B,.slice A n c] 33 (0,0))):=by rw[hw0];exact boxed1_0 _ _
 have b0:Below w.heap.size w w0:=by rw[hw0];exact Zq0
 have S0:=hD (show w.heap.size+1=w0.heap.size by rw[hw0];simp)
 clear hw0
 go_loopw [3,4] (fun m i wr=>∃ (t:Nat) (K:Int),t≤n∧i=.int .i64 t∧m=.int .i64 K∧0≤K∧K≤t∧vrun N B (l.take t)=some K∧Below w0.heap.size w0 wr) (fun _ i _=>n - (intOf i).toNat)
 case atStart=>exact ⟨0,0,Nat.zero_le _,rfl,rfl,by omega,by omega,rfl,Below.refl _ _⟩
 case round =>
  obtain ⟨t,K,ht,rfl,rfl,hK0,hK1,hcg,hb⟩:=hrel
  have hbs:=hb.size
  have hlt0:w.heap.size<wr.heap.size:=by have:=S0.out;omega
  have HC:=hD hcg
  clear hcg
  obtain ⟨p0,p1,p2,p3⟩:=boxcells4 (lay:=hb) x0.out
  by_cases hlt:t<n
  ·have htl:t<l.length:=by rw[HL.out];exact hlt
   obtain ⟨o,ho⟩:∃ o,l[t]?=some o:=⟨_,List.getElem?_eq_getElem htl⟩
   obtain ⟨b,off,rfl,hbl,hc⟩:=H.out.2 Zq1
   have q0:wr.cell? ⟨b,off+t*8,none⟩=some (.int .i64 o.k):=(hb.cell (by have:=hbl;simp;omega)).trans (hc (t*8+0) _ (flat_at ocells_len l t o 0 ho Zq4))
   have q1:wr.cell? ⟨b,off+t*8+1,none⟩=some (.int .i64 o.g.k):=(hb.cell (by have:=hbl;simp;omega)).trans (hc (t*8+1) _ (flat_at ocells_len l t o 1 ho Zq4))
   have q2:wr.cell? ⟨b,off+t*8+2,none⟩=some (.int .i64 o.g.a):=(hb.cell (by have:=hbl;simp;omega)).trans (hc (t*8+2) _ (flat_at ocells_len l t o 2 ho Zq4))
   have q3:wr.cell? ⟨b,off+t*8+3,none⟩=some (.int .i64 o.g.b):=(hb.cell (by have:=hbl;simp;omega)).trans (hc (t*8+3) _ (flat_at ocells_len l t o 3 ho Zq4))
   have q4:wr.cell? ⟨b,off+t*8+4,none⟩=some (.int .i64 o.g.c):=(hb.cell (by have:=hbl;simp;omega)).trans (hc (t*8+4) _ (flat_at ocells_len l t o 4 ho Zq4))
   have q5:wr.cell? ⟨b,off+t*8+5,none⟩=some (.int .i64 o.q):=(hb.cell (by have:=hbl;simp;omega)).trans (hc (t*8+5) _ (flat_at ocells_len l t o 5 ho Zq4))
   have q6:wr.cell? ⟨b,off+t*8+6,none⟩=some (.int .i64 o.bit):=(hb.cell (by have:=hbl;simp;omega)).trans (hc (t*8+6) _ (flat_at ocells_len l t o 6 ho Zq4))
   have q7:wr.cell? ⟨b,off+t*8+7,none⟩=some (.int .i64 o.cond):=(hb.cell (by have:=hbl;simp;omega)).trans (hc (t*8+7) _ (flat_at ocells_len l t o 7 ho Zq4))
   have HO:=hD ho
   clear hc ho htl
   go_wp2_with fail
   obtain ⟨w1,hw1⟩:∃ w1,w1=wr.alloc (.cells #[.int .i64 o.k,.int .i64 o.g.k,.int .i64 o.g.a,.int .i64 o.g.b,.int .i64 o.g.c,.int .i64 o.q,.int .i64 o.bit,.int .i64 o.cond] 60):=⟨_,rfl⟩
   rw[←hw1]
   have x1:Hid (w1.heap[wr.heap.size]?=some (.cells #[.int .i64 o.k,.int .i64 o.g.k,.int .i64 o.g.a,.int .i64 o.g.b,.int .i64 o.g.c,.int .i64 o.q,.int .i64 o.bit,.int .i64 o.cond] 60 (0,0))):=by rw[hw1];exact boxed1_0 _ _
   have b1:Below w0.heap.size w0 w1:=by rw[hw1];exact hb.alloc hbs _
   have s1:wr.heap.size+1=w1.heap.size:=by rw[hw1];simp
   have S1:=hD s1
   clear hw1 s1 p0 p1 p2 p3 q0 q1 q2 q3 q4 q5 q6 q7
   refine(IsValidOp_spec _ _ _ _ _ _ _ _ _ _ _).mono ?_
   rintro e w2 ⟨rfl,b2,s2⟩
   have hs1:=S1.out
   have b12:Below w0.heap.size w0 w2:=b1.trans (b2.mono Zq1)
   have hle2:wr.heap.size<w2.heap.size:=by omega
   clear hs1
   obtain ⟨p0,p1,p2,p3⟩:=boxcells4 (lay:=b12) x0.out
   obtain ⟨z0,z1,z2,z3,z4,z5,z6,z7⟩:=boxcells8 (lay:=b2) x1.out
   cases hv:validOp ⟨o.k,⟨o.g.k,o.g.a,o.g.b,o.g.c⟩,o.q,o.bit,o.cond⟩ N B
   ·have HE:=hD (vrun_bad HC.out HO.out (by simp only[okO];rw[show validOp o N B=false from hv];rfl))
    go_wp2_with fail
    all_goals go_ret
    all_goals exact ⟨by rw[HF.out,HE.out];rfl,b0.trans (b12.mono (by have:=S0.out;omega)),by have:=S0.out;have:=S1.out;omega⟩
   by_cases hco:K<o.cond
   ·have HE:=hD (vrun_bad HC.out HO.out (by simp [okO,hco]))
    go_wp2_with fail
    all_goals go_ret
    all_goals exact ⟨by rw[HF.out,HE.out];rfl,b0.trans (b12.mono (by have:=S0.out;omega)),by have:=S0.out;have:=S1.out;omega⟩
   have hco2:o.cond≤K:=by omega
   have HCO:=hD hco
   clear hco
   cases hk:(o.k==2)
   ·have HS:=hD (vrun_good HC.out HO.out (by simp only[okO];rw[show validOp o N B=true from hv,hk];simp [HCO.out]))
    have HK:=hD hk
    go_wp2_with fail
    go_roundw
    case rel=>exact ⟨t+1,K,by omega,by go_num,rfl,by omega,by omega,by rw[HS.out];exact congrArg some (by simp [o2_not HK.out]),b12⟩
    case measure=>simp [intOf];omega
   cases hbt:(o.bit==K)
   ·have hbt':(o.bit != K)=true:=by simp only[bne,hbt];rfl
    have HE:=hD (vrun_bad HC.out HO.out (by simp only[okO];rw[hk,hbt'];simp))
    go_wp2_with fail
    all_goals go_ret
    all_goals exact ⟨by rw[HF.out,HE.out];rfl,b0.trans (b12.mono (by have:=S0.out;omega)),by have:=S0.out;have:=S1.out;omega⟩
   ·have hbt':(o.bit != K)=false:=by simp only[bne,hbt];rfl
    have HS:=hD (vrun_good HC.out HO.out (by simp only[okO];rw[show validOp o N B=true from hv,hk,hbt'];simp [HCO.out]))
    have HK:=hD hk
    go_wp2_with fail
    go_roundw
    case rel=>exact ⟨t+1,K+1,by omega,by go_num,rfl,by omega,by omega,by rw[HS.out];exact congrArg some (by simp [o2_of HK.out]),b12⟩
    case measure=>simp [intOf];omega
  ·obtain rfl:t=n:=by omega
   have HT:Hid (vrun N B l=some K):=by
    have h:=HC.out
    rw[List.take_of_length_le (by rw[HL.out];exact Nat.le_refl _)] at h
    exact h
   go_wp2_with fail
   go_ret
   exact ⟨by rw[HF.out,HT.out];rfl,b0.trans (hb.mono (by have:=S0.out;omega)),by have:=hb.size;have:=S0.out;omega⟩
def RelS (r D:List Opt × Es):Prop:=(r.2.bad=false→r=D)∧(r.2.bad=true→120<D.1.length)
theorem dL_len {α:Type} {one:α→Es→List Opt × Es}:∀ (l:List α) (out:List Opt) (e:Es),out.length≤(dL one l out e).1.length:=by
 intro l
 induction l with
 | nil=>intro out e;exact Nat.le_refl _
 | cons s l ih =>
  intro out e
  have:=ih (out++(one s e).1) (one s e).2
  rw[List.length_append] at this
  show out.length≤(dL one l (out++(one s e).1) (one s e).2).1.length
  omega
section
variable {α:Type} {one oned:α→Es→List Opt × Es} (Q:List α→Es→Prop)
 (hQ:∀ s l e,Q (s :: l) e→e.bad=false→RelS (one s e) (oned s e)∧(oned s e).2.bad=false∧Q l (oned s e).2)
include hQ
theorem relS_list (hm:∀ s e,e.bad=true→(one s e).2.bad=true):∀ (l:List α) (out:List Opt) (e:Es) (outD:List Opt) (eD:Es),Q l eD→eD.bad=false →
  ((e.bad=false∧out=outD∧e=eD)∨(e.bad=true∧120<outD.length))→RelS (sL one l out e) (dL oned l outD eD):=by
 intro l
 induction l with
 | nil =>
  intro out e outD eD hq hb h
  rcases h with ⟨h1,rfl,rfl⟩|⟨h1,h2⟩
  ·exact ⟨fun _=>rfl,fun h=>by rw[show(sL one [] out e).2=e from rfl,h1] at h;cases h⟩
  ·exact ⟨fun h=>(by rw[show(sL one [] out e).2=e from rfl,h1] at h;cases h),fun _=>h2⟩
 | cons s l ih =>
  intro out e outD eD hq hb h
  obtain ⟨g1,g2,g3⟩:=hQ s l eD hq hb
  have hlen:=dL_len (one:=oned) l (outD++(oned s eD).1) (oned s eD).2
  rw[List.length_append] at hlen
  show RelS (if 2000<(out++(one s e).1).length then ([],⟨(one s e).2.bits,(one s e).2.most,true⟩) else sL one l (out++(one s e).1) (one s e).2) (dL oned l (outD++(oned s eD).1) (oned s eD).2)
  split
  ·rename_i hbig
   refine ⟨fun h=>(by cases h),fun _=>?_⟩
   rcases h with ⟨h1,rfl,rfl⟩|⟨h1,h2⟩
   ·cases hr:(one s e).2.bad
    ·rw[g1.1 hr,List.length_append] at hbig
     omega
    ·have:=g1.2 hr
     omega
   ·omega
  ·refine ih _ _ _ _ g3 g2 ?_
   rcases h with ⟨h1,rfl,rfl⟩|⟨h1,h2⟩
   ·cases hr:(one s e).2.bad
    ·have:=g1.1 hr
     exact .inl ⟨rfl,by rw[this],by rw[this]⟩
    ·have:=g1.2 hr
     exact .inr ⟨rfl,by rw[List.length_append];omega⟩
   ·exact .inr ⟨hm s e h1,by rw[List.length_append];omega⟩
theorem relI_list:∀ (l:List α) (out:List Opt) (e:Es) (outD:List Opt) (eD:Es),Q l eD→eD.bad=false →
  ((e.bad=false∧out=outD∧e=eD)∨(e.bad=true∧120<outD.length))→RelS (iL one l out e) (dL oned l outD eD):=by
 intro l
 induction l with
 | nil =>
  intro out e outD eD hq hb h
  rcases h with ⟨h1,rfl,rfl⟩|⟨h1,h2⟩
  ·exact ⟨fun _=>rfl,fun h=>by rw[show(iL one [] out e).2=e from rfl,h1] at h;cases h⟩
  ·exact ⟨fun h=>(by rw[show(iL one [] out e).2=e from rfl,h1] at h;cases h),fun _=>h2⟩
 | cons s l ih =>
  intro out e outD eD hq hb h
  obtain ⟨g1,g2,g3⟩:=hQ s l eD hq hb
  have hlen:=dL_len (one:=oned) l (outD++(oned s eD).1) (oned s eD).2
  rw[List.length_append] at hlen
  show RelS (if e.bad=true then ([],e) else iL one l (out++(one s e).1) ⟨(one s e).2.bits,(one s e).2.most,(one s e).2.bad || decide (120<(out++(one s e).1).length)⟩) (dL oned l (outD++(oned s eD).1) (oned s eD).2)
  rcases h with ⟨h1,rfl,rfl⟩|⟨h1,h2⟩
  ·rw[if_neg (by rw[h1];exact Bool.false_ne_true)]
   refine ih _ _ _ _ g3 g2 ?_
   cases hr:(one s e).2.bad
   ·have hone:=g1.1 hr
    by_cases hbig:120<(out++(one s e).1).length
    ·exact .inr ⟨by simp only[decide_eq_true hbig,Bool.or_true],by rw[hone] at hbig;exact hbig⟩
    ·refine .inl ⟨by simp only[decide_eq_false hbig,Bool.or_false],by rw[hone],?_⟩
     rw[decide_eq_false hbig,Bool.or_false]
     have e1:(⟨(one s e).2.bits,(one s e).2.most,false⟩:Es)=(one s e).2:=by rw[←hr]
     rw[e1,hone]
   ·have:=g1.2 hr
    exact .inr ⟨by simp only[Bool.true_or],by rw[List.length_append];omega⟩
  ·rw[if_pos h1]
   exact ⟨fun h=>(by rw[show(([]:List Opt),e).2=e from rfl,h1] at h;cases h),fun _=>by omega⟩
end
def Ctl (names held:List ByteArray) (o:Opt):Prop:=o.k=1→validG o.g 4=true∧(∀ a,hasS held a=true→actsG o.g (fS names a)=false)∧ctlS o.g.k held.length=true
def Cx (names held:List ByteArray):Prop:=names.length≤4∧∀ a,hasS held a=true→hasS names a=true
theorem acts_iff {g:Gt} {q:Int}:actsG g q=true ↔ q∈(qsOf g).take (ar g.k):=by unfold actsG hasI;simp
theorem ar_1 {k:Int} (h1:1≤k) (h2:k≤8):ar k=1:=if_pos (inB_iff.2 ⟨h1,h2⟩)
theorem ar_2 {k:Int} (h1:9≤k) (h2:k≤11):ar k=2:=by
 unfold ar
 rw[if_neg (fun h=>by have:=inB_iff.1 h;omega),if_pos (inB_iff.2 ⟨h1,h2⟩)]
theorem ar_3:ar 12=3:=by decide
theorem valid_1 {g:Gt} (ha:ar g.k=1):validG g 4=true ↔ (0≤g.a∧g.a≤3)∧g.b=0∧g.c=0:=by
 unfold validG
 rw[ha]
 simp [vupto,vstep,qsOf,inB_iff,and_assoc,show inB 4 1 4=true from by decide]
theorem valid_2 {g:Gt} (ha:ar g.k=2):validG g 4=true ↔ (0≤g.a∧g.a≤3)∧(0≤g.b∧g.b≤3)∧g.b≠g.a∧g.c=0:=by
 unfold validG
 rw[ha]
 simp [vupto,vstep,qsOf,inB_iff,and_assoc,show inB 4 1 4=true from by decide]
theorem valid_3 {g:Gt} (ha:ar g.k=3):validG g 4=true ↔ (0≤g.a∧g.a≤3)∧(0≤g.b∧g.b≤3)∧g.b≠g.a∧(0≤g.c∧g.c≤3)∧g.c≠g.a∧g.c≠g.b:=by
 unfold validG
 rw[ha]
 simp [vupto,vstep,qsOf,inB_iff,and_assoc,show inB 4 1 4=true from by decide]
theorem acts_1 {g:Gt} {q:Int} (ha:ar g.k=1):actsG g q=true ↔ q=g.a:=by rw[acts_iff,ha];simp [qsOf]
theorem acts_2 {g:Gt} {q:Int} (ha:ar g.k=2):actsG g q=true ↔ q=g.a∨q=g.b:=by rw[acts_iff,ha];simp [qsOf]
theorem acts_3 {g:Gt} {q:Int} (ha:ar g.k=3):actsG g q=true ↔ q=g.a∨q=g.b∨q=g.c:=by rw[acts_iff,ha];simp [qsOf]
theorem cgl_ok {q:Int} {g:Gt} {L:List Gt} (hv:validG g 4=true) (hq:0≤q∧q≤3) (ha:actsG g q=false) (h:cgl q g=some L) :
  1≤L.length∧∀ g'∈L,validG g' 4=true∧∀ p,actsG g' p=true→p=q∨actsG g p=true:=by
 have hk:=valid_k hv
 obtain ⟨k,a,b,c⟩:=g
 have hk:1≤k∧k≤12:=hk
 by_cases h8:k≤8
 ·have a1:ar (⟨k,a,b,c⟩:Gt).k=1:=ar_1 hk.1 h8
  have v1:=(valid_1 a1).1 hv
  have n1:q≠a:=fun e=>by have:=(acts_1 a1).2 e;rw[this] at ha;cases ha
  have v1:(0≤a∧a≤3)∧b=0∧c=0:=v1
  have hA:actsG (⟨k,a,b,c⟩:Gt) a=true:=(acts_1 a1).2 rfl
  have one:∀ j:Int,1≤j→j≤8→∀ x,(x=a∨x=q)→validG (g1 j x) 4=true∧∀ p,actsG (g1 j x) p=true→p=q∨actsG (⟨k,a,b,c⟩:Gt) p=true:=by
   intro j j1 j2 x hx
   have aj:ar (g1 j x).k=1:=ar_1 j1 j2
   refine ⟨(valid_1 aj).2 ⟨show 0≤x∧x≤3 by rcases hx with rfl|rfl;exact v1.1;exact hq,rfl,rfl⟩,fun p hp=>?_⟩
   have hp:p=x:=(acts_1 aj).1 hp
   subst hp
   rcases hx with rfl|rfl
   ·exact .inr hA
   ·exact .inl rfl
  have two:∀ j:Int,9≤j→j≤11→validG ⟨j,q,a,0⟩ 4=true∧∀ p,actsG ⟨j,q,a,0⟩ p=true→p=q∨actsG (⟨k,a,b,c⟩:Gt) p=true:=by
   intro j j1 j2
   have aj:ar (⟨j,q,a,0⟩:Gt).k=2:=ar_2 j1 j2
   refine ⟨(valid_2 aj).2 ⟨hq,v1.1,fun e=>n1 e.symm,rfl⟩,fun p hp=>?_⟩
   rcases (acts_2 aj).1 hp with hp|hp
   ·exact .inl hp
   ·have hp:p=a:=hp
    subst hp
    exact .inr hA
  have cx:validG (gcx q a) 4=true∧∀ p,actsG (gcx q a) p=true→p=q∨actsG (⟨k,a,b,c⟩:Gt) p=true:=two 9 Zq1 Zq1
  simp only[cgl] at h
  repeat' (split at h)
  all_goals (first|(cases h;done)|(injection h with h;subst h;refine ⟨by simp,fun g' hg'=>?_⟩;simp only[List.mem_cons,List.not_mem_nil,or_false] at hg'))
  ·subst hg';exact cx
  ·rcases hg' with rfl|rfl|rfl
   ·exact one 6 Zq1 Zq1 a (.inl rfl)
   ·exact cx
   ·exact one 5 Zq1 Zq1 a (.inl rfl)
  ·subst hg';exact two 10 Zq1 Zq1
  ·rcases hg' with rfl|rfl|rfl|rfl|rfl|rfl|rfl
   ·exact one 6 Zq1 Zq1 a (.inl rfl)
   ·exact one 4 Zq1 Zq1 a (.inl rfl)
   ·exact one 8 Zq1 Zq1 a (.inl rfl)
   ·exact cx
   ·exact one 7 Zq1 Zq1 a (.inl rfl)
   ·exact one 4 Zq1 Zq1 a (.inl rfl)
   ·exact one 5 Zq1 Zq1 a (.inl rfl)
  ·rcases hg' with rfl|rfl|rfl|rfl|rfl
   ·exact one 7 Zq1 Zq1 q (.inr rfl)
   ·exact one 7 Zq1 Zq1 a (.inl rfl)
   ·exact cx
   ·exact one 8 Zq1 Zq1 a (.inl rfl)
   ·exact cx
  ·rcases hg' with rfl|rfl|rfl|rfl|rfl
   ·exact one 8 Zq1 Zq1 q (.inr rfl)
   ·exact one 8 Zq1 Zq1 a (.inl rfl)
   ·exact cx
   ·exact one 7 Zq1 Zq1 a (.inl rfl)
   ·exact cx
  all_goals omega
 ·by_cases h12:k=12
  ·subst h12
   simp [cgl] at h
  ·have a2:ar (⟨k,a,b,c⟩:Gt).k=2:=ar_2 (by show 9≤k;omega) (by show k≤11;omega)
   have v2:(0≤a∧a≤3)∧(0≤b∧b≤3)∧b≠a∧c=0:=(valid_2 a2).1 hv
   have n1:q≠a:=fun e=>by have:=(acts_2 a2).2 (.inl e);rw[this] at ha;cases ha
   have n2:q≠b:=fun e=>by have:=(acts_2 a2).2 (.inr e);rw[this] at ha;cases ha
   have hA:actsG (⟨k,a,b,c⟩:Gt) a=true:=(acts_2 a2).2 (.inl rfl)
   have hB:actsG (⟨k,a,b,c⟩:Gt) b=true:=(acts_2 a2).2 (.inr rfl)
   have h4:validG (g1 4 b) 4=true∧∀ p,actsG (g1 4 b) p=true→p=q∨actsG (⟨k,a,b,c⟩:Gt) p=true:=by
    have aj:ar (g1 4 b).k=1:=ar_1 (k:=4) Zq4 Zq4
    refine ⟨(valid_1 aj).2 ⟨v2.2.1,rfl,rfl⟩,fun p hp=>?_⟩
    have hp:p=b:=(acts_1 aj).1 hp
    subst hp
    exact .inr hB
   have hba:validG (gcx b a) 4=true∧∀ p,actsG (gcx b a) p=true→p=q∨actsG (⟨k,a,b,c⟩:Gt) p=true:=by
    have aj:ar (gcx b a).k=2:=ar_2 (k:=9) Zq4 Zq4
    refine ⟨(valid_2 aj).2 ⟨v2.2.1,v2.1,fun e=>v2.2.2.1 e.symm,rfl⟩,fun p hp=>?_⟩
    rcases (acts_2 aj).1 hp with hp|hp
    ·have hp:p=b:=hp
     subst hp
     exact .inr hB
    ·have hp:p=a:=hp
     subst hp
     exact .inr hA
   have ccx:validG ⟨12,q,a,b⟩ 4=true∧∀ p,actsG ⟨12,q,a,b⟩ p=true→p=q∨actsG (⟨k,a,b,c⟩:Gt) p=true:=by
    have aj:ar (⟨12,q,a,b⟩:Gt).k=3:=ar_3
    refine ⟨(valid_3 aj).2 ⟨hq,v2.1,fun e=>n1 e.symm,v2.2.1,fun e=>n2 e.symm,v2.2.2.1⟩,fun p hp=>?_⟩
    rcases (acts_3 aj).1 hp with hp|hp|hp
    ·exact .inl hp
    ·have hp:p=a:=hp
     subst hp
     exact .inr hA
    ·have hp:p=b:=hp
     subst hp
     exact .inr hB
   simp only[cgl] at h
   repeat' (split at h)
   all_goals (first|(exfalso;omega)|(cases h;done)|(injection h with h;subst h;refine ⟨by simp,fun g' hg'=>?_⟩;simp only[List.mem_cons,List.not_mem_nil,or_false] at hg'))
   ·subst hg';exact ccx
   ·rcases hg' with rfl|rfl|rfl
    ·exact h4
    ·exact ccx
    ·exact h4
   ·rcases hg' with rfl|rfl|rfl
    ·exact hba
    ·exact ccx
    ·exact hba
end Go.Proofs.Ythkbckkghnbonaa
