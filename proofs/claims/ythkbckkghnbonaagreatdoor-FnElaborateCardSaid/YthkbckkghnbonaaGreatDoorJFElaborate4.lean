/- What the calls that this law reaches answer, part 4 of 20. -/
import Derived.Test.YthkbckkghnbonaaGreatDoorJFElaborate3
import Derived.Test.YthkbckkghnbonaaGreatDoorJFElaborate2
import Derived.Test.YthkbckkghnbonaaGreatDoorJFElaborate1
import Derived.Orders
import Derived.Test.YthkbckkghnbonaaGreatDoorProg
set_option maxRecDepth 100000
set_option maxHeartbeats 16000000
set_option linter.unusedVariables false
namespace Go.Proofs.YthkbckkghnbonaaGreatDoor
open Go.RowKit
set_option linter.unusedVariables false
def arg1 (h:SH):ByteArray:=h.args.getD 1 ⟨#[]⟩
theorem yiq {h:SH} (hl:1<h.args.length):h.args[1]?=some (arg1 h):=by
 unfold arg1
 rw[List.getD_eq_getElem?_getD,List.getElem?_eq_getElem hl]
 rfl
def yca (names bits:List ByteArray) (q b:ByteArray):Bad × List ByteArray :=
 if hasS names q=false then ((2,q),bits)
 else if hasS names b=true then ((1,b),bits)
 else if hasS bits b=true then ((1,b),bits)
 else if bits.length=3 then ((8,b),bits)
 else (bad0,bits++[b])
def oneT (d:Nat) (h:SH) (bd:List (Tr d)) (names bits:List ByteArray):Bad × List ByteArray :=
 if h.k=6 then yca names bits (arg0 h) (arg1 h)
 else if h.k=7 then (if hasS bits (arg0 h)=true then chkN d bd names [] else (7,arg0 h),bits)
 else (oneN h (chkN d bd) names [],bits)
def topB {α:Type} (f:α→List ByteArray→Bad × List ByteArray):List α→List ByteArray→Bad
 | [],_=>bad0
 | s :: l,bits=>if (f s bits).1.1=0 then topB f l (f s bits).2 else (f s bits).1
def chkT:(d:Nat)→List (Tr d)→List ByteArray→List ByteArray→Bad
 | 0,_,_,_=>bad0
 | d+1,l,names,bits=>topB (fun s bits=>oneT d (hdT s) (bdT s) names bits) l bits
theorem yoe {α:Type} {f:α→List ByteArray→Bad × List ByteArray} {l:List α} {t:Nat} {s:α} {bits:List ByteArray} (h:l[t]?=some s):topB f (l.drop t) bits=if (f s bits).1.1=0 then topB f (l.drop (t+1)) (f s bits).2 else (f s bits).1:=by
 obtain ⟨ht,he⟩:=List.getElem?_eq_some_iff.1 h
 rw[List.drop_eq_getElem_cons ht,topB,he]
theorem ylg {names bits:List ByteArray} {q b:ByteArray} (h:bits.length≤3):(yca names bits q b).2.length≤3:=by
 unfold yca
 split
 ·exact h
 ·split
  ·exact h
  ·split
   ·exact h
   ·split
    ·exact h
    ·simp
     omega
theorem ysc {d:Nat} {h:SH} {bd:List (Tr d)} {names bits:List ByteArray} (hb:bits.length≤3):(oneT d h bd names bits).2.length≤3:=by
 unfold oneT
 split
 ·exact ylg hb
 ·split <;> exact hb
structure Mod (X:Nat) (r:Option Nat) (w w':World):Prop where
 os:w'.os=w.os
 tape:w'.tape=w.tape
 output:w'.output=w.output
 size:w.heap.size≤w'.heap.size
 block:∀ b,b<w.heap.size→b≠X→r≠some b→w'.heap[b]?=w.heap[b]?
theorem Mod.of_below {w w':World} (X:Nat) (r:Option Nat) (h:Below w.heap.size w w'):Mod X r w w':=⟨h.os,h.tape,h.output,h.size,fun b hb _ _=>h.block b hb⟩
theorem Mod.trans {X:Nat} {r r':Option Nat} {w w1 w2:World} (h:Mod X r w w1) (h':Mod X r' w1 w2) (hr:r'=r∨∃ k,r'=some k∧w.heap.size≤k):Mod X r w w2 :=
 ⟨h'.os.trans h.os,h'.tape.trans h.tape,h'.output.trans h.output,Nat.le_trans h.size h'.size,fun b hb h1 h2 =>
  (h'.block b (Nat.lt_of_lt_of_le hb h.size) h1 (by
   rcases hr with rfl|⟨k,rfl,hk⟩
   ·exact h2
   ·intro e
    have:=Option.some.inj e
    omega)).trans (h.block b hb h1 h2)⟩
theorem Mod.grown {X:Nat} {r:Option Nat} {w w1:World} (h:w.grownBy w1 r):Mod X r w w1:=⟨h.os,h.tape,h.output,h.size,fun b hb _ h2=>h.block b hb (fun e=>h2 e.symm)⟩
theorem Mod.set {X:Nat} {r:Option Nat} {w w1:World} (h:Mod X r w w1) {p:Addr} (hp:p.block=X∨w.heap.size≤p.block) (u:Value):Mod X r w (w1.setCell p u) :=
 ⟨by simp [World.setCell,h.os],by simp [World.setCell,h.tape],by simp [World.setCell,h.output],by rw[ych];exact h.size,fun b hb h1 h2=>by
  rw[←h.block b hb h1 h2]
  exact Below.heap_setCell w1 p u b (fun e=>by rcases hp with hp|hp <;> omega)⟩
theorem Mod.below {X B:Nat} {r:Option Nat} {w w':World} (h:Mod X r w w') (hB:B≤w.heap.size) (hX:B≤X) (hr:∀ k,r=some k→B≤k):Below B w w' :=
 ⟨h.os,h.tape,h.output,h.size,fun b hb=>h.block b Zq6 Zq6 (fun e=>by have:=hr b e;omega)⟩
structure CkS (w:World) (base X:Nat) (bits:List ByteArray) (v:Value):Prop where
 x:w.heap[X]?=some (.cells #[v] 148 (0,0))
 o:w.ownsRow base 9 1 v bits.length (strs bits)
def Grew (r:Option Nat) (z:Nat) (r':Option Nat):Prop:=r'=r∨∃ k,r'=some k∧z≤k
def RetM (base X:Nat) (v:Value) (r:Bad × List ByteArray) (w:World) (e:Ending) (w':World):Prop :=
 ∃ v',e=.returned (.tuple #[.int .i64 r.1.1,.string r.1.2])∧CkS w' base X r.2 v'∧Mod X v.ownBlock w w'∧Grew v.ownBlock w.heap.size v'.ownBlock
theorem CkS.below {w w':World} {base X:Nat} {bits:List ByteArray} {v:Value} (h:CkS w base X bits v) (hb:Below w.heap.size w w'):CkS w' base X bits v :=
 ⟨(hb.block _ (lt_of_block h.x)).trans h.x,yat h.o hb⟩
theorem yeo {w:World} {base e size n g:Nat} {v:Value} {xs:List Value} {cs:Array Value} {t:TypeId} (h:w.ownsRow base e size v n xs) (hg:w.heap[g]?=some (.cells cs t (0,0))) (hne:e≠t):v.ownBlock≠some g:=by
 rcases h.2 with ⟨rfl,_⟩|⟨g',cap,cur,rfl,_,hh,_⟩
 ·simp [Value.ownBlock]
 ·intro he
  have e1:g'=g:=by simpa [Value.ownBlock] using he
  subst e1
  rw[hh] at hg
  injection hg with hg
  injection hg with _ ht
  exact hne ht
theorem ygw {w:World} {base e size n:Nat} {v:Value} {xs:List Value} (h:w.ownsRow base e size v n xs) {p:Addr} (hp:v.ownBlock≠some p.block) (u:Value):(w.setCell p u).ownsRow base e size v n xs:=by
 refine ⟨h.1,?_⟩
 rcases h.2 with hn|⟨g,cap,cur,rfl,hb,hh,rest⟩
 ·exact .inl hn
 ·exact .inr ⟨g,cap,cur,rfl,hb,yc9 hh (fun e=>hp (by simp [Value.ownBlock,e])) u,rest⟩
theorem yjg {w:World} {b j:Nat} {cs:Array Value} {t:TypeId} (h:w.heap[b]?=some (.cells cs t (0,0))):w.frozen? ⟨b,j,none⟩=false:=by simp [World.frozen?,h]
theorem yns (word:ByteArray) (args:List ByteArray) (count:Int) (Aa:Option Addr) (m ca:Nat) (Ac:Option Addr) (nc cc:Nat) (An Ah:Option Addr) (nn cn nh ch base X:Nat) (names bits:List ByteArray) (v:Value) (a c:ByteArray) (w:World)
  (hck:CkS w base X bits v) (hbase:base≤w.heap.size) (hb3:bits.length≤3) (hm:args.length=m) (hra:Rd w 1 Aa m (strs args)) (h2:2≤m) (ha:args[0]?=some a) (hc:args[1]?=some c) (hnn:names.length=nn) (hrn:Rd w 1 An nn (strs names)) (h4:nn≤1048576) :
  Calls Tryz.prog 174 #[.pointer (some ⟨X,0,none⟩),.agg #[.int .i64 6,.string word,.slice Aa m ca,.int .i64 count,.slice Ac nc cc],.agg #[.slice An nn cn,.slice Ah nh ch,.bool false]] w (RetM base X v (yca names bits a c) w):=by
 obtain ⟨i0,hi,hz0,hz1,hz2⟩:=info_parts ydh
 obtain ⟨w0,hw0⟩:∃ w0,w0=(w.alloc (.cells #[.int .i64 6,.string word,.slice Aa m ca,.int .i64 count,.slice Ac nc cc] 66)).alloc (.cells #[.slice An nn cn,.slice Ah nh ch,.bool false] 151):=⟨_,rfl⟩
 have X0:=hD (show w0.heap[w.heap.size]?=some (.cells #[.int .i64 6,.string word,.slice Aa m ca,.int .i64 count,.slice Ac nc cc] 66 (0,0)) by rw[hw0];exact ydo _ _ _)
 have X1:=hD (show w0.heap[w.heap.size+1]?=some (.cells #[.slice An nn cn,.slice Ah nh ch,.bool false] 151 (0,0)) by rw[hw0];exact yem _ _ _)
 have b0:Below w.heap.size w w0:=by rw[hw0];exact Zq0
 have hz:w.heap.size+1<w0.heap.size:=by rw[hw0];simp
 have HW:=hD hw0
 have hraA:=hra.below b0
 have B0:=hD b0
 have HNA:=hD (hrn.below b0)
 have HNN:=hD hnn
 obtain ⟨A,cb,rfl,hcap,_,_⟩:=yah hck.o
 have CK:=hD (hck.below b0)
 have HRB:=hD (ybv CK.out.o)
 have px:=yaj (j:=0) (u:=.slice A bits.length cb) CK.out.x rfl
 have fx:=yjg (j:=0) CK.out.x
 have hxl:X<w0.heap.size:=lt_of_block CK.out.x
 have hxw:X<w.heap.size:=lt_of_block hck.x
 obtain ⟨p0,p1,p2,p3,p4⟩:=yas (lay:=Below.refl _ _) X0.out
 obtain ⟨q0,q1,q2⟩:=ybz (lay:=Below.refl _ _) X1.out
 obtain ⟨b,off,rfl,hbl,hcl⟩:=hraA.2 Zq6
 have r0:=hcl 0 _ (ybr ha)
 have r1:=hcl 1 _ (ybr hc)
 simp only[Nat.add_zero] at r0
 clear hw0 hra hraA hcl ha hc hm hck hrn hnn
 clear b0
 cases e1:hasS names a
 ·have HS:Hid (yca names bits a c=((2,a),bits)):=by rw[yca,if_pos e1];exact rfl
  go_enter Tryz.func174,Tryz.ntmps174
  go_upto_region 1 with (fail)
  rw[←HW.out]
  go_wp2_with (first|(go_at_call 118;(with_reducible refine(yay An nn cn names a w0 HNA.out HNN.out Zq6).mono ?_);rintro e w' ⟨rfl,rfl⟩)|(go_at_call 118;(with_reducible refine(yay An nn cn names c w0 HNA.out HNN.out Zq6).mono ?_);rintro e w' ⟨rfl,rfl⟩)|(go_at_call 118;(with_reducible refine(yay A bits.length cb bits c w0 HRB.out rfl Zq6).mono ?_);rintro e w' ⟨rfl,rfl⟩))
  go_ret2
  exact ⟨_,by rw[HS.out];exact rfl,by rw[HS.out];exact CK.out,Mod.of_below _ _ B0.out,.inl rfl⟩
 ·cases e2:hasS names c
  ·cases e3:hasS bits c
   ·by_cases h3:bits.length=3
    ·have HS:Hid (yca names bits a c=((8,c),bits)):=by rw[yca,if_neg (by rw[e1];decide),if_neg (by rw[e2];decide),if_neg (by rw[e3];decide),if_pos h3];exact rfl
     have d3:decide ((3:Int)≤(bits.length:Int))=true:=by simp;omega
     have d3':decide (3≤bits.length)=true:=by simp;omega
     have H3:=hD h3
     clear h3
     go_enter Tryz.func174,Tryz.ntmps174
     go_upto_region 1 with (fail)
     rw[←HW.out]
     go_wp2_with (first|(go_at_call 118;(with_reducible refine(yay An nn cn names a w0 HNA.out HNN.out Zq6).mono ?_);rintro e w' ⟨rfl,rfl⟩)|(go_at_call 118;(with_reducible refine(yay An nn cn names c w0 HNA.out HNN.out Zq6).mono ?_);rintro e w' ⟨rfl,rfl⟩)|(go_at_call 118;(with_reducible refine(yay A bits.length cb bits c w0 HRB.out rfl Zq6).mono ?_);rintro e w' ⟨rfl,rfl⟩))
     go_ret2
     exact ⟨_,by rw[HS.out];exact rfl,by rw[HS.out];exact CK.out,Mod.of_below _ _ B0.out,.inl rfl⟩
    ·have HS:Hid (yca names bits a c=(bad0,bits++[c])):=by rw[yca,if_neg (by rw[e1];decide),if_neg (by rw[e2];decide),if_neg (by rw[e3];decide),if_neg h3];exact rfl
     have d3:decide ((3:Int)≤(bits.length:Int))=false:=by simp;omega
     have d3':decide (3≤bits.length)=false:=by simp;omega
     have hb2:bits.length≤2:=by omega
     have H3:=hD h3
     clear h3
     go_enter Tryz.func174,Tryz.ntmps174
     go_upto_region 1 with (fail)
     rw[←HW.out]
     go_wp2_with (first|(first|(go_at_call 118;(with_reducible refine(yay An nn cn names a w0 HNA.out HNN.out Zq6).mono ?_);rintro e w' ⟨rfl,rfl⟩)|(go_at_call 118;(with_reducible refine(yay An nn cn names c w0 HNA.out HNN.out Zq6).mono ?_);rintro e w' ⟨rfl,rfl⟩)|(go_at_call 118;(with_reducible refine(yay A bits.length cb bits c w0 HRB.out rfl Zq6).mono ?_);rintro e w' ⟨rfl,rfl⟩))|(at_builtin;refine yae _ rfl _ _ 24 rfl base 9 i0 _ 1 16 Tryz.underlying24 hi hz0 hz1 hz2 rfl Zq9 _ _ _ rfl (CK.out.o.alloc _) _ 1 1 _ rfl (yg1 ?c0 rfl) ?c2 ?c3 ?c4 ?c5 ?_))
     case c0=>first|omega|rfl|(simp;done)
     case c2=>repeat' (first|rfl|apply And.intro)
     case c3=>simp only[maxLen];omega
     case c4=>omega
     case c5=>simp;omega
     intro v3 w3 own3 gr3 at3
     obtain ⟨A3,c3,rfl,_,_,_⟩:=yah own3
     have hx3:w3.heap[X]?=some (.cells #[.slice A bits.length cb] 148 (0,0)):=(gr3.block X Zq10 (fun e=>yeo CK.out.o CK.out.x Zq9 e.symm)).trans ((Below.heap_alloc _ _ _ Zq6).trans CK.out.x)
     have px3:=yaj (j:=0) (u:=.slice A bits.length cb) hx3 rfl
     have fx3:=yjg (j:=0) hx3
     have hlx3:=lt_of_block hx3
     have M3:Mod X (Value.slice A bits.length cb).ownBlock w w3:=((Mod.of_below X (Value.slice A bits.length cb).ownBlock B0.out).trans (Mod.of_below X _ ((Below.refl _ _).alloc (Nat.le_refl _) _)) (.inl rfl)).trans (Mod.grown gr3) (.inl rfl)
     have C4:CkS (w3.setCell ⟨X,0,none⟩ (.slice A3 (bits.length+1) c3)) base X (bits++[c]) (.slice A3 (bits.length+1) c3):=⟨yb6 hx3 _,by rw[List.length_append,ye5];exact ygw own3 (yeo own3 hx3 Zq9) _⟩
     have G4:Grew (Value.slice A bits.length cb).ownBlock w.heap.size (Value.slice A3 (bits.length+1) c3).ownBlock:=by
      rcases at3 with e|e
      ·exact .inl e
      ·exact .inr ⟨_,e,by have:=B0.out.size;first|omega|(simp;omega)⟩
     have M4:=hD (M3.set (p:=⟨X,0,none⟩) (.inl rfl) (.slice A3 (bits.length+1) c3))
     have HC4:=hD C4
     have HG4:=hD G4
     clear M3 C4 G4 gr3 own3 at3 hx3
     go_wp2_with fail
     go_ret2
     exact ⟨_,by rw[HS.out];exact rfl,by rw[HS.out];exact HC4.out,M4.out,HG4.out⟩
   ·have HS:Hid (yca names bits a c=((1,c),bits)):=by rw[yca,if_neg (by rw[e1];decide),if_neg (by rw[e2];decide),if_pos e3];exact rfl
    go_enter Tryz.func174,Tryz.ntmps174
    go_upto_region 1 with (fail)
    rw[←HW.out]
    go_wp2_with (first|(go_at_call 118;(with_reducible refine(yay An nn cn names a w0 HNA.out HNN.out Zq6).mono ?_);rintro e w' ⟨rfl,rfl⟩)|(go_at_call 118;(with_reducible refine(yay An nn cn names c w0 HNA.out HNN.out Zq6).mono ?_);rintro e w' ⟨rfl,rfl⟩)|(go_at_call 118;(with_reducible refine(yay A bits.length cb bits c w0 HRB.out rfl Zq6).mono ?_);rintro e w' ⟨rfl,rfl⟩))
    go_ret2
    exact ⟨_,by rw[HS.out];exact rfl,by rw[HS.out];exact CK.out,Mod.of_below _ _ B0.out,.inl rfl⟩
  ·have HS:Hid (yca names bits a c=((1,c),bits)):=by rw[yca,if_neg (by rw[e1];decide),if_pos e2];exact rfl
   go_enter Tryz.func174,Tryz.ntmps174
   go_upto_region 1 with (fail)
   rw[←HW.out]
   go_wp2_with (first|(go_at_call 118;(with_reducible refine(yay An nn cn names a w0 HNA.out HNN.out Zq6).mono ?_);rintro e w' ⟨rfl,rfl⟩)|(go_at_call 118;(with_reducible refine(yay An nn cn names c w0 HNA.out HNN.out Zq6).mono ?_);rintro e w' ⟨rfl,rfl⟩)|(go_at_call 118;(with_reducible refine(yay A bits.length cb bits c w0 HRB.out rfl Zq6).mono ?_);rintro e w' ⟨rfl,rfl⟩))
   go_ret2
   exact ⟨_,by rw[HS.out];exact rfl,by rw[HS.out];exact CK.out,Mod.of_below _ _ B0.out,.inl rfl⟩
def idx (l:List ByteArray) (s:ByteArray):Option Nat:=l.findIdx? fun x=>eqSt x s
def atS (l:List ByteArray) (s:ByteArray):Nat:=(idx l s).getD 0
def ixI (l:List ByteArray) (s:ByteArray):Int:=match idx l s with|some t=>(t:Int)|none=>-1
theorem yk0 {l:List ByteArray} {s:ByteArray} (h:hasS l s=true):∃ t,idx l s=some t:=by
 have h1:(idx l s).isSome=true:=by unfold idx;rw[List.findIdx?_isSome];exact h
 exact Option.isSome_iff_exists.1 h1
theorem yf2 {l:List ByteArray} {s:ByteArray} (h:hasS l s=true):ixI l s=(atS l s:Int):=by
 obtain ⟨t,ht⟩:=yk0 h
 unfold ixI atS
 rw[ht]
 rfl
theorem yk1 {l:List ByteArray} {s:ByteArray} (h:hasS l s=true):l[atS l s]?=some s:=by
 obtain ⟨t,ht⟩:=yk0 h
 have h1:atS l s=t:=by unfold atS;rw[ht];rfl
 rw[h1]
 unfold idx at ht
 rw[List.findIdx?_eq_some_iff_getElem] at ht
 obtain ⟨hl,he,_⟩:=ht
 rw[List.getElem?_eq_getElem hl,yoc he]
theorem yqk {l:List ByteArray} {s:ByteArray} (h:hasS l s=true):atS l s<l.length:=(List.getElem?_eq_some_iff.1 (yk1 h)).1
theorem yof {l:List ByteArray} {a b:ByteArray} (ha:hasS l a=true) (hb:hasS l b=true) (e:atS l a=atS l b):a=b:=by
 have h1:=yk1 ha
 rw[e,yk1 hb] at h1
 injection h1 with h1
 exact h1.symm
theorem ys7 {l r:List ByteArray} {s:ByteArray} (h:hasS l s=true):atS (l++r) s=atS l s:=by
 obtain ⟨t,ht⟩:=yk0 h
 have h2:idx (l++r) s=some t:=by
  unfold idx at ht ⊢
  rw[List.findIdx?_append,ht]
  rfl
 unfold atS
 rw[h2,ht]
theorem yog {l r:List ByteArray} {s:ByteArray} (h:hasS l s=true):hasS (l++r) s=true:=by
 unfold hasS at h ⊢
 rw[List.any_append,h]
 rfl
def gat (f:ByteArray→Int) (h:SH):Gt:=⟨yao h.word,f (arg0 h),if 1<h.args.length then f (arg1 h) else 0,if 2<h.args.length then f (h.args.getD 2 ⟨#[]⟩) else 0⟩
def ybc (q:Int):Opt:=⟨3,⟨0,0,0,0⟩,q,0,0⟩
def yev (q b:Int):Opt:=⟨2,⟨0,0,0,0⟩,q,b,0⟩
def yci (c:Int) (l:List Opt):List Opt:=l.map fun o=>if o.k=1 then ⟨o.k,o.g,o.q,o.bit,c⟩ else o
structure Es where
 bits:List ByteArray
 most:Nat
 bad:Bool
def fS (l:List ByteArray) (s:ByteArray):Int:=atS l s
def sS {d:Nat} (all:List (Tr d)→List ByteArray→Es→List Opt × Es) (h:SH) (bd:List (Tr d)) (names:List ByteArray) (e:Es):List Opt × Es :=
 if h.k=1 then ([gop 0 (gat (fS names) h)],e)
 else if h.k=2 then (repO (all bd names e).1 (reps h.count),(all bd names e).2)
 else if h.k=3 then (adjO (all bd names e).1,(all bd names e).2)
 else if h.k=4 then (osL (fS names (arg0 h)) (all bd names e).1,(all bd names e).2)
 else if h.k=5 then ([ybc names.length]++(all bd (names++[arg0 h]) ⟨e.bits,max e.most (names.length+1),e.bad⟩).1++[ybc names.length],(all bd (names++[arg0 h]) ⟨e.bits,max e.most (names.length+1),e.bad⟩).2)
 else if h.k=6 then ([yev (fS names (arg0 h)) e.bits.length],⟨e.bits++[arg1 h],e.most,e.bad⟩)
 else (yci (fS (all bd names e).2.bits (arg0 h)+1) (all bd names e).1,(all bd names e).2)
def sL {α:Type} (one:α→Es→List Opt × Es):List α→List Opt→Es→List Opt × Es
 | [],out,e=>(out,e)
 | s :: l,out,e=>if 2000<(out++(one s e).1).length then ([],⟨(one s e).2.bits,(one s e).2.most,true⟩) else sL one l (out++(one s e).1) (one s e).2
def sA:(d:Nat)→List (Tr d)→List ByteArray→Es→List Opt × Es
 | 0,_,_,e=>([],e)
 | d+1,l,names,e=>sL (fun s e=>sS (sA d) (hdT s) (bdT s) names e) l [] e
def iS {d:Nat} (all:List (Tr d)→List ByteArray→Es→List Opt × Es) (h:SH) (bd:List (Tr d)) (names:List ByteArray) (e:Es):List Opt × Es :=
 if h.k=1 then ([gop 0 (gat (ixI names) h)],e)
 else if h.k=2 then (repO (all bd names e).1 (reps h.count),(all bd names e).2)
 else if h.k=3 then (adjO (all bd names e).1,(all bd names e).2)
 else if h.k=4 then (osL (ixI names (arg0 h)) (all bd names e).1,⟨(all bd names e).2.bits,(all bd names e).2.most,(all bd names e).2.bad || !osB (ixI names (arg0 h)) (all bd names e).1⟩)
 else if h.k=5 then ([ybc names.length]++(all bd (names++[arg0 h]) e).1++[ybc names.length],(all bd (names++[arg0 h]) e).2)
 else if h.k=6 then ([yev (ixI names (arg0 h)) e.bits.length],⟨e.bits++[arg1 h],e.most,e.bad⟩)
 else (yci (1+ixI (all bd names e).2.bits (arg0 h)) (all bd names e).1,(all bd names e).2)
def iL {α:Type} (one:α→Es→List Opt × Es):List α→List Opt→Es→List Opt × Es
 | [],out,e=>(out,e)
 | s :: l,out,e=>if e.bad=true then ([],e) else iL one l (out++(one s e).1) ⟨(one s e).2.bits,(one s e).2.most,(one s e).2.bad || decide (120<(out++(one s e).1).length)⟩
def iA:(d:Nat)→List (Tr d)→List ByteArray→Es→List Opt × Es
 | 0,_,names,e=>([],⟨e.bits,max e.most names.length,e.bad⟩)
 | d+1,l,names,e=>iL (fun s e=>iS (iA d) (hdT s) (bdT s) names e) l [] ⟨e.bits,max e.most names.length,e.bad⟩
def dL {α:Type} (one:α→Es→List Opt × Es):List α→List Opt→Es→List Opt × Es
 | [],out,e=>(out,e)
 | s :: l,out,e=>dL one l (out++(one s e).1) (one s e).2
def dA:(d:Nat)→List (Tr d)→List ByteArray→Es→List Opt × Es
 | 0,_,_,e=>([],e)
 | d+1,l,names,e=>dL (fun s e=>sS (dA d) (hdT s) (bdT s) names e) l [] e
theorem yoh {l:List ByteArray} {s x:ByteArray} {t:Nat} (h:l[t]?=some x) (he:eqSt x s=true) (h0:hasS (l.take t) s=false):idx l s=some t:=by
 obtain ⟨hl,rfl⟩:=List.getElem?_eq_some_iff.1 h
 unfold idx
 rw[List.findIdx?_eq_some_iff_getElem]
 refine ⟨hl,he,fun j hj=>?_⟩
 intro hc
 have:hasS (l.take t) s=true:=yml (t:=j) (x:=l[j]) (by rw[List.getElem?_take_of_lt hj,List.getElem?_eq_getElem]) hc
 rw[this] at h0
 cases h0
theorem ymr {l:List ByteArray} {s:ByteArray} (h:hasS l s=false):idx l s=none:=by
 cases hx:idx l s with
 | none=>rfl
 | some t =>
  have h1:(idx l s).isSome=hasS l s:=by unfold idx;rw[List.findIdx?_isSome];rfl
  rw[hx,h] at h1
  cases h1
theorem yep (A:Option Addr) (n c:Nat) (l:List ByteArray) (s:ByteArray) (w:World) (h:Rd w 1 A n (strs l)) (hl:l.length=n) (hn:n≤1099511627776) :
  Calls Tryz.prog 143 #[.slice A n c,.string s] w fun e w'=>e=.returned (.int .i64 (fS l s))∧w=w':=by
 have H:=hD h
 have HL:=hD hl
 clear h hl
 go_enter Tryz.func143,Tryz.ntmps143
 go_wp2
 go_loop [5] (fun i=>∃ t:Nat,t≤n∧i=.int .i64 t∧hasS (l.take t) s=false) (fun i=>n - (intOf i).toNat)
 case atStart=>exact ⟨0,Nat.zero_le _,rfl,rfl⟩
 case round =>
  obtain ⟨t,ht,rfl,hok⟩:=hrel
  have HOK:=hD hok
  clear hok
  by_cases hlt:t<n
  ·obtain ⟨x,hx⟩:∃ x,l[t]?=some x:=⟨_,List.getElem?_eq_getElem (by rw[HL.out];exact hlt)⟩
   obtain ⟨b,off,rfl,_,hc⟩:=H.out.2 Zq6
   have q0:=hc t _ (ybr hx)
   have HX:=hD hx
   clear hc hx
   cases he:eqSt x s
   ·have hne:(x.toList==s.toList)=false:=he
    have HN:=hD (ygp HX.out he HOK.out)
    clear he
    go_wp2_with fail
    go_round
    case rel=>exact ⟨t+1,by omega,by go_num,HN.out⟩
    case measure=>simp [intOf];omega
   ·have hne:(x.toList==s.toList)=true:=he
    have HF:Hid (fS l s=t):=by show((atS l s:Nat):Int)=t;unfold atS;rw[yoh HX.out he HOK.out];rfl
    clear he
    go_wp2_with fail
    go_ret
    exact ⟨by rw[HF.out];rfl,rfl⟩
  ·obtain rfl:t=n:=by omega
   have HF:Hid (fS l s=0):=by
    have h:=HOK.out
    rw[List.take_of_length_le (by rw[HL.out];exact Nat.le_refl _)] at h
    show((atS l s:Nat):Int)=0
    unfold atS
    rw[ymr h]
    rfl
   go_wp2_with fail
   go_ret
   exact ⟨by rw[HF.out];rfl,rfl⟩
theorem yd7 (A:Option Addr) (n c:Nat) (l:List ByteArray) (s:ByteArray) (w:World) (h:Rd w 1 A n (strs l)) (hl:l.length=n) (hn:n≤1099511627776) :
  Calls Tryz.prog 149 #[.slice A n c,.string s] w fun e w'=>e=.returned (.int .i64 (ixI l s))∧w=w':=by
 have H:=hD h
 have HL:=hD hl
 clear h hl
 go_enter Tryz.func149,Tryz.ntmps149
 go_wp2
 go_loop [9] (fun i=>∃ t:Nat,t≤n∧i=.int .i64 t∧hasS (l.take t) s=false) (fun i=>n - (intOf i).toNat)
 case atStart=>exact ⟨0,Nat.zero_le _,rfl,rfl⟩
 case round =>
  obtain ⟨t,ht,rfl,hok⟩:=hrel
  have HOK:=hD hok
  clear hok
  by_cases hlt:t<n
  ·obtain ⟨x,hx⟩:∃ x,l[t]?=some x:=⟨_,List.getElem?_eq_getElem (by rw[HL.out];exact hlt)⟩
   obtain ⟨b,off,rfl,_,hc⟩:=H.out.2 Zq6
   have q0:=hc t _ (ybr hx)
   have HX:=hD hx
   clear hc hx
   cases he:eqSt x s
   ·have hne:(x.toList==s.toList)=false:=he
    have HN:=hD (ygp HX.out he HOK.out)
    clear he
    go_wp2_with fail
    go_round
    case rel=>exact ⟨t+1,by omega,by go_num,HN.out⟩
    case measure=>simp [intOf];omega
   ·have hne:(x.toList==s.toList)=true:=he
    have HF:Hid (ixI l s=t):=by show ixI l s=t;unfold ixI;rw[yoh HX.out he HOK.out]
    clear he
    go_wp2_with fail
    go_ret
    exact ⟨by rw[HF.out];rfl,rfl⟩
  ·obtain rfl:t=n:=by omega
   have HF:Hid (ixI l s=-1):=by
    have h:=HOK.out
    rw[List.take_of_length_le (by rw[HL.out];exact Nat.le_refl _)] at h
    show ixI l s=-1
    unfold ixI
    rw[ymr h]
   go_wp2_with fail
   go_ret
   exact ⟨by rw[HF.out];rfl,rfl⟩
def ifO (c:Int) (o:Opt):Opt:=if o.k=1 then ⟨o.k,o.g,o.q,o.bit,c⟩ else o
theorem yic (c:Int) (l:List Opt):yci c l=l.map (ifO c):=rfl
theorem yo0 {c:Int} {l:List Opt} {t:Nat} {o:Opt} (h:l[t]?=some o):yci c (l.take (t+1))=yci c (l.take t)++[ifO c o]:=by
 rw[List.take_add_one,h,yic,yic,List.map_append]
 rfl
theorem yql (A:Option Addr) (n c:Nat) (l:List Opt) (cond:Int) (w:World) (h:Rd w 8 A n (l.flatMap yan)) (hl:l.length=n) (hn:n≤1073741824) :
  Calls Tryz.prog 146 #[.slice A n c,.int .i64 cond] w (ye2 104 8 w n ((yci cond l).flatMap yan)):=by
 obtain ⟨i0,hi,hz0,hz1,hz2⟩:=info_parts yda
 have H:=hD h
 have HL:=hD hl
 clear h hl
 go_enter Tryz.func146,Tryz.ntmps146
 go_wp2
 go_loopw [5,6] (fun v i wr=>∃ t:Nat,t≤n∧i=.int .i64 (t:Int)∧wr.ownsRow w.heap.size 104 8 v t ((yci cond (l.take t)).flatMap yan)∧Below w.heap.size w wr) (fun _ i _=>n - (intOf i).toNat)
 case atStart=>exact ⟨0,Nat.zero_le _,rfl,yb2 w _ 8,Zq0⟩
 case round =>
  obtain ⟨t,ht,rfl,hown,hb⟩:=hrel
  by_cases hlt:t<n
  ·have hsl:t<l.length:=by rw[HL.out];omega
   obtain ⟨o,ho⟩:∃ o,l[t]?=some o:=⟨_,List.getElem?_eq_getElem hsl⟩
   obtain ⟨b,off,rfl,hbl,hc⟩:=H.out.2 Zq6
   have q0:wr.cell? ⟨b,off+t*8,none⟩=some (.int .i64 o.k):=(hb.cell (by exact hbl)).trans (hc (t*8+0) _ (yal yad l t o 0 ho Zq9))
   have q1:wr.cell? ⟨b,off+t*8+1,none⟩=some (.int .i64 o.g.k):=(hb.cell (by exact hbl)).trans (hc (t*8+1) _ (yal yad l t o 1 ho Zq9))
   have q2:wr.cell? ⟨b,off+t*8+2,none⟩=some (.int .i64 o.g.a):=(hb.cell (by exact hbl)).trans (hc (t*8+2) _ (yal yad l t o 2 ho Zq9))
   have q3:wr.cell? ⟨b,off+t*8+3,none⟩=some (.int .i64 o.g.b):=(hb.cell (by exact hbl)).trans (hc (t*8+3) _ (yal yad l t o 3 ho Zq9))
   have q4:wr.cell? ⟨b,off+t*8+4,none⟩=some (.int .i64 o.g.c):=(hb.cell (by exact hbl)).trans (hc (t*8+4) _ (yal yad l t o 4 ho Zq9))
   have q5:wr.cell? ⟨b,off+t*8+5,none⟩=some (.int .i64 o.q):=(hb.cell (by exact hbl)).trans (hc (t*8+5) _ (yal yad l t o 5 ho Zq9))
   have q6:wr.cell? ⟨b,off+t*8+6,none⟩=some (.int .i64 o.bit):=(hb.cell (by exact hbl)).trans (hc (t*8+6) _ (yal yad l t o 6 ho Zq9))
   have q7:wr.cell? ⟨b,off+t*8+7,none⟩=some (.int .i64 o.cond):=(hb.cell (by exact hbl)).trans (hc (t*8+7) _ (yal yad l t o 7 ho Zq9))
   have HS:=hD (yo0 (c:=cond) ho)
   obtain ⟨L,hL⟩:∃ L,L=(yci cond (l.take t)).flatMap yan:=⟨_,rfl⟩
   rw[←hL] at hown
   have HL2:=hD hL
   clear hc ho hsl hL
   by_cases hk:o.k=1
   ·have hk':(o.k==1)=true:=by simp [hk]
    have HK:=hD (show ifO cond o=⟨o.k,o.g,o.q,o.bit,cond⟩ by rw[ifO,if_pos hk])
    clear hk
    go_wp2_with (at_builtin;refine yae _ rfl _ _ 38 rfl w.heap.size 104 i0 _ 8 64 Tryz.underlying38 hi hz0 hz1 hz2 rfl Zq9 _ _ _ rfl ((hown.alloc _).alloc _) _ 1 1 _ rfl (yd2 ?c0 rfl) ?c2 ?c3 ?c4 ?c5 ?_)
    case c0=>first|rfl|simp
    case c2=>repeat' (first|rfl|apply And.intro)
    case c3=>simp only[maxLen];omega
    case c4=>omega
    case c5=>have:=hb.size;simp;omega
    intro v3 w3 own3 gr3 _
    have b3:=((hb.alloc hb.size _).alloc (by have:=hb.size;simp;omega) _).grown gr3 (by have:=hb.size;simp;omega) (ybe hown)
    clear hown gr3
    go_wp2
    go_roundw
    case rel =>
     refine ⟨t+1,by omega,by go_num,?_,b3⟩
     rw[HS.out,List.flatMap_append,←HL2.out,HK.out]
     exact own3
    case measure=>simp [intOf];omega
   ·have hk':(o.k==1)=false:=by simp [hk]
    have HK:=hD (show ifO cond o=o by rw[ifO,if_neg hk])
    clear hk
    go_wp2_with (at_builtin;refine yae _ rfl _ _ 38 rfl w.heap.size 104 i0 _ 8 64 Tryz.underlying38 hi hz0 hz1 hz2 rfl Zq9 _ _ _ rfl ((hown.alloc _).alloc _) _ 1 1 _ rfl (yd2 ?c0 rfl) ?c2 ?c3 ?c4 ?c5 ?_)
    case c0=>first|rfl|simp
    case c2=>repeat' (first|rfl|apply And.intro)
    case c3=>simp only[maxLen];omega
    case c4=>omega
    case c5=>have:=hb.size;simp;omega
    intro v3 w3 own3 gr3 _
    have b3:=((hb.alloc hb.size _).alloc (by have:=hb.size;simp;omega) _).grown gr3 (by have:=hb.size;simp;omega) (ybe hown)
    clear hown gr3
    go_wp2
    go_roundw
    case rel =>
     refine ⟨t+1,by omega,by go_num,?_,b3⟩
     rw[HS.out,List.flatMap_append,←HL2.out,HK.out]
     exact own3
    case measure=>simp [intOf];omega
  ·obtain rfl:t=n:=by omega
   have HF:Hid (yci cond (l.take t)=yci cond l):=by show _=_;rw[List.take_of_length_le (by rw[HL.out];exact Nat.le_refl _)]
   go_wp2
   go_ret
   exact ⟨_,rfl,by rw[HF.out] at hown;exact hown,hb,hb.size⟩
section
variable {P:Program} {ops:Array Oper} {Q:Exit→Act→World→Prop} {md:Region.Mode}
theorem ylh {l:List Bool}:∀ {i:Nat},l[i]?=some false→(l.set i true).count false+1=l.count false:=by
 induction l with
 | nil=>intro i h;simp at h
 | cons x l ih =>
  intro i h
  cases i with
  | zero =>
   simp only[List.getElem?_cons_zero,Option.some.injEq] at h
   subst h
   simp
  | succ i =>
   simp only[List.getElem?_cons_succ] at h
   have:=ih h
   simp only[List.set_cons_succ,List.count_cons]
   omega
def ydm (md:Region.Mode) (ops:Array Oper) (Lz:Array Bool):Prop:=∀ i o,ops[i]?=some o→Lz.getD i false=true→∀ e∈o.after,Region.binds md e=true→Lz.getD e.on false=true
theorem yo1 {Lz:Array Bool} {i:Nat} (hc:ydm md ops Lz) (hi:i∈Region.ready md ops Lz):ydm md ops (Lz.setIfInBounds i true):=by
 have mono:∀ k,Lz.getD k false=true→(Lz.setIfInBounds i true).getD k false=true:=fun k h=>by
  by_cases hne:i=k
  ·subst hne
   have hj:i<Lz.size:=by
    rcases Nat.lt_or_ge i Lz.size with h'|h'
    ·exact h'
    ·simp [Array.getElem?_eq_none h'] at h
   simp [hj]
  ·rwa [getD_set_ne false hne]
 intro j o ho hj e he hb
 by_cases hne:i=j
 ·subst hne
  obtain ⟨_,o',ho',h⟩:=mem_ready.1 hi
  rw[ho] at ho'
  injection ho' with ho'
  subst ho'
  exact mono _ (h e he hb)
 ·rw[getD_set_ne false hne] at hj
  exact mono _ (hc j o ho hj e he hb)
theorem yqm {J:Array Bool→Act→World→Prop}
  (hs:∀ Lz a w,Lz.size=ops.size→ydm md ops Lz→J Lz a w→∀ i∈Region.ready md ops Lz,wpOp P ops Q i (fun a' w'=>J (Lz.setIfInBounds i true) a' w') a w)
  (he:∀ Lz a w,Lz.size=ops.size→J Lz a w→Region.ready md ops Lz=[]→Q .normal a w) :
  ∀ (fuel:Nat) (Lz:Array Bool) (a:Act) (w:World),Lz.toList.count false≤fuel→Lz.size=ops.size→ydm md ops Lz→J Lz a w→wpAny P md ops Q fuel Lz a w:=by
 intro fuel
 induction fuel with
 | zero =>
  intro Lz a w hc hz hcl hJ
  have hr:Region.ready md ops Lz=[]:=by
   rw[List.eq_nil_iff_forall_not_mem]
   intro j hj
   have h1:=(mem_ready.1 hj).1
   have hj2:j<Lz.size:=by
    rcases Nat.lt_or_ge j Lz.size with h|h
    ·exact h
    ·simp [Array.getElem?_eq_none h] at h1
   have h0:Lz.toList[j]?=some false:=by
    simp [hj2] at h1
    simp [hj2,h1]
   have:=ylh h0
   omega
  exact ⟨hr,he Lz a w hz hJ hr⟩
 | succ fuel ih =>
  intro Lz a w hc hz hcl hJ
  refine ⟨he Lz a w hz hJ,fun i hi=>wpOp_mono (fun a' w' h=>ih _ a' w' ?_ (by simpa using hz) (yo1 hcl hi) h) (hs Lz a w hz hcl hJ i hi)⟩
  have h1:=(mem_ready.1 hi).1
  have hj2:i<Lz.size:=by
   rcases Nat.lt_or_ge i Lz.size with h|h
   ·exact h
   ·simp [Array.getElem?_eq_none h] at h1
  have h0:Lz.toList[i]?=some false:=by
   simp [hj2] at h1
   simp [hj2,h1]
  have:=ylh h0
  rw[Array.toList_setIfInBounds]
  omega
theorem yid (n i:Nat):(Array.replicate n false).getD i false=false:=by by_cases h:i<n <;> simp [h]
theorem yl4 {id:Nat} {a:Act} {w:World} (hm:P.follows .mixedOrders=true) (J:Array Bool→Act→World→Prop) (h0:J (Array.replicate ops.size false) a w.drew)
  (hs:∀ Lz a w,Lz.size=ops.size→ydm .any ops Lz→J Lz a w→∀ i∈Region.ready .any ops Lz,wpOp P ops Q i (fun a' w'=>J (Lz.setIfInBounds i true) a' w') a w)
  (he:∀ Lz a w,Lz.size=ops.size→J Lz a w→Region.ready .any ops Lz=[]→Q .normal a w):(Code.region id ops true).wp P Q a w :=
 wp_region_any hm (yqm hs he _ _ _ _ Zq11 Zq11 (fun i o _ h=>absurd h (by rw[yid];decide)) h0)
theorem ya3 {id:Nat} {a:Act} {w:World} (hm:P.follows .mixedOrders=true) (J:Array Value→Array Bool→Act→World→Prop) (h0:∀ A0:Array Value,J A0 (Array.replicate ops.size false) ⟨A0,a.defers⟩ w.drew)
  (hs:∀ Lz a' w,Lz.size=ops.size→ydm .any ops Lz→J a.tmps Lz a' w→∀ i∈Region.ready .any ops Lz,wpOp P ops Q i (fun b w'=>J a.tmps (Lz.setIfInBounds i true) b w') a' w)
  (he:∀ Lz a' w,Lz.size=ops.size→J a.tmps Lz a' w→Region.ready .any ops Lz=[]→Q .normal a' w):(Code.region id ops true).wp P Q a w :=
 yl4 hm (J a.tmps) (h0 a.tmps) hs he
theorem ybm (A:Array Value) (k:Nat) (u:Value):A.setIfInBounds k (A.getD k u)=A:=by
 apply Array.ext'
 rw[Array.toList_setIfInBounds]
 by_cases h:k<A.size
 ·have e:A.getD k u=A[k]:=by simp [h]
  rw[e]
  exact @List.set_getElem_self _ A.toList k (by simpa using h)
 ·rw[List.set_eq_of_length_le (by simpa using h)]
theorem yqn {o:Oper} {a:Act} {K:Act→World→Prop} {r:Result Next} (h:o.upon P a K (Exit.then K Q) r):o.upon P a K Q r:=by
 cases r with
 | ok n w'=>cases n <;> first|exact h|exact Calls.mono h (fun e w'' he=>by cases e <;> exact he)
 | halt x w'=>cases x <;> exact h
theorem yaa {i:Nat} {o:Oper} {a:Act} {w:World} {K:Act→World→Prop} (ho:ops[i]?=some o) (hg:o.guard=none) (h:∀ K':Act→World→Prop,(∀ a w,K a w→K' a w)→wpList P #[] (Exit.then K' Q) [o] a w):wpOp P ops Q i K a w:=by
 have hw:∀ (os:Array Oper),Region.wanted o (yielded os a.tmps)=true:=fun os=>by simp [Region.wanted,hg]
 have h1:=h K (fun _ _ h=>h)
 unfold wpOp
 simp only[ho,hw,if_true]
 unfold wpList at h1
 simp only[hw,if_true] at h1
 rcases h1 with h1|⟨h1,h2⟩
 ·exact .inl (yqn h1)
 ·exact .inr ⟨h1,h2⟩
def Ls (l:Array Bool) (i:Nat):Prop:=l.getD i false=true
theorem Ls.none {n i:Nat} {C:Prop} (h:Ls (Array.replicate n false) i):C:=absurd h (by unfold Ls;rw[yid];decide)
theorem Ls.back {l:Array Bool} {i j:Nat} (h:Ls (l.setIfInBounds i true) j) (hne:i≠j):Ls l j:=by
 unfold Ls at h ⊢
 rwa [getD_set_ne false hne] at h
theorem Ls.fwd {l:Array Bool} {i j:Nat} (h:Ls l j):Ls (l.setIfInBounds i true) j:=by
 unfold Ls at h ⊢
 by_cases hne:i=j
 ·subst hne
  have hj:i<l.size:=by
   rcases Nat.lt_or_ge i l.size with h'|h'
   ·exact h'
   ·simp [Array.getElem?_eq_none h'] at h
  simp [hj]
 ·rwa [getD_set_ne false hne]
theorem yqo {Lz:Array Bool} {i:Nat} {o:Oper} (hi:i∈Region.ready md ops Lz) (ho:ops[i]?=some o) (k:Nat) (hk:(o.after.any fun e=>e.on==k&&Region.binds md e)=true):Ls Lz k:=by
 obtain ⟨_,o',ho',h⟩:=mem_ready.1 hi
 rw[ho] at ho'
 injection ho' with ho'
 subst ho'
 rw[Array.any_eq_true'] at hk
 obtain ⟨e,he,h1⟩:=hk
 rw[Bool.and_eq_true,beq_iff_eq] at h1
 have:=h e he h1.2
 rw[h1.1] at this
 exact this
theorem ydm.dep {Lz:Array Bool} {i:Nat} {o:Oper} (hc:ydm md ops Lz) (h:Ls Lz i) (ho:ops[i]?=some o) (k:Nat) (hk:(o.after.any fun e=>e.on==k&&Region.binds md e)=true):Ls Lz k:=by
 rw[Array.any_eq_true'] at hk
 obtain ⟨e,he,h1⟩:=hk
 rw[Bool.and_eq_true,beq_iff_eq] at h1
 have:=hc i o ho h e he h1.2
 rw[h1.1] at this
 exact this
def yir (md:Region.Mode) (ops:Array Oper) (i k:Nat):Bool:=match ops[i]? with
 | some o=>o.after.any fun e=>e.on==k&&Region.binds md e
 | none=>false
theorem yo2 {Lz:Array Bool} {i:Nat} (hi:i∈Region.ready md ops Lz) (k:Nat) (hk:yir md ops i k=true):Ls Lz k:=by
 obtain ⟨_,o,ho,_⟩:=mem_ready.1 hi
 unfold yir at hk
 rw[ho] at hk
 exact yqo hi ho k hk
theorem ydm.dep2 {Lz:Array Bool} {i:Nat} (hc:ydm md ops Lz) (h:Ls Lz i) (k:Nat) (hk:yir md ops i k=true):Ls Lz k:=by
 unfold yir at hk
 cases ho:ops[i]? with
 | none=>rw[ho] at hk;cases hk
 | some o=>rw[ho] at hk;exact hc.dep h ho k hk
theorem ybh {Lz:Array Bool} {i:Nat} (hi:i∈Region.ready md ops Lz) (hz:Lz.size=ops.size):Ls (Lz.setIfInBounds i true) i:=by
 obtain ⟨_,o,ho,_⟩:=mem_ready.1 hi
 have hl:=(Array.getElem?_eq_some_iff.1 ho).1
 unfold Ls
 simp [hz,hl]
theorem ybi {Lz:Array Bool} {i:Nat} (hi:i∈Region.ready md ops Lz):¬ Ls Lz i:=by
 intro h
 have h1:=(mem_ready.1 hi).1
 unfold Ls at h
 have hj:i<Lz.size:=by
  rcases Nat.lt_or_ge i Lz.size with h'|h'
  ·exact h'
  ·simp [Array.getElem?_eq_none h'] at h
 simp [hj] at h h1
 rw[h] at h1
 cases h1
theorem ybn {Lz:Array Bool} {i:Nat} (hi:i∈Region.ready md ops Lz):i<ops.size:=by
 obtain ⟨_,o,ho,_⟩:=mem_ready.1 hi
 exact(Array.getElem?_eq_some_iff.1 ho).1
theorem ybj {Lz:Array Bool} (hz:Lz.size=ops.size) (hac:(ops.toList.zipIdx.all fun x=>x.1.after.all fun e=>decide (e.on<x.2))=true) (hr:Region.ready md ops Lz=[]):∀ i,i<ops.size→Ls Lz i:=by
 intro i
 induction i using Nat.strongRecOn with
 | ind i ih =>
  intro hi
  apply Classical.byContradiction
  intro hn
  have ho:ops[i]?=some ops[i]:=Array.getElem?_eq_getElem hi
  have hmem:i∈Region.ready md ops Lz:=mem_ready.2 ⟨by
   unfold Ls at hn
   have hj:i<Lz.size:=by rw[hz];exact hi
   simp [hj] at hn ⊢
   exact hn,ops[i],ho,fun e he _=>by
   have h1:=List.all_eq_true.1 hac (ops[i],i) (by
    rw[List.mk_mem_zipIdx_iff_getElem?]
    simp)
   have h2:=Array.all_eq_true'.1 h1 e he
   have h3:e.on<i:=by simpa using h2
   exact ih e.on h3 Zq6⟩
  rw[hr] at hmem
  simp at hmem
end
section
variable {a0 a1 a2 a3 a4 a5 a6 a7 a8 a9 a10 a11 a12 a13 a14 a15 a16 a17 a18 a19 a20 a21 a22 a23 a24 a25 a26 a27 a28 a29 a30 a31 a32 a33 a34 a35 a36 a37 a38 a39 a40 a41 a42 a43 a44 a45 a46 a47:Prop}
theorem pj0 (h:a0∧a1):a0:=h.1
theorem pj1 (h:a0∧a1∧a2):a1:=h.2.1
theorem pj2 (h:a0∧a1∧a2∧a3):a2:=h.2.2.1
theorem pj3 (h:a0∧a1∧a2∧a3∧a4):a3:=h.2.2.2.1
theorem pj4 (h:a0∧a1∧a2∧a3∧a4∧a5):a4:=h.2.2.2.2.1
theorem pj5 (h:a0∧a1∧a2∧a3∧a4∧a5∧a6):a5:=h.2.2.2.2.2.1
theorem pj6 (h:a0∧a1∧a2∧a3∧a4∧a5∧a6∧a7):a6:=h.2.2.2.2.2.2.1
theorem pj7 (h:a0∧a1∧a2∧a3∧a4∧a5∧a6∧a7∧a8):a7:=h.2.2.2.2.2.2.2.1
theorem pj8 (h:a0∧a1∧a2∧a3∧a4∧a5∧a6∧a7∧a8∧a9):a8:=h.2.2.2.2.2.2.2.2.1
theorem pj9 (h:a0∧a1∧a2∧a3∧a4∧a5∧a6∧a7∧a8∧a9∧a10):a9:=h.2.2.2.2.2.2.2.2.2.1
theorem pj10 (h:a0∧a1∧a2∧a3∧a4∧a5∧a6∧a7∧a8∧a9∧a10∧a11):a10:=h.2.2.2.2.2.2.2.2.2.2.1
theorem pj11 (h:a0∧a1∧a2∧a3∧a4∧a5∧a6∧a7∧a8∧a9∧a10∧a11∧a12):a11:=h.2.2.2.2.2.2.2.2.2.2.2.1
theorem pj12 (h:a0∧a1∧a2∧a3∧a4∧a5∧a6∧a7∧a8∧a9∧a10∧a11∧a12∧a13):a12:=h.2.2.2.2.2.2.2.2.2.2.2.2.1
theorem pj13 (h:a0∧a1∧a2∧a3∧a4∧a5∧a6∧a7∧a8∧a9∧a10∧a11∧a12∧a13∧a14):a13:=h.2.2.2.2.2.2.2.2.2.2.2.2.2.1
theorem pj14 (h:a0∧a1∧a2∧a3∧a4∧a5∧a6∧a7∧a8∧a9∧a10∧a11∧a12∧a13∧a14∧a15):a14:=h.2.2.2.2.2.2.2.2.2.2.2.2.2.2.1
theorem pj15 (h:a0∧a1∧a2∧a3∧a4∧a5∧a6∧a7∧a8∧a9∧a10∧a11∧a12∧a13∧a14∧a15∧a16):a15:=h.2.2.2.2.2.2.2.2.2.2.2.2.2.2.2.1
theorem pj16 (h:a0∧a1∧a2∧a3∧a4∧a5∧a6∧a7∧a8∧a9∧a10∧a11∧a12∧a13∧a14∧a15∧a16∧a17):a16:=h.2.2.2.2.2.2.2.2.2.2.2.2.2.2.2.2.1
theorem pj17 (h:a0∧a1∧a2∧a3∧a4∧a5∧a6∧a7∧a8∧a9∧a10∧a11∧a12∧a13∧a14∧a15∧a16∧a17∧a18):a17:=h.2.2.2.2.2.2.2.2.2.2.2.2.2.2.2.2.2.1
theorem pj18 (h:a0∧a1∧a2∧a3∧a4∧a5∧a6∧a7∧a8∧a9∧a10∧a11∧a12∧a13∧a14∧a15∧a16∧a17∧a18∧a19):a18:=h.2.2.2.2.2.2.2.2.2.2.2.2.2.2.2.2.2.2.1
theorem pj19 (h:a0∧a1∧a2∧a3∧a4∧a5∧a6∧a7∧a8∧a9∧a10∧a11∧a12∧a13∧a14∧a15∧a16∧a17∧a18∧a19∧a20):a19:=h.2.2.2.2.2.2.2.2.2.2.2.2.2.2.2.2.2.2.2.1
theorem pj20 (h:a0∧a1∧a2∧a3∧a4∧a5∧a6∧a7∧a8∧a9∧a10∧a11∧a12∧a13∧a14∧a15∧a16∧a17∧a18∧a19∧a20∧a21):a20:=h.2.2.2.2.2.2.2.2.2.2.2.2.2.2.2.2.2.2.2.2.1
theorem pj21 (h:a0∧a1∧a2∧a3∧a4∧a5∧a6∧a7∧a8∧a9∧a10∧a11∧a12∧a13∧a14∧a15∧a16∧a17∧a18∧a19∧a20∧a21∧a22):a21:=h.2.2.2.2.2.2.2.2.2.2.2.2.2.2.2.2.2.2.2.2.2.1
theorem pj22 (h:a0∧a1∧a2∧a3∧a4∧a5∧a6∧a7∧a8∧a9∧a10∧a11∧a12∧a13∧a14∧a15∧a16∧a17∧a18∧a19∧a20∧a21∧a22∧a23):a22:=h.2.2.2.2.2.2.2.2.2.2.2.2.2.2.2.2.2.2.2.2.2.2.1
theorem pj23 (h:a0∧a1∧a2∧a3∧a4∧a5∧a6∧a7∧a8∧a9∧a10∧a11∧a12∧a13∧a14∧a15∧a16∧a17∧a18∧a19∧a20∧a21∧a22∧a23∧a24):a23:=h.2.2.2.2.2.2.2.2.2.2.2.2.2.2.2.2.2.2.2.2.2.2.2.1
theorem pj24 (h:a0∧a1∧a2∧a3∧a4∧a5∧a6∧a7∧a8∧a9∧a10∧a11∧a12∧a13∧a14∧a15∧a16∧a17∧a18∧a19∧a20∧a21∧a22∧a23∧a24∧a25):a24:=h.2.2.2.2.2.2.2.2.2.2.2.2.2.2.2.2.2.2.2.2.2.2.2.2.1
theorem pj25 (h:a0∧a1∧a2∧a3∧a4∧a5∧a6∧a7∧a8∧a9∧a10∧a11∧a12∧a13∧a14∧a15∧a16∧a17∧a18∧a19∧a20∧a21∧a22∧a23∧a24∧a25∧a26):a25:=h.2.2.2.2.2.2.2.2.2.2.2.2.2.2.2.2.2.2.2.2.2.2.2.2.2.1
theorem pj26 (h:a0∧a1∧a2∧a3∧a4∧a5∧a6∧a7∧a8∧a9∧a10∧a11∧a12∧a13∧a14∧a15∧a16∧a17∧a18∧a19∧a20∧a21∧a22∧a23∧a24∧a25∧a26∧a27):a26:=h.2.2.2.2.2.2.2.2.2.2.2.2.2.2.2.2.2.2.2.2.2.2.2.2.2.2.1
theorem pj27 (h:a0∧a1∧a2∧a3∧a4∧a5∧a6∧a7∧a8∧a9∧a10∧a11∧a12∧a13∧a14∧a15∧a16∧a17∧a18∧a19∧a20∧a21∧a22∧a23∧a24∧a25∧a26∧a27∧a28):a27:=h.2.2.2.2.2.2.2.2.2.2.2.2.2.2.2.2.2.2.2.2.2.2.2.2.2.2.2.1
theorem pj28 (h:a0∧a1∧a2∧a3∧a4∧a5∧a6∧a7∧a8∧a9∧a10∧a11∧a12∧a13∧a14∧a15∧a16∧a17∧a18∧a19∧a20∧a21∧a22∧a23∧a24∧a25∧a26∧a27∧a28∧a29):a28:=h.2.2.2.2.2.2.2.2.2.2.2.2.2.2.2.2.2.2.2.2.2.2.2.2.2.2.2.2.1
theorem pj29 (h:a0∧a1∧a2∧a3∧a4∧a5∧a6∧a7∧a8∧a9∧a10∧a11∧a12∧a13∧a14∧a15∧a16∧a17∧a18∧a19∧a20∧a21∧a22∧a23∧a24∧a25∧a26∧a27∧a28∧a29∧a30):a29:=h.2.2.2.2.2.2.2.2.2.2.2.2.2.2.2.2.2.2.2.2.2.2.2.2.2.2.2.2.2.1
theorem pe7 (h:a0∧a1∧a2∧a3∧a4∧a5∧a6∧a7):a7:=h.2.2.2.2.2.2.2
theorem pe12 (h:a0∧a1∧a2∧a3∧a4∧a5∧a6∧a7∧a8∧a9∧a10∧a11∧a12):a12:=h.2.2.2.2.2.2.2.2.2.2.2.2
theorem pe13 (h:a0∧a1∧a2∧a3∧a4∧a5∧a6∧a7∧a8∧a9∧a10∧a11∧a12∧a13):a13:=h.2.2.2.2.2.2.2.2.2.2.2.2.2
theorem pe14 (h:a0∧a1∧a2∧a3∧a4∧a5∧a6∧a7∧a8∧a9∧a10∧a11∧a12∧a13∧a14):a14:=h.2.2.2.2.2.2.2.2.2.2.2.2.2.2
theorem pe15 (h:a0∧a1∧a2∧a3∧a4∧a5∧a6∧a7∧a8∧a9∧a10∧a11∧a12∧a13∧a14∧a15):a15:=h.2.2.2.2.2.2.2.2.2.2.2.2.2.2.2
theorem pe17 (h:a0∧a1∧a2∧a3∧a4∧a5∧a6∧a7∧a8∧a9∧a10∧a11∧a12∧a13∧a14∧a15∧a16∧a17):a17:=h.2.2.2.2.2.2.2.2.2.2.2.2.2.2.2.2.2
theorem pe18 (h:a0∧a1∧a2∧a3∧a4∧a5∧a6∧a7∧a8∧a9∧a10∧a11∧a12∧a13∧a14∧a15∧a16∧a17∧a18):a18:=h.2.2.2.2.2.2.2.2.2.2.2.2.2.2.2.2.2.2
theorem pe19 (h:a0∧a1∧a2∧a3∧a4∧a5∧a6∧a7∧a8∧a9∧a10∧a11∧a12∧a13∧a14∧a15∧a16∧a17∧a18∧a19):a19:=h.2.2.2.2.2.2.2.2.2.2.2.2.2.2.2.2.2.2.2
theorem pe20 (h:a0∧a1∧a2∧a3∧a4∧a5∧a6∧a7∧a8∧a9∧a10∧a11∧a12∧a13∧a14∧a15∧a16∧a17∧a18∧a19∧a20):a20:=h.2.2.2.2.2.2.2.2.2.2.2.2.2.2.2.2.2.2.2.2
theorem pe21 (h:a0∧a1∧a2∧a3∧a4∧a5∧a6∧a7∧a8∧a9∧a10∧a11∧a12∧a13∧a14∧a15∧a16∧a17∧a18∧a19∧a20∧a21):a21:=h.2.2.2.2.2.2.2.2.2.2.2.2.2.2.2.2.2.2.2.2.2
theorem pe23 (h:a0∧a1∧a2∧a3∧a4∧a5∧a6∧a7∧a8∧a9∧a10∧a11∧a12∧a13∧a14∧a15∧a16∧a17∧a18∧a19∧a20∧a21∧a22∧a23):a23:=h.2.2.2.2.2.2.2.2.2.2.2.2.2.2.2.2.2.2.2.2.2.2.2
theorem pe25 (h:a0∧a1∧a2∧a3∧a4∧a5∧a6∧a7∧a8∧a9∧a10∧a11∧a12∧a13∧a14∧a15∧a16∧a17∧a18∧a19∧a20∧a21∧a22∧a23∧a24∧a25):a25:=h.2.2.2.2.2.2.2.2.2.2.2.2.2.2.2.2.2.2.2.2.2.2.2.2.2
theorem pe30 (h:a0∧a1∧a2∧a3∧a4∧a5∧a6∧a7∧a8∧a9∧a10∧a11∧a12∧a13∧a14∧a15∧a16∧a17∧a18∧a19∧a20∧a21∧a22∧a23∧a24∧a25∧a26∧a27∧a28∧a29∧a30):a30:=h.2.2.2.2.2.2.2.2.2.2.2.2.2.2.2.2.2.2.2.2.2.2.2.2.2.2.2.2.2.2
end
theorem Bk {l:Array Bool} {i j:Nat} {C:Prop} (f:Ls l j→C) (hne:i≠j:=by decide) (h:Ls (l.setIfInBounds i true) j):C:=f (h.back hne)
theorem Bw {l:Array Bool} {i j k:Nat} {C:Prop} (f:Ls l j→¬ Ls l k→C) (hne:i≠j:=by decide) (h:Ls (l.setIfInBounds i true) j) (h2:¬ Ls (l.setIfInBounds i true) k):C:=f (h.back hne) (fun h3=>h2 h3.fwd)
theorem Bi {l:Array Bool} {i k:Nat} {C:Prop} (f:¬ Ls l k→C) (h2:¬ Ls (l.setIfInBounds i true) k):C:=f (fun h3=>h2 h3.fwd)
theorem zx {a b c:Prop} (h:a) (_:b) (h2:¬ a):c:=absurd h h2
theorem zy {a c:Prop} (h:a) (h2:¬ a):c:=absurd h h2
theorem zn {n i:Nat} {C:Prop}:Ls (Array.replicate n false) i→C:=fun h=>h.none
theorem zr {A B C:Prop} (g:B→C) (h:A∧B):C:=g h.2
theorem zk {Q:Prop} {l:Array Bool} {i j:Nat} {C:Prop} (H:Hid Q) (hne:i≠j:=by decide) (f:Q→Ls l j→C:=by repeat (first|with_reducible exact And.left|with_reducible exact id|refine zr ?_)) (h:Ls (l.setIfInBounds i true) j):C:=Bk (f H.out) hne h
theorem zw {Q:Prop} {l:Array Bool} {i j k:Nat} {C:Prop} (H:Hid Q) (hne:i≠j:=by decide) (f:Q→Ls l j→¬ Ls l k→C:=by repeat (first|with_reducible exact And.left|with_reducible exact id|refine zr ?_)) (h:Ls (l.setIfInBounds i true) j) (h2:¬ Ls (l.setIfInBounds i true) k):C:=Bw (f H.out) hne h h2
theorem zi {Q:Prop} {l:Array Bool} {i k:Nat} {C:Prop} (H:Hid Q) (f:Q→¬ Ls l k→C:=by repeat (first|with_reducible exact And.left|with_reducible exact id|refine zr ?_)) (h2:¬ Ls (l.setIfInBounds i true) k):C:=Bi (f H.out) h2
theorem zT {Q R:Prop} (H:Hid Q) (f:Q→R:=by (repeat (refine And.imp ?_ ?_;(first|exact fun f=>Bw f|exact fun f=>Bk f|exact fun f=>Bi f|exact fun _ _=>rfl)));(first|exact fun f=>Bw f|exact fun f=>Bk f|exact fun f=>Bi f|exact fun _ _=>rfl)):R:=f H.out
theorem Ba {l:Array Bool} {i j:Nat} {C:Prop} (f:¬ Ls l j) (hne:i≠j:=by decide) (h:Ls (l.setIfInBounds i true) j):C:=absurd (h.back hne) f
theorem Bb {l:Array Bool} {i j:Nat} {C D:Prop} (f:¬ Ls l j) (hne:i≠j:=by decide) (h:Ls (l.setIfInBounds i true) j) (_:D):C:=absurd (h.back hne) f
theorem Bt {l:Array Bool} {i j k:Nat} {C D:Prop} (f:Ls l j→¬ Ls l k→C) (g:C→D) (hne:i≠j:=by decide) (h:Ls (l.setIfInBounds i true) j) (h2:¬ Ls (l.setIfInBounds i true) k):D:=g (f (h.back hne) (fun h3=>h2 h3.fwd))
theorem dq {md:Region.Mode} {ops:Array Oper} {Lz:Array Bool} {i:Nat} (H:Hid (ydm md ops Lz)) (h:Ls Lz i) (k:Nat) (hk:yir md ops i k=true:=by kernel_rfl):Ls Lz k:=H.out.dep2 h k hk
theorem rq {md:Region.Mode} {ops:Array Oper} {Lz:Array Bool} {i:Nat} (hi:i∈Region.ready md ops Lz) (k:Nat) (hk:yir md ops i k=true:=by kernel_rfl):Ls Lz k:=yo2 hi k hk
def RdQ (w:World) (P:Nat→Prop) (size:Nat) (A:Option Addr) (n:Nat) (xs:List Value):Prop :=
 xs.length=n*size∧(0<n→∃ b off,A=some ⟨b,off,none⟩∧P b∧b<w.heap.size∧∀ j u,xs[j]?=some u→w.cell? ⟨b,off+j,none⟩=some u)
def TrQ (w:World) (P:Nat→Prop):(d:Nat)→Option Addr→Nat→List (Tr d)→Prop
 | 0,_,n,l=>l.length=n∧n=0
 | d+1,A,n,l=>l.length=n∧(0<n→∃ b off,A=some ⟨b,off,none⟩∧P b∧b<w.heap.size∧∀ (i:Nat) (s:Tr (d+1)),l[i]?=some s →
   ∃ Aa ca Ab nb cb,ygc w b (off+i*5) (hdT s) Aa ca Ab nb cb∧RdQ w P 1 Aa (hdT s).args.length (strs (hdT s).args)∧TrQ w P d Ab nb (bdT s)∧(hdT s).args.length≤ca)
section
variable {w w':World} {P P':Nat→Prop}
theorem RdQ.rd {size n:Nat} {A:Option Addr} {xs:List Value} (h:RdQ w P size A n xs):Rd w size A n xs :=
 ⟨h.1,fun h0=>by obtain ⟨b,off,e,_,hb,hc⟩:=h.2 h0;exact ⟨b,off,e,hb,hc⟩⟩
theorem RdQ.mono {size n:Nat} {A:Option Addr} {xs:List Value} (h:RdQ w P size A n xs) (hp:∀ b,b<w.heap.size→P b→P' b):RdQ w P' size A n xs :=
 ⟨h.1,fun h0=>by obtain ⟨b,off,e,h1,hb,hc⟩:=h.2 h0;exact ⟨b,off,e,hp b hb h1,hb,hc⟩⟩
theorem RdQ.keep {size n:Nat} {A:Option Addr} {xs:List Value} (h:RdQ w P size A n xs) (hk:∀ b,P b→b<w.heap.size→w'.heap[b]?=w.heap[b]?) (hs:w.heap.size≤w'.heap.size):RdQ w' P size A n xs :=
 ⟨h.1,fun h0=>by
  obtain ⟨b,off,e,h1,hb,hc⟩:=h.2 h0
  refine ⟨b,off,e,h1,Nat.lt_of_lt_of_le hb hs,fun j u hu=>?_⟩
  rw[←hc j u hu]
  have:=hk b h1 hb
  simp [World.cell?,this]⟩
theorem yck {base E size n c:Nat} {A:Option Addr} {xs:List Value} (h:w.ownsRow base E size (.slice A n c) n xs):RdQ w (base≤·) size A n xs:=by
 have r:=ybv h
 refine ⟨r.1,fun h0=>?_⟩
 obtain ⟨b,off,e,hb,hc⟩:=r.2 h0
 refine ⟨b,off,e,?_,hb,hc⟩
 subst e
 exact(h.lt b rfl).1
theorem TrQ.len:∀ {d:Nat} {A:Option Addr} {n:Nat} {l:List (Tr d)},TrQ w P d A n l→l.length=n
 | 0,_,_,_,h=>h.1
 | _+1,_,_,_,h=>h.1
theorem yqp {b:Nat} (h:w'.heap[b]?=w.heap[b]?) (o:Nat):w'.cell? ⟨b,o,none⟩=w.cell? ⟨b,o,none⟩:=by simp [World.cell?,h]
theorem TrQ.mono (hp:∀ b,b<w.heap.size→P b→P' b):∀ {d:Nat} {A:Option Addr} {n:Nat} {l:List (Tr d)},TrQ w P d A n l→TrQ w P' d A n l:=by
 intro d
 induction d with
 | zero=>intro A n l h;exact h
 | succ d ih =>
  intro A n l h
  refine ⟨h.1,fun h0=>?_⟩
  obtain ⟨b,off,e,h1,hb,hc⟩:=h.2 h0
  refine ⟨b,off,e,hp b hb h1,hb,fun i s hi=>?_⟩
  obtain ⟨Aa,ca,Ab,nb,cb,h1,h2,h3,h4⟩:=hc i s hi
  exact ⟨Aa,ca,Ab,nb,cb,h1,h2.mono hp,ih h3,h4⟩
theorem TrQ.keep (hk:∀ b,P b→b<w.heap.size→w'.heap[b]?=w.heap[b]?) (hs:w.heap.size≤w'.heap.size) :
  ∀ {d:Nat} {A:Option Addr} {n:Nat} {l:List (Tr d)},TrQ w P d A n l→TrQ w' P d A n l:=by
 intro d
 induction d with
 | zero=>intro A n l h;exact h
 | succ d ih =>
  intro A n l h
  refine ⟨h.1,fun h0=>?_⟩
  obtain ⟨b,off,e,hl,hb,hc⟩:=h.2 h0
  refine ⟨b,off,e,hl,Nat.lt_of_lt_of_le hb hs,fun i s hi=>?_⟩
  obtain ⟨Aa,ca,Ab,nb,cb,h1,h2,h3,h4⟩:=hc i s hi
  exact ⟨Aa,ca,Ab,nb,cb,h1.keep (yqp (hk b hl hb)),h2.keep hk hs,ih h3,h4⟩
theorem TrQ.rdt {lo:Nat} (hp:∀ b,P b→lo≤b):∀ {d:Nat} {A:Option Addr} {n:Nat} {l:List (Tr d)},TrQ w P d A n l→RdT w lo d A n l:=by
 intro d
 induction d with
 | zero=>intro A n l h;exact h
 | succ d ih =>
  intro A n l h
  refine ⟨h.1,fun h0=>?_⟩
  obtain ⟨b,off,e,h1,hb,hc⟩:=h.2 h0
  refine ⟨b,off,e,hp b h1,hb,fun i s hi=>?_⟩
  obtain ⟨Aa,ca,Ab,nb,cb,h1,h2,h3,h4⟩:=hc i s hi
  refine ⟨Aa,ca,Ab,nb,cb,h1,⟨h2.1,fun h0=>?_⟩,ih h3,h4⟩
  obtain ⟨b,off,e,h1,hb,hc⟩:=h2.2 h0
  exact ⟨b,off,e,hp b h1,hb,hc⟩
def upT:(d:Nat)→Tr d→Tr (d+1)
 | 0,e=>nomatch (show Empty from e)
 | d+1,s=>mkT (hdT s) ((bdT s).map (upT d))
theorem TrQ.up:∀ {d:Nat} {A:Option Addr} {n:Nat} {l:List (Tr d)},TrQ w P d A n l→TrQ w P (d+1) A n (l.map (upT d)):=by
 intro d
 induction d with
 | zero =>
  intro A n l h
  have h1:l.length=n:=h.1
  have h2:n=0:=h.2
  exact ⟨by rw[List.length_map];exact h1,fun h0=>absurd h0 Zq6⟩
 | succ d ih =>
  intro A n l h
  refine ⟨by rw[List.length_map];exact h.1,fun h0=>?_⟩
  obtain ⟨b,off,e,h1,hb,hc⟩:=h.2 h0
  refine ⟨b,off,e,h1,hb,fun i s hi=>?_⟩
  rw[List.getElem?_map,Option.map_eq_some_iff] at hi
  obtain ⟨t,ht,rfl⟩:=hi
  obtain ⟨Aa,ca,Ab,nb,cb,h1,h2,h3,h4⟩:=hc i t ht
  exact ⟨Aa,ca,Ab,nb,cb,h1,h2,ih h3,h4⟩
theorem yg2:∀ (d:Nat) (l:List (Tr d)),szT (d+1) (l.map (upT d))=szT d l:=by
 intro d
 induction d with
 | zero =>
  intro l
  cases l with
  | nil=>rfl
  | cons x _=>exact nomatch (show Empty from x)
 | succ d ih =>
  intro l
  rw[ybb,ybb,List.length_map]
  congr 1
  unfold sumE
  rw[List.map_map]
  congr 1
  apply List.map_congr_left
  intro s _
  show(hdT s).word.size+((hdT s).args.length+szS (hdT s).args+szT (d+1) ((bdT s).map (upT d)))=_
  rw[ih]
  rfl
def scl (s:SH) (Aa:Option Addr) (ca:Nat) (Ab:Option Addr) (nb cb:Nat):List Value:=[.int .i64 s.k,.string s.word,.slice Aa s.args.length ca,.int .i64 s.count,.slice Ab nb cb]
def StQ (w:World) (Q:Nat→Prop) (d:Nat) (cs:List Value) (s:Tr (d+1)):Prop :=
 ∃ Aa ca Ab nb cb,cs=scl (hdT s) Aa ca Ab nb cb∧RdQ w Q 1 Aa (hdT s).args.length (strs (hdT s).args)∧TrQ w Q d Ab nb (bdT s)∧(hdT s).args.length≤ca
def Fa2 {α β:Type} (R:α→β→Prop):List α→List β→Prop
 | [],[]=>True
 | a :: l,b :: m=>R a b∧Fa2 R l m
 | _,_=>False
def ElQ (w:World) (Q:Nat→Prop) (d:Nat) (xs:List Value) (l:List (Tr (d+1))):Prop :=
 ∃ css:List (List Value),xs=css.flatten∧Fa2 (StQ w Q d) css l
theorem StQ.mono {d:Nat} {cs:List Value} {s:Tr (d+1)} (h:StQ w P d cs s) (hp:∀ b,b<w.heap.size→P b→P' b):StQ w P' d cs s:=by
 obtain ⟨Aa,ca,Ab,nb,cb,h1,h2,h3,h4⟩:=h
 exact ⟨Aa,ca,Ab,nb,cb,h1,h2.mono hp,h3.mono hp,h4⟩
theorem StQ.keep {d:Nat} {cs:List Value} {s:Tr (d+1)} (h:StQ w P d cs s) (hk:∀ b,P b→b<w.heap.size→w'.heap[b]?=w.heap[b]?) (hs:w.heap.size≤w'.heap.size):StQ w' P d cs s:=by
 obtain ⟨Aa,ca,Ab,nb,cb,h1,h2,h3,h4⟩:=h
 exact ⟨Aa,ca,Ab,nb,cb,h1,h2.keep hk hs,h3.keep hk hs,h4⟩
theorem StQ.up {d:Nat} {cs:List Value} {s:Tr (d+1)} (h:StQ w P d cs s):StQ w P (d+1) cs (upT (d+1) s):=by
 obtain ⟨Aa,ca,Ab,nb,cb,h1,h2,h3,h4⟩:=h
 exact ⟨Aa,ca,Ab,nb,cb,h1,h2,h3.up,h4⟩
theorem ygl {α β:Type} {R S:α→β→Prop} (h:∀ a b,R a b→S a b):∀ {l:List α} {m:List β},Fa2 R l m→Fa2 S l m
 | [],[],_=>trivial
 | _ :: _,_ :: _,h1=>⟨h _ _ h1.1,ygl h h1.2⟩
theorem yg3 {α β:Type} {R:α→β→Prop}:∀ {l l':List α} {m m':List β},Fa2 R l m→Fa2 R l' m'→Fa2 R (l++l') (m++m')
 | [],_,[],_,_,h2=>h2
 | _ :: _,_,_ :: _,_,h1,h2=>⟨h1.1,yg3 h1.2 h2⟩
theorem ykb {α β:Type} {R:α→β→Prop}:∀ {l:List α} {m:List β},Fa2 R l m→∀ {i:Nat} {y:β},m[i]?=some y→∃ x,l[i]?=some x∧R x y
 | [],[],_,i,y,h=>by simp at h
 | a :: _,_ :: _,h1,0,y,h=>by
  simp only[List.getElem?_cons_zero,Option.some.injEq] at h
  subst h
  exact ⟨a,rfl,h1.1⟩
 | _ :: _,_ :: _,h1,i+1,y,h=>by
  simp only[List.getElem?_cons_succ] at h ⊢
  exact ykb h1.2 h
theorem yi8 {α β γ:Type} {R:α→β→Prop} {S:α→γ→Prop} {f:β→γ} (h:∀ a b,R a b→S a (f b)):∀ {l:List α} {m:List β},Fa2 R l m→Fa2 S l (m.map f)
 | [],[],_=>trivial
 | _ :: _,_ :: _,h1=>⟨h _ _ h1.1,yi8 h h1.2⟩
theorem ElQ.nil {Q:Nat→Prop} {d:Nat}:ElQ w Q d [] []:=⟨[],rfl,trivial⟩
theorem ElQ.mono {d:Nat} {xs:List Value} {l:List (Tr (d+1))} (h:ElQ w P d xs l) (hp:∀ b,b<w.heap.size→P b→P' b):ElQ w P' d xs l:=by
 obtain ⟨css,e,h⟩:=h
 exact ⟨css,e,ygl (fun _ _ h=>h.mono hp) h⟩
theorem ElQ.keep {d:Nat} {xs:List Value} {l:List (Tr (d+1))} (h:ElQ w P d xs l) (hk:∀ b,P b→b<w.heap.size→w'.heap[b]?=w.heap[b]?) (hs:w.heap.size≤w'.heap.size):ElQ w' P d xs l:=by
 obtain ⟨css,e,h⟩:=h
 exact ⟨css,e,ygl (fun _ _ h=>h.keep hk hs) h⟩
theorem ElQ.up {d:Nat} {xs:List Value} {l:List (Tr (d+1))} (h:ElQ w P d xs l):ElQ w P (d+1) xs (l.map (upT (d+1))):=by
 obtain ⟨css,e,h⟩:=h
 exact ⟨css,e,yi8 (fun _ _ h=>h.up) h⟩
theorem ElQ.append {d:Nat} {xs ys:List Value} {l m:List (Tr (d+1))} (h:ElQ w P d xs l) (h':ElQ w P d ys m):ElQ w P d (xs++ys) (l++m):=by
 obtain ⟨css,e,h⟩:=h
 obtain ⟨dss,e',h'⟩:=h'
 exact ⟨css++dss,by rw[e,e',List.flatten_append],yg3 h h'⟩
theorem ElQ.one {d:Nat} {cs:List Value} {s:Tr (d+1)} (h:StQ w P d cs s):ElQ w P d cs [s]:=⟨[cs],by simp,h,trivial⟩
theorem StQ.len {d:Nat} {cs:List Value} {s:Tr (d+1)} (h:StQ w P d cs s):cs.length=5:=by
 obtain ⟨Aa,ca,Ab,nb,cb,rfl,_⟩:=h
 rfl
theorem StQ.ones {d:Nat} {cs:List Value} {s:Tr (d+1)} (h:StQ w P d cs s):∀ u∈cs,u.oneCell'=true:=by
 obtain ⟨Aa,ca,Ab,nb,cb,rfl,_⟩:=h
 intro u hu
 simp only[scl,List.mem_cons,List.not_mem_nil,or_false] at hu
 rcases hu with rfl|rfl|rfl|rfl|rfl <;> rfl
theorem yuc {R:List Value→Prop} (hR:∀ c,R c→c.length=5):∀ (css:List (List Value)),(∀ c∈css,R c)→∀ (i j:Nat) (c:List Value),css[i]?=some c→j<5→css.flatten[i*5+j]?=c[j]?:=by
 intro css
 induction css with
 | nil=>intro _ i j c h _;simp at h
 | cons x css ih =>
  intro hc i j c h hj
  have hx:=hR x (hc x Zq11)
  cases i with
  | zero =>
   simp only[List.getElem?_cons_zero,Option.some.injEq] at h
   subst h
   rw[Nat.zero_mul,Nat.zero_add,List.flatten_cons,List.getElem?_append_left Zq6]
  | succ i =>
   simp only[List.getElem?_cons_succ] at h
   rw[List.flatten_cons,List.getElem?_append_right Zq6,hx,show(i+1)*5+j - 5=i*5+j by omega]
   exact ih (fun c h=>hc c (by simp [h])) i j c h hj
theorem ElQ.all5 {d:Nat}:∀ {css:List (List Value)} {l:List (Tr (d+1))},Fa2 (StQ w P d) css l→∀ c∈css,c.length=5
 | [],[],_,c,h=>by simp at h
 | _ :: _,_ :: _,h1,c,hc=>by
  rcases List.mem_cons.1 hc with rfl|hc
  ·exact h1.1.len
  ·exact ElQ.all5 h1.2 c hc
theorem ElQ.ones2 {d:Nat}:∀ {css:List (List Value)} {l:List (Tr (d+1))},Fa2 (StQ w P d) css l→(∀ u∈css.flatten,u.oneCell'=true)∧css.flatten.length=l.length*5
 | [],[],_=>⟨by simp,rfl⟩
 | _ :: _,_ :: _,h1=>by
  obtain ⟨i1,i2⟩:=ElQ.ones2 h1.2
  refine ⟨fun u hu=>?_,by rw[List.flatten_cons,List.length_append,h1.1.len,i2,List.length_cons];omega⟩
  rw[List.flatten_cons] at hu
  rcases List.mem_append.1 hu with hu|hu
  ·exact h1.1.ones u hu
  ·exact i1 u hu
theorem ElQ.ones {d:Nat} {xs:List Value} {l:List (Tr (d+1))} (h:ElQ w P d xs l):∀ u∈xs,u.oneCell'=true:=by
 obtain ⟨css,rfl,h⟩:=h
 exact(ElQ.ones2 h).1
theorem ElQ.len {d:Nat} {xs:List Value} {l:List (Tr (d+1))} (h:ElQ w P d xs l):xs.length=l.length*5:=by
 obtain ⟨css,rfl,h⟩:=h
 exact(ElQ.ones2 h).2
theorem ElQ.tr {d n:Nat} {A:Option Addr} {xs:List Value} {l:List (Tr (d+1))} (h:ElQ w P d xs l) (hr:RdQ w P 5 A n xs) (hn:l.length=n):TrQ w P (d+1) A n l:=by
 refine ⟨hn,fun h0=>?_⟩
 obtain ⟨b,off,e,hp,hb,hc⟩:=hr.2 h0
 refine ⟨b,off,e,hp,hb,fun i s hi=>?_⟩
 obtain ⟨css,rfl,h⟩:=h
 obtain ⟨c,hci,Aa,ca,Ab,nb,cb,rfl,h2,h3,h4⟩:=ykb h hi
 have ha:=ElQ.all5 h
 have f:∀ j,j<5→∀ u,(scl (hdT s) Aa ca Ab nb cb)[j]?=some u→w.cell? ⟨b,off+(i*5+j),none⟩=some u:=fun j hj u hu=>hc _ _ ((yuc (R:=fun c=>c.length=5) (fun _ h=>h) css ha i j _ hci hj).trans hu)
 refine ⟨Aa,ca,Ab,nb,cb,⟨f 0 Zq9 _ rfl,?_,?_,?_,?_⟩,h2,h3,h4⟩
 ·have:=f 1 Zq9 _ rfl;rwa [←Nat.add_assoc] at this
 ·have:=f 2 Zq9 _ rfl;rwa [←Nat.add_assoc] at this
 ·have:=f 3 Zq9 _ rfl;rwa [←Nat.add_assoc] at this
 ·have:=f 4 Zq9 _ rfl;rwa [←Nat.add_assoc] at this
end
def OwnT (w:World) (base d:Nat) (v:Value) (l:List (Tr (d+1))):Prop :=
 ∃ xs,w.ownsRow base 66 5 v l.length xs∧ElQ w (fun b=>base≤b∧some b≠v.ownBlock) d xs l
theorem OwnT.grown {w w':World} {base d:Nat} {v:Value} {l:List (Tr (d+1))} {row:Option Nat} (h:OwnT w base d v l) (hg:w.grownBy w' row) (hr:∀ k,row=some k→k<base):OwnT w' base d v l:=by
 obtain ⟨xs,ho,he⟩:=h
 refine ⟨xs,ho.kept hg ?_,he.keep (fun b hp hb=>hg.block b hb (fun e=>?_)) hg.size⟩
 ·cases hk:v.ownBlock with
  | none=>exact .inl rfl
  | some k =>
   refine .inr fun e=>?_
   have h1:=hr k e.symm
   have h2:=(ho.lt k hk).1
   omega
 ·have:=hr b e.symm
  omega
theorem OwnT.below {w w':World} {base d:Nat} {v:Value} {l:List (Tr (d+1))} (h:OwnT w base d v l) (hb:Below w.heap.size w w'):OwnT w' base d v l :=
 h.grown (row:=none) ⟨hb.os,hb.tape,hb.output,hb.size,fun k hk _=>hb.block k hk⟩ (fun k e=>by cases e)
theorem yhi (w:World) (d:Nat):OwnT (w.alloc (.cells #[] 66)) w.heap.size d (.slice (some ⟨w.heap.size,0,none⟩) 0 0) []:=⟨[],yb2 w _ 5,ElQ.nil⟩
theorem ysd (w:World) (base d:Nat):OwnT w base d (.slice none 0 0) []:=⟨[],⟨rfl,.inl ⟨rfl,rfl⟩⟩,ElQ.nil⟩
theorem OwnT.push {w wa w6:World} {base d:Nat} {v v6:Value} {xs ys:List Value} {l m:List (Tr (d+1))} (hx:ElQ w (fun b=>base≤b∧some b≠v.ownBlock) d xs l) (hy:ElQ w (fun b=>base≤b∧some b≠v.ownBlock) d ys m)
  (ho6:w6.ownsRow base 66 5 v6 (l.length+m.length) (xs++ys)) (hba:Below w.heap.size w wa) (hg:wa.grownBy w6 v.ownBlock) (hv:v6.ownBlock=v.ownBlock∨v6.ownBlock=some wa.heap.size):OwnT w6 base d v6 (l++m):=by
 refine ⟨xs++ys,by rw[List.length_append];exact ho6,ElQ.mono (P:=fun b=>base≤b∧some b≠v.ownBlock∧b<w.heap.size) ?_ ?_⟩
 ·have hk:∀ b,(base≤b∧some b≠v.ownBlock∧b<w.heap.size)→b<w.heap.size→w6.heap[b]?=w.heap[b]?:=fun b hp hb=>(hg.block b (Nat.lt_of_lt_of_le hb hba.size) hp.2.1).trans (hba.block b hb)
  have hs:w.heap.size≤w6.heap.size:=Nat.le_trans hba.size hg.size
  exact((hx.mono (fun b hb hp=>⟨hp.1,hp.2,hb⟩)).append (hy.mono (fun b hb hp=>⟨hp.1,hp.2,hb⟩))).keep hk hs
 ·intro b _ hp
  refine ⟨hp.1,?_⟩
  rcases hv with e|e
  ·rw[e];exact hp.2.1
  ·rw[e]
   intro e
   injection e with e
   have:=hba.size
   omega
theorem OwnT.tr {w:World} {base d n c:Nat} {A:Option Addr} {l:List (Tr (d+1))} (h:OwnT w base d (.slice A n c) l) (hn:l.length=n):TrQ w (base≤·) (d+1) A n l:=by
 obtain ⟨xs,ho,he⟩:=h
 rw[hn] at ho
 exact(he.mono (fun b _ hp=>hp.1)).tr (yck ho) hn
theorem OwnT.up {w:World} {base d:Nat} {v:Value} {l:List (Tr (d+1))} (h:OwnT w base d v l):OwnT w base (d+1) v (l.map (upT (d+1))):=by
 obtain ⟨xs,ho,he⟩:=h
 exact ⟨xs,by rw[List.length_map];exact ho,he.up⟩
theorem OwnT.slice {w:World} {base d:Nat} {v:Value} {l:List (Tr (d+1))} (h:OwnT w base d v l):∃ A c,v=.slice A l.length c∧l.length≤c∧c≤maxLen:=by
 obtain ⟨xs,ho,_⟩:=h
 obtain ⟨A,c,e,h1,h2,_⟩:=yah ho
 exact ⟨A,c,e,h1,h2⟩
theorem ybd {w:World} {B B' e size n:Nat} {v:Value} {xs:List Value} (h:w.ownsRow B e size v n xs) (hB:B'≤B):w.ownsRow B' e size v n xs:=by
 refine ⟨h.1,?_⟩
 rcases h.2 with h2|⟨g,cap,cur,h1,h2,h3⟩
 ·exact .inl h2
 ·exact .inr ⟨g,cap,cur,h1,Nat.le_trans hB h2,h3⟩
theorem OwnT.low {w:World} {base base' d:Nat} {v:Value} {l:List (Tr (d+1))} (h:OwnT w base d v l) (hb:base'≤base):OwnT w base' d v l:=by
 obtain ⟨xs,ho,he⟩:=h
 exact ⟨xs,ybd ho hb,he.mono (fun b _ hp=>⟨Nat.le_trans hb hp.1,hp.2⟩)⟩
def ye7 (x:Fin 256):List Value:=[.int .u8 (x.val:Int)]
theorem yie (x:Fin 256):(ye7 x).length=1:=rfl
def ybt (w:World) (p:Nat):Prop:=∃ (A:Option Addr) (n c:Nat) (bs:List (Fin 256)) (i:Nat) (h:Int),
 w.heap[p]?=some (.cells #[.slice A n c,.int .i64 i,.int .i64 h] 126 (0,0))∧bs.length=n∧Rd w 1 A n (bs.flatMap ye7)∧(0<n→∀ ad,A=some ad→ad.block<p)∧i≤n∧n≤1048576
theorem ybt.lt {w:World} {p:Nat} (h:ybt w p):p<w.heap.size:=by
 obtain ⟨_,_,_,_,_,_,h,_⟩:=h
 exact lt_of_block h
theorem ybt.kept {w w':World} {p:Nat} (h:ybt w p) (hb:∀ k,k≤p→w'.heap[k]?=w.heap[k]?) (hs:w.heap.size≤w'.heap.size):ybt w' p:=by
 obtain ⟨A,n,c,bs,i,h,h1,h2,h3,h4,h5⟩:=h
 refine ⟨A,n,c,bs,i,h,(hb p (Nat.le_refl _)).trans h1,h2,⟨h3.1,fun h0=>?_⟩,h4,h5⟩
 obtain ⟨b,off,e,hl,hc⟩:=h3.2 h0
 refine ⟨b,off,e,Nat.lt_of_lt_of_le hl hs,fun j u hu=>?_⟩
 rw[←hc j u hu]
 have hk:=hb b (Nat.le_of_lt (h4 h0 _ e))
 simp [World.cell?,hk]
theorem ybt.below {w w':World} {p:Nat} (h:ybt w p) (hb:Below w.heap.size w w'):ybt w' p:=h.kept (fun k hk=>hb.block k (Nat.lt_of_le_of_lt hk h.lt)) hb.size
theorem ybt.grown {w w':World} {p:Nat} {row:Option Nat} (h:ybt w p) (hg:w.grownBy w' row) (hr:∀ k,row=some k→p<k):ybt w' p :=
 h.kept (fun k hk=>hg.block k (Nat.lt_of_le_of_lt hk h.lt) (by
  intro e
  have h1:=hr _ e.symm
  omega)) hg.size
def DI (w:World) (p:Nat) (lo hi:Int) (e:Ending) (w':World):Prop:=∃ x:Int,lo≤x∧x≤hi∧e=.returned (.int .i64 x)∧ybt w' p∧w.grownBy w' (some p)
def DB (w:World) (p:Nat) (e:Ending) (w':World):Prop:=∃ x:Bool,e=.returned (.bool x)∧ybt w' p∧w.grownBy w' (some p)
def DL (L:List Int) (w:World) (p:Nat) (e:Ending) (w':World):Prop:=∃ x:Int,x∈L∧e=.returned (.int .i64 x)∧ybt w' p∧w.grownBy w' (some p)
theorem ykc (x:Int):0≤bits .and .i64 x 255∧bits .and .i64 x 255≤255:=by
 have h:(BitVec.ofInt 64 x &&& BitVec.ofInt 64 255).toNat≤255:=by
  rw[BitVec.toNat_and]
  exact Nat.le_trans Nat.and_le_right Zq9
 have e:bits .and .i64 x 255=IntKind.i64.wrap ((BitVec.ofInt 64 x &&& BitVec.ofInt 64 255).toNat:Int):=rfl
 rw[e,IntWalk.i64_in _ Zq6]
 omega
theorem yf3 {a w:World} {row:Option Nat} (h:a.grownBy w row) (n:Nat):a.grownBy (w.drewN n) row:=⟨h.os,h.tape,h.output,h.size,h.block⟩
theorem ydy {a w:World} {g:Nat} (h:a.grownBy w (some g)) {p:Addr} (hp:p.block=g) (u:Value):a.grownBy (w.setCell p u) (some g) :=
 ⟨h.os,h.tape,h.output,by simpa [World.setCell] using h.size,fun i hi hne=>(Below.heap_setCell w p u i (by
  rintro rfl
  exact hne (by rw[hp]))).trans (h.block i hi hne)⟩
theorem yb7 {a w:World} (h:Below a.heap.size a w) (row:Option Nat):a.grownBy w row:=⟨h.os,h.tape,h.output,h.size,fun i hi _=>h.block i hi⟩
theorem ykd {w w':World} {p:Nat} {A:Option Addr} {n c:Nat} {bs:List (Fin 256)} {i':Nat} {h':Int} (hg:w.grownBy w' (some p)) (hp:p<w.heap.size)
  (h1:w'.heap[p]?=some (.cells #[.slice A n c,.int .i64 i',.int .i64 h'] 126 (0,0))) (h2:bs.length=n) (h3:Rd w 1 A n (bs.flatMap ye7)) (h4:0<n→∀ ad,A=some ad→ad.block<p) (h5:i'≤n) (h6:n≤1048576):ybt w' p:=by
 refine ⟨A,n,c,bs,i',h',h1,h2,⟨h3.1,fun h0=>?_⟩,h4,h5,h6⟩
 obtain ⟨b,off,e,hl,hc⟩:=h3.2 h0
 refine ⟨b,off,e,Nat.lt_of_lt_of_le hl hg.size,fun j u hu=>?_⟩
 have hne:=h4 h0 _ e
 rw[←hc j u hu]
 have hk:=hg.block b hl (by
  intro e1
  injection e1 with e1
  simp only at hne
  omega)
 simp [World.cell?,hk]
theorem ye8 (w:World) (p:Nat) (hcur:ybt w p):Calls Tryz.prog 129 #[.pointer (some ⟨p,0,none⟩)] w (DI w p 0 255):=by
 have hp:=hcur.lt
 obtain ⟨A,n,c,bs,i,h,h1,h2,h3,h4,h5,h6⟩:=hcur
 have p0:=yaj (j:=0) h1 rfl
 have p1:=yaj (j:=1) h1 rfl
 have p2:=yaj (j:=2) h1 rfl
 have f2:w.frozen? ⟨p,2,none⟩=false:=by simp [World.frozen?,h1]
 have H1:=hD h1
 have H2:=hD h2
 have H3:=hD h3
 have H4:=hD h4
 clear h1 h2 h3 h4
 go_enter Tryz.func129,Tryz.ntmps129
 go_wp2
 obtain ⟨w1,hw1⟩:∃ w1,w1=w.setCell ⟨p,2,none⟩ (.int .i64 (wrap64 (wrap64 (h*6364136223846793005)+1442695040888963407))):=⟨_,rfl⟩
 rw[←hw1]
 obtain ⟨h',hh'⟩:∃ h',h'=wrap64 (wrap64 (h*6364136223846793005)+1442695040888963407):=⟨_,rfl⟩
 rw[←hh'] at hw1 ⊢
 have g1:w.grownBy w1 (some p):=by rw[hw1];exact ydy (World.grownBy.refl w _) rfl _
 have x1:w1.heap[p]?=some (.cells #[.slice A n c,.int .i64 i,.int .i64 h'] 126 (0,0)):=by rw[hw1,heap_setCell_same _ _ _ _ _ _ H1.out];rfl
 clear hw1 hh' p0 p1 p2 f2
 have p0:=yaj (j:=0) x1 rfl
 have p1:=yaj (j:=1) x1 rfl
 have p2:=yaj (j:=2) x1 rfl
 have f1:w1.frozen? ⟨p,1,none⟩=false:=by simp [World.frozen?,x1]
 have X1:=hD x1
 clear x1
 by_cases hin:i<n
 ·obtain ⟨x,hx⟩:∃ x,bs[i]?=some x:=⟨_,List.getElem?_eq_getElem (by rw[H2.out];exact hin)⟩
  obtain ⟨b,off,rfl,hbl,hc⟩:=H3.out.2 Zq6
  have hbp:b<p:=H4.out Zq6 _ rfl
  have q0:w1.cell? ⟨b,off+i,none⟩=some (.int .u8 (x.val:Int)):=by
   have h:=hc (i*1+0) _ (yal yie bs i x 0 hx Zq9)
   have hk:=g1.block b hbl (by
    intro e
    injection e with e
    omega)
   simpa [World.cell?,hk] using h
  have hx2:=x.isLt
  clear hc hx
  go_quiet (fail)
  go_wp2_with fail
  go_quiet (fail)
  go_wp2_with fail
  go_quiet (fail)
  go_wp2_with fail
  go_ret
  have g2:∀ k,w.grownBy ((w1.drewN k).setCell ⟨p,1,none⟩ (.int .i64 ((i:Int)+1))) (some p):=fun k=>ydy (yf3 g1 k) rfl _
  refine ⟨_,(ykc _).1,(ykc _).2,rfl,ykd (i':=i+1) (h':=h') (c:=c) (g2 _) hp ?_ H2.out H3.out H4.out Zq6 h6,g2 _⟩
  rw[heap_setCell_same _ _ _ _ _ _ (show(w1.drewN _).heap[p]?=some (.cells #[.slice (some ⟨b,off,none⟩) n c,.int .i64 i,.int .i64 h'] 126 (0,0)) from X1.out)]
  rfl
 ·go_quiet (fail)
  go_wp2_with fail
  go_quiet (fail)
  go_wp2_with fail
  go_ret
  have g2:∀ k l,w.grownBy ((w1.drewN k).drewN l) (some p):=fun k l=>yf3 (yf3 g1 k) l
  exact ⟨_,(ykc _).1,(ykc _).2,rfl,ykd (i':=i) (h':=h') (c:=c) (g2 _ _) hp X1.out H2.out H3.out H4.out Zq6 h6,g2 _ _⟩
theorem ybu (n hi:Int) (w:World) (p:Nat) (hcur:ybt w p) (h0:0≤hi) (hn:n≤hi+1) (hm:n≤9223372036854775807):Calls Tryz.prog 81 #[.pointer (some ⟨p,0,none⟩),.int .i64 n] w (DI w p 0 hi):=by
 by_cases h1:n≤0
 ·go_enter Tryz.func81,Tryz.ntmps81
  go_wp2_with fail
  go_ret
  exact ⟨0,by omega,h0,rfl,hcur,World.grownBy.refl w _⟩
 by_cases h2:n≤256
 ·go_enter Tryz.func81,Tryz.ntmps81
  go_wp2_with fail
  refine(ye8 w p hcur).mono ?_
  rintro e w1 ⟨x,hx0,hx1,rfl,hc1,hg1⟩
  go_wp2_with fail
  go_ret
  exact ⟨x % n,Int.emod_nonneg _ Zq6,by have:=Int.emod_lt_of_pos x (show 0<n by omega);omega,rfl,hc1,hg1⟩
 ·go_enter Tryz.func81,Tryz.ntmps81
  go_wp2_with fail
  refine(ye8 w p hcur).mono ?_
  rintro e w1 ⟨x,hx0,hx1,rfl,hc1,hg1⟩
  go_wp2_with fail
  refine(ye8 w1 p hc1).mono ?_
  rintro e w2 ⟨y,hy0,hy1,rfl,hc2,hg2⟩
  go_wp2_with fail
  refine(ye8 w2 p hc2).mono ?_
  rintro e w3 ⟨z,hz0,hz1,rfl,hc3,hg3⟩
  go_wp2_with fail
  refine(ye8 w3 p hc3).mono ?_
  rintro e w4 ⟨u,hu0,hu1,rfl,hc4,hg4⟩
  go_wp2_with fail
  go_ret
  exact ⟨(x*16777216+y*65536+z*256+u) % n,Int.emod_nonneg _ Zq6,by have:=Int.emod_lt_of_pos (x*16777216+y*65536+z*256+u) (show 0<n by omega);omega,rfl,hc4,((hg1.trans hg2).trans hg3).trans hg4⟩
theorem yee (n:Int) (w:World) (p:Nat) (hcur:ybt w p) (hm0:-9223372036854775808≤n) (hm:n≤9223372036854775807):Calls Tryz.prog 83 #[.pointer (some ⟨p,0,none⟩),.int .i64 n] w (DB w p):=by
 go_enter Tryz.func83,Tryz.ntmps83
 go_wp2_with fail
 refine(ybu n 9223372036854775807 w p hcur Zq6 Zq6 hm).mono ?_
 rintro e w1 ⟨x,hx0,hx1,rfl,hc1,hg1⟩
 go_wp2_with fail
 go_ret
 exact ⟨_,rfl,hc1,hg1⟩
theorem yjh {w w':World} {p size n:Nat} {A:Option Addr} {xs:List Value} (h:Rd w size A n xs) (hg:w.grownBy w' (some p)) (hne:0<n→∀ ad,A=some ad→ad.block≠p):Rd w' size A n xs :=
 ⟨h.1,fun h0=>by
  obtain ⟨b,off,e,hl,hc⟩:=h.2 h0
  refine ⟨b,off,e,Nat.lt_of_lt_of_le hl hg.size,fun j u hu=>?_⟩
  rw[←hc j u hu]
  have hne':=hne h0 _ e
  have hk:=hg.block b hl (by
   intro e1
   injection e1 with e1
   exact hne' e1)
  simp [World.cell?,hk]⟩
theorem yeg (b k c:Nat) (L:List Int) (w:World) (p:Nat) (hcur:ybt w p) (hL:L.length=k) (hk:0<k) (hk2:k≤1000) (hr:Rd w 1 (some ⟨b,0,none⟩) k (L.map (Value.int .i64))) (hne:b≠p):Calls Tryz.prog 92 #[.pointer (some ⟨p,0,none⟩),.slice (some ⟨b,0,none⟩) k c] w (DL L w p):=by
 have HL:=hD hL
 have HR:=hD hr
 clear hL hr
 go_enter Tryz.func92,Tryz.ntmps92
 go_wp2_with fail
 refine(ybu k (k - 1) w p hcur Zq6 Zq6 Zq6).mono ?_
 rintro e w1 ⟨x,hx0,hx1,rfl,hc1,hg1⟩
 obtain ⟨j,rfl⟩:∃ j:Nat,x=j:=⟨x.toNat,by omega⟩
 have hjk:j<k:=by omega
 obtain ⟨y,hy⟩:∃ y,L[j]?=some y:=⟨_,List.getElem?_eq_getElem (by rw[HL.out];exact hjk)⟩
 have hq:w1.cell? ⟨b,j,none⟩=some (.int .i64 y):=by
  obtain ⟨b',off,e,hl,hc⟩:=(yjh HR.out hg1 (fun _ ad e=>by cases e;exact hne)).2 hk
  injection e with e
  injection e with e1 e2
  subst e1 e2
  have:=hc j (.int .i64 y) (by simp [hy])
  simpa using this
 have HY:=hD (List.mem_of_getElem? hy)
 clear hy
 go_wp2_with fail
 go_ret
 exact ⟨y,HY.out,rfl,hc1,hg1⟩
def yqq (w:World) (e:Ending) (w':World):Prop:=∃ p,e=.returned (.pointer (some ⟨p,0,none⟩))∧w.heap.size≤p∧ybt w' p∧Below w.heap.size w w'
theorem yoi {w:World} {A:Option Addr} {n c:Nat} {bs:List (Fin 256)} {h:Int} (hr:Rd w 1 A n (bs.flatMap ye7)) (hl:bs.length=n) (hn:n≤1048576) :
  yqq w (.returned (.pointer (some ⟨w.heap.size,0,none⟩))) (w.alloc (.cells #[.slice A n c,.int .i64 0,.int .i64 h] 126)):=by
 have hb:Below w.heap.size w (w.alloc (.cells #[.slice A n c,.int .i64 0,.int .i64 h] 126)):=Zq0
 refine ⟨w.heap.size,rfl,Nat.le_refl _,⟨A,n,c,bs,0,h,heap_alloc_new w _,hl,hr.below hb,fun h0 ad e=>?_,Nat.zero_le _,hn⟩,hb⟩
 obtain ⟨b,off,e',hlt,_⟩:=hr.2 h0
 rw[e] at e'
 injection e' with e'
 rw[e']
 exact hlt
theorem yqr (A:Option Addr) (n c:Nat) (bs:List (Fin 256)) (w:World) (h:Rd w 1 A n (bs.flatMap ye7)) (hl:bs.length=n) (hn:n≤1048576):Calls Tryz.prog 37 #[.slice A n c] w (yqq w):=by
 have H:=hD h
 have HL:=hD hl
 clear h hl
 go_enter Tryz.func37,Tryz.ntmps37
 go_wp2_with fail
 go_loop [3,4] (fun s i=>∃ (t:Nat) (h:Int),t≤n∧i=.int .i64 t∧s=.int .i64 h) (fun _ i=>n - (intOf i).toNat)
 case atStart=>exact ⟨0,_,Nat.zero_le _,rfl,rfl⟩
 case round =>
  obtain ⟨t,h,ht,rfl,rfl⟩:=hrel
  by_cases hlt:t<n
  ·by_cases h4:t<4000
   ·obtain ⟨x,hx⟩:∃ x,bs[t]?=some x:=⟨_,List.getElem?_eq_getElem (by rw[HL.out];exact hlt)⟩
    obtain ⟨b,off,rfl,hbl,hc⟩:=H.out.2 Zq6
    have q0:w.cell? ⟨b,off+t,none⟩=some (.int .u8 (x.val:Int)):=by
     have:=hc (t*1+0) _ (yal yie bs t x 0 hx Zq9)
     simpa using this
    have hx2:=x.isLt
    clear hc hx
    go_wp2_with fail
    go_round
    case rel=>exact ⟨t+1,_,by omega,by go_num,rfl⟩
    case measure=>simp [intOf];omega
   ·go_wp2_with fail
    go_ret
    exact yoi H.out HL.out hn
  ·go_wp2_with fail
   go_ret
   exact yoi H.out HL.out hn
structure Fr (w:World) (p:Nat) (w':World):Prop where
 cur:ybt w' p
 gr:w.grownBy w' (some p)
theorem Fr.start {w:World} {p:Nat} (h:ybt w p):Fr w p w:=⟨h,World.grownBy.refl w _⟩
theorem Fr.lt {w w1:World} {p:Nat} (h:Fr w p w1) (hp:p<w.heap.size):p<w1.heap.size:=h.cur.lt
theorem Fr.below {w w1 w2:World} {p:Nat} (h:Fr w p w1) (hb:Below w1.heap.size w1 w2):Fr w p w2 :=
 ⟨h.cur.below hb,h.gr.andThen (yb7 hb none) Zq11⟩
theorem Fr.alloc {w w1:World} {p:Nat} (h:Fr w p w1) (ob:Obj):Fr w p (w1.alloc ob):=h.below ((Below.refl _ _).alloc (Nat.le_refl _) _)
theorem Fr.call {w w1 w2:World} {p:Nat} (h:Fr w p w1) (hc:ybt w2 p) (hg:w1.grownBy w2 (some p)):Fr w p w2:=⟨hc,h.gr.trans hg⟩
theorem Fr.own {w w1 w2:World} {p:Nat} {row:Option Nat} (h:Fr w p w1) (hp:p<w.heap.size) (hg:w1.grownBy w2 row) (hr:∀ k,row=some k→w.heap.size≤k):Fr w p w2 :=
 ⟨h.cur.grown hg (fun k hk=>by have:=hr k hk;omega),h.gr.andThen hg (fun j hj=>.inl (hr j hj))⟩
theorem Fr.set {w w1:World} {p:Nat} (h:Fr w p w1) (hp:p<w.heap.size) {a:Addr} (ha:w.heap.size≤a.block) (v:Value):Fr w p (w1.setCell a v) :=
 h.own (row:=some a.block) hp (ydy (World.grownBy.refl w1 _) rfl v) (fun k hk=>by injection hk with hk;omega)
theorem Fr.drewN {w w1:World} {p:Nat} (h:Fr w p w1) (n:Nat):Fr w p (w1.drewN n):=⟨h.cur,yf3 h.gr n⟩
theorem ybl {w1 w2:World} {b p:Nat} {ob:Obj} (h:w1.heap[b]?=some ob) (hg:w1.grownBy w2 (some p)) (hne:b≠p):w2.heap[b]?=some ob :=
 (hg.block b (lt_of_block h) (fun e=>hne (by injection e))).trans h
theorem yc4 {w:World} {cs:Array Value} {e n size b:Nat} (h0:b=w.heap.size) (hs:cs.size=n*size):Rd (w.alloc (.cells cs e)) size (some ⟨b,0,none⟩) n cs.toList:=by
 subst h0
 refine ⟨by simpa using hs,fun _=>⟨_,0,rfl,by simp,fun j u hu=>?_⟩⟩
 have h:=heap_alloc_new w (.cells cs e)
 have hc:cs[j]?=some u:=by rw[←Array.getElem?_toList];exact hu
 rw[Nat.zero_add]
 exact yaj h hc
theorem yab {w:World} {b j:Nat} {cs:Array Value} {t:TypeId} (h:w.heap[b]?=some (.cells cs t (0,0))):w.frozen? ⟨b,j,none⟩=false:=by simp [World.frozen?,h]

end Go.Proofs.YthkbckkghnbonaaGreatDoor
