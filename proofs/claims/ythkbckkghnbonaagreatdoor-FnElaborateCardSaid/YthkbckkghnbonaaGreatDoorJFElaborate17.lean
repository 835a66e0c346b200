/- What the calls that this law reaches answer, part 17 of 20. -/
import Derived.Test.YthkbckkghnbonaaGreatDoorJFElaborate16
set_option maxRecDepth 100000
set_option maxHeartbeats 16000000
set_option linter.unusedVariables false
namespace Go.Proofs.YthkbckkghnbonaaGreatDoor
open Go.RowKit
set_option linter.unusedVariables false
def LitB (R:Nat) (W:World) (A:Option Addr) (n:Nat):Prop:=∃ (cs:List Value) (m:List (Tr 3)),RdQ W (R≤·) 5 A n cs∧ElQ W (R≤·) 2 cs m∧m.length=n∧Few 2 m
theorem LitB.fr {R p n:Nat} {A:Option Addr} {W W1:World} (h:LitB R W A n) (hf:Fr W p W1) (hp:p<R):LitB R W1 A n:=by
 obtain ⟨cs,m,h1,h2,h3⟩:=h
 exact ⟨cs,m,yam h1 hf Zq6,h2.keep (fun b hb hlt=>hf.gr.block b hlt (fun e=>by injection e with e;omega)) hf.gr.size,h3⟩
theorem OwnT.litB {W:World} {R B c:Nat} {A:Option Addr} {l:List (Tr 3)} (h:OwnT W B 2 (.slice A l.length c) l) (hf:Few 2 l) (hb:R≤B):LitB R W A l.length:=by
 obtain ⟨xs,ho,he⟩:=h
 exact ⟨xs,l,(yck ho).mono (fun b _ h=>Nat.le_trans hb h),he.mono (fun b _ h=>Nat.le_trans hb h.1),rfl,hf⟩
theorem ytm {l m:List (Tr 3)} (h1:l.length≤3) (h2:∀ s∈l,szE s≤bE 2) (hm:Few 2 m):(l++m).length≤6∧∀ s∈l++m,szE s≤bE 2:=by
 have h3:=hm.1
 refine ⟨by rw[List.length_append];omega,fun s hs=>?_⟩
 rcases List.mem_append.1 hs with h|h
 ·exact h2 s h
 ·exact hm.2 s h
theorem OwnT.set0 {w:World} {base d:Nat} {v:Value} {l:List (Tr (d+1))} (h:OwnT w base d v l) {p:Addr} (hp:p.block<base) (u:Value):OwnT (w.setCell p u) base d v l :=
 h.grown (ydy (World.grownBy.refl w (some p.block)) rfl u) (fun k hk=>by injection hk with hk;omega)
theorem ynf (hbody:yjz 2) (w:World) (p:Nat) (hcur:ybt w p):Calls Tryz.prog 80 #[.pointer (some ⟨p,0,none⟩)] w (DRt w p):=by
 obtain ⟨i0,hi,hz0,hz1,hz2⟩:=info_parts yex
 obtain ⟨j0,hj,hy0,hy1,hy2⟩:=info_parts ydh
 have hp:=hcur.lt
 go_enter Tryz.func80,Tryz.ntmps80
 go_wp2_with fail
 obtain ⟨w0,hw0⟩:∃ w0,w0=w.alloc (.cells #[.slice none 0 0,.slice none 0 0] 27):=⟨_,rfl⟩
 rw[←hw0]
 have z0:w0.heap.size=w.heap.size+1:=by rw[hw0];simp
 have x0:w0.heap[w.heap.size]?=some (.cells #[.slice none 0 0,.slice none 0 0] 27 (0,0)):=by rw[hw0];exact yac _ _
 have fr0:Fr w p w0:=by rw[hw0];exact(Fr.start hcur).alloc _
 obtain ⟨wa,hwa⟩:∃ wa,wa=w0.alloc (.cells #[] 9):=⟨_,rfl⟩
 rw[←hwa]
 have za:wa.heap.size=w.heap.size+1+1:=by rw[hwa];simp [z0]
 have ba:Below w0.heap.size w0 wa:=by rw[hwa];exact Zq0
 have owna:wa.ownsRow w0.heap.size 9 1 (.slice (some ⟨w.heap.size+1,0,none⟩) 0 0) 0 []:=by rw[hwa,←z0];exact yb2 w0 _ _
 obtain ⟨wb,hwb⟩:∃ wb,wb=wa.alloc (.cells #[.string ⟨#[97]⟩,.string ⟨#[98]⟩,.string ⟨#[99]⟩] 9):=⟨_,rfl⟩
 rw[←hwb]
 have zb:wb.heap.size=w.heap.size+1+1+1:=by rw[hwb];simp [za]
 have bb:Below wa.heap.size wa wb:=by rw[hwb];exact Zq0
 have rb:Rd wb 1 (some ⟨w.heap.size+1+1,0,none⟩) 3 (strs [⟨#[97]⟩,⟨#[98]⟩,⟨#[99]⟩]):=by rw[hwb];exact yit (w:=wa) za.symm
 have frb:=(fr0.below ba).below bb
 have xb:=(bb.block _ Zq6).trans ((ba.block _ Zq6).trans x0)
 have ownb:=yat owna bb
 clear hw0 hwa hwb ba bb owna x0 fr0
 refine(ybu 3 2 wb p frb.cur Zq6 Zq6 Zq6).mono ?_
 rintro e w1 ⟨j,hj0,hj1,rfl,hc1,hg1⟩
 obtain ⟨j,rfl⟩:∃ j':Nat,j=j':=⟨j.toNat,by omega⟩
 have hsz1:=hg1.size
 have FR1:=hD (frb.call hc1 hg1)
 have X1:=hD (ybl xb hg1 Zq6)
 have OB:=ydv ownb hg1 Zq6
 have RB:=(ymt rb hg1 (fun ad e=>by injection e with e;subst e;show w.heap.size+1+1≠p;omega)).take (t:=1+j) Zq6
 have HQ:=hD (ysx (j:=j) Zq6)
 have HRL:=hD RB.1
 clear frb xb ownb rb hc1 hg1
 go_wp2_with (at_builtin;refine yae _ rfl _ _ 24 rfl w0.heap.size 9 j0 _ 1 16 Tryz.underlying24 hj hy0 hy1 hy2 rfl Zq9 _ _ _ rfl OB _ (1+j) _ _ rfl RB ?c2 ?c3 ?c4 ?c5 ?_)
 case c2=>exact fun u hu=>yif _ u (List.mem_of_mem_take hu)
 case c3=>simp only[maxLen];omega
 case c4=>omega
 case c5=>omega
 intro v6 w6 own6 gr6 hat
 obtain ⟨Aq,cq,rfl,_,_,_⟩:=yah own6
 go_upto_region 2 with (fail)
 try rw[Nat.zero_add] at own6
 obtain ⟨nq,hnq⟩:∃ nq,nq=1+j:=⟨_,rfl⟩
 rw[←hnq] at own6 ⊢
 obtain ⟨Q,hQe⟩:∃ Q,Q=([⟨#[97]⟩,⟨#[98]⟩,⟨#[99]⟩]:List ByteArray).take (1+j):=⟨_,rfl⟩
 have hQ3:ykp 3 Q:=by rw[hQe];exact HQ.out
 have hQl:Q.length=nq:=by rw[hQe,hnq,List.length_take];show min (1+j) 3=1+j;omega
 have own6q:w6.ownsRow w0.heap.size 9 1 (.slice Aq nq cq) nq (strs Q):=by
  rw[hQe]
  have e:strs (([⟨#[97]⟩,⟨#[98]⟩,⟨#[99]⟩]:List ByteArray).take (1+j))=(strs [⟨#[97]⟩,⟨#[98]⟩,⟨#[99]⟩]).take (1+j):=by simp [strs,List.map_take]
  rw[e]
  rw[←hnq]
  rw[z0]
  simpa using own6
 obtain ⟨X,hX⟩:∃ X,X=w6.heap.size:=⟨_,rfl⟩
 have fr6:=FR1.out.own hp gr6 (fun k hk=>by have:=ybe OB k hk;omega)
 have r6:=(gr6.block _ (lt_of_block X1.out) (fun e=>by have:=ybe OB _ e.symm;omega)).trans X1.out
 have hXlo:w.heap.size<X:=by have:=lt_of_block r6;omega
 obtain ⟨w7,hw7⟩:∃ w7,w7=w6.alloc (.cells #[.slice Aq nq cq,.slice none 0 0] 27):=⟨_,rfl⟩
 rw[←hw7,←hX]
 have P7:PS w p X Aq nq cq Q 2 (.slice none 0 0) [] w7:=by
  have b7:Below w6.heap.size w6 w7:=by rw[hw7];exact Zq0
  refine ⟨fr6.below b7,hXlo,(b7.block _ (lt_of_block r6)).trans r6,by rw[hw7,hX];exact yac _ _,yat (ybd own6q Zq6) b7,hQl,fun k hk=>?_,ysd _ _ _⟩
  have:=(own6q.lt k hk).2
  omega
 have P7H:=hD P7
 have HQ3:=hD hQ3
 have hnq1:1≤nq:=by rw[←hQl];exact hQ3.1
 have hnq3:nq≤3:=by rw[←hQl];exact hQ3.2.1
 clear own6 own6q gr6 fr6 r6 hw7 hX P7 hQe hQ3 HQ X1 OB RB HRL hat hnq FR1 hQl
 go_wp2_with fail
 refine(yee 2 w7 p P7H.out.fr.cur Zq6 Zq6).mono ?_
 rintro e w8 ⟨wild,rfl,hc8,hg8⟩
 have P8:=hD (P7H.out.call hp ⟨hc8,hg8⟩)
 clear hc8 hg8 P7H
 go_upto_region 3 with (fail)
 go_cut [19] (fun g W=>∃ b:Bool,g=.bool b∧PS w p X Aq nq cq Q 2 (.slice none 0 0) [] W)
 case first =>
  cases wild
  ·go_wp2_with fail
   go_meet
   exact ⟨_,rfl,P8.out⟩
  ·go_wp2_with fail
   refine(yee 2 w8 p P8.out.fr.cur Zq6 Zq6).mono ?_
   rintro e w9 ⟨b9,rfl,hc9,hg9⟩
   have P9:=hD (P8.out.call hp ⟨hc9,hg9⟩)
   clear hc9 hg9 P8
   go_wp2_with fail
   go_meet
   exact ⟨_,rfl,P9.out⟩
 case rest =>
  obtain ⟨b9,rfl,hp9⟩:=hcut
  obtain ⟨w9,rfl⟩:∃ w9:World,w9=wc:=⟨_,rfl⟩
  have P9:=hD hp9
  clear hp9 P8
  go_upto_if 19 with (fail)
  go_cut [] (fun W=>∃ (vb:Value) (l:List (Tr 3)),l.length≤3∧(∀ s∈l,szE s≤bE 2)∧PS w p X Aq nq cq Q 2 vb l W)
  case first =>
   cases b9
   ·go_wp2_with fail
    go_meet
    exact ⟨_,[],by decide,(fun s hs=>absurd hs Zq11),P9.out⟩
   ·go_upto_region 4 with (fail)
    obtain ⟨wc,rfl⟩:∃ wc:World,wc=w9:=⟨_,rfl⟩
    have NM:=hD (P9.out.names hp ⟨HQ3.out.1,by have:=HQ3.out.2.1;omega,HQ3.out.2.2⟩)
    obtain ⟨gq,oq,q0,rfl,hgl,cq0,_,hq09⟩:=NM.out.at_ (t:=0) Zq6
    rw[Nat.add_zero] at cq0
    have PC:=P9
    have hgp:gq≠p:=NM.out.ne _ rfl
    obtain ⟨c0,c1⟩:=ycs (lay:=Below.refl _ _) PC.out.x
    have hXl:=lt_of_block PC.out.x
    have hXp:X≠p:=by omega
    have frD:Fr w p wc:=PC.out.fr
    have frS:Fr wc p wc:=Fr.start PC.out.fr.cur
    have hpc:p<wc.heap.size:=PC.out.fr.cur.lt
    have C0:=hD c0
    have C1:=hD c1
    have CQ:=hD cq0
    have tok1:True:=trivial
    have hnq0:0<nq:=by omega
    clear c0 c1 cq0 P9
    obtain ⟨J0,hJ0⟩:∃ J:Array Value→Array Bool→Act→World→Prop,J=(fun A0 Lz a W=>∃ (wd1:ByteArray) (as1:List ByteArray) (A1:Option Addr) (ca1:Nat) (b2:Nat) (b3:Nat) (wd2:ByteArray) (as2:List ByteArray) (A2:Option Addr) (ca2:Nat) (b5:Nat) (b6:Nat) (A6:Option Addr) (c6:Nat),∃ x20 x21 x22 x23 x24 x25 x26 x27 x28 x29 x30 x31 x32 x33 x34 x35 x36 x37 x38 x39 x40 x41:Value,a=⟨((((((((((((((((((((((A0.setIfInBounds 20 x20).setIfInBounds 21 x21).setIfInBounds 22 x22).setIfInBounds 23 x23).setIfInBounds 24 x24).setIfInBounds 25 x25).setIfInBounds 26 x26).setIfInBounds 27 x27).setIfInBounds 28 x28).setIfInBounds 29 x29).setIfInBounds 30 x30).setIfInBounds 31 x31).setIfInBounds 32 x32).setIfInBounds 33 x33).setIfInBounds 34 x34).setIfInBounds 35 x35).setIfInBounds 36 x36).setIfInBounds 37 x37).setIfInBounds 38 x38).setIfInBounds 39 x39).setIfInBounds 40 x40).setIfInBounds 41 x41),[]⟩∧(Ls Lz 0→x20=.pointer (some ⟨X,1,none⟩))∧(Ls Lz 1→x21=.slice none 0 0)∧(Ls Lz 2→x22=.pointer (some ⟨p,0,none⟩))∧(Ls Lz 3→x23=.pointer (some ⟨X,0,none⟩))∧(Ls Lz 4→x24=.slice (some ⟨gq,oq,none⟩) nq cq)∧(Ls Lz 5→x25=.agg #[.int .i64 1,.string wd1,.slice A1 as1.length ca1,.int .i64 0,.slice none 0 0]∧(as1.length≤ca1∧wd1.size≤4∧as1.length≤3∧szS as1≤27))∧(Ls Lz 6→x26=.pointer (some ⟨X,0,none⟩))∧(Ls Lz 7→x27=.slice (some ⟨gq,oq,none⟩) nq cq)∧(Ls Lz 8→x28=.pointer (some ⟨gq,oq,none⟩))∧(Ls Lz 9→x29=.string q0)∧(Ls Lz 10→x30=.slice (some ⟨b2,0,none⟩) 2 2)∧(Ls Lz 11→x31=.agg #[.int .i64 6,.string ⟨#[]⟩,.slice (some ⟨b2,0,none⟩) 2 2,.int .i64 0,.slice none 0 0])∧(Ls Lz 12→x32=.slice (some ⟨b3,0,none⟩) 1 1)∧(Ls Lz 13→x33=.pointer (some ⟨p,0,none⟩))∧(Ls Lz 14→x34=.pointer (some ⟨X,0,none⟩))∧(Ls Lz 15→x35=.slice (some ⟨gq,oq,none⟩) nq cq)∧(Ls Lz 16→x36=.agg #[.int .i64 1,.string wd2,.slice A2 as2.length ca2,.int .i64 0,.slice none 0 0]∧(as2.length≤ca2∧wd2.size≤4∧as2.length≤3∧szS as2≤27))∧(Ls Lz 17→x37=.slice (some ⟨b5,0,none⟩) 1 1∧szT 2 [mkT (d:=1) ⟨1,wd2,as2,0⟩ []]≤40)∧(Ls Lz 18→x38=.agg #[.int .i64 7,.string ⟨#[]⟩,.slice (some ⟨b3,0,none⟩) 1 1,.int .i64 0,.slice (some ⟨b5,0,none⟩) 1 1]∧szT 2 [mkT (d:=1) ⟨1,wd2,as2,0⟩ []]≤40)∧(Ls Lz 19→x39=.slice (some ⟨b6,0,none⟩) 3 3)∧(Ls Lz 20→x40=.slice A6 3 c6)∧(Ls Lz 21→x41=.pointer (some ⟨X,1,none⟩))∧(Ls Lz 22→(∃ (vb:Value) (l:List (Tr 3)),l.length≤3∧(∀ s∈l,szE s≤bE 2)∧PS w p X (some ⟨gq,oq,none⟩) nq cq Q 2 vb l W))∧(Ls Lz 5→¬ Ls Lz 20→RdQ W (fun b=>X+1≤b) 1 A1 as1.length (strs as1))∧(Ls Lz 10→¬ Ls Lz 20→RdQ W (fun b=>X+1≤b) 1 (some ⟨b2,0,none⟩) 2 (strs [q0,⟨#[114]⟩]))∧(Ls Lz 12→¬ Ls Lz 20→RdQ W (fun b=>X+1≤b) 1 (some ⟨b3,0,none⟩) 1 (strs [⟨#[114]⟩]))∧(Ls Lz 16→¬ Ls Lz 20→RdQ W (fun b=>X+1≤b) 1 A2 as2.length (strs as2))∧(Ls Lz 17→¬ Ls Lz 20→TrQ W (fun b=>X+1≤b) 2 (some ⟨b5,0,none⟩) 1 [mkT (d:=1) ⟨1,wd2,as2,0⟩ []])∧(Ls Lz 19→¬ Ls Lz 20→Lit3 (X+1) W b6)∧(¬ Ls Lz 20→Fr wc p W)∧(Ls Lz 20→¬ Ls Lz 22→(∃ (W5:World) (m:List (Tr 3)),Fr wc p W5∧W5.grownBy W (Value.slice none 0 0).ownBlock∧OwnT W (X+1) 2 (.slice A6 3 c6) m∧W.heap[X]?=some (.cells #[.slice (some ⟨gq,oq,none⟩) nq cq,.slice none 0 0] 27 (0,0))∧m.length≤3∧∀ s∈m,szE s≤bE 2))):=⟨_,rfl⟩
    have HJ0:=hD hJ0
    clear hJ0
    refine ya3 Zq8 J0 ?_ ?_ ?_
    ·intro A0
     rw[HJ0.out]
     exact ⟨⟨#[]⟩,[],none,0,0,0,⟨#[]⟩,[],none,0,0,0,none,0,A0.getD 20 undef,A0.getD 21 undef,A0.getD 22 undef,A0.getD 23 undef,A0.getD 24 undef,A0.getD 25 undef,A0.getD 26 undef,A0.getD 27 undef,A0.getD 28 undef,A0.getD 29 undef,A0.getD 30 undef,A0.getD 31 undef,A0.getD 32 undef,A0.getD 33 undef,A0.getD 34 undef,A0.getD 35 undef,A0.getD 36 undef,A0.getD 37 undef,A0.getD 38 undef,A0.getD 39 undef,A0.getD 40 undef,A0.getD 41 undef,by simp only[ybm],zn,zn,zn,zn,zn,zn,zn,zn,zn,zn,zn,zn,zn,zn,zn,zn,zn,zn,zn,zn,zn,zn,zn,zn,zn,zn,zn,zn,zn,fun _=>frS.drew,zn⟩
    ·intro Lz a W hsize hcl hJ i hi
     have hil:=ybn hi
     have hnl:=ybi hi
     have hnow:=ybh hi hsize
     have HCL:=hD hcl
     rw[HJ0.out] at hJ
     obtain ⟨wd1,as1,A1,ca1,b2,b3,wd2,as2,A2,ca2,b5,b6,A6,c6,x20,x21,x22,x23,x24,x25,x26,x27,x28,x29,x30,x31,x32,x33,x34,x35,x36,x37,x38,x39,x40,x41,rfl,HF⟩:=hJ
     have HH:=hD HF
     have hi2:i=0∨i=1∨i=2∨i=3∨i=4∨i=5∨i=6∨i=7∨i=8∨i=9∨i=10∨i=11∨i=12∨i=13∨i=14∨i=15∨i=16∨i=17∨i=18∨i=19∨i=20∨i=21∨i=22:=by simp at hil;omega
     clear hil hcl HF
     rcases hi2 with rfl|rfl|rfl|rfl|rfl|rfl|rfl|rfl|rfl|rfl|rfl|rfl|rfl|rfl|rfl|rfl|rfl|rfl|rfl|rfl|rfl|rfl|rfl
     ·clear hi HCL
      simp only[zA,zB,zC]
      refine yaa rfl rfl fun K hK=>?_
      go_wp2_with fail
      rw[HJ0.out]
      exact ⟨wd1,as1,A1,ca1,b2,b3,wd2,as2,A2,ca2,b5,b6,A6,c6,.pointer (some ⟨X,1,none⟩),x21,x22,x23,x24,x25,x26,x27,x28,x29,x30,x31,x32,x33,x34,x35,x36,x37,x38,x39,x40,x41,(by simp only[zA,zB,zC]),zT HH⟩
     ·have hns:¬ Ls Lz 20:=fun h=>hnl (dq HCL h 1)
      have D0:=(pj0 HH.out) (rq hi 0)
      have V0:=(pj29 HH.out) hns
      have hnla:¬ Ls Lz 22:=fun h=>hns (HCL.out.dep2 h 20 Zq8)
      clear hi HCL
      simp only[zA,zB,zC,D0]
      have k0:=ybw V0 hXl hXp C1.out
      refine yaa rfl rfl fun K hK=>?_
      go_wp2_with fail
      rw[HJ0.out]
      exact ⟨wd1,as1,A1,ca1,b2,b3,wd2,as2,A2,ca2,b5,b6,A6,c6,x20,.slice none 0 0,x22,x23,x24,x25,x26,x27,x28,x29,x30,x31,x32,x33,x34,x35,x36,x37,x38,x39,x40,x41,(by simp only[zA,zB,zC,D0]),zT HH⟩
     ·clear hi HCL
      simp only[zA,zB,zC]
      refine yaa rfl rfl fun K hK=>?_
      go_wp2_with fail
      rw[HJ0.out]
      exact ⟨wd1,as1,A1,ca1,b2,b3,wd2,as2,A2,ca2,b5,b6,A6,c6,x20,x21,.pointer (some ⟨p,0,none⟩),x23,x24,x25,x26,x27,x28,x29,x30,x31,x32,x33,x34,x35,x36,x37,x38,x39,x40,x41,(by simp only[zA,zB,zC]),zT HH⟩
     ·clear hi HCL
      simp only[zA,zB,zC]
      refine yaa rfl rfl fun K hK=>?_
      go_wp2_with fail
      rw[HJ0.out]
      exact ⟨wd1,as1,A1,ca1,b2,b3,wd2,as2,A2,ca2,b5,b6,A6,c6,x20,x21,x22,.pointer (some ⟨X,0,none⟩),x24,x25,x26,x27,x28,x29,x30,x31,x32,x33,x34,x35,x36,x37,x38,x39,x40,x41,(by simp only[zA,zB,zC]),zT HH⟩
     ·have hns:¬ Ls Lz 20:=fun h=>hnl (dq HCL (dq HCL (dq HCL h 19) 5) 4)
      have D3:=(pj3 HH.out) (rq hi 3)
      have V0:=(pj29 HH.out) hns
      have hnla:¬ Ls Lz 22:=fun h=>hns (HCL.out.dep2 h 20 Zq8)
      clear hi HCL
      simp only[zA,zB,zC,D3]
      have k0:=ybw V0 hXl hXp C0.out
      refine yaa rfl rfl fun K hK=>?_
      go_wp2_with fail
      rw[HJ0.out]
      exact ⟨wd1,as1,A1,ca1,b2,b3,wd2,as2,A2,ca2,b5,b6,A6,c6,x20,x21,x22,x23,.slice (some ⟨gq,oq,none⟩) nq cq,x25,x26,x27,x28,x29,x30,x31,x32,x33,x34,x35,x36,x37,x38,x39,x40,x41,(by simp only[zA,zB,zC,D3]),zT HH⟩
     ·have hns:¬ Ls Lz 20:=fun h=>hnl (dq HCL (dq HCL h 19) 5)
      have D2:=(pj2 HH.out) (rq hi 2)
      have D4:=(pj4 HH.out) (rq hi 4)
      have V0:=(pj29 HH.out) hns
      have hnla:¬ Ls Lz 22:=fun h=>hns (HCL.out.dep2 h 20 Zq8)
      clear hi HCL
      simp only[zA,zB,zC,D2,D4]
      refine yaa rfl rfl fun K hK=>?_
      go_wp2_with fail
      refine(yew _ _ _ Q _ p V0.cur (NM.out.fr V0)).mono ?_
      rintro e y1 ⟨wd7,as7,A7,ca7,rfl,q7,hb7,hc,hg⟩
      go_wp2_with fail
      rw[HJ0.out]
      exact ⟨wd7,as7,A7,ca7,b2,b3,wd2,as2,A2,ca2,b5,b6,A6,c6,x20,x21,x22,x23,x24,.agg #[.int .i64 1,.string wd7,.slice A7 as7.length ca7,.int .i64 0,.slice none 0 0],x26,x27,x28,x29,x30,x31,x32,x33,x34,x35,x36,x37,x38,x39,x40,x41,(by simp only[zA,zB,zC,D2,D4]),zk HH,zk HH,zk HH,zk HH,zk HH,fun _=>⟨rfl,hb7⟩,zk HH,zk HH,zk HH,zk HH,zk HH,zk HH,zk HH,zk HH,zk HH,zk HH,zk HH,zk HH,zk HH,zk HH,zk HH,zk HH,Ba hnla,fun _ _=>q7.mono (fun b _ hb=>Nat.le_trans (show X+1≤W.heap.size by have:=V0.gr.size;omega) hb),(Bt (pj24 HH.out) fun x=>yam x (Fr.mk hc hg) Zq6),(Bt (pj25 HH.out) fun x=>yam x (Fr.mk hc hg) Zq6),(Bt (pj26 HH.out) fun x=>yam x (Fr.mk hc hg) Zq6),(Bt (pj27 HH.out) fun x=>TrQ.call x (Fr.gr (Fr.mk hc hg)) Zq6),(Bt (pj28 HH.out) fun x=>Lit3.fr x (Fr.mk hc hg) Zq6),fun h=>Fr.call ((pj29 HH.out) (fun h2=>h h2.fwd)) (Fr.cur (Fr.mk hc hg)) (Fr.gr (Fr.mk hc hg)),Bb hns⟩
     ·clear hi HCL
      simp only[zA,zB,zC]
      refine yaa rfl rfl fun K hK=>?_
      go_wp2_with fail
      rw[HJ0.out]
      exact ⟨wd1,as1,A1,ca1,b2,b3,wd2,as2,A2,ca2,b5,b6,A6,c6,x20,x21,x22,x23,x24,x25,.pointer (some ⟨X,0,none⟩),x27,x28,x29,x30,x31,x32,x33,x34,x35,x36,x37,x38,x39,x40,x41,(by simp only[zA,zB,zC]),zT HH⟩
     ·have hns:¬ Ls Lz 20:=fun h=>hnl (dq HCL (dq HCL (dq HCL (dq HCL (dq HCL (dq HCL h 19) 11) 10) 9) 8) 7)
      have D6:=(pj6 HH.out) (rq hi 6)
      have V0:=(pj29 HH.out) hns
      have hnla:¬ Ls Lz 22:=fun h=>hns (HCL.out.dep2 h 20 Zq8)
      clear hi HCL
      simp only[zA,zB,zC,D6]
      have k0:=ybw V0 hXl hXp C0.out
      refine yaa rfl rfl fun K hK=>?_
      go_wp2_with fail
      rw[HJ0.out]
      exact ⟨wd1,as1,A1,ca1,b2,b3,wd2,as2,A2,ca2,b5,b6,A6,c6,x20,x21,x22,x23,x24,x25,x26,.slice (some ⟨gq,oq,none⟩) nq cq,x28,x29,x30,x31,x32,x33,x34,x35,x36,x37,x38,x39,x40,x41,(by simp only[zA,zB,zC,D6]),zT HH⟩
     ·have D7:=(pj7 HH.out) (rq hi 7)
      clear hi HCL
      simp only[zA,zB,zC,D7]
      refine yaa rfl rfl fun K hK=>?_
      go_wp2_with fail
      rw[HJ0.out]
      exact ⟨wd1,as1,A1,ca1,b2,b3,wd2,as2,A2,ca2,b5,b6,A6,c6,x20,x21,x22,x23,x24,x25,x26,x27,.pointer (some ⟨gq,oq,none⟩),x29,x30,x31,x32,x33,x34,x35,x36,x37,x38,x39,x40,x41,(by simp only[zA,zB,zC,D7]),zT HH⟩
     ·have hns:¬ Ls Lz 20:=fun h=>hnl (dq HCL (dq HCL (dq HCL (dq HCL h 19) 11) 10) 9)
      have D8:=(pj8 HH.out) (rq hi 8)
      have V0:=(pj29 HH.out) hns
      have hnla:¬ Ls Lz 22:=fun h=>hns (HCL.out.dep2 h 20 Zq8)
      clear hi HCL
      simp only[zA,zB,zC,D8]
      have k0:=ybw V0 hgl hgp CQ.out
      refine yaa rfl rfl fun K hK=>?_
      go_wp2_with fail
      rw[HJ0.out]
      exact ⟨wd1,as1,A1,ca1,b2,b3,wd2,as2,A2,ca2,b5,b6,A6,c6,x20,x21,x22,x23,x24,x25,x26,x27,x28,.string q0,x30,x31,x32,x33,x34,x35,x36,x37,x38,x39,x40,x41,(by simp only[zA,zB,zC,D8]),zT HH⟩
     ·have hns:¬ Ls Lz 20:=fun h=>hnl (dq HCL (dq HCL (dq HCL h 19) 11) 10)
      have D9:=(pj9 HH.out) (rq hi 9)
      have V0:=(pj29 HH.out) hns
      have hk11:¬ Ls Lz 11:=fun h=>hnl (dq HCL h 10)
      have hnla:¬ Ls Lz 22:=fun h=>hns (HCL.out.dep2 h 20 Zq8)
      clear hi HCL
      simp only[zA,zB,zC,D9]
      refine yaa rfl rfl fun K hK=>?_
      go_wp2_with fail
      rw[HJ0.out]
      exact ⟨wd1,as1,A1,ca1,W.heap.size,b3,wd2,as2,A2,ca2,b5,b6,A6,c6,x20,x21,x22,x23,x24,x25,x26,x27,x28,x29,.slice (some ⟨W.heap.size,0,none⟩) 2 2,x31,x32,x33,x34,x35,x36,x37,x38,x39,x40,x41,(by simp only[zA,zB,zC,D9]),zk HH,zk HH,zk HH,zk HH,zk HH,zk HH,zk HH,zk HH,zk HH,zk HH,fun _=>rfl,Ba hk11,zk HH,zk HH,zk HH,zk HH,zk HH,zk HH,zk HH,zk HH,zk HH,zk HH,Ba hnla,(Bt (pj23 HH.out) fun x=>yam x (Fr.alloc (Fr.start V0.cur) _) Zq6),fun _ _=>ybg rfl rfl (show X+1≤W.heap.size by have:=V0.gr.size;omega) rfl,(Bt (pj25 HH.out) fun x=>yam x (Fr.alloc (Fr.start V0.cur) _) Zq6),(Bt (pj26 HH.out) fun x=>yam x (Fr.alloc (Fr.start V0.cur) _) Zq6),(Bt (pj27 HH.out) fun x=>TrQ.call x (Fr.gr (Fr.alloc (Fr.start V0.cur) _)) Zq6),(Bt (pj28 HH.out) fun x=>Lit3.fr x (Fr.alloc (Fr.start V0.cur) _) Zq6),fun h=>Fr.call ((pj29 HH.out) (fun h2=>h h2.fwd)) (Fr.cur (Fr.alloc (Fr.start V0.cur) _)) (Fr.gr (Fr.alloc (Fr.start V0.cur) _)),Bb hns⟩
     ·have D10:=(pj10 HH.out) (rq hi 10)
      clear hi HCL
      simp only[zA,zB,zC,D10]
      refine yaa rfl rfl fun K hK=>?_
      go_wp2_with fail
      rw[HJ0.out]
      exact ⟨wd1,as1,A1,ca1,b2,b3,wd2,as2,A2,ca2,b5,b6,A6,c6,x20,x21,x22,x23,x24,x25,x26,x27,x28,x29,x30,.agg #[.int .i64 6,.string ⟨#[]⟩,.slice (some ⟨b2,0,none⟩) 2 2,.int .i64 0,.slice none 0 0],x32,x33,x34,x35,x36,x37,x38,x39,x40,x41,(by simp only[zA,zB,zC,D10]),zT HH⟩
     ·have hns:¬ Ls Lz 20:=fun h=>hnl (dq HCL (dq HCL (dq HCL h 19) 18) 12)
      have V0:=(pj29 HH.out) hns
      have hk18:¬ Ls Lz 18:=fun h=>hnl (dq HCL h 12)
      have hnla:¬ Ls Lz 22:=fun h=>hns (HCL.out.dep2 h 20 Zq8)
      clear hi HCL
      simp only[zA,zB,zC]
      refine yaa rfl rfl fun K hK=>?_
      go_wp2_with fail
      rw[HJ0.out]
      exact ⟨wd1,as1,A1,ca1,b2,W.heap.size,wd2,as2,A2,ca2,b5,b6,A6,c6,x20,x21,x22,x23,x24,x25,x26,x27,x28,x29,x30,x31,.slice (some ⟨W.heap.size,0,none⟩) 1 1,x33,x34,x35,x36,x37,x38,x39,x40,x41,(by simp only[zA,zB,zC]),zk HH,zk HH,zk HH,zk HH,zk HH,zk HH,zk HH,zk HH,zk HH,zk HH,zk HH,zk HH,fun _=>rfl,zk HH,zk HH,zk HH,zk HH,zk HH,Ba hk18,zk HH,zk HH,zk HH,Ba hnla,(Bt (pj23 HH.out) fun x=>yam x (Fr.alloc (Fr.start V0.cur) _) Zq6),(Bt (pj24 HH.out) fun x=>yam x (Fr.alloc (Fr.start V0.cur) _) Zq6),fun _ _=>ybg rfl rfl (show X+1≤W.heap.size by have:=V0.gr.size;omega) rfl,(Bt (pj26 HH.out) fun x=>yam x (Fr.alloc (Fr.start V0.cur) _) Zq6),(Bt (pj27 HH.out) fun x=>TrQ.call x (Fr.gr (Fr.alloc (Fr.start V0.cur) _)) Zq6),(Bt (pj28 HH.out) fun x=>Lit3.fr x (Fr.alloc (Fr.start V0.cur) _) Zq6),fun h=>Fr.call ((pj29 HH.out) (fun h2=>h h2.fwd)) (Fr.cur (Fr.alloc (Fr.start V0.cur) _)) (Fr.gr (Fr.alloc (Fr.start V0.cur) _)),Bb hns⟩
     ·clear hi HCL
      simp only[zA,zB,zC]
      refine yaa rfl rfl fun K hK=>?_
      go_wp2_with fail
      rw[HJ0.out]
      exact ⟨wd1,as1,A1,ca1,b2,b3,wd2,as2,A2,ca2,b5,b6,A6,c6,x20,x21,x22,x23,x24,x25,x26,x27,x28,x29,x30,x31,x32,.pointer (some ⟨p,0,none⟩),x34,x35,x36,x37,x38,x39,x40,x41,(by simp only[zA,zB,zC]),zT HH⟩
     ·clear hi HCL
      simp only[zA,zB,zC]
      refine yaa rfl rfl fun K hK=>?_
      go_wp2_with fail
      rw[HJ0.out]
      exact ⟨wd1,as1,A1,ca1,b2,b3,wd2,as2,A2,ca2,b5,b6,A6,c6,x20,x21,x22,x23,x24,x25,x26,x27,x28,x29,x30,x31,x32,x33,.pointer (some ⟨X,0,none⟩),x35,x36,x37,x38,x39,x40,x41,(by simp only[zA,zB,zC]),zT HH⟩
     ·have hns:¬ Ls Lz 20:=fun h=>hnl (dq HCL (dq HCL (dq HCL (dq HCL (dq HCL h 19) 18) 17) 16) 15)
      have D14:=(pj14 HH.out) (rq hi 14)
      have V0:=(pj29 HH.out) hns
      have hnla:¬ Ls Lz 22:=fun h=>hns (HCL.out.dep2 h 20 Zq8)
      clear hi HCL
      simp only[zA,zB,zC,D14]
      have k0:=ybw V0 hXl hXp C0.out
      refine yaa rfl rfl fun K hK=>?_
      go_wp2_with fail
      rw[HJ0.out]
      exact ⟨wd1,as1,A1,ca1,b2,b3,wd2,as2,A2,ca2,b5,b6,A6,c6,x20,x21,x22,x23,x24,x25,x26,x27,x28,x29,x30,x31,x32,x33,x34,.slice (some ⟨gq,oq,none⟩) nq cq,x36,x37,x38,x39,x40,x41,(by simp only[zA,zB,zC,D14]),zT HH⟩
     ·have hns:¬ Ls Lz 20:=fun h=>hnl (dq HCL (dq HCL (dq HCL (dq HCL h 19) 18) 17) 16)
      have D13:=(pj13 HH.out) (rq hi 13)
      have D15:=(pj15 HH.out) (rq hi 15)
      have V0:=(pj29 HH.out) hns
      have hk17:¬ Ls Lz 17:=fun h=>hnl (dq HCL h 16)
      have hk18:¬ Ls Lz 18:=fun h=>hnl (dq HCL (dq HCL h 17) 16)
      have hnla:¬ Ls Lz 22:=fun h=>hns (HCL.out.dep2 h 20 Zq8)
      clear hi HCL
      simp only[zA,zB,zC,D13,D15]
      refine yaa rfl rfl fun K hK=>?_
      go_wp2_with fail
      refine(yew _ _ _ Q _ p V0.cur (NM.out.fr V0)).mono ?_
      rintro e y1 ⟨wd7,as7,A7,ca7,rfl,q7,hb7,hc,hg⟩
      go_wp2_with fail
      rw[HJ0.out]
      exact ⟨wd1,as1,A1,ca1,b2,b3,wd7,as7,A7,ca7,b5,b6,A6,c6,x20,x21,x22,x23,x24,x25,x26,x27,x28,x29,x30,x31,x32,x33,x34,x35,.agg #[.int .i64 1,.string wd7,.slice A7 as7.length ca7,.int .i64 0,.slice none 0 0],x37,x38,x39,x40,x41,(by simp only[zA,zB,zC,D13,D15]),zk HH,zk HH,zk HH,zk HH,zk HH,zk HH,zk HH,zk HH,zk HH,zk HH,zk HH,zk HH,zk HH,zk HH,zk HH,zk HH,fun _=>⟨rfl,hb7⟩,Ba hk17,Ba hk18,zk HH,zk HH,zk HH,Ba hnla,(Bt (pj23 HH.out) fun x=>yam x (Fr.mk hc hg) Zq6),(Bt (pj24 HH.out) fun x=>yam x (Fr.mk hc hg) Zq6),(Bt (pj25 HH.out) fun x=>yam x (Fr.mk hc hg) Zq6),fun _ _=>q7.mono (fun b _ hb=>Nat.le_trans (show X+1≤W.heap.size by have:=V0.gr.size;omega) hb),Bb hk17,(Bt (pj28 HH.out) fun x=>Lit3.fr x (Fr.mk hc hg) Zq6),fun h=>Fr.call ((pj29 HH.out) (fun h2=>h h2.fwd)) (Fr.cur (Fr.mk hc hg)) (Fr.gr (Fr.mk hc hg)),Bb hns⟩
     ·have hns:¬ Ls Lz 20:=fun h=>hnl (dq HCL (dq HCL (dq HCL h 19) 18) 17)
      have D16:=(pj16 HH.out) (rq hi 16)
      have E16:=(pj26 HH.out) (rq hi 16) hns
      have V0:=(pj29 HH.out) hns
      have hk18:¬ Ls Lz 18:=fun h=>hnl (dq HCL h 17)
      have hnla:¬ Ls Lz 22:=fun h=>hns (HCL.out.dep2 h 20 Zq8)
      clear hi HCL
      obtain ⟨D16,X16⟩:=D16
      simp only[zA,zB,zC,D16]
      refine yaa rfl rfl fun K hK=>?_
      go_wp2_with fail
      rw[HJ0.out]
      exact ⟨wd1,as1,A1,ca1,b2,b3,wd2,as2,A2,ca2,W.heap.size,b6,A6,c6,x20,x21,x22,x23,x24,x25,x26,x27,x28,x29,x30,x31,x32,x33,x34,x35,x36,.slice (some ⟨W.heap.size,0,none⟩) 1 1,x38,x39,x40,x41,(by simp only[zA,zB,zC,D16]),zk HH,zk HH,zk HH,zk HH,zk HH,zk HH,zk HH,zk HH,zk HH,zk HH,zk HH,zk HH,zk HH,zk HH,zk HH,zk HH,zk HH,fun _=>⟨rfl,ytl X16.2.1 X16.2.2.1 X16.2.2.2⟩,Ba hk18,zk HH,zk HH,zk HH,Ba hnla,(Bt (pj23 HH.out) fun x=>yam x (Fr.alloc (Fr.start V0.cur) _) Zq6),(Bt (pj24 HH.out) fun x=>yam x (Fr.alloc (Fr.start V0.cur) _) Zq6),(Bt (pj25 HH.out) fun x=>yam x (Fr.alloc (Fr.start V0.cur) _) Zq6),(Bt (pj26 HH.out) fun x=>yam x (Fr.alloc (Fr.start V0.cur) _) Zq6),fun _ _=>(ElQ.one (yb3 (d:=1) (h:=⟨1,wd2,as2,0⟩) (Aa:=A2) (ca:=ca2) (Ab:=none) (cb:=0) (yam E16 (Fr.alloc (Fr.start V0.cur) _) Zq6) (yc5 1) X16.1)).tr (ybg rfl rfl (show X+1≤W.heap.size by have:=V0.gr.size;omega) rfl) rfl,(Bt (pj28 HH.out) fun x=>Lit3.fr x (Fr.alloc (Fr.start V0.cur) _) Zq6),fun h=>Fr.call ((pj29 HH.out) (fun h2=>h h2.fwd)) (Fr.cur (Fr.alloc (Fr.start V0.cur) _)) (Fr.gr (Fr.alloc (Fr.start V0.cur) _)),Bb hns⟩
     ·have D12:=(pj12 HH.out) (rq hi 12)
      have D17:=(pj17 HH.out) (rq hi 17)
      clear hi HCL
      obtain ⟨D17,X17⟩:=D17
      simp only[zA,zB,zC,D12,D17]
      refine yaa rfl rfl fun K hK=>?_
      go_wp2_with fail
      rw[HJ0.out]
      exact ⟨wd1,as1,A1,ca1,b2,b3,wd2,as2,A2,ca2,b5,b6,A6,c6,x20,x21,x22,x23,x24,x25,x26,x27,x28,x29,x30,x31,x32,x33,x34,x35,x36,x37,.agg #[.int .i64 7,.string ⟨#[]⟩,.slice (some ⟨b3,0,none⟩) 1 1,.int .i64 0,.slice (some ⟨b5,0,none⟩) 1 1],x39,x40,x41,(by simp only[zA,zB,zC,D12,D17]),zk HH,zk HH,zk HH,zk HH,zk HH,zk HH,zk HH,zk HH,zk HH,zk HH,zk HH,zk HH,zk HH,zk HH,zk HH,zk HH,zk HH,zk HH,fun _=>⟨rfl,X17⟩,zk HH,zk HH,zk HH,zk HH,zw HH,zw HH,zw HH,zw HH,zw HH,zw HH,zi HH,zw HH⟩
     ·have hns:¬ Ls Lz 20:=fun h=>hnl (dq HCL h 19)
      have D5:=(pj5 HH.out) (rq hi 5)
      have E5:=(pj23 HH.out) (rq hi 5) hns
      have D11:=(pj11 HH.out) (rq hi 11)
      have D18:=(pj18 HH.out) (rq hi 18)
      have E10:=(pj24 HH.out) (dq HCL (rq hi 11) 10) hns
      have E12:=(pj25 HH.out) (dq HCL (rq hi 18) 12) hns
      have E17:=(pj27 HH.out) (dq HCL (rq hi 18) 17) hns
      have V0:=(pj29 HH.out) hns
      have hnla:¬ Ls Lz 22:=fun h=>hns (HCL.out.dep2 h 20 Zq8)
      clear hi HCL
      obtain ⟨D5,X5⟩:=D5
      obtain ⟨D18,X18⟩:=D18
      simp only[zA,zB,zC,D5,D11,D18]
      refine yaa rfl rfl fun K hK=>?_
      go_wp2_with fail
      rw[HJ0.out]
      exact ⟨wd1,as1,A1,ca1,b2,b3,wd2,as2,A2,ca2,b5,W.heap.size,A6,c6,x20,x21,x22,x23,x24,x25,x26,x27,x28,x29,x30,x31,x32,x33,x34,x35,x36,x37,x38,.slice (some ⟨W.heap.size,0,none⟩) 3 3,x40,x41,(by simp only[zA,zB,zC,D5,D11,D18]),zk HH,zk HH,zk HH,zk HH,zk HH,zk HH,zk HH,zk HH,zk HH,zk HH,zk HH,zk HH,zk HH,zk HH,zk HH,zk HH,zk HH,zk HH,zk HH,fun _=>rfl,zk HH,zk HH,Ba hnla,(Bt (pj23 HH.out) fun x=>yam x (Fr.alloc (Fr.start V0.cur) _) Zq6),(Bt (pj24 HH.out) fun x=>yam x (Fr.alloc (Fr.start V0.cur) _) Zq6),(Bt (pj25 HH.out) fun x=>yam x (Fr.alloc (Fr.start V0.cur) _) Zq6),(Bt (pj26 HH.out) fun x=>yam x (Fr.alloc (Fr.start V0.cur) _) Zq6),(Bt (pj27 HH.out) fun x=>TrQ.call x (Fr.gr (Fr.alloc (Fr.start V0.cur) _)) Zq6),fun _ _=>⟨_,_,ybg rfl rfl (show X+1≤W.heap.size by have:=V0.gr.size;omega) rfl,((ElQ.one (yb3 (d:=2) (h:=⟨1,wd1,as1,0⟩) (Aa:=A1) (ca:=ca1) (Ab:=none) (cb:=0) (yam E5 (Fr.alloc (Fr.start V0.cur) _) Zq6) (yc5 2) X5.1)).append (ElQ.one (yb3 (d:=2) (h:=⟨6,⟨#[]⟩,[q0,⟨#[114]⟩],0⟩) (Aa:=some ⟨b2,0,none⟩) (ca:=2) (Ab:=none) (cb:=0) (yam E10 (Fr.alloc (Fr.start V0.cur) _) Zq6) (yc5 2) (Nat.le_refl _)))).append (ElQ.one (yb3 (d:=2) (h:=⟨7,⟨#[]⟩,[⟨#[114]⟩],0⟩) (Aa:=some ⟨b3,0,none⟩) (ca:=1) (Ab:=some ⟨b5,0,none⟩) (cb:=1) (yam E12 (Fr.alloc (Fr.start V0.cur) _) Zq6) (TrQ.call E17 (Fr.gr (Fr.alloc (Fr.start V0.cur) _)) Zq6) (Nat.le_refl _))),rfl,ysy X5.2.1 X5.2.2.1 X5.2.2.2 hq09 X18⟩,fun h=>Fr.call ((pj29 HH.out) (fun h2=>h h2.fwd)) (Fr.cur (Fr.alloc (Fr.start V0.cur) _)) (Fr.gr (Fr.alloc (Fr.start V0.cur) _)),Bb hns⟩
     ·have hns:¬ Ls Lz 20:=hnl
      have D1:=(pj1 HH.out) (rq hi 1)
      have D19:=(pj19 HH.out) (rq hi 19)
      have E19:=(pj28 HH.out) (rq hi 19) hns
      have V0:=(pj29 HH.out) hns
      have hnla:¬ Ls Lz 22:=fun h=>hns (HCL.out.dep2 h 20 Zq8)
      clear hi HCL
      simp only[zA,zB,zC,D1,D19]
      obtain ⟨cs,m,hlr,hel,hml,hmz⟩:=E19
      have hX5:=hD (yej V0 hXp PC.out.x)
      refine yaa rfl rfl fun K hK=>?_
      simp only[List.getElem_toArray,List.getElem_cons_succ,List.getElem_cons_zero]
      refine yae _ rfl _ _ 25 rfl (X+1) 66 i0 _ 5 80 Tryz.underlying25 hi hz0 hz1 hz2 rfl Zq9 (.slice none 0 0) 0 [] rfl ⟨rfl,.inl ⟨rfl,rfl⟩⟩ _ 3 3 _ rfl hlr.rd hel.ones ?c3 ?c4 ?c5 ?_
      case c3=>simp only[maxLen];omega
      case c4=>omega
      case c5=>have:=V0.gr.size;omega
      intro v6 W6 own6 gr6 hat
      obtain ⟨A7,c7,rfl,_,_,_⟩:=yah own6
      go_wp2_with fail
      rw[HJ0.out]
      exact ⟨wd1,as1,A1,ca1,b2,b3,wd2,as2,A2,ca2,b5,b6,A7,c7,x20,x21,x22,x23,x24,x25,x26,x27,x28,x29,x30,x31,x32,x33,x34,x35,x36,x37,x38,x39,.slice A7 3 c7,x41,(by first|(simp only[zA,zB,zC,D1,D19] <;> fail)|simp only[Act.put,zA,zB,zC,D1,D19]),zk HH,zk HH,zk HH,zk HH,zk HH,zk HH,zk HH,zk HH,zk HH,zk HH,zk HH,zk HH,zk HH,zk HH,zk HH,zk HH,zk HH,zk HH,zk HH,zk HH,fun _=>rfl,zk HH,Ba hnla,zx hnow,zx hnow,zx hnow,zx hnow,zx hnow,zx hnow,zy hnow,fun _ _=>⟨W,m,V0,gr6,OwnT.push (xs:=[]) (l:=[]) ElQ.nil (hel.mono (fun b _ hb=>⟨hb,fun e=>by cases e⟩)) (by rw[hml];exact own6) (Below.refl _ _) gr6 hat,(gr6.block X (lt_of_block hX5.out) (by simp [Value.ownBlock])).trans hX5.out,by omega,hmz⟩⟩
     ·clear hi HCL
      simp only[zA,zB,zC]
      refine yaa rfl rfl fun K hK=>?_
      go_wp2_with fail
      rw[HJ0.out]
      exact ⟨wd1,as1,A1,ca1,b2,b3,wd2,as2,A2,ca2,b5,b6,A6,c6,x20,x21,x22,x23,x24,x25,x26,x27,x28,x29,x30,x31,x32,x33,x34,x35,x36,x37,x38,x39,x40,.pointer (some ⟨X,1,none⟩),(by simp only[zA,zB,zC]),zT HH⟩
     ·have D20:=(pj20 HH.out) (rq hi 20)
      have D21:=(pj21 HH.out) (rq hi 21)
      have HST:=rq hi 20
      have VL:=(pe30 HH.out) HST hnl
      clear hi HCL
      simp only[zA,zB,zC,D20,D21]
      obtain ⟨W5,m,l1,l2,l3,l4,l5,l6⟩:=VL
      have px6:=yaj (j:=1) l4 rfl
      have fx6:=yab (j:=1) l4
      have lx6:=lt_of_block l4
      have PEH:=hD (PC.out.put hp l1 l2 l3 l4)
      have ML:=hD (And.intro l5 l6)
      clear l1 l2 l3 l4 l5 l6
      refine yaa rfl rfl fun K hK=>?_
      go_wp2_with fail
      rw[HJ0.out]
      exact ⟨wd1,as1,A1,ca1,b2,b3,wd2,as2,A2,ca2,b5,b6,A6,c6,x20,x21,x22,x23,x24,x25,x26,x27,x28,x29,x30,x31,x32,x33,x34,x35,x36,x37,x38,x39,x40,x41,(by simp only[zA,zB,zC,D20,D21]),zk HH,zk HH,zk HH,zk HH,zk HH,zk HH,zk HH,zk HH,zk HH,zk HH,zk HH,zk HH,zk HH,zk HH,zk HH,zk HH,zk HH,zk HH,zk HH,zk HH,zk HH,zk HH,fun _=>⟨_,m,ML.out.1,ML.out.2,PEH.out⟩,zx (Ls.fwd HST),zx (Ls.fwd HST),zx (Ls.fwd HST),zx (Ls.fwd HST),zx (Ls.fwd HST),zx (Ls.fwd HST),zy (Ls.fwd HST),zx hnow⟩
    ·intro Lz a W hsize hJ hr
     rw[HJ0.out] at hJ
     have hall:=ybj hsize Zq8 hr
     obtain ⟨wd1,as1,A1,ca1,b2,b3,wd2,as2,A2,ca2,b5,b6,A6,c6,x20,x21,x22,x23,x24,x25,x26,x27,x28,x29,x30,x31,x32,x33,x34,x35,x36,x37,x38,x39,x40,x41,rfl,HF⟩:=hJ
     have HH:=hD HF
     have HEND:=(pj22 HH.out) (hall 22 Zq9)
     clear HF HH hall hr hsize
     simp only[zA,zB,zC]
     go_wp2_with fail
     go_meet
     exact HEND
  case rest =>
   obtain ⟨vb,l,hl3,hsm,hps⟩:=hcut
   obtain ⟨Ab,cb,rfl,_,_⟩:=hps.b.slice
   obtain ⟨wz,rfl⟩:∃ wz:World,wz=wc:=⟨_,rfl⟩
   go_upto_region 5 with (fail)
   obtain ⟨nb,hnb⟩:∃ nb,nb=l.length:=⟨_,rfl⟩
   rw[←hnb] at hps
   have hnb3:nb≤3:=by omega
   have HNB:=hD hnb
   have HSM:=hD hsm
   have PC:=hD hps
   clear hps hsm hnb P9
   have NM:=hD (PC.out.names hp ⟨HQ3.out.1,by have:=HQ3.out.2.1;omega,HQ3.out.2.2⟩)
   obtain ⟨c0,c1⟩:=ycs (lay:=Below.refl _ _) PC.out.x
   have hXl:=lt_of_block PC.out.x
   have hXp:X≠p:=by omega
   have frD:Fr w p wz:=PC.out.fr
   have frS:Fr wz p wz:=Fr.start PC.out.fr.cur
   have hpc:p<wz.heap.size:=PC.out.fr.cur.lt
   have C0:=hD c0
   have C1:=hD c1
   have HLT:=hD PC.out.b.lt
   have HGE:=hD PC.out.b.ge
   clear c0 c1
   obtain ⟨J0,hJ0⟩:∃ J:Array Value→Array Bool→Act→World→Prop,J=(fun A0 Lz a W=>∃ (A3:Option Addr) (n3:Nat) (c3:Nat) (A6:Option Addr) (n6:Nat) (c6:Nat),∃ x42 x43 x44 x45 x46 x47 x48 x49 x50:Value,a=⟨(((((((((A0.setIfInBounds 42 x42).setIfInBounds 43 x43).setIfInBounds 44 x44).setIfInBounds 45 x45).setIfInBounds 46 x46).setIfInBounds 47 x47).setIfInBounds 48 x48).setIfInBounds 49 x49).setIfInBounds 50 x50),[]⟩∧(Ls Lz 0→x42=.pointer (some ⟨X,1,none⟩))∧(Ls Lz 1→x43=.slice Ab nb cb)∧(Ls Lz 2→x44=.pointer (some ⟨p,0,none⟩))∧(Ls Lz 3→x45=.pointer (some ⟨X,0,none⟩))∧(Ls Lz 4→x46=.slice Aq nq cq)∧(Ls Lz 5→x47=.bool wild)∧(Ls Lz 6→x48=.slice A3 n3 c3∧n3≤3)∧(Ls Lz 7→x49=.slice A6 n6 c6)∧(Ls Lz 8→x50=.pointer (some ⟨X,1,none⟩))∧(Ls Lz 9→(∃ (vb:Value) (l:List (Tr 3)),l.length≤6∧(∀ s∈l,szE s≤bE 2)∧PS w p X Aq nq cq Q 2 vb l W))∧(Ls Lz 6→¬ Ls Lz 7→LitB wz.heap.size W A3 n3)∧(¬ Ls Lz 7→Fr wz p W)∧(Ls Lz 7→¬ Ls Lz 9→(∃ (W5:World) (m:List (Tr 3)),Fr wz p W5∧W5.grownBy W (Value.slice Ab nb cb).ownBlock∧OwnT W (X+1) 2 (.slice A6 n6 c6) m∧W.heap[X]?=some (.cells #[.slice Aq nq cq,.slice Ab nb cb] 27 (0,0))∧m.length≤6∧∀ s∈m,szE s≤bE 2))):=⟨_,rfl⟩
   have HJ0:=hD hJ0
   clear hJ0
   refine ya3 Zq8 J0 ?_ ?_ ?_
   ·intro A0
    rw[HJ0.out]
    exact ⟨none,0,0,none,0,0,A0.getD 42 undef,A0.getD 43 undef,A0.getD 44 undef,A0.getD 45 undef,A0.getD 46 undef,A0.getD 47 undef,A0.getD 48 undef,A0.getD 49 undef,A0.getD 50 undef,by simp only[ybm],zn,zn,zn,zn,zn,zn,zn,zn,zn,zn,zn,fun _=>frS.drew,zn⟩
   ·intro Lz a W hsize hcl hJ i hi
    have hil:=ybn hi
    have hnl:=ybi hi
    have hnow:=ybh hi hsize
    have HCL:=hD hcl
    rw[HJ0.out] at hJ
    obtain ⟨A3,n3,c3,A6,n6,c6,x42,x43,x44,x45,x46,x47,x48,x49,x50,rfl,HF⟩:=hJ
    have HH:=hD HF
    have hi2:i=0∨i=1∨i=2∨i=3∨i=4∨i=5∨i=6∨i=7∨i=8∨i=9:=by simp at hil;omega
    clear hil hcl HF
    rcases hi2 with rfl|rfl|rfl|rfl|rfl|rfl|rfl|rfl|rfl|rfl
    ·clear hi HCL
     simp only[zA,zB,zC]
     refine yaa rfl rfl fun K hK=>?_
     go_wp2_with fail
     rw[HJ0.out]
     exact ⟨A3,n3,c3,A6,n6,c6,.pointer (some ⟨X,1,none⟩),x43,x44,x45,x46,x47,x48,x49,x50,(by simp only[zA,zB,zC]),zT HH⟩
    ·have hns:¬ Ls Lz 7:=fun h=>hnl (dq HCL h 1)
     have D0:=(pj0 HH.out) (rq hi 0)
     have V0:=(pj11 HH.out) hns
     have hnla:¬ Ls Lz 9:=fun h=>hns (HCL.out.dep2 h 7 Zq8)
     clear hi HCL
     simp only[zA,zB,zC,D0]
     have k0:=ybw V0 hXl hXp C1.out
     refine yaa rfl rfl fun K hK=>?_
     go_wp2_with fail
     rw[HJ0.out]
     exact ⟨A3,n3,c3,A6,n6,c6,x42,.slice Ab nb cb,x44,x45,x46,x47,x48,x49,x50,(by simp only[zA,zB,zC,D0]),zT HH⟩
    ·clear hi HCL
     simp only[zA,zB,zC]
     refine yaa rfl rfl fun K hK=>?_
     go_wp2_with fail
     rw[HJ0.out]
     exact ⟨A3,n3,c3,A6,n6,c6,x42,x43,.pointer (some ⟨p,0,none⟩),x45,x46,x47,x48,x49,x50,(by simp only[zA,zB,zC]),zT HH⟩
    ·clear hi HCL
     simp only[zA,zB,zC]
     refine yaa rfl rfl fun K hK=>?_
     go_wp2_with fail
     rw[HJ0.out]
     exact ⟨A3,n3,c3,A6,n6,c6,x42,x43,x44,.pointer (some ⟨X,0,none⟩),x46,x47,x48,x49,x50,(by simp only[zA,zB,zC]),zT HH⟩
    ·have hns:¬ Ls Lz 7:=fun h=>hnl (dq HCL (dq HCL h 6) 4)
     have D3:=(pj3 HH.out) (rq hi 3)
     have V0:=(pj11 HH.out) hns
     have hnla:¬ Ls Lz 9:=fun h=>hns (HCL.out.dep2 h 7 Zq8)
     clear hi HCL
     simp only[zA,zB,zC,D3]
     have k0:=ybw V0 hXl hXp C0.out
     refine yaa rfl rfl fun K hK=>?_
     go_wp2_with fail
     rw[HJ0.out]
     exact ⟨A3,n3,c3,A6,n6,c6,x42,x43,x44,x45,.slice Aq nq cq,x47,x48,x49,x50,(by simp only[zA,zB,zC,D3]),zT HH⟩
    ·clear hi HCL
     simp only[zA,zB,zC]
     refine yaa rfl rfl fun K hK=>?_
     go_wp2_with fail
     rw[HJ0.out]
     exact ⟨A3,n3,c3,A6,n6,c6,x42,x43,x44,x45,x46,.bool wild,x48,x49,x50,(by simp only[zA,zB,zC]),zT HH⟩
    ·have hns:¬ Ls Lz 7:=fun h=>hnl (dq HCL h 6)
     have D2:=(pj2 HH.out) (rq hi 2)
     have D4:=(pj4 HH.out) (rq hi 4)
     have D5:=(pj5 HH.out) (rq hi 5)
     have V0:=(pj11 HH.out) hns
     have hnla:¬ Ls Lz 9:=fun h=>hns (HCL.out.dep2 h 7 Zq8)
     clear hi HCL
     simp only[zA,zB,zC,D2,D4,D5]
     refine yaa rfl rfl fun K hK=>?_
     go_wp2_with fail
     refine(hbody _ _ _ Q wild _ p V0.cur (NM.out.fr V0)).mono ?_
     rintro e y1 ⟨v7,m7,rfl,ho7,hf7,hc,hg⟩
     obtain ⟨A7,c7,rfl,_,_⟩:=ho7.slice
     go_wp2_with fail
     rw[HJ0.out]
     exact ⟨A7,m7.length,c7,A6,n6,c6,x42,x43,x44,x45,x46,x47,.slice A7 m7.length c7,x49,x50,(by simp only[zA,zB,zC,D2,D4,D5]),zk HH,zk HH,zk HH,zk HH,zk HH,zk HH,fun _=>⟨rfl,hf7.1⟩,zk HH,zk HH,Ba hnla,fun _ _=>ho7.litB hf7 V0.gr.size,fun h=>Fr.call ((pj11 HH.out) (fun h2=>h h2.fwd)) (Fr.cur (Fr.mk hc hg)) (Fr.gr (Fr.mk hc hg)),Bb hns⟩
    ·have hns:¬ Ls Lz 7:=hnl
     have D1:=(pj1 HH.out) (rq hi 1)
     have D6:=(pj6 HH.out) (rq hi 6)
     have E6:=(pj10 HH.out) (rq hi 6) hns
     have V0:=(pj11 HH.out) hns
     have hnla:¬ Ls Lz 9:=fun h=>hns (HCL.out.dep2 h 7 Zq8)
     clear hi HCL
     obtain ⟨D6,X6⟩:=D6
     simp only[zA,zB,zC,D1,D6]
     obtain ⟨cs,m,hlr,hel,hml,hmf⟩:=E6
     have HX5:=hD (yej V0 hXp PC.out.x)
     obtain ⟨xs,hox,hxe⟩:=yko PC.out.b V0 Zq6
     rw[←HNB.out] at hox
     have HXO:=hD hox
     have HXE:=hD hxe
     have HML:=hD hml
     have HMF:=hD hmf
     have hn3:=X6
     clear hox hxe hml hmf
     refine yaa rfl rfl fun K hK=>?_
     simp only[List.getElem_toArray,List.getElem_cons_succ,List.getElem_cons_zero]
     refine yae _ rfl _ _ 25 rfl (X+1) 66 i0 _ 5 80 Tryz.underlying25 hi hz0 hz1 hz2 rfl Zq9 (.slice Ab nb cb) nb xs rfl HXO.out _ n3 c3 _ rfl hlr.rd hel.ones ?c3 ?c4 ?c5 ?_
     case c3=>simp only[maxLen];omega
     case c4=>omega
     case c5=>have:=V0.gr.size;omega
     intro v6 W6 own6 gr6 hat
     obtain ⟨A7,c7,rfl,_,_,_⟩:=yah own6
     go_wp2_with fail
     rw[HJ0.out]
     exact ⟨A3,n3,c3,A7,(nb+n3),c7,x42,x43,x44,x45,x46,x47,x48,.slice A7 (nb+n3) c7,x50,(by first|(simp only[zA,zB,zC,D1,D6] <;> fail)|simp only[Act.put,zA,zB,zC,D1,D6]),zk HH,zk HH,zk HH,zk HH,zk HH,zk HH,zk HH,fun _=>rfl,zk HH,Ba hnla,zx hnow,zy hnow,fun _ _=>⟨W,l++m,V0,gr6,OwnT.push (xs:=xs) (l:=l) HXE.out (hel.mono (fun b _ hb=>⟨by omega,fun e=>by have:=HLT.out b e.symm;omega⟩)) (by rw[←HNB.out,HML.out];exact own6) (Below.refl _ _) gr6 hat,(gr6.block X (lt_of_block HX5.out) (fun e=>by have:=HGE.out X e.symm;omega)).trans HX5.out,ytm hl3 HSM.out HMF.out⟩⟩
    ·clear hi HCL
     simp only[zA,zB,zC]
     refine yaa rfl rfl fun K hK=>?_
     go_wp2_with fail
     rw[HJ0.out]
     exact ⟨A3,n3,c3,A6,n6,c6,x42,x43,x44,x45,x46,x47,x48,x49,.pointer (some ⟨X,1,none⟩),(by simp only[zA,zB,zC]),zT HH⟩
    ·have D7:=(pj7 HH.out) (rq hi 7)
     have D8:=(pj8 HH.out) (rq hi 8)
     have HST:=rq hi 7
     have VL:=(pe12 HH.out) HST hnl
     clear hi HCL
     simp only[zA,zB,zC,D7,D8]
     obtain ⟨W5,m,l1,l2,l3,l4,l5,l6⟩:=VL
     have px6:=yaj (j:=1) l4 rfl
     have fx6:=yab (j:=1) l4
     have lx6:=lt_of_block l4
     have PEH:=hD (PC.out.put hp l1 l2 l3 l4)
     have ML:=hD (And.intro l5 l6)
     clear l1 l2 l3 l4 l5 l6
     refine yaa rfl rfl fun K hK=>?_
     go_wp2_with fail
     rw[HJ0.out]
     exact ⟨A3,n3,c3,A6,n6,c6,x42,x43,x44,x45,x46,x47,x48,x49,x50,(by simp only[zA,zB,zC,D7,D8]),zk HH,zk HH,zk HH,zk HH,zk HH,zk HH,zk HH,zk HH,zk HH,fun _=>⟨_,m,ML.out.1,ML.out.2,PEH.out⟩,zx (Ls.fwd HST),zy (Ls.fwd HST),zx hnow⟩
   ·intro Lz a W hsize hJ hr
    rw[HJ0.out] at hJ
    have hall:=ybj hsize Zq8 hr
    obtain ⟨A3,n3,c3,A6,n6,c6,x42,x43,x44,x45,x46,x47,x48,x49,x50,rfl,HF⟩:=hJ
    have HH:=hD HF
    have HEND:=(pj9 HH.out) (hall 9 Zq9)
    clear HF HH hall hr hsize
    simp only[zA,zB,zC]
    obtain ⟨vb6,l6,hl6,hs6,hps6⟩:=HEND
    obtain ⟨A6,c6,rfl,_,_⟩:=hps6.b.slice
    obtain ⟨nb6,hnb6⟩:∃ nb6,nb6=l6.length:=⟨_,rfl⟩
    rw[←hnb6] at hps6
    clear hnb6
    have HNE:=hD (yeq hps6.q hps6.r0 Zq9)
    obtain ⟨k0,k1⟩:=ycs (lay:=Below.refl _ _) hps6.x
    obtain ⟨r0,r1⟩:=ycs (lay:=Below.refl _ _) hps6.r0
    have g0:=yab (j:=0) hps6.r0
    have g1:=yab (j:=1) hps6.r0
    have hfr6:=hps6.fr
    have hlo6:=hps6.lo
    have hsz6:=lt_of_block hps6.x
    have H6:=hD (And.intro hps6 (And.intro hl6 hs6))
    clear hps6 hl6 hs6
    go_wp2_with fail
    exact bodyPost_ret (v:=.agg #[.slice Aq nq cq,.slice A6 nb6 c6]) (by simp [results,Tryz.results80,go_sem,r0,r1]) rfl ⟨Aq,nq,cq,X+1,Q,_,l6,rfl,(by repeat (first|exact H6.out.1.q|(refine yc8 ?_ HNE.out _))),H6.out.1.ql,(fun k hk=>Nat.lt_succ_of_lt (H6.out.1.qx k hk)),⟨by omega,by simp [World.setCell];omega⟩,(by repeat (first|exact H6.out.1.b|(refine OwnT.set0 ?_ (Nat.lt_succ_of_lt hlo6) _))),HQ3.out,H6.out.2,(Fr.cur (w:=w) (by first|((repeat (first|assumption|(with_reducible refine Fr.alloc ?_ _)|(with_reducible refine Fr.drew ?_)|(with_reducible refine Fr.set ?_ Zq6 Zq5 _))) <;> fail)|fail)),(Fr.gr (by first|((repeat (first|assumption|(with_reducible refine Fr.alloc ?_ _)|(with_reducible refine Fr.drew ?_)|(with_reducible refine Fr.set ?_ Zq6 Zq5 _))) <;> fail)|fail))⟩
def yua (d n:Nat) (l:List (Tr d)) (w:World) (e:Ending) (w':World):Prop:=∃ A c,e=.returned (.slice A n c)∧TrQ w' (w.heap.size≤·) d A n l∧Below w.heap.size w w'∧w.heap.size≤w'.heap.size
theorem TrQ.set_ {w:World} {P:Nat→Prop} {d n:Nat} {A:Option Addr} {l:List (Tr d)} (h:TrQ w P d A n l) {p:Addr} (hp:¬ P p.block) (u:Value):TrQ (w.setCell p u) P d A n l :=
 h.keep (fun b hb _=>Below.heap_setCell w p u b (fun e=>hp (e▸hb))) (by simp [World.setCell])
def ytn (d:Nat):Prop:=∀ (lo:Nat) (A:Option Addr) (n c:Nat) (l:List (Tr d)) (w:World),RdT w lo d A n l→szT d l≤1048576→Calls Tryz.prog 93 #[.slice A n c] w (yua d n l w)
theorem yl5:∀ d:Nat,ytn d:=by
 obtain ⟨i0,hi,hz0,hz1,hz2'⟩:=info_parts yex
 obtain ⟨j0,hj,hy0,hy1,hy2⟩:=info_parts ydh
 intro d
 induction d with
 | zero =>
  intro lo A n c l w h _
  obtain rfl:=ycl h
  have hl:=hD h.len
  go_enter Tryz.func93,Tryz.ntmps93
  go_wp2
  refine wp_loop_rounds 1 ?_
  rw[rounds_succ]
  go_wp2
  go_ret
  exact ⟨_,0,rfl,⟨hl.out,rfl⟩,Zq0,Zq5⟩
 | succ d ih =>
  intro lo A n c l w h hsz
  have hln:=h.len
  have hn:n≤1048576:=by rw[ybb] at hsz;omega
  have HQ:=hD hsz
  have HL:=hD hln
  have H:=hD h
  clear h hln hsz
  go_enter Tryz.func93,Tryz.ntmps93
  go_wp2_with fail
  obtain ⟨w0,hw0⟩:∃ w0,w0=w.alloc (.cells #[] 66):=⟨_,rfl⟩
  rw[←hw0]
  have own0:=hD (show OwnT w0 w.heap.size d (.slice (some ⟨w.heap.size,0,none⟩) 0 0) [] by rw[hw0];exact yhi w _)
  have B0:=hD (show Below w.heap.size w w0 by rw[hw0];exact Zq0)
  clear hw0
  go_loopw [3,4] (fun v i wr=>∃ t:Nat,i=.int .i64 t∧t≤n∧Hid (OwnT wr w.heap.size d v (l.take t))∧Hid (Below w.heap.size w wr)) (fun _ i _=>n - (intOf i).toNat)
  case atStart=>exact ⟨0,rfl,Nat.zero_le _,own0.out,B0.out⟩
  case round =>
   obtain ⟨t,rfl,ht,hown,hb⟩:=hrel
   obtain ⟨wE,rfl⟩:∃ wE:World,wE=wr:=⟨_,rfl⟩
   have hbs:=hb.out.size
   obtain ⟨Ao,co,hv,_,_⟩:=hown.out.slice
   have hlt2:(l.take t).length=t:=by rw[List.length_take,HL.out];omega
   rw[hlt2] at hv
   subst hv
   have HLT:=hD hlt2
   clear hlt2
   by_cases hlt:t<n
   ·obtain ⟨b,off,s,Aa,ca,Ab,nb,cb,rfl,hbl,hs,hcs,hra,hrb⟩:=(H.out.below hb.out).at_ hlt
    obtain ⟨q0,q1,q2,q3,q4⟩:=hcs
    have hme:=ydw hs
    have hz2:szT d (bdT s)≤1048576:=by have:=HQ.out;rw[ybb] at this;unfold szE at hme;omega
    have hz3:(hdT s).args.length≤1048576:=by have:=HQ.out;rw[ybb] at this;unfold szE at hme;omega
    have HTK:=hD (show l.take (t+1)=l.take t++[s] by rw[List.take_add_one,hs];rfl)
    obtain ⟨m,hm⟩:∃ m,m=(hdT s).args.length:=⟨_,rfl⟩
    have HM:=hD hm
    rw[←hm] at q2 hra hz3
    have HRA:=hD hra.rd
    have HRB:=hD hrb
    clear hs hme hm hra hrb
    go_upto_region 6 with (fail)
    obtain ⟨X,hX⟩:∃ X,X=wE.heap.size:=⟨_,rfl⟩
    obtain ⟨w1,hw1⟩:∃ w1,w1=wE.alloc (.cells #[.int .i64 (hdT s).k,.string (hdT s).word,.slice Aa m ca,.int .i64 (hdT s).count,.slice Ab nb cb] 66):=⟨_,rfl⟩
    rw[←hw1,←hX]
    have x1:w1.heap[X]?=some (.cells #[.int .i64 (hdT s).k,.string (hdT s).word,.slice Aa m ca,.int .i64 (hdT s).count,.slice Ab nb cb] 66 (0,0)):=by rw[hw1,hX];exact yac _ _
    have b1:Below X wE w1:=by rw[hw1,hX];exact Zq0
    have z1:w1.heap.size=X+1:=by rw[hw1,hX];simp
    have own2:(w1.alloc (.cells #[] 9)).ownsRow w1.heap.size 9 1 (.slice (some ⟨w1.heap.size,0,none⟩) 0 0) 0 []:=yb2 w1 _ _
    have b2:Below w1.heap.size w1 (w1.alloc (.cells #[] 9)):=Zq0
    have b1':Below wE.heap.size wE w1:=by rw[←hX];exact b1
    have ra2:Rd (w1.alloc (.cells #[] 9)) 1 Aa m (strs (hdT s).args):=(HRA.out.below b1').below b2
    have x2:=(b2.block X Zq6).trans x1
    obtain ⟨p0,p1,p2,p3,p4⟩:=yb9 (lay:=Below.refl _ _) x1
    obtain ⟨r0,r1,r2,r3,r4⟩:=yb9 (lay:=Below.refl _ _) x2
    have lx1:=lt_of_block x1
    have B1:=hD b1
    have X2:=hD x2
    have HX:=hD hX
    have OW2:=hD own2
    have Z1:=hD z1
    clear x1 x2 b1 b1' b2 hw1 hX q0 q1 q2 q3 q4 own2 z1
    go_wp2_with (at_builtin;refine yae _ rfl _ _ 24 rfl w1.heap.size 9 j0 _ 1 16 Tryz.underlying24 hj hy0 hy1 hy2 rfl Zq9 _ _ _ rfl OW2.out _ m _ (strs (hdT s).args) rfl ra2 (yif _) ?c3 ?c4 ?c5 ?_)
    case c3=>simp only[maxLen];omega
    case c4=>omega
    case c5=>first|omega|(simp;done)|(simp;omega)
    intro v3 w3 own3 gr3 hat3
    obtain ⟨A3,c3,rfl,hc3,_,_⟩:=yah own3
    have x3:=(gr3.block X Zq5 (by simp [Value.ownBlock] <;> (have:=Z1.out;omega))).trans X2.out
    obtain ⟨s0,s1,s2,s3,s4⟩:=yb9 (lay:=Below.refl _ _) x3
    have f2:=yab (j:=2) x3
    have lx3:=lt_of_block x3
    have X3:=hD x3
    have O3:=hD own3
    have G3:=hD gr3
    clear p0 p1 p2 p3 p4 r0 r1 r2 r3 r4 x3 own3 gr3 hat3 ra2 X2
    go_upto_region 7 with (fail)
    obtain ⟨w4,hw4⟩:∃ w4,w4=w3.setCell ⟨X,2,none⟩ (.slice A3 m c3):=⟨_,rfl⟩
    try rw[Nat.zero_add]
    rw[←hw4]
    have x4:w4.heap[X]?=some (.cells #[.int .i64 (hdT s).k,.string (hdT s).word,.slice A3 m c3,.int .i64 (hdT s).count,.slice Ab nb cb] 66 (0,0)):=by rw[hw4];exact ya1 X3.out _
    have z4:w4.heap.size=w3.heap.size:=by rw[hw4];simp [World.setCell]
    have rq4:RdQ w4 (X+1≤·) 1 A3 m (strs (hdT s).args):=by
     have h:=yck (by simpa using O3.out:w3.ownsRow w1.heap.size 9 1 (.slice A3 m c3) m (strs (hdT s).args))
     rw[Z1.out] at h
     rw[hw4]
     exact h.set_ (by show ¬ (X+1≤X);omega) _
    have b4:Below X wE w4:=by
     rw[hw4]
     exact(((B1.out.alloc (show X≤w1.heap.size by omega) _).grown G3.out Zq5 (fun k hk=>by simp [Value.ownBlock] at hk;omega)).setCell (Nat.le_refl _) _)
    have b4':Below wE.heap.size wE w4:=by rw[←HX.out];exact b4
    obtain ⟨t0,t1,t2,t3,t4⟩:=yb9 (lay:=Below.refl _ _) x4
    have hrb4:=hD (HRB.out.below b4')
    have X4:=hD x4
    have RQ4:=hD rq4
    have B4:=hD b4'
    have lx4:=lt_of_block x4
    have hEX:wE.heap.size=X:=HX.out.symm
    clear s0 s1 s2 s3 s4 f2 x4 rq4 b4 b4' hw4 X3 O3 G3 B1
    go_wp2_with fail
    refine(ih lo _ _ _ (bdT s) w4 hrb4.out hz2).mono ?_
    rintro e w5 ⟨A5,c5,rfl,htr,b5,s5⟩
    have x5:=(b5.block X lx4).trans X4.out
    obtain ⟨u0,u1',u2',u3',u4'⟩:=yb9 (lay:=Below.refl _ _) x5
    have f4:=yab (j:=4) x5
    have X5:=hD x5
    have TR5:=hD htr
    have RQ5:=hD (RQ4.out.below b5)
    have B5:=hD (B4.out.trans (b5.mono Zq6))
    have lx5:=lt_of_block x5
    clear t0 t1 t2 t3 t4 x5 htr b5 X4 RQ4 B4
    go_upto_region 8 with (fail)
    obtain ⟨w6,hw6⟩:∃ w6,w6=w5.setCell ⟨X,4,none⟩ (.slice A5 nb c5):=⟨_,rfl⟩
    rw[←hw6]
    have x6:w6.heap[X]?=some (.cells #[.int .i64 (hdT s).k,.string (hdT s).word,.slice A3 m c3,.int .i64 (hdT s).count,.slice A5 nb c5] 66 (0,0)):=by rw[hw6];exact ya1 X5.out _
    have rq6:RdQ w6 (X≤·) 1 A3 m (strs (hdT s).args):=by rw[hw6];exact(RQ5.out.set_ (p:=⟨X,4,none⟩) (by show ¬ (X+1≤X);omega) _).mono (fun b _ h=>by omega)
    have tr6:TrQ w6 (X≤·) d A5 nb (bdT s):=by rw[hw6];exact(TR5.out.set_ (p:=⟨X,4,none⟩) (by show ¬ (w4.heap.size≤X);omega) _).mono (fun b _ h=>by omega)
    have b6:Below wE.heap.size wE w6:=by rw[hw6];exact B5.out.setCell (show wE.heap.size≤X by omega) _
    obtain ⟨y0,y1,y2,y3,y4⟩:=yb9 (lay:=Below.refl _ _) x6
    have lx6:=lt_of_block x6
    rw[HM.out] at rq6
    have hmc:(hdT s).args.length≤c3:=by rw[←HM.out];simpa using hc3
    obtain ⟨xs,hox,hpush⟩:=(hown.out.below b6).add (R:=X) (fun k hk=>by have:=hown.out.lt k hk;omega) Zq6 (yb3 (h:=hdT s) (cb:=c5) rq6 tr6 hmc)
    have e:scl (hdT s) A3 c3 A5 nb c5=[.int .i64 (hdT s).k,.string (hdT s).word,.slice A3 m c3,.int .i64 (hdT s).count,.slice A5 nb c5]:=by rw[HM.out];rfl
    rw[HLT.out] at hox hpush
    have PU:=hD hpush
    have EE:=hD e
    have B6:=hD (hb.out.trans (b6.mono hbs))
    have hs6:=B6.out.size
    have HGE:=hD hown.out.ge
    clear u0 u1' u2' u3' u4' f4 x6 rq6 tr6 b6 hw6 hpush e X5 TR5 RQ5 B5
    go_wp2_with (at_builtin;refine yae _ rfl _ _ 25 rfl w.heap.size 66 i0 _ 5 80 Tryz.underlying25 hi hz0 hz1 hz2' rfl Zq9 _ _ _ rfl (hox.alloc _) _ 1 1 _ rfl (yc4 ?c0 rfl) ?c2 ?c3 ?c4 ?c5 ?_)
    case c0=>first|rfl|simp
    case c2=>repeat' (first|rfl|apply And.intro)
    case c3=>simp only[maxLen];omega
    case c4=>omega
    case c5=>first|omega|(simp;omega)
    intro v7 w7 own7 gr7 hat
    have O7:=hD (PU.out _ w7 v7 (by rw[EE.out];exact own7) ((Below.refl _ _).alloc (Nat.le_refl _) _) gr7 (hat.imp id fun e=>e.trans Zq11))
    have B7:=hD ((B6.out.alloc hs6 _).grown gr7 (by first|omega|(simp;omega)) HGE.out)
    clear own7 gr7 hox PU y0 y1 y2 y3 y4
    go_wp2_with fail
    go_roundw
    case rel=>exact ⟨t+1,by go_num,by omega,by rw[HTK.out];exact O7.out,B7.out⟩
    case measure=>simp [intOf];omega
   ·obtain rfl:t=n:=by omega
    have htk:l.take t=l:=List.take_of_length_le (by rw[HL.out];exact Nat.le_refl _)
    have O:=hD (show OwnT wE w.heap.size d (.slice Ao t co) l by have h:=hown.out;rw[htk] at h;exact h)
    go_wp2_with fail
    go_ret
    exact ⟨Ao,co,rfl,O.out.tr HL.out,hb.out,hbs⟩
theorem ElQ.up3 {w:World} {P:Nat→Prop} {xs:List Value} {l:List (Tr 3)} (h:ElQ w P 2 xs l):∃ l':List (Tr 6),ElQ w P 5 xs l'∧szT 6 l'=szT 3 l∧l'.length=l.length :=
 ⟨((l.map (upT 3)).map (upT 4)).map (upT 5),h.up.up.up,by rw[yg2,yg2,yg2],by rw[List.length_map,List.length_map,List.length_map]⟩
structure SBe (w:World) (p X B:Nat) (Aq:Option Addr) (nq cq:Nat) (Q:List ByteArray) (Ab:Option Addr) (nb cb:Nat) (l:List (Tr 3)) (xs:List Value) (W:World):Prop where
 fr:Fr w p W
 r0:W.heap[w.heap.size]?=some (.cells #[.slice none 0 0,.slice none 0 0] 27 (0,0))
 x:W.heap[X]?=some (.cells #[.slice Aq nq cq,.slice Ab nb cb] 27 (0,0))
 q:W.ownsRow (w.heap.size+1) 9 1 (.slice Aq nq cq) nq (strs Q)
 ql:Q.length=nq
 qs:ykp 3 Q
 qb:∀ k,(Value.slice Aq nq cq).ownBlock=some k→k<B
 hB:w.heap.size+1≤B
 hX:B≤X
 bo:W.ownsRow B 66 5 (.slice Ab nb cb) nb xs
 be:ElQ W (fun b=>B≤b∧b<X∧some b≠(Value.slice Ab nb cb).ownBlock) 2 xs l
 bl:l.length=nb
 bs:szT 3 l≤16000
 bx:∀ k,(Value.slice Ab nb cb).ownBlock=some k→k<X
def PE (w:World) (p X:Nat) (W:World):Prop:=∃ (Aq:Option Addr) (nq cq:Nat) (Q:List ByteArray) (vb:Value) (l:List (Tr 6)),Fr w p W∧W.heap[w.heap.size]?=some (.cells #[.slice none 0 0,.slice none 0 0] 27 (0,0)) ∧
 W.heap[X]?=some (.cells #[.slice Aq nq cq,vb] 27 (0,0))∧RdQ W (fun b=>w.heap.size<b∧some b≠vb.ownBlock) 1 Aq nq (strs Q)∧(Q.length=nq∧nq≤4∧nq≤cq∧cq≤maxLen∧∀ s∈Q,s.size≤9)∧OwnT W (w.heap.size+1) 5 vb l∧szT 6 l≤100000
section
variable {w W:World} {p X B nq cq nb cb:Nat} {Aq Ab:Option Addr} {Q:List ByteArray} {l:List (Tr 3)} {xs:List Value}
theorem SBe.call {W':World} (h:SBe w p X B Aq nq cq Q Ab nb cb l xs W) (hp:p<w.heap.size) (hf:Fr W p W'):SBe w p X B Aq nq cq Q Ab nb cb l xs W':=by
 have h1:=h.hB
 have h2:=h.hX
 exact ⟨h.fr.call hf.cur hf.gr,yej hf Zq6 h.r0,yej hf Zq6 h.x,ydv h.q hf.gr Zq6,h.ql,h.qs,h.qb,h.hB,h.hX,ydv h.bo hf.gr Zq6,
  h.be.keep (fun b hb hlt=>hf.gr.block b hlt (fun e=>by injection e with e;have:=hb.1;omega)) hf.gr.size,h.bl,h.bs,h.bx⟩
theorem SBe.q9 (h:SBe w p X B Aq nq cq Q Ab nb cb l xs W):Q.length=nq∧nq≤4∧nq≤cq∧cq≤maxLen∧∀ s∈Q,s.size≤9:=by
 obtain ⟨_,_,e,h1,h2,_⟩:=yah h.q
 injection e with _ _ e
 subst e
 exact ⟨h.ql,by have:=h.qs.2.1;rw[h.ql] at this;omega,h1,h2,h.qs.2.2⟩
theorem SBe.bge (h:SBe w p X B Aq nq cq Q Ab nb cb l xs W):∀ k,(Value.slice Ab nb cb).ownBlock=some k→B≤k:=fun k hk=>(h.bo.lt k hk).1
theorem SBe.qrd (h:SBe w p X B Aq nq cq Q Ab nb cb l xs W):RdQ W (fun b=>w.heap.size<b∧b<B) 1 Aq nq (strs Q):=by
 have r:=yck h.q
 refine ⟨r.1,fun h0=>?_⟩
 obtain ⟨b,off,e,hb,hlt,hc⟩:=r.2 h0
 have hb':w.heap.size+1≤b:=hb
 refine ⟨b,off,e,⟨by omega,?_⟩,hlt,hc⟩
 subst e
 exact h.qb b rfl
theorem SBe.fin {W6:World} {Aq':Option Addr} {nq' cq':Nat} {Q':List ByteArray} {vb:Value} {l':List (Tr 6)} {ys:List Value} {j:Nat} {u:Value} (h:SBe w p X B Aq nq cq Q Ab nb cb l xs W) (hp:p<w.heap.size) (f6:Fr w p W6)
  (r6:W6.heap[w.heap.size]?=some (.cells #[.slice none 0 0,.slice none 0 0] 27 (0,0))) (x6:(W6.setCell ⟨X,j,none⟩ u).heap[X]?=some (.cells #[.slice Aq' nq' cq',vb] 27 (0,0)))
  (hq:RdQ W6 (fun b=>w.heap.size<b∧b≠X∧some b≠vb.ownBlock) 1 Aq' nq' (strs Q')) (hs:Q'.length=nq'∧nq'≤4∧nq'≤cq'∧cq'≤maxLen∧∀ s∈Q',s.size≤9)
  (ho:W6.ownsRow (w.heap.size+1) 66 5 vb l'.length ys) (hv:vb.ownBlock≠some X) (he:ElQ W6 (fun b=>w.heap.size<b∧b≠X∧some b≠vb.ownBlock) 5 ys l') (hz:szT 6 l'≤100000):PE w p X (W6.setCell ⟨X,j,none⟩ u):=by
 have h1:=h.hB
 have h2:=h.hX
 refine ⟨Aq',nq',cq',Q',vb,l',f6.set hp (show w.heap.size≤X by omega) _,yfx r6 (by show w.heap.size≠X;omega) _,x6,?_,hs,⟨ys,yc8 ho hv _,?_⟩,hz⟩
 ·exact(hq.set_ (p:=⟨X,j,none⟩) (fun hb=>hb.2.1 rfl) u).mono (fun b _ hb=>⟨hb.1,hb.2.2⟩)
 ·exact(he.keep (fun b hb _=>Below.heap_setCell W6 ⟨X,j,none⟩ u b (fun e=>hb.2.1 e)) (by simp [World.setCell])).mono (fun b _ hb=>⟨hb.1,hb.2.2⟩)
theorem SBe.pe (h:SBe w p X B Aq nq cq Q Ab nb cb l xs W):PE w p X W:=by
 have h1:=h.hB
 obtain ⟨l',e1,e2,e3⟩:=h.be.up3
 refine ⟨Aq,nq,cq,Q,_,l',h.fr,h.r0,h.x,h.qrd.mono (fun b _ hb=>⟨hb.1,fun e=>?_⟩),h.q9,⟨xs,by rw[e3,h.bl];exact ybd h.bo h1,e1.mono (fun b _ hb=>⟨by have:=hb.1;omega,hb.2.2⟩)⟩,by rw[e2];have:=h.bs;omega⟩
 have:=h.bge b e.symm
 omega
theorem SBe.cut0 (h:SBe w p X B Aq nq cq Q Ab nb cb l xs W) (hp:p<w.heap.size):PE w p X (W.setCell ⟨X,0,none⟩ (.slice Aq 0 cq)):=by
 have h1:=h.hB
 have h2:=h.hX
 obtain ⟨l',e1,e2,e3⟩:=h.be.up3
 exact h.fin hp h.fr h.r0 (ya1 h.x _) (Q':=[]) ⟨rfl,fun h0=>absurd h0 Zq6⟩ ⟨rfl,by omega,by omega,h.q9.2.2.2.1,fun s hs=>absurd hs Zq11⟩
  (by rw[e3,h.bl];exact ybd h.bo h1) (fun e=>by have:=h.bx X e;omega) (e1.mono (fun b _ hb=>⟨by have:=hb.1;omega,by have:=hb.2.1;omega,hb.2.2⟩)) (by rw[e2];have:=h.bs;omega)
theorem SBe.putq {W5 W6:World} {A6:Option Addr} {n6 c6:Nat} {Q':List ByteArray} (h:SBe w p X B Aq nq cq Q Ab nb cb l xs W) (hp:p<w.heap.size) (hf:Fr W p W5) (hg:W5.grownBy W6 (Value.slice Aq nq cq).ownBlock)
  (hat:(Value.slice A6 n6 c6).ownBlock=(Value.slice Aq nq cq).ownBlock∨(Value.slice A6 n6 c6).ownBlock=some W5.heap.size) (ho:W6.ownsRow (w.heap.size+1) 9 1 (.slice A6 n6 c6) n6 (strs Q')) (hx:W6.heap[X]?=some (.cells #[.slice Aq nq cq,.slice Ab nb cb] 27 (0,0)))
  (hl:Q'.length=n6) (hn:n6≤4) (hs:∀ s∈Q',s.size≤9):PE w p X (W6.setCell ⟨X,0,none⟩ (.slice A6 n6 c6)):=by
 have h1:=h.hB
 have h2:=h.hX
 have h5:=h.call hp hf
 have hX5:=lt_of_block h5.x
 have hqge:∀ k,(Value.slice Aq nq cq).ownBlock=some k→w.heap.size+1≤k:=fun k hk=>(h5.q.lt k hk).1
 have fA:Fr w p W5:=h5.fr
 have f6:=fA.own hp hg (fun k hk=>by have:=hqge k hk;omega)
 have hbA:Below W5.heap.size W5 W5:=Below.refl _ _
 have hsz:W5.heap.size=W5.heap.size:=rfl
 have keep:∀ b,b<W5.heap.size→(∀ k,(Value.slice Aq nq cq).ownBlock=some k→k≠b)→W6.heap[b]?=W5.heap[b]?:=fun b hb hne=>(hg.block b Zq6 (fun e=>hne b e.symm rfl)).trans (hbA.block b hb)
 have r06:=(keep w.heap.size (lt_of_block h5.r0) (fun k hk e=>by have:=hqge k hk;omega)).trans h5.r0
 obtain ⟨l',e1,e2,e3⟩:=h5.be.up3
 have bkB:∀ k,(Value.slice Aq nq cq).ownBlock=some k→k<B:=h.qb
 have bo6:W6.ownsRow B 66 5 (.slice Ab nb cb) nb xs:=(yat h5.bo hbA).kept hg (by
  cases hk:(Value.slice Ab nb cb).ownBlock with
  | none=>exact .inl rfl
  | some k =>
   refine .inr fun e=>?_
   have a:=h.bge k hk
   have b:=bkB k e.symm
   omega)
 have hcap:n6≤c6∧c6≤maxLen:=by
  obtain ⟨_,_,e,h1,h2,_⟩:=yah ho
  injection e with _ _ e
  subst e
  exact ⟨h1,h2⟩
 refine h.fin hp f6 r06 (ya1 hx _) ?_ ⟨hl,hn,hcap.1,hcap.2,hs⟩ (by rw[e3,h.bl];exact ybd bo6 h1) (fun e=>by have:=h.bx X e;omega) ?_ (by rw[e2];have:=h.bs;omega)
 ·have r:=yck ho
  refine ⟨r.1,fun h0=>?_⟩
  obtain ⟨b,off,e,hb,hlt,hc⟩:=r.2 h0
  have hb':w.heap.size+1≤b:=hb
  refine ⟨b,off,e,⟨by omega,?_,?_⟩,hlt,hc⟩
  ·subst e
   rcases hat with e|e
   ·have:=bkB b e.symm
    omega
   ·have e2:some b=some W5.heap.size:=e
    injection e2 with e2
    omega
  ·subst e
   intro e'
   have hb2:=h5.bo.lt b e'.symm
   rcases hat with e|e
   ·have:=bkB b e.symm
    omega
   ·have e2:some b=some W5.heap.size:=e
    injection e2 with e2
    omega
 ·refine(e1.keep (w':=W6) (fun b hb hlt=>keep b hlt (fun k hk e=>by have:=bkB k hk;have:=hb.1;omega)) (by have:=hg.size;omega)).mono (fun b _ hb=>⟨by have:=hb.1;omega,by have:=hb.2.1;omega,hb.2.2⟩)
theorem SBe.putb {W5 W6:World} {A6:Option Addr} {n6 c6:Nat} {cs:List Value} {s:Tr 6} (h:SBe w p X B Aq nq cq Q Ab nb cb l xs W) (hp:p<w.heap.size) (hf:Fr W p W5) (hst:StQ W5 (W.heap.size≤·) 5 cs s)
  (ho:W6.ownsRow B 66 5 (.slice A6 n6 c6) (nb+1) (xs++cs)) (hg:W5.grownBy W6 (Value.slice Ab nb cb).ownBlock)
  (hat:(Value.slice A6 n6 c6).ownBlock=(Value.slice Ab nb cb).ownBlock∨(Value.slice A6 n6 c6).ownBlock=some W5.heap.size) (hx:W6.heap[X]?=some (.cells #[.slice Aq nq cq,.slice Ab nb cb] 27 (0,0)))
  (hz:szE s≤50000):PE w p X (W6.setCell ⟨X,1,none⟩ (.slice A6 n6 c6)):=by
 have h1:=h.hB
 have h2:=h.hX
 have h5:=h.call hp hf
 have hXW:=lt_of_block h.x
 have hX5:=lt_of_block h5.x
 have fA:Fr w p W5:=h5.fr
 have f6:=fA.own hp hg (fun k hk=>by have:=h5.bge k hk;omega)
 have hbA:Below W5.heap.size W5 W5:=Below.refl _ _
 have hsz:W5.heap.size=W5.heap.size:=rfl
 have keep:∀ b,b<W5.heap.size→some b≠(Value.slice Ab nb cb).ownBlock→W6.heap[b]?=W5.heap[b]?:=fun b hb hne=>(hg.block b Zq6 hne).trans (hbA.block b hb)
 have r06:=(keep w.heap.size (lt_of_block h5.r0) (fun e=>by have:=h5.bge _ e.symm;omega)).trans h5.r0
 obtain ⟨l',e1,e2,e3⟩:=h5.be.up3
 have hv6:∀ k,(Value.slice A6 n6 c6).ownBlock=some k→B≤k∧k≠X∧(k=W5.heap.size∨(Value.slice Ab nb cb).ownBlock=some k):=fun k hk=>by
  rcases hat with e|e
  ·rw[e] at hk
   have a:=h5.bge k hk
   have b:=h.bx k hk
   exact ⟨a,by omega,.inr hk⟩
  ·rw[hk] at e
   injection e with e
   exact ⟨by omega,by omega,.inl Zq6⟩
 have hall:ElQ W5 (fun b=>B≤b∧b≠X∧some b≠(Value.slice Ab nb cb).ownBlock) 5 (xs++cs) (l'++[s]) :=
  (e1.mono (fun b _ hb=>⟨hb.1,by have:=hb.2.1;omega,hb.2.2⟩)).append (ElQ.one (hst.mono (fun b _ hb=>⟨by omega,by omega,fun e=>by have:=h.bx b e.symm;omega⟩)))
 refine h.fin hp f6 r06 (ya1 hx _) ?_ h.q9 (l':=l'++[s]) (ys:=xs++cs) (by rw[List.length_append,e3,h.bl];exact ybd ho h1) (fun e=>(hv6 X e).2.1 rfl) ?_ ?_
 ·refine(h5.qrd.keep (w':=W6) (fun b hb hlt=>keep b hlt (fun e=>by have:=h5.bge b e.symm;have:=hb.2;omega)) (by have:=hg.size;omega)).mono (fun b _ hb=>⟨hb.1,by have:=hb.2;omega,fun e=>by have:=(hv6 b e.symm).1;have:=hb.2;omega⟩)
 ·refine(ElQ.mono (P:=fun b=>B≤b∧b≠X∧some b≠(Value.slice Ab nb cb).ownBlock∧b<W5.heap.size) ?_ ?_)
  ·exact(hall.mono (fun b hb hc=>⟨hc.1,hc.2.1,hc.2.2,hb⟩)).keep (w':=W6) (fun b hb hlt=>keep b hlt hb.2.2.1) (by have:=hg.size;omega)
  ·intro b _ hb
   refine ⟨by have:=hb.1;omega,hb.2.1,fun e=>?_⟩
   rcases (hv6 b e.symm).2.2 with e'|e'
   ·have:=hb.2.2.2
    omega
   ·exact hb.2.2.1 e'.symm
 ·rw[yf5,e2,yde]
  have:=h.bs
  omega
theorem SBe.adj (h:SBe w p X B Aq nq cq Q Ab nb cb l xs W) (hp:p<w.heap.size):PE w p X ((((W.alloc (.cells #[.int .i64 3,.string ⟨#[]⟩,.slice none 0 0,.int .i64 0,.slice Ab nb cb] 66)).alloc (.cells #[.int .i64 3,.string ⟨#[]⟩,.slice none 0 0,.int .i64 0,.slice (some ⟨W.heap.size,0,none⟩) 1 1] 66)).alloc (.cells #[.int .i64 3,.string ⟨#[]⟩,.slice none 0 0,.int .i64 0,.slice (some ⟨W.heap.size+1,0,none⟩) 1 1] 66)).setCell ⟨X,1,none⟩ (.slice (some ⟨W.heap.size+1+1,0,none⟩) 1 1)):=by
 have h1:=h.hB
 have h2:=h.hX
 have hXW:=lt_of_block h.x
 obtain ⟨W1,hW1⟩:∃ W1,W1=W.alloc (.cells #[.int .i64 3,.string ⟨#[]⟩,.slice none 0 0,.int .i64 0,.slice Ab nb cb] 66):=⟨_,rfl⟩
 rw[←hW1]
 obtain ⟨W2,hW2⟩:∃ W2,W2=W1.alloc (.cells #[.int .i64 3,.string ⟨#[]⟩,.slice none 0 0,.int .i64 0,.slice (some ⟨W.heap.size,0,none⟩) 1 1] 66):=⟨_,rfl⟩
 rw[←hW2]
 obtain ⟨W3,hW3⟩:∃ W3,W3=W2.alloc (.cells #[.int .i64 3,.string ⟨#[]⟩,.slice none 0 0,.int .i64 0,.slice (some ⟨W.heap.size+1,0,none⟩) 1 1] 66):=⟨_,rfl⟩
 rw[←hW3]
 have z1:W1.heap.size=W.heap.size+1:=by rw[hW1];simp
 have z2:W2.heap.size=W.heap.size+1+1:=by rw[hW2];simp [z1]
 have z3:W3.heap.size=W.heap.size+1+1+1:=by rw[hW3];simp [z2]
 have b1:Below W.heap.size W W1:=by rw[hW1];exact Zq0
 have b2:Below W1.heap.size W1 W2:=by rw[hW2];exact Zq0
 have b3:Below W2.heap.size W2 W3:=by rw[hW3];exact Zq0
 have t0:TrQ W (fun b=>w.heap.size<b∧b≠X∧b<W.heap.size) 3 Ab nb l:=by
  refine(h.be.mono (fun b hb hc=>⟨by have:=hc.1;omega,by have:=hc.2.1;omega,hb⟩)).tr ?_ h.bl
  refine ⟨(ybv h.bo).1,fun h0=>?_⟩
  obtain ⟨b,off,e,hb,hlt,hc⟩:=(yck h.bo).2 h0
  have hb':B≤b:=hb
  refine ⟨b,off,e,⟨by omega,?_,hlt⟩,hlt,hc⟩
  subst e
  have:=h.bx b rfl
  omega
 have nil:∀ (U:World) (P:Nat→Prop),RdQ U P 1 none 0 (strs []):=fun U P=>⟨rfl,fun h0=>absurd h0 Zq6⟩
 have s1:=yb3 (d:=3) (h:=⟨3,⟨#[]⟩,[],0⟩) (Aa:=none) (ca:=0) (cb:=cb) (nil W1 _) ((t0.mono (P':=fun b=>w.heap.size<b∧b≠X∧b<W.heap.size+1+1) (fun b _ hb=>⟨hb.1,hb.2.1,by have:=hb.2.2;omega⟩)).below b1) (Nat.le_refl _)
 have r1:RdQ W1 (fun b=>w.heap.size<b∧b≠X∧b<W.heap.size+1+1) 5 (some ⟨W.heap.size,0,none⟩) 1 (scl ⟨3,⟨#[]⟩,[],0⟩ none 0 Ab nb cb):=by rw[hW1];exact yji rfl rfl ⟨by omega,by omega,by omega⟩
 have t1:=(ElQ.one s1).tr r1 rfl
 have s2:=yb3 (d:=4) (h:=⟨3,⟨#[]⟩,[],0⟩) (Aa:=none) (ca:=0) (cb:=1) (nil W2 _) (t1.below b2) (Nat.le_refl _)
 have r2:RdQ W2 (fun b=>w.heap.size<b∧b≠X∧b<W.heap.size+1+1) 5 (some ⟨W.heap.size+1,0,none⟩) 1 (scl ⟨3,⟨#[]⟩,[],0⟩ none 0 (some ⟨W.heap.size,0,none⟩) 1 1):=by rw[hW2];exact yji z1.symm rfl ⟨by omega,by omega,by omega⟩
 have t2:=(ElQ.one s2).tr r2 rfl
 have s3:=yb3 (d:=5) (h:=⟨3,⟨#[]⟩,[],0⟩) (Aa:=none) (ca:=0) (cb:=1) (nil W3 _) (t2.below b3) (Nat.le_refl _)
 have o3:W3.ownsRow (w.heap.size+1) 66 5 (.slice (some ⟨W.heap.size+1+1,0,none⟩) 1 1) 1 (scl ⟨3,⟨#[]⟩,[],0⟩ none 0 (some ⟨W.heap.size+1,0,none⟩) 1 1):=by
  rw[hW3,←z2]
  exact World.ownsRow_lit W2 #[.int .i64 3,.string ⟨#[]⟩,.slice none 0 0,.int .i64 0,.slice (some ⟨W.heap.size+1,0,none⟩) 1 1] 1 Zq6 (by simp [maxLen]) rfl
 have x3:W3.heap[X]?=some (.cells #[.slice Aq nq cq,.slice Ab nb cb] 27 (0,0)):=(b3.block X Zq6).trans ((b2.block X Zq6).trans ((b1.block X hXW).trans h.x))
 have r3:W3.heap[w.heap.size]?=some (.cells #[.slice none 0 0,.slice none 0 0] 27 (0,0)):=(b3.block _ Zq6).trans ((b2.block _ Zq6).trans ((b1.block _ Zq6).trans h.r0))
 have hne:∀ b,some b=(Value.slice (some ⟨W.heap.size+1+1,0,none⟩) 1 1).ownBlock→b=W.heap.size+1+1:=fun b e=>by
  have e2:some b=some (W.heap.size+1+1):=e
  injection e2
 refine h.fin hp (((h.fr.below b1).below b2).below b3) r3 (ya1 x3 _) ?_ h.q9 (l':=[mkT (d:=5) ⟨3,⟨#[]⟩,[],0⟩ [mkT (d:=4) ⟨3,⟨#[]⟩,[],0⟩ [mkT (d:=3) ⟨3,⟨#[]⟩,[],0⟩ l]]]) o3 (fun e=>by have:=hne X e.symm;omega) (ElQ.one (s3.mono (fun b _ hb=>⟨hb.1,hb.2.1,fun e=>by have:=hne b e;have:=hb.2.2;omega⟩))) ?_
 ·exact(((h.qrd.below b1).below b2).below b3).mono (fun b _ hb=>⟨hb.1,by have:=hb.2;omega,fun e=>by have:=hne b e;have:=hb.2;omega⟩)
 ·rw[yde,yb5,yde,yb5,yde,yb5]
  show 1+(0+(0+0+(1+(0+(0+0+(1+(0+(0+0+szT 3 l))))))))≤_
  have:=h.bs
  omega
end
end Go.Proofs.YthkbckkghnbonaaGreatDoor
