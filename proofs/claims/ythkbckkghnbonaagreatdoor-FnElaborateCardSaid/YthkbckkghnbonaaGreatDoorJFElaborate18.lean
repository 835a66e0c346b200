/- What the calls that this law reaches answer, part 18 of 20. -/
import Derived.Test.YthkbckkghnbonaaGreatDoorJFElaborate17
import Derived.Test.YthkbckkghnbonaaGreatDoorJFElaborate4
import Derived.Test.YthkbckkghnbonaaGreatDoorJFElaborate16
set_option maxRecDepth 100000
set_option maxHeartbeats 16000000
set_option linter.unusedVariables false
namespace Go.Proofs.YthkbckkghnbonaaGreatDoor
open Go.RowKit
set_option linter.unusedVariables false
def DBn (w:World) (p:Nat) (e:Ending) (w':World):Prop:=∃ (Aq:Option Addr) (nq cq:Nat) (Q:List ByteArray) (vb:Value) (l:List (Tr 6)),e=.returned (.agg #[.slice Aq nq cq,vb])∧RdQ w' (fun b=>w.heap.size<b∧some b≠vb.ownBlock) 1 Aq nq (strs Q) ∧
 (Q.length=nq∧nq≤4∧nq≤cq∧cq≤maxLen∧∀ s∈Q,s.size≤9)∧OwnT w' (w.heap.size+1) 5 vb l∧szT 6 l≤100000∧ybt w' p∧w.grownBy w' (some p)
theorem OwnT.set_ {w:World} {base d:Nat} {v:Value} {l:List (Tr (d+1))} (h:OwnT w base d v l) {p:Addr} (hp:p.block<base) (u:Value):OwnT (w.setCell p u) base d v l :=
 h.grown (ydy (World.grownBy.refl w (some p.block)) rfl u) (fun k hk=>by injection hk with hk;omega)
def LitS (R:Nat) (W:World) (b:Nat):Prop:=∃ (cs:List Value) (s:Tr 6),RdQ W (R≤·) 5 (some ⟨b,0,none⟩) 1 cs∧StQ W (R≤·) 5 cs s∧szE s≤50000
theorem LitS.fr {R p b:Nat} {W W1:World} (h:LitS R W b) (hf:Fr W p W1) (hp:p<R):LitS R W1 b:=by
 obtain ⟨cs,s,h1,h2,h3⟩:=h
 exact ⟨cs,s,yam h1 hf Zq6,h2.keep (fun b hb hlt=>hf.gr.block b hlt (fun e=>by injection e with e;omega)) hf.gr.size,h3⟩
theorem fewL {L:List ByteArray} (h:(L.all fun s=>decide (s.size≤9))=true):∀ y∈L,y.size≤9:=fun y hy=>of_decide_eq_true (List.all_eq_true.1 h y hy)
theorem yto {l:List (Tr 3)} (h1:l.length≤6) (h2:∀ s∈l,szE s≤bE 2):szT 3 l≤16000:=by
 have h:=ykn (bE 2) l h2
 have e:bE 2=2500:=rfl
 rw[e] at h
 have:=Nat.mul_le_mul_right 2500 h1
 rw[ybb]
 omega
theorem yp4 (hright:∀ (w:World) (p:Nat),ybt w p→Calls Tryz.prog 80 #[.pointer (some ⟨p,0,none⟩)] w (DRt w p)) (w:World) (p:Nat) (hcur:ybt w p):Calls Tryz.prog 36 #[.pointer (some ⟨p,0,none⟩)] w (DBn w p):=by
 obtain ⟨i0,hi,hz0,hz1,hz2⟩:=info_parts yex
 obtain ⟨j0,hj,hy0,hy1,hy2⟩:=info_parts ydh
 have HR:=hD hright
 clear hright
 have hp:=hcur.lt
 go_enter Tryz.func36,Tryz.ntmps36
 go_wp2_with fail
 obtain ⟨w0,hw0⟩:∃ w0,w0=w.alloc (.cells #[.slice none 0 0,.slice none 0 0] 27):=⟨_,rfl⟩
 rw[←hw0]
 have z0:w0.heap.size=w.heap.size+1:=by rw[hw0];simp
 have x0:w0.heap[w.heap.size]?=some (.cells #[.slice none 0 0,.slice none 0 0] 27 (0,0)):=by rw[hw0];exact yac _ _
 have fr0:Fr w p w0:=by rw[hw0];exact(Fr.start hcur).alloc _
 clear hw0
 refine(HR.out w0 p fr0.cur).mono ?_
 rintro e w1 ⟨Aq,nq,cq,B,Q,vb,l,rfl,hq,hql,hqb,⟨hB,hB2⟩,hbo,hQ,hl,hc1,hg1⟩
 obtain ⟨Ab,cb,rfl,_,_⟩:=hbo.slice
 obtain ⟨nb,hnb⟩:∃ nb,nb=l.length:=⟨_,rfl⟩
 rw[←hnb] at hbo ⊢
 have HNB:=hD hnb
 clear hnb
 go_upto_region 2 with (fail)
 obtain ⟨X,hX⟩:∃ X,X=w1.heap.size:=⟨_,rfl⟩
 obtain ⟨w2,hw2⟩:∃ w2,w2=w1.alloc (.cells #[.slice Aq nq cq,.slice Ab nb cb] 27):=⟨_,rfl⟩
 rw[←hw2,←hX]
 obtain ⟨xs,hxo,hxe⟩:=hbo
 have hs1:=hg1.size
 have hp0:p<w0.heap.size:=fr0.cur.lt
 have hXlo:w.heap.size<X:=by omega
 have S2:SBe w p X B Aq nq cq Q Ab nb cb l xs w2:=by
  have b2:Below w1.heap.size w1 w2:=by rw[hw2];exact Zq0
  rw[←HNB.out] at hxo
  refine ⟨(fr0.call hc1 hg1).below b2,?_,by rw[hw2,hX];exact yac _ _,by rw[←z0];exact yat hq b2,hql,hQ,hqb,by omega,by omega,yat hxo b2,?_,HNB.out.symm,yto hl.1 hl.2,fun k hk=>?_⟩
  ·exact(b2.block _ Zq6).trans (ybl x0 hg1 Zq6)
  ·exact(hxe.mono (P':=fun b=>B≤b∧b<X∧some b≠(Value.slice Ab nb cb).ownBlock) (fun b hb hc=>⟨hc.1,by omega,hc.2⟩)).keep (fun b hb hlt=>b2.block b hlt) b2.size
  ·have:=(hxo.lt k hk).2
   omega
 have SH:=hD S2
 clear hq hql hqb hB hB2 hxo hxe hQ hl hc1 hg1 S2 hw2 hX HNB x0 z0 hs1 fr0 hp0
 go_wp2_with fail
 refine(ybu 12 11 w2 p SH.out.fr.cur Zq6 Zq6 Zq6).mono ?_
 rintro e w3 ⟨x,hx0,hx1,rfl,hc3,hg3⟩
 have S3:=hD (SH.out.call hp ⟨hc3,hg3⟩)
 clear hc3 hg3 SH
 go_upto_block 0 with (fail)
 go_cut [] (fun W=>PE w p X W)
 case first =>
  have hSX:=lt_of_block S3.out.x
  have hXp:X≠p:=by omega
  obtain ⟨c0,c1⟩:=ycs (lay:=Below.refl _ _) S3.out.x
  have f0:=yab (j:=0) S3.out.x
  have f1:=yab (j:=1) S3.out.x
  have C0:=hD c0
  have C1:=hD c1
  have frD:Fr w p w3:=S3.out.fr
  have frS:Fr w3 p w3:=Fr.start S3.out.fr.cur
  have hp3:p<w3.heap.size:=S3.out.fr.cur.lt
  have hBX:=S3.out.hX
  have hB0:=S3.out.hB
  have hq3:=S3.out.q9
  have hnq4:=hq3.2.1
  have hnq3:nq≤3:=by have:=S3.out.qs.2.1;rw[S3.out.ql] at this;exact this
  have HQ9:=hD hq3.2.2.2.2
  have hnbz:nb≤16000:=by have h:=S3.out.bs;rw[ybb,S3.out.bl] at h;omega
  clear hq3
  by_cases e0:x=0
  ·subst e0
   go_upto_region 4 with (fail)
   obtain ⟨J0,hJ0⟩:∃ J:Array Value→Array Bool→Act→World→Prop,J=(fun A0 Lz a W=>∃ (b1:Nat) (y:ByteArray) (b2:Nat) (A6:Option Addr) (c6:Nat),∃ x10 x11 x12 x13 x14 x15 x16 x17:Value,a=⟨((((((((A0.setIfInBounds 10 x10).setIfInBounds 11 x11).setIfInBounds 12 x12).setIfInBounds 13 x13).setIfInBounds 14 x14).setIfInBounds 15 x15).setIfInBounds 16 x16).setIfInBounds 17 x17),[]⟩∧(Ls Lz 0→x10=.pointer (some ⟨X,0,none⟩))∧(Ls Lz 1→x11=.slice Aq nq cq)∧(Ls Lz 2→x12=.pointer (some ⟨p,0,none⟩))∧(Ls Lz 3→x13=.slice (some ⟨b1,0,none⟩) 5 5)∧(Ls Lz 4→x14=.string y∧y.size≤9)∧(Ls Lz 5→x15=.slice (some ⟨b2,0,none⟩) 1 1∧y.size≤9)∧(Ls Lz 6→x16=.slice A6 (nq+1) c6∧y.size≤9)∧(Ls Lz 7→x17=.pointer (some ⟨X,0,none⟩))∧(Ls Lz 8→PE w p X W)∧(Ls Lz 3→¬ Ls Lz 6→RdQ W (fun b=>w3.heap.size≤b) 1 (some ⟨b1,0,none⟩) 5 (strs [⟨#[97]⟩,⟨#[65]⟩,⟨#[]⟩,⟨#[113]⟩,⟨#[49,50,51,52,53,54,55,56,57]⟩]))∧(Ls Lz 5→¬ Ls Lz 6→RdQ W (fun b=>w3.heap.size≤b) 1 (some ⟨b2,0,none⟩) 1 (strs [y]))∧(¬ Ls Lz 6→Fr w3 p W)∧(Ls Lz 6→¬ Ls Lz 8→(∃ W5,Fr w3 p W5∧W5.grownBy W (Value.slice Aq nq cq).ownBlock∧((Value.slice A6 (nq+1) c6).ownBlock=(Value.slice Aq nq cq).ownBlock∨(Value.slice A6 (nq+1) c6).ownBlock=some W5.heap.size)∧W.ownsRow (w.heap.size+1) 9 1 (.slice A6 (nq+1) c6) (nq+1) (strs (Q++[y]))∧W.heap[X]?=some (.cells #[.slice Aq nq cq,.slice Ab nb cb] 27 (0,0))))):=⟨_,rfl⟩
   have HJ0:=hD hJ0
   clear hJ0
   refine ya3 Zq8 J0 ?_ ?_ ?_
   ·intro A0
    rw[HJ0.out]
    exact ⟨0,⟨#[]⟩,0,none,0,A0.getD 10 undef,A0.getD 11 undef,A0.getD 12 undef,A0.getD 13 undef,A0.getD 14 undef,A0.getD 15 undef,A0.getD 16 undef,A0.getD 17 undef,by simp only[ybm],zn,zn,zn,zn,zn,zn,zn,zn,zn,zn,zn,fun _=>frS.drew,zn⟩
   ·intro Lz a W hsize hcl hJ i hi
    have hil:=ybn hi
    have hnl:=ybi hi
    have hnow:=ybh hi hsize
    have HCL:=hD hcl
    rw[HJ0.out] at hJ
    obtain ⟨b1,y,b2,A6,c6,x10,x11,x12,x13,x14,x15,x16,x17,rfl,HF⟩:=hJ
    have HH:=hD HF
    have hi2:i=0∨i=1∨i=2∨i=3∨i=4∨i=5∨i=6∨i=7∨i=8:=by simp at hil;omega
    clear hil hcl HF
    rcases hi2 with rfl|rfl|rfl|rfl|rfl|rfl|rfl|rfl|rfl
    ·clear hi HCL
     simp only[zA,zB,zC]
     refine yaa rfl rfl fun K hK=>?_
     go_wp2_with fail
     rw[HJ0.out]
     exact ⟨b1,y,b2,A6,c6,.pointer (some ⟨X,0,none⟩),x11,x12,x13,x14,x15,x16,x17,(by simp only[zA,zB,zC]),zT HH⟩
    ·have hns:¬ Ls Lz 6:=fun h=>hnl (dq HCL h 1)
     have D0:=(pj0 HH.out) (rq hi 0)
     have V0:=(pj11 HH.out) hns
     have hnla:¬ Ls Lz 8:=fun h=>hns (HCL.out.dep2 h 6 Zq8)
     clear hi HCL
     simp only[zA,zB,zC,D0]
     have k0:=ybw V0 hSX hXp C0.out
     refine yaa rfl rfl fun K hK=>?_
     go_wp2_with fail
     rw[HJ0.out]
     exact ⟨b1,y,b2,A6,c6,x10,.slice Aq nq cq,x12,x13,x14,x15,x16,x17,(by simp only[zA,zB,zC,D0]),zT HH⟩
    ·clear hi HCL
     simp only[zA,zB,zC]
     refine yaa rfl rfl fun K hK=>?_
     go_wp2_with fail
     rw[HJ0.out]
     exact ⟨b1,y,b2,A6,c6,x10,x11,.pointer (some ⟨p,0,none⟩),x13,x14,x15,x16,x17,(by simp only[zA,zB,zC]),zT HH⟩
    ·have hns:¬ Ls Lz 6:=fun h=>hnl (dq HCL (dq HCL (dq HCL h 5) 4) 3)
     have V0:=(pj11 HH.out) hns
     have hnla:¬ Ls Lz 8:=fun h=>hns (HCL.out.dep2 h 6 Zq8)
     clear hi HCL
     simp only[zA,zB,zC]
     refine yaa rfl rfl fun K hK=>?_
     go_wp2_with fail
     rw[HJ0.out]
     exact ⟨W.heap.size,y,b2,A6,c6,x10,x11,x12,.slice (some ⟨W.heap.size,0,none⟩) 5 5,x14,x15,x16,x17,(by simp only[zA,zB,zC]),zk HH,zk HH,zk HH,fun _=>rfl,zk HH,zk HH,zk HH,zk HH,Ba hnla,fun _ _=>ybg rfl rfl (by have:=V0.gr.size;first|omega|(show w3.heap.size≤W.heap.size;omega)) rfl,(Bt (pj10 HH.out) fun x=>yam x (Fr.alloc (Fr.start V0.cur) _) Zq6),fun h=>Fr.call ((pj11 HH.out) (fun h2=>h h2.fwd)) (Fr.cur (Fr.alloc (Fr.start V0.cur) _)) (Fr.gr (Fr.alloc (Fr.start V0.cur) _)),Bb hns⟩
    ·have hns:¬ Ls Lz 6:=fun h=>hnl (dq HCL (dq HCL h 5) 4)
     have D2:=(pj2 HH.out) (rq hi 2)
     have D3:=(pj3 HH.out) (rq hi 3)
     have E3:=(pj9 HH.out) (rq hi 3) hns
     have V0:=(pj11 HH.out) hns
     have hk5:¬ Ls Lz 5:=fun h=>hnl (dq HCL h 4)
     have hk6:¬ Ls Lz 6:=fun h=>hnl (dq HCL (dq HCL h 5) 4)
     have hnla:¬ Ls Lz 8:=fun h=>hns (HCL.out.dep2 h 6 Zq8)
     clear hi HCL
     simp only[zA,zB,zC,D2,D3]
     refine yaa rfl rfl fun K hK=>?_
     go_wp2_with fail
     refine(ydc _ 5 5 [⟨#[97]⟩,⟨#[65]⟩,⟨#[]⟩,⟨#[113]⟩,⟨#[49,50,51,52,53,54,55,56,57]⟩] _ p V0.cur Zq11 Zq6 Zq6 E3.rd ?_).mono ?_
     ·intro e
      obtain ⟨_,_,e1,h1,_⟩:=E3.2 Zq6
      injection e1 with e1
      injection e1 with e1
      have h1:w3.heap.size≤_:=h1
      omega
     rintro e y1 ⟨y7,hy,rfl,hc,hg⟩
     have hy9:y7.size≤9:=fewL (L:=[⟨#[97]⟩,⟨#[65]⟩,⟨#[]⟩,⟨#[113]⟩,⟨#[49,50,51,52,53,54,55,56,57]⟩]) Zq9 y7 hy
     go_wp2_with fail
     rw[HJ0.out]
     exact ⟨b1,y7,b2,A6,c6,x10,x11,x12,x13,.string y7,x15,x16,x17,(by simp only[zA,zB,zC,D2,D3]),zk HH,zk HH,zk HH,zk HH,fun _=>⟨rfl,hy9⟩,Ba hk5,Ba hk6,zk HH,Ba hnla,(Bt (pj9 HH.out) fun x=>yam x (Fr.mk hc hg) Zq6),Bb hk5,fun h=>Fr.call ((pj11 HH.out) (fun h2=>h h2.fwd)) (Fr.cur (Fr.mk hc hg)) (Fr.gr (Fr.mk hc hg)),Bb hns⟩
    ·have hns:¬ Ls Lz 6:=fun h=>hnl (dq HCL h 5)
     have D4:=(pj4 HH.out) (rq hi 4)
     have V0:=(pj11 HH.out) hns
     have hnla:¬ Ls Lz 8:=fun h=>hns (HCL.out.dep2 h 6 Zq8)
     clear hi HCL
     obtain ⟨D4,X4⟩:=D4
     simp only[zA,zB,zC,D4]
     refine yaa rfl rfl fun K hK=>?_
     go_wp2_with fail
     rw[HJ0.out]
     exact ⟨b1,y,W.heap.size,A6,c6,x10,x11,x12,x13,x14,.slice (some ⟨W.heap.size,0,none⟩) 1 1,x16,x17,(by simp only[zA,zB,zC,D4]),zk HH,zk HH,zk HH,zk HH,zk HH,fun _=>⟨rfl,X4⟩,zk HH,zk HH,Ba hnla,(Bt (pj9 HH.out) fun x=>yam x (Fr.alloc (Fr.start V0.cur) _) Zq6),fun _ _=>ybg rfl rfl (by have:=V0.gr.size;first|omega|(show w3.heap.size≤W.heap.size;omega)) rfl,fun h=>Fr.call ((pj11 HH.out) (fun h2=>h h2.fwd)) (Fr.cur (Fr.alloc (Fr.start V0.cur) _)) (Fr.gr (Fr.alloc (Fr.start V0.cur) _)),Bb hns⟩
    ·have hns:¬ Ls Lz 6:=hnl
     have D1:=(pj1 HH.out) (rq hi 1)
     have D5:=(pj5 HH.out) (rq hi 5)
     have E5:=(pj10 HH.out) (rq hi 5) hns
     have V0:=(pj11 HH.out) hns
     have hnla:¬ Ls Lz 8:=fun h=>hns (HCL.out.dep2 h 6 Zq8)
     clear hi HCL
     obtain ⟨D5,X5⟩:=D5
     simp only[zA,zB,zC,D1,D5]
     have SW:=hD (S3.out.call hp V0)
     refine yaa rfl rfl fun K hK=>?_
     simp only[List.getElem_toArray,List.getElem_cons_succ,List.getElem_cons_zero]
     refine yae _ rfl _ _ 24 rfl (w.heap.size+1) 9 j0 _ 1 16 Tryz.underlying24 hj hy0 hy1 hy2 rfl Zq9 _ _ _ rfl SW.out.q _ 1 1 _ rfl E5.rd (yhj y) ?c3 ?c4 ?c5 ?_
     case c3=>simp only[maxLen];omega
     case c4=>omega
     case c5=>have:=V0.gr.size;omega
     intro v6 W6 own6 gr6 hat
     obtain ⟨A7,c7,rfl,_,_,_⟩:=yah own6
     go_wp2_with fail
     rw[HJ0.out]
     exact ⟨b1,y,b2,A7,c7,x10,x11,x12,x13,x14,x15,.slice A7 (nq+1) c7,x17,(by first|(simp only[zA,zB,zC,D1,D5] <;> fail)|simp only[Act.put,zA,zB,zC,D1,D5]),zk HH,zk HH,zk HH,zk HH,zk HH,zk HH,fun _=>⟨rfl,X5⟩,zk HH,Ba hnla,zx hnow,zx hnow,zy hnow,fun _ _=>⟨W,V0,gr6,hat,by rw[yhk];exact own6,(gr6.block X (lt_of_block SW.out.x) (fun e=>by have:=S3.out.qb X e.symm;omega)).trans SW.out.x⟩⟩
    ·clear hi HCL
     simp only[zA,zB,zC]
     refine yaa rfl rfl fun K hK=>?_
     go_wp2_with fail
     rw[HJ0.out]
     exact ⟨b1,y,b2,A6,c6,x10,x11,x12,x13,x14,x15,x16,.pointer (some ⟨X,0,none⟩),(by simp only[zA,zB,zC]),zT HH⟩
    ·have D6:=(pj6 HH.out) (rq hi 6)
     have D7:=(pj7 HH.out) (rq hi 7)
     have HST:=rq hi 6
     have VL:=(pe12 HH.out) HST hnl
     clear hi HCL
     obtain ⟨D6,X6⟩:=D6
     simp only[zA,zB,zC,D6,D7]
     obtain ⟨W5,l1,l2,l3,l4,l5⟩:=VL
     have px6:=yaj (j:=0) l5 rfl
     have fx6:=yab (j:=0) l5
     have lx6:=lt_of_block l5
     have PEH:=hD (S3.out.putq (Q':=Q++[y]) hp l1 l2 l3 l4 l5 (by rw[List.length_append,S3.out.ql];rfl) Zq6 (fun s hs=>by
      rcases List.mem_append.1 hs with h|h
      ·exact HQ9.out s h
      ·rw[List.mem_singleton.1 h];exact X6))
     clear l1 l2 l3 l4 l5
     refine yaa rfl rfl fun K hK=>?_
     go_wp2_with fail
     rw[HJ0.out]
     exact ⟨b1,y,b2,A6,c6,x10,x11,x12,x13,x14,x15,x16,x17,(by simp only[zA,zB,zC,D6,D7]),zk HH,zk HH,zk HH,zk HH,zk HH,zk HH,zk HH,zk HH,fun _=>PEH.out,zx (Ls.fwd HST),zx (Ls.fwd HST),zy (Ls.fwd HST),zx hnow⟩
   ·intro Lz a W hsize hJ hr
    rw[HJ0.out] at hJ
    have hall:=ybj hsize Zq8 hr
    obtain ⟨b1,y,b2,A6,c6,x10,x11,x12,x13,x14,x15,x16,x17,rfl,HF⟩:=hJ
    have HH:=hD HF
    have HEND:=(pj8 HH.out) (hall 8 Zq9)
    clear HF HH hall hr hsize
    simp only[zA,zB,zC]
    go_wp2_with fail
    go_meet
    exact HEND
  have g0:(x==0)=false:=by simp [e0]
  by_cases e1:x=1
  ·subst e1
   go_wp2_with fail
   go_meet
   exact S3.out.cut0 hp
  have g1:(x==1)=false:=by simp [e1]
  by_cases e4:x=4
  ·subst e4
   go_upto_region 12 with (fail)
   obtain ⟨J0,hJ0⟩:∃ J:Array Value→Array Bool→Act→World→Prop,J=(fun A0 Lz a W=>∃ (b1:Nat) (y:ByteArray) (b2:Nat) (b4:Nat) (A6:Option Addr) (c6:Nat),∃ x57 x58 x59 x60 x61 x62 x63 x64 x65 x66:Value,a=⟨((((((((((A0.setIfInBounds 57 x57).setIfInBounds 58 x58).setIfInBounds 59 x59).setIfInBounds 60 x60).setIfInBounds 61 x61).setIfInBounds 62 x62).setIfInBounds 63 x63).setIfInBounds 64 x64).setIfInBounds 65 x65).setIfInBounds 66 x66),[]⟩∧(Ls Lz 0→x57=.pointer (some ⟨X,1,none⟩))∧(Ls Lz 1→x58=.slice Ab nb cb)∧(Ls Lz 2→x59=.pointer (some ⟨p,0,none⟩))∧(Ls Lz 3→x60=.slice (some ⟨b1,0,none⟩) 4 4)∧(Ls Lz 4→x61=.string y∧y.size≤9)∧(Ls Lz 5→x62=.slice (some ⟨b2,0,none⟩) 2 2∧y.size≤9)∧(Ls Lz 6→x63=.agg #[.int .i64 1,.string ⟨#[99,120]⟩,.slice (some ⟨b2,0,none⟩) 2 2,.int .i64 0,.slice none 0 0]∧y.size≤9)∧(Ls Lz 7→x64=.slice (some ⟨b4,0,none⟩) 1 1)∧(Ls Lz 8→x65=.slice A6 (nb+1) c6)∧(Ls Lz 9→x66=.pointer (some ⟨X,1,none⟩))∧(Ls Lz 10→PE w p X W)∧(Ls Lz 3→¬ Ls Lz 8→RdQ W (fun b=>w3.heap.size≤b) 1 (some ⟨b1,0,none⟩) 4 (strs [⟨#[97]⟩,⟨#[113]⟩,⟨#[114]⟩,⟨#[122,57]⟩]))∧(Ls Lz 5→¬ Ls Lz 8→RdQ W (fun b=>w3.heap.size≤b) 1 (some ⟨b2,0,none⟩) 2 (strs [⟨#[97]⟩,y]))∧(Ls Lz 7→¬ Ls Lz 8→LitS w3.heap.size W b4)∧(¬ Ls Lz 8→Fr w3 p W)∧(Ls Lz 8→¬ Ls Lz 10→(∃ (W5:World) (cs:List Value) (s:Tr 6),Fr w3 p W5∧StQ W5 (w3.heap.size≤·) 5 cs s∧szE s≤50000∧W.ownsRow B 66 5 (.slice A6 (nb+1) c6) (nb+1) (xs++cs)∧W5.grownBy W (Value.slice Ab nb cb).ownBlock∧((Value.slice A6 (nb+1) c6).ownBlock=(Value.slice Ab nb cb).ownBlock∨(Value.slice A6 (nb+1) c6).ownBlock=some W5.heap.size)∧W.heap[X]?=some (.cells #[.slice Aq nq cq,.slice Ab nb cb] 27 (0,0))))):=⟨_,rfl⟩
   have HJ0:=hD hJ0
   clear hJ0
   refine ya3 Zq8 J0 ?_ ?_ ?_
   ·intro A0
    rw[HJ0.out]
    exact ⟨0,⟨#[]⟩,0,0,none,0,A0.getD 57 undef,A0.getD 58 undef,A0.getD 59 undef,A0.getD 60 undef,A0.getD 61 undef,A0.getD 62 undef,A0.getD 63 undef,A0.getD 64 undef,A0.getD 65 undef,A0.getD 66 undef,by simp only[ybm],zn,zn,zn,zn,zn,zn,zn,zn,zn,zn,zn,zn,zn,zn,fun _=>frS.drew,zn⟩
   ·intro Lz a W hsize hcl hJ i hi
    have hil:=ybn hi
    have hnl:=ybi hi
    have hnow:=ybh hi hsize
    have HCL:=hD hcl
    rw[HJ0.out] at hJ
    obtain ⟨b1,y,b2,b4,A6,c6,x57,x58,x59,x60,x61,x62,x63,x64,x65,x66,rfl,HF⟩:=hJ
    have HH:=hD HF
    have hi2:i=0∨i=1∨i=2∨i=3∨i=4∨i=5∨i=6∨i=7∨i=8∨i=9∨i=10:=by simp at hil;omega
    clear hil hcl HF
    rcases hi2 with rfl|rfl|rfl|rfl|rfl|rfl|rfl|rfl|rfl|rfl|rfl
    ·clear hi HCL
     simp only[zA,zB,zC]
     refine yaa rfl rfl fun K hK=>?_
     go_wp2_with fail
     rw[HJ0.out]
     exact ⟨b1,y,b2,b4,A6,c6,.pointer (some ⟨X,1,none⟩),x58,x59,x60,x61,x62,x63,x64,x65,x66,(by simp only[zA,zB,zC]),zT HH⟩
    ·have hns:¬ Ls Lz 8:=fun h=>hnl (dq HCL h 1)
     have D0:=(pj0 HH.out) (rq hi 0)
     have V0:=(pj14 HH.out) hns
     have hnla:¬ Ls Lz 10:=fun h=>hns (HCL.out.dep2 h 8 Zq8)
     clear hi HCL
     simp only[zA,zB,zC,D0]
     have k0:=ybw V0 hSX hXp C1.out
     refine yaa rfl rfl fun K hK=>?_
     go_wp2_with fail
     rw[HJ0.out]
     exact ⟨b1,y,b2,b4,A6,c6,x57,.slice Ab nb cb,x59,x60,x61,x62,x63,x64,x65,x66,(by simp only[zA,zB,zC,D0]),zT HH⟩
    ·clear hi HCL
     simp only[zA,zB,zC]
     refine yaa rfl rfl fun K hK=>?_
     go_wp2_with fail
     rw[HJ0.out]
     exact ⟨b1,y,b2,b4,A6,c6,x57,x58,.pointer (some ⟨p,0,none⟩),x60,x61,x62,x63,x64,x65,x66,(by simp only[zA,zB,zC]),zT HH⟩
    ·have hns:¬ Ls Lz 8:=fun h=>hnl (dq HCL (dq HCL (dq HCL (dq HCL (dq HCL h 7) 6) 5) 4) 3)
     have V0:=(pj14 HH.out) hns
     have hnla:¬ Ls Lz 10:=fun h=>hns (HCL.out.dep2 h 8 Zq8)
     clear hi HCL
     simp only[zA,zB,zC]
     refine yaa rfl rfl fun K hK=>?_
     go_wp2_with fail
     rw[HJ0.out]
     exact ⟨W.heap.size,y,b2,b4,A6,c6,x57,x58,x59,.slice (some ⟨W.heap.size,0,none⟩) 4 4,x61,x62,x63,x64,x65,x66,(by simp only[zA,zB,zC]),zk HH,zk HH,zk HH,fun _=>rfl,zk HH,zk HH,zk HH,zk HH,zk HH,zk HH,Ba hnla,fun _ _=>ybg rfl rfl (show w3.heap.size≤W.heap.size from V0.gr.size) rfl,(Bt (pj12 HH.out) fun x=>yam x (Fr.alloc (Fr.start V0.cur) _) Zq6),(Bt (pj13 HH.out) fun x=>LitS.fr x (Fr.alloc (Fr.start V0.cur) _) Zq6),fun h=>Fr.call ((pj14 HH.out) (fun h2=>h h2.fwd)) (Fr.cur (Fr.alloc (Fr.start V0.cur) _)) (Fr.gr (Fr.alloc (Fr.start V0.cur) _)),Bb hns⟩
    ·have hns:¬ Ls Lz 8:=fun h=>hnl (dq HCL (dq HCL (dq HCL (dq HCL h 7) 6) 5) 4)
     have D2:=(pj2 HH.out) (rq hi 2)
     have D3:=(pj3 HH.out) (rq hi 3)
     have E3:=(pj11 HH.out) (rq hi 3) hns
     have V0:=(pj14 HH.out) hns
     have hk5:¬ Ls Lz 5:=fun h=>hnl (dq HCL h 4)
     have hk6:¬ Ls Lz 6:=fun h=>hnl (dq HCL (dq HCL h 5) 4)
     have hnla:¬ Ls Lz 10:=fun h=>hns (HCL.out.dep2 h 8 Zq8)
     clear hi HCL
     simp only[zA,zB,zC,D2,D3]
     refine yaa rfl rfl fun K hK=>?_
     go_wp2_with fail
     refine(ydc _ 4 4 [⟨#[97]⟩,⟨#[113]⟩,⟨#[114]⟩,⟨#[122,57]⟩] _ p V0.cur Zq11 Zq6 Zq6 E3.rd ?_).mono ?_
     ·intro e
      obtain ⟨_,_,e1,h1,_⟩:=E3.2 Zq6
      injection e1 with e1
      injection e1 with e1
      have h1:w3.heap.size≤_:=h1
      omega
     rintro e y1 ⟨y7,hy,rfl,hc,hg⟩
     have hy9:y7.size≤9:=fewL (L:=[⟨#[97]⟩,⟨#[113]⟩,⟨#[114]⟩,⟨#[122,57]⟩]) Zq9 y7 hy
     go_wp2_with fail
     rw[HJ0.out]
     exact ⟨b1,y7,b2,b4,A6,c6,x57,x58,x59,x60,.string y7,x62,x63,x64,x65,x66,(by simp only[zA,zB,zC,D2,D3]),zk HH,zk HH,zk HH,zk HH,fun _=>⟨rfl,hy9⟩,Ba hk5,Ba hk6,zk HH,zk HH,zk HH,Ba hnla,(Bt (pj11 HH.out) fun x=>yam x (Fr.mk hc hg) Zq6),Bb hk5,(Bt (pj13 HH.out) fun x=>LitS.fr x (Fr.mk hc hg) Zq6),fun h=>Fr.call ((pj14 HH.out) (fun h2=>h h2.fwd)) (Fr.cur (Fr.mk hc hg)) (Fr.gr (Fr.mk hc hg)),Bb hns⟩
    ·have hns:¬ Ls Lz 8:=fun h=>hnl (dq HCL (dq HCL (dq HCL h 7) 6) 5)
     have D4:=(pj4 HH.out) (rq hi 4)
     have V0:=(pj14 HH.out) hns
     have hk6:¬ Ls Lz 6:=fun h=>hnl (dq HCL h 5)
     have hnla:¬ Ls Lz 10:=fun h=>hns (HCL.out.dep2 h 8 Zq8)
     clear hi HCL
     obtain ⟨D4,X4⟩:=D4
     simp only[zA,zB,zC,D4]
     refine yaa rfl rfl fun K hK=>?_
     go_wp2_with fail
     rw[HJ0.out]
     exact ⟨b1,y,W.heap.size,b4,A6,c6,x57,x58,x59,x60,x61,.slice (some ⟨W.heap.size,0,none⟩) 2 2,x63,x64,x65,x66,(by simp only[zA,zB,zC,D4]),zk HH,zk HH,zk HH,zk HH,zk HH,fun _=>⟨rfl,X4⟩,Ba hk6,zk HH,zk HH,zk HH,Ba hnla,(Bt (pj11 HH.out) fun x=>yam x (Fr.alloc (Fr.start V0.cur) _) Zq6),fun _ _=>ybg rfl rfl (show w3.heap.size≤W.heap.size from V0.gr.size) rfl,(Bt (pj13 HH.out) fun x=>LitS.fr x (Fr.alloc (Fr.start V0.cur) _) Zq6),fun h=>Fr.call ((pj14 HH.out) (fun h2=>h h2.fwd)) (Fr.cur (Fr.alloc (Fr.start V0.cur) _)) (Fr.gr (Fr.alloc (Fr.start V0.cur) _)),Bb hns⟩
    ·have D5:=(pj5 HH.out) (rq hi 5)
     clear hi HCL
     obtain ⟨D5,X5⟩:=D5
     simp only[zA,zB,zC,D5]
     refine yaa rfl rfl fun K hK=>?_
     go_wp2_with fail
     rw[HJ0.out]
     exact ⟨b1,y,b2,b4,A6,c6,x57,x58,x59,x60,x61,x62,.agg #[.int .i64 1,.string ⟨#[99,120]⟩,.slice (some ⟨b2,0,none⟩) 2 2,.int .i64 0,.slice none 0 0],x64,x65,x66,(by simp only[zA,zB,zC,D5]),zk HH,zk HH,zk HH,zk HH,zk HH,zk HH,fun _=>⟨rfl,X5⟩,zk HH,zk HH,zk HH,zk HH,zw HH,zw HH,zw HH,zi HH,zw HH⟩
    ·have hns:¬ Ls Lz 8:=fun h=>hnl (dq HCL h 7)
     have D6:=(pj6 HH.out) (rq hi 6)
     have E5:=(pj12 HH.out) (dq HCL (rq hi 6) 5) hns
     have V0:=(pj14 HH.out) hns
     have hnla:¬ Ls Lz 10:=fun h=>hns (HCL.out.dep2 h 8 Zq8)
     clear hi HCL
     obtain ⟨D6,X6⟩:=D6
     simp only[zA,zB,zC,D6]
     refine yaa rfl rfl fun K hK=>?_
     go_wp2_with fail
     rw[HJ0.out]
     exact ⟨b1,y,b2,W.heap.size,A6,c6,x57,x58,x59,x60,x61,x62,x63,.slice (some ⟨W.heap.size,0,none⟩) 1 1,x65,x66,(by simp only[zA,zB,zC,D6]),zk HH,zk HH,zk HH,zk HH,zk HH,zk HH,zk HH,fun _=>rfl,zk HH,zk HH,Ba hnla,(Bt (pj11 HH.out) fun x=>yam x (Fr.alloc (Fr.start V0.cur) _) Zq6),(Bt (pj12 HH.out) fun x=>yam x (Fr.alloc (Fr.start V0.cur) _) Zq6),fun _ _=>⟨_,_,ybg rfl rfl (show w3.heap.size≤W.heap.size from V0.gr.size) rfl,yb3 (d:=5) (h:=⟨1,⟨#[99,120]⟩,[⟨#[97]⟩,y],0⟩) (Aa:=some ⟨b2,0,none⟩) (ca:=2) (Ab:=none) (cb:=0) (yam E5 (Fr.alloc (Fr.start V0.cur) _) Zq6) (yc5 5) (Nat.le_refl _),by rw[yb5,ydd];show 2+(2+(1+(y.size+0))+0)≤_;omega⟩,fun h=>Fr.call ((pj14 HH.out) (fun h2=>h h2.fwd)) (Fr.cur (Fr.alloc (Fr.start V0.cur) _)) (Fr.gr (Fr.alloc (Fr.start V0.cur) _)),Bb hns⟩
    ·have hns:¬ Ls Lz 8:=hnl
     have D1:=(pj1 HH.out) (rq hi 1)
     have D7:=(pj7 HH.out) (rq hi 7)
     have E7:=(pj13 HH.out) (rq hi 7) hns
     have V0:=(pj14 HH.out) hns
     have hnla:¬ Ls Lz 10:=fun h=>hns (HCL.out.dep2 h 8 Zq8)
     clear hi HCL
     simp only[zA,zB,zC,D1,D7]
     have SW:=hD (S3.out.call hp V0)
     obtain ⟨cs,s,hlr,hls,hlz⟩:=E7
     refine yaa rfl rfl fun K hK=>?_
     simp only[List.getElem_toArray,List.getElem_cons_succ,List.getElem_cons_zero]
     refine yae _ rfl _ _ 25 rfl B 66 i0 _ 5 80 Tryz.underlying25 hi hz0 hz1 hz2 rfl Zq9 _ _ _ rfl SW.out.bo _ 1 1 _ rfl hlr.rd hls.ones ?c3 ?c4 ?c5 ?_
     case c3=>simp only[maxLen];omega
     case c4=>omega
     case c5=>have:=V0.gr.size;omega
     intro v6 W6 own6 gr6 hat
     obtain ⟨A7,c7,rfl,_,_,_⟩:=yah own6
     go_wp2_with fail
     rw[HJ0.out]
     exact ⟨b1,y,b2,b4,A7,c7,x57,x58,x59,x60,x61,x62,x63,x64,.slice A7 (nb+1) c7,x66,(by first|(simp only[zA,zB,zC,D1,D7] <;> fail)|simp only[Act.put,zA,zB,zC,D1,D7]),zk HH,zk HH,zk HH,zk HH,zk HH,zk HH,zk HH,zk HH,fun _=>rfl,zk HH,Ba hnla,zx hnow,zx hnow,zx hnow,zy hnow,fun _ _=>⟨W,cs,s,V0,hls,hlz,own6,gr6,hat,(gr6.block X (lt_of_block SW.out.x) (fun e=>by have:=S3.out.bx X e.symm;omega)).trans SW.out.x⟩⟩
    ·clear hi HCL
     simp only[zA,zB,zC]
     refine yaa rfl rfl fun K hK=>?_
     go_wp2_with fail
     rw[HJ0.out]
     exact ⟨b1,y,b2,b4,A6,c6,x57,x58,x59,x60,x61,x62,x63,x64,x65,.pointer (some ⟨X,1,none⟩),(by simp only[zA,zB,zC]),zT HH⟩
    ·have D8:=(pj8 HH.out) (rq hi 8)
     have D9:=(pj9 HH.out) (rq hi 9)
     have HST:=rq hi 8
     have VL:=(pe15 HH.out) HST hnl
     clear hi HCL
     simp only[zA,zB,zC,D8,D9]
     obtain ⟨W5,cs,s,l1,l2,l3,l4,l5,l6,l7⟩:=VL
     have px6:=yaj (j:=1) l7 rfl
     have fx6:=yab (j:=1) l7
     have lx6:=lt_of_block l7
     have PEH:=hD (S3.out.putb hp l1 l2 l4 l5 l6 l7 l3)
     clear l1 l2 l3 l4 l5 l6 l7
     refine yaa rfl rfl fun K hK=>?_
     go_wp2_with fail
     rw[HJ0.out]
     exact ⟨b1,y,b2,b4,A6,c6,x57,x58,x59,x60,x61,x62,x63,x64,x65,x66,(by simp only[zA,zB,zC,D8,D9]),zk HH,zk HH,zk HH,zk HH,zk HH,zk HH,zk HH,zk HH,zk HH,zk HH,fun _=>PEH.out,zx (Ls.fwd HST),zx (Ls.fwd HST),zx (Ls.fwd HST),zy (Ls.fwd HST),zx hnow⟩
   ·intro Lz a W hsize hJ hr
    rw[HJ0.out] at hJ
    have hall:=ybj hsize Zq8 hr
    obtain ⟨b1,y,b2,b4,A6,c6,x57,x58,x59,x60,x61,x62,x63,x64,x65,x66,rfl,HF⟩:=hJ
    have HH:=hD HF
    have HEND:=(pj10 HH.out) (hall 10 Zq9)
    clear HF HH hall hr hsize
    simp only[zA,zB,zC]
    go_wp2_with fail
    go_meet
    exact HEND
  have g4:(x==4)=false:=by simp [e4]
  by_cases e2:x=2
  ·subst e2
   go_upto_region 8 with (fail)
   obtain ⟨J0,hJ0⟩:∃ J:Array Value→Array Bool→Act→World→Prop,J=(fun A0 Lz a W=>∃ (q1:Int) (b1:Nat) (y:ByteArray) (b2:Nat) (q3:Int) (b4:Nat) (A6:Option Addr) (c6:Nat),∃ x26 x27 x28 x29 x30 x31 x32 x33 x34 x35 x36 x37 x38 x39 x40:Value,a=⟨(((((((((((((((A0.setIfInBounds 26 x26).setIfInBounds 27 x27).setIfInBounds 28 x28).setIfInBounds 29 x29).setIfInBounds 30 x30).setIfInBounds 31 x31).setIfInBounds 32 x32).setIfInBounds 33 x33).setIfInBounds 34 x34).setIfInBounds 35 x35).setIfInBounds 36 x36).setIfInBounds 37 x37).setIfInBounds 38 x38).setIfInBounds 39 x39).setIfInBounds 40 x40),[]⟩∧(Ls Lz 0→x26=.pointer (some ⟨X,1,none⟩))∧(Ls Lz 1→x27=.slice Ab nb cb)∧(Ls Lz 2→x28=.pointer (some ⟨p,0,none⟩))∧(Ls Lz 3→x29=.int .i64 q1∧(0≤q1∧q1≤9))∧(Ls Lz 4→x30=.int .i64 (q1 - 1))∧(Ls Lz 5→x31=.pointer (some ⟨p,0,none⟩))∧(Ls Lz 6→x32=.slice (some ⟨b1,0,none⟩) 3 3)∧(Ls Lz 7→x33=.string y∧y.size≤9)∧(Ls Lz 8→x34=.slice (some ⟨b2,0,none⟩) 1 1)∧(Ls Lz 9→x35=.pointer (some ⟨p,0,none⟩))∧(Ls Lz 10→x36=.int .i64 q3∧(0≤q3∧q3≤2))∧(Ls Lz 11→x37=.agg #[.int .i64 (q1 - 1),.string y,.slice (some ⟨b2,0,none⟩) 1 1,.int .i64 q3,.slice none 0 0]∧y.size≤9)∧(Ls Lz 12→x38=.slice (some ⟨b4,0,none⟩) 1 1)∧(Ls Lz 13→x39=.slice A6 (nb+1) c6)∧(Ls Lz 14→x40=.pointer (some ⟨X,1,none⟩))∧(Ls Lz 15→PE w p X W)∧(Ls Lz 6→¬ Ls Lz 13→RdQ W (fun b=>w3.heap.size≤b) 1 (some ⟨b1,0,none⟩) 3 (strs [⟨#[]⟩,⟨#[104]⟩,⟨#[104,109]⟩]))∧(Ls Lz 8→¬ Ls Lz 13→RdQ W (fun b=>w3.heap.size≤b) 1 (some ⟨b2,0,none⟩) 1 (strs [⟨#[97]⟩]))∧(Ls Lz 12→¬ Ls Lz 13→LitS w3.heap.size W b4)∧(¬ Ls Lz 13→Fr w3 p W)∧(Ls Lz 13→¬ Ls Lz 15→(∃ (W5:World) (cs:List Value) (s:Tr 6),Fr w3 p W5∧StQ W5 (w3.heap.size≤·) 5 cs s∧szE s≤50000∧W.ownsRow B 66 5 (.slice A6 (nb+1) c6) (nb+1) (xs++cs)∧W5.grownBy W (Value.slice Ab nb cb).ownBlock∧((Value.slice A6 (nb+1) c6).ownBlock=(Value.slice Ab nb cb).ownBlock∨(Value.slice A6 (nb+1) c6).ownBlock=some W5.heap.size)∧W.heap[X]?=some (.cells #[.slice Aq nq cq,.slice Ab nb cb] 27 (0,0))))):=⟨_,rfl⟩
   have HJ0:=hD hJ0
   clear hJ0
   refine ya3 Zq8 J0 ?_ ?_ ?_
   ·intro A0
    rw[HJ0.out]
    exact ⟨0,0,⟨#[]⟩,0,0,0,none,0,A0.getD 26 undef,A0.getD 27 undef,A0.getD 28 undef,A0.getD 29 undef,A0.getD 30 undef,A0.getD 31 undef,A0.getD 32 undef,A0.getD 33 undef,A0.getD 34 undef,A0.getD 35 undef,A0.getD 36 undef,A0.getD 37 undef,A0.getD 38 undef,A0.getD 39 undef,A0.getD 40 undef,by simp only[ybm],zn,zn,zn,zn,zn,zn,zn,zn,zn,zn,zn,zn,zn,zn,zn,zn,zn,zn,zn,fun _=>frS.drew,zn⟩
   ·intro Lz a W hsize hcl hJ i hi
    have hil:=ybn hi
    have hnl:=ybi hi
    have hnow:=ybh hi hsize
    have HCL:=hD hcl
    rw[HJ0.out] at hJ
    obtain ⟨q1,b1,y,b2,q3,b4,A6,c6,x26,x27,x28,x29,x30,x31,x32,x33,x34,x35,x36,x37,x38,x39,x40,rfl,HF⟩:=hJ
    have HH:=hD HF
    have hi2:i=0∨i=1∨i=2∨i=3∨i=4∨i=5∨i=6∨i=7∨i=8∨i=9∨i=10∨i=11∨i=12∨i=13∨i=14∨i=15:=by simp at hil;omega
    clear hil hcl HF
    rcases hi2 with rfl|rfl|rfl|rfl|rfl|rfl|rfl|rfl|rfl|rfl|rfl|rfl|rfl|rfl|rfl|rfl
    ·clear hi HCL
     simp only[zA,zB,zC]
     refine yaa rfl rfl fun K hK=>?_
     go_wp2_with fail
     rw[HJ0.out]
     exact ⟨q1,b1,y,b2,q3,b4,A6,c6,.pointer (some ⟨X,1,none⟩),x27,x28,x29,x30,x31,x32,x33,x34,x35,x36,x37,x38,x39,x40,(by simp only[zA,zB,zC]),zT HH⟩
    ·have hns:¬ Ls Lz 13:=fun h=>hnl (dq HCL h 1)
     have D0:=(pj0 HH.out) (rq hi 0)
     have V0:=(pj19 HH.out) hns
     have hnla:¬ Ls Lz 15:=fun h=>hns (HCL.out.dep2 h 13 Zq8)
     clear hi HCL
     simp only[zA,zB,zC,D0]
     have k0:=ybw V0 hSX hXp C1.out
     refine yaa rfl rfl fun K hK=>?_
     go_wp2_with fail
     rw[HJ0.out]
     exact ⟨q1,b1,y,b2,q3,b4,A6,c6,x26,.slice Ab nb cb,x28,x29,x30,x31,x32,x33,x34,x35,x36,x37,x38,x39,x40,(by simp only[zA,zB,zC,D0]),zT HH⟩
    ·clear hi HCL
     simp only[zA,zB,zC]
     refine yaa rfl rfl fun K hK=>?_
     go_wp2_with fail
     rw[HJ0.out]
     exact ⟨q1,b1,y,b2,q3,b4,A6,c6,x26,x27,.pointer (some ⟨p,0,none⟩),x29,x30,x31,x32,x33,x34,x35,x36,x37,x38,x39,x40,(by simp only[zA,zB,zC]),zT HH⟩
    ·have hns:¬ Ls Lz 13:=fun h=>hnl (dq HCL (dq HCL (dq HCL (dq HCL h 12) 11) 4) 3)
     have D2:=(pj2 HH.out) (rq hi 2)
     have V0:=(pj19 HH.out) hns
     have hk4:¬ Ls Lz 4:=fun h=>hnl (dq HCL h 3)
     have hk11:¬ Ls Lz 11:=fun h=>hnl (dq HCL (dq HCL h 4) 3)
     have hnla:¬ Ls Lz 15:=fun h=>hns (HCL.out.dep2 h 13 Zq8)
     clear hi HCL
     simp only[zA,zB,zC,D2]
     refine yaa rfl rfl fun K hK=>?_
     go_wp2_with fail
     refine(ybu 10 9 _ p V0.cur Zq6 Zq6 Zq6).mono ?_
     rintro e y1 ⟨q7,hq0,hq1,rfl,hc,hg⟩
     go_wp2_with fail
     rw[HJ0.out]
     exact ⟨q7,b1,y,b2,q3,b4,A6,c6,x26,x27,x28,.int .i64 q7,x30,x31,x32,x33,x34,x35,x36,x37,x38,x39,x40,(by simp only[zA,zB,zC,D2]),zk HH,zk HH,zk HH,fun _=>⟨rfl,hq0,hq1⟩,Ba hk4,zk HH,zk HH,zk HH,zk HH,zk HH,zk HH,Ba hk11,zk HH,zk HH,zk HH,Ba hnla,(Bt (pj16 HH.out) fun x=>yam x (Fr.mk hc hg) Zq6),(Bt (pj17 HH.out) fun x=>yam x (Fr.mk hc hg) Zq6),(Bt (pj18 HH.out) fun x=>LitS.fr x (Fr.mk hc hg) Zq6),fun h=>Fr.call ((pj19 HH.out) (fun h2=>h h2.fwd)) (Fr.cur (Fr.mk hc hg)) (Fr.gr (Fr.mk hc hg)),Bb hns⟩
    ·have D3:=(pj3 HH.out) (rq hi 3)
     clear hi HCL
     obtain ⟨D3,X3⟩:=D3
     simp only[zA,zB,zC,D3]
     have hwr:IntKind.i64.wrap (q1 - 1)=q1 - 1:=IntWalk.i64_in _ Zq6
     refine yaa rfl rfl fun K hK=>?_
     go_wp2_with fail
     rw[HJ0.out]
     exact ⟨q1,b1,y,b2,q3,b4,A6,c6,x26,x27,x28,x29,.int .i64 (q1 - 1),x31,x32,x33,x34,x35,x36,x37,x38,x39,x40,(by simp only[zA,zB,zC,D3]),zT HH⟩
    ·clear hi HCL
     simp only[zA,zB,zC]
     refine yaa rfl rfl fun K hK=>?_
     go_wp2_with fail
     rw[HJ0.out]
     exact ⟨q1,b1,y,b2,q3,b4,A6,c6,x26,x27,x28,x29,x30,.pointer (some ⟨p,0,none⟩),x32,x33,x34,x35,x36,x37,x38,x39,x40,(by simp only[zA,zB,zC]),zT HH⟩
    ·have hns:¬ Ls Lz 13:=fun h=>hnl (dq HCL (dq HCL (dq HCL (dq HCL h 12) 11) 7) 6)
     have V0:=(pj19 HH.out) hns
     have hnla:¬ Ls Lz 15:=fun h=>hns (HCL.out.dep2 h 13 Zq8)
     clear hi HCL
     simp only[zA,zB,zC]
     refine yaa rfl rfl fun K hK=>?_
     go_wp2_with fail
     rw[HJ0.out]
     exact ⟨q1,W.heap.size,y,b2,q3,b4,A6,c6,x26,x27,x28,x29,x30,x31,.slice (some ⟨W.heap.size,0,none⟩) 3 3,x33,x34,x35,x36,x37,x38,x39,x40,(by simp only[zA,zB,zC]),zk HH,zk HH,zk HH,zk HH,zk HH,zk HH,fun _=>rfl,zk HH,zk HH,zk HH,zk HH,zk HH,zk HH,zk HH,zk HH,Ba hnla,fun _ _=>ybg rfl rfl (show w3.heap.size≤W.heap.size from V0.gr.size) rfl,(Bt (pj17 HH.out) fun x=>yam x (Fr.alloc (Fr.start V0.cur) _) Zq6),(Bt (pj18 HH.out) fun x=>LitS.fr x (Fr.alloc (Fr.start V0.cur) _) Zq6),fun h=>Fr.call ((pj19 HH.out) (fun h2=>h h2.fwd)) (Fr.cur (Fr.alloc (Fr.start V0.cur) _)) (Fr.gr (Fr.alloc (Fr.start V0.cur) _)),Bb hns⟩
    ·have hns:¬ Ls Lz 13:=fun h=>hnl (dq HCL (dq HCL (dq HCL h 12) 11) 7)
     have D5:=(pj5 HH.out) (rq hi 5)
     have D6:=(pj6 HH.out) (rq hi 6)
     have E6:=(pj16 HH.out) (rq hi 6) hns
     have V0:=(pj19 HH.out) hns
     have hk11:¬ Ls Lz 11:=fun h=>hnl (dq HCL h 7)
     have hnla:¬ Ls Lz 15:=fun h=>hns (HCL.out.dep2 h 13 Zq8)
     clear hi HCL
     simp only[zA,zB,zC,D5,D6]
     refine yaa rfl rfl fun K hK=>?_
     go_wp2_with fail
     refine(ydc _ 3 3 [⟨#[]⟩,⟨#[104]⟩,⟨#[104,109]⟩] _ p V0.cur Zq11 Zq6 Zq6 E6.rd ?_).mono ?_
     ·intro e
      obtain ⟨_,_,e1,h1,_⟩:=E6.2 Zq6
      injection e1 with e1
      injection e1 with e1
      have h1:w3.heap.size≤_:=h1
      omega
     rintro e y1 ⟨y7,hy,rfl,hc,hg⟩
     have hy9:y7.size≤9:=fewL (L:=[⟨#[]⟩,⟨#[104]⟩,⟨#[104,109]⟩]) Zq9 y7 hy
     go_wp2_with fail
     rw[HJ0.out]
     exact ⟨q1,b1,y7,b2,q3,b4,A6,c6,x26,x27,x28,x29,x30,x31,x32,.string y7,x34,x35,x36,x37,x38,x39,x40,(by simp only[zA,zB,zC,D5,D6]),zk HH,zk HH,zk HH,zk HH,zk HH,zk HH,zk HH,fun _=>⟨rfl,hy9⟩,zk HH,zk HH,zk HH,Ba hk11,zk HH,zk HH,zk HH,Ba hnla,(Bt (pj16 HH.out) fun x=>yam x (Fr.mk hc hg) Zq6),(Bt (pj17 HH.out) fun x=>yam x (Fr.mk hc hg) Zq6),(Bt (pj18 HH.out) fun x=>LitS.fr x (Fr.mk hc hg) Zq6),fun h=>Fr.call ((pj19 HH.out) (fun h2=>h h2.fwd)) (Fr.cur (Fr.mk hc hg)) (Fr.gr (Fr.mk hc hg)),Bb hns⟩
    ·have hns:¬ Ls Lz 13:=fun h=>hnl (dq HCL (dq HCL (dq HCL h 12) 11) 8)
     have V0:=(pj19 HH.out) hns
     have hk11:¬ Ls Lz 11:=fun h=>hnl (dq HCL h 8)
     have hnla:¬ Ls Lz 15:=fun h=>hns (HCL.out.dep2 h 13 Zq8)
     clear hi HCL
     simp only[zA,zB,zC]
     refine yaa rfl rfl fun K hK=>?_
     go_wp2_with fail
     rw[HJ0.out]
     exact ⟨q1,b1,y,W.heap.size,q3,b4,A6,c6,x26,x27,x28,x29,x30,x31,x32,x33,.slice (some ⟨W.heap.size,0,none⟩) 1 1,x35,x36,x37,x38,x39,x40,(by simp only[zA,zB,zC]),zk HH,zk HH,zk HH,zk HH,zk HH,zk HH,zk HH,zk HH,fun _=>rfl,zk HH,zk HH,Ba hk11,zk HH,zk HH,zk HH,Ba hnla,(Bt (pj16 HH.out) fun x=>yam x (Fr.alloc (Fr.start V0.cur) _) Zq6),fun _ _=>ybg rfl rfl (show w3.heap.size≤W.heap.size from V0.gr.size) rfl,(Bt (pj18 HH.out) fun x=>LitS.fr x (Fr.alloc (Fr.start V0.cur) _) Zq6),fun h=>Fr.call ((pj19 HH.out) (fun h2=>h h2.fwd)) (Fr.cur (Fr.alloc (Fr.start V0.cur) _)) (Fr.gr (Fr.alloc (Fr.start V0.cur) _)),Bb hns⟩
    ·clear hi HCL
     simp only[zA,zB,zC]
     refine yaa rfl rfl fun K hK=>?_
     go_wp2_with fail
     rw[HJ0.out]
     exact ⟨q1,b1,y,b2,q3,b4,A6,c6,x26,x27,x28,x29,x30,x31,x32,x33,x34,.pointer (some ⟨p,0,none⟩),x36,x37,x38,x39,x40,(by simp only[zA,zB,zC]),zT HH⟩
    ·have hns:¬ Ls Lz 13:=fun h=>hnl (dq HCL (dq HCL (dq HCL h 12) 11) 10)
     have D9:=(pj9 HH.out) (rq hi 9)
     have V0:=(pj19 HH.out) hns
     have hk11:¬ Ls Lz 11:=fun h=>hnl (dq HCL h 10)
     have hnla:¬ Ls Lz 15:=fun h=>hns (HCL.out.dep2 h 13 Zq8)
     clear hi HCL
     simp only[zA,zB,zC,D9]
     refine yaa rfl rfl fun K hK=>?_
     go_wp2_with fail
     refine(ybu 3 2 _ p V0.cur Zq6 Zq6 Zq6).mono ?_
     rintro e y1 ⟨q7,hq0,hq1,rfl,hc,hg⟩
     go_wp2_with fail
     rw[HJ0.out]
     exact ⟨q1,b1,y,b2,q7,b4,A6,c6,x26,x27,x28,x29,x30,x31,x32,x33,x34,x35,.int .i64 q7,x37,x38,x39,x40,(by simp only[zA,zB,zC,D9]),zk HH,zk HH,zk HH,zk HH,zk HH,zk HH,zk HH,zk HH,zk HH,zk HH,fun _=>⟨rfl,hq0,hq1⟩,Ba hk11,zk HH,zk HH,zk HH,Ba hnla,(Bt (pj16 HH.out) fun x=>yam x (Fr.mk hc hg) Zq6),(Bt (pj17 HH.out) fun x=>yam x (Fr.mk hc hg) Zq6),(Bt (pj18 HH.out) fun x=>LitS.fr x (Fr.mk hc hg) Zq6),fun h=>Fr.call ((pj19 HH.out) (fun h2=>h h2.fwd)) (Fr.cur (Fr.mk hc hg)) (Fr.gr (Fr.mk hc hg)),Bb hns⟩
    ·have D4:=(pj4 HH.out) (rq hi 4)
     have D7:=(pj7 HH.out) (rq hi 7)
     have D8:=(pj8 HH.out) (rq hi 8)
     have D10:=(pj10 HH.out) (rq hi 10)
     clear hi HCL
     obtain ⟨D7,X7⟩:=D7
     obtain ⟨D10,X10⟩:=D10
     simp only[zA,zB,zC,D4,D7,D8,D10]
     refine yaa rfl rfl fun K hK=>?_
     go_wp2_with fail
     rw[HJ0.out]
     exact ⟨q1,b1,y,b2,q3,b4,A6,c6,x26,x27,x28,x29,x30,x31,x32,x33,x34,x35,x36,.agg #[.int .i64 (q1 - 1),.string y,.slice (some ⟨b2,0,none⟩) 1 1,.int .i64 q3,.slice none 0 0],x38,x39,x40,(by simp only[zA,zB,zC,D4,D7,D8,D10]),zk HH,zk HH,zk HH,zk HH,zk HH,zk HH,zk HH,zk HH,zk HH,zk HH,zk HH,fun _=>⟨rfl,X7⟩,zk HH,zk HH,zk HH,zk HH,zw HH,zw HH,zw HH,zi HH,zw HH⟩
    ·have hns:¬ Ls Lz 13:=fun h=>hnl (dq HCL h 12)
     have D11:=(pj11 HH.out) (rq hi 11)
     have E8:=(pj17 HH.out) (dq HCL (rq hi 11) 8) hns
     have V0:=(pj19 HH.out) hns
     have hnla:¬ Ls Lz 15:=fun h=>hns (HCL.out.dep2 h 13 Zq8)
     clear hi HCL
     obtain ⟨D11,X11⟩:=D11
     simp only[zA,zB,zC,D11]
     refine yaa rfl rfl fun K hK=>?_
     go_wp2_with fail
     rw[HJ0.out]
     exact ⟨q1,b1,y,b2,q3,W.heap.size,A6,c6,x26,x27,x28,x29,x30,x31,x32,x33,x34,x35,x36,x37,.slice (some ⟨W.heap.size,0,none⟩) 1 1,x39,x40,(by simp only[zA,zB,zC,D11]),zk HH,zk HH,zk HH,zk HH,zk HH,zk HH,zk HH,zk HH,zk HH,zk HH,zk HH,zk HH,fun _=>rfl,zk HH,zk HH,Ba hnla,(Bt (pj16 HH.out) fun x=>yam x (Fr.alloc (Fr.start V0.cur) _) Zq6),(Bt (pj17 HH.out) fun x=>yam x (Fr.alloc (Fr.start V0.cur) _) Zq6),fun _ _=>⟨_,_,ybg rfl rfl (show w3.heap.size≤W.heap.size from V0.gr.size) rfl,yb3 (d:=5) (h:=⟨q1 - 1,y,[⟨#[97]⟩],q3⟩) (Aa:=some ⟨b2,0,none⟩) (ca:=1) (Ab:=none) (cb:=0) (yam E8 (Fr.alloc (Fr.start V0.cur) _) Zq6) (yc5 5) (Nat.le_refl _),by rw[yb5,ydd];show y.size+(1+(1+0)+0)≤_;omega⟩,fun h=>Fr.call ((pj19 HH.out) (fun h2=>h h2.fwd)) (Fr.cur (Fr.alloc (Fr.start V0.cur) _)) (Fr.gr (Fr.alloc (Fr.start V0.cur) _)),Bb hns⟩
    ·have hns:¬ Ls Lz 13:=hnl
     have D1:=(pj1 HH.out) (rq hi 1)
     have D12:=(pj12 HH.out) (rq hi 12)
     have E12:=(pj18 HH.out) (rq hi 12) hns
     have V0:=(pj19 HH.out) hns
     have hnla:¬ Ls Lz 15:=fun h=>hns (HCL.out.dep2 h 13 Zq8)
     clear hi HCL
     simp only[zA,zB,zC,D1,D12]
     have SW:=hD (S3.out.call hp V0)
     obtain ⟨cs,s,hlr,hls,hlz⟩:=E12
     refine yaa rfl rfl fun K hK=>?_
     simp only[List.getElem_toArray,List.getElem_cons_succ,List.getElem_cons_zero]
     refine yae _ rfl _ _ 25 rfl B 66 i0 _ 5 80 Tryz.underlying25 hi hz0 hz1 hz2 rfl Zq9 _ _ _ rfl SW.out.bo _ 1 1 _ rfl hlr.rd hls.ones ?c3 ?c4 ?c5 ?_
     case c3=>simp only[maxLen];omega
     case c4=>omega
     case c5=>have:=V0.gr.size;omega
     intro v6 W6 own6 gr6 hat
     obtain ⟨A7,c7,rfl,_,_,_⟩:=yah own6
     go_wp2_with fail
     rw[HJ0.out]
     exact ⟨q1,b1,y,b2,q3,b4,A7,c7,x26,x27,x28,x29,x30,x31,x32,x33,x34,x35,x36,x37,x38,.slice A7 (nb+1) c7,x40,(by first|(simp only[zA,zB,zC,D1,D12] <;> fail)|simp only[Act.put,zA,zB,zC,D1,D12]),zk HH,zk HH,zk HH,zk HH,zk HH,zk HH,zk HH,zk HH,zk HH,zk HH,zk HH,zk HH,zk HH,fun _=>rfl,zk HH,Ba hnla,zx hnow,zx hnow,zx hnow,zy hnow,fun _ _=>⟨W,cs,s,V0,hls,hlz,own6,gr6,hat,(gr6.block X (lt_of_block SW.out.x) (fun e=>by have:=S3.out.bx X e.symm;omega)).trans SW.out.x⟩⟩
    ·clear hi HCL
     simp only[zA,zB,zC]
     refine yaa rfl rfl fun K hK=>?_
     go_wp2_with fail
     rw[HJ0.out]
     exact ⟨q1,b1,y,b2,q3,b4,A6,c6,x26,x27,x28,x29,x30,x31,x32,x33,x34,x35,x36,x37,x38,x39,.pointer (some ⟨X,1,none⟩),(by simp only[zA,zB,zC]),zT HH⟩
    ·have D13:=(pj13 HH.out) (rq hi 13)
     have D14:=(pj14 HH.out) (rq hi 14)
     have HST:=rq hi 13
     have VL:=(pe20 HH.out) HST hnl
     clear hi HCL
     simp only[zA,zB,zC,D13,D14]
     obtain ⟨W5,cs,s,l1,l2,l3,l4,l5,l6,l7⟩:=VL
     have px6:=yaj (j:=1) l7 rfl
     have fx6:=yab (j:=1) l7
     have lx6:=lt_of_block l7
     have PEH:=hD (S3.out.putb hp l1 l2 l4 l5 l6 l7 l3)
     clear l1 l2 l3 l4 l5 l6 l7
     refine yaa rfl rfl fun K hK=>?_
     go_wp2_with fail
     rw[HJ0.out]
     exact ⟨q1,b1,y,b2,q3,b4,A6,c6,x26,x27,x28,x29,x30,x31,x32,x33,x34,x35,x36,x37,x38,x39,x40,(by simp only[zA,zB,zC,D13,D14]),zk HH,zk HH,zk HH,zk HH,zk HH,zk HH,zk HH,zk HH,zk HH,zk HH,zk HH,zk HH,zk HH,zk HH,zk HH,fun _=>PEH.out,zx (Ls.fwd HST),zx (Ls.fwd HST),zx (Ls.fwd HST),zy (Ls.fwd HST),zx hnow⟩
   ·intro Lz a W hsize hJ hr
    rw[HJ0.out] at hJ
    have hall:=ybj hsize Zq8 hr
    obtain ⟨q1,b1,y,b2,q3,b4,A6,c6,x26,x27,x28,x29,x30,x31,x32,x33,x34,x35,x36,x37,x38,x39,x40,rfl,HF⟩:=hJ
    have HH:=hD HF
    have HEND:=(pj15 HH.out) (hall 15 Zq9)
    clear HF HH hall hr hsize
    simp only[zA,zB,zC]
    go_wp2_with fail
    go_meet
    exact HEND
  have g2:(x==2)=false:=by simp [e2]
  by_cases e3:x=3
  ·subst e3
   go_upto_region 10 with (fail)
   obtain ⟨J0,hJ0⟩:∃ J:Array Value→Array Bool→Act→World→Prop,J=(fun A0 Lz a W=>∃ (b1:Nat) (k:Int) (A5:Option Addr) (c5:Nat) (b4:Nat) (A6:Option Addr) (c6:Nat),∃ x43 x44 x45 x46 x47 x48 x49 x50 x51 x52 x53 x54:Value,a=⟨((((((((((((A0.setIfInBounds 43 x43).setIfInBounds 44 x44).setIfInBounds 45 x45).setIfInBounds 46 x46).setIfInBounds 47 x47).setIfInBounds 48 x48).setIfInBounds 49 x49).setIfInBounds 50 x50).setIfInBounds 51 x51).setIfInBounds 52 x52).setIfInBounds 53 x53).setIfInBounds 54 x54),[]⟩∧(Ls Lz 0→x43=.pointer (some ⟨X,1,none⟩))∧(Ls Lz 1→x44=.slice Ab nb cb)∧(Ls Lz 2→x45=.pointer (some ⟨p,0,none⟩))∧(Ls Lz 3→x46=.slice (some ⟨b1,0,none⟩) 4 4)∧(Ls Lz 4→x47=.int .i64 k)∧(Ls Lz 5→x48=.pointer (some ⟨X,1,none⟩))∧(Ls Lz 6→x49=.slice Ab nb cb)∧(Ls Lz 7→x50=.slice A5 nb c5)∧(Ls Lz 8→x51=.agg #[.int .i64 2,.string ⟨#[]⟩,.slice none 0 0,.int .i64 k,.slice A5 nb c5])∧(Ls Lz 9→x52=.slice (some ⟨b4,0,none⟩) 1 1)∧(Ls Lz 10→x53=.slice A6 (nb+1) c6)∧(Ls Lz 11→x54=.pointer (some ⟨X,1,none⟩))∧(Ls Lz 12→PE w p X W)∧(Ls Lz 3→¬ Ls Lz 10→RdQ W (fun b=>w3.heap.size≤b) 1 (some ⟨b1,0,none⟩) 4 (([0,9,10,-1]:List Int).map (Value.int .i64)))∧(Ls Lz 7→¬ Ls Lz 10→TrQ W (fun b=>w3.heap.size≤b) 3 A5 nb l)∧(Ls Lz 9→¬ Ls Lz 10→LitS w3.heap.size W b4)∧(¬ Ls Lz 10→Fr w3 p W)∧(Ls Lz 10→¬ Ls Lz 12→(∃ (W5:World) (cs:List Value) (s:Tr 6),Fr w3 p W5∧StQ W5 (w3.heap.size≤·) 5 cs s∧szE s≤50000∧W.ownsRow B 66 5 (.slice A6 (nb+1) c6) (nb+1) (xs++cs)∧W5.grownBy W (Value.slice Ab nb cb).ownBlock∧((Value.slice A6 (nb+1) c6).ownBlock=(Value.slice Ab nb cb).ownBlock∨(Value.slice A6 (nb+1) c6).ownBlock=some W5.heap.size)∧W.heap[X]?=some (.cells #[.slice Aq nq cq,.slice Ab nb cb] 27 (0,0))))):=⟨_,rfl⟩
   have HJ0:=hD hJ0
   clear hJ0
   refine ya3 Zq8 J0 ?_ ?_ ?_
   ·intro A0
    rw[HJ0.out]
    exact ⟨0,0,none,0,0,none,0,A0.getD 43 undef,A0.getD 44 undef,A0.getD 45 undef,A0.getD 46 undef,A0.getD 47 undef,A0.getD 48 undef,A0.getD 49 undef,A0.getD 50 undef,A0.getD 51 undef,A0.getD 52 undef,A0.getD 53 undef,A0.getD 54 undef,by simp only[ybm],zn,zn,zn,zn,zn,zn,zn,zn,zn,zn,zn,zn,zn,zn,zn,zn,fun _=>frS.drew,zn⟩
   ·intro Lz a W hsize hcl hJ i hi
    have hil:=ybn hi
    have hnl:=ybi hi
    have hnow:=ybh hi hsize
    have HCL:=hD hcl
    rw[HJ0.out] at hJ
    obtain ⟨b1,k,A5,c5,b4,A6,c6,x43,x44,x45,x46,x47,x48,x49,x50,x51,x52,x53,x54,rfl,HF⟩:=hJ
    have HH:=hD HF
    have hi2:i=0∨i=1∨i=2∨i=3∨i=4∨i=5∨i=6∨i=7∨i=8∨i=9∨i=10∨i=11∨i=12:=by simp at hil;omega
    clear hil hcl HF
    rcases hi2 with rfl|rfl|rfl|rfl|rfl|rfl|rfl|rfl|rfl|rfl|rfl|rfl|rfl
    ·clear hi HCL
     simp only[zA,zB,zC]
     refine yaa rfl rfl fun K hK=>?_
     go_wp2_with fail
     rw[HJ0.out]
     exact ⟨b1,k,A5,c5,b4,A6,c6,.pointer (some ⟨X,1,none⟩),x44,x45,x46,x47,x48,x49,x50,x51,x52,x53,x54,(by simp only[zA,zB,zC]),zT HH⟩
    ·have hns:¬ Ls Lz 10:=fun h=>hnl (dq HCL h 1)
     have D0:=(pj0 HH.out) (rq hi 0)
     have V0:=(pj16 HH.out) hns
     have hnla:¬ Ls Lz 12:=fun h=>hns (HCL.out.dep2 h 10 Zq8)
     clear hi HCL
     simp only[zA,zB,zC,D0]
     have k0:=ybw V0 hSX hXp C1.out
     refine yaa rfl rfl fun K hK=>?_
     go_wp2_with fail
     rw[HJ0.out]
     exact ⟨b1,k,A5,c5,b4,A6,c6,x43,.slice Ab nb cb,x45,x46,x47,x48,x49,x50,x51,x52,x53,x54,(by simp only[zA,zB,zC,D0]),zT HH⟩
    ·clear hi HCL
     simp only[zA,zB,zC]
     refine yaa rfl rfl fun K hK=>?_
     go_wp2_with fail
     rw[HJ0.out]
     exact ⟨b1,k,A5,c5,b4,A6,c6,x43,x44,.pointer (some ⟨p,0,none⟩),x46,x47,x48,x49,x50,x51,x52,x53,x54,(by simp only[zA,zB,zC]),zT HH⟩
    ·have hns:¬ Ls Lz 10:=fun h=>hnl (dq HCL (dq HCL (dq HCL (dq HCL h 9) 8) 4) 3)
     have V0:=(pj16 HH.out) hns
     have hnla:¬ Ls Lz 12:=fun h=>hns (HCL.out.dep2 h 10 Zq8)
     clear hi HCL
     simp only[zA,zB,zC]
     refine yaa rfl rfl fun K hK=>?_
     go_wp2_with fail
     rw[HJ0.out]
     exact ⟨W.heap.size,k,A5,c5,b4,A6,c6,x43,x44,x45,.slice (some ⟨W.heap.size,0,none⟩) 4 4,x47,x48,x49,x50,x51,x52,x53,x54,(by simp only[zA,zB,zC]),zk HH,zk HH,zk HH,fun _=>rfl,zk HH,zk HH,zk HH,zk HH,zk HH,zk HH,zk HH,zk HH,Ba hnla,fun _ _=>ybg rfl rfl (show w3.heap.size≤W.heap.size from V0.gr.size) rfl,(Bt (pj14 HH.out) fun x=>TrQ.call x (Fr.gr (Fr.alloc (Fr.start V0.cur) _)) Zq6),(Bt (pj15 HH.out) fun x=>LitS.fr x (Fr.alloc (Fr.start V0.cur) _) Zq6),fun h=>Fr.call ((pj16 HH.out) (fun h2=>h h2.fwd)) (Fr.cur (Fr.alloc (Fr.start V0.cur) _)) (Fr.gr (Fr.alloc (Fr.start V0.cur) _)),Bb hns⟩
    ·have hns:¬ Ls Lz 10:=fun h=>hnl (dq HCL (dq HCL (dq HCL h 9) 8) 4)
     have D2:=(pj2 HH.out) (rq hi 2)
     have D3:=(pj3 HH.out) (rq hi 3)
     have E3:=(pj13 HH.out) (rq hi 3) hns
     have V0:=(pj16 HH.out) hns
     have hk8:¬ Ls Lz 8:=fun h=>hnl (dq HCL h 4)
     have hnla:¬ Ls Lz 12:=fun h=>hns (HCL.out.dep2 h 10 Zq8)
     clear hi HCL
     simp only[zA,zB,zC,D2,D3]
     refine yaa rfl rfl fun K hK=>?_
     go_wp2_with fail
     refine(yeg _ 4 4 ([0,9,10,-1]:List Int) _ p V0.cur Zq11 Zq6 Zq6 E3.rd ?_).mono ?_
     ·intro e
      obtain ⟨_,_,e1,h1,_⟩:=E3.2 Zq6
      injection e1 with e1
      injection e1 with e1
      have h1:w3.heap.size≤_:=h1
      omega
     rintro e y1 ⟨k7,hk7,rfl,hc,hg⟩
     clear hk7
     go_wp2_with fail
     rw[HJ0.out]
     exact ⟨b1,k7,A5,c5,b4,A6,c6,x43,x44,x45,x46,.int .i64 k7,x48,x49,x50,x51,x52,x53,x54,(by simp only[zA,zB,zC,D2,D3]),zk HH,zk HH,zk HH,zk HH,fun _=>rfl,zk HH,zk HH,zk HH,Ba hk8,zk HH,zk HH,zk HH,Ba hnla,(Bt (pj13 HH.out) fun x=>yam x (Fr.mk hc hg) Zq6),(Bt (pj14 HH.out) fun x=>TrQ.call x (Fr.gr (Fr.mk hc hg)) Zq6),(Bt (pj15 HH.out) fun x=>LitS.fr x (Fr.mk hc hg) Zq6),fun h=>Fr.call ((pj16 HH.out) (fun h2=>h h2.fwd)) (Fr.cur (Fr.mk hc hg)) (Fr.gr (Fr.mk hc hg)),Bb hns⟩
    ·clear hi HCL
     simp only[zA,zB,zC]
     refine yaa rfl rfl fun K hK=>?_
     go_wp2_with fail
     rw[HJ0.out]
     exact ⟨b1,k,A5,c5,b4,A6,c6,x43,x44,x45,x46,x47,.pointer (some ⟨X,1,none⟩),x49,x50,x51,x52,x53,x54,(by simp only[zA,zB,zC]),zT HH⟩
    ·have hns:¬ Ls Lz 10:=fun h=>hnl (dq HCL (dq HCL (dq HCL (dq HCL h 9) 8) 7) 6)
     have D5:=(pj5 HH.out) (rq hi 5)
     have V0:=(pj16 HH.out) hns
     have hnla:¬ Ls Lz 12:=fun h=>hns (HCL.out.dep2 h 10 Zq8)
     clear hi HCL
     simp only[zA,zB,zC,D5]
     have k0:=ybw V0 hSX hXp C1.out
     refine yaa rfl rfl fun K hK=>?_
     go_wp2_with fail
     rw[HJ0.out]
     exact ⟨b1,k,A5,c5,b4,A6,c6,x43,x44,x45,x46,x47,x48,.slice Ab nb cb,x50,x51,x52,x53,x54,(by simp only[zA,zB,zC,D5]),zT HH⟩
    ·have hns:¬ Ls Lz 10:=fun h=>hnl (dq HCL (dq HCL (dq HCL h 9) 8) 7)
     have D6:=(pj6 HH.out) (rq hi 6)
     have V0:=(pj16 HH.out) hns
     have hk8:¬ Ls Lz 8:=fun h=>hnl (dq HCL h 7)
     have hnla:¬ Ls Lz 12:=fun h=>hns (HCL.out.dep2 h 10 Zq8)
     clear hi HCL
     simp only[zA,zB,zC,D6]
     have SW:=hD (S3.out.call hp V0)
     have hRD:=hD (TrQ.rdt (lo:=B) (fun b hb=>hb) ((SW.out.be.mono (P':=fun b=>B≤b) (fun b _ hb=>hb.1)).tr (yck SW.out.bo) SW.out.bl))
     refine yaa rfl rfl fun K hK=>?_
     go_wp2_with fail
     refine(yl5 3 B _ _ _ l _ hRD.out (by have:=S3.out.bs;omega)).mono ?_
     rintro e y2 ⟨A9,c9,rfl,htr,b5,s5⟩
     go_wp2_with fail
     rw[HJ0.out]
     exact ⟨b1,k,A9,c9,b4,A6,c6,x43,x44,x45,x46,x47,x48,x49,.slice A9 nb c9,x51,x52,x53,x54,(by simp only[zA,zB,zC,D6]),zk HH,zk HH,zk HH,zk HH,zk HH,zk HH,zk HH,fun _=>rfl,Ba hk8,zk HH,zk HH,zk HH,Ba hnla,(Bt (pj13 HH.out) fun x=>yam x (Fr.below (Fr.start V0.cur) b5) Zq6),fun _ _=>htr.mono (fun b _ hb=>Nat.le_trans V0.gr.size hb),(Bt (pj15 HH.out) fun x=>LitS.fr x (Fr.below (Fr.start V0.cur) b5) Zq6),fun h=>Fr.call ((pj16 HH.out) (fun h2=>h h2.fwd)) (Fr.cur (Fr.below (Fr.start V0.cur) b5)) (Fr.gr (Fr.below (Fr.start V0.cur) b5)),Bb hns⟩
    ·have D4:=(pj4 HH.out) (rq hi 4)
     have D7:=(pj7 HH.out) (rq hi 7)
     clear hi HCL
     simp only[zA,zB,zC,D4,D7]
     refine yaa rfl rfl fun K hK=>?_
     go_wp2_with fail
     rw[HJ0.out]
     exact ⟨b1,k,A5,c5,b4,A6,c6,x43,x44,x45,x46,x47,x48,x49,x50,.agg #[.int .i64 2,.string ⟨#[]⟩,.slice none 0 0,.int .i64 k,.slice A5 nb c5],x52,x53,x54,(by simp only[zA,zB,zC,D4,D7]),zT HH⟩
    ·have hns:¬ Ls Lz 10:=fun h=>hnl (dq HCL h 9)
     have D8:=(pj8 HH.out) (rq hi 8)
     have E7:=(pj14 HH.out) (dq HCL (rq hi 8) 7) hns
     have V0:=(pj16 HH.out) hns
     have hnla:¬ Ls Lz 12:=fun h=>hns (HCL.out.dep2 h 10 Zq8)
     clear hi HCL
     simp only[zA,zB,zC,D8]
     refine yaa rfl rfl fun K hK=>?_
     go_wp2_with fail
     rw[HJ0.out]
     exact ⟨b1,k,A5,c5,W.heap.size,A6,c6,x43,x44,x45,x46,x47,x48,x49,x50,x51,.slice (some ⟨W.heap.size,0,none⟩) 1 1,x53,x54,(by simp only[zA,zB,zC,D8]),zk HH,zk HH,zk HH,zk HH,zk HH,zk HH,zk HH,zk HH,zk HH,fun _=>rfl,zk HH,zk HH,Ba hnla,(Bt (pj13 HH.out) fun x=>yam x (Fr.alloc (Fr.start V0.cur) _) Zq6),(Bt (pj14 HH.out) fun x=>TrQ.call x (Fr.gr (Fr.alloc (Fr.start V0.cur) _)) Zq6),fun _ _=>⟨_,_,ybg rfl rfl (show w3.heap.size≤W.heap.size from V0.gr.size) rfl,yb3 (d:=5) (h:=⟨2,⟨#[]⟩,[],k⟩) (Aa:=none) (ca:=0) (Ab:=A5) (cb:=c5) (bd:=(l.map (upT 3)).map (upT 4)) ⟨rfl,fun h=>absurd h Zq11⟩ (TrQ.call E7 (Fr.gr (Fr.alloc (Fr.start V0.cur) _)) Zq6).up.up (Nat.zero_le _),by rw[yb5,yg2,yg2];show 0+(0+0+szT 3 l)≤_;have:=S3.out.bs;omega⟩,fun h=>Fr.call ((pj16 HH.out) (fun h2=>h h2.fwd)) (Fr.cur (Fr.alloc (Fr.start V0.cur) _)) (Fr.gr (Fr.alloc (Fr.start V0.cur) _)),Bb hns⟩
    ·have hns:¬ Ls Lz 10:=hnl
     have D1:=(pj1 HH.out) (rq hi 1)
     have D9:=(pj9 HH.out) (rq hi 9)
     have E9:=(pj15 HH.out) (rq hi 9) hns
     have V0:=(pj16 HH.out) hns
     have hnla:¬ Ls Lz 12:=fun h=>hns (HCL.out.dep2 h 10 Zq8)
     clear hi HCL
     simp only[zA,zB,zC,D1,D9]
     have SW:=hD (S3.out.call hp V0)
     obtain ⟨cs,s,hlr,hls,hlz⟩:=E9
     refine yaa rfl rfl fun K hK=>?_
     simp only[List.getElem_toArray,List.getElem_cons_succ,List.getElem_cons_zero]
     refine yae _ rfl _ _ 25 rfl B 66 i0 _ 5 80 Tryz.underlying25 hi hz0 hz1 hz2 rfl Zq9 _ _ _ rfl SW.out.bo _ 1 1 _ rfl hlr.rd hls.ones ?c3 ?c4 ?c5 ?_
     case c3=>simp only[maxLen];omega
     case c4=>omega
     case c5=>have:=V0.gr.size;omega
     intro v6 W6 own6 gr6 hat
     obtain ⟨A7,c7,rfl,_,_,_⟩:=yah own6
     go_wp2_with fail
     rw[HJ0.out]
     exact ⟨b1,k,A5,c5,b4,A7,c7,x43,x44,x45,x46,x47,x48,x49,x50,x51,x52,.slice A7 (nb+1) c7,x54,(by first|(simp only[zA,zB,zC,D1,D9] <;> fail)|simp only[Act.put,zA,zB,zC,D1,D9]),zk HH,zk HH,zk HH,zk HH,zk HH,zk HH,zk HH,zk HH,zk HH,zk HH,fun _=>rfl,zk HH,Ba hnla,zx hnow,zx hnow,zx hnow,zy hnow,fun _ _=>⟨W,cs,s,V0,hls,hlz,own6,gr6,hat,(gr6.block X (lt_of_block SW.out.x) (fun e=>by have:=S3.out.bx X e.symm;omega)).trans SW.out.x⟩⟩
    ·clear hi HCL
     simp only[zA,zB,zC]
     refine yaa rfl rfl fun K hK=>?_
     go_wp2_with fail
     rw[HJ0.out]
     exact ⟨b1,k,A5,c5,b4,A6,c6,x43,x44,x45,x46,x47,x48,x49,x50,x51,x52,x53,.pointer (some ⟨X,1,none⟩),(by simp only[zA,zB,zC]),zT HH⟩
    ·have D10:=(pj10 HH.out) (rq hi 10)
     have D11:=(pj11 HH.out) (rq hi 11)
     have HST:=rq hi 10
     have VL:=(pe17 HH.out) HST hnl
     clear hi HCL
     simp only[zA,zB,zC,D10,D11]
     obtain ⟨W5,cs,s,l1,l2,l3,l4,l5,l6,l7⟩:=VL
     have px6:=yaj (j:=1) l7 rfl
     have fx6:=yab (j:=1) l7
     have lx6:=lt_of_block l7
     have PEH:=hD (S3.out.putb hp l1 l2 l4 l5 l6 l7 l3)
     clear l1 l2 l3 l4 l5 l6 l7
     refine yaa rfl rfl fun K hK=>?_
     go_wp2_with fail
     rw[HJ0.out]
     exact ⟨b1,k,A5,c5,b4,A6,c6,x43,x44,x45,x46,x47,x48,x49,x50,x51,x52,x53,x54,(by simp only[zA,zB,zC,D10,D11]),zk HH,zk HH,zk HH,zk HH,zk HH,zk HH,zk HH,zk HH,zk HH,zk HH,zk HH,zk HH,fun _=>PEH.out,zx (Ls.fwd HST),zx (Ls.fwd HST),zx (Ls.fwd HST),zy (Ls.fwd HST),zx hnow⟩
   ·intro Lz a W hsize hJ hr
    rw[HJ0.out] at hJ
    have hall:=ybj hsize Zq8 hr
    obtain ⟨b1,k,A5,c5,b4,A6,c6,x43,x44,x45,x46,x47,x48,x49,x50,x51,x52,x53,x54,rfl,HF⟩:=hJ
    have HH:=hD HF
    have HEND:=(pj12 HH.out) (hall 12 Zq9)
    clear HF HH hall hr hsize
    simp only[zA,zB,zC]
    go_wp2_with fail
    go_meet
    exact HEND
  have g3:(x==3)=false:=by simp [e3]
  by_cases e5:x=5
  ·subst e5
   have hx5:∀ o1 o2 o3:Obj,(((w3.alloc o1).alloc o2).alloc o3).heap[X]?=some (.cells #[.slice Aq nq cq,.slice Ab nb cb] 27 (0,0)):=fun o1 o2 o3=>yhl Zq10 (yhl Zq10 (yhl hSX S3.out.x))
   have hc5:∀ o1 o2 o3:Obj,(((w3.alloc o1).alloc o2).alloc o3).cell? ⟨X,1,none⟩=some (.slice Ab nb cb):=fun o1 o2 o3=>yaj (hx5 o1 o2 o3) rfl
   have hf5:∀ o1 o2 o3:Obj,(((w3.alloc o1).alloc o2).alloc o3).frozen? ⟨X,1,none⟩=false:=fun o1 o2 o3=>yab (hx5 o1 o2 o3)
   clear hx5
   go_wp2_with fail
   go_meet
   exact S3.out.adj hp
  have g5:(x==5)=false:=by simp [e5]
  clear e0 e1 e2 e3 e4 e5
  go_wp2_with fail
  go_meet
  exact S3.out.pe
 case rest =>
  obtain ⟨Aq',nq',cq',Q',vb,l',hfr,hr,hx,hqr,hqs,hbo,hz⟩:=hcut
  obtain ⟨A2,c2,rfl,_,_⟩:=hbo.slice
  obtain ⟨wz,rfl⟩:∃ wz:World,wz=wc:=⟨_,rfl⟩
  obtain ⟨nb',hnb'⟩:∃ nb',nb'=l'.length:=⟨_,rfl⟩
  rw[←hnb'] at hbo hqr hx
  obtain ⟨k0,k1⟩:=ycs (lay:=Below.refl _ _) hx
  obtain ⟨r0,r1⟩:=ycs (lay:=Below.refl _ _) hr
  have g0:=yab (j:=0) hr
  have g1:=yab (j:=1) hr
  have HH:=hD (And.intro hqr (And.intro hqs (And.intro hbo (And.intro hz hnb'))))
  clear hqr hqs hbo hz hnb' hr hx
  go_wp2_with fail
  exact bodyPost_ret (v:=.agg #[.slice Aq' nq' cq',.slice A2 nb' c2]) (by simp [results,Tryz.results36,go_sem,r0,r1]) rfl ⟨Aq',nq',cq',Q',_,l',rfl,(by repeat (first|exact HH.out.1|(refine RdQ.set_ ?_ (fun hb=>Nat.lt_irrefl _ hb.1) _))),HH.out.2.1,(by repeat (first|exact HH.out.2.2.1|(refine OwnT.set_ ?_ (Nat.lt_succ_self _) _))),HH.out.2.2.2.1,(Fr.cur (w:=w) (by first|((repeat (first|assumption|(with_reducible refine Fr.alloc ?_ _)|(with_reducible refine Fr.drew ?_)|(with_reducible refine Fr.set ?_ Zq6 Zq5 _))) <;> fail)|fail)),(Fr.gr (by first|((repeat (first|assumption|(with_reducible refine Fr.alloc ?_ _)|(with_reducible refine Fr.drew ?_)|(with_reducible refine Fr.set ?_ Zq6 Zq5 _))) <;> fail)|fail))⟩
theorem yjc:∀ d:Nat,d≤9→yjz d
 | 0,_=>fun A m c N wild w p hc hn=>ynd A m c N wild w p hc hn
 | d+1,h=>fun A m c N wild w p hc hn=>yne d Zq6 (yjc d Zq6) A m c N wild w p hc hn
theorem yng (w:World) (p:Nat) (hc:ybt w p):Calls Tryz.prog 80 #[.pointer (some ⟨p,0,none⟩)] w (DRt w p):=ynf (yjc 2 Zq6) w p hc
theorem yn2 (w:World) (p:Nat) (hc:ybt w p):Calls Tryz.prog 36 #[.pointer (some ⟨p,0,none⟩)] w (DBn w p):=yp4 yng w p hc
theorem RdT.set0 {w:World} {lo d n:Nat} {A:Option Addr} {l:List (Tr d)} (h:RdT w lo d A n l) {p:Addr} (hp:p.block<lo) (u:Value):RdT (w.setCell p u) lo d A n l :=
 RdT.keep (fun b o hl hb=>by
  have:(w.setCell p u).heap[b]?=w.heap[b]?:=Below.heap_setCell w p u b Zq6
  simp [World.cell?,this]) (by rw[ych];exact Nat.le_refl _) h
theorem RdL.set0 {w:World} {lo size n:Nat} {A:Option Addr} {xs:List Value} (h:RdL w lo size A n xs) {p:Addr} (hp:p.block<lo) (u:Value):RdL (w.setCell p u) lo size A n xs :=
 RdL.keep h (fun b o hl hb=>by
  have:(w.setCell p u).heap[b]?=w.heap[b]?:=Below.heap_setCell w p u b Zq6
  simp [World.cell?,this]) (by rw[ych];exact Nat.le_refl _)
structure PD (w1:World) (p X:Nat) (Aq:Option Addr) (nq cq:Nat) (Q:List ByteArray) (Ab:Option Addr) (nb cb:Nat) (l:List (Tr 6)) (xs:List Value) (W:World):Prop where
 fr:Fr w1 p W
 lo:w1.heap.size≤X
 x:W.heap[X]?=some (.cells #[.slice Aq nq cq,.slice Ab nb cb] 27 (0,0))
 q:RdQ W (fun b=>w1.heap.size<b∧b≠X∧some b≠(Value.slice Ab nb cb).ownBlock) 1 Aq nq (strs Q)
 bl:l.length=nb
 bo:W.ownsRow (w1.heap.size+1) 66 5 (.slice Ab nb cb) nb xs
 be:ElQ W (fun b=>w1.heap.size<b∧b≠X∧some b≠(Value.slice Ab nb cb).ownBlock) 5 xs l
 vx:(Value.slice Ab nb cb).ownBlock≠some X
section
variable {w1 W:World} {p X nq cq nb cb:Nat} {Aq Ab:Option Addr} {Q:List ByteArray} {l:List (Tr 6)} {xs:List Value}
theorem PD.call {W':World} (h:PD w1 p X Aq nq cq Q Ab nb cb l xs W) (hp:p<w1.heap.size) (hf:Fr W p W'):PD w1 p X Aq nq cq Q Ab nb cb l xs W':=by
 have h1:=h.lo
 exact ⟨h.fr.call hf.cur hf.gr,h.lo,yej hf Zq6 h.x,yam h.q hf (fun hb=>by have:=hb.1;omega),h.bl,ydv h.bo hf.gr Zq6,
  h.be.keep (fun b hb hlt=>hf.gr.block b hlt (fun e=>by injection e with e;have:=hb.1;omega)) hf.gr.size,h.vx⟩
theorem PD.ge (h:PD w1 p X Aq nq cq Q Ab nb cb l xs W):∀ k,(Value.slice Ab nb cb).ownBlock=some k→w1.heap.size+1≤k:=fun k hk=>(h.bo.lt k hk).1
theorem PD.push {W5 W6:World} {A6:Option Addr} {n6 c6:Nat} {P:Nat→Prop} {cs:List Value} {s:Tr 6} (h:PD w1 p X Aq nq cq Q Ab nb cb l xs W) (hp:p<w1.heap.size) (hf:Fr W p W5) (hst:StQ W5 P 5 cs s) (hP:∀ b,P b→w1.heap.size<b∧b≠X∧some b≠(Value.slice Ab nb cb).ownBlock)
  (ho:W6.ownsRow (w1.heap.size+1) 66 5 (.slice A6 n6 c6) (nb+1) (xs++cs)) (hn:n6=nb+1) (hg:W5.grownBy W6 (Value.slice Ab nb cb).ownBlock)
  (hat:(Value.slice A6 n6 c6).ownBlock=(Value.slice Ab nb cb).ownBlock∨(Value.slice A6 n6 c6).ownBlock=some W5.heap.size) (hx:W6.heap[X]?=some (.cells #[.slice Aq nq cq,.slice Ab nb cb] 27 (0,0))) :
  PD w1 p X Aq nq cq Q A6 n6 c6 (l++[s]) (xs++cs) (W6.setCell ⟨X,1,none⟩ (.slice A6 n6 c6)):=by
 have h1:=h.lo
 have h5:=h.call hp hf
 have hX5:=lt_of_block h5.x
 have f6:=h5.fr.own hp hg (fun k hk=>by have:=h5.ge k hk;omega)
 have hsz:=hg.size
 have keep:∀ b,b<W5.heap.size→some b≠(Value.slice Ab nb cb).ownBlock→W6.heap[b]?=W5.heap[b]?:=fun b hb hne=>hg.block b hb hne
 have hv6:∀ k,(Value.slice A6 n6 c6).ownBlock=some k→k≠X∧(k=W5.heap.size∨(Value.slice Ab nb cb).ownBlock=some k):=fun k hk=>by
  rcases hat with e|e
  ·rw[e] at hk
   exact ⟨fun e2=>h.vx (by rw[hk,e2]),.inr hk⟩
  ·rw[hk] at e
   injection e with e
   exact ⟨by omega,.inl e⟩
 have hvx:(Value.slice A6 n6 c6).ownBlock≠some X:=fun e=>(hv6 X e).1 rfl
 have fin:∀ b,(w1.heap.size<b∧b≠X∧some b≠(Value.slice Ab nb cb).ownBlock∧b<W5.heap.size)→w1.heap.size<b∧b≠X∧some b≠(Value.slice A6 n6 c6).ownBlock:=fun b hb=>⟨hb.1,hb.2.1,fun e=>by
  rcases (hv6 b e.symm).2 with e'|e'
  ·have:=hb.2.2.2
   omega
  ·exact hb.2.2.1 e'.symm⟩
 refine ⟨f6.set hp (show w1.heap.size≤X by omega) _,h.lo,ya1 hx _,?_,by rw[List.length_append,h.bl,hn];rfl,?_,?_,hvx⟩
 ·have a:=h5.q.mono (P':=fun b=>w1.heap.size<b∧b≠X∧some b≠(Value.slice Ab nb cb).ownBlock∧b<W5.heap.size) (fun b hlt hb=>⟨hb.1,hb.2.1,hb.2.2,hlt⟩)
  have b:=a.keep (w':=W6) (fun b hb hlt=>keep b hlt hb.2.2.1) hsz
  exact(b.set_ (p:=⟨X,1,none⟩) (fun hb=>hb.2.1 rfl) _).mono (fun b _ hb=>fin b hb)
 ·rw[hn] at ho hvx ⊢
  exact yc8 ho hvx _
 ·have a:ElQ W5 (fun b=>w1.heap.size<b∧b≠X∧some b≠(Value.slice Ab nb cb).ownBlock) 5 (xs++cs) (l++[s]):=h5.be.append (ElQ.one (hst.mono (fun b _ hb=>hP b hb)))
  have b:=(a.mono (P':=fun b=>w1.heap.size<b∧b≠X∧some b≠(Value.slice Ab nb cb).ownBlock∧b<W5.heap.size) (fun b hlt hb=>⟨hb.1,hb.2.1,hb.2.2,hlt⟩)).keep (w':=W6) (fun b hb hlt=>keep b hlt hb.2.2.1) hsz
  exact((b.keep (fun b hb _=>Below.heap_setCell W6 ⟨X,1,none⟩ _ b (fun e=>hb.2.1 e)) (by simp [World.setCell])).mono (fun b _ hb=>fin b hb))
end
theorem ytp {w:World} {lo size n:Nat} {A:Option Addr} {xs:List Value} {P:Nat→Prop} (hp:∀ b,P b→lo≤b) (h:RdQ w P size A n xs):RdL w lo size A n xs:=by
 refine ⟨h.1,fun g=>?_⟩
 obtain ⟨b',off',e',hb',hl',hc'⟩:=h.2 g
 exact ⟨b',off',e',hp b' hb',hl',hc'⟩
def ynh (w:World) (e:Ending) (w':World):Prop:=∃ (Aq:Option Addr) (cq:Nat) (Q:List ByteArray) (A:Option Addr) (n c:Nat) (l:List (Tr 6)),e=.returned (.agg #[.slice Aq Q.length cq,.slice A n c]) ∧
 RdL w' w.heap.size 1 Aq Q.length (strs Q)∧(Q.length≤4∧Q.length≤cq∧cq≤maxLen∧∀ s∈Q,s.size≤9)∧RdT w' w.heap.size 6 A n l∧(n≤c∧c≤maxLen∧szT 6 l≤400000)∧Below w.heap.size w w'
theorem PD.done {w w1 W:World} {p X nq cq nb cb:Nat} {Aq Ab:Option Addr} {Q:List ByteArray} {l:List (Tr 6)} {xs:List Value} (h:PD w1 p X Aq nq cq Q Ab nb cb l xs W) (hw:w.heap.size<w1.heap.size) (hb:Below w.heap.size w W) (u0 u1:Value) (hz:szT 6 l≤400000) (hql:Q.length=nq) (hq4:nq≤4) (hqc:nq≤cq) (hcm:cq≤maxLen) (hq9:∀ s∈Q,s.size≤9) :
  ynh w (.returned (.agg #[.slice Aq nq cq,.slice Ab nb cb])) ((W.setCell ⟨w.heap.size,0,none⟩ u0).setCell ⟨w.heap.size,1,none⟩ u1):=by
 subst hql
 obtain ⟨_,_,e,h1,h2,_⟩:=yah h.bo
 injection e with _ _ e
 subst e
 refine ⟨Aq,cq,Q,Ab,nb,cb,l,rfl,?_,⟨hq4,hqc,hcm,hq9⟩,?_,⟨h1,h2,hz⟩,Zq0⟩
 ·exact ytp (fun b hb=>by have:=hb.1;omega) ((h.q.set_ (p:=⟨w.heap.size,0,none⟩) (fun hb=>by have:=hb.1;simp at this;omega) _).set_ (p:=⟨w.heap.size,1,none⟩) (fun hb=>by have:=hb.1;simp at this;omega) _)
 ·have r:=(h.be.mono (P':=fun b=>w.heap.size+1≤b) (fun b _ hb=>by have:=hb.1;omega)).tr ((yck h.bo).mono (P':=fun b=>w.heap.size+1≤b) (fun b _ hb=>by have hb':w1.heap.size+1≤b:=hb;omega)) h.bl
  exact RdT.lower (Nat.le_succ _) (RdT.set0 (RdT.set0 (TrQ.rdt (lo:=w.heap.size+1) (fun b hb=>hb) r) Zq11 _) Zq11 _)
theorem szS9:∀ Q:List ByteArray,(∀ s∈Q,s.size≤9)→szS Q≤9*Q.length:=by
 intro Q
 induction Q with
 | nil=>intro _;exact Nat.le_refl _
 | cons s Q ih =>
  intro h
  have h1:=h s Zq11
  have h2:=ih (fun x hx=>h x (by simp [hx]))
  show s.size+szS Q≤_
  rw[List.length_cons]
  omega
section
variable {P:Program} {ops:Array Oper} {Q:Exit→Act→World→Prop}
theorem yr1 {J:Array Bool→Act→World→Prop} (hac:(ops.toList.zipIdx.all fun x=>x.1.after.all fun e=>decide (e.on<x.2))=true)
  (hs:∀ Lz a w,Lz.size=ops.size→ydm .any ops Lz→J Lz a w→∀ i∈Region.ready .any ops Lz,wpOp P ops Q i (fun a' w'=>J (Lz.setIfInBounds i true) a' w') a w)
  (he:∀ Lz a w,Lz.size=ops.size→J Lz a w→Region.ready .any ops Lz=[]→Q .normal a w) :
  ∀ (n k:Nat) (Lz:Array Bool) (a:Act) (w:World),k+n=ops.size→Lz.size=ops.size→(∀ i,i<ops.size→Lz.getD i false=decide (i<k))→J Lz a w→wpOps P ops Q (List.range' k n) a w:=by
 have hon:∀ (i:Nat) (o:Oper),ops[i]?=some o→∀ e∈o.after,e.on<i:=fun i o ho e he=>by
  have h1:=List.all_eq_true.1 hac (o,i) (by
   rw[List.mk_mem_zipIdx_iff_getElem?]
   simpa using ho)
  have h2:=Array.all_eq_true'.1 h1 e he
  simpa using h2
 intro n
 induction n with
 | zero =>
  intro k Lz a w hk hz hl hJ
  refine he Lz a w hz hJ ?_
  rw[List.eq_nil_iff_forall_not_mem]
  intro j hj
  obtain ⟨h1,o,ho,_⟩:=mem_ready.1 hj
  have hjl:=(Array.getElem?_eq_some_iff.1 ho).1
  have h2:=hl j hjl
  have hj2:j<Lz.size:=by omega
  simp [hj2] at h1 h2
  rw[h1] at h2
  have:j<k:=by omega
  simp [this] at h2
 | succ n ih =>
  intro k Lz a w hk hz hl hJ
  have hkl:k<ops.size:=by omega
  have hkz:k<Lz.size:=by omega
  rw[List.range'_succ,wpOps_cons]
  have hcl:ydm .any ops Lz:=fun i o ho hi e he _=>by
   have hil:=(Array.getElem?_eq_some_iff.1 ho).1
   rw[hl i hil] at hi
   have h1:=hon i o ho e he
   have h2:i<k:=of_decide_eq_true hi
   rw[hl e.on Zq6]
   exact decide_eq_true Zq6
  have hmem:k∈Region.ready .any ops Lz:=mem_ready.2 ⟨by
   have h2:=hl k hkl
   simp [hkz] at h2 ⊢
   exact h2,ops[k],Array.getElem?_eq_getElem hkl,fun e he _=>by
   have h1:=hon k ops[k] (Array.getElem?_eq_getElem hkl) e he
   rw[hl e.on Zq6]
   exact decide_eq_true h1⟩
  refine wpOp_mono (fun a' w' h=>ih (k+1) _ a' w' Zq6 (by simpa using hz) (fun i hi=>?_) h) (hs Lz a w hz hcl hJ k hmem)
  by_cases hne:k=i
  ·subst hne
   simp [hkz]
  ·rw[getD_set_ne false hne,hl i hi]
   by_cases h3:i<k
   ·simp [h3,show i<k+1 by omega]
   ·simp [h3,show ¬ i<k+1 by omega]
theorem yfk {id:Nat} {a:Act} {w:World} (hac:(ops.toList.zipIdx.all fun x=>x.1.after.all fun e=>decide (e.on<x.2))=true) (J:Array Value→Array Bool→Act→World→Prop) (h0:∀ A0:Array Value,J A0 (Array.replicate ops.size false) ⟨A0,a.defers⟩ w)
  (hs:∀ Lz a' w,Lz.size=ops.size→ydm .any ops Lz→J a.tmps Lz a' w→∀ i∈Region.ready .any ops Lz,wpOp P ops Q i (fun b w'=>J a.tmps (Lz.setIfInBounds i true) b w') a' w)
  (he:∀ Lz a' w,Lz.size=ops.size→J a.tmps Lz a' w→Region.ready .any ops Lz=[]→Q .normal a' w):(Code.region id ops false).wp P Q a w :=
 wp_region (by
  rw[List.range_eq_range']
  exact yr1 hac hs he ops.size 0 (Array.replicate ops.size false) a w Zq6 Zq11 (fun i _=>by rw[yid];simp) (h0 a.tmps))
end
end Go.Proofs.YthkbckkghnbonaaGreatDoor
