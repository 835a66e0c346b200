/- What the calls that this law reaches answer, part 19 of 20. -/
import Derived.Test.YthkbckkghnbonaaGreatDoorJFElaborate18
import Derived.Test.YthkbckkghnbonaaGreatDoorJFElaborate4
import Derived.Test.YthkbckkghnbonaaGreatDoorJFElaborate5
set_option maxRecDepth 100000
set_option maxHeartbeats 16000000
set_option linter.unusedVariables false
namespace Go.Proofs.YthkbckkghnbonaaGreatDoor
open Go.RowKit
set_option linter.unusedVariables false
theorem yha {l:List (Tr 6)} {s:Tr 6} (h:szE s≤50000):szT 6 (l++[s])≤szT 6 l+50001:=by
 have h1:szT 6 (l++[s])=szT 6 l+szT 6 [s]:=yf5 l [s]
 have h2:szT 6 [s]=1+szE s:=yde s
 omega
theorem ytq {w:World} {base e n c:Nat} {A:Option Addr} {xs:List Value} (h:w.ownsRow base e 1 (.slice A n c) n xs) (hn:0<n):∃ g,A=some ⟨g,0,none⟩:=by
 rcases h.2 with ⟨h1,h2⟩|⟨g,cap,cur,h1,_⟩
 ·injection h1 with h3 h4 h5
  omega
 ·injection h1 with h3 h4 h5
  exact ⟨g,h3⟩
theorem yhs (A:Option Addr) (n c:Nat) (bs:List (Fin 256)) (w:World) (h:Rd w 1 A n (bs.flatMap ye7)) (hl:bs.length=n) (hn:n≤1048576):Calls Tryz.prog 75 #[.slice A n c] w (ynh w):=by
 obtain ⟨i0,hi,hz0,hz1,hz2⟩:=info_parts yex
 obtain ⟨j0,hj,hy0,hy1,hy2⟩:=info_parts ydh
 have b0:Below w.heap.size w (w.alloc (.cells #[.slice none 0 0,.slice none 0 0] 27)):=Zq0
 have H:=hD (h.below b0)
 have HL:=hD hl
 clear h hl b0
 go_enter Tryz.func75,Tryz.ntmps75
 go_wp2_with fail
 obtain ⟨w0,hw0⟩:∃ w0,w0=w.alloc (.cells #[.slice none 0 0,.slice none 0 0] 27):=⟨_,rfl⟩
 rw[←hw0] at H ⊢
 have x0:w0.heap[w.heap.size]?=some (.cells #[.slice none 0 0,.slice none 0 0] 27 (0,0)):=by rw[hw0];exact yac _ _
 have b0:Below w.heap.size w w0:=by rw[hw0];exact Zq0
 have s0:w.heap.size<w0.heap.size:=by rw[hw0];simp
 clear hw0
 refine(yqr _ _ _ bs w0 H.out HL.out hn).mono ?_
 rintro e w1 ⟨p,rfl,hpw,hc1,hb1⟩
 have hp1w:=hc1.lt
 have s1:=hb1.size
 have x1:=(hb1.block _ s0).trans x0
 have R1:=hD x1
 have B1:=hD (b0.trans (hb1.mono Zq6))
 have hpb:w.heap.size<p:=by omega
 have hw1:w.heap.size<w1.heap.size:=by omega
 clear x0 x1 b0 hb1 s0 s1 hpw
 go_wp2_with fail
 refine(yn2 w1 p hc1).mono ?_
 rintro e w2 ⟨Aq,nq,cq,Q,vb,l,rfl,hq,⟨hql,hq4,hqc,hqm,hq9⟩,hbo,hz,hc2,hg2⟩
 have s2:=hg2.size
 obtain ⟨Ab,cb,rfl,h1,h2⟩:=hbo.slice
 obtain ⟨nb,hnb⟩:∃ nb,nb=l.length:=⟨_,rfl⟩
 rw[←hnb] at hbo h1 hq ⊢
 have hnb6:nb≤100000:=by
  have h5:szT 6 l=l.length+sumE l:=ybb l
  omega
 go_upto_region 3 with (fail)
 try rw[←hnb]
 obtain ⟨X,hX⟩:∃ X,X=w2.heap.size:=⟨_,rfl⟩
 obtain ⟨w3,hw3⟩:∃ w3,w3=w2.alloc (.cells #[.slice Aq nq cq,.slice Ab nb cb] 27):=⟨_,rfl⟩
 rw[←hw3,←hX]
 have s3:w3.heap.size=X+1:=by rw[hw3,hX];simp
 obtain ⟨xs,hxo,hxe⟩:=hbo
 have P3:PD w1 p X Aq nq cq Q Ab nb cb l xs w3:=by
  have b3:Below w2.heap.size w2 w3:=by rw[hw3];exact Zq0
  rw[←hnb] at hxo
  refine ⟨(Fr.mk hc2 hg2).below b3,by omega,by rw[hw3,hX];exact yac _ _,(hq.mono (fun b hlt hb=>⟨hb.1,by omega,hb.2⟩)).below b3,hnb.symm,yat hxo b3,?_,fun e=>?_⟩
  ·exact(hxe.mono (P':=fun b=>w1.heap.size<b∧b≠X∧some b≠(Value.slice Ab nb cb).ownBlock) (fun b hb hc=>⟨by have:=hc.1;omega,by omega,hc.2⟩)).keep (fun b hb hlt=>b3.block b hlt) b3.size
  ·have:=(hxo.lt X e).2
   omega
 have S3:=hD P3
 have HBX:Hid (∀ k,(Value.slice Ab nb cb).ownBlock=some k→k<X):=fun k hk=>by
  have:=(hxo.lt k hk).2
  omega
 have HZ:=hD hz
 have HQL:=hD hql
 have HQ9:=hD hq9
 have hX3:X<w3.heap.size:=by omega
 clear hq hql hq9 hxo hxe hz hc2 hg2 hw3 P3 hnb hX s3
 have hXp:X≠p:=by have:=S3.out.lo;omega
 have hSX:=lt_of_block S3.out.x
 have hp3:p<w3.heap.size:=S3.out.fr.cur.lt
 obtain ⟨c0,c1⟩:=ycs (lay:=Below.refl _ _) S3.out.x
 have C0:=hD c0
 have frS:Fr w3 p w3:=Fr.start S3.out.fr.cur
 clear c0 c1
 obtain ⟨J0,hJ0⟩:∃ J:Array Value→Array Bool→Act→World→Prop,J=(fun A0 Lz a W=>∃ (g0:Nat) (A6:Option Addr) (c6:Nat),∃ x13 x14 x15 x16 x5:Value,a=⟨(((((A0.setIfInBounds 13 x13).setIfInBounds 14 x14).setIfInBounds 15 x15).setIfInBounds 16 x16).setIfInBounds 5 x5),[]⟩∧(Ls Lz 0→x13=.slice (some ⟨g0,0,none⟩) 0 0)∧(Ls Lz 1→x14=.pointer (some ⟨X,0,none⟩))∧(Ls Lz 2→x15=.slice Aq nq cq)∧(Ls Lz 3→x16=.slice A6 nq c6)∧(Ls Lz 4→(x5=.slice A6 nq c6∧W.ownsRow w3.heap.size 9 1 (.slice A6 nq c6) nq (strs Q)∧Fr w3 p W))∧(Ls Lz 0→¬ Ls Lz 3→W.ownsRow w3.heap.size 9 1 (.slice (some ⟨g0,0,none⟩) 0 0) 0 [])∧(¬ Ls Lz 3→Fr w3 p W)∧(Ls Lz 3→¬ Ls Lz 4→(W.ownsRow w3.heap.size 9 1 (.slice A6 nq c6) nq (strs Q)∧Fr w3 p W))):=⟨_,rfl⟩
 have HJ0:=hD hJ0
 clear hJ0
 refine yfk Zq8 J0 ?_ ?_ ?_
 ·intro A0
  rw[HJ0.out]
  exact ⟨0,none,0,A0.getD 13 undef,A0.getD 14 undef,A0.getD 15 undef,A0.getD 16 undef,A0.getD 5 undef,by simp only[ybm],zn,zn,zn,zn,zn,zn,fun _=>frS,zn⟩
 ·intro Lz a W hsize hcl hJ i hi
  have hil:=ybn hi
  have hnl:=ybi hi
  have hnow:=ybh hi hsize
  have HCL:=hD hcl
  rw[HJ0.out] at hJ
  obtain ⟨g0,A6,c6,x13,x14,x15,x16,x5,rfl,HF⟩:=hJ
  have HH:=hD HF
  have hi2:i=0∨i=1∨i=2∨i=3∨i=4:=by simp at hil;omega
  clear hil hcl HF
  rcases hi2 with rfl|rfl|rfl|rfl|rfl
  ·have hns:¬ Ls Lz 3:=fun h=>hnl (dq HCL h 0)
   have V0:=(pj6 HH.out) hns
   have hnla:¬ Ls Lz 4:=fun h=>hns (HCL.out.dep2 h 3 Zq8)
   clear hi HCL
   simp only[zA,zB,zC]
   refine yaa rfl rfl fun K hK=>?_
   go_wp2_with fail
   rw[HJ0.out]
   exact ⟨W.heap.size,A6,c6,.slice (some ⟨W.heap.size,0,none⟩) 0 0,x14,x15,x16,x5,(by simp only[zA,zB,zC]),fun _=>rfl,zk HH,zk HH,zk HH,Ba hnla,fun _ _=>ybd (yb2 W _ _) V0.gr.size,fun h=>Fr.call ((pj6 HH.out) (fun h2=>h h2.fwd)) (Fr.cur (Fr.alloc (Fr.start V0.cur) _)) (Fr.gr (Fr.alloc (Fr.start V0.cur) _)),Bb hns⟩
  ·clear hi HCL
   simp only[zA,zB,zC]
   refine yaa rfl rfl fun K hK=>?_
   go_wp2_with fail
   rw[HJ0.out]
   exact ⟨g0,A6,c6,x13,.pointer (some ⟨X,0,none⟩),x15,x16,x5,(by simp only[zA,zB,zC]),zT HH⟩
  ·have hns:¬ Ls Lz 3:=fun h=>hnl (dq HCL h 2)
   have D1:=(pj1 HH.out) (rq hi 1)
   have V0:=(pj6 HH.out) hns
   have hnla:¬ Ls Lz 4:=fun h=>hns (HCL.out.dep2 h 3 Zq8)
   clear hi HCL
   simp only[zA,zB,zC,D1]
   have k0:=ybw V0 hSX hXp C0.out
   refine yaa rfl rfl fun K hK=>?_
   go_wp2_with fail
   rw[HJ0.out]
   exact ⟨g0,A6,c6,x13,x14,.slice Aq nq cq,x16,x5,(by simp only[zA,zB,zC,D1]),zT HH⟩
  ·have hns:¬ Ls Lz 3:=hnl
   have D0:=(pj0 HH.out) (rq hi 0)
   have E0:=(pj5 HH.out) (rq hi 0) hns
   have D2:=(pj2 HH.out) (rq hi 2)
   have V0:=(pj6 HH.out) hns
   have hnla:¬ Ls Lz 4:=fun h=>hns (HCL.out.dep2 h 3 Zq8)
   clear hi HCL
   simp only[zA,zB,zC,D0,D2]
   have SW:=hD (S3.out.call hp1w V0)
   refine yaa rfl rfl fun K hK=>?_
   simp only[List.getElem_toArray,List.getElem_cons_succ,List.getElem_cons_zero]
   refine yae _ rfl _ _ 24 rfl w3.heap.size 9 j0 _ 1 16 Tryz.underlying24 hj hy0 hy1 hy2 rfl Zq9 _ _ _ rfl E0 _ nq _ _ rfl SW.out.q.rd ?c2 ?c3 ?c4 ?c5 ?_
   case c2=>exact fun u hu=>yif _ u hu
   case c3=>simp only[maxLen];omega
   case c4=>omega
   case c5=>exact V0.gr.size
   intro v6 W6 own6 gr6 hat
   rw[Nat.zero_add] at own6
   obtain ⟨A7,c7,rfl,_,_,_⟩:=yah own6
   go_wp2_with fail
   rw[HJ0.out]
   exact ⟨g0,A7,c7,x13,x14,x15,.slice A7 nq c7,x5,(by first|(simp only[zA,zB,zC,D0,D2] <;> fail)|simp only[Act.put,zA,zB,zC,D0,D2]),zk HH,zk HH,zk HH,fun _=>rfl,Ba hnla,zx hnow,zy hnow,fun _ _=>⟨own6,V0.own hp3 gr6 (fun k hk=>(E0.lt k hk).1)⟩⟩
  ·have D3:=(pj3 HH.out) (rq hi 3)
   have HST:=rq hi 3
   have VL:=(pe7 HH.out) HST hnl
   clear hi HCL
   simp only[zA,zB,zC,D3]
   refine yaa rfl rfl fun K hK=>?_
   go_wp2_with fail
   rw[HJ0.out]
   exact ⟨g0,A6,c6,x13,x14,x15,x16,.slice A6 nq c6,(by simp only[zA,zB,zC,D3]),zk HH,zk HH,zk HH,zk HH,fun _=>⟨rfl,VL⟩,zx (Ls.fwd HST),zy (Ls.fwd HST),zx hnow⟩
 ·intro Lz a W hsize hJ hr
  rw[HJ0.out] at hJ
  have hall:=ybj hsize Zq8 hr
  obtain ⟨g0,A6,c6,x13,x14,x15,x16,x5,rfl,HF⟩:=hJ
  have HH:=hD HF
  have HEND:=(pj4 HH.out) (hall 4 Zq9)
  clear HF HH hall hr hsize
  simp only[zA,zB,zC]
  obtain ⟨rfl,hown,F6⟩:=HEND
  obtain ⟨w6,rfl⟩:∃ w6:World,w6=W:=⟨_,rfl⟩
  have O6:=hD hown
  have S6:=hD (S3.out.call hp1w F6)
  have hs36:=F6.gr.size
  clear hown F6 C0 frS
  obtain ⟨An,rfl⟩:∃ An,An=A6:=⟨_,rfl⟩
  obtain ⟨cn,rfl⟩:∃ cn,cn=c6:=⟨_,rfl⟩
  obtain ⟨k0,k1⟩:=ycs (lay:=Below.refl _ _) S6.out.x
  have R6:=hD (yej S6.out.fr Zq6 R1.out)
  obtain ⟨r0,r1⟩:=ycs (lay:=Below.refl _ _) R6.out
  have g0:=yab (j:=0) R6.out
  have g1:=yab (j:=1) R6.out
  have lr6:=lt_of_block R6.out
  have lx6:=lt_of_block S6.out.x
  have BW6:=hD (B1.out.trans (yd4 S6.out.fr.gr Zq6 (fun k hk=>by injection hk with hk;omega)))
  have HZ4:Hid (szT 6 l≤400000):=Nat.le_trans HZ.out Zq6
  by_cases hnq0:nq=0
  ·subst hnq0
   go_wp2_with fail
   exact bodyPost_ret (v:=.agg #[.slice Aq 0 cq,.slice Ab nb cb]) (by simp [results,Tryz.results75,go_sem,r0,r1]) rfl (S6.out.done hw1 BW6.out _ _ HZ4.out HQL.out hq4 hqc hqm HQ9.out)
  have hnqp:0<nq:=by omega
  obtain ⟨gn,rfl⟩:∃ gn,An=some ⟨gn,0,none⟩:=ytq O6.out hnqp
  have hRN:=yck O6.out
  obtain ⟨gn',off',e',hgn,hgl,hcl⟩:=hRN.2 hnqp
  injection e' with e'
  injection e' with e1 e2
  subst e1 e2
  have hgn3:w3.heap.size≤gn:=hgn
  have hgnp:gn≠p:=by have:=S3.out.lo;omega
  obtain ⟨a0,ha0⟩:∃ a0,Q[0]?=some a0:=⟨_,List.getElem?_eq_getElem (by rw[HQL.out];exact hnqp)⟩
  have ka:=hcl 0 _ (ybr ha0)
  have ha9:a0.size≤9:=HQ9.out a0 (List.mem_of_getElem? ha0)
  have HNM6:Hid (RdQ w6 (fun b=>X+1≤b) 1 (some ⟨gn,0,none⟩) nq (strs Q)):=hRN.mono (fun b _ hb=>by have hb':w3.heap.size≤b:=hb;omega)
  have d4:decide (4<nq)=false:=decide_eq_false Zq6
  have d0:decide (nq=0)=false:=decide_eq_false hnq0
  have d5:((nq:Int)==0)=false:=beq_eq_false_iff_ne.2 Zq6
  have d6:decide ((4:Int)<(nq:Int))=false:=decide_eq_false Zq6
  clear hRN hcl hgn ha0 r0 r1 g0 g1 O6
  simp only[Nat.add_zero] at ka
  go_upto_region 7 with (fail)
  clear ka k0 k1
  go_wp2_with fail
  obtain ⟨wb,hwb⟩:∃ wb,wb=w6.alloc (.cells #[.string ⟨#[120]⟩,.string ⟨#[116]⟩,.string ⟨#[115]⟩,.string ⟨#[122]⟩,.string ⟨#[104]⟩] 9):=⟨_,rfl⟩
  rw[←hwb]
  have bb:Below w6.heap.size w6 wb:=by rw[hwb];exact Zq0
  have zb:wb.heap.size=w6.heap.size+1:=by rw[hwb];simp
  have rb:Rd wb 1 (some ⟨w6.heap.size,0,none⟩) 5 (strs [⟨#[120]⟩,⟨#[116]⟩,⟨#[115]⟩,⟨#[122]⟩,⟨#[104]⟩]):=by rw[hwb];exact yit (w:=w6) rfl
  have Sb:=hD (S6.out.call hp1w ((Fr.start S6.out.fr.cur).below bb))
  have Nb:=HNM6.out.below bb
  clear hwb bb
  have hp6:=S6.out.fr.cur.lt
  refine(ydc w6.heap.size 5 5 _ wb p Sb.out.fr.cur rfl Zq6 Zq6 rb Zq6).mono ?_
  rintro e wd ⟨gy,hgy,rfl,hcd,hgd⟩
  have hy9:gy.size≤9:=fewL (L:=[⟨#[120]⟩,⟨#[116]⟩,⟨#[115]⟩,⟨#[122]⟩,⟨#[104]⟩]) Zq9 gy hgy
  have Sd:=hD (Sb.out.call hp1w (Fr.mk hcd hgd))
  have hloX:=S3.out.lo
  have Nd:=yam Nb (Fr.mk hcd hgd) Zq6
  have sd:=hgd.size
  clear hgy hcd hgd rb Nb Sb
  go_wp2_with fail
  refine(ydc gn nq cn Q wd p Sd.out.fr.cur HQL.out hnqp Zq6 Nd.rd hgnp).mono ?_
  rintro e we ⟨ga,hga,rfl,hce,hge⟩
  have hga9:ga.size≤9:=HQ9.out ga hga
  have Se:=hD (Sd.out.call hp1w (Fr.mk hce hge))
  have Ne:=hD (yam Nd (Fr.mk hce hge) Zq6)
  have se:=hge.size
  clear hga hce hge Nd Sd
  go_upto_region 8 with (fail)
  obtain ⟨wf,hwf⟩:∃ wf,wf=we.alloc (.cells #[.string ga] 9):=⟨_,rfl⟩
  obtain ⟨w7,hw7⟩:∃ w7,w7=wf.alloc (.cells #[.int .i64 1,.string gy,.slice (some ⟨we.heap.size,0,none⟩) 1 1,.int .i64 0,.slice none 0 0] 66):=⟨_,rfl⟩
  have zf:wf.heap.size=we.heap.size+1:=by rw[hwf];simp
  rw[←hwf,←hw7]
  try rw[←zf]
  have bf:Below we.heap.size we wf:=by rw[hwf];exact Zq0
  have b7:Below wf.heap.size wf w7:=by rw[hw7];exact Zq0
  have z7:w7.heap.size=wf.heap.size+1:=by rw[hw7];simp
  have S7:=hD (Se.out.call hp1w (((Fr.start Se.out.fr.cur).below bf).below b7))
  have N7:=hD ((Ne.out.below bf).below b7)
  obtain ⟨Y,hY⟩:∃ Y,Y=wf.heap.size:=⟨_,rfl⟩
  obtain ⟨gb,hgb⟩:∃ gb,gb=we.heap.size:=⟨_,rfl⟩
  have G7:=hD (show w7.heap[Y]?=some (.cells #[.int .i64 1,.string gy,.slice (some ⟨gb,0,none⟩) 1 1,.int .i64 0,.slice none 0 0] 66 (0,0)) by rw[hw7,hY,hgb];exact yac _ _)
  have GA7:Hid (RdQ w7 (fun b=>X+1≤b) 1 (some ⟨gb,0,none⟩) 1 (strs [ga])):=RdQ.below (by rw[hwf,hgb];exact ybg rfl rfl Zq6 rfl) b7
  have hYX:X<Y:=by omega
  have hYp:Y≠p:=by omega
  rw[←hY,←hgb]
  clear hwf hw7 bf b7 hY hgb
  go_wp2_with fail
  refine(ybu 8 7 w7 p S7.out.fr.cur Zq6 Zq6 Zq6).mono ?_
  rintro e w8 ⟨x,hx0,hx1,rfl,hc8,hg8⟩
  have S8:=hD (S7.out.call hp1w (Fr.mk hc8 hg8))
  have HNM8:=hD (yam N7.out (Fr.mk hc8 hg8) Zq6)
  have G8:=hD (yej (Fr.mk hc8 hg8) hYp G7.out)
  have HGA8:=hD (yam GA7.out (Fr.mk hc8 hg8) Zq6)
  clear hc8 hg8 S7 N7 G7 GA7 Se Ne S6 HNM6 R6 BW6 S3 lr6 lx6
  have hs8:=S8.out.fr.gr.size
  go_upto_block 0 with (fail)
  go_cut [] (fun W=>∃ (Ab7:Option Addr) (nb7 cb7:Nat) (l7:List (Tr 6)) (xs7:List Value),PD w1 p X Aq nq cq Q Ab7 nb7 cb7 l7 xs7 W∧szT 6 l7≤400000)
  case first =>
   have hz8:szT 6 l≤100000:=HZ.out
   have hX8:=lt_of_block S8.out.x
   obtain ⟨R,hR1,hR2,hR3⟩:∃ R,X<R∧R≤w8.heap.size∧R≤X+1:=⟨X+1,by omega,by omega,by omega⟩
   have HNM:Hid (RdQ w8 (fun b=>R≤b) 1 (some ⟨gn,0,none⟩) nq (strs Q)):=HNM8.out.mono (fun b _ hb=>by have hb':X+1≤b:=hb;omega)
   have HGA:Hid (RdQ w8 (fun b=>R≤b) 1 (some ⟨gb,0,none⟩) 1 (strs [ga])):=HGA8.out.mono (fun b _ hb=>by have hb':X+1≤b:=hb;omega)
   clear hR3 hX8
   have HP:Hid (∀ b,R≤b→w1.heap.size<b∧b≠X∧some b≠(Value.slice Ab nb cb).ownBlock):=fun b hb=>⟨by omega,by omega,fun e=>by have:=HBX.out b e.symm;omega⟩
   obtain ⟨q0,q1,q2,q3,q4⟩:=yas (lay:=Below.refl _ _) G8.out
   have G0:=hD q0
   have G1:=hD q1
   have G2:=hD q2
   have G3:=hD q3
   have G4:=hD q4
   have hYl:=lt_of_block G8.out
   clear q0 q1 q2 q3 q4
   have hSX:=lt_of_block S8.out.x
   have hXp:X≠p:=by omega
   obtain ⟨c0,c1⟩:=ycs (lay:=Below.refl _ _) S8.out.x
   have C1:=hD c1
   have frS:Fr w8 p w8:=Fr.start S8.out.fr.cur
   have hp8:p<w8.heap.size:=S8.out.fr.cur.lt
   have hlo:=S8.out.lo
   clear c0 c1
   by_cases e0:x=0
   ·subst e0
    go_upto_region 10 with (fail)
    obtain ⟨J0,hJ0⟩:∃ J:Array Value→Array Bool→Act→World→Prop,J=(fun A0 Lz a W=>∃ (b1:Nat) (b2:Nat) (b4:Nat) (A6:Option Addr) (c6:Nat),∃ x41 x42 x43 x44 x45 x46 x47 x48 x49 x50:Value,a=⟨((((((((((A0.setIfInBounds 41 x41).setIfInBounds 42 x42).setIfInBounds 43 x43).setIfInBounds 44 x44).setIfInBounds 45 x45).setIfInBounds 46 x46).setIfInBounds 47 x47).setIfInBounds 48 x48).setIfInBounds 49 x49).setIfInBounds 50 x50),[]⟩∧(Ls Lz 0→x41=.pointer (some ⟨X,1,none⟩))∧(Ls Lz 1→x42=.slice Ab nb cb)∧(Ls Lz 2→x43=.string a0)∧(Ls Lz 3→x44=.slice (some ⟨b1,0,none⟩) 1 1)∧(Ls Lz 4→x45=.agg #[.int .i64 1,.string gy,.slice (some ⟨gb,0,none⟩) 1 1,.int .i64 0,.slice none 0 0])∧(Ls Lz 5→x46=.slice (some ⟨b2,0,none⟩) 1 1)∧(Ls Lz 6→x47=.agg #[.int .i64 4,.string ⟨#[]⟩,.slice (some ⟨b1,0,none⟩) 1 1,.int .i64 0,.slice (some ⟨b2,0,none⟩) 1 1])∧(Ls Lz 7→x48=.slice (some ⟨b4,0,none⟩) 1 1)∧(Ls Lz 8→x49=.slice A6 (nb+1) c6)∧(Ls Lz 9→x50=.pointer (some ⟨X,1,none⟩))∧(Ls Lz 10→(∃ (Ab7:Option Addr) (nb7 cb7:Nat) (l7:List (Tr 6)) (xs7:List Value),PD w1 p X Aq nq cq Q Ab7 nb7 cb7 l7 xs7 W∧szT 6 l7≤szT 6 l+50001))∧(Ls Lz 3→¬ Ls Lz 8→RdQ W (fun b=>R≤b) 1 (some ⟨b1,0,none⟩) 1 (strs [a0]))∧(Ls Lz 5→¬ Ls Lz 8→TrQ W (fun b=>R≤b) 5 (some ⟨b2,0,none⟩) 1 [mkT (d:=4) ⟨1,gy,[ga],0⟩ []])∧(Ls Lz 7→¬ Ls Lz 8→LitS R W b4)∧(¬ Ls Lz 8→Fr w8 p W)∧(Ls Lz 8→¬ Ls Lz 10→(∃ (W5:World) (cs:List Value) (s:Tr 6),Fr w8 p W5∧StQ W5 (fun b=>R≤b) 5 cs s∧szE s≤50000∧W.ownsRow (w1.heap.size+1) 66 5 (.slice A6 (nb+1) c6) (nb+1) (xs++cs)∧W5.grownBy W (Value.slice Ab nb cb).ownBlock∧((Value.slice A6 (nb+1) c6).ownBlock=(Value.slice Ab nb cb).ownBlock∨(Value.slice A6 (nb+1) c6).ownBlock=some W5.heap.size)∧W.heap[X]?=some (.cells #[.slice Aq nq cq,.slice Ab nb cb] 27 (0,0))))):=⟨_,rfl⟩
    have HJ0:=hD hJ0
    clear hJ0
    refine yfk Zq8 J0 ?_ ?_ ?_
    ·intro A0
     rw[HJ0.out]
     exact ⟨0,0,0,none,0,A0.getD 41 undef,A0.getD 42 undef,A0.getD 43 undef,A0.getD 44 undef,A0.getD 45 undef,A0.getD 46 undef,A0.getD 47 undef,A0.getD 48 undef,A0.getD 49 undef,A0.getD 50 undef,by simp only[ybm],zn,zn,zn,zn,zn,zn,zn,zn,zn,zn,zn,zn,zn,zn,fun _=>frS,zn⟩
    ·intro Lz a W hsize hcl hJ i hi
     have hil:=ybn hi
     have hnl:=ybi hi
     have hnow:=ybh hi hsize
     have HCL:=hD hcl
     rw[HJ0.out] at hJ
     obtain ⟨b1,b2,b4,A6,c6,x41,x42,x43,x44,x45,x46,x47,x48,x49,x50,rfl,HF⟩:=hJ
     have HH:=hD HF
     have hi2:i=0∨i=1∨i=2∨i=3∨i=4∨i=5∨i=6∨i=7∨i=8∨i=9∨i=10:=by simp at hil;omega
     clear hil hcl HF
     rcases hi2 with rfl|rfl|rfl|rfl|rfl|rfl|rfl|rfl|rfl|rfl|rfl
     ·clear hi HCL
      simp only[zA,zB,zC]
      refine yaa rfl rfl fun K hK=>?_
      go_wp2_with fail
      rw[HJ0.out]
      exact ⟨b1,b2,b4,A6,c6,.pointer (some ⟨X,1,none⟩),x42,x43,x44,x45,x46,x47,x48,x49,x50,(by simp only[zA,zB,zC]),zT HH⟩
     ·have hns:¬ Ls Lz 8:=fun h=>hnl (dq HCL h 1)
      have D0:=(pj0 HH.out) (rq hi 0)
      have V0:=(pj14 HH.out) hns
      have hnla:¬ Ls Lz 10:=fun h=>hns (HCL.out.dep2 h 8 Zq8)
      clear hi HCL
      simp only[zA,zB,zC,D0]
      have k0:=ybw V0 hSX hXp C1.out
      refine yaa rfl rfl fun K hK=>?_
      go_wp2_with fail
      rw[HJ0.out]
      exact ⟨b1,b2,b4,A6,c6,x41,.slice Ab nb cb,x43,x44,x45,x46,x47,x48,x49,x50,(by simp only[zA,zB,zC,D0]),zT HH⟩
     ·clear hi HCL
      simp only[zA,zB,zC]
      refine yaa rfl rfl fun K hK=>?_
      go_wp2_with fail
      rw[HJ0.out]
      exact ⟨b1,b2,b4,A6,c6,x41,x42,.string a0,x44,x45,x46,x47,x48,x49,x50,(by simp only[zA,zB,zC]),zT HH⟩
     ·have hns:¬ Ls Lz 8:=fun h=>hnl (dq HCL (dq HCL (dq HCL h 7) 6) 3)
      have D2:=(pj2 HH.out) (rq hi 2)
      have V0:=(pj14 HH.out) hns
      have hk6:¬ Ls Lz 6:=fun h=>hnl (dq HCL h 3)
      have hnla:¬ Ls Lz 10:=fun h=>hns (HCL.out.dep2 h 8 Zq8)
      clear hi HCL
      simp only[zA,zB,zC,D2]
      refine yaa rfl rfl fun K hK=>?_
      go_wp2_with fail
      rw[HJ0.out]
      exact ⟨W.heap.size,b2,b4,A6,c6,x41,x42,x43,.slice (some ⟨W.heap.size,0,none⟩) 1 1,x45,x46,x47,x48,x49,x50,(by simp only[zA,zB,zC,D2]),zk HH,zk HH,zk HH,fun _=>rfl,zk HH,zk HH,Ba hk6,zk HH,zk HH,zk HH,Ba hnla,fun _ _=>ybg rfl rfl (show R≤W.heap.size by have:=V0.gr.size;omega) rfl,(Bt (pj12 HH.out) fun x=>TrQ.call x (Fr.gr (Fr.alloc (Fr.start V0.cur) _)) Zq6),(Bt (pj13 HH.out) fun x=>LitS.fr x (Fr.alloc (Fr.start V0.cur) _) Zq6),fun h=>Fr.call ((pj14 HH.out) (fun h2=>h h2.fwd)) (Fr.cur (Fr.alloc (Fr.start V0.cur) _)) (Fr.gr (Fr.alloc (Fr.start V0.cur) _)),Bb hns⟩
     ·have hns:¬ Ls Lz 8:=fun h=>hnl (dq HCL (dq HCL (dq HCL (dq HCL h 7) 6) 5) 4)
      have V0:=(pj14 HH.out) hns
      have hnla:¬ Ls Lz 10:=fun h=>hns (HCL.out.dep2 h 8 Zq8)
      clear hi HCL
      simp only[zA,zB,zC]
      have k0:=ybw V0 hYl hYp G0.out
      have k1:=ybw V0 hYl hYp G1.out
      have k2:=ybw V0 hYl hYp G2.out
      have k3:=ybw V0 hYl hYp G3.out
      have k4:=ybw V0 hYl hYp G4.out
      refine yaa rfl rfl fun K hK=>?_
      go_wp2_with fail
      rw[HJ0.out]
      exact ⟨b1,b2,b4,A6,c6,x41,x42,x43,x44,.agg #[.int .i64 1,.string gy,.slice (some ⟨gb,0,none⟩) 1 1,.int .i64 0,.slice none 0 0],x46,x47,x48,x49,x50,(by simp only[zA,zB,zC]),zT HH⟩
     ·have hns:¬ Ls Lz 8:=fun h=>hnl (dq HCL (dq HCL (dq HCL h 7) 6) 5)
      have D4:=(pj4 HH.out) (rq hi 4)
      have V0:=(pj14 HH.out) hns
      have hk6:¬ Ls Lz 6:=fun h=>hnl (dq HCL h 5)
      have hnla:¬ Ls Lz 10:=fun h=>hns (HCL.out.dep2 h 8 Zq8)
      clear hi HCL
      simp only[zA,zB,zC,D4]
      refine yaa rfl rfl fun K hK=>?_
      go_wp2_with fail
      rw[HJ0.out]
      exact ⟨b1,W.heap.size,b4,A6,c6,x41,x42,x43,x44,x45,.slice (some ⟨W.heap.size,0,none⟩) 1 1,x47,x48,x49,x50,(by simp only[zA,zB,zC,D4]),zk HH,zk HH,zk HH,zk HH,zk HH,fun _=>rfl,Ba hk6,zk HH,zk HH,zk HH,Ba hnla,(Bt (pj11 HH.out) fun x=>yam x (Fr.alloc (Fr.start V0.cur) _) Zq6),fun _ _=>(ElQ.one (yb3 (d:=4) (h:=⟨1,gy,[ga],0⟩) (Aa:=some ⟨gb,0,none⟩) (ca:=1) (Ab:=none) (cb:=0) (yam (yam HGA.out V0 Zq6) (Fr.alloc (Fr.start V0.cur) _) Zq6) (yc5 4) (Nat.le_refl _))).tr (ybg rfl rfl (show R≤W.heap.size by have:=V0.gr.size;omega) rfl) rfl,(Bt (pj13 HH.out) fun x=>LitS.fr x (Fr.alloc (Fr.start V0.cur) _) Zq6),fun h=>Fr.call ((pj14 HH.out) (fun h2=>h h2.fwd)) (Fr.cur (Fr.alloc (Fr.start V0.cur) _)) (Fr.gr (Fr.alloc (Fr.start V0.cur) _)),Bb hns⟩
     ·have D3:=(pj3 HH.out) (rq hi 3)
      have D5:=(pj5 HH.out) (rq hi 5)
      clear hi HCL
      simp only[zA,zB,zC,D3,D5]
      refine yaa rfl rfl fun K hK=>?_
      go_wp2_with fail
      rw[HJ0.out]
      exact ⟨b1,b2,b4,A6,c6,x41,x42,x43,x44,x45,x46,.agg #[.int .i64 4,.string ⟨#[]⟩,.slice (some ⟨b1,0,none⟩) 1 1,.int .i64 0,.slice (some ⟨b2,0,none⟩) 1 1],x48,x49,x50,(by simp only[zA,zB,zC,D3,D5]),zT HH⟩
     ·have hns:¬ Ls Lz 8:=fun h=>hnl (dq HCL h 7)
      have D6:=(pj6 HH.out) (rq hi 6)
      have E3:=(pj11 HH.out) (dq HCL (rq hi 6) 3) hns
      have E5:=(pj12 HH.out) (dq HCL (rq hi 6) 5) hns
      have V0:=(pj14 HH.out) hns
      have hnla:¬ Ls Lz 10:=fun h=>hns (HCL.out.dep2 h 8 Zq8)
      clear hi HCL
      simp only[zA,zB,zC,D6]
      refine yaa rfl rfl fun K hK=>?_
      go_wp2_with fail
      rw[HJ0.out]
      exact ⟨b1,b2,W.heap.size,A6,c6,x41,x42,x43,x44,x45,x46,x47,.slice (some ⟨W.heap.size,0,none⟩) 1 1,x49,x50,(by simp only[zA,zB,zC,D6]),zk HH,zk HH,zk HH,zk HH,zk HH,zk HH,zk HH,fun _=>rfl,zk HH,zk HH,Ba hnla,(Bt (pj11 HH.out) fun x=>yam x (Fr.alloc (Fr.start V0.cur) _) Zq6),(Bt (pj12 HH.out) fun x=>TrQ.call x (Fr.gr (Fr.alloc (Fr.start V0.cur) _)) Zq6),fun _ _=>⟨_,_,ybg rfl rfl (show R≤W.heap.size by have:=V0.gr.size;omega) rfl,yb3 (d:=5) (h:=⟨4,⟨#[]⟩,[a0],0⟩) (Aa:=some ⟨b1,0,none⟩) (ca:=1) (Ab:=some ⟨b2,0,none⟩) (cb:=1) (yam E3 (Fr.alloc (Fr.start V0.cur) _) Zq6) (TrQ.call E5 (Fr.gr (Fr.alloc (Fr.start V0.cur) _)) Zq6) (Nat.le_refl _),by rw[yb5,yde,yb5,ydd];show 0+(1+(a0.size+0)+(1+(gy.size+(1+(ga.size+0)+0))))≤_;omega⟩,fun h=>Fr.call ((pj14 HH.out) (fun h2=>h h2.fwd)) (Fr.cur (Fr.alloc (Fr.start V0.cur) _)) (Fr.gr (Fr.alloc (Fr.start V0.cur) _)),Bb hns⟩
     ·have hns:¬ Ls Lz 8:=hnl
      have D1:=(pj1 HH.out) (rq hi 1)
      have D7:=(pj7 HH.out) (rq hi 7)
      have E7:=(pj13 HH.out) (rq hi 7) hns
      have V0:=(pj14 HH.out) hns
      have hnla:¬ Ls Lz 10:=fun h=>hns (HCL.out.dep2 h 8 Zq8)
      clear hi HCL
      simp only[zA,zB,zC,D1,D7]
      have SW:=hD (S8.out.call hp1w V0)
      obtain ⟨cs,s,hlr,hls,hlz⟩:=E7
      refine yaa rfl rfl fun K hK=>?_
      simp only[List.getElem_toArray,List.getElem_cons_succ,List.getElem_cons_zero]
      refine yae _ rfl _ _ 25 rfl (w1.heap.size+1) 66 i0 _ 5 80 Tryz.underlying25 hi hz0 hz1 hz2 rfl Zq9 _ _ _ rfl SW.out.bo _ 1 1 _ rfl hlr.rd hls.ones ?c3 ?c4 ?c5 ?_
      case c3=>simp only[maxLen];omega
      case c4=>omega
      case c5=>have:=V0.gr.size;omega
      intro v6 W6 own6 gr6 hat
      obtain ⟨A7,c7,rfl,_,_,_⟩:=yah own6
      go_wp2_with fail
      rw[HJ0.out]
      exact ⟨b1,b2,b4,A7,c7,x41,x42,x43,x44,x45,x46,x47,x48,.slice A7 (nb+1) c7,x50,(by first|(simp only[zA,zB,zC,D1,D7] <;> fail)|simp only[Act.put,zA,zB,zC,D1,D7]),zk HH,zk HH,zk HH,zk HH,zk HH,zk HH,zk HH,zk HH,fun _=>rfl,zk HH,Ba hnla,zx hnow,zx hnow,zx hnow,zy hnow,fun _ _=>⟨W,cs,s,V0,hls,hlz,own6,gr6,hat,(gr6.block X (lt_of_block SW.out.x) (fun e=>SW.out.vx e.symm)).trans SW.out.x⟩⟩
     ·clear hi HCL
      simp only[zA,zB,zC]
      refine yaa rfl rfl fun K hK=>?_
      go_wp2_with fail
      rw[HJ0.out]
      exact ⟨b1,b2,b4,A6,c6,x41,x42,x43,x44,x45,x46,x47,x48,x49,.pointer (some ⟨X,1,none⟩),(by simp only[zA,zB,zC]),zT HH⟩
     ·have D8:=(pj8 HH.out) (rq hi 8)
      have D9:=(pj9 HH.out) (rq hi 9)
      have HST:=rq hi 8
      have VL:=(pe15 HH.out) HST hnl
      clear hi HCL
      simp only[zA,zB,zC,D8,D9]
      obtain ⟨W5,cs,s,l1,l2,l3,l4,l5,l6,l7⟩:=VL
      have px6:=yaj (j:=1) l7 rfl
      have fx6:=yab (j:=1) l7
      have lx6:=lt_of_block l7
      have PEH:=hD (S8.out.push hp1w l1 l2 HP.out l4 rfl l5 l6 l7)
      have SQH:=hD (yha (l:=l) l3)
      clear l1 l2 l3 l4 l5 l6 l7
      refine yaa rfl rfl fun K hK=>?_
      go_wp2_with fail
      rw[HJ0.out]
      exact ⟨b1,b2,b4,A6,c6,x41,x42,x43,x44,x45,x46,x47,x48,x49,x50,(by simp only[zA,zB,zC,D8,D9]),zk HH,zk HH,zk HH,zk HH,zk HH,zk HH,zk HH,zk HH,zk HH,zk HH,fun _=>⟨_,_,_,_,_,PEH.out,SQH.out⟩,zx (Ls.fwd HST),zx (Ls.fwd HST),zx (Ls.fwd HST),zy (Ls.fwd HST),zx hnow⟩
    ·intro Lz a W hsize hJ hr
     rw[HJ0.out] at hJ
     have hall:=ybj hsize Zq8 hr
     obtain ⟨b1,b2,b4,A6,c6,x41,x42,x43,x44,x45,x46,x47,x48,x49,x50,rfl,HF⟩:=hJ
     have HH:=hD HF
     have HEND:=(pj10 HH.out) (hall 10 Zq9)
     clear HF HH hall hr hsize
     simp only[zA,zB,zC]
     go_wp2_with fail
     go_meet
     obtain ⟨Ab7,nb7,cb7,l7,xs7,e1,e2⟩:=HEND
     exact ⟨Ab7,nb7,cb7,l7,xs7,e1,by omega⟩
   have g0:(x==0)=false:=by simp [e0]
   by_cases e1:x=1
   ·subst e1
    go_upto_region 12 with (fail)
    obtain ⟨J0,hJ0⟩:∃ J:Array Value→Array Bool→Act→World→Prop,J=(fun A0 Lz a W=>∃ (b1:Nat) (y:ByteArray) (b2:Nat) (b3:Nat) (b4:Nat) (b5:Nat) (A6:Option Addr) (c6:Nat),∃ x53 x54 x55 x56 x57 x58 x59 x60 x61 x62 x63 x64 x65 x66 x67 x68:Value,a=⟨((((((((((((((((A0.setIfInBounds 53 x53).setIfInBounds 54 x54).setIfInBounds 55 x55).setIfInBounds 56 x56).setIfInBounds 57 x57).setIfInBounds 58 x58).setIfInBounds 59 x59).setIfInBounds 60 x60).setIfInBounds 61 x61).setIfInBounds 62 x62).setIfInBounds 63 x63).setIfInBounds 64 x64).setIfInBounds 65 x65).setIfInBounds 66 x66).setIfInBounds 67 x67).setIfInBounds 68 x68),[]⟩∧(Ls Lz 0→x53=.pointer (some ⟨X,1,none⟩))∧(Ls Lz 1→x54=.slice Ab nb cb)∧(Ls Lz 2→x55=.string a0)∧(Ls Lz 3→x56=.slice (some ⟨b1,0,none⟩) 1 1)∧(Ls Lz 4→x57=.pointer (some ⟨p,0,none⟩))∧(Ls Lz 5→x58=.slice (some ⟨gn,0,none⟩) nq cn)∧(Ls Lz 6→x59=.string y∧y.size≤9)∧(Ls Lz 7→x60=.slice (some ⟨b2,0,none⟩) 1 1∧y.size≤9)∧(Ls Lz 8→x61=.agg #[.int .i64 1,.string gy,.slice (some ⟨gb,0,none⟩) 1 1,.int .i64 0,.slice none 0 0])∧(Ls Lz 9→x62=.slice (some ⟨b3,0,none⟩) 1 1)∧(Ls Lz 10→x63=.agg #[.int .i64 4,.string ⟨#[]⟩,.slice (some ⟨b2,0,none⟩) 1 1,.int .i64 0,.slice (some ⟨b3,0,none⟩) 1 1]∧y.size≤9)∧(Ls Lz 11→x64=.slice (some ⟨b4,0,none⟩) 1 1∧y.size≤9)∧(Ls Lz 12→x65=.agg #[.int .i64 4,.string ⟨#[]⟩,.slice (some ⟨b1,0,none⟩) 1 1,.int .i64 0,.slice (some ⟨b4,0,none⟩) 1 1]∧y.size≤9)∧(Ls Lz 13→x66=.slice (some ⟨b5,0,none⟩) 1 1)∧(Ls Lz 14→x67=.slice A6 (nb+1) c6)∧(Ls Lz 15→x68=.pointer (some ⟨X,1,none⟩))∧(Ls Lz 16→(∃ (Ab7:Option Addr) (nb7 cb7:Nat) (l7:List (Tr 6)) (xs7:List Value),PD w1 p X Aq nq cq Q Ab7 nb7 cb7 l7 xs7 W∧szT 6 l7≤szT 6 l+50001))∧(Ls Lz 3→¬ Ls Lz 14→RdQ W (fun b=>R≤b) 1 (some ⟨b1,0,none⟩) 1 (strs [a0]))∧(Ls Lz 7→¬ Ls Lz 14→RdQ W (fun b=>R≤b) 1 (some ⟨b2,0,none⟩) 1 (strs [y]))∧(Ls Lz 9→¬ Ls Lz 14→TrQ W (fun b=>R≤b) 4 (some ⟨b3,0,none⟩) 1 [mkT (d:=3) ⟨1,gy,[ga],0⟩ []])∧(Ls Lz 11→¬ Ls Lz 14→TrQ W (fun b=>R≤b) 5 (some ⟨b4,0,none⟩) 1 [mkT (d:=4) ⟨4,⟨#[]⟩,[y],0⟩ [mkT (d:=3) ⟨1,gy,[ga],0⟩ []]])∧(Ls Lz 13→¬ Ls Lz 14→LitS R W b5)∧(¬ Ls Lz 14→Fr w8 p W)∧(Ls Lz 14→¬ Ls Lz 16→(∃ (W5:World) (cs:List Value) (s:Tr 6),Fr w8 p W5∧StQ W5 (fun b=>R≤b) 5 cs s∧szE s≤50000∧W.ownsRow (w1.heap.size+1) 66 5 (.slice A6 (nb+1) c6) (nb+1) (xs++cs)∧W5.grownBy W (Value.slice Ab nb cb).ownBlock∧((Value.slice A6 (nb+1) c6).ownBlock=(Value.slice Ab nb cb).ownBlock∨(Value.slice A6 (nb+1) c6).ownBlock=some W5.heap.size)∧W.heap[X]?=some (.cells #[.slice Aq nq cq,.slice Ab nb cb] 27 (0,0))))):=⟨_,rfl⟩
    have HJ0:=hD hJ0
    clear hJ0
    refine ya3 Zq8 J0 ?_ ?_ ?_
    ·intro A0
     rw[HJ0.out]
     exact ⟨0,⟨#[]⟩,0,0,0,0,none,0,A0.getD 53 undef,A0.getD 54 undef,A0.getD 55 undef,A0.getD 56 undef,A0.getD 57 undef,A0.getD 58 undef,A0.getD 59 undef,A0.getD 60 undef,A0.getD 61 undef,A0.getD 62 undef,A0.getD 63 undef,A0.getD 64 undef,A0.getD 65 undef,A0.getD 66 undef,A0.getD 67 undef,A0.getD 68 undef,by simp only[ybm],zn,zn,zn,zn,zn,zn,zn,zn,zn,zn,zn,zn,zn,zn,zn,zn,zn,zn,zn,zn,zn,zn,fun _=>frS.drew,zn⟩
    ·intro Lz a W hsize hcl hJ i hi
     have hil:=ybn hi
     have hnl:=ybi hi
     have hnow:=ybh hi hsize
     have HCL:=hD hcl
     rw[HJ0.out] at hJ
     obtain ⟨b1,y,b2,b3,b4,b5,A6,c6,x53,x54,x55,x56,x57,x58,x59,x60,x61,x62,x63,x64,x65,x66,x67,x68,rfl,HF⟩:=hJ
     have HH:=hD HF
     have hi2:i=0∨i=1∨i=2∨i=3∨i=4∨i=5∨i=6∨i=7∨i=8∨i=9∨i=10∨i=11∨i=12∨i=13∨i=14∨i=15∨i=16:=by simp at hil;omega
     clear hil hcl HF
     rcases hi2 with rfl|rfl|rfl|rfl|rfl|rfl|rfl|rfl|rfl|rfl|rfl|rfl|rfl|rfl|rfl|rfl|rfl
     ·clear hi HCL
      simp only[zA,zB,zC]
      refine yaa rfl rfl fun K hK=>?_
      go_wp2_with fail
      rw[HJ0.out]
      exact ⟨b1,y,b2,b3,b4,b5,A6,c6,.pointer (some ⟨X,1,none⟩),x54,x55,x56,x57,x58,x59,x60,x61,x62,x63,x64,x65,x66,x67,x68,(by simp only[zA,zB,zC]),zT HH⟩
     ·have hns:¬ Ls Lz 14:=fun h=>hnl (dq HCL h 1)
      have D0:=(pj0 HH.out) (rq hi 0)
      have V0:=(pj22 HH.out) hns
      have hnla:¬ Ls Lz 16:=fun h=>hns (HCL.out.dep2 h 14 Zq8)
      clear hi HCL
      simp only[zA,zB,zC,D0]
      have k0:=ybw V0 hSX hXp C1.out
      refine yaa rfl rfl fun K hK=>?_
      go_wp2_with fail
      rw[HJ0.out]
      exact ⟨b1,y,b2,b3,b4,b5,A6,c6,x53,.slice Ab nb cb,x55,x56,x57,x58,x59,x60,x61,x62,x63,x64,x65,x66,x67,x68,(by simp only[zA,zB,zC,D0]),zT HH⟩
     ·clear hi HCL
      simp only[zA,zB,zC]
      refine yaa rfl rfl fun K hK=>?_
      go_wp2_with fail
      rw[HJ0.out]
      exact ⟨b1,y,b2,b3,b4,b5,A6,c6,x53,x54,.string a0,x56,x57,x58,x59,x60,x61,x62,x63,x64,x65,x66,x67,x68,(by simp only[zA,zB,zC]),zT HH⟩
     ·have hns:¬ Ls Lz 14:=fun h=>hnl (dq HCL (dq HCL (dq HCL h 13) 12) 3)
      have D2:=(pj2 HH.out) (rq hi 2)
      have V0:=(pj22 HH.out) hns
      have hk12:¬ Ls Lz 12:=fun h=>hnl (dq HCL h 3)
      have hnla:¬ Ls Lz 16:=fun h=>hns (HCL.out.dep2 h 14 Zq8)
      clear hi HCL
      simp only[zA,zB,zC,D2]
      refine yaa rfl rfl fun K hK=>?_
      go_wp2_with fail
      rw[HJ0.out]
      exact ⟨W.heap.size,y,b2,b3,b4,b5,A6,c6,x53,x54,x55,.slice (some ⟨W.heap.size,0,none⟩) 1 1,x57,x58,x59,x60,x61,x62,x63,x64,x65,x66,x67,x68,(by simp only[zA,zB,zC,D2]),zk HH,zk HH,zk HH,fun _=>rfl,zk HH,zk HH,zk HH,zk HH,zk HH,zk HH,zk HH,zk HH,Ba hk12,zk HH,zk HH,zk HH,Ba hnla,fun _ _=>ybg rfl rfl (show R≤W.heap.size by have:=V0.gr.size;omega) rfl,(Bt (pj18 HH.out) fun x=>yam x (Fr.alloc (Fr.start V0.cur) _) Zq6),(Bt (pj19 HH.out) fun x=>TrQ.call x (Fr.gr (Fr.alloc (Fr.start V0.cur) _)) Zq6),(Bt (pj20 HH.out) fun x=>TrQ.call x (Fr.gr (Fr.alloc (Fr.start V0.cur) _)) Zq6),(Bt (pj21 HH.out) fun x=>LitS.fr x (Fr.alloc (Fr.start V0.cur) _) Zq6),fun h=>Fr.call ((pj22 HH.out) (fun h2=>h h2.fwd)) (Fr.cur (Fr.alloc (Fr.start V0.cur) _)) (Fr.gr (Fr.alloc (Fr.start V0.cur) _)),Bb hns⟩
     ·clear hi HCL
      simp only[zA,zB,zC]
      refine yaa rfl rfl fun K hK=>?_
      go_wp2_with fail
      rw[HJ0.out]
      exact ⟨b1,y,b2,b3,b4,b5,A6,c6,x53,x54,x55,x56,.pointer (some ⟨p,0,none⟩),x58,x59,x60,x61,x62,x63,x64,x65,x66,x67,x68,(by simp only[zA,zB,zC]),zT HH⟩
     ·clear hi HCL
      simp only[zA,zB,zC]
      refine yaa rfl rfl fun K hK=>?_
      go_wp2_with fail
      rw[HJ0.out]
      exact ⟨b1,y,b2,b3,b4,b5,A6,c6,x53,x54,x55,x56,x57,.slice (some ⟨gn,0,none⟩) nq cn,x59,x60,x61,x62,x63,x64,x65,x66,x67,x68,(by simp only[zA,zB,zC]),zT HH⟩
     ·have hns:¬ Ls Lz 14:=fun h=>hnl (dq HCL (dq HCL (dq HCL (dq HCL (dq HCL (dq HCL h 13) 12) 11) 10) 7) 6)
      have D4:=(pj4 HH.out) (rq hi 4)
      have D5:=(pj5 HH.out) (rq hi 5)
      have V0:=(pj22 HH.out) hns
      have hk7:¬ Ls Lz 7:=fun h=>hnl (dq HCL h 6)
      have hk10:¬ Ls Lz 10:=fun h=>hnl (dq HCL (dq HCL h 7) 6)
      have hk11:¬ Ls Lz 11:=fun h=>hnl (dq HCL (dq HCL (dq HCL h 10) 7) 6)
      have hk12:¬ Ls Lz 12:=fun h=>hnl (dq HCL (dq HCL (dq HCL (dq HCL h 11) 10) 7) 6)
      have hnla:¬ Ls Lz 16:=fun h=>hns (HCL.out.dep2 h 14 Zq8)
      clear hi HCL
      simp only[zA,zB,zC,D4,D5]
      refine yaa rfl rfl fun K hK=>?_
      go_wp2_with fail
      refine(ydc gn nq cn Q _ p V0.cur HQL.out Zq6 Zq6 (yam HNM.out V0 Zq6).rd hgnp).mono ?_
      rintro e y1 ⟨y7,hy,rfl,hc,hg⟩
      have hy9:y7.size≤9:=HQ9.out y7 hy
      go_wp2_with fail
      rw[HJ0.out]
      exact ⟨b1,y7,b2,b3,b4,b5,A6,c6,x53,x54,x55,x56,x57,x58,.string y7,x60,x61,x62,x63,x64,x65,x66,x67,x68,(by simp only[zA,zB,zC,D4,D5]),zk HH,zk HH,zk HH,zk HH,zk HH,zk HH,fun _=>⟨rfl,hy9⟩,Ba hk7,zk HH,zk HH,Ba hk10,Ba hk11,Ba hk12,zk HH,zk HH,zk HH,Ba hnla,(Bt (pj17 HH.out) fun x=>yam x (Fr.mk hc hg) Zq6),Bb hk7,(Bt (pj19 HH.out) fun x=>TrQ.call x (Fr.gr (Fr.mk hc hg)) Zq6),Bb hk11,(Bt (pj21 HH.out) fun x=>LitS.fr x (Fr.mk hc hg) Zq6),fun h=>Fr.call ((pj22 HH.out) (fun h2=>h h2.fwd)) (Fr.cur (Fr.mk hc hg)) (Fr.gr (Fr.mk hc hg)),Bb hns⟩
     ·have hns:¬ Ls Lz 14:=fun h=>hnl (dq HCL (dq HCL (dq HCL (dq HCL (dq HCL h 13) 12) 11) 10) 7)
      have D6:=(pj6 HH.out) (rq hi 6)
      have V0:=(pj22 HH.out) hns
      have hk10:¬ Ls Lz 10:=fun h=>hnl (dq HCL h 7)
      have hk11:¬ Ls Lz 11:=fun h=>hnl (dq HCL (dq HCL h 10) 7)
      have hk12:¬ Ls Lz 12:=fun h=>hnl (dq HCL (dq HCL (dq HCL h 11) 10) 7)
      have hnla:¬ Ls Lz 16:=fun h=>hns (HCL.out.dep2 h 14 Zq8)
      clear hi HCL
      obtain ⟨D6,X6⟩:=D6
      simp only[zA,zB,zC,D6]
      refine yaa rfl rfl fun K hK=>?_
      go_wp2_with fail
      rw[HJ0.out]
      exact ⟨b1,y,W.heap.size,b3,b4,b5,A6,c6,x53,x54,x55,x56,x57,x58,x59,.slice (some ⟨W.heap.size,0,none⟩) 1 1,x61,x62,x63,x64,x65,x66,x67,x68,(by simp only[zA,zB,zC,D6]),zk HH,zk HH,zk HH,zk HH,zk HH,zk HH,zk HH,fun _=>⟨rfl,X6⟩,zk HH,zk HH,Ba hk10,Ba hk11,Ba hk12,zk HH,zk HH,zk HH,Ba hnla,(Bt (pj17 HH.out) fun x=>yam x (Fr.alloc (Fr.start V0.cur) _) Zq6),fun _ _=>ybg rfl rfl (show R≤W.heap.size by have:=V0.gr.size;omega) rfl,(Bt (pj19 HH.out) fun x=>TrQ.call x (Fr.gr (Fr.alloc (Fr.start V0.cur) _)) Zq6),Bb hk11,(Bt (pj21 HH.out) fun x=>LitS.fr x (Fr.alloc (Fr.start V0.cur) _) Zq6),fun h=>Fr.call ((pj22 HH.out) (fun h2=>h h2.fwd)) (Fr.cur (Fr.alloc (Fr.start V0.cur) _)) (Fr.gr (Fr.alloc (Fr.start V0.cur) _)),Bb hns⟩
     ·have hns:¬ Ls Lz 14:=fun h=>hnl (dq HCL (dq HCL (dq HCL (dq HCL (dq HCL (dq HCL h 13) 12) 11) 10) 9) 8)
      have V0:=(pj22 HH.out) hns
      have hnla:¬ Ls Lz 16:=fun h=>hns (HCL.out.dep2 h 14 Zq8)
      clear hi HCL
      simp only[zA,zB,zC]
      have k0:=ybw V0 hYl hYp G0.out
      have k1:=ybw V0 hYl hYp G1.out
      have k2:=ybw V0 hYl hYp G2.out
      have k3:=ybw V0 hYl hYp G3.out
      have k4:=ybw V0 hYl hYp G4.out
      refine yaa rfl rfl fun K hK=>?_
      go_wp2_with fail
      rw[HJ0.out]
      exact ⟨b1,y,b2,b3,b4,b5,A6,c6,x53,x54,x55,x56,x57,x58,x59,x60,.agg #[.int .i64 1,.string gy,.slice (some ⟨gb,0,none⟩) 1 1,.int .i64 0,.slice none 0 0],x62,x63,x64,x65,x66,x67,x68,(by simp only[zA,zB,zC]),zT HH⟩
     ·have hns:¬ Ls Lz 14:=fun h=>hnl (dq HCL (dq HCL (dq HCL (dq HCL (dq HCL h 13) 12) 11) 10) 9)
      have D8:=(pj8 HH.out) (rq hi 8)
      have V0:=(pj22 HH.out) hns
      have hk10:¬ Ls Lz 10:=fun h=>hnl (dq HCL h 9)
      have hk11:¬ Ls Lz 11:=fun h=>hnl (dq HCL (dq HCL h 10) 9)
      have hk12:¬ Ls Lz 12:=fun h=>hnl (dq HCL (dq HCL (dq HCL h 11) 10) 9)
      have hnla:¬ Ls Lz 16:=fun h=>hns (HCL.out.dep2 h 14 Zq8)
      clear hi HCL
      simp only[zA,zB,zC,D8]
      refine yaa rfl rfl fun K hK=>?_
      go_wp2_with fail
      rw[HJ0.out]
      exact ⟨b1,y,b2,W.heap.size,b4,b5,A6,c6,x53,x54,x55,x56,x57,x58,x59,x60,x61,.slice (some ⟨W.heap.size,0,none⟩) 1 1,x63,x64,x65,x66,x67,x68,(by simp only[zA,zB,zC,D8]),zk HH,zk HH,zk HH,zk HH,zk HH,zk HH,zk HH,zk HH,zk HH,fun _=>rfl,Ba hk10,Ba hk11,Ba hk12,zk HH,zk HH,zk HH,Ba hnla,(Bt (pj17 HH.out) fun x=>yam x (Fr.alloc (Fr.start V0.cur) _) Zq6),(Bt (pj18 HH.out) fun x=>yam x (Fr.alloc (Fr.start V0.cur) _) Zq6),fun _ _=>(ElQ.one (yb3 (d:=3) (h:=⟨1,gy,[ga],0⟩) (Aa:=some ⟨gb,0,none⟩) (ca:=1) (Ab:=none) (cb:=0) (yam (yam HGA.out V0 Zq6) (Fr.alloc (Fr.start V0.cur) _) Zq6) (yc5 3) (Nat.le_refl _))).tr (ybg rfl rfl (show R≤W.heap.size by have:=V0.gr.size;omega) rfl) rfl,Bb hk11,(Bt (pj21 HH.out) fun x=>LitS.fr x (Fr.alloc (Fr.start V0.cur) _) Zq6),fun h=>Fr.call ((pj22 HH.out) (fun h2=>h h2.fwd)) (Fr.cur (Fr.alloc (Fr.start V0.cur) _)) (Fr.gr (Fr.alloc (Fr.start V0.cur) _)),Bb hns⟩
     ·have D7:=(pj7 HH.out) (rq hi 7)
      have D9:=(pj9 HH.out) (rq hi 9)
      clear hi HCL
      obtain ⟨D7,X7⟩:=D7
      simp only[zA,zB,zC,D7,D9]
      refine yaa rfl rfl fun K hK=>?_
      go_wp2_with fail
      rw[HJ0.out]
      exact ⟨b1,y,b2,b3,b4,b5,A6,c6,x53,x54,x55,x56,x57,x58,x59,x60,x61,x62,.agg #[.int .i64 4,.string ⟨#[]⟩,.slice (some ⟨b2,0,none⟩) 1 1,.int .i64 0,.slice (some ⟨b3,0,none⟩) 1 1],x64,x65,x66,x67,x68,(by simp only[zA,zB,zC,D7,D9]),zk HH,zk HH,zk HH,zk HH,zk HH,zk HH,zk HH,zk HH,zk HH,zk HH,fun _=>⟨rfl,X7⟩,zk HH,zk HH,zk HH,zk HH,zk HH,zk HH,zw HH,zw HH,zw HH,zw HH,zw HH,zi HH,zw HH⟩
     ·have hns:¬ Ls Lz 14:=fun h=>hnl (dq HCL (dq HCL (dq HCL h 13) 12) 11)
      have D10:=(pj10 HH.out) (rq hi 10)
      have E7:=(pj18 HH.out) (dq HCL (rq hi 10) 7) hns
      have E9:=(pj19 HH.out) (dq HCL (rq hi 10) 9) hns
      have V0:=(pj22 HH.out) hns
      have hk12:¬ Ls Lz 12:=fun h=>hnl (dq HCL h 11)
      have hnla:¬ Ls Lz 16:=fun h=>hns (HCL.out.dep2 h 14 Zq8)
      clear hi HCL
      obtain ⟨D10,X10⟩:=D10
      simp only[zA,zB,zC,D10]
      refine yaa rfl rfl fun K hK=>?_
      go_wp2_with fail
      rw[HJ0.out]
      exact ⟨b1,y,b2,b3,W.heap.size,b5,A6,c6,x53,x54,x55,x56,x57,x58,x59,x60,x61,x62,x63,.slice (some ⟨W.heap.size,0,none⟩) 1 1,x65,x66,x67,x68,(by simp only[zA,zB,zC,D10]),zk HH,zk HH,zk HH,zk HH,zk HH,zk HH,zk HH,zk HH,zk HH,zk HH,zk HH,fun _=>⟨rfl,X10⟩,Ba hk12,zk HH,zk HH,zk HH,Ba hnla,(Bt (pj17 HH.out) fun x=>yam x (Fr.alloc (Fr.start V0.cur) _) Zq6),(Bt (pj18 HH.out) fun x=>yam x (Fr.alloc (Fr.start V0.cur) _) Zq6),(Bt (pj19 HH.out) fun x=>TrQ.call x (Fr.gr (Fr.alloc (Fr.start V0.cur) _)) Zq6),fun _ _=>(ElQ.one (yb3 (d:=4) (h:=⟨4,⟨#[]⟩,[y],0⟩) (Aa:=some ⟨b2,0,none⟩) (ca:=1) (Ab:=some ⟨b3,0,none⟩) (cb:=1) (yam E7 (Fr.alloc (Fr.start V0.cur) _) Zq6) (TrQ.call E9 (Fr.gr (Fr.alloc (Fr.start V0.cur) _)) Zq6) (Nat.le_refl _))).tr (ybg rfl rfl (show R≤W.heap.size by have:=V0.gr.size;omega) rfl) rfl,(Bt (pj21 HH.out) fun x=>LitS.fr x (Fr.alloc (Fr.start V0.cur) _) Zq6),fun h=>Fr.call ((pj22 HH.out) (fun h2=>h h2.fwd)) (Fr.cur (Fr.alloc (Fr.start V0.cur) _)) (Fr.gr (Fr.alloc (Fr.start V0.cur) _)),Bb hns⟩
     ·have D3:=(pj3 HH.out) (rq hi 3)
      have D11:=(pj11 HH.out) (rq hi 11)
      clear hi HCL
      obtain ⟨D11,X11⟩:=D11
      simp only[zA,zB,zC,D3,D11]
      refine yaa rfl rfl fun K hK=>?_
      go_wp2_with fail
      rw[HJ0.out]
      exact ⟨b1,y,b2,b3,b4,b5,A6,c6,x53,x54,x55,x56,x57,x58,x59,x60,x61,x62,x63,x64,.agg #[.int .i64 4,.string ⟨#[]⟩,.slice (some ⟨b1,0,none⟩) 1 1,.int .i64 0,.slice (some ⟨b4,0,none⟩) 1 1],x66,x67,x68,(by simp only[zA,zB,zC,D3,D11]),zk HH,zk HH,zk HH,zk HH,zk HH,zk HH,zk HH,zk HH,zk HH,zk HH,zk HH,zk HH,fun _=>⟨rfl,X11⟩,zk HH,zk HH,zk HH,zk HH,zw HH,zw HH,zw HH,zw HH,zw HH,zi HH,zw HH⟩
     ·have hns:¬ Ls Lz 14:=fun h=>hnl (dq HCL h 13)
      have D12:=(pj12 HH.out) (rq hi 12)
      have E3:=(pj17 HH.out) (dq HCL (rq hi 12) 3) hns
      have E11:=(pj20 HH.out) (dq HCL (rq hi 12) 11) hns
      have V0:=(pj22 HH.out) hns
      have hnla:¬ Ls Lz 16:=fun h=>hns (HCL.out.dep2 h 14 Zq8)
      clear hi HCL
      obtain ⟨D12,X12⟩:=D12
      simp only[zA,zB,zC,D12]
      refine yaa rfl rfl fun K hK=>?_
      go_wp2_with fail
      rw[HJ0.out]
      exact ⟨b1,y,b2,b3,b4,W.heap.size,A6,c6,x53,x54,x55,x56,x57,x58,x59,x60,x61,x62,x63,x64,x65,.slice (some ⟨W.heap.size,0,none⟩) 1 1,x67,x68,(by simp only[zA,zB,zC,D12]),zk HH,zk HH,zk HH,zk HH,zk HH,zk HH,zk HH,zk HH,zk HH,zk HH,zk HH,zk HH,zk HH,fun _=>rfl,zk HH,zk HH,Ba hnla,(Bt (pj17 HH.out) fun x=>yam x (Fr.alloc (Fr.start V0.cur) _) Zq6),(Bt (pj18 HH.out) fun x=>yam x (Fr.alloc (Fr.start V0.cur) _) Zq6),(Bt (pj19 HH.out) fun x=>TrQ.call x (Fr.gr (Fr.alloc (Fr.start V0.cur) _)) Zq6),(Bt (pj20 HH.out) fun x=>TrQ.call x (Fr.gr (Fr.alloc (Fr.start V0.cur) _)) Zq6),fun _ _=>⟨_,_,ybg rfl rfl (show R≤W.heap.size by have:=V0.gr.size;omega) rfl,yb3 (d:=5) (h:=⟨4,⟨#[]⟩,[a0],0⟩) (Aa:=some ⟨b1,0,none⟩) (ca:=1) (Ab:=some ⟨b4,0,none⟩) (cb:=1) (yam E3 (Fr.alloc (Fr.start V0.cur) _) Zq6) (TrQ.call E11 (Fr.gr (Fr.alloc (Fr.start V0.cur) _)) Zq6) (Nat.le_refl _),by rw[yb5,yde,yb5,yde,yb5,ydd];show 0+(1+(a0.size+0)+(1+(0+(1+(y.size+0)+(1+(gy.size+(1+(ga.size+0)+0)))))))≤_;omega⟩,fun h=>Fr.call ((pj22 HH.out) (fun h2=>h h2.fwd)) (Fr.cur (Fr.alloc (Fr.start V0.cur) _)) (Fr.gr (Fr.alloc (Fr.start V0.cur) _)),Bb hns⟩
     ·have hns:¬ Ls Lz 14:=hnl
      have D1:=(pj1 HH.out) (rq hi 1)
      have D13:=(pj13 HH.out) (rq hi 13)
      have E13:=(pj21 HH.out) (rq hi 13) hns
      have V0:=(pj22 HH.out) hns
      have hnla:¬ Ls Lz 16:=fun h=>hns (HCL.out.dep2 h 14 Zq8)
      clear hi HCL
      simp only[zA,zB,zC,D1,D13]
      have SW:=hD (S8.out.call hp1w V0)
      obtain ⟨cs,s,hlr,hls,hlz⟩:=E13
      refine yaa rfl rfl fun K hK=>?_
      simp only[List.getElem_toArray,List.getElem_cons_succ,List.getElem_cons_zero]
      refine yae _ rfl _ _ 25 rfl (w1.heap.size+1) 66 i0 _ 5 80 Tryz.underlying25 hi hz0 hz1 hz2 rfl Zq9 _ _ _ rfl SW.out.bo _ 1 1 _ rfl hlr.rd hls.ones ?c3 ?c4 ?c5 ?_
      case c3=>simp only[maxLen];omega
      case c4=>omega
      case c5=>have:=V0.gr.size;omega
      intro v6 W6 own6 gr6 hat
      obtain ⟨A7,c7,rfl,_,_,_⟩:=yah own6
      go_wp2_with fail
      rw[HJ0.out]
      exact ⟨b1,y,b2,b3,b4,b5,A7,c7,x53,x54,x55,x56,x57,x58,x59,x60,x61,x62,x63,x64,x65,x66,.slice A7 (nb+1) c7,x68,(by first|(simp only[zA,zB,zC,D1,D13] <;> fail)|simp only[Act.put,zA,zB,zC,D1,D13]),zk HH,zk HH,zk HH,zk HH,zk HH,zk HH,zk HH,zk HH,zk HH,zk HH,zk HH,zk HH,zk HH,zk HH,fun _=>rfl,zk HH,Ba hnla,zx hnow,zx hnow,zx hnow,zx hnow,zx hnow,zy hnow,fun _ _=>⟨W,cs,s,V0,hls,hlz,own6,gr6,hat,(gr6.block X (lt_of_block SW.out.x) (fun e=>SW.out.vx e.symm)).trans SW.out.x⟩⟩
     ·clear hi HCL
      simp only[zA,zB,zC]
      refine yaa rfl rfl fun K hK=>?_
      go_wp2_with fail
      rw[HJ0.out]
      exact ⟨b1,y,b2,b3,b4,b5,A6,c6,x53,x54,x55,x56,x57,x58,x59,x60,x61,x62,x63,x64,x65,x66,x67,.pointer (some ⟨X,1,none⟩),(by simp only[zA,zB,zC]),zT HH⟩
     ·have D14:=(pj14 HH.out) (rq hi 14)
      have D15:=(pj15 HH.out) (rq hi 15)
      have HST:=rq hi 14
      have VL:=(pe23 HH.out) HST hnl
      clear hi HCL
      simp only[zA,zB,zC,D14,D15]
      obtain ⟨W5,cs,s,l1,l2,l3,l4,l5,l6,l7⟩:=VL
      have px6:=yaj (j:=1) l7 rfl
      have fx6:=yab (j:=1) l7
      have lx6:=lt_of_block l7
      have PEH:=hD (S8.out.push hp1w l1 l2 HP.out l4 rfl l5 l6 l7)
      have SQH:=hD (yha (l:=l) l3)
      clear l1 l2 l3 l4 l5 l6 l7
      refine yaa rfl rfl fun K hK=>?_
      go_wp2_with fail
      rw[HJ0.out]
      exact ⟨b1,y,b2,b3,b4,b5,A6,c6,x53,x54,x55,x56,x57,x58,x59,x60,x61,x62,x63,x64,x65,x66,x67,x68,(by simp only[zA,zB,zC,D14,D15]),zk HH,zk HH,zk HH,zk HH,zk HH,zk HH,zk HH,zk HH,zk HH,zk HH,zk HH,zk HH,zk HH,zk HH,zk HH,zk HH,fun _=>⟨_,_,_,_,_,PEH.out,SQH.out⟩,zx (Ls.fwd HST),zx (Ls.fwd HST),zx (Ls.fwd HST),zx (Ls.fwd HST),zx (Ls.fwd HST),zy (Ls.fwd HST),zx hnow⟩
    ·intro Lz a W hsize hJ hr
     rw[HJ0.out] at hJ
     have hall:=ybj hsize Zq8 hr
     obtain ⟨b1,y,b2,b3,b4,b5,A6,c6,x53,x54,x55,x56,x57,x58,x59,x60,x61,x62,x63,x64,x65,x66,x67,x68,rfl,HF⟩:=hJ
     have HH:=hD HF
     have HEND:=(pj16 HH.out) (hall 16 Zq9)
     clear HF HH hall hr hsize
     simp only[zA,zB,zC]
     go_wp2_with fail
     go_meet
     obtain ⟨Ab7,nb7,cb7,l7,xs7,e1,e2⟩:=HEND
     exact ⟨Ab7,nb7,cb7,l7,xs7,e1,by omega⟩
   have g1:(x==1)=false:=by simp [e1]
   by_cases e2:x=2
   ·subst e2
    go_upto_region 14 with (fail)
    obtain ⟨J0,hJ0⟩:∃ J:Array Value→Array Bool→Act→World→Prop,J=(fun A0 Lz a W=>∃ (b1:Nat) (b2:Nat) (b4:Nat) (A6:Option Addr) (c6:Nat),∃ x71 x72 x73 x74 x75 x76 x77 x78 x79 x80:Value,a=⟨((((((((((A0.setIfInBounds 71 x71).setIfInBounds 72 x72).setIfInBounds 73 x73).setIfInBounds 74 x74).setIfInBounds 75 x75).setIfInBounds 76 x76).setIfInBounds 77 x77).setIfInBounds 78 x78).setIfInBounds 79 x79).setIfInBounds 80 x80),[]⟩∧(Ls Lz 0→x71=.pointer (some ⟨X,1,none⟩))∧(Ls Lz 1→x72=.slice Ab nb cb)∧(Ls Lz 2→x73=.string a0)∧(Ls Lz 3→x74=.slice (some ⟨b1,0,none⟩) 2 2)∧(Ls Lz 4→x75=.agg #[.int .i64 6,.string ⟨#[]⟩,.slice (some ⟨b1,0,none⟩) 2 2,.int .i64 0,.slice none 0 0])∧(Ls Lz 5→x76=.slice (some ⟨b2,0,none⟩) 1 1)∧(Ls Lz 6→x77=.agg #[.int .i64 2,.string ⟨#[]⟩,.slice none 0 0,.int .i64 1,.slice (some ⟨b2,0,none⟩) 1 1])∧(Ls Lz 7→x78=.slice (some ⟨b4,0,none⟩) 1 1)∧(Ls Lz 8→x79=.slice A6 (nb+1) c6)∧(Ls Lz 9→x80=.pointer (some ⟨X,1,none⟩))∧(Ls Lz 10→(∃ (Ab7:Option Addr) (nb7 cb7:Nat) (l7:List (Tr 6)) (xs7:List Value),PD w1 p X Aq nq cq Q Ab7 nb7 cb7 l7 xs7 W∧szT 6 l7≤szT 6 l+50001))∧(Ls Lz 3→¬ Ls Lz 8→RdQ W (fun b=>R≤b) 1 (some ⟨b1,0,none⟩) 2 (strs [a0,⟨#[114,57]⟩]))∧(Ls Lz 5→¬ Ls Lz 8→TrQ W (fun b=>R≤b) 5 (some ⟨b2,0,none⟩) 1 [mkT (d:=4) ⟨6,⟨#[]⟩,[a0,⟨#[114,57]⟩],0⟩ []])∧(Ls Lz 7→¬ Ls Lz 8→LitS R W b4)∧(¬ Ls Lz 8→Fr w8 p W)∧(Ls Lz 8→¬ Ls Lz 10→(∃ (W5:World) (cs:List Value) (s:Tr 6),Fr w8 p W5∧StQ W5 (fun b=>R≤b) 5 cs s∧szE s≤50000∧W.ownsRow (w1.heap.size+1) 66 5 (.slice A6 (nb+1) c6) (nb+1) (xs++cs)∧W5.grownBy W (Value.slice Ab nb cb).ownBlock∧((Value.slice A6 (nb+1) c6).ownBlock=(Value.slice Ab nb cb).ownBlock∨(Value.slice A6 (nb+1) c6).ownBlock=some W5.heap.size)∧W.heap[X]?=some (.cells #[.slice Aq nq cq,.slice Ab nb cb] 27 (0,0))))):=⟨_,rfl⟩
    have HJ0:=hD hJ0
    clear hJ0
    refine yfk Zq8 J0 ?_ ?_ ?_
    ·intro A0
     rw[HJ0.out]
     exact ⟨0,0,0,none,0,A0.getD 71 undef,A0.getD 72 undef,A0.getD 73 undef,A0.getD 74 undef,A0.getD 75 undef,A0.getD 76 undef,A0.getD 77 undef,A0.getD 78 undef,A0.getD 79 undef,A0.getD 80 undef,by simp only[ybm],zn,zn,zn,zn,zn,zn,zn,zn,zn,zn,zn,zn,zn,zn,fun _=>frS,zn⟩
    ·intro Lz a W hsize hcl hJ i hi
     have hil:=ybn hi
     have hnl:=ybi hi
     have hnow:=ybh hi hsize
     have HCL:=hD hcl
     rw[HJ0.out] at hJ
     obtain ⟨b1,b2,b4,A6,c6,x71,x72,x73,x74,x75,x76,x77,x78,x79,x80,rfl,HF⟩:=hJ
     have HH:=hD HF
     have hi2:i=0∨i=1∨i=2∨i=3∨i=4∨i=5∨i=6∨i=7∨i=8∨i=9∨i=10:=by simp at hil;omega
     clear hil hcl HF
     rcases hi2 with rfl|rfl|rfl|rfl|rfl|rfl|rfl|rfl|rfl|rfl|rfl
     ·clear hi HCL
      simp only[zA,zB,zC]
      refine yaa rfl rfl fun K hK=>?_
      go_wp2_with fail
      rw[HJ0.out]
      exact ⟨b1,b2,b4,A6,c6,.pointer (some ⟨X,1,none⟩),x72,x73,x74,x75,x76,x77,x78,x79,x80,(by simp only[zA,zB,zC]),zT HH⟩
     ·have hns:¬ Ls Lz 8:=fun h=>hnl (dq HCL h 1)
      have D0:=(pj0 HH.out) (rq hi 0)
      have V0:=(pj14 HH.out) hns
      have hnla:¬ Ls Lz 10:=fun h=>hns (HCL.out.dep2 h 8 Zq8)
      clear hi HCL
      simp only[zA,zB,zC,D0]
      have k0:=ybw V0 hSX hXp C1.out
      refine yaa rfl rfl fun K hK=>?_
      go_wp2_with fail
      rw[HJ0.out]
      exact ⟨b1,b2,b4,A6,c6,x71,.slice Ab nb cb,x73,x74,x75,x76,x77,x78,x79,x80,(by simp only[zA,zB,zC,D0]),zT HH⟩
     ·clear hi HCL
      simp only[zA,zB,zC]
      refine yaa rfl rfl fun K hK=>?_
      go_wp2_with fail
      rw[HJ0.out]
      exact ⟨b1,b2,b4,A6,c6,x71,x72,.string a0,x74,x75,x76,x77,x78,x79,x80,(by simp only[zA,zB,zC]),zT HH⟩
     ·have hns:¬ Ls Lz 8:=fun h=>hnl (dq HCL (dq HCL (dq HCL (dq HCL (dq HCL h 7) 6) 5) 4) 3)
      have D2:=(pj2 HH.out) (rq hi 2)
      have V0:=(pj14 HH.out) hns
      have hk4:¬ Ls Lz 4:=fun h=>hnl (dq HCL h 3)
      have hk5:¬ Ls Lz 5:=fun h=>hnl (dq HCL (dq HCL h 4) 3)
      have hnla:¬ Ls Lz 10:=fun h=>hns (HCL.out.dep2 h 8 Zq8)
      clear hi HCL
      simp only[zA,zB,zC,D2]
      refine yaa rfl rfl fun K hK=>?_
      go_wp2_with fail
      rw[HJ0.out]
      exact ⟨W.heap.size,b2,b4,A6,c6,x71,x72,x73,.slice (some ⟨W.heap.size,0,none⟩) 2 2,x75,x76,x77,x78,x79,x80,(by simp only[zA,zB,zC,D2]),zk HH,zk HH,zk HH,fun _=>rfl,Ba hk4,Ba hk5,zk HH,zk HH,zk HH,zk HH,Ba hnla,fun _ _=>ybg rfl rfl (show R≤W.heap.size by have:=V0.gr.size;omega) rfl,Bb hk5,(Bt (pj13 HH.out) fun x=>LitS.fr x (Fr.alloc (Fr.start V0.cur) _) Zq6),fun h=>Fr.call ((pj14 HH.out) (fun h2=>h h2.fwd)) (Fr.cur (Fr.alloc (Fr.start V0.cur) _)) (Fr.gr (Fr.alloc (Fr.start V0.cur) _)),Bb hns⟩
     ·have D3:=(pj3 HH.out) (rq hi 3)
      clear hi HCL
      simp only[zA,zB,zC,D3]
      refine yaa rfl rfl fun K hK=>?_
      go_wp2_with fail
      rw[HJ0.out]
      exact ⟨b1,b2,b4,A6,c6,x71,x72,x73,x74,.agg #[.int .i64 6,.string ⟨#[]⟩,.slice (some ⟨b1,0,none⟩) 2 2,.int .i64 0,.slice none 0 0],x76,x77,x78,x79,x80,(by simp only[zA,zB,zC,D3]),zT HH⟩
     ·have hns:¬ Ls Lz 8:=fun h=>hnl (dq HCL (dq HCL (dq HCL h 7) 6) 5)
      have D4:=(pj4 HH.out) (rq hi 4)
      have E3:=(pj11 HH.out) (dq HCL (rq hi 4) 3) hns
      have V0:=(pj14 HH.out) hns
      have hk6:¬ Ls Lz 6:=fun h=>hnl (dq HCL h 5)
      have hnla:¬ Ls Lz 10:=fun h=>hns (HCL.out.dep2 h 8 Zq8)
      clear hi HCL
      simp only[zA,zB,zC,D4]
      refine yaa rfl rfl fun K hK=>?_
      go_wp2_with fail
      rw[HJ0.out]
      exact ⟨b1,W.heap.size,b4,A6,c6,x71,x72,x73,x74,x75,.slice (some ⟨W.heap.size,0,none⟩) 1 1,x77,x78,x79,x80,(by simp only[zA,zB,zC,D4]),zk HH,zk HH,zk HH,zk HH,zk HH,fun _=>rfl,Ba hk6,zk HH,zk HH,zk HH,Ba hnla,(Bt (pj11 HH.out) fun x=>yam x (Fr.alloc (Fr.start V0.cur) _) Zq6),fun _ _=>(ElQ.one (yb3 (d:=4) (h:=⟨6,⟨#[]⟩,[a0,⟨#[114,57]⟩],0⟩) (Aa:=some ⟨b1,0,none⟩) (ca:=2) (Ab:=none) (cb:=0) (yam E3 (Fr.alloc (Fr.start V0.cur) _) Zq6) (yc5 4) (Nat.le_refl _))).tr (ybg rfl rfl (show R≤W.heap.size by have:=V0.gr.size;omega) rfl) rfl,(Bt (pj13 HH.out) fun x=>LitS.fr x (Fr.alloc (Fr.start V0.cur) _) Zq6),fun h=>Fr.call ((pj14 HH.out) (fun h2=>h h2.fwd)) (Fr.cur (Fr.alloc (Fr.start V0.cur) _)) (Fr.gr (Fr.alloc (Fr.start V0.cur) _)),Bb hns⟩
     ·have D5:=(pj5 HH.out) (rq hi 5)
      clear hi HCL
      simp only[zA,zB,zC,D5]
      refine yaa rfl rfl fun K hK=>?_
      go_wp2_with fail
      rw[HJ0.out]
      exact ⟨b1,b2,b4,A6,c6,x71,x72,x73,x74,x75,x76,.agg #[.int .i64 2,.string ⟨#[]⟩,.slice none 0 0,.int .i64 1,.slice (some ⟨b2,0,none⟩) 1 1],x78,x79,x80,(by simp only[zA,zB,zC,D5]),zT HH⟩
     ·have hns:¬ Ls Lz 8:=fun h=>hnl (dq HCL h 7)
      have D6:=(pj6 HH.out) (rq hi 6)
      have E5:=(pj12 HH.out) (dq HCL (rq hi 6) 5) hns
      have V0:=(pj14 HH.out) hns
      have hnla:¬ Ls Lz 10:=fun h=>hns (HCL.out.dep2 h 8 Zq8)
      clear hi HCL
      simp only[zA,zB,zC,D6]
      refine yaa rfl rfl fun K hK=>?_
      go_wp2_with fail
      rw[HJ0.out]
      exact ⟨b1,b2,W.heap.size,A6,c6,x71,x72,x73,x74,x75,x76,x77,.slice (some ⟨W.heap.size,0,none⟩) 1 1,x79,x80,(by simp only[zA,zB,zC,D6]),zk HH,zk HH,zk HH,zk HH,zk HH,zk HH,zk HH,fun _=>rfl,zk HH,zk HH,Ba hnla,(Bt (pj11 HH.out) fun x=>yam x (Fr.alloc (Fr.start V0.cur) _) Zq6),(Bt (pj12 HH.out) fun x=>TrQ.call x (Fr.gr (Fr.alloc (Fr.start V0.cur) _)) Zq6),fun _ _=>⟨_,_,ybg rfl rfl (show R≤W.heap.size by have:=V0.gr.size;omega) rfl,yb3 (d:=5) (h:=⟨2,⟨#[]⟩,[],1⟩) (Aa:=none) (ca:=0) (Ab:=some ⟨b2,0,none⟩) (cb:=1) ⟨rfl,fun h=>absurd h Zq11⟩ (TrQ.call E5 (Fr.gr (Fr.alloc (Fr.start V0.cur) _)) Zq6) (Nat.zero_le _),by rw[yb5,yde,yb5,ydd];show 0+(0+0+(1+(0+(2+(a0.size+(2+0))+0))))≤_;omega⟩,fun h=>Fr.call ((pj14 HH.out) (fun h2=>h h2.fwd)) (Fr.cur (Fr.alloc (Fr.start V0.cur) _)) (Fr.gr (Fr.alloc (Fr.start V0.cur) _)),Bb hns⟩
     ·have hns:¬ Ls Lz 8:=hnl
      have D1:=(pj1 HH.out) (rq hi 1)
      have D7:=(pj7 HH.out) (rq hi 7)
      have E7:=(pj13 HH.out) (rq hi 7) hns
      have V0:=(pj14 HH.out) hns
      have hnla:¬ Ls Lz 10:=fun h=>hns (HCL.out.dep2 h 8 Zq8)
      clear hi HCL
      simp only[zA,zB,zC,D1,D7]
      have SW:=hD (S8.out.call hp1w V0)
      obtain ⟨cs,s,hlr,hls,hlz⟩:=E7
      refine yaa rfl rfl fun K hK=>?_
      simp only[List.getElem_toArray,List.getElem_cons_succ,List.getElem_cons_zero]
      refine yae _ rfl _ _ 25 rfl (w1.heap.size+1) 66 i0 _ 5 80 Tryz.underlying25 hi hz0 hz1 hz2 rfl Zq9 _ _ _ rfl SW.out.bo _ 1 1 _ rfl hlr.rd hls.ones ?c3 ?c4 ?c5 ?_
      case c3=>simp only[maxLen];omega
      case c4=>omega
      case c5=>have:=V0.gr.size;omega
      intro v6 W6 own6 gr6 hat
      obtain ⟨A7,c7,rfl,_,_,_⟩:=yah own6
      go_wp2_with fail
      rw[HJ0.out]
      exact ⟨b1,b2,b4,A7,c7,x71,x72,x73,x74,x75,x76,x77,x78,.slice A7 (nb+1) c7,x80,(by first|(simp only[zA,zB,zC,D1,D7] <;> fail)|simp only[Act.put,zA,zB,zC,D1,D7]),zk HH,zk HH,zk HH,zk HH,zk HH,zk HH,zk HH,zk HH,fun _=>rfl,zk HH,Ba hnla,zx hnow,zx hnow,zx hnow,zy hnow,fun _ _=>⟨W,cs,s,V0,hls,hlz,own6,gr6,hat,(gr6.block X (lt_of_block SW.out.x) (fun e=>SW.out.vx e.symm)).trans SW.out.x⟩⟩
     ·clear hi HCL
      simp only[zA,zB,zC]
      refine yaa rfl rfl fun K hK=>?_
      go_wp2_with fail
      rw[HJ0.out]
      exact ⟨b1,b2,b4,A6,c6,x71,x72,x73,x74,x75,x76,x77,x78,x79,.pointer (some ⟨X,1,none⟩),(by simp only[zA,zB,zC]),zT HH⟩
     ·have D8:=(pj8 HH.out) (rq hi 8)
      have D9:=(pj9 HH.out) (rq hi 9)
      have HST:=rq hi 8
      have VL:=(pe15 HH.out) HST hnl
      clear hi HCL
      simp only[zA,zB,zC,D8,D9]
      obtain ⟨W5,cs,s,l1,l2,l3,l4,l5,l6,l7⟩:=VL
      have px6:=yaj (j:=1) l7 rfl
      have fx6:=yab (j:=1) l7
      have lx6:=lt_of_block l7
      have PEH:=hD (S8.out.push hp1w l1 l2 HP.out l4 rfl l5 l6 l7)
      have SQH:=hD (yha (l:=l) l3)
      clear l1 l2 l3 l4 l5 l6 l7
      refine yaa rfl rfl fun K hK=>?_
      go_wp2_with fail
      rw[HJ0.out]
      exact ⟨b1,b2,b4,A6,c6,x71,x72,x73,x74,x75,x76,x77,x78,x79,x80,(by simp only[zA,zB,zC,D8,D9]),zk HH,zk HH,zk HH,zk HH,zk HH,zk HH,zk HH,zk HH,zk HH,zk HH,fun _=>⟨_,_,_,_,_,PEH.out,SQH.out⟩,zx (Ls.fwd HST),zx (Ls.fwd HST),zx (Ls.fwd HST),zy (Ls.fwd HST),zx hnow⟩
    ·intro Lz a W hsize hJ hr
     rw[HJ0.out] at hJ
     have hall:=ybj hsize Zq8 hr
     obtain ⟨b1,b2,b4,A6,c6,x71,x72,x73,x74,x75,x76,x77,x78,x79,x80,rfl,HF⟩:=hJ
     have HH:=hD HF
     have HEND:=(pj10 HH.out) (hall 10 Zq9)
     clear HF HH hall hr hsize
     simp only[zA,zB,zC]
     go_wp2_with fail
     go_meet
     obtain ⟨Ab7,nb7,cb7,l7,xs7,e1,e2⟩:=HEND
     exact ⟨Ab7,nb7,cb7,l7,xs7,e1,by omega⟩
   have g2:(x==2)=false:=by simp [e2]
   by_cases e3:x=3
   ·subst e3
    go_upto_region 16 with (fail)
    obtain ⟨J0,hJ0⟩:∃ J:Array Value→Array Bool→Act→World→Prop,J=(fun A0 Lz a W=>∃ (b1:Nat) (b2:Nat) (y:ByteArray) (b3:Nat) (b5:Nat) (b7:Nat) (b8:Nat) (A6:Option Addr) (c6:Nat),∃ x83 x84 x85 x86 x87 x88 x89 x90 x91 x92 x93 x94 x95 x96 x97:Value,a=⟨(((((((((((((((A0.setIfInBounds 83 x83).setIfInBounds 84 x84).setIfInBounds 85 x85).setIfInBounds 86 x86).setIfInBounds 87 x87).setIfInBounds 88 x88).setIfInBounds 89 x89).setIfInBounds 90 x90).setIfInBounds 91 x91).setIfInBounds 92 x92).setIfInBounds 93 x93).setIfInBounds 94 x94).setIfInBounds 95 x95).setIfInBounds 96 x96).setIfInBounds 97 x97),[]⟩∧(Ls Lz 0→x83=.pointer (some ⟨X,1,none⟩))∧(Ls Lz 1→x84=.slice Ab nb cb)∧(Ls Lz 2→x85=.slice (some ⟨b1,0,none⟩) 1 1)∧(Ls Lz 3→x86=.pointer (some ⟨p,0,none⟩))∧(Ls Lz 4→x87=.slice (some ⟨b2,0,none⟩) 2 2)∧(Ls Lz 5→x88=.string y∧y.size≤9)∧(Ls Lz 6→x89=.slice (some ⟨b3,0,none⟩) 1 1∧y.size≤9)∧(Ls Lz 7→x90=.agg #[.int .i64 1,.string gy,.slice (some ⟨gb,0,none⟩) 1 1,.int .i64 0,.slice none 0 0])∧(Ls Lz 8→x91=.slice (some ⟨b5,0,none⟩) 1 1)∧(Ls Lz 9→x92=.agg #[.int .i64 5,.string ⟨#[]⟩,.slice (some ⟨b3,0,none⟩) 1 1,.int .i64 0,.slice (some ⟨b5,0,none⟩) 1 1]∧y.size≤9)∧(Ls Lz 10→x93=.slice (some ⟨b7,0,none⟩) 1 1∧y.size≤9)∧(Ls Lz 11→x94=.agg #[.int .i64 5,.string ⟨#[]⟩,.slice (some ⟨b1,0,none⟩) 1 1,.int .i64 0,.slice (some ⟨b7,0,none⟩) 1 1]∧y.size≤9)∧(Ls Lz 12→x95=.slice (some ⟨b8,0,none⟩) 1 1)∧(Ls Lz 13→x96=.slice A6 (nb+1) c6)∧(Ls Lz 14→x97=.pointer (some ⟨X,1,none⟩))∧(Ls Lz 15→(∃ (Ab7:Option Addr) (nb7 cb7:Nat) (l7:List (Tr 6)) (xs7:List Value),PD w1 p X Aq nq cq Q Ab7 nb7 cb7 l7 xs7 W∧szT 6 l7≤szT 6 l+50001))∧(Ls Lz 2→¬ Ls Lz 13→RdQ W (fun b=>R≤b) 1 (some ⟨b1,0,none⟩) 1 (strs [⟨#[122,57]⟩]))∧(Ls Lz 4→¬ Ls Lz 13→RdQ W (fun b=>R≤b) 1 (some ⟨b2,0,none⟩) 2 (strs [⟨#[122,57]⟩,⟨#[121,57]⟩]))∧(Ls Lz 6→¬ Ls Lz 13→RdQ W (fun b=>R≤b) 1 (some ⟨b3,0,none⟩) 1 (strs [y]))∧(Ls Lz 8→¬ Ls Lz 13→TrQ W (fun b=>R≤b) 4 (some ⟨b5,0,none⟩) 1 [mkT (d:=3) ⟨1,gy,[ga],0⟩ []])∧(Ls Lz 10→¬ Ls Lz 13→TrQ W (fun b=>R≤b) 5 (some ⟨b7,0,none⟩) 1 [mkT (d:=4) ⟨5,⟨#[]⟩,[y],0⟩ [mkT (d:=3) ⟨1,gy,[ga],0⟩ []]])∧(Ls Lz 12→¬ Ls Lz 13→LitS R W b8)∧(¬ Ls Lz 13→Fr w8 p W)∧(Ls Lz 13→¬ Ls Lz 15→(∃ (W5:World) (cs:List Value) (s:Tr 6),Fr w8 p W5∧StQ W5 (fun b=>R≤b) 5 cs s∧szE s≤50000∧W.ownsRow (w1.heap.size+1) 66 5 (.slice A6 (nb+1) c6) (nb+1) (xs++cs)∧W5.grownBy W (Value.slice Ab nb cb).ownBlock∧((Value.slice A6 (nb+1) c6).ownBlock=(Value.slice Ab nb cb).ownBlock∨(Value.slice A6 (nb+1) c6).ownBlock=some W5.heap.size)∧W.heap[X]?=some (.cells #[.slice Aq nq cq,.slice Ab nb cb] 27 (0,0))))):=⟨_,rfl⟩
    have HJ0:=hD hJ0
    clear hJ0
    refine ya3 Zq8 J0 ?_ ?_ ?_
    ·intro A0
     rw[HJ0.out]
     exact ⟨0,0,⟨#[]⟩,0,0,0,0,none,0,A0.getD 83 undef,A0.getD 84 undef,A0.getD 85 undef,A0.getD 86 undef,A0.getD 87 undef,A0.getD 88 undef,A0.getD 89 undef,A0.getD 90 undef,A0.getD 91 undef,A0.getD 92 undef,A0.getD 93 undef,A0.getD 94 undef,A0.getD 95 undef,A0.getD 96 undef,A0.getD 97 undef,by simp only[ybm],zn,zn,zn,zn,zn,zn,zn,zn,zn,zn,zn,zn,zn,zn,zn,zn,zn,zn,zn,zn,zn,zn,fun _=>frS.drew,zn⟩
    ·intro Lz a W hsize hcl hJ i hi
     have hil:=ybn hi
     have hnl:=ybi hi
     have hnow:=ybh hi hsize
     have HCL:=hD hcl
     rw[HJ0.out] at hJ
     obtain ⟨b1,b2,y,b3,b5,b7,b8,A6,c6,x83,x84,x85,x86,x87,x88,x89,x90,x91,x92,x93,x94,x95,x96,x97,rfl,HF⟩:=hJ
     have HH:=hD HF
     have hi2:i=0∨i=1∨i=2∨i=3∨i=4∨i=5∨i=6∨i=7∨i=8∨i=9∨i=10∨i=11∨i=12∨i=13∨i=14∨i=15:=by simp at hil;omega
     clear hil hcl HF
     rcases hi2 with rfl|rfl|rfl|rfl|rfl|rfl|rfl|rfl|rfl|rfl|rfl|rfl|rfl|rfl|rfl|rfl
     ·clear hi HCL
      simp only[zA,zB,zC]
      refine yaa rfl rfl fun K hK=>?_
      go_wp2_with fail
      rw[HJ0.out]
      exact ⟨b1,b2,y,b3,b5,b7,b8,A6,c6,.pointer (some ⟨X,1,none⟩),x84,x85,x86,x87,x88,x89,x90,x91,x92,x93,x94,x95,x96,x97,(by simp only[zA,zB,zC]),zT HH⟩
     ·have hns:¬ Ls Lz 13:=fun h=>hnl (dq HCL h 1)
      have D0:=(pj0 HH.out) (rq hi 0)
      have V0:=(pj22 HH.out) hns
      have hnla:¬ Ls Lz 15:=fun h=>hns (HCL.out.dep2 h 13 Zq8)
      clear hi HCL
      simp only[zA,zB,zC,D0]
      have k0:=ybw V0 hSX hXp C1.out
      refine yaa rfl rfl fun K hK=>?_
      go_wp2_with fail
      rw[HJ0.out]
      exact ⟨b1,b2,y,b3,b5,b7,b8,A6,c6,x83,.slice Ab nb cb,x85,x86,x87,x88,x89,x90,x91,x92,x93,x94,x95,x96,x97,(by simp only[zA,zB,zC,D0]),zT HH⟩
     ·have hns:¬ Ls Lz 13:=fun h=>hnl (dq HCL (dq HCL (dq HCL h 12) 11) 2)
      have V0:=(pj22 HH.out) hns
      have hk11:¬ Ls Lz 11:=fun h=>hnl (dq HCL h 2)
      have hnla:¬ Ls Lz 15:=fun h=>hns (HCL.out.dep2 h 13 Zq8)
      clear hi HCL
      simp only[zA,zB,zC]
      refine yaa rfl rfl fun K hK=>?_
      go_wp2_with fail
      rw[HJ0.out]
      exact ⟨W.heap.size,b2,y,b3,b5,b7,b8,A6,c6,x83,x84,.slice (some ⟨W.heap.size,0,none⟩) 1 1,x86,x87,x88,x89,x90,x91,x92,x93,x94,x95,x96,x97,(by simp only[zA,zB,zC]),zk HH,zk HH,fun _=>rfl,zk HH,zk HH,zk HH,zk HH,zk HH,zk HH,zk HH,zk HH,Ba hk11,zk HH,zk HH,zk HH,Ba hnla,fun _ _=>ybg rfl rfl (show R≤W.heap.size by have:=V0.gr.size;omega) rfl,(Bt (pj17 HH.out) fun x=>yam x (Fr.alloc (Fr.start V0.cur) _) Zq6),(Bt (pj18 HH.out) fun x=>yam x (Fr.alloc (Fr.start V0.cur) _) Zq6),(Bt (pj19 HH.out) fun x=>TrQ.call x (Fr.gr (Fr.alloc (Fr.start V0.cur) _)) Zq6),(Bt (pj20 HH.out) fun x=>TrQ.call x (Fr.gr (Fr.alloc (Fr.start V0.cur) _)) Zq6),(Bt (pj21 HH.out) fun x=>LitS.fr x (Fr.alloc (Fr.start V0.cur) _) Zq6),fun h=>Fr.call ((pj22 HH.out) (fun h2=>h h2.fwd)) (Fr.cur (Fr.alloc (Fr.start V0.cur) _)) (Fr.gr (Fr.alloc (Fr.start V0.cur) _)),Bb hns⟩
     ·clear hi HCL
      simp only[zA,zB,zC]
      refine yaa rfl rfl fun K hK=>?_
      go_wp2_with fail
      rw[HJ0.out]
      exact ⟨b1,b2,y,b3,b5,b7,b8,A6,c6,x83,x84,x85,.pointer (some ⟨p,0,none⟩),x87,x88,x89,x90,x91,x92,x93,x94,x95,x96,x97,(by simp only[zA,zB,zC]),zT HH⟩
     ·have hns:¬ Ls Lz 13:=fun h=>hnl (dq HCL (dq HCL (dq HCL (dq HCL (dq HCL (dq HCL (dq HCL h 12) 11) 10) 9) 6) 5) 4)
      have V0:=(pj22 HH.out) hns
      have hnla:¬ Ls Lz 15:=fun h=>hns (HCL.out.dep2 h 13 Zq8)
      clear hi HCL
      simp only[zA,zB,zC]
      refine yaa rfl rfl fun K hK=>?_
      go_wp2_with fail
      rw[HJ0.out]
      exact ⟨b1,W.heap.size,y,b3,b5,b7,b8,A6,c6,x83,x84,x85,x86,.slice (some ⟨W.heap.size,0,none⟩) 2 2,x88,x89,x90,x91,x92,x93,x94,x95,x96,x97,(by simp only[zA,zB,zC]),zk HH,zk HH,zk HH,zk HH,fun _=>rfl,zk HH,zk HH,zk HH,zk HH,zk HH,zk HH,zk HH,zk HH,zk HH,zk HH,Ba hnla,(Bt (pj16 HH.out) fun x=>yam x (Fr.alloc (Fr.start V0.cur) _) Zq6),fun _ _=>ybg rfl rfl (show R≤W.heap.size by have:=V0.gr.size;omega) rfl,(Bt (pj18 HH.out) fun x=>yam x (Fr.alloc (Fr.start V0.cur) _) Zq6),(Bt (pj19 HH.out) fun x=>TrQ.call x (Fr.gr (Fr.alloc (Fr.start V0.cur) _)) Zq6),(Bt (pj20 HH.out) fun x=>TrQ.call x (Fr.gr (Fr.alloc (Fr.start V0.cur) _)) Zq6),(Bt (pj21 HH.out) fun x=>LitS.fr x (Fr.alloc (Fr.start V0.cur) _) Zq6),fun h=>Fr.call ((pj22 HH.out) (fun h2=>h h2.fwd)) (Fr.cur (Fr.alloc (Fr.start V0.cur) _)) (Fr.gr (Fr.alloc (Fr.start V0.cur) _)),Bb hns⟩
     ·have hns:¬ Ls Lz 13:=fun h=>hnl (dq HCL (dq HCL (dq HCL (dq HCL (dq HCL (dq HCL h 12) 11) 10) 9) 6) 5)
      have D3:=(pj3 HH.out) (rq hi 3)
      have D4:=(pj4 HH.out) (rq hi 4)
      have E4:=(pj17 HH.out) (rq hi 4) hns
      have V0:=(pj22 HH.out) hns
      have hk6:¬ Ls Lz 6:=fun h=>hnl (dq HCL h 5)
      have hk9:¬ Ls Lz 9:=fun h=>hnl (dq HCL (dq HCL h 6) 5)
      have hk10:¬ Ls Lz 10:=fun h=>hnl (dq HCL (dq HCL (dq HCL h 9) 6) 5)
      have hk11:¬ Ls Lz 11:=fun h=>hnl (dq HCL (dq HCL (dq HCL (dq HCL h 10) 9) 6) 5)
      have hnla:¬ Ls Lz 15:=fun h=>hns (HCL.out.dep2 h 13 Zq8)
      clear hi HCL
      simp only[zA,zB,zC,D3,D4]
      refine yaa rfl rfl fun K hK=>?_
      go_wp2_with fail
      refine(ydc _ 2 2 [⟨#[122,57]⟩,⟨#[121,57]⟩] _ p V0.cur Zq11 Zq6 Zq6 E4.rd ?_).mono ?_
      ·intro e
       obtain ⟨_,_,e1,h1,_⟩:=E4.2 Zq6
       injection e1 with e1
       injection e1 with e1
       have h1:R≤_:=h1
       omega
      rintro e y1 ⟨y7,hy,rfl,hc,hg⟩
      have hy9:y7.size≤9:=fewL (L:=[⟨#[122,57]⟩,⟨#[121,57]⟩]) Zq9 y7 hy
      go_wp2_with fail
      rw[HJ0.out]
      exact ⟨b1,b2,y7,b3,b5,b7,b8,A6,c6,x83,x84,x85,x86,x87,.string y7,x89,x90,x91,x92,x93,x94,x95,x96,x97,(by simp only[zA,zB,zC,D3,D4]),zk HH,zk HH,zk HH,zk HH,zk HH,fun _=>⟨rfl,hy9⟩,Ba hk6,zk HH,zk HH,Ba hk9,Ba hk10,Ba hk11,zk HH,zk HH,zk HH,Ba hnla,(Bt (pj16 HH.out) fun x=>yam x (Fr.mk hc hg) Zq6),(Bt (pj17 HH.out) fun x=>yam x (Fr.mk hc hg) Zq6),Bb hk6,(Bt (pj19 HH.out) fun x=>TrQ.call x (Fr.gr (Fr.mk hc hg)) Zq6),Bb hk10,(Bt (pj21 HH.out) fun x=>LitS.fr x (Fr.mk hc hg) Zq6),fun h=>Fr.call ((pj22 HH.out) (fun h2=>h h2.fwd)) (Fr.cur (Fr.mk hc hg)) (Fr.gr (Fr.mk hc hg)),Bb hns⟩
     ·have hns:¬ Ls Lz 13:=fun h=>hnl (dq HCL (dq HCL (dq HCL (dq HCL (dq HCL h 12) 11) 10) 9) 6)
      have D5:=(pj5 HH.out) (rq hi 5)
      have V0:=(pj22 HH.out) hns
      have hk9:¬ Ls Lz 9:=fun h=>hnl (dq HCL h 6)
      have hk10:¬ Ls Lz 10:=fun h=>hnl (dq HCL (dq HCL h 9) 6)
      have hk11:¬ Ls Lz 11:=fun h=>hnl (dq HCL (dq HCL (dq HCL h 10) 9) 6)
      have hnla:¬ Ls Lz 15:=fun h=>hns (HCL.out.dep2 h 13 Zq8)
      clear hi HCL
      obtain ⟨D5,X5⟩:=D5
      simp only[zA,zB,zC,D5]
      refine yaa rfl rfl fun K hK=>?_
      go_wp2_with fail
      rw[HJ0.out]
      exact ⟨b1,b2,y,W.heap.size,b5,b7,b8,A6,c6,x83,x84,x85,x86,x87,x88,.slice (some ⟨W.heap.size,0,none⟩) 1 1,x90,x91,x92,x93,x94,x95,x96,x97,(by simp only[zA,zB,zC,D5]),zk HH,zk HH,zk HH,zk HH,zk HH,zk HH,fun _=>⟨rfl,X5⟩,zk HH,zk HH,Ba hk9,Ba hk10,Ba hk11,zk HH,zk HH,zk HH,Ba hnla,(Bt (pj16 HH.out) fun x=>yam x (Fr.alloc (Fr.start V0.cur) _) Zq6),(Bt (pj17 HH.out) fun x=>yam x (Fr.alloc (Fr.start V0.cur) _) Zq6),fun _ _=>ybg rfl rfl (show R≤W.heap.size by have:=V0.gr.size;omega) rfl,(Bt (pj19 HH.out) fun x=>TrQ.call x (Fr.gr (Fr.alloc (Fr.start V0.cur) _)) Zq6),Bb hk10,(Bt (pj21 HH.out) fun x=>LitS.fr x (Fr.alloc (Fr.start V0.cur) _) Zq6),fun h=>Fr.call ((pj22 HH.out) (fun h2=>h h2.fwd)) (Fr.cur (Fr.alloc (Fr.start V0.cur) _)) (Fr.gr (Fr.alloc (Fr.start V0.cur) _)),Bb hns⟩
     ·have hns:¬ Ls Lz 13:=fun h=>hnl (dq HCL (dq HCL (dq HCL (dq HCL (dq HCL (dq HCL h 12) 11) 10) 9) 8) 7)
      have V0:=(pj22 HH.out) hns
      have hnla:¬ Ls Lz 15:=fun h=>hns (HCL.out.dep2 h 13 Zq8)
      clear hi HCL
      simp only[zA,zB,zC]
      have k0:=ybw V0 hYl hYp G0.out
      have k1:=ybw V0 hYl hYp G1.out
      have k2:=ybw V0 hYl hYp G2.out
      have k3:=ybw V0 hYl hYp G3.out
      have k4:=ybw V0 hYl hYp G4.out
      refine yaa rfl rfl fun K hK=>?_
      go_wp2_with fail
      rw[HJ0.out]
      exact ⟨b1,b2,y,b3,b5,b7,b8,A6,c6,x83,x84,x85,x86,x87,x88,x89,.agg #[.int .i64 1,.string gy,.slice (some ⟨gb,0,none⟩) 1 1,.int .i64 0,.slice none 0 0],x91,x92,x93,x94,x95,x96,x97,(by simp only[zA,zB,zC]),zT HH⟩
     ·have hns:¬ Ls Lz 13:=fun h=>hnl (dq HCL (dq HCL (dq HCL (dq HCL (dq HCL h 12) 11) 10) 9) 8)
      have D7:=(pj7 HH.out) (rq hi 7)
      have V0:=(pj22 HH.out) hns
      have hk9:¬ Ls Lz 9:=fun h=>hnl (dq HCL h 8)
      have hk10:¬ Ls Lz 10:=fun h=>hnl (dq HCL (dq HCL h 9) 8)
      have hk11:¬ Ls Lz 11:=fun h=>hnl (dq HCL (dq HCL (dq HCL h 10) 9) 8)
      have hnla:¬ Ls Lz 15:=fun h=>hns (HCL.out.dep2 h 13 Zq8)
      clear hi HCL
      simp only[zA,zB,zC,D7]
      refine yaa rfl rfl fun K hK=>?_
      go_wp2_with fail
      rw[HJ0.out]
      exact ⟨b1,b2,y,b3,W.heap.size,b7,b8,A6,c6,x83,x84,x85,x86,x87,x88,x89,x90,.slice (some ⟨W.heap.size,0,none⟩) 1 1,x92,x93,x94,x95,x96,x97,(by simp only[zA,zB,zC,D7]),zk HH,zk HH,zk HH,zk HH,zk HH,zk HH,zk HH,zk HH,fun _=>rfl,Ba hk9,Ba hk10,Ba hk11,zk HH,zk HH,zk HH,Ba hnla,(Bt (pj16 HH.out) fun x=>yam x (Fr.alloc (Fr.start V0.cur) _) Zq6),(Bt (pj17 HH.out) fun x=>yam x (Fr.alloc (Fr.start V0.cur) _) Zq6),(Bt (pj18 HH.out) fun x=>yam x (Fr.alloc (Fr.start V0.cur) _) Zq6),fun _ _=>(ElQ.one (yb3 (d:=3) (h:=⟨1,gy,[ga],0⟩) (Aa:=some ⟨gb,0,none⟩) (ca:=1) (Ab:=none) (cb:=0) (yam (yam HGA.out V0 Zq6) (Fr.alloc (Fr.start V0.cur) _) Zq6) (yc5 3) (Nat.le_refl _))).tr (ybg rfl rfl (show R≤W.heap.size by have:=V0.gr.size;omega) rfl) rfl,Bb hk10,(Bt (pj21 HH.out) fun x=>LitS.fr x (Fr.alloc (Fr.start V0.cur) _) Zq6),fun h=>Fr.call ((pj22 HH.out) (fun h2=>h h2.fwd)) (Fr.cur (Fr.alloc (Fr.start V0.cur) _)) (Fr.gr (Fr.alloc (Fr.start V0.cur) _)),Bb hns⟩
     ·have D6:=(pj6 HH.out) (rq hi 6)
      have D8:=(pj8 HH.out) (rq hi 8)
      clear hi HCL
      obtain ⟨D6,X6⟩:=D6
      simp only[zA,zB,zC,D6,D8]
      refine yaa rfl rfl fun K hK=>?_
      go_wp2_with fail
      rw[HJ0.out]
      exact ⟨b1,b2,y,b3,b5,b7,b8,A6,c6,x83,x84,x85,x86,x87,x88,x89,x90,x91,.agg #[.int .i64 5,.string ⟨#[]⟩,.slice (some ⟨b3,0,none⟩) 1 1,.int .i64 0,.slice (some ⟨b5,0,none⟩) 1 1],x93,x94,x95,x96,x97,(by simp only[zA,zB,zC,D6,D8]),zk HH,zk HH,zk HH,zk HH,zk HH,zk HH,zk HH,zk HH,zk HH,fun _=>⟨rfl,X6⟩,zk HH,zk HH,zk HH,zk HH,zk HH,zk HH,zw HH,zw HH,zw HH,zw HH,zw HH,zw HH,zi HH,zw HH⟩
     ·have hns:¬ Ls Lz 13:=fun h=>hnl (dq HCL (dq HCL (dq HCL h 12) 11) 10)
      have D9:=(pj9 HH.out) (rq hi 9)
      have E6:=(pj18 HH.out) (dq HCL (rq hi 9) 6) hns
      have E8:=(pj19 HH.out) (dq HCL (rq hi 9) 8) hns
      have V0:=(pj22 HH.out) hns
      have hk11:¬ Ls Lz 11:=fun h=>hnl (dq HCL h 10)
      have hnla:¬ Ls Lz 15:=fun h=>hns (HCL.out.dep2 h 13 Zq8)
      clear hi HCL
      obtain ⟨D9,X9⟩:=D9
      simp only[zA,zB,zC,D9]
      refine yaa rfl rfl fun K hK=>?_
      go_wp2_with fail
      rw[HJ0.out]
      exact ⟨b1,b2,y,b3,b5,W.heap.size,b8,A6,c6,x83,x84,x85,x86,x87,x88,x89,x90,x91,x92,.slice (some ⟨W.heap.size,0,none⟩) 1 1,x94,x95,x96,x97,(by simp only[zA,zB,zC,D9]),zk HH,zk HH,zk HH,zk HH,zk HH,zk HH,zk HH,zk HH,zk HH,zk HH,fun _=>⟨rfl,X9⟩,Ba hk11,zk HH,zk HH,zk HH,Ba hnla,(Bt (pj16 HH.out) fun x=>yam x (Fr.alloc (Fr.start V0.cur) _) Zq6),(Bt (pj17 HH.out) fun x=>yam x (Fr.alloc (Fr.start V0.cur) _) Zq6),(Bt (pj18 HH.out) fun x=>yam x (Fr.alloc (Fr.start V0.cur) _) Zq6),(Bt (pj19 HH.out) fun x=>TrQ.call x (Fr.gr (Fr.alloc (Fr.start V0.cur) _)) Zq6),fun _ _=>(ElQ.one (yb3 (d:=4) (h:=⟨5,⟨#[]⟩,[y],0⟩) (Aa:=some ⟨b3,0,none⟩) (ca:=1) (Ab:=some ⟨b5,0,none⟩) (cb:=1) (yam E6 (Fr.alloc (Fr.start V0.cur) _) Zq6) (TrQ.call E8 (Fr.gr (Fr.alloc (Fr.start V0.cur) _)) Zq6) (Nat.le_refl _))).tr (ybg rfl rfl (show R≤W.heap.size by have:=V0.gr.size;omega) rfl) rfl,(Bt (pj21 HH.out) fun x=>LitS.fr x (Fr.alloc (Fr.start V0.cur) _) Zq6),fun h=>Fr.call ((pj22 HH.out) (fun h2=>h h2.fwd)) (Fr.cur (Fr.alloc (Fr.start V0.cur) _)) (Fr.gr (Fr.alloc (Fr.start V0.cur) _)),Bb hns⟩
     ·have D2:=(pj2 HH.out) (rq hi 2)
      have D10:=(pj10 HH.out) (rq hi 10)
      clear hi HCL
      obtain ⟨D10,X10⟩:=D10
      simp only[zA,zB,zC,D2,D10]
      refine yaa rfl rfl fun K hK=>?_
      go_wp2_with fail
      rw[HJ0.out]
      exact ⟨b1,b2,y,b3,b5,b7,b8,A6,c6,x83,x84,x85,x86,x87,x88,x89,x90,x91,x92,x93,.agg #[.int .i64 5,.string ⟨#[]⟩,.slice (some ⟨b1,0,none⟩) 1 1,.int .i64 0,.slice (some ⟨b7,0,none⟩) 1 1],x95,x96,x97,(by simp only[zA,zB,zC,D2,D10]),zk HH,zk HH,zk HH,zk HH,zk HH,zk HH,zk HH,zk HH,zk HH,zk HH,zk HH,fun _=>⟨rfl,X10⟩,zk HH,zk HH,zk HH,zk HH,zw HH,zw HH,zw HH,zw HH,zw HH,zw HH,zi HH,zw HH⟩
     ·have hns:¬ Ls Lz 13:=fun h=>hnl (dq HCL h 12)
      have D11:=(pj11 HH.out) (rq hi 11)
      have E2:=(pj16 HH.out) (dq HCL (rq hi 11) 2) hns
      have E10:=(pj20 HH.out) (dq HCL (rq hi 11) 10) hns
      have V0:=(pj22 HH.out) hns
      have hnla:¬ Ls Lz 15:=fun h=>hns (HCL.out.dep2 h 13 Zq8)
      clear hi HCL
      obtain ⟨D11,X11⟩:=D11
      simp only[zA,zB,zC,D11]
      refine yaa rfl rfl fun K hK=>?_
      go_wp2_with fail
      rw[HJ0.out]
      exact ⟨b1,b2,y,b3,b5,b7,W.heap.size,A6,c6,x83,x84,x85,x86,x87,x88,x89,x90,x91,x92,x93,x94,.slice (some ⟨W.heap.size,0,none⟩) 1 1,x96,x97,(by simp only[zA,zB,zC,D11]),zk HH,zk HH,zk HH,zk HH,zk HH,zk HH,zk HH,zk HH,zk HH,zk HH,zk HH,zk HH,fun _=>rfl,zk HH,zk HH,Ba hnla,(Bt (pj16 HH.out) fun x=>yam x (Fr.alloc (Fr.start V0.cur) _) Zq6),(Bt (pj17 HH.out) fun x=>yam x (Fr.alloc (Fr.start V0.cur) _) Zq6),(Bt (pj18 HH.out) fun x=>yam x (Fr.alloc (Fr.start V0.cur) _) Zq6),(Bt (pj19 HH.out) fun x=>TrQ.call x (Fr.gr (Fr.alloc (Fr.start V0.cur) _)) Zq6),(Bt (pj20 HH.out) fun x=>TrQ.call x (Fr.gr (Fr.alloc (Fr.start V0.cur) _)) Zq6),fun _ _=>⟨_,_,ybg rfl rfl (show R≤W.heap.size by have:=V0.gr.size;omega) rfl,yb3 (d:=5) (h:=⟨5,⟨#[]⟩,[⟨#[122,57]⟩],0⟩) (Aa:=some ⟨b1,0,none⟩) (ca:=1) (Ab:=some ⟨b7,0,none⟩) (cb:=1) (yam E2 (Fr.alloc (Fr.start V0.cur) _) Zq6) (TrQ.call E10 (Fr.gr (Fr.alloc (Fr.start V0.cur) _)) Zq6) (Nat.le_refl _),by rw[yb5,yde,yb5,yde,yb5,ydd];show 0+(1+(2+0)+(1+(0+(1+(y.size+0)+(1+(gy.size+(1+(ga.size+0)+0)))))))≤_;omega⟩,fun h=>Fr.call ((pj22 HH.out) (fun h2=>h h2.fwd)) (Fr.cur (Fr.alloc (Fr.start V0.cur) _)) (Fr.gr (Fr.alloc (Fr.start V0.cur) _)),Bb hns⟩
     ·have hns:¬ Ls Lz 13:=hnl
      have D1:=(pj1 HH.out) (rq hi 1)
      have D12:=(pj12 HH.out) (rq hi 12)
      have E12:=(pj21 HH.out) (rq hi 12) hns
      have V0:=(pj22 HH.out) hns
      have hnla:¬ Ls Lz 15:=fun h=>hns (HCL.out.dep2 h 13 Zq8)
      clear hi HCL
      simp only[zA,zB,zC,D1,D12]
      have SW:=hD (S8.out.call hp1w V0)
      obtain ⟨cs,s,hlr,hls,hlz⟩:=E12
      refine yaa rfl rfl fun K hK=>?_
      simp only[List.getElem_toArray,List.getElem_cons_succ,List.getElem_cons_zero]
      refine yae _ rfl _ _ 25 rfl (w1.heap.size+1) 66 i0 _ 5 80 Tryz.underlying25 hi hz0 hz1 hz2 rfl Zq9 _ _ _ rfl SW.out.bo _ 1 1 _ rfl hlr.rd hls.ones ?c3 ?c4 ?c5 ?_
      case c3=>simp only[maxLen];omega
      case c4=>omega
      case c5=>have:=V0.gr.size;omega
      intro v6 W6 own6 gr6 hat
      obtain ⟨A7,c7,rfl,_,_,_⟩:=yah own6
      go_wp2_with fail
      rw[HJ0.out]
      exact ⟨b1,b2,y,b3,b5,b7,b8,A7,c7,x83,x84,x85,x86,x87,x88,x89,x90,x91,x92,x93,x94,x95,.slice A7 (nb+1) c7,x97,(by first|(simp only[zA,zB,zC,D1,D12] <;> fail)|simp only[Act.put,zA,zB,zC,D1,D12]),zk HH,zk HH,zk HH,zk HH,zk HH,zk HH,zk HH,zk HH,zk HH,zk HH,zk HH,zk HH,zk HH,fun _=>rfl,zk HH,Ba hnla,zx hnow,zx hnow,zx hnow,zx hnow,zx hnow,zx hnow,zy hnow,fun _ _=>⟨W,cs,s,V0,hls,hlz,own6,gr6,hat,(gr6.block X (lt_of_block SW.out.x) (fun e=>SW.out.vx e.symm)).trans SW.out.x⟩⟩
     ·clear hi HCL
      simp only[zA,zB,zC]
      refine yaa rfl rfl fun K hK=>?_
      go_wp2_with fail
      rw[HJ0.out]
      exact ⟨b1,b2,y,b3,b5,b7,b8,A6,c6,x83,x84,x85,x86,x87,x88,x89,x90,x91,x92,x93,x94,x95,x96,.pointer (some ⟨X,1,none⟩),(by simp only[zA,zB,zC]),zT HH⟩
     ·have D13:=(pj13 HH.out) (rq hi 13)
      have D14:=(pj14 HH.out) (rq hi 14)
      have HST:=rq hi 13
      have VL:=(pe23 HH.out) HST hnl
      clear hi HCL
      simp only[zA,zB,zC,D13,D14]
      obtain ⟨W5,cs,s,l1,l2,l3,l4,l5,l6,l7⟩:=VL
      have px6:=yaj (j:=1) l7 rfl
      have fx6:=yab (j:=1) l7
      have lx6:=lt_of_block l7
      have PEH:=hD (S8.out.push hp1w l1 l2 HP.out l4 rfl l5 l6 l7)
      have SQH:=hD (yha (l:=l) l3)
      clear l1 l2 l3 l4 l5 l6 l7
      refine yaa rfl rfl fun K hK=>?_
      go_wp2_with fail
      rw[HJ0.out]
      exact ⟨b1,b2,y,b3,b5,b7,b8,A6,c6,x83,x84,x85,x86,x87,x88,x89,x90,x91,x92,x93,x94,x95,x96,x97,(by simp only[zA,zB,zC,D13,D14]),zk HH,zk HH,zk HH,zk HH,zk HH,zk HH,zk HH,zk HH,zk HH,zk HH,zk HH,zk HH,zk HH,zk HH,zk HH,fun _=>⟨_,_,_,_,_,PEH.out,SQH.out⟩,zx (Ls.fwd HST),zx (Ls.fwd HST),zx (Ls.fwd HST),zx (Ls.fwd HST),zx (Ls.fwd HST),zx (Ls.fwd HST),zy (Ls.fwd HST),zx hnow⟩
    ·intro Lz a W hsize hJ hr
     rw[HJ0.out] at hJ
     have hall:=ybj hsize Zq8 hr
     obtain ⟨b1,b2,y,b3,b5,b7,b8,A6,c6,x83,x84,x85,x86,x87,x88,x89,x90,x91,x92,x93,x94,x95,x96,x97,rfl,HF⟩:=hJ
     have HH:=hD HF
     have HEND:=(pj15 HH.out) (hall 15 Zq9)
     clear HF HH hall hr hsize
     simp only[zA,zB,zC]
     go_wp2_with fail
     go_meet
     obtain ⟨Ab7,nb7,cb7,l7,xs7,e1,e2⟩:=HEND
     exact ⟨Ab7,nb7,cb7,l7,xs7,e1,by omega⟩
   have g3:(x==3)=false:=by simp [e3]
   by_cases e4:x=4
   ·subst e4
    clear HP HNM HGA C1 frS HBX HNM8 HGA8 hR1 hR2 G0 G1 G2 G3 G4 hYl
    go_wp2_with fail
    go_loopw [8] (fun i wr=>∃ (t:Nat) (Ab7:Option Addr) (nb7 cb7:Nat) (l7:List (Tr 6)) (xs7:List Value),i=.int .i64 t∧t≤4∧PD w1 p X Aq nq cq Q Ab7 nb7 cb7 l7 xs7 wr∧szT 6 l7≤100000+t*50001) (fun i _=>4 - (intOf i).toNat)
    case atStart=>exact ⟨0,_,_,_,_,_,rfl,by omega,S8.out,by omega⟩
    case round =>
     obtain ⟨t,Ab,nb,cb,l,xs,rfl,ht,hpd,hzt⟩:=hrel
     clear S8 hSX hp8 hs8 G8
     obtain ⟨w8,rfl⟩:∃ w8:World,w8=wr:=⟨_,rfl⟩
     have S8:=hD hpd
     clear hpd
     by_cases hlt:t<4
     ·have hd4:decide ((t:Int)<4)=true:=decide_eq_true Zq6
      have hnb6:nb≤400000:=by
       have h5:szT 6 l=l.length+sumE l:=ybb l
       have h6:=S8.out.bl
       omega
      have hSX:=lt_of_block S8.out.x
      obtain ⟨c0,c1⟩:=ycs (lay:=Below.refl _ _) S8.out.x
      have C1:=hD c1
      have frS:Fr w8 p w8:=Fr.start S8.out.fr.cur
      have hp8:p<w8.heap.size:=S8.out.fr.cur.lt
      obtain ⟨R,hR1,hR2,hR3⟩:∃ R,X<R∧R≤w8.heap.size∧w8.heap.size≤R:=⟨w8.heap.size,by omega,by omega,by omega⟩
      have HP:Hid (∀ b,R≤b→w1.heap.size<b∧b≠X∧some b≠(Value.slice Ab nb cb).ownBlock):=fun b hb=>⟨by omega,by omega,fun e=>by have:=(S8.out.bo.lt b e.symm).2;omega⟩
      clear c0 c1 hR3
      go_upto_region 21 with (fail)
      obtain ⟨J0,hJ0⟩:∃ J:Array Value→Array Bool→Act→World→Prop,J=(fun A0 Lz a W=>∃ (q:Int) (d0:ByteArray) (y:ByteArray) (b1:Nat) (b4:Nat) (A6:Option Addr) (c6:Nat),∃ x104 x105 x106 x107 x108 x109 x110 x111 x112 x113 x114 x115 x116 x117:Value,a=⟨((((((((((((((A0.setIfInBounds 104 x104).setIfInBounds 105 x105).setIfInBounds 106 x106).setIfInBounds 107 x107).setIfInBounds 108 x108).setIfInBounds 109 x109).setIfInBounds 110 x110).setIfInBounds 111 x111).setIfInBounds 112 x112).setIfInBounds 113 x113).setIfInBounds 114 x114).setIfInBounds 115 x115).setIfInBounds 116 x116).setIfInBounds 117 x117),[]⟩∧(Ls Lz 0→x104=.pointer (some ⟨X,1,none⟩))∧(Ls Lz 1→x105=.slice Ab nb cb)∧(Ls Lz 2→x106=.string a0)∧(Ls Lz 3→x107=.int .i64 t)∧(Ls Lz 4→x108=.pointer (some ⟨p,0,none⟩))∧(Ls Lz 5→x109=.int .i64 q∧(0≤q∧q≤1))∧(Ls Lz 6→x110=.int .i64 (t+q)∧(0≤q∧q≤1))∧(Ls Lz 7→x111=.string d0∧d0.size≤1)∧(Ls Lz 8→x112=.string y∧y.size≤9)∧(Ls Lz 9→x113=.slice (some ⟨b1,0,none⟩) 2 2∧y.size≤9)∧(Ls Lz 10→x114=.agg #[.int .i64 6,.string ⟨#[]⟩,.slice (some ⟨b1,0,none⟩) 2 2,.int .i64 0,.slice none 0 0]∧y.size≤9)∧(Ls Lz 11→x115=.slice (some ⟨b4,0,none⟩) 1 1)∧(Ls Lz 12→x116=.slice A6 (nb+1) c6)∧(Ls Lz 13→x117=.pointer (some ⟨X,1,none⟩))∧(Ls Lz 14→(∃ (Ab7:Option Addr) (nb7 cb7:Nat) (l7:List (Tr 6)) (xs7:List Value),PD w1 p X Aq nq cq Q Ab7 nb7 cb7 l7 xs7 W∧szT 6 l7≤szT 6 l+50001))∧(Ls Lz 9→¬ Ls Lz 12→RdQ W (fun b=>R≤b) 1 (some ⟨b1,0,none⟩) 2 (strs [a0,y]))∧(Ls Lz 11→¬ Ls Lz 12→LitS R W b4)∧(¬ Ls Lz 12→Fr w8 p W)∧(Ls Lz 12→¬ Ls Lz 14→(∃ (W5:World) (cs:List Value) (s:Tr 6),Fr w8 p W5∧StQ W5 (fun b=>R≤b) 5 cs s∧szE s≤50000∧W.ownsRow (w1.heap.size+1) 66 5 (.slice A6 (nb+1) c6) (nb+1) (xs++cs)∧W5.grownBy W (Value.slice Ab nb cb).ownBlock∧((Value.slice A6 (nb+1) c6).ownBlock=(Value.slice Ab nb cb).ownBlock∨(Value.slice A6 (nb+1) c6).ownBlock=some W5.heap.size)∧W.heap[X]?=some (.cells #[.slice Aq nq cq,.slice Ab nb cb] 27 (0,0))))):=⟨_,rfl⟩
      have HJ0:=hD hJ0
      clear hJ0
      refine ya3 Zq8 J0 ?_ ?_ ?_
      ·intro A0
       rw[HJ0.out]
       exact ⟨0,⟨#[]⟩,⟨#[]⟩,0,0,none,0,A0.getD 104 undef,A0.getD 105 undef,A0.getD 106 undef,A0.getD 107 undef,A0.getD 108 undef,A0.getD 109 undef,A0.getD 110 undef,A0.getD 111 undef,A0.getD 112 undef,A0.getD 113 undef,A0.getD 114 undef,A0.getD 115 undef,A0.getD 116 undef,A0.getD 117 undef,by simp only[ybm],zn,zn,zn,zn,zn,zn,zn,zn,zn,zn,zn,zn,zn,zn,zn,zn,zn,fun _=>frS.drew,zn⟩
      ·intro Lz a W hsize hcl hJ i hi
       have hil:=ybn hi
       have hnl:=ybi hi
       have hnow:=ybh hi hsize
       have HCL:=hD hcl
       rw[HJ0.out] at hJ
       obtain ⟨q,d0,y,b1,b4,A6,c6,x104,x105,x106,x107,x108,x109,x110,x111,x112,x113,x114,x115,x116,x117,rfl,HF⟩:=hJ
       have HH:=hD HF
       have hi2:i=0∨i=1∨i=2∨i=3∨i=4∨i=5∨i=6∨i=7∨i=8∨i=9∨i=10∨i=11∨i=12∨i=13∨i=14:=by simp at hil;omega
       clear hil hcl HF
       rcases hi2 with rfl|rfl|rfl|rfl|rfl|rfl|rfl|rfl|rfl|rfl|rfl|rfl|rfl|rfl|rfl
       ·clear hi HCL
        simp only[zA,zB,zC]
        refine yaa rfl rfl fun K hK=>?_
        go_wp2_with fail
        rw[HJ0.out]
        exact ⟨q,d0,y,b1,b4,A6,c6,.pointer (some ⟨X,1,none⟩),x105,x106,x107,x108,x109,x110,x111,x112,x113,x114,x115,x116,x117,(by simp only[zA,zB,zC]),zT HH⟩
       ·have hns:¬ Ls Lz 12:=fun h=>hnl (dq HCL h 1)
        have D0:=(pj0 HH.out) (rq hi 0)
        have V0:=(pj17 HH.out) hns
        have hnla:¬ Ls Lz 14:=fun h=>hns (HCL.out.dep2 h 12 Zq8)
        clear hi HCL
        simp only[zA,zB,zC,D0]
        have k0:=ybw V0 hSX hXp C1.out
        refine yaa rfl rfl fun K hK=>?_
        go_wp2_with fail
        rw[HJ0.out]
        exact ⟨q,d0,y,b1,b4,A6,c6,x104,.slice Ab nb cb,x106,x107,x108,x109,x110,x111,x112,x113,x114,x115,x116,x117,(by simp only[zA,zB,zC,D0]),zT HH⟩
       ·clear hi HCL
        simp only[zA,zB,zC]
        refine yaa rfl rfl fun K hK=>?_
        go_wp2_with fail
        rw[HJ0.out]
        exact ⟨q,d0,y,b1,b4,A6,c6,x104,x105,.string a0,x107,x108,x109,x110,x111,x112,x113,x114,x115,x116,x117,(by simp only[zA,zB,zC]),zT HH⟩
       ·clear hi HCL
        simp only[zA,zB,zC]
        refine yaa rfl rfl fun K hK=>?_
        go_wp2_with fail
        rw[HJ0.out]
        exact ⟨q,d0,y,b1,b4,A6,c6,x104,x105,x106,.int .i64 t,x108,x109,x110,x111,x112,x113,x114,x115,x116,x117,(by simp only[zA,zB,zC]),zT HH⟩
       ·clear hi HCL
        simp only[zA,zB,zC]
        refine yaa rfl rfl fun K hK=>?_
        go_wp2_with fail
        rw[HJ0.out]
        exact ⟨q,d0,y,b1,b4,A6,c6,x104,x105,x106,x107,.pointer (some ⟨p,0,none⟩),x109,x110,x111,x112,x113,x114,x115,x116,x117,(by simp only[zA,zB,zC]),zT HH⟩
       ·have hns:¬ Ls Lz 12:=fun h=>hnl (dq HCL (dq HCL (dq HCL (dq HCL (dq HCL (dq HCL (dq HCL h 11) 10) 9) 8) 7) 6) 5)
        have D4:=(pj4 HH.out) (rq hi 4)
        have V0:=(pj17 HH.out) hns
        have hk6:¬ Ls Lz 6:=fun h=>hnl (dq HCL h 5)
        have hnla:¬ Ls Lz 14:=fun h=>hns (HCL.out.dep2 h 12 Zq8)
        clear hi HCL
        simp only[zA,zB,zC,D4]
        refine yaa rfl rfl fun K hK=>?_
        go_wp2_with fail
        refine(ybu 2 1 _ p V0.cur Zq6 Zq6 Zq6).mono ?_
        rintro e y1 ⟨q7,hq0,hq1,rfl,hc,hg⟩
        go_wp2_with fail
        rw[HJ0.out]
        exact ⟨q7,d0,y,b1,b4,A6,c6,x104,x105,x106,x107,x108,.int .i64 q7,x110,x111,x112,x113,x114,x115,x116,x117,(by simp only[zA,zB,zC,D4]),zk HH,zk HH,zk HH,zk HH,zk HH,fun _=>⟨rfl,hq0,hq1⟩,Ba hk6,zk HH,zk HH,zk HH,zk HH,zk HH,zk HH,zk HH,Ba hnla,(Bt (pj15 HH.out) fun x=>yam x (Fr.mk hc hg) Zq6),(Bt (pj16 HH.out) fun x=>LitS.fr x (Fr.mk hc hg) Zq6),fun h=>Fr.call ((pj17 HH.out) (fun h2=>h h2.fwd)) (Fr.cur (Fr.mk hc hg)) (Fr.gr (Fr.mk hc hg)),Bb hns⟩
       ·have D3:=(pj3 HH.out) (rq hi 3)
        have D5:=(pj5 HH.out) (rq hi 5)
        clear hi HCL
        obtain ⟨D5,X5⟩:=D5
        simp only[zA,zB,zC,D3,D5]
        have hwr:IntKind.i64.wrap ((t:Int)+q)=t+q:=IntWalk.i64_in _ Zq6
        refine yaa rfl rfl fun K hK=>?_
        go_wp2_with fail
        rw[HJ0.out]
        exact ⟨q,d0,y,b1,b4,A6,c6,x104,x105,x106,x107,x108,x109,.int .i64 (t+q),x111,x112,x113,x114,x115,x116,x117,(by simp only[zA,zB,zC,D3,D5]),zk HH,zk HH,zk HH,zk HH,zk HH,zk HH,fun _=>⟨rfl,X5⟩,zk HH,zk HH,zk HH,zk HH,zk HH,zk HH,zk HH,zk HH,zw HH,zw HH,zi HH,zw HH⟩
       ·have hns:¬ Ls Lz 12:=fun h=>hnl (dq HCL (dq HCL (dq HCL (dq HCL (dq HCL h 11) 10) 9) 8) 7)
        have D6:=(pj6 HH.out) (rq hi 6)
        have V0:=(pj17 HH.out) hns
        have hk8:¬ Ls Lz 8:=fun h=>hnl (dq HCL h 7)
        have hnla:¬ Ls Lz 14:=fun h=>hns (HCL.out.dep2 h 12 Zq8)
        clear hi HCL
        obtain ⟨D6,X6⟩:=D6
        simp only[zA,zB,zC,D6]
        refine yaa rfl rfl fun K hK=>?_
        go_wp2_with fail
        refine(ykf (t+q) Zq6 Zq6 W).mono ?_
        rintro e y1 ⟨rfl,hb,hs⟩
        go_wp2_with fail
        rw[HJ0.out]
        exact ⟨q,(dig (t+q)),y,b1,b4,A6,c6,x104,x105,x106,x107,x108,x109,x110,.string (dig (t+q)),x112,x113,x114,x115,x116,x117,(by simp only[zA,zB,zC,D6]),zk HH,zk HH,zk HH,zk HH,zk HH,zk HH,zk HH,fun _=>⟨rfl,Nat.le_refl _⟩,Ba hk8,zk HH,zk HH,zk HH,zk HH,zk HH,Ba hnla,(Bt (pj15 HH.out) fun x=>yam x (Fr.below (Fr.start V0.cur) hb) Zq6),(Bt (pj16 HH.out) fun x=>LitS.fr x (Fr.below (Fr.start V0.cur) hb) Zq6),fun h=>Fr.call ((pj17 HH.out) (fun h2=>h h2.fwd)) (Fr.cur (Fr.below (Fr.start V0.cur) hb)) (Fr.gr (Fr.below (Fr.start V0.cur) hb)),Bb hns⟩
       ·have D7:=(pj7 HH.out) (rq hi 7)
        have hk9:¬ Ls Lz 9:=fun h=>hnl (dq HCL h 8)
        have hk10:¬ Ls Lz 10:=fun h=>hnl (dq HCL (dq HCL h 9) 8)
        have hk11:¬ Ls Lz 11:=fun h=>hnl (dq HCL (dq HCL (dq HCL h 10) 9) 8)
        have hk12:¬ Ls Lz 12:=fun h=>hnl (dq HCL (dq HCL (dq HCL (dq HCL h 11) 10) 9) 8)
        clear hi HCL
        obtain ⟨D7,X7⟩:=D7
        simp only[zA,zB,zC,D7]
        have hadd:∀ w:World,(Op.stringOp .add ⟨#[114]⟩ d0).run Tryz.prog w=.ok (.string (⟨#[114]⟩++d0)) w:=fun w=>run_string_add_sum w _ _ (by show 1+d0.size≤_;omega)
        refine yaa rfl rfl fun K hK=>?_
        go_wp2_with fail
        rw[HJ0.out]
        exact ⟨q,d0,(⟨#[114]⟩++d0),b1,b4,A6,c6,x104,x105,x106,x107,x108,x109,x110,x111,.string (⟨#[114]⟩++d0),x113,x114,x115,x116,x117,(by simp only[zA,zB,zC,D7]),zk HH,zk HH,zk HH,zk HH,zk HH,zk HH,zk HH,zk HH,fun _=>⟨rfl,by rw[ByteArray.size_append];show 1+d0.size≤9;omega⟩,Ba hk9,Ba hk10,Ba hk11,Ba hk12,zk HH,zk HH,Bb hk9,Bb hk11,zi HH,zw HH⟩
       ·have hns:¬ Ls Lz 12:=fun h=>hnl (dq HCL (dq HCL (dq HCL h 11) 10) 9)
        have D2:=(pj2 HH.out) (rq hi 2)
        have D8:=(pj8 HH.out) (rq hi 8)
        have V0:=(pj17 HH.out) hns
        have hk10:¬ Ls Lz 10:=fun h=>hnl (dq HCL h 9)
        have hnla:¬ Ls Lz 14:=fun h=>hns (HCL.out.dep2 h 12 Zq8)
        clear hi HCL
        obtain ⟨D8,X8⟩:=D8
        simp only[zA,zB,zC,D2,D8]
        refine yaa rfl rfl fun K hK=>?_
        go_wp2_with fail
        rw[HJ0.out]
        exact ⟨q,d0,y,W.heap.size,b4,A6,c6,x104,x105,x106,x107,x108,x109,x110,x111,x112,.slice (some ⟨W.heap.size,0,none⟩) 2 2,x114,x115,x116,x117,(by simp only[zA,zB,zC,D2,D8]),zk HH,zk HH,zk HH,zk HH,zk HH,zk HH,zk HH,zk HH,zk HH,fun _=>⟨rfl,X8⟩,Ba hk10,zk HH,zk HH,zk HH,Ba hnla,fun _ _=>ybg rfl rfl (show R≤W.heap.size by have:=V0.gr.size;omega) rfl,(Bt (pj16 HH.out) fun x=>LitS.fr x (Fr.alloc (Fr.start V0.cur) _) Zq6),fun h=>Fr.call ((pj17 HH.out) (fun h2=>h h2.fwd)) (Fr.cur (Fr.alloc (Fr.start V0.cur) _)) (Fr.gr (Fr.alloc (Fr.start V0.cur) _)),Bb hns⟩
       ·have D9:=(pj9 HH.out) (rq hi 9)
        clear hi HCL
        obtain ⟨D9,X9⟩:=D9
        simp only[zA,zB,zC,D9]
        refine yaa rfl rfl fun K hK=>?_
        go_wp2_with fail
        rw[HJ0.out]
        exact ⟨q,d0,y,b1,b4,A6,c6,x104,x105,x106,x107,x108,x109,x110,x111,x112,x113,.agg #[.int .i64 6,.string ⟨#[]⟩,.slice (some ⟨b1,0,none⟩) 2 2,.int .i64 0,.slice none 0 0],x115,x116,x117,(by simp only[zA,zB,zC,D9]),zk HH,zk HH,zk HH,zk HH,zk HH,zk HH,zk HH,zk HH,zk HH,zk HH,fun _=>⟨rfl,X9⟩,zk HH,zk HH,zk HH,zk HH,zw HH,zw HH,zi HH,zw HH⟩
       ·have hns:¬ Ls Lz 12:=fun h=>hnl (dq HCL h 11)
        have D10:=(pj10 HH.out) (rq hi 10)
        have E9:=(pj15 HH.out) (dq HCL (rq hi 10) 9) hns
        have V0:=(pj17 HH.out) hns
        have hnla:¬ Ls Lz 14:=fun h=>hns (HCL.out.dep2 h 12 Zq8)
        clear hi HCL
        obtain ⟨D10,X10⟩:=D10
        simp only[zA,zB,zC,D10]
        refine yaa rfl rfl fun K hK=>?_
        go_wp2_with fail
        rw[HJ0.out]
        exact ⟨q,d0,y,b1,W.heap.size,A6,c6,x104,x105,x106,x107,x108,x109,x110,x111,x112,x113,x114,.slice (some ⟨W.heap.size,0,none⟩) 1 1,x116,x117,(by simp only[zA,zB,zC,D10]),zk HH,zk HH,zk HH,zk HH,zk HH,zk HH,zk HH,zk HH,zk HH,zk HH,zk HH,fun _=>rfl,zk HH,zk HH,Ba hnla,(Bt (pj15 HH.out) fun x=>yam x (Fr.alloc (Fr.start V0.cur) _) Zq6),fun _ _=>⟨_,_,ybg rfl rfl (show R≤W.heap.size by have:=V0.gr.size;omega) rfl,yb3 (d:=5) (h:=⟨6,⟨#[]⟩,[a0,y],0⟩) (Aa:=some ⟨b1,0,none⟩) (ca:=2) (Ab:=none) (cb:=0) (yam E9 (Fr.alloc (Fr.start V0.cur) _) Zq6) (yc5 5) (Nat.le_refl _),by rw[yb5,ydd];show 0+(2+(a0.size+(y.size+0))+0)≤_;omega⟩,fun h=>Fr.call ((pj17 HH.out) (fun h2=>h h2.fwd)) (Fr.cur (Fr.alloc (Fr.start V0.cur) _)) (Fr.gr (Fr.alloc (Fr.start V0.cur) _)),Bb hns⟩
       ·have hns:¬ Ls Lz 12:=hnl
        have D1:=(pj1 HH.out) (rq hi 1)
        have D11:=(pj11 HH.out) (rq hi 11)
        have E11:=(pj16 HH.out) (rq hi 11) hns
        have V0:=(pj17 HH.out) hns
        have hnla:¬ Ls Lz 14:=fun h=>hns (HCL.out.dep2 h 12 Zq8)
        clear hi HCL
        simp only[zA,zB,zC,D1,D11]
        have SW:=hD (S8.out.call hp1w V0)
        obtain ⟨cs,s,hlr,hls,hlz⟩:=E11
        refine yaa rfl rfl fun K hK=>?_
        simp only[List.getElem_toArray,List.getElem_cons_succ,List.getElem_cons_zero]
        refine yae _ rfl _ _ 25 rfl (w1.heap.size+1) 66 i0 _ 5 80 Tryz.underlying25 hi hz0 hz1 hz2 rfl Zq9 _ _ _ rfl SW.out.bo _ 1 1 _ rfl hlr.rd hls.ones ?c3 ?c4 ?c5 ?_
        case c3=>simp only[maxLen];omega
        case c4=>omega
        case c5=>have:=V0.gr.size;omega
        intro v6 W6 own6 gr6 hat
        obtain ⟨A7,c7,rfl,_,_,_⟩:=yah own6
        go_wp2_with fail
        rw[HJ0.out]
        exact ⟨q,d0,y,b1,b4,A7,c7,x104,x105,x106,x107,x108,x109,x110,x111,x112,x113,x114,x115,.slice A7 (nb+1) c7,x117,(by first|(simp only[zA,zB,zC,D1,D11] <;> fail)|simp only[Act.put,zA,zB,zC,D1,D11]),zk HH,zk HH,zk HH,zk HH,zk HH,zk HH,zk HH,zk HH,zk HH,zk HH,zk HH,zk HH,fun _=>rfl,zk HH,Ba hnla,zx hnow,zx hnow,zy hnow,fun _ _=>⟨W,cs,s,V0,hls,hlz,own6,gr6,hat,(gr6.block X (lt_of_block SW.out.x) (fun e=>SW.out.vx e.symm)).trans SW.out.x⟩⟩
       ·clear hi HCL
        simp only[zA,zB,zC]
        refine yaa rfl rfl fun K hK=>?_
        go_wp2_with fail
        rw[HJ0.out]
        exact ⟨q,d0,y,b1,b4,A6,c6,x104,x105,x106,x107,x108,x109,x110,x111,x112,x113,x114,x115,x116,.pointer (some ⟨X,1,none⟩),(by simp only[zA,zB,zC]),zT HH⟩
       ·have D12:=(pj12 HH.out) (rq hi 12)
        have D13:=(pj13 HH.out) (rq hi 13)
        have HST:=rq hi 12
        have VL:=(pe18 HH.out) HST hnl
        clear hi HCL
        simp only[zA,zB,zC,D12,D13]
        obtain ⟨W5,cs,s,l1,l2,l3,l4,l5,l6,l7⟩:=VL
        have px6:=yaj (j:=1) l7 rfl
        have fx6:=yab (j:=1) l7
        have lx6:=lt_of_block l7
        have PEH:=hD (S8.out.push hp1w l1 l2 HP.out l4 rfl l5 l6 l7)
        have SQH:=hD (yha (l:=l) l3)
        clear l1 l2 l3 l4 l5 l6 l7
        refine yaa rfl rfl fun K hK=>?_
        go_wp2_with fail
        rw[HJ0.out]
        exact ⟨q,d0,y,b1,b4,A6,c6,x104,x105,x106,x107,x108,x109,x110,x111,x112,x113,x114,x115,x116,x117,(by simp only[zA,zB,zC,D12,D13]),zk HH,zk HH,zk HH,zk HH,zk HH,zk HH,zk HH,zk HH,zk HH,zk HH,zk HH,zk HH,zk HH,zk HH,fun _=>⟨_,_,_,_,_,PEH.out,SQH.out⟩,zx (Ls.fwd HST),zx (Ls.fwd HST),zy (Ls.fwd HST),zx hnow⟩
      ·intro Lz a W hsize hJ hr
       rw[HJ0.out] at hJ
       have hall:=ybj hsize Zq8 hr
       obtain ⟨q,d0,y,b1,b4,A6,c6,x104,x105,x106,x107,x108,x109,x110,x111,x112,x113,x114,x115,x116,x117,rfl,HF⟩:=hJ
       have HH:=hD HF
       have HEND:=(pj14 HH.out) (hall 14 Zq9)
       clear HF HH hall hr hsize
       simp only[zA,zB,zC]
       obtain ⟨Ab7,nb7,cb7,l7,xs7,e1,e2⟩:=HEND
       have EH:=hD e1
       have hz9:szT 6 l7≤100000+(t+1)*50001:=by omega
       clear e1 e2
       go_wp2_with fail
       go_roundw
       case rel=>exact ⟨t+1,Ab7,nb7,cb7,l7,xs7,by go_num,by omega,EH.out,hz9⟩
       case measure=>simp [intOf];omega
     ·obtain rfl:t=4:=by omega
      go_wp2_with fail
      go_meet
      exact ⟨_,_,_,_,_,S8.out,by omega⟩
   have g4:(x==4)=false:=by simp [e4]
   clear e0 e1 e2 e3 e4
   go_wp2_with fail
   go_meet
   exact ⟨_,_,_,_,_,S8.out,by omega⟩
  case rest =>
   obtain ⟨Ab7,nb7,cb7,l7,xs7,hpd,hz7⟩:=hcut
   obtain ⟨wz,rfl⟩:∃ wz:World,wz=wc:=⟨_,rfl⟩
   have SQ:=hD hpd
   have HZ7:=hD hz7
   clear hpd hz7
   obtain ⟨k0,k1⟩:=ycs (lay:=Below.refl _ _) SQ.out.x
   have RZ:=yej SQ.out.fr Zq6 R1.out
   obtain ⟨r0,r1⟩:=ycs (lay:=Below.refl _ _) RZ
   have g0:=yab (j:=0) RZ
   have g1:=yab (j:=1) RZ
   have lrz:=lt_of_block RZ
   have lxz:=lt_of_block SQ.out.x
   have BWZ:=hD (B1.out.trans (yd4 SQ.out.fr.gr Zq6 (fun k hk=>by injection hk with hk;omega)))
   clear RZ
   go_wp2_with fail
   exact bodyPost_ret (v:=.agg #[.slice Aq nq cq,.slice Ab7 nb7 cb7]) (by simp [results,Tryz.results75,go_sem,r0,r1]) rfl (SQ.out.done hw1 BWZ.out _ _ HZ7.out HQL.out hq4 hqc hqm HQ9.out)
end Go.Proofs.YthkbckkghnbonaaGreatDoor
