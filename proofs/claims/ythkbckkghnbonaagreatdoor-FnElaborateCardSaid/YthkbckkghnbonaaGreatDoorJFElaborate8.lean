/- What the calls that this law reaches answer, part 8 of 20. -/
import Derived.Test.YthkbckkghnbonaaGreatDoorJFElaborate7
import Derived.Test.YthkbckkghnbonaaGreatDoorJFElaborate3
set_option maxRecDepth 100000
set_option maxHeartbeats 16000000
set_option linter.unusedVariables false
namespace Go.Proofs.YthkbckkghnbonaaGreatDoor
open Go.RowKit
set_option linter.unusedVariables false
theorem EnvS.push2 {w4 W W':World} {E g0:Nat} {P4:Nat→Prop} {names:List ByteArray} {e:Es} {v6:Value} (h:EnvS W E (fun b=>b≠g0∧(P4 b∨w4.heap.size≤b)) names e) (hg:W.grownBy W' (some g0)) (hat:v6.ownBlock=some g0∨v6.ownBlock=some W.heap.size) (hE:E<w4.heap.size) (h0:w4.heap.size≤g0) (hP:∀ b,P4 b→b<w4.heap.size):EnvS W' E (Aft w4 P4 v6) names e:=by
 refine h.keep (fun b hb hlt=>hg.block b hlt (fun e=>?_)) hg.size (fun b hlt hb=>?_)
 ·injection e with e
  rcases hb with rfl|hb
  ·omega
  ·exact hb.1 e
 ·rcases hb.2 with h1|h1
  ·exact .inl ⟨h1,hP b h1⟩
  ·refine .inr ⟨h1,fun e=>?_⟩
   rcases hat with ha|ha
   ·rw[ha] at e;injection e with e;exact hb.1 e
   ·rw[ha] at e;injection e with e;omega
theorem yso (a b:Nat):imax (a:Int) ((b:Int)+1)=((max a (b+1):Nat):Int):=by unfold imax;split <;> omega
theorem yrh {d:Nat} (hall:AllS d):AncS d:=by
 obtain ⟨i0,hi,hz0,hz1,hz2⟩:=info_parts yda
 intro P h bd Aa ca Ab nb cb E names e w ha hb hv hk hP hE hnm hsz
 have hElt:=hE.lt
 obtain ⟨X,hX⟩:∃ X,X=w.heap.size:=⟨_,rfl⟩
 obtain ⟨P0,hP0e⟩:∃ P0:Nat→Prop,P0=fun b=>P b∧b<w.heap.size:=⟨_,rfl⟩
 obtain ⟨w0,hw0⟩:∃ w0,w0=w.alloc (.cells #[.int .i64 h.k,.string h.word,.slice Aa h.args.length ca,.int .i64 h.count,.slice Ab nb cb] 66):=⟨_,rfl⟩
 have B0:=hD (show Below w.heap.size w w0 by rw[hw0];exact Zq0)
 have hs0:=B0.out.size
 have EN0:=hD (hE.below (Q:=P0) B0.out (fun b hl hp=>by rw[hP0e];exact ⟨hp,hl⟩))
 have RA0:=hD (ygr (Q:=P0) ha (fun b _ hl=>B0.out.block b hl) hs0 (fun b hl hp=>by rw[hP0e];exact ⟨hp,hl⟩))
 have TB0:=hD (yik (Q:=P0) hb (fun b _ hl=>B0.out.block b hl) hs0 (fun b hl hp=>by rw[hP0e];exact ⟨hp,hl⟩))
 have hP0:¬ P0 E:=by rw[hP0e];exact fun h=>hP h.1
 have hPlt:∀ b,P0 b→b<w.heap.size:=by rw[hP0e];exact fun b h=>h.2
 have X0:=hD (show w0.heap[X]?=some (.cells #[.int .i64 h.k,.string h.word,.slice Aa h.args.length ca,.int .i64 h.count,.slice Ab nb cb] 66 (0,0)) by rw[hw0,hX];exact yac _ _)
 have hX0:=lt_of_block X0.out
 have hXE:X≠E:=by omega
 have hE0:E<w0.heap.size:=by omega
 obtain ⟨k0,k1,k2,k3,k4⟩:=yb9 (lay:=Below.refl _ _) X0.out
 have HX:=hD hX
 have HW0:=hD hw0
 have HPE:=hD hP0e
 have HV:=hD hv
 have HSZ:=hD hsz
 have hXw:w.heap.size≤X:=by omega
 have hnn:names.length+(1+ybf d bd)≤1000:=by rwa [if_pos (by rw[hk];decide)] at hnm
 clear hX hw0 ha hb hv hE hP hsz hP0e hnm
 have hal:0<h.args.length:=by have h1:=(ybp HV.out).2.1;rw[hk] at h1;have h2:yar 5 h.word=1:=Zq14;omega
 obtain ⟨b,off,rfl,hbP,hb0,hbc⟩:=RA0.out.2 hal
 have hbE:b≠E:=fun e=>hP0 (e▸hbP)
 obtain ⟨a0,hA0⟩:∃ a0,a0=arg0 h:=⟨_,rfl⟩
 have HA0:=hD hA0
 have c0:w0.cell? ⟨b,off,none⟩=some (.string a0):=hbc 0 _ (by unfold strs;rw[List.getElem?_map,yc3 hal,hA0];rfl)
 clear hA0
 have HF0:=hD (sS_5 (all:=sA d) (bd:=bd) (names:=names) (e:=e) hk)
 rw[←HA0.out] at HF0
 clear hk
 obtain ⟨An,nn,cn,Bn,nbb,cbb,hh0,rfl,hna,hbl,hbi⟩:=id EN0.out
 have HH0:=hD hh0
 have NA0:=hD hna
 have BI0:=hD hbi
 have HBL:=hD hbl
 have z0:=yaj (j:=0) hh0 rfl
 have z1:=yaj (j:=1) hh0 rfl
 clear hh0 hna hbi hbl
 obtain ⟨C,hC⟩:∃ C,C=w0.heap.size:=⟨_,rfl⟩
 obtain ⟨w1,hw1⟩:∃ w1,w1=w0.alloc (.cells #[.int .i64 3,.int .i64 0,.int .i64 0,.int .i64 0,.int .i64 0,.int .i64 (names.length:Int),.int .i64 0,.int .i64 0] 104):=⟨_,rfl⟩
 have b1:Below w0.heap.size w0 w1:=by rw[hw1];exact Zq0
 have C1:=hD (show w1.heap[C]?=some (.cells #[.int .i64 3,.int .i64 0,.int .i64 0,.int .i64 0,.int .i64 0,.int .i64 (names.length:Int),.int .i64 0,.int .i64 0] 104 (0,0)) by rw[hw1,hC];exact yac _ _)
 have hs1:=b1.size
 have lC1:=lt_of_block C1.out
 have HW1:=hD hw1
 have HC:=hD hC
 have hC0:w0.heap.size≤C:=by omega
 have hXC:X<C:=by omega
 have B1:=hD b1
 clear hw1 hC b1
 go_enter Tryz.func144,Tryz.ntmps144
 go_upto_region 1 with (fail)
 rw[←HW0.out,←HX.out]
 go_upto_region 3 with (fail)
 rw[←HW1.out,←HC.out]
 have x2:=(B1.out.cell (p:=⟨X,2,none⟩) hX0).trans k2
 have cb0:=(B1.out.cell (p:=⟨b,off,none⟩) hb0).trans c0
 have hE1:=(B1.out.block E hE0).trans HH0.out
 have e0:=yaj (j:=0) hE1 rfl
 have lb1:b<w1.heap.size:=by omega
 have lX1:X<w1.heap.size:=by omega
 have lE1:E<w1.heap.size:=by omega
 clear z0 z1
 go_wp2_with fail
 refine(yf0 An names.length cn names a0 w1 (NA0.out.rd.below B1.out) rfl Zq6).mono ?_
 rintro e1 w2 ⟨v2,rfl,ho2,hb2,hs2⟩
 obtain ⟨Aw,cw,rfl,_,_,_⟩:=yah ho2
 have hE2:=(hb2.block E lE1).trans hE1
 have e0:=yaj (j:=0) hE2 rfl
 have f0:=yab (j:=0) hE2
 have lE2:=lt_of_block hE2
 have NW2:=hD (yck ho2)
 have B2:=hD hb2
 have HE2:=hD hE2
 clear hE1 hE2 ho2 hb2 x2 cb0
 go_upto_region 4 with (fail)
 refine yez (fun w3 hw3=>?_)
 have g3:w2.grownBy w3 (some E):=by rw[hw3];exact setE _
 have h3:w3.heap[E]?=some (.cells #[.slice Aw (names.length+1) cw,.slice Bn nbb cbb,.int .i64 (e.most:Int),.bool e.bad] 83 (0,0)):=by rw[hw3];exact ya1 HE2.out _
 have y0:=yaj (j:=0) h3 rfl
 have y2:=yaj (j:=2) h3 rfl
 have lE3:=lt_of_block h3
 have HH3:=hD h3
 have G3:=hD g3
 have hs3:=g3.size
 have NW3:=hD (NW2.out.call g3 (fun hh=>by have hh:w1.heap.size≤E:=hh;omega))
 obtain ⟨mx,hmx⟩:∃ mx:Int,imax (e.most:Int) ((names.length:Int)+1)=mx:=⟨_,rfl⟩
 have HMX:=hD hmx
 clear hw3 h3 g3 hmx e0 f0
 obtain ⟨J0,hJ0⟩:∃ J:Array Value→Array Bool→Act→World→Prop,J=(fun A0 Lz a W=>∃ (z9:Nat),∃ x24 x25 x26 x27 x28 x29 x30 x31 x32 x33 x34 x35 x36:Value,a=⟨(((((((((((((A0.setIfInBounds 24 x24).setIfInBounds 25 x25).setIfInBounds 26 x26).setIfInBounds 27 x27).setIfInBounds 28 x28).setIfInBounds 29 x29).setIfInBounds 30 x30).setIfInBounds 31 x31).setIfInBounds 32 x32).setIfInBounds 33 x33).setIfInBounds 34 x34).setIfInBounds 35 x35).setIfInBounds 36 x36),[]⟩∧(Ls Lz 0→x24=.pointer (some ⟨E,0,none⟩))∧(Ls Lz 1→x25=.pointer (some ⟨E,0,none⟩))∧(Ls Lz 2→x26=.pointer (some ⟨E,0,none⟩))∧(Ls Lz 3→x27=.pointer (some ⟨E,2,none⟩))∧(Ls Lz 4→x28=.int .i64 (e.most:Int))∧(Ls Lz 5→x29=.pointer (some ⟨E,0,none⟩))∧(Ls Lz 6→x30=.pointer (some ⟨E,0,none⟩))∧(Ls Lz 7→x31=.pointer (some ⟨E,0,none⟩))∧(Ls Lz 8→x32=.slice Aw (names.length+1) cw)∧(Ls Lz 9→x33=.int .i64 ((names.length:Int)+1))∧(Ls Lz 10→x34=.int .i64 mx)∧(Ls Lz 11→x35=.pointer (some ⟨E,0,none⟩))∧(Ls Lz 12→x36=.pointer (some ⟨E,2,none⟩))∧(Ls Lz 13→(W.heap[E]?=some (.cells #[.slice Aw (names.length+1) cw,.slice Bn nbb cbb,.int .i64 mx,.bool e.bad] 83 (0,0))∧∃ W5,Below w3.heap.size w3 W5∧W5.grownBy W (some E)))∧(¬ Ls Lz 13→Below w3.heap.size w3 W)∧(Ls Lz 13→¬ Ls Lz 13→True)):=⟨_,rfl⟩
 have HJ0:=hD hJ0
 clear hJ0
 refine ya3 Zq8 J0 ?_ ?_ ?_
 ·intro A0
  rw[HJ0.out]
  exact ⟨0,A0.getD 24 undef,A0.getD 25 undef,A0.getD 26 undef,A0.getD 27 undef,A0.getD 28 undef,A0.getD 29 undef,A0.getD 30 undef,A0.getD 31 undef,A0.getD 32 undef,A0.getD 33 undef,A0.getD 34 undef,A0.getD 35 undef,A0.getD 36 undef,by simp only[ybm],zn,zn,zn,zn,zn,zn,zn,zn,zn,zn,zn,zn,zn,zn,fun _=>ycb (Below.refl _ _),zn⟩
 ·intro Lz a W hsize hcl hJ i hi
  have hil:=ybn hi
  have hnl:=ybi hi
  have hnow:=ybh hi hsize
  have HCL:=hD hcl
  rw[HJ0.out] at hJ
  obtain ⟨z9,x24,x25,x26,x27,x28,x29,x30,x31,x32,x33,x34,x35,x36,rfl,HF⟩:=hJ
  have HH:=hD HF
  have hi2:i=0∨i=1∨i=2∨i=3∨i=4∨i=5∨i=6∨i=7∨i=8∨i=9∨i=10∨i=11∨i=12∨i=13:=by simp at hil;omega
  clear hil hcl HF
  rcases hi2 with rfl|rfl|rfl|rfl|rfl|rfl|rfl|rfl|rfl|rfl|rfl|rfl|rfl|rfl
  ·clear hi HCL
   simp only[zA,zB,zC]
   refine yaa rfl rfl fun K hK=>?_
   go_wp2_with fail
   rw[HJ0.out]
   exact ⟨z9,.pointer (some ⟨E,0,none⟩),x25,x26,x27,x28,x29,x30,x31,x32,x33,x34,x35,x36,(by simp only[zA,zB,zC]),zT HH⟩
  ·clear hi HCL
   simp only[zA,zB,zC]
   refine yaa rfl rfl fun K hK=>?_
   go_wp2_with fail
   rw[HJ0.out]
   exact ⟨z9,x24,.pointer (some ⟨E,0,none⟩),x26,x27,x28,x29,x30,x31,x32,x33,x34,x35,x36,(by simp only[zA,zB,zC]),zT HH⟩
  ·have D1:=(pj1 HH.out) (rq hi 1)
   clear hi HCL
   simp only[zA,zB,zC,D1]
   refine yaa rfl rfl fun K hK=>?_
   go_wp2_with fail
   rw[HJ0.out]
   exact ⟨z9,x24,x25,.pointer (some ⟨E,0,none⟩),x27,x28,x29,x30,x31,x32,x33,x34,x35,x36,(by simp only[zA,zB,zC,D1]),zT HH⟩
  ·have D2:=(pj2 HH.out) (rq hi 2)
   clear hi HCL
   simp only[zA,zB,zC,D2]
   refine yaa rfl rfl fun K hK=>?_
   go_wp2_with fail
   rw[HJ0.out]
   exact ⟨z9,x24,x25,x26,.pointer (some ⟨E,2,none⟩),x28,x29,x30,x31,x32,x33,x34,x35,x36,(by simp only[zA,zB,zC,D2]),zT HH⟩
  ·have hns:¬ Ls Lz 13:=fun h=>hnl (dq HCL (dq HCL h 10) 4)
   have D3:=(pj3 HH.out) (rq hi 3)
   have V0:=(pj14 HH.out) hns
   clear hi HCL
   simp only[zA,zB,zC,D3]
   have q0:=(V0.cell (p:=⟨E,2,none⟩) lE3).trans y2
   refine yaa rfl rfl fun K hK=>?_
   go_wp2_with fail
   rw[HJ0.out]
   exact ⟨z9,x24,x25,x26,x27,.int .i64 (e.most:Int),x29,x30,x31,x32,x33,x34,x35,x36,(by simp only[zA,zB,zC,D3]),zT HH⟩
  ·clear hi HCL
   simp only[zA,zB,zC]
   refine yaa rfl rfl fun K hK=>?_
   go_wp2_with fail
   rw[HJ0.out]
   exact ⟨z9,x24,x25,x26,x27,x28,.pointer (some ⟨E,0,none⟩),x30,x31,x32,x33,x34,x35,x36,(by simp only[zA,zB,zC]),zT HH⟩
  ·have D5:=(pj5 HH.out) (rq hi 5)
   clear hi HCL
   simp only[zA,zB,zC,D5]
   refine yaa rfl rfl fun K hK=>?_
   go_wp2_with fail
   rw[HJ0.out]
   exact ⟨z9,x24,x25,x26,x27,x28,x29,.pointer (some ⟨E,0,none⟩),x31,x32,x33,x34,x35,x36,(by simp only[zA,zB,zC,D5]),zT HH⟩
  ·have D6:=(pj6 HH.out) (rq hi 6)
   clear hi HCL
   simp only[zA,zB,zC,D6]
   refine yaa rfl rfl fun K hK=>?_
   go_wp2_with fail
   rw[HJ0.out]
   exact ⟨z9,x24,x25,x26,x27,x28,x29,x30,.pointer (some ⟨E,0,none⟩),x32,x33,x34,x35,x36,(by simp only[zA,zB,zC,D6]),zT HH⟩
  ·have hns:¬ Ls Lz 13:=fun h=>hnl (dq HCL (dq HCL (dq HCL h 10) 9) 8)
   have D7:=(pj7 HH.out) (rq hi 7)
   have V0:=(pj14 HH.out) hns
   clear hi HCL
   simp only[zA,zB,zC,D7]
   have q0:=(V0.cell (p:=⟨E,0,none⟩) lE3).trans y0
   refine yaa rfl rfl fun K hK=>?_
   go_wp2_with fail
   rw[HJ0.out]
   exact ⟨z9,x24,x25,x26,x27,x28,x29,x30,x31,.slice Aw (names.length+1) cw,x33,x34,x35,x36,(by simp only[zA,zB,zC,D7]),zT HH⟩
  ·have D8:=(pj8 HH.out) (rq hi 8)
   clear hi HCL
   simp only[zA,zB,zC,D8]
   refine yaa rfl rfl fun K hK=>?_
   go_wp2_with fail
   rw[HJ0.out]
   exact ⟨z9,x24,x25,x26,x27,x28,x29,x30,x31,x32,.int .i64 ((names.length:Int)+1),x34,x35,x36,(by simp only[zA,zB,zC,D8]),zT HH⟩
  ·have hns:¬ Ls Lz 13:=fun h=>hnl (dq HCL h 10)
   have D4:=(pj4 HH.out) (rq hi 4)
   have D9:=(pj9 HH.out) (rq hi 9)
   have V0:=(pj14 HH.out) hns
   clear hi HCL
   simp only[zA,zB,zC,D4,D9]
   refine yaa rfl rfl fun K hK=>?_
   go_wp2_with fail
   refine(yld _ _ W).mono ?_
   rintro e1 y ⟨rfl,rfl⟩
   rw[HMX.out]
   go_wp2_with fail
   rw[HJ0.out]
   exact ⟨z9,x24,x25,x26,x27,x28,x29,x30,x31,x32,x33,.int .i64 mx,x35,x36,(by simp only[zA,zB,zC,D4,D9]),zT HH⟩
  ·have D0:=(pj0 HH.out) (rq hi 0)
   clear hi HCL
   simp only[zA,zB,zC,D0]
   refine yaa rfl rfl fun K hK=>?_
   go_wp2_with fail
   rw[HJ0.out]
   exact ⟨z9,x24,x25,x26,x27,x28,x29,x30,x31,x32,x33,x34,.pointer (some ⟨E,0,none⟩),x36,(by simp only[zA,zB,zC,D0]),zT HH⟩
  ·have D11:=(pj11 HH.out) (rq hi 11)
   clear hi HCL
   simp only[zA,zB,zC,D11]
   refine yaa rfl rfl fun K hK=>?_
   go_wp2_with fail
   rw[HJ0.out]
   exact ⟨z9,x24,x25,x26,x27,x28,x29,x30,x31,x32,x33,x34,x35,.pointer (some ⟨E,2,none⟩),(by simp only[zA,zB,zC,D11]),zT HH⟩
  ·have hns:¬ Ls Lz 13:=hnl
   have D10:=(pj10 HH.out) (rq hi 10)
   have D12:=(pj12 HH.out) (rq hi 12)
   have V0:=(pj14 HH.out) hns
   clear hi HCL
   simp only[zA,zB,zC,D10,D12]
   have hE9:=(V0.block E lE3).trans HH3.out
   have q1:=yaj (j:=2) hE9 rfl
   have f1:=yab (j:=2) hE9
   have lE:=lt_of_block hE9
   have HE9:=hD hE9
   clear hE9
   refine yaa rfl rfl fun K hK=>?_
   go_wp2_with fail
   rw[HJ0.out]
   exact ⟨z9,x24,x25,x26,x27,x28,x29,x30,x31,x32,x33,x34,x35,x36,(by first|(simp only[zA,zB,zC,D10,D12] <;> fail)|simp only[Act.put,zA,zB,zC,D10,D12]),zk HH,zk HH,zk HH,zk HH,zk HH,zk HH,zk HH,zk HH,zk HH,zk HH,zk HH,zk HH,zk HH,fun _=>⟨ya1 HE9.out _,W,V0,setE _⟩,zy hnow,zx hnow⟩
 ·intro Lz a W hsize hJ hr
  rw[HJ0.out] at hJ
  have hall:=ybj hsize Zq8 hr
  obtain ⟨z9,x24,x25,x26,x27,x28,x29,x30,x31,x32,x33,x34,x35,x36,rfl,HF⟩:=hJ
  have HH:=hD HF
  have HEND:=(pj13 HH.out) (hall 13 Zq9)
  clear HF HH hall hr hsize
  simp only[zA,zB,zC]
  obtain ⟨h4,W5,hb5,hg5⟩:=HEND
  obtain ⟨w4,rfl⟩:∃ w4:World,w4=W:=⟨_,rfl⟩
  have hs5:=hb5.size
  have g34:=grE (yb7 hb5 (some E)) hg5
  have hs4:=g34.size
  have g24:=grE G3.out g34
  have g04:=grE (yb7 ((B1.out.mono (Nat.le_refl _)).trans (B2.out.mono hs1)) (some E)) g24
  have lE4:E<w4.heap.size:=by omega
  have lX4:X<w4.heap.size:=by omega
  have lC4:C<w4.heap.size:=by omega
  have hCE:C≠E:=by omega
  have k4:=(ycr (o:=4) g04 hX0 hXE).trans k4
  have C4:=hD (((g24.block C Zq6 (fun e=>hCE (by injection e)))).trans ((B2.out.block C lC1).trans C1.out))
  obtain ⟨P4,hP4e⟩:∃ P4:Nat→Prop,P4=fun b=>P0 b∨(w1.heap.size≤b∧b<w4.heap.size):=⟨_,rfl⟩
  have hP4:¬ P4 E:=by
   rw[hP4e]
   rintro (h|h)
   ·exact hP0 h
   ·omega
  have hP4l:∀ b,P4 b→b<w4.heap.size:=by
   rw[hP4e]
   rintro b (h|h)
   ·have:=hPlt b h;omega
   ·exact h.2
  have hpi:∀ b,P0 b→P4 b:=by rw[hP4e];exact fun b h=>.inl h
  have hpn:∀ b,w1.heap.size≤b→b<w4.heap.size→P4 b:=by rw[hP4e];exact fun b h1 h2=>.inr ⟨h1,h2⟩
  obtain ⟨e4,he4⟩:∃ e4:Es,e4=⟨e.bits,max e.most (names.length+1),e.bad⟩:=⟨_,rfl⟩
  have TB4:=hD (TrQ.mono (fun b _ h=>hpi b h) (TrQ.call TB0.out g04 hP0))
  have NA4:=hD ((NA0.out.call g04 hP0).mono (fun b _ h=>hpi b h))
  have NW4:=hD ((NW3.out.call g34 (fun hh=>by have hh:w1.heap.size≤E:=hh;omega)).mono (fun b hl h=>hpn b h hl))
  have EN4:=hD (show EnvS w4 E P4 (names++[a0]) e4 by
   rw[he4]
   refine ⟨Aw,names.length+1,cw,Bn,nbb,cbb,?_,by simp,NW4.out,HBL.out,(BI0.out.call g04 hP0).mono (fun b _ h=>hpi b h)⟩
   rw[h4,←HMX.out,yso])
  have GG4:=hD g04
  have HP4:Hid (∀ b,P4 b→P0 b∨(w1.heap.size≤b∧b<w4.heap.size)):=by show ∀ b,_;rw[hP4e];exact fun b h=>h
  have HPI:=hD hpi
  obtain ⟨R,hR⟩:∃ R,R=sA d bd (names++[a0]) e4:=⟨_,rfl⟩
  have HRL:Hid (R.1.length≤2000):=by show _≤_;rw[hR];exact ygn _ _ _ _
  have HF:Hid (sS (sA d) h bd names e=([ybc names.length]++R.1++[ybc names.length],R.2)):=by show _=_;rw[HF0.out,hR,he4]
  have HALL:=hD (fun W hb he=>hall P4 bd Ab nb cb E (names++[a0]) e4 W hb (ybp HV.out).2.2.2.2.2.2.2 hP4 he Zq10 (by rw[he4];have:=HSZ.out;show e.bits.length+_≤_;omega))
  rw[←hR] at HALL
  have hm:=fun (j:Nat) (u:Value) (hu)=>yaj (j:=j) (u:=u) C4.out hu
  obtain ⟨m0,m1,m2,m3,m4,m5,m6,m7⟩:(w4.cell? ⟨C,0,none⟩=some (.int .i64 3)∧w4.cell? ⟨C,1,none⟩=some (.int .i64 0)∧w4.cell? ⟨C,2,none⟩=some (.int .i64 0)∧w4.cell? ⟨C,3,none⟩=some (.int .i64 0)∧w4.cell? ⟨C,4,none⟩=some (.int .i64 0)∧w4.cell? ⟨C,5,none⟩=some (.int .i64 (names.length:Int))∧w4.cell? ⟨C,6,none⟩=some (.int .i64 0)∧w4.cell? ⟨C,7,none⟩=some (.int .i64 0)):=⟨hm 0 _ rfl,hm 1 _ rfl,hm 2 _ rfl,hm 3 _ rfl,hm 4 _ rfl,hm 5 _ rfl,hm 6 _ rfl,hm 7 _ rfl⟩
  clear h4 hb5 hg5 g34 g24 g04 hR he4 hP4e hpi hpn y0 y2 hm hall
  go_upto_region 5 with (fail)
  obtain ⟨J0,hJ0⟩:∃ J:Array Value→Array Bool→Act→World→Prop,J=(fun A0 Lz a W=>∃ (g0:Nat) (Ax:Option Addr) (cx:Nat) (Ay:Option Addr) (cy:Nat),∃ x37 x38 x39 x40 x41 x42 x43 x7:Value,a=⟨((((((((A0.setIfInBounds 37 x37).setIfInBounds 38 x38).setIfInBounds 39 x39).setIfInBounds 40 x40).setIfInBounds 41 x41).setIfInBounds 42 x42).setIfInBounds 43 x43).setIfInBounds 7 x7),[]⟩∧(Ls Lz 0→x37=.agg #[.int .i64 3,.int .i64 0,.int .i64 0,.int .i64 0,.int .i64 0,.int .i64 (names.length:Int),.int .i64 0,.int .i64 0])∧(Ls Lz 1→x38=.slice (some ⟨g0,0,none⟩) 1 1)∧(Ls Lz 2→x39=.pointer (some ⟨X,4,none⟩))∧(Ls Lz 3→x40=.slice Ab nb cb)∧(Ls Lz 4→x41=.pointer (some ⟨E,0,none⟩))∧(Ls Lz 5→x42=.slice Ax R.1.length cx)∧(Ls Lz 6→x43=.slice Ay (1+R.1.length) cy)∧(Ls Lz 7→(x7=.slice Ay (1+R.1.length) cy∧(W.ownsRow w4.heap.size 104 8 (.slice Ay (1+R.1.length) cy) (1+R.1.length) (yan (ybc (names.length:Int))++R.1.flatMap yan)∧EnvS W E (Aft w4 P4 (.slice Ay (1+R.1.length) cy)) (names++[a0]) R.2∧w4.grownBy W (some E))))∧(Ls Lz 1→¬ Ls Lz 6→W.ownsRow w4.heap.size 104 8 (.slice (some ⟨g0,0,none⟩) 1 1) 1 (yan (ybc (names.length:Int))))∧(Ls Lz 5→¬ Ls Lz 6→(Rd W 8 Ax R.1.length (R.1.flatMap yan)∧EnvS W E (fun b=>b≠g0∧(P4 b∨w4.heap.size≤b)) (names++[a0]) R.2))∧(¬ Ls Lz 6→w4.grownBy W (some E))∧(Ls Lz 6→¬ Ls Lz 7→(W.ownsRow w4.heap.size 104 8 (.slice Ay (1+R.1.length) cy) (1+R.1.length) (yan (ybc (names.length:Int))++R.1.flatMap yan)∧EnvS W E (Aft w4 P4 (.slice Ay (1+R.1.length) cy)) (names++[a0]) R.2∧w4.grownBy W (some E)))∧(¬ Ls Lz 5→EnvS W E P4 (names++[a0]) e4)∧(¬ Ls Lz 1→g0=E)):=⟨_,rfl⟩
  have HJ0:=hD hJ0
  clear hJ0
  refine ya3 Zq8 J0 ?_ ?_ ?_
  ·intro A0
   rw[HJ0.out]
   exact ⟨E,none,0,none,0,A0.getD 37 undef,A0.getD 38 undef,A0.getD 39 undef,A0.getD 40 undef,A0.getD 41 undef,A0.getD 42 undef,A0.getD 43 undef,A0.getD 7 undef,by simp only[ybm],zn,zn,zn,zn,zn,zn,zn,zn,zn,zn,fun _=>ym3,zn,fun _=>EN4.out.drew,fun _=>rfl⟩
  ·intro Lz a W hsize hcl hJ i hi
   have hil:=ybn hi
   have hnl:=ybi hi
   have hnow:=ybh hi hsize
   have HCL:=hD hcl
   rw[HJ0.out] at hJ
   obtain ⟨g0,Ax,cx,Ay,cy,x37,x38,x39,x40,x41,x42,x43,x7,rfl,HF⟩:=hJ
   have HH:=hD HF
   have hi2:i=0∨i=1∨i=2∨i=3∨i=4∨i=5∨i=6∨i=7:=by simp at hil;omega
   clear hil hcl HF
   rcases hi2 with rfl|rfl|rfl|rfl|rfl|rfl|rfl|rfl
   ·have hns:¬ Ls Lz 6:=fun h=>hnl (dq HCL (dq HCL h 1) 0)
    have V0:=(pj10 HH.out) hns
    have hnla:¬ Ls Lz 7:=fun h=>hns (HCL.out.dep2 h 6 Zq8)
    clear hi HCL
    simp only[zA,zB,zC]
    have q0:=(ycr V0 lC4 hCE).trans m0
    have q1:=(ycr V0 lC4 hCE).trans m1
    have q2:=(ycr V0 lC4 hCE).trans m2
    have q3:=(ycr V0 lC4 hCE).trans m3
    have q4:=(ycr V0 lC4 hCE).trans m4
    have q5:=(ycr V0 lC4 hCE).trans m5
    have q6:=(ycr V0 lC4 hCE).trans m6
    have q7:=(ycr V0 lC4 hCE).trans m7
    refine yaa rfl rfl fun K hK=>?_
    go_wp2_with fail
    rw[HJ0.out]
    exact ⟨g0,Ax,cx,Ay,cy,.agg #[.int .i64 3,.int .i64 0,.int .i64 0,.int .i64 0,.int .i64 0,.int .i64 (names.length:Int),.int .i64 0,.int .i64 0],x38,x39,x40,x41,x42,x43,x7,(by simp only[zA,zB,zC]),zT HH⟩
   ·have hns:¬ Ls Lz 6:=fun h=>hnl (dq HCL h 1)
    have D0:=(pj0 HH.out) (rq hi 0)
    have V0:=(pj10 HH.out) hns
    have hnla:¬ Ls Lz 7:=fun h=>hns (HCL.out.dep2 h 6 Zq8)
    have Hh1:=(pe13 HH.out) hnl
    clear hi HCL
    simp only[zA,zB,zC,D0]
    refine yaa rfl rfl fun K hK=>?_
    go_wp2_with fail
    rw[HJ0.out]
    exact ⟨W.heap.size,Ax,cx,Ay,cy,x37,.slice (some ⟨W.heap.size,0,none⟩) 1 1,x39,x40,x41,x42,x43,x7,(by simp only[zA,zB,zC,D0]),zk HH,fun _=>rfl,zk HH,zk HH,zk HH,zk HH,zk HH,Ba hnla,fun _ _=>World.ownsRow_lit W _ 1 V0.size Zq13 rfl,(Bt (pj9 HH.out) fun x=>⟨Rd.below x.1 yap,EnvS.below x.2 yap (fun b hl hb=>⟨Nat.ne_of_lt hl,hb.2⟩)⟩),fun h=>ye1 ((pj10 HH.out) (fun h2=>h h2.fwd)) yap,Bb hns,fun h=>EnvS.below ((pj12 HH.out) (fun h2=>h h2.fwd)) yap (fun _ _ h=>h),zy hnow⟩
   ·clear hi HCL
    simp only[zA,zB,zC]
    refine yaa rfl rfl fun K hK=>?_
    go_wp2_with fail
    rw[HJ0.out]
    exact ⟨g0,Ax,cx,Ay,cy,x37,x38,.pointer (some ⟨X,4,none⟩),x40,x41,x42,x43,x7,(by simp only[zA,zB,zC]),zT HH⟩
   ·have hns:¬ Ls Lz 6:=fun h=>hnl (dq HCL (dq HCL h 5) 3)
    have D2:=(pj2 HH.out) (rq hi 2)
    have V0:=(pj10 HH.out) hns
    have hnla:¬ Ls Lz 7:=fun h=>hns (HCL.out.dep2 h 6 Zq8)
    clear hi HCL
    simp only[zA,zB,zC,D2]
    have q0:=(ycr V0 lX4 hXE).trans k4
    refine yaa rfl rfl fun K hK=>?_
    go_wp2_with fail
    rw[HJ0.out]
    exact ⟨g0,Ax,cx,Ay,cy,x37,x38,x39,.slice Ab nb cb,x41,x42,x43,x7,(by simp only[zA,zB,zC,D2]),zT HH⟩
   ·clear hi HCL
    simp only[zA,zB,zC]
    refine yaa rfl rfl fun K hK=>?_
    go_wp2_with fail
    rw[HJ0.out]
    exact ⟨g0,Ax,cx,Ay,cy,x37,x38,x39,x40,.pointer (some ⟨E,0,none⟩),x42,x43,x7,(by simp only[zA,zB,zC]),zT HH⟩
   ·have hns:¬ Ls Lz 6:=fun h=>hnl (dq HCL h 5)
    have D3:=(pj3 HH.out) (rq hi 3)
    have D4:=(pj4 HH.out) (rq hi 4)
    have V0:=(pj10 HH.out) hns
    have hk6:¬ Ls Lz 6:=fun h=>hnl (dq HCL h 5)
    have hnla:¬ Ls Lz 7:=fun h=>hns (HCL.out.dep2 h 6 Zq8)
    have Hh0:=(pj12 HH.out) hnl
    clear hi HCL
    simp only[zA,zB,zC,D3,D4]
    have hg9:∀ b,(P4 b∨W.heap.size≤b)→b≠g0:=by
     have hz:=V0.size
     by_cases h1:Ls Lz 1
     ·have h2:=((pj8 HH.out) h1 hns).lt g0 rfl
      rintro b (hb|hb)
      ·have:=hP4l b hb;omega
      ·omega
     ·have h2:g0=E:=(pe13 HH.out) h1
      rintro b (hb|hb)
      ·intro e9;exact hP4 (by rw[←h2,←e9];exact hb)
      ·omega
    refine yaa rfl rfl fun K hK=>?_
    go_wp2_with fail
    refine(HALL.out W (TrQ.call TB4.out V0 hP4) Hh0).mono ?_
    rintro e1 y ⟨v7,rfl,ho,hen,hg⟩
    obtain ⟨A7,c7,rfl,_,_,rr⟩:=yah ho
    go_wp2_with fail
    rw[HJ0.out]
    exact ⟨g0,A7,c7,Ay,cy,x37,x38,x39,x40,x41,.slice A7 R.1.length c7,x43,x7,(by simp only[zA,zB,zC,D3,D4]),zk HH,zk HH,zk HH,zk HH,zk HH,fun _=>rfl,Ba hk6,Ba hnla,(Bt (pj8 HH.out) fun x=>ydv x hg lE4),fun _ _=>⟨rr,hen.mono (fun b _ hb=>⟨hg9 b (hb.elim (fun h=>.inl h.1) (fun h=>.inr h.1)),hb.elim (fun h=>.inl h.1) (fun h=>.inr (Nat.le_trans V0.size h.1))⟩)⟩,fun h=>grE ((pj10 HH.out) (fun h2=>h h2.fwd)) hg,Bb hns,zy hnow,fun h=>((pe13 HH.out) (fun h2=>h h2.fwd))⟩
   ·have hns:¬ Ls Lz 6:=hnl
    have D1:=(pj1 HH.out) (rq hi 1)
    have E1:=(pj8 HH.out) (rq hi 1) hns
    have D5:=(pj5 HH.out) (rq hi 5)
    have E5:=(pj9 HH.out) (rq hi 5) hns
    have V0:=(pj10 HH.out) hns
    have hnla:¬ Ls Lz 7:=fun h=>hns (HCL.out.dep2 h 6 Zq8)
    have hp5:Ls Lz 5:=(rq hi 5)
    have hp1:Ls Lz 1:=(rq hi 1)
    clear hi HCL
    simp only[zA,zB,zC,D1,D5]
    refine yaa rfl rfl fun K hK=>?_
    simp only[List.getElem_toArray,List.getElem_cons_succ,List.getElem_cons_zero]
    refine yae _ rfl _ _ 38 rfl w4.heap.size 104 i0 _ 8 64 Tryz.underlying38 hi hz0 hz1 hz2 rfl Zq9 _ _ _ rfl E1 _ R.1.length _ _ rfl E5.1 (yed ydt R.1) ?c3 ?c4 ?c5 ?_
    case c3=>simp only[maxLen];have:=HRL.out;omega
    case c4=>have:=HRL.out;omega
    case c5=>exact V0.size
    intro v6 W6 own6 gr6 hat
    obtain ⟨A8,c8,rfl,_,_,_⟩:=yah own6
    go_wp2_with fail
    rw[HJ0.out]
    exact ⟨g0,Ax,cx,A8,c8,x37,x38,x39,x40,x41,x42,.slice A8 (1+R.1.length) c8,x7,(by first|(simp only[zA,zB,zC,D1,D5] <;> fail)|simp only[Act.put,zA,zB,zC,D1,D5]),zk HH,zk HH,zk HH,zk HH,zk HH,zk HH,fun _=>rfl,Ba hnla,zx hnow,zx hnow,zy hnow,fun _ _=>⟨own6,EnvS.push2 E5.2 gr6 hat lE4 (E1.lt g0 rfl).1 hP4l,yo4 V0 gr6 (ybe E1)⟩,fun h=>absurd (Ls.fwd hp5) h,fun h=>absurd (Ls.fwd hp1) h⟩
   ·have D6:=(pj6 HH.out) (rq hi 6)
    have HST:=rq hi 6
    have VL:=(pj11 HH.out) HST hnl
    clear hi HCL
    simp only[zA,zB,zC,D6]
    refine yaa rfl rfl fun K hK=>?_
    go_wp2_with fail
    rw[HJ0.out]
    exact ⟨g0,Ax,cx,Ay,cy,x37,x38,x39,x40,x41,x42,x43,.slice Ay (1+R.1.length) cy,(by simp only[zA,zB,zC,D6]),zk HH,zk HH,zk HH,zk HH,zk HH,zk HH,zk HH,fun _=>⟨rfl,VL⟩,zx (Ls.fwd HST),zx (Ls.fwd HST),zy (Ls.fwd HST),zx hnow,zi HH,zi HH⟩
  ·intro Lz a W hsize hJ hr
   rw[HJ0.out] at hJ
   have hall:=ybj hsize Zq8 hr
   obtain ⟨g0,Ax,cx,Ay,cy,x37,x38,x39,x40,x41,x42,x43,x7,rfl,HF⟩:=hJ
   have HH:=hD HF
   have HEND:=(pj7 HH.out) (hall 7 Zq9)
   clear HF HH hall hr hsize
   simp only[zA,zB,zC]
   obtain ⟨rfl,ho6,hen6,hg6⟩:=HEND
   obtain ⟨w6,rfl⟩:∃ w6:World,w6=W:=⟨_,rfl⟩
   have hs6:=hg6.size
   obtain ⟨An6,nn6,cn6,Bn6,nb6,cb6,hh6,_,_,hbl6,hbi6⟩:=id hen6
   have e0:=yaj (j:=0) hh6 rfl
   have f0:=yab (j:=0) hh6
   have lE6:=lt_of_block hh6
   have HH6:=hD hh6
   have HBI6:=hD hbi6
   have O6:=hD ho6
   have G6:=hD hg6
   have NA6:=hD (NA4.out.call hg6 hP4)
   have C6:=hD ((hg6.block C lC4 (fun e=>hCE (by injection e))).trans C4.out)
   have HBL6:=hD hbl6
   clear hh6 hbi6 ho6 hg6 hen6 hbl6
   go_upto_region 7 with (fail)
   refine yez (fun w7 hw7=>?_)
   have g7:w6.grownBy w7 (some E):=by rw[hw7];exact setE _
   have h7:w7.heap[E]?=some (.cells #[.slice An names.length cn,.slice Bn6 nb6 cb6,.int .i64 (R.2.most:Int),.bool R.2.bad] 83 (0,0)):=by rw[hw7];exact ya1 HH6.out _
   have hs7:=g7.size
   have O7:=hD (ydv O6.out g7 lE4)
   have EN7:=hD (show EnvS w7 E (Aft w4 P4 (.slice Ay (1+R.1.length) cy)) names R.2 from ⟨An,_,cn,Bn6,nb6,cb6,h7,rfl,(NA6.out.call g7 hP4).mono (fun b _ h=>.inl ⟨h,hP4l b h⟩),HBL6.out,HBI6.out.call g7 (yg7 hP4 lE4)⟩)
   have C7:=hD ((g7.block C Zq6 (fun e=>hCE (by injection e))).trans C6.out)
   have G7:=hD (grE G6.out g7)
   have hm:=fun (j:Nat) (u:Value) (hu)=>yaj (j:=j) (u:=u) C7.out hu
   obtain ⟨m0,m1,m2,m3,m4,m5,m6,m7⟩:(w7.cell? ⟨C,0,none⟩=some (.int .i64 3)∧w7.cell? ⟨C,1,none⟩=some (.int .i64 0)∧w7.cell? ⟨C,2,none⟩=some (.int .i64 0)∧w7.cell? ⟨C,3,none⟩=some (.int .i64 0)∧w7.cell? ⟨C,4,none⟩=some (.int .i64 0)∧w7.cell? ⟨C,5,none⟩=some (.int .i64 (names.length:Int))∧w7.cell? ⟨C,6,none⟩=some (.int .i64 0)∧w7.cell? ⟨C,7,none⟩=some (.int .i64 0)):=⟨hm 0 _ rfl,hm 1 _ rfl,hm 2 _ rfl,hm 3 _ rfl,hm 4 _ rfl,hm 5 _ rfl,hm 6 _ rfl,hm 7 _ rfl⟩
   have lC7:=lt_of_block C7.out
   have hrl:=HRL.out
   clear hw7 h7 g7 hm e0 f0
   go_wp2_with (at_builtin;refine yae _ rfl _ _ 38 rfl w4.heap.size 104 i0 _ 8 64 Tryz.underlying38 hi hz0 hz1 hz2 rfl Zq9 _ _ _ rfl (O7.out.alloc _) _ 1 1 _ rfl (yd2 ?c0 rfl) ?c2 ?c3 ?c4 ?c5 ?_)
   case c0=>first|rfl|simp
   case c2=>repeat' (first|rfl|apply And.intro)
   case c3=>simp only[maxLen];omega
   case c4=>omega
   case c5=>simp;omega
   intro v8 w8 own8 gr8 hat
   have EN8:=hD ((EN7.out.below yap (fun b _ h=>h)).push lE4 gr8 (hat.imp (fun h=>h) (fun h=>h.trans Zq11)) (ybe O7.out))
   have hge:=ybe own8
   have G8:=hD (yo4 (ye1 G7.out yap) gr8 (ybe O7.out))
   have O8:=hD own8
   clear own8 gr8 hat
   go_wp2_with fail
   go_ret
   refine ⟨v8,rfl,?_,?_,grE (yb7 B0.out _) (grE GG4.out G8.out)⟩
   ·rw[HF.out]
    have h9:=ybd O8.out (show w.heap.size≤w4.heap.size by omega)
    have e1:([ybc names.length]++R.1++[ybc names.length]).length=1+R.1.length+1:=by simp;omega
    have e2:([ybc names.length]++R.1++[ybc names.length]).flatMap yan=yan (ybc names.length)++R.1.flatMap yan++yan (ybc names.length):=by simp
    show World.ownsRow _ _ _ _ _ ([ybc names.length]++R.1++[ybc names.length]).length (([ybc names.length]++R.1++[ybc names.length]).flatMap yan)
    rw[e1,e2]
    exact h9
   ·rw[HF.out]
    refine EN8.out.mono (fun b _ hb=>?_)
    rcases hb with ⟨h1,h2⟩|⟨h1,h2⟩
    ·rcases HP4.out b h1 with h3|h3
     ·exact .inl (by rw[HPE.out] at h3;exact h3)
     ·exact .inr ⟨by omega,fun e=>by have:=hge b e.symm;omega⟩
    ·exact .inr ⟨by omega,h2⟩
def ye9 (d:Nat) (bd:List (Tr d)) (w:World) (Ac:Option Addr) (nc cc:Nat):Prop:=∀ (E:Nat) (An:Option Addr) (nn cn:Nat) (Ah:Option Addr) (nh ch:Nat) (Ab:Option Addr) (nb cb:Nat) (names held:List ByteArray) (w':World),Below w.heap.size w w' →
 w'.heap[E]?=some (.cells #[.slice An nn cn,.slice Ah nh ch,.bool true,.slice Ab nb cb] 100 (0,0))→Rd w' 1 An nn (strs names)→Rd w' 1 Ah nh (strs held)→names.length=nn→held.length=nh→nn≤4→nh+szT d bd≤1048576 →
 Calls Tryz.prog 78 #[.slice Ac nc cc,.pointer (some ⟨E,0,none⟩)] w' (ydi (chkN d bd names held) w')
theorem ylm (d:Nat) (word:ByteArray) (args names held:List ByteArray) (count:Int) (bd:List (Tr d)) (Aa:Option Addr) (m ca:Nat) (Ac:Option Addr) (nc cc E:Nat) (An Ah Ab:Option Addr) (nn cn nh ch nb cb:Nat) (ins:Bool) (w:World)
  (hx:w.heap[E]?=some (.cells #[.slice An nn cn,.slice Ah nh ch,.bool ins,.slice Ab nb cb] 100 (0,0))) (hm:args.length=m) (hra:Rd w 1 Aa m (strs args)) (hca:m≤ca) (hnn:names.length=nn) (hrn:Rd w 1 An nn (strs names)) (hnh:held.length=nh) (hrh:Rd w 1 Ah nh (strs held)) (h1:m≤1048576) (h2:nn≤4) (h3:nh+m+szT d bd≤1048576)
  (hv:vOne d (ya7 d) ⟨1,word,args,count⟩ bd=true) (hbody:ye9 d bd w Ac nc cc) :
  Calls Tryz.prog 125 #[.agg #[.int .i64 1,.string word,.slice Aa m ca,.int .i64 count,.slice Ac nc cc],.pointer (some ⟨E,0,none⟩)] w (ydi (oneN ⟨1,word,args,count⟩ (chkN d bd) names held) w):=by
 obtain ⟨w0,hw0⟩:∃ w0,w0=((w.alloc (.cells #[.int .i64 1,.string word,.slice Aa m ca,.int .i64 count,.slice Ac nc cc] 66)).alloc (.cells #[.int .i64 0,.string ⟨#[]⟩] 96)).alloc (.cells #[.slice An nn cn,.slice Ah nh ch,.bool true,.slice Ab nb cb] 100):=⟨_,rfl⟩
 have X0:=hD (show w0.heap[w.heap.size]?=some (.cells #[.int .i64 1,.string word,.slice Aa m ca,.int .i64 count,.slice Ac nc cc] 66 (0,0)) by rw[hw0];exact ydp _ _ _ _)
 have X1:=hD (show w0.heap[w.heap.size+1]?=some (.cells #[.int .i64 0,.string ⟨#[]⟩] 96 (0,0)) by rw[hw0];exact ycw _ _ _ _)
 have X2:=hD (show w0.heap[w.heap.size+1+1]?=some (.cells #[.slice An nn cn,.slice Ah nh ch,.bool true,.slice Ab nb cb] 100 (0,0)) by rw[hw0];exact ycx _ _ _ _)
 have b0:Below w.heap.size w w0:=by rw[hw0];exact Zq0
 have hz:w.heap.size+1+1<w0.heap.size:=by rw[hw0];simp
 have hz0:w.heap.size<w0.heap.size:=by omega
 have hz1:w.heap.size+1<w0.heap.size:=by omega
 have HW:=hD hw0
 have HA0:=hD hra
 have HA:=hD (hra.below b0)
 have HN0:=hD hrn
 have HH0:=hD hrh
 have HN:=hD (hrn.below b0)
 have HH:=hD (hrh.below b0)
 have XE:=hD ((b0.block E (lt_of_block hx)).trans hx)
 have HM:=hD hm
 have HNN:=hD hnn
 have HNH:=hD hnh
 have B0:=hD b0
 have HV:=hD hv
 have HB:=hD hbody
 have al:∀ (W:World) (ob:Obj),Below W.heap.size W (W.alloc ob):=fun W ob=>(Below.refl _ _).alloc (Nat.le_refl _) _
 have AL:=hD al
 have hEl:=lt_of_block hx
 have hE1:E<w.heap.size+1:=by omega
 have hE2:E<w.heap.size+1+1:=by omega
 obtain ⟨e0,e1,e2,e3⟩:=yb1 (lay:=Below.refl _ _) hx
 clear hra hrn hrh hm hnn hnh hv hbody al
 go_enter Tryz.func125,Tryz.ntmps125
 go_wp2_with fail
 rw[←HW.out]
 clear e0 e1 e2 e3 hx b0 hw0
 have hEl0:=lt_of_block XE.out
 obtain ⟨e0,e1,e2,e3⟩:=yb1 (lay:=Below.refl _ _) XE.out
 obtain ⟨p0,p1,p2,p3,p4⟩:=yas (lay:=Below.refl _ _) X0.out
 obtain ⟨k0,k1⟩:=ycd (lay:=Below.refl _ _) X1.out
 have f0:=ya6 (Below.refl _ _) X1.out 0
 have f1:=ya6 (Below.refl _ _) X1.out 1
 have hbd:=yka HV.out rfl
 have HF:=hD (yqj (names:=names) (held:=held) (h:=⟨1,word,args,count⟩) rfl hbd)
 go_still_tail 4,Zq8
 change wpList _ _ _ _ _ w0.drew
 go_wp2_with fail
 refine(ynq word args names held count Aa m ca Ac nc cc An Ah Ab nn cn nh ch nb cb ins _ HM.out HA.out.drew hca HNN.out HN.out.drew HNH.out HH.out.drew h1 Zq6 Zq6).mono ?_
 rintro e w1 ⟨rfl,b1d,s1d⟩
 have b1:=ydz b1d
 have hs1:=b1.size
 clear b1d s1d k0 k1 f0 f1
 obtain ⟨k0,k1⟩:=ycd (lay:=b1) X1.out
 have f0:=ya6 b1 X1.out 0
 have f1:=ya6 b1 X1.out 1
 have hl1:w.heap.size+1<w1.heap.size:=by omega
 obtain ⟨c,hc⟩:∃ c,c=yc0 names held args word:=⟨_,rfl⟩
 have HC:=hD hc
 rw[←hc]
 clear hc
 go_wp2_with fail
 exact bodyPost_ret (v:=.agg #[.int .i64 c.1,.string c.2]) (by simp [results,Tryz.results125,go_sem,k0,k1]) rfl ⟨by rw[HF.out,HC.out],((B0.out.trans (b1.mono Zq6)).setCell Zq11 _).setCell Zq11 _,by simp [World.setCell];omega⟩
theorem yri (d:Nat) (word:ByteArray) (args names held:List ByteArray) (count:Int) (bd:List (Tr d)) (Aa:Option Addr) (m ca:Nat) (Ac:Option Addr) (nc cc E:Nat) (An Ah Ab:Option Addr) (nn cn nh ch nb cb:Nat) (w:World)
  (hx:w.heap[E]?=some (.cells #[.slice An nn cn,.slice Ah nh ch,.bool true,.slice Ab nb cb] 100 (0,0))) (hm:args.length=m) (hra:Rd w 1 Aa m (strs args)) (hca:m≤ca) (hnn:names.length=nn) (hrn:Rd w 1 An nn (strs names)) (hnh:held.length=nh) (hrh:Rd w 1 Ah nh (strs held)) (h1:m≤1048576) (h2:nn≤4) (h3:nh+m+szT d bd≤1048576)
  (hv:vOne d (ya7 d) ⟨6,word,args,count⟩ bd=true) (hbody:ye9 d bd w Ac nc cc) :
  Calls Tryz.prog 125 #[.agg #[.int .i64 6,.string word,.slice Aa m ca,.int .i64 count,.slice Ac nc cc],.pointer (some ⟨E,0,none⟩)] w (ydi (oneN ⟨6,word,args,count⟩ (chkN d bd) names held) w):=by
 obtain ⟨w0,hw0⟩:∃ w0,w0=((w.alloc (.cells #[.int .i64 6,.string word,.slice Aa m ca,.int .i64 count,.slice Ac nc cc] 66)).alloc (.cells #[.int .i64 0,.string ⟨#[]⟩] 96)).alloc (.cells #[.slice An nn cn,.slice Ah nh ch,.bool true,.slice Ab nb cb] 100):=⟨_,rfl⟩
 have X0:=hD (show w0.heap[w.heap.size]?=some (.cells #[.int .i64 6,.string word,.slice Aa m ca,.int .i64 count,.slice Ac nc cc] 66 (0,0)) by rw[hw0];exact ydp _ _ _ _)
 have X1:=hD (show w0.heap[w.heap.size+1]?=some (.cells #[.int .i64 0,.string ⟨#[]⟩] 96 (0,0)) by rw[hw0];exact ycw _ _ _ _)
 have X2:=hD (show w0.heap[w.heap.size+1+1]?=some (.cells #[.slice An nn cn,.slice Ah nh ch,.bool true,.slice Ab nb cb] 100 (0,0)) by rw[hw0];exact ycx _ _ _ _)
 have b0:Below w.heap.size w w0:=by rw[hw0];exact Zq0
 have hz:w.heap.size+1+1<w0.heap.size:=by rw[hw0];simp
 have hz0:w.heap.size<w0.heap.size:=by omega
 have hz1:w.heap.size+1<w0.heap.size:=by omega
 have HW:=hD hw0
 have HA0:=hD hra
 have HA:=hD (hra.below b0)
 have HN0:=hD hrn
 have HH0:=hD hrh
 have HN:=hD (hrn.below b0)
 have HH:=hD (hrh.below b0)
 have XE:=hD ((b0.block E (lt_of_block hx)).trans hx)
 have HM:=hD hm
 have HNN:=hD hnn
 have HNH:=hD hnh
 have B0:=hD b0
 have HV:=hD hv
 have HB:=hD hbody
 have al:∀ (W:World) (ob:Obj),Below W.heap.size W (W.alloc ob):=fun W ob=>(Below.refl _ _).alloc (Nat.le_refl _) _
 have AL:=hD al
 have hEl:=lt_of_block hx
 have hE1:E<w.heap.size+1:=by omega
 have hE2:E<w.heap.size+1+1:=by omega
 obtain ⟨e0,e1,e2,e3⟩:=yb1 (lay:=Below.refl _ _) hx
 clear hra hrn hrh hm hnn hnh hv hbody al
 go_enter Tryz.func125,Tryz.ntmps125
 go_wp2_with fail
 rw[←HW.out]
 clear e0 e1 e2 e3 hx b0 hw0
 have hEl0:=lt_of_block XE.out
 obtain ⟨e0,e1,e2,e3⟩:=yb1 (lay:=Below.refl _ _) XE.out
 obtain ⟨p0,p1,p2,p3,p4⟩:=yas (lay:=Below.refl _ _) X0.out
 obtain ⟨k0,k1⟩:=ycd (lay:=Below.refl _ _) X1.out
 have f0:=ya6 (Below.refl _ _) X1.out 0
 have f1:=ya6 (Below.refl _ _) X1.out 1
 have hm2:1<m:=by have e:args.length=2:=ye6 HV.out;rw[←HM.out];omega
 have HS:Hid (oneN ⟨6,word,args,count⟩ (chkN d bd) names held=(6,arg0 ⟨6,word,args,count⟩)):=yib (p:=(names,held)) rfl (show(6:Int)≠0 by decide)
 have HAR:=hD (yc3 (h:=⟨6,word,args,count⟩) (by show 0<args.length;rw[HM.out];omega))
 obtain ⟨a,hae⟩:∃ a,a=arg0 ⟨6,word,args,count⟩:=⟨_,rfl⟩
 rw[←hae] at HS HAR
 clear hae
 go_wp2_with fail
 refine(yl3 word args a count Aa m ca Ac nc cc E An Ah Ab nn cn nh ch nb cb _ XE.out HA.out HAR.out Zq6 Zq6).mono ?_
 rintro e w1 ⟨rfl,b1,s1⟩
 clear k0 k1 f0 f1
 obtain ⟨k0,k1⟩:=ycd (lay:=b1) X1.out
 have f0:=ya6 b1 X1.out 0
 have f1:=ya6 b1 X1.out 1
 have hl1:w.heap.size+1<w1.heap.size:=by omega
 go_wp2_with fail
 exact bodyPost_ret (v:=.agg #[.int .i64 6,.string a]) (by simp [results,Tryz.results125,go_sem,k0,k1]) rfl ⟨by rw[HS.out],((B0.out.trans (b1.mono Zq6)).setCell Zq11 _).setCell Zq11 _,by simp [World.setCell];omega⟩
theorem yrj (d:Nat) (word:ByteArray) (args names held:List ByteArray) (count:Int) (bd:List (Tr d)) (Aa:Option Addr) (m ca:Nat) (Ac:Option Addr) (nc cc E:Nat) (An Ah Ab:Option Addr) (nn cn nh ch nb cb:Nat) (w:World)
  (hx:w.heap[E]?=some (.cells #[.slice An nn cn,.slice Ah nh ch,.bool true,.slice Ab nb cb] 100 (0,0))) (hm:args.length=m) (hra:Rd w 1 Aa m (strs args)) (hca:m≤ca) (hnn:names.length=nn) (hrn:Rd w 1 An nn (strs names)) (hnh:held.length=nh) (hrh:Rd w 1 Ah nh (strs held)) (h1:m≤1048576) (h2:nn≤4) (h3:nh+m+szT d bd≤1048576)
  (hv:vOne d (ya7 d) ⟨7,word,args,count⟩ bd=true) (hbody:ye9 d bd w Ac nc cc) :
  Calls Tryz.prog 125 #[.agg #[.int .i64 7,.string word,.slice Aa m ca,.int .i64 count,.slice Ac nc cc],.pointer (some ⟨E,0,none⟩)] w (ydi (oneN ⟨7,word,args,count⟩ (chkN d bd) names held) w):=by
 have hm2:0<m:=by have e:args.length=1:=ye6 hv;rw[←hm];omega
 have HS:Hid (oneN ⟨7,word,args,count⟩ (chkN d bd) names held=(6,arg0 ⟨7,word,args,count⟩)):=yib (p:=(names,held)) rfl (show(6:Int)≠0 by decide)
 obtain ⟨b,off,rfl,hbl,hcl⟩:=hra.2 Zq6
 have r0:=hcl 0 _ (ybr (yc3 (h:=⟨7,word,args,count⟩) (by show 0<args.length;rw[hm];omega)))
 rw[Nat.add_zero] at r0
 have hm3:(0:Int)<(m:Int):=by omega
 obtain ⟨a,hae⟩:∃ a,a=arg0 ⟨7,word,args,count⟩:=⟨_,rfl⟩
 rw[←hae] at HS r0
 have hEl:=lt_of_block hx
 have hE1:E<w.heap.size+1:=by omega
 have hE2:E<w.heap.size+1+1:=by omega
 have hb1:b<w.heap.size+1:=by omega
 have hb2:b<w.heap.size+1+1:=by omega
 obtain ⟨e0,e1,e2,e3⟩:=yb1 (lay:=Below.refl _ _) hx
 clear hcl hae hra hrn hrh hm hnn hnh hv hbody hx
 go_enter Tryz.func125,Tryz.ntmps125
 go_wp2_with fail
 exact bodyPost_ret (v:=.agg #[.int .i64 6,.string a]) (by simp [results,Tryz.results125,go_sem]) rfl ⟨by rw[HS.out],Zq0,Zq5⟩
theorem yln (d:Nat) (word:ByteArray) (args names held:List ByteArray) (count:Int) (bd:List (Tr d)) (Aa:Option Addr) (m ca:Nat) (Ac:Option Addr) (nc cc E:Nat) (An Ah Ab:Option Addr) (nn cn nh ch nb cb:Nat) (ins:Bool) (w:World)
  (hx:w.heap[E]?=some (.cells #[.slice An nn cn,.slice Ah nh ch,.bool ins,.slice Ab nb cb] 100 (0,0))) (hm:args.length=m) (hra:Rd w 1 Aa m (strs args)) (hca:m≤ca) (hnn:names.length=nn) (hrn:Rd w 1 An nn (strs names)) (hnh:held.length=nh) (hrh:Rd w 1 Ah nh (strs held)) (h1:m≤1048576) (h2:nn≤4) (h3:nh+m+szT d bd≤1048576)
  (hv:vOne d (ya7 d) ⟨2,word,args,count⟩ bd=true) (hbody:ye9 d bd w Ac nc cc) :
  Calls Tryz.prog 125 #[.agg #[.int .i64 2,.string word,.slice Aa m ca,.int .i64 count,.slice Ac nc cc],.pointer (some ⟨E,0,none⟩)] w (ydi (oneN ⟨2,word,args,count⟩ (chkN d bd) names held) w):=by
 obtain ⟨w0,hw0⟩:∃ w0,w0=((w.alloc (.cells #[.int .i64 2,.string word,.slice Aa m ca,.int .i64 count,.slice Ac nc cc] 66)).alloc (.cells #[.int .i64 0,.string ⟨#[]⟩] 96)).alloc (.cells #[.slice An nn cn,.slice Ah nh ch,.bool true,.slice Ab nb cb] 100):=⟨_,rfl⟩
 have X0:=hD (show w0.heap[w.heap.size]?=some (.cells #[.int .i64 2,.string word,.slice Aa m ca,.int .i64 count,.slice Ac nc cc] 66 (0,0)) by rw[hw0];exact ydp _ _ _ _)
 have X1:=hD (show w0.heap[w.heap.size+1]?=some (.cells #[.int .i64 0,.string ⟨#[]⟩] 96 (0,0)) by rw[hw0];exact ycw _ _ _ _)
 have X2:=hD (show w0.heap[w.heap.size+1+1]?=some (.cells #[.slice An nn cn,.slice Ah nh ch,.bool true,.slice Ab nb cb] 100 (0,0)) by rw[hw0];exact ycx _ _ _ _)
 have b0:Below w.heap.size w w0:=by rw[hw0];exact Zq0
 have hz:w.heap.size+1+1<w0.heap.size:=by rw[hw0];simp
 have hz0:w.heap.size<w0.heap.size:=by omega
 have hz1:w.heap.size+1<w0.heap.size:=by omega
 have HW:=hD hw0
 have HA0:=hD hra
 have HA:=hD (hra.below b0)
 have HN0:=hD hrn
 have HH0:=hD hrh
 have HN:=hD (hrn.below b0)
 have HH:=hD (hrh.below b0)
 have XE:=hD ((b0.block E (lt_of_block hx)).trans hx)
 have HM:=hD hm
 have HNN:=hD hnn
 have HNH:=hD hnh
 have B0:=hD b0
 have HV:=hD hv
 have HB:=hD hbody
 have al:∀ (W:World) (ob:Obj),Below W.heap.size W (W.alloc ob):=fun W ob=>(Below.refl _ _).alloc (Nat.le_refl _) _
 have AL:=hD al
 have hEl:=lt_of_block hx
 have hE1:E<w.heap.size+1:=by omega
 have hE2:E<w.heap.size+1+1:=by omega
 obtain ⟨e0,e1,e2,e3⟩:=yb1 (lay:=Below.refl _ _) hx
 clear hra hrn hrh hm hnn hnh hv hbody al
 go_enter Tryz.func125,Tryz.ntmps125
 go_wp2_with fail
 rw[←HW.out]
 clear e0 e1 e2 e3 hx b0 hw0
 have hEl0:=lt_of_block XE.out
 obtain ⟨e0,e1,e2,e3⟩:=yb1 (lay:=Below.refl _ _) XE.out
 obtain ⟨p0,p1,p2,p3,p4⟩:=yas (lay:=Below.refl _ _) X0.out
 obtain ⟨k0,k1⟩:=ycd (lay:=Below.refl _ _) X1.out
 have f0:=ya6 (Below.refl _ _) X1.out 0
 have f1:=ya6 (Below.refl _ _) X1.out 1
 have HS:Hid (oneN ⟨2,word,args,count⟩ (chkN d bd) names held=chkN d bd names held):=yj9 (p:=(names,held)) rfl
 go_wp2_with fail
 refine(HB.out (w.heap.size+1+1) An nn cn Ah nh ch Ab nb cb names held w0 B0.out X2.out HN.out HH.out HNN.out HNH.out h2 Zq6).mono ?_
 rintro e w1 ⟨rfl,b1,s1⟩
 clear k0 k1 f0 f1
 obtain ⟨k0,k1⟩:=ycd (lay:=b1) X1.out
 have f0:=ya6 b1 X1.out 0
 have f1:=ya6 b1 X1.out 1
 have hl1:w.heap.size+1<w1.heap.size:=by omega
 obtain ⟨c,hc⟩:∃ c,c=chkN d bd names held:=⟨_,rfl⟩
 rw[←hc] at HS ⊢
 clear hc
 go_wp2_with fail
 exact bodyPost_ret (v:=.agg #[.int .i64 c.1,.string c.2]) (by simp [results,Tryz.results125,go_sem,k0,k1]) rfl ⟨by rw[HS.out],((B0.out.trans (b1.mono Zq6)).setCell Zq11 _).setCell Zq11 _,by simp [World.setCell];omega⟩
theorem ylo (d:Nat) (word:ByteArray) (args names held:List ByteArray) (count:Int) (bd:List (Tr d)) (Aa:Option Addr) (m ca:Nat) (Ac:Option Addr) (nc cc E:Nat) (An Ah Ab:Option Addr) (nn cn nh ch nb cb:Nat) (ins:Bool) (w:World)
  (hx:w.heap[E]?=some (.cells #[.slice An nn cn,.slice Ah nh ch,.bool ins,.slice Ab nb cb] 100 (0,0))) (hm:args.length=m) (hra:Rd w 1 Aa m (strs args)) (hca:m≤ca) (hnn:names.length=nn) (hrn:Rd w 1 An nn (strs names)) (hnh:held.length=nh) (hrh:Rd w 1 Ah nh (strs held)) (h1:m≤1048576) (h2:nn≤4) (h3:nh+m+szT d bd≤1048576)
  (hv:vOne d (ya7 d) ⟨3,word,args,count⟩ bd=true) (hbody:ye9 d bd w Ac nc cc) :
  Calls Tryz.prog 125 #[.agg #[.int .i64 3,.string word,.slice Aa m ca,.int .i64 count,.slice Ac nc cc],.pointer (some ⟨E,0,none⟩)] w (ydi (oneN ⟨3,word,args,count⟩ (chkN d bd) names held) w):=by
 obtain ⟨w0,hw0⟩:∃ w0,w0=((w.alloc (.cells #[.int .i64 3,.string word,.slice Aa m ca,.int .i64 count,.slice Ac nc cc] 66)).alloc (.cells #[.int .i64 0,.string ⟨#[]⟩] 96)).alloc (.cells #[.slice An nn cn,.slice Ah nh ch,.bool true,.slice Ab nb cb] 100):=⟨_,rfl⟩
 have X0:=hD (show w0.heap[w.heap.size]?=some (.cells #[.int .i64 3,.string word,.slice Aa m ca,.int .i64 count,.slice Ac nc cc] 66 (0,0)) by rw[hw0];exact ydp _ _ _ _)
 have X1:=hD (show w0.heap[w.heap.size+1]?=some (.cells #[.int .i64 0,.string ⟨#[]⟩] 96 (0,0)) by rw[hw0];exact ycw _ _ _ _)
 have X2:=hD (show w0.heap[w.heap.size+1+1]?=some (.cells #[.slice An nn cn,.slice Ah nh ch,.bool true,.slice Ab nb cb] 100 (0,0)) by rw[hw0];exact ycx _ _ _ _)
 have b0:Below w.heap.size w w0:=by rw[hw0];exact Zq0
 have hz:w.heap.size+1+1<w0.heap.size:=by rw[hw0];simp
 have hz0:w.heap.size<w0.heap.size:=by omega
 have hz1:w.heap.size+1<w0.heap.size:=by omega
 have HW:=hD hw0
 have HA0:=hD hra
 have HA:=hD (hra.below b0)
 have HN0:=hD hrn
 have HH0:=hD hrh
 have HN:=hD (hrn.below b0)
 have HH:=hD (hrh.below b0)
 have XE:=hD ((b0.block E (lt_of_block hx)).trans hx)
 have HM:=hD hm
 have HNN:=hD hnn
 have HNH:=hD hnh
 have B0:=hD b0
 have HV:=hD hv
 have HB:=hD hbody
 have al:∀ (W:World) (ob:Obj),Below W.heap.size W (W.alloc ob):=fun W ob=>(Below.refl _ _).alloc (Nat.le_refl _) _
 have AL:=hD al
 have hEl:=lt_of_block hx
 have hE1:E<w.heap.size+1:=by omega
 have hE2:E<w.heap.size+1+1:=by omega
 obtain ⟨e0,e1,e2,e3⟩:=yb1 (lay:=Below.refl _ _) hx
 clear hra hrn hrh hm hnn hnh hv hbody al
 go_enter Tryz.func125,Tryz.ntmps125
 go_wp2_with fail
 rw[←HW.out]
 clear e0 e1 e2 e3 hx b0 hw0
 have hEl0:=lt_of_block XE.out
 obtain ⟨e0,e1,e2,e3⟩:=yb1 (lay:=Below.refl _ _) XE.out
 obtain ⟨p0,p1,p2,p3,p4⟩:=yas (lay:=Below.refl _ _) X0.out
 obtain ⟨k0,k1⟩:=ycd (lay:=Below.refl _ _) X1.out
 have f0:=ya6 (Below.refl _ _) X1.out 0
 have f1:=ya6 (Below.refl _ _) X1.out 1
 have HS:Hid (oneN ⟨3,word,args,count⟩ (chkN d bd) names held=chkN d bd names held):=yj9 (p:=(names,held)) rfl
 go_wp2_with fail
 refine(HB.out (w.heap.size+1+1) An nn cn Ah nh ch Ab nb cb names held w0 B0.out X2.out HN.out HH.out HNN.out HNH.out h2 Zq6).mono ?_
 rintro e w1 ⟨rfl,b1,s1⟩
 clear k0 k1 f0 f1
 obtain ⟨k0,k1⟩:=ycd (lay:=b1) X1.out
 have f0:=ya6 b1 X1.out 0
 have f1:=ya6 b1 X1.out 1
 have hl1:w.heap.size+1<w1.heap.size:=by omega
 obtain ⟨c,hc⟩:∃ c,c=chkN d bd names held:=⟨_,rfl⟩
 rw[←hc] at HS ⊢
 clear hc
 go_wp2_with fail
 exact bodyPost_ret (v:=.agg #[.int .i64 c.1,.string c.2]) (by simp [results,Tryz.results125,go_sem,k0,k1]) rfl ⟨by rw[HS.out],((B0.out.trans (b1.mono Zq6)).setCell Zq11 _).setCell Zq11 _,by simp [World.setCell];omega⟩
theorem ylp (d:Nat) (word:ByteArray) (args names held:List ByteArray) (count:Int) (bd:List (Tr d)) (Aa:Option Addr) (m ca:Nat) (Ac:Option Addr) (nc cc E:Nat) (An Ah Ab:Option Addr) (nn cn nh ch nb cb:Nat) (ins:Bool) (w:World)
  (hx:w.heap[E]?=some (.cells #[.slice An nn cn,.slice Ah nh ch,.bool ins,.slice Ab nb cb] 100 (0,0))) (hm:args.length=m) (hra:Rd w 1 Aa m (strs args)) (hca:m≤ca) (hnn:names.length=nn) (hrn:Rd w 1 An nn (strs names)) (hnh:held.length=nh) (hrh:Rd w 1 Ah nh (strs held)) (h1:m≤1048576) (h2:nn≤4) (h3:nh+m+szT d bd≤1048576)
  (hv:vOne d (ya7 d) ⟨5,word,args,count⟩ bd=true) (hbody:ye9 d bd w Ac nc cc) :
  Calls Tryz.prog 125 #[.agg #[.int .i64 5,.string word,.slice Aa m ca,.int .i64 count,.slice Ac nc cc],.pointer (some ⟨E,0,none⟩)] w (ydi (oneN ⟨5,word,args,count⟩ (chkN d bd) names held) w):=by
 obtain ⟨w0,hw0⟩:∃ w0,w0=((w.alloc (.cells #[.int .i64 5,.string word,.slice Aa m ca,.int .i64 count,.slice Ac nc cc] 66)).alloc (.cells #[.int .i64 0,.string ⟨#[]⟩] 96)).alloc (.cells #[.slice An nn cn,.slice Ah nh ch,.bool true,.slice Ab nb cb] 100):=⟨_,rfl⟩
 have X0:=hD (show w0.heap[w.heap.size]?=some (.cells #[.int .i64 5,.string word,.slice Aa m ca,.int .i64 count,.slice Ac nc cc] 66 (0,0)) by rw[hw0];exact ydp _ _ _ _)
 have X1:=hD (show w0.heap[w.heap.size+1]?=some (.cells #[.int .i64 0,.string ⟨#[]⟩] 96 (0,0)) by rw[hw0];exact ycw _ _ _ _)
 have X2:=hD (show w0.heap[w.heap.size+1+1]?=some (.cells #[.slice An nn cn,.slice Ah nh ch,.bool true,.slice Ab nb cb] 100 (0,0)) by rw[hw0];exact ycx _ _ _ _)
 have b0:Below w.heap.size w w0:=by rw[hw0];exact Zq0
 have hz:w.heap.size+1+1<w0.heap.size:=by rw[hw0];simp
 have hz0:w.heap.size<w0.heap.size:=by omega
 have hz1:w.heap.size+1<w0.heap.size:=by omega
 have HW:=hD hw0
 have HA0:=hD hra
 have HA:=hD (hra.below b0)
 have HN0:=hD hrn
 have HH0:=hD hrh
 have HN:=hD (hrn.below b0)
 have HH:=hD (hrh.below b0)
 have XE:=hD ((b0.block E (lt_of_block hx)).trans hx)
 have HM:=hD hm
 have HNN:=hD hnn
 have HNH:=hD hnh
 have B0:=hD b0
 have HV:=hD hv
 have HB:=hD hbody
 have al:∀ (W:World) (ob:Obj),Below W.heap.size W (W.alloc ob):=fun W ob=>(Below.refl _ _).alloc (Nat.le_refl _) _
 have AL:=hD al
 have hEl:=lt_of_block hx
 have hE1:E<w.heap.size+1:=by omega
 have hE2:E<w.heap.size+1+1:=by omega
 obtain ⟨e0,e1,e2,e3⟩:=yb1 (lay:=Below.refl _ _) hx
 clear hra hrn hrh hm hnn hnh hv hbody al
 go_enter Tryz.func125,Tryz.ntmps125
 go_wp2_with fail
 rw[←HW.out]
 clear e0 e1 e2 e3 hx b0 hw0
 have hEl0:=lt_of_block XE.out
 obtain ⟨e0,e1,e2,e3⟩:=yb1 (lay:=Below.refl _ _) XE.out
 obtain ⟨p0,p1,p2,p3,p4⟩:=yas (lay:=Below.refl _ _) X0.out
 obtain ⟨k0,k1⟩:=ycd (lay:=Below.refl _ _) X1.out
 have f0:=ya6 (Below.refl _ _) X1.out 0
 have f1:=ya6 (Below.refl _ _) X1.out 1
 have hm2:0<m:=by have e:args.length=1:=ye6 HV.out;rw[←HM.out];omega
 obtain ⟨b,off,rfl,hbw,hcl⟩:=HA0.out.2 Zq6
 have hbl:b<w0.heap.size:=by omega
 have r0:=hcl 0 _ (ybr (yc3 (h:=⟨5,word,args,count⟩) (by show 0<args.length;rw[HM.out];omega)))
 rw[Nat.add_zero,←B0.out.cell (p:=⟨b,off,none⟩) hbw] at r0
 have hm3:(0:Int)<(m:Int):=by omega
 obtain ⟨a,hae⟩:∃ a,a=arg0 ⟨5,word,args,count⟩:=⟨_,rfl⟩
 have HAE:=hD hae
 rw[←hae] at r0
 clear hcl hae
 have KS:Hid (∀ W:World,Below (w.heap.size+1) w0 W→(W.cell? ⟨E,0,none⟩=some (.slice An nn cn)∧W.cell? ⟨E,1,none⟩=some (.slice Ah nh ch)∧W.cell? ⟨E,2,none⟩=some (.bool ins)∧W.cell? ⟨E,3,none⟩=some (.slice Ab nb cb)∧W.cell? ⟨w.heap.size,2,none⟩=some (.slice (some ⟨b,off,none⟩) m ca)∧W.cell? ⟨b,off,none⟩=some (.string a))):=fun W hW =>
  ⟨(hW.cell (p:=⟨E,0,none⟩) (by show E<_;omega)).trans e0,(hW.cell (p:=⟨E,1,none⟩) (by show E<_;omega)).trans e1,(hW.cell (p:=⟨E,2,none⟩) (by show E<_;omega)).trans e2,(hW.cell (p:=⟨E,3,none⟩) (by show E<_;omega)).trans e3,(hW.cell (p:=⟨w.heap.size,2,none⟩) (by show w.heap.size<_;omega)).trans p2,(hW.cell (p:=⟨b,off,none⟩) (by show b<_;omega)).trans r0⟩
 cases hh:hasS names a
 ·by_cases h4:nn=4
  ·have HS:Hid (oneN ⟨5,word,args,count⟩ (chkN d bd) names held=(5,a)):=by
    refine yib (p:=(names,held)) ?_ (show(5:Int)≠0 by decide)
    show(if hasS names (arg0 _)=true then _ else _)=_
    rw[←HAE.out,hh,if_neg Zq9,if_pos (by rw[HNN.out];exact h4)]
   have d4:((nn:Int)==4)=true:=by simp;omega
   have H4:=hD h4
   clear h4
   go_wp2_with fail
   go_quiet ((go_at_call 77;exact Calls.quiet_of_same ((ybx An nn cn names a _ (HN.out.drewN _) HNN.out Zq6).mono fun e W h=>(⟨h.1.trans (by rw[hh]),h.2.symm⟩:e=.returned (.bool false)∧W=_))))
   go_wp2_with fail
   exact bodyPost_ret (v:=.agg #[.int .i64 5,.string a]) (by simp [results,Tryz.results125,go_sem,k0,k1]) rfl ⟨by rw[HS.out],((B0.out.trans ((yaq (Below.refl w0.heap.size w0) _).mono Zq6)).setCell Zq11 _).setCell Zq11 _,by simp [World.setCell];omega⟩
  ·have HS:Hid (oneN ⟨5,word,args,count⟩ (chkN d bd) names held=chkN d bd (names++[a]) held):=by
    have hs:yb8 ⟨5,word,args,count⟩ names held=(bad0,(names++[a],held)):=by
     show(if hasS names (arg0 _)=true then _ else _)=_
     rw[←HAE.out,hh,if_neg Zq9,if_neg (by rw[HNN.out];exact h4)]
    exact yj9 hs
   have d4:((nn:Int)==4)=false:=by rw[beq_eq_false_iff_ne];omega
   have hn3:nn≤3:=by omega
   have H4:=hD h4
   clear h4
   go_wp2_with fail
   go_quiet ((go_at_call 77;exact Calls.quiet_of_same ((ybx An nn cn names a _ (HN.out.drewN _) HNN.out Zq6).mono fun e W h=>(⟨h.1.trans (by rw[hh]),h.2.symm⟩:e=.returned (.bool false)∧W=_))))
   go_wp2_with fail
   clear e0 e1 e2 e3 p0 p1 p2 p3 p4 k0 k1 f0 f1 r0
   go_region_held3 (fun W=>W.cell? ⟨E,0,none⟩=some (.slice An nn cn)∧W.cell? ⟨E,1,none⟩=some (.slice Ah nh ch)∧W.cell? ⟨E,2,none⟩=some (.bool ins)∧W.cell? ⟨E,3,none⟩=some (.slice Ab nb cb)∧W.cell? ⟨w.heap.size,2,none⟩=some (.slice (some ⟨b,off,none⟩) m ca)∧W.cell? ⟨b,off,none⟩=some (.string a)) ((refine KS.out _ ?_;first|exact Below.mono (yaq (Below.refl w0.heap.size w0) _) Zq6|exact(Below.mono (yaq (Below.refl w0.heap.size w0) _) Zq6).drew|exact Below.mono b2 Zq6|exact(Below.mono b2 Zq6).setCell Zq11 _)) (first|(go_at_call 145;(with_reducible refine(yf0 An nn cn names a _ (HN.out.drewN _) HNN.out Zq6).mono ?_);rintro e w2 ⟨v2,rfl,o2,b2d,s2d⟩;obtain ⟨A2,c2,rfl,_,_,_⟩:=yah o2;have b2:Below w0.heap.size w0 w2:=Below.trans (yaq (Below.refl w0.heap.size w0) _) (b2d.mono (Nat.le_refl _));have hx2:=(b2.block (w.heap.size+1+1) hz).trans X2.out;have y0:=yaj (j:=0) (u:=.slice An nn cn) hx2 rfl;have y1:w2.frozen? ⟨w.heap.size+1+1,0,none⟩=false:=ya6 b2 X2.out 0;have hl2:w.heap.size+1+1<w2.heap.size:=lt_of_block hx2))
   obtain ⟨w3,hw3⟩:∃ w3,w3=w2.setCell ⟨w.heap.size+1+1,0,none⟩ (.slice A2 (nn+1) c2):=⟨_,rfl⟩
   have hx3:w3.heap[w.heap.size+1+1]?=some (.cells #[.slice A2 (nn+1) c2,.slice Ah nh ch,.bool true,.slice Ab nb cb] 100 (0,0)):=by rw[hw3];exact yb6 hx2 _
   have hr3:w3.heap[w.heap.size+1]?=some (.cells #[.int .i64 0,.string ⟨#[]⟩] 96 (0,0)):=by rw[hw3];exact yc9 ((b2.block (w.heap.size+1) hz1).trans X1.out) (by show _≠w.heap.size+1+1;omega) _
   have hs3:w3.heap[w.heap.size]?=some (.cells #[.int .i64 5,.string word,.slice (some ⟨b,off,none⟩) m ca,.int .i64 count,.slice Ac nc cc] 66 (0,0)):=by rw[hw3];exact yc9 ((b2.block w.heap.size hz0).trans X0.out) (by show _≠w.heap.size+1+1;omega) _
   have b3:Below w.heap.size w w3:=by rw[hw3];exact(B0.out.trans (b2.mono Zq6)).setCell (by show w.heap.size≤w.heap.size+1+1;omega) _
   have o3:w3.ownsRow w0.heap.size 9 1 (.slice A2 (nn+1) c2) (nn+1) (strs (names++[a])):=by rw[hw3];exact ownsRow_setCell_below (yod o2 (B':=w0.heap.size) (Nat.le_refl _)) (by show w.heap.size+1+1<_;exact hz) _
   have R3:=hD (ybv o3)
   have HX3:=hD hx3
   have HR3:=hD hr3
   have HB3:=hD b3
   have W3:=hD hw3
   have p4:=yaj (j:=4) (u:=.slice Ac nc cc) hs3 rfl
   have hl3:=lt_of_block hs3
   clear hx3 hr3 hs3 b3 o3 hw3 o2 b2 b2d s2d hx2 y0 y1 hl2
   rw[←W3.out]
   go_wp2_with fail
   refine(HB.out (w.heap.size+1+1) A2 (nn+1) c2 Ah nh ch Ab nb cb (names++[a]) held w3 HB3.out HX3.out R3.out (HH0.out.below HB3.out) (by rw[List.length_append,HNN.out];rfl) HNH.out Zq6 Zq6).mono ?_
   rintro e w4 ⟨rfl,b4,s4⟩
   obtain ⟨k0,k1⟩:=ycd (lay:=b4) HR3.out
   have f0:=ya6 b4 HR3.out 0
   have f1:=ya6 b4 HR3.out 1
   have hl4:w.heap.size+1<w4.heap.size:=by have:=lt_of_block HR3.out;omega
   obtain ⟨c,hc⟩:∃ c,c=chkN d bd (names++[a]) held:=⟨_,rfl⟩
   rw[←hc] at HS ⊢
   clear hc
   go_wp2_with fail
   exact bodyPost_ret (v:=.agg #[.int .i64 c.1,.string c.2]) (by simp [results,Tryz.results125,go_sem,k0,k1]) rfl ⟨by rw[HS.out],((HB3.out.trans (b4.mono (by have:=HB3.out.size;omega))).setCell Zq11 _).setCell Zq11 _,by have:=HB3.out.size;simp [World.setCell];omega⟩
 ·have HS:Hid (oneN ⟨5,word,args,count⟩ (chkN d bd) names held=(1,a)):=by
   refine yib (p:=(names,held)) ?_ (show(1:Int)≠0 by decide)
   show(if hasS names (arg0 _)=true then _ else _)=_
   rw[←HAE.out,hh,if_pos rfl]
  go_wp2_with fail
  go_quiet ((go_at_call 77;exact Calls.quiet_of_same ((ybx An nn cn names a _ (HN.out.drewN _) HNN.out Zq6).mono fun e W h=>(⟨h.1.trans (by rw[hh]),h.2.symm⟩:e=.returned (.bool true)∧W=_))))
  go_wp2_with fail
  exact bodyPost_ret (v:=.agg #[.int .i64 1,.string a]) (by simp [results,Tryz.results125,go_sem,k0,k1]) rfl ⟨by rw[HS.out],((B0.out.trans ((yaq (Below.refl w0.heap.size w0) _).mono Zq6)).setCell Zq11 _).setCell Zq11 _,by simp [World.setCell];omega⟩
theorem ylq (d:Nat) (word:ByteArray) (args names held:List ByteArray) (count:Int) (bd:List (Tr d)) (Aa:Option Addr) (m ca:Nat) (Ac:Option Addr) (nc cc E:Nat) (An Ah Ab:Option Addr) (nn cn nh ch nb cb:Nat) (ins:Bool) (w:World)
    (hx:w.heap[E]?=some (.cells #[.slice An nn cn,.slice Ah nh ch,.bool ins,.slice Ab nb cb] 100 (0,0))) (hm:args.length=m) (hra:Rd w 1 Aa m (strs args)) (hca:m≤ca) (hnn:names.length=nn) (hrn:Rd w 1 An nn (strs names)) (hnh:held.length=nh) (hrh:Rd w 1 Ah nh (strs held)) (h1:m≤1048576) (h2:nn≤4) (h3:nh+m+szT d bd≤1048576)
    (hv:vOne d (ya7 d) ⟨4,word,args,count⟩ bd=true) (hbody:ye9 d bd w Ac nc cc) :
    Calls Tryz.prog 125 #[.agg #[.int .i64 4,.string word,.slice Aa m ca,.int .i64 count,.slice Ac nc cc],.pointer (some ⟨E,0,none⟩)] w (ydi (oneN ⟨4,word,args,count⟩ (chkN d bd) names held) w):=by
  obtain ⟨w0,hw0⟩:∃ w0,w0=((w.alloc (.cells #[.int .i64 4,.string word,.slice Aa m ca,.int .i64 count,.slice Ac nc cc] 66)).alloc (.cells #[.int .i64 0,.string ⟨#[]⟩] 96)).alloc (.cells #[.slice An nn cn,.slice Ah nh ch,.bool true,.slice Ab nb cb] 100):=⟨_,rfl⟩
  have X0:=hD (show w0.heap[w.heap.size]?=some (.cells #[.int .i64 4,.string word,.slice Aa m ca,.int .i64 count,.slice Ac nc cc] 66 (0,0)) by rw[hw0];exact ydp _ _ _ _)
  have X1:=hD (show w0.heap[w.heap.size+1]?=some (.cells #[.int .i64 0,.string ⟨#[]⟩] 96 (0,0)) by rw[hw0];exact ycw _ _ _ _)
  have X2:=hD (show w0.heap[w.heap.size+1+1]?=some (.cells #[.slice An nn cn,.slice Ah nh ch,.bool true,.slice Ab nb cb] 100 (0,0)) by rw[hw0];exact ycx _ _ _ _)
  have b0:Below w.heap.size w w0:=by rw[hw0];exact Zq0
  have hz:w.heap.size+1+1<w0.heap.size:=by rw[hw0];simp
  have hz0:w.heap.size<w0.heap.size:=by omega
  have hz1:w.heap.size+1<w0.heap.size:=by omega
  have HW:=hD hw0
  have HA0:=hD hra
  have HA:=hD (hra.below b0)
  have HN0:=hD hrn
  have HH0:=hD hrh
  have HN:=hD (hrn.below b0)
  have HH:=hD (hrh.below b0)
  have XE:=hD ((b0.block E (lt_of_block hx)).trans hx)
  have HM:=hD hm
  have HNN:=hD hnn
  have HNH:=hD hnh
  have B0:=hD b0
  have HV:=hD hv
  have HB:=hD hbody
  have al:∀ (W:World) (ob:Obj),Below W.heap.size W (W.alloc ob):=fun W ob=>(Below.refl _ _).alloc (Nat.le_refl _) _
  have AL:=hD al
  have hEl:=lt_of_block hx
  have hE1:E<w.heap.size+1:=by omega
  have hE2:E<w.heap.size+1+1:=by omega
  obtain ⟨e0,e1,e2,e3⟩:=yb1 (lay:=Below.refl _ _) hx
  clear hra hrn hrh hm hnn hnh hv hbody al
  go_enter Tryz.func125,Tryz.ntmps125
  go_wp2_with fail
  rw[←HW.out]
  clear e0 e1 e2 e3 hx b0 hw0
  have hEl0:=lt_of_block XE.out
  obtain ⟨e0,e1,e2,e3⟩:=yb1 (lay:=Below.refl _ _) XE.out
  obtain ⟨p0,p1,p2,p3,p4⟩:=yas (lay:=Below.refl _ _) X0.out
  obtain ⟨k0,k1⟩:=ycd (lay:=Below.refl _ _) X1.out
  have f0:=ya6 (Below.refl _ _) X1.out 0
  have f1:=ya6 (Below.refl _ _) X1.out 1
  have hm2:0<m:=by have e:args.length=1:=ye6 HV.out;rw[←HM.out];omega
  obtain ⟨b,off,rfl,hbw,hcl⟩:=HA0.out.2 Zq6
  have hbl:b<w0.heap.size:=by omega
  have r0:=hcl 0 _ (ybr (yc3 (h:=⟨4,word,args,count⟩) (by show 0<args.length;rw[HM.out];omega)))
  rw[Nat.add_zero,←B0.out.cell (p:=⟨b,off,none⟩) hbw] at r0
  have hm3:(0:Int)<(m:Int):=by omega
  obtain ⟨a,hae⟩:∃ a,a=arg0 ⟨4,word,args,count⟩:=⟨_,rfl⟩
  have HAE:=hD hae
  rw[←hae] at r0
  clear hcl hae
  have KS:Hid (∀ W:World,Below (w.heap.size+1) w0 W→(W.cell? ⟨E,0,none⟩=some (.slice An nn cn)∧W.cell? ⟨E,1,none⟩=some (.slice Ah nh ch)∧W.cell? ⟨E,2,none⟩=some (.bool ins)∧W.cell? ⟨E,3,none⟩=some (.slice Ab nb cb)∧W.cell? ⟨w.heap.size,2,none⟩=some (.slice (some ⟨b,off,none⟩) m ca)∧W.cell? ⟨b,off,none⟩=some (.string a))):=fun W hW =>
    ⟨(hW.cell (p:=⟨E,0,none⟩) (by show E<_;omega)).trans e0,(hW.cell (p:=⟨E,1,none⟩) (by show E<_;omega)).trans e1,(hW.cell (p:=⟨E,2,none⟩) (by show E<_;omega)).trans e2,(hW.cell (p:=⟨E,3,none⟩) (by show E<_;omega)).trans e3,(hW.cell (p:=⟨w.heap.size,2,none⟩) (by show w.heap.size<_;omega)).trans p2,(hW.cell (p:=⟨b,off,none⟩) (by show b<_;omega)).trans r0⟩
  obtain ⟨c,hcd⟩:∃ c,c=ycn names held a:=⟨_,rfl⟩
  have HC:=hD hcd
  clear hcd
  go_region_held3 (fun W=>W.cell? ⟨E,0,none⟩=some (.slice An nn cn)∧W.cell? ⟨E,1,none⟩=some (.slice Ah nh ch)∧W.cell? ⟨E,2,none⟩=some (.bool ins)∧W.cell? ⟨E,3,none⟩=some (.slice Ab nb cb)∧W.cell? ⟨w.heap.size,2,none⟩=some (.slice (some ⟨b,off,none⟩) m ca)∧W.cell? ⟨b,off,none⟩=some (.string a)) ((refine KS.out _ ?_;first|exact Below.refl _ _|exact(Below.refl _ _).drew|exact Below.mono b1 Zq6|exact((Below.refl w0.heap.size w0).drew.alloc (Nat.le_refl _) _).mono Zq6|exact(b1.alloc b1.size _).mono Zq6|exact((b1.mono Zq6).setCell Zq10 _).setCell Zq10 _)) (first|(go_at_call 156;(with_reducible refine(yhh a names held An Ah Ab nn cn nh ch nb cb ins _ HNN.out (by first|exact HN.out.drew|exact HN.out.drew.below (AL.out _ _)) HNH.out (by first|exact HH.out.drew|exact HH.out.drew.below (AL.out _ _)) Zq6 Zq6).mono ?_);rintro e w1 ⟨rfl,b1d,s1d⟩;rw[←HC.out];first|(have b1:Below w0.heap.size w0 w1:=ydz b1d)|(have b1:Below w0.heap.size w0 w1:=((Below.refl _ _).drew.alloc (Nat.le_refl _) _).trans (b1d.mono Zq11);obtain ⟨y0,y1⟩:w1.cell? ⟨w0.heap.size,0,none⟩=some (.int .i64 0)∧w1.cell? ⟨w0.heap.size,1,none⟩=some (.string ⟨#[]⟩):=ycd (lay:=b1d) (heap_alloc_new w0.drew (.cells #[.int .i64 0,.string ⟨#[]⟩] 96));have y2:w1.frozen? ⟨w0.heap.size,0,none⟩=false:=ya6 b1d (heap_alloc_new w0.drew (.cells #[.int .i64 0,.string ⟨#[]⟩] 96)) 0;have y3:w1.frozen? ⟨w0.heap.size,1,none⟩=false:=ya6 b1d (heap_alloc_new w0.drew (.cells #[.int .i64 0,.string ⟨#[]⟩] 96)) 1;have y6:w1.heap[w0.heap.size]?=some (.cells #[.int .i64 0,.string ⟨#[]⟩] 96 (0,0)):=(b1d.block _ Zq11).trans (heap_alloc_new w0.drew _);have y4:w0.heap.size<w1.heap.size:=lt_of_block y6)))
  all_goals
    have hs1:=b1.size
    first
    | (have y5:=y4
       obtain ⟨G,hGe⟩:∃ G,G=w0.heap.size:=⟨_,rfl⟩
       have hg0:w0.heap.size≤G:=by omega
       obtain ⟨wy,hwy⟩:∃ wy,wy=(w1.setCell ⟨w0.heap.size,0,none⟩ (.int .i64 c.1)).setCell ⟨w0.heap.size,1,none⟩ (.string c.2):=⟨_,rfl⟩
       have hxy:wy.heap[G]?=some (.cells #[.int .i64 c.1,.string c.2] 96 (0,0)):=by rw[hwy,hGe];exact yb6 (yb6 y6 _) _
       have by2:Below w0.heap.size w0 wy:=by rw[hwy];exact(b1.setCell (Nat.le_refl _) _).setCell (Nat.le_refl _) _
       rw[←hwy,←hGe]
       clear hwy hGe y0 y1 y2 y3 y4 y5 y6)
    | (obtain ⟨G,hGe⟩:∃ G,G=w1.heap.size:=⟨_,rfl⟩
       have hg0:w0.heap.size≤G:=by omega
       obtain ⟨wy,hwy⟩:∃ wy,wy=w1.alloc (.cells #[.int .i64 c.1,.string c.2] 96):=⟨_,rfl⟩
       have hxy:wy.heap[G]?=some (.cells #[.int .i64 c.1,.string c.2] 96 (0,0)):=by rw[hwy,hGe];exact heap_alloc_new _ _
       have by2:Below w0.heap.size w0 wy:=by rw[hwy];exact b1.alloc hs1 _
       rw[←hwy,←hGe]
       clear hwy hGe)
    clear b1 hs1 b1d s1d
    have hsy:=by2.size
    have hgl:=lt_of_block hxy
    obtain ⟨z0,z1⟩:=ycd (lay:=Below.refl _ _) hxy
    by_cases hc0:c.1=0
    · obtain ⟨ec,g1,g2⟩:=yi7 (HC.out▸hc0)
      have hcz:c=bad0:=by rw[HC.out];exact ec
      subst hcz
      have HS:Hid (oneN ⟨4,word,args,count⟩ (chkN d bd) names held=chkN d bd names (held++[a])):=by
        have hs:yb8 ⟨4,word,args,count⟩ names held=(bad0,(names,held++[a])):=by
          show(ycn names held (arg0 _),(names,held++[arg0 _]))=_
          rw[←HAE.out,ec]
        exact yj9 hs
      have z0':wy.cell? ⟨G,0,none⟩=some (.int .i64 0):=z0
      have z1':wy.cell? ⟨G,1,none⟩=some (.string ⟨#[]⟩):=z1
      clear z0 z1 hxy ec hc0
      go_wp2_with fail
      clear z0' z1'
      clear e0 e1 e2 e3 p0 p1 p2 p3 p4 k0 k1 f0 f1 r0
      go_region_held3 (fun W=>W.cell? ⟨E,0,none⟩=some (.slice An nn cn)∧W.cell? ⟨E,1,none⟩=some (.slice Ah nh ch)∧W.cell? ⟨E,2,none⟩=some (.bool ins)∧W.cell? ⟨E,3,none⟩=some (.slice Ab nb cb)∧W.cell? ⟨w.heap.size,2,none⟩=some (.slice (some ⟨b,off,none⟩) m ca)∧W.cell? ⟨b,off,none⟩=some (.string a)) ((refine KS.out _ ?_;first|exact Below.mono by2 Zq6|exact(Below.mono by2 Zq6).drew|exact Below.mono b2 Zq6|exact(Below.mono b2 Zq6).setCell Zq11 _)) (first|(go_at_call 145;(with_reducible refine(yf0 Ah nh ch held a _ ((HH.out.below by2).drew) HNH.out Zq6).mono ?_);rintro e w2 ⟨v2,rfl,o2,b2d,s2d⟩;obtain ⟨A2,c2,rfl,_,_,_⟩:=yah o2;have b2:Below w0.heap.size w0 w2:=Below.trans by2 ((ydz b2d).mono (Below.size by2));have hx2:=(b2.block (w.heap.size+1+1) hz).trans X2.out;have y0:=yaj (j:=1) (u:=.slice Ah nh ch) hx2 rfl;have y1:w2.frozen? ⟨w.heap.size+1+1,1,none⟩=false:=ya6 b2 X2.out 1;have hl2:w.heap.size+1+1<w2.heap.size:=lt_of_block hx2))
      obtain ⟨w3,hw3⟩:∃ w3,w3=w2.setCell ⟨w.heap.size+1+1,1,none⟩ (.slice A2 (nh+1) c2):=⟨_,rfl⟩
      have hx3:w3.heap[w.heap.size+1+1]?=some (.cells #[.slice An nn cn,.slice A2 (nh+1) c2,.bool true,.slice Ab nb cb] 100 (0,0)):=by rw[hw3];exact yb6 hx2 _
      have hr3:w3.heap[w.heap.size+1]?=some (.cells #[.int .i64 0,.string ⟨#[]⟩] 96 (0,0)):=by rw[hw3];exact yc9 ((b2.block (w.heap.size+1) hz1).trans X1.out) (by show _≠w.heap.size+1+1;omega) _
      have hs3:w3.heap[w.heap.size]?=some (.cells #[.int .i64 4,.string word,.slice (some ⟨b,off,none⟩) m ca,.int .i64 count,.slice Ac nc cc] 66 (0,0)):=by rw[hw3];exact yc9 ((b2.block w.heap.size hz0).trans X0.out) (by show _≠w.heap.size+1+1;omega) _
      have b3:Below w.heap.size w w3:=by rw[hw3];exact(B0.out.trans (b2.mono Zq6)).setCell (by show w.heap.size≤w.heap.size+1+1;omega) _
      have o3:w3.ownsRow w0.heap.size 9 1 (.slice A2 (nh+1) c2) (nh+1) (strs (held++[a])):=by rw[hw3];exact ownsRow_setCell_below (yod o2 (B':=w0.heap.size) hsy) (by show w.heap.size+1+1<_;exact hz) _
      have R3:=hD (ybv o3)
      have HX3:=hD hx3
      have HR3:=hD hr3
      have HB3:=hD b3
      have W3:=hD hw3
      have p4:=yaj (j:=4) (u:=.slice Ac nc cc) hs3 rfl
      have hl3:=lt_of_block hs3
      clear hx3 hr3 hs3 b3 o3 hw3 o2 b2 b2d s2d hx2 y0 y1 hl2
      rw[←W3.out]
      go_wp2_with fail
      refine(HB.out (w.heap.size+1+1) An nn cn A2 (nh+1) c2 Ab nb cb names (held++[a]) w3 HB3.out HX3.out (HN0.out.below HB3.out) R3.out HNN.out (by rw[List.length_append,HNH.out];rfl) Zq6 Zq6).mono ?_
      rintro e w4 ⟨rfl,b4,s4⟩
      obtain ⟨k0,k1⟩:=ycd (lay:=b4) HR3.out
      have f0:=ya6 b4 HR3.out 0
      have f1:=ya6 b4 HR3.out 1
      have hl4:w.heap.size+1<w4.heap.size:=by have:=lt_of_block HR3.out;omega
      obtain ⟨c,hc⟩:∃ c,c=chkN d bd names (held++[a]):=⟨_,rfl⟩
      rw[←hc] at HS ⊢
      clear hc
      go_wp2_with fail
      exact bodyPost_ret (v:=.agg #[.int .i64 c.1,.string c.2]) (by simp [results,Tryz.results125,go_sem,k0,k1]) rfl ⟨by rw[HS.out],((HB3.out.trans (b4.mono (by have:=HB3.out.size;omega))).setCell Zq11 _).setCell Zq11 _,by have:=HB3.out.size;simp [World.setCell];omega⟩
    · have HS:Hid (oneN ⟨4,word,args,count⟩ (chkN d bd) names held=c):=by
        have hs:yb8 ⟨4,word,args,count⟩ names held=(c,(names,held++[a])):=by
          show(ycn names held (arg0 _),(names,held++[arg0 _]))=_
          rw[←HAE.out,←HC.out]
        exact yib hs hc0
      have hne:(c.1 != 0)=true:=by rw[bne_iff_ne];exact hc0
      clear k0 k1 f0 f1
      obtain ⟨k0,k1⟩:=ycd (lay:=by2) X1.out
      have f0:=ya6 by2 X1.out 0
      have f1:=ya6 by2 X1.out 1
      have hl1:w.heap.size+1<wy.heap.size:=by omega
      go_wp2_with fail
      exact bodyPost_ret (v:=.agg #[.int .i64 c.1,.string c.2]) (by simp [results,Tryz.results125,go_sem,k0,k1]) rfl ⟨by rw[HS.out],((B0.out.trans (by2.mono Zq6)).setCell Zq11 _).setCell Zq11 _,by simp [World.setCell];omega⟩
theorem yo5 (d:Nat) (k:Int) (hk:1≤k∧k≤7) (word:ByteArray) (args names held:List ByteArray) (count:Int) (bd:List (Tr d)) (Aa:Option Addr) (m ca:Nat) (Ac:Option Addr) (nc cc E:Nat) (An Ah Ab:Option Addr) (nn cn nh ch nb cb:Nat) (w:World)
  (hx:w.heap[E]?=some (.cells #[.slice An nn cn,.slice Ah nh ch,.bool true,.slice Ab nb cb] 100 (0,0))) (hm:args.length=m) (hra:Rd w 1 Aa m (strs args)) (hca:m≤ca) (hnn:names.length=nn) (hrn:Rd w 1 An nn (strs names)) (hnh:held.length=nh) (hrh:Rd w 1 Ah nh (strs held)) (h1:m≤1048576) (h2:nn≤4) (h3:nh+m+szT d bd≤1048576)
  (hv:vOne d (ya7 d) ⟨k,word,args,count⟩ bd=true) (hbody:ye9 d bd w Ac nc cc) :
  Calls Tryz.prog 125 #[.agg #[.int .i64 k,.string word,.slice Aa m ca,.int .i64 count,.slice Ac nc cc],.pointer (some ⟨E,0,none⟩)] w (ydi (oneN ⟨k,word,args,count⟩ (chkN d bd) names held) w):=by
 have h:k=1∨k=2∨k=3∨k=4∨k=5∨k=6∨k=7:=by omega
 rcases h with rfl|rfl|rfl|rfl|rfl|rfl|rfl
 ·exact ylm d word args names held count bd Aa m ca Ac nc cc E An Ah Ab nn cn nh ch nb cb true w hx hm hra hca hnn hrn hnh hrh h1 h2 h3 hv hbody
 ·exact yln d word args names held count bd Aa m ca Ac nc cc E An Ah Ab nn cn nh ch nb cb true w hx hm hra hca hnn hrn hnh hrh h1 h2 h3 hv hbody
 ·exact ylo d word args names held count bd Aa m ca Ac nc cc E An Ah Ab nn cn nh ch nb cb true w hx hm hra hca hnn hrn hnh hrh h1 h2 h3 hv hbody
 ·exact ylq d word args names held count bd Aa m ca Ac nc cc E An Ah Ab nn cn nh ch nb cb true w hx hm hra hca hnn hrn hnh hrh h1 h2 h3 hv hbody
 ·exact ylp d word args names held count bd Aa m ca Ac nc cc E An Ah Ab nn cn nh ch nb cb true w hx hm hra hca hnn hrn hnh hrh h1 h2 h3 hv hbody
 ·exact yri d word args names held count bd Aa m ca Ac nc cc E An Ah Ab nn cn nh ch nb cb w hx hm hra hca hnn hrn hnh hrh h1 h2 h3 hv hbody
 ·exact yrj d word args names held count bd Aa m ca Ac nc cc E An Ah Ab nn cn nh ch nb cb w hx hm hra hca hnn hrn hnh hrh h1 h2 h3 hv hbody
def ym5 (d:Nat):Prop:=∀ (lo:Nat) (A:Option Addr) (n c:Nat) (l:List (Tr d)) (E:Nat) (An:Option Addr) (nn cn:Nat) (Ah:Option Addr) (nh ch:Nat) (Ab:Option Addr) (nb cb:Nat) (names held:List ByteArray) (w:World),RdT w lo d A n l →
 w.heap[E]?=some (.cells #[.slice An nn cn,.slice Ah nh ch,.bool true,.slice Ab nb cb] 100 (0,0))→Rd w 1 An nn (strs names)→Rd w 1 Ah nh (strs held)→names.length=nn→held.length=nh→nn≤4→nh+szT d l≤1048576→ya7 d l=true →
 Calls Tryz.prog 78 #[.slice A n c,.pointer (some ⟨E,0,none⟩)] w (ydi (chkN d l names held) w)
theorem ym6 {d lo:Nat} (h:ym5 d) {bd:List (Tr d)} {w:World} {Ac:Option Addr} {nc:Nat} (cc:Nat) (hr:RdT w lo d Ac nc bd) (hv:ya7 d bd=true):ye9 d bd w Ac nc cc :=
 fun E An nn cn Ah nh ch Ab nb cb names held w' hb hx h1 h2 h3 h4 h5 h6=>h lo Ac nc cc bd E An nn cn Ah nh ch Ab nb cb names held w' (hr.below hb) hx h1 h2 h3 h4 h5 h6 hv
theorem yil {L:List Bad} {t:Nat} {c:Bad} (h:L[t]?=some c) (hz:∀ x∈L.take t,x.1=0) (hc:c.1≠0):ydq L=c:=ynr h (ygv hz) hz hc
theorem ylr {L:List Bad} {t:Nat} {c:Bad} (h:L[t]?=some c) (hz:∀ x∈L.take t,x.1=0) (hc:c.1=0):∀ x∈L.take (t+1),x.1=0:=by
 intro x hx
 rw[List.take_add_one,h] at hx
 rcases List.mem_append.1 hx with hx|hx
 ·exact hz x hx
 ·simp at hx
  rw[hx]
  exact hc
theorem yrk:∀ (d:Nat),ym5 d:=by
 intro d
 induction d with
 | zero =>
  intro lo A n c l E An nn cn Ah nh ch Ab nb cb names held w h hx _ _ _ _ _ _ _
  obtain rfl:=ycl h
  go_enter Tryz.func78,Tryz.ntmps78
  go_wp2
  refine wp_loop_rounds 1 ?_
  rw[rounds_succ]
  go_wp2
  exact bodyPost_ret (v:=.agg #[.int .i64 0,.string ⟨#[]⟩]) (by simp [results,Tryz.results78,go_sem]) rfl ⟨rfl,Zq0,Zq5⟩
 | succ d ih =>
  intro lo A n c l E An nn cn Ah nh ch Ab nb cb names held w h hx hrn hrh hnn hnh h4 hsz hv
  have hq:=hsz
  rw[ybb] at hq
  have hln:=h.len
  have hn:n≤1048576:=by omega
  obtain ⟨L,hL⟩:∃ L,L=l.map fun s=>oneN (hdT s) (chkN d (bdT s)) names held:=⟨_,rfl⟩
  have HRES:Hid (chkN (d+1) l names held=ydq L):=by rw[hL];exact rfl
  obtain ⟨w0,hw0⟩:∃ w0,w0=w.alloc (.cells #[.int .i64 0,.string ⟨#[]⟩] 96):=⟨_,rfl⟩
  have X0:=hD (show w0.heap[w.heap.size]?=some (.cells #[.int .i64 0,.string ⟨#[]⟩] 96 (0,0)) by rw[hw0];exact yac _ _)
  have b0:Below w.heap.size w w0:=by rw[hw0];exact Zq0
  have hz0:w.heap.size<w0.heap.size:=by rw[hw0];simp
  have HW:=hD hw0
  have H:=hD h
  have HLN:=hD hln
  have HL:=hD hL
  have XE:=hD hx
  have HN:=hD hrn
  have HH:=hD hrh
  have HNN:=hD hnn
  have HNH:=hD hnh
  have HQ:=hD hq
  have HV:=hD hv
  have IH:=hD ih
  have B0:=hD b0
  clear h hln hL hx hrn hrh hnn hnh hsz hq hv ih hw0 b0
  go_enter Tryz.func78,Tryz.ntmps78
  go_wp2_with fail
  rw[←HW.out]
  go_loopw [5] (fun i wr=>∃ t:Nat,t≤n∧i=.int .i64 t∧Hid (∀ x∈L.take t,x.1=0)∧Below w0.heap.size w0 wr) (fun i _=>n - (intOf i).toNat)
  case atStart=>exact ⟨0,Nat.zero_le _,rfl,fun x hx=>by simp at hx,Below.refl _ _⟩
  case round =>
   obtain ⟨t,ht,rfl,hzs,hb⟩:=hrel
   have hbs:=hb.size
   by_cases hlt:t<n
   ·have hbw:Below w.heap.size w wr:=B0.out.trans (hb.mono Zq6)
    obtain ⟨b,off,s,Aa,ca,Ac,nc,cc,rfl,hbl,hs,⟨c0,c1,c2,c3,c4⟩,ha,hbd,hcap⟩:=(H.out.below hbw).at_c hlt
    have hme:=ydw hs
    have hze:szE s=(hdT s).word.size+((hdT s).args.length+szS (hdT s).args+szT d (bdT s)):=rfl
    have hq:=HQ.out
    have hvs:=yf1 HV.out hs
    obtain ⟨hk,_,hvb⟩:=yet hvs
    have HC:=hD (yo5 d (hdT s).k hk (hdT s).word (hdT s).args names held (hdT s).count (bdT s) Aa _ ca Ac nc cc E An Ah Ab nn cn nh ch nb cb wr ((hbw.block E (lt_of_block XE.out)).trans XE.out) rfl ha.rd hcap HNN.out (HN.out.below hbw) HNH.out (HH.out.below hbw) Zq6 h4 Zq6 hvs (ym6 IH.out cc hbd hvb))
    obtain ⟨cc',hcc⟩:∃ c',c'=oneN (hdT s) (chkN d (bdT s)) names held:=⟨_,rfl⟩
    have HC2:Hid (Calls Tryz.prog 125 #[.agg #[.int .i64 (hdT s).k,.string (hdT s).word,.slice Aa (hdT s).args.length ca,.int .i64 (hdT s).count,.slice Ac nc cc],.pointer (some ⟨E,0,none⟩)] wr (ydi cc' wr)):=by
     rw[hcc]
     exact HC.out
    have HAT:Hid (L[t]?=some cc'):=by
     rw[HL.out,List.getElem?_map,hs,hcc]
     exact rfl
    clear hs ha hbd hcap hme hze hq hvs hk hvb HC hcc
    go_wp2_with fail
    refine HC2.out.mono ?_
    rintro e w1 ⟨rfl,b1,s1⟩
    have bb:=hb.trans (b1.mono hbs)
    obtain ⟨k0,k1⟩:=ycd (lay:=bb) X0.out
    have f0:=ya6 bb X0.out 0
    have f1:=ya6 bb X0.out 1
    have hl1:w.heap.size<w1.heap.size:=by omega
    clear c0 c1 c2 c3 c4
    by_cases hc0:cc'.1=0
    ·have HZ:=hD (ylr HAT.out hzs.out hc0)
     have hne:(cc'.1 != 0)=false:=by simp [hc0]
     have HC0:=hD hc0
     clear hc0
     go_wp2_with fail
     go_roundw
     case rel=>exact ⟨t+1,by omega,by go_num,HZ,bb.alloc Zq6 _⟩
     case measure=>simp [intOf];omega
    ·have HF:=hD (HRES.out.trans (yil HAT.out hzs.out hc0))
     have hne:(cc'.1 != 0)=true:=by rw[bne_iff_ne];exact hc0
     clear hc0
     go_wp2_with fail
     exact bodyPost_ret (v:=.agg #[.int .i64 cc'.1,.string cc'.2]) (by simp [results,Tryz.results78,go_sem,k0,k1,hl1]) rfl ⟨by rw[HF.out],(((B0.out.trans (bb.mono Zq6)).setCell (Nat.le_refl _) _).setCell (Nat.le_refl _) _).alloc (by rw[ych,ych];omega) _,by simp [World.setCell];omega⟩
   ·obtain rfl:t=n:=by omega
    have HF:Hid (chkN (d+1) l names held=bad0):=by
     rw[HRES.out]
     refine ygv ?_
     have:=hzs.out
     rwa [List.take_of_length_le (by rw[HL.out,List.length_map,HLN.out];exact Nat.le_refl _)] at this
    obtain ⟨k0,k1⟩:=ycd (lay:=hb) X0.out
    have f0:=ya6 hb X0.out 0
    have f1:=ya6 hb X0.out 1
    have hl1:w.heap.size<wr.heap.size:=by omega
    go_wp2_with fail
    exact bodyPost_ret (v:=.agg #[.int .i64 0,.string ⟨#[]⟩]) (by simp [results,Tryz.results78,go_sem,k0,k1]) rfl ⟨by rw[HF.out];rfl,((B0.out.trans (hb.mono Zq6)).setCell Zq11 _).setCell Zq11 _,by simp [World.setCell];omega⟩
end Go.Proofs.YthkbckkghnbonaaGreatDoor
