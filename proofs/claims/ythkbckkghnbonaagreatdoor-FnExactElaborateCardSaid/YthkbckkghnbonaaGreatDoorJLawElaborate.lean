/- The program's Elaborate returns what the reference's returns, for every program, in new memory. -/
import Derived.Test.YthkbckkghnbonaaGreatDoorJElaborate2
import Derived.Test.YthkbckkghnbonaaGreatDoorJElaborate16
import Derived.Test.YthkbckkghnbonaaGreatDoorJElaborate12
set_option maxRecDepth 100000
set_option maxHeartbeats 16000000
set_option linter.unusedVariables false
namespace Go.Proofs.YthkbckkghnbonaaGreatDoor
open Go.ChangeShapes Go.WideShapes Go.ChangeAt Go.RowKit
set_option linter.unusedVariables false
theorem elaP_len (d:Nat) (qs:List ByteArray) (l:List (Tr d)):(elaP d qs l).l.length≤120:=by
 unfold elaP
 split
 ·unfold finR
  split
  ·exact Nat.zero_le _
  ·rename_i hn
   show(dA d l qs ⟨[],qs.length,false⟩).1.length≤120
   apply Classical.byContradiction
   intro hl
   refine hn (.inr (.inr ?_))
   unfold validRt
   rw[decide_eq_false hl]
   simp
 ·exact Nat.zero_le _
theorem below_of_drew3 {w w':World} (h:Below w.drew.heap.size w.drew w'):Below w.heap.size w w':=⟨h.os,h.tape,h.output,h.size,h.block⟩
theorem law_Elaborate (d:Nat) (qs:List ByteArray) (l:List (Tr d)) (Aq:Option Addr) (cq:Nat) (Ab:Option Addr) (nb cb:Nat) (w:World) (rA:Rd w 1 Aq qs.length (strs qs)) (rB:RdT w 0 d Ab nb l) (hG:GN w) (hml:qs.length≤9223372036854775807) (hqz:∀ a∈qs,a.size≤9223372036854775807) (hok:OkT d l) :
  Calls Tryz.prog 4 #[.agg #[.slice Aq qs.length cq,.slice Ab nb cb]] w fun e w'=>e=.returned (.bool true)∧Below w.heap.size w w':=by
 by_cases hbig:subSz 1048576 (qs.length+szS qs+szT d l)<0
 ·have b0:Below w.heap.size w (w.alloc (.cells #[.slice Aq qs.length cq,.slice Ab nb cb] 36)):=Zq0
  have HA:=hD (rA.below b0)
  have HBd:=hD (rB.below b0)
  have B0:=hD b0
  have HZ:=hD hqz
  clear rA rB b0 hqz
  go_enter Tryz.func4,Tryz.ntmps4
  go_wp2_with fail
  refine(szProgram_any d _ _ _ _ qs l _ _ _ _ _ HA.out HBd.out rfl hml HZ.out hok Zq6 Zq6).mono ?_
  rintro e w1 ⟨rfl,b1,s1⟩
  go_wp2_with fail
  go_ret
  exact ⟨rfl,B0.out.trans (b1.mono Zq11)⟩
 have hn0:=subSz_le hbig
 have hn:szT d l≤1048576:=by omega
 have hmn:qs.length≤1048576:=by omega
 have hmz:szS qs≤1048576:=by omega
 have HCS:=hD (fun Aq cq Ab nb cb w lo lo' ra hc rb=>Elaborate_spec d lo lo' Aq cq qs l Ab nb cb w ra hc rb hmn hmz hn)
 have HCI:=hD (fun Aq cq Ab nb cb w lo lo' ra hc rb hG=>Elaborate_impl d lo lo' Aq cq qs l Ab nb cb w ra hc rb hG hmn hmz hn)
 have hRl:=elaP_len d qs l
 have hKL:=kT_le d l
 obtain ⟨R,hR⟩:∃ R,R=elaP d qs l:=⟨_,rfl⟩
 rw[←hR] at HCS HCI hRl
 clear hR
 obtain ⟨N,I,B,T,K⟩:=R
 have hTl:T.length≤120:=hRl
 clear hRl
 have HCS:Hid (∀ Aq cq Ab nb cb w lo lo' (ra:RdL w lo 1 Aq qs.length (strs qs)) (hc:qs.length≤cq) (rb:RdT w lo' d Ab nb l),Calls Tryz.prog 17 #[.agg #[.slice Aq qs.length cq,.slice Ab nb cb]] w (RetElb ⟨N,I,B,T,K⟩ w)):=HCS
 have HCI:Hid (∀ Aq cq Ab nb cb w lo lo' (ra:RdL w lo 1 Aq qs.length (strs qs)) (hc:qs.length≤cq) (rb:RdT w lo' d Ab nb l) (hG:GN w),Calls Tryz.prog 19 #[.agg #[.slice Aq qs.length cq,.slice Ab nb cb]] w (RetElb ⟨N,I,B,T,K⟩ w)):=HCI
 have HZ:=hD hqz
 clear hqz
 go_enter Tryz.func4,Tryz.ntmps4
 go_wp2_with fail
 obtain ⟨w0,hw0⟩:∃ w0,w0=(World.alloc w (.cells #[.slice Aq qs.length cq,.slice Ab nb cb] 36)):=⟨_,rfl⟩
 rw[←hw0]
 have b0:Below w.heap.size w w0:=by rw[hw0];exact Zq0
 have s0:w.heap.size+1=w0.heap.size:=by rw[hw0];simp
 have x0_0:w0.heap[w.heap.size]?=some (.cells #[.slice Aq qs.length cq,.slice Ab nb cb] 36 (0,0)):=by rw[hw0];exact boxed1_0 _ _
 have X0_0:=hD x0_0
 clear x0_0
 have S0:w.heap.size≤w0.heap.size:=by omega
 clear hw0
 have rA:=rA.below b0
 have rB:=rB.below b0
 have hG:=hG.below b0
 refine(szProgram_any d _ _ _ _ qs l _ _ _ _ _ rA rB rfl hml HZ.out hok Zq6 Zq6).mono ?_
 rintro e w1 ⟨rfl,b1,s1⟩
 obtain ⟨bx1_0,bx1_1⟩:=boxcells2 (lay:=(b1.mono Zq6)) X0_0.out
 have lt1:w.heap.size<w1.heap.size:=by omega
 go_wp2_with fail
 clear bx1_0 bx1_1 lt1
 refine(toProgram_c d _ _ _ _ qs l _ _ _ _ (rA.below (b1.mono Zq6)) (rB.below (b1.mono Zq6)) rfl hmn hn).mono ?_
 rintro e w2 ⟨At,ct,Bt,dt,rfl,rat,rbt,b2,s2,hct⟩
 have HCt:=hD hct
 clear hct
 go_wp2_with fail
 refine(HCS.out _ _ _ _ _ _ _ _ (rat.below (Below.refl _ _)) HCt.out (rbt.below (Below.refl _ _))).mono ?_
 rintro e w3 ⟨Aw,cw,rfl,ow,b3⟩
 have s3:=b3.size
 have rw:=rd_own ow
 have ocw:=ow
 obtain ⟨bx2_0,bx2_1⟩:=boxcells2 (lay:=(((b1.mono Zq6).trans (b2.mono Zq6)).trans (b3.mono Zq6))) X0_0.out
 have lt2:w.heap.size<w3.heap.size:=by omega
 go_wp2_with fail
 clear bx2_0 bx2_1 lt2
 obtain ⟨w4,hw4⟩:∃ w4,w4=w3.alloc (.cells #[.int .i64 N,.int .i64 I,.int .i64 B,.slice Aw T.length cw] 40):=⟨_,rfl⟩
 rw[←hw4]
 have b4:Below w3.heap.size w3 w4:=by rw[hw4];exact Zq0
 have s4:w3.heap.size+1=w4.heap.size:=by rw[hw4];simp
 have Xw:=hD (show w4.heap[w3.heap.size]?=some (.cells #[.int .i64 N,.int .i64 I,.int .i64 B,.slice Aw T.length cw] 40 (0,0)) by rw[hw4];exact boxed1_0 _ _)
 have s4':=s4
 clear hw4
 refine(toProgram_cn d _ _ _ _ qs l _ _ _ _ (rA.below ((((b1.mono Zq6).trans (b2.mono Zq6)).trans (b3.mono Zq6)).trans (b4.mono Zq6))) (rB.below ((((b1.mono Zq6).trans (b2.mono Zq6)).trans (b3.mono Zq6)).trans (b4.mono Zq6))) rfl hmn hn).mono ?_
 rintro e w5 ⟨⟨Ax,cx,Bx,dx,rfl,rax,rbx,b5,s5,hcx⟩,nfx⟩
 have HCx:=hD hcx
 have NFx:=hD nfx
 clear hcx nfx
 go_wp2_with fail
 obtain ⟨w6,hw6⟩:∃ w6,w6=w5.alloc (.cells #[.slice Ax qs.length cx,.slice Bx nb dx] 27):=⟨_,rfl⟩
 rw[←hw6]
 have b6:Below w5.heap.size w5 w6:=by rw[hw6];exact Zq0
 have s6:w5.heap.size+1=w6.heap.size:=by rw[hw6];simp
 have Xx:=hD (show w6.heap[w5.heap.size]?=some (.cells #[.slice Ax qs.length cx,.slice Bx nb dx] 27 (0,0)) by rw[hw6];exact boxed1_0 _ _)
 have s6':=s6
 clear hw6
 refine(HCI.out _ _ _ _ _ _ _ _ (rax.below (b6.mono Zq6)) HCx.out (rbx.below (b6.mono Zq6)) (hG.below ((((((b1.mono Zq6).trans (b2.mono Zq6)).trans (b3.mono Zq6)).trans (b4.mono Zq6)).trans (b5.mono Zq6)).trans (b6.mono Zq6)))).mono ?_
 rintro e w7 ⟨Ag,cg,rfl,og,b7⟩
 have s7:=b7.size
 have rg:=rd_own og
 have ocg:=og
 obtain ⟨bx3_0,bx3_1,bx3_2,bx3_3⟩:=boxcells4 (lay:=(((b5.mono Zq6).trans (b6.mono Zq6)).trans (b7.mono Zq6))) Xw.out
 have lt3:w3.heap.size<w7.heap.size:=by omega
 go_wp2_with fail
 clear bx3_0 bx3_1 bx3_2 bx3_3 lt3
 obtain ⟨w8,hw8⟩:∃ w8,w8=w7.alloc (.cells #[.int .i64 N,.int .i64 I,.int .i64 B,.slice Ag T.length cg] 40):=⟨_,rfl⟩
 rw[←hw8]
 have b8:Below w7.heap.size w7 w8:=by rw[hw8];exact Zq0
 have s8:w7.heap.size+1=w8.heap.size:=by rw[hw8];simp
 have Xg:=hD (show w8.heap[w7.heap.size]?=some (.cells #[.int .i64 N,.int .i64 I,.int .i64 B,.slice Ag T.length cg] 40 (0,0)) by rw[hw8];exact boxed1_0 _ _)
 have s8':=s8
 clear hw8
 refine(eqRoutine_same N I B _ _ _ _ _ T _ rfl Zq6 (rg.below (b8.mono Zq6)) (rw.below (((((b4.mono Zq6).trans (b5.mono Zq6)).trans (b6.mono Zq6)).trans (b7.mono Zq6)).trans (b8.mono Zq6)))).mono ?_
 rintro e w9 ⟨rfl,b9,s9⟩
 go_wp2_with fail
 obtain ⟨bx4_0,bx4_1⟩:=boxcells2 (lay:=(((b7.mono Zq6).trans (b8.mono Zq6)).trans (b9.mono Zq6))) Xx.out
 have lt4:w5.heap.size<w9.heap.size:=by omega
 obtain ⟨bx5_0,bx5_1⟩:=boxcells2 (lay:=(((((((((b1.mono Zq6).trans (b2.mono Zq6)).trans (b3.mono Zq6)).trans (b4.mono Zq6)).trans (b5.mono Zq6)).trans (b6.mono Zq6)).trans (b7.mono Zq6)).trans (b8.mono Zq6)).trans (b9.mono Zq6))) X0_0.out
 have lt5:w.heap.size<w9.heap.size:=by omega
 have rrA:=rA.below (((((((((b1.mono Zq6).trans (b2.mono Zq6)).trans (b3.mono Zq6)).trans (b4.mono Zq6)).trans (b5.mono Zq6)).trans (b6.mono Zq6)).trans (b7.mono Zq6)).trans (b8.mono Zq6)).trans (b9.mono Zq6))
 have rrB:=rB.below (((((((((b1.mono Zq6).trans (b2.mono Zq6)).trans (b3.mono Zq6)).trans (b4.mono Zq6)).trans (b5.mono Zq6)).trans (b6.mono Zq6)).trans (b7.mono Zq6)).trans (b8.mono Zq6)).trans (b9.mono Zq6))
 have rvA:=(rax.below ((((b6.mono Zq6).trans (b7.mono Zq6)).trans (b8.mono Zq6)).trans (b9.mono Zq6)))
 have rvB:=(rbx.below ((((b6.mono Zq6).trans (b7.mono Zq6)).trans (b8.mono Zq6)).trans (b9.mono Zq6)))
 have lvf:Below w6.heap.size w6 w9:=(((b7.mono Zq6).trans (b8.mono Zq6)).trans (b9.mono Zq6))
 have lbf:Below w0.heap.size w0 w9:=(((((((((b1.mono Zq6).trans (b2.mono Zq6)).trans (b3.mono Zq6)).trans (b4.mono Zq6)).trans (b5.mono Zq6)).trans (b6.mono Zq6)).trans (b7.mono Zq6)).trans (b8.mono Zq6)).trans (b9.mono Zq6))
 have zvf:w6.heap.size≤w9.heap.size:=by omega
 have zbf:w0.heap.size≤w9.heap.size:=by omega
 go_region_held3 (fun W=>W.cell? ⟨w5.heap.size,0,none⟩=some (.slice Ax qs.length cx)∧W.cell? ⟨w5.heap.size,1,none⟩=some (.slice Bx nb dx)∧W.cell? ⟨w.heap.size,0,none⟩=some (.slice Aq qs.length cq)∧W.cell? ⟨w.heap.size,1,none⟩=some (.slice Ab nb cb)) (first|exact ⟨bx4_0,bx4_1,bx5_0,bx5_1⟩|exact ⟨fpa0,fpa1,fpb0,fpb1⟩|exact ⟨fqa0,fqa1,fqb0,fqb1⟩) (first|(go_at_call 18;(with_reducible refine(toProgram_any d _ _ _ _ qs l _ _ _ _ (Rd.drew rrA) (RdT.drew rrB) rfl hmn hn).mono ?_);rintro e w10 ⟨Af,cf,Bf,df,rfl,raf,rbf,btf,stf⟩;have b10:=below_of_drew3 btf;have s10:=b10.size;obtain ⟨fpa0,fpa1⟩:=boxcells2 (lay:=lvf.trans (b10.mono zvf)) Xx.out;obtain ⟨fpb0,fpb1⟩:=boxcells2 (lay:=lbf.trans (b10.mono zbf)) X0_0.out)|(go_at_call 21;(with_reducible refine(eqProgram_any d _ _ _ _ qs l _ _ _ _ _ _ _ _ _ (rvA.below b10).rd (rvB.below b10) raf.rd rbf rfl hmn hn).mono ?_);rintro e w11 ⟨rfl,b11,s11⟩;obtain ⟨fqa0,fqa1⟩:=boxcells2 (lay:=lvf.trans ((b10.mono zvf).trans (b11.mono Zq6))) Xx.out;obtain ⟨fqb0,fqb1⟩:=boxcells2 (lay:=lbf.trans ((b10.mono zbf).trans (b11.mono Zq6))) X0_0.out))
 clear bx4_0 bx4_1 lt4 bx5_0 bx5_1 lt5
 all_goals (try clear fpa0 fpa1 fpb0 fpb1 fqa0 fqa1 fqb0 fqb1)
 obtain ⟨bx6_0,bx6_1⟩:=boxcells2 (lay:=(((((b7.mono Zq6).trans (b8.mono Zq6)).trans (b9.mono Zq6)).trans (b10.mono Zq6)).trans (b11.mono Zq6))) Xx.out
 have lt6:w5.heap.size<w11.heap.size:=by omega
 go_wp2_with fail
 clear bx6_0 bx6_1 lt6
 have mkx:Mk w4.heap.size w5.heap.size w5 w11:=Mk.of_below ((((((b6.mono Zq6).trans (b7.mono Zq6)).trans (b8.mono Zq6)).trans (b9.mono Zq6)).trans (b10.mono Zq6)).trans (b11.mono Zq6)) (Nat.le_refl _)
 refine(markProgram_any d w4.heap.size w5.heap.size _ _ l _ _ _ _ 1 _ ((ws_of rax NFx.out).mk mkx) ((wt_of NFx.out rbx).mk mkx) Zq6 Zq6 Zq6 Zq6 Zq6).mono ?_
 rintro e w12 ⟨rfl,m12⟩
 have b12:=m12.below Zq6
 have s12:=m12.size
 have og:=own_mk (ownsRow_below og ((((b8.mono Zq6).trans (b9.mono Zq6)).trans (b10.mono Zq6)).trans (b11.mono Zq6))) m12 Zq6
 have rg:=rd_own og
 have Xg:=hD (show w12.heap[w7.heap.size]?=some (.cells #[.int .i64 N,.int .i64 I,.int .i64 B,.slice Ag T.length cg] 40 (0,0)) from(m12.far w7.heap.size Zq6 (.inr Zq6)).trans (((show Below (w7.heap.size+1) w8 w11 from(((b9.mono Zq6).trans (b10.mono Zq6)).trans (b11.mono Zq6))).block _ Zq6).trans Xg.out))
 obtain ⟨bx7_0,bx7_1,bx7_2,bx7_3⟩:=boxcells4 (lay:=(Below.refl _ _)) Xg.out
 have lt7:w7.heap.size<w12.heap.size:=by omega
 obtain ⟨bx8_0,bx8_1,bx8_2,bx8_3⟩:=boxcells4 (lay:=((((((((b5.mono Zq6).trans (b6.mono Zq6)).trans (b7.mono Zq6)).trans (b8.mono Zq6)).trans (b9.mono Zq6)).trans (b10.mono Zq6)).trans (b11.mono Zq6)).trans (b12.mono Zq6))) Xw.out
 have lt8:w3.heap.size<w12.heap.size:=by omega
 go_wp2_with fail
 clear bx7_0 bx7_1 bx7_2 bx7_3 lt7 bx8_0 bx8_1 bx8_2 bx8_3 lt8
 refine(eqRoutine_same N I B _ _ _ _ _ T _ rfl Zq6 (rg.below (Below.refl _ _)) (rw.below (((((((((b4.mono Zq6).trans (b5.mono Zq6)).trans (b6.mono Zq6)).trans (b7.mono Zq6)).trans (b8.mono Zq6)).trans (b9.mono Zq6)).trans (b10.mono Zq6)).trans (b11.mono Zq6)).trans (b12.mono Zq6)))).mono ?_
 rintro e w13 ⟨rfl,b13,s13⟩
 obtain ⟨bx9_0,bx9_1,bx9_2,bx9_3⟩:=boxcells4 (lay:=(b13.mono Zq6)) Xg.out
 have lt9:w7.heap.size<w13.heap.size:=by omega
 go_wp2_with fail
 clear bx9_0 bx9_1 bx9_2 bx9_3 lt9
 refine(markRoutine_any N I B _ _ _ _ _ 1 _ (ownsRow_below og (b13.mono Zq6)) Zq6 Zq6 Zq6).mono ?_
 rintro e w14 ⟨rfl,ogm,gr14⟩
 have b14:=grown_below (B:=w6.heap.size) gr14 Zq6 (fun q hq=>(og.lt q hq).1)
 have s14:=gr14.size
 have rgm:=rd_own ogm
 have Xg:=hD (show w14.heap[w7.heap.size]?=some (.cells #[.int .i64 N,.int .i64 I,.int .i64 B,.slice Ag T.length cg] 40 (0,0)) from(gr14.block w7.heap.size Zq6 (fun e=>by have:=(ocg.lt _ e.symm).2;omega)).trans (((show Below (w7.heap.size+1) w12 w13 from(b13.mono Zq6)).block _ Zq6).trans Xg.out))
 obtain ⟨bx10_0,bx10_1,bx10_2,bx10_3⟩:=boxcells4 (lay:=(Below.refl _ _)) Xg.out
 have lt10:w7.heap.size<w14.heap.size:=by omega
 go_wp2_with fail
 clear bx10_0 bx10_1 bx10_2 bx10_3 lt10
 refine(heldRoutine_any N I B _ _ _ 1 _ (rgm.below (Below.refl _ _)) Zq6 Zq6 Zq6).mono ?_
 rintro e w15 ⟨rfl,b15,s15⟩
 obtain ⟨bx11_0,bx11_1⟩:=boxcells2 (lay:=(((((((((((((((b1.mono Zq6).trans (b2.mono Zq6)).trans (b3.mono Zq6)).trans (b4.mono Zq6)).trans (b5.mono Zq6)).trans (b6.mono Zq6)).trans (b7.mono Zq6)).trans (b8.mono Zq6)).trans (b9.mono Zq6)).trans (b10.mono Zq6)).trans (b11.mono Zq6)).trans (b12.mono Zq6)).trans (b13.mono Zq6)).trans (b14.mono Zq6)).trans (b15.mono Zq6))) X0_0.out
 have lt11:w.heap.size<w15.heap.size:=by omega
 go_wp2_with fail
 clear bx11_0 bx11_1 lt11
 refine(toProgram_c d _ _ _ _ qs l _ _ _ _ (rA.below (((((((((((((((b1.mono Zq6).trans (b2.mono Zq6)).trans (b3.mono Zq6)).trans (b4.mono Zq6)).trans (b5.mono Zq6)).trans (b6.mono Zq6)).trans (b7.mono Zq6)).trans (b8.mono Zq6)).trans (b9.mono Zq6)).trans (b10.mono Zq6)).trans (b11.mono Zq6)).trans (b12.mono Zq6)).trans (b13.mono Zq6)).trans (b14.mono Zq6)).trans (b15.mono Zq6))) (rB.below (((((((((((((((b1.mono Zq6).trans (b2.mono Zq6)).trans (b3.mono Zq6)).trans (b4.mono Zq6)).trans (b5.mono Zq6)).trans (b6.mono Zq6)).trans (b7.mono Zq6)).trans (b8.mono Zq6)).trans (b9.mono Zq6)).trans (b10.mono Zq6)).trans (b11.mono Zq6)).trans (b12.mono Zq6)).trans (b13.mono Zq6)).trans (b14.mono Zq6)).trans (b15.mono Zq6))) rfl hmn hn).mono ?_
 rintro e w16 ⟨Az,cz,Bz,dz,rfl,raz,rbz,b16,s16,hcz⟩
 have HCz:=hD hcz
 clear hcz
 go_wp2_with fail
 refine(HCI.out _ _ _ _ _ _ _ _ (raz.below (Below.refl _ _)) HCz.out (rbz.below (Below.refl _ _)) (hG.below ((((((((((((((((b1.mono Zq6).trans (b2.mono Zq6)).trans (b3.mono Zq6)).trans (b4.mono Zq6)).trans (b5.mono Zq6)).trans (b6.mono Zq6)).trans (b7.mono Zq6)).trans (b8.mono Zq6)).trans (b9.mono Zq6)).trans (b10.mono Zq6)).trans (b11.mono Zq6)).trans (b12.mono Zq6)).trans (b13.mono Zq6)).trans (b14.mono Zq6)).trans (b15.mono Zq6)).trans (b16.mono Zq6)))).mono ?_
 rintro e w17 ⟨Ah,ch,rfl,oh,b17⟩
 have s17:=b17.size
 have rh:=rd_own oh
 have och:=oh
 obtain ⟨bx12_0,bx12_1,bx12_2,bx12_3⟩:=boxcells4 (lay:=(((((((((((((b5.mono Zq6).trans (b6.mono Zq6)).trans (b7.mono Zq6)).trans (b8.mono Zq6)).trans (b9.mono Zq6)).trans (b10.mono Zq6)).trans (b11.mono Zq6)).trans (b12.mono Zq6)).trans (b13.mono Zq6)).trans (b14.mono Zq6)).trans (b15.mono Zq6)).trans (b16.mono Zq6)).trans (b17.mono Zq6))) Xw.out
 have lt12:w3.heap.size<w17.heap.size:=by omega
 go_wp2_with fail
 clear bx12_0 bx12_1 bx12_2 bx12_3 lt12
 obtain ⟨w18,hw18⟩:∃ w18,w18=w17.alloc (.cells #[.int .i64 N,.int .i64 I,.int .i64 B,.slice Ah T.length ch] 40):=⟨_,rfl⟩
 rw[←hw18]
 have b18:Below w17.heap.size w17 w18:=by rw[hw18];exact Zq0
 have s18:w17.heap.size+1=w18.heap.size:=by rw[hw18];simp
 have Xh:=hD (show w18.heap[w17.heap.size]?=some (.cells #[.int .i64 N,.int .i64 I,.int .i64 B,.slice Ah T.length ch] 40 (0,0)) by rw[hw18];exact boxed1_0 _ _)
 have s18':=s18
 clear hw18
 refine(eqRoutine_same N I B _ _ _ _ _ T _ rfl Zq6 (rh.below (b18.mono Zq6)) (rw.below (((((((((((((((b4.mono Zq6).trans (b5.mono Zq6)).trans (b6.mono Zq6)).trans (b7.mono Zq6)).trans (b8.mono Zq6)).trans (b9.mono Zq6)).trans (b10.mono Zq6)).trans (b11.mono Zq6)).trans (b12.mono Zq6)).trans (b13.mono Zq6)).trans (b14.mono Zq6)).trans (b15.mono Zq6)).trans (b16.mono Zq6)).trans (b17.mono Zq6)).trans (b18.mono Zq6)))).mono ?_
 rintro e w19 ⟨rfl,b19,s19⟩
 obtain ⟨bx13_0,bx13_1,bx13_2,bx13_3⟩:=boxcells4 (lay:=(((((b15.mono Zq6).trans (b16.mono Zq6)).trans (b17.mono Zq6)).trans (b18.mono Zq6)).trans (b19.mono Zq6))) Xg.out
 have lt13:w7.heap.size<w19.heap.size:=by omega
 go_wp2_with fail
 clear bx13_0 bx13_1 bx13_2 bx13_3 lt13
 refine(heldRoutine_any N I B _ _ _ 1 _ (rgm.below (((((b15.mono Zq6).trans (b16.mono Zq6)).trans (b17.mono Zq6)).trans (b18.mono Zq6)).trans (b19.mono Zq6))) Zq6 Zq6 Zq6).mono ?_
 rintro e w20 ⟨rfl,b20,s20⟩
 go_wp2_with fail
 go_ret
 exact ⟨rfl,((((((((((((((((((((b0.trans (b1.mono Zq6)).trans (b2.mono Zq6)).trans (b3.mono Zq6)).trans (b4.mono Zq6)).trans (b5.mono Zq6)).trans (b6.mono Zq6)).trans (b7.mono Zq6)).trans (b8.mono Zq6)).trans (b9.mono Zq6)).trans (b10.mono Zq6)).trans (b11.mono Zq6)).trans (b12.mono Zq6)).trans (b13.mono Zq6)).trans (b14.mono Zq6)).trans (b15.mono Zq6)).trans (b16.mono Zq6)).trans (b17.mono Zq6)).trans (b18.mono Zq6)).trans (b19.mono Zq6)).trans (b20.mono Zq6))⟩
theorem door_fnExactElaborate (os:Os) (args:Array Value):laidMetH Tryz.prog Rows.fnExactElaborateRow.laid ((World.doorLaid Tryz.prog 4000 os).forCall (fun _ _=>0) ⟨#[],args,[]⟩).memory :=
 laidMetH_of_parts3 (fuel:=10) (laidMet_of_run' 10 Zq10 Zq10) Zq10 Zq10
theorem lifted_fnExactElaborate (os:Os) (started:os.Started) (H:Type) (enc:TypeId × Value→H) :
  ReturnsInHanded {} Tryz.checked os 4 .any (fun w args=>(Rows.fnExactElaborateSpec.pre enc Tryz.prog Tryz.f4 [] false w args∧laidMetH Tryz.prog Rows.fnExactElaborateRow.laid w)∧sizedMet enc Tryz.prog Tryz.f4 (OpenSpec.ofChange Rows.fnExactElaborateSpec) false w args)
   (Rows.fnExactElaborateSpec.post enc Tryz.prog Tryz.f4 false true false false):=by
 refine returnsInHanded_of_change_and (C:=Tryz.checked) (X:=fun w _=>laidMetH Tryz.prog Rows.fnExactElaborateRow.laid w) (fun _ _ _ hh h=>h.of_heap hh) own started Zq10 Tryz.func4
  (ChangeSpec.witness_shaped (enc:=enc) (C:=Tryz.checked) (os:=os) (X:=fun w _=>laidMetH Tryz.prog Rows.fnExactElaborateRow.laid w) false (World.doorLaid Tryz.prog 4000 os) #[.agg #[.slice none 0 0,.slice none 0 0]] 10 rfl (World.shaped_of_RefB Zq10 Zq10) Zq10 Zq10 Zq10 (door_fnExactElaborate os _)) ?_
 intro W base args ds gs before hval0 hW _ _ hL _
 have hval:∀ (j:Nat) t v,Tryz.f4.params[j]?=some t→args[j]?=some v→Value.okWide Tryz.prog W .any base t v:=hval0
 have hW':=hW
 obtain ⟨p,q,hA0,hV,rfl,hfz,hnd⟩:=hW
 have hA:DataW.TrodAll enc Tryz.prog W 0 (fun _=>true) true Tryz.f4.params.toList args.toList ds p:=hA0
 have hGN:GN W:=gn_of_laid1 hL
 have hltp:∀ x∈p,x.block<W.heap.size:=fun x hx=>hW'.lt x (by simp [hx])
 have hltq:∀ x∈q,x.block<W.heap.size:=fun x hx=>hW'.lt x (by simp [hx])
 have key:Calls Tryz.prog 4 args W fun e W'=>e=.returned (.bool true)∧Below W.heap.size W W':=by
  rw[Tryz.params4] at hA hval
  obtain ⟨v0,vs0,d0,ds0,p0,q0,hargs,rfl,rfl,h0,r0⟩:=trodAll_cons hA
  obtain ⟨rfl,rfl,rfl⟩:=trodAll_nil r0
  obtain rfl:args=#[v0]:=by cases args;simp_all
  clear hA0 hval0 hW' hA hV hltp hltq
  obtain ⟨u0,u1,y0,y1,ma,rfl,_,_,hy0,hy1⟩:=Joins.open_agg2 Tryz.underlying36 Zq10 (show Tryz.prog.cellsOf 36=2 by kernel_rfl) (hval 0 36 v0 rfl rfl) h0
  obtain ⟨Aq,cq,qs,rfl,hql,hqz,hra⟩:=open_strings hy0
  obtain ⟨Ab,nb,cb,l,rfl,_,_,hrb,hok⟩:=open_stmts ma ma (Nat.le_refl _) _ _ hy1
  exact law_Elaborate _ qs l Aq cq Ab nb cb W hra hrb hGN hql hqz hok
 refine key.mono fun e W' ⟨he,hb⟩=>?_
 subst he
 obtain ⟨g1,hgs,hvs⟩:=vars_stay laidOut strRec hV hltq hb (by obtain ⟨_,_,_,h,_⟩:=hGN;exact h)
 subst hgs
 have hrd:(Tryz.f4.params.toList.all fun t=>Tryz.prog.readableRec t&&decide (t<Tryz.prog.types.size))=true:=by kernel_rfl
 have hst:∀ sp:Nat→Bool,(∀ x∈p++q,sp x.block=true)→DataW.TrodAll enc Tryz.prog W' 0 sp true Tryz.f4.params.toList args.toList ds p:=fun sp hsp=>trodAll_stays (sp:=sp) (W':=W') laidOut (fun t ht=>by simpa using List.all_eq_true.1 hrd t ht) hA (fun x hx=>hb.same (hltp x hx)) (fun x hx=>hsp x (by simp [hx]))
 have hds:ds.length=1:=by
  rw[Tryz.params4] at hA
  obtain ⟨v0,vs0,d0,ds0,p0,q0,_,rfl,rfl,h0,r0⟩:=trodAll_cons hA
  obtain ⟨_,rfl,_⟩:=trodAll_nil r0
  rfl
 clear hA hA0 hval hval0
 obtain ⟨e0,rfl⟩:∃ e0,ds=[e0]:=by match ds,hds with|[e0],_=>exact ⟨e0,rfl⟩
 exact ⟨_,rfl,post_of_below (pa:=p) (pv:=q) hW' (fun _ _ _=>(trodAll_cons_mk (shut_bool Tryz.underlying4 _) trodAll_mk0)) hst (fun sp hsp=>hvs sp (fun x hx=>hsp x (by simp [hx]))) rfl hb (ok_one Zq10 rfl (okWide_bool_mk Tryz.underlying4 _))⟩
theorem over_fnExactElaborate:Rows.fnExactElaborateRow.holds Tryz.pinned (OpenSpec.ofChange Rows.fnExactElaborateSpec) :=
 OpenClaim.holds_of_wide 4 Tryz.f4 rfl rfl rfl rfl rfl rfl rfl ⟨rfl,rfl,rfl,rfl,rfl⟩ rfl rfl rfl rfl rfl Zq10 Tryz.func4 Zq10
  (of_decide_eq_true Zq10) (by unfold Func.isWrapper;first|(rw[if_pos (by decide +kernel)];kernel_rfl)|(rw[if_neg (by decide +kernel)];exact ⟨rfl,rfl⟩))
  (fun os started H enc _=>lifted_fnExactElaborate os started H enc)
theorem fnExactElaborate_holds:Rows.FnExactElaborateCardSaid :=
 Claim7.holds_tied_plain_at .later [] [.data] true (true, "64224490679f6881f559166ffb3ad8f164bbc1af6078a3191faee35b94f5eb6a") true
  over_fnExactElaborate (fun _ h=>by cases h) Zq10 (fun _ h=>by cases h) fnExactElaborate_row_tie rfl ⟨rfl,rfl⟩ Zq10 rfl
  (fun f fn hf hfn=>by
   obtain rfl : f = 4 := Option.some.inj ((show Tryz.prog.funcNamed "loop.example/g00506/laws.FnExactElaborate" = some 4 by kernel_rfl).symm.trans hf) |>.symm
   obtain rfl:fn=Tryz.f4:=(Option.some.inj (Tryz.func4.symm.trans hfn)).symm
   exact ⟨by kernel_rfl,fun j t ht=>by
    have hall:(Tryz.f4.params.toList.all fun u=>!Tryz.prog.wantsStandIn u)=true:=by kernel_rfl
    have hm:t∈Tryz.f4.params.toList:=by simpa using Array.mem_of_getElem? ht
    exact(show Tryz.prog.wantsStandIn t=false by simpa using List.all_eq_true.1 hall t hm)⟩)
  Zq10
end Go.Proofs.YthkbckkghnbonaaGreatDoor

