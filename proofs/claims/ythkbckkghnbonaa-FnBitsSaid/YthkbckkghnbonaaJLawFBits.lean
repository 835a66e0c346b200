/- Measured bits are distinct, and the number of gates is bounded by ExpandedGateCount: for every code. -/
import Derived.Test.YthkbckkghnbonaaJFBits1
import Derived.Test.YthkbckkghnbonaaJFBits10
import Derived.Test.YthkbckkghnbonaaJFBits14
import Derived.Test.YthkbckkghnbonaaJFBits15
set_option maxRecDepth 100000
set_option maxHeartbeats 16000000
set_option linter.unusedVariables false
namespace Go.Proofs.Ythkbckkghnbonaa
open Go.ChangeShapes Go.WideShapes Go.ChangeAt Go.RowKit
set_option linter.unusedVariables false
theorem belFB {w w1 w2:World} (f:Below w.heap.size w w1) (h:Below w1.heap.size w1 w2):Below w.heap.size w w2:=f.trans (h.mono f.size)
theorem belB {w w1 w2:World} (f:Below w.heap.size w w1) (h:Below w1.heap.size w1 w2):Below w.heap.size w w2:=f.trans (h.mono f.size)
theorem elaP_lenB (d:Nat) (qs:List ByteArray) (l:List (Tr d)):(elaP d qs l).l.length≤120:=by
 unfold elaP
 split
 ·unfold finR
  split
  ·exact Nat.zero_le _
  ·rename_i hn
   show(dA d l qs ⟨[],qs.length,false⟩).1.length≤120
   apply Classical.byContradiction
   intro hl
   refine hn (.inr (.inr ?_))
   unfold validRt
   rw[decide_eq_false hl]
   simp
 ·exact Nat.zero_le _
theorem bits_ne {T:List ByteArray} (hn:T.Nodup) {i j:Nat} {x y:ByteArray} (hy:T[j]?=some y) (hx:T[i]?=some x) (h:j<i):(y.toList==x.toList)=false:=by
 rw[Bool.eq_false_iff]
 intro he
 have he:eqSt y x=true:=he
 have e:=eqSt_eq he
 subst e
 have h1:=(List.getElem?_eq_some_iff.1 hy)
 have h2:=(List.getElem?_eq_some_iff.1 hx)
 obtain ⟨l1,e1⟩:=h1
 obtain ⟨l2,e2⟩:=h2
 have:=(List.nodup_iff_pairwise_ne.1 hn)
 have h3:=List.pairwise_iff_getElem.1 this j i l1 l2 h
 rw[e1,e2] at h3
 exact h3 rfl
theorem law_FBits (A:Option Addr) (n c:Nat) (bs:List (Fin 256)) (w0:World) (h:Rd w0 1 A n (bs.flatMap bcell)) (hl:bs.length=n) (hnc:n≤c) (hc:c≤maxLen) :
  Calls Try.prog 3 #[.slice A n c] w0 fun e w'=>e=.returned (.bool true)∧Below w0.heap.size w0 w':=by
 have hn0:n≤9223372036854775807:=by simp only[maxLen] at hc;omega
 have H:=hD h
 have HL:=hD hl
 clear h hl
 by_cases hbig:1048576<n
 ·have hB:decide (1048576<n)=true:=by simpa using hbig
  go_enter Try.func3,Try.ntmps3
  go_wp2_with (go_at_call 4;refine(big_law _ _ _ _ hn0).mono ?_;rintro e w' ⟨rfl,rfl⟩)
  go_ret
  exact ⟨rfl,Below.refl _ _⟩
 have hB:decide (1048576<n)=false:=by simpa using hbig
 go_enter Try.func3,Try.ntmps3
 go_wp2_with (go_at_call 4;refine(big_law _ _ _ _ hn0).mono ?_;rintro e w' ⟨rfl,rfl⟩)
 clear hB
 refine(DrawCheckProgram_any _ _ _ bs w0 H.out HL.out Zq1).mono ?_
 rintro e w1 ⟨Aq,cq,Q,Ab,nb,cb,l,rfl,hq,⟨hq4,hqc,hqm,hq9⟩,hr,⟨hbc,hbm,hz⟩,hb1⟩
 have hs1:=hb1.size
 have hq:=RdL.lower hq (Nat.zero_le _)
 have hr:=RdT.lower (Nat.zero_le _) hr
 have hzq:szS Q≤1048576:=by have:=szS9 Q hq9;omega
 obtain ⟨nq,hnq⟩:∃ nq,nq=Q.length:=⟨_,rfl⟩
 go_upto_region 4 with (fail)
 obtain ⟨w2,hw2⟩:∃ w2,w2=w1.alloc (.cells #[.slice Aq Q.length cq,.slice Ab nb cb] 27):=⟨_,rfl⟩
 rw[←hw2]
 obtain ⟨X,hX⟩:∃ X,X=w1.heap.size:=⟨_,rfl⟩
 have b2:Below w1.heap.size w1 w2:=by rw[hw2];exact Zq0
 have s2:X<w2.heap.size:=by rw[hw2,hX];simp
 have x2:w2.heap[X]?=some (.cells #[.slice Aq Q.length cq,.slice Ab nb cb] 27 (0,0)):=by rw[hw2,hX];exact boxed1_0 _ _
 rw[←hX]
 have HQ2:=hD (hq.below b2)
 have HR2:=hD (hr.below b2)
 have HB2:=hD (belFB hb1 b2)
 have HX2:=hD x2
 obtain ⟨R,hR⟩:∃ R,R=elaP 6 Q l:=⟨_,rfl⟩
 obtain ⟨T4,hT4⟩:∃ T4,T4=bitsT 6 l []:=⟨_,rfl⟩
 obtain ⟨E,hE⟩:∃ E,E=expT 6 l:=⟨_,rfl⟩
 obtain ⟨m,hm⟩:∃ m,m=T4.length:=⟨_,rfl⟩
 have HCS:=hD (fun W (ra:RdL W 0 1 Aq Q.length (strs Q)) (rb:RdT W 0 6 Ab nb l)=>Elaborate_spec 6 0 0 Aq cq Q l Ab nb cb W ra hqc rb Zq1 hzq Zq1)
 have HMI:=hD (fun W (rb:RdT W 0 6 Ab nb l)=>MeasuredBits_impl 6 0 Aq Q.length cq l Ab nb cb W rb Zq1)
 have HMS:=hD (fun W (rb:RdT W 0 6 Ab nb l)=>MeasuredBits_spec 6 0 Aq Q.length cq l Ab nb cb W rb Zq1)
 have HEI:=hD (fun W (rb:RdT W 0 6 Ab nb l)=>ExpandedGateCount_impl 6 0 Ab nb cb l W rb Zq1)
 have HES:=hD (fun W (rb:RdT W 0 6 Ab nb l)=>ExpandedGateCount_spec 6 0 Ab nb cb l W rb Zq1)
 have HCN:=hD (ela_counts (d:=6) (Q:=Q) (l:=l))
 have hTl:R.l.length≤120:=by rw[hR];exact elaP_lenB _ _ _
 have HND:=hD (show T4.Nodup by rw[hT4];exact bitsT_nodup 6 l [] List.nodup_nil)
 have hml:m≤400000:=by have:=bitsT_len 6 l [];rw[←hT4,←hm] at this;simp at this;omega
 have hEl:E≤1000000:=by rw[hE];exact expT_le 6 l
 have HLM:=hD hm.symm
 rw[←hT4] at HMI HMS HCN
 rw[←hE] at HEI HES HCN
 rw[←hR] at HCS HCN
 rw[←hm] at HCN
 obtain ⟨N,I,Bv,T,C⟩:=R
 have hTl:T.length≤120:=hTl
 have HCN:Hid (C=0→gcount T≤60∧gcount T≤E∧Bv=(m:Int)):=HCN
 have HMI:Hid (∀ W,RdT W 0 6 Ab nb l→Calls Try.prog 6 #[.agg #[.slice Aq Q.length cq,.slice Ab nb cb]] W (RetRow 9 1 W m (strs T4))):=by rw[hm];exact HMI
 have HMS:Hid (∀ W,RdT W 0 6 Ab nb l→Calls Try.prog 7 #[.agg #[.slice Aq Q.length cq,.slice Ab nb cb]] W (RetRow 9 1 W m (strs T4))):=by rw[hm];exact HMS
 rw[←hnq] at HQ2 HCS HMI HMS HX2 ⊢
 clear hw2 b2 x2 hq hr hb1 hX hR hT4 hE hm hz hzq hq9 hq4 hnq
 obtain ⟨k0,k1⟩:=cells2G (lay:=Below.refl _ _) HX2.out
 go_wp2_with fail
 refine(HMI.out w2 HR2.out).mono ?_
 rintro e w4 ⟨v4,rfl,o4,b4,s4⟩
 obtain ⟨A4,c4,rfl,_,_,r4⟩:=rd_of_own o4
 have HB24:=hD b4
 have HR4:=hD r4
 clear o4 b4 r4 k0 k1
 obtain ⟨k0,k1⟩:=cells2G (lay:=HB24.out) HX2.out
 have lX4:X<w4.heap.size:=by omega
 go_wp2_with fail
 refine(HMS.out w4 (HR2.out.below HB24.out)).mono ?_
 rintro e w6 ⟨v5,rfl,o5,b5,s5⟩
 obtain ⟨A5,c5,rfl,_,_,r5⟩:=rd_of_own o5
 have HB26:=hD (belFB HB24.out b5)
 have R4:=hD (HR4.out.below b5)
 have R5:=hD r5
 clear o5 b5 r5 k0 k1 HR4
 obtain ⟨k0,k1⟩:=cells2G (lay:=HB26.out) HX2.out
 have lX6:X<w6.heap.size:=by omega
 have HR6:=hD (HR2.out.below HB26.out)
 go_upto_region 6 with (fail)
 obtain ⟨J0,hJ0⟩:∃ J:Array Value→Array Bool→Act→World→Prop,J=(fun A0 Lz a W=>∃ (tok:Nat),∃ x18 x19 x20 x21 x22 x23 x24 x25 x26 x27 x28 x29 x30 x31:Value,a=⟨((((((((((((((A0.setIfInBounds 18 x18).setIfInBounds 19 x19).setIfInBounds 20 x20).setIfInBounds 21 x21).setIfInBounds 22 x22).setIfInBounds 23 x23).setIfInBounds 24 x24).setIfInBounds 25 x25).setIfInBounds 26 x26).setIfInBounds 27 x27).setIfInBounds 28 x28).setIfInBounds 29 x29).setIfInBounds 30 x30).setIfInBounds 31 x31),[]⟩∧(Ls Lz 0→x18=.slice A4 m c4)∧(Ls Lz 1→x19=.int .i64 (m:Int))∧(Ls Lz 2→x20=.slice A5 m c5)∧(Ls Lz 3→x21=.int .i64 (m:Int))∧(Ls Lz 4→x22=.bool false)∧(Ls Lz 5→x23=.bool false)∧(Ls Lz 6→x24=.pointer (some ⟨X,1,none⟩))∧(Ls Lz 7→x25=.slice Ab nb cb)∧(Ls Lz 8→x26=.int .i64 (E:Int))∧(Ls Lz 9→x27=.pointer (some ⟨X,1,none⟩))∧(Ls Lz 10→x28=.slice Ab nb cb)∧(Ls Lz 11→x29=.int .i64 (E:Int))∧(Ls Lz 12→x30=.bool false)∧(Ls Lz 13→(x31=.bool false∧Below w6.heap.size w6 W))∧(¬ Ls Lz 13→Below w6.heap.size w6 W)∧(Ls Lz 13→¬ Ls Lz 13→True)):=⟨_,rfl⟩
 have HJ0:=hD hJ0
 clear hJ0
 refine wp_region_inv2 Zq3 J0 ?_ ?_ ?_
 ·intro A0
  rw[HJ0.out]
  exact ⟨0,A0.getD 18 undef,A0.getD 19 undef,A0.getD 20 undef,A0.getD 21 undef,A0.getD 22 undef,A0.getD 23 undef,A0.getD 24 undef,A0.getD 25 undef,A0.getD 26 undef,A0.getD 27 undef,A0.getD 28 undef,A0.getD 29 undef,A0.getD 30 undef,A0.getD 31 undef,by simp only[set_self],zn,zn,zn,zn,zn,zn,zn,zn,zn,zn,zn,zn,zn,zn,fun _=>below_drewE (Below.refl _ _),zn⟩
 ·intro Lz a W hsize hcl hJ i hi
  have hil:=ready_lt hi
  have hnl:=ready_not hi
  have hnow:=ready_now hi hsize
  have HCL:=hD hcl
  rw[HJ0.out] at hJ
  obtain ⟨tok,x18,x19,x20,x21,x22,x23,x24,x25,x26,x27,x28,x29,x30,x31,rfl,HF⟩:=hJ
  have HH:=hD HF
  have hi2:i=0∨i=1∨i=2∨i=3∨i=4∨i=5∨i=6∨i=7∨i=8∨i=9∨i=10∨i=11∨i=12∨i=13:=by simp at hil;omega
  clear hil hcl HF
  rcases hi2 with rfl|rfl|rfl|rfl|rfl|rfl|rfl|rfl|rfl|rfl|rfl|rfl|rfl|rfl
  ·clear hi HCL
   simp only[zA,zB,zC]
   refine wpOp_one rfl rfl fun K hK=>?_
   go_wp2_with fail
   rw[HJ0.out]
   exact ⟨tok,.slice A4 m c4,x19,x20,x21,x22,x23,x24,x25,x26,x27,x28,x29,x30,x31,(by simp only[zA,zB,zC]),zT HH⟩
  ·have D0:=(pj0 HH.out) (rq hi 0)
   clear hi HCL
   simp only[zA,zB,zC,D0]
   refine wpOp_one rfl rfl fun K hK=>?_
   go_wp2_with fail
   rw[HJ0.out]
   exact ⟨tok,x18,.int .i64 (m:Int),x20,x21,x22,x23,x24,x25,x26,x27,x28,x29,x30,x31,(by simp only[zA,zB,zC,D0]),zT HH⟩
  ·clear hi HCL
   simp only[zA,zB,zC]
   refine wpOp_one rfl rfl fun K hK=>?_
   go_wp2_with fail
   rw[HJ0.out]
   exact ⟨tok,x18,x19,.slice A5 m c5,x21,x22,x23,x24,x25,x26,x27,x28,x29,x30,x31,(by simp only[zA,zB,zC]),zT HH⟩
  ·have D2:=(pj2 HH.out) (rq hi 2)
   clear hi HCL
   simp only[zA,zB,zC,D2]
   refine wpOp_one rfl rfl fun K hK=>?_
   go_wp2_with fail
   rw[HJ0.out]
   exact ⟨tok,x18,x19,x20,.int .i64 (m:Int),x22,x23,x24,x25,x26,x27,x28,x29,x30,x31,(by simp only[zA,zB,zC,D2]),zT HH⟩
  ·have D1:=(pj1 HH.out) (rq hi 1)
   have D3:=(pj3 HH.out) (rq hi 3)
   clear hi HCL
   simp only[zA,zB,zC,D1,D3]
   refine wpOp_one rfl rfl fun K hK=>?_
   go_wp2_with fail
   rw[HJ0.out]
   exact ⟨tok,x18,x19,x20,x21,.bool false,x23,x24,x25,x26,x27,x28,x29,x30,x31,(by simp only[zA,zB,zC,D1,D3]),zT HH⟩
  ·have D4:=(pj4 HH.out) (rq hi 4)
   clear hi HCL
   simp only[zA,zB,zC,D4]
   refine wpOp_one rfl rfl fun K hK=>?_
   go_wp2_with fail
   rw[HJ0.out]
   exact ⟨tok,x18,x19,x20,x21,x22,.bool false,x24,x25,x26,x27,x28,x29,x30,x31,(by simp only[zA,zB,zC,D4]),zT HH⟩
  ·have D5:=(pj5 HH.out) (rq hi 5)
   clear hi HCL
   simp only[zA,zB,zC,D5]
   refine wpOp_yes rfl (by rfl) ?_
   intro K hK
   go_wp2_with fail
   rw[HJ0.out]
   exact ⟨tok,x18,x19,x20,x21,x22,x23,.pointer (some ⟨X,1,none⟩),x25,x26,x27,x28,x29,x30,x31,(by simp only[zA,zB,zC,D5]),zT HH⟩
  ·have hns:¬ Ls Lz 13:=fun h=>hnl (dq HCL (dq HCL (dq HCL h 12) 8) 7)
   have D5:=(pj5 HH.out) (rq hi 5)
   have D6:=(pj6 HH.out) (rq hi 6)
   have V0:=(pj14 HH.out) hns
   clear hi HCL
   simp only[zA,zB,zC,D5,D6]
   have q0:=(V0.cell (p:=⟨X,1,none⟩) lX6).trans k1
   refine wpOp_yes rfl (by rfl) ?_
   intro K hK
   go_wp2_with fail
   rw[HJ0.out]
   exact ⟨tok,x18,x19,x20,x21,x22,x23,x24,.slice Ab nb cb,x26,x27,x28,x29,x30,x31,(by simp only[zA,zB,zC,D5,D6]),zT HH⟩
  ·have hns:¬ Ls Lz 13:=fun h=>hnl (dq HCL (dq HCL h 12) 8)
   have D5:=(pj5 HH.out) (rq hi 5)
   have D7:=(pj7 HH.out) (rq hi 7)
   have V0:=(pj14 HH.out) hns
   clear hi HCL
   simp only[zA,zB,zC,D5,D7]
   refine wpOp_yes rfl (by rfl) ?_
   intro K hK
   go_wp2_with fail
   refine(HEI.out W (HR6.out.below V0)).mono ?_
   rintro e y ⟨rfl,hb,hs⟩
   go_wp2_with fail
   rw[HJ0.out]
   exact ⟨tok,x18,x19,x20,x21,x22,x23,x24,x25,.int .i64 (E:Int),x27,x28,x29,x30,x31,(by simp only[zA,zB,zC,D5,D7]),zk HH,zk HH,zk HH,zk HH,zk HH,zk HH,zk HH,zk HH,fun _=>rfl,zk HH,zk HH,zk HH,zk HH,Ba hns,fun h=>belB ((pj14 HH.out) (fun h2=>h h2.fwd)) hb,Bb hns⟩
  ·have D5:=(pj5 HH.out) (rq hi 5)
   clear hi HCL
   simp only[zA,zB,zC,D5]
   refine wpOp_yes rfl (by rfl) ?_
   intro K hK
   go_wp2_with fail
   rw[HJ0.out]
   exact ⟨tok,x18,x19,x20,x21,x22,x23,x24,x25,x26,.pointer (some ⟨X,1,none⟩),x28,x29,x30,x31,(by simp only[zA,zB,zC,D5]),zT HH⟩
  ·have hns:¬ Ls Lz 13:=fun h=>hnl (dq HCL (dq HCL (dq HCL h 12) 11) 10)
   have D5:=(pj5 HH.out) (rq hi 5)
   have D9:=(pj9 HH.out) (rq hi 9)
   have V0:=(pj14 HH.out) hns
   clear hi HCL
   simp only[zA,zB,zC,D5,D9]
   have q0:=(V0.cell (p:=⟨X,1,none⟩) lX6).trans k1
   refine wpOp_yes rfl (by rfl) ?_
   intro K hK
   go_wp2_with fail
   rw[HJ0.out]
   exact ⟨tok,x18,x19,x20,x21,x22,x23,x24,x25,x26,x27,.slice Ab nb cb,x29,x30,x31,(by simp only[zA,zB,zC,D5,D9]),zT HH⟩
  ·have hns:¬ Ls Lz 13:=fun h=>hnl (dq HCL (dq HCL h 12) 11)
   have D5:=(pj5 HH.out) (rq hi 5)
   have D10:=(pj10 HH.out) (rq hi 10)
   have V0:=(pj14 HH.out) hns
   clear hi HCL
   simp only[zA,zB,zC,D5,D10]
   refine wpOp_yes rfl (by rfl) ?_
   intro K hK
   go_wp2_with fail
   refine(HES.out W (HR6.out.below V0)).mono ?_
   rintro e y ⟨rfl,hb,hs⟩
   go_wp2_with fail
   rw[HJ0.out]
   exact ⟨tok,x18,x19,x20,x21,x22,x23,x24,x25,x26,x27,x28,.int .i64 (E:Int),x30,x31,(by simp only[zA,zB,zC,D5,D10]),zk HH,zk HH,zk HH,zk HH,zk HH,zk HH,zk HH,zk HH,zk HH,zk HH,zk HH,fun _=>rfl,zk HH,Ba hns,fun h=>belB ((pj14 HH.out) (fun h2=>h h2.fwd)) hb,Bb hns⟩
  ·have D5:=(pj5 HH.out) (rq hi 5)
   have D8:=(pj8 HH.out) (rq hi 8)
   have D11:=(pj11 HH.out) (rq hi 11)
   clear hi HCL
   simp only[zA,zB,zC,D5,D8,D11]
   refine wpOp_yes rfl (by rfl) ?_
   intro K hK
   go_wp2_with fail
   rw[HJ0.out]
   exact ⟨tok,x18,x19,x20,x21,x22,x23,x24,x25,x26,x27,x28,x29,.bool false,x31,(by simp only[zA,zB,zC,D5,D8,D11]),zT HH⟩
  ·have hns:¬ Ls Lz 13:=hnl
   have D5:=(pj5 HH.out) (rq hi 5)
   have D12:=(pj12 HH.out) (rq hi 12)
   have V0:=(pj14 HH.out) hns
   clear hi HCL
   simp only[zA,zB,zC,D5,D12]
   refine wpOp_one rfl rfl fun K hK=>?_
   go_wp2_with fail
   rw[HJ0.out]
   exact ⟨tok,x18,x19,x20,x21,x22,x23,x24,x25,x26,x27,x28,x29,x30,.bool false,(by first|(simp only[zA,zB,zC,D5,D12] <;> fail)|simp only[Act.put,zA,zB,zC,D5,D12]),zk HH,zk HH,zk HH,zk HH,zk HH,zk HH,zk HH,zk HH,zk HH,zk HH,zk HH,zk HH,zk HH,fun _=>⟨rfl,V0⟩,zy hnow,zx hnow⟩
 ·intro Lz a W hsize hJ hr
  rw[HJ0.out] at hJ
  have hall:=all_listed hsize Zq3 hr
  obtain ⟨tok,x18,x19,x20,x21,x22,x23,x24,x25,x26,x27,x28,x29,x30,x31,rfl,HF⟩:=hJ
  have HH:=hD HF
  have HEND:=(pj13 HH.out) (hall 13 Zq4)
  clear HF HH hall hr hsize
  simp only[zA,zB,zC]
  obtain ⟨rfl,hb67⟩:=HEND
  obtain ⟨w7,rfl⟩:∃ w7:World,w7=W:=⟨_,rfl⟩
  have HB7:=hD (belFB HB26.out hb67)
  have Q4:=hD (R4.out.below hb67)
  have Q5:=hD (R5.out.below hb67)
  have hs7:=HB7.out.size
  clear hb67 k0 k1 R4 R5
  go_wp2_with fail
  go_loopw [6] (fun i wr=>∃ t:Nat,t≤m∧i=.int .i64 t∧Below w7.heap.size w7 wr) (fun i _=>m - (intOf i).toNat)
  case atStart=>exact ⟨0,Nat.zero_le _,rfl,Below.refl _ _⟩
  case round =>
   obtain ⟨t,ht,rfl,hbr⟩:=hrel
   have hbs:=hbr.size
   by_cases hlt:t<m
   ·obtain ⟨b4,o4,rfl,l4,hc4⟩:=Q4.out.2 Zq1
    obtain ⟨b5,o5,rfl,l5,hc5⟩:=Q5.out.2 Zq1
    have HC4:=hD hc4
    have HC5:=hD hc5
    clear hc4 hc5
    obtain ⟨x,hx⟩:∃ x,T4[t]?=some x:=⟨_,List.getElem?_eq_getElem (by rw[HLM.out];exact hlt)⟩
    have HX:=hD hx
    have HBR:=hD hbr
    have lb4:b4<wr.heap.size:=by omega
    have lb5:b5<wr.heap.size:=by omega
    have z4:=(hbr.cell (p:=⟨b4,o4+t,none⟩) l4).trans (HC4.out t _ (strs_at hx))
    have z5:=(hbr.cell (p:=⟨b5,o5+t,none⟩) l5).trans (HC5.out t _ (strs_at hx))
    have hee:(x.toList==x.toList)=true:=by simp
    obtain ⟨wo,rfl⟩:∃ wo:World,wo=wr:=⟨_,rfl⟩
    clear hx hbr
    go_upto_region 11 with (fail)
    go_quiet (fail)
    go_wp2_with fail
    go_loopw [7] (fun i wi=>∃ j:Nat,j≤t∧i=.int .i64 j∧Below wo.heap.size wo wi) (fun i _=>t - (intOf i).toNat)
    case atStart=>exact ⟨0,Nat.zero_le _,rfl,below_drewN (Below.refl _ _) _⟩
    case round =>
     obtain ⟨j,hj,rfl,hbi⟩:=hrel
     have hbs2:=hbi.size
     by_cases hlj:j<t
     ·obtain ⟨y,hy⟩:∃ y,T4[j]?=some y:=⟨_,List.getElem?_eq_getElem (by rw[HLM.out];omega)⟩
      have hne:(y.toList==x.toList)=false:=bits_ne HND.out hy HX.out hlj
      have v4:=(hbi.cell (p:=⟨b4,o4+t,none⟩) lb4).trans z4
      have vj:=((HBR.out.trans (hbi.mono HBR.out.size)).cell (p:=⟨b4,o4+j,none⟩) l4).trans (HC4.out j _ (strs_at hy))
      have HBI:=hD hbi
      clear hy hbi
      go_upto_region 16 with (fail)
      go_quiet (fail)
      go_wp2_with fail
      go_roundw
      case rel=>exact ⟨j+1,by omega,by go_num,below_drewN HBI.out _⟩
      case measure=>simp [intOf];omega
     ·obtain rfl:t=j:=by omega
      have HBI:=hD hbi
      clear hbi
      go_wp2_with fail
      go_roundw
      case rel=>exact ⟨t+1,by omega,by go_num,HBR.out.trans (HBI.out.mono hbs)⟩
      case measure=>simp [intOf];omega
   ·obtain rfl:m=t:=by omega
    have HB7r:=hD hbr
    clear hbr
    have HB8:=hD (belFB HB7.out HB7r.out)
    obtain ⟨k0,k1⟩:=cells2G (lay:=HB8.out) HX2.out
    have lX8:X<wr.heap.size:=by have:=HB8.out.size;omega
    go_wp2_with fail
    refine(HCS.out wr (HQ2.out.below HB8.out) (HR2.out.below HB8.out)).mono ?_
    rintro e w8 ⟨A9,c9,rfl,o9,b9⟩
    have s9:=b9.size
    clear k0 k1
    go_upto_region 19 with (fail)
    obtain ⟨w9,hw9⟩:∃ w9,w9=w8.alloc (.cells #[.int .i64 N,.int .i64 I,.int .i64 Bv,.slice A9 T.length c9] 33):=⟨_,rfl⟩
    rw[←hw9]
    obtain ⟨O,hO⟩:∃ O,O=w8.heap.size:=⟨_,rfl⟩
    rw[←hO]
    have b89:Below w8.heap.size w8 w9:=by rw[hw9];exact Zq0
    have HO9:=hD (show w9.heap[O]?=some (.cells #[.int .i64 N,.int .i64 I,.int .i64 Bv,.slice A9 T.length c9] 33 (0,0)) by rw[hw9,hO];exact boxed1_0 _ _)
    have HT9:=hD ((rd_own o9).below b89)
    have HB29:=hD (belFB HB8.out (belFB b9 b89))
    have HB9:=hD (belFB HB2.out HB29.out)
    have HR9:=hD (HR2.out.below HB29.out)
    have lO:=lt_of_block HO9.out
    have lX9:X<w9.heap.size:=by have:=HB29.out.size;omega
    have hs89:=b89.size
    clear hw9 hO b89 b9 o9
    obtain ⟨k0,k1⟩:=cells2G (lay:=HB29.out) HX2.out
    obtain ⟨u0,u1,u2,u3⟩:=boxcells4 (lay:=Below.refl _ _) HO9.out
    by_cases hC:C=0
    ·obtain ⟨g1,g2,g3⟩:=HCN.out hC
     subst hC
     subst g3
     have dg:decide ((gcount T:Int)≤7*(E:Int))=true:=decide_eq_true Zq1
     clear g1 g2 HCN
     obtain ⟨J0,hJ0⟩:∃ J:Array Value→Array Bool→Act→World→Prop,J=(fun A0 Lz a W=>∃ (tok:Nat),∃ x66 x67 x68 x69 x70 x71 x72 x73 x74 x75 x76 x77 x78 x79 x80 x81 x82 x83 x2:Value,a=⟨(((((((((((((((((((A0.setIfInBounds 66 x66).setIfInBounds 67 x67).setIfInBounds 68 x68).setIfInBounds 69 x69).setIfInBounds 70 x70).setIfInBounds 71 x71).setIfInBounds 72 x72).setIfInBounds 73 x73).setIfInBounds 74 x74).setIfInBounds 75 x75).setIfInBounds 76 x76).setIfInBounds 77 x77).setIfInBounds 78 x78).setIfInBounds 79 x79).setIfInBounds 80 x80).setIfInBounds 81 x81).setIfInBounds 82 x82).setIfInBounds 83 x83).setIfInBounds 2 x2),[]⟩∧(Ls Lz 0→x66=.int .i64 0)∧(Ls Lz 1→x67=.bool false)∧(Ls Lz 2→x68=.bool false)∧(Ls Lz 3→x69=.agg #[.int .i64 N,.int .i64 I,.int .i64 (m:Int),.slice A9 T.length c9])∧(Ls Lz 4→x70=.int .i64 (gcount T:Int))∧(Ls Lz 5→x71=.pointer (some ⟨X,1,none⟩))∧(Ls Lz 6→x72=.slice Ab nb cb)∧(Ls Lz 7→x73=.int .i64 (E:Int))∧(Ls Lz 8→x74=.int .i64 (7*(E:Int)))∧(Ls Lz 9→x75=.bool true)∧(Ls Lz 10→x76=.bool true)∧(Ls Lz 11→x77=.pointer (some ⟨O,2,none⟩))∧(Ls Lz 12→x78=.int .i64 (m:Int))∧(Ls Lz 13→x79=.slice A4 m c4)∧(Ls Lz 14→x80=.int .i64 (m:Int))∧(Ls Lz 15→x81=.bool true)∧(Ls Lz 16→x82=.bool true)∧(Ls Lz 17→x83=.bool true)∧(Ls Lz 18→(x2=.bool true∧Below w9.heap.size w9 W))∧(¬ Ls Lz 18→Below w9.heap.size w9 W)∧(Ls Lz 18→¬ Ls Lz 18→True)):=⟨_,rfl⟩
     have HJ0:=hD hJ0
     clear hJ0
     refine wp_region_inv2 Zq3 J0 ?_ ?_ ?_
     ·intro A0
      rw[HJ0.out]
      exact ⟨0,A0.getD 66 undef,A0.getD 67 undef,A0.getD 68 undef,A0.getD 69 undef,A0.getD 70 undef,A0.getD 71 undef,A0.getD 72 undef,A0.getD 73 undef,A0.getD 74 undef,A0.getD 75 undef,A0.getD 76 undef,A0.getD 77 undef,A0.getD 78 undef,A0.getD 79 undef,A0.getD 80 undef,A0.getD 81 undef,A0.getD 82 undef,A0.getD 83 undef,A0.getD 2 undef,by simp only[set_self],zn,zn,zn,zn,zn,zn,zn,zn,zn,zn,zn,zn,zn,zn,zn,zn,zn,zn,zn,fun _=>below_drewE (Below.refl _ _),zn⟩
     ·intro Lz a W hsize hcl hJ i hi
      have hil:=ready_lt hi
      have hnl:=ready_not hi
      have hnow:=ready_now hi hsize
      have HCL:=hD hcl
      rw[HJ0.out] at hJ
      obtain ⟨tok,x66,x67,x68,x69,x70,x71,x72,x73,x74,x75,x76,x77,x78,x79,x80,x81,x82,x83,x2,rfl,HF⟩:=hJ
      have HH:=hD HF
      have hi2:i=0∨i=1∨i=2∨i=3∨i=4∨i=5∨i=6∨i=7∨i=8∨i=9∨i=10∨i=11∨i=12∨i=13∨i=14∨i=15∨i=16∨i=17∨i=18:=by simp at hil;omega
      clear hil hcl HF
      rcases hi2 with rfl|rfl|rfl|rfl|rfl|rfl|rfl|rfl|rfl|rfl|rfl|rfl|rfl|rfl|rfl|rfl|rfl|rfl|rfl
      ·clear hi HCL
       simp only[zA,zB,zC]
       refine wpOp_one rfl rfl fun K hK=>?_
       go_wp2_with fail
       rw[HJ0.out]
       exact ⟨tok,.int .i64 0,x67,x68,x69,x70,x71,x72,x73,x74,x75,x76,x77,x78,x79,x80,x81,x82,x83,x2,(by simp only[zA,zB,zC]),zT HH⟩
      ·have D0:=(pj0 HH.out) (rq hi 0)
       clear hi HCL
       simp only[zA,zB,zC,D0]
       refine wpOp_one rfl rfl fun K hK=>?_
       go_wp2_with fail
       rw[HJ0.out]
       exact ⟨tok,x66,.bool false,x68,x69,x70,x71,x72,x73,x74,x75,x76,x77,x78,x79,x80,x81,x82,x83,x2,(by simp only[zA,zB,zC,D0]),zT HH⟩
      ·have D1:=(pj1 HH.out) (rq hi 1)
       clear hi HCL
       simp only[zA,zB,zC,D1]
       refine wpOp_one rfl rfl fun K hK=>?_
       go_wp2_with fail
       rw[HJ0.out]
       exact ⟨tok,x66,x67,.bool false,x69,x70,x71,x72,x73,x74,x75,x76,x77,x78,x79,x80,x81,x82,x83,x2,(by simp only[zA,zB,zC,D1]),zT HH⟩
      ·have hns:¬ Ls Lz 18:=fun h=>hnl (dq HCL (dq HCL (dq HCL (dq HCL (dq HCL (dq HCL h 17) 16) 10) 9) 4) 3)
       have D2:=(pj2 HH.out) (rq hi 2)
       have V0:=(pj19 HH.out) hns
       clear hi HCL
       simp only[zA,zB,zC,D2]
       have q0:=(V0.cell (p:=⟨O,0,none⟩) lO).trans u0
       have q1:=(V0.cell (p:=⟨O,1,none⟩) lO).trans u1
       have q2:=(V0.cell (p:=⟨O,2,none⟩) lO).trans u2
       have q3:=(V0.cell (p:=⟨O,3,none⟩) lO).trans u3
       refine wpOp_yes rfl (by rfl) ?_
       intro K hK
       go_wp2_with fail
       rw[HJ0.out]
       exact ⟨tok,x66,x67,x68,.agg #[.int .i64 N,.int .i64 I,.int .i64 (m:Int),.slice A9 T.length c9],x70,x71,x72,x73,x74,x75,x76,x77,x78,x79,x80,x81,x82,x83,x2,(by simp only[zA,zB,zC,D2]),zT HH⟩
      ·have hns:¬ Ls Lz 18:=fun h=>hnl (dq HCL (dq HCL (dq HCL (dq HCL (dq HCL h 17) 16) 10) 9) 4)
       have D2:=(pj2 HH.out) (rq hi 2)
       have D3:=(pj3 HH.out) (rq hi 3)
       have V0:=(pj19 HH.out) hns
       clear hi HCL
       simp only[zA,zB,zC,D2,D3]
       refine wpOp_yes rfl (by rfl) ?_
       intro K hK
       go_wp2_with fail
       refine(RoutineGateCount_spec N I (m:Int) A9 T.length c9 T W (HT9.out.below V0) rfl Zq1).mono ?_
       rintro e y ⟨rfl,hb,hs⟩
       go_wp2_with fail
       rw[HJ0.out]
       exact ⟨tok,x66,x67,x68,x69,.int .i64 (gcount T:Int),x71,x72,x73,x74,x75,x76,x77,x78,x79,x80,x81,x82,x83,x2,(by simp only[zA,zB,zC,D2,D3]),zk HH,zk HH,zk HH,zk HH,fun _=>rfl,zk HH,zk HH,zk HH,zk HH,zk HH,zk HH,zk HH,zk HH,zk HH,zk HH,zk HH,zk HH,zk HH,Ba hns,fun h=>belB ((pj19 HH.out) (fun h2=>h h2.fwd)) hb,Bb hns⟩
      ·have D2:=(pj2 HH.out) (rq hi 2)
       clear hi HCL
       simp only[zA,zB,zC,D2]
       refine wpOp_yes rfl (by rfl) ?_
       intro K hK
       go_wp2_with fail
       rw[HJ0.out]
       exact ⟨tok,x66,x67,x68,x69,x70,.pointer (some ⟨X,1,none⟩),x72,x73,x74,x75,x76,x77,x78,x79,x80,x81,x82,x83,x2,(by simp only[zA,zB,zC,D2]),zT HH⟩
      ·have hns:¬ Ls Lz 18:=fun h=>hnl (dq HCL (dq HCL (dq HCL (dq HCL (dq HCL (dq HCL (dq HCL h 17) 16) 10) 9) 8) 7) 6)
       have D2:=(pj2 HH.out) (rq hi 2)
       have D5:=(pj5 HH.out) (rq hi 5)
       have V0:=(pj19 HH.out) hns
       clear hi HCL
       simp only[zA,zB,zC,D2,D5]
       have q0:=(V0.cell (p:=⟨X,1,none⟩) lX9).trans k1
       refine wpOp_yes rfl (by rfl) ?_
       intro K hK
       go_wp2_with fail
       rw[HJ0.out]
       exact ⟨tok,x66,x67,x68,x69,x70,x71,.slice Ab nb cb,x73,x74,x75,x76,x77,x78,x79,x80,x81,x82,x83,x2,(by simp only[zA,zB,zC,D2,D5]),zT HH⟩
      ·have hns:¬ Ls Lz 18:=fun h=>hnl (dq HCL (dq HCL (dq HCL (dq HCL (dq HCL (dq HCL h 17) 16) 10) 9) 8) 7)
       have D2:=(pj2 HH.out) (rq hi 2)
       have D6:=(pj6 HH.out) (rq hi 6)
       have V0:=(pj19 HH.out) hns
       clear hi HCL
       simp only[zA,zB,zC,D2,D6]
       refine wpOp_yes rfl (by rfl) ?_
       intro K hK
       go_wp2_with fail
       refine(HEI.out W (HR9.out.below V0)).mono ?_
       rintro e y ⟨rfl,hb,hs⟩
       go_wp2_with fail
       rw[HJ0.out]
       exact ⟨tok,x66,x67,x68,x69,x70,x71,x72,.int .i64 (E:Int),x74,x75,x76,x77,x78,x79,x80,x81,x82,x83,x2,(by simp only[zA,zB,zC,D2,D6]),zk HH,zk HH,zk HH,zk HH,zk HH,zk HH,zk HH,fun _=>rfl,zk HH,zk HH,zk HH,zk HH,zk HH,zk HH,zk HH,zk HH,zk HH,zk HH,Ba hns,fun h=>belB ((pj19 HH.out) (fun h2=>h h2.fwd)) hb,Bb hns⟩
      ·have D2:=(pj2 HH.out) (rq hi 2)
       have D7:=(pj7 HH.out) (rq hi 7)
       clear hi HCL
       simp only[zA,zB,zC,D2,D7]
       refine wpOp_yes rfl (by rfl) ?_
       intro K hK
       go_wp2_with fail
       rw[HJ0.out]
       exact ⟨tok,x66,x67,x68,x69,x70,x71,x72,x73,.int .i64 (7*(E:Int)),x75,x76,x77,x78,x79,x80,x81,x82,x83,x2,(by simp only[zA,zB,zC,D2,D7]),zT HH⟩
      ·have D2:=(pj2 HH.out) (rq hi 2)
       have D4:=(pj4 HH.out) (rq hi 4)
       have D8:=(pj8 HH.out) (rq hi 8)
       clear hi HCL
       simp only[zA,zB,zC,D2,D4,D8]
       refine wpOp_yes rfl (by rfl) ?_
       intro K hK
       go_wp2_with fail
       rw[HJ0.out]
       exact ⟨tok,x66,x67,x68,x69,x70,x71,x72,x73,x74,.bool true,x76,x77,x78,x79,x80,x81,x82,x83,x2,(by simp only[zA,zB,zC,D2,D4,D8]),zT HH⟩
      ·have D2:=(pj2 HH.out) (rq hi 2)
       have D9:=(pj9 HH.out) (rq hi 9)
       clear hi HCL
       simp only[zA,zB,zC,D2,D9]
       refine wpOp_yes rfl (by rfl) ?_
       intro K hK
       go_wp2_with fail
       rw[HJ0.out]
       exact ⟨tok,x66,x67,x68,x69,x70,x71,x72,x73,x74,x75,.bool true,x77,x78,x79,x80,x81,x82,x83,x2,(by simp only[zA,zB,zC,D2,D9]),zT HH⟩
      ·have D10:=(pj10 HH.out) (rq hi 10)
       clear hi HCL
       simp only[zA,zB,zC,D10]
       refine wpOp_yes rfl (by rfl) ?_
       intro K hK
       go_wp2_with fail
       rw[HJ0.out]
       exact ⟨tok,x66,x67,x68,x69,x70,x71,x72,x73,x74,x75,x76,.pointer (some ⟨O,2,none⟩),x78,x79,x80,x81,x82,x83,x2,(by simp only[zA,zB,zC,D10]),zT HH⟩
      ·have hns:¬ Ls Lz 18:=fun h=>hnl (dq HCL (dq HCL (dq HCL (dq HCL h 17) 16) 15) 12)
       have D10:=(pj10 HH.out) (rq hi 10)
       have D11:=(pj11 HH.out) (rq hi 11)
       have V0:=(pj19 HH.out) hns
       clear hi HCL
       simp only[zA,zB,zC,D10,D11]
       have q0:=(V0.cell (p:=⟨O,2,none⟩) lO).trans u2
       refine wpOp_yes rfl (by rfl) ?_
       intro K hK
       go_wp2_with fail
       rw[HJ0.out]
       exact ⟨tok,x66,x67,x68,x69,x70,x71,x72,x73,x74,x75,x76,x77,.int .i64 (m:Int),x79,x80,x81,x82,x83,x2,(by simp only[zA,zB,zC,D10,D11]),zT HH⟩
      ·have D10:=(pj10 HH.out) (rq hi 10)
       clear hi HCL
       simp only[zA,zB,zC,D10]
       refine wpOp_yes rfl (by rfl) ?_
       intro K hK
       go_wp2_with fail
       rw[HJ0.out]
       exact ⟨tok,x66,x67,x68,x69,x70,x71,x72,x73,x74,x75,x76,x77,x78,.slice A4 m c4,x80,x81,x82,x83,x2,(by simp only[zA,zB,zC,D10]),zT HH⟩
      ·have D10:=(pj10 HH.out) (rq hi 10)
       have D13:=(pj13 HH.out) (rq hi 13)
       clear hi HCL
       simp only[zA,zB,zC,D10,D13]
       refine wpOp_yes rfl (by rfl) ?_
       intro K hK
       go_wp2_with fail
       rw[HJ0.out]
       exact ⟨tok,x66,x67,x68,x69,x70,x71,x72,x73,x74,x75,x76,x77,x78,x79,.int .i64 (m:Int),x81,x82,x83,x2,(by simp only[zA,zB,zC,D10,D13]),zT HH⟩
      ·have D10:=(pj10 HH.out) (rq hi 10)
       have D12:=(pj12 HH.out) (rq hi 12)
       have D14:=(pj14 HH.out) (rq hi 14)
       clear hi HCL
       simp only[zA,zB,zC,D10,D12,D14]
       refine wpOp_yes rfl (by rfl) ?_
       intro K hK
       go_wp2_with fail
       rw[HJ0.out]
       exact ⟨tok,x66,x67,x68,x69,x70,x71,x72,x73,x74,x75,x76,x77,x78,x79,x80,.bool true,x82,x83,x2,(by simp only[zA,zB,zC,D10,D12,D14]),zT HH⟩
      ·have D2:=(pj2 HH.out) (rq hi 2)
       have D10:=(pj10 HH.out) (rq hi 10)
       have D15:=(pj15 HH.out) (rq hi 15)
       clear hi HCL
       simp only[zA,zB,zC,D2,D10,D15]
       refine wpOp_yes rfl (by rfl) ?_
       intro K hK
       go_wp2_with fail
       rw[HJ0.out]
       exact ⟨tok,x66,x67,x68,x69,x70,x71,x72,x73,x74,x75,x76,x77,x78,x79,x80,x81,.bool true,x83,x2,(by simp only[zA,zB,zC,D2,D10,D15]),zT HH⟩
      ·have D2:=(pj2 HH.out) (rq hi 2)
       have D16:=(pj16 HH.out) (rq hi 16)
       clear hi HCL
       simp only[zA,zB,zC,D2,D16]
       refine wpOp_one rfl rfl fun K hK=>?_
       go_wp2_with fail
       rw[HJ0.out]
       exact ⟨tok,x66,x67,x68,x69,x70,x71,x72,x73,x74,x75,x76,x77,x78,x79,x80,x81,x82,.bool true,x2,(by simp only[zA,zB,zC,D2,D16]),zT HH⟩
      ·have hns:¬ Ls Lz 18:=hnl
       have D17:=(pj17 HH.out) (rq hi 17)
       have V0:=(pj19 HH.out) hns
       clear hi HCL
       simp only[zA,zB,zC,D17]
       refine wpOp_one rfl rfl fun K hK=>?_
       go_wp2_with fail
       rw[HJ0.out]
       exact ⟨tok,x66,x67,x68,x69,x70,x71,x72,x73,x74,x75,x76,x77,x78,x79,x80,x81,x82,x83,.bool true,(by first|(simp only[zA,zB,zC,D17] <;> fail)|simp only[Act.put,zA,zB,zC,D17]),zk HH,zk HH,zk HH,zk HH,zk HH,zk HH,zk HH,zk HH,zk HH,zk HH,zk HH,zk HH,zk HH,zk HH,zk HH,zk HH,zk HH,zk HH,fun _=>⟨rfl,V0⟩,zy hnow,zx hnow⟩
     ·intro Lz a W hsize hJ hr
      rw[HJ0.out] at hJ
      have hall:=all_listed hsize Zq3 hr
      obtain ⟨tok,x66,x67,x68,x69,x70,x71,x72,x73,x74,x75,x76,x77,x78,x79,x80,x81,x82,x83,x2,rfl,HF⟩:=hJ
      have HH:=hD HF
      have HEND:=(pj18 HH.out) (hall 18 Zq4)
      clear HF HH hall hr hsize
      simp only[zA,zB,zC]
      obtain ⟨rfl,hbF⟩:=HEND
      have HBF:=hD hbF
      clear hbF
      go_wp2_with fail
      go_ret
      exact ⟨rfl,belFB HB9.out HBF.out⟩
    ·have dC:(C==0)=false:=beq_eq_false_iff_ne.2 hC
     have dn:(C != 0)=true:=by simp [bne,dC]
     clear hC HCN
     obtain ⟨J0,hJ0⟩:∃ J:Array Value→Array Bool→Act→World→Prop,J=(fun A0 Lz a W=>∃ (tok:Nat),∃ x66 x67 x68 x69 x70 x71 x72 x73 x74 x75 x76 x77 x78 x79 x80 x81 x82 x83 x2:Value,a=⟨(((((((((((((((((((A0.setIfInBounds 66 x66).setIfInBounds 67 x67).setIfInBounds 68 x68).setIfInBounds 69 x69).setIfInBounds 70 x70).setIfInBounds 71 x71).setIfInBounds 72 x72).setIfInBounds 73 x73).setIfInBounds 74 x74).setIfInBounds 75 x75).setIfInBounds 76 x76).setIfInBounds 77 x77).setIfInBounds 78 x78).setIfInBounds 79 x79).setIfInBounds 80 x80).setIfInBounds 81 x81).setIfInBounds 82 x82).setIfInBounds 83 x83).setIfInBounds 2 x2),[]⟩∧(Ls Lz 0→x66=.int .i64 C)∧(Ls Lz 1→x67=.bool true)∧(Ls Lz 2→x68=.bool true)∧(Ls Lz 3→x69=undef)∧(Ls Lz 4→x70=undef)∧(Ls Lz 5→x71=undef)∧(Ls Lz 6→x72=undef)∧(Ls Lz 7→x73=undef)∧(Ls Lz 8→x74=undef)∧(Ls Lz 9→x75=undef)∧(Ls Lz 10→x76=undef)∧(Ls Lz 11→x77=undef)∧(Ls Lz 12→x78=undef)∧(Ls Lz 13→x79=undef)∧(Ls Lz 14→x80=undef)∧(Ls Lz 15→x81=undef)∧(Ls Lz 16→x82=undef)∧(Ls Lz 17→x83=.bool true)∧(Ls Lz 18→(x2=.bool true∧Below w9.heap.size w9 W))∧(¬ Ls Lz 18→Below w9.heap.size w9 W)∧(Ls Lz 18→¬ Ls Lz 18→True)):=⟨_,rfl⟩
     have HJ0:=hD hJ0
     clear hJ0
     refine wp_region_inv2 Zq3 J0 ?_ ?_ ?_
     ·intro A0
      rw[HJ0.out]
      exact ⟨0,A0.getD 66 undef,A0.getD 67 undef,A0.getD 68 undef,A0.getD 69 undef,A0.getD 70 undef,A0.getD 71 undef,A0.getD 72 undef,A0.getD 73 undef,A0.getD 74 undef,A0.getD 75 undef,A0.getD 76 undef,A0.getD 77 undef,A0.getD 78 undef,A0.getD 79 undef,A0.getD 80 undef,A0.getD 81 undef,A0.getD 82 undef,A0.getD 83 undef,A0.getD 2 undef,by simp only[set_self],zn,zn,zn,zn,zn,zn,zn,zn,zn,zn,zn,zn,zn,zn,zn,zn,zn,zn,zn,fun _=>below_drewE (Below.refl _ _),zn⟩
     ·intro Lz a W hsize hcl hJ i hi
      have hil:=ready_lt hi
      have hnl:=ready_not hi
      have hnow:=ready_now hi hsize
      have HCL:=hD hcl
      rw[HJ0.out] at hJ
      obtain ⟨tok,x66,x67,x68,x69,x70,x71,x72,x73,x74,x75,x76,x77,x78,x79,x80,x81,x82,x83,x2,rfl,HF⟩:=hJ
      have HH:=hD HF
      have hi2:i=0∨i=1∨i=2∨i=3∨i=4∨i=5∨i=6∨i=7∨i=8∨i=9∨i=10∨i=11∨i=12∨i=13∨i=14∨i=15∨i=16∨i=17∨i=18:=by simp at hil;omega
      clear hil hcl HF
      rcases hi2 with rfl|rfl|rfl|rfl|rfl|rfl|rfl|rfl|rfl|rfl|rfl|rfl|rfl|rfl|rfl|rfl|rfl|rfl|rfl
      ·clear hi HCL
       simp only[zA,zB,zC]
       refine wpOp_one rfl rfl fun K hK=>?_
       go_wp2_with fail
       rw[HJ0.out]
       exact ⟨tok,.int .i64 C,x67,x68,x69,x70,x71,x72,x73,x74,x75,x76,x77,x78,x79,x80,x81,x82,x83,x2,(by simp only[zA,zB,zC]),zT HH⟩
      ·have D0:=(pj0 HH.out) (rq hi 0)
       clear hi HCL
       simp only[zA,zB,zC,D0]
       refine wpOp_one rfl rfl fun K hK=>?_
       go_wp2_with fail
       rw[HJ0.out]
       exact ⟨tok,x66,.bool true,x68,x69,x70,x71,x72,x73,x74,x75,x76,x77,x78,x79,x80,x81,x82,x83,x2,(by simp only[zA,zB,zC,D0]),zT HH⟩
      ·have D1:=(pj1 HH.out) (rq hi 1)
       clear hi HCL
       simp only[zA,zB,zC,D1]
       refine wpOp_one rfl rfl fun K hK=>?_
       go_wp2_with fail
       rw[HJ0.out]
       exact ⟨tok,x66,x67,.bool true,x69,x70,x71,x72,x73,x74,x75,x76,x77,x78,x79,x80,x81,x82,x83,x2,(by simp only[zA,zB,zC,D1]),zT HH⟩
      ·have D2:=(pj2 HH.out) (rq hi 2)
       clear hi HCL
       simp only[zA,zB,zC,D2]
       refine wpOp_off 69 rfl rfl (by rfl) ?_
       simp only[zA,zB,zC]
       rw[HJ0.out]
       exact ⟨tok,x66,x67,x68,undef,x70,x71,x72,x73,x74,x75,x76,x77,x78,x79,x80,x81,x82,x83,x2,(by simp only[zA,zB,zC,D2]),zT HH⟩
      ·have D2:=(pj2 HH.out) (rq hi 2)
       clear hi HCL
       simp only[zA,zB,zC,D2]
       refine wpOp_off 70 rfl rfl (by rfl) ?_
       simp only[zA,zB,zC]
       rw[HJ0.out]
       exact ⟨tok,x66,x67,x68,x69,undef,x71,x72,x73,x74,x75,x76,x77,x78,x79,x80,x81,x82,x83,x2,(by simp only[zA,zB,zC,D2]),zT HH⟩
      ·have D2:=(pj2 HH.out) (rq hi 2)
       clear hi HCL
       simp only[zA,zB,zC,D2]
       refine wpOp_off 71 rfl rfl (by rfl) ?_
       simp only[zA,zB,zC]
       rw[HJ0.out]
       exact ⟨tok,x66,x67,x68,x69,x70,undef,x72,x73,x74,x75,x76,x77,x78,x79,x80,x81,x82,x83,x2,(by simp only[zA,zB,zC,D2]),zT HH⟩
      ·have D2:=(pj2 HH.out) (rq hi 2)
       clear hi HCL
       simp only[zA,zB,zC,D2]
       refine wpOp_off 72 rfl rfl (by rfl) ?_
       simp only[zA,zB,zC]
       rw[HJ0.out]
       exact ⟨tok,x66,x67,x68,x69,x70,x71,undef,x73,x74,x75,x76,x77,x78,x79,x80,x81,x82,x83,x2,(by simp only[zA,zB,zC,D2]),zT HH⟩
      ·have D2:=(pj2 HH.out) (rq hi 2)
       clear hi HCL
       simp only[zA,zB,zC,D2]
       refine wpOp_off 73 rfl rfl (by rfl) ?_
       simp only[zA,zB,zC]
       rw[HJ0.out]
       exact ⟨tok,x66,x67,x68,x69,x70,x71,x72,undef,x74,x75,x76,x77,x78,x79,x80,x81,x82,x83,x2,(by simp only[zA,zB,zC,D2]),zT HH⟩
      ·have D2:=(pj2 HH.out) (rq hi 2)
       clear hi HCL
       simp only[zA,zB,zC,D2]
       refine wpOp_off 74 rfl rfl (by rfl) ?_
       simp only[zA,zB,zC]
       rw[HJ0.out]
       exact ⟨tok,x66,x67,x68,x69,x70,x71,x72,x73,undef,x75,x76,x77,x78,x79,x80,x81,x82,x83,x2,(by simp only[zA,zB,zC,D2]),zT HH⟩
      ·have D2:=(pj2 HH.out) (rq hi 2)
       clear hi HCL
       simp only[zA,zB,zC,D2]
       refine wpOp_off 75 rfl rfl (by rfl) ?_
       simp only[zA,zB,zC]
       rw[HJ0.out]
       exact ⟨tok,x66,x67,x68,x69,x70,x71,x72,x73,x74,undef,x76,x77,x78,x79,x80,x81,x82,x83,x2,(by simp only[zA,zB,zC,D2]),zT HH⟩
      ·have D2:=(pj2 HH.out) (rq hi 2)
       clear hi HCL
       simp only[zA,zB,zC,D2]
       refine wpOp_off 76 rfl rfl (by rfl) ?_
       simp only[zA,zB,zC]
       rw[HJ0.out]
       exact ⟨tok,x66,x67,x68,x69,x70,x71,x72,x73,x74,x75,undef,x77,x78,x79,x80,x81,x82,x83,x2,(by simp only[zA,zB,zC,D2]),zT HH⟩
      ·have D10:=(pj10 HH.out) (rq hi 10)
       clear hi HCL
       simp only[zA,zB,zC,D10]
       refine wpOp_off 77 rfl rfl (by rfl) ?_
       simp only[zA,zB,zC]
       rw[HJ0.out]
       exact ⟨tok,x66,x67,x68,x69,x70,x71,x72,x73,x74,x75,x76,undef,x78,x79,x80,x81,x82,x83,x2,(by simp only[zA,zB,zC,D10]),zT HH⟩
      ·have D10:=(pj10 HH.out) (rq hi 10)
       clear hi HCL
       simp only[zA,zB,zC,D10]
       refine wpOp_off 78 rfl rfl (by rfl) ?_
       simp only[zA,zB,zC]
       rw[HJ0.out]
       exact ⟨tok,x66,x67,x68,x69,x70,x71,x72,x73,x74,x75,x76,x77,undef,x79,x80,x81,x82,x83,x2,(by simp only[zA,zB,zC,D10]),zT HH⟩
      ·have D10:=(pj10 HH.out) (rq hi 10)
       clear hi HCL
       simp only[zA,zB,zC,D10]
       refine wpOp_off 79 rfl rfl (by rfl) ?_
       simp only[zA,zB,zC]
       rw[HJ0.out]
       exact ⟨tok,x66,x67,x68,x69,x70,x71,x72,x73,x74,x75,x76,x77,x78,undef,x80,x81,x82,x83,x2,(by simp only[zA,zB,zC,D10]),zT HH⟩
      ·have D10:=(pj10 HH.out) (rq hi 10)
       clear hi HCL
       simp only[zA,zB,zC,D10]
       refine wpOp_off 80 rfl rfl (by rfl) ?_
       simp only[zA,zB,zC]
       rw[HJ0.out]
       exact ⟨tok,x66,x67,x68,x69,x70,x71,x72,x73,x74,x75,x76,x77,x78,x79,undef,x81,x82,x83,x2,(by simp only[zA,zB,zC,D10]),zT HH⟩
      ·have D10:=(pj10 HH.out) (rq hi 10)
       clear hi HCL
       simp only[zA,zB,zC,D10]
       refine wpOp_off 81 rfl rfl (by rfl) ?_
       simp only[zA,zB,zC]
       rw[HJ0.out]
       exact ⟨tok,x66,x67,x68,x69,x70,x71,x72,x73,x74,x75,x76,x77,x78,x79,x80,undef,x82,x83,x2,(by simp only[zA,zB,zC,D10]),zT HH⟩
      ·have D2:=(pj2 HH.out) (rq hi 2)
       clear hi HCL
       simp only[zA,zB,zC,D2]
       refine wpOp_off 82 rfl rfl (by rfl) ?_
       simp only[zA,zB,zC]
       rw[HJ0.out]
       exact ⟨tok,x66,x67,x68,x69,x70,x71,x72,x73,x74,x75,x76,x77,x78,x79,x80,x81,undef,x83,x2,(by simp only[zA,zB,zC,D2]),zT HH⟩
      ·have D2:=(pj2 HH.out) (rq hi 2)
       clear hi HCL
       simp only[zA,zB,zC,D2]
       refine wpOp_one rfl rfl fun K hK=>?_
       go_wp2_with fail
       rw[HJ0.out]
       exact ⟨tok,x66,x67,x68,x69,x70,x71,x72,x73,x74,x75,x76,x77,x78,x79,x80,x81,x82,.bool true,x2,(by simp only[zA,zB,zC,D2]),zT HH⟩
      ·have hns:¬ Ls Lz 18:=hnl
       have D17:=(pj17 HH.out) (rq hi 17)
       have V0:=(pj19 HH.out) hns
       clear hi HCL
       simp only[zA,zB,zC,D17]
       refine wpOp_one rfl rfl fun K hK=>?_
       go_wp2_with fail
       rw[HJ0.out]
       exact ⟨tok,x66,x67,x68,x69,x70,x71,x72,x73,x74,x75,x76,x77,x78,x79,x80,x81,x82,x83,.bool true,(by first|(simp only[zA,zB,zC,D17] <;> fail)|simp only[Act.put,zA,zB,zC,D17]),zk HH,zk HH,zk HH,zk HH,zk HH,zk HH,zk HH,zk HH,zk HH,zk HH,zk HH,zk HH,zk HH,zk HH,zk HH,zk HH,zk HH,zk HH,fun _=>⟨rfl,V0⟩,zy hnow,zx hnow⟩
     ·intro Lz a W hsize hJ hr
      rw[HJ0.out] at hJ
      have hall:=all_listed hsize Zq3 hr
      obtain ⟨tok,x66,x67,x68,x69,x70,x71,x72,x73,x74,x75,x76,x77,x78,x79,x80,x81,x82,x83,x2,rfl,HF⟩:=hJ
      have HH:=hD HF
      have HEND:=(pj18 HH.out) (hall 18 Zq4)
      clear HF HH hall hr hsize
      simp only[zA,zB,zC]
      obtain ⟨rfl,hbF⟩:=HEND
      have HBF:=hD hbF
      clear hbF
      go_wp2_with fail
      go_ret
      exact ⟨rfl,belFB HB9.out HBF.out⟩
theorem lifted_fnBits (os:Os) (started:os.Started) (H:Type) (enc:TypeId × Value→H) :
  ReturnsInHanded {} Try.checked os 3 .any (Rows.fnBitsSpec.pre6 enc Try.prog Try.f3 Rows.fnBitsRow.domain false) (Rows.fnBitsSpec.post enc Try.prog Try.f3 false true false false):=by
 refine returnsInHanded_of_change (C:=Try.checked) own started Zq3 Try.func3
  (ChangeSpec.witness6 (enc:=enc) (C:=Try.checked) false ⟨#[],#[.slice none 0 0],[]⟩ 8 Zq3 Zq3 Zq3 Zq3) ?_
 intro W base args ds gs before hval0 hW hcnd _
 have hval:∀ (j:Nat) t v,Try.f3.params[j]?=some t→args[j]?=some v→Value.okWide Try.prog W .any base t v:=hval0
 have hW':=hW
 obtain ⟨p,q,hA0,hV,rfl,hfz,hnd⟩:=hW
 have hA:DataW.TrodAll enc Try.prog W 0 (fun _=>true) true Try.f3.params.toList args.toList ds p:=hA0
 obtain ⟨rfl,rfl⟩:=trodVars_none hV
 have hlt:∀ x∈p,x.block<W.heap.size:=fun x hx=>hW'.lt x (by simp [hx])
 have key:Calls Try.prog 3 args W fun e W'=>e=.returned (.bool true)∧Below W.heap.size W W':=by
  rw[Try.params3] at hA hval
  obtain ⟨v0,vs0,d0,ds0,p0,q0,hargs,rfl,rfl,h0,r0⟩:=trodAll_cons hA
  obtain ⟨rfl,rfl,rfl⟩:=trodAll_nil r0
  obtain rfl:args=#[v0]:=by cases args;simp_all
  clear hA0 hval0 hW' hA
  obtain ⟨fuel0,hf0⟩:=h0
  obtain ⟨A,n,c,l,hv0,hnc,hcm,hl,hrd⟩:=rd_of_slice (cellsf:=bcell) Try.underlying22 cells_byte Zq4 trod_byte bcell_len (slice_one (hval 0 22 v0 rfl rfl) Try.underlying22 hf0)
  subst hv0
  exact law_FBits A n c l W hrd hl hnc hcm
 refine key.mono fun e W' ⟨he,hb⟩=>?_
 subst he
 have hrd:(Try.f3.params.toList.all fun t=>Try.prog.readableRec t&&decide (t<Try.prog.types.size))=true:=by kernel_rfl
 have hst:∀ sp:Nat→Bool,(∀ x∈p++[],sp x.block=true)→DataW.TrodAll enc Try.prog W' 0 sp true Try.f3.params.toList args.toList ds p:=fun sp hsp=>trodAll_stays (sp:=sp) (W':=W') laidOut (fun t ht=>by simpa using List.all_eq_true.1 hrd t ht) hA (fun x hx=>hb.same (hlt x hx)) (fun x hx=>hsp x (by simp [hx]))
 have hds:ds.length=1:=by
  rw[Try.params3] at hA
  obtain ⟨v0,vs0,d0,ds0,p0,q0,_,rfl,rfl,h0,r0⟩:=trodAll_cons hA
  obtain ⟨_,rfl,_⟩:=trodAll_nil r0
  rfl
 clear hA hA0 hval hval0
 obtain ⟨e0,rfl⟩:∃ e0,ds=[e0]:=by match ds,hds with|[e0],_=>exact ⟨e0,rfl⟩
 exact ⟨_,rfl,post_of_below (pa:=p) (pv:=[]) hW' (fun _ _ _=>(trodAll_cons_mk (shut_bool Try.underlying4 _) trodAll_mk0)) hst (fun _ _=>rfl) rfl hb (ok_one Zq3 rfl (okWide_bool_mk Try.underlying4 _))⟩
theorem over_fnBits:Rows.fnBitsRow.holds Try.pinned (OpenSpec.ofChange Rows.fnBitsSpec) :=
 OpenClaim.holds_of_wide 3 Try.f3 rfl rfl rfl rfl rfl rfl rfl ⟨rfl,rfl,rfl,rfl,rfl⟩ rfl rfl rfl rfl rfl Zq3 Try.func3 Zq3
  (of_decide_eq_true Zq3) (by unfold Func.isWrapper;first|(rw[if_pos (by decide +kernel)];kernel_rfl)|(rw[if_neg (by decide +kernel)];exact ⟨rfl,rfl⟩))
  (fun os started H enc _=>lifted_fnBits os started H enc)
theorem fnBits_holds:Rows.FnBitsSaid:=over_fnBits
end Go.Proofs.Ythkbckkghnbonaa

