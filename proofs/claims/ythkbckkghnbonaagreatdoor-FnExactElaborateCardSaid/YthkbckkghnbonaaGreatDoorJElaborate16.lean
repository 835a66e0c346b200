/- What the calls that this law reaches answer, part 16 of 16. -/
import Derived.Test.YthkbckkghnbonaaGreatDoorJElaborate14
import Derived.Test.YthkbckkghnbonaaGreatDoorJElaborate15
import Derived.Test.YthkbckkghnbonaaGreatDoorJElaborate12
import Derived.Test.YthkbckkghnbonaaGreatDoorJElaborate1
import Derived.Test.YthkbckkghnbonaaGreatDoorProg
import Derived.Laws.IdiomStrings
import Derived.Test.YthkbckkghnbonaaGreatDoorJElaborate5
set_option maxRecDepth 100000
set_option maxHeartbeats 16000000
set_option linter.unusedVariables false
namespace Go.Proofs.YthkbckkghnbonaaGreatDoor
open Go.RowKit
set_option linter.unusedVariables false
theorem rdl_rdq {w:World} {lo size n:Nat} {A:Option Addr} {xs:List Value} {P:Nat→Prop} (hp:∀ b,lo≤b→b<w.heap.size→P b) (h:RdL w lo size A n xs):RdQ w P size A n xs:=by
 refine ⟨h.1,fun g=>?_⟩
 obtain ⟨b',off',e',hl',hb',hc'⟩:=h.2 g
 exact ⟨b',off',e',hp b' hl' hb',hb',hc'⟩
theorem allI_all:∀ d,AllIm d
 | 0=>all_zeroI
 | d+1=>all_succI (one_succI (allI_all d))
theorem Elaborate_impl (d lo lo':Nat) (Aq:Option Addr) (cq:Nat) (qs:List ByteArray) (l:List (Tr d)) (Ab:Option Addr) (nb cb:Nat) (w:World) (hra:RdL w lo 1 Aq qs.length (strs qs)) (hcq:qs.length≤cq) (hrb:RdT w lo' d Ab nb l) (hG:GN w) (hm:qs.length≤1048576) (hz:szS qs≤1048576) (hsz:szT d l≤1048576) :
  Calls Tryz.prog 19 #[.agg #[.slice Aq qs.length cq,.slice Ab nb cb]] w (RetElb (elaP d qs l) w):=by
 obtain ⟨X,hX⟩:∃ X,X=w.heap.size:=⟨_,rfl⟩
 obtain ⟨w0,hw0⟩:∃ w0,w0=(w.alloc (.cells #[.slice Aq qs.length cq,.slice Ab nb cb] 27)).alloc (.cells #[.int .i64 0,.int .i64 0,.int .i64 0,.slice none 0 0] 40):=⟨_,rfl⟩
 have b0:Below w.heap.size w w0:=by rw[hw0];exact Zq0
 have X0:=hD (show w0.heap[X]?=some (.cells #[.slice Aq qs.length cq,.slice Ab nb cb] 27 (0,0)) by rw[hw0,hX];exact boxed2_0 _ _ _)
 have Y0:=hD (show w0.heap[X+1]?=some (.cells #[.int .i64 0,.int .i64 0,.int .i64 0,.slice none 0 0] 40 (0,0)) by rw[hw0,hX];exact boxed2_1 _ _ _)
 have RA0:=hD (hra.below b0)
 have RB0:=hD (hrb.below b0)
 have HG0:=hD (hG.below b0)
 have hs0:=b0.size
 have lX0:=lt_of_block X0.out
 have lY0:=lt_of_block Y0.out
 have B0:=hD b0
 have HX:=hD hX
 have HW0:=hD hw0
 have HVS:=hD (fun W (ra:RdL W lo 1 Aq qs.length (strs qs)) (rb:RdT W lo' d Ab nb l) (hG:GN W)=>IsValidProgram_impl d lo lo' Aq cq qs l Ab nb cb W ra rb hG hm hz hsz)
 have HCK:=hD (fun W (ra:RdL W lo 1 Aq qs.length (strs qs)) (rb:RdT W lo' d Ab nb l) (hG:GN W)=>CheckProgram_impl d lo lo' Aq cq qs l Ab nb cb W ra hcq rb hG hm hz hsz)
 have hXw:w.heap.size≤X:=by omega
 obtain ⟨K,hK⟩:∃ K,K=ckP d qs l:=⟨_,rfl⟩
 have HK:=hD hK
 rw[←hK] at HCK
 clear hw0 b0 hra hrb hG hX hK
 obtain ⟨p0,p1⟩:=boxcells2 (lay:=Below.refl _ _) X0.out
 go_enter Tryz.func19,Tryz.ntmps19
 go_upto_region 1 with (fail)
 rw[←HW0.out,←HX.out]
 go_wp2_with fail
 refine(HCK.out w0 RA0.out RB0.out HG0.out).mono ?_
 rintro e1 w1 ⟨rfl,b1,s1⟩
 have B1:=hD b1
 clear b1 p0 p1
 have RA1:=hD (RA0.out.below B1.out)
 have RB1:=hD (RB0.out.below B1.out)
 have HG1:=hD (HG0.out.below B1.out)
 obtain ⟨p0,p1⟩:=boxcells2 (lay:=B1.out) X0.out
 have lX1:X<w1.heap.size:=by omega
 cases hv:progV d qs l
 ·have HF:Hid (elaP d qs l=⟨0,0,0,[],1⟩):=ela_bad (.inl hv)
  rw[hv] at HVS
  clear hv
  go_upto_region 3 with (go_at_call 11;refine(HVS.out w1 RA1.out RB1.out HG1.out).mono ?_;rintro e2 w2 ⟨rfl,b2,s2⟩)
  have w2Y:=hD ((b2.block _ Zq6).trans ((B1.out.block _ lY0).trans Y0.out))
  obtain ⟨r0,r1,r2,r3⟩:=cells4E (w2Y.out)
  have f0:=free_at (j:=0) w2Y.out
  have f1:=free_at (j:=1) w2Y.out
  have f2:=free_at (j:=2) w2Y.out
  have f3:=free_at (j:=3) w2Y.out
  have lY:=lt_of_block w2Y.out
  go_wp2_with fail
  refine bodyPost_ret (v:=.tuple #[.agg #[.int .i64 0,.int .i64 0,.int .i64 0,.slice none 0 0],.int .i64 1]) (by simp [results,Tryz.results19,go_sem,r0,r1,r2,r3]) rfl ?_
  rw[HF.out]
  exact ⟨none,0,rfl,World.ownsRow_nil _ _ _ _,(B0.out.trans ((B1.out.trans (b2.mono B1.out.size)).mono hs0)).trans (setBelow4 Zq6)⟩
 ·rw[hv] at HVS
  have HVV:=hD hv
  clear hv
  by_cases hk0:K.1=0
  ·have HK0:=hD hk0
   rw[hk0]
   clear hk0
   go_upto_region 4 with (go_at_call 11;refine(HVS.out w1 RA1.out RB1.out HG1.out).mono ?_;rintro e2 w2 ⟨rfl,b2,s2⟩)
   have B2:=hD (belE B1.out b2)
   clear p0 p1
   have RA2:=hD (RA1.out.below b2)
   have RB2:=hD (RB1.out.below b2)
   have HG2:=hD (HG1.out.below b2)
   obtain ⟨p0,p1⟩:=boxcells2 (lay:=B2.out) X0.out
   have lX2:X<w2.heap.size:=by omega
   have lY2:X+1<w2.heap.size:=by omega
   clear b2
   go_upto_region 5 with (fail)
   obtain ⟨gE,hgE⟩:∃ gE,gE=w2.heap.size:=⟨_,rfl⟩
   obtain ⟨w3,hw3⟩:∃ w3,w3=w2.alloc (.cells #[.slice none 0 0,.int .i64 0,.bool false] 89):=⟨_,rfl⟩
   rw[←hw3,←hgE]
   have hh3:w3.heap[gE]?=some (.cells #[.slice none 0 0,.int .i64 0,.bool false] 89 (0,0)):=by rw[hw3,hgE];exact boxed1_0 _ _
   have hb3:Below w2.heap.size w2 w3:=by rw[hw3];exact Zq0
   have hs3:=hb3.size
   have hgl:=lt_of_block hh3
   have EN3:=hD (show EnvI w3 gE (gE+1) (.slice none 0 0) ⟨[],0,false⟩ from ⟨hh3,World.ownsRow_nil _ _ _ _⟩)
   have GB3:=hD ((GN.b HG2.out).below hb3)
   have HPV:=hD (show ∀ k,(Value.slice none 0 0).ownBlock=some k→¬ (fun b=>b<gE) k from fun k hk=>by cases hk)
   have p1:=(hb3.cell (p:=⟨X,1,none⟩) lX2).trans p1
   have p0:=(hb3.cell (p:=⟨X,0,none⟩) lX2).trans p0
   have TQ3:=hD (rdT_trq (P:=fun b=>b<gE) (fun b _ hb=>by rw[hgE];exact hb) RB2.out)
   have TQ3:=hD (TrQ.keep (fun b _ hl=>hb3.block b hl) hb3.size TQ3.out)
   have NQ3:=hD ((rdl_rdq (P:=fun b=>b<gE) (fun b _ hb=>by rw[hgE];exact hb) RA2.out).keep (fun b _ hl=>hb3.block b hl) hb3.size)
   have B3:=hD (B2.out.trans (hb3.mono B2.out.size))
   have lX3:X<w3.heap.size:=by omega
   have lY3:X+1<w3.heap.size:=by omega
   obtain ⟨R,hR⟩:∃ R,R=iA d l qs ⟨[],0,false⟩:=⟨_,rfl⟩
   have HR:=hD hR
   obtain ⟨⟨_,hq4⟩,hn4,_⟩:=progV_allE HVV.out
   have hRL:R.1.length≤2000000:=by rw[hR];exact iA_len4 _ _ (progV_validC HVV.out) hn4
   have hRB:R.2.bits.length≤1048577:=by rw[hR];have:=iA_bits d l qs ⟨[],0,false⟩;have e:(⟨[],0,false⟩:Es).bits.length=0:=rfl;omega
   have HALL:=hD (allI_all d (fun b=>b<gE) l Ab nb cb gE (gE+1) gE (.slice none 0 0) Aq qs.length cq qs ⟨[],0,false⟩ w3 TQ3.out NQ3.out rfl (progV_validC HVV.out) (Nat.lt_irrefl _) HPV.out EN3.out (by rw[hgE];exact GB3.out) ⟨Nat.le_refl _,Nat.lt_succ_self _,hgl⟩ hn4 Zq6 (by show 0+szT d l≤_;omega))
   rw[←hR] at HALL
   have hXg:X≠gE:=by omega
   have HGE:=hD hgE
   have HRB:=hD hRB
   have HRL:=hD hRL
   clear hw3 hh3 hb3 hR hgE hRB hRL hn4 hq4
   go_wp2_with fail
   refine HALL.out.mono ?_
   rintro e4 w4 ⟨v4,vq4,rfl,ho4,hen4,hm4,_⟩
   obtain ⟨A4,c4,rfl,_,_,rr4⟩:=rd_of_own ho4
   have hs4:=hm4.size
   obtain ⟨nbb,hnbb⟩:∃ n,n=R.2.bits.length:=⟨_,rfl⟩
   have hbl4:R.2.bits.length=nbb:=hnbb.symm
   have hen2:=hen4.2
   rw[hbl4] at hen2
   obtain ⟨Bn,cbb,rfl,_,_,_⟩:=rd_of_own hen2
   have hh4:=hen4.1
   have y0:=cell_at (j:=0) hh4 rfl
   have y1:=cell_at (j:=1) hh4 rfl
   have y2:=cell_at (j:=2) hh4 rfl
   have lE4:=lt_of_block hh4
   have p0:=mod_cell hm4 lX3 hXg (fun q=>by cases q) p0
   have lX4:X<w4.heap.size:=by omega
   have hgr4:Below w0.heap.size w0 w4:=B3.out.trans (hm4.below B3.out.size (by have:=B2.out.size;have:=HGE.out;omega) (fun k hk=>by cases hk))
   have B4:=hD hgr4
   have O4:=hD ho4
   have RR4:=hD rr4
   have HBL:=hD hbl4
   have HH4:=hD hh4
   have hRL:=HRL.out
   have hRB:nbb≤1048577:=by rw[←hbl4];exact HRB.out
   clear ho4 hen4 hm4 hh4 rr4 hbl4 hgr4 HALL p1 hnbb hen2
   go_upto_region 6 with (fail)
   obtain ⟨J0,hJ0⟩:∃ J:Array Value→Array Bool→Act→World→Prop,J=(fun A0 Lz a W=>∃ (g0:Nat),∃ x30 x31 x32 x33 x34 x35 x36 x37 x38 x39 x40 x41 x42 x43 x8:Value,a=⟨(((((((((((((((A0.setIfInBounds 30 x30).setIfInBounds 31 x31).setIfInBounds 32 x32).setIfInBounds 33 x33).setIfInBounds 34 x34).setIfInBounds 35 x35).setIfInBounds 36 x36).setIfInBounds 37 x37).setIfInBounds 38 x38).setIfInBounds 39 x39).setIfInBounds 40 x40).setIfInBounds 41 x41).setIfInBounds 42 x42).setIfInBounds 43 x43).setIfInBounds 8 x8),[]⟩∧(Ls Lz 0→x30=.pointer (some ⟨gE,0,none⟩))∧(Ls Lz 1→x31=.pointer (some ⟨gE,0,none⟩))∧(Ls Lz 2→x32=.pointer (some ⟨gE,1,none⟩))∧(Ls Lz 3→x33=.int .i64 (R.2.most:Int))∧(Ls Lz 4→x34=.pointer (some ⟨X,0,none⟩))∧(Ls Lz 5→x35=.slice Aq qs.length cq)∧(Ls Lz 6→x36=.int .i64 (qs.length:Int))∧(Ls Lz 7→x37=.pointer (some ⟨gE,0,none⟩))∧(Ls Lz 8→x38=.pointer (some ⟨gE,0,none⟩))∧(Ls Lz 9→x39=.pointer (some ⟨gE,0,none⟩))∧(Ls Lz 10→x40=.slice Bn nbb cbb)∧(Ls Lz 11→x41=.int .i64 (nbb:Int))∧(Ls Lz 12→x42=.slice A4 R.1.length c4)∧(Ls Lz 13→x43=.agg #[.int .i64 (R.2.most:Int),.int .i64 (qs.length:Int),.int .i64 (nbb:Int),.slice A4 R.1.length c4])∧(Ls Lz 14→x8=.pointer (some ⟨g0,0,none⟩))∧(Ls Lz 15→(x8=.pointer (some ⟨g0,0,none⟩)∧W.heap[g0]?=some (.cells #[.int .i64 (R.2.most:Int),.int .i64 (qs.length:Int),.int .i64 (nbb:Int),.slice A4 R.1.length c4] 40 (0,0))∧w4.heap.size≤g0∧Below w4.heap.size w4 W))∧(Ls Lz 14→¬ Ls Lz 15→(W.heap[g0]?=some (.cells #[.int .i64 0,.int .i64 0,.int .i64 0,.slice none 0 0] 40 (0,0))∧w4.heap.size≤g0))∧(¬ Ls Lz 15→Below w4.heap.size w4 W)∧(Ls Lz 15→¬ Ls Lz 15→True)):=⟨_,rfl⟩
   have HJ0:=hD hJ0
   clear hJ0
   refine wp_region_inv2 Zq10 J0 ?_ ?_ ?_
   ·intro A0
    rw[HJ0.out]
    exact ⟨0,A0.getD 30 undef,A0.getD 31 undef,A0.getD 32 undef,A0.getD 33 undef,A0.getD 34 undef,A0.getD 35 undef,A0.getD 36 undef,A0.getD 37 undef,A0.getD 38 undef,A0.getD 39 undef,A0.getD 40 undef,A0.getD 41 undef,A0.getD 42 undef,A0.getD 43 undef,A0.getD 8 undef,by simp only[set_self],zn,zn,zn,zn,zn,zn,zn,zn,zn,zn,zn,zn,zn,zn,zn,zn,zn,fun _=>below_drewE (Below.refl _ _),zn⟩
   ·intro Lz a W hsize hcl hJ i hi
    have hil:=ready_lt hi
    have hnl:=ready_not hi
    have hnow:=ready_now hi hsize
    have HCL:=hD hcl
    rw[HJ0.out] at hJ
    obtain ⟨g0,x30,x31,x32,x33,x34,x35,x36,x37,x38,x39,x40,x41,x42,x43,x8,rfl,HF⟩:=hJ
    have HH:=hD HF
    have hi2:i=0∨i=1∨i=2∨i=3∨i=4∨i=5∨i=6∨i=7∨i=8∨i=9∨i=10∨i=11∨i=12∨i=13∨i=14∨i=15:=by simp at hil;omega
    clear hil hcl HF
    rcases hi2 with rfl|rfl|rfl|rfl|rfl|rfl|rfl|rfl|rfl|rfl|rfl|rfl|rfl|rfl|rfl|rfl
    ·clear hi HCL
     simp only[zA,zB,zC]
     refine wpOp_one rfl rfl fun K hK=>?_
     go_wp2_with fail
     rw[HJ0.out]
     exact ⟨g0,.pointer (some ⟨gE,0,none⟩),x31,x32,x33,x34,x35,x36,x37,x38,x39,x40,x41,x42,x43,x8,(by simp only[zA,zB,zC]),zT HH⟩
    ·have D0:=(pj0 HH.out) (rq hi 0)
     clear hi HCL
     simp only[zA,zB,zC,D0]
     refine wpOp_one rfl rfl fun K hK=>?_
     go_wp2_with fail
     rw[HJ0.out]
     exact ⟨g0,x30,.pointer (some ⟨gE,0,none⟩),x32,x33,x34,x35,x36,x37,x38,x39,x40,x41,x42,x43,x8,(by simp only[zA,zB,zC,D0]),zT HH⟩
    ·have D1:=(pj1 HH.out) (rq hi 1)
     clear hi HCL
     simp only[zA,zB,zC,D1]
     refine wpOp_one rfl rfl fun K hK=>?_
     go_wp2_with fail
     rw[HJ0.out]
     exact ⟨g0,x30,x31,.pointer (some ⟨gE,1,none⟩),x33,x34,x35,x36,x37,x38,x39,x40,x41,x42,x43,x8,(by simp only[zA,zB,zC,D1]),zT HH⟩
    ·have hns:¬ Ls Lz 15:=fun h=>hnl (dq HCL (dq HCL h 13) 3)
     have D2:=(pj2 HH.out) (rq hi 2)
     have V0:=(pj17 HH.out) hns
     clear hi HCL
     simp only[zA,zB,zC,D2]
     have q0:=(V0.cell (p:=⟨gE,1,none⟩) lE4).trans y1
     refine wpOp_one rfl rfl fun K hK=>?_
     go_wp2_with fail
     rw[HJ0.out]
     exact ⟨g0,x30,x31,x32,.int .i64 (R.2.most:Int),x34,x35,x36,x37,x38,x39,x40,x41,x42,x43,x8,(by simp only[zA,zB,zC,D2]),zT HH⟩
    ·clear hi HCL
     simp only[zA,zB,zC]
     refine wpOp_one rfl rfl fun K hK=>?_
     go_wp2_with fail
     rw[HJ0.out]
     exact ⟨g0,x30,x31,x32,x33,.pointer (some ⟨X,0,none⟩),x35,x36,x37,x38,x39,x40,x41,x42,x43,x8,(by simp only[zA,zB,zC]),zT HH⟩
    ·have hns:¬ Ls Lz 15:=fun h=>hnl (dq HCL (dq HCL (dq HCL h 13) 6) 5)
     have D4:=(pj4 HH.out) (rq hi 4)
     have V0:=(pj17 HH.out) hns
     clear hi HCL
     simp only[zA,zB,zC,D4]
     have q0:=(V0.cell (p:=⟨X,0,none⟩) lX4).trans p0
     refine wpOp_one rfl rfl fun K hK=>?_
     go_wp2_with fail
     rw[HJ0.out]
     exact ⟨g0,x30,x31,x32,x33,x34,.slice Aq qs.length cq,x36,x37,x38,x39,x40,x41,x42,x43,x8,(by simp only[zA,zB,zC,D4]),zT HH⟩
    ·have D5:=(pj5 HH.out) (rq hi 5)
     clear hi HCL
     simp only[zA,zB,zC,D5]
     refine wpOp_one rfl rfl fun K hK=>?_
     go_wp2_with fail
     rw[HJ0.out]
     exact ⟨g0,x30,x31,x32,x33,x34,x35,.int .i64 (qs.length:Int),x37,x38,x39,x40,x41,x42,x43,x8,(by simp only[zA,zB,zC,D5]),zT HH⟩
    ·clear hi HCL
     simp only[zA,zB,zC]
     refine wpOp_one rfl rfl fun K hK=>?_
     go_wp2_with fail
     rw[HJ0.out]
     exact ⟨g0,x30,x31,x32,x33,x34,x35,x36,.pointer (some ⟨gE,0,none⟩),x38,x39,x40,x41,x42,x43,x8,(by simp only[zA,zB,zC]),zT HH⟩
    ·have D7:=(pj7 HH.out) (rq hi 7)
     clear hi HCL
     simp only[zA,zB,zC,D7]
     refine wpOp_one rfl rfl fun K hK=>?_
     go_wp2_with fail
     rw[HJ0.out]
     exact ⟨g0,x30,x31,x32,x33,x34,x35,x36,x37,.pointer (some ⟨gE,0,none⟩),x39,x40,x41,x42,x43,x8,(by simp only[zA,zB,zC,D7]),zT HH⟩
    ·have D8:=(pj8 HH.out) (rq hi 8)
     clear hi HCL
     simp only[zA,zB,zC,D8]
     refine wpOp_one rfl rfl fun K hK=>?_
     go_wp2_with fail
     rw[HJ0.out]
     exact ⟨g0,x30,x31,x32,x33,x34,x35,x36,x37,x38,.pointer (some ⟨gE,0,none⟩),x40,x41,x42,x43,x8,(by simp only[zA,zB,zC,D8]),zT HH⟩
    ·have hns:¬ Ls Lz 15:=fun h=>hnl (dq HCL (dq HCL (dq HCL h 13) 11) 10)
     have D9:=(pj9 HH.out) (rq hi 9)
     have V0:=(pj17 HH.out) hns
     clear hi HCL
     simp only[zA,zB,zC,D9]
     have q0:=(V0.cell (p:=⟨gE,0,none⟩) lE4).trans y0
     refine wpOp_one rfl rfl fun K hK=>?_
     go_wp2_with fail
     rw[HJ0.out]
     exact ⟨g0,x30,x31,x32,x33,x34,x35,x36,x37,x38,x39,.slice Bn nbb cbb,x41,x42,x43,x8,(by simp only[zA,zB,zC,D9]),zT HH⟩
    ·have D10:=(pj10 HH.out) (rq hi 10)
     clear hi HCL
     simp only[zA,zB,zC,D10]
     refine wpOp_one rfl rfl fun K hK=>?_
     go_wp2_with fail
     rw[HJ0.out]
     exact ⟨g0,x30,x31,x32,x33,x34,x35,x36,x37,x38,x39,x40,.int .i64 (nbb:Int),x42,x43,x8,(by simp only[zA,zB,zC,D10]),zT HH⟩
    ·clear hi HCL
     simp only[zA,zB,zC]
     refine wpOp_one rfl rfl fun K hK=>?_
     go_wp2_with fail
     rw[HJ0.out]
     exact ⟨g0,x30,x31,x32,x33,x34,x35,x36,x37,x38,x39,x40,x41,.slice A4 R.1.length c4,x43,x8,(by simp only[zA,zB,zC]),zT HH⟩
    ·have D3:=(pj3 HH.out) (rq hi 3)
     have D6:=(pj6 HH.out) (rq hi 6)
     have D11:=(pj11 HH.out) (rq hi 11)
     have D12:=(pj12 HH.out) (rq hi 12)
     clear hi HCL
     simp only[zA,zB,zC,D3,D6,D11,D12]
     refine wpOp_one rfl rfl fun K hK=>?_
     go_wp2_with fail
     rw[HJ0.out]
     exact ⟨g0,x30,x31,x32,x33,x34,x35,x36,x37,x38,x39,x40,x41,x42,.agg #[.int .i64 (R.2.most:Int),.int .i64 (qs.length:Int),.int .i64 (nbb:Int),.slice A4 R.1.length c4],x8,(by simp only[zA,zB,zC,D3,D6,D11,D12]),zT HH⟩
    ·have hns:¬ Ls Lz 15:=fun h=>hnl (dq HCL h 14)
     have V0:=(pj17 HH.out) hns
     clear hi HCL
     simp only[zA,zB,zC]
     refine wpOp_one rfl rfl fun K hK=>?_
     go_wp2_with fail
     rw[HJ0.out]
     exact ⟨W.heap.size,x30,x31,x32,x33,x34,x35,x36,x37,x38,x39,x40,x41,x42,x43,.pointer (some ⟨W.heap.size,0,none⟩),(by simp only[zA,zB,zC]),zk HH,zk HH,zk HH,zk HH,zk HH,zk HH,zk HH,zk HH,zk HH,zk HH,zk HH,zk HH,zk HH,zk HH,fun _=>rfl,Ba hns,fun _ _=>⟨heap_alloc_new W _,V0.size⟩,fun h=>belE ((pj17 HH.out) (fun h2=>h h2.fwd)) below_allocE,Bb hns⟩
    ·have hns:¬ Ls Lz 15:=hnl
     have D13:=(pj13 HH.out) (rq hi 13)
     have D14:=(pj14 HH.out) (rq hi 14)
     have E14:=(pj16 HH.out) (rq hi 14) hns
     have V0:=(pj17 HH.out) hns
     clear hi HCL
     simp only[zA,zB,zC,D13,D14]
     have q0:=cell_at (j:=0) E14.1 rfl
     have q1:=cell_at (j:=1) E14.1 rfl
     have q2:=cell_at (j:=2) E14.1 rfl
     have q3:=cell_at (j:=3) E14.1 rfl
     have f0:=free_at (j:=0) E14.1
     have f1:=free_at (j:=1) E14.1
     have f2:=free_at (j:=2) E14.1
     have f3:=free_at (j:=3) E14.1
     have lg:=lt_of_block E14.1
     have HE:=hD E14
     clear E14
     refine wpOp_one rfl rfl fun K hK=>?_
     go_wp2_with fail
     rw[HJ0.out]
     exact ⟨g0,x30,x31,x32,x33,x34,x35,x36,x37,x38,x39,x40,x41,x42,x43,x8,(by first|(simp only[zA,zB,zC,D13,D14] <;> fail)|simp only[Act.put,zA,zB,zC,D13,D14]),zk HH,zk HH,zk HH,zk HH,zk HH,zk HH,zk HH,zk HH,zk HH,zk HH,zk HH,zk HH,zk HH,zk HH,zk HH,fun _=>⟨D14,heap_set4E HE.out.1,HE.out.2,below_set4E V0 HE.out.2⟩,zx hnow,zy hnow,zx hnow⟩
   ·intro Lz a W hsize hJ hr
    rw[HJ0.out] at hJ
    have hall:=all_listed hsize Zq10 hr
    obtain ⟨g0,x30,x31,x32,x33,x34,x35,x36,x37,x38,x39,x40,x41,x42,x43,x8,rfl,HF⟩:=hJ
    have HH:=hD HF
    have HEND:=(pj15 HH.out) (hall 15 Zq8)
    clear HF HH hall hr hsize
    simp only[zA,zB,zC]
    obtain ⟨rfl,hh5,hg5,hb5⟩:=HEND
    obtain ⟨w5,rfl⟩:∃ w5:World,w5=W:=⟨_,rfl⟩
    have hs5:=hb5.size
    have B5:=hD (B4.out.trans (hb5.mono B4.out.size))
    have y2:=(hb5.cell (p:=⟨gE,2,none⟩) lE4).trans y2
    have HH5:=hD hh5
    have RR5:=hD (RR4.out.below hb5)
    have O5:=hD (ownsRow_below O4.out hb5)
    have w5Y:=hD ((B5.out.block _ lY0).trans Y0.out)
    have lE5:gE<w5.heap.size:=by omega
    have HE:=hD ((ela_impl HVV.out (by rw[←HK.out];exact HK0.out)).trans (by rw[←HR.out]))
    clear hh5 hb5 y0 y1 p0
    cases hbad:R.2.bad
    ·rw[hbad] at y2
     have HBD:=hD hbad
     clear hbad
     obtain ⟨q0,q1,q2,q3⟩:=cells4E HH5.out
     by_cases hgc:60<gcount R.1
     ·have d1:decide ((60:Int)<(gcount R.1:Int))=true:=decide_eq_true Zq6
      have HF:Hid (elaP d qs l=⟨0,0,0,[],2⟩):=by show _=_;rw[HE.out];exact finR_bad (.inr (.inl hgc))
      clear hgc
      go_upto_region 8 with (go_at_call 29;refine(RoutineGateCount_impl _ _ _ _ _ _ R.1 w5 RR5.out rfl Zq6).mono ?_;rintro e6 w6 ⟨rfl,b6,s6⟩)
      have w6Y:=hD ((b6.block _ Zq6).trans w5Y.out)
      obtain ⟨r0,r1,r2,r3⟩:=cells4E (w6Y.out)
      have f0:=free_at (j:=0) w6Y.out
      have f1:=free_at (j:=1) w6Y.out
      have f2:=free_at (j:=2) w6Y.out
      have f3:=free_at (j:=3) w6Y.out
      have lY:=lt_of_block w6Y.out
      go_wp2_with fail
      refine bodyPost_ret (v:=.tuple #[.agg #[.int .i64 0,.int .i64 0,.int .i64 0,.slice none 0 0],.int .i64 2]) (by simp [results,Tryz.results19,go_sem,r0,r1,r2,r3]) rfl ?_
      rw[HF.out]
      exact ⟨none,0,rfl,World.ownsRow_nil _ _ _ _,(B0.out.trans ((B5.out.trans (b6.mono B5.out.size)).mono hs0)).trans (setBelow4 Zq6)⟩
     ·have d1:decide ((60:Int)<(gcount R.1:Int))=false:=decide_eq_false Zq6
      cases hvr:validRt R.2.most qs.length nbb R.1
      ·have HF:Hid (elaP d qs l=⟨0,0,0,[],2⟩):=by show _=_;rw[HE.out];exact finR_bad (.inr (.inr (by rw[HBL.out];exact hvr)))
       have HVR:=hD (fun W (h:Rd W 8 A4 R.1.length (R.1.flatMap ocells))=>IsValidRoutine_impl (R.2.most:Int) (qs.length:Int) (nbb:Int) A4 R.1.length c4 R.1 W h rfl Zq6)
       rw[hvr] at HVR
       clear hgc hvr
       go_upto_region 8 with (first|(go_at_call 29;refine(RoutineGateCount_impl _ _ _ _ _ _ R.1 w5 RR5.out rfl Zq6).mono ?_;rintro e6 w6 ⟨rfl,b6,s6⟩;have lg6:=b6.size;obtain ⟨u0,u1,u2,u3⟩:=cells4E ((b6.block _ (lt_of_block HH5.out)).trans HH5.out))|(go_at_call 28;refine(HVR.out w6 (RR5.out.below b6)).mono ?_;rintro e7 w7 ⟨rfl,b7,s7⟩))
       have w7Y:=hD ((b7.block _ Zq6).trans ((b6.block _ Zq6).trans w5Y.out))
       obtain ⟨r0,r1,r2,r3⟩:=cells4E (w7Y.out)
       have f0:=free_at (j:=0) w7Y.out
       have f1:=free_at (j:=1) w7Y.out
       have f2:=free_at (j:=2) w7Y.out
       have f3:=free_at (j:=3) w7Y.out
       have lY:=lt_of_block w7Y.out
       go_wp2_with fail
       refine bodyPost_ret (v:=.tuple #[.agg #[.int .i64 0,.int .i64 0,.int .i64 0,.slice none 0 0],.int .i64 2]) (by simp [results,Tryz.results19,go_sem,r0,r1,r2,r3]) rfl ?_
       rw[HF.out]
       exact ⟨none,0,rfl,World.ownsRow_nil _ _ _ _,(B0.out.trans ((B5.out.trans ((b6.trans (b7.mono b6.size)).mono B5.out.size)).mono hs0)).trans (setBelow4 Zq6)⟩
      ·have HF:Hid (elaP d qs l=⟨R.2.most,qs.length,nbb,R.1,0⟩):=by show _=_;rw[HE.out,←HBL.out];exact finR_good HBD.out hgc (by rw[HBL.out];exact hvr)
       have HVR:=hD (fun W (h:Rd W 8 A4 R.1.length (R.1.flatMap ocells))=>IsValidRoutine_impl (R.2.most:Int) (qs.length:Int) (nbb:Int) A4 R.1.length c4 R.1 W h rfl Zq6)
       rw[hvr] at HVR
       clear hgc hvr
       go_upto_region 9 with (first|(go_at_call 29;refine(RoutineGateCount_impl _ _ _ _ _ _ R.1 w5 RR5.out rfl Zq6).mono ?_;rintro e6 w6 ⟨rfl,b6,s6⟩;have lg6:=b6.size;obtain ⟨u0,u1,u2,u3⟩:=cells4E ((b6.block _ (lt_of_block HH5.out)).trans HH5.out))|(go_at_call 28;refine(HVR.out w6 (RR5.out.below b6)).mono ?_;rintro e7 w7 ⟨rfl,b7,s7⟩))
       have w7Y:=hD ((b7.block _ Zq6).trans ((b6.block _ Zq6).trans w5Y.out))
       have w7G:=hD ((b7.block _ (by have:=lt_of_block HH5.out;omega)).trans ((b6.block _ (lt_of_block HH5.out)).trans HH5.out))
       have B7:=hD (B5.out.trans ((b6.trans (b7.mono b6.size)).mono B5.out.size))
       have O7:=hD (ownsRow_below (ownsRow_below O5.out b6) b7)
       clear q0 q1 q2 q3 u0 u1 u2 u3 b6 b7
       obtain ⟨q0,q1,q2,q3⟩:=cells4E w7G.out
       obtain ⟨r0,r1,r2,r3⟩:=cells4E w7Y.out
       have f0:=free_at (j:=0) w7Y.out
       have f1:=free_at (j:=1) w7Y.out
       have f2:=free_at (j:=2) w7Y.out
       have f3:=free_at (j:=3) w7Y.out
       have lY:=lt_of_block w7Y.out
       have lG:=lt_of_block w7G.out
       go_wp2_with fail
       refine bodyPost_ret (v:=.tuple #[.agg #[.int .i64 (R.2.most:Int),.int .i64 (qs.length:Int),.int .i64 (nbb:Int),.slice A4 R.1.length c4],.int .i64 0]) (by simp [results,Tryz.results19,go_sem,r0,r1,r2,r3]) rfl ?_
       rw[HF.out]
       exact ⟨A4,c4,rfl,own_lowT (own_drawG O7.out (grE (grE (grE (setE _) (setE _)) (setE _)) (setE _)) Zq6) Zq6,(B0.out.trans (B7.out.mono hs0)).trans (setBelow4 Zq6)⟩
    ·rw[hbad] at y2
     have HF:Hid (elaP d qs l=⟨0,0,0,[],2⟩):=by show _=_;rw[HE.out];exact finR_bad (.inl hbad)
     clear hbad
     go_upto_region 8 with (fail)
     obtain ⟨r0,r1,r2,r3⟩:=cells4E (w5Y.out)
     have f0:=free_at (j:=0) w5Y.out
     have f1:=free_at (j:=1) w5Y.out
     have f2:=free_at (j:=2) w5Y.out
     have f3:=free_at (j:=3) w5Y.out
     have lY:=lt_of_block w5Y.out
     go_wp2_with fail
     refine bodyPost_ret (v:=.tuple #[.agg #[.int .i64 0,.int .i64 0,.int .i64 0,.slice none 0 0],.int .i64 2]) (by simp [results,Tryz.results19,go_sem,r0,r1,r2,r3]) rfl ?_
     rw[HF.out]
     exact ⟨none,0,rfl,World.ownsRow_nil _ _ _ _,(B0.out.trans (B5.out.mono hs0)).trans (setBelow4 Zq6)⟩
  ·have d0:(K.1==0)=false:=beq_eq_false_iff_ne.2 hk0
   have HF:Hid (elaP d qs l=⟨0,0,0,[],1⟩):=ela_bad (.inr (by rw[←HK.out];exact hk0))
   clear hk0
   go_upto_region 3 with (go_at_call 11;refine(HVS.out w1 RA1.out RB1.out HG1.out).mono ?_;rintro e2 w2 ⟨rfl,b2,s2⟩)
   have w2Y:=hD ((b2.block _ Zq6).trans ((B1.out.block _ lY0).trans Y0.out))
   obtain ⟨r0,r1,r2,r3⟩:=cells4E (w2Y.out)
   have f0:=free_at (j:=0) w2Y.out
   have f1:=free_at (j:=1) w2Y.out
   have f2:=free_at (j:=2) w2Y.out
   have f3:=free_at (j:=3) w2Y.out
   have lY:=lt_of_block w2Y.out
   go_wp2_with fail
   refine bodyPost_ret (v:=.tuple #[.agg #[.int .i64 0,.int .i64 0,.int .i64 0,.slice none 0 0],.int .i64 1]) (by simp [results,Tryz.results19,go_sem,r0,r1,r2,r3]) rfl ?_
   rw[HF.out]
   exact ⟨none,0,rfl,World.ownsRow_nil _ _ _ _,(B0.out.trans ((B1.out.trans (b2.mono B1.out.size)).mono hs0)).trans (setBelow4 Zq6)⟩
def RetPC (d m nb:Nat) (qs:List ByteArray) (l:List (Tr d)) (w:World) (e:Ending) (w':World):Prop :=
 ∃ Aq cq Ab cb,e=.returned (.agg #[.slice Aq m cq,.slice Ab nb cb])∧RdL w' w.heap.size 1 Aq m (strs qs)∧RdT w' w.heap.size d Ab nb l∧Below w.heap.size w w'∧w.heap.size≤w'.heap.size∧m≤cq
theorem toProgram_c (d lo:Nat) (Aq:Option Addr) (m cq:Nat) (qs:List ByteArray) (l:List (Tr d)) (Ab:Option Addr) (nb cb:Nat) (w:World)
  (hra:Rd w 1 Aq m (strs qs)) (hrb:RdT w lo d Ab nb l) (hm:qs.length=m) (h1:m≤1048576) (h2:szT d l≤1048576) :
  Calls Tryz.prog 18 #[.agg #[.slice Aq m cq,.slice Ab nb cb]] w (RetPC d m nb qs l w):=by
 have HM:=hD hm
 have HA:=hD hra
 have HB:=hD hrb
 clear hm hra hrb
 go_enter Tryz.func18,Tryz.ntmps18
 go_wp2_with fail
 obtain ⟨w0,hw0⟩:∃ w0,w0=((w.alloc (.cells #[.slice Aq m cq,.slice Ab nb cb] 36)).alloc (.cells #[.slice none 0 0,.slice none 0 0] 27)).alloc (.cells #[.slice none 0 0,.slice none 0 0] 27):=⟨_,rfl⟩
 rw[←hw0]
 have x0:w0.heap[w.heap.size]?=some (.cells #[.slice Aq m cq,.slice Ab nb cb] 36 (0,0)):=by rw[hw0];exact boxed3_0 _ _ _ _
 have x1:w0.heap[w.heap.size+1]?=some (.cells #[.slice none 0 0,.slice none 0 0] 27 (0,0)):=by rw[hw0];exact boxed3_1 _ _ _ _
 have x2:w0.heap[w.heap.size+2]?=some (.cells #[.slice none 0 0,.slice none 0 0] 27 (0,0)):=by rw[hw0];exact boxed3_2 _ _ _ _
 have b0:Below w.heap.size w w0:=by rw[hw0];exact Zq0
 have s0:w.heap.size+3=w0.heap.size:=by rw[hw0];simp
 have S0:=hD s0
 have X0:=hD x0
 have X1:=hD x1
 have X2:=hD x2
 clear hw0 s0 x0 x1 x2
 refine(toStringS_any _ _ _ qs _ (HA.out.below b0) HM.out Zq6).mono ?_
 rintro e w1 ⟨v1,rfl,o1,b1,s1⟩
 obtain ⟨A1,c1,rfl,hcap1,_,_⟩:=rd_of_own o1
 have HCAP:=hD hcap1
 clear hcap1
 obtain ⟨p0,p1⟩:=boxcells2 (lay:=b1) X0.out
 obtain ⟨q0,q1⟩:=boxcells2 (lay:=b1) X2.out
 have f0:=boxfree b1 X2.out 0
 go_wp2_with fail
 obtain ⟨w2,hw2⟩:∃ w2,w2=w1.setCell ⟨w.heap.size+2,0,none⟩ (.slice A1 m c1):=⟨_,rfl⟩
 rw[←hw2]
 have hS:=S0.out
 have y1:w2.heap[w.heap.size+1]?=some (.cells #[.slice none 0 0,.slice none 0 0] 27 (0,0)):=by
  rw[hw2];exact heap_set_far ((b1.block _ Zq6).trans X1.out) Zq11 _
 have y2:w2.heap[w.heap.size+2]?=some (.cells #[.slice A1 m c1,.slice none 0 0] 27 (0,0)):=by
  rw[hw2];exact heap_set_self ((b1.block _ Zq6).trans X2.out) _
 have b2:Below w.heap.size w w2:=by rw[hw2];exact(b0.trans (b1.mono Zq6)).setCell Zq11 _
 have s2:w1.heap.size=w2.heap.size:=by rw[hw2,size_setCell]
 have r1:RdL w2 (w.heap.size+3) 1 A1 m (strs qs):=by
  rw[hw2];exact(rdl_own o1).lower Zq6 |>.set_ Zq11 _
 have Y1:=hD y1
 have Y2:=hD y2
 have R1:=hD r1
 have S2:=hD s2
 clear hw2 y1 y2 r1 s2 p0 p1 q0 q1 f0 o1 hS
 refine(toStmtS_any d lo _ _ _ l _ (HB.out.below b2) h2).mono ?_
 rintro e w3 ⟨A3,c3,rfl,r3,b3,s3⟩
 obtain ⟨t0,t1⟩:=boxcells2 (lay:=b3) Y1.out
 obtain ⟨u0,u1⟩:=boxcells2 (lay:=b3) Y2.out
 have g0:=boxfree b3 Y1.out 0
 have g1:=boxfree b3 Y1.out 1
 have g5:=boxfree b3 Y2.out 1
 have R3:=hD r3
 clear r3
 go_wp2_with fail
 have hS:=S0.out
 have hS2:=S2.out
 refine bodyPost_ret (v:=.agg #[.slice A1 m c1,.slice A3 nb c3]) (by simp [results,Tryz.results18,go_sem,t0,t1]) rfl ⟨A1,c1,A3,c3,rfl,?_,?_,?_,?_,HCAP.out⟩
 ·exact RdL.lower (lo:=w.heap.size+3) ((((R1.out.below b3).set_ Zq11 _).set_ Zq11 _).set_ Zq11 _) Zq6
 ·exact RdT.lower (lo:=w2.heap.size) Zq6 (((R3.out.set_ Zq9 _).set_ Zq9 _).set_ Zq9 _)
 ·exact((((b2.trans (b3.mono Zq6)).setCell Zq5 _).setCell Zq5 _).setCell Zq5 _)
 ·simp [World.setCell];omega
def NF (lo:Nat) (w:World):Prop:=∀ b o,lo≤b→b<w.heap.size→w.frozen? ⟨b,o,none⟩=false
theorem NF.refl (w:World):NF w.heap.size w:=fun _ _ h h'=>absurd h' Zq6
theorem NF.trans {lo:Nat} {w w':World} (h:NF lo w) (hb:Below w.heap.size w w') (h':NF w.heap.size w'):NF lo w':=fun b o h1 h2=>by
 rcases Nat.lt_or_ge b w.heap.size with hl|hl
 ·rw[hb.frozen (p:=⟨b,o,none⟩) hl]
  exact h b o h1 hl
 ·exact h' b o hl h2
theorem NF.setCell {lo:Nat} {w:World} (h:NF lo w) (p:Addr) (u:Value):NF lo (w.setCell p u):=fun b o h1 h2=>by
 have h3:=h b o h1 (by simpa [World.setCell] using h2)
 simpa using h3
theorem NF.alloc {lo:Nat} {w:World} (h:NF lo w) (cs:Array Value) (t:TypeId):NF lo (w.alloc (.cells cs t)):=fun b o h1 h2=>by
 rcases Nat.lt_or_ge b w.heap.size with hl|hl
 ·rw[World.frozen?_of_block (w:=w) (Below.heap_alloc w _ b hl)]
  exact h b o h1 hl
 ·have e:b=w.heap.size:=by
   simp at h2
   omega
  subst e
  exact World.frozen?_alloc_new w cs t o
theorem NF.drew {lo:Nat} {w:World} (h:NF lo w):NF lo w.drew:=h
theorem run_make_rowN {P:Program} (t e:TypeId) (i:TypeInfo) (z:Value) (ht:P.underlying t=some (.slice e)) (hi:P.info? e=some i) (hz:i.zero=some z)
  (kl kc:IntKind) (n c:Nat) (hnc:n≤c) (hbytes:i.bytes*c≤281474976710656) (h63:c≤9223372036854775807) (w:World) :
  (Instr.makeSlice t (.int kl (n:Int)) (.int kc (c:Int))).run P w=.ok (.slice (some ⟨w.heap.size,0,none⟩) n c) (w.alloc (.cells (madeCells z.cells (c*i.size)) e)):=by
 have hb:(i.bytes:Int)*(c:Int)≤281474976710656:=by
  have h:((i.bytes*c:Nat):Int)≤281474976710656:=by omega
  rwa [Int.natCast_mul] at h
 have hr:=run_make (P:=P) w t e i z ht hi hz kl kc n c Zq6 Zq6 hb Zq6
 simp only[Int.toNat_natCast] at hr
 exact hr
theorem nf_make {P:Program} {t e:TypeId} {i:TypeInfo} {z v:Value} (ht:P.underlying t=some (.slice e)) (hi:P.info? e=some i) (hz:i.zero=some z)
  {n:Nat} (hbytes:i.bytes*n≤281474976710656) (h63:n≤9223372036854775807) {w w1:World} (h:(Instr.makeSlice t (.int .i64 (n:Int)) (.int .i64 (n:Int))).run P w=.ok v w1):NF w.heap.size w1:=by
 have h2:=h.symm.trans (run_make_rowN t e i z ht hi hz .i64 .i64 n n (Nat.le_refl _) hbytes h63 w)
 injection h2 with _ h2
 rw[h2]
 exact(NF.refl w).alloc _ _
def RetRowF (E size:Nat) (w:World) (n:Nat) (xs:List Value) (e:Ending) (w':World):Prop:=RetRow E size w n xs e w'∧NF w.heap.size w'
theorem toStringS_nf (A:Option Addr) (n c:Nat) (l:List ByteArray) (w:World) (h:Rd w 1 A n (strs l)) (hl:l.length=n) (hn:n≤1099511627776) :
  Calls Tryz.prog 64 #[.slice A n c] w (RetRowF 9 1 w n (strs l)):=by
 obtain ⟨i0,hi,hz0,hz1,hz2⟩:=info_parts info_str
 obtain ⟨w1,hrun,hown,hgr0⟩:=run_make_full (P:=Tryz.prog) w w.heap.size 24 9 i0 _ 1 Tryz.underlying24 hi hz0 hz1 .i64 .i64 n (by rw[hz2];omega) Zq12 (Nat.le_refl _)
 have n1:NF w.heap.size w1:=nf_make Tryz.underlying24 hi hz0 (by rw[hz2];omega) Zq6 hrun
 have H:=hD h
 have HL:=hD hl
 clear h hl hi hz0 hz1 hz2
 have b1:Below w.heap.size w w1:=(Below.refl _ _).grown hgr0 (Nat.le_refl _) Zq11
 obtain ⟨zs,hzs⟩:∃ zs,zs=(madeCells (Value.string ByteArray.empty).cells (n*1)).toList:=⟨_,rfl⟩
 rw[←hzs] at hown
 have hzl:=hown.1
 have HZ:=hD hzl
 clear hzs hgr0 hzl
 go_enter Tryz.func64,Tryz.ntmps64
 go_wp2
 clear hrun
 go_loopw [4] (fun i wr=>∃ t:Nat,t≤n∧i=.int .i64 t∧wr.ownsRow w.heap.size 9 1 (.slice (some ⟨w.heap.size,0,none⟩) n n) n (strs (l.take t)++zs.drop t)∧Below w.heap.size w wr∧NF w.heap.size wr) (fun i _=>n - (intOf i).toNat)
 case atStart=>exact ⟨0,Nat.zero_le _,rfl,by simpa [strs] using hown,b1,n1⟩
 case round =>
  clear hown b1 n1
  obtain ⟨t,ht,rfl,hown,hb,hN⟩:=hrel
  by_cases hlt:t<n
  ·have htl:t<l.length:=by rw[HL.out];exact hlt
   obtain ⟨s,hs⟩:∃ s,l[t]?=some s:=⟨_,List.getElem?_eq_getElem htl⟩
   obtain ⟨b,off,rfl,hbl,hc⟩:=H.out.2 Zq6
   have q0:wr.cell? ⟨b,off+t,none⟩=some (.string s):=(hb.cell (by exact hbl)).trans (hc t _ (strs_at hs))
   have hf:=hown.frozenAt t
   have hll:=hown.1
   obtain ⟨y0,z0⟩:∃ y,wr.cell? ⟨w.heap.size,t,none⟩=some y:=⟨_,(hown.cellAt t Zq6).trans (List.getElem?_eq_getElem Zq6)⟩
   have HG:=hD hs
   have HC:=hD htl
   clear hc hs htl hll
   go_wp2_with fail
   go_roundw
   case rel =>
    have s0:=hown.stored t (.string s)
    rw[fill_step (by simp [strs,Nat.min_eq_left (Nat.le_of_lt HC.out)]) (by rw[HZ.out];omega)] at s0
    refine ⟨t+1,by omega,by go_num,?_,hb.grown s0.2 hb.size Zq11,hN.setCell _ _⟩
    rw[List.take_add_one,HG.out]
    simpa [strs] using s0.1
   case measure=>simp [intOf];omega
  ·obtain rfl:t=n:=by omega
   go_wp2_with fail
   go_ret
   exact ⟨⟨_,rfl,by rw[List.drop_of_length_le (by rw[HZ.out];omega),List.append_nil,List.take_of_length_le (by rw[HL.out];exact Nat.le_refl _)] at hown;exact hown,hb,hb.size⟩,hN⟩
def RetTF (d n:Nat) (l:List (Tr d)) (w:World) (e:Ending) (w':World):Prop:=RetT d n l w e w'∧NF w.heap.size w'
def RetSFC (d nb:Nat) (k:Int) (word:ByteArray) (args:List ByteArray) (count:Int) (bd:List (Tr d)) (w:World) (e:Ending) (w':World):Prop:=RetSC d nb k word args count bd w e w'∧NF w.heap.size w'
def ToSaidF (d:Nat):Prop:=∀ (lo:Nat) (A:Option Addr) (n c:Nat) (l:List (Tr d)) (w:World),RdT w lo d A n l→szT d l≤1048576→Calls Tryz.prog 65 #[.slice A n c] w (RetTF d n l w)
theorem toStmt_nfc {d:Nat} (ih:ToSaidF d) (lo:Nat) (k:Int) (word:ByteArray) (args:List ByteArray) (count:Int) (bd:List (Tr d)) (Aa:Option Addr) (ca:Nat) (Ab:Option Addr) (nb cb:Nat) (w:World)
  (hra:RdL w lo 1 Aa args.length (strs args)) (hrb:RdT w lo d Ab nb bd) (h1:args.length≤1048576) (h2:szT d bd≤1048576) :
  Calls Tryz.prog 117 #[.agg #[.int .i64 k,.string word,.slice Aa args.length ca,.int .i64 count,.slice Ab nb cb]] w (RetSFC d nb k word args count bd w):=by
 obtain ⟨m,hm⟩:∃ m,m=args.length:=⟨_,rfl⟩
 rw[←hm] at hra h1 ⊢
 have HM:=hD hm
 have HA:=hD hra
 have HB:=hD hrb
 clear hm hra hrb
 go_enter Tryz.func117,Tryz.ntmps117
 go_wp2_with fail
 obtain ⟨w0,hw0⟩:∃ w0,w0=((w.alloc (.cells #[.int .i64 k,.string word,.slice Aa m ca,.int .i64 count,.slice Ab nb cb] 143)).alloc (.cells #[.int .i64 0,.string ⟨#[]⟩,.slice none 0 0,.int .i64 0,.slice none 0 0] 66)).alloc (.cells #[.int .i64 k,.string word,.slice none 0 0,.int .i64 0,.slice none 0 0] 66):=⟨_,rfl⟩
 rw[←hw0]
 have x0:w0.heap[w.heap.size]?=some (.cells #[.int .i64 k,.string word,.slice Aa m ca,.int .i64 count,.slice Ab nb cb] 143 (0,0)):=by rw[hw0];exact boxed3_0 _ _ _ _
 have x1:w0.heap[w.heap.size+1]?=some (.cells #[.int .i64 0,.string ⟨#[]⟩,.slice none 0 0,.int .i64 0,.slice none 0 0] 66 (0,0)):=by rw[hw0];exact boxed3_1 _ _ _ _
 have x2:w0.heap[w.heap.size+2]?=some (.cells #[.int .i64 k,.string word,.slice none 0 0,.int .i64 0,.slice none 0 0] 66 (0,0)):=by rw[hw0];exact boxed3_2 _ _ _ _
 have b0:Below w.heap.size w w0:=by rw[hw0];exact Zq0
 have n0:NF w.heap.size w0:=by rw[hw0];exact(((NF.refl w).alloc _ _).alloc _ _).alloc _ _
 have s0:w.heap.size+3=w0.heap.size:=by rw[hw0];simp
 have S0:=hD s0
 have X0:=hD x0
 have X1:=hD x1
 have X2:=hD x2
 clear hw0 s0 x0 x1 x2
 refine(toStringS_nf _ _ _ args _ (HA.out.rd.below b0) HM.out.symm Zq6).mono ?_
 rintro e w1 ⟨⟨v1,rfl,o1,b1,s1⟩,m1⟩
 have n1:=n0.trans b1 m1
 obtain ⟨A1,c1,rfl,hcap1,_,_⟩:=rd_of_own o1
 obtain ⟨_,_,_,p3,p4⟩:=boxcells5 (lay:=b1) X0.out
 obtain ⟨_,_,q2,q3,_⟩:=boxcells5 (lay:=b1) X2.out
 have f2:=boxfree b1 X2.out 2
 have f3:=boxfree b1 X2.out 3
 go_wp2_with fail
 obtain ⟨w2,hw2⟩:∃ w2,w2=(w1.setCell ⟨w.heap.size+2,2,none⟩ (.slice A1 m c1)).setCell ⟨w.heap.size+2,3,none⟩ (.int .i64 count):=⟨_,rfl⟩
 rw[←hw2]
 have hS:=S0.out
 have y1:w2.heap[w.heap.size+1]?=some (.cells #[.int .i64 0,.string ⟨#[]⟩,.slice none 0 0,.int .i64 0,.slice none 0 0] 66 (0,0)):=by
  rw[hw2];exact heap_set_far (heap_set_far ((b1.block _ Zq6).trans X1.out) Zq11 _) Zq11 _
 have y2:w2.heap[w.heap.size+2]?=some (.cells #[.int .i64 k,.string word,.slice A1 m c1,.int .i64 count,.slice none 0 0] 66 (0,0)):=by
  rw[hw2];exact heap_set_self (heap_set_self ((b1.block _ Zq6).trans X2.out) _) _
 have b2:Below w.heap.size w w2:=by rw[hw2];exact((b0.trans (b1.mono Zq6)).setCell Zq11 _).setCell Zq11 _
 have n2:NF w.heap.size w2:=by rw[hw2];exact(n1.setCell _ _).setCell _ _
 have s2:w1.heap.size=w2.heap.size:=by rw[hw2,size_setCell,size_setCell]
 have r1:RdL w2 (w.heap.size+3) 1 A1 m (strs args):=by
  rw[hw2];exact((rdl_own o1).lower Zq6 |>.set_ Zq11 _).set_ Zq11 _
 have Y1:=hD y1
 have Y2:=hD y2
 have R1:=hD r1
 have S2:=hD s2
 clear hw2 y1 y2 r1 s2 p3 p4 q2 q3 f2 f3 o1 hS
 refine(ih lo _ _ _ bd _ (HB.out.below b2) h2).mono ?_
 rintro e w3 ⟨⟨A3,c3,rfl,r3,b3,s3⟩,m3⟩
 have n3:=n2.trans b3 m3
 have N3:=hD n3
 clear n3 m3 n2 m1 n1 n0
 obtain ⟨t0,t1,t2,t3,t4⟩:=boxcells5 (lay:=b3) Y1.out
 obtain ⟨u0,u1,u2,u3,u4⟩:=boxcells5 (lay:=b3) Y2.out
 have g0:=boxfree b3 Y1.out 0
 have g1:=boxfree b3 Y1.out 1
 have g2:=boxfree b3 Y1.out 2
 have g3:=boxfree b3 Y1.out 3
 have g4:=boxfree b3 Y1.out 4
 have g5:=boxfree b3 Y2.out 4
 have R3:=hD r3
 clear r3
 go_wp2_with fail
 have hS:=S0.out
 have hS2:=S2.out
 refine bodyPost_ret (v:=.agg #[.int .i64 k,.string word,.slice A1 m c1,.int .i64 count,.slice A3 nb c3]) (by simp [results,Tryz.results117,go_sem,t0,t1,t2,t3,t4]) rfl ⟨⟨A1,c1,A3,c3,by rw[←HM.out],?_,?_,?_,?_,by rw[←HM.out];exact hcap1⟩,?_⟩
 ·rw[←HM.out]
  exact RdL.lower (lo:=w.heap.size+3) ((((((R1.out.below b3).set_ Zq11 _).set_ Zq11 _).set_ Zq11 _).set_ Zq11 _).set_ Zq11 _ |>.set_ Zq11 _) Zq6
 ·exact RdT.lower (lo:=w2.heap.size) Zq6 ((((((R3.out.set_ Zq9 _).set_ Zq9 _).set_ Zq9 _).set_ Zq9 _).set_ Zq9 _).set_ Zq9 _)
 ·exact(((((((b2.trans (b3.mono Zq6)).setCell Zq5 _).setCell Zq5 _).setCell Zq5 _).setCell Zq5 _).setCell Zq5 _).setCell Zq5 _)
 ·simp [World.setCell];omega
 ·exact(((((N3.out.setCell _ _).setCell _ _).setCell _ _).setCell _ _).setCell _ _).setCell _ _
theorem toStmtS_nf:∀ (d:Nat),ToSaidF d:=by
 intro d
 induction d with
 | zero =>
  intro lo A n c l w h _
  obtain rfl:=szT_zero_len h
  have hl:=h.len
  have HL:=hD hl
  clear hl
  obtain ⟨i0,hi,hz0,hz1,hz2⟩:=info_parts info_Stmt
  obtain ⟨w1,hrun,hown,hgr0⟩:=run_make_full (P:=Tryz.prog) w w.heap.size 25 66 i0 _ 5 Tryz.underlying25 hi hz0 hz1 .i64 .i64 0 Zq6 Zq8 (Nat.le_refl _)
  have b1:Below w.heap.size w w1:=(Below.refl _ _).grown hgr0 (Nat.le_refl _) Zq11
  have hrun':(Instr.makeSlice 25 (.int .i64 0) (.int .i64 0)).run Tryz.prog w=.ok (.slice (some ⟨w.heap.size,0,none⟩) 0 0) w1:=hrun
  have n1:NF w.heap.size w1:=nf_make Tryz.underlying25 hi hz0 (by rw[hz2];omega) Zq6 hrun
  clear hown hgr0 hi hz0 hz1 hz2 hrun
  go_enter Tryz.func65,Tryz.ntmps65
  go_wp2
  refine wp_loop_rounds 1 ?_
  rw[rounds_succ]
  go_wp2
  go_ret
  exact ⟨⟨_,_,rfl,⟨HL.out,rfl⟩,b1,b1.size⟩,n1⟩
 | succ d ih =>
  intro lo A n c l w h hsz
  rw[szT_succ] at hsz
  have hln:=h.len
  have hn:n≤1048576:=by omega
  have HQ:=hD hsz
  obtain ⟨i0,hi,hz0,hz1,hz2⟩:=info_parts info_Stmt
  obtain ⟨w1,hrun,hown,hgr0⟩:=run_make_full (P:=Tryz.prog) w w.heap.size 25 66 i0 _ 5 Tryz.underlying25 hi hz0 hz1 .i64 .i64 n (by rw[hz2];omega) Zq12 (Nat.le_refl _)
  have n1:NF w.heap.size w1:=nf_make Tryz.underlying25 hi hz0 (by rw[hz2];omega) Zq6 hrun
  have H:=hD h
  have HL:=hD hln
  clear h hln hi hz0 hz1 hz2 hsz
  have b1:Below w.heap.size w w1:=(Below.refl _ _).grown hgr0 (Nat.le_refl _) Zq11
  have s1:=hown.lt w.heap.size rfl
  obtain ⟨zs,hzs⟩:∃ zs,zs=(madeCells (Value.agg #[.int .i64 0,.string ⟨#[]⟩,.slice none 0 0,.int .i64 0,.slice none 0 0]).cells (n*5)).toList:=⟨_,rfl⟩
  rw[←hzs] at hown
  have hzl:=hown.1
  have HZ:=hD hzl
  clear hzs hgr0 hzl
  go_enter Tryz.func65,Tryz.ntmps65
  go_wp2
  clear hrun
  go_loopw [4] (fun i wr=>∃ (t:Nat) (vs:List (List Value)),t≤n∧i=.int .i64 t∧CopyUpto wr (w.heap.size+1) d l t vs∧wr.ownsRow w.heap.size 66 5 (.slice (some ⟨w.heap.size,0,none⟩) n n) n (vs.flatten++zs.drop (t*5))∧Below w.heap.size w wr∧NF w.heap.size wr) (fun i _=>n - (intOf i).toNat)
  case atStart=>exact ⟨0,[],Nat.zero_le _,rfl,CopyUpto.nil,by simpa using hown,b1,n1⟩
  case round =>
   clear hown b1 s1 n1
   obtain ⟨t,vs,ht,rfl,hcp,hown,hb,hN⟩:=hrel
   have hgs:=(hown.lt w.heap.size rfl).2
   by_cases hlt:t<n
   ·obtain ⟨b,off,s,Aa,ca,Ab,nb,cb,rfl,hbl,hs,hcs,hra,hrb⟩:=(H.out.below hb).at_ hlt
    obtain ⟨q0,q1,q2,q3,q4⟩:=hcs
    have hme:=szT_mem hs
    have hz1:(hdT s).args.length≤1048576:=by have:=HQ.out;unfold szE at hme;omega
    have hz2:szT d (bdT s)≤1048576:=by have:=HQ.out;unfold szE at hme;omega
    have HS:=hD hs
    have HRa:=hD hra
    have HRb:=hD hrb
    have HCP:=hD hcp
    clear hs hra hrb hcp hme
    go_wp2_with fail
    refine(toStmt_nfc ih lo _ _ _ _ (bdT s) _ _ _ _ _ _ HRa.out HRb.out hz1 hz2).mono ?_
    rintro e w2 ⟨⟨A2,c2,A3,c3,rfl,r2,r3,hb2,hs2,hcap2⟩,m2⟩
    have hN2:=hN.trans hb2 m2
    clear m2
    have HCAP:=hD hcap2
    clear hcap2
    have hown2:=ownsRow_below hown hb2
    have hf:=hown2.frozenAt
    have hz:=hown2.cellAt
    have hll:=hown2.1
    obtain ⟨y0,z0⟩:∃ y,w2.cell? ⟨w.heap.size,t*5,none⟩=some y:=⟨_,(hz _ Zq6).trans (List.getElem?_eq_getElem Zq6)⟩
    obtain ⟨y1,z1⟩:∃ y,w2.cell? ⟨w.heap.size,t*5+1,none⟩=some y:=⟨_,(hz _ Zq6).trans (List.getElem?_eq_getElem Zq6)⟩
    obtain ⟨y2,z2⟩:∃ y,w2.cell? ⟨w.heap.size,t*5+2,none⟩=some y:=⟨_,(hz _ Zq6).trans (List.getElem?_eq_getElem Zq6)⟩
    obtain ⟨y3,z3⟩:∃ y,w2.cell? ⟨w.heap.size,t*5+3,none⟩=some y:=⟨_,(hz _ Zq6).trans (List.getElem?_eq_getElem Zq6)⟩
    obtain ⟨y4,z4⟩:∃ y,w2.cell? ⟨w.heap.size,t*5+4,none⟩=some y:=⟨_,(hz _ Zq6).trans (List.getElem?_eq_getElem Zq6)⟩
    have f0:=hf (t*5)
    have f1:=hf (t*5+1)
    have f2:=hf (t*5+2)
    have f3:=hf (t*5+3)
    have f4:=hf (t*5+4)
    have R2:=hD r2
    have R3:=hD r3
    clear hf hz hll q0 q1 q2 q3 q4 r2 r3 hown
    go_wp2_with fail
    go_roundw
    case rel =>
     have hfl:vs.flatten.length=t*5:=by rw[flatten_len HCP.out.2.1,HCP.out.1]
     have e0:=hown2.stored (t*5) (.int .i64 (hdT s).k)
     have e1:=e0.1.stored (t*5+1) (.string (hdT s).word)
     have e2:=e1.1.stored (t*5+1+1) (.slice A2 (hdT s).args.length c2)
     have e3:=e2.1.stored (t*5+1+1+1) (.int .i64 (hdT s).count)
     have e4:=e3.1.stored (t*5+1+1+1+1) (.slice A3 nb c3)
     rw[fill_step hfl (by rw[HZ.out];omega),fill_step (by simp [hfl]) (by rw[HZ.out];omega),fill_step (by simp [hfl]) (by rw[HZ.out];omega),fill_step (by simp [hfl]) (by rw[HZ.out];omega),fill_step (by simp [hfl]) (by rw[HZ.out];omega)] at e4
     rw[show t*5+1+1+1+1+1=(t+1)*5 from by omega] at e4
     have hlo:w.heap.size+1≤wr.heap.size:=hgs
     have k1:=HCP.out.keep (fun b o _ hlt=>hb2.cell hlt) hb2.size
     have k2:=k1.snoc (ca:=c2) (cb:=c3) HS.out (R2.out.lower hlo) (RdT.lower hlo R3.out) HCAP.out
     refine ⟨t+1,vs++[scells (hdT s) A2 c2 A3 nb c3],by omega,by go_num,?_,?_,?_,?_⟩
     ·exact((((k2.set_ Zq11 _).set_ Zq11 _).set_ Zq11 _).set_ Zq11 _).set_ Zq11 _
     ·rw[List.flatten_append]
      simpa [scells] using e4.1
     ·exact(((((hb.trans (hb2.mono hb.size)).setCell Zq11 _).setCell Zq11 _).setCell Zq11 _).setCell Zq11 _).setCell Zq11 _
     ·exact((((hN2.setCell _ _).setCell _ _).setCell _ _).setCell _ _).setCell _ _
    case measure=>simp [intOf];omega
   ·obtain rfl:t=n:=by omega
    have HCP:=hD hcp
    clear hcp
    go_wp2_with fail
    go_ret
    rw[List.drop_of_length_le (by rw[HZ.out];exact Nat.le_refl _),List.append_nil] at hown
    exact ⟨⟨_,_,rfl,HCP.out.rdT HL.out hown Zq6 (Nat.le_refl _),hb,hb.size⟩,hN⟩
structure Mk (lo hi:Nat) (w w':World):Prop where
 os:w'.os=w.os
 tape:w'.tape=w.tape
 output:w'.output=w.output
 size:w.heap.size≤w'.heap.size
 far:∀ k,k<w.heap.size→(k<lo∨hi≤k)→w'.heap[k]?=w.heap[k]?
 sl:∀ b o A n c,b<hi→w.cell? ⟨b,o,none⟩=some (.slice A n c)→w'.cell? ⟨b,o,none⟩=some (.slice A n c)
 st:∀ b o s,b<hi→w.cell? ⟨b,o,none⟩=some (.string s)→∃ s',w'.cell? ⟨b,o,none⟩=some (.string s')
 it:∀ b o x,b<hi→w.cell? ⟨b,o,none⟩=some (.int .i64 x)→∃ x',w'.cell? ⟨b,o,none⟩=some (.int .i64 x')
 fr:∀ b o,b<hi→w.frozen? ⟨b,o,none⟩=false→w'.frozen? ⟨b,o,none⟩=false
section
variable {lo hi:Nat} {w w' w'':World}
theorem Mk.refl (lo hi:Nat) (w:World):Mk lo hi w w:=⟨rfl,rfl,rfl,Nat.le_refl _,fun _ _ _=>rfl,fun _ _ _ _ _ _ h=>h,fun _ _ _ _ h=>⟨_,h⟩,fun _ _ _ _ h=>⟨_,h⟩,fun _ _ _ h=>h⟩
theorem Mk.trans (h:Mk lo hi w w') (k:Mk lo hi w' w''):Mk lo hi w w'' :=
 ⟨k.os.trans h.os,k.tape.trans h.tape,k.output.trans h.output,Nat.le_trans h.size k.size,fun i hi' hf=>(k.far i (Nat.lt_of_lt_of_le hi' h.size) hf).trans (h.far i hi' hf),
  fun b o A n c hb e=>k.sl b o A n c hb (h.sl b o A n c hb e),fun b o s hb e=>by obtain ⟨s',e'⟩:=h.st b o s hb e;exact k.st b o s' hb e',
  fun b o x hb e=>by obtain ⟨x',e'⟩:=h.it b o x hb e;exact k.it b o x' hb e',fun b o hb e=>k.fr b o hb (h.fr b o hb e)⟩
theorem Mk.of_below (hb:Below w.heap.size w w') (hh:hi≤w.heap.size):Mk lo hi w w' :=
 ⟨hb.os,hb.tape,hb.output,hb.size,fun k hk _=>hb.block k hk,fun b o A n c h e=>(hb.cell (p:=⟨b,o,none⟩) (Nat.lt_of_lt_of_le h hh)).trans e,
  fun b o s h e=>⟨s,(hb.cell (p:=⟨b,o,none⟩) (Nat.lt_of_lt_of_le h hh)).trans e⟩,fun b o x h e=>⟨x,(hb.cell (p:=⟨b,o,none⟩) (Nat.lt_of_lt_of_le h hh)).trans e⟩,
  fun b o h e=>(hb.frozen (p:=⟨b,o,none⟩) (Nat.lt_of_lt_of_le h hh)).trans e⟩
theorem mk_far {b:Nat} (hb:lo≤b∧b<hi) (o:Nat) (u:Value):∀ k,k<w.heap.size→(k<lo∨hi≤k)→(w.setCell ⟨b,o,none⟩ u).heap[k]?=w.heap[k]? :=
 fun k _ hf=>Below.heap_setCell w ⟨b,o,none⟩ u k (fun e=>by have e':k=b:=e;omega)
theorem mk_size {b o:Nat} {u:Value}:w.heap.size≤(w.setCell ⟨b,o,none⟩ u).heap.size:=by rw[size_setCell];exact Nat.le_refl _
theorem mk_cell {b o b' o':Nat} {u v x:Value} (hc:w.cell? ⟨b,o,none⟩=some v) (h:w.cell? ⟨b',o',none⟩=some x):(w.setCell ⟨b,o,none⟩ u).cell? ⟨b',o',none⟩=some x∨(x=v∧(w.setCell ⟨b,o,none⟩ u).cell? ⟨b',o',none⟩=some u):=by
 by_cases e:(⟨b,o,none⟩:Addr)=⟨b',o',none⟩
 ·rw[←e] at h ⊢
  exact .inr ⟨Option.some.inj (h.symm.trans hc),World.cell?_setCell_same w _ u hc⟩
 ·exact .inl ((World.cell?_setCell_other w _ _ u e).trans h)
theorem Mk.str {b o:Nat} {s:ByteArray} (hb:lo≤b∧b<hi) (hc:w.cell? ⟨b,o,none⟩=some (.string s)) (u:ByteArray):Mk lo hi w (w.setCell ⟨b,o,none⟩ (.string u)):=by
 refine ⟨rfl,rfl,rfl,mk_size,mk_far hb o _,fun b' o' A n c _ e=>?_,fun b' o' s' _ e=>?_,fun b' o' x _ e=>?_,fun b' o' _ e=>by simpa using e⟩
 ·rcases mk_cell (u:=.string u) hc e with h|⟨h,_⟩
  ·exact h
  ·cases h
 ·rcases mk_cell (u:=.string u) hc e with h|⟨_,h⟩ <;> exact ⟨_,h⟩
 ·rcases mk_cell (u:=.string u) hc e with h|⟨h,_⟩
  ·exact ⟨_,h⟩
  ·cases h
theorem Mk.int {b o:Nat} {s:Int} (hb:lo≤b∧b<hi) (hc:w.cell? ⟨b,o,none⟩=some (.int .i64 s)) (u:Int):Mk lo hi w (w.setCell ⟨b,o,none⟩ (.int .i64 u)):=by
 refine ⟨rfl,rfl,rfl,mk_size,mk_far hb o _,fun b' o' A n c _ e=>?_,fun b' o' s' _ e=>?_,fun b' o' x _ e=>?_,fun b' o' _ e=>by simpa using e⟩
 ·rcases mk_cell (u:=.int .i64 u) hc e with h|⟨h,_⟩
  ·exact h
  ·cases h
 ·rcases mk_cell (u:=.int .i64 u) hc e with h|⟨h,_⟩
  ·exact ⟨_,h⟩
  ·cases h
 ·rcases mk_cell (u:=.int .i64 u) hc e with h|⟨_,h⟩ <;> exact ⟨_,h⟩
theorem Mk.below (h:Mk lo hi w w') (hl:lo≤w.heap.size):Below lo w w':=⟨h.os,h.tape,h.output,h.size,fun k hk=>h.far k Zq6 (.inl hk)⟩
theorem own_mk {base e size n:Nat} {v:Value} {xs:List Value} (ho:w.ownsRow base e size v n xs) (h:Mk lo hi w w') (hb:hi≤base):w'.ownsRow base e size v n xs:=by
 refine ⟨ho.1,?_⟩
 rcases ho.2 with hn|⟨g,cap,cur,rfl,hg,hh,rest⟩
 ·exact .inl hn
 ·exact .inr ⟨g,cap,cur,rfl,hg,(h.far g (lt_of_block hh) (.inr (Nat.le_trans hb hg))).trans hh,rest⟩
end
def WS (w:World) (lo hi:Nat) (A:Option Addr) (n:Nat):Prop :=
 0<n→∃ b off,A=some ⟨b,off,none⟩∧(lo≤b∧b<hi)∧∀ i,i<n→(∃ s,w.cell? ⟨b,off+i,none⟩=some (.string s))∧w.frozen? ⟨b,off+i,none⟩=false
theorem WS.mk {lo hi n:Nat} {w w':World} {A:Option Addr} (h:WS w lo hi A n) (k:Mk lo hi w w'):WS w' lo hi A n:=fun h0=>by
 obtain ⟨b,off,e,hb,hc⟩:=h h0
 refine ⟨b,off,e,hb,fun i hi'=>?_⟩
 obtain ⟨⟨s,h1⟩,h2⟩:=hc i hi'
 exact ⟨k.st _ _ _ hb.2 h1,k.fr _ _ hb.2 h2⟩
theorem ws_of {lo n:Nat} {w:World} {A:Option Addr} {l:List ByteArray} (h:RdL w lo 1 A n (strs l)) (hf:NF lo w):WS w lo w.heap.size A n:=fun h0=>by
 obtain ⟨b,off,e,h1,h2,hc⟩:=h.2 h0
 have hl:=h.1
 rw[strs_length] at hl
 refine ⟨b,off,e,⟨h1,h2⟩,fun i hi=>⟨?_,hf b _ h1 h2⟩⟩
 obtain ⟨s,hs⟩:∃ s,l[i]?=some s:=⟨_,List.getElem?_eq_getElem Zq6⟩
 exact ⟨s,hc i _ (strs_at hs)⟩
def WT (w:World) (lo hi:Nat):(d:Nat)→Option Addr→Nat→List (Tr d)→Prop
 | 0,_,n,l=>l.length=n∧n=0
 | d+1,A,n,l=>l.length=n∧(0<n→∃ b off,A=some ⟨b,off,none⟩∧(lo≤b∧b<hi)∧∀ (i:Nat) (s:Tr (d+1)),l[i]?=some s →
   ∃ k word Aa ca ct Ab nb cb,(w.cell? ⟨b,off+i*5,none⟩=some (.int .i64 k)∧w.cell? ⟨b,off+i*5+1,none⟩=some (.string word)∧w.cell? ⟨b,off+i*5+2,none⟩=some (.slice Aa (hdT s).args.length ca) ∧
    w.cell? ⟨b,off+i*5+3,none⟩=some (.int .i64 ct)∧w.cell? ⟨b,off+i*5+4,none⟩=some (.slice Ab nb cb)) ∧
    (w.frozen? ⟨b,off+i*5,none⟩=false∧w.frozen? ⟨b,off+i*5+1,none⟩=false∧w.frozen? ⟨b,off+i*5+3,none⟩=false)∧WS w lo hi Aa (hdT s).args.length∧WT w lo hi d Ab nb (bdT s))
theorem WT.len {lo hi:Nat} {w:World}:∀ {d n:Nat} {A:Option Addr} {l:List (Tr d)},WT w lo hi d A n l→l.length=n
 | 0,_,_,_,h=>h.1
 | _+1,_,_,_,h=>h.1
theorem WT.mk {lo hi:Nat} {w w':World} (k:Mk lo hi w w'):∀ {d n:Nat} {A:Option Addr} {l:List (Tr d)},WT w lo hi d A n l→WT w' lo hi d A n l:=by
 intro d
 induction d with
 | zero=>intro n A l h;exact h
 | succ d ih =>
  intro n A l h
  refine ⟨h.1,fun h0=>?_⟩
  obtain ⟨b,off,e,hb,hc⟩:=h.2 h0
  refine ⟨b,off,e,hb,fun i s hi'=>?_⟩
  obtain ⟨kk,word,Aa,ca,ct,Ab,nb,cb,⟨c0,c1,c2,c3,c4⟩,⟨f0,f1,f3⟩,h1,h2⟩:=hc i s hi'
  obtain ⟨kk',d0⟩:=k.it _ _ _ hb.2 c0
  obtain ⟨word',d1⟩:=k.st _ _ _ hb.2 c1
  obtain ⟨ct',d3⟩:=k.it _ _ _ hb.2 c3
  exact ⟨kk',word',Aa,ca,ct',Ab,nb,cb,⟨d0,d1,k.sl _ _ _ _ _ hb.2 c2,d3,k.sl _ _ _ _ _ hb.2 c4⟩,⟨k.fr _ _ hb.2 f0,k.fr _ _ hb.2 f1,k.fr _ _ hb.2 f3⟩,h1.mk k,ih h2⟩
theorem wt_of {lo:Nat} {w:World} (hf:NF lo w):∀ {d n:Nat} {A:Option Addr} {l:List (Tr d)},RdT w lo d A n l→WT w lo w.heap.size d A n l:=by
 intro d
 induction d with
 | zero=>intro n A l h;exact h
 | succ d ih =>
  intro n A l h
  refine ⟨h.1,fun h0=>?_⟩
  obtain ⟨b,off,e,h1,h2,hc⟩:=h.2 h0
  refine ⟨b,off,e,⟨h1,h2⟩,fun i s hi'=>?_⟩
  obtain ⟨Aa,ca,Ab,nb,cb,hs,g1,g2,_⟩:=hc i s hi'
  exact ⟨_,_,Aa,ca,_,Ab,nb,cb,hs,⟨hf _ _ h1 h2,hf _ _ h1 h2,hf _ _ h1 h2⟩,ws_of g1 hf,ih g2⟩
def kT:(d:Nat)→List (Tr d)→Nat
 | 0,_=>0
 | d+1,l=>(l.map fun (s:Tr (d+1))=>3+(hdT s).args.length+kT d (bdT s)).sum
def kE {d:Nat} (s:Tr (d+1)):Nat:=3+(hdT s).args.length+kT d (bdT s)
theorem kT_take {d:Nat} (l:List (Tr (d+1))) (t:Nat) (s:Tr (d+1)) (h:l[t]?=some s):kT (d+1) (l.take (t+1))=kT (d+1) (l.take t)+kE s:=by
 rw[List.take_add_one,h]
 simp [kT,kE]
theorem kT_take_le {d:Nat} (l:List (Tr (d+1))) (t:Nat):kT (d+1) (l.take t)≤kT (d+1) l:=by
 have h:kT (d+1) l=kT (d+1) (l.take t)+kT (d+1) (l.drop t):=by
  simp only[kT]
  rw[←List.sum_append,←List.map_append,List.take_append_drop]
 omega
theorem kT_le:∀ (d:Nat) (l:List (Tr d)),kT d l≤3*szT d l:=by
 intro d
 induction d with
 | zero=>intro l;exact Nat.zero_le _
 | succ d ih =>
  intro l
  rw[szT_succ]
  unfold sumE
  simp only[kT]
  induction l with
  | nil=>simp
  | cons s l ih2 =>
   have h1:=ih (bdT s)
   simp only[List.map_cons,List.sum_cons,List.length_cons]
   have h2:szE s=(hdT s).word.size+((hdT s).args.length+szS (hdT s).args+szT d (bdT s)):=rfl
   omega
def mdig:Nat→Nat→ByteArray→ByteArray
 | 0,_,acc=>acc
 | f+1,k,acc=>if k=0 then acc else mdig f (k / 10) (⟨#[(48+k % 10).toUInt8]⟩++acc)
theorem mdig_zero (f:Nat) (acc:ByteArray):mdig f 0 acc=acc:=by cases f <;> simp [mdig]
theorem mdig_step {f k:Nat} (acc:ByteArray) (h:0<k):mdig (f+1) k acc=mdig f (k / 10) (⟨#[(48+k % 10).toUInt8]⟩++acc):=by rw[mdig,if_neg Zq6]
def mtx (k:Int):ByteArray:=⟨#[109]⟩++mdig 20 k.toNat ⟨#[]⟩
theorem pow_div {f k:Nat} (h:k<10 ^ (f+1)):k / 10<10 ^ f:=by rw[Nat.pow_succ] at h;omega
theorem pow_zero_lt {f k:Nat} (h:k<10 ^ f) (h0:0<k):∃ f',f=f'+1:=by
 cases f with
 | zero=>simp at h;omega
 | succ f=>exact ⟨f,rfl⟩
theorem u8_of (k:Nat):(((48+k % 10).toUInt8).toNat:Int)=48+(k:Int) % 10:=by
 have:(48+k % 10).toUInt8.toNat=(48+k % 10) % 256:=by simp [Nat.toUInt8]
 omega
theorem conv1 (W:World) (b:UInt8):(convert 22 9 (.slice (some ⟨W.heap.size,0,none⟩) 1 1)).run Tryz.prog (W.alloc (.cells #[.int .u8 (b.toNat:Int)] 5))=.ok (.string ⟨#[b]⟩) (W.alloc (.cells #[.int .u8 (b.toNat:Int)] 5)):=by
 refine run_convert_bytes_back _ _ _ 5 ⟨W.heap.size,0,none⟩ 1 [b] Tryz.underlying22 Tryz.underlying5 Tryz.underlying9 (fun j hj=>?_)
 obtain rfl:j=0:=by simpa using hj
 exact World.cell?_alloc_mark W _ _ _ 0
theorem markText_any (k:Int) (w:World) (h0:1≤k) (h1:k≤1099511627776000):Calls Tryz.prog 123 #[.int .i64 k] w fun e w'=>e=.returned (.string (mtx k))∧Below w.heap.size w w'∧w.heap.size≤w'.heap.size:=by
 obtain ⟨K,rfl⟩:∃ K:Nat,k=K:=⟨k.toNat,by omega⟩
 obtain ⟨M,hM⟩:∃ M,M=mdig 20 K ⟨#[]⟩:=⟨_,rfl⟩
 have HT:=hD (show mtx (K:Int)=⟨#[109]⟩++M by rw[hM,mtx];rfl)
 have HP:=hD (show K<10 ^ 20 by omega)
 have HM:=hD hM.symm
 clear hM
 have hd:decide (K=0)=false:=by simp;omega
 go_enter Tryz.func123,Tryz.ntmps123
 go_wp2_with fail
 go_loopw [0,3] (fun kk o wr=>∃ (f j:Nat) (acc:ByteArray),f≤20∧kk=.int .i64 j∧j≤1099511627776000∧j<10 ^ f∧acc.size+f=20∧o=.string acc∧Hid (mdig f j acc=M)∧Below w.heap.size w wr) (fun kk _ _=>(intOf kk).toNat)
 case atStart=>exact ⟨20,K,⟨#[]⟩,Nat.le_refl _,rfl,by omega,HP.out,rfl,rfl,HM,Below.refl _ _⟩
 case round =>
  obtain ⟨f,j,acc,hf,rfl,hj,hp,hs,rfl,hm,hb⟩:=hrel
  have hbs:=hb.size
  by_cases hlt:0<j
  ·obtain ⟨f,rfl⟩:=pow_zero_lt hp hlt
   have HP2:=hD (pow_div hp)
   have HM2:=hD ((mdig_step acc hlt).symm.trans hm.out)
   clear hp hm
   obtain ⟨b,hbb⟩:∃ b,b=(48+j % 10).toUInt8:=⟨_,rfl⟩
   have hb8:=u8_of j
   rw[←hbb] at HM2 hb8
   have kc:∀ W:World,(convert 22 9 (.slice (some ⟨W.heap.size,0,none⟩) 1 1)).run Tryz.prog (W.alloc (.cells #[.int .u8 (48+(j:Int) % 10)] 5))=.ok (.string ⟨#[b]⟩) (W.alloc (.cells #[.int .u8 (48+(j:Int) % 10)] 5)):=fun W=>by
    rw[←hb8]
    exact conv1 W b
   have e1:∀ w:World,(Op.stringOp .add ⟨#[b]⟩ acc).run Tryz.prog w=.ok (.string (⟨#[b]⟩++acc)) w:=fun w=>run_string_add_sum w _ _ (by show 1+acc.size≤_;omega)
   clear hbb hb8
   go_wp2_with fail
   go_roundw
   case rel=>exact ⟨f,j / 10,⟨#[b]⟩++acc,by omega,by simp,by omega,HP2.out,by rw[ByteArray.size_append];show 1+acc.size+f=20;omega,rfl,HM2,Zq0⟩
   case measure=>simp [intOf];omega
  ·have hacc:acc=M:=by
    have:=hm.out
    obtain rfl:j=0:=by omega
    rwa [mdig_zero] at this
   subst hacc
   have e0:decide (0<(j:Int))=false:=by simp;omega
   have e2:decide (0<j)=false:=by simp;omega
   have e1:∀ w:World,(Op.stringOp .add ⟨#[109]⟩ acc).run Tryz.prog w=.ok (.string (⟨#[109]⟩++acc)) w:=fun w=>run_string_add_sum w _ _ (by show 1+acc.size≤_;omega)
   clear hm HM
   go_wp2_with fail
   go_ret
   exact ⟨by rw[HT.out];rfl,Zq0,by omega⟩
theorem markStringS_any (lo hi:Nat) (A:Option Addr) (n c:Nat) (k:Int) (w:World) (h:WS w lo hi A n) (hh:hi≤w.heap.size) (hn:n≤1099511627776) (hk0:1≤k) (hk1:k≤1099511627776) :
  Calls Tryz.prog 71 #[.slice A n c,.int .i64 k] w fun e w'=>e=.returned (.int .i64 (k+n))∧Mk lo hi w w':=by
 have H:=hD h
 clear h
 go_enter Tryz.func71,Tryz.ntmps71
 go_wp2
 go_loopw [1,5] (fun kk i wr=>∃ t:Nat,t≤n∧i=.int .i64 t∧kk=.int .i64 (k+t)∧Mk lo hi w wr) (fun _ i _=>n - (intOf i).toNat)
 case atStart=>exact ⟨0,Nat.zero_le _,rfl,by simp,Mk.refl _ _ _⟩
 case round =>
  obtain ⟨t,ht,rfl,rfl,hm⟩:=hrel
  have hms:=hm.size
  by_cases hlt:t<n
  ·obtain ⟨b,off,rfl,hbl,hc⟩:=(H.out.mk hm) Zq6
   obtain ⟨⟨s,q0⟩,f0⟩:=hc t hlt
   clear hc
   have hbh:=hbl.2
   go_wp2_with fail
   refine(markText_any _ _ Zq6 Zq6).mono ?_
   rintro e w1 ⟨rfl,b1,s1⟩
   have q1:w1.cell? ⟨b,off+t,none⟩=some (.string s):=(b1.cell (p:=⟨b,off+t,none⟩) (by show b<_;omega)).trans q0
   have f1:w1.frozen? ⟨b,off+t,none⟩=false:=(b1.frozen (p:=⟨b,off+t,none⟩) (by show b<_;omega)).trans f0
   have m1:=hm.trans (Mk.of_below b1 Zq6)
   clear q0 f0
   go_wp2_with fail
   go_roundw
   case rel=>exact ⟨t+1,by omega,by go_num,by congr 1;omega,m1.trans (Mk.str hbl q1 _)⟩
   case measure=>simp [intOf];omega
  ·obtain rfl:t=n:=by omega
   go_wp2_with fail
   go_ret
   exact ⟨rfl,hm⟩
theorem mk5 {lo hi b o:Nat} {w w':World} {wd:ByteArray} {ct:Int} {Aa Ab:Option Addr} {na ca nb cb:Nat} (m:Mk lo hi w w') (hb:b<hi) (q1:w.cell? ⟨b,o+1,none⟩=some (.string wd)) (q2:w.cell? ⟨b,o+2,none⟩=some (.slice Aa na ca))
  (q3:w.cell? ⟨b,o+3,none⟩=some (.int .i64 ct)) (q4:w.cell? ⟨b,o+4,none⟩=some (.slice Ab nb cb)) (f1:w.frozen? ⟨b,o+1,none⟩=false) (f3:w.frozen? ⟨b,o+3,none⟩=false) :
  (∃ wd',w'.cell? ⟨b,o+1,none⟩=some (.string wd'))∧w'.cell? ⟨b,o+2,none⟩=some (.slice Aa na ca)∧(∃ ct',w'.cell? ⟨b,o+3,none⟩=some (.int .i64 ct'))∧w'.cell? ⟨b,o+4,none⟩=some (.slice Ab nb cb)∧w'.frozen? ⟨b,o+1,none⟩=false∧w'.frozen? ⟨b,o+3,none⟩=false :=
 ⟨m.st _ _ _ hb q1,m.sl _ _ _ _ _ hb q2,m.it _ _ _ hb q3,m.sl _ _ _ _ _ hb q4,m.fr _ _ hb f1,m.fr _ _ hb f3⟩
def MkSaid (d:Nat):Prop:=∀ (lo hi:Nat) (A:Option Addr) (n c:Nat) (l:List (Tr d)) (k:Int) (w:World),WT w lo hi d A n l→hi≤w.heap.size→szT d l≤1048576→1≤k→k+kT d l≤1099511627776 →
 Calls Tryz.prog 72 #[.slice A n c,.int .i64 k] w fun e w'=>e=.returned (.int .i64 (k+kT d l))∧Mk lo hi w w'
theorem markStmtS_any:∀ (d:Nat),MkSaid d:=by
 intro d
 induction d with
 | zero =>
  intro lo hi A n c l k w h _ _ _ _
  obtain rfl:n=0:=h.2
  go_enter Tryz.func72,Tryz.ntmps72
  go_wp2
  refine wp_loop_rounds 1 ?_
  rw[rounds_succ]
  go_wp2
  go_ret
  exact ⟨by simp [kT],Mk.refl _ _ _⟩
 | succ d ih =>
  intro lo hi A n c l k w h hh hsz hk0 hk1
  have hl:=h.len
  have hn:n≤1048576:=by rw[szT_succ] at hsz;omega
  have H:=hD h
  have HL:=hD hl
  have HK:=hD hk1
  have HSZ:=hD hsz
  obtain ⟨Z,hZ⟩:∃ Z,Z=kT (d+1) l:=⟨_,rfl⟩
  have HZ:=hD hZ
  rw[←hZ] at hk1 ⊢
  clear h hl hsz hZ
  go_enter Tryz.func72,Tryz.ntmps72
  go_wp2
  go_loopw [1,5] (fun kk i wr=>∃ t:Nat,t≤n∧i=.int .i64 t∧kk=.int .i64 (k+kT (d+1) (l.take t))∧Mk lo hi w wr) (fun _ i _=>n - (intOf i).toNat)
  case atStart=>exact ⟨0,Nat.zero_le _,rfl,by simp [kT],Mk.refl _ _ _⟩
  case round =>
   obtain ⟨t,ht,rfl,rfl,hm⟩:=hrel
   have hms:=hm.size
   by_cases hlt:t<n
   ·obtain ⟨b,off,rfl,hbl,hc⟩:=(H.out.mk hm).2 Zq6
    obtain ⟨s,hs⟩:∃ s,l[t]?=some s:=⟨_,List.getElem?_eq_getElem (by have:=HL.out;omega)⟩
    obtain ⟨k0,wd,Aa,ca,ct,Ab,nb,cb,⟨q0,q1,q2,q3,q4⟩,⟨f0,f1,f3⟩,ha,hb⟩:=hc t s hs
    have hke:=kT_take l t s hs
    have hkl:=kT_take_le l (t+1)
    have hzm:=szT_mem hs
    have hsz:=HSZ.out
    rw[szT_succ] at hsz
    rw[←HZ.out] at hkl
    have HKE:=hD hke
    obtain ⟨K0,hK0⟩:∃ K0,K0=kT (d+1) (l.take t):=⟨_,rfl⟩
    rw[←hK0] at HKE hke ⊢
    obtain ⟨na,hna⟩:∃ na,na=(hdT s).args.length:=⟨_,rfl⟩
    obtain ⟨kb,hkb⟩:∃ kb,kb=kT d (bdT s):=⟨_,rfl⟩
    have hkE:kE s=3+na+kb:=by rw[hna,hkb];rfl
    have hzE:szE s=(hdT s).word.size+((hdT s).args.length+szS (hdT s).args+szT d (bdT s)):=rfl
    have hzb:szT d (bdT s)≤1048576:=by omega
    have hnb:na≤1048576:=by omega
    rw[←hna] at q2 ha
    have hkl2:K0+(3+na+kb)≤Z:=by omega
    have HKE2:Hid (kT (d+1) (l.take (t+1))=K0+(3+na+kb)):=by rw[hke,hkE];exact rfl
    have HKB:=hD hkb
    clear hc hke hkl hzm hsz hs hkE hzE hK0 hna hkb HKE
    have hbh:=hbl.2
    obtain ⟨w1,hw1⟩:∃ w1,w1=wr.setCell ⟨b,off+t*5,none⟩ (.int .i64 (k+K0)):=⟨_,rfl⟩
    have m1:Mk lo hi wr w1:=by rw[hw1];exact Mk.int hbl q0 _
    have HW1:=hD hw1
    clear hw1
    go_wp2_with fail
    rw[←HW1.out]
    obtain ⟨⟨wd1,g1⟩,g2,⟨ct1,g3⟩,g4,e1,e3⟩:=mk5 m1 hbh q1 q2 q3 q4 f1 f3
    have hs1:=m1.size
    have ha1:=ha.mk m1
    have hb1:=hb.mk m1
    have M1:=hD (hm.trans m1)
    clear q0 q1 q2 q3 q4 f0 f1 f3 ha hb m1 hm
    refine(markText_any _ _ Zq6 Zq6).mono ?_
    rintro e w2 ⟨rfl,b2,s2⟩
    have m2:Mk lo hi w1 w2:=Mk.of_below b2 Zq6
    obtain ⟨⟨wd2,q1⟩,q2,⟨ct2,q3⟩,q4,f1,f3⟩:=mk5 m2 hbh g1 g2 g3 g4 e1 e3
    have ha2:=ha1.mk m2
    have hb2:=hb1.mk m2
    have M2:=hD (M1.out.trans m2)
    clear g1 g2 g3 g4 e1 e3 ha1 hb1 m2 b2 M1
    obtain ⟨w3,hw3⟩:∃ w3,w3=w2.setCell ⟨b,off+t*5+1,none⟩ (.string (mtx (k+K0+1))):=⟨_,rfl⟩
    have m3:Mk lo hi w2 w3:=by rw[hw3];exact Mk.str hbl q1 _
    have HW3:=hD hw3
    obtain ⟨⟨wd3,g1⟩,g2,⟨ct3,g3⟩,g4,e1,e3⟩:=mk5 m3 hbh q1 q2 q3 q4 f1 f3
    have hs3:=m3.size
    have ha3:=ha2.mk m3
    have hb3:=hb2.mk m3
    have M3:=hD (M2.out.trans m3)
    rw[hw3] at g2
    clear hw3 ha2 hb2 m3 M2
    go_wp2_with fail
    rw[←HW3.out]
    rw[←HW3.out] at g2
    clear q1 q2 q3 q4 f1 f3
    refine(markStringS_any lo hi _ _ _ _ _ ha3 Zq6 Zq6 Zq6 Zq6).mono ?_
    rintro e w4 ⟨rfl,m4⟩
    have hs4:=m4.size
    obtain ⟨⟨wd4,q1⟩,q2,⟨ct4,q3⟩,q4,f1,f3⟩:=mk5 m4 hbh g1 g2 g3 g4 e1 e3
    have hb4:=hb3.mk m4
    have M4:=hD (M3.out.trans m4)
    clear g1 g2 g3 g4 e1 e3 ha3 hb3 m4 M3
    obtain ⟨w5,hw5⟩:∃ w5,w5=w4.setCell ⟨b,off+t*5+3,none⟩ (.int .i64 (k+K0+1+1+na)):=⟨_,rfl⟩
    have m5:Mk lo hi w4 w5:=by rw[hw5];exact Mk.int hbl q3 _
    have HW5:=hD hw5
    obtain ⟨_,_,_,g4,_,_⟩:=mk5 m5 hbh q1 q2 q3 q4 f1 f3
    have hs5:=m5.size
    have hb5:=hb4.mk m5
    have M5:=hD (M4.out.trans m5)
    rw[hw5] at g4
    clear hw5 hb4 m5 M4
    go_wp2_with fail
    rw[←HW5.out]
    clear g4 q1 q2 q3 q4 f1 f3
    refine(ih lo hi _ _ _ (bdT s) _ _ hb5 Zq6 hzb Zq6 (by rw[←HKB.out];omega)).mono ?_
    rintro e w6 ⟨rfl,m6⟩
    have M6:=hD (M5.out.trans m6)
    rw[←HKB.out]
    clear m6 M5
    go_wp2_with fail
    go_roundw
    case rel=>exact ⟨t+1,by omega,by go_num,by rw[HKE2.out];congr 1;omega,M6.out⟩
    case measure=>simp [intOf];omega
   ·obtain rfl:t=n:=by omega
    have HF:Hid (kT (d+1) (l.take t)=Z):=by
     rw[List.take_of_length_le (by rw[HL.out];exact Nat.le_refl _)]
     exact HZ.out.symm
    go_wp2_with fail
    go_ret
    exact ⟨by rw[←HF.out];rfl,hm⟩
theorem markProgram_any (d lo hi m nb:Nat) (l:List (Tr d)) (Aq:Option Addr) (cq:Nat) (Ab:Option Addr) (cb:Nat) (k:Int) (w:World) (ha:WS w lo hi Aq m) (hb:WT w lo hi d Ab nb l) (hh:hi≤w.heap.size) (hn:m≤1048576) (hsz:szT d l≤1048576) (hk0:1≤k) (hk1:k≤1000000) :
  Calls Tryz.prog 22 #[.agg #[.slice Aq m cq,.slice Ab nb cb],.int .i64 k] w fun e w'=>e=.returned (.int .i64 (k+m+kT d l))∧Mk lo hi w w':=by
 have hkl:=kT_le d l
 have mb:Mk lo hi w (w.alloc (.cells #[.slice Aq m cq,.slice Ab nb cb] 27)):=Mk.of_below Zq0 hh
 have HA:=hD (ha.mk mb)
 have HB:=hD (hb.mk mb)
 have MB:=hD mb
 obtain ⟨Z,hZ⟩:∃ Z,Z=kT d l:=⟨_,rfl⟩
 have HZ:=hD hZ
 rw[←hZ] at hkl ⊢
 clear ha hb mb hZ
 go_enter Tryz.func22,Tryz.ntmps22
 go_wp2_with fail
 obtain ⟨w0,hw0⟩:∃ w0,w0=w.alloc (.cells #[.slice Aq m cq,.slice Ab nb cb] 27):=⟨_,rfl⟩
 have X0:=hD (show w0.heap[w.heap.size]?=some (.cells #[.slice Aq m cq,.slice Ab nb cb] 27 (0,0)) by rw[hw0];exact boxed1_0 _ _)
 have hs0:w.heap.size+1=w0.heap.size:=by rw[hw0];simp
 rw[←hw0] at HA HB MB ⊢
 clear hw0
 refine(markStringS_any lo hi _ _ _ _ _ HA.out Zq6 Zq6 Zq6 Zq6).mono ?_
 rintro e w1 ⟨rfl,m1⟩
 have hs1:=m1.size
 have hx:w1.heap[w.heap.size]?=some (.cells #[.slice Aq m cq,.slice Ab nb cb] 27 (0,0)):=(m1.far w.heap.size Zq6 (.inr hh)).trans X0.out
 have p4:=cell_at (j:=1) (u:=.slice Ab nb cb) hx rfl
 have hlt:w.heap.size<w1.heap.size:=by omega
 have HB1:=hD (HB.out.mk m1)
 have M1:=hD (MB.out.trans m1)
 clear hx m1
 go_wp2_with fail
 refine(markStmtS_any d lo hi _ _ _ l _ _ HB1.out Zq6 hsz Zq6 (by rw[←HZ.out];omega)).mono ?_
 rintro e w2 ⟨rfl,m2⟩
 rw[←HZ.out]
 have M2:=hD (M1.out.trans m2)
 clear m2
 go_wp2_with fail
 go_ret
 exact ⟨rfl,M2.out⟩
def RetPN (d m nb:Nat) (qs:List ByteArray) (l:List (Tr d)) (w:World) (e:Ending) (w':World):Prop:=RetPC d m nb qs l w e w'∧NF w.heap.size w'
theorem toProgram_cn (d lo:Nat) (Aq:Option Addr) (m cq:Nat) (qs:List ByteArray) (l:List (Tr d)) (Ab:Option Addr) (nb cb:Nat) (w:World)
  (hra:Rd w 1 Aq m (strs qs)) (hrb:RdT w lo d Ab nb l) (hm:qs.length=m) (h1:m≤1048576) (h2:szT d l≤1048576) :
  Calls Tryz.prog 18 #[.agg #[.slice Aq m cq,.slice Ab nb cb]] w (RetPN d m nb qs l w):=by
 have HM:=hD hm
 have HA:=hD hra
 have HB:=hD hrb
 clear hm hra hrb
 go_enter Tryz.func18,Tryz.ntmps18
 go_wp2_with fail
 obtain ⟨w0,hw0⟩:∃ w0,w0=((w.alloc (.cells #[.slice Aq m cq,.slice Ab nb cb] 36)).alloc (.cells #[.slice none 0 0,.slice none 0 0] 27)).alloc (.cells #[.slice none 0 0,.slice none 0 0] 27):=⟨_,rfl⟩
 rw[←hw0]
 have x0:w0.heap[w.heap.size]?=some (.cells #[.slice Aq m cq,.slice Ab nb cb] 36 (0,0)):=by rw[hw0];exact boxed3_0 _ _ _ _
 have x1:w0.heap[w.heap.size+1]?=some (.cells #[.slice none 0 0,.slice none 0 0] 27 (0,0)):=by rw[hw0];exact boxed3_1 _ _ _ _
 have x2:w0.heap[w.heap.size+2]?=some (.cells #[.slice none 0 0,.slice none 0 0] 27 (0,0)):=by rw[hw0];exact boxed3_2 _ _ _ _
 have b0:Below w.heap.size w w0:=by rw[hw0];exact Zq0
 have n0:NF w.heap.size w0:=by rw[hw0];exact(((NF.refl w).alloc _ _).alloc _ _).alloc _ _
 have s0:w.heap.size+3=w0.heap.size:=by rw[hw0];simp
 have S0:=hD s0
 have X0:=hD x0
 have X1:=hD x1
 have X2:=hD x2
 clear hw0 s0 x0 x1 x2
 refine(toStringS_nf _ _ _ qs _ (HA.out.below b0) HM.out Zq6).mono ?_
 rintro e w1 ⟨⟨v1,rfl,o1,b1,s1⟩,m1⟩
 have n1:=n0.trans b1 m1
 obtain ⟨A1,c1,rfl,hcap1,_,_⟩:=rd_of_own o1
 have HCAP:=hD hcap1
 clear hcap1
 obtain ⟨p0,p1⟩:=boxcells2 (lay:=b1) X0.out
 obtain ⟨q0,q1⟩:=boxcells2 (lay:=b1) X2.out
 have f0:=boxfree b1 X2.out 0
 go_wp2_with fail
 obtain ⟨w2,hw2⟩:∃ w2,w2=w1.setCell ⟨w.heap.size+2,0,none⟩ (.slice A1 m c1):=⟨_,rfl⟩
 rw[←hw2]
 have hS:=S0.out
 have y1:w2.heap[w.heap.size+1]?=some (.cells #[.slice none 0 0,.slice none 0 0] 27 (0,0)):=by
  rw[hw2];exact heap_set_far ((b1.block _ Zq6).trans X1.out) Zq11 _
 have y2:w2.heap[w.heap.size+2]?=some (.cells #[.slice A1 m c1,.slice none 0 0] 27 (0,0)):=by
  rw[hw2];exact heap_set_self ((b1.block _ Zq6).trans X2.out) _
 have b2:Below w.heap.size w w2:=by rw[hw2];exact(b0.trans (b1.mono Zq6)).setCell Zq11 _
 have n2:NF w.heap.size w2:=by rw[hw2];exact n1.setCell _ _
 have s2:w1.heap.size=w2.heap.size:=by rw[hw2,size_setCell]
 have r1:RdL w2 (w.heap.size+3) 1 A1 m (strs qs):=by
  rw[hw2];exact(rdl_own o1).lower Zq6 |>.set_ Zq11 _
 have Y1:=hD y1
 have Y2:=hD y2
 have R1:=hD r1
 have S2:=hD s2
 clear hw2 y1 y2 r1 s2 p0 p1 q0 q1 f0 o1 hS
 refine(toStmtS_nf d lo _ _ _ l _ (HB.out.below b2) h2).mono ?_
 rintro e w3 ⟨⟨A3,c3,rfl,r3,b3,s3⟩,m3⟩
 have n3:=n2.trans b3 m3
 have N3:=hD n3
 clear n3 m3 n2 m1 n1 n0
 obtain ⟨t0,t1⟩:=boxcells2 (lay:=b3) Y1.out
 obtain ⟨u0,u1⟩:=boxcells2 (lay:=b3) Y2.out
 have g0:=boxfree b3 Y1.out 0
 have g1:=boxfree b3 Y1.out 1
 have g5:=boxfree b3 Y2.out 1
 have R3:=hD r3
 clear r3
 go_wp2_with fail
 have hS:=S0.out
 have hS2:=S2.out
 refine bodyPost_ret (v:=.agg #[.slice A1 m c1,.slice A3 nb c3]) (by simp [results,Tryz.results18,go_sem,t0,t1]) rfl ⟨⟨A1,c1,A3,c3,rfl,?_,?_,?_,?_,HCAP.out⟩,?_⟩
 ·exact RdL.lower (lo:=w.heap.size+3) ((((R1.out.below b3).set_ Zq11 _).set_ Zq11 _).set_ Zq11 _) Zq6
 ·exact RdT.lower (lo:=w2.heap.size) Zq6 (((R3.out.set_ Zq9 _).set_ Zq9 _).set_ Zq9 _)
 ·exact((((b2.trans (b3.mono Zq6)).setCell Zq5 _).setCell Zq5 _).setCell Zq5 _)
 ·simp [World.setCell];omega
 ·exact((N3.out.setCell _ _).setCell _ _).setCell _ _
theorem grown_of_belowR {a w:World} (h:Below a.heap.size a w) (row:Option Nat):a.grownBy w row:=⟨h.os,h.tape,h.output,h.size,fun i hi _=>h.block i hi⟩
theorem markRoutine_any (N I B:Int) (A:Option Addr) (n c base:Nat) (xs:List Value) (k:Int) (w:World) (hown:w.ownsRow base 104 8 (.slice A n c) n xs) (hn:n≤1099511627776) (hk0:0≤k) (hk1:k≤1099511627776) :
  Calls Tryz.prog 23 #[.agg #[.int .i64 N,.int .i64 I,.int .i64 B,.slice A n c],.int .i64 k] w fun e w'=>e=.returned (.int .i64 (k+n*8))∧w'.ownsRow base 104 8 (.slice A n c) n (marks k (n*8))∧w.grownBy w' (Value.slice A n c).ownBlock:=by
 have b0:Below w.heap.size w (w.alloc (.cells #[.int .i64 N,.int .i64 I,.int .i64 B,.slice A n c] 40)):=Zq0
 have O:=hD (ownsRow_below hown b0)
 have G:=hD (grown_of_belowR b0 (Value.slice A n c).ownBlock)
 clear hown b0
 go_enter Tryz.func23,Tryz.ntmps23
 go_wp2_with fail
 refine(markOpS_any _ _ _ _ _ _ O.out hn hk0 hk1).mono ?_
 rintro e w1 ⟨rfl,o1,g1⟩
 have O1:=hD o1
 have G1:=hD (G.out.andThen g1 (fun j hj=>.inr hj))
 clear o1 g1
 go_wp2_with fail
 go_ret
 exact ⟨rfl,O1.out,G1.out⟩
theorem heldRoutine_any (N I B:Int) (A:Option Addr) (n c:Nat) (k:Int) (w:World) (h:Rd w 8 A n (marks k (n*8))) (hn:n≤1099511627776) (hk0:0≤k) (hk1:k≤1099511627776) :
  Calls Tryz.prog 24 #[.agg #[.int .i64 N,.int .i64 I,.int .i64 B,.slice A n c],.int .i64 k] w fun e w'=>e=.returned (.int .i64 (k+n*8))∧Below w.heap.size w w'∧w.heap.size≤w'.heap.size:=by
 have b0:Below w.heap.size w (w.alloc (.cells #[.int .i64 N,.int .i64 I,.int .i64 B,.slice A n c] 40)):=Zq0
 have H:=hD (h.below b0)
 clear h b0
 go_enter Tryz.func24,Tryz.ntmps24
 go_wp2_with fail
 refine(heldOpS_any _ _ _ _ _ H.out hn hk0 hk1).mono ?_
 rintro e w1 ⟨rfl,rfl⟩
 go_wp2_with fail
 go_ret
 exact ⟨rfl,Zq0,Zq5⟩
end Go.Proofs.YthkbckkghnbonaaGreatDoor
