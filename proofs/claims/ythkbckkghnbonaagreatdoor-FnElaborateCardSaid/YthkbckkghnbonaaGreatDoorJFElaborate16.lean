/- What the calls that this law reaches answer, part 16 of 20. -/
import Derived.Test.YthkbckkghnbonaaGreatDoorJFElaborate13
import Derived.Test.YthkbckkghnbonaaGreatDoorJFElaborate15
import Derived.Test.YthkbckkghnbonaaGreatDoorJFElaborate3
import Derived.Test.YthkbckkghnbonaaGreatDoorJFElaborate1
import Derived.Test.YthkbckkghnbonaaGreatDoorJFElaborate5
import Derived.Test.YthkbckkghnbonaaGreatDoorJFElaborate4
set_option maxRecDepth 100000
set_option maxHeartbeats 16000000
set_option linter.unusedVariables false
namespace Go.Proofs.YthkbckkghnbonaaGreatDoor
open Go.RowKit
set_option linter.unusedVariables false
theorem ytj {w:World} {lo size n:Nat} {A:Option Addr} {xs:List Value} {P:Nat→Prop} (hp:∀ b,lo≤b→b<w.heap.size→P b) (h:RdL w lo size A n xs):RdQ w P size A n xs:=by
 refine ⟨h.1,fun g=>?_⟩
 obtain ⟨b',off',e',hl',hb',hc'⟩:=h.2 g
 exact ⟨b',off',e',hp b' hl' hb',hb',hc'⟩
theorem ynb:∀ d,ymc d
 | 0=>yrw
 | d+1=>yrx (yr0 (ynb d))
theorem ylb (d lo lo':Nat) (Aq:Option Addr) (cq:Nat) (qs:List ByteArray) (l:List (Tr d)) (Ab:Option Addr) (nb cb:Nat) (w:World) (hra:RdL w lo 1 Aq qs.length (strs qs)) (hcq:qs.length≤cq) (hrb:RdT w lo' d Ab nb l) (hG:GN w) (hm:qs.length≤1048576) (hz:szS qs≤1048576) (hsz:szT d l≤1048576) :
  Calls Tryz.prog 19 #[.agg #[.slice Aq qs.length cq,.slice Ab nb cb]] w (yrt (elaP d qs l) w):=by
 obtain ⟨X,hX⟩:∃ X,X=w.heap.size:=⟨_,rfl⟩
 obtain ⟨w0,hw0⟩:∃ w0,w0=(w.alloc (.cells #[.slice Aq qs.length cq,.slice Ab nb cb] 27)).alloc (.cells #[.int .i64 0,.int .i64 0,.int .i64 0,.slice none 0 0] 40):=⟨_,rfl⟩
 have b0:Below w.heap.size w w0:=by rw[hw0];exact Zq0
 have X0:=hD (show w0.heap[X]?=some (.cells #[.slice Aq qs.length cq,.slice Ab nb cb] 27 (0,0)) by rw[hw0,hX];exact ydo _ _ _)
 have Y0:=hD (show w0.heap[X+1]?=some (.cells #[.int .i64 0,.int .i64 0,.int .i64 0,.slice none 0 0] 40 (0,0)) by rw[hw0,hX];exact yem _ _ _)
 have RA0:=hD (hra.below b0)
 have RB0:=hD (hrb.below b0)
 have HG0:=hD (hG.below b0)
 have hs0:=b0.size
 have lX0:=lt_of_block X0.out
 have lY0:=lt_of_block Y0.out
 have B0:=hD b0
 have HX:=hD hX
 have HW0:=hD hw0
 have HVS:=hD (fun W (ra:RdL W lo 1 Aq qs.length (strs qs)) (rb:RdT W lo' d Ab nb l) (hG:GN W)=>yfd d lo lo' Aq cq qs l Ab nb cb W ra rb hG hm hz hsz)
 have HCK:=hD (fun W (ra:RdL W lo 1 Aq qs.length (strs qs)) (rb:RdT W lo' d Ab nb l) (hG:GN W)=>yi3 d lo lo' Aq cq qs l Ab nb cb W ra hcq rb hG hm hz hsz)
 have hXw:w.heap.size≤X:=by omega
 obtain ⟨K,hK⟩:∃ K,K=ckP d qs l:=⟨_,rfl⟩
 have HK:=hD hK
 rw[←hK] at HCK
 clear hw0 b0 hra hrb hG hX hK
 obtain ⟨p0,p1⟩:=ybo (lay:=Below.refl _ _) X0.out
 go_enter Tryz.func19,Tryz.ntmps19
 go_upto_region 1 with (fail)
 rw[←HW0.out,←HX.out]
 go_wp2_with fail
 refine(HCK.out w0 RA0.out RB0.out HG0.out).mono ?_
 rintro e1 w1 ⟨rfl,b1,s1⟩
 have B1:=hD b1
 clear b1 p0 p1
 have RA1:=hD (RA0.out.below B1.out)
 have RB1:=hD (RB0.out.below B1.out)
 have HG1:=hD (HG0.out.below B1.out)
 obtain ⟨p0,p1⟩:=ybo (lay:=B1.out) X0.out
 have lX1:X<w1.heap.size:=by omega
 cases hv:yc7 d qs l
 ·have HF:Hid (elaP d qs l=⟨0,0,0,[],1⟩):=yiz (.inl hv)
  rw[hv] at HVS
  clear hv
  go_upto_region 3 with (go_at_call 11;refine(HVS.out w1 RA1.out RB1.out HG1.out).mono ?_;rintro e2 w2 ⟨rfl,b2,s2⟩)
  have w2Y:=hD ((b2.block _ Zq6).trans ((B1.out.block _ lY0).trans Y0.out))
  obtain ⟨r0,r1,r2,r3⟩:=ycm (w2Y.out)
  have f0:=yab (j:=0) w2Y.out
  have f1:=yab (j:=1) w2Y.out
  have f2:=yab (j:=2) w2Y.out
  have f3:=yab (j:=3) w2Y.out
  have lY:=lt_of_block w2Y.out
  go_wp2_with fail
  refine bodyPost_ret (v:=.tuple #[.agg #[.int .i64 0,.int .i64 0,.int .i64 0,.slice none 0 0],.int .i64 1]) (by simp [results,Tryz.results19,go_sem,r0,r1,r2,r3]) rfl ?_
  rw[HF.out]
  exact ⟨none,0,rfl,World.ownsRow_nil _ _ _ _,(B0.out.trans ((B1.out.trans (b2.mono B1.out.size)).mono hs0)).trans (yco Zq6)⟩
 ·rw[hv] at HVS
  have HVV:=hD hv
  clear hv
  by_cases hk0:K.1=0
  ·have HK0:=hD hk0
   rw[hk0]
   clear hk0
   go_upto_region 4 with (go_at_call 11;refine(HVS.out w1 RA1.out RB1.out HG1.out).mono ?_;rintro e2 w2 ⟨rfl,b2,s2⟩)
   have B2:=hD (belE B1.out b2)
   clear p0 p1
   have RA2:=hD (RA1.out.below b2)
   have RB2:=hD (RB1.out.below b2)
   have HG2:=hD (HG1.out.below b2)
   obtain ⟨p0,p1⟩:=ybo (lay:=B2.out) X0.out
   have lX2:X<w2.heap.size:=by omega
   have lY2:X+1<w2.heap.size:=by omega
   clear b2
   go_upto_region 5 with (fail)
   obtain ⟨gE,hgE⟩:∃ gE,gE=w2.heap.size:=⟨_,rfl⟩
   obtain ⟨w3,hw3⟩:∃ w3,w3=w2.alloc (.cells #[.slice none 0 0,.int .i64 0,.bool false] 89):=⟨_,rfl⟩
   rw[←hw3,←hgE]
   have hh3:w3.heap[gE]?=some (.cells #[.slice none 0 0,.int .i64 0,.bool false] 89 (0,0)):=by rw[hw3,hgE];exact yac _ _
   have hb3:Below w2.heap.size w2 w3:=by rw[hw3];exact Zq0
   have hs3:=hb3.size
   have hgl:=lt_of_block hh3
   have EN3:=hD (show EnvI w3 gE (gE+1) (.slice none 0 0) ⟨[],0,false⟩ from ⟨hh3,World.ownsRow_nil _ _ _ _⟩)
   have GB3:=hD ((GN.b HG2.out).below hb3)
   have HPV:=hD (show ∀ k,(Value.slice none 0 0).ownBlock=some k→¬ (fun b=>b<gE) k from fun k hk=>by cases hk)
   have p1:=(hb3.cell (p:=⟨X,1,none⟩) lX2).trans p1
   have p0:=(hb3.cell (p:=⟨X,0,none⟩) lX2).trans p0
   have TQ3:=hD (yov (P:=fun b=>b<gE) (fun b _ hb=>by rw[hgE];exact hb) RB2.out)
   have TQ3:=hD (TrQ.keep (fun b _ hl=>hb3.block b hl) hb3.size TQ3.out)
   have NQ3:=hD ((ytj (P:=fun b=>b<gE) (fun b _ hb=>by rw[hgE];exact hb) RA2.out).keep (fun b _ hl=>hb3.block b hl) hb3.size)
   have B3:=hD (B2.out.trans (hb3.mono B2.out.size))
   have lX3:X<w3.heap.size:=by omega
   have lY3:X+1<w3.heap.size:=by omega
   obtain ⟨R,hR⟩:∃ R,R=iA d l qs ⟨[],0,false⟩:=⟨_,rfl⟩
   have HR:=hD hR
   obtain ⟨⟨_,hq4⟩,hn4,_⟩:=ykm HVV.out
   have hRL:R.1.length≤2000000:=by rw[hR];exact yga _ _ (ydk HVV.out) hn4
   have hRB:R.2.bits.length≤1048577:=by rw[hR];have:=yk9 d l qs ⟨[],0,false⟩;have e:(⟨[],0,false⟩:Es).bits.length=0:=rfl;omega
   have HALL:=hD (ynb d (fun b=>b<gE) l Ab nb cb gE (gE+1) gE (.slice none 0 0) Aq qs.length cq qs ⟨[],0,false⟩ w3 TQ3.out NQ3.out rfl (ydk HVV.out) (Nat.lt_irrefl _) HPV.out EN3.out (by rw[hgE];exact GB3.out) ⟨Nat.le_refl _,Nat.lt_succ_self _,hgl⟩ hn4 Zq6 (by show 0+szT d l≤_;omega))
   rw[←hR] at HALL
   have hXg:X≠gE:=by omega
   have HGE:=hD hgE
   have HRB:=hD hRB
   have HRL:=hD hRL
   clear hw3 hh3 hb3 hR hgE hRB hRL hn4 hq4
   go_wp2_with fail
   refine HALL.out.mono ?_
   rintro e4 w4 ⟨v4,vq4,rfl,ho4,hen4,hm4,_⟩
   obtain ⟨A4,c4,rfl,_,_,rr4⟩:=yah ho4
   have hs4:=hm4.size
   obtain ⟨nbb,hnbb⟩:∃ n,n=R.2.bits.length:=⟨_,rfl⟩
   have hbl4:R.2.bits.length=nbb:=hnbb.symm
   have hen2:=hen4.2
   rw[hbl4] at hen2
   obtain ⟨Bn,cbb,rfl,_,_,_⟩:=yah hen2
   have hh4:=hen4.1
   have y0:=yaj (j:=0) hh4 rfl
   have y1:=yaj (j:=1) hh4 rfl
   have y2:=yaj (j:=2) hh4 rfl
   have lE4:=lt_of_block hh4
   have p0:=yby hm4 lX3 hXg (fun q=>by cases q) p0
   have lX4:X<w4.heap.size:=by omega
   have hgr4:Below w0.heap.size w0 w4:=B3.out.trans (hm4.below B3.out.size (by have:=B2.out.size;have:=HGE.out;omega) (fun k hk=>by cases hk))
   have B4:=hD hgr4
   have O4:=hD ho4
   have RR4:=hD rr4
   have HBL:=hD hbl4
   have HH4:=hD hh4
   have hRL:=HRL.out
   have hRB:nbb≤1048577:=by rw[←hbl4];exact HRB.out
   clear ho4 hen4 hm4 hh4 rr4 hbl4 hgr4 HALL p1 hnbb hen2
   go_upto_region 6 with (fail)
   obtain ⟨J0,hJ0⟩:∃ J:Array Value→Array Bool→Act→World→Prop,J=(fun A0 Lz a W=>∃ (g0:Nat),∃ x30 x31 x32 x33 x34 x35 x36 x37 x38 x39 x40 x41 x42 x43 x8:Value,a=⟨(((((((((((((((A0.setIfInBounds 30 x30).setIfInBounds 31 x31).setIfInBounds 32 x32).setIfInBounds 33 x33).setIfInBounds 34 x34).setIfInBounds 35 x35).setIfInBounds 36 x36).setIfInBounds 37 x37).setIfInBounds 38 x38).setIfInBounds 39 x39).setIfInBounds 40 x40).setIfInBounds 41 x41).setIfInBounds 42 x42).setIfInBounds 43 x43).setIfInBounds 8 x8),[]⟩∧(Ls Lz 0→x30=.pointer (some ⟨gE,0,none⟩))∧(Ls Lz 1→x31=.pointer (some ⟨gE,0,none⟩))∧(Ls Lz 2→x32=.pointer (some ⟨gE,1,none⟩))∧(Ls Lz 3→x33=.int .i64 (R.2.most:Int))∧(Ls Lz 4→x34=.pointer (some ⟨X,0,none⟩))∧(Ls Lz 5→x35=.slice Aq qs.length cq)∧(Ls Lz 6→x36=.int .i64 (qs.length:Int))∧(Ls Lz 7→x37=.pointer (some ⟨gE,0,none⟩))∧(Ls Lz 8→x38=.pointer (some ⟨gE,0,none⟩))∧(Ls Lz 9→x39=.pointer (some ⟨gE,0,none⟩))∧(Ls Lz 10→x40=.slice Bn nbb cbb)∧(Ls Lz 11→x41=.int .i64 (nbb:Int))∧(Ls Lz 12→x42=.slice A4 R.1.length c4)∧(Ls Lz 13→x43=.agg #[.int .i64 (R.2.most:Int),.int .i64 (qs.length:Int),.int .i64 (nbb:Int),.slice A4 R.1.length c4])∧(Ls Lz 14→x8=.pointer (some ⟨g0,0,none⟩))∧(Ls Lz 15→(x8=.pointer (some ⟨g0,0,none⟩)∧W.heap[g0]?=some (.cells #[.int .i64 (R.2.most:Int),.int .i64 (qs.length:Int),.int .i64 (nbb:Int),.slice A4 R.1.length c4] 40 (0,0))∧w4.heap.size≤g0∧Below w4.heap.size w4 W))∧(Ls Lz 14→¬ Ls Lz 15→(W.heap[g0]?=some (.cells #[.int .i64 0,.int .i64 0,.int .i64 0,.slice none 0 0] 40 (0,0))∧w4.heap.size≤g0))∧(¬ Ls Lz 15→Below w4.heap.size w4 W)∧(Ls Lz 15→¬ Ls Lz 15→True)):=⟨_,rfl⟩
   have HJ0:=hD hJ0
   clear hJ0
   refine ya3 Zq8 J0 ?_ ?_ ?_
   ·intro A0
    rw[HJ0.out]
    exact ⟨0,A0.getD 30 undef,A0.getD 31 undef,A0.getD 32 undef,A0.getD 33 undef,A0.getD 34 undef,A0.getD 35 undef,A0.getD 36 undef,A0.getD 37 undef,A0.getD 38 undef,A0.getD 39 undef,A0.getD 40 undef,A0.getD 41 undef,A0.getD 42 undef,A0.getD 43 undef,A0.getD 8 undef,by simp only[ybm],zn,zn,zn,zn,zn,zn,zn,zn,zn,zn,zn,zn,zn,zn,zn,zn,zn,fun _=>ycb (Below.refl _ _),zn⟩
   ·intro Lz a W hsize hcl hJ i hi
    have hil:=ybn hi
    have hnl:=ybi hi
    have hnow:=ybh hi hsize
    have HCL:=hD hcl
    rw[HJ0.out] at hJ
    obtain ⟨g0,x30,x31,x32,x33,x34,x35,x36,x37,x38,x39,x40,x41,x42,x43,x8,rfl,HF⟩:=hJ
    have HH:=hD HF
    have hi2:i=0∨i=1∨i=2∨i=3∨i=4∨i=5∨i=6∨i=7∨i=8∨i=9∨i=10∨i=11∨i=12∨i=13∨i=14∨i=15:=by simp at hil;omega
    clear hil hcl HF
    rcases hi2 with rfl|rfl|rfl|rfl|rfl|rfl|rfl|rfl|rfl|rfl|rfl|rfl|rfl|rfl|rfl|rfl
    ·clear hi HCL
     simp only[zA,zB,zC]
     refine yaa rfl rfl fun K hK=>?_
     go_wp2_with fail
     rw[HJ0.out]
     exact ⟨g0,.pointer (some ⟨gE,0,none⟩),x31,x32,x33,x34,x35,x36,x37,x38,x39,x40,x41,x42,x43,x8,(by simp only[zA,zB,zC]),zT HH⟩
    ·have D0:=(pj0 HH.out) (rq hi 0)
     clear hi HCL
     simp only[zA,zB,zC,D0]
     refine yaa rfl rfl fun K hK=>?_
     go_wp2_with fail
     rw[HJ0.out]
     exact ⟨g0,x30,.pointer (some ⟨gE,0,none⟩),x32,x33,x34,x35,x36,x37,x38,x39,x40,x41,x42,x43,x8,(by simp only[zA,zB,zC,D0]),zT HH⟩
    ·have D1:=(pj1 HH.out) (rq hi 1)
     clear hi HCL
     simp only[zA,zB,zC,D1]
     refine yaa rfl rfl fun K hK=>?_
     go_wp2_with fail
     rw[HJ0.out]
     exact ⟨g0,x30,x31,.pointer (some ⟨gE,1,none⟩),x33,x34,x35,x36,x37,x38,x39,x40,x41,x42,x43,x8,(by simp only[zA,zB,zC,D1]),zT HH⟩
    ·have hns:¬ Ls Lz 15:=fun h=>hnl (dq HCL (dq HCL h 13) 3)
     have D2:=(pj2 HH.out) (rq hi 2)
     have V0:=(pj17 HH.out) hns
     clear hi HCL
     simp only[zA,zB,zC,D2]
     have q0:=(V0.cell (p:=⟨gE,1,none⟩) lE4).trans y1
     refine yaa rfl rfl fun K hK=>?_
     go_wp2_with fail
     rw[HJ0.out]
     exact ⟨g0,x30,x31,x32,.int .i64 (R.2.most:Int),x34,x35,x36,x37,x38,x39,x40,x41,x42,x43,x8,(by simp only[zA,zB,zC,D2]),zT HH⟩
    ·clear hi HCL
     simp only[zA,zB,zC]
     refine yaa rfl rfl fun K hK=>?_
     go_wp2_with fail
     rw[HJ0.out]
     exact ⟨g0,x30,x31,x32,x33,.pointer (some ⟨X,0,none⟩),x35,x36,x37,x38,x39,x40,x41,x42,x43,x8,(by simp only[zA,zB,zC]),zT HH⟩
    ·have hns:¬ Ls Lz 15:=fun h=>hnl (dq HCL (dq HCL (dq HCL h 13) 6) 5)
     have D4:=(pj4 HH.out) (rq hi 4)
     have V0:=(pj17 HH.out) hns
     clear hi HCL
     simp only[zA,zB,zC,D4]
     have q0:=(V0.cell (p:=⟨X,0,none⟩) lX4).trans p0
     refine yaa rfl rfl fun K hK=>?_
     go_wp2_with fail
     rw[HJ0.out]
     exact ⟨g0,x30,x31,x32,x33,x34,.slice Aq qs.length cq,x36,x37,x38,x39,x40,x41,x42,x43,x8,(by simp only[zA,zB,zC,D4]),zT HH⟩
    ·have D5:=(pj5 HH.out) (rq hi 5)
     clear hi HCL
     simp only[zA,zB,zC,D5]
     refine yaa rfl rfl fun K hK=>?_
     go_wp2_with fail
     rw[HJ0.out]
     exact ⟨g0,x30,x31,x32,x33,x34,x35,.int .i64 (qs.length:Int),x37,x38,x39,x40,x41,x42,x43,x8,(by simp only[zA,zB,zC,D5]),zT HH⟩
    ·clear hi HCL
     simp only[zA,zB,zC]
     refine yaa rfl rfl fun K hK=>?_
     go_wp2_with fail
     rw[HJ0.out]
     exact ⟨g0,x30,x31,x32,x33,x34,x35,x36,.pointer (some ⟨gE,0,none⟩),x38,x39,x40,x41,x42,x43,x8,(by simp only[zA,zB,zC]),zT HH⟩
    ·have D7:=(pj7 HH.out) (rq hi 7)
     clear hi HCL
     simp only[zA,zB,zC,D7]
     refine yaa rfl rfl fun K hK=>?_
     go_wp2_with fail
     rw[HJ0.out]
     exact ⟨g0,x30,x31,x32,x33,x34,x35,x36,x37,.pointer (some ⟨gE,0,none⟩),x39,x40,x41,x42,x43,x8,(by simp only[zA,zB,zC,D7]),zT HH⟩
    ·have D8:=(pj8 HH.out) (rq hi 8)
     clear hi HCL
     simp only[zA,zB,zC,D8]
     refine yaa rfl rfl fun K hK=>?_
     go_wp2_with fail
     rw[HJ0.out]
     exact ⟨g0,x30,x31,x32,x33,x34,x35,x36,x37,x38,.pointer (some ⟨gE,0,none⟩),x40,x41,x42,x43,x8,(by simp only[zA,zB,zC,D8]),zT HH⟩
    ·have hns:¬ Ls Lz 15:=fun h=>hnl (dq HCL (dq HCL (dq HCL h 13) 11) 10)
     have D9:=(pj9 HH.out) (rq hi 9)
     have V0:=(pj17 HH.out) hns
     clear hi HCL
     simp only[zA,zB,zC,D9]
     have q0:=(V0.cell (p:=⟨gE,0,none⟩) lE4).trans y0
     refine yaa rfl rfl fun K hK=>?_
     go_wp2_with fail
     rw[HJ0.out]
     exact ⟨g0,x30,x31,x32,x33,x34,x35,x36,x37,x38,x39,.slice Bn nbb cbb,x41,x42,x43,x8,(by simp only[zA,zB,zC,D9]),zT HH⟩
    ·have D10:=(pj10 HH.out) (rq hi 10)
     clear hi HCL
     simp only[zA,zB,zC,D10]
     refine yaa rfl rfl fun K hK=>?_
     go_wp2_with fail
     rw[HJ0.out]
     exact ⟨g0,x30,x31,x32,x33,x34,x35,x36,x37,x38,x39,x40,.int .i64 (nbb:Int),x42,x43,x8,(by simp only[zA,zB,zC,D10]),zT HH⟩
    ·clear hi HCL
     simp only[zA,zB,zC]
     refine yaa rfl rfl fun K hK=>?_
     go_wp2_with fail
     rw[HJ0.out]
     exact ⟨g0,x30,x31,x32,x33,x34,x35,x36,x37,x38,x39,x40,x41,.slice A4 R.1.length c4,x43,x8,(by simp only[zA,zB,zC]),zT HH⟩
    ·have D3:=(pj3 HH.out) (rq hi 3)
     have D6:=(pj6 HH.out) (rq hi 6)
     have D11:=(pj11 HH.out) (rq hi 11)
     have D12:=(pj12 HH.out) (rq hi 12)
     clear hi HCL
     simp only[zA,zB,zC,D3,D6,D11,D12]
     refine yaa rfl rfl fun K hK=>?_
     go_wp2_with fail
     rw[HJ0.out]
     exact ⟨g0,x30,x31,x32,x33,x34,x35,x36,x37,x38,x39,x40,x41,x42,.agg #[.int .i64 (R.2.most:Int),.int .i64 (qs.length:Int),.int .i64 (nbb:Int),.slice A4 R.1.length c4],x8,(by simp only[zA,zB,zC,D3,D6,D11,D12]),zT HH⟩
    ·have hns:¬ Ls Lz 15:=fun h=>hnl (dq HCL h 14)
     have V0:=(pj17 HH.out) hns
     clear hi HCL
     simp only[zA,zB,zC]
     refine yaa rfl rfl fun K hK=>?_
     go_wp2_with fail
     rw[HJ0.out]
     exact ⟨W.heap.size,x30,x31,x32,x33,x34,x35,x36,x37,x38,x39,x40,x41,x42,x43,.pointer (some ⟨W.heap.size,0,none⟩),(by simp only[zA,zB,zC]),zk HH,zk HH,zk HH,zk HH,zk HH,zk HH,zk HH,zk HH,zk HH,zk HH,zk HH,zk HH,zk HH,zk HH,fun _=>rfl,Ba hns,fun _ _=>⟨heap_alloc_new W _,V0.size⟩,fun h=>belE ((pj17 HH.out) (fun h2=>h h2.fwd)) yap,Bb hns⟩
    ·have hns:¬ Ls Lz 15:=hnl
     have D13:=(pj13 HH.out) (rq hi 13)
     have D14:=(pj14 HH.out) (rq hi 14)
     have E14:=(pj16 HH.out) (rq hi 14) hns
     have V0:=(pj17 HH.out) hns
     clear hi HCL
     simp only[zA,zB,zC,D13,D14]
     have q0:=yaj (j:=0) E14.1 rfl
     have q1:=yaj (j:=1) E14.1 rfl
     have q2:=yaj (j:=2) E14.1 rfl
     have q3:=yaj (j:=3) E14.1 rfl
     have f0:=yab (j:=0) E14.1
     have f1:=yab (j:=1) E14.1
     have f2:=yab (j:=2) E14.1
     have f3:=yab (j:=3) E14.1
     have lg:=lt_of_block E14.1
     have HE:=hD E14
     clear E14
     refine yaa rfl rfl fun K hK=>?_
     go_wp2_with fail
     rw[HJ0.out]
     exact ⟨g0,x30,x31,x32,x33,x34,x35,x36,x37,x38,x39,x40,x41,x42,x43,x8,(by first|(simp only[zA,zB,zC,D13,D14] <;> fail)|simp only[Act.put,zA,zB,zC,D13,D14]),zk HH,zk HH,zk HH,zk HH,zk HH,zk HH,zk HH,zk HH,zk HH,zk HH,zk HH,zk HH,zk HH,zk HH,zk HH,fun _=>⟨D14,yf4 HE.out.1,HE.out.2,yfl V0 HE.out.2⟩,zx hnow,zy hnow,zx hnow⟩
   ·intro Lz a W hsize hJ hr
    rw[HJ0.out] at hJ
    have hall:=ybj hsize Zq8 hr
    obtain ⟨g0,x30,x31,x32,x33,x34,x35,x36,x37,x38,x39,x40,x41,x42,x43,x8,rfl,HF⟩:=hJ
    have HH:=hD HF
    have HEND:=(pj15 HH.out) (hall 15 Zq9)
    clear HF HH hall hr hsize
    simp only[zA,zB,zC]
    obtain ⟨rfl,hh5,hg5,hb5⟩:=HEND
    obtain ⟨w5,rfl⟩:∃ w5:World,w5=W:=⟨_,rfl⟩
    have hs5:=hb5.size
    have B5:=hD (B4.out.trans (hb5.mono B4.out.size))
    have y2:=(hb5.cell (p:=⟨gE,2,none⟩) lE4).trans y2
    have HH5:=hD hh5
    have RR5:=hD (RR4.out.below hb5)
    have O5:=hD (yat O4.out hb5)
    have w5Y:=hD ((B5.out.block _ lY0).trans Y0.out)
    have lE5:gE<w5.heap.size:=by omega
    have HE:=hD ((yss HVV.out (by rw[←HK.out];exact HK0.out)).trans (by rw[←HR.out]))
    clear hh5 hb5 y0 y1 p0
    cases hbad:R.2.bad
    ·rw[hbad] at y2
     have HBD:=hD hbad
     clear hbad
     obtain ⟨q0,q1,q2,q3⟩:=ycm HH5.out
     by_cases hgc:60<ycc R.1
     ·have d1:decide ((60:Int)<(ycc R.1:Int))=true:=decide_eq_true Zq6
      have HF:Hid (elaP d qs l=⟨0,0,0,[],2⟩):=by show _=_;rw[HE.out];exact yfi (.inr (.inl hgc))
      clear hgc
      go_upto_region 8 with (go_at_call 29;refine(ydn _ _ _ _ _ _ R.1 w5 RR5.out rfl Zq6).mono ?_;rintro e6 w6 ⟨rfl,b6,s6⟩)
      have w6Y:=hD ((b6.block _ Zq6).trans w5Y.out)
      obtain ⟨r0,r1,r2,r3⟩:=ycm (w6Y.out)
      have f0:=yab (j:=0) w6Y.out
      have f1:=yab (j:=1) w6Y.out
      have f2:=yab (j:=2) w6Y.out
      have f3:=yab (j:=3) w6Y.out
      have lY:=lt_of_block w6Y.out
      go_wp2_with fail
      refine bodyPost_ret (v:=.tuple #[.agg #[.int .i64 0,.int .i64 0,.int .i64 0,.slice none 0 0],.int .i64 2]) (by simp [results,Tryz.results19,go_sem,r0,r1,r2,r3]) rfl ?_
      rw[HF.out]
      exact ⟨none,0,rfl,World.ownsRow_nil _ _ _ _,(B0.out.trans ((B5.out.trans (b6.mono B5.out.size)).mono hs0)).trans (yco Zq6)⟩
     ·have d1:decide ((60:Int)<(ycc R.1:Int))=false:=decide_eq_false Zq6
      cases hvr:yb0 R.2.most qs.length nbb R.1
      ·have HF:Hid (elaP d qs l=⟨0,0,0,[],2⟩):=by show _=_;rw[HE.out];exact yfi (.inr (.inr (by rw[HBL.out];exact hvr)))
       have HVR:=hD (fun W (h:Rd W 8 A4 R.1.length (R.1.flatMap yan))=>yek (R.2.most:Int) (qs.length:Int) (nbb:Int) A4 R.1.length c4 R.1 W h rfl Zq6)
       rw[hvr] at HVR
       clear hgc hvr
       go_upto_region 8 with (first|(go_at_call 29;refine(ydn _ _ _ _ _ _ R.1 w5 RR5.out rfl Zq6).mono ?_;rintro e6 w6 ⟨rfl,b6,s6⟩;have lg6:=b6.size;obtain ⟨u0,u1,u2,u3⟩:=ycm ((b6.block _ (lt_of_block HH5.out)).trans HH5.out))|(go_at_call 28;refine(HVR.out w6 (RR5.out.below b6)).mono ?_;rintro e7 w7 ⟨rfl,b7,s7⟩))
       have w7Y:=hD ((b7.block _ Zq6).trans ((b6.block _ Zq6).trans w5Y.out))
       obtain ⟨r0,r1,r2,r3⟩:=ycm (w7Y.out)
       have f0:=yab (j:=0) w7Y.out
       have f1:=yab (j:=1) w7Y.out
       have f2:=yab (j:=2) w7Y.out
       have f3:=yab (j:=3) w7Y.out
       have lY:=lt_of_block w7Y.out
       go_wp2_with fail
       refine bodyPost_ret (v:=.tuple #[.agg #[.int .i64 0,.int .i64 0,.int .i64 0,.slice none 0 0],.int .i64 2]) (by simp [results,Tryz.results19,go_sem,r0,r1,r2,r3]) rfl ?_
       rw[HF.out]
       exact ⟨none,0,rfl,World.ownsRow_nil _ _ _ _,(B0.out.trans ((B5.out.trans ((b6.trans (b7.mono b6.size)).mono B5.out.size)).mono hs0)).trans (yco Zq6)⟩
      ·have HF:Hid (elaP d qs l=⟨R.2.most,qs.length,nbb,R.1,0⟩):=by show _=_;rw[HE.out,←HBL.out];exact ylw HBD.out hgc (by rw[HBL.out];exact hvr)
       have HVR:=hD (fun W (h:Rd W 8 A4 R.1.length (R.1.flatMap yan))=>yek (R.2.most:Int) (qs.length:Int) (nbb:Int) A4 R.1.length c4 R.1 W h rfl Zq6)
       rw[hvr] at HVR
       clear hgc hvr
       go_upto_region 9 with (first|(go_at_call 29;refine(ydn _ _ _ _ _ _ R.1 w5 RR5.out rfl Zq6).mono ?_;rintro e6 w6 ⟨rfl,b6,s6⟩;have lg6:=b6.size;obtain ⟨u0,u1,u2,u3⟩:=ycm ((b6.block _ (lt_of_block HH5.out)).trans HH5.out))|(go_at_call 28;refine(HVR.out w6 (RR5.out.below b6)).mono ?_;rintro e7 w7 ⟨rfl,b7,s7⟩))
       have w7Y:=hD ((b7.block _ Zq6).trans ((b6.block _ Zq6).trans w5Y.out))
       have w7G:=hD ((b7.block _ (by have:=lt_of_block HH5.out;omega)).trans ((b6.block _ (lt_of_block HH5.out)).trans HH5.out))
       have B7:=hD (B5.out.trans ((b6.trans (b7.mono b6.size)).mono B5.out.size))
       have O7:=hD (yat (yat O5.out b6) b7)
       clear q0 q1 q2 q3 u0 u1 u2 u3 b6 b7
       obtain ⟨q0,q1,q2,q3⟩:=ycm w7G.out
       obtain ⟨r0,r1,r2,r3⟩:=ycm w7Y.out
       have f0:=yab (j:=0) w7Y.out
       have f1:=yab (j:=1) w7Y.out
       have f2:=yab (j:=2) w7Y.out
       have f3:=yab (j:=3) w7Y.out
       have lY:=lt_of_block w7Y.out
       have lG:=lt_of_block w7G.out
       go_wp2_with fail
       refine bodyPost_ret (v:=.tuple #[.agg #[.int .i64 (R.2.most:Int),.int .i64 (qs.length:Int),.int .i64 (nbb:Int),.slice A4 R.1.length c4],.int .i64 0]) (by simp [results,Tryz.results19,go_sem,r0,r1,r2,r3]) rfl ?_
       rw[HF.out]
       exact ⟨A4,c4,rfl,ybd (ydv O7.out (grE (grE (grE (setE _) (setE _)) (setE _)) (setE _)) Zq6) Zq6,(B0.out.trans (B7.out.mono hs0)).trans (yco Zq6)⟩
    ·rw[hbad] at y2
     have HF:Hid (elaP d qs l=⟨0,0,0,[],2⟩):=by show _=_;rw[HE.out];exact yfi (.inl hbad)
     clear hbad
     go_upto_region 8 with (fail)
     obtain ⟨r0,r1,r2,r3⟩:=ycm (w5Y.out)
     have f0:=yab (j:=0) w5Y.out
     have f1:=yab (j:=1) w5Y.out
     have f2:=yab (j:=2) w5Y.out
     have f3:=yab (j:=3) w5Y.out
     have lY:=lt_of_block w5Y.out
     go_wp2_with fail
     refine bodyPost_ret (v:=.tuple #[.agg #[.int .i64 0,.int .i64 0,.int .i64 0,.slice none 0 0],.int .i64 2]) (by simp [results,Tryz.results19,go_sem,r0,r1,r2,r3]) rfl ?_
     rw[HF.out]
     exact ⟨none,0,rfl,World.ownsRow_nil _ _ _ _,(B0.out.trans (B5.out.mono hs0)).trans (yco Zq6)⟩
  ·have d0:(K.1==0)=false:=beq_eq_false_iff_ne.2 hk0
   have HF:Hid (elaP d qs l=⟨0,0,0,[],1⟩):=yiz (.inr (by rw[←HK.out];exact hk0))
   clear hk0
   go_upto_region 3 with (go_at_call 11;refine(HVS.out w1 RA1.out RB1.out HG1.out).mono ?_;rintro e2 w2 ⟨rfl,b2,s2⟩)
   have w2Y:=hD ((b2.block _ Zq6).trans ((B1.out.block _ lY0).trans Y0.out))
   obtain ⟨r0,r1,r2,r3⟩:=ycm (w2Y.out)
   have f0:=yab (j:=0) w2Y.out
   have f1:=yab (j:=1) w2Y.out
   have f2:=yab (j:=2) w2Y.out
   have f3:=yab (j:=3) w2Y.out
   have lY:=lt_of_block w2Y.out
   go_wp2_with fail
   refine bodyPost_ret (v:=.tuple #[.agg #[.int .i64 0,.int .i64 0,.int .i64 0,.slice none 0 0],.int .i64 1]) (by simp [results,Tryz.results19,go_sem,r0,r1,r2,r3]) rfl ?_
   rw[HF.out]
   exact ⟨none,0,rfl,World.ownsRow_nil _ _ _ _,(B0.out.trans ((B1.out.trans (b2.mono B1.out.size)).mono hs0)).trans (yco Zq6)⟩
theorem ysv {d:Nat} {Q:List ByteArray} {l:List (Tr d)} (h:(elaP d Q l).code=0):yb0 (elaP d Q l).N (elaP d Q l).I (elaP d Q l).B (elaP d Q l).l=true∧(elaP d Q l).I=(Q.length:Int)∧(Q.length:Int)≤(elaP d Q l).N∧ycc (elaP d Q l).l≤60:=by
 unfold elaP at h ⊢
 split at h
 ·rename_i hv
  rw[if_pos hv]
  unfold finR at h ⊢
  split at h
  ·have h:(2:Int)=0:=h
   omega
  ·rename_i hn
   rw[if_neg hn]
   obtain ⟨_,_,_,h4⟩:=yk6 (ydk hv.1) (ym8 hv.1 hv.2) (yft hv.1)
   refine ⟨?_,rfl,by show(Q.length:Int)≤(((dA d l Q ⟨[],Q.length,false⟩).2.most:Nat):Int);omega,Nat.le_of_not_lt fun h=>hn (.inr (.inl h))⟩
   cases hr:yb0 (dA d l Q ⟨[],Q.length,false⟩).2.most Q.length (dA d l Q ⟨[],Q.length,false⟩).2.bits.length (dA d l Q ⟨[],Q.length,false⟩).1
   ·exact absurd (.inr (.inr hr)) hn
   ·rfl
 ·have h:(1:Int)=0:=h
  omega
theorem ytk {d:Nat} {Q:List ByteArray} {l:List (Tr d)} (h:(elaP d Q l).code≠0):(elaP d Q l).code=2∨((elaP d Q l).code=1∧(yc7 d Q l=false∨(ckP d Q l).1≠0)):=by
 unfold elaP at h ⊢
 split at h
 ·rename_i hv
  rw[if_pos hv]
  unfold finR at h ⊢
  split at h
  ·rename_i hn
   rw[if_pos hn]
   exact .inl rfl
  ·exact absurd rfl h
 ·rename_i hv
  rw[if_neg hv]
  refine .inr ⟨rfl,?_⟩
  cases hp:yc7 d Q l
  ·exact .inl rfl
  ·exact .inr fun h=>hv ⟨hp,h⟩
def bE (d:Nat):Nat:=100*5 ^ d
theorem yfj (d:Nat):bE (d+1)=5*bE d:=by unfold bE;rw[Nat.pow_succ];omega
theorem yfb (d:Nat):100≤bE d:=by
 have:=Nat.pow_pos (n:=d) (show 0<5 by omega)
 unfold bE
 omega
theorem ykn {d:Nat} (E:Nat):∀ l:List (Tr (d+1)),(∀ s∈l,szE s≤E)→sumE l≤l.length*E:=by
 intro l
 induction l with
 | nil=>intro _;exact Nat.zero_le _
 | cons s l ih =>
  intro h
  have h1:=h s Zq11
  have h2:=ih (fun x hx=>h x (by simp [hx]))
  have:sumE (s :: l)=szE s+sumE l:=by simp [sumE]
  rw[this,List.length_cons,Nat.add_mul,Nat.one_mul]
  omega
def Few (d:Nat) (l:List (Tr (d+1))):Prop:=l.length≤3∧∀ s∈l,szE s≤bE d
theorem ync {d:Nat} {l:List (Tr (d+1))} (h:Few d l):szT (d+1) l≤3+3*bE d:=by
 have h1:=ykn (bE d) l h.2
 have h2:=Nat.mul_le_mul_right (bE d) h.1
 have h3:=h.1
 rw[ybb]
 omega
theorem ycp {d n:Nat} {l:List (Tr (d+1))} {s:Tr (d+1)} (hl:l.length≤n) (h:∀ s∈l,szE s≤bE d) (hs:szE s≤bE d):(l++[s]).length≤n+1∧∀ y∈l++[s],szE y≤bE d:=by
 refine ⟨by rw[List.length_append];exact Nat.succ_le_succ hl,fun x hx=>?_⟩
 rcases List.mem_append.1 hx with hx|hx
 ·exact h x hx
 ·obtain rfl:=List.mem_singleton.1 hx
  exact hs
def DBd (d:Nat) (w:World) (p:Nat) (e:Ending) (w':World):Prop:=∃ (v:Value) (l:List (Tr (d+1))),e=.returned v∧OwnT w' w.heap.size d v l∧Few d l∧ybt w' p∧w.grownBy w' (some p)
theorem OwnT.add {w:World} {base R d:Nat} {v:Value} {l:List (Tr (d+1))} {cs:List Value} {s:Tr (d+1)} (h:OwnT w base d v l) (hv:∀ k,v.ownBlock=some k→k<R) (hB:base≤R) (hs:StQ w (R≤·) d cs s) :
  ∃ xs,w.ownsRow base 66 5 v l.length xs∧∀ (wa w6:World) (v6:Value),w6.ownsRow base 66 5 v6 (l.length+1) (xs++cs)→Below w.heap.size w wa→wa.grownBy w6 v.ownBlock→(v6.ownBlock=v.ownBlock∨v6.ownBlock=some wa.heap.size)→OwnT w6 base d v6 (l++[s]):=by
 obtain ⟨xs,ho,he⟩:=h
 refine ⟨xs,ho,fun wa w6 v6 h6 hba hg hat=>OwnT.push (m:=[s]) he (ElQ.one (hs.mono fun b _ hb=>⟨Nat.le_trans hB hb,fun e=>?_⟩)) h6 hba hg hat⟩
 have:=hv b e.symm
 omega
theorem OwnT.lt {w:World} {base d:Nat} {v:Value} {l:List (Tr (d+1))} (h:OwnT w base d v l):∀ k,v.ownBlock=some k→k<w.heap.size:=fun k hk=>by
 obtain ⟨xs,ho,_⟩:=h
 exact(ho.lt k hk).2
theorem OwnT.ge {w:World} {base d:Nat} {v:Value} {l:List (Tr (d+1))} (h:OwnT w base d v l):∀ k,v.ownBlock=some k→base≤k:=fun k hk=>by
 obtain ⟨xs,ho,_⟩:=h
 exact(ho.lt k hk).1
theorem ybg {w:World} {cs:Array Value} {e n size b:Nat} {P:Nat→Prop} {xs:List Value} (h0:b=w.heap.size) (hs:cs.size=n*size) (hP:P b) (hx:cs.toList=xs):RdQ (w.alloc (.cells cs e)) P size (some ⟨b,0,none⟩) n xs:=by
 subst hx
 exact yji h0 hs hP
theorem few5:∀ y∈([⟨#[120]⟩,⟨#[122]⟩,⟨#[115]⟩,⟨#[121]⟩,⟨#[104]⟩]:List ByteArray),y.size≤9:=by
 intro y hy
 simp only[List.mem_cons,List.not_mem_nil,or_false] at hy
 rcases hy with rfl|rfl|rfl|rfl|rfl <;> decide
theorem few3:∀ y∈([⟨#[114]⟩,⟨#[115,49]⟩,⟨#[114]⟩]:List ByteArray),y.size≤9:=by
 intro y hy
 simp only[List.mem_cons,List.not_mem_nil,or_false] at hy
 rcases hy with rfl|rfl|rfl <;> decide
theorem TrQ.upTo {w:World} {P:Nat→Prop} {A:Option Addr} {n:Nat} {l:List (Tr 1)} (h:TrQ w P 1 A n l):∀ d:Nat,∃ l':List (Tr (d+1)),TrQ w P (d+1) A n l'∧szT (d+1) l'=szT 1 l:=by
 intro d
 induction d with
 | zero=>exact ⟨l,h,rfl⟩
 | succ d ih =>
  obtain ⟨l',h1,h2⟩:=ih
  exact ⟨l'.map (upT (d+1)),h1.up,(yg2 (d+1) l').trans h2⟩
theorem ysw {w W:World} {p b:Nat} {ob:Obj} (h:Fr w p W) (hne:b≠p) (hc:w.heap[b]?=some ob):W.heap[b]?=some ob:=ybl hc h.gr hne
theorem ybw {w W:World} {p b o:Nat} {u:Value} (h:Fr w p W) (hb:b<w.heap.size) (hne:b≠p) (hc:w.cell? ⟨b,o,none⟩=some u):W.cell? ⟨b,o,none⟩=some u:=by
 rw[←hc]
 have:=h.gr.block b hb (fun e=>hne (by injection e))
 simp [World.cell?,this]
theorem Fr.drew {w w1:World} {p:Nat} (h:Fr w p w1):Fr w p w1.drew:=⟨h.cur,h.gr.os,h.gr.tape,h.gr.output,h.gr.size,h.gr.block⟩
theorem yam {w W:World} {P:Nat→Prop} {p size n:Nat} {A:Option Addr} {xs:List Value} (h:RdQ w P size A n xs) (hf:Fr w p W) (hp:¬ P p):RdQ W P size A n xs:=h.call hf.gr hp
theorem yko {w W:World} {base d p:Nat} {v:Value} {l:List (Tr (d+1))} (h:OwnT w base d v l) (hf:Fr w p W) (hp:p<base):OwnT W base d v l:=h.grown hf.gr (fun k hk=>by injection hk with hk;omega)
def GZ (R bg:Nat) (W:World):Prop:=R≤bg∧W.heap[bg]?=some (.cells #[.int .i64 0,.string ⟨#[]⟩,.slice none 0 0,.int .i64 0,.slice none 0 0] 66 (0,0))
theorem GZ.fr {R bg p:Nat} {W W1:World} (h:GZ R bg W) (hf:Fr W p W1) (hp:p<R):GZ R bg W1:=⟨h.1,ysw hf (by have:=h.1;omega) h.2⟩
theorem yui {w w1 w3 W:World} {p bg ba:Nat} {y s0:ByteArray} (hp:p<w.heap.size) (hR:w.heap.size≤w1.heap.size) (h1:Fr w p W) (h2:Fr w3 p W) (h13:w1.heap.size≤w3.heap.size) (g1:w3.heap.size≤bg) (g2:W.heap[bg]?=some (.cells #[.int .i64 0,.string ⟨#[]⟩,.slice none 0 0,.int .i64 0,.slice none 0 0] 66 (0,0)))
  (hr:RdQ W (fun b=>w3.heap.size≤b) 1 (some ⟨ba,0,none⟩) 1 (strs [s0])) (hy:y.size≤9) {x15:Value} (e:x15=.pointer (some ⟨bg,0,none⟩)) {V:World} (hV:V=((((W.setCell ⟨bg,0,none⟩ (.int .i64 1)).setCell ⟨bg,1,none⟩ (.string y)).setCell ⟨bg,2,none⟩ (.slice (some ⟨ba,0,none⟩) 1 1)).setCell ⟨bg,3,none⟩ (.int .i64 0)).setCell ⟨bg,4,none⟩ (.slice none 0 0)) :
  ∃ (bg ba:Nat) (y:ByteArray),x15=.pointer (some ⟨bg,0,none⟩)∧y.size≤9∧w1.heap.size≤ba∧V.heap[bg]?=some (.cells #[.int .i64 1,.string y,.slice (some ⟨ba,0,none⟩) 1 1,.int .i64 0,.slice none 0 0] 66 (0,0))∧RdQ V (·=ba) 1 (some ⟨ba,0,none⟩) 1 (strs [s0])∧Fr w p V∧Fr w3 p V:=by
 subst hV
 obtain ⟨b,o,e1,h,hlt,hc⟩:=hr.2 Zq6
 injection e1 with e1
 injection e1 with e1 e2
 subst e1 e2
 have h:w3.heap.size≤ba:=h
 have hne:bg≠ba:=by
  intro e
  subst e
  have h1:=hc 0 _ rfl
  have h2:=yaj (j:=0) g2 rfl
  rw[Nat.zero_add,h2] at h1
  cases h1
 have h3:RdQ W (·=ba) 1 (some ⟨ba,0,none⟩) 1 (strs [s0]):=⟨hr.1,fun _=>⟨ba,0,rfl,rfl,hlt,hc⟩⟩
 have hp3:p<w3.heap.size:=by omega
 exact ⟨bg,ba,y,e,hy,Nat.le_trans h13 h,yqy g2,((((h3.set_ hne _).set_ hne _).set_ hne _).set_ hne _).set_ hne _,
  ((((h1.set hp (show w.heap.size≤bg by omega) _).set hp (show w.heap.size≤bg by omega) _).set hp (show w.heap.size≤bg by omega) _).set hp (show w.heap.size≤bg by omega) _).set hp (show w.heap.size≤bg by omega) _,
  ((((h2.set hp3 g1 _).set hp3 g1 _).set hp3 g1 _).set hp3 g1 _).set hp3 g1 _⟩
def yjz (d:Nat):Prop:=∀ (A:Option Addr) (m c:Nat) (N:List ByteArray) (wild:Bool) (w:World) (p:Nat),ybt w p→yd3 w p A m N →
  Calls Tryz.prog 128 #[.pointer (some ⟨p,0,none⟩),.slice A m c,.int .i64 ((d:Int)+1),.bool wild] w (DBd d w p)
def ndx (N:List ByteArray) (j:Nat):ByteArray:=N.getD j ⟨#[]⟩
def LitE (d E R:Nat) (W:World) (b:Nat):Prop:=∃ (cs:List Value) (s:Tr (d+1)),RdQ W (R≤·) 5 (some ⟨b,0,none⟩) 1 cs∧StQ W (R≤·) d cs s∧szE s≤E
theorem LitE.fr {d E R p b:Nat} {W W1:World} (h:LitE d E R W b) (hf:Fr W p W1) (hp:p<R):LitE d E R W1 b:=by
 obtain ⟨cs,s,h1,h2,h3⟩:=h
 exact ⟨cs,s,yam h1 hf Zq6,h2.keep (fun b hb hlt=>hf.gr.block b hlt (fun e=>by injection e with e;omega)) hf.gr.size,h3⟩
theorem ynd (A:Option Addr) (m c:Nat) (N:List ByteArray) (wild:Bool) (w:World) (p:Nat) (hcur:ybt w p) (hN:yd3 w p A m N) :
  Calls Tryz.prog 128 #[.pointer (some ⟨p,0,none⟩),.slice A m c,.int .i64 1,.bool wild] w (DBd 0 w p):=by
 obtain ⟨i0,hi,hz0,hz1,hz2⟩:=info_parts yex
 have hp:=hcur.lt
 have h1:=hN.lo
 have h4:=hN.hi
 have HN:=hD hN
 clear hN
 go_enter Tryz.func128,Tryz.ntmps128
 go_wp2_with fail
 obtain ⟨w0,hw0⟩:∃ w0,w0=w.alloc (.cells #[] 66):=⟨_,rfl⟩
 rw[←hw0]
 have own0:OwnT w0 w.heap.size 0 (.slice (some ⟨w.heap.size,0,none⟩) 0 0) []:=by rw[hw0];exact yhi w _
 have hfr0:Fr w p w0:=by rw[hw0];exact(Fr.start hcur).alloc _
 clear hw0
 refine(ybu 4 3 w0 p hfr0.cur Zq6 Zq6 Zq6).mono ?_
 rintro e w1 ⟨n,hn0,hn1,rfl,hc1,hg1⟩
 obtain ⟨n,rfl⟩:∃ n':Nat,n=n':=⟨n.toNat,by omega⟩
 have OW:=hD (own0.grown hg1 (fun k hk=>by injection hk with hk;omega))
 have FR:=hD (hfr0.call hc1 hg1)
 clear own0 hfr0 hc1 hg1
 go_wp2_with fail
 go_loopw [9,11] (fun v i wr=>∃ (t:Nat) (l:List (Tr (0+1))),i=.int .i64 t∧t≤n∧l.length≤t∧Hid (∀ s∈l,szE s≤bE 0)∧Hid (OwnT wr w.heap.size 0 v l)∧Hid (Fr w p wr)) (fun _ i _=>n - (intOf i).toNat)
 case atStart=>exact ⟨0,[],rfl,Nat.zero_le _,Nat.zero_le _,(fun s hs=>absurd hs Zq11:∀ s∈([]:List (Tr (0+1))),szE s≤bE 0),OW.out,FR.out⟩
 case round =>
  obtain ⟨t,l,rfl,ht,hl,hsm,hown,hfr⟩:=hrel
  obtain ⟨wE,rfl⟩:∃ wE:World,wE=wr:=⟨_,rfl⟩
  by_cases hlt:t<n
  ·go_wp2_with fail
   refine(ybu 10 9 wE p hfr.out.cur Zq6 Zq6 Zq6).mono ?_
   rintro e w1 ⟨k,hk0,hk1,rfl,hc1,hg1⟩
   have ow1:=hown.out.grown hg1 (fun k hk=>by injection hk with hk;omega)
   have fr1:=hfr.out.call hc1 hg1
   obtain ⟨Ao,co,rfl,_,_⟩:=ow1.slice
   have HV:=hD ow1.lt
   have HG:=hD ow1.ge
   have NM:=hD (HN.out.fr fr1)
   have OW1:=hD ow1
   have FR1:=hD fr1
   have hR:w.heap.size≤w1.heap.size:=fr1.gr.size
   have hp1:p<w1.heap.size:=fr1.cur.lt
   clear hown hfr hc1 hg1 ow1 fr1
   go_wp2_with fail
   refine(yew _ _ _ N w1 p FR1.out.cur NM.out).mono ?_
   rintro e w2 ⟨word,args,Aa,ca,rfl,hq,⟨hcap,hw4,ha3,hsz⟩,hc2,hg2⟩
   have hbp:=yfb 0
   obtain ⟨xs,hox,hpush⟩:=(OW1.out.grown hg2 (fun k hk=>by injection hk with hk;omega)).add HV.out hR (yb3 (d:=0) (h:=⟨1,word,args,0⟩) (cb:=0) hq (yc5 (A:=none) 0) hcap)
   have PU:=hD hpush
   have HSZ:=hD (show szE (mkT (d:=0) ⟨1,word,args,0⟩ [])≤bE 0 by rw[yb5,ydd];show word.size+(args.length+szS args+0)≤_;omega)
   have frk:=FR1.out.call hc2 hg2
   have hgk:=frk.gr.size
   clear hpush
   go_wp2_with (at_builtin;refine yae _ rfl _ _ 25 rfl w.heap.size 66 i0 _ 5 80 Tryz.underlying25 hi hz0 hz1 hz2 rfl Zq9 _ _ _ rfl (hox.alloc _) _ 1 1 _ rfl (yc4 ?k0_1 rfl) ?k2_1 ?k3_1 ?k4_1 ?k5_1 ?_)
   try (case k0_1=>first|rfl|simp)
   case k2_1=>repeat' (first|rfl|apply And.intro)
   case k3_1=>simp only[maxLen];omega
   case k4_1=>omega
   case k5_1=>first|omega|(simp;omega)
   intro v6 w6 own6 gr6 hat
   have O6:=hD (PU.out _ _ _ own6 ((Below.refl _ _).alloc (Nat.le_refl _) _) gr6 (hat.imp id fun e=>e.trans Zq11))
   have F6:=hD ((frk.alloc _).own hp gr6 HG.out)
   clear gr6 own6 hox frk PU
   go_wp2_with fail
   go_roundw
   case rel=>exact ⟨t+1,l++[_],by go_num,by omega,(ycp hl hsm.out HSZ.out).1,(ycp hl hsm.out HSZ.out).2,O6.out,F6.out⟩
   case measure=>simp [intOf];omega
  ·go_wp2_with fail
   go_ret
   exact ⟨_,l,rfl,hown.out,⟨by omega,hsm.out⟩,hfr.out.cur,hfr.out.gr⟩
theorem yne (d:Nat) (hd:d≤8) (ih:yjz d) (A:Option Addr) (m c:Nat) (N:List ByteArray) (wild:Bool) (w:World) (p:Nat) (hcur:ybt w p) (hN:yd3 w p A m N) :
  Calls Tryz.prog 128 #[.pointer (some ⟨p,0,none⟩),.slice A m c,.int .i64 ((d:Int)+1+1),.bool wild] w (DBd (d+1) w p):=by
 obtain ⟨i0,hi,hz0,hz1,hz2⟩:=info_parts yex
 have hp:=hcur.lt
 have h1:=hN.lo
 have h4:=hN.hi
 have HN:=hD hN
 clear hN
 go_enter Tryz.func128,Tryz.ntmps128
 go_wp2_with fail
 obtain ⟨w0,hw0⟩:∃ w0,w0=w.alloc (.cells #[] 66):=⟨_,rfl⟩
 rw[←hw0]
 have own0:OwnT w0 w.heap.size (d+1) (.slice (some ⟨w.heap.size,0,none⟩) 0 0) []:=by rw[hw0];exact yhi w _
 have hfr0:Fr w p w0:=by rw[hw0];exact(Fr.start hcur).alloc _
 clear hw0
 refine(ybu 4 3 w0 p hfr0.cur Zq6 Zq6 Zq6).mono ?_
 rintro e w1 ⟨n,hn0,hn1,rfl,hc1,hg1⟩
 obtain ⟨n,rfl⟩:∃ n':Nat,n=n':=⟨n.toNat,by omega⟩
 have OW:=hD (own0.grown hg1 (fun k hk=>by injection hk with hk;omega))
 have FR:=hD (hfr0.call hc1 hg1)
 clear own0 hfr0 hc1 hg1
 go_wp2_with fail
 go_loopw [9,11] (fun v i wr=>∃ (t:Nat) (l:List (Tr ((d+1)+1))),i=.int .i64 t∧t≤n∧l.length≤t∧Hid (∀ s∈l,szE s≤bE (d+1))∧Hid (OwnT wr w.heap.size (d+1) v l)∧Hid (Fr w p wr)) (fun _ i _=>n - (intOf i).toNat)
 case atStart=>exact ⟨0,[],rfl,Nat.zero_le _,Nat.zero_le _,(fun s hs=>absurd hs Zq11:∀ s∈([]:List (Tr ((d+1)+1))),szE s≤bE (d+1)),OW.out,FR.out⟩
 case round =>
  obtain ⟨t,l,rfl,ht,hl,hsm,hown,hfr⟩:=hrel
  obtain ⟨wE,rfl⟩:∃ wE:World,wE=wr:=⟨_,rfl⟩
  by_cases hlt:t<n
  ·go_wp2_with fail
   refine(ybu 10 9 wE p hfr.out.cur Zq6 Zq6 Zq6).mono ?_
   rintro e w1 ⟨k,hk0,hk1,rfl,hc1,hg1⟩
   have ow1:=hown.out.grown hg1 (fun k hk=>by injection hk with hk;omega)
   have fr1:=hfr.out.call hc1 hg1
   obtain ⟨Ao,co,rfl,_,_⟩:=ow1.slice
   have HV:=hD ow1.lt
   have HG:=hD ow1.ge
   have NM:=hD (HN.out.fr fr1)
   have OW1:=hD ow1
   have FR1:=hD fr1
   have hR:w.heap.size≤w1.heap.size:=fr1.gr.size
   have hp1:p<w1.heap.size:=fr1.cur.lt
   clear hown hfr hc1 hg1 ow1 fr1
   by_cases e0:k=0
   ·subst e0
    go_wp2_with fail
    refine(ybu 3 2 w1 p FR1.out.cur Zq6 Zq6 Zq6).mono ?_
    rintro e w2 ⟨x,hx0,hx1,rfl,hc2,hg2⟩
    have FR2:=hD (FR1.out.call hc2 hg2)
    have OW2:=hD (OW1.out.grown hg2 (fun k hk=>by injection hk with hk;omega))
    have NM2:=hD (NM.out.call hg2)
    have hz:=hg2.size
    clear hc2 hg2
    go_wp2_with fail
    refine(ih _ _ _ N wild w2 p FR2.out.cur NM2.out).mono ?_
    rintro e w3 ⟨v3,l3,rfl,hown3,hfew,hc3,hg3⟩
    obtain ⟨A3,c3,rfl,_,_⟩:=hown3.slice
    have hbp:=yfb d
    have hbs:=yfj d
    have hfz:=ync hfew
    obtain ⟨xs,hox,hpush⟩:=(OW2.out.grown hg3 (fun k hk=>by injection hk with hk;omega)).add HV.out hR (yb3 (d:=(d+1)) (h:=⟨2,⟨#[]⟩,[],1+x⟩) (Aa:=none) (ca:=0) (cb:=c3) (bd:=l3) ⟨rfl,fun h=>absurd h Zq11⟩ ((hown3.tr rfl).mono (fun b _ hb=>by omega)) (Nat.zero_le _))
    have PU:=hD hpush
    have HSZ:=hD (show szE (mkT (d:=(d+1)) ⟨2,⟨#[]⟩,[],1+x⟩ l3)≤bE ((d+1)) by rw[yb5];show 0+(0+0+szT (d+1) l3)≤_;omega)
    have frk:=FR2.out.call hc3 hg3
    have hgk:=frk.gr.size
    clear hpush
    go_wp2_with (at_builtin;refine yae _ rfl _ _ 25 rfl w.heap.size 66 i0 _ 5 80 Tryz.underlying25 hi hz0 hz1 hz2 rfl Zq9 _ _ _ rfl (hox.alloc _) _ 1 1 _ rfl (yc4 ?k0_2 rfl) ?k2_2 ?k3_2 ?k4_2 ?k5_2 ?_)
    try (case k0_2=>first|rfl|simp)
    case k2_2=>repeat' (first|rfl|apply And.intro)
    case k3_2=>simp only[maxLen];omega
    case k4_2=>omega
    case k5_2=>first|omega|(simp;omega)
    intro v6 w6 own6 gr6 hat
    have O6:=hD (PU.out _ _ _ own6 ((Below.refl _ _).alloc (Nat.le_refl _) _) gr6 (hat.imp id fun e=>e.trans Zq11))
    have F6:=hD ((frk.alloc _).own hp gr6 HG.out)
    clear gr6 own6 hox frk PU
    go_wp2_with fail
    go_roundw
    case rel=>exact ⟨t+1,l++[_],by go_num,by omega,(ycp hl hsm.out HSZ.out).1,(ycp hl hsm.out HSZ.out).2,O6.out,F6.out⟩
    case measure=>simp [intOf];omega
   have f0:(k==0)=false:=by simp [e0]
   by_cases e1:k=1
   ·subst e1
    cases wild
    ·go_wp2_with fail
     refine(ih _ _ _ N false w1 p FR1.out.cur NM.out).mono ?_
     rintro e w3 ⟨v3,l3,rfl,hown3,hfew,hc3,hg3⟩
     obtain ⟨A3,c3,rfl,_,_⟩:=hown3.slice
     have hbp:=yfb d
     have hbs:=yfj d
     have hfz:=ync hfew
     obtain ⟨xs,hox,hpush⟩:=(OW1.out.grown hg3 (fun k hk=>by injection hk with hk;omega)).add HV.out hR (yb3 (d:=(d+1)) (h:=⟨3,⟨#[]⟩,[],0⟩) (Aa:=none) (ca:=0) (cb:=c3) (bd:=l3) ⟨rfl,fun h=>absurd h Zq11⟩ ((hown3.tr rfl).mono (fun b _ hb=>by omega)) (Nat.zero_le _))
     have PU:=hD hpush
     have HSZ:=hD (show szE (mkT (d:=(d+1)) ⟨3,⟨#[]⟩,[],0⟩ l3)≤bE ((d+1)) by rw[yb5];show 0+(0+0+szT (d+1) l3)≤_;omega)
     have frk:=FR1.out.call hc3 hg3
     have hgk:=frk.gr.size
     clear hpush
     go_wp2_with (at_builtin;refine yae _ rfl _ _ 25 rfl w.heap.size 66 i0 _ 5 80 Tryz.underlying25 hi hz0 hz1 hz2 rfl Zq9 _ _ _ rfl (hox.alloc _) _ 1 1 _ rfl (yc4 ?k0_3 rfl) ?k2_3 ?k3_3 ?k4_3 ?k5_3 ?_)
     try (case k0_3=>first|rfl|simp)
     case k2_3=>repeat' (first|rfl|apply And.intro)
     case k3_3=>simp only[maxLen];omega
     case k4_3=>omega
     case k5_3=>first|omega|(simp;omega)
     intro v6 w6 own6 gr6 hat
     have O6:=hD (PU.out _ _ _ own6 ((Below.refl _ _).alloc (Nat.le_refl _) _) gr6 (hat.imp id fun e=>e.trans Zq11))
     have F6:=hD ((frk.alloc _).own hp gr6 HG.out)
     clear gr6 own6 hox frk PU
     go_wp2_with fail
     go_roundw
     case rel=>exact ⟨t+1,l++[_],by go_num,by omega,(ycp hl hsm.out HSZ.out).1,(ycp hl hsm.out HSZ.out).2,O6.out,F6.out⟩
     case measure=>simp [intOf];omega
    ·go_wp2_with fail
     refine(yee 6 w1 p FR1.out.cur Zq6 Zq6).mono ?_
     rintro e w2 ⟨wild2,rfl,hc2,hg2⟩
     have FR2:=hD (FR1.out.call hc2 hg2)
     have OW2:=hD (OW1.out.grown hg2 (fun k hk=>by injection hk with hk;omega))
     have NM2:=hD (NM.out.call hg2)
     have hz:=hg2.size
     clear hc2 hg2
     go_wp2_with fail
     refine(ih _ _ _ N wild2 w2 p FR2.out.cur NM2.out).mono ?_
     rintro e w3 ⟨v3,l3,rfl,hown3,hfew,hc3,hg3⟩
     obtain ⟨A3,c3,rfl,_,_⟩:=hown3.slice
     have hbp:=yfb d
     have hbs:=yfj d
     have hfz:=ync hfew
     obtain ⟨xs,hox,hpush⟩:=(OW2.out.grown hg3 (fun k hk=>by injection hk with hk;omega)).add HV.out hR (yb3 (d:=(d+1)) (h:=⟨3,⟨#[]⟩,[],0⟩) (Aa:=none) (ca:=0) (cb:=c3) (bd:=l3) ⟨rfl,fun h=>absurd h Zq11⟩ ((hown3.tr rfl).mono (fun b _ hb=>by omega)) (Nat.zero_le _))
     have PU:=hD hpush
     have HSZ:=hD (show szE (mkT (d:=(d+1)) ⟨3,⟨#[]⟩,[],0⟩ l3)≤bE ((d+1)) by rw[yb5];show 0+(0+0+szT (d+1) l3)≤_;omega)
     have frk:=FR2.out.call hc3 hg3
     have hgk:=frk.gr.size
     clear hpush
     go_wp2_with (at_builtin;refine yae _ rfl _ _ 25 rfl w.heap.size 66 i0 _ 5 80 Tryz.underlying25 hi hz0 hz1 hz2 rfl Zq9 _ _ _ rfl (hox.alloc _) _ 1 1 _ rfl (yc4 ?k0_4 rfl) ?k2_4 ?k3_4 ?k4_4 ?k5_4 ?_)
     try (case k0_4=>first|rfl|simp)
     case k2_4=>repeat' (first|rfl|apply And.intro)
     case k3_4=>simp only[maxLen];omega
     case k4_4=>omega
     case k5_4=>first|omega|(simp;omega)
     intro v6 w6 own6 gr6 hat
     have O6:=hD (PU.out _ _ _ own6 ((Below.refl _ _).alloc (Nat.le_refl _) _) gr6 (hat.imp id fun e=>e.trans Zq11))
     have F6:=hD ((frk.alloc _).own hp gr6 HG.out)
     clear gr6 own6 hox frk PU
     go_wp2_with fail
     go_roundw
     case rel=>exact ⟨t+1,l++[_],by go_num,by omega,(ycp hl hsm.out HSZ.out).1,(ycp hl hsm.out HSZ.out).2,O6.out,F6.out⟩
     case measure=>simp [intOf];omega
   have f1:(k==1)=false:=by simp [e1]
   by_cases e2:k=2
   ·subst e2
    go_wp2_with fail
    refine(ybu m (m - 1) w1 p FR1.out.cur Zq6 Zq6 Zq6).mono ?_
    rintro e w2 ⟨j,hj0,hj1,rfl,hc2,hg2⟩
    obtain ⟨j,rfl⟩:∃ j':Nat,j=j':=⟨j.toNat,by omega⟩
    have NM2:=hD (NM.out.call hg2)
    have FR2:=hD (FR1.out.call hc2 hg2)
    have OW2:=hD (OW1.out.grown hg2 (fun k hk=>by injection hk with hk;omega))
    obtain ⟨b,off,a,rfl,hbl,q0,_,ha9⟩:=NM2.out.at_ (t:=j) Zq6
    have hz2s:=hg2.size
    clear hc2 hg2
    go_wp2_with fail
    obtain ⟨wa,hwa⟩:∃ wa,wa=w2.alloc (.cells #[.string a] 9):=⟨_,rfl⟩
    rw[←hwa]
    have ba:Below w2.heap.size w2 wa:=by rw[hwa];exact Zq0
    have ra:Rd wa 1 (some ⟨w2.heap.size,0,none⟩) 1 (strs [a]):=by rw[hwa];exact yc4 (w:=w2) rfl rfl
    have FRa:=FR2.out.below ba
    have OWa:=OW2.out.below ba
    have NMa:=NM2.out.below ba
    have hsa:=ba.size
    clear hwa ba q0
    refine(ynw _ _ _ _ _ _ N [a] wa NMa.rd NMa.len NMa.small h4 ra rfl Zq6).mono ?_
    rintro e w3 ⟨AF,nF,cF,F,rfl,hF,hnF,hF9,rF,b3,s3⟩
    have FR3:=hD (FRa.below b3)
    have OW3:=hD (OWa.below b3)
    have hp3:p<wa.heap.size:=FRa.cur.lt
    clear b3 ra NMa OWa FRa
    by_cases hn0:nF=0
    ·subst hn0
     go_wp2_with fail
     go_roundw
     case rel=>exact ⟨t+1,l,by go_num,by omega,by omega,hsm,OW3.out,FR3.out⟩
     case measure=>simp [intOf];omega
    ·obtain ⟨bF,oF,rfl,hbF,hbF2,hcF⟩:=rF.2 Zq6
     obtain ⟨s0,hs0⟩:∃ s0,F[0]?=some s0:=⟨_,List.getElem?_eq_getElem Zq6⟩
     have qF:w3.cell? ⟨bF,oF,none⟩=some (.string s0):=by have:=hcF 0 _ (ybr hs0);simpa using this
     have hs09:s0.size≤9:=hF9 s0 (List.mem_of_getElem? hs0)
     have hnF0:0<nF:=by omega
     have hbFp:bF≠p:=by omega
     clear hcF rF hs0 hF9 hF
     go_upto_region 19 with (fail)
     go_cut [15] from 19 to 148 (fun g wz=>∃ (bg ba:Nat) (y:ByteArray),g=.pointer (some ⟨bg,0,none⟩)∧y.size≤9∧w1.heap.size≤ba∧wz.heap[bg]?=some (.cells #[.int .i64 1,.string y,.slice (some ⟨ba,0,none⟩) 1 1,.int .i64 0,.slice none 0 0] 66 (0,0))∧RdQ wz (·=ba) 1 (some ⟨ba,0,none⟩) 1 (strs [s0])∧Fr w p wz∧Fr w3 p wz)
     case first =>
      have frS:Fr w3 p w3:=Fr.start FR3.out.cur
      have hp3w:p<w3.heap.size:=by omega
      obtain ⟨J0,hJ0⟩:∃ J:Array Value→Array Bool→Act→World→Prop,J=(fun A0 Lz a W=>∃ (b1:Nat) (y:ByteArray) (ba:Nat) (bg:Nat),∃ x15 x82 x83 x84 x85 x86 x87 x88 x89:Value,a=⟨(((((((((A0.setIfInBounds 15 x15).setIfInBounds 82 x82).setIfInBounds 83 x83).setIfInBounds 84 x84).setIfInBounds 85 x85).setIfInBounds 86 x86).setIfInBounds 87 x87).setIfInBounds 88 x88).setIfInBounds 89 x89),[]⟩∧(Ls Lz 0→x82=.pointer (some ⟨p,0,none⟩))∧(Ls Lz 1→x83=.slice (some ⟨b1,0,none⟩) 5 5)∧(Ls Lz 2→x84=.string y∧y.size≤9)∧(Ls Lz 3→x85=.slice (some ⟨bF,oF,none⟩) nF cF)∧(Ls Lz 4→x86=.pointer (some ⟨bF,oF,none⟩))∧(Ls Lz 5→x87=.string s0)∧(Ls Lz 6→x88=.slice (some ⟨ba,0,none⟩) 1 1)∧(Ls Lz 7→x89=.agg #[.int .i64 1,.string y,.slice (some ⟨ba,0,none⟩) 1 1,.int .i64 0,.slice none 0 0]∧y.size≤9)∧(Ls Lz 8→x15=.pointer (some ⟨bg,0,none⟩))∧(Ls Lz 9→(∃ (bg ba:Nat) (y:ByteArray),x15=.pointer (some ⟨bg,0,none⟩)∧y.size≤9∧w1.heap.size≤ba∧W.heap[bg]?=some (.cells #[.int .i64 1,.string y,.slice (some ⟨ba,0,none⟩) 1 1,.int .i64 0,.slice none 0 0] 66 (0,0))∧RdQ W (·=ba) 1 (some ⟨ba,0,none⟩) 1 (strs [s0])∧Fr w p W∧Fr w3 p W))∧(Ls Lz 1→¬ Ls Lz 9→RdQ W (fun b=>w3.heap.size≤b) 1 (some ⟨b1,0,none⟩) 5 (strs [⟨#[120]⟩,⟨#[122]⟩,⟨#[115]⟩,⟨#[121]⟩,⟨#[104]⟩]))∧(Ls Lz 6→¬ Ls Lz 9→RdQ W (fun b=>w3.heap.size≤b) 1 (some ⟨ba,0,none⟩) 1 (strs [s0]))∧(Ls Lz 8→¬ Ls Lz 9→GZ w3.heap.size bg W)∧(¬ Ls Lz 9→Fr w3 p W)∧(Ls Lz 9→¬ Ls Lz 9→True)):=⟨_,rfl⟩
      have HJ0:=hD hJ0
      clear hJ0
      refine ya3 Zq8 J0 ?_ ?_ ?_
      ·intro A0
       rw[HJ0.out]
       exact ⟨0,⟨#[]⟩,0,0,A0.getD 15 undef,A0.getD 82 undef,A0.getD 83 undef,A0.getD 84 undef,A0.getD 85 undef,A0.getD 86 undef,A0.getD 87 undef,A0.getD 88 undef,A0.getD 89 undef,by simp only[ybm],zn,zn,zn,zn,zn,zn,zn,zn,zn,zn,zn,zn,zn,fun _=>frS.drew,zn⟩
      ·intro Lz a W hsize hcl hJ i hi
       have hil:=ybn hi
       have hnl:=ybi hi
       have hnow:=ybh hi hsize
       have HCL:=hD hcl
       rw[HJ0.out] at hJ
       obtain ⟨b1,y,ba,bg,x15,x82,x83,x84,x85,x86,x87,x88,x89,rfl,HF⟩:=hJ
       have HH:=hD HF
       have hi2:i=0∨i=1∨i=2∨i=3∨i=4∨i=5∨i=6∨i=7∨i=8∨i=9:=by simp at hil;omega
       clear hil hcl HF
       rcases hi2 with rfl|rfl|rfl|rfl|rfl|rfl|rfl|rfl|rfl|rfl
       ·clear hi HCL
        simp only[zA,zB,zC]
        refine yaa rfl rfl fun K hK=>?_
        go_wp2_with fail
        rw[HJ0.out]
        exact ⟨b1,y,ba,bg,x15,.pointer (some ⟨p,0,none⟩),x83,x84,x85,x86,x87,x88,x89,(by simp only[zA,zB,zC]),zT HH⟩
       ·have hns:¬ Ls Lz 9:=fun h=>hnl (dq HCL (dq HCL (dq HCL h 7) 2) 1)
        have V0:=(pj13 HH.out) hns
        clear hi HCL
        simp only[zA,zB,zC]
        refine yaa rfl rfl fun K hK=>?_
        go_wp2_with fail
        rw[HJ0.out]
        exact ⟨W.heap.size,y,ba,bg,x15,x82,.slice (some ⟨W.heap.size,0,none⟩) 5 5,x84,x85,x86,x87,x88,x89,(by simp only[zA,zB,zC]),zk HH,fun _=>rfl,zk HH,zk HH,zk HH,zk HH,zk HH,zk HH,zk HH,Ba hns,fun _ _=>ybg rfl rfl (show w3.heap.size≤W.heap.size from V0.gr.size) rfl,(Bt (pj11 HH.out) fun x=>yam x (Fr.alloc (Fr.start V0.cur) _) Zq6),(Bt (pj12 HH.out) fun x=>GZ.fr x (Fr.alloc (Fr.start V0.cur) _) Zq6),fun h=>Fr.call ((pj13 HH.out) (fun h2=>h h2.fwd)) (Fr.cur (Fr.alloc (Fr.start V0.cur) _)) (Fr.gr (Fr.alloc (Fr.start V0.cur) _)),Bb hns⟩
       ·have hns:¬ Ls Lz 9:=fun h=>hnl (dq HCL (dq HCL h 7) 2)
        have D0:=(pj0 HH.out) (rq hi 0)
        have D1:=(pj1 HH.out) (rq hi 1)
        have E1:=(pj10 HH.out) (rq hi 1) hns
        have V0:=(pj13 HH.out) hns
        have hk7:¬ Ls Lz 7:=fun h=>hnl (dq HCL h 2)
        clear hi HCL
        simp only[zA,zB,zC,D0,D1]
        refine yaa rfl rfl fun K hK=>?_
        go_wp2_with fail
        refine(ydc _ 5 5 [⟨#[120]⟩,⟨#[122]⟩,⟨#[115]⟩,⟨#[121]⟩,⟨#[104]⟩] _ p V0.cur Zq11 Zq6 Zq6 E1.rd ?_).mono ?_
        ·intro e
         obtain ⟨_,_,e1,h1,_⟩:=E1.2 Zq6
         injection e1 with e1
         injection e1 with e1
         have h1:w3.heap.size≤_:=h1
         omega
        rintro e y1 ⟨y7,hy,rfl,hc,hg⟩
        have hy9:=few5 y7 hy
        go_wp2_with fail
        rw[HJ0.out]
        exact ⟨b1,y7,ba,bg,x15,x82,x83,.string y7,x85,x86,x87,x88,x89,(by simp only[zA,zB,zC,D0,D1]),zk HH,zk HH,fun _=>⟨rfl,hy9⟩,zk HH,zk HH,zk HH,zk HH,Ba hk7,zk HH,Ba hns,(Bt (pj10 HH.out) fun x=>yam x (Fr.mk hc hg) Zq6),(Bt (pj11 HH.out) fun x=>yam x (Fr.mk hc hg) Zq6),(Bt (pj12 HH.out) fun x=>GZ.fr x (Fr.mk hc hg) Zq6),fun h=>Fr.call ((pj13 HH.out) (fun h2=>h h2.fwd)) (Fr.cur (Fr.mk hc hg)) (Fr.gr (Fr.mk hc hg)),Bb hns⟩
       ·clear hi HCL
        simp only[zA,zB,zC]
        refine yaa rfl rfl fun K hK=>?_
        go_wp2_with fail
        rw[HJ0.out]
        exact ⟨b1,y,ba,bg,x15,x82,x83,x84,.slice (some ⟨bF,oF,none⟩) nF cF,x86,x87,x88,x89,(by simp only[zA,zB,zC]),zT HH⟩
       ·have D3:=(pj3 HH.out) (rq hi 3)
        clear hi HCL
        simp only[zA,zB,zC,D3]
        refine yaa rfl rfl fun K hK=>?_
        go_wp2_with fail
        rw[HJ0.out]
        exact ⟨b1,y,ba,bg,x15,x82,x83,x84,x85,.pointer (some ⟨bF,oF,none⟩),x87,x88,x89,(by simp only[zA,zB,zC,D3]),zT HH⟩
       ·have hns:¬ Ls Lz 9:=fun h=>hnl (dq HCL (dq HCL (dq HCL h 7) 6) 5)
        have D4:=(pj4 HH.out) (rq hi 4)
        have V0:=(pj13 HH.out) hns
        clear hi HCL
        simp only[zA,zB,zC,D4]
        have k0:=ybw V0 hbF2 hbFp qF
        refine yaa rfl rfl fun K hK=>?_
        go_wp2_with fail
        rw[HJ0.out]
        exact ⟨b1,y,ba,bg,x15,x82,x83,x84,x85,x86,.string s0,x88,x89,(by simp only[zA,zB,zC,D4]),zT HH⟩
       ·have hns:¬ Ls Lz 9:=fun h=>hnl (dq HCL (dq HCL h 7) 6)
        have D5:=(pj5 HH.out) (rq hi 5)
        have V0:=(pj13 HH.out) hns
        have hk7:¬ Ls Lz 7:=fun h=>hnl (dq HCL h 6)
        clear hi HCL
        simp only[zA,zB,zC,D5]
        refine yaa rfl rfl fun K hK=>?_
        go_wp2_with fail
        rw[HJ0.out]
        exact ⟨b1,y,W.heap.size,bg,x15,x82,x83,x84,x85,x86,x87,.slice (some ⟨W.heap.size,0,none⟩) 1 1,x89,(by simp only[zA,zB,zC,D5]),zk HH,zk HH,zk HH,zk HH,zk HH,zk HH,fun _=>rfl,Ba hk7,zk HH,Ba hns,(Bt (pj10 HH.out) fun x=>yam x (Fr.alloc (Fr.start V0.cur) _) Zq6),fun _ _=>ybg rfl rfl (show w3.heap.size≤W.heap.size from V0.gr.size) rfl,(Bt (pj12 HH.out) fun x=>GZ.fr x (Fr.alloc (Fr.start V0.cur) _) Zq6),fun h=>Fr.call ((pj13 HH.out) (fun h2=>h h2.fwd)) (Fr.cur (Fr.alloc (Fr.start V0.cur) _)) (Fr.gr (Fr.alloc (Fr.start V0.cur) _)),Bb hns⟩
       ·have D2:=(pj2 HH.out) (rq hi 2)
        have D6:=(pj6 HH.out) (rq hi 6)
        clear hi HCL
        obtain ⟨D2,X2⟩:=D2
        simp only[zA,zB,zC,D2,D6]
        refine yaa rfl rfl fun K hK=>?_
        go_wp2_with fail
        rw[HJ0.out]
        exact ⟨b1,y,ba,bg,x15,x82,x83,x84,x85,x86,x87,x88,.agg #[.int .i64 1,.string y,.slice (some ⟨ba,0,none⟩) 1 1,.int .i64 0,.slice none 0 0],(by simp only[zA,zB,zC,D2,D6]),zk HH,zk HH,zk HH,zk HH,zk HH,zk HH,zk HH,fun _=>⟨rfl,X2⟩,zk HH,zk HH,zw HH,zw HH,zw HH,zi HH,zw HH⟩
       ·have hns:¬ Ls Lz 9:=fun h=>hnl (dq HCL h 8)
        have V0:=(pj13 HH.out) hns
        clear hi HCL
        simp only[zA,zB,zC]
        refine yaa rfl rfl fun K hK=>?_
        go_wp2_with fail
        rw[HJ0.out]
        exact ⟨b1,y,ba,W.heap.size,.pointer (some ⟨W.heap.size,0,none⟩),x82,x83,x84,x85,x86,x87,x88,x89,(by simp only[zA,zB,zC]),zk HH,zk HH,zk HH,zk HH,zk HH,zk HH,zk HH,zk HH,fun _=>rfl,Ba hns,(Bt (pj10 HH.out) fun x=>yam x (Fr.alloc (Fr.start V0.cur) _) Zq6),(Bt (pj11 HH.out) fun x=>yam x (Fr.alloc (Fr.start V0.cur) _) Zq6),fun _ _=>⟨(show w3.heap.size≤W.heap.size from V0.gr.size),heap_alloc_new W _⟩,fun h=>Fr.call ((pj13 HH.out) (fun h2=>h h2.fwd)) (Fr.cur (Fr.alloc (Fr.start V0.cur) _)) (Fr.gr (Fr.alloc (Fr.start V0.cur) _)),Bb hns⟩
       ·have hns:¬ Ls Lz 9:=hnl
        have D7:=(pj7 HH.out) (rq hi 7)
        have D8:=(pj8 HH.out) (rq hi 8)
        have E8:=(pj12 HH.out) (rq hi 8) hns
        have E6:=(pj11 HH.out) (dq HCL (rq hi 7) 6) hns
        have V0:=(pj13 HH.out) hns
        clear hi HCL
        obtain ⟨D7,X7⟩:=D7
        simp only[zA,zB,zC,D7,D8]
        obtain ⟨g1,g2⟩:=E8
        obtain ⟨z0,z1,z2,z3,z4⟩:=yb9 (lay:=Below.refl _ _) g2
        have f0:=yab (j:=0) g2
        have f1:=yab (j:=1) g2
        have f2:=yab (j:=2) g2
        have f3:=yab (j:=3) g2
        have f4:=yab (j:=4) g2
        have lg:=lt_of_block g2
        have RL:=hD (fun (V:World) hV=>yui (V:=V) hp hR (FR3.out.call V0.cur V0.gr) V0 Zq6 g1 g2 E6 X7 D8 hV)
        clear g2
        refine yaa rfl rfl fun K hK=>?_
        go_wp2_with fail
        rw[HJ0.out]
        exact ⟨b1,y,ba,bg,x15,x82,x83,x84,x85,x86,x87,x88,x89,(by first|(simp only[zA,zB,zC,D7,D8] <;> fail)|simp only[Act.put,zA,zB,zC,D7,D8]),zk HH,zk HH,zk HH,zk HH,zk HH,zk HH,zk HH,zk HH,zk HH,fun _=>RL.out _ rfl,zx hnow,zx hnow,zx hnow,zy hnow,zx hnow⟩
      ·intro Lz a W hsize hJ hr
       rw[HJ0.out] at hJ
       have hall:=ybj hsize Zq8 hr
       obtain ⟨b1,y,ba,bg,x15,x82,x83,x84,x85,x86,x87,x88,x89,rfl,HF⟩:=hJ
       have HH:=hD HF
       have HEND:=(pj9 HH.out) (hall 9 Zq9)
       clear HF HH hall hr hsize
       simp only[zA,zB,zC]
       go_wp2_with fail
       go_meet
       exact HEND
     case rest =>
      obtain ⟨bg,ba,y,rfl,hy9,hbaR,xz,rz,frz,frz3⟩:=hcut
      obtain ⟨wz,rfl⟩:∃ wz:World,wz=wc:=⟨_,rfl⟩
      have H:=hD (And.intro rz (And.intro frz frz3))
      clear rz frz frz3 qF
      obtain ⟨k0,k1,k2,k3,k4⟩:=yb9 (lay:=Below.refl _ _) xz
      have lbg:=lt_of_block xz
      have hwzs:=H.out.2.2.gr.size
      have h35:w1.heap.size≤wz.heap.size:=by omega
      have ry:RdQ (wz.alloc (.cells #[.string a] 9)) (w1.heap.size≤·) 1 (some ⟨wz.heap.size,0,none⟩) 1 (strs [a]):=ye0 rfl rfl h35
      have by1:Below wz.heap.size wz (wz.alloc (.cells #[.string a] 9)):=Zq0
      have by2:Below (wz.alloc (.cells #[.string a] 9)).heap.size (wz.alloc (.cells #[.string a] 9)) ((wz.alloc (.cells #[.string a] 9)).alloc (.cells #[.int .i64 1,.string y,.slice (some ⟨ba,0,none⟩) 1 1,.int .i64 0,.slice none 0 0] 66)):=Zq0
      have sg:=yb3 (d:=d) (h:=⟨1,y,[s0],0⟩) (Aa:=some ⟨ba,0,none⟩) (ca:=1) (cb:=0) (((H.out.1.mono (P':=(w1.heap.size≤·)) (fun b _ h=>by rw[h];exact hbaR)).below by1).below by2) (yc5 (A:=none) d) (Nat.le_refl _)
      have tg:=(ElQ.one sg).tr (ye0 (w:=(wz.alloc (.cells #[.string a] 9))) (base:=w1.heap.size) (b:=wz.heap.size+1) (cs:=#[.int .i64 1,.string y,.slice (some ⟨ba,0,none⟩) 1 1,.int .i64 0,.slice none 0 0]) (e:=66) (n:=1) (size:=5) Zq11 rfl Zq6) rfl
      have hbp:=yfb d
      have hbs:=yfj d
      have hszg:szT (d+1) [mkT (d:=d) ⟨1,y,[s0],0⟩ []]≤40:=by rw[yde,yb5,ydd];show 1+(y.size+(1+(s0.size+0)+0))≤_;omega
      have HH:=hD (And.intro ry (And.intro by2 (And.intro tg by1)))
      clear ry by1 by2 sg tg
      obtain ⟨xs,hox,hpush⟩:=(yko OW3.out ((H.out.2.2.below HH.out.2.2.2).below HH.out.2.1) hp).add HV.out hR (yb3 (d:=(d+1)) (h:=⟨4,⟨#[]⟩,[a],0⟩) (Aa:=some ⟨wz.heap.size,0,none⟩) (ca:=1) (cb:=1) (bd:=[mkT (d:=d) ⟨1,y,[s0],0⟩ []]) (HH.out.1.below HH.out.2.1) HH.out.2.2.1 (Nat.le_refl _))
      have PU:=hD hpush
      have HSZ:=hD (show szE (mkT (d:=(d+1)) ⟨4,⟨#[]⟩,[a],0⟩ [mkT (d:=d) ⟨1,y,[s0],0⟩ []])≤bE ((d+1)) by rw[yb5];show 0+(1+(a.size+0)+szT (d+1) [mkT (d:=d) ⟨1,y,[s0],0⟩ []])≤_;omega)
      have frk:=(H.out.2.1.below HH.out.2.2.2).below HH.out.2.1
      have hgk:=frk.gr.size
      clear hpush
      go_wp2_with (at_builtin;refine yae _ rfl _ _ 25 rfl w.heap.size 66 i0 _ 5 80 Tryz.underlying25 hi hz0 hz1 hz2 rfl Zq9 _ _ _ rfl (hox.alloc _) _ 1 1 _ rfl (yc4 ?k0_5 rfl) ?k2_5 ?k3_5 ?k4_5 ?k5_5 ?_)
      try (case k0_5=>first|rfl|simp)
      case k2_5=>repeat' (first|rfl|apply And.intro)
      case k3_5=>simp only[maxLen];omega
      case k4_5=>omega
      case k5_5=>first|omega|(simp;omega)
      intro v6 w6 own6 gr6 hat
      have O6:=hD (PU.out _ _ _ own6 ((Below.refl _ _).alloc (Nat.le_refl _) _) gr6 (hat.imp id fun e=>e.trans Zq11))
      have F6:=hD ((frk.alloc _).own hp gr6 HG.out)
      clear gr6 own6 hox frk PU
      go_wp2_with fail
      go_roundw
      case rel=>exact ⟨t+1,l++[_],by go_num,by omega,(ycp hl hsm.out HSZ.out).1,(ycp hl hsm.out HSZ.out).2,O6.out,F6.out⟩
      case measure=>simp [intOf];omega
   have f2:(k==2)=false:=by simp [e2]
   by_cases e3:k=3
   ·subst e3
    cases hh:hasS N ⟨#[122,57]⟩
    ·by_cases hm4:m<4
     ·have hN1:=NM.out
      go_wp2_with (go_at_call 77;refine(ybx _ _ _ N _ _ hN1.rd hN1.len Zq6).mono ?_;rintro e w' ⟨rfl,rfl⟩;rw[hh])
      obtain ⟨wa,hwa⟩:∃ wa,wa=w1.alloc (.cells #[.string ⟨#[122,57]⟩] 9):=⟨_,rfl⟩
      rw[←hwa]
      have ba:Below w1.heap.size w1 wa:=by rw[hwa];exact Zq0
      have ra:RdQ wa (w1.heap.size≤·) 1 (some ⟨w1.heap.size,0,none⟩) 1 (strs [⟨#[122,57]⟩]):=by rw[hwa];exact ye0 rfl rfl (Nat.le_refl _)
      have FRa:=FR1.out.below ba
      have hsa:=ba.size
      clear hwa hN1
      refine(ymu _ _ _ N ⟨#[122,57]⟩ wa p FRa.cur (NM.out.below ba) Zq9).mono ?_
      rintro e w2 ⟨A3,c3,l3,rfl,htr,hsz,hc2,hg2⟩
      obtain ⟨l4,htr4,hsz4⟩:=htr.upTo d
      have hbp:=yfb d
      have hbs:=yfj d
      have hsz5:szT (d+1) l4≤100:=by rw[hsz4];exact hsz
      obtain ⟨xs,hox,hpush⟩:=((OW1.out.below ba).grown hg2 (fun k hk=>by injection hk with hk;omega)).add HV.out hR (yb3 (d:=(d+1)) (h:=⟨5,⟨#[]⟩,[⟨#[122,57]⟩],0⟩) (Aa:=some ⟨w1.heap.size,0,none⟩) (ca:=1) (cb:=c3) (bd:=l4) (ra.call hg2 Zq6) (htr4.mono (fun b _ hb=>Nat.le_trans hsa hb)) (Nat.le_refl _))
      have PU:=hD hpush
      have HSZ:=hD (show szE (mkT (d:=(d+1)) ⟨5,⟨#[]⟩,[⟨#[122,57]⟩],0⟩ l4)≤bE ((d+1)) by rw[yb5];show 0+(1+2+szT (d+1) l4)≤_;omega)
      have frk:=FRa.call hc2 hg2
      have hgk:=frk.gr.size
      clear hpush
      go_wp2_with (at_builtin;refine yae _ rfl _ _ 25 rfl w.heap.size 66 i0 _ 5 80 Tryz.underlying25 hi hz0 hz1 hz2 rfl Zq9 _ _ _ rfl (hox.alloc _) _ 1 1 _ rfl (yc4 ?k0_6 rfl) ?k2_6 ?k3_6 ?k4_6 ?k5_6 ?_)
      try (case k0_6=>first|rfl|simp)
      case k2_6=>repeat' (first|rfl|apply And.intro)
      case k3_6=>simp only[maxLen];omega
      case k4_6=>omega
      case k5_6=>first|omega|(simp;omega)
      intro v6 w6 own6 gr6 hat
      have O6:=hD (PU.out _ _ _ own6 ((Below.refl _ _).alloc (Nat.le_refl _) _) gr6 (hat.imp id fun e=>e.trans Zq11))
      have F6:=hD ((frk.alloc _).own hp gr6 HG.out)
      clear gr6 own6 hox frk PU
      go_wp2_with fail
      go_roundw
      case rel=>exact ⟨t+1,l++[_],by go_num,by omega,(ycp hl hsm.out HSZ.out).1,(ycp hl hsm.out HSZ.out).2,O6.out,F6.out⟩
      case measure=>simp [intOf];omega
     ·have hN1:=NM.out
      go_wp2_with (go_at_call 77;refine(ybx _ _ _ N _ _ hN1.rd hN1.len Zq6).mono ?_;rintro e w' ⟨rfl,rfl⟩;rw[hh])
      go_roundw
      case rel=>exact ⟨t+1,l,by go_num,by omega,by omega,hsm,OW1.out,FR1.out⟩
      case measure=>simp [intOf];omega
    ·have hN1:=NM.out
     go_wp2_with (go_at_call 77;refine(ybx _ _ _ N _ _ hN1.rd hN1.len Zq6).mono ?_;rintro e w' ⟨rfl,rfl⟩;rw[hh])
     go_roundw
     case rel=>exact ⟨t+1,l,by go_num,by omega,by omega,hsm,OW1.out,FR1.out⟩
     case measure=>simp [intOf];omega
   have f3:(k==3)=false:=by simp [e3]
   by_cases e4:k=4
   ·subst e4
    cases wild
    ·go_wp2_with fail
     go_roundw
     case rel=>exact ⟨t+1,l,by go_num,by omega,by omega,hsm,OW1.out,FR1.out⟩
     case measure=>simp [intOf];omega
    ·obtain ⟨bn,on,rfl,hbn,hcn⟩:=NM.out.rd.2 Zq6
     have hbp:=yfb d
     have hbs:=yfj d
     have hnp:bn≠p:=NM.out.ne _ rfl
     have hND:∀ i,(ndx N i).size≤9:=fun i=>by
      unfold ndx
      rw[List.getD_eq_getElem?_getD]
      cases hi:N[i]? with
      | none=>exact Nat.zero_le _
      | some s=>exact NM.out.small s (List.mem_of_getElem? hi)
     have hS:∀ i,i<m→w1.cell? ⟨bn,on+i,none⟩=some (.string (ndx N i)):=fun i hi=>hcn i _ (by
      unfold ndx
      have hl:i<N.length:=by rw[NM.out.len];exact hi
      rw[List.getD_eq_getElem?_getD,List.getElem?_eq_getElem hl]
      exact ybr (List.getElem?_eq_getElem hl))
     have HND:=hD hND
     have HS:=hD hS
     clear hcn hS hND
     go_upto_region 26 with (fail)
     have frS:Fr w1 p w1:=Fr.start FR1.out.cur
     obtain ⟨J0,hJ0⟩:∃ J:Array Value→Array Bool→Act→World→Prop,J=(fun A0 Lz a W=>∃ (j:Nat) (b1:Nat) (y:ByteArray) (b2:Nat) (b4:Nat) (A6:Option Addr) (c6:Nat),∃ x9 x119 x120 x121 x122 x123 x124 x125 x126 x127 x128 x129 x130 x131 x132 x133:Value,a=⟨((((((((((((((((A0.setIfInBounds 9 x9).setIfInBounds 119 x119).setIfInBounds 120 x120).setIfInBounds 121 x121).setIfInBounds 122 x122).setIfInBounds 123 x123).setIfInBounds 124 x124).setIfInBounds 125 x125).setIfInBounds 126 x126).setIfInBounds 127 x127).setIfInBounds 128 x128).setIfInBounds 129 x129).setIfInBounds 130 x130).setIfInBounds 131 x131).setIfInBounds 132 x132).setIfInBounds 133 x133),[]⟩∧(Ls Lz 0→x119=.slice Ao l.length co)∧(Ls Lz 1→x120=.slice (some ⟨bn,on,none⟩) m c)∧(Ls Lz 2→x121=.pointer (some ⟨p,0,none⟩))∧(Ls Lz 3→x122=.slice (some ⟨bn,on,none⟩) m c)∧(Ls Lz 4→x123=.int .i64 m)∧(Ls Lz 5→x124=.int .i64 j∧j<m)∧(Ls Lz 6→x125=.pointer (some ⟨bn,on+j,none⟩)∧j<m)∧(Ls Lz 7→x126=.string (ndx N j))∧(Ls Lz 8→x127=.pointer (some ⟨p,0,none⟩))∧(Ls Lz 9→x128=.slice (some ⟨b1,0,none⟩) 3 3)∧(Ls Lz 10→x129=.string y∧y.size≤9)∧(Ls Lz 11→x130=.slice (some ⟨b2,0,none⟩) 2 2∧y.size≤9)∧(Ls Lz 12→x131=.agg #[.int .i64 6,.string ⟨#[]⟩,.slice (some ⟨b2,0,none⟩) 2 2,.int .i64 0,.slice none 0 0]∧y.size≤9)∧(Ls Lz 13→x132=.slice (some ⟨b4,0,none⟩) 1 1)∧(Ls Lz 14→x133=.slice A6 (l.length+1) c6)∧(Ls Lz 15→(∃ (s:Tr (d+1+1)) (A6:Option Addr) (c6:Nat),x9=.slice A6 (l.length+1) c6∧szE s≤bE (d+1)∧OwnT W w.heap.size (d+1) (.slice A6 (l.length+1) c6) (l++[s])∧Fr w p W))∧(Ls Lz 9→¬ Ls Lz 14→RdQ W (fun b=>w1.heap.size≤b) 1 (some ⟨b1,0,none⟩) 3 (strs [⟨#[114]⟩,⟨#[115,49]⟩,⟨#[114]⟩]))∧(Ls Lz 11→¬ Ls Lz 14→RdQ W (fun b=>w1.heap.size≤b) 1 (some ⟨b2,0,none⟩) 2 (strs [(ndx N j),y]))∧(Ls Lz 13→¬ Ls Lz 14→LitE (d+1) (bE (d+1)) w1.heap.size W b4)∧(¬ Ls Lz 14→Fr w1 p W)∧(¬ Ls Lz 14→x9=A0.getD 9 undef)∧(Ls Lz 14→¬ Ls Lz 15→(∃ (s:Tr (d+1+1)),szE s≤bE (d+1)∧OwnT W w.heap.size (d+1) (.slice A6 (l.length+1) c6) (l++[s])∧Fr w p W))):=⟨_,rfl⟩
     have HJ0:=hD hJ0
     clear hJ0
     refine ya3 Zq8 J0 ?_ ?_ ?_
     ·intro A0
      rw[HJ0.out]
      exact ⟨0,0,⟨#[]⟩,0,0,none,0,A0.getD 9 undef,A0.getD 119 undef,A0.getD 120 undef,A0.getD 121 undef,A0.getD 122 undef,A0.getD 123 undef,A0.getD 124 undef,A0.getD 125 undef,A0.getD 126 undef,A0.getD 127 undef,A0.getD 128 undef,A0.getD 129 undef,A0.getD 130 undef,A0.getD 131 undef,A0.getD 132 undef,A0.getD 133 undef,by simp only[ybm],zn,zn,zn,zn,zn,zn,zn,zn,zn,zn,zn,zn,zn,zn,zn,zn,zn,zn,zn,fun _=>frS.drew,fun _=>rfl,zn⟩
     ·intro Lz a W hsize hcl hJ i hi
      have hil:=ybn hi
      have hnl:=ybi hi
      have hnow:=ybh hi hsize
      have HCL:=hD hcl
      rw[HJ0.out] at hJ
      obtain ⟨j,b1,y,b2,b4,A6,c6,x9,x119,x120,x121,x122,x123,x124,x125,x126,x127,x128,x129,x130,x131,x132,x133,rfl,HF⟩:=hJ
      have HH:=hD HF
      have hi2:i=0∨i=1∨i=2∨i=3∨i=4∨i=5∨i=6∨i=7∨i=8∨i=9∨i=10∨i=11∨i=12∨i=13∨i=14∨i=15:=by simp at hil;omega
      clear hil hcl HF
      rcases hi2 with rfl|rfl|rfl|rfl|rfl|rfl|rfl|rfl|rfl|rfl|rfl|rfl|rfl|rfl|rfl|rfl
      ·have hns:¬ Ls Lz 14:=fun h=>hnl (dq HCL h 0)
       have V0:=(pj19 HH.out) hns
       have V1:=hD ((pj20 HH.out) hns)
       have hnla:¬ Ls Lz 15:=fun h=>hns (HCL.out.dep2 h 14 Zq8)
       clear hi HCL
       simp only[zA,zB,zC]
       refine yaa rfl rfl fun K hK=>?_
       go_wp2_with fail
       rw[HJ0.out]
       exact ⟨j,b1,y,b2,b4,A6,c6,x9,x9,x120,x121,x122,x123,x124,x125,x126,x127,x128,x129,x130,x131,x132,x133,(by simp only[zA,zB,zC]),fun _=>V1.out,zk HH,zk HH,zk HH,zk HH,zk HH,zk HH,zk HH,zk HH,zk HH,zk HH,zk HH,zk HH,zk HH,zk HH,zk HH,zw HH,zw HH,zw HH,zi HH,zi HH,zw HH⟩
      ·clear hi HCL
       simp only[zA,zB,zC]
       refine yaa rfl rfl fun K hK=>?_
       go_wp2_with fail
       rw[HJ0.out]
       exact ⟨j,b1,y,b2,b4,A6,c6,x9,x119,.slice (some ⟨bn,on,none⟩) m c,x121,x122,x123,x124,x125,x126,x127,x128,x129,x130,x131,x132,x133,(by simp only[zA,zB,zC]),zT HH⟩
      ·clear hi HCL
       simp only[zA,zB,zC]
       refine yaa rfl rfl fun K hK=>?_
       go_wp2_with fail
       rw[HJ0.out]
       exact ⟨j,b1,y,b2,b4,A6,c6,x9,x119,x120,.pointer (some ⟨p,0,none⟩),x122,x123,x124,x125,x126,x127,x128,x129,x130,x131,x132,x133,(by simp only[zA,zB,zC]),zT HH⟩
      ·clear hi HCL
       simp only[zA,zB,zC]
       refine yaa rfl rfl fun K hK=>?_
       go_wp2_with fail
       rw[HJ0.out]
       exact ⟨j,b1,y,b2,b4,A6,c6,x9,x119,x120,x121,.slice (some ⟨bn,on,none⟩) m c,x123,x124,x125,x126,x127,x128,x129,x130,x131,x132,x133,(by simp only[zA,zB,zC]),zT HH⟩
      ·have D3:=(pj3 HH.out) (rq hi 3)
       clear hi HCL
       simp only[zA,zB,zC,D3]
       refine yaa rfl rfl fun K hK=>?_
       go_wp2_with fail
       rw[HJ0.out]
       exact ⟨j,b1,y,b2,b4,A6,c6,x9,x119,x120,x121,x122,.int .i64 m,x124,x125,x126,x127,x128,x129,x130,x131,x132,x133,(by simp only[zA,zB,zC,D3]),zT HH⟩
      ·have hns:¬ Ls Lz 14:=fun h=>hnl (dq HCL (dq HCL (dq HCL (dq HCL (dq HCL (dq HCL h 13) 12) 11) 7) 6) 5)
       have D2:=(pj2 HH.out) (rq hi 2)
       have D4:=(pj4 HH.out) (rq hi 4)
       have V0:=(pj19 HH.out) hns
       have V1:=hD ((pj20 HH.out) hns)
       have hk6:¬ Ls Lz 6:=fun h=>hnl (dq HCL h 5)
       have hk7:¬ Ls Lz 7:=fun h=>hnl (dq HCL (dq HCL h 6) 5)
       have hk11:¬ Ls Lz 11:=fun h=>hnl (dq HCL (dq HCL (dq HCL h 7) 6) 5)
       have hnla:¬ Ls Lz 15:=fun h=>hns (HCL.out.dep2 h 14 Zq8)
       clear hi HCL
       simp only[zA,zB,zC,D2,D4]
       refine yaa rfl rfl fun K hK=>?_
       go_wp2_with fail
       refine(ybu m (m - 1) _ p V0.cur Zq6 Zq6 Zq6).mono ?_
       rintro e y1 ⟨q7,hq0,hq1,rfl,hc,hg⟩
       obtain ⟨j7,rfl⟩:∃ j7:Nat,q7=j7:=⟨q7.toNat,by omega⟩
       have hj7:j7<m:=by omega
       go_wp2_with fail
       rw[HJ0.out]
       exact ⟨j7,b1,y,b2,b4,A6,c6,x9,x119,x120,x121,x122,x123,.int .i64 j7,x125,x126,x127,x128,x129,x130,x131,x132,x133,(by simp only[zA,zB,zC,D2,D4]),zk HH,zk HH,zk HH,zk HH,zk HH,fun _=>⟨rfl,hj7⟩,Ba hk6,Ba hk7,zk HH,zk HH,zk HH,Ba hk11,zk HH,zk HH,zk HH,Ba hnla,(Bt (pj16 HH.out) fun x=>yam x (Fr.mk hc hg) Zq6),Bb hk11,(Bt (pj18 HH.out) fun x=>LitE.fr x (Fr.mk hc hg) Zq6),fun h=>Fr.call ((pj19 HH.out) (fun h2=>h h2.fwd)) (Fr.cur (Fr.mk hc hg)) (Fr.gr (Fr.mk hc hg)),fun h=>((pj20 HH.out) (fun h2=>h h2.fwd)),Bb hns⟩
      ·have D1:=(pj1 HH.out) (rq hi 1)
       have D5:=(pj5 HH.out) (rq hi 5)
       clear hi HCL
       obtain ⟨D5,X5⟩:=D5
       simp only[zA,zB,zC,D1,D5]
       refine yaa rfl rfl fun K hK=>?_
       go_wp2_with fail
       rw[HJ0.out]
       exact ⟨j,b1,y,b2,b4,A6,c6,x9,x119,x120,x121,x122,x123,x124,.pointer (some ⟨bn,on+j,none⟩),x126,x127,x128,x129,x130,x131,x132,x133,(by simp only[zA,zB,zC,D1,D5]),zk HH,zk HH,zk HH,zk HH,zk HH,zk HH,fun _=>⟨rfl,X5⟩,zk HH,zk HH,zk HH,zk HH,zk HH,zk HH,zk HH,zk HH,zk HH,zw HH,zw HH,zw HH,zi HH,zi HH,zw HH⟩
      ·have hns:¬ Ls Lz 14:=fun h=>hnl (dq HCL (dq HCL (dq HCL (dq HCL h 13) 12) 11) 7)
       have D6:=(pj6 HH.out) (rq hi 6)
       have V0:=(pj19 HH.out) hns
       have V1:=hD ((pj20 HH.out) hns)
       have hnla:¬ Ls Lz 15:=fun h=>hns (HCL.out.dep2 h 14 Zq8)
       clear hi HCL
       obtain ⟨D6,X6⟩:=D6
       simp only[zA,zB,zC,D6]
       have k0:=ybw V0 hbn hnp (HS.out j X6)
       refine yaa rfl rfl fun K hK=>?_
       go_wp2_with fail
       rw[HJ0.out]
       exact ⟨j,b1,y,b2,b4,A6,c6,x9,x119,x120,x121,x122,x123,x124,x125,.string (ndx N j),x127,x128,x129,x130,x131,x132,x133,(by simp only[zA,zB,zC,D6]),zT HH⟩
      ·clear hi HCL
       simp only[zA,zB,zC]
       refine yaa rfl rfl fun K hK=>?_
       go_wp2_with fail
       rw[HJ0.out]
       exact ⟨j,b1,y,b2,b4,A6,c6,x9,x119,x120,x121,x122,x123,x124,x125,x126,.pointer (some ⟨p,0,none⟩),x128,x129,x130,x131,x132,x133,(by simp only[zA,zB,zC]),zT HH⟩
      ·have hns:¬ Ls Lz 14:=fun h=>hnl (dq HCL (dq HCL (dq HCL (dq HCL (dq HCL h 13) 12) 11) 10) 9)
       have V0:=(pj19 HH.out) hns
       have V1:=hD ((pj20 HH.out) hns)
       have hnla:¬ Ls Lz 15:=fun h=>hns (HCL.out.dep2 h 14 Zq8)
       clear hi HCL
       simp only[zA,zB,zC]
       refine yaa rfl rfl fun K hK=>?_
       go_wp2_with fail
       rw[HJ0.out]
       exact ⟨j,W.heap.size,y,b2,b4,A6,c6,x9,x119,x120,x121,x122,x123,x124,x125,x126,x127,.slice (some ⟨W.heap.size,0,none⟩) 3 3,x129,x130,x131,x132,x133,(by simp only[zA,zB,zC]),zk HH,zk HH,zk HH,zk HH,zk HH,zk HH,zk HH,zk HH,zk HH,fun _=>rfl,zk HH,zk HH,zk HH,zk HH,zk HH,Ba hnla,fun _ _=>ybg rfl rfl (show w1.heap.size≤W.heap.size from V0.gr.size) rfl,(Bt (pj17 HH.out) fun x=>yam x (Fr.alloc (Fr.start V0.cur) _) Zq6),(Bt (pj18 HH.out) fun x=>LitE.fr x (Fr.alloc (Fr.start V0.cur) _) Zq6),fun h=>Fr.call ((pj19 HH.out) (fun h2=>h h2.fwd)) (Fr.cur (Fr.alloc (Fr.start V0.cur) _)) (Fr.gr (Fr.alloc (Fr.start V0.cur) _)),fun h=>((pj20 HH.out) (fun h2=>h h2.fwd)),Bb hns⟩
      ·have hns:¬ Ls Lz 14:=fun h=>hnl (dq HCL (dq HCL (dq HCL (dq HCL h 13) 12) 11) 10)
       have D8:=(pj8 HH.out) (rq hi 8)
       have D9:=(pj9 HH.out) (rq hi 9)
       have E9:=(pj16 HH.out) (rq hi 9) hns
       have V0:=(pj19 HH.out) hns
       have V1:=hD ((pj20 HH.out) hns)
       have hk11:¬ Ls Lz 11:=fun h=>hnl (dq HCL h 10)
       have hk12:¬ Ls Lz 12:=fun h=>hnl (dq HCL (dq HCL h 11) 10)
       have hnla:¬ Ls Lz 15:=fun h=>hns (HCL.out.dep2 h 14 Zq8)
       clear hi HCL
       simp only[zA,zB,zC,D8,D9]
       refine yaa rfl rfl fun K hK=>?_
       go_wp2_with fail
       refine(ydc _ 3 3 [⟨#[114]⟩,⟨#[115,49]⟩,⟨#[114]⟩] _ p V0.cur Zq11 Zq6 Zq6 E9.rd ?_).mono ?_
       ·intro e
        obtain ⟨_,_,e1,h1,_⟩:=E9.2 Zq6
        injection e1 with e1
        injection e1 with e1
        have h1:w1.heap.size≤_:=h1
        omega
       rintro e y1 ⟨y7,hy,rfl,hc,hg⟩
       have hy9:=few3 y7 hy
       go_wp2_with fail
       rw[HJ0.out]
       exact ⟨j,b1,y7,b2,b4,A6,c6,x9,x119,x120,x121,x122,x123,x124,x125,x126,x127,x128,.string y7,x130,x131,x132,x133,(by simp only[zA,zB,zC,D8,D9]),zk HH,zk HH,zk HH,zk HH,zk HH,zk HH,zk HH,zk HH,zk HH,zk HH,fun _=>⟨rfl,hy9⟩,Ba hk11,Ba hk12,zk HH,zk HH,Ba hnla,(Bt (pj16 HH.out) fun x=>yam x (Fr.mk hc hg) Zq6),Bb hk11,(Bt (pj18 HH.out) fun x=>LitE.fr x (Fr.mk hc hg) Zq6),fun h=>Fr.call ((pj19 HH.out) (fun h2=>h h2.fwd)) (Fr.cur (Fr.mk hc hg)) (Fr.gr (Fr.mk hc hg)),fun h=>((pj20 HH.out) (fun h2=>h h2.fwd)),Bb hns⟩
      ·have hns:¬ Ls Lz 14:=fun h=>hnl (dq HCL (dq HCL (dq HCL h 13) 12) 11)
       have D7:=(pj7 HH.out) (rq hi 7)
       have D10:=(pj10 HH.out) (rq hi 10)
       have V0:=(pj19 HH.out) hns
       have V1:=hD ((pj20 HH.out) hns)
       have hk12:¬ Ls Lz 12:=fun h=>hnl (dq HCL h 11)
       have hnla:¬ Ls Lz 15:=fun h=>hns (HCL.out.dep2 h 14 Zq8)
       clear hi HCL
       obtain ⟨D10,X10⟩:=D10
       simp only[zA,zB,zC,D7,D10]
       refine yaa rfl rfl fun K hK=>?_
       go_wp2_with fail
       rw[HJ0.out]
       exact ⟨j,b1,y,W.heap.size,b4,A6,c6,x9,x119,x120,x121,x122,x123,x124,x125,x126,x127,x128,x129,.slice (some ⟨W.heap.size,0,none⟩) 2 2,x131,x132,x133,(by simp only[zA,zB,zC,D7,D10]),zk HH,zk HH,zk HH,zk HH,zk HH,zk HH,zk HH,zk HH,zk HH,zk HH,zk HH,fun _=>⟨rfl,X10⟩,Ba hk12,zk HH,zk HH,Ba hnla,(Bt (pj16 HH.out) fun x=>yam x (Fr.alloc (Fr.start V0.cur) _) Zq6),fun _ _=>ybg rfl rfl (show w1.heap.size≤W.heap.size from V0.gr.size) rfl,(Bt (pj18 HH.out) fun x=>LitE.fr x (Fr.alloc (Fr.start V0.cur) _) Zq6),fun h=>Fr.call ((pj19 HH.out) (fun h2=>h h2.fwd)) (Fr.cur (Fr.alloc (Fr.start V0.cur) _)) (Fr.gr (Fr.alloc (Fr.start V0.cur) _)),fun h=>((pj20 HH.out) (fun h2=>h h2.fwd)),Bb hns⟩
      ·have D11:=(pj11 HH.out) (rq hi 11)
       clear hi HCL
       obtain ⟨D11,X11⟩:=D11
       simp only[zA,zB,zC,D11]
       refine yaa rfl rfl fun K hK=>?_
       go_wp2_with fail
       rw[HJ0.out]
       exact ⟨j,b1,y,b2,b4,A6,c6,x9,x119,x120,x121,x122,x123,x124,x125,x126,x127,x128,x129,x130,.agg #[.int .i64 6,.string ⟨#[]⟩,.slice (some ⟨b2,0,none⟩) 2 2,.int .i64 0,.slice none 0 0],x132,x133,(by simp only[zA,zB,zC,D11]),zk HH,zk HH,zk HH,zk HH,zk HH,zk HH,zk HH,zk HH,zk HH,zk HH,zk HH,zk HH,fun _=>⟨rfl,X11⟩,zk HH,zk HH,zk HH,zw HH,zw HH,zw HH,zi HH,zi HH,zw HH⟩
      ·have hns:¬ Ls Lz 14:=fun h=>hnl (dq HCL h 13)
       have D12:=(pj12 HH.out) (rq hi 12)
       have E11:=(pj17 HH.out) (dq HCL (rq hi 12) 11) hns
       have V0:=(pj19 HH.out) hns
       have V1:=hD ((pj20 HH.out) hns)
       have hnla:¬ Ls Lz 15:=fun h=>hns (HCL.out.dep2 h 14 Zq8)
       clear hi HCL
       obtain ⟨D12,X12⟩:=D12
       simp only[zA,zB,zC,D12]
       refine yaa rfl rfl fun K hK=>?_
       go_wp2_with fail
       rw[HJ0.out]
       exact ⟨j,b1,y,b2,W.heap.size,A6,c6,x9,x119,x120,x121,x122,x123,x124,x125,x126,x127,x128,x129,x130,x131,.slice (some ⟨W.heap.size,0,none⟩) 1 1,x133,(by simp only[zA,zB,zC,D12]),zk HH,zk HH,zk HH,zk HH,zk HH,zk HH,zk HH,zk HH,zk HH,zk HH,zk HH,zk HH,zk HH,fun _=>rfl,zk HH,Ba hnla,(Bt (pj16 HH.out) fun x=>yam x (Fr.alloc (Fr.start V0.cur) _) Zq6),(Bt (pj17 HH.out) fun x=>yam x (Fr.alloc (Fr.start V0.cur) _) Zq6),fun _ _=>⟨_,_,ybg rfl rfl (show w1.heap.size≤W.heap.size from V0.gr.size) rfl,yb3 (d:=d+1) (h:=⟨6,⟨#[]⟩,[(ndx N j),y],0⟩) (Aa:=some ⟨b2,0,none⟩) (ca:=2) (Ab:=none) (cb:=0) (yam E11 (Fr.alloc (Fr.start V0.cur) _) Zq6) (yc5 (d+1)) (Nat.le_refl _),by rw[yb5,ydd];have:=HND.out j;show 0+(2+((ndx N j).size+(y.size+0))+0)≤_;omega⟩,fun h=>Fr.call ((pj19 HH.out) (fun h2=>h h2.fwd)) (Fr.cur (Fr.alloc (Fr.start V0.cur) _)) (Fr.gr (Fr.alloc (Fr.start V0.cur) _)),fun h=>((pj20 HH.out) (fun h2=>h h2.fwd)),Bb hns⟩
      ·have hns:¬ Ls Lz 14:=hnl
       have D0:=(pj0 HH.out) (rq hi 0)
       have D13:=(pj13 HH.out) (rq hi 13)
       have E13:=(pj18 HH.out) (rq hi 13) hns
       have V0:=(pj19 HH.out) hns
       have V1:=hD ((pj20 HH.out) hns)
       have hnla:¬ Ls Lz 15:=fun h=>hns (HCL.out.dep2 h 14 Zq8)
       clear hi HCL
       simp only[zA,zB,zC,D0,D13]
       obtain ⟨cs,s,hlr,hls,hlz⟩:=E13
       obtain ⟨xs,hox,hpush⟩:=(yko OW1.out V0 hp).add HV.out (Nat.le_trans hR (Nat.le_refl _)) hls
       have PU:=hD hpush
       have HLZ:=hD hlz
       clear hpush hlz
       refine yaa rfl rfl fun K hK=>?_
       simp only[List.getElem_toArray,List.getElem_cons_succ,List.getElem_cons_zero]
       refine yae _ rfl _ _ 25 rfl w.heap.size 66 i0 _ 5 80 Tryz.underlying25 hi hz0 hz1 hz2 rfl Zq9 (.slice Ao l.length co) l.length xs rfl hox _ 1 1 _ rfl hlr.rd hls.ones ?c3 ?c4 ?c5 ?_
       case c3=>simp only[maxLen];omega
       case c4=>omega
       case c5=>have:=V0.gr.size;omega
       intro v6 W6 own6 gr6 hat
       obtain ⟨A7,c7,rfl,_,_,_⟩:=yah own6
       go_wp2_with fail
       rw[HJ0.out]
       exact ⟨j,b1,y,b2,b4,A7,c7,x9,x119,x120,x121,x122,x123,x124,x125,x126,x127,x128,x129,x130,x131,x132,.slice A7 (l.length+1) c7,(by first|(simp only[zA,zB,zC,D0,D13] <;> fail)|simp only[Act.put,zA,zB,zC,D0,D13]),zk HH,zk HH,zk HH,zk HH,zk HH,zk HH,zk HH,zk HH,zk HH,zk HH,zk HH,zk HH,zk HH,zk HH,fun _=>rfl,Ba hnla,zx hnow,zx hnow,zx hnow,zy hnow,zy hnow,fun _ _=>⟨s,HLZ.out,PU.out _ _ _ own6 (Below.refl _ _) gr6 hat,(FR1.out.call V0.cur V0.gr).own hp gr6 HG.out⟩⟩
      ·have D14:=(pj14 HH.out) (rq hi 14)
       have HST:=rq hi 14
       have VL:=(pe21 HH.out) HST hnl
       clear hi HCL
       simp only[zA,zB,zC,D14]
       obtain ⟨s,l1,l2,l3⟩:=VL
       have ML:=hD (And.intro l1 (And.intro l2 l3))
       clear l1 l2 l3
       refine yaa rfl rfl fun K hK=>?_
       go_wp2_with fail
       rw[HJ0.out]
       exact ⟨j,b1,y,b2,b4,A6,c6,.slice A6 (l.length+1) c6,x119,x120,x121,x122,x123,x124,x125,x126,x127,x128,x129,x130,x131,x132,x133,(by simp only[zA,zB,zC,D14]),zk HH,zk HH,zk HH,zk HH,zk HH,zk HH,zk HH,zk HH,zk HH,zk HH,zk HH,zk HH,zk HH,zk HH,zk HH,fun _=>⟨s,A6,c6,rfl,ML.out⟩,zx (Ls.fwd HST),zx (Ls.fwd HST),zx (Ls.fwd HST),zy (Ls.fwd HST),zy (Ls.fwd HST),zx hnow⟩
     ·intro Lz a W hsize hJ hr
      rw[HJ0.out] at hJ
      have hall:=ybj hsize Zq8 hr
      obtain ⟨j,b1,y,b2,b4,A6,c6,x9,x119,x120,x121,x122,x123,x124,x125,x126,x127,x128,x129,x130,x131,x132,x133,rfl,HF⟩:=hJ
      have HH:=hD HF
      have HEND:=(pj15 HH.out) (hall 15 Zq9)
      clear HF HH hall hr hsize
      simp only[zA,zB,zC]
      obtain ⟨s,A6,c6,rfl,hsz6,hO6,hF6⟩:=HEND
      have HSZ:=hD hsz6
      have O6:=hD hO6
      have F6:=hD hF6
      clear hsz6 hO6 hF6
      go_wp2_with fail
      go_roundw
      case rel=>exact ⟨t+1,l++[_],by go_num,by omega,(ycp hl hsm.out HSZ.out).1,(ycp hl hsm.out HSZ.out).2,O6.out,F6.out⟩
      case measure=>simp [intOf];omega
   have f4:(k==4)=false:=by simp [e4]
   by_cases e5:k=5
   ·subst e5
    cases wild
    ·go_wp2_with fail
     go_roundw
     case rel=>exact ⟨t+1,l,by go_num,by omega,by omega,hsm,OW1.out,FR1.out⟩
     case measure=>simp [intOf];omega
    ·go_wp2_with fail
     obtain ⟨wa,hwa⟩:∃ wa,wa=w1.alloc (.cells #[.string ⟨#[114]⟩,.string ⟨#[115,49]⟩] 9):=⟨_,rfl⟩
     rw[←hwa]
     have ba:Below w1.heap.size w1 wa:=by rw[hwa];exact Zq0
     have rp:Rd wa 1 (some ⟨w1.heap.size,0,none⟩) 2 (([⟨#[114]⟩,⟨#[115,49]⟩]:List ByteArray).map Value.string):=by rw[hwa];exact yit (w:=w1) rfl
     have FRa:=FR1.out.below ba
     have OWa:=OW1.out.below ba
     have NMa:=NM.out.below ba
     have hsa:=ba.size
     clear hwa
     refine(ydc w1.heap.size 2 2 [⟨#[114]⟩,⟨#[115,49]⟩] wa p FRa.cur rfl Zq6 Zq6 rp Zq6).mono ?_
     rintro e w2 ⟨y,hy,rfl,hc2,hg2⟩
     have hy9:y.size≤9:=by
      simp only[List.mem_cons,List.not_mem_nil,or_false] at hy
      rcases hy with rfl|rfl <;> decide
     have FR2:=hD (FRa.call hc2 hg2)
     have OW2:=hD (OWa.grown hg2 (fun k hk=>by injection hk with hk;omega))
     have NM2:=hD (NMa.call hg2)
     have hz2s:=hg2.size
     clear hc2 hg2 rp hy FRa OWa NMa ba
     go_wp2_with fail
     obtain ⟨wb,hwb⟩:∃ wb,wb=w2.alloc (.cells #[.string y] 9):=⟨_,rfl⟩
     rw[←hwb]
     have bb:Below w2.heap.size w2 wb:=by rw[hwb];exact Zq0
     have rb:RdQ wb (w1.heap.size≤·) 1 (some ⟨w2.heap.size,0,none⟩) 1 (strs [y]):=by rw[hwb];exact ye0 rfl rfl Zq6
     have FRb:=FR2.out.below bb
     have hsb:=bb.size
     clear hwb
     refine(yew _ _ _ N wb p FRb.cur (NM2.out.below bb)).mono ?_
     rintro e w3 ⟨word,args,Ag,cg,rfl,hq,⟨hcap,hw4,ha3,hsz⟩,hc3,hg3⟩
     have hbp:=yfb d
     have hbs:=yfj d
     have hs3:=hg3.size
     have bg:Below w3.heap.size w3 (w3.alloc (.cells #[.int .i64 1,.string word,.slice Ag args.length cg,.int .i64 0,.slice none 0 0] 66)):=Zq0
     have sg:=yb3 (d:=d) (h:=⟨1,word,args,0⟩) (cb:=0) (hq.below bg) (yc5 (A:=none) d) hcap
     have tg:=(ElQ.one sg).tr (ye0 (w:=w3) (base:=wb.heap.size) (cs:=#[.int .i64 1,.string word,.slice Ag args.length cg,.int .i64 0,.slice none 0 0]) (e:=66) (n:=1) (size:=5) rfl rfl hs3) rfl
     have hszg:szT (d+1) [mkT (d:=d) ⟨1,word,args,0⟩ []]≤40:=by rw[yde,yb5,ydd];show 1+(word.size+(args.length+szS args+0))≤_;omega
     obtain ⟨xs,hox,hpush⟩:=(((OW2.out.below bb).grown hg3 (fun k hk=>by injection hk with hk;omega)).below bg).add HV.out hR (yb3 (d:=(d+1)) (h:=⟨7,⟨#[]⟩,[y],0⟩) (Aa:=some ⟨w2.heap.size,0,none⟩) (ca:=1) (cb:=1) (bd:=[mkT (d:=d) ⟨1,word,args,0⟩ []]) ((rb.call hg3 Zq6).below bg) (tg.mono (fun b _ hb=>by omega)) (Nat.le_refl _))
     have PU:=hD hpush
     have HSZ:=hD (show szE (mkT (d:=(d+1)) ⟨7,⟨#[]⟩,[y],0⟩ [mkT (d:=d) ⟨1,word,args,0⟩ []])≤bE ((d+1)) by rw[yb5];show 0+(1+(y.size+0)+szT (d+1) [mkT (d:=d) ⟨1,word,args,0⟩ []])≤_;omega)
     have frk:=(FRb.call hc3 hg3).below bg
     have hgk:=frk.gr.size
     clear hpush
     go_wp2_with (at_builtin;refine yae _ rfl _ _ 25 rfl w.heap.size 66 i0 _ 5 80 Tryz.underlying25 hi hz0 hz1 hz2 rfl Zq9 _ _ _ rfl (hox.alloc _) _ 1 1 _ rfl (yc4 ?k0_7 rfl) ?k2_7 ?k3_7 ?k4_7 ?k5_7 ?_)
     try (case k0_7=>first|rfl|simp)
     case k2_7=>repeat' (first|rfl|apply And.intro)
     case k3_7=>simp only[maxLen];omega
     case k4_7=>omega
     case k5_7=>first|omega|(simp;omega)
     intro v6 w6 own6 gr6 hat
     have O6:=hD (PU.out _ _ _ own6 ((Below.refl _ _).alloc (Nat.le_refl _) _) gr6 (hat.imp id fun e=>e.trans Zq11))
     have F6:=hD ((frk.alloc _).own hp gr6 HG.out)
     clear gr6 own6 hox frk PU
     go_wp2_with fail
     go_roundw
     case rel=>exact ⟨t+1,l++[_],by go_num,by omega,(ycp hl hsm.out HSZ.out).1,(ycp hl hsm.out HSZ.out).2,O6.out,F6.out⟩
     case measure=>simp [intOf];omega
   have f5:(k==5)=false:=by simp [e5]
   clear e0 e1 e2 e3 e4 e5
   go_wp2_with fail
   refine(yew _ _ _ N w1 p FR1.out.cur NM.out).mono ?_
   rintro e w2 ⟨word,args,Aa,ca,rfl,hq,⟨hcap,hw4,ha3,hsz⟩,hc2,hg2⟩
   have hbp:=yfb (d+1)
   obtain ⟨xs,hox,hpush⟩:=(OW1.out.grown hg2 (fun k hk=>by injection hk with hk;omega)).add HV.out hR (yb3 (d:=(d+1)) (h:=⟨1,word,args,0⟩) (cb:=0) hq (yc5 (A:=none) (d+1)) hcap)
   have PU:=hD hpush
   have HSZ:=hD (show szE (mkT (d:=(d+1)) ⟨1,word,args,0⟩ [])≤bE (d+1) by rw[yb5,ydd];show word.size+(args.length+szS args+0)≤_;omega)
   have frk:=FR1.out.call hc2 hg2
   have hgk:=frk.gr.size
   clear hpush
   go_wp2_with (at_builtin;refine yae _ rfl _ _ 25 rfl w.heap.size 66 i0 _ 5 80 Tryz.underlying25 hi hz0 hz1 hz2 rfl Zq9 _ _ _ rfl (hox.alloc _) _ 1 1 _ rfl (yc4 ?k0_8 rfl) ?k2_8 ?k3_8 ?k4_8 ?k5_8 ?_)
   try (case k0_8=>first|rfl|simp)
   case k2_8=>repeat' (first|rfl|apply And.intro)
   case k3_8=>simp only[maxLen];omega
   case k4_8=>omega
   case k5_8=>first|omega|(simp;omega)
   intro v6 w6 own6 gr6 hat
   have O6:=hD (PU.out _ _ _ own6 ((Below.refl _ _).alloc (Nat.le_refl _) _) gr6 (hat.imp id fun e=>e.trans Zq11))
   have F6:=hD ((frk.alloc _).own hp gr6 HG.out)
   clear gr6 own6 hox frk PU
   go_wp2_with fail
   go_roundw
   case rel=>exact ⟨t+1,l++[_],by go_num,by omega,(ycp hl hsm.out HSZ.out).1,(ycp hl hsm.out HSZ.out).2,O6.out,F6.out⟩
   case measure=>simp [intOf];omega
  ·go_wp2_with fail
   go_ret
   exact ⟨_,l,rfl,hown.out,⟨by omega,hsm.out⟩,hfr.out.cur,hfr.out.gr⟩
theorem ycs {w w':World} {b:Nat} {x0 x1:Value} {t:TypeId} (lay:Below w'.heap.size w' w) (h:w'.heap[b]?=some (.cells #[x0,x1] t (0,0))) :
  w.cell? ⟨b,0,none⟩=some x0∧w.cell? ⟨b,1,none⟩=some x1:=by
 have h':w.heap[b]?=some (.cells #[x0,x1] t (0,0)):=(lay.block b (lt_of_block h)).trans h
 exact ⟨by simp [World.cell?,h'],by simp [World.cell?,h']⟩
def ykp (n:Nat) (Q:List ByteArray):Prop:=1≤Q.length∧Q.length≤n∧∀ s∈Q,s.size≤9
structure PS (w:World) (p X:Nat) (Aq:Option Addr) (nq cq:Nat) (Q:List ByteArray) (d:Nat) (vb:Value) (l:List (Tr (d+1))) (W:World):Prop where
 fr:Fr w p W
 lo:w.heap.size<X
 r0:W.heap[w.heap.size]?=some (.cells #[.slice none 0 0,.slice none 0 0] 27 (0,0))
 x:W.heap[X]?=some (.cells #[.slice Aq nq cq,vb] 27 (0,0))
 q:W.ownsRow w.heap.size 9 1 (.slice Aq nq cq) nq (strs Q)
 ql:Q.length=nq
 qx:∀ k,(Value.slice Aq nq cq).ownBlock=some k→k<X
 b:OwnT W (X+1) d vb l
theorem PS.names {w W:World} {p X nq cq d:Nat} {Aq:Option Addr} {Q:List ByteArray} {vb:Value} {l:List (Tr (d+1))} (h:PS w p X Aq nq cq Q d vb l W) (hp:p<w.heap.size) (hs:ykp 4 Q):yd3 W p Aq nq Q :=
 ⟨ybv h.q,h.ql,by rw[←h.ql];exact hs.1,by rw[←h.ql];exact hs.2.1,hs.2.2,fun ad e=>by
  have h1:0<nq:=by rw[←h.ql];exact hs.1
  obtain ⟨b,off,e',hb,_⟩:=(yck h.q).2 h1
  rw[e'] at e
  injection e with e
  subst e
  show b≠p
  have:w.heap.size≤b:=hb
  omega⟩
theorem yej {w W:World} {p b:Nat} {ob:Obj} (h:Fr w p W) (hne:b≠p) (hc:w.heap[b]?=some ob):W.heap[b]?=some ob:=ybl hc h.gr hne
theorem PS.call {w W W':World} {p X nq cq d:Nat} {Aq:Option Addr} {Q:List ByteArray} {vb:Value} {l:List (Tr (d+1))} (h:PS w p X Aq nq cq Q d vb l W) (hp:p<w.heap.size) (hf:Fr W p W'):PS w p X Aq nq cq Q d vb l W' :=
 ⟨h.fr.call hf.cur hf.gr,h.lo,yej hf Zq6 h.r0,yej hf (by have:=h.lo;omega) h.x,ydv h.q hf.gr hp,h.ql,h.qx,yko h.b hf (by have:=h.lo;omega)⟩
theorem PS.put {w W W6:World} {p X nq cq d n6 c6:Nat} {A6:Option Addr} {Aq:Option Addr} {Q:List ByteArray} {vb:Value} {l m:List (Tr (d+1))} (h:PS w p X Aq nq cq Q d vb l W) (hp:p<w.heap.size) {W5:World} (hf:Fr W p W5) (hg:W5.grownBy W6 vb.ownBlock) (hb:OwnT W6 (X+1) d (.slice A6 n6 c6) m) (hx:W6.heap[X]?=some (.cells #[.slice Aq nq cq,vb] 27 (0,0))) :
  PS w p X Aq nq cq Q d (.slice A6 n6 c6) m (W6.setCell ⟨X,1,none⟩ (.slice A6 n6 c6)):=by
 have h5:=h.call hp hf
 have hlo:=h.lo
 have hge:∀ k,vb.ownBlock=some k→X+1≤k:=fun k hk=>by
  obtain ⟨xs,ho,_⟩:=h5.b
  exact(ho.lt k hk).1
 have f6:=h5.fr.own hp hg (fun k hk=>by have:=hge k hk;omega)
 have hq6:W6.ownsRow w.heap.size 9 1 (.slice Aq nq cq) nq (strs Q):=h5.q.kept hg (by
  cases hk:(Value.slice Aq nq cq).ownBlock with
  | none=>exact .inl rfl
  | some k =>
   refine .inr fun e=>?_
   have h1:=h5.qx k hk
   have h2:=hge k e.symm
   omega)
 refine ⟨f6.set hp (show w.heap.size≤X by omega) _,hlo,yfx ((hg.block _ (lt_of_block h5.r0) (fun e=>by have:=hge _ e.symm;omega)).trans h5.r0) (by show w.heap.size≠X;omega) _,ya1 hx _,yc8 hq6 (fun e=>?_) _,h.ql,h.qx,hb.grown (ydy (World.grownBy.refl W6 (some X)) rfl _) (fun k hk=>by injection hk with hk;omega)⟩
 have:=h.qx X e
 omega
def DRt (w:World) (p:Nat) (e:Ending) (w':World):Prop:=∃ (Aq:Option Addr) (nq cq B:Nat) (Q:List ByteArray) (vb:Value) (l:List (Tr 3)),e=.returned (.agg #[.slice Aq nq cq,vb])∧w'.ownsRow w.heap.size 9 1 (.slice Aq nq cq) nq (strs Q)∧Q.length=nq ∧
 (∀ k,(Value.slice Aq nq cq).ownBlock=some k→k<B)∧(w.heap.size≤B∧B≤w'.heap.size)∧OwnT w' B 2 vb l∧ykp 3 Q∧(l.length≤6∧∀ s∈l,szE s≤bE 2)∧ybt w' p∧w.grownBy w' (some p)
theorem ysx {j:Nat} (h:j≤2):ykp 3 (([⟨#[97]⟩,⟨#[98]⟩,⟨#[99]⟩]:List ByteArray).take (1+j)):=by
 refine ⟨by rw[List.length_take];show 1≤min (1+j) 3;omega,by rw[List.length_take];show min (1+j) 3≤3;omega,fun s hs=>?_⟩
 have:=List.mem_of_mem_take hs
 simp only[List.mem_cons,List.not_mem_nil,or_false] at this
 rcases this with rfl|rfl|rfl <;> decide
theorem ytl {wd:ByteArray} {ag:List ByteArray} (h1:wd.size≤4) (h2:ag.length≤3) (h3:szS ag≤27):szT 2 [mkT (d:=1) ⟨1,wd,ag,0⟩ []]≤40:=by
 rw[yde,yb5,ydd]
 show 1+(wd.size+(ag.length+szS ag+0))≤_
 omega
def Lit3 (R:Nat) (W:World) (b:Nat):Prop:=∃ (cs:List Value) (m:List (Tr 3)),RdQ W (R≤·) 5 (some ⟨b,0,none⟩) 3 cs∧ElQ W (R≤·) 2 cs m∧m.length=3∧∀ s∈m,szE s≤bE 2
theorem Lit3.fr {R p b:Nat} {W W1:World} (h:Lit3 R W b) (hf:Fr W p W1) (hp:p<R):Lit3 R W1 b:=by
 obtain ⟨cs,m,h1,h2,h3⟩:=h
 exact ⟨cs,m,yam h1 hf Zq6,h2.keep (fun b hb hlt=>hf.gr.block b hlt (fun e=>by injection e with e;omega)) hf.gr.size,h3⟩
theorem ysy {wd q0:ByteArray} {ag:List ByteArray} {l:List (Tr 2)} (h1:wd.size≤4) (h2:ag.length≤3) (h3:szS ag≤27) (hq:q0.size≤9) (hl:szT 2 l≤40) :
  ∀ s∈([mkT (d:=2) ⟨1,wd,ag,0⟩ []]++[mkT (d:=2) ⟨6,⟨#[]⟩,[q0,⟨#[114]⟩],0⟩ []])++[mkT (d:=2) ⟨7,⟨#[]⟩,[⟨#[114]⟩],0⟩ l],szE s≤bE 2:=by
 intro s hs
 have e:bE 2=2500:=rfl
 rw[e]
 simp only[List.mem_append,List.mem_singleton,or_assoc] at hs
 rcases hs with rfl|rfl|rfl
 ·rw[yb5,ydd]
  show wd.size+(ag.length+szS ag+0)≤_
  omega
 ·rw[yb5,ydd]
  show 0+(2+(q0.size+(1+0))+0)≤_
  omega
 ·rw[yb5]
  show 0+(1+(1+0)+szT 2 l)≤_
  omega
end Go.Proofs.YthkbckkghnbonaaGreatDoor
