/- What the calls that this law reaches answer, part 14 of 16. -/
import Derived.Test.YthkbckkghnbonaaGreatDoorJElaborate8
import Derived.Test.YthkbckkghnbonaaGreatDoorJElaborate13
import Derived.Test.YthkbckkghnbonaaGreatDoorJElaborate6
import Derived.Test.YthkbckkghnbonaaGreatDoorJElaborate2
set_option maxRecDepth 100000
set_option maxHeartbeats 16000000
set_option linter.unusedVariables false
namespace Go.Proofs.YthkbckkghnbonaaGreatDoor
open Go.RowKit
set_option linter.unusedVariables false
theorem strs_oneE (l:List ByteArray):∀ u∈strs l,u.oneCell'=true:=by
 intro u hu
 obtain ⟨s,_,rfl⟩:=List.mem_map.1 hu
 rfl
theorem rdT_trq {w:World} {lo:Nat} {P:Nat→Prop} (hp:∀ b,lo≤b→b<w.heap.size→P b):∀ {d:Nat} {A:Option Addr} {n:Nat} {l:List (Tr d)},RdT w lo d A n l→TrQ w P d A n l:=by
 intro d
 induction d with
 | zero=>intro A n l h;exact h
 | succ d ih =>
  intro A n l h
  refine ⟨h.1,fun h0=>?_⟩
  obtain ⟨b,off,e,hl,hb,hc⟩:=h.2 h0
  refine ⟨b,off,e,hp b hl hb,hb,fun i s hi=>?_⟩
  obtain ⟨Aa,ca,Ab,nb,cb,h1,h2,h3,h4⟩:=hc i s hi
  refine ⟨Aa,ca,Ab,nb,cb,h1,⟨h2.1,fun g=>?_⟩,ih h3,h4⟩
  obtain ⟨b',off',e',hl',hb',hc'⟩:=h2.2 g
  exact ⟨b',off',e',hp b' hl' hb',hb',hc'⟩
def RetElb (r:Ro) (w:World) (e:Ending) (w':World):Prop:=∃ A c,e=.returned (.tuple #[.agg #[.int .i64 r.N,.int .i64 r.I,.int .i64 r.B,.slice A r.l.length c],.int .i64 r.code])∧w'.ownsRow w.heap.size 104 8 (.slice A r.l.length c) r.l.length (r.l.flatMap ocells)∧Below w.heap.size w w'
theorem finR_bad {I:Nat} {r:List Opt × Es} (h:r.2.bad=true∨60<gcount r.1∨validRt r.2.most I r.2.bits.length r.1=false):finR I r=⟨0,0,0,[],2⟩:=if_pos h
theorem finR_good {I:Nat} {r:List Opt × Es} (h1:r.2.bad=false) (h2:¬ 60<gcount r.1) (h3:validRt r.2.most I r.2.bits.length r.1=true):finR I r=⟨r.2.most,I,r.2.bits.length,r.1,0⟩:=by
 unfold finR
 rw[if_neg]
 rintro (h|h|h)
 ·rw[h1] at h;cases h
 ·exact h2 h
 ·rw[h3] at h;cases h
theorem own_rdNe {w:World} {base E n c gE:Nat} {A:Option Addr} {xs:List Value} (h:w.ownsRow base E 1 (.slice A n c) n xs) (hne:∀ k,(Value.slice A n c).ownBlock=some k→k≠gE):RdQ w (fun b=>b≠gE) 1 A n xs:=by
 have h1:=rdQ_of_own h
 refine ⟨h1.1,fun h0=>?_⟩
 obtain ⟨b,off,e,_,hb,hc⟩:=h1.2 h0
 subst e
 refine ⟨b,off,rfl,hne b ?_,hb,hc⟩
 rcases h.2 with ⟨_,h2⟩|⟨g,cap,cur,e,_⟩
 ·omega
 ·injection e with e
  injection e with e
  injection e with e1 e2
  subst e1
  rfl
theorem progV_allE {d:Nat} {qs:List ByteArray} {l:List (Tr d)} (h:progV d qs l=true):(1≤qs.length∧qs.length≤4)∧nestT d l≤4∧tokT d l+qs.length+2≤160:=by
 unfold progV pgR at h
 simp only[Bool.and_eq_true,decide_eq_true_eq] at h
 have:=inB_iff.1 h.1
 exact ⟨by omega,h.2.2.2.1,h.2.2.2.2⟩
theorem allS_all:∀ d,AllS d
 | 0=>all_zeroS
 | d+1=>all_succS (one_succS (allS_all d) (anc_succS (allS_all d)))
theorem Elaborate_spec (d lo lo':Nat) (Aq:Option Addr) (cq:Nat) (qs:List ByteArray) (l:List (Tr d)) (Ab:Option Addr) (nb cb:Nat) (w:World) (hra:RdL w lo 1 Aq qs.length (strs qs)) (hcq:qs.length≤cq) (hrb:RdT w lo' d Ab nb l) (hm:qs.length≤1048576) (hz:szS qs≤1048576) (hsz:szT d l≤1048576) :
  Calls Tryz.prog 17 #[.agg #[.slice Aq qs.length cq,.slice Ab nb cb]] w (RetElb (elaP d qs l) w):=by
 obtain ⟨j0,hj,hy0,hy1,hy2⟩:=info_parts info_str
 obtain ⟨X,hX⟩:∃ X,X=w.heap.size:=⟨_,rfl⟩
 obtain ⟨w0,hw0⟩:∃ w0,w0=(w.alloc (.cells #[.slice Aq qs.length cq,.slice Ab nb cb] 27)).alloc (.cells #[.int .i64 0,.int .i64 0,.int .i64 0,.slice none 0 0] 40):=⟨_,rfl⟩
 have b0:Below w.heap.size w w0:=by rw[hw0];exact Zq0
 have X0:=hD (show w0.heap[X]?=some (.cells #[.slice Aq qs.length cq,.slice Ab nb cb] 27 (0,0)) by rw[hw0,hX];exact boxed2_0 _ _ _)
 have Y0:=hD (show w0.heap[X+1]?=some (.cells #[.int .i64 0,.int .i64 0,.int .i64 0,.slice none 0 0] 40 (0,0)) by rw[hw0,hX];exact boxed2_1 _ _ _)
 have RA0:=hD (hra.below b0)
 have RB0:=hD (hrb.below b0)
 have hs0:=b0.size
 have lX0:=lt_of_block X0.out
 have lY0:=lt_of_block Y0.out
 have B0:=hD b0
 have HX:=hD hX
 have HW0:=hD hw0
 have HVS:=hD (fun W (ra:RdL W lo 1 Aq qs.length (strs qs)) (rb:RdT W lo' d Ab nb l)=>IsValidProgram_spec d lo lo' Aq cq qs l Ab nb cb W ra rb hm hz hsz)
 have HCK:=hD (fun W (ra:RdL W lo 1 Aq qs.length (strs qs)) (rb:RdT W lo' d Ab nb l)=>CheckProgram_spec d lo lo' Aq cq qs l Ab nb cb W ra hcq rb hm hz hsz)
 have hXw:w.heap.size≤X:=by omega
 obtain ⟨K,hK⟩:∃ K,K=ckP d qs l:=⟨_,rfl⟩
 have HK:=hD hK
 rw[←hK] at HCK
 clear hw0 b0 hra hrb hX hK
 obtain ⟨p0,p1⟩:=boxcells2 (lay:=Below.refl _ _) X0.out
 go_enter Tryz.func17,Tryz.ntmps17
 go_upto_region 1 with (fail)
 rw[←HW0.out,←HX.out]
 go_wp2_with fail
 refine(HCK.out w0 RA0.out RB0.out).mono ?_
 rintro e1 w1 ⟨rfl,b1,s1⟩
 have B1:=hD b1
 clear b1 p0 p1
 have RA1:=hD (RA0.out.below B1.out)
 have RB1:=hD (RB0.out.below B1.out)
 obtain ⟨p0,p1⟩:=boxcells2 (lay:=B1.out) X0.out
 have lX1:X<w1.heap.size:=by omega
 cases hv:progV d qs l
 ·have HF:Hid (elaP d qs l=⟨0,0,0,[],1⟩):=ela_bad (.inl hv)
  rw[hv] at HVS
  clear hv
  go_upto_region 3 with (go_at_call 12;refine(HVS.out w1 RA1.out RB1.out).mono ?_;rintro e2 w2 ⟨rfl,b2,s2⟩)
  have w2Y:=hD ((b2.block _ Zq6).trans ((B1.out.block _ lY0).trans Y0.out))
  obtain ⟨r0,r1,r2,r3⟩:=cells4E (w2Y.out)
  have f0:=free_at (j:=0) w2Y.out
  have f1:=free_at (j:=1) w2Y.out
  have f2:=free_at (j:=2) w2Y.out
  have f3:=free_at (j:=3) w2Y.out
  have lY:=lt_of_block w2Y.out
  go_wp2_with fail
  refine bodyPost_ret (v:=.tuple #[.agg #[.int .i64 0,.int .i64 0,.int .i64 0,.slice none 0 0],.int .i64 1]) (by simp [results,Tryz.results17,go_sem,r0,r1,r2,r3]) rfl ?_
  rw[HF.out]
  exact ⟨none,0,rfl,World.ownsRow_nil _ _ _ _,(B0.out.trans ((B1.out.trans (b2.mono B1.out.size)).mono hs0)).trans (setBelow4 Zq6)⟩
 ·rw[hv] at HVS
  have HVV:=hD hv
  clear hv
  by_cases hk0:K.1=0
  ·have HK0:=hD hk0
   rw[hk0]
   clear hk0
   go_upto_region 4 with (go_at_call 12;refine(HVS.out w1 RA1.out RB1.out).mono ?_;rintro e2 w2 ⟨rfl,b2,s2⟩)
   have B2:=hD (belE B1.out b2)
   clear p0 p1
   have RA2:=hD (RA1.out.below b2)
   have RB2:=hD (RB1.out.below b2)
   obtain ⟨p0,p1⟩:=boxcells2 (lay:=B2.out) X0.out
   have lX2:X<w2.heap.size:=by omega
   have lY2:X+1<w2.heap.size:=by omega
   clear b2
   obtain ⟨J0,hJ0⟩:∃ J:Array Value→Array Bool→Act→World→Prop,J=(fun A0 Lz a W=>∃ (g0:Nat) (An:Option Addr) (cn:Nat) (gE:Nat),∃ x22 x23 x24 x25 x26 x27 x28 x29 x30 x6:Value,a=⟨((((((((((A0.setIfInBounds 22 x22).setIfInBounds 23 x23).setIfInBounds 24 x24).setIfInBounds 25 x25).setIfInBounds 26 x26).setIfInBounds 27 x27).setIfInBounds 28 x28).setIfInBounds 29 x29).setIfInBounds 30 x30).setIfInBounds 6 x6),[]⟩∧(Ls Lz 0→(x22=.slice (some ⟨g0,0,none⟩) 0 0∧g0≠0))∧(Ls Lz 1→x23=.pointer (some ⟨X,0,none⟩))∧(Ls Lz 2→x24=.slice Aq qs.length cq)∧(Ls Lz 3→x25=.slice An qs.length cn)∧(Ls Lz 4→x26=.pointer (some ⟨X,0,none⟩))∧(Ls Lz 5→x27=.slice Aq qs.length cq)∧(Ls Lz 6→x28=.int .i64 (qs.length:Int))∧(Ls Lz 7→x29=.agg #[.slice An qs.length cn,.slice none 0 0,.int .i64 (qs.length:Int),.bool false])∧(Ls Lz 8→x30=.pointer (some ⟨gE,0,none⟩))∧(Ls Lz 9→(x6=.pointer (some ⟨gE,0,none⟩)∧(W.heap[gE]?=some (.cells #[.slice An qs.length cn,.slice none 0 0,.int .i64 (qs.length:Int),.bool false] 83 (0,0))∧w2.heap.size≤gE)∧W.ownsRow w2.heap.size 9 1 (.slice An qs.length cn) qs.length (strs qs)∧Below w2.heap.size w2 W))∧(Ls Lz 3→¬ Ls Lz 9→W.ownsRow w2.heap.size 9 1 (.slice An qs.length cn) qs.length (strs qs))∧(Ls Lz 8→¬ Ls Lz 9→(W.heap[gE]?=some (.cells #[.slice An qs.length cn,.slice none 0 0,.int .i64 (qs.length:Int),.bool false] 83 (0,0))∧w2.heap.size≤gE))∧(¬ Ls Lz 9→Below w2.heap.size w2 W)∧(Ls Lz 9→¬ Ls Lz 9→True)∧(¬ Ls Lz 3→(g0=0∨W.ownsRow w2.heap.size 9 1 (.slice (some ⟨g0,0,none⟩) 0 0) 0 []))):=⟨_,rfl⟩
   have HJ0:=hD hJ0
   clear hJ0
   refine wp_region_inv2 Zq10 J0 ?_ ?_ ?_
   ·intro A0
    rw[HJ0.out]
    exact ⟨0,none,0,0,A0.getD 22 undef,A0.getD 23 undef,A0.getD 24 undef,A0.getD 25 undef,A0.getD 26 undef,A0.getD 27 undef,A0.getD 28 undef,A0.getD 29 undef,A0.getD 30 undef,A0.getD 6 undef,by simp only[set_self],zn,zn,zn,zn,zn,zn,zn,zn,zn,zn,zn,zn,fun _=>below_drewE (Below.refl _ _),zn,fun _=>.inl rfl⟩
   ·intro Lz a W hsize hcl hJ i hi
    have hil:=ready_lt hi
    have hnl:=ready_not hi
    have hnow:=ready_now hi hsize
    have HCL:=hD hcl
    rw[HJ0.out] at hJ
    obtain ⟨g0,An,cn,gE,x22,x23,x24,x25,x26,x27,x28,x29,x30,x6,rfl,HF⟩:=hJ
    have HH:=hD HF
    have hi2:i=0∨i=1∨i=2∨i=3∨i=4∨i=5∨i=6∨i=7∨i=8∨i=9:=by simp at hil;omega
    clear hil hcl HF
    rcases hi2 with rfl|rfl|rfl|rfl|rfl|rfl|rfl|rfl|rfl|rfl
    ·have hns:¬ Ls Lz 9:=fun h=>hnl (dq HCL (dq HCL (dq HCL (dq HCL h 8) 7) 3) 0)
     have V0:=(pj12 HH.out) hns
     clear hi HCL
     simp only[zA,zB,zC]
     refine wpOp_one rfl rfl fun K hK=>?_
     go_wp2_with fail
     rw[HJ0.out]
     exact ⟨W.heap.size,An,cn,gE,.slice (some ⟨W.heap.size,0,none⟩) 0 0,x23,x24,x25,x26,x27,x28,x29,x30,x6,(by simp only[zA,zB,zC]),fun _=>⟨rfl,by have:=V0.size;omega⟩,zk HH,zk HH,zk HH,zk HH,zk HH,zk HH,zk HH,zk HH,Ba hns,(Bt (pj10 HH.out) fun x=>ownsRow_below x below_allocE),(Bt (pj11 HH.out) fun x=>below_heapE x below_allocE),fun h=>belE ((pj12 HH.out) (fun h2=>h h2.fwd)) below_allocE,Bb hns,fun h=>.inr (own_lowT (own_empty W _ _) V0.size)⟩
    ·clear hi HCL
     simp only[zA,zB,zC]
     refine wpOp_one rfl rfl fun K hK=>?_
     go_wp2_with fail
     rw[HJ0.out]
     exact ⟨g0,An,cn,gE,x22,.pointer (some ⟨X,0,none⟩),x24,x25,x26,x27,x28,x29,x30,x6,(by simp only[zA,zB,zC]),zT HH⟩
    ·have hns:¬ Ls Lz 9:=fun h=>hnl (dq HCL (dq HCL (dq HCL (dq HCL h 8) 7) 3) 2)
     have D1:=(pj1 HH.out) (rq hi 1)
     have V0:=(pj12 HH.out) hns
     clear hi HCL
     simp only[zA,zB,zC,D1]
     have q0:=(V0.cell (p:=⟨X,0,none⟩) lX2).trans p0
     refine wpOp_one rfl rfl fun K hK=>?_
     go_wp2_with fail
     rw[HJ0.out]
     exact ⟨g0,An,cn,gE,x22,x23,.slice Aq qs.length cq,x25,x26,x27,x28,x29,x30,x6,(by simp only[zA,zB,zC,D1]),zT HH⟩
    ·have hns:¬ Ls Lz 9:=fun h=>hnl (dq HCL (dq HCL (dq HCL h 8) 7) 3)
     have D0:=(pj0 HH.out) (rq hi 0)
     have D2:=(pj2 HH.out) (rq hi 2)
     have V0:=(pj12 HH.out) hns
     have hk7:¬ Ls Lz 7:=fun h=>hnl (dq HCL h 3)
     have hk8:¬ Ls Lz 8:=fun h=>hnl (dq HCL (dq HCL h 7) 3)
     have Hh0:=(pe14 HH.out) hnl
     clear hi HCL
     obtain ⟨D0,X0⟩:=D0
     simp only[zA,zB,zC,D0,D2]
     have hown0:=Hh0.resolve_left X0
     refine wpOp_one rfl rfl fun K hK=>?_
     simp only[List.getElem_toArray,List.getElem_cons_succ,List.getElem_cons_zero]
     refine wpList_append_rd _ rfl _ _ 24 rfl w2.heap.size 9 j0 _ 1 16 Tryz.underlying24 hj hy0 hy1 hy2 rfl Zq8 _ _ _ rfl hown0 _ qs.length _ _ rfl (RA2.out.below V0).rd ?c2 ?c3 ?c4 ?c5 ?_
     case c2=>exact fun u hu=>strs_oneE _ u hu
     case c3=>simp only[maxLen];omega
     case c4=>omega
     case c5=>exact V0.size
     intro v6 W6 own6 gr6 hat
     rw[Nat.zero_add] at own6
     obtain ⟨A8,c8,rfl,_,_,_⟩:=rd_of_own own6
     go_wp2_with fail
     rw[HJ0.out]
     exact ⟨g0,A8,c8,gE,x22,x23,x24,.slice A8 qs.length c8,x26,x27,x28,x29,x30,x6,(by first|(simp only[zA,zB,zC,D0,D2] <;> fail)|simp only[Act.put,zA,zB,zC,D0,D2]),zk HH,zk HH,zk HH,fun _=>rfl,zk HH,zk HH,zk HH,Ba hk7,Ba hk8,Ba hns,fun _ _=>own6,Bb hk8,fun h=>Below.grown ((pj12 HH.out) (fun h2=>h h2.fwd)) gr6 V0.size (own_ge hown0),Bb hns,zy hnow⟩
    ·clear hi HCL
     simp only[zA,zB,zC]
     refine wpOp_one rfl rfl fun K hK=>?_
     go_wp2_with fail
     rw[HJ0.out]
     exact ⟨g0,An,cn,gE,x22,x23,x24,x25,.pointer (some ⟨X,0,none⟩),x27,x28,x29,x30,x6,(by simp only[zA,zB,zC]),zT HH⟩
    ·have hns:¬ Ls Lz 9:=fun h=>hnl (dq HCL (dq HCL (dq HCL (dq HCL h 8) 7) 6) 5)
     have D4:=(pj4 HH.out) (rq hi 4)
     have V0:=(pj12 HH.out) hns
     clear hi HCL
     simp only[zA,zB,zC,D4]
     have q0:=(V0.cell (p:=⟨X,0,none⟩) lX2).trans p0
     refine wpOp_one rfl rfl fun K hK=>?_
     go_wp2_with fail
     rw[HJ0.out]
     exact ⟨g0,An,cn,gE,x22,x23,x24,x25,x26,.slice Aq qs.length cq,x28,x29,x30,x6,(by simp only[zA,zB,zC,D4]),zT HH⟩
    ·have D5:=(pj5 HH.out) (rq hi 5)
     clear hi HCL
     simp only[zA,zB,zC,D5]
     refine wpOp_one rfl rfl fun K hK=>?_
     go_wp2_with fail
     rw[HJ0.out]
     exact ⟨g0,An,cn,gE,x22,x23,x24,x25,x26,x27,.int .i64 (qs.length:Int),x29,x30,x6,(by simp only[zA,zB,zC,D5]),zT HH⟩
    ·have D3:=(pj3 HH.out) (rq hi 3)
     have D6:=(pj6 HH.out) (rq hi 6)
     clear hi HCL
     simp only[zA,zB,zC,D3,D6]
     refine wpOp_one rfl rfl fun K hK=>?_
     go_wp2_with fail
     rw[HJ0.out]
     exact ⟨g0,An,cn,gE,x22,x23,x24,x25,x26,x27,x28,.agg #[.slice An qs.length cn,.slice none 0 0,.int .i64 (qs.length:Int),.bool false],x30,x6,(by simp only[zA,zB,zC,D3,D6]),zT HH⟩
    ·have hns:¬ Ls Lz 9:=fun h=>hnl (dq HCL h 8)
     have D7:=(pj7 HH.out) (rq hi 7)
     have V0:=(pj12 HH.out) hns
     have hp3:Ls Lz 3:=(dq HCL (rq hi 7) 3)
     clear hi HCL
     simp only[zA,zB,zC,D7]
     refine wpOp_one rfl rfl fun K hK=>?_
     go_wp2_with fail
     rw[HJ0.out]
     exact ⟨g0,An,cn,W.heap.size,x22,x23,x24,x25,x26,x27,x28,x29,.pointer (some ⟨W.heap.size,0,none⟩),x6,(by simp only[zA,zB,zC,D7]),zk HH,zk HH,zk HH,zk HH,zk HH,zk HH,zk HH,zk HH,fun _=>rfl,Ba hns,(Bt (pj10 HH.out) fun x=>ownsRow_below x below_allocE),fun _ _=>⟨heap_alloc_new W _,V0.size⟩,fun h=>belE ((pj12 HH.out) (fun h2=>h h2.fwd)) below_allocE,Bb hns,fun h=>absurd (Ls.fwd hp3) h⟩
    ·have hns:¬ Ls Lz 9:=hnl
     have D8:=(pj8 HH.out) (rq hi 8)
     have E8:=(pj11 HH.out) (rq hi 8) hns
     have E3:=(pj10 HH.out) (dq HCL (dq HCL (rq hi 8) 7) 3) hns
     have V0:=(pj12 HH.out) hns
     have hp3:Ls Lz 3:=(dq HCL (dq HCL (rq hi 8) 7) 3)
     clear hi HCL
     simp only[zA,zB,zC,D8]
     refine wpOp_one rfl rfl fun K hK=>?_
     go_wp2_with fail
     rw[HJ0.out]
     exact ⟨g0,An,cn,gE,x22,x23,x24,x25,x26,x27,x28,x29,x30,.pointer (some ⟨gE,0,none⟩),(by first|(simp only[zA,zB,zC,D8] <;> fail)|simp only[Act.put,zA,zB,zC,D8]),zk HH,zk HH,zk HH,zk HH,zk HH,zk HH,zk HH,zk HH,zk HH,fun _=>⟨rfl,E8,E3,V0⟩,zx hnow,zx hnow,zy hnow,zx hnow,fun h=>absurd (Ls.fwd hp3) h⟩
   ·intro Lz a W hsize hJ hr
    rw[HJ0.out] at hJ
    have hall:=all_listed hsize Zq10 hr
    obtain ⟨g0,An,cn,gE,x22,x23,x24,x25,x26,x27,x28,x29,x30,x6,rfl,HF⟩:=hJ
    have HH:=hD HF
    have HEND:=(pj9 HH.out) (hall 9 Zq8)
    clear HF HH hall hr hsize
    simp only[zA,zB,zC]
    obtain ⟨rfl,⟨hh3,hg3⟩,ho3,hb3⟩:=HEND
    obtain ⟨w3,rfl⟩:∃ w3:World,w3=W:=⟨_,rfl⟩
    have hs3:=hb3.size
    have hne:∀ k,(Value.slice An qs.length cn).ownBlock=some k→k≠gE:=fun k hk e=>own_ne_typeG ho3 hh3 Zq8 (by rw[hk,e])
    have EN3:=hD (show EnvS w3 gE (fun b=>b≠gE) qs ⟨[],qs.length,false⟩ from ⟨An,qs.length,cn,none,0,0,hh3,rfl,own_rdNe ho3 hne,rfl,⟨rfl,fun h=>absurd h Zq6⟩⟩)
    have p1:=(hb3.cell (p:=⟨X,1,none⟩) lX2).trans p1
    have p0:=(hb3.cell (p:=⟨X,0,none⟩) lX2).trans p0
    have hgl:=lt_of_block hh3
    have TQ3:=hD (rdT_trq (P:=fun b=>b≠gE) (fun b _ hb=>by omega) RB2.out)
    have TQ3:=hD (TrQ.keep (fun b _ hl=>hb3.block b hl) hb3.size TQ3.out)
    have B3:=hD (B2.out.trans (hb3.mono B2.out.size))
    have lX3:X<w3.heap.size:=by omega
    have lY3:X+1<w3.heap.size:=by omega
    obtain ⟨R,hR⟩:∃ R,R=sA d l qs ⟨[],qs.length,false⟩:=⟨_,rfl⟩
    have HR:=hD hR
    have hRL:R.1.length≤2000:=by rw[hR];exact sA_len _ _ _ _
    have hRB:R.2.bits.length≤1048577:=by rw[hR];have:=sA_bits d l qs ⟨[],qs.length,false⟩;have e:(⟨[],qs.length,false⟩:Es).bits.length=0:=rfl;omega
    obtain ⟨⟨_,hq4⟩,hn4,_⟩:=progV_allE HVV.out
    have HALL:=hD (allS_all d (fun b=>b≠gE) l Ab nb cb gE qs ⟨[],qs.length,false⟩ w3 TQ3.out (progV_validC HVV.out) (fun h=>h rfl) EN3.out Zq6 (by show 0+szT d l≤_;omega))
    rw[←hR] at HALL
    clear hh3 ho3 hb3 hne hR
    go_wp2_with fail
    refine HALL.out.mono ?_
    rintro e4 w4 ⟨v4,rfl,ho4,hen4,hg4⟩
    obtain ⟨A4,c4,rfl,_,_,rr4⟩:=rd_of_own ho4
    have hs4:=hg4.size
    obtain ⟨An4,nn4,cn4,Bn,nbb,cbb,hh4,hz4,hr4,hbl4,hb4⟩:=id hen4
    clear hz4 hr4 hb4
    have y1:=cell_at (j:=1) hh4 rfl
    have y2:=cell_at (j:=2) hh4 rfl
    have y3:=cell_at (j:=3) hh4 rfl
    have lE4:=lt_of_block hh4
    have hXg:X≠gE:=by omega
    have p0:=(gr_cell (o:=0) hg4 lX3 hXg).trans p0
    have lX4:X<w4.heap.size:=by omega
    have hgr4:Below w0.heap.size w0 w4:=B3.out.trans (grown_below hg4 B3.out.size (fun k hk=>by injection hk with hk;omega))
    have B4:=hD hgr4
    have O4:=hD ho4
    have RR4:=hD rr4
    have HBL:=hD hbl4
    have HH4:=hD hh4
    clear ho4 hen4 hg4 hh4 rr4 hbl4 hgr4 HALL p1
    go_upto_region 6 with (fail)
    obtain ⟨J0,hJ0⟩:∃ J:Array Value→Array Bool→Act→World→Prop,J=(fun A0 Lz a W=>∃ (g0:Nat),∃ x35 x36 x37 x38 x39 x40 x41 x42 x43 x44 x45 x46 x47 x48 x8:Value,a=⟨(((((((((((((((A0.setIfInBounds 35 x35).setIfInBounds 36 x36).setIfInBounds 37 x37).setIfInBounds 38 x38).setIfInBounds 39 x39).setIfInBounds 40 x40).setIfInBounds 41 x41).setIfInBounds 42 x42).setIfInBounds 43 x43).setIfInBounds 44 x44).setIfInBounds 45 x45).setIfInBounds 46 x46).setIfInBounds 47 x47).setIfInBounds 48 x48).setIfInBounds 8 x8),[]⟩∧(Ls Lz 0→x35=.pointer (some ⟨gE,0,none⟩))∧(Ls Lz 1→x36=.pointer (some ⟨gE,0,none⟩))∧(Ls Lz 2→x37=.pointer (some ⟨gE,2,none⟩))∧(Ls Lz 3→x38=.int .i64 (R.2.most:Int))∧(Ls Lz 4→x39=.pointer (some ⟨X,0,none⟩))∧(Ls Lz 5→x40=.slice Aq qs.length cq)∧(Ls Lz 6→x41=.int .i64 (qs.length:Int))∧(Ls Lz 7→x42=.pointer (some ⟨gE,0,none⟩))∧(Ls Lz 8→x43=.pointer (some ⟨gE,0,none⟩))∧(Ls Lz 9→x44=.pointer (some ⟨gE,1,none⟩))∧(Ls Lz 10→x45=.slice Bn nbb cbb)∧(Ls Lz 11→x46=.int .i64 (nbb:Int))∧(Ls Lz 12→x47=.slice A4 R.1.length c4)∧(Ls Lz 13→x48=.agg #[.int .i64 (R.2.most:Int),.int .i64 (qs.length:Int),.int .i64 (nbb:Int),.slice A4 R.1.length c4])∧(Ls Lz 14→x8=.pointer (some ⟨g0,0,none⟩))∧(Ls Lz 15→(x8=.pointer (some ⟨g0,0,none⟩)∧W.heap[g0]?=some (.cells #[.int .i64 (R.2.most:Int),.int .i64 (qs.length:Int),.int .i64 (nbb:Int),.slice A4 R.1.length c4] 40 (0,0))∧w4.heap.size≤g0∧Below w4.heap.size w4 W))∧(Ls Lz 14→¬ Ls Lz 15→(W.heap[g0]?=some (.cells #[.int .i64 0,.int .i64 0,.int .i64 0,.slice none 0 0] 40 (0,0))∧w4.heap.size≤g0))∧(¬ Ls Lz 15→Below w4.heap.size w4 W)∧(Ls Lz 15→¬ Ls Lz 15→True)):=⟨_,rfl⟩
    have HJ0:=hD hJ0
    clear hJ0
    refine wp_region_inv2 Zq10 J0 ?_ ?_ ?_
    ·intro A0
     rw[HJ0.out]
     exact ⟨0,A0.getD 35 undef,A0.getD 36 undef,A0.getD 37 undef,A0.getD 38 undef,A0.getD 39 undef,A0.getD 40 undef,A0.getD 41 undef,A0.getD 42 undef,A0.getD 43 undef,A0.getD 44 undef,A0.getD 45 undef,A0.getD 46 undef,A0.getD 47 undef,A0.getD 48 undef,A0.getD 8 undef,by simp only[set_self],zn,zn,zn,zn,zn,zn,zn,zn,zn,zn,zn,zn,zn,zn,zn,zn,zn,fun _=>below_drewE (Below.refl _ _),zn⟩
    ·intro Lz a W hsize hcl hJ i hi
     have hil:=ready_lt hi
     have hnl:=ready_not hi
     have hnow:=ready_now hi hsize
     have HCL:=hD hcl
     rw[HJ0.out] at hJ
     obtain ⟨g0,x35,x36,x37,x38,x39,x40,x41,x42,x43,x44,x45,x46,x47,x48,x8,rfl,HF⟩:=hJ
     have HH:=hD HF
     have hi2:i=0∨i=1∨i=2∨i=3∨i=4∨i=5∨i=6∨i=7∨i=8∨i=9∨i=10∨i=11∨i=12∨i=13∨i=14∨i=15:=by simp at hil;omega
     clear hil hcl HF
     rcases hi2 with rfl|rfl|rfl|rfl|rfl|rfl|rfl|rfl|rfl|rfl|rfl|rfl|rfl|rfl|rfl|rfl
     ·clear hi HCL
      simp only[zA,zB,zC]
      refine wpOp_one rfl rfl fun K hK=>?_
      go_wp2_with fail
      rw[HJ0.out]
      exact ⟨g0,.pointer (some ⟨gE,0,none⟩),x36,x37,x38,x39,x40,x41,x42,x43,x44,x45,x46,x47,x48,x8,(by simp only[zA,zB,zC]),zT HH⟩
     ·have D0:=(pj0 HH.out) (rq hi 0)
      clear hi HCL
      simp only[zA,zB,zC,D0]
      refine wpOp_one rfl rfl fun K hK=>?_
      go_wp2_with fail
      rw[HJ0.out]
      exact ⟨g0,x35,.pointer (some ⟨gE,0,none⟩),x37,x38,x39,x40,x41,x42,x43,x44,x45,x46,x47,x48,x8,(by simp only[zA,zB,zC,D0]),zT HH⟩
     ·have D1:=(pj1 HH.out) (rq hi 1)
      clear hi HCL
      simp only[zA,zB,zC,D1]
      refine wpOp_one rfl rfl fun K hK=>?_
      go_wp2_with fail
      rw[HJ0.out]
      exact ⟨g0,x35,x36,.pointer (some ⟨gE,2,none⟩),x38,x39,x40,x41,x42,x43,x44,x45,x46,x47,x48,x8,(by simp only[zA,zB,zC,D1]),zT HH⟩
     ·have hns:¬ Ls Lz 15:=fun h=>hnl (dq HCL (dq HCL h 13) 3)
      have D2:=(pj2 HH.out) (rq hi 2)
      have V0:=(pj17 HH.out) hns
      clear hi HCL
      simp only[zA,zB,zC,D2]
      have q0:=(V0.cell (p:=⟨gE,2,none⟩) lE4).trans y2
      refine wpOp_one rfl rfl fun K hK=>?_
      go_wp2_with fail
      rw[HJ0.out]
      exact ⟨g0,x35,x36,x37,.int .i64 (R.2.most:Int),x39,x40,x41,x42,x43,x44,x45,x46,x47,x48,x8,(by simp only[zA,zB,zC,D2]),zT HH⟩
     ·clear hi HCL
      simp only[zA,zB,zC]
      refine wpOp_one rfl rfl fun K hK=>?_
      go_wp2_with fail
      rw[HJ0.out]
      exact ⟨g0,x35,x36,x37,x38,.pointer (some ⟨X,0,none⟩),x40,x41,x42,x43,x44,x45,x46,x47,x48,x8,(by simp only[zA,zB,zC]),zT HH⟩
     ·have hns:¬ Ls Lz 15:=fun h=>hnl (dq HCL (dq HCL (dq HCL h 13) 6) 5)
      have D4:=(pj4 HH.out) (rq hi 4)
      have V0:=(pj17 HH.out) hns
      clear hi HCL
      simp only[zA,zB,zC,D4]
      have q0:=(V0.cell (p:=⟨X,0,none⟩) lX4).trans p0
      refine wpOp_one rfl rfl fun K hK=>?_
      go_wp2_with fail
      rw[HJ0.out]
      exact ⟨g0,x35,x36,x37,x38,x39,.slice Aq qs.length cq,x41,x42,x43,x44,x45,x46,x47,x48,x8,(by simp only[zA,zB,zC,D4]),zT HH⟩
     ·have D5:=(pj5 HH.out) (rq hi 5)
      clear hi HCL
      simp only[zA,zB,zC,D5]
      refine wpOp_one rfl rfl fun K hK=>?_
      go_wp2_with fail
      rw[HJ0.out]
      exact ⟨g0,x35,x36,x37,x38,x39,x40,.int .i64 (qs.length:Int),x42,x43,x44,x45,x46,x47,x48,x8,(by simp only[zA,zB,zC,D5]),zT HH⟩
     ·clear hi HCL
      simp only[zA,zB,zC]
      refine wpOp_one rfl rfl fun K hK=>?_
      go_wp2_with fail
      rw[HJ0.out]
      exact ⟨g0,x35,x36,x37,x38,x39,x40,x41,.pointer (some ⟨gE,0,none⟩),x43,x44,x45,x46,x47,x48,x8,(by simp only[zA,zB,zC]),zT HH⟩
     ·have D7:=(pj7 HH.out) (rq hi 7)
      clear hi HCL
      simp only[zA,zB,zC,D7]
      refine wpOp_one rfl rfl fun K hK=>?_
      go_wp2_with fail
      rw[HJ0.out]
      exact ⟨g0,x35,x36,x37,x38,x39,x40,x41,x42,.pointer (some ⟨gE,0,none⟩),x44,x45,x46,x47,x48,x8,(by simp only[zA,zB,zC,D7]),zT HH⟩
     ·have D8:=(pj8 HH.out) (rq hi 8)
      clear hi HCL
      simp only[zA,zB,zC,D8]
      refine wpOp_one rfl rfl fun K hK=>?_
      go_wp2_with fail
      rw[HJ0.out]
      exact ⟨g0,x35,x36,x37,x38,x39,x40,x41,x42,x43,.pointer (some ⟨gE,1,none⟩),x45,x46,x47,x48,x8,(by simp only[zA,zB,zC,D8]),zT HH⟩
     ·have hns:¬ Ls Lz 15:=fun h=>hnl (dq HCL (dq HCL (dq HCL h 13) 11) 10)
      have D9:=(pj9 HH.out) (rq hi 9)
      have V0:=(pj17 HH.out) hns
      clear hi HCL
      simp only[zA,zB,zC,D9]
      have q0:=(V0.cell (p:=⟨gE,1,none⟩) lE4).trans y1
      refine wpOp_one rfl rfl fun K hK=>?_
      go_wp2_with fail
      rw[HJ0.out]
      exact ⟨g0,x35,x36,x37,x38,x39,x40,x41,x42,x43,x44,.slice Bn nbb cbb,x46,x47,x48,x8,(by simp only[zA,zB,zC,D9]),zT HH⟩
     ·have D10:=(pj10 HH.out) (rq hi 10)
      clear hi HCL
      simp only[zA,zB,zC,D10]
      refine wpOp_one rfl rfl fun K hK=>?_
      go_wp2_with fail
      rw[HJ0.out]
      exact ⟨g0,x35,x36,x37,x38,x39,x40,x41,x42,x43,x44,x45,.int .i64 (nbb:Int),x47,x48,x8,(by simp only[zA,zB,zC,D10]),zT HH⟩
     ·clear hi HCL
      simp only[zA,zB,zC]
      refine wpOp_one rfl rfl fun K hK=>?_
      go_wp2_with fail
      rw[HJ0.out]
      exact ⟨g0,x35,x36,x37,x38,x39,x40,x41,x42,x43,x44,x45,x46,.slice A4 R.1.length c4,x48,x8,(by simp only[zA,zB,zC]),zT HH⟩
     ·have D3:=(pj3 HH.out) (rq hi 3)
      have D6:=(pj6 HH.out) (rq hi 6)
      have D11:=(pj11 HH.out) (rq hi 11)
      have D12:=(pj12 HH.out) (rq hi 12)
      clear hi HCL
      simp only[zA,zB,zC,D3,D6,D11,D12]
      refine wpOp_one rfl rfl fun K hK=>?_
      go_wp2_with fail
      rw[HJ0.out]
      exact ⟨g0,x35,x36,x37,x38,x39,x40,x41,x42,x43,x44,x45,x46,x47,.agg #[.int .i64 (R.2.most:Int),.int .i64 (qs.length:Int),.int .i64 (nbb:Int),.slice A4 R.1.length c4],x8,(by simp only[zA,zB,zC,D3,D6,D11,D12]),zT HH⟩
     ·have hns:¬ Ls Lz 15:=fun h=>hnl (dq HCL h 14)
      have V0:=(pj17 HH.out) hns
      clear hi HCL
      simp only[zA,zB,zC]
      refine wpOp_one rfl rfl fun K hK=>?_
      go_wp2_with fail
      rw[HJ0.out]
      exact ⟨W.heap.size,x35,x36,x37,x38,x39,x40,x41,x42,x43,x44,x45,x46,x47,x48,.pointer (some ⟨W.heap.size,0,none⟩),(by simp only[zA,zB,zC]),zk HH,zk HH,zk HH,zk HH,zk HH,zk HH,zk HH,zk HH,zk HH,zk HH,zk HH,zk HH,zk HH,zk HH,fun _=>rfl,Ba hns,fun _ _=>⟨heap_alloc_new W _,V0.size⟩,fun h=>belE ((pj17 HH.out) (fun h2=>h h2.fwd)) below_allocE,Bb hns⟩
     ·have hns:¬ Ls Lz 15:=hnl
      have D13:=(pj13 HH.out) (rq hi 13)
      have D14:=(pj14 HH.out) (rq hi 14)
      have E14:=(pj16 HH.out) (rq hi 14) hns
      have V0:=(pj17 HH.out) hns
      clear hi HCL
      simp only[zA,zB,zC,D13,D14]
      have q0:=cell_at (j:=0) E14.1 rfl
      have q1:=cell_at (j:=1) E14.1 rfl
      have q2:=cell_at (j:=2) E14.1 rfl
      have q3:=cell_at (j:=3) E14.1 rfl
      have f0:=free_at (j:=0) E14.1
      have f1:=free_at (j:=1) E14.1
      have f2:=free_at (j:=2) E14.1
      have f3:=free_at (j:=3) E14.1
      have lg:=lt_of_block E14.1
      have HE:=hD E14
      clear E14
      refine wpOp_one rfl rfl fun K hK=>?_
      go_wp2_with fail
      rw[HJ0.out]
      exact ⟨g0,x35,x36,x37,x38,x39,x40,x41,x42,x43,x44,x45,x46,x47,x48,x8,(by first|(simp only[zA,zB,zC,D13,D14] <;> fail)|simp only[Act.put,zA,zB,zC,D13,D14]),zk HH,zk HH,zk HH,zk HH,zk HH,zk HH,zk HH,zk HH,zk HH,zk HH,zk HH,zk HH,zk HH,zk HH,zk HH,fun _=>⟨D14,heap_set4E HE.out.1,HE.out.2,below_set4E V0 HE.out.2⟩,zx hnow,zy hnow,zx hnow⟩
    ·intro Lz a W hsize hJ hr
     rw[HJ0.out] at hJ
     have hall:=all_listed hsize Zq10 hr
     obtain ⟨g0,x35,x36,x37,x38,x39,x40,x41,x42,x43,x44,x45,x46,x47,x48,x8,rfl,HF⟩:=hJ
     have HH:=hD HF
     have HEND:=(pj15 HH.out) (hall 15 Zq8)
     clear HF HH hall hr hsize
     simp only[zA,zB,zC]
     obtain ⟨rfl,hh5,hg5,hb5⟩:=HEND
     obtain ⟨w5,rfl⟩:∃ w5:World,w5=W:=⟨_,rfl⟩
     have hs5:=hb5.size
     have B5:=hD (B4.out.trans (hb5.mono B4.out.size))
     have y3:=(hb5.cell (p:=⟨gE,3,none⟩) lE4).trans y3
     have HH5:=hD hh5
     have RR5:=hD (RR4.out.below hb5)
     have O5:=hD (ownsRow_below O4.out hb5)
     have w5Y:=hD ((B5.out.block _ lY0).trans Y0.out)
     have lE5:gE<w5.heap.size:=by omega
     have HE:=hD ((ela_spec HVV.out (by rw[←HK.out];exact HK0.out)).trans (by rw[←HR.out]))
     clear hh5 hb5 y1 y2 p0
     cases hbad:R.2.bad
     ·rw[hbad] at y3
      have HBD:=hD hbad
      clear hbad
      obtain ⟨q0,q1,q2,q3⟩:=cells4E HH5.out
      by_cases hgc:60<gcount R.1
      ·have d1:decide ((60:Int)<(gcount R.1:Int))=true:=decide_eq_true Zq6
       have HF:Hid (elaP d qs l=⟨0,0,0,[],2⟩):=by show _=_;rw[HE.out];exact finR_bad (.inr (.inl hgc))
       clear hgc
       go_upto_region 8 with (go_at_call 62;refine(RoutineGateCount_spec _ _ _ _ _ _ R.1 w5 RR5.out rfl Zq6).mono ?_;rintro e6 w6 ⟨rfl,b6,s6⟩)
       have w6Y:=hD ((b6.block _ Zq6).trans w5Y.out)
       obtain ⟨r0,r1,r2,r3⟩:=cells4E (w6Y.out)
       have f0:=free_at (j:=0) w6Y.out
       have f1:=free_at (j:=1) w6Y.out
       have f2:=free_at (j:=2) w6Y.out
       have f3:=free_at (j:=3) w6Y.out
       have lY:=lt_of_block w6Y.out
       go_wp2_with fail
       refine bodyPost_ret (v:=.tuple #[.agg #[.int .i64 0,.int .i64 0,.int .i64 0,.slice none 0 0],.int .i64 2]) (by simp [results,Tryz.results17,go_sem,r0,r1,r2,r3]) rfl ?_
       rw[HF.out]
       exact ⟨none,0,rfl,World.ownsRow_nil _ _ _ _,(B0.out.trans ((B5.out.trans (b6.mono B5.out.size)).mono hs0)).trans (setBelow4 Zq6)⟩
      ·have d1:decide ((60:Int)<(gcount R.1:Int))=false:=decide_eq_false Zq6
       cases hvr:validRt R.2.most qs.length nbb R.1
       ·have HF:Hid (elaP d qs l=⟨0,0,0,[],2⟩):=by show _=_;rw[HE.out];exact finR_bad (.inr (.inr (by rw[HBL.out];exact hvr)))
        have HVR:=hD (fun W (h:Rd W 8 A4 R.1.length (R.1.flatMap ocells))=>IsValidRoutine_spec (R.2.most:Int) (qs.length:Int) (nbb:Int) A4 R.1.length c4 R.1 W h rfl Zq6)
        rw[hvr] at HVR
        clear hgc hvr
        go_upto_region 8 with (first|(go_at_call 62;refine(RoutineGateCount_spec _ _ _ _ _ _ R.1 w5 RR5.out rfl Zq6).mono ?_;rintro e6 w6 ⟨rfl,b6,s6⟩;have lg6:=b6.size;obtain ⟨u0,u1,u2,u3⟩:=cells4E ((b6.block _ (lt_of_block HH5.out)).trans HH5.out))|(go_at_call 63;refine(HVR.out w6 (RR5.out.below b6)).mono ?_;rintro e7 w7 ⟨rfl,b7,s7⟩))
        have w7Y:=hD ((b7.block _ Zq6).trans ((b6.block _ Zq6).trans w5Y.out))
        obtain ⟨r0,r1,r2,r3⟩:=cells4E (w7Y.out)
        have f0:=free_at (j:=0) w7Y.out
        have f1:=free_at (j:=1) w7Y.out
        have f2:=free_at (j:=2) w7Y.out
        have f3:=free_at (j:=3) w7Y.out
        have lY:=lt_of_block w7Y.out
        go_wp2_with fail
        refine bodyPost_ret (v:=.tuple #[.agg #[.int .i64 0,.int .i64 0,.int .i64 0,.slice none 0 0],.int .i64 2]) (by simp [results,Tryz.results17,go_sem,r0,r1,r2,r3]) rfl ?_
        rw[HF.out]
        exact ⟨none,0,rfl,World.ownsRow_nil _ _ _ _,(B0.out.trans ((B5.out.trans ((b6.trans (b7.mono b6.size)).mono B5.out.size)).mono hs0)).trans (setBelow4 Zq6)⟩
       ·have HF:Hid (elaP d qs l=⟨R.2.most,qs.length,nbb,R.1,0⟩):=by show _=_;rw[HE.out,←HBL.out];exact finR_good HBD.out hgc (by rw[HBL.out];exact hvr)
        have HVR:=hD (fun W (h:Rd W 8 A4 R.1.length (R.1.flatMap ocells))=>IsValidRoutine_spec (R.2.most:Int) (qs.length:Int) (nbb:Int) A4 R.1.length c4 R.1 W h rfl Zq6)
        rw[hvr] at HVR
        clear hgc hvr
        go_upto_region 9 with (first|(go_at_call 62;refine(RoutineGateCount_spec _ _ _ _ _ _ R.1 w5 RR5.out rfl Zq6).mono ?_;rintro e6 w6 ⟨rfl,b6,s6⟩;have lg6:=b6.size;obtain ⟨u0,u1,u2,u3⟩:=cells4E ((b6.block _ (lt_of_block HH5.out)).trans HH5.out))|(go_at_call 63;refine(HVR.out w6 (RR5.out.below b6)).mono ?_;rintro e7 w7 ⟨rfl,b7,s7⟩))
        have w7Y:=hD ((b7.block _ Zq6).trans ((b6.block _ Zq6).trans w5Y.out))
        have w7G:=hD ((b7.block _ (by have:=lt_of_block HH5.out;omega)).trans ((b6.block _ (lt_of_block HH5.out)).trans HH5.out))
        have B7:=hD (B5.out.trans ((b6.trans (b7.mono b6.size)).mono B5.out.size))
        have O7:=hD (ownsRow_below (ownsRow_below O5.out b6) b7)
        clear q0 q1 q2 q3 u0 u1 u2 u3 b6 b7
        obtain ⟨q0,q1,q2,q3⟩:=cells4E w7G.out
        obtain ⟨r0,r1,r2,r3⟩:=cells4E w7Y.out
        have f0:=free_at (j:=0) w7Y.out
        have f1:=free_at (j:=1) w7Y.out
        have f2:=free_at (j:=2) w7Y.out
        have f3:=free_at (j:=3) w7Y.out
        have lY:=lt_of_block w7Y.out
        have lG:=lt_of_block w7G.out
        go_wp2_with fail
        refine bodyPost_ret (v:=.tuple #[.agg #[.int .i64 (R.2.most:Int),.int .i64 (qs.length:Int),.int .i64 (nbb:Int),.slice A4 R.1.length c4],.int .i64 0]) (by simp [results,Tryz.results17,go_sem,r0,r1,r2,r3]) rfl ?_
        rw[HF.out]
        exact ⟨A4,c4,rfl,own_lowT (own_drawG O7.out (grE (grE (grE (setE _) (setE _)) (setE _)) (setE _)) Zq6) Zq6,(B0.out.trans (B7.out.mono hs0)).trans (setBelow4 Zq6)⟩
     ·rw[hbad] at y3
      have HF:Hid (elaP d qs l=⟨0,0,0,[],2⟩):=by show _=_;rw[HE.out];exact finR_bad (.inl hbad)
      clear hbad
      go_upto_region 8 with (fail)
      obtain ⟨r0,r1,r2,r3⟩:=cells4E (w5Y.out)
      have f0:=free_at (j:=0) w5Y.out
      have f1:=free_at (j:=1) w5Y.out
      have f2:=free_at (j:=2) w5Y.out
      have f3:=free_at (j:=3) w5Y.out
      have lY:=lt_of_block w5Y.out
      go_wp2_with fail
      refine bodyPost_ret (v:=.tuple #[.agg #[.int .i64 0,.int .i64 0,.int .i64 0,.slice none 0 0],.int .i64 2]) (by simp [results,Tryz.results17,go_sem,r0,r1,r2,r3]) rfl ?_
      rw[HF.out]
      exact ⟨none,0,rfl,World.ownsRow_nil _ _ _ _,(B0.out.trans (B5.out.mono hs0)).trans (setBelow4 Zq6)⟩
  ·have d0:(K.1==0)=false:=beq_eq_false_iff_ne.2 hk0
   have HF:Hid (elaP d qs l=⟨0,0,0,[],1⟩):=ela_bad (.inr (by rw[←HK.out];exact hk0))
   clear hk0
   go_upto_region 3 with (go_at_call 12;refine(HVS.out w1 RA1.out RB1.out).mono ?_;rintro e2 w2 ⟨rfl,b2,s2⟩)
   have w2Y:=hD ((b2.block _ Zq6).trans ((B1.out.block _ lY0).trans Y0.out))
   obtain ⟨r0,r1,r2,r3⟩:=cells4E (w2Y.out)
   have f0:=free_at (j:=0) w2Y.out
   have f1:=free_at (j:=1) w2Y.out
   have f2:=free_at (j:=2) w2Y.out
   have f3:=free_at (j:=3) w2Y.out
   have lY:=lt_of_block w2Y.out
   go_wp2_with fail
   refine bodyPost_ret (v:=.tuple #[.agg #[.int .i64 0,.int .i64 0,.int .i64 0,.slice none 0 0],.int .i64 1]) (by simp [results,Tryz.results17,go_sem,r0,r1,r2,r3]) rfl ?_
   rw[HF.out]
   exact ⟨none,0,rfl,World.ownsRow_nil _ _ _ _,(B0.out.trans ((B1.out.trans (b2.mono B1.out.size)).mono hs0)).trans (setBelow4 Zq6)⟩
def GNb (M:Nat) (w:World):Prop:=M≤w.heap.size∧∃ A c,w.cell? ⟨0,0,none⟩=some (.slice A 13 c)∧0<M∧RdQ w (·<M) 1 A 13 (strs gstrs)
def EnvI (W:World) (E B:Nat) (vb:Value) (e:Es):Prop:=W.heap[E]?=some (.cells #[vb,.int .i64 (e.most:Int),.bool e.bad] 89 (0,0))∧W.ownsRow B 9 1 vb e.bits.length (strs e.bits)
def Mv (w:World) (vb vb':Value):Prop:=vb'.ownBlock=vb.ownBlock∨∃ k,vb'.ownBlock=some k∧w.heap.size≤k
section
variable {w W W':World} {E B M:Nat} {vb vb' vb'':Value} {e:Es} {P:Nat→Prop}
theorem GNb.below (h:GNb M w) (hb:Below M w W):GNb M W:=by
 obtain ⟨h1,A,c,g1,g2,g3⟩:=h
 exact ⟨Nat.le_trans h1 hb.size,A,c,(hb.cell (p:=⟨0,0,none⟩) g2).trans g1,g2,g3.keep (fun b hb1 hb2=>hb.block b hb1) hb.size⟩
theorem GNb.gn (h:GNb M w):GN w:=by
 obtain ⟨h1,A,c,g1,g2,g3⟩:=h
 exact ⟨A,c,g1,Nat.lt_of_lt_of_le g2 h1,g3.rd⟩
theorem GN.b (h:GN w):GNb w.heap.size w:=by
 obtain ⟨A,c,g1,g2,g3⟩:=h
 exact ⟨Nat.le_refl _,A,c,g1,g2,⟨g3.1,fun h0=>by obtain ⟨b,off,e,hb,hc⟩:=g3.2 h0;exact ⟨b,off,e,hb,hb,hc⟩⟩⟩
theorem GNb.mod (h:GNb M w) (hm:Mod E vb.ownBlock w W) (hE:M≤E) (hv:∀ k,vb.ownBlock=some k→M≤k):GNb M W:=h.below (hm.below h.1 hE hv)
theorem EnvI.lt (h:EnvI W E B vb e):E<W.heap.size:=lt_of_block h.1
theorem EnvI.below (h:EnvI W E B vb e) (hb:Below W.heap.size W W'):EnvI W' E B vb e:=⟨(hb.block E (lt_of_block h.1)).trans h.1,ownsRow_below h.2 hb⟩
theorem EnvI.grown (h:EnvI W E B vb e) {r:Option Nat} (hg:W.grownBy W' r) (hE:r≠some E) (hv:∀ k,vb.ownBlock=some k→r≠some k):EnvI W' E B vb e :=
 ⟨(hg.block E (lt_of_block h.1) (fun e=>hE e.symm)).trans h.1,h.2.kept hg (by
  cases hk:vb.ownBlock with
  | none=>exact .inl rfl
  | some k=>exact .inr (fun e=>hv k hk e.symm))⟩
theorem mod_trQ {d n:Nat} {A:Option Addr} {l:List (Tr d)} (h:TrQ W P d A n l) (hm:Mod E vb.ownBlock W W') (hE:¬ P E) (hv:∀ k,vb.ownBlock=some k→¬ P k):TrQ W' P d A n l :=
 TrQ.keep (fun b hb hl=>hm.block b hl (fun e=>hE (e▸hb)) (fun e=>hv b e hb)) hm.size h
theorem mod_rdQ {size n:Nat} {A:Option Addr} {xs:List Value} (h:RdQ W P size A n xs) (hm:Mod E vb.ownBlock W W') (hE:¬ P E) (hv:∀ k,vb.ownBlock=some k→¬ P k):RdQ W' P size A n xs :=
 h.keep (fun b hb hl=>hm.block b hl (fun e=>hE (e▸hb)) (fun e=>hv b e hb)) hm.size
theorem Mv.refl:Mv w vb vb:=.inl rfl
theorem Mv.trans (h:Mv w vb vb') (h':Mv W vb' vb'') (hs:w.heap.size≤W.heap.size):Mv w vb vb'':=by
 rcases h' with h'|⟨k,h1,h2⟩
 ·rcases h with h|⟨k,h1,h2⟩
  ·exact .inl (h'.trans h)
  ·exact .inr ⟨k,h'.trans h1,h2⟩
 ·exact .inr ⟨k,h1,Nat.le_trans hs h2⟩
theorem mod_cell {b o:Nat} {u:Value} (hm:Mod E vb.ownBlock W W') (hb:b<W.heap.size) (hE:b≠E) (hv:vb.ownBlock≠some b) (h:W.cell? ⟨b,o,none⟩=some u):W'.cell? ⟨b,o,none⟩=some u:=by
 have:=hm.block b hb hE hv
 rw[←h]
 simp [World.cell?,this]
theorem own_two {B1 B2 n m:Nat} {v:Value} {xs ys:List Value} (h1:W.ownsRow B1 104 8 v n xs) (h2:W.ownsRow B2 9 1 vb m ys):∀ k,vb.ownBlock=some k→v.ownBlock≠some k:=by
 intro k hk
 rcases h2.2 with ⟨rfl,_⟩|⟨g,cap,cur,rfl,_,hh,_⟩
 ·cases hk
 ·injection hk with hk
  subst hk
  exact own_ne_typeG h1 hh Zq8
end
def RetIl (w:World) (E B:Nat) (vb:Value) (r:List Opt × Es) (x:Ending) (w':World):Prop :=
 ∃ v vb',x=.returned v∧w'.ownsRow w.heap.size 104 8 v r.1.length (r.1.flatMap ocells)∧EnvI w' E B vb' r.2∧Mod E vb.ownBlock w w'∧Mv w vb vb'
theorem iL_len {α:Type} {one:α→Es→List Opt × Es} (S:Nat):∀ (l:List α) (out:List Opt) (e:Es),(∀ s∈l,∀ e,(one s e).1.length≤S)→(e.bad=false→out.length≤120)→out.length≤120+S→(iL one l out e).1.length≤120+S:=by
 intro l
 induction l with
 | nil=>intro out e _ _ h;exact h
 | cons s l ih =>
  intro out e h h1 h2
  unfold iL
  split
  ·exact Nat.zero_le _
  ·rename_i hb
   have h3:=h1 (by simpa using hb)
   have h4:=h s (List.mem_cons_self ..) e
   refine ih _ _ (fun x hx=>h x (List.mem_cons_of_mem _ hx)) (fun hb'=>?_) (by rw[List.length_append];omega)
   have hb':((one s e).2.bad || decide (120<(out++(one s e).1).length))=false:=hb'
   rw[Bool.or_eq_false_iff] at hb'
   have:=of_decide_eq_false hb'.2
   omega
theorem iS_len {d m:Nat} {h:SH} {bd:List (Tr d)} {names:List ByteArray} {e:Es} (hm:hasB h.k=true→∀ names e,(iA d bd names e).1.length≤m) (hk:1≤h.k∧h.k≤7):(iS (iA d) h bd names e).1.length≤(if hasB h.k=true then 9*m+2 else 1):=by
 have h7:h.k=1∨h.k=2∨h.k=3∨h.k=4∨h.k=5∨h.k=6∨h.k=7:=by omega
 rcases h7 with e1|e1|e1|e1|e1|e1|e1
 ·rw[iS_1 e1,if_neg (by rw[e1];decide)];exact Nat.le_refl _
 ·have hb:hasB h.k=true:=by rw[e1];decide
  rw[iS_2 e1,if_pos hb]
  show(repO _ _).length≤_
  rw[rep_len]
  have:=Nat.mul_le_mul (reps_le h.count) (hm hb names e)
  omega
 ·have hb:hasB h.k=true:=by rw[e1];decide
  rw[iS_3 e1,if_pos hb]
  show(adjO _).length≤_
  rw[adj_len]
  have:=hm hb names e
  omega
 ·have hb:hasB h.k=true:=by rw[e1];decide
  rw[iS_4 e1,if_pos hb]
  have:=osL_le (ixI names (arg0 h)) (iA d bd names e).1
  have:=hm hb names e
  show(osL _ _).length≤_
  omega
 ·have hb:hasB h.k=true:=by rw[e1];decide
  rw[iS_5 e1,if_pos hb]
  have:=hm hb (names++[arg0 h]) e
  simp only[List.length_append,List.length_singleton]
  omega
 ·rw[iS_6 e1,if_neg (by rw[e1];decide)];exact Nat.le_refl _
 ·have hb:hasB h.k=true:=by rw[e1];decide
  rw[iS_7 e1,if_pos hb]
  have:=hm hb names e
  show((_:List Opt).map _).length≤_
  rw[List.length_map]
  omega
theorem iA_len:∀ (d:Nat) (l:List (Tr d)) (names:List ByteArray) (e:Es),validT d l=true→(iA d l names e).1.length≤200*10 ^ nestT d l:=by
 intro d
 induction d with
 | zero=>intro l names e _;exact Nat.zero_le _
 | succ d ih =>
  intro l names e hv
  have hv':=validT_all hv
  cases hN:nestT (d+1) l with
  | zero =>
   refine Nat.le_trans (iL_len 1 l [] _ (fun s hs e=>?_) (fun _=>Nat.zero_le _) (Nat.zero_le _)) Zq8
   have h1:=nest_mem hs
   have h2:=iS_len (d:=d) (m:=0) (h:=hdT s) (bd:=bdT s) (names:=names) (e:=e) (fun hb=>by rw[if_pos hb] at h1;omega) (vOne_all (hv' s hs)).1
   have h3:¬ hasB (hdT s).k=true:=fun hb=>by rw[if_pos hb] at h1;omega
   rwa [if_neg h3] at h2
  | succ N =>
   have hp:1≤10 ^ N:=Nat.pow_pos (n:=N) (show 0<10 by decide)
   refine Nat.le_trans (iL_len (9*(200*10 ^ N)+2) l [] _ (fun s hs e=>?_) (fun _=>Nat.zero_le _) (Nat.zero_le _)) (by rw[Nat.pow_succ];omega)
   have h1:=nest_mem hs
   have h2:=iS_len (d:=d) (m:=200*10 ^ N) (h:=hdT s) (bd:=bdT s) (names:=names) (e:=e) (fun hb names e=>by
    rw[if_pos hb] at h1
    exact Nat.le_trans (ih (bdT s) names e (vOne_all (hv' s hs)).2.2.2.2.2.2.2) (Nat.mul_le_mul_left _ (Nat.pow_le_pow_right Zq8 Zq6))) (vOne_all (hv' s hs)).1
   refine Nat.le_trans h2 ?_
   split <;> omega
theorem iA_len4 {d:Nat} {l:List (Tr d)} (names:List ByteArray) (e:Es) (hv:validT d l=true) (hn:nestT d l≤4):(iA d l names e).1.length≤2000000 :=
 Nat.le_trans (iA_len d l names e hv) (Nat.le_trans (Nat.mul_le_mul_left _ (Nat.pow_le_pow_right Zq8 hn)) Zq8)
theorem iL_bits {α:Type} {one:α→Es→List Opt × Es} (g:α→Nat) (h1:∀ s e,(one s e).2.bits.length≤e.bits.length+g s):∀ (l:List α) (out:List Opt) (e:Es),(iL one l out e).2.bits.length≤e.bits.length+(l.map g).sum:=by
 intro l
 induction l with
 | nil=>intro out e;exact Nat.le_add_right _ _
 | cons s l ih =>
  intro out e
  have a:=h1 s e
  have b:=ih (out++(one s e).1) ⟨(one s e).2.bits,(one s e).2.most,(one s e).2.bad || decide (120<(out++(one s e).1).length)⟩
  rw[List.map_cons,List.sum_cons]
  unfold iL
  split
  ·show e.bits.length≤_
   omega
  ·have b:_≤(one s e).2.bits.length+_:=b
   omega
theorem iS_bits {d:Nat} {h:SH} {bd:List (Tr d)} {names:List ByteArray} {e:Es} (ih:∀ names (e:Es),(iA d bd names e).2.bits.length≤e.bits.length+szT d bd):(iS (iA d) h bd names e).2.bits.length≤e.bits.length+szT d bd+1:=by
 unfold iS
 repeat' split
 ·show e.bits.length≤_;omega
 ·have:=ih names e;show(iA d bd names e).2.bits.length≤_;omega
 ·have:=ih names e;show(iA d bd names e).2.bits.length≤_;omega
 ·have:=ih names e;show(iA d bd names e).2.bits.length≤_;omega
 ·have:=ih (names++[arg0 h]) e;show(iA d bd (names++[arg0 h]) e).2.bits.length≤_;exact Nat.le_trans this (Nat.le_succ _)
 ·show(e.bits++[arg1 h]).length≤_;rw[List.length_append];show e.bits.length+1≤_;omega
 ·have:=ih names e;show(iA d bd names e).2.bits.length≤_;omega
theorem iA_bits:∀ (d:Nat) (l:List (Tr d)) (names:List ByteArray) (e:Es),(iA d l names e).2.bits.length≤e.bits.length+szT d l:=by
 intro d
 induction d with
 | zero=>intro l names e;exact Nat.le_add_right _ _
 | succ d ih =>
  intro l names e
  have h:=iL_bits (one:=fun s e=>iS (iA d) (hdT s) (bdT s) names e) (fun s=>szT d (bdT s)+1) (fun s e=>iS_bits (fun n e=>ih _ n e)) l [] ⟨e.bits,max e.most names.length,e.bad⟩
  refine Nat.le_trans h (Nat.add_le_add_left ?_ _)
  rw[szT_succ]
  clear h
  induction l with
  | nil=>exact Nat.zero_le _
  | cons s l ihl =>
   have e1:sumE (s :: l)=szE s+sumE l:=by simp [sumE]
   have e2:szE s=(hdT s).word.size+((hdT s).args.length+szS (hdT s).args+szT d (bdT s)):=rfl
   rw[List.map_cons,List.sum_cons,List.length_cons,e1]
   omega
def OneI (d:Nat):Prop:=∀ (P:Nat→Prop) (h:SH) (bd:List (Tr d)) (Aa:Option Addr) (ca:Nat) (Ab:Option Addr) (nb cb E B M:Nat) (vb:Value) (An:Option Addr) (nn cn:Nat) (names:List ByteArray) (e:Es) (w:World),RdQ w P 1 Aa h.args.length (strs h.args)→TrQ w P d Ab nb bd→RdQ w P 1 An nn (strs names)→names.length=nn→vOne d (validT d) h bd=true→¬ P E→(∀ k,vb.ownBlock=some k→¬ P k)→EnvI w E B vb e→GNb M w→(M≤E∧E<B∧B≤w.heap.size) →
 (if hasB h.k then 1+nestT d bd else 0)≤4→names.length+(if hasB h.k then 1+nestT d bd else 0)≤1000→e.bits.length+szT d bd+1≤1048577 →
 Calls Tryz.prog 120 #[.pointer (some ⟨E,0,none⟩),.agg #[.int .i64 h.k,.string h.word,.slice Aa h.args.length ca,.int .i64 h.count,.slice Ab nb cb],.slice An nn cn] w (RetIl w E B vb (iS (iA d) h bd names e))
def AllIm (d:Nat):Prop:=∀ (P:Nat→Prop) (l:List (Tr d)) (A:Option Addr) (n c E B M:Nat) (vb:Value) (An:Option Addr) (nn cn:Nat) (names:List ByteArray) (e:Es) (w:World),TrQ w P d A n l→RdQ w P 1 An nn (strs names)→names.length=nn→validT d l=true→¬ P E→(∀ k,vb.ownBlock=some k→¬ P k)→EnvI w E B vb e→GNb M w→(M≤E∧E<B∧B≤w.heap.size) →
 nestT d l≤4→names.length+nestT d l≤1000→e.bits.length+szT d l≤1048577 →
 Calls Tryz.prog 67 #[.pointer (some ⟨E,0,none⟩),.slice A n c,.slice An nn cn] w (RetIl w E B vb (iA d l names e))
@[local go_sem high] theorem run_maxN {P:Program} {w:World} (ts:Array TypeId) (t:TypeId) (k k':IntKind) (x y:Nat):(Builtin.max_ ts t #[.int k (x:Int),.int k' (y:Int)]).run P w=.ok (.int k ((max x y:Nat):Int)) w:=by
 rw[run_max_int2]
 have:(if (y:Int) > (x:Int) then (y:Int) else (x:Int))=((max x y:Nat):Int):=by split <;> omega
 rw[this]
theorem own_modI {X:Nat} {r:Option Nat} {w w':World} {base e size n:Nat} {v:Value} {xs:List Value} (h:w.ownsRow base e size v n xs) (m:Mod X r w w') (h1:v.ownBlock≠some X) (h2:∀ k,v.ownBlock=some k→r≠some k):w'.ownsRow base e size v n xs:=by
 refine ⟨h.1,?_⟩
 have hl:=h.lt
 rcases h.2 with hn|⟨g,cap,cur,rfl,hb,hh,rest⟩
 ·exact .inl hn
 ·exact .inr ⟨g,cap,cur,rfl,hb,(m.block g (hl g rfl).2 (fun e=>h1 (by rw[←e];rfl)) (h2 g rfl)).trans hh,rest⟩
section
variable {w w' w'' W W':World} {E B M:Nat} {vb vb':Value} {e:Es} {P:Nat→Prop}
theorem EnvI.far (h:EnvI W E B vb e) (hEB:E<B):vb.ownBlock≠some E:=fun q=>by have:=own_ge h.2 _ q;omega
theorem EnvI.most (h:EnvI W E B vb e) (hEB:E<B) (n:Nat):EnvI (W.setCell ⟨E,1,none⟩ (.int .i64 ((max e.most n:Nat):Int))) E B vb ⟨e.bits,max e.most n,e.bad⟩ :=
 ⟨heap_set_selfG h.1 _,own_setfarG h.2 (h.far hEB) _⟩
theorem EnvI.long (h:EnvI W E B vb e) (hEB:E<B):EnvI (W.setCell ⟨E,2,none⟩ (.bool true)) E B vb ⟨e.bits,e.most,true⟩ :=
 ⟨heap_set_selfG h.1 _,own_setfarG h.2 (h.far hEB) _⟩
theorem mod_set (u:Value) (o:Nat):Mod E vb.ownBlock W (W.setCell ⟨E,o,none⟩ u):=Mod.set (p:=⟨E,o,none⟩) (Mod.of_below _ _ (Below.refl _ _)) (.inl rfl) u
theorem mod_below (h:Mod E vb.ownBlock w W) (hb:Below W.heap.size W W'):Mod E vb.ownBlock w W':=h.trans (Mod.of_below _ _ hb) (.inl rfl)
theorem mod_grown {r row:Option Nat} (h:Mod E r w W) (hg:W.grownBy W' row) (hr:∀ k,row=some k→w.heap.size≤k):Mod E r w W' :=
 ⟨hg.os.trans h.os,hg.tape.trans h.tape,hg.output.trans h.output,Nat.le_trans h.size hg.size,fun b hb h1 h2=>(hg.block b (Nat.lt_of_lt_of_le hb h.size) (fun e=>by have:=hr b e.symm;omega)).trans (h.block b hb h1 h2)⟩
end
theorem all_zeroI:AllIm 0:=by
 intro P l A n c E B M vb An nn cn names e w h hna hnn hv hP hPv hE hG hM _ _ _
 obtain rfl:n=0:=h.2
 have hlt:=hE.lt
 have y1:=cell_at (j:=1) hE.1 rfl
 have f1:=free_at (j:=1) hE.1
 go_enter Tryz.func67,Tryz.ntmps67
 go_wp2
 refine wp_loop_rounds 1 ?_
 rw[rounds_succ]
 go_wp2
 go_ret
 have h1:=hE.most hM.2.1 names.length
 rw[hnn] at h1
 have h2:=own_empty (w.setCell ⟨E,1,none⟩ (.int .i64 ((max e.most nn:Nat):Int))) 104 8
 rw[size_setCell] at h2
 refine ⟨_,vb,rfl,h2,by show EnvI _ E B vb ⟨e.bits,max e.most names.length,e.bad⟩;rw[hnn];exact h1.below below_allocE,mod_below (mod_set _ _) below_allocE,Mv.refl⟩
theorem all_succI {d:Nat} (hone:OneI d):AllIm (d+1):=by
 obtain ⟨i0,hi,hz0,hz1,hz2⟩:=info_parts info_OpE
 intro P0 l A n c E B M vb An nn cn names e0 w h hna hnn hv hP hPv hE hG hM hne hnm hsz
 have hElt:=hE.lt
 have hl:=h.1
 have hn:n≤1048577:=by rw[szT_succ] at hsz;omega
 obtain ⟨P,hPe⟩:∃ P:Nat→Prop,P=fun b=>P0 b∧b<w.heap.size:=⟨_,rfl⟩
 have H:=hD (show TrQ w P (d+1) A n l by rw[hPe];exact TrQ.mono (fun b hl hb=>⟨hb,hl⟩) h)
 have HNA:=hD (show RdQ w P 1 An nn (strs names) by rw[hPe];exact hna.mono (fun b hl hb=>⟨hb,hl⟩))
 have hP1:¬ P E:=by rw[hPe];exact fun h=>hP h.1
 have HPV:=hD (show ∀ v:Value,Mv w vb v→∀ k,v.ownBlock=some k→¬ P k by
  rw[hPe]
  rintro v (hm|⟨k0,h1,h2⟩) k hk ⟨q1,q2⟩
  ·exact hPv k (hm▸hk) q1
  ·rw[h1] at hk;injection hk with hk;omega)
 obtain ⟨e,he⟩:∃ e:Es,e=⟨e0.bits,max e0.most names.length,e0.bad⟩:=⟨_,rfl⟩
 have HEQ:=hD (show iA (d+1) l names e0=iL (fun s e=>iS (iA d) (hdT s) (bdT s) names e) l [] e by rw[he];rfl)
 have hebits:e.bits=e0.bits:=by rw[he]
 have HE1:=hD (show EnvI (w.setCell ⟨E,1,none⟩ (.int .i64 ((max e0.most nn:Nat):Int))) E B vb e by rw[he,←hnn];exact hE.most hM.2.1 _)
 have HG:=hD hG
 have HV:=hD hv
 have HNM:=hD hnm
 have HNE:=hD hne
 have HSZ:=hD (show e.bits.length+szT (d+1) l≤1048577 by rw[hebits];exact hsz)
 have y1:=cell_at (j:=1) hE.1 rfl
 have f1:=free_at (j:=1) hE.1
 have HM:=hD hM
 have hME:M≤E:=hM.1
 have hEB:E<B:=hM.2.1
 have hBw:B≤w.heap.size:=hM.2.2
 have HL:=hD hl
 have HNN:=hD hnn
 have HBO:=hD (own_ge hE.2)
 clear h hv hnm hne hsz hE hG hl hna hnn hP hPv hM hPe he hebits
 go_enter Tryz.func67,Tryz.ntmps67
 go_wp2
 go_loopw [7,23] (fun v i wr=>∃ (t:Nat) (out:List Opt) (et:Es) (vt:Value),t≤n∧i=.int .i64 t∧out.length≤2000200∧Hid (et.bad=false→out.length≤120)∧Hid (iA (d+1) l names e0=iL (fun s e=>iS (iA d) (hdT s) (bdT s) names e) (l.drop t) out et)∧Hid (et.bits.length+szT (d+1) (l.drop t)≤1048577) ∧
  Hid (wr.ownsRow w.heap.size 104 8 v out.length (out.flatMap ocells))∧Hid (EnvI wr E B vt et)∧Hid (Mod E vb.ownBlock w wr)∧Hid (Mv w vb vt)) (fun _ i _=>n - (intOf i).toNat)
 case atStart =>
  have h2:=own_empty (w.setCell ⟨E,1,none⟩ (.int .i64 ((max e0.most nn:Nat):Int))) 104 8
  rw[size_setCell] at h2
  exact ⟨0,[],e,vb,Nat.zero_le _,rfl,Nat.zero_le _,fun _=>Nat.zero_le _,HEQ.out,by rw[List.drop_zero];exact HSZ.out,h2,HE1.out.below below_allocE,mod_below (mod_set _ _) below_allocE,Mv.refl⟩
 case round =>
  clear HE1 HEQ y1 f1
  obtain ⟨t,out,et,vt,ht,rfl,hol,hob,hiA,hbz,hown,henv,hmd,hmv⟩:=hrel
  obtain ⟨A0,c0,rfl,_,_,_⟩:=rd_of_own hown.out
  have hws:=hmd.out.size
  by_cases hlt:t<n
  ·obtain ⟨s,hs⟩:∃ s,l[t]?=some s:=⟨_,List.getElem?_eq_getElem (by have:=HL.out;omega)⟩
   have hv1:=validT_all HV.out s (List.mem_of_getElem? hs)
   have hPt:=HPV.out vt hmv.out
   have h0:=mod_trQ H.out hmd.out hP1 (HPV.out vb Mv.refl)
   have hna0:=mod_rdQ HNA.out hmd.out hP1 (HPV.out vb Mv.refl)
   have hgb:=HG.out.mod hmd.out hME (fun k hk=>by have:=HBO.out k hk;omega)
   obtain ⟨b,off,rfl,_,hbl,hc⟩:=h0.2 Zq6
   obtain ⟨Aa,ca,Ab,nb,cb,⟨q0,q1,q2,q3,q4⟩,ha,hb,_⟩:=hc t s hs
   have z2:=cell_at (j:=2) henv.out.1 rfl
   have lE:=henv.out.lt
   have hsa:=hiA.out
   rw[drop_cons hs] at hsa
   cases hbad:et.bad with
   | true =>
    have HF:Hid (iA (d+1) l names e0=([],et)):=by show _=_;rw[hsa];unfold iL;rw[if_pos hbad]
    rw[hbad] at z2
    clear h0 hc hs hsa ha hb hv1
    go_wp2_with fail
    go_ret
    refine ⟨_,vt,rfl,by rw[HF.out];exact ⟨by simp,.inl ⟨rfl,rfl⟩⟩,by rw[HF.out];exact henv.out.below Zq0,mod_below hmd.out Zq0,hmv.out⟩
   | false =>
    obtain ⟨R,hR⟩:∃ R,R=iS (iA d) (hdT s) (bdT s) names et:=⟨_,rfl⟩
    have hsa:iA (d+1) l names e0=iL (fun s e=>iS (iA d) (hdT s) (bdT s) names e) (l.drop (t+1)) (out++R.1) ⟨R.2.bits,R.2.most,R.2.bad || decide (120<(out++R.1).length)⟩:=by
     rw[hsa,hR];conv=>lhs;unfold iL
     rw[if_neg (by rw[hbad];decide)]
    have HSA:=hD hsa
    have hnm1:(if hasB (hdT s).k then 1+nestT d (bdT s) else 0)≤nestT (d+1) l:=nest_mem (List.mem_of_getElem? hs)
    have hz1:=sz_drop hs
    have hz2:=hbz.out
    have hlen:R.1.length≤2000000:=by
     rw[hR]
     have h9:=iS_len (d:=d) (m:=200000) (h:=hdT s) (bd:=bdT s) (names:=names) (e:=et) (fun hb names e=>by
      rw[if_pos hb] at hnm1
      have h8:=iA_len d (bdT s) names e (vOne_all hv1).2.2.2.2.2.2.2
      have h7:10 ^ nestT d (bdT s)≤10 ^ 3:=Nat.pow_le_pow_right Zq8 (by have:=HNE.out;omega)
      omega) (vOne_all hv1).1
     refine Nat.le_trans h9 ?_
     split <;> omega
    have hbits:R.2.bits.length≤et.bits.length+szT d (bdT s)+1:=by rw[hR];exact iS_bits (fun n e=>iA_bits d (bdT s) n e)
    have hzn:R.2.bits.length+szT (d+1) (l.drop (t+1))≤1048577:=by omega
    have HZN:=hD hzn
    have HC:=fun W (hW:Below wr.heap.size wr W)=>hone P (hdT s) (bdT s) Aa ca Ab nb cb E B M vt An nn cn names et W (ha.keep (fun b _ hl=>hW.block b hl) hW.size) (TrQ.keep (fun b _ hl=>hW.block b hl) hW.size hb) (hna0.keep (fun b _ hl=>hW.block b hl) hW.size) HNN.out hv1 hP1 hPt (henv.out.below hW) (hgb.below (hW.mono hgb.1)) ⟨hME,hEB,Nat.le_trans hBw (Nat.le_trans hws hW.size)⟩ (Nat.le_trans hnm1 HNE.out) (by have:=HNM.out;omega) Zq6
    rw[←hR] at HC
    have HC:=hD HC
    rw[hbad] at z2
    clear h0 hc hs hsa ha hb hv1 hz1 hz2 hbits hzn hnm1 hR
    go_wp2_with fail
    refine(HC.out _ Zq0).mono ?_
    rintro e1 w1 ⟨r,vt',rfl,hor,hen,hmd1,hmv1⟩
    have B9:=fun o=>Below.alloc (Below.refl wr.heap.size wr) (Nat.le_refl _) o
    have hs1:=Nat.le_trans (B9 _).size hmd1.size
    obtain ⟨Ar,cr,rfl,_,_,rr⟩:=rd_of_own hor
    have hoA:∀ k,(Value.slice A0 out.length c0).ownBlock=some k→w.heap.size≤k:=own_ge hown.out
    have own1:w1.ownsRow w.heap.size 104 8 (.slice A0 out.length c0) out.length (out.flatMap ocells):=own_modI (own_lowT (hown.out.alloc _) (Nat.le_refl _)) hmd1 (fun q=>by have:=hoA _ q;omega) (fun k hk q=>own_two hown.out henv.out.2 k q hk)
    have md1:=hD ((mod_below hmd.out (B9 _)).trans hmd1 hmv.out)
    have mv1:=hD (hmv.out.trans hmv1 (Nat.le_trans hws (B9 _).size))
    have en1:=hD hen
    have hBo1:=own_ge hen.2
    have H1:=hD hor
    clear hor hen hmd1 hmv1 q0 q1 q2 q3 q4 HC hna0 hgb B9
    go_wp2_with (at_builtin;refine wpList_append_rd _ rfl _ _ 38 rfl w.heap.size 104 i0 _ 8 64 Tryz.underlying38 hi hz0 hz1 hz2 rfl Zq8 _ _ _ rfl own1 _ _ _ _ rfl rr ?c2 ?c3 ?c4 ?c5 ?_)
    case c2=>exact one_flat ocells_one R.1
    case c3=>simp only[maxLen];omega
    case c4=>omega
    case c5=>omega
    intro v6 w6 own6 gr6 hat
    have hs6:=gr6.size
    have hEv:(Value.slice A0 out.length c0).ownBlock≠some E:=fun q=>by have:=own_ge own1 _ q;omega
    have en6:=hD (en1.out.grown gr6 hEv (fun k hk=>own_two own1 en1.out.2 k hk))
    have md6:=hD (mod_grown md1.out gr6 (own_ge own1))
    have e6:out.flatMap ocells++R.1.flatMap ocells=(out++R.1).flatMap ocells:=by rw[List.flatMap_append]
    rw[e6] at own6
    obtain ⟨N,hN⟩:∃ N,N=out.length+R.1.length:=⟨_,rfl⟩
    rw[←hN] at own6
    have hNl:(out++R.1).length=N:=by rw[List.length_append,hN]
    have hNb:N≤2000200:=by have:=hob.out hbad;omega
    have HN:=hD hNl
    have O6:=hD own6
    obtain ⟨A6,c6,rfl,_,_,_⟩:=rd_of_own own6
    have z6:=cell_at (j:=2) en6.out.1 rfl
    have f6:=free_at (j:=2) en6.out.1
    have lE6:=en6.out.lt
    have hE6:E≠w6.heap.size:=by omega
    clear own6 gr6 hat own1 e6 rr hN en1 md1 H1 hBo1
    by_cases hbig:120<N
    ·have hd:decide ((120:Int)<(N:Int))=true:=decide_eq_true Zq6
     have HF:Hid (iA (d+1) l names e0=iL (fun s e=>iS (iA d) (hdT s) (bdT s) names e) (l.drop (t+1)) (out++R.1) ⟨R.2.bits,R.2.most,true⟩):=by
      show _=_
      rw[HSA.out,hNl,decide_eq_true hbig,Bool.or_true]
     clear hNl
     go_wp2_with fail
     go_roundw
     case rel=>exact ⟨t+1,out++R.1,⟨R.2.bits,R.2.most,true⟩,vt',by omega,by go_num,by rw[HN.out];exact hNb,fun h=>(by cases h),HF.out,HZN.out,by rw[HN.out];exact own_setfarG O6.out (fun q=>by have:=own_ge O6.out E q;omega) _,en6.out.long hEB,md6.out.trans (mod_set (vb:=vb) _ _) (.inl rfl),mv1.out⟩
     case measure=>simp [intOf];omega
    ·have hd:decide ((120:Int)<(N:Int))=false:=decide_eq_false Zq6
     have HF:Hid (iA (d+1) l names e0=iL (fun s e=>iS (iA d) (hdT s) (bdT s) names e) (l.drop (t+1)) (out++R.1) R.2):=by
      show _=_
      rw[HSA.out,hNl,decide_eq_false hbig,Bool.or_false]
     clear hNl
     go_wp2_with fail
     go_roundw
     case rel=>exact ⟨t+1,out++R.1,R.2,vt',by omega,by go_num,by rw[HN.out];exact hNb,fun _=>(by rw[HN.out];omega),HF.out,HZN.out,by rw[HN.out];exact O6.out,en6.out,md6.out,mv1.out⟩
     case measure=>simp [intOf];omega
  ·obtain rfl:t=n:=by omega
   have HF:Hid (iA (d+1) l names e0=(out,et)):=by
    show _=_
    rw[hiA.out,List.drop_of_length_le (by rw[HL.out];exact Nat.le_refl _)]
    rfl
   go_wp2_with fail
   go_ret
   exact ⟨_,vt,rfl,by rw[HF.out];exact hown.out,by rw[HF.out];exact henv.out,hmd.out,hmv.out⟩
end Go.Proofs.YthkbckkghnbonaaGreatDoor
