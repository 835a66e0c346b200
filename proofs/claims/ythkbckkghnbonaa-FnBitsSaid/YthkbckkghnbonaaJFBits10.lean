/- What the calls that this law reaches answer, part 10 of 15. -/
import Derived.Test.YthkbckkghnbonaaJFBits5
import Derived.Test.YthkbckkghnbonaaJFBits9
import Derived.Test.YthkbckkghnbonaaJFBits7
import Derived.Test.YthkbckkghnbonaaJFBits2
import Derived.Test.YthkbckkghnbonaaJFBits3
import Derived.Test.YthkbckkghnbonaaJFBits4
set_option maxRecDepth 100000
set_option maxHeartbeats 16000000
set_option linter.unusedVariables false
namespace Go.Proofs.Ythkbckkghnbonaa
open Go.RowKit
set_option linter.unusedVariables false
theorem oneT_kind {d:Nat} {h:SH} {bd:List (Tr d)} {names bits:List ByteArray} (hc:(oneT d h bd names bits).1.1=0) :
  (h.k=6∧hasS names (arg0 h)=true∧hasS names (arg1 h)=false∧hasS bits (arg1 h)=false∧bits.length≠3∧(oneT d h bd names bits).2=bits++[arg1 h]) ∨
  (h.k=7∧hasS bits (arg0 h)=true∧(chkN d bd names []).1=0∧(oneT d h bd names bits).2=bits) ∨
  (h.k≠6∧h.k≠7∧(oneN h (chkN d bd) names []).1=0∧(oneT d h bd names bits).2=bits):=by
 unfold oneT at hc ⊢
 by_cases h6:h.k=6
 ·rw[if_pos h6] at hc ⊢
  unfold measT at hc ⊢
  split at hc
  ·have hc:(2:Int)=0:=hc
   omega
  ·rename_i g1
   split at hc
   ·have hc:(1:Int)=0:=hc
    omega
   ·rename_i g2
    split at hc
    ·have hc:(1:Int)=0:=hc
     omega
    ·rename_i g3
     split at hc
     ·have hc:(8:Int)=0:=hc
      omega
     ·rename_i g4
      refine .inl ⟨h6,by simpa using g1,by simpa using g2,by simpa using g3,g4,?_⟩
      rw[if_neg g1,if_neg g2,if_neg g3,if_neg g4]
 ·rw[if_neg h6] at hc ⊢
  by_cases h7:h.k=7
  ·rw[if_pos h7] at hc ⊢
   by_cases hb:hasS bits (arg0 h)=true
   ·rw[if_pos hb] at hc
    exact .inr (.inl ⟨h7,hb,hc,rfl⟩)
   ·rw[if_neg hb] at hc
    have hc:(7:Int)=0:=hc
    omega
  ·rw[if_neg h7] at hc ⊢
   exact .inr (.inr ⟨h6,h7,hc,rfl⟩)
theorem cx_top {names:List ByteArray} (h4:names.length≤4):Cx names []:=⟨h4,fun a h=>by cases h⟩
theorem setIf_len (c:Int) (l:List Opt):(setIf c l).length=l.length:=by simp [setIf]
theorem top_one {d:Nat} {h:SH} {bd:List (Tr d)} {names:List ByteArray} (e:Es) (he:e.bad=false) (hm:names.length≤e.most) (h4:names.length≤4) (hv:vOne d (validT d) h bd=true) (hc:(oneT d h bd names e.bits).1.1=0) :
  (RelS (sS (sA d) h bd names e) (sS (dA d) h bd names e)∧RelS (iS (iA d) h bd names e) (sS (dA d) h bd names e)) ∧
  (sS (dA d) h bd names e).2.bits=(oneT d h bd names e.bits).2∧(sS (dA d) h bd names e).2.bad=e.bad∧e.most≤(sS (dA d) h bd names e).2.most:=by
 have hvb:=(vOne_all hv).2.2.2.2.2.2.2
 have hx:=cx_top h4
 rcases oneT_kind hc with ⟨hk,ha,_,_,_,hb⟩|⟨hk,ha,hcb,hb⟩|⟨h6,h7,hcn,hb⟩
 ·rw[sS_6 hk,sS_6 hk,iS_6 hk,hb,show ixI names (arg0 h)=fS names (arg0 h) from ix_at ha]
  exact ⟨⟨RelS.refl he,RelS.refl he⟩,rfl,rfl,Nat.le_refl _⟩
 ·rw[sS_7 hk,sS_7 hk,iS_7 hk,hb]
  obtain ⟨r1,r2⟩:=rel_nest d bd names [] hvb hcb hx e he
  rw[es_same hm] at r2
  obtain ⟨⟨b1,b2,b3⟩,_⟩:=nest_ok d bd names [] e hvb hcb hx
  have hlen:(dA d bd names e).1.length≤(setIf (fS (dA d bd names e).2.bits (arg0 h)+1) (dA d bd names e).1).length:=by rw[setIf_len];exact Nat.le_refl _
  refine ⟨⟨r1.mapE (f:=fun x e=>setIf (fS e.bits (arg0 h)+1) x) (g:=fun x e=>setIf (fS e.bits (arg0 h)+1) x) hlen rfl,?_⟩,b1,b2,b3⟩
  refine r2.mapE (f:=fun x e=>setIf (fS e.bits (arg0 h)+1) x) (g:=fun x e=>setIf (1+ixI e.bits (arg0 h)) x) hlen ?_
  show setIf (1+ixI (dA d bd names e).2.bits (arg0 h)) _=setIf (fS (dA d bd names e).2.bits (arg0 h)+1) _
  rw[b1,ix_at ha]
  unfold fS
  rw[Int.add_comm]
 ·have h1:=one_ok (nest_ok d) e hv hcn hx
  rw[hb]
  exact ⟨one_rel (rel_nest d) e he hm hv hcn hx,h1.1⟩
theorem dL_R {α:Type} {one:α→Es→List Opt × Es} (R:List α→Es→Prop) (hR:∀ s l e,R (s :: l) e→R l (one s e).2):∀ (l:List α) (out:List Opt) (e:Es),R l e→R [] (dL one l out e).2:=by
 intro l
 induction l with
 | nil=>intro out e h;exact h
 | cons s l ih=>intro out e h;exact ih _ _ (hR s l e h)
def TopQ {d:Nat} (names:List ByteArray) (l:List (Tr (d+1))) (e:Es):Prop :=
 e.bad=false∧names.length≤e.most∧(∀ s∈l,vOne d (validT d) (hdT s) (bdT s)=true)∧(topB (fun s bits=>oneT d (hdT s) (bdT s) names bits) l e.bits).1=0
theorem topQ_step {d:Nat} {names:List ByteArray} (h4:names.length≤4) {s:Tr (d+1)} {l:List (Tr (d+1))} {e:Es} (h:TopQ names (s :: l) e) :
  vOne d (validT d) (hdT s) (bdT s)=true∧(oneT d (hdT s) (bdT s) names e.bits).1.1=0∧TopQ names l (sS (dA d) (hdT s) (bdT s) names e).2:=by
 obtain ⟨q1,q2,q3,q4⟩:=h
 have hv:=q3 s (List.mem_cons_self ..)
 unfold topB at q4
 have q4:(if (oneT d (hdT s) (bdT s) names e.bits).1.1=0 then topB (fun s bits=>oneT d (hdT s) (bdT s) names bits) l (oneT d (hdT s) (bdT s) names e.bits).2 else (oneT d (hdT s) (bdT s) names e.bits).1).1=0:=q4
 split at q4
 ·rename_i h0
  obtain ⟨_,t1,t2,t3⟩:=top_one e q1 q2 h4 hv h0
  refine ⟨hv,h0,t2.trans q1,Nat.le_trans q2 t3,fun x hx=>q3 x (List.mem_cons_of_mem _ hx),?_⟩
  rw[t1]
  exact q4
 ·rename_i h0
  exact absurd q4 h0
theorem top_rel {d:Nat} {l:List (Tr d)} {names:List ByteArray} (hv:validT d l=true) (hc:(chkT d l names []).1=0) (h4:names.length≤4) :
  RelS (sA d l names ⟨[],names.length,false⟩) (dA d l names ⟨[],names.length,false⟩)∧RelS (iA d l names ⟨[],0,false⟩) (dA d l names ⟨[],names.length,false⟩) ∧
  (dA d l names ⟨[],names.length,false⟩).2.bad=false∧names.length≤(dA d l names ⟨[],names.length,false⟩).2.most:=by
 cases d with
 | zero =>
  have e0:(⟨[],max 0 names.length,false⟩:Es)=⟨[],names.length,false⟩:=by rw[Nat.zero_max]
  exact ⟨RelS.refl rfl,by show RelS ([],⟨[],max 0 names.length,false⟩) ([],⟨[],names.length,false⟩);rw[e0];exact RelS.refl rfl,rfl,Nat.le_refl _⟩
 | succ d =>
  have h0:TopQ names l ⟨[],names.length,false⟩:=⟨rfl,Nat.le_refl _,validT_all hv,hc⟩
  have hend:=dL_R (one:=fun s e=>sS (dA d) (hdT s) (bdT s) names e) (TopQ names) (fun s l e h=>(topQ_step h4 h).2.2) l [] _ h0
  refine ⟨?_,?_,hend.1,hend.2.1⟩
  ·refine relS_list (TopQ names) (fun s l' e' hq hb'=>?_) (fun s e' he'=>sS_bad (sA_bad d) _ _ _ _ he') l [] _ [] _ h0 rfl (.inl ⟨rfl,rfl,rfl⟩)
   obtain ⟨t1,t2,t3⟩:=topQ_step h4 hq
   exact ⟨(top_one e' hb' hq.2.1 h4 t1 t2).1.1,t3.1,t3⟩
  ·show RelS (iL (fun s e=>iS (iA d) (hdT s) (bdT s) names e) l [] ⟨[],max 0 names.length,false⟩) _
   rw[Nat.zero_max]
   refine relI_list (TopQ names) (fun s l' e' hq hb'=>?_) l [] _ [] _ h0 rfl (.inl ⟨rfl,rfl,rfl⟩)
   obtain ⟨t1,t2,t3⟩:=topQ_step h4 hq
   exact ⟨(top_one e' hb' hq.2.1 h4 t1 t2).1.2,t3.1,t3⟩
structure Ro where
 N:Int
 I:Int
 B:Int
 l:List Opt
 code:Int
def finR (I:Nat) (r:List Opt × Es):Ro:=if r.2.bad=true∨60<gcount r.1∨validRt r.2.most I r.2.bits.length r.1=false then ⟨0,0,0,[],2⟩ else ⟨r.2.most,I,r.2.bits.length,r.1,0⟩
theorem fin_rel {r D:List Opt × Es} (h:RelS r D) (hb:D.2.bad=false) (I:Nat):finR I r=finR I D:=by
 cases hr:r.2.bad
 ·rw[h.1 hr]
 ·have h1:=h.2 hr
  have h2:validRt D.2.most I D.2.bits.length D.1=false:=by
   unfold validRt
   rw[decide_eq_false (show ¬ D.1.length≤120 by omega)]
   simp
  unfold finR
  rw[if_pos (.inl hr),if_pos (.inr (.inr h2))]
def elaP (d:Nat) (Q:List ByteArray) (l:List (Tr d)):Ro:=if progV d Q l=true∧(ckP d Q l).1=0 then finR Q.length (dA d l Q ⟨[],Q.length,false⟩) else ⟨0,0,0,[],1⟩
theorem ck_top {d:Nat} {Q:List ByteArray} {l:List (Tr d)} (hv:progV d Q l=true) (hc:(ckP d Q l).1=0):(chkT d l Q []).1=0:=by
 unfold ckP at hc
 rw[if_pos hv] at hc
 split at hc
 ·exact hc
 ·rename_i h
  exact absurd hc h
theorem ela_spec {d:Nat} {Q:List ByteArray} {l:List (Tr d)} (hv:progV d Q l=true) (hc:(ckP d Q l).1=0):elaP d Q l=finR Q.length (sA d l Q ⟨[],Q.length,false⟩):=by
 obtain ⟨h1,_,h3,_⟩:=top_rel (progV_validC hv) (ck_top hv hc) (progV_len hv)
 unfold elaP
 rw[if_pos ⟨hv,hc⟩,fin_rel h1 h3]
theorem ela_bad {d:Nat} {Q:List ByteArray} {l:List (Tr d)} (h:progV d Q l=false∨(ckP d Q l).1≠0):elaP d Q l=⟨0,0,0,[],1⟩:=by
 unfold elaP
 rw[if_neg]
 intro ⟨h1,h2⟩
 rcases h with h|h
 ·rw[h] at h1;cases h1
 ·exact h h2
theorem strs_oneE (l:List ByteArray):∀ u∈strs l,u.oneCell'=true:=by
 intro u hu
 obtain ⟨s,_,rfl⟩:=List.mem_map.1 hu
 rfl
theorem rdT_trq {w:World} {lo:Nat} {P:Nat→Prop} (hp:∀ b,lo≤b→b<w.heap.size→P b):∀ {d:Nat} {A:Option Addr} {n:Nat} {l:List (Tr d)},RdT w lo d A n l→TrQ w P d A n l:=by
 intro d
 induction d with
 | zero=>intro A n l h;exact h
 | succ d ih =>
  intro A n l h
  refine ⟨h.1,fun h0=>?_⟩
  obtain ⟨b,off,e,hl,hb,hc⟩:=h.2 h0
  refine ⟨b,off,e,hp b hl hb,hb,fun i s hi=>?_⟩
  obtain ⟨Aa,ca,Ab,nb,cb,h1,h2,h3,h4⟩:=hc i s hi
  refine ⟨Aa,ca,Ab,nb,cb,h1,⟨h2.1,fun g=>?_⟩,ih h3,h4⟩
  obtain ⟨b',off',e',hl',hb',hc'⟩:=h2.2 g
  exact ⟨b',off',e',hp b' hl' hb',hb',hc'⟩
def RetElb (r:Ro) (w:World) (e:Ending) (w':World):Prop:=∃ A c,e=.returned (.tuple #[.agg #[.int .i64 r.N,.int .i64 r.I,.int .i64 r.B,.slice A r.l.length c],.int .i64 r.code])∧w'.ownsRow w.heap.size 60 8 (.slice A r.l.length c) r.l.length (r.l.flatMap ocells)∧Below w.heap.size w w'
theorem finR_bad {I:Nat} {r:List Opt × Es} (h:r.2.bad=true∨60<gcount r.1∨validRt r.2.most I r.2.bits.length r.1=false):finR I r=⟨0,0,0,[],2⟩:=if_pos h
theorem finR_good {I:Nat} {r:List Opt × Es} (h1:r.2.bad=false) (h2:¬ 60<gcount r.1) (h3:validRt r.2.most I r.2.bits.length r.1=true):finR I r=⟨r.2.most,I,r.2.bits.length,r.1,0⟩:=by
 unfold finR
 rw[if_neg]
 rintro (h|h|h)
 ·rw[h1] at h;cases h
 ·exact h2 h
 ·rw[h3] at h;cases h
theorem own_rdNe {w:World} {base E n c gE:Nat} {A:Option Addr} {xs:List Value} (h:w.ownsRow base E 1 (.slice A n c) n xs) (hne:∀ k,(Value.slice A n c).ownBlock=some k→k≠gE):RdQ w (fun b=>b≠gE) 1 A n xs:=by
 have h1:=rdQ_of_own h
 refine ⟨h1.1,fun h0=>?_⟩
 obtain ⟨b,off,e,_,hb,hc⟩:=h1.2 h0
 subst e
 refine ⟨b,off,rfl,hne b ?_,hb,hc⟩
 rcases h.2 with ⟨_,h2⟩|⟨g,cap,cur,e,_⟩
 ·omega
 ·injection e with e
  injection e with e
  injection e with e1 e2
  subst e1
  rfl
theorem progV_allE {d:Nat} {qs:List ByteArray} {l:List (Tr d)} (h:progV d qs l=true):(1≤qs.length∧qs.length≤4)∧nestT d l≤4∧tokT d l+qs.length+2≤160:=by
 unfold progV pgR at h
 simp only[Bool.and_eq_true,decide_eq_true_eq] at h
 have:=inB_iff.1 h.1
 exact ⟨by omega,h.2.2.2.1,h.2.2.2.2⟩
theorem allS_all:∀ d,AllS d
 | 0=>all_zeroS
 | d+1=>all_succS (one_succS (allS_all d) (anc_succS (allS_all d)))
theorem Elaborate_spec (d lo lo':Nat) (Aq:Option Addr) (cq:Nat) (qs:List ByteArray) (l:List (Tr d)) (Ab:Option Addr) (nb cb:Nat) (w:World) (hra:RdL w lo 1 Aq qs.length (strs qs)) (hcq:qs.length≤cq) (hrb:RdT w lo' d Ab nb l) (hm:qs.length≤1048576) (hz:szS qs≤1048576) (hsz:szT d l≤1048576) :
  Calls Try.prog 10 #[.agg #[.slice Aq qs.length cq,.slice Ab nb cb]] w (RetElb (elaP d qs l) w):=by
 obtain ⟨j0,hj,hy0,hy1,hy2⟩:=info_parts info_str
 obtain ⟨X,hX⟩:∃ X,X=w.heap.size:=⟨_,rfl⟩
 obtain ⟨w0,hw0⟩:∃ w0,w0=(w.alloc (.cells #[.slice Aq qs.length cq,.slice Ab nb cb] 27)).alloc (.cells #[.int .i64 0,.int .i64 0,.int .i64 0,.slice none 0 0] 33):=⟨_,rfl⟩
 have b0:Below w.heap.size w w0:=by rw[hw0];exact Zq0
 have X0:=hD (show w0.heap[X]?=some (.cells #[.slice Aq qs.length cq,.slice Ab nb cb] 27 (0,0)) by rw[hw0,hX];exact boxed2_0 _ _ _)
 have Y0:=hD (show w0.heap[X+1]?=some (.cells #[.int .i64 0,.int .i64 0,.int .i64 0,.slice none 0 0] 33 (0,0)) by rw[hw0,hX];exact boxed2_1 _ _ _)
 have RA0:=hD (hra.below b0)
 have RB0:=hD (hrb.below b0)
 have hs0:=b0.size
 have lX0:=lt_of_block X0.out
 have lY0:=lt_of_block Y0.out
 have B0:=hD b0
 have HX:=hD hX
 have HW0:=hD hw0
 have HVS:=hD (fun W (ra:RdL W lo 1 Aq qs.length (strs qs)) (rb:RdT W lo' d Ab nb l)=>IsValidProgram_spec d lo lo' Aq cq qs l Ab nb cb W ra rb hm hz hsz)
 have HCK:=hD (fun W (ra:RdL W lo 1 Aq qs.length (strs qs)) (rb:RdT W lo' d Ab nb l)=>CheckProgram_spec d lo lo' Aq cq qs l Ab nb cb W ra hcq rb hm hz hsz)
 have hXw:w.heap.size≤X:=by omega
 obtain ⟨K,hK⟩:∃ K,K=ckP d qs l:=⟨_,rfl⟩
 have HK:=hD hK
 rw[←hK] at HCK
 clear hw0 b0 hra hrb hX hK
 obtain ⟨p0,p1⟩:=boxcells2 (lay:=Below.refl _ _) X0.out
 go_enter Try.func10,Try.ntmps10
 go_upto_region 1 with (fail)
 rw[←HW0.out,←HX.out]
 go_wp2_with fail
 refine(HCK.out w0 RA0.out RB0.out).mono ?_
 rintro e1 w1 ⟨rfl,b1,s1⟩
 have B1:=hD b1
 clear b1 p0 p1
 have RA1:=hD (RA0.out.below B1.out)
 have RB1:=hD (RB0.out.below B1.out)
 obtain ⟨p0,p1⟩:=boxcells2 (lay:=B1.out) X0.out
 have lX1:X<w1.heap.size:=by omega
 cases hv:progV d qs l
 ·have HF:Hid (elaP d qs l=⟨0,0,0,[],1⟩):=ela_bad (.inl hv)
  rw[hv] at HVS
  clear hv
  go_upto_region 3 with (go_at_call 23;refine(HVS.out w1 RA1.out RB1.out).mono ?_;rintro e2 w2 ⟨rfl,b2,s2⟩)
  have w2Y:=hD ((b2.block _ Zq1).trans ((B1.out.block _ lY0).trans Y0.out))
  obtain ⟨r0,r1,r2,r3⟩:=cells4E (w2Y.out)
  have f0:=free_at (j:=0) w2Y.out
  have f1:=free_at (j:=1) w2Y.out
  have f2:=free_at (j:=2) w2Y.out
  have f3:=free_at (j:=3) w2Y.out
  have lY:=lt_of_block w2Y.out
  go_wp2_with fail
  refine bodyPost_ret (v:=.tuple #[.agg #[.int .i64 0,.int .i64 0,.int .i64 0,.slice none 0 0],.int .i64 1]) (by simp [results,Try.results10,go_sem,r0,r1,r2,r3]) rfl ?_
  rw[HF.out]
  exact ⟨none,0,rfl,World.ownsRow_nil _ _ _ _,(B0.out.trans ((B1.out.trans (b2.mono B1.out.size)).mono hs0)).trans (setBelow4 Zq1)⟩
 ·rw[hv] at HVS
  have HVV:=hD hv
  clear hv
  by_cases hk0:K.1=0
  ·have HK0:=hD hk0
   rw[hk0]
   clear hk0
   go_upto_region 4 with (go_at_call 23;refine(HVS.out w1 RA1.out RB1.out).mono ?_;rintro e2 w2 ⟨rfl,b2,s2⟩)
   have B2:=hD (belE B1.out b2)
   clear p0 p1
   have RA2:=hD (RA1.out.below b2)
   have RB2:=hD (RB1.out.below b2)
   obtain ⟨p0,p1⟩:=boxcells2 (lay:=B2.out) X0.out
   have lX2:X<w2.heap.size:=by omega
   have lY2:X+1<w2.heap.size:=by omega
   clear b2
   obtain ⟨J0,hJ0⟩:∃ J:Array Value→Array Bool→Act→World→Prop,J=(fun A0 Lz a W=>∃ (g0:Nat) (An:Option Addr) (cn:Nat) (gE:Nat),∃ x22 x23 x24 x25 x26 x27 x28 x29 x30 x6:Value,a=⟨((((((((((A0.setIfInBounds 22 x22).setIfInBounds 23 x23).setIfInBounds 24 x24).setIfInBounds 25 x25).setIfInBounds 26 x26).setIfInBounds 27 x27).setIfInBounds 28 x28).setIfInBounds 29 x29).setIfInBounds 30 x30).setIfInBounds 6 x6),[]⟩∧(Ls Lz 0→(x22=.slice (some ⟨g0,0,none⟩) 0 0∧g0≠0))∧(Ls Lz 1→x23=.pointer (some ⟨X,0,none⟩))∧(Ls Lz 2→x24=.slice Aq qs.length cq)∧(Ls Lz 3→x25=.slice An qs.length cn)∧(Ls Lz 4→x26=.pointer (some ⟨X,0,none⟩))∧(Ls Lz 5→x27=.slice Aq qs.length cq)∧(Ls Lz 6→x28=.int .i64 (qs.length:Int))∧(Ls Lz 7→x29=.agg #[.slice An qs.length cn,.slice none 0 0,.int .i64 (qs.length:Int),.bool false])∧(Ls Lz 8→x30=.pointer (some ⟨gE,0,none⟩))∧(Ls Lz 9→(x6=.pointer (some ⟨gE,0,none⟩)∧(W.heap[gE]?=some (.cells #[.slice An qs.length cn,.slice none 0 0,.int .i64 (qs.length:Int),.bool false] 54 (0,0))∧w2.heap.size≤gE)∧W.ownsRow w2.heap.size 9 1 (.slice An qs.length cn) qs.length (strs qs)∧Below w2.heap.size w2 W))∧(Ls Lz 3→¬ Ls Lz 9→W.ownsRow w2.heap.size 9 1 (.slice An qs.length cn) qs.length (strs qs))∧(Ls Lz 8→¬ Ls Lz 9→(W.heap[gE]?=some (.cells #[.slice An qs.length cn,.slice none 0 0,.int .i64 (qs.length:Int),.bool false] 54 (0,0))∧w2.heap.size≤gE))∧(¬ Ls Lz 9→Below w2.heap.size w2 W)∧(Ls Lz 9→¬ Ls Lz 9→True)∧(¬ Ls Lz 3→(g0=0∨W.ownsRow w2.heap.size 9 1 (.slice (some ⟨g0,0,none⟩) 0 0) 0 []))):=⟨_,rfl⟩
   have HJ0:=hD hJ0
   clear hJ0
   refine wp_region_inv2 Zq3 J0 ?_ ?_ ?_
   ·intro A0
    rw[HJ0.out]
    exact ⟨0,none,0,0,A0.getD 22 undef,A0.getD 23 undef,A0.getD 24 undef,A0.getD 25 undef,A0.getD 26 undef,A0.getD 27 undef,A0.getD 28 undef,A0.getD 29 undef,A0.getD 30 undef,A0.getD 6 undef,by simp only[set_self],zn,zn,zn,zn,zn,zn,zn,zn,zn,zn,zn,zn,fun _=>below_drewE (Below.refl _ _),zn,fun _=>.inl rfl⟩
   ·intro Lz a W hsize hcl hJ i hi
    have hil:=ready_lt hi
    have hnl:=ready_not hi
    have hnow:=ready_now hi hsize
    have HCL:=hD hcl
    rw[HJ0.out] at hJ
    obtain ⟨g0,An,cn,gE,x22,x23,x24,x25,x26,x27,x28,x29,x30,x6,rfl,HF⟩:=hJ
    have HH:=hD HF
    have hi2:i=0∨i=1∨i=2∨i=3∨i=4∨i=5∨i=6∨i=7∨i=8∨i=9:=by simp at hil;omega
    clear hil hcl HF
    rcases hi2 with rfl|rfl|rfl|rfl|rfl|rfl|rfl|rfl|rfl|rfl
    ·have hns:¬ Ls Lz 9:=fun h=>hnl (dq HCL (dq HCL (dq HCL (dq HCL h 8) 7) 3) 0)
     have V0:=(pj12 HH.out) hns
     clear hi HCL
     simp only[zA,zB,zC]
     refine wpOp_one rfl rfl fun K hK=>?_
     go_wp2_with fail
     rw[HJ0.out]
     exact ⟨W.heap.size,An,cn,gE,.slice (some ⟨W.heap.size,0,none⟩) 0 0,x23,x24,x25,x26,x27,x28,x29,x30,x6,(by simp only[zA,zB,zC]),fun _=>⟨rfl,by have:=V0.size;omega⟩,zk HH,zk HH,zk HH,zk HH,zk HH,zk HH,zk HH,zk HH,Ba hns,(Bt (pj10 HH.out) fun x=>ownsRow_below x below_allocE),(Bt (pj11 HH.out) fun x=>below_heapE x below_allocE),fun h=>belE ((pj12 HH.out) (fun h2=>h h2.fwd)) below_allocE,Bb hns,fun h=>.inr (own_lowT (own_empty W _ _) V0.size)⟩
    ·clear hi HCL
     simp only[zA,zB,zC]
     refine wpOp_one rfl rfl fun K hK=>?_
     go_wp2_with fail
     rw[HJ0.out]
     exact ⟨g0,An,cn,gE,x22,.pointer (some ⟨X,0,none⟩),x24,x25,x26,x27,x28,x29,x30,x6,(by simp only[zA,zB,zC]),zT HH⟩
    ·have hns:¬ Ls Lz 9:=fun h=>hnl (dq HCL (dq HCL (dq HCL (dq HCL h 8) 7) 3) 2)
     have D1:=(pj1 HH.out) (rq hi 1)
     have V0:=(pj12 HH.out) hns
     clear hi HCL
     simp only[zA,zB,zC,D1]
     have q0:=(V0.cell (p:=⟨X,0,none⟩) lX2).trans p0
     refine wpOp_one rfl rfl fun K hK=>?_
     go_wp2_with fail
     rw[HJ0.out]
     exact ⟨g0,An,cn,gE,x22,x23,.slice Aq qs.length cq,x25,x26,x27,x28,x29,x30,x6,(by simp only[zA,zB,zC,D1]),zT HH⟩
    ·have hns:¬ Ls Lz 9:=fun h=>hnl (dq HCL (dq HCL (dq HCL h 8) 7) 3)
     have D0:=(pj0 HH.out) (rq hi 0)
     have D2:=(pj2 HH.out) (rq hi 2)
     have V0:=(pj12 HH.out) hns
     have hk7:¬ Ls Lz 7:=fun h=>hnl (dq HCL h 3)
     have hk8:¬ Ls Lz 8:=fun h=>hnl (dq HCL (dq HCL h 7) 3)
     have Hh0:=(pe14 HH.out) hnl
     clear hi HCL
     obtain ⟨D0,X0⟩:=D0
     simp only[zA,zB,zC,D0,D2]
     have hown0:=Hh0.resolve_left X0
     refine wpOp_one rfl rfl fun K hK=>?_
     simp only[List.getElem_toArray,List.getElem_cons_succ,List.getElem_cons_zero]
     refine wpList_append_rd _ rfl _ _ 24 rfl w2.heap.size 9 j0 _ 1 16 Try.underlying24 hj hy0 hy1 hy2 rfl Zq4 _ _ _ rfl hown0 _ qs.length _ _ rfl (RA2.out.below V0).rd ?c2 ?c3 ?c4 ?c5 ?_
     case c2=>exact fun u hu=>strs_oneE _ u hu
     case c3=>simp only[maxLen];omega
     case c4=>omega
     case c5=>exact V0.size
     intro v6 W6 own6 gr6 hat
     rw[Nat.zero_add] at own6
     obtain ⟨A8,c8,rfl,_,_,_⟩:=rd_of_own own6
     go_wp2_with fail
     rw[HJ0.out]
     exact ⟨g0,A8,c8,gE,x22,x23,x24,.slice A8 qs.length c8,x26,x27,x28,x29,x30,x6,(by first|(simp only[zA,zB,zC,D0,D2] <;> fail)|simp only[Act.put,zA,zB,zC,D0,D2]),zk HH,zk HH,zk HH,fun _=>rfl,zk HH,zk HH,zk HH,Ba hk7,Ba hk8,Ba hns,fun _ _=>own6,Bb hk8,fun h=>Below.grown ((pj12 HH.out) (fun h2=>h h2.fwd)) gr6 V0.size (own_ge hown0),Bb hns,zy hnow⟩
    ·clear hi HCL
     simp only[zA,zB,zC]
     refine wpOp_one rfl rfl fun K hK=>?_
     go_wp2_with fail
     rw[HJ0.out]
     exact ⟨g0,An,cn,gE,x22,x23,x24,x25,.pointer (some ⟨X,0,none⟩),x27,x28,x29,x30,x6,(by simp only[zA,zB,zC]),zT HH⟩
    ·have hns:¬ Ls Lz 9:=fun h=>hnl (dq HCL (dq HCL (dq HCL (dq HCL h 8) 7) 6) 5)
     have D4:=(pj4 HH.out) (rq hi 4)
     have V0:=(pj12 HH.out) hns
     clear hi HCL
     simp only[zA,zB,zC,D4]
     have q0:=(V0.cell (p:=⟨X,0,none⟩) lX2).trans p0
     refine wpOp_one rfl rfl fun K hK=>?_
     go_wp2_with fail
     rw[HJ0.out]
     exact ⟨g0,An,cn,gE,x22,x23,x24,x25,x26,.slice Aq qs.length cq,x28,x29,x30,x6,(by simp only[zA,zB,zC,D4]),zT HH⟩
    ·have D5:=(pj5 HH.out) (rq hi 5)
     clear hi HCL
     simp only[zA,zB,zC,D5]
     refine wpOp_one rfl rfl fun K hK=>?_
     go_wp2_with fail
     rw[HJ0.out]
     exact ⟨g0,An,cn,gE,x22,x23,x24,x25,x26,x27,.int .i64 (qs.length:Int),x29,x30,x6,(by simp only[zA,zB,zC,D5]),zT HH⟩
    ·have D3:=(pj3 HH.out) (rq hi 3)
     have D6:=(pj6 HH.out) (rq hi 6)
     clear hi HCL
     simp only[zA,zB,zC,D3,D6]
     refine wpOp_one rfl rfl fun K hK=>?_
     go_wp2_with fail
     rw[HJ0.out]
     exact ⟨g0,An,cn,gE,x22,x23,x24,x25,x26,x27,x28,.agg #[.slice An qs.length cn,.slice none 0 0,.int .i64 (qs.length:Int),.bool false],x30,x6,(by simp only[zA,zB,zC,D3,D6]),zT HH⟩
    ·have hns:¬ Ls Lz 9:=fun h=>hnl (dq HCL h 8)
     have D7:=(pj7 HH.out) (rq hi 7)
     have V0:=(pj12 HH.out) hns
     have hp3:Ls Lz 3:=(dq HCL (rq hi 7) 3)
     clear hi HCL
     simp only[zA,zB,zC,D7]
     refine wpOp_one rfl rfl fun K hK=>?_
     go_wp2_with fail
     rw[HJ0.out]
     exact ⟨g0,An,cn,W.heap.size,x22,x23,x24,x25,x26,x27,x28,x29,.pointer (some ⟨W.heap.size,0,none⟩),x6,(by simp only[zA,zB,zC,D7]),zk HH,zk HH,zk HH,zk HH,zk HH,zk HH,zk HH,zk HH,fun _=>rfl,Ba hns,(Bt (pj10 HH.out) fun x=>ownsRow_below x below_allocE),fun _ _=>⟨heap_alloc_new W _,V0.size⟩,fun h=>belE ((pj12 HH.out) (fun h2=>h h2.fwd)) below_allocE,Bb hns,fun h=>absurd (Ls.fwd hp3) h⟩
    ·have hns:¬ Ls Lz 9:=hnl
     have D8:=(pj8 HH.out) (rq hi 8)
     have E8:=(pj11 HH.out) (rq hi 8) hns
     have E3:=(pj10 HH.out) (dq HCL (dq HCL (rq hi 8) 7) 3) hns
     have V0:=(pj12 HH.out) hns
     have hp3:Ls Lz 3:=(dq HCL (dq HCL (rq hi 8) 7) 3)
     clear hi HCL
     simp only[zA,zB,zC,D8]
     refine wpOp_one rfl rfl fun K hK=>?_
     go_wp2_with fail
     rw[HJ0.out]
     exact ⟨g0,An,cn,gE,x22,x23,x24,x25,x26,x27,x28,x29,x30,.pointer (some ⟨gE,0,none⟩),(by first|(simp only[zA,zB,zC,D8] <;> fail)|simp only[Act.put,zA,zB,zC,D8]),zk HH,zk HH,zk HH,zk HH,zk HH,zk HH,zk HH,zk HH,zk HH,fun _=>⟨rfl,E8,E3,V0⟩,zx hnow,zx hnow,zy hnow,zx hnow,fun h=>absurd (Ls.fwd hp3) h⟩
   ·intro Lz a W hsize hJ hr
    rw[HJ0.out] at hJ
    have hall:=all_listed hsize Zq3 hr
    obtain ⟨g0,An,cn,gE,x22,x23,x24,x25,x26,x27,x28,x29,x30,x6,rfl,HF⟩:=hJ
    have HH:=hD HF
    have HEND:=(pj9 HH.out) (hall 9 Zq4)
    clear HF HH hall hr hsize
    simp only[zA,zB,zC]
    obtain ⟨rfl,⟨hh3,hg3⟩,ho3,hb3⟩:=HEND
    obtain ⟨w3,rfl⟩:∃ w3:World,w3=W:=⟨_,rfl⟩
    have hs3:=hb3.size
    have hne:∀ k,(Value.slice An qs.length cn).ownBlock=some k→k≠gE:=fun k hk e=>own_ne_typeG ho3 hh3 Zq4 (by rw[hk,e])
    have EN3:=hD (show EnvS w3 gE (fun b=>b≠gE) qs ⟨[],qs.length,false⟩ from ⟨An,qs.length,cn,none,0,0,hh3,rfl,own_rdNe ho3 hne,rfl,⟨rfl,fun h=>absurd h Zq1⟩⟩)
    have p1:=(hb3.cell (p:=⟨X,1,none⟩) lX2).trans p1
    have p0:=(hb3.cell (p:=⟨X,0,none⟩) lX2).trans p0
    have hgl:=lt_of_block hh3
    have TQ3:=hD (rdT_trq (P:=fun b=>b≠gE) (fun b _ hb=>by omega) RB2.out)
    have TQ3:=hD (TrQ.keep (fun b _ hl=>hb3.block b hl) hb3.size TQ3.out)
    have B3:=hD (B2.out.trans (hb3.mono B2.out.size))
    have lX3:X<w3.heap.size:=by omega
    have lY3:X+1<w3.heap.size:=by omega
    obtain ⟨R,hR⟩:∃ R,R=sA d l qs ⟨[],qs.length,false⟩:=⟨_,rfl⟩
    have HR:=hD hR
    have hRL:R.1.length≤2000:=by rw[hR];exact sA_len _ _ _ _
    have hRB:R.2.bits.length≤1048577:=by rw[hR];have:=sA_bits d l qs ⟨[],qs.length,false⟩;have e:(⟨[],qs.length,false⟩:Es).bits.length=0:=rfl;omega
    obtain ⟨⟨_,hq4⟩,hn4,_⟩:=progV_allE HVV.out
    have HALL:=hD (allS_all d (fun b=>b≠gE) l Ab nb cb gE qs ⟨[],qs.length,false⟩ w3 TQ3.out (progV_validC HVV.out) (fun h=>h rfl) EN3.out Zq1 (by show 0+szT d l≤_;omega))
    rw[←hR] at HALL
    clear hh3 ho3 hb3 hne hR
    go_wp2_with fail
    refine HALL.out.mono ?_
    rintro e4 w4 ⟨v4,rfl,ho4,hen4,hg4⟩
    obtain ⟨A4,c4,rfl,_,_,rr4⟩:=rd_of_own ho4
    have hs4:=hg4.size
    obtain ⟨An4,nn4,cn4,Bn,nbb,cbb,hh4,hz4,hr4,hbl4,hb4⟩:=id hen4
    clear hz4 hr4 hb4
    have y1:=cell_at (j:=1) hh4 rfl
    have y2:=cell_at (j:=2) hh4 rfl
    have y3:=cell_at (j:=3) hh4 rfl
    have lE4:=lt_of_block hh4
    have hXg:X≠gE:=by omega
    have p0:=(gr_cell (o:=0) hg4 lX3 hXg).trans p0
    have lX4:X<w4.heap.size:=by omega
    have hgr4:Below w0.heap.size w0 w4:=B3.out.trans (grown_below hg4 B3.out.size (fun k hk=>by injection hk with hk;omega))
    have B4:=hD hgr4
    have O4:=hD ho4
    have RR4:=hD rr4
    have HBL:=hD hbl4
    have HH4:=hD hh4
    clear ho4 hen4 hg4 hh4 rr4 hbl4 hgr4 HALL p1
    go_upto_region 6 with (fail)
    obtain ⟨J0,hJ0⟩:∃ J:Array Value→Array Bool→Act→World→Prop,J=(fun A0 Lz a W=>∃ (g0:Nat),∃ x35 x36 x37 x38 x39 x40 x41 x42 x43 x44 x45 x46 x47 x48 x8:Value,a=⟨(((((((((((((((A0.setIfInBounds 35 x35).setIfInBounds 36 x36).setIfInBounds 37 x37).setIfInBounds 38 x38).setIfInBounds 39 x39).setIfInBounds 40 x40).setIfInBounds 41 x41).setIfInBounds 42 x42).setIfInBounds 43 x43).setIfInBounds 44 x44).setIfInBounds 45 x45).setIfInBounds 46 x46).setIfInBounds 47 x47).setIfInBounds 48 x48).setIfInBounds 8 x8),[]⟩∧(Ls Lz 0→x35=.pointer (some ⟨gE,0,none⟩))∧(Ls Lz 1→x36=.pointer (some ⟨gE,0,none⟩))∧(Ls Lz 2→x37=.pointer (some ⟨gE,2,none⟩))∧(Ls Lz 3→x38=.int .i64 (R.2.most:Int))∧(Ls Lz 4→x39=.pointer (some ⟨X,0,none⟩))∧(Ls Lz 5→x40=.slice Aq qs.length cq)∧(Ls Lz 6→x41=.int .i64 (qs.length:Int))∧(Ls Lz 7→x42=.pointer (some ⟨gE,0,none⟩))∧(Ls Lz 8→x43=.pointer (some ⟨gE,0,none⟩))∧(Ls Lz 9→x44=.pointer (some ⟨gE,1,none⟩))∧(Ls Lz 10→x45=.slice Bn nbb cbb)∧(Ls Lz 11→x46=.int .i64 (nbb:Int))∧(Ls Lz 12→x47=.slice A4 R.1.length c4)∧(Ls Lz 13→x48=.agg #[.int .i64 (R.2.most:Int),.int .i64 (qs.length:Int),.int .i64 (nbb:Int),.slice A4 R.1.length c4])∧(Ls Lz 14→x8=.pointer (some ⟨g0,0,none⟩))∧(Ls Lz 15→(x8=.pointer (some ⟨g0,0,none⟩)∧W.heap[g0]?=some (.cells #[.int .i64 (R.2.most:Int),.int .i64 (qs.length:Int),.int .i64 (nbb:Int),.slice A4 R.1.length c4] 33 (0,0))∧w4.heap.size≤g0∧Below w4.heap.size w4 W))∧(Ls Lz 14→¬ Ls Lz 15→(W.heap[g0]?=some (.cells #[.int .i64 0,.int .i64 0,.int .i64 0,.slice none 0 0] 33 (0,0))∧w4.heap.size≤g0))∧(¬ Ls Lz 15→Below w4.heap.size w4 W)∧(Ls Lz 15→¬ Ls Lz 15→True)):=⟨_,rfl⟩
    have HJ0:=hD hJ0
    clear hJ0
    refine wp_region_inv2 Zq3 J0 ?_ ?_ ?_
    ·intro A0
     rw[HJ0.out]
     exact ⟨0,A0.getD 35 undef,A0.getD 36 undef,A0.getD 37 undef,A0.getD 38 undef,A0.getD 39 undef,A0.getD 40 undef,A0.getD 41 undef,A0.getD 42 undef,A0.getD 43 undef,A0.getD 44 undef,A0.getD 45 undef,A0.getD 46 undef,A0.getD 47 undef,A0.getD 48 undef,A0.getD 8 undef,by simp only[set_self],zn,zn,zn,zn,zn,zn,zn,zn,zn,zn,zn,zn,zn,zn,zn,zn,zn,fun _=>below_drewE (Below.refl _ _),zn⟩
    ·intro Lz a W hsize hcl hJ i hi
     have hil:=ready_lt hi
     have hnl:=ready_not hi
     have hnow:=ready_now hi hsize
     have HCL:=hD hcl
     rw[HJ0.out] at hJ
     obtain ⟨g0,x35,x36,x37,x38,x39,x40,x41,x42,x43,x44,x45,x46,x47,x48,x8,rfl,HF⟩:=hJ
     have HH:=hD HF
     have hi2:i=0∨i=1∨i=2∨i=3∨i=4∨i=5∨i=6∨i=7∨i=8∨i=9∨i=10∨i=11∨i=12∨i=13∨i=14∨i=15:=by simp at hil;omega
     clear hil hcl HF
     rcases hi2 with rfl|rfl|rfl|rfl|rfl|rfl|rfl|rfl|rfl|rfl|rfl|rfl|rfl|rfl|rfl|rfl
     ·clear hi HCL
      simp only[zA,zB,zC]
      refine wpOp_one rfl rfl fun K hK=>?_
      go_wp2_with fail
      rw[HJ0.out]
      exact ⟨g0,.pointer (some ⟨gE,0,none⟩),x36,x37,x38,x39,x40,x41,x42,x43,x44,x45,x46,x47,x48,x8,(by simp only[zA,zB,zC]),zT HH⟩
     ·have D0:=(pj0 HH.out) (rq hi 0)
      clear hi HCL
      simp only[zA,zB,zC,D0]
      refine wpOp_one rfl rfl fun K hK=>?_
      go_wp2_with fail
      rw[HJ0.out]
      exact ⟨g0,x35,.pointer (some ⟨gE,0,none⟩),x37,x38,x39,x40,x41,x42,x43,x44,x45,x46,x47,x48,x8,(by simp only[zA,zB,zC,D0]),zT HH⟩
     ·have D1:=(pj1 HH.out) (rq hi 1)
      clear hi HCL
      simp only[zA,zB,zC,D1]
      refine wpOp_one rfl rfl fun K hK=>?_
      go_wp2_with fail
      rw[HJ0.out]
      exact ⟨g0,x35,x36,.pointer (some ⟨gE,2,none⟩),x38,x39,x40,x41,x42,x43,x44,x45,x46,x47,x48,x8,(by simp only[zA,zB,zC,D1]),zT HH⟩
     ·have hns:¬ Ls Lz 15:=fun h=>hnl (dq HCL (dq HCL h 13) 3)
      have D2:=(pj2 HH.out) (rq hi 2)
      have V0:=(pj17 HH.out) hns
      clear hi HCL
      simp only[zA,zB,zC,D2]
      have q0:=(V0.cell (p:=⟨gE,2,none⟩) lE4).trans y2
      refine wpOp_one rfl rfl fun K hK=>?_
      go_wp2_with fail
      rw[HJ0.out]
      exact ⟨g0,x35,x36,x37,.int .i64 (R.2.most:Int),x39,x40,x41,x42,x43,x44,x45,x46,x47,x48,x8,(by simp only[zA,zB,zC,D2]),zT HH⟩
     ·clear hi HCL
      simp only[zA,zB,zC]
      refine wpOp_one rfl rfl fun K hK=>?_
      go_wp2_with fail
      rw[HJ0.out]
      exact ⟨g0,x35,x36,x37,x38,.pointer (some ⟨X,0,none⟩),x40,x41,x42,x43,x44,x45,x46,x47,x48,x8,(by simp only[zA,zB,zC]),zT HH⟩
     ·have hns:¬ Ls Lz 15:=fun h=>hnl (dq HCL (dq HCL (dq HCL h 13) 6) 5)
      have D4:=(pj4 HH.out) (rq hi 4)
      have V0:=(pj17 HH.out) hns
      clear hi HCL
      simp only[zA,zB,zC,D4]
      have q0:=(V0.cell (p:=⟨X,0,none⟩) lX4).trans p0
      refine wpOp_one rfl rfl fun K hK=>?_
      go_wp2_with fail
      rw[HJ0.out]
      exact ⟨g0,x35,x36,x37,x38,x39,.slice Aq qs.length cq,x41,x42,x43,x44,x45,x46,x47,x48,x8,(by simp only[zA,zB,zC,D4]),zT HH⟩
     ·have D5:=(pj5 HH.out) (rq hi 5)
      clear hi HCL
      simp only[zA,zB,zC,D5]
      refine wpOp_one rfl rfl fun K hK=>?_
      go_wp2_with fail
      rw[HJ0.out]
      exact ⟨g0,x35,x36,x37,x38,x39,x40,.int .i64 (qs.length:Int),x42,x43,x44,x45,x46,x47,x48,x8,(by simp only[zA,zB,zC,D5]),zT HH⟩
     ·clear hi HCL
      simp only[zA,zB,zC]
      refine wpOp_one rfl rfl fun K hK=>?_
      go_wp2_with fail
      rw[HJ0.out]
      exact ⟨g0,x35,x36,x37,x38,x39,x40,x41,.pointer (some ⟨gE,0,none⟩),x43,x44,x45,x46,x47,x48,x8,(by simp only[zA,zB,zC]),zT HH⟩
     ·have D7:=(pj7 HH.out) (rq hi 7)
      clear hi HCL
      simp only[zA,zB,zC,D7]
      refine wpOp_one rfl rfl fun K hK=>?_
      go_wp2_with fail
      rw[HJ0.out]
      exact ⟨g0,x35,x36,x37,x38,x39,x40,x41,x42,.pointer (some ⟨gE,0,none⟩),x44,x45,x46,x47,x48,x8,(by simp only[zA,zB,zC,D7]),zT HH⟩
     ·have D8:=(pj8 HH.out) (rq hi 8)
      clear hi HCL
      simp only[zA,zB,zC,D8]
      refine wpOp_one rfl rfl fun K hK=>?_
      go_wp2_with fail
      rw[HJ0.out]
      exact ⟨g0,x35,x36,x37,x38,x39,x40,x41,x42,x43,.pointer (some ⟨gE,1,none⟩),x45,x46,x47,x48,x8,(by simp only[zA,zB,zC,D8]),zT HH⟩
     ·have hns:¬ Ls Lz 15:=fun h=>hnl (dq HCL (dq HCL (dq HCL h 13) 11) 10)
      have D9:=(pj9 HH.out) (rq hi 9)
      have V0:=(pj17 HH.out) hns
      clear hi HCL
      simp only[zA,zB,zC,D9]
      have q0:=(V0.cell (p:=⟨gE,1,none⟩) lE4).trans y1
      refine wpOp_one rfl rfl fun K hK=>?_
      go_wp2_with fail
      rw[HJ0.out]
      exact ⟨g0,x35,x36,x37,x38,x39,x40,x41,x42,x43,x44,.slice Bn nbb cbb,x46,x47,x48,x8,(by simp only[zA,zB,zC,D9]),zT HH⟩
     ·have D10:=(pj10 HH.out) (rq hi 10)
      clear hi HCL
      simp only[zA,zB,zC,D10]
      refine wpOp_one rfl rfl fun K hK=>?_
      go_wp2_with fail
      rw[HJ0.out]
      exact ⟨g0,x35,x36,x37,x38,x39,x40,x41,x42,x43,x44,x45,.int .i64 (nbb:Int),x47,x48,x8,(by simp only[zA,zB,zC,D10]),zT HH⟩
     ·clear hi HCL
      simp only[zA,zB,zC]
      refine wpOp_one rfl rfl fun K hK=>?_
      go_wp2_with fail
      rw[HJ0.out]
      exact ⟨g0,x35,x36,x37,x38,x39,x40,x41,x42,x43,x44,x45,x46,.slice A4 R.1.length c4,x48,x8,(by simp only[zA,zB,zC]),zT HH⟩
     ·have D3:=(pj3 HH.out) (rq hi 3)
      have D6:=(pj6 HH.out) (rq hi 6)
      have D11:=(pj11 HH.out) (rq hi 11)
      have D12:=(pj12 HH.out) (rq hi 12)
      clear hi HCL
      simp only[zA,zB,zC,D3,D6,D11,D12]
      refine wpOp_one rfl rfl fun K hK=>?_
      go_wp2_with fail
      rw[HJ0.out]
      exact ⟨g0,x35,x36,x37,x38,x39,x40,x41,x42,x43,x44,x45,x46,x47,.agg #[.int .i64 (R.2.most:Int),.int .i64 (qs.length:Int),.int .i64 (nbb:Int),.slice A4 R.1.length c4],x8,(by simp only[zA,zB,zC,D3,D6,D11,D12]),zT HH⟩
     ·have hns:¬ Ls Lz 15:=fun h=>hnl (dq HCL h 14)
      have V0:=(pj17 HH.out) hns
      clear hi HCL
      simp only[zA,zB,zC]
      refine wpOp_one rfl rfl fun K hK=>?_
      go_wp2_with fail
      rw[HJ0.out]
      exact ⟨W.heap.size,x35,x36,x37,x38,x39,x40,x41,x42,x43,x44,x45,x46,x47,x48,.pointer (some ⟨W.heap.size,0,none⟩),(by simp only[zA,zB,zC]),zk HH,zk HH,zk HH,zk HH,zk HH,zk HH,zk HH,zk HH,zk HH,zk HH,zk HH,zk HH,zk HH,zk HH,fun _=>rfl,Ba hns,fun _ _=>⟨heap_alloc_new W _,V0.size⟩,fun h=>belE ((pj17 HH.out) (fun h2=>h h2.fwd)) below_allocE,Bb hns⟩
     ·have hns:¬ Ls Lz 15:=hnl
      have D13:=(pj13 HH.out) (rq hi 13)
      have D14:=(pj14 HH.out) (rq hi 14)
      have E14:=(pj16 HH.out) (rq hi 14) hns
      have V0:=(pj17 HH.out) hns
      clear hi HCL
      simp only[zA,zB,zC,D13,D14]
      have q0:=cell_at (j:=0) E14.1 rfl
      have q1:=cell_at (j:=1) E14.1 rfl
      have q2:=cell_at (j:=2) E14.1 rfl
      have q3:=cell_at (j:=3) E14.1 rfl
      have f0:=free_at (j:=0) E14.1
      have f1:=free_at (j:=1) E14.1
      have f2:=free_at (j:=2) E14.1
      have f3:=free_at (j:=3) E14.1
      have lg:=lt_of_block E14.1
      have HE:=hD E14
      clear E14
      refine wpOp_one rfl rfl fun K hK=>?_
      go_wp2_with fail
      rw[HJ0.out]
      exact ⟨g0,x35,x36,x37,x38,x39,x40,x41,x42,x43,x44,x45,x46,x47,x48,x8,(by first|(simp only[zA,zB,zC,D13,D14] <;> fail)|simp only[Act.put,zA,zB,zC,D13,D14]),zk HH,zk HH,zk HH,zk HH,zk HH,zk HH,zk HH,zk HH,zk HH,zk HH,zk HH,zk HH,zk HH,zk HH,zk HH,fun _=>⟨D14,heap_set4E HE.out.1,HE.out.2,below_set4E V0 HE.out.2⟩,zx hnow,zy hnow,zx hnow⟩
    ·intro Lz a W hsize hJ hr
     rw[HJ0.out] at hJ
     have hall:=all_listed hsize Zq3 hr
     obtain ⟨g0,x35,x36,x37,x38,x39,x40,x41,x42,x43,x44,x45,x46,x47,x48,x8,rfl,HF⟩:=hJ
     have HH:=hD HF
     have HEND:=(pj15 HH.out) (hall 15 Zq4)
     clear HF HH hall hr hsize
     simp only[zA,zB,zC]
     obtain ⟨rfl,hh5,hg5,hb5⟩:=HEND
     obtain ⟨w5,rfl⟩:∃ w5:World,w5=W:=⟨_,rfl⟩
     have hs5:=hb5.size
     have B5:=hD (B4.out.trans (hb5.mono B4.out.size))
     have y3:=(hb5.cell (p:=⟨gE,3,none⟩) lE4).trans y3
     have HH5:=hD hh5
     have RR5:=hD (RR4.out.below hb5)
     have O5:=hD (ownsRow_below O4.out hb5)
     have w5Y:=hD ((B5.out.block _ lY0).trans Y0.out)
     have lE5:gE<w5.heap.size:=by omega
     have HE:=hD ((ela_spec HVV.out (by rw[←HK.out];exact HK0.out)).trans (by rw[←HR.out]))
     clear hh5 hb5 y1 y2 p0
     cases hbad:R.2.bad
     ·rw[hbad] at y3
      have HBD:=hD hbad
      clear hbad
      obtain ⟨q0,q1,q2,q3⟩:=cells4E HH5.out
      by_cases hgc:60<gcount R.1
      ·have d1:decide ((60:Int)<(gcount R.1:Int))=true:=decide_eq_true Zq1
       have HF:Hid (elaP d qs l=⟨0,0,0,[],2⟩):=by show _=_;rw[HE.out];exact finR_bad (.inr (.inl hgc))
       clear hgc
       go_upto_region 8 with (go_at_call 11;refine(RoutineGateCount_spec _ _ _ _ _ _ R.1 w5 RR5.out rfl Zq1).mono ?_;rintro e6 w6 ⟨rfl,b6,s6⟩)
       have w6Y:=hD ((b6.block _ Zq1).trans w5Y.out)
       obtain ⟨r0,r1,r2,r3⟩:=cells4E (w6Y.out)
       have f0:=free_at (j:=0) w6Y.out
       have f1:=free_at (j:=1) w6Y.out
       have f2:=free_at (j:=2) w6Y.out
       have f3:=free_at (j:=3) w6Y.out
       have lY:=lt_of_block w6Y.out
       go_wp2_with fail
       refine bodyPost_ret (v:=.tuple #[.agg #[.int .i64 0,.int .i64 0,.int .i64 0,.slice none 0 0],.int .i64 2]) (by simp [results,Try.results10,go_sem,r0,r1,r2,r3]) rfl ?_
       rw[HF.out]
       exact ⟨none,0,rfl,World.ownsRow_nil _ _ _ _,(B0.out.trans ((B5.out.trans (b6.mono B5.out.size)).mono hs0)).trans (setBelow4 Zq1)⟩
      ·have d1:decide ((60:Int)<(gcount R.1:Int))=false:=decide_eq_false Zq1
       cases hvr:validRt R.2.most qs.length nbb R.1
       ·have HF:Hid (elaP d qs l=⟨0,0,0,[],2⟩):=by show _=_;rw[HE.out];exact finR_bad (.inr (.inr (by rw[HBL.out];exact hvr)))
        have HVR:=hD (fun W (h:Rd W 8 A4 R.1.length (R.1.flatMap ocells))=>IsValidRoutine_spec (R.2.most:Int) (qs.length:Int) (nbb:Int) A4 R.1.length c4 R.1 W h rfl Zq1)
        rw[hvr] at HVR
        clear hgc hvr
        go_upto_region 8 with (first|(go_at_call 11;refine(RoutineGateCount_spec _ _ _ _ _ _ R.1 w5 RR5.out rfl Zq1).mono ?_;rintro e6 w6 ⟨rfl,b6,s6⟩;have lg6:=b6.size;obtain ⟨u0,u1,u2,u3⟩:=cells4E ((b6.block _ (lt_of_block HH5.out)).trans HH5.out))|(go_at_call 25;refine(HVR.out w6 (RR5.out.below b6)).mono ?_;rintro e7 w7 ⟨rfl,b7,s7⟩))
        have w7Y:=hD ((b7.block _ Zq1).trans ((b6.block _ Zq1).trans w5Y.out))
        obtain ⟨r0,r1,r2,r3⟩:=cells4E (w7Y.out)
        have f0:=free_at (j:=0) w7Y.out
        have f1:=free_at (j:=1) w7Y.out
        have f2:=free_at (j:=2) w7Y.out
        have f3:=free_at (j:=3) w7Y.out
        have lY:=lt_of_block w7Y.out
        go_wp2_with fail
        refine bodyPost_ret (v:=.tuple #[.agg #[.int .i64 0,.int .i64 0,.int .i64 0,.slice none 0 0],.int .i64 2]) (by simp [results,Try.results10,go_sem,r0,r1,r2,r3]) rfl ?_
        rw[HF.out]
        exact ⟨none,0,rfl,World.ownsRow_nil _ _ _ _,(B0.out.trans ((B5.out.trans ((b6.trans (b7.mono b6.size)).mono B5.out.size)).mono hs0)).trans (setBelow4 Zq1)⟩
       ·have HF:Hid (elaP d qs l=⟨R.2.most,qs.length,nbb,R.1,0⟩):=by show _=_;rw[HE.out,←HBL.out];exact finR_good HBD.out hgc (by rw[HBL.out];exact hvr)
        have HVR:=hD (fun W (h:Rd W 8 A4 R.1.length (R.1.flatMap ocells))=>IsValidRoutine_spec (R.2.most:Int) (qs.length:Int) (nbb:Int) A4 R.1.length c4 R.1 W h rfl Zq1)
        rw[hvr] at HVR
        clear hgc hvr
        go_upto_region 9 with (first|(go_at_call 11;refine(RoutineGateCount_spec _ _ _ _ _ _ R.1 w5 RR5.out rfl Zq1).mono ?_;rintro e6 w6 ⟨rfl,b6,s6⟩;have lg6:=b6.size;obtain ⟨u0,u1,u2,u3⟩:=cells4E ((b6.block _ (lt_of_block HH5.out)).trans HH5.out))|(go_at_call 25;refine(HVR.out w6 (RR5.out.below b6)).mono ?_;rintro e7 w7 ⟨rfl,b7,s7⟩))
        have w7Y:=hD ((b7.block _ Zq1).trans ((b6.block _ Zq1).trans w5Y.out))
        have w7G:=hD ((b7.block _ (by have:=lt_of_block HH5.out;omega)).trans ((b6.block _ (lt_of_block HH5.out)).trans HH5.out))
        have B7:=hD (B5.out.trans ((b6.trans (b7.mono b6.size)).mono B5.out.size))
        have O7:=hD (ownsRow_below (ownsRow_below O5.out b6) b7)
        clear q0 q1 q2 q3 u0 u1 u2 u3 b6 b7
        obtain ⟨q0,q1,q2,q3⟩:=cells4E w7G.out
        obtain ⟨r0,r1,r2,r3⟩:=cells4E w7Y.out
        have f0:=free_at (j:=0) w7Y.out
        have f1:=free_at (j:=1) w7Y.out
        have f2:=free_at (j:=2) w7Y.out
        have f3:=free_at (j:=3) w7Y.out
        have lY:=lt_of_block w7Y.out
        have lG:=lt_of_block w7G.out
        go_wp2_with fail
        refine bodyPost_ret (v:=.tuple #[.agg #[.int .i64 (R.2.most:Int),.int .i64 (qs.length:Int),.int .i64 (nbb:Int),.slice A4 R.1.length c4],.int .i64 0]) (by simp [results,Try.results10,go_sem,r0,r1,r2,r3]) rfl ?_
        rw[HF.out]
        exact ⟨A4,c4,rfl,own_lowT (own_drawG O7.out (grE (grE (grE (setE _) (setE _)) (setE _)) (setE _)) Zq1) Zq1,(B0.out.trans (B7.out.mono hs0)).trans (setBelow4 Zq1)⟩
     ·rw[hbad] at y3
      have HF:Hid (elaP d qs l=⟨0,0,0,[],2⟩):=by show _=_;rw[HE.out];exact finR_bad (.inl hbad)
      clear hbad
      go_upto_region 8 with (fail)
      obtain ⟨r0,r1,r2,r3⟩:=cells4E (w5Y.out)
      have f0:=free_at (j:=0) w5Y.out
      have f1:=free_at (j:=1) w5Y.out
      have f2:=free_at (j:=2) w5Y.out
      have f3:=free_at (j:=3) w5Y.out
      have lY:=lt_of_block w5Y.out
      go_wp2_with fail
      refine bodyPost_ret (v:=.tuple #[.agg #[.int .i64 0,.int .i64 0,.int .i64 0,.slice none 0 0],.int .i64 2]) (by simp [results,Try.results10,go_sem,r0,r1,r2,r3]) rfl ?_
      rw[HF.out]
      exact ⟨none,0,rfl,World.ownsRow_nil _ _ _ _,(B0.out.trans (B5.out.mono hs0)).trans (setBelow4 Zq1)⟩
  ·have d0:(K.1==0)=false:=beq_eq_false_iff_ne.2 hk0
   have HF:Hid (elaP d qs l=⟨0,0,0,[],1⟩):=ela_bad (.inr (by rw[←HK.out];exact hk0))
   clear hk0
   go_upto_region 3 with (go_at_call 23;refine(HVS.out w1 RA1.out RB1.out).mono ?_;rintro e2 w2 ⟨rfl,b2,s2⟩)
   have w2Y:=hD ((b2.block _ Zq1).trans ((B1.out.block _ lY0).trans Y0.out))
   obtain ⟨r0,r1,r2,r3⟩:=cells4E (w2Y.out)
   have f0:=free_at (j:=0) w2Y.out
   have f1:=free_at (j:=1) w2Y.out
   have f2:=free_at (j:=2) w2Y.out
   have f3:=free_at (j:=3) w2Y.out
   have lY:=lt_of_block w2Y.out
   go_wp2_with fail
   refine bodyPost_ret (v:=.tuple #[.agg #[.int .i64 0,.int .i64 0,.int .i64 0,.slice none 0 0],.int .i64 1]) (by simp [results,Try.results10,go_sem,r0,r1,r2,r3]) rfl ?_
   rw[HF.out]
   exact ⟨none,0,rfl,World.ownsRow_nil _ _ _ _,(B0.out.trans ((B1.out.trans (b2.mono B1.out.size)).mono hs0)).trans (setBelow4 Zq1)⟩
def argAt (h:SH):ByteArray:=h.args.getD 1 ⟨#[]⟩
def newB (h:SH) (out:List ByteArray):Bool:=decide (h.k=6)&&(decide (1<h.args.length)&&!hasS out (argAt h))
def bits1 (h:SH) (out:List ByteArray):List ByteArray:=if newB h out then out++[argAt h] else out
def bitsT:(d:Nat)→List (Tr d)→List ByteArray→List ByteArray
 | 0,_,out=>out
 | d+1,l,out=>l.foldl (fun o s=>bitsT d (bdT s) (bits1 (hdT s) o)) out
theorem bits1_t {h:SH} {out:List ByteArray} (e:newB h out=true):bits1 h out=out++[argAt h]:=if_pos e
theorem bits1_f {h:SH} {out:List ByteArray} (e:newB h out=false):bits1 h out=out:=if_neg (by simp [e])
theorem bits1_len (h:SH) (out:List ByteArray):(bits1 h out).length≤out.length+1:=by unfold bits1;split <;> simp
theorem bitsT_step {d:Nat} (l:List (Tr (d+1))) (t:Nat) (s:Tr (d+1)) (out:List ByteArray) (h:l[t]?=some s):bitsT (d+1) (l.take (t+1)) out=bitsT d (bdT s) (bits1 (hdT s) (bitsT (d+1) (l.take t) out)):=by
 rw[List.take_add_one,h]
 simp [bitsT,List.foldl_append]
theorem bitsT_len:∀ (d:Nat) (l:List (Tr d)) (out:List ByteArray),(bitsT d l out).length≤out.length+szT d l:=by
 intro d
 induction d with
 | zero=>intro l out;exact Nat.le_add_right _ _
 | succ d ih =>
  intro l
  rw[szT_succ]
  unfold sumE
  induction l with
  | nil=>intro out;simp [bitsT]
  | cons s l ih2 =>
   intro out
   have h1:=ih2 (bitsT d (bdT s) (bits1 (hdT s) out))
   have h2:=ih (bdT s) (bits1 (hdT s) out)
   have h3:=bits1_len (hdT s) out
   have h4:szE s=(hdT s).word.size+((hdT s).args.length+szS (hdT s).args+szT d (bdT s)):=rfl
   have e:bitsT (d+1) (s :: l) out=bitsT (d+1) l (bitsT d (bdT s) (bits1 (hdT s) out)):=rfl
   rw[e]
   simp only[List.map_cons,List.sum_cons,List.length_cons]
   omega
theorem argAt_of {h:SH} (hl:1<h.args.length):h.args[1]?=some (argAt h):=by
 unfold argAt
 rw[List.getD_eq_getElem?_getD,List.getElem?_eq_getElem hl]
 rfl
def OutS (w:World) (base:Nat) (v:Value) (out:List ByteArray):Prop:=w.ownsRow base 9 1 v out.length (strs out)
theorem gcount_app (a b:List Opt):gcount (a++b)=gcount a+gcount b:=by
 induction a with
 | nil=>simp [gcount]
 | cons x a ih=>simp only[List.cons_append,gcount,ih];omega
theorem gcount_rep (l:List Opt) (t:Nat):gcount (repO l t)=t*gcount l:=by
 induction t with
 | zero=>simp [repO,gcount]
 | succ t ih =>
  have e:repO l (t+1)=l++repO l t:=by unfold repO;rw[List.replicate_succ,List.flatten_cons]
  rw[e,gcount_app,ih,Nat.succ_mul,Nat.add_comm]
theorem gcount_map {f:Opt→Opt} (hf:∀ o,(f o).k=o.k) (l:List Opt):gcount (l.map f)=gcount l:=by
 induction l with
 | nil=>rfl
 | cons x l ih=>simp only[List.map_cons,gcount,ih,hf]
theorem gcount_rev (l:List Opt):gcount l.reverse=gcount l:=by
 induction l with
 | nil=>rfl
 | cons x l ih =>
  rw[List.reverse_cons,gcount_app,ih]
  simp only[gcount]
  omega
theorem gcount_adj (l:List Opt):gcount (adjO l)=gcount l:=by
 show gcount (l.map invO).reverse=_
 rw[gcount_rev]
 exact gcount_map (fun o=>by unfold invO;split <;> rfl) l
theorem gcount_setIf (c:Int) (l:List Opt):gcount (setIf c l)=gcount l:=gcount_map (fun o=>by split <;> rfl) l
theorem gcount_co (q:Int) (o:Opt):gcount (coL q o)≤7*gcount [o]:=by
 by_cases h:o.k=1
 ·have h1:=gcount_le (coL q o)
  have h2:=coL_len q o
  have h3:gcount [o]=1:=by simp [gcount,h]
  omega
 ·have h1:coL q o=[o]:=by unfold coL;rw[if_neg h]
  rw[h1]
  omega
theorem gcount_cos (q:Int):∀ (l L:List Opt),cos q l=some L→gcount L≤7*gcount l:=by
 intro l
 induction l with
 | nil=>intro L h;simp [cos] at h;subst h;simp [gcount]
 | cons g l ih =>
  intro L h
  simp only[cos] at h
  split at h
  ·rw[Option.map_eq_some_iff] at h
   obtain ⟨M,h1,rfl⟩:=h
   have h2:=ih M h1
   have h3:=gcount_co q g
   have h4:gcount (g :: l)=gcount [g]+gcount l:=gcount_app [g] l
   rw[gcount_app,h4]
   omega
  ·cases h
theorem gcount_os (q:Int) (l:List Opt):gcount (osL q l)≤7*gcount l:=by
 unfold osL
 cases h:cos q l with
 | none=>exact Nat.zero_le _
 | some L=>exact gcount_cos q l L h
theorem dL_gc {α:Type} {one:α→Es→List Opt × Es} (f:α→Nat):∀ (l:List α) (out:List Opt) (e:Es) (n:Nat),(∀ s∈l,∀ e,min 1000000 (gcount (one s e).1)≤f s)→min 1000000 (gcount out)≤n →
  min 1000000 (gcount (dL one l out e).1)≤l.foldl (fun n s=>min 1000000 (n+f s)) n∨l=[]∧min 1000000 (gcount out)≤n:=by
 intro l
 induction l with
 | nil=>intro out e n _ h;exact .inr ⟨rfl,h⟩
 | cons s l ih =>
  intro out e n h hn
  have h1:=h s (List.mem_cons_self ..) e
  have h2:min 1000000 (gcount (out++(one s e).1))≤min 1000000 (n+f s):=by rw[gcount_app];omega
  rcases ih (out++(one s e).1) (one s e).2 (min 1000000 (n+f s)) (fun x hx=>h x (List.mem_cons_of_mem _ hx)) h2 with h3|⟨rfl,h3⟩
  ·exact .inl h3
  ·exact .inl h3
theorem rep_gc {r C M g:Nat} (h:min 1000000 g≤M) (hr:r≤C):min 1000000 (r*g)≤M*C:=by
 cases r with
 | zero=>rw[Nat.zero_mul];omega
 | succ r =>
  by_cases hM:1000000≤M
  ·have h1:1000000*1≤M*C:=Nat.mul_le_mul hM Zq1
   omega
  ·have h1:g≤M:=by omega
   have h2:(r+1)*g≤C*M:=Nat.mul_le_mul hr h1
   rw[Nat.mul_comm M C]
   omega
theorem sS_gc {d:Nat} {h:SH} {bd:List (Tr d)} {names:List ByteArray} {e:Es} {M:Nat} (hb:∀ names e,min 1000000 (gcount (dA d bd names e).1)≤M):min 1000000 (gcount (sS (dA d) h bd names e).1)≤expE h.k h.count M:=by
 by_cases h1:h.k=1
 ·rw[sS_1 h1,expE_1 h1]
  show min 1000000 (gcount [gop 0 _])≤1
  simp only[gcount]
  split <;> omega
 by_cases h2:h.k=2
 ·rw[sS_2 h2]
  have h3:expE h.k h.count M=M*(min (max h.count 0) 1000000).toNat:=by unfold expE;rw[if_neg h1,if_neg Zq1,if_pos h2]
  rw[h3]
  show min 1000000 (gcount (repO _ _))≤_
  rw[gcount_rep]
  exact rep_gc (hb names e) (by unfold reps;omega)
 by_cases h3:h.k=3
 ·rw[sS_3 h3,expE_x h1 Zq1 h2 Zq1]
  show min 1000000 (gcount (adjO _))≤_
  rw[gcount_adj]
  exact hb names e
 by_cases h4:h.k=4
 ·rw[sS_4 h4,expE_4 h4]
  show min 1000000 (gcount (osL _ _))≤_
  have h5:=gcount_os (fS names (arg0 h)) (dA d bd names e).1
  have h6:=hb names e
  omega
 by_cases h5:h.k=5
 ·rw[sS_5 h5,expE_x h1 Zq1 h2 Zq1]
  have h6:=hb (names++[arg0 h]) ⟨e.bits,max e.most (names.length+1),e.bad⟩
  have h7:gcount [opClean names.length]=0:=rfl
  show min 1000000 (gcount (_++_++_))≤_
  rw[gcount_app,gcount_app,h7]
  omega
 by_cases h6:h.k=6
 ·rw[sS_6 h6,expE_6 h6]
  exact Nat.le_of_eq rfl
 ·have h7:sS (dA d) h bd names e=(setIf (fS (dA d bd names e).2.bits (arg0 h)+1) (dA d bd names e).1,(dA d bd names e).2):=by
   unfold sS;rw[if_neg h1,if_neg h2,if_neg h3,if_neg h4,if_neg h5,if_neg h6]
  rw[h7,expE_x h1 h6 h2 h4]
  show min 1000000 (gcount (setIf _ _))≤_
  rw[gcount_setIf]
  exact hb names e
theorem dA_gc:∀ (d:Nat) (l:List (Tr d)) (names:List ByteArray) (e:Es),min 1000000 (gcount (dA d l names e).1)≤expT d l:=by
 intro d
 induction d with
 | zero=>intro l names e;exact Nat.le_of_eq rfl
 | succ d ih =>
  intro l names e
  rcases dL_gc (one:=fun s e=>sS (dA d) (hdT s) (bdT s) names e) (fun s=>expE (hdT s).k (hdT s).count (expT d (bdT s))) l [] e 0 (fun s _ e=>sS_gc (fun n e=>ih (bdT s) n e)) (Nat.le_of_eq rfl) with h|⟨rfl,_⟩
  ·exact h
  ·exact Nat.le_of_eq rfl
theorem foldl_same {α:Type} (f:List ByteArray→α→List ByteArray):∀ (l:List α) (out:List ByteArray),(∀ s∈l,f out s=out)→l.foldl f out=out:=by
 intro l
 induction l with
 | nil=>intro out _;rfl
 | cons s l ih =>
  intro out h
  rw[List.foldl_cons,h s (List.mem_cons_self ..)]
  exact ih out (fun x hx=>h x (List.mem_cons_of_mem _ hx))
theorem newB_6 {h:SH} {out:List ByteArray} (hk:h.k≠6):bits1 h out=out:=bits1_f (by unfold newB;rw[decide_eq_false hk];rfl)
theorem nest_bits:∀ (d:Nat) (l:List (Tr d)) (names held out:List ByteArray),(chkN d l names held).1=0→bitsT d l out=out:=by
 intro d
 induction d with
 | zero=>intro l names held out _;rfl
 | succ d ih =>
  intro l names held out hc
  have hz:=firstB_ok (show(firstB (l.map fun s=>oneN (hdT s) (chkN d (bdT s)) names held)).1=0 from hc)
  refine foldl_same _ l out (fun s hs=>?_)
  obtain ⟨h1,h2⟩:=oneN_step (hz _ (List.mem_map.2 ⟨s,hs,rfl⟩))
  have hk:(hdT s).k≠6:=by
   intro hk
   unfold stepN at h1
   rw[if_neg Zq1,if_pos hk] at h1
   have h1:(6:Int)=0:=h1
   omega
  show bitsT d (bdT s) (bits1 (hdT s) out)=out
  rw[newB_6 hk]
  exact ih _ _ _ out h2
theorem top_bits1 {d:Nat} {h:SH} {bd:List (Tr d)} {names bits:List ByteArray} (hv:vOne d (validT d) h bd=true) (hc:(oneT d h bd names bits).1.1=0):bitsT d bd (bits1 h bits)=(oneT d h bd names bits).2:=by
 rcases oneT_kind hc with ⟨hk,_,_,hb,_,he⟩|⟨hk,_,hcb,he⟩|⟨h6,h7,hcn,he⟩
 ·rw[he]
  obtain ⟨_,ha,_⟩:=vOne_all hv
  rw[hk] at ha
  have ha:h.args.length=2:=ha
  have hbd:bd=[]:=(vOne_all hv).2.2.2.2.1.resolve_left (by rw[hk];decide)
  subst hbd
  have hn:newB h bits=true:=by
   unfold newB
   rw[decide_eq_true hk,decide_eq_true (show 1<h.args.length by omega),show argAt h=arg1 h from rfl,hb]
   rfl
  rw[bits1_t hn]
  cases d <;> rfl
 ·rw[he,newB_6 Zq1]
  exact nest_bits d bd names [] bits hcb
 ·rw[he,newB_6 h6]
  exact nest_bits d bd _ _ bits (oneN_step hcn).2
theorem top_bits {d:Nat} {l:List (Tr d)} {names:List ByteArray} (hv:validT d l=true) (hc:(chkT d l names []).1=0) (h4:names.length≤4):(dA d l names ⟨[],names.length,false⟩).2.bits=bitsT d l []:=by
 cases d with
 | zero=>rfl
 | succ d =>
  have key:∀ (r:List (Tr (d+1))) (out:List Opt) (e:Es),TopQ names r e→(dL (fun s e=>sS (dA d) (hdT s) (bdT s) names e) r out e).2.bits=r.foldl (fun o s=>bitsT d (bdT s) (bits1 (hdT s) o)) e.bits:=by
   intro r
   induction r with
   | nil=>intro out e _;rfl
   | cons s r ih =>
    intro out e hq
    obtain ⟨q1,q2,q3⟩:=topQ_step h4 hq
    have h1:=ih (out++(sS (dA d) (hdT s) (bdT s) names e).1) _ q3
    rw[List.foldl_cons,top_bits1 q1 q2,←(top_one e hq.1 hq.2.1 h4 q1 q2).2.1]
    exact h1
  exact key l [] _ ⟨rfl,Nat.le_refl _,validT_all hv,hc⟩
theorem bits1_nodup {h:SH} {out:List ByteArray} (hn:out.Nodup):(bits1 h out).Nodup:=by
 unfold bits1
 split
 ·rename_i hb
  unfold newB at hb
  simp only[Bool.and_eq_true,Bool.not_eq_true',decide_eq_true_eq] at hb
  rw[List.nodup_append]
  refine ⟨hn,by simp,fun a ha b hb' e=>?_⟩
  rw[List.mem_singleton] at hb'
  subst hb' e
  rw[hasS_refl ha] at hb
  cases hb.2.2
 ·exact hn
theorem bitsT_nodup:∀ (d:Nat) (l:List (Tr d)) (out:List ByteArray),out.Nodup→(bitsT d l out).Nodup:=by
 intro d
 induction d with
 | zero=>intro l out h;exact h
 | succ d ih =>
  intro l
  induction l with
  | nil=>intro out h;exact h
  | cons s l ih2=>intro out h;exact ih2 _ (ih (bdT s) _ (bits1_nodup h))
theorem ela_counts {d:Nat} {Q:List ByteArray} {l:List (Tr d)} (h:(elaP d Q l).code=0):gcount (elaP d Q l).l≤60∧gcount (elaP d Q l).l≤expT d l∧(elaP d Q l).B=((bitsT d l []).length:Int):=by
 unfold elaP at h ⊢
 split at h
 ·rename_i hv
  rw[if_pos hv]
  unfold finR at h ⊢
  split at h
  ·have h:(2:Int)=0:=h
   omega
  ·rename_i hn
   rw[if_neg hn]
   have h1:=dA_gc d l Q ⟨[],Q.length,false⟩
   have h2:¬ 60<gcount (dA d l Q ⟨[],Q.length,false⟩).1:=fun h=>hn (.inr (.inl h))
   refine ⟨Nat.le_of_not_lt h2,by show gcount (dA d l Q ⟨[],Q.length,false⟩).1≤_;omega,?_⟩
   show(((dA d l Q ⟨[],Q.length,false⟩).2.bits.length:Nat):Int)=_
   rw[top_bits (progV_validC hv.1) (ck_top hv.1 hv.2) (progV_len hv.1)]
 ·have h:(1:Int)=0:=h
  omega
def bE (d:Nat):Nat:=100*5 ^ d
theorem bE_succ (d:Nat):bE (d+1)=5*bE d:=by unfold bE;rw[Nat.pow_succ];omega
theorem bE_pos (d:Nat):100≤bE d:=by
 have:=Nat.pow_pos (n:=d) (show 0<5 by omega)
 unfold bE
 omega
theorem sumE_bound {d:Nat} (E:Nat):∀ l:List (Tr (d+1)),(∀ s∈l,szE s≤E)→sumE l≤l.length*E:=by
 intro l
 induction l with
 | nil=>intro _;exact Nat.zero_le _
 | cons s l ih =>
  intro h
  have h1:=h s Zq5
  have h2:=ih (fun x hx=>h x (by simp [hx]))
  have:sumE (s :: l)=szE s+sumE l:=by simp [sumE]
  rw[this,List.length_cons,Nat.add_mul,Nat.one_mul]
  omega
def Few (d:Nat) (l:List (Tr (d+1))):Prop:=l.length≤3∧∀ s∈l,szE s≤bE d
theorem few_sz {d:Nat} {l:List (Tr (d+1))} (h:Few d l):szT (d+1) l≤3+3*bE d:=by
 have h1:=sumE_bound (bE d) l h.2
 have h2:=Nat.mul_le_mul_right (bE d) h.1
 have h3:=h.1
 rw[szT_succ]
 omega
theorem few_snoc {d n:Nat} {l:List (Tr (d+1))} {s:Tr (d+1)} (hl:l.length≤n) (h:∀ s∈l,szE s≤bE d) (hs:szE s≤bE d):(l++[s]).length≤n+1∧∀ y∈l++[s],szE y≤bE d:=by
 refine ⟨by rw[List.length_append];exact Nat.succ_le_succ hl,fun x hx=>?_⟩
 rcases List.mem_append.1 hx with hx|hx
 ·exact h x hx
 ·obtain rfl:=List.mem_singleton.1 hx
  exact hs
def DBd (d:Nat) (w:World) (p:Nat) (e:Ending) (w':World):Prop:=∃ (v:Value) (l:List (Tr (d+1))),e=.returned v∧OwnT w' w.heap.size d v l∧Few d l∧CurAt w' p∧w.grownBy w' (some p)
theorem OwnT.add {w:World} {base R d:Nat} {v:Value} {l:List (Tr (d+1))} {cs:List Value} {s:Tr (d+1)} (h:OwnT w base d v l) (hv:∀ k,v.ownBlock=some k→k<R) (hB:base≤R) (hs:StQ w (R≤·) d cs s) :
  ∃ xs,w.ownsRow base 42 5 v l.length xs∧∀ (wa w6:World) (v6:Value),w6.ownsRow base 42 5 v6 (l.length+1) (xs++cs)→Below w.heap.size w wa→wa.grownBy w6 v.ownBlock→(v6.ownBlock=v.ownBlock∨v6.ownBlock=some wa.heap.size)→OwnT w6 base d v6 (l++[s]):=by
 obtain ⟨xs,ho,he⟩:=h
 refine ⟨xs,ho,fun wa w6 v6 h6 hba hg hat=>OwnT.push (m:=[s]) he (ElQ.one (hs.mono fun b _ hb=>⟨Nat.le_trans hB hb,fun e=>?_⟩)) h6 hba hg hat⟩
 have:=hv b e.symm
 omega
theorem OwnT.lt {w:World} {base d:Nat} {v:Value} {l:List (Tr (d+1))} (h:OwnT w base d v l):∀ k,v.ownBlock=some k→k<w.heap.size:=fun k hk=>by
 obtain ⟨xs,ho,_⟩:=h
 exact(ho.lt k hk).2
theorem OwnT.ge {w:World} {base d:Nat} {v:Value} {l:List (Tr (d+1))} (h:OwnT w base d v l):∀ k,v.ownBlock=some k→base≤k:=fun k hk=>by
 obtain ⟨xs,ho,_⟩:=h
 exact(ho.lt k hk).1
theorem rdQ_topH {w:World} {cs:Array Value} {e n size b:Nat} {P:Nat→Prop} {xs:List Value} (h0:b=w.heap.size) (hs:cs.size=n*size) (hP:P b) (hx:cs.toList=xs):RdQ (w.alloc (.cells cs e)) P size (some ⟨b,0,none⟩) n xs:=by
 subst hx
 exact rdQ_topG h0 hs hP
theorem few5:∀ y∈([⟨#[120]⟩,⟨#[122]⟩,⟨#[115]⟩,⟨#[121]⟩,⟨#[104]⟩]:List ByteArray),y.size≤9:=by
 intro y hy
 simp only[List.mem_cons,List.not_mem_nil,or_false] at hy
 rcases hy with rfl|rfl|rfl|rfl|rfl <;> decide
theorem few3:∀ y∈([⟨#[114]⟩,⟨#[115,49]⟩,⟨#[114]⟩]:List ByteArray),y.size≤9:=by
 intro y hy
 simp only[List.mem_cons,List.not_mem_nil,or_false] at hy
 rcases hy with rfl|rfl|rfl <;> decide
theorem TrQ.upTo {w:World} {P:Nat→Prop} {A:Option Addr} {n:Nat} {l:List (Tr 1)} (h:TrQ w P 1 A n l):∀ d:Nat,∃ l':List (Tr (d+1)),TrQ w P (d+1) A n l'∧szT (d+1) l'=szT 1 l:=by
 intro d
 induction d with
 | zero=>exact ⟨l,h,rfl⟩
 | succ d ih =>
  obtain ⟨l',h1,h2⟩:=ih
  exact ⟨l'.map (upT (d+1)),h1.up,(szT_up (d+1) l').trans h2⟩
theorem fr_heap0 {w W:World} {p b:Nat} {ob:Obj} (h:Fr w p W) (hne:b≠p) (hc:w.heap[b]?=some ob):W.heap[b]?=some ob:=box_call hc h.gr hne
theorem fr_cell {w W:World} {p b o:Nat} {u:Value} (h:Fr w p W) (hb:b<w.heap.size) (hne:b≠p) (hc:w.cell? ⟨b,o,none⟩=some u):W.cell? ⟨b,o,none⟩=some u:=by
 rw[←hc]
 have:=h.gr.block b hb (fun e=>hne (by injection e))
 simp [World.cell?,this]
theorem Fr.drew {w w1:World} {p:Nat} (h:Fr w p w1):Fr w p w1.drew:=⟨h.cur,h.gr.os,h.gr.tape,h.gr.output,h.gr.size,h.gr.block⟩
theorem fr_rdQ {w W:World} {P:Nat→Prop} {p size n:Nat} {A:Option Addr} {xs:List Value} (h:RdQ w P size A n xs) (hf:Fr w p W) (hp:¬ P p):RdQ W P size A n xs:=h.call hf.gr hp
theorem fr_own {w W:World} {base d p:Nat} {v:Value} {l:List (Tr (d+1))} (h:OwnT w base d v l) (hf:Fr w p W) (hp:p<base):OwnT W base d v l:=h.grown hf.gr (fun k hk=>by injection hk with hk;omega)
def GZ (R bg:Nat) (W:World):Prop:=R≤bg∧W.heap[bg]?=some (.cells #[.int .i64 0,.string ⟨#[]⟩,.slice none 0 0,.int .i64 0,.slice none 0 0] 42 (0,0))
theorem GZ.fr {R bg p:Nat} {W W1:World} (h:GZ R bg W) (hf:Fr W p W1) (hp:p<R):GZ R bg W1:=⟨h.1,fr_heap0 hf (by have:=h.1;omega) h.2⟩
theorem rel19 {w w1 w3 W:World} {p bg ba:Nat} {y s0:ByteArray} (hp:p<w.heap.size) (hR:w.heap.size≤w1.heap.size) (h1:Fr w p W) (h2:Fr w3 p W) (h13:w1.heap.size≤w3.heap.size) (g1:w3.heap.size≤bg) (g2:W.heap[bg]?=some (.cells #[.int .i64 0,.string ⟨#[]⟩,.slice none 0 0,.int .i64 0,.slice none 0 0] 42 (0,0)))
  (hr:RdQ W (fun b=>w3.heap.size≤b) 1 (some ⟨ba,0,none⟩) 1 (strs [s0])) (hy:y.size≤9) {x15:Value} (e:x15=.pointer (some ⟨bg,0,none⟩)) {V:World} (hV:V=((((W.setCell ⟨bg,0,none⟩ (.int .i64 1)).setCell ⟨bg,1,none⟩ (.string y)).setCell ⟨bg,2,none⟩ (.slice (some ⟨ba,0,none⟩) 1 1)).setCell ⟨bg,3,none⟩ (.int .i64 0)).setCell ⟨bg,4,none⟩ (.slice none 0 0)) :
  ∃ (bg ba:Nat) (y:ByteArray),x15=.pointer (some ⟨bg,0,none⟩)∧y.size≤9∧w1.heap.size≤ba∧V.heap[bg]?=some (.cells #[.int .i64 1,.string y,.slice (some ⟨ba,0,none⟩) 1 1,.int .i64 0,.slice none 0 0] 42 (0,0))∧RdQ V (·=ba) 1 (some ⟨ba,0,none⟩) 1 (strs [s0])∧Fr w p V∧Fr w3 p V:=by
 subst hV
 obtain ⟨b,o,e1,h,hlt,hc⟩:=hr.2 Zq1
 injection e1 with e1
 injection e1 with e1 e2
 subst e1 e2
 have h:w3.heap.size≤ba:=h
 have hne:bg≠ba:=by
  intro e
  subst e
  have h1:=hc 0 _ rfl
  have h2:=cell_at (j:=0) g2 rfl
  rw[Nat.zero_add,h2] at h1
  cases h1
 have h3:RdQ W (·=ba) 1 (some ⟨ba,0,none⟩) 1 (strs [s0]):=⟨hr.1,fun _=>⟨ba,0,rfl,rfl,hlt,hc⟩⟩
 have hp3:p<w3.heap.size:=by omega
 exact ⟨bg,ba,y,e,hy,Nat.le_trans h13 h,heap_set5 g2,((((h3.set_ hne _).set_ hne _).set_ hne _).set_ hne _).set_ hne _,
  ((((h1.set hp (show w.heap.size≤bg by omega) _).set hp (show w.heap.size≤bg by omega) _).set hp (show w.heap.size≤bg by omega) _).set hp (show w.heap.size≤bg by omega) _).set hp (show w.heap.size≤bg by omega) _,
  ((((h2.set hp3 g1 _).set hp3 g1 _).set hp3 g1 _).set hp3 g1 _).set hp3 g1 _⟩
def BodySaid (d:Nat):Prop:=∀ (A:Option Addr) (m c:Nat) (N:List ByteArray) (wild:Bool) (w:World) (p:Nat),CurAt w p→Names w p A m N →
  Calls Try.prog 41 #[.pointer (some ⟨p,0,none⟩),.slice A m c,.int .i64 ((d:Int)+1),.bool wild] w (DBd d w p)
end Go.Proofs.Ythkbckkghnbonaa
