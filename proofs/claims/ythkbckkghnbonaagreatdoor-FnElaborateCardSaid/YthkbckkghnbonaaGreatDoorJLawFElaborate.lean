/- A checked program elaborates to a valid routine within its bounds: for every code. -/
import Derived.Test.YthkbckkghnbonaaGreatDoorJFElaborate2
import Derived.Test.YthkbckkghnbonaaGreatDoorJFElaborate16
import Derived.Test.YthkbckkghnbonaaGreatDoorJFElaborate19
import Derived.Test.YthkbckkghnbonaaGreatDoorJFElaborate20
set_option maxRecDepth 100000
set_option maxHeartbeats 16000000
set_option linter.unusedVariables false
namespace Go.Proofs.YthkbckkghnbonaaGreatDoor
open Go.ChangeShapes Go.WideShapes Go.ChangeAt Go.RowKit
set_option linter.unusedVariables false
theorem belFE {w w1 w2:World} (f:Below w.heap.size w w1) (h:Below w1.heap.size w1 w2):Below w.heap.size w w2:=f.trans (h.mono f.size)
theorem elaP_lenF (d:Nat) (qs:List ByteArray) (l:List (Tr d)):(elaP d qs l).l.length≤120:=by
 unfold elaP
 split
 ·unfold finR
  split
  ·exact Nat.zero_le _
  ·rename_i hn
   show(dA d l qs ⟨[],qs.length,false⟩).1.length≤120
   apply Classical.byContradiction
   intro hl
   refine hn (.inr (.inr ?_))
   unfold yb0
   rw[decide_eq_false hl]
   simp
 ·exact Nat.zero_le _
theorem eqOs_reflF (l:List Opt):eqOs l l=true:=yq5 rfl (fun j _ x y hx hy=>by
 rw[hx] at hy
 injection hy with hy
 subst hy
 simp [eqO]) (Nat.le_refl _)
theorem eqRt_reflF (N I B:Int) (l:List Opt):eqRt N I B l N I B l=true:=by simp [eqRt,eqOs_reflF]
theorem DrawElaborate_any (A:Option Addr) (n c:Nat) (bs:List (Fin 256)) (w:World) (h:Rd w 1 A n (bs.flatMap ye7)) (hl:bs.length=n) (hn:n≤1048576):Calls Tryz.prog 25 #[.slice A n c] w (ynh w):=by
 have H:=hD (h.below (show Below w.heap.size w (w.alloc (.cells #[.slice none 0 0,.slice none 0 0] 27)) from Zq0))
 have HL:=hD hl
 clear h hl
 go_enter Tryz.func25,Tryz.ntmps25
 go_wp2_with fail
 obtain ⟨w0,hw0⟩:∃ w0,w0=w.alloc (.cells #[.slice none 0 0,.slice none 0 0] 27):=⟨_,rfl⟩
 rw[←hw0] at H ⊢
 have x0:w0.heap[w.heap.size]?=some (.cells #[.slice none 0 0,.slice none 0 0] 27 (0,0)):=by rw[hw0];exact yac _ _
 have b0:Below w.heap.size w w0:=by rw[hw0];exact Zq0
 have s0:w.heap.size<w0.heap.size:=by rw[hw0];simp
 clear hw0
 refine(yhs _ _ _ bs w0 H.out HL.out hn).mono ?_
 rintro e w1 ⟨Aq,cq,Q,Ab,nb,cb,l,rfl,hq,h4,hr,h5,hb1⟩
 have x1:=(hb1.block _ s0).trans x0
 have s1:=hb1.size
 have f0:=yab (j:=0) x1
 have f1:=yab (j:=1) x1
 obtain ⟨q0,q1⟩:=ycs (lay:=Below.refl _ _) x1
 have B1:=hD (b0.trans (hb1.mono (Nat.le_of_lt s0)))
 have HQ:=hD hq
 have HR:=hD hr
 have H4:=hD h4
 have H5:=hD h5
 clear x0 x1 hb1 b0 hq hr h4 h5
 go_wp2_with fail
 refine bodyPost_ret (v:=.agg #[.slice Aq Q.length cq,.slice Ab nb cb]) (by simp [results,Tryz.results25,go_sem,q0,q1]) rfl ⟨Aq,cq,Q,Ab,nb,cb,l,rfl,?_,H4.out,?_,H5.out,(B1.out.setCell (Nat.le_refl _) _).setCell (Nat.le_refl _) _⟩
 ·exact RdL.lower ((HQ.out.set_ (by simpa using s0) _).set_ (by simpa using s0) _) (Nat.le_of_lt s0)
 ·exact RdT.lower (Nat.le_of_lt s0) ((HR.out.set_ (by simpa using s0) _).set_ (by simpa using s0) _)
theorem law_FElaborate (A:Option Addr) (n c:Nat) (bs:List (Fin 256)) (w0:World) (h:Rd w0 1 A n (bs.flatMap ye7)) (hl:bs.length=n) (hnc:n≤c) (hc:c≤maxLen) (hG:GN w0) :
  Calls Tryz.prog 5 #[.slice A n c] w0 fun e w'=>e=.returned (.bool true)∧Below w0.heap.size w0 w':=by
 have hn0:n≤9223372036854775807:=by simp only[maxLen] at hc;omega
 have H:=hD h
 have HL:=hD hl
 have HG:=hD hG
 clear h hl hG
 by_cases hbig:1048576<n
 ·have hB:decide (1048576<n)=true:=by simpa using hbig
  go_enter Tryz.func5,Tryz.ntmps5
  go_wp2_with (go_at_call 7;refine(yox _ _ _ _ hn0).mono ?_;rintro e w' ⟨rfl,rfl⟩)
  go_ret
  exact ⟨rfl,Below.refl _ _⟩
 have hB:decide (1048576<n)=false:=by simpa using hbig
 go_enter Tryz.func5,Tryz.ntmps5
 go_wp2_with (go_at_call 7;refine(yox _ _ _ _ hn0).mono ?_;rintro e w' ⟨rfl,rfl⟩)
 clear hB
 refine(DrawElaborate_any _ _ _ bs w0 H.out HL.out Zq6).mono ?_
 rintro e w1 ⟨Aq,cq,Q,Ab,nb,cb,l,rfl,hq,⟨hq4,hqc,hqm,hq9⟩,hr,⟨hbc,hbm,hz⟩,hb1⟩
 have hs1:=hb1.size
 have hq:=RdL.lower hq (Nat.zero_le _)
 have hr:=RdT.lower (Nat.zero_le _) hr
 have hzq:szS Q≤1048576:=by have:=szS9 Q hq9;omega
 obtain ⟨nq,hnq⟩:∃ nq,nq=Q.length:=⟨_,rfl⟩
 go_upto_region 4 with (fail)
 obtain ⟨w2,hw2⟩:∃ w2,w2=w1.alloc (.cells #[.slice Aq Q.length cq,.slice Ab nb cb] 27):=⟨_,rfl⟩
 rw[←hw2]
 obtain ⟨X,hX⟩:∃ X,X=w1.heap.size:=⟨_,rfl⟩
 have b2:Below w1.heap.size w1 w2:=by rw[hw2];exact Zq0
 have s2:X<w2.heap.size:=by rw[hw2,hX];simp
 have x2:w2.heap[X]?=some (.cells #[.slice Aq Q.length cq,.slice Ab nb cb] 27 (0,0)):=by rw[hw2,hX];exact yac _ _
 rw[←hX]
 have hs12:=b2.size
 have HQ2:=hD (hq.below b2)
 have HR2:=hD (hr.below b2)
 have HB2:=hD (belFE hb1 b2)
 have hs02:=HB2.out.size
 have HG2:=hD (HG.out.below HB2.out)
 have HX2:=hD x2
 obtain ⟨K,hK⟩:∃ K,K=ckP 6 Q l:=⟨_,rfl⟩
 obtain ⟨R,hR⟩:∃ R,R=elaP 6 Q l:=⟨_,rfl⟩
 have HCI:=hD (fun W (ra:RdL W 0 1 Aq Q.length (strs Q)) (rb:RdT W 0 6 Ab nb l) (hG:GN W)=>ylb 6 0 0 Aq cq Q l Ab nb cb W ra hqc rb hG Zq6 hzq Zq6)
 have HCS:=hD (fun W (ra:RdL W 0 1 Aq Q.length (strs Q)) (rb:RdT W 0 6 Ab nb l)=>yk7 6 0 0 Aq cq Q l Ab nb cb W ra hqc rb Zq6 hzq Zq6)
 have HKS:=hD (fun W (ra:RdL W 0 1 Aq Q.length (strs Q)) (rb:RdT W 0 6 Ab nb l)=>yfy 6 0 0 Aq cq Q l Ab nb cb W ra hqc rb Zq6 hzq Zq6)
 have HVS:=hD (fun W (ra:RdL W 0 1 Aq Q.length (strs Q)) (rb:RdT W 0 6 Ab nb l)=>yel 6 0 0 Aq cq Q l Ab nb cb W ra rb Zq6 hzq Zq6)
 have HGD:=hD (ysv (d:=6) (Q:=Q) (l:=l))
 have HWY:=hD (ytk (d:=6) (Q:=Q) (l:=l))
 have hTl:R.l.length≤120:=by rw[hR];exact elaP_lenF _ _ _
 rw[←hK] at HKS HWY
 rw[←hR] at HCI HCS HGD HWY
 obtain ⟨N,I,B,T,C⟩:=R
 have hTl:T.length≤120:=hTl
 have HGD:Hid (C=0→yb0 N I B T=true∧I=(Q.length:Int)∧(Q.length:Int)≤N∧ycc T≤60):=HGD
 have HWY:Hid (C≠0→C=2∨(C=1∧(yc7 6 Q l=false∨K.1≠0))):=HWY
 rw[←hnq] at HQ2 HCI HCS HKS HVS HX2 HGD ⊢
 clear hw2 b2 x2 hq hr hb1 hX hK hR hz hzq hq9 hq4 hnq
 obtain ⟨k0,k1⟩:=ycs (lay:=Below.refl _ _) HX2.out
 go_wp2_with fail
 refine(HCI.out w2 HQ2.out HR2.out HG2.out).mono ?_
 rintro e w3 ⟨A3,c3,rfl,o3,b3⟩
 have s3:=b3.size
 clear k0 k1
 go_upto_region 5 with (fail)
 obtain ⟨w4,hw4⟩:∃ w4,w4=w3.alloc (.cells #[.int .i64 N,.int .i64 I,.int .i64 B,.slice A3 T.length c3] 40):=⟨_,rfl⟩
 rw[←hw4]
 obtain ⟨Y,hY⟩:∃ Y,Y=w3.heap.size:=⟨_,rfl⟩
 rw[←hY]
 have b4:Below w3.heap.size w3 w4:=by rw[hw4];exact Zq0
 have s4:=b4.size
 have HY4:=hD (show w4.heap[Y]?=some (.cells #[.int .i64 N,.int .i64 I,.int .i64 B,.slice A3 T.length c3] 40 (0,0)) by rw[hw4,hY];exact yac _ _)
 have HB24:=hD (belFE b3 b4)
 have hY2:w2.heap.size≤Y:=by omega
 have hYl:Y<w4.heap.size:=lt_of_block HY4.out
 have RO4:=hD ((ybv o3).below b4)
 clear hw4 hY b3 b4 o3
 obtain ⟨k0,k1⟩:=ycs (lay:=HB24.out) HX2.out
 have lX4:X<w4.heap.size:=by omega
 go_wp2_with fail
 refine(HCS.out w4 (HQ2.out.below HB24.out) (HR2.out.below HB24.out)).mono ?_
 rintro e w5 ⟨A5,c5,rfl,o5,b5⟩
 have s5:=b5.size
 clear k0 k1
 go_upto_region 6 with (fail)
 obtain ⟨w6,hw6⟩:∃ w6,w6=w5.alloc (.cells #[.int .i64 N,.int .i64 I,.int .i64 B,.slice A5 T.length c5] 40):=⟨_,rfl⟩
 rw[←hw6]
 obtain ⟨Z,hZ⟩:∃ Z,Z=w5.heap.size:=⟨_,rfl⟩
 rw[←hZ]
 have b6:Below w5.heap.size w5 w6:=by rw[hw6];exact Zq0
 have s6:=b6.size
 have HZ6:=hD (show w6.heap[Z]?=some (.cells #[.int .i64 N,.int .i64 I,.int .i64 B,.slice A5 T.length c5] 40 (0,0)) by rw[hw6,hZ];exact yac _ _)
 have HB46:=hD (belFE b5 b6)
 have HB26:=hD (belFE HB24.out HB46.out)
 have RO6:=hD (RO4.out.below HB46.out)
 have RS6:=hD ((ybv o5).below b6)
 have lY6:Y<w6.heap.size:=by omega
 have lZ6:Z<w6.heap.size:=lt_of_block HZ6.out
 have lX6:X<w6.heap.size:=by omega
 clear hw6 hZ b5 b6 o5
 obtain ⟨y0,y1,y2,y3⟩:=yai (lay:=HB46.out) HY4.out
 obtain ⟨z0,z1,z2,z3⟩:=yai (lay:=Below.refl _ _) HZ6.out
 go_wp2_with fail
 refine(yi2 N I B N I B A3 A5 _ _ c3 c5 T T w6 rfl rfl Zq6 RO6.out RS6.out).mono ?_
 rintro e w7 ⟨rfl,b7,s7⟩
 rw[eqRt_reflF]
 have HB27:=hD (belFE HB26.out b7)
 have HB47:=hD (belFE HB46.out b7)
 have RO7:=hD (RO6.out.below b7)
 clear b7 y0 y1 y2 y3 z0 z1 z2 z3
 obtain ⟨y0,y1,y2,y3⟩:=yai (lay:=HB47.out) HY4.out
 obtain ⟨k0,k1⟩:=ycs (lay:=HB27.out) HX2.out
 have lY7:Y<w7.heap.size:=by omega
 have lX7:X<w7.heap.size:=by omega
 by_cases hC:C=0
 ·obtain ⟨g1,g2,g3,g4⟩:=HGD.out hC
  subst hC
  subst g2
  have HV:=hD g1
  have hNI:decide ((nq:Int)≤N)=true:=decide_eq_true g3
  have hGC:decide ((ycc T:Int)≤60)=true:=decide_eq_true Zq6
  clear g1 g3 g4 HWY HGD
  go_wp2_with fail
  refine(yek N nq B A3 _ c3 T w7 RO7.out rfl Zq6).mono ?_
  rintro e w8 ⟨rfl,b8,s8⟩
  rw[HV.out]
  have HB28:=hD (belFE HB27.out b8)
  have HB48:=hD (belFE HB47.out b8)
  have RO8:=hD (RO7.out.below b8)
  clear b8 y0 y1 y2 y3 k0 k1
  obtain ⟨y0,y1,y2,y3⟩:=yai (lay:=HB48.out) HY4.out
  obtain ⟨k0,k1⟩:=ycs (lay:=HB28.out) HX2.out
  have lY8:Y<w8.heap.size:=by omega
  have lX8:X<w8.heap.size:=by omega
  go_wp2_with fail
  refine(ydn N nq B A3 _ c3 T w8 RO8.out rfl Zq6).mono ?_
  rintro e w9 ⟨rfl,b9,s9⟩
  have HB29:=hD (belFE HB28.out b9)
  clear b9
  go_wp2_with fail
  go_ret
  exact ⟨rfl,belFE HB2.out HB29.out⟩
 ·have dC:(C==0)=false:=beq_eq_false_iff_ne.2 hC
  have hw:=HWY.out hC
  clear HGD HWY
  go_wp2_with fail
  refine(HKS.out w7 (HQ2.out.below HB27.out) (HR2.out.below HB27.out)).mono ?_
  rintro e w8 ⟨rfl,b8,s8⟩
  have HB28:=hD (belFE HB27.out b8)
  clear b8 k0 k1 y0 y1 y2 y3
  obtain ⟨k0,k1⟩:=ycs (lay:=HB28.out) HX2.out
  have lX8:X<w8.heap.size:=by omega
  rcases hw with rfl|⟨rfl,hw⟩
  ·clear dC hC
   go_wp2_with fail
   go_ret
   exact ⟨rfl,belFE HB2.out HB28.out⟩
  ·clear dC hC
   by_cases hk:K.1=0
   ·have hv:yc7 6 Q l=false:=hw.resolve_right (fun h=>h hk)
    rw[hk]
    clear hw hk
    go_wp2_with fail
    refine(HVS.out w8 (HQ2.out.below HB28.out) (HR2.out.below HB28.out)).mono ?_
    rintro e w9 ⟨rfl,b9,s9⟩
    rw[hv]
    have HB29:=hD (belFE HB28.out b9)
    clear b9 hv
    go_wp2_with fail
    go_ret
    exact ⟨rfl,belFE HB2.out HB29.out⟩
   ·have dk:(K.1==0)=false:=beq_eq_false_iff_ne.2 hk
    have dn:(K.1 != 0)=true:=by simp [bne,dk]
    clear hw hk
    go_wp2_with fail
    go_ret
    exact ⟨rfl,belFE HB2.out HB28.out⟩
theorem door_fnElaborate (os:Os) (args:Array Value):laidMetH Tryz.prog Rows.fnElaborateRow.laid ((World.doorLaid Tryz.prog 4000 os).forCall (fun _ _=>0) ⟨#[],args,[]⟩).memory :=
 laidMetH_of_parts3 (fuel:=10) (laidMet_of_run' 10 Zq8 Zq8) Zq8 Zq8
theorem lifted_fnElaborate (os:Os) (started:os.Started) (H:Type) (enc:TypeId × Value→H) :
  ReturnsInHanded {} Tryz.checked os 5 .any (fun w args=>(Rows.fnElaborateSpec.pre enc Tryz.prog Tryz.f5 [] false w args∧laidMetH Tryz.prog Rows.fnElaborateRow.laid w)∧sizedMet enc Tryz.prog Tryz.f5 (OpenSpec.ofChange Rows.fnElaborateSpec) false w args)
   (Rows.fnElaborateSpec.post enc Tryz.prog Tryz.f5 false true false false):=by
 refine returnsInHanded_of_change_and (C:=Tryz.checked) (X:=fun w _=>laidMetH Tryz.prog Rows.fnElaborateRow.laid w) (fun _ _ _ hh h=>h.of_heap hh) own started Zq8 Tryz.func5
  (ChangeSpec.witness_shaped (enc:=enc) (C:=Tryz.checked) (os:=os) (X:=fun w _=>laidMetH Tryz.prog Rows.fnElaborateRow.laid w) false (World.doorLaid Tryz.prog 4000 os) #[.slice none 0 0] 10 rfl (World.shaped_of_RefB Zq8 Zq8) Zq8 Zq8 Zq8 (door_fnElaborate os _)) ?_
 intro W base args ds gs before hval0 hW _ _ hL _
 have hval:∀ (j:Nat) t v,Tryz.f5.params[j]?=some t→args[j]?=some v→Value.okWide Tryz.prog W .any base t v:=hval0
 have hW':=hW
 obtain ⟨p,q,hA0,hV,rfl,hfz,hnd⟩:=hW
 have hA:DataW.TrodAll enc Tryz.prog W 0 (fun _=>true) true Tryz.f5.params.toList args.toList ds p:=hA0
 have hGN:GN W:=ynn hL
 have hltp:∀ x∈p,x.block<W.heap.size:=fun x hx=>hW'.lt x (by simp [hx])
 have hltq:∀ x∈q,x.block<W.heap.size:=fun x hx=>hW'.lt x (by simp [hx])
 have key:Calls Tryz.prog 5 args W fun e W'=>e=.returned (.bool true)∧Below W.heap.size W W':=by
  rw[Tryz.params5] at hA hval
  obtain ⟨v0,vs0,d0,ds0,p0,q0,hargs,rfl,rfl,h0,r0⟩:=trodAll_cons hA
  obtain ⟨rfl,rfl,rfl⟩:=trodAll_nil r0
  obtain rfl:args=#[v0]:=by cases args;simp_all
  clear hA0 hval0 hW' hA hV hltp hltq
  obtain ⟨fuel0,hf0⟩:=h0
  obtain ⟨A,n,c,l,hv0,hnc,hcm,hl,hrd⟩:=ynj (cellsf:=ye7) Tryz.underlying22 yp5 Zq9 yr2 yie (yp6 (hval 0 22 v0 rfl rfl) Tryz.underlying22 hf0)
  subst hv0
  exact law_FElaborate A n c l W hrd hl hnc hcm hGN
 refine key.mono fun e W' ⟨he,hb⟩=>?_
 subst he
 obtain ⟨g1,hgs,hvs⟩:=yqb yn3 ytt hV hltq hb (by obtain ⟨_,_,_,h,_⟩:=hGN;exact h)
 subst hgs
 have hrd:(Tryz.f5.params.toList.all fun t=>Tryz.prog.readableRec t&&decide (t<Tryz.prog.types.size))=true:=by kernel_rfl
 have hst:∀ sp:Nat→Bool,(∀ x∈p++q,sp x.block=true)→DataW.TrodAll enc Tryz.prog W' 0 sp true Tryz.f5.params.toList args.toList ds p:=fun sp hsp=>ylz (sp:=sp) (W':=W') yn3 (fun t ht=>by simpa using List.all_eq_true.1 hrd t ht) hA (fun x hx=>hb.same (hltp x hx)) (fun x hx=>hsp x (by simp [hx]))
 have hds:ds.length=1:=by
  rw[Tryz.params5] at hA
  obtain ⟨v0,vs0,d0,ds0,p0,q0,_,rfl,rfl,h0,r0⟩:=trodAll_cons hA
  obtain ⟨_,rfl,_⟩:=trodAll_nil r0
  rfl
 clear hA hA0 hval hval0
 obtain ⟨e0,rfl⟩:∃ e0,ds=[e0]:=by match ds,hds with|[e0],_=>exact ⟨e0,rfl⟩
 exact ⟨_,rfl,yl0 (pa:=p) (pv:=q) hW' (fun _ _ _=>(trodAll_cons_mk (shut_bool Tryz.underlying4 _) trodAll_mk0)) hst (fun sp hsp=>hvs sp (fun x hx=>hsp x (by simp [hx]))) rfl hb (ok_one Zq8 rfl (okWide_bool_mk Tryz.underlying4 _))⟩
theorem over_fnElaborate:Rows.fnElaborateRow.holds Tryz.pinned (OpenSpec.ofChange Rows.fnElaborateSpec) :=
 OpenClaim.holds_of_wide 5 Tryz.f5 rfl rfl rfl rfl rfl rfl rfl ⟨rfl,rfl,rfl,rfl,rfl⟩ rfl rfl rfl rfl rfl Zq8 Tryz.func5 Zq8
  (of_decide_eq_true Zq8) (by unfold Func.isWrapper;first|(rw[if_pos (by decide +kernel)];kernel_rfl)|(rw[if_neg (by decide +kernel)];exact ⟨rfl,rfl⟩))
  (fun os started H enc _=>lifted_fnElaborate os started H enc)
theorem fnElaborate_holds:Rows.FnElaborateCardSaid :=
 Claim7.holds_tied_plain_at .later [] [.data] true (true, "64224490679f6881f559166ffb3ad8f164bbc1af6078a3191faee35b94f5eb6a") true
  over_fnElaborate (fun _ h=>by cases h) Zq8 (fun _ h=>by cases h) fnElaborate_row_tie rfl ⟨rfl,rfl⟩ Zq8 rfl
  (fun f fn hf hfn=>by
   obtain rfl : f = 5 := Option.some.inj ((show Tryz.prog.funcNamed "loop.example/g00506/laws.FnElaborate" = some 5 by kernel_rfl).symm.trans hf) |>.symm
   obtain rfl:fn=Tryz.f5:=(Option.some.inj (Tryz.func5.symm.trans hfn)).symm
   exact ⟨by kernel_rfl,fun j t ht=>by
    have hall:(Tryz.f5.params.toList.all fun u=>!Tryz.prog.wantsStandIn u)=true:=by kernel_rfl
    have hm:t∈Tryz.f5.params.toList:=by simpa using Array.mem_of_getElem? ht
    exact(show Tryz.prog.wantsStandIn t=false by simpa using List.all_eq_true.1 hall t hm)⟩)
  Zq8
end Go.Proofs.YthkbckkghnbonaaGreatDoor

