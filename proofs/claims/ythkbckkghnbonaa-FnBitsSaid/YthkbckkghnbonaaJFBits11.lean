/- What the calls that this law reaches answer, part 11 of 15. -/
import Derived.Test.YthkbckkghnbonaaJFBits10
import Derived.Test.YthkbckkghnbonaaJFBits3
set_option maxRecDepth 100000
set_option maxHeartbeats 16000000
set_option linter.unusedVariables false
namespace Go.Proofs.Ythkbckkghnbonaa
open Go.RowKit
set_option linter.unusedVariables false
def ndx (N:List ByteArray) (j:Nat):ByteArray:=N.getD j ⟨#[]⟩
def LitE (d E R:Nat) (W:World) (b:Nat):Prop:=∃ (cs:List Value) (s:Tr (d+1)),RdQ W (R≤·) 5 (some ⟨b,0,none⟩) 1 cs∧StQ W (R≤·) d cs s∧szE s≤E
theorem LitE.fr {d E R p b:Nat} {W W1:World} (h:LitE d E R W b) (hf:Fr W p W1) (hp:p<R):LitE d E R W1 b:=by
 obtain ⟨cs,s,h1,h2,h3⟩:=h
 exact ⟨cs,s,fr_rdQ h1 hf Zq1,h2.keep (fun b hb hlt=>hf.gr.block b hlt (fun e=>by injection e with e;omega)) hf.gr.size,h3⟩
theorem l17Body_zero (A:Option Addr) (m c:Nat) (N:List ByteArray) (wild:Bool) (w:World) (p:Nat) (hcur:CurAt w p) (hN:Names w p A m N) :
  Calls Try.prog 41 #[.pointer (some ⟨p,0,none⟩),.slice A m c,.int .i64 1,.bool wild] w (DBd 0 w p):=by
 obtain ⟨i0,hi,hz0,hz1,hz2⟩:=info_parts info_Stmt
 have hp:=hcur.lt
 have h1:=hN.lo
 have h4:=hN.hi
 have HN:=hD hN
 clear hN
 go_enter Try.func41,Try.ntmps41
 go_wp2_with fail
 obtain ⟨w0,hw0⟩:∃ w0,w0=w.alloc (.cells #[] 42):=⟨_,rfl⟩
 rw[←hw0]
 have own0:OwnT w0 w.heap.size 0 (.slice (some ⟨w.heap.size,0,none⟩) 0 0) []:=by rw[hw0];exact ownT_empty w _
 have hfr0:Fr w p w0:=by rw[hw0];exact(Fr.start hcur).alloc _
 clear hw0
 refine(l1Below_any 4 3 w0 p hfr0.cur Zq1 Zq1 Zq1).mono ?_
 rintro e w1 ⟨n,hn0,hn1,rfl,hc1,hg1⟩
 obtain ⟨n,rfl⟩:∃ n':Nat,n=n':=⟨n.toNat,by omega⟩
 have OW:=hD (own0.grown hg1 (fun k hk=>by injection hk with hk;omega))
 have FR:=hD (hfr0.call hc1 hg1)
 clear own0 hfr0 hc1 hg1
 go_wp2_with fail
 go_loopw [9,11] (fun v i wr=>∃ (t:Nat) (l:List (Tr (0+1))),i=.int .i64 t∧t≤n∧l.length≤t∧Hid (∀ s∈l,szE s≤bE 0)∧Hid (OwnT wr w.heap.size 0 v l)∧Hid (Fr w p wr)) (fun _ i _=>n - (intOf i).toNat)
 case atStart=>exact ⟨0,[],rfl,Nat.zero_le _,Nat.zero_le _,(fun s hs=>absurd hs Zq5:∀ s∈([]:List (Tr (0+1))),szE s≤bE 0),OW.out,FR.out⟩
 case round =>
  obtain ⟨t,l,rfl,ht,hl,hsm,hown,hfr⟩:=hrel
  obtain ⟨wE,rfl⟩:∃ wE:World,wE=wr:=⟨_,rfl⟩
  by_cases hlt:t<n
  ·go_wp2_with fail
   refine(l1Below_any 10 9 wE p hfr.out.cur Zq1 Zq1 Zq1).mono ?_
   rintro e w1 ⟨k,hk0,hk1,rfl,hc1,hg1⟩
   have ow1:=hown.out.grown hg1 (fun k hk=>by injection hk with hk;omega)
   have fr1:=hfr.out.call hc1 hg1
   obtain ⟨Ao,co,rfl,_,_⟩:=ow1.slice
   have HV:=hD ow1.lt
   have HG:=hD ow1.ge
   have NM:=hD (HN.out.fr fr1)
   have OW1:=hD ow1
   have FR1:=hD fr1
   have hR:w.heap.size≤w1.heap.size:=fr1.gr.size
   have hp1:p<w1.heap.size:=fr1.cur.lt
   clear hown hfr hc1 hg1 ow1 fr1
   go_wp2_with fail
   refine(l17Gate_any _ _ _ N w1 p FR1.out.cur NM.out).mono ?_
   rintro e w2 ⟨word,args,Aa,ca,rfl,hq,⟨hcap,hw4,ha3,hsz⟩,hc2,hg2⟩
   have hbp:=bE_pos 0
   obtain ⟨xs,hox,hpush⟩:=(OW1.out.grown hg2 (fun k hk=>by injection hk with hk;omega)).add HV.out hR (stQ_mk (d:=0) (h:=⟨1,word,args,0⟩) (cb:=0) hq (trQ_nil (A:=none) 0) hcap)
   have PU:=hD hpush
   have HSZ:=hD (show szE (mkT (d:=0) ⟨1,word,args,0⟩ [])≤bE 0 by rw[szE_mk,szT_nil];show word.size+(args.length+szS args+0)≤_;omega)
   have frk:=FR1.out.call hc2 hg2
   have hgk:=frk.gr.size
   clear hpush
   go_wp2_with (at_builtin;refine wpList_append_rd _ rfl _ _ 25 rfl w.heap.size 42 i0 _ 5 80 Try.underlying25 hi hz0 hz1 hz2 rfl Zq4 _ _ _ rfl (hox.alloc _) _ 1 1 _ rfl (rd_lit1 ?k0_1 rfl) ?k2_1 ?k3_1 ?k4_1 ?k5_1 ?_)
   try (case k0_1=>first|rfl|simp)
   case k2_1=>repeat' (first|rfl|apply And.intro)
   case k3_1=>simp only[maxLen];omega
   case k4_1=>omega
   case k5_1=>first|omega|(simp;omega)
   intro v6 w6 own6 gr6 hat
   have O6:=hD (PU.out _ _ _ own6 ((Below.refl _ _).alloc (Nat.le_refl _) _) gr6 (hat.imp id fun e=>e.trans Zq5))
   have F6:=hD ((frk.alloc _).own hp gr6 HG.out)
   clear gr6 own6 hox frk PU
   go_wp2_with fail
   go_roundw
   case rel=>exact ⟨t+1,l++[_],by go_num,by omega,(few_snoc hl hsm.out HSZ.out).1,(few_snoc hl hsm.out HSZ.out).2,O6.out,F6.out⟩
   case measure=>simp [intOf];omega
  ·go_wp2_with fail
   go_ret
   exact ⟨_,l,rfl,hown.out,⟨by omega,hsm.out⟩,hfr.out.cur,hfr.out.gr⟩
theorem l17Body_succ (d:Nat) (hd:d≤8) (ih:BodySaid d) (A:Option Addr) (m c:Nat) (N:List ByteArray) (wild:Bool) (w:World) (p:Nat) (hcur:CurAt w p) (hN:Names w p A m N) :
  Calls Try.prog 41 #[.pointer (some ⟨p,0,none⟩),.slice A m c,.int .i64 ((d:Int)+1+1),.bool wild] w (DBd (d+1) w p):=by
 obtain ⟨i0,hi,hz0,hz1,hz2⟩:=info_parts info_Stmt
 have hp:=hcur.lt
 have h1:=hN.lo
 have h4:=hN.hi
 have HN:=hD hN
 clear hN
 go_enter Try.func41,Try.ntmps41
 go_wp2_with fail
 obtain ⟨w0,hw0⟩:∃ w0,w0=w.alloc (.cells #[] 42):=⟨_,rfl⟩
 rw[←hw0]
 have own0:OwnT w0 w.heap.size (d+1) (.slice (some ⟨w.heap.size,0,none⟩) 0 0) []:=by rw[hw0];exact ownT_empty w _
 have hfr0:Fr w p w0:=by rw[hw0];exact(Fr.start hcur).alloc _
 clear hw0
 refine(l1Below_any 4 3 w0 p hfr0.cur Zq1 Zq1 Zq1).mono ?_
 rintro e w1 ⟨n,hn0,hn1,rfl,hc1,hg1⟩
 obtain ⟨n,rfl⟩:∃ n':Nat,n=n':=⟨n.toNat,by omega⟩
 have OW:=hD (own0.grown hg1 (fun k hk=>by injection hk with hk;omega))
 have FR:=hD (hfr0.call hc1 hg1)
 clear own0 hfr0 hc1 hg1
 go_wp2_with fail
 go_loopw [9,11] (fun v i wr=>∃ (t:Nat) (l:List (Tr ((d+1)+1))),i=.int .i64 t∧t≤n∧l.length≤t∧Hid (∀ s∈l,szE s≤bE (d+1))∧Hid (OwnT wr w.heap.size (d+1) v l)∧Hid (Fr w p wr)) (fun _ i _=>n - (intOf i).toNat)
 case atStart=>exact ⟨0,[],rfl,Nat.zero_le _,Nat.zero_le _,(fun s hs=>absurd hs Zq5:∀ s∈([]:List (Tr ((d+1)+1))),szE s≤bE (d+1)),OW.out,FR.out⟩
 case round =>
  obtain ⟨t,l,rfl,ht,hl,hsm,hown,hfr⟩:=hrel
  obtain ⟨wE,rfl⟩:∃ wE:World,wE=wr:=⟨_,rfl⟩
  by_cases hlt:t<n
  ·go_wp2_with fail
   refine(l1Below_any 10 9 wE p hfr.out.cur Zq1 Zq1 Zq1).mono ?_
   rintro e w1 ⟨k,hk0,hk1,rfl,hc1,hg1⟩
   have ow1:=hown.out.grown hg1 (fun k hk=>by injection hk with hk;omega)
   have fr1:=hfr.out.call hc1 hg1
   obtain ⟨Ao,co,rfl,_,_⟩:=ow1.slice
   have HV:=hD ow1.lt
   have HG:=hD ow1.ge
   have NM:=hD (HN.out.fr fr1)
   have OW1:=hD ow1
   have FR1:=hD fr1
   have hR:w.heap.size≤w1.heap.size:=fr1.gr.size
   have hp1:p<w1.heap.size:=fr1.cur.lt
   clear hown hfr hc1 hg1 ow1 fr1
   by_cases e0:k=0
   ·subst e0
    go_wp2_with fail
    refine(l1Below_any 3 2 w1 p FR1.out.cur Zq1 Zq1 Zq1).mono ?_
    rintro e w2 ⟨x,hx0,hx1,rfl,hc2,hg2⟩
    have FR2:=hD (FR1.out.call hc2 hg2)
    have OW2:=hD (OW1.out.grown hg2 (fun k hk=>by injection hk with hk;omega))
    have NM2:=hD (NM.out.call hg2)
    have hz:=hg2.size
    clear hc2 hg2
    go_wp2_with fail
    refine(ih _ _ _ N wild w2 p FR2.out.cur NM2.out).mono ?_
    rintro e w3 ⟨v3,l3,rfl,hown3,hfew,hc3,hg3⟩
    obtain ⟨A3,c3,rfl,_,_⟩:=hown3.slice
    have hbp:=bE_pos d
    have hbs:=bE_succ d
    have hfz:=few_sz hfew
    obtain ⟨xs,hox,hpush⟩:=(OW2.out.grown hg3 (fun k hk=>by injection hk with hk;omega)).add HV.out hR (stQ_mk (d:=(d+1)) (h:=⟨2,⟨#[]⟩,[],1+x⟩) (Aa:=none) (ca:=0) (cb:=c3) (bd:=l3) ⟨rfl,fun h=>absurd h Zq5⟩ ((hown3.tr rfl).mono (fun b _ hb=>by omega)) (Nat.zero_le _))
    have PU:=hD hpush
    have HSZ:=hD (show szE (mkT (d:=(d+1)) ⟨2,⟨#[]⟩,[],1+x⟩ l3)≤bE ((d+1)) by rw[szE_mk];show 0+(0+0+szT (d+1) l3)≤_;omega)
    have frk:=FR2.out.call hc3 hg3
    have hgk:=frk.gr.size
    clear hpush
    go_wp2_with (at_builtin;refine wpList_append_rd _ rfl _ _ 25 rfl w.heap.size 42 i0 _ 5 80 Try.underlying25 hi hz0 hz1 hz2 rfl Zq4 _ _ _ rfl (hox.alloc _) _ 1 1 _ rfl (rd_lit1 ?k0_2 rfl) ?k2_2 ?k3_2 ?k4_2 ?k5_2 ?_)
    try (case k0_2=>first|rfl|simp)
    case k2_2=>repeat' (first|rfl|apply And.intro)
    case k3_2=>simp only[maxLen];omega
    case k4_2=>omega
    case k5_2=>first|omega|(simp;omega)
    intro v6 w6 own6 gr6 hat
    have O6:=hD (PU.out _ _ _ own6 ((Below.refl _ _).alloc (Nat.le_refl _) _) gr6 (hat.imp id fun e=>e.trans Zq5))
    have F6:=hD ((frk.alloc _).own hp gr6 HG.out)
    clear gr6 own6 hox frk PU
    go_wp2_with fail
    go_roundw
    case rel=>exact ⟨t+1,l++[_],by go_num,by omega,(few_snoc hl hsm.out HSZ.out).1,(few_snoc hl hsm.out HSZ.out).2,O6.out,F6.out⟩
    case measure=>simp [intOf];omega
   have f0:(k==0)=false:=by simp [e0]
   by_cases e1:k=1
   ·subst e1
    cases wild
    ·go_wp2_with fail
     refine(ih _ _ _ N false w1 p FR1.out.cur NM.out).mono ?_
     rintro e w3 ⟨v3,l3,rfl,hown3,hfew,hc3,hg3⟩
     obtain ⟨A3,c3,rfl,_,_⟩:=hown3.slice
     have hbp:=bE_pos d
     have hbs:=bE_succ d
     have hfz:=few_sz hfew
     obtain ⟨xs,hox,hpush⟩:=(OW1.out.grown hg3 (fun k hk=>by injection hk with hk;omega)).add HV.out hR (stQ_mk (d:=(d+1)) (h:=⟨3,⟨#[]⟩,[],0⟩) (Aa:=none) (ca:=0) (cb:=c3) (bd:=l3) ⟨rfl,fun h=>absurd h Zq5⟩ ((hown3.tr rfl).mono (fun b _ hb=>by omega)) (Nat.zero_le _))
     have PU:=hD hpush
     have HSZ:=hD (show szE (mkT (d:=(d+1)) ⟨3,⟨#[]⟩,[],0⟩ l3)≤bE ((d+1)) by rw[szE_mk];show 0+(0+0+szT (d+1) l3)≤_;omega)
     have frk:=FR1.out.call hc3 hg3
     have hgk:=frk.gr.size
     clear hpush
     go_wp2_with (at_builtin;refine wpList_append_rd _ rfl _ _ 25 rfl w.heap.size 42 i0 _ 5 80 Try.underlying25 hi hz0 hz1 hz2 rfl Zq4 _ _ _ rfl (hox.alloc _) _ 1 1 _ rfl (rd_lit1 ?k0_3 rfl) ?k2_3 ?k3_3 ?k4_3 ?k5_3 ?_)
     try (case k0_3=>first|rfl|simp)
     case k2_3=>repeat' (first|rfl|apply And.intro)
     case k3_3=>simp only[maxLen];omega
     case k4_3=>omega
     case k5_3=>first|omega|(simp;omega)
     intro v6 w6 own6 gr6 hat
     have O6:=hD (PU.out _ _ _ own6 ((Below.refl _ _).alloc (Nat.le_refl _) _) gr6 (hat.imp id fun e=>e.trans Zq5))
     have F6:=hD ((frk.alloc _).own hp gr6 HG.out)
     clear gr6 own6 hox frk PU
     go_wp2_with fail
     go_roundw
     case rel=>exact ⟨t+1,l++[_],by go_num,by omega,(few_snoc hl hsm.out HSZ.out).1,(few_snoc hl hsm.out HSZ.out).2,O6.out,F6.out⟩
     case measure=>simp [intOf];omega
    ·go_wp2_with fail
     refine(l1Once_any 6 w1 p FR1.out.cur Zq1 Zq1).mono ?_
     rintro e w2 ⟨wild2,rfl,hc2,hg2⟩
     have FR2:=hD (FR1.out.call hc2 hg2)
     have OW2:=hD (OW1.out.grown hg2 (fun k hk=>by injection hk with hk;omega))
     have NM2:=hD (NM.out.call hg2)
     have hz:=hg2.size
     clear hc2 hg2
     go_wp2_with fail
     refine(ih _ _ _ N wild2 w2 p FR2.out.cur NM2.out).mono ?_
     rintro e w3 ⟨v3,l3,rfl,hown3,hfew,hc3,hg3⟩
     obtain ⟨A3,c3,rfl,_,_⟩:=hown3.slice
     have hbp:=bE_pos d
     have hbs:=bE_succ d
     have hfz:=few_sz hfew
     obtain ⟨xs,hox,hpush⟩:=(OW2.out.grown hg3 (fun k hk=>by injection hk with hk;omega)).add HV.out hR (stQ_mk (d:=(d+1)) (h:=⟨3,⟨#[]⟩,[],0⟩) (Aa:=none) (ca:=0) (cb:=c3) (bd:=l3) ⟨rfl,fun h=>absurd h Zq5⟩ ((hown3.tr rfl).mono (fun b _ hb=>by omega)) (Nat.zero_le _))
     have PU:=hD hpush
     have HSZ:=hD (show szE (mkT (d:=(d+1)) ⟨3,⟨#[]⟩,[],0⟩ l3)≤bE ((d+1)) by rw[szE_mk];show 0+(0+0+szT (d+1) l3)≤_;omega)
     have frk:=FR2.out.call hc3 hg3
     have hgk:=frk.gr.size
     clear hpush
     go_wp2_with (at_builtin;refine wpList_append_rd _ rfl _ _ 25 rfl w.heap.size 42 i0 _ 5 80 Try.underlying25 hi hz0 hz1 hz2 rfl Zq4 _ _ _ rfl (hox.alloc _) _ 1 1 _ rfl (rd_lit1 ?k0_4 rfl) ?k2_4 ?k3_4 ?k4_4 ?k5_4 ?_)
     try (case k0_4=>first|rfl|simp)
     case k2_4=>repeat' (first|rfl|apply And.intro)
     case k3_4=>simp only[maxLen];omega
     case k4_4=>omega
     case k5_4=>first|omega|(simp;omega)
     intro v6 w6 own6 gr6 hat
     have O6:=hD (PU.out _ _ _ own6 ((Below.refl _ _).alloc (Nat.le_refl _) _) gr6 (hat.imp id fun e=>e.trans Zq5))
     have F6:=hD ((frk.alloc _).own hp gr6 HG.out)
     clear gr6 own6 hox frk PU
     go_wp2_with fail
     go_roundw
     case rel=>exact ⟨t+1,l++[_],by go_num,by omega,(few_snoc hl hsm.out HSZ.out).1,(few_snoc hl hsm.out HSZ.out).2,O6.out,F6.out⟩
     case measure=>simp [intOf];omega
   have f1:(k==1)=false:=by simp [e1]
   by_cases e2:k=2
   ·subst e2
    go_wp2_with fail
    refine(l1Below_any m (m - 1) w1 p FR1.out.cur Zq1 Zq1 Zq1).mono ?_
    rintro e w2 ⟨j,hj0,hj1,rfl,hc2,hg2⟩
    obtain ⟨j,rfl⟩:∃ j':Nat,j=j':=⟨j.toNat,by omega⟩
    have NM2:=hD (NM.out.call hg2)
    have FR2:=hD (FR1.out.call hc2 hg2)
    have OW2:=hD (OW1.out.grown hg2 (fun k hk=>by injection hk with hk;omega))
    obtain ⟨b,off,a,rfl,hbl,q0,_,ha9⟩:=NM2.out.at_ (t:=j) Zq1
    have hz2s:=hg2.size
    clear hc2 hg2
    go_wp2_with fail
    obtain ⟨wa,hwa⟩:∃ wa,wa=w2.alloc (.cells #[.string a] 9):=⟨_,rfl⟩
    rw[←hwa]
    have ba:Below w2.heap.size w2 wa:=by rw[hwa];exact Zq0
    have ra:Rd wa 1 (some ⟨w2.heap.size,0,none⟩) 1 (strs [a]):=by rw[hwa];exact rd_lit1 (w:=w2) rfl rfl
    have FRa:=FR2.out.below ba
    have OWa:=OW2.out.below ba
    have NMa:=NM2.out.below ba
    have hsa:=ba.size
    clear hwa ba q0
    refine(l17Free_any _ _ _ _ _ _ N [a] wa NMa.rd NMa.len NMa.small h4 ra rfl Zq1).mono ?_
    rintro e w3 ⟨AF,nF,cF,F,rfl,hF,hnF,hF9,rF,b3,s3⟩
    have FR3:=hD (FRa.below b3)
    have OW3:=hD (OWa.below b3)
    have hp3:p<wa.heap.size:=FRa.cur.lt
    clear b3 ra NMa OWa FRa
    by_cases hn0:nF=0
    ·subst hn0
     go_wp2_with fail
     go_roundw
     case rel=>exact ⟨t+1,l,by go_num,by omega,by omega,hsm,OW3.out,FR3.out⟩
     case measure=>simp [intOf];omega
    ·obtain ⟨bF,oF,rfl,hbF,hbF2,hcF⟩:=rF.2 Zq1
     obtain ⟨s0,hs0⟩:∃ s0,F[0]?=some s0:=⟨_,List.getElem?_eq_getElem Zq1⟩
     have qF:w3.cell? ⟨bF,oF,none⟩=some (.string s0):=by have:=hcF 0 _ (strs_at hs0);simpa using this
     have hs09:s0.size≤9:=hF9 s0 (List.mem_of_getElem? hs0)
     have hnF0:0<nF:=by omega
     have hbFp:bF≠p:=by omega
     clear hcF rF hs0 hF9 hF
     go_upto_region 19 with (fail)
     go_cut [15] from 19 to 148 (fun g wz=>∃ (bg ba:Nat) (y:ByteArray),g=.pointer (some ⟨bg,0,none⟩)∧y.size≤9∧w1.heap.size≤ba∧wz.heap[bg]?=some (.cells #[.int .i64 1,.string y,.slice (some ⟨ba,0,none⟩) 1 1,.int .i64 0,.slice none 0 0] 42 (0,0))∧RdQ wz (·=ba) 1 (some ⟨ba,0,none⟩) 1 (strs [s0])∧Fr w p wz∧Fr w3 p wz)
     case first =>
      have frS:Fr w3 p w3:=Fr.start FR3.out.cur
      have hp3w:p<w3.heap.size:=by omega
      obtain ⟨J0,hJ0⟩:∃ J:Array Value→Array Bool→Act→World→Prop,J=(fun A0 Lz a W=>∃ (b1:Nat) (y:ByteArray) (ba:Nat) (bg:Nat),∃ x15 x82 x83 x84 x85 x86 x87 x88 x89:Value,a=⟨(((((((((A0.setIfInBounds 15 x15).setIfInBounds 82 x82).setIfInBounds 83 x83).setIfInBounds 84 x84).setIfInBounds 85 x85).setIfInBounds 86 x86).setIfInBounds 87 x87).setIfInBounds 88 x88).setIfInBounds 89 x89),[]⟩∧(Ls Lz 0→x82=.pointer (some ⟨p,0,none⟩))∧(Ls Lz 1→x83=.slice (some ⟨b1,0,none⟩) 5 5)∧(Ls Lz 2→x84=.string y∧y.size≤9)∧(Ls Lz 3→x85=.slice (some ⟨bF,oF,none⟩) nF cF)∧(Ls Lz 4→x86=.pointer (some ⟨bF,oF,none⟩))∧(Ls Lz 5→x87=.string s0)∧(Ls Lz 6→x88=.slice (some ⟨ba,0,none⟩) 1 1)∧(Ls Lz 7→x89=.agg #[.int .i64 1,.string y,.slice (some ⟨ba,0,none⟩) 1 1,.int .i64 0,.slice none 0 0]∧y.size≤9)∧(Ls Lz 8→x15=.pointer (some ⟨bg,0,none⟩))∧(Ls Lz 9→(∃ (bg ba:Nat) (y:ByteArray),x15=.pointer (some ⟨bg,0,none⟩)∧y.size≤9∧w1.heap.size≤ba∧W.heap[bg]?=some (.cells #[.int .i64 1,.string y,.slice (some ⟨ba,0,none⟩) 1 1,.int .i64 0,.slice none 0 0] 42 (0,0))∧RdQ W (·=ba) 1 (some ⟨ba,0,none⟩) 1 (strs [s0])∧Fr w p W∧Fr w3 p W))∧(Ls Lz 1→¬ Ls Lz 9→RdQ W (fun b=>w3.heap.size≤b) 1 (some ⟨b1,0,none⟩) 5 (strs [⟨#[120]⟩,⟨#[122]⟩,⟨#[115]⟩,⟨#[121]⟩,⟨#[104]⟩]))∧(Ls Lz 6→¬ Ls Lz 9→RdQ W (fun b=>w3.heap.size≤b) 1 (some ⟨ba,0,none⟩) 1 (strs [s0]))∧(Ls Lz 8→¬ Ls Lz 9→GZ w3.heap.size bg W)∧(¬ Ls Lz 9→Fr w3 p W)∧(Ls Lz 9→¬ Ls Lz 9→True)):=⟨_,rfl⟩
      have HJ0:=hD hJ0
      clear hJ0
      refine wp_region_inv2 Zq3 J0 ?_ ?_ ?_
      ·intro A0
       rw[HJ0.out]
       exact ⟨0,⟨#[]⟩,0,0,A0.getD 15 undef,A0.getD 82 undef,A0.getD 83 undef,A0.getD 84 undef,A0.getD 85 undef,A0.getD 86 undef,A0.getD 87 undef,A0.getD 88 undef,A0.getD 89 undef,by simp only[set_self],zn,zn,zn,zn,zn,zn,zn,zn,zn,zn,zn,zn,zn,fun _=>frS.drew,zn⟩
      ·intro Lz a W hsize hcl hJ i hi
       have hil:=ready_lt hi
       have hnl:=ready_not hi
       have hnow:=ready_now hi hsize
       have HCL:=hD hcl
       rw[HJ0.out] at hJ
       obtain ⟨b1,y,ba,bg,x15,x82,x83,x84,x85,x86,x87,x88,x89,rfl,HF⟩:=hJ
       have HH:=hD HF
       have hi2:i=0∨i=1∨i=2∨i=3∨i=4∨i=5∨i=6∨i=7∨i=8∨i=9:=by simp at hil;omega
       clear hil hcl HF
       rcases hi2 with rfl|rfl|rfl|rfl|rfl|rfl|rfl|rfl|rfl|rfl
       ·clear hi HCL
        simp only[zA,zB,zC]
        refine wpOp_one rfl rfl fun K hK=>?_
        go_wp2_with fail
        rw[HJ0.out]
        exact ⟨b1,y,ba,bg,x15,.pointer (some ⟨p,0,none⟩),x83,x84,x85,x86,x87,x88,x89,(by simp only[zA,zB,zC]),zT HH⟩
       ·have hns:¬ Ls Lz 9:=fun h=>hnl (dq HCL (dq HCL (dq HCL h 7) 2) 1)
        have V0:=(pj13 HH.out) hns
        clear hi HCL
        simp only[zA,zB,zC]
        refine wpOp_one rfl rfl fun K hK=>?_
        go_wp2_with fail
        rw[HJ0.out]
        exact ⟨W.heap.size,y,ba,bg,x15,x82,.slice (some ⟨W.heap.size,0,none⟩) 5 5,x84,x85,x86,x87,x88,x89,(by simp only[zA,zB,zC]),zk HH,fun _=>rfl,zk HH,zk HH,zk HH,zk HH,zk HH,zk HH,zk HH,Ba hns,fun _ _=>rdQ_topH rfl rfl (show w3.heap.size≤W.heap.size from V0.gr.size) rfl,(Bt (pj11 HH.out) fun x=>fr_rdQ x (Fr.alloc (Fr.start V0.cur) _) Zq1),(Bt (pj12 HH.out) fun x=>GZ.fr x (Fr.alloc (Fr.start V0.cur) _) Zq1),fun h=>Fr.call ((pj13 HH.out) (fun h2=>h h2.fwd)) (Fr.cur (Fr.alloc (Fr.start V0.cur) _)) (Fr.gr (Fr.alloc (Fr.start V0.cur) _)),Bb hns⟩
       ·have hns:¬ Ls Lz 9:=fun h=>hnl (dq HCL (dq HCL h 7) 2)
        have D0:=(pj0 HH.out) (rq hi 0)
        have D1:=(pj1 HH.out) (rq hi 1)
        have E1:=(pj10 HH.out) (rq hi 1) hns
        have V0:=(pj13 HH.out) hns
        have hk7:¬ Ls Lz 7:=fun h=>hnl (dq HCL h 2)
        clear hi HCL
        simp only[zA,zB,zC,D0,D1]
        refine wpOp_one rfl rfl fun K hK=>?_
        go_wp2_with fail
        refine(l1Pick_any _ 5 5 [⟨#[120]⟩,⟨#[122]⟩,⟨#[115]⟩,⟨#[121]⟩,⟨#[104]⟩] _ p V0.cur Zq5 Zq1 Zq1 E1.rd ?_).mono ?_
        ·intro e
         obtain ⟨_,_,e1,h1,_⟩:=E1.2 Zq1
         injection e1 with e1
         injection e1 with e1
         have h1:w3.heap.size≤_:=h1
         omega
        rintro e y1 ⟨y7,hy,rfl,hc,hg⟩
        have hy9:=few5 y7 hy
        go_wp2_with fail
        rw[HJ0.out]
        exact ⟨b1,y7,ba,bg,x15,x82,x83,.string y7,x85,x86,x87,x88,x89,(by simp only[zA,zB,zC,D0,D1]),zk HH,zk HH,fun _=>⟨rfl,hy9⟩,zk HH,zk HH,zk HH,zk HH,Ba hk7,zk HH,Ba hns,(Bt (pj10 HH.out) fun x=>fr_rdQ x (Fr.mk hc hg) Zq1),(Bt (pj11 HH.out) fun x=>fr_rdQ x (Fr.mk hc hg) Zq1),(Bt (pj12 HH.out) fun x=>GZ.fr x (Fr.mk hc hg) Zq1),fun h=>Fr.call ((pj13 HH.out) (fun h2=>h h2.fwd)) (Fr.cur (Fr.mk hc hg)) (Fr.gr (Fr.mk hc hg)),Bb hns⟩
       ·clear hi HCL
        simp only[zA,zB,zC]
        refine wpOp_one rfl rfl fun K hK=>?_
        go_wp2_with fail
        rw[HJ0.out]
        exact ⟨b1,y,ba,bg,x15,x82,x83,x84,.slice (some ⟨bF,oF,none⟩) nF cF,x86,x87,x88,x89,(by simp only[zA,zB,zC]),zT HH⟩
       ·have D3:=(pj3 HH.out) (rq hi 3)
        clear hi HCL
        simp only[zA,zB,zC,D3]
        refine wpOp_one rfl rfl fun K hK=>?_
        go_wp2_with fail
        rw[HJ0.out]
        exact ⟨b1,y,ba,bg,x15,x82,x83,x84,x85,.pointer (some ⟨bF,oF,none⟩),x87,x88,x89,(by simp only[zA,zB,zC,D3]),zT HH⟩
       ·have hns:¬ Ls Lz 9:=fun h=>hnl (dq HCL (dq HCL (dq HCL h 7) 6) 5)
        have D4:=(pj4 HH.out) (rq hi 4)
        have V0:=(pj13 HH.out) hns
        clear hi HCL
        simp only[zA,zB,zC,D4]
        have k0:=fr_cell V0 hbF2 hbFp qF
        refine wpOp_one rfl rfl fun K hK=>?_
        go_wp2_with fail
        rw[HJ0.out]
        exact ⟨b1,y,ba,bg,x15,x82,x83,x84,x85,x86,.string s0,x88,x89,(by simp only[zA,zB,zC,D4]),zT HH⟩
       ·have hns:¬ Ls Lz 9:=fun h=>hnl (dq HCL (dq HCL h 7) 6)
        have D5:=(pj5 HH.out) (rq hi 5)
        have V0:=(pj13 HH.out) hns
        have hk7:¬ Ls Lz 7:=fun h=>hnl (dq HCL h 6)
        clear hi HCL
        simp only[zA,zB,zC,D5]
        refine wpOp_one rfl rfl fun K hK=>?_
        go_wp2_with fail
        rw[HJ0.out]
        exact ⟨b1,y,W.heap.size,bg,x15,x82,x83,x84,x85,x86,x87,.slice (some ⟨W.heap.size,0,none⟩) 1 1,x89,(by simp only[zA,zB,zC,D5]),zk HH,zk HH,zk HH,zk HH,zk HH,zk HH,fun _=>rfl,Ba hk7,zk HH,Ba hns,(Bt (pj10 HH.out) fun x=>fr_rdQ x (Fr.alloc (Fr.start V0.cur) _) Zq1),fun _ _=>rdQ_topH rfl rfl (show w3.heap.size≤W.heap.size from V0.gr.size) rfl,(Bt (pj12 HH.out) fun x=>GZ.fr x (Fr.alloc (Fr.start V0.cur) _) Zq1),fun h=>Fr.call ((pj13 HH.out) (fun h2=>h h2.fwd)) (Fr.cur (Fr.alloc (Fr.start V0.cur) _)) (Fr.gr (Fr.alloc (Fr.start V0.cur) _)),Bb hns⟩
       ·have D2:=(pj2 HH.out) (rq hi 2)
        have D6:=(pj6 HH.out) (rq hi 6)
        clear hi HCL
        obtain ⟨D2,X2⟩:=D2
        simp only[zA,zB,zC,D2,D6]
        refine wpOp_one rfl rfl fun K hK=>?_
        go_wp2_with fail
        rw[HJ0.out]
        exact ⟨b1,y,ba,bg,x15,x82,x83,x84,x85,x86,x87,x88,.agg #[.int .i64 1,.string y,.slice (some ⟨ba,0,none⟩) 1 1,.int .i64 0,.slice none 0 0],(by simp only[zA,zB,zC,D2,D6]),zk HH,zk HH,zk HH,zk HH,zk HH,zk HH,zk HH,fun _=>⟨rfl,X2⟩,zk HH,zk HH,zw HH,zw HH,zw HH,zi HH,zw HH⟩
       ·have hns:¬ Ls Lz 9:=fun h=>hnl (dq HCL h 8)
        have V0:=(pj13 HH.out) hns
        clear hi HCL
        simp only[zA,zB,zC]
        refine wpOp_one rfl rfl fun K hK=>?_
        go_wp2_with fail
        rw[HJ0.out]
        exact ⟨b1,y,ba,W.heap.size,.pointer (some ⟨W.heap.size,0,none⟩),x82,x83,x84,x85,x86,x87,x88,x89,(by simp only[zA,zB,zC]),zk HH,zk HH,zk HH,zk HH,zk HH,zk HH,zk HH,zk HH,fun _=>rfl,Ba hns,(Bt (pj10 HH.out) fun x=>fr_rdQ x (Fr.alloc (Fr.start V0.cur) _) Zq1),(Bt (pj11 HH.out) fun x=>fr_rdQ x (Fr.alloc (Fr.start V0.cur) _) Zq1),fun _ _=>⟨(show w3.heap.size≤W.heap.size from V0.gr.size),heap_alloc_new W _⟩,fun h=>Fr.call ((pj13 HH.out) (fun h2=>h h2.fwd)) (Fr.cur (Fr.alloc (Fr.start V0.cur) _)) (Fr.gr (Fr.alloc (Fr.start V0.cur) _)),Bb hns⟩
       ·have hns:¬ Ls Lz 9:=hnl
        have D7:=(pj7 HH.out) (rq hi 7)
        have D8:=(pj8 HH.out) (rq hi 8)
        have E8:=(pj12 HH.out) (rq hi 8) hns
        have E6:=(pj11 HH.out) (dq HCL (rq hi 7) 6) hns
        have V0:=(pj13 HH.out) hns
        clear hi HCL
        obtain ⟨D7,X7⟩:=D7
        simp only[zA,zB,zC,D7,D8]
        obtain ⟨g1,g2⟩:=E8
        obtain ⟨z0,z1,z2,z3,z4⟩:=cells5G (lay:=Below.refl _ _) g2
        have f0:=free_at (j:=0) g2
        have f1:=free_at (j:=1) g2
        have f2:=free_at (j:=2) g2
        have f3:=free_at (j:=3) g2
        have f4:=free_at (j:=4) g2
        have lg:=lt_of_block g2
        have RL:=hD (fun (V:World) hV=>rel19 (V:=V) hp hR (FR3.out.call V0.cur V0.gr) V0 Zq1 g1 g2 E6 X7 D8 hV)
        clear g2
        refine wpOp_one rfl rfl fun K hK=>?_
        go_wp2_with fail
        rw[HJ0.out]
        exact ⟨b1,y,ba,bg,x15,x82,x83,x84,x85,x86,x87,x88,x89,(by first|(simp only[zA,zB,zC,D7,D8] <;> fail)|simp only[Act.put,zA,zB,zC,D7,D8]),zk HH,zk HH,zk HH,zk HH,zk HH,zk HH,zk HH,zk HH,zk HH,fun _=>RL.out _ rfl,zx hnow,zx hnow,zx hnow,zy hnow,zx hnow⟩
      ·intro Lz a W hsize hJ hr
       rw[HJ0.out] at hJ
       have hall:=all_listed hsize Zq3 hr
       obtain ⟨b1,y,ba,bg,x15,x82,x83,x84,x85,x86,x87,x88,x89,rfl,HF⟩:=hJ
       have HH:=hD HF
       have HEND:=(pj9 HH.out) (hall 9 Zq4)
       clear HF HH hall hr hsize
       simp only[zA,zB,zC]
       go_wp2_with fail
       go_meet
       exact HEND
     case rest =>
      obtain ⟨bg,ba,y,rfl,hy9,hbaR,xz,rz,frz,frz3⟩:=hcut
      obtain ⟨wz,rfl⟩:∃ wz:World,wz=wc:=⟨_,rfl⟩
      have H:=hD (And.intro rz (And.intro frz frz3))
      clear rz frz frz3 qF
      obtain ⟨k0,k1,k2,k3,k4⟩:=cells5G (lay:=Below.refl _ _) xz
      have lbg:=lt_of_block xz
      have hwzs:=H.out.2.2.gr.size
      have h35:w1.heap.size≤wz.heap.size:=by omega
      have ry:RdQ (wz.alloc (.cells #[.string a] 9)) (w1.heap.size≤·) 1 (some ⟨wz.heap.size,0,none⟩) 1 (strs [a]):=rdQ_lit rfl rfl h35
      have by1:Below wz.heap.size wz (wz.alloc (.cells #[.string a] 9)):=Zq0
      have by2:Below (wz.alloc (.cells #[.string a] 9)).heap.size (wz.alloc (.cells #[.string a] 9)) ((wz.alloc (.cells #[.string a] 9)).alloc (.cells #[.int .i64 1,.string y,.slice (some ⟨ba,0,none⟩) 1 1,.int .i64 0,.slice none 0 0] 42)):=Zq0
      have sg:=stQ_mk (d:=d) (h:=⟨1,y,[s0],0⟩) (Aa:=some ⟨ba,0,none⟩) (ca:=1) (cb:=0) (((H.out.1.mono (P':=(w1.heap.size≤·)) (fun b _ h=>by rw[h];exact hbaR)).below by1).below by2) (trQ_nil (A:=none) d) (Nat.le_refl _)
      have tg:=(ElQ.one sg).tr (rdQ_lit (w:=(wz.alloc (.cells #[.string a] 9))) (base:=w1.heap.size) (b:=wz.heap.size+1) (cs:=#[.int .i64 1,.string y,.slice (some ⟨ba,0,none⟩) 1 1,.int .i64 0,.slice none 0 0]) (e:=42) (n:=1) (size:=5) Zq5 rfl Zq1) rfl
      have hbp:=bE_pos d
      have hbs:=bE_succ d
      have hszg:szT (d+1) [mkT (d:=d) ⟨1,y,[s0],0⟩ []]≤40:=by rw[szT_one,szE_mk,szT_nil];show 1+(y.size+(1+(s0.size+0)+0))≤_;omega
      have HH:=hD (And.intro ry (And.intro by2 (And.intro tg by1)))
      clear ry by1 by2 sg tg
      obtain ⟨xs,hox,hpush⟩:=(fr_own OW3.out ((H.out.2.2.below HH.out.2.2.2).below HH.out.2.1) hp).add HV.out hR (stQ_mk (d:=(d+1)) (h:=⟨4,⟨#[]⟩,[a],0⟩) (Aa:=some ⟨wz.heap.size,0,none⟩) (ca:=1) (cb:=1) (bd:=[mkT (d:=d) ⟨1,y,[s0],0⟩ []]) (HH.out.1.below HH.out.2.1) HH.out.2.2.1 (Nat.le_refl _))
      have PU:=hD hpush
      have HSZ:=hD (show szE (mkT (d:=(d+1)) ⟨4,⟨#[]⟩,[a],0⟩ [mkT (d:=d) ⟨1,y,[s0],0⟩ []])≤bE ((d+1)) by rw[szE_mk];show 0+(1+(a.size+0)+szT (d+1) [mkT (d:=d) ⟨1,y,[s0],0⟩ []])≤_;omega)
      have frk:=(H.out.2.1.below HH.out.2.2.2).below HH.out.2.1
      have hgk:=frk.gr.size
      clear hpush
      go_wp2_with (at_builtin;refine wpList_append_rd _ rfl _ _ 25 rfl w.heap.size 42 i0 _ 5 80 Try.underlying25 hi hz0 hz1 hz2 rfl Zq4 _ _ _ rfl (hox.alloc _) _ 1 1 _ rfl (rd_lit1 ?k0_5 rfl) ?k2_5 ?k3_5 ?k4_5 ?k5_5 ?_)
      try (case k0_5=>first|rfl|simp)
      case k2_5=>repeat' (first|rfl|apply And.intro)
      case k3_5=>simp only[maxLen];omega
      case k4_5=>omega
      case k5_5=>first|omega|(simp;omega)
      intro v6 w6 own6 gr6 hat
      have O6:=hD (PU.out _ _ _ own6 ((Below.refl _ _).alloc (Nat.le_refl _) _) gr6 (hat.imp id fun e=>e.trans Zq5))
      have F6:=hD ((frk.alloc _).own hp gr6 HG.out)
      clear gr6 own6 hox frk PU
      go_wp2_with fail
      go_roundw
      case rel=>exact ⟨t+1,l++[_],by go_num,by omega,(few_snoc hl hsm.out HSZ.out).1,(few_snoc hl hsm.out HSZ.out).2,O6.out,F6.out⟩
      case measure=>simp [intOf];omega
   have f2:(k==2)=false:=by simp [e2]
   by_cases e3:k=3
   ·subst e3
    cases hh:hasS N ⟨#[122,57]⟩
    ·by_cases hm4:m<4
     ·have hN1:=NM.out
      go_wp2_with (go_at_call 30;refine(l1Has_any _ _ _ N _ _ hN1.rd hN1.len Zq1).mono ?_;rintro e w' ⟨rfl,rfl⟩;rw[hh])
      obtain ⟨wa,hwa⟩:∃ wa,wa=w1.alloc (.cells #[.string ⟨#[122,57]⟩] 9):=⟨_,rfl⟩
      rw[←hwa]
      have ba:Below w1.heap.size w1 wa:=by rw[hwa];exact Zq0
      have ra:RdQ wa (w1.heap.size≤·) 1 (some ⟨w1.heap.size,0,none⟩) 1 (strs [⟨#[122,57]⟩]):=by rw[hwa];exact rdQ_lit rfl rfl (Nat.le_refl _)
      have FRa:=FR1.out.below ba
      have hsa:=ba.size
      clear hwa hN1
      refine(l17Clean_any _ _ _ N ⟨#[122,57]⟩ wa p FRa.cur (NM.out.below ba) Zq4).mono ?_
      rintro e w2 ⟨A3,c3,l3,rfl,htr,hsz,hc2,hg2⟩
      obtain ⟨l4,htr4,hsz4⟩:=htr.upTo d
      have hbp:=bE_pos d
      have hbs:=bE_succ d
      have hsz5:szT (d+1) l4≤100:=by rw[hsz4];exact hsz
      obtain ⟨xs,hox,hpush⟩:=((OW1.out.below ba).grown hg2 (fun k hk=>by injection hk with hk;omega)).add HV.out hR (stQ_mk (d:=(d+1)) (h:=⟨5,⟨#[]⟩,[⟨#[122,57]⟩],0⟩) (Aa:=some ⟨w1.heap.size,0,none⟩) (ca:=1) (cb:=c3) (bd:=l4) (ra.call hg2 Zq1) (htr4.mono (fun b _ hb=>Nat.le_trans hsa hb)) (Nat.le_refl _))
      have PU:=hD hpush
      have HSZ:=hD (show szE (mkT (d:=(d+1)) ⟨5,⟨#[]⟩,[⟨#[122,57]⟩],0⟩ l4)≤bE ((d+1)) by rw[szE_mk];show 0+(1+2+szT (d+1) l4)≤_;omega)
      have frk:=FRa.call hc2 hg2
      have hgk:=frk.gr.size
      clear hpush
      go_wp2_with (at_builtin;refine wpList_append_rd _ rfl _ _ 25 rfl w.heap.size 42 i0 _ 5 80 Try.underlying25 hi hz0 hz1 hz2 rfl Zq4 _ _ _ rfl (hox.alloc _) _ 1 1 _ rfl (rd_lit1 ?k0_6 rfl) ?k2_6 ?k3_6 ?k4_6 ?k5_6 ?_)
      try (case k0_6=>first|rfl|simp)
      case k2_6=>repeat' (first|rfl|apply And.intro)
      case k3_6=>simp only[maxLen];omega
      case k4_6=>omega
      case k5_6=>first|omega|(simp;omega)
      intro v6 w6 own6 gr6 hat
      have O6:=hD (PU.out _ _ _ own6 ((Below.refl _ _).alloc (Nat.le_refl _) _) gr6 (hat.imp id fun e=>e.trans Zq5))
      have F6:=hD ((frk.alloc _).own hp gr6 HG.out)
      clear gr6 own6 hox frk PU
      go_wp2_with fail
      go_roundw
      case rel=>exact ⟨t+1,l++[_],by go_num,by omega,(few_snoc hl hsm.out HSZ.out).1,(few_snoc hl hsm.out HSZ.out).2,O6.out,F6.out⟩
      case measure=>simp [intOf];omega
     ·have hN1:=NM.out
      go_wp2_with (go_at_call 30;refine(l1Has_any _ _ _ N _ _ hN1.rd hN1.len Zq1).mono ?_;rintro e w' ⟨rfl,rfl⟩;rw[hh])
      go_roundw
      case rel=>exact ⟨t+1,l,by go_num,by omega,by omega,hsm,OW1.out,FR1.out⟩
      case measure=>simp [intOf];omega
    ·have hN1:=NM.out
     go_wp2_with (go_at_call 30;refine(l1Has_any _ _ _ N _ _ hN1.rd hN1.len Zq1).mono ?_;rintro e w' ⟨rfl,rfl⟩;rw[hh])
     go_roundw
     case rel=>exact ⟨t+1,l,by go_num,by omega,by omega,hsm,OW1.out,FR1.out⟩
     case measure=>simp [intOf];omega
   have f3:(k==3)=false:=by simp [e3]
   by_cases e4:k=4
   ·subst e4
    cases wild
    ·go_wp2_with fail
     go_roundw
     case rel=>exact ⟨t+1,l,by go_num,by omega,by omega,hsm,OW1.out,FR1.out⟩
     case measure=>simp [intOf];omega
    ·obtain ⟨bn,on,rfl,hbn,hcn⟩:=NM.out.rd.2 Zq1
     have hbp:=bE_pos d
     have hbs:=bE_succ d
     have hnp:bn≠p:=NM.out.ne _ rfl
     have hND:∀ i,(ndx N i).size≤9:=fun i=>by
      unfold ndx
      rw[List.getD_eq_getElem?_getD]
      cases hi:N[i]? with
      | none=>exact Nat.zero_le _
      | some s=>exact NM.out.small s (List.mem_of_getElem? hi)
     have hS:∀ i,i<m→w1.cell? ⟨bn,on+i,none⟩=some (.string (ndx N i)):=fun i hi=>hcn i _ (by
      unfold ndx
      have hl:i<N.length:=by rw[NM.out.len];exact hi
      rw[List.getD_eq_getElem?_getD,List.getElem?_eq_getElem hl]
      exact strs_at (List.getElem?_eq_getElem hl))
     have HND:=hD hND
     have HS:=hD hS
     clear hcn hS hND
     go_upto_region 26 with (fail)
     have frS:Fr w1 p w1:=Fr.start FR1.out.cur
     obtain ⟨J0,hJ0⟩:∃ J:Array Value→Array Bool→Act→World→Prop,J=(fun A0 Lz a W=>∃ (j:Nat) (b1:Nat) (y:ByteArray) (b2:Nat) (b4:Nat) (A6:Option Addr) (c6:Nat),∃ x9 x119 x120 x121 x122 x123 x124 x125 x126 x127 x128 x129 x130 x131 x132 x133:Value,a=⟨((((((((((((((((A0.setIfInBounds 9 x9).setIfInBounds 119 x119).setIfInBounds 120 x120).setIfInBounds 121 x121).setIfInBounds 122 x122).setIfInBounds 123 x123).setIfInBounds 124 x124).setIfInBounds 125 x125).setIfInBounds 126 x126).setIfInBounds 127 x127).setIfInBounds 128 x128).setIfInBounds 129 x129).setIfInBounds 130 x130).setIfInBounds 131 x131).setIfInBounds 132 x132).setIfInBounds 133 x133),[]⟩∧(Ls Lz 0→x119=.slice Ao l.length co)∧(Ls Lz 1→x120=.slice (some ⟨bn,on,none⟩) m c)∧(Ls Lz 2→x121=.pointer (some ⟨p,0,none⟩))∧(Ls Lz 3→x122=.slice (some ⟨bn,on,none⟩) m c)∧(Ls Lz 4→x123=.int .i64 m)∧(Ls Lz 5→x124=.int .i64 j∧j<m)∧(Ls Lz 6→x125=.pointer (some ⟨bn,on+j,none⟩)∧j<m)∧(Ls Lz 7→x126=.string (ndx N j))∧(Ls Lz 8→x127=.pointer (some ⟨p,0,none⟩))∧(Ls Lz 9→x128=.slice (some ⟨b1,0,none⟩) 3 3)∧(Ls Lz 10→x129=.string y∧y.size≤9)∧(Ls Lz 11→x130=.slice (some ⟨b2,0,none⟩) 2 2∧y.size≤9)∧(Ls Lz 12→x131=.agg #[.int .i64 6,.string ⟨#[]⟩,.slice (some ⟨b2,0,none⟩) 2 2,.int .i64 0,.slice none 0 0]∧y.size≤9)∧(Ls Lz 13→x132=.slice (some ⟨b4,0,none⟩) 1 1)∧(Ls Lz 14→x133=.slice A6 (l.length+1) c6)∧(Ls Lz 15→(∃ (s:Tr (d+1+1)) (A6:Option Addr) (c6:Nat),x9=.slice A6 (l.length+1) c6∧szE s≤bE (d+1)∧OwnT W w.heap.size (d+1) (.slice A6 (l.length+1) c6) (l++[s])∧Fr w p W))∧(Ls Lz 9→¬ Ls Lz 14→RdQ W (fun b=>w1.heap.size≤b) 1 (some ⟨b1,0,none⟩) 3 (strs [⟨#[114]⟩,⟨#[115,49]⟩,⟨#[114]⟩]))∧(Ls Lz 11→¬ Ls Lz 14→RdQ W (fun b=>w1.heap.size≤b) 1 (some ⟨b2,0,none⟩) 2 (strs [(ndx N j),y]))∧(Ls Lz 13→¬ Ls Lz 14→LitE (d+1) (bE (d+1)) w1.heap.size W b4)∧(¬ Ls Lz 14→Fr w1 p W)∧(¬ Ls Lz 14→x9=A0.getD 9 undef)∧(Ls Lz 14→¬ Ls Lz 15→(∃ (s:Tr (d+1+1)),szE s≤bE (d+1)∧OwnT W w.heap.size (d+1) (.slice A6 (l.length+1) c6) (l++[s])∧Fr w p W))):=⟨_,rfl⟩
     have HJ0:=hD hJ0
     clear hJ0
     refine wp_region_inv2 Zq3 J0 ?_ ?_ ?_
     ·intro A0
      rw[HJ0.out]
      exact ⟨0,0,⟨#[]⟩,0,0,none,0,A0.getD 9 undef,A0.getD 119 undef,A0.getD 120 undef,A0.getD 121 undef,A0.getD 122 undef,A0.getD 123 undef,A0.getD 124 undef,A0.getD 125 undef,A0.getD 126 undef,A0.getD 127 undef,A0.getD 128 undef,A0.getD 129 undef,A0.getD 130 undef,A0.getD 131 undef,A0.getD 132 undef,A0.getD 133 undef,by simp only[set_self],zn,zn,zn,zn,zn,zn,zn,zn,zn,zn,zn,zn,zn,zn,zn,zn,zn,zn,zn,fun _=>frS.drew,fun _=>rfl,zn⟩
     ·intro Lz a W hsize hcl hJ i hi
      have hil:=ready_lt hi
      have hnl:=ready_not hi
      have hnow:=ready_now hi hsize
      have HCL:=hD hcl
      rw[HJ0.out] at hJ
      obtain ⟨j,b1,y,b2,b4,A6,c6,x9,x119,x120,x121,x122,x123,x124,x125,x126,x127,x128,x129,x130,x131,x132,x133,rfl,HF⟩:=hJ
      have HH:=hD HF
      have hi2:i=0∨i=1∨i=2∨i=3∨i=4∨i=5∨i=6∨i=7∨i=8∨i=9∨i=10∨i=11∨i=12∨i=13∨i=14∨i=15:=by simp at hil;omega
      clear hil hcl HF
      rcases hi2 with rfl|rfl|rfl|rfl|rfl|rfl|rfl|rfl|rfl|rfl|rfl|rfl|rfl|rfl|rfl|rfl
      ·have hns:¬ Ls Lz 14:=fun h=>hnl (dq HCL h 0)
       have V0:=(pj19 HH.out) hns
       have V1:=hD ((pj20 HH.out) hns)
       have hnla:¬ Ls Lz 15:=fun h=>hns (HCL.out.dep2 h 14 Zq3)
       clear hi HCL
       simp only[zA,zB,zC]
       refine wpOp_one rfl rfl fun K hK=>?_
       go_wp2_with fail
       rw[HJ0.out]
       exact ⟨j,b1,y,b2,b4,A6,c6,x9,x9,x120,x121,x122,x123,x124,x125,x126,x127,x128,x129,x130,x131,x132,x133,(by simp only[zA,zB,zC]),fun _=>V1.out,zk HH,zk HH,zk HH,zk HH,zk HH,zk HH,zk HH,zk HH,zk HH,zk HH,zk HH,zk HH,zk HH,zk HH,zk HH,zw HH,zw HH,zw HH,zi HH,zi HH,zw HH⟩
      ·clear hi HCL
       simp only[zA,zB,zC]
       refine wpOp_one rfl rfl fun K hK=>?_
       go_wp2_with fail
       rw[HJ0.out]
       exact ⟨j,b1,y,b2,b4,A6,c6,x9,x119,.slice (some ⟨bn,on,none⟩) m c,x121,x122,x123,x124,x125,x126,x127,x128,x129,x130,x131,x132,x133,(by simp only[zA,zB,zC]),zT HH⟩
      ·clear hi HCL
       simp only[zA,zB,zC]
       refine wpOp_one rfl rfl fun K hK=>?_
       go_wp2_with fail
       rw[HJ0.out]
       exact ⟨j,b1,y,b2,b4,A6,c6,x9,x119,x120,.pointer (some ⟨p,0,none⟩),x122,x123,x124,x125,x126,x127,x128,x129,x130,x131,x132,x133,(by simp only[zA,zB,zC]),zT HH⟩
      ·clear hi HCL
       simp only[zA,zB,zC]
       refine wpOp_one rfl rfl fun K hK=>?_
       go_wp2_with fail
       rw[HJ0.out]
       exact ⟨j,b1,y,b2,b4,A6,c6,x9,x119,x120,x121,.slice (some ⟨bn,on,none⟩) m c,x123,x124,x125,x126,x127,x128,x129,x130,x131,x132,x133,(by simp only[zA,zB,zC]),zT HH⟩
      ·have D3:=(pj3 HH.out) (rq hi 3)
       clear hi HCL
       simp only[zA,zB,zC,D3]
       refine wpOp_one rfl rfl fun K hK=>?_
       go_wp2_with fail
       rw[HJ0.out]
       exact ⟨j,b1,y,b2,b4,A6,c6,x9,x119,x120,x121,x122,.int .i64 m,x124,x125,x126,x127,x128,x129,x130,x131,x132,x133,(by simp only[zA,zB,zC,D3]),zT HH⟩
      ·have hns:¬ Ls Lz 14:=fun h=>hnl (dq HCL (dq HCL (dq HCL (dq HCL (dq HCL (dq HCL h 13) 12) 11) 7) 6) 5)
       have D2:=(pj2 HH.out) (rq hi 2)
       have D4:=(pj4 HH.out) (rq hi 4)
       have V0:=(pj19 HH.out) hns
       have V1:=hD ((pj20 HH.out) hns)
       have hk6:¬ Ls Lz 6:=fun h=>hnl (dq HCL h 5)
       have hk7:¬ Ls Lz 7:=fun h=>hnl (dq HCL (dq HCL h 6) 5)
       have hk11:¬ Ls Lz 11:=fun h=>hnl (dq HCL (dq HCL (dq HCL h 7) 6) 5)
       have hnla:¬ Ls Lz 15:=fun h=>hns (HCL.out.dep2 h 14 Zq3)
       clear hi HCL
       simp only[zA,zB,zC,D2,D4]
       refine wpOp_one rfl rfl fun K hK=>?_
       go_wp2_with fail
       refine(l1Below_any m (m - 1) _ p V0.cur Zq1 Zq1 Zq1).mono ?_
       rintro e y1 ⟨q7,hq0,hq1,rfl,hc,hg⟩
       obtain ⟨j7,rfl⟩:∃ j7:Nat,q7=j7:=⟨q7.toNat,by omega⟩
       have hj7:j7<m:=by omega
       go_wp2_with fail
       rw[HJ0.out]
       exact ⟨j7,b1,y,b2,b4,A6,c6,x9,x119,x120,x121,x122,x123,.int .i64 j7,x125,x126,x127,x128,x129,x130,x131,x132,x133,(by simp only[zA,zB,zC,D2,D4]),zk HH,zk HH,zk HH,zk HH,zk HH,fun _=>⟨rfl,hj7⟩,Ba hk6,Ba hk7,zk HH,zk HH,zk HH,Ba hk11,zk HH,zk HH,zk HH,Ba hnla,(Bt (pj16 HH.out) fun x=>fr_rdQ x (Fr.mk hc hg) Zq1),Bb hk11,(Bt (pj18 HH.out) fun x=>LitE.fr x (Fr.mk hc hg) Zq1),fun h=>Fr.call ((pj19 HH.out) (fun h2=>h h2.fwd)) (Fr.cur (Fr.mk hc hg)) (Fr.gr (Fr.mk hc hg)),fun h=>((pj20 HH.out) (fun h2=>h h2.fwd)),Bb hns⟩
      ·have D1:=(pj1 HH.out) (rq hi 1)
       have D5:=(pj5 HH.out) (rq hi 5)
       clear hi HCL
       obtain ⟨D5,X5⟩:=D5
       simp only[zA,zB,zC,D1,D5]
       refine wpOp_one rfl rfl fun K hK=>?_
       go_wp2_with fail
       rw[HJ0.out]
       exact ⟨j,b1,y,b2,b4,A6,c6,x9,x119,x120,x121,x122,x123,x124,.pointer (some ⟨bn,on+j,none⟩),x126,x127,x128,x129,x130,x131,x132,x133,(by simp only[zA,zB,zC,D1,D5]),zk HH,zk HH,zk HH,zk HH,zk HH,zk HH,fun _=>⟨rfl,X5⟩,zk HH,zk HH,zk HH,zk HH,zk HH,zk HH,zk HH,zk HH,zk HH,zw HH,zw HH,zw HH,zi HH,zi HH,zw HH⟩
      ·have hns:¬ Ls Lz 14:=fun h=>hnl (dq HCL (dq HCL (dq HCL (dq HCL h 13) 12) 11) 7)
       have D6:=(pj6 HH.out) (rq hi 6)
       have V0:=(pj19 HH.out) hns
       have V1:=hD ((pj20 HH.out) hns)
       have hnla:¬ Ls Lz 15:=fun h=>hns (HCL.out.dep2 h 14 Zq3)
       clear hi HCL
       obtain ⟨D6,X6⟩:=D6
       simp only[zA,zB,zC,D6]
       have k0:=fr_cell V0 hbn hnp (HS.out j X6)
       refine wpOp_one rfl rfl fun K hK=>?_
       go_wp2_with fail
       rw[HJ0.out]
       exact ⟨j,b1,y,b2,b4,A6,c6,x9,x119,x120,x121,x122,x123,x124,x125,.string (ndx N j),x127,x128,x129,x130,x131,x132,x133,(by simp only[zA,zB,zC,D6]),zT HH⟩
      ·clear hi HCL
       simp only[zA,zB,zC]
       refine wpOp_one rfl rfl fun K hK=>?_
       go_wp2_with fail
       rw[HJ0.out]
       exact ⟨j,b1,y,b2,b4,A6,c6,x9,x119,x120,x121,x122,x123,x124,x125,x126,.pointer (some ⟨p,0,none⟩),x128,x129,x130,x131,x132,x133,(by simp only[zA,zB,zC]),zT HH⟩
      ·have hns:¬ Ls Lz 14:=fun h=>hnl (dq HCL (dq HCL (dq HCL (dq HCL (dq HCL h 13) 12) 11) 10) 9)
       have V0:=(pj19 HH.out) hns
       have V1:=hD ((pj20 HH.out) hns)
       have hnla:¬ Ls Lz 15:=fun h=>hns (HCL.out.dep2 h 14 Zq3)
       clear hi HCL
       simp only[zA,zB,zC]
       refine wpOp_one rfl rfl fun K hK=>?_
       go_wp2_with fail
       rw[HJ0.out]
       exact ⟨j,W.heap.size,y,b2,b4,A6,c6,x9,x119,x120,x121,x122,x123,x124,x125,x126,x127,.slice (some ⟨W.heap.size,0,none⟩) 3 3,x129,x130,x131,x132,x133,(by simp only[zA,zB,zC]),zk HH,zk HH,zk HH,zk HH,zk HH,zk HH,zk HH,zk HH,zk HH,fun _=>rfl,zk HH,zk HH,zk HH,zk HH,zk HH,Ba hnla,fun _ _=>rdQ_topH rfl rfl (show w1.heap.size≤W.heap.size from V0.gr.size) rfl,(Bt (pj17 HH.out) fun x=>fr_rdQ x (Fr.alloc (Fr.start V0.cur) _) Zq1),(Bt (pj18 HH.out) fun x=>LitE.fr x (Fr.alloc (Fr.start V0.cur) _) Zq1),fun h=>Fr.call ((pj19 HH.out) (fun h2=>h h2.fwd)) (Fr.cur (Fr.alloc (Fr.start V0.cur) _)) (Fr.gr (Fr.alloc (Fr.start V0.cur) _)),fun h=>((pj20 HH.out) (fun h2=>h h2.fwd)),Bb hns⟩
      ·have hns:¬ Ls Lz 14:=fun h=>hnl (dq HCL (dq HCL (dq HCL (dq HCL h 13) 12) 11) 10)
       have D8:=(pj8 HH.out) (rq hi 8)
       have D9:=(pj9 HH.out) (rq hi 9)
       have E9:=(pj16 HH.out) (rq hi 9) hns
       have V0:=(pj19 HH.out) hns
       have V1:=hD ((pj20 HH.out) hns)
       have hk11:¬ Ls Lz 11:=fun h=>hnl (dq HCL h 10)
       have hk12:¬ Ls Lz 12:=fun h=>hnl (dq HCL (dq HCL h 11) 10)
       have hnla:¬ Ls Lz 15:=fun h=>hns (HCL.out.dep2 h 14 Zq3)
       clear hi HCL
       simp only[zA,zB,zC,D8,D9]
       refine wpOp_one rfl rfl fun K hK=>?_
       go_wp2_with fail
       refine(l1Pick_any _ 3 3 [⟨#[114]⟩,⟨#[115,49]⟩,⟨#[114]⟩] _ p V0.cur Zq5 Zq1 Zq1 E9.rd ?_).mono ?_
       ·intro e
        obtain ⟨_,_,e1,h1,_⟩:=E9.2 Zq1
        injection e1 with e1
        injection e1 with e1
        have h1:w1.heap.size≤_:=h1
        omega
       rintro e y1 ⟨y7,hy,rfl,hc,hg⟩
       have hy9:=few3 y7 hy
       go_wp2_with fail
       rw[HJ0.out]
       exact ⟨j,b1,y7,b2,b4,A6,c6,x9,x119,x120,x121,x122,x123,x124,x125,x126,x127,x128,.string y7,x130,x131,x132,x133,(by simp only[zA,zB,zC,D8,D9]),zk HH,zk HH,zk HH,zk HH,zk HH,zk HH,zk HH,zk HH,zk HH,zk HH,fun _=>⟨rfl,hy9⟩,Ba hk11,Ba hk12,zk HH,zk HH,Ba hnla,(Bt (pj16 HH.out) fun x=>fr_rdQ x (Fr.mk hc hg) Zq1),Bb hk11,(Bt (pj18 HH.out) fun x=>LitE.fr x (Fr.mk hc hg) Zq1),fun h=>Fr.call ((pj19 HH.out) (fun h2=>h h2.fwd)) (Fr.cur (Fr.mk hc hg)) (Fr.gr (Fr.mk hc hg)),fun h=>((pj20 HH.out) (fun h2=>h h2.fwd)),Bb hns⟩
      ·have hns:¬ Ls Lz 14:=fun h=>hnl (dq HCL (dq HCL (dq HCL h 13) 12) 11)
       have D7:=(pj7 HH.out) (rq hi 7)
       have D10:=(pj10 HH.out) (rq hi 10)
       have V0:=(pj19 HH.out) hns
       have V1:=hD ((pj20 HH.out) hns)
       have hk12:¬ Ls Lz 12:=fun h=>hnl (dq HCL h 11)
       have hnla:¬ Ls Lz 15:=fun h=>hns (HCL.out.dep2 h 14 Zq3)
       clear hi HCL
       obtain ⟨D10,X10⟩:=D10
       simp only[zA,zB,zC,D7,D10]
       refine wpOp_one rfl rfl fun K hK=>?_
       go_wp2_with fail
       rw[HJ0.out]
       exact ⟨j,b1,y,W.heap.size,b4,A6,c6,x9,x119,x120,x121,x122,x123,x124,x125,x126,x127,x128,x129,.slice (some ⟨W.heap.size,0,none⟩) 2 2,x131,x132,x133,(by simp only[zA,zB,zC,D7,D10]),zk HH,zk HH,zk HH,zk HH,zk HH,zk HH,zk HH,zk HH,zk HH,zk HH,zk HH,fun _=>⟨rfl,X10⟩,Ba hk12,zk HH,zk HH,Ba hnla,(Bt (pj16 HH.out) fun x=>fr_rdQ x (Fr.alloc (Fr.start V0.cur) _) Zq1),fun _ _=>rdQ_topH rfl rfl (show w1.heap.size≤W.heap.size from V0.gr.size) rfl,(Bt (pj18 HH.out) fun x=>LitE.fr x (Fr.alloc (Fr.start V0.cur) _) Zq1),fun h=>Fr.call ((pj19 HH.out) (fun h2=>h h2.fwd)) (Fr.cur (Fr.alloc (Fr.start V0.cur) _)) (Fr.gr (Fr.alloc (Fr.start V0.cur) _)),fun h=>((pj20 HH.out) (fun h2=>h h2.fwd)),Bb hns⟩
      ·have D11:=(pj11 HH.out) (rq hi 11)
       clear hi HCL
       obtain ⟨D11,X11⟩:=D11
       simp only[zA,zB,zC,D11]
       refine wpOp_one rfl rfl fun K hK=>?_
       go_wp2_with fail
       rw[HJ0.out]
       exact ⟨j,b1,y,b2,b4,A6,c6,x9,x119,x120,x121,x122,x123,x124,x125,x126,x127,x128,x129,x130,.agg #[.int .i64 6,.string ⟨#[]⟩,.slice (some ⟨b2,0,none⟩) 2 2,.int .i64 0,.slice none 0 0],x132,x133,(by simp only[zA,zB,zC,D11]),zk HH,zk HH,zk HH,zk HH,zk HH,zk HH,zk HH,zk HH,zk HH,zk HH,zk HH,zk HH,fun _=>⟨rfl,X11⟩,zk HH,zk HH,zk HH,zw HH,zw HH,zw HH,zi HH,zi HH,zw HH⟩
      ·have hns:¬ Ls Lz 14:=fun h=>hnl (dq HCL h 13)
       have D12:=(pj12 HH.out) (rq hi 12)
       have E11:=(pj17 HH.out) (dq HCL (rq hi 12) 11) hns
       have V0:=(pj19 HH.out) hns
       have V1:=hD ((pj20 HH.out) hns)
       have hnla:¬ Ls Lz 15:=fun h=>hns (HCL.out.dep2 h 14 Zq3)
       clear hi HCL
       obtain ⟨D12,X12⟩:=D12
       simp only[zA,zB,zC,D12]
       refine wpOp_one rfl rfl fun K hK=>?_
       go_wp2_with fail
       rw[HJ0.out]
       exact ⟨j,b1,y,b2,W.heap.size,A6,c6,x9,x119,x120,x121,x122,x123,x124,x125,x126,x127,x128,x129,x130,x131,.slice (some ⟨W.heap.size,0,none⟩) 1 1,x133,(by simp only[zA,zB,zC,D12]),zk HH,zk HH,zk HH,zk HH,zk HH,zk HH,zk HH,zk HH,zk HH,zk HH,zk HH,zk HH,zk HH,fun _=>rfl,zk HH,Ba hnla,(Bt (pj16 HH.out) fun x=>fr_rdQ x (Fr.alloc (Fr.start V0.cur) _) Zq1),(Bt (pj17 HH.out) fun x=>fr_rdQ x (Fr.alloc (Fr.start V0.cur) _) Zq1),fun _ _=>⟨_,_,rdQ_topH rfl rfl (show w1.heap.size≤W.heap.size from V0.gr.size) rfl,stQ_mk (d:=d+1) (h:=⟨6,⟨#[]⟩,[(ndx N j),y],0⟩) (Aa:=some ⟨b2,0,none⟩) (ca:=2) (Ab:=none) (cb:=0) (fr_rdQ E11 (Fr.alloc (Fr.start V0.cur) _) Zq1) (trQ_nil (d+1)) (Nat.le_refl _),by rw[szE_mk,szT_nil];have:=HND.out j;show 0+(2+((ndx N j).size+(y.size+0))+0)≤_;omega⟩,fun h=>Fr.call ((pj19 HH.out) (fun h2=>h h2.fwd)) (Fr.cur (Fr.alloc (Fr.start V0.cur) _)) (Fr.gr (Fr.alloc (Fr.start V0.cur) _)),fun h=>((pj20 HH.out) (fun h2=>h h2.fwd)),Bb hns⟩
      ·have hns:¬ Ls Lz 14:=hnl
       have D0:=(pj0 HH.out) (rq hi 0)
       have D13:=(pj13 HH.out) (rq hi 13)
       have E13:=(pj18 HH.out) (rq hi 13) hns
       have V0:=(pj19 HH.out) hns
       have V1:=hD ((pj20 HH.out) hns)
       have hnla:¬ Ls Lz 15:=fun h=>hns (HCL.out.dep2 h 14 Zq3)
       clear hi HCL
       simp only[zA,zB,zC,D0,D13]
       obtain ⟨cs,s,hlr,hls,hlz⟩:=E13
       obtain ⟨xs,hox,hpush⟩:=(fr_own OW1.out V0 hp).add HV.out (Nat.le_trans hR (Nat.le_refl _)) hls
       have PU:=hD hpush
       have HLZ:=hD hlz
       clear hpush hlz
       refine wpOp_one rfl rfl fun K hK=>?_
       simp only[List.getElem_toArray,List.getElem_cons_succ,List.getElem_cons_zero]
       refine wpList_append_rd _ rfl _ _ 25 rfl w.heap.size 42 i0 _ 5 80 Try.underlying25 hi hz0 hz1 hz2 rfl Zq4 (.slice Ao l.length co) l.length xs rfl hox _ 1 1 _ rfl hlr.rd hls.ones ?c3 ?c4 ?c5 ?_
       case c3=>simp only[maxLen];omega
       case c4=>omega
       case c5=>have:=V0.gr.size;omega
       intro v6 W6 own6 gr6 hat
       obtain ⟨A7,c7,rfl,_,_,_⟩:=rd_of_own own6
       go_wp2_with fail
       rw[HJ0.out]
       exact ⟨j,b1,y,b2,b4,A7,c7,x9,x119,x120,x121,x122,x123,x124,x125,x126,x127,x128,x129,x130,x131,x132,.slice A7 (l.length+1) c7,(by first|(simp only[zA,zB,zC,D0,D13] <;> fail)|simp only[Act.put,zA,zB,zC,D0,D13]),zk HH,zk HH,zk HH,zk HH,zk HH,zk HH,zk HH,zk HH,zk HH,zk HH,zk HH,zk HH,zk HH,zk HH,fun _=>rfl,Ba hnla,zx hnow,zx hnow,zx hnow,zy hnow,zy hnow,fun _ _=>⟨s,HLZ.out,PU.out _ _ _ own6 (Below.refl _ _) gr6 hat,(FR1.out.call V0.cur V0.gr).own hp gr6 HG.out⟩⟩
      ·have D14:=(pj14 HH.out) (rq hi 14)
       have HST:=rq hi 14
       have VL:=(pe21 HH.out) HST hnl
       clear hi HCL
       simp only[zA,zB,zC,D14]
       obtain ⟨s,l1,l2,l3⟩:=VL
       have ML:=hD (And.intro l1 (And.intro l2 l3))
       clear l1 l2 l3
       refine wpOp_one rfl rfl fun K hK=>?_
       go_wp2_with fail
       rw[HJ0.out]
       exact ⟨j,b1,y,b2,b4,A6,c6,.slice A6 (l.length+1) c6,x119,x120,x121,x122,x123,x124,x125,x126,x127,x128,x129,x130,x131,x132,x133,(by simp only[zA,zB,zC,D14]),zk HH,zk HH,zk HH,zk HH,zk HH,zk HH,zk HH,zk HH,zk HH,zk HH,zk HH,zk HH,zk HH,zk HH,zk HH,fun _=>⟨s,A6,c6,rfl,ML.out⟩,zx (Ls.fwd HST),zx (Ls.fwd HST),zx (Ls.fwd HST),zy (Ls.fwd HST),zy (Ls.fwd HST),zx hnow⟩
     ·intro Lz a W hsize hJ hr
      rw[HJ0.out] at hJ
      have hall:=all_listed hsize Zq3 hr
      obtain ⟨j,b1,y,b2,b4,A6,c6,x9,x119,x120,x121,x122,x123,x124,x125,x126,x127,x128,x129,x130,x131,x132,x133,rfl,HF⟩:=hJ
      have HH:=hD HF
      have HEND:=(pj15 HH.out) (hall 15 Zq4)
      clear HF HH hall hr hsize
      simp only[zA,zB,zC]
      obtain ⟨s,A6,c6,rfl,hsz6,hO6,hF6⟩:=HEND
      have HSZ:=hD hsz6
      have O6:=hD hO6
      have F6:=hD hF6
      clear hsz6 hO6 hF6
      go_wp2_with fail
      go_roundw
      case rel=>exact ⟨t+1,l++[_],by go_num,by omega,(few_snoc hl hsm.out HSZ.out).1,(few_snoc hl hsm.out HSZ.out).2,O6.out,F6.out⟩
      case measure=>simp [intOf];omega
   have f4:(k==4)=false:=by simp [e4]
   by_cases e5:k=5
   ·subst e5
    cases wild
    ·go_wp2_with fail
     go_roundw
     case rel=>exact ⟨t+1,l,by go_num,by omega,by omega,hsm,OW1.out,FR1.out⟩
     case measure=>simp [intOf];omega
    ·go_wp2_with fail
     obtain ⟨wa,hwa⟩:∃ wa,wa=w1.alloc (.cells #[.string ⟨#[114]⟩,.string ⟨#[115,49]⟩] 9):=⟨_,rfl⟩
     rw[←hwa]
     have ba:Below w1.heap.size w1 wa:=by rw[hwa];exact Zq0
     have rp:Rd wa 1 (some ⟨w1.heap.size,0,none⟩) 2 (([⟨#[114]⟩,⟨#[115,49]⟩]:List ByteArray).map Value.string):=by rw[hwa];exact pickedS (w:=w1) rfl
     have FRa:=FR1.out.below ba
     have OWa:=OW1.out.below ba
     have NMa:=NM.out.below ba
     have hsa:=ba.size
     clear hwa
     refine(l1Pick_any w1.heap.size 2 2 [⟨#[114]⟩,⟨#[115,49]⟩] wa p FRa.cur rfl Zq1 Zq1 rp Zq1).mono ?_
     rintro e w2 ⟨y,hy,rfl,hc2,hg2⟩
     have hy9:y.size≤9:=by
      simp only[List.mem_cons,List.not_mem_nil,or_false] at hy
      rcases hy with rfl|rfl <;> decide
     have FR2:=hD (FRa.call hc2 hg2)
     have OW2:=hD (OWa.grown hg2 (fun k hk=>by injection hk with hk;omega))
     have NM2:=hD (NMa.call hg2)
     have hz2s:=hg2.size
     clear hc2 hg2 rp hy FRa OWa NMa ba
     go_wp2_with fail
     obtain ⟨wb,hwb⟩:∃ wb,wb=w2.alloc (.cells #[.string y] 9):=⟨_,rfl⟩
     rw[←hwb]
     have bb:Below w2.heap.size w2 wb:=by rw[hwb];exact Zq0
     have rb:RdQ wb (w1.heap.size≤·) 1 (some ⟨w2.heap.size,0,none⟩) 1 (strs [y]):=by rw[hwb];exact rdQ_lit rfl rfl Zq1
     have FRb:=FR2.out.below bb
     have hsb:=bb.size
     clear hwb
     refine(l17Gate_any _ _ _ N wb p FRb.cur (NM2.out.below bb)).mono ?_
     rintro e w3 ⟨word,args,Ag,cg,rfl,hq,⟨hcap,hw4,ha3,hsz⟩,hc3,hg3⟩
     have hbp:=bE_pos d
     have hbs:=bE_succ d
     have hs3:=hg3.size
     have bg:Below w3.heap.size w3 (w3.alloc (.cells #[.int .i64 1,.string word,.slice Ag args.length cg,.int .i64 0,.slice none 0 0] 42)):=Zq0
     have sg:=stQ_mk (d:=d) (h:=⟨1,word,args,0⟩) (cb:=0) (hq.below bg) (trQ_nil (A:=none) d) hcap
     have tg:=(ElQ.one sg).tr (rdQ_lit (w:=w3) (base:=wb.heap.size) (cs:=#[.int .i64 1,.string word,.slice Ag args.length cg,.int .i64 0,.slice none 0 0]) (e:=42) (n:=1) (size:=5) rfl rfl hs3) rfl
     have hszg:szT (d+1) [mkT (d:=d) ⟨1,word,args,0⟩ []]≤40:=by rw[szT_one,szE_mk,szT_nil];show 1+(word.size+(args.length+szS args+0))≤_;omega
     obtain ⟨xs,hox,hpush⟩:=(((OW2.out.below bb).grown hg3 (fun k hk=>by injection hk with hk;omega)).below bg).add HV.out hR (stQ_mk (d:=(d+1)) (h:=⟨7,⟨#[]⟩,[y],0⟩) (Aa:=some ⟨w2.heap.size,0,none⟩) (ca:=1) (cb:=1) (bd:=[mkT (d:=d) ⟨1,word,args,0⟩ []]) ((rb.call hg3 Zq1).below bg) (tg.mono (fun b _ hb=>by omega)) (Nat.le_refl _))
     have PU:=hD hpush
     have HSZ:=hD (show szE (mkT (d:=(d+1)) ⟨7,⟨#[]⟩,[y],0⟩ [mkT (d:=d) ⟨1,word,args,0⟩ []])≤bE ((d+1)) by rw[szE_mk];show 0+(1+(y.size+0)+szT (d+1) [mkT (d:=d) ⟨1,word,args,0⟩ []])≤_;omega)
     have frk:=(FRb.call hc3 hg3).below bg
     have hgk:=frk.gr.size
     clear hpush
     go_wp2_with (at_builtin;refine wpList_append_rd _ rfl _ _ 25 rfl w.heap.size 42 i0 _ 5 80 Try.underlying25 hi hz0 hz1 hz2 rfl Zq4 _ _ _ rfl (hox.alloc _) _ 1 1 _ rfl (rd_lit1 ?k0_7 rfl) ?k2_7 ?k3_7 ?k4_7 ?k5_7 ?_)
     try (case k0_7=>first|rfl|simp)
     case k2_7=>repeat' (first|rfl|apply And.intro)
     case k3_7=>simp only[maxLen];omega
     case k4_7=>omega
     case k5_7=>first|omega|(simp;omega)
     intro v6 w6 own6 gr6 hat
     have O6:=hD (PU.out _ _ _ own6 ((Below.refl _ _).alloc (Nat.le_refl _) _) gr6 (hat.imp id fun e=>e.trans Zq5))
     have F6:=hD ((frk.alloc _).own hp gr6 HG.out)
     clear gr6 own6 hox frk PU
     go_wp2_with fail
     go_roundw
     case rel=>exact ⟨t+1,l++[_],by go_num,by omega,(few_snoc hl hsm.out HSZ.out).1,(few_snoc hl hsm.out HSZ.out).2,O6.out,F6.out⟩
     case measure=>simp [intOf];omega
   have f5:(k==5)=false:=by simp [e5]
   clear e0 e1 e2 e3 e4 e5
   go_wp2_with fail
   refine(l17Gate_any _ _ _ N w1 p FR1.out.cur NM.out).mono ?_
   rintro e w2 ⟨word,args,Aa,ca,rfl,hq,⟨hcap,hw4,ha3,hsz⟩,hc2,hg2⟩
   have hbp:=bE_pos (d+1)
   obtain ⟨xs,hox,hpush⟩:=(OW1.out.grown hg2 (fun k hk=>by injection hk with hk;omega)).add HV.out hR (stQ_mk (d:=(d+1)) (h:=⟨1,word,args,0⟩) (cb:=0) hq (trQ_nil (A:=none) (d+1)) hcap)
   have PU:=hD hpush
   have HSZ:=hD (show szE (mkT (d:=(d+1)) ⟨1,word,args,0⟩ [])≤bE (d+1) by rw[szE_mk,szT_nil];show word.size+(args.length+szS args+0)≤_;omega)
   have frk:=FR1.out.call hc2 hg2
   have hgk:=frk.gr.size
   clear hpush
   go_wp2_with (at_builtin;refine wpList_append_rd _ rfl _ _ 25 rfl w.heap.size 42 i0 _ 5 80 Try.underlying25 hi hz0 hz1 hz2 rfl Zq4 _ _ _ rfl (hox.alloc _) _ 1 1 _ rfl (rd_lit1 ?k0_8 rfl) ?k2_8 ?k3_8 ?k4_8 ?k5_8 ?_)
   try (case k0_8=>first|rfl|simp)
   case k2_8=>repeat' (first|rfl|apply And.intro)
   case k3_8=>simp only[maxLen];omega
   case k4_8=>omega
   case k5_8=>first|omega|(simp;omega)
   intro v6 w6 own6 gr6 hat
   have O6:=hD (PU.out _ _ _ own6 ((Below.refl _ _).alloc (Nat.le_refl _) _) gr6 (hat.imp id fun e=>e.trans Zq5))
   have F6:=hD ((frk.alloc _).own hp gr6 HG.out)
   clear gr6 own6 hox frk PU
   go_wp2_with fail
   go_roundw
   case rel=>exact ⟨t+1,l++[_],by go_num,by omega,(few_snoc hl hsm.out HSZ.out).1,(few_snoc hl hsm.out HSZ.out).2,O6.out,F6.out⟩
   case measure=>simp [intOf];omega
  ·go_wp2_with fail
   go_ret
   exact ⟨_,l,rfl,hown.out,⟨by omega,hsm.out⟩,hfr.out.cur,hfr.out.gr⟩
theorem cells2G {w w':World} {b:Nat} {x0 x1:Value} {t:TypeId} (lay:Below w'.heap.size w' w) (h:w'.heap[b]?=some (.cells #[x0,x1] t (0,0))) :
  w.cell? ⟨b,0,none⟩=some x0∧w.cell? ⟨b,1,none⟩=some x1:=by
 have h':w.heap[b]?=some (.cells #[x0,x1] t (0,0)):=(lay.block b (lt_of_block h)).trans h
 exact ⟨by simp [World.cell?,h'],by simp [World.cell?,h']⟩
def Short (n:Nat) (Q:List ByteArray):Prop:=1≤Q.length∧Q.length≤n∧∀ s∈Q,s.size≤9
structure PS (w:World) (p X:Nat) (Aq:Option Addr) (nq cq:Nat) (Q:List ByteArray) (d:Nat) (vb:Value) (l:List (Tr (d+1))) (W:World):Prop where
 fr:Fr w p W
 lo:w.heap.size<X
 r0:W.heap[w.heap.size]?=some (.cells #[.slice none 0 0,.slice none 0 0] 27 (0,0))
 x:W.heap[X]?=some (.cells #[.slice Aq nq cq,vb] 27 (0,0))
 q:W.ownsRow w.heap.size 9 1 (.slice Aq nq cq) nq (strs Q)
 ql:Q.length=nq
 qx:∀ k,(Value.slice Aq nq cq).ownBlock=some k→k<X
 b:OwnT W (X+1) d vb l
theorem PS.names {w W:World} {p X nq cq d:Nat} {Aq:Option Addr} {Q:List ByteArray} {vb:Value} {l:List (Tr (d+1))} (h:PS w p X Aq nq cq Q d vb l W) (hp:p<w.heap.size) (hs:Short 4 Q):Names W p Aq nq Q :=
 ⟨rd_own h.q,h.ql,by rw[←h.ql];exact hs.1,by rw[←h.ql];exact hs.2.1,hs.2.2,fun ad e=>by
  have h1:0<nq:=by rw[←h.ql];exact hs.1
  obtain ⟨b,off,e',hb,_⟩:=(rdQ_of_own h.q).2 h1
  rw[e'] at e
  injection e with e
  subst e
  show b≠p
  have:w.heap.size≤b:=hb
  omega⟩
theorem fr_heap {w W:World} {p b:Nat} {ob:Obj} (h:Fr w p W) (hne:b≠p) (hc:w.heap[b]?=some ob):W.heap[b]?=some ob:=box_call hc h.gr hne
theorem PS.call {w W W':World} {p X nq cq d:Nat} {Aq:Option Addr} {Q:List ByteArray} {vb:Value} {l:List (Tr (d+1))} (h:PS w p X Aq nq cq Q d vb l W) (hp:p<w.heap.size) (hf:Fr W p W'):PS w p X Aq nq cq Q d vb l W' :=
 ⟨h.fr.call hf.cur hf.gr,h.lo,fr_heap hf Zq1 h.r0,fr_heap hf (by have:=h.lo;omega) h.x,own_drawG h.q hf.gr hp,h.ql,h.qx,fr_own h.b hf (by have:=h.lo;omega)⟩
theorem PS.put {w W W6:World} {p X nq cq d n6 c6:Nat} {A6:Option Addr} {Aq:Option Addr} {Q:List ByteArray} {vb:Value} {l m:List (Tr (d+1))} (h:PS w p X Aq nq cq Q d vb l W) (hp:p<w.heap.size) {W5:World} (hf:Fr W p W5) (hg:W5.grownBy W6 vb.ownBlock) (hb:OwnT W6 (X+1) d (.slice A6 n6 c6) m) (hx:W6.heap[X]?=some (.cells #[.slice Aq nq cq,vb] 27 (0,0))) :
  PS w p X Aq nq cq Q d (.slice A6 n6 c6) m (W6.setCell ⟨X,1,none⟩ (.slice A6 n6 c6)):=by
 have h5:=h.call hp hf
 have hlo:=h.lo
 have hge:∀ k,vb.ownBlock=some k→X+1≤k:=fun k hk=>by
  obtain ⟨xs,ho,_⟩:=h5.b
  exact(ho.lt k hk).1
 have f6:=h5.fr.own hp hg (fun k hk=>by have:=hge k hk;omega)
 have hq6:W6.ownsRow w.heap.size 9 1 (.slice Aq nq cq) nq (strs Q):=h5.q.kept hg (by
  cases hk:(Value.slice Aq nq cq).ownBlock with
  | none=>exact .inl rfl
  | some k =>
   refine .inr fun e=>?_
   have h1:=h5.qx k hk
   have h2:=hge k e.symm
   omega)
 refine ⟨f6.set hp (show w.heap.size≤X by omega) _,hlo,heap_set_farG ((hg.block _ (lt_of_block h5.r0) (fun e=>by have:=hge _ e.symm;omega)).trans h5.r0) (by show w.heap.size≠X;omega) _,heap_set_selfG hx _,own_setfarG hq6 (fun e=>?_) _,h.ql,h.qx,hb.grown (only_setCell (World.grownBy.refl W6 (some X)) rfl _) (fun k hk=>by injection hk with hk;omega)⟩
 have:=h.qx X e
 omega
def DRt (w:World) (p:Nat) (e:Ending) (w':World):Prop:=∃ (Aq:Option Addr) (nq cq B:Nat) (Q:List ByteArray) (vb:Value) (l:List (Tr 3)),e=.returned (.agg #[.slice Aq nq cq,vb])∧w'.ownsRow w.heap.size 9 1 (.slice Aq nq cq) nq (strs Q)∧Q.length=nq ∧
 (∀ k,(Value.slice Aq nq cq).ownBlock=some k→k<B)∧(w.heap.size≤B∧B≤w'.heap.size)∧OwnT w' B 2 vb l∧Short 3 Q∧(l.length≤6∧∀ s∈l,szE s≤bE 2)∧CurAt w' p∧w.grownBy w' (some p)
theorem abc_take {j:Nat} (h:j≤2):Short 3 (([⟨#[97]⟩,⟨#[98]⟩,⟨#[99]⟩]:List ByteArray).take (1+j)):=by
 refine ⟨by rw[List.length_take];show 1≤min (1+j) 3;omega,by rw[List.length_take];show min (1+j) 3≤3;omega,fun s hs=>?_⟩
 have:=List.mem_of_mem_take hs
 simp only[List.mem_cons,List.not_mem_nil,or_false] at this
 rcases this with rfl|rfl|rfl <;> decide
theorem gate_sz {wd:ByteArray} {ag:List ByteArray} (h1:wd.size≤4) (h2:ag.length≤3) (h3:szS ag≤27):szT 2 [mkT (d:=1) ⟨1,wd,ag,0⟩ []]≤40:=by
 rw[szT_one,szE_mk,szT_nil]
 show 1+(wd.size+(ag.length+szS ag+0))≤_
 omega
def Lit3 (R:Nat) (W:World) (b:Nat):Prop:=∃ (cs:List Value) (m:List (Tr 3)),RdQ W (R≤·) 5 (some ⟨b,0,none⟩) 3 cs∧ElQ W (R≤·) 2 cs m∧m.length=3∧∀ s∈m,szE s≤bE 2
theorem Lit3.fr {R p b:Nat} {W W1:World} (h:Lit3 R W b) (hf:Fr W p W1) (hp:p<R):Lit3 R W1 b:=by
 obtain ⟨cs,m,h1,h2,h3⟩:=h
 exact ⟨cs,m,fr_rdQ h1 hf Zq1,h2.keep (fun b hb hlt=>hf.gr.block b hlt (fun e=>by injection e with e;omega)) hf.gr.size,h3⟩
theorem three_le {wd q0:ByteArray} {ag:List ByteArray} {l:List (Tr 2)} (h1:wd.size≤4) (h2:ag.length≤3) (h3:szS ag≤27) (hq:q0.size≤9) (hl:szT 2 l≤40) :
  ∀ s∈([mkT (d:=2) ⟨1,wd,ag,0⟩ []]++[mkT (d:=2) ⟨6,⟨#[]⟩,[q0,⟨#[114]⟩],0⟩ []])++[mkT (d:=2) ⟨7,⟨#[]⟩,[⟨#[114]⟩],0⟩ l],szE s≤bE 2:=by
 intro s hs
 have e:bE 2=2500:=rfl
 rw[e]
 simp only[List.mem_append,List.mem_singleton,or_assoc] at hs
 rcases hs with rfl|rfl|rfl
 ·rw[szE_mk,szT_nil]
  show wd.size+(ag.length+szS ag+0)≤_
  omega
 ·rw[szE_mk,szT_nil]
  show 0+(2+(q0.size+(1+0))+0)≤_
  omega
 ·rw[szE_mk]
  show 0+(1+(1+0)+szT 2 l)≤_
  omega
end Go.Proofs.Ythkbckkghnbonaa
