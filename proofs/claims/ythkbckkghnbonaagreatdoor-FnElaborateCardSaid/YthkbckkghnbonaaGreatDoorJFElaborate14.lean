/- What the calls that this law reaches answer, part 14 of 20. -/
import Derived.Test.YthkbckkghnbonaaGreatDoorJFElaborate13
set_option maxRecDepth 100000
set_option maxHeartbeats 16000000
set_option linter.unusedVariables false
namespace Go.Proofs.YthkbckkghnbonaaGreatDoor
open Go.RowKit
set_option linter.unusedVariables false
@[local go_sem high] theorem run_maxN {P:Program} {w:World} (ts:Array TypeId) (t:TypeId) (k k':IntKind) (x y:Nat):(Builtin.max_ ts t #[.int k (x:Int),.int k' (y:Int)]).run P w=.ok (.int k ((max x y:Nat):Int)) w:=by
 rw[run_max_int2]
 have:(if (y:Int) > (x:Int) then (y:Int) else (x:Int))=((max x y:Nat):Int):=by split <;> omega
 rw[this]
theorem yjy {X:Nat} {r:Option Nat} {w w':World} {base e size n:Nat} {v:Value} {xs:List Value} (h:w.ownsRow base e size v n xs) (m:Mod X r w w') (h1:v.ownBlock≠some X) (h2:∀ k,v.ownBlock=some k→r≠some k):w'.ownsRow base e size v n xs:=by
 refine ⟨h.1,?_⟩
 have hl:=h.lt
 rcases h.2 with hn|⟨g,cap,cur,rfl,hb,hh,rest⟩
 ·exact .inl hn
 ·exact .inr ⟨g,cap,cur,rfl,hb,(m.block g (hl g rfl).2 (fun e=>h1 (by rw[←e];rfl)) (h2 g rfl)).trans hh,rest⟩
section
variable {w w' w'' W W':World} {E B M:Nat} {vb vb':Value} {e:Es} {P:Nat→Prop}
theorem EnvI.far (h:EnvI W E B vb e) (hEB:E<B):vb.ownBlock≠some E:=fun q=>by have:=ybe h.2 _ q;omega
theorem EnvI.most (h:EnvI W E B vb e) (hEB:E<B) (n:Nat):EnvI (W.setCell ⟨E,1,none⟩ (.int .i64 ((max e.most n:Nat):Int))) E B vb ⟨e.bits,max e.most n,e.bad⟩ :=
 ⟨ya1 h.1 _,yc8 h.2 (h.far hEB) _⟩
theorem EnvI.long (h:EnvI W E B vb e) (hEB:E<B):EnvI (W.setCell ⟨E,2,none⟩ (.bool true)) E B vb ⟨e.bits,e.most,true⟩ :=
 ⟨ya1 h.1 _,yc8 h.2 (h.far hEB) _⟩
theorem yla (u:Value) (o:Nat):Mod E vb.ownBlock W (W.setCell ⟨E,o,none⟩ u):=Mod.set (p:=⟨E,o,none⟩) (Mod.of_below _ _ (Below.refl _ _)) (.inl rfl) u
theorem ycu (h:Mod E vb.ownBlock w W) (hb:Below W.heap.size W W'):Mod E vb.ownBlock w W':=h.trans (Mod.of_below _ _ hb) (.inl rfl)
theorem ygu {r row:Option Nat} (h:Mod E r w W) (hg:W.grownBy W' row) (hr:∀ k,row=some k→w.heap.size≤k):Mod E r w W' :=
 ⟨hg.os.trans h.os,hg.tape.trans h.tape,hg.output.trans h.output,Nat.le_trans h.size hg.size,fun b hb h1 h2=>(hg.block b (Nat.lt_of_lt_of_le hb h.size) (fun e=>by have:=hr b e.symm;omega)).trans (h.block b hb h1 h2)⟩
end
theorem yrw:ymc 0:=by
 intro P l A n c E B M vb An nn cn names e w h hna hnn hv hP hPv hE hG hM _ _ _
 obtain rfl:n=0:=h.2
 have hlt:=hE.lt
 have y1:=yaj (j:=1) hE.1 rfl
 have f1:=yab (j:=1) hE.1
 go_enter Tryz.func67,Tryz.ntmps67
 go_wp2
 refine wp_loop_rounds 1 ?_
 rw[rounds_succ]
 go_wp2
 go_ret
 have h1:=hE.most hM.2.1 names.length
 rw[hnn] at h1
 have h2:=yb2 (w.setCell ⟨E,1,none⟩ (.int .i64 ((max e.most nn:Nat):Int))) 104 8
 rw[ych] at h2
 refine ⟨_,vb,rfl,h2,by show EnvI _ E B vb ⟨e.bits,max e.most names.length,e.bad⟩;rw[hnn];exact h1.below yap,ycu (yla _ _) yap,Mv.refl⟩
theorem yrx {d:Nat} (hone:OneI d):ymc (d+1):=by
 obtain ⟨i0,hi,hz0,hz1,hz2⟩:=info_parts yda
 intro P0 l A n c E B M vb An nn cn names e0 w h hna hnn hv hP hPv hE hG hM hne hnm hsz
 have hElt:=hE.lt
 have hl:=h.1
 have hn:n≤1048577:=by rw[ybb] at hsz;omega
 obtain ⟨P,hPe⟩:∃ P:Nat→Prop,P=fun b=>P0 b∧b<w.heap.size:=⟨_,rfl⟩
 have H:=hD (show TrQ w P (d+1) A n l by rw[hPe];exact TrQ.mono (fun b hl hb=>⟨hb,hl⟩) h)
 have HNA:=hD (show RdQ w P 1 An nn (strs names) by rw[hPe];exact hna.mono (fun b hl hb=>⟨hb,hl⟩))
 have hP1:¬ P E:=by rw[hPe];exact fun h=>hP h.1
 have HPV:=hD (show ∀ v:Value,Mv w vb v→∀ k,v.ownBlock=some k→¬ P k by
  rw[hPe]
  rintro v (hm|⟨k0,h1,h2⟩) k hk ⟨q1,q2⟩
  ·exact hPv k (hm▸hk) q1
  ·rw[h1] at hk;injection hk with hk;omega)
 obtain ⟨e,he⟩:∃ e:Es,e=⟨e0.bits,max e0.most names.length,e0.bad⟩:=⟨_,rfl⟩
 have HEQ:=hD (show iA (d+1) l names e0=iL (fun s e=>iS (iA d) (hdT s) (bdT s) names e) l [] e by rw[he];rfl)
 have hebits:e.bits=e0.bits:=by rw[he]
 have HE1:=hD (show EnvI (w.setCell ⟨E,1,none⟩ (.int .i64 ((max e0.most nn:Nat):Int))) E B vb e by rw[he,←hnn];exact hE.most hM.2.1 _)
 have HG:=hD hG
 have HV:=hD hv
 have HNM:=hD hnm
 have HNE:=hD hne
 have HSZ:=hD (show e.bits.length+szT (d+1) l≤1048577 by rw[hebits];exact hsz)
 have y1:=yaj (j:=1) hE.1 rfl
 have f1:=yab (j:=1) hE.1
 have HM:=hD hM
 have hME:M≤E:=hM.1
 have hEB:E<B:=hM.2.1
 have hBw:B≤w.heap.size:=hM.2.2
 have HL:=hD hl
 have HNN:=hD hnn
 have HBO:=hD (ybe hE.2)
 clear h hv hnm hne hsz hE hG hl hna hnn hP hPv hM hPe he hebits
 go_enter Tryz.func67,Tryz.ntmps67
 go_wp2
 go_loopw [7,23] (fun v i wr=>∃ (t:Nat) (out:List Opt) (et:Es) (vt:Value),t≤n∧i=.int .i64 t∧out.length≤2000200∧Hid (et.bad=false→out.length≤120)∧Hid (iA (d+1) l names e0=iL (fun s e=>iS (iA d) (hdT s) (bdT s) names e) (l.drop t) out et)∧Hid (et.bits.length+szT (d+1) (l.drop t)≤1048577) ∧
  Hid (wr.ownsRow w.heap.size 104 8 v out.length (out.flatMap yan))∧Hid (EnvI wr E B vt et)∧Hid (Mod E vb.ownBlock w wr)∧Hid (Mv w vb vt)) (fun _ i _=>n - (intOf i).toNat)
 case atStart =>
  have h2:=yb2 (w.setCell ⟨E,1,none⟩ (.int .i64 ((max e0.most nn:Nat):Int))) 104 8
  rw[ych] at h2
  exact ⟨0,[],e,vb,Nat.zero_le _,rfl,Nat.zero_le _,fun _=>Nat.zero_le _,HEQ.out,by rw[List.drop_zero];exact HSZ.out,h2,HE1.out.below yap,ycu (yla _ _) yap,Mv.refl⟩
 case round =>
  clear HE1 HEQ y1 f1
  obtain ⟨t,out,et,vt,ht,rfl,hol,hob,hiA,hbz,hown,henv,hmd,hmv⟩:=hrel
  obtain ⟨A0,c0,rfl,_,_,_⟩:=yah hown.out
  have hws:=hmd.out.size
  by_cases hlt:t<n
  ·obtain ⟨s,hs⟩:∃ s,l[t]?=some s:=⟨_,List.getElem?_eq_getElem (by have:=HL.out;omega)⟩
   have hv1:=yeu HV.out s (List.mem_of_getElem? hs)
   have hPt:=HPV.out vt hmv.out
   have h0:=yk8 H.out hmd.out hP1 (HPV.out vb Mv.refl)
   have hna0:=yg8 HNA.out hmd.out hP1 (HPV.out vb Mv.refl)
   have hgb:=HG.out.mod hmd.out hME (fun k hk=>by have:=HBO.out k hk;omega)
   obtain ⟨b,off,rfl,_,hbl,hc⟩:=h0.2 Zq6
   obtain ⟨Aa,ca,Ab,nb,cb,⟨q0,q1,q2,q3,q4⟩,ha,hb,_⟩:=hc t s hs
   have z2:=yaj (j:=2) henv.out.1 rfl
   have lE:=henv.out.lt
   have hsa:=hiA.out
   rw[yll hs] at hsa
   cases hbad:et.bad with
   | true =>
    have HF:Hid (iA (d+1) l names e0=([],et)):=by show _=_;rw[hsa];unfold iL;rw[if_pos hbad]
    rw[hbad] at z2
    clear h0 hc hs hsa ha hb hv1
    go_wp2_with fail
    go_ret
    refine ⟨_,vt,rfl,by rw[HF.out];exact ⟨by simp,.inl ⟨rfl,rfl⟩⟩,by rw[HF.out];exact henv.out.below Zq0,ycu hmd.out Zq0,hmv.out⟩
   | false =>
    obtain ⟨R,hR⟩:∃ R,R=iS (iA d) (hdT s) (bdT s) names et:=⟨_,rfl⟩
    have hsa:iA (d+1) l names e0=iL (fun s e=>iS (iA d) (hdT s) (bdT s) names e) (l.drop (t+1)) (out++R.1) ⟨R.2.bits,R.2.most,R.2.bad || decide (120<(out++R.1).length)⟩:=by
     rw[hsa,hR];conv=>lhs;unfold iL
     rw[if_neg (by rw[hbad];decide)]
    have HSA:=hD hsa
    have hnm1:(if hasB (hdT s).k then 1+ybf d (bdT s) else 0)≤ybf (d+1) l:=yhm (List.mem_of_getElem? hs)
    have hz1:=yoo hs
    have hz2:=hbz.out
    have hlen:R.1.length≤2000000:=by
     rw[hR]
     have h9:=ym9 (d:=d) (m:=200000) (h:=hdT s) (bd:=bdT s) (names:=names) (e:=et) (fun hb names e=>by
      rw[if_pos hb] at hnm1
      have h8:=yrv d (bdT s) names e (ybp hv1).2.2.2.2.2.2.2
      have h7:10 ^ ybf d (bdT s)≤10 ^ 3:=Nat.pow_le_pow_right Zq9 (by have:=HNE.out;omega)
      omega) (ybp hv1).1
     refine Nat.le_trans h9 ?_
     split <;> omega
    have hbits:R.2.bits.length≤et.bits.length+szT d (bdT s)+1:=by rw[hR];exact yow (fun n e=>yk9 d (bdT s) n e)
    have hzn:R.2.bits.length+szT (d+1) (l.drop (t+1))≤1048577:=by omega
    have HZN:=hD hzn
    have HC:=fun W (hW:Below wr.heap.size wr W)=>hone P (hdT s) (bdT s) Aa ca Ab nb cb E B M vt An nn cn names et W (ha.keep (fun b _ hl=>hW.block b hl) hW.size) (TrQ.keep (fun b _ hl=>hW.block b hl) hW.size hb) (hna0.keep (fun b _ hl=>hW.block b hl) hW.size) HNN.out hv1 hP1 hPt (henv.out.below hW) (hgb.below (hW.mono hgb.1)) ⟨hME,hEB,Nat.le_trans hBw (Nat.le_trans hws hW.size)⟩ (Nat.le_trans hnm1 HNE.out) (by have:=HNM.out;omega) Zq6
    rw[←hR] at HC
    have HC:=hD HC
    rw[hbad] at z2
    clear h0 hc hs hsa ha hb hv1 hz1 hz2 hbits hzn hnm1 hR
    go_wp2_with fail
    refine(HC.out _ Zq0).mono ?_
    rintro e1 w1 ⟨r,vt',rfl,hor,hen,hmd1,hmv1⟩
    have B9:=fun o=>Below.alloc (Below.refl wr.heap.size wr) (Nat.le_refl _) o
    have hs1:=Nat.le_trans (B9 _).size hmd1.size
    obtain ⟨Ar,cr,rfl,_,_,rr⟩:=yah hor
    have hoA:∀ k,(Value.slice A0 out.length c0).ownBlock=some k→w.heap.size≤k:=ybe hown.out
    have own1:w1.ownsRow w.heap.size 104 8 (.slice A0 out.length c0) out.length (out.flatMap yan):=yjy (ybd (hown.out.alloc _) (Nat.le_refl _)) hmd1 (fun q=>by have:=hoA _ q;omega) (fun k hk q=>yg9 hown.out henv.out.2 k q hk)
    have md1:=hD ((ycu hmd.out (B9 _)).trans hmd1 hmv.out)
    have mv1:=hD (hmv.out.trans hmv1 (Nat.le_trans hws (B9 _).size))
    have en1:=hD hen
    have hBo1:=ybe hen.2
    have H1:=hD hor
    clear hor hen hmd1 hmv1 q0 q1 q2 q3 q4 HC hna0 hgb B9
    go_wp2_with (at_builtin;refine yae _ rfl _ _ 38 rfl w.heap.size 104 i0 _ 8 64 Tryz.underlying38 hi hz0 hz1 hz2 rfl Zq9 _ _ _ rfl own1 _ _ _ _ rfl rr ?c2 ?c3 ?c4 ?c5 ?_)
    case c2=>exact yed ydt R.1
    case c3=>simp only[maxLen];omega
    case c4=>omega
    case c5=>omega
    intro v6 w6 own6 gr6 hat
    have hs6:=gr6.size
    have hEv:(Value.slice A0 out.length c0).ownBlock≠some E:=fun q=>by have:=ybe own1 _ q;omega
    have en6:=hD (en1.out.grown gr6 hEv (fun k hk=>yg9 own1 en1.out.2 k hk))
    have md6:=hD (ygu md1.out gr6 (ybe own1))
    have e6:out.flatMap yan++R.1.flatMap yan=(out++R.1).flatMap yan:=by rw[List.flatMap_append]
    rw[e6] at own6
    obtain ⟨N,hN⟩:∃ N,N=out.length+R.1.length:=⟨_,rfl⟩
    rw[←hN] at own6
    have hNl:(out++R.1).length=N:=by rw[List.length_append,hN]
    have hNb:N≤2000200:=by have:=hob.out hbad;omega
    have HN:=hD hNl
    have O6:=hD own6
    obtain ⟨A6,c6,rfl,_,_,_⟩:=yah own6
    have z6:=yaj (j:=2) en6.out.1 rfl
    have f6:=yab (j:=2) en6.out.1
    have lE6:=en6.out.lt
    have hE6:E≠w6.heap.size:=by omega
    clear own6 gr6 hat own1 e6 rr hN en1 md1 H1 hBo1
    by_cases hbig:120<N
    ·have hd:decide ((120:Int)<(N:Int))=true:=decide_eq_true Zq6
     have HF:Hid (iA (d+1) l names e0=iL (fun s e=>iS (iA d) (hdT s) (bdT s) names e) (l.drop (t+1)) (out++R.1) ⟨R.2.bits,R.2.most,true⟩):=by
      show _=_
      rw[HSA.out,hNl,decide_eq_true hbig,Bool.or_true]
     clear hNl
     go_wp2_with fail
     go_roundw
     case rel=>exact ⟨t+1,out++R.1,⟨R.2.bits,R.2.most,true⟩,vt',by omega,by go_num,by rw[HN.out];exact hNb,fun h=>(by cases h),HF.out,HZN.out,by rw[HN.out];exact yc8 O6.out (fun q=>by have:=ybe O6.out E q;omega) _,en6.out.long hEB,md6.out.trans (yla (vb:=vb) _ _) (.inl rfl),mv1.out⟩
     case measure=>simp [intOf];omega
    ·have hd:decide ((120:Int)<(N:Int))=false:=decide_eq_false Zq6
     have HF:Hid (iA (d+1) l names e0=iL (fun s e=>iS (iA d) (hdT s) (bdT s) names e) (l.drop (t+1)) (out++R.1) R.2):=by
      show _=_
      rw[HSA.out,hNl,decide_eq_false hbig,Bool.or_false]
     clear hNl
     go_wp2_with fail
     go_roundw
     case rel=>exact ⟨t+1,out++R.1,R.2,vt',by omega,by go_num,by rw[HN.out];exact hNb,fun _=>(by rw[HN.out];omega),HF.out,HZN.out,by rw[HN.out];exact O6.out,en6.out,md6.out,mv1.out⟩
     case measure=>simp [intOf];omega
  ·obtain rfl:t=n:=by omega
   have HF:Hid (iA (d+1) l names e0=(out,et)):=by
    show _=_
    rw[hiA.out,List.drop_of_length_le (by rw[HL.out];exact Nat.le_refl _)]
    rfl
   go_wp2_with fail
   go_ret
   exact ⟨_,vt,rfl,by rw[HF.out];exact hown.out,by rw[HF.out];exact henv.out,hmd.out,hmv.out⟩
end Go.Proofs.YthkbckkghnbonaaGreatDoor
