/- What the calls that this law reaches answer, part 7 of 20. -/
import Derived.Test.YthkbckkghnbonaaGreatDoorJFElaborate5
import Derived.Test.YthkbckkghnbonaaGreatDoorJFElaborate6
import Derived.Test.YthkbckkghnbonaaGreatDoorJFElaborate4
set_option maxRecDepth 100000
set_option maxHeartbeats 16000000
set_option linter.unusedVariables false
namespace Go.Proofs.YthkbckkghnbonaaGreatDoor
open Go.RowKit
set_option linter.unusedVariables false
theorem setE {W:World} {R j:Nat} (u:Value):W.grownBy (W.setCell ⟨R,j,none⟩ u) (some R):=ydy (World.grownBy.refl W (some R)) rfl u
theorem grE {w w' w'':World} {R:Nat} (h:w.grownBy w' (some R)) (k:w'.grownBy w'' (some R)):w.grownBy w'' (some R):=h.andThen k (fun j hj=>.inr hj)
theorem ye1 {w W W':World} {R:Nat} (h:w.grownBy W (some R)) (hb:Below W.heap.size W W'):w.grownBy W' (some R):=h.andThen (yb7 hb none) Zq11
theorem yo4 {w W W':World} {R:Nat} {row:Option Nat} (h:w.grownBy W (some R)) (hg:W.grownBy W' row) (hr:∀ k,row=some k→w.heap.size≤k):w.grownBy W' (some R):=h.andThen hg (fun j hj=>.inl (hr j hj))
def EnvS (W:World) (E:Nat) (P:Nat→Prop) (names:List ByteArray) (e:Es):Prop :=
 ∃ An nn cn Bn nb cb,W.heap[E]?=some (.cells #[.slice An nn cn,.slice Bn nb cb,.int .i64 (e.most:Int),.bool e.bad] 83 (0,0))∧names.length=nn∧RdQ W P 1 An nn (strs names)∧e.bits.length=nb∧RdQ W P 1 Bn nb (strs e.bits)
def Aft (w:World) (P:Nat→Prop) (v:Value) (b:Nat):Prop:=(P b∧b<w.heap.size)∨(w.heap.size≤b∧some b≠v.ownBlock)
section
variable {w W W':World} {E:Nat} {P Q:Nat→Prop} {names:List ByteArray} {e:Es}
theorem EnvS.lt (h:EnvS W E P names e):E<W.heap.size:=by
 obtain ⟨An,nn,cn,Bn,nb,cb,h1,_⟩:=h
 exact lt_of_block h1
theorem ygr {size n:Nat} {A:Option Addr} {xs:List Value} (h:RdQ W P size A n xs) (hk:∀ b,P b→b<W.heap.size→W'.heap[b]?=W.heap[b]?) (hs:W.heap.size≤W'.heap.size) (hp:∀ b,b<W.heap.size→P b→Q b):RdQ W' Q size A n xs :=
 ((h.mono (P':=fun b=>P b∧b<W.heap.size) (fun b hl hb=>⟨hb,hl⟩)).keep (fun b hb hlt=>hk b hb.1 hlt) hs).mono (fun b _ hb=>hp b hb.2 hb.1)
theorem yik {d n:Nat} {A:Option Addr} {l:List (Tr d)} (h:TrQ W P d A n l) (hk:∀ b,P b→b<W.heap.size→W'.heap[b]?=W.heap[b]?) (hs:W.heap.size≤W'.heap.size) (hp:∀ b,b<W.heap.size→P b→Q b):TrQ W' Q d A n l :=
 TrQ.mono (fun b _ hb=>hp b hb.2 hb.1) (TrQ.keep (P:=fun b=>P b∧b<W.heap.size) (fun b hb hlt=>hk b hb.1 hlt) hs (TrQ.mono (fun b hl hb=>⟨hb,hl⟩) h))
theorem EnvS.keep (h:EnvS W E P names e) (hk:∀ b,(b=E∨P b)→b<W.heap.size→W'.heap[b]?=W.heap[b]?) (hs:W.heap.size≤W'.heap.size) (hp:∀ b,b<W.heap.size→P b→Q b):EnvS W' E Q names e:=by
 obtain ⟨An,nn,cn,Bn,nb,cb,h1,h2,h3,h4,h5⟩:=h
 exact ⟨An,nn,cn,Bn,nb,cb,(hk E (.inl rfl) (lt_of_block h1)).trans h1,h2,ygr h3 (fun b hb hlt=>hk b (.inr hb) hlt) hs hp,h4,ygr h5 (fun b hb hlt=>hk b (.inr hb) hlt) hs hp⟩
theorem EnvS.below (h:EnvS W E P names e) (hb:Below W.heap.size W W') (hp:∀ b,b<W.heap.size→P b→Q b):EnvS W' E Q names e:=h.keep (fun b _ hlt=>hb.block b hlt) hb.size hp
theorem EnvS.push {v v6:Value} (h:EnvS W E (Aft w P v) names e) (hE:E<w.heap.size) (hg:W.grownBy W' v.ownBlock) (hat:v6.ownBlock=v.ownBlock∨v6.ownBlock=some W.heap.size) (hv:∀ k,v.ownBlock=some k→w.heap.size≤k):EnvS W' E (Aft w P v6) names e:=by
 refine h.keep (fun b hb hlt=>hg.block b hlt (fun e=>?_)) hg.size (fun b hlt hb=>?_)
 ·have:=hv b e.symm
  rcases hb with rfl|⟨_,hb⟩|⟨_,hb⟩
  ·omega
  ·omega
  ·exact hb e
 ·rcases hb with hb|⟨h1,h2⟩
  ·exact .inl hb
  ·refine .inr ⟨h1,fun e=>?_⟩
   rcases hat with ha|ha
   ·exact h2 (e.trans ha)
   ·rw[ha] at e
    injection e with e
    omega
theorem EnvS.fresh {v:Value} (h:EnvS W E (Aft w P v) names e) {v6:Value} (hv:∀ k,v6.ownBlock=some k→W.heap.size≤k) (hb:Below W.heap.size W W'):EnvS W' E (Aft w P v6) names e:=by
 refine h.below hb (fun b hlt hb=>?_)
 rcases hb with hb|⟨h1,h2⟩
 ·exact .inl hb
 ·exact .inr ⟨h1,fun e=>by have:=hv b e.symm;omega⟩
theorem yg7 {v:Value} (hP:¬ P E) (hE:E<w.heap.size):¬ Aft w P v E:=by
 rintro (⟨h,_⟩|⟨h,_⟩)
 ·exact hP h
 ·omega
theorem ytb {v r:Value} (hs:w.heap.size≤W.heap.size) (hv:∀ k,v.ownBlock=some k→k<W.heap.size):∀ b,Aft W (Aft w P v) r b→Aft w P v b:=by
 rintro b (⟨h,_⟩|⟨h1,h2⟩)
 ·exact h
 ·exact .inr ⟨by omega,fun e=>by have:=hv b e.symm;omega⟩
theorem EnvS.mono (h:EnvS W E P names e) (hp:∀ b,b<W.heap.size→P b→Q b):EnvS W E Q names e:=h.keep (fun _ _ _=>rfl) (Nat.le_refl _) hp
theorem EnvS.long (h:EnvS W E P names e) (hP:¬ P E):EnvS (W.setCell ⟨E,3,none⟩ (.bool true)) E P names ⟨e.bits,e.most,true⟩:=by
 obtain ⟨An,nn,cn,Bn,nb,cb,h1,h2,h3,h4,h5⟩:=h
 exact ⟨An,nn,cn,Bn,nb,cb,ya1 h1 _,h2,h3.set_ hP _,h4,h5.set_ hP _⟩
end
def yl8 (w:World) (E:Nat) (P:Nat→Prop) (names:List ByteArray) (r:List Opt × Es) (x:Ending) (w':World):Prop :=
 ∃ v,x=.returned v∧w'.ownsRow w.heap.size 104 8 v r.1.length (r.1.flatMap yan)∧EnvS w' E (Aft w P v) names r.2∧w.grownBy w' (some E)
def OneS (d:Nat):Prop:=∀ (P:Nat→Prop) (h:SH) (bd:List (Tr d)) (Aa:Option Addr) (ca:Nat) (Ab:Option Addr) (nb cb E:Nat) (names:List ByteArray) (e:Es) (w:World),RdQ w P 1 Aa h.args.length (strs h.args)→TrQ w P d Ab nb bd→vOne d (ya7 d) h bd=true→¬ P E→EnvS w E P names e →
 names.length+(if hasB h.k then 1+ybf d bd else 0)≤1000→e.bits.length+szT d bd+1≤1048577 →
 Calls Tryz.prog 115 #[.agg #[.int .i64 h.k,.string h.word,.slice Aa h.args.length ca,.int .i64 h.count,.slice Ab nb cb],.pointer (some ⟨E,0,none⟩)] w (yl8 w E P names (sS (sA d) h bd names e))
def AllS (d:Nat):Prop:=∀ (P:Nat→Prop) (l:List (Tr d)) (A:Option Addr) (n c E:Nat) (names:List ByteArray) (e:Es) (w:World),TrQ w P d A n l→ya7 d l=true→¬ P E→EnvS w E P names e →
 names.length+ybf d l≤1000→e.bits.length+szT d l≤1048577 →
 Calls Tryz.prog 61 #[.slice A n c,.pointer (some ⟨E,0,none⟩)] w (yl8 w E P names (sA d l names e))
theorem yt3 {α:Type} {one:α→Es→List Opt × Es}:∀ (l:List α) (out:List Opt) (e:Es),out.length≤2000→(sL one l out e).1.length≤2000:=by
 intro l
 induction l with
 | nil=>intro out e h;exact h
 | cons s l ih =>
  intro out e h
  unfold sL
  split
  ·exact Nat.zero_le _
  ·exact ih _ _ Zq6
theorem ygn (d:Nat) (l:List (Tr d)) (names:List ByteArray) (e:Es):(sA d l names e).1.length≤2000:=by
 cases d with
 | zero=>exact Nat.zero_le _
 | succ d=>exact yt3 _ _ _ (Nat.zero_le _)
theorem yom (k:Int):reps k≤9:=by unfold reps;omega
theorem yt4 {d:Nat} (h:SH) (bd:List (Tr d)) (names:List ByteArray) (e:Es):(sS (sA d) h bd names e).1.length≤20000:=by
 have h1:=fun n e=>ygn d bd n e
 unfold sS
 repeat' split
 ·show 1≤_;omega
 ·show(repO _ _).length≤_
  rw[yip]
  have:=Nat.mul_le_mul (yom h.count) (h1 names e)
  omega
 ·show((_:List Opt).map _).reverse.length≤_
  rw[List.length_reverse,List.length_map]
  have:=h1 names e
  omega
 ·have:=yqc (fS names (arg0 h)) (sA d bd names e).1
  have:=h1 names e
  show(osL _ _).length≤_
  omega
 ·have:=h1 (names++[arg0 h]) ⟨e.bits,max e.most (names.length+1),e.bad⟩
  simp only[List.length_append,List.length_singleton]
  omega
 ·show 1≤_;omega
 ·have:=h1 names e
  show((_:List Opt).map _).length≤_
  rw[List.length_map]
  omega
theorem ytc {α:Type} {one:α→Es→List Opt × Es} (g:α→Nat) (h1:∀ s e,(one s e).2.bits.length≤e.bits.length+g s):∀ (l:List α) (out:List Opt) (e:Es),(sL one l out e).2.bits.length≤e.bits.length+(l.map g).sum:=by
 intro l
 induction l with
 | nil=>intro out e;exact Nat.le_add_right _ _
 | cons s l ih =>
  intro out e
  have a:=h1 s e
  have b:=ih (out++(one s e).1) (one s e).2
  rw[List.map_cons,List.sum_cons]
  unfold sL
  split
  ·show(one s e).2.bits.length≤_
   omega
  ·omega
theorem yon {d:Nat} {h:SH} {bd:List (Tr d)} {names:List ByteArray} {e:Es} (ih:∀ names (e:Es),(sA d bd names e).2.bits.length≤e.bits.length+szT d bd):(sS (sA d) h bd names e).2.bits.length≤e.bits.length+szT d bd+1:=by
 unfold sS
 repeat' split
 ·show e.bits.length≤_;omega
 ·have:=ih names e;show(sA d bd names e).2.bits.length≤_;omega
 ·have:=ih names e;show(sA d bd names e).2.bits.length≤_;omega
 ·have:=ih names e;show(sA d bd names e).2.bits.length≤_;omega
 ·have:=ih (names++[arg0 h]) ⟨e.bits,max e.most (names.length+1),e.bad⟩;show(sA d bd (names++[arg0 h]) ⟨e.bits,max e.most (names.length+1),e.bad⟩).2.bits.length≤_;exact Nat.le_trans this (Nat.le_succ _)
 ·show(e.bits++[arg1 h]).length≤_;rw[List.length_append];show e.bits.length+1≤_;omega
 ·have:=ih names e;show(sA d bd names e).2.bits.length≤_;omega
theorem yk2:∀ (d:Nat) (l:List (Tr d)) (names:List ByteArray) (e:Es),(sA d l names e).2.bits.length≤e.bits.length+szT d l:=by
 intro d
 induction d with
 | zero=>intro l names e;exact Nat.le_add_right _ _
 | succ d ih =>
  intro l names e
  have h:=ytc (one:=fun s e=>sS (sA d) (hdT s) (bdT s) names e) (fun s=>szT d (bdT s)+1) (fun s e=>yon (fun n e=>ih _ n e)) l [] e
  refine Nat.le_trans h (Nat.add_le_add_left ?_ _)
  rw[ybb]
  clear h
  induction l with
  | nil=>exact Nat.zero_le _
  | cons s l ihl =>
   have e1:sumE (s :: l)=szE s+sumE l:=by simp [sumE]
   have e2:szE s=(hdT s).word.size+((hdT s).args.length+szS (hdT s).args+szT d (bdT s)):=rfl
   rw[List.map_cons,List.sum_cons,List.length_cons,e1]
   omega
theorem yhm {d:Nat} {s:Tr (d+1)}:∀ {l:List (Tr (d+1))},s∈l→(if hasB (hdT s).k then 1+ybf d (bdT s) else 0)≤ybf (d+1) l:=by
 intro l
 induction l with
 | nil=>intro h;cases h
 | cons x l ih =>
  intro h
  rw[yq4]
  rcases List.mem_cons.1 h with rfl|h
  ·exact Nat.le_max_left _ _
  ·exact Nat.le_trans (ih h) (Nat.le_max_right _ _)
theorem yoo {d:Nat} {s:Tr (d+1)} {l:List (Tr (d+1))} {t:Nat} (h:l[t]?=some s):szT d (bdT s)+1+szT (d+1) (l.drop (t+1))≤szT (d+1) (l.drop t):=by
 have e:l.drop t=s :: l.drop (t+1):=by
  obtain ⟨hl,rfl⟩:=List.getElem?_eq_some_iff.1 h
  exact List.drop_eq_getElem_cons hl
 have e1:sumE (s :: l.drop (t+1))=szE s+sumE (l.drop (t+1)):=by simp [sumE]
 have e2:szE s=(hdT s).word.size+((hdT s).args.length+szS (hdT s).args+szT d (bdT s)):=rfl
 rw[e,ybb,ybb,e1,List.length_cons]
 omega
theorem yll {α:Type} {s:α} {l:List α} {t:Nat} (h:l[t]?=some s):l.drop t=s :: l.drop (t+1):=by
 obtain ⟨hl,rfl⟩:=List.getElem?_eq_some_iff.1 h
 exact List.drop_eq_getElem_cons hl
theorem yre:AllS 0:=by
 intro P l A n c E names e w h _ hP hE _ _
 obtain rfl:n=0:=h.2
 have hlt:=hE.lt
 go_enter Tryz.func61,Tryz.ntmps61
 go_wp2
 refine wp_loop_rounds 1 ?_
 rw[rounds_succ]
 go_wp2
 go_ret
 refine ⟨_,rfl,yb2 w _ 8,hE.below yap (fun b hb hp=>.inl ⟨hp,hb⟩),yb7 yap _⟩
theorem yrf {d:Nat} (hone:OneS d):AllS (d+1):=by
 obtain ⟨i0,hi,hz0,hz1,hz2⟩:=info_parts yda
 intro P l A n c E names e w h hv hP hE hnm hsz
 have hElt:=hE.lt
 have hl:=h.1
 have H:=hD h
 have HV:=hD hv
 have HNM:=hD hnm
 have HSZ:=hD hsz
 have hn:n≤1048577:=by rw[ybb] at hsz;omega
 have HE:=hD hE
 have HL:=hD hl
 have HP:=hD hP
 clear h hv hnm hsz hE hl hP
 have own0:=yb2 w 104 8
 go_enter Tryz.func61,Tryz.ntmps61
 go_wp2
 go_loopw [5,6] (fun v i wr=>∃ (t:Nat) (out:List Opt) (et:Es),t≤n∧i=.int .i64 t∧out.length≤2000∧Hid (sA (d+1) l names e=sL (fun s e=>sS (sA d) (hdT s) (bdT s) names e) (l.drop t) out et)∧Hid (et.bits.length+szT (d+1) (l.drop t)≤1048577) ∧
  Hid (wr.ownsRow w.heap.size 104 8 v out.length (out.flatMap yan))∧Hid (EnvS wr E (Aft w P v) names et)∧Hid (w.grownBy wr (some E))) (fun _ i _=>n - (intOf i).toNat)
 case atStart=>exact ⟨0,[],e,Nat.zero_le _,rfl,Nat.zero_le _,rfl,by rw[List.drop_zero];exact HSZ.out,own0,HE.out.below yap (fun b hb hp=>.inl ⟨hp,hb⟩),yb7 yap _⟩
 case round =>
  clear own0
  obtain ⟨t,out,et,ht,rfl,hol,hsA,hbz,hown,henv,hgr⟩:=hrel
  obtain ⟨A0,c0,rfl,_,_,_⟩:=yah hown.out
  have hws:=hgr.out.size
  by_cases hlt:t<n
  ·obtain ⟨s,hs⟩:∃ s,l[t]?=some s:=⟨_,List.getElem?_eq_getElem (by have:=HL.out;omega)⟩
   have hv1:=yeu HV.out s (List.mem_of_getElem? hs)
   have h0:=yik (Q:=Aft w P (.slice A0 out.length c0)) H.out (fun b hb hl=>hgr.out.block b hl (fun e=>by injection e with e;subst e;exact HP.out hb)) hgr.out.size (fun b hl hb=>.inl ⟨hb,hl⟩)
   obtain ⟨b,off,rfl,_,hbl,hc⟩:=h0.2 Zq6
   obtain ⟨Aa,ca,Ab,nb,cb,⟨q0,q1,q2,q3,q4⟩,ha,hb,_⟩:=hc t s hs
   have hnm1:names.length+(if hasB (hdT s).k then 1+ybf d (bdT s) else 0)≤1000:=by have:=yhm (List.mem_of_getElem? hs);have:=HNM.out;omega
   have hz1:=yoo hs
   have hz2:=hbz.out
   have HC:=hone (Aft w P (.slice A0 out.length c0)) (hdT s) (bdT s) Aa ca Ab nb cb E names et wr ha hb hv1 (yg7 HP.out hElt) henv.out hnm1 Zq6
   have hlen:=yt4 (hdT s) (bdT s) names et
   have hbits:=yon (h:=hdT s) (names:=names) (e:=et) (fun n e=>yk2 d (bdT s) n e)
   have hsa:=hsA.out
   rw[yll hs] at hsa
   have hsa:sA (d+1) l names e=if 2000<(out++(sS (sA d) (hdT s) (bdT s) names et).1).length then ([],⟨(sS (sA d) (hdT s) (bdT s) names et).2.bits,(sS (sA d) (hdT s) (bdT s) names et).2.most,true⟩) else sL (fun s e=>sS (sA d) (hdT s) (bdT s) names e) (l.drop (t+1)) (out++(sS (sA d) (hdT s) (bdT s) names et).1) (sS (sA d) (hdT s) (bdT s) names et).2:=hsa
   obtain ⟨R,hR⟩:∃ R,R=sS (sA d) (hdT s) (bdT s) names et:=⟨_,rfl⟩
   rw[←hR] at HC hlen hbits hsa
   have HC:=hD HC
   have HSA:=hD hsa
   have hzn:R.2.bits.length+szT (d+1) (l.drop (t+1))≤1048577:=by omega
   have HZN:=hD hzn
   clear h0 hc hs hsa hR ha hb hv1 hz1 hz2 hbits hzn hnm1
   go_wp2_with fail
   refine HC.out.mono ?_
   rintro e1 w1 ⟨r,rfl,hor,hen,hg1⟩
   have hs1:=hg1.size
   obtain ⟨Ar,cr,rfl,_,_,rr⟩:=yah hor
   have own1:=ydv hown.out hg1 hElt
   have hvlt:∀ k,(Value.slice A0 out.length c0).ownBlock=some k→k<wr.heap.size:=fun k hk=>(hown.out.lt k hk).2
   have en1:=hD (hen.mono (fun b _ hb=>ytb hws hvlt b hb))
   have gr1:=hD (grE hgr.out hg1)
   clear hor hen hg1 q0 q1 q2 q3 q4 HC
   go_wp2_with (at_builtin;refine yae _ rfl _ _ 38 rfl w.heap.size 104 i0 _ 8 64 Tryz.underlying38 hi hz0 hz1 hz2 rfl Zq9 _ _ _ rfl own1 _ _ _ _ rfl rr ?c2 ?c3 ?c4 ?c5 ?_)
   case c2=>exact yed ydt R.1
   case c3=>simp only[maxLen];omega
   case c4=>omega
   case c5=>omega
   intro v6 w6 own6 gr6 hat
   have en6:=hD (en1.out.push hElt gr6 hat (ybe own1))
   have g6:=hD (yo4 gr1.out gr6 (ybe own1))
   have hs6:=gr6.size
   have e6:out.flatMap yan++R.1.flatMap yan=(out++R.1).flatMap yan:=by rw[List.flatMap_append]
   rw[e6] at own6
   obtain ⟨N,hN⟩:∃ N,N=out.length+R.1.length:=⟨_,rfl⟩
   rw[←hN] at own6
   have hNl:(out++R.1).length=N:=by rw[List.length_append,hN]
   have HN:=hD hNl
   have O6:=hD own6
   obtain ⟨A6,c6,rfl,_,_,_⟩:=yah own6
   clear own6 gr6 hat own1 e6 rr hN en1 gr1
   by_cases hbig:2000<N
   ·have hd:decide ((2000:Int)<(N:Int))=true:=decide_eq_true Zq6
    have HF:Hid (sA (d+1) l names e=([],⟨R.2.bits,R.2.most,true⟩)):=by show _=_;rw[HSA.out,if_pos (by rw[hNl];exact hbig)]
    obtain ⟨An,nn,cn,Bn,nbb,cbb,hh,_⟩:=id en6.out
    have z3:=yaj (j:=3) hh rfl
    have f3:=yab (j:=3) hh
    have lE:=lt_of_block hh
    clear hh hNl
    go_wp2_with fail
    go_ret
    refine ⟨.slice (some ⟨w6.heap.size,0,none⟩) 0 0,rfl,?_,?_,?_⟩
    ·rw[HF.out]
     have ho:=yb2 (w6.setCell ⟨E,3,none⟩ (.bool true)) 104 8
     rw[ych] at ho
     exact ybd ho Zq6
    ·rw[HF.out]
     exact(en6.out.long (yg7 HP.out hElt)).fresh (fun k hk=>by have hk:some w6.heap.size=some k:=hk;injection hk with hk;rw[ych];omega) yap
    ·exact ye1 (grE g6.out (setE _)) yap
   ·have hd:decide ((2000:Int)<(N:Int))=false:=decide_eq_false Zq6
    have HF:Hid (sA (d+1) l names e=sL (fun s e=>sS (sA d) (hdT s) (bdT s) names e) (l.drop (t+1)) (out++R.1) R.2):=by show _=_;rw[HSA.out,if_neg (by rw[hNl];exact hbig)]
    clear hNl
    go_wp2_with fail
    go_roundw
    case rel=>exact ⟨t+1,out++R.1,R.2,by omega,by go_num,by rw[HN.out];omega,HF.out,HZN.out,by rw[HN.out];exact O6.out,en6.out,g6.out⟩
    case measure=>simp [intOf];omega
  ·obtain rfl:t=n:=by omega
   have HF:Hid (sA (d+1) l names e=(out,et)):=by
    show _=_
    rw[hsA.out,List.drop_of_length_le (by rw[HL.out];exact Nat.le_refl _)]
    rfl
   go_wp2_with fail
   go_ret
   exact ⟨_,rfl,by rw[HF.out];exact hown.out,by rw[HF.out];exact henv.out,hgr.out⟩
theorem yfm {md:Region.Mode} {ops:Array Oper} {Lz:Array Bool} (hz:Lz.size=ops.size) (hac:(ops.toList.zipIdx.all fun x=>x.1.after.all fun e=>!Region.binds md e || decide (e.on<x.2))=true) (hr:Region.ready md ops Lz=[]):∀ i,i<ops.size→Ls Lz i:=by
 intro i
 induction i using Nat.strongRecOn with
 | ind i ih =>
  intro hi
  apply Classical.byContradiction
  intro hn
  have ho:ops[i]?=some ops[i]:=Array.getElem?_eq_getElem hi
  have hmem:i∈Region.ready md ops Lz:=mem_ready.2 ⟨by
   unfold Ls at hn
   have hj:i<Lz.size:=by rw[hz];exact hi
   simp [hj] at hn ⊢
   exact hn,ops[i],ho,fun e he hb=>by
   have h1:=List.all_eq_true.1 hac (ops[i],i) (by
    rw[List.mk_mem_zipIdx_iff_getElem?]
    simp)
   have h2:=Array.all_eq_true'.1 h1 e he
   rw[hb] at h2
   have h3:e.on<i:=by simpa using h2
   exact ih e.on h3 Zq6⟩
  rw[hr] at hmem
  simp at hmem
def EnvX (W:World) (E:Nat) (names:List ByteArray):Prop:=∃ (q:Nat→Prop) (en:Es),EnvS W E q names en∧¬ q E
section
variable {w w0 W W':World} {E:Nat} {P P0:Nat→Prop} {names:List ByteArray} {e:Es}
theorem EnvX.below (h:EnvX W E names) (hb:Below W.heap.size W W'):EnvX W' E names:=by
 obtain ⟨q,en,h1,h2⟩:=h
 exact ⟨q,en,h1.below hb (fun _ _ h=>h),h2⟩
theorem EnvS.drew (h:EnvS W E P names e):EnvS W.drew E P names e:=h
theorem EnvS.x0 (h:EnvS W E P names e) (hp:¬ P E):EnvX W.drew E names:=⟨P,e,h,hp⟩
theorem ym3 {r:Option Nat}:W.grownBy W.drew r:=⟨rfl,rfl,rfl,Nat.le_refl _,fun _ _ _=>rfl⟩
theorem ycr {b o:Nat} (h:W.grownBy W' (some E)) (hb:b<W.heap.size) (hne:b≠E):W'.cell? ⟨b,o,none⟩=W.cell? ⟨b,o,none⟩:=by
 have:=h.block b hb (fun e=>hne (by injection e))
 simp [World.cell?,this]
theorem ym4 {v:Value} (hs:w0.heap.size≤W.heap.size):∀ b,Aft W P v b→(∀ b,P b→b<w0.heap.size)→Aft w0 P v b:=by
 rintro b (⟨h1,_⟩|⟨h1,h2⟩) hp
 ·exact .inl ⟨h1,hp b h1⟩
 ·exact .inr ⟨by omega,h2⟩
theorem yuh (l:List ByteArray) (s:ByteArray):0≤fS l s∧fS l s≤l.length:=by
 unfold fS atS
 cases hx:idx l s with
 | none=>exact ⟨Int.le_refl _,by show((0:Nat):Int)≤_;omega⟩
 | some t =>
  unfold idx at hx
  rw[List.findIdx?_eq_some_iff_getElem] at hx
  obtain ⟨hl,_⟩:=hx
  exact ⟨by show(0:Int)≤(t:Int);omega,by show(t:Int)≤_;omega⟩
theorem yer {v:Value} (hs:w.heap.size≤w0.heap.size):∀ b,Aft w0 (fun b=>P b∧b<w.heap.size) v b→Aft w P v b:=by
 rintro b (⟨h1,_⟩|⟨h1,h2⟩)
 ·exact .inl h1
 ·exact .inr ⟨by omega,h2⟩
end
def AncS (d:Nat):Prop:=∀ (P:Nat→Prop) (h:SH) (bd:List (Tr d)) (Aa:Option Addr) (ca:Nat) (Ab:Option Addr) (nb cb E:Nat) (names:List ByteArray) (e:Es) (w:World),RdQ w P 1 Aa h.args.length (strs h.args)→TrQ w P d Ab nb bd→vOne d (ya7 d) h bd=true→h.k=5→¬ P E→EnvS w E P names e →
 names.length+(if hasB h.k then 1+ybf d bd else 0)≤1000→e.bits.length+szT d bd+1≤1048577 →
 Calls Tryz.prog 144 #[.agg #[.int .i64 h.k,.string h.word,.slice Aa h.args.length ca,.int .i64 h.count,.slice Ab nb cb],.pointer (some ⟨E,0,none⟩)] w (yl8 w E P names (sS (sA d) h bd names e))
theorem Zq14 {p:Prop} (h:p:=by first|rfl|decide):p:=h
theorem yrg {d:Nat} (hall:AllS d) (hanc:AncS d):OneS d:=by
 obtain ⟨i0,hi,hz0,hz1,hz2⟩:=info_parts yda
 intro P h bd Aa ca Ab nb cb E names e w ha hb hv hP hE hnm hsz
 have hElt:=hE.lt
 obtain ⟨X,hX⟩:∃ X,X=w.heap.size:=⟨_,rfl⟩
 obtain ⟨P0,hP0e⟩:∃ P0:Nat→Prop,P0=fun b=>P b∧b<w.heap.size:=⟨_,rfl⟩
 obtain ⟨w0,hw0⟩:∃ w0,w0=w.alloc (.cells #[.int .i64 h.k,.string h.word,.slice Aa h.args.length ca,.int .i64 h.count,.slice Ab nb cb] 66):=⟨_,rfl⟩
 have B0:=hD (show Below w.heap.size w w0 by rw[hw0];exact Zq0)
 have hs0:=B0.out.size
 have EN0:=hD (hE.below (Q:=P0) B0.out (fun b hl hp=>by rw[hP0e];exact ⟨hp,hl⟩))
 have RA0:=hD (ygr (Q:=P0) ha (fun b _ hl=>B0.out.block b hl) hs0 (fun b hl hp=>by rw[hP0e];exact ⟨hp,hl⟩))
 have TB0:=hD (yik (Q:=P0) hb (fun b _ hl=>B0.out.block b hl) hs0 (fun b hl hp=>by rw[hP0e];exact ⟨hp,hl⟩))
 have hP0:¬ P0 E:=by rw[hP0e];exact fun h=>hP h.1
 have hPlt:∀ b,P0 b→b<w0.heap.size:=by rw[hP0e];exact fun b h=>Nat.lt_of_lt_of_le h.2 hs0
 have X0:=hD (show w0.heap[X]?=some (.cells #[.int .i64 h.k,.string h.word,.slice Aa h.args.length ca,.int .i64 h.count,.slice Ab nb cb] 66 (0,0)) by rw[hw0,hX];exact yac _ _)
 have hX0:=lt_of_block X0.out
 have hXE:X≠E:=by omega
 have hE0:E<w0.heap.size:=by omega
 obtain ⟨k0,k1,k2,k3,k4⟩:=yb9 (lay:=Below.refl _ _) X0.out
 have HX:=hD hX
 have HW0:=hD hw0
 have HPE:=hD hP0e
 have HV:=hD hv
 have HNM:=hD hnm
 have HSZ:=hD hsz
 have hk:=(ybp hv).1
 clear hX hw0 ha hb hv hE hP
 have hall:∀ W,TrQ W P0 d Ab nb bd→EnvS W E P0 names e→names.length+ybf d bd≤1000→Calls Tryz.prog 61 #[.slice Ab nb cb,.pointer (some ⟨E,0,none⟩)] W (yl8 W E P0 names (sA d bd names e)):=fun W hb he hn=>hall P0 bd Ab nb cb E names e W hb (ybp HV.out).2.2.2.2.2.2.2 hP0 he hn Zq6
 have hk7:h.k=1∨h.k=2∨h.k=3∨h.k=4∨h.k=5∨h.k=6∨h.k=7:=by omega
 have hnb:hasB h.k=true→names.length+(1+ybf d bd)≤1000:=fun hb=>by have:=HNM.out;rwa [if_pos hb] at this
 clear hk hnm hsz hP0e
 go_enter Tryz.func115,Tryz.ntmps115
 rcases hk7 with hk|hk|hk|hk|hk|hk|hk
 ·have hal:1≤h.args.length∧h.args.length≤3:=by
   obtain ⟨_,h1,h2,_⟩:=ybp HV.out
   have h3:yar h.k h.word=ar (yao h.word):=by unfold yar;rw[if_pos hk]
   rw[h3] at h1 h2
   have h4:=h2.resolve_left (fun h=>h hk)
   have h5:=yju (yao h.word)
   omega
  have HAL:=hD hal
  obtain ⟨g,hg⟩:∃ g,g=gat (fS names) h:=⟨_,rfl⟩
  have HG:=hD hg
  have HF:Hid (sS (sA d) h bd names e=([gop 0 g],e)):=by show _=_;rw[sS_1 hk,hg]
  clear hg hal
  obtain ⟨An,nn,cn,Bn,nbb,cbb,hh0,rfl,hna,hbl,hbi⟩:=id EN0.out
  have HH0:=hD hh0
  have NA0:=hD hna
  have BI0:=hD hbi
  have HBL:=hD hbl
  have z0:=yaj (j:=0) hh0 rfl
  have z1:=yaj (j:=1) hh0 rfl
  clear hh0 hna hbi hbl
  have e1:(h.k==1)=true:=by rw[hk];decide
  clear hk hall hanc hnb
  go_upto_region 3 with (fail)
  rw[←HW0.out,←HX.out]
  obtain ⟨J0,hJ0⟩:∃ J:Array Value→Array Bool→Act→World→Prop,J=(fun A0 Lz a W=>∃ (g0:Nat),∃ x12 x13 x14 x15 x16 x17 x18 x19 x4:Value,a=⟨(((((((((A0.setIfInBounds 12 x12).setIfInBounds 13 x13).setIfInBounds 14 x14).setIfInBounds 15 x15).setIfInBounds 16 x16).setIfInBounds 17 x17).setIfInBounds 18 x18).setIfInBounds 19 x19).setIfInBounds 4 x4),[]⟩∧(Ls Lz 0→x12=.agg #[.int .i64 h.k,.string h.word,.slice Aa h.args.length ca,.int .i64 h.count,.slice Ab nb cb])∧(Ls Lz 1→x13=.pointer (some ⟨E,0,none⟩))∧(Ls Lz 2→x14=.pointer (some ⟨E,0,none⟩))∧(Ls Lz 3→x15=.pointer (some ⟨E,0,none⟩))∧(Ls Lz 4→x16=.slice An names.length cn)∧(Ls Lz 5→x17=.agg #[.int .i64 g.k,.int .i64 g.a,.int .i64 g.b,.int .i64 g.c])∧(Ls Lz 6→x18=.agg #[.int .i64 1,.int .i64 g.k,.int .i64 g.a,.int .i64 g.b,.int .i64 g.c,.int .i64 0,.int .i64 0,.int .i64 0])∧(Ls Lz 7→x19=.slice (some ⟨g0,0,none⟩) 1 1)∧(Ls Lz 8→(x4=.slice (some ⟨g0,0,none⟩) 1 1∧W.ownsRow w0.heap.size 104 8 (.slice (some ⟨g0,0,none⟩) 1 1) 1 (yan (gop 0 g))∧Below w0.heap.size w0 W))∧(Ls Lz 7→¬ Ls Lz 8→W.ownsRow w0.heap.size 104 8 (.slice (some ⟨g0,0,none⟩) 1 1) 1 (yan (gop 0 g)))∧(¬ Ls Lz 8→Below w0.heap.size w0 W)∧(Ls Lz 8→¬ Ls Lz 8→True)):=⟨_,rfl⟩
  have HJ0:=hD hJ0
  clear hJ0
  refine ya3 Zq8 J0 ?_ ?_ ?_
  ·intro A0
   rw[HJ0.out]
   exact ⟨0,A0.getD 12 undef,A0.getD 13 undef,A0.getD 14 undef,A0.getD 15 undef,A0.getD 16 undef,A0.getD 17 undef,A0.getD 18 undef,A0.getD 19 undef,A0.getD 4 undef,by simp only[ybm],zn,zn,zn,zn,zn,zn,zn,zn,zn,zn,fun _=>ycb (Below.refl _ _),zn⟩
  ·intro Lz a W hsize hcl hJ i hi
   have hil:=ybn hi
   have hnl:=ybi hi
   have hnow:=ybh hi hsize
   have HCL:=hD hcl
   rw[HJ0.out] at hJ
   obtain ⟨g0,x12,x13,x14,x15,x16,x17,x18,x19,x4,rfl,HF⟩:=hJ
   have HH:=hD HF
   have hi2:i=0∨i=1∨i=2∨i=3∨i=4∨i=5∨i=6∨i=7∨i=8:=by simp at hil;omega
   clear hil hcl HF
   rcases hi2 with rfl|rfl|rfl|rfl|rfl|rfl|rfl|rfl|rfl
   ·have hns:¬ Ls Lz 8:=fun h=>hnl (dq HCL (dq HCL (dq HCL (dq HCL h 7) 6) 5) 0)
    have V0:=(pj10 HH.out) hns
    clear hi HCL
    simp only[zA,zB,zC]
    have q0:=(V0.cell (p:=⟨X,0,none⟩) hX0).trans k0
    have q1:=(V0.cell (p:=⟨X,1,none⟩) hX0).trans k1
    have q2:=(V0.cell (p:=⟨X,2,none⟩) hX0).trans k2
    have q3:=(V0.cell (p:=⟨X,3,none⟩) hX0).trans k3
    have q4:=(V0.cell (p:=⟨X,4,none⟩) hX0).trans k4
    refine yaa rfl rfl fun K hK=>?_
    go_wp2_with fail
    rw[HJ0.out]
    exact ⟨g0,.agg #[.int .i64 h.k,.string h.word,.slice Aa h.args.length ca,.int .i64 h.count,.slice Ab nb cb],x13,x14,x15,x16,x17,x18,x19,x4,(by simp only[zA,zB,zC]),zT HH⟩
   ·clear hi HCL
    simp only[zA,zB,zC]
    refine yaa rfl rfl fun K hK=>?_
    go_wp2_with fail
    rw[HJ0.out]
    exact ⟨g0,x12,.pointer (some ⟨E,0,none⟩),x14,x15,x16,x17,x18,x19,x4,(by simp only[zA,zB,zC]),zT HH⟩
   ·have D1:=(pj1 HH.out) (rq hi 1)
    clear hi HCL
    simp only[zA,zB,zC,D1]
    refine yaa rfl rfl fun K hK=>?_
    go_wp2_with fail
    rw[HJ0.out]
    exact ⟨g0,x12,x13,.pointer (some ⟨E,0,none⟩),x15,x16,x17,x18,x19,x4,(by simp only[zA,zB,zC,D1]),zT HH⟩
   ·have D2:=(pj2 HH.out) (rq hi 2)
    clear hi HCL
    simp only[zA,zB,zC,D2]
    refine yaa rfl rfl fun K hK=>?_
    go_wp2_with fail
    rw[HJ0.out]
    exact ⟨g0,x12,x13,x14,.pointer (some ⟨E,0,none⟩),x16,x17,x18,x19,x4,(by simp only[zA,zB,zC,D2]),zT HH⟩
   ·have hns:¬ Ls Lz 8:=fun h=>hnl (dq HCL (dq HCL (dq HCL (dq HCL h 7) 6) 5) 4)
    have D3:=(pj3 HH.out) (rq hi 3)
    have V0:=(pj10 HH.out) hns
    clear hi HCL
    simp only[zA,zB,zC,D3]
    have q0:=(V0.cell (p:=⟨E,0,none⟩) hE0).trans z0
    refine yaa rfl rfl fun K hK=>?_
    go_wp2_with fail
    rw[HJ0.out]
    exact ⟨g0,x12,x13,x14,x15,.slice An names.length cn,x17,x18,x19,x4,(by simp only[zA,zB,zC,D3]),zT HH⟩
   ·have hns:¬ Ls Lz 8:=fun h=>hnl (dq HCL (dq HCL (dq HCL h 7) 6) 5)
    have D0:=(pj0 HH.out) (rq hi 0)
    have D4:=(pj4 HH.out) (rq hi 4)
    have V0:=(pj10 HH.out) hns
    clear hi HCL
    simp only[zA,zB,zC,D0,D4]
    refine yaa rfl rfl fun K hK=>?_
    go_wp2_with fail
    refine(ynu h Aa ca Ab nb cb names An names.length cn W (RA0.out.rd.below V0) (NA0.out.rd.below V0) rfl (by have:=HNM.out;omega) HAL.out.1 HAL.out.2).mono ?_
    rintro e1 y ⟨rfl,hb⟩
    rw[←HG.out]
    go_wp2_with fail
    rw[HJ0.out]
    exact ⟨g0,x12,x13,x14,x15,x16,.agg #[.int .i64 g.k,.int .i64 g.a,.int .i64 g.b,.int .i64 g.c],x18,x19,x4,(by simp only[zA,zB,zC,D0,D4]),zk HH,zk HH,zk HH,zk HH,zk HH,fun _=>rfl,zk HH,zk HH,Ba hns,(Bt (pj9 HH.out) fun x=>yat x hb),fun h=>belE ((pj10 HH.out) (fun h2=>h h2.fwd)) hb,Bb hns⟩
   ·have D5:=(pj5 HH.out) (rq hi 5)
    clear hi HCL
    simp only[zA,zB,zC,D5]
    refine yaa rfl rfl fun K hK=>?_
    go_wp2_with fail
    rw[HJ0.out]
    exact ⟨g0,x12,x13,x14,x15,x16,x17,.agg #[.int .i64 1,.int .i64 g.k,.int .i64 g.a,.int .i64 g.b,.int .i64 g.c,.int .i64 0,.int .i64 0,.int .i64 0],x19,x4,(by simp only[zA,zB,zC,D5]),zT HH⟩
   ·have hns:¬ Ls Lz 8:=fun h=>hnl (dq HCL h 7)
    have D6:=(pj6 HH.out) (rq hi 6)
    have V0:=(pj10 HH.out) hns
    clear hi HCL
    simp only[zA,zB,zC,D6]
    refine yaa rfl rfl fun K hK=>?_
    go_wp2_with fail
    rw[HJ0.out]
    exact ⟨W.heap.size,x12,x13,x14,x15,x16,x17,x18,.slice (some ⟨W.heap.size,0,none⟩) 1 1,x4,(by simp only[zA,zB,zC,D6]),zk HH,zk HH,zk HH,zk HH,zk HH,zk HH,zk HH,fun _=>rfl,Ba hns,fun _ _=>World.ownsRow_lit W _ 1 V0.size Zq13 rfl,fun h=>belE ((pj10 HH.out) (fun h2=>h h2.fwd)) yap,Bb hns⟩
   ·have hns:¬ Ls Lz 8:=hnl
    have D7:=(pj7 HH.out) (rq hi 7)
    have E7:=(pj9 HH.out) (rq hi 7) hns
    have V0:=(pj10 HH.out) hns
    clear hi HCL
    simp only[zA,zB,zC,D7]
    refine yaa rfl rfl fun K hK=>?_
    go_wp2_with fail
    rw[HJ0.out]
    exact ⟨g0,x12,x13,x14,x15,x16,x17,x18,x19,.slice (some ⟨g0,0,none⟩) 1 1,(by first|(simp only[zA,zB,zC,D7] <;> fail)|simp only[Act.put,zA,zB,zC,D7]),zk HH,zk HH,zk HH,zk HH,zk HH,zk HH,zk HH,zk HH,fun _=>⟨rfl,E7,V0⟩,zx hnow,zy hnow,zx hnow⟩
  ·intro Lz a W hsize hJ hr
   rw[HJ0.out] at hJ
   have hall:=ybj hsize Zq8 hr
   obtain ⟨g0,x12,x13,x14,x15,x16,x17,x18,x19,x4,rfl,HF⟩:=hJ
   have HH:=hD HF
   have HEND:=(pj8 HH.out) (hall 8 Zq9)
   clear HF HH hall hr hsize
   simp only[zA,zB,zC]
   obtain ⟨rfl,ho,hbF⟩:=HEND
   obtain ⟨w1,rfl⟩:∃ w1:World,w1=W:=⟨_,rfl⟩
   have HO:=hD ho
   have HB1:=hD hbF
   clear ho hbF
   go_wp2_with fail
   go_ret
   refine ⟨.slice (some ⟨g0,0,none⟩) 1 1,rfl,by rw[HF.out];exact ybd (by simpa using HO.out) Zq6,?_,yb7 (B0.out.trans (HB1.out.mono Zq6)) _⟩
   rw[HF.out]
   have hge:=(HO.out.lt g0 rfl).1
   exact EN0.out.below HB1.out (fun b hl hb=>yer hs0 b (by rw[←HPE.out];exact .inl ⟨hb,hl⟩))
 ·obtain ⟨R,hR⟩:∃ R,R=sA d bd names e:=⟨_,rfl⟩
  have HF:Hid (sS (sA d) h bd names e=(repO R.1 (reps h.count),R.2)):=by show _=_;rw[sS_2 hk,hR]
  have HN:Hid ((repO R.1 (reps h.count)).length=reps h.count*R.1.length):=yip _ _
  have HRL:Hid (R.1.length≤2000):=by show _≤_;rw[hR];exact ygn _ _ _ _
  have hn1:=hnb (by rw[hk];decide)
  have HALL:=hD (fun W hb he=>hall W hb he Zq6)
  rw[←hR] at HALL
  have e1:(h.k==1)=false:=by rw[hk];decide
  have e2:(h.k==2)=true:=by rw[hk];decide
  clear hk hall hanc hnb hR
  go_upto_region 5 with (fail)
  rw[←HW0.out,←HX.out]
  obtain ⟨J0,hJ0⟩:∃ J:Array Value→Array Bool→Act→World→Prop,J=(fun A0 Lz a W=>∃ (Ax:Option Addr) (cx:Nat) (Ay:Option Addr) (cy:Nat),∃ x22 x23 x24 x25 x26 x27 x28 x4:Value,a=⟨((((((((A0.setIfInBounds 22 x22).setIfInBounds 23 x23).setIfInBounds 24 x24).setIfInBounds 25 x25).setIfInBounds 26 x26).setIfInBounds 27 x27).setIfInBounds 28 x28).setIfInBounds 4 x4),[]⟩∧(Ls Lz 0→x22=.pointer (some ⟨X,4,none⟩))∧(Ls Lz 1→x23=.slice Ab nb cb)∧(Ls Lz 2→x24=.pointer (some ⟨E,0,none⟩))∧(Ls Lz 3→x25=.slice Ax R.1.length cx)∧(Ls Lz 4→x26=.pointer (some ⟨X,3,none⟩))∧(Ls Lz 5→x27=.int .i64 h.count)∧(Ls Lz 6→x28=.slice Ay (reps h.count*R.1.length) cy)∧(Ls Lz 7→(x4=.slice Ay (reps h.count*R.1.length) cy∧(W.ownsRow w0.heap.size 104 8 (.slice Ay (reps h.count*R.1.length) cy) (reps h.count*R.1.length) ((repO R.1 (reps h.count)).flatMap yan)∧EnvS W E (Aft w0 P0 (.slice Ay (reps h.count*R.1.length) cy)) names R.2)∧w0.grownBy W (some E)))∧(Ls Lz 3→¬ Ls Lz 7→(W.ownsRow w0.heap.size 104 8 (.slice Ax R.1.length cx) R.1.length (R.1.flatMap yan)∧EnvS W E (Aft w0 P0 (.slice Ax R.1.length cx)) names R.2))∧(Ls Lz 6→¬ Ls Lz 7→(W.ownsRow w0.heap.size 104 8 (.slice Ay (reps h.count*R.1.length) cy) (reps h.count*R.1.length) ((repO R.1 (reps h.count)).flatMap yan)∧EnvS W E (Aft w0 P0 (.slice Ay (reps h.count*R.1.length) cy)) names R.2))∧(¬ Ls Lz 7→w0.grownBy W (some E))∧(¬ Ls Lz 7→EnvX W E names)∧(Ls Lz 7→¬ Ls Lz 7→True)∧(¬ Ls Lz 3→EnvS W E P0 names e)):=⟨_,rfl⟩
  have HJ0:=hD hJ0
  clear hJ0
  refine ya3 Zq8 J0 ?_ ?_ ?_
  ·intro A0
   rw[HJ0.out]
   exact ⟨none,0,none,0,A0.getD 22 undef,A0.getD 23 undef,A0.getD 24 undef,A0.getD 25 undef,A0.getD 26 undef,A0.getD 27 undef,A0.getD 28 undef,A0.getD 4 undef,by simp only[ybm],zn,zn,zn,zn,zn,zn,zn,zn,zn,zn,fun _=>ym3,fun _=>EN0.out.x0 hP0,zn,fun _=>EN0.out.drew⟩
  ·intro Lz a W hsize hcl hJ i hi
   have hil:=ybn hi
   have hnl:=ybi hi
   have hnow:=ybh hi hsize
   have HCL:=hD hcl
   rw[HJ0.out] at hJ
   obtain ⟨Ax,cx,Ay,cy,x22,x23,x24,x25,x26,x27,x28,x4,rfl,HF⟩:=hJ
   have HH:=hD HF
   have hi2:i=0∨i=1∨i=2∨i=3∨i=4∨i=5∨i=6∨i=7:=by simp at hil;omega
   clear hil hcl HF
   rcases hi2 with rfl|rfl|rfl|rfl|rfl|rfl|rfl|rfl
   ·clear hi HCL
    simp only[zA,zB,zC]
    refine yaa rfl rfl fun K hK=>?_
    go_wp2_with fail
    rw[HJ0.out]
    exact ⟨Ax,cx,Ay,cy,.pointer (some ⟨X,4,none⟩),x23,x24,x25,x26,x27,x28,x4,(by simp only[zA,zB,zC]),zT HH⟩
   ·have hns:¬ Ls Lz 7:=fun h=>hnl (dq HCL (dq HCL (dq HCL h 6) 3) 1)
    have D0:=(pj0 HH.out) (rq hi 0)
    have V0:=(pj10 HH.out) hns
    have V1:=(pj11 HH.out) hns
    clear hi HCL
    simp only[zA,zB,zC,D0]
    have q0:=(ycr V0 hX0 hXE).trans k4
    refine yaa rfl rfl fun K hK=>?_
    go_wp2_with fail
    rw[HJ0.out]
    exact ⟨Ax,cx,Ay,cy,x22,.slice Ab nb cb,x24,x25,x26,x27,x28,x4,(by simp only[zA,zB,zC,D0]),zT HH⟩
   ·clear hi HCL
    simp only[zA,zB,zC]
    refine yaa rfl rfl fun K hK=>?_
    go_wp2_with fail
    rw[HJ0.out]
    exact ⟨Ax,cx,Ay,cy,x22,x23,.pointer (some ⟨E,0,none⟩),x25,x26,x27,x28,x4,(by simp only[zA,zB,zC]),zT HH⟩
   ·have hns:¬ Ls Lz 7:=fun h=>hnl (dq HCL (dq HCL h 6) 3)
    have D1:=(pj1 HH.out) (rq hi 1)
    have D2:=(pj2 HH.out) (rq hi 2)
    have V0:=(pj10 HH.out) hns
    have V1:=(pj11 HH.out) hns
    have hk6:¬ Ls Lz 6:=fun h=>hnl (dq HCL h 3)
    have Hh0:=(pe13 HH.out) hnl
    clear hi HCL
    simp only[zA,zB,zC,D1,D2]
    refine yaa rfl rfl fun K hK=>?_
    go_wp2_with fail
    refine(HALL.out W (TrQ.call TB0.out V0 hP0) Hh0).mono ?_
    rintro e1 y ⟨v7,rfl,ho,hen,hg⟩
    obtain ⟨A7,c7,rfl,_,_,_⟩:=yah ho
    go_wp2_with fail
    rw[HJ0.out]
    exact ⟨A7,c7,Ay,cy,x22,x23,x24,.slice A7 R.1.length c7,x26,x27,x28,x4,(by simp only[zA,zB,zC,D1,D2]),zk HH,zk HH,zk HH,fun _=>rfl,zk HH,zk HH,Ba hk6,Ba hns,fun _ _=>⟨ybd ho V0.size,hen.mono (fun b _ hb=>ym4 V0.size b hb hPlt)⟩,Bb hk6,fun h=>grE ((pj10 HH.out) (fun h2=>h h2.fwd)) hg,fun h=>⟨_,_,hen,yg7 hP0 (Nat.lt_of_lt_of_le hE0 V0.size)⟩,Bb hns,zy hnow⟩
   ·clear hi HCL
    simp only[zA,zB,zC]
    refine yaa rfl rfl fun K hK=>?_
    go_wp2_with fail
    rw[HJ0.out]
    exact ⟨Ax,cx,Ay,cy,x22,x23,x24,x25,.pointer (some ⟨X,3,none⟩),x27,x28,x4,(by simp only[zA,zB,zC]),zT HH⟩
   ·have hns:¬ Ls Lz 7:=fun h=>hnl (dq HCL (dq HCL h 6) 5)
    have D4:=(pj4 HH.out) (rq hi 4)
    have V0:=(pj10 HH.out) hns
    have V1:=(pj11 HH.out) hns
    clear hi HCL
    simp only[zA,zB,zC,D4]
    have q0:=(ycr V0 hX0 hXE).trans k3
    refine yaa rfl rfl fun K hK=>?_
    go_wp2_with fail
    rw[HJ0.out]
    exact ⟨Ax,cx,Ay,cy,x22,x23,x24,x25,x26,.int .i64 h.count,x28,x4,(by simp only[zA,zB,zC,D4]),zT HH⟩
   ·have hns:¬ Ls Lz 7:=fun h=>hnl (dq HCL h 6)
    have D3:=(pj3 HH.out) (rq hi 3)
    have E3:=(pj8 HH.out) (rq hi 3) hns
    have D5:=(pj5 HH.out) (rq hi 5)
    have V0:=(pj10 HH.out) hns
    have V1:=(pj11 HH.out) hns
    have hp3:Ls Lz 3:=(rq hi 3)
    clear hi HCL
    simp only[zA,zB,zC,D3,D5]
    have rr:=ybv E3.1
    refine yaa rfl rfl fun K hK=>?_
    go_wp2_with fail
    refine(ykw _ _ _ R.1 h.count W rr rfl (by have:=HRL.out;omega)).mono ?_
    rintro e1 y ⟨v8,rfl,ho,hb,hs⟩
    obtain ⟨A8,c8,rfl,_,_,_⟩:=yah ho
    go_wp2_with fail
    rw[HJ0.out]
    exact ⟨Ax,cx,A8,c8,x22,x23,x24,x25,x26,x27,.slice A8 (reps h.count*R.1.length) c8,x4,(by simp only[zA,zB,zC,D3,D5]),zk HH,zk HH,zk HH,zk HH,zk HH,zk HH,fun _=>rfl,Ba hns,(Bt (pj8 HH.out) fun x=>⟨yat x.1 hb,EnvS.below x.2 hb (fun _ _ h=>h)⟩),fun _ _=>⟨ybd ho V0.size,(EnvS.fresh E3.2 (ybe ho) hb)⟩,fun h=>ye1 ((pj10 HH.out) (fun h2=>h h2.fwd)) hb,fun h=>EnvX.below ((pj11 HH.out) (fun h2=>h h2.fwd)) hb,Bb hns,fun h=>absurd (Ls.fwd hp3) h⟩
   ·have hns:¬ Ls Lz 7:=hnl
    have D6:=(pj6 HH.out) (rq hi 6)
    have E6:=(pj9 HH.out) (rq hi 6) hns
    have V0:=(pj10 HH.out) hns
    have V1:=(pj11 HH.out) hns
    clear hi HCL
    simp only[zA,zB,zC,D6]
    refine yaa rfl rfl fun K hK=>?_
    go_wp2_with fail
    rw[HJ0.out]
    exact ⟨Ax,cx,Ay,cy,x22,x23,x24,x25,x26,x27,x28,.slice Ay (reps h.count*R.1.length) cy,(by first|(simp only[zA,zB,zC,D6] <;> fail)|simp only[Act.put,zA,zB,zC,D6]),zk HH,zk HH,zk HH,zk HH,zk HH,zk HH,zk HH,fun _=>⟨rfl,E6,V0⟩,zx hnow,zx hnow,zy hnow,zy hnow,zx hnow,zi HH⟩
  ·intro Lz a W hsize hJ hr
   rw[HJ0.out] at hJ
   have hall:=ybj hsize Zq8 hr
   obtain ⟨Ax,cx,Ay,cy,x22,x23,x24,x25,x26,x27,x28,x4,rfl,HF⟩:=hJ
   have HH:=hD HF
   have HEND:=(pj7 HH.out) (hall 7 Zq9)
   clear HF HH hall hr hsize
   simp only[zA,zB,zC]
   obtain ⟨rfl,⟨ho,hen⟩,hg⟩:=HEND
   obtain ⟨w1,rfl⟩:∃ w1:World,w1=W:=⟨_,rfl⟩
   have HO:=hD ho
   have HE:=hD hen
   have HGR:=hD hg
   clear ho hen hg
   go_wp2_with fail
   go_ret
   exact ⟨.slice Ay (reps h.count*R.1.length) cy,rfl,by rw[HF.out];show World.ownsRow _ _ _ _ _ (repO R.1 (reps h.count)).length _;rw[HN.out];exact ybd HO.out Zq6,by rw[HF.out];exact HE.out.mono (fun b _ hb=>yer hs0 b (by rw[←HPE.out];exact hb)),grE (yb7 B0.out _) HGR.out⟩
 ·obtain ⟨R,hR⟩:∃ R,R=sA d bd names e:=⟨_,rfl⟩
  have HF:Hid (sS (sA d) h bd names e=(adjO R.1,R.2)):=by show _=_;rw[sS_3 hk,hR]
  have HN:Hid ((adjO R.1).length=R.1.length):=yf7 _
  have HRL:Hid (R.1.length≤2000):=by show _≤_;rw[hR];exact ygn _ _ _ _
  have hn1:=hnb (by rw[hk];decide)
  have HALL:=hD (fun W hb he=>hall W hb he Zq6)
  rw[←hR] at HALL
  have e1:(h.k==1)=false:=by rw[hk];decide
  have e2:(h.k==2)=false:=by rw[hk];decide
  have e3:(h.k==3)=true:=by rw[hk];decide
  clear hk hall hanc hnb hR
  go_wp2_with fail
  rw[←HW0.out]
  refine(HALL.out w0 TB0.out EN0.out).mono ?_
  rintro e1 w1 ⟨v1,rfl,ho,hen,hg⟩
  obtain ⟨A7,c7,rfl,_,_,rr⟩:=yah ho
  have hs1:=hg.size
  have HEN:=hD hen
  have HGR:=hD hg
  clear hen hg ho
  go_wp2_with fail
  refine(yj6 _ _ _ R.1 w1 rr rfl (by have:=HRL.out;omega)).mono ?_
  rintro e2 w2 ⟨v8,rfl,ho2,hb2,hs2⟩
  have HO:=hD ho2
  have HE2:=hD (HEN.out.fresh (ybe ho2) hb2)
  have HG2:=hD (ye1 HGR.out hb2)
  clear ho2 hb2 rr
  go_wp2_with fail
  go_ret
  exact ⟨v8,rfl,by rw[HF.out];show World.ownsRow _ _ _ _ _ (adjO R.1).length _;rw[HN.out];exact ybd HO.out Zq6,by rw[HF.out];exact HE2.out.mono (fun b _ hb=>yer hs0 b (by rw[←HPE.out];exact hb)),grE (yb7 B0.out _) HG2.out⟩
 ·have hal:0<h.args.length:=by have h1:=(ybp HV.out).2.1;rw[hk] at h1;have h2:yar 4 h.word=1:=Zq14;omega
  obtain ⟨b,off,rfl,hbP,hb0,hbc⟩:=RA0.out.2 hal
  have hbE:b≠E:=fun e=>hP0 (e▸hbP)
  obtain ⟨a0,hA0⟩:∃ a0,a0=arg0 h:=⟨_,rfl⟩
  have HA0:=hD hA0
  have c0:w0.cell? ⟨b,off,none⟩=some (.string a0):=hbc 0 _ (by unfold strs;rw[List.getElem?_map,yc3 hal,hA0];rfl)
  clear hA0
  obtain ⟨R,hR⟩:∃ R,R=sA d bd names e:=⟨_,rfl⟩
  obtain ⟨q0i,hQ⟩:∃ q,q=fS names a0:=⟨_,rfl⟩
  have HQ:=hD hQ
  have HF:Hid (sS (sA d) h bd names e=(osL q0i R.1,R.2)):=by show _=_;rw[sS_4 hk,hR,hQ,HA0.out]
  have HRL:Hid (R.1.length≤2000):=by show _≤_;rw[hR];exact ygn _ _ _ _
  have hn1:=hnb (by rw[hk];decide)
  have HALL:=hD (fun W hb he=>hall W hb he Zq6)
  rw[←hR] at HALL
  clear hQ
  have e1:(h.k==1)=false:=by rw[hk];decide
  have e2:(h.k==2)=false:=by rw[hk];decide
  have e3:(h.k==3)=false:=by rw[hk];decide
  have e4:(h.k==4)=true:=by rw[hk];decide
  clear hk hall hanc hnb hR
  go_upto_region 9 with (fail)
  rw[←HW0.out,←HX.out]
  obtain ⟨J0,hJ0⟩:∃ J:Array Value→Array Bool→Act→World→Prop,J=(fun A0 Lz a W=>∃ (An:Option Addr) (cn:Nat) (Ax:Option Addr) (cx:Nat) (Ay:Option Addr) (cy:Nat),∃ x39 x40 x41 x42 x43 x44 x45 x46 x47 x48 x49 x50 x51 x52 x38 x53 x54 x5 x6:Value,a=⟨(((((((((((((((((((A0.setIfInBounds 39 x39).setIfInBounds 40 x40).setIfInBounds 41 x41).setIfInBounds 42 x42).setIfInBounds 43 x43).setIfInBounds 44 x44).setIfInBounds 45 x45).setIfInBounds 46 x46).setIfInBounds 47 x47).setIfInBounds 48 x48).setIfInBounds 49 x49).setIfInBounds 50 x50).setIfInBounds 51 x51).setIfInBounds 52 x52).setIfInBounds 38 x38).setIfInBounds 53 x53).setIfInBounds 54 x54).setIfInBounds 5 x5).setIfInBounds 6 x6),[]⟩∧(Ls Lz 0→x39=.pointer (some ⟨E,0,none⟩))∧(Ls Lz 1→x40=.pointer (some ⟨E,0,none⟩))∧(Ls Lz 2→x41=.pointer (some ⟨E,0,none⟩))∧(Ls Lz 3→x42=.slice An names.length cn)∧(Ls Lz 4→x43=.pointer (some ⟨X,2,none⟩))∧(Ls Lz 5→x44=.slice (some ⟨b,off,none⟩) h.args.length ca)∧(Ls Lz 6→x45=.pointer (some ⟨b,off,none⟩))∧(Ls Lz 7→x46=.string a0)∧(Ls Lz 8→x47=.int .i64 q0i)∧(Ls Lz 9→x48=.pointer (some ⟨X,4,none⟩))∧(Ls Lz 10→x49=.slice Ab nb cb)∧(Ls Lz 11→x50=.pointer (some ⟨E,0,none⟩))∧(Ls Lz 12→x51=.slice Ax R.1.length cx)∧(Ls Lz 13→x52=.tuple #[.slice Ay (osL q0i R.1).length cy,.bool (osB q0i R.1)])∧(Ls Lz 14→x38=.tuple #[.slice Ay (osL q0i R.1).length cy,.bool (osB q0i R.1)])∧(Ls Lz 15→x53=.slice Ay (osL q0i R.1).length cy)∧(Ls Lz 16→x54=.bool (osB q0i R.1))∧(Ls Lz 17→x5=.slice Ay (osL q0i R.1).length cy)∧(Ls Lz 18→(x6=.bool (osB q0i R.1)∧(W.ownsRow w0.heap.size 104 8 (.slice Ay (osL q0i R.1).length cy) (osL q0i R.1).length ((osL q0i R.1).flatMap yan)∧EnvS W E (Aft w0 P0 (.slice Ay (osL q0i R.1).length cy)) names R.2)∧w0.grownBy W (some E)))∧(Ls Lz 3→¬ Ls Lz 18→RdQ W (fun b=>b≠E) 1 An names.length (strs names))∧(Ls Lz 12→¬ Ls Lz 18→(W.ownsRow w0.heap.size 104 8 (.slice Ax R.1.length cx) R.1.length (R.1.flatMap yan)∧EnvS W E (Aft w0 P0 (.slice Ax R.1.length cx)) names R.2))∧(Ls Lz 13→¬ Ls Lz 18→(W.ownsRow w0.heap.size 104 8 (.slice Ay (osL q0i R.1).length cy) (osL q0i R.1).length ((osL q0i R.1).flatMap yan)∧EnvS W E (Aft w0 P0 (.slice Ay (osL q0i R.1).length cy)) names R.2))∧(¬ Ls Lz 18→w0.grownBy W (some E))∧(¬ Ls Lz 18→EnvX W E names)∧(Ls Lz 18→¬ Ls Lz 18→True)∧(¬ Ls Lz 12→EnvS W E P0 names e)):=⟨_,rfl⟩
  have HJ0:=hD hJ0
  clear hJ0
  refine ya3 Zq8 J0 ?_ ?_ ?_
  ·intro A0
   rw[HJ0.out]
   exact ⟨none,0,none,0,none,0,A0.getD 39 undef,A0.getD 40 undef,A0.getD 41 undef,A0.getD 42 undef,A0.getD 43 undef,A0.getD 44 undef,A0.getD 45 undef,A0.getD 46 undef,A0.getD 47 undef,A0.getD 48 undef,A0.getD 49 undef,A0.getD 50 undef,A0.getD 51 undef,A0.getD 52 undef,A0.getD 38 undef,A0.getD 53 undef,A0.getD 54 undef,A0.getD 5 undef,A0.getD 6 undef,by simp only[ybm],zn,zn,zn,zn,zn,zn,zn,zn,zn,zn,zn,zn,zn,zn,zn,zn,zn,zn,zn,zn,zn,zn,fun _=>ym3,fun _=>EN0.out.x0 hP0,zn,fun _=>EN0.out.drew⟩
  ·intro Lz a W hsize hcl hJ i hi
   have hil:=ybn hi
   have hnl:=ybi hi
   have hnow:=ybh hi hsize
   have HCL:=hD hcl
   rw[HJ0.out] at hJ
   obtain ⟨An,cn,Ax,cx,Ay,cy,x39,x40,x41,x42,x43,x44,x45,x46,x47,x48,x49,x50,x51,x52,x38,x53,x54,x5,x6,rfl,HF⟩:=hJ
   have HH:=hD HF
   have hi2:i=0∨i=1∨i=2∨i=3∨i=4∨i=5∨i=6∨i=7∨i=8∨i=9∨i=10∨i=11∨i=12∨i=13∨i=14∨i=15∨i=16∨i=17∨i=18:=by simp at hil;omega
   clear hil hcl HF
   rcases hi2 with rfl|rfl|rfl|rfl|rfl|rfl|rfl|rfl|rfl|rfl|rfl|rfl|rfl|rfl|rfl|rfl|rfl|rfl|rfl
   ·clear hi HCL
    simp only[zA,zB,zC]
    refine yaa rfl rfl fun K hK=>?_
    go_wp2_with fail
    rw[HJ0.out]
    exact ⟨An,cn,Ax,cx,Ay,cy,.pointer (some ⟨E,0,none⟩),x40,x41,x42,x43,x44,x45,x46,x47,x48,x49,x50,x51,x52,x38,x53,x54,x5,x6,(by simp only[zA,zB,zC]),zT HH⟩
   ·have D0:=(pj0 HH.out) (rq hi 0)
    clear hi HCL
    simp only[zA,zB,zC,D0]
    refine yaa rfl rfl fun K hK=>?_
    go_wp2_with fail
    rw[HJ0.out]
    exact ⟨An,cn,Ax,cx,Ay,cy,x39,.pointer (some ⟨E,0,none⟩),x41,x42,x43,x44,x45,x46,x47,x48,x49,x50,x51,x52,x38,x53,x54,x5,x6,(by simp only[zA,zB,zC,D0]),zT HH⟩
   ·have D1:=(pj1 HH.out) (rq hi 1)
    clear hi HCL
    simp only[zA,zB,zC,D1]
    refine yaa rfl rfl fun K hK=>?_
    go_wp2_with fail
    rw[HJ0.out]
    exact ⟨An,cn,Ax,cx,Ay,cy,x39,x40,.pointer (some ⟨E,0,none⟩),x42,x43,x44,x45,x46,x47,x48,x49,x50,x51,x52,x38,x53,x54,x5,x6,(by simp only[zA,zB,zC,D1]),zT HH⟩
   ·have hns:¬ Ls Lz 18:=fun h=>hnl (dq HCL (dq HCL (dq HCL (dq HCL (dq HCL h 16) 14) 13) 8) 3)
    have D2:=(pj2 HH.out) (rq hi 2)
    have V0:=(pj22 HH.out) hns
    have V1:=(pj23 HH.out) hns
    clear hi HCL
    simp only[zA,zB,zC,D2]
    obtain ⟨q9,en9,⟨A9,n9,c9,B9,m9,d9,hh9,rfl,hr9,_,_⟩,hq9⟩:=V1
    have q0:=yaj (j:=0) hh9 rfl
    refine yaa rfl rfl fun K hK=>?_
    go_wp2_with fail
    rw[HJ0.out]
    exact ⟨A9,c9,Ax,cx,Ay,cy,x39,x40,x41,.slice A9 names.length c9,x43,x44,x45,x46,x47,x48,x49,x50,x51,x52,x38,x53,x54,x5,x6,(by simp only[zA,zB,zC,D2]),zk HH,zk HH,zk HH,fun _=>rfl,zk HH,zk HH,zk HH,zk HH,zk HH,zk HH,zk HH,zk HH,zk HH,zk HH,zk HH,zk HH,zk HH,zk HH,zk HH,fun _ _=>hr9.mono (fun b _ hb e=>hq9 (e▸hb)),zw HH,zw HH,zi HH,zi HH,zw HH,zi HH⟩
   ·clear hi HCL
    simp only[zA,zB,zC]
    refine yaa rfl rfl fun K hK=>?_
    go_wp2_with fail
    rw[HJ0.out]
    exact ⟨An,cn,Ax,cx,Ay,cy,x39,x40,x41,x42,.pointer (some ⟨X,2,none⟩),x44,x45,x46,x47,x48,x49,x50,x51,x52,x38,x53,x54,x5,x6,(by simp only[zA,zB,zC]),zT HH⟩
   ·have hns:¬ Ls Lz 18:=fun h=>hnl (dq HCL (dq HCL (dq HCL (dq HCL (dq HCL (dq HCL (dq HCL h 16) 14) 13) 8) 7) 6) 5)
    have D4:=(pj4 HH.out) (rq hi 4)
    have V0:=(pj22 HH.out) hns
    have V1:=(pj23 HH.out) hns
    clear hi HCL
    simp only[zA,zB,zC,D4]
    have q0:=(ycr V0 hX0 hXE).trans k2
    refine yaa rfl rfl fun K hK=>?_
    go_wp2_with fail
    rw[HJ0.out]
    exact ⟨An,cn,Ax,cx,Ay,cy,x39,x40,x41,x42,x43,.slice (some ⟨b,off,none⟩) h.args.length ca,x45,x46,x47,x48,x49,x50,x51,x52,x38,x53,x54,x5,x6,(by simp only[zA,zB,zC,D4]),zT HH⟩
   ·have D5:=(pj5 HH.out) (rq hi 5)
    clear hi HCL
    simp only[zA,zB,zC,D5]
    refine yaa rfl rfl fun K hK=>?_
    go_wp2_with fail
    rw[HJ0.out]
    exact ⟨An,cn,Ax,cx,Ay,cy,x39,x40,x41,x42,x43,x44,.pointer (some ⟨b,off,none⟩),x46,x47,x48,x49,x50,x51,x52,x38,x53,x54,x5,x6,(by simp only[zA,zB,zC,D5]),zT HH⟩
   ·have hns:¬ Ls Lz 18:=fun h=>hnl (dq HCL (dq HCL (dq HCL (dq HCL (dq HCL h 16) 14) 13) 8) 7)
    have D6:=(pj6 HH.out) (rq hi 6)
    have V0:=(pj22 HH.out) hns
    have V1:=(pj23 HH.out) hns
    clear hi HCL
    simp only[zA,zB,zC,D6]
    have q0:=(ycr V0 hb0 hbE).trans c0
    refine yaa rfl rfl fun K hK=>?_
    go_wp2_with fail
    rw[HJ0.out]
    exact ⟨An,cn,Ax,cx,Ay,cy,x39,x40,x41,x42,x43,x44,x45,.string a0,x47,x48,x49,x50,x51,x52,x38,x53,x54,x5,x6,(by simp only[zA,zB,zC,D6]),zT HH⟩
   ·have hns:¬ Ls Lz 18:=fun h=>hnl (dq HCL (dq HCL (dq HCL (dq HCL h 16) 14) 13) 8)
    have D3:=(pj3 HH.out) (rq hi 3)
    have E3:=(pj19 HH.out) (rq hi 3) hns
    have D7:=(pj7 HH.out) (rq hi 7)
    have V0:=(pj22 HH.out) hns
    have V1:=(pj23 HH.out) hns
    clear hi HCL
    simp only[zA,zB,zC,D3,D7]
    refine yaa rfl rfl fun K hK=>?_
    go_wp2_with fail
    refine(yep An names.length cn names a0 W E3.rd rfl (by have:=HNM.out;omega)).mono ?_
    rintro e1 y ⟨rfl,rfl⟩
    rw[←HQ.out]
    go_wp2_with fail
    rw[HJ0.out]
    exact ⟨An,cn,Ax,cx,Ay,cy,x39,x40,x41,x42,x43,x44,x45,x46,.int .i64 q0i,x48,x49,x50,x51,x52,x38,x53,x54,x5,x6,(by simp only[zA,zB,zC,D3,D7]),zT HH⟩
   ·clear hi HCL
    simp only[zA,zB,zC]
    refine yaa rfl rfl fun K hK=>?_
    go_wp2_with fail
    rw[HJ0.out]
    exact ⟨An,cn,Ax,cx,Ay,cy,x39,x40,x41,x42,x43,x44,x45,x46,x47,.pointer (some ⟨X,4,none⟩),x49,x50,x51,x52,x38,x53,x54,x5,x6,(by simp only[zA,zB,zC]),zT HH⟩
   ·have hns:¬ Ls Lz 18:=fun h=>hnl (dq HCL (dq HCL (dq HCL (dq HCL (dq HCL h 16) 14) 13) 12) 10)
    have D9:=(pj9 HH.out) (rq hi 9)
    have V0:=(pj22 HH.out) hns
    have V1:=(pj23 HH.out) hns
    clear hi HCL
    simp only[zA,zB,zC,D9]
    have q0:=(ycr V0 hX0 hXE).trans k4
    refine yaa rfl rfl fun K hK=>?_
    go_wp2_with fail
    rw[HJ0.out]
    exact ⟨An,cn,Ax,cx,Ay,cy,x39,x40,x41,x42,x43,x44,x45,x46,x47,x48,.slice Ab nb cb,x50,x51,x52,x38,x53,x54,x5,x6,(by simp only[zA,zB,zC,D9]),zT HH⟩
   ·clear hi HCL
    simp only[zA,zB,zC]
    refine yaa rfl rfl fun K hK=>?_
    go_wp2_with fail
    rw[HJ0.out]
    exact ⟨An,cn,Ax,cx,Ay,cy,x39,x40,x41,x42,x43,x44,x45,x46,x47,x48,x49,.pointer (some ⟨E,0,none⟩),x51,x52,x38,x53,x54,x5,x6,(by simp only[zA,zB,zC]),zT HH⟩
   ·have hns:¬ Ls Lz 18:=fun h=>hnl (dq HCL (dq HCL (dq HCL (dq HCL h 16) 14) 13) 12)
    have D10:=(pj10 HH.out) (rq hi 10)
    have D11:=(pj11 HH.out) (rq hi 11)
    have V0:=(pj22 HH.out) hns
    have V1:=(pj23 HH.out) hns
    have hk13:¬ Ls Lz 13:=fun h=>hnl (dq HCL h 12)
    have Hh0:=(pe25 HH.out) hnl
    clear hi HCL
    simp only[zA,zB,zC,D10,D11]
    refine yaa rfl rfl fun K hK=>?_
    go_wp2_with fail
    refine(HALL.out W (TrQ.call TB0.out V0 hP0) Hh0).mono ?_
    rintro e1 y ⟨v7,rfl,ho,hen,hg⟩
    obtain ⟨A7,c7,rfl,_,_,_⟩:=yah ho
    go_wp2_with fail
    rw[HJ0.out]
    exact ⟨An,cn,A7,c7,Ay,cy,x39,x40,x41,x42,x43,x44,x45,x46,x47,x48,x49,x50,.slice A7 R.1.length c7,x52,x38,x53,x54,x5,x6,(by simp only[zA,zB,zC,D10,D11]),zk HH,zk HH,zk HH,zk HH,zk HH,zk HH,zk HH,zk HH,zk HH,zk HH,zk HH,zk HH,fun _=>rfl,Ba hk13,zk HH,zk HH,zk HH,zk HH,Ba hns,(Bt (pj19 HH.out) fun x=>RdQ.call x hg (fun h=>h rfl)),fun _ _=>⟨ybd ho V0.size,hen.mono (fun b _ hb=>ym4 V0.size b hb hPlt)⟩,Bb hk13,fun h=>grE ((pj22 HH.out) (fun h2=>h h2.fwd)) hg,fun h=>⟨_,_,hen,yg7 hP0 (Nat.lt_of_lt_of_le hE0 V0.size)⟩,Bb hns,zy hnow⟩
   ·have hns:¬ Ls Lz 18:=fun h=>hnl (dq HCL (dq HCL (dq HCL h 16) 14) 13)
    have D8:=(pj8 HH.out) (rq hi 8)
    have D12:=(pj12 HH.out) (rq hi 12)
    have E12:=(pj20 HH.out) (rq hi 12) hns
    have V0:=(pj22 HH.out) hns
    have V1:=(pj23 HH.out) hns
    have hk14:¬ Ls Lz 14:=fun h=>hnl (dq HCL h 13)
    have hk15:¬ Ls Lz 15:=fun h=>hnl (dq HCL (dq HCL h 14) 13)
    have hk17:¬ Ls Lz 17:=fun h=>hnl (dq HCL (dq HCL (dq HCL h 15) 14) 13)
    have hp12:Ls Lz 12:=(rq hi 12)
    clear hi HCL
    simp only[zA,zB,zC,D8,D12]
    have rr:=ybv E12.1
    refine yaa rfl rfl fun K hK=>?_
    go_wp2_with fail
    refine(yh6 q0i _ _ _ R.1 W rr rfl (by have:=HRL.out;omega)).mono ?_
    rintro e1 y ⟨v8,rfl,ho,hb,hs⟩
    obtain ⟨A8,c8,rfl,_,_,_⟩:=yah ho
    go_wp2_with fail
    rw[HJ0.out]
    exact ⟨An,cn,Ax,cx,A8,c8,x39,x40,x41,x42,x43,x44,x45,x46,x47,x48,x49,x50,x51,.tuple #[.slice A8 (osL q0i R.1).length c8,.bool (osB q0i R.1)],x38,x53,x54,x5,x6,(by simp only[zA,zB,zC,D8,D12]),zk HH,zk HH,zk HH,zk HH,zk HH,zk HH,zk HH,zk HH,zk HH,zk HH,zk HH,zk HH,zk HH,fun _=>rfl,Ba hk14,Ba hk15,zk HH,Ba hk17,Ba hns,(Bt (pj19 HH.out) fun x=>RdQ.below x hb),(Bt (pj20 HH.out) fun x=>⟨yat x.1 hb,EnvS.below x.2 hb (fun _ _ h=>h)⟩),fun _ _=>⟨ybd ho V0.size,(EnvS.fresh E12.2 (ybe ho) hb)⟩,fun h=>ye1 ((pj22 HH.out) (fun h2=>h h2.fwd)) hb,fun h=>EnvX.below ((pj23 HH.out) (fun h2=>h h2.fwd)) hb,Bb hns,fun h=>absurd (Ls.fwd hp12) h⟩
   ·have D13:=(pj13 HH.out) (rq hi 13)
    clear hi HCL
    simp only[zA,zB,zC,D13]
    refine yaa rfl rfl fun K hK=>?_
    go_wp2_with fail
    rw[HJ0.out]
    exact ⟨An,cn,Ax,cx,Ay,cy,x39,x40,x41,x42,x43,x44,x45,x46,x47,x48,x49,x50,x51,x52,.tuple #[.slice Ay (osL q0i R.1).length cy,.bool (osB q0i R.1)],x53,x54,x5,x6,(by simp only[zA,zB,zC,D13]),zT HH⟩
   ·have D14:=(pj14 HH.out) (rq hi 14)
    clear hi HCL
    simp only[zA,zB,zC,D14]
    refine yaa rfl rfl fun K hK=>?_
    go_wp2_with fail
    rw[HJ0.out]
    exact ⟨An,cn,Ax,cx,Ay,cy,x39,x40,x41,x42,x43,x44,x45,x46,x47,x48,x49,x50,x51,x52,x38,.slice Ay (osL q0i R.1).length cy,x54,x5,x6,(by simp only[zA,zB,zC,D14]),zT HH⟩
   ·have D14:=(pj14 HH.out) (rq hi 14)
    clear hi HCL
    simp only[zA,zB,zC,D14]
    refine yaa rfl rfl fun K hK=>?_
    go_wp2_with fail
    rw[HJ0.out]
    exact ⟨An,cn,Ax,cx,Ay,cy,x39,x40,x41,x42,x43,x44,x45,x46,x47,x48,x49,x50,x51,x52,x38,x53,.bool (osB q0i R.1),x5,x6,(by simp only[zA,zB,zC,D14]),zT HH⟩
   ·have D15:=(pj15 HH.out) (rq hi 15)
    clear hi HCL
    simp only[zA,zB,zC,D15]
    refine yaa rfl rfl fun K hK=>?_
    go_wp2_with fail
    rw[HJ0.out]
    exact ⟨An,cn,Ax,cx,Ay,cy,x39,x40,x41,x42,x43,x44,x45,x46,x47,x48,x49,x50,x51,x52,x38,x53,x54,.slice Ay (osL q0i R.1).length cy,x6,(by simp only[zA,zB,zC,D15]),zT HH⟩
   ·have hns:¬ Ls Lz 18:=hnl
    have D16:=(pj16 HH.out) (rq hi 16)
    have E13:=(pj21 HH.out) (dq HCL (dq HCL (rq hi 16) 14) 13) hns
    have V0:=(pj22 HH.out) hns
    have V1:=(pj23 HH.out) hns
    clear hi HCL
    simp only[zA,zB,zC,D16]
    refine yaa rfl rfl fun K hK=>?_
    go_wp2_with fail
    rw[HJ0.out]
    exact ⟨An,cn,Ax,cx,Ay,cy,x39,x40,x41,x42,x43,x44,x45,x46,x47,x48,x49,x50,x51,x52,x38,x53,x54,x5,.bool (osB q0i R.1),(by first|(simp only[zA,zB,zC,D16] <;> fail)|simp only[Act.put,zA,zB,zC,D16]),zk HH,zk HH,zk HH,zk HH,zk HH,zk HH,zk HH,zk HH,zk HH,zk HH,zk HH,zk HH,zk HH,zk HH,zk HH,zk HH,zk HH,zk HH,fun _=>⟨rfl,E13,V0⟩,zx hnow,zx hnow,zx hnow,zy hnow,zy hnow,zx hnow,zi HH⟩
  ·intro Lz a W hsize hJ hr
   rw[HJ0.out] at hJ
   have hall:=yfm hsize Zq8 hr
   obtain ⟨An,cn,Ax,cx,Ay,cy,x39,x40,x41,x42,x43,x44,x45,x46,x47,x48,x49,x50,x51,x52,x38,x53,x54,x5,x6,rfl,HF⟩:=hJ
   have HH:=hD HF
   have HEND:=(pj18 HH.out) (hall 18 Zq9)
   have HE17:=(pj17 HH.out) (hall 17 Zq9)
   clear HF HH hall hr hsize
   simp only[zA,zB,zC]
   obtain ⟨rfl,⟨ho,hen⟩,hg⟩:=HEND
   obtain rfl:=HE17
   obtain ⟨w1,rfl⟩:∃ w1:World,w1=W:=⟨_,rfl⟩
   have HO:=hD ho
   have HE:=hD hen
   have HGR:=hD hg
   clear ho hen hg
   go_wp2_with fail
   go_ret
   exact ⟨.slice Ay (osL q0i R.1).length cy,rfl,by rw[HF.out];exact ybd HO.out Zq6,by rw[HF.out];exact HE.out.mono (fun b _ hb=>yer hs0 b (by rw[←HPE.out];exact hb)),grE (yb7 B0.out _) HGR.out⟩
 ·have hnc:=HNM.out
  have hzc:=HSZ.out
  have HANC:=hD (hanc P0 h bd Aa ca Ab nb cb E names e w0 RA0.out TB0.out HV.out hk hP0 EN0.out hnc hzc)
  have e1:(h.k==1)=false:=by rw[hk];decide
  have e2:(h.k==2)=false:=by rw[hk];decide
  have e3:(h.k==3)=false:=by rw[hk];decide
  have e4:(h.k==4)=false:=by rw[hk];decide
  have e5:(h.k==5)=true:=by rw[hk];decide
  clear hk hall hanc hnb
  clear hnc hzc
  go_wp2_with fail
  rw[←HW0.out]
  refine HANC.out.mono ?_
  rintro e1 w1 ⟨v1,rfl,ho,hen,hg⟩
  have HO:=hD ho
  have HEN:=hD hen
  have HGR:=hD hg
  clear ho hen hg
  go_wp2_with fail
  go_ret
  exact ⟨v1,rfl,ybd HO.out Zq6,HEN.out.mono (fun b _ hb=>yer hs0 b (by rw[←HPE.out];exact hb)),grE (yb7 B0.out _) HGR.out⟩
 ·have hal:0<h.args.length:=by have h1:=(ybp HV.out).2.1;rw[hk] at h1;have h2:yar 6 h.word=2:=Zq14;omega
  obtain ⟨b,off,rfl,hbP,hb0,hbc⟩:=RA0.out.2 hal
  have hbE:b≠E:=fun e=>hP0 (e▸hbP)
  obtain ⟨a0,hA0⟩:∃ a0,a0=arg0 h:=⟨_,rfl⟩
  have HA0:=hD hA0
  have c0:w0.cell? ⟨b,off,none⟩=some (.string a0):=hbc 0 _ (by unfold strs;rw[List.getElem?_map,yc3 hal,hA0];rfl)
  clear hA0
  have hal2:1<h.args.length:=by have h1:=(ybp HV.out).2.1;rw[hk] at h1;have h2:yar 6 h.word=2:=Zq14;omega
  obtain ⟨a1,hA1⟩:∃ a1,a1=arg1 h:=⟨_,rfl⟩
  have c1:w0.cell? ⟨b,off+1,none⟩=some (.string a1):=hbc 1 _ (by unfold strs;rw[List.getElem?_map,yiq hal2,hA1];rfl)
  obtain ⟨q0i,hQ⟩:∃ q,q=fS names a0:=⟨_,rfl⟩
  have HQ:=hD hQ
  have HF:Hid (sS (sA d) h bd names e=([yev q0i e.bits.length],⟨e.bits++[a1],e.most,e.bad⟩)):=by show _=_;rw[sS_6 hk,hQ,HA0.out,hA1]
  clear hQ hA1
  obtain ⟨An,nn,cn,Bn,nbb,cbb,hh0,rfl,hna,hbl,hbi⟩:=id EN0.out
  have HH0:=hD hh0
  have NA0:=hD hna
  have BI0:=hD hbi
  have HBL:=hD hbl
  have z0:=yaj (j:=0) hh0 rfl
  have z1:=yaj (j:=1) hh0 rfl
  clear hh0 hna hbi hbl
  have hbb:nbb≤1048576:=by have:=HSZ.out;have:=HBL.out;omega
  have e1:(h.k==1)=false:=by rw[hk];decide
  have e2:(h.k==2)=false:=by rw[hk];decide
  have e3:(h.k==3)=false:=by rw[hk];decide
  have e4:(h.k==4)=false:=by rw[hk];decide
  have e5:(h.k==5)=false:=by rw[hk];decide
  have e6:(h.k==6)=true:=by rw[hk];decide
  clear hk hall hanc hnb
  go_upto_region 14 with (fail)
  rw[←HW0.out,←HX.out]
  obtain ⟨J0,hJ0⟩:∃ J:Array Value→Array Bool→Act→World→Prop,J=(fun A0 Lz a W=>∃ (Ay:Option Addr) (cy:Nat),∃ x63 x64 x65 x66 x67 x68 x69 x70 x71 x72 x73 x74:Value,a=⟨((((((((((((A0.setIfInBounds 63 x63).setIfInBounds 64 x64).setIfInBounds 65 x65).setIfInBounds 66 x66).setIfInBounds 67 x67).setIfInBounds 68 x68).setIfInBounds 69 x69).setIfInBounds 70 x70).setIfInBounds 71 x71).setIfInBounds 72 x72).setIfInBounds 73 x73).setIfInBounds 74 x74),[]⟩∧(Ls Lz 0→x63=.pointer (some ⟨E,0,none⟩))∧(Ls Lz 1→x64=.pointer (some ⟨E,0,none⟩))∧(Ls Lz 2→x65=.pointer (some ⟨E,0,none⟩))∧(Ls Lz 3→x66=.pointer (some ⟨E,1,none⟩))∧(Ls Lz 4→x67=.slice Bn nbb cbb)∧(Ls Lz 5→x68=.pointer (some ⟨X,2,none⟩))∧(Ls Lz 6→x69=.slice (some ⟨b,off,none⟩) h.args.length ca)∧(Ls Lz 7→x70=.pointer (some ⟨b,off+1,none⟩))∧(Ls Lz 8→x71=.string a1)∧(Ls Lz 9→x72=.slice Ay (nbb+1) cy)∧(Ls Lz 10→x73=.pointer (some ⟨E,0,none⟩))∧(Ls Lz 11→x74=.pointer (some ⟨E,1,none⟩))∧(Ls Lz 12→(W.heap[E]?=some (.cells #[.slice An names.length cn,.slice Ay (nbb+1) cy,.int .i64 (e.most:Int),.bool e.bad] 83 (0,0))∧RdQ W (fun b=>w0.heap.size≤b) 1 Ay (nbb+1) (strs (e.bits++[a1]))∧∃ W5,Below w0.heap.size w0 W5∧W5.grownBy W (some E)))∧(Ls Lz 9→¬ Ls Lz 12→W.ownsRow w0.heap.size 9 1 (.slice Ay (nbb+1) cy) (nbb+1) (strs (e.bits++[a1])))∧(¬ Ls Lz 12→Below w0.heap.size w0 W)∧(Ls Lz 12→¬ Ls Lz 12→True)):=⟨_,rfl⟩
  have HJ0:=hD hJ0
  clear hJ0
  refine ya3 Zq8 J0 ?_ ?_ ?_
  ·intro A0
   rw[HJ0.out]
   exact ⟨none,0,A0.getD 63 undef,A0.getD 64 undef,A0.getD 65 undef,A0.getD 66 undef,A0.getD 67 undef,A0.getD 68 undef,A0.getD 69 undef,A0.getD 70 undef,A0.getD 71 undef,A0.getD 72 undef,A0.getD 73 undef,A0.getD 74 undef,by simp only[ybm],zn,zn,zn,zn,zn,zn,zn,zn,zn,zn,zn,zn,zn,zn,fun _=>ycb (Below.refl _ _),zn⟩
  ·intro Lz a W hsize hcl hJ i hi
   have hil:=ybn hi
   have hnl:=ybi hi
   have hnow:=ybh hi hsize
   have HCL:=hD hcl
   rw[HJ0.out] at hJ
   obtain ⟨Ay,cy,x63,x64,x65,x66,x67,x68,x69,x70,x71,x72,x73,x74,rfl,HF⟩:=hJ
   have HH:=hD HF
   have hi2:i=0∨i=1∨i=2∨i=3∨i=4∨i=5∨i=6∨i=7∨i=8∨i=9∨i=10∨i=11∨i=12:=by simp at hil;omega
   clear hil hcl HF
   rcases hi2 with rfl|rfl|rfl|rfl|rfl|rfl|rfl|rfl|rfl|rfl|rfl|rfl|rfl
   ·clear hi HCL
    simp only[zA,zB,zC]
    refine yaa rfl rfl fun K hK=>?_
    go_wp2_with fail
    rw[HJ0.out]
    exact ⟨Ay,cy,.pointer (some ⟨E,0,none⟩),x64,x65,x66,x67,x68,x69,x70,x71,x72,x73,x74,(by simp only[zA,zB,zC]),zT HH⟩
   ·clear hi HCL
    simp only[zA,zB,zC]
    refine yaa rfl rfl fun K hK=>?_
    go_wp2_with fail
    rw[HJ0.out]
    exact ⟨Ay,cy,x63,.pointer (some ⟨E,0,none⟩),x65,x66,x67,x68,x69,x70,x71,x72,x73,x74,(by simp only[zA,zB,zC]),zT HH⟩
   ·have D1:=(pj1 HH.out) (rq hi 1)
    clear hi HCL
    simp only[zA,zB,zC,D1]
    refine yaa rfl rfl fun K hK=>?_
    go_wp2_with fail
    rw[HJ0.out]
    exact ⟨Ay,cy,x63,x64,.pointer (some ⟨E,0,none⟩),x66,x67,x68,x69,x70,x71,x72,x73,x74,(by simp only[zA,zB,zC,D1]),zT HH⟩
   ·have D2:=(pj2 HH.out) (rq hi 2)
    clear hi HCL
    simp only[zA,zB,zC,D2]
    refine yaa rfl rfl fun K hK=>?_
    go_wp2_with fail
    rw[HJ0.out]
    exact ⟨Ay,cy,x63,x64,x65,.pointer (some ⟨E,1,none⟩),x67,x68,x69,x70,x71,x72,x73,x74,(by simp only[zA,zB,zC,D2]),zT HH⟩
   ·have hns:¬ Ls Lz 12:=fun h=>hnl (dq HCL (dq HCL h 9) 4)
    have D3:=(pj3 HH.out) (rq hi 3)
    have V0:=(pj14 HH.out) hns
    clear hi HCL
    simp only[zA,zB,zC,D3]
    have q0:=(V0.cell (p:=⟨E,1,none⟩) hE0).trans z1
    refine yaa rfl rfl fun K hK=>?_
    go_wp2_with fail
    rw[HJ0.out]
    exact ⟨Ay,cy,x63,x64,x65,x66,.slice Bn nbb cbb,x68,x69,x70,x71,x72,x73,x74,(by simp only[zA,zB,zC,D3]),zT HH⟩
   ·clear hi HCL
    simp only[zA,zB,zC]
    refine yaa rfl rfl fun K hK=>?_
    go_wp2_with fail
    rw[HJ0.out]
    exact ⟨Ay,cy,x63,x64,x65,x66,x67,.pointer (some ⟨X,2,none⟩),x69,x70,x71,x72,x73,x74,(by simp only[zA,zB,zC]),zT HH⟩
   ·have hns:¬ Ls Lz 12:=fun h=>hnl (dq HCL (dq HCL (dq HCL (dq HCL h 9) 8) 7) 6)
    have D5:=(pj5 HH.out) (rq hi 5)
    have V0:=(pj14 HH.out) hns
    clear hi HCL
    simp only[zA,zB,zC,D5]
    have q0:=(V0.cell (p:=⟨X,2,none⟩) hX0).trans k2
    refine yaa rfl rfl fun K hK=>?_
    go_wp2_with fail
    rw[HJ0.out]
    exact ⟨Ay,cy,x63,x64,x65,x66,x67,x68,.slice (some ⟨b,off,none⟩) h.args.length ca,x70,x71,x72,x73,x74,(by simp only[zA,zB,zC,D5]),zT HH⟩
   ·have D6:=(pj6 HH.out) (rq hi 6)
    clear hi HCL
    simp only[zA,zB,zC,D6]
    refine yaa rfl rfl fun K hK=>?_
    go_wp2_with fail
    rw[HJ0.out]
    exact ⟨Ay,cy,x63,x64,x65,x66,x67,x68,x69,.pointer (some ⟨b,off+1,none⟩),x71,x72,x73,x74,(by simp only[zA,zB,zC,D6]),zT HH⟩
   ·have hns:¬ Ls Lz 12:=fun h=>hnl (dq HCL (dq HCL h 9) 8)
    have D7:=(pj7 HH.out) (rq hi 7)
    have V0:=(pj14 HH.out) hns
    clear hi HCL
    simp only[zA,zB,zC,D7]
    have q0:=(V0.cell (p:=⟨b,off+1,none⟩) hb0).trans c1
    refine yaa rfl rfl fun K hK=>?_
    go_wp2_with fail
    rw[HJ0.out]
    exact ⟨Ay,cy,x63,x64,x65,x66,x67,x68,x69,x70,.string a1,x72,x73,x74,(by simp only[zA,zB,zC,D7]),zT HH⟩
   ·have hns:¬ Ls Lz 12:=fun h=>hnl (dq HCL h 9)
    have D4:=(pj4 HH.out) (rq hi 4)
    have D8:=(pj8 HH.out) (rq hi 8)
    have V0:=(pj14 HH.out) hns
    clear hi HCL
    simp only[zA,zB,zC,D4,D8]
    refine yaa rfl rfl fun K hK=>?_
    go_wp2_with fail
    refine(yf0 Bn nbb cbb e.bits a1 W (BI0.out.rd.below V0) HBL.out hbb).mono ?_
    rintro e1 y ⟨v8,rfl,ho,hb,hs⟩
    obtain ⟨A8,c8,rfl,_,_,_⟩:=yah ho
    go_wp2_with fail
    rw[HJ0.out]
    exact ⟨A8,c8,x63,x64,x65,x66,x67,x68,x69,x70,x71,.slice A8 (nbb+1) c8,x73,x74,(by simp only[zA,zB,zC,D4,D8]),zk HH,zk HH,zk HH,zk HH,zk HH,zk HH,zk HH,zk HH,zk HH,fun _=>rfl,zk HH,zk HH,Ba hns,fun _ _=>ybd ho V0.size,fun h=>belE ((pj14 HH.out) (fun h2=>h h2.fwd)) hb,Bb hns⟩
   ·have D0:=(pj0 HH.out) (rq hi 0)
    clear hi HCL
    simp only[zA,zB,zC,D0]
    refine yaa rfl rfl fun K hK=>?_
    go_wp2_with fail
    rw[HJ0.out]
    exact ⟨Ay,cy,x63,x64,x65,x66,x67,x68,x69,x70,x71,x72,.pointer (some ⟨E,0,none⟩),x74,(by simp only[zA,zB,zC,D0]),zT HH⟩
   ·have D10:=(pj10 HH.out) (rq hi 10)
    clear hi HCL
    simp only[zA,zB,zC,D10]
    refine yaa rfl rfl fun K hK=>?_
    go_wp2_with fail
    rw[HJ0.out]
    exact ⟨Ay,cy,x63,x64,x65,x66,x67,x68,x69,x70,x71,x72,x73,.pointer (some ⟨E,1,none⟩),(by simp only[zA,zB,zC,D10]),zT HH⟩
   ·have hns:¬ Ls Lz 12:=hnl
    have D9:=(pj9 HH.out) (rq hi 9)
    have E9:=(pj13 HH.out) (rq hi 9) hns
    have D11:=(pj11 HH.out) (rq hi 11)
    have V0:=(pj14 HH.out) hns
    clear hi HCL
    simp only[zA,zB,zC,D9,D11]
    have hE9:=(V0.block E hE0).trans HH0.out
    have q1:=yaj (j:=1) hE9 rfl
    have f1:=yab (j:=1) hE9
    have lE:=lt_of_block hE9
    have HE9:=hD hE9
    clear hE9
    refine yaa rfl rfl fun K hK=>?_
    go_wp2_with fail
    rw[HJ0.out]
    exact ⟨Ay,cy,x63,x64,x65,x66,x67,x68,x69,x70,x71,x72,x73,x74,(by first|(simp only[zA,zB,zC,D9,D11] <;> fail)|simp only[Act.put,zA,zB,zC,D9,D11]),zk HH,zk HH,zk HH,zk HH,zk HH,zk HH,zk HH,zk HH,zk HH,zk HH,zk HH,zk HH,fun _=>⟨ya1 HE9.out _,(yck E9).set_ (fun h=>by have h:w0.heap.size≤E:=h;omega) _,W,V0,setE _⟩,zx hnow,zy hnow,zx hnow⟩
  ·intro Lz a W hsize hJ hr
   rw[HJ0.out] at hJ
   have hall:=ybj hsize Zq8 hr
   obtain ⟨Ay,cy,x63,x64,x65,x66,x67,x68,x69,x70,x71,x72,x73,x74,rfl,HF⟩:=hJ
   have HH:=hD HF
   have HEND:=(pj12 HH.out) (hall 12 Zq9)
   clear HF HH hall hr hsize
   simp only[zA,zB,zC]
   obtain ⟨hh1,hr1,W5,hb5,hg5⟩:=HEND
   obtain ⟨w1,rfl⟩:∃ w1:World,w1=W:=⟨_,rfl⟩
   have hs5:=hb5.size
   have hg1:=grE (yb7 hb5 (some E)) hg5
   have hs1:=hg1.size
   have HG1:=hD hg1
   have HH1:=hD hh1
   have HR1:=hD hr1
   have NA1:=hD (NA0.out.call hg1 hP0)
   have y0:=yaj (j:=0) hh1 rfl
   have y1:=yaj (j:=1) hh1 rfl
   have p2:=(ycr (o:=2) hg1 hX0 hXE).trans k2
   have c0:=(ycr (o:=off) hg1 hb0 hbE).trans c0
   have lE1:E<w1.heap.size:=by omega
   have lX1:X<w1.heap.size:=by omega
   have lb1:b<w1.heap.size:=by omega
   clear hh1 hr1 hb5 hg5 hg1 z0 z1 c1
   go_upto_region 15 with (fail)
   obtain ⟨J0,hJ0⟩:∃ J:Array Value→Array Bool→Act→World→Prop,J=(fun A0 Lz a W=>∃ (g0:Nat),∃ x75 x76 x77 x78 x79 x80 x81 x82 x83 x84 x85 x86 x87 x88 x89 x90 x91 x4:Value,a=⟨((((((((((((((((((A0.setIfInBounds 75 x75).setIfInBounds 76 x76).setIfInBounds 77 x77).setIfInBounds 78 x78).setIfInBounds 79 x79).setIfInBounds 80 x80).setIfInBounds 81 x81).setIfInBounds 82 x82).setIfInBounds 83 x83).setIfInBounds 84 x84).setIfInBounds 85 x85).setIfInBounds 86 x86).setIfInBounds 87 x87).setIfInBounds 88 x88).setIfInBounds 89 x89).setIfInBounds 90 x90).setIfInBounds 91 x91).setIfInBounds 4 x4),[]⟩∧(Ls Lz 0→x75=.pointer (some ⟨E,0,none⟩))∧(Ls Lz 1→x76=.pointer (some ⟨E,0,none⟩))∧(Ls Lz 2→x77=.pointer (some ⟨E,0,none⟩))∧(Ls Lz 3→x78=.slice An names.length cn)∧(Ls Lz 4→x79=.pointer (some ⟨X,2,none⟩))∧(Ls Lz 5→x80=.slice (some ⟨b,off,none⟩) h.args.length ca)∧(Ls Lz 6→x81=.pointer (some ⟨b,off,none⟩))∧(Ls Lz 7→x82=.string a0)∧(Ls Lz 8→x83=.int .i64 q0i)∧(Ls Lz 9→x84=.pointer (some ⟨E,0,none⟩))∧(Ls Lz 10→x85=.pointer (some ⟨E,0,none⟩))∧(Ls Lz 11→x86=.pointer (some ⟨E,1,none⟩))∧(Ls Lz 12→x87=.slice Ay (nbb+1) cy)∧(Ls Lz 13→x88=.int .i64 ((nbb:Int)+1))∧(Ls Lz 14→x89=.int .i64 (nbb:Int))∧(Ls Lz 15→x90=.agg #[.int .i64 2,.int .i64 0,.int .i64 0,.int .i64 0,.int .i64 0,.int .i64 q0i,.int .i64 (nbb:Int),.int .i64 0])∧(Ls Lz 16→x91=.slice (some ⟨g0,0,none⟩) 1 1)∧(Ls Lz 17→(x4=.slice (some ⟨g0,0,none⟩) 1 1∧W.ownsRow w1.heap.size 104 8 (.slice (some ⟨g0,0,none⟩) 1 1) 1 (yan (yev q0i (nbb:Int)))∧Below w1.heap.size w1 W))∧(Ls Lz 16→¬ Ls Lz 17→W.ownsRow w1.heap.size 104 8 (.slice (some ⟨g0,0,none⟩) 1 1) 1 (yan (yev q0i (nbb:Int))))∧(¬ Ls Lz 17→Below w1.heap.size w1 W)∧(Ls Lz 17→¬ Ls Lz 17→True)):=⟨_,rfl⟩
   have HJ0:=hD hJ0
   clear hJ0
   refine ya3 Zq8 J0 ?_ ?_ ?_
   ·intro A0
    rw[HJ0.out]
    exact ⟨0,A0.getD 75 undef,A0.getD 76 undef,A0.getD 77 undef,A0.getD 78 undef,A0.getD 79 undef,A0.getD 80 undef,A0.getD 81 undef,A0.getD 82 undef,A0.getD 83 undef,A0.getD 84 undef,A0.getD 85 undef,A0.getD 86 undef,A0.getD 87 undef,A0.getD 88 undef,A0.getD 89 undef,A0.getD 90 undef,A0.getD 91 undef,A0.getD 4 undef,by simp only[ybm],zn,zn,zn,zn,zn,zn,zn,zn,zn,zn,zn,zn,zn,zn,zn,zn,zn,zn,zn,fun _=>ycb (Below.refl _ _),zn⟩
   ·intro Lz a W hsize hcl hJ i hi
    have hil:=ybn hi
    have hnl:=ybi hi
    have hnow:=ybh hi hsize
    have HCL:=hD hcl
    rw[HJ0.out] at hJ
    obtain ⟨g0,x75,x76,x77,x78,x79,x80,x81,x82,x83,x84,x85,x86,x87,x88,x89,x90,x91,x4,rfl,HF⟩:=hJ
    have HH:=hD HF
    have hi2:i=0∨i=1∨i=2∨i=3∨i=4∨i=5∨i=6∨i=7∨i=8∨i=9∨i=10∨i=11∨i=12∨i=13∨i=14∨i=15∨i=16∨i=17:=by simp at hil;omega
    clear hil hcl HF
    rcases hi2 with rfl|rfl|rfl|rfl|rfl|rfl|rfl|rfl|rfl|rfl|rfl|rfl|rfl|rfl|rfl|rfl|rfl|rfl
    ·clear hi HCL
     simp only[zA,zB,zC]
     refine yaa rfl rfl fun K hK=>?_
     go_wp2_with fail
     rw[HJ0.out]
     exact ⟨g0,.pointer (some ⟨E,0,none⟩),x76,x77,x78,x79,x80,x81,x82,x83,x84,x85,x86,x87,x88,x89,x90,x91,x4,(by simp only[zA,zB,zC]),zT HH⟩
    ·have D0:=(pj0 HH.out) (rq hi 0)
     clear hi HCL
     simp only[zA,zB,zC,D0]
     refine yaa rfl rfl fun K hK=>?_
     go_wp2_with fail
     rw[HJ0.out]
     exact ⟨g0,x75,.pointer (some ⟨E,0,none⟩),x77,x78,x79,x80,x81,x82,x83,x84,x85,x86,x87,x88,x89,x90,x91,x4,(by simp only[zA,zB,zC,D0]),zT HH⟩
    ·have D1:=(pj1 HH.out) (rq hi 1)
     clear hi HCL
     simp only[zA,zB,zC,D1]
     refine yaa rfl rfl fun K hK=>?_
     go_wp2_with fail
     rw[HJ0.out]
     exact ⟨g0,x75,x76,.pointer (some ⟨E,0,none⟩),x78,x79,x80,x81,x82,x83,x84,x85,x86,x87,x88,x89,x90,x91,x4,(by simp only[zA,zB,zC,D1]),zT HH⟩
    ·have hns:¬ Ls Lz 17:=fun h=>hnl (dq HCL (dq HCL (dq HCL (dq HCL h 16) 15) 8) 3)
     have D2:=(pj2 HH.out) (rq hi 2)
     have V0:=(pj19 HH.out) hns
     clear hi HCL
     simp only[zA,zB,zC,D2]
     have q0:=(V0.cell (p:=⟨E,0,none⟩) lE1).trans y0
     refine yaa rfl rfl fun K hK=>?_
     go_wp2_with fail
     rw[HJ0.out]
     exact ⟨g0,x75,x76,x77,.slice An names.length cn,x79,x80,x81,x82,x83,x84,x85,x86,x87,x88,x89,x90,x91,x4,(by simp only[zA,zB,zC,D2]),zT HH⟩
    ·clear hi HCL
     simp only[zA,zB,zC]
     refine yaa rfl rfl fun K hK=>?_
     go_wp2_with fail
     rw[HJ0.out]
     exact ⟨g0,x75,x76,x77,x78,.pointer (some ⟨X,2,none⟩),x80,x81,x82,x83,x84,x85,x86,x87,x88,x89,x90,x91,x4,(by simp only[zA,zB,zC]),zT HH⟩
    ·have hns:¬ Ls Lz 17:=fun h=>hnl (dq HCL (dq HCL (dq HCL (dq HCL (dq HCL (dq HCL h 16) 15) 8) 7) 6) 5)
     have D4:=(pj4 HH.out) (rq hi 4)
     have V0:=(pj19 HH.out) hns
     clear hi HCL
     simp only[zA,zB,zC,D4]
     have q0:=(V0.cell (p:=⟨X,2,none⟩) lX1).trans p2
     refine yaa rfl rfl fun K hK=>?_
     go_wp2_with fail
     rw[HJ0.out]
     exact ⟨g0,x75,x76,x77,x78,x79,.slice (some ⟨b,off,none⟩) h.args.length ca,x81,x82,x83,x84,x85,x86,x87,x88,x89,x90,x91,x4,(by simp only[zA,zB,zC,D4]),zT HH⟩
    ·have D5:=(pj5 HH.out) (rq hi 5)
     clear hi HCL
     simp only[zA,zB,zC,D5]
     refine yaa rfl rfl fun K hK=>?_
     go_wp2_with fail
     rw[HJ0.out]
     exact ⟨g0,x75,x76,x77,x78,x79,x80,.pointer (some ⟨b,off,none⟩),x82,x83,x84,x85,x86,x87,x88,x89,x90,x91,x4,(by simp only[zA,zB,zC,D5]),zT HH⟩
    ·have hns:¬ Ls Lz 17:=fun h=>hnl (dq HCL (dq HCL (dq HCL (dq HCL h 16) 15) 8) 7)
     have D6:=(pj6 HH.out) (rq hi 6)
     have V0:=(pj19 HH.out) hns
     clear hi HCL
     simp only[zA,zB,zC,D6]
     have q0:=(V0.cell (p:=⟨b,off,none⟩) lb1).trans c0
     refine yaa rfl rfl fun K hK=>?_
     go_wp2_with fail
     rw[HJ0.out]
     exact ⟨g0,x75,x76,x77,x78,x79,x80,x81,.string a0,x83,x84,x85,x86,x87,x88,x89,x90,x91,x4,(by simp only[zA,zB,zC,D6]),zT HH⟩
    ·have hns:¬ Ls Lz 17:=fun h=>hnl (dq HCL (dq HCL (dq HCL h 16) 15) 8)
     have D3:=(pj3 HH.out) (rq hi 3)
     have D7:=(pj7 HH.out) (rq hi 7)
     have V0:=(pj19 HH.out) hns
     clear hi HCL
     simp only[zA,zB,zC,D3,D7]
     refine yaa rfl rfl fun K hK=>?_
     go_wp2_with fail
     refine(yep An names.length cn names a0 W (NA1.out.rd.below V0) rfl (by have:=HNM.out;omega)).mono ?_
     rintro e1 y ⟨rfl,rfl⟩
     rw[←HQ.out]
     go_wp2_with fail
     rw[HJ0.out]
     exact ⟨g0,x75,x76,x77,x78,x79,x80,x81,x82,.int .i64 q0i,x84,x85,x86,x87,x88,x89,x90,x91,x4,(by simp only[zA,zB,zC,D3,D7]),zT HH⟩
    ·clear hi HCL
     simp only[zA,zB,zC]
     refine yaa rfl rfl fun K hK=>?_
     go_wp2_with fail
     rw[HJ0.out]
     exact ⟨g0,x75,x76,x77,x78,x79,x80,x81,x82,x83,.pointer (some ⟨E,0,none⟩),x85,x86,x87,x88,x89,x90,x91,x4,(by simp only[zA,zB,zC]),zT HH⟩
    ·have D9:=(pj9 HH.out) (rq hi 9)
     clear hi HCL
     simp only[zA,zB,zC,D9]
     refine yaa rfl rfl fun K hK=>?_
     go_wp2_with fail
     rw[HJ0.out]
     exact ⟨g0,x75,x76,x77,x78,x79,x80,x81,x82,x83,x84,.pointer (some ⟨E,0,none⟩),x86,x87,x88,x89,x90,x91,x4,(by simp only[zA,zB,zC,D9]),zT HH⟩
    ·have D10:=(pj10 HH.out) (rq hi 10)
     clear hi HCL
     simp only[zA,zB,zC,D10]
     refine yaa rfl rfl fun K hK=>?_
     go_wp2_with fail
     rw[HJ0.out]
     exact ⟨g0,x75,x76,x77,x78,x79,x80,x81,x82,x83,x84,x85,.pointer (some ⟨E,1,none⟩),x87,x88,x89,x90,x91,x4,(by simp only[zA,zB,zC,D10]),zT HH⟩
    ·have hns:¬ Ls Lz 17:=fun h=>hnl (dq HCL (dq HCL (dq HCL (dq HCL (dq HCL h 16) 15) 14) 13) 12)
     have D11:=(pj11 HH.out) (rq hi 11)
     have V0:=(pj19 HH.out) hns
     clear hi HCL
     simp only[zA,zB,zC,D11]
     have q0:=(V0.cell (p:=⟨E,1,none⟩) lE1).trans y1
     refine yaa rfl rfl fun K hK=>?_
     go_wp2_with fail
     rw[HJ0.out]
     exact ⟨g0,x75,x76,x77,x78,x79,x80,x81,x82,x83,x84,x85,x86,.slice Ay (nbb+1) cy,x88,x89,x90,x91,x4,(by simp only[zA,zB,zC,D11]),zT HH⟩
    ·have D12:=(pj12 HH.out) (rq hi 12)
     clear hi HCL
     simp only[zA,zB,zC,D12]
     refine yaa rfl rfl fun K hK=>?_
     go_wp2_with fail
     rw[HJ0.out]
     exact ⟨g0,x75,x76,x77,x78,x79,x80,x81,x82,x83,x84,x85,x86,x87,.int .i64 ((nbb:Int)+1),x89,x90,x91,x4,(by simp only[zA,zB,zC,D12]),zT HH⟩
    ·have D13:=(pj13 HH.out) (rq hi 13)
     clear hi HCL
     simp only[zA,zB,zC,D13]
     refine yaa rfl rfl fun K hK=>?_
     go_wp2_with fail
     rw[HJ0.out]
     exact ⟨g0,x75,x76,x77,x78,x79,x80,x81,x82,x83,x84,x85,x86,x87,x88,.int .i64 (nbb:Int),x90,x91,x4,(by simp only[zA,zB,zC,D13]),zT HH⟩
    ·have D8:=(pj8 HH.out) (rq hi 8)
     have D14:=(pj14 HH.out) (rq hi 14)
     clear hi HCL
     simp only[zA,zB,zC,D8,D14]
     refine yaa rfl rfl fun K hK=>?_
     go_wp2_with fail
     rw[HJ0.out]
     exact ⟨g0,x75,x76,x77,x78,x79,x80,x81,x82,x83,x84,x85,x86,x87,x88,x89,.agg #[.int .i64 2,.int .i64 0,.int .i64 0,.int .i64 0,.int .i64 0,.int .i64 q0i,.int .i64 (nbb:Int),.int .i64 0],x91,x4,(by simp only[zA,zB,zC,D8,D14]),zT HH⟩
    ·have hns:¬ Ls Lz 17:=fun h=>hnl (dq HCL h 16)
     have D15:=(pj15 HH.out) (rq hi 15)
     have V0:=(pj19 HH.out) hns
     clear hi HCL
     simp only[zA,zB,zC,D15]
     refine yaa rfl rfl fun K hK=>?_
     go_wp2_with fail
     rw[HJ0.out]
     exact ⟨W.heap.size,x75,x76,x77,x78,x79,x80,x81,x82,x83,x84,x85,x86,x87,x88,x89,x90,.slice (some ⟨W.heap.size,0,none⟩) 1 1,x4,(by simp only[zA,zB,zC,D15]),zk HH,zk HH,zk HH,zk HH,zk HH,zk HH,zk HH,zk HH,zk HH,zk HH,zk HH,zk HH,zk HH,zk HH,zk HH,zk HH,fun _=>rfl,Ba hns,fun _ _=>World.ownsRow_lit W _ 1 V0.size Zq13 rfl,fun h=>belE ((pj19 HH.out) (fun h2=>h h2.fwd)) yap,Bb hns⟩
    ·have hns:¬ Ls Lz 17:=hnl
     have D16:=(pj16 HH.out) (rq hi 16)
     have E16:=(pj18 HH.out) (rq hi 16) hns
     have V0:=(pj19 HH.out) hns
     clear hi HCL
     simp only[zA,zB,zC,D16]
     refine yaa rfl rfl fun K hK=>?_
     go_wp2_with fail
     rw[HJ0.out]
     exact ⟨g0,x75,x76,x77,x78,x79,x80,x81,x82,x83,x84,x85,x86,x87,x88,x89,x90,x91,.slice (some ⟨g0,0,none⟩) 1 1,(by first|(simp only[zA,zB,zC,D16] <;> fail)|simp only[Act.put,zA,zB,zC,D16]),zk HH,zk HH,zk HH,zk HH,zk HH,zk HH,zk HH,zk HH,zk HH,zk HH,zk HH,zk HH,zk HH,zk HH,zk HH,zk HH,zk HH,fun _=>⟨rfl,E16,V0⟩,zx hnow,zy hnow,zx hnow⟩
   ·intro Lz a W hsize hJ hr
    rw[HJ0.out] at hJ
    have hall:=ybj hsize Zq8 hr
    obtain ⟨g0,x75,x76,x77,x78,x79,x80,x81,x82,x83,x84,x85,x86,x87,x88,x89,x90,x91,x4,rfl,HF⟩:=hJ
    have HH:=hD HF
    have HEND:=(pj17 HH.out) (hall 17 Zq9)
    clear HF HH hall hr hsize
    simp only[zA,zB,zC]
    obtain ⟨rfl,ho,hbF⟩:=HEND
    obtain ⟨w2,rfl⟩:∃ w2:World,w2=W:=⟨_,rfl⟩
    have HO:=hD ho
    have HB2:=hD hbF
    clear ho hbF
    go_wp2_with fail
    go_ret
    refine ⟨.slice (some ⟨g0,0,none⟩) 1 1,rfl,by rw[HF.out,HBL.out];exact ybd (by simpa using HO.out) Zq6,?_,grE (yb7 B0.out _) (ye1 HG1.out HB2.out)⟩
    rw[HF.out]
    have hge:=(HO.out.lt g0 rfl).1
    refine EnvS.below (P:=fun b=>P0 b∨(w0.heap.size≤b∧b<w1.heap.size)) ⟨An,_,cn,Ay,nbb+1,cy,HH1.out,rfl,NA1.out.mono (fun b _ hb=>.inl hb),by show(e.bits++[a1]).length=_;rw[List.length_append,HBL.out];rfl,HR1.out.mono (fun b hl hb=>.inr ⟨hb,hl⟩)⟩ HB2.out (fun b hl hb=>?_)
    rcases hb with hb|⟨h1,h2⟩
    ·exact yer hs0 b (by rw[←HPE.out];exact .inl ⟨hb,hPlt b hb⟩)
    ·exact .inr ⟨by omega,fun e=>by have e:some b=some g0:=e;injection e with e;omega⟩
 ·have hal:0<h.args.length:=by have h1:=(ybp HV.out).2.1;rw[hk] at h1;have h2:yar 7 h.word=1:=Zq14;omega
  obtain ⟨b,off,rfl,hbP,hb0,hbc⟩:=RA0.out.2 hal
  have hbE:b≠E:=fun e=>hP0 (e▸hbP)
  obtain ⟨a0,hA0⟩:∃ a0,a0=arg0 h:=⟨_,rfl⟩
  have HA0:=hD hA0
  have c0:w0.cell? ⟨b,off,none⟩=some (.string a0):=hbc 0 _ (by unfold strs;rw[List.getElem?_map,yc3 hal,hA0];rfl)
  clear hA0
  obtain ⟨R,hR⟩:∃ R,R=sA d bd names e:=⟨_,rfl⟩
  obtain ⟨q0i,hQ⟩:∃ q,q=fS R.2.bits a0:=⟨_,rfl⟩
  have HQ:=hD hQ
  have HF:Hid (sS (sA d) h bd names e=(yci (q0i+1) R.1,R.2)):=by show _=_;rw[sS_7 hk,←hR,hQ,HA0.out]
  have HN:Hid ((yci (q0i+1) R.1).length=R.1.length):=by show _=_;unfold yci;rw[List.length_map]
  have HRL:Hid (R.1.length≤2000):=by show _≤_;rw[hR];exact ygn _ _ _ _
  have HBZ:Hid (R.2.bits.length≤1048577):=by show _≤_;rw[hR];have h1:=yk2 d bd names e;have h2:=HSZ.out;omega
  have hn1:=hnb (by rw[hk];decide)
  have HALL:=hD (fun W hb he=>hall W hb he Zq6)
  rw[←hR] at HALL
  have hqb:=yuh R.2.bits a0
  rw[←hQ] at hqb
  have hq0:0≤q0i:=hqb.1
  have hq1:q0i≤1048577:=by have:=HBZ.out;omega
  clear hQ hqb
  have e1:(h.k==1)=false:=by rw[hk];decide
  have e2:(h.k==2)=false:=by rw[hk];decide
  have e3:(h.k==3)=false:=by rw[hk];decide
  have e4:(h.k==4)=false:=by rw[hk];decide
  have e5:(h.k==5)=false:=by rw[hk];decide
  have e6:(h.k==6)=false:=by rw[hk];decide
  have E6X:=hD e6
  clear e6
  clear hk hall hanc hnb hR
  have e6:(h.k==6)=false:=E6X.out
  go_wp2_with fail
  rw[←HW0.out]
  refine(HALL.out w0 TB0.out EN0.out).mono ?_
  rintro e1 w1 ⟨v1,rfl,ho,hen,hg1⟩
  obtain ⟨A7,c7,rfl,_,_,rr⟩:=yah ho
  have hs1:=hg1.size
  have HEN:=hD (hen.mono (fun b _ hb=>hb))
  obtain ⟨An,nn,cn,Bn,nbb,cbb,hh1,rfl,hna,hbl,hbi⟩:=id hen
  have HG1:=hD hg1
  have HBL:=hD hbl
  have BI1:=hD hbi
  have RR:=hD rr
  have y1:=yaj (j:=1) hh1 rfl
  have p2:=(ycr (o:=2) hg1 hX0 hXE).trans k2
  have c0:=(ycr (o:=off) hg1 hb0 hbE).trans c0
  have lE1:E<w1.heap.size:=by omega
  have lX1:X<w1.heap.size:=by omega
  have lb1:b<w1.heap.size:=by omega
  clear hen hg1 hna hbl hbi hh1 rr ho
  go_upto_region 17 with (fail)
  rw[←HX.out]
  obtain ⟨J0,hJ0⟩:∃ J:Array Value→Array Bool→Act→World→Prop,J=(fun A0 Lz a W=>∃ (Ay:Option Addr) (cy:Nat),∃ x96 x97 x98 x99 x100 x101 x102 x103 x104 x105 x106 x107 x4:Value,a=⟨(((((((((((((A0.setIfInBounds 96 x96).setIfInBounds 97 x97).setIfInBounds 98 x98).setIfInBounds 99 x99).setIfInBounds 100 x100).setIfInBounds 101 x101).setIfInBounds 102 x102).setIfInBounds 103 x103).setIfInBounds 104 x104).setIfInBounds 105 x105).setIfInBounds 106 x106).setIfInBounds 107 x107).setIfInBounds 4 x4),[]⟩∧(Ls Lz 0→x96=.slice A7 R.1.length c7)∧(Ls Lz 1→x97=.pointer (some ⟨E,0,none⟩))∧(Ls Lz 2→x98=.pointer (some ⟨E,0,none⟩))∧(Ls Lz 3→x99=.pointer (some ⟨E,1,none⟩))∧(Ls Lz 4→x100=.slice Bn nbb cbb)∧(Ls Lz 5→x101=.pointer (some ⟨X,2,none⟩))∧(Ls Lz 6→x102=.slice (some ⟨b,off,none⟩) h.args.length ca)∧(Ls Lz 7→x103=.pointer (some ⟨b,off,none⟩))∧(Ls Lz 8→x104=.string a0)∧(Ls Lz 9→x105=.int .i64 q0i)∧(Ls Lz 10→x106=.int .i64 (q0i+1))∧(Ls Lz 11→x107=.slice Ay R.1.length cy)∧(Ls Lz 12→(x4=.slice Ay R.1.length cy∧(W.ownsRow w1.heap.size 104 8 (.slice Ay R.1.length cy) R.1.length ((yci (q0i+1) R.1).flatMap yan)∧EnvS W E (Aft w0 P0 (.slice Ay R.1.length cy)) names R.2)∧Below w1.heap.size w1 W))∧(Ls Lz 11→¬ Ls Lz 12→(W.ownsRow w1.heap.size 104 8 (.slice Ay R.1.length cy) R.1.length ((yci (q0i+1) R.1).flatMap yan)∧EnvS W E (Aft w0 P0 (.slice Ay R.1.length cy)) names R.2))∧(¬ Ls Lz 12→Below w1.heap.size w1 W)∧(Ls Lz 12→¬ Ls Lz 12→True)):=⟨_,rfl⟩
  have HJ0:=hD hJ0
  clear hJ0
  refine ya3 Zq8 J0 ?_ ?_ ?_
  ·intro A0
   rw[HJ0.out]
   exact ⟨none,0,A0.getD 96 undef,A0.getD 97 undef,A0.getD 98 undef,A0.getD 99 undef,A0.getD 100 undef,A0.getD 101 undef,A0.getD 102 undef,A0.getD 103 undef,A0.getD 104 undef,A0.getD 105 undef,A0.getD 106 undef,A0.getD 107 undef,A0.getD 4 undef,by simp only[ybm],zn,zn,zn,zn,zn,zn,zn,zn,zn,zn,zn,zn,zn,zn,fun _=>ycb (Below.refl _ _),zn⟩
  ·intro Lz a W hsize hcl hJ i hi
   have hil:=ybn hi
   have hnl:=ybi hi
   have hnow:=ybh hi hsize
   have HCL:=hD hcl
   rw[HJ0.out] at hJ
   obtain ⟨Ay,cy,x96,x97,x98,x99,x100,x101,x102,x103,x104,x105,x106,x107,x4,rfl,HF⟩:=hJ
   have HH:=hD HF
   have hi2:i=0∨i=1∨i=2∨i=3∨i=4∨i=5∨i=6∨i=7∨i=8∨i=9∨i=10∨i=11∨i=12:=by simp at hil;omega
   clear hil hcl HF
   rcases hi2 with rfl|rfl|rfl|rfl|rfl|rfl|rfl|rfl|rfl|rfl|rfl|rfl|rfl
   ·clear hi HCL
    simp only[zA,zB,zC]
    refine yaa rfl rfl fun K hK=>?_
    go_wp2_with fail
    rw[HJ0.out]
    exact ⟨Ay,cy,.slice A7 R.1.length c7,x97,x98,x99,x100,x101,x102,x103,x104,x105,x106,x107,x4,(by simp only[zA,zB,zC]),zT HH⟩
   ·clear hi HCL
    simp only[zA,zB,zC]
    refine yaa rfl rfl fun K hK=>?_
    go_wp2_with fail
    rw[HJ0.out]
    exact ⟨Ay,cy,x96,.pointer (some ⟨E,0,none⟩),x98,x99,x100,x101,x102,x103,x104,x105,x106,x107,x4,(by simp only[zA,zB,zC]),zT HH⟩
   ·have D1:=(pj1 HH.out) (rq hi 1)
    clear hi HCL
    simp only[zA,zB,zC,D1]
    refine yaa rfl rfl fun K hK=>?_
    go_wp2_with fail
    rw[HJ0.out]
    exact ⟨Ay,cy,x96,x97,.pointer (some ⟨E,0,none⟩),x99,x100,x101,x102,x103,x104,x105,x106,x107,x4,(by simp only[zA,zB,zC,D1]),zT HH⟩
   ·have D2:=(pj2 HH.out) (rq hi 2)
    clear hi HCL
    simp only[zA,zB,zC,D2]
    refine yaa rfl rfl fun K hK=>?_
    go_wp2_with fail
    rw[HJ0.out]
    exact ⟨Ay,cy,x96,x97,x98,.pointer (some ⟨E,1,none⟩),x100,x101,x102,x103,x104,x105,x106,x107,x4,(by simp only[zA,zB,zC,D2]),zT HH⟩
   ·have hns:¬ Ls Lz 12:=fun h=>hnl (dq HCL (dq HCL (dq HCL (dq HCL h 11) 10) 9) 4)
    have D3:=(pj3 HH.out) (rq hi 3)
    have V0:=(pj14 HH.out) hns
    clear hi HCL
    simp only[zA,zB,zC,D3]
    have q0:=(V0.cell (p:=⟨E,1,none⟩) lE1).trans y1
    refine yaa rfl rfl fun K hK=>?_
    go_wp2_with fail
    rw[HJ0.out]
    exact ⟨Ay,cy,x96,x97,x98,x99,.slice Bn nbb cbb,x101,x102,x103,x104,x105,x106,x107,x4,(by simp only[zA,zB,zC,D3]),zT HH⟩
   ·clear hi HCL
    simp only[zA,zB,zC]
    refine yaa rfl rfl fun K hK=>?_
    go_wp2_with fail
    rw[HJ0.out]
    exact ⟨Ay,cy,x96,x97,x98,x99,x100,.pointer (some ⟨X,2,none⟩),x102,x103,x104,x105,x106,x107,x4,(by simp only[zA,zB,zC]),zT HH⟩
   ·have hns:¬ Ls Lz 12:=fun h=>hnl (dq HCL (dq HCL (dq HCL (dq HCL (dq HCL (dq HCL h 11) 10) 9) 8) 7) 6)
    have D5:=(pj5 HH.out) (rq hi 5)
    have V0:=(pj14 HH.out) hns
    clear hi HCL
    simp only[zA,zB,zC,D5]
    have q0:=(V0.cell (p:=⟨X,2,none⟩) lX1).trans p2
    refine yaa rfl rfl fun K hK=>?_
    go_wp2_with fail
    rw[HJ0.out]
    exact ⟨Ay,cy,x96,x97,x98,x99,x100,x101,.slice (some ⟨b,off,none⟩) h.args.length ca,x103,x104,x105,x106,x107,x4,(by simp only[zA,zB,zC,D5]),zT HH⟩
   ·have D6:=(pj6 HH.out) (rq hi 6)
    clear hi HCL
    simp only[zA,zB,zC,D6]
    refine yaa rfl rfl fun K hK=>?_
    go_wp2_with fail
    rw[HJ0.out]
    exact ⟨Ay,cy,x96,x97,x98,x99,x100,x101,x102,.pointer (some ⟨b,off,none⟩),x104,x105,x106,x107,x4,(by simp only[zA,zB,zC,D6]),zT HH⟩
   ·have hns:¬ Ls Lz 12:=fun h=>hnl (dq HCL (dq HCL (dq HCL (dq HCL h 11) 10) 9) 8)
    have D7:=(pj7 HH.out) (rq hi 7)
    have V0:=(pj14 HH.out) hns
    clear hi HCL
    simp only[zA,zB,zC,D7]
    have q0:=(V0.cell (p:=⟨b,off,none⟩) lb1).trans c0
    refine yaa rfl rfl fun K hK=>?_
    go_wp2_with fail
    rw[HJ0.out]
    exact ⟨Ay,cy,x96,x97,x98,x99,x100,x101,x102,x103,.string a0,x105,x106,x107,x4,(by simp only[zA,zB,zC,D7]),zT HH⟩
   ·have hns:¬ Ls Lz 12:=fun h=>hnl (dq HCL (dq HCL (dq HCL h 11) 10) 9)
    have D4:=(pj4 HH.out) (rq hi 4)
    have D8:=(pj8 HH.out) (rq hi 8)
    have V0:=(pj14 HH.out) hns
    clear hi HCL
    simp only[zA,zB,zC,D4,D8]
    refine yaa rfl rfl fun K hK=>?_
    go_wp2_with fail
    refine(yep Bn nbb cbb R.2.bits a0 W (BI1.out.rd.below V0) HBL.out (by have:=HBZ.out;have:=HBL.out;omega)).mono ?_
    rintro e1 y ⟨rfl,rfl⟩
    rw[←HQ.out]
    go_wp2_with fail
    rw[HJ0.out]
    exact ⟨Ay,cy,x96,x97,x98,x99,x100,x101,x102,x103,x104,.int .i64 q0i,x106,x107,x4,(by simp only[zA,zB,zC,D4,D8]),zT HH⟩
   ·have D9:=(pj9 HH.out) (rq hi 9)
    clear hi HCL
    simp only[zA,zB,zC,D9]
    refine yaa rfl rfl fun K hK=>?_
    go_wp2_with fail
    rw[HJ0.out]
    exact ⟨Ay,cy,x96,x97,x98,x99,x100,x101,x102,x103,x104,x105,.int .i64 (q0i+1),x107,x4,(by simp only[zA,zB,zC,D9]),zT HH⟩
   ·have hns:¬ Ls Lz 12:=fun h=>hnl (dq HCL h 11)
    have D0:=(pj0 HH.out) (rq hi 0)
    have D10:=(pj10 HH.out) (rq hi 10)
    have V0:=(pj14 HH.out) hns
    clear hi HCL
    simp only[zA,zB,zC,D0,D10]
    refine yaa rfl rfl fun K hK=>?_
    go_wp2_with fail
    refine(yql _ _ _ R.1 (q0i+1) W (RR.out.below V0) rfl (by have:=HRL.out;omega)).mono ?_
    rintro e1 y ⟨v8,rfl,ho,hb,hs⟩
    obtain ⟨A8,c8,rfl,_,_,_⟩:=yah ho
    go_wp2_with fail
    rw[HJ0.out]
    exact ⟨A8,c8,x96,x97,x98,x99,x100,x101,x102,x103,x104,x105,x106,.slice A8 R.1.length c8,x4,(by simp only[zA,zB,zC,D0,D10]),zk HH,zk HH,zk HH,zk HH,zk HH,zk HH,zk HH,zk HH,zk HH,zk HH,zk HH,fun _=>rfl,Ba hns,fun _ _=>⟨ybd ho V0.size,((HEN.out.below V0 (fun _ _ h=>h)).fresh (ybe ho) hb)⟩,fun h=>belE ((pj14 HH.out) (fun h2=>h h2.fwd)) hb,Bb hns⟩
   ·have hns:¬ Ls Lz 12:=hnl
    have D11:=(pj11 HH.out) (rq hi 11)
    have E11:=(pj13 HH.out) (rq hi 11) hns
    have V0:=(pj14 HH.out) hns
    clear hi HCL
    simp only[zA,zB,zC,D11]
    refine yaa rfl rfl fun K hK=>?_
    go_wp2_with fail
    rw[HJ0.out]
    exact ⟨Ay,cy,x96,x97,x98,x99,x100,x101,x102,x103,x104,x105,x106,x107,.slice Ay R.1.length cy,(by first|(simp only[zA,zB,zC,D11] <;> fail)|simp only[Act.put,zA,zB,zC,D11]),zk HH,zk HH,zk HH,zk HH,zk HH,zk HH,zk HH,zk HH,zk HH,zk HH,zk HH,zk HH,fun _=>⟨rfl,E11,V0⟩,zx hnow,zy hnow,zx hnow⟩
  ·intro Lz a W hsize hJ hr
   rw[HJ0.out] at hJ
   have hall:=ybj hsize Zq8 hr
   obtain ⟨Ay,cy,x96,x97,x98,x99,x100,x101,x102,x103,x104,x105,x106,x107,x4,rfl,HF⟩:=hJ
   have HH:=hD HF
   have HEND:=(pj12 HH.out) (hall 12 Zq9)
   clear HF HH hall hr hsize
   simp only[zA,zB,zC]
   obtain ⟨rfl,⟨ho,hen⟩,hbF⟩:=HEND
   obtain ⟨w2,rfl⟩:∃ w2:World,w2=W:=⟨_,rfl⟩
   have HO:=hD ho
   have HE:=hD hen
   have HB2:=hD hbF
   clear ho hen hbF
   go_wp2_with fail
   go_ret
   exact ⟨.slice Ay R.1.length cy,rfl,by rw[HF.out];show World.ownsRow _ _ _ _ _ (yci (q0i+1) R.1).length _;rw[HN.out];exact ybd HO.out Zq6,by rw[HF.out];exact HE.out.mono (fun b _ hb=>yer hs0 b (by rw[←HPE.out];exact hb)),grE (yb7 B0.out _) (ye1 HG1.out HB2.out)⟩
end Go.Proofs.YthkbckkghnbonaaGreatDoor
