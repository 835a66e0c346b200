/- What the calls that this law reaches answer, part 15 of 15. -/
import Derived.Test.YthkbckkghnbonaaJFBits10
import Derived.Test.YthkbckkghnbonaaJFBits9
import Derived.Laws.EntriesVeiled
import Derived.Test.YthkbckkghnbonaaJFBits8
import Derived.Test.YthkbckkghnbonaaJFBits3
import Derived.Test.YthkbckkghnbonaaJFBits1
import Derived.Test.YthkbckkghnbonaaProg
set_option maxRecDepth 100000
set_option maxHeartbeats 16000000
set_option linter.unusedVariables false
namespace Go.Proofs.Ythkbckkghnbonaa
open Go.RowKit
set_option linter.unusedVariables false
def RetOut (base:Nat) (out:List ByteArray) (w:World) (e:Ending) (w':World):Prop:=∃ v',e=.returned v'∧OutS w' base v' out∧Below base w w'∧w.heap.size≤w'.heap.size
def BitsSaid (d:Nat):Prop:=∀ (lo base:Nat) (A:Option Addr) (n c:Nat) (l:List (Tr d)) (v:Value) (out:List ByteArray) (w0 w:World),RdT w0 lo d A n l→w0.heap.size≤base→base≤w.heap.size→Below base w0 w→OutS w base v out→out.length+szT d l≤1048576 →
 Calls Try.prog 19 #[.slice A n c,v] w (RetOut base (bitsT d l out) w)
theorem strs_snoc (l:List ByteArray) (a:ByteArray):strs (l++[a])=strs l++[.string a]:=by simp [strs]
theorem rd_lit3 {w:World} {cs:Array Value} {e n size b:Nat} (h0:b=w.heap.size) (hs:cs.size=n*size):Rd (w.alloc (.cells cs e)) size (some ⟨b,0,none⟩) n cs.toList:=by
 subst h0
 refine ⟨by simpa using hs,fun _=>⟨_,0,rfl,by simp,fun j u hu=>?_⟩⟩
 have h:=heap_alloc_new w (.cells cs e)
 have hc:cs[j]?=some u:=by rw[←Array.getElem?_toList];exact hu
 rw[Nat.zero_add]
 exact cell_at h hc
theorem own_lowB {w:World} {B B' e size n:Nat} {v:Value} {xs:List Value} (h:w.ownsRow B e size v n xs) (hB:B'≤B):w.ownsRow B' e size v n xs:=by
 refine ⟨h.1,?_⟩
 rcases h.2 with h2|⟨g,cap,cur,h1,h2,h3⟩
 ·exact .inl h2
 ·exact .inr ⟨g,cap,cur,h1,Nat.le_trans hB h2,h3⟩
theorem newB_k {h:SH} {out:List ByteArray} (e:h.k≠6):newB h out=false:=by simp [newB,e]
theorem newB_l {h:SH} {out:List ByteArray} (e:¬ 1<h.args.length):newB h out=false:=by simp [newB,e]
theorem newB_h {h:SH} {out:List ByteArray} (e:hasS out (argAt h)=true):newB h out=false:=by simp [newB,e]
theorem newB_t {h:SH} {out:List ByteArray} (e1:h.k=6) (e2:1<h.args.length) (e3:hasS out (argAt h)=false):newB h out=true:=by simp [newB,e1,e2,e3]
theorem l20Bits_any:∀ (d:Nat),BitsSaid d:=by
 intro d
 induction d with
 | zero =>
  intro lo base A n c l v out w0 w h h0 hbs hb ho _
  obtain rfl:=szT_zero_len h
  go_enter Try.func19,Try.ntmps19
  go_wp2
  refine wp_loop_rounds 1 ?_
  rw[rounds_succ]
  go_wp2
  go_ret
  exact ⟨_,rfl,ho,Below.refl _ _,Nat.le_refl _⟩
 | succ d ih =>
  intro lo base A n c l v out w0 w h h0 hbs hb ho hsz
  obtain ⟨i0,hi,hz0,hz1,hz2⟩:=info_parts info_str
  have hl:=h.len
  have hq:=hsz
  rw[szT_succ] at hq
  have hn:n≤1048576:=by omega
  have H:=hD h
  have HL:=hD hl
  have HB0:=hD hb
  have HQ:=hD hq
  have IH:=hD ih
  clear h hl hb hsz hq ih
  go_enter Try.func19,Try.ntmps19
  go_wp2
  go_loopw [1,5] (fun v i wr=>∃ t:Nat,t≤n∧i=.int .i64 t∧OutS wr base v (bitsT (d+1) (l.take t) out)∧Below base w wr) (fun _ i _=>n - (intOf i).toNat)
  case atStart=>exact ⟨0,Nat.zero_le _,rfl,ho,Below.refl _ _⟩
  case round =>
   obtain ⟨t,ht,rfl,hO,hb⟩:=hrel
   have hbz:=hb.size
   by_cases hlt:t<n
   ·have hb0:Below w0.heap.size w0 wr:=(HB0.out.trans hb).mono h0
    have hz0':=hb0.size
    obtain ⟨b,off,s,Aa,ca,Ab,nb,cb,rfl,hbl,hs,⟨c0,c1,c2,c3,c4⟩,ha,hbd⟩:=H.out.at_ hlt
    rw[←hb0.cell (p:=⟨b,_,none⟩) hbl] at c0 c1 c2 c3 c4
    have HSTEP:=hD (bitsT_step l t s out hs)
    have hq:=HQ.out
    have hl':=HL.out
    have h1:=sumE_take l t s hs
    have h2:=sumE_take_le l (t+1)
    have h3:szE s=(hdT s).word.size+((hdT s).args.length+szS (hdT s).args+szT d (bdT s)):=rfl
    have h4:=bitsT_len (d+1) (l.take t) out
    rw[szT_succ,List.length_take] at h4
    obtain ⟨O,hOe⟩:∃ O,O=bitsT (d+1) (l.take t) out:=⟨_,rfl⟩
    rw[←hOe] at hO HSTEP h4
    have h5:=bits1_len (hdT s) O
    have hsz':(bits1 (hdT s) O).length+szT d (bdT s)≤1048576:=by omega
    have hol:O.length≤1048576:=by omega
    have hal:(hdT s).args.length≤1048576:=by omega
    have HBD:=hD hbd
    obtain ⟨Y,hY⟩:∃ Y,Y=bits1 (hdT s) O:=⟨_,rfl⟩
    rw[←hY] at HSTEP hsz'
    have HY:=hD hY
    obtain ⟨Ao,co,rfl,_,_,ro⟩:=rd_of_own hO
    obtain ⟨wa,hwa⟩:∃ wa,wa=wr.alloc (.cells #[.int .i64 (hdT s).k,.string (hdT s).word,.slice Aa (hdT s).args.length ca,.int .i64 (hdT s).count,.slice Ab nb cb] 42):=⟨_,rfl⟩
    have ba:Below wr.heap.size wr wa:=by rw[hwa];exact Zq0
    have X:=hD (show wa.heap[wr.heap.size]?=some (.cells #[.int .i64 (hdT s).k,.string (hdT s).word,.slice Aa (hdT s).args.length ca,.int .i64 (hdT s).count,.slice Ab nb cb] 42 (0,0)) by rw[hwa];exact boxed1_0 _ _)
    have hsa:wr.heap.size+1=wa.heap.size:=by rw[hwa];simp
    have HO:=hD hO
    have OWN:=hD (ownsRow_below hO ba)
    have RO:=hD (ro.below ba)
    have BA:=hD (hb.trans (ba.mono Zq1))
    have WA:=hD hwa
    have HS:=hD hs
    have HA:=hD ha
    obtain ⟨k,hk0⟩:∃ k,k=(hdT s).k:=⟨_,rfl⟩
    obtain ⟨na,hna⟩:∃ na,na=(hdT s).args.length:=⟨_,rfl⟩
    rw[←hk0] at c0 X WA
    rw[←hna] at c2 hal X WA HA
    have HK:=hD hk0
    have HNA:=hD hna
    clear hs ha hbd hq hl' h1 h2 h3 h4 h5 hOe hO ro hwa ba hk0 hna hY hb hb0
    by_cases hk:k=6
    ·subst hk
     by_cases h1:1<na
     ·have hi1:(1:Int)<(na:Int):=by omega
      obtain ⟨bq,offq,rfl,_,hbq,hcq⟩:=HA.out.2 Zq1
      have hq1:=hcq 1 _ (strs_at (argAt_of (by rw[←HNA.out];exact h1)))
      have hb0:Below w0.heap.size w0 wa:=(HB0.out.trans BA.out).mono h0
      have q1:wa.cell? ⟨bq,offq+1,none⟩=some (.string (argAt (hdT s))):=(hb0.cell (p:=⟨bq,offq+1,none⟩) hbq).trans hq1
      have hlt1:bq<wa.heap.size:=by have:=hb0.size;omega
      obtain ⟨p0,p1,p2,p3,p4⟩:=boxcells5 (lay:=Below.refl _ _) X.out
      have hlt2:wr.heap.size<wa.heap.size:=by omega
      obtain ⟨a,hae⟩:∃ a,a=argAt (hdT s):=⟨_,rfl⟩
      rw[←hae] at q1
      have HAE:=hD hae
      have BB0:=hD hb0
      have W2:=WA.out
      rw[W2] at q1 p0 p1 p2 p3 p4
      clear hcq hq1 hae hb0 W2
      cases hh:hasS O a
      ·have HYO:Hid (Y=O++[a]):=by rw[HY.out,bits1_t (newB_t (by rw[←HK.out]) (by rw[←HNA.out];exact h1) (by rw[←HAE.out];exact hh)),←HAE.out];exact rfl
       have OWR:=OWN.out
       rw[WA.out] at OWR
       have hbsz:base≤(wr.alloc (.cells #[.int .i64 6,.string (hdT s).word,.slice (some ⟨bq,offq,none⟩) na ca,.int .i64 (hdT s).count,.slice Ab nb cb] 42)).heap.size:=by simp;omega
       go_wp2_with (first|(go_at_call 30;refine(l1Has_any _ _ _ O a _ (by rw[←WA.out];exact RO.out) rfl Zq1).mono ?_;rintro e w' ⟨rfl,rfl⟩)|(at_builtin;refine wpList_append_rd _ rfl _ _ 24 rfl base 9 i0 _ 1 16 Try.underlying24 hi hz0 hz1 hz2 rfl Zq4 _ _ _ rfl (OWR.alloc _) _ 1 1 _ rfl (rd_lit3 ?c0 rfl) ?c2 ?c3 ?c4 ?c5 ?_))
       case c0=>first|omega|rfl|(simp;done)|(simp;omega)
       case c2=>repeat' (first|rfl|apply And.intro)
       case c3=>simp only[maxLen];omega
       case c4=>omega
       case c5=>simp;omega
       intro v3 w3 own3 gr3 _
       rw[←WA.out] at gr3
       have hx3:w3.heap[wr.heap.size]?=_:=(gr3.block wr.heap.size Zq6 (fun e=>by have:=(HO.out.lt _ e.symm).2;omega)).trans ((Below.heap_alloc _ _ _ hlt2).trans X.out)
       have r4:=cell_at (j:=4) (u:=.slice Ab nb cb) hx3 rfl
       have hlt3:wr.heap.size<w3.heap.size:=lt_of_block hx3
       have BY:=hD ((BA.out.alloc Zq1 _).grown gr3 Zq6 (own_ge HO.out))
       have OWNY:Hid (OutS w3 base v3 Y):=by
        rw[HYO.out]
        unfold OutS
        rw[List.length_append,strs_snoc]
        exact own3
       clear OWR gr3 hx3 own3 hbsz p0 p1 p2 p3 p4 q1
       go_wp2_with fail
    
       refine(IH.out lo base _ _ _ (bdT s) _ Y w0 _ HBD.out h0 (by have:=BY.out.size;omega) (HB0.out.trans BY.out) OWNY.out hsz').mono ?_
       rintro e wz ⟨vz,rfl,oz,bz,sz⟩
       have OZ:=hD oz
       have BZ:=hD (BY.out.trans bz)
       clear oz bz
       go_wp2_with fail
       go_roundw
       case rel=>exact ⟨t+1,by omega,by go_num,by rw[HSTEP.out];exact OZ.out,BZ.out⟩
       case measure=>simp [intOf];omega
      ·have HYO:Hid (Y=O):=by rw[HY.out,bits1_f (newB_h (by rw[←HAE.out];exact hh))];exact rfl
       have OWNY:Hid (OutS wa base (.slice Ao O.length co) Y):=by rw[HYO.out];exact OWN.out
       go_wp2_with (go_at_call 30;refine(l1Has_any _ _ _ O a _ (by rw[←WA.out];exact RO.out) rfl Zq1).mono ?_;rintro e w' ⟨rfl,rfl⟩)
       rw[←WA.out]
       refine(IH.out lo base _ _ _ (bdT s) _ Y w0 _ HBD.out h0 (by have:=BA.out.size;omega) (HB0.out.trans BA.out) OWNY.out hsz').mono ?_
       rintro e wz ⟨vz,rfl,oz,bz,sz⟩
       have OZ:=hD oz
       have BZ:=hD (BA.out.trans bz)
       clear oz bz
       go_wp2_with fail
       go_roundw
       case rel=>exact ⟨t+1,by omega,by go_num,by rw[HSTEP.out];exact OZ.out,BZ.out⟩
       case measure=>simp [intOf];omega
     ·have HYO:Hid (Y=O):=by rw[HY.out,bits1_f (newB_l (by rw[←HNA.out];exact h1))];exact rfl
      have hi1:decide ((1:Int)<(na:Int))=false:=by simp;omega
      have hi2:decide (1<na)=false:=by simp;omega
      clear h1
      have OWNY:Hid (OutS wa base (.slice Ao O.length co) Y):=by rw[HYO.out];exact OWN.out
      go_wp2_with fail
      rw[←WA.out]
      refine(IH.out lo base _ _ _ (bdT s) _ Y w0 _ HBD.out h0 (by have:=BA.out.size;omega) (HB0.out.trans BA.out) OWNY.out hsz').mono ?_
      rintro e wz ⟨vz,rfl,oz,bz,sz⟩
      have OZ:=hD oz
      have BZ:=hD (BA.out.trans bz)
      clear oz bz
      go_wp2_with fail
      go_roundw
      case rel=>exact ⟨t+1,by omega,by go_num,by rw[HSTEP.out];exact OZ.out,BZ.out⟩
      case measure=>simp [intOf];omega
    ·have HYO:Hid (Y=O):=by rw[HY.out,bits1_f (newB_k (by rw[←HK.out];exact hk))];exact rfl
     have ek:(k==6)=false:=beq_eq_false_iff_ne.2 hk
     clear hk
     have OWNY:Hid (OutS wa base (.slice Ao O.length co) Y):=by rw[HYO.out];exact OWN.out
     go_wp2_with fail
     rw[←WA.out]
     refine(IH.out lo base _ _ _ (bdT s) _ Y w0 _ HBD.out h0 (by have:=BA.out.size;omega) (HB0.out.trans BA.out) OWNY.out hsz').mono ?_
     rintro e wz ⟨vz,rfl,oz,bz,sz⟩
     have OZ:=hD oz
     have BZ:=hD (BA.out.trans bz)
     clear oz bz
     go_wp2_with fail
     go_roundw
     case rel=>exact ⟨t+1,by omega,by go_num,by rw[HSTEP.out];exact OZ.out,BZ.out⟩
     case measure=>simp [intOf];omega
   ·obtain rfl:t=n:=by omega
    have HF:Hid (bitsT (d+1) (l.take t) out=bitsT (d+1) l out):=by rw[List.take_of_length_le (by rw[HL.out];exact Nat.le_refl _)];exact rfl
    have HO:=hD hO
    clear hO
    go_wp2_with fail
    go_ret
    exact ⟨_,rfl,by rw[←HF.out];exact HO.out,hb,hbz⟩
def RetStrs (w:World) (out:List ByteArray):Ending→World→Prop:=RetRow 9 1 w out.length (strs out)
theorem MeasuredBits_spec (d lo:Nat) (Aq:Option Addr) (m cq:Nat) (l:List (Tr d)) (Ab:Option Addr) (nb cb:Nat) (w:World) (hrb:RdT w lo d Ab nb l) (hsz:szT d l≤1048576) :
  Calls Try.prog 7 #[.agg #[.slice Aq m cq,.slice Ab nb cb]] w (RetStrs w (bitsT d l [])):=by
 have ho:OutS ((w.alloc (.cells #[.slice Aq m cq,.slice Ab nb cb] 27)).alloc (.cells #[] 9)) w.heap.size (.slice (some ⟨w.heap.size+1,0,none⟩) 0 0) []:=by
  have h:=own_lowB (own_empty (w.alloc (.cells #[.slice Aq m cq,.slice Ab nb cb] 27)) 9 1) (B':=w.heap.size) Zq5
  unfold OutS
  simpa [strs] using h
 have HO:=hD ho
 have H:=hD hrb
 clear hrb ho
 go_enter Try.func7,Try.ntmps7
 go_wp2_with fail
 refine(l20Bits_any d lo w.heap.size _ _ _ l _ [] w _ H.out (Nat.le_refl _) Zq2 Zq0 HO.out (by simpa using hsz)).mono ?_
 rintro e w1 ⟨v1,rfl,o1,b1,s1⟩
 have O1:=hD o1
 have B1:=hD b1
 clear o1 b1
 have hs1:w.heap.size≤w1.heap.size:=by simp at s1;omega
 go_wp2_with fail
 go_ret
 exact ⟨_,rfl,O1.out,Below.trans Zq0 B1.out,hs1⟩
theorem step_append_rd {P:Program} (w:World) {ops:Array Oper} {o:Oper} {a:Act} {K:Act→World→Prop} {Q:Exit→Act→World→Prop} {E:Prop} (hgd:o.guard=none) (s x:Operand) (t:TypeId)
  (ho:o.op=.call { callee:=.builtin .append,args:=#[s,x],argTypes:=#[t,t] })
  (base:Nat) (e:TypeId) (i:TypeInfo) (z:Value) (size bytes:Nat) (ht:P.underlying t=some (.slice e)) (hi:P.info? e=some i) (hz:i.zero=some z)
  (hsize:i.size=size) (hby:i.bytes=bytes) (hzs:z.cells.size=size) (hsz:0<size)
  (v:Value) (n:Nat) (xs:List Value) (hs:a.eval s=v) (hown:w.ownsRow base e size v n xs)
  (A:Option Addr) (m c:Nat) (news:List Value) (hx:a.eval x=.slice A m c) (hr:Rd w size A m news) (h1:∀ u∈news,u.oneCell'=true)
  (h63:n+m≤maxLen) (hbytes:(n+m)*bytes≤140737488355328) (hbase:base≤w.heap.size)
  (h:∀ v' w',w'.ownsRow base e size v' (n+m) (xs++news)→w.grownBy w' v.ownBlock→(v'.ownBlock=v.ownBlock∨v'.ownBlock=some w.heap.size)→K (a.put o.dst v') w') :
  if Region.wanted o (yielded ops a.tmps)=true then Oper.wp P o a w K Q else E:=by
 have hw:Region.wanted o (yielded ops a.tmps)=true:=by simp [Region.wanted,hgd]
 rw[if_pos hw]
 obtain ⟨v',w',hrun,h2,h3,h4⟩:=run_append_rd (P:=P) w base t o.type e i z size bytes ht hi hz hsize hby hzs hsz v n xs hown A m c news hr h1 h63 hbytes hbase
 unfold Oper.wp execOp
 simp only[ho,resolve,invoke,builtin,Sem.run_bind,Sem.run_pure,Result.andThen_ok,List.map_toArray,List.map_cons,List.map_nil,hs,hx,hrun]
 exact h v' w' h2 h3 h4
theorem own_drewN {w:World} {base e size n:Nat} {v:Value} {xs:List Value} (h:w.ownsRow base e size v n xs) (k:Nat):(w.drewN k).ownsRow base e size v n xs:=h
theorem free_at3 {w:World} {b j:Nat} {cs:Array Value} {t:TypeId} (h:w.heap[b]?=some (.cells cs t (0,0))):w.frozen? ⟨b,j,none⟩=false:=by simp [World.frozen?,h]
theorem one_str (a:ByteArray):∀ u∈[Value.string a],u.oneCell'=true:=by
 intro u hu
 simp at hu
 subst hu
 rfl
structure Vis (w:World) (base X V:Nat) (out:List ByteArray) (v:Value):Prop where
 x:w.heap[X]?=some (.cells #[v] 24 (0,0))
 f:w.heap[V]?=some (.cells #[.func (.func 17) #[] #[.pointer (some ⟨X,0,none⟩),.pointer (some ⟨V,0,none⟩)]] 45 (0,0))
 o:OutS w base v out
def VisPost (base X V:Nat) (out:List ByteArray) (w:World) (e:Ending) (w':World):Prop:=∃ v',e=.returned (.tuple #[])∧Vis w' base X V out v'∧Below base w w'∧w.heap.size≤w'.heap.size
def VisSaid (d:Nat):Prop:=∀ (lo base X V:Nat) (A:Option Addr) (n c:Nat) (l:List (Tr d)) (v:Value) (out:List ByteArray) (w0 w:World),RdT w0 lo d A n l→w0.heap.size≤base→base≤w.heap.size→Below base w0 w→base≤X→base≤V→Vis w base X V out v→out.length+szT d l≤1048576 →
 Calls Try.prog 17 #[.slice A n c,.pointer (some ⟨X,0,none⟩),.pointer (some ⟨V,0,none⟩)] w (VisPost base X V (bitsT d l out) w)
theorem Vis.below {w w':World} {base X V:Nat} {out:List ByteArray} {v:Value} (h:Vis w base X V out v) (hb:Below w.heap.size w w'):Vis w' base X V out v :=
 ⟨(hb.block _ (lt_of_block h.x)).trans h.x,(hb.block _ (lt_of_block h.f)).trans h.f,ownsRow_below h.o hb⟩
theorem visit_any:∀ (d:Nat),VisSaid d:=by
 intro d
 induction d with
 | zero =>
  intro lo base X V A n c l v out w0 w h h0 hbs hb hX hV hv _
  obtain rfl:=szT_zero_len h
  go_enter Try.func17,Try.ntmps17
  go_wp2
  refine wp_loop_rounds 1 ?_
  rw[rounds_succ]
  go_wp2
  go_end0
  exact ⟨_,rfl,hv,Below.refl _ _,Nat.le_refl _⟩
 | succ d ih =>
  intro lo base X V A n c l v out w0 w h h0 hbs hb hX hV hv hsz
  obtain ⟨i0,hi,hz0,hz1,hz2⟩:=info_parts info_str
  have hl:=h.len
  have hq:=hsz
  rw[szT_succ] at hq
  have hn:n≤1048576:=by omega
  have H:=hD h
  have HL:=hD hl
  have HB0:=hD hb
  have HQ:=hD hq
  have IH:=hD ih
  clear h hl hb hsz hq ih
  go_enter Try.func17,Try.ntmps17
  go_wp2
  go_loopw [8] (fun i wr=>∃ (t:Nat) (v:Value),t≤n∧i=.int .i64 t∧Vis wr base X V (bitsT (d+1) (l.take t) out) v∧Below base w wr) (fun i _=>n - (intOf i).toNat)
  case atStart=>exact ⟨0,v,Nat.zero_le _,rfl,hv,Below.refl _ _⟩
  case round =>
   clear hv
   obtain ⟨t,v,ht,rfl,hO,hb⟩:=hrel
   have hbz:=hb.size
   by_cases hlt:t<n
   ·have hb0:Below w0.heap.size w0 wr:=(HB0.out.trans hb).mono h0
    have hz0':=hb0.size
    obtain ⟨b,off,s,Aa,ca,Ab,nb,cb,rfl,hbl,hs,⟨c0,c1,c2,c3,c4⟩,ha,hbd⟩:=H.out.at_ hlt
    rw[←hb0.cell (p:=⟨b,_,none⟩) hbl] at c0 c1 c2 c3 c4
    have HSTEP:=hD (bitsT_step l t s out hs)
    have hq:=HQ.out
    have hl':=HL.out
    have h1:=sumE_take l t s hs
    have h2:=sumE_take_le l (t+1)
    have h3:szE s=(hdT s).word.size+((hdT s).args.length+szS (hdT s).args+szT d (bdT s)):=rfl
    have h4:=bitsT_len (d+1) (l.take t) out
    rw[szT_succ,List.length_take] at h4
    obtain ⟨O,hOe⟩:∃ O,O=bitsT (d+1) (l.take t) out:=⟨_,rfl⟩
    rw[←hOe] at hO HSTEP h4
    have h5:=bits1_len (hdT s) O
    have hsz':(bits1 (hdT s) O).length+szT d (bdT s)≤1048576:=by omega
    have hol:O.length≤1048576:=by omega
    have hal:(hdT s).args.length≤1048576:=by omega
    have HBD:=hD hbd
    obtain ⟨Y,hY⟩:∃ Y,Y=bits1 (hdT s) O:=⟨_,rfl⟩
    rw[←hY] at HSTEP hsz'
    have HY:=hD hY
    obtain ⟨Ao,co,rfl,_,_,ro⟩:=rd_of_own hO.o
    obtain ⟨wa,hwa⟩:∃ wa,wa=wr.alloc (.cells #[.int .i64 (hdT s).k,.string (hdT s).word,.slice Aa (hdT s).args.length ca,.int .i64 (hdT s).count,.slice Ab nb cb] 42):=⟨_,rfl⟩
    have ba:Below wr.heap.size wr wa:=by rw[hwa];exact Zq0
    have S:=hD (show wa.heap[wr.heap.size]?=some (.cells #[.int .i64 (hdT s).k,.string (hdT s).word,.slice Aa (hdT s).args.length ca,.int .i64 (hdT s).count,.slice Ab nb cb] 42 (0,0)) by rw[hwa];exact boxed1_0 _ _)
    have hsa:wr.heap.size+1=wa.heap.size:=by rw[hwa];simp
    have VI:=hD (hO.below ba)
    have hxl:=lt_of_block hO.x
    have hvl:=lt_of_block hO.f
    have RO:=hD (ro.below ba)
    have BA:=hD (hb.trans (ba.mono Zq1))
    have WA:=hD hwa
    have HA:=hD ha
    obtain ⟨k,hk0⟩:∃ k,k=(hdT s).k:=⟨_,rfl⟩
    obtain ⟨na,hna⟩:∃ na,na=(hdT s).args.length:=⟨_,rfl⟩
    rw[←hk0] at c0 S WA
    rw[←hna] at c2 hal S WA HA
    have HK:=hD hk0
    have HNA:=hD hna
    clear hs ha hbd hq hl' h1 h2 h3 h4 h5 hOe hO ro hwa ba hk0 hna hY hb hb0
    obtain ⟨p0,p1,p2,p3,p4⟩:=boxcells5 (lay:=Below.refl _ _) S.out
    have hls:wr.heap.size<wa.heap.size:=by omega
    have px:=cell_at (j:=0) (u:=.slice Ao O.length co) VI.out.x rfl
    have pv:=cell_at (j:=0) VI.out.f rfl
    go_wp2_with fail
    rw[←WA.out]
    by_cases hk:k=6
    ·subst hk
     by_cases h1:1<na
     ·have hi1:(1:Int)<(na:Int):=by omega
      obtain ⟨bq,offq,rfl,_,hbq,hcq⟩:=HA.out.2 Zq1
      have hq1:=hcq 1 _ (strs_at (argAt_of (by rw[←HNA.out];exact h1)))
      have hb0:Below w0.heap.size w0 wa:=(HB0.out.trans BA.out).mono h0
      have q1:wa.cell? ⟨bq,offq+1,none⟩=some (.string (argAt (hdT s))):=(hb0.cell (p:=⟨bq,offq+1,none⟩) hbq).trans hq1
      have hlt1:bq<wa.heap.size:=by have:=hb0.size;omega
      obtain ⟨a,hae⟩:∃ a,a=argAt (hdT s):=⟨_,rfl⟩
      rw[←hae] at q1
      have HAE:=hD hae
      clear hcq hq1 hae hb0
      cases hh:hasS O a
      ·have HYO:Hid (Y=O++[a]):=by rw[HY.out,bits1_t (newB_t (by rw[←HK.out]) (by rw[←HNA.out];exact h1) (by rw[←HAE.out];exact hh)),←HAE.out];exact rfl
       go_quiet ((go_at_call 18;exact Calls.quiet_of_same ((hasWord_any _ _ _ O a _ (RO.out.drewN _) rfl Zq1).mono fun _ _ h=>⟨h.1,h.2.symm⟩)))
       go_wp2_with fail
       have hbw:base≤wa.heap.size:=by have:=BA.out.size;omega
       have hxa:X<wa.heap.size:=by omega
       have hxA:∀ (k:Nat) (ob:Obj),((wa.drewN k).alloc ob).cell? ⟨X,0,none⟩=some (.slice Ao O.length co):=fun k ob=>(World.cell?_alloc_lt (wa.drewN k) ob ⟨X,0,none⟩ hxa).trans px
       go_region_law (first|(refine step_append_rd _ (by rfl) (.tmp 30) (.tmp 35) 24 (by rfl) base 9 i0 _ 1 16 Try.underlying24 hi hz0 hz1 hz2 (by rfl) Zq4 _ O.length _ (by rfl) (by exact((own_drewN VI.out.o _).alloc _)) _ 1 _ [.string a] (by rfl) (by exact rd_lit3 (w:=wa.drewN _) (by rfl) rfl) (by exact one_str a) (by simp only[maxLen];omega) Zq1 Zq6 ?_;intro v3 w3 own3 gr3 _;obtain ⟨A3,c3,rfl,_,_,_⟩:=rd_of_own own3;have hx3:w3.heap[X]?=some (.cells #[.slice Ao O.length co] 24 (0,0)):=(gr3.block X Zq6 (fun e=>own_ne_type VI.out.o VI.out.x Zq4 e.symm)).trans ((Below.heap_alloc _ _ _ Zq6).trans VI.out.x);have px3:=cell_at (j:=0) (u:=.slice Ao O.length co) hx3 rfl;have fx3:=free_at3 (j:=0) hx3;have hlx3:=lt_of_block hx3))
       all_goals
        have hv3:w3.heap[V]?=some (.cells #[.func (.func 17) #[] #[.pointer (some ⟨X,0,none⟩),.pointer (some ⟨V,0,none⟩)]] 45 (0,0)):=(gr3.block V Zq6 (fun e=>own_ne_type VI.out.o VI.out.f Zq4 e.symm)).trans ((Below.heap_alloc _ _ _ Zq6).trans VI.out.f)
        have hs3:w3.heap[wr.heap.size]?=some (.cells #[.int .i64 6,.string (hdT s).word,.slice (some ⟨bq,offq,none⟩) na ca,.int .i64 (hdT s).count,.slice Ab nb cb] 42 (0,0)):=(gr3.block wr.heap.size Zq6 (fun e=>own_ne_type VI.out.o S.out Zq4 e.symm)).trans ((Below.heap_alloc _ _ _ Zq6).trans S.out)
        have hvx:V≠X:=fun e=>by rw[e,hx3] at hv3;injection hv3 with hv3;injection hv3 with _ hv3;exact absurd hv3 Zq4
        have hsx:wr.heap.size≠X:=by omega
        obtain ⟨w4,hw4⟩:∃ w4,w4=w3.setCell ⟨X,0,none⟩ (.slice A3 (O.length+1) c3):=⟨_,rfl⟩
        have VI4:Hid (Vis w4 base X V Y (.slice A3 (O.length+1) c3)):=by
         rw[hw4,HYO.out]
         exact ⟨heap_set_self hx3 _,heap_set_far hv3 hvx _,by unfold OutS;rw[List.length_append,strs_snoc];exact own_setfar own3 (own_ne_type own3 hx3 Zq4) _⟩
        have hs4:w4.heap[wr.heap.size]?=some (.cells #[.int .i64 6,.string (hdT s).word,.slice (some ⟨bq,offq,none⟩) na ca,.int .i64 (hdT s).count,.slice Ab nb cb] 42 (0,0)):=by rw[hw4];exact heap_set_far hs3 hsx _
        have BY:Hid (Below base w w4):=by rw[hw4];exact(((below_drewN BA.out _).alloc hbw _).grown gr3 Zq6 (own_ge VI.out.o)).setCell hX _
        have r4:=cell_at (j:=4) (u:=.slice Ab nb cb) hs4 rfl
        have rv:=cell_at (j:=0) VI4.out.f rfl
        have hl4:=lt_of_block hs4
        have W4:=hD hw4
        clear hxA hxa gr3 own3 hx3 px3 fx3 hlx3 hv3 hs3 hvx hsx hw4 hs4 p0 p1 p2 p3 p4 px pv q1
        rw[←W4.out]
        go_wp2_with fail
    
        refine(IH.out lo base X V _ _ _ (bdT s) _ Y w0 _ HBD.out h0 (by have:=BY.out.size;omega) (HB0.out.trans BY.out) hX hV VI4.out hsz').mono ?_
        rintro e wz ⟨vz,rfl,oz,bz,sz⟩
        have OZ:=hD oz
        have BZ:=hD (BY.out.trans bz)
        clear oz bz
        go_wp2_with fail
        go_roundw
        case rel=>exact ⟨t+1,vz,by omega,by go_num,by rw[HSTEP.out];exact OZ.out,BZ.out⟩
        case measure=>simp [intOf];omega
      ·have HYO:Hid (Y=O):=by rw[HY.out,bits1_f (newB_h (by rw[←HAE.out];exact hh))];exact rfl
       go_quiet ((go_at_call 18;exact Calls.quiet_of_same ((hasWord_any _ _ _ O a _ (RO.out.drewN _) rfl Zq1).mono fun _ _ h=>⟨h.1,h.2.symm⟩)))
       go_wp2_with fail
       refine(IH.out lo base X V _ _ _ (bdT s) _ Y w0 _ HBD.out h0 (by show base≤wa.heap.size;have:=BA.out.size;omega) (HB0.out.trans (below_drewN BA.out _)) hX hV (by rw[HYO.out];exact VI.out.below (below_drewN (Below.refl _ _) _)) hsz').mono ?_
       rintro e wz ⟨vz,rfl,oz,bz,sz⟩
       have OZ:=hD oz
       have BZ:=hD ((below_drewN BA.out _).trans bz)
       clear oz bz
       go_wp2_with fail
       go_roundw
       case rel=>exact ⟨t+1,vz,by omega,by go_num,by rw[HSTEP.out];exact OZ.out,BZ.out⟩
       case measure=>simp [intOf];omega
     ·have HYO:Hid (Y=O):=by rw[HY.out,bits1_f (newB_l (by rw[←HNA.out];exact h1))];exact rfl
      have hi1:decide ((1:Int)<(na:Int))=false:=by simp;omega
      have hi2:decide (1<na)=false:=by simp;omega
      clear h1
      go_quiet (fail)
      go_wp2_with fail
      refine(IH.out lo base X V _ _ _ (bdT s) _ Y w0 _ HBD.out h0 (by show base≤wa.heap.size;have:=BA.out.size;omega) (HB0.out.trans (below_drewN BA.out _)) hX hV (by rw[HYO.out];exact VI.out.below (below_drewN (Below.refl _ _) _)) hsz').mono ?_
      rintro e wz ⟨vz,rfl,oz,bz,sz⟩
      have OZ:=hD oz
      have BZ:=hD ((below_drewN BA.out _).trans bz)
      clear oz bz
      go_wp2_with fail
      go_roundw
      case rel=>exact ⟨t+1,vz,by omega,by go_num,by rw[HSTEP.out];exact OZ.out,BZ.out⟩
      case measure=>simp [intOf];omega
    ·have HYO:Hid (Y=O):=by rw[HY.out,bits1_f (newB_k (by rw[←HK.out];exact hk))];exact rfl
     have ek:(k==6)=false:=beq_eq_false_iff_ne.2 hk
     clear hk
     go_quiet (fail)
     go_wp2_with fail
     refine(IH.out lo base X V _ _ _ (bdT s) _ Y w0 _ HBD.out h0 (by show base≤wa.heap.size;have:=BA.out.size;omega) (HB0.out.trans (below_drewN BA.out _)) hX hV (by rw[HYO.out];exact VI.out.below (below_drewN (Below.refl _ _) _)) hsz').mono ?_
     rintro e wz ⟨vz,rfl,oz,bz,sz⟩
     have OZ:=hD oz
     have BZ:=hD ((below_drewN BA.out _).trans bz)
     clear oz bz
     go_wp2_with fail
     go_roundw
     case rel=>exact ⟨t+1,vz,by omega,by go_num,by rw[HSTEP.out];exact OZ.out,BZ.out⟩
     case measure=>simp [intOf];omega
   ·obtain rfl:t=n:=by omega
    have HF:Hid (bitsT (d+1) (l.take t) out=bitsT (d+1) l out):=by rw[List.take_of_length_le (by rw[HL.out];exact Nat.le_refl _)];exact rfl
    have HO:=hD hO
    clear hO
    go_wp2_with fail
    go_end0
    exact ⟨_,rfl,by rw[←HF.out];exact HO.out,hb,hbz⟩
theorem MeasuredBits_impl (d lo:Nat) (Aq:Option Addr) (m cq:Nat) (l:List (Tr d)) (Ab:Option Addr) (nb cb:Nat) (w:World) (hrb:RdT w lo d Ab nb l) (hsz:szT d l≤1048576) :
  Calls Try.prog 6 #[.agg #[.slice Aq m cq,.slice Ab nb cb]] w (RetStrs w (bitsT d l [])):=by
 have hmf:∀ (fn:Fn) (first cap:Array Value) (w:World),(Instr.makeFunc fn first cap).run Try.prog w=.ok (.func fn first cap) w:=fun _ _ _ _=>rfl
 obtain ⟨w3,hw3⟩:∃ w3,w3=(((w.alloc (.cells #[.slice Aq m cq,.slice Ab nb cb] 27)).alloc (.cells #[] 9)).alloc (.cells #[.slice (some ⟨w.heap.size+1,0,none⟩) 0 0] 24)).alloc (.cells #[.func (.func 17) #[] #[.pointer (some ⟨w.heap.size+1+1,0,none⟩),.pointer (some ⟨w.heap.size+1+1+1,0,none⟩)]] 45):=⟨_,rfl⟩
 have b3:Below w.heap.size w w3:=by rw[hw3];exact Zq0
 have hv:Vis w3 w.heap.size (w.heap.size+1+1) (w.heap.size+1+1+1) [] (.slice (some ⟨w.heap.size+1,0,none⟩) 0 0):=by
  rw[hw3]
  refine ⟨?_,?_,?_⟩
  ·have h:=heap_alloc_new ((w.alloc (.cells #[.slice Aq m cq,.slice Ab nb cb] 27)).alloc (.cells #[] 9)) (.cells #[.slice (some ⟨w.heap.size+1,0,none⟩) 0 0] 24)
   refine(Below.heap_alloc _ _ _ Zq5).trans ?_
   simpa using h
  ·have h:=heap_alloc_new (((w.alloc (.cells #[.slice Aq m cq,.slice Ab nb cb] 27)).alloc (.cells #[] 9)).alloc (.cells #[.slice (some ⟨w.heap.size+1,0,none⟩) 0 0] 24)) (.cells #[.func (.func 17) #[] #[.pointer (some ⟨w.heap.size+1+1,0,none⟩),.pointer (some ⟨w.heap.size+1+1+1,0,none⟩)]] 45)
   simpa using h
  ·have h:=own_lowB (own_empty (w.alloc (.cells #[.slice Aq m cq,.slice Ab nb cb] 27)) 9 1) (B':=w.heap.size) Zq5
   have h':OutS ((w.alloc (.cells #[.slice Aq m cq,.slice Ab nb cb] 27)).alloc (.cells #[] 9)) w.heap.size (.slice (some ⟨w.heap.size+1,0,none⟩) 0 0) []:=by unfold OutS;simpa [strs] using h
   exact(World.ownsRow.alloc (World.ownsRow.alloc h' _) _)
 have hs3:=b3.size
 have HV:=hD hv
 have H:=hD hrb
 have B3:=hD b3
 have W3:=hD hw3
 clear hv hrb b3 hw3
 go_enter Try.func6,Try.ntmps6
 go_wp2_with fail
 rw[←W3.out]
 refine(visit_any d lo w.heap.size _ _ _ _ _ l _ [] w _ H.out (Nat.le_refl _) hs3 B3.out Zq1 Zq1 HV.out (by simpa using hsz)).mono ?_
 rintro e w4 ⟨v4,rfl,vi,b4,s4⟩
 have px:=cell_at (j:=0) (u:=v4) vi.x rfl
 have O4:=hD vi.o
 have B4:=hD (B3.out.trans b4)
 clear vi b4
 go_wp2_with fail
 go_ret
 exact ⟨_,rfl,O4.out,B4.out,by omega⟩
def ExpSaid_impl (d:Nat):Prop:=∀ (lo:Nat) (A:Option Addr) (n c:Nat) (l:List (Tr d)) (w:World),RdT w lo d A n l→szT d l≤1048576 →
 Calls Try.prog 8 #[.slice A n c] w fun e w'=>e=.returned (.int .i64 (expT d l))∧Below w.heap.size w w'∧w.heap.size≤w'.heap.size
theorem ExpandedGateCount_impl:∀ (d:Nat),ExpSaid_impl d:=by
 intro d
 induction d with
 | zero =>
  intro lo A n c l w h _
  obtain rfl:=szT_zero_len h
  go_enter Try.func8,Try.ntmps8
  go_wp2
  refine wp_loop_rounds 1 ?_
  rw[rounds_succ]
  go_wp2
  go_ret
  exact ⟨rfl,Below.refl _ _,Nat.le_refl _⟩
 | succ d ih =>
  intro lo A n c l w h hsz
  have hln:=h.len
  have hn:n≤1048576:=by rw[szT_succ] at hsz;omega
  have HQ:=hD hsz
  have HL:=hD hln
  have H:=hD h
  clear h hln hsz
  go_enter Try.func8,Try.ntmps8
  go_wp2
  go_loopw [3,9] (fun m i wr=>∃ t:Nat,t≤n∧i=.int .i64 t∧m=.int .i64 (expT (d+1) (l.take t))∧Below w.heap.size w wr) (fun _ i _=>n - (intOf i).toNat)
  case atStart=>exact ⟨0,Nat.zero_le _,rfl,rfl,Below.refl _ _⟩
  case round =>
   obtain ⟨t,ht,rfl,rfl,hb⟩:=hrel
   have hN:expT (d+1) (l.take t)≤1000000:=expT_le _ _
   obtain ⟨N,hNN⟩:∃ N,N=expT (d+1) (l.take t):=⟨_,rfl⟩
   rw[←hNN] at hN ⊢
   have HN:=hD hNN
   clear hNN
   have hbs:=hb.size
   by_cases hlt:t<n
   ·obtain ⟨b,off,s,Aa,ca,Ab,nb,cb,rfl,hbl,hs,hcs,hra,hrb⟩:=(H.out.below hb).at_ hlt
    obtain ⟨q0,q1,q2,q3,q4⟩:=hcs
    have hme:=szT_mem hs
    have hz2:szT d (bdT s)≤1048576:=by have:=HQ.out;rw[szT_succ] at this;unfold szE at hme;omega
    have hnb:=expT_le d (bdT s)
    have HT:=hD (exp_take l t s hs)
    have HB:=hD (hrb.below (w':=wr.alloc (.cells #[.int .i64 (hdT s).k,.string (hdT s).word,.slice Aa (hdT s).args.length ca,.int .i64 (hdT s).count,.slice Ab nb cb] 42)) Zq0)
    clear hs hra hrb hme
    obtain ⟨M,hM⟩:∃ M,M=expT d (bdT s):=⟨_,rfl⟩
    rw[←hM] at hnb
    have HM:=hD hM
    have IH:Hid (∀ W:World,RdT W lo d Ab nb (bdT s)→Calls Try.prog 8 #[.slice Ab nb cb] W fun e w'=>e=.returned (.int .i64 (M:Int))∧Below W.heap.size W w'∧W.heap.size≤w'.heap.size):=hD (fun W h=>by rw[hM];exact ih lo _ _ _ (bdT s) W h hz2)
    clear hM ih
    obtain ⟨ct,hct⟩:∃ ct,ct=(hdT s).count:=⟨_,rfl⟩
    rw[←hct] at q3 HB
    have HCT:=hD hct
    clear hct
    by_cases h1:(hdT s).k=1
    ·have hk:=h1
     rw[hk] at HB q0
     have HT2:Hid (expT (d+1) (l.take (t+1))=min 1000000 (N+1)):=by
      have h:=HT.out
      rw[←HN.out,←HM.out,←HCT.out,expE_1 hk] at h
      exact h
     go_wp2_with fail
     go_roundw
     case rel=>exact ⟨t+1,by omega,by go_num,by rw[HT2.out];congr 1;(first|omega|(split <;> omega)),(hb.alloc hb.size _)⟩
     case measure=>simp [intOf];omega
    have e1:((hdT s).k==1)=false:=beq_eq_false_iff_ne.2 h1
    by_cases h6:(hdT s).k=6
    ·have hk:=h6
     rw[hk] at HB q0
     have HT2:Hid (expT (d+1) (l.take (t+1))=min 1000000 (N+0)):=by
      have h:=HT.out
      rw[←HN.out,←HM.out,←HCT.out,expE_6 hk] at h
      exact h
     go_wp2_with fail
     go_roundw
     case rel=>exact ⟨t+1,by omega,by go_num,by rw[HT2.out];congr 1;(first|omega|(split <;> omega)),(hb.alloc hb.size _)⟩
     case measure=>simp [intOf];omega
    have e6:((hdT s).k==6)=false:=beq_eq_false_iff_ne.2 h6
    by_cases h2:(hdT s).k=2
    ·have hk:=h2
     rw[hk] at HB q0
     clear e1 e6
     by_cases hc:ct<0
     ·have HT2:Hid (expT (d+1) (l.take (t+1))=min 1000000 (N+0)):=by
       have h:=HT.out
       rw[←HN.out,←HM.out,←HCT.out,expE_2n hk hc] at h
       exact h
      go_wp2_with fail
      obtain ⟨w0,hw0⟩:∃ w0,w0=wr.alloc (.cells #[.int .i64 2,.string (hdT s).word,.slice Aa (hdT s).args.length ca,.int .i64 ct,.slice Ab nb cb] 42):=⟨_,rfl⟩
      rw[←hw0] at HB ⊢
      have b0:Below wr.heap.size wr w0:=by rw[hw0];exact Zq0
      have s0:wr.heap.size+1=w0.heap.size:=by rw[hw0];simp
      have X:=hD (show w0.heap[wr.heap.size]?=some (.cells #[.int .i64 2,.string (hdT s).word,.slice Aa (hdT s).args.length ca,.int .i64 ct,.slice Ab nb cb] 42 (0,0)) by rw[hw0];exact boxed1_0 _ _)
      clear hw0 q0 q1 q2 q3 q4
      obtain ⟨_,_,_,m3,m4⟩:=boxcells5 (lay:=Below.refl _ _) X.out
      go_region_held3 (fun W=>W.cell? ⟨wr.heap.size,3,none⟩=some (.int .i64 ct)∧W.cell? ⟨wr.heap.size,4,none⟩=some (.slice Ab nb cb)) (first|exact ⟨m3,m4⟩|exact ⟨n3,n4⟩) (first|(go_at_call 8;(with_reducible refine(IH.out _ HB.out.drew).mono ?_);rintro e w1 ⟨rfl,b1d,s1d⟩;have b1:=below_undrew b1d;have s1:=b1.size;obtain ⟨_,_,_,n3,n4⟩:=boxcells5 (lay:=b1) X.out))
      all_goals
       go_wp2_with fail
       go_roundw
       case rel=>exact ⟨t+1,by omega,by go_num,by rw[HT2.out];congr 1;(first|omega|(split <;> omega)),((hb.trans (b0.mono hb.size)).trans (b1.mono Zq1))⟩
       case measure=>simp [intOf];omega
     by_cases hc2:ct≤1000000
     ·obtain ⟨C,hcc⟩:∃ C:Nat,ct=C:=⟨ct.toNat,by omega⟩
      have hC:C≤1000000:=by omega
      subst hcc
      have hMI:=mul_small hnb hC
      have hM0:=mul_zero_le M C
      have HT2:Hid (expT (d+1) (l.take (t+1))=min 1000000 (N+M*C)):=by
       have h:=HT.out
       rw[←HN.out,←HM.out,←HCT.out,expE_2m hk rfl hC] at h
       exact h
      go_wp2_with fail
      obtain ⟨w0,hw0⟩:∃ w0,w0=wr.alloc (.cells #[.int .i64 2,.string (hdT s).word,.slice Aa (hdT s).args.length ca,.int .i64 (C:Int),.slice Ab nb cb] 42):=⟨_,rfl⟩
      rw[←hw0] at HB ⊢
      have b0:Below wr.heap.size wr w0:=by rw[hw0];exact Zq0
      have s0:wr.heap.size+1=w0.heap.size:=by rw[hw0];simp
      have X:=hD (show w0.heap[wr.heap.size]?=some (.cells #[.int .i64 2,.string (hdT s).word,.slice Aa (hdT s).args.length ca,.int .i64 (C:Int),.slice Ab nb cb] 42 (0,0)) by rw[hw0];exact boxed1_0 _ _)
      clear hw0 q0 q1 q2 q3 q4
      obtain ⟨_,_,_,m3,m4⟩:=boxcells5 (lay:=Below.refl _ _) X.out
      go_region_held3 (fun W=>W.cell? ⟨wr.heap.size,3,none⟩=some (.int .i64 (C:Int))∧W.cell? ⟨wr.heap.size,4,none⟩=some (.slice Ab nb cb)) (first|exact ⟨m3,m4⟩|exact ⟨n3,n4⟩) (first|(go_at_call 8;(with_reducible refine(IH.out _ HB.out.drew).mono ?_);rintro e w1 ⟨rfl,b1d,s1d⟩;have b1:=below_undrew b1d;have s1:=b1.size;obtain ⟨_,_,_,n3,n4⟩:=boxcells5 (lay:=b1) X.out))
      all_goals
       go_wp2_with fail
       go_roundw
       case rel=>exact ⟨t+1,by omega,by go_num,by rw[HT2.out];congr 1;(first|omega|(split <;> omega)),((hb.trans (b0.mono hb.size)).trans (b1.mono Zq1))⟩
       case measure=>simp [intOf];omega
     have hc:=Int.not_le.1 hc2
     have HT2:Hid (expT (d+1) (l.take (t+1))=min 1000000 (N+M*1000000)):=by
      have h:=HT.out
      rw[←HN.out,←HM.out,←HCT.out,expE_2b hk hc] at h
      exact h
     go_wp2_with fail
     obtain ⟨w0,hw0⟩:∃ w0,w0=wr.alloc (.cells #[.int .i64 2,.string (hdT s).word,.slice Aa (hdT s).args.length ca,.int .i64 ct,.slice Ab nb cb] 42):=⟨_,rfl⟩
     rw[←hw0] at HB ⊢
     have b0:Below wr.heap.size wr w0:=by rw[hw0];exact Zq0
     have s0:wr.heap.size+1=w0.heap.size:=by rw[hw0];simp
     have X:=hD (show w0.heap[wr.heap.size]?=some (.cells #[.int .i64 2,.string (hdT s).word,.slice Aa (hdT s).args.length ca,.int .i64 ct,.slice Ab nb cb] 42 (0,0)) by rw[hw0];exact boxed1_0 _ _)
     clear hw0 q0 q1 q2 q3 q4
     obtain ⟨_,_,_,m3,m4⟩:=boxcells5 (lay:=Below.refl _ _) X.out
     go_region_held3 (fun W=>W.cell? ⟨wr.heap.size,3,none⟩=some (.int .i64 ct)∧W.cell? ⟨wr.heap.size,4,none⟩=some (.slice Ab nb cb)) (first|exact ⟨m3,m4⟩|exact ⟨n3,n4⟩) (first|(go_at_call 8;(with_reducible refine(IH.out _ HB.out.drew).mono ?_);rintro e w1 ⟨rfl,b1d,s1d⟩;have b1:=below_undrew b1d;have s1:=b1.size;obtain ⟨_,_,_,n3,n4⟩:=boxcells5 (lay:=b1) X.out))
     all_goals
      go_wp2_with fail
      go_roundw
      case rel=>exact ⟨t+1,by omega,by go_num,by rw[HT2.out];congr 1;(first|omega|(split <;> omega)),((hb.trans (b0.mono hb.size)).trans (b1.mono Zq1))⟩
      case measure=>simp [intOf];omega
    have e2:((hdT s).k==2)=false:=beq_eq_false_iff_ne.2 h2
    by_cases h4:(hdT s).k=4
    ·have hk:=h4
     rw[hk] at HB q0
     clear e1 e6 e2
     have HT2:Hid (expT (d+1) (l.take (t+1))=min 1000000 (N+7*M)):=by
      have h:=HT.out
      rw[←HN.out,←HM.out,←HCT.out,expE_4 hk] at h
      exact h
     go_wp2_with (go_at_call 8;refine(IH.out _ HB.out).mono ?_;rintro e w1 ⟨rfl,b1,s1⟩)
     go_roundw
     case rel=>exact ⟨t+1,by omega,by go_num,by rw[HT2.out];congr 1;(first|omega|(split <;> omega)),(hb.alloc hb.size _).trans (b1.mono Zq6)⟩
     case measure=>simp [intOf];omega
    have e4:((hdT s).k==4)=false:=beq_eq_false_iff_ne.2 h4
    have HT2:Hid (expT (d+1) (l.take (t+1))=min 1000000 (N+M)):=by
     have h:=HT.out
     rw[←HN.out,←HM.out,←HCT.out,expE_x h1 h6 h2 h4] at h
     exact h
    go_wp2_with (go_at_call 8;refine(IH.out _ HB.out).mono ?_;rintro e w1 ⟨rfl,b1,s1⟩)
    go_roundw
    case rel=>exact ⟨t+1,by omega,by go_num,by rw[HT2.out];congr 1;(first|omega|(split <;> omega)),(hb.alloc hb.size _).trans (b1.mono Zq6)⟩
    case measure=>simp [intOf];omega
   ·obtain rfl:t=n:=by omega
    have HF:Hid (N=expT (d+1) l):=by
     have h:=HN.out
     rw[List.take_of_length_le (by rw[HL.out];exact Nat.le_refl _)] at h
     exact h
    go_wp2
    go_ret
    exact ⟨by rw[←HF.out];rfl,hb,hb.size⟩
def ExpSaid_spec (d:Nat):Prop:=∀ (lo:Nat) (A:Option Addr) (n c:Nat) (l:List (Tr d)) (w:World),RdT w lo d A n l→szT d l≤1048576 →
 Calls Try.prog 9 #[.slice A n c] w fun e w'=>e=.returned (.int .i64 (expT d l))∧Below w.heap.size w w'∧w.heap.size≤w'.heap.size
theorem ExpandedGateCount_spec:∀ (d:Nat),ExpSaid_spec d:=by
 intro d
 induction d with
 | zero =>
  intro lo A n c l w h _
  obtain rfl:=szT_zero_len h
  go_enter Try.func9,Try.ntmps9
  go_wp2
  refine wp_loop_rounds 1 ?_
  rw[rounds_succ]
  go_wp2
  go_ret
  exact ⟨rfl,Below.refl _ _,Nat.le_refl _⟩
 | succ d ih =>
  intro lo A n c l w h hsz
  have hln:=h.len
  have hn:n≤1048576:=by rw[szT_succ] at hsz;omega
  have HQ:=hD hsz
  have HL:=hD hln
  have H:=hD h
  clear h hln hsz
  go_enter Try.func9,Try.ntmps9
  go_wp2
  go_loopw [3,4] (fun m i wr=>∃ t:Nat,t≤n∧i=.int .i64 t∧m=.int .i64 (expT (d+1) (l.take t))∧Below w.heap.size w wr) (fun _ i _=>n - (intOf i).toNat)
  case atStart=>exact ⟨0,Nat.zero_le _,rfl,rfl,Below.refl _ _⟩
  case round =>
   obtain ⟨t,ht,rfl,rfl,hb⟩:=hrel
   have hN:expT (d+1) (l.take t)≤1000000:=expT_le _ _
   obtain ⟨N,hNN⟩:∃ N,N=expT (d+1) (l.take t):=⟨_,rfl⟩
   rw[←hNN] at hN ⊢
   have HN:=hD hNN
   clear hNN
   have hbs:=hb.size
   by_cases hlt:t<n
   ·obtain ⟨b,off,s,Aa,ca,Ab,nb,cb,rfl,hbl,hs,hcs,hra,hrb⟩:=(H.out.below hb).at_ hlt
    obtain ⟨q0,q1,q2,q3,q4⟩:=hcs
    have hme:=szT_mem hs
    have hz2:szT d (bdT s)≤1048576:=by have:=HQ.out;rw[szT_succ] at this;unfold szE at hme;omega
    have hnb:=expT_le d (bdT s)
    have HT:=hD (exp_take l t s hs)
    have HB:=hD hrb
    clear hs hra hrb hme
    obtain ⟨M,hM⟩:∃ M,M=expT d (bdT s):=⟨_,rfl⟩
    rw[←hM] at hnb
    have HM:=hD hM
    have IH:Hid (∀ W:World,RdT W lo d Ab nb (bdT s)→Calls Try.prog 9 #[.slice Ab nb cb] W fun e w'=>e=.returned (.int .i64 (M:Int))∧Below W.heap.size W w'∧W.heap.size≤w'.heap.size):=hD (fun W h=>by rw[hM];exact ih lo _ _ _ (bdT s) W h hz2)
    clear hM ih
    obtain ⟨ct,hct⟩:∃ ct,ct=(hdT s).count:=⟨_,rfl⟩
    rw[←hct] at q3
    have HCT:=hD hct
    clear hct
    by_cases h1:(hdT s).k=1
    ·have hk:=h1
     rw[hk] at q0
     have HT2:Hid (expT (d+1) (l.take (t+1))=min 1000000 (N+1)):=by
      have h:=HT.out
      rw[←HN.out,←HM.out,←HCT.out,expE_1 hk] at h
      exact h
     go_wp2_with fail
     refine(IH.out _ HB.out).mono ?_
     rintro e w1 ⟨rfl,b1,s1⟩
     have r0:=(b1.cell (p:=⟨b,off+t*5,none⟩) hbl).trans q0
     have r3:=(b1.cell (p:=⟨b,off+t*5+3,none⟩) hbl).trans q3
     clear q0 q1 q2 q3 q4
     go_wp2_with fail
     refine(l1Min_any _ _ _).mono ?_
     rintro e w' ⟨rfl,rfl⟩
     go_wp2_with fail
     go_roundw
     case rel=>exact ⟨t+1,by omega,by go_num,by rw[HT2.out];exact congrArg (Value.int .i64) (imin_min (by first|omega|(rw[Int.natCast_add,Int.natCast_mul])|simp)),(hb.trans (b1.mono hb.size))⟩
     case measure=>simp [intOf];omega
    have e1:((hdT s).k==1)=false:=beq_eq_false_iff_ne.2 h1
    by_cases h6:(hdT s).k=6
    ·have hk:=h6
     rw[hk] at q0
     have HT2:Hid (expT (d+1) (l.take (t+1))=min 1000000 (N+0)):=by
      have h:=HT.out
      rw[←HN.out,←HM.out,←HCT.out,expE_6 hk] at h
      exact h
     go_wp2_with fail
     refine(IH.out _ HB.out).mono ?_
     rintro e w1 ⟨rfl,b1,s1⟩
     have r0:=(b1.cell (p:=⟨b,off+t*5,none⟩) hbl).trans q0
     have r3:=(b1.cell (p:=⟨b,off+t*5+3,none⟩) hbl).trans q3
     clear q0 q1 q2 q3 q4
     go_wp2_with fail
     refine(l1Min_any _ _ _).mono ?_
     rintro e w' ⟨rfl,rfl⟩
     go_wp2_with fail
     go_roundw
     case rel=>exact ⟨t+1,by omega,by go_num,by rw[HT2.out];exact congrArg (Value.int .i64) (imin_min (by first|omega|(rw[Int.natCast_add,Int.natCast_mul])|simp)),(hb.trans (b1.mono hb.size))⟩
     case measure=>simp [intOf];omega
    have e6:((hdT s).k==6)=false:=beq_eq_false_iff_ne.2 h6
    by_cases h2:(hdT s).k=2
    ·have hk:=h2
     rw[hk] at q0
     clear e1 e6
     by_cases hc:ct<0
     ·have HC:Hid (imax 0 (imin ct 1000000)=0):=hD (by unfold imax imin;(first|omega|(split <;> (first|omega|(split <;> omega)))))
      have HT2:Hid (expT (d+1) (l.take (t+1))=min 1000000 (N+0)):=by
       have h:=HT.out
       rw[←HN.out,←HM.out,←HCT.out,expE_2n hk hc] at h
       exact h
      go_wp2_with fail
      refine(IH.out _ HB.out).mono ?_
      rintro e w1 ⟨rfl,b1,s1⟩
      have r0:=(b1.cell (p:=⟨b,off+t*5,none⟩) hbl).trans q0
      have r3:=(b1.cell (p:=⟨b,off+t*5+3,none⟩) hbl).trans q3
      clear q0 q1 q2 q3 q4
      go_wp2_with fail
      refine(l1Min_any _ _ _).mono ?_
      rintro e w' ⟨rfl,rfl⟩
      go_wp2_with fail
      refine(l1Max_any _ _ _).mono ?_
      rintro e w' ⟨rfl,rfl⟩
      rw[HC.out]
      go_wp2_with fail
      refine(l1Min_any _ _ _).mono ?_
      rintro e w' ⟨rfl,rfl⟩
      go_wp2_with fail
      go_roundw
      case rel=>exact ⟨t+1,by omega,by go_num,by rw[HT2.out];exact congrArg (Value.int .i64) (imin_min (by first|omega|(rw[Int.natCast_add,Int.natCast_mul])|simp)),(hb.trans (b1.mono hb.size))⟩
      case measure=>simp [intOf];omega
     by_cases hc2:ct≤1000000
     ·obtain ⟨C,hcc⟩:∃ C:Nat,ct=C:=⟨ct.toNat,by omega⟩
      have hC:C≤1000000:=by omega
      subst hcc
      have hMI:=mul_small hnb hC
      have hM0:=mul_zero_le M C
      have HC:Hid (imax 0 (imin (C:Int) 1000000)=(C:Int)):=hD (by unfold imax imin;(first|omega|(split <;> (first|omega|(split <;> omega)))))
      have HT2:Hid (expT (d+1) (l.take (t+1))=min 1000000 (N+M*C)):=by
       have h:=HT.out
       rw[←HN.out,←HM.out,←HCT.out,expE_2m hk rfl hC] at h
       exact h
      go_wp2_with fail
      refine(IH.out _ HB.out).mono ?_
      rintro e w1 ⟨rfl,b1,s1⟩
      have r0:=(b1.cell (p:=⟨b,off+t*5,none⟩) hbl).trans q0
      have r3:=(b1.cell (p:=⟨b,off+t*5+3,none⟩) hbl).trans q3
      clear q0 q1 q2 q3 q4
      go_wp2_with fail
      refine(l1Min_any _ _ _).mono ?_
      rintro e w' ⟨rfl,rfl⟩
      go_wp2_with fail
      refine(l1Max_any _ _ _).mono ?_
      rintro e w' ⟨rfl,rfl⟩
      rw[HC.out]
      go_wp2_with fail
      refine(l1Min_any _ _ _).mono ?_
      rintro e w' ⟨rfl,rfl⟩
      go_wp2_with fail
      go_roundw
      case rel=>exact ⟨t+1,by omega,by go_num,by rw[HT2.out];exact congrArg (Value.int .i64) (imin_min (by first|omega|(rw[Int.natCast_add,Int.natCast_mul])|simp)),(hb.trans (b1.mono hb.size))⟩
      case measure=>simp [intOf];omega
     have hc:=Int.not_le.1 hc2
     have HC:Hid (imax 0 (imin ct 1000000)=1000000):=hD (by unfold imax imin;(first|omega|(split <;> (first|omega|(split <;> omega)))))
     have HT2:Hid (expT (d+1) (l.take (t+1))=min 1000000 (N+M*1000000)):=by
      have h:=HT.out
      rw[←HN.out,←HM.out,←HCT.out,expE_2b hk hc] at h
      exact h
     go_wp2_with fail
     refine(IH.out _ HB.out).mono ?_
     rintro e w1 ⟨rfl,b1,s1⟩
     have r0:=(b1.cell (p:=⟨b,off+t*5,none⟩) hbl).trans q0
     have r3:=(b1.cell (p:=⟨b,off+t*5+3,none⟩) hbl).trans q3
     clear q0 q1 q2 q3 q4
     go_wp2_with fail
     refine(l1Min_any _ _ _).mono ?_
     rintro e w' ⟨rfl,rfl⟩
     go_wp2_with fail
     refine(l1Max_any _ _ _).mono ?_
     rintro e w' ⟨rfl,rfl⟩
     rw[HC.out]
     go_wp2_with fail
     refine(l1Min_any _ _ _).mono ?_
     rintro e w' ⟨rfl,rfl⟩
     go_wp2_with fail
     go_roundw
     case rel=>exact ⟨t+1,by omega,by go_num,by rw[HT2.out];exact congrArg (Value.int .i64) (imin_min (by first|omega|(rw[Int.natCast_add,Int.natCast_mul])|simp)),(hb.trans (b1.mono hb.size))⟩
     case measure=>simp [intOf];omega
    have e2:((hdT s).k==2)=false:=beq_eq_false_iff_ne.2 h2
    by_cases h4:(hdT s).k=4
    ·have hk:=h4
     rw[hk] at q0
     clear e1 e6 e2
     have HT2:Hid (expT (d+1) (l.take (t+1))=min 1000000 (N+7*M)):=by
      have h:=HT.out
      rw[←HN.out,←HM.out,←HCT.out,expE_4 hk] at h
      exact h
     go_wp2_with fail
     refine(IH.out _ HB.out).mono ?_
     rintro e w1 ⟨rfl,b1,s1⟩
     have r0:=(b1.cell (p:=⟨b,off+t*5,none⟩) hbl).trans q0
     have r3:=(b1.cell (p:=⟨b,off+t*5+3,none⟩) hbl).trans q3
     clear q0 q1 q2 q3 q4
     go_wp2_with fail
     refine(l1Min_any _ _ _).mono ?_
     rintro e w' ⟨rfl,rfl⟩
     go_wp2_with fail
     go_roundw
     case rel=>exact ⟨t+1,by omega,by go_num,by rw[HT2.out];exact congrArg (Value.int .i64) (imin_min (by first|omega|(rw[Int.natCast_add,Int.natCast_mul])|simp)),(hb.trans (b1.mono hb.size))⟩
     case measure=>simp [intOf];omega
    have e4:((hdT s).k==4)=false:=beq_eq_false_iff_ne.2 h4
    have HT2:Hid (expT (d+1) (l.take (t+1))=min 1000000 (N+M)):=by
     have h:=HT.out
     rw[←HN.out,←HM.out,←HCT.out,expE_x h1 h6 h2 h4] at h
     exact h
    go_wp2_with fail
    refine(IH.out _ HB.out).mono ?_
    rintro e w1 ⟨rfl,b1,s1⟩
    have r0:=(b1.cell (p:=⟨b,off+t*5,none⟩) hbl).trans q0
    have r3:=(b1.cell (p:=⟨b,off+t*5+3,none⟩) hbl).trans q3
    clear q0 q1 q2 q3 q4
    go_wp2_with fail
    refine(l1Min_any _ _ _).mono ?_
    rintro e w' ⟨rfl,rfl⟩
    go_wp2_with fail
    go_roundw
    case rel=>exact ⟨t+1,by omega,by go_num,by rw[HT2.out];exact congrArg (Value.int .i64) (imin_min (by first|omega|(rw[Int.natCast_add,Int.natCast_mul])|simp)),(hb.trans (b1.mono hb.size))⟩
    case measure=>simp [intOf];omega
   ·obtain rfl:t=n:=by omega
    have HF:Hid (N=expT (d+1) l):=by
     have h:=HN.out
     rw[List.take_of_length_le (by rw[HL.out];exact Nat.le_refl _)] at h
     exact h
    go_wp2
    go_ret
    exact ⟨by rw[←HF.out];rfl,hb,hb.size⟩
end Go.Proofs.Ythkbckkghnbonaa
namespace Go.Proofs.Ythkbckkghnbonaa
open Go.ChangeShapes Go.WideShapes Go.RowKit Go.Deep
theorem cells_byte:Try.prog.cellsOf 5=1:=by kernel_rfl
theorem trod_byte {H:Type} {enc:TypeId × Value→H} {w:World} {base:Nat} {spare:Nat→Bool} {held:Bool} (n:Nat) (cs:List Value) (y:DataW H × List MemPlace) (h:DataW.trod enc Try.prog w base spare held n 5 cs=some y):∃ g:Fin 256,cs=bcell g:=by
 obtain ⟨a,e,h1,h2⟩:=DataW.trod_int Try.underlying5 h
 simp [Lit.wf,IntKind.min,IntKind.max,IntKind.signed,IntKind.bits] at h2
 exact ⟨⟨a.toNat,by omega⟩,by rw[e];simp [bcell];omega⟩
end Go.Proofs.Ythkbckkghnbonaa
namespace Go.Proofs.Ythkbckkghnbonaa
open Go.RowKit
theorem big_law (A:Option Addr) (n c:Nat) (w:World) (hn:n≤9223372036854775807):Calls Try.prog 4 #[.slice A n c] w fun e w'=>e=.returned (.bool (decide (1048576<n)))∧w=w':=by
 by_cases h:1048576<n
 ·go_enter Try.func4,Try.ntmps4
  go_wp2_with fail
  go_ret
  exact ⟨by simp [h];omega,rfl⟩
 ·go_enter Try.func4,Try.ntmps4
  go_wp2_with fail
  go_ret
  exact ⟨by simp [h];omega,rfl⟩
section
variable {P:Program} {ops:Array Oper} {Q:Exit→Act→World→Prop} {md:Region.Mode}
theorem wpOp_yes {i:Nat} {o:Oper} {a:Act} {w:World} {K:Act→World→Prop} (ho:ops[i]?=some o) (hw:Region.wanted o (yielded ops a.tmps)=true) (h:∀ K':Act→World→Prop,(∀ a w,K a w→K' a w)→wpList P #[] (Exit.then K' Q) [{ o with guard:=none }] a w):wpOp P ops Q i K a w:=by
 have h1:=h K (fun _ _ h=>h)
 have h2:Region.wanted { o with guard:=none } (yielded #[] a.tmps)=true:=rfl
 unfold wpOp
 simp only[ho,hw,if_true]
 unfold wpList at h1
 simp only[h2,if_true] at h1
 cases o
 rcases h1 with h1|⟨h1,h2⟩
 ·exact .inl (upon_then h1)
 ·exact .inr ⟨h1,h2⟩
theorem wpOp_off {i:Nat} {o:Oper} {a:Act} {w:World} {K:Act→World→Prop} (d:Nat) (ho:ops[i]?=some o) (hd:o.dst=some d) (hw:Region.wanted o (yielded ops a.tmps)=false) (h:K ⟨a.tmps.setIfInBounds d undef,a.defers⟩ w):wpOp P ops Q i K a w:=by
 unfold wpOp
 simp only[ho,hw,hd]
 exact h
end
end Go.Proofs.Ythkbckkghnbonaa
