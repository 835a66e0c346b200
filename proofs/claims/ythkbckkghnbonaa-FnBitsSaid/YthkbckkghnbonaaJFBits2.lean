/- What the calls that this law reaches answer, part 2 of 15. -/
import Derived.Test.YthkbckkghnbonaaJFBits1
import Derived.Test.YthkbckkghnbonaaProg
set_option maxRecDepth 100000
set_option maxHeartbeats 16000000
set_option linter.unusedVariables false
namespace Go.Proofs.Ythkbckkghnbonaa
open Go.RowKit
set_option linter.unusedVariables false
def invO (o:Opt):Opt:=if o.k=1 then ⟨o.k,invG o.g,o.q,o.bit,o.cond⟩ else o
def adjO (l:List Opt):List Opt:=(l.map invO).reverse
theorem adj_step (l:List Opt) (s:Nat) (o:Opt) (h:l[s]?=some o):adjO (l.drop s)=adjO (l.drop (s+1))++[invO o]:=by
 have hs:=(List.getElem?_eq_some_iff.1 h).1
 have e:l[s]=o:=(List.getElem?_eq_some_iff.1 h).2
 rw[List.drop_eq_getElem_cons hs,e]
 simp [adjO]
def repO (l:List Opt) (t:Nat):List Opt:=(List.replicate t l).flatten
def reps (k:Int):Nat:=(min k 9).toNat
theorem rep_step (l:List Opt) (t:Nat):repO l (t+1)=repO l t++l:=by
 simp [repO,List.replicate_succ']
theorem rep_len (l:List Opt) (t:Nat):(repO l t).length=t*l.length:=by
 simp [repO]
theorem AdjointOps_spec (A:Option Addr) (n c:Nat) (l:List Opt) (w:World) (h:Rd w 8 A n (l.flatMap ocells)) (hl:l.length=n) (hn:n≤1073741824) :
  Calls Try.prog 48 #[.slice A n c] w (RetRow 60 8 w n ((adjO l).flatMap ocells)):=by
 obtain ⟨i0,hi,hz0,hz1,hz2⟩:=info_parts info_OpE
 have H:=hD h
 have HL:=hD hl
 clear h hl
 go_enter Try.func48,Try.ntmps48
 go_wp2
 go_loopw [3,4] (fun v i wr=>∃ t:Nat,t≤n∧i=.int .i64 ((t:Int) - 1)∧wr.ownsRow w.heap.size 60 8 v (n - t) ((adjO (l.drop t)).flatMap ocells)∧Below w.heap.size w wr) (fun _ i _=>(intOf i+1).toNat)
 case atStart=>exact ⟨n,Nat.le_refl _,rfl,by rw[List.drop_of_length_le (by rw[HL.out];exact Nat.le_refl _),Nat.sub_self];exact own_empty w _ 8,Zq0⟩
 case round =>
  obtain ⟨t,ht,hit,hown,hb⟩:=hrel
  rcases t with _|s
  ·subst hit
   have HF:Hid (adjO (l.drop 0)=adjO l):=by rw[List.drop_zero];exact rfl
   go_wp2
   go_ret
   exact ⟨_,rfl,by rw[HF.out,Nat.sub_zero] at hown;exact hown,hb,hb.size⟩
  ·have hit':=hit.trans (show Value.int .i64 (((s+1:Nat):Int) - 1)=.int .i64 (s:Int) by congr 1;omega)
   subst hit'
   clear hit
   have hsl:s<l.length:=by rw[HL.out];omega
   obtain ⟨o,ho⟩:∃ o,l[s]?=some o:=⟨_,List.getElem?_eq_getElem hsl⟩
   obtain ⟨b,off,rfl,hbl,hc⟩:=H.out.2 Zq1
   have q0:wr.cell? ⟨b,off+s*8,none⟩=some (.int .i64 o.k):=(hb.cell (by exact hbl)).trans (hc (s*8+0) _ (flat_at ocells_len l s o 0 ho Zq4))
   have q1:wr.cell? ⟨b,off+s*8+1,none⟩=some (.int .i64 o.g.k):=(hb.cell (by exact hbl)).trans (hc (s*8+1) _ (flat_at ocells_len l s o 1 ho Zq4))
   have q2:wr.cell? ⟨b,off+s*8+2,none⟩=some (.int .i64 o.g.a):=(hb.cell (by exact hbl)).trans (hc (s*8+2) _ (flat_at ocells_len l s o 2 ho Zq4))
   have q3:wr.cell? ⟨b,off+s*8+3,none⟩=some (.int .i64 o.g.b):=(hb.cell (by exact hbl)).trans (hc (s*8+3) _ (flat_at ocells_len l s o 3 ho Zq4))
   have q4:wr.cell? ⟨b,off+s*8+4,none⟩=some (.int .i64 o.g.c):=(hb.cell (by exact hbl)).trans (hc (s*8+4) _ (flat_at ocells_len l s o 4 ho Zq4))
   have q5:wr.cell? ⟨b,off+s*8+5,none⟩=some (.int .i64 o.q):=(hb.cell (by exact hbl)).trans (hc (s*8+5) _ (flat_at ocells_len l s o 5 ho Zq4))
   have q6:wr.cell? ⟨b,off+s*8+6,none⟩=some (.int .i64 o.bit):=(hb.cell (by exact hbl)).trans (hc (s*8+6) _ (flat_at ocells_len l s o 6 ho Zq4))
   have q7:wr.cell? ⟨b,off+s*8+7,none⟩=some (.int .i64 o.cond):=(hb.cell (by exact hbl)).trans (hc (s*8+7) _ (flat_at ocells_len l s o 7 ho Zq4))
   have HO:=hD ho
   obtain ⟨L,hL⟩:∃ L,L=(adjO (l.drop (s+1))).flatMap ocells:=⟨_,rfl⟩
   rw[←hL] at hown
   have HL2:=hD hL
   clear hc ho hsl hL
   by_cases hk:o.k=1
   ·have hk':(o.k==1)=true:=by simp [hk]
    have HK:=hD (show invO o=⟨o.k,⟨invk o.g.k,o.g.a,o.g.b,o.g.c⟩,o.q,o.bit,o.cond⟩ by rw[invO,if_pos hk];rfl)
    clear hk
    go_wp2_with (first|(go_at_call 66;refine(InverseGate_spec _ _ _ _ _).mono ?_;rintro e w' ⟨rfl,rfl⟩)|(at_builtin;refine wpList_append_rd _ rfl _ _ 31 rfl w.heap.size 60 i0 _ 8 64 Try.underlying31 hi hz0 hz1 hz2 rfl Zq4 _ _ _ rfl ((((hown.alloc _).alloc _).alloc _).alloc _) _ 1 1 _ rfl (rd_lit ?c0 rfl) ?c2 ?c3 ?c4 ?c5 ?_))
    case c0=>first|rfl|simp
    case c2=>repeat' (first|rfl|apply And.intro)
    case c3=>simp only[maxLen];omega
    case c4=>omega
    case c5=>have:=hb.size;simp;omega
    intro v3 w3 own3 gr3 _
    have b3:=((((hb.alloc hb.size _).alloc (by have:=hb.size;simp;omega) _).alloc (by have:=hb.size;simp;omega) _).alloc (by have:=hb.size;simp;omega) _).grown gr3 (by have:=hb.size;simp;omega) (own_ge hown)
    clear hown gr3
    go_wp2
    go_roundw
    case rel =>
     refine ⟨s,by omega,rfl,?_,b3⟩
     rw[adj_step l s o HO.out,List.flatMap_append,←HL2.out,show n - s=n - (s+1)+1 from by omega]
     rw[HK.out]
     exact own3
    case measure=>first|(simp [intOf];done)|(simp [intOf];omega)
   ·have hk':(o.k==1)=false:=by simp [hk]
    have HK:=hD (show invO o=o by rw[invO,if_neg hk])
    clear hk
    go_wp2_with (first|(go_at_call 66;refine(InverseGate_spec _ _ _ _ _).mono ?_;rintro e w' ⟨rfl,rfl⟩)|(at_builtin;refine wpList_append_rd _ rfl _ _ 31 rfl w.heap.size 60 i0 _ 8 64 Try.underlying31 hi hz0 hz1 hz2 rfl Zq4 _ _ _ rfl ((hown.alloc _).alloc _) _ 1 1 _ rfl (rd_lit ?c0 rfl) ?c2 ?c3 ?c4 ?c5 ?_))
    case c0=>first|rfl|simp
    case c2=>repeat' (first|rfl|apply And.intro)
    case c3=>simp only[maxLen];omega
    case c4=>omega
    case c5=>have:=hb.size;simp;omega
    intro v3 w3 own3 gr3 _
    have b3:=((hb.alloc hb.size _).alloc (by have:=hb.size;simp;omega) _).grown gr3 (by have:=hb.size;simp;omega) (own_ge hown)
    clear hown gr3
    go_wp2
    go_roundw
    case rel =>
     refine ⟨s,by omega,rfl,?_,b3⟩
     rw[adj_step l s o HO.out,List.flatMap_append,←HL2.out,show n - s=n - (s+1)+1 from by omega]
     rw[HK.out]
     exact own3
    case measure=>first|(simp [intOf];done)|(simp [intOf];omega)
theorem RepeatOps_spec (A:Option Addr) (n c:Nat) (l:List Opt) (k:Int) (w:World) (h:Rd w 8 A n (l.flatMap ocells)) (hl:l.length=n) (hn:n≤1073741824) :
  Calls Try.prog 47 #[.slice A n c,.int .i64 k] w (RetRow 60 8 w ((reps k)*n) ((repO l (reps k)).flatMap ocells)):=by
 obtain ⟨i0,hi,hz0,hz1,hz2⟩:=info_parts info_OpE
 obtain ⟨m,hm⟩:∃ m,m=reps k:=⟨_,rfl⟩
 rw[←hm]
 have hm9:m≤9:=by rw[hm];unfold reps;omega
 have HM:Hid (m=(min k 9).toNat):=hm
 have H:=hD h
 clear h hl hm
 go_enter Try.func47,Try.ntmps47
 go_wp2
 go_loopw [5,6] (fun v i wr=>∃ t:Nat,t≤m∧i=.int .i64 t∧wr.ownsRow w.heap.size 60 8 v (t*n) ((repO l t).flatMap ocells)∧Below w.heap.size w wr) (fun _ i _=>9 - (intOf i).toNat)
 case atStart=>exact ⟨0,Nat.zero_le _,rfl,by simpa [repO] using own_empty w _ 8,Zq0⟩
 case round =>
  obtain ⟨t,ht,rfl,hown,hb⟩:=hrel
  have hmn:t*n≤9*n:=Nat.mul_le_mul_right _ Zq1
  obtain ⟨L,hL⟩:∃ L,L=(repO l t).flatMap ocells:=⟨_,rfl⟩
  rw[←hL] at hown
  have HL2:=hD hL
  obtain ⟨N,hN⟩:∃ N,N=t*n:=⟨_,rfl⟩
  rw[←hN] at hown hmn
  have HN:=hD hN
  clear hL hN
  by_cases hlt:t<m
  ·have hk1:(t:Int)<k:=by have:=HM.out;omega
   have hk2:(t:Int)<9:=by omega
   have hr:=H.out.below hb
   go_wp2_with (at_builtin;refine wpList_append_rd _ rfl _ _ 31 rfl w.heap.size 60 i0 _ 8 64 Try.underlying31 hi hz0 hz1 hz2 rfl Zq4 _ _ _ rfl hown _ _ _ _ rfl hr (one_flat ocells_one _) ?c3 ?c4 ?c5 ?_)
   case c3=>simp only[maxLen];omega
   case c4=>omega
   case c5=>exact hb.size
   intro v3 w3 own3 gr3 _
   have b3:=hb.grown gr3 hb.size (own_ge hown)
   clear hown gr3 hr
   go_wp2
   go_roundw
   case rel =>
    refine ⟨t+1,by omega,by go_num,?_,b3⟩
    rw[rep_step,List.flatMap_append,←HL2.out,Nat.add_mul,Nat.one_mul,←HN.out]
    exact own3
   case measure=>simp [intOf];omega
  ·obtain rfl:t=m:=by omega
   by_cases hk:k≤t
   ·have hk1:decide ((t:Int)<k)=false:=by simp;omega
    go_wp2
    go_ret
    exact ⟨_,rfl,by rw[HL2.out,HN.out] at hown;exact hown,hb,hb.size⟩
   ·have hk2:t=9:=by have:=HM.out;omega
    subst hk2
    have hk3:(9:Int)<k:=by omega
    go_wp2
    go_ret
    exact ⟨_,rfl,by rw[HL2.out,HN.out] at hown;exact hown,hb,hb.size⟩
end Go.Proofs.Ythkbckkghnbonaa
namespace Go.Proofs.Ythkbckkghnbonaa
def eqSt (a b:ByteArray):Bool:=a.toList==b.toList
theorem toList_data (a:ByteArray):a.toList=a.data.toList:=Lib.toList_data a
theorem eqSt_refl (a:ByteArray):eqSt a a=true:=by simp [eqSt]
theorem eqSt_eq {a b:ByteArray} (h:eqSt a b=true):a=b:=by
 have h':a.toList=b.toList:=by simpa [eqSt] using h
 rw[toList_data,toList_data] at h'
 cases a
 cases b
 simp_all
end Go.Proofs.Ythkbckkghnbonaa
namespace Go.Proofs.Ythkbckkghnbonaa
open Go.RowKit

structure SH where
 k:Int
 word:ByteArray
 args:List ByteArray
 count:Int
def Tr:Nat→Type
 | 0=>Empty
 | d+1=>SH × List (Tr d)

def hdT {d:Nat} (s:Tr (d+1)):SH:=(show SH × List (Tr d) from s).1
def bdT {d:Nat} (s:Tr (d+1)):List (Tr d):=(show SH × List (Tr d) from s).2
def mkT {d:Nat} (h:SH) (b:List (Tr d)):Tr (d+1):=(show SH × List (Tr d) from(h,b))
def RdL (w:World) (lo size:Nat) (A:Option Addr) (n:Nat) (xs:List Value):Prop :=
 xs.length=n*size∧(0<n→∃ b off,A=some ⟨b,off,none⟩∧lo≤b∧b<w.heap.size∧∀ j u,xs[j]?=some u→w.cell? ⟨b,off+j,none⟩=some u)
def SCells (w:World) (b o:Nat) (s:SH) (Aa:Option Addr) (ca:Nat) (Ab:Option Addr) (nb cb:Nat):Prop :=
 w.cell? ⟨b,o,none⟩=some (.int .i64 s.k)∧w.cell? ⟨b,o+1,none⟩=some (.string s.word)∧w.cell? ⟨b,o+2,none⟩=some (.slice Aa s.args.length ca) ∧
 w.cell? ⟨b,o+3,none⟩=some (.int .i64 s.count)∧w.cell? ⟨b,o+4,none⟩=some (.slice Ab nb cb)
def strs (l:List ByteArray):List Value:=l.map Value.string
def RdT (w:World) (lo:Nat):(d:Nat)→Option Addr→Nat→List (Tr d)→Prop
 | 0,_,n,l=>l.length=n∧n=0
 | d+1,A,n,l=>l.length=n∧(0<n→∃ b off,A=some ⟨b,off,none⟩∧lo≤b∧b<w.heap.size∧∀ (i:Nat) (s:Tr (d+1)),l[i]?=some s →
   ∃ Aa ca Ab nb cb,SCells w b (off+i*5) (hdT s) Aa ca Ab nb cb∧RdL w lo 1 Aa (hdT s).args.length (strs (hdT s).args)∧RdT w lo d Ab nb (bdT s)∧(hdT s).args.length≤ca)
section
variable {w w':World} {lo lo' size:Nat}
theorem RdL.rd {A:Option Addr} {n:Nat} {xs:List Value} (h:RdL w lo size A n xs):Rd w size A n xs :=
 ⟨h.1,fun h0=>by obtain ⟨b,off,e,_,hb,hc⟩:=h.2 h0;exact ⟨b,off,e,hb,hc⟩⟩
theorem RdL.keep {A:Option Addr} {n:Nat} {xs:List Value} (h:RdL w lo size A n xs) (hk:∀ b o,lo≤b→b<w.heap.size→w'.cell? ⟨b,o,none⟩=w.cell? ⟨b,o,none⟩) (hs:w.heap.size≤w'.heap.size):RdL w' lo size A n xs :=
 ⟨h.1,fun h0=>by
  obtain ⟨b,off,e,hl,hb,hc⟩:=h.2 h0
  exact ⟨b,off,e,hl,Nat.lt_of_lt_of_le hb hs,fun j u hu=>(hk _ _ hl hb).trans (hc j u hu)⟩⟩
theorem RdL.lower {A:Option Addr} {n:Nat} {xs:List Value} (h:RdL w lo size A n xs) (hl:lo'≤lo):RdL w lo' size A n xs :=
 ⟨h.1,fun h0=>by
  obtain ⟨b,off,e,h1,hb,hc⟩:=h.2 h0
  exact ⟨b,off,e,Nat.le_trans hl h1,hb,hc⟩⟩
theorem SCells.keep {b o:Nat} {s:SH} {Aa Ab:Option Addr} {ca nb cb:Nat} (h:SCells w b o s Aa ca Ab nb cb) (hk:∀ o,w'.cell? ⟨b,o,none⟩=w.cell? ⟨b,o,none⟩):SCells w' b o s Aa ca Ab nb cb :=
 ⟨(hk _).trans h.1,(hk _).trans h.2.1,(hk _).trans h.2.2.1,(hk _).trans h.2.2.2.1,(hk _).trans h.2.2.2.2⟩
theorem RdT.len:∀ {d:Nat} {A:Option Addr} {n:Nat} {l:List (Tr d)},RdT w lo d A n l→l.length=n
 | 0,_,_,_,h=>h.1
 | _+1,_,_,_,h=>h.1
theorem RdT.keep (hk:∀ b o,lo≤b→b<w.heap.size→w'.cell? ⟨b,o,none⟩=w.cell? ⟨b,o,none⟩) (hs:w.heap.size≤w'.heap.size) :
  ∀ {d:Nat} {A:Option Addr} {n:Nat} {l:List (Tr d)},RdT w lo d A n l→RdT w' lo d A n l:=by
 intro d
 induction d with
 | zero=>intro A n l h;exact h
 | succ d ih =>
  intro A n l h
  refine ⟨h.1,fun h0=>?_⟩
  obtain ⟨b,off,e,hl,hb,hc⟩:=h.2 h0
  refine ⟨b,off,e,hl,Nat.lt_of_lt_of_le hb hs,fun i s hi=>?_⟩
  obtain ⟨Aa,ca,Ab,nb,cb,h1,h2,h3,h4⟩:=hc i s hi
  exact ⟨Aa,ca,Ab,nb,cb,h1.keep (fun o=>hk b o hl hb),h2.keep hk hs,ih h3,h4⟩
theorem RdT.lower (hl:lo'≤lo):∀ {d:Nat} {A:Option Addr} {n:Nat} {l:List (Tr d)},RdT w lo d A n l→RdT w lo' d A n l:=by
 intro d
 induction d with
 | zero=>intro A n l h;exact h
 | succ d ih =>
  intro A n l h
  refine ⟨h.1,fun h0=>?_⟩
  obtain ⟨b,off,e,h1,hb,hc⟩:=h.2 h0
  refine ⟨b,off,e,Nat.le_trans hl h1,hb,fun i s hi=>?_⟩
  obtain ⟨Aa,ca,Ab,nb,cb,h1,h2,h3,h4⟩:=hc i s hi
  exact ⟨Aa,ca,Ab,nb,cb,h1,h2.lower hl,ih h3,h4⟩
theorem RdT.below {d:Nat} {A:Option Addr} {n:Nat} {l:List (Tr d)} (h:RdT w lo d A n l) (hb:Below w.heap.size w w'):RdT w' lo d A n l :=
 h.keep (fun _ _ _ hlt=>hb.cell hlt) hb.size
theorem RdL.below {A:Option Addr} {n:Nat} {xs:List Value} (h:RdL w lo size A n xs) (hb:Below w.heap.size w w'):RdL w' lo size A n xs :=
 h.keep (fun _ _ _ hlt=>hb.cell hlt) hb.size
theorem RdT.at_ {d:Nat} {A:Option Addr} {n i:Nat} {l:List (Tr (d+1))} (h:RdT w lo (d+1) A n l) (hi:i<n) :
  ∃ (b off:Nat) (s:Tr (d+1)) (Aa:Option Addr) (ca:Nat) (Ab:Option Addr) (nb cb:Nat),A=some ⟨b,off,none⟩∧b<w.heap.size∧l[i]?=some s ∧
   SCells w b (off+i*5) (hdT s) Aa ca Ab nb cb∧RdL w lo 1 Aa (hdT s).args.length (strs (hdT s).args)∧RdT w lo d Ab nb (bdT s):=by
 obtain ⟨b,off,e,_,hb,hc⟩:=h.2 Zq1
 have hl:i<l.length:=by rw[h.1];exact hi
 obtain ⟨s,hs⟩:∃ s,l[i]?=some s:=⟨_,List.getElem?_eq_getElem hl⟩
 obtain ⟨Aa,ca,Ab,nb,cb,h1,h2,h3,_⟩:=hc i s hs
 exact ⟨b,off,s,Aa,ca,Ab,nb,cb,e,hb,hs,h1,h2,h3⟩
theorem RdT.at_c {d:Nat} {A:Option Addr} {n i:Nat} {l:List (Tr (d+1))} (h:RdT w lo (d+1) A n l) (hi:i<n) :
  ∃ (b off:Nat) (s:Tr (d+1)) (Aa:Option Addr) (ca:Nat) (Ab:Option Addr) (nb cb:Nat),A=some ⟨b,off,none⟩∧b<w.heap.size∧l[i]?=some s ∧
   SCells w b (off+i*5) (hdT s) Aa ca Ab nb cb∧RdL w lo 1 Aa (hdT s).args.length (strs (hdT s).args)∧RdT w lo d Ab nb (bdT s)∧(hdT s).args.length≤ca:=by
 obtain ⟨b,off,e,_,hb,hc⟩:=h.2 Zq1
 have hl:i<l.length:=by rw[h.1];exact hi
 obtain ⟨s,hs⟩:∃ s,l[i]?=some s:=⟨_,List.getElem?_eq_getElem hl⟩
 obtain ⟨Aa,ca,Ab,nb,cb,h1,h2,h3,h4⟩:=hc i s hs
 exact ⟨b,off,s,Aa,ca,Ab,nb,cb,e,hb,hs,h1,h2,h3,h4⟩
end
theorem strs_at {l:List ByteArray} {k:Nat} {s:ByteArray} (h:l[k]?=some s):(strs l)[k]?=some (.string s):=by simp [strs,h]
theorem info_str:(Try.prog.info? 9).map (fun i=>(i.zero,i.size,i.bytes))=some (some (.string ByteArray.empty),1,16):=by kernel_rfl
def szS:List ByteArray→Nat
 | []=>0
 | s :: l=>s.size+szS l
theorem szS_take (l:List ByteArray) (t:Nat) (s:ByteArray) (h:l[t]?=some s):szS (l.take (t+1))=szS (l.take t)+s.size:=by
 induction l generalizing t with
 | nil=>simp at h
 | cons x l ih =>
  cases t with
  | zero=>simp at h;subst h;simp [szS]
  | succ t=>simp only[List.take_succ_cons,szS,ih t (by simpa using h)];omega
theorem szS_take_le (l:List ByteArray) (t:Nat):szS (l.take t)≤szS l:=by
 induction l generalizing t with
 | nil=>simp [szS]
 | cons x l ih =>
  cases t with
  | zero=>simp [szS]
  | succ t=>simp only[List.take_succ_cons,szS];have:=ih t;omega
def hasS (l:List ByteArray) (s:ByteArray):Bool:=l.any fun x=>eqSt x s
theorem hasS_t {l:List ByteArray} {s x:ByteArray} {t:Nat} (h:l[t]?=some x) (he:eqSt x s=true):hasS l s=true:=List.any_eq_true.2 ⟨x,List.mem_of_getElem? h,he⟩
theorem hasS_step {l:List ByteArray} {s x:ByteArray} {t:Nat} (h:l[t]?=some x) (he:eqSt x s=false) (h0:hasS (l.take t) s=false):hasS (l.take (t+1)) s=false:=by
 unfold hasS at h0 ⊢
 rw[List.take_add_one,h]
 simp only[Option.toList_some,List.any_append,h0,List.any_cons,List.any_nil,he]
 rfl
theorem hasWord_any (A:Option Addr) (n c:Nat) (l:List ByteArray) (s:ByteArray) (w:World) (h:Rd w 1 A n (strs l)) (hl:l.length=n) (hn:n≤1099511627776) :
  Calls Try.prog 18 #[.slice A n c,.string s] w fun e w'=>e=.returned (.bool (hasS l s))∧w=w':=by
 have H:=hD h
 have HL:=hD hl
 clear h hl
 go_enter Try.func18,Try.ntmps18
 go_wp2
 go_loop [9] (fun i=>∃ t:Nat,t≤n∧i=.int .i64 t∧hasS (l.take t) s=false) (fun i=>n - (intOf i).toNat)
 case atStart=>exact ⟨0,Nat.zero_le _,rfl,rfl⟩
 case round =>
  obtain ⟨t,ht,rfl,hok⟩:=hrel
  have HOK:=hD hok
  clear hok
  by_cases hlt:t<n
  ·obtain ⟨x,hx⟩:∃ x,l[t]?=some x:=⟨_,List.getElem?_eq_getElem (by rw[HL.out];exact hlt)⟩
   obtain ⟨b,off,rfl,_,hc⟩:=H.out.2 Zq1
   have q0:=hc t _ (strs_at hx)
   have HX:=hD hx
   clear hc hx
   cases he:eqSt x s
   ·have hne:(x.toList==s.toList)=false:=he
    have HN:=hD (hasS_step HX.out he HOK.out)
    clear he
    go_wp2_with fail
    go_round
    case rel=>exact ⟨t+1,by omega,by go_num,HN.out⟩
    case measure=>simp [intOf];omega
   ·have hne:(x.toList==s.toList)=true:=he
    have HF:=hD (hasS_t HX.out he)
    clear he
    go_wp2_with fail
    go_ret
    exact ⟨by rw[HF.out];rfl,rfl⟩
  ·obtain rfl:t=n:=by omega
   have HF:Hid (hasS l s=false):=by
    have h:=HOK.out
    rw[List.take_of_length_le (by rw[HL.out];exact Nat.le_refl _)] at h
    exact h
   go_wp2_with fail
   go_ret
   exact ⟨by rw[HF.out];rfl,rfl⟩
theorem l1Has_any (A:Option Addr) (n c:Nat) (l:List ByteArray) (s:ByteArray) (w:World) (h:Rd w 1 A n (strs l)) (hl:l.length=n) (hn:n≤1099511627776) :
  Calls Try.prog 30 #[.slice A n c,.string s] w fun e w'=>e=.returned (.bool (hasS l s))∧w=w':=by
 have H:=hD h
 have HL:=hD hl
 clear h hl
 go_enter Try.func30,Try.ntmps30
 go_wp2
 go_loop [5] (fun i=>∃ t:Nat,t≤n∧i=.int .i64 t∧hasS (l.take t) s=false) (fun i=>n - (intOf i).toNat)
 case atStart=>exact ⟨0,Nat.zero_le _,rfl,rfl⟩
 case round =>
  obtain ⟨t,ht,rfl,hok⟩:=hrel
  have HOK:=hD hok
  clear hok
  by_cases hlt:t<n
  ·obtain ⟨x,hx⟩:∃ x,l[t]?=some x:=⟨_,List.getElem?_eq_getElem (by rw[HL.out];exact hlt)⟩
   obtain ⟨b,off,rfl,_,hc⟩:=H.out.2 Zq1
   have q0:=hc t _ (strs_at hx)
   have HX:=hD hx
   clear hc hx
   cases he:eqSt x s
   ·have hne:(x.toList==s.toList)=false:=he
    have HN:=hD (hasS_step HX.out he HOK.out)
    clear he
    go_wp2_with fail
    go_round
    case rel=>exact ⟨t+1,by omega,by go_num,HN.out⟩
    case measure=>simp [intOf];omega
   ·have hne:(x.toList==s.toList)=true:=he
    have HF:=hD (hasS_t HX.out he)
    clear he
    go_wp2_with fail
    go_ret
    exact ⟨by rw[HF.out];rfl,rfl⟩
  ·obtain rfl:t=n:=by omega
   have HF:Hid (hasS l s=false):=by
    have h:=HOK.out
    rw[List.take_of_length_le (by rw[HL.out];exact Nat.le_refl _)] at h
    exact h
   go_wp2_with fail
   go_ret
   exact ⟨by rw[HF.out];rfl,rfl⟩
def szT:(d:Nat)→List (Tr d)→Nat
 | 0,_=>0
 | d+1,l=>l.length+(l.map fun (s:Tr (d+1))=>(hdT s).word.size+((hdT s).args.length+szS (hdT s).args+szT d (bdT s))).sum
def szE {d:Nat} (s:Tr (d+1)):Nat:=(hdT s).word.size+((hdT s).args.length+szS (hdT s).args+szT d (bdT s))
def sumE {d:Nat} (l:List (Tr (d+1))):Nat:=(l.map szE).sum
theorem szT_succ {d:Nat} (l:List (Tr (d+1))):szT (d+1) l=l.length+sumE l:=rfl
theorem sumE_take {d:Nat} (l:List (Tr (d+1))) (t:Nat) (s:Tr (d+1)) (h:l[t]?=some s):sumE (l.take (t+1))=sumE (l.take t)+szE s:=by
 rw[List.take_add_one,h]
 simp [sumE]
theorem sumE_take_le {d:Nat} (l:List (Tr (d+1))) (t:Nat):sumE (l.take t)≤sumE l:=by
 have h:sumE l=sumE (l.take t)+sumE (l.drop t):=by
  unfold sumE
  rw[←List.sum_append,←List.map_append,List.take_append_drop]
 omega
theorem szT_zero_len {w:World} {lo:Nat} {A:Option Addr} {n:Nat} {l:List (Tr 0)} (h:RdT w lo 0 A n l):n=0:=h.2
section
variable {w w':World} {lo:Nat}
theorem setCell_keep {p:Addr} (hp:p.block<lo) (u:Value):∀ b o,lo≤b→b<w.heap.size→(w.setCell p u).cell? ⟨b,o,none⟩=w.cell? ⟨b,o,none⟩ :=
 fun b o hb _=>World.cell?_setCell_other w p ⟨b,o,none⟩ u (fun e=>by subst e;simp at hp;omega)
theorem size_setCell (p:Addr) (u:Value):(w.setCell p u).heap.size=w.heap.size:=by simp [World.setCell]
theorem RdT.set_ {d n:Nat} {A:Option Addr} {l:List (Tr d)} (h:RdT w lo d A n l) {p:Addr} (hp:p.block<lo) (u:Value):RdT (w.setCell p u) lo d A n l :=
 h.keep (setCell_keep hp u) (by rw[size_setCell];exact Nat.le_refl _)
theorem RdL.set_ {size n:Nat} {A:Option Addr} {xs:List Value} (h:RdL w lo size A n xs) {p:Addr} (hp:p.block<lo) (u:Value):RdL (w.setCell p u) lo size A n xs :=
 h.keep (setCell_keep hp u) (by rw[size_setCell];exact Nat.le_refl _)
theorem heap_set_self {g i:Nat} {t:TypeId} {cs:Array Value} (h:w.heap[g]?=some (.cells cs t (0,0))) (u:Value):(w.setCell ⟨g,i,none⟩ u).heap[g]?=some (.cells (cs.setIfInBounds i u) t (0,0)):=by
 simp [World.setCell,Array.getElem?_modify,h]
theorem heap_set_far {g:Nat} {o:Obj} {p:Addr} (h:w.heap[g]?=some o) (hp:g≠p.block) (u:Value):(w.setCell p u).heap[g]?=some o:=(Below.heap_setCell w p u g hp).trans h
theorem boxcells5 {b:Nat} {x0 x1 x2 x3 x4:Value} {t:TypeId} (lay:Below w'.heap.size w' w) (h:w'.heap[b]?=some (.cells #[x0,x1,x2,x3,x4] t (0,0))) :
  w.cell? ⟨b,0,none⟩=some x0∧w.cell? ⟨b,1,none⟩=some x1∧w.cell? ⟨b,2,none⟩=some x2∧w.cell? ⟨b,3,none⟩=some x3∧w.cell? ⟨b,4,none⟩=some x4:=by
 have h':w.heap[b]?=some (.cells #[x0,x1,x2,x3,x4] t (0,0)):=(lay.block b (lt_of_block h)).trans h
 exact ⟨by simp [World.cell?,h'],by simp [World.cell?,h'],by simp [World.cell?,h'],by simp [World.cell?,h'],by simp [World.cell?,h']⟩
theorem boxfree {b:Nat} {cs:Array Value} {t:TypeId} (lay:Below w'.heap.size w' w) (h:w'.heap[b]?=some (.cells cs t (0,0))) (j:Nat):w.frozen? ⟨b,j,none⟩=false:=by
 have h':w.heap[b]?=some (.cells cs t (0,0)):=(lay.block b (lt_of_block h)).trans h
 simp [World.frozen?,h']
end
theorem szT_mem {d:Nat} {l:List (Tr (d+1))} {t:Nat} {s:Tr (d+1)} (h:l[t]?=some s):szE s≤sumE l:=by
 have h1:=sumE_take l t s h
 have h2:=sumE_take_le l (t+1)
 omega
theorem info_Stmt:(Try.prog.info? 42).map (fun i=>(i.zero,i.size,i.bytes))=some (some (.agg #[.int .i64 0,.string ⟨#[]⟩,.slice none 0 0,.int .i64 0,.slice none 0 0]),5,80):=by kernel_rfl
theorem RdT.drew {w:World} {lo d n:Nat} {A:Option Addr} {l:List (Tr d)} (h:RdT w lo d A n l):RdT w.drew lo d A n l:=RdT.keep (w:=w) (w':=w.drew) (fun _ _ _ _=>rfl) (Nat.le_refl _) h
theorem RdT.drewN {w:World} {lo d n:Nat} {A:Option Addr} {l:List (Tr d)} (h:RdT w lo d A n l) (k:Nat):RdT (w.drewN k) lo d A n l:=RdT.keep (w:=w) (w':=w.drewN k) (fun _ _ _ _=>rfl) (Nat.le_refl _) h
def hasB (k:Int):Bool:=k==2 || (k==3 || (k==4 || (k==5 || k==7)))
theorem hasB_f {k:Int} (h2:k≠2) (h3:k≠3) (h4:k≠4) (h5:k≠5) (h7:k≠7):hasB k=false:=by simp [hasB,h2,h3,h4,h5,h7]
def imax (a b:Int):Int:=if b<a then a else b
theorem l1Max_any (a b:Int) (w:World):Calls Try.prog 20 #[.int .i64 a,.int .i64 b] w fun e w'=>e=.returned (.int .i64 (imax a b))∧w=w':=by
 by_cases h:b<a
 ·rw[show imax a b=a from if_pos h]
  go_enter Try.func20,Try.ntmps20
  go_wp2
  go_ret
  exact ⟨rfl,rfl⟩
 ·rw[show imax a b=b from if_neg h]
  go_enter Try.func20,Try.ntmps20
  go_wp2
  go_ret
  exact ⟨rfl,rfl⟩
def gnames:List (List UInt8):=[[],[120],[121],[122],[104],[115],[115,100],[116],[116,100],[99,120],[99,122],[115,119,97,112],[99,99,120]]
def gname (k:Nat):List UInt8:=gnames.getD k []
theorem GateName_spec (k:Nat) (h1:1≤k) (h2:k≤12) (w:World):Calls Try.prog 57 #[.int .i64 k] w fun e w'=>e=.returned (.string ⟨(gname k).toArray⟩)∧Below w.heap.size w w'∧w.heap.size≤w'.heap.size:=by
 have hb:inB (k:Int) 1 12=true:=inB_t Zq1 Zq1
 have hk:k=1∨k=2∨k=3∨k=4∨k=5∨k=6∨k=7∨k=8∨k=9∨k=10∨k=11∨k=12:=by omega
 clear h1 h2
 rcases hk with rfl|rfl|rfl|rfl|rfl|rfl|rfl|rfl|rfl|rfl|rfl|rfl
 all_goals
  go_enter Try.func57,Try.ntmps57
  go_wp2_with (go_at_call 32;refine(l1In_any _ _ _ _).mono ?_;rintro e w' ⟨rfl,rfl⟩)
  go_ret
  exact ⟨rfl,Zq0,Zq2⟩
def gkindFrom (word:List UInt8):Nat→Nat→Nat
 | 0,_=>0
 | f+1,k=>if gname k==word then k else gkindFrom word f (k+1)
def gkind (word:ByteArray):Nat:=gkindFrom word.toList 12 1
theorem gkindFrom_le (word:List UInt8):∀ f k,k+f≤13→gkindFrom word f k≤12:=by
 intro f
 induction f with
 | zero=>intro k _;simp [gkindFrom]
 | succ f ih =>
  intro k h
  simp only[gkindFrom]
  split
  ·omega
  ·exact ih (k+1) Zq1
theorem GateKind_spec (word:ByteArray) (w:World):Calls Try.prog 65 #[.string word] w fun e w'=>e=.returned (.int .i64 (gkind word))∧Below w.heap.size w w'∧w.heap.size≤w'.heap.size:=by
 go_enter Try.func65,Try.ntmps65
 go_wp2
 go_loopw [3] (fun k wr=>∃ t:Nat,1≤t∧t≤13∧k=.int .i64 t∧gkind word=gkindFrom word.toList (13 - t) t∧Below w.heap.size w wr) (fun k _=>13 - (intOf k).toNat)
 case atStart=>exact ⟨1,by omega,by omega,rfl,rfl,Below.refl _ _⟩
 case round =>
  obtain ⟨t,h1,ht,rfl,hg,hb⟩:=hrel
  have HG:=hD hg
  clear hg
  by_cases hlt:t≤12
  ·have HS:Hid (gkind word=if gname t==word.toList then t else gkindFrom word.toList (13 - (t+1)) (t+1)):=by
    have h:=HG.out
    rw[show 13 - t=(13 - (t+1))+1 from by omega] at h
    exact h
   cases he:(gname t==word.toList)
   ·have HF:Hid (gkind word=gkindFrom word.toList (13 - (t+1)) (t+1)):=by
     have h:=HS.out
     rw[he] at h
     exact h
    go_wp2_with fail
    refine(GateName_spec t h1 hlt _).mono ?_
    rintro e w1 ⟨rfl,b1,s1⟩
    go_wp2_with fail
    go_roundw
    case rel=>exact ⟨t+1,by omega,by omega,by go_num,HF.out,hb.trans (b1.mono hb.size)⟩
    case measure=>simp [intOf];omega
   ·have HF:Hid (gkind word=t):=by
     have h:=HS.out
     rw[he] at h
     exact h
    go_wp2_with fail
    refine(GateName_spec t h1 hlt _).mono ?_
    rintro e w1 ⟨rfl,b1,s1⟩
    go_wp2_with fail
    go_ret
    exact ⟨by rw[HF.out];rfl,hb.trans (b1.mono hb.size),Nat.le_trans hb.size s1⟩
  ·obtain rfl:t=13:=by omega
   have HF:Hid (gkind word=0):=HG.out
   go_wp2_with fail
   go_ret
   exact ⟨by rw[HF.out];rfl,hb,hb.size⟩
def nargs (k:Int) (word:ByteArray):Nat:=if k=1 then ar (gkind word) else if k=2 then 0 else if k=3 then 0 else if k=4 then 1 else if k=5 then 1 else if k=7 then 1 else 2
theorem l17Args_any (k:Int) (word:ByteArray) (va:Value) (count:Int) (vb:Value) (w:World) (ha:∃ A n c,va=.slice A n c) (hb:∃ A n c,vb=.slice A n c):Calls Try.prog 45 #[.agg #[.int .i64 k,.string word,va,.int .i64 count,vb]] w fun e w' =>
  e=.returned (.tuple #[.int .i64 (nargs k word),.bool (hasB k)])∧Below w.heap.size w w'∧w.heap.size≤w'.heap.size:=by
 obtain ⟨A,n,c,rfl⟩:=ha
 obtain ⟨A',n',c',rfl⟩:=hb
 by_cases h1:k=1
 ·subst h1
  go_enter Try.func45,Try.ntmps45
  go_wp2_with fail
  refine(GateKind_spec _ _).mono ?_
  rintro e w1 ⟨rfl,b1,s1⟩
  simp at s1
  go_wp2_with fail
  refine(Arity_spec _ _).mono ?_
  rintro e w' ⟨rfl,rfl⟩
  go_wp2_with fail
  go_ret2
  exact ⟨rfl,Zq0,Zq2⟩
 have e1:(k==1)=false:=beq_eq_false_iff_ne.2 h1
 by_cases h2:k=2
 ·subst h2
  go_enter Try.func45,Try.ntmps45
  go_wp2_with fail
  go_ret2
  exact ⟨rfl,Zq0,Zq2⟩
 have e2:(k==2)=false:=beq_eq_false_iff_ne.2 h2
 by_cases h3:k=3
 ·subst h3
  go_enter Try.func45,Try.ntmps45
  go_wp2_with fail
  go_ret2
  exact ⟨rfl,Zq0,Zq2⟩
 have e3:(k==3)=false:=beq_eq_false_iff_ne.2 h3
 by_cases h4:k=4
 ·subst h4
  go_enter Try.func45,Try.ntmps45
  go_wp2_with fail
  go_ret2
  exact ⟨rfl,Zq0,Zq2⟩
 have e4:(k==4)=false:=beq_eq_false_iff_ne.2 h4
 by_cases h5:k=5
 ·subst h5
  go_enter Try.func45,Try.ntmps45
  go_wp2_with fail
  go_ret2
  exact ⟨rfl,Zq0,Zq2⟩
 have e5:(k==5)=false:=beq_eq_false_iff_ne.2 h5
 by_cases h7:k=7
 ·subst h7
  go_enter Try.func45,Try.ntmps45
  go_wp2_with fail
  go_ret2
  exact ⟨rfl,Zq0,Zq2⟩
 have e7:(k==7)=false:=beq_eq_false_iff_ne.2 h7
 have HA:=hD (show nargs k word=2 by simp [nargs,h1,h2,h3,h4,h5,h7])
 have HB:=hD (hasB_f h2 h3 h4 h5 h7)
 clear h1 h2 h3 h4 h5 h7
 go_enter Try.func45,Try.ntmps45
 go_wp2_with fail
 go_ret2
 exact ⟨by rw[HA.out,HB.out];rfl,Zq0,Zq2⟩
def nestT:(d:Nat)→List (Tr d)→Nat
 | 0,_=>0
 | d+1,l=>l.foldl (fun (m:Nat) (s:Tr (d+1))=>if hasB (hdT s).k then max m (1+nestT d (bdT s)) else m) 0
theorem sum_ge {d:Nat} {l:List (Tr (d+1))} {s:Tr (d+1)} (h:s∈l):szE s≤sumE l:=by
 obtain ⟨t,ht⟩:=List.getElem?_of_mem h
 exact szT_mem ht
theorem nestT_le:∀ (d:Nat) (l:List (Tr d)),nestT d l≤szT d l:=by
 intro d
 induction d with
 | zero=>intro l;exact Nat.le_refl _
 | succ d ih =>
  intro l
  have key:∀ (B:Nat) (l:List (Tr (d+1))),(∀ s∈l,1+nestT d (bdT s)≤B)→∀ m,m≤B→l.foldl (fun (m:Nat) (s:Tr (d+1))=>if hasB (hdT s).k then max m (1+nestT d (bdT s)) else m) m≤B:=by
   intro B l
   induction l with
   | nil=>intro _ m h;exact h
   | cons s l ih2 =>
    intro hB m h
    refine ih2 (fun x hx=>hB x (by simp [hx])) _ ?_
    show(if hasB (hdT s).k then max m (1+nestT d (bdT s)) else m)≤B
    have:=hB s Zq5
    split <;> omega
  refine key _ l (fun s hs=>?_) 0 (Nat.zero_le _)
  have h1:=ih (bdT s)
  have h2:=sum_ge hs
  have h3:0<l.length:=List.length_pos_of_mem hs
  rw[szT_succ]
  unfold szE at h2
  omega
theorem nest_take_le {d:Nat} (l:List (Tr (d+1))) (t:Nat):nestT (d+1) (l.take t)≤szT (d+1) l:=by
 refine Nat.le_trans (nestT_le _ _) ?_
 rw[szT_succ,szT_succ]
 have:=sumE_take_le l t
 have:=List.length_take_le' t l
 omega
theorem nest_take {d:Nat} (l:List (Tr (d+1))) (t:Nat) (s:Tr (d+1)) (h:l[t]?=some s):nestT (d+1) (l.take (t+1))=if hasB (hdT s).k then max (nestT (d+1) (l.take t)) (1+nestT d (bdT s)) else nestT (d+1) (l.take t):=by
 rw[List.take_add_one,h]
 simp [nestT,List.foldl_append]
def NestSaid_spec (d:Nat):Prop:=∀ (lo:Nat) (A:Option Addr) (n c:Nat) (l:List (Tr d)) (w:World),RdT w lo d A n l→szT d l≤1048576 →
 Calls Try.prog 35 #[.slice A n c] w fun e w'=>e=.returned (.int .i64 (nestT d l))∧Below w.heap.size w w'∧w.heap.size≤w'.heap.size
theorem NestingDepth_spec:∀ (d:Nat),NestSaid_spec d:=by
 intro d
 induction d with
 | zero =>
  intro lo A n c l w h _
  obtain rfl:=szT_zero_len h
  go_enter Try.func35,Try.ntmps35
  go_wp2
  refine wp_loop_rounds 1 ?_
  rw[rounds_succ]
  go_wp2
  go_ret
  exact ⟨rfl,Below.refl _ _,Nat.le_refl _⟩
 | succ d ih =>
  intro lo A n c l w h hsz
  have hln:=h.len
  have hn:n≤1048576:=by rw[szT_succ] at hsz;omega
  have HQ:=hD hsz
  have HL:=hD hln
  have H:=hD h
  clear h hln hsz
  go_enter Try.func35,Try.ntmps35
  go_wp2
  go_loopw [3,4] (fun m i wr=>∃ t:Nat,t≤n∧i=.int .i64 t∧m=.int .i64 (nestT (d+1) (l.take t))∧Below w.heap.size w wr) (fun _ i _=>n - (intOf i).toNat)
  case atStart=>exact ⟨0,Nat.zero_le _,rfl,rfl,Below.refl _ _⟩
  case round =>
   obtain ⟨t,ht,rfl,rfl,hb⟩:=hrel
   have hN:nestT (d+1) (l.take t)≤1048576:=Nat.le_trans (nest_take_le l t) HQ.out
   obtain ⟨N,hNN⟩:∃ N,N=nestT (d+1) (l.take t):=⟨_,rfl⟩
   rw[←hNN] at hN ⊢
   have HN:=hD hNN
   clear hNN
   have hbs:=hb.size
   by_cases hlt:t<n
   ·obtain ⟨b,off,s,Aa,ca,Ab,nb,cb,rfl,hbl,hs,hcs,hra,hrb⟩:=(H.out.below hb).at_ hlt
    obtain ⟨q0,q1,q2,q3,q4⟩:=hcs
    have hme:=szT_mem hs
    have hz2:szT d (bdT s)≤1048576:=by have:=HQ.out;rw[szT_succ] at this;unfold szE at hme;omega
    have hnb:=nestT_le d (bdT s)
    have HT:=hD (nest_take l t s hs)
    have HB:=hD hrb
    clear hs hra hrb hme
    cases hk:hasB (hdT s).k
    ·have HT2:Hid (nestT (d+1) (l.take (t+1))=N):=by
      have h:=HT.out
      rw[hk,←HN.out] at h
      exact h
     go_wp2_with fail
     refine(l17Args_any _ _ _ _ _ _ ⟨_,_,_,rfl⟩ ⟨_,_,_,rfl⟩).mono ?_
     rintro e w1 ⟨rfl,b1,s1⟩
     rw[hk]
     go_wp2_with fail
     go_roundw
     case rel=>exact ⟨t+1,by omega,by go_num,by rw[HT2.out],hb.trans (b1.mono hb.size)⟩
     case measure=>simp [intOf];omega
    ·obtain ⟨M,hM⟩:∃ M,M=nestT d (bdT s):=⟨_,rfl⟩
     have HT2:Hid (nestT (d+1) (l.take (t+1))=max N (1+M)):=by
      have h:=HT.out
      rw[hk,←HN.out,←hM] at h
      exact h
     rw[←hM] at hnb
     have HM:=hD hM
     clear hM
     go_wp2_with fail
     refine(l17Args_any _ _ _ _ _ _ ⟨_,_,_,rfl⟩ ⟨_,_,_,rfl⟩).mono ?_
     rintro e w1 ⟨rfl,b1,s1⟩
     rw[hk]
     have q5:=(b1.cell (p:=⟨b,off+t*5+4,none⟩) hbl).trans q4
     clear q0 q1 q2 q3 q4
     go_wp2_with fail
     refine(ih lo _ _ _ (bdT s) _ (HB.out.below b1) hz2).mono ?_
     rintro e w2 ⟨rfl,b2,s2⟩
     rw[←HM.out]
     go_wp2_with fail
     refine(l1Max_any _ _ _).mono ?_
     rintro e w' ⟨rfl,rfl⟩
     go_wp2_with fail
     go_roundw
     case rel=>exact ⟨t+1,by omega,by go_num,by rw[HT2.out];congr 1;unfold imax;split <;> omega,(hb.trans (b1.mono hb.size)).trans (b2.mono Zq1)⟩
     case measure=>simp [intOf];omega
   ·obtain rfl:t=n:=by omega
    have HF:Hid (N=nestT (d+1) l):=by
     have h:=HN.out
     rw[List.take_of_length_le (by rw[HL.out];exact Nat.le_refl _)] at h
     exact h
    go_wp2
    go_ret
    exact ⟨by rw[←HF.out];rfl,hb,hb.size⟩
def GN (w:World):Prop:=w=w
theorem GN.below {w w':World} (h:GN w) (hb:Below w.heap.size w w'):GN w':=rfl
theorem GN.drewN {w:World} (h:GN w) (k:Nat):GN (w.drewN k):=rfl
def ltrB (x:Int):Bool:=decide (97≤x∧x≤122) || decide (48≤x∧x≤57)
theorem ltrB_1 {x:Int} (h1:97≤x) (h2:x≤122):ltrB x=true:=by simp [ltrB,h1,h2]
theorem ltrB_2 {x:Int} (h1:48≤x) (h2:x≤57):ltrB x=true:=by simp [ltrB,h1,h2]
theorem ltrB_f {x:Int} (h1:x<97∨122<x) (h2:x<48∨57<x):ltrB x=false:=by simp [ltrB];omega
theorem l16Letter_any (x:Int) (w:World):Calls Try.prog 64 #[.int .u8 x] w fun e w'=>e=.returned (.bool (ltrB x))∧w=w':=by
 by_cases h1:97≤x
 ·by_cases h2:x≤122
  ·rw[ltrB_1 h1 h2]
   go_enter Try.func64,Try.ntmps64
   go_wp2
   go_ret
   exact ⟨rfl,rfl⟩
  ·rw[ltrB_f Zq1 Zq1]
   have h3:decide (x≤122)=false:=by simpa using h2
   have h4:decide (x≤57)=false:=by simp;omega
   have h5:(48:Int)≤x:=by omega
   clear h2
   go_enter Try.func64,Try.ntmps64
   go_wp2
   go_ret
   exact ⟨rfl,rfl⟩
 ·have h3:decide (97≤x)=false:=by simpa using h1
  by_cases h4:48≤x
  ·by_cases h5:x≤57
   ·rw[ltrB_2 h4 h5]
    clear h1
    go_enter Try.func64,Try.ntmps64
    go_wp2
    go_ret
    exact ⟨rfl,rfl⟩
   ·rw[ltrB_f Zq1 Zq1]
    have h6:decide (x≤57)=false:=by simpa using h5
    clear h1 h5
    go_enter Try.func64,Try.ntmps64
    go_wp2
    go_ret
    exact ⟨rfl,rfl⟩
  ·rw[ltrB_f Zq1 Zq1]
   have h6:decide (48≤x)=false:=by simpa using h4
   clear h1 h4
   go_enter Try.func64,Try.ntmps64
   go_wp2
   go_ret
   exact ⟨rfl,rfl⟩
def letsUpto (s:ByteArray) (k:Nat):Bool:=(s.data.toList.take k).all fun c=>ltrB c.toNat
def wordOk (s:ByteArray):Bool:=letsUpto s s.size&&inB s.size 1 8
theorem lets_step {s:ByteArray} {k:Nat} (h:k<s.size):letsUpto s (k+1)=(letsUpto s k&&ltrB (s[k].toNat:Int)):=by
 unfold letsUpto
 rw[List.take_succ_eq_append_getElem (by simpa using h)]
 simp
 rfl
theorem lets_le {s:ByteArray} {k:Nat} (h:k≤s.size) (hf:letsUpto s k=false):letsUpto s s.size=false:=by
 unfold letsUpto at hf ⊢
 rw[List.all_eq_false] at hf ⊢
 obtain ⟨x,hx,hn⟩:=hf
 exact ⟨x,List.mem_of_mem_take (by rwa [List.take_take,Nat.min_eq_left h]:x∈List.take k (List.take s.size s.data.toList)),hn⟩
theorem wordOk_f {s:ByteArray} {k:Nat} (h:k<s.size) (hp:letsUpto s k=true) (hf:ltrB (s[k].toNat:Int)=false):wordOk s=false:=by
 have:letsUpto s (k+1)=false:=by rw[lets_step h,hf];simp
 rw[wordOk,lets_le Zq1 this]
 rfl
theorem wordOk_e {s:ByteArray} (hp:letsUpto s s.size=true):wordOk s=inB s.size 1 8:=by rw[wordOk,hp];rfl
theorem IsValidWord_spec (s:ByteArray) (w:World) (hs:s.size≤9223372036854775807):Calls Try.prog 43 #[.string s] w fun e w'=>e=.returned (.bool (wordOk s))∧w=w':=by
 go_enter Try.func43,Try.ntmps43
 go_wp2
 go_loop [3] (fun i=>∃ k:Nat,k≤s.size∧i=.int .i64 k∧letsUpto s k=true) (fun i=>s.size - (intOf i).toNat)
 case atStart=>exact ⟨0,Nat.zero_le _,rfl,rfl⟩
 case round =>
  obtain ⟨k,hk,rfl,hp⟩:=hrel
  have HP:=hD hp
  clear hp
  by_cases hlt:k<s.size
  ·cases hl:ltrB (s[k].toNat:Int)
   ·have HF:=hD (wordOk_f hlt HP.out hl)
    go_wp2_with (go_at_call 64;refine(l16Letter_any _ _).mono ?_;rintro e w' ⟨rfl,rfl⟩)
    go_ret
    exact ⟨by rw[HF.out];rfl,rfl⟩
   ·have HS:=hD (show letsUpto s (k+1)=true by rw[lets_step hlt,HP.out,hl];rfl)
    go_wp2_with (go_at_call 64;refine(l16Letter_any _ _).mono ?_;rintro e w' ⟨rfl,rfl⟩)
    go_round
    case rel=>exact ⟨k+1,by omega,by go_num,HS.out⟩
    case measure=>simp [intOf];omega
  ·obtain rfl:k=s.size:=by omega
   have HF:=hD (wordOk_e HP.out)
   go_wp2_with (go_at_call 32;refine(l1In_any _ _ _ _).mono ?_;rintro e w' ⟨rfl,rfl⟩)
   go_ret
   exact ⟨by rw[HF.out];rfl,rfl⟩
def okCount (k count:Int):Bool:=if k=2 then inB count 1 9 else decide (count=0)
def headV (k:Int) (word:ByteArray) (na:Nat) (count:Int) (bl:Nat):Bool :=
 inB k 1 7&&(decide (na=nargs k word)&&(decide (k≠1∨nargs k word≠0)&&(decide (k=1∨word.toList=[])&&(decide (hasB k=true∨bl=0)&&okCount k count))))
theorem gkind_empty {word:ByteArray} (h:word.toList=[]):gkind word=0:=by
 unfold gkind
 rw[h]
 decide
theorem all_take {α:Type} (p:α→Bool) {l:List α} {t:Nat} {x:α} (h:l[t]?=some x):(l.take (t+1)).all p=((l.take t).all p&&p x):=by
 rw[List.take_add_one,h]
 simp
def vOne (d:Nat) (vt:List (Tr d)→Bool) (h:SH) (bd:List (Tr d)):Bool:=headV h.k h.word h.args.length h.count bd.length&&(h.args.all wordOk&&vt bd)
def validT:(d:Nat)→List (Tr d)→Bool
 | 0,_=>true
 | d+1,l=>l.all fun s=>vOne d (validT d) (hdT s) (bdT s)
abbrev Bad:=Int × ByteArray
def bad0:Bad:=(0,⟨#[]⟩)
def argBad (names held:List ByteArray) (a:ByteArray):Bad:=if hasS names a=false then (2,a) else if hasS held a=true then (4,a) else bad0
def chkA (names held args:List ByteArray):Nat→List ByteArray→Bad
 | _,[]=>bad0
 | i,a :: r=>if hasS names a=false then (2,a) else if hasS held a=true then (4,a) else if hasS (args.take i) a=true then (3,a) else chkA names held args (i+1) r
def ctlS (k:Int) (n:Nat):Bool:=if n=0 then true else if n=1 then (k != 7&&(k != 8&&k != 12)) else decide (n=2)&&(k==1 || k==3)
def gateBad (names held args:List ByteArray) (word:ByteArray):Bad:=if (chkA names held args 0 args).1=0 then (if ctlS (gkind word) held.length=true then bad0 else (9,word)) else chkA names held args 0 args
section
variable {names held args:List ByteArray} {t:Nat} {a:ByteArray}
theorem drop_at (h:args[t]?=some a):args.drop t=a :: args.drop (t+1):=by
 obtain ⟨hl,rfl⟩:=List.getElem?_eq_some_iff.1 h
 exact List.drop_eq_getElem_cons hl
theorem chkA_3 (h:args[t]?=some a) (h1:hasS names a=true) (h2:hasS held a=false) (h3:hasS (args.take t) a=true):chkA names held args t (args.drop t)=(3,a):=by rw[drop_at h,chkA,if_neg (by simp [h1]),if_neg (by simp [h2]),if_pos h3]
theorem chkA_0 (h:args[t]?=some a) (h1:hasS names a=true) (h2:hasS held a=false) (h3:hasS (args.take t) a=false):chkA names held args t (args.drop t)=chkA names held args (t+1) (args.drop (t+1)):=by rw[drop_at h,chkA,if_neg (by simp [h1]),if_neg (by simp [h2]),if_neg (by simp [h3])]
theorem gateBad_n {word:ByteArray} {c:Bad} (h:chkA names held args 0 args=c) (hc:c.1≠0):gateBad names held args word=c:=by rw[gateBad,h,if_neg hc]
theorem gateBad_t {word:ByteArray} (h:chkA names held args 0 args=bad0) (hc:ctlS (gkind word) held.length=true):gateBad names held args word=bad0:=by rw[gateBad,h,if_pos (show bad0.1=0 from rfl),if_pos hc]
theorem gateBad_f {word:ByteArray} (h:chkA names held args 0 args=bad0) (hc:ctlS (gkind word) held.length=false):gateBad names held args word=(9,word):=by rw[gateBad,h,if_pos (show bad0.1=0 from rfl),if_neg (by simp [hc])]
end
def RetBadA (c:Bad) (w:World) (e:Ending) (w':World):Prop:=e=.returned (.agg #[.int .i64 c.1,.string c.2])∧Below w.heap.size w w'∧w.heap.size≤w'.heap.size
theorem argBad_2 {names held:List ByteArray} {a:ByteArray} (h:hasS names a=false):argBad names held a=(2,a):=if_pos h
theorem argBad_4 {names held:List ByteArray} {a:ByteArray} (h:hasS names a=true) (h2:hasS held a=true):argBad names held a=(4,a):=by rw[argBad,if_neg (by simp [h]),if_pos h2]
theorem argBad_0 {names held:List ByteArray} {a:ByteArray} (h:hasS names a=true) (h2:hasS held a=false):argBad names held a=bad0:=by rw[argBad,if_neg (by simp [h]),if_neg (by simp [h2])]
theorem l20Arg_any (a:ByteArray) (names held:List ByteArray) (An Ah Ab:Option Addr) (nn cn nh ch nb cb:Nat) (inside:Bool) (w:World)
  (hnn:names.length=nn) (hrn:Rd w 1 An nn (strs names)) (hnh:held.length=nh) (hrh:Rd w 1 Ah nh (strs held)) (h2:nn≤1048576) (h3:nh≤1048576) :
  Calls Try.prog 62 #[.agg #[.slice An nn cn,.slice Ah nh ch,.bool inside,.slice Ab nb cb],.string a] w (RetBadA (argBad names held a) w):=by
 have b0:Below w.heap.size w ((w.alloc (.cells #[.slice An nn cn,.slice Ah nh ch,.bool inside,.slice Ab nb cb] 72)).alloc (.cells #[.int .i64 0,.string ⟨#[]⟩] 68)):=Zq0
 have HN:=hD (hrn.below b0)
 have HH:=hD (hrh.below b0)
 have HNN:=hD hnn
 have HNH:=hD hnh
 clear b0 hrn hrh hnn hnh
 cases e1:hasS names a
 ·have HF:=hD (argBad_2 (held:=held) e1)
  go_enter Try.func62,Try.ntmps62
  go_wp2_with (go_at_call 30;(with_reducible refine(l1Has_any An nn cn names a _ HN.out HNN.out Zq1).mono ?_);rintro e w' ⟨rfl,rfl⟩)
  exact bodyPost_ret (v:=.agg #[.int .i64 2,.string a]) (by simp [results,Try.results62,go_sem]) rfl ⟨by rw[HF.out],Zq0,Zq2⟩
 ·cases e2:hasS held a
  ·have HF:=hD (argBad_0 e1 e2)
   go_enter Try.func62,Try.ntmps62
   go_wp2_with (first|(go_at_call 30;(with_reducible refine(l1Has_any An nn cn names a _ HN.out HNN.out Zq1).mono ?_);rintro e w' ⟨rfl,rfl⟩)|(go_at_call 30;(with_reducible refine(l1Has_any Ah nh ch held a _ HH.out HNH.out Zq1).mono ?_);rintro e w' ⟨rfl,rfl⟩))
   exact bodyPost_ret (v:=.agg #[.int .i64 0,.string ⟨#[]⟩]) (by simp [results,Try.results62,go_sem]) rfl ⟨by rw[HF.out];rfl,Zq0,Zq2⟩
  ·have HF:=hD (argBad_4 e1 e2)
   go_enter Try.func62,Try.ntmps62
   go_wp2_with (first|(go_at_call 30;(with_reducible refine(l1Has_any An nn cn names a _ HN.out HNN.out Zq1).mono ?_);rintro e w' ⟨rfl,rfl⟩)|(go_at_call 30;(with_reducible refine(l1Has_any Ah nh ch held a _ HH.out HNH.out Zq1).mono ?_);rintro e w' ⟨rfl,rfl⟩))
   exact bodyPost_ret (v:=.agg #[.int .i64 4,.string a]) (by simp [results,Try.results62,go_sem]) rfl ⟨by rw[HF.out],Zq0,Zq2⟩
theorem l20Control_any (k n:Nat) (w:World) (hk:k≤12) (hn:n≤1048576):Calls Try.prog 73 #[.int .i64 k,.int .i64 n] w fun e w'=>e=.returned (.bool (ctlS k n))∧w=w':=by
 obtain ⟨v,hv⟩:∃ v,v=ctlS k n:=⟨_,rfl⟩
 have HV:=hD hv
 rw[←hv]
 clear hv
 by_cases n0:n=0
 ·subst n0
  have HF:Hid (v=true):=HV.out.trans rfl
  go_enter Try.func73,Try.ntmps73
  go_wp2
  go_ret
  exact ⟨by rw[HF.out];rfl,rfl⟩
 ·by_cases n1:n=1
  ·subst n1
   have hk':k=0∨k=1∨k=2∨k=3∨k=4∨k=5∨k=6∨k=7∨k=8∨k=9∨k=10∨k=11∨k=12:=by omega
   rcases hk' with rfl|rfl|rfl|rfl|rfl|rfl|rfl|rfl|rfl|rfl|rfl|rfl|rfl
   all_goals
    have HF:=hD (HV.out.trans (show ctlS _ _=_ from rfl))
    clear HV hk n0 hn
    go_enter Try.func73,Try.ntmps73
    go_wp2
    go_ret
    exact ⟨by rw[HF.out];rfl,rfl⟩
  ·by_cases n2:n=2
   ·subst n2
    have hk':k=0∨k=1∨k=2∨k=3∨k=4∨k=5∨k=6∨k=7∨k=8∨k=9∨k=10∨k=11∨k=12:=by omega
    rcases hk' with rfl|rfl|rfl|rfl|rfl|rfl|rfl|rfl|rfl|rfl|rfl|rfl|rfl
    all_goals
     have HF:=hD (HV.out.trans (show ctlS _ _=_ from rfl))
     clear HV hk n0 n1 hn
     go_enter Try.func73,Try.ntmps73
     go_wp2
     go_ret
     exact ⟨by rw[HF.out];rfl,rfl⟩
   ·have HF:Hid (v=false):=HV.out.trans (by simp [ctlS,n0,n1,n2])
    have d0:((n:Int)==0)=false:=by rw[beq_eq_false_iff_ne];omega
    have d1:((n:Int)==1)=false:=by rw[beq_eq_false_iff_ne];omega
    have d2:((n:Int)==2)=false:=by rw[beq_eq_false_iff_ne];omega
    have c0:(n==0)=false:=by rw[beq_eq_false_iff_ne];omega
    have c1:(n==1)=false:=by rw[beq_eq_false_iff_ne];omega
    have c2:(n==2)=false:=by rw[beq_eq_false_iff_ne];omega
    clear n0 n1 n2
    go_enter Try.func73,Try.ntmps73
    go_wp2
    go_ret
    exact ⟨by rw[HF.out];rfl,rfl⟩
theorem strs_ones (l:List ByteArray):∀ u∈strs l,u.oneCell'=true:=by
 intro u hu
 obtain ⟨s,_,rfl⟩:=List.mem_map.1 hu
 rfl
theorem rd_lit4 {w:World} {cs:Array Value} {e n size b:Nat} (h0:b=w.heap.size) (hs:cs.size=n*size):Rd (w.alloc (.cells cs e)) size (some ⟨b,0,none⟩) n cs.toList:=by
 subst h0
 refine ⟨by simpa using hs,fun _=>⟨_,0,rfl,by simp,fun j u hu=>?_⟩⟩
 have h:=heap_alloc_new w (.cells cs e)
 have hc:cs[j]?=some u:=by rw[←Array.getElem?_toList];exact hu
 rw[Nat.zero_add]
 exact cell_at h hc
theorem strs_snoc2 (l:List ByteArray) (a:ByteArray):strs (l++[a])=strs l++[.string a]:=by simp [strs]
theorem l20Add_any (A:Option Addr) (n c:Nat) (l:List ByteArray) (s:ByteArray) (w:World) (h:Rd w 1 A n (strs l)) (hl:l.length=n) (hn:n≤1048576) :
  Calls Try.prog 52 #[.slice A n c,.string s] w (RetRow 9 1 w (n+1) (strs (l++[s]))):=by
 obtain ⟨i0,hi,hz0,hz1,hz2⟩:=info_parts info_str
 have H:=hD (h.below (show Below w.heap.size w (w.alloc (.cells #[] 9)) from Zq0))
 have HE:=hD (own_empty w 9 1)
 clear h
 go_enter Try.func52,Try.ntmps52
 go_wp2_with (at_builtin;refine wpList_append_rd _ rfl _ _ 24 rfl w.heap.size 9 i0 _ 1 16 Try.underlying24 hi hz0 hz1 hz2 rfl Zq4 _ _ _ rfl HE.out _ _ _ _ rfl H.out (strs_ones l) ?c3 ?c4 ?c5 ?_)
 case c3=>simp only[maxLen];omega
 case c4=>omega
 case c5=>simp
 intro v1 w1 own1 gr1 _
 have b1:Below w.heap.size w w1:=((Below.refl _ _).alloc (Nat.le_refl _) _).grown gr1 Zq2 (own_ge HE.out)
 have hs1:=b1.size
 clear gr1
 go_wp2_with (at_builtin;refine wpList_append_rd _ rfl _ _ 24 rfl w.heap.size 9 i0 _ 1 16 Try.underlying24 hi hz0 hz1 hz2 rfl Zq4 _ _ _ rfl (own1.alloc _) _ 1 1 _ rfl (rd_lit4 ?c0 rfl) ?c2 ?c3 ?c4 ?c5 ?_)
 case c0=>first|omega|rfl|(simp;done)
 case c2=>repeat' (first|rfl|apply And.intro)
 case c3=>simp only[maxLen];omega
 case c4=>omega
 case c5=>simp;omega
 intro v2 w2 own2 gr2 _
 have b2:=(b1.alloc hs1 _).grown gr2 Zq6 (own_ge own1)
 have hs2:=b2.size
 clear own1 gr2
 go_wp2_with fail
 go_ret
 exact ⟨_,rfl,by rw[strs_snoc2];exact own2,b2,hs2⟩
theorem below_undrewC {w w':World} (h:Below w.drew.heap.size w.drew w'):Below w.heap.size w w':=⟨h.os,h.tape,h.output,h.size,h.block⟩
theorem boxcells4' {w w':World} {b:Nat} {x0 x1 x2 x3:Value} {t:TypeId} (lay:Below w'.heap.size w' w) (h:w'.heap[b]?=some (.cells #[x0,x1,x2,x3] t (0,0))) :
  w.cell? ⟨b,0,none⟩=some x0∧w.cell? ⟨b,1,none⟩=some x1∧w.cell? ⟨b,2,none⟩=some x2∧w.cell? ⟨b,3,none⟩=some x3:=boxcells4 lay h
theorem boxc2 {w w':World} {b:Nat} {x0 x1:Value} {t:TypeId} (lay:Below w'.heap.size w' w) (h:w'.heap[b]?=some (.cells #[x0,x1] t (0,0))) :
  w.cell? ⟨b,0,none⟩=some x0∧w.cell? ⟨b,1,none⟩=some x1:=by
 have h':w.heap[b]?=some (.cells #[x0,x1] t (0,0)):=(lay.block b (lt_of_block h)).trans h
 exact ⟨by simp [World.cell?,h'],by simp [World.cell?,h']⟩
theorem argBad_step {names held args:List ByteArray} {t:Nat} {a:ByteArray} (h:args[t]?=some a) (hb:(argBad names held a).1≠0):chkA names held args t (args.drop t)=argBad names held a:=by
 rw[drop_at h,chkA]
 unfold argBad at hb ⊢
 split
 ·rfl
 ·split
  ·rfl
  ·rename_i h1 h2
   rw[if_neg h1,if_neg h2] at hb
   exact absurd rfl hb
theorem argBad_zero {names held:List ByteArray} {a:ByteArray} (hb:(argBad names held a).1=0):argBad names held a=bad0∧hasS names a=true∧hasS held a=false:=by
 unfold argBad at hb ⊢
 split at hb
 ·simp at hb
 ·split at hb
  ·simp at hb
  ·rename_i h1 h2
   rw[if_neg h1,if_neg h2]
   exact ⟨rfl,by simpa using h1,by simpa using h2⟩
theorem l20Gate_any (word:ByteArray) (args names held:List ByteArray) (count:Int) (Aa:Option Addr) (m ca:Nat) (Ac:Option Addr) (nc cc:Nat) (An Ah Ab:Option Addr) (nn cn nh ch nb cb:Nat) (inside:Bool) (w:World)
    (hm:args.length=m) (hra:Rd w 1 Aa m (strs args)) (hca:m≤ca) (hnn:names.length=nn) (hrn:Rd w 1 An nn (strs names)) (hnh:held.length=nh) (hrh:Rd w 1 Ah nh (strs held)) (h1:m≤1048576) (h2:nn≤1048576) (h3:nh≤1048576) :
    Calls Try.prog 61 #[.agg #[.int .i64 1,.string word,.slice Aa m ca,.int .i64 count,.slice Ac nc cc],.agg #[.slice An nn cn,.slice Ah nh ch,.bool inside,.slice Ab nb cb]] w (RetBadA (gateBad names held args word) w):=by
  obtain ⟨w0,hw0⟩:∃ w0,w0=((w.alloc (.cells #[.int .i64 1,.string word,.slice Aa m ca,.int .i64 count,.slice Ac nc cc] 42)).alloc (.cells #[.slice An nn cn,.slice Ah nh ch,.bool inside,.slice Ab nb cb] 72)).alloc (.cells #[.int .i64 0,.string ⟨#[]⟩] 68):=⟨_,rfl⟩
  have X0:=hD (show w0.heap[w.heap.size]?=some (.cells #[.int .i64 1,.string word,.slice Aa m ca,.int .i64 count,.slice Ac nc cc] 42 (0,0)) by rw[hw0];exact boxed3_0 _ _ _ _)
  have X1:=hD (show w0.heap[w.heap.size+1]?=some (.cells #[.slice An nn cn,.slice Ah nh ch,.bool inside,.slice Ab nb cb] 72 (0,0)) by rw[hw0];exact boxed3_1 _ _ _ _)
  have X2:=hD (show w0.heap[w.heap.size+1+1]?=some (.cells #[.int .i64 0,.string ⟨#[]⟩] 68 (0,0)) by rw[hw0];exact boxed3_2 _ _ _ _)
  have b0:Below w.heap.size w w0:=by rw[hw0];exact Zq0
  have hz:w.heap.size+2<w0.heap.size:=by rw[hw0];simp
  have HW:=hD hw0
  have HA:=hD (hra.below b0)
  have HN:=hD (hrn.below b0)
  have HH:=hD (hrh.below b0)
  have HM:=hD hm
  have HNN:=hD hnn
  have HNH:=hD hnh
  have B0:=hD b0
  have al:∀ (W:World) (ob:Obj),Below W.heap.size W (W.alloc ob):=fun W ob=>(Below.refl _ _).alloc (Nat.le_refl _) _
  have AL:=hD al
  clear hw0 b0 hra hrn hrh hm hnn hnh al
  go_enter Try.func61,Try.ntmps61
  go_wp2_with fail
  rw[←HW.out]
  go_loopw [5] (fun i wr=>∃ t:Nat,t≤m∧i=.int .i64 t∧Hid (chkA names held args 0 args=chkA names held args t (args.drop t))∧Below w0.heap.size w0 wr) (fun i _=>m - (intOf i).toNat)
  case atStart=>exact ⟨0,Nat.zero_le _,rfl,rfl,Below.refl _ _⟩
  case round =>
    obtain ⟨t,ht,rfl,hc,hb⟩:=hrel
    have hbs:=hb.size
    obtain ⟨p0,p1,p2,p3,p4⟩:=boxcells5 (lay:=hb) X0.out
    have hlz:w.heap.size<wr.heap.size:=by omega
    have hlz1:w.heap.size+1<wr.heap.size:=by omega
    obtain ⟨q0,q1,q2,q3⟩:=boxcells4' (lay:=hb) X1.out
    by_cases hlt:t<m
    · obtain ⟨a,ha⟩:∃ a,args[t]?=some a:=⟨_,List.getElem?_eq_getElem (by rw[HM.out];exact hlt)⟩
      obtain ⟨b,off,rfl,hbl,hcl⟩:=(HA.out.below hb).2 Zq1
      have r0:=hcl t _ (strs_at ha)
      have HAT:=hD ha
      have RT:Hid (Rd wr 1 (some ⟨b,off,none⟩) t (strs (args.take t))):=by
        have:=(HA.out.below hb).take (t:=t) Zq1
        rw[show(strs args).take t=strs (args.take t) by simp [strs]] at this
        exact this
      have RN:=hD (HN.out.below hb)
      have RH:=hD (HH.out.below hb)
      have KS:Hid (∀ W:World,Below wr.heap.size wr W→(W.cell? ⟨w.heap.size+1,0,none⟩=some (.slice An nn cn)∧W.cell? ⟨w.heap.size+1,1,none⟩=some (.slice Ah nh ch)∧W.cell? ⟨w.heap.size+1,2,none⟩=some (.bool inside)∧W.cell? ⟨w.heap.size+1,3,none⟩=some (.slice Ab nb cb)∧W.cell? ⟨w.heap.size,2,none⟩=some (.slice (some ⟨b,off,none⟩) m ca)∧W.cell? ⟨b,off+t,none⟩=some (.string a))):=fun W hW =>
        ⟨(hW.cell (p:=⟨w.heap.size+1,0,none⟩) hlz1).trans q0,(hW.cell (p:=⟨w.heap.size+1,1,none⟩) hlz1).trans q1,(hW.cell (p:=⟨w.heap.size+1,2,none⟩) hlz1).trans q2,(hW.cell (p:=⟨w.heap.size+1,3,none⟩) hlz1).trans q3,(hW.cell (p:=⟨w.heap.size,2,none⟩) hlz).trans p2,(hW.cell (p:=⟨b,off+t,none⟩) hbl).trans r0⟩
      obtain ⟨c,hcd⟩:∃ c,c=argBad names held a:=⟨_,rfl⟩
      have HC:=hD hcd
      clear hcl ha hcd
      go_wp2_with fail
      go_region_held3 (fun W=>W.cell? ⟨w.heap.size+1,0,none⟩=some (.slice An nn cn)∧W.cell? ⟨w.heap.size+1,1,none⟩=some (.slice Ah nh ch)∧W.cell? ⟨w.heap.size+1,2,none⟩=some (.bool inside)∧W.cell? ⟨w.heap.size+1,3,none⟩=some (.slice Ab nb cb)∧W.cell? ⟨w.heap.size,2,none⟩=some (.slice (some ⟨b,off,none⟩) m ca)∧W.cell? ⟨b,off+t,none⟩=some (.string a)) ((refine KS.out _ ?_;first|exact Below.refl _ _|exact(Below.refl _ _).drew|exact b1|exact(Below.refl _ _).drew.alloc (Nat.le_refl _) _|exact b1.alloc b1.size _|exact(b1.alloc b1.size _).setCell Zq6 _|exact((b1.alloc b1.size _).setCell Zq6 _).setCell Zq6 _|exact(b1.setCell Zq5 _).setCell Zq5 _)) (first|(go_at_call 62;(with_reducible refine(l20Arg_any a names held An Ah Ab nn cn nh ch nb cb inside _ HNN.out (by first|exact RN.out.drew|exact RN.out.drew.below (AL.out _ _)) HNH.out (by first|exact RH.out.drew|exact RH.out.drew.below (AL.out _ _)) Zq1 Zq1).mono ?_);rintro e w1 ⟨rfl,b1d,s1d⟩;rw[←HC.out];first|(have b1:Below wr.heap.size wr w1:=below_undrewC b1d)|(have b1:Below wr.heap.size wr w1:=((Below.refl _ _).drew.alloc (Nat.le_refl _) _).trans (b1d.mono Zq5);obtain ⟨y0,y1⟩:w1.cell? ⟨wr.heap.size,0,none⟩=some (.int .i64 0)∧w1.cell? ⟨wr.heap.size,1,none⟩=some (.string ⟨#[]⟩):=boxc2 (lay:=b1d) (heap_alloc_new wr.drew (.cells #[.int .i64 0,.string ⟨#[]⟩] 68));have y2:w1.frozen? ⟨wr.heap.size,0,none⟩=false:=boxfree b1d (heap_alloc_new wr.drew (.cells #[.int .i64 0,.string ⟨#[]⟩] 68)) 0;have y3:w1.frozen? ⟨wr.heap.size,1,none⟩=false:=boxfree b1d (heap_alloc_new wr.drew (.cells #[.int .i64 0,.string ⟨#[]⟩] 68)) 1;have y6:w1.heap[wr.heap.size]?=some (.cells #[.int .i64 0,.string ⟨#[]⟩] 68 (0,0)):=(b1d.block _ Zq5).trans (heap_alloc_new wr.drew _);have y4:wr.heap.size<w1.heap.size:=Nat.lt_of_lt_of_le (Nat.lt_succ_self _) (Nat.le_trans Zq5 b1d.size))))
      all_goals
        have hs1:=b1.size
        first
        | (have y5:=y4
           obtain ⟨G,hGe⟩:∃ G,G=wr.heap.size:=⟨_,rfl⟩
           have hg0:wr.heap.size≤G:=by omega
           obtain ⟨w2,hw2⟩:∃ w2,w2=(w1.setCell ⟨wr.heap.size,0,none⟩ (.int .i64 c.1)).setCell ⟨wr.heap.size,1,none⟩ (.string c.2):=⟨_,rfl⟩
           have hx2:w2.heap[G]?=some (.cells #[.int .i64 c.1,.string c.2] 68 (0,0)):=by rw[hw2,hGe];exact heap_set_self (heap_set_self y6 _) _
           have b2:Below wr.heap.size wr w2:=by rw[hw2];exact(b1.setCell (Nat.le_refl _) _).setCell (Nat.le_refl _) _
           rw[←hw2,←hGe]
           clear hw2 hGe y0 y1 y2 y3 y4 y5 y6)
        | (obtain ⟨G,hGe⟩:∃ G,G=w1.heap.size:=⟨_,rfl⟩
           have hg0:wr.heap.size≤G:=by omega
           obtain ⟨w2,hw2⟩:∃ w2,w2=w1.alloc (.cells #[.int .i64 c.1,.string c.2] 68):=⟨_,rfl⟩
           have hx2:w2.heap[G]?=some (.cells #[.int .i64 c.1,.string c.2] 68 (0,0)):=by rw[hw2,hGe];exact heap_alloc_new _ _
           have b2:Below wr.heap.size wr w2:=by rw[hw2];exact b1.alloc hs1 _
           rw[←hw2,←hGe]
           clear hw2 hGe)
        clear b1 hs1 p0 p1 p2 p3 p4 q0 q1 q2 q3 r0
        have hs2:=b2.size
        have bb:=hb.trans (b2.mono hbs)
        have hgl:=lt_of_block hx2
        obtain ⟨z0,z1⟩:=boxc2 (lay:=Below.refl _ _) hx2
        obtain ⟨k0,k1⟩:=boxc2 (lay:=bb) X2.out
        have f0:=boxfree bb X2.out 0
        have f1:=boxfree bb X2.out 1
        have hl2:w.heap.size+1+1<w2.heap.size:=by omega
        have hl0:w.heap.size<w2.heap.size:=by omega
        by_cases hc0:c.1=0
        · obtain ⟨ec,e1,e2⟩:=argBad_zero (HC.out▸hc0)
          have hcz:c=bad0:=by rw[HC.out];exact ec
          subst hcz
          have z0':w2.cell? ⟨G,0,none⟩=some (.int .i64 0):=z0
          have z1':w2.cell? ⟨G,1,none⟩=some (.string ⟨#[]⟩):=z1
          clear z0 z1 hx2
          have RT2:=hD (RT.out.below b2)
          obtain ⟨p0,p1,p2,p3,p4⟩:=boxcells5 (lay:=bb) X0.out
          have r0:=(KS.out _ b2).2.2.2.2.2
          have hbl2:b<w2.heap.size:=by omega
          clear ec hc0
          go_wp2_with fail
          cases e3:hasS (args.take t) a
          · have HN1:=hD (hc.out.trans (chkA_0 HAT.out e1 e2 e3))
            go_quiet ((go_at_call 30;exact Calls.quiet_of_same ((l1Has_any _ _ _ (args.take t) a _ (RT2.out.drewN _) (by rw[List.length_take,HM.out];omega) Zq1).mono fun e W h=>(⟨h.1.trans (by rw[e3]),h.2.symm⟩:e=.returned (.bool false)∧W=_))))
            go_wp2_with fail
            go_roundw
            case rel=>exact ⟨t+1,by omega,by go_num,HN1,below_drewN bb _⟩
            case measure=>simp [intOf];omega
          · have HF:=hD (gateBad_n (word:=word) (hc.out.trans (chkA_3 HAT.out e1 e2 e3)) (show(3:Int)≠0 by decide))
            go_quiet ((go_at_call 30;exact Calls.quiet_of_same ((l1Has_any _ _ _ (args.take t) a _ (RT2.out.drewN _) (by rw[List.length_take,HM.out];omega) Zq1).mono fun e W h=>(⟨h.1.trans (by rw[e3]),h.2.symm⟩:e=.returned (.bool true)∧W=_))))
            go_wp2_with fail
            exact bodyPost_ret (v:=.agg #[.int .i64 3,.string a]) (by simp [results,Try.results61,go_sem,k0,k1]) rfl ⟨by rw[HF.out],((B0.out.trans ((below_drewN bb _).mono Zq1)).setCell Zq6 _).setCell Zq6 _,by simp [World.setCell];omega⟩
        · have HF:=hD (gateBad_n (word:=word) (hc.out.trans (argBad_step HAT.out (HC.out▸hc0))) (HC.out▸hc0))
          have hne:(c.1 != 0)=true:=by rw[bne_iff_ne];exact hc0
          go_wp2_with fail
          exact bodyPost_ret (v:=.agg #[.int .i64 c.1,.string c.2]) (by simp [results,Try.results61,go_sem,k0,k1]) rfl ⟨by rw[HF.out,←HC.out],((B0.out.trans (bb.mono Zq1)).setCell Zq6 _).setCell Zq6 _,by simp [World.setCell];omega⟩
    · obtain rfl:t=m:=by omega
      have hc':Hid (chkA names held args 0 args=bad0):=by
        have:=hc.out
        rw[List.drop_of_length_le (by rw[HM.out];exact Nat.le_refl _)] at this
        exact this.trans rfl
      have hkk:gkind word≤12:=gkindFrom_le _ 12 1 Zq1
      have HCT:=hD (fun W=>l20Control_any (gkind word) nh W hkk h3)
      obtain ⟨v,hv⟩:∃ v,v=ctlS (gkind word) nh:=⟨_,rfl⟩
      rw[←hv] at HCT
      have HV:=hD hv
      clear hv
      have KS:Hid (∀ W:World,Below wr.heap.size wr W→(W.cell? ⟨w.heap.size,1,none⟩=some (.string word)∧W.cell? ⟨w.heap.size+1,1,none⟩=some (.slice Ah nh ch))):=fun W hW=>⟨(hW.cell (p:=⟨w.heap.size,1,none⟩) hlz).trans p1,(hW.cell (p:=⟨w.heap.size+1,1,none⟩) hlz1).trans q1⟩
      cases v
      all_goals
        go_wp2_with fail
        go_region_held3 (fun W=>W.cell? ⟨w.heap.size,1,none⟩=some (.string word)∧W.cell? ⟨w.heap.size+1,1,none⟩=some (.slice Ah nh ch)) ((refine KS.out _ ?_;first|exact Below.refl _ _|exact(Below.refl _ _).drew|exact b1)) (first|(go_at_call 65;(with_reducible refine(GateKind_spec word _).mono ?_);rintro e w1 ⟨rfl,b1d,s1d⟩;have b1:=below_undrewC b1d)|(go_at_call 73;(with_reducible refine(HCT.out _).mono ?_);rintro e w' ⟨rfl,rfl⟩))
        have hs1:=b1.size
        have bb:=hb.trans (b1.mono hbs)
        have r1:=(KS.out _ b1).1
        clear p0 p1 p2 p3 p4 q0 q1 q2 q3
        obtain ⟨k0,k1⟩:=boxc2 (lay:=bb) X2.out
        have f0:=boxfree bb X2.out 0
        have f1:=boxfree bb X2.out 1
        have hl2:w.heap.size+1+1<w1.heap.size:=by omega
        have hl0:w.heap.size<w1.heap.size:=by omega
        go_wp2_with fail
      · have HF:=hD (gateBad_f (word:=word) hc'.out (by rw[HNH.out];exact HV.out.symm))
        exact bodyPost_ret (v:=.agg #[.int .i64 9,.string word]) (by simp [results,Try.results61,go_sem,k0,k1]) rfl ⟨by rw[HF.out],((B0.out.trans (bb.mono Zq1)).setCell Zq6 _).setCell Zq6 _,by simp [World.setCell];omega⟩
      · have HF:=hD (gateBad_t (word:=word) hc'.out (by rw[HNH.out];exact HV.out.symm))
        exact bodyPost_ret (v:=.agg #[.int .i64 0,.string ⟨#[]⟩]) (by simp [results,Try.results61,go_sem,k0,k1]) rfl ⟨by rw[HF.out];rfl,((B0.out.trans (bb.mono Zq1)).setCell Zq6 _).setCell Zq6 _,by simp [World.setCell];omega⟩
theorem validT_mem {d:Nat} {l:List (Tr (d+1))} {t:Nat} {s:Tr (d+1)} (h:validT (d+1) l=true) (hs:l[t]?=some s):vOne d (validT d) (hdT s) (bdT s)=true:=List.all_eq_true.1 h s (List.mem_of_getElem? hs)
theorem vOne_facts {d:Nat} {k:Int} {word:ByteArray} {args:List ByteArray} {count:Int} {bd:List (Tr d)} (h:vOne d (validT d) ⟨k,word,args,count⟩ bd=true):(1≤k∧k≤7)∧(k=2→1≤count∧count≤9)∧validT d bd=true:=by
 unfold vOne headV at h
 simp only[Bool.and_eq_true] at h
 obtain ⟨⟨h1,_,_,_,_,h2⟩,_,h3⟩:=h
 refine ⟨inB_iff.1 h1,fun hk=>?_,h3⟩
 unfold okCount at h2
 rw[if_pos hk] at h2
 exact inB_iff.1 h2
theorem own_low {w:World} {B B' e size n:Nat} {v:Value} {xs:List Value} (h:w.ownsRow B e size v n xs) (hB:B'≤B):w.ownsRow B' e size v n xs:=by
 refine ⟨h.1,?_⟩
 rcases h.2 with h2|⟨g,cap,cur,h1,h2,h3⟩
 ·exact .inl h2
 ·exact .inr ⟨g,cap,cur,h1,Nat.le_trans hB h2,h3⟩
def arg0 (h:SH):ByteArray:=h.args.getD 0 ⟨#[]⟩
theorem arg0_of {h:SH} (hl:0<h.args.length):h.args[0]?=some (arg0 h):=by
 unfold arg0
 rw[List.getD_eq_getElem?_getD,List.getElem?_eq_getElem hl]
 rfl
def stepN (h:SH) (names held:List ByteArray):Bad × (List ByteArray × List ByteArray) :=
 if h.k=1 then (gateBad names held h.args h.word,(names,held))
 else if h.k=6 then ((6,arg0 h),(names,held))
 else if h.k=7 then ((6,arg0 h),(names,held))
 else if h.k=4 then (argBad names held (arg0 h),(names,held++[arg0 h]))
 else if h.k=5 then (if hasS names (arg0 h)=true then ((1,arg0 h),(names,held)) else if names.length=4 then ((5,arg0 h),(names,held)) else (bad0,(names++[arg0 h],held)))
 else (bad0,(names,held))
def oneN (h:SH) (body:List ByteArray→List ByteArray→Bad) (names held:List ByteArray):Bad :=
 if (stepN h names held).1.1=0 then body (stepN h names held).2.1 (stepN h names held).2.2 else (stepN h names held).1
def firstB:List Bad→Bad
 | []=>bad0
 | c :: r=>if c.1=0 then firstB r else c
def chkN:(d:Nat)→List (Tr d)→List ByteArray→List ByteArray→Bad
 | 0,_,_,_=>bad0
 | d+1,l,names,held=>firstB (l.map fun s=>oneN (hdT s) (chkN d (bdT s)) names held)
theorem chkN_nil (d:Nat) (names held:List ByteArray):chkN d [] names held=bad0:=by cases d <;> rfl
theorem firstB_take {L:List Bad} {t:Nat} {c:Bad} (h:L[t]?=some c) (h0:firstB (L.take t)=bad0) (hz:∀ x∈L.take t,x.1=0) (hc:c.1≠0):firstB L=c:=by
 induction L generalizing t with
 | nil=>simp at h
 | cons x L ih =>
  cases t with
  | zero =>
   simp at h
   subst h
   rw[firstB,if_neg hc]
  | succ t =>
   have hx:=hz x Zq5
   rw[firstB,if_pos hx]
   rw[List.take_succ_cons,firstB,if_pos hx] at h0
   exact ih (by simpa using h) h0 (fun y hy=>hz y (by simp [hy]))
theorem firstB_zero {L:List Bad} (hz:∀ x∈L,x.1=0):firstB L=bad0:=by
 induction L with
 | nil=>rfl
 | cons x L ih=>rw[firstB,if_pos (hz x Zq5),ih (fun y hy=>hz y (by simp [hy]))]
theorem oneN_z {h:SH} {body:List ByteArray→List ByteArray→Bad} {names held:List ByteArray} {p:List ByteArray × List ByteArray} (hs:stepN h names held=(bad0,p)):oneN h body names held=body p.1 p.2:=by rw[oneN,hs,if_pos (show(bad0,p).1.1=0 from rfl)]
theorem oneN_b {h:SH} {body:List ByteArray→List ByteArray→Bad} {names held:List ByteArray} {c:Bad} {p:List ByteArray × List ByteArray} (hs:stepN h names held=(c,p)) (hc:c.1≠0):oneN h body names held=c:=by rw[oneN,hs,if_neg hc]
theorem oneN_gate {d:Nat} {h:SH} {bd:List (Tr d)} {names held:List ByteArray} (hk:h.k=1) (hb:bd=[]):oneN h (chkN d bd) names held=gateBad names held h.args h.word:=by
 subst hb
 have hs:stepN h names held=(gateBad names held h.args h.word,(names,held)):=by rw[stepN,if_pos hk]
 rw[oneN,hs,chkN_nil]
 split
 ·rename_i e
  unfold gateBad at e ⊢
  split at e
  ·rename_i h1
   rw[if_pos h1]
   split at e
   ·rename_i h2;rw[if_pos h2]
   ·exact absurd e Zq5
  ·rename_i h1
   exact absurd e h1
 ·rfl
theorem valid_gate {d:Nat} {h:SH} {bd:List (Tr d)} (hv:vOne d (validT d) h bd=true) (hk:hasB h.k=false):bd=[]:=by
 unfold vOne headV at hv
 simp only[Bool.and_eq_true] at hv
 obtain ⟨⟨_,_,_,_,h5,_⟩,_⟩:=hv
 have:=of_decide_eq_true h5
 rcases this with h|h
 ·rw[hk] at h;cases h
 ·exact List.eq_nil_of_length_eq_zero h
theorem valid_args {d:Nat} {h:SH} {bd:List (Tr d)} (hv:vOne d (validT d) h bd=true):h.args.length=nargs h.k h.word:=by
 unfold vOne headV at hv
 simp only[Bool.and_eq_true] at hv
 exact of_decide_eq_true hv.1.2.1
theorem l20Measure_in (word:ByteArray) (args:List ByteArray) (a:ByteArray) (count:Int) (Aa:Option Addr) (m ca:Nat) (Ac:Option Addr) (nc cc E:Nat) (An Ah Ab:Option Addr) (nn cn nh ch nb cb:Nat) (w:World)
  (hx:w.heap[E]?=some (.cells #[.slice An nn cn,.slice Ah nh ch,.bool true,.slice Ab nb cb] 72 (0,0))) (hra:Rd w 1 Aa m (strs args)) (ha:args[0]?=some a) (hm:0<m) (hm2:m≤1048576) :
  Calls Try.prog 63 #[.agg #[.int .i64 6,.string word,.slice Aa m ca,.int .i64 count,.slice Ac nc cc],.pointer (some ⟨E,0,none⟩)] w (RetBadA (6,a) w):=by
 obtain ⟨b,off,rfl,hbl,hc⟩:=hra.2 hm
 have r0:=hc 0 _ (strs_at ha)
 rw[Nat.add_zero] at r0
 obtain ⟨q0,q1,q2,q3⟩:=boxcells4' (lay:=Below.refl _ _) hx
 have hEl:=lt_of_block hx
 have hm3:(0:Int)<(m:Int):=by omega
 clear hc hra hx ha
 go_enter Try.func63,Try.ntmps63
 go_wp2_with fail
 exact bodyPost_ret (v:=.agg #[.int .i64 6,.string a]) (by simp [results,Try.results63,go_sem]) rfl ⟨rfl,Zq0,Zq2⟩
theorem step_append_rdO {P:Program} (w:World) {ops:Array Oper} {o:Oper} {a:Act} {K:Act→World→Prop} {Q:Exit→Act→World→Prop} {E:Prop} (hgd:o.guard=none) (s x:Operand) (t:TypeId)
  (ho:o.op=.call { callee:=.builtin .append,args:=#[s,x],argTypes:=#[t,t] })
  (base:Nat) (e:TypeId) (i:TypeInfo) (z:Value) (size bytes:Nat) (ht:P.underlying t=some (.slice e)) (hi:P.info? e=some i) (hz:i.zero=some z)
  (hsize:i.size=size) (hby:i.bytes=bytes) (hzs:z.cells.size=size) (hsz:0<size)
  (v:Value) (n:Nat) (xs:List Value) (hs:a.eval s=v) (hown:w.ownsRow base e size v n xs)
  (A:Option Addr) (m c:Nat) (news:List Value) (hx:a.eval x=.slice A m c) (hr:Rd w size A m news) (h1:∀ u∈news,u.oneCell'=true)
  (h63:n+m≤maxLen) (hbytes:(n+m)*bytes≤140737488355328) (hbase:base≤w.heap.size)
  (h:∀ v' w',w'.ownsRow base e size v' (n+m) (xs++news)→w.grownBy w' v.ownBlock→(v'.ownBlock=v.ownBlock∨v'.ownBlock=some w.heap.size)→K (a.put o.dst v') w') :
  if Region.wanted o (yielded ops a.tmps)=true then Oper.wp P o a w K Q else E:=by
 have hw:Region.wanted o (yielded ops a.tmps)=true:=by simp [Region.wanted,hgd]
 rw[if_pos hw]
 obtain ⟨v',w',hrun,h2,h3,h4⟩:=run_append_rd (P:=P) w base t o.type e i z size bytes ht hi hz hsize hby hzs hsz v n xs hown A m c news hr h1 h63 hbytes hbase
 unfold Oper.wp execOp
 simp only[ho,resolve,invoke,builtin,Sem.run_bind,Sem.run_pure,Result.andThen_ok,List.map_toArray,List.map_cons,List.map_nil,hs,hx,hrun]
 exact h v' w' h2 h3 h4
def arg1 (h:SH):ByteArray:=h.args.getD 1 ⟨#[]⟩
theorem arg1_of {h:SH} (hl:1<h.args.length):h.args[1]?=some (arg1 h):=by
 unfold arg1
 rw[List.getD_eq_getElem?_getD,List.getElem?_eq_getElem hl]
 rfl
def measT (names bits:List ByteArray) (q b:ByteArray):Bad × List ByteArray :=
 if hasS names q=false then ((2,q),bits)
 else if hasS names b=true then ((1,b),bits)
 else if hasS bits b=true then ((1,b),bits)
 else if bits.length=3 then ((8,b),bits)
 else (bad0,bits++[b])
def oneT (d:Nat) (h:SH) (bd:List (Tr d)) (names bits:List ByteArray):Bad × List ByteArray :=
 if h.k=6 then measT names bits (arg0 h) (arg1 h)
 else if h.k=7 then (if hasS bits (arg0 h)=true then chkN d bd names [] else (7,arg0 h),bits)
 else (oneN h (chkN d bd) names [],bits)
def topB {α:Type} (f:α→List ByteArray→Bad × List ByteArray):List α→List ByteArray→Bad
 | [],_=>bad0
 | s :: l,bits=>if (f s bits).1.1=0 then topB f l (f s bits).2 else (f s bits).1
def chkT:(d:Nat)→List (Tr d)→List ByteArray→List ByteArray→Bad
 | 0,_,_,_=>bad0
 | d+1,l,names,bits=>topB (fun s bits=>oneT d (hdT s) (bdT s) names bits) l bits
theorem topB_at {α:Type} {f:α→List ByteArray→Bad × List ByteArray} {l:List α} {t:Nat} {s:α} {bits:List ByteArray} (h:l[t]?=some s):topB f (l.drop t) bits=if (f s bits).1.1=0 then topB f (l.drop (t+1)) (f s bits).2 else (f s bits).1:=by
 obtain ⟨ht,he⟩:=List.getElem?_eq_some_iff.1 h
 rw[List.drop_eq_getElem_cons ht,topB,he]
theorem measT_len {names bits:List ByteArray} {q b:ByteArray} (h:bits.length≤3):(measT names bits q b).2.length≤3:=by
 unfold measT
 split
 ·exact h
 ·split
  ·exact h
  ·split
   ·exact h
   ·split
    ·exact h
    ·simp
     omega
theorem oneT_len {d:Nat} {h:SH} {bd:List (Tr d)} {names bits:List ByteArray} (hb:bits.length≤3):(oneT d h bd names bits).2.length≤3:=by
 unfold oneT
 split
 ·exact measT_len hb
 ·split <;> exact hb
structure Mod (X:Nat) (r:Option Nat) (w w':World):Prop where
 os:w'.os=w.os
 tape:w'.tape=w.tape
 output:w'.output=w.output
 size:w.heap.size≤w'.heap.size
 block:∀ b,b<w.heap.size→b≠X→r≠some b→w'.heap[b]?=w.heap[b]?
theorem Mod.of_below {w w':World} (X:Nat) (r:Option Nat) (h:Below w.heap.size w w'):Mod X r w w':=⟨h.os,h.tape,h.output,h.size,fun b hb _ _=>h.block b hb⟩
theorem Mod.trans {X:Nat} {r r':Option Nat} {w w1 w2:World} (h:Mod X r w w1) (h':Mod X r' w1 w2) (hr:r'=r∨∃ k,r'=some k∧w.heap.size≤k):Mod X r w w2 :=
 ⟨h'.os.trans h.os,h'.tape.trans h.tape,h'.output.trans h.output,Nat.le_trans h.size h'.size,fun b hb h1 h2 =>
  (h'.block b (Nat.lt_of_lt_of_le hb h.size) h1 (by
   rcases hr with rfl|⟨k,rfl,hk⟩
   ·exact h2
   ·intro e
    have:=Option.some.inj e
    omega)).trans (h.block b hb h1 h2)⟩
theorem Mod.grown {X:Nat} {r:Option Nat} {w w1:World} (h:w.grownBy w1 r):Mod X r w w1:=⟨h.os,h.tape,h.output,h.size,fun b hb _ h2=>h.block b hb (fun e=>h2 e.symm)⟩
theorem Mod.set {X:Nat} {r:Option Nat} {w w1:World} (h:Mod X r w w1) {p:Addr} (hp:p.block=X∨w.heap.size≤p.block) (u:Value):Mod X r w (w1.setCell p u) :=
 ⟨by simp [World.setCell,h.os],by simp [World.setCell,h.tape],by simp [World.setCell,h.output],by rw[size_setCell];exact h.size,fun b hb h1 h2=>by
  rw[←h.block b hb h1 h2]
  exact Below.heap_setCell w1 p u b (fun e=>by rcases hp with hp|hp <;> omega)⟩
theorem Mod.below {X B:Nat} {r:Option Nat} {w w':World} (h:Mod X r w w') (hB:B≤w.heap.size) (hX:B≤X) (hr:∀ k,r=some k→B≤k):Below B w w' :=
 ⟨h.os,h.tape,h.output,h.size,fun b hb=>h.block b Zq1 Zq1 (fun e=>by have:=hr b e;omega)⟩
def Grew (r:Option Nat) (z:Nat) (r':Option Nat):Prop:=r'=r∨∃ k,r'=some k∧z≤k
theorem own_ne_typeM {w:World} {base e size n g:Nat} {v:Value} {xs:List Value} {cs:Array Value} {t:TypeId} (h:w.ownsRow base e size v n xs) (hg:w.heap[g]?=some (.cells cs t (0,0))) (hne:e≠t):v.ownBlock≠some g:=by
 rcases h.2 with ⟨rfl,_⟩|⟨g',cap,cur,rfl,_,hh,_⟩
 ·simp [Value.ownBlock]
 ·intro he
  have e1:g'=g:=by simpa [Value.ownBlock] using he
  subst e1
  rw[hh] at hg
  injection hg with hg
  injection hg with _ ht
  exact hne ht
theorem own_setfarM {w:World} {base e size n:Nat} {v:Value} {xs:List Value} (h:w.ownsRow base e size v n xs) {p:Addr} (hp:v.ownBlock≠some p.block) (u:Value):(w.setCell p u).ownsRow base e size v n xs:=by
 refine ⟨h.1,?_⟩
 rcases h.2 with hn|⟨g,cap,cur,rfl,hb,hh,rest⟩
 ·exact .inl hn
 ·exact .inr ⟨g,cap,cur,rfl,hb,heap_set_far hh (fun e=>hp (by simp [Value.ownBlock,e])) u,rest⟩
theorem free_atM {w:World} {b j:Nat} {cs:Array Value} {t:TypeId} (h:w.heap[b]?=some (.cells cs t (0,0))):w.frozen? ⟨b,j,none⟩=false:=by simp [World.frozen?,h]
def idx (l:List ByteArray) (s:ByteArray):Option Nat:=l.findIdx? fun x=>eqSt x s
def atS (l:List ByteArray) (s:ByteArray):Nat:=(idx l s).getD 0
def ixI (l:List ByteArray) (s:ByteArray):Int:=match idx l s with|some t=>(t:Int)|none=>-1
theorem idx_has {l:List ByteArray} {s:ByteArray} (h:hasS l s=true):∃ t,idx l s=some t:=by
 have h1:(idx l s).isSome=true:=by unfold idx;rw[List.findIdx?_isSome];exact h
 exact Option.isSome_iff_exists.1 h1
theorem ix_at {l:List ByteArray} {s:ByteArray} (h:hasS l s=true):ixI l s=(atS l s:Int):=by
 obtain ⟨t,ht⟩:=idx_has h
 unfold ixI atS
 rw[ht]
 rfl
theorem atS_get {l:List ByteArray} {s:ByteArray} (h:hasS l s=true):l[atS l s]?=some s:=by
 obtain ⟨t,ht⟩:=idx_has h
 have h1:atS l s=t:=by unfold atS;rw[ht];rfl
 rw[h1]
 unfold idx at ht
 rw[List.findIdx?_eq_some_iff_getElem] at ht
 obtain ⟨hl,he,_⟩:=ht
 rw[List.getElem?_eq_getElem hl,eqSt_eq he]
theorem atS_lt {l:List ByteArray} {s:ByteArray} (h:hasS l s=true):atS l s<l.length:=(List.getElem?_eq_some_iff.1 (atS_get h)).1
theorem atS_inj {l:List ByteArray} {a b:ByteArray} (ha:hasS l a=true) (hb:hasS l b=true) (e:atS l a=atS l b):a=b:=by
 have h1:=atS_get ha
 rw[e,atS_get hb] at h1
 injection h1 with h1
 exact h1.symm
theorem atS_app {l r:List ByteArray} {s:ByteArray} (h:hasS l s=true):atS (l++r) s=atS l s:=by
 obtain ⟨t,ht⟩:=idx_has h
 have h2:idx (l++r) s=some t:=by
  unfold idx at ht ⊢
  rw[List.findIdx?_append,ht]
  rfl
 unfold atS
 rw[h2,ht]
theorem has_app {l r:List ByteArray} {s:ByteArray} (h:hasS l s=true):hasS (l++r) s=true:=by
 unfold hasS at h ⊢
 rw[List.any_append,h]
 rfl
def gat (f:ByteArray→Int) (h:SH):Gt:=⟨gkind h.word,f (arg0 h),if 1<h.args.length then f (arg1 h) else 0,if 2<h.args.length then f (h.args.getD 2 ⟨#[]⟩) else 0⟩
def opClean (q:Int):Opt:=⟨3,⟨0,0,0,0⟩,q,0,0⟩
def opMeas (q b:Int):Opt:=⟨2,⟨0,0,0,0⟩,q,b,0⟩
def setIf (c:Int) (l:List Opt):List Opt:=l.map fun o=>if o.k=1 then ⟨o.k,o.g,o.q,o.bit,c⟩ else o
structure Es where
 bits:List ByteArray
 most:Nat
 bad:Bool
def fS (l:List ByteArray) (s:ByteArray):Int:=atS l s
def sS {d:Nat} (all:List (Tr d)→List ByteArray→Es→List Opt × Es) (h:SH) (bd:List (Tr d)) (names:List ByteArray) (e:Es):List Opt × Es :=
 if h.k=1 then ([gop 0 (gat (fS names) h)],e)
 else if h.k=2 then (repO (all bd names e).1 (reps h.count),(all bd names e).2)
 else if h.k=3 then (adjO (all bd names e).1,(all bd names e).2)
 else if h.k=4 then (osL (fS names (arg0 h)) (all bd names e).1,(all bd names e).2)
 else if h.k=5 then ([opClean names.length]++(all bd (names++[arg0 h]) ⟨e.bits,max e.most (names.length+1),e.bad⟩).1++[opClean names.length],(all bd (names++[arg0 h]) ⟨e.bits,max e.most (names.length+1),e.bad⟩).2)
 else if h.k=6 then ([opMeas (fS names (arg0 h)) e.bits.length],⟨e.bits++[arg1 h],e.most,e.bad⟩)
 else (setIf (fS (all bd names e).2.bits (arg0 h)+1) (all bd names e).1,(all bd names e).2)
def sL {α:Type} (one:α→Es→List Opt × Es):List α→List Opt→Es→List Opt × Es
 | [],out,e=>(out,e)
 | s :: l,out,e=>if 2000<(out++(one s e).1).length then ([],⟨(one s e).2.bits,(one s e).2.most,true⟩) else sL one l (out++(one s e).1) (one s e).2
def sA:(d:Nat)→List (Tr d)→List ByteArray→Es→List Opt × Es
 | 0,_,_,e=>([],e)
 | d+1,l,names,e=>sL (fun s e=>sS (sA d) (hdT s) (bdT s) names e) l [] e
def iS {d:Nat} (all:List (Tr d)→List ByteArray→Es→List Opt × Es) (h:SH) (bd:List (Tr d)) (names:List ByteArray) (e:Es):List Opt × Es :=
 if h.k=1 then ([gop 0 (gat (ixI names) h)],e)
 else if h.k=2 then (repO (all bd names e).1 (reps h.count),(all bd names e).2)
 else if h.k=3 then (adjO (all bd names e).1,(all bd names e).2)
 else if h.k=4 then (osL (ixI names (arg0 h)) (all bd names e).1,⟨(all bd names e).2.bits,(all bd names e).2.most,(all bd names e).2.bad || !osB (ixI names (arg0 h)) (all bd names e).1⟩)
 else if h.k=5 then ([opClean names.length]++(all bd (names++[arg0 h]) e).1++[opClean names.length],(all bd (names++[arg0 h]) e).2)
 else if h.k=6 then ([opMeas (ixI names (arg0 h)) e.bits.length],⟨e.bits++[arg1 h],e.most,e.bad⟩)
 else (setIf (1+ixI (all bd names e).2.bits (arg0 h)) (all bd names e).1,(all bd names e).2)
def iL {α:Type} (one:α→Es→List Opt × Es):List α→List Opt→Es→List Opt × Es
 | [],out,e=>(out,e)
 | s :: l,out,e=>if e.bad=true then ([],e) else iL one l (out++(one s e).1) ⟨(one s e).2.bits,(one s e).2.most,(one s e).2.bad || decide (120<(out++(one s e).1).length)⟩
def iA:(d:Nat)→List (Tr d)→List ByteArray→Es→List Opt × Es
 | 0,_,names,e=>([],⟨e.bits,max e.most names.length,e.bad⟩)
 | d+1,l,names,e=>iL (fun s e=>iS (iA d) (hdT s) (bdT s) names e) l [] ⟨e.bits,max e.most names.length,e.bad⟩
def dL {α:Type} (one:α→Es→List Opt × Es):List α→List Opt→Es→List Opt × Es
 | [],out,e=>(out,e)
 | s :: l,out,e=>dL one l (out++(one s e).1) (one s e).2
def dA:(d:Nat)→List (Tr d)→List ByteArray→Es→List Opt × Es
 | 0,_,_,e=>([],e)
 | d+1,l,names,e=>dL (fun s e=>sS (dA d) (hdT s) (bdT s) names e) l [] e
theorem idx_hit {l:List ByteArray} {s x:ByteArray} {t:Nat} (h:l[t]?=some x) (he:eqSt x s=true) (h0:hasS (l.take t) s=false):idx l s=some t:=by
 obtain ⟨hl,rfl⟩:=List.getElem?_eq_some_iff.1 h
 unfold idx
 rw[List.findIdx?_eq_some_iff_getElem]
 refine ⟨hl,he,fun j hj=>?_⟩
 intro hc
 have:hasS (l.take t) s=true:=hasS_t (t:=j) (x:=l[j]) (by rw[List.getElem?_take_of_lt hj,List.getElem?_eq_getElem]) hc
 rw[this] at h0
 cases h0
theorem idx_none {l:List ByteArray} {s:ByteArray} (h:hasS l s=false):idx l s=none:=by
 cases hx:idx l s with
 | none=>rfl
 | some t =>
  have h1:(idx l s).isSome=hasS l s:=by unfold idx;rw[List.findIdx?_isSome];rfl
  rw[hx,h] at h1
  cases h1
theorem l22At_any (A:Option Addr) (n c:Nat) (l:List ByteArray) (s:ByteArray) (w:World) (h:Rd w 1 A n (strs l)) (hl:l.length=n) (hn:n≤1099511627776) :
  Calls Try.prog 50 #[.slice A n c,.string s] w fun e w'=>e=.returned (.int .i64 (fS l s))∧w=w':=by
 have H:=hD h
 have HL:=hD hl
 clear h hl
 go_enter Try.func50,Try.ntmps50
 go_wp2
 go_loop [5] (fun i=>∃ t:Nat,t≤n∧i=.int .i64 t∧hasS (l.take t) s=false) (fun i=>n - (intOf i).toNat)
 case atStart=>exact ⟨0,Nat.zero_le _,rfl,rfl⟩
 case round =>
  obtain ⟨t,ht,rfl,hok⟩:=hrel
  have HOK:=hD hok
  clear hok
  by_cases hlt:t<n
  ·obtain ⟨x,hx⟩:∃ x,l[t]?=some x:=⟨_,List.getElem?_eq_getElem (by rw[HL.out];exact hlt)⟩
   obtain ⟨b,off,rfl,_,hc⟩:=H.out.2 Zq1
   have q0:=hc t _ (strs_at hx)
   have HX:=hD hx
   clear hc hx
   cases he:eqSt x s
   ·have hne:(x.toList==s.toList)=false:=he
    have HN:=hD (hasS_step HX.out he HOK.out)
    clear he
    go_wp2_with fail
    go_round
    case rel=>exact ⟨t+1,by omega,by go_num,HN.out⟩
    case measure=>simp [intOf];omega
   ·have hne:(x.toList==s.toList)=true:=he
    have HF:Hid (fS l s=t):=by show((atS l s:Nat):Int)=t;unfold atS;rw[idx_hit HX.out he HOK.out];rfl
    clear he
    go_wp2_with fail
    go_ret
    exact ⟨by rw[HF.out];rfl,rfl⟩
  ·obtain rfl:t=n:=by omega
   have HF:Hid (fS l s=0):=by
    have h:=HOK.out
    rw[List.take_of_length_le (by rw[HL.out];exact Nat.le_refl _)] at h
    show((atS l s:Nat):Int)=0
    unfold atS
    rw[idx_none h]
    rfl
   go_wp2_with fail
   go_ret
   exact ⟨by rw[HF.out];rfl,rfl⟩
def ifO (c:Int) (o:Opt):Opt:=if o.k=1 then ⟨o.k,o.g,o.q,o.bit,c⟩ else o
theorem setIf_map (c:Int) (l:List Opt):setIf c l=l.map (ifO c):=rfl
theorem setIf_step {c:Int} {l:List Opt} {t:Nat} {o:Opt} (h:l[t]?=some o):setIf c (l.take (t+1))=setIf c (l.take t)++[ifO c o]:=by
 rw[List.take_add_one,h,setIf_map,setIf_map,List.map_append]
 rfl
theorem l22If_any (A:Option Addr) (n c:Nat) (l:List Opt) (cond:Int) (w:World) (h:Rd w 8 A n (l.flatMap ocells)) (hl:l.length=n) (hn:n≤1073741824) :
  Calls Try.prog 53 #[.slice A n c,.int .i64 cond] w (RetRow 60 8 w n ((setIf cond l).flatMap ocells)):=by
 obtain ⟨i0,hi,hz0,hz1,hz2⟩:=info_parts info_OpE
 have H:=hD h
 have HL:=hD hl
 clear h hl
 go_enter Try.func53,Try.ntmps53
 go_wp2
 go_loopw [5,6] (fun v i wr=>∃ t:Nat,t≤n∧i=.int .i64 (t:Int)∧wr.ownsRow w.heap.size 60 8 v t ((setIf cond (l.take t)).flatMap ocells)∧Below w.heap.size w wr) (fun _ i _=>n - (intOf i).toNat)
 case atStart=>exact ⟨0,Nat.zero_le _,rfl,own_empty w _ 8,Zq0⟩
 case round =>
  obtain ⟨t,ht,rfl,hown,hb⟩:=hrel
  by_cases hlt:t<n
  ·have hsl:t<l.length:=by rw[HL.out];omega
   obtain ⟨o,ho⟩:∃ o,l[t]?=some o:=⟨_,List.getElem?_eq_getElem hsl⟩
   obtain ⟨b,off,rfl,hbl,hc⟩:=H.out.2 Zq1
   have q0:wr.cell? ⟨b,off+t*8,none⟩=some (.int .i64 o.k):=(hb.cell (by exact hbl)).trans (hc (t*8+0) _ (flat_at ocells_len l t o 0 ho Zq4))
   have q1:wr.cell? ⟨b,off+t*8+1,none⟩=some (.int .i64 o.g.k):=(hb.cell (by exact hbl)).trans (hc (t*8+1) _ (flat_at ocells_len l t o 1 ho Zq4))
   have q2:wr.cell? ⟨b,off+t*8+2,none⟩=some (.int .i64 o.g.a):=(hb.cell (by exact hbl)).trans (hc (t*8+2) _ (flat_at ocells_len l t o 2 ho Zq4))
   have q3:wr.cell? ⟨b,off+t*8+3,none⟩=some (.int .i64 o.g.b):=(hb.cell (by exact hbl)).trans (hc (t*8+3) _ (flat_at ocells_len l t o 3 ho Zq4))
   have q4:wr.cell? ⟨b,off+t*8+4,none⟩=some (.int .i64 o.g.c):=(hb.cell (by exact hbl)).trans (hc (t*8+4) _ (flat_at ocells_len l t o 4 ho Zq4))
   have q5:wr.cell? ⟨b,off+t*8+5,none⟩=some (.int .i64 o.q):=(hb.cell (by exact hbl)).trans (hc (t*8+5) _ (flat_at ocells_len l t o 5 ho Zq4))
   have q6:wr.cell? ⟨b,off+t*8+6,none⟩=some (.int .i64 o.bit):=(hb.cell (by exact hbl)).trans (hc (t*8+6) _ (flat_at ocells_len l t o 6 ho Zq4))
   have q7:wr.cell? ⟨b,off+t*8+7,none⟩=some (.int .i64 o.cond):=(hb.cell (by exact hbl)).trans (hc (t*8+7) _ (flat_at ocells_len l t o 7 ho Zq4))
   have HS:=hD (setIf_step (c:=cond) ho)
   obtain ⟨L,hL⟩:∃ L,L=(setIf cond (l.take t)).flatMap ocells:=⟨_,rfl⟩
   rw[←hL] at hown
   have HL2:=hD hL
   clear hc ho hsl hL
   by_cases hk:o.k=1
   ·have hk':(o.k==1)=true:=by simp [hk]
    have HK:=hD (show ifO cond o=⟨o.k,o.g,o.q,o.bit,cond⟩ by rw[ifO,if_pos hk])
    clear hk
    go_wp2_with (at_builtin;refine wpList_append_rd _ rfl _ _ 31 rfl w.heap.size 60 i0 _ 8 64 Try.underlying31 hi hz0 hz1 hz2 rfl Zq4 _ _ _ rfl ((hown.alloc _).alloc _) _ 1 1 _ rfl (rd_lit ?c0 rfl) ?c2 ?c3 ?c4 ?c5 ?_)
    case c0=>first|rfl|simp
    case c2=>repeat' (first|rfl|apply And.intro)
    case c3=>simp only[maxLen];omega
    case c4=>omega
    case c5=>have:=hb.size;simp;omega
    intro v3 w3 own3 gr3 _
    have b3:=((hb.alloc hb.size _).alloc (by have:=hb.size;simp;omega) _).grown gr3 (by have:=hb.size;simp;omega) (own_ge hown)
    clear hown gr3
    go_wp2
    go_roundw
    case rel =>
     refine ⟨t+1,by omega,by go_num,?_,b3⟩
     rw[HS.out,List.flatMap_append,←HL2.out,HK.out]
     exact own3
    case measure=>simp [intOf];omega
   ·have hk':(o.k==1)=false:=by simp [hk]
    have HK:=hD (show ifO cond o=o by rw[ifO,if_neg hk])
    clear hk
    go_wp2_with (at_builtin;refine wpList_append_rd _ rfl _ _ 31 rfl w.heap.size 60 i0 _ 8 64 Try.underlying31 hi hz0 hz1 hz2 rfl Zq4 _ _ _ rfl ((hown.alloc _).alloc _) _ 1 1 _ rfl (rd_lit ?c0 rfl) ?c2 ?c3 ?c4 ?c5 ?_)
    case c0=>first|rfl|simp
    case c2=>repeat' (first|rfl|apply And.intro)
    case c3=>simp only[maxLen];omega
    case c4=>omega
    case c5=>have:=hb.size;simp;omega
    intro v3 w3 own3 gr3 _
    have b3:=((hb.alloc hb.size _).alloc (by have:=hb.size;simp;omega) _).grown gr3 (by have:=hb.size;simp;omega) (own_ge hown)
    clear hown gr3
    go_wp2
    go_roundw
    case rel =>
     refine ⟨t+1,by omega,by go_num,?_,b3⟩
     rw[HS.out,List.flatMap_append,←HL2.out,HK.out]
     exact own3
    case measure=>simp [intOf];omega
  ·obtain rfl:t=n:=by omega
   have HF:Hid (setIf cond (l.take t)=setIf cond l):=by show _=_;rw[List.take_of_length_le (by rw[HL.out];exact Nat.le_refl _)]
   go_wp2
   go_ret
   exact ⟨_,rfl,by rw[HF.out] at hown;exact hown,hb,hb.size⟩
end Go.Proofs.Ythkbckkghnbonaa
