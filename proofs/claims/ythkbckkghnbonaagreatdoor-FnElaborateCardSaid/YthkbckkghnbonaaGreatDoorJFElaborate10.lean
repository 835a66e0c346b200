/- What the calls that this law reaches answer, part 10 of 20. -/
import Derived.Test.YthkbckkghnbonaaGreatDoorJFElaborate9
import Derived.Test.YthkbckkghnbonaaGreatDoorJFElaborate8
set_option maxRecDepth 100000
set_option maxHeartbeats 16000000
set_option linter.unusedVariables false
namespace Go.Proofs.YthkbckkghnbonaaGreatDoor
open Go.RowKit
set_option linter.unusedVariables false
theorem ylt {h:SH} {names held:List ByteArray} (h0:(yb8 h names held).1.1=0) (hn:names.length≤4):(yb8 h names held).2.1.length≤4∧(yb8 h names held).2.2.length≤held.length+1:=by
 unfold yb8 at h0 ⊢
 split
 ·exact ⟨hn,by simp⟩
 ·split
  ·exact ⟨hn,by simp⟩
  ·split
   ·exact ⟨hn,by simp⟩
   ·split
    ·exact ⟨hn,by simp⟩
    ·split
     ·split
      ·exact ⟨hn,by simp⟩
      ·split
       ·exact ⟨hn,by simp⟩
       ·exact ⟨by simp;omega,by simp⟩
     ·exact ⟨hn,by simp⟩
theorem ykj {h:SH} {names held:List ByteArray} (h1:4≤h.k→1≤h.args.length):(yb8 h names held).2.2.length≤held.length+h.args.length:=by
 unfold yb8
 split
 ·simp
 ·split
  ·simp
  ·split
   ·simp
   ·split
    ·rename_i h4
     have:=h1 Zq6
     simp
     omega
    ·split
     ·split
      ·simp
      ·split <;> simp
     ·simp
theorem yfo {d:Nat} {h:SH} {bd:List (Tr d)} (hv:vOne d (ya7 d) h bd=true):(h.k=6→2≤h.args.length)∧(4≤h.k→1≤h.args.length):=by
 have e:=ye6 hv
 refine ⟨fun hk=>?_,fun hk=>?_⟩
 ·have h6:yar 6 h.word=2:=rfl
  rw[e,hk,h6]
  exact Nat.le_refl 2
 ·rw[e]
  unfold yar
  repeat' split
  all_goals omega
def AllI (d:Nat):Prop:=∀ (lo:Nat) (C:Value) (A:Option Addr) (n c:Nat) (l:List (Tr d)) (An:Option Addr) (nn cn:Nat) (Ah:Option Addr) (nh ch:Nat) (names held:List ByteArray) (w:World),RdT w lo d A n l →
 Rd w 1 An nn (strs names)→Rd w 1 Ah nh (strs held)→names.length=nn→held.length=nh→nn≤4→nh+szT d l≤1048576→ya7 d l=true →
 Calls Tryz.prog 119 #[C,.slice A n c,.agg #[.slice An nn cn,.slice Ah nh ch,.bool true]] w (yky (chkN d l names held) w)
theorem yo8:∀ (d:Nat),AllI d:=by
 intro d
 induction d with
 | zero =>
  intro lo C A n c l An nn cn Ah nh ch names held w h _ _ _ _ _ _ _
  obtain rfl:=ycl h
  go_enter Tryz.func119,Tryz.ntmps119
  go_wp2
  refine wp_loop_rounds 1 ?_
  rw[rounds_succ]
  go_wp2
  go_ret2
  exact ⟨rfl,Zq0,Zq5⟩
 | succ d ih =>
  intro lo C A n c l An nn cn Ah nh ch names held w h hrn hrh hnn hnh h4 hsz hv
  have hq:=hsz
  rw[ybb] at hq
  have hln:=h.len
  have hn:n≤1048576:=by omega
  obtain ⟨L,hL⟩:∃ L,L=l.map fun s=>oneN (hdT s) (chkN d (bdT s)) names held:=⟨_,rfl⟩
  have HRES:Hid (chkN (d+1) l names held=ydq L):=by rw[hL];exact rfl
  obtain ⟨w0,hw0⟩:∃ w0,w0=w.alloc (.cells #[.slice An nn cn,.slice Ah nh ch,.bool true] 151):=⟨_,rfl⟩
  have X0:=hD (show w0.heap[w.heap.size]?=some (.cells #[.slice An nn cn,.slice Ah nh ch,.bool true] 151 (0,0)) by rw[hw0];exact yac _ _)
  have b0:Below w.heap.size w w0:=by rw[hw0];exact Zq0
  have hz0:w.heap.size<w0.heap.size:=by rw[hw0];simp
  have HW:=hD hw0
  have H:=hD h
  have HLN:=hD hln
  have HL:=hD hL
  have HN:=hD hrn
  have HH:=hD hrh
  have HNN:=hD hnn
  have HNH:=hD hnh
  have HQ:=hD hq
  have HV:=hD hv
  have IH:=hD ih
  have B0:=hD b0
  clear h hln hL hrn hrh hnn hnh hsz hq hv ih hw0 b0
  go_enter Tryz.func119,Tryz.ntmps119
  go_wp2_with fail
  rw[←HW.out]
  go_loopw [15] (fun i wr=>∃ t:Nat,t≤n∧i=.int .i64 t∧Hid (∀ x∈L.take t,x.1=0)∧Below w0.heap.size w0 wr) (fun i _=>n - (intOf i).toNat)
  case atStart=>exact ⟨0,Nat.zero_le _,rfl,fun x hx=>by simp at hx,Below.refl _ _⟩
  case round =>
   obtain ⟨t,ht,rfl,hzs,hb⟩:=hrel
   have hbs:=hb.size
   by_cases hlt:t<n
   ·have hbw:Below w.heap.size w wr:=B0.out.trans (hb.mono Zq6)
    obtain ⟨b,off,s,Aa,ca,Ac,nc,cc,rfl,hbl,hs,⟨c0,c1,c2,c3,c4⟩,ha,hbd,hcap⟩:=(H.out.below hbw).at_c hlt
    have hme:=ydw hs
    have hze:szE s=(hdT s).word.size+((hdT s).args.length+szS (hdT s).args+szT d (bdT s)):=rfl
    have hq:=HQ.out
    have hvs:=yf1 HV.out hs
    obtain ⟨hk,_,hvb⟩:=yet hvs
    obtain ⟨hg6,hg4⟩:=yfo hvs
    obtain ⟨k,hk0⟩:∃ k,k=(hdT s).k:=⟨_,rfl⟩
    obtain ⟨m,hm0⟩:∃ m,m=(hdT s).args.length:=⟨_,rfl⟩
    obtain ⟨word,hwd⟩:∃ word,word=(hdT s).word:=⟨_,rfl⟩
    obtain ⟨count,hct⟩:∃ count,count=(hdT s).count:=⟨_,rfl⟩
    obtain ⟨R,hR⟩:∃ R,R=yb8 (hdT s) names held:=⟨_,rfl⟩
    have hHD:(⟨k,word,(hdT s).args,count⟩:SH)=hdT s:=by rw[hk0,hwd,hct]
    obtain ⟨wS,hwS⟩:∃ wS,wS=wr.alloc (.cells #[.int .i64 k,.string word,.slice Aa m ca,.int .i64 count,.slice Ac nc cc] 66):=⟨_,rfl⟩
    have XS:=hD (show wS.heap[wr.heap.size]?=some (.cells #[.int .i64 k,.string word,.slice Aa m ca,.int .i64 count,.slice Ac nc cc] 66 (0,0)) by rw[hwS];exact yac _ _)
    have bS:Below wr.heap.size wr wS:=by rw[hwS];exact Zq0
    have bwS:Below w.heap.size w wS:=hbw.trans (bS.mono Zq6)
    have hsS:wr.heap.size+1=wS.heap.size:=by rw[hwS];simp
    have HC:Hid (Calls Tryz.prog 148 #[C,.agg #[.int .i64 k,.string word,.slice Aa m ca,.int .i64 count,.slice Ac nc cc],.agg #[.slice An nn cn,.slice Ah nh ch,.bool true]] wS (yrl R wS)):=by
     rw[hR,←hHD]
     exact yoq C k word names held count Aa m ca Ac nc cc An Ah nn cn nh ch true wS (hdT s).args hm0.symm ((by rw[hm0];exact ha.rd:Rd wr 1 Aa m (strs (hdT s).args)).below bS) (by rw[hm0];exact hcap) (by rw[hk0];exact hk) (by rw[hk0,hm0];exact hg6) (by rw[hk0,hm0];exact hg4) Zq6 HNN.out (HN.out.below bwS) HNH.out (HH.out.below bwS) Zq6 Zq6 h4 (fun _=>rfl)
    have HFIT:Hid (R.1.1=0→R.2.1.length≤4∧R.2.2.length+szT d (bdT s)≤1048576):=by
     rw[hR]
     refine fun h0=>⟨(ylt h0 (by rw[HNN.out];exact h4)).1,?_⟩
     have h1:=ykj (names:=names) (held:=held) hg4
     rw[HNH.out] at h1
     omega
    have HBD:=hD (hbd.below bS)
    have HVB:=hD hvb
    obtain ⟨cc',hcc⟩:∃ c',c'=oneN (hdT s) (chkN d (bdT s)) names held:=⟨_,rfl⟩
    have HAT:Hid (L[t]?=some cc'):=by
     rw[HL.out,List.getElem?_map,hs,hcc]
     exact rfl
    have HC0:Hid (R.1.1=0→cc'=chkN d (bdT s) R.2.1 R.2.2):=by
     rw[hcc,hR]
     exact fun h0=>by rw[oneN,if_pos h0]
    have HC1:Hid (¬ R.1.1=0→cc'=R.1):=by
     rw[hcc,hR]
     exact fun h0=>by rw[oneN,if_neg h0]
    rw[←hk0] at c0
    rw[←hwd] at c1
    rw[←hm0] at c2
    rw[←hct] at c3
    have BWS:=hD (hb.trans (bS.mono hbs))
    have WS:=hD hwS
    obtain ⟨q0,q1,q2⟩:=ybz (lay:=hb) X0.out
    have hzr:w.heap.size<wr.heap.size:=by omega
    clear hs ha hbd hcap hme hze hq hvs hk hvb hg6 hg4 hk0 hm0 hwd hct hR hHD hwS bS bwS hcc
    go_wp2_with fail
    rw[←WS.out]
    refine HC.out.mono ?_
    rintro e w1 ⟨A1,c1',A2,c2',n1,n2,rfl,hl12,b1,s1⟩
    have HLL:=hD hl12
    have BW1:=hD (BWS.out.trans (b1.mono BWS.out.size))
    have hl1:wr.heap.size<w1.heap.size:=by omega
    obtain ⟨p0,p1,p2,p3,p4⟩:=yas (lay:=b1) XS.out
    clear hl12 c0 c1 c2 c3 c4 q0 q1 q2
    by_cases hr0:R.1.1=0
    ·obtain ⟨z1,z2,z3,z4⟩:=HLL.out hr0
     obtain ⟨y1,y2⟩:=HFIT.out hr0
     have HE:=hD (HC0.out hr0)
     have heq:(R.1.1==0)=true:=by simp [hr0]
     obtain ⟨wz,hwz⟩:∃ wz,wz=w1.alloc (.cells #[.slice A1 n1 c1',.slice A2 n2 c2',.bool true] 151):=⟨_,rfl⟩
     have bz:Below w1.heap.size w1 wz:=by rw[hwz];exact Zq0
     have bzz:Below wS.heap.size wS wz:=b1.trans (bz.mono b1.size)
     have HK:=hD (IH.out lo C Ac nc cc (bdT s) A1 n1 c1' A2 n2 c2' R.2.1 R.2.2 wz (HBD.out.below bzz) (z2.below bz) (z4.below bz) z1 z3 Zq6 Zq6 HVB.out)
     have BWZ:=hD (BW1.out.trans (bz.mono BW1.out.size))
     have WZ:=hD hwz
     have HR0:=hD hr0
     clear z1 z2 z3 z4 y1 y2 hr0 bz bzz hwz b1
     rw[←HE.out] at HK
     go_wp2_with fail
     rw[←WZ.out]
     refine HK.out.mono ?_
     rintro e w2 ⟨rfl,b2,s2⟩
     have BW2:=hD (BWZ.out.trans (b2.mono BWZ.out.size))
     clear b2 p0 p1 p2 p3 p4
     by_cases hc0:cc'.1=0
     ·have HZ:=hD (ylr HAT.out hzs.out hc0)
      have hne:(cc'.1 != 0)=false:=by simp [hc0]
      clear hc0
      go_wp2_with fail
      go_roundw
      case rel=>exact ⟨t+1,by omega,by go_num,HZ,BW2.out⟩
      case measure=>simp [intOf];omega
     ·have HF:=hD (HRES.out.trans (yil HAT.out hzs.out hc0))
      have hne:(cc'.1 != 0)=true:=by rw[bne_iff_ne];exact hc0
      clear hc0
      go_wp2_with fail
      go_ret2
      exact ⟨by rw[HF.out];exact rfl,B0.out.trans (BW2.out.mono Zq6),by have:=BW2.out.size;omega⟩
    ·have HE:=hD (HC1.out hr0)
     have hc0:¬ cc'.1=0:=by rw[HE.out];exact hr0
     have heq:(R.1.1==0)=false:=by rw[beq_eq_false_iff_ne];exact hr0
     have hne:(R.1.1 != 0)=true:=by rw[bne_iff_ne];exact hr0
     have HF:=hD (HRES.out.trans (yil HAT.out hzs.out hc0))
     clear hc0 hr0
     go_wp2_with fail
     go_ret2
     exact ⟨by rw[HF.out,HE.out];exact rfl,B0.out.trans ((BW1.out.mono Zq6).alloc Zq6 _),by simp;omega⟩
   ·obtain rfl:t=n:=by omega
    have HF:Hid (chkN (d+1) l names held=bad0):=by
     rw[HRES.out]
     refine ygv ?_
     have:=hzs.out
     rwa [List.take_of_length_le (by rw[HL.out,List.length_map,HLN.out];exact Nat.le_refl _)] at this
    go_wp2_with fail
    go_ret2
    exact ⟨by rw[HF.out];rfl,B0.out.trans (hb.mono Zq6),by omega⟩
def yc6 (h:SH) (names bits:List ByteArray):(Bad × (List ByteArray × List ByteArray)) × List ByteArray :=
 if h.k=6∨h.k=7 then (((yds h.k names bits (arg0 h) (arg1 h)).1,(names,[])),(yds h.k names bits (arg0 h) (arg1 h)).2) else (yb8 h names [],bits)
theorem yo9 {names bits:List ByteArray} {q b:ByteArray} (h:(yca names bits q b).1.1=0):(yca names bits q b).1=bad0:=by
 unfold yca at h ⊢
 split
 ·rename_i h1;rw[if_pos h1] at h;exact absurd h (by show ¬ (2:Int)=0;decide)
 ·rename_i h1
  rw[if_neg h1] at h
  split
  ·rename_i h2;rw[if_pos h2] at h;exact absurd h (by show ¬ (1:Int)=0;decide)
  ·rename_i h2
   rw[if_neg h2] at h
   split
   ·rename_i h3;rw[if_pos h3] at h;exact absurd h (by show ¬ (1:Int)=0;decide)
   ·rename_i h3
    rw[if_neg h3] at h
    split
    ·rename_i h4;rw[if_pos h4] at h;exact absurd h (by show ¬ (8:Int)=0;decide)
    ·rfl
theorem yro {d:Nat} {h:SH} {bd:List (Tr d)} {names bits:List ByteArray} (hv:vOne d (ya7 d) h bd=true) :
  oneT d h bd names bits=(if (yc6 h names bits).1.1.1=0 then chkN d bd (yc6 h names bits).1.2.1 (yc6 h names bits).1.2.2 else (yc6 h names bits).1.1,(yc6 h names bits).2):=by
 by_cases h6:h.k=6
 ·have e1:oneT d h bd names bits=yca names bits (arg0 h) (arg1 h):=by rw[oneT,if_pos h6]
  have e2:yc6 h names bits=(((yca names bits (arg0 h) (arg1 h)).1,(names,[])),(yca names bits (arg0 h) (arg1 h)).2):=by rw[yc6,if_pos (.inl h6),yds,if_pos h6]
  have hb:=yka hv (by rw[h6];rfl)
  rw[e1,e2,hb]
  simp only
  split
  ·rename_i h0
   rw[ymq,←yo9 h0]
  ·rfl
 ·by_cases h7:h.k=7
  ·have e1:oneT d h bd names bits=(if hasS bits (arg0 h)=true then chkN d bd names [] else (7,arg0 h),bits):=by rw[oneT,if_neg h6,if_pos h7]
   have e2:yc6 h names bits=(((yds h.k names bits (arg0 h) (arg1 h)).1,(names,[])),(yds h.k names bits (arg0 h) (arg1 h)).2):=by rw[yc6,if_pos (.inr h7)]
   rw[e1,e2,yds,if_neg h6]
   cases hh:hasS bits (arg0 h)
   ·rfl
   ·rfl
  ·have e1:oneT d h bd names bits=(oneN h (chkN d bd) names [],bits):=by rw[oneT,if_neg h6,if_neg h7]
   have e2:yc6 h names bits=(yb8 h names [],bits):=by rw[yc6,if_neg (fun e=>e.elim h6 h7)]
   rw[e1,e2]
   rfl
theorem yrp {h:SH} {names bits:List ByteArray} (hb:bits.length≤3):(yc6 h names bits).2.length≤3:=by
 unfold yc6
 split
 ·unfold yds
  simp only
  split
  ·exact ylg hb
  ·split <;> exact hb
 ·exact hb
theorem ylu {h:SH} {names bits:List ByteArray} (h0:(yc6 h names bits).1.1.1=0) (hn:names.length≤4) (h1:4≤h.k→1≤h.args.length):(yc6 h names bits).1.2.1.length≤4∧(yc6 h names bits).1.2.2.length≤h.args.length:=by
 unfold yc6 at h0 ⊢
 split
 ·exact ⟨hn,Nat.zero_le _⟩
 ·rename_i hk
  rw[if_neg hk] at h0
  have h2:=ykj (names:=names) (held:=[]) h1
  exact ⟨(ylt h0 hn).1,by simpa using h2⟩
theorem Grew.trans {r r' r'':Option Nat} {z z':Nat} (h:Grew r z r') (h':Grew r' z' r'') (hz:z≤z'):Grew r z r'':=by
 rcases h' with h'|⟨k,h',hk⟩
 ·rw[h'];exact h
 ·exact .inr ⟨k,h',Nat.le_trans hz hk⟩
theorem ynz (d:Nat) (bd:List (Tr d)) (k:Int) (word:ByteArray) (names:List ByteArray) (count:Int) (Aa:Option Addr) (m ca:Nat) (Ac:Option Addr) (nc cc:Nat) (An:Option Addr) (nn cn base X:Nat) (bits:List ByteArray) (v:Value) (w:World)
  (args:List ByteArray) (hck:CkS w base X bits v) (hbase:base≤w.heap.size) (hb3:bits.length≤3) (hm:args.length=m) (hra:Rd w 1 Aa m (strs args)) (hca:m≤ca) (hv:vOne d (ya7 d) ⟨k,word,args,count⟩ bd=true) (h1:m≤1048576) (hnn:names.length=nn) (hrn:Rd w 1 An nn (strs names)) (h2:nn≤4) :
  Calls Tryz.prog 148 #[.pointer (some ⟨X,0,none⟩),.agg #[.int .i64 k,.string word,.slice Aa m ca,.int .i64 count,.slice Ac nc cc],.agg #[.slice An nn cn,.slice none 0 0,.bool false]] w (yk4 base X v (yc6 ⟨k,word,args,count⟩ names bits).1 (yc6 ⟨k,word,args,count⟩ names bits).2 w):=by
 obtain ⟨hk,_,_⟩:=yet hv
 obtain ⟨g6,g4⟩:=yfo hv
 have rnil:Rd w 1 none 0 (strs []):=⟨rfl,fun h=>absurd h Zq9⟩
 by_cases h67:k=6∨k=7
 ·have hk4:4≤k:=by omega
  have hl1:0<args.length:=g4 hk4
  have e:yc6 ⟨k,word,args,count⟩ names bits=(((yds k names bits (arg0 ⟨k,word,args,count⟩) (arg1 ⟨k,word,args,count⟩)).1,(names,[])),(yds k names bits (arg0 ⟨k,word,args,count⟩) (arg1 ⟨k,word,args,count⟩)).2):=by rw[yc6,if_pos h67]
  rw[e]
  exact ytd k word names [] count Aa m ca Ac nc cc An none nn cn 0 0 base X bits v _ _ w args hck hbase hb3 hm hra hca h67 (fun h6=>⟨by rw[←hm];exact g6 h6,yiq (h:=⟨k,word,args,count⟩) (g6 h6)⟩) Zq6 (yc3 (h:=⟨k,word,args,count⟩) hl1) h1 hnn hrn rfl rnil Zq6 Zq6
 ·have e:yc6 ⟨k,word,args,count⟩ names bits=(yb8 ⟨k,word,args,count⟩ names [],bits):=by rw[yc6,if_neg h67]
  rw[e]
  refine(yoq (.pointer (some ⟨X,0,none⟩)) k word names [] count Aa m ca Ac nc cc An none nn cn 0 0 false w args hm hra hca hk (fun h6=>by rw[←hm];exact g6 h6) (fun h4=>by rw[←hm];exact g4 h4) h1 hnn hrn rfl rnil Zq6 Zq6 h2 (fun h6=>absurd h67 Zq6)).mono ?_
  rintro e w' ⟨A1,c1,A2,c2,n1,n2,he,hl,hb,hs⟩
  exact ⟨v,A1,c1,A2,c2,n1,n2,he,hl,hck.below hb,Mod.of_below _ _ hb,.inl rfl⟩
def yte (base:Nat) (c:Bad) (w:World) (e:Ending) (w':World):Prop:=e=.returned (.tuple #[.int .i64 c.1,.string c.2])∧Below base w w'∧w.heap.size≤w'.heap.size
theorem ytf (d lo base X:Nat) (A:Option Addr) (n c:Nat) (l:List (Tr d)) (An:Option Addr) (nn cn:Nat) (names bits0:List ByteArray) (v0:Value) (wB w:World) (h:RdT wB lo d A n l) (hrn:Rd wB 1 An nn (strs names)) (hnn:names.length=nn) (hB:wB.heap.size≤base) (hbase:base≤w.heap.size) (hbB:Below base wB w) (hX:base≤X) (hck:CkS w base X bits0 v0) (hb3:bits0.length≤3) (h4:nn≤4) (hsz:szT d l≤1048576) (hv:ya7 d l=true) :
  Calls Tryz.prog 119 #[.pointer (some ⟨X,0,none⟩),.slice A n c,.agg #[.slice An nn cn,.slice none 0 0,.bool false]] w (yte base (chkT d l names bits0) w):=by
 cases d with
 | zero =>
  obtain rfl:=ycl h
  clear h hrn hnn hbB hck
  go_enter Tryz.func119,Tryz.ntmps119
  go_wp2
  refine wp_loop_rounds 1 ?_
  rw[rounds_succ]
  go_wp2
  go_ret2
  exact ⟨rfl,(Below.refl _ _).alloc hbase _,Zq5⟩
 | succ d =>
  have hq:=hsz
  rw[ybb] at hq
  have hln:=h.len
  have hn:n≤1048576:=by omega
  obtain ⟨f,hf⟩:∃ f,f=fun (s:Tr (d+1)) bits=>oneT d (hdT s) (bdT s) names bits:=⟨_,rfl⟩
  obtain ⟨RES,hRES⟩:∃ RES,RES=topB f l bits0:=⟨_,rfl⟩
  have HRES:Hid (chkT (d+1) l names bits0=RES):=by rw[hRES,hf];exact rfl
  obtain ⟨w0,hw0⟩:∃ w0,w0=w.alloc (.cells #[.slice An nn cn,.slice none 0 0,.bool false] 151):=⟨_,rfl⟩
  have X0:=hD (show w0.heap[w.heap.size]?=some (.cells #[.slice An nn cn,.slice none 0 0,.bool false] 151 (0,0)) by rw[hw0];exact yac _ _)
  have b0:Below w.heap.size w w0:=by rw[hw0];exact Zq0
  have hz0:w.heap.size<w0.heap.size:=by rw[hw0];simp
  have hxw:X<w.heap.size:=lt_of_block hck.x
  have hvl:∀ k,v0.ownBlock=some k→base≤k∧k<w.heap.size:=fun k e=>hck.o.lt k e
  have HVL:=hD hvl
  have CK0:=hD (hck.below b0)
  have HW:=hD hw0
  have H:=hD h
  have HLN:=hD hln
  have HF:=hD hf
  have HRS:=hD hRES
  have HN:=hD hrn
  have HNN:=hD hnn
  have HQ:=hD hq
  have HV:=hD hv
  have B0:=hD b0
  have BB:=hD (hbB.trans (b0.mono hbase))
  clear h hln hf hRES hrn hnn hsz hq hv hw0 b0 hck hvl hbB
  go_enter Tryz.func119,Tryz.ntmps119
  go_wp2_with fail
  rw[←HW.out]
  go_loopw [15] (fun i wr=>∃ (t:Nat) (v:Value) (bits:List ByteArray),t≤n∧i=.int .i64 t∧Hid (topB f (l.drop t) bits=RES)∧Hid (bits.length≤3)∧Hid (CkS wr base X bits v)∧Hid (Mod X v0.ownBlock w0 wr)∧Hid (Grew v0.ownBlock w0.heap.size v.ownBlock)) (fun i _=>n - (intOf i).toNat)
  case atStart=>exact ⟨0,v0,bits0,Nat.zero_le _,rfl,HRS.out.symm,hb3,CK0.out,Mod.of_below _ _ (Below.refl _ _),.inl rfl⟩
  case round =>
   obtain ⟨t,v,bits,ht,rfl,hres,hb3r,hckr,hmod,hgr⟩:=hrel
   have hbs:=hmod.out.size
   have hBr:Below base w0 wr:=hmod.out.below Zq6 hX (fun k e=>(HVL.out k e).1)
   have hbB:Below wB.heap.size wB wr:=(BB.out.trans hBr).mono hB
   have hX0r:wr.heap[w.heap.size]?=some (.cells #[.slice An nn cn,.slice none 0 0,.bool false] 151 (0,0)):=(hmod.out.block _ hz0 Zq6 (fun e=>by have:=(HVL.out _ e).2;omega)).trans X0.out
   by_cases hlt:t<n
   ·obtain ⟨b,off,s,Aa,ca,Ac,nc,cc,rfl,hbl,hs,⟨c0,c1,c2,c3,c4⟩,ha,hbd,hcap⟩:=H.out.at_c hlt
    rw[←hbB.cell (p:=⟨b,_,none⟩) hbl] at c0 c1 c2 c3 c4
    have hbl':b<wr.heap.size:=Nat.lt_of_lt_of_le hbl hbB.size
    have hme:=ydw hs
    have hze:szE s=(hdT s).word.size+((hdT s).args.length+szS (hdT s).args+szT d (bdT s)):=rfl
    have hq:=HQ.out
    have hvs:=yf1 HV.out hs
    obtain ⟨hk,_,hvb⟩:=yet hvs
    obtain ⟨hg6,hg4⟩:=yfo hvs
    obtain ⟨k,hk0⟩:∃ k,k=(hdT s).k:=⟨_,rfl⟩
    obtain ⟨m,hm0⟩:∃ m,m=(hdT s).args.length:=⟨_,rfl⟩
    obtain ⟨word,hwd⟩:∃ word,word=(hdT s).word:=⟨_,rfl⟩
    obtain ⟨count,hct⟩:∃ count,count=(hdT s).count:=⟨_,rfl⟩
    obtain ⟨R,hR⟩:∃ R,R=yc6 (hdT s) names bits:=⟨_,rfl⟩
    have hHD:(⟨k,word,(hdT s).args,count⟩:SH)=hdT s:=by rw[hk0,hwd,hct]
    obtain ⟨wS,hwS⟩:∃ wS,wS=wr.alloc (.cells #[.int .i64 k,.string word,.slice Aa m ca,.int .i64 count,.slice Ac nc cc] 66):=⟨_,rfl⟩
    have XS:=hD (show wS.heap[wr.heap.size]?=some (.cells #[.int .i64 k,.string word,.slice Aa m ca,.int .i64 count,.slice Ac nc cc] 66 (0,0)) by rw[hwS];exact yac _ _)
    have bS:Below wr.heap.size wr wS:=by rw[hwS];exact Zq0
    have bwS:Below wB.heap.size wB wS:=hbB.trans (bS.mono hbB.size)
    have hsS:wr.heap.size+1=wS.heap.size:=by rw[hwS];simp
    have hvlr:∀ k,v.ownBlock=some k→k<wr.heap.size:=fun k e=>(hckr.out.o.lt k e).2
    have HC:Hid (Calls Tryz.prog 148 #[.pointer (some ⟨X,0,none⟩),.agg #[.int .i64 k,.string word,.slice Aa m ca,.int .i64 count,.slice Ac nc cc],.agg #[.slice An nn cn,.slice none 0 0,.bool false]] wS (yk4 base X v R.1 R.2 wS)):=by
     rw[hR,←hHD]
     exact ynz d (bdT s) k word names count Aa m ca Ac nc cc An nn cn base X bits v wS (hdT s).args (hckr.out.below bS) Zq6 hb3r.out hm0.symm ((by rw[hm0];exact ha.rd:Rd wB 1 Aa m (strs (hdT s).args)).below bwS) (by rw[hm0];exact hcap) (by rw[hHD];exact hvs) Zq6 HNN.out (HN.out.below bwS) h4
    have HFIT:Hid (R.1.1.1=0→R.1.2.1.length≤4∧R.1.2.2.length+szT d (bdT s)≤1048576):=by
     rw[hR]
     refine fun h0=>⟨(ylu h0 (by rw[HNN.out];exact h4) hg4).1,?_⟩
     have h1:=(ylu h0 (by rw[HNN.out];exact h4) hg4).2
     omega
    have HB3:Hid (R.2.length≤3):=by rw[hR];exact yrp hb3r.out
    have HBD:=hD hbd
    have HVB:=hD hvb
    obtain ⟨cc',hcc⟩:∃ c',c'=(f s bits).1:=⟨_,rfl⟩
    have hfs:f s bits=(if R.1.1.1=0 then chkN d (bdT s) R.1.2.1 R.1.2.2 else R.1.1,R.2):=by rw[HF.out,hR];exact yro hvs
    have HAT:Hid (RES=if cc'.1=0 then topB f (l.drop (t+1)) R.2 else cc'):=by
     rw[←hres.out,yoe hs,hcc,hfs]
     exact rfl
    have HC0:Hid (R.1.1.1=0→cc'=chkN d (bdT s) R.1.2.1 R.1.2.2):=by
     rw[hcc,hfs]
     exact fun h0=>by show(if _ then _ else _)=_;rw[if_pos h0]
    have HC1:Hid (¬ R.1.1.1=0→cc'=R.1.1):=by
     rw[hcc,hfs]
     exact fun h0=>by show(if _ then _ else _)=_;rw[if_neg h0]
    rw[←hk0] at c0
    rw[←hwd] at c1
    rw[←hm0] at c2
    rw[←hct] at c3
    have WS:=hD hwS
    have MS:=hD (hmod.out.trans (Mod.of_below X v0.ownBlock bS) (.inl rfl))
    have HVR:=hD hvlr
    obtain ⟨q0,q1,q2⟩:=ybz (lay:=Below.refl _ _) hX0r
    have hzr:w.heap.size<wr.heap.size:=by omega
    clear hs ha hbd hcap hme hze hq hvs hk hvb hg6 hg4 hk0 hm0 hwd hct hR hHD hwS bwS hcc hfs hckr hmod hres hvlr hX0r
    go_wp2_with fail
    rw[←WS.out]
    refine HC.out.mono ?_
    rintro e w1 ⟨v1,A1,c1',A2,c2',n1,n2,rfl,hl12,ck1,m1,g1⟩
    have hs1:=m1.size
    have HLL:=hD hl12
    have hXS1:w1.heap[wr.heap.size]?=some (.cells #[.int .i64 k,.string word,.slice Aa m ca,.int .i64 count,.slice Ac nc cc] 66 (0,0)):=(m1.block _ Zq6 Zq6 (fun e=>by have:=HVR.out _ e;omega)).trans XS.out
    have MW1:=hD (MS.out.trans m1 hgr.out)
    have GR1:=hD (hgr.out.trans g1 Zq6)
    have CK1:=hD ck1
    have bB1:Below base wS w1:=m1.below Zq6 hX (fun k e=>by rcases hgr.out with g|⟨k',g,hk'⟩ <;> have hh:=g.symm.trans e <;> first|exact(HVL.out k hh).1|(have:=Option.some.inj hh;omega))
    have hl1:wr.heap.size<w1.heap.size:=by omega
    obtain ⟨p0,p1,p2,p3,p4⟩:=yas (lay:=Below.refl _ _) hXS1
    clear hl12 c0 c1 c2 c3 c4 q0 q1 q2 hXS1 ck1 m1 g1
    by_cases hr0:R.1.1.1=0
    ·obtain ⟨z1,z2,z3,z4⟩:=HLL.out hr0
     obtain ⟨y1,y2⟩:=HFIT.out hr0
     have HE:=hD (HC0.out hr0)
     have heq:(R.1.1.1==0)=true:=by simp [hr0]
     obtain ⟨wz,hwz⟩:∃ wz,wz=w1.alloc (.cells #[.slice A1 n1 c1',.slice A2 n2 c2',.bool true] 151):=⟨_,rfl⟩
     have bz:Below w1.heap.size w1 wz:=by rw[hwz];exact Zq0
     have hbBz:Below wB.heap.size wB wz:=((hbB.trans (bS.mono hbB.size)).trans (bB1.mono Zq6)).trans (bz.mono (by have:=hbB.size;omega))
     have HK:=hD (yo8 d lo (.pointer (some ⟨X,0,none⟩)) Ac nc cc (bdT s) A1 n1 c1' A2 n2 c2' R.1.2.1 R.1.2.2 wz (HBD.out.below hbBz) (z2.below bz) (z4.below bz) z1 z3 Zq6 Zq6 HVB.out)
     have MWZ:=hD (MW1.out.trans (Mod.of_below X v0.ownBlock bz) (.inl rfl))
     have CKZ:=hD (CK1.out.below bz)
     have WZ:=hD hwz
     have HR0:=hD hr0
     clear z1 z2 z3 z4 y1 y2 hr0 bz hwz
     rw[←HE.out] at HK
     go_wp2_with fail
     rw[←WZ.out]
     refine HK.out.mono ?_
     rintro e w2 ⟨rfl,b2,s2⟩
     have MW2:=hD (MWZ.out.trans (Mod.of_below X v0.ownBlock b2) (.inl rfl))
     have CK2:=hD (CKZ.out.below b2)
     clear b2 p0 p1 p2 p3 p4
     by_cases hc0:cc'.1=0
     ·have HZ:Hid (topB f (l.drop (t+1)) R.2=RES):=by rw[HAT.out,if_pos hc0];exact rfl
      have hne:(cc'.1 != 0)=false:=by simp [hc0]
      clear hc0
      go_wp2_with fail
      go_roundw
      case rel=>exact ⟨t+1,v1,R.2,by omega,by go_num,HZ,HB3,CK2,MW2,GR1⟩
      case measure=>simp [intOf];omega
     ·have HE2:Hid (RES=cc'):=by rw[HAT.out,if_neg hc0];exact rfl
      have hne:(cc'.1 != 0)=true:=by rw[bne_iff_ne];exact hc0
      clear hc0
      go_wp2_with fail
      go_ret2
      exact ⟨by rw[HRES.out,HE2.out];exact rfl,(B0.out.mono hbase).trans (MW2.out.below Zq6 hX (fun k e=>(HVL.out k e).1)),by have:=MW2.out.size;omega⟩
    ·have HE:=hD (HC1.out hr0)
     have hc0:¬ cc'.1=0:=by rw[HE.out];exact hr0
     have heq:(R.1.1.1==0)=false:=by rw[beq_eq_false_iff_ne];exact hr0
     have hne:(R.1.1.1 != 0)=true:=by rw[bne_iff_ne];exact hr0
     have HE2:Hid (RES=cc'):=by rw[HAT.out,if_neg hc0];exact rfl
     clear hc0 hr0
     go_wp2_with fail
     go_ret2
     exact ⟨by rw[HRES.out,HE2.out,HE.out];exact rfl,((B0.out.mono hbase).trans (MW1.out.below Zq6 hX (fun k e=>(HVL.out k e).1))).alloc (by have:=MW1.out.size;omega) _,by have:=MW1.out.size;simp;omega⟩
   ·obtain rfl:t=n:=by omega
    have HFN:Hid (RES=bad0):=by
     rw[←hres.out,List.drop_of_length_le (by rw[HLN.out];exact Nat.le_refl _)]
     exact rfl
    have HB:=hD hBr
    clear hX0r hbB hBr
    go_wp2_with fail
    go_ret2
    exact ⟨by rw[HRES.out,HFN.out];exact rfl,(B0.out.mono hbase).trans HB.out,by omega⟩
def sel7 (b:Bool) (x y:Bad):Bad:=if b=true then x else y
theorem Grew.transV {r r' r'':Option Nat} {z z':Nat} (h:Grew r z r') (h':Grew r' z' r'') (hz:z≤z'):Grew r z r'':=h.trans h' hz
theorem Zq15 {p:Prop} (h:p:=by first|omega|(dsimp only;omega)):p:=h
theorem ypa (word:ByteArray) (args names bits:List ByteArray) (count:Int) (Aa:Option Addr) (m ca:Nat) (Ac:Option Addr) (nc cc:Nat) (An:Option Addr) (nn cn base E:Nat) (v:Value) (a c:ByteArray) (w:World) (hev:EvS w base E An nn cn bits v) (hbase:base≤w.heap.size) (hb3:bits.length≤3) (hm:args.length=m) (hra:Rd w 1 Aa m (strs args)) (hca:m≤ca) (h1:m≤1048576) (hnn:names.length=nn) (hrn:Rd w 1 An nn (strs names)) (h4:nn≤4) (h2:2≤m) (ha:args[0]?=some a) (hc:args[1]?=some c) :
  Calls Tryz.prog 125 #[.agg #[.int .i64 6,.string word,.slice Aa m ca,.int .i64 count,.slice Ac nc cc],.pointer (some ⟨E,0,none⟩)] w (yki base E An nn cn v (yca names bits a c) w):=by
 obtain ⟨A,cb,rfl,hcap,_,_⟩:=yah hev.o
 obtain ⟨b,off,rfl,hbw,hcl⟩:=hra.2 Zq6
 obtain ⟨w0,hw0⟩:∃ w0,w0=((w.alloc (.cells #[.int .i64 6,.string word,.slice (some ⟨b,off,none⟩) m ca,.int .i64 count,.slice Ac nc cc] 66)).alloc (.cells #[.int .i64 0,.string ⟨#[]⟩] 96)).alloc (.cells #[.slice An nn cn,.slice none 0 0,.bool true,.slice A bits.length cb] 100):=⟨_,rfl⟩
 have X0:=hD (show w0.heap[w.heap.size]?=some (.cells #[.int .i64 6,.string word,.slice (some ⟨b,off,none⟩) m ca,.int .i64 count,.slice Ac nc cc] 66 (0,0)) by rw[hw0];exact ydp _ _ _ _)
 have X1:=hD (show w0.heap[w.heap.size+1]?=some (.cells #[.int .i64 0,.string ⟨#[]⟩] 96 (0,0)) by rw[hw0];exact ycw _ _ _ _)
 have X2:=hD (show w0.heap[w.heap.size+1+1]?=some (.cells #[.slice An nn cn,.slice none 0 0,.bool true,.slice A bits.length cb] 100 (0,0)) by rw[hw0];exact ycx _ _ _ _)
 have b0:Below w.heap.size w w0:=by rw[hw0];exact Zq0
 have hz:w.heap.size+1+1<w0.heap.size:=by rw[hw0];simp
 have hz0:w.heap.size<w0.heap.size:=by omega
 have hz1:w.heap.size+1<w0.heap.size:=by omega
 have HW:=hD hw0
 have HA:=hD (hra.below b0)
 have HN:=hD (hrn.below b0)
 have EV:=hD (hev.below b0)
 have HM:=hD hm
 have HNN:=hD hnn
 have B0:=hD b0
 have hEl:=lt_of_block hev.x
 have hE1:E<w.heap.size+1:=by omega
 have hE2:E<w.heap.size+1+1:=by omega
 have hvl:∀ k,(Value.slice A bits.length cb).ownBlock=some k→k<w.heap.size:=fun k e=>(hev.o.lt k e).2
 have HVL:=hD hvl
 have VN:Hid ((Value.slice A bits.length cb).ownBlock≠some (w.heap.size+1)):=fun e=>by have:=hvl _ e;omega
 have hbl:b<w0.heap.size:=by omega
 have hm2:0<m:=by omega
 have r0:=hcl 0 _ (ybr ha)
 rw[Nat.add_zero,←b0.cell (p:=⟨b,off,none⟩) hbw] at r0
 have R0:=hD r0
 have HA0:=hD ha
 obtain ⟨e0,e1,e2,e3⟩:=yb1 (lay:=Below.refl _ _) hev.x
 clear hcl hra hrn hm hnn hvl ha r0
 have HC0:=hD hc
 clear hc
 go_enter Tryz.func125,Tryz.ntmps125
 go_wp2_with fail
 rw[←HW.out]
 clear e0 e1 e2 e3 hev b0 hw0
 have hEl0:E<w0.heap.size:=by omega
 obtain ⟨e0,e1,e2,e3⟩:=yb1 (lay:=Below.refl _ _) EV.out.x
 obtain ⟨p0,p1,p2,p3,p4⟩:=yas (lay:=Below.refl _ _) X0.out
 obtain ⟨k0,k1⟩:=ycd (lay:=Below.refl _ _) X1.out
 have f0:=ya6 (Below.refl _ _) X1.out 0
 have f1:=ya6 (Below.refl _ _) X1.out 1
 go_wp2_with fail
 refine(yk3 word args count (some ⟨b,off,none⟩) m ca Ac nc cc An nn cn base E names bits (.slice A bits.length cb) a c w0 EV.out Zq6 hb3 HM.out HA.out hca h2 h1 HA0.out HC0.out HNN.out HN.out Zq6).mono ?_
 rintro e w1 ⟨v',rfl,ev1,m1,g1⟩
 have hx1:w1.heap[w.heap.size+1]?=some (.cells #[.int .i64 0,.string ⟨#[]⟩] 96 (0,0)):=(m1.block _ hz1 Zq6 (fun e=>by have:=HVL.out _ e;omega)).trans X1.out
 clear k0 k1 f0 f1
 obtain ⟨k0,k1⟩:=ycd (lay:=Below.refl _ _) hx1
 have f0:=ya6 (Below.refl _ _) hx1 0
 have f1:=ya6 (Below.refl _ _) hx1 1
 have hl1:w.heap.size+1<w1.heap.size:=lt_of_block hx1
 have x4:v'.ownBlock≠some (w.heap.size+1):=fun e=>by
  rcases g1 with g|⟨k,g,hk⟩
  ·exact VN.out (g.symm.trans e)
  ·have:=Option.some.inj (g.symm.trans e);omega
 have EV1:=hD ev1
 have M1:=hD ((Mod.of_below E (Value.slice A bits.length cb).ownBlock B0.out).trans m1 (.inl rfl))
 have G1:=hD (g1.weakV (z':=w.heap.size) Zq6)
 have HX4:=hD x4
 obtain ⟨z,hzz⟩:∃ z,z=yca names bits a c:=⟨_,rfl⟩
 rw[←hzz] at EV1 ⊢
 have HZ:=hD hzz
 clear hx1 ev1 m1 g1 x4 hzz
 go_wp2_with fail
 exact bodyPost_ret (v:=.agg #[.int .i64 z.1.1,.string z.1.2]) (by simp [results,Tryz.results125,go_sem,k0,k1]) rfl ⟨v',by rw[←HZ.out],by rw[←HZ.out];exact(EV1.out.set Zq15 (by first|exact HX4.out|(dsimp only;exact HX4.out)) _).set Zq15 (by first|exact HX4.out|(dsimp only;exact HX4.out)) _,(M1.out.set (.inr Zq11) _).set (.inr Zq11) _,G1.out⟩
theorem ypb (d:Nat) (bd:List (Tr d)) (word:ByteArray) (args names bits:List ByteArray) (count:Int) (Aa:Option Addr) (m ca:Nat) (Ac:Option Addr) (nc cc:Nat) (An:Option Addr) (nn cn base E:Nat) (v:Value) (a:ByteArray) (w:World) (hev:EvS w base E An nn cn bits v) (hbase:base≤w.heap.size) (hb3:bits.length≤3) (hm:args.length=m) (hra:Rd w 1 Aa m (strs args)) (hca:m≤ca) (h1:m≤1048576) (hnn:names.length=nn) (hrn:Rd w 1 An nn (strs names)) (h4:nn≤4) (h2:1≤m) (ha:args[0]?=some a) (h3:szT d bd≤1048576) (hbody:ye9 d bd w Ac nc cc) :
  Calls Tryz.prog 125 #[.agg #[.int .i64 7,.string word,.slice Aa m ca,.int .i64 count,.slice Ac nc cc],.pointer (some ⟨E,0,none⟩)] w (yki base E An nn cn v (sel7 (hasS bits a) (chkN d bd names []) (7,a),bits) w):=by
 obtain ⟨A,cb,rfl,hcap,_,_⟩:=yah hev.o
 obtain ⟨b,off,rfl,hbw,hcl⟩:=hra.2 Zq6
 obtain ⟨w0,hw0⟩:∃ w0,w0=((w.alloc (.cells #[.int .i64 7,.string word,.slice (some ⟨b,off,none⟩) m ca,.int .i64 count,.slice Ac nc cc] 66)).alloc (.cells #[.int .i64 0,.string ⟨#[]⟩] 96)).alloc (.cells #[.slice An nn cn,.slice none 0 0,.bool true,.slice A bits.length cb] 100):=⟨_,rfl⟩
 have X0:=hD (show w0.heap[w.heap.size]?=some (.cells #[.int .i64 7,.string word,.slice (some ⟨b,off,none⟩) m ca,.int .i64 count,.slice Ac nc cc] 66 (0,0)) by rw[hw0];exact ydp _ _ _ _)
 have X1:=hD (show w0.heap[w.heap.size+1]?=some (.cells #[.int .i64 0,.string ⟨#[]⟩] 96 (0,0)) by rw[hw0];exact ycw _ _ _ _)
 have X2:=hD (show w0.heap[w.heap.size+1+1]?=some (.cells #[.slice An nn cn,.slice none 0 0,.bool true,.slice A bits.length cb] 100 (0,0)) by rw[hw0];exact ycx _ _ _ _)
 have b0:Below w.heap.size w w0:=by rw[hw0];exact Zq0
 have hz:w.heap.size+1+1<w0.heap.size:=by rw[hw0];simp
 have hz0:w.heap.size<w0.heap.size:=by omega
 have hz1:w.heap.size+1<w0.heap.size:=by omega
 have HW:=hD hw0
 have HA:=hD (hra.below b0)
 have HN:=hD (hrn.below b0)
 have EV:=hD (hev.below b0)
 have HM:=hD hm
 have HNN:=hD hnn
 have B0:=hD b0
 have hEl:=lt_of_block hev.x
 have hE1:E<w.heap.size+1:=by omega
 have hE2:E<w.heap.size+1+1:=by omega
 have hvl:∀ k,(Value.slice A bits.length cb).ownBlock=some k→k<w.heap.size:=fun k e=>(hev.o.lt k e).2
 have HVL:=hD hvl
 have VN:Hid ((Value.slice A bits.length cb).ownBlock≠some (w.heap.size+1)):=fun e=>by have:=hvl _ e;omega
 have hbl:b<w0.heap.size:=by omega
 have hm2:0<m:=by omega
 have r0:=hcl 0 _ (ybr ha)
 rw[Nat.add_zero,←b0.cell (p:=⟨b,off,none⟩) hbw] at r0
 have R0:=hD r0
 have HA0:=hD ha
 obtain ⟨e0,e1,e2,e3⟩:=yb1 (lay:=Below.refl _ _) hev.x
 clear hcl hra hrn hm hnn hvl ha r0
 have HB:=hD hbody
 clear hbody
 go_enter Tryz.func125,Tryz.ntmps125
 go_wp2_with fail
 rw[←HW.out]
 clear e0 e1 e2 e3 hev b0 hw0
 have hEl0:E<w0.heap.size:=by omega
 obtain ⟨e0,e1,e2,e3⟩:=yb1 (lay:=Below.refl _ _) EV.out.x
 obtain ⟨p0,p1,p2,p3,p4⟩:=yas (lay:=Below.refl _ _) X0.out
 obtain ⟨k0,k1⟩:=ycd (lay:=Below.refl _ _) X1.out
 have f0:=ya6 (Below.refl _ _) X1.out 0
 have f1:=ya6 (Below.refl _ _) X1.out 1
 have HRB:=hD (ybv EV.out.o)
 have r0:=R0.out
 have M0:Hid (Mod E (Value.slice A bits.length cb).ownBlock w w0):=Mod.of_below E _ B0.out
 cases e1:hasS bits a
 ·have HS:Hid ((sel7 (hasS bits a) (chkN d bd names []) (7,a),bits)=(((7,a):Bad),bits)):=by rw[e1];exact rfl
  go_wp2_with fail
  go_quiet ((go_at_call 77;exact Calls.quiet_of_same ((ybx A bits.length cb bits a _ (HRB.out.drewN _) rfl Zq6).mono fun e W h=>(⟨h.1.trans (by rw[e1]),h.2.symm⟩:e=.returned (.bool false)∧W=_))))
  go_wp2_with fail
  exact bodyPost_ret (v:=.agg #[.int .i64 7,.string a]) (by simp [results,Tryz.results125,go_sem,k0,k1]) rfl ⟨_,by rw[HS.out],by rw[HS.out];exact((EV.out.drewN _).set Zq15 (by first|exact VN.out|(dsimp only;exact VN.out)) _).set Zq15 (by first|exact VN.out|(dsimp only;exact VN.out)) _,((M0.out.drewN _).set (.inr Zq11) _).set (.inr Zq11) _,.inl rfl⟩
 ·obtain ⟨z,hz9⟩:∃ z,z=chkN d bd names []:=⟨_,rfl⟩
  have HS:Hid ((sel7 (hasS bits a) (chkN d bd names []) (7,a),bits)=(z,bits)):=by rw[hz9,e1];exact rfl
  have HZ:=hD hz9
  clear hz9
  go_wp2_with fail
  go_quiet ((go_at_call 77;exact Calls.quiet_of_same ((ybx A bits.length cb bits a _ (HRB.out.drewN _) rfl Zq6).mono fun e W h=>(⟨h.1.trans (by rw[e1]),h.2.symm⟩:e=.returned (.bool true)∧W=_))))
  go_wp2_with fail
  refine(HB.out (w.heap.size+1+1) An nn cn none 0 0 A bits.length cb names [] _ (yaq B0.out _) X2.out (HN.out.drewN _) (rnil _) HNN.out rfl h4 Zq6).mono ?_
  rintro e w1 ⟨rfl,b1d,s1d⟩
  have b1:Below w0.heap.size w0 w1:=⟨b1d.os,b1d.tape,b1d.output,b1d.size,b1d.block⟩
  clear k0 k1 f0 f1 b1d s1d
  obtain ⟨k0,k1⟩:=ycd (lay:=b1) X1.out
  have f0:=ya6 b1 X1.out 0
  have f1:=ya6 b1 X1.out 1
  have hl1:w.heap.size+1<w1.heap.size:=by have:=b1.size;omega
  rw[←HZ.out]
  have EV1:=hD (EV.out.below b1)
  have M1:=hD (M0.out.trans (Mod.of_below E _ b1) (.inl rfl))
  clear b1
  go_wp2_with fail
  exact bodyPost_ret (v:=.agg #[.int .i64 z.1,.string z.2]) (by simp [results,Tryz.results125,go_sem,k0,k1]) rfl ⟨_,by rw[HS.out],by rw[HS.out];exact(EV1.out.set Zq15 (by first|exact VN.out|(dsimp only;exact VN.out)) _).set Zq15 (by first|exact VN.out|(dsimp only;exact VN.out)) _,(M1.out.set (.inr Zq11) _).set (.inr Zq11) _,.inl rfl⟩
theorem ykk (d:Nat) (bd:List (Tr d)) (k:Int) (word:ByteArray) (args names bits:List ByteArray) (count:Int) (Aa:Option Addr) (m ca:Nat) (Ac:Option Addr) (nc cc:Nat) (An:Option Addr) (nn cn base E:Nat) (v:Value) (w:World) (hev:EvS w base E An nn cn bits v) (hbase:base≤w.heap.size) (hb3:bits.length≤3) (hm:args.length=m) (hra:Rd w 1 Aa m (strs args)) (hca:m≤ca) (h1:m≤1048576) (hnn:names.length=nn) (hrn:Rd w 1 An nn (strs names)) (h4:nn≤4) (hv:vOne d (ya7 d) ⟨k,word,args,count⟩ bd=true) (h3:m+szT d bd≤1048576) (hbody:ye9 d bd w Ac nc cc) :
  Calls Tryz.prog 125 #[.agg #[.int .i64 k,.string word,.slice Aa m ca,.int .i64 count,.slice Ac nc cc],.pointer (some ⟨E,0,none⟩)] w (yki base E An nn cn v (oneT d ⟨k,word,args,count⟩ bd names bits) w):=by
 obtain ⟨hk,_,_⟩:=yet hv
 obtain ⟨g6,g4⟩:=yfo hv
 by_cases h6:k=6
 ·subst h6
  have hl:2≤args.length:=g6 rfl
  have e:oneT d ⟨6,word,args,count⟩ bd names bits=yca names bits (arg0 ⟨6,word,args,count⟩) (arg1 ⟨6,word,args,count⟩):=by rw[oneT,if_pos rfl]
  rw[e]
  exact ypa word args names bits count Aa m ca Ac nc cc An nn cn base E v _ _ w hev hbase hb3 hm hra hca h1 hnn hrn h4 Zq6 (yc3 (h:=⟨6,word,args,count⟩) (show 0<args.length by omega)) (yiq (h:=⟨6,word,args,count⟩) hl)
 ·by_cases h7:k=7
  ·subst h7
   have hl:1≤args.length:=g4 (show(4:Int)≤7 by decide)
   have e:oneT d ⟨7,word,args,count⟩ bd names bits=(sel7 (hasS bits (arg0 ⟨7,word,args,count⟩)) (chkN d bd names []) (7,arg0 ⟨7,word,args,count⟩),bits):=by rw[oneT,if_neg h6,if_pos rfl];rfl
   rw[e]
   exact ypb d bd word args names bits count Aa m ca Ac nc cc An nn cn base E v _ w hev hbase hb3 hm hra hca h1 hnn hrn h4 Zq6 (yc3 (h:=⟨7,word,args,count⟩) hl) Zq6 hbody
  ·have e:oneT d ⟨k,word,args,count⟩ bd names bits=(oneN ⟨k,word,args,count⟩ (chkN d bd) names [],bits):=by rw[oneT,if_neg h6,if_neg h7]
   rw[e]
   obtain ⟨A,cb,rfl,hcap,_,_⟩:=yah hev.o
   have hh:Calls Tryz.prog 125 #[.agg #[.int .i64 k,.string word,.slice Aa m ca,.int .i64 count,.slice Ac nc cc],.pointer (some ⟨E,0,none⟩)] w (ydi (oneN ⟨k,word,args,count⟩ (chkN d bd) names []) w):=by
    have h:k=1∨k=2∨k=3∨k=4∨k=5:=by omega
    rcases h with rfl|rfl|rfl|rfl|rfl
    ·exact ylm d word args names [] count bd Aa m ca Ac nc cc E An none A nn cn 0 0 bits.length cb false w hev.x hm hra hca hnn hrn rfl (rnil _) h1 h4 Zq6 hv hbody
    ·exact yln d word args names [] count bd Aa m ca Ac nc cc E An none A nn cn 0 0 bits.length cb false w hev.x hm hra hca hnn hrn rfl (rnil _) h1 h4 Zq6 hv hbody
    ·exact ylo d word args names [] count bd Aa m ca Ac nc cc E An none A nn cn 0 0 bits.length cb false w hev.x hm hra hca hnn hrn rfl (rnil _) h1 h4 Zq6 hv hbody
    ·exact ylq d word args names [] count bd Aa m ca Ac nc cc E An none A nn cn 0 0 bits.length cb false w hev.x hm hra hca hnn hrn rfl (rnil _) h1 h4 Zq6 hv hbody
    ·exact ylp d word args names [] count bd Aa m ca Ac nc cc E An none A nn cn 0 0 bits.length cb false w hev.x hm hra hca hnn hrn rfl (rnil _) h1 h4 Zq6 hv hbody
   refine hh.mono ?_
   rintro e w' ⟨rfl,b',s'⟩
   exact ⟨_,rfl,hev.below b',Mod.of_below _ _ b',.inl rfl⟩
def ytg (base:Nat) (c:Bad) (w:World) (e:Ending) (w':World):Prop:=e=.returned (.agg #[.int .i64 c.1,.string c.2])∧Below base w w'∧w.heap.size≤w'.heap.size
theorem ypc (d lo base E:Nat) (A:Option Addr) (n c:Nat) (l:List (Tr d)) (An:Option Addr) (nn cn:Nat) (names bits0:List ByteArray) (v0:Value) (wB w:World) (h:RdT wB lo d A n l) (hrn:Rd wB 1 An nn (strs names)) (hnn:names.length=nn) (hB:wB.heap.size≤base) (hbase:base≤w.heap.size) (hbB:Below base wB w) (hX:base≤E) (hev:EvS w base E An nn cn bits0 v0) (hb3:bits0.length≤3) (h4:nn≤4) (hsz:szT d l≤1048576) (hv:ya7 d l=true) :
  Calls Tryz.prog 78 #[.slice A n c,.pointer (some ⟨E,0,none⟩)] w (ytg base (chkT d l names bits0) w):=by
 cases d with
 | zero =>
  obtain rfl:=ycl h
  clear h hrn hnn hbB hev
  go_enter Tryz.func78,Tryz.ntmps78
  go_wp2
  refine wp_loop_rounds 1 ?_
  rw[rounds_succ]
  go_wp2
  exact bodyPost_ret (v:=.agg #[.int .i64 0,.string ⟨#[]⟩]) (by simp [results,Tryz.results78,go_sem]) rfl ⟨rfl,(Below.refl _ _).alloc hbase _,Zq5⟩
 | succ d =>
  have hq:=hsz
  rw[ybb] at hq
  have hln:=h.len
  have hn:n≤1048576:=by omega
  obtain ⟨f,hf⟩:∃ f,f=fun (s:Tr (d+1)) bits=>oneT d (hdT s) (bdT s) names bits:=⟨_,rfl⟩
  obtain ⟨RES,hRES⟩:∃ RES,RES=topB f l bits0:=⟨_,rfl⟩
  have HRES:Hid (chkT (d+1) l names bits0=RES):=by rw[hRES,hf];exact rfl
  obtain ⟨w0,hw0⟩:∃ w0,w0=w.alloc (.cells #[.int .i64 0,.string ⟨#[]⟩] 96):=⟨_,rfl⟩
  have X0:=hD (show w0.heap[w.heap.size]?=some (.cells #[.int .i64 0,.string ⟨#[]⟩] 96 (0,0)) by rw[hw0];exact yac _ _)
  have b0:Below w.heap.size w w0:=by rw[hw0];exact Zq0
  have hz0:w.heap.size<w0.heap.size:=by rw[hw0];simp
  have hxw:E<w.heap.size:=lt_of_block hev.x
  have hvl:∀ k,v0.ownBlock=some k→base≤k∧k<w.heap.size:=fun k e=>hev.o.lt k e
  have HVL:=hD hvl
  have EV0:=hD (hev.below b0)
  have HW:=hD hw0
  have H:=hD h
  have HLN:=hD hln
  have HF:=hD hf
  have HRS:=hD hRES
  have HN:=hD hrn
  have HNN:=hD hnn
  have HQ:=hD hq
  have HV:=hD hv
  have B0:=hD b0
  have BB:=hD (hbB.trans (b0.mono hbase))
  clear h hln hf hRES hrn hnn hsz hq hv hw0 b0 hev hvl hbB
  go_enter Tryz.func78,Tryz.ntmps78
  go_wp2_with fail
  rw[←HW.out]
  go_loopw [5] (fun i wr=>∃ (t:Nat) (v:Value) (bits:List ByteArray),t≤n∧i=.int .i64 t∧Hid (topB f (l.drop t) bits=RES)∧Hid (bits.length≤3)∧Hid (EvS wr base E An nn cn bits v)∧Hid (Mod E v0.ownBlock w0 wr)∧Hid (Grew v0.ownBlock w0.heap.size v.ownBlock)) (fun i _=>n - (intOf i).toNat)
  case atStart=>exact ⟨0,v0,bits0,Nat.zero_le _,rfl,HRS.out.symm,hb3,EV0.out,Mod.of_below _ _ (Below.refl _ _),.inl rfl⟩
  case round =>
   obtain ⟨t,v,bits,ht,rfl,hres,hb3r,hevr,hmod,hgr⟩:=hrel
   have hbs:=hmod.out.size
   have hBr:Below base w0 wr:=hmod.out.below Zq6 hX (fun k e=>(HVL.out k e).1)
   have hbB:Below wB.heap.size wB wr:=(BB.out.trans hBr).mono hB
   have hX0r:wr.heap[w.heap.size]?=some (.cells #[.int .i64 0,.string ⟨#[]⟩] 96 (0,0)):=(hmod.out.block _ hz0 Zq6 (fun e=>by have:=(HVL.out _ e).2;omega)).trans X0.out
   by_cases hlt:t<n
   ·obtain ⟨b,off,s,Aa,ca,Ac,nc,cc,rfl,hbl,hs,⟨c0,c1,c2,c3,c4⟩,ha,hbd,hcap⟩:=H.out.at_c hlt
    rw[←hbB.cell (p:=⟨b,_,none⟩) hbl] at c0 c1 c2 c3 c4
    have hbl':b<wr.heap.size:=Nat.lt_of_lt_of_le hbl hbB.size
    have hme:=ydw hs
    have hze:szE s=(hdT s).word.size+((hdT s).args.length+szS (hdT s).args+szT d (bdT s)):=rfl
    have hq:=HQ.out
    have hvs:=yf1 HV.out hs
    obtain ⟨hk,_,hvb⟩:=yet hvs
    have HC:=hD (ykk d (bdT s) (hdT s).k (hdT s).word (hdT s).args names bits (hdT s).count Aa _ ca Ac nc cc An nn cn base E v wr hevr.out Zq6 hb3r.out rfl (ha.rd.below hbB) hcap Zq6 HNN.out (HN.out.below hbB) h4 hvs Zq6 (ym6 (yrk d) cc (hbd.below hbB) hvb))
    obtain ⟨R,hR⟩:∃ R,R=oneT d (hdT s) (bdT s) names bits:=⟨_,rfl⟩
    have HC2:Hid (Calls Tryz.prog 125 #[.agg #[.int .i64 (hdT s).k,.string (hdT s).word,.slice Aa (hdT s).args.length ca,.int .i64 (hdT s).count,.slice Ac nc cc],.pointer (some ⟨E,0,none⟩)] wr (yki base E An nn cn v R wr)):=by
     rw[hR]
     exact HC.out
    have HAT:Hid (RES=if R.1.1=0 then topB f (l.drop (t+1)) R.2 else R.1):=by
     rw[←hres.out,yoe hs,HF.out,hR]
     exact rfl
    have HB3:Hid (R.2.length≤3):=by rw[hR];exact ysc hb3r.out
    have hvlr:∀ k,v.ownBlock=some k→k<wr.heap.size:=fun k e=>(hevr.out.o.lt k e).2
    have hvX:v.ownBlock≠some w.heap.size:=fun e=>by rcases hgr.out with g|⟨k',g,hk'⟩ <;> have hh:=g.symm.trans e <;> first|(have:=(HVL.out _ hh).2;omega)|(have:=Option.some.inj hh;omega)
    have HVX:=hD hvX
    clear hs ha hbd hcap hme hze hq hvs hk hvb HC hR hvlr hvX hevr hres
    go_wp2_with fail
    refine HC2.out.mono ?_
    rintro e w1 ⟨v1,rfl,ev1,m1,g1⟩
    have hX1:w1.heap[w.heap.size]?=some (.cells #[.int .i64 0,.string ⟨#[]⟩] 96 (0,0)):=(m1.block _ Zq6 Zq6 HVX.out).trans hX0r
    obtain ⟨k0,k1⟩:=ycd (lay:=Below.refl _ _) hX1
    have f0:=ya6 (Below.refl _ _) hX1 0
    have f1:=ya6 (Below.refl _ _) hX1 1
    have hl1:w.heap.size<w1.heap.size:=lt_of_block hX1
    have hs1:=m1.size
    have MW1:=hD (hmod.out.trans m1 hgr.out)
    have GR1:=hD (hgr.out.transV g1 Zq6)
    have EV1:=hD ev1
    clear c0 c1 c2 c3 c4 hX1 ev1 m1 g1 hmod hgr
    by_cases hc0:R.1.1=0
    ·have HZ:Hid (topB f (l.drop (t+1)) R.2=RES):=by rw[HAT.out,if_pos hc0];exact rfl
     have hne:(R.1.1 != 0)=false:=by simp [hc0]
     have HC0:=hD hc0
     clear hc0
     go_wp2_with fail
     go_roundw
     case rel=>exact ⟨t+1,v1,R.2,by omega,by go_num,HZ,HB3,EV1.out.below ((Below.refl _ _).alloc (Nat.le_refl _) _),MW1.out.trans (Mod.of_below E _ ((Below.refl _ _).alloc (Nat.le_refl _) _)) (.inl rfl),GR1⟩
     case measure=>simp [intOf];omega
    ·have HE2:Hid (RES=R.1):=by rw[HAT.out,if_neg hc0];exact rfl
     have hne:(R.1.1 != 0)=true:=by rw[bne_iff_ne];exact hc0
     have HBE:=hD (MW1.out.below (B:=base) Zq6 hX (fun k e=>(HVL.out k e).1))
     clear hc0
     go_wp2_with fail
     exact bodyPost_ret (v:=.agg #[.int .i64 R.1.1,.string R.1.2]) (by simp [results,Tryz.results78,go_sem,k0,k1,hl1]) rfl ⟨by rw[HRES.out,HE2.out],((((B0.out.mono hbase).trans HBE.out).setCell hbase _).setCell hbase _).alloc (by rw[ych,ych];have:=HBE.out.size;omega) _,by have:=HBE.out.size;simp [World.setCell];omega⟩
   ·obtain rfl:t=n:=by omega
    have HFN:Hid (RES=bad0):=by
     rw[←hres.out,List.drop_of_length_le (by rw[HLN.out];exact Nat.le_refl _)]
     exact rfl
    have HB:=hD hBr
    obtain ⟨k0,k1⟩:=ycd (lay:=Below.refl _ _) hX0r
    have f0:=ya6 (Below.refl _ _) hX0r 0
    have f1:=ya6 (Below.refl _ _) hX0r 1
    have hl1:w.heap.size<wr.heap.size:=lt_of_block hX0r
    clear hX0r hbB hBr hmod hgr hevr
    go_wp2_with fail
    exact bodyPost_ret (v:=.agg #[.int .i64 0,.string ⟨#[]⟩]) (by simp [results,Tryz.results78,go_sem,k0,k1]) rfl ⟨by rw[HRES.out,HFN.out];rfl,(((B0.out.mono hbase).trans HB.out).setCell hbase _).setCell hbase _,by simp [World.setCell];omega⟩
end Go.Proofs.YthkbckkghnbonaaGreatDoor
