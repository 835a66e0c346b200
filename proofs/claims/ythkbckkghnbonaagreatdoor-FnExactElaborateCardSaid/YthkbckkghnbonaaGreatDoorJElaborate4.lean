/- What the calls that this law reaches answer, part 4 of 16. -/
import Derived.Test.YthkbckkghnbonaaGreatDoorJElaborate3
import Derived.Test.YthkbckkghnbonaaGreatDoorJElaborate1
set_option maxRecDepth 100000
set_option maxHeartbeats 16000000
set_option linter.unusedVariables false
namespace Go.Proofs.YthkbckkghnbonaaGreatDoor
open Go.RowKit
set_option linter.unusedVariables false
abbrev Bad:=Int × ByteArray
def bad0:Bad:=(0,⟨#[]⟩)
def argBad (names held:List ByteArray) (a:ByteArray):Bad:=if hasS names a=false then (2,a) else if hasS held a=true then (4,a) else bad0
def chkA (names held args:List ByteArray):Nat→List ByteArray→Bad
 | _,[]=>bad0
 | i,a :: r=>if hasS names a=false then (2,a) else if hasS held a=true then (4,a) else if hasS (args.take i) a=true then (3,a) else chkA names held args (i+1) r
def ctlS (k:Int) (n:Nat):Bool:=if n=0 then true else if n=1 then (k != 7&&(k != 8&&k != 12)) else decide (n=2)&&(k==1 || k==3)
def hardW (word:ByteArray):Bool:=word.toList==[116] || (word.toList==[116,100] || word.toList==[99,99,120])
def badI (word:ByteArray) (n:Nat):Bool:=(decide (n=1)&&hardW word) || ((decide (n=2)&&(!(word.toList==[120])&&!(word.toList==[122]))) || decide (2<n))
def gateBad (names held args:List ByteArray) (word:ByteArray):Bad:=if (chkA names held args 0 args).1=0 then (if ctlS (gkind word) held.length=true then bad0 else (9,word)) else chkA names held args 0 args
section
variable {names held args:List ByteArray} {t:Nat} {a:ByteArray}
theorem drop_at (h:args[t]?=some a):args.drop t=a :: args.drop (t+1):=by
 obtain ⟨hl,rfl⟩:=List.getElem?_eq_some_iff.1 h
 exact List.drop_eq_getElem_cons hl
theorem chkA_2 (h:args[t]?=some a) (h1:hasS names a=false):chkA names held args t (args.drop t)=(2,a):=by rw[drop_at h,chkA,if_pos h1]
theorem chkA_4 (h:args[t]?=some a) (h1:hasS names a=true) (h2:hasS held a=true):chkA names held args t (args.drop t)=(4,a):=by rw[drop_at h,chkA,if_neg (by simp [h1]),if_pos h2]
theorem chkA_3 (h:args[t]?=some a) (h1:hasS names a=true) (h2:hasS held a=false) (h3:hasS (args.take t) a=true):chkA names held args t (args.drop t)=(3,a):=by rw[drop_at h,chkA,if_neg (by simp [h1]),if_neg (by simp [h2]),if_pos h3]
theorem chkA_0 (h:args[t]?=some a) (h1:hasS names a=true) (h2:hasS held a=false) (h3:hasS (args.take t) a=false):chkA names held args t (args.drop t)=chkA names held args (t+1) (args.drop (t+1)):=by rw[drop_at h,chkA,if_neg (by simp [h1]),if_neg (by simp [h2]),if_neg (by simp [h3])]
theorem gateBad_n {word:ByteArray} {c:Bad} (h:chkA names held args 0 args=c) (hc:c.1≠0):gateBad names held args word=c:=by rw[gateBad,h,if_neg hc]
theorem gateBad_t {word:ByteArray} (h:chkA names held args 0 args=bad0) (hc:ctlS (gkind word) held.length=true):gateBad names held args word=bad0:=by rw[gateBad,h,if_pos (show bad0.1=0 from rfl),if_pos hc]
theorem gateBad_f {word:ByteArray} (h:chkA names held args 0 args=bad0) (hc:ctlS (gkind word) held.length=false):gateBad names held args word=(9,word):=by rw[gateBad,h,if_pos (show bad0.1=0 from rfl),if_neg (by simp [hc])]
end
theorem gk_names:∀ k,k<13→0<k→gkindFrom (gname k) 12 1=k:=by decide
theorem gk_eq {word:ByteArray} {k:Nat} (hk:k<13) (h0:0<k):(gkind word=k) ↔ word.toList=gname k:=by
 constructor
 ·intro h
  have key:∀ f j,j+f≤13→gkindFrom word.toList f j=k→word.toList=gname k:=by
   intro f
   induction f with
   | zero=>intro j _ e;simp [gkindFrom] at e;omega
   | succ f ih =>
    intro j hj e
    simp only[gkindFrom] at e
    split at e
    ·rename_i hh
     have:=LawfulBEq.eq_of_beq hh
     rw[←e]
     exact this.symm
    ·exact ih (j+1) Zq6 e
  exact key 12 1 Zq6 h
 ·intro h
  unfold gkind
  rw[h]
  exact gk_names k hk h0
theorem gk_ne {word:ByteArray} {k:Nat} (hk:k<13) (h0:0<k):((gkind word:Int) != (k:Int))=!(word.toList==gname k):=by
 by_cases h:word.toList=gname k
 ·have:=(gk_eq hk h0).2 h
  rw[this,h]
  simp
 ·have:gkind word≠k:=fun e=>h ((gk_eq hk h0).1 e)
  have h1:(word.toList==gname k)=false:=by simpa using h
  rw[h1]
  simp
  omega
theorem badI_ctl (word:ByteArray) (n:Nat):badI word n=!ctlS (gkind word) n:=by
 have e7:=gk_ne (word:=word) (k:=7) Zq8 Zq8
 have e8:=gk_ne (word:=word) (k:=8) Zq8 Zq8
 have e12:=gk_ne (word:=word) (k:=12) Zq8 Zq8
 have e1:=gk_ne (word:=word) (k:=1) Zq8 Zq8
 have e3:=gk_ne (word:=word) (k:=3) Zq8 Zq8
 have g7:gname 7=[116]:=rfl
 have g8:gname 8=[116,100]:=rfl
 have g12:gname 12=[99,99,120]:=rfl
 have g1:gname 1=[120]:=rfl
 have g3:gname 3=[122]:=rfl
 rw[g7] at e7;rw[g8] at e8;rw[g12] at e12;rw[g1] at e1;rw[g3] at e3
 have f1:((gkind word:Int)==1)=(word.toList==[120]):=by
  have:((gkind word:Int)==1)=!((gkind word:Int) != 1):=by simp [bne]
  rw[this]
  have e1':((gkind word:Int) != 1)=!(word.toList==[120]):=e1
  rw[e1']
  simp
 have f3:((gkind word:Int)==3)=(word.toList==[122]):=by
  have:((gkind word:Int)==3)=!((gkind word:Int) != 3):=by simp [bne]
  rw[this]
  have e3':((gkind word:Int) != 3)=!(word.toList==[122]):=e3
  rw[e3']
  simp
 have e7':((gkind word:Int) != 7)=!(word.toList==[116]):=e7
 have e8':((gkind word:Int) != 8)=!(word.toList==[116,100]):=e8
 have e12':((gkind word:Int) != 12)=!(word.toList==[99,99,120]):=e12
 unfold badI ctlS hardW
 rw[f1,f3,e7',e8',e12']
 by_cases n0:n=0
 ·subst n0;simp
 ·by_cases n1:n=1
  ·subst n1
   cases word.toList==[116] <;> cases word.toList==[116,100] <;> cases word.toList==[99,99,120] <;> simp
  ·by_cases n2:n=2
   ·subst n2
    cases word.toList==[120] <;> cases word.toList==[122] <;> simp
   ·have:2<n:=by omega
    simp [n0,n1,n2,this]
theorem boxcells3 {w w':World} {b:Nat} {x0 x1 x2:Value} {t:TypeId} (lay:Below w'.heap.size w' w) (h:w'.heap[b]?=some (.cells #[x0,x1,x2] t (0,0))) :
  w.cell? ⟨b,0,none⟩=some x0∧w.cell? ⟨b,1,none⟩=some x1∧w.cell? ⟨b,2,none⟩=some x2:=by
 have h':w.heap[b]?=some (.cells #[x0,x1,x2] t (0,0)):=(lay.block b (lt_of_block h)).trans h
 exact ⟨by simp [World.cell?,h'],by simp [World.cell?,h'],by simp [World.cell?,h']⟩
def RetBad2 (c:Bad) (w:World) (e:Ending) (w':World):Prop:=e=.returned (.tuple #[.int .i64 c.1,.string c.2])∧Below w.heap.size w w'∧w.heap.size≤w'.heap.size
theorem gate_impl (C:Value) (word:ByteArray) (args names held:List ByteArray) (count:Int) (Aa:Option Addr) (m ca:Nat) (vb:Value) (An Ah:Option Addr) (nn cn nh ch:Nat) (nested:Bool) (w:World)
  (hm:args.length=m) (hra:Rd w 1 Aa m (strs args)) (hca:m≤ca) (hnn:names.length=nn) (hrn:Rd w 1 An nn (strs names)) (hnh:held.length=nh) (hrh:Rd w 1 Ah nh (strs held)) (h1:m≤1048576) (h2:nn≤1048576) (h3:nh≤1048576) (hvb:∃ A n c,vb=.slice A n c) :
  Calls Tryz.prog 173 #[C,.agg #[.int .i64 1,.string word,.slice Aa m ca,.int .i64 count,vb],.agg #[.slice An nn cn,.slice Ah nh ch,.bool nested]] w (RetBad2 (gateBad names held args word) w):=by
 obtain ⟨Ab,nb,cb,rfl⟩:=hvb
 obtain ⟨w0,hw0⟩:∃ w0,w0=(w.alloc (.cells #[.int .i64 1,.string word,.slice Aa m ca,.int .i64 count,.slice Ab nb cb] 66)).alloc (.cells #[.slice An nn cn,.slice Ah nh ch,.bool nested] 151):=⟨_,rfl⟩
 have X0:=hD (show w0.heap[w.heap.size]?=some (.cells #[.int .i64 1,.string word,.slice Aa m ca,.int .i64 count,.slice Ab nb cb] 66 (0,0)) by rw[hw0];exact boxed2_0 _ _ _)
 have X1:=hD (show w0.heap[w.heap.size+1]?=some (.cells #[.slice An nn cn,.slice Ah nh ch,.bool nested] 151 (0,0)) by rw[hw0];exact boxed2_1 _ _ _)
 have b0:Below w.heap.size w w0:=by rw[hw0];exact Zq0
 have hz:w.heap.size+1<w0.heap.size:=by rw[hw0];simp
 have HW:=hD hw0
 have HA:=hD (hra.below b0)
 have HN:=hD (hrn.below b0)
 have HH:=hD (hrh.below b0)
 have HM:=hD hm
 have HNN:=hD hnn
 have HNH:=hD hnh
 have B0:=hD b0
 clear hw0 b0 hra hrn hrh hm hnn hnh
 obtain ⟨p0,p1,p2,p3,p4⟩:=boxcells5 (lay:=Below.refl _ _) X0.out
 obtain ⟨q0,q1,q2⟩:=boxcells3 (lay:=Below.refl _ _) X1.out
 have hz0:w.heap.size<w0.heap.size:=by omega
 go_enter Tryz.func173,Tryz.ntmps173
 go_wp2_with fail
 rw[←HW.out]
 go_loop [15] (fun i=>∃ t:Nat,t≤m∧i=.int .i64 t∧Hid (chkA names held args 0 args=chkA names held args t (args.drop t))) (fun i=>m - (intOf i).toNat)
 case atStart=>exact ⟨0,Nat.zero_le _,rfl,rfl⟩
 case round =>
  obtain ⟨t,ht,rfl,hc⟩:=hrel
  by_cases hlt:t<m
  ·obtain ⟨a,ha⟩:∃ a,args[t]?=some a:=⟨_,List.getElem?_eq_getElem (by rw[HM.out];exact hlt)⟩
   obtain ⟨b,off,rfl,hbl,hcl⟩:=HA.out.2 Zq6
   have r0:=hcl t _ (strs_at ha)
   have HAT:=hD ha
   have RT:Hid (Rd w0 1 (some ⟨b,off,none⟩) t (strs (args.take t))):=by
    have:=HA.out.take (t:=t) Zq6
    rw[show(strs args).take t=strs (args.take t) by simp [strs]] at this
    exact this
   clear hcl ha
   cases e1:hasS names a
   ·have HF:=hD (gateBad_n (word:=word) (hc.out.trans (chkA_2 HAT.out e1)) (show(2:Int)≠0 by decide))
    go_wp2_with (first|(go_at_call 118;(with_reducible refine(hasWord_any An nn cn names a w0 HN.out HNN.out Zq6).mono ?_);rintro e w' ⟨rfl,rfl⟩)|(go_at_call 118;(with_reducible refine(hasWord_any Ah nh ch held a w0 HH.out HNH.out Zq6).mono ?_);rintro e w' ⟨rfl,rfl⟩)|(go_at_call 118;(with_reducible refine(hasWord_any (some ⟨b,off,none⟩) t _ (args.take t) a w0 RT.out (by rw[List.length_take,HM.out];omega) Zq6).mono ?_);rintro e w' ⟨rfl,rfl⟩))
    go_ret2
    exact ⟨by rw[HF.out];rfl,B0.out,B0.out.size⟩
   ·cases e2:hasS held a
    ·cases e3:hasS (args.take t) a
     ·have HN1:=hD (hc.out.trans (chkA_0 HAT.out e1 e2 e3))
      go_wp2_with (first|(go_at_call 118;(with_reducible refine(hasWord_any An nn cn names a w0 HN.out HNN.out Zq6).mono ?_);rintro e w' ⟨rfl,rfl⟩)|(go_at_call 118;(with_reducible refine(hasWord_any Ah nh ch held a w0 HH.out HNH.out Zq6).mono ?_);rintro e w' ⟨rfl,rfl⟩)|(go_at_call 118;(with_reducible refine(hasWord_any (some ⟨b,off,none⟩) t _ (args.take t) a w0 RT.out (by rw[List.length_take,HM.out];omega) Zq6).mono ?_);rintro e w' ⟨rfl,rfl⟩))
      go_round
      case rel=>exact ⟨t+1,by omega,by go_num,HN1⟩
      case measure=>simp [intOf];omega
     ·have HF:=hD (gateBad_n (word:=word) (hc.out.trans (chkA_3 HAT.out e1 e2 e3)) (show(3:Int)≠0 by decide))
      go_wp2_with (first|(go_at_call 118;(with_reducible refine(hasWord_any An nn cn names a w0 HN.out HNN.out Zq6).mono ?_);rintro e w' ⟨rfl,rfl⟩)|(go_at_call 118;(with_reducible refine(hasWord_any Ah nh ch held a w0 HH.out HNH.out Zq6).mono ?_);rintro e w' ⟨rfl,rfl⟩)|(go_at_call 118;(with_reducible refine(hasWord_any (some ⟨b,off,none⟩) t _ (args.take t) a w0 RT.out (by rw[List.length_take,HM.out];omega) Zq6).mono ?_);rintro e w' ⟨rfl,rfl⟩))
      go_ret2
      exact ⟨by rw[HF.out];rfl,B0.out,B0.out.size⟩
    ·have HF:=hD (gateBad_n (word:=word) (hc.out.trans (chkA_4 HAT.out e1 e2)) (show(4:Int)≠0 by decide))
     go_wp2_with (first|(go_at_call 118;(with_reducible refine(hasWord_any An nn cn names a w0 HN.out HNN.out Zq6).mono ?_);rintro e w' ⟨rfl,rfl⟩)|(go_at_call 118;(with_reducible refine(hasWord_any Ah nh ch held a w0 HH.out HNH.out Zq6).mono ?_);rintro e w' ⟨rfl,rfl⟩)|(go_at_call 118;(with_reducible refine(hasWord_any (some ⟨b,off,none⟩) t _ (args.take t) a w0 RT.out (by rw[List.length_take,HM.out];omega) Zq6).mono ?_);rintro e w' ⟨rfl,rfl⟩))
     go_ret2
     exact ⟨by rw[HF.out];rfl,B0.out,B0.out.size⟩
  ·obtain rfl:t=m:=by omega
   have hc':Hid (chkA names held args 0 args=bad0):=by
    have:=hc.out
    rw[List.drop_of_length_le (by rw[HM.out];exact Nat.le_refl _)] at this
    exact this.trans rfl
   have hctl:=badI_ctl word held.length
   rw[HNH.out] at hctl
   have HCT:=hD hctl
   clear hctl
   cases e16:word.toList==[116]
   ·cases e17:word.toList==[116,100]
    ·cases e18:word.toList==[99,99,120]
     ·have hnn4:nh=0∨nh=1∨nh=2∨2<nh:=by omega
      rcases hnn4 with hn0|hn1|hn2|hn3
      ·have hb:badI word nh=false:=by simp [badI,hardW,e16,e17,e18,hn0]
       have hcc:ctlS (gkind word) nh=true:=by have:=HCT.out;rw[hb] at this;simpa using this.symm
       have HF:=hD (gateBad_t hc'.out (by rw[HNH.out];exact hcc))
       have d1:((nh:Int)==1)=false:=by rw[beq_eq_false_iff_ne];omega
       have d2:((nh:Int)==2)=false:=by rw[beq_eq_false_iff_ne];omega
       have d3:decide (2<(nh:Int))=false:=by simp;omega
       have d4:decide (2<nh)=false:=by simp;omega
       have ne16:(!(word.toList==[116]))=true:=by rw[e16];rfl
       have ne17:(!(word.toList==[116,100]))=true:=by rw[e17];rfl
       have ne18:(!(word.toList==[99,99,120]))=true:=by rw[e18];rfl
       clear hb hcc hn0 hc'
       go_wp2_with fail
       go_ret2
       exact ⟨by rw[HF.out];rfl,B0.out,B0.out.size⟩
      ·have hb:badI word nh=false:=by simp [badI,hardW,e16,e17,e18,hn1]
       have hcc:ctlS (gkind word) nh=true:=by have:=HCT.out;rw[hb] at this;simpa using this.symm
       have HF:=hD (gateBad_t hc'.out (by rw[HNH.out];exact hcc))
       have d1:((nh:Int)==1)=true:=by simp;omega
       have d2:((nh:Int)==2)=false:=by rw[beq_eq_false_iff_ne];omega
       have d3:decide (2<(nh:Int))=false:=by simp;omega
       have d4:decide (2<nh)=false:=by simp;omega
       have ne16:(!(word.toList==[116]))=true:=by rw[e16];rfl
       have ne17:(!(word.toList==[116,100]))=true:=by rw[e17];rfl
       have ne18:(!(word.toList==[99,99,120]))=true:=by rw[e18];rfl
       clear hb hcc hn1 hc'
       go_wp2_with fail
       go_ret2
       exact ⟨by rw[HF.out];rfl,B0.out,B0.out.size⟩
      ·cases e19:word.toList==[120]
       ·cases e20:word.toList==[122]
        ·have hb:badI word nh=true:=by simp [badI,hardW,e16,e17,e18,e19,e20,hn2]
         have hcc:ctlS (gkind word) nh=false:=by have:=HCT.out;rw[hb] at this;simpa using this.symm
         have HF:=hD (gateBad_f hc'.out (by rw[HNH.out];exact hcc))
         have d1:((nh:Int)==1)=false:=by rw[beq_eq_false_iff_ne];omega
         have d2:((nh:Int)==2)=true:=by simp;omega
         have d3:decide (2<(nh:Int))=false:=by simp;omega
         have d4:decide (2<nh)=false:=by simp;omega
         have ne16:(!(word.toList==[116]))=true:=by rw[e16];rfl
         have ne17:(!(word.toList==[116,100]))=true:=by rw[e17];rfl
         have ne18:(!(word.toList==[99,99,120]))=true:=by rw[e18];rfl
         have ne19:(!(word.toList==[120]))=true:=by rw[e19];rfl
         have ne20:(!(word.toList==[122]))=true:=by rw[e20];rfl
         clear hb hcc hn2 hc'
         go_wp2_with fail
         go_quiet (fail)
         go_wp2_with fail
         go_ret2
         exact ⟨by rw[HF.out];rfl,below_drewN B0.out _,(below_drewN B0.out _).size⟩
        ·have hb:badI word nh=false:=by simp [badI,hardW,e16,e17,e18,e19,e20,hn2]
         have hcc:ctlS (gkind word) nh=true:=by have:=HCT.out;rw[hb] at this;simpa using this.symm
         have HF:=hD (gateBad_t hc'.out (by rw[HNH.out];exact hcc))
         have d1:((nh:Int)==1)=false:=by rw[beq_eq_false_iff_ne];omega
         have d2:((nh:Int)==2)=true:=by simp;omega
         have d3:decide (2<(nh:Int))=false:=by simp;omega
         have d4:decide (2<nh)=false:=by simp;omega
         have ne16:(!(word.toList==[116]))=true:=by rw[e16];rfl
         have ne17:(!(word.toList==[116,100]))=true:=by rw[e17];rfl
         have ne18:(!(word.toList==[99,99,120]))=true:=by rw[e18];rfl
         have ne19:(!(word.toList==[120]))=true:=by rw[e19];rfl
         have ne20:(!(word.toList==[122]))=false:=by rw[e20];rfl
         clear hb hcc hn2 hc'
         go_wp2_with fail
         go_ret2
         exact ⟨by rw[HF.out];rfl,B0.out,B0.out.size⟩
       ·have hb:badI word nh=false:=by simp [badI,hardW,e16,e17,e18,e19,hn2]
        have hcc:ctlS (gkind word) nh=true:=by have:=HCT.out;rw[hb] at this;simpa using this.symm
        have HF:=hD (gateBad_t hc'.out (by rw[HNH.out];exact hcc))
        have d1:((nh:Int)==1)=false:=by rw[beq_eq_false_iff_ne];omega
        have d2:((nh:Int)==2)=true:=by simp;omega
        have d3:decide (2<(nh:Int))=false:=by simp;omega
        have d4:decide (2<nh)=false:=by simp;omega
        have ne16:(!(word.toList==[116]))=true:=by rw[e16];rfl
        have ne17:(!(word.toList==[116,100]))=true:=by rw[e17];rfl
        have ne18:(!(word.toList==[99,99,120]))=true:=by rw[e18];rfl
        have ne19:(!(word.toList==[120]))=false:=by rw[e19];rfl
        clear hb hcc hn2 hc'
        go_wp2_with fail
        go_ret2
        exact ⟨by rw[HF.out];rfl,B0.out,B0.out.size⟩
      ·have hx:nh≠1∧nh≠2:=by omega
       have hb:badI word nh=true:=by simp [badI,hardW,e16,e17,e18,hn3,hx.1,hx.2]
       have hcc:ctlS (gkind word) nh=false:=by have:=HCT.out;rw[hb] at this;simpa using this.symm
       have HF:=hD (gateBad_f hc'.out (by rw[HNH.out];exact hcc))
       have d1:((nh:Int)==1)=false:=by rw[beq_eq_false_iff_ne];omega
       have d2:((nh:Int)==2)=false:=by rw[beq_eq_false_iff_ne];omega
       have d3:decide (2<(nh:Int))=true:=by simp;omega
       have d4:decide (2<nh)=true:=by simp;omega
       have ne16:(!(word.toList==[116]))=true:=by rw[e16];rfl
       have ne17:(!(word.toList==[116,100]))=true:=by rw[e17];rfl
       have ne18:(!(word.toList==[99,99,120]))=true:=by rw[e18];rfl
       clear hb hcc hn3 hc'
       go_wp2_with fail
       go_quiet (fail)
       go_wp2_with fail
       go_ret2
       exact ⟨by rw[HF.out];rfl,below_drewN B0.out _,(below_drewN B0.out _).size⟩
     ·have hnn4:nh=0∨nh=1∨nh=2∨2<nh:=by omega
      rcases hnn4 with hn0|hn1|hn2|hn3
      ·have hb:badI word nh=false:=by simp [badI,hardW,e16,e17,e18,hn0]
       have hcc:ctlS (gkind word) nh=true:=by have:=HCT.out;rw[hb] at this;simpa using this.symm
       have HF:=hD (gateBad_t hc'.out (by rw[HNH.out];exact hcc))
       have d1:((nh:Int)==1)=false:=by rw[beq_eq_false_iff_ne];omega
       have d2:((nh:Int)==2)=false:=by rw[beq_eq_false_iff_ne];omega
       have d3:decide (2<(nh:Int))=false:=by simp;omega
       have d4:decide (2<nh)=false:=by simp;omega
       have ne16:(!(word.toList==[116]))=true:=by rw[e16];rfl
       have ne17:(!(word.toList==[116,100]))=true:=by rw[e17];rfl
       have ne18:(!(word.toList==[99,99,120]))=false:=by rw[e18];rfl
       clear hb hcc hn0 hc'
       go_wp2_with fail
       go_ret2
       exact ⟨by rw[HF.out];rfl,B0.out,B0.out.size⟩
      ·have hb:badI word nh=true:=by simp [badI,hardW,e16,e17,e18,hn1]
       have hcc:ctlS (gkind word) nh=false:=by have:=HCT.out;rw[hb] at this;simpa using this.symm
       have HF:=hD (gateBad_f hc'.out (by rw[HNH.out];exact hcc))
       have d1:((nh:Int)==1)=true:=by simp;omega
       have d2:((nh:Int)==2)=false:=by rw[beq_eq_false_iff_ne];omega
       have d3:decide (2<(nh:Int))=false:=by simp;omega
       have d4:decide (2<nh)=false:=by simp;omega
       have ne16:(!(word.toList==[116]))=true:=by rw[e16];rfl
       have ne17:(!(word.toList==[116,100]))=true:=by rw[e17];rfl
       have ne18:(!(word.toList==[99,99,120]))=false:=by rw[e18];rfl
       clear hb hcc hn1 hc'
       go_wp2_with fail
       go_quiet (fail)
       go_wp2_with fail
       go_ret2
       exact ⟨by rw[HF.out];rfl,below_drewN B0.out _,(below_drewN B0.out _).size⟩
      ·cases e19:word.toList==[120]
       ·cases e20:word.toList==[122]
        ·have hb:badI word nh=true:=by simp [badI,hardW,e16,e17,e18,e19,e20,hn2]
         have hcc:ctlS (gkind word) nh=false:=by have:=HCT.out;rw[hb] at this;simpa using this.symm
         have HF:=hD (gateBad_f hc'.out (by rw[HNH.out];exact hcc))
         have d1:((nh:Int)==1)=false:=by rw[beq_eq_false_iff_ne];omega
         have d2:((nh:Int)==2)=true:=by simp;omega
         have d3:decide (2<(nh:Int))=false:=by simp;omega
         have d4:decide (2<nh)=false:=by simp;omega
         have ne16:(!(word.toList==[116]))=true:=by rw[e16];rfl
         have ne17:(!(word.toList==[116,100]))=true:=by rw[e17];rfl
         have ne18:(!(word.toList==[99,99,120]))=false:=by rw[e18];rfl
         have ne19:(!(word.toList==[120]))=true:=by rw[e19];rfl
         have ne20:(!(word.toList==[122]))=true:=by rw[e20];rfl
         clear hb hcc hn2 hc'
         go_wp2_with fail
         go_quiet (fail)
         go_wp2_with fail
         go_ret2
         exact ⟨by rw[HF.out];rfl,below_drewN B0.out _,(below_drewN B0.out _).size⟩
        ·have hb:badI word nh=false:=by simp [badI,hardW,e16,e17,e18,e19,e20,hn2]
         have hcc:ctlS (gkind word) nh=true:=by have:=HCT.out;rw[hb] at this;simpa using this.symm
         have HF:=hD (gateBad_t hc'.out (by rw[HNH.out];exact hcc))
         have d1:((nh:Int)==1)=false:=by rw[beq_eq_false_iff_ne];omega
         have d2:((nh:Int)==2)=true:=by simp;omega
         have d3:decide (2<(nh:Int))=false:=by simp;omega
         have d4:decide (2<nh)=false:=by simp;omega
         have ne16:(!(word.toList==[116]))=true:=by rw[e16];rfl
         have ne17:(!(word.toList==[116,100]))=true:=by rw[e17];rfl
         have ne18:(!(word.toList==[99,99,120]))=false:=by rw[e18];rfl
         have ne19:(!(word.toList==[120]))=true:=by rw[e19];rfl
         have ne20:(!(word.toList==[122]))=false:=by rw[e20];rfl
         clear hb hcc hn2 hc'
         go_wp2_with fail
         go_ret2
         exact ⟨by rw[HF.out];rfl,B0.out,B0.out.size⟩
       ·have hb:badI word nh=false:=by simp [badI,hardW,e16,e17,e18,e19,hn2]
        have hcc:ctlS (gkind word) nh=true:=by have:=HCT.out;rw[hb] at this;simpa using this.symm
        have HF:=hD (gateBad_t hc'.out (by rw[HNH.out];exact hcc))
        have d1:((nh:Int)==1)=false:=by rw[beq_eq_false_iff_ne];omega
        have d2:((nh:Int)==2)=true:=by simp;omega
        have d3:decide (2<(nh:Int))=false:=by simp;omega
        have d4:decide (2<nh)=false:=by simp;omega
        have ne16:(!(word.toList==[116]))=true:=by rw[e16];rfl
        have ne17:(!(word.toList==[116,100]))=true:=by rw[e17];rfl
        have ne18:(!(word.toList==[99,99,120]))=false:=by rw[e18];rfl
        have ne19:(!(word.toList==[120]))=false:=by rw[e19];rfl
        clear hb hcc hn2 hc'
        go_wp2_with fail
        go_ret2
        exact ⟨by rw[HF.out];rfl,B0.out,B0.out.size⟩
      ·have hx:nh≠1∧nh≠2:=by omega
       have hb:badI word nh=true:=by simp [badI,hardW,e16,e17,e18,hn3,hx.1,hx.2]
       have hcc:ctlS (gkind word) nh=false:=by have:=HCT.out;rw[hb] at this;simpa using this.symm
       have HF:=hD (gateBad_f hc'.out (by rw[HNH.out];exact hcc))
       have d1:((nh:Int)==1)=false:=by rw[beq_eq_false_iff_ne];omega
       have d2:((nh:Int)==2)=false:=by rw[beq_eq_false_iff_ne];omega
       have d3:decide (2<(nh:Int))=true:=by simp;omega
       have d4:decide (2<nh)=true:=by simp;omega
       have ne16:(!(word.toList==[116]))=true:=by rw[e16];rfl
       have ne17:(!(word.toList==[116,100]))=true:=by rw[e17];rfl
       have ne18:(!(word.toList==[99,99,120]))=false:=by rw[e18];rfl
       clear hb hcc hn3 hc'
       go_wp2_with fail
       go_quiet (fail)
       go_wp2_with fail
       go_ret2
       exact ⟨by rw[HF.out];rfl,below_drewN B0.out _,(below_drewN B0.out _).size⟩
    ·have hnn4:nh=0∨nh=1∨nh=2∨2<nh:=by omega
     rcases hnn4 with hn0|hn1|hn2|hn3
     ·have hb:badI word nh=false:=by simp [badI,hardW,e16,e17,hn0]
      have hcc:ctlS (gkind word) nh=true:=by have:=HCT.out;rw[hb] at this;simpa using this.symm
      have HF:=hD (gateBad_t hc'.out (by rw[HNH.out];exact hcc))
      have d1:((nh:Int)==1)=false:=by rw[beq_eq_false_iff_ne];omega
      have d2:((nh:Int)==2)=false:=by rw[beq_eq_false_iff_ne];omega
      have d3:decide (2<(nh:Int))=false:=by simp;omega
      have d4:decide (2<nh)=false:=by simp;omega
      have ne16:(!(word.toList==[116]))=true:=by rw[e16];rfl
      have ne17:(!(word.toList==[116,100]))=false:=by rw[e17];rfl
      clear hb hcc hn0 hc'
      go_wp2_with fail
      go_ret2
      exact ⟨by rw[HF.out];rfl,B0.out,B0.out.size⟩
     ·have hb:badI word nh=true:=by simp [badI,hardW,e16,e17,hn1]
      have hcc:ctlS (gkind word) nh=false:=by have:=HCT.out;rw[hb] at this;simpa using this.symm
      have HF:=hD (gateBad_f hc'.out (by rw[HNH.out];exact hcc))
      have d1:((nh:Int)==1)=true:=by simp;omega
      have d2:((nh:Int)==2)=false:=by rw[beq_eq_false_iff_ne];omega
      have d3:decide (2<(nh:Int))=false:=by simp;omega
      have d4:decide (2<nh)=false:=by simp;omega
      have ne16:(!(word.toList==[116]))=true:=by rw[e16];rfl
      have ne17:(!(word.toList==[116,100]))=false:=by rw[e17];rfl
      clear hb hcc hn1 hc'
      go_wp2_with fail
      go_quiet (fail)
      go_wp2_with fail
      go_ret2
      exact ⟨by rw[HF.out];rfl,below_drewN B0.out _,(below_drewN B0.out _).size⟩
     ·cases e19:word.toList==[120]
      ·cases e20:word.toList==[122]
       ·have hb:badI word nh=true:=by simp [badI,hardW,e16,e17,e19,e20,hn2]
        have hcc:ctlS (gkind word) nh=false:=by have:=HCT.out;rw[hb] at this;simpa using this.symm
        have HF:=hD (gateBad_f hc'.out (by rw[HNH.out];exact hcc))
        have d1:((nh:Int)==1)=false:=by rw[beq_eq_false_iff_ne];omega
        have d2:((nh:Int)==2)=true:=by simp;omega
        have d3:decide (2<(nh:Int))=false:=by simp;omega
        have d4:decide (2<nh)=false:=by simp;omega
        have ne16:(!(word.toList==[116]))=true:=by rw[e16];rfl
        have ne17:(!(word.toList==[116,100]))=false:=by rw[e17];rfl
        have ne19:(!(word.toList==[120]))=true:=by rw[e19];rfl
        have ne20:(!(word.toList==[122]))=true:=by rw[e20];rfl
        clear hb hcc hn2 hc'
        go_wp2_with fail
        go_quiet (fail)
        go_wp2_with fail
        go_ret2
        exact ⟨by rw[HF.out];rfl,below_drewN B0.out _,(below_drewN B0.out _).size⟩
       ·have hb:badI word nh=false:=by simp [badI,hardW,e16,e17,e19,e20,hn2]
        have hcc:ctlS (gkind word) nh=true:=by have:=HCT.out;rw[hb] at this;simpa using this.symm
        have HF:=hD (gateBad_t hc'.out (by rw[HNH.out];exact hcc))
        have d1:((nh:Int)==1)=false:=by rw[beq_eq_false_iff_ne];omega
        have d2:((nh:Int)==2)=true:=by simp;omega
        have d3:decide (2<(nh:Int))=false:=by simp;omega
        have d4:decide (2<nh)=false:=by simp;omega
        have ne16:(!(word.toList==[116]))=true:=by rw[e16];rfl
        have ne17:(!(word.toList==[116,100]))=false:=by rw[e17];rfl
        have ne19:(!(word.toList==[120]))=true:=by rw[e19];rfl
        have ne20:(!(word.toList==[122]))=false:=by rw[e20];rfl
        clear hb hcc hn2 hc'
        go_wp2_with fail
        go_ret2
        exact ⟨by rw[HF.out];rfl,B0.out,B0.out.size⟩
      ·have hb:badI word nh=false:=by simp [badI,hardW,e16,e17,e19,hn2]
       have hcc:ctlS (gkind word) nh=true:=by have:=HCT.out;rw[hb] at this;simpa using this.symm
       have HF:=hD (gateBad_t hc'.out (by rw[HNH.out];exact hcc))
       have d1:((nh:Int)==1)=false:=by rw[beq_eq_false_iff_ne];omega
       have d2:((nh:Int)==2)=true:=by simp;omega
       have d3:decide (2<(nh:Int))=false:=by simp;omega
       have d4:decide (2<nh)=false:=by simp;omega
       have ne16:(!(word.toList==[116]))=true:=by rw[e16];rfl
       have ne17:(!(word.toList==[116,100]))=false:=by rw[e17];rfl
       have ne19:(!(word.toList==[120]))=false:=by rw[e19];rfl
       clear hb hcc hn2 hc'
       go_wp2_with fail
       go_ret2
       exact ⟨by rw[HF.out];rfl,B0.out,B0.out.size⟩
     ·have hx:nh≠1∧nh≠2:=by omega
      have hb:badI word nh=true:=by simp [badI,hardW,e16,e17,hn3,hx.1,hx.2]
      have hcc:ctlS (gkind word) nh=false:=by have:=HCT.out;rw[hb] at this;simpa using this.symm
      have HF:=hD (gateBad_f hc'.out (by rw[HNH.out];exact hcc))
      have d1:((nh:Int)==1)=false:=by rw[beq_eq_false_iff_ne];omega
      have d2:((nh:Int)==2)=false:=by rw[beq_eq_false_iff_ne];omega
      have d3:decide (2<(nh:Int))=true:=by simp;omega
      have d4:decide (2<nh)=true:=by simp;omega
      have ne16:(!(word.toList==[116]))=true:=by rw[e16];rfl
      have ne17:(!(word.toList==[116,100]))=false:=by rw[e17];rfl
      clear hb hcc hn3 hc'
      go_wp2_with fail
      go_quiet (fail)
      go_wp2_with fail
      go_ret2
      exact ⟨by rw[HF.out];rfl,below_drewN B0.out _,(below_drewN B0.out _).size⟩
   ·have hnn4:nh=0∨nh=1∨nh=2∨2<nh:=by omega
    rcases hnn4 with hn0|hn1|hn2|hn3
    ·have hb:badI word nh=false:=by simp [badI,hardW,e16,hn0]
     have hcc:ctlS (gkind word) nh=true:=by have:=HCT.out;rw[hb] at this;simpa using this.symm
     have HF:=hD (gateBad_t hc'.out (by rw[HNH.out];exact hcc))
     have d1:((nh:Int)==1)=false:=by rw[beq_eq_false_iff_ne];omega
     have d2:((nh:Int)==2)=false:=by rw[beq_eq_false_iff_ne];omega
     have d3:decide (2<(nh:Int))=false:=by simp;omega
     have d4:decide (2<nh)=false:=by simp;omega
     have ne16:(!(word.toList==[116]))=false:=by rw[e16];rfl
     clear hb hcc hn0 hc'
     go_wp2_with fail
     go_ret2
     exact ⟨by rw[HF.out];rfl,B0.out,B0.out.size⟩
    ·have hb:badI word nh=true:=by simp [badI,hardW,e16,hn1]
     have hcc:ctlS (gkind word) nh=false:=by have:=HCT.out;rw[hb] at this;simpa using this.symm
     have HF:=hD (gateBad_f hc'.out (by rw[HNH.out];exact hcc))
     have d1:((nh:Int)==1)=true:=by simp;omega
     have d2:((nh:Int)==2)=false:=by rw[beq_eq_false_iff_ne];omega
     have d3:decide (2<(nh:Int))=false:=by simp;omega
     have d4:decide (2<nh)=false:=by simp;omega
     have ne16:(!(word.toList==[116]))=false:=by rw[e16];rfl
     clear hb hcc hn1 hc'
     go_wp2_with fail
     go_quiet (fail)
     go_wp2_with fail
     go_ret2
     exact ⟨by rw[HF.out];rfl,below_drewN B0.out _,(below_drewN B0.out _).size⟩
    ·cases e19:word.toList==[120]
     ·cases e20:word.toList==[122]
      ·have hb:badI word nh=true:=by simp [badI,hardW,e16,e19,e20,hn2]
       have hcc:ctlS (gkind word) nh=false:=by have:=HCT.out;rw[hb] at this;simpa using this.symm
       have HF:=hD (gateBad_f hc'.out (by rw[HNH.out];exact hcc))
       have d1:((nh:Int)==1)=false:=by rw[beq_eq_false_iff_ne];omega
       have d2:((nh:Int)==2)=true:=by simp;omega
       have d3:decide (2<(nh:Int))=false:=by simp;omega
       have d4:decide (2<nh)=false:=by simp;omega
       have ne16:(!(word.toList==[116]))=false:=by rw[e16];rfl
       have ne19:(!(word.toList==[120]))=true:=by rw[e19];rfl
       have ne20:(!(word.toList==[122]))=true:=by rw[e20];rfl
       clear hb hcc hn2 hc'
       go_wp2_with fail
       go_quiet (fail)
       go_wp2_with fail
       go_ret2
       exact ⟨by rw[HF.out];rfl,below_drewN B0.out _,(below_drewN B0.out _).size⟩
      ·have hb:badI word nh=false:=by simp [badI,hardW,e16,e19,e20,hn2]
       have hcc:ctlS (gkind word) nh=true:=by have:=HCT.out;rw[hb] at this;simpa using this.symm
       have HF:=hD (gateBad_t hc'.out (by rw[HNH.out];exact hcc))
       have d1:((nh:Int)==1)=false:=by rw[beq_eq_false_iff_ne];omega
       have d2:((nh:Int)==2)=true:=by simp;omega
       have d3:decide (2<(nh:Int))=false:=by simp;omega
       have d4:decide (2<nh)=false:=by simp;omega
       have ne16:(!(word.toList==[116]))=false:=by rw[e16];rfl
       have ne19:(!(word.toList==[120]))=true:=by rw[e19];rfl
       have ne20:(!(word.toList==[122]))=false:=by rw[e20];rfl
       clear hb hcc hn2 hc'
       go_wp2_with fail
       go_ret2
       exact ⟨by rw[HF.out];rfl,B0.out,B0.out.size⟩
     ·have hb:badI word nh=false:=by simp [badI,hardW,e16,e19,hn2]
      have hcc:ctlS (gkind word) nh=true:=by have:=HCT.out;rw[hb] at this;simpa using this.symm
      have HF:=hD (gateBad_t hc'.out (by rw[HNH.out];exact hcc))
      have d1:((nh:Int)==1)=false:=by rw[beq_eq_false_iff_ne];omega
      have d2:((nh:Int)==2)=true:=by simp;omega
      have d3:decide (2<(nh:Int))=false:=by simp;omega
      have d4:decide (2<nh)=false:=by simp;omega
      have ne16:(!(word.toList==[116]))=false:=by rw[e16];rfl
      have ne19:(!(word.toList==[120]))=false:=by rw[e19];rfl
      clear hb hcc hn2 hc'
      go_wp2_with fail
      go_ret2
      exact ⟨by rw[HF.out];rfl,B0.out,B0.out.size⟩
    ·have hx:nh≠1∧nh≠2:=by omega
     have hb:badI word nh=true:=by simp [badI,hardW,e16,hn3,hx.1,hx.2]
     have hcc:ctlS (gkind word) nh=false:=by have:=HCT.out;rw[hb] at this;simpa using this.symm
     have HF:=hD (gateBad_f hc'.out (by rw[HNH.out];exact hcc))
     have d1:((nh:Int)==1)=false:=by rw[beq_eq_false_iff_ne];omega
     have d2:((nh:Int)==2)=false:=by rw[beq_eq_false_iff_ne];omega
     have d3:decide (2<(nh:Int))=true:=by simp;omega
     have d4:decide (2<nh)=true:=by simp;omega
     have ne16:(!(word.toList==[116]))=false:=by rw[e16];rfl
     clear hb hcc hn3 hc'
     go_wp2_with fail
     go_quiet (fail)
     go_wp2_with fail
     go_ret2
     exact ⟨by rw[HF.out];rfl,below_drewN B0.out _,(below_drewN B0.out _).size⟩
def RetBadA (c:Bad) (w:World) (e:Ending) (w':World):Prop:=e=.returned (.agg #[.int .i64 c.1,.string c.2])∧Below w.heap.size w w'∧w.heap.size≤w'.heap.size
theorem argBad_2 {names held:List ByteArray} {a:ByteArray} (h:hasS names a=false):argBad names held a=(2,a):=if_pos h
theorem argBad_4 {names held:List ByteArray} {a:ByteArray} (h:hasS names a=true) (h2:hasS held a=true):argBad names held a=(4,a):=by rw[argBad,if_neg (by simp [h]),if_pos h2]
theorem argBad_0 {names held:List ByteArray} {a:ByteArray} (h:hasS names a=true) (h2:hasS held a=false):argBad names held a=bad0:=by rw[argBad,if_neg (by simp [h]),if_neg (by simp [h2])]
theorem l20Arg_any (a:ByteArray) (names held:List ByteArray) (An Ah Ab:Option Addr) (nn cn nh ch nb cb:Nat) (inside:Bool) (w:World)
  (hnn:names.length=nn) (hrn:Rd w 1 An nn (strs names)) (hnh:held.length=nh) (hrh:Rd w 1 Ah nh (strs held)) (h2:nn≤1048576) (h3:nh≤1048576) :
  Calls Tryz.prog 156 #[.agg #[.slice An nn cn,.slice Ah nh ch,.bool inside,.slice Ab nb cb],.string a] w (RetBadA (argBad names held a) w):=by
 have b0:Below w.heap.size w ((w.alloc (.cells #[.slice An nn cn,.slice Ah nh ch,.bool inside,.slice Ab nb cb] 100)).alloc (.cells #[.int .i64 0,.string ⟨#[]⟩] 96)):=Zq0
 have HN:=hD (hrn.below b0)
 have HH:=hD (hrh.below b0)
 have HNN:=hD hnn
 have HNH:=hD hnh
 clear b0 hrn hrh hnn hnh
 cases e1:hasS names a
 ·have HF:=hD (argBad_2 (held:=held) e1)
  go_enter Tryz.func156,Tryz.ntmps156
  go_wp2_with (go_at_call 77;(with_reducible refine(l1Has_any An nn cn names a _ HN.out HNN.out Zq6).mono ?_);rintro e w' ⟨rfl,rfl⟩)
  exact bodyPost_ret (v:=.agg #[.int .i64 2,.string a]) (by simp [results,Tryz.results156,go_sem]) rfl ⟨by rw[HF.out],Zq0,Zq5⟩
 ·cases e2:hasS held a
  ·have HF:=hD (argBad_0 e1 e2)
   go_enter Tryz.func156,Tryz.ntmps156
   go_wp2_with (first|(go_at_call 77;(with_reducible refine(l1Has_any An nn cn names a _ HN.out HNN.out Zq6).mono ?_);rintro e w' ⟨rfl,rfl⟩)|(go_at_call 77;(with_reducible refine(l1Has_any Ah nh ch held a _ HH.out HNH.out Zq6).mono ?_);rintro e w' ⟨rfl,rfl⟩))
   exact bodyPost_ret (v:=.agg #[.int .i64 0,.string ⟨#[]⟩]) (by simp [results,Tryz.results156,go_sem]) rfl ⟨by rw[HF.out];rfl,Zq0,Zq5⟩
  ·have HF:=hD (argBad_4 e1 e2)
   go_enter Tryz.func156,Tryz.ntmps156
   go_wp2_with (first|(go_at_call 77;(with_reducible refine(l1Has_any An nn cn names a _ HN.out HNN.out Zq6).mono ?_);rintro e w' ⟨rfl,rfl⟩)|(go_at_call 77;(with_reducible refine(l1Has_any Ah nh ch held a _ HH.out HNH.out Zq6).mono ?_);rintro e w' ⟨rfl,rfl⟩))
   exact bodyPost_ret (v:=.agg #[.int .i64 4,.string a]) (by simp [results,Tryz.results156,go_sem]) rfl ⟨by rw[HF.out],Zq0,Zq5⟩
theorem l20Control_any (k n:Nat) (w:World) (hk:k≤12) (hn:n≤1048576):Calls Tryz.prog 177 #[.int .i64 k,.int .i64 n] w fun e w'=>e=.returned (.bool (ctlS k n))∧w=w':=by
 obtain ⟨v,hv⟩:∃ v,v=ctlS k n:=⟨_,rfl⟩
 have HV:=hD hv
 rw[←hv]
 clear hv
 by_cases n0:n=0
 ·subst n0
  have HF:Hid (v=true):=HV.out.trans rfl
  go_enter Tryz.func177,Tryz.ntmps177
  go_wp2
  go_ret
  exact ⟨by rw[HF.out];rfl,rfl⟩
 ·by_cases n1:n=1
  ·subst n1
   have hk':k=0∨k=1∨k=2∨k=3∨k=4∨k=5∨k=6∨k=7∨k=8∨k=9∨k=10∨k=11∨k=12:=by omega
   rcases hk' with rfl|rfl|rfl|rfl|rfl|rfl|rfl|rfl|rfl|rfl|rfl|rfl|rfl
   all_goals
    have HF:=hD (HV.out.trans (show ctlS _ _=_ from rfl))
    clear HV hk n0 hn
    go_enter Tryz.func177,Tryz.ntmps177
    go_wp2
    go_ret
    exact ⟨by rw[HF.out];rfl,rfl⟩
  ·by_cases n2:n=2
   ·subst n2
    have hk':k=0∨k=1∨k=2∨k=3∨k=4∨k=5∨k=6∨k=7∨k=8∨k=9∨k=10∨k=11∨k=12:=by omega
    rcases hk' with rfl|rfl|rfl|rfl|rfl|rfl|rfl|rfl|rfl|rfl|rfl|rfl|rfl
    all_goals
     have HF:=hD (HV.out.trans (show ctlS _ _=_ from rfl))
     clear HV hk n0 n1 hn
     go_enter Tryz.func177,Tryz.ntmps177
     go_wp2
     go_ret
     exact ⟨by rw[HF.out];rfl,rfl⟩
   ·have HF:Hid (v=false):=HV.out.trans (by simp [ctlS,n0,n1,n2])
    have d0:((n:Int)==0)=false:=by rw[beq_eq_false_iff_ne];omega
    have d1:((n:Int)==1)=false:=by rw[beq_eq_false_iff_ne];omega
    have d2:((n:Int)==2)=false:=by rw[beq_eq_false_iff_ne];omega
    have c0:(n==0)=false:=by rw[beq_eq_false_iff_ne];omega
    have c1:(n==1)=false:=by rw[beq_eq_false_iff_ne];omega
    have c2:(n==2)=false:=by rw[beq_eq_false_iff_ne];omega
    clear n0 n1 n2
    go_enter Tryz.func177,Tryz.ntmps177
    go_wp2
    go_ret
    exact ⟨by rw[HF.out];rfl,rfl⟩
theorem strs_ones (l:List ByteArray):∀ u∈strs l,u.oneCell'=true:=by
 intro u hu
 obtain ⟨s,_,rfl⟩:=List.mem_map.1 hu
 rfl
theorem rd_lit4 {w:World} {cs:Array Value} {e n size b:Nat} (h0:b=w.heap.size) (hs:cs.size=n*size):Rd (w.alloc (.cells cs e)) size (some ⟨b,0,none⟩) n cs.toList:=by
 subst h0
 refine ⟨by simpa using hs,fun _=>⟨_,0,rfl,by simp,fun j u hu=>?_⟩⟩
 have h:=heap_alloc_new w (.cells cs e)
 have hc:cs[j]?=some u:=by rw[←Array.getElem?_toList];exact hu
 rw[Nat.zero_add]
 exact cell_at h hc
theorem strs_snoc2 (l:List ByteArray) (a:ByteArray):strs (l++[a])=strs l++[.string a]:=by simp [strs]
theorem l20Add_any (A:Option Addr) (n c:Nat) (l:List ByteArray) (s:ByteArray) (w:World) (h:Rd w 1 A n (strs l)) (hl:l.length=n) (hn:n≤1048576) :
  Calls Tryz.prog 145 #[.slice A n c,.string s] w (RetRow 9 1 w (n+1) (strs (l++[s]))):=by
 obtain ⟨i0,hi,hz0,hz1,hz2⟩:=info_parts info_str
 have H:=hD (h.below (show Below w.heap.size w (w.alloc (.cells #[] 9)) from Zq0))
 have HE:=hD (own_empty w 9 1)
 clear h
 go_enter Tryz.func145,Tryz.ntmps145
 go_wp2_with (at_builtin;refine wpList_append_rd _ rfl _ _ 24 rfl w.heap.size 9 i0 _ 1 16 Tryz.underlying24 hi hz0 hz1 hz2 rfl Zq8 _ _ _ rfl HE.out _ _ _ _ rfl H.out (strs_ones l) ?c3 ?c4 ?c5 ?_)
 case c3=>simp only[maxLen];omega
 case c4=>omega
 case c5=>simp
 intro v1 w1 own1 gr1 _
 have b1:Below w.heap.size w w1:=((Below.refl _ _).alloc (Nat.le_refl _) _).grown gr1 Zq5 (own_ge HE.out)
 have hs1:=b1.size
 clear gr1
 go_wp2_with (at_builtin;refine wpList_append_rd _ rfl _ _ 24 rfl w.heap.size 9 i0 _ 1 16 Tryz.underlying24 hi hz0 hz1 hz2 rfl Zq8 _ _ _ rfl (own1.alloc _) _ 1 1 _ rfl (rd_lit4 ?c0 rfl) ?c2 ?c3 ?c4 ?c5 ?_)
 case c0=>first|omega|rfl|(simp;done)
 case c2=>repeat' (first|rfl|apply And.intro)
 case c3=>simp only[maxLen];omega
 case c4=>omega
 case c5=>simp;omega
 intro v2 w2 own2 gr2 _
 have b2:=(b1.alloc hs1 _).grown gr2 Zq9 (own_ge own1)
 have hs2:=b2.size
 clear own1 gr2
 go_wp2_with fail
 go_ret
 exact ⟨_,rfl,by rw[strs_snoc2];exact own2,b2,hs2⟩
theorem below_undrewC {w w':World} (h:Below w.drew.heap.size w.drew w'):Below w.heap.size w w':=⟨h.os,h.tape,h.output,h.size,h.block⟩
theorem boxcells4' {w w':World} {b:Nat} {x0 x1 x2 x3:Value} {t:TypeId} (lay:Below w'.heap.size w' w) (h:w'.heap[b]?=some (.cells #[x0,x1,x2,x3] t (0,0))) :
  w.cell? ⟨b,0,none⟩=some x0∧w.cell? ⟨b,1,none⟩=some x1∧w.cell? ⟨b,2,none⟩=some x2∧w.cell? ⟨b,3,none⟩=some x3:=boxcells4 lay h
theorem boxc2 {w w':World} {b:Nat} {x0 x1:Value} {t:TypeId} (lay:Below w'.heap.size w' w) (h:w'.heap[b]?=some (.cells #[x0,x1] t (0,0))) :
  w.cell? ⟨b,0,none⟩=some x0∧w.cell? ⟨b,1,none⟩=some x1:=by
 have h':w.heap[b]?=some (.cells #[x0,x1] t (0,0)):=(lay.block b (lt_of_block h)).trans h
 exact ⟨by simp [World.cell?,h'],by simp [World.cell?,h']⟩
theorem argBad_step {names held args:List ByteArray} {t:Nat} {a:ByteArray} (h:args[t]?=some a) (hb:(argBad names held a).1≠0):chkA names held args t (args.drop t)=argBad names held a:=by
 rw[drop_at h,chkA]
 unfold argBad at hb ⊢
 split
 ·rfl
 ·split
  ·rfl
  ·rename_i h1 h2
   rw[if_neg h1,if_neg h2] at hb
   exact absurd rfl hb
theorem argBad_zero {names held:List ByteArray} {a:ByteArray} (hb:(argBad names held a).1=0):argBad names held a=bad0∧hasS names a=true∧hasS held a=false:=by
 unfold argBad at hb ⊢
 split at hb
 ·simp at hb
 ·split at hb
  ·simp at hb
  ·rename_i h1 h2
   rw[if_neg h1,if_neg h2]
   exact ⟨rfl,by simpa using h1,by simpa using h2⟩
theorem l20Gate_any (word:ByteArray) (args names held:List ByteArray) (count:Int) (Aa:Option Addr) (m ca:Nat) (Ac:Option Addr) (nc cc:Nat) (An Ah Ab:Option Addr) (nn cn nh ch nb cb:Nat) (inside:Bool) (w:World)
    (hm:args.length=m) (hra:Rd w 1 Aa m (strs args)) (hca:m≤ca) (hnn:names.length=nn) (hrn:Rd w 1 An nn (strs names)) (hnh:held.length=nh) (hrh:Rd w 1 Ah nh (strs held)) (h1:m≤1048576) (h2:nn≤1048576) (h3:nh≤1048576) :
    Calls Tryz.prog 155 #[.agg #[.int .i64 1,.string word,.slice Aa m ca,.int .i64 count,.slice Ac nc cc],.agg #[.slice An nn cn,.slice Ah nh ch,.bool inside,.slice Ab nb cb]] w (RetBadA (gateBad names held args word) w):=by
  obtain ⟨w0,hw0⟩:∃ w0,w0=((w.alloc (.cells #[.int .i64 1,.string word,.slice Aa m ca,.int .i64 count,.slice Ac nc cc] 66)).alloc (.cells #[.slice An nn cn,.slice Ah nh ch,.bool inside,.slice Ab nb cb] 100)).alloc (.cells #[.int .i64 0,.string ⟨#[]⟩] 96):=⟨_,rfl⟩
  have X0:=hD (show w0.heap[w.heap.size]?=some (.cells #[.int .i64 1,.string word,.slice Aa m ca,.int .i64 count,.slice Ac nc cc] 66 (0,0)) by rw[hw0];exact boxed3_0 _ _ _ _)
  have X1:=hD (show w0.heap[w.heap.size+1]?=some (.cells #[.slice An nn cn,.slice Ah nh ch,.bool inside,.slice Ab nb cb] 100 (0,0)) by rw[hw0];exact boxed3_1 _ _ _ _)
  have X2:=hD (show w0.heap[w.heap.size+1+1]?=some (.cells #[.int .i64 0,.string ⟨#[]⟩] 96 (0,0)) by rw[hw0];exact boxed3_2 _ _ _ _)
  have b0:Below w.heap.size w w0:=by rw[hw0];exact Zq0
  have hz:w.heap.size+2<w0.heap.size:=by rw[hw0];simp
  have HW:=hD hw0
  have HA:=hD (hra.below b0)
  have HN:=hD (hrn.below b0)
  have HH:=hD (hrh.below b0)
  have HM:=hD hm
  have HNN:=hD hnn
  have HNH:=hD hnh
  have B0:=hD b0
  have al:∀ (W:World) (ob:Obj),Below W.heap.size W (W.alloc ob):=fun W ob=>(Below.refl _ _).alloc (Nat.le_refl _) _
  have AL:=hD al
  clear hw0 b0 hra hrn hrh hm hnn hnh al
  go_enter Tryz.func155,Tryz.ntmps155
  go_wp2_with fail
  rw[←HW.out]
  go_loopw [5] (fun i wr=>∃ t:Nat,t≤m∧i=.int .i64 t∧Hid (chkA names held args 0 args=chkA names held args t (args.drop t))∧Below w0.heap.size w0 wr) (fun i _=>m - (intOf i).toNat)
  case atStart=>exact ⟨0,Nat.zero_le _,rfl,rfl,Below.refl _ _⟩
  case round =>
    obtain ⟨t,ht,rfl,hc,hb⟩:=hrel
    have hbs:=hb.size
    obtain ⟨p0,p1,p2,p3,p4⟩:=boxcells5 (lay:=hb) X0.out
    have hlz:w.heap.size<wr.heap.size:=by omega
    have hlz1:w.heap.size+1<wr.heap.size:=by omega
    obtain ⟨q0,q1,q2,q3⟩:=boxcells4' (lay:=hb) X1.out
    by_cases hlt:t<m
    · obtain ⟨a,ha⟩:∃ a,args[t]?=some a:=⟨_,List.getElem?_eq_getElem (by rw[HM.out];exact hlt)⟩
      obtain ⟨b,off,rfl,hbl,hcl⟩:=(HA.out.below hb).2 Zq6
      have r0:=hcl t _ (strs_at ha)
      have HAT:=hD ha
      have RT:Hid (Rd wr 1 (some ⟨b,off,none⟩) t (strs (args.take t))):=by
        have:=(HA.out.below hb).take (t:=t) Zq6
        rw[show(strs args).take t=strs (args.take t) by simp [strs]] at this
        exact this
      have RN:=hD (HN.out.below hb)
      have RH:=hD (HH.out.below hb)
      have KS:Hid (∀ W:World,Below wr.heap.size wr W→(W.cell? ⟨w.heap.size+1,0,none⟩=some (.slice An nn cn)∧W.cell? ⟨w.heap.size+1,1,none⟩=some (.slice Ah nh ch)∧W.cell? ⟨w.heap.size+1,2,none⟩=some (.bool inside)∧W.cell? ⟨w.heap.size+1,3,none⟩=some (.slice Ab nb cb)∧W.cell? ⟨w.heap.size,2,none⟩=some (.slice (some ⟨b,off,none⟩) m ca)∧W.cell? ⟨b,off+t,none⟩=some (.string a))):=fun W hW =>
        ⟨(hW.cell (p:=⟨w.heap.size+1,0,none⟩) hlz1).trans q0,(hW.cell (p:=⟨w.heap.size+1,1,none⟩) hlz1).trans q1,(hW.cell (p:=⟨w.heap.size+1,2,none⟩) hlz1).trans q2,(hW.cell (p:=⟨w.heap.size+1,3,none⟩) hlz1).trans q3,(hW.cell (p:=⟨w.heap.size,2,none⟩) hlz).trans p2,(hW.cell (p:=⟨b,off+t,none⟩) hbl).trans r0⟩
      obtain ⟨c,hcd⟩:∃ c,c=argBad names held a:=⟨_,rfl⟩
      have HC:=hD hcd
      clear hcl ha hcd
      go_wp2_with fail
      go_region_held3 (fun W=>W.cell? ⟨w.heap.size+1,0,none⟩=some (.slice An nn cn)∧W.cell? ⟨w.heap.size+1,1,none⟩=some (.slice Ah nh ch)∧W.cell? ⟨w.heap.size+1,2,none⟩=some (.bool inside)∧W.cell? ⟨w.heap.size+1,3,none⟩=some (.slice Ab nb cb)∧W.cell? ⟨w.heap.size,2,none⟩=some (.slice (some ⟨b,off,none⟩) m ca)∧W.cell? ⟨b,off+t,none⟩=some (.string a)) ((refine KS.out _ ?_;first|exact Below.refl _ _|exact(Below.refl _ _).drew|exact b1|exact(Below.refl _ _).drew.alloc (Nat.le_refl _) _|exact b1.alloc b1.size _|exact(b1.alloc b1.size _).setCell Zq9 _|exact((b1.alloc b1.size _).setCell Zq9 _).setCell Zq9 _|exact(b1.setCell Zq11 _).setCell Zq11 _)) (first|(go_at_call 156;(with_reducible refine(l20Arg_any a names held An Ah Ab nn cn nh ch nb cb inside _ HNN.out (by first|exact RN.out.drew|exact RN.out.drew.below (AL.out _ _)) HNH.out (by first|exact RH.out.drew|exact RH.out.drew.below (AL.out _ _)) Zq6 Zq6).mono ?_);rintro e w1 ⟨rfl,b1d,s1d⟩;rw[←HC.out];first|(have b1:Below wr.heap.size wr w1:=below_undrewC b1d)|(have b1:Below wr.heap.size wr w1:=((Below.refl _ _).drew.alloc (Nat.le_refl _) _).trans (b1d.mono Zq11);obtain ⟨y0,y1⟩:w1.cell? ⟨wr.heap.size,0,none⟩=some (.int .i64 0)∧w1.cell? ⟨wr.heap.size,1,none⟩=some (.string ⟨#[]⟩):=boxc2 (lay:=b1d) (heap_alloc_new wr.drew (.cells #[.int .i64 0,.string ⟨#[]⟩] 96));have y2:w1.frozen? ⟨wr.heap.size,0,none⟩=false:=boxfree b1d (heap_alloc_new wr.drew (.cells #[.int .i64 0,.string ⟨#[]⟩] 96)) 0;have y3:w1.frozen? ⟨wr.heap.size,1,none⟩=false:=boxfree b1d (heap_alloc_new wr.drew (.cells #[.int .i64 0,.string ⟨#[]⟩] 96)) 1;have y6:w1.heap[wr.heap.size]?=some (.cells #[.int .i64 0,.string ⟨#[]⟩] 96 (0,0)):=(b1d.block _ Zq11).trans (heap_alloc_new wr.drew _);have y4:wr.heap.size<w1.heap.size:=Nat.lt_of_lt_of_le (Nat.lt_succ_self _) (Nat.le_trans Zq11 b1d.size))))
      all_goals
        have hs1:=b1.size
        first
        | (have y5:=y4
           obtain ⟨G,hGe⟩:∃ G,G=wr.heap.size:=⟨_,rfl⟩
           have hg0:wr.heap.size≤G:=by omega
           obtain ⟨w2,hw2⟩:∃ w2,w2=(w1.setCell ⟨wr.heap.size,0,none⟩ (.int .i64 c.1)).setCell ⟨wr.heap.size,1,none⟩ (.string c.2):=⟨_,rfl⟩
           have hx2:w2.heap[G]?=some (.cells #[.int .i64 c.1,.string c.2] 96 (0,0)):=by rw[hw2,hGe];exact heap_set_self (heap_set_self y6 _) _
           have b2:Below wr.heap.size wr w2:=by rw[hw2];exact(b1.setCell (Nat.le_refl _) _).setCell (Nat.le_refl _) _
           rw[←hw2,←hGe]
           clear hw2 hGe y0 y1 y2 y3 y4 y5 y6)
        | (obtain ⟨G,hGe⟩:∃ G,G=w1.heap.size:=⟨_,rfl⟩
           have hg0:wr.heap.size≤G:=by omega
           obtain ⟨w2,hw2⟩:∃ w2,w2=w1.alloc (.cells #[.int .i64 c.1,.string c.2] 96):=⟨_,rfl⟩
           have hx2:w2.heap[G]?=some (.cells #[.int .i64 c.1,.string c.2] 96 (0,0)):=by rw[hw2,hGe];exact heap_alloc_new _ _
           have b2:Below wr.heap.size wr w2:=by rw[hw2];exact b1.alloc hs1 _
           rw[←hw2,←hGe]
           clear hw2 hGe)
        clear b1 hs1 p0 p1 p2 p3 p4 q0 q1 q2 q3 r0
        have hs2:=b2.size
        have bb:=hb.trans (b2.mono hbs)
        have hgl:=lt_of_block hx2
        obtain ⟨z0,z1⟩:=boxc2 (lay:=Below.refl _ _) hx2
        obtain ⟨k0,k1⟩:=boxc2 (lay:=bb) X2.out
        have f0:=boxfree bb X2.out 0
        have f1:=boxfree bb X2.out 1
        have hl2:w.heap.size+1+1<w2.heap.size:=by omega
        have hl0:w.heap.size<w2.heap.size:=by omega
        by_cases hc0:c.1=0
        · obtain ⟨ec,e1,e2⟩:=argBad_zero (HC.out▸hc0)
          have hcz:c=bad0:=by rw[HC.out];exact ec
          subst hcz
          have z0':w2.cell? ⟨G,0,none⟩=some (.int .i64 0):=z0
          have z1':w2.cell? ⟨G,1,none⟩=some (.string ⟨#[]⟩):=z1
          clear z0 z1 hx2
          have RT2:=hD (RT.out.below b2)
          obtain ⟨p0,p1,p2,p3,p4⟩:=boxcells5 (lay:=bb) X0.out
          have r0:=(KS.out _ b2).2.2.2.2.2
          have hbl2:b<w2.heap.size:=by omega
          clear ec hc0
          go_wp2_with fail
          cases e3:hasS (args.take t) a
          · have HN1:=hD (hc.out.trans (chkA_0 HAT.out e1 e2 e3))
            go_quiet ((go_at_call 77;exact Calls.quiet_of_same ((l1Has_any _ _ _ (args.take t) a _ (RT2.out.drewN _) (by rw[List.length_take,HM.out];omega) Zq6).mono fun e W h=>(⟨h.1.trans (by rw[e3]),h.2.symm⟩:e=.returned (.bool false)∧W=_))))
            go_wp2_with fail
            go_roundw
            case rel=>exact ⟨t+1,by omega,by go_num,HN1,below_drewN bb _⟩
            case measure=>simp [intOf];omega
          · have HF:=hD (gateBad_n (word:=word) (hc.out.trans (chkA_3 HAT.out e1 e2 e3)) (show(3:Int)≠0 by decide))
            go_quiet ((go_at_call 77;exact Calls.quiet_of_same ((l1Has_any _ _ _ (args.take t) a _ (RT2.out.drewN _) (by rw[List.length_take,HM.out];omega) Zq6).mono fun e W h=>(⟨h.1.trans (by rw[e3]),h.2.symm⟩:e=.returned (.bool true)∧W=_))))
            go_wp2_with fail
            exact bodyPost_ret (v:=.agg #[.int .i64 3,.string a]) (by simp [results,Tryz.results155,go_sem,k0,k1]) rfl ⟨by rw[HF.out],((B0.out.trans ((below_drewN bb _).mono Zq6)).setCell Zq9 _).setCell Zq9 _,by simp [World.setCell];omega⟩
        · have HF:=hD (gateBad_n (word:=word) (hc.out.trans (argBad_step HAT.out (HC.out▸hc0))) (HC.out▸hc0))
          have hne:(c.1 != 0)=true:=by rw[bne_iff_ne];exact hc0
          go_wp2_with fail
          exact bodyPost_ret (v:=.agg #[.int .i64 c.1,.string c.2]) (by simp [results,Tryz.results155,go_sem,k0,k1]) rfl ⟨by rw[HF.out,←HC.out],((B0.out.trans (bb.mono Zq6)).setCell Zq9 _).setCell Zq9 _,by simp [World.setCell];omega⟩
    · obtain rfl:t=m:=by omega
      have hc':Hid (chkA names held args 0 args=bad0):=by
        have:=hc.out
        rw[List.drop_of_length_le (by rw[HM.out];exact Nat.le_refl _)] at this
        exact this.trans rfl
      have hkk:gkind word≤12:=gkindFrom_le _ 12 1 Zq6
      have HCT:=hD (fun W=>l20Control_any (gkind word) nh W hkk h3)
      obtain ⟨v,hv⟩:∃ v,v=ctlS (gkind word) nh:=⟨_,rfl⟩
      rw[←hv] at HCT
      have HV:=hD hv
      clear hv
      have KS:Hid (∀ W:World,Below wr.heap.size wr W→(W.cell? ⟨w.heap.size,1,none⟩=some (.string word)∧W.cell? ⟨w.heap.size+1,1,none⟩=some (.slice Ah nh ch))):=fun W hW=>⟨(hW.cell (p:=⟨w.heap.size,1,none⟩) hlz).trans p1,(hW.cell (p:=⟨w.heap.size+1,1,none⟩) hlz1).trans q1⟩
      cases v
      all_goals
        go_wp2_with fail
        go_region_held3 (fun W=>W.cell? ⟨w.heap.size,1,none⟩=some (.string word)∧W.cell? ⟨w.heap.size+1,1,none⟩=some (.slice Ah nh ch)) ((refine KS.out _ ?_;first|exact Below.refl _ _|exact(Below.refl _ _).drew|exact b1)) (first|(go_at_call 136;(with_reducible refine(GateKind_spec word _).mono ?_);rintro e w1 ⟨rfl,b1d,s1d⟩;have b1:=below_undrewC b1d)|(go_at_call 177;(with_reducible refine(HCT.out _).mono ?_);rintro e w' ⟨rfl,rfl⟩))
        have hs1:=b1.size
        have bb:=hb.trans (b1.mono hbs)
        have r1:=(KS.out _ b1).1
        clear p0 p1 p2 p3 p4 q0 q1 q2 q3
        obtain ⟨k0,k1⟩:=boxc2 (lay:=bb) X2.out
        have f0:=boxfree bb X2.out 0
        have f1:=boxfree bb X2.out 1
        have hl2:w.heap.size+1+1<w1.heap.size:=by omega
        have hl0:w.heap.size<w1.heap.size:=by omega
        go_wp2_with fail
      · have HF:=hD (gateBad_f (word:=word) hc'.out (by rw[HNH.out];exact HV.out.symm))
        exact bodyPost_ret (v:=.agg #[.int .i64 9,.string word]) (by simp [results,Tryz.results155,go_sem,k0,k1]) rfl ⟨by rw[HF.out],((B0.out.trans (bb.mono Zq6)).setCell Zq9 _).setCell Zq9 _,by simp [World.setCell];omega⟩
      · have HF:=hD (gateBad_t (word:=word) hc'.out (by rw[HNH.out];exact HV.out.symm))
        exact bodyPost_ret (v:=.agg #[.int .i64 0,.string ⟨#[]⟩]) (by simp [results,Tryz.results155,go_sem,k0,k1]) rfl ⟨by rw[HF.out];rfl,((B0.out.trans (bb.mono Zq6)).setCell Zq9 _).setCell Zq9 _,by simp [World.setCell];omega⟩
theorem validT_mem {d:Nat} {l:List (Tr (d+1))} {t:Nat} {s:Tr (d+1)} (h:validT (d+1) l=true) (hs:l[t]?=some s):vOne d (validT d) (hdT s) (bdT s)=true:=List.all_eq_true.1 h s (List.mem_of_getElem? hs)
theorem vOne_facts {d:Nat} {k:Int} {word:ByteArray} {args:List ByteArray} {count:Int} {bd:List (Tr d)} (h:vOne d (validT d) ⟨k,word,args,count⟩ bd=true):(1≤k∧k≤7)∧(k=2→1≤count∧count≤9)∧validT d bd=true:=by
 unfold vOne headV at h
 simp only[Bool.and_eq_true] at h
 obtain ⟨⟨h1,_,_,_,_,h2⟩,_,h3⟩:=h
 refine ⟨inB_iff.1 h1,fun hk=>?_,h3⟩
 unfold okCount at h2
 rw[if_pos hk] at h2
 exact inB_iff.1 h2
theorem own_low {w:World} {B B' e size n:Nat} {v:Value} {xs:List Value} (h:w.ownsRow B e size v n xs) (hB:B'≤B):w.ownsRow B' e size v n xs:=by
 refine ⟨h.1,?_⟩
 rcases h.2 with h2|⟨g,cap,cur,h1,h2,h3⟩
 ·exact .inl h2
 ·exact .inr ⟨g,cap,cur,h1,Nat.le_trans hB h2,h3⟩
def arg0 (h:SH):ByteArray:=h.args.getD 0 ⟨#[]⟩
theorem arg0_of {h:SH} (hl:0<h.args.length):h.args[0]?=some (arg0 h):=by
 unfold arg0
 rw[List.getD_eq_getElem?_getD,List.getElem?_eq_getElem hl]
 rfl
def stepN (h:SH) (names held:List ByteArray):Bad × (List ByteArray × List ByteArray) :=
 if h.k=1 then (gateBad names held h.args h.word,(names,held))
 else if h.k=6 then ((6,arg0 h),(names,held))
 else if h.k=7 then ((6,arg0 h),(names,held))
 else if h.k=4 then (argBad names held (arg0 h),(names,held++[arg0 h]))
 else if h.k=5 then (if hasS names (arg0 h)=true then ((1,arg0 h),(names,held)) else if names.length=4 then ((5,arg0 h),(names,held)) else (bad0,(names++[arg0 h],held)))
 else (bad0,(names,held))
def oneN (h:SH) (body:List ByteArray→List ByteArray→Bad) (names held:List ByteArray):Bad :=
 if (stepN h names held).1.1=0 then body (stepN h names held).2.1 (stepN h names held).2.2 else (stepN h names held).1
def firstB:List Bad→Bad
 | []=>bad0
 | c :: r=>if c.1=0 then firstB r else c
def chkN:(d:Nat)→List (Tr d)→List ByteArray→List ByteArray→Bad
 | 0,_,_,_=>bad0
 | d+1,l,names,held=>firstB (l.map fun s=>oneN (hdT s) (chkN d (bdT s)) names held)
theorem chkN_nil (d:Nat) (names held:List ByteArray):chkN d [] names held=bad0:=by cases d <;> rfl
theorem firstB_take {L:List Bad} {t:Nat} {c:Bad} (h:L[t]?=some c) (h0:firstB (L.take t)=bad0) (hz:∀ x∈L.take t,x.1=0) (hc:c.1≠0):firstB L=c:=by
 induction L generalizing t with
 | nil=>simp at h
 | cons x L ih =>
  cases t with
  | zero =>
   simp at h
   subst h
   rw[firstB,if_neg hc]
  | succ t =>
   have hx:=hz x Zq11
   rw[firstB,if_pos hx]
   rw[List.take_succ_cons,firstB,if_pos hx] at h0
   exact ih (by simpa using h) h0 (fun y hy=>hz y (by simp [hy]))
theorem firstB_zero {L:List Bad} (hz:∀ x∈L,x.1=0):firstB L=bad0:=by
 induction L with
 | nil=>rfl
 | cons x L ih=>rw[firstB,if_pos (hz x Zq11),ih (fun y hy=>hz y (by simp [hy]))]
theorem oneN_z {h:SH} {body:List ByteArray→List ByteArray→Bad} {names held:List ByteArray} {p:List ByteArray × List ByteArray} (hs:stepN h names held=(bad0,p)):oneN h body names held=body p.1 p.2:=by rw[oneN,hs,if_pos (show(bad0,p).1.1=0 from rfl)]
theorem oneN_b {h:SH} {body:List ByteArray→List ByteArray→Bad} {names held:List ByteArray} {c:Bad} {p:List ByteArray × List ByteArray} (hs:stepN h names held=(c,p)) (hc:c.1≠0):oneN h body names held=c:=by rw[oneN,hs,if_neg hc]
theorem oneN_gate {d:Nat} {h:SH} {bd:List (Tr d)} {names held:List ByteArray} (hk:h.k=1) (hb:bd=[]):oneN h (chkN d bd) names held=gateBad names held h.args h.word:=by
 subst hb
 have hs:stepN h names held=(gateBad names held h.args h.word,(names,held)):=by rw[stepN,if_pos hk]
 rw[oneN,hs,chkN_nil]
 split
 ·rename_i e
  unfold gateBad at e ⊢
  split at e
  ·rename_i h1
   rw[if_pos h1]
   split at e
   ·rename_i h2;rw[if_pos h2]
   ·exact absurd e Zq11
  ·rename_i h1
   exact absurd e h1
 ·rfl
theorem valid_gate {d:Nat} {h:SH} {bd:List (Tr d)} (hv:vOne d (validT d) h bd=true) (hk:hasB h.k=false):bd=[]:=by
 unfold vOne headV at hv
 simp only[Bool.and_eq_true] at hv
 obtain ⟨⟨_,_,_,_,h5,_⟩,_⟩:=hv
 have:=of_decide_eq_true h5
 rcases this with h|h
 ·rw[hk] at h;cases h
 ·exact List.eq_nil_of_length_eq_zero h
theorem valid_args {d:Nat} {h:SH} {bd:List (Tr d)} (hv:vOne d (validT d) h bd=true):h.args.length=nargs h.k h.word:=by
 unfold vOne headV at hv
 simp only[Bool.and_eq_true] at hv
 exact of_decide_eq_true hv.1.2.1
theorem l20Measure_in (word:ByteArray) (args:List ByteArray) (a:ByteArray) (count:Int) (Aa:Option Addr) (m ca:Nat) (Ac:Option Addr) (nc cc E:Nat) (An Ah Ab:Option Addr) (nn cn nh ch nb cb:Nat) (w:World)
  (hx:w.heap[E]?=some (.cells #[.slice An nn cn,.slice Ah nh ch,.bool true,.slice Ab nb cb] 100 (0,0))) (hra:Rd w 1 Aa m (strs args)) (ha:args[0]?=some a) (hm:0<m) (hm2:m≤1048576) :
  Calls Tryz.prog 157 #[.agg #[.int .i64 6,.string word,.slice Aa m ca,.int .i64 count,.slice Ac nc cc],.pointer (some ⟨E,0,none⟩)] w (RetBadA (6,a) w):=by
 obtain ⟨b,off,rfl,hbl,hc⟩:=hra.2 hm
 have r0:=hc 0 _ (strs_at ha)
 rw[Nat.add_zero] at r0
 obtain ⟨q0,q1,q2,q3⟩:=boxcells4' (lay:=Below.refl _ _) hx
 have hEl:=lt_of_block hx
 have hm3:(0:Int)<(m:Int):=by omega
 clear hc hra hx ha
 go_enter Tryz.func157,Tryz.ntmps157
 go_wp2_with fail
 exact bodyPost_ret (v:=.agg #[.int .i64 6,.string a]) (by simp [results,Tryz.results157,go_sem]) rfl ⟨rfl,Zq0,Zq5⟩
theorem step_append_rdO {P:Program} (w:World) {ops:Array Oper} {o:Oper} {a:Act} {K:Act→World→Prop} {Q:Exit→Act→World→Prop} {E:Prop} (hgd:o.guard=none) (s x:Operand) (t:TypeId)
  (ho:o.op=.call { callee:=.builtin .append,args:=#[s,x],argTypes:=#[t,t] })
  (base:Nat) (e:TypeId) (i:TypeInfo) (z:Value) (size bytes:Nat) (ht:P.underlying t=some (.slice e)) (hi:P.info? e=some i) (hz:i.zero=some z)
  (hsize:i.size=size) (hby:i.bytes=bytes) (hzs:z.cells.size=size) (hsz:0<size)
  (v:Value) (n:Nat) (xs:List Value) (hs:a.eval s=v) (hown:w.ownsRow base e size v n xs)
  (A:Option Addr) (m c:Nat) (news:List Value) (hx:a.eval x=.slice A m c) (hr:Rd w size A m news) (h1:∀ u∈news,u.oneCell'=true)
  (h63:n+m≤maxLen) (hbytes:(n+m)*bytes≤140737488355328) (hbase:base≤w.heap.size)
  (h:∀ v' w',w'.ownsRow base e size v' (n+m) (xs++news)→w.grownBy w' v.ownBlock→(v'.ownBlock=v.ownBlock∨v'.ownBlock=some w.heap.size)→K (a.put o.dst v') w') :
  if Region.wanted o (yielded ops a.tmps)=true then Oper.wp P o a w K Q else E:=by
 have hw:Region.wanted o (yielded ops a.tmps)=true:=by simp [Region.wanted,hgd]
 rw[if_pos hw]
 obtain ⟨v',w',hrun,h2,h3,h4⟩:=run_append_rd (P:=P) w base t o.type e i z size bytes ht hi hz hsize hby hzs hsz v n xs hown A m c news hr h1 h63 hbytes hbase
 unfold Oper.wp execOp
 simp only[ho,resolve,invoke,builtin,Sem.run_bind,Sem.run_pure,Result.andThen_ok,List.map_toArray,List.map_cons,List.map_nil,hs,hx,hrun]
 exact h v' w' h2 h3 h4
def arg1 (h:SH):ByteArray:=h.args.getD 1 ⟨#[]⟩
theorem arg1_of {h:SH} (hl:1<h.args.length):h.args[1]?=some (arg1 h):=by
 unfold arg1
 rw[List.getD_eq_getElem?_getD,List.getElem?_eq_getElem hl]
 rfl
def measT (names bits:List ByteArray) (q b:ByteArray):Bad × List ByteArray :=
 if hasS names q=false then ((2,q),bits)
 else if hasS names b=true then ((1,b),bits)
 else if hasS bits b=true then ((1,b),bits)
 else if bits.length=3 then ((8,b),bits)
 else (bad0,bits++[b])
def oneT (d:Nat) (h:SH) (bd:List (Tr d)) (names bits:List ByteArray):Bad × List ByteArray :=
 if h.k=6 then measT names bits (arg0 h) (arg1 h)
 else if h.k=7 then (if hasS bits (arg0 h)=true then chkN d bd names [] else (7,arg0 h),bits)
 else (oneN h (chkN d bd) names [],bits)
def topB {α:Type} (f:α→List ByteArray→Bad × List ByteArray):List α→List ByteArray→Bad
 | [],_=>bad0
 | s :: l,bits=>if (f s bits).1.1=0 then topB f l (f s bits).2 else (f s bits).1
def chkT:(d:Nat)→List (Tr d)→List ByteArray→List ByteArray→Bad
 | 0,_,_,_=>bad0
 | d+1,l,names,bits=>topB (fun s bits=>oneT d (hdT s) (bdT s) names bits) l bits
theorem topB_at {α:Type} {f:α→List ByteArray→Bad × List ByteArray} {l:List α} {t:Nat} {s:α} {bits:List ByteArray} (h:l[t]?=some s):topB f (l.drop t) bits=if (f s bits).1.1=0 then topB f (l.drop (t+1)) (f s bits).2 else (f s bits).1:=by
 obtain ⟨ht,he⟩:=List.getElem?_eq_some_iff.1 h
 rw[List.drop_eq_getElem_cons ht,topB,he]
theorem measT_len {names bits:List ByteArray} {q b:ByteArray} (h:bits.length≤3):(measT names bits q b).2.length≤3:=by
 unfold measT
 split
 ·exact h
 ·split
  ·exact h
  ·split
   ·exact h
   ·split
    ·exact h
    ·simp
     omega
theorem oneT_len {d:Nat} {h:SH} {bd:List (Tr d)} {names bits:List ByteArray} (hb:bits.length≤3):(oneT d h bd names bits).2.length≤3:=by
 unfold oneT
 split
 ·exact measT_len hb
 ·split <;> exact hb
structure Mod (X:Nat) (r:Option Nat) (w w':World):Prop where
 os:w'.os=w.os
 tape:w'.tape=w.tape
 output:w'.output=w.output
 size:w.heap.size≤w'.heap.size
 block:∀ b,b<w.heap.size→b≠X→r≠some b→w'.heap[b]?=w.heap[b]?
theorem Mod.of_below {w w':World} (X:Nat) (r:Option Nat) (h:Below w.heap.size w w'):Mod X r w w':=⟨h.os,h.tape,h.output,h.size,fun b hb _ _=>h.block b hb⟩
theorem Mod.trans {X:Nat} {r r':Option Nat} {w w1 w2:World} (h:Mod X r w w1) (h':Mod X r' w1 w2) (hr:r'=r∨∃ k,r'=some k∧w.heap.size≤k):Mod X r w w2 :=
 ⟨h'.os.trans h.os,h'.tape.trans h.tape,h'.output.trans h.output,Nat.le_trans h.size h'.size,fun b hb h1 h2 =>
  (h'.block b (Nat.lt_of_lt_of_le hb h.size) h1 (by
   rcases hr with rfl|⟨k,rfl,hk⟩
   ·exact h2
   ·intro e
    have:=Option.some.inj e
    omega)).trans (h.block b hb h1 h2)⟩
theorem Mod.grown {X:Nat} {r:Option Nat} {w w1:World} (h:w.grownBy w1 r):Mod X r w w1:=⟨h.os,h.tape,h.output,h.size,fun b hb _ h2=>h.block b hb (fun e=>h2 e.symm)⟩
theorem Mod.set {X:Nat} {r:Option Nat} {w w1:World} (h:Mod X r w w1) {p:Addr} (hp:p.block=X∨w.heap.size≤p.block) (u:Value):Mod X r w (w1.setCell p u) :=
 ⟨by simp [World.setCell,h.os],by simp [World.setCell,h.tape],by simp [World.setCell,h.output],by rw[size_setCell];exact h.size,fun b hb h1 h2=>by
  rw[←h.block b hb h1 h2]
  exact Below.heap_setCell w1 p u b (fun e=>by rcases hp with hp|hp <;> omega)⟩
theorem Mod.below {X B:Nat} {r:Option Nat} {w w':World} (h:Mod X r w w') (hB:B≤w.heap.size) (hX:B≤X) (hr:∀ k,r=some k→B≤k):Below B w w' :=
 ⟨h.os,h.tape,h.output,h.size,fun b hb=>h.block b Zq6 Zq6 (fun e=>by have:=hr b e;omega)⟩
structure CkS (w:World) (base X:Nat) (bits:List ByteArray) (v:Value):Prop where
 x:w.heap[X]?=some (.cells #[v] 148 (0,0))
 o:w.ownsRow base 9 1 v bits.length (strs bits)
def Grew (r:Option Nat) (z:Nat) (r':Option Nat):Prop:=r'=r∨∃ k,r'=some k∧z≤k
def RetM (base X:Nat) (v:Value) (r:Bad × List ByteArray) (w:World) (e:Ending) (w':World):Prop :=
 ∃ v',e=.returned (.tuple #[.int .i64 r.1.1,.string r.1.2])∧CkS w' base X r.2 v'∧Mod X v.ownBlock w w'∧Grew v.ownBlock w.heap.size v'.ownBlock
theorem CkS.below {w w':World} {base X:Nat} {bits:List ByteArray} {v:Value} (h:CkS w base X bits v) (hb:Below w.heap.size w w'):CkS w' base X bits v :=
 ⟨(hb.block _ (lt_of_block h.x)).trans h.x,ownsRow_below h.o hb⟩
theorem own_ne_typeM {w:World} {base e size n g:Nat} {v:Value} {xs:List Value} {cs:Array Value} {t:TypeId} (h:w.ownsRow base e size v n xs) (hg:w.heap[g]?=some (.cells cs t (0,0))) (hne:e≠t):v.ownBlock≠some g:=by
 rcases h.2 with ⟨rfl,_⟩|⟨g',cap,cur,rfl,_,hh,_⟩
 ·simp [Value.ownBlock]
 ·intro he
  have e1:g'=g:=by simpa [Value.ownBlock] using he
  subst e1
  rw[hh] at hg
  injection hg with hg
  injection hg with _ ht
  exact hne ht
theorem own_setfarM {w:World} {base e size n:Nat} {v:Value} {xs:List Value} (h:w.ownsRow base e size v n xs) {p:Addr} (hp:v.ownBlock≠some p.block) (u:Value):(w.setCell p u).ownsRow base e size v n xs:=by
 refine ⟨h.1,?_⟩
 rcases h.2 with hn|⟨g,cap,cur,rfl,hb,hh,rest⟩
 ·exact .inl hn
 ·exact .inr ⟨g,cap,cur,rfl,hb,heap_set_far hh (fun e=>hp (by simp [Value.ownBlock,e])) u,rest⟩
theorem free_atM {w:World} {b j:Nat} {cs:Array Value} {t:TypeId} (h:w.heap[b]?=some (.cells cs t (0,0))):w.frozen? ⟨b,j,none⟩=false:=by simp [World.frozen?,h]
theorem measure_top (word:ByteArray) (args:List ByteArray) (count:Int) (Aa:Option Addr) (m ca:Nat) (Ac:Option Addr) (nc cc:Nat) (An Ah:Option Addr) (nn cn nh ch base X:Nat) (names bits:List ByteArray) (v:Value) (a c:ByteArray) (w:World)
  (hck:CkS w base X bits v) (hbase:base≤w.heap.size) (hb3:bits.length≤3) (hm:args.length=m) (hra:Rd w 1 Aa m (strs args)) (h2:2≤m) (ha:args[0]?=some a) (hc:args[1]?=some c) (hnn:names.length=nn) (hrn:Rd w 1 An nn (strs names)) (h4:nn≤1048576) :
  Calls Tryz.prog 174 #[.pointer (some ⟨X,0,none⟩),.agg #[.int .i64 6,.string word,.slice Aa m ca,.int .i64 count,.slice Ac nc cc],.agg #[.slice An nn cn,.slice Ah nh ch,.bool false]] w (RetM base X v (measT names bits a c) w):=by
 obtain ⟨i0,hi,hz0,hz1,hz2⟩:=info_parts info_str
 obtain ⟨w0,hw0⟩:∃ w0,w0=(w.alloc (.cells #[.int .i64 6,.string word,.slice Aa m ca,.int .i64 count,.slice Ac nc cc] 66)).alloc (.cells #[.slice An nn cn,.slice Ah nh ch,.bool false] 151):=⟨_,rfl⟩
 have X0:=hD (show w0.heap[w.heap.size]?=some (.cells #[.int .i64 6,.string word,.slice Aa m ca,.int .i64 count,.slice Ac nc cc] 66 (0,0)) by rw[hw0];exact boxed2_0 _ _ _)
 have X1:=hD (show w0.heap[w.heap.size+1]?=some (.cells #[.slice An nn cn,.slice Ah nh ch,.bool false] 151 (0,0)) by rw[hw0];exact boxed2_1 _ _ _)
 have b0:Below w.heap.size w w0:=by rw[hw0];exact Zq0
 have hz:w.heap.size+1<w0.heap.size:=by rw[hw0];simp
 have HW:=hD hw0
 have hraA:=hra.below b0
 have B0:=hD b0
 have HNA:=hD (hrn.below b0)
 have HNN:=hD hnn
 obtain ⟨A,cb,rfl,hcap,_,_⟩:=rd_of_own hck.o
 have CK:=hD (hck.below b0)
 have HRB:=hD (rd_own CK.out.o)
 have px:=cell_at (j:=0) (u:=.slice A bits.length cb) CK.out.x rfl
 have fx:=free_atM (j:=0) CK.out.x
 have hxl:X<w0.heap.size:=lt_of_block CK.out.x
 have hxw:X<w.heap.size:=lt_of_block hck.x
 obtain ⟨p0,p1,p2,p3,p4⟩:=boxcells5 (lay:=Below.refl _ _) X0.out
 obtain ⟨q0,q1,q2⟩:=boxcells3 (lay:=Below.refl _ _) X1.out
 obtain ⟨b,off,rfl,hbl,hcl⟩:=hraA.2 Zq6
 have r0:=hcl 0 _ (strs_at ha)
 have r1:=hcl 1 _ (strs_at hc)
 simp only[Nat.add_zero] at r0
 clear hw0 hra hraA hcl ha hc hm hck hrn hnn
 clear b0
 cases e1:hasS names a
 ·have HS:Hid (measT names bits a c=((2,a),bits)):=by rw[measT,if_pos e1];exact rfl
  go_enter Tryz.func174,Tryz.ntmps174
  go_upto_region 1 with (fail)
  rw[←HW.out]
  go_wp2_with (first|(go_at_call 118;(with_reducible refine(hasWord_any An nn cn names a w0 HNA.out HNN.out Zq6).mono ?_);rintro e w' ⟨rfl,rfl⟩)|(go_at_call 118;(with_reducible refine(hasWord_any An nn cn names c w0 HNA.out HNN.out Zq6).mono ?_);rintro e w' ⟨rfl,rfl⟩)|(go_at_call 118;(with_reducible refine(hasWord_any A bits.length cb bits c w0 HRB.out rfl Zq6).mono ?_);rintro e w' ⟨rfl,rfl⟩))
  go_ret2
  exact ⟨_,by rw[HS.out];exact rfl,by rw[HS.out];exact CK.out,Mod.of_below _ _ B0.out,.inl rfl⟩
 ·cases e2:hasS names c
  ·cases e3:hasS bits c
   ·by_cases h3:bits.length=3
    ·have HS:Hid (measT names bits a c=((8,c),bits)):=by rw[measT,if_neg (by rw[e1];decide),if_neg (by rw[e2];decide),if_neg (by rw[e3];decide),if_pos h3];exact rfl
     have d3:decide ((3:Int)≤(bits.length:Int))=true:=by simp;omega
     have d3':decide (3≤bits.length)=true:=by simp;omega
     have H3:=hD h3
     clear h3
     go_enter Tryz.func174,Tryz.ntmps174
     go_upto_region 1 with (fail)
     rw[←HW.out]
     go_wp2_with (first|(go_at_call 118;(with_reducible refine(hasWord_any An nn cn names a w0 HNA.out HNN.out Zq6).mono ?_);rintro e w' ⟨rfl,rfl⟩)|(go_at_call 118;(with_reducible refine(hasWord_any An nn cn names c w0 HNA.out HNN.out Zq6).mono ?_);rintro e w' ⟨rfl,rfl⟩)|(go_at_call 118;(with_reducible refine(hasWord_any A bits.length cb bits c w0 HRB.out rfl Zq6).mono ?_);rintro e w' ⟨rfl,rfl⟩))
     go_ret2
     exact ⟨_,by rw[HS.out];exact rfl,by rw[HS.out];exact CK.out,Mod.of_below _ _ B0.out,.inl rfl⟩
    ·have HS:Hid (measT names bits a c=(bad0,bits++[c])):=by rw[measT,if_neg (by rw[e1];decide),if_neg (by rw[e2];decide),if_neg (by rw[e3];decide),if_neg h3];exact rfl
     have d3:decide ((3:Int)≤(bits.length:Int))=false:=by simp;omega
     have d3':decide (3≤bits.length)=false:=by simp;omega
     have hb2:bits.length≤2:=by omega
     have H3:=hD h3
     clear h3
     go_enter Tryz.func174,Tryz.ntmps174
     go_upto_region 1 with (fail)
     rw[←HW.out]
     go_wp2_with (first|(first|(go_at_call 118;(with_reducible refine(hasWord_any An nn cn names a w0 HNA.out HNN.out Zq6).mono ?_);rintro e w' ⟨rfl,rfl⟩)|(go_at_call 118;(with_reducible refine(hasWord_any An nn cn names c w0 HNA.out HNN.out Zq6).mono ?_);rintro e w' ⟨rfl,rfl⟩)|(go_at_call 118;(with_reducible refine(hasWord_any A bits.length cb bits c w0 HRB.out rfl Zq6).mono ?_);rintro e w' ⟨rfl,rfl⟩))|(at_builtin;refine wpList_append_rd _ rfl _ _ 24 rfl base 9 i0 _ 1 16 Tryz.underlying24 hi hz0 hz1 hz2 rfl Zq8 _ _ _ rfl (CK.out.o.alloc _) _ 1 1 _ rfl (rd_lit4 ?c0 rfl) ?c2 ?c3 ?c4 ?c5 ?_))
     case c0=>first|omega|rfl|(simp;done)
     case c2=>repeat' (first|rfl|apply And.intro)
     case c3=>simp only[maxLen];omega
     case c4=>omega
     case c5=>simp;omega
     intro v3 w3 own3 gr3 at3
     obtain ⟨A3,c3,rfl,_,_,_⟩:=rd_of_own own3
     have hx3:w3.heap[X]?=some (.cells #[.slice A bits.length cb] 148 (0,0)):=(gr3.block X Zq9 (fun e=>own_ne_typeM CK.out.o CK.out.x Zq8 e.symm)).trans ((Below.heap_alloc _ _ _ Zq6).trans CK.out.x)
     have px3:=cell_at (j:=0) (u:=.slice A bits.length cb) hx3 rfl
     have fx3:=free_atM (j:=0) hx3
     have hlx3:=lt_of_block hx3
     have M3:Mod X (Value.slice A bits.length cb).ownBlock w w3:=((Mod.of_below X (Value.slice A bits.length cb).ownBlock B0.out).trans (Mod.of_below X _ ((Below.refl _ _).alloc (Nat.le_refl _) _)) (.inl rfl)).trans (Mod.grown gr3) (.inl rfl)
     have C4:CkS (w3.setCell ⟨X,0,none⟩ (.slice A3 (bits.length+1) c3)) base X (bits++[c]) (.slice A3 (bits.length+1) c3):=⟨heap_set_self hx3 _,by rw[List.length_append,strs_snoc2];exact own_setfarM own3 (own_ne_typeM own3 hx3 Zq8) _⟩
     have G4:Grew (Value.slice A bits.length cb).ownBlock w.heap.size (Value.slice A3 (bits.length+1) c3).ownBlock:=by
      rcases at3 with e|e
      ·exact .inl e
      ·exact .inr ⟨_,e,by have:=B0.out.size;first|omega|(simp;omega)⟩
     have M4:=hD (M3.set (p:=⟨X,0,none⟩) (.inl rfl) (.slice A3 (bits.length+1) c3))
     have HC4:=hD C4
     have HG4:=hD G4
     clear M3 C4 G4 gr3 own3 at3 hx3
     go_wp2_with fail
     go_ret2
     exact ⟨_,by rw[HS.out];exact rfl,by rw[HS.out];exact HC4.out,M4.out,HG4.out⟩
   ·have HS:Hid (measT names bits a c=((1,c),bits)):=by rw[measT,if_neg (by rw[e1];decide),if_neg (by rw[e2];decide),if_pos e3];exact rfl
    go_enter Tryz.func174,Tryz.ntmps174
    go_upto_region 1 with (fail)
    rw[←HW.out]
    go_wp2_with (first|(go_at_call 118;(with_reducible refine(hasWord_any An nn cn names a w0 HNA.out HNN.out Zq6).mono ?_);rintro e w' ⟨rfl,rfl⟩)|(go_at_call 118;(with_reducible refine(hasWord_any An nn cn names c w0 HNA.out HNN.out Zq6).mono ?_);rintro e w' ⟨rfl,rfl⟩)|(go_at_call 118;(with_reducible refine(hasWord_any A bits.length cb bits c w0 HRB.out rfl Zq6).mono ?_);rintro e w' ⟨rfl,rfl⟩))
    go_ret2
    exact ⟨_,by rw[HS.out];exact rfl,by rw[HS.out];exact CK.out,Mod.of_below _ _ B0.out,.inl rfl⟩
  ·have HS:Hid (measT names bits a c=((1,c),bits)):=by rw[measT,if_neg (by rw[e1];decide),if_pos e2];exact rfl
   go_enter Tryz.func174,Tryz.ntmps174
   go_upto_region 1 with (fail)
   rw[←HW.out]
   go_wp2_with (first|(go_at_call 118;(with_reducible refine(hasWord_any An nn cn names a w0 HNA.out HNN.out Zq6).mono ?_);rintro e w' ⟨rfl,rfl⟩)|(go_at_call 118;(with_reducible refine(hasWord_any An nn cn names c w0 HNA.out HNN.out Zq6).mono ?_);rintro e w' ⟨rfl,rfl⟩)|(go_at_call 118;(with_reducible refine(hasWord_any A bits.length cb bits c w0 HRB.out rfl Zq6).mono ?_);rintro e w' ⟨rfl,rfl⟩))
   go_ret2
   exact ⟨_,by rw[HS.out];exact rfl,by rw[HS.out];exact CK.out,Mod.of_below _ _ B0.out,.inl rfl⟩
def idx (l:List ByteArray) (s:ByteArray):Option Nat:=l.findIdx? fun x=>eqSt x s
def atS (l:List ByteArray) (s:ByteArray):Nat:=(idx l s).getD 0
def ixI (l:List ByteArray) (s:ByteArray):Int:=match idx l s with|some t=>(t:Int)|none=>-1
theorem idx_has {l:List ByteArray} {s:ByteArray} (h:hasS l s=true):∃ t,idx l s=some t:=by
 have h1:(idx l s).isSome=true:=by unfold idx;rw[List.findIdx?_isSome];exact h
 exact Option.isSome_iff_exists.1 h1
theorem ix_at {l:List ByteArray} {s:ByteArray} (h:hasS l s=true):ixI l s=(atS l s:Int):=by
 obtain ⟨t,ht⟩:=idx_has h
 unfold ixI atS
 rw[ht]
 rfl
theorem atS_get {l:List ByteArray} {s:ByteArray} (h:hasS l s=true):l[atS l s]?=some s:=by
 obtain ⟨t,ht⟩:=idx_has h
 have h1:atS l s=t:=by unfold atS;rw[ht];rfl
 rw[h1]
 unfold idx at ht
 rw[List.findIdx?_eq_some_iff_getElem] at ht
 obtain ⟨hl,he,_⟩:=ht
 rw[List.getElem?_eq_getElem hl,eqSt_eq he]
theorem atS_lt {l:List ByteArray} {s:ByteArray} (h:hasS l s=true):atS l s<l.length:=(List.getElem?_eq_some_iff.1 (atS_get h)).1
theorem atS_inj {l:List ByteArray} {a b:ByteArray} (ha:hasS l a=true) (hb:hasS l b=true) (e:atS l a=atS l b):a=b:=by
 have h1:=atS_get ha
 rw[e,atS_get hb] at h1
 injection h1 with h1
 exact h1.symm
theorem atS_app {l r:List ByteArray} {s:ByteArray} (h:hasS l s=true):atS (l++r) s=atS l s:=by
 obtain ⟨t,ht⟩:=idx_has h
 have h2:idx (l++r) s=some t:=by
  unfold idx at ht ⊢
  rw[List.findIdx?_append,ht]
  rfl
 unfold atS
 rw[h2,ht]
theorem has_app {l r:List ByteArray} {s:ByteArray} (h:hasS l s=true):hasS (l++r) s=true:=by
 unfold hasS at h ⊢
 rw[List.any_append,h]
 rfl
def gat (f:ByteArray→Int) (h:SH):Gt:=⟨gkind h.word,f (arg0 h),if 1<h.args.length then f (arg1 h) else 0,if 2<h.args.length then f (h.args.getD 2 ⟨#[]⟩) else 0⟩
def opClean (q:Int):Opt:=⟨3,⟨0,0,0,0⟩,q,0,0⟩
def opMeas (q b:Int):Opt:=⟨2,⟨0,0,0,0⟩,q,b,0⟩
def setIf (c:Int) (l:List Opt):List Opt:=l.map fun o=>if o.k=1 then ⟨o.k,o.g,o.q,o.bit,c⟩ else o
structure Es where
 bits:List ByteArray
 most:Nat
 bad:Bool
def fS (l:List ByteArray) (s:ByteArray):Int:=atS l s
def sS {d:Nat} (all:List (Tr d)→List ByteArray→Es→List Opt × Es) (h:SH) (bd:List (Tr d)) (names:List ByteArray) (e:Es):List Opt × Es :=
 if h.k=1 then ([gop 0 (gat (fS names) h)],e)
 else if h.k=2 then (repO (all bd names e).1 (reps h.count),(all bd names e).2)
 else if h.k=3 then (adjO (all bd names e).1,(all bd names e).2)
 else if h.k=4 then (osL (fS names (arg0 h)) (all bd names e).1,(all bd names e).2)
 else if h.k=5 then ([opClean names.length]++(all bd (names++[arg0 h]) ⟨e.bits,max e.most (names.length+1),e.bad⟩).1++[opClean names.length],(all bd (names++[arg0 h]) ⟨e.bits,max e.most (names.length+1),e.bad⟩).2)
 else if h.k=6 then ([opMeas (fS names (arg0 h)) e.bits.length],⟨e.bits++[arg1 h],e.most,e.bad⟩)
 else (setIf (fS (all bd names e).2.bits (arg0 h)+1) (all bd names e).1,(all bd names e).2)
def sL {α:Type} (one:α→Es→List Opt × Es):List α→List Opt→Es→List Opt × Es
 | [],out,e=>(out,e)
 | s :: l,out,e=>if 2000<(out++(one s e).1).length then ([],⟨(one s e).2.bits,(one s e).2.most,true⟩) else sL one l (out++(one s e).1) (one s e).2
def sA:(d:Nat)→List (Tr d)→List ByteArray→Es→List Opt × Es
 | 0,_,_,e=>([],e)
 | d+1,l,names,e=>sL (fun s e=>sS (sA d) (hdT s) (bdT s) names e) l [] e
def iS {d:Nat} (all:List (Tr d)→List ByteArray→Es→List Opt × Es) (h:SH) (bd:List (Tr d)) (names:List ByteArray) (e:Es):List Opt × Es :=
 if h.k=1 then ([gop 0 (gat (ixI names) h)],e)
 else if h.k=2 then (repO (all bd names e).1 (reps h.count),(all bd names e).2)
 else if h.k=3 then (adjO (all bd names e).1,(all bd names e).2)
 else if h.k=4 then (osL (ixI names (arg0 h)) (all bd names e).1,⟨(all bd names e).2.bits,(all bd names e).2.most,(all bd names e).2.bad || !osB (ixI names (arg0 h)) (all bd names e).1⟩)
 else if h.k=5 then ([opClean names.length]++(all bd (names++[arg0 h]) e).1++[opClean names.length],(all bd (names++[arg0 h]) e).2)
 else if h.k=6 then ([opMeas (ixI names (arg0 h)) e.bits.length],⟨e.bits++[arg1 h],e.most,e.bad⟩)
 else (setIf (1+ixI (all bd names e).2.bits (arg0 h)) (all bd names e).1,(all bd names e).2)
def iL {α:Type} (one:α→Es→List Opt × Es):List α→List Opt→Es→List Opt × Es
 | [],out,e=>(out,e)
 | s :: l,out,e=>if e.bad=true then ([],e) else iL one l (out++(one s e).1) ⟨(one s e).2.bits,(one s e).2.most,(one s e).2.bad || decide (120<(out++(one s e).1).length)⟩
def iA:(d:Nat)→List (Tr d)→List ByteArray→Es→List Opt × Es
 | 0,_,names,e=>([],⟨e.bits,max e.most names.length,e.bad⟩)
 | d+1,l,names,e=>iL (fun s e=>iS (iA d) (hdT s) (bdT s) names e) l [] ⟨e.bits,max e.most names.length,e.bad⟩
def dL {α:Type} (one:α→Es→List Opt × Es):List α→List Opt→Es→List Opt × Es
 | [],out,e=>(out,e)
 | s :: l,out,e=>dL one l (out++(one s e).1) (one s e).2
def dA:(d:Nat)→List (Tr d)→List ByteArray→Es→List Opt × Es
 | 0,_,_,e=>([],e)
 | d+1,l,names,e=>dL (fun s e=>sS (dA d) (hdT s) (bdT s) names e) l [] e
theorem idx_hit {l:List ByteArray} {s x:ByteArray} {t:Nat} (h:l[t]?=some x) (he:eqSt x s=true) (h0:hasS (l.take t) s=false):idx l s=some t:=by
 obtain ⟨hl,rfl⟩:=List.getElem?_eq_some_iff.1 h
 unfold idx
 rw[List.findIdx?_eq_some_iff_getElem]
 refine ⟨hl,he,fun j hj=>?_⟩
 intro hc
 have:hasS (l.take t) s=true:=hasS_t (t:=j) (x:=l[j]) (by rw[List.getElem?_take_of_lt hj,List.getElem?_eq_getElem]) hc
 rw[this] at h0
 cases h0
theorem idx_none {l:List ByteArray} {s:ByteArray} (h:hasS l s=false):idx l s=none:=by
 cases hx:idx l s with
 | none=>rfl
 | some t =>
  have h1:(idx l s).isSome=hasS l s:=by unfold idx;rw[List.findIdx?_isSome];rfl
  rw[hx,h] at h1
  cases h1
theorem l22At_any (A:Option Addr) (n c:Nat) (l:List ByteArray) (s:ByteArray) (w:World) (h:Rd w 1 A n (strs l)) (hl:l.length=n) (hn:n≤1099511627776) :
  Calls Tryz.prog 143 #[.slice A n c,.string s] w fun e w'=>e=.returned (.int .i64 (fS l s))∧w=w':=by
 have H:=hD h
 have HL:=hD hl
 clear h hl
 go_enter Tryz.func143,Tryz.ntmps143
 go_wp2
 go_loop [5] (fun i=>∃ t:Nat,t≤n∧i=.int .i64 t∧hasS (l.take t) s=false) (fun i=>n - (intOf i).toNat)
 case atStart=>exact ⟨0,Nat.zero_le _,rfl,rfl⟩
 case round =>
  obtain ⟨t,ht,rfl,hok⟩:=hrel
  have HOK:=hD hok
  clear hok
  by_cases hlt:t<n
  ·obtain ⟨x,hx⟩:∃ x,l[t]?=some x:=⟨_,List.getElem?_eq_getElem (by rw[HL.out];exact hlt)⟩
   obtain ⟨b,off,rfl,_,hc⟩:=H.out.2 Zq6
   have q0:=hc t _ (strs_at hx)
   have HX:=hD hx
   clear hc hx
   cases he:eqSt x s
   ·have hne:(x.toList==s.toList)=false:=he
    have HN:=hD (hasS_step HX.out he HOK.out)
    clear he
    go_wp2_with fail
    go_round
    case rel=>exact ⟨t+1,by omega,by go_num,HN.out⟩
    case measure=>simp [intOf];omega
   ·have hne:(x.toList==s.toList)=true:=he
    have HF:Hid (fS l s=t):=by show((atS l s:Nat):Int)=t;unfold atS;rw[idx_hit HX.out he HOK.out];rfl
    clear he
    go_wp2_with fail
    go_ret
    exact ⟨by rw[HF.out];rfl,rfl⟩
  ·obtain rfl:t=n:=by omega
   have HF:Hid (fS l s=0):=by
    have h:=HOK.out
    rw[List.take_of_length_le (by rw[HL.out];exact Nat.le_refl _)] at h
    show((atS l s:Nat):Int)=0
    unfold atS
    rw[idx_none h]
    rfl
   go_wp2_with fail
   go_ret
   exact ⟨by rw[HF.out];rfl,rfl⟩
theorem indexOf_any (A:Option Addr) (n c:Nat) (l:List ByteArray) (s:ByteArray) (w:World) (h:Rd w 1 A n (strs l)) (hl:l.length=n) (hn:n≤1099511627776) :
  Calls Tryz.prog 149 #[.slice A n c,.string s] w fun e w'=>e=.returned (.int .i64 (ixI l s))∧w=w':=by
 have H:=hD h
 have HL:=hD hl
 clear h hl
 go_enter Tryz.func149,Tryz.ntmps149
 go_wp2
 go_loop [9] (fun i=>∃ t:Nat,t≤n∧i=.int .i64 t∧hasS (l.take t) s=false) (fun i=>n - (intOf i).toNat)
 case atStart=>exact ⟨0,Nat.zero_le _,rfl,rfl⟩
 case round =>
  obtain ⟨t,ht,rfl,hok⟩:=hrel
  have HOK:=hD hok
  clear hok
  by_cases hlt:t<n
  ·obtain ⟨x,hx⟩:∃ x,l[t]?=some x:=⟨_,List.getElem?_eq_getElem (by rw[HL.out];exact hlt)⟩
   obtain ⟨b,off,rfl,_,hc⟩:=H.out.2 Zq6
   have q0:=hc t _ (strs_at hx)
   have HX:=hD hx
   clear hc hx
   cases he:eqSt x s
   ·have hne:(x.toList==s.toList)=false:=he
    have HN:=hD (hasS_step HX.out he HOK.out)
    clear he
    go_wp2_with fail
    go_round
    case rel=>exact ⟨t+1,by omega,by go_num,HN.out⟩
    case measure=>simp [intOf];omega
   ·have hne:(x.toList==s.toList)=true:=he
    have HF:Hid (ixI l s=t):=by show ixI l s=t;unfold ixI;rw[idx_hit HX.out he HOK.out]
    clear he
    go_wp2_with fail
    go_ret
    exact ⟨by rw[HF.out];rfl,rfl⟩
  ·obtain rfl:t=n:=by omega
   have HF:Hid (ixI l s=-1):=by
    have h:=HOK.out
    rw[List.take_of_length_le (by rw[HL.out];exact Nat.le_refl _)] at h
    show ixI l s=-1
    unfold ixI
    rw[idx_none h]
   go_wp2_with fail
   go_ret
   exact ⟨by rw[HF.out];rfl,rfl⟩
def ifO (c:Int) (o:Opt):Opt:=if o.k=1 then ⟨o.k,o.g,o.q,o.bit,c⟩ else o
theorem setIf_map (c:Int) (l:List Opt):setIf c l=l.map (ifO c):=rfl
theorem setIf_step {c:Int} {l:List Opt} {t:Nat} {o:Opt} (h:l[t]?=some o):setIf c (l.take (t+1))=setIf c (l.take t)++[ifO c o]:=by
 rw[List.take_add_one,h,setIf_map,setIf_map,List.map_append]
 rfl
theorem l22If_any (A:Option Addr) (n c:Nat) (l:List Opt) (cond:Int) (w:World) (h:Rd w 8 A n (l.flatMap ocells)) (hl:l.length=n) (hn:n≤1073741824) :
  Calls Tryz.prog 146 #[.slice A n c,.int .i64 cond] w (RetRow 104 8 w n ((setIf cond l).flatMap ocells)):=by
 obtain ⟨i0,hi,hz0,hz1,hz2⟩:=info_parts info_OpE
 have H:=hD h
 have HL:=hD hl
 clear h hl
 go_enter Tryz.func146,Tryz.ntmps146
 go_wp2
 go_loopw [5,6] (fun v i wr=>∃ t:Nat,t≤n∧i=.int .i64 (t:Int)∧wr.ownsRow w.heap.size 104 8 v t ((setIf cond (l.take t)).flatMap ocells)∧Below w.heap.size w wr) (fun _ i _=>n - (intOf i).toNat)
 case atStart=>exact ⟨0,Nat.zero_le _,rfl,own_empty w _ 8,Zq0⟩
 case round =>
  obtain ⟨t,ht,rfl,hown,hb⟩:=hrel
  by_cases hlt:t<n
  ·have hsl:t<l.length:=by rw[HL.out];omega
   obtain ⟨o,ho⟩:∃ o,l[t]?=some o:=⟨_,List.getElem?_eq_getElem hsl⟩
   obtain ⟨b,off,rfl,hbl,hc⟩:=H.out.2 Zq6
   have q0:wr.cell? ⟨b,off+t*8,none⟩=some (.int .i64 o.k):=(hb.cell (by exact hbl)).trans (hc (t*8+0) _ (flat_at ocells_len l t o 0 ho Zq8))
   have q1:wr.cell? ⟨b,off+t*8+1,none⟩=some (.int .i64 o.g.k):=(hb.cell (by exact hbl)).trans (hc (t*8+1) _ (flat_at ocells_len l t o 1 ho Zq8))
   have q2:wr.cell? ⟨b,off+t*8+2,none⟩=some (.int .i64 o.g.a):=(hb.cell (by exact hbl)).trans (hc (t*8+2) _ (flat_at ocells_len l t o 2 ho Zq8))
   have q3:wr.cell? ⟨b,off+t*8+3,none⟩=some (.int .i64 o.g.b):=(hb.cell (by exact hbl)).trans (hc (t*8+3) _ (flat_at ocells_len l t o 3 ho Zq8))
   have q4:wr.cell? ⟨b,off+t*8+4,none⟩=some (.int .i64 o.g.c):=(hb.cell (by exact hbl)).trans (hc (t*8+4) _ (flat_at ocells_len l t o 4 ho Zq8))
   have q5:wr.cell? ⟨b,off+t*8+5,none⟩=some (.int .i64 o.q):=(hb.cell (by exact hbl)).trans (hc (t*8+5) _ (flat_at ocells_len l t o 5 ho Zq8))
   have q6:wr.cell? ⟨b,off+t*8+6,none⟩=some (.int .i64 o.bit):=(hb.cell (by exact hbl)).trans (hc (t*8+6) _ (flat_at ocells_len l t o 6 ho Zq8))
   have q7:wr.cell? ⟨b,off+t*8+7,none⟩=some (.int .i64 o.cond):=(hb.cell (by exact hbl)).trans (hc (t*8+7) _ (flat_at ocells_len l t o 7 ho Zq8))
   have HS:=hD (setIf_step (c:=cond) ho)
   obtain ⟨L,hL⟩:∃ L,L=(setIf cond (l.take t)).flatMap ocells:=⟨_,rfl⟩
   rw[←hL] at hown
   have HL2:=hD hL
   clear hc ho hsl hL
   by_cases hk:o.k=1
   ·have hk':(o.k==1)=true:=by simp [hk]
    have HK:=hD (show ifO cond o=⟨o.k,o.g,o.q,o.bit,cond⟩ by rw[ifO,if_pos hk])
    clear hk
    go_wp2_with (at_builtin;refine wpList_append_rd _ rfl _ _ 38 rfl w.heap.size 104 i0 _ 8 64 Tryz.underlying38 hi hz0 hz1 hz2 rfl Zq8 _ _ _ rfl ((hown.alloc _).alloc _) _ 1 1 _ rfl (rd_lit ?c0 rfl) ?c2 ?c3 ?c4 ?c5 ?_)
    case c0=>first|rfl|simp
    case c2=>repeat' (first|rfl|apply And.intro)
    case c3=>simp only[maxLen];omega
    case c4=>omega
    case c5=>have:=hb.size;simp;omega
    intro v3 w3 own3 gr3 _
    have b3:=((hb.alloc hb.size _).alloc (by have:=hb.size;simp;omega) _).grown gr3 (by have:=hb.size;simp;omega) (own_ge hown)
    clear hown gr3
    go_wp2
    go_roundw
    case rel =>
     refine ⟨t+1,by omega,by go_num,?_,b3⟩
     rw[HS.out,List.flatMap_append,←HL2.out,HK.out]
     exact own3
    case measure=>simp [intOf];omega
   ·have hk':(o.k==1)=false:=by simp [hk]
    have HK:=hD (show ifO cond o=o by rw[ifO,if_neg hk])
    clear hk
    go_wp2_with (at_builtin;refine wpList_append_rd _ rfl _ _ 38 rfl w.heap.size 104 i0 _ 8 64 Tryz.underlying38 hi hz0 hz1 hz2 rfl Zq8 _ _ _ rfl ((hown.alloc _).alloc _) _ 1 1 _ rfl (rd_lit ?c0 rfl) ?c2 ?c3 ?c4 ?c5 ?_)
    case c0=>first|rfl|simp
    case c2=>repeat' (first|rfl|apply And.intro)
    case c3=>simp only[maxLen];omega
    case c4=>omega
    case c5=>have:=hb.size;simp;omega
    intro v3 w3 own3 gr3 _
    have b3:=((hb.alloc hb.size _).alloc (by have:=hb.size;simp;omega) _).grown gr3 (by have:=hb.size;simp;omega) (own_ge hown)
    clear hown gr3
    go_wp2
    go_roundw
    case rel =>
     refine ⟨t+1,by omega,by go_num,?_,b3⟩
     rw[HS.out,List.flatMap_append,←HL2.out,HK.out]
     exact own3
    case measure=>simp [intOf];omega
  ·obtain rfl:t=n:=by omega
   have HF:Hid (setIf cond (l.take t)=setIf cond l):=by show _=_;rw[List.take_of_length_le (by rw[HL.out];exact Nat.le_refl _)]
   go_wp2
   go_ret
   exact ⟨_,rfl,by rw[HF.out] at hown;exact hown,hb,hb.size⟩
end Go.Proofs.YthkbckkghnbonaaGreatDoor
