/- What the calls that this law reaches answer, part 11 of 20. -/
import Derived.Test.YthkbckkghnbonaaGreatDoorJFElaborate3
set_option maxRecDepth 100000
set_option maxHeartbeats 16000000
set_option linter.unusedVariables false
namespace Go.Proofs.YthkbckkghnbonaaGreatDoor
open Go.RowKit
set_option linter.unusedVariables false
theorem yei {l:List ByteArray} {t:Nat} {s:ByteArray} (h:l[t]?=some s):s.size≤szS l:=by
 have h1:=yr4 l t s h
 have h2:=ynk l (t+1)
 omega
theorem ypd (word:ByteArray) (args:List ByteArray) (count:Int) (Aa:Option Addr) (ca:Nat) (Ab:Option Addr) (nb cb:Nat) (w:World) (rs:List Bool) (hra:Rd w 1 Aa args.length (strs args)) (hG:GN w) (hz:szS args≤1048576) (hl:args.length≤1048576) (hn:nb≤1048576) (hrs:rs.length=nb) (hel:Elts 43 w Ab nb rs) :
  Calls Tryz.prog 43 #[.agg #[.int .i64 1,.string word,.slice Aa args.length ca,.int .i64 count,.slice Ab nb cb]] w fun e w'=>e=.returned (.bool (vRes 1 word args count nb rs))∧Below w.heap.size w w'∧w.heap.size≤w'.heap.size:=by
 have bx:Below w.heap.size w (w.alloc (.cells #[.int .i64 1,.string word,.slice Aa args.length ca,.int .i64 count,.slice Ab nb cb] 66)):=Zq0
 have hra':=hra.below bx
 have hG':=hG.below bx
 obtain ⟨m,hm0⟩:∃ m,m=args.length:=⟨_,rfl⟩
 rw[←hm0] at hl hra' hG' ⊢
 have HM:=hD hm0
 have HRA:=hD hra'
 have HGN:=hD hG'
 have HEL:=hD hel
 have HRS:=hD hrs
 clear hra hG hrs hel bx hra' hG'
 have hB:hasB 1=false:=rfl
 obtain ⟨g,hg⟩:∃ g,g=ar (yao word):=⟨_,rfl⟩
 by_cases g0:g=0
 ·have e0:((ar (yao word):Int)==0)=true:=by rw[←hg,g0];rfl
  have hg0:ar (yao word)=0:=by rw[←hg];exact g0
  have HG0:=hD hg0
  clear hg g0 hg0
  have HF:=hD (ycq (k:=1) (word:=word) (args:=args) (count:=count) (nb:=nb) (rs:=rs) (by rw[←HM.out];simp [ya4,yar,ya2,hasB,inB,HG0.out]))
  clear hm0 HEL
  go_enter Tryz.func43,Tryz.ntmps43
  go_wp2_with (first|(go_at_call 102;refine(ya8 _ _ (by exact HGN.out)).mono ?_;rintro e w' ⟨rfl,rfl⟩)|(go_at_call 101;refine(ya5 _ _).mono ?_;rintro e w' ⟨rfl,rfl⟩)|(go_at_call 103;refine(yba _ _).mono ?_;rintro e w' ⟨rfl,rfl⟩)|(go_at_call 44;refine(yav _ _ _ _).mono ?_;rintro e w' ⟨rfl,rfl⟩))
  go_ret
  exact ⟨by rw[HF.out];rfl,Zq0,Zq5⟩
 ·have e0:((ar (yao word):Int)==0)=false:=by rw[←hg,beq_eq_false_iff_ne];omega
  have HG:=hD hg
  have hgw:ar (yao word)≠0:=by rw[←hg];exact g0
  have HGW:=hD hgw
  clear hg g0 hgw
  by_cases hm:(m:Int)=(ar (yao word):Int)
  ·have e1:((m:Int) != (ar (yao word):Int))=false:=by simpa using hm
   have hmn:m=ar (yao word):=by omega
   have HMN:=hD hmn
   clear hm hmn
   by_cases hb:nb=0
   ·have e3:decide (0<(nb:Int))=false:=by simp;omega
    have e3n:decide (0<nb)=false:=by simp;omega
    have HNB:=hD hb
    clear hb
    by_cases hc:count=0
    ·subst hc
     have HH:=hD (show ya4 1 word args.length 0 nb=true by rw[←HM.out];simp [ya4,yar,ya2,hasB,inB,HGW.out,HMN.out,HNB.out])
     clear hm0
     go_enter Tryz.func43,Tryz.ntmps43
     go_wp2_with (first|(go_at_call 102;refine(ya8 _ _ (by exact HGN.out)).mono ?_;rintro e w' ⟨rfl,rfl⟩)|(go_at_call 101;refine(ya5 _ _).mono ?_;rintro e w' ⟨rfl,rfl⟩)|(go_at_call 103;refine(yba _ _).mono ?_;rintro e w' ⟨rfl,rfl⟩)|(go_at_call 44;refine(yav _ _ _ _).mono ?_;rintro e w' ⟨rfl,rfl⟩))
     go_loop [76] (fun i=>∃ t:Nat,t≤m∧i=.int .i64 t∧(args.take t).all ya9=true) (fun i=>m - (intOf i).toNat)
     case atStart=>exact ⟨0,Nat.zero_le _,rfl,rfl⟩
     case round =>
      obtain ⟨t,ht,rfl,hok⟩:=hrel
      have HOK:=hD hok
      clear hok
      by_cases hlt:t<m
      ·have htl:t<args.length:=by have:=HM.out;omega
       obtain ⟨s,hs⟩:∃ s,args[t]?=some s:=⟨_,List.getElem?_eq_getElem htl⟩
       obtain ⟨b,off,rfl,_,hc⟩:=HRA.out.2 Zq6
       have q0:=hc t _ (ybr hs)
       have hsz:=yei hs
       have HS:=hD hs
       have hs63:s.size≤9223372036854775807:=by omega
       clear hc hs htl hsz
       cases hw:ya9 s
       ·have HF:=hD (yia (k:=1) (word:=word) (count:=0) (nb:=nb) (rs:=rs) HS.out hw)
        go_wp2_with (go_at_call 42;refine(ybk _ _ hs63).mono ?_;rintro e w' ⟨rfl,rfl⟩)
        go_ret
        exact ⟨by rw[HF.out];rfl,Zq0,Zq5⟩
       ·have HN:=hD (show(args.take (t+1)).all ya9=true by rw[ycg _ HS.out,HOK.out,hw];rfl)
        go_wp2_with (go_at_call 42;refine(ybk _ _ hs63).mono ?_;rintro e w' ⟨rfl,rfl⟩)
        go_round
        case rel=>exact ⟨t+1,by omega,by go_num,HN.out⟩
        case measure=>simp [intOf];omega
      ·have HAL:Hid (args.all ya9=true):=by
        have h:=HOK.out
        rw[List.take_of_length_le (by have:=HM.out;omega)] at h
        exact h
       obtain ⟨w0,hw0⟩:∃ w0,w0=w.alloc (.cells #[.int .i64 1,.string word,.slice Aa m ca,.int .i64 0,.slice Ab nb cb] 66):=⟨_,rfl⟩
       have b0:Below w.heap.size w w0:=by rw[hw0];exact Zq0
       have s0:w.heap.size≤w0.heap.size:=b0.size
       go_wp2_with fail
       rw[←hw0]
       have B0:=hD b0
       clear hw0 b0
       go_loopw [87] (fun i wr=>∃ t:Nat,t≤nb∧i=.int .i64 t∧(rs.take t).all id=true∧Below w0.heap.size w0 wr) (fun i _=>nb - (intOf i).toNat)
       case atStart=>exact ⟨0,Nat.zero_le _,rfl,rfl,Below.refl _ _⟩
       case round =>
        obtain ⟨t,ht,rfl,hok,hb⟩:=hrel
        have HOK2:=hD hok
        have hbs:=hb.size
        clear hok
        by_cases hlt:t<nb
        ·obtain ⟨b,off,k',wd',Aa',na',ca',ct',Ab',nb',cb',r,rfl,hbl,⟨q0,q1,q2,q3,q4⟩,hr,hcall⟩:=HEL.out t hlt
         have hbw:=(B0.out.trans (hb.mono s0))
         rw[←hbw.cell (p:=⟨b,_,none⟩) hbl] at q0 q1 q2 q3 q4
         have HC:=hD (hcall _ ((hbw.alloc Zq6 (.cells #[.int .i64 k',.string wd',.slice Aa' na' ca',.int .i64 ct',.slice Ab' nb' cb'] 66))))
         have HR:=hD hr
         clear hcall hr hbl hbw
         cases r
         ·have HF:=hD (ygj (k:=1) (word:=word) (args:=args) (count:=0) (nb:=nb) (rs:=rs) HR.out)
          go_wp2_with fail
          refine HC.out.mono ?_
          rintro e w2 ⟨rfl,hb2,hs2⟩
          go_wp2_with fail
          go_ret
          exact ⟨by rw[HF.out];rfl,(B0.out.trans (hb.mono s0)).trans (((Below.refl _ _).alloc (Nat.le_refl _) _).trans (hb2.mono Zq11) |>.mono Zq6),by have:=hs2;simp at this;omega⟩
         ·have HN:=hD (show(rs.take (t+1)).all id=true by rw[ycg _ HR.out,HOK2.out];rfl)
          go_wp2_with fail
          refine HC.out.mono ?_
          rintro e w2 ⟨rfl,hb2,hs2⟩
          go_wp2_with fail
          go_roundw
          case rel=>exact ⟨t+1,by omega,by go_num,HN.out,hb.trans (((Below.refl _ _).alloc (Nat.le_refl _) _).trans (hb2.mono Zq11) |>.mono Zq6)⟩
          case measure=>simp [intOf];omega
        ·have HRL:Hid (rs.all id=true):=by
          have h:=HOK2.out
          rw[List.take_of_length_le (by have:=HRS.out;omega)] at h
          exact h
         have HF:=hD (ygk HH.out HAL.out HRL.out)
         go_wp2_with fail
         go_ret
         exact ⟨by rw[HF.out];rfl,B0.out.trans (hb.mono s0),by omega⟩
    ·have e4:(count != 0)=true:=by rw[bne_iff_ne];exact hc
     have HF:=hD (ycq (k:=1) (word:=word) (args:=args) (count:=count) (nb:=nb) (rs:=rs) (by rw[←HM.out];simp [ya4,yar,ya2,hasB,inB,HGW.out,HMN.out,HNB.out,hc]))
     clear hm0 HEL
     go_enter Tryz.func43,Tryz.ntmps43
     go_wp2_with (first|(go_at_call 102;refine(ya8 _ _ (by exact HGN.out)).mono ?_;rintro e w' ⟨rfl,rfl⟩)|(go_at_call 101;refine(ya5 _ _).mono ?_;rintro e w' ⟨rfl,rfl⟩)|(go_at_call 103;refine(yba _ _).mono ?_;rintro e w' ⟨rfl,rfl⟩)|(go_at_call 44;refine(yav _ _ _ _).mono ?_;rintro e w' ⟨rfl,rfl⟩))
     go_ret
     exact ⟨by rw[HF.out];rfl,Zq0,Zq5⟩
   ·have e3:decide (0<(nb:Int))=true:=by simp;omega
    have e3n:decide (0<nb)=true:=by simp;omega
    have HNB:=hD hb
    clear hb
    have HF:=hD (ycq (k:=1) (word:=word) (args:=args) (count:=count) (nb:=nb) (rs:=rs) (by rw[←HM.out];simp [ya4,yar,ya2,hasB,inB,HGW.out,HMN.out,HNB.out]))
    clear hm0 HEL
    go_enter Tryz.func43,Tryz.ntmps43
    go_wp2_with (first|(go_at_call 102;refine(ya8 _ _ (by exact HGN.out)).mono ?_;rintro e w' ⟨rfl,rfl⟩)|(go_at_call 101;refine(ya5 _ _).mono ?_;rintro e w' ⟨rfl,rfl⟩)|(go_at_call 103;refine(yba _ _).mono ?_;rintro e w' ⟨rfl,rfl⟩)|(go_at_call 44;refine(yav _ _ _ _).mono ?_;rintro e w' ⟨rfl,rfl⟩))
    go_ret
    exact ⟨by rw[HF.out];rfl,Zq0,Zq5⟩
  ·have e1:((m:Int) != (ar (yao word):Int))=true:=by rw[bne_iff_ne];exact hm
   have hmn:m≠ar (yao word):=by omega
   have HMN:=hD hmn
   clear hm hmn
   have HF:=hD (ycq (k:=1) (word:=word) (args:=args) (count:=count) (nb:=nb) (rs:=rs) (by rw[←HM.out];simp [ya4,yar,ya2,hasB,inB,HGW.out,HMN.out]))
   clear hm0 HEL
   go_enter Tryz.func43,Tryz.ntmps43
   go_wp2_with (first|(go_at_call 102;refine(ya8 _ _ (by exact HGN.out)).mono ?_;rintro e w' ⟨rfl,rfl⟩)|(go_at_call 101;refine(ya5 _ _).mono ?_;rintro e w' ⟨rfl,rfl⟩)|(go_at_call 103;refine(yba _ _).mono ?_;rintro e w' ⟨rfl,rfl⟩)|(go_at_call 44;refine(yav _ _ _ _).mono ?_;rintro e w' ⟨rfl,rfl⟩))
   go_ret
   exact ⟨by rw[HF.out];rfl,Zq0,Zq5⟩
theorem ype (word:ByteArray) (args:List ByteArray) (count:Int) (Aa:Option Addr) (ca:Nat) (Ab:Option Addr) (nb cb:Nat) (w:World) (rs:List Bool) (hra:Rd w 1 Aa args.length (strs args)) (hG:GN w) (hz:szS args≤1048576) (hl:args.length≤1048576) (hn:nb≤1048576) (hrs:rs.length=nb) (hel:Elts 43 w Ab nb rs) :
  Calls Tryz.prog 43 #[.agg #[.int .i64 2,.string word,.slice Aa args.length ca,.int .i64 count,.slice Ab nb cb]] w fun e w'=>e=.returned (.bool (vRes 2 word args count nb rs))∧Below w.heap.size w w'∧w.heap.size≤w'.heap.size:=by
 have bx:Below w.heap.size w (w.alloc (.cells #[.int .i64 2,.string word,.slice Aa args.length ca,.int .i64 count,.slice Ab nb cb] 66)):=Zq0
 have hra':=hra.below bx
 have hG':=hG.below bx
 obtain ⟨m,hm0⟩:∃ m,m=args.length:=⟨_,rfl⟩
 rw[←hm0] at hl hra' hG' ⊢
 have HM:=hD hm0
 have HRA:=hD hra'
 have HGN:=hD hG'
 have HEL:=hD hel
 have HRS:=hD hrs
 clear hra hG hrs hel bx hra' hG'
 have hB:hasB 2=true:=rfl
 by_cases hm:m=0
 ·subst hm
  by_cases hw:word.toList=[]
  ·have e2:word.toList.isEmpty=true:=by rw[hw];rfl
   have HWE:=hD hw
   clear hw
   cases hc:inB count 1 9
   ·have HC9:=hD (show ¬ (1≤count∧count≤9) from by simpa [inB] using hc)
    have HF:=hD (ycq (k:=2) (word:=word) (args:=args) (count:=count) (nb:=nb) (rs:=rs) (by rw[←HM.out];simp [ya4,yar,ya2,hasB,inB,HWE.out,HC9.out]))
    clear hm0 HEL
    go_enter Tryz.func43,Tryz.ntmps43
    go_wp2_with (first|(go_at_call 102;refine(ya8 _ _ (by exact HGN.out)).mono ?_;rintro e w' ⟨rfl,rfl⟩)|(go_at_call 101;refine(ya5 _ _).mono ?_;rintro e w' ⟨rfl,rfl⟩)|(go_at_call 103;refine(yba _ _).mono ?_;rintro e w' ⟨rfl,rfl⟩)|(go_at_call 44;refine(yav _ _ _ _).mono ?_;rintro e w' ⟨rfl,rfl⟩))
    go_ret
    exact ⟨by rw[HF.out];rfl,Zq0,Zq5⟩
   ·have HC9:=hD (show 1≤count∧count≤9 from by simpa [inB] using hc)
    have HH:=hD (show ya4 2 word args.length count nb=true by rw[←HM.out];simp [ya4,yar,ya2,hasB,inB,HWE.out,HC9.out])
    clear hm0
    go_enter Tryz.func43,Tryz.ntmps43
    go_wp2_with (first|(go_at_call 102;refine(ya8 _ _ (by exact HGN.out)).mono ?_;rintro e w' ⟨rfl,rfl⟩)|(go_at_call 101;refine(ya5 _ _).mono ?_;rintro e w' ⟨rfl,rfl⟩)|(go_at_call 103;refine(yba _ _).mono ?_;rintro e w' ⟨rfl,rfl⟩)|(go_at_call 44;refine(yav _ _ _ _).mono ?_;rintro e w' ⟨rfl,rfl⟩))
    go_loop [76] (fun i=>∃ t:Nat,t≤0∧i=.int .i64 t∧(args.take t).all ya9=true) (fun i=>0 - (intOf i).toNat)
    case atStart=>exact ⟨0,Nat.zero_le _,rfl,rfl⟩
    case round =>
     obtain ⟨t,ht,rfl,hok⟩:=hrel
     have HOK:=hD hok
     clear hok
     by_cases hlt:t<0
     ·omega
     ·have HAL:Hid (args.all ya9=true):=by
       have h:=HOK.out
       rw[List.take_of_length_le (by have:=HM.out;omega)] at h
       exact h
      obtain ⟨w0,hw0⟩:∃ w0,w0=w.alloc (.cells #[.int .i64 2,.string word,.slice Aa 0 ca,.int .i64 count,.slice Ab nb cb] 66):=⟨_,rfl⟩
      have b0:Below w.heap.size w w0:=by rw[hw0];exact Zq0
      have s0:w.heap.size≤w0.heap.size:=b0.size
      go_wp2_with fail
      rw[←hw0]
      have B0:=hD b0
      clear hw0 b0
      go_loopw [87] (fun i wr=>∃ t:Nat,t≤nb∧i=.int .i64 t∧(rs.take t).all id=true∧Below w0.heap.size w0 wr) (fun i _=>nb - (intOf i).toNat)
      case atStart=>exact ⟨0,Nat.zero_le _,rfl,rfl,Below.refl _ _⟩
      case round =>
       obtain ⟨t,ht,rfl,hok,hb⟩:=hrel
       have HOK2:=hD hok
       have hbs:=hb.size
       clear hok
       by_cases hlt:t<nb
       ·obtain ⟨b,off,k',wd',Aa',na',ca',ct',Ab',nb',cb',r,rfl,hbl,⟨q0,q1,q2,q3,q4⟩,hr,hcall⟩:=HEL.out t hlt
        have hbw:=(B0.out.trans (hb.mono s0))
        rw[←hbw.cell (p:=⟨b,_,none⟩) hbl] at q0 q1 q2 q3 q4
        have HC:=hD (hcall _ ((hbw.alloc Zq6 (.cells #[.int .i64 k',.string wd',.slice Aa' na' ca',.int .i64 ct',.slice Ab' nb' cb'] 66))))
        have HR:=hD hr
        clear hcall hr hbl hbw
        cases r
        ·have HF:=hD (ygj (k:=2) (word:=word) (args:=args) (count:=count) (nb:=nb) (rs:=rs) HR.out)
         go_wp2_with fail
         refine HC.out.mono ?_
         rintro e w2 ⟨rfl,hb2,hs2⟩
         go_wp2_with fail
         go_ret
         exact ⟨by rw[HF.out];rfl,(B0.out.trans (hb.mono s0)).trans (((Below.refl _ _).alloc (Nat.le_refl _) _).trans (hb2.mono Zq11) |>.mono Zq6),by have:=hs2;simp at this;omega⟩
        ·have HN:=hD (show(rs.take (t+1)).all id=true by rw[ycg _ HR.out,HOK2.out];rfl)
         go_wp2_with fail
         refine HC.out.mono ?_
         rintro e w2 ⟨rfl,hb2,hs2⟩
         go_wp2_with fail
         go_roundw
         case rel=>exact ⟨t+1,by omega,by go_num,HN.out,hb.trans (((Below.refl _ _).alloc (Nat.le_refl _) _).trans (hb2.mono Zq11) |>.mono Zq6)⟩
         case measure=>simp [intOf];omega
       ·have HRL:Hid (rs.all id=true):=by
         have h:=HOK2.out
         rw[List.take_of_length_le (by have:=HRS.out;omega)] at h
         exact h
        have HF:=hD (ygk HH.out HAL.out HRL.out)
        go_wp2_with fail
        go_ret
        exact ⟨by rw[HF.out];rfl,B0.out.trans (hb.mono s0),by omega⟩
  ·have e2:word.toList.isEmpty=false:=by rw[List.isEmpty_eq_false_iff];exact hw
   have HWE:=hD hw
   clear hw
   have HF:=hD (ycq (k:=2) (word:=word) (args:=args) (count:=count) (nb:=nb) (rs:=rs) (by rw[←HM.out];simp [ya4,yar,ya2,hasB,inB,HWE.out]))
   clear hm0 HEL
   go_enter Tryz.func43,Tryz.ntmps43
   go_wp2_with (first|(go_at_call 102;refine(ya8 _ _ (by exact HGN.out)).mono ?_;rintro e w' ⟨rfl,rfl⟩)|(go_at_call 101;refine(ya5 _ _).mono ?_;rintro e w' ⟨rfl,rfl⟩)|(go_at_call 103;refine(yba _ _).mono ?_;rintro e w' ⟨rfl,rfl⟩)|(go_at_call 44;refine(yav _ _ _ _).mono ?_;rintro e w' ⟨rfl,rfl⟩))
   go_ret
   exact ⟨by rw[HF.out];rfl,Zq0,Zq5⟩
 ·have e1:((m:Int) != 0)=true:=by rw[bne_iff_ne];omega
  have HF:=hD (ycq (k:=2) (word:=word) (args:=args) (count:=count) (nb:=nb) (rs:=rs) (by rw[←HM.out];simp [ya4,yar,ya2,hasB,inB,hm]))
  clear hm0 HEL
  go_enter Tryz.func43,Tryz.ntmps43
  go_wp2_with (first|(go_at_call 102;refine(ya8 _ _ (by exact HGN.out)).mono ?_;rintro e w' ⟨rfl,rfl⟩)|(go_at_call 101;refine(ya5 _ _).mono ?_;rintro e w' ⟨rfl,rfl⟩)|(go_at_call 103;refine(yba _ _).mono ?_;rintro e w' ⟨rfl,rfl⟩)|(go_at_call 44;refine(yav _ _ _ _).mono ?_;rintro e w' ⟨rfl,rfl⟩))
  go_ret
  exact ⟨by rw[HF.out];rfl,Zq0,Zq5⟩
theorem ypf (word:ByteArray) (args:List ByteArray) (count:Int) (Aa:Option Addr) (ca:Nat) (Ab:Option Addr) (nb cb:Nat) (w:World) (rs:List Bool) (hra:Rd w 1 Aa args.length (strs args)) (hG:GN w) (hz:szS args≤1048576) (hl:args.length≤1048576) (hn:nb≤1048576) (hrs:rs.length=nb) (hel:Elts 43 w Ab nb rs) :
  Calls Tryz.prog 43 #[.agg #[.int .i64 3,.string word,.slice Aa args.length ca,.int .i64 count,.slice Ab nb cb]] w fun e w'=>e=.returned (.bool (vRes 3 word args count nb rs))∧Below w.heap.size w w'∧w.heap.size≤w'.heap.size:=by
 have bx:Below w.heap.size w (w.alloc (.cells #[.int .i64 3,.string word,.slice Aa args.length ca,.int .i64 count,.slice Ab nb cb] 66)):=Zq0
 have hra':=hra.below bx
 have hG':=hG.below bx
 obtain ⟨m,hm0⟩:∃ m,m=args.length:=⟨_,rfl⟩
 rw[←hm0] at hl hra' hG' ⊢
 have HM:=hD hm0
 have HRA:=hD hra'
 have HGN:=hD hG'
 have HEL:=hD hel
 have HRS:=hD hrs
 clear hra hG hrs hel bx hra' hG'
 have hB:hasB 3=true:=rfl
 by_cases hm:m=0
 ·subst hm
  by_cases hw:word.toList=[]
  ·have e2:word.toList.isEmpty=true:=by rw[hw];rfl
   have HWE:=hD hw
   clear hw
   by_cases hc:count=0
   ·subst hc
    have HH:=hD (show ya4 3 word args.length 0 nb=true by rw[←HM.out];simp [ya4,yar,ya2,hasB,inB,HWE.out])
    clear hm0
    go_enter Tryz.func43,Tryz.ntmps43
    go_wp2_with (first|(go_at_call 102;refine(ya8 _ _ (by exact HGN.out)).mono ?_;rintro e w' ⟨rfl,rfl⟩)|(go_at_call 101;refine(ya5 _ _).mono ?_;rintro e w' ⟨rfl,rfl⟩)|(go_at_call 103;refine(yba _ _).mono ?_;rintro e w' ⟨rfl,rfl⟩)|(go_at_call 44;refine(yav _ _ _ _).mono ?_;rintro e w' ⟨rfl,rfl⟩))
    go_loop [76] (fun i=>∃ t:Nat,t≤0∧i=.int .i64 t∧(args.take t).all ya9=true) (fun i=>0 - (intOf i).toNat)
    case atStart=>exact ⟨0,Nat.zero_le _,rfl,rfl⟩
    case round =>
     obtain ⟨t,ht,rfl,hok⟩:=hrel
     have HOK:=hD hok
     clear hok
     by_cases hlt:t<0
     ·omega
     ·have HAL:Hid (args.all ya9=true):=by
       have h:=HOK.out
       rw[List.take_of_length_le (by have:=HM.out;omega)] at h
       exact h
      obtain ⟨w0,hw0⟩:∃ w0,w0=w.alloc (.cells #[.int .i64 3,.string word,.slice Aa 0 ca,.int .i64 0,.slice Ab nb cb] 66):=⟨_,rfl⟩
      have b0:Below w.heap.size w w0:=by rw[hw0];exact Zq0
      have s0:w.heap.size≤w0.heap.size:=b0.size
      go_wp2_with fail
      rw[←hw0]
      have B0:=hD b0
      clear hw0 b0
      go_loopw [87] (fun i wr=>∃ t:Nat,t≤nb∧i=.int .i64 t∧(rs.take t).all id=true∧Below w0.heap.size w0 wr) (fun i _=>nb - (intOf i).toNat)
      case atStart=>exact ⟨0,Nat.zero_le _,rfl,rfl,Below.refl _ _⟩
      case round =>
       obtain ⟨t,ht,rfl,hok,hb⟩:=hrel
       have HOK2:=hD hok
       have hbs:=hb.size
       clear hok
       by_cases hlt:t<nb
       ·obtain ⟨b,off,k',wd',Aa',na',ca',ct',Ab',nb',cb',r,rfl,hbl,⟨q0,q1,q2,q3,q4⟩,hr,hcall⟩:=HEL.out t hlt
        have hbw:=(B0.out.trans (hb.mono s0))
        rw[←hbw.cell (p:=⟨b,_,none⟩) hbl] at q0 q1 q2 q3 q4
        have HC:=hD (hcall _ ((hbw.alloc Zq6 (.cells #[.int .i64 k',.string wd',.slice Aa' na' ca',.int .i64 ct',.slice Ab' nb' cb'] 66))))
        have HR:=hD hr
        clear hcall hr hbl hbw
        cases r
        ·have HF:=hD (ygj (k:=3) (word:=word) (args:=args) (count:=0) (nb:=nb) (rs:=rs) HR.out)
         go_wp2_with fail
         refine HC.out.mono ?_
         rintro e w2 ⟨rfl,hb2,hs2⟩
         go_wp2_with fail
         go_ret
         exact ⟨by rw[HF.out];rfl,(B0.out.trans (hb.mono s0)).trans (((Below.refl _ _).alloc (Nat.le_refl _) _).trans (hb2.mono Zq11) |>.mono Zq6),by have:=hs2;simp at this;omega⟩
        ·have HN:=hD (show(rs.take (t+1)).all id=true by rw[ycg _ HR.out,HOK2.out];rfl)
         go_wp2_with fail
         refine HC.out.mono ?_
         rintro e w2 ⟨rfl,hb2,hs2⟩
         go_wp2_with fail
         go_roundw
         case rel=>exact ⟨t+1,by omega,by go_num,HN.out,hb.trans (((Below.refl _ _).alloc (Nat.le_refl _) _).trans (hb2.mono Zq11) |>.mono Zq6)⟩
         case measure=>simp [intOf];omega
       ·have HRL:Hid (rs.all id=true):=by
         have h:=HOK2.out
         rw[List.take_of_length_le (by have:=HRS.out;omega)] at h
         exact h
        have HF:=hD (ygk HH.out HAL.out HRL.out)
        go_wp2_with fail
        go_ret
        exact ⟨by rw[HF.out];rfl,B0.out.trans (hb.mono s0),by omega⟩
   ·have e4:(count != 0)=true:=by rw[bne_iff_ne];exact hc
    have HF:=hD (ycq (k:=3) (word:=word) (args:=args) (count:=count) (nb:=nb) (rs:=rs) (by rw[←HM.out];simp [ya4,yar,ya2,hasB,inB,HWE.out,hc]))
    clear hm0 HEL
    go_enter Tryz.func43,Tryz.ntmps43
    go_wp2_with (first|(go_at_call 102;refine(ya8 _ _ (by exact HGN.out)).mono ?_;rintro e w' ⟨rfl,rfl⟩)|(go_at_call 101;refine(ya5 _ _).mono ?_;rintro e w' ⟨rfl,rfl⟩)|(go_at_call 103;refine(yba _ _).mono ?_;rintro e w' ⟨rfl,rfl⟩)|(go_at_call 44;refine(yav _ _ _ _).mono ?_;rintro e w' ⟨rfl,rfl⟩))
    go_ret
    exact ⟨by rw[HF.out];rfl,Zq0,Zq5⟩
  ·have e2:word.toList.isEmpty=false:=by rw[List.isEmpty_eq_false_iff];exact hw
   have HWE:=hD hw
   clear hw
   have HF:=hD (ycq (k:=3) (word:=word) (args:=args) (count:=count) (nb:=nb) (rs:=rs) (by rw[←HM.out];simp [ya4,yar,ya2,hasB,inB,HWE.out]))
   clear hm0 HEL
   go_enter Tryz.func43,Tryz.ntmps43
   go_wp2_with (first|(go_at_call 102;refine(ya8 _ _ (by exact HGN.out)).mono ?_;rintro e w' ⟨rfl,rfl⟩)|(go_at_call 101;refine(ya5 _ _).mono ?_;rintro e w' ⟨rfl,rfl⟩)|(go_at_call 103;refine(yba _ _).mono ?_;rintro e w' ⟨rfl,rfl⟩)|(go_at_call 44;refine(yav _ _ _ _).mono ?_;rintro e w' ⟨rfl,rfl⟩))
   go_ret
   exact ⟨by rw[HF.out];rfl,Zq0,Zq5⟩
 ·have e1:((m:Int) != 0)=true:=by rw[bne_iff_ne];omega
  have HF:=hD (ycq (k:=3) (word:=word) (args:=args) (count:=count) (nb:=nb) (rs:=rs) (by rw[←HM.out];simp [ya4,yar,ya2,hasB,inB,hm]))
  clear hm0 HEL
  go_enter Tryz.func43,Tryz.ntmps43
  go_wp2_with (first|(go_at_call 102;refine(ya8 _ _ (by exact HGN.out)).mono ?_;rintro e w' ⟨rfl,rfl⟩)|(go_at_call 101;refine(ya5 _ _).mono ?_;rintro e w' ⟨rfl,rfl⟩)|(go_at_call 103;refine(yba _ _).mono ?_;rintro e w' ⟨rfl,rfl⟩)|(go_at_call 44;refine(yav _ _ _ _).mono ?_;rintro e w' ⟨rfl,rfl⟩))
  go_ret
  exact ⟨by rw[HF.out];rfl,Zq0,Zq5⟩
theorem ypg (word:ByteArray) (args:List ByteArray) (count:Int) (Aa:Option Addr) (ca:Nat) (Ab:Option Addr) (nb cb:Nat) (w:World) (rs:List Bool) (hra:Rd w 1 Aa args.length (strs args)) (hG:GN w) (hz:szS args≤1048576) (hl:args.length≤1048576) (hn:nb≤1048576) (hrs:rs.length=nb) (hel:Elts 43 w Ab nb rs) :
  Calls Tryz.prog 43 #[.agg #[.int .i64 4,.string word,.slice Aa args.length ca,.int .i64 count,.slice Ab nb cb]] w fun e w'=>e=.returned (.bool (vRes 4 word args count nb rs))∧Below w.heap.size w w'∧w.heap.size≤w'.heap.size:=by
 have bx:Below w.heap.size w (w.alloc (.cells #[.int .i64 4,.string word,.slice Aa args.length ca,.int .i64 count,.slice Ab nb cb] 66)):=Zq0
 have hra':=hra.below bx
 have hG':=hG.below bx
 obtain ⟨m,hm0⟩:∃ m,m=args.length:=⟨_,rfl⟩
 rw[←hm0] at hl hra' hG' ⊢
 have HM:=hD hm0
 have HRA:=hD hra'
 have HGN:=hD hG'
 have HEL:=hD hel
 have HRS:=hD hrs
 clear hra hG hrs hel bx hra' hG'
 have hB:hasB 4=true:=rfl
 by_cases hm:m=1
 ·subst hm
  by_cases hw:word.toList=[]
  ·have e2:word.toList.isEmpty=true:=by rw[hw];rfl
   have HWE:=hD hw
   clear hw
   by_cases hc:count=0
   ·subst hc
    have HH:=hD (show ya4 4 word args.length 0 nb=true by rw[←HM.out];simp [ya4,yar,ya2,hasB,inB,HWE.out])
    clear hm0
    go_enter Tryz.func43,Tryz.ntmps43
    go_wp2_with (first|(go_at_call 102;refine(ya8 _ _ (by exact HGN.out)).mono ?_;rintro e w' ⟨rfl,rfl⟩)|(go_at_call 101;refine(ya5 _ _).mono ?_;rintro e w' ⟨rfl,rfl⟩)|(go_at_call 103;refine(yba _ _).mono ?_;rintro e w' ⟨rfl,rfl⟩)|(go_at_call 44;refine(yav _ _ _ _).mono ?_;rintro e w' ⟨rfl,rfl⟩))
    go_loop [76] (fun i=>∃ t:Nat,t≤1∧i=.int .i64 t∧(args.take t).all ya9=true) (fun i=>1 - (intOf i).toNat)
    case atStart=>exact ⟨0,Nat.zero_le _,rfl,rfl⟩
    case round =>
     obtain ⟨t,ht,rfl,hok⟩:=hrel
     have HOK:=hD hok
     clear hok
     by_cases hlt:t<1
     ·have htl:t<args.length:=by have:=HM.out;omega
      obtain ⟨s,hs⟩:∃ s,args[t]?=some s:=⟨_,List.getElem?_eq_getElem htl⟩
      obtain ⟨b,off,rfl,_,hc⟩:=HRA.out.2 Zq6
      have q0:=hc t _ (ybr hs)
      have hsz:=yei hs
      have HS:=hD hs
      have hs63:s.size≤9223372036854775807:=by omega
      clear hc hs htl hsz
      cases hw:ya9 s
      ·have HF:=hD (yia (k:=4) (word:=word) (count:=0) (nb:=nb) (rs:=rs) HS.out hw)
       go_wp2_with (go_at_call 42;refine(ybk _ _ hs63).mono ?_;rintro e w' ⟨rfl,rfl⟩)
       go_ret
       exact ⟨by rw[HF.out];rfl,Zq0,Zq5⟩
      ·have HN:=hD (show(args.take (t+1)).all ya9=true by rw[ycg _ HS.out,HOK.out,hw];rfl)
       go_wp2_with (go_at_call 42;refine(ybk _ _ hs63).mono ?_;rintro e w' ⟨rfl,rfl⟩)
       go_round
       case rel=>exact ⟨t+1,by omega,by go_num,HN.out⟩
       case measure=>simp [intOf];omega
     ·have HAL:Hid (args.all ya9=true):=by
       have h:=HOK.out
       rw[List.take_of_length_le (by have:=HM.out;omega)] at h
       exact h
      obtain ⟨w0,hw0⟩:∃ w0,w0=w.alloc (.cells #[.int .i64 4,.string word,.slice Aa 1 ca,.int .i64 0,.slice Ab nb cb] 66):=⟨_,rfl⟩
      have b0:Below w.heap.size w w0:=by rw[hw0];exact Zq0
      have s0:w.heap.size≤w0.heap.size:=b0.size
      go_wp2_with fail
      rw[←hw0]
      have B0:=hD b0
      clear hw0 b0
      go_loopw [87] (fun i wr=>∃ t:Nat,t≤nb∧i=.int .i64 t∧(rs.take t).all id=true∧Below w0.heap.size w0 wr) (fun i _=>nb - (intOf i).toNat)
      case atStart=>exact ⟨0,Nat.zero_le _,rfl,rfl,Below.refl _ _⟩
      case round =>
       obtain ⟨t,ht,rfl,hok,hb⟩:=hrel
       have HOK2:=hD hok
       have hbs:=hb.size
       clear hok
       by_cases hlt:t<nb
       ·obtain ⟨b,off,k',wd',Aa',na',ca',ct',Ab',nb',cb',r,rfl,hbl,⟨q0,q1,q2,q3,q4⟩,hr,hcall⟩:=HEL.out t hlt
        have hbw:=(B0.out.trans (hb.mono s0))
        rw[←hbw.cell (p:=⟨b,_,none⟩) hbl] at q0 q1 q2 q3 q4
        have HC:=hD (hcall _ ((hbw.alloc Zq6 (.cells #[.int .i64 k',.string wd',.slice Aa' na' ca',.int .i64 ct',.slice Ab' nb' cb'] 66))))
        have HR:=hD hr
        clear hcall hr hbl hbw
        cases r
        ·have HF:=hD (ygj (k:=4) (word:=word) (args:=args) (count:=0) (nb:=nb) (rs:=rs) HR.out)
         go_wp2_with fail
         refine HC.out.mono ?_
         rintro e w2 ⟨rfl,hb2,hs2⟩
         go_wp2_with fail
         go_ret
         exact ⟨by rw[HF.out];rfl,(B0.out.trans (hb.mono s0)).trans (((Below.refl _ _).alloc (Nat.le_refl _) _).trans (hb2.mono Zq11) |>.mono Zq6),by have:=hs2;simp at this;omega⟩
        ·have HN:=hD (show(rs.take (t+1)).all id=true by rw[ycg _ HR.out,HOK2.out];rfl)
         go_wp2_with fail
         refine HC.out.mono ?_
         rintro e w2 ⟨rfl,hb2,hs2⟩
         go_wp2_with fail
         go_roundw
         case rel=>exact ⟨t+1,by omega,by go_num,HN.out,hb.trans (((Below.refl _ _).alloc (Nat.le_refl _) _).trans (hb2.mono Zq11) |>.mono Zq6)⟩
         case measure=>simp [intOf];omega
       ·have HRL:Hid (rs.all id=true):=by
         have h:=HOK2.out
         rw[List.take_of_length_le (by have:=HRS.out;omega)] at h
         exact h
        have HF:=hD (ygk HH.out HAL.out HRL.out)
        go_wp2_with fail
        go_ret
        exact ⟨by rw[HF.out];rfl,B0.out.trans (hb.mono s0),by omega⟩
   ·have e4:(count != 0)=true:=by rw[bne_iff_ne];exact hc
    have HF:=hD (ycq (k:=4) (word:=word) (args:=args) (count:=count) (nb:=nb) (rs:=rs) (by rw[←HM.out];simp [ya4,yar,ya2,hasB,inB,HWE.out,hc]))
    clear hm0 HEL
    go_enter Tryz.func43,Tryz.ntmps43
    go_wp2_with (first|(go_at_call 102;refine(ya8 _ _ (by exact HGN.out)).mono ?_;rintro e w' ⟨rfl,rfl⟩)|(go_at_call 101;refine(ya5 _ _).mono ?_;rintro e w' ⟨rfl,rfl⟩)|(go_at_call 103;refine(yba _ _).mono ?_;rintro e w' ⟨rfl,rfl⟩)|(go_at_call 44;refine(yav _ _ _ _).mono ?_;rintro e w' ⟨rfl,rfl⟩))
    go_ret
    exact ⟨by rw[HF.out];rfl,Zq0,Zq5⟩
  ·have e2:word.toList.isEmpty=false:=by rw[List.isEmpty_eq_false_iff];exact hw
   have HWE:=hD hw
   clear hw
   have HF:=hD (ycq (k:=4) (word:=word) (args:=args) (count:=count) (nb:=nb) (rs:=rs) (by rw[←HM.out];simp [ya4,yar,ya2,hasB,inB,HWE.out]))
   clear hm0 HEL
   go_enter Tryz.func43,Tryz.ntmps43
   go_wp2_with (first|(go_at_call 102;refine(ya8 _ _ (by exact HGN.out)).mono ?_;rintro e w' ⟨rfl,rfl⟩)|(go_at_call 101;refine(ya5 _ _).mono ?_;rintro e w' ⟨rfl,rfl⟩)|(go_at_call 103;refine(yba _ _).mono ?_;rintro e w' ⟨rfl,rfl⟩)|(go_at_call 44;refine(yav _ _ _ _).mono ?_;rintro e w' ⟨rfl,rfl⟩))
   go_ret
   exact ⟨by rw[HF.out];rfl,Zq0,Zq5⟩
 ·have e1:((m:Int) != 1)=true:=by rw[bne_iff_ne];omega
  have HF:=hD (ycq (k:=4) (word:=word) (args:=args) (count:=count) (nb:=nb) (rs:=rs) (by rw[←HM.out];simp [ya4,yar,ya2,hasB,inB,hm]))
  clear hm0 HEL
  go_enter Tryz.func43,Tryz.ntmps43
  go_wp2_with (first|(go_at_call 102;refine(ya8 _ _ (by exact HGN.out)).mono ?_;rintro e w' ⟨rfl,rfl⟩)|(go_at_call 101;refine(ya5 _ _).mono ?_;rintro e w' ⟨rfl,rfl⟩)|(go_at_call 103;refine(yba _ _).mono ?_;rintro e w' ⟨rfl,rfl⟩)|(go_at_call 44;refine(yav _ _ _ _).mono ?_;rintro e w' ⟨rfl,rfl⟩))
  go_ret
  exact ⟨by rw[HF.out];rfl,Zq0,Zq5⟩
theorem yph (word:ByteArray) (args:List ByteArray) (count:Int) (Aa:Option Addr) (ca:Nat) (Ab:Option Addr) (nb cb:Nat) (w:World) (rs:List Bool) (hra:Rd w 1 Aa args.length (strs args)) (hG:GN w) (hz:szS args≤1048576) (hl:args.length≤1048576) (hn:nb≤1048576) (hrs:rs.length=nb) (hel:Elts 43 w Ab nb rs) :
  Calls Tryz.prog 43 #[.agg #[.int .i64 5,.string word,.slice Aa args.length ca,.int .i64 count,.slice Ab nb cb]] w fun e w'=>e=.returned (.bool (vRes 5 word args count nb rs))∧Below w.heap.size w w'∧w.heap.size≤w'.heap.size:=by
 have bx:Below w.heap.size w (w.alloc (.cells #[.int .i64 5,.string word,.slice Aa args.length ca,.int .i64 count,.slice Ab nb cb] 66)):=Zq0
 have hra':=hra.below bx
 have hG':=hG.below bx
 obtain ⟨m,hm0⟩:∃ m,m=args.length:=⟨_,rfl⟩
 rw[←hm0] at hl hra' hG' ⊢
 have HM:=hD hm0
 have HRA:=hD hra'
 have HGN:=hD hG'
 have HEL:=hD hel
 have HRS:=hD hrs
 clear hra hG hrs hel bx hra' hG'
 have hB:hasB 5=true:=rfl
 by_cases hm:m=1
 ·subst hm
  by_cases hw:word.toList=[]
  ·have e2:word.toList.isEmpty=true:=by rw[hw];rfl
   have HWE:=hD hw
   clear hw
   by_cases hc:count=0
   ·subst hc
    have HH:=hD (show ya4 5 word args.length 0 nb=true by rw[←HM.out];simp [ya4,yar,ya2,hasB,inB,HWE.out])
    clear hm0
    go_enter Tryz.func43,Tryz.ntmps43
    go_wp2_with (first|(go_at_call 102;refine(ya8 _ _ (by exact HGN.out)).mono ?_;rintro e w' ⟨rfl,rfl⟩)|(go_at_call 101;refine(ya5 _ _).mono ?_;rintro e w' ⟨rfl,rfl⟩)|(go_at_call 103;refine(yba _ _).mono ?_;rintro e w' ⟨rfl,rfl⟩)|(go_at_call 44;refine(yav _ _ _ _).mono ?_;rintro e w' ⟨rfl,rfl⟩))
    go_loop [76] (fun i=>∃ t:Nat,t≤1∧i=.int .i64 t∧(args.take t).all ya9=true) (fun i=>1 - (intOf i).toNat)
    case atStart=>exact ⟨0,Nat.zero_le _,rfl,rfl⟩
    case round =>
     obtain ⟨t,ht,rfl,hok⟩:=hrel
     have HOK:=hD hok
     clear hok
     by_cases hlt:t<1
     ·have htl:t<args.length:=by have:=HM.out;omega
      obtain ⟨s,hs⟩:∃ s,args[t]?=some s:=⟨_,List.getElem?_eq_getElem htl⟩
      obtain ⟨b,off,rfl,_,hc⟩:=HRA.out.2 Zq6
      have q0:=hc t _ (ybr hs)
      have hsz:=yei hs
      have HS:=hD hs
      have hs63:s.size≤9223372036854775807:=by omega
      clear hc hs htl hsz
      cases hw:ya9 s
      ·have HF:=hD (yia (k:=5) (word:=word) (count:=0) (nb:=nb) (rs:=rs) HS.out hw)
       go_wp2_with (go_at_call 42;refine(ybk _ _ hs63).mono ?_;rintro e w' ⟨rfl,rfl⟩)
       go_ret
       exact ⟨by rw[HF.out];rfl,Zq0,Zq5⟩
      ·have HN:=hD (show(args.take (t+1)).all ya9=true by rw[ycg _ HS.out,HOK.out,hw];rfl)
       go_wp2_with (go_at_call 42;refine(ybk _ _ hs63).mono ?_;rintro e w' ⟨rfl,rfl⟩)
       go_round
       case rel=>exact ⟨t+1,by omega,by go_num,HN.out⟩
       case measure=>simp [intOf];omega
     ·have HAL:Hid (args.all ya9=true):=by
       have h:=HOK.out
       rw[List.take_of_length_le (by have:=HM.out;omega)] at h
       exact h
      obtain ⟨w0,hw0⟩:∃ w0,w0=w.alloc (.cells #[.int .i64 5,.string word,.slice Aa 1 ca,.int .i64 0,.slice Ab nb cb] 66):=⟨_,rfl⟩
      have b0:Below w.heap.size w w0:=by rw[hw0];exact Zq0
      have s0:w.heap.size≤w0.heap.size:=b0.size
      go_wp2_with fail
      rw[←hw0]
      have B0:=hD b0
      clear hw0 b0
      go_loopw [87] (fun i wr=>∃ t:Nat,t≤nb∧i=.int .i64 t∧(rs.take t).all id=true∧Below w0.heap.size w0 wr) (fun i _=>nb - (intOf i).toNat)
      case atStart=>exact ⟨0,Nat.zero_le _,rfl,rfl,Below.refl _ _⟩
      case round =>
       obtain ⟨t,ht,rfl,hok,hb⟩:=hrel
       have HOK2:=hD hok
       have hbs:=hb.size
       clear hok
       by_cases hlt:t<nb
       ·obtain ⟨b,off,k',wd',Aa',na',ca',ct',Ab',nb',cb',r,rfl,hbl,⟨q0,q1,q2,q3,q4⟩,hr,hcall⟩:=HEL.out t hlt
        have hbw:=(B0.out.trans (hb.mono s0))
        rw[←hbw.cell (p:=⟨b,_,none⟩) hbl] at q0 q1 q2 q3 q4
        have HC:=hD (hcall _ ((hbw.alloc Zq6 (.cells #[.int .i64 k',.string wd',.slice Aa' na' ca',.int .i64 ct',.slice Ab' nb' cb'] 66))))
        have HR:=hD hr
        clear hcall hr hbl hbw
        cases r
        ·have HF:=hD (ygj (k:=5) (word:=word) (args:=args) (count:=0) (nb:=nb) (rs:=rs) HR.out)
         go_wp2_with fail
         refine HC.out.mono ?_
         rintro e w2 ⟨rfl,hb2,hs2⟩
         go_wp2_with fail
         go_ret
         exact ⟨by rw[HF.out];rfl,(B0.out.trans (hb.mono s0)).trans (((Below.refl _ _).alloc (Nat.le_refl _) _).trans (hb2.mono Zq11) |>.mono Zq6),by have:=hs2;simp at this;omega⟩
        ·have HN:=hD (show(rs.take (t+1)).all id=true by rw[ycg _ HR.out,HOK2.out];rfl)
         go_wp2_with fail
         refine HC.out.mono ?_
         rintro e w2 ⟨rfl,hb2,hs2⟩
         go_wp2_with fail
         go_roundw
         case rel=>exact ⟨t+1,by omega,by go_num,HN.out,hb.trans (((Below.refl _ _).alloc (Nat.le_refl _) _).trans (hb2.mono Zq11) |>.mono Zq6)⟩
         case measure=>simp [intOf];omega
       ·have HRL:Hid (rs.all id=true):=by
         have h:=HOK2.out
         rw[List.take_of_length_le (by have:=HRS.out;omega)] at h
         exact h
        have HF:=hD (ygk HH.out HAL.out HRL.out)
        go_wp2_with fail
        go_ret
        exact ⟨by rw[HF.out];rfl,B0.out.trans (hb.mono s0),by omega⟩
   ·have e4:(count != 0)=true:=by rw[bne_iff_ne];exact hc
    have HF:=hD (ycq (k:=5) (word:=word) (args:=args) (count:=count) (nb:=nb) (rs:=rs) (by rw[←HM.out];simp [ya4,yar,ya2,hasB,inB,HWE.out,hc]))
    clear hm0 HEL
    go_enter Tryz.func43,Tryz.ntmps43
    go_wp2_with (first|(go_at_call 102;refine(ya8 _ _ (by exact HGN.out)).mono ?_;rintro e w' ⟨rfl,rfl⟩)|(go_at_call 101;refine(ya5 _ _).mono ?_;rintro e w' ⟨rfl,rfl⟩)|(go_at_call 103;refine(yba _ _).mono ?_;rintro e w' ⟨rfl,rfl⟩)|(go_at_call 44;refine(yav _ _ _ _).mono ?_;rintro e w' ⟨rfl,rfl⟩))
    go_ret
    exact ⟨by rw[HF.out];rfl,Zq0,Zq5⟩
  ·have e2:word.toList.isEmpty=false:=by rw[List.isEmpty_eq_false_iff];exact hw
   have HWE:=hD hw
   clear hw
   have HF:=hD (ycq (k:=5) (word:=word) (args:=args) (count:=count) (nb:=nb) (rs:=rs) (by rw[←HM.out];simp [ya4,yar,ya2,hasB,inB,HWE.out]))
   clear hm0 HEL
   go_enter Tryz.func43,Tryz.ntmps43
   go_wp2_with (first|(go_at_call 102;refine(ya8 _ _ (by exact HGN.out)).mono ?_;rintro e w' ⟨rfl,rfl⟩)|(go_at_call 101;refine(ya5 _ _).mono ?_;rintro e w' ⟨rfl,rfl⟩)|(go_at_call 103;refine(yba _ _).mono ?_;rintro e w' ⟨rfl,rfl⟩)|(go_at_call 44;refine(yav _ _ _ _).mono ?_;rintro e w' ⟨rfl,rfl⟩))
   go_ret
   exact ⟨by rw[HF.out];rfl,Zq0,Zq5⟩
 ·have e1:((m:Int) != 1)=true:=by rw[bne_iff_ne];omega
  have HF:=hD (ycq (k:=5) (word:=word) (args:=args) (count:=count) (nb:=nb) (rs:=rs) (by rw[←HM.out];simp [ya4,yar,ya2,hasB,inB,hm]))
  clear hm0 HEL
  go_enter Tryz.func43,Tryz.ntmps43
  go_wp2_with (first|(go_at_call 102;refine(ya8 _ _ (by exact HGN.out)).mono ?_;rintro e w' ⟨rfl,rfl⟩)|(go_at_call 101;refine(ya5 _ _).mono ?_;rintro e w' ⟨rfl,rfl⟩)|(go_at_call 103;refine(yba _ _).mono ?_;rintro e w' ⟨rfl,rfl⟩)|(go_at_call 44;refine(yav _ _ _ _).mono ?_;rintro e w' ⟨rfl,rfl⟩))
  go_ret
  exact ⟨by rw[HF.out];rfl,Zq0,Zq5⟩
theorem ypi (word:ByteArray) (args:List ByteArray) (count:Int) (Aa:Option Addr) (ca:Nat) (Ab:Option Addr) (nb cb:Nat) (w:World) (rs:List Bool) (hra:Rd w 1 Aa args.length (strs args)) (hG:GN w) (hz:szS args≤1048576) (hl:args.length≤1048576) (hn:nb≤1048576) (hrs:rs.length=nb) (hel:Elts 43 w Ab nb rs) :
  Calls Tryz.prog 43 #[.agg #[.int .i64 6,.string word,.slice Aa args.length ca,.int .i64 count,.slice Ab nb cb]] w fun e w'=>e=.returned (.bool (vRes 6 word args count nb rs))∧Below w.heap.size w w'∧w.heap.size≤w'.heap.size:=by
 have bx:Below w.heap.size w (w.alloc (.cells #[.int .i64 6,.string word,.slice Aa args.length ca,.int .i64 count,.slice Ab nb cb] 66)):=Zq0
 have hra':=hra.below bx
 have hG':=hG.below bx
 obtain ⟨m,hm0⟩:∃ m,m=args.length:=⟨_,rfl⟩
 rw[←hm0] at hl hra' hG' ⊢
 have HM:=hD hm0
 have HRA:=hD hra'
 have HGN:=hD hG'
 have HEL:=hD hel
 have HRS:=hD hrs
 clear hra hG hrs hel bx hra' hG'
 have hB:hasB 6=false:=rfl
 by_cases hm:m=2
 ·subst hm
  by_cases hw:word.toList=[]
  ·have e2:word.toList.isEmpty=true:=by rw[hw];rfl
   have HWE:=hD hw
   clear hw
   by_cases hb:nb=0
   ·have e3:decide (0<(nb:Int))=false:=by simp;omega
    have e3n:decide (0<nb)=false:=by simp;omega
    have HNB:=hD hb
    clear hb
    by_cases hc:count=0
    ·subst hc
     have HH:=hD (show ya4 6 word args.length 0 nb=true by rw[←HM.out];simp [ya4,yar,ya2,hasB,inB,HWE.out,HNB.out])
     clear hm0
     go_enter Tryz.func43,Tryz.ntmps43
     go_wp2_with (first|(go_at_call 102;refine(ya8 _ _ (by exact HGN.out)).mono ?_;rintro e w' ⟨rfl,rfl⟩)|(go_at_call 101;refine(ya5 _ _).mono ?_;rintro e w' ⟨rfl,rfl⟩)|(go_at_call 103;refine(yba _ _).mono ?_;rintro e w' ⟨rfl,rfl⟩)|(go_at_call 44;refine(yav _ _ _ _).mono ?_;rintro e w' ⟨rfl,rfl⟩))
     go_loop [76] (fun i=>∃ t:Nat,t≤2∧i=.int .i64 t∧(args.take t).all ya9=true) (fun i=>2 - (intOf i).toNat)
     case atStart=>exact ⟨0,Nat.zero_le _,rfl,rfl⟩
     case round =>
      obtain ⟨t,ht,rfl,hok⟩:=hrel
      have HOK:=hD hok
      clear hok
      by_cases hlt:t<2
      ·have htl:t<args.length:=by have:=HM.out;omega
       obtain ⟨s,hs⟩:∃ s,args[t]?=some s:=⟨_,List.getElem?_eq_getElem htl⟩
       obtain ⟨b,off,rfl,_,hc⟩:=HRA.out.2 Zq6
       have q0:=hc t _ (ybr hs)
       have hsz:=yei hs
       have HS:=hD hs
       have hs63:s.size≤9223372036854775807:=by omega
       clear hc hs htl hsz
       cases hw:ya9 s
       ·have HF:=hD (yia (k:=6) (word:=word) (count:=0) (nb:=nb) (rs:=rs) HS.out hw)
        go_wp2_with (go_at_call 42;refine(ybk _ _ hs63).mono ?_;rintro e w' ⟨rfl,rfl⟩)
        go_ret
        exact ⟨by rw[HF.out];rfl,Zq0,Zq5⟩
       ·have HN:=hD (show(args.take (t+1)).all ya9=true by rw[ycg _ HS.out,HOK.out,hw];rfl)
        go_wp2_with (go_at_call 42;refine(ybk _ _ hs63).mono ?_;rintro e w' ⟨rfl,rfl⟩)
        go_round
        case rel=>exact ⟨t+1,by omega,by go_num,HN.out⟩
        case measure=>simp [intOf];omega
      ·have HAL:Hid (args.all ya9=true):=by
        have h:=HOK.out
        rw[List.take_of_length_le (by have:=HM.out;omega)] at h
        exact h
       obtain ⟨w0,hw0⟩:∃ w0,w0=w.alloc (.cells #[.int .i64 6,.string word,.slice Aa 2 ca,.int .i64 0,.slice Ab nb cb] 66):=⟨_,rfl⟩
       have b0:Below w.heap.size w w0:=by rw[hw0];exact Zq0
       have s0:w.heap.size≤w0.heap.size:=b0.size
       go_wp2_with fail
       rw[←hw0]
       have B0:=hD b0
       clear hw0 b0
       go_loopw [87] (fun i wr=>∃ t:Nat,t≤nb∧i=.int .i64 t∧(rs.take t).all id=true∧Below w0.heap.size w0 wr) (fun i _=>nb - (intOf i).toNat)
       case atStart=>exact ⟨0,Nat.zero_le _,rfl,rfl,Below.refl _ _⟩
       case round =>
        obtain ⟨t,ht,rfl,hok,hb⟩:=hrel
        have HOK2:=hD hok
        have hbs:=hb.size
        clear hok
        by_cases hlt:t<nb
        ·obtain ⟨b,off,k',wd',Aa',na',ca',ct',Ab',nb',cb',r,rfl,hbl,⟨q0,q1,q2,q3,q4⟩,hr,hcall⟩:=HEL.out t hlt
         have hbw:=(B0.out.trans (hb.mono s0))
         rw[←hbw.cell (p:=⟨b,_,none⟩) hbl] at q0 q1 q2 q3 q4
         have HC:=hD (hcall _ ((hbw.alloc Zq6 (.cells #[.int .i64 k',.string wd',.slice Aa' na' ca',.int .i64 ct',.slice Ab' nb' cb'] 66))))
         have HR:=hD hr
         clear hcall hr hbl hbw
         cases r
         ·have HF:=hD (ygj (k:=6) (word:=word) (args:=args) (count:=0) (nb:=nb) (rs:=rs) HR.out)
          go_wp2_with fail
          refine HC.out.mono ?_
          rintro e w2 ⟨rfl,hb2,hs2⟩
          go_wp2_with fail
          go_ret
          exact ⟨by rw[HF.out];rfl,(B0.out.trans (hb.mono s0)).trans (((Below.refl _ _).alloc (Nat.le_refl _) _).trans (hb2.mono Zq11) |>.mono Zq6),by have:=hs2;simp at this;omega⟩
         ·have HN:=hD (show(rs.take (t+1)).all id=true by rw[ycg _ HR.out,HOK2.out];rfl)
          go_wp2_with fail
          refine HC.out.mono ?_
          rintro e w2 ⟨rfl,hb2,hs2⟩
          go_wp2_with fail
          go_roundw
          case rel=>exact ⟨t+1,by omega,by go_num,HN.out,hb.trans (((Below.refl _ _).alloc (Nat.le_refl _) _).trans (hb2.mono Zq11) |>.mono Zq6)⟩
          case measure=>simp [intOf];omega
        ·have HRL:Hid (rs.all id=true):=by
          have h:=HOK2.out
          rw[List.take_of_length_le (by have:=HRS.out;omega)] at h
          exact h
         have HF:=hD (ygk HH.out HAL.out HRL.out)
         go_wp2_with fail
         go_ret
         exact ⟨by rw[HF.out];rfl,B0.out.trans (hb.mono s0),by omega⟩
    ·have e4:(count != 0)=true:=by rw[bne_iff_ne];exact hc
     have HF:=hD (ycq (k:=6) (word:=word) (args:=args) (count:=count) (nb:=nb) (rs:=rs) (by rw[←HM.out];simp [ya4,yar,ya2,hasB,inB,HWE.out,HNB.out,hc]))
     clear hm0 HEL
     go_enter Tryz.func43,Tryz.ntmps43
     go_wp2_with (first|(go_at_call 102;refine(ya8 _ _ (by exact HGN.out)).mono ?_;rintro e w' ⟨rfl,rfl⟩)|(go_at_call 101;refine(ya5 _ _).mono ?_;rintro e w' ⟨rfl,rfl⟩)|(go_at_call 103;refine(yba _ _).mono ?_;rintro e w' ⟨rfl,rfl⟩)|(go_at_call 44;refine(yav _ _ _ _).mono ?_;rintro e w' ⟨rfl,rfl⟩))
     go_ret
     exact ⟨by rw[HF.out];rfl,Zq0,Zq5⟩
   ·have e3:decide (0<(nb:Int))=true:=by simp;omega
    have e3n:decide (0<nb)=true:=by simp;omega
    have HNB:=hD hb
    clear hb
    have HF:=hD (ycq (k:=6) (word:=word) (args:=args) (count:=count) (nb:=nb) (rs:=rs) (by rw[←HM.out];simp [ya4,yar,ya2,hasB,inB,HWE.out,HNB.out]))
    clear hm0 HEL
    go_enter Tryz.func43,Tryz.ntmps43
    go_wp2_with (first|(go_at_call 102;refine(ya8 _ _ (by exact HGN.out)).mono ?_;rintro e w' ⟨rfl,rfl⟩)|(go_at_call 101;refine(ya5 _ _).mono ?_;rintro e w' ⟨rfl,rfl⟩)|(go_at_call 103;refine(yba _ _).mono ?_;rintro e w' ⟨rfl,rfl⟩)|(go_at_call 44;refine(yav _ _ _ _).mono ?_;rintro e w' ⟨rfl,rfl⟩))
    go_ret
    exact ⟨by rw[HF.out];rfl,Zq0,Zq5⟩
  ·have e2:word.toList.isEmpty=false:=by rw[List.isEmpty_eq_false_iff];exact hw
   have HWE:=hD hw
   clear hw
   have HF:=hD (ycq (k:=6) (word:=word) (args:=args) (count:=count) (nb:=nb) (rs:=rs) (by rw[←HM.out];simp [ya4,yar,ya2,hasB,inB,HWE.out]))
   clear hm0 HEL
   go_enter Tryz.func43,Tryz.ntmps43
   go_wp2_with (first|(go_at_call 102;refine(ya8 _ _ (by exact HGN.out)).mono ?_;rintro e w' ⟨rfl,rfl⟩)|(go_at_call 101;refine(ya5 _ _).mono ?_;rintro e w' ⟨rfl,rfl⟩)|(go_at_call 103;refine(yba _ _).mono ?_;rintro e w' ⟨rfl,rfl⟩)|(go_at_call 44;refine(yav _ _ _ _).mono ?_;rintro e w' ⟨rfl,rfl⟩))
   go_ret
   exact ⟨by rw[HF.out];rfl,Zq0,Zq5⟩
 ·have e1:((m:Int) != 2)=true:=by rw[bne_iff_ne];omega
  have HF:=hD (ycq (k:=6) (word:=word) (args:=args) (count:=count) (nb:=nb) (rs:=rs) (by rw[←HM.out];simp [ya4,yar,ya2,hasB,inB,hm]))
  clear hm0 HEL
  go_enter Tryz.func43,Tryz.ntmps43
  go_wp2_with (first|(go_at_call 102;refine(ya8 _ _ (by exact HGN.out)).mono ?_;rintro e w' ⟨rfl,rfl⟩)|(go_at_call 101;refine(ya5 _ _).mono ?_;rintro e w' ⟨rfl,rfl⟩)|(go_at_call 103;refine(yba _ _).mono ?_;rintro e w' ⟨rfl,rfl⟩)|(go_at_call 44;refine(yav _ _ _ _).mono ?_;rintro e w' ⟨rfl,rfl⟩))
  go_ret
  exact ⟨by rw[HF.out];rfl,Zq0,Zq5⟩
theorem ypj (word:ByteArray) (args:List ByteArray) (count:Int) (Aa:Option Addr) (ca:Nat) (Ab:Option Addr) (nb cb:Nat) (w:World) (rs:List Bool) (hra:Rd w 1 Aa args.length (strs args)) (hG:GN w) (hz:szS args≤1048576) (hl:args.length≤1048576) (hn:nb≤1048576) (hrs:rs.length=nb) (hel:Elts 43 w Ab nb rs) :
  Calls Tryz.prog 43 #[.agg #[.int .i64 7,.string word,.slice Aa args.length ca,.int .i64 count,.slice Ab nb cb]] w fun e w'=>e=.returned (.bool (vRes 7 word args count nb rs))∧Below w.heap.size w w'∧w.heap.size≤w'.heap.size:=by
 have bx:Below w.heap.size w (w.alloc (.cells #[.int .i64 7,.string word,.slice Aa args.length ca,.int .i64 count,.slice Ab nb cb] 66)):=Zq0
 have hra':=hra.below bx
 have hG':=hG.below bx
 obtain ⟨m,hm0⟩:∃ m,m=args.length:=⟨_,rfl⟩
 rw[←hm0] at hl hra' hG' ⊢
 have HM:=hD hm0
 have HRA:=hD hra'
 have HGN:=hD hG'
 have HEL:=hD hel
 have HRS:=hD hrs
 clear hra hG hrs hel bx hra' hG'
 have hB:hasB 7=true:=rfl
 by_cases hm:m=1
 ·subst hm
  by_cases hw:word.toList=[]
  ·have e2:word.toList.isEmpty=true:=by rw[hw];rfl
   have HWE:=hD hw
   clear hw
   by_cases hc:count=0
   ·subst hc
    have HH:=hD (show ya4 7 word args.length 0 nb=true by rw[←HM.out];simp [ya4,yar,ya2,hasB,inB,HWE.out])
    clear hm0
    go_enter Tryz.func43,Tryz.ntmps43
    go_wp2_with (first|(go_at_call 102;refine(ya8 _ _ (by exact HGN.out)).mono ?_;rintro e w' ⟨rfl,rfl⟩)|(go_at_call 101;refine(ya5 _ _).mono ?_;rintro e w' ⟨rfl,rfl⟩)|(go_at_call 103;refine(yba _ _).mono ?_;rintro e w' ⟨rfl,rfl⟩)|(go_at_call 44;refine(yav _ _ _ _).mono ?_;rintro e w' ⟨rfl,rfl⟩))
    go_loop [76] (fun i=>∃ t:Nat,t≤1∧i=.int .i64 t∧(args.take t).all ya9=true) (fun i=>1 - (intOf i).toNat)
    case atStart=>exact ⟨0,Nat.zero_le _,rfl,rfl⟩
    case round =>
     obtain ⟨t,ht,rfl,hok⟩:=hrel
     have HOK:=hD hok
     clear hok
     by_cases hlt:t<1
     ·have htl:t<args.length:=by have:=HM.out;omega
      obtain ⟨s,hs⟩:∃ s,args[t]?=some s:=⟨_,List.getElem?_eq_getElem htl⟩
      obtain ⟨b,off,rfl,_,hc⟩:=HRA.out.2 Zq6
      have q0:=hc t _ (ybr hs)
      have hsz:=yei hs
      have HS:=hD hs
      have hs63:s.size≤9223372036854775807:=by omega
      clear hc hs htl hsz
      cases hw:ya9 s
      ·have HF:=hD (yia (k:=7) (word:=word) (count:=0) (nb:=nb) (rs:=rs) HS.out hw)
       go_wp2_with (go_at_call 42;refine(ybk _ _ hs63).mono ?_;rintro e w' ⟨rfl,rfl⟩)
       go_ret
       exact ⟨by rw[HF.out];rfl,Zq0,Zq5⟩
      ·have HN:=hD (show(args.take (t+1)).all ya9=true by rw[ycg _ HS.out,HOK.out,hw];rfl)
       go_wp2_with (go_at_call 42;refine(ybk _ _ hs63).mono ?_;rintro e w' ⟨rfl,rfl⟩)
       go_round
       case rel=>exact ⟨t+1,by omega,by go_num,HN.out⟩
       case measure=>simp [intOf];omega
     ·have HAL:Hid (args.all ya9=true):=by
       have h:=HOK.out
       rw[List.take_of_length_le (by have:=HM.out;omega)] at h
       exact h
      obtain ⟨w0,hw0⟩:∃ w0,w0=w.alloc (.cells #[.int .i64 7,.string word,.slice Aa 1 ca,.int .i64 0,.slice Ab nb cb] 66):=⟨_,rfl⟩
      have b0:Below w.heap.size w w0:=by rw[hw0];exact Zq0
      have s0:w.heap.size≤w0.heap.size:=b0.size
      go_wp2_with fail
      rw[←hw0]
      have B0:=hD b0
      clear hw0 b0
      go_loopw [87] (fun i wr=>∃ t:Nat,t≤nb∧i=.int .i64 t∧(rs.take t).all id=true∧Below w0.heap.size w0 wr) (fun i _=>nb - (intOf i).toNat)
      case atStart=>exact ⟨0,Nat.zero_le _,rfl,rfl,Below.refl _ _⟩
      case round =>
       obtain ⟨t,ht,rfl,hok,hb⟩:=hrel
       have HOK2:=hD hok
       have hbs:=hb.size
       clear hok
       by_cases hlt:t<nb
       ·obtain ⟨b,off,k',wd',Aa',na',ca',ct',Ab',nb',cb',r,rfl,hbl,⟨q0,q1,q2,q3,q4⟩,hr,hcall⟩:=HEL.out t hlt
        have hbw:=(B0.out.trans (hb.mono s0))
        rw[←hbw.cell (p:=⟨b,_,none⟩) hbl] at q0 q1 q2 q3 q4
        have HC:=hD (hcall _ ((hbw.alloc Zq6 (.cells #[.int .i64 k',.string wd',.slice Aa' na' ca',.int .i64 ct',.slice Ab' nb' cb'] 66))))
        have HR:=hD hr
        clear hcall hr hbl hbw
        cases r
        ·have HF:=hD (ygj (k:=7) (word:=word) (args:=args) (count:=0) (nb:=nb) (rs:=rs) HR.out)
         go_wp2_with fail
         refine HC.out.mono ?_
         rintro e w2 ⟨rfl,hb2,hs2⟩
         go_wp2_with fail
         go_ret
         exact ⟨by rw[HF.out];rfl,(B0.out.trans (hb.mono s0)).trans (((Below.refl _ _).alloc (Nat.le_refl _) _).trans (hb2.mono Zq11) |>.mono Zq6),by have:=hs2;simp at this;omega⟩
        ·have HN:=hD (show(rs.take (t+1)).all id=true by rw[ycg _ HR.out,HOK2.out];rfl)
         go_wp2_with fail
         refine HC.out.mono ?_
         rintro e w2 ⟨rfl,hb2,hs2⟩
         go_wp2_with fail
         go_roundw
         case rel=>exact ⟨t+1,by omega,by go_num,HN.out,hb.trans (((Below.refl _ _).alloc (Nat.le_refl _) _).trans (hb2.mono Zq11) |>.mono Zq6)⟩
         case measure=>simp [intOf];omega
       ·have HRL:Hid (rs.all id=true):=by
         have h:=HOK2.out
         rw[List.take_of_length_le (by have:=HRS.out;omega)] at h
         exact h
        have HF:=hD (ygk HH.out HAL.out HRL.out)
        go_wp2_with fail
        go_ret
        exact ⟨by rw[HF.out];rfl,B0.out.trans (hb.mono s0),by omega⟩
   ·have e4:(count != 0)=true:=by rw[bne_iff_ne];exact hc
    have HF:=hD (ycq (k:=7) (word:=word) (args:=args) (count:=count) (nb:=nb) (rs:=rs) (by rw[←HM.out];simp [ya4,yar,ya2,hasB,inB,HWE.out,hc]))
    clear hm0 HEL
    go_enter Tryz.func43,Tryz.ntmps43
    go_wp2_with (first|(go_at_call 102;refine(ya8 _ _ (by exact HGN.out)).mono ?_;rintro e w' ⟨rfl,rfl⟩)|(go_at_call 101;refine(ya5 _ _).mono ?_;rintro e w' ⟨rfl,rfl⟩)|(go_at_call 103;refine(yba _ _).mono ?_;rintro e w' ⟨rfl,rfl⟩)|(go_at_call 44;refine(yav _ _ _ _).mono ?_;rintro e w' ⟨rfl,rfl⟩))
    go_ret
    exact ⟨by rw[HF.out];rfl,Zq0,Zq5⟩
  ·have e2:word.toList.isEmpty=false:=by rw[List.isEmpty_eq_false_iff];exact hw
   have HWE:=hD hw
   clear hw
   have HF:=hD (ycq (k:=7) (word:=word) (args:=args) (count:=count) (nb:=nb) (rs:=rs) (by rw[←HM.out];simp [ya4,yar,ya2,hasB,inB,HWE.out]))
   clear hm0 HEL
   go_enter Tryz.func43,Tryz.ntmps43
   go_wp2_with (first|(go_at_call 102;refine(ya8 _ _ (by exact HGN.out)).mono ?_;rintro e w' ⟨rfl,rfl⟩)|(go_at_call 101;refine(ya5 _ _).mono ?_;rintro e w' ⟨rfl,rfl⟩)|(go_at_call 103;refine(yba _ _).mono ?_;rintro e w' ⟨rfl,rfl⟩)|(go_at_call 44;refine(yav _ _ _ _).mono ?_;rintro e w' ⟨rfl,rfl⟩))
   go_ret
   exact ⟨by rw[HF.out];rfl,Zq0,Zq5⟩
 ·have e1:((m:Int) != 1)=true:=by rw[bne_iff_ne];omega
  have HF:=hD (ycq (k:=7) (word:=word) (args:=args) (count:=count) (nb:=nb) (rs:=rs) (by rw[←HM.out];simp [ya4,yar,ya2,hasB,inB,hm]))
  clear hm0 HEL
  go_enter Tryz.func43,Tryz.ntmps43
  go_wp2_with (first|(go_at_call 102;refine(ya8 _ _ (by exact HGN.out)).mono ?_;rintro e w' ⟨rfl,rfl⟩)|(go_at_call 101;refine(ya5 _ _).mono ?_;rintro e w' ⟨rfl,rfl⟩)|(go_at_call 103;refine(yba _ _).mono ?_;rintro e w' ⟨rfl,rfl⟩)|(go_at_call 44;refine(yav _ _ _ _).mono ?_;rintro e w' ⟨rfl,rfl⟩))
  go_ret
  exact ⟨by rw[HF.out];rfl,Zq0,Zq5⟩
end Go.Proofs.YthkbckkghnbonaaGreatDoor
