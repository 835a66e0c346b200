/- What the calls that this law reaches answer, part 2 of 16. -/
import Derived.Test.YthkbckkghnbonaaGreatDoorJElaborate1
import Derived.Test.YthkbckkghnbonaaGreatDoorTie
import Derived.Test.YthkbckkghnbonaaGreatDoorCards
import Derived.LaidMore
import Derived.LaidLaws
import Derived.MakeChecks
import Derived.ChangeVars
import Derived.SliceStrings
import Derived.SevenTiedAt
import Derived.Stop.Joined
set_option maxRecDepth 100000
set_option maxHeartbeats 16000000
set_option linter.unusedVariables false
namespace Go.Proofs.YthkbckkghnbonaaGreatDoor
open Go.RowKit

def ar (k:Int):Nat:=if inB k 1 8 then 1 else if inB k 9 11 then 2 else if k=12 then 3 else 0
theorem ar_le (k:Int):ar k≤3:=by
 unfold ar
 split
 ·omega
 ·split
  ·omega
  ·split <;> omega
theorem Arity_impl (k:Int) (w:World):Calls Tryz.prog 101 #[.int .i64 k] w fun e w'=>e=.returned (.int .i64 (ar k))∧w=w':=by
 cases h1:inB k 1 8
 ·cases h2:inB k 9 11
  ·by_cases h3:k=12
   ·subst h3
    go_enter Tryz.func101,Tryz.ntmps101
    go_wp2_with (go_at_call 44;refine(in_any _ _ _ _).mono ?_;rintro e w' ⟨rfl,rfl⟩)
    go_ret
    exact ⟨rfl,rfl⟩
   ·have e:ar k=0:=by simp [ar,h1,h2,h3]
    rw[e]
    have h4:(k==12)=false:=beq_eq_false_iff_ne.2 h3
    clear h3 e
    go_enter Tryz.func101,Tryz.ntmps101
    go_wp2_with (go_at_call 44;refine(in_any _ _ _ _).mono ?_;rintro e w' ⟨rfl,rfl⟩)
    go_ret
    exact ⟨rfl,rfl⟩
  ·have e:ar k=2:=by simp [ar,h1,h2]
   rw[e]
   clear e
   go_enter Tryz.func101,Tryz.ntmps101
   go_wp2_with (go_at_call 44;refine(in_any _ _ _ _).mono ?_;rintro e w' ⟨rfl,rfl⟩)
   go_ret
   exact ⟨rfl,rfl⟩
 ·have e:ar k=1:=by simp [ar,h1]
  rw[e]
  clear e
  go_enter Tryz.func101,Tryz.ntmps101
  go_wp2_with (go_at_call 44;refine(in_any _ _ _ _).mono ?_;rintro e w' ⟨rfl,rfl⟩)
  go_ret
  exact ⟨rfl,rfl⟩
theorem Arity_spec (k:Int) (w:World):Calls Tryz.prog 135 #[.int .i64 k] w fun e w'=>e=.returned (.int .i64 (ar k))∧w=w':=by
 cases h1:inB k 1 8
 ·cases h2:inB k 9 11
  ·by_cases h3:k=12
   ·subst h3
    go_enter Tryz.func135,Tryz.ntmps135
    go_wp2_with (go_at_call 47;refine(l1In_any _ _ _ _).mono ?_;rintro e w' ⟨rfl,rfl⟩)
    go_ret
    exact ⟨rfl,rfl⟩
   ·have e:ar k=0:=by simp [ar,h1,h2,h3]
    rw[e]
    have h4:(k==12)=false:=beq_eq_false_iff_ne.2 h3
    clear h3 e
    go_enter Tryz.func135,Tryz.ntmps135
    go_wp2_with (go_at_call 47;refine(l1In_any _ _ _ _).mono ?_;rintro e w' ⟨rfl,rfl⟩)
    go_ret
    exact ⟨rfl,rfl⟩
  ·have e:ar k=2:=by simp [ar,h1,h2]
   rw[e]
   clear e
   go_enter Tryz.func135,Tryz.ntmps135
   go_wp2_with (go_at_call 47;refine(l1In_any _ _ _ _).mono ?_;rintro e w' ⟨rfl,rfl⟩)
   go_ret
   exact ⟨rfl,rfl⟩
 ·have e:ar k=1:=by simp [ar,h1]
  rw[e]
  clear e
  go_enter Tryz.func135,Tryz.ntmps135
  go_wp2_with (go_at_call 47;refine(l1In_any _ _ _ _).mono ?_;rintro e w' ⟨rfl,rfl⟩)
  go_ret
  exact ⟨rfl,rfl⟩

def qsOf (g:Gt):List Int:=[g.a,g.b,g.c]
def vstep (m:Nat) (n:Int) (qs:List Int) (t:Nat):Bool:=if m≤t then qs.getD t 0==0 else inB (qs.getD t 0) 0 (n - 1)&&!(qs.take t).contains (qs.getD t 0)
def vupto (m:Nat) (n:Int) (qs:List Int):Nat→Bool
 | 0=>true
 | t+1=>vupto m n qs t&&vstep m n qs t
def validG (g:Gt) (n:Int):Bool:=(inB n 1 4&&decide (ar g.k≠0))&&vupto (ar g.k) n (qsOf g) 3
theorem vupto_f {m:Nat} {n:Int} {qs:List Int} {t:Nat} (h:vstep m n qs t=false) (h3:t<3):vupto m n qs 3=false:=by
 match t,h3 with
 | 0,_=>simp [vupto,h]
 | 1,_=>simp [vupto,h]
 | 2,_=>simp [vupto,h]
 | _+3,h=>omega
theorem validG_n {g:Gt} {n:Int} (h:inB n 1 4=false):validG g n=false:=by simp [validG,h]
theorem validG_k {g:Gt} {n:Int} (h:ar g.k=0):validG g n=false:=by simp [validG,h]
theorem validG_f {g:Gt} {n:Int} {t:Nat} (h:vstep (ar g.k) n (qsOf g) t=false) (h3:t<3):validG g n=false:=by simp [validG,vupto_f h h3]
theorem validG_t {g:Gt} {n:Int} (h:inB n 1 4=true) (hk:ar g.k≠0) (h3:vupto (ar g.k) n (qsOf g) 3=true):validG g n=true:=by simp [validG,h,hk,h3]
theorem vstep_hi_t {m:Nat} {n:Int} {qs:List Int} {t:Nat} (h:m≤t) (hq:(qs.getD t 0==0)=true):vstep m n qs t=true:=by simpa [vstep,h] using hq
theorem vstep_hi_f {m:Nat} {n:Int} {qs:List Int} {t:Nat} (h:m≤t) (hq:(qs.getD t 0==0)=false):vstep m n qs t=false:=by simpa [vstep,h] using hq
theorem vstep_in_f {m:Nat} {n:Int} {qs:List Int} {t:Nat} (h:t<m) (hq:inB (qs.getD t 0) 0 (n - 1)=false):vstep m n qs t=false:=by rw[vstep,if_neg Zq6,hq];rfl
theorem vstep_seen_f {m:Nat} {n:Int} {qs:List Int} {t:Nat} (h:t<m) (hq:(qs.take t).contains (qs.getD t 0)=true):vstep m n qs t=false:=by rw[vstep,if_neg Zq6,hq];simp
theorem vstep_lo_t {m:Nat} {n:Int} {qs:List Int} {t:Nat} (h:t<m) (h1:inB (qs.getD t 0) 0 (n - 1)=true) (h2:(qs.take t).contains (qs.getD t 0)=false):vstep m n qs t=true:=by rw[vstep,if_neg Zq6,h1,h2];rfl
theorem take_snoc {qs:List Int} {t:Nat} (h:t<qs.length):qs.take t++[qs.getD t 0]=qs.take (t+1):=by
 rw[List.take_succ_eq_append_getElem h,List.getD_eq_getElem?_getD,List.getElem?_eq_getElem h];rfl

theorem zero_bool (w:World):(zeroValue 4).run Tryz.prog w=.ok (.bool false) w:=by kernel_rfl
theorem IsValidGate_impl (k a b c n:Int) (w:World):Calls Tryz.prog 126 #[.agg #[.int .i64 k,.int .i64 a,.int .i64 b,.int .i64 c],.int .i64 n] w fun e w' =>
  e=.returned (.bool (validG ⟨k,a,b,c⟩ n))∧Below w.heap.size w w'∧w.heap.size≤w'.heap.size:=by
 have har:=ar_le k
 cases hn:inB n 1 4
 ·rw[validG_n hn]
  go_enter Tryz.func126,Tryz.ntmps126
  go_wp2_with (first|(go_at_call 44;refine(in_any _ _ _ _).mono ?_;rintro e w' ⟨rfl,rfl⟩)|(go_at_call 101;refine(Arity_impl _ _).mono ?_;rintro e w' ⟨rfl,rfl⟩))
  go_ret
  exact ⟨rfl,Zq0,Zq5⟩
 by_cases hk:ar k=0
 ·rw[validG_k hk]
  go_enter Tryz.func126,Tryz.ntmps126
  go_wp2_with (first|(go_at_call 44;refine(in_any _ _ _ _).mono ?_;rintro e w' ⟨rfl,rfl⟩)|(go_at_call 101;refine(Arity_impl _ _).mono ?_;rintro e w' ⟨rfl,rfl⟩))
  go_ret
  exact ⟨rfl,Zq0,Zq5⟩
 have hk':((ar k:Int)==0)=false:=by simpa using hk
 have hnn:=inB_iff.1 hn
 have HK:=hD hk
 clear hk
 have hmm:=@run_makeMap Tryz.prog
 go_enter Tryz.func126,Tryz.ntmps126
 go_wp2_with (first|(go_at_call 44;refine(in_any _ _ _ _).mono ?_;rintro e w' ⟨rfl,rfl⟩)|(go_at_call 101;refine(Arity_impl _ _).mono ?_;rintro e w' ⟨rfl,rfl⟩))
 obtain ⟨w0,hw0⟩:∃ w0,w0=((w.alloc (.cells #[.int .i64 k,.int .i64 a,.int .i64 b,.int .i64 c] 102)).alloc (.cells #[.int .i64 a,.int .i64 b,.int .i64 c] 3)).alloc (.map #[] 0):=⟨_,rfl⟩
 rw[←hw0]
 have x0:w0.heap[w.heap.size]?=some (.cells #[.int .i64 k,.int .i64 a,.int .i64 b,.int .i64 c] 102 (0,0)):=by rw[hw0];exact boxed3_0 _ _ _ _
 have x1:w0.heap[w.heap.size+1]?=some (.cells #[.int .i64 a,.int .i64 b,.int .i64 c] 3 (0,0)):=by rw[hw0];exact boxed3_1 _ _ _ _
 have x2:SeenMap w0 (w.heap.size+2) []:=by rw[hw0];exact ⟨#[],0,boxed3_2 _ _ _ _,rfl⟩
 have b0:Below w.heap.size w w0:=by rw[hw0];exact Zq0
 have s0:w.heap.size+3=w0.heap.size:=by rw[hw0];simp
 have X0:=hD x0
 have X1:=hD x1
 have S0:=hD s0
 clear x0 x1 s0 hw0 hmm
 go_loopw [28] (fun i wr=>∃ t:Nat,t≤3∧i=.int .i64 t∧vupto (ar k) n [a,b,c] t=true∧SeenMap wr (w.heap.size+2) ([a,b,c].take (min t (ar k)))∧Below (w.heap.size+2) w0 wr) (fun i _=>3 - (intOf i).toNat)
 case atStart=>exact ⟨0,by omega,rfl,rfl,by simpa using x2,Below.refl _ _⟩
 case round =>
  obtain ⟨t,ht,rfl,hv,hseen,hbel⟩:=hrel
  have HV:=hD hv
  clear hv x2
  have k0:wr.cell? ⟨w.heap.size,0,none⟩=some (.int .i64 k):=(hbel.cell Zq11).trans (cell_at X0.out rfl)
  by_cases hlt:t<3
  ·obtain ⟨q,hq⟩:∃ q,q=[a,b,c].getD t 0:=⟨_,rfl⟩
   have q0:wr.cell? ⟨w.heap.size+1,t,none⟩=some (.int .i64 q):=(hbel.cell Zq11).trans (cell_at X1.out (by
    rw[hq]
    match t,hlt with
    | 0,_=>rfl
    | 1,_=>rfl
    | 2,_=>rfl
    | _+3,h=>omega))
   have HQ:=hD hq
   clear hq
   by_cases hmt:ar k≤t
   ·cases hz:(q==0)
    ·have hz':(q != 0)=true:=by rw[bne,hz];rfl
     have HF:=hD (validG_f (g:=⟨k,a,b,c⟩) (n:=n) (t:=t) (vstep_hi_f hmt (by rw[←hz,HQ.out];rfl)) hlt)
     go_wp2_with (first|(go_at_call 44;refine(in_any _ _ _ _).mono ?_;rintro e w' ⟨rfl,rfl⟩)|(go_at_call 101;refine(Arity_impl _ _).mono ?_;rintro e w' ⟨rfl,rfl⟩))
     go_ret
     exact ⟨by rw[HF.out];rfl,b0.trans (hbel.mono Zq6),by have:=hbel.size;have:=S0.out;omega⟩
    ·have hz':(q != 0)=false:=by rw[bne,hz];rfl
     go_wp2_with (first|(go_at_call 44;refine(in_any _ _ _ _).mono ?_;rintro e w' ⟨rfl,rfl⟩)|(go_at_call 101;refine(Arity_impl _ _).mono ?_;rintro e w' ⟨rfl,rfl⟩))
     go_roundw
     case rel=>exact ⟨t+1,by omega,by go_num,by simp [vupto,HV.out];exact vstep_hi_t hmt (by rw[←hz,HQ.out]),by rw[show min (t+1) (ar k)=min t (ar k) from by omega];exact hseen,hbel⟩
     case measure=>simp [intOf];omega
   ·have hmt':t<ar k:=by omega
    have hmin:min t (ar k)=t:=by omega
    rw[hmin] at hseen
    have hlook:=seen_lookup (q:=q) Tryz.underlying177 Tryz.underlying3 (zero_bool wr) hseen
    cases h1:inB q 0 (n - 1)
    ·have HF:=hD (validG_f (g:=⟨k,a,b,c⟩) (n:=n) (t:=t) (vstep_in_f hmt' (by rw[←h1,HQ.out];rfl)) hlt)
     clear hmt hmin
     go_wp2_with (first|(go_at_call 44;refine(in_any _ _ _ _).mono ?_;rintro e w' ⟨rfl,rfl⟩)|(go_at_call 101;refine(Arity_impl _ _).mono ?_;rintro e w' ⟨rfl,rfl⟩))
     go_ret
     exact ⟨by rw[HF.out];rfl,b0.trans (hbel.mono Zq6),by have:=hbel.size;have:=S0.out;omega⟩
    ·cases h2:([a,b,c].take t).contains q
     ·obtain ⟨w2,hupd,hseen2,hgr⟩:=seen_update Tryz.underlying177 Tryz.underlying3 hseen h2
      have HT:=hD hseen2
      rw[h2] at hlook
      have HV2:=hD (vstep_lo_t (n:=n) (qs:=[a,b,c]) hmt' (by rw[←h1,HQ.out]) (by rw[←h2,HQ.out]))
      have HM:=hD hmin
      clear hmt hmin hseen2 hseen h2
      go_wp2_with (first|(go_at_call 44;refine(in_any _ _ _ _).mono ?_;rintro e w' ⟨rfl,rfl⟩)|(go_at_call 101;refine(Arity_impl _ _).mono ?_;rintro e w' ⟨rfl,rfl⟩))
      go_roundw
      case rel =>
       refine ⟨t+1,by omega,by go_num,by simp [vupto,HV.out,HV2.out],?_,hbel.trans (grown_below hgr (by have:=hbel.size;have:=S0.out;omega) Zq11)⟩
       rw[show min (t+1) (ar k)=t+1 from by omega,←take_snoc (by simpa using hlt),←HQ.out]
       exact HT.out
      case measure=>simp [intOf];omega
     ·have HF:=hD (validG_f (g:=⟨k,a,b,c⟩) (n:=n) (t:=t) (vstep_seen_f hmt' (by rw[←h2,HQ.out];rfl)) hlt)
      rw[h2] at hlook
      clear hmt hmin h2 hseen
      go_wp2_with (first|(go_at_call 44;refine(in_any _ _ _ _).mono ?_;rintro e w' ⟨rfl,rfl⟩)|(go_at_call 101;refine(Arity_impl _ _).mono ?_;rintro e w' ⟨rfl,rfl⟩))
      go_ret
      exact ⟨by rw[HF.out];rfl,b0.trans (hbel.mono Zq6),by have:=hbel.size;have:=S0.out;omega⟩
  ·obtain rfl:t=3:=by omega
   have HF:=hD (validG_t (g:=⟨k,a,b,c⟩) hn HK.out HV.out)
   go_wp2_with (first|(go_at_call 44;refine(in_any _ _ _ _).mono ?_;rintro e w' ⟨rfl,rfl⟩)|(go_at_call 101;refine(Arity_impl _ _).mono ?_;rintro e w' ⟨rfl,rfl⟩))
   go_ret
   exact ⟨by rw[HF.out];rfl,b0.trans (hbel.mono Zq6),by have:=hbel.size;have:=S0.out;omega⟩
theorem ints_at (xs:List Int) (j:Nat) (h:j<xs.length):(xs.map (Value.int .i64))[j]?=some (.int .i64 (xs.getD j 0)):=by
 simp [List.getD_eq_getElem?_getD,h]
theorem contains_snoc_f {xs:List Int} {x:Int} {t:Nat} (h:t<xs.length) (h1:(xs.take t).contains x=false) (h2:(xs.getD t 0==x)=false):(xs.take (t+1)).contains x=false:=by
 rw[←take_snoc h]
 have h2':¬ x=xs.getD t 0:=fun e=>by rw[e] at h2;simp at h2
 rw[List.contains_eq_mem] at h1 ⊢
 simp only[decide_eq_false_iff_not,List.mem_append,List.mem_singleton,not_or] at h1 ⊢
 exact ⟨h1,h2'⟩
theorem contains_at {xs:List Int} {x:Int} {t:Nat} (h:t<xs.length) (h2:(xs.getD t 0==x)=true):xs.contains x=true:=by
 have e:xs.getD t 0=x:=by simpa using h2
 rw[List.contains_eq_mem,decide_eq_true_iff,←e,List.getD_eq_getElem?_getD,List.getElem?_eq_getElem h]
 exact List.getElem_mem h
def hasI (xs:List Int) (x:Int):Bool:=xs.contains x
theorem l1HasInt_any (A:Option Addr) (n c:Nat) (xs:List Int) (x:Int) (w:World) (h:Rd w 1 A n (xs.map (Value.int .i64))) (hl:xs.length=n) (hn:n≤1099511627776) :
  Calls Tryz.prog 172 #[.slice A n c,.int .i64 x] w fun e w'=>e=.returned (.bool (hasI xs x))∧w=w':=by
 have H:=hD h
 have HL:=hD hl
 clear h hl
 go_enter Tryz.func172,Tryz.ntmps172
 go_wp2
 go_loop [5] (fun i=>∃ t:Nat,t≤n∧i=.int .i64 t∧(xs.take t).contains x=false) (fun i=>n - (intOf i).toNat)
 case atStart=>exact ⟨0,Nat.zero_le _,rfl,by simp⟩
 case round =>
  obtain ⟨t,ht,rfl,hno⟩:=hrel
  have HN:=hD hno
  clear hno
  by_cases hlt:t<n
  ·obtain ⟨b,off,rfl,_,hc⟩:=H.out.2 Zq6
   have q0:=hc t _ (ints_at xs t (by rw[HL.out];exact hlt))
   clear hc
   obtain ⟨y,hy⟩:∃ y,y=xs.getD t 0:=⟨_,rfl⟩
   rw[←hy] at q0
   have HY:=hD hy
   clear hy
   cases he:(y==x)
   ·go_wp2
    go_round
    case rel=>exact ⟨t+1,by omega,by go_num,contains_snoc_f (by rw[HL.out];exact hlt) HN.out (by rw[←HY.out];exact he)⟩
    case measure=>simp [intOf];omega
   ·have HF:Hid (hasI xs x=true):=hD (contains_at (by rw[HL.out];exact hlt) (by rw[←HY.out];exact he))
    go_wp2
    go_ret
    exact ⟨by rw[HF.out];rfl,rfl⟩
  ·obtain rfl:t=n:=by omega
   have HF:Hid (hasI xs x=false):=by
    have h:=HN.out
    rw[List.take_of_length_le (by rw[HL.out];exact Nat.le_refl _)] at h
    exact h
   go_wp2
   go_ret
   exact ⟨by rw[HF.out];rfl,rfl⟩
theorem info_int:(Tryz.prog.info? 3).map (fun i=>(i.zero,i.size,i.bytes))=some (some (.int .i64 0),1,8):=by kernel_rfl
theorem GateQubits_spec (k a b c:Int) (w:World):Calls Tryz.prog 171 #[.agg #[.int .i64 k,.int .i64 a,.int .i64 b,.int .i64 c]] w
  (RetRow 3 1 w (ar k) (([a,b,c].take (ar k)).map (Value.int .i64))):=by
 have har:=ar_le k
 obtain ⟨m,hm⟩:∃ m,m=ar k:=⟨_,rfl⟩
 have HM:=hD hm
 rw[←hm] at har ⊢
 clear hm
 obtain ⟨i0,hi,hz0,hz1,hz2⟩:=info_parts info_int
 have hm4:m=0∨m=1∨m=2∨m=3:=by omega
 clear har
 rcases hm4 with rfl|rfl|rfl|rfl
 ·go_enter Tryz.func171,Tryz.ntmps171
  go_wp2_with fail
  refine(Arity_spec _ _).mono ?_
  rintro e w' ⟨rfl,rfl⟩
  rw[←HM.out]
  obtain ⟨w0,hw0⟩:∃ w0,w0=((w.alloc (.cells #[.int .i64 k,.int .i64 a,.int .i64 b,.int .i64 c] 102)).alloc (.cells #[.int .i64 a,.int .i64 b,.int .i64 c] 3)).alloc (.cells #[] 3):=⟨_,rfl⟩
  rw[←hw0]
  have X1:Hid (w0.heap[w.heap.size+1]?=some (.cells #[.int .i64 a,.int .i64 b,.int .i64 c] 3 (0,0))):=by rw[hw0];exact boxed3_1 _ _ _ _
  have hown:w0.ownsRow w.heap.size 3 1 (.slice (some ⟨w.heap.size+2,0,none⟩) 0 0) 0 []:=⟨rfl,.inr ⟨_,0,#[],rfl,by omega,by rw[hw0];exact boxed3_2 _ _ _ _,by decide,by decide,rfl,rfl⟩⟩
  have b0:Below w.heap.size w w0:=by rw[hw0];exact Zq0
  have s0:w.heap.size+3=w0.heap.size:=by rw[hw0];simp
  have S0:=hD s0
  clear s0 hw0
  go_wp2_with (at_builtin;refine wpList_append_own _ rfl _ _ 123 rfl w.heap.size 3 i0 _ 1 8 Tryz.underlying123 hi hz0 hz1 hz2 rfl Zq8 _ _ _ rfl hown ⟨w.heap.size+1,0,none⟩ 0 3 [] rfl rfl ?c1 ?c2 ?c3 ?c4 ?c5 ?_)
  case c1=>exact cells_row X1.out [.int .i64 a,.int .i64 b,.int .i64 c] rfl
  case c2=>exact fun u hu=>List.all_eq_true.1 (by rfl) u hu
  case c3=>decide
  case c4=>decide
  case c5=>have:=S0.out;omega
  intro v' w3 hown' hgrow _
  clear hown
  go_wp2
  go_ret
  exact ⟨v',rfl,hown',b0.grown hgrow (by have:=S0.out;omega) (by intro q hq;simp [Value.ownBlock] at hq;omega),by have:=hgrow.size;have:=S0.out;omega⟩
 ·go_enter Tryz.func171,Tryz.ntmps171
  go_wp2_with fail
  refine(Arity_spec _ _).mono ?_
  rintro e w' ⟨rfl,rfl⟩
  rw[←HM.out]
  obtain ⟨w0,hw0⟩:∃ w0,w0=((w.alloc (.cells #[.int .i64 k,.int .i64 a,.int .i64 b,.int .i64 c] 102)).alloc (.cells #[.int .i64 a,.int .i64 b,.int .i64 c] 3)).alloc (.cells #[] 3):=⟨_,rfl⟩
  rw[←hw0]
  have X1:Hid (w0.heap[w.heap.size+1]?=some (.cells #[.int .i64 a,.int .i64 b,.int .i64 c] 3 (0,0))):=by rw[hw0];exact boxed3_1 _ _ _ _
  have hown:w0.ownsRow w.heap.size 3 1 (.slice (some ⟨w.heap.size+2,0,none⟩) 0 0) 0 []:=⟨rfl,.inr ⟨_,0,#[],rfl,by omega,by rw[hw0];exact boxed3_2 _ _ _ _,by decide,by decide,rfl,rfl⟩⟩
  have b0:Below w.heap.size w w0:=by rw[hw0];exact Zq0
  have s0:w.heap.size+3=w0.heap.size:=by rw[hw0];simp
  have S0:=hD s0
  clear s0 hw0
  go_wp2_with (at_builtin;refine wpList_append_own _ rfl _ _ 123 rfl w.heap.size 3 i0 _ 1 8 Tryz.underlying123 hi hz0 hz1 hz2 rfl Zq8 _ _ _ rfl hown ⟨w.heap.size+1,0,none⟩ 1 3 [.int .i64 a] rfl rfl ?c1 ?c2 ?c3 ?c4 ?c5 ?_)
  case c1=>exact cells_row X1.out [.int .i64 b,.int .i64 c] rfl
  case c2=>exact fun u hu=>List.all_eq_true.1 (by rfl) u hu
  case c3=>decide
  case c4=>decide
  case c5=>have:=S0.out;omega
  intro v' w3 hown' hgrow _
  clear hown
  go_wp2
  go_ret
  exact ⟨v',rfl,hown',b0.grown hgrow (by have:=S0.out;omega) (by intro q hq;simp [Value.ownBlock] at hq;omega),by have:=hgrow.size;have:=S0.out;omega⟩
 ·go_enter Tryz.func171,Tryz.ntmps171
  go_wp2_with fail
  refine(Arity_spec _ _).mono ?_
  rintro e w' ⟨rfl,rfl⟩
  rw[←HM.out]
  obtain ⟨w0,hw0⟩:∃ w0,w0=((w.alloc (.cells #[.int .i64 k,.int .i64 a,.int .i64 b,.int .i64 c] 102)).alloc (.cells #[.int .i64 a,.int .i64 b,.int .i64 c] 3)).alloc (.cells #[] 3):=⟨_,rfl⟩
  rw[←hw0]
  have X1:Hid (w0.heap[w.heap.size+1]?=some (.cells #[.int .i64 a,.int .i64 b,.int .i64 c] 3 (0,0))):=by rw[hw0];exact boxed3_1 _ _ _ _
  have hown:w0.ownsRow w.heap.size 3 1 (.slice (some ⟨w.heap.size+2,0,none⟩) 0 0) 0 []:=⟨rfl,.inr ⟨_,0,#[],rfl,by omega,by rw[hw0];exact boxed3_2 _ _ _ _,by decide,by decide,rfl,rfl⟩⟩
  have b0:Below w.heap.size w w0:=by rw[hw0];exact Zq0
  have s0:w.heap.size+3=w0.heap.size:=by rw[hw0];simp
  have S0:=hD s0
  clear s0 hw0
  go_wp2_with (at_builtin;refine wpList_append_own _ rfl _ _ 123 rfl w.heap.size 3 i0 _ 1 8 Tryz.underlying123 hi hz0 hz1 hz2 rfl Zq8 _ _ _ rfl hown ⟨w.heap.size+1,0,none⟩ 2 3 [.int .i64 a,.int .i64 b] rfl rfl ?c1 ?c2 ?c3 ?c4 ?c5 ?_)
  case c1=>exact cells_row X1.out [.int .i64 c] rfl
  case c2=>exact fun u hu=>List.all_eq_true.1 (by rfl) u hu
  case c3=>decide
  case c4=>decide
  case c5=>have:=S0.out;omega
  intro v' w3 hown' hgrow _
  clear hown
  go_wp2
  go_ret
  exact ⟨v',rfl,hown',b0.grown hgrow (by have:=S0.out;omega) (by intro q hq;simp [Value.ownBlock] at hq;omega),by have:=hgrow.size;have:=S0.out;omega⟩
 ·go_enter Tryz.func171,Tryz.ntmps171
  go_wp2_with fail
  refine(Arity_spec _ _).mono ?_
  rintro e w' ⟨rfl,rfl⟩
  rw[←HM.out]
  obtain ⟨w0,hw0⟩:∃ w0,w0=((w.alloc (.cells #[.int .i64 k,.int .i64 a,.int .i64 b,.int .i64 c] 102)).alloc (.cells #[.int .i64 a,.int .i64 b,.int .i64 c] 3)).alloc (.cells #[] 3):=⟨_,rfl⟩
  rw[←hw0]
  have X1:Hid (w0.heap[w.heap.size+1]?=some (.cells #[.int .i64 a,.int .i64 b,.int .i64 c] 3 (0,0))):=by rw[hw0];exact boxed3_1 _ _ _ _
  have hown:w0.ownsRow w.heap.size 3 1 (.slice (some ⟨w.heap.size+2,0,none⟩) 0 0) 0 []:=⟨rfl,.inr ⟨_,0,#[],rfl,by omega,by rw[hw0];exact boxed3_2 _ _ _ _,by decide,by decide,rfl,rfl⟩⟩
  have b0:Below w.heap.size w w0:=by rw[hw0];exact Zq0
  have s0:w.heap.size+3=w0.heap.size:=by rw[hw0];simp
  have S0:=hD s0
  clear s0 hw0
  go_wp2_with (at_builtin;refine wpList_append_own _ rfl _ _ 123 rfl w.heap.size 3 i0 _ 1 8 Tryz.underlying123 hi hz0 hz1 hz2 rfl Zq8 _ _ _ rfl hown ⟨w.heap.size+1,0,none⟩ 3 3 [.int .i64 a,.int .i64 b,.int .i64 c] rfl rfl ?c1 ?c2 ?c3 ?c4 ?c5 ?_)
  case c1=>exact cells_row X1.out [] rfl
  case c2=>exact fun u hu=>List.all_eq_true.1 (by rfl) u hu
  case c3=>decide
  case c4=>decide
  case c5=>have:=S0.out;omega
  intro v' w3 hown' hgrow _
  clear hown
  go_wp2
  go_ret
  exact ⟨v',rfl,hown',b0.grown hgrow (by have:=S0.out;omega) (by intro q hq;simp [Value.ownBlock] at hq;omega),by have:=hgrow.size;have:=S0.out;omega⟩
theorem IsValidGate_spec_in (k a b c n:Int) (w:World) (hn:inB n 1 4=true):Calls Tryz.prog 147 #[.agg #[.int .i64 k,.int .i64 a,.int .i64 b,.int .i64 c],.int .i64 n] w fun e w' =>
  e=.returned (.bool (validG ⟨k,a,b,c⟩ n))∧Below w.heap.size w w'∧w.heap.size≤w'.heap.size:=by
 have har:=ar_le k
 have hnn:=inB_iff.1 hn
 go_enter Tryz.func147,Tryz.ntmps147
 go_wp2_with fail
 obtain ⟨w0,hw0⟩:∃ w0,w0=w.alloc (.cells #[.int .i64 k,.int .i64 a,.int .i64 b,.int .i64 c] 102):=⟨_,rfl⟩
 rw[←hw0]
 have X0:Hid (w0.heap[w.heap.size]?=some (.cells #[.int .i64 k,.int .i64 a,.int .i64 b,.int .i64 c] 102 (0,0))):=by rw[hw0];exact boxed1_0 _ _
 have b0:Below w.heap.size w w0:=by rw[hw0];exact Zq0
 have s0:w.heap.size+1=w0.heap.size:=by rw[hw0];simp
 have S0:=hD s0
 clear hw0 s0
 refine(GateQubits_spec _ _ _ _ _).mono ?_
 rintro e w1 ⟨v1,rfl,own1,b1,s1⟩
 obtain ⟨A1,c1,rfl,hc1,hc1m,r1⟩:=rd_of_own own1
 obtain ⟨p0,p1,p2,p3⟩:=boxcells4 (lay:=b1) X0.out
 go_wp2_with fail
 clear p0 p1 p2 p3
 obtain ⟨w2,hw2⟩:∃ w2,w2=w1.alloc (.cells #[.int .i64 a,.int .i64 b,.int .i64 c] 3):=⟨_,rfl⟩
 rw[←hw2]
 have X2:Hid (w2.heap[w1.heap.size]?=some (.cells #[.int .i64 a,.int .i64 b,.int .i64 c] 3 (0,0))):=by rw[hw2];exact boxed1_0 _ _
 have b2:Below w1.heap.size w1 w2:=by rw[hw2];exact Zq0
 have s2:w1.heap.size+1=w2.heap.size:=by rw[hw2];simp
 have S2:=hD s2
 have R1:=hD (r1.below b2)
 have HC:=hD hc1m
 clear hw2 s2 r1 own1
 go_loopw [7] (fun i wr=>∃ t:Nat,t≤3∧i=.int .i64 t∧vupto (ar k) n [a,b,c] t=true∧Below w2.heap.size w2 wr) (fun i _=>3 - (intOf i).toNat)
 case atStart=>exact ⟨0,by omega,rfl,rfl,Below.refl _ _⟩
 case round =>
  obtain ⟨t,ht,rfl,hv,hbel⟩:=hrel
  have HV:=hD hv
  clear hv
  by_cases hlt:t<3
  ·obtain ⟨q,hq⟩:∃ q,q=[a,b,c].getD t 0:=⟨_,rfl⟩
   have q0:wr.cell? ⟨w1.heap.size,t,none⟩=some (.int .i64 q):=(hbel.cell (by have:=S2.out;simp;omega)).trans (cell_at X2.out (by
    rw[hq]
    match t,hlt with
    | 0,_=>rfl
    | 1,_=>rfl
    | 2,_=>rfl
    | _+3,h=>omega))
   have HQ:=hD hq
   clear hq
   have hlt':(t:Int)<3:=by omega
   by_cases hmt:ar k≤t
   ·have d1:decide (ar k≤t)=true:=by simpa using hmt
    have d2:decide (t<ar k)=false:=by simp;omega
    cases hz:(q==0)
    ·have hz':(q != 0)=true:=by rw[bne,hz];rfl
     have HF:=hD (validG_f (g:=⟨k,a,b,c⟩) (n:=n) (t:=t) (vstep_hi_f hmt (by rw[←hz,HQ.out];rfl)) hlt)
     go_wp2_with fail
     go_quiet (fail)
     go_wp2_with fail
     go_ret
     exact ⟨by rw[HF.out];rfl,((b0.trans (b1.mono (by have:=S0.out;omega))).trans (b2.mono (by have:=S0.out;omega))).trans (below_drewN (hbel.mono (by have:=S0.out;have:=S2.out;omega)) _),by have:=hbel.size;have:=S0.out;have:=S2.out;simp;omega⟩
    ·have hz':(q != 0)=false:=by rw[bne,hz];rfl
     go_wp2_with fail
     go_quiet (fail)
     go_wp2_with fail
     go_roundw
     case rel=>exact ⟨t+1,by omega,by go_num,by simp [vupto,HV.out];exact vstep_hi_t hmt (by rw[←hz,HQ.out]),below_drewN hbel _⟩
     case measure=>simp [intOf];omega
   ·have hmt':t<ar k:=by omega
    have d1:decide (ar k≤t)=false:=by simp;omega
    have d2:decide (t<ar k)=true:=by simp;omega
    obtain ⟨b',off',rfl,hl',_⟩:=R1.out.2 Zq6
    have RT:Hid (Rd wr 1 (some ⟨b',off',none⟩) t (([a,b,c].take t).map (Value.int .i64))):=by
     have h:=(R1.out.below hbel).take (t:=t) Zq6
     rw[←List.map_take,List.take_take,show min t (ar k)=t from by omega] at h
     exact h
    have HL:Hid (([a,b,c].take t).length=t):=by
     show([a,b,c].take t).length=t
     rw[List.length_take];simp;omega
    have tc:t≤c1:=by omega
    cases h1:inB q 0 (n - 1)
    ·have HF:=hD (validG_f (g:=⟨k,a,b,c⟩) (n:=n) (t:=t) (vstep_in_f hmt' (by rw[←h1,HQ.out];rfl)) hlt)
     clear hmt
     go_wp2_with fail
     go_quiet (first|(go_at_call 47;exact quiet_left (l1In_any _ _ _ _))|(go_at_call 172;exact quiet_left (l1HasInt_any _ _ _ ([a,b,c].take t) _ _ (RT.out.drewN _) HL.out Zq6)))
     go_wp2_with fail
     go_ret
     exact ⟨by rw[HF.out];rfl,((b0.trans (b1.mono (by have:=S0.out;omega))).trans (b2.mono (by have:=S0.out;omega))).trans (below_drewN (hbel.mono (by have:=S0.out;have:=S2.out;omega)) _),by have:=hbel.size;have:=S0.out;have:=S2.out;simp;omega⟩
    ·cases h2:hasI ([a,b,c].take t) q
     ·have HV2:=hD (vstep_lo_t (n:=n) (qs:=[a,b,c]) hmt' (by rw[←h1,HQ.out]) (by rw[←h2,HQ.out];rfl))
      clear hmt
      go_wp2_with fail
      go_quiet (first|(go_at_call 47;exact quiet_left (l1In_any _ _ _ _))|(go_at_call 172;exact quiet_left (l1HasInt_any _ _ _ ([a,b,c].take t) _ _ (RT.out.drewN _) HL.out Zq6)))
      go_wp2_with fail
      go_roundw
      case rel=>exact ⟨t+1,by omega,by go_num,by simp [vupto,HV.out,HV2.out],below_drewN hbel _⟩
      case measure=>simp [intOf];omega
     ·have HF:=hD (validG_f (g:=⟨k,a,b,c⟩) (n:=n) (t:=t) (vstep_seen_f hmt' (by rw[←h2,HQ.out];rfl)) hlt)
      clear hmt
      go_wp2_with fail
      go_quiet (first|(go_at_call 47;exact quiet_left (l1In_any _ _ _ _))|(go_at_call 172;exact quiet_left (l1HasInt_any _ _ _ ([a,b,c].take t) _ _ (RT.out.drewN _) HL.out Zq6)))
      go_wp2_with fail
      go_ret
      exact ⟨by rw[HF.out];rfl,((b0.trans (b1.mono (by have:=S0.out;omega))).trans (b2.mono (by have:=S0.out;omega))).trans (below_drewN (hbel.mono (by have:=S0.out;have:=S2.out;omega)) _),by have:=hbel.size;have:=S0.out;have:=S2.out;simp;omega⟩
  ·obtain rfl:t=3:=by omega
   by_cases hk:ar k=0
   ·have HF:=hD (validG_k (g:=⟨k,a,b,c⟩) (n:=n) hk)
    have hk':decide (0<ar k)=false:=by simp [hk]
    have HK:=hD hk
    clear hk
    go_wp2_with (go_at_call 47;refine(l1In_any _ _ _ _).mono ?_;rintro e w' ⟨rfl,rfl⟩)
    go_ret
    exact ⟨by rw[HF.out];rfl,((b0.trans (b1.mono (by have:=S0.out;omega))).trans (b2.mono (by have:=S0.out;omega))).trans (hbel.mono (by have:=S0.out;have:=S2.out;omega)),by have:=hbel.size;have:=S0.out;have:=S2.out;omega⟩
   ·have HF:=hD (validG_t (g:=⟨k,a,b,c⟩) hn hk HV.out)
    have hk':decide (0<ar k)=true:=by simp;omega
    have HK:=hD hk
    clear hk
    go_wp2_with (go_at_call 47;refine(l1In_any _ _ _ _).mono ?_;rintro e w' ⟨rfl,rfl⟩)
    go_ret
    exact ⟨by rw[HF.out];rfl,((b0.trans (b1.mono (by have:=S0.out;omega))).trans (b2.mono (by have:=S0.out;omega))).trans (hbel.mono (by have:=S0.out;have:=S2.out;omega)),by have:=hbel.size;have:=S0.out;have:=S2.out;omega⟩
theorem IsValidGate_spec_out (k a b c n:Int) (w:World) (hn:inB n 1 4=false):Calls Tryz.prog 147 #[.agg #[.int .i64 k,.int .i64 a,.int .i64 b,.int .i64 c],.int .i64 n] w fun e w' =>
  e=.returned (.bool (validG ⟨k,a,b,c⟩ n))∧Below w.heap.size w w'∧w.heap.size≤w'.heap.size:=by
 have har:=ar_le k
 have HF:=hD (validG_n (g:=⟨k,a,b,c⟩) hn)
 go_enter Tryz.func147,Tryz.ntmps147
 go_wp2_with fail
 obtain ⟨w0,hw0⟩:∃ w0,w0=w.alloc (.cells #[.int .i64 k,.int .i64 a,.int .i64 b,.int .i64 c] 102):=⟨_,rfl⟩
 rw[←hw0]
 have X0:Hid (w0.heap[w.heap.size]?=some (.cells #[.int .i64 k,.int .i64 a,.int .i64 b,.int .i64 c] 102 (0,0))):=by rw[hw0];exact boxed1_0 _ _
 have b0:Below w.heap.size w w0:=by rw[hw0];exact Zq0
 have s0:w.heap.size+1=w0.heap.size:=by rw[hw0];simp
 have S0:=hD s0
 clear hw0 s0
 refine(GateQubits_spec _ _ _ _ _).mono ?_
 rintro e w1 ⟨v1,rfl,own1,b1,s1⟩
 obtain ⟨A1,c1,rfl,hc1,hc1m,r1⟩:=rd_of_own own1
 obtain ⟨p0,p1,p2,p3⟩:=boxcells4 (lay:=b1) X0.out
 go_wp2_with fail
 clear p0 p1 p2 p3
 obtain ⟨w2,hw2⟩:∃ w2,w2=w1.alloc (.cells #[.int .i64 a,.int .i64 b,.int .i64 c] 3):=⟨_,rfl⟩
 rw[←hw2]
 have X2:Hid (w2.heap[w1.heap.size]?=some (.cells #[.int .i64 a,.int .i64 b,.int .i64 c] 3 (0,0))):=by rw[hw2];exact boxed1_0 _ _
 have b2:Below w1.heap.size w1 w2:=by rw[hw2];exact Zq0
 have s2:w1.heap.size+1=w2.heap.size:=by rw[hw2];simp
 have S2:=hD s2
 have R1:=hD (r1.below b2)
 have HC:=hD hc1m
 clear hw2 s2 r1 own1
 go_loopw [7] (fun i wr=>∃ t:Nat,t≤3∧i=.int .i64 t∧Below w2.heap.size w2 wr) (fun i _=>3 - (intOf i).toNat)
 case atStart=>exact ⟨0,by omega,rfl,Below.refl _ _⟩
 case round =>
  obtain ⟨t,ht,rfl,hbel⟩:=hrel
  by_cases hlt:t<3
  ·obtain ⟨q,hq⟩:∃ q,q=[a,b,c].getD t 0:=⟨_,rfl⟩
   have q0:wr.cell? ⟨w1.heap.size,t,none⟩=some (.int .i64 q):=(hbel.cell (by have:=S2.out;simp;omega)).trans (cell_at X2.out (by
    rw[hq]
    match t,hlt with
    | 0,_=>rfl
    | 1,_=>rfl
    | 2,_=>rfl
    | _+3,h=>omega))
   have HQ:=hD hq
   clear hq
   have hlt':(t:Int)<3:=by omega
   by_cases hmt:ar k≤t
   ·have d1:decide (ar k≤t)=true:=by simpa using hmt
    have d2:decide (t<ar k)=false:=by simp;omega
    cases hz:(q==0)
    ·have hz':(q != 0)=true:=by rw[bne,hz];rfl
     go_wp2_with fail
     go_quiet (fail)
     go_wp2_with fail
     go_ret
     exact ⟨by rw[HF.out];rfl,((b0.trans (b1.mono (by have:=S0.out;omega))).trans (b2.mono (by have:=S0.out;omega))).trans (below_drewN (hbel.mono (by have:=S0.out;have:=S2.out;omega)) _),by have:=hbel.size;have:=S0.out;have:=S2.out;simp;omega⟩
    ·have hz':(q != 0)=false:=by rw[bne,hz];rfl
     go_wp2_with fail
     go_quiet (fail)
     go_wp2_with fail
     go_roundw
     case rel=>exact ⟨t+1,by omega,by go_num,below_drewN hbel _⟩
     case measure=>simp [intOf];omega
   ·have hmt':t<ar k:=by omega
    have d1:decide (ar k≤t)=false:=by simp;omega
    have d2:decide (t<ar k)=true:=by simp;omega
    obtain ⟨b',off',rfl,hl',_⟩:=R1.out.2 Zq6
    have RT:Hid (Rd wr 1 (some ⟨b',off',none⟩) t (([a,b,c].take t).map (Value.int .i64))):=by
     have h:=(R1.out.below hbel).take (t:=t) Zq6
     rw[←List.map_take,List.take_take,show min t (ar k)=t from by omega] at h
     exact h
    have HL:Hid (([a,b,c].take t).length=t):=by
     show([a,b,c].take t).length=t
     rw[List.length_take];simp;omega
    have tc:t≤c1:=by omega
    cases h1:inB q 0 (wrap64 (n - 1))
    ·clear hmt
     go_wp2_with fail
     go_quiet (first|(go_at_call 47;exact quiet_left (l1In_any _ _ _ _))|(go_at_call 172;exact quiet_left (l1HasInt_any _ _ _ ([a,b,c].take t) _ _ (RT.out.drewN _) HL.out Zq6)))
     go_wp2_with fail
     go_ret
     exact ⟨by rw[HF.out];rfl,((b0.trans (b1.mono (by have:=S0.out;omega))).trans (b2.mono (by have:=S0.out;omega))).trans (below_drewN (hbel.mono (by have:=S0.out;have:=S2.out;omega)) _),by have:=hbel.size;have:=S0.out;have:=S2.out;simp;omega⟩
    ·cases h2:hasI ([a,b,c].take t) q
     ·clear hmt
      go_wp2_with fail
      go_quiet (first|(go_at_call 47;exact quiet_left (l1In_any _ _ _ _))|(go_at_call 172;exact quiet_left (l1HasInt_any _ _ _ ([a,b,c].take t) _ _ (RT.out.drewN _) HL.out Zq6)))
      go_wp2_with fail
      go_roundw
      case rel=>exact ⟨t+1,by omega,by go_num,below_drewN hbel _⟩
      case measure=>simp [intOf];omega
     ·clear hmt
      go_wp2_with fail
      go_quiet (first|(go_at_call 47;exact quiet_left (l1In_any _ _ _ _))|(go_at_call 172;exact quiet_left (l1HasInt_any _ _ _ ([a,b,c].take t) _ _ (RT.out.drewN _) HL.out Zq6)))
      go_wp2_with fail
      go_ret
      exact ⟨by rw[HF.out];rfl,((b0.trans (b1.mono (by have:=S0.out;omega))).trans (b2.mono (by have:=S0.out;omega))).trans (below_drewN (hbel.mono (by have:=S0.out;have:=S2.out;omega)) _),by have:=hbel.size;have:=S0.out;have:=S2.out;simp;omega⟩
  ·obtain rfl:t=3:=by omega
   by_cases hk:ar k=0
   ·have hk':decide (0<ar k)=false:=by simp [hk]
    have HK:=hD hk
    clear hk
    go_wp2_with (go_at_call 47;refine(l1In_any _ _ _ _).mono ?_;rintro e w' ⟨rfl,rfl⟩)
    go_ret
    exact ⟨by rw[HF.out];rfl,((b0.trans (b1.mono (by have:=S0.out;omega))).trans (b2.mono (by have:=S0.out;omega))).trans (hbel.mono (by have:=S0.out;have:=S2.out;omega)),by have:=hbel.size;have:=S0.out;have:=S2.out;omega⟩
   ·have hk':decide (0<ar k)=true:=by simp;omega
    have HK:=hD hk
    clear hk
    go_wp2_with (go_at_call 47;refine(l1In_any _ _ _ _).mono ?_;rintro e w' ⟨rfl,rfl⟩)
    go_ret
    exact ⟨by rw[HF.out];rfl,((b0.trans (b1.mono (by have:=S0.out;omega))).trans (b2.mono (by have:=S0.out;omega))).trans (hbel.mono (by have:=S0.out;have:=S2.out;omega)),by have:=hbel.size;have:=S0.out;have:=S2.out;omega⟩
theorem IsValidGate_spec (k a b c n:Int) (w:World):Calls Tryz.prog 147 #[.agg #[.int .i64 k,.int .i64 a,.int .i64 b,.int .i64 c],.int .i64 n] w fun e w' =>
  e=.returned (.bool (validG ⟨k,a,b,c⟩ n))∧Below w.heap.size w w'∧w.heap.size≤w'.heap.size:=by
 cases hn:inB n 1 4
 ·exact IsValidGate_spec_out k a b c n w hn
 ·exact IsValidGate_spec_in k a b c n w hn
def hasB (k:Int):Bool:=k==2 || (k==3 || (k==4 || (k==5 || k==7)))
theorem hasB_f {k:Int} (h2:k≠2) (h3:k≠3) (h4:k≠4) (h5:k≠5) (h7:k≠7):hasB k=false:=by simp [hasB,h2,h3,h4,h5,h7]
theorem hasBody_any (k:Int) (w:World):Calls Tryz.prog 103 #[.int .i64 k] w fun e w'=>e=.returned (.bool (hasB k))∧w=w':=by
 by_cases h2:k=2
 ·subst h2
  go_enter Tryz.func103,Tryz.ntmps103
  go_wp2
  go_ret
  exact ⟨rfl,rfl⟩
 by_cases h3:k=3
 ·subst h3
  go_enter Tryz.func103,Tryz.ntmps103
  go_wp2
  go_ret
  exact ⟨rfl,rfl⟩
 by_cases h4:k=4
 ·subst h4
  go_enter Tryz.func103,Tryz.ntmps103
  go_wp2
  go_ret
  exact ⟨rfl,rfl⟩
 by_cases h5:k=5
 ·subst h5
  go_enter Tryz.func103,Tryz.ntmps103
  go_wp2
  go_ret
  exact ⟨rfl,rfl⟩
 by_cases h7:k=7
 ·subst h7
  go_enter Tryz.func103,Tryz.ntmps103
  go_wp2
  go_ret
  exact ⟨rfl,rfl⟩
 rw[hasB_f h2 h3 h4 h5 h7]
 have e2:(k==2)=false:=beq_eq_false_iff_ne.2 h2
 have e3:(k==3)=false:=beq_eq_false_iff_ne.2 h3
 have e4:(k==4)=false:=beq_eq_false_iff_ne.2 h4
 have e5:(k==5)=false:=beq_eq_false_iff_ne.2 h5
 have e7:(k==7)=false:=beq_eq_false_iff_ne.2 h7
 clear h2 h3 h4 h5 h7
 go_enter Tryz.func103,Tryz.ntmps103
 go_wp2
 go_ret
 exact ⟨rfl,rfl⟩
def imax (a b:Int):Int:=if b<a then a else b
theorem l1Max_any (a b:Int) (w:World):Calls Tryz.prog 107 #[.int .i64 a,.int .i64 b] w fun e w'=>e=.returned (.int .i64 (imax a b))∧w=w':=by
 by_cases h:b<a
 ·rw[show imax a b=a from if_pos h]
  go_enter Tryz.func107,Tryz.ntmps107
  go_wp2
  go_ret
  exact ⟨rfl,rfl⟩
 ·rw[show imax a b=b from if_neg h]
  go_enter Tryz.func107,Tryz.ntmps107
  go_wp2
  go_ret
  exact ⟨rfl,rfl⟩
def gnames:List (List UInt8):=[[],[120],[121],[122],[104],[115],[115,100],[116],[116,100],[99,120],[99,122],[115,119,97,112],[99,99,120]]
def gname (k:Nat):List UInt8:=gnames.getD k []
theorem GateName_spec (k:Nat) (h1:1≤k) (h2:k≤12) (w:World):Calls Tryz.prog 161 #[.int .i64 k] w fun e w'=>e=.returned (.string ⟨(gname k).toArray⟩)∧Below w.heap.size w w'∧w.heap.size≤w'.heap.size:=by
 have hb:inB (k:Int) 1 12=true:=inB_t Zq6 Zq6
 have hk:k=1∨k=2∨k=3∨k=4∨k=5∨k=6∨k=7∨k=8∨k=9∨k=10∨k=11∨k=12:=by omega
 clear h1 h2
 rcases hk with rfl|rfl|rfl|rfl|rfl|rfl|rfl|rfl|rfl|rfl|rfl|rfl
 all_goals
  go_enter Tryz.func161,Tryz.ntmps161
  go_wp2_with (go_at_call 47;refine(l1In_any _ _ _ _).mono ?_;rintro e w' ⟨rfl,rfl⟩)
  go_ret
  exact ⟨rfl,Zq0,Zq5⟩
def gkindFrom (word:List UInt8):Nat→Nat→Nat
 | 0,_=>0
 | f+1,k=>if gname k==word then k else gkindFrom word f (k+1)
def gkind (word:ByteArray):Nat:=gkindFrom word.toList 12 1
theorem gkindFrom_le (word:List UInt8):∀ f k,k+f≤13→gkindFrom word f k≤12:=by
 intro f
 induction f with
 | zero=>intro k _;simp [gkindFrom]
 | succ f ih =>
  intro k h
  simp only[gkindFrom]
  split
  ·omega
  ·exact ih (k+1) Zq6
theorem GateKind_spec (word:ByteArray) (w:World):Calls Tryz.prog 136 #[.string word] w fun e w'=>e=.returned (.int .i64 (gkind word))∧Below w.heap.size w w'∧w.heap.size≤w'.heap.size:=by
 go_enter Tryz.func136,Tryz.ntmps136
 go_wp2
 go_loopw [3] (fun k wr=>∃ t:Nat,1≤t∧t≤13∧k=.int .i64 t∧gkind word=gkindFrom word.toList (13 - t) t∧Below w.heap.size w wr) (fun k _=>13 - (intOf k).toNat)
 case atStart=>exact ⟨1,by omega,by omega,rfl,rfl,Below.refl _ _⟩
 case round =>
  obtain ⟨t,h1,ht,rfl,hg,hb⟩:=hrel
  have HG:=hD hg
  clear hg
  by_cases hlt:t≤12
  ·have HS:Hid (gkind word=if gname t==word.toList then t else gkindFrom word.toList (13 - (t+1)) (t+1)):=by
    have h:=HG.out
    rw[show 13 - t=(13 - (t+1))+1 from by omega] at h
    exact h
   cases he:(gname t==word.toList)
   ·have HF:Hid (gkind word=gkindFrom word.toList (13 - (t+1)) (t+1)):=by
     have h:=HS.out
     rw[he] at h
     exact h
    go_wp2_with fail
    refine(GateName_spec t h1 hlt _).mono ?_
    rintro e w1 ⟨rfl,b1,s1⟩
    go_wp2_with fail
    go_roundw
    case rel=>exact ⟨t+1,by omega,by omega,by go_num,HF.out,hb.trans (b1.mono hb.size)⟩
    case measure=>simp [intOf];omega
   ·have HF:Hid (gkind word=t):=by
     have h:=HS.out
     rw[he] at h
     exact h
    go_wp2_with fail
    refine(GateName_spec t h1 hlt _).mono ?_
    rintro e w1 ⟨rfl,b1,s1⟩
    go_wp2_with fail
    go_ret
    exact ⟨by rw[HF.out];rfl,hb.trans (b1.mono hb.size),Nat.le_trans hb.size s1⟩
  ·obtain rfl:t=13:=by omega
   have HF:Hid (gkind word=0):=HG.out
   go_wp2_with fail
   go_ret
   exact ⟨by rw[HF.out];rfl,hb,hb.size⟩
def nargs (k:Int) (word:ByteArray):Nat:=if k=1 then ar (gkind word) else if k=2 then 0 else if k=3 then 0 else if k=4 then 1 else if k=5 then 1 else if k=7 then 1 else 2
theorem l17Args_any (k:Int) (word:ByteArray) (va:Value) (count:Int) (vb:Value) (w:World) (ha:∃ A n c,va=.slice A n c) (hb:∃ A n c,vb=.slice A n c):Calls Tryz.prog 106 #[.agg #[.int .i64 k,.string word,va,.int .i64 count,vb]] w fun e w' =>
  e=.returned (.tuple #[.int .i64 (nargs k word),.bool (hasB k)])∧Below w.heap.size w w'∧w.heap.size≤w'.heap.size:=by
 obtain ⟨A,n,c,rfl⟩:=ha
 obtain ⟨A',n',c',rfl⟩:=hb
 by_cases h1:k=1
 ·subst h1
  go_enter Tryz.func106,Tryz.ntmps106
  go_wp2_with fail
  refine(GateKind_spec _ _).mono ?_
  rintro e w1 ⟨rfl,b1,s1⟩
  simp at s1
  go_wp2_with fail
  refine(Arity_spec _ _).mono ?_
  rintro e w' ⟨rfl,rfl⟩
  go_wp2_with fail
  go_ret2
  exact ⟨rfl,Zq0,Zq5⟩
 have e1:(k==1)=false:=beq_eq_false_iff_ne.2 h1
 by_cases h2:k=2
 ·subst h2
  go_enter Tryz.func106,Tryz.ntmps106
  go_wp2_with fail
  go_ret2
  exact ⟨rfl,Zq0,Zq5⟩
 have e2:(k==2)=false:=beq_eq_false_iff_ne.2 h2
 by_cases h3:k=3
 ·subst h3
  go_enter Tryz.func106,Tryz.ntmps106
  go_wp2_with fail
  go_ret2
  exact ⟨rfl,Zq0,Zq5⟩
 have e3:(k==3)=false:=beq_eq_false_iff_ne.2 h3
 by_cases h4:k=4
 ·subst h4
  go_enter Tryz.func106,Tryz.ntmps106
  go_wp2_with fail
  go_ret2
  exact ⟨rfl,Zq0,Zq5⟩
 have e4:(k==4)=false:=beq_eq_false_iff_ne.2 h4
 by_cases h5:k=5
 ·subst h5
  go_enter Tryz.func106,Tryz.ntmps106
  go_wp2_with fail
  go_ret2
  exact ⟨rfl,Zq0,Zq5⟩
 have e5:(k==5)=false:=beq_eq_false_iff_ne.2 h5
 by_cases h7:k=7
 ·subst h7
  go_enter Tryz.func106,Tryz.ntmps106
  go_wp2_with fail
  go_ret2
  exact ⟨rfl,Zq0,Zq5⟩
 have e7:(k==7)=false:=beq_eq_false_iff_ne.2 h7
 have HA:=hD (show nargs k word=2 by simp [nargs,h1,h2,h3,h4,h5,h7])
 have HB:=hD (hasB_f h2 h3 h4 h5 h7)
 clear h1 h2 h3 h4 h5 h7
 go_enter Tryz.func106,Tryz.ntmps106
 go_wp2_with fail
 go_ret2
 exact ⟨by rw[HA.out,HB.out];rfl,Zq0,Zq5⟩
def nestT:(d:Nat)→List (Tr d)→Nat
 | 0,_=>0
 | d+1,l=>l.foldl (fun (m:Nat) (s:Tr (d+1))=>if hasB (hdT s).k then max m (1+nestT d (bdT s)) else m) 0
theorem sum_ge {d:Nat} {l:List (Tr (d+1))} {s:Tr (d+1)} (h:s∈l):szE s≤sumE l:=by
 obtain ⟨t,ht⟩:=List.getElem?_of_mem h
 exact szT_mem ht
theorem nestT_le:∀ (d:Nat) (l:List (Tr d)),nestT d l≤szT d l:=by
 intro d
 induction d with
 | zero=>intro l;exact Nat.le_refl _
 | succ d ih =>
  intro l
  have key:∀ (B:Nat) (l:List (Tr (d+1))),(∀ s∈l,1+nestT d (bdT s)≤B)→∀ m,m≤B→l.foldl (fun (m:Nat) (s:Tr (d+1))=>if hasB (hdT s).k then max m (1+nestT d (bdT s)) else m) m≤B:=by
   intro B l
   induction l with
   | nil=>intro _ m h;exact h
   | cons s l ih2 =>
    intro hB m h
    refine ih2 (fun x hx=>hB x (by simp [hx])) _ ?_
    show(if hasB (hdT s).k then max m (1+nestT d (bdT s)) else m)≤B
    have:=hB s Zq11
    split <;> omega
  refine key _ l (fun s hs=>?_) 0 (Nat.zero_le _)
  have h1:=ih (bdT s)
  have h2:=sum_ge hs
  have h3:0<l.length:=List.length_pos_of_mem hs
  rw[szT_succ]
  unfold szE at h2
  omega
theorem nest_take_le {d:Nat} (l:List (Tr (d+1))) (t:Nat):nestT (d+1) (l.take t)≤szT (d+1) l:=by
 refine Nat.le_trans (nestT_le _ _) ?_
 rw[szT_succ,szT_succ]
 have:=sumE_take_le l t
 have:=List.length_take_le' t l
 omega
theorem nest_take {d:Nat} (l:List (Tr (d+1))) (t:Nat) (s:Tr (d+1)) (h:l[t]?=some s):nestT (d+1) (l.take (t+1))=if hasB (hdT s).k then max (nestT (d+1) (l.take t)) (1+nestT d (bdT s)) else nestT (d+1) (l.take t):=by
 rw[List.take_add_one,h]
 simp [nestT,List.foldl_append]
def NestSaid_impl (d:Nat):Prop:=∀ (lo:Nat) (A:Option Addr) (n c:Nat) (l:List (Tr d)) (w:World),RdT w lo d A n l→szT d l≤1048576 →
 Calls Tryz.prog 45 #[.slice A n c] w fun e w'=>e=.returned (.int .i64 (nestT d l))∧Below w.heap.size w w'∧w.heap.size≤w'.heap.size
theorem NestingDepth_impl:∀ (d:Nat),NestSaid_impl d:=by
 intro d
 induction d with
 | zero =>
  intro lo A n c l w h _
  obtain rfl:=szT_zero_len h
  go_enter Tryz.func45,Tryz.ntmps45
  go_wp2
  refine wp_loop_rounds 1 ?_
  rw[rounds_succ]
  go_wp2
  go_ret
  exact ⟨rfl,Below.refl _ _,Nat.le_refl _⟩
 | succ d ih =>
  intro lo A n c l w h hsz
  have hln:=h.len
  have hn:n≤1048576:=by rw[szT_succ] at hsz;omega
  have HQ:=hD hsz
  have HL:=hD hln
  have H:=hD h
  clear h hln hsz
  go_enter Tryz.func45,Tryz.ntmps45
  go_wp2
  go_loopw [3,8] (fun m i wr=>∃ t:Nat,t≤n∧i=.int .i64 t∧m=.int .i64 (nestT (d+1) (l.take t))∧Below w.heap.size w wr) (fun _ i _=>n - (intOf i).toNat)
  case atStart=>exact ⟨0,Nat.zero_le _,rfl,rfl,Below.refl _ _⟩
  case round =>
   obtain ⟨t,ht,rfl,rfl,hb⟩:=hrel
   have hN:nestT (d+1) (l.take t)≤1048576:=Nat.le_trans (nest_take_le l t) HQ.out
   obtain ⟨N,hNN⟩:∃ N,N=nestT (d+1) (l.take t):=⟨_,rfl⟩
   rw[←hNN] at hN ⊢
   have HN:=hD hNN
   clear hNN
   have hbs:=hb.size
   by_cases hlt:t<n
   ·obtain ⟨b,off,s,Aa,ca,Ab,nb,cb,rfl,hbl,hs,hcs,hra,hrb⟩:=(H.out.below hb).at_ hlt
    obtain ⟨q0,q1,q2,q3,q4⟩:=hcs
    have hme:=szT_mem hs
    have hz2:szT d (bdT s)≤1048576:=by have:=HQ.out;rw[szT_succ] at this;unfold szE at hme;omega
    have hnb:=nestT_le d (bdT s)
    have HT:=hD (nest_take l t s hs)
    have HB:=hD (hrb.below (w':=wr.alloc (.cells #[.int .i64 (hdT s).k,.string (hdT s).word,.slice Aa (hdT s).args.length ca,.int .i64 (hdT s).count,.slice Ab nb cb] 66)) Zq0)
    clear hs hra hrb hme
    cases hk:hasB (hdT s).k
    ·have HT2:Hid (nestT (d+1) (l.take (t+1))=N):=by
      have h:=HT.out
      rw[hk,←HN.out] at h
      exact h
     go_wp2_with (go_at_call 103;refine(hasBody_any _ _).mono ?_;rintro e w' ⟨rfl,rfl⟩)
     go_roundw
     case rel=>exact ⟨t+1,by omega,by go_num,by rw[HT2.out],hb.alloc hb.size _⟩
     case measure=>simp [intOf];omega
    ·obtain ⟨M,hM⟩:∃ M,M=nestT d (bdT s):=⟨_,rfl⟩
     have HT2:Hid (nestT (d+1) (l.take (t+1))=max N (1+M)):=by
      have h:=HT.out
      rw[hk,←HN.out,←hM] at h
      exact h
     rw[←hM] at hnb
     have HM:=hD hM
     clear hM
     go_wp2_with (first|(go_at_call 103;refine(hasBody_any _ _).mono ?_;rintro e w' ⟨rfl,rfl⟩)|(go_at_call 45;refine(ih lo _ _ _ (bdT s) _ HB.out hz2).mono ?_;rintro e w1 ⟨rfl,b1,s1⟩;rw[←HM.out]))
     go_roundw
     case rel=>exact ⟨t+1,by omega,by go_num,by rw[HT2.out];congr 1;first|omega|(split <;> omega),(hb.alloc hb.size _).trans (b1.mono Zq9)⟩
     case measure=>simp [intOf];omega
   ·obtain rfl:t=n:=by omega
    have HF:Hid (N=nestT (d+1) l):=by
     have h:=HN.out
     rw[List.take_of_length_le (by rw[HL.out];exact Nat.le_refl _)] at h
     exact h
    go_wp2
    go_ret
    exact ⟨by rw[←HF.out];rfl,hb,hb.size⟩
def NestSaid_spec (d:Nat):Prop:=∀ (lo:Nat) (A:Option Addr) (n c:Nat) (l:List (Tr d)) (w:World),RdT w lo d A n l→szT d l≤1048576 →
 Calls Tryz.prog 50 #[.slice A n c] w fun e w'=>e=.returned (.int .i64 (nestT d l))∧Below w.heap.size w w'∧w.heap.size≤w'.heap.size
theorem NestingDepth_spec:∀ (d:Nat),NestSaid_spec d:=by
 intro d
 induction d with
 | zero =>
  intro lo A n c l w h _
  obtain rfl:=szT_zero_len h
  go_enter Tryz.func50,Tryz.ntmps50
  go_wp2
  refine wp_loop_rounds 1 ?_
  rw[rounds_succ]
  go_wp2
  go_ret
  exact ⟨rfl,Below.refl _ _,Nat.le_refl _⟩
 | succ d ih =>
  intro lo A n c l w h hsz
  have hln:=h.len
  have hn:n≤1048576:=by rw[szT_succ] at hsz;omega
  have HQ:=hD hsz
  have HL:=hD hln
  have H:=hD h
  clear h hln hsz
  go_enter Tryz.func50,Tryz.ntmps50
  go_wp2
  go_loopw [3,4] (fun m i wr=>∃ t:Nat,t≤n∧i=.int .i64 t∧m=.int .i64 (nestT (d+1) (l.take t))∧Below w.heap.size w wr) (fun _ i _=>n - (intOf i).toNat)
  case atStart=>exact ⟨0,Nat.zero_le _,rfl,rfl,Below.refl _ _⟩
  case round =>
   obtain ⟨t,ht,rfl,rfl,hb⟩:=hrel
   have hN:nestT (d+1) (l.take t)≤1048576:=Nat.le_trans (nest_take_le l t) HQ.out
   obtain ⟨N,hNN⟩:∃ N,N=nestT (d+1) (l.take t):=⟨_,rfl⟩
   rw[←hNN] at hN ⊢
   have HN:=hD hNN
   clear hNN
   have hbs:=hb.size
   by_cases hlt:t<n
   ·obtain ⟨b,off,s,Aa,ca,Ab,nb,cb,rfl,hbl,hs,hcs,hra,hrb⟩:=(H.out.below hb).at_ hlt
    obtain ⟨q0,q1,q2,q3,q4⟩:=hcs
    have hme:=szT_mem hs
    have hz2:szT d (bdT s)≤1048576:=by have:=HQ.out;rw[szT_succ] at this;unfold szE at hme;omega
    have hnb:=nestT_le d (bdT s)
    have HT:=hD (nest_take l t s hs)
    have HB:=hD hrb
    clear hs hra hrb hme
    cases hk:hasB (hdT s).k
    ·have HT2:Hid (nestT (d+1) (l.take (t+1))=N):=by
      have h:=HT.out
      rw[hk,←HN.out] at h
      exact h
     go_wp2_with fail
     refine(l17Args_any _ _ _ _ _ _ ⟨_,_,_,rfl⟩ ⟨_,_,_,rfl⟩).mono ?_
     rintro e w1 ⟨rfl,b1,s1⟩
     rw[hk]
     go_wp2_with fail
     go_roundw
     case rel=>exact ⟨t+1,by omega,by go_num,by rw[HT2.out],hb.trans (b1.mono hb.size)⟩
     case measure=>simp [intOf];omega
    ·obtain ⟨M,hM⟩:∃ M,M=nestT d (bdT s):=⟨_,rfl⟩
     have HT2:Hid (nestT (d+1) (l.take (t+1))=max N (1+M)):=by
      have h:=HT.out
      rw[hk,←HN.out,←hM] at h
      exact h
     rw[←hM] at hnb
     have HM:=hD hM
     clear hM
     go_wp2_with fail
     refine(l17Args_any _ _ _ _ _ _ ⟨_,_,_,rfl⟩ ⟨_,_,_,rfl⟩).mono ?_
     rintro e w1 ⟨rfl,b1,s1⟩
     rw[hk]
     have q5:=(b1.cell (p:=⟨b,off+t*5+4,none⟩) hbl).trans q4
     clear q0 q1 q2 q3 q4
     go_wp2_with fail
     refine(ih lo _ _ _ (bdT s) _ (HB.out.below b1) hz2).mono ?_
     rintro e w2 ⟨rfl,b2,s2⟩
     rw[←HM.out]
     go_wp2_with fail
     refine(l1Max_any _ _ _).mono ?_
     rintro e w' ⟨rfl,rfl⟩
     go_wp2_with fail
     go_roundw
     case rel=>exact ⟨t+1,by omega,by go_num,by rw[HT2.out];congr 1;unfold imax;split <;> omega,(hb.trans (b1.mono hb.size)).trans (b2.mono Zq6)⟩
     case measure=>simp [intOf];omega
   ·obtain rfl:t=n:=by omega
    have HF:Hid (N=nestT (d+1) l):=by
     have h:=HN.out
     rw[List.take_of_length_le (by rw[HL.out];exact Nat.le_refl _)] at h
     exact h
    go_wp2
    go_ret
    exact ⟨by rw[←HF.out];rfl,hb,hb.size⟩
def gstr (k:Nat):ByteArray:=⟨(gname k).toArray⟩
def gstrs:List ByteArray:=(List.range 13).map gstr
def GN (w:World):Prop:=∃ A c,w.cell? ⟨0,0,none⟩=some (.slice A 13 c)∧0<w.heap.size∧Rd w 1 A 13 (strs gstrs)
theorem GN.below {w w':World} (h:GN w) (hb:Below w.heap.size w w'):GN w':=by
 obtain ⟨A,c,h1,h2,h3⟩:=h
 exact ⟨A,c,(hb.cell (p:=⟨0,0,none⟩) h2).trans h1,Nat.lt_of_lt_of_le h2 hb.size,h3.below hb⟩
theorem GN.drewN {w:World} (h:GN w) (k:Nat):GN (w.drewN k):=h
theorem GateName_impl (k:Nat) (h1:1≤k) (h2:k≤12) (w:World) (hG:GN w):Calls Tryz.prog 134 #[.int .i64 k] w fun e w'=>e=.returned (.string ⟨(gname k).toArray⟩)∧w=w':=by
 obtain ⟨A,c,hg,hl,hr⟩:=hG
 obtain ⟨b,off,rfl,hb,hc⟩:=hr.2 Zq6
 have q0:w.cell? ⟨b,off+k,none⟩=some (.string ⟨(gname k).toArray⟩):=hc k _ (by
  simp only[strs,gstrs,List.map_map]
  rw[List.getElem?_map,List.getElem?_range Zq6]
  rfl)
 have hin:inB (k:Int) 1 12=true:=inB_t Zq6 Zq6
 clear hc hr
 go_enter Tryz.func134,Tryz.ntmps134
 go_wp2_with (go_at_call 44;refine(in_any _ _ _ _).mono ?_;rintro e w' ⟨rfl,rfl⟩)
 go_ret
 exact ⟨rfl,rfl⟩
theorem GateKind_impl (word:ByteArray) (w:World) (hG:GN w):Calls Tryz.prog 102 #[.string word] w fun e w'=>e=.returned (.int .i64 (gkind word))∧w=w':=by
 have HGN:=hD hG
 clear hG
 go_enter Tryz.func102,Tryz.ntmps102
 go_wp2
 go_loop [3] (fun k=>∃ t:Nat,1≤t∧t≤13∧k=.int .i64 t∧gkind word=gkindFrom word.toList (13 - t) t) (fun k=>13 - (intOf k).toNat)
 case atStart=>exact ⟨1,by omega,by omega,rfl,rfl⟩
 case round =>
  obtain ⟨t,h1,ht,rfl,hg⟩:=hrel
  have HG:=hD hg
  clear hg
  by_cases hlt:t≤12
  ·have HS:Hid (gkind word=if gname t==word.toList then t else gkindFrom word.toList (13 - (t+1)) (t+1)):=by
    have h:=HG.out
    rw[show 13 - t=(13 - (t+1))+1 from by omega] at h
    exact h
   cases he:(gname t==word.toList)
   ·have HF:Hid (gkind word=gkindFrom word.toList (13 - (t+1)) (t+1)):=by
     have h:=HS.out
     rw[he] at h
     exact h
    go_wp2_with fail
    refine(GateName_impl t h1 hlt _ HGN.out).mono ?_
    rintro e w1 ⟨rfl,rfl⟩
    go_wp2_with fail
    go_round
    case rel=>exact ⟨t+1,by omega,by omega,by go_num,HF.out⟩
    case measure=>simp [intOf];omega
   ·have HF:Hid (gkind word=t):=by
     have h:=HS.out
     rw[he] at h
     exact h
    go_wp2_with fail
    refine(GateName_impl t h1 hlt _ HGN.out).mono ?_
    rintro e w1 ⟨rfl,rfl⟩
    go_wp2_with fail
    go_ret
    exact ⟨by rw[HF.out];rfl,rfl⟩
  ·obtain rfl:t=13:=by omega
   have HF:Hid (gkind word=0):=HG.out
   go_wp2_with fail
   go_ret
   exact ⟨by rw[HF.out];rfl,rfl⟩
end Go.Proofs.YthkbckkghnbonaaGreatDoor
namespace Go.Proofs.YthkbckkghnbonaaGreatDoor
open Go.ChangeShapes Go.WideShapes Go.ChangeAt Go.RowKit Go.Deep
set_option linter.unusedVariables false
set_option maxRecDepth 100000
theorem gNames : Tryz.prog.globalNamed "loop.example/g00506/impl.gateNames" = some 0 := by kernel_rfl
theorem tNames:(Tryz.prog.globals[0]?).map (·.type)=some 24:=by kernel_rfl
theorem cellsStr:Tryz.prog.cellsOf 9=1:=by kernel_rfl
theorem toList_inj {a b:ByteArray} (h:a.data.toList=b.data.toList):a=b:=by
 cases a
 cases b
 simp_all
theorem of_map_eq:∀ {l l':List ByteArray},l.map (fun s=>s.data.toList)=l'.map (fun s=>s.data.toList)→l=l'
 | [],[],_=>rfl
 | [],_ :: _,h=>by simp at h
 | _ :: _,[],h=>by simp at h
 | a :: l,b :: l',h=>by
  simp only[List.map_cons,List.cons.injEq] at h
  rw[toList_inj h.1,of_map_eq h.2]
theorem lits_inj:∀ {l:List ByteArray} {l':List (List UInt8)},(l.map fun s=>(.lit (.string s.data.toList):DataW Unit))=l'.map (fun s=>.lit (.string s))→l.map (fun s=>s.data.toList)=l'
 | [],[],_=>rfl
 | [],_ :: _,h=>by simp at h
 | _ :: _,[],h=>by simp at h
 | a :: l,b :: l',h=>by
  simp only[List.map_cons,List.cons.injEq,DataW.lit.injEq,Lit.string.injEq] at h
  rw[List.map_cons,h.1,lits_inj h.2]
theorem gn_of_cell {W : World} {fuel : Nat} {cs : Array Value} {p : List MemPlace} (hv : W.var? Tryz.prog "loop.example/g00506/impl.gateNames" = some cs)
  (hd:DataW.trod (fun _=>()) Tryz.prog W 0 (fun _=>true) false fuel 24 cs.toList=some (Rows.laid_loop_example_g00506_impl_gateNames,p)):GN W:=by
 rcases Go.ChangeShapes.open_strings Tryz.underlying24 Tryz.underlying9 cellsStr hd with ⟨_,hx⟩|⟨a,len,cap,ss,hcs,_,hl,hm,hlen,hx,hcell,_⟩
 ·simp [Rows.laid_loop_example_g00506_impl_gateNames] at hx
 ·have h1:(Rows.laid_loop_example_g00506_impl_gateNames:DataW Unit)=.slice (Go.ChangeShapes.strs (ss.take len)) (Go.ChangeShapes.strs (ss.drop len)):=by rw[Prod.mk.injEq] at hx;exact hx.1
  have h2:(Rows.laid_loop_example_g00506_impl_gateNames:DataW Unit)=.slice (gnames.map fun s=>.lit (.string s)) []:=rfl
  rw[h2,DataW.slice.injEq] at h1
  have h3:=lits_inj h1.1.symm
  have h4:ss.take len=gstrs:=of_map_eq (by rw[h3];rfl)
  have h5:len=13:=by
   have h6:=congrArg List.length h4
   rw[List.length_take] at h6
   have h7:gstrs.length=13:=rfl
   simp at hlen
   omega
  subst h5
  have hss:ss.length=cap:=by simpa using hlen
  have hat:∀ j u,(Go.Proofs.YthkbckkghnbonaaGreatDoor.strs gstrs)[j]?=some u→W.cell? (a.add j)=some u:=by
   intro j u hu
   simp only[Go.Proofs.YthkbckkghnbonaaGreatDoor.strs,List.getElem?_map] at hu
   obtain ⟨s,hs,rfl⟩:=Option.map_eq_some_iff.1 hu
   rw[←h4] at hs
   have hj:j<13:=by have:=(List.getElem?_eq_some_iff.1 hs).1;rw[List.length_take] at this;omega
   rw[List.getElem?_take,if_pos hj] at hs
   rw[hcell j Zq6]
   simp [List.getD_eq_getElem?_getD,hs]
  have hc0:=hat 0 (.string (gstr 0)) rfl
  obtain ⟨b,off,spot⟩:=a
  have hspot:spot=none:=by simpa [Addr.add] using World.cell?_spot hc0
  subst hspot
  have hg:W.cell? ⟨0,0,none⟩=some (.slice (some ⟨b,off,none⟩) 13 cap):=by
   have:=World.var?_cell gNames hv 0
   rw[Array.eq_one_of_toList hcs] at this
   simpa using this
  refine ⟨some ⟨b,off,none⟩,cap,hg,block_of_cell hg,rfl,fun _=>⟨b,off,rfl,by simpa [Addr.add] using block_of_cell hc0,fun j u hu=>?_⟩⟩
  have:=hat j u hu
  rwa [add_plain] at this
theorem gn_of_laid1 {W : World} (h : laidMetH Tryz.prog [("loop.example/g00506/impl.gateNames", Rows.laid_loop_example_g00506_impl_gateNames)] W) : GN W := by
 rw[MakeChecks.laidMetH_plain _ _ _ Zq10] at h
 obtain ⟨ps,⟨g0,t0,cs0,f0,p0,q0,hg0,ht0,hv0,hd0,_⟩,_⟩:=h
 obtain rfl:=Option.some.inj (gNames.symm.trans hg0)
 obtain rfl:=Option.some.inj (tNames.symm.trans ht0)
 exact gn_of_cell hv0 hd0
section
variable {H:Type} {enc:TypeId × Value→H}
theorem vars_stay {W W' : World} (hl : laidOutB Tryz.prog = true) (hr : Tryz.prog.readableRec 24 = true ∧ 24 < Tryz.prog.types.size) {gs : List (DataW H)} {q : List MemPlace} (h : DataW.TrodVars enc Tryz.prog W (fun _ => true) ["loop.example/g00506/impl.gateNames"] gs q) (hlt : ∀ x ∈ q, x.block < W.heap.size) (hb : Below W.heap.size W W') (hgn : 0 < W.heap.size) :
  ∃ d, gs = [d] ∧ ∀ sp : Nat → Bool, (∀ x ∈ q, sp x.block = true) → DataW.TrodVars enc Tryz.prog W' sp ["loop.example/g00506/impl.gateNames"] [d] q := by
 obtain ⟨g,t,cs,fuel,d,p,rfl,hg,ht,hv,hd,rfl⟩:=trodVars_one h
 obtain rfl:=Option.some.inj (gNames.symm.trans hg)
 obtain rfl:=Option.some.inj (tNames.symm.trans ht)
 refine ⟨d,rfl,fun sp hsp=>?_⟩
 have hv' : W'.var? Tryz.prog "loop.example/g00506/impl.gateNames" = some cs := by
  simp only[World.var?,gNames,Option.bind_some] at hv ⊢
  rw[hb.block _ hgn]
  exact hv
 obtain ⟨v,hcs⟩:∃ v,cs.toList=[v]:=by
  rcases open_slice Tryz.underlying24 hd with ⟨h0,_⟩|⟨a,len,cap,m,n,D,Pl,hcs,_⟩
  ·exact ⟨_,h0⟩
  ·exact ⟨_,hcs⟩
 have h1:DataW.Trod enc Tryz.prog W 0 (fun _=>true) true 24 v d p:=⟨fuel,by
  have e:v.cells.toList=[v]:=by
   rcases open_slice Tryz.underlying24 hd with ⟨h0,_⟩|⟨a,len,cap,m,n,D,Pl,h0,_⟩
   ·rw[hcs] at h0;injection h0 with h0 _;subst h0;rfl
   ·rw[hcs] at h0;injection h0 with h0 _;subst h0;rfl
  rw[e,←hcs]
  exact hd⟩
 have h2:=WideElems.Trod_stays (sp':=sp) hl hr.1 hr.2 h1 (fun x hx=>hb.same (hlt x (by simp [hx]))) (fun x hx=>hsp x (by simp [hx]))
 obtain ⟨fuel',hf⟩:=h2
 have e:v.cells.toList=[v]:=by
  rcases open_slice Tryz.underlying24 hd with ⟨h0,_⟩|⟨a,len,cap,m,n,D,Pl,h0,_⟩
  ·rw[hcs] at h0;injection h0 with h0 _;subst h0;rfl
  ·rw[hcs] at h0;injection h0 with h0 _;subst h0;rfl
 rw[e,←hcs] at hf
 exact trodVars_mk1 gNames tNames hv' hf
end
theorem strRec:Tryz.prog.readableRec 24=true∧24<Tryz.prog.types.size:=⟨by kernel_rfl,of_decide_eq_true Zq10⟩
end Go.Proofs.YthkbckkghnbonaaGreatDoor
namespace Go.Proofs.YthkbckkghnbonaaGreatDoor
open Go.RowKit
set_option linter.unusedVariables false
theorem below_undrew {w w':World} (h:Below w.drew.heap.size w.drew w'):Below w.heap.size w w':=⟨h.os,h.tape,h.output,h.size,h.block⟩
theorem rd_pre {w:World} {cs:Array Value} {e b size n:Nat} {xs:List Value} (ys:List Value) (h0:b=w.heap.size) (hx:cs.toList=xs++ys) (hl:xs.length=n*size):Rd (w.alloc (.cells cs e)) size (some ⟨b,0,none⟩) n xs:=by
 subst h0
 refine ⟨hl,fun _=>⟨_,0,rfl,by simp,fun j u hu=>?_⟩⟩
 have:=cells_row (heap_alloc_new w (.cells cs e)) ys hx j u hu
 rwa [Go.WideShapes.add_plain] at this
def actsG (g:Gt) (q:Int):Bool:=hasI ((qsOf g).take (ar g.k)) q
theorem ActsOn_spec (k a b c q:Int) (w:World):Calls Tryz.prog 183 #[.agg #[.int .i64 k,.int .i64 a,.int .i64 b,.int .i64 c],.int .i64 q] w fun e w' =>
  e=.returned (.bool (actsG ⟨k,a,b,c⟩ q))∧Below w.heap.size w w'∧w.heap.size≤w'.heap.size:=by
 have har:=ar_le k
 have HL:Hid (([a,b,c].take (ar k)).length=ar k):=hD (by rw[List.length_take];simp;omega)
 go_enter Tryz.func183,Tryz.ntmps183
 go_wp2_with fail
 refine(GateQubits_spec _ _ _ _ _).mono ?_
 rintro e w1 ⟨v1,rfl,own1,b1,s1⟩
 simp at s1
 obtain ⟨A1,c1,rfl,_,_,r1⟩:=rd_of_own own1
 go_wp2_with fail
 refine(l1HasInt_any _ _ _ ([a,b,c].take (ar k)) _ _ r1 HL.out Zq6).mono ?_
 rintro e w2 ⟨rfl,rfl⟩
 go_wp2_with fail
 go_ret
 exact ⟨rfl,Zq0,Zq5⟩
def RetRd (size:Nat) (w:World) (n:Nat) (xs:List Value) (e:Ending) (w':World):Prop :=
 ∃ A c,e=.returned (.slice A n c)∧Rd w' size A n xs∧Below w.heap.size w w'∧w.heap.size≤w'.heap.size
theorem GateQubits_impl (k a b c:Int) (w:World):Calls Tryz.prog 192 #[.agg #[.int .i64 k,.int .i64 a,.int .i64 b,.int .i64 c]] w
  (RetRd 1 w (ar k) (([a,b,c].take (ar k)).map (Value.int .i64))):=by
 have har:=ar_le k
 obtain ⟨m,hm⟩:∃ m,m=ar k:=⟨_,rfl⟩
 have HM:=hD hm
 rw[←hm] at har ⊢
 clear hm
 have hm4:m=0∨m=1∨m=2∨m=3:=by omega
 clear har
 rcases hm4 with rfl|rfl|rfl|rfl
 ·go_enter Tryz.func192,Tryz.ntmps192
  go_wp2_with fail
  obtain ⟨w0,hw0⟩:∃ w0,w0=w.alloc (.cells #[.int .i64 k,.int .i64 a,.int .i64 b,.int .i64 c] 102):=⟨_,rfl⟩
  rw[←hw0]
  have x0:Hid (w0.heap[w.heap.size]?=some (.cells #[.int .i64 k,.int .i64 a,.int .i64 b,.int .i64 c] 102 (0,0))):=by rw[hw0];exact boxed1_0 _ _
  have b0:Below w.heap.size w w0:=by rw[hw0];exact Zq0
  have s0:w.heap.size<w0.heap.size:=by rw[hw0];simp
  clear hw0
  obtain ⟨p0,p1,p2,p3⟩:=boxcells4 (lay:=Below.refl _ _) x0.out
  go_region_held3 (fun W=>W.cell? ⟨w.heap.size,0,none⟩=some (.int .i64 k)∧W.cell? ⟨w.heap.size,1,none⟩=some (.int .i64 a)∧W.cell? ⟨w.heap.size,2,none⟩=some (.int .i64 b)∧W.cell? ⟨w.heap.size,3,none⟩=some (.int .i64 c))
   (first|exact ⟨p0,p1,p2,p3⟩|(refine ⟨?_,?_,?_,?_⟩ <;> (go_simp)))
   (first|(go_at_call 101;(with_reducible refine(Arity_impl _ _).mono ?_);rintro e w' ⟨rfl,rfl⟩;rw[←HM.out]))
  all_goals go_wp2_with fail
  all_goals go_ret
  all_goals exact ⟨_,_,rfl,rd_pre [.int .i64 a,.int .i64 b,.int .i64 c] rfl rfl rfl,Zq0,Zq5⟩
 ·go_enter Tryz.func192,Tryz.ntmps192
  go_wp2_with fail
  obtain ⟨w0,hw0⟩:∃ w0,w0=w.alloc (.cells #[.int .i64 k,.int .i64 a,.int .i64 b,.int .i64 c] 102):=⟨_,rfl⟩
  rw[←hw0]
  have x0:Hid (w0.heap[w.heap.size]?=some (.cells #[.int .i64 k,.int .i64 a,.int .i64 b,.int .i64 c] 102 (0,0))):=by rw[hw0];exact boxed1_0 _ _
  have b0:Below w.heap.size w w0:=by rw[hw0];exact Zq0
  have s0:w.heap.size<w0.heap.size:=by rw[hw0];simp
  clear hw0
  obtain ⟨p0,p1,p2,p3⟩:=boxcells4 (lay:=Below.refl _ _) x0.out
  go_region_held3 (fun W=>W.cell? ⟨w.heap.size,0,none⟩=some (.int .i64 k)∧W.cell? ⟨w.heap.size,1,none⟩=some (.int .i64 a)∧W.cell? ⟨w.heap.size,2,none⟩=some (.int .i64 b)∧W.cell? ⟨w.heap.size,3,none⟩=some (.int .i64 c))
   (first|exact ⟨p0,p1,p2,p3⟩|(refine ⟨?_,?_,?_,?_⟩ <;> (go_simp)))
   (first|(go_at_call 101;(with_reducible refine(Arity_impl _ _).mono ?_);rintro e w' ⟨rfl,rfl⟩;rw[←HM.out]))
  all_goals go_wp2_with fail
  all_goals go_ret
  all_goals exact ⟨_,_,rfl,rd_pre [.int .i64 b,.int .i64 c] rfl rfl rfl,Zq0,Zq5⟩
 ·go_enter Tryz.func192,Tryz.ntmps192
  go_wp2_with fail
  obtain ⟨w0,hw0⟩:∃ w0,w0=w.alloc (.cells #[.int .i64 k,.int .i64 a,.int .i64 b,.int .i64 c] 102):=⟨_,rfl⟩
  rw[←hw0]
  have x0:Hid (w0.heap[w.heap.size]?=some (.cells #[.int .i64 k,.int .i64 a,.int .i64 b,.int .i64 c] 102 (0,0))):=by rw[hw0];exact boxed1_0 _ _
  have b0:Below w.heap.size w w0:=by rw[hw0];exact Zq0
  have s0:w.heap.size<w0.heap.size:=by rw[hw0];simp
  clear hw0
  obtain ⟨p0,p1,p2,p3⟩:=boxcells4 (lay:=Below.refl _ _) x0.out
  go_region_held3 (fun W=>W.cell? ⟨w.heap.size,0,none⟩=some (.int .i64 k)∧W.cell? ⟨w.heap.size,1,none⟩=some (.int .i64 a)∧W.cell? ⟨w.heap.size,2,none⟩=some (.int .i64 b)∧W.cell? ⟨w.heap.size,3,none⟩=some (.int .i64 c))
   (first|exact ⟨p0,p1,p2,p3⟩|(refine ⟨?_,?_,?_,?_⟩ <;> (go_simp)))
   (first|(go_at_call 101;(with_reducible refine(Arity_impl _ _).mono ?_);rintro e w' ⟨rfl,rfl⟩;rw[←HM.out]))
  all_goals go_wp2_with fail
  all_goals go_ret
  all_goals exact ⟨_,_,rfl,rd_pre [.int .i64 c] rfl rfl rfl,Zq0,Zq5⟩
 ·go_enter Tryz.func192,Tryz.ntmps192
  go_wp2_with fail
  obtain ⟨w0,hw0⟩:∃ w0,w0=w.alloc (.cells #[.int .i64 k,.int .i64 a,.int .i64 b,.int .i64 c] 102):=⟨_,rfl⟩
  rw[←hw0]
  have x0:Hid (w0.heap[w.heap.size]?=some (.cells #[.int .i64 k,.int .i64 a,.int .i64 b,.int .i64 c] 102 (0,0))):=by rw[hw0];exact boxed1_0 _ _
  have b0:Below w.heap.size w w0:=by rw[hw0];exact Zq0
  have s0:w.heap.size<w0.heap.size:=by rw[hw0];simp
  clear hw0
  obtain ⟨p0,p1,p2,p3⟩:=boxcells4 (lay:=Below.refl _ _) x0.out
  go_region_held3 (fun W=>W.cell? ⟨w.heap.size,0,none⟩=some (.int .i64 k)∧W.cell? ⟨w.heap.size,1,none⟩=some (.int .i64 a)∧W.cell? ⟨w.heap.size,2,none⟩=some (.int .i64 b)∧W.cell? ⟨w.heap.size,3,none⟩=some (.int .i64 c))
   (first|exact ⟨p0,p1,p2,p3⟩|(refine ⟨?_,?_,?_,?_⟩ <;> (go_simp)))
   (first|(go_at_call 101;(with_reducible refine(Arity_impl _ _).mono ?_);rintro e w' ⟨rfl,rfl⟩;rw[←HM.out]))
  all_goals go_wp2_with fail
  all_goals go_ret
  all_goals exact ⟨_,_,rfl,rd_pre [] rfl rfl rfl,Zq0,Zq5⟩
theorem ActsOn_impl (k a b c q:Int) (w:World):Calls Tryz.prog 186 #[.agg #[.int .i64 k,.int .i64 a,.int .i64 b,.int .i64 c],.int .i64 q] w fun e w' =>
  e=.returned (.bool (actsG ⟨k,a,b,c⟩ q))∧Below w.heap.size w w'∧w.heap.size≤w'.heap.size:=by
 have har:=ar_le k
 obtain ⟨xs,hxs⟩:∃ xs,xs=[a,b,c].take (ar k):=⟨_,rfl⟩
 have HL:Hid (xs.length=ar k):=hD (by rw[hxs,List.length_take];simp;omega)
 have HA:Hid (actsG ⟨k,a,b,c⟩ q=hasI xs q):=hD (by rw[hxs];rfl)
 have HX:=hD hxs
 clear hxs
 obtain ⟨m,hm⟩:∃ m,m=ar k:=⟨_,rfl⟩
 have HM:=hD hm
 rw[←hm] at HL har
 clear hm
 go_enter Tryz.func186,Tryz.ntmps186
 go_wp2_with fail
 refine(GateQubits_impl _ _ _ _ _).mono ?_
 rintro e w1 ⟨A1,c1,rfl,r1,b1,s1⟩
 simp at s1
 rw[←HX.out,←HM.out] at r1
 rw[←HM.out]
 have R1:=hD r1
 clear r1
 go_wp2_with fail
 go_loop [10] (fun i=>∃ t:Nat,t≤m∧i=.int .i64 t∧hasI (xs.take t) q=false) (fun i=>m - (intOf i).toNat)
 case atStart=>exact ⟨0,Nat.zero_le _,rfl,by simp [hasI]⟩
 case round =>
  obtain ⟨t,ht,rfl,hno⟩:=hrel
  have HN:=hD hno
  clear hno
  by_cases hlt:t<m
  ·obtain ⟨b',off,rfl,_,hc⟩:=R1.out.2 Zq6
   have q0:=hc t _ (ints_at xs t (by rw[HL.out];exact hlt))
   clear hc
   obtain ⟨y,hy⟩:∃ y,y=xs.getD t 0:=⟨_,rfl⟩
   rw[←hy] at q0
   have HY:=hD hy
   clear hy
   cases he:(y==q)
   ·go_wp2
    go_round
    case rel=>exact ⟨t+1,by omega,by go_num,contains_snoc_f (by rw[HL.out];exact hlt) HN.out (by rw[←HY.out];exact he)⟩
    case measure=>simp [intOf];omega
   ·have HF:Hid (hasI xs q=true):=hD (contains_at (by rw[HL.out];exact hlt) (by rw[←HY.out];exact he))
    go_wp2
    go_ret
    exact ⟨by rw[HA.out,HF.out];rfl,Zq0,Zq5⟩
  ·obtain rfl:t=m:=by omega
   have HF:Hid (hasI xs q=false):=by
    have h:=HN.out
    rw[List.take_of_length_le (by rw[HL.out];exact Nat.le_refl _)] at h
    exact h
   go_wp2
   go_ret
   exact ⟨by rw[HA.out,HF.out];rfl,Zq0,Zq5⟩
def g1 (k a:Int):Gt:=⟨k,a,0,0⟩
def gcx (a b:Int):Gt:=⟨9,a,b,0⟩
def RetRow2 (E size:Nat) (w:World) (ok:Bool) (n:Nat) (xs:List Value) (e:Ending) (w':World):Prop :=
 ∃ v,e=.returned (.tuple #[v,.bool ok])∧w'.ownsRow w.heap.size E size v n xs∧Below w.heap.size w w'∧w.heap.size≤w'.heap.size
theorem retRow2_lit {E size n b:Nat} {ok:Bool} {w W:World} {cs:Array Value} {xs:List Value} (hB:w.heap.size≤W.heap.size) (hb:Below w.heap.size w W) (hs:cs.size=n*size) (hm:n≤maxLen) (hx:cs.toList=xs) (h0:b=W.heap.size) :
  RetRow2 E size w ok n xs (.returned (.tuple #[.slice (some ⟨b,0,none⟩) n n,.bool ok])) (W.alloc (.cells cs E)):=by
 subst hx h0
 exact ⟨_,rfl,World.ownsRow_lit W cs n hB hm hs,hb.alloc hB _,by simp;omega⟩
theorem retRow2_nil {E size:Nat} {ok:Bool} {w W:World} (hB:w.heap.size≤W.heap.size) (hb:Below w.heap.size w W):RetRow2 E size w ok 0 [] (.returned (.tuple #[.slice none 0 0,.bool ok])) W :=
 ⟨_,rfl,World.ownsRow_nil _ _ _ _,hb,hB⟩
def cgl (q:Int) (g:Gt):Option (List Gt) :=
 match g with
 | ⟨k,a,b,_⟩ =>
  if k=1 then some [gcx q a]
  else if k=2 then some [g1 6 a,gcx q a,g1 5 a]
  else if k=3 then some [⟨10,q,a,0⟩]
  else if k=4 then some [g1 6 a,g1 4 a,g1 8 a,gcx q a,g1 7 a,g1 4 a,g1 5 a]
  else if k=5 then some [g1 7 q,g1 7 a,gcx q a,g1 8 a,gcx q a]
  else if k=6 then some [g1 8 q,g1 8 a,gcx q a,g1 7 a,gcx q a]
  else if k=9 then some [⟨12,q,a,b⟩]
  else if k=10 then some [g1 4 b,⟨12,q,a,b⟩,g1 4 b]
  else if k=11 then some [gcx b a,⟨12,q,a,b⟩,gcx b a]
  else none
def cgate (q:Int) (g:Gt):Option (List Gt):=if validG g 4=true∧inB q 0 3=true∧actsG g q=false then cgl q g else none
theorem cgate_v {q:Int} {g:Gt} (h:validG g 4=false):cgate q g=none:=by simp [cgate,h]
theorem cgate_q {q:Int} {g:Gt} (h:inB q 0 3=false):cgate q g=none:=by simp [cgate,h]
theorem cgate_a {q:Int} {g:Gt} (h:actsG g q=true):cgate q g=none:=by simp [cgate,h]
theorem cgate_t {q:Int} {g:Gt} (h1:validG g 4=true) (h2:inB q 0 3=true) (h3:actsG g q=false):cgate q g=cgl q g:=by simp [cgate,h1,h2,h3]
theorem valid_k {g:Gt} {n:Int} (h:validG g n=true):1≤g.k∧g.k≤12:=by
 have hk:ar g.k≠0:=fun e=>by rw[validG_k e] at h;cases h
 unfold ar at hk
 split at hk
 ·rename_i h1;have:=inB_iff.1 h1;omega
 ·split at hk
  ·rename_i h1;have:=inB_iff.1 h1;omega
  ·split at hk
   ·omega
   ·omega
theorem ControlledGate_impl (q k a b c:Int) (w:World):Calls Tryz.prog 176 #[.int .i64 q,.agg #[.int .i64 k,.int .i64 a,.int .i64 b,.int .i64 c]] w
  (RetRow2 102 4 w (cgate q ⟨k,a,b,c⟩).isSome ((cgate q ⟨k,a,b,c⟩).getD []).length (((cgate q ⟨k,a,b,c⟩).getD []).flatMap gcells)):=by
 cases hv:validG ⟨k,a,b,c⟩ 4
 ·have hcg:=cgate_v (q:=q) hv
  rw[hcg]
  go_enter Tryz.func176,Tryz.ntmps176
  go_wp2_with (first|(go_at_call 126;refine(IsValidGate_impl _ _ _ _ _ _).mono ?_;rintro e w1 ⟨rfl,b1,s1⟩;simp at s1;obtain ⟨p0,p1,p2,p3⟩:=boxcells4 (lay:=b1) (boxed1_0 _ _))|(go_at_call 44;refine(in_any _ _ _ _).mono ?_;rintro e w' ⟨rfl,rfl⟩)|(go_at_call 186;refine(ActsOn_impl _ _ _ _ _ _).mono ?_;rintro e w2 ⟨rfl,b2,s2⟩;obtain ⟨q0,q1,q2,q3⟩:=boxcells4 (lay:=b1.trans (b2.mono b1.size)) (boxed1_0 _ _);have hlt:w.heap.size<w2.heap.size:=by omega)|(go_at_call 188;refine(one_any _ _ _).mono ?_;rintro e w' ⟨rfl,hb,hs⟩;(try simp at hs))|(go_at_call 187;refine(cx_any _ _ _).mono ?_;rintro e w' ⟨rfl,hb,hs⟩;(try simp at hs)))
  go_ret2
  exact retRow2_nil Zq5 Zq0
 cases hq:inB q 0 3
 ·have hcg:=cgate_q (g:=⟨k,a,b,c⟩) hq
  rw[hcg]
  go_enter Tryz.func176,Tryz.ntmps176
  go_wp2_with (first|(go_at_call 126;refine(IsValidGate_impl _ _ _ _ _ _).mono ?_;rintro e w1 ⟨rfl,b1,s1⟩;simp at s1;obtain ⟨p0,p1,p2,p3⟩:=boxcells4 (lay:=b1) (boxed1_0 _ _))|(go_at_call 44;refine(in_any _ _ _ _).mono ?_;rintro e w' ⟨rfl,rfl⟩)|(go_at_call 186;refine(ActsOn_impl _ _ _ _ _ _).mono ?_;rintro e w2 ⟨rfl,b2,s2⟩;obtain ⟨q0,q1,q2,q3⟩:=boxcells4 (lay:=b1.trans (b2.mono b1.size)) (boxed1_0 _ _);have hlt:w.heap.size<w2.heap.size:=by omega)|(go_at_call 188;refine(one_any _ _ _).mono ?_;rintro e w' ⟨rfl,hb,hs⟩;(try simp at hs))|(go_at_call 187;refine(cx_any _ _ _).mono ?_;rintro e w' ⟨rfl,hb,hs⟩;(try simp at hs)))
  go_ret2
  exact retRow2_nil Zq5 Zq0
 cases ha:actsG ⟨k,a,b,c⟩ q
 rotate_left
 ·have hcg:=cgate_a ha
  rw[hcg]
  go_enter Tryz.func176,Tryz.ntmps176
  go_wp2_with (first|(go_at_call 126;refine(IsValidGate_impl _ _ _ _ _ _).mono ?_;rintro e w1 ⟨rfl,b1,s1⟩;simp at s1;obtain ⟨p0,p1,p2,p3⟩:=boxcells4 (lay:=b1) (boxed1_0 _ _))|(go_at_call 44;refine(in_any _ _ _ _).mono ?_;rintro e w' ⟨rfl,rfl⟩)|(go_at_call 186;refine(ActsOn_impl _ _ _ _ _ _).mono ?_;rintro e w2 ⟨rfl,b2,s2⟩;obtain ⟨q0,q1,q2,q3⟩:=boxcells4 (lay:=b1.trans (b2.mono b1.size)) (boxed1_0 _ _);have hlt:w.heap.size<w2.heap.size:=by omega)|(go_at_call 188;refine(one_any _ _ _).mono ?_;rintro e w' ⟨rfl,hb,hs⟩;(try simp at hs))|(go_at_call 187;refine(cx_any _ _ _).mono ?_;rintro e w' ⟨rfl,hb,hs⟩;(try simp at hs)))
  go_ret2
  exact retRow2_nil Zq5 Zq0
 have hcg:=cgate_t hv hq ha
 have hkk:=valid_k hv
 simp only at hkk
 have hk:k=1∨k=2∨k=3∨k=4∨k=5∨k=6∨k=7∨k=8∨k=9∨k=10∨k=11∨k=12:=by omega
 clear hkk
 rcases hk with rfl|rfl|rfl|rfl|rfl|rfl|rfl|rfl|rfl|rfl|rfl|rfl
 rw[show cgl q ⟨1,a,b,c⟩=some [gcx q a] from rfl] at hcg
 rotate_left
 rw[show cgl q ⟨2,a,b,c⟩=some [g1 6 a,gcx q a,g1 5 a] from rfl] at hcg
 rotate_left
 rw[show cgl q ⟨3,a,b,c⟩=some [⟨10,q,a,0⟩] from rfl] at hcg
 rotate_left
 rw[show cgl q ⟨4,a,b,c⟩=some [g1 6 a,g1 4 a,g1 8 a,gcx q a,g1 7 a,g1 4 a,g1 5 a] from rfl] at hcg
 rotate_left
 rw[show cgl q ⟨5,a,b,c⟩=some [g1 7 q,g1 7 a,gcx q a,g1 8 a,gcx q a] from rfl] at hcg
 rotate_left
 rw[show cgl q ⟨6,a,b,c⟩=some [g1 8 q,g1 8 a,gcx q a,g1 7 a,gcx q a] from rfl] at hcg
 rotate_left
 ·rw[show cgl q ⟨7,a,b,c⟩=none from rfl] at hcg
  rw[hcg]
  clear hcg
  go_enter Tryz.func176,Tryz.ntmps176
  go_wp2_with (first|(go_at_call 126;refine(IsValidGate_impl _ _ _ _ _ _).mono ?_;rintro e w1 ⟨rfl,b1,s1⟩;simp at s1;obtain ⟨p0,p1,p2,p3⟩:=boxcells4 (lay:=b1) (boxed1_0 _ _))|(go_at_call 44;refine(in_any _ _ _ _).mono ?_;rintro e w' ⟨rfl,rfl⟩)|(go_at_call 186;refine(ActsOn_impl _ _ _ _ _ _).mono ?_;rintro e w2 ⟨rfl,b2,s2⟩;obtain ⟨q0,q1,q2,q3⟩:=boxcells4 (lay:=b1.trans (b2.mono b1.size)) (boxed1_0 _ _);have hlt:w.heap.size<w2.heap.size:=by omega)|(go_at_call 188;refine(one_any _ _ _).mono ?_;rintro e w' ⟨rfl,hb,hs⟩;(try simp at hs))|(go_at_call 187;refine(cx_any _ _ _).mono ?_;rintro e w' ⟨rfl,hb,hs⟩;(try simp at hs)))
  go_ret2
  exact retRow2_nil Zq5 Zq0
 ·rw[show cgl q ⟨8,a,b,c⟩=none from rfl] at hcg
  rw[hcg]
  clear hcg
  go_enter Tryz.func176,Tryz.ntmps176
  go_wp2_with (first|(go_at_call 126;refine(IsValidGate_impl _ _ _ _ _ _).mono ?_;rintro e w1 ⟨rfl,b1,s1⟩;simp at s1;obtain ⟨p0,p1,p2,p3⟩:=boxcells4 (lay:=b1) (boxed1_0 _ _))|(go_at_call 44;refine(in_any _ _ _ _).mono ?_;rintro e w' ⟨rfl,rfl⟩)|(go_at_call 186;refine(ActsOn_impl _ _ _ _ _ _).mono ?_;rintro e w2 ⟨rfl,b2,s2⟩;obtain ⟨q0,q1,q2,q3⟩:=boxcells4 (lay:=b1.trans (b2.mono b1.size)) (boxed1_0 _ _);have hlt:w.heap.size<w2.heap.size:=by omega)|(go_at_call 188;refine(one_any _ _ _).mono ?_;rintro e w' ⟨rfl,hb,hs⟩;(try simp at hs))|(go_at_call 187;refine(cx_any _ _ _).mono ?_;rintro e w' ⟨rfl,hb,hs⟩;(try simp at hs)))
  go_ret2
  exact retRow2_nil Zq5 Zq0
 rw[show cgl q ⟨9,a,b,c⟩=some [⟨12,q,a,b⟩] from rfl] at hcg
 rotate_left
 rw[show cgl q ⟨10,a,b,c⟩=some [g1 4 b,⟨12,q,a,b⟩,g1 4 b] from rfl] at hcg
 rotate_left
 rw[show cgl q ⟨11,a,b,c⟩=some [gcx b a,⟨12,q,a,b⟩,gcx b a] from rfl] at hcg
 rotate_left
 ·rw[show cgl q ⟨12,a,b,c⟩=none from rfl] at hcg
  rw[hcg]
  clear hcg
  go_enter Tryz.func176,Tryz.ntmps176
  go_wp2_with (first|(go_at_call 126;refine(IsValidGate_impl _ _ _ _ _ _).mono ?_;rintro e w1 ⟨rfl,b1,s1⟩;simp at s1;obtain ⟨p0,p1,p2,p3⟩:=boxcells4 (lay:=b1) (boxed1_0 _ _))|(go_at_call 44;refine(in_any _ _ _ _).mono ?_;rintro e w' ⟨rfl,rfl⟩)|(go_at_call 186;refine(ActsOn_impl _ _ _ _ _ _).mono ?_;rintro e w2 ⟨rfl,b2,s2⟩;obtain ⟨q0,q1,q2,q3⟩:=boxcells4 (lay:=b1.trans (b2.mono b1.size)) (boxed1_0 _ _);have hlt:w.heap.size<w2.heap.size:=by omega)|(go_at_call 188;refine(one_any _ _ _).mono ?_;rintro e w' ⟨rfl,hb,hs⟩;(try simp at hs))|(go_at_call 187;refine(cx_any _ _ _).mono ?_;rintro e w' ⟨rfl,hb,hs⟩;(try simp at hs)))
  go_ret2
  exact retRow2_nil Zq5 Zq0
 all_goals
  rw[hcg]
  clear hcg
  go_enter Tryz.func176,Tryz.ntmps176
  go_wp2_with (first|(go_at_call 126;refine(IsValidGate_impl _ _ _ _ _ _).mono ?_;rintro e w1 ⟨rfl,b1,s1⟩;simp at s1;obtain ⟨p0,p1,p2,p3⟩:=boxcells4 (lay:=b1) (boxed1_0 _ _))|(go_at_call 44;refine(in_any _ _ _ _).mono ?_;rintro e w' ⟨rfl,rfl⟩)|(go_at_call 186;refine(ActsOn_impl _ _ _ _ _ _).mono ?_;rintro e w2 ⟨rfl,b2,s2⟩;obtain ⟨q0,q1,q2,q3⟩:=boxcells4 (lay:=b1.trans (b2.mono b1.size)) (boxed1_0 _ _);have hlt:w.heap.size<w2.heap.size:=by omega)|(go_at_call 188;refine(one_any _ _ _).mono ?_;rintro e w' ⟨rfl,hb,hs⟩;(try simp at hs))|(go_at_call 187;refine(cx_any _ _ _).mono ?_;rintro e w' ⟨rfl,hb,hs⟩;(try simp at hs)))
  go_ret2
  refine retRow2_lit ?_ ?_ ?_ ?_ ?_ ?_
  ·exact Zq5
  ·exact Zq0
  ·rfl
  ·simp [maxLen]
  ·rfl
  ·first|rfl|simp
theorem ControlledGate_spec (q k a b c:Int) (w:World):Calls Tryz.prog 169 #[.int .i64 q,.agg #[.int .i64 k,.int .i64 a,.int .i64 b,.int .i64 c]] w
  (RetRow2 102 4 w (cgate q ⟨k,a,b,c⟩).isSome ((cgate q ⟨k,a,b,c⟩).getD []).length (((cgate q ⟨k,a,b,c⟩).getD []).flatMap gcells)):=by
 cases hv:validG ⟨k,a,b,c⟩ 4
 ·have hcg:=cgate_v (q:=q) hv
  rw[hcg]
  go_enter Tryz.func169,Tryz.ntmps169
  go_wp2_with (first|(go_at_call 147;refine(IsValidGate_spec _ _ _ _ _ _).mono ?_;rintro e w1 ⟨rfl,b1,s1⟩;simp at s1;obtain ⟨p0,p1,p2,p3⟩:=boxcells4 (lay:=b1) (boxed1_0 _ _))|(go_at_call 47;refine(l1In_any _ _ _ _).mono ?_;rintro e w' ⟨rfl,rfl⟩)|(go_at_call 183;refine(ActsOn_spec _ _ _ _ _ _).mono ?_;rintro e w2 ⟨rfl,b2,s2⟩;obtain ⟨q0,q1,q2,q3⟩:=boxcells4 (lay:=b1.trans (b2.mono b1.size)) (boxed1_0 _ _);have hlt:w.heap.size<w2.heap.size:=by omega)|(go_at_call 185;refine(l14One_any _ _ _).mono ?_;rintro e w' ⟨rfl,hb,hs⟩;(try simp at hs);(try (obtain ⟨r0,r1,r2,r3⟩:=boxcells4 (lay:=hb) (boxed1_0 w2 _))))|(go_at_call 184;refine(l14Cx_any _ _ _).mono ?_;rintro e w' ⟨rfl,hb,hs⟩;(try simp at hs);(try (obtain ⟨r0,r1,r2,r3⟩:=boxcells4 (lay:=hb) (boxed1_0 w2 _)))))
  go_ret2
  refine retRow2_lit ?_ ?_ ?_ ?_ ?_ ?_
  ·exact Zq5
  ·exact Zq0
  ·rfl
  ·simp [maxLen]
  ·rfl
  ·first|rfl|simp
 cases hq:inB q 0 3
 ·have hcg:=cgate_q (g:=⟨k,a,b,c⟩) hq
  rw[hcg]
  go_enter Tryz.func169,Tryz.ntmps169
  go_wp2_with (first|(go_at_call 147;refine(IsValidGate_spec _ _ _ _ _ _).mono ?_;rintro e w1 ⟨rfl,b1,s1⟩;simp at s1;obtain ⟨p0,p1,p2,p3⟩:=boxcells4 (lay:=b1) (boxed1_0 _ _))|(go_at_call 47;refine(l1In_any _ _ _ _).mono ?_;rintro e w' ⟨rfl,rfl⟩)|(go_at_call 183;refine(ActsOn_spec _ _ _ _ _ _).mono ?_;rintro e w2 ⟨rfl,b2,s2⟩;obtain ⟨q0,q1,q2,q3⟩:=boxcells4 (lay:=b1.trans (b2.mono b1.size)) (boxed1_0 _ _);have hlt:w.heap.size<w2.heap.size:=by omega)|(go_at_call 185;refine(l14One_any _ _ _).mono ?_;rintro e w' ⟨rfl,hb,hs⟩;(try simp at hs);(try (obtain ⟨r0,r1,r2,r3⟩:=boxcells4 (lay:=hb) (boxed1_0 w2 _))))|(go_at_call 184;refine(l14Cx_any _ _ _).mono ?_;rintro e w' ⟨rfl,hb,hs⟩;(try simp at hs);(try (obtain ⟨r0,r1,r2,r3⟩:=boxcells4 (lay:=hb) (boxed1_0 w2 _)))))
  go_ret2
  refine retRow2_lit ?_ ?_ ?_ ?_ ?_ ?_
  ·exact Zq5
  ·exact Zq0
  ·rfl
  ·simp [maxLen]
  ·rfl
  ·first|rfl|simp
 cases ha:actsG ⟨k,a,b,c⟩ q
 rotate_left
 ·have hcg:=cgate_a ha
  rw[hcg]
  go_enter Tryz.func169,Tryz.ntmps169
  go_wp2_with (first|(go_at_call 147;refine(IsValidGate_spec _ _ _ _ _ _).mono ?_;rintro e w1 ⟨rfl,b1,s1⟩;simp at s1;obtain ⟨p0,p1,p2,p3⟩:=boxcells4 (lay:=b1) (boxed1_0 _ _))|(go_at_call 47;refine(l1In_any _ _ _ _).mono ?_;rintro e w' ⟨rfl,rfl⟩)|(go_at_call 183;refine(ActsOn_spec _ _ _ _ _ _).mono ?_;rintro e w2 ⟨rfl,b2,s2⟩;obtain ⟨q0,q1,q2,q3⟩:=boxcells4 (lay:=b1.trans (b2.mono b1.size)) (boxed1_0 _ _);have hlt:w.heap.size<w2.heap.size:=by omega)|(go_at_call 185;refine(l14One_any _ _ _).mono ?_;rintro e w' ⟨rfl,hb,hs⟩;(try simp at hs);(try (obtain ⟨r0,r1,r2,r3⟩:=boxcells4 (lay:=hb) (boxed1_0 w2 _))))|(go_at_call 184;refine(l14Cx_any _ _ _).mono ?_;rintro e w' ⟨rfl,hb,hs⟩;(try simp at hs);(try (obtain ⟨r0,r1,r2,r3⟩:=boxcells4 (lay:=hb) (boxed1_0 w2 _)))))
  go_ret2
  refine retRow2_lit ?_ ?_ ?_ ?_ ?_ ?_
  ·exact Zq5
  ·exact Zq0
  ·rfl
  ·simp [maxLen]
  ·rfl
  ·first|rfl|simp
 have hcg:=cgate_t hv hq ha
 have hkk:=valid_k hv
 simp only at hkk
 have hk:k=1∨k=2∨k=3∨k=4∨k=5∨k=6∨k=7∨k=8∨k=9∨k=10∨k=11∨k=12:=by omega
 clear hkk
 rcases hk with rfl|rfl|rfl|rfl|rfl|rfl|rfl|rfl|rfl|rfl|rfl|rfl
 rw[show cgl q ⟨1,a,b,c⟩=some [gcx q a] from rfl] at hcg
 rotate_left
 rw[show cgl q ⟨2,a,b,c⟩=some [g1 6 a,gcx q a,g1 5 a] from rfl] at hcg
 rotate_left
 rw[show cgl q ⟨3,a,b,c⟩=some [⟨10,q,a,0⟩] from rfl] at hcg
 rotate_left
 rw[show cgl q ⟨4,a,b,c⟩=some [g1 6 a,g1 4 a,g1 8 a,gcx q a,g1 7 a,g1 4 a,g1 5 a] from rfl] at hcg
 rotate_left
 rw[show cgl q ⟨5,a,b,c⟩=some [g1 7 q,g1 7 a,gcx q a,g1 8 a,gcx q a] from rfl] at hcg
 rotate_left
 rw[show cgl q ⟨6,a,b,c⟩=some [g1 8 q,g1 8 a,gcx q a,g1 7 a,gcx q a] from rfl] at hcg
 rotate_left
 rw[show cgl q ⟨7,a,b,c⟩=none from rfl] at hcg
 rotate_left
 rw[show cgl q ⟨8,a,b,c⟩=none from rfl] at hcg
 rotate_left
 rw[show cgl q ⟨9,a,b,c⟩=some [⟨12,q,a,b⟩] from rfl] at hcg
 rotate_left
 ·rw[show cgl q ⟨10,a,b,c⟩=some [g1 4 b,⟨12,q,a,b⟩,g1 4 b] from rfl] at hcg
  rw[hcg]
  clear hcg
  go_enter Tryz.func169,Tryz.ntmps169
  go_wp2_with (first|(go_at_call 147;refine(IsValidGate_spec _ _ _ _ _ _).mono ?_;rintro e w1 ⟨rfl,b1,s1⟩;simp at s1;obtain ⟨p0,p1,p2,p3⟩:=boxcells4 (lay:=b1) (boxed1_0 _ _))|(go_at_call 47;refine(l1In_any _ _ _ _).mono ?_;rintro e w' ⟨rfl,rfl⟩)|(go_at_call 183;refine(ActsOn_spec _ _ _ _ _ _).mono ?_;rintro e w2 ⟨rfl,b2,s2⟩;obtain ⟨q0,q1,q2,q3⟩:=boxcells4 (lay:=b1.trans (b2.mono b1.size)) (boxed1_0 _ _);have hlt:w.heap.size<w2.heap.size:=by omega)|(go_at_call 185;refine(l14One_any _ _ _).mono ?_;rintro e w' ⟨rfl,hb,hs⟩;(try simp at hs);(try (obtain ⟨r0,r1,r2,r3⟩:=boxcells4 (lay:=hb) (boxed1_0 w2 _))))|(go_at_call 184;refine(l14Cx_any _ _ _).mono ?_;rintro e w' ⟨rfl,hb,hs⟩;(try simp at hs);(try (obtain ⟨r0,r1,r2,r3⟩:=boxcells4 (lay:=hb) (boxed1_0 w2 _)))))
  obtain ⟨t0,t1,t2,t3⟩:=boxcells4 (lay:=Below.refl _ _) (boxed1_0 w2 (.cells #[.int .i64 12,.int .i64 q,.int .i64 a,.int .i64 b] 102))
  go_region_held3 (fun W=>W.cell? ⟨w2.heap.size,0,none⟩=some (.int .i64 12)∧W.cell? ⟨w2.heap.size,1,none⟩=some (.int .i64 q)∧W.cell? ⟨w2.heap.size,2,none⟩=some (.int .i64 a)∧W.cell? ⟨w2.heap.size,3,none⟩=some (.int .i64 b))
   (first|exact ⟨t0,t1,t2,t3⟩|exact ⟨x0,x1,x2,x3⟩|exact ⟨y0,y1,y2,y3⟩|(refine ⟨?_,?_,?_,?_⟩ <;> go_simp))
   (first|(have _t:=t0;go_at_call 185;(with_reducible refine(l14One_any _ _ _).mono ?_);rintro e w3 ⟨rfl,hb3,hs3⟩;have b3:=below_undrew hb3;have s3:=b3.size;(try simp at s3);obtain ⟨x0,x1,x2,x3⟩:=boxcells4 (lay:=b3) (boxed1_0 w2 _);clear hb3 hs3 t0)|(go_at_call 185;(with_reducible refine(l14One_any _ _ _).mono ?_);rintro e w4 ⟨rfl,b4,s4⟩;obtain ⟨y0,y1,y2,y3⟩:=boxcells4 (lay:=b3.trans (b4.mono b3.size)) (boxed1_0 w2 _);have lt4:w2.heap.size<w4.heap.size:=by omega))
  all_goals go_wp2_with fail
  all_goals go_ret2
  all_goals (refine retRow2_lit ?_ ?_ ?_ ?_ ?_ ?_)
  all_goals first|rfl|omega|(simp [maxLen];done)|(simp;omega)|exact((((((Below.refl _ _).alloc (Nat.le_refl _) _).trans (b1.mono Zq11)).trans (b2.mono Zq6)).alloc Zq6 _).trans (b3.mono Zq9)).trans (b4.mono Zq6)
 ·rw[show cgl q ⟨11,a,b,c⟩=some [gcx b a,⟨12,q,a,b⟩,gcx b a] from rfl] at hcg
  rw[hcg]
  clear hcg
  go_enter Tryz.func169,Tryz.ntmps169
  go_wp2_with (first|(go_at_call 147;refine(IsValidGate_spec _ _ _ _ _ _).mono ?_;rintro e w1 ⟨rfl,b1,s1⟩;simp at s1;obtain ⟨p0,p1,p2,p3⟩:=boxcells4 (lay:=b1) (boxed1_0 _ _))|(go_at_call 47;refine(l1In_any _ _ _ _).mono ?_;rintro e w' ⟨rfl,rfl⟩)|(go_at_call 183;refine(ActsOn_spec _ _ _ _ _ _).mono ?_;rintro e w2 ⟨rfl,b2,s2⟩;obtain ⟨q0,q1,q2,q3⟩:=boxcells4 (lay:=b1.trans (b2.mono b1.size)) (boxed1_0 _ _);have hlt:w.heap.size<w2.heap.size:=by omega)|(go_at_call 185;refine(l14One_any _ _ _).mono ?_;rintro e w' ⟨rfl,hb,hs⟩;(try simp at hs);(try (obtain ⟨r0,r1,r2,r3⟩:=boxcells4 (lay:=hb) (boxed1_0 w2 _))))|(go_at_call 184;refine(l14Cx_any _ _ _).mono ?_;rintro e w' ⟨rfl,hb,hs⟩;(try simp at hs);(try (obtain ⟨r0,r1,r2,r3⟩:=boxcells4 (lay:=hb) (boxed1_0 w2 _)))))
  obtain ⟨t0,t1,t2,t3⟩:=boxcells4 (lay:=Below.refl _ _) (boxed1_0 w2 (.cells #[.int .i64 12,.int .i64 q,.int .i64 a,.int .i64 b] 102))
  go_region_held3 (fun W=>W.cell? ⟨w2.heap.size,0,none⟩=some (.int .i64 12)∧W.cell? ⟨w2.heap.size,1,none⟩=some (.int .i64 q)∧W.cell? ⟨w2.heap.size,2,none⟩=some (.int .i64 a)∧W.cell? ⟨w2.heap.size,3,none⟩=some (.int .i64 b))
   (first|exact ⟨t0,t1,t2,t3⟩|exact ⟨x0,x1,x2,x3⟩|exact ⟨y0,y1,y2,y3⟩|(refine ⟨?_,?_,?_,?_⟩ <;> go_simp))
   (first|(have _t:=t0;go_at_call 184;(with_reducible refine(l14Cx_any _ _ _).mono ?_);rintro e w3 ⟨rfl,hb3,hs3⟩;have b3:=below_undrew hb3;have s3:=b3.size;(try simp at s3);obtain ⟨x0,x1,x2,x3⟩:=boxcells4 (lay:=b3) (boxed1_0 w2 _);clear hb3 hs3 t0)|(go_at_call 184;(with_reducible refine(l14Cx_any _ _ _).mono ?_);rintro e w4 ⟨rfl,b4,s4⟩;obtain ⟨y0,y1,y2,y3⟩:=boxcells4 (lay:=b3.trans (b4.mono b3.size)) (boxed1_0 w2 _);have lt4:w2.heap.size<w4.heap.size:=by omega))
  all_goals go_wp2_with fail
  all_goals go_ret2
  all_goals (refine retRow2_lit ?_ ?_ ?_ ?_ ?_ ?_)
  all_goals first|rfl|omega|(simp [maxLen];done)|(simp;omega)|exact((((((Below.refl _ _).alloc (Nat.le_refl _) _).trans (b1.mono Zq11)).trans (b2.mono Zq6)).alloc Zq6 _).trans (b3.mono Zq9)).trans (b4.mono Zq6)
 rw[show cgl q ⟨12,a,b,c⟩=none from rfl] at hcg
 rotate_left
 all_goals
  rw[hcg]
  clear hcg
  go_enter Tryz.func169,Tryz.ntmps169
  go_wp2_with (first|(go_at_call 147;refine(IsValidGate_spec _ _ _ _ _ _).mono ?_;rintro e w1 ⟨rfl,b1,s1⟩;simp at s1;obtain ⟨p0,p1,p2,p3⟩:=boxcells4 (lay:=b1) (boxed1_0 _ _))|(go_at_call 47;refine(l1In_any _ _ _ _).mono ?_;rintro e w' ⟨rfl,rfl⟩)|(go_at_call 183;refine(ActsOn_spec _ _ _ _ _ _).mono ?_;rintro e w2 ⟨rfl,b2,s2⟩;obtain ⟨q0,q1,q2,q3⟩:=boxcells4 (lay:=b1.trans (b2.mono b1.size)) (boxed1_0 _ _);have hlt:w.heap.size<w2.heap.size:=by omega)|(go_at_call 185;refine(l14One_any _ _ _).mono ?_;rintro e w' ⟨rfl,hb,hs⟩;(try simp at hs);(try (obtain ⟨r0,r1,r2,r3⟩:=boxcells4 (lay:=hb) (boxed1_0 w2 _))))|(go_at_call 184;refine(l14Cx_any _ _ _).mono ?_;rintro e w' ⟨rfl,hb,hs⟩;(try simp at hs);(try (obtain ⟨r0,r1,r2,r3⟩:=boxcells4 (lay:=hb) (boxed1_0 w2 _)))))
  go_ret2
  refine retRow2_lit ?_ ?_ ?_ ?_ ?_ ?_
  ·exact Zq5
  ·exact Zq0
  ·rfl
  ·simp [maxLen]
  ·rfl
  ·first|rfl|simp
theorem gcells_len (x:Gt):(gcells x).length=4:=rfl
def cgL (q:Int) (g:Gt):List Gt:=(cgate q g).getD []
def cgB (q:Int) (g:Gt):Bool:=(cgate q g).isSome
theorem cgl_len {q:Int} {g:Gt} {L:List Gt} (h:cgl q g=some L):L.length≤7:=by
 obtain ⟨k,a,b,c⟩:=g
 simp only[cgl] at h
 repeat' (split at h)
 all_goals (cases h;try simp)
theorem cgL_len (q:Int) (g:Gt):(cgL q g).length≤7:=by
 unfold cgL cgate
 split
 ·cases h:cgl q g with
  | none=>simp
  | some L=>exact cgl_len h
 ·simp
theorem ControlledGate_impl2 (q k a b c:Int) (w:World):Calls Tryz.prog 176 #[.int .i64 q,.agg #[.int .i64 k,.int .i64 a,.int .i64 b,.int .i64 c]] w
  (RetRow2 102 4 w (cgB q ⟨k,a,b,c⟩) (cgL q ⟨k,a,b,c⟩).length ((cgL q ⟨k,a,b,c⟩).flatMap gcells)):=ControlledGate_impl q k a b c w
theorem ControlledGate_spec2 (q k a b c:Int) (w:World):Calls Tryz.prog 169 #[.int .i64 q,.agg #[.int .i64 k,.int .i64 a,.int .i64 b,.int .i64 c]] w
  (RetRow2 102 4 w (cgB q ⟨k,a,b,c⟩) (cgL q ⟨k,a,b,c⟩).length ((cgL q ⟨k,a,b,c⟩).flatMap gcells)):=ControlledGate_spec q k a b c w
theorem eqOp_same (k gk ga gb gc q b c:Int) (w:World):Calls Tryz.prog 121 #[.agg #[.int .i64 k,.int .i64 gk,.int .i64 ga,.int .i64 gb,.int .i64 gc,.int .i64 q,.int .i64 b,.int .i64 c],.agg #[.int .i64 k,.int .i64 gk,.int .i64 ga,.int .i64 gb,.int .i64 gc,.int .i64 q,.int .i64 b,.int .i64 c]] w fun e w' =>
  e=.returned (.bool true)∧Below w.heap.size w w'∧w.heap.size≤w'.heap.size:=by
 go_enter Tryz.func121,Tryz.ntmps121
 go_wp2
 go_ret
 exact ⟨rfl,Zq0,Zq5⟩
end Go.Proofs.YthkbckkghnbonaaGreatDoor
