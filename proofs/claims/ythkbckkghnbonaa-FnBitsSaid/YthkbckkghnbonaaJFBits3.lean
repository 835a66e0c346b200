/- What the calls that this law reaches answer, part 3 of 15. -/
import Derived.Test.YthkbckkghnbonaaJFBits1
import Derived.Orders
import Derived.Test.YthkbckkghnbonaaJFBits2
import Derived.Test.YthkbckkghnbonaaProg
set_option maxRecDepth 100000
set_option maxHeartbeats 16000000
set_option linter.unusedVariables false
namespace Go.Proofs.Ythkbckkghnbonaa
open Go.RowKit
set_option linter.unusedVariables false
section
variable {P:Program} {ops:Array Oper} {Q:Exit→Act→World→Prop} {md:Region.Mode}
theorem count_set {l:List Bool}:∀ {i:Nat},l[i]?=some false→(l.set i true).count false+1=l.count false:=by
 induction l with
 | nil=>intro i h;simp at h
 | cons x l ih =>
  intro i h
  cases i with
  | zero =>
   simp only[List.getElem?_cons_zero,Option.some.injEq] at h
   subst h
   simp
  | succ i =>
   simp only[List.getElem?_cons_succ] at h
   have:=ih h
   simp only[List.set_cons_succ,List.count_cons]
   omega
def ClosedL (md:Region.Mode) (ops:Array Oper) (Lz:Array Bool):Prop:=∀ i o,ops[i]?=some o→Lz.getD i false=true→∀ e∈o.after,Region.binds md e=true→Lz.getD e.on false=true
theorem closed_set {Lz:Array Bool} {i:Nat} (hc:ClosedL md ops Lz) (hi:i∈Region.ready md ops Lz):ClosedL md ops (Lz.setIfInBounds i true):=by
 have mono:∀ k,Lz.getD k false=true→(Lz.setIfInBounds i true).getD k false=true:=fun k h=>by
  by_cases hne:i=k
  ·subst hne
   have hj:i<Lz.size:=by
    rcases Nat.lt_or_ge i Lz.size with h'|h'
    ·exact h'
    ·simp [Array.getElem?_eq_none h'] at h
   simp [hj]
  ·rwa [getD_set_ne false hne]
 intro j o ho hj e he hb
 by_cases hne:i=j
 ·subst hne
  obtain ⟨_,o',ho',h⟩:=mem_ready.1 hi
  rw[ho] at ho'
  injection ho' with ho'
  subst ho'
  exact mono _ (h e he hb)
 ·rw[getD_set_ne false hne] at hj
  exact mono _ (hc j o ho hj e he hb)
theorem wpAny_inv {J:Array Bool→Act→World→Prop}
  (hs:∀ Lz a w,Lz.size=ops.size→ClosedL md ops Lz→J Lz a w→∀ i∈Region.ready md ops Lz,wpOp P ops Q i (fun a' w'=>J (Lz.setIfInBounds i true) a' w') a w)
  (he:∀ Lz a w,Lz.size=ops.size→J Lz a w→Region.ready md ops Lz=[]→Q .normal a w) :
  ∀ (fuel:Nat) (Lz:Array Bool) (a:Act) (w:World),Lz.toList.count false≤fuel→Lz.size=ops.size→ClosedL md ops Lz→J Lz a w→wpAny P md ops Q fuel Lz a w:=by
 intro fuel
 induction fuel with
 | zero =>
  intro Lz a w hc hz hcl hJ
  have hr:Region.ready md ops Lz=[]:=by
   rw[List.eq_nil_iff_forall_not_mem]
   intro j hj
   have h1:=(mem_ready.1 hj).1
   have hj2:j<Lz.size:=by
    rcases Nat.lt_or_ge j Lz.size with h|h
    ·exact h
    ·simp [Array.getElem?_eq_none h] at h1
   have h0:Lz.toList[j]?=some false:=by
    simp [hj2] at h1
    simp [hj2,h1]
   have:=count_set h0
   omega
  exact ⟨hr,he Lz a w hz hJ hr⟩
 | succ fuel ih =>
  intro Lz a w hc hz hcl hJ
  refine ⟨he Lz a w hz hJ,fun i hi=>wpOp_mono (fun a' w' h=>ih _ a' w' ?_ (by simpa using hz) (closed_set hcl hi) h) (hs Lz a w hz hcl hJ i hi)⟩
  have h1:=(mem_ready.1 hi).1
  have hj2:i<Lz.size:=by
   rcases Nat.lt_or_ge i Lz.size with h|h
   ·exact h
   ·simp [Array.getElem?_eq_none h] at h1
  have h0:Lz.toList[i]?=some false:=by
   simp [hj2] at h1
   simp [hj2,h1]
  have:=count_set h0
  rw[Array.toList_setIfInBounds]
  omega
theorem rep_false (n i:Nat):(Array.replicate n false).getD i false=false:=by by_cases h:i<n <;> simp [h]
theorem wp_region_inv {id:Nat} {a:Act} {w:World} (hm:P.follows .mixedOrders=true) (J:Array Bool→Act→World→Prop) (h0:J (Array.replicate ops.size false) a w.drew)
  (hs:∀ Lz a w,Lz.size=ops.size→ClosedL .any ops Lz→J Lz a w→∀ i∈Region.ready .any ops Lz,wpOp P ops Q i (fun a' w'=>J (Lz.setIfInBounds i true) a' w') a w)
  (he:∀ Lz a w,Lz.size=ops.size→J Lz a w→Region.ready .any ops Lz=[]→Q .normal a w):(Code.region id ops true).wp P Q a w :=
 wp_region_any hm (wpAny_inv hs he _ _ _ _ Zq5 Zq5 (fun i o _ h=>absurd h (by rw[rep_false];decide)) h0)
theorem wp_region_inv2 {id:Nat} {a:Act} {w:World} (hm:P.follows .mixedOrders=true) (J:Array Value→Array Bool→Act→World→Prop) (h0:∀ A0:Array Value,J A0 (Array.replicate ops.size false) ⟨A0,a.defers⟩ w.drew)
  (hs:∀ Lz a' w,Lz.size=ops.size→ClosedL .any ops Lz→J a.tmps Lz a' w→∀ i∈Region.ready .any ops Lz,wpOp P ops Q i (fun b w'=>J a.tmps (Lz.setIfInBounds i true) b w') a' w)
  (he:∀ Lz a' w,Lz.size=ops.size→J a.tmps Lz a' w→Region.ready .any ops Lz=[]→Q .normal a' w):(Code.region id ops true).wp P Q a w :=
 wp_region_inv hm (J a.tmps) (h0 a.tmps) hs he
theorem set_self (A:Array Value) (k:Nat) (u:Value):A.setIfInBounds k (A.getD k u)=A:=by
 apply Array.ext'
 rw[Array.toList_setIfInBounds]
 by_cases h:k<A.size
 ·have e:A.getD k u=A[k]:=by simp [h]
  rw[e]
  exact @List.set_getElem_self _ A.toList k (by simpa using h)
 ·rw[List.set_eq_of_length_le (by simpa using h)]
theorem upon_then {o:Oper} {a:Act} {K:Act→World→Prop} {r:Result Next} (h:o.upon P a K (Exit.then K Q) r):o.upon P a K Q r:=by
 cases r with
 | ok n w'=>cases n <;> first|exact h|exact Calls.mono h (fun e w'' he=>by cases e <;> exact he)
 | halt x w'=>cases x <;> exact h
theorem wpOp_one {i:Nat} {o:Oper} {a:Act} {w:World} {K:Act→World→Prop} (ho:ops[i]?=some o) (hg:o.guard=none) (h:∀ K':Act→World→Prop,(∀ a w,K a w→K' a w)→wpList P #[] (Exit.then K' Q) [o] a w):wpOp P ops Q i K a w:=by
 have hw:∀ (os:Array Oper),Region.wanted o (yielded os a.tmps)=true:=fun os=>by simp [Region.wanted,hg]
 have h1:=h K (fun _ _ h=>h)
 unfold wpOp
 simp only[ho,hw,if_true]
 unfold wpList at h1
 simp only[hw,if_true] at h1
 rcases h1 with h1|⟨h1,h2⟩
 ·exact .inl (upon_then h1)
 ·exact .inr ⟨h1,h2⟩
def Ls (l:Array Bool) (i:Nat):Prop:=l.getD i false=true
theorem Ls.none {n i:Nat} {C:Prop} (h:Ls (Array.replicate n false) i):C:=absurd h (by unfold Ls;rw[rep_false];decide)
theorem Ls.back {l:Array Bool} {i j:Nat} (h:Ls (l.setIfInBounds i true) j) (hne:i≠j):Ls l j:=by
 unfold Ls at h ⊢
 rwa [getD_set_ne false hne] at h
theorem Ls.fwd {l:Array Bool} {i j:Nat} (h:Ls l j):Ls (l.setIfInBounds i true) j:=by
 unfold Ls at h ⊢
 by_cases hne:i=j
 ·subst hne
  have hj:i<l.size:=by
   rcases Nat.lt_or_ge i l.size with h'|h'
   ·exact h'
   ·simp [Array.getElem?_eq_none h'] at h
  simp [hj]
 ·rwa [getD_set_ne false hne]
theorem ready_dep {Lz:Array Bool} {i:Nat} {o:Oper} (hi:i∈Region.ready md ops Lz) (ho:ops[i]?=some o) (k:Nat) (hk:(o.after.any fun e=>e.on==k&&Region.binds md e)=true):Ls Lz k:=by
 obtain ⟨_,o',ho',h⟩:=mem_ready.1 hi
 rw[ho] at ho'
 injection ho' with ho'
 subst ho'
 rw[Array.any_eq_true'] at hk
 obtain ⟨e,he,h1⟩:=hk
 rw[Bool.and_eq_true,beq_iff_eq] at h1
 have:=h e he h1.2
 rw[h1.1] at this
 exact this
theorem ClosedL.dep {Lz:Array Bool} {i:Nat} {o:Oper} (hc:ClosedL md ops Lz) (h:Ls Lz i) (ho:ops[i]?=some o) (k:Nat) (hk:(o.after.any fun e=>e.on==k&&Region.binds md e)=true):Ls Lz k:=by
 rw[Array.any_eq_true'] at hk
 obtain ⟨e,he,h1⟩:=hk
 rw[Bool.and_eq_true,beq_iff_eq] at h1
 have:=hc i o ho h e he h1.2
 rw[h1.1] at this
 exact this
def waits (md:Region.Mode) (ops:Array Oper) (i k:Nat):Bool:=match ops[i]? with
 | some o=>o.after.any fun e=>e.on==k&&Region.binds md e
 | none=>false
theorem ready_dep2 {Lz:Array Bool} {i:Nat} (hi:i∈Region.ready md ops Lz) (k:Nat) (hk:waits md ops i k=true):Ls Lz k:=by
 obtain ⟨_,o,ho,_⟩:=mem_ready.1 hi
 unfold waits at hk
 rw[ho] at hk
 exact ready_dep hi ho k hk
theorem ClosedL.dep2 {Lz:Array Bool} {i:Nat} (hc:ClosedL md ops Lz) (h:Ls Lz i) (k:Nat) (hk:waits md ops i k=true):Ls Lz k:=by
 unfold waits at hk
 cases ho:ops[i]? with
 | none=>rw[ho] at hk;cases hk
 | some o=>rw[ho] at hk;exact hc.dep h ho k hk
theorem ready_now {Lz:Array Bool} {i:Nat} (hi:i∈Region.ready md ops Lz) (hz:Lz.size=ops.size):Ls (Lz.setIfInBounds i true) i:=by
 obtain ⟨_,o,ho,_⟩:=mem_ready.1 hi
 have hl:=(Array.getElem?_eq_some_iff.1 ho).1
 unfold Ls
 simp [hz,hl]
theorem ready_not {Lz:Array Bool} {i:Nat} (hi:i∈Region.ready md ops Lz):¬ Ls Lz i:=by
 intro h
 have h1:=(mem_ready.1 hi).1
 unfold Ls at h
 have hj:i<Lz.size:=by
  rcases Nat.lt_or_ge i Lz.size with h'|h'
  ·exact h'
  ·simp [Array.getElem?_eq_none h'] at h
 simp [hj] at h h1
 rw[h] at h1
 cases h1
theorem ready_lt {Lz:Array Bool} {i:Nat} (hi:i∈Region.ready md ops Lz):i<ops.size:=by
 obtain ⟨_,o,ho,_⟩:=mem_ready.1 hi
 exact(Array.getElem?_eq_some_iff.1 ho).1
theorem all_listed {Lz:Array Bool} (hz:Lz.size=ops.size) (hac:(ops.toList.zipIdx.all fun x=>x.1.after.all fun e=>decide (e.on<x.2))=true) (hr:Region.ready md ops Lz=[]):∀ i,i<ops.size→Ls Lz i:=by
 intro i
 induction i using Nat.strongRecOn with
 | ind i ih =>
  intro hi
  apply Classical.byContradiction
  intro hn
  have ho:ops[i]?=some ops[i]:=Array.getElem?_eq_getElem hi
  have hmem:i∈Region.ready md ops Lz:=mem_ready.2 ⟨by
   unfold Ls at hn
   have hj:i<Lz.size:=by rw[hz];exact hi
   simp [hj] at hn ⊢
   exact hn,ops[i],ho,fun e he _=>by
   have h1:=List.all_eq_true.1 hac (ops[i],i) (by
    rw[List.mk_mem_zipIdx_iff_getElem?]
    simp)
   have h2:=Array.all_eq_true'.1 h1 e he
   have h3:e.on<i:=by simpa using h2
   exact ih e.on h3 Zq1⟩
  rw[hr] at hmem
  simp at hmem
end
section
variable {a0 a1 a2 a3 a4 a5 a6 a7 a8 a9 a10 a11 a12 a13 a14 a15 a16 a17 a18 a19 a20 a21 a22 a23 a24 a25 a26 a27 a28 a29 a30 a31 a32 a33 a34 a35 a36 a37 a38 a39 a40 a41 a42 a43 a44 a45 a46 a47:Prop}
theorem pj0 (h:a0∧a1):a0:=h.1
theorem pj1 (h:a0∧a1∧a2):a1:=h.2.1
theorem pj2 (h:a0∧a1∧a2∧a3):a2:=h.2.2.1
theorem pj3 (h:a0∧a1∧a2∧a3∧a4):a3:=h.2.2.2.1
theorem pj4 (h:a0∧a1∧a2∧a3∧a4∧a5):a4:=h.2.2.2.2.1
theorem pj5 (h:a0∧a1∧a2∧a3∧a4∧a5∧a6):a5:=h.2.2.2.2.2.1
theorem pj6 (h:a0∧a1∧a2∧a3∧a4∧a5∧a6∧a7):a6:=h.2.2.2.2.2.2.1
theorem pj7 (h:a0∧a1∧a2∧a3∧a4∧a5∧a6∧a7∧a8):a7:=h.2.2.2.2.2.2.2.1
theorem pj8 (h:a0∧a1∧a2∧a3∧a4∧a5∧a6∧a7∧a8∧a9):a8:=h.2.2.2.2.2.2.2.2.1
theorem pj9 (h:a0∧a1∧a2∧a3∧a4∧a5∧a6∧a7∧a8∧a9∧a10):a9:=h.2.2.2.2.2.2.2.2.2.1
theorem pj10 (h:a0∧a1∧a2∧a3∧a4∧a5∧a6∧a7∧a8∧a9∧a10∧a11):a10:=h.2.2.2.2.2.2.2.2.2.2.1
theorem pj11 (h:a0∧a1∧a2∧a3∧a4∧a5∧a6∧a7∧a8∧a9∧a10∧a11∧a12):a11:=h.2.2.2.2.2.2.2.2.2.2.2.1
theorem pj12 (h:a0∧a1∧a2∧a3∧a4∧a5∧a6∧a7∧a8∧a9∧a10∧a11∧a12∧a13):a12:=h.2.2.2.2.2.2.2.2.2.2.2.2.1
theorem pj13 (h:a0∧a1∧a2∧a3∧a4∧a5∧a6∧a7∧a8∧a9∧a10∧a11∧a12∧a13∧a14):a13:=h.2.2.2.2.2.2.2.2.2.2.2.2.2.1
theorem pj14 (h:a0∧a1∧a2∧a3∧a4∧a5∧a6∧a7∧a8∧a9∧a10∧a11∧a12∧a13∧a14∧a15):a14:=h.2.2.2.2.2.2.2.2.2.2.2.2.2.2.1
theorem pj15 (h:a0∧a1∧a2∧a3∧a4∧a5∧a6∧a7∧a8∧a9∧a10∧a11∧a12∧a13∧a14∧a15∧a16):a15:=h.2.2.2.2.2.2.2.2.2.2.2.2.2.2.2.1
theorem pj16 (h:a0∧a1∧a2∧a3∧a4∧a5∧a6∧a7∧a8∧a9∧a10∧a11∧a12∧a13∧a14∧a15∧a16∧a17):a16:=h.2.2.2.2.2.2.2.2.2.2.2.2.2.2.2.2.1
theorem pj17 (h:a0∧a1∧a2∧a3∧a4∧a5∧a6∧a7∧a8∧a9∧a10∧a11∧a12∧a13∧a14∧a15∧a16∧a17∧a18):a17:=h.2.2.2.2.2.2.2.2.2.2.2.2.2.2.2.2.2.1
theorem pj18 (h:a0∧a1∧a2∧a3∧a4∧a5∧a6∧a7∧a8∧a9∧a10∧a11∧a12∧a13∧a14∧a15∧a16∧a17∧a18∧a19):a18:=h.2.2.2.2.2.2.2.2.2.2.2.2.2.2.2.2.2.2.1
theorem pj19 (h:a0∧a1∧a2∧a3∧a4∧a5∧a6∧a7∧a8∧a9∧a10∧a11∧a12∧a13∧a14∧a15∧a16∧a17∧a18∧a19∧a20):a19:=h.2.2.2.2.2.2.2.2.2.2.2.2.2.2.2.2.2.2.2.1
theorem pj20 (h:a0∧a1∧a2∧a3∧a4∧a5∧a6∧a7∧a8∧a9∧a10∧a11∧a12∧a13∧a14∧a15∧a16∧a17∧a18∧a19∧a20∧a21):a20:=h.2.2.2.2.2.2.2.2.2.2.2.2.2.2.2.2.2.2.2.2.1
theorem pj21 (h:a0∧a1∧a2∧a3∧a4∧a5∧a6∧a7∧a8∧a9∧a10∧a11∧a12∧a13∧a14∧a15∧a16∧a17∧a18∧a19∧a20∧a21∧a22):a21:=h.2.2.2.2.2.2.2.2.2.2.2.2.2.2.2.2.2.2.2.2.2.1
theorem pj22 (h:a0∧a1∧a2∧a3∧a4∧a5∧a6∧a7∧a8∧a9∧a10∧a11∧a12∧a13∧a14∧a15∧a16∧a17∧a18∧a19∧a20∧a21∧a22∧a23):a22:=h.2.2.2.2.2.2.2.2.2.2.2.2.2.2.2.2.2.2.2.2.2.2.1
theorem pj23 (h:a0∧a1∧a2∧a3∧a4∧a5∧a6∧a7∧a8∧a9∧a10∧a11∧a12∧a13∧a14∧a15∧a16∧a17∧a18∧a19∧a20∧a21∧a22∧a23∧a24):a23:=h.2.2.2.2.2.2.2.2.2.2.2.2.2.2.2.2.2.2.2.2.2.2.2.1
theorem pj24 (h:a0∧a1∧a2∧a3∧a4∧a5∧a6∧a7∧a8∧a9∧a10∧a11∧a12∧a13∧a14∧a15∧a16∧a17∧a18∧a19∧a20∧a21∧a22∧a23∧a24∧a25):a24:=h.2.2.2.2.2.2.2.2.2.2.2.2.2.2.2.2.2.2.2.2.2.2.2.2.1
theorem pj25 (h:a0∧a1∧a2∧a3∧a4∧a5∧a6∧a7∧a8∧a9∧a10∧a11∧a12∧a13∧a14∧a15∧a16∧a17∧a18∧a19∧a20∧a21∧a22∧a23∧a24∧a25∧a26):a25:=h.2.2.2.2.2.2.2.2.2.2.2.2.2.2.2.2.2.2.2.2.2.2.2.2.2.1
theorem pj26 (h:a0∧a1∧a2∧a3∧a4∧a5∧a6∧a7∧a8∧a9∧a10∧a11∧a12∧a13∧a14∧a15∧a16∧a17∧a18∧a19∧a20∧a21∧a22∧a23∧a24∧a25∧a26∧a27):a26:=h.2.2.2.2.2.2.2.2.2.2.2.2.2.2.2.2.2.2.2.2.2.2.2.2.2.2.1
theorem pj27 (h:a0∧a1∧a2∧a3∧a4∧a5∧a6∧a7∧a8∧a9∧a10∧a11∧a12∧a13∧a14∧a15∧a16∧a17∧a18∧a19∧a20∧a21∧a22∧a23∧a24∧a25∧a26∧a27∧a28):a27:=h.2.2.2.2.2.2.2.2.2.2.2.2.2.2.2.2.2.2.2.2.2.2.2.2.2.2.2.1
theorem pj28 (h:a0∧a1∧a2∧a3∧a4∧a5∧a6∧a7∧a8∧a9∧a10∧a11∧a12∧a13∧a14∧a15∧a16∧a17∧a18∧a19∧a20∧a21∧a22∧a23∧a24∧a25∧a26∧a27∧a28∧a29):a28:=h.2.2.2.2.2.2.2.2.2.2.2.2.2.2.2.2.2.2.2.2.2.2.2.2.2.2.2.2.1
theorem pj29 (h:a0∧a1∧a2∧a3∧a4∧a5∧a6∧a7∧a8∧a9∧a10∧a11∧a12∧a13∧a14∧a15∧a16∧a17∧a18∧a19∧a20∧a21∧a22∧a23∧a24∧a25∧a26∧a27∧a28∧a29∧a30):a29:=h.2.2.2.2.2.2.2.2.2.2.2.2.2.2.2.2.2.2.2.2.2.2.2.2.2.2.2.2.2.1
theorem pe7 (h:a0∧a1∧a2∧a3∧a4∧a5∧a6∧a7):a7:=h.2.2.2.2.2.2.2
theorem pe12 (h:a0∧a1∧a2∧a3∧a4∧a5∧a6∧a7∧a8∧a9∧a10∧a11∧a12):a12:=h.2.2.2.2.2.2.2.2.2.2.2.2
theorem pe13 (h:a0∧a1∧a2∧a3∧a4∧a5∧a6∧a7∧a8∧a9∧a10∧a11∧a12∧a13):a13:=h.2.2.2.2.2.2.2.2.2.2.2.2.2
theorem pe14 (h:a0∧a1∧a2∧a3∧a4∧a5∧a6∧a7∧a8∧a9∧a10∧a11∧a12∧a13∧a14):a14:=h.2.2.2.2.2.2.2.2.2.2.2.2.2.2
theorem pe15 (h:a0∧a1∧a2∧a3∧a4∧a5∧a6∧a7∧a8∧a9∧a10∧a11∧a12∧a13∧a14∧a15):a15:=h.2.2.2.2.2.2.2.2.2.2.2.2.2.2.2
theorem pe17 (h:a0∧a1∧a2∧a3∧a4∧a5∧a6∧a7∧a8∧a9∧a10∧a11∧a12∧a13∧a14∧a15∧a16∧a17):a17:=h.2.2.2.2.2.2.2.2.2.2.2.2.2.2.2.2.2
theorem pe18 (h:a0∧a1∧a2∧a3∧a4∧a5∧a6∧a7∧a8∧a9∧a10∧a11∧a12∧a13∧a14∧a15∧a16∧a17∧a18):a18:=h.2.2.2.2.2.2.2.2.2.2.2.2.2.2.2.2.2.2
theorem pe20 (h:a0∧a1∧a2∧a3∧a4∧a5∧a6∧a7∧a8∧a9∧a10∧a11∧a12∧a13∧a14∧a15∧a16∧a17∧a18∧a19∧a20):a20:=h.2.2.2.2.2.2.2.2.2.2.2.2.2.2.2.2.2.2.2.2
theorem pe21 (h:a0∧a1∧a2∧a3∧a4∧a5∧a6∧a7∧a8∧a9∧a10∧a11∧a12∧a13∧a14∧a15∧a16∧a17∧a18∧a19∧a20∧a21):a21:=h.2.2.2.2.2.2.2.2.2.2.2.2.2.2.2.2.2.2.2.2.2
theorem pe23 (h:a0∧a1∧a2∧a3∧a4∧a5∧a6∧a7∧a8∧a9∧a10∧a11∧a12∧a13∧a14∧a15∧a16∧a17∧a18∧a19∧a20∧a21∧a22∧a23):a23:=h.2.2.2.2.2.2.2.2.2.2.2.2.2.2.2.2.2.2.2.2.2.2.2
theorem pe25 (h:a0∧a1∧a2∧a3∧a4∧a5∧a6∧a7∧a8∧a9∧a10∧a11∧a12∧a13∧a14∧a15∧a16∧a17∧a18∧a19∧a20∧a21∧a22∧a23∧a24∧a25):a25:=h.2.2.2.2.2.2.2.2.2.2.2.2.2.2.2.2.2.2.2.2.2.2.2.2.2
theorem pe30 (h:a0∧a1∧a2∧a3∧a4∧a5∧a6∧a7∧a8∧a9∧a10∧a11∧a12∧a13∧a14∧a15∧a16∧a17∧a18∧a19∧a20∧a21∧a22∧a23∧a24∧a25∧a26∧a27∧a28∧a29∧a30):a30:=h.2.2.2.2.2.2.2.2.2.2.2.2.2.2.2.2.2.2.2.2.2.2.2.2.2.2.2.2.2.2
end
theorem Bk {l:Array Bool} {i j:Nat} {C:Prop} (f:Ls l j→C) (hne:i≠j:=by decide) (h:Ls (l.setIfInBounds i true) j):C:=f (h.back hne)
theorem Bw {l:Array Bool} {i j k:Nat} {C:Prop} (f:Ls l j→¬ Ls l k→C) (hne:i≠j:=by decide) (h:Ls (l.setIfInBounds i true) j) (h2:¬ Ls (l.setIfInBounds i true) k):C:=f (h.back hne) (fun h3=>h2 h3.fwd)
theorem Bi {l:Array Bool} {i k:Nat} {C:Prop} (f:¬ Ls l k→C) (h2:¬ Ls (l.setIfInBounds i true) k):C:=f (fun h3=>h2 h3.fwd)
theorem zx {a b c:Prop} (h:a) (_:b) (h2:¬ a):c:=absurd h h2
theorem zy {a c:Prop} (h:a) (h2:¬ a):c:=absurd h h2
theorem zn {n i:Nat} {C:Prop}:Ls (Array.replicate n false) i→C:=fun h=>h.none
theorem zr {A B C:Prop} (g:B→C) (h:A∧B):C:=g h.2
theorem zk {Q:Prop} {l:Array Bool} {i j:Nat} {C:Prop} (H:Hid Q) (hne:i≠j:=by decide) (f:Q→Ls l j→C:=by repeat (first|with_reducible exact And.left|with_reducible exact id|refine zr ?_)) (h:Ls (l.setIfInBounds i true) j):C:=Bk (f H.out) hne h
theorem zw {Q:Prop} {l:Array Bool} {i j k:Nat} {C:Prop} (H:Hid Q) (hne:i≠j:=by decide) (f:Q→Ls l j→¬ Ls l k→C:=by repeat (first|with_reducible exact And.left|with_reducible exact id|refine zr ?_)) (h:Ls (l.setIfInBounds i true) j) (h2:¬ Ls (l.setIfInBounds i true) k):C:=Bw (f H.out) hne h h2
theorem zi {Q:Prop} {l:Array Bool} {i k:Nat} {C:Prop} (H:Hid Q) (f:Q→¬ Ls l k→C:=by repeat (first|with_reducible exact And.left|with_reducible exact id|refine zr ?_)) (h2:¬ Ls (l.setIfInBounds i true) k):C:=Bi (f H.out) h2
theorem zT {Q R:Prop} (H:Hid Q) (f:Q→R:=by (repeat (refine And.imp ?_ ?_;(first|exact fun f=>Bw f|exact fun f=>Bk f|exact fun f=>Bi f|exact fun _ _=>rfl)));(first|exact fun f=>Bw f|exact fun f=>Bk f|exact fun f=>Bi f|exact fun _ _=>rfl)):R:=f H.out
theorem Ba {l:Array Bool} {i j:Nat} {C:Prop} (f:¬ Ls l j) (hne:i≠j:=by decide) (h:Ls (l.setIfInBounds i true) j):C:=absurd (h.back hne) f
theorem Bb {l:Array Bool} {i j:Nat} {C D:Prop} (f:¬ Ls l j) (hne:i≠j:=by decide) (h:Ls (l.setIfInBounds i true) j) (_:D):C:=absurd (h.back hne) f
theorem Bt {l:Array Bool} {i j k:Nat} {C D:Prop} (f:Ls l j→¬ Ls l k→C) (g:C→D) (hne:i≠j:=by decide) (h:Ls (l.setIfInBounds i true) j) (h2:¬ Ls (l.setIfInBounds i true) k):D:=g (f (h.back hne) (fun h3=>h2 h3.fwd))
theorem dq {md:Region.Mode} {ops:Array Oper} {Lz:Array Bool} {i:Nat} (H:Hid (ClosedL md ops Lz)) (h:Ls Lz i) (k:Nat) (hk:waits md ops i k=true:=by kernel_rfl):Ls Lz k:=H.out.dep2 h k hk
theorem rq {md:Region.Mode} {ops:Array Oper} {Lz:Array Bool} {i:Nat} (hi:i∈Region.ready md ops Lz) (k:Nat) (hk:waits md ops i k=true:=by kernel_rfl):Ls Lz k:=ready_dep2 hi k hk
def RdQ (w:World) (P:Nat→Prop) (size:Nat) (A:Option Addr) (n:Nat) (xs:List Value):Prop :=
 xs.length=n*size∧(0<n→∃ b off,A=some ⟨b,off,none⟩∧P b∧b<w.heap.size∧∀ j u,xs[j]?=some u→w.cell? ⟨b,off+j,none⟩=some u)
def TrQ (w:World) (P:Nat→Prop):(d:Nat)→Option Addr→Nat→List (Tr d)→Prop
 | 0,_,n,l=>l.length=n∧n=0
 | d+1,A,n,l=>l.length=n∧(0<n→∃ b off,A=some ⟨b,off,none⟩∧P b∧b<w.heap.size∧∀ (i:Nat) (s:Tr (d+1)),l[i]?=some s →
   ∃ Aa ca Ab nb cb,SCells w b (off+i*5) (hdT s) Aa ca Ab nb cb∧RdQ w P 1 Aa (hdT s).args.length (strs (hdT s).args)∧TrQ w P d Ab nb (bdT s)∧(hdT s).args.length≤ca)
section
variable {w w':World} {P P':Nat→Prop}
theorem RdQ.rd {size n:Nat} {A:Option Addr} {xs:List Value} (h:RdQ w P size A n xs):Rd w size A n xs :=
 ⟨h.1,fun h0=>by obtain ⟨b,off,e,_,hb,hc⟩:=h.2 h0;exact ⟨b,off,e,hb,hc⟩⟩
theorem RdQ.mono {size n:Nat} {A:Option Addr} {xs:List Value} (h:RdQ w P size A n xs) (hp:∀ b,b<w.heap.size→P b→P' b):RdQ w P' size A n xs :=
 ⟨h.1,fun h0=>by obtain ⟨b,off,e,h1,hb,hc⟩:=h.2 h0;exact ⟨b,off,e,hp b hb h1,hb,hc⟩⟩
theorem RdQ.keep {size n:Nat} {A:Option Addr} {xs:List Value} (h:RdQ w P size A n xs) (hk:∀ b,P b→b<w.heap.size→w'.heap[b]?=w.heap[b]?) (hs:w.heap.size≤w'.heap.size):RdQ w' P size A n xs :=
 ⟨h.1,fun h0=>by
  obtain ⟨b,off,e,h1,hb,hc⟩:=h.2 h0
  refine ⟨b,off,e,h1,Nat.lt_of_lt_of_le hb hs,fun j u hu=>?_⟩
  rw[←hc j u hu]
  have:=hk b h1 hb
  simp [World.cell?,this]⟩
theorem rdQ_of_own {base E size n c:Nat} {A:Option Addr} {xs:List Value} (h:w.ownsRow base E size (.slice A n c) n xs):RdQ w (base≤·) size A n xs:=by
 have r:=rd_own h
 refine ⟨r.1,fun h0=>?_⟩
 obtain ⟨b,off,e,hb,hc⟩:=r.2 h0
 refine ⟨b,off,e,?_,hb,hc⟩
 subst e
 exact(h.lt b rfl).1
theorem TrQ.len:∀ {d:Nat} {A:Option Addr} {n:Nat} {l:List (Tr d)},TrQ w P d A n l→l.length=n
 | 0,_,_,_,h=>h.1
 | _+1,_,_,_,h=>h.1
theorem cell_same {b:Nat} (h:w'.heap[b]?=w.heap[b]?) (o:Nat):w'.cell? ⟨b,o,none⟩=w.cell? ⟨b,o,none⟩:=by simp [World.cell?,h]
theorem TrQ.mono (hp:∀ b,b<w.heap.size→P b→P' b):∀ {d:Nat} {A:Option Addr} {n:Nat} {l:List (Tr d)},TrQ w P d A n l→TrQ w P' d A n l:=by
 intro d
 induction d with
 | zero=>intro A n l h;exact h
 | succ d ih =>
  intro A n l h
  refine ⟨h.1,fun h0=>?_⟩
  obtain ⟨b,off,e,h1,hb,hc⟩:=h.2 h0
  refine ⟨b,off,e,hp b hb h1,hb,fun i s hi=>?_⟩
  obtain ⟨Aa,ca,Ab,nb,cb,h1,h2,h3,h4⟩:=hc i s hi
  exact ⟨Aa,ca,Ab,nb,cb,h1,h2.mono hp,ih h3,h4⟩
theorem TrQ.keep (hk:∀ b,P b→b<w.heap.size→w'.heap[b]?=w.heap[b]?) (hs:w.heap.size≤w'.heap.size) :
  ∀ {d:Nat} {A:Option Addr} {n:Nat} {l:List (Tr d)},TrQ w P d A n l→TrQ w' P d A n l:=by
 intro d
 induction d with
 | zero=>intro A n l h;exact h
 | succ d ih =>
  intro A n l h
  refine ⟨h.1,fun h0=>?_⟩
  obtain ⟨b,off,e,hl,hb,hc⟩:=h.2 h0
  refine ⟨b,off,e,hl,Nat.lt_of_lt_of_le hb hs,fun i s hi=>?_⟩
  obtain ⟨Aa,ca,Ab,nb,cb,h1,h2,h3,h4⟩:=hc i s hi
  exact ⟨Aa,ca,Ab,nb,cb,h1.keep (cell_same (hk b hl hb)),h2.keep hk hs,ih h3,h4⟩
theorem TrQ.rdt {lo:Nat} (hp:∀ b,P b→lo≤b):∀ {d:Nat} {A:Option Addr} {n:Nat} {l:List (Tr d)},TrQ w P d A n l→RdT w lo d A n l:=by
 intro d
 induction d with
 | zero=>intro A n l h;exact h
 | succ d ih =>
  intro A n l h
  refine ⟨h.1,fun h0=>?_⟩
  obtain ⟨b,off,e,h1,hb,hc⟩:=h.2 h0
  refine ⟨b,off,e,hp b h1,hb,fun i s hi=>?_⟩
  obtain ⟨Aa,ca,Ab,nb,cb,h1,h2,h3,h4⟩:=hc i s hi
  refine ⟨Aa,ca,Ab,nb,cb,h1,⟨h2.1,fun h0=>?_⟩,ih h3,h4⟩
  obtain ⟨b,off,e,h1,hb,hc⟩:=h2.2 h0
  exact ⟨b,off,e,hp b h1,hb,hc⟩
def upT:(d:Nat)→Tr d→Tr (d+1)
 | 0,e=>nomatch (show Empty from e)
 | d+1,s=>mkT (hdT s) ((bdT s).map (upT d))
theorem TrQ.up:∀ {d:Nat} {A:Option Addr} {n:Nat} {l:List (Tr d)},TrQ w P d A n l→TrQ w P (d+1) A n (l.map (upT d)):=by
 intro d
 induction d with
 | zero =>
  intro A n l h
  have h1:l.length=n:=h.1
  have h2:n=0:=h.2
  exact ⟨by rw[List.length_map];exact h1,fun h0=>absurd h0 Zq1⟩
 | succ d ih =>
  intro A n l h
  refine ⟨by rw[List.length_map];exact h.1,fun h0=>?_⟩
  obtain ⟨b,off,e,h1,hb,hc⟩:=h.2 h0
  refine ⟨b,off,e,h1,hb,fun i s hi=>?_⟩
  rw[List.getElem?_map,Option.map_eq_some_iff] at hi
  obtain ⟨t,ht,rfl⟩:=hi
  obtain ⟨Aa,ca,Ab,nb,cb,h1,h2,h3,h4⟩:=hc i t ht
  exact ⟨Aa,ca,Ab,nb,cb,h1,h2,ih h3,h4⟩
theorem szT_up:∀ (d:Nat) (l:List (Tr d)),szT (d+1) (l.map (upT d))=szT d l:=by
 intro d
 induction d with
 | zero =>
  intro l
  cases l with
  | nil=>rfl
  | cons x _=>exact nomatch (show Empty from x)
 | succ d ih =>
  intro l
  rw[szT_succ,szT_succ,List.length_map]
  congr 1
  unfold sumE
  rw[List.map_map]
  congr 1
  apply List.map_congr_left
  intro s _
  show(hdT s).word.size+((hdT s).args.length+szS (hdT s).args+szT (d+1) ((bdT s).map (upT d)))=_
  rw[ih]
  rfl
def scl (s:SH) (Aa:Option Addr) (ca:Nat) (Ab:Option Addr) (nb cb:Nat):List Value:=[.int .i64 s.k,.string s.word,.slice Aa s.args.length ca,.int .i64 s.count,.slice Ab nb cb]
def StQ (w:World) (Q:Nat→Prop) (d:Nat) (cs:List Value) (s:Tr (d+1)):Prop :=
 ∃ Aa ca Ab nb cb,cs=scl (hdT s) Aa ca Ab nb cb∧RdQ w Q 1 Aa (hdT s).args.length (strs (hdT s).args)∧TrQ w Q d Ab nb (bdT s)∧(hdT s).args.length≤ca
def Fa2 {α β:Type} (R:α→β→Prop):List α→List β→Prop
 | [],[]=>True
 | a :: l,b :: m=>R a b∧Fa2 R l m
 | _,_=>False
def ElQ (w:World) (Q:Nat→Prop) (d:Nat) (xs:List Value) (l:List (Tr (d+1))):Prop :=
 ∃ css:List (List Value),xs=css.flatten∧Fa2 (StQ w Q d) css l
theorem StQ.mono {d:Nat} {cs:List Value} {s:Tr (d+1)} (h:StQ w P d cs s) (hp:∀ b,b<w.heap.size→P b→P' b):StQ w P' d cs s:=by
 obtain ⟨Aa,ca,Ab,nb,cb,h1,h2,h3,h4⟩:=h
 exact ⟨Aa,ca,Ab,nb,cb,h1,h2.mono hp,h3.mono hp,h4⟩
theorem StQ.keep {d:Nat} {cs:List Value} {s:Tr (d+1)} (h:StQ w P d cs s) (hk:∀ b,P b→b<w.heap.size→w'.heap[b]?=w.heap[b]?) (hs:w.heap.size≤w'.heap.size):StQ w' P d cs s:=by
 obtain ⟨Aa,ca,Ab,nb,cb,h1,h2,h3,h4⟩:=h
 exact ⟨Aa,ca,Ab,nb,cb,h1,h2.keep hk hs,h3.keep hk hs,h4⟩
theorem StQ.up {d:Nat} {cs:List Value} {s:Tr (d+1)} (h:StQ w P d cs s):StQ w P (d+1) cs (upT (d+1) s):=by
 obtain ⟨Aa,ca,Ab,nb,cb,h1,h2,h3,h4⟩:=h
 exact ⟨Aa,ca,Ab,nb,cb,h1,h2,h3.up,h4⟩
theorem forall2_mono {α β:Type} {R S:α→β→Prop} (h:∀ a b,R a b→S a b):∀ {l:List α} {m:List β},Fa2 R l m→Fa2 S l m
 | [],[],_=>trivial
 | _ :: _,_ :: _,h1=>⟨h _ _ h1.1,forall2_mono h h1.2⟩
theorem forall2_append {α β:Type} {R:α→β→Prop}:∀ {l l':List α} {m m':List β},Fa2 R l m→Fa2 R l' m'→Fa2 R (l++l') (m++m')
 | [],_,[],_,_,h2=>h2
 | _ :: _,_,_ :: _,_,h1,h2=>⟨h1.1,forall2_append h1.2 h2⟩
theorem forall2_at {α β:Type} {R:α→β→Prop}:∀ {l:List α} {m:List β},Fa2 R l m→∀ {i:Nat} {y:β},m[i]?=some y→∃ x,l[i]?=some x∧R x y
 | [],[],_,i,y,h=>by simp at h
 | a :: _,_ :: _,h1,0,y,h=>by
  simp only[List.getElem?_cons_zero,Option.some.injEq] at h
  subst h
  exact ⟨a,rfl,h1.1⟩
 | _ :: _,_ :: _,h1,i+1,y,h=>by
  simp only[List.getElem?_cons_succ] at h ⊢
  exact forall2_at h1.2 h
theorem forall2_map {α β γ:Type} {R:α→β→Prop} {S:α→γ→Prop} {f:β→γ} (h:∀ a b,R a b→S a (f b)):∀ {l:List α} {m:List β},Fa2 R l m→Fa2 S l (m.map f)
 | [],[],_=>trivial
 | _ :: _,_ :: _,h1=>⟨h _ _ h1.1,forall2_map h h1.2⟩
theorem ElQ.nil {Q:Nat→Prop} {d:Nat}:ElQ w Q d [] []:=⟨[],rfl,trivial⟩
theorem ElQ.mono {d:Nat} {xs:List Value} {l:List (Tr (d+1))} (h:ElQ w P d xs l) (hp:∀ b,b<w.heap.size→P b→P' b):ElQ w P' d xs l:=by
 obtain ⟨css,e,h⟩:=h
 exact ⟨css,e,forall2_mono (fun _ _ h=>h.mono hp) h⟩
theorem ElQ.keep {d:Nat} {xs:List Value} {l:List (Tr (d+1))} (h:ElQ w P d xs l) (hk:∀ b,P b→b<w.heap.size→w'.heap[b]?=w.heap[b]?) (hs:w.heap.size≤w'.heap.size):ElQ w' P d xs l:=by
 obtain ⟨css,e,h⟩:=h
 exact ⟨css,e,forall2_mono (fun _ _ h=>h.keep hk hs) h⟩
theorem ElQ.up {d:Nat} {xs:List Value} {l:List (Tr (d+1))} (h:ElQ w P d xs l):ElQ w P (d+1) xs (l.map (upT (d+1))):=by
 obtain ⟨css,e,h⟩:=h
 exact ⟨css,e,forall2_map (fun _ _ h=>h.up) h⟩
theorem ElQ.append {d:Nat} {xs ys:List Value} {l m:List (Tr (d+1))} (h:ElQ w P d xs l) (h':ElQ w P d ys m):ElQ w P d (xs++ys) (l++m):=by
 obtain ⟨css,e,h⟩:=h
 obtain ⟨dss,e',h'⟩:=h'
 exact ⟨css++dss,by rw[e,e',List.flatten_append],forall2_append h h'⟩
theorem ElQ.one {d:Nat} {cs:List Value} {s:Tr (d+1)} (h:StQ w P d cs s):ElQ w P d cs [s]:=⟨[cs],by simp,h,trivial⟩
theorem StQ.len {d:Nat} {cs:List Value} {s:Tr (d+1)} (h:StQ w P d cs s):cs.length=5:=by
 obtain ⟨Aa,ca,Ab,nb,cb,rfl,_⟩:=h
 rfl
theorem StQ.ones {d:Nat} {cs:List Value} {s:Tr (d+1)} (h:StQ w P d cs s):∀ u∈cs,u.oneCell'=true:=by
 obtain ⟨Aa,ca,Ab,nb,cb,rfl,_⟩:=h
 intro u hu
 simp only[scl,List.mem_cons,List.not_mem_nil,or_false] at hu
 rcases hu with rfl|rfl|rfl|rfl|rfl <;> rfl
theorem flat5 {R:List Value→Prop} (hR:∀ c,R c→c.length=5):∀ (css:List (List Value)),(∀ c∈css,R c)→∀ (i j:Nat) (c:List Value),css[i]?=some c→j<5→css.flatten[i*5+j]?=c[j]?:=by
 intro css
 induction css with
 | nil=>intro _ i j c h _;simp at h
 | cons x css ih =>
  intro hc i j c h hj
  have hx:=hR x (hc x Zq5)
  cases i with
  | zero =>
   simp only[List.getElem?_cons_zero,Option.some.injEq] at h
   subst h
   rw[Nat.zero_mul,Nat.zero_add,List.flatten_cons,List.getElem?_append_left Zq1]
  | succ i =>
   simp only[List.getElem?_cons_succ] at h
   rw[List.flatten_cons,List.getElem?_append_right Zq1,hx,show(i+1)*5+j - 5=i*5+j by omega]
   exact ih (fun c h=>hc c (by simp [h])) i j c h hj
theorem ElQ.all5 {d:Nat}:∀ {css:List (List Value)} {l:List (Tr (d+1))},Fa2 (StQ w P d) css l→∀ c∈css,c.length=5
 | [],[],_,c,h=>by simp at h
 | _ :: _,_ :: _,h1,c,hc=>by
  rcases List.mem_cons.1 hc with rfl|hc
  ·exact h1.1.len
  ·exact ElQ.all5 h1.2 c hc
theorem ElQ.ones2 {d:Nat}:∀ {css:List (List Value)} {l:List (Tr (d+1))},Fa2 (StQ w P d) css l→(∀ u∈css.flatten,u.oneCell'=true)∧css.flatten.length=l.length*5
 | [],[],_=>⟨by simp,rfl⟩
 | _ :: _,_ :: _,h1=>by
  obtain ⟨i1,i2⟩:=ElQ.ones2 h1.2
  refine ⟨fun u hu=>?_,by rw[List.flatten_cons,List.length_append,h1.1.len,i2,List.length_cons];omega⟩
  rw[List.flatten_cons] at hu
  rcases List.mem_append.1 hu with hu|hu
  ·exact h1.1.ones u hu
  ·exact i1 u hu
theorem ElQ.ones {d:Nat} {xs:List Value} {l:List (Tr (d+1))} (h:ElQ w P d xs l):∀ u∈xs,u.oneCell'=true:=by
 obtain ⟨css,rfl,h⟩:=h
 exact(ElQ.ones2 h).1
theorem ElQ.len {d:Nat} {xs:List Value} {l:List (Tr (d+1))} (h:ElQ w P d xs l):xs.length=l.length*5:=by
 obtain ⟨css,rfl,h⟩:=h
 exact(ElQ.ones2 h).2
theorem ElQ.tr {d n:Nat} {A:Option Addr} {xs:List Value} {l:List (Tr (d+1))} (h:ElQ w P d xs l) (hr:RdQ w P 5 A n xs) (hn:l.length=n):TrQ w P (d+1) A n l:=by
 refine ⟨hn,fun h0=>?_⟩
 obtain ⟨b,off,e,hp,hb,hc⟩:=hr.2 h0
 refine ⟨b,off,e,hp,hb,fun i s hi=>?_⟩
 obtain ⟨css,rfl,h⟩:=h
 obtain ⟨c,hci,Aa,ca,Ab,nb,cb,rfl,h2,h3,h4⟩:=forall2_at h hi
 have ha:=ElQ.all5 h
 have f:∀ j,j<5→∀ u,(scl (hdT s) Aa ca Ab nb cb)[j]?=some u→w.cell? ⟨b,off+(i*5+j),none⟩=some u:=fun j hj u hu=>hc _ _ ((flat5 (R:=fun c=>c.length=5) (fun _ h=>h) css ha i j _ hci hj).trans hu)
 refine ⟨Aa,ca,Ab,nb,cb,⟨f 0 Zq4 _ rfl,?_,?_,?_,?_⟩,h2,h3,h4⟩
 ·have:=f 1 Zq4 _ rfl;rwa [←Nat.add_assoc] at this
 ·have:=f 2 Zq4 _ rfl;rwa [←Nat.add_assoc] at this
 ·have:=f 3 Zq4 _ rfl;rwa [←Nat.add_assoc] at this
 ·have:=f 4 Zq4 _ rfl;rwa [←Nat.add_assoc] at this
end
def OwnT (w:World) (base d:Nat) (v:Value) (l:List (Tr (d+1))):Prop :=
 ∃ xs,w.ownsRow base 42 5 v l.length xs∧ElQ w (fun b=>base≤b∧some b≠v.ownBlock) d xs l
theorem OwnT.grown {w w':World} {base d:Nat} {v:Value} {l:List (Tr (d+1))} {row:Option Nat} (h:OwnT w base d v l) (hg:w.grownBy w' row) (hr:∀ k,row=some k→k<base):OwnT w' base d v l:=by
 obtain ⟨xs,ho,he⟩:=h
 refine ⟨xs,ho.kept hg ?_,he.keep (fun b hp hb=>hg.block b hb (fun e=>?_)) hg.size⟩
 ·cases hk:v.ownBlock with
  | none=>exact .inl rfl
  | some k =>
   refine .inr fun e=>?_
   have h1:=hr k e.symm
   have h2:=(ho.lt k hk).1
   omega
 ·have:=hr b e.symm
  omega
theorem OwnT.below {w w':World} {base d:Nat} {v:Value} {l:List (Tr (d+1))} (h:OwnT w base d v l) (hb:Below w.heap.size w w'):OwnT w' base d v l :=
 h.grown (row:=none) ⟨hb.os,hb.tape,hb.output,hb.size,fun k hk _=>hb.block k hk⟩ (fun k e=>by cases e)
theorem ownT_empty (w:World) (d:Nat):OwnT (w.alloc (.cells #[] 42)) w.heap.size d (.slice (some ⟨w.heap.size,0,none⟩) 0 0) []:=⟨[],own_empty w _ 5,ElQ.nil⟩
theorem ownT_nil (w:World) (base d:Nat):OwnT w base d (.slice none 0 0) []:=⟨[],⟨rfl,.inl ⟨rfl,rfl⟩⟩,ElQ.nil⟩
theorem OwnT.push {w wa w6:World} {base d:Nat} {v v6:Value} {xs ys:List Value} {l m:List (Tr (d+1))} (hx:ElQ w (fun b=>base≤b∧some b≠v.ownBlock) d xs l) (hy:ElQ w (fun b=>base≤b∧some b≠v.ownBlock) d ys m)
  (ho6:w6.ownsRow base 42 5 v6 (l.length+m.length) (xs++ys)) (hba:Below w.heap.size w wa) (hg:wa.grownBy w6 v.ownBlock) (hv:v6.ownBlock=v.ownBlock∨v6.ownBlock=some wa.heap.size):OwnT w6 base d v6 (l++m):=by
 refine ⟨xs++ys,by rw[List.length_append];exact ho6,ElQ.mono (P:=fun b=>base≤b∧some b≠v.ownBlock∧b<w.heap.size) ?_ ?_⟩
 ·have hk:∀ b,(base≤b∧some b≠v.ownBlock∧b<w.heap.size)→b<w.heap.size→w6.heap[b]?=w.heap[b]?:=fun b hp hb=>(hg.block b (Nat.lt_of_lt_of_le hb hba.size) hp.2.1).trans (hba.block b hb)
  have hs:w.heap.size≤w6.heap.size:=Nat.le_trans hba.size hg.size
  exact((hx.mono (fun b hb hp=>⟨hp.1,hp.2,hb⟩)).append (hy.mono (fun b hb hp=>⟨hp.1,hp.2,hb⟩))).keep hk hs
 ·intro b _ hp
  refine ⟨hp.1,?_⟩
  rcases hv with e|e
  ·rw[e];exact hp.2.1
  ·rw[e]
   intro e
   injection e with e
   have:=hba.size
   omega
theorem OwnT.tr {w:World} {base d n c:Nat} {A:Option Addr} {l:List (Tr (d+1))} (h:OwnT w base d (.slice A n c) l) (hn:l.length=n):TrQ w (base≤·) (d+1) A n l:=by
 obtain ⟨xs,ho,he⟩:=h
 rw[hn] at ho
 exact(he.mono (fun b _ hp=>hp.1)).tr (rdQ_of_own ho) hn
theorem OwnT.up {w:World} {base d:Nat} {v:Value} {l:List (Tr (d+1))} (h:OwnT w base d v l):OwnT w base (d+1) v (l.map (upT (d+1))):=by
 obtain ⟨xs,ho,he⟩:=h
 exact ⟨xs,by rw[List.length_map];exact ho,he.up⟩
theorem OwnT.slice {w:World} {base d:Nat} {v:Value} {l:List (Tr (d+1))} (h:OwnT w base d v l):∃ A c,v=.slice A l.length c∧l.length≤c∧c≤maxLen:=by
 obtain ⟨xs,ho,_⟩:=h
 obtain ⟨A,c,e,h1,h2,_⟩:=rd_of_own ho
 exact ⟨A,c,e,h1,h2⟩
theorem own_lowT {w:World} {B B' e size n:Nat} {v:Value} {xs:List Value} (h:w.ownsRow B e size v n xs) (hB:B'≤B):w.ownsRow B' e size v n xs:=by
 refine ⟨h.1,?_⟩
 rcases h.2 with h2|⟨g,cap,cur,h1,h2,h3⟩
 ·exact .inl h2
 ·exact .inr ⟨g,cap,cur,h1,Nat.le_trans hB h2,h3⟩
def bcell (x:Fin 256):List Value:=[.int .u8 (x.val:Int)]
theorem bcell_len (x:Fin 256):(bcell x).length=1:=rfl
def CurAt (w:World) (p:Nat):Prop:=∃ (A:Option Addr) (n c:Nat) (bs:List (Fin 256)) (i:Nat) (h:Int),
 w.heap[p]?=some (.cells #[.slice A n c,.int .i64 i,.int .i64 h] 62 (0,0))∧bs.length=n∧Rd w 1 A n (bs.flatMap bcell)∧(0<n→∀ ad,A=some ad→ad.block<p)∧i≤n∧n≤1048576
theorem CurAt.lt {w:World} {p:Nat} (h:CurAt w p):p<w.heap.size:=by
 obtain ⟨_,_,_,_,_,_,h,_⟩:=h
 exact lt_of_block h
theorem CurAt.kept {w w':World} {p:Nat} (h:CurAt w p) (hb:∀ k,k≤p→w'.heap[k]?=w.heap[k]?) (hs:w.heap.size≤w'.heap.size):CurAt w' p:=by
 obtain ⟨A,n,c,bs,i,h,h1,h2,h3,h4,h5⟩:=h
 refine ⟨A,n,c,bs,i,h,(hb p (Nat.le_refl _)).trans h1,h2,⟨h3.1,fun h0=>?_⟩,h4,h5⟩
 obtain ⟨b,off,e,hl,hc⟩:=h3.2 h0
 refine ⟨b,off,e,Nat.lt_of_lt_of_le hl hs,fun j u hu=>?_⟩
 rw[←hc j u hu]
 have hk:=hb b (Nat.le_of_lt (h4 h0 _ e))
 simp [World.cell?,hk]
theorem CurAt.below {w w':World} {p:Nat} (h:CurAt w p) (hb:Below w.heap.size w w'):CurAt w' p:=h.kept (fun k hk=>hb.block k (Nat.lt_of_le_of_lt hk h.lt)) hb.size
theorem CurAt.grown {w w':World} {p:Nat} {row:Option Nat} (h:CurAt w p) (hg:w.grownBy w' row) (hr:∀ k,row=some k→p<k):CurAt w' p :=
 h.kept (fun k hk=>hg.block k (Nat.lt_of_le_of_lt hk h.lt) (by
  intro e
  have h1:=hr _ e.symm
  omega)) hg.size
def DI (w:World) (p:Nat) (lo hi:Int) (e:Ending) (w':World):Prop:=∃ x:Int,lo≤x∧x≤hi∧e=.returned (.int .i64 x)∧CurAt w' p∧w.grownBy w' (some p)
def DB (w:World) (p:Nat) (e:Ending) (w':World):Prop:=∃ x:Bool,e=.returned (.bool x)∧CurAt w' p∧w.grownBy w' (some p)
def DL (L:List Int) (w:World) (p:Nat) (e:Ending) (w':World):Prop:=∃ x:Int,x∈L∧e=.returned (.int .i64 x)∧CurAt w' p∧w.grownBy w' (some p)
theorem and255 (x:Int):0≤bits .and .i64 x 255∧bits .and .i64 x 255≤255:=by
 have h:(BitVec.ofInt 64 x &&& BitVec.ofInt 64 255).toNat≤255:=by
  rw[BitVec.toNat_and]
  exact Nat.le_trans Nat.and_le_right Zq4
 have e:bits .and .i64 x 255=IntKind.i64.wrap ((BitVec.ofInt 64 x &&& BitVec.ofInt 64 255).toNat:Int):=rfl
 rw[e,IntWalk.i64_in _ Zq1]
 omega
theorem only_drewN {a w:World} {row:Option Nat} (h:a.grownBy w row) (n:Nat):a.grownBy (w.drewN n) row:=⟨h.os,h.tape,h.output,h.size,h.block⟩
theorem only_setCell {a w:World} {g:Nat} (h:a.grownBy w (some g)) {p:Addr} (hp:p.block=g) (u:Value):a.grownBy (w.setCell p u) (some g) :=
 ⟨h.os,h.tape,h.output,by simpa [World.setCell] using h.size,fun i hi hne=>(Below.heap_setCell w p u i (by
  rintro rfl
  exact hne (by rw[hp]))).trans (h.block i hi hne)⟩
theorem only_of_below {a w:World} (h:Below a.heap.size a w) (row:Option Nat):a.grownBy w row:=⟨h.os,h.tape,h.output,h.size,fun i hi _=>h.block i hi⟩
theorem cur_stored {w w':World} {p:Nat} {A:Option Addr} {n c:Nat} {bs:List (Fin 256)} {i':Nat} {h':Int} (hg:w.grownBy w' (some p)) (hp:p<w.heap.size)
  (h1:w'.heap[p]?=some (.cells #[.slice A n c,.int .i64 i',.int .i64 h'] 62 (0,0))) (h2:bs.length=n) (h3:Rd w 1 A n (bs.flatMap bcell)) (h4:0<n→∀ ad,A=some ad→ad.block<p) (h5:i'≤n) (h6:n≤1048576):CurAt w' p:=by
 refine ⟨A,n,c,bs,i',h',h1,h2,⟨h3.1,fun h0=>?_⟩,h4,h5,h6⟩
 obtain ⟨b,off,e,hl,hc⟩:=h3.2 h0
 refine ⟨b,off,e,Nat.lt_of_lt_of_le hl hg.size,fun j u hu=>?_⟩
 have hne:=h4 h0 _ e
 rw[←hc j u hu]
 have hk:=hg.block b hl (by
  intro e1
  injection e1 with e1
  simp only at hne
  omega)
 simp [World.cell?,hk]
theorem l1Byte_any (w:World) (p:Nat) (hcur:CurAt w p):Calls Try.prog 29 #[.pointer (some ⟨p,0,none⟩)] w (DI w p 0 255):=by
 have hp:=hcur.lt
 obtain ⟨A,n,c,bs,i,h,h1,h2,h3,h4,h5,h6⟩:=hcur
 have p0:=cell_at (j:=0) h1 rfl
 have p1:=cell_at (j:=1) h1 rfl
 have p2:=cell_at (j:=2) h1 rfl
 have f2:w.frozen? ⟨p,2,none⟩=false:=by simp [World.frozen?,h1]
 have H1:=hD h1
 have H2:=hD h2
 have H3:=hD h3
 have H4:=hD h4
 clear h1 h2 h3 h4
 go_enter Try.func29,Try.ntmps29
 go_wp2
 obtain ⟨w1,hw1⟩:∃ w1,w1=w.setCell ⟨p,2,none⟩ (.int .i64 (wrap64 (wrap64 (h*6364136223846793005)+1442695040888963407))):=⟨_,rfl⟩
 rw[←hw1]
 obtain ⟨h',hh'⟩:∃ h',h'=wrap64 (wrap64 (h*6364136223846793005)+1442695040888963407):=⟨_,rfl⟩
 rw[←hh'] at hw1 ⊢
 have g1:w.grownBy w1 (some p):=by rw[hw1];exact only_setCell (World.grownBy.refl w _) rfl _
 have x1:w1.heap[p]?=some (.cells #[.slice A n c,.int .i64 i,.int .i64 h'] 62 (0,0)):=by rw[hw1,heap_setCell_same _ _ _ _ _ _ H1.out];rfl
 clear hw1 hh' p0 p1 p2 f2
 have p0:=cell_at (j:=0) x1 rfl
 have p1:=cell_at (j:=1) x1 rfl
 have p2:=cell_at (j:=2) x1 rfl
 have f1:w1.frozen? ⟨p,1,none⟩=false:=by simp [World.frozen?,x1]
 have X1:=hD x1
 clear x1
 by_cases hin:i<n
 ·obtain ⟨x,hx⟩:∃ x,bs[i]?=some x:=⟨_,List.getElem?_eq_getElem (by rw[H2.out];exact hin)⟩
  obtain ⟨b,off,rfl,hbl,hc⟩:=H3.out.2 Zq1
  have hbp:b<p:=H4.out Zq1 _ rfl
  have q0:w1.cell? ⟨b,off+i,none⟩=some (.int .u8 (x.val:Int)):=by
   have h:=hc (i*1+0) _ (flat_at bcell_len bs i x 0 hx Zq4)
   have hk:=g1.block b hbl (by
    intro e
    injection e with e
    omega)
   simpa [World.cell?,hk] using h
  have hx2:=x.isLt
  clear hc hx
  go_quiet (fail)
  go_wp2_with fail
  go_quiet (fail)
  go_wp2_with fail
  go_quiet (fail)
  go_wp2_with fail
  go_ret
  have g2:∀ k,w.grownBy ((w1.drewN k).setCell ⟨p,1,none⟩ (.int .i64 ((i:Int)+1))) (some p):=fun k=>only_setCell (only_drewN g1 k) rfl _
  refine ⟨_,(and255 _).1,(and255 _).2,rfl,cur_stored (i':=i+1) (h':=h') (c:=c) (g2 _) hp ?_ H2.out H3.out H4.out Zq1 h6,g2 _⟩
  rw[heap_setCell_same _ _ _ _ _ _ (show(w1.drewN _).heap[p]?=some (.cells #[.slice (some ⟨b,off,none⟩) n c,.int .i64 i,.int .i64 h'] 62 (0,0)) from X1.out)]
  rfl
 ·go_quiet (fail)
  go_wp2_with fail
  go_quiet (fail)
  go_wp2_with fail
  go_ret
  have g2:∀ k l,w.grownBy ((w1.drewN k).drewN l) (some p):=fun k l=>only_drewN (only_drewN g1 k) l
  exact ⟨_,(and255 _).1,(and255 _).2,rfl,cur_stored (i':=i) (h':=h') (c:=c) (g2 _ _) hp X1.out H2.out H3.out H4.out Zq1 h6,g2 _ _⟩
theorem l1Below_any (n hi:Int) (w:World) (p:Nat) (hcur:CurAt w p) (h0:0≤hi) (hn:n≤hi+1) (hm:n≤9223372036854775807):Calls Try.prog 15 #[.pointer (some ⟨p,0,none⟩),.int .i64 n] w (DI w p 0 hi):=by
 by_cases h1:n≤0
 ·go_enter Try.func15,Try.ntmps15
  go_wp2_with fail
  go_ret
  exact ⟨0,by omega,h0,rfl,hcur,World.grownBy.refl w _⟩
 by_cases h2:n≤256
 ·go_enter Try.func15,Try.ntmps15
  go_wp2_with fail
  refine(l1Byte_any w p hcur).mono ?_
  rintro e w1 ⟨x,hx0,hx1,rfl,hc1,hg1⟩
  go_wp2_with fail
  go_ret
  exact ⟨x % n,Int.emod_nonneg _ Zq1,by have:=Int.emod_lt_of_pos x (show 0<n by omega);omega,rfl,hc1,hg1⟩
 ·go_enter Try.func15,Try.ntmps15
  go_wp2_with fail
  refine(l1Byte_any w p hcur).mono ?_
  rintro e w1 ⟨x,hx0,hx1,rfl,hc1,hg1⟩
  go_wp2_with fail
  refine(l1Byte_any w1 p hc1).mono ?_
  rintro e w2 ⟨y,hy0,hy1,rfl,hc2,hg2⟩
  go_wp2_with fail
  refine(l1Byte_any w2 p hc2).mono ?_
  rintro e w3 ⟨z,hz0,hz1,rfl,hc3,hg3⟩
  go_wp2_with fail
  refine(l1Byte_any w3 p hc3).mono ?_
  rintro e w4 ⟨u,hu0,hu1,rfl,hc4,hg4⟩
  go_wp2_with fail
  go_ret
  exact ⟨(x*16777216+y*65536+z*256+u) % n,Int.emod_nonneg _ Zq1,by have:=Int.emod_lt_of_pos (x*16777216+y*65536+z*256+u) (show 0<n by omega);omega,rfl,hc4,((hg1.trans hg2).trans hg3).trans hg4⟩
theorem l1Once_any (n:Int) (w:World) (p:Nat) (hcur:CurAt w p) (hm0:-9223372036854775808≤n) (hm:n≤9223372036854775807):Calls Try.prog 39 #[.pointer (some ⟨p,0,none⟩),.int .i64 n] w (DB w p):=by
 go_enter Try.func39,Try.ntmps39
 go_wp2_with fail
 refine(l1Below_any n 9223372036854775807 w p hcur Zq1 Zq1 hm).mono ?_
 rintro e w1 ⟨x,hx0,hx1,rfl,hc1,hg1⟩
 go_wp2_with fail
 go_ret
 exact ⟨_,rfl,hc1,hg1⟩
theorem grown_rd {w w':World} {p size n:Nat} {A:Option Addr} {xs:List Value} (h:Rd w size A n xs) (hg:w.grownBy w' (some p)) (hne:0<n→∀ ad,A=some ad→ad.block≠p):Rd w' size A n xs :=
 ⟨h.1,fun h0=>by
  obtain ⟨b,off,e,hl,hc⟩:=h.2 h0
  refine ⟨b,off,e,Nat.lt_of_lt_of_le hl hg.size,fun j u hu=>?_⟩
  rw[←hc j u hu]
  have hne':=hne h0 _ e
  have hk:=hg.block b hl (by
   intro e1
   injection e1 with e1
   exact hne' e1)
  simp [World.cell?,hk]⟩
theorem l1PickInt_any (b k c:Nat) (L:List Int) (w:World) (p:Nat) (hcur:CurAt w p) (hL:L.length=k) (hk:0<k) (hk2:k≤1000) (hr:Rd w 1 (some ⟨b,0,none⟩) k (L.map (Value.int .i64))) (hne:b≠p):Calls Try.prog 27 #[.pointer (some ⟨p,0,none⟩),.slice (some ⟨b,0,none⟩) k c] w (DL L w p):=by
 have HL:=hD hL
 have HR:=hD hr
 clear hL hr
 go_enter Try.func27,Try.ntmps27
 go_wp2_with fail
 refine(l1Below_any k (k - 1) w p hcur Zq1 Zq1 Zq1).mono ?_
 rintro e w1 ⟨x,hx0,hx1,rfl,hc1,hg1⟩
 obtain ⟨j,rfl⟩:∃ j:Nat,x=j:=⟨x.toNat,by omega⟩
 have hjk:j<k:=by omega
 obtain ⟨y,hy⟩:∃ y,L[j]?=some y:=⟨_,List.getElem?_eq_getElem (by rw[HL.out];exact hjk)⟩
 have hq:w1.cell? ⟨b,j,none⟩=some (.int .i64 y):=by
  obtain ⟨b',off,e,hl,hc⟩:=(grown_rd HR.out hg1 (fun _ ad e=>by cases e;exact hne)).2 hk
  injection e with e
  injection e with e1 e2
  subst e1 e2
  have:=hc j (.int .i64 y) (by simp [hy])
  simpa using this
 have HY:=hD (List.mem_of_getElem? hy)
 clear hy
 go_wp2_with fail
 go_ret
 exact ⟨y,HY.out,rfl,hc1,hg1⟩
def NewCur (w:World) (e:Ending) (w':World):Prop:=∃ p,e=.returned (.pointer (some ⟨p,0,none⟩))∧w.heap.size≤p∧CurAt w' p∧Below w.heap.size w w'
theorem new_cur {w:World} {A:Option Addr} {n c:Nat} {bs:List (Fin 256)} {h:Int} (hr:Rd w 1 A n (bs.flatMap bcell)) (hl:bs.length=n) (hn:n≤1048576) :
  NewCur w (.returned (.pointer (some ⟨w.heap.size,0,none⟩))) (w.alloc (.cells #[.slice A n c,.int .i64 0,.int .i64 h] 62)):=by
 have hb:Below w.heap.size w (w.alloc (.cells #[.slice A n c,.int .i64 0,.int .i64 h] 62)):=Zq0
 refine ⟨w.heap.size,rfl,Nat.le_refl _,⟨A,n,c,bs,0,h,heap_alloc_new w _,hl,hr.below hb,fun h0 ad e=>?_,Nat.zero_le _,hn⟩,hb⟩
 obtain ⟨b,off,e',hlt,_⟩:=hr.2 h0
 rw[e] at e'
 injection e' with e'
 rw[e']
 exact hlt
theorem l1New_any (A:Option Addr) (n c:Nat) (bs:List (Fin 256)) (w:World) (h:Rd w 1 A n (bs.flatMap bcell)) (hl:bs.length=n) (hn:n≤1048576):Calls Try.prog 12 #[.slice A n c] w (NewCur w):=by
 have H:=hD h
 have HL:=hD hl
 clear h hl
 go_enter Try.func12,Try.ntmps12
 go_wp2_with fail
 go_loop [3,4] (fun s i=>∃ (t:Nat) (h:Int),t≤n∧i=.int .i64 t∧s=.int .i64 h) (fun _ i=>n - (intOf i).toNat)
 case atStart=>exact ⟨0,_,Nat.zero_le _,rfl,rfl⟩
 case round =>
  obtain ⟨t,h,ht,rfl,rfl⟩:=hrel
  by_cases hlt:t<n
  ·by_cases h4:t<4000
   ·obtain ⟨x,hx⟩:∃ x,bs[t]?=some x:=⟨_,List.getElem?_eq_getElem (by rw[HL.out];exact hlt)⟩
    obtain ⟨b,off,rfl,hbl,hc⟩:=H.out.2 Zq1
    have q0:w.cell? ⟨b,off+t,none⟩=some (.int .u8 (x.val:Int)):=by
     have:=hc (t*1+0) _ (flat_at bcell_len bs t x 0 hx Zq4)
     simpa using this
    have hx2:=x.isLt
    clear hc hx
    go_wp2_with fail
    go_round
    case rel=>exact ⟨t+1,_,by omega,by go_num,rfl⟩
    case measure=>simp [intOf];omega
   ·go_wp2_with fail
    go_ret
    exact new_cur H.out HL.out hn
  ·go_wp2_with fail
   go_ret
   exact new_cur H.out HL.out hn
structure Fr (w:World) (p:Nat) (w':World):Prop where
 cur:CurAt w' p
 gr:w.grownBy w' (some p)
theorem Fr.start {w:World} {p:Nat} (h:CurAt w p):Fr w p w:=⟨h,World.grownBy.refl w _⟩
theorem Fr.lt {w w1:World} {p:Nat} (h:Fr w p w1) (hp:p<w.heap.size):p<w1.heap.size:=h.cur.lt
theorem Fr.below {w w1 w2:World} {p:Nat} (h:Fr w p w1) (hb:Below w1.heap.size w1 w2):Fr w p w2 :=
 ⟨h.cur.below hb,h.gr.andThen (only_of_below hb none) Zq5⟩
theorem Fr.alloc {w w1:World} {p:Nat} (h:Fr w p w1) (ob:Obj):Fr w p (w1.alloc ob):=h.below ((Below.refl _ _).alloc (Nat.le_refl _) _)
theorem Fr.call {w w1 w2:World} {p:Nat} (h:Fr w p w1) (hc:CurAt w2 p) (hg:w1.grownBy w2 (some p)):Fr w p w2:=⟨hc,h.gr.trans hg⟩
theorem Fr.own {w w1 w2:World} {p:Nat} {row:Option Nat} (h:Fr w p w1) (hp:p<w.heap.size) (hg:w1.grownBy w2 row) (hr:∀ k,row=some k→w.heap.size≤k):Fr w p w2 :=
 ⟨h.cur.grown hg (fun k hk=>by have:=hr k hk;omega),h.gr.andThen hg (fun j hj=>.inl (hr j hj))⟩
theorem Fr.set {w w1:World} {p:Nat} (h:Fr w p w1) (hp:p<w.heap.size) {a:Addr} (ha:w.heap.size≤a.block) (v:Value):Fr w p (w1.setCell a v) :=
 h.own (row:=some a.block) hp (only_setCell (World.grownBy.refl w1 _) rfl v) (fun k hk=>by injection hk with hk;omega)
theorem Fr.drewN {w w1:World} {p:Nat} (h:Fr w p w1) (n:Nat):Fr w p (w1.drewN n):=⟨h.cur,only_drewN h.gr n⟩
theorem box_call {w1 w2:World} {b p:Nat} {ob:Obj} (h:w1.heap[b]?=some ob) (hg:w1.grownBy w2 (some p)) (hne:b≠p):w2.heap[b]?=some ob :=
 (hg.block b (lt_of_block h) (fun e=>hne (by injection e))).trans h
theorem rd_lit1 {w:World} {cs:Array Value} {e n size b:Nat} (h0:b=w.heap.size) (hs:cs.size=n*size):Rd (w.alloc (.cells cs e)) size (some ⟨b,0,none⟩) n cs.toList:=by
 subst h0
 refine ⟨by simpa using hs,fun _=>⟨_,0,rfl,by simp,fun j u hu=>?_⟩⟩
 have h:=heap_alloc_new w (.cells cs e)
 have hc:cs[j]?=some u:=by rw[←Array.getElem?_toList];exact hu
 rw[Nat.zero_add]
 exact cell_at h hc
theorem free_at {w:World} {b j:Nat} {cs:Array Value} {t:TypeId} (h:w.heap[b]?=some (.cells cs t (0,0))):w.frozen? ⟨b,j,none⟩=false:=by simp [World.frozen?,h]

def InN (n:Nat) (L:List Int):Prop:=∀ x∈L,0≤x∧x<n
def DPn (w:World) (p n:Nat) (e:Ending) (w':World):Prop:=∃ (v:Value) (L:List Int),e=.returned v∧L.length=n∧InN n L∧w'.ownsRow w.heap.size 3 1 v n (L.map (Value.int .i64))∧CurAt w' p∧w.grownBy w' (some p)
def RetIntsN (w:World) (n:Nat) (e:Ending) (w':World):Prop:=∃ (v:Value) (L:List Int),e=.returned v∧L.length=n∧InN n L∧w'.ownsRow w.heap.size 3 1 v n (L.map (Value.int .i64))∧Below w.heap.size w w'∧w.heap.size≤w'.heap.size
def DGk (kind:Int) (w:World) (p:Nat) (e:Ending) (w':World):Prop:=∃ a b c:Int,e=.returned (.agg #[.int .i64 kind,.int .i64 a,.int .i64 b,.int .i64 c])∧CurAt w' p∧w.grownBy w' (some p)
def DGn (n:Nat) (w:World) (p:Nat) (e:Ending) (w':World):Prop:=∃ k a b c:Int,(1≤k∧k≤12∧ar k≤n)∧e=.returned (.agg #[.int .i64 k,.int .i64 a,.int .i64 b,.int .i64 c])∧CurAt w' p∧w.grownBy w' (some p)
theorem inN_set {n:Nat} {L:List Int} {y:Int} (h:InN n L) (hy:y∈L) (i:Nat):InN n (L.set i y):=by
 intro x hx
 rcases List.mem_or_eq_of_mem_set hx with h1|h1
 ·exact h x h1
 ·rw[h1];exact h y hy
theorem inN_snoc {n:Nat} {L:List Int} {y:Int} (h:InN n L) (h0:0≤y) (h1:y<n):InN n (L++[y]):=by
 intro x hx
 rcases List.mem_append.1 hx with h2|h2
 ·exact h x h2
 ·rw[List.mem_singleton.1 h2];exact ⟨h0,h1⟩
theorem inN_up {n m:Nat} {L:List Int} (h:InN n L) (hm:n≤m):InN m L:=fun x hx=>by have:=h x hx;omega
theorem picks8 {y:Int} (h:y∈([4,7,5,8,9,9,9,9]:List Int)):1≤y∧y≤12:=by
 simp only[List.mem_cons,List.not_mem_nil,or_false] at h
 omega
theorem pickedN {w:World} {L:List Int} {b:Nat} (hb:b=w.heap.size):Rd (w.alloc (.cells (L.map (Value.int .i64)).toArray 3)) 1 (some ⟨b,0,none⟩) L.length (L.map (Value.int .i64)):=by
 have h:=rd_lit1 (w:=w) (cs:=(L.map (Value.int .i64)).toArray) (e:=3) (n:=L.length) (size:=1) hb Zq5
 simpa using h
theorem inN_set2 {n:Nat} {L:List Int} {y z:Int} (h:InN n L) (hy:y∈L) (hz:z∈L) {i j:Nat}:InN n ((L.set i y).set j z):=by
 intro x hx
 rcases List.mem_or_eq_of_mem_set hx with h1|h1
 ·exact inN_set h hy i x h1
 ·rw[h1];exact h z hz
theorem IdentityPermutation_n (n:Nat) (w:World) (h1:1≤n) (h4:n≤4):Calls Try.prog 72 #[.int .i64 n] w (RetIntsN w n):=by
 obtain ⟨i0,hi,hz0,hz1,hz2⟩:=info_parts info_int
 have hin:inB (n:Int) 1 4=true:=inB_iff.2 Zq1
 go_enter Try.func72,Try.ntmps72
 go_wp2_with fail
 go_loopw [3,4] (fun v i wr=>∃ (t:Nat) (L:List Int),t≤n∧i=.int .i64 t∧L.length=t∧Hid (InN t L)∧wr.ownsRow w.heap.size 3 1 v t (L.map (Value.int .i64))∧Below w.heap.size w wr) (fun _ i _=>n - (intOf i).toNat)
 case atStart=>exact ⟨0,[],Nat.zero_le _,rfl,rfl,(fun x hx=>absurd hx Zq5),by simpa using own_empty w _ 1,Zq0⟩
 case round =>
  obtain ⟨t,L,ht,rfl,hL,hin2,hown,hb⟩:=hrel
  have HL:=hD hL
  clear hL
  by_cases hlt:t<n
  ·go_wp2_with (first|(go_at_call 32;refine(l1In_any _ _ _ _).mono ?_;rintro e w' ⟨rfl,rfl⟩)|(at_builtin;refine wpList_append_rd _ rfl _ _ 64 rfl w.heap.size 3 i0 _ 1 8 Try.underlying64 hi hz0 hz1 hz2 rfl Zq4 _ _ _ rfl (hown.alloc _) _ 1 1 _ rfl (rd_lit1 ?c0 rfl) ?c2 ?c3 ?c4 ?c5 ?_))
   case c0=>first|rfl|simp
   case c2=>repeat' (first|rfl|apply And.intro)
   case c3=>simp only[maxLen];omega
   case c4=>omega
   case c5=>have:=hb.size;simp;omega
   intro v3 w3 own3 gr3 _
   have b3:=(hb.alloc hb.size _).grown gr3 (by have:=hb.size;simp;omega) (own_ge hown)
   clear hown gr3
   go_wp2_with fail
   go_roundw
   case rel=>exact ⟨t+1,L++[(t:Int)],by omega,by go_num,by simp [HL.out],inN_snoc (inN_up hin2.out Zq1) Zq1 Zq1,by simpa using own3,b3⟩
   case measure=>simp [intOf];omega
  ·obtain rfl:t=n:=by omega
   go_wp2_with (go_at_call 32;refine(l1In_any _ _ _ _).mono ?_;rintro e w' ⟨rfl,rfl⟩)
   go_ret
   exact ⟨_,L,rfl,HL.out,hin2.out,hown,hb,hb.size⟩
theorem l8Perm_n (n:Nat) (w:World) (p:Nat) (hcur:CurAt w p) (h1:1≤n) (h4:n≤4):Calls Try.prog 56 #[.pointer (some ⟨p,0,none⟩),.int .i64 n] w (DPn w p n):=by
 have hp:=hcur.lt
 go_enter Try.func56,Try.ntmps56
 go_wp2_with fail
 refine(IdentityPermutation_n n w h1 h4).mono ?_
 rintro e w1 ⟨v,L,rfl,hL,hin,hown,hb,hs⟩
 have HIN:=hD hin
 clear hin
 have hfr:Fr w p w1:=(Fr.start hcur).below hb
 rcases hown.2 with ⟨_,h0⟩|⟨g,cap,cur,rfl,hgb,hh,hcp,hm,_,_⟩
 ·omega
 have HL:=hD hL
 clear hL hh hb
 go_wp2_with fail
 go_loopw [6,7,8] (fun i _ _ wr=>∃ (t:Nat) (L:List Int),t+1≤n∧i=.int .i64 t∧L.length=n∧Hid (InN n L)∧wr.ownsRow w.heap.size 3 1 (.slice (some ⟨g,0,none⟩) n cap) n (L.map (Value.int .i64))∧Fr w p wr) (fun i _ _ _=>(intOf i).toNat)
 case atStart=>exact ⟨n - 1,L,by omega,by congr 1;omega,HL.out,HIN.out,hown,hfr⟩
 case round =>
  clear hown hfr
  obtain ⟨t,L,ht,rfl,hL,hin,hown,hfr⟩:=hrel
  have HL2:=hD hL
  clear hL
  by_cases hlt:0<t
  ·go_wp2_with fail
   refine(l1Below_any (t+1) t wr p hfr.cur Zq1 Zq1 Zq1).mono ?_
   rintro e w2 ⟨x,hx0,hx1,rfl,hc2,hg2⟩
   obtain ⟨k,rfl⟩:∃ k:Nat,x=k:=⟨x.toNat,by omega⟩
   have hfr2:=hfr.call hc2 hg2
   have hown2:w2.ownsRow w.heap.size 3 1 (.slice (some ⟨g,0,none⟩) n cap) n (L.map (Value.int .i64)):=hown.kept hg2 (.inr (by
    intro e
    simp [Value.ownBlock] at e
    omega))
   obtain ⟨y1,hy1⟩:∃ y,L[t]?=some y:=⟨_,List.getElem?_eq_getElem (by rw[HL2.out];omega)⟩
   obtain ⟨y2,hy2⟩:∃ y,L[k]?=some y:=⟨_,List.getElem?_eq_getElem (by rw[HL2.out];omega)⟩
   have z1:w2.cell? ⟨g,t,none⟩=some (.int .i64 y1):=(hown2.cellAt t Zq1).trans (by simp [hy1])
   have z2:w2.cell? ⟨g,k,none⟩=some (.int .i64 y2):=(hown2.cellAt k Zq1).trans (by simp [hy2])
   have f1:=hown2.frozenAt t
   have f2:=hown2.frozenAt k
   have HO:=hD hown2
   have HFR:=hD hfr2
   have hm1:=List.mem_of_getElem? hy1
   have hm2:=List.mem_of_getElem? hy2
   have HM1:=hD hm1
   have HM2:=hD hm2
   clear hown hown2 hfr hfr2 hy1 hy2 hc2 hg2 hm1 hm2
   by_cases hkt:k=t
   ·subst hkt
    have s0:=(HO.out.stored k (.int .i64 y2))
    have s1:=(s0.1.stored k (.int .i64 y2))
    have HS:=hD (And.intro s0 s1)
    clear s0 s1 z1
    go_wp2_with fail
    go_roundw
    case rel=>exact ⟨k - 1,(L.set k y2).set k y2,by omega,by congr 1;omega,by simp [HL2.out],by rw[List.set_set];exact inN_set hin.out HM2.out k,by simpa using HS.out.2.1,(HFR.out.own hp HS.out.1.2 (fun j hj=>by injection hj with hj;omega)).own hp HS.out.2.2 (fun j hj=>by injection hj with hj;omega)⟩
    case measure=>simp [intOf];omega
   ·have s0:=(HO.out.stored t (.int .i64 y2))
    have s1:=(s0.1.stored k (.int .i64 y1))
    have HS:=hD (And.intro s0 s1)
    clear s0 s1
    go_wp2_with fail
    go_roundw
    case rel=>exact ⟨t - 1,(L.set t y2).set k y1,by omega,by congr 1;omega,by simp [HL2.out],inN_set2 hin.out HM2.out HM1.out,by simpa using HS.out.2.1,(HFR.out.own hp HS.out.1.2 (fun j hj=>by injection hj with hj;omega)).own hp HS.out.2.2 (fun j hj=>by injection hj with hj;omega)⟩
    case measure=>simp [intOf];omega
  ·obtain rfl:t=0:=by omega
   go_wp2_with fail
   go_ret
   exact ⟨_,L,rfl,HL2.out,hin.out,hown,hfr.cur,hfr.gr⟩
theorem l9On_k (kind:Int) (n:Nat) (w:World) (p:Nat) (hcur:CurAt w p) (h1:1≤n) (h4:n≤4) (hk:ar kind≤n):Calls Try.prog 71 #[.pointer (some ⟨p,0,none⟩),.int .i64 kind,.int .i64 n] w (DGk kind w p):=by
 have hp:=hcur.lt
 go_enter Try.func71,Try.ntmps71
 go_wp2_with fail
 obtain ⟨w0,hw0⟩:∃ w0,w0=w.alloc (.cells #[.int .i64 0,.int .i64 0,.int .i64 0,.int .i64 0] 58):=⟨_,rfl⟩
 rw[←hw0]
 have x0:w0.heap[w.heap.size]?=some (.cells #[.int .i64 0,.int .i64 0,.int .i64 0,.int .i64 0] 58 (0,0)):=by rw[hw0];exact boxed1_0 _ _
 have hfr0:Fr w p w0:=by rw[hw0];exact(Fr.start hcur).alloc _
 have s0:w.heap.size<w0.heap.size:=by rw[hw0];simp
 clear hw0
 refine(l8Perm_n n w0 p hfr0.cur h1 h4).mono ?_
 rintro e w1 ⟨v,L,rfl,hL,_,hown,hc1,hg1⟩
 have x1:=box_call x0 hg1 Zq1
 have hfr1:=hfr0.call hc1 hg1
 have s1:w.heap.size<w1.heap.size:=by have:=hg1.size;omega
 rcases hown.2 with ⟨_,h0⟩|⟨g,cap,cur,rfl,hgb,hh,hcp,hm,_,_⟩
 ·omega
 obtain ⟨y0,hy0⟩:∃ y,L[0]?=some y:=⟨_,List.getElem?_eq_getElem Zq1⟩
 have z0:w1.cell? ⟨g,0,none⟩=some (.int .i64 y0):=(hown.cellAt 0 Zq1).trans (by simp [hy0])
 obtain ⟨q0,q1,q2,q3⟩:=boxcells4 (lay:=Below.refl _ _) x1
 have f0:=free_at (j:=0) x1
 have f1:=free_at (j:=1) x1
 have f2:=free_at (j:=2) x1
 have f3:=free_at (j:=3) x1
 have hglt:g<w1.heap.size:=(hown.lt g rfl).2
 have hne:g≠w.heap.size:=by omega
 have HL:=hD hL
 have HO:=hD hown
 have har:=ar_le kind
 clear hy0 hL hown hh x0 x1 hc1 hg1 hfr0
 by_cases a1:1<ar kind
 ·obtain ⟨y1,hy1⟩:∃ y,L[1]?=some y:=⟨_,List.getElem?_eq_getElem (by rw[HL.out];omega)⟩
  have z1:w1.cell? ⟨g,1,none⟩=some (.int .i64 y1):=(HO.out.cellAt 1 Zq1).trans (by simp [hy1])
  clear hy1
  by_cases a2:2<ar kind
  ·obtain ⟨y2,hy2⟩:∃ y,L[2]?=some y:=⟨_,List.getElem?_eq_getElem (by rw[HL.out];omega)⟩
   have z2:w1.cell? ⟨g,2,none⟩=some (.int .i64 y2):=(HO.out.cellAt 2 Zq1).trans (by simp [hy2])
   clear hy2
   go_wp2_with (go_at_call 58;refine(Arity_spec _ _).mono ?_;rintro e w' ⟨rfl,rfl⟩)
   exact bodyPost_ret (v:=.agg #[.int .i64 kind,.int .i64 y0,.int .i64 y1,.int .i64 y2]) (by simp [results,Try.results71,go_sem,s1,q0,q1,q2,q3]) rfl ⟨_,_,_,rfl,(Fr.cur (w:=w) (by repeat (first|assumption|(with_reducible refine Fr.alloc ?_ _)|(with_reducible refine Fr.set ?_ hp Zq2 _)))),(Fr.gr (by repeat (first|assumption|(with_reducible refine Fr.alloc ?_ _)|(with_reducible refine Fr.set ?_ hp Zq2 _))))⟩
  ·go_wp2_with (go_at_call 58;refine(Arity_spec _ _).mono ?_;rintro e w' ⟨rfl,rfl⟩)
   exact bodyPost_ret (v:=.agg #[.int .i64 kind,.int .i64 y0,.int .i64 y1,.int .i64 0]) (by simp [results,Try.results71,go_sem,s1,q0,q1,q2,q3]) rfl ⟨_,_,_,rfl,(Fr.cur (w:=w) (by repeat (first|assumption|(with_reducible refine Fr.alloc ?_ _)|(with_reducible refine Fr.set ?_ hp Zq2 _)))),(Fr.gr (by repeat (first|assumption|(with_reducible refine Fr.alloc ?_ _)|(with_reducible refine Fr.set ?_ hp Zq2 _))))⟩
 ·go_wp2_with (go_at_call 58;refine(Arity_spec _ _).mono ?_;rintro e w' ⟨rfl,rfl⟩)
  exact bodyPost_ret (v:=.agg #[.int .i64 kind,.int .i64 y0,.int .i64 0,.int .i64 0]) (by simp [results,Try.results71,go_sem,s1,q0,q1,q2,q3]) rfl ⟨_,_,_,rfl,(Fr.cur (w:=w) (by repeat (first|assumption|(with_reducible refine Fr.alloc ?_ _)|(with_reducible refine Fr.set ?_ hp Zq2 _)))),(Fr.gr (by repeat (first|assumption|(with_reducible refine Fr.alloc ?_ _)|(with_reducible refine Fr.set ?_ hp Zq2 _))))⟩
theorem l9GateN_1 (w:World) (p:Nat) (hcur:CurAt w p):Calls Try.prog 55 #[.pointer (some ⟨p,0,none⟩),.int .i64 1] w (DGn 1 w p):=by
 have hp:=hcur.lt
 go_enter Try.func55,Try.ntmps55
 go_wp2_with fail
 obtain ⟨w0,hw0⟩:∃ w0,w0=(w.alloc (.cells #[.int .i64 0,.int .i64 0,.int .i64 0,.int .i64 0] 58)).alloc (.cells #[.int .i64 0,.int .i64 8,.int .i64 11,.int .i64 12,.int .i64 12] 3):=⟨_,rfl⟩
 rw[←hw0]
 have x0:w0.heap[w.heap.size]?=some (.cells #[.int .i64 0,.int .i64 0,.int .i64 0,.int .i64 0] 58 (0,0)):=by rw[hw0];exact boxed2_0 _ _ _
 have hfr0:Fr w p w0:=by rw[hw0];exact((Fr.start hcur).alloc _).alloc _
 have s0:w.heap.size<w0.heap.size:=by rw[hw0];simp;omega
 clear hw0
 refine(l1Below_any 8 11 w0 p hfr0.cur Zq1 Zq1 Zq1).mono ?_
 rintro e w1 ⟨x,hx0,hx1,rfl,hc1,hg1⟩
 have x1:=box_call x0 hg1 Zq1
 have hfr1:=hfr0.call hc1 hg1
 have s1:w.heap.size<w1.heap.size:=by have:=hg1.size;omega
 have X1:=hD x1
 clear x0 x1 hc1 hg1 hfr0
 go_wp2_with fail
 refine(l1Once_any 2 w1 p hfr1.cur Zq1 Zq1).mono ?_
 rintro e w2 ⟨b,rfl,hc2,hg2⟩
 have x2:=box_call X1.out hg2 Zq1
 have hfr2:=hfr1.call hc2 hg2
 have s2:w.heap.size<w2.heap.size:=by have:=hg2.size;omega
 have X2:=hD x2
 clear X1 x2 hc2 hg2 hfr1
 cases b
 ·by_cases hA:1<ar (1+x)
  ·go_wp2_with (go_at_call 58;refine(Arity_spec _ _).mono ?_;rintro e w' ⟨rfl,rfl⟩)
   refine(l9On_k (4) 1 w2 p hfr2.cur Zq1 Zq1 (show ar 4≤1 by decide)).mono ?_
   rintro e w3 ⟨a,b,c,rfl,hc,hg⟩
   have x3:=box_call X2.out hg Zq1
   have hfr3:=hfr2.call hc hg
   have s3:w.heap.size<w3.heap.size:=by have:=hg.size;omega
   obtain ⟨q0,q1,q2,q3⟩:=boxcells4 (lay:=Below.refl _ _) x3
   have f0:=free_at (j:=0) x3
   have f1:=free_at (j:=1) x3
   have f2:=free_at (j:=2) x3
   have f3:=free_at (j:=3) x3
   clear X2 x3 hc hg hfr2
   go_wp2_with fail
   exact bodyPost_ret (v:=.agg #[.int .i64 (4),.int .i64 a,.int .i64 b,.int .i64 c]) (by simp [results,Try.results55,go_sem,q0,q1,q2,q3]) rfl ⟨_,_,_,_,⟨by omega,by omega,show ar 4≤1 by decide⟩,rfl,(Fr.cur (w:=w) (by repeat (first|assumption|(with_reducible refine Fr.alloc ?_ _)|(with_reducible refine Fr.set ?_ hp Zq2 _)))),(Fr.gr (by repeat (first|assumption|(with_reducible refine Fr.alloc ?_ _)|(with_reducible refine Fr.set ?_ hp Zq2 _))))⟩
  ·go_wp2_with (go_at_call 58;refine(Arity_spec _ _).mono ?_;rintro e w' ⟨rfl,rfl⟩)
   refine(l9On_k (1+x) 1 w2 p hfr2.cur Zq1 Zq1 Zq1).mono ?_
   rintro e w3 ⟨a,b,c,rfl,hc,hg⟩
   have x3:=box_call X2.out hg Zq1
   have hfr3:=hfr2.call hc hg
   have s3:w.heap.size<w3.heap.size:=by have:=hg.size;omega
   obtain ⟨q0,q1,q2,q3⟩:=boxcells4 (lay:=Below.refl _ _) x3
   have f0:=free_at (j:=0) x3
   have f1:=free_at (j:=1) x3
   have f2:=free_at (j:=2) x3
   have f3:=free_at (j:=3) x3
   clear X2 x3 hc hg hfr2
   go_wp2_with fail
   exact bodyPost_ret (v:=.agg #[.int .i64 (1+x),.int .i64 a,.int .i64 b,.int .i64 c]) (by simp [results,Try.results55,go_sem,q0,q1,q2,q3]) rfl ⟨_,_,_,_,⟨by omega,by omega,by omega⟩,rfl,(Fr.cur (w:=w) (by repeat (first|assumption|(with_reducible refine Fr.alloc ?_ _)|(with_reducible refine Fr.set ?_ hp Zq2 _)))),(Fr.gr (by repeat (first|assumption|(with_reducible refine Fr.alloc ?_ _)|(with_reducible refine Fr.set ?_ hp Zq2 _))))⟩
 ·go_wp2_with fail
  obtain ⟨w3,hw3⟩:∃ w3,w3=w2.alloc (.cells #[.int .i64 4,.int .i64 7,.int .i64 5,.int .i64 8,.int .i64 9,.int .i64 9,.int .i64 9,.int .i64 9] 3):=⟨_,rfl⟩
  rw[←hw3]
  have x3:w3.heap[w.heap.size]?=some (.cells #[.int .i64 0,.int .i64 0,.int .i64 0,.int .i64 0] 58 (0,0)):=by rw[hw3];exact(Below.heap_alloc _ _ _ s2).trans X2.out
  have hfr3:Fr w p w3:=by rw[hw3];exact hfr2.alloc _
  have hpk:=pickedN (w:=w2) (L:=[4,7,5,8,9,9,9,9]) rfl
  have hr3:Rd w3 1 (some ⟨w2.heap.size,0,none⟩) 8 (([4,7,5,8,9,9,9,9]:List Int).map (Value.int .i64)):=by rw[hw3];exact hpk
  have s3:w.heap.size<w3.heap.size:=by rw[hw3];simp;omega
  clear hw3 hpk X2
  refine(l1PickInt_any w2.heap.size 8 8 [4,7,5,8,9,9,9,9] w3 p hfr3.cur rfl Zq1 Zq1 hr3 Zq1).mono ?_
  rintro e w4 ⟨y,hy,rfl,hc4,hg4⟩
  have hyb:=picks8 hy
  clear hy
  have x4:=box_call x3 hg4 Zq1
  have hfr4:=hfr3.call hc4 hg4
  have s4:w.heap.size<w4.heap.size:=by have:=hg4.size;omega
  have X4:=hD x4
  clear x3 x4 hc4 hg4 hfr3 hr3
  by_cases hA:1<ar (y)
  ·go_wp2_with (go_at_call 58;refine(Arity_spec _ _).mono ?_;rintro e w' ⟨rfl,rfl⟩)
   refine(l9On_k (4) 1 w4 p hfr4.cur Zq1 Zq1 (show ar 4≤1 by decide)).mono ?_
   rintro e w5 ⟨a,b,c,rfl,hc,hg⟩
   have x5:=box_call X4.out hg Zq1
   have hfr5:=hfr4.call hc hg
   have s5:w.heap.size<w5.heap.size:=by have:=hg.size;omega
   obtain ⟨q0,q1,q2,q3⟩:=boxcells4 (lay:=Below.refl _ _) x5
   have f0:=free_at (j:=0) x5
   have f1:=free_at (j:=1) x5
   have f2:=free_at (j:=2) x5
   have f3:=free_at (j:=3) x5
   clear X4 x5 hc hg hfr4
   go_wp2_with fail
   exact bodyPost_ret (v:=.agg #[.int .i64 (4),.int .i64 a,.int .i64 b,.int .i64 c]) (by simp [results,Try.results55,go_sem,q0,q1,q2,q3]) rfl ⟨_,_,_,_,⟨by omega,by omega,show ar 4≤1 by decide⟩,rfl,(Fr.cur (w:=w) (by repeat (first|assumption|(with_reducible refine Fr.alloc ?_ _)|(with_reducible refine Fr.set ?_ hp Zq2 _)))),(Fr.gr (by repeat (first|assumption|(with_reducible refine Fr.alloc ?_ _)|(with_reducible refine Fr.set ?_ hp Zq2 _))))⟩
  ·go_wp2_with (go_at_call 58;refine(Arity_spec _ _).mono ?_;rintro e w' ⟨rfl,rfl⟩)
   refine(l9On_k (y) 1 w4 p hfr4.cur Zq1 Zq1 Zq1).mono ?_
   rintro e w5 ⟨a,b,c,rfl,hc,hg⟩
   have x5:=box_call X4.out hg Zq1
   have hfr5:=hfr4.call hc hg
   have s5:w.heap.size<w5.heap.size:=by have:=hg.size;omega
   obtain ⟨q0,q1,q2,q3⟩:=boxcells4 (lay:=Below.refl _ _) x5
   have f0:=free_at (j:=0) x5
   have f1:=free_at (j:=1) x5
   have f2:=free_at (j:=2) x5
   have f3:=free_at (j:=3) x5
   clear X4 x5 hc hg hfr4
   go_wp2_with fail
   exact bodyPost_ret (v:=.agg #[.int .i64 (y),.int .i64 a,.int .i64 b,.int .i64 c]) (by simp [results,Try.results55,go_sem,q0,q1,q2,q3]) rfl ⟨_,_,_,_,⟨by omega,by omega,by omega⟩,rfl,(Fr.cur (w:=w) (by repeat (first|assumption|(with_reducible refine Fr.alloc ?_ _)|(with_reducible refine Fr.set ?_ hp Zq2 _)))),(Fr.gr (by repeat (first|assumption|(with_reducible refine Fr.alloc ?_ _)|(with_reducible refine Fr.set ?_ hp Zq2 _))))⟩
theorem l9GateN_2 (w:World) (p:Nat) (hcur:CurAt w p):Calls Try.prog 55 #[.pointer (some ⟨p,0,none⟩),.int .i64 2] w (DGn 2 w p):=by
 have hp:=hcur.lt
 go_enter Try.func55,Try.ntmps55
 go_wp2_with fail
 obtain ⟨w0,hw0⟩:∃ w0,w0=(w.alloc (.cells #[.int .i64 0,.int .i64 0,.int .i64 0,.int .i64 0] 58)).alloc (.cells #[.int .i64 0,.int .i64 8,.int .i64 11,.int .i64 12,.int .i64 12] 3):=⟨_,rfl⟩
 rw[←hw0]
 have x0:w0.heap[w.heap.size]?=some (.cells #[.int .i64 0,.int .i64 0,.int .i64 0,.int .i64 0] 58 (0,0)):=by rw[hw0];exact boxed2_0 _ _ _
 have hfr0:Fr w p w0:=by rw[hw0];exact((Fr.start hcur).alloc _).alloc _
 have s0:w.heap.size<w0.heap.size:=by rw[hw0];simp;omega
 clear hw0
 refine(l1Below_any 11 11 w0 p hfr0.cur Zq1 Zq1 Zq1).mono ?_
 rintro e w1 ⟨x,hx0,hx1,rfl,hc1,hg1⟩
 have x1:=box_call x0 hg1 Zq1
 have hfr1:=hfr0.call hc1 hg1
 have s1:w.heap.size<w1.heap.size:=by have:=hg1.size;omega
 have X1:=hD x1
 clear x0 x1 hc1 hg1 hfr0
 go_wp2_with fail
 refine(l1Once_any 2 w1 p hfr1.cur Zq1 Zq1).mono ?_
 rintro e w2 ⟨b,rfl,hc2,hg2⟩
 have x2:=box_call X1.out hg2 Zq1
 have hfr2:=hfr1.call hc2 hg2
 have s2:w.heap.size<w2.heap.size:=by have:=hg2.size;omega
 have X2:=hD x2
 clear X1 x2 hc2 hg2 hfr1
 cases b
 ·by_cases hA:2<ar (1+x)
  ·go_wp2_with (go_at_call 58;refine(Arity_spec _ _).mono ?_;rintro e w' ⟨rfl,rfl⟩)
   refine(l9On_k (4) 2 w2 p hfr2.cur Zq1 Zq1 (show ar 4≤2 by decide)).mono ?_
   rintro e w3 ⟨a,b,c,rfl,hc,hg⟩
   have x3:=box_call X2.out hg Zq1
   have hfr3:=hfr2.call hc hg
   have s3:w.heap.size<w3.heap.size:=by have:=hg.size;omega
   obtain ⟨q0,q1,q2,q3⟩:=boxcells4 (lay:=Below.refl _ _) x3
   have f0:=free_at (j:=0) x3
   have f1:=free_at (j:=1) x3
   have f2:=free_at (j:=2) x3
   have f3:=free_at (j:=3) x3
   clear X2 x3 hc hg hfr2
   go_wp2_with fail
   exact bodyPost_ret (v:=.agg #[.int .i64 (4),.int .i64 a,.int .i64 b,.int .i64 c]) (by simp [results,Try.results55,go_sem,q0,q1,q2,q3]) rfl ⟨_,_,_,_,⟨by omega,by omega,show ar 4≤2 by decide⟩,rfl,(Fr.cur (w:=w) (by repeat (first|assumption|(with_reducible refine Fr.alloc ?_ _)|(with_reducible refine Fr.set ?_ hp Zq2 _)))),(Fr.gr (by repeat (first|assumption|(with_reducible refine Fr.alloc ?_ _)|(with_reducible refine Fr.set ?_ hp Zq2 _))))⟩
  ·go_wp2_with (go_at_call 58;refine(Arity_spec _ _).mono ?_;rintro e w' ⟨rfl,rfl⟩)
   refine(l9On_k (1+x) 2 w2 p hfr2.cur Zq1 Zq1 Zq1).mono ?_
   rintro e w3 ⟨a,b,c,rfl,hc,hg⟩
   have x3:=box_call X2.out hg Zq1
   have hfr3:=hfr2.call hc hg
   have s3:w.heap.size<w3.heap.size:=by have:=hg.size;omega
   obtain ⟨q0,q1,q2,q3⟩:=boxcells4 (lay:=Below.refl _ _) x3
   have f0:=free_at (j:=0) x3
   have f1:=free_at (j:=1) x3
   have f2:=free_at (j:=2) x3
   have f3:=free_at (j:=3) x3
   clear X2 x3 hc hg hfr2
   go_wp2_with fail
   exact bodyPost_ret (v:=.agg #[.int .i64 (1+x),.int .i64 a,.int .i64 b,.int .i64 c]) (by simp [results,Try.results55,go_sem,q0,q1,q2,q3]) rfl ⟨_,_,_,_,⟨by omega,by omega,by omega⟩,rfl,(Fr.cur (w:=w) (by repeat (first|assumption|(with_reducible refine Fr.alloc ?_ _)|(with_reducible refine Fr.set ?_ hp Zq2 _)))),(Fr.gr (by repeat (first|assumption|(with_reducible refine Fr.alloc ?_ _)|(with_reducible refine Fr.set ?_ hp Zq2 _))))⟩
 ·go_wp2_with fail
  obtain ⟨w3,hw3⟩:∃ w3,w3=w2.alloc (.cells #[.int .i64 4,.int .i64 7,.int .i64 5,.int .i64 8,.int .i64 9,.int .i64 9,.int .i64 9,.int .i64 9] 3):=⟨_,rfl⟩
  rw[←hw3]
  have x3:w3.heap[w.heap.size]?=some (.cells #[.int .i64 0,.int .i64 0,.int .i64 0,.int .i64 0] 58 (0,0)):=by rw[hw3];exact(Below.heap_alloc _ _ _ s2).trans X2.out
  have hfr3:Fr w p w3:=by rw[hw3];exact hfr2.alloc _
  have hpk:=pickedN (w:=w2) (L:=[4,7,5,8,9,9,9,9]) rfl
  have hr3:Rd w3 1 (some ⟨w2.heap.size,0,none⟩) 8 (([4,7,5,8,9,9,9,9]:List Int).map (Value.int .i64)):=by rw[hw3];exact hpk
  have s3:w.heap.size<w3.heap.size:=by rw[hw3];simp;omega
  clear hw3 hpk X2
  refine(l1PickInt_any w2.heap.size 8 8 [4,7,5,8,9,9,9,9] w3 p hfr3.cur rfl Zq1 Zq1 hr3 Zq1).mono ?_
  rintro e w4 ⟨y,hy,rfl,hc4,hg4⟩
  have hyb:=picks8 hy
  clear hy
  have x4:=box_call x3 hg4 Zq1
  have hfr4:=hfr3.call hc4 hg4
  have s4:w.heap.size<w4.heap.size:=by have:=hg4.size;omega
  have X4:=hD x4
  clear x3 x4 hc4 hg4 hfr3 hr3
  by_cases hA:2<ar (y)
  ·go_wp2_with (go_at_call 58;refine(Arity_spec _ _).mono ?_;rintro e w' ⟨rfl,rfl⟩)
   refine(l9On_k (4) 2 w4 p hfr4.cur Zq1 Zq1 (show ar 4≤2 by decide)).mono ?_
   rintro e w5 ⟨a,b,c,rfl,hc,hg⟩
   have x5:=box_call X4.out hg Zq1
   have hfr5:=hfr4.call hc hg
   have s5:w.heap.size<w5.heap.size:=by have:=hg.size;omega
   obtain ⟨q0,q1,q2,q3⟩:=boxcells4 (lay:=Below.refl _ _) x5
   have f0:=free_at (j:=0) x5
   have f1:=free_at (j:=1) x5
   have f2:=free_at (j:=2) x5
   have f3:=free_at (j:=3) x5
   clear X4 x5 hc hg hfr4
   go_wp2_with fail
   exact bodyPost_ret (v:=.agg #[.int .i64 (4),.int .i64 a,.int .i64 b,.int .i64 c]) (by simp [results,Try.results55,go_sem,q0,q1,q2,q3]) rfl ⟨_,_,_,_,⟨by omega,by omega,show ar 4≤2 by decide⟩,rfl,(Fr.cur (w:=w) (by repeat (first|assumption|(with_reducible refine Fr.alloc ?_ _)|(with_reducible refine Fr.set ?_ hp Zq2 _)))),(Fr.gr (by repeat (first|assumption|(with_reducible refine Fr.alloc ?_ _)|(with_reducible refine Fr.set ?_ hp Zq2 _))))⟩
  ·go_wp2_with (go_at_call 58;refine(Arity_spec _ _).mono ?_;rintro e w' ⟨rfl,rfl⟩)
   refine(l9On_k (y) 2 w4 p hfr4.cur Zq1 Zq1 Zq1).mono ?_
   rintro e w5 ⟨a,b,c,rfl,hc,hg⟩
   have x5:=box_call X4.out hg Zq1
   have hfr5:=hfr4.call hc hg
   have s5:w.heap.size<w5.heap.size:=by have:=hg.size;omega
   obtain ⟨q0,q1,q2,q3⟩:=boxcells4 (lay:=Below.refl _ _) x5
   have f0:=free_at (j:=0) x5
   have f1:=free_at (j:=1) x5
   have f2:=free_at (j:=2) x5
   have f3:=free_at (j:=3) x5
   clear X4 x5 hc hg hfr4
   go_wp2_with fail
   exact bodyPost_ret (v:=.agg #[.int .i64 (y),.int .i64 a,.int .i64 b,.int .i64 c]) (by simp [results,Try.results55,go_sem,q0,q1,q2,q3]) rfl ⟨_,_,_,_,⟨by omega,by omega,by omega⟩,rfl,(Fr.cur (w:=w) (by repeat (first|assumption|(with_reducible refine Fr.alloc ?_ _)|(with_reducible refine Fr.set ?_ hp Zq2 _)))),(Fr.gr (by repeat (first|assumption|(with_reducible refine Fr.alloc ?_ _)|(with_reducible refine Fr.set ?_ hp Zq2 _))))⟩
theorem l9GateN_3 (w:World) (p:Nat) (hcur:CurAt w p):Calls Try.prog 55 #[.pointer (some ⟨p,0,none⟩),.int .i64 3] w (DGn 3 w p):=by
 have hp:=hcur.lt
 go_enter Try.func55,Try.ntmps55
 go_wp2_with fail
 obtain ⟨w0,hw0⟩:∃ w0,w0=(w.alloc (.cells #[.int .i64 0,.int .i64 0,.int .i64 0,.int .i64 0] 58)).alloc (.cells #[.int .i64 0,.int .i64 8,.int .i64 11,.int .i64 12,.int .i64 12] 3):=⟨_,rfl⟩
 rw[←hw0]
 have x0:w0.heap[w.heap.size]?=some (.cells #[.int .i64 0,.int .i64 0,.int .i64 0,.int .i64 0] 58 (0,0)):=by rw[hw0];exact boxed2_0 _ _ _
 have hfr0:Fr w p w0:=by rw[hw0];exact((Fr.start hcur).alloc _).alloc _
 have s0:w.heap.size<w0.heap.size:=by rw[hw0];simp;omega
 clear hw0
 refine(l1Below_any 12 11 w0 p hfr0.cur Zq1 Zq1 Zq1).mono ?_
 rintro e w1 ⟨x,hx0,hx1,rfl,hc1,hg1⟩
 have x1:=box_call x0 hg1 Zq1
 have hfr1:=hfr0.call hc1 hg1
 have s1:w.heap.size<w1.heap.size:=by have:=hg1.size;omega
 have X1:=hD x1
 clear x0 x1 hc1 hg1 hfr0
 go_wp2_with fail
 refine(l1Once_any 2 w1 p hfr1.cur Zq1 Zq1).mono ?_
 rintro e w2 ⟨b,rfl,hc2,hg2⟩
 have x2:=box_call X1.out hg2 Zq1
 have hfr2:=hfr1.call hc2 hg2
 have s2:w.heap.size<w2.heap.size:=by have:=hg2.size;omega
 have X2:=hD x2
 clear X1 x2 hc2 hg2 hfr1
 cases b
 ·by_cases hA:3<ar (1+x)
  ·go_wp2_with (go_at_call 58;refine(Arity_spec _ _).mono ?_;rintro e w' ⟨rfl,rfl⟩)
   refine(l9On_k (4) 3 w2 p hfr2.cur Zq1 Zq1 (show ar 4≤3 by decide)).mono ?_
   rintro e w3 ⟨a,b,c,rfl,hc,hg⟩
   have x3:=box_call X2.out hg Zq1
   have hfr3:=hfr2.call hc hg
   have s3:w.heap.size<w3.heap.size:=by have:=hg.size;omega
   obtain ⟨q0,q1,q2,q3⟩:=boxcells4 (lay:=Below.refl _ _) x3
   have f0:=free_at (j:=0) x3
   have f1:=free_at (j:=1) x3
   have f2:=free_at (j:=2) x3
   have f3:=free_at (j:=3) x3
   clear X2 x3 hc hg hfr2
   go_wp2_with fail
   exact bodyPost_ret (v:=.agg #[.int .i64 (4),.int .i64 a,.int .i64 b,.int .i64 c]) (by simp [results,Try.results55,go_sem,q0,q1,q2,q3]) rfl ⟨_,_,_,_,⟨by omega,by omega,show ar 4≤3 by decide⟩,rfl,(Fr.cur (w:=w) (by repeat (first|assumption|(with_reducible refine Fr.alloc ?_ _)|(with_reducible refine Fr.set ?_ hp Zq2 _)))),(Fr.gr (by repeat (first|assumption|(with_reducible refine Fr.alloc ?_ _)|(with_reducible refine Fr.set ?_ hp Zq2 _))))⟩
  ·go_wp2_with (go_at_call 58;refine(Arity_spec _ _).mono ?_;rintro e w' ⟨rfl,rfl⟩)
   refine(l9On_k (1+x) 3 w2 p hfr2.cur Zq1 Zq1 Zq1).mono ?_
   rintro e w3 ⟨a,b,c,rfl,hc,hg⟩
   have x3:=box_call X2.out hg Zq1
   have hfr3:=hfr2.call hc hg
   have s3:w.heap.size<w3.heap.size:=by have:=hg.size;omega
   obtain ⟨q0,q1,q2,q3⟩:=boxcells4 (lay:=Below.refl _ _) x3
   have f0:=free_at (j:=0) x3
   have f1:=free_at (j:=1) x3
   have f2:=free_at (j:=2) x3
   have f3:=free_at (j:=3) x3
   clear X2 x3 hc hg hfr2
   go_wp2_with fail
   exact bodyPost_ret (v:=.agg #[.int .i64 (1+x),.int .i64 a,.int .i64 b,.int .i64 c]) (by simp [results,Try.results55,go_sem,q0,q1,q2,q3]) rfl ⟨_,_,_,_,⟨by omega,by omega,by omega⟩,rfl,(Fr.cur (w:=w) (by repeat (first|assumption|(with_reducible refine Fr.alloc ?_ _)|(with_reducible refine Fr.set ?_ hp Zq2 _)))),(Fr.gr (by repeat (first|assumption|(with_reducible refine Fr.alloc ?_ _)|(with_reducible refine Fr.set ?_ hp Zq2 _))))⟩
 ·go_wp2_with fail
  obtain ⟨w3,hw3⟩:∃ w3,w3=w2.alloc (.cells #[.int .i64 4,.int .i64 7,.int .i64 5,.int .i64 8,.int .i64 9,.int .i64 9,.int .i64 9,.int .i64 9] 3):=⟨_,rfl⟩
  rw[←hw3]
  have x3:w3.heap[w.heap.size]?=some (.cells #[.int .i64 0,.int .i64 0,.int .i64 0,.int .i64 0] 58 (0,0)):=by rw[hw3];exact(Below.heap_alloc _ _ _ s2).trans X2.out
  have hfr3:Fr w p w3:=by rw[hw3];exact hfr2.alloc _
  have hpk:=pickedN (w:=w2) (L:=[4,7,5,8,9,9,9,9]) rfl
  have hr3:Rd w3 1 (some ⟨w2.heap.size,0,none⟩) 8 (([4,7,5,8,9,9,9,9]:List Int).map (Value.int .i64)):=by rw[hw3];exact hpk
  have s3:w.heap.size<w3.heap.size:=by rw[hw3];simp;omega
  clear hw3 hpk X2
  refine(l1PickInt_any w2.heap.size 8 8 [4,7,5,8,9,9,9,9] w3 p hfr3.cur rfl Zq1 Zq1 hr3 Zq1).mono ?_
  rintro e w4 ⟨y,hy,rfl,hc4,hg4⟩
  have hyb:=picks8 hy
  clear hy
  have x4:=box_call x3 hg4 Zq1
  have hfr4:=hfr3.call hc4 hg4
  have s4:w.heap.size<w4.heap.size:=by have:=hg4.size;omega
  have X4:=hD x4
  clear x3 x4 hc4 hg4 hfr3 hr3
  by_cases hA:3<ar (y)
  ·go_wp2_with (go_at_call 58;refine(Arity_spec _ _).mono ?_;rintro e w' ⟨rfl,rfl⟩)
   refine(l9On_k (4) 3 w4 p hfr4.cur Zq1 Zq1 (show ar 4≤3 by decide)).mono ?_
   rintro e w5 ⟨a,b,c,rfl,hc,hg⟩
   have x5:=box_call X4.out hg Zq1
   have hfr5:=hfr4.call hc hg
   have s5:w.heap.size<w5.heap.size:=by have:=hg.size;omega
   obtain ⟨q0,q1,q2,q3⟩:=boxcells4 (lay:=Below.refl _ _) x5
   have f0:=free_at (j:=0) x5
   have f1:=free_at (j:=1) x5
   have f2:=free_at (j:=2) x5
   have f3:=free_at (j:=3) x5
   clear X4 x5 hc hg hfr4
   go_wp2_with fail
   exact bodyPost_ret (v:=.agg #[.int .i64 (4),.int .i64 a,.int .i64 b,.int .i64 c]) (by simp [results,Try.results55,go_sem,q0,q1,q2,q3]) rfl ⟨_,_,_,_,⟨by omega,by omega,show ar 4≤3 by decide⟩,rfl,(Fr.cur (w:=w) (by repeat (first|assumption|(with_reducible refine Fr.alloc ?_ _)|(with_reducible refine Fr.set ?_ hp Zq2 _)))),(Fr.gr (by repeat (first|assumption|(with_reducible refine Fr.alloc ?_ _)|(with_reducible refine Fr.set ?_ hp Zq2 _))))⟩
  ·go_wp2_with (go_at_call 58;refine(Arity_spec _ _).mono ?_;rintro e w' ⟨rfl,rfl⟩)
   refine(l9On_k (y) 3 w4 p hfr4.cur Zq1 Zq1 Zq1).mono ?_
   rintro e w5 ⟨a,b,c,rfl,hc,hg⟩
   have x5:=box_call X4.out hg Zq1
   have hfr5:=hfr4.call hc hg
   have s5:w.heap.size<w5.heap.size:=by have:=hg.size;omega
   obtain ⟨q0,q1,q2,q3⟩:=boxcells4 (lay:=Below.refl _ _) x5
   have f0:=free_at (j:=0) x5
   have f1:=free_at (j:=1) x5
   have f2:=free_at (j:=2) x5
   have f3:=free_at (j:=3) x5
   clear X4 x5 hc hg hfr4
   go_wp2_with fail
   exact bodyPost_ret (v:=.agg #[.int .i64 (y),.int .i64 a,.int .i64 b,.int .i64 c]) (by simp [results,Try.results55,go_sem,q0,q1,q2,q3]) rfl ⟨_,_,_,_,⟨by omega,by omega,by omega⟩,rfl,(Fr.cur (w:=w) (by repeat (first|assumption|(with_reducible refine Fr.alloc ?_ _)|(with_reducible refine Fr.set ?_ hp Zq2 _)))),(Fr.gr (by repeat (first|assumption|(with_reducible refine Fr.alloc ?_ _)|(with_reducible refine Fr.set ?_ hp Zq2 _))))⟩
theorem l9GateN_4 (w:World) (p:Nat) (hcur:CurAt w p):Calls Try.prog 55 #[.pointer (some ⟨p,0,none⟩),.int .i64 4] w (DGn 4 w p):=by
 have hp:=hcur.lt
 go_enter Try.func55,Try.ntmps55
 go_wp2_with fail
 obtain ⟨w0,hw0⟩:∃ w0,w0=(w.alloc (.cells #[.int .i64 0,.int .i64 0,.int .i64 0,.int .i64 0] 58)).alloc (.cells #[.int .i64 0,.int .i64 8,.int .i64 11,.int .i64 12,.int .i64 12] 3):=⟨_,rfl⟩
 rw[←hw0]
 have x0:w0.heap[w.heap.size]?=some (.cells #[.int .i64 0,.int .i64 0,.int .i64 0,.int .i64 0] 58 (0,0)):=by rw[hw0];exact boxed2_0 _ _ _
 have hfr0:Fr w p w0:=by rw[hw0];exact((Fr.start hcur).alloc _).alloc _
 have s0:w.heap.size<w0.heap.size:=by rw[hw0];simp;omega
 clear hw0
 refine(l1Below_any 12 11 w0 p hfr0.cur Zq1 Zq1 Zq1).mono ?_
 rintro e w1 ⟨x,hx0,hx1,rfl,hc1,hg1⟩
 have x1:=box_call x0 hg1 Zq1
 have hfr1:=hfr0.call hc1 hg1
 have s1:w.heap.size<w1.heap.size:=by have:=hg1.size;omega
 have X1:=hD x1
 clear x0 x1 hc1 hg1 hfr0
 go_wp2_with fail
 refine(l1Once_any 2 w1 p hfr1.cur Zq1 Zq1).mono ?_
 rintro e w2 ⟨b,rfl,hc2,hg2⟩
 have x2:=box_call X1.out hg2 Zq1
 have hfr2:=hfr1.call hc2 hg2
 have s2:w.heap.size<w2.heap.size:=by have:=hg2.size;omega
 have X2:=hD x2
 clear X1 x2 hc2 hg2 hfr1
 cases b
 ·by_cases hA:4<ar (1+x)
  ·go_wp2_with (go_at_call 58;refine(Arity_spec _ _).mono ?_;rintro e w' ⟨rfl,rfl⟩)
   refine(l9On_k (4) 4 w2 p hfr2.cur Zq1 Zq1 (show ar 4≤4 by decide)).mono ?_
   rintro e w3 ⟨a,b,c,rfl,hc,hg⟩
   have x3:=box_call X2.out hg Zq1
   have hfr3:=hfr2.call hc hg
   have s3:w.heap.size<w3.heap.size:=by have:=hg.size;omega
   obtain ⟨q0,q1,q2,q3⟩:=boxcells4 (lay:=Below.refl _ _) x3
   have f0:=free_at (j:=0) x3
   have f1:=free_at (j:=1) x3
   have f2:=free_at (j:=2) x3
   have f3:=free_at (j:=3) x3
   clear X2 x3 hc hg hfr2
   go_wp2_with fail
   exact bodyPost_ret (v:=.agg #[.int .i64 (4),.int .i64 a,.int .i64 b,.int .i64 c]) (by simp [results,Try.results55,go_sem,q0,q1,q2,q3]) rfl ⟨_,_,_,_,⟨by omega,by omega,show ar 4≤4 by decide⟩,rfl,(Fr.cur (w:=w) (by repeat (first|assumption|(with_reducible refine Fr.alloc ?_ _)|(with_reducible refine Fr.set ?_ hp Zq2 _)))),(Fr.gr (by repeat (first|assumption|(with_reducible refine Fr.alloc ?_ _)|(with_reducible refine Fr.set ?_ hp Zq2 _))))⟩
  ·go_wp2_with (go_at_call 58;refine(Arity_spec _ _).mono ?_;rintro e w' ⟨rfl,rfl⟩)
   refine(l9On_k (1+x) 4 w2 p hfr2.cur Zq1 Zq1 Zq1).mono ?_
   rintro e w3 ⟨a,b,c,rfl,hc,hg⟩
   have x3:=box_call X2.out hg Zq1
   have hfr3:=hfr2.call hc hg
   have s3:w.heap.size<w3.heap.size:=by have:=hg.size;omega
   obtain ⟨q0,q1,q2,q3⟩:=boxcells4 (lay:=Below.refl _ _) x3
   have f0:=free_at (j:=0) x3
   have f1:=free_at (j:=1) x3
   have f2:=free_at (j:=2) x3
   have f3:=free_at (j:=3) x3
   clear X2 x3 hc hg hfr2
   go_wp2_with fail
   exact bodyPost_ret (v:=.agg #[.int .i64 (1+x),.int .i64 a,.int .i64 b,.int .i64 c]) (by simp [results,Try.results55,go_sem,q0,q1,q2,q3]) rfl ⟨_,_,_,_,⟨by omega,by omega,by omega⟩,rfl,(Fr.cur (w:=w) (by repeat (first|assumption|(with_reducible refine Fr.alloc ?_ _)|(with_reducible refine Fr.set ?_ hp Zq2 _)))),(Fr.gr (by repeat (first|assumption|(with_reducible refine Fr.alloc ?_ _)|(with_reducible refine Fr.set ?_ hp Zq2 _))))⟩
 ·go_wp2_with fail
  obtain ⟨w3,hw3⟩:∃ w3,w3=w2.alloc (.cells #[.int .i64 4,.int .i64 7,.int .i64 5,.int .i64 8,.int .i64 9,.int .i64 9,.int .i64 9,.int .i64 9] 3):=⟨_,rfl⟩
  rw[←hw3]
  have x3:w3.heap[w.heap.size]?=some (.cells #[.int .i64 0,.int .i64 0,.int .i64 0,.int .i64 0] 58 (0,0)):=by rw[hw3];exact(Below.heap_alloc _ _ _ s2).trans X2.out
  have hfr3:Fr w p w3:=by rw[hw3];exact hfr2.alloc _
  have hpk:=pickedN (w:=w2) (L:=[4,7,5,8,9,9,9,9]) rfl
  have hr3:Rd w3 1 (some ⟨w2.heap.size,0,none⟩) 8 (([4,7,5,8,9,9,9,9]:List Int).map (Value.int .i64)):=by rw[hw3];exact hpk
  have s3:w.heap.size<w3.heap.size:=by rw[hw3];simp;omega
  clear hw3 hpk X2
  refine(l1PickInt_any w2.heap.size 8 8 [4,7,5,8,9,9,9,9] w3 p hfr3.cur rfl Zq1 Zq1 hr3 Zq1).mono ?_
  rintro e w4 ⟨y,hy,rfl,hc4,hg4⟩
  have hyb:=picks8 hy
  clear hy
  have x4:=box_call x3 hg4 Zq1
  have hfr4:=hfr3.call hc4 hg4
  have s4:w.heap.size<w4.heap.size:=by have:=hg4.size;omega
  have X4:=hD x4
  clear x3 x4 hc4 hg4 hfr3 hr3
  by_cases hA:4<ar (y)
  ·go_wp2_with (go_at_call 58;refine(Arity_spec _ _).mono ?_;rintro e w' ⟨rfl,rfl⟩)
   refine(l9On_k (4) 4 w4 p hfr4.cur Zq1 Zq1 (show ar 4≤4 by decide)).mono ?_
   rintro e w5 ⟨a,b,c,rfl,hc,hg⟩
   have x5:=box_call X4.out hg Zq1
   have hfr5:=hfr4.call hc hg
   have s5:w.heap.size<w5.heap.size:=by have:=hg.size;omega
   obtain ⟨q0,q1,q2,q3⟩:=boxcells4 (lay:=Below.refl _ _) x5
   have f0:=free_at (j:=0) x5
   have f1:=free_at (j:=1) x5
   have f2:=free_at (j:=2) x5
   have f3:=free_at (j:=3) x5
   clear X4 x5 hc hg hfr4
   go_wp2_with fail
   exact bodyPost_ret (v:=.agg #[.int .i64 (4),.int .i64 a,.int .i64 b,.int .i64 c]) (by simp [results,Try.results55,go_sem,q0,q1,q2,q3]) rfl ⟨_,_,_,_,⟨by omega,by omega,show ar 4≤4 by decide⟩,rfl,(Fr.cur (w:=w) (by repeat (first|assumption|(with_reducible refine Fr.alloc ?_ _)|(with_reducible refine Fr.set ?_ hp Zq2 _)))),(Fr.gr (by repeat (first|assumption|(with_reducible refine Fr.alloc ?_ _)|(with_reducible refine Fr.set ?_ hp Zq2 _))))⟩
  ·go_wp2_with (go_at_call 58;refine(Arity_spec _ _).mono ?_;rintro e w' ⟨rfl,rfl⟩)
   refine(l9On_k (y) 4 w4 p hfr4.cur Zq1 Zq1 Zq1).mono ?_
   rintro e w5 ⟨a,b,c,rfl,hc,hg⟩
   have x5:=box_call X4.out hg Zq1
   have hfr5:=hfr4.call hc hg
   have s5:w.heap.size<w5.heap.size:=by have:=hg.size;omega
   obtain ⟨q0,q1,q2,q3⟩:=boxcells4 (lay:=Below.refl _ _) x5
   have f0:=free_at (j:=0) x5
   have f1:=free_at (j:=1) x5
   have f2:=free_at (j:=2) x5
   have f3:=free_at (j:=3) x5
   clear X4 x5 hc hg hfr4
   go_wp2_with fail
   exact bodyPost_ret (v:=.agg #[.int .i64 (y),.int .i64 a,.int .i64 b,.int .i64 c]) (by simp [results,Try.results55,go_sem,q0,q1,q2,q3]) rfl ⟨_,_,_,_,⟨by omega,by omega,by omega⟩,rfl,(Fr.cur (w:=w) (by repeat (first|assumption|(with_reducible refine Fr.alloc ?_ _)|(with_reducible refine Fr.set ?_ hp Zq2 _)))),(Fr.gr (by repeat (first|assumption|(with_reducible refine Fr.alloc ?_ _)|(with_reducible refine Fr.set ?_ hp Zq2 _))))⟩
theorem l9GateN_any (n:Nat) (w:World) (p:Nat) (hcur:CurAt w p) (h1:1≤n) (h4:n≤4):Calls Try.prog 55 #[.pointer (some ⟨p,0,none⟩),.int .i64 n] w (DGn n w p):=by
 have h:n=1∨n=2∨n=3∨n=4:=by omega
 rcases h with rfl|rfl|rfl|rfl
 ·exact l9GateN_1 w p hcur
 ·exact l9GateN_2 w p hcur
 ·exact l9GateN_3 w p hcur
 ·exact l9GateN_4 w p hcur
def imin (a b:Int):Int:=if a<b then a else b
theorem l1Min_any (a b:Int) (w:World):Calls Try.prog 21 #[.int .i64 a,.int .i64 b] w fun e w'=>e=.returned (.int .i64 (imin a b))∧w=w':=by
 by_cases h:a<b
 ·rw[show imin a b=a from if_pos h]
  go_enter Try.func21,Try.ntmps21
  go_wp2
  go_ret
  exact ⟨rfl,rfl⟩
 ·rw[show imin a b=b from if_neg h]
  go_enter Try.func21,Try.ntmps21
  go_wp2
  go_ret
  exact ⟨rfl,rfl⟩
theorem imin_min {n:Nat} {x:Int} (h:x=n):imin 1000000 x=((min 1000000 n:Nat):Int):=by
 subst h
 unfold imin
 split <;> omega
def expE (k count:Int) (M:Nat):Nat:=if k=1 then 1 else if k=6 then 0 else if k=2 then M*(min (max count 0) 1000000).toNat else if k=4 then 7*M else M
theorem expE_1 {k c:Int} {M:Nat} (h:k=1):expE k c M=1:=by subst h;rfl
theorem expE_6 {k c:Int} {M:Nat} (h:k=6):expE k c M=0:=by subst h;rfl
theorem expE_4 {k c:Int} {M:Nat} (h:k=4):expE k c M=7*M:=by subst h;rfl
theorem expE_2n {k c:Int} {M:Nat} (h:k=2) (hc:c<0):expE k c M=0:=by
 subst h
 have:(min (max c 0) 1000000).toNat=0:=by omega
 simp [expE,this]
theorem expE_2m {k c:Int} {M C:Nat} (h:k=2) (hc:c=C) (hC:C≤1000000):expE k c M=M*C:=by
 subst h
 have:(min (max c 0) 1000000).toNat=C:=by omega
 simp [expE,this]
theorem expE_2b {k c:Int} {M:Nat} (h:k=2) (hc:1000000<c):expE k c M=M*1000000:=by
 subst h
 have:(min (max c 0) 1000000).toNat=1000000:=by omega
 simp [expE,this]
theorem expE_x {k c:Int} {M:Nat} (h1:k≠1) (h6:k≠6) (h2:k≠2) (h4:k≠4):expE k c M=M:=by simp [expE,h1,h6,h2,h4]
theorem mul_small {M C:Nat} (h:M≤1000000) (h':C≤1000000):(M:Int)*(C:Int)≤1000000000000:=by
 have h1:M*C≤1000000*C:=Nat.mul_le_mul_right C h
 rw[←Int.natCast_mul]
 omega
theorem mul_zero_le (M C:Nat):0≤(M:Int)*(C:Int):=by
 rw[←Int.natCast_mul]
 omega
def expT:(d:Nat)→List (Tr d)→Nat
 | 0,_=>0
 | d+1,l=>l.foldl (fun (n:Nat) (s:Tr (d+1))=>min 1000000 (n+expE (hdT s).k (hdT s).count (expT d (bdT s)))) 0
theorem exp_take {d:Nat} (l:List (Tr (d+1))) (t:Nat) (s:Tr (d+1)) (h:l[t]?=some s):expT (d+1) (l.take (t+1))=min 1000000 (expT (d+1) (l.take t)+expE (hdT s).k (hdT s).count (expT d (bdT s))):=by
 rw[List.take_add_one,h]
 simp [expT,List.foldl_append]
theorem expT_le:∀ (d:Nat) (l:List (Tr d)),expT d l≤1000000:=by
 intro d l
 cases d with
 | zero=>exact Nat.zero_le _
 | succ d =>
  rcases List.eq_nil_or_concat l with rfl|⟨l',s,rfl⟩
  ·exact Nat.zero_le _
  ·simp only[expT,List.concat_eq_append,List.foldl_append,List.foldl_cons,List.foldl_nil]
   exact Nat.min_le_left _ _
theorem pickedS {w:World} {L:List ByteArray} {b:Nat} (hb:b=w.heap.size):Rd (w.alloc (.cells (L.map Value.string).toArray 9)) 1 (some ⟨b,0,none⟩) L.length (L.map Value.string):=by
 have h:=rd_lit1 (w:=w) (cs:=(L.map Value.string).toArray) (e:=9) (n:=L.length) (size:=1) hb Zq5
 simpa using h
def DSm (L:List ByteArray) (w:World) (p:Nat) (e:Ending) (w':World):Prop:=∃ x:ByteArray,x∈L∧e=.returned (.string x)∧CurAt w' p∧w.grownBy w' (some p)
theorem l1Pick_any (b k c:Nat) (L:List ByteArray) (w:World) (p:Nat) (hcur:CurAt w p) (hL:L.length=k) (hk:0<k) (hk2:k≤1000) (hr:Rd w 1 (some ⟨b,0,none⟩) k (L.map Value.string)) (hne:b≠p):Calls Try.prog 14 #[.pointer (some ⟨p,0,none⟩),.slice (some ⟨b,0,none⟩) k c] w (DSm L w p):=by
 have HL:=hD hL
 have HR:=hD hr
 clear hL hr
 go_enter Try.func14,Try.ntmps14
 go_wp2_with fail
 refine(l1Below_any k (k - 1) w p hcur Zq1 Zq1 Zq1).mono ?_
 rintro e w1 ⟨x,hx0,hx1,rfl,hc1,hg1⟩
 obtain ⟨j,rfl⟩:∃ j:Nat,x=j:=⟨x.toNat,by omega⟩
 have hjk:j<k:=by omega
 obtain ⟨y,hy⟩:∃ y,L[j]?=some y:=⟨_,List.getElem?_eq_getElem (by rw[HL.out];exact hjk)⟩
 have hq:w1.cell? ⟨b,j,none⟩=some (.string y):=by
  obtain ⟨b',off,e,hl,hc⟩:=(grown_rd HR.out hg1 (fun _ ad e=>by cases e;exact hne)).2 hk
  injection e with e
  injection e with e1 e2
  subst e1 e2
  have:=hc j (.string y) (by simp [hy])
  simpa using this
 have HY:=hD (List.mem_of_getElem? hy)
 clear hy
 go_wp2_with fail
 go_ret
 exact ⟨y,HY.out,rfl,hc1,hg1⟩
end Go.Proofs.Ythkbckkghnbonaa
