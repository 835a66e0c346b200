/- What the calls that this law reaches answer, part 5 of 16. -/
import Derived.Test.YthkbckkghnbonaaGreatDoorJElaborate1
import Derived.Orders
import Derived.Test.YthkbckkghnbonaaGreatDoorProg
import Derived.Test.YthkbckkghnbonaaGreatDoorJElaborate2
import Derived.Test.YthkbckkghnbonaaGreatDoorJElaborate4
import Derived.Test.YthkbckkghnbonaaGreatDoorJElaborate3
import Derived.Laws.IdiomStrings
set_option maxRecDepth 100000
set_option maxHeartbeats 16000000
set_option linter.unusedVariables false
namespace Go.Proofs.YthkbckkghnbonaaGreatDoor
open Go.RowKit
set_option linter.unusedVariables false
section
variable {P:Program} {ops:Array Oper} {Q:Exit→Act→World→Prop} {md:Region.Mode}
theorem count_set {l:List Bool}:∀ {i:Nat},l[i]?=some false→(l.set i true).count false+1=l.count false:=by
 induction l with
 | nil=>intro i h;simp at h
 | cons x l ih =>
  intro i h
  cases i with
  | zero =>
   simp only[List.getElem?_cons_zero,Option.some.injEq] at h
   subst h
   simp
  | succ i =>
   simp only[List.getElem?_cons_succ] at h
   have:=ih h
   simp only[List.set_cons_succ,List.count_cons]
   omega
def ClosedL (md:Region.Mode) (ops:Array Oper) (Lz:Array Bool):Prop:=∀ i o,ops[i]?=some o→Lz.getD i false=true→∀ e∈o.after,Region.binds md e=true→Lz.getD e.on false=true
theorem closed_set {Lz:Array Bool} {i:Nat} (hc:ClosedL md ops Lz) (hi:i∈Region.ready md ops Lz):ClosedL md ops (Lz.setIfInBounds i true):=by
 have mono:∀ k,Lz.getD k false=true→(Lz.setIfInBounds i true).getD k false=true:=fun k h=>by
  by_cases hne:i=k
  ·subst hne
   have hj:i<Lz.size:=by
    rcases Nat.lt_or_ge i Lz.size with h'|h'
    ·exact h'
    ·simp [Array.getElem?_eq_none h'] at h
   simp [hj]
  ·rwa [getD_set_ne false hne]
 intro j o ho hj e he hb
 by_cases hne:i=j
 ·subst hne
  obtain ⟨_,o',ho',h⟩:=mem_ready.1 hi
  rw[ho] at ho'
  injection ho' with ho'
  subst ho'
  exact mono _ (h e he hb)
 ·rw[getD_set_ne false hne] at hj
  exact mono _ (hc j o ho hj e he hb)
theorem wpAny_inv {J:Array Bool→Act→World→Prop}
  (hs:∀ Lz a w,Lz.size=ops.size→ClosedL md ops Lz→J Lz a w→∀ i∈Region.ready md ops Lz,wpOp P ops Q i (fun a' w'=>J (Lz.setIfInBounds i true) a' w') a w)
  (he:∀ Lz a w,Lz.size=ops.size→J Lz a w→Region.ready md ops Lz=[]→Q .normal a w) :
  ∀ (fuel:Nat) (Lz:Array Bool) (a:Act) (w:World),Lz.toList.count false≤fuel→Lz.size=ops.size→ClosedL md ops Lz→J Lz a w→wpAny P md ops Q fuel Lz a w:=by
 intro fuel
 induction fuel with
 | zero =>
  intro Lz a w hc hz hcl hJ
  have hr:Region.ready md ops Lz=[]:=by
   rw[List.eq_nil_iff_forall_not_mem]
   intro j hj
   have h1:=(mem_ready.1 hj).1
   have hj2:j<Lz.size:=by
    rcases Nat.lt_or_ge j Lz.size with h|h
    ·exact h
    ·simp [Array.getElem?_eq_none h] at h1
   have h0:Lz.toList[j]?=some false:=by
    simp [hj2] at h1
    simp [hj2,h1]
   have:=count_set h0
   omega
  exact ⟨hr,he Lz a w hz hJ hr⟩
 | succ fuel ih =>
  intro Lz a w hc hz hcl hJ
  refine ⟨he Lz a w hz hJ,fun i hi=>wpOp_mono (fun a' w' h=>ih _ a' w' ?_ (by simpa using hz) (closed_set hcl hi) h) (hs Lz a w hz hcl hJ i hi)⟩
  have h1:=(mem_ready.1 hi).1
  have hj2:i<Lz.size:=by
   rcases Nat.lt_or_ge i Lz.size with h|h
   ·exact h
   ·simp [Array.getElem?_eq_none h] at h1
  have h0:Lz.toList[i]?=some false:=by
   simp [hj2] at h1
   simp [hj2,h1]
  have:=count_set h0
  rw[Array.toList_setIfInBounds]
  omega
theorem rep_false (n i:Nat):(Array.replicate n false).getD i false=false:=by by_cases h:i<n <;> simp [h]
theorem wp_region_inv {id:Nat} {a:Act} {w:World} (hm:P.follows .mixedOrders=true) (J:Array Bool→Act→World→Prop) (h0:J (Array.replicate ops.size false) a w.drew)
  (hs:∀ Lz a w,Lz.size=ops.size→ClosedL .any ops Lz→J Lz a w→∀ i∈Region.ready .any ops Lz,wpOp P ops Q i (fun a' w'=>J (Lz.setIfInBounds i true) a' w') a w)
  (he:∀ Lz a w,Lz.size=ops.size→J Lz a w→Region.ready .any ops Lz=[]→Q .normal a w):(Code.region id ops true).wp P Q a w :=
 wp_region_any hm (wpAny_inv hs he _ _ _ _ Zq11 Zq11 (fun i o _ h=>absurd h (by rw[rep_false];decide)) h0)
theorem wp_region_inv2 {id:Nat} {a:Act} {w:World} (hm:P.follows .mixedOrders=true) (J:Array Value→Array Bool→Act→World→Prop) (h0:∀ A0:Array Value,J A0 (Array.replicate ops.size false) ⟨A0,a.defers⟩ w.drew)
  (hs:∀ Lz a' w,Lz.size=ops.size→ClosedL .any ops Lz→J a.tmps Lz a' w→∀ i∈Region.ready .any ops Lz,wpOp P ops Q i (fun b w'=>J a.tmps (Lz.setIfInBounds i true) b w') a' w)
  (he:∀ Lz a' w,Lz.size=ops.size→J a.tmps Lz a' w→Region.ready .any ops Lz=[]→Q .normal a' w):(Code.region id ops true).wp P Q a w :=
 wp_region_inv hm (J a.tmps) (h0 a.tmps) hs he
theorem set_self (A:Array Value) (k:Nat) (u:Value):A.setIfInBounds k (A.getD k u)=A:=by
 apply Array.ext'
 rw[Array.toList_setIfInBounds]
 by_cases h:k<A.size
 ·have e:A.getD k u=A[k]:=by simp [h]
  rw[e]
  exact @List.set_getElem_self _ A.toList k (by simpa using h)
 ·rw[List.set_eq_of_length_le (by simpa using h)]
theorem upon_then {o:Oper} {a:Act} {K:Act→World→Prop} {r:Result Next} (h:o.upon P a K (Exit.then K Q) r):o.upon P a K Q r:=by
 cases r with
 | ok n w'=>cases n <;> first|exact h|exact Calls.mono h (fun e w'' he=>by cases e <;> exact he)
 | halt x w'=>cases x <;> exact h
theorem wpOp_one {i:Nat} {o:Oper} {a:Act} {w:World} {K:Act→World→Prop} (ho:ops[i]?=some o) (hg:o.guard=none) (h:∀ K':Act→World→Prop,(∀ a w,K a w→K' a w)→wpList P #[] (Exit.then K' Q) [o] a w):wpOp P ops Q i K a w:=by
 have hw:∀ (os:Array Oper),Region.wanted o (yielded os a.tmps)=true:=fun os=>by simp [Region.wanted,hg]
 have h1:=h K (fun _ _ h=>h)
 unfold wpOp
 simp only[ho,hw,if_true]
 unfold wpList at h1
 simp only[hw,if_true] at h1
 rcases h1 with h1|⟨h1,h2⟩
 ·exact .inl (upon_then h1)
 ·exact .inr ⟨h1,h2⟩
def Ls (l:Array Bool) (i:Nat):Prop:=l.getD i false=true
theorem Ls.none {n i:Nat} {C:Prop} (h:Ls (Array.replicate n false) i):C:=absurd h (by unfold Ls;rw[rep_false];decide)
theorem Ls.back {l:Array Bool} {i j:Nat} (h:Ls (l.setIfInBounds i true) j) (hne:i≠j):Ls l j:=by
 unfold Ls at h ⊢
 rwa [getD_set_ne false hne] at h
theorem Ls.fwd {l:Array Bool} {i j:Nat} (h:Ls l j):Ls (l.setIfInBounds i true) j:=by
 unfold Ls at h ⊢
 by_cases hne:i=j
 ·subst hne
  have hj:i<l.size:=by
   rcases Nat.lt_or_ge i l.size with h'|h'
   ·exact h'
   ·simp [Array.getElem?_eq_none h'] at h
  simp [hj]
 ·rwa [getD_set_ne false hne]
theorem ready_dep {Lz:Array Bool} {i:Nat} {o:Oper} (hi:i∈Region.ready md ops Lz) (ho:ops[i]?=some o) (k:Nat) (hk:(o.after.any fun e=>e.on==k&&Region.binds md e)=true):Ls Lz k:=by
 obtain ⟨_,o',ho',h⟩:=mem_ready.1 hi
 rw[ho] at ho'
 injection ho' with ho'
 subst ho'
 rw[Array.any_eq_true'] at hk
 obtain ⟨e,he,h1⟩:=hk
 rw[Bool.and_eq_true,beq_iff_eq] at h1
 have:=h e he h1.2
 rw[h1.1] at this
 exact this
theorem ClosedL.dep {Lz:Array Bool} {i:Nat} {o:Oper} (hc:ClosedL md ops Lz) (h:Ls Lz i) (ho:ops[i]?=some o) (k:Nat) (hk:(o.after.any fun e=>e.on==k&&Region.binds md e)=true):Ls Lz k:=by
 rw[Array.any_eq_true'] at hk
 obtain ⟨e,he,h1⟩:=hk
 rw[Bool.and_eq_true,beq_iff_eq] at h1
 have:=hc i o ho h e he h1.2
 rw[h1.1] at this
 exact this
def waits (md:Region.Mode) (ops:Array Oper) (i k:Nat):Bool:=match ops[i]? with
 | some o=>o.after.any fun e=>e.on==k&&Region.binds md e
 | none=>false
theorem ready_dep2 {Lz:Array Bool} {i:Nat} (hi:i∈Region.ready md ops Lz) (k:Nat) (hk:waits md ops i k=true):Ls Lz k:=by
 obtain ⟨_,o,ho,_⟩:=mem_ready.1 hi
 unfold waits at hk
 rw[ho] at hk
 exact ready_dep hi ho k hk
theorem ClosedL.dep2 {Lz:Array Bool} {i:Nat} (hc:ClosedL md ops Lz) (h:Ls Lz i) (k:Nat) (hk:waits md ops i k=true):Ls Lz k:=by
 unfold waits at hk
 cases ho:ops[i]? with
 | none=>rw[ho] at hk;cases hk
 | some o=>rw[ho] at hk;exact hc.dep h ho k hk
theorem ready_now {Lz:Array Bool} {i:Nat} (hi:i∈Region.ready md ops Lz) (hz:Lz.size=ops.size):Ls (Lz.setIfInBounds i true) i:=by
 obtain ⟨_,o,ho,_⟩:=mem_ready.1 hi
 have hl:=(Array.getElem?_eq_some_iff.1 ho).1
 unfold Ls
 simp [hz,hl]
theorem ready_not {Lz:Array Bool} {i:Nat} (hi:i∈Region.ready md ops Lz):¬ Ls Lz i:=by
 intro h
 have h1:=(mem_ready.1 hi).1
 unfold Ls at h
 have hj:i<Lz.size:=by
  rcases Nat.lt_or_ge i Lz.size with h'|h'
  ·exact h'
  ·simp [Array.getElem?_eq_none h'] at h
 simp [hj] at h h1
 rw[h] at h1
 cases h1
theorem ready_lt {Lz:Array Bool} {i:Nat} (hi:i∈Region.ready md ops Lz):i<ops.size:=by
 obtain ⟨_,o,ho,_⟩:=mem_ready.1 hi
 exact(Array.getElem?_eq_some_iff.1 ho).1
theorem all_listed {Lz:Array Bool} (hz:Lz.size=ops.size) (hac:(ops.toList.zipIdx.all fun x=>x.1.after.all fun e=>decide (e.on<x.2))=true) (hr:Region.ready md ops Lz=[]):∀ i,i<ops.size→Ls Lz i:=by
 intro i
 induction i using Nat.strongRecOn with
 | ind i ih =>
  intro hi
  apply Classical.byContradiction
  intro hn
  have ho:ops[i]?=some ops[i]:=Array.getElem?_eq_getElem hi
  have hmem:i∈Region.ready md ops Lz:=mem_ready.2 ⟨by
   unfold Ls at hn
   have hj:i<Lz.size:=by rw[hz];exact hi
   simp [hj] at hn ⊢
   exact hn,ops[i],ho,fun e he _=>by
   have h1:=List.all_eq_true.1 hac (ops[i],i) (by
    rw[List.mk_mem_zipIdx_iff_getElem?]
    simp)
   have h2:=Array.all_eq_true'.1 h1 e he
   have h3:e.on<i:=by simpa using h2
   exact ih e.on h3 Zq6⟩
  rw[hr] at hmem
  simp at hmem
end
section
variable {a0 a1 a2 a3 a4 a5 a6 a7 a8 a9 a10 a11 a12 a13 a14 a15 a16 a17 a18 a19 a20 a21 a22 a23 a24 a25 a26 a27 a28 a29 a30 a31 a32 a33 a34 a35 a36 a37 a38 a39 a40 a41 a42 a43 a44 a45 a46 a47:Prop}
theorem pj0 (h:a0∧a1):a0:=h.1
theorem pj1 (h:a0∧a1∧a2):a1:=h.2.1
theorem pj2 (h:a0∧a1∧a2∧a3):a2:=h.2.2.1
theorem pj3 (h:a0∧a1∧a2∧a3∧a4):a3:=h.2.2.2.1
theorem pj4 (h:a0∧a1∧a2∧a3∧a4∧a5):a4:=h.2.2.2.2.1
theorem pj5 (h:a0∧a1∧a2∧a3∧a4∧a5∧a6):a5:=h.2.2.2.2.2.1
theorem pj6 (h:a0∧a1∧a2∧a3∧a4∧a5∧a6∧a7):a6:=h.2.2.2.2.2.2.1
theorem pj7 (h:a0∧a1∧a2∧a3∧a4∧a5∧a6∧a7∧a8):a7:=h.2.2.2.2.2.2.2.1
theorem pj8 (h:a0∧a1∧a2∧a3∧a4∧a5∧a6∧a7∧a8∧a9):a8:=h.2.2.2.2.2.2.2.2.1
theorem pj9 (h:a0∧a1∧a2∧a3∧a4∧a5∧a6∧a7∧a8∧a9∧a10):a9:=h.2.2.2.2.2.2.2.2.2.1
theorem pj10 (h:a0∧a1∧a2∧a3∧a4∧a5∧a6∧a7∧a8∧a9∧a10∧a11):a10:=h.2.2.2.2.2.2.2.2.2.2.1
theorem pj11 (h:a0∧a1∧a2∧a3∧a4∧a5∧a6∧a7∧a8∧a9∧a10∧a11∧a12):a11:=h.2.2.2.2.2.2.2.2.2.2.2.1
theorem pj12 (h:a0∧a1∧a2∧a3∧a4∧a5∧a6∧a7∧a8∧a9∧a10∧a11∧a12∧a13):a12:=h.2.2.2.2.2.2.2.2.2.2.2.2.1
theorem pj13 (h:a0∧a1∧a2∧a3∧a4∧a5∧a6∧a7∧a8∧a9∧a10∧a11∧a12∧a13∧a14):a13:=h.2.2.2.2.2.2.2.2.2.2.2.2.2.1
theorem pj14 (h:a0∧a1∧a2∧a3∧a4∧a5∧a6∧a7∧a8∧a9∧a10∧a11∧a12∧a13∧a14∧a15):a14:=h.2.2.2.2.2.2.2.2.2.2.2.2.2.2.1
theorem pj15 (h:a0∧a1∧a2∧a3∧a4∧a5∧a6∧a7∧a8∧a9∧a10∧a11∧a12∧a13∧a14∧a15∧a16):a15:=h.2.2.2.2.2.2.2.2.2.2.2.2.2.2.2.1
theorem pj16 (h:a0∧a1∧a2∧a3∧a4∧a5∧a6∧a7∧a8∧a9∧a10∧a11∧a12∧a13∧a14∧a15∧a16∧a17):a16:=h.2.2.2.2.2.2.2.2.2.2.2.2.2.2.2.2.1
theorem pj17 (h:a0∧a1∧a2∧a3∧a4∧a5∧a6∧a7∧a8∧a9∧a10∧a11∧a12∧a13∧a14∧a15∧a16∧a17∧a18):a17:=h.2.2.2.2.2.2.2.2.2.2.2.2.2.2.2.2.2.1
theorem pj18 (h:a0∧a1∧a2∧a3∧a4∧a5∧a6∧a7∧a8∧a9∧a10∧a11∧a12∧a13∧a14∧a15∧a16∧a17∧a18∧a19):a18:=h.2.2.2.2.2.2.2.2.2.2.2.2.2.2.2.2.2.2.1
theorem pj19 (h:a0∧a1∧a2∧a3∧a4∧a5∧a6∧a7∧a8∧a9∧a10∧a11∧a12∧a13∧a14∧a15∧a16∧a17∧a18∧a19∧a20):a19:=h.2.2.2.2.2.2.2.2.2.2.2.2.2.2.2.2.2.2.2.1
theorem pj20 (h:a0∧a1∧a2∧a3∧a4∧a5∧a6∧a7∧a8∧a9∧a10∧a11∧a12∧a13∧a14∧a15∧a16∧a17∧a18∧a19∧a20∧a21):a20:=h.2.2.2.2.2.2.2.2.2.2.2.2.2.2.2.2.2.2.2.2.1
theorem pj21 (h:a0∧a1∧a2∧a3∧a4∧a5∧a6∧a7∧a8∧a9∧a10∧a11∧a12∧a13∧a14∧a15∧a16∧a17∧a18∧a19∧a20∧a21∧a22):a21:=h.2.2.2.2.2.2.2.2.2.2.2.2.2.2.2.2.2.2.2.2.2.1
theorem pj22 (h:a0∧a1∧a2∧a3∧a4∧a5∧a6∧a7∧a8∧a9∧a10∧a11∧a12∧a13∧a14∧a15∧a16∧a17∧a18∧a19∧a20∧a21∧a22∧a23):a22:=h.2.2.2.2.2.2.2.2.2.2.2.2.2.2.2.2.2.2.2.2.2.2.1
theorem pj23 (h:a0∧a1∧a2∧a3∧a4∧a5∧a6∧a7∧a8∧a9∧a10∧a11∧a12∧a13∧a14∧a15∧a16∧a17∧a18∧a19∧a20∧a21∧a22∧a23∧a24):a23:=h.2.2.2.2.2.2.2.2.2.2.2.2.2.2.2.2.2.2.2.2.2.2.2.1
theorem pe13 (h:a0∧a1∧a2∧a3∧a4∧a5∧a6∧a7∧a8∧a9∧a10∧a11∧a12∧a13):a13:=h.2.2.2.2.2.2.2.2.2.2.2.2.2
theorem pe14 (h:a0∧a1∧a2∧a3∧a4∧a5∧a6∧a7∧a8∧a9∧a10∧a11∧a12∧a13∧a14):a14:=h.2.2.2.2.2.2.2.2.2.2.2.2.2.2
theorem pe15 (h:a0∧a1∧a2∧a3∧a4∧a5∧a6∧a7∧a8∧a9∧a10∧a11∧a12∧a13∧a14∧a15):a15:=h.2.2.2.2.2.2.2.2.2.2.2.2.2.2.2
theorem pe19 (h:a0∧a1∧a2∧a3∧a4∧a5∧a6∧a7∧a8∧a9∧a10∧a11∧a12∧a13∧a14∧a15∧a16∧a17∧a18∧a19):a19:=h.2.2.2.2.2.2.2.2.2.2.2.2.2.2.2.2.2.2.2
theorem pe20 (h:a0∧a1∧a2∧a3∧a4∧a5∧a6∧a7∧a8∧a9∧a10∧a11∧a12∧a13∧a14∧a15∧a16∧a17∧a18∧a19∧a20):a20:=h.2.2.2.2.2.2.2.2.2.2.2.2.2.2.2.2.2.2.2.2
theorem pe21 (h:a0∧a1∧a2∧a3∧a4∧a5∧a6∧a7∧a8∧a9∧a10∧a11∧a12∧a13∧a14∧a15∧a16∧a17∧a18∧a19∧a20∧a21):a21:=h.2.2.2.2.2.2.2.2.2.2.2.2.2.2.2.2.2.2.2.2.2
theorem pe25 (h:a0∧a1∧a2∧a3∧a4∧a5∧a6∧a7∧a8∧a9∧a10∧a11∧a12∧a13∧a14∧a15∧a16∧a17∧a18∧a19∧a20∧a21∧a22∧a23∧a24∧a25):a25:=h.2.2.2.2.2.2.2.2.2.2.2.2.2.2.2.2.2.2.2.2.2.2.2.2.2
end
theorem Bk {l:Array Bool} {i j:Nat} {C:Prop} (f:Ls l j→C) (hne:i≠j:=by decide) (h:Ls (l.setIfInBounds i true) j):C:=f (h.back hne)
theorem Bw {l:Array Bool} {i j k:Nat} {C:Prop} (f:Ls l j→¬ Ls l k→C) (hne:i≠j:=by decide) (h:Ls (l.setIfInBounds i true) j) (h2:¬ Ls (l.setIfInBounds i true) k):C:=f (h.back hne) (fun h3=>h2 h3.fwd)
theorem Bi {l:Array Bool} {i k:Nat} {C:Prop} (f:¬ Ls l k→C) (h2:¬ Ls (l.setIfInBounds i true) k):C:=f (fun h3=>h2 h3.fwd)
theorem zx {a b c:Prop} (h:a) (_:b) (h2:¬ a):c:=absurd h h2
theorem zy {a c:Prop} (h:a) (h2:¬ a):c:=absurd h h2
theorem zn {n i:Nat} {C:Prop}:Ls (Array.replicate n false) i→C:=fun h=>h.none
theorem zr {A B C:Prop} (g:B→C) (h:A∧B):C:=g h.2
theorem zk {Q:Prop} {l:Array Bool} {i j:Nat} {C:Prop} (H:Hid Q) (hne:i≠j:=by decide) (f:Q→Ls l j→C:=by repeat (first|with_reducible exact And.left|with_reducible exact id|refine zr ?_)) (h:Ls (l.setIfInBounds i true) j):C:=Bk (f H.out) hne h
theorem zw {Q:Prop} {l:Array Bool} {i j k:Nat} {C:Prop} (H:Hid Q) (hne:i≠j:=by decide) (f:Q→Ls l j→¬ Ls l k→C:=by repeat (first|with_reducible exact And.left|with_reducible exact id|refine zr ?_)) (h:Ls (l.setIfInBounds i true) j) (h2:¬ Ls (l.setIfInBounds i true) k):C:=Bw (f H.out) hne h h2
theorem zi {Q:Prop} {l:Array Bool} {i k:Nat} {C:Prop} (H:Hid Q) (f:Q→¬ Ls l k→C:=by repeat (first|with_reducible exact And.left|with_reducible exact id|refine zr ?_)) (h2:¬ Ls (l.setIfInBounds i true) k):C:=Bi (f H.out) h2
theorem zT {Q R:Prop} (H:Hid Q) (f:Q→R:=by (repeat (refine And.imp ?_ ?_;(first|exact fun f=>Bw f|exact fun f=>Bk f|exact fun f=>Bi f|exact fun _ _=>rfl)));(first|exact fun f=>Bw f|exact fun f=>Bk f|exact fun f=>Bi f|exact fun _ _=>rfl)):R:=f H.out
theorem Ba {l:Array Bool} {i j:Nat} {C:Prop} (f:¬ Ls l j) (hne:i≠j:=by decide) (h:Ls (l.setIfInBounds i true) j):C:=absurd (h.back hne) f
theorem Bb {l:Array Bool} {i j:Nat} {C D:Prop} (f:¬ Ls l j) (hne:i≠j:=by decide) (h:Ls (l.setIfInBounds i true) j) (_:D):C:=absurd (h.back hne) f
theorem Bt {l:Array Bool} {i j k:Nat} {C D:Prop} (f:Ls l j→¬ Ls l k→C) (g:C→D) (hne:i≠j:=by decide) (h:Ls (l.setIfInBounds i true) j) (h2:¬ Ls (l.setIfInBounds i true) k):D:=g (f (h.back hne) (fun h3=>h2 h3.fwd))
theorem dq {md:Region.Mode} {ops:Array Oper} {Lz:Array Bool} {i:Nat} (H:Hid (ClosedL md ops Lz)) (h:Ls Lz i) (k:Nat) (hk:waits md ops i k=true:=by kernel_rfl):Ls Lz k:=H.out.dep2 h k hk
theorem rq {md:Region.Mode} {ops:Array Oper} {Lz:Array Bool} {i:Nat} (hi:i∈Region.ready md ops Lz) (k:Nat) (hk:waits md ops i k=true:=by kernel_rfl):Ls Lz k:=ready_dep2 hi k hk
def RdQ (w:World) (P:Nat→Prop) (size:Nat) (A:Option Addr) (n:Nat) (xs:List Value):Prop :=
 xs.length=n*size∧(0<n→∃ b off,A=some ⟨b,off,none⟩∧P b∧b<w.heap.size∧∀ j u,xs[j]?=some u→w.cell? ⟨b,off+j,none⟩=some u)
def TrQ (w:World) (P:Nat→Prop):(d:Nat)→Option Addr→Nat→List (Tr d)→Prop
 | 0,_,n,l=>l.length=n∧n=0
 | d+1,A,n,l=>l.length=n∧(0<n→∃ b off,A=some ⟨b,off,none⟩∧P b∧b<w.heap.size∧∀ (i:Nat) (s:Tr (d+1)),l[i]?=some s →
   ∃ Aa ca Ab nb cb,SCells w b (off+i*5) (hdT s) Aa ca Ab nb cb∧RdQ w P 1 Aa (hdT s).args.length (strs (hdT s).args)∧TrQ w P d Ab nb (bdT s)∧(hdT s).args.length≤ca)
section
variable {w w':World} {P P':Nat→Prop}
theorem RdQ.rd {size n:Nat} {A:Option Addr} {xs:List Value} (h:RdQ w P size A n xs):Rd w size A n xs :=
 ⟨h.1,fun h0=>by obtain ⟨b,off,e,_,hb,hc⟩:=h.2 h0;exact ⟨b,off,e,hb,hc⟩⟩
theorem RdQ.mono {size n:Nat} {A:Option Addr} {xs:List Value} (h:RdQ w P size A n xs) (hp:∀ b,b<w.heap.size→P b→P' b):RdQ w P' size A n xs :=
 ⟨h.1,fun h0=>by obtain ⟨b,off,e,h1,hb,hc⟩:=h.2 h0;exact ⟨b,off,e,hp b hb h1,hb,hc⟩⟩
theorem RdQ.keep {size n:Nat} {A:Option Addr} {xs:List Value} (h:RdQ w P size A n xs) (hk:∀ b,P b→b<w.heap.size→w'.heap[b]?=w.heap[b]?) (hs:w.heap.size≤w'.heap.size):RdQ w' P size A n xs :=
 ⟨h.1,fun h0=>by
  obtain ⟨b,off,e,h1,hb,hc⟩:=h.2 h0
  refine ⟨b,off,e,h1,Nat.lt_of_lt_of_le hb hs,fun j u hu=>?_⟩
  rw[←hc j u hu]
  have:=hk b h1 hb
  simp [World.cell?,this]⟩
theorem rdQ_of_own {base E size n c:Nat} {A:Option Addr} {xs:List Value} (h:w.ownsRow base E size (.slice A n c) n xs):RdQ w (base≤·) size A n xs:=by
 have r:=rd_own h
 refine ⟨r.1,fun h0=>?_⟩
 obtain ⟨b,off,e,hb,hc⟩:=r.2 h0
 refine ⟨b,off,e,?_,hb,hc⟩
 subst e
 exact(h.lt b rfl).1
theorem TrQ.len:∀ {d:Nat} {A:Option Addr} {n:Nat} {l:List (Tr d)},TrQ w P d A n l→l.length=n
 | 0,_,_,_,h=>h.1
 | _+1,_,_,_,h=>h.1
theorem cell_same {b:Nat} (h:w'.heap[b]?=w.heap[b]?) (o:Nat):w'.cell? ⟨b,o,none⟩=w.cell? ⟨b,o,none⟩:=by simp [World.cell?,h]
theorem TrQ.mono (hp:∀ b,b<w.heap.size→P b→P' b):∀ {d:Nat} {A:Option Addr} {n:Nat} {l:List (Tr d)},TrQ w P d A n l→TrQ w P' d A n l:=by
 intro d
 induction d with
 | zero=>intro A n l h;exact h
 | succ d ih =>
  intro A n l h
  refine ⟨h.1,fun h0=>?_⟩
  obtain ⟨b,off,e,h1,hb,hc⟩:=h.2 h0
  refine ⟨b,off,e,hp b hb h1,hb,fun i s hi=>?_⟩
  obtain ⟨Aa,ca,Ab,nb,cb,h1,h2,h3,h4⟩:=hc i s hi
  exact ⟨Aa,ca,Ab,nb,cb,h1,h2.mono hp,ih h3,h4⟩
theorem TrQ.keep (hk:∀ b,P b→b<w.heap.size→w'.heap[b]?=w.heap[b]?) (hs:w.heap.size≤w'.heap.size) :
  ∀ {d:Nat} {A:Option Addr} {n:Nat} {l:List (Tr d)},TrQ w P d A n l→TrQ w' P d A n l:=by
 intro d
 induction d with
 | zero=>intro A n l h;exact h
 | succ d ih =>
  intro A n l h
  refine ⟨h.1,fun h0=>?_⟩
  obtain ⟨b,off,e,hl,hb,hc⟩:=h.2 h0
  refine ⟨b,off,e,hl,Nat.lt_of_lt_of_le hb hs,fun i s hi=>?_⟩
  obtain ⟨Aa,ca,Ab,nb,cb,h1,h2,h3,h4⟩:=hc i s hi
  exact ⟨Aa,ca,Ab,nb,cb,h1.keep (cell_same (hk b hl hb)),h2.keep hk hs,ih h3,h4⟩
def scl (s:SH) (Aa:Option Addr) (ca:Nat) (Ab:Option Addr) (nb cb:Nat):List Value:=[.int .i64 s.k,.string s.word,.slice Aa s.args.length ca,.int .i64 s.count,.slice Ab nb cb]
def StQ (w:World) (Q:Nat→Prop) (d:Nat) (cs:List Value) (s:Tr (d+1)):Prop :=
 ∃ Aa ca Ab nb cb,cs=scl (hdT s) Aa ca Ab nb cb∧RdQ w Q 1 Aa (hdT s).args.length (strs (hdT s).args)∧TrQ w Q d Ab nb (bdT s)∧(hdT s).args.length≤ca
def Fa2 {α β:Type} (R:α→β→Prop):List α→List β→Prop
 | [],[]=>True
 | a :: l,b :: m=>R a b∧Fa2 R l m
 | _,_=>False
def ElQ (w:World) (Q:Nat→Prop) (d:Nat) (xs:List Value) (l:List (Tr (d+1))):Prop :=
 ∃ css:List (List Value),xs=css.flatten∧Fa2 (StQ w Q d) css l
theorem StQ.mono {d:Nat} {cs:List Value} {s:Tr (d+1)} (h:StQ w P d cs s) (hp:∀ b,b<w.heap.size→P b→P' b):StQ w P' d cs s:=by
 obtain ⟨Aa,ca,Ab,nb,cb,h1,h2,h3,h4⟩:=h
 exact ⟨Aa,ca,Ab,nb,cb,h1,h2.mono hp,h3.mono hp,h4⟩
theorem StQ.keep {d:Nat} {cs:List Value} {s:Tr (d+1)} (h:StQ w P d cs s) (hk:∀ b,P b→b<w.heap.size→w'.heap[b]?=w.heap[b]?) (hs:w.heap.size≤w'.heap.size):StQ w' P d cs s:=by
 obtain ⟨Aa,ca,Ab,nb,cb,h1,h2,h3,h4⟩:=h
 exact ⟨Aa,ca,Ab,nb,cb,h1,h2.keep hk hs,h3.keep hk hs,h4⟩
theorem forall2_mono {α β:Type} {R S:α→β→Prop} (h:∀ a b,R a b→S a b):∀ {l:List α} {m:List β},Fa2 R l m→Fa2 S l m
 | [],[],_=>trivial
 | _ :: _,_ :: _,h1=>⟨h _ _ h1.1,forall2_mono h h1.2⟩
theorem forall2_append {α β:Type} {R:α→β→Prop}:∀ {l l':List α} {m m':List β},Fa2 R l m→Fa2 R l' m'→Fa2 R (l++l') (m++m')
 | [],_,[],_,_,h2=>h2
 | _ :: _,_,_ :: _,_,h1,h2=>⟨h1.1,forall2_append h1.2 h2⟩
theorem ElQ.nil {Q:Nat→Prop} {d:Nat}:ElQ w Q d [] []:=⟨[],rfl,trivial⟩
theorem ElQ.mono {d:Nat} {xs:List Value} {l:List (Tr (d+1))} (h:ElQ w P d xs l) (hp:∀ b,b<w.heap.size→P b→P' b):ElQ w P' d xs l:=by
 obtain ⟨css,e,h⟩:=h
 exact ⟨css,e,forall2_mono (fun _ _ h=>h.mono hp) h⟩
theorem ElQ.keep {d:Nat} {xs:List Value} {l:List (Tr (d+1))} (h:ElQ w P d xs l) (hk:∀ b,P b→b<w.heap.size→w'.heap[b]?=w.heap[b]?) (hs:w.heap.size≤w'.heap.size):ElQ w' P d xs l:=by
 obtain ⟨css,e,h⟩:=h
 exact ⟨css,e,forall2_mono (fun _ _ h=>h.keep hk hs) h⟩
theorem ElQ.append {d:Nat} {xs ys:List Value} {l m:List (Tr (d+1))} (h:ElQ w P d xs l) (h':ElQ w P d ys m):ElQ w P d (xs++ys) (l++m):=by
 obtain ⟨css,e,h⟩:=h
 obtain ⟨dss,e',h'⟩:=h'
 exact ⟨css++dss,by rw[e,e',List.flatten_append],forall2_append h h'⟩
theorem ElQ.one {d:Nat} {cs:List Value} {s:Tr (d+1)} (h:StQ w P d cs s):ElQ w P d cs [s]:=⟨[cs],by simp,h,trivial⟩
theorem StQ.len {d:Nat} {cs:List Value} {s:Tr (d+1)} (h:StQ w P d cs s):cs.length=5:=by
 obtain ⟨Aa,ca,Ab,nb,cb,rfl,_⟩:=h
 rfl
theorem StQ.ones {d:Nat} {cs:List Value} {s:Tr (d+1)} (h:StQ w P d cs s):∀ u∈cs,u.oneCell'=true:=by
 obtain ⟨Aa,ca,Ab,nb,cb,rfl,_⟩:=h
 intro u hu
 simp only[scl,List.mem_cons,List.not_mem_nil,or_false] at hu
 rcases hu with rfl|rfl|rfl|rfl|rfl <;> rfl
theorem ElQ.ones2 {d:Nat}:∀ {css:List (List Value)} {l:List (Tr (d+1))},Fa2 (StQ w P d) css l→(∀ u∈css.flatten,u.oneCell'=true)∧css.flatten.length=l.length*5
 | [],[],_=>⟨by simp,rfl⟩
 | _ :: _,_ :: _,h1=>by
  obtain ⟨i1,i2⟩:=ElQ.ones2 h1.2
  refine ⟨fun u hu=>?_,by rw[List.flatten_cons,List.length_append,h1.1.len,i2,List.length_cons];omega⟩
  rw[List.flatten_cons] at hu
  rcases List.mem_append.1 hu with hu|hu
  ·exact h1.1.ones u hu
  ·exact i1 u hu
theorem ElQ.ones {d:Nat} {xs:List Value} {l:List (Tr (d+1))} (h:ElQ w P d xs l):∀ u∈xs,u.oneCell'=true:=by
 obtain ⟨css,rfl,h⟩:=h
 exact(ElQ.ones2 h).1
theorem ElQ.len {d:Nat} {xs:List Value} {l:List (Tr (d+1))} (h:ElQ w P d xs l):xs.length=l.length*5:=by
 obtain ⟨css,rfl,h⟩:=h
 exact(ElQ.ones2 h).2
end
def OwnT (w:World) (base d:Nat) (v:Value) (l:List (Tr (d+1))):Prop :=
 ∃ xs,w.ownsRow base 66 5 v l.length xs∧ElQ w (fun b=>base≤b∧some b≠v.ownBlock) d xs l
theorem OwnT.grown {w w':World} {base d:Nat} {v:Value} {l:List (Tr (d+1))} {row:Option Nat} (h:OwnT w base d v l) (hg:w.grownBy w' row) (hr:∀ k,row=some k→k<base):OwnT w' base d v l:=by
 obtain ⟨xs,ho,he⟩:=h
 refine ⟨xs,ho.kept hg ?_,he.keep (fun b hp hb=>hg.block b hb (fun e=>?_)) hg.size⟩
 ·cases hk:v.ownBlock with
  | none=>exact .inl rfl
  | some k =>
   refine .inr fun e=>?_
   have h1:=hr k e.symm
   have h2:=(ho.lt k hk).1
   omega
 ·have:=hr b e.symm
  omega
theorem OwnT.below {w w':World} {base d:Nat} {v:Value} {l:List (Tr (d+1))} (h:OwnT w base d v l) (hb:Below w.heap.size w w'):OwnT w' base d v l :=
 h.grown (row:=none) ⟨hb.os,hb.tape,hb.output,hb.size,fun k hk _=>hb.block k hk⟩ (fun k e=>by cases e)
theorem OwnT.push {w wa w6:World} {base d:Nat} {v v6:Value} {xs ys:List Value} {l m:List (Tr (d+1))} (hx:ElQ w (fun b=>base≤b∧some b≠v.ownBlock) d xs l) (hy:ElQ w (fun b=>base≤b∧some b≠v.ownBlock) d ys m)
  (ho6:w6.ownsRow base 66 5 v6 (l.length+m.length) (xs++ys)) (hba:Below w.heap.size w wa) (hg:wa.grownBy w6 v.ownBlock) (hv:v6.ownBlock=v.ownBlock∨v6.ownBlock=some wa.heap.size):OwnT w6 base d v6 (l++m):=by
 refine ⟨xs++ys,by rw[List.length_append];exact ho6,ElQ.mono (P:=fun b=>base≤b∧some b≠v.ownBlock∧b<w.heap.size) ?_ ?_⟩
 ·have hk:∀ b,(base≤b∧some b≠v.ownBlock∧b<w.heap.size)→b<w.heap.size→w6.heap[b]?=w.heap[b]?:=fun b hp hb=>(hg.block b (Nat.lt_of_lt_of_le hb hba.size) hp.2.1).trans (hba.block b hb)
  have hs:w.heap.size≤w6.heap.size:=Nat.le_trans hba.size hg.size
  exact((hx.mono (fun b hb hp=>⟨hp.1,hp.2,hb⟩)).append (hy.mono (fun b hb hp=>⟨hp.1,hp.2,hb⟩))).keep hk hs
 ·intro b _ hp
  refine ⟨hp.1,?_⟩
  rcases hv with e|e
  ·rw[e];exact hp.2.1
  ·rw[e]
   intro e
   injection e with e
   have:=hba.size
   omega
theorem OwnT.slice {w:World} {base d:Nat} {v:Value} {l:List (Tr (d+1))} (h:OwnT w base d v l):∃ A c,v=.slice A l.length c∧l.length≤c∧c≤maxLen:=by
 obtain ⟨xs,ho,_⟩:=h
 obtain ⟨A,c,e,h1,h2,_⟩:=rd_of_own ho
 exact ⟨A,c,e,h1,h2⟩
theorem own_lowT {w:World} {B B' e size n:Nat} {v:Value} {xs:List Value} (h:w.ownsRow B e size v n xs) (hB:B'≤B):w.ownsRow B' e size v n xs:=by
 refine ⟨h.1,?_⟩
 rcases h.2 with h2|⟨g,cap,cur,h1,h2,h3⟩
 ·exact .inl h2
 ·exact .inr ⟨g,cap,cur,h1,Nat.le_trans hB h2,h3⟩
theorem OwnT.low {w:World} {base base' d:Nat} {v:Value} {l:List (Tr (d+1))} (h:OwnT w base d v l) (hb:base'≤base):OwnT w base' d v l:=by
 obtain ⟨xs,ho,he⟩:=h
 exact ⟨xs,own_lowT ho hb,he.mono (fun b _ hp=>⟨Nat.le_trans hb hp.1,hp.2⟩)⟩
def bcell (x:Fin 256):List Value:=[.int .u8 (x.val:Int)]
def CurAt (w:World) (p:Nat):Prop:=∃ (A:Option Addr) (n c:Nat) (bs:List (Fin 256)) (i:Nat) (h:Int),
 w.heap[p]?=some (.cells #[.slice A n c,.int .i64 i,.int .i64 h] 126 (0,0))∧bs.length=n∧Rd w 1 A n (bs.flatMap bcell)∧(0<n→∀ ad,A=some ad→ad.block<p)∧i≤n∧n≤1048576
theorem CurAt.lt {w:World} {p:Nat} (h:CurAt w p):p<w.heap.size:=by
 obtain ⟨_,_,_,_,_,_,h,_⟩:=h
 exact lt_of_block h
theorem CurAt.kept {w w':World} {p:Nat} (h:CurAt w p) (hb:∀ k,k≤p→w'.heap[k]?=w.heap[k]?) (hs:w.heap.size≤w'.heap.size):CurAt w' p:=by
 obtain ⟨A,n,c,bs,i,h,h1,h2,h3,h4,h5⟩:=h
 refine ⟨A,n,c,bs,i,h,(hb p (Nat.le_refl _)).trans h1,h2,⟨h3.1,fun h0=>?_⟩,h4,h5⟩
 obtain ⟨b,off,e,hl,hc⟩:=h3.2 h0
 refine ⟨b,off,e,Nat.lt_of_lt_of_le hl hs,fun j u hu=>?_⟩
 rw[←hc j u hu]
 have hk:=hb b (Nat.le_of_lt (h4 h0 _ e))
 simp [World.cell?,hk]
theorem CurAt.below {w w':World} {p:Nat} (h:CurAt w p) (hb:Below w.heap.size w w'):CurAt w' p:=h.kept (fun k hk=>hb.block k (Nat.lt_of_le_of_lt hk h.lt)) hb.size
theorem CurAt.grown {w w':World} {p:Nat} {row:Option Nat} (h:CurAt w p) (hg:w.grownBy w' row) (hr:∀ k,row=some k→p<k):CurAt w' p :=
 h.kept (fun k hk=>hg.block k (Nat.lt_of_le_of_lt hk h.lt) (by
  intro e
  have h1:=hr _ e.symm
  omega)) hg.size
def DI (w:World) (p:Nat) (lo hi:Int) (e:Ending) (w':World):Prop:=∃ x:Int,lo≤x∧x≤hi∧e=.returned (.int .i64 x)∧CurAt w' p∧w.grownBy w' (some p)
theorem only_drewN {a w:World} {row:Option Nat} (h:a.grownBy w row) (n:Nat):a.grownBy (w.drewN n) row:=⟨h.os,h.tape,h.output,h.size,h.block⟩
theorem only_setCell {a w:World} {g:Nat} (h:a.grownBy w (some g)) {p:Addr} (hp:p.block=g) (u:Value):a.grownBy (w.setCell p u) (some g) :=
 ⟨h.os,h.tape,h.output,by simpa [World.setCell] using h.size,fun i hi hne=>(Below.heap_setCell w p u i (by
  rintro rfl
  exact hne (by rw[hp]))).trans (h.block i hi hne)⟩
theorem only_of_below {a w:World} (h:Below a.heap.size a w) (row:Option Nat):a.grownBy w row:=⟨h.os,h.tape,h.output,h.size,fun i hi _=>h.block i hi⟩
theorem grown_rd {w w':World} {p size n:Nat} {A:Option Addr} {xs:List Value} (h:Rd w size A n xs) (hg:w.grownBy w' (some p)) (hne:0<n→∀ ad,A=some ad→ad.block≠p):Rd w' size A n xs :=
 ⟨h.1,fun h0=>by
  obtain ⟨b,off,e,hl,hc⟩:=h.2 h0
  refine ⟨b,off,e,Nat.lt_of_lt_of_le hl hg.size,fun j u hu=>?_⟩
  rw[←hc j u hu]
  have hne':=hne h0 _ e
  have hk:=hg.block b hl (by
   intro e1
   injection e1 with e1
   exact hne' e1)
  simp [World.cell?,hk]⟩
structure Fr (w:World) (p:Nat) (w':World):Prop where
 cur:CurAt w' p
 gr:w.grownBy w' (some p)
theorem Fr.lt {w w1:World} {p:Nat} (h:Fr w p w1) (hp:p<w.heap.size):p<w1.heap.size:=h.cur.lt
theorem Fr.below {w w1 w2:World} {p:Nat} (h:Fr w p w1) (hb:Below w1.heap.size w1 w2):Fr w p w2 :=
 ⟨h.cur.below hb,h.gr.andThen (only_of_below hb none) Zq11⟩
theorem Fr.alloc {w w1:World} {p:Nat} (h:Fr w p w1) (ob:Obj):Fr w p (w1.alloc ob):=h.below ((Below.refl _ _).alloc (Nat.le_refl _) _)
theorem Fr.call {w w1 w2:World} {p:Nat} (h:Fr w p w1) (hc:CurAt w2 p) (hg:w1.grownBy w2 (some p)):Fr w p w2:=⟨hc,h.gr.trans hg⟩
theorem Fr.own {w w1 w2:World} {p:Nat} {row:Option Nat} (h:Fr w p w1) (hp:p<w.heap.size) (hg:w1.grownBy w2 row) (hr:∀ k,row=some k→w.heap.size≤k):Fr w p w2 :=
 ⟨h.cur.grown hg (fun k hk=>by have:=hr k hk;omega),h.gr.andThen hg (fun j hj=>.inl (hr j hj))⟩
theorem Fr.set {w w1:World} {p:Nat} (h:Fr w p w1) (hp:p<w.heap.size) {a:Addr} (ha:w.heap.size≤a.block) (v:Value):Fr w p (w1.setCell a v) :=
 h.own (row:=some a.block) hp (only_setCell (World.grownBy.refl w1 _) rfl v) (fun k hk=>by injection hk with hk;omega)
theorem Fr.drewN {w w1:World} {p:Nat} (h:Fr w p w1) (n:Nat):Fr w p (w1.drewN n):=⟨h.cur,only_drewN h.gr n⟩
theorem free_at {w:World} {b j:Nat} {cs:Array Value} {t:TypeId} (h:w.heap[b]?=some (.cells cs t (0,0))):w.frozen? ⟨b,j,none⟩=false:=by simp [World.frozen?,h]

theorem own_ne_typeG {w:World} {base e size n g:Nat} {v:Value} {xs:List Value} {cs:Array Value} {t:TypeId} (h:w.ownsRow base e size v n xs) (hg:w.heap[g]?=some (.cells cs t (0,0))) (hne:e≠t):v.ownBlock≠some g:=by
 rcases h.2 with ⟨rfl,_⟩|⟨g',cap,cur,rfl,_,hh,_⟩
 ·simp [Value.ownBlock]
 ·intro he
  have e1:g'=g:=by simpa [Value.ownBlock] using he
  subst e1
  rw[hh] at hg
  injection hg with hg
  injection hg with _ ht
  exact hne ht
theorem heap_set_farG {w:World} {g:Nat} {o:Obj} {p:Addr} (h:w.heap[g]?=some o) (hp:g≠p.block) (u:Value):(w.setCell p u).heap[g]?=some o:=(Below.heap_setCell w p u g hp).trans h
theorem heap_set_selfG {w:World} {g i:Nat} {t:TypeId} {cs:Array Value} (h:w.heap[g]?=some (.cells cs t (0,0))) (u:Value):(w.setCell ⟨g,i,none⟩ u).heap[g]?=some (.cells (cs.setIfInBounds i u) t (0,0)):=by
 simp [World.setCell,Array.getElem?_modify,h]
theorem own_setfarG {w:World} {base e size n:Nat} {v:Value} {xs:List Value} (h:w.ownsRow base e size v n xs) {p:Addr} (hp:v.ownBlock≠some p.block) (u:Value):(w.setCell p u).ownsRow base e size v n xs:=by
 refine ⟨h.1,?_⟩
 rcases h.2 with hn|⟨g,cap,cur,rfl,hb,hh,rest⟩
 ·exact .inl hn
 ·exact .inr ⟨g,cap,cur,rfl,hb,heap_set_farG hh (fun e=>hp (by simp [Value.ownBlock,e])) u,rest⟩
theorem own_drawG {w1 w2:World} {B e size n p:Nat} {v:Value} {xs:List Value} (h:w1.ownsRow B e size v n xs) (hg:w1.grownBy w2 (some p)) (hp:p<B):w2.ownsRow B e size v n xs:=h.kept hg (by
 cases hk:v.ownBlock with
 | none=>exact .inl rfl
 | some k =>
  refine .inr fun e=>?_
  injection e with e
  have:=(h.lt k hk).1
  omega)
theorem cells5G {w w':World} {b:Nat} {x0 x1 x2 x3 x4:Value} {t:TypeId} (lay:Below w'.heap.size w' w) (h:w'.heap[b]?=some (.cells #[x0,x1,x2,x3,x4] t (0,0))) :
  w.cell? ⟨b,0,none⟩=some x0∧w.cell? ⟨b,1,none⟩=some x1∧w.cell? ⟨b,2,none⟩=some x2∧w.cell? ⟨b,3,none⟩=some x3∧w.cell? ⟨b,4,none⟩=some x4:=by
 have h':w.heap[b]?=some (.cells #[x0,x1,x2,x3,x4] t (0,0)):=(lay.block b (lt_of_block h)).trans h
 exact ⟨by simp [World.cell?,h'],by simp [World.cell?,h'],by simp [World.cell?,h'],by simp [World.cell?,h'],by simp [World.cell?,h']⟩
theorem one_strG (a:ByteArray):∀ u∈[Value.string a],u.oneCell'=true:=by
 intro u hu
 rw[List.mem_singleton.1 hu]
 rfl
theorem RdQ.set_ {w:World} {P:Nat→Prop} {size n:Nat} {A:Option Addr} {xs:List Value} (h:RdQ w P size A n xs) {p:Addr} (hp:¬ P p.block) (u:Value):RdQ (w.setCell p u) P size A n xs :=
 h.keep (fun b hb _=>Below.heap_setCell w p u b (fun e=>hp (e▸hb))) (by simp [World.setCell])
theorem RdQ.below {w w':World} {P:Nat→Prop} {size n:Nat} {A:Option Addr} {xs:List Value} (h:RdQ w P size A n xs) (hb:Below w.heap.size w w'):RdQ w' P size A n xs :=
 h.keep (fun b _ hlt=>hb.block b hlt) hb.size
theorem RdQ.call {w w':World} {P:Nat→Prop} {size n p:Nat} {A:Option Addr} {xs:List Value} (h:RdQ w P size A n xs) (hg:w.grownBy w' (some p)) (hp:¬ P p):RdQ w' P size A n xs :=
 h.keep (fun b hb hlt=>hg.block b hlt (fun e=>by injection e with e;exact hp (e▸hb))) hg.size
theorem TrQ.below {w w':World} {P:Nat→Prop} {d n:Nat} {A:Option Addr} {l:List (Tr d)} (h:TrQ w P d A n l) (hb:Below w.heap.size w w'):TrQ w' P d A n l :=
 h.keep (fun b _ hlt=>hb.block b hlt) hb.size
theorem TrQ.call {w w':World} {P:Nat→Prop} {d n p:Nat} {A:Option Addr} {l:List (Tr d)} (h:TrQ w P d A n l) (hg:w.grownBy w' (some p)) (hp:¬ P p):TrQ w' P d A n l :=
 h.keep (fun b hb hlt=>hg.block b hlt (fun e=>by injection e with e;exact hp (e▸hb))) hg.size
theorem rd_drawG {w w':World} {p size n:Nat} {A:Option Addr} {xs:List Value} (h:Rd w size A n xs) (hg:w.grownBy w' (some p)) (hne:∀ ad,A=some ad→ad.block≠p):Rd w' size A n xs:=grown_rd h hg (fun _=>hne)
theorem wp_name {P:Program} {c:Code} {Q:Exit→Act→World→Prop} {a:Act} {w:World} (h:∀ wz,wz=w→Code.wp P c Q a wz):Code.wp P c Q a w:=h w rfl
structure Names (w:World) (p:Nat) (A:Option Addr) (m:Nat) (N:List ByteArray):Prop where
 rd:Rd w 1 A m (strs N)
 len:N.length=m
 lo:1≤m
 hi:m≤4
 small:∀ s∈N,s.size≤9
 ne:∀ ad,A=some ad→ad.block≠p
theorem Names.below {w w':World} {p m:Nat} {A:Option Addr} {N:List ByteArray} (h:Names w p A m N) (hb:Below w.heap.size w w'):Names w' p A m N:=⟨h.rd.below hb,h.len,h.lo,h.hi,h.small,h.ne⟩
theorem Names.call {w w':World} {p m:Nat} {A:Option Addr} {N:List ByteArray} (h:Names w p A m N) (hg:w.grownBy w' (some p)):Names w' p A m N:=⟨rd_drawG h.rd hg h.ne,h.len,h.lo,h.hi,h.small,h.ne⟩
theorem Names.fr {w w':World} {p m:Nat} {A:Option Addr} {N:List ByteArray} (h:Names w p A m N) (hf:Fr w p w'):Names w' p A m N:=h.call hf.gr
theorem Names.at_ {w:World} {p m t:Nat} {A:Option Addr} {N:List ByteArray} (h:Names w p A m N) (ht:t<m):∃ b off s,A=some ⟨b,off,none⟩∧b<w.heap.size∧w.cell? ⟨b,off+t,none⟩=some (.string s)∧s∈N∧s.size≤9:=by
 obtain ⟨s,hs⟩:∃ s,N[t]?=some s:=⟨_,List.getElem?_eq_getElem (by rw[h.len];exact ht)⟩
 obtain ⟨b,off,e,hb,hc⟩:=h.rd.2 Zq6
 have hm:=List.mem_of_getElem? hs
 exact ⟨b,off,s,e,hb,hc t _ (strs_at hs),hm,h.small s hm⟩
theorem below_drewE {B:Nat} {w w':World} (h:Below B w w'):Below B w w'.drew:=⟨h.os,h.tape,h.output,h.size,h.block⟩
theorem belE {w w1 w2:World} (f:Below w.heap.size w w1) (h:Below w1.heap.size w1 w2):Below w.heap.size w w2:=f.trans (h.mono f.size)
theorem below_allocE {w:World} {o:Obj}:Below w.heap.size w (w.alloc o):=(Below.refl _ _).alloc (Nat.le_refl _) _
theorem below_heapE {w w':World} {g n:Nat} {o:Obj} (f:w.heap[g]?=some o∧n≤g) (st:Below w.heap.size w w'):w'.heap[g]?=some o∧n≤g:=⟨(st.block _ (lt_of_block f.1)).trans f.1,f.2⟩
theorem cells4E {w:World} {b:Nat} {x0 x1 x2 x3:Value} {t:TypeId} (h:w.heap[b]?=some (.cells #[x0,x1,x2,x3] t (0,0))):w.cell? ⟨b,0,none⟩=some x0∧w.cell? ⟨b,1,none⟩=some x1∧w.cell? ⟨b,2,none⟩=some x2∧w.cell? ⟨b,3,none⟩=some x3:=⟨cell_at h rfl,cell_at h rfl,cell_at h rfl,cell_at h rfl⟩
theorem heap_set4E {w:World} {b:Nat} {t:TypeId} {z0 z1 z2 z3 v0 v1 v2 v3:Value} (h:w.heap[b]?=some (.cells #[z0,z1,z2,z3] t (0,0))) :
  ((((w.setCell ⟨b,0,none⟩ v0).setCell ⟨b,1,none⟩ v1).setCell ⟨b,2,none⟩ v2).setCell ⟨b,3,none⟩ v3).heap[b]?=some (.cells #[v0,v1,v2,v3] t (0,0)) :=
 heap_set_selfG (heap_set_selfG (heap_set_selfG (heap_set_selfG h v0) v1) v2) v3
theorem setBelow4 {w:World} {b B:Nat} {v0 v1 v2 v3:Value} (h:B≤b):Below B w ((((w.setCell ⟨b,0,none⟩ v0).setCell ⟨b,1,none⟩ v1).setCell ⟨b,2,none⟩ v2).setCell ⟨b,3,none⟩ v3) :=
 ((((Below.refl B w).setCell h _).setCell h _).setCell h _).setCell h _
theorem below_set4E {w w':World} {b:Nat} {v0 v1 v2 v3:Value} (f:Below w.heap.size w w') (h:w.heap.size≤b):Below w.heap.size w ((((w'.setCell ⟨b,0,none⟩ v0).setCell ⟨b,1,none⟩ v1).setCell ⟨b,2,none⟩ v2).setCell ⟨b,3,none⟩ v3) :=
 f.trans (setBelow4 h)
theorem l22Gate_any (h:SH) (Aa:Option Addr) (ca:Nat) (Ab:Option Addr) (nb cb:Nat) (names:List ByteArray) (An:Option Addr) (nn cn:Nat) (w:World) (ra:Rd w 1 Aa h.args.length (strs h.args)) (rn:Rd w 1 An nn (strs names)) (hn:names.length=nn) (hnn:nn≤1048576) (h1:1≤h.args.length) (h3:h.args.length≤3) :
  Calls Tryz.prog 139 #[.agg #[.int .i64 h.k,.string h.word,.slice Aa h.args.length ca,.int .i64 h.count,.slice Ab nb cb],.slice An nn cn] w fun e w' =>
   e=.returned (.agg #[.int .i64 (gat (fS names) h).k,.int .i64 (gat (fS names) h).a,.int .i64 (gat (fS names) h).b,.int .i64 (gat (fS names) h).c])∧Below w.heap.size w w':=by
 obtain ⟨m,hm⟩:∃ m,h.args.length=m:=⟨_,rfl⟩
 obtain ⟨b,off,rfl,hbw,hc⟩:=ra.2 Zq6
 have ha0:=arg0_of (h:=h) Zq6
 obtain ⟨a0,hA0⟩:∃ a0,a0=arg0 h:=⟨_,rfl⟩
 rw[←hA0] at ha0
 obtain ⟨x0,hx0⟩:∃ x0,x0=fS names a0:=⟨_,rfl⟩
 rw[hm] at h1 h3 ⊢
 obtain ⟨X,hX⟩:∃ X,X=w.heap.size:=⟨_,rfl⟩
 obtain ⟨w0,hw0⟩:∃ w0,w0=(w.alloc (.cells #[.int .i64 h.k,.string h.word,.slice (some ⟨b,off,none⟩) m ca,.int .i64 h.count,.slice Ab nb cb] 66)).alloc (.cells #[.int .i64 0,.int .i64 0,.int .i64 0,.int .i64 0] 102):=⟨_,rfl⟩
 have B0:=hD (show Below w.heap.size w w0 by rw[hw0];exact Zq0)
 have X0:=hD (show w0.heap[X]?=some (.cells #[.int .i64 h.k,.string h.word,.slice (some ⟨b,off,none⟩) m ca,.int .i64 h.count,.slice Ab nb cb] 66 (0,0)) by rw[hw0,hX];exact boxed2_0 _ _ _)
 have Y0:=hD (show w0.heap[X+1]?=some (.cells #[.int .i64 0,.int .i64 0,.int .i64 0,.int .i64 0] 102 (0,0)) by rw[hw0,hX];exact boxed2_1 _ _ _)
 have hX0:=lt_of_block X0.out
 have hY0:=lt_of_block Y0.out
 have hb0:b<w0.heap.size:=Nat.lt_of_lt_of_le hbw B0.out.size
 have HC:=hD (fun j u (h:(strs h.args)[j]?=some u)=>(B0.out.cell (p:=⟨b,off+j,none⟩) hbw).trans (hc j u h))
 have c0:w0.cell? ⟨b,off,none⟩=some (.string a0):=HC.out 0 _ (by unfold strs;rw[List.getElem?_map,ha0];rfl)
 have RN:=hD (rn.below B0.out)
 have HNN:=hD hn
 have HM:=hD hm
 have HX0:=hD hx0
 have HA0:=hD hA0
 have HW0:=hD hw0
 have HX:=hD hX
 have hXw:w.heap.size≤X:=by omega
 have hbX:b<X:=by omega
 clear hm hn ra rn hc ha0 hA0 hx0 hw0 hX
 obtain ⟨_,k1,k2,_,_⟩:=cells5G (lay:=Below.refl _ _) X0.out
 go_enter Tryz.func139,Tryz.ntmps139
 go_upto_region 1 with (fail)
 rw[←HW0.out,←HX.out]
 obtain ⟨J0,hJ0⟩:∃ J:Array Value→Array Bool→Act→World→Prop,J=(fun A0 Lz a W=>∃ (g0:Nat),∃ x6 x7 x8 x9 x10 x11 x12 x13 x14 x15 x5:Value,a=⟨(((((((((((A0.setIfInBounds 6 x6).setIfInBounds 7 x7).setIfInBounds 8 x8).setIfInBounds 9 x9).setIfInBounds 10 x10).setIfInBounds 11 x11).setIfInBounds 12 x12).setIfInBounds 13 x13).setIfInBounds 14 x14).setIfInBounds 15 x15).setIfInBounds 5 x5),[]⟩∧(Ls Lz 0→x6=.pointer (some ⟨X,1,none⟩))∧(Ls Lz 1→x7=.string h.word)∧(Ls Lz 2→x8=.int .i64 (gkind h.word))∧(Ls Lz 3→x9=.slice An nn cn)∧(Ls Lz 4→x10=.pointer (some ⟨X,2,none⟩))∧(Ls Lz 5→x11=.slice (some ⟨b,off,none⟩) m ca)∧(Ls Lz 6→x12=.pointer (some ⟨b,off,none⟩))∧(Ls Lz 7→x13=.string a0)∧(Ls Lz 8→x14=.int .i64 x0)∧(Ls Lz 9→x15=.agg #[.int .i64 (gkind h.word),.int .i64 x0,.int .i64 0,.int .i64 0])∧(Ls Lz 10→x5=.pointer (some ⟨g0,0,none⟩))∧(Ls Lz 11→(x5=.pointer (some ⟨g0,0,none⟩)∧W.heap[g0]?=some (.cells #[.int .i64 (gkind h.word),.int .i64 x0,.int .i64 0,.int .i64 0] 102 (0,0))∧w0.heap.size≤g0∧Below w0.heap.size w0 W))∧(Ls Lz 10→¬ Ls Lz 11→(W.heap[g0]?=some (.cells #[.int .i64 0,.int .i64 0,.int .i64 0,.int .i64 0] 102 (0,0))∧w0.heap.size≤g0))∧(¬ Ls Lz 11→Below w0.heap.size w0 W)∧(Ls Lz 11→¬ Ls Lz 11→True)):=⟨_,rfl⟩
 have HJ0:=hD hJ0
 clear hJ0
 refine wp_region_inv2 Zq10 J0 ?_ ?_ ?_
 ·intro A0
  rw[HJ0.out]
  exact ⟨0,A0.getD 6 undef,A0.getD 7 undef,A0.getD 8 undef,A0.getD 9 undef,A0.getD 10 undef,A0.getD 11 undef,A0.getD 12 undef,A0.getD 13 undef,A0.getD 14 undef,A0.getD 15 undef,A0.getD 5 undef,by simp only[set_self],zn,zn,zn,zn,zn,zn,zn,zn,zn,zn,zn,zn,zn,fun _=>below_drewE (Below.refl _ _),zn⟩
 ·intro Lz a W hsize hcl hJ i hi
  have hil:=ready_lt hi
  have hnl:=ready_not hi
  have hnow:=ready_now hi hsize
  have HCL:=hD hcl
  rw[HJ0.out] at hJ
  obtain ⟨g0,x6,x7,x8,x9,x10,x11,x12,x13,x14,x15,x5,rfl,HF⟩:=hJ
  have HH:=hD HF
  have hi2:i=0∨i=1∨i=2∨i=3∨i=4∨i=5∨i=6∨i=7∨i=8∨i=9∨i=10∨i=11:=by simp at hil;omega
  clear hil hcl HF
  rcases hi2 with rfl|rfl|rfl|rfl|rfl|rfl|rfl|rfl|rfl|rfl|rfl|rfl
  ·clear hi HCL
   simp only[zA,zB,zC]
   refine wpOp_one rfl rfl fun K hK=>?_
   go_wp2_with fail
   rw[HJ0.out]
   exact ⟨g0,.pointer (some ⟨X,1,none⟩),x7,x8,x9,x10,x11,x12,x13,x14,x15,x5,(by simp only[zA,zB,zC]),zT HH⟩
  ·have hns:¬ Ls Lz 11:=fun h=>hnl (dq HCL (dq HCL (dq HCL h 9) 2) 1)
   have D0:=(pj0 HH.out) (rq hi 0)
   have V0:=(pj13 HH.out) hns
   clear hi HCL
   simp only[zA,zB,zC,D0]
   have k0:=(V0.cell (p:=⟨X,1,none⟩) hX0).trans k1
   refine wpOp_one rfl rfl fun K hK=>?_
   go_wp2_with fail
   rw[HJ0.out]
   exact ⟨g0,x6,.string h.word,x8,x9,x10,x11,x12,x13,x14,x15,x5,(by simp only[zA,zB,zC,D0]),zT HH⟩
  ·have hns:¬ Ls Lz 11:=fun h=>hnl (dq HCL (dq HCL h 9) 2)
   have D1:=(pj1 HH.out) (rq hi 1)
   have V0:=(pj13 HH.out) hns
   clear hi HCL
   simp only[zA,zB,zC,D1]
   refine wpOp_one rfl rfl fun K hK=>?_
   go_wp2_with fail
   refine(GateKind_spec h.word W).mono ?_
   rintro e y ⟨rfl,hb,hs⟩
   go_wp2_with fail
   rw[HJ0.out]
   exact ⟨g0,x6,x7,.int .i64 (gkind h.word),x9,x10,x11,x12,x13,x14,x15,x5,(by simp only[zA,zB,zC,D1]),zk HH,zk HH,fun _=>rfl,zk HH,zk HH,zk HH,zk HH,zk HH,zk HH,zk HH,zk HH,Ba hns,(Bt (pj12 HH.out) fun x=>below_heapE x hb),fun h=>belE ((pj13 HH.out) (fun h2=>h h2.fwd)) hb,Bb hns⟩
  ·clear hi HCL
   simp only[zA,zB,zC]
   refine wpOp_one rfl rfl fun K hK=>?_
   go_wp2_with fail
   rw[HJ0.out]
   exact ⟨g0,x6,x7,x8,.slice An nn cn,x10,x11,x12,x13,x14,x15,x5,(by simp only[zA,zB,zC]),zT HH⟩
  ·clear hi HCL
   simp only[zA,zB,zC]
   refine wpOp_one rfl rfl fun K hK=>?_
   go_wp2_with fail
   rw[HJ0.out]
   exact ⟨g0,x6,x7,x8,x9,.pointer (some ⟨X,2,none⟩),x11,x12,x13,x14,x15,x5,(by simp only[zA,zB,zC]),zT HH⟩
  ·have hns:¬ Ls Lz 11:=fun h=>hnl (dq HCL (dq HCL (dq HCL (dq HCL (dq HCL h 9) 8) 7) 6) 5)
   have D4:=(pj4 HH.out) (rq hi 4)
   have V0:=(pj13 HH.out) hns
   clear hi HCL
   simp only[zA,zB,zC,D4]
   have k0:=(V0.cell (p:=⟨X,2,none⟩) hX0).trans k2
   refine wpOp_one rfl rfl fun K hK=>?_
   go_wp2_with fail
   rw[HJ0.out]
   exact ⟨g0,x6,x7,x8,x9,x10,.slice (some ⟨b,off,none⟩) m ca,x12,x13,x14,x15,x5,(by simp only[zA,zB,zC,D4]),zT HH⟩
  ·have D5:=(pj5 HH.out) (rq hi 5)
   clear hi HCL
   simp only[zA,zB,zC,D5]
   refine wpOp_one rfl rfl fun K hK=>?_
   go_wp2_with fail
   rw[HJ0.out]
   exact ⟨g0,x6,x7,x8,x9,x10,x11,.pointer (some ⟨b,off,none⟩),x13,x14,x15,x5,(by simp only[zA,zB,zC,D5]),zT HH⟩
  ·have hns:¬ Ls Lz 11:=fun h=>hnl (dq HCL (dq HCL (dq HCL h 9) 8) 7)
   have D6:=(pj6 HH.out) (rq hi 6)
   have V0:=(pj13 HH.out) hns
   clear hi HCL
   simp only[zA,zB,zC,D6]
   have q:=(V0.cell (p:=⟨b,off,none⟩) hb0).trans c0
   refine wpOp_one rfl rfl fun K hK=>?_
   go_wp2_with fail
   rw[HJ0.out]
   exact ⟨g0,x6,x7,x8,x9,x10,x11,x12,.string a0,x14,x15,x5,(by simp only[zA,zB,zC,D6]),zT HH⟩
  ·have hns:¬ Ls Lz 11:=fun h=>hnl (dq HCL (dq HCL h 9) 8)
   have D3:=(pj3 HH.out) (rq hi 3)
   have D7:=(pj7 HH.out) (rq hi 7)
   have V0:=(pj13 HH.out) hns
   clear hi HCL
   simp only[zA,zB,zC,D3,D7]
   refine wpOp_one rfl rfl fun K hK=>?_
   go_wp2_with fail
   refine(l22At_any An nn cn names a0 W (RN.out.below V0) HNN.out Zq6).mono ?_
   rintro e y ⟨rfl,rfl⟩
   rw[←HX0.out]
   go_wp2_with fail
   rw[HJ0.out]
   exact ⟨g0,x6,x7,x8,x9,x10,x11,x12,x13,.int .i64 x0,x15,x5,(by simp only[zA,zB,zC,D3,D7]),zT HH⟩
  ·have D2:=(pj2 HH.out) (rq hi 2)
   have D8:=(pj8 HH.out) (rq hi 8)
   clear hi HCL
   simp only[zA,zB,zC,D2,D8]
   refine wpOp_one rfl rfl fun K hK=>?_
   go_wp2_with fail
   rw[HJ0.out]
   exact ⟨g0,x6,x7,x8,x9,x10,x11,x12,x13,x14,.agg #[.int .i64 (gkind h.word),.int .i64 x0,.int .i64 0,.int .i64 0],x5,(by simp only[zA,zB,zC,D2,D8]),zT HH⟩
  ·have hns:¬ Ls Lz 11:=fun h=>hnl (dq HCL h 10)
   have V0:=(pj13 HH.out) hns
   clear hi HCL
   simp only[zA,zB,zC]
   refine wpOp_one rfl rfl fun K hK=>?_
   go_wp2_with fail
   rw[HJ0.out]
   exact ⟨W.heap.size,x6,x7,x8,x9,x10,x11,x12,x13,x14,x15,.pointer (some ⟨W.heap.size,0,none⟩),(by simp only[zA,zB,zC]),zk HH,zk HH,zk HH,zk HH,zk HH,zk HH,zk HH,zk HH,zk HH,zk HH,fun _=>rfl,Ba hns,fun _ _=>⟨heap_alloc_new W _,V0.size⟩,fun h=>belE ((pj13 HH.out) (fun h2=>h h2.fwd)) below_allocE,Bb hns⟩
  ·have hns:¬ Ls Lz 11:=hnl
   have D9:=(pj9 HH.out) (rq hi 9)
   have D10:=(pj10 HH.out) (rq hi 10)
   have E10:=(pj12 HH.out) (rq hi 10) hns
   have V0:=(pj13 HH.out) hns
   clear hi HCL
   simp only[zA,zB,zC,D9,D10]
   have z0:=cell_at (j:=0) E10.1 rfl
   have z1:=cell_at (j:=1) E10.1 rfl
   have z2:=cell_at (j:=2) E10.1 rfl
   have z3:=cell_at (j:=3) E10.1 rfl
   have f0:=free_at (j:=0) E10.1
   have f1:=free_at (j:=1) E10.1
   have f2:=free_at (j:=2) E10.1
   have f3:=free_at (j:=3) E10.1
   have lg:=lt_of_block E10.1
   have HE:=hD E10
   clear E10
   refine wpOp_one rfl rfl fun K hK=>?_
   go_wp2_with fail
   rw[HJ0.out]
   exact ⟨g0,x6,x7,x8,x9,x10,x11,x12,x13,x14,x15,x5,(by first|(simp only[zA,zB,zC,D9,D10] <;> fail)|simp only[Act.put,zA,zB,zC,D9,D10]),zk HH,zk HH,zk HH,zk HH,zk HH,zk HH,zk HH,zk HH,zk HH,zk HH,zk HH,fun _=>⟨D10,heap_set4E HE.out.1,HE.out.2,below_set4E V0 HE.out.2⟩,zx hnow,zy hnow,zx hnow⟩
 ·intro Lz a W hsize hJ hr
  rw[HJ0.out] at hJ
  have hall:=all_listed hsize Zq10 hr
  obtain ⟨g0,x6,x7,x8,x9,x10,x11,x12,x13,x14,x15,x5,rfl,HF⟩:=hJ
  have HH:=hD HF
  have HEND:=(pj11 HH.out) (hall 11 Zq8)
  clear HF HH hall hr hsize
  simp only[zA,zB,zC]
  obtain ⟨rfl,hg,hg0,hbF⟩:=HEND
  obtain ⟨w1,rfl⟩:∃ w1:World,w1=W:=⟨_,rfl⟩
  have hs1:=hbF.size
  have hgn:g0≠X∧g0≠X+1∧g0≠b:=by omega
  have BB:=hD hbF
  have GG:=hD hg
  have XX:=hD ((hbF.block X Zq6).trans X0.out)
  have YY:=hD ((hbF.block (X+1) Zq6).trans Y0.out)
  have CC:=hD (fun j u (h:(strs h.args)[j]?=some u)=>(hbF.cell (p:=⟨b,off+j,none⟩) hb0).trans (HC.out j u h))
  have RN1:=hD (RN.out.below hbF)
  clear hg hbF
  have cells:∀ (W:World) (b0 c0:Int),W.heap[g0]?=some (.cells #[.int .i64 (gkind h.word),.int .i64 x0,.int .i64 b0,.int .i64 c0] 102 (0,0))→W.cell? ⟨g0,0,none⟩=some (.int .i64 (gkind h.word))∧W.cell? ⟨g0,1,none⟩=some (.int .i64 x0)∧W.cell? ⟨g0,2,none⟩=some (.int .i64 b0)∧W.cell? ⟨g0,3,none⟩=some (.int .i64 c0):=fun W b0 c0 h=>⟨cell_at h rfl,cell_at h rfl,cell_at h rfl,cell_at h rfl⟩
  have BBw1:=BB
  have GGw1:=GG
  have XXw1:=XX
  have YYw1:=YY
  have CCw1:=CC
  have RNw1:=RN1
  clear BB GG XX YY CC RN1
  have hm3:m=1∨m=2∨m=3:=by omega
  rcases hm3 with rfl|rfl|rfl
  ·have HG:Hid (gat (fS names) h=⟨gkind h.word,x0,0,0⟩):=by
    show _=_
    unfold gat
    rw[HM.out,HX0.out,HA0.out]
    rfl
   obtain ⟨p0,p1,p2,p3,p4⟩:=cells5G (lay:=Below.refl _ _) XXw1.out
   obtain ⟨g1,g2,g3,g4⟩:=cells w1 _ _ GGw1.out
   obtain ⟨r0,r1,r2,r3⟩:=cells4E YYw1.out
   have f0:=free_at (j:=0) YYw1.out
   have f1:=free_at (j:=1) YYw1.out
   have f2:=free_at (j:=2) YYw1.out
   have f3:=free_at (j:=3) YYw1.out
   have lX:=lt_of_block XXw1.out
   have lY:=lt_of_block YYw1.out
   have lG:=lt_of_block GGw1.out
   clear cells
   go_wp2_with fail
   refine bodyPost_ret (v:=.agg #[.int .i64 (gkind h.word),.int .i64 x0,.int .i64 0,.int .i64 0]) (by simp [results,Tryz.results139,go_sem,r0,r1,r2,r3]) rfl ⟨by rw[HG.out],?_⟩
   exact(B0.out.trans (BBw1.out.mono Zq6)).trans (setBelow4 Zq6)
  ·obtain ⟨a1,ha1⟩:∃ a,h.args[1]?=some a:=⟨_,List.getElem?_eq_getElem (by have:=HM.out;omega)⟩
   have HG1:=hD ha1
   obtain ⟨x1,hx1⟩:∃ x,x=fS names a1:=⟨_,rfl⟩
   have HX1:=hD hx1
   clear ha1 hx1
   have HB1:Hid (arg1 h=a1):=by
    show _=_
    unfold arg1
    rw[List.getD_eq_getElem?_getD,HG1.out]
    rfl
   have HG:Hid (gat (fS names) h=⟨gkind h.word,x0,x1,0⟩):=by
    show _=_
    unfold gat
    rw[HM.out,HX0.out,HA0.out,HB1.out,HX1.out]
    rfl
   obtain ⟨p0,p1,p2,p3,p4⟩:=cells5G (lay:=Below.refl _ _) XXw1.out
   obtain ⟨g1,g2,g3,g4⟩:=cells w1 _ _ GGw1.out
   have f2:=free_at (j:=2) GGw1.out
   have lX:=lt_of_block XXw1.out
   have lG:=lt_of_block GGw1.out
   have cj:w1.cell? ⟨b,off+1,none⟩=some (.string a1):=CCw1.out 1 _ (by unfold strs;rw[List.getElem?_map,HG1.out];rfl)
   go_upto_region 4 with (go_at_call 143;refine(l22At_any An nn cn names a1 w1 RNw1.out HNN.out Zq6).mono ?_;rintro e y ⟨rfl,rfl⟩;rw[←HX1.out])
   refine wp_name (fun w2 hwn=>?_)
   have GGw2:=hD (show w2.heap[g0]?=some (.cells #[.int .i64 (gkind h.word),.int .i64 x0,.int .i64 x1,.int .i64 0] 102 (0,0)) by rw[hwn];exact heap_set_selfG GGw1.out _)
   have bn:Below w0.heap.size w1 w2:=by rw[hwn];exact(Below.refl _ _).setCell hg0 _
   have BBw2:=hD (BBw1.out.trans bn)
   have XXw2:=hD ((BBw2.out.block X Zq6).trans X0.out)
   have YYw2:=hD ((BBw2.out.block (X+1) Zq6).trans Y0.out)
   have CCw2:=hD (fun j u (h:(strs h.args)[j]?=some u)=>(BBw2.out.cell (p:=⟨b,off+j,none⟩) hb0).trans (HC.out j u h))
   have RNw2:=hD (RN.out.below BBw2.out)
   clear hwn bn p0 p1 p2 p3 p4 g1 g2 g3 g4 f2 lX lG cj
   obtain ⟨p0,p1,p2,p3,p4⟩:=cells5G (lay:=Below.refl _ _) XXw2.out
   obtain ⟨g1,g2,g3,g4⟩:=cells w2 _ _ GGw2.out
   obtain ⟨r0,r1,r2,r3⟩:=cells4E YYw2.out
   have f0:=free_at (j:=0) YYw2.out
   have f1:=free_at (j:=1) YYw2.out
   have f2:=free_at (j:=2) YYw2.out
   have f3:=free_at (j:=3) YYw2.out
   have lX:=lt_of_block XXw2.out
   have lY:=lt_of_block YYw2.out
   have lG:=lt_of_block GGw2.out
   clear cells
   go_wp2_with fail
   refine bodyPost_ret (v:=.agg #[.int .i64 (gkind h.word),.int .i64 x0,.int .i64 x1,.int .i64 0]) (by simp [results,Tryz.results139,go_sem,r0,r1,r2,r3]) rfl ⟨by rw[HG.out],?_⟩
   exact(B0.out.trans (BBw2.out.mono Zq6)).trans (setBelow4 Zq6)
  ·obtain ⟨a1,ha1⟩:∃ a,h.args[1]?=some a:=⟨_,List.getElem?_eq_getElem (by have:=HM.out;omega)⟩
   have HG1:=hD ha1
   obtain ⟨x1,hx1⟩:∃ x,x=fS names a1:=⟨_,rfl⟩
   have HX1:=hD hx1
   clear ha1 hx1
   obtain ⟨a2,ha2⟩:∃ a,h.args[2]?=some a:=⟨_,List.getElem?_eq_getElem (by have:=HM.out;omega)⟩
   have HG2:=hD ha2
   obtain ⟨x2,hx2⟩:∃ x,x=fS names a2:=⟨_,rfl⟩
   have HX2:=hD hx2
   clear ha2 hx2
   have HB1:Hid (arg1 h=a1):=by
    show _=_
    unfold arg1
    rw[List.getD_eq_getElem?_getD,HG1.out]
    rfl
   have HB2:Hid (h.args.getD 2 ⟨#[]⟩=a2):=by
    show _=_
    rw[List.getD_eq_getElem?_getD,HG2.out]
    rfl
   have HG:Hid (gat (fS names) h=⟨gkind h.word,x0,x1,x2⟩):=by
    show _=_
    unfold gat
    rw[HM.out,HX0.out,HA0.out,HB1.out,HX1.out,HB2.out,HX2.out]
    rfl
   obtain ⟨p0,p1,p2,p3,p4⟩:=cells5G (lay:=Below.refl _ _) XXw1.out
   obtain ⟨g1,g2,g3,g4⟩:=cells w1 _ _ GGw1.out
   have f2:=free_at (j:=2) GGw1.out
   have lX:=lt_of_block XXw1.out
   have lG:=lt_of_block GGw1.out
   have cj:w1.cell? ⟨b,off+1,none⟩=some (.string a1):=CCw1.out 1 _ (by unfold strs;rw[List.getElem?_map,HG1.out];rfl)
   go_upto_region 4 with (go_at_call 143;refine(l22At_any An nn cn names a1 w1 RNw1.out HNN.out Zq6).mono ?_;rintro e y ⟨rfl,rfl⟩;rw[←HX1.out])
   refine wp_name (fun w2 hwn=>?_)
   have GGw2:=hD (show w2.heap[g0]?=some (.cells #[.int .i64 (gkind h.word),.int .i64 x0,.int .i64 x1,.int .i64 0] 102 (0,0)) by rw[hwn];exact heap_set_selfG GGw1.out _)
   have bn:Below w0.heap.size w1 w2:=by rw[hwn];exact(Below.refl _ _).setCell hg0 _
   have BBw2:=hD (BBw1.out.trans bn)
   have XXw2:=hD ((BBw2.out.block X Zq6).trans X0.out)
   have YYw2:=hD ((BBw2.out.block (X+1) Zq6).trans Y0.out)
   have CCw2:=hD (fun j u (h:(strs h.args)[j]?=some u)=>(BBw2.out.cell (p:=⟨b,off+j,none⟩) hb0).trans (HC.out j u h))
   have RNw2:=hD (RN.out.below BBw2.out)
   clear hwn bn p0 p1 p2 p3 p4 g1 g2 g3 g4 f2 lX lG cj
   obtain ⟨p0,p1,p2,p3,p4⟩:=cells5G (lay:=Below.refl _ _) XXw2.out
   obtain ⟨g1,g2,g3,g4⟩:=cells w2 _ _ GGw2.out
   have f3:=free_at (j:=3) GGw2.out
   have lX:=lt_of_block XXw2.out
   have lG:=lt_of_block GGw2.out
   have cj:w2.cell? ⟨b,off+2,none⟩=some (.string a2):=CCw2.out 2 _ (by unfold strs;rw[List.getElem?_map,HG2.out];rfl)
   go_upto_region 6 with (go_at_call 143;refine(l22At_any An nn cn names a2 w2 RNw2.out HNN.out Zq6).mono ?_;rintro e y ⟨rfl,rfl⟩;rw[←HX2.out])
   refine wp_name (fun w3 hwn=>?_)
   have GGw3:=hD (show w3.heap[g0]?=some (.cells #[.int .i64 (gkind h.word),.int .i64 x0,.int .i64 x1,.int .i64 x2] 102 (0,0)) by rw[hwn];exact heap_set_selfG GGw2.out _)
   have bn:Below w0.heap.size w2 w3:=by rw[hwn];exact(Below.refl _ _).setCell hg0 _
   have BBw3:=hD (BBw2.out.trans bn)
   have XXw3:=hD ((BBw3.out.block X Zq6).trans X0.out)
   have YYw3:=hD ((BBw3.out.block (X+1) Zq6).trans Y0.out)
   have CCw3:=hD (fun j u (h:(strs h.args)[j]?=some u)=>(BBw3.out.cell (p:=⟨b,off+j,none⟩) hb0).trans (HC.out j u h))
   have RNw3:=hD (RN.out.below BBw3.out)
   clear hwn bn p0 p1 p2 p3 p4 g1 g2 g3 g4 f3 lX lG cj
   obtain ⟨p0,p1,p2,p3,p4⟩:=cells5G (lay:=Below.refl _ _) XXw3.out
   obtain ⟨g1,g2,g3,g4⟩:=cells w3 _ _ GGw3.out
   obtain ⟨r0,r1,r2,r3⟩:=cells4E YYw3.out
   have f0:=free_at (j:=0) YYw3.out
   have f1:=free_at (j:=1) YYw3.out
   have f2:=free_at (j:=2) YYw3.out
   have f3:=free_at (j:=3) YYw3.out
   have lX:=lt_of_block XXw3.out
   have lY:=lt_of_block YYw3.out
   have lG:=lt_of_block GGw3.out
   clear cells
   go_wp2_with fail
   refine bodyPost_ret (v:=.agg #[.int .i64 (gkind h.word),.int .i64 x0,.int .i64 x1,.int .i64 x2]) (by simp [results,Tryz.results139,go_sem,r0,r1,r2,r3]) rfl ⟨by rw[HG.out],?_⟩
   exact(B0.out.trans (BBw3.out.mono Zq6)).trans (setBelow4 Zq6)
theorem bytes_nil {s:ByteArray} (h:s.toList=[]):s=⟨#[]⟩:=by
 rw[Lib.toList_data] at h
 cases s with
 | mk a =>
  have:a=#[]:=by simpa using h
  rw[this]
theorem vOne_all {d:Nat} {h:SH} {bd:List (Tr d)} (hv:vOne d (validT d) h bd=true):(1≤h.k∧h.k≤7)∧h.args.length=nargs h.k h.word∧(h.k≠1∨nargs h.k h.word≠0)∧(h.k=1∨h.word=⟨#[]⟩)∧(hasB h.k=true∨bd=[])∧(h.k=2→1≤h.count∧h.count≤9)∧(h.k≠2→h.count=0)∧validT d bd=true:=by
 unfold vOne headV at hv
 simp only[Bool.and_eq_true,decide_eq_true_eq] at hv
 obtain ⟨⟨h1,h2,h3,h4,h5,h6⟩,_,h7⟩:=hv
 unfold okCount at h6
 refine ⟨inB_iff.1 h1,h2,h3,h4.imp id bytes_nil,h5.imp id List.eq_nil_of_length_eq_zero,fun hk=>?_,fun hk=>?_,h7⟩
 ·rw[if_pos hk] at h6
  exact inB_iff.1 h6
 ·rw[if_neg hk] at h6
  simpa using h6
theorem hasB_two {k:Int} (h:hasB k=false):(k==2)=false:=by
 unfold hasB at h
 cases h2:(k==2)
 ·rfl
 ·rw[h2] at h
  exact absurd h Zq11
def tokT:(d:Nat)→List (Tr d)→Nat
 | 0,_=>0
 | d+1,l=>(l.map fun (s:Tr (d+1))=>(if (hdT s).k==2 then 3 else 2)+(hdT s).args.length+(if hasB (hdT s).k then 1+tokT d (bdT s) else 0)).sum
def tokE {d:Nat} (s:Tr (d+1)):Nat:=(if (hdT s).k==2 then 3 else 2)+(hdT s).args.length+(if hasB (hdT s).k then 1+tokT d (bdT s) else 0)
theorem tokT_succ {d:Nat} (l:List (Tr (d+1))):tokT (d+1) l=(l.map tokE).sum:=rfl
theorem tokE_a {d:Nat} {s:Tr (d+1)} (hk:hasB (hdT s).k=false) (hq:((hdT s).k==2)=false):tokE s=2+(hdT s).args.length:=by
 simp only[tokE,hk,hq];simp
theorem tokE_b {d:Nat} {s:Tr (d+1)} (hk:hasB (hdT s).k=true) (hq:((hdT s).k==2)=false):tokE s=2+(hdT s).args.length+(1+tokT d (bdT s)):=by
 simp only[tokE,hk,hq];simp
theorem tokE_c {d:Nat} {s:Tr (d+1)} (hk:hasB (hdT s).k=true) (hq:((hdT s).k==2)=true):tokE s=3+(hdT s).args.length+(1+tokT d (bdT s)):=by
 simp only[tokE,hk,hq];simp
theorem tokT_le:∀ (d:Nat) (l:List (Tr d)),tokT d l≤4*szT d l:=by
 intro d
 induction d with
 | zero=>intro l;exact Nat.zero_le _
 | succ d ih =>
  intro l
  rw[tokT_succ,szT_succ]
  unfold sumE
  induction l with
  | nil=>simp
  | cons s l ih2 =>
   have h1:=ih (bdT s)
   simp only[List.map_cons,List.sum_cons,List.length_cons]
   have h2:tokE s≤4+4*szE s:=by
    unfold tokE szE
    split <;> split <;> omega
   omega
theorem tok_take_le {d:Nat} (l:List (Tr (d+1))) (t:Nat):tokT (d+1) (l.take t)≤4*szT (d+1) l:=by
 refine Nat.le_trans (tokT_le _ _) ?_
 rw[szT_succ,szT_succ]
 have:=sumE_take_le l t
 have:=List.length_take_le' t l
 omega
theorem tok_take {d:Nat} (l:List (Tr (d+1))) (t:Nat) (s:Tr (d+1)) (h:l[t]?=some s):tokT (d+1) (l.take (t+1))=tokT (d+1) (l.take t)+tokE s:=by
 rw[List.take_add_one,h,tokT_succ,tokT_succ]
 simp
def TokSaid_impl (d:Nat):Prop:=∀ (lo:Nat) (A:Option Addr) (n c:Nat) (l:List (Tr d)) (w:World),RdT w lo d A n l→szT d l≤1048576 →
 Calls Tryz.prog 46 #[.slice A n c] w fun e w'=>e=.returned (.int .i64 (tokT d l))∧Below w.heap.size w w'∧w.heap.size≤w'.heap.size
theorem StmtTokenCount_impl:∀ (d:Nat),TokSaid_impl d:=by
 intro d
 induction d with
 | zero =>
  intro lo A n c l w h _
  obtain rfl:=szT_zero_len h
  go_enter Tryz.func46,Tryz.ntmps46
  go_wp2
  refine wp_loop_rounds 1 ?_
  rw[rounds_succ]
  go_wp2
  go_ret
  exact ⟨rfl,Below.refl _ _,Nat.le_refl _⟩
 | succ d ih =>
  intro lo A n c l w h hsz
  have hln:=h.len
  have hn:n≤1048576:=by rw[szT_succ] at hsz;omega
  have HQ:=hD hsz
  have HL:=hD hln
  have H:=hD h
  clear h hln hsz
  go_enter Tryz.func46,Tryz.ntmps46
  go_wp2
  go_loopw [3,8] (fun m i wr=>∃ t:Nat,t≤n∧i=.int .i64 t∧m=.int .i64 (tokT (d+1) (l.take t))∧Below w.heap.size w wr) (fun _ i _=>n - (intOf i).toNat)
  case atStart=>exact ⟨0,Nat.zero_le _,rfl,rfl,Below.refl _ _⟩
  case round =>
   obtain ⟨t,ht,rfl,rfl,hb⟩:=hrel
   have hN:tokT (d+1) (l.take t)≤4194304:=Nat.le_trans (tok_take_le l t) (by have:=HQ.out;omega)
   obtain ⟨N,hNN⟩:∃ N,N=tokT (d+1) (l.take t):=⟨_,rfl⟩
   rw[←hNN] at hN ⊢
   have HN:=hD hNN
   clear hNN
   have hbs:=hb.size
   by_cases hlt:t<n
   ·obtain ⟨b,off,s,Aa,ca,Ab,nb,cb,rfl,hbl,hs,hcs,hra,hrb⟩:=(H.out.below hb).at_ hlt
    obtain ⟨q0,q1,q2,q3,q4⟩:=hcs
    have hme:=szT_mem hs
    have hz2:szT d (bdT s)≤1048576:=by have:=HQ.out;rw[szT_succ] at this;unfold szE at hme;omega
    have hz3:(hdT s).args.length≤1048576:=by have:=HQ.out;rw[szT_succ] at this;unfold szE at hme;omega
    have hnb:=tokT_le d (bdT s)
    have HT:=hD (tok_take l t s hs)
    have HB:=hD (hrb.below (w':=wr.alloc (.cells #[.int .i64 (hdT s).k,.string (hdT s).word,.slice Aa (hdT s).args.length ca,.int .i64 (hdT s).count,.slice Ab nb cb] 66)) Zq0)
    clear hs hra hrb hme
    obtain ⟨M,hM⟩:∃ M,M=tokT d (bdT s):=⟨_,rfl⟩
    rw[←hM] at hnb
    have HM:=hD hM
    clear hM
    cases hk:hasB (hdT s).k
    ·have hq:((hdT s).k==2)=false:=hasB_two hk
     have HT2:Hid (tokT (d+1) (l.take (t+1))=N+(2+(hdT s).args.length)):=by
      have h:=HT.out
      rw[←HN.out,tokE_a hk hq] at h
      exact h
     go_wp2_with (go_at_call 103;refine(hasBody_any _ _).mono ?_;rintro e w' ⟨rfl,rfl⟩)
     go_roundw
     case rel=>exact ⟨t+1,by omega,by go_num,by rw[HT2.out];congr 1;omega,(hb.alloc hb.size _)⟩
     case measure=>simp [intOf];omega
    ·cases hq:((hdT s).k==2)
     ·have HT2:Hid (tokT (d+1) (l.take (t+1))=N+(2+(hdT s).args.length+(1+M))):=by
       have h:=HT.out
       rw[←HN.out,tokE_b hk hq] at h
       rw[HM.out]
       exact h
      go_wp2_with (first|(go_at_call 103;refine(hasBody_any _ _).mono ?_;rintro e w' ⟨rfl,rfl⟩)|(go_at_call 46;refine(ih lo _ _ _ (bdT s) _ HB.out hz2).mono ?_;rintro e w1 ⟨rfl,b1,s1⟩;rw[←HM.out]))
      go_roundw
      case rel=>exact ⟨t+1,by omega,by go_num,by rw[HT2.out];congr 1;omega,(hb.alloc hb.size _).trans (b1.mono Zq9)⟩
      case measure=>simp [intOf];omega
     ·have HT2:Hid (tokT (d+1) (l.take (t+1))=N+(3+(hdT s).args.length+(1+M))):=by
       have h:=HT.out
       rw[←HN.out,tokE_c hk hq] at h
       rw[HM.out]
       exact h
      go_wp2_with (first|(go_at_call 103;refine(hasBody_any _ _).mono ?_;rintro e w' ⟨rfl,rfl⟩)|(go_at_call 46;refine(ih lo _ _ _ (bdT s) _ HB.out hz2).mono ?_;rintro e w1 ⟨rfl,b1,s1⟩;rw[←HM.out]))
      go_roundw
      case rel=>exact ⟨t+1,by omega,by go_num,by rw[HT2.out];congr 1;omega,(hb.alloc hb.size _).trans (b1.mono Zq9)⟩
      case measure=>simp [intOf];omega
   ·obtain rfl:t=n:=by omega
    have HF:Hid (N=tokT (d+1) l):=by
     have h:=HN.out
     rw[List.take_of_length_le (by rw[HL.out];exact Nat.le_refl _)] at h
     exact h
    go_wp2
    go_ret
    exact ⟨by rw[←HF.out];rfl,hb,hb.size⟩
def TokSaid_spec (d:Nat):Prop:=∀ (lo:Nat) (A:Option Addr) (n c:Nat) (l:List (Tr d)) (w:World),RdT w lo d A n l→szT d l≤1048576 →
 Calls Tryz.prog 51 #[.slice A n c] w fun e w'=>e=.returned (.int .i64 (tokT d l))∧Below w.heap.size w w'∧w.heap.size≤w'.heap.size
theorem StmtTokenCount_spec:∀ (d:Nat),TokSaid_spec d:=by
 intro d
 induction d with
 | zero =>
  intro lo A n c l w h _
  obtain rfl:=szT_zero_len h
  go_enter Tryz.func51,Tryz.ntmps51
  go_wp2
  refine wp_loop_rounds 1 ?_
  rw[rounds_succ]
  go_wp2
  go_ret
  exact ⟨rfl,Below.refl _ _,Nat.le_refl _⟩
 | succ d ih =>
  intro lo A n c l w h hsz
  have hln:=h.len
  have hn:n≤1048576:=by rw[szT_succ] at hsz;omega
  have HQ:=hD hsz
  have HL:=hD hln
  have H:=hD h
  clear h hln hsz
  go_enter Tryz.func51,Tryz.ntmps51
  go_wp2
  go_loopw [3,4] (fun m i wr=>∃ t:Nat,t≤n∧i=.int .i64 t∧m=.int .i64 (tokT (d+1) (l.take t))∧Below w.heap.size w wr) (fun _ i _=>n - (intOf i).toNat)
  case atStart=>exact ⟨0,Nat.zero_le _,rfl,rfl,Below.refl _ _⟩
  case round =>
   obtain ⟨t,ht,rfl,rfl,hb⟩:=hrel
   have hN:tokT (d+1) (l.take t)≤4194304:=Nat.le_trans (tok_take_le l t) (by have:=HQ.out;omega)
   obtain ⟨N,hNN⟩:∃ N,N=tokT (d+1) (l.take t):=⟨_,rfl⟩
   rw[←hNN] at hN ⊢
   have HN:=hD hNN
   clear hNN
   have hbs:=hb.size
   by_cases hlt:t<n
   ·obtain ⟨b,off,s,Aa,ca,Ab,nb,cb,rfl,hbl,hs,hcs,hra,hrb⟩:=(H.out.below hb).at_ hlt
    obtain ⟨q0,q1,q2,q3,q4⟩:=hcs
    have hme:=szT_mem hs
    have hz2:szT d (bdT s)≤1048576:=by have:=HQ.out;rw[szT_succ] at this;unfold szE at hme;omega
    have hz3:(hdT s).args.length≤1048576:=by have:=HQ.out;rw[szT_succ] at this;unfold szE at hme;omega
    have hnb:=tokT_le d (bdT s)
    have HT:=hD (tok_take l t s hs)
    have HB:=hD hrb
    clear hs hra hrb hme
    obtain ⟨M,hM⟩:∃ M,M=tokT d (bdT s):=⟨_,rfl⟩
    rw[←hM] at hnb
    have HM:=hD hM
    clear hM
    cases hk:hasB (hdT s).k
    ·have hq:((hdT s).k==2)=false:=hasB_two hk
     have HT2:Hid (tokT (d+1) (l.take (t+1))=N+(2+(hdT s).args.length)):=by
      have h:=HT.out
      rw[←HN.out,tokE_a hk hq] at h
      exact h
     go_wp2_with fail
     refine(l17Args_any _ _ _ _ _ _ ⟨_,_,_,rfl⟩ ⟨_,_,_,rfl⟩).mono ?_
     rintro e w1 ⟨rfl,b1,s1⟩
     rw[hk]
     have r0:=(b1.cell (p:=⟨b,off+t*5,none⟩) hbl).trans q0
     have r2:=(b1.cell (p:=⟨b,off+t*5+2,none⟩) hbl).trans q2
     have r4:=(b1.cell (p:=⟨b,off+t*5+4,none⟩) hbl).trans q4
     clear q0 q1 q2 q3 q4
     go_wp2_with fail
     go_roundw
     case rel=>exact ⟨t+1,by omega,by go_num,by rw[HT2.out];congr 1;omega,(hb.trans (b1.mono hb.size))⟩
     case measure=>simp [intOf];omega
    ·cases hq:((hdT s).k==2)
     ·have HT2:Hid (tokT (d+1) (l.take (t+1))=N+(2+(hdT s).args.length+(1+M))):=by
       have h:=HT.out
       rw[←HN.out,tokE_b hk hq] at h
       rw[HM.out]
       exact h
      go_wp2_with fail
      refine(l17Args_any _ _ _ _ _ _ ⟨_,_,_,rfl⟩ ⟨_,_,_,rfl⟩).mono ?_
      rintro e w1 ⟨rfl,b1,s1⟩
      rw[hk]
      have r0:=(b1.cell (p:=⟨b,off+t*5,none⟩) hbl).trans q0
      have r2:=(b1.cell (p:=⟨b,off+t*5+2,none⟩) hbl).trans q2
      have r4:=(b1.cell (p:=⟨b,off+t*5+4,none⟩) hbl).trans q4
      clear q0 q1 q2 q3 q4
      go_wp2_with fail
      refine(ih lo _ _ _ (bdT s) _ (HB.out.below b1) hz2).mono ?_
      rintro e w2 ⟨rfl,b2,s2⟩
      rw[←HM.out]
      go_wp2_with fail
      go_roundw
      case rel=>exact ⟨t+1,by omega,by go_num,by rw[HT2.out];congr 1;omega,((hb.trans (b1.mono hb.size)).trans (b2.mono Zq6))⟩
      case measure=>simp [intOf];omega
     ·have HT2:Hid (tokT (d+1) (l.take (t+1))=N+(3+(hdT s).args.length+(1+M))):=by
       have h:=HT.out
       rw[←HN.out,tokE_c hk hq] at h
       rw[HM.out]
       exact h
      go_wp2_with fail
      refine(l17Args_any _ _ _ _ _ _ ⟨_,_,_,rfl⟩ ⟨_,_,_,rfl⟩).mono ?_
      rintro e w1 ⟨rfl,b1,s1⟩
      rw[hk]
      have r0:=(b1.cell (p:=⟨b,off+t*5,none⟩) hbl).trans q0
      have r2:=(b1.cell (p:=⟨b,off+t*5+2,none⟩) hbl).trans q2
      have r4:=(b1.cell (p:=⟨b,off+t*5+4,none⟩) hbl).trans q4
      clear q0 q1 q2 q3 q4
      go_wp2_with fail
      refine(ih lo _ _ _ (bdT s) _ (HB.out.below b1) hz2).mono ?_
      rintro e w2 ⟨rfl,b2,s2⟩
      rw[←HM.out]
      go_wp2_with fail
      go_roundw
      case rel=>exact ⟨t+1,by omega,by go_num,by rw[HT2.out];congr 1;omega,((hb.trans (b1.mono hb.size)).trans (b2.mono Zq6))⟩
      case measure=>simp [intOf];omega
   ·obtain rfl:t=n:=by omega
    have HF:Hid (N=tokT (d+1) l):=by
     have h:=HN.out
     rw[List.take_of_length_le (by rw[HL.out];exact Nat.le_refl _)] at h
     exact h
    go_wp2
    go_ret
    exact ⟨by rw[←HF.out];rfl,hb,hb.size⟩
theorem RdT.take {w:World} {lo d n:Nat} {A:Option Addr} {l:List (Tr (d+1))} (h:RdT w lo (d+1) A n l) {t:Nat} (ht:t≤n):RdT w lo (d+1) A t (l.take t):=by
 refine ⟨by rw[List.length_take,h.1];omega,fun h0=>?_⟩
 obtain ⟨b,off,e,h1,hb,hc⟩:=h.2 Zq6
 refine ⟨b,off,e,h1,hb,fun i s hi=>hc i s ?_⟩
 rw[List.getElem?_take] at hi
 split at hi
 ·exact hi
 ·cases hi
theorem RdT.drop {w:World} {lo d n b off:Nat} {l:List (Tr (d+1))} (h:RdT w lo (d+1) (some ⟨b,off,none⟩) n l) {t:Nat} (ht:t≤n):RdT w lo (d+1) (some ⟨b,off+t*5,none⟩) (n - t) (l.drop t):=by
 refine ⟨by rw[List.length_drop,h.1],fun h0=>?_⟩
 obtain ⟨b',off',e,h1,hb,hc⟩:=h.2 Zq6
 injection e with e
 injection e with e1 e2
 subst e1 e2
 refine ⟨b,off+t*5,rfl,h1,hb,fun i s hi=>?_⟩
 rw[List.getElem?_drop] at hi
 obtain ⟨Aa,ca,Ab,nb,cb,h1,h2⟩:=hc _ s hi
 rw[show off+(t+i)*5=off+t*5+i*5 by omega] at h1
 exact ⟨Aa,ca,Ab,nb,cb,h1,h2⟩
theorem RdT.nil {w:World} {lo d:Nat} {A:Option Addr}:RdT w lo (d+1) A 0 []:=⟨rfl,fun h=>absurd h Zq6⟩
theorem nest_from {d:Nat} (l:List (Tr (d+1))):∀ m:Nat,l.foldl (fun (m:Nat) (s:Tr (d+1))=>if hasB (hdT s).k then max m (1+nestT d (bdT s)) else m) m=max m (nestT (d+1) l):=by
 induction l with
 | nil=>intro m;simp [nestT]
 | cons s l ih =>
  intro m
  show l.foldl _ (if hasB (hdT s).k then max m (1+nestT d (bdT s)) else m)=max m (l.foldl _ (if hasB (hdT s).k then max 0 (1+nestT d (bdT s)) else 0))
  rw[ih,ih]
  split <;> omega
theorem nest_cons {d:Nat} (s:Tr (d+1)) (l:List (Tr (d+1))):nestT (d+1) (s :: l)=max (if hasB (hdT s).k then 1+nestT d (bdT s) else 0) (nestT (d+1) l):=by
 show l.foldl _ (if hasB (hdT s).k then max 0 (1+nestT d (bdT s)) else 0)=_
 rw[nest_from]
 split <;> simp
theorem eqRoutine_same (N I B:Int) (A A':Option Addr) (n c c':Nat) (l:List Opt) (w:World) (hl:l.length=n) (hn:n≤1099511627776) (h1:Rd w 8 A n (l.flatMap ocells)) (h2:Rd w 8 A' n (l.flatMap ocells)) :
  Calls Tryz.prog 20 #[.agg #[.int .i64 N,.int .i64 I,.int .i64 B,.slice A n c],.agg #[.int .i64 N,.int .i64 I,.int .i64 B,.slice A' n c']] w fun e w'=>e=.returned (.bool true)∧Below w.heap.size w w'∧w.heap.size≤w'.heap.size:=by
 have b0:Below w.heap.size w ((w.alloc (.cells #[.int .i64 N,.int .i64 I,.int .i64 B,.slice A n c] 40)).alloc (.cells #[.int .i64 N,.int .i64 I,.int .i64 B,.slice A' n c'] 40)):=Zq0
 have H1:=hD (h1.below b0)
 have H2:=hD (h2.below b0)
 have HL:=hD hl
 clear h1 h2 hl b0
 go_enter Tryz.func20,Tryz.ntmps20
 go_wp2_with fail
 refine(eqOpS_same _ _ _ _ _ l _ HL.out hn H1.out H2.out).mono ?_
 rintro e w1 ⟨rfl,b1,s1⟩
 simp at s1
 go_wp2_with fail
 go_ret
 exact ⟨rfl,Zq0,Zq5⟩
def gcount:List Opt→Nat
 | []=>0
 | o :: l=>(if o.k=1 then 1 else 0)+gcount l
theorem gcount_snoc (l:List Opt) (o:Opt):gcount (l++[o])=gcount l+(if o.k=1 then 1 else 0):=by
 induction l with
 | nil=>simp [gcount]
 | cons x l ih=>simp only[List.cons_append,gcount,ih];omega
theorem gcount_le:∀ l:List Opt,gcount l≤l.length
 | []=>by simp [gcount]
 | o :: l=>by have:=gcount_le l;simp only[gcount,List.length_cons];split <;> omega
theorem gcount_take (l:List Opt) (t:Nat) (o:Opt) (h:l[t]?=some o):gcount (l.take (t+1))=gcount (l.take t)+(if o.k=1 then 1 else 0):=by
 rw[List.take_add_one,h]
 exact gcount_snoc _ _
theorem RoutineGateCount_spec (N I B:Int) (A:Option Addr) (n c:Nat) (l:List Opt) (w:World) (h:Rd w 8 A n (l.flatMap ocells)) (hl:l.length=n) (hn:n≤1099511627776) :
  Calls Tryz.prog 62 #[.agg #[.int .i64 N,.int .i64 I,.int .i64 B,.slice A n c]] w fun e w'=>e=.returned (.int .i64 (gcount l))∧Below w.heap.size w w'∧w.heap.size≤w'.heap.size:=by
 have b0:Below w.heap.size w (w.alloc (.cells #[.int .i64 N,.int .i64 I,.int .i64 B,.slice A n c] 40)):=Zq0
 have H:=hD (h.below b0)
 have HL:=hD hl
 clear h hl b0
 go_enter Tryz.func62,Tryz.ntmps62
 go_wp2
 obtain ⟨w0,hw0⟩:∃ w0,w0=w.alloc (.cells #[.int .i64 N,.int .i64 I,.int .i64 B,.slice A n c] 40):=⟨_,rfl⟩
 rw[←hw0] at H ⊢
 have x0:Hid (w0.heap[w.heap.size]?=some (.cells #[.int .i64 N,.int .i64 I,.int .i64 B,.slice A n c] 40 (0,0))):=by rw[hw0];exact boxed1_0 _ _
 have b0:Below w.heap.size w w0:=by rw[hw0];exact Zq0
 have S0:=hD (show w.heap.size+1=w0.heap.size by rw[hw0];simp)
 clear hw0
 go_loopw [3,4] (fun m i wr=>∃ t:Nat,t≤n∧i=.int .i64 t∧m=.int .i64 (gcount (l.take t))∧Below w0.heap.size w0 wr) (fun _ i _=>n - (intOf i).toNat)
 case atStart=>exact ⟨0,Nat.zero_le _,rfl,rfl,Below.refl _ _⟩
 case round =>
  obtain ⟨t,ht,rfl,rfl,hb⟩:=hrel
  have hbs:=hb.size
  have hgc:gcount (l.take t)≤t:=Nat.le_trans (gcount_le _) (List.length_take_le t l)
  obtain ⟨G,hG⟩:∃ G,G=gcount (l.take t):=⟨_,rfl⟩
  rw[←hG] at hgc ⊢
  have HG:=hD hG
  clear hG
  obtain ⟨_,_,_,p3⟩:=boxcells4 (lay:=hb) x0.out
  by_cases hlt:t<n
  ·have htl:t<l.length:=by rw[HL.out];exact hlt
   obtain ⟨o,ho⟩:∃ o,l[t]?=some o:=⟨_,List.getElem?_eq_getElem htl⟩
   obtain ⟨b,off,rfl,hbl,hc⟩:=H.out.2 Zq6
   have q0:wr.cell? ⟨b,off+t*8,none⟩=some (.int .i64 o.k):=(hb.cell (by have:=hbl;simp;omega)).trans (hc (t*8+0) _ (flat_at ocells_len l t o 0 ho Zq8))
   have q1:wr.cell? ⟨b,off+t*8+1,none⟩=some (.int .i64 o.g.k):=(hb.cell (by have:=hbl;simp;omega)).trans (hc (t*8+1) _ (flat_at ocells_len l t o 1 ho Zq8))
   have q2:wr.cell? ⟨b,off+t*8+2,none⟩=some (.int .i64 o.g.a):=(hb.cell (by have:=hbl;simp;omega)).trans (hc (t*8+2) _ (flat_at ocells_len l t o 2 ho Zq8))
   have q3:wr.cell? ⟨b,off+t*8+3,none⟩=some (.int .i64 o.g.b):=(hb.cell (by have:=hbl;simp;omega)).trans (hc (t*8+3) _ (flat_at ocells_len l t o 3 ho Zq8))
   have q4:wr.cell? ⟨b,off+t*8+4,none⟩=some (.int .i64 o.g.c):=(hb.cell (by have:=hbl;simp;omega)).trans (hc (t*8+4) _ (flat_at ocells_len l t o 4 ho Zq8))
   have q5:wr.cell? ⟨b,off+t*8+5,none⟩=some (.int .i64 o.q):=(hb.cell (by have:=hbl;simp;omega)).trans (hc (t*8+5) _ (flat_at ocells_len l t o 5 ho Zq8))
   have q6:wr.cell? ⟨b,off+t*8+6,none⟩=some (.int .i64 o.bit):=(hb.cell (by have:=hbl;simp;omega)).trans (hc (t*8+6) _ (flat_at ocells_len l t o 6 ho Zq8))
   have q7:wr.cell? ⟨b,off+t*8+7,none⟩=some (.int .i64 o.cond):=(hb.cell (by have:=hbl;simp;omega)).trans (hc (t*8+7) _ (flat_at ocells_len l t o 7 ho Zq8))
   have HS:=hD (gcount_take l t o ho)
   clear hc ho htl
   by_cases hk:o.k=1
   ·have hk':(o.k==1)=true:=by simp [hk]
    have HK:=hD hk
    clear hk
    go_wp2
    go_roundw
    case rel=>exact ⟨t+1,by omega,by go_num,by rw[HS.out,if_pos HK.out,←HG.out];go_num,Zq0⟩
    case measure=>simp [intOf];omega
   ·have hk':(o.k==1)=false:=by simp [hk]
    have HK:=hD hk
    clear hk
    go_wp2
    go_roundw
    case rel=>exact ⟨t+1,by omega,by go_num,by rw[HS.out,if_neg HK.out,←HG.out];go_num,Zq0⟩
    case measure=>simp [intOf];omega
  ·obtain rfl:t=n:=by omega
   have HT:Hid (G=gcount l):=by
    have h:=HG.out
    rw[List.take_of_length_le (by rw[HL.out];exact Nat.le_refl _)] at h
    exact h
   go_wp2
   go_ret
   exact ⟨by rw[←HT.out];rfl,b0.trans (hb.mono (by have:=S0.out;omega)),by have:=hb.size;have:=S0.out;omega⟩
theorem RoutineGateCount_impl (N I B:Int) (A:Option Addr) (n c:Nat) (l:List Opt) (w:World) (h:Rd w 8 A n (l.flatMap ocells)) (hl:l.length=n) (hn:n≤1099511627776) :
  Calls Tryz.prog 29 #[.agg #[.int .i64 N,.int .i64 I,.int .i64 B,.slice A n c]] w fun e w'=>e=.returned (.int .i64 (gcount l))∧Below w.heap.size w w'∧w.heap.size≤w'.heap.size:=by
 have b0:Below w.heap.size w (w.alloc (.cells #[.int .i64 N,.int .i64 I,.int .i64 B,.slice A n c] 40)):=Zq0
 have H:=hD (h.below b0)
 have HL:=hD hl
 clear h hl b0
 go_enter Tryz.func29,Tryz.ntmps29
 go_wp2
 obtain ⟨w0,hw0⟩:∃ w0,w0=w.alloc (.cells #[.int .i64 N,.int .i64 I,.int .i64 B,.slice A n c] 40):=⟨_,rfl⟩
 rw[←hw0] at H ⊢
 have x0:Hid (w0.heap[w.heap.size]?=some (.cells #[.int .i64 N,.int .i64 I,.int .i64 B,.slice A n c] 40 (0,0))):=by rw[hw0];exact boxed1_0 _ _
 have b0:Below w.heap.size w w0:=by rw[hw0];exact Zq0
 have S0:=hD (show w.heap.size+1=w0.heap.size by rw[hw0];simp)
 clear hw0
 go_loopw [3,9] (fun m i wr=>∃ t:Nat,t≤n∧i=.int .i64 t∧m=.int .i64 (gcount (l.take t))∧Below w0.heap.size w0 wr) (fun _ i _=>n - (intOf i).toNat)
 case atStart=>exact ⟨0,Nat.zero_le _,rfl,rfl,Below.refl _ _⟩
 case round =>
  obtain ⟨t,ht,rfl,rfl,hb⟩:=hrel
  have hbs:=hb.size
  have hgc:gcount (l.take t)≤t:=Nat.le_trans (gcount_le _) (List.length_take_le t l)
  obtain ⟨G,hG⟩:∃ G,G=gcount (l.take t):=⟨_,rfl⟩
  rw[←hG] at hgc ⊢
  have HG:=hD hG
  clear hG
  obtain ⟨_,_,_,p3⟩:=boxcells4 (lay:=hb) x0.out
  by_cases hlt:t<n
  ·have htl:t<l.length:=by rw[HL.out];exact hlt
   obtain ⟨o,ho⟩:∃ o,l[t]?=some o:=⟨_,List.getElem?_eq_getElem htl⟩
   obtain ⟨b,off,rfl,hbl,hc⟩:=H.out.2 Zq6
   have q0:wr.cell? ⟨b,off+t*8,none⟩=some (.int .i64 o.k):=(hb.cell (by have:=hbl;simp;omega)).trans (hc (t*8+0) _ (flat_at ocells_len l t o 0 ho Zq8))
   have q1:wr.cell? ⟨b,off+t*8+1,none⟩=some (.int .i64 o.g.k):=(hb.cell (by have:=hbl;simp;omega)).trans (hc (t*8+1) _ (flat_at ocells_len l t o 1 ho Zq8))
   have q2:wr.cell? ⟨b,off+t*8+2,none⟩=some (.int .i64 o.g.a):=(hb.cell (by have:=hbl;simp;omega)).trans (hc (t*8+2) _ (flat_at ocells_len l t o 2 ho Zq8))
   have q3:wr.cell? ⟨b,off+t*8+3,none⟩=some (.int .i64 o.g.b):=(hb.cell (by have:=hbl;simp;omega)).trans (hc (t*8+3) _ (flat_at ocells_len l t o 3 ho Zq8))
   have q4:wr.cell? ⟨b,off+t*8+4,none⟩=some (.int .i64 o.g.c):=(hb.cell (by have:=hbl;simp;omega)).trans (hc (t*8+4) _ (flat_at ocells_len l t o 4 ho Zq8))
   have q5:wr.cell? ⟨b,off+t*8+5,none⟩=some (.int .i64 o.q):=(hb.cell (by have:=hbl;simp;omega)).trans (hc (t*8+5) _ (flat_at ocells_len l t o 5 ho Zq8))
   have q6:wr.cell? ⟨b,off+t*8+6,none⟩=some (.int .i64 o.bit):=(hb.cell (by have:=hbl;simp;omega)).trans (hc (t*8+6) _ (flat_at ocells_len l t o 6 ho Zq8))
   have q7:wr.cell? ⟨b,off+t*8+7,none⟩=some (.int .i64 o.cond):=(hb.cell (by have:=hbl;simp;omega)).trans (hc (t*8+7) _ (flat_at ocells_len l t o 7 ho Zq8))
   have HS:=hD (gcount_take l t o ho)
   clear hc ho htl
   by_cases hk:o.k=1
   ·have hk':(o.k==1)=true:=by simp [hk]
    have HK:=hD hk
    clear hk
    go_wp2
    go_roundw
    case rel=>exact ⟨t+1,by omega,by go_num,by rw[HS.out,if_pos HK.out,←HG.out];go_num,Zq0⟩
    case measure=>simp [intOf];omega
   ·have hk':(o.k==1)=false:=by simp [hk]
    have HK:=hD hk
    clear hk
    go_wp2
    go_roundw
    case rel=>exact ⟨t+1,by omega,by go_num,by rw[HS.out,if_neg HK.out,←HG.out];go_num,Zq0⟩
    case measure=>simp [intOf];omega
  ·obtain rfl:t=n:=by omega
   have HT:Hid (G=gcount l):=by
    have h:=HG.out
    rw[List.take_of_length_le (by rw[HL.out];exact Nat.le_refl _)] at h
    exact h
   go_wp2
   go_ret
   exact ⟨by rw[←HT.out];rfl,b0.trans (hb.mono (by have:=S0.out;omega)),by have:=hb.size;have:=S0.out;omega⟩
end Go.Proofs.YthkbckkghnbonaaGreatDoor
