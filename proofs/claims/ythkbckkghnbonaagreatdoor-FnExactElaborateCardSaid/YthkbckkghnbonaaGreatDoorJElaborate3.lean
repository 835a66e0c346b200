/- What the calls that this law reaches answer, part 3 of 16. -/
import Derived.Test.YthkbckkghnbonaaGreatDoorJElaborate2
import Derived.Test.YthkbckkghnbonaaGreatDoorJElaborate1
set_option maxRecDepth 100000
set_option maxHeartbeats 16000000
set_option linter.unusedVariables false
namespace Go.Proofs.YthkbckkghnbonaaGreatDoor
open Go.RowKit

structure Opt where
 k:Int
 g:Gt
 q:Int
 bit:Int
 cond:Int
def ocells (o:Opt):List Value:=[.int .i64 o.k,.int .i64 o.g.k,.int .i64 o.g.a,.int .i64 o.g.b,.int .i64 o.g.c,.int .i64 o.q,.int .i64 o.bit,.int .i64 o.cond]
def zeroG (g:Gt):Bool:=g.k==0&&(g.a==0&&(g.b==0&&g.c==0))
def validOp (o:Opt) (n bits:Int):Bool :=
 inB n 1 4&&(inB bits 0 3 &&
  (if o.k=1 then o.q==0&&(o.bit==0&&(validG o.g n&&inB o.cond 0 bits))
   else if o.k=2 then zeroG o.g&&(o.cond==0&&(inB o.q 0 (n - 1)&&inB o.bit 0 (bits - 1)))
   else if o.k=3 then zeroG o.g&&(o.bit==0&&(o.cond==0&&inB o.q 0 (n - 1)))
   else false))
theorem IsValidOp_impl (k gk ga gb gc q bit cond n bits:Int) (w:World):Calls Tryz.prog 79 #[.agg #[.int .i64 k,.int .i64 gk,.int .i64 ga,.int .i64 gb,.int .i64 gc,.int .i64 q,.int .i64 bit,.int .i64 cond],.int .i64 n,.int .i64 bits] w fun e w' =>
  e=.returned (.bool (validOp ⟨k,⟨gk,ga,gb,gc⟩,q,bit,cond⟩ n bits))∧Below w.heap.size w w'∧w.heap.size≤w'.heap.size:=by
 cases hn:inB n 1 4
 ·rw[show validOp ⟨k,⟨gk,ga,gb,gc⟩,q,bit,cond⟩ n bits=false by simp [validOp,hn]]
  go_enter Tryz.func79,Tryz.ntmps79
  go_wp2_with (first|(go_at_call 44;refine(in_any _ _ _ _).mono ?_;rintro e w' ⟨rfl,rfl⟩)|(go_at_call 126;refine(IsValidGate_impl _ _ _ _ _ _).mono ?_;rintro e w' ⟨rfl,hb,hs⟩;simp at hs;obtain ⟨p0,p1,p2,p3,p4,p5,p6,p7⟩:=boxcells8 (lay:=hb) (boxed1_0 _ _)))
  go_ret
  exact ⟨rfl,Zq0,Zq5⟩
 have hnn:=inB_iff.1 hn
 cases hbt:inB bits 0 3
 ·rw[show validOp ⟨k,⟨gk,ga,gb,gc⟩,q,bit,cond⟩ n bits=false by simp [validOp,hn,hbt]]
  go_enter Tryz.func79,Tryz.ntmps79
  go_wp2_with (first|(go_at_call 44;refine(in_any _ _ _ _).mono ?_;rintro e w' ⟨rfl,rfl⟩)|(go_at_call 126;refine(IsValidGate_impl _ _ _ _ _ _).mono ?_;rintro e w' ⟨rfl,hb,hs⟩;simp at hs;obtain ⟨p0,p1,p2,p3,p4,p5,p6,p7⟩:=boxcells8 (lay:=hb) (boxed1_0 _ _)))
  go_ret
  exact ⟨rfl,Zq0,Zq5⟩
 have hbb:=inB_iff.1 hbt
 by_cases h1:k=1
 ·subst h1
  by_cases hq:q=0
  ·subst hq
   by_cases hb:bit=0
   ·subst hb
    cases hv:validG ⟨gk,ga,gb,gc⟩ n
    ·rw[show validOp ⟨1,⟨gk,ga,gb,gc⟩,0,0,cond⟩ n bits=false by simp [validOp,hv]]
     go_enter Tryz.func79,Tryz.ntmps79
     go_wp2_with (first|(go_at_call 44;refine(in_any _ _ _ _).mono ?_;rintro e w' ⟨rfl,rfl⟩)|(go_at_call 126;refine(IsValidGate_impl _ _ _ _ _ _).mono ?_;rintro e w' ⟨rfl,hb,hs⟩;simp at hs;obtain ⟨p0,p1,p2,p3,p4,p5,p6,p7⟩:=boxcells8 (lay:=hb) (boxed1_0 _ _)))
     go_ret
     exact ⟨rfl,Zq0,Zq5⟩
    ·cases hc:inB cond 0 bits
     ·rw[show validOp ⟨1,⟨gk,ga,gb,gc⟩,0,0,cond⟩ n bits=false by simp [validOp,hc]]
      go_enter Tryz.func79,Tryz.ntmps79
      go_wp2_with (first|(go_at_call 44;refine(in_any _ _ _ _).mono ?_;rintro e w' ⟨rfl,rfl⟩)|(go_at_call 126;refine(IsValidGate_impl _ _ _ _ _ _).mono ?_;rintro e w' ⟨rfl,hb,hs⟩;simp at hs;obtain ⟨p0,p1,p2,p3,p4,p5,p6,p7⟩:=boxcells8 (lay:=hb) (boxed1_0 _ _)))
      go_ret
      exact ⟨rfl,Zq0,Zq5⟩
     ·rw[show validOp ⟨1,⟨gk,ga,gb,gc⟩,0,0,cond⟩ n bits=true by simp [validOp,hn,hbt,hv,hc]]
      go_enter Tryz.func79,Tryz.ntmps79
      go_wp2_with (first|(go_at_call 44;refine(in_any _ _ _ _).mono ?_;rintro e w' ⟨rfl,rfl⟩)|(go_at_call 126;refine(IsValidGate_impl _ _ _ _ _ _).mono ?_;rintro e w' ⟨rfl,hb,hs⟩;simp at hs;obtain ⟨p0,p1,p2,p3,p4,p5,p6,p7⟩:=boxcells8 (lay:=hb) (boxed1_0 _ _)))
      go_ret
      exact ⟨rfl,Zq0,Zq5⟩
   ·rw[show validOp ⟨1,⟨gk,ga,gb,gc⟩,0,bit,cond⟩ n bits=false by simp [validOp,hb]]
    go_enter Tryz.func79,Tryz.ntmps79
    go_wp2_with (first|(go_at_call 44;refine(in_any _ _ _ _).mono ?_;rintro e w' ⟨rfl,rfl⟩)|(go_at_call 126;refine(IsValidGate_impl _ _ _ _ _ _).mono ?_;rintro e w' ⟨rfl,hb,hs⟩;simp at hs;obtain ⟨p0,p1,p2,p3,p4,p5,p6,p7⟩:=boxcells8 (lay:=hb) (boxed1_0 _ _)))
    go_ret
    exact ⟨rfl,Zq0,Zq5⟩
  ·rw[show validOp ⟨1,⟨gk,ga,gb,gc⟩,q,bit,cond⟩ n bits=false by simp [validOp,hq]]
   go_enter Tryz.func79,Tryz.ntmps79
   go_wp2_with (first|(go_at_call 44;refine(in_any _ _ _ _).mono ?_;rintro e w' ⟨rfl,rfl⟩)|(go_at_call 126;refine(IsValidGate_impl _ _ _ _ _ _).mono ?_;rintro e w' ⟨rfl,hb,hs⟩;simp at hs;obtain ⟨p0,p1,p2,p3,p4,p5,p6,p7⟩:=boxcells8 (lay:=hb) (boxed1_0 _ _)))
   go_ret
   exact ⟨rfl,Zq0,Zq5⟩
 have h1':(k==1)=false:=beq_eq_false_iff_ne.2 h1
 by_cases h2:k=2
 ·subst h2
  have hz:((((gk≠0∨gk=0∧ga≠0)∨gk=0∧ga=0∧gb≠0)∨gk=0∧ga=0∧gb=0∧gc≠0)∨gk=0∧ga=0∧gb=0∧gc=0∧cond≠0)∨gk=0∧ga=0∧gb=0∧gc=0∧cond=0:=by omega
  rcases hz with ((((h|⟨rfl,h⟩)|⟨rfl,rfl,h⟩)|⟨rfl,rfl,rfl,h⟩)|⟨rfl,rfl,rfl,rfl,h⟩)|⟨rfl,rfl,rfl,rfl,rfl⟩
  ·rw[show validOp ⟨2,⟨gk,ga,gb,gc⟩,q,bit,cond⟩ n bits=false by simp [validOp,zeroG,h]]
   go_enter Tryz.func79,Tryz.ntmps79
   go_wp2_with (first|(go_at_call 44;refine(in_any _ _ _ _).mono ?_;rintro e w' ⟨rfl,rfl⟩)|(go_at_call 126;refine(IsValidGate_impl _ _ _ _ _ _).mono ?_;rintro e w' ⟨rfl,hb,hs⟩;simp at hs;obtain ⟨p0,p1,p2,p3,p4,p5,p6,p7⟩:=boxcells8 (lay:=hb) (boxed1_0 _ _)))
   go_ret
   exact ⟨rfl,Zq0,Zq5⟩
  ·rw[show validOp ⟨2,⟨0,ga,gb,gc⟩,q,bit,cond⟩ n bits=false by simp [validOp,zeroG,h]]
   go_enter Tryz.func79,Tryz.ntmps79
   go_wp2_with (first|(go_at_call 44;refine(in_any _ _ _ _).mono ?_;rintro e w' ⟨rfl,rfl⟩)|(go_at_call 126;refine(IsValidGate_impl _ _ _ _ _ _).mono ?_;rintro e w' ⟨rfl,hb,hs⟩;simp at hs;obtain ⟨p0,p1,p2,p3,p4,p5,p6,p7⟩:=boxcells8 (lay:=hb) (boxed1_0 _ _)))
   go_ret
   exact ⟨rfl,Zq0,Zq5⟩
  ·rw[show validOp ⟨2,⟨0,0,gb,gc⟩,q,bit,cond⟩ n bits=false by simp [validOp,zeroG,h]]
   go_enter Tryz.func79,Tryz.ntmps79
   go_wp2_with (first|(go_at_call 44;refine(in_any _ _ _ _).mono ?_;rintro e w' ⟨rfl,rfl⟩)|(go_at_call 126;refine(IsValidGate_impl _ _ _ _ _ _).mono ?_;rintro e w' ⟨rfl,hb,hs⟩;simp at hs;obtain ⟨p0,p1,p2,p3,p4,p5,p6,p7⟩:=boxcells8 (lay:=hb) (boxed1_0 _ _)))
   go_ret
   exact ⟨rfl,Zq0,Zq5⟩
  ·rw[show validOp ⟨2,⟨0,0,0,gc⟩,q,bit,cond⟩ n bits=false by simp [validOp,zeroG,h]]
   go_enter Tryz.func79,Tryz.ntmps79
   go_wp2_with (first|(go_at_call 44;refine(in_any _ _ _ _).mono ?_;rintro e w' ⟨rfl,rfl⟩)|(go_at_call 126;refine(IsValidGate_impl _ _ _ _ _ _).mono ?_;rintro e w' ⟨rfl,hb,hs⟩;simp at hs;obtain ⟨p0,p1,p2,p3,p4,p5,p6,p7⟩:=boxcells8 (lay:=hb) (boxed1_0 _ _)))
   go_ret
   exact ⟨rfl,Zq0,Zq5⟩
  ·rw[show validOp ⟨2,⟨0,0,0,0⟩,q,bit,cond⟩ n bits=false by simp [validOp,zeroG,h]]
   go_enter Tryz.func79,Tryz.ntmps79
   go_wp2_with (first|(go_at_call 44;refine(in_any _ _ _ _).mono ?_;rintro e w' ⟨rfl,rfl⟩)|(go_at_call 126;refine(IsValidGate_impl _ _ _ _ _ _).mono ?_;rintro e w' ⟨rfl,hb,hs⟩;simp at hs;obtain ⟨p0,p1,p2,p3,p4,p5,p6,p7⟩:=boxcells8 (lay:=hb) (boxed1_0 _ _)))
   go_ret
   exact ⟨rfl,Zq0,Zq5⟩
  ·cases hq:inB q 0 (n - 1)
   ·rw[show validOp ⟨2,⟨0,0,0,0⟩,q,bit,0⟩ n bits=false by simp [validOp,zeroG,hq]]
    go_enter Tryz.func79,Tryz.ntmps79
    go_wp2_with (first|(go_at_call 44;refine(in_any _ _ _ _).mono ?_;rintro e w' ⟨rfl,rfl⟩)|(go_at_call 126;refine(IsValidGate_impl _ _ _ _ _ _).mono ?_;rintro e w' ⟨rfl,hb,hs⟩;simp at hs;obtain ⟨p0,p1,p2,p3,p4,p5,p6,p7⟩:=boxcells8 (lay:=hb) (boxed1_0 _ _)))
    go_ret
    exact ⟨rfl,Zq0,Zq5⟩
   ·cases hc:inB bit 0 (bits - 1)
    ·rw[show validOp ⟨2,⟨0,0,0,0⟩,q,bit,0⟩ n bits=false by simp [validOp,zeroG,hc]]
     go_enter Tryz.func79,Tryz.ntmps79
     go_wp2_with (first|(go_at_call 44;refine(in_any _ _ _ _).mono ?_;rintro e w' ⟨rfl,rfl⟩)|(go_at_call 126;refine(IsValidGate_impl _ _ _ _ _ _).mono ?_;rintro e w' ⟨rfl,hb,hs⟩;simp at hs;obtain ⟨p0,p1,p2,p3,p4,p5,p6,p7⟩:=boxcells8 (lay:=hb) (boxed1_0 _ _)))
     go_ret
     exact ⟨rfl,Zq0,Zq5⟩
    ·rw[show validOp ⟨2,⟨0,0,0,0⟩,q,bit,0⟩ n bits=true by simp [validOp,zeroG,hn,hbt,hq,hc]]
     go_enter Tryz.func79,Tryz.ntmps79
     go_wp2_with (first|(go_at_call 44;refine(in_any _ _ _ _).mono ?_;rintro e w' ⟨rfl,rfl⟩)|(go_at_call 126;refine(IsValidGate_impl _ _ _ _ _ _).mono ?_;rintro e w' ⟨rfl,hb,hs⟩;simp at hs;obtain ⟨p0,p1,p2,p3,p4,p5,p6,p7⟩:=boxcells8 (lay:=hb) (boxed1_0 _ _)))
     go_ret
     exact ⟨rfl,Zq0,Zq5⟩
 have h2':(k==2)=false:=beq_eq_false_iff_ne.2 h2
 by_cases h3:k=3
 ·subst h3
  have hz:(((((gk≠0∨gk=0∧ga≠0)∨gk=0∧ga=0∧gb≠0)∨gk=0∧ga=0∧gb=0∧gc≠0)∨gk=0∧ga=0∧gb=0∧gc=0∧bit≠0)∨gk=0∧ga=0∧gb=0∧gc=0∧bit=0∧cond≠0)∨gk=0∧ga=0∧gb=0∧gc=0∧bit=0∧cond=0:=by omega
  rcases hz with (((((h|⟨rfl,h⟩)|⟨rfl,rfl,h⟩)|⟨rfl,rfl,rfl,h⟩)|⟨rfl,rfl,rfl,rfl,h⟩)|⟨rfl,rfl,rfl,rfl,rfl,h⟩)|⟨rfl,rfl,rfl,rfl,rfl,rfl⟩
  ·rw[show validOp ⟨3,⟨gk,ga,gb,gc⟩,q,bit,cond⟩ n bits=false by simp [validOp,zeroG,h]]
   go_enter Tryz.func79,Tryz.ntmps79
   go_wp2_with (first|(go_at_call 44;refine(in_any _ _ _ _).mono ?_;rintro e w' ⟨rfl,rfl⟩)|(go_at_call 126;refine(IsValidGate_impl _ _ _ _ _ _).mono ?_;rintro e w' ⟨rfl,hb,hs⟩;simp at hs;obtain ⟨p0,p1,p2,p3,p4,p5,p6,p7⟩:=boxcells8 (lay:=hb) (boxed1_0 _ _)))
   go_ret
   exact ⟨rfl,Zq0,Zq5⟩
  ·rw[show validOp ⟨3,⟨0,ga,gb,gc⟩,q,bit,cond⟩ n bits=false by simp [validOp,zeroG,h]]
   go_enter Tryz.func79,Tryz.ntmps79
   go_wp2_with (first|(go_at_call 44;refine(in_any _ _ _ _).mono ?_;rintro e w' ⟨rfl,rfl⟩)|(go_at_call 126;refine(IsValidGate_impl _ _ _ _ _ _).mono ?_;rintro e w' ⟨rfl,hb,hs⟩;simp at hs;obtain ⟨p0,p1,p2,p3,p4,p5,p6,p7⟩:=boxcells8 (lay:=hb) (boxed1_0 _ _)))
   go_ret
   exact ⟨rfl,Zq0,Zq5⟩
  ·rw[show validOp ⟨3,⟨0,0,gb,gc⟩,q,bit,cond⟩ n bits=false by simp [validOp,zeroG,h]]
   go_enter Tryz.func79,Tryz.ntmps79
   go_wp2_with (first|(go_at_call 44;refine(in_any _ _ _ _).mono ?_;rintro e w' ⟨rfl,rfl⟩)|(go_at_call 126;refine(IsValidGate_impl _ _ _ _ _ _).mono ?_;rintro e w' ⟨rfl,hb,hs⟩;simp at hs;obtain ⟨p0,p1,p2,p3,p4,p5,p6,p7⟩:=boxcells8 (lay:=hb) (boxed1_0 _ _)))
   go_ret
   exact ⟨rfl,Zq0,Zq5⟩
  ·rw[show validOp ⟨3,⟨0,0,0,gc⟩,q,bit,cond⟩ n bits=false by simp [validOp,zeroG,h]]
   go_enter Tryz.func79,Tryz.ntmps79
   go_wp2_with (first|(go_at_call 44;refine(in_any _ _ _ _).mono ?_;rintro e w' ⟨rfl,rfl⟩)|(go_at_call 126;refine(IsValidGate_impl _ _ _ _ _ _).mono ?_;rintro e w' ⟨rfl,hb,hs⟩;simp at hs;obtain ⟨p0,p1,p2,p3,p4,p5,p6,p7⟩:=boxcells8 (lay:=hb) (boxed1_0 _ _)))
   go_ret
   exact ⟨rfl,Zq0,Zq5⟩
  ·rw[show validOp ⟨3,⟨0,0,0,0⟩,q,bit,cond⟩ n bits=false by simp [validOp,zeroG,h]]
   go_enter Tryz.func79,Tryz.ntmps79
   go_wp2_with (first|(go_at_call 44;refine(in_any _ _ _ _).mono ?_;rintro e w' ⟨rfl,rfl⟩)|(go_at_call 126;refine(IsValidGate_impl _ _ _ _ _ _).mono ?_;rintro e w' ⟨rfl,hb,hs⟩;simp at hs;obtain ⟨p0,p1,p2,p3,p4,p5,p6,p7⟩:=boxcells8 (lay:=hb) (boxed1_0 _ _)))
   go_ret
   exact ⟨rfl,Zq0,Zq5⟩
  ·rw[show validOp ⟨3,⟨0,0,0,0⟩,q,0,cond⟩ n bits=false by simp [validOp,zeroG,h]]
   go_enter Tryz.func79,Tryz.ntmps79
   go_wp2_with (first|(go_at_call 44;refine(in_any _ _ _ _).mono ?_;rintro e w' ⟨rfl,rfl⟩)|(go_at_call 126;refine(IsValidGate_impl _ _ _ _ _ _).mono ?_;rintro e w' ⟨rfl,hb,hs⟩;simp at hs;obtain ⟨p0,p1,p2,p3,p4,p5,p6,p7⟩:=boxcells8 (lay:=hb) (boxed1_0 _ _)))
   go_ret
   exact ⟨rfl,Zq0,Zq5⟩
  ·cases hq:inB q 0 (n - 1)
   ·rw[show validOp ⟨3,⟨0,0,0,0⟩,q,0,0⟩ n bits=false by simp [validOp,zeroG,hq]]
    go_enter Tryz.func79,Tryz.ntmps79
    go_wp2_with (first|(go_at_call 44;refine(in_any _ _ _ _).mono ?_;rintro e w' ⟨rfl,rfl⟩)|(go_at_call 126;refine(IsValidGate_impl _ _ _ _ _ _).mono ?_;rintro e w' ⟨rfl,hb,hs⟩;simp at hs;obtain ⟨p0,p1,p2,p3,p4,p5,p6,p7⟩:=boxcells8 (lay:=hb) (boxed1_0 _ _)))
    go_ret
    exact ⟨rfl,Zq0,Zq5⟩
   ·rw[show validOp ⟨3,⟨0,0,0,0⟩,q,0,0⟩ n bits=true by simp [validOp,zeroG,hn,hbt,hq]]
    go_enter Tryz.func79,Tryz.ntmps79
    go_wp2_with (first|(go_at_call 44;refine(in_any _ _ _ _).mono ?_;rintro e w' ⟨rfl,rfl⟩)|(go_at_call 126;refine(IsValidGate_impl _ _ _ _ _ _).mono ?_;rintro e w' ⟨rfl,hb,hs⟩;simp at hs;obtain ⟨p0,p1,p2,p3,p4,p5,p6,p7⟩:=boxcells8 (lay:=hb) (boxed1_0 _ _)))
    go_ret
    exact ⟨rfl,Zq0,Zq5⟩
 have h3':(k==3)=false:=beq_eq_false_iff_ne.2 h3
 rw[show validOp ⟨k,⟨gk,ga,gb,gc⟩,q,bit,cond⟩ n bits=false by simp [validOp,h1,h2,h3]]
 clear h1 h2 h3
 go_enter Tryz.func79,Tryz.ntmps79
 go_wp2_with (first|(go_at_call 44;refine(in_any _ _ _ _).mono ?_;rintro e w' ⟨rfl,rfl⟩)|(go_at_call 126;refine(IsValidGate_impl _ _ _ _ _ _).mono ?_;rintro e w' ⟨rfl,hb,hs⟩;simp at hs;obtain ⟨p0,p1,p2,p3,p4,p5,p6,p7⟩:=boxcells8 (lay:=hb) (boxed1_0 _ _)))
 go_ret
 exact ⟨rfl,Zq0,Zq5⟩
theorem IsValidOp_spec (k gk ga gb gc q bit cond n bits:Int) (w:World):Calls Tryz.prog 116 #[.agg #[.int .i64 k,.int .i64 gk,.int .i64 ga,.int .i64 gb,.int .i64 gc,.int .i64 q,.int .i64 bit,.int .i64 cond],.int .i64 n,.int .i64 bits] w fun e w' =>
  e=.returned (.bool (validOp ⟨k,⟨gk,ga,gb,gc⟩,q,bit,cond⟩ n bits))∧Below w.heap.size w w'∧w.heap.size≤w'.heap.size:=by
 cases hn:inB n 1 4
 ·rw[show validOp ⟨k,⟨gk,ga,gb,gc⟩,q,bit,cond⟩ n bits=false by simp [validOp,hn]]
  go_enter Tryz.func116,Tryz.ntmps116
  go_wp2_with (first|(go_at_call 47;refine(l1In_any _ _ _ _).mono ?_;rintro e w' ⟨rfl,rfl⟩)|(go_at_call 147;refine(IsValidGate_spec _ _ _ _ _ _).mono ?_;rintro e w' ⟨rfl,hb,hs⟩;simp at hs;obtain ⟨p0,p1,p2,p3,p4,p5,p6,p7⟩:=boxcells8 (lay:=hb) (boxed1_0 _ _)))
  go_ret
  exact ⟨rfl,Zq0,Zq5⟩
 have hnn:=inB_iff.1 hn
 cases hbt:inB bits 0 3
 ·rw[show validOp ⟨k,⟨gk,ga,gb,gc⟩,q,bit,cond⟩ n bits=false by simp [validOp,hn,hbt]]
  go_enter Tryz.func116,Tryz.ntmps116
  go_wp2_with (first|(go_at_call 47;refine(l1In_any _ _ _ _).mono ?_;rintro e w' ⟨rfl,rfl⟩)|(go_at_call 147;refine(IsValidGate_spec _ _ _ _ _ _).mono ?_;rintro e w' ⟨rfl,hb,hs⟩;simp at hs;obtain ⟨p0,p1,p2,p3,p4,p5,p6,p7⟩:=boxcells8 (lay:=hb) (boxed1_0 _ _)))
  go_ret
  exact ⟨rfl,Zq0,Zq5⟩
 have hbb:=inB_iff.1 hbt
 by_cases h1:k=1
 ·subst h1
  by_cases hq:q=0
  ·subst hq
   by_cases hb:bit=0
   ·subst hb
    cases hv:validG ⟨gk,ga,gb,gc⟩ n
    ·rw[show validOp ⟨1,⟨gk,ga,gb,gc⟩,0,0,cond⟩ n bits=false by simp [validOp,hv]]
     go_enter Tryz.func116,Tryz.ntmps116
     go_wp2_with (first|(go_at_call 47;refine(l1In_any _ _ _ _).mono ?_;rintro e w' ⟨rfl,rfl⟩)|(go_at_call 147;refine(IsValidGate_spec _ _ _ _ _ _).mono ?_;rintro e w' ⟨rfl,hb,hs⟩;simp at hs;obtain ⟨p0,p1,p2,p3,p4,p5,p6,p7⟩:=boxcells8 (lay:=hb) (boxed1_0 _ _)))
     go_ret
     exact ⟨rfl,Zq0,Zq5⟩
    ·cases hc:inB cond 0 bits
     ·rw[show validOp ⟨1,⟨gk,ga,gb,gc⟩,0,0,cond⟩ n bits=false by simp [validOp,hc]]
      go_enter Tryz.func116,Tryz.ntmps116
      go_wp2_with (first|(go_at_call 47;refine(l1In_any _ _ _ _).mono ?_;rintro e w' ⟨rfl,rfl⟩)|(go_at_call 147;refine(IsValidGate_spec _ _ _ _ _ _).mono ?_;rintro e w' ⟨rfl,hb,hs⟩;simp at hs;obtain ⟨p0,p1,p2,p3,p4,p5,p6,p7⟩:=boxcells8 (lay:=hb) (boxed1_0 _ _)))
      go_ret
      exact ⟨rfl,Zq0,Zq5⟩
     ·rw[show validOp ⟨1,⟨gk,ga,gb,gc⟩,0,0,cond⟩ n bits=true by simp [validOp,hn,hbt,hv,hc]]
      go_enter Tryz.func116,Tryz.ntmps116
      go_wp2_with (first|(go_at_call 47;refine(l1In_any _ _ _ _).mono ?_;rintro e w' ⟨rfl,rfl⟩)|(go_at_call 147;refine(IsValidGate_spec _ _ _ _ _ _).mono ?_;rintro e w' ⟨rfl,hb,hs⟩;simp at hs;obtain ⟨p0,p1,p2,p3,p4,p5,p6,p7⟩:=boxcells8 (lay:=hb) (boxed1_0 _ _)))
      go_ret
      exact ⟨rfl,Zq0,Zq5⟩
   ·rw[show validOp ⟨1,⟨gk,ga,gb,gc⟩,0,bit,cond⟩ n bits=false by simp [validOp,hb]]
    go_enter Tryz.func116,Tryz.ntmps116
    go_wp2_with (first|(go_at_call 47;refine(l1In_any _ _ _ _).mono ?_;rintro e w' ⟨rfl,rfl⟩)|(go_at_call 147;refine(IsValidGate_spec _ _ _ _ _ _).mono ?_;rintro e w' ⟨rfl,hb,hs⟩;simp at hs;obtain ⟨p0,p1,p2,p3,p4,p5,p6,p7⟩:=boxcells8 (lay:=hb) (boxed1_0 _ _)))
    go_ret
    exact ⟨rfl,Zq0,Zq5⟩
  ·rw[show validOp ⟨1,⟨gk,ga,gb,gc⟩,q,bit,cond⟩ n bits=false by simp [validOp,hq]]
   go_enter Tryz.func116,Tryz.ntmps116
   go_wp2_with (first|(go_at_call 47;refine(l1In_any _ _ _ _).mono ?_;rintro e w' ⟨rfl,rfl⟩)|(go_at_call 147;refine(IsValidGate_spec _ _ _ _ _ _).mono ?_;rintro e w' ⟨rfl,hb,hs⟩;simp at hs;obtain ⟨p0,p1,p2,p3,p4,p5,p6,p7⟩:=boxcells8 (lay:=hb) (boxed1_0 _ _)))
   go_ret
   exact ⟨rfl,Zq0,Zq5⟩
 have h1':(k==1)=false:=beq_eq_false_iff_ne.2 h1
 by_cases h2:k=2
 ·subst h2
  have hz:((((gk≠0∨gk=0∧ga≠0)∨gk=0∧ga=0∧gb≠0)∨gk=0∧ga=0∧gb=0∧gc≠0)∨gk=0∧ga=0∧gb=0∧gc=0∧cond≠0)∨gk=0∧ga=0∧gb=0∧gc=0∧cond=0:=by omega
  rcases hz with ((((h|⟨rfl,h⟩)|⟨rfl,rfl,h⟩)|⟨rfl,rfl,rfl,h⟩)|⟨rfl,rfl,rfl,rfl,h⟩)|⟨rfl,rfl,rfl,rfl,rfl⟩
  ·rw[show validOp ⟨2,⟨gk,ga,gb,gc⟩,q,bit,cond⟩ n bits=false by simp [validOp,zeroG,h]]
   go_enter Tryz.func116,Tryz.ntmps116
   go_wp2_with (first|(go_at_call 47;refine(l1In_any _ _ _ _).mono ?_;rintro e w' ⟨rfl,rfl⟩)|(go_at_call 147;refine(IsValidGate_spec _ _ _ _ _ _).mono ?_;rintro e w' ⟨rfl,hb,hs⟩;simp at hs;obtain ⟨p0,p1,p2,p3,p4,p5,p6,p7⟩:=boxcells8 (lay:=hb) (boxed1_0 _ _)))
   go_ret
   exact ⟨rfl,Zq0,Zq5⟩
  ·rw[show validOp ⟨2,⟨0,ga,gb,gc⟩,q,bit,cond⟩ n bits=false by simp [validOp,zeroG,h]]
   go_enter Tryz.func116,Tryz.ntmps116
   go_wp2_with (first|(go_at_call 47;refine(l1In_any _ _ _ _).mono ?_;rintro e w' ⟨rfl,rfl⟩)|(go_at_call 147;refine(IsValidGate_spec _ _ _ _ _ _).mono ?_;rintro e w' ⟨rfl,hb,hs⟩;simp at hs;obtain ⟨p0,p1,p2,p3,p4,p5,p6,p7⟩:=boxcells8 (lay:=hb) (boxed1_0 _ _)))
   go_ret
   exact ⟨rfl,Zq0,Zq5⟩
  ·rw[show validOp ⟨2,⟨0,0,gb,gc⟩,q,bit,cond⟩ n bits=false by simp [validOp,zeroG,h]]
   go_enter Tryz.func116,Tryz.ntmps116
   go_wp2_with (first|(go_at_call 47;refine(l1In_any _ _ _ _).mono ?_;rintro e w' ⟨rfl,rfl⟩)|(go_at_call 147;refine(IsValidGate_spec _ _ _ _ _ _).mono ?_;rintro e w' ⟨rfl,hb,hs⟩;simp at hs;obtain ⟨p0,p1,p2,p3,p4,p5,p6,p7⟩:=boxcells8 (lay:=hb) (boxed1_0 _ _)))
   go_ret
   exact ⟨rfl,Zq0,Zq5⟩
  ·rw[show validOp ⟨2,⟨0,0,0,gc⟩,q,bit,cond⟩ n bits=false by simp [validOp,zeroG,h]]
   go_enter Tryz.func116,Tryz.ntmps116
   go_wp2_with (first|(go_at_call 47;refine(l1In_any _ _ _ _).mono ?_;rintro e w' ⟨rfl,rfl⟩)|(go_at_call 147;refine(IsValidGate_spec _ _ _ _ _ _).mono ?_;rintro e w' ⟨rfl,hb,hs⟩;simp at hs;obtain ⟨p0,p1,p2,p3,p4,p5,p6,p7⟩:=boxcells8 (lay:=hb) (boxed1_0 _ _)))
   go_ret
   exact ⟨rfl,Zq0,Zq5⟩
  ·rw[show validOp ⟨2,⟨0,0,0,0⟩,q,bit,cond⟩ n bits=false by simp [validOp,zeroG,h]]
   go_enter Tryz.func116,Tryz.ntmps116
   go_wp2_with (first|(go_at_call 47;refine(l1In_any _ _ _ _).mono ?_;rintro e w' ⟨rfl,rfl⟩)|(go_at_call 147;refine(IsValidGate_spec _ _ _ _ _ _).mono ?_;rintro e w' ⟨rfl,hb,hs⟩;simp at hs;obtain ⟨p0,p1,p2,p3,p4,p5,p6,p7⟩:=boxcells8 (lay:=hb) (boxed1_0 _ _)))
   go_ret
   exact ⟨rfl,Zq0,Zq5⟩
  ·cases hq:inB q 0 (n - 1)
   ·rw[show validOp ⟨2,⟨0,0,0,0⟩,q,bit,0⟩ n bits=false by simp [validOp,zeroG,hq]]
    go_enter Tryz.func116,Tryz.ntmps116
    go_wp2_with (first|(go_at_call 47;refine(l1In_any _ _ _ _).mono ?_;rintro e w' ⟨rfl,rfl⟩)|(go_at_call 147;refine(IsValidGate_spec _ _ _ _ _ _).mono ?_;rintro e w' ⟨rfl,hb,hs⟩;simp at hs;obtain ⟨p0,p1,p2,p3,p4,p5,p6,p7⟩:=boxcells8 (lay:=hb) (boxed1_0 _ _)))
    go_ret
    exact ⟨rfl,Zq0,Zq5⟩
   ·cases hc:inB bit 0 (bits - 1)
    ·rw[show validOp ⟨2,⟨0,0,0,0⟩,q,bit,0⟩ n bits=false by simp [validOp,zeroG,hc]]
     go_enter Tryz.func116,Tryz.ntmps116
     go_wp2_with (first|(go_at_call 47;refine(l1In_any _ _ _ _).mono ?_;rintro e w' ⟨rfl,rfl⟩)|(go_at_call 147;refine(IsValidGate_spec _ _ _ _ _ _).mono ?_;rintro e w' ⟨rfl,hb,hs⟩;simp at hs;obtain ⟨p0,p1,p2,p3,p4,p5,p6,p7⟩:=boxcells8 (lay:=hb) (boxed1_0 _ _)))
     go_ret
     exact ⟨rfl,Zq0,Zq5⟩
    ·rw[show validOp ⟨2,⟨0,0,0,0⟩,q,bit,0⟩ n bits=true by simp [validOp,zeroG,hn,hbt,hq,hc]]
     go_enter Tryz.func116,Tryz.ntmps116
     go_wp2_with (first|(go_at_call 47;refine(l1In_any _ _ _ _).mono ?_;rintro e w' ⟨rfl,rfl⟩)|(go_at_call 147;refine(IsValidGate_spec _ _ _ _ _ _).mono ?_;rintro e w' ⟨rfl,hb,hs⟩;simp at hs;obtain ⟨p0,p1,p2,p3,p4,p5,p6,p7⟩:=boxcells8 (lay:=hb) (boxed1_0 _ _)))
     go_ret
     exact ⟨rfl,Zq0,Zq5⟩
 have h2':(k==2)=false:=beq_eq_false_iff_ne.2 h2
 by_cases h3:k=3
 ·subst h3
  have hz:(((((gk≠0∨gk=0∧ga≠0)∨gk=0∧ga=0∧gb≠0)∨gk=0∧ga=0∧gb=0∧gc≠0)∨gk=0∧ga=0∧gb=0∧gc=0∧bit≠0)∨gk=0∧ga=0∧gb=0∧gc=0∧bit=0∧cond≠0)∨gk=0∧ga=0∧gb=0∧gc=0∧bit=0∧cond=0:=by omega
  rcases hz with (((((h|⟨rfl,h⟩)|⟨rfl,rfl,h⟩)|⟨rfl,rfl,rfl,h⟩)|⟨rfl,rfl,rfl,rfl,h⟩)|⟨rfl,rfl,rfl,rfl,rfl,h⟩)|⟨rfl,rfl,rfl,rfl,rfl,rfl⟩
  ·rw[show validOp ⟨3,⟨gk,ga,gb,gc⟩,q,bit,cond⟩ n bits=false by simp [validOp,zeroG,h]]
   go_enter Tryz.func116,Tryz.ntmps116
   go_wp2_with (first|(go_at_call 47;refine(l1In_any _ _ _ _).mono ?_;rintro e w' ⟨rfl,rfl⟩)|(go_at_call 147;refine(IsValidGate_spec _ _ _ _ _ _).mono ?_;rintro e w' ⟨rfl,hb,hs⟩;simp at hs;obtain ⟨p0,p1,p2,p3,p4,p5,p6,p7⟩:=boxcells8 (lay:=hb) (boxed1_0 _ _)))
   go_ret
   exact ⟨rfl,Zq0,Zq5⟩
  ·rw[show validOp ⟨3,⟨0,ga,gb,gc⟩,q,bit,cond⟩ n bits=false by simp [validOp,zeroG,h]]
   go_enter Tryz.func116,Tryz.ntmps116
   go_wp2_with (first|(go_at_call 47;refine(l1In_any _ _ _ _).mono ?_;rintro e w' ⟨rfl,rfl⟩)|(go_at_call 147;refine(IsValidGate_spec _ _ _ _ _ _).mono ?_;rintro e w' ⟨rfl,hb,hs⟩;simp at hs;obtain ⟨p0,p1,p2,p3,p4,p5,p6,p7⟩:=boxcells8 (lay:=hb) (boxed1_0 _ _)))
   go_ret
   exact ⟨rfl,Zq0,Zq5⟩
  ·rw[show validOp ⟨3,⟨0,0,gb,gc⟩,q,bit,cond⟩ n bits=false by simp [validOp,zeroG,h]]
   go_enter Tryz.func116,Tryz.ntmps116
   go_wp2_with (first|(go_at_call 47;refine(l1In_any _ _ _ _).mono ?_;rintro e w' ⟨rfl,rfl⟩)|(go_at_call 147;refine(IsValidGate_spec _ _ _ _ _ _).mono ?_;rintro e w' ⟨rfl,hb,hs⟩;simp at hs;obtain ⟨p0,p1,p2,p3,p4,p5,p6,p7⟩:=boxcells8 (lay:=hb) (boxed1_0 _ _)))
   go_ret
   exact ⟨rfl,Zq0,Zq5⟩
  ·rw[show validOp ⟨3,⟨0,0,0,gc⟩,q,bit,cond⟩ n bits=false by simp [validOp,zeroG,h]]
   go_enter Tryz.func116,Tryz.ntmps116
   go_wp2_with (first|(go_at_call 47;refine(l1In_any _ _ _ _).mono ?_;rintro e w' ⟨rfl,rfl⟩)|(go_at_call 147;refine(IsValidGate_spec _ _ _ _ _ _).mono ?_;rintro e w' ⟨rfl,hb,hs⟩;simp at hs;obtain ⟨p0,p1,p2,p3,p4,p5,p6,p7⟩:=boxcells8 (lay:=hb) (boxed1_0 _ _)))
   go_ret
   exact ⟨rfl,Zq0,Zq5⟩
  ·rw[show validOp ⟨3,⟨0,0,0,0⟩,q,bit,cond⟩ n bits=false by simp [validOp,zeroG,h]]
   go_enter Tryz.func116,Tryz.ntmps116
   go_wp2_with (first|(go_at_call 47;refine(l1In_any _ _ _ _).mono ?_;rintro e w' ⟨rfl,rfl⟩)|(go_at_call 147;refine(IsValidGate_spec _ _ _ _ _ _).mono ?_;rintro e w' ⟨rfl,hb,hs⟩;simp at hs;obtain ⟨p0,p1,p2,p3,p4,p5,p6,p7⟩:=boxcells8 (lay:=hb) (boxed1_0 _ _)))
   go_ret
   exact ⟨rfl,Zq0,Zq5⟩
  ·rw[show validOp ⟨3,⟨0,0,0,0⟩,q,0,cond⟩ n bits=false by simp [validOp,zeroG,h]]
   go_enter Tryz.func116,Tryz.ntmps116
   go_wp2_with (first|(go_at_call 47;refine(l1In_any _ _ _ _).mono ?_;rintro e w' ⟨rfl,rfl⟩)|(go_at_call 147;refine(IsValidGate_spec _ _ _ _ _ _).mono ?_;rintro e w' ⟨rfl,hb,hs⟩;simp at hs;obtain ⟨p0,p1,p2,p3,p4,p5,p6,p7⟩:=boxcells8 (lay:=hb) (boxed1_0 _ _)))
   go_ret
   exact ⟨rfl,Zq0,Zq5⟩
  ·cases hq:inB q 0 (n - 1)
   ·rw[show validOp ⟨3,⟨0,0,0,0⟩,q,0,0⟩ n bits=false by simp [validOp,zeroG,hq]]
    go_enter Tryz.func116,Tryz.ntmps116
    go_wp2_with (first|(go_at_call 47;refine(l1In_any _ _ _ _).mono ?_;rintro e w' ⟨rfl,rfl⟩)|(go_at_call 147;refine(IsValidGate_spec _ _ _ _ _ _).mono ?_;rintro e w' ⟨rfl,hb,hs⟩;simp at hs;obtain ⟨p0,p1,p2,p3,p4,p5,p6,p7⟩:=boxcells8 (lay:=hb) (boxed1_0 _ _)))
    go_ret
    exact ⟨rfl,Zq0,Zq5⟩
   ·rw[show validOp ⟨3,⟨0,0,0,0⟩,q,0,0⟩ n bits=true by simp [validOp,zeroG,hn,hbt,hq]]
    go_enter Tryz.func116,Tryz.ntmps116
    go_wp2_with (first|(go_at_call 47;refine(l1In_any _ _ _ _).mono ?_;rintro e w' ⟨rfl,rfl⟩)|(go_at_call 147;refine(IsValidGate_spec _ _ _ _ _ _).mono ?_;rintro e w' ⟨rfl,hb,hs⟩;simp at hs;obtain ⟨p0,p1,p2,p3,p4,p5,p6,p7⟩:=boxcells8 (lay:=hb) (boxed1_0 _ _)))
    go_ret
    exact ⟨rfl,Zq0,Zq5⟩
 have h3':(k==3)=false:=beq_eq_false_iff_ne.2 h3
 rw[show validOp ⟨k,⟨gk,ga,gb,gc⟩,q,bit,cond⟩ n bits=false by simp [validOp,h1,h2,h3]]
 clear h1 h2 h3
 go_enter Tryz.func116,Tryz.ntmps116
 go_wp2_with (first|(go_at_call 47;refine(l1In_any _ _ _ _).mono ?_;rintro e w' ⟨rfl,rfl⟩)|(go_at_call 147;refine(IsValidGate_spec _ _ _ _ _ _).mono ?_;rintro e w' ⟨rfl,hb,hs⟩;simp at hs;obtain ⟨p0,p1,p2,p3,p4,p5,p6,p7⟩:=boxcells8 (lay:=hb) (boxed1_0 _ _)))
 go_ret
 exact ⟨rfl,Zq0,Zq5⟩
end Go.Proofs.YthkbckkghnbonaaGreatDoor
namespace Go.Proofs.YthkbckkghnbonaaGreatDoor
open Go.ChangeShapes Go.WideShapes Go.RowKit Go.Deep
section
variable {H:Type} {enc:TypeId × Value→H} {w:World} {base:Nat} {spare:Nat→Bool} {held:Bool}
theorem cells_int:Tryz.prog.cellsOf 3=1:=by kernel_rfl
end
end Go.Proofs.YthkbckkghnbonaaGreatDoor
namespace Go.Proofs.YthkbckkghnbonaaGreatDoor
open Go.RowKit

theorem ocells_len (x:Opt):(ocells x).length=8:=rfl
theorem info_OpE:(Tryz.prog.info? 104).map (fun i=>(i.zero,i.size,i.bytes))=some (some (.agg #[.int .i64 0,.int .i64 0,.int .i64 0,.int .i64 0,.int .i64 0,.int .i64 0,.int .i64 0,.int .i64 0]),8,64):=by kernel_rfl
theorem eqOpS_same (A A':Option Addr) (n c c':Nat) (l:List Opt) (w:World) (hl:l.length=n) (hn:n≤1099511627776) (h1:Rd w 8 A n (l.flatMap ocells)) (h2:Rd w 8 A' n (l.flatMap ocells)) :
  Calls Tryz.prog 68 #[.slice A n c,.slice A' n c'] w fun e w'=>e=.returned (.bool true)∧Below w.heap.size w w'∧w.heap.size≤w'.heap.size:=by
 have H1:=hD h1
 have H2:=hD h2
 have HL:=hD hl
 clear h1 h2 hl
 go_enter Tryz.func68,Tryz.ntmps68
 go_wp2
 go_loopw [5] (fun i wr=>∃ k:Nat,k≤n∧i=.int .i64 k∧Below w.heap.size w wr) (fun i _=>n - (intOf i).toNat)
 case atStart=>exact ⟨0,Nat.zero_le _,rfl,Below.refl _ _⟩
 case round =>
  obtain ⟨k,hk,rfl,hb⟩:=hrel
  by_cases hlt:k<n
  ·have hkl:k<l.length:=by rw[HL.out];exact hlt
   obtain ⟨g,hg⟩:∃ g,l[k]?=some g:=⟨_,List.getElem?_eq_getElem hkl⟩
   obtain ⟨b,off,rfl,_,hc⟩:=(H1.out.below hb).2 Zq6
   obtain ⟨b',off',rfl,_,hc'⟩:=(H2.out.below hb).2 Zq6
   have q0:=hc (k*8+0) _ (flat_at ocells_len l k g 0 hg Zq8)
   have q0':=hc' (k*8+0) _ (flat_at ocells_len l k g 0 hg Zq8)
   have q1:=hc (k*8+1) _ (flat_at ocells_len l k g 1 hg Zq8)
   have q1':=hc' (k*8+1) _ (flat_at ocells_len l k g 1 hg Zq8)
   have q2:=hc (k*8+2) _ (flat_at ocells_len l k g 2 hg Zq8)
   have q2':=hc' (k*8+2) _ (flat_at ocells_len l k g 2 hg Zq8)
   have q3:=hc (k*8+3) _ (flat_at ocells_len l k g 3 hg Zq8)
   have q3':=hc' (k*8+3) _ (flat_at ocells_len l k g 3 hg Zq8)
   have q4:=hc (k*8+4) _ (flat_at ocells_len l k g 4 hg Zq8)
   have q4':=hc' (k*8+4) _ (flat_at ocells_len l k g 4 hg Zq8)
   have q5:=hc (k*8+5) _ (flat_at ocells_len l k g 5 hg Zq8)
   have q5':=hc' (k*8+5) _ (flat_at ocells_len l k g 5 hg Zq8)
   have q6:=hc (k*8+6) _ (flat_at ocells_len l k g 6 hg Zq8)
   have q6':=hc' (k*8+6) _ (flat_at ocells_len l k g 6 hg Zq8)
   have q7:=hc (k*8+7) _ (flat_at ocells_len l k g 7 hg Zq8)
   have q7':=hc' (k*8+7) _ (flat_at ocells_len l k g 7 hg Zq8)
   rw[←Nat.add_assoc] at q1 q1' q2 q2' q3 q3' q4 q4' q5 q5' q6 q6' q7 q7'
   rw[Nat.add_zero] at q0 q0'
   clear hc hc' hg hkl
   go_wp2_with fail
   go_still_tail 8,Zq10
   change wpList _ _ _ _ _ wr.drew
   go_wp2_with (go_at_call 121;refine(eqOp_same _ _ _ _ _ _ _ _ _).mono ?_;rintro e w' ⟨rfl,hb',hs'⟩)
   go_roundw
   case rel=>exact ⟨k+1,by omega,by go_num,hb.drew.trans (hb'.mono hb.size)⟩
   case measure=>simp [intOf];omega
  ·go_wp2_with fail
   go_ret
   exact ⟨rfl,hb,hb.size⟩
theorem markOpS_any (v:Value) (n base:Nat) (xs:List Value) (k:Int) (w:World) (hown:w.ownsRow base 104 8 v n xs) (hn:n≤1099511627776) (hk0:0≤k) (hk1:k≤1099511627776) :
  Calls Tryz.prog 73 #[v,.int .i64 k] w fun e w'=>e=.returned (.int .i64 (k+n*8))∧w'.ownsRow base 104 8 v n (marks k (n*8))∧w.grownBy w' v.ownBlock:=by
 rcases hown.2 with ⟨rfl,rfl⟩|⟨g,cap,cur,rfl,hb,hh,hc,hm,_,_⟩
 ·clear hown
  go_enter Tryz.func73,Tryz.ntmps73
  go_wp2
  refine wp_loop_rounds 1 ?_
  rw[rounds_succ]
  go_wp2
  go_ret
  exact ⟨by simp,World.ownsRow_nil _ _ _ _,World.grownBy.refl _ _⟩
 ·clear hh hb hc hm
  have hxl:=hown.1
  go_enter Tryz.func73,Tryz.ntmps73
  go_wp2
  go_loopw [1,5] (fun kk i wr=>∃ t:Nat,t≤n∧i=.int .i64 t∧kk=.int .i64 (k+t*8)∧wr.ownsRow base 104 8 (.slice (some ⟨g,0,none⟩) n cap) n (marks k (t*8)++xs.drop (t*8))∧w.grownBy wr (some g)) (fun _ i _=>n - (intOf i).toNat)
  case atStart=>exact ⟨0,Nat.zero_le _,rfl,by simp,by simpa [marks] using hown,World.grownBy.refl _ _⟩
  case round =>
   clear hown
   obtain ⟨t,ht,rfl,rfl,hown,hgr⟩:=hrel
   by_cases hlt:t<n
   ·have hf:=hown.frozenAt
    have hz:=hown.cellAt
    have hll:=hown.1
    obtain ⟨y0,z0⟩:∃ y,wr.cell? ⟨g,t*8,none⟩=some y:=⟨_,(hz _ Zq6).trans (List.getElem?_eq_getElem Zq6)⟩
    obtain ⟨y1,z1⟩:∃ y,wr.cell? ⟨g,t*8+1,none⟩=some y:=⟨_,(hz _ Zq6).trans (List.getElem?_eq_getElem Zq6)⟩
    obtain ⟨y2,z2⟩:∃ y,wr.cell? ⟨g,t*8+2,none⟩=some y:=⟨_,(hz _ Zq6).trans (List.getElem?_eq_getElem Zq6)⟩
    obtain ⟨y3,z3⟩:∃ y,wr.cell? ⟨g,t*8+3,none⟩=some y:=⟨_,(hz _ Zq6).trans (List.getElem?_eq_getElem Zq6)⟩
    obtain ⟨y4,z4⟩:∃ y,wr.cell? ⟨g,t*8+4,none⟩=some y:=⟨_,(hz _ Zq6).trans (List.getElem?_eq_getElem Zq6)⟩
    obtain ⟨y5,z5⟩:∃ y,wr.cell? ⟨g,t*8+5,none⟩=some y:=⟨_,(hz _ Zq6).trans (List.getElem?_eq_getElem Zq6)⟩
    obtain ⟨y6,z6⟩:∃ y,wr.cell? ⟨g,t*8+6,none⟩=some y:=⟨_,(hz _ Zq6).trans (List.getElem?_eq_getElem Zq6)⟩
    obtain ⟨y7,z7⟩:∃ y,wr.cell? ⟨g,t*8+7,none⟩=some y:=⟨_,(hz _ Zq6).trans (List.getElem?_eq_getElem Zq6)⟩
    have f0:=hf (t*8)
    have f1:=hf (t*8+1)
    have f2:=hf (t*8+2)
    have f3:=hf (t*8+3)
    have f4:=hf (t*8+4)
    have f5:=hf (t*8+5)
    have f6:=hf (t*8+6)
    have f7:=hf (t*8+7)
    have HX:=hD hxl
    clear hf hz hll hxl
    go_wp2
    go_roundw
    case rel =>
     have s0:=hown.stored (t*8) (.int .i64 (k+t*8))
     have s1:=s0.1.stored (t*8+1) (.int .i64 (k+t*8+1))
     have s2:=s1.1.stored (t*8+1+1) (.int .i64 (k+t*8+1+1))
     have s3:=s2.1.stored (t*8+1+1+1) (.int .i64 (k+t*8+1+1+1))
     have s4:=s3.1.stored (t*8+1+1+1+1) (.int .i64 (k+t*8+1+1+1+1))
     have s5:=s4.1.stored (t*8+1+1+1+1+1) (.int .i64 (k+t*8+1+1+1+1+1))
     have s6:=s5.1.stored (t*8+1+1+1+1+1+1) (.int .i64 (k+t*8+1+1+1+1+1+1))
     have s7:=s6.1.stored (t*8+1+1+1+1+1+1+1) (.int .i64 (k+t*8+1+1+1+1+1+1+1))
     rw[mark_step (by congr 1) (by rw[HX.out];omega),mark_step (by congr 1;omega) (by rw[HX.out];omega),mark_step (by congr 1;omega) (by rw[HX.out];omega),mark_step (by congr 1;omega) (by rw[HX.out];omega),mark_step (by congr 1;omega) (by rw[HX.out];omega),mark_step (by congr 1;omega) (by rw[HX.out];omega),mark_step (by congr 1;omega) (by rw[HX.out];omega),mark_step (by congr 1;omega) (by rw[HX.out];omega)] at s7
     rw[show t*8+1+1+1+1+1+1+1+1=(t+1)*8 from by omega] at s7
     exact ⟨t+1,by omega,by go_num,by congr 1;omega,s7.1,((((((((hgr.trans s0.2).trans s1.2).trans s2.2).trans s3.2).trans s4.2).trans s5.2).trans s6.2).trans s7.2)⟩
    case measure=>simp [intOf];omega
   ·obtain rfl:t=n:=by omega
    go_wp2
    go_ret
    exact ⟨rfl,by rw[List.drop_of_length_le Zq6,List.append_nil] at hown;exact hown,hgr⟩
theorem heldOpS_any (A:Option Addr) (n c:Nat) (k:Int) (w:World) (h:Rd w 8 A n (marks k (n*8))) (hn:n≤1099511627776) (hk0:0≤k) (hk1:k≤1099511627776) :
  Calls Tryz.prog 74 #[.slice A n c,.int .i64 k] w fun e w'=>e=.returned (.int .i64 (k+n*8))∧w=w':=by
 have H:=hD h
 clear h
 go_enter Tryz.func74,Tryz.ntmps74
 go_wp2
 go_loop [1,5] (fun kk i=>∃ t:Nat,t≤n∧i=.int .i64 t∧kk=.int .i64 (k+t*8)) (fun _ i=>n - (intOf i).toNat)
 case atStart=>exact ⟨0,Nat.zero_le _,rfl,by simp⟩
 case round =>
  obtain ⟨t,ht,rfl,rfl⟩:=hrel
  by_cases hlt:t<n
  ·obtain ⟨b,off,rfl,_,hc⟩:=H.out.2 Zq6
   have q0:=hc _ _ (marks_at k (n*8) (t*8) Zq6)
   have q1:=hc _ _ (marks_at k (n*8) (t*8+1) Zq6)
   have q2:=hc _ _ (marks_at k (n*8) (t*8+2) Zq6)
   have q3:=hc _ _ (marks_at k (n*8) (t*8+3) Zq6)
   have q4:=hc _ _ (marks_at k (n*8) (t*8+4) Zq6)
   have q5:=hc _ _ (marks_at k (n*8) (t*8+5) Zq6)
   have q6:=hc _ _ (marks_at k (n*8) (t*8+6) Zq6)
   have q7:=hc _ _ (marks_at k (n*8) (t*8+7) Zq6)
   rw[←Nat.add_assoc] at q1 q2 q3 q4 q5 q6 q7
   rw[show k+((t*8:Nat):Int)=k+t*8 from by omega] at q0
   rw[show k+((t*8+1:Nat):Int)=k+t*8+1 from by omega] at q1
   rw[show k+((t*8+2:Nat):Int)=k+t*8+1+1 from by omega] at q2
   rw[show k+((t*8+3:Nat):Int)=k+t*8+1+1+1 from by omega] at q3
   rw[show k+((t*8+4:Nat):Int)=k+t*8+1+1+1+1 from by omega] at q4
   rw[show k+((t*8+5:Nat):Int)=k+t*8+1+1+1+1+1 from by omega] at q5
   rw[show k+((t*8+6:Nat):Int)=k+t*8+1+1+1+1+1+1 from by omega] at q6
   rw[show k+((t*8+7:Nat):Int)=k+t*8+1+1+1+1+1+1+1 from by omega] at q7
   clear hc
   go_wp2
   go_round
   case rel=>exact ⟨t+1,by omega,by go_num,by congr 1;omega⟩
   case measure=>simp [intOf];omega
  ·obtain rfl:t=n:=by omega
   go_wp2
   go_ret
   exact ⟨rfl,rfl⟩
theorem ocells_one (o:Opt):((ocells o).all Value.oneCell')=true:=rfl
theorem rd_lit {w:World} {cs:Array Value} {e n size b:Nat} (h0:b=w.heap.size) (hs:cs.size=n*size):Rd (w.alloc (.cells cs e)) size (some ⟨b,0,none⟩) n cs.toList:=by
 subst h0
 refine ⟨by simpa using hs,fun _=>⟨_,0,rfl,by simp,fun j u hu=>?_⟩⟩
 have h:=heap_alloc_new w (.cells cs e)
 have hc:cs[j]?=some u:=by rw[←Array.getElem?_toList];exact hu
 rw[Nat.zero_add]
 exact cell_at h hc

def gop (cond:Int) (g:Gt):Opt:=⟨1,g,0,0,cond⟩
theorem GateOps_spec (A:Option Addr) (n c:Nat) (l:List Gt) (cond:Int) (w:World) (h:Rd w 4 A n (l.flatMap gcells)) (hl:l.length=n) (hn:n≤1073741824) :
  Calls Tryz.prog 170 #[.slice A n c,.int .i64 cond] w (RetRow 104 8 w n ((l.map (gop cond)).flatMap ocells)):=by
 obtain ⟨i0,hi,hz0,hz1,hz2⟩:=info_parts info_OpE
 have H:=hD h
 have HL:=hD hl
 clear h hl
 go_enter Tryz.func170,Tryz.ntmps170
 go_wp2
 go_loopw [5,6] (fun v i wr=>∃ t:Nat,t≤n∧i=.int .i64 t∧wr.ownsRow w.heap.size 104 8 v t (((l.take t).map (gop cond)).flatMap ocells)∧Below w.heap.size w wr) (fun _ i _=>n - (intOf i).toNat)
 case atStart=>exact ⟨0,Nat.zero_le _,rfl,by simpa using own_empty w _ 8,Zq0⟩
 case round =>
  obtain ⟨t,ht,rfl,hown,hb⟩:=hrel
  by_cases hlt:t<n
  ·have htl:t<l.length:=by rw[HL.out];exact hlt
   obtain ⟨g,hg⟩:∃ g,l[t]?=some g:=⟨_,List.getElem?_eq_getElem htl⟩
   obtain ⟨b,off,rfl,hbl,hc⟩:=H.out.2 Zq6
   have q0:wr.cell? ⟨b,off+t*4,none⟩=some (.int .i64 g.k):=(hb.cell (by exact hbl)).trans (hc (t*4+0) _ (flat_at gcells_len l t g 0 hg Zq8))
   have q1:wr.cell? ⟨b,off+t*4+1,none⟩=some (.int .i64 g.a):=(hb.cell (by exact hbl)).trans (hc (t*4+1) _ (flat_at gcells_len l t g 1 hg Zq8))
   have q2:wr.cell? ⟨b,off+t*4+2,none⟩=some (.int .i64 g.b):=(hb.cell (by exact hbl)).trans (hc (t*4+2) _ (flat_at gcells_len l t g 2 hg Zq8))
   have q3:wr.cell? ⟨b,off+t*4+3,none⟩=some (.int .i64 g.c):=(hb.cell (by exact hbl)).trans (hc (t*4+3) _ (flat_at gcells_len l t g 3 hg Zq8))
   have HG:=hD hg
   obtain ⟨L,hL⟩:∃ L,L=((l.take t).map (gop cond)).flatMap ocells:=⟨_,rfl⟩
   rw[←hL] at hown
   have HL2:=hD hL
   clear hc hg htl hL
   go_wp2_with (at_builtin;refine wpList_append_rd _ rfl _ _ 38 rfl w.heap.size 104 i0 _ 8 64 Tryz.underlying38 hi hz0 hz1 hz2 rfl Zq8 _ _ _ rfl (hown.alloc _) _ 1 1 _ rfl (rd_lit ?c0 rfl) ?c2 ?c3 ?c4 ?c5 ?_)
   case c0=>first|rfl|simp
   case c2=>repeat' (first|rfl|apply And.intro)
   case c3=>simp only[maxLen];omega
   case c4=>omega
   case c5=>have:=hb.size;simp;omega
   intro v3 w3 own3 gr3 _
   have b3:=(hb.alloc hb.size _).grown gr3 (by have:=hb.size;simp;omega) (own_ge hown)
   clear hown gr3
   go_wp2
   go_roundw
   case rel =>
    refine ⟨t+1,by omega,by go_num,?_,b3⟩
    rw[List.take_add_one,HG.out,List.map_append,List.flatMap_append,←HL2.out]
    exact own3
   case measure=>simp [intOf];omega
  ·obtain rfl:t=n:=by omega
   go_wp2
   go_ret
   exact ⟨_,rfl,by rw[List.take_of_length_le (by rw[HL.out];exact Nat.le_refl _)] at hown;exact hown,hb,hb.size⟩
theorem GateOps_impl (A:Option Addr) (n c:Nat) (l:List Gt) (cond:Int) (w:World) (h:Rd w 4 A n (l.flatMap gcells)) (hl:l.length=n) (hn:n≤1073741824) :
  Calls Tryz.prog 150 #[.slice A n c,.int .i64 cond] w (RetRow 104 8 w n ((l.map (gop cond)).flatMap ocells)):=by
 obtain ⟨i0,hi,hz0,hz1,hz2⟩:=info_parts info_OpE
 have H:=hD h
 have HL:=hD hl
 clear h hl
 go_enter Tryz.func150,Tryz.ntmps150
 go_wp2
 go_loopw [5,11] (fun v i wr=>∃ t:Nat,t≤n∧i=.int .i64 t∧wr.ownsRow w.heap.size 104 8 v t (((l.take t).map (gop cond)).flatMap ocells)∧Below w.heap.size w wr) (fun _ i _=>n - (intOf i).toNat)
 case atStart=>exact ⟨0,Nat.zero_le _,rfl,by simpa using own_empty w _ 8,Zq0⟩
 case round =>
  obtain ⟨t,ht,rfl,hown,hb⟩:=hrel
  by_cases hlt:t<n
  ·have htl:t<l.length:=by rw[HL.out];exact hlt
   obtain ⟨g,hg⟩:∃ g,l[t]?=some g:=⟨_,List.getElem?_eq_getElem htl⟩
   obtain ⟨b,off,rfl,hbl,hc⟩:=H.out.2 Zq6
   have q0:wr.cell? ⟨b,off+t*4,none⟩=some (.int .i64 g.k):=(hb.cell (by exact hbl)).trans (hc (t*4+0) _ (flat_at gcells_len l t g 0 hg Zq8))
   have q1:wr.cell? ⟨b,off+t*4+1,none⟩=some (.int .i64 g.a):=(hb.cell (by exact hbl)).trans (hc (t*4+1) _ (flat_at gcells_len l t g 1 hg Zq8))
   have q2:wr.cell? ⟨b,off+t*4+2,none⟩=some (.int .i64 g.b):=(hb.cell (by exact hbl)).trans (hc (t*4+2) _ (flat_at gcells_len l t g 2 hg Zq8))
   have q3:wr.cell? ⟨b,off+t*4+3,none⟩=some (.int .i64 g.c):=(hb.cell (by exact hbl)).trans (hc (t*4+3) _ (flat_at gcells_len l t g 3 hg Zq8))
   have HG:=hD hg
   obtain ⟨L,hL⟩:∃ L,L=((l.take t).map (gop cond)).flatMap ocells:=⟨_,rfl⟩
   rw[←hL] at hown
   have HL2:=hD hL
   clear hc hg htl hL
   go_wp2_with (at_builtin;refine wpList_append_rd _ rfl _ _ 38 rfl w.heap.size 104 i0 _ 8 64 Tryz.underlying38 hi hz0 hz1 hz2 rfl Zq8 _ _ _ rfl ((hown.alloc _).alloc _) _ 1 1 _ rfl (rd_lit ?c0 rfl) ?c2 ?c3 ?c4 ?c5 ?_)
   case c0=>first|rfl|simp
   case c2=>repeat' (first|rfl|apply And.intro)
   case c3=>simp only[maxLen];omega
   case c4=>omega
   case c5=>have:=hb.size;simp;omega
   intro v3 w3 own3 gr3 _
   have b3:=((hb.alloc hb.size _).alloc (by have:=hb.size;simp;omega) _).grown gr3 (by have:=hb.size;simp;omega) (own_ge hown)
   clear hown gr3
   go_wp2
   go_roundw
   case rel =>
    refine ⟨t+1,by omega,by go_num,?_,b3⟩
    rw[List.take_add_one,HG.out,List.map_append,List.flatMap_append,←HL2.out]
    exact own3
   case measure=>simp [intOf];omega
  ·obtain rfl:t=n:=by omega
   go_wp2
   go_ret
   exact ⟨_,rfl,by rw[List.take_of_length_le (by rw[HL.out];exact Nat.le_refl _)] at hown;exact hown,hb,hb.size⟩

def invk (k:Int):Int:=if k=5 then 6 else if k=6 then 5 else if k=7 then 8 else if k=8 then 7 else k
theorem invk_ne {k:Int} (h5:k≠5) (h6:k≠6) (h7:k≠7) (h8:k≠8):invk k=k:=by simp [invk,h5,h6,h7,h8]
def invG (g:Gt):Gt:=⟨invk g.k,g.a,g.b,g.c⟩
theorem InverseGate_spec (k a b c:Int) (w:World):Calls Tryz.prog 168 #[.agg #[.int .i64 k,.int .i64 a,.int .i64 b,.int .i64 c]] w fun e w' =>
  e=.returned (.agg #[.int .i64 (invk k),.int .i64 a,.int .i64 b,.int .i64 c])∧(w.alloc (.cells #[.int .i64 (invk k),.int .i64 a,.int .i64 b,.int .i64 c] 102)).alloc (.cells #[.int .i64 (invk k),.int .i64 a,.int .i64 b,.int .i64 c] 102)=w':=by
 by_cases h5:k=5
 ·subst h5
  go_enter Tryz.func168,Tryz.ntmps168
  go_wp2
  exact bodyPost_ret (v:=.agg #[.int .i64 6,.int .i64 a,.int .i64 b,.int .i64 c]) (by simp [results,Tryz.results168,go_sem]) rfl ⟨rfl,rfl⟩
 by_cases h6:k=6
 ·subst h6
  go_enter Tryz.func168,Tryz.ntmps168
  go_wp2
  exact bodyPost_ret (v:=.agg #[.int .i64 5,.int .i64 a,.int .i64 b,.int .i64 c]) (by simp [results,Tryz.results168,go_sem]) rfl ⟨rfl,rfl⟩
 by_cases h7:k=7
 ·subst h7
  go_enter Tryz.func168,Tryz.ntmps168
  go_wp2
  exact bodyPost_ret (v:=.agg #[.int .i64 8,.int .i64 a,.int .i64 b,.int .i64 c]) (by simp [results,Tryz.results168,go_sem]) rfl ⟨rfl,rfl⟩
 by_cases h8:k=8
 ·subst h8
  go_enter Tryz.func168,Tryz.ntmps168
  go_wp2
  exact bodyPost_ret (v:=.agg #[.int .i64 7,.int .i64 a,.int .i64 b,.int .i64 c]) (by simp [results,Tryz.results168,go_sem]) rfl ⟨rfl,rfl⟩
 rw[invk_ne h5 h6 h7 h8]
 have e5:(k==5)=false:=beq_eq_false_iff_ne.2 h5
 have e6:(k==6)=false:=beq_eq_false_iff_ne.2 h6
 have e7:(k==7)=false:=beq_eq_false_iff_ne.2 h7
 have e8:(k==8)=false:=beq_eq_false_iff_ne.2 h8
 clear h5 h6 h7 h8
 go_enter Tryz.func168,Tryz.ntmps168
 go_wp2
 exact bodyPost_ret (v:=.agg #[.int .i64 k,.int .i64 a,.int .i64 b,.int .i64 c]) (by simp [results,Tryz.results168,go_sem]) rfl ⟨rfl,rfl⟩
theorem InverseGate_impl (k a b c:Int) (w:World):Calls Tryz.prog 175 #[.agg #[.int .i64 k,.int .i64 a,.int .i64 b,.int .i64 c]] w fun e w' =>
  e=.returned (.agg #[.int .i64 (invk k),.int .i64 a,.int .i64 b,.int .i64 c])∧(w.alloc (.cells #[.int .i64 (invk k),.int .i64 a,.int .i64 b,.int .i64 c] 102)).alloc (.cells #[.int .i64 (invk k),.int .i64 a,.int .i64 b,.int .i64 c] 102)=w':=by
 by_cases h5:k=5
 ·subst h5
  go_enter Tryz.func175,Tryz.ntmps175
  go_wp2
  exact bodyPost_ret (v:=.agg #[.int .i64 6,.int .i64 a,.int .i64 b,.int .i64 c]) (by simp [results,Tryz.results175,go_sem]) rfl ⟨rfl,rfl⟩
 by_cases h6:k=6
 ·subst h6
  go_enter Tryz.func175,Tryz.ntmps175
  go_wp2
  exact bodyPost_ret (v:=.agg #[.int .i64 5,.int .i64 a,.int .i64 b,.int .i64 c]) (by simp [results,Tryz.results175,go_sem]) rfl ⟨rfl,rfl⟩
 by_cases h7:k=7
 ·subst h7
  go_enter Tryz.func175,Tryz.ntmps175
  go_wp2
  exact bodyPost_ret (v:=.agg #[.int .i64 8,.int .i64 a,.int .i64 b,.int .i64 c]) (by simp [results,Tryz.results175,go_sem]) rfl ⟨rfl,rfl⟩
 by_cases h8:k=8
 ·subst h8
  go_enter Tryz.func175,Tryz.ntmps175
  go_wp2
  exact bodyPost_ret (v:=.agg #[.int .i64 7,.int .i64 a,.int .i64 b,.int .i64 c]) (by simp [results,Tryz.results175,go_sem]) rfl ⟨rfl,rfl⟩
 rw[invk_ne h5 h6 h7 h8]
 have e5:(k==5)=false:=beq_eq_false_iff_ne.2 h5
 have e6:(k==6)=false:=beq_eq_false_iff_ne.2 h6
 have e7:(k==7)=false:=beq_eq_false_iff_ne.2 h7
 have e8:(k==8)=false:=beq_eq_false_iff_ne.2 h8
 clear h5 h6 h7 h8
 go_enter Tryz.func175,Tryz.ntmps175
 go_wp2
 exact bodyPost_ret (v:=.agg #[.int .i64 k,.int .i64 a,.int .i64 b,.int .i64 c]) (by simp [results,Tryz.results175,go_sem]) rfl ⟨rfl,rfl⟩
def coL (q:Int) (o:Opt):List Opt:=if o.k=1 then (cgL q o.g).map (gop o.cond) else [o]
def coB (q:Int) (o:Opt):Bool:=if o.k=1 then cgB q o.g else true
theorem coB_not (q:Int) {o:Opt} (h:(o.k==1)=false):coB q o=true:=by
 have h1:¬ o.k=1:=by simpa using h
 simp [coB,h1]
theorem coL_not (q:Int) {o:Opt} (h:(o.k==1)=false):coL q o=[o]:=by
 have h1:¬ o.k=1:=by simpa using h
 simp [coL,h1]
theorem coB_gate {q:Int} {o:Opt} {x:Bool} (h:(o.k==1)=true) (hx:cgB q ⟨o.g.k,o.g.a,o.g.b,o.g.c⟩=x):coB q o=x:=by
 have h1:o.k=1:=by simpa using h
 simp [coB,h1]
 exact hx
theorem coL_gate (q:Int) {o:Opt} (h:(o.k==1)=true):coL q o=(cgL q ⟨o.g.k,o.g.a,o.g.b,o.g.c⟩).map (gop o.cond):=by
 have h1:o.k=1:=by simpa using h
 simp [coL,h1]
theorem coL_len (q:Int) (o:Opt):(coL q o).length≤7:=by
 unfold coL
 split
 ·simpa using cgL_len q o.g
 ·simp
def cos (q:Int):List Opt→Option (List Opt)
 | []=>some []
 | g :: l=>if coB q g then (cos q l).map (coL q g++·) else none
def osB (q:Int) (l:List Opt):Bool:=(cos q l).isSome
def osL (q:Int) (l:List Opt):List Opt:=(cos q l).getD []
theorem cos_len {q:Int}:∀ {l:List Opt} {L:List Opt},cos q l=some L→L.length≤l.length*7:=by
 intro l
 induction l with
 | nil=>intro L h;simp [cos] at h;subst h;simp
 | cons g l ih =>
  intro L h
  simp only[cos] at h
  split at h
  ·rw[Option.map_eq_some_iff] at h
   obtain ⟨M,h1,rfl⟩:=h
   have:=ih h1
   have:=coL_len q g
   simp only[List.length_append,List.length_cons]
   omega
  ·cases h
theorem cos_snoc {q:Int} {g:Opt} (hk:coB q g=true):∀ {l:List Opt} {L:List Opt},cos q l=some L→cos q (l++[g])=some (L++coL q g):=by
 intro l
 induction l with
 | nil=>intro L h;simp [cos] at h;subst h;simp [cos,hk]
 | cons x l ih =>
  intro L h
  simp only[cos] at h
  split at h
  ·rename_i hx
   rw[Option.map_eq_some_iff] at h
   obtain ⟨M,h1,rfl⟩:=h
   simp only[List.cons_append,cos,hx,if_true,ih h1,Option.map_some,List.append_assoc]
  ·cases h
theorem cos_step {q:Int} {l L:List Opt} {t:Nat} {g:Opt} (h:cos q (l.take t)=some L) (hg:l[t]?=some g) (hk:coB q g=true):cos q (l.take (t+1))=some (L++coL q g):=by
 rw[List.take_add_one,hg]
 exact cos_snoc hk h
theorem os_none {q:Int} {t:Nat} {g:Opt}:∀ {l:List Opt},l[t]?=some g→coB q g=false→osB q l=false∧osL q l=[]:=by
 have key:∀ {l:List Opt} {t:Nat},l[t]?=some g→coB q g=false→cos q l=none:=by
  intro l
  induction l with
  | nil=>intro t h;simp at h
  | cons x l ih =>
   intro t h hk
   cases t with
   | zero=>simp at h;subst h;simp [cos,hk]
   | succ t =>
    simp only[cos]
    split
    ·rw[ih (by simpa using h) hk];rfl
    ·rfl
 intro l h hk
 exact ⟨by rw[osB,key h hk];rfl,by rw[osL,key h hk];rfl⟩
theorem osL_le (q:Int) (l:List Opt):(osL q l).length≤l.length*7:=by
 unfold osL
 cases h:cos q l with
 | none=>simp
 | some L=>exact cos_len h
theorem ControlledOps_spec (q:Int) (A:Option Addr) (n c:Nat) (l:List Opt) (w:World) (h:Rd w 8 A n (l.flatMap ocells)) (hl:l.length=n) (hn:n≤1073741824) :
  Calls Tryz.prog 142 #[.int .i64 q,.slice A n c] w (RetRow2 104 8 w (osB q l) (osL q l).length ((osL q l).flatMap ocells)):=by
 obtain ⟨i0,hi,hz0,hz1,hz2⟩:=info_parts info_OpE
 have H:=hD h
 have HL:=hD hl
 clear h hl
 go_enter Tryz.func142,Tryz.ntmps142
 go_wp2
 go_loopw [6,7] (fun v i wr=>∃ (t:Nat) (L:List Opt),t≤n∧i=.int .i64 t∧cos q (l.take t)=some L∧wr.ownsRow w.heap.size 104 8 v L.length (L.flatMap ocells)∧Below w.heap.size w wr) (fun _ i _=>n - (intOf i).toNat)
 case atStart=>exact ⟨0,[],Nat.zero_le _,rfl,rfl,by simpa using own_empty w _ 8,Zq0⟩
 case round =>
  obtain ⟨t,L,ht,rfl,hcg,hown,hb⟩:=hrel
  have hd1:=cos_len hcg
  have hd3:=List.length_take_le t l
  have hd:L.length≤t*7:=Nat.le_trans hd1 (Nat.mul_le_mul_right _ hd3)
  have HC:=hD hcg
  clear hcg hd1 hd3
  by_cases hlt:t<n
  ·have htl:t<l.length:=by rw[HL.out];exact hlt
   obtain ⟨o,ho⟩:∃ o,l[t]?=some o:=⟨_,List.getElem?_eq_getElem htl⟩
   obtain ⟨b,off,rfl,hbl,hc⟩:=H.out.2 Zq6
   have q0:wr.cell? ⟨b,off+t*8,none⟩=some (.int .i64 o.k):=(hb.cell (by exact hbl)).trans (hc (t*8+0) _ (flat_at ocells_len l t o 0 ho Zq8))
   have q1:wr.cell? ⟨b,off+t*8+1,none⟩=some (.int .i64 o.g.k):=(hb.cell (by exact hbl)).trans (hc (t*8+1) _ (flat_at ocells_len l t o 1 ho Zq8))
   have q2:wr.cell? ⟨b,off+t*8+2,none⟩=some (.int .i64 o.g.a):=(hb.cell (by exact hbl)).trans (hc (t*8+2) _ (flat_at ocells_len l t o 2 ho Zq8))
   have q3:wr.cell? ⟨b,off+t*8+3,none⟩=some (.int .i64 o.g.b):=(hb.cell (by exact hbl)).trans (hc (t*8+3) _ (flat_at ocells_len l t o 3 ho Zq8))
   have q4:wr.cell? ⟨b,off+t*8+4,none⟩=some (.int .i64 o.g.c):=(hb.cell (by exact hbl)).trans (hc (t*8+4) _ (flat_at ocells_len l t o 4 ho Zq8))
   have q5:wr.cell? ⟨b,off+t*8+5,none⟩=some (.int .i64 o.q):=(hb.cell (by exact hbl)).trans (hc (t*8+5) _ (flat_at ocells_len l t o 5 ho Zq8))
   have q6:wr.cell? ⟨b,off+t*8+6,none⟩=some (.int .i64 o.bit):=(hb.cell (by exact hbl)).trans (hc (t*8+6) _ (flat_at ocells_len l t o 6 ho Zq8))
   have q7:wr.cell? ⟨b,off+t*8+7,none⟩=some (.int .i64 o.cond):=(hb.cell (by exact hbl)).trans (hc (t*8+7) _ (flat_at ocells_len l t o 7 ho Zq8))
   have HG:=hD ho
   have HC0:=hD hc
   clear hc ho htl
   cases hk:(o.k==1)
   ·have hk':(o.k != 1)=true:=by simp only[bne,hk];rfl
    have HS:=hD (cos_step HC.out HG.out (coB_not q hk))
    have HO:=hD (coL_not q hk)
    clear hk
    go_wp2_with (at_builtin;refine wpList_append_rd _ rfl _ _ 38 rfl w.heap.size 104 i0 _ 8 64 Tryz.underlying38 hi hz0 hz1 hz2 rfl Zq8 _ _ _ rfl (hown.alloc _) _ 1 1 _ rfl (rd_lit ?c0 rfl) ?c2 ?c3 ?c4 ?c5 ?_)
    case c0=>first|rfl|simp
    case c2=>repeat' (first|rfl|apply And.intro)
    case c3=>simp only[maxLen];omega
    case c4=>omega
    case c5=>have:=hb.size;simp;omega
    intro v3 w3 own3 gr3 _
    have b3:=(hb.alloc hb.size _).grown gr3 (by have:=hb.size;simp;omega) (own_ge hown)
    clear hown gr3
    go_wp2_with fail
    go_roundw
    case rel =>
     refine ⟨t+1,_,by omega,by go_num,HS.out,?_,b3⟩
     rw[HO.out,List.flatMap_append,List.length_append]
     exact own3
    case measure=>simp [intOf];omega
   have hk':(o.k != 1)=false:=by simp only[bne,hk];rfl
   have HK:=hD hk
   clear hk
   go_wp2_with fail
   refine(ControlledGate_spec2 _ _ _ _ _ _).mono ?_
   rintro e w2 ⟨v2,rfl,own2,hb2,hs2⟩
   (try simp at hs2)
   obtain ⟨A2,c2,rfl,_,_,r2⟩:=rd_of_own own2
   have hown2:=ownsRow_below (hown) hb2
   have hb2':Below w.heap.size w w2:=hb.trans (hb2.mono hb.size)
   have hd2:=cgL_len q ⟨o.g.k,o.g.a,o.g.b,o.g.c⟩
   clear q0 q1 q2 q3 q4 q5 q6 q7
   have z7:w2.cell? ⟨b,off+t*8+7,none⟩=some (.int .i64 o.cond):=(hb2'.cell (by exact hbl)).trans (HC0.out (t*8+7) _ (flat_at ocells_len l t o 7 HG.out Zq8))
   clear hown own2 hb2
   cases hk:cgB q ⟨o.g.k,o.g.a,o.g.b,o.g.c⟩
   ·have HF:=hD (os_none (l:=l) HG.out (coB_gate HK.out hk))
    go_wp2_with fail
    go_ret2
    rw[show osB q l=false from HF.out.1,show osL q l=[] from HF.out.2]
    exact retRow2_lit hb2'.size hb2' rfl (by simp [maxLen]) rfl rfl
   ·have HS:=hD (cos_step HC.out HG.out (coB_gate HK.out hk))
    have HO:=hD (coL_gate q HK.out)
    go_wp2_with fail
    refine(GateOps_spec _ _ _ (cgL q ⟨o.g.k,o.g.a,o.g.b,o.g.c⟩) _ _ r2 rfl Zq6).mono ?_
    rintro e w3 ⟨v3,rfl,own3,hb3,hs3⟩
    obtain ⟨A3,c3,rfl,_,_,r3⟩:=rd_of_own own3
    have hown3:=ownsRow_below hown2 hb3
    have hb3':Below w.heap.size w w3:=hb2'.trans (hb3.mono hb2'.size)
    clear own3 hown2 r2
    go_wp2_with (at_builtin;refine wpList_append_rd _ rfl _ _ 38 rfl w.heap.size 104 i0 _ 8 64 Tryz.underlying38 hi hz0 hz1 hz2 rfl Zq8 _ _ _ rfl hown3 _ _ _ _ rfl r3 (one_flat ocells_one _) ?c3 ?c4 ?c5 ?_)
    case c3=>simp only[maxLen];omega
    case c4=>omega
    case c5=>exact hb3'.size
    intro v4 w4 own4 gr4 _
    have b4:=hb3'.grown gr4 hb3'.size (own_ge hown3)
    clear hown3 gr4 r3
    go_wp2_with fail
    go_roundw
    case rel =>
     refine ⟨t+1,_,by omega,by go_num,HS.out,?_,b4⟩
     rw[HO.out,List.flatMap_append,List.length_append,List.length_map]
     exact own4
    case measure=>simp [intOf];omega
  ·obtain rfl:t=n:=by omega
   have HF:Hid (osB q l=true∧osL q l=L):=by
    have h:=HC.out
    rw[List.take_of_length_le (by rw[HL.out];exact Nat.le_refl _)] at h
    exact ⟨by rw[osB,h];rfl,by rw[osL,h];rfl⟩
   go_wp2
   go_ret2
   rw[HF.out.1,HF.out.2]
   exact ⟨_,rfl,hown,hb,hb.size⟩
theorem ControlledOps_impl (q:Int) (A:Option Addr) (n c:Nat) (l:List Opt) (w:World) (h:Rd w 8 A n (l.flatMap ocells)) (hl:l.length=n) (hn:n≤1073741824) :
  Calls Tryz.prog 153 #[.int .i64 q,.slice A n c] w (RetRow2 104 8 w (osB q l) (osL q l).length ((osL q l).flatMap ocells)):=by
 obtain ⟨i0,hi,hz0,hz1,hz2⟩:=info_parts info_OpE
 have H:=hD h
 have HL:=hD hl
 clear h hl
 go_enter Tryz.func153,Tryz.ntmps153
 go_wp2
 go_loopw [6,14] (fun v i wr=>∃ (t:Nat) (L:List Opt),t≤n∧i=.int .i64 t∧cos q (l.take t)=some L∧wr.ownsRow w.heap.size 104 8 v L.length (L.flatMap ocells)∧Below w.heap.size w wr) (fun _ i _=>n - (intOf i).toNat)
 case atStart=>exact ⟨0,[],Nat.zero_le _,rfl,rfl,by simpa using own_empty w _ 8,Zq0⟩
 case round =>
  obtain ⟨t,L,ht,rfl,hcg,hown,hb⟩:=hrel
  have hd1:=cos_len hcg
  have hd3:=List.length_take_le t l
  have hd:L.length≤t*7:=Nat.le_trans hd1 (Nat.mul_le_mul_right _ hd3)
  have HC:=hD hcg
  clear hcg hd1 hd3
  by_cases hlt:t<n
  ·have htl:t<l.length:=by rw[HL.out];exact hlt
   obtain ⟨o,ho⟩:∃ o,l[t]?=some o:=⟨_,List.getElem?_eq_getElem htl⟩
   obtain ⟨b,off,rfl,hbl,hc⟩:=H.out.2 Zq6
   have q0:wr.cell? ⟨b,off+t*8,none⟩=some (.int .i64 o.k):=(hb.cell (by exact hbl)).trans (hc (t*8+0) _ (flat_at ocells_len l t o 0 ho Zq8))
   have q1:wr.cell? ⟨b,off+t*8+1,none⟩=some (.int .i64 o.g.k):=(hb.cell (by exact hbl)).trans (hc (t*8+1) _ (flat_at ocells_len l t o 1 ho Zq8))
   have q2:wr.cell? ⟨b,off+t*8+2,none⟩=some (.int .i64 o.g.a):=(hb.cell (by exact hbl)).trans (hc (t*8+2) _ (flat_at ocells_len l t o 2 ho Zq8))
   have q3:wr.cell? ⟨b,off+t*8+3,none⟩=some (.int .i64 o.g.b):=(hb.cell (by exact hbl)).trans (hc (t*8+3) _ (flat_at ocells_len l t o 3 ho Zq8))
   have q4:wr.cell? ⟨b,off+t*8+4,none⟩=some (.int .i64 o.g.c):=(hb.cell (by exact hbl)).trans (hc (t*8+4) _ (flat_at ocells_len l t o 4 ho Zq8))
   have q5:wr.cell? ⟨b,off+t*8+5,none⟩=some (.int .i64 o.q):=(hb.cell (by exact hbl)).trans (hc (t*8+5) _ (flat_at ocells_len l t o 5 ho Zq8))
   have q6:wr.cell? ⟨b,off+t*8+6,none⟩=some (.int .i64 o.bit):=(hb.cell (by exact hbl)).trans (hc (t*8+6) _ (flat_at ocells_len l t o 6 ho Zq8))
   have q7:wr.cell? ⟨b,off+t*8+7,none⟩=some (.int .i64 o.cond):=(hb.cell (by exact hbl)).trans (hc (t*8+7) _ (flat_at ocells_len l t o 7 ho Zq8))
   have HG:=hD ho
   have HC0:=hD hc
   clear hc ho htl
   cases hk:(o.k==1)
   ·have hk':(o.k != 1)=true:=by simp only[bne,hk];rfl
    have HS:=hD (cos_step HC.out HG.out (coB_not q hk))
    have HO:=hD (coL_not q hk)
    clear hk
    go_wp2_with (at_builtin;refine wpList_append_rd _ rfl _ _ 38 rfl w.heap.size 104 i0 _ 8 64 Tryz.underlying38 hi hz0 hz1 hz2 rfl Zq8 _ _ _ rfl ((hown.alloc _).alloc _) _ 1 1 _ rfl (rd_lit ?c0 rfl) ?c2 ?c3 ?c4 ?c5 ?_)
    case c0=>first|rfl|simp
    case c2=>repeat' (first|rfl|apply And.intro)
    case c3=>simp only[maxLen];omega
    case c4=>omega
    case c5=>have:=hb.size;simp;omega
    intro v3 w3 own3 gr3 _
    have b3:=((hb.alloc hb.size _).alloc (by have:=hb.size;simp;omega) _).grown gr3 (by have:=hb.size;simp;omega) (own_ge hown)
    clear hown gr3
    go_wp2_with fail
    go_roundw
    case rel =>
     refine ⟨t+1,_,by omega,by go_num,HS.out,?_,b3⟩
     rw[HO.out,List.flatMap_append,List.length_append]
     exact own3
    case measure=>simp [intOf];omega
   have hk':(o.k != 1)=false:=by simp only[bne,hk];rfl
   have HK:=hD hk
   clear hk
   go_wp2_with fail
   refine(ControlledGate_impl2 _ _ _ _ _ _).mono ?_
   rintro e w2 ⟨v2,rfl,own2,hb2,hs2⟩
   (try simp at hs2)
   obtain ⟨A2,c2,rfl,_,_,r2⟩:=rd_of_own own2
   have hown2:=ownsRow_below (hown.alloc _) hb2
   have hb2':Below w.heap.size w w2:=(hb.alloc hb.size _).trans (hb2.mono (by have:=hb.size;simp;omega))
   have hd2:=cgL_len q ⟨o.g.k,o.g.a,o.g.b,o.g.c⟩
   clear q0 q1 q2 q3 q4 q5 q6 q7
   obtain ⟨z0,z1,z2,z3,z4,z5,z6,z7⟩:=boxcells8 (lay:=hb2) (boxed1_0 _ _)
   clear hown own2 hb2
   cases hk:cgB q ⟨o.g.k,o.g.a,o.g.b,o.g.c⟩
   ·have HF:=hD (os_none (l:=l) HG.out (coB_gate HK.out hk))
    go_wp2_with fail
    go_ret2
    rw[show osB q l=false from HF.out.1,show osL q l=[] from HF.out.2]
    exact retRow2_nil hb2'.size hb2'
   ·have HS:=hD (cos_step HC.out HG.out (coB_gate HK.out hk))
    have HO:=hD (coL_gate q HK.out)
    go_wp2_with fail
    refine(GateOps_impl _ _ _ (cgL q ⟨o.g.k,o.g.a,o.g.b,o.g.c⟩) _ _ r2 rfl Zq6).mono ?_
    rintro e w3 ⟨v3,rfl,own3,hb3,hs3⟩
    obtain ⟨A3,c3,rfl,_,_,r3⟩:=rd_of_own own3
    have hown3:=ownsRow_below hown2 hb3
    have hb3':Below w.heap.size w w3:=hb2'.trans (hb3.mono hb2'.size)
    clear own3 hown2 r2
    go_wp2_with (at_builtin;refine wpList_append_rd _ rfl _ _ 38 rfl w.heap.size 104 i0 _ 8 64 Tryz.underlying38 hi hz0 hz1 hz2 rfl Zq8 _ _ _ rfl hown3 _ _ _ _ rfl r3 (one_flat ocells_one _) ?c3 ?c4 ?c5 ?_)
    case c3=>simp only[maxLen];omega
    case c4=>omega
    case c5=>exact hb3'.size
    intro v4 w4 own4 gr4 _
    have b4:=hb3'.grown gr4 hb3'.size (own_ge hown3)
    clear hown3 gr4 r3
    go_wp2_with fail
    go_roundw
    case rel =>
     refine ⟨t+1,_,by omega,by go_num,HS.out,?_,b4⟩
     rw[HO.out,List.flatMap_append,List.length_append,List.length_map]
     exact own4
    case measure=>simp [intOf];omega
  ·obtain rfl:t=n:=by omega
   have HF:Hid (osB q l=true∧osL q l=L):=by
    have h:=HC.out
    rw[List.take_of_length_le (by rw[HL.out];exact Nat.le_refl _)] at h
    exact ⟨by rw[osB,h];rfl,by rw[osL,h];rfl⟩
   go_wp2
   go_ret2
   rw[HF.out.1,HF.out.2]
   exact ⟨_,rfl,hown,hb,hb.size⟩
def invO (o:Opt):Opt:=if o.k=1 then ⟨o.k,invG o.g,o.q,o.bit,o.cond⟩ else o
def adjO (l:List Opt):List Opt:=(l.map invO).reverse
theorem adj_step (l:List Opt) (s:Nat) (o:Opt) (h:l[s]?=some o):adjO (l.drop s)=adjO (l.drop (s+1))++[invO o]:=by
 have hs:=(List.getElem?_eq_some_iff.1 h).1
 have e:l[s]=o:=(List.getElem?_eq_some_iff.1 h).2
 rw[List.drop_eq_getElem_cons hs,e]
 simp [adjO]
def repO (l:List Opt) (t:Nat):List Opt:=(List.replicate t l).flatten
def reps (k:Int):Nat:=(min k 9).toNat
theorem rep_step (l:List Opt) (t:Nat):repO l (t+1)=repO l t++l:=by
 simp [repO,List.replicate_succ']
theorem rep_len (l:List Opt) (t:Nat):(repO l t).length=t*l.length:=by
 simp [repO]
theorem AdjointOps_spec (A:Option Addr) (n c:Nat) (l:List Opt) (w:World) (h:Rd w 8 A n (l.flatMap ocells)) (hl:l.length=n) (hn:n≤1073741824) :
  Calls Tryz.prog 141 #[.slice A n c] w (RetRow 104 8 w n ((adjO l).flatMap ocells)):=by
 obtain ⟨i0,hi,hz0,hz1,hz2⟩:=info_parts info_OpE
 have H:=hD h
 have HL:=hD hl
 clear h hl
 go_enter Tryz.func141,Tryz.ntmps141
 go_wp2
 go_loopw [3,4] (fun v i wr=>∃ t:Nat,t≤n∧i=.int .i64 ((t:Int) - 1)∧wr.ownsRow w.heap.size 104 8 v (n - t) ((adjO (l.drop t)).flatMap ocells)∧Below w.heap.size w wr) (fun _ i _=>(intOf i+1).toNat)
 case atStart=>exact ⟨n,Nat.le_refl _,rfl,by rw[List.drop_of_length_le (by rw[HL.out];exact Nat.le_refl _),Nat.sub_self];exact own_empty w _ 8,Zq0⟩
 case round =>
  obtain ⟨t,ht,hit,hown,hb⟩:=hrel
  rcases t with _|s
  ·subst hit
   have HF:Hid (adjO (l.drop 0)=adjO l):=by rw[List.drop_zero];exact rfl
   go_wp2
   go_ret
   exact ⟨_,rfl,by rw[HF.out,Nat.sub_zero] at hown;exact hown,hb,hb.size⟩
  ·have hit':=hit.trans (show Value.int .i64 (((s+1:Nat):Int) - 1)=.int .i64 (s:Int) by congr 1;omega)
   subst hit'
   clear hit
   have hsl:s<l.length:=by rw[HL.out];omega
   obtain ⟨o,ho⟩:∃ o,l[s]?=some o:=⟨_,List.getElem?_eq_getElem hsl⟩
   obtain ⟨b,off,rfl,hbl,hc⟩:=H.out.2 Zq6
   have q0:wr.cell? ⟨b,off+s*8,none⟩=some (.int .i64 o.k):=(hb.cell (by exact hbl)).trans (hc (s*8+0) _ (flat_at ocells_len l s o 0 ho Zq8))
   have q1:wr.cell? ⟨b,off+s*8+1,none⟩=some (.int .i64 o.g.k):=(hb.cell (by exact hbl)).trans (hc (s*8+1) _ (flat_at ocells_len l s o 1 ho Zq8))
   have q2:wr.cell? ⟨b,off+s*8+2,none⟩=some (.int .i64 o.g.a):=(hb.cell (by exact hbl)).trans (hc (s*8+2) _ (flat_at ocells_len l s o 2 ho Zq8))
   have q3:wr.cell? ⟨b,off+s*8+3,none⟩=some (.int .i64 o.g.b):=(hb.cell (by exact hbl)).trans (hc (s*8+3) _ (flat_at ocells_len l s o 3 ho Zq8))
   have q4:wr.cell? ⟨b,off+s*8+4,none⟩=some (.int .i64 o.g.c):=(hb.cell (by exact hbl)).trans (hc (s*8+4) _ (flat_at ocells_len l s o 4 ho Zq8))
   have q5:wr.cell? ⟨b,off+s*8+5,none⟩=some (.int .i64 o.q):=(hb.cell (by exact hbl)).trans (hc (s*8+5) _ (flat_at ocells_len l s o 5 ho Zq8))
   have q6:wr.cell? ⟨b,off+s*8+6,none⟩=some (.int .i64 o.bit):=(hb.cell (by exact hbl)).trans (hc (s*8+6) _ (flat_at ocells_len l s o 6 ho Zq8))
   have q7:wr.cell? ⟨b,off+s*8+7,none⟩=some (.int .i64 o.cond):=(hb.cell (by exact hbl)).trans (hc (s*8+7) _ (flat_at ocells_len l s o 7 ho Zq8))
   have HO:=hD ho
   obtain ⟨L,hL⟩:∃ L,L=(adjO (l.drop (s+1))).flatMap ocells:=⟨_,rfl⟩
   rw[←hL] at hown
   have HL2:=hD hL
   clear hc ho hsl hL
   by_cases hk:o.k=1
   ·have hk':(o.k==1)=true:=by simp [hk]
    have HK:=hD (show invO o=⟨o.k,⟨invk o.g.k,o.g.a,o.g.b,o.g.c⟩,o.q,o.bit,o.cond⟩ by rw[invO,if_pos hk];rfl)
    clear hk
    go_wp2_with (first|(go_at_call 168;refine(InverseGate_spec _ _ _ _ _).mono ?_;rintro e w' ⟨rfl,rfl⟩)|(at_builtin;refine wpList_append_rd _ rfl _ _ 38 rfl w.heap.size 104 i0 _ 8 64 Tryz.underlying38 hi hz0 hz1 hz2 rfl Zq8 _ _ _ rfl ((((hown.alloc _).alloc _).alloc _).alloc _) _ 1 1 _ rfl (rd_lit ?c0 rfl) ?c2 ?c3 ?c4 ?c5 ?_))
    case c0=>first|rfl|simp
    case c2=>repeat' (first|rfl|apply And.intro)
    case c3=>simp only[maxLen];omega
    case c4=>omega
    case c5=>have:=hb.size;simp;omega
    intro v3 w3 own3 gr3 _
    have b3:=((((hb.alloc hb.size _).alloc (by have:=hb.size;simp;omega) _).alloc (by have:=hb.size;simp;omega) _).alloc (by have:=hb.size;simp;omega) _).grown gr3 (by have:=hb.size;simp;omega) (own_ge hown)
    clear hown gr3
    go_wp2
    go_roundw
    case rel =>
     refine ⟨s,by omega,rfl,?_,b3⟩
     rw[adj_step l s o HO.out,List.flatMap_append,←HL2.out,show n - s=n - (s+1)+1 from by omega]
     rw[HK.out]
     exact own3
    case measure=>first|(simp [intOf];done)|(simp [intOf];omega)
   ·have hk':(o.k==1)=false:=by simp [hk]
    have HK:=hD (show invO o=o by rw[invO,if_neg hk])
    clear hk
    go_wp2_with (first|(go_at_call 168;refine(InverseGate_spec _ _ _ _ _).mono ?_;rintro e w' ⟨rfl,rfl⟩)|(at_builtin;refine wpList_append_rd _ rfl _ _ 38 rfl w.heap.size 104 i0 _ 8 64 Tryz.underlying38 hi hz0 hz1 hz2 rfl Zq8 _ _ _ rfl ((hown.alloc _).alloc _) _ 1 1 _ rfl (rd_lit ?c0 rfl) ?c2 ?c3 ?c4 ?c5 ?_))
    case c0=>first|rfl|simp
    case c2=>repeat' (first|rfl|apply And.intro)
    case c3=>simp only[maxLen];omega
    case c4=>omega
    case c5=>have:=hb.size;simp;omega
    intro v3 w3 own3 gr3 _
    have b3:=((hb.alloc hb.size _).alloc (by have:=hb.size;simp;omega) _).grown gr3 (by have:=hb.size;simp;omega) (own_ge hown)
    clear hown gr3
    go_wp2
    go_roundw
    case rel =>
     refine ⟨s,by omega,rfl,?_,b3⟩
     rw[adj_step l s o HO.out,List.flatMap_append,←HL2.out,show n - s=n - (s+1)+1 from by omega]
     rw[HK.out]
     exact own3
    case measure=>first|(simp [intOf];done)|(simp [intOf];omega)
theorem AdjointOps_impl (A:Option Addr) (n c:Nat) (l:List Opt) (w:World) (h:Rd w 8 A n (l.flatMap ocells)) (hl:l.length=n) (hn:n≤1073741824) :
  Calls Tryz.prog 152 #[.slice A n c] w (RetRow 104 8 w n ((adjO l).flatMap ocells)):=by
 obtain ⟨i0,hi,hz0,hz1,hz2⟩:=info_parts info_OpE
 have H:=hD h
 have HL:=hD hl
 clear h hl
 go_enter Tryz.func152,Tryz.ntmps152
 go_wp2
 go_loopw [3,4] (fun v i wr=>∃ t:Nat,t≤n∧i=.int .i64 ((t:Int) - 1)∧wr.ownsRow w.heap.size 104 8 v (n - t) ((adjO (l.drop t)).flatMap ocells)∧Below w.heap.size w wr) (fun _ i _=>(intOf i+1).toNat)
 case atStart=>exact ⟨n,Nat.le_refl _,rfl,by rw[List.drop_of_length_le (by rw[HL.out];exact Nat.le_refl _),Nat.sub_self];exact own_empty w _ 8,Zq0⟩
 case round =>
  obtain ⟨t,ht,hit,hown,hb⟩:=hrel
  rcases t with _|s
  ·subst hit
   have HF:Hid (adjO (l.drop 0)=adjO l):=by rw[List.drop_zero];exact rfl
   go_wp2
   go_ret
   exact ⟨_,rfl,by rw[HF.out,Nat.sub_zero] at hown;exact hown,hb,hb.size⟩
  ·have hit':=hit.trans (show Value.int .i64 (((s+1:Nat):Int) - 1)=.int .i64 (s:Int) by congr 1;omega)
   subst hit'
   clear hit
   have hsl:s<l.length:=by rw[HL.out];omega
   obtain ⟨o,ho⟩:∃ o,l[s]?=some o:=⟨_,List.getElem?_eq_getElem hsl⟩
   obtain ⟨b,off,rfl,hbl,hc⟩:=H.out.2 Zq6
   have q0:wr.cell? ⟨b,off+s*8,none⟩=some (.int .i64 o.k):=(hb.cell (by exact hbl)).trans (hc (s*8+0) _ (flat_at ocells_len l s o 0 ho Zq8))
   have q1:wr.cell? ⟨b,off+s*8+1,none⟩=some (.int .i64 o.g.k):=(hb.cell (by exact hbl)).trans (hc (s*8+1) _ (flat_at ocells_len l s o 1 ho Zq8))
   have q2:wr.cell? ⟨b,off+s*8+2,none⟩=some (.int .i64 o.g.a):=(hb.cell (by exact hbl)).trans (hc (s*8+2) _ (flat_at ocells_len l s o 2 ho Zq8))
   have q3:wr.cell? ⟨b,off+s*8+3,none⟩=some (.int .i64 o.g.b):=(hb.cell (by exact hbl)).trans (hc (s*8+3) _ (flat_at ocells_len l s o 3 ho Zq8))
   have q4:wr.cell? ⟨b,off+s*8+4,none⟩=some (.int .i64 o.g.c):=(hb.cell (by exact hbl)).trans (hc (s*8+4) _ (flat_at ocells_len l s o 4 ho Zq8))
   have q5:wr.cell? ⟨b,off+s*8+5,none⟩=some (.int .i64 o.q):=(hb.cell (by exact hbl)).trans (hc (s*8+5) _ (flat_at ocells_len l s o 5 ho Zq8))
   have q6:wr.cell? ⟨b,off+s*8+6,none⟩=some (.int .i64 o.bit):=(hb.cell (by exact hbl)).trans (hc (s*8+6) _ (flat_at ocells_len l s o 6 ho Zq8))
   have q7:wr.cell? ⟨b,off+s*8+7,none⟩=some (.int .i64 o.cond):=(hb.cell (by exact hbl)).trans (hc (s*8+7) _ (flat_at ocells_len l s o 7 ho Zq8))
   have HO:=hD ho
   obtain ⟨L,hL⟩:∃ L,L=(adjO (l.drop (s+1))).flatMap ocells:=⟨_,rfl⟩
   rw[←hL] at hown
   have HL2:=hD hL
   clear hc ho hsl hL
   by_cases hk:o.k=1
   ·have hk':(o.k==1)=true:=by simp [hk]
    have HK:=hD (show invO o=⟨o.k,⟨invk o.g.k,o.g.a,o.g.b,o.g.c⟩,o.q,o.bit,o.cond⟩ by rw[invO,if_pos hk];rfl)
    clear hk
    go_wp2_with (first|(go_at_call 175;refine(InverseGate_impl _ _ _ _ _).mono ?_;rintro e w' ⟨rfl,rfl⟩)|(at_builtin;refine wpList_append_rd _ rfl _ _ 38 rfl w.heap.size 104 i0 _ 8 64 Tryz.underlying38 hi hz0 hz1 hz2 rfl Zq8 _ _ _ rfl ((((hown.alloc _).alloc _).alloc _).alloc _) _ 1 1 _ rfl (rd_lit ?c0 rfl) ?c2 ?c3 ?c4 ?c5 ?_))
    case c0=>first|rfl|simp
    case c2=>repeat' (first|rfl|apply And.intro)
    case c3=>simp only[maxLen];omega
    case c4=>omega
    case c5=>have:=hb.size;simp;omega
    intro v3 w3 own3 gr3 _
    have b3:=((((hb.alloc hb.size _).alloc (by have:=hb.size;simp;omega) _).alloc (by have:=hb.size;simp;omega) _).alloc (by have:=hb.size;simp;omega) _).grown gr3 (by have:=hb.size;simp;omega) (own_ge hown)
    clear hown gr3
    go_wp2
    go_roundw
    case rel =>
     refine ⟨s,by omega,rfl,?_,b3⟩
     rw[adj_step l s o HO.out,List.flatMap_append,←HL2.out,show n - s=n - (s+1)+1 from by omega]
     rw[HK.out]
     exact own3
    case measure=>first|(simp [intOf];done)|(simp [intOf];omega)
   ·have hk':(o.k==1)=false:=by simp [hk]
    have HK:=hD (show invO o=o by rw[invO,if_neg hk])
    clear hk
    go_wp2_with (first|(go_at_call 175;refine(InverseGate_impl _ _ _ _ _).mono ?_;rintro e w' ⟨rfl,rfl⟩)|(at_builtin;refine wpList_append_rd _ rfl _ _ 38 rfl w.heap.size 104 i0 _ 8 64 Tryz.underlying38 hi hz0 hz1 hz2 rfl Zq8 _ _ _ rfl ((hown.alloc _).alloc _) _ 1 1 _ rfl (rd_lit ?c0 rfl) ?c2 ?c3 ?c4 ?c5 ?_))
    case c0=>first|rfl|simp
    case c2=>repeat' (first|rfl|apply And.intro)
    case c3=>simp only[maxLen];omega
    case c4=>omega
    case c5=>have:=hb.size;simp;omega
    intro v3 w3 own3 gr3 _
    have b3:=((hb.alloc hb.size _).alloc (by have:=hb.size;simp;omega) _).grown gr3 (by have:=hb.size;simp;omega) (own_ge hown)
    clear hown gr3
    go_wp2
    go_roundw
    case rel =>
     refine ⟨s,by omega,rfl,?_,b3⟩
     rw[adj_step l s o HO.out,List.flatMap_append,←HL2.out,show n - s=n - (s+1)+1 from by omega]
     rw[HK.out]
     exact own3
    case measure=>first|(simp [intOf];done)|(simp [intOf];omega)
theorem RepeatOps_spec (A:Option Addr) (n c:Nat) (l:List Opt) (k:Int) (w:World) (h:Rd w 8 A n (l.flatMap ocells)) (hl:l.length=n) (hn:n≤1073741824) :
  Calls Tryz.prog 140 #[.slice A n c,.int .i64 k] w (RetRow 104 8 w ((reps k)*n) ((repO l (reps k)).flatMap ocells)):=by
 obtain ⟨i0,hi,hz0,hz1,hz2⟩:=info_parts info_OpE
 obtain ⟨m,hm⟩:∃ m,m=reps k:=⟨_,rfl⟩
 rw[←hm]
 have hm9:m≤9:=by rw[hm];unfold reps;omega
 have HM:Hid (m=(min k 9).toNat):=hm
 have H:=hD h
 clear h hl hm
 go_enter Tryz.func140,Tryz.ntmps140
 go_wp2
 go_loopw [5,6] (fun v i wr=>∃ t:Nat,t≤m∧i=.int .i64 t∧wr.ownsRow w.heap.size 104 8 v (t*n) ((repO l t).flatMap ocells)∧Below w.heap.size w wr) (fun _ i _=>9 - (intOf i).toNat)
 case atStart=>exact ⟨0,Nat.zero_le _,rfl,by simpa [repO] using own_empty w _ 8,Zq0⟩
 case round =>
  obtain ⟨t,ht,rfl,hown,hb⟩:=hrel
  have hmn:t*n≤9*n:=Nat.mul_le_mul_right _ Zq6
  obtain ⟨L,hL⟩:∃ L,L=(repO l t).flatMap ocells:=⟨_,rfl⟩
  rw[←hL] at hown
  have HL2:=hD hL
  obtain ⟨N,hN⟩:∃ N,N=t*n:=⟨_,rfl⟩
  rw[←hN] at hown hmn
  have HN:=hD hN
  clear hL hN
  by_cases hlt:t<m
  ·have hk1:(t:Int)<k:=by have:=HM.out;omega
   have hk2:(t:Int)<9:=by omega
   have hr:=H.out.below hb
   go_wp2_with (at_builtin;refine wpList_append_rd _ rfl _ _ 38 rfl w.heap.size 104 i0 _ 8 64 Tryz.underlying38 hi hz0 hz1 hz2 rfl Zq8 _ _ _ rfl hown _ _ _ _ rfl hr (one_flat ocells_one _) ?c3 ?c4 ?c5 ?_)
   case c3=>simp only[maxLen];omega
   case c4=>omega
   case c5=>exact hb.size
   intro v3 w3 own3 gr3 _
   have b3:=hb.grown gr3 hb.size (own_ge hown)
   clear hown gr3 hr
   go_wp2
   go_roundw
   case rel =>
    refine ⟨t+1,by omega,by go_num,?_,b3⟩
    rw[rep_step,List.flatMap_append,←HL2.out,Nat.add_mul,Nat.one_mul,←HN.out]
    exact own3
   case measure=>simp [intOf];omega
  ·obtain rfl:t=m:=by omega
   by_cases hk:k≤t
   ·have hk1:decide ((t:Int)<k)=false:=by simp;omega
    go_wp2
    go_ret
    exact ⟨_,rfl,by rw[HL2.out,HN.out] at hown;exact hown,hb,hb.size⟩
   ·have hk2:t=9:=by have:=HM.out;omega
    subst hk2
    have hk3:(9:Int)<k:=by omega
    go_wp2
    go_ret
    exact ⟨_,rfl,by rw[HL2.out,HN.out] at hown;exact hown,hb,hb.size⟩
theorem RepeatOps_impl (A:Option Addr) (n c:Nat) (l:List Opt) (k:Int) (w:World) (h:Rd w 8 A n (l.flatMap ocells)) (hl:l.length=n) (hn:n≤1073741824) :
  Calls Tryz.prog 151 #[.slice A n c,.int .i64 k] w (RetRow 104 8 w ((reps k)*n) ((repO l (reps k)).flatMap ocells)):=by
 obtain ⟨i0,hi,hz0,hz1,hz2⟩:=info_parts info_OpE
 obtain ⟨m,hm⟩:∃ m,m=reps k:=⟨_,rfl⟩
 rw[←hm]
 have hm9:m≤9:=by rw[hm];unfold reps;omega
 have HM:Hid (m=(min k 9).toNat):=hm
 have H:=hD h
 clear h hl hm
 go_enter Tryz.func151,Tryz.ntmps151
 go_wp2
 go_loopw [5,6] (fun v i wr=>∃ t:Nat,t≤m∧i=.int .i64 t∧wr.ownsRow w.heap.size 104 8 v (t*n) ((repO l t).flatMap ocells)∧Below w.heap.size w wr) (fun _ i _=>9 - (intOf i).toNat)
 case atStart=>exact ⟨0,Nat.zero_le _,rfl,by simpa [repO] using own_empty w _ 8,Zq0⟩
 case round =>
  obtain ⟨t,ht,rfl,hown,hb⟩:=hrel
  have hmn:t*n≤9*n:=Nat.mul_le_mul_right _ Zq6
  obtain ⟨L,hL⟩:∃ L,L=(repO l t).flatMap ocells:=⟨_,rfl⟩
  rw[←hL] at hown
  have HL2:=hD hL
  obtain ⟨N,hN⟩:∃ N,N=t*n:=⟨_,rfl⟩
  rw[←hN] at hown hmn
  have HN:=hD hN
  clear hL hN
  by_cases hlt:t<m
  ·have hk1:(t:Int)<k:=by have:=HM.out;omega
   have hk2:(t:Int)<9:=by omega
   by_cases hk9:k≤9
   ·have hk9':k≤9:=hk9
    have hr:=H.out.below hb
    go_wp2_with (at_builtin;refine wpList_append_rd _ rfl _ _ 38 rfl w.heap.size 104 i0 _ 8 64 Tryz.underlying38 hi hz0 hz1 hz2 rfl Zq8 _ _ _ rfl hown _ _ _ _ rfl hr (one_flat ocells_one _) ?c3 ?c4 ?c5 ?_)
    case c3=>simp only[maxLen];omega
    case c4=>omega
    case c5=>exact hb.size
    intro v3 w3 own3 gr3 _
    have b3:=hb.grown gr3 hb.size (own_ge hown)
    clear hown gr3 hr
    go_wp2
    go_roundw
    case rel =>
     refine ⟨t+1,by omega,by go_num,?_,b3⟩
     rw[rep_step,List.flatMap_append,←HL2.out,Nat.add_mul,Nat.one_mul,←HN.out]
     exact own3
    case measure=>simp [intOf];omega
   ·have hk9':9<k:=by omega
    have hr:=H.out.below hb
    go_wp2_with (at_builtin;refine wpList_append_rd _ rfl _ _ 38 rfl w.heap.size 104 i0 _ 8 64 Tryz.underlying38 hi hz0 hz1 hz2 rfl Zq8 _ _ _ rfl hown _ _ _ _ rfl hr (one_flat ocells_one _) ?c3 ?c4 ?c5 ?_)
    case c3=>simp only[maxLen];omega
    case c4=>omega
    case c5=>exact hb.size
    intro v3 w3 own3 gr3 _
    have b3:=hb.grown gr3 hb.size (own_ge hown)
    clear hown gr3 hr
    go_wp2
    go_roundw
    case rel =>
     refine ⟨t+1,by omega,by go_num,?_,b3⟩
     rw[rep_step,List.flatMap_append,←HL2.out,Nat.add_mul,Nat.one_mul,←HN.out]
     exact own3
    case measure=>simp [intOf];omega
  ·obtain rfl:t=m:=by omega
   by_cases hk:k≤t
   ·have hk1:decide ((t:Int)<k)=false:=by simp;omega
    go_wp2
    go_ret
    exact ⟨_,rfl,by rw[HL2.out,HN.out] at hown;exact hown,hb,hb.size⟩
   ·have hk2:t=9:=by have:=HM.out;omega
    subst hk2
    have hk3:(9:Int)<k:=by omega
    go_wp2
    go_ret
    exact ⟨_,rfl,by rw[HL2.out,HN.out] at hown;exact hown,hb,hb.size⟩
end Go.Proofs.YthkbckkghnbonaaGreatDoor
namespace Go.Proofs.YthkbckkghnbonaaGreatDoor
def eqSt (a b:ByteArray):Bool:=a.toList==b.toList
theorem toList_data (a:ByteArray):a.toList=a.data.toList:=Lib.toList_data a
theorem eqSt_refl (a:ByteArray):eqSt a a=true:=by simp [eqSt]
theorem eqSt_eq {a b:ByteArray} (h:eqSt a b=true):a=b:=by
 have h':a.toList=b.toList:=by simpa [eqSt] using h
 rw[toList_data,toList_data] at h'
 cases a
 cases b
 simp_all
end Go.Proofs.YthkbckkghnbonaaGreatDoor
namespace Go.Proofs.YthkbckkghnbonaaGreatDoor
open Go.RowKit
set_option linter.unusedVariables false
def hasS (l:List ByteArray) (s:ByteArray):Bool:=l.any fun x=>eqSt x s
theorem hasS_t {l:List ByteArray} {s x:ByteArray} {t:Nat} (h:l[t]?=some x) (he:eqSt x s=true):hasS l s=true:=List.any_eq_true.2 ⟨x,List.mem_of_getElem? h,he⟩
theorem hasS_step {l:List ByteArray} {s x:ByteArray} {t:Nat} (h:l[t]?=some x) (he:eqSt x s=false) (h0:hasS (l.take t) s=false):hasS (l.take (t+1)) s=false:=by
 unfold hasS at h0 ⊢
 rw[List.take_add_one,h]
 simp only[Option.toList_some,List.any_append,h0,List.any_cons,List.any_nil,he]
 rfl
theorem hasWord_any (A:Option Addr) (n c:Nat) (l:List ByteArray) (s:ByteArray) (w:World) (h:Rd w 1 A n (strs l)) (hl:l.length=n) (hn:n≤1099511627776) :
  Calls Tryz.prog 118 #[.slice A n c,.string s] w fun e w'=>e=.returned (.bool (hasS l s))∧w=w':=by
 have H:=hD h
 have HL:=hD hl
 clear h hl
 go_enter Tryz.func118,Tryz.ntmps118
 go_wp2
 go_loop [9] (fun i=>∃ t:Nat,t≤n∧i=.int .i64 t∧hasS (l.take t) s=false) (fun i=>n - (intOf i).toNat)
 case atStart=>exact ⟨0,Nat.zero_le _,rfl,rfl⟩
 case round =>
  obtain ⟨t,ht,rfl,hok⟩:=hrel
  have HOK:=hD hok
  clear hok
  by_cases hlt:t<n
  ·obtain ⟨x,hx⟩:∃ x,l[t]?=some x:=⟨_,List.getElem?_eq_getElem (by rw[HL.out];exact hlt)⟩
   obtain ⟨b,off,rfl,_,hc⟩:=H.out.2 Zq6
   have q0:=hc t _ (strs_at hx)
   have HX:=hD hx
   clear hc hx
   cases he:eqSt x s
   ·have hne:(x.toList==s.toList)=false:=he
    have HN:=hD (hasS_step HX.out he HOK.out)
    clear he
    go_wp2_with fail
    go_round
    case rel=>exact ⟨t+1,by omega,by go_num,HN.out⟩
    case measure=>simp [intOf];omega
   ·have hne:(x.toList==s.toList)=true:=he
    have HF:=hD (hasS_t HX.out he)
    clear he
    go_wp2_with fail
    go_ret
    exact ⟨by rw[HF.out];rfl,rfl⟩
  ·obtain rfl:t=n:=by omega
   have HF:Hid (hasS l s=false):=by
    have h:=HOK.out
    rw[List.take_of_length_le (by rw[HL.out];exact Nat.le_refl _)] at h
    exact h
   go_wp2_with fail
   go_ret
   exact ⟨by rw[HF.out];rfl,rfl⟩
theorem l1Has_any (A:Option Addr) (n c:Nat) (l:List ByteArray) (s:ByteArray) (w:World) (h:Rd w 1 A n (strs l)) (hl:l.length=n) (hn:n≤1099511627776) :
  Calls Tryz.prog 77 #[.slice A n c,.string s] w fun e w'=>e=.returned (.bool (hasS l s))∧w=w':=by
 have H:=hD h
 have HL:=hD hl
 clear h hl
 go_enter Tryz.func77,Tryz.ntmps77
 go_wp2
 go_loop [5] (fun i=>∃ t:Nat,t≤n∧i=.int .i64 t∧hasS (l.take t) s=false) (fun i=>n - (intOf i).toNat)
 case atStart=>exact ⟨0,Nat.zero_le _,rfl,rfl⟩
 case round =>
  obtain ⟨t,ht,rfl,hok⟩:=hrel
  have HOK:=hD hok
  clear hok
  by_cases hlt:t<n
  ·obtain ⟨x,hx⟩:∃ x,l[t]?=some x:=⟨_,List.getElem?_eq_getElem (by rw[HL.out];exact hlt)⟩
   obtain ⟨b,off,rfl,_,hc⟩:=H.out.2 Zq6
   have q0:=hc t _ (strs_at hx)
   have HX:=hD hx
   clear hc hx
   cases he:eqSt x s
   ·have hne:(x.toList==s.toList)=false:=he
    have HN:=hD (hasS_step HX.out he HOK.out)
    clear he
    go_wp2_with fail
    go_round
    case rel=>exact ⟨t+1,by omega,by go_num,HN.out⟩
    case measure=>simp [intOf];omega
   ·have hne:(x.toList==s.toList)=true:=he
    have HF:=hD (hasS_t HX.out he)
    clear he
    go_wp2_with fail
    go_ret
    exact ⟨by rw[HF.out];rfl,rfl⟩
  ·obtain rfl:t=n:=by omega
   have HF:Hid (hasS l s=false):=by
    have h:=HOK.out
    rw[List.take_of_length_le (by rw[HL.out];exact Nat.le_refl _)] at h
    exact h
   go_wp2_with fail
   go_ret
   exact ⟨by rw[HF.out];rfl,rfl⟩
def ltrB (x:Int):Bool:=decide (97≤x∧x≤122) || decide (48≤x∧x≤57)
theorem ltrB_1 {x:Int} (h1:97≤x) (h2:x≤122):ltrB x=true:=by simp [ltrB,h1,h2]
theorem ltrB_2 {x:Int} (h1:48≤x) (h2:x≤57):ltrB x=true:=by simp [ltrB,h1,h2]
theorem ltrB_f {x:Int} (h1:x<97∨122<x) (h2:x<48∨57<x):ltrB x=false:=by simp [ltrB];omega
theorem isLetter_any (x:Int) (w:World):Calls Tryz.prog 100 #[.int .u8 x] w fun e w'=>e=.returned (.bool (ltrB x))∧w=w':=by
 by_cases h1:97≤x
 ·by_cases h2:x≤122
  ·rw[ltrB_1 h1 h2]
   go_enter Tryz.func100,Tryz.ntmps100
   go_wp2
   go_ret
   exact ⟨rfl,rfl⟩
  ·rw[ltrB_f Zq6 Zq6]
   have h3:decide (x≤122)=false:=by simpa using h2
   have h4:decide (x≤57)=false:=by simp;omega
   have h5:(48:Int)≤x:=by omega
   clear h2
   go_enter Tryz.func100,Tryz.ntmps100
   go_wp2
   go_ret
   exact ⟨rfl,rfl⟩
 ·have h3:decide (97≤x)=false:=by simpa using h1
  by_cases h4:48≤x
  ·by_cases h5:x≤57
   ·rw[ltrB_2 h4 h5]
    clear h1
    go_enter Tryz.func100,Tryz.ntmps100
    go_wp2
    go_ret
    exact ⟨rfl,rfl⟩
   ·rw[ltrB_f Zq6 Zq6]
    have h6:decide (x≤57)=false:=by simpa using h5
    clear h1 h5
    go_enter Tryz.func100,Tryz.ntmps100
    go_wp2
    go_ret
    exact ⟨rfl,rfl⟩
  ·rw[ltrB_f Zq6 Zq6]
   have h6:decide (48≤x)=false:=by simpa using h4
   clear h1 h4
   go_enter Tryz.func100,Tryz.ntmps100
   go_wp2
   go_ret
   exact ⟨rfl,rfl⟩
theorem l16Letter_any (x:Int) (w:World):Calls Tryz.prog 89 #[.int .u8 x] w fun e w'=>e=.returned (.bool (ltrB x))∧w=w':=by
 by_cases h1:97≤x
 ·by_cases h2:x≤122
  ·rw[ltrB_1 h1 h2]
   go_enter Tryz.func89,Tryz.ntmps89
   go_wp2
   go_ret
   exact ⟨rfl,rfl⟩
  ·rw[ltrB_f Zq6 Zq6]
   have h3:decide (x≤122)=false:=by simpa using h2
   have h4:decide (x≤57)=false:=by simp;omega
   have h5:(48:Int)≤x:=by omega
   clear h2
   go_enter Tryz.func89,Tryz.ntmps89
   go_wp2
   go_ret
   exact ⟨rfl,rfl⟩
 ·have h3:decide (97≤x)=false:=by simpa using h1
  by_cases h4:48≤x
  ·by_cases h5:x≤57
   ·rw[ltrB_2 h4 h5]
    clear h1
    go_enter Tryz.func89,Tryz.ntmps89
    go_wp2
    go_ret
    exact ⟨rfl,rfl⟩
   ·rw[ltrB_f Zq6 Zq6]
    have h6:decide (x≤57)=false:=by simpa using h5
    clear h1 h5
    go_enter Tryz.func89,Tryz.ntmps89
    go_wp2
    go_ret
    exact ⟨rfl,rfl⟩
  ·rw[ltrB_f Zq6 Zq6]
   have h6:decide (48≤x)=false:=by simpa using h4
   clear h1 h4
   go_enter Tryz.func89,Tryz.ntmps89
   go_wp2
   go_ret
   exact ⟨rfl,rfl⟩
def letsUpto (s:ByteArray) (k:Nat):Bool:=(s.data.toList.take k).all fun c=>ltrB c.toNat
def wordOk (s:ByteArray):Bool:=letsUpto s s.size&&inB s.size 1 8
theorem lets_step {s:ByteArray} {k:Nat} (h:k<s.size):letsUpto s (k+1)=(letsUpto s k&&ltrB (s[k].toNat:Int)):=by
 unfold letsUpto
 rw[List.take_succ_eq_append_getElem (by simpa using h)]
 simp
 rfl
theorem lets_le {s:ByteArray} {k:Nat} (h:k≤s.size) (hf:letsUpto s k=false):letsUpto s s.size=false:=by
 unfold letsUpto at hf ⊢
 rw[List.all_eq_false] at hf ⊢
 obtain ⟨x,hx,hn⟩:=hf
 exact ⟨x,List.mem_of_mem_take (by rwa [List.take_take,Nat.min_eq_left h]:x∈List.take k (List.take s.size s.data.toList)),hn⟩
theorem wordOk_f {s:ByteArray} {k:Nat} (h:k<s.size) (hp:letsUpto s k=true) (hf:ltrB (s[k].toNat:Int)=false):wordOk s=false:=by
 have:letsUpto s (k+1)=false:=by rw[lets_step h,hf];simp
 rw[wordOk,lets_le Zq6 this]
 rfl
theorem wordOk_e {s:ByteArray} (hp:letsUpto s s.size=true):wordOk s=inB s.size 1 8:=by rw[wordOk,hp];rfl
theorem IsValidWord_impl (s:ByteArray) (w:World) (hs:s.size≤9223372036854775807):Calls Tryz.prog 42 #[.string s] w fun e w'=>e=.returned (.bool (wordOk s))∧w=w':=by
 go_enter Tryz.func42,Tryz.ntmps42
 go_wp2
 go_loop [3] (fun i=>∃ k:Nat,k≤s.size∧i=.int .i64 k∧letsUpto s k=true) (fun i=>s.size - (intOf i).toNat)
 case atStart=>exact ⟨0,Nat.zero_le _,rfl,rfl⟩
 case round =>
  obtain ⟨k,hk,rfl,hp⟩:=hrel
  have HP:=hD hp
  clear hp
  by_cases hlt:k<s.size
  ·cases hl:ltrB (s[k].toNat:Int)
   ·have HF:=hD (wordOk_f hlt HP.out hl)
    go_wp2_with (go_at_call 100;refine(isLetter_any _ _).mono ?_;rintro e w' ⟨rfl,rfl⟩)
    go_ret
    exact ⟨by rw[HF.out];rfl,rfl⟩
   ·have HS:=hD (show letsUpto s (k+1)=true by rw[lets_step hlt,HP.out,hl];rfl)
    go_wp2_with (go_at_call 100;refine(isLetter_any _ _).mono ?_;rintro e w' ⟨rfl,rfl⟩)
    go_round
    case rel=>exact ⟨k+1,by omega,by go_num,HS.out⟩
    case measure=>simp [intOf];omega
  ·obtain rfl:k=s.size:=by omega
   have HF:=hD (wordOk_e HP.out)
   go_wp2_with (go_at_call 44;refine(in_any _ _ _ _).mono ?_;rintro e w' ⟨rfl,rfl⟩)
   go_ret
   exact ⟨by rw[HF.out];rfl,rfl⟩
theorem IsValidWord_spec (s:ByteArray) (w:World) (hs:s.size≤9223372036854775807):Calls Tryz.prog 104 #[.string s] w fun e w'=>e=.returned (.bool (wordOk s))∧w=w':=by
 go_enter Tryz.func104,Tryz.ntmps104
 go_wp2
 go_loop [3] (fun i=>∃ k:Nat,k≤s.size∧i=.int .i64 k∧letsUpto s k=true) (fun i=>s.size - (intOf i).toNat)
 case atStart=>exact ⟨0,Nat.zero_le _,rfl,rfl⟩
 case round =>
  obtain ⟨k,hk,rfl,hp⟩:=hrel
  have HP:=hD hp
  clear hp
  by_cases hlt:k<s.size
  ·cases hl:ltrB (s[k].toNat:Int)
   ·have HF:=hD (wordOk_f hlt HP.out hl)
    go_wp2_with (go_at_call 89;refine(l16Letter_any _ _).mono ?_;rintro e w' ⟨rfl,rfl⟩)
    go_ret
    exact ⟨by rw[HF.out];rfl,rfl⟩
   ·have HS:=hD (show letsUpto s (k+1)=true by rw[lets_step hlt,HP.out,hl];rfl)
    go_wp2_with (go_at_call 89;refine(l16Letter_any _ _).mono ?_;rintro e w' ⟨rfl,rfl⟩)
    go_round
    case rel=>exact ⟨k+1,by omega,by go_num,HS.out⟩
    case measure=>simp [intOf];omega
  ·obtain rfl:k=s.size:=by omega
   have HF:=hD (wordOk_e HP.out)
   go_wp2_with (go_at_call 47;refine(l1In_any _ _ _ _).mono ?_;rintro e w' ⟨rfl,rfl⟩)
   go_ret
   exact ⟨by rw[HF.out];rfl,rfl⟩
def okCount (k count:Int):Bool:=if k=2 then inB count 1 9 else decide (count=0)
def headV (k:Int) (word:ByteArray) (na:Nat) (count:Int) (bl:Nat):Bool :=
 inB k 1 7&&(decide (na=nargs k word)&&(decide (k≠1∨nargs k word≠0)&&(decide (k=1∨word.toList=[])&&(decide (hasB k=true∨bl=0)&&okCount k count))))
theorem gkind_empty {word:ByteArray} (h:word.toList=[]):gkind word=0:=by
 unfold gkind
 rw[h]
 decide
def vRes (k:Int) (word:ByteArray) (args:List ByteArray) (count:Int) (nb:Nat) (rs:List Bool):Bool:=headV k word args.length count nb&&(args.all wordOk&&rs.all id)
section
variable {k:Int} {word:ByteArray} {args:List ByteArray} {count:Int} {nb:Nat} {rs:List Bool}
theorem vRes_h (h:headV k word args.length count nb=false):vRes k word args count nb rs=false:=by simp [vRes,h]
theorem vRes_w {t:Nat} {s:ByteArray} (hs:args[t]?=some s) (h:wordOk s=false):vRes k word args count nb rs=false:=by
 have:args.all wordOk=false:=by
  rw[List.all_eq_false]
  exact ⟨s,List.mem_of_getElem? hs,by simp [h]⟩
 simp [vRes,this]
theorem vRes_b {t:Nat} (hs:rs[t]?=some false):vRes k word args count nb rs=false:=by
 have:rs.all id=false:=by
  rw[List.all_eq_false]
  exact ⟨false,List.mem_of_getElem? hs,by simp⟩
 simp [vRes,this]
theorem vRes_t (h1:headV k word args.length count nb=true) (h2:args.all wordOk=true) (h3:rs.all id=true):vRes k word args count nb rs=true:=by rw[vRes,h1,h2,h3];rfl
end
theorem all_take {α:Type} (p:α→Bool) {l:List α} {t:Nat} {x:α} (h:l[t]?=some x):(l.take (t+1)).all p=((l.take t).all p&&p x):=by
 rw[List.take_add_one,h]
 simp
def Elts (f:Nat) (w:World) (Ab:Option Addr) (nb:Nat) (rs:List Bool):Prop:=∀ t,t<nb→∃ (b off:Nat) (k:Int) (wd:ByteArray) (Aa:Option Addr) (na ca:Nat) (ct:Int) (Ab':Option Addr) (nb' cb':Nat) (r:Bool),
 Ab=some ⟨b,off,none⟩∧b<w.heap.size∧(w.cell? ⟨b,off+t*5,none⟩=some (.int .i64 k)∧w.cell? ⟨b,off+t*5+1,none⟩=some (.string wd)∧w.cell? ⟨b,off+t*5+2,none⟩=some (.slice Aa na ca)∧w.cell? ⟨b,off+t*5+3,none⟩=some (.int .i64 ct)∧w.cell? ⟨b,off+t*5+4,none⟩=some (.slice Ab' nb' cb')) ∧
 rs[t]?=some r∧∀ w',Below w.heap.size w w'→Calls Tryz.prog f #[.agg #[.int .i64 k,.string wd,.slice Aa na ca,.int .i64 ct,.slice Ab' nb' cb']] w' fun e w''=>e=.returned (.bool r)∧Below w'.heap.size w' w''∧w'.heap.size≤w''.heap.size
def vOne (d:Nat) (vt:List (Tr d)→Bool) (h:SH) (bd:List (Tr d)):Bool:=headV h.k h.word h.args.length h.count bd.length&&(h.args.all wordOk&&vt bd)
def validT:(d:Nat)→List (Tr d)→Bool
 | 0,_=>true
 | d+1,l=>l.all fun s=>vOne d (validT d) (hdT s) (bdT s)
theorem vRes_one {d:Nat} {k:Int} {word:ByteArray} {args:List ByteArray} {count:Int} {bd:List (Tr d)} {rs:List Bool} (h:rs.all id=validT d bd):vRes k word args count bd.length rs=vOne d (validT d) ⟨k,word,args,count⟩ bd:=by
 simp only[vRes,vOne,h]
theorem rs_valid {d:Nat} (l:List (Tr (d+1))):(l.map fun s=>vOne d (validT d) (hdT s) (bdT s)).all id=validT (d+1) l:=by simp [validT,List.all_map]
end Go.Proofs.YthkbckkghnbonaaGreatDoor
