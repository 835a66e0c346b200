/- What the calls that this law reaches answer, part 2 of 20. -/
import Derived.Test.YthkbckkghnbonaaGreatDoorTie
import Derived.Test.YthkbckkghnbonaaGreatDoorCards
import Derived.Test.YthkbckkghnbonaaGreatDoorJFElaborate1
import Derived.LaidMore
import Derived.LaidLaws
import Derived.MakeChecks
import Derived.ChangeVars
import Derived.SliceStrings
import Derived.SevenTiedAt
import Derived.Stop.Joined
set_option maxRecDepth 100000
set_option maxHeartbeats 16000000
set_option linter.unusedVariables false
namespace Go.Proofs.YthkbckkghnbonaaGreatDoor
open Go.ChangeShapes Go.WideShapes Go.ChangeAt Go.RowKit Go.Deep
set_option linter.unusedVariables false
set_option maxRecDepth 100000
theorem yh4 : Tryz.prog.globalNamed "loop.example/g00506/impl.gateNames" = some 0 := by kernel_rfl
theorem ymh:(Tryz.prog.globals[0]?).map (·.type)=some 24:=by kernel_rfl
theorem yr5:Tryz.prog.cellsOf 9=1:=by kernel_rfl
theorem yoy {a b:ByteArray} (h:a.data.toList=b.data.toList):a=b:=by
 cases a
 cases b
 simp_all
theorem ylf:∀ {l l':List ByteArray},l.map (fun s=>s.data.toList)=l'.map (fun s=>s.data.toList)→l=l'
 | [],[],_=>rfl
 | [],_ :: _,h=>by simp at h
 | _ :: _,[],h=>by simp at h
 | a :: l,b :: l',h=>by
  simp only[List.map_cons,List.cons.injEq] at h
  rw[yoy h.1,ylf h.2]
theorem ymi:∀ {l:List ByteArray} {l':List (List UInt8)},(l.map fun s=>(.lit (.string s.data.toList):DataW Unit))=l'.map (fun s=>.lit (.string s))→l.map (fun s=>s.data.toList)=l'
 | [],[],_=>rfl
 | [],_ :: _,h=>by simp at h
 | _ :: _,[],h=>by simp at h
 | a :: l,b :: l',h=>by
  simp only[List.map_cons,List.cons.injEq,DataW.lit.injEq,Lit.string.injEq] at h
  rw[List.map_cons,h.1,ymi h.2]
theorem yoz {W : World} {fuel : Nat} {cs : Array Value} {p : List MemPlace} (hv : W.var? Tryz.prog "loop.example/g00506/impl.gateNames" = some cs)
  (hd:DataW.trod (fun _=>()) Tryz.prog W 0 (fun _=>true) false fuel 24 cs.toList=some (Rows.laid_loop_example_g00506_impl_gateNames,p)):GN W:=by
 rcases Go.ChangeShapes.open_strings Tryz.underlying24 Tryz.underlying9 yr5 hd with ⟨_,hx⟩|⟨a,len,cap,ss,hcs,_,hl,hm,hlen,hx,hcell,_⟩
 ·simp [Rows.laid_loop_example_g00506_impl_gateNames] at hx
 ·have h1:(Rows.laid_loop_example_g00506_impl_gateNames:DataW Unit)=.slice (Go.ChangeShapes.strs (ss.take len)) (Go.ChangeShapes.strs (ss.drop len)):=by rw[Prod.mk.injEq] at hx;exact hx.1
  have h2:(Rows.laid_loop_example_g00506_impl_gateNames:DataW Unit)=.slice (yqa.map fun s=>.lit (.string s)) []:=rfl
  rw[h2,DataW.slice.injEq] at h1
  have h3:=ymi h1.1.symm
  have h4:ss.take len=yio:=ylf (by rw[h3];rfl)
  have h5:len=13:=by
   have h6:=congrArg List.length h4
   rw[List.length_take] at h6
   have h7:yio.length=13:=rfl
   simp at hlen
   omega
  subst h5
  have hss:ss.length=cap:=by simpa using hlen
  have hat:∀ j u,(Go.Proofs.YthkbckkghnbonaaGreatDoor.strs yio)[j]?=some u→W.cell? (a.add j)=some u:=by
   intro j u hu
   simp only[Go.Proofs.YthkbckkghnbonaaGreatDoor.strs,List.getElem?_map] at hu
   obtain ⟨s,hs,rfl⟩:=Option.map_eq_some_iff.1 hu
   rw[←h4] at hs
   have hj:j<13:=by have:=(List.getElem?_eq_some_iff.1 hs).1;rw[List.length_take] at this;omega
   rw[List.getElem?_take,if_pos hj] at hs
   rw[hcell j Zq6]
   simp [List.getD_eq_getElem?_getD,hs]
  have hc0:=hat 0 (.string (gstr 0)) rfl
  obtain ⟨b,off,spot⟩:=a
  have hspot:spot=none:=by simpa [Addr.add] using World.cell?_spot hc0
  subst hspot
  have hg:W.cell? ⟨0,0,none⟩=some (.slice (some ⟨b,off,none⟩) 13 cap):=by
   have:=World.var?_cell yh4 hv 0
   rw[Array.eq_one_of_toList hcs] at this
   simpa using this
  refine ⟨some ⟨b,off,none⟩,cap,hg,yfu hg,rfl,fun _=>⟨b,off,rfl,by simpa [Addr.add] using yfu hc0,fun j u hu=>?_⟩⟩
  have:=hat j u hu
  rwa [add_plain] at this
theorem Zq8 {p:Prop} (h:p:=by kernel_rfl):p:=h
theorem ynn {W : World} (h : laidMetH Tryz.prog [("loop.example/g00506/impl.gateNames", Rows.laid_loop_example_g00506_impl_gateNames)] W) : GN W := by
 rw[MakeChecks.laidMetH_plain _ _ _ Zq8] at h
 obtain ⟨ps,⟨g0,t0,cs0,f0,p0,q0,hg0,ht0,hv0,hd0,_⟩,_⟩:=h
 obtain rfl:=Option.some.inj (yh4.symm.trans hg0)
 obtain rfl:=Option.some.inj (ymh.symm.trans ht0)
 exact yoz hv0 hd0
section
variable {H:Type} {enc:TypeId × Value→H}
theorem yqb {W W' : World} (hl : laidOutB Tryz.prog = true) (hr : Tryz.prog.readableRec 24 = true ∧ 24 < Tryz.prog.types.size) {gs : List (DataW H)} {q : List MemPlace} (h : DataW.TrodVars enc Tryz.prog W (fun _ => true) ["loop.example/g00506/impl.gateNames"] gs q) (hlt : ∀ x ∈ q, x.block < W.heap.size) (hb : Below W.heap.size W W') (hgn : 0 < W.heap.size) :
  ∃ d, gs = [d] ∧ ∀ sp : Nat → Bool, (∀ x ∈ q, sp x.block = true) → DataW.TrodVars enc Tryz.prog W' sp ["loop.example/g00506/impl.gateNames"] [d] q := by
 obtain ⟨g,t,cs,fuel,d,p,rfl,hg,ht,hv,hd,rfl⟩:=trodVars_one h
 obtain rfl:=Option.some.inj (yh4.symm.trans hg)
 obtain rfl:=Option.some.inj (ymh.symm.trans ht)
 refine ⟨d,rfl,fun sp hsp=>?_⟩
 have hv' : W'.var? Tryz.prog "loop.example/g00506/impl.gateNames" = some cs := by
  simp only[World.var?,yh4,Option.bind_some] at hv ⊢
  rw[hb.block _ hgn]
  exact hv
 obtain ⟨v,hcs⟩:∃ v,cs.toList=[v]:=by
  rcases open_slice Tryz.underlying24 hd with ⟨h0,_⟩|⟨a,len,cap,m,n,D,Pl,hcs,_⟩
  ·exact ⟨_,h0⟩
  ·exact ⟨_,hcs⟩
 have h1:DataW.Trod enc Tryz.prog W 0 (fun _=>true) true 24 v d p:=⟨fuel,by
  have e:v.cells.toList=[v]:=by
   rcases open_slice Tryz.underlying24 hd with ⟨h0,_⟩|⟨a,len,cap,m,n,D,Pl,h0,_⟩
   ·rw[hcs] at h0;injection h0 with h0 _;subst h0;rfl
   ·rw[hcs] at h0;injection h0 with h0 _;subst h0;rfl
  rw[e,←hcs]
  exact hd⟩
 have h2:=WideElems.Trod_stays (sp':=sp) hl hr.1 hr.2 h1 (fun x hx=>hb.same (hlt x (by simp [hx]))) (fun x hx=>hsp x (by simp [hx]))
 obtain ⟨fuel',hf⟩:=h2
 have e:v.cells.toList=[v]:=by
  rcases open_slice Tryz.underlying24 hd with ⟨h0,_⟩|⟨a,len,cap,m,n,D,Pl,h0,_⟩
  ·rw[hcs] at h0;injection h0 with h0 _;subst h0;rfl
  ·rw[hcs] at h0;injection h0 with h0 _;subst h0;rfl
 rw[e,←hcs] at hf
 exact trodVars_mk1 yh4 ymh hv' hf
end
theorem ytt:Tryz.prog.readableRec 24=true∧24<Tryz.prog.types.size:=⟨by kernel_rfl,of_decide_eq_true Zq8⟩
end Go.Proofs.YthkbckkghnbonaaGreatDoor
namespace Go.Proofs.YthkbckkghnbonaaGreatDoor
open Go.RowKit
set_option linter.unusedVariables false
theorem yh5 {w w':World} (h:Below w.drew.heap.size w.drew w'):Below w.heap.size w w':=⟨h.os,h.tape,h.output,h.size,h.block⟩
theorem yj4 {w:World} {cs:Array Value} {e b size n:Nat} {xs:List Value} (ys:List Value) (h0:b=w.heap.size) (hx:cs.toList=xs++ys) (hl:xs.length=n*size):Rd (w.alloc (.cells cs e)) size (some ⟨b,0,none⟩) n xs:=by
 subst h0
 refine ⟨hl,fun _=>⟨_,0,rfl,by simp,fun j u hu=>?_⟩⟩
 have:=yfp (heap_alloc_new w (.cells cs e)) ys hx j u hu
 rwa [Go.WideShapes.add_plain] at this
def yb4 (g:Gt) (q:Int):Bool:=hasI ((qsOf g).take (ar g.k)) q
theorem yeh (k a b c q:Int) (w:World):Calls Tryz.prog 183 #[.agg #[.int .i64 k,.int .i64 a,.int .i64 b,.int .i64 c],.int .i64 q] w fun e w' =>
  e=.returned (.bool (yb4 ⟨k,a,b,c⟩ q))∧Below w.heap.size w w'∧w.heap.size≤w'.heap.size:=by
 have har:=yfz k
 have HL:Hid (([a,b,c].take (ar k)).length=ar k):=hD (by rw[List.length_take];simp;omega)
 go_enter Tryz.func183,Tryz.ntmps183
 go_wp2_with fail
 refine(ye3 _ _ _ _ _).mono ?_
 rintro e w1 ⟨v1,rfl,own1,b1,s1⟩
 simp at s1
 obtain ⟨A1,c1,rfl,_,_,r1⟩:=yah own1
 go_wp2_with fail
 refine(ydx _ _ _ ([a,b,c].take (ar k)) _ _ r1 HL.out Zq6).mono ?_
 rintro e w2 ⟨rfl,rfl⟩
 go_wp2_with fail
 go_ret
 exact ⟨rfl,Zq0,Zq5⟩
def yub (size:Nat) (w:World) (n:Nat) (xs:List Value) (e:Ending) (w':World):Prop :=
 ∃ A c,e=.returned (.slice A n c)∧Rd w' size A n xs∧Below w.heap.size w w'∧w.heap.size≤w'.heap.size
theorem yj5 (k a b c:Int) (w:World):Calls Tryz.prog 192 #[.agg #[.int .i64 k,.int .i64 a,.int .i64 b,.int .i64 c]] w
  (yub 1 w (ar k) (([a,b,c].take (ar k)).map (Value.int .i64))):=by
 have har:=yfz k
 obtain ⟨m,hm⟩:∃ m,m=ar k:=⟨_,rfl⟩
 have HM:=hD hm
 rw[←hm] at har ⊢
 clear hm
 have hm4:m=0∨m=1∨m=2∨m=3:=by omega
 clear har
 rcases hm4 with rfl|rfl|rfl|rfl
 ·go_enter Tryz.func192,Tryz.ntmps192
  go_wp2_with fail
  obtain ⟨w0,hw0⟩:∃ w0,w0=w.alloc (.cells #[.int .i64 k,.int .i64 a,.int .i64 b,.int .i64 c] 102):=⟨_,rfl⟩
  rw[←hw0]
  have x0:Hid (w0.heap[w.heap.size]?=some (.cells #[.int .i64 k,.int .i64 a,.int .i64 b,.int .i64 c] 102 (0,0))):=by rw[hw0];exact yac _ _
  have b0:Below w.heap.size w w0:=by rw[hw0];exact Zq0
  have s0:w.heap.size<w0.heap.size:=by rw[hw0];simp
  clear hw0
  obtain ⟨p0,p1,p2,p3⟩:=yai (lay:=Below.refl _ _) x0.out
  go_region_held3 (fun W=>W.cell? ⟨w.heap.size,0,none⟩=some (.int .i64 k)∧W.cell? ⟨w.heap.size,1,none⟩=some (.int .i64 a)∧W.cell? ⟨w.heap.size,2,none⟩=some (.int .i64 b)∧W.cell? ⟨w.heap.size,3,none⟩=some (.int .i64 c))
   (first|exact ⟨p0,p1,p2,p3⟩|(refine ⟨?_,?_,?_,?_⟩ <;> (go_simp)))
   (first|(go_at_call 101;(with_reducible refine(ya5 _ _).mono ?_);rintro e w' ⟨rfl,rfl⟩;rw[←HM.out]))
  all_goals go_wp2_with fail
  all_goals go_ret
  all_goals exact ⟨_,_,rfl,yj4 [.int .i64 a,.int .i64 b,.int .i64 c] rfl rfl rfl,Zq0,Zq5⟩
 ·go_enter Tryz.func192,Tryz.ntmps192
  go_wp2_with fail
  obtain ⟨w0,hw0⟩:∃ w0,w0=w.alloc (.cells #[.int .i64 k,.int .i64 a,.int .i64 b,.int .i64 c] 102):=⟨_,rfl⟩
  rw[←hw0]
  have x0:Hid (w0.heap[w.heap.size]?=some (.cells #[.int .i64 k,.int .i64 a,.int .i64 b,.int .i64 c] 102 (0,0))):=by rw[hw0];exact yac _ _
  have b0:Below w.heap.size w w0:=by rw[hw0];exact Zq0
  have s0:w.heap.size<w0.heap.size:=by rw[hw0];simp
  clear hw0
  obtain ⟨p0,p1,p2,p3⟩:=yai (lay:=Below.refl _ _) x0.out
  go_region_held3 (fun W=>W.cell? ⟨w.heap.size,0,none⟩=some (.int .i64 k)∧W.cell? ⟨w.heap.size,1,none⟩=some (.int .i64 a)∧W.cell? ⟨w.heap.size,2,none⟩=some (.int .i64 b)∧W.cell? ⟨w.heap.size,3,none⟩=some (.int .i64 c))
   (first|exact ⟨p0,p1,p2,p3⟩|(refine ⟨?_,?_,?_,?_⟩ <;> (go_simp)))
   (first|(go_at_call 101;(with_reducible refine(ya5 _ _).mono ?_);rintro e w' ⟨rfl,rfl⟩;rw[←HM.out]))
  all_goals go_wp2_with fail
  all_goals go_ret
  all_goals exact ⟨_,_,rfl,yj4 [.int .i64 b,.int .i64 c] rfl rfl rfl,Zq0,Zq5⟩
 ·go_enter Tryz.func192,Tryz.ntmps192
  go_wp2_with fail
  obtain ⟨w0,hw0⟩:∃ w0,w0=w.alloc (.cells #[.int .i64 k,.int .i64 a,.int .i64 b,.int .i64 c] 102):=⟨_,rfl⟩
  rw[←hw0]
  have x0:Hid (w0.heap[w.heap.size]?=some (.cells #[.int .i64 k,.int .i64 a,.int .i64 b,.int .i64 c] 102 (0,0))):=by rw[hw0];exact yac _ _
  have b0:Below w.heap.size w w0:=by rw[hw0];exact Zq0
  have s0:w.heap.size<w0.heap.size:=by rw[hw0];simp
  clear hw0
  obtain ⟨p0,p1,p2,p3⟩:=yai (lay:=Below.refl _ _) x0.out
  go_region_held3 (fun W=>W.cell? ⟨w.heap.size,0,none⟩=some (.int .i64 k)∧W.cell? ⟨w.heap.size,1,none⟩=some (.int .i64 a)∧W.cell? ⟨w.heap.size,2,none⟩=some (.int .i64 b)∧W.cell? ⟨w.heap.size,3,none⟩=some (.int .i64 c))
   (first|exact ⟨p0,p1,p2,p3⟩|(refine ⟨?_,?_,?_,?_⟩ <;> (go_simp)))
   (first|(go_at_call 101;(with_reducible refine(ya5 _ _).mono ?_);rintro e w' ⟨rfl,rfl⟩;rw[←HM.out]))
  all_goals go_wp2_with fail
  all_goals go_ret
  all_goals exact ⟨_,_,rfl,yj4 [.int .i64 c] rfl rfl rfl,Zq0,Zq5⟩
 ·go_enter Tryz.func192,Tryz.ntmps192
  go_wp2_with fail
  obtain ⟨w0,hw0⟩:∃ w0,w0=w.alloc (.cells #[.int .i64 k,.int .i64 a,.int .i64 b,.int .i64 c] 102):=⟨_,rfl⟩
  rw[←hw0]
  have x0:Hid (w0.heap[w.heap.size]?=some (.cells #[.int .i64 k,.int .i64 a,.int .i64 b,.int .i64 c] 102 (0,0))):=by rw[hw0];exact yac _ _
  have b0:Below w.heap.size w w0:=by rw[hw0];exact Zq0
  have s0:w.heap.size<w0.heap.size:=by rw[hw0];simp
  clear hw0
  obtain ⟨p0,p1,p2,p3⟩:=yai (lay:=Below.refl _ _) x0.out
  go_region_held3 (fun W=>W.cell? ⟨w.heap.size,0,none⟩=some (.int .i64 k)∧W.cell? ⟨w.heap.size,1,none⟩=some (.int .i64 a)∧W.cell? ⟨w.heap.size,2,none⟩=some (.int .i64 b)∧W.cell? ⟨w.heap.size,3,none⟩=some (.int .i64 c))
   (first|exact ⟨p0,p1,p2,p3⟩|(refine ⟨?_,?_,?_,?_⟩ <;> (go_simp)))
   (first|(go_at_call 101;(with_reducible refine(ya5 _ _).mono ?_);rintro e w' ⟨rfl,rfl⟩;rw[←HM.out]))
  all_goals go_wp2_with fail
  all_goals go_ret
  all_goals exact ⟨_,_,rfl,yj4 [] rfl rfl rfl,Zq0,Zq5⟩
theorem yd5 (k a b c q:Int) (w:World):Calls Tryz.prog 186 #[.agg #[.int .i64 k,.int .i64 a,.int .i64 b,.int .i64 c],.int .i64 q] w fun e w' =>
  e=.returned (.bool (yb4 ⟨k,a,b,c⟩ q))∧Below w.heap.size w w'∧w.heap.size≤w'.heap.size:=by
 have har:=yfz k
 obtain ⟨xs,hxs⟩:∃ xs,xs=[a,b,c].take (ar k):=⟨_,rfl⟩
 have HL:Hid (xs.length=ar k):=hD (by rw[hxs,List.length_take];simp;omega)
 have HA:Hid (yb4 ⟨k,a,b,c⟩ q=hasI xs q):=hD (by rw[hxs];rfl)
 have HX:=hD hxs
 clear hxs
 obtain ⟨m,hm⟩:∃ m,m=ar k:=⟨_,rfl⟩
 have HM:=hD hm
 rw[←hm] at HL har
 clear hm
 go_enter Tryz.func186,Tryz.ntmps186
 go_wp2_with fail
 refine(yj5 _ _ _ _ _).mono ?_
 rintro e w1 ⟨A1,c1,rfl,r1,b1,s1⟩
 simp at s1
 rw[←HX.out,←HM.out] at r1
 rw[←HM.out]
 have R1:=hD r1
 clear r1
 go_wp2_with fail
 go_loop [10] (fun i=>∃ t:Nat,t≤m∧i=.int .i64 t∧hasI (xs.take t) q=false) (fun i=>m - (intOf i).toNat)
 case atStart=>exact ⟨0,Nat.zero_le _,rfl,by simp [hasI]⟩
 case round =>
  obtain ⟨t,ht,rfl,hno⟩:=hrel
  have HN:=hD hno
  clear hno
  by_cases hlt:t<m
  ·obtain ⟨b',off,rfl,_,hc⟩:=R1.out.2 Zq6
   have q0:=hc t _ (yn4 xs t (by rw[HL.out];exact hlt))
   clear hc
   obtain ⟨y,hy⟩:∃ y,y=xs.getD t 0:=⟨_,rfl⟩
   rw[←hy] at q0
   have HY:=hD hy
   clear hy
   cases he:(y==q)
   ·go_wp2
    go_round
    case rel=>exact ⟨t+1,by omega,by go_num,ygo (by rw[HL.out];exact hlt) HN.out (by rw[←HY.out];exact he)⟩
    case measure=>simp [intOf];omega
   ·have HF:Hid (hasI xs q=true):=hD (yi5 (by rw[HL.out];exact hlt) (by rw[←HY.out];exact he))
    go_wp2
    go_ret
    exact ⟨by rw[HA.out,HF.out];rfl,Zq0,Zq5⟩
  ·obtain rfl:t=m:=by omega
   have HF:Hid (hasI xs q=false):=by
    have h:=HN.out
    rw[List.take_of_length_le (by rw[HL.out];exact Nat.le_refl _)] at h
    exact h
   go_wp2
   go_ret
   exact ⟨by rw[HA.out,HF.out];rfl,Zq0,Zq5⟩
def g1 (k a:Int):Gt:=⟨k,a,0,0⟩
def gcx (a b:Int):Gt:=⟨9,a,b,0⟩
def yey (E size:Nat) (w:World) (ok:Bool) (n:Nat) (xs:List Value) (e:Ending) (w':World):Prop :=
 ∃ v,e=.returned (.tuple #[v,.bool ok])∧w'.ownsRow w.heap.size E size v n xs∧Below w.heap.size w w'∧w.heap.size≤w'.heap.size
theorem ydu {E size n b:Nat} {ok:Bool} {w W:World} {cs:Array Value} {xs:List Value} (hB:w.heap.size≤W.heap.size) (hb:Below w.heap.size w W) (hs:cs.size=n*size) (hm:n≤maxLen) (hx:cs.toList=xs) (h0:b=W.heap.size) :
  yey E size w ok n xs (.returned (.tuple #[.slice (some ⟨b,0,none⟩) n n,.bool ok])) (W.alloc (.cells cs E)):=by
 subst hx h0
 exact ⟨_,rfl,World.ownsRow_lit W cs n hB hm hs,hb.alloc hB _,by simp;omega⟩
theorem yd6 {E size:Nat} {ok:Bool} {w W:World} (hB:w.heap.size≤W.heap.size) (hb:Below w.heap.size w W):yey E size w ok 0 [] (.returned (.tuple #[.slice none 0 0,.bool ok])) W :=
 ⟨_,rfl,World.ownsRow_nil _ _ _ _,hb,hB⟩
def cgl (q:Int) (g:Gt):Option (List Gt) :=
 match g with
 | ⟨k,a,b,_⟩ =>
  if k=1 then some [gcx q a]
  else if k=2 then some [g1 6 a,gcx q a,g1 5 a]
  else if k=3 then some [⟨10,q,a,0⟩]
  else if k=4 then some [g1 6 a,g1 4 a,g1 8 a,gcx q a,g1 7 a,g1 4 a,g1 5 a]
  else if k=5 then some [g1 7 q,g1 7 a,gcx q a,g1 8 a,gcx q a]
  else if k=6 then some [g1 8 q,g1 8 a,gcx q a,g1 7 a,gcx q a]
  else if k=9 then some [⟨12,q,a,b⟩]
  else if k=10 then some [g1 4 b,⟨12,q,a,b⟩,g1 4 b]
  else if k=11 then some [gcx b a,⟨12,q,a,b⟩,gcx b a]
  else none
def ydj (q:Int) (g:Gt):Option (List Gt):=if ybs g 4=true∧inB q 0 3=true∧yb4 g q=false then cgl q g else none
theorem yn5 {q:Int} {g:Gt} (h:ybs g 4=false):ydj q g=none:=by simp [ydj,h]
theorem yn6 {q:Int} {g:Gt} (h:inB q 0 3=false):ydj q g=none:=by simp [ydj,h]
theorem yn7 {q:Int} {g:Gt} (h:yb4 g q=true):ydj q g=none:=by simp [ydj,h]
theorem ykr {q:Int} {g:Gt} (h1:ybs g 4=true) (h2:inB q 0 3=true) (h3:yb4 g q=false):ydj q g=cgl q g:=by simp [ydj,h1,h2,h3]
theorem ygy {g:Gt} {n:Int} (h:ybs g n=true):1≤g.k∧g.k≤12:=by
 have hk:ar g.k≠0:=fun e=>by rw[yjd e] at h;cases h
 unfold ar at hk
 split at hk
 ·rename_i h1;have:=ycf.1 h1;omega
 ·split at hk
  ·rename_i h1;have:=ycf.1 h1;omega
  ·split at hk
   ·omega
   ·omega
theorem yhx (q k a b c:Int) (w:World):Calls Tryz.prog 176 #[.int .i64 q,.agg #[.int .i64 k,.int .i64 a,.int .i64 b,.int .i64 c]] w
  (yey 102 4 w (ydj q ⟨k,a,b,c⟩).isSome ((ydj q ⟨k,a,b,c⟩).getD []).length (((ydj q ⟨k,a,b,c⟩).getD []).flatMap ygb)):=by
 cases hv:ybs ⟨k,a,b,c⟩ 4
 ·have hcg:=yn5 (q:=q) hv
  rw[hcg]
  go_enter Tryz.func176,Tryz.ntmps176
  go_wp2_with (first|(go_at_call 126;refine(yau _ _ _ _ _ _).mono ?_;rintro e w1 ⟨rfl,b1,s1⟩;simp at s1;obtain ⟨p0,p1,p2,p3⟩:=yai (lay:=b1) (yac _ _))|(go_at_call 44;refine(yav _ _ _ _).mono ?_;rintro e w' ⟨rfl,rfl⟩)|(go_at_call 186;refine(yd5 _ _ _ _ _ _).mono ?_;rintro e w2 ⟨rfl,b2,s2⟩;obtain ⟨q0,q1,q2,q3⟩:=yai (lay:=b1.trans (b2.mono b1.size)) (yac _ _);have hlt:w.heap.size<w2.heap.size:=by omega)|(go_at_call 188;refine(yfe _ _ _).mono ?_;rintro e w' ⟨rfl,hb,hs⟩;(try simp at hs))|(go_at_call 187;refine(ygf _ _ _).mono ?_;rintro e w' ⟨rfl,hb,hs⟩;(try simp at hs)))
  go_ret2
  exact yd6 Zq5 Zq0
 cases hq:inB q 0 3
 ·have hcg:=yn6 (g:=⟨k,a,b,c⟩) hq
  rw[hcg]
  go_enter Tryz.func176,Tryz.ntmps176
  go_wp2_with (first|(go_at_call 126;refine(yau _ _ _ _ _ _).mono ?_;rintro e w1 ⟨rfl,b1,s1⟩;simp at s1;obtain ⟨p0,p1,p2,p3⟩:=yai (lay:=b1) (yac _ _))|(go_at_call 44;refine(yav _ _ _ _).mono ?_;rintro e w' ⟨rfl,rfl⟩)|(go_at_call 186;refine(yd5 _ _ _ _ _ _).mono ?_;rintro e w2 ⟨rfl,b2,s2⟩;obtain ⟨q0,q1,q2,q3⟩:=yai (lay:=b1.trans (b2.mono b1.size)) (yac _ _);have hlt:w.heap.size<w2.heap.size:=by omega)|(go_at_call 188;refine(yfe _ _ _).mono ?_;rintro e w' ⟨rfl,hb,hs⟩;(try simp at hs))|(go_at_call 187;refine(ygf _ _ _).mono ?_;rintro e w' ⟨rfl,hb,hs⟩;(try simp at hs)))
  go_ret2
  exact yd6 Zq5 Zq0
 cases ha:yb4 ⟨k,a,b,c⟩ q
 rotate_left
 ·have hcg:=yn7 ha
  rw[hcg]
  go_enter Tryz.func176,Tryz.ntmps176
  go_wp2_with (first|(go_at_call 126;refine(yau _ _ _ _ _ _).mono ?_;rintro e w1 ⟨rfl,b1,s1⟩;simp at s1;obtain ⟨p0,p1,p2,p3⟩:=yai (lay:=b1) (yac _ _))|(go_at_call 44;refine(yav _ _ _ _).mono ?_;rintro e w' ⟨rfl,rfl⟩)|(go_at_call 186;refine(yd5 _ _ _ _ _ _).mono ?_;rintro e w2 ⟨rfl,b2,s2⟩;obtain ⟨q0,q1,q2,q3⟩:=yai (lay:=b1.trans (b2.mono b1.size)) (yac _ _);have hlt:w.heap.size<w2.heap.size:=by omega)|(go_at_call 188;refine(yfe _ _ _).mono ?_;rintro e w' ⟨rfl,hb,hs⟩;(try simp at hs))|(go_at_call 187;refine(ygf _ _ _).mono ?_;rintro e w' ⟨rfl,hb,hs⟩;(try simp at hs)))
  go_ret2
  exact yd6 Zq5 Zq0
 have hcg:=ykr hv hq ha
 have hkk:=ygy hv
 simp only at hkk
 have hk:k=1∨k=2∨k=3∨k=4∨k=5∨k=6∨k=7∨k=8∨k=9∨k=10∨k=11∨k=12:=by omega
 clear hkk
 rcases hk with rfl|rfl|rfl|rfl|rfl|rfl|rfl|rfl|rfl|rfl|rfl|rfl
 rw[show cgl q ⟨1,a,b,c⟩=some [gcx q a] from rfl] at hcg
 rotate_left
 rw[show cgl q ⟨2,a,b,c⟩=some [g1 6 a,gcx q a,g1 5 a] from rfl] at hcg
 rotate_left
 rw[show cgl q ⟨3,a,b,c⟩=some [⟨10,q,a,0⟩] from rfl] at hcg
 rotate_left
 rw[show cgl q ⟨4,a,b,c⟩=some [g1 6 a,g1 4 a,g1 8 a,gcx q a,g1 7 a,g1 4 a,g1 5 a] from rfl] at hcg
 rotate_left
 rw[show cgl q ⟨5,a,b,c⟩=some [g1 7 q,g1 7 a,gcx q a,g1 8 a,gcx q a] from rfl] at hcg
 rotate_left
 rw[show cgl q ⟨6,a,b,c⟩=some [g1 8 q,g1 8 a,gcx q a,g1 7 a,gcx q a] from rfl] at hcg
 rotate_left
 ·rw[show cgl q ⟨7,a,b,c⟩=none from rfl] at hcg
  rw[hcg]
  clear hcg
  go_enter Tryz.func176,Tryz.ntmps176
  go_wp2_with (first|(go_at_call 126;refine(yau _ _ _ _ _ _).mono ?_;rintro e w1 ⟨rfl,b1,s1⟩;simp at s1;obtain ⟨p0,p1,p2,p3⟩:=yai (lay:=b1) (yac _ _))|(go_at_call 44;refine(yav _ _ _ _).mono ?_;rintro e w' ⟨rfl,rfl⟩)|(go_at_call 186;refine(yd5 _ _ _ _ _ _).mono ?_;rintro e w2 ⟨rfl,b2,s2⟩;obtain ⟨q0,q1,q2,q3⟩:=yai (lay:=b1.trans (b2.mono b1.size)) (yac _ _);have hlt:w.heap.size<w2.heap.size:=by omega)|(go_at_call 188;refine(yfe _ _ _).mono ?_;rintro e w' ⟨rfl,hb,hs⟩;(try simp at hs))|(go_at_call 187;refine(ygf _ _ _).mono ?_;rintro e w' ⟨rfl,hb,hs⟩;(try simp at hs)))
  go_ret2
  exact yd6 Zq5 Zq0
 ·rw[show cgl q ⟨8,a,b,c⟩=none from rfl] at hcg
  rw[hcg]
  clear hcg
  go_enter Tryz.func176,Tryz.ntmps176
  go_wp2_with (first|(go_at_call 126;refine(yau _ _ _ _ _ _).mono ?_;rintro e w1 ⟨rfl,b1,s1⟩;simp at s1;obtain ⟨p0,p1,p2,p3⟩:=yai (lay:=b1) (yac _ _))|(go_at_call 44;refine(yav _ _ _ _).mono ?_;rintro e w' ⟨rfl,rfl⟩)|(go_at_call 186;refine(yd5 _ _ _ _ _ _).mono ?_;rintro e w2 ⟨rfl,b2,s2⟩;obtain ⟨q0,q1,q2,q3⟩:=yai (lay:=b1.trans (b2.mono b1.size)) (yac _ _);have hlt:w.heap.size<w2.heap.size:=by omega)|(go_at_call 188;refine(yfe _ _ _).mono ?_;rintro e w' ⟨rfl,hb,hs⟩;(try simp at hs))|(go_at_call 187;refine(ygf _ _ _).mono ?_;rintro e w' ⟨rfl,hb,hs⟩;(try simp at hs)))
  go_ret2
  exact yd6 Zq5 Zq0
 rw[show cgl q ⟨9,a,b,c⟩=some [⟨12,q,a,b⟩] from rfl] at hcg
 rotate_left
 rw[show cgl q ⟨10,a,b,c⟩=some [g1 4 b,⟨12,q,a,b⟩,g1 4 b] from rfl] at hcg
 rotate_left
 rw[show cgl q ⟨11,a,b,c⟩=some [gcx b a,⟨12,q,a,b⟩,gcx b a] from rfl] at hcg
 rotate_left
 ·rw[show cgl q ⟨12,a,b,c⟩=none from rfl] at hcg
  rw[hcg]
  clear hcg
  go_enter Tryz.func176,Tryz.ntmps176
  go_wp2_with (first|(go_at_call 126;refine(yau _ _ _ _ _ _).mono ?_;rintro e w1 ⟨rfl,b1,s1⟩;simp at s1;obtain ⟨p0,p1,p2,p3⟩:=yai (lay:=b1) (yac _ _))|(go_at_call 44;refine(yav _ _ _ _).mono ?_;rintro e w' ⟨rfl,rfl⟩)|(go_at_call 186;refine(yd5 _ _ _ _ _ _).mono ?_;rintro e w2 ⟨rfl,b2,s2⟩;obtain ⟨q0,q1,q2,q3⟩:=yai (lay:=b1.trans (b2.mono b1.size)) (yac _ _);have hlt:w.heap.size<w2.heap.size:=by omega)|(go_at_call 188;refine(yfe _ _ _).mono ?_;rintro e w' ⟨rfl,hb,hs⟩;(try simp at hs))|(go_at_call 187;refine(ygf _ _ _).mono ?_;rintro e w' ⟨rfl,hb,hs⟩;(try simp at hs)))
  go_ret2
  exact yd6 Zq5 Zq0
 all_goals
  rw[hcg]
  clear hcg
  go_enter Tryz.func176,Tryz.ntmps176
  go_wp2_with (first|(go_at_call 126;refine(yau _ _ _ _ _ _).mono ?_;rintro e w1 ⟨rfl,b1,s1⟩;simp at s1;obtain ⟨p0,p1,p2,p3⟩:=yai (lay:=b1) (yac _ _))|(go_at_call 44;refine(yav _ _ _ _).mono ?_;rintro e w' ⟨rfl,rfl⟩)|(go_at_call 186;refine(yd5 _ _ _ _ _ _).mono ?_;rintro e w2 ⟨rfl,b2,s2⟩;obtain ⟨q0,q1,q2,q3⟩:=yai (lay:=b1.trans (b2.mono b1.size)) (yac _ _);have hlt:w.heap.size<w2.heap.size:=by omega)|(go_at_call 188;refine(yfe _ _ _).mono ?_;rintro e w' ⟨rfl,hb,hs⟩;(try simp at hs))|(go_at_call 187;refine(ygf _ _ _).mono ?_;rintro e w' ⟨rfl,hb,hs⟩;(try simp at hs)))
  go_ret2
  refine ydu ?_ ?_ ?_ ?_ ?_ ?_
  ·exact Zq5
  ·exact Zq0
  ·rfl
  ·simp [maxLen]
  ·rfl
  ·first|rfl|simp
theorem yhy (q k a b c:Int) (w:World):Calls Tryz.prog 169 #[.int .i64 q,.agg #[.int .i64 k,.int .i64 a,.int .i64 b,.int .i64 c]] w
  (yey 102 4 w (ydj q ⟨k,a,b,c⟩).isSome ((ydj q ⟨k,a,b,c⟩).getD []).length (((ydj q ⟨k,a,b,c⟩).getD []).flatMap ygb)):=by
 cases hv:ybs ⟨k,a,b,c⟩ 4
 ·have hcg:=yn5 (q:=q) hv
  rw[hcg]
  go_enter Tryz.func169,Tryz.ntmps169
  go_wp2_with (first|(go_at_call 147;refine(yaw _ _ _ _ _ _).mono ?_;rintro e w1 ⟨rfl,b1,s1⟩;simp at s1;obtain ⟨p0,p1,p2,p3⟩:=yai (lay:=b1) (yac _ _))|(go_at_call 47;refine(yag _ _ _ _).mono ?_;rintro e w' ⟨rfl,rfl⟩)|(go_at_call 183;refine(yeh _ _ _ _ _ _).mono ?_;rintro e w2 ⟨rfl,b2,s2⟩;obtain ⟨q0,q1,q2,q3⟩:=yai (lay:=b1.trans (b2.mono b1.size)) (yac _ _);have hlt:w.heap.size<w2.heap.size:=by omega)|(go_at_call 185;refine(yd0 _ _ _).mono ?_;rintro e w' ⟨rfl,hb,hs⟩;(try simp at hs);(try (obtain ⟨r0,r1,r2,r3⟩:=yai (lay:=hb) (yac w2 _))))|(go_at_call 184;refine(yec _ _ _).mono ?_;rintro e w' ⟨rfl,hb,hs⟩;(try simp at hs);(try (obtain ⟨r0,r1,r2,r3⟩:=yai (lay:=hb) (yac w2 _)))))
  go_ret2
  refine ydu ?_ ?_ ?_ ?_ ?_ ?_
  ·exact Zq5
  ·exact Zq0
  ·rfl
  ·simp [maxLen]
  ·rfl
  ·first|rfl|simp
 cases hq:inB q 0 3
 ·have hcg:=yn6 (g:=⟨k,a,b,c⟩) hq
  rw[hcg]
  go_enter Tryz.func169,Tryz.ntmps169
  go_wp2_with (first|(go_at_call 147;refine(yaw _ _ _ _ _ _).mono ?_;rintro e w1 ⟨rfl,b1,s1⟩;simp at s1;obtain ⟨p0,p1,p2,p3⟩:=yai (lay:=b1) (yac _ _))|(go_at_call 47;refine(yag _ _ _ _).mono ?_;rintro e w' ⟨rfl,rfl⟩)|(go_at_call 183;refine(yeh _ _ _ _ _ _).mono ?_;rintro e w2 ⟨rfl,b2,s2⟩;obtain ⟨q0,q1,q2,q3⟩:=yai (lay:=b1.trans (b2.mono b1.size)) (yac _ _);have hlt:w.heap.size<w2.heap.size:=by omega)|(go_at_call 185;refine(yd0 _ _ _).mono ?_;rintro e w' ⟨rfl,hb,hs⟩;(try simp at hs);(try (obtain ⟨r0,r1,r2,r3⟩:=yai (lay:=hb) (yac w2 _))))|(go_at_call 184;refine(yec _ _ _).mono ?_;rintro e w' ⟨rfl,hb,hs⟩;(try simp at hs);(try (obtain ⟨r0,r1,r2,r3⟩:=yai (lay:=hb) (yac w2 _)))))
  go_ret2
  refine ydu ?_ ?_ ?_ ?_ ?_ ?_
  ·exact Zq5
  ·exact Zq0
  ·rfl
  ·simp [maxLen]
  ·rfl
  ·first|rfl|simp
 cases ha:yb4 ⟨k,a,b,c⟩ q
 rotate_left
 ·have hcg:=yn7 ha
  rw[hcg]
  go_enter Tryz.func169,Tryz.ntmps169
  go_wp2_with (first|(go_at_call 147;refine(yaw _ _ _ _ _ _).mono ?_;rintro e w1 ⟨rfl,b1,s1⟩;simp at s1;obtain ⟨p0,p1,p2,p3⟩:=yai (lay:=b1) (yac _ _))|(go_at_call 47;refine(yag _ _ _ _).mono ?_;rintro e w' ⟨rfl,rfl⟩)|(go_at_call 183;refine(yeh _ _ _ _ _ _).mono ?_;rintro e w2 ⟨rfl,b2,s2⟩;obtain ⟨q0,q1,q2,q3⟩:=yai (lay:=b1.trans (b2.mono b1.size)) (yac _ _);have hlt:w.heap.size<w2.heap.size:=by omega)|(go_at_call 185;refine(yd0 _ _ _).mono ?_;rintro e w' ⟨rfl,hb,hs⟩;(try simp at hs);(try (obtain ⟨r0,r1,r2,r3⟩:=yai (lay:=hb) (yac w2 _))))|(go_at_call 184;refine(yec _ _ _).mono ?_;rintro e w' ⟨rfl,hb,hs⟩;(try simp at hs);(try (obtain ⟨r0,r1,r2,r3⟩:=yai (lay:=hb) (yac w2 _)))))
  go_ret2
  refine ydu ?_ ?_ ?_ ?_ ?_ ?_
  ·exact Zq5
  ·exact Zq0
  ·rfl
  ·simp [maxLen]
  ·rfl
  ·first|rfl|simp
 have hcg:=ykr hv hq ha
 have hkk:=ygy hv
 simp only at hkk
 have hk:k=1∨k=2∨k=3∨k=4∨k=5∨k=6∨k=7∨k=8∨k=9∨k=10∨k=11∨k=12:=by omega
 clear hkk
 rcases hk with rfl|rfl|rfl|rfl|rfl|rfl|rfl|rfl|rfl|rfl|rfl|rfl
 rw[show cgl q ⟨1,a,b,c⟩=some [gcx q a] from rfl] at hcg
 rotate_left
 rw[show cgl q ⟨2,a,b,c⟩=some [g1 6 a,gcx q a,g1 5 a] from rfl] at hcg
 rotate_left
 rw[show cgl q ⟨3,a,b,c⟩=some [⟨10,q,a,0⟩] from rfl] at hcg
 rotate_left
 rw[show cgl q ⟨4,a,b,c⟩=some [g1 6 a,g1 4 a,g1 8 a,gcx q a,g1 7 a,g1 4 a,g1 5 a] from rfl] at hcg
 rotate_left
 rw[show cgl q ⟨5,a,b,c⟩=some [g1 7 q,g1 7 a,gcx q a,g1 8 a,gcx q a] from rfl] at hcg
 rotate_left
 rw[show cgl q ⟨6,a,b,c⟩=some [g1 8 q,g1 8 a,gcx q a,g1 7 a,gcx q a] from rfl] at hcg
 rotate_left
 rw[show cgl q ⟨7,a,b,c⟩=none from rfl] at hcg
 rotate_left
 rw[show cgl q ⟨8,a,b,c⟩=none from rfl] at hcg
 rotate_left
 rw[show cgl q ⟨9,a,b,c⟩=some [⟨12,q,a,b⟩] from rfl] at hcg
 rotate_left
 ·rw[show cgl q ⟨10,a,b,c⟩=some [g1 4 b,⟨12,q,a,b⟩,g1 4 b] from rfl] at hcg
  rw[hcg]
  clear hcg
  go_enter Tryz.func169,Tryz.ntmps169
  go_wp2_with (first|(go_at_call 147;refine(yaw _ _ _ _ _ _).mono ?_;rintro e w1 ⟨rfl,b1,s1⟩;simp at s1;obtain ⟨p0,p1,p2,p3⟩:=yai (lay:=b1) (yac _ _))|(go_at_call 47;refine(yag _ _ _ _).mono ?_;rintro e w' ⟨rfl,rfl⟩)|(go_at_call 183;refine(yeh _ _ _ _ _ _).mono ?_;rintro e w2 ⟨rfl,b2,s2⟩;obtain ⟨q0,q1,q2,q3⟩:=yai (lay:=b1.trans (b2.mono b1.size)) (yac _ _);have hlt:w.heap.size<w2.heap.size:=by omega)|(go_at_call 185;refine(yd0 _ _ _).mono ?_;rintro e w' ⟨rfl,hb,hs⟩;(try simp at hs);(try (obtain ⟨r0,r1,r2,r3⟩:=yai (lay:=hb) (yac w2 _))))|(go_at_call 184;refine(yec _ _ _).mono ?_;rintro e w' ⟨rfl,hb,hs⟩;(try simp at hs);(try (obtain ⟨r0,r1,r2,r3⟩:=yai (lay:=hb) (yac w2 _)))))
  obtain ⟨t0,t1,t2,t3⟩:=yai (lay:=Below.refl _ _) (yac w2 (.cells #[.int .i64 12,.int .i64 q,.int .i64 a,.int .i64 b] 102))
  go_region_held3 (fun W=>W.cell? ⟨w2.heap.size,0,none⟩=some (.int .i64 12)∧W.cell? ⟨w2.heap.size,1,none⟩=some (.int .i64 q)∧W.cell? ⟨w2.heap.size,2,none⟩=some (.int .i64 a)∧W.cell? ⟨w2.heap.size,3,none⟩=some (.int .i64 b))
   (first|exact ⟨t0,t1,t2,t3⟩|exact ⟨x0,x1,x2,x3⟩|exact ⟨y0,y1,y2,y3⟩|(refine ⟨?_,?_,?_,?_⟩ <;> go_simp))
   (first|(have _t:=t0;go_at_call 185;(with_reducible refine(yd0 _ _ _).mono ?_);rintro e w3 ⟨rfl,hb3,hs3⟩;have b3:=yh5 hb3;have s3:=b3.size;(try simp at s3);obtain ⟨x0,x1,x2,x3⟩:=yai (lay:=b3) (yac w2 _);clear hb3 hs3 t0)|(go_at_call 185;(with_reducible refine(yd0 _ _ _).mono ?_);rintro e w4 ⟨rfl,b4,s4⟩;obtain ⟨y0,y1,y2,y3⟩:=yai (lay:=b3.trans (b4.mono b3.size)) (yac w2 _);have lt4:w2.heap.size<w4.heap.size:=by omega))
  all_goals go_wp2_with fail
  all_goals go_ret2
  all_goals (refine ydu ?_ ?_ ?_ ?_ ?_ ?_)
  all_goals first|rfl|omega|(simp [maxLen];done)|(simp;omega)|exact((((((Below.refl _ _).alloc (Nat.le_refl _) _).trans (b1.mono Zq11)).trans (b2.mono Zq6)).alloc Zq6 _).trans (b3.mono Zq10)).trans (b4.mono Zq6)
 ·rw[show cgl q ⟨11,a,b,c⟩=some [gcx b a,⟨12,q,a,b⟩,gcx b a] from rfl] at hcg
  rw[hcg]
  clear hcg
  go_enter Tryz.func169,Tryz.ntmps169
  go_wp2_with (first|(go_at_call 147;refine(yaw _ _ _ _ _ _).mono ?_;rintro e w1 ⟨rfl,b1,s1⟩;simp at s1;obtain ⟨p0,p1,p2,p3⟩:=yai (lay:=b1) (yac _ _))|(go_at_call 47;refine(yag _ _ _ _).mono ?_;rintro e w' ⟨rfl,rfl⟩)|(go_at_call 183;refine(yeh _ _ _ _ _ _).mono ?_;rintro e w2 ⟨rfl,b2,s2⟩;obtain ⟨q0,q1,q2,q3⟩:=yai (lay:=b1.trans (b2.mono b1.size)) (yac _ _);have hlt:w.heap.size<w2.heap.size:=by omega)|(go_at_call 185;refine(yd0 _ _ _).mono ?_;rintro e w' ⟨rfl,hb,hs⟩;(try simp at hs);(try (obtain ⟨r0,r1,r2,r3⟩:=yai (lay:=hb) (yac w2 _))))|(go_at_call 184;refine(yec _ _ _).mono ?_;rintro e w' ⟨rfl,hb,hs⟩;(try simp at hs);(try (obtain ⟨r0,r1,r2,r3⟩:=yai (lay:=hb) (yac w2 _)))))
  obtain ⟨t0,t1,t2,t3⟩:=yai (lay:=Below.refl _ _) (yac w2 (.cells #[.int .i64 12,.int .i64 q,.int .i64 a,.int .i64 b] 102))
  go_region_held3 (fun W=>W.cell? ⟨w2.heap.size,0,none⟩=some (.int .i64 12)∧W.cell? ⟨w2.heap.size,1,none⟩=some (.int .i64 q)∧W.cell? ⟨w2.heap.size,2,none⟩=some (.int .i64 a)∧W.cell? ⟨w2.heap.size,3,none⟩=some (.int .i64 b))
   (first|exact ⟨t0,t1,t2,t3⟩|exact ⟨x0,x1,x2,x3⟩|exact ⟨y0,y1,y2,y3⟩|(refine ⟨?_,?_,?_,?_⟩ <;> go_simp))
   (first|(have _t:=t0;go_at_call 184;(with_reducible refine(yec _ _ _).mono ?_);rintro e w3 ⟨rfl,hb3,hs3⟩;have b3:=yh5 hb3;have s3:=b3.size;(try simp at s3);obtain ⟨x0,x1,x2,x3⟩:=yai (lay:=b3) (yac w2 _);clear hb3 hs3 t0)|(go_at_call 184;(with_reducible refine(yec _ _ _).mono ?_);rintro e w4 ⟨rfl,b4,s4⟩;obtain ⟨y0,y1,y2,y3⟩:=yai (lay:=b3.trans (b4.mono b3.size)) (yac w2 _);have lt4:w2.heap.size<w4.heap.size:=by omega))
  all_goals go_wp2_with fail
  all_goals go_ret2
  all_goals (refine ydu ?_ ?_ ?_ ?_ ?_ ?_)
  all_goals first|rfl|omega|(simp [maxLen];done)|(simp;omega)|exact((((((Below.refl _ _).alloc (Nat.le_refl _) _).trans (b1.mono Zq11)).trans (b2.mono Zq6)).alloc Zq6 _).trans (b3.mono Zq10)).trans (b4.mono Zq6)
 rw[show cgl q ⟨12,a,b,c⟩=none from rfl] at hcg
 rotate_left
 all_goals
  rw[hcg]
  clear hcg
  go_enter Tryz.func169,Tryz.ntmps169
  go_wp2_with (first|(go_at_call 147;refine(yaw _ _ _ _ _ _).mono ?_;rintro e w1 ⟨rfl,b1,s1⟩;simp at s1;obtain ⟨p0,p1,p2,p3⟩:=yai (lay:=b1) (yac _ _))|(go_at_call 47;refine(yag _ _ _ _).mono ?_;rintro e w' ⟨rfl,rfl⟩)|(go_at_call 183;refine(yeh _ _ _ _ _ _).mono ?_;rintro e w2 ⟨rfl,b2,s2⟩;obtain ⟨q0,q1,q2,q3⟩:=yai (lay:=b1.trans (b2.mono b1.size)) (yac _ _);have hlt:w.heap.size<w2.heap.size:=by omega)|(go_at_call 185;refine(yd0 _ _ _).mono ?_;rintro e w' ⟨rfl,hb,hs⟩;(try simp at hs);(try (obtain ⟨r0,r1,r2,r3⟩:=yai (lay:=hb) (yac w2 _))))|(go_at_call 184;refine(yec _ _ _).mono ?_;rintro e w' ⟨rfl,hb,hs⟩;(try simp at hs);(try (obtain ⟨r0,r1,r2,r3⟩:=yai (lay:=hb) (yac w2 _)))))
  go_ret2
  refine ydu ?_ ?_ ?_ ?_ ?_ ?_
  ·exact Zq5
  ·exact Zq0
  ·rfl
  ·simp [maxLen]
  ·rfl
  ·first|rfl|simp
theorem yd1 (x:Gt):(ygb x).length=4:=rfl
def cgL (q:Int) (g:Gt):List Gt:=(ydj q g).getD []
def cgB (q:Int) (g:Gt):Bool:=(ydj q g).isSome
theorem ys4 {q:Int} {g:Gt} {L:List Gt} (h:cgl q g=some L):L.length≤7:=by
 obtain ⟨k,a,b,c⟩:=g
 simp only[cgl] at h
 repeat' (split at h)
 all_goals (cases h;try simp)
theorem yks (q:Int) (g:Gt):(cgL q g).length≤7:=by
 unfold cgL ydj
 split
 ·cases h:cgl q g with
  | none=>simp
  | some L=>exact ys4 h
 ·simp
theorem yhc (q k a b c:Int) (w:World):Calls Tryz.prog 176 #[.int .i64 q,.agg #[.int .i64 k,.int .i64 a,.int .i64 b,.int .i64 c]] w
  (yey 102 4 w (cgB q ⟨k,a,b,c⟩) (cgL q ⟨k,a,b,c⟩).length ((cgL q ⟨k,a,b,c⟩).flatMap ygb)):=yhx q k a b c w
theorem yhd (q k a b c:Int) (w:World):Calls Tryz.prog 169 #[.int .i64 q,.agg #[.int .i64 k,.int .i64 a,.int .i64 b,.int .i64 c]] w
  (yey 102 4 w (cgB q ⟨k,a,b,c⟩) (cgL q ⟨k,a,b,c⟩).length ((cgL q ⟨k,a,b,c⟩).flatMap ygb)):=yhy q k a b c w
structure Opt where
 k:Int
 g:Gt
 q:Int
 bit:Int
 cond:Int
def yan (o:Opt):List Value:=[.int .i64 o.k,.int .i64 o.g.k,.int .i64 o.g.a,.int .i64 o.g.b,.int .i64 o.g.c,.int .i64 o.q,.int .i64 o.bit,.int .i64 o.cond]
def ycj (g:Gt):Bool:=g.k==0&&(g.a==0&&(g.b==0&&g.c==0))
def yaf (o:Opt) (n bits:Int):Bool :=
 inB n 1 4&&(inB bits 0 3 &&
  (if o.k=1 then o.q==0&&(o.bit==0&&(ybs o.g n&&inB o.cond 0 bits))
   else if o.k=2 then ycj o.g&&(o.cond==0&&(inB o.q 0 (n - 1)&&inB o.bit 0 (bits - 1)))
   else if o.k=3 then ycj o.g&&(o.bit==0&&(o.cond==0&&inB o.q 0 (n - 1)))
   else false))
theorem ykt (k gk ga gb gc q bit cond n bits:Int) (w:World):Calls Tryz.prog 79 #[.agg #[.int .i64 k,.int .i64 gk,.int .i64 ga,.int .i64 gb,.int .i64 gc,.int .i64 q,.int .i64 bit,.int .i64 cond],.int .i64 n,.int .i64 bits] w fun e w' =>
  e=.returned (.bool (yaf ⟨k,⟨gk,ga,gb,gc⟩,q,bit,cond⟩ n bits))∧Below w.heap.size w w'∧w.heap.size≤w'.heap.size:=by
 cases hn:inB n 1 4
 ·rw[show yaf ⟨k,⟨gk,ga,gb,gc⟩,q,bit,cond⟩ n bits=false by simp [yaf,hn]]
  go_enter Tryz.func79,Tryz.ntmps79
  go_wp2_with (first|(go_at_call 44;refine(yav _ _ _ _).mono ?_;rintro e w' ⟨rfl,rfl⟩)|(go_at_call 126;refine(yau _ _ _ _ _ _).mono ?_;rintro e w' ⟨rfl,hb,hs⟩;simp at hs;obtain ⟨p0,p1,p2,p3,p4,p5,p6,p7⟩:=ya0 (lay:=hb) (yac _ _)))
  go_ret
  exact ⟨rfl,Zq0,Zq5⟩
 have hnn:=ycf.1 hn
 cases hbt:inB bits 0 3
 ·rw[show yaf ⟨k,⟨gk,ga,gb,gc⟩,q,bit,cond⟩ n bits=false by simp [yaf,hn,hbt]]
  go_enter Tryz.func79,Tryz.ntmps79
  go_wp2_with (first|(go_at_call 44;refine(yav _ _ _ _).mono ?_;rintro e w' ⟨rfl,rfl⟩)|(go_at_call 126;refine(yau _ _ _ _ _ _).mono ?_;rintro e w' ⟨rfl,hb,hs⟩;simp at hs;obtain ⟨p0,p1,p2,p3,p4,p5,p6,p7⟩:=ya0 (lay:=hb) (yac _ _)))
  go_ret
  exact ⟨rfl,Zq0,Zq5⟩
 have hbb:=ycf.1 hbt
 by_cases h1:k=1
 ·subst h1
  by_cases hq:q=0
  ·subst hq
   by_cases hb:bit=0
   ·subst hb
    cases hv:ybs ⟨gk,ga,gb,gc⟩ n
    ·rw[show yaf ⟨1,⟨gk,ga,gb,gc⟩,0,0,cond⟩ n bits=false by simp [yaf,hv]]
     go_enter Tryz.func79,Tryz.ntmps79
     go_wp2_with (first|(go_at_call 44;refine(yav _ _ _ _).mono ?_;rintro e w' ⟨rfl,rfl⟩)|(go_at_call 126;refine(yau _ _ _ _ _ _).mono ?_;rintro e w' ⟨rfl,hb,hs⟩;simp at hs;obtain ⟨p0,p1,p2,p3,p4,p5,p6,p7⟩:=ya0 (lay:=hb) (yac _ _)))
     go_ret
     exact ⟨rfl,Zq0,Zq5⟩
    ·cases hc:inB cond 0 bits
     ·rw[show yaf ⟨1,⟨gk,ga,gb,gc⟩,0,0,cond⟩ n bits=false by simp [yaf,hc]]
      go_enter Tryz.func79,Tryz.ntmps79
      go_wp2_with (first|(go_at_call 44;refine(yav _ _ _ _).mono ?_;rintro e w' ⟨rfl,rfl⟩)|(go_at_call 126;refine(yau _ _ _ _ _ _).mono ?_;rintro e w' ⟨rfl,hb,hs⟩;simp at hs;obtain ⟨p0,p1,p2,p3,p4,p5,p6,p7⟩:=ya0 (lay:=hb) (yac _ _)))
      go_ret
      exact ⟨rfl,Zq0,Zq5⟩
     ·rw[show yaf ⟨1,⟨gk,ga,gb,gc⟩,0,0,cond⟩ n bits=true by simp [yaf,hn,hbt,hv,hc]]
      go_enter Tryz.func79,Tryz.ntmps79
      go_wp2_with (first|(go_at_call 44;refine(yav _ _ _ _).mono ?_;rintro e w' ⟨rfl,rfl⟩)|(go_at_call 126;refine(yau _ _ _ _ _ _).mono ?_;rintro e w' ⟨rfl,hb,hs⟩;simp at hs;obtain ⟨p0,p1,p2,p3,p4,p5,p6,p7⟩:=ya0 (lay:=hb) (yac _ _)))
      go_ret
      exact ⟨rfl,Zq0,Zq5⟩
   ·rw[show yaf ⟨1,⟨gk,ga,gb,gc⟩,0,bit,cond⟩ n bits=false by simp [yaf,hb]]
    go_enter Tryz.func79,Tryz.ntmps79
    go_wp2_with (first|(go_at_call 44;refine(yav _ _ _ _).mono ?_;rintro e w' ⟨rfl,rfl⟩)|(go_at_call 126;refine(yau _ _ _ _ _ _).mono ?_;rintro e w' ⟨rfl,hb,hs⟩;simp at hs;obtain ⟨p0,p1,p2,p3,p4,p5,p6,p7⟩:=ya0 (lay:=hb) (yac _ _)))
    go_ret
    exact ⟨rfl,Zq0,Zq5⟩
  ·rw[show yaf ⟨1,⟨gk,ga,gb,gc⟩,q,bit,cond⟩ n bits=false by simp [yaf,hq]]
   go_enter Tryz.func79,Tryz.ntmps79
   go_wp2_with (first|(go_at_call 44;refine(yav _ _ _ _).mono ?_;rintro e w' ⟨rfl,rfl⟩)|(go_at_call 126;refine(yau _ _ _ _ _ _).mono ?_;rintro e w' ⟨rfl,hb,hs⟩;simp at hs;obtain ⟨p0,p1,p2,p3,p4,p5,p6,p7⟩:=ya0 (lay:=hb) (yac _ _)))
   go_ret
   exact ⟨rfl,Zq0,Zq5⟩
 have h1':(k==1)=false:=beq_eq_false_iff_ne.2 h1
 by_cases h2:k=2
 ·subst h2
  have hz:((((gk≠0∨gk=0∧ga≠0)∨gk=0∧ga=0∧gb≠0)∨gk=0∧ga=0∧gb=0∧gc≠0)∨gk=0∧ga=0∧gb=0∧gc=0∧cond≠0)∨gk=0∧ga=0∧gb=0∧gc=0∧cond=0:=by omega
  rcases hz with ((((h|⟨rfl,h⟩)|⟨rfl,rfl,h⟩)|⟨rfl,rfl,rfl,h⟩)|⟨rfl,rfl,rfl,rfl,h⟩)|⟨rfl,rfl,rfl,rfl,rfl⟩
  ·rw[show yaf ⟨2,⟨gk,ga,gb,gc⟩,q,bit,cond⟩ n bits=false by simp [yaf,ycj,h]]
   go_enter Tryz.func79,Tryz.ntmps79
   go_wp2_with (first|(go_at_call 44;refine(yav _ _ _ _).mono ?_;rintro e w' ⟨rfl,rfl⟩)|(go_at_call 126;refine(yau _ _ _ _ _ _).mono ?_;rintro e w' ⟨rfl,hb,hs⟩;simp at hs;obtain ⟨p0,p1,p2,p3,p4,p5,p6,p7⟩:=ya0 (lay:=hb) (yac _ _)))
   go_ret
   exact ⟨rfl,Zq0,Zq5⟩
  ·rw[show yaf ⟨2,⟨0,ga,gb,gc⟩,q,bit,cond⟩ n bits=false by simp [yaf,ycj,h]]
   go_enter Tryz.func79,Tryz.ntmps79
   go_wp2_with (first|(go_at_call 44;refine(yav _ _ _ _).mono ?_;rintro e w' ⟨rfl,rfl⟩)|(go_at_call 126;refine(yau _ _ _ _ _ _).mono ?_;rintro e w' ⟨rfl,hb,hs⟩;simp at hs;obtain ⟨p0,p1,p2,p3,p4,p5,p6,p7⟩:=ya0 (lay:=hb) (yac _ _)))
   go_ret
   exact ⟨rfl,Zq0,Zq5⟩
  ·rw[show yaf ⟨2,⟨0,0,gb,gc⟩,q,bit,cond⟩ n bits=false by simp [yaf,ycj,h]]
   go_enter Tryz.func79,Tryz.ntmps79
   go_wp2_with (first|(go_at_call 44;refine(yav _ _ _ _).mono ?_;rintro e w' ⟨rfl,rfl⟩)|(go_at_call 126;refine(yau _ _ _ _ _ _).mono ?_;rintro e w' ⟨rfl,hb,hs⟩;simp at hs;obtain ⟨p0,p1,p2,p3,p4,p5,p6,p7⟩:=ya0 (lay:=hb) (yac _ _)))
   go_ret
   exact ⟨rfl,Zq0,Zq5⟩
  ·rw[show yaf ⟨2,⟨0,0,0,gc⟩,q,bit,cond⟩ n bits=false by simp [yaf,ycj,h]]
   go_enter Tryz.func79,Tryz.ntmps79
   go_wp2_with (first|(go_at_call 44;refine(yav _ _ _ _).mono ?_;rintro e w' ⟨rfl,rfl⟩)|(go_at_call 126;refine(yau _ _ _ _ _ _).mono ?_;rintro e w' ⟨rfl,hb,hs⟩;simp at hs;obtain ⟨p0,p1,p2,p3,p4,p5,p6,p7⟩:=ya0 (lay:=hb) (yac _ _)))
   go_ret
   exact ⟨rfl,Zq0,Zq5⟩
  ·rw[show yaf ⟨2,⟨0,0,0,0⟩,q,bit,cond⟩ n bits=false by simp [yaf,ycj,h]]
   go_enter Tryz.func79,Tryz.ntmps79
   go_wp2_with (first|(go_at_call 44;refine(yav _ _ _ _).mono ?_;rintro e w' ⟨rfl,rfl⟩)|(go_at_call 126;refine(yau _ _ _ _ _ _).mono ?_;rintro e w' ⟨rfl,hb,hs⟩;simp at hs;obtain ⟨p0,p1,p2,p3,p4,p5,p6,p7⟩:=ya0 (lay:=hb) (yac _ _)))
   go_ret
   exact ⟨rfl,Zq0,Zq5⟩
  ·cases hq:inB q 0 (n - 1)
   ·rw[show yaf ⟨2,⟨0,0,0,0⟩,q,bit,0⟩ n bits=false by simp [yaf,ycj,hq]]
    go_enter Tryz.func79,Tryz.ntmps79
    go_wp2_with (first|(go_at_call 44;refine(yav _ _ _ _).mono ?_;rintro e w' ⟨rfl,rfl⟩)|(go_at_call 126;refine(yau _ _ _ _ _ _).mono ?_;rintro e w' ⟨rfl,hb,hs⟩;simp at hs;obtain ⟨p0,p1,p2,p3,p4,p5,p6,p7⟩:=ya0 (lay:=hb) (yac _ _)))
    go_ret
    exact ⟨rfl,Zq0,Zq5⟩
   ·cases hc:inB bit 0 (bits - 1)
    ·rw[show yaf ⟨2,⟨0,0,0,0⟩,q,bit,0⟩ n bits=false by simp [yaf,ycj,hc]]
     go_enter Tryz.func79,Tryz.ntmps79
     go_wp2_with (first|(go_at_call 44;refine(yav _ _ _ _).mono ?_;rintro e w' ⟨rfl,rfl⟩)|(go_at_call 126;refine(yau _ _ _ _ _ _).mono ?_;rintro e w' ⟨rfl,hb,hs⟩;simp at hs;obtain ⟨p0,p1,p2,p3,p4,p5,p6,p7⟩:=ya0 (lay:=hb) (yac _ _)))
     go_ret
     exact ⟨rfl,Zq0,Zq5⟩
    ·rw[show yaf ⟨2,⟨0,0,0,0⟩,q,bit,0⟩ n bits=true by simp [yaf,ycj,hn,hbt,hq,hc]]
     go_enter Tryz.func79,Tryz.ntmps79
     go_wp2_with (first|(go_at_call 44;refine(yav _ _ _ _).mono ?_;rintro e w' ⟨rfl,rfl⟩)|(go_at_call 126;refine(yau _ _ _ _ _ _).mono ?_;rintro e w' ⟨rfl,hb,hs⟩;simp at hs;obtain ⟨p0,p1,p2,p3,p4,p5,p6,p7⟩:=ya0 (lay:=hb) (yac _ _)))
     go_ret
     exact ⟨rfl,Zq0,Zq5⟩
 have h2':(k==2)=false:=beq_eq_false_iff_ne.2 h2
 by_cases h3:k=3
 ·subst h3
  have hz:(((((gk≠0∨gk=0∧ga≠0)∨gk=0∧ga=0∧gb≠0)∨gk=0∧ga=0∧gb=0∧gc≠0)∨gk=0∧ga=0∧gb=0∧gc=0∧bit≠0)∨gk=0∧ga=0∧gb=0∧gc=0∧bit=0∧cond≠0)∨gk=0∧ga=0∧gb=0∧gc=0∧bit=0∧cond=0:=by omega
  rcases hz with (((((h|⟨rfl,h⟩)|⟨rfl,rfl,h⟩)|⟨rfl,rfl,rfl,h⟩)|⟨rfl,rfl,rfl,rfl,h⟩)|⟨rfl,rfl,rfl,rfl,rfl,h⟩)|⟨rfl,rfl,rfl,rfl,rfl,rfl⟩
  ·rw[show yaf ⟨3,⟨gk,ga,gb,gc⟩,q,bit,cond⟩ n bits=false by simp [yaf,ycj,h]]
   go_enter Tryz.func79,Tryz.ntmps79
   go_wp2_with (first|(go_at_call 44;refine(yav _ _ _ _).mono ?_;rintro e w' ⟨rfl,rfl⟩)|(go_at_call 126;refine(yau _ _ _ _ _ _).mono ?_;rintro e w' ⟨rfl,hb,hs⟩;simp at hs;obtain ⟨p0,p1,p2,p3,p4,p5,p6,p7⟩:=ya0 (lay:=hb) (yac _ _)))
   go_ret
   exact ⟨rfl,Zq0,Zq5⟩
  ·rw[show yaf ⟨3,⟨0,ga,gb,gc⟩,q,bit,cond⟩ n bits=false by simp [yaf,ycj,h]]
   go_enter Tryz.func79,Tryz.ntmps79
   go_wp2_with (first|(go_at_call 44;refine(yav _ _ _ _).mono ?_;rintro e w' ⟨rfl,rfl⟩)|(go_at_call 126;refine(yau _ _ _ _ _ _).mono ?_;rintro e w' ⟨rfl,hb,hs⟩;simp at hs;obtain ⟨p0,p1,p2,p3,p4,p5,p6,p7⟩:=ya0 (lay:=hb) (yac _ _)))
   go_ret
   exact ⟨rfl,Zq0,Zq5⟩
  ·rw[show yaf ⟨3,⟨0,0,gb,gc⟩,q,bit,cond⟩ n bits=false by simp [yaf,ycj,h]]
   go_enter Tryz.func79,Tryz.ntmps79
   go_wp2_with (first|(go_at_call 44;refine(yav _ _ _ _).mono ?_;rintro e w' ⟨rfl,rfl⟩)|(go_at_call 126;refine(yau _ _ _ _ _ _).mono ?_;rintro e w' ⟨rfl,hb,hs⟩;simp at hs;obtain ⟨p0,p1,p2,p3,p4,p5,p6,p7⟩:=ya0 (lay:=hb) (yac _ _)))
   go_ret
   exact ⟨rfl,Zq0,Zq5⟩
  ·rw[show yaf ⟨3,⟨0,0,0,gc⟩,q,bit,cond⟩ n bits=false by simp [yaf,ycj,h]]
   go_enter Tryz.func79,Tryz.ntmps79
   go_wp2_with (first|(go_at_call 44;refine(yav _ _ _ _).mono ?_;rintro e w' ⟨rfl,rfl⟩)|(go_at_call 126;refine(yau _ _ _ _ _ _).mono ?_;rintro e w' ⟨rfl,hb,hs⟩;simp at hs;obtain ⟨p0,p1,p2,p3,p4,p5,p6,p7⟩:=ya0 (lay:=hb) (yac _ _)))
   go_ret
   exact ⟨rfl,Zq0,Zq5⟩
  ·rw[show yaf ⟨3,⟨0,0,0,0⟩,q,bit,cond⟩ n bits=false by simp [yaf,ycj,h]]
   go_enter Tryz.func79,Tryz.ntmps79
   go_wp2_with (first|(go_at_call 44;refine(yav _ _ _ _).mono ?_;rintro e w' ⟨rfl,rfl⟩)|(go_at_call 126;refine(yau _ _ _ _ _ _).mono ?_;rintro e w' ⟨rfl,hb,hs⟩;simp at hs;obtain ⟨p0,p1,p2,p3,p4,p5,p6,p7⟩:=ya0 (lay:=hb) (yac _ _)))
   go_ret
   exact ⟨rfl,Zq0,Zq5⟩
  ·rw[show yaf ⟨3,⟨0,0,0,0⟩,q,0,cond⟩ n bits=false by simp [yaf,ycj,h]]
   go_enter Tryz.func79,Tryz.ntmps79
   go_wp2_with (first|(go_at_call 44;refine(yav _ _ _ _).mono ?_;rintro e w' ⟨rfl,rfl⟩)|(go_at_call 126;refine(yau _ _ _ _ _ _).mono ?_;rintro e w' ⟨rfl,hb,hs⟩;simp at hs;obtain ⟨p0,p1,p2,p3,p4,p5,p6,p7⟩:=ya0 (lay:=hb) (yac _ _)))
   go_ret
   exact ⟨rfl,Zq0,Zq5⟩
  ·cases hq:inB q 0 (n - 1)
   ·rw[show yaf ⟨3,⟨0,0,0,0⟩,q,0,0⟩ n bits=false by simp [yaf,ycj,hq]]
    go_enter Tryz.func79,Tryz.ntmps79
    go_wp2_with (first|(go_at_call 44;refine(yav _ _ _ _).mono ?_;rintro e w' ⟨rfl,rfl⟩)|(go_at_call 126;refine(yau _ _ _ _ _ _).mono ?_;rintro e w' ⟨rfl,hb,hs⟩;simp at hs;obtain ⟨p0,p1,p2,p3,p4,p5,p6,p7⟩:=ya0 (lay:=hb) (yac _ _)))
    go_ret
    exact ⟨rfl,Zq0,Zq5⟩
   ·rw[show yaf ⟨3,⟨0,0,0,0⟩,q,0,0⟩ n bits=true by simp [yaf,ycj,hn,hbt,hq]]
    go_enter Tryz.func79,Tryz.ntmps79
    go_wp2_with (first|(go_at_call 44;refine(yav _ _ _ _).mono ?_;rintro e w' ⟨rfl,rfl⟩)|(go_at_call 126;refine(yau _ _ _ _ _ _).mono ?_;rintro e w' ⟨rfl,hb,hs⟩;simp at hs;obtain ⟨p0,p1,p2,p3,p4,p5,p6,p7⟩:=ya0 (lay:=hb) (yac _ _)))
    go_ret
    exact ⟨rfl,Zq0,Zq5⟩
 have h3':(k==3)=false:=beq_eq_false_iff_ne.2 h3
 rw[show yaf ⟨k,⟨gk,ga,gb,gc⟩,q,bit,cond⟩ n bits=false by simp [yaf,h1,h2,h3]]
 clear h1 h2 h3
 go_enter Tryz.func79,Tryz.ntmps79
 go_wp2_with (first|(go_at_call 44;refine(yav _ _ _ _).mono ?_;rintro e w' ⟨rfl,rfl⟩)|(go_at_call 126;refine(yau _ _ _ _ _ _).mono ?_;rintro e w' ⟨rfl,hb,hs⟩;simp at hs;obtain ⟨p0,p1,p2,p3,p4,p5,p6,p7⟩:=ya0 (lay:=hb) (yac _ _)))
 go_ret
 exact ⟨rfl,Zq0,Zq5⟩
theorem yku (k gk ga gb gc q bit cond n bits:Int) (w:World):Calls Tryz.prog 116 #[.agg #[.int .i64 k,.int .i64 gk,.int .i64 ga,.int .i64 gb,.int .i64 gc,.int .i64 q,.int .i64 bit,.int .i64 cond],.int .i64 n,.int .i64 bits] w fun e w' =>
  e=.returned (.bool (yaf ⟨k,⟨gk,ga,gb,gc⟩,q,bit,cond⟩ n bits))∧Below w.heap.size w w'∧w.heap.size≤w'.heap.size:=by
 cases hn:inB n 1 4
 ·rw[show yaf ⟨k,⟨gk,ga,gb,gc⟩,q,bit,cond⟩ n bits=false by simp [yaf,hn]]
  go_enter Tryz.func116,Tryz.ntmps116
  go_wp2_with (first|(go_at_call 47;refine(yag _ _ _ _).mono ?_;rintro e w' ⟨rfl,rfl⟩)|(go_at_call 147;refine(yaw _ _ _ _ _ _).mono ?_;rintro e w' ⟨rfl,hb,hs⟩;simp at hs;obtain ⟨p0,p1,p2,p3,p4,p5,p6,p7⟩:=ya0 (lay:=hb) (yac _ _)))
  go_ret
  exact ⟨rfl,Zq0,Zq5⟩
 have hnn:=ycf.1 hn
 cases hbt:inB bits 0 3
 ·rw[show yaf ⟨k,⟨gk,ga,gb,gc⟩,q,bit,cond⟩ n bits=false by simp [yaf,hn,hbt]]
  go_enter Tryz.func116,Tryz.ntmps116
  go_wp2_with (first|(go_at_call 47;refine(yag _ _ _ _).mono ?_;rintro e w' ⟨rfl,rfl⟩)|(go_at_call 147;refine(yaw _ _ _ _ _ _).mono ?_;rintro e w' ⟨rfl,hb,hs⟩;simp at hs;obtain ⟨p0,p1,p2,p3,p4,p5,p6,p7⟩:=ya0 (lay:=hb) (yac _ _)))
  go_ret
  exact ⟨rfl,Zq0,Zq5⟩
 have hbb:=ycf.1 hbt
 by_cases h1:k=1
 ·subst h1
  by_cases hq:q=0
  ·subst hq
   by_cases hb:bit=0
   ·subst hb
    cases hv:ybs ⟨gk,ga,gb,gc⟩ n
    ·rw[show yaf ⟨1,⟨gk,ga,gb,gc⟩,0,0,cond⟩ n bits=false by simp [yaf,hv]]
     go_enter Tryz.func116,Tryz.ntmps116
     go_wp2_with (first|(go_at_call 47;refine(yag _ _ _ _).mono ?_;rintro e w' ⟨rfl,rfl⟩)|(go_at_call 147;refine(yaw _ _ _ _ _ _).mono ?_;rintro e w' ⟨rfl,hb,hs⟩;simp at hs;obtain ⟨p0,p1,p2,p3,p4,p5,p6,p7⟩:=ya0 (lay:=hb) (yac _ _)))
     go_ret
     exact ⟨rfl,Zq0,Zq5⟩
    ·cases hc:inB cond 0 bits
     ·rw[show yaf ⟨1,⟨gk,ga,gb,gc⟩,0,0,cond⟩ n bits=false by simp [yaf,hc]]
      go_enter Tryz.func116,Tryz.ntmps116
      go_wp2_with (first|(go_at_call 47;refine(yag _ _ _ _).mono ?_;rintro e w' ⟨rfl,rfl⟩)|(go_at_call 147;refine(yaw _ _ _ _ _ _).mono ?_;rintro e w' ⟨rfl,hb,hs⟩;simp at hs;obtain ⟨p0,p1,p2,p3,p4,p5,p6,p7⟩:=ya0 (lay:=hb) (yac _ _)))
      go_ret
      exact ⟨rfl,Zq0,Zq5⟩
     ·rw[show yaf ⟨1,⟨gk,ga,gb,gc⟩,0,0,cond⟩ n bits=true by simp [yaf,hn,hbt,hv,hc]]
      go_enter Tryz.func116,Tryz.ntmps116
      go_wp2_with (first|(go_at_call 47;refine(yag _ _ _ _).mono ?_;rintro e w' ⟨rfl,rfl⟩)|(go_at_call 147;refine(yaw _ _ _ _ _ _).mono ?_;rintro e w' ⟨rfl,hb,hs⟩;simp at hs;obtain ⟨p0,p1,p2,p3,p4,p5,p6,p7⟩:=ya0 (lay:=hb) (yac _ _)))
      go_ret
      exact ⟨rfl,Zq0,Zq5⟩
   ·rw[show yaf ⟨1,⟨gk,ga,gb,gc⟩,0,bit,cond⟩ n bits=false by simp [yaf,hb]]
    go_enter Tryz.func116,Tryz.ntmps116
    go_wp2_with (first|(go_at_call 47;refine(yag _ _ _ _).mono ?_;rintro e w' ⟨rfl,rfl⟩)|(go_at_call 147;refine(yaw _ _ _ _ _ _).mono ?_;rintro e w' ⟨rfl,hb,hs⟩;simp at hs;obtain ⟨p0,p1,p2,p3,p4,p5,p6,p7⟩:=ya0 (lay:=hb) (yac _ _)))
    go_ret
    exact ⟨rfl,Zq0,Zq5⟩
  ·rw[show yaf ⟨1,⟨gk,ga,gb,gc⟩,q,bit,cond⟩ n bits=false by simp [yaf,hq]]
   go_enter Tryz.func116,Tryz.ntmps116
   go_wp2_with (first|(go_at_call 47;refine(yag _ _ _ _).mono ?_;rintro e w' ⟨rfl,rfl⟩)|(go_at_call 147;refine(yaw _ _ _ _ _ _).mono ?_;rintro e w' ⟨rfl,hb,hs⟩;simp at hs;obtain ⟨p0,p1,p2,p3,p4,p5,p6,p7⟩:=ya0 (lay:=hb) (yac _ _)))
   go_ret
   exact ⟨rfl,Zq0,Zq5⟩
 have h1':(k==1)=false:=beq_eq_false_iff_ne.2 h1
 by_cases h2:k=2
 ·subst h2
  have hz:((((gk≠0∨gk=0∧ga≠0)∨gk=0∧ga=0∧gb≠0)∨gk=0∧ga=0∧gb=0∧gc≠0)∨gk=0∧ga=0∧gb=0∧gc=0∧cond≠0)∨gk=0∧ga=0∧gb=0∧gc=0∧cond=0:=by omega
  rcases hz with ((((h|⟨rfl,h⟩)|⟨rfl,rfl,h⟩)|⟨rfl,rfl,rfl,h⟩)|⟨rfl,rfl,rfl,rfl,h⟩)|⟨rfl,rfl,rfl,rfl,rfl⟩
  ·rw[show yaf ⟨2,⟨gk,ga,gb,gc⟩,q,bit,cond⟩ n bits=false by simp [yaf,ycj,h]]
   go_enter Tryz.func116,Tryz.ntmps116
   go_wp2_with (first|(go_at_call 47;refine(yag _ _ _ _).mono ?_;rintro e w' ⟨rfl,rfl⟩)|(go_at_call 147;refine(yaw _ _ _ _ _ _).mono ?_;rintro e w' ⟨rfl,hb,hs⟩;simp at hs;obtain ⟨p0,p1,p2,p3,p4,p5,p6,p7⟩:=ya0 (lay:=hb) (yac _ _)))
   go_ret
   exact ⟨rfl,Zq0,Zq5⟩
  ·rw[show yaf ⟨2,⟨0,ga,gb,gc⟩,q,bit,cond⟩ n bits=false by simp [yaf,ycj,h]]
   go_enter Tryz.func116,Tryz.ntmps116
   go_wp2_with (first|(go_at_call 47;refine(yag _ _ _ _).mono ?_;rintro e w' ⟨rfl,rfl⟩)|(go_at_call 147;refine(yaw _ _ _ _ _ _).mono ?_;rintro e w' ⟨rfl,hb,hs⟩;simp at hs;obtain ⟨p0,p1,p2,p3,p4,p5,p6,p7⟩:=ya0 (lay:=hb) (yac _ _)))
   go_ret
   exact ⟨rfl,Zq0,Zq5⟩
  ·rw[show yaf ⟨2,⟨0,0,gb,gc⟩,q,bit,cond⟩ n bits=false by simp [yaf,ycj,h]]
   go_enter Tryz.func116,Tryz.ntmps116
   go_wp2_with (first|(go_at_call 47;refine(yag _ _ _ _).mono ?_;rintro e w' ⟨rfl,rfl⟩)|(go_at_call 147;refine(yaw _ _ _ _ _ _).mono ?_;rintro e w' ⟨rfl,hb,hs⟩;simp at hs;obtain ⟨p0,p1,p2,p3,p4,p5,p6,p7⟩:=ya0 (lay:=hb) (yac _ _)))
   go_ret
   exact ⟨rfl,Zq0,Zq5⟩
  ·rw[show yaf ⟨2,⟨0,0,0,gc⟩,q,bit,cond⟩ n bits=false by simp [yaf,ycj,h]]
   go_enter Tryz.func116,Tryz.ntmps116
   go_wp2_with (first|(go_at_call 47;refine(yag _ _ _ _).mono ?_;rintro e w' ⟨rfl,rfl⟩)|(go_at_call 147;refine(yaw _ _ _ _ _ _).mono ?_;rintro e w' ⟨rfl,hb,hs⟩;simp at hs;obtain ⟨p0,p1,p2,p3,p4,p5,p6,p7⟩:=ya0 (lay:=hb) (yac _ _)))
   go_ret
   exact ⟨rfl,Zq0,Zq5⟩
  ·rw[show yaf ⟨2,⟨0,0,0,0⟩,q,bit,cond⟩ n bits=false by simp [yaf,ycj,h]]
   go_enter Tryz.func116,Tryz.ntmps116
   go_wp2_with (first|(go_at_call 47;refine(yag _ _ _ _).mono ?_;rintro e w' ⟨rfl,rfl⟩)|(go_at_call 147;refine(yaw _ _ _ _ _ _).mono ?_;rintro e w' ⟨rfl,hb,hs⟩;simp at hs;obtain ⟨p0,p1,p2,p3,p4,p5,p6,p7⟩:=ya0 (lay:=hb) (yac _ _)))
   go_ret
   exact ⟨rfl,Zq0,Zq5⟩
  ·cases hq:inB q 0 (n - 1)
   ·rw[show yaf ⟨2,⟨0,0,0,0⟩,q,bit,0⟩ n bits=false by simp [yaf,ycj,hq]]
    go_enter Tryz.func116,Tryz.ntmps116
    go_wp2_with (first|(go_at_call 47;refine(yag _ _ _ _).mono ?_;rintro e w' ⟨rfl,rfl⟩)|(go_at_call 147;refine(yaw _ _ _ _ _ _).mono ?_;rintro e w' ⟨rfl,hb,hs⟩;simp at hs;obtain ⟨p0,p1,p2,p3,p4,p5,p6,p7⟩:=ya0 (lay:=hb) (yac _ _)))
    go_ret
    exact ⟨rfl,Zq0,Zq5⟩
   ·cases hc:inB bit 0 (bits - 1)
    ·rw[show yaf ⟨2,⟨0,0,0,0⟩,q,bit,0⟩ n bits=false by simp [yaf,ycj,hc]]
     go_enter Tryz.func116,Tryz.ntmps116
     go_wp2_with (first|(go_at_call 47;refine(yag _ _ _ _).mono ?_;rintro e w' ⟨rfl,rfl⟩)|(go_at_call 147;refine(yaw _ _ _ _ _ _).mono ?_;rintro e w' ⟨rfl,hb,hs⟩;simp at hs;obtain ⟨p0,p1,p2,p3,p4,p5,p6,p7⟩:=ya0 (lay:=hb) (yac _ _)))
     go_ret
     exact ⟨rfl,Zq0,Zq5⟩
    ·rw[show yaf ⟨2,⟨0,0,0,0⟩,q,bit,0⟩ n bits=true by simp [yaf,ycj,hn,hbt,hq,hc]]
     go_enter Tryz.func116,Tryz.ntmps116
     go_wp2_with (first|(go_at_call 47;refine(yag _ _ _ _).mono ?_;rintro e w' ⟨rfl,rfl⟩)|(go_at_call 147;refine(yaw _ _ _ _ _ _).mono ?_;rintro e w' ⟨rfl,hb,hs⟩;simp at hs;obtain ⟨p0,p1,p2,p3,p4,p5,p6,p7⟩:=ya0 (lay:=hb) (yac _ _)))
     go_ret
     exact ⟨rfl,Zq0,Zq5⟩
 have h2':(k==2)=false:=beq_eq_false_iff_ne.2 h2
 by_cases h3:k=3
 ·subst h3
  have hz:(((((gk≠0∨gk=0∧ga≠0)∨gk=0∧ga=0∧gb≠0)∨gk=0∧ga=0∧gb=0∧gc≠0)∨gk=0∧ga=0∧gb=0∧gc=0∧bit≠0)∨gk=0∧ga=0∧gb=0∧gc=0∧bit=0∧cond≠0)∨gk=0∧ga=0∧gb=0∧gc=0∧bit=0∧cond=0:=by omega
  rcases hz with (((((h|⟨rfl,h⟩)|⟨rfl,rfl,h⟩)|⟨rfl,rfl,rfl,h⟩)|⟨rfl,rfl,rfl,rfl,h⟩)|⟨rfl,rfl,rfl,rfl,rfl,h⟩)|⟨rfl,rfl,rfl,rfl,rfl,rfl⟩
  ·rw[show yaf ⟨3,⟨gk,ga,gb,gc⟩,q,bit,cond⟩ n bits=false by simp [yaf,ycj,h]]
   go_enter Tryz.func116,Tryz.ntmps116
   go_wp2_with (first|(go_at_call 47;refine(yag _ _ _ _).mono ?_;rintro e w' ⟨rfl,rfl⟩)|(go_at_call 147;refine(yaw _ _ _ _ _ _).mono ?_;rintro e w' ⟨rfl,hb,hs⟩;simp at hs;obtain ⟨p0,p1,p2,p3,p4,p5,p6,p7⟩:=ya0 (lay:=hb) (yac _ _)))
   go_ret
   exact ⟨rfl,Zq0,Zq5⟩
  ·rw[show yaf ⟨3,⟨0,ga,gb,gc⟩,q,bit,cond⟩ n bits=false by simp [yaf,ycj,h]]
   go_enter Tryz.func116,Tryz.ntmps116
   go_wp2_with (first|(go_at_call 47;refine(yag _ _ _ _).mono ?_;rintro e w' ⟨rfl,rfl⟩)|(go_at_call 147;refine(yaw _ _ _ _ _ _).mono ?_;rintro e w' ⟨rfl,hb,hs⟩;simp at hs;obtain ⟨p0,p1,p2,p3,p4,p5,p6,p7⟩:=ya0 (lay:=hb) (yac _ _)))
   go_ret
   exact ⟨rfl,Zq0,Zq5⟩
  ·rw[show yaf ⟨3,⟨0,0,gb,gc⟩,q,bit,cond⟩ n bits=false by simp [yaf,ycj,h]]
   go_enter Tryz.func116,Tryz.ntmps116
   go_wp2_with (first|(go_at_call 47;refine(yag _ _ _ _).mono ?_;rintro e w' ⟨rfl,rfl⟩)|(go_at_call 147;refine(yaw _ _ _ _ _ _).mono ?_;rintro e w' ⟨rfl,hb,hs⟩;simp at hs;obtain ⟨p0,p1,p2,p3,p4,p5,p6,p7⟩:=ya0 (lay:=hb) (yac _ _)))
   go_ret
   exact ⟨rfl,Zq0,Zq5⟩
  ·rw[show yaf ⟨3,⟨0,0,0,gc⟩,q,bit,cond⟩ n bits=false by simp [yaf,ycj,h]]
   go_enter Tryz.func116,Tryz.ntmps116
   go_wp2_with (first|(go_at_call 47;refine(yag _ _ _ _).mono ?_;rintro e w' ⟨rfl,rfl⟩)|(go_at_call 147;refine(yaw _ _ _ _ _ _).mono ?_;rintro e w' ⟨rfl,hb,hs⟩;simp at hs;obtain ⟨p0,p1,p2,p3,p4,p5,p6,p7⟩:=ya0 (lay:=hb) (yac _ _)))
   go_ret
   exact ⟨rfl,Zq0,Zq5⟩
  ·rw[show yaf ⟨3,⟨0,0,0,0⟩,q,bit,cond⟩ n bits=false by simp [yaf,ycj,h]]
   go_enter Tryz.func116,Tryz.ntmps116
   go_wp2_with (first|(go_at_call 47;refine(yag _ _ _ _).mono ?_;rintro e w' ⟨rfl,rfl⟩)|(go_at_call 147;refine(yaw _ _ _ _ _ _).mono ?_;rintro e w' ⟨rfl,hb,hs⟩;simp at hs;obtain ⟨p0,p1,p2,p3,p4,p5,p6,p7⟩:=ya0 (lay:=hb) (yac _ _)))
   go_ret
   exact ⟨rfl,Zq0,Zq5⟩
  ·rw[show yaf ⟨3,⟨0,0,0,0⟩,q,0,cond⟩ n bits=false by simp [yaf,ycj,h]]
   go_enter Tryz.func116,Tryz.ntmps116
   go_wp2_with (first|(go_at_call 47;refine(yag _ _ _ _).mono ?_;rintro e w' ⟨rfl,rfl⟩)|(go_at_call 147;refine(yaw _ _ _ _ _ _).mono ?_;rintro e w' ⟨rfl,hb,hs⟩;simp at hs;obtain ⟨p0,p1,p2,p3,p4,p5,p6,p7⟩:=ya0 (lay:=hb) (yac _ _)))
   go_ret
   exact ⟨rfl,Zq0,Zq5⟩
  ·cases hq:inB q 0 (n - 1)
   ·rw[show yaf ⟨3,⟨0,0,0,0⟩,q,0,0⟩ n bits=false by simp [yaf,ycj,hq]]
    go_enter Tryz.func116,Tryz.ntmps116
    go_wp2_with (first|(go_at_call 47;refine(yag _ _ _ _).mono ?_;rintro e w' ⟨rfl,rfl⟩)|(go_at_call 147;refine(yaw _ _ _ _ _ _).mono ?_;rintro e w' ⟨rfl,hb,hs⟩;simp at hs;obtain ⟨p0,p1,p2,p3,p4,p5,p6,p7⟩:=ya0 (lay:=hb) (yac _ _)))
    go_ret
    exact ⟨rfl,Zq0,Zq5⟩
   ·rw[show yaf ⟨3,⟨0,0,0,0⟩,q,0,0⟩ n bits=true by simp [yaf,ycj,hn,hbt,hq]]
    go_enter Tryz.func116,Tryz.ntmps116
    go_wp2_with (first|(go_at_call 47;refine(yag _ _ _ _).mono ?_;rintro e w' ⟨rfl,rfl⟩)|(go_at_call 147;refine(yaw _ _ _ _ _ _).mono ?_;rintro e w' ⟨rfl,hb,hs⟩;simp at hs;obtain ⟨p0,p1,p2,p3,p4,p5,p6,p7⟩:=ya0 (lay:=hb) (yac _ _)))
    go_ret
    exact ⟨rfl,Zq0,Zq5⟩
 have h3':(k==3)=false:=beq_eq_false_iff_ne.2 h3
 rw[show yaf ⟨k,⟨gk,ga,gb,gc⟩,q,bit,cond⟩ n bits=false by simp [yaf,h1,h2,h3]]
 clear h1 h2 h3
 go_enter Tryz.func116,Tryz.ntmps116
 go_wp2_with (first|(go_at_call 47;refine(yag _ _ _ _).mono ?_;rintro e w' ⟨rfl,rfl⟩)|(go_at_call 147;refine(yaw _ _ _ _ _ _).mono ?_;rintro e w' ⟨rfl,hb,hs⟩;simp at hs;obtain ⟨p0,p1,p2,p3,p4,p5,p6,p7⟩:=ya0 (lay:=hb) (yac _ _)))
 go_ret
 exact ⟨rfl,Zq0,Zq5⟩
theorem yad (x:Opt):(yan x).length=8:=rfl
theorem yda:(Tryz.prog.info? 104).map (fun i=>(i.zero,i.size,i.bytes))=some (some (.agg #[.int .i64 0,.int .i64 0,.int .i64 0,.int .i64 0,.int .i64 0,.int .i64 0,.int .i64 0,.int .i64 0]),8,64):=by kernel_rfl
theorem ydt (o:Opt):((yan o).all Value.oneCell')=true:=rfl
theorem yd2 {w:World} {cs:Array Value} {e n size b:Nat} (h0:b=w.heap.size) (hs:cs.size=n*size):Rd (w.alloc (.cells cs e)) size (some ⟨b,0,none⟩) n cs.toList:=by
 subst h0
 refine ⟨by simpa using hs,fun _=>⟨_,0,rfl,by simp,fun j u hu=>?_⟩⟩
 have h:=heap_alloc_new w (.cells cs e)
 have hc:cs[j]?=some u:=by rw[←Array.getElem?_toList];exact hu
 rw[Nat.zero_add]
 exact yaj h hc

def gop (cond:Int) (g:Gt):Opt:=⟨1,g,0,0,cond⟩
theorem ymj (A:Option Addr) (n c:Nat) (l:List Gt) (cond:Int) (w:World) (h:Rd w 4 A n (l.flatMap ygb)) (hl:l.length=n) (hn:n≤1073741824) :
  Calls Tryz.prog 170 #[.slice A n c,.int .i64 cond] w (ye2 104 8 w n ((l.map (gop cond)).flatMap yan)):=by
 obtain ⟨i0,hi,hz0,hz1,hz2⟩:=info_parts yda
 have H:=hD h
 have HL:=hD hl
 clear h hl
 go_enter Tryz.func170,Tryz.ntmps170
 go_wp2
 go_loopw [5,6] (fun v i wr=>∃ t:Nat,t≤n∧i=.int .i64 t∧wr.ownsRow w.heap.size 104 8 v t (((l.take t).map (gop cond)).flatMap yan)∧Below w.heap.size w wr) (fun _ i _=>n - (intOf i).toNat)
 case atStart=>exact ⟨0,Nat.zero_le _,rfl,by simpa using yb2 w _ 8,Zq0⟩
 case round =>
  obtain ⟨t,ht,rfl,hown,hb⟩:=hrel
  by_cases hlt:t<n
  ·have htl:t<l.length:=by rw[HL.out];exact hlt
   obtain ⟨g,hg⟩:∃ g,l[t]?=some g:=⟨_,List.getElem?_eq_getElem htl⟩
   obtain ⟨b,off,rfl,hbl,hc⟩:=H.out.2 Zq6
   have q0:wr.cell? ⟨b,off+t*4,none⟩=some (.int .i64 g.k):=(hb.cell (by exact hbl)).trans (hc (t*4+0) _ (yal yd1 l t g 0 hg Zq9))
   have q1:wr.cell? ⟨b,off+t*4+1,none⟩=some (.int .i64 g.a):=(hb.cell (by exact hbl)).trans (hc (t*4+1) _ (yal yd1 l t g 1 hg Zq9))
   have q2:wr.cell? ⟨b,off+t*4+2,none⟩=some (.int .i64 g.b):=(hb.cell (by exact hbl)).trans (hc (t*4+2) _ (yal yd1 l t g 2 hg Zq9))
   have q3:wr.cell? ⟨b,off+t*4+3,none⟩=some (.int .i64 g.c):=(hb.cell (by exact hbl)).trans (hc (t*4+3) _ (yal yd1 l t g 3 hg Zq9))
   have HG:=hD hg
   obtain ⟨L,hL⟩:∃ L,L=((l.take t).map (gop cond)).flatMap yan:=⟨_,rfl⟩
   rw[←hL] at hown
   have HL2:=hD hL
   clear hc hg htl hL
   go_wp2_with (at_builtin;refine yae _ rfl _ _ 38 rfl w.heap.size 104 i0 _ 8 64 Tryz.underlying38 hi hz0 hz1 hz2 rfl Zq9 _ _ _ rfl (hown.alloc _) _ 1 1 _ rfl (yd2 ?c0 rfl) ?c2 ?c3 ?c4 ?c5 ?_)
   case c0=>first|rfl|simp
   case c2=>repeat' (first|rfl|apply And.intro)
   case c3=>simp only[maxLen];omega
   case c4=>omega
   case c5=>have:=hb.size;simp;omega
   intro v3 w3 own3 gr3 _
   have b3:=(hb.alloc hb.size _).grown gr3 (by have:=hb.size;simp;omega) (ybe hown)
   clear hown gr3
   go_wp2
   go_roundw
   case rel =>
    refine ⟨t+1,by omega,by go_num,?_,b3⟩
    rw[List.take_add_one,HG.out,List.map_append,List.flatMap_append,←HL2.out]
    exact own3
   case measure=>simp [intOf];omega
  ·obtain rfl:t=n:=by omega
   go_wp2
   go_ret
   exact ⟨_,rfl,by rw[List.take_of_length_le (by rw[HL.out];exact Nat.le_refl _)] at hown;exact hown,hb,hb.size⟩
theorem ye4 (A:Option Addr) (n c:Nat) (l:List Gt) (cond:Int) (w:World) (h:Rd w 4 A n (l.flatMap ygb)) (hl:l.length=n) (hn:n≤1073741824) :
  Calls Tryz.prog 150 #[.slice A n c,.int .i64 cond] w (ye2 104 8 w n ((l.map (gop cond)).flatMap yan)):=by
 obtain ⟨i0,hi,hz0,hz1,hz2⟩:=info_parts yda
 have H:=hD h
 have HL:=hD hl
 clear h hl
 go_enter Tryz.func150,Tryz.ntmps150
 go_wp2
 go_loopw [5,11] (fun v i wr=>∃ t:Nat,t≤n∧i=.int .i64 t∧wr.ownsRow w.heap.size 104 8 v t (((l.take t).map (gop cond)).flatMap yan)∧Below w.heap.size w wr) (fun _ i _=>n - (intOf i).toNat)
 case atStart=>exact ⟨0,Nat.zero_le _,rfl,by simpa using yb2 w _ 8,Zq0⟩
 case round =>
  obtain ⟨t,ht,rfl,hown,hb⟩:=hrel
  by_cases hlt:t<n
  ·have htl:t<l.length:=by rw[HL.out];exact hlt
   obtain ⟨g,hg⟩:∃ g,l[t]?=some g:=⟨_,List.getElem?_eq_getElem htl⟩
   obtain ⟨b,off,rfl,hbl,hc⟩:=H.out.2 Zq6
   have q0:wr.cell? ⟨b,off+t*4,none⟩=some (.int .i64 g.k):=(hb.cell (by exact hbl)).trans (hc (t*4+0) _ (yal yd1 l t g 0 hg Zq9))
   have q1:wr.cell? ⟨b,off+t*4+1,none⟩=some (.int .i64 g.a):=(hb.cell (by exact hbl)).trans (hc (t*4+1) _ (yal yd1 l t g 1 hg Zq9))
   have q2:wr.cell? ⟨b,off+t*4+2,none⟩=some (.int .i64 g.b):=(hb.cell (by exact hbl)).trans (hc (t*4+2) _ (yal yd1 l t g 2 hg Zq9))
   have q3:wr.cell? ⟨b,off+t*4+3,none⟩=some (.int .i64 g.c):=(hb.cell (by exact hbl)).trans (hc (t*4+3) _ (yal yd1 l t g 3 hg Zq9))
   have HG:=hD hg
   obtain ⟨L,hL⟩:∃ L,L=((l.take t).map (gop cond)).flatMap yan:=⟨_,rfl⟩
   rw[←hL] at hown
   have HL2:=hD hL
   clear hc hg htl hL
   go_wp2_with (at_builtin;refine yae _ rfl _ _ 38 rfl w.heap.size 104 i0 _ 8 64 Tryz.underlying38 hi hz0 hz1 hz2 rfl Zq9 _ _ _ rfl ((hown.alloc _).alloc _) _ 1 1 _ rfl (yd2 ?c0 rfl) ?c2 ?c3 ?c4 ?c5 ?_)
   case c0=>first|rfl|simp
   case c2=>repeat' (first|rfl|apply And.intro)
   case c3=>simp only[maxLen];omega
   case c4=>omega
   case c5=>have:=hb.size;simp;omega
   intro v3 w3 own3 gr3 _
   have b3:=((hb.alloc hb.size _).alloc (by have:=hb.size;simp;omega) _).grown gr3 (by have:=hb.size;simp;omega) (ybe hown)
   clear hown gr3
   go_wp2
   go_roundw
   case rel =>
    refine ⟨t+1,by omega,by go_num,?_,b3⟩
    rw[List.take_add_one,HG.out,List.map_append,List.flatMap_append,←HL2.out]
    exact own3
   case measure=>simp [intOf];omega
  ·obtain rfl:t=n:=by omega
   go_wp2
   go_ret
   exact ⟨_,rfl,by rw[List.take_of_length_le (by rw[HL.out];exact Nat.le_refl _)] at hown;exact hown,hb,hb.size⟩

def invk (k:Int):Int:=if k=5 then 6 else if k=6 then 5 else if k=7 then 8 else if k=8 then 7 else k
theorem yn8 {k:Int} (h5:k≠5) (h6:k≠6) (h7:k≠7) (h8:k≠8):invk k=k:=by simp [invk,h5,h6,h7,h8]
def invG (g:Gt):Gt:=⟨invk g.k,g.a,g.b,g.c⟩
theorem ygg (k a b c:Int) (w:World):Calls Tryz.prog 168 #[.agg #[.int .i64 k,.int .i64 a,.int .i64 b,.int .i64 c]] w fun e w' =>
  e=.returned (.agg #[.int .i64 (invk k),.int .i64 a,.int .i64 b,.int .i64 c])∧(w.alloc (.cells #[.int .i64 (invk k),.int .i64 a,.int .i64 b,.int .i64 c] 102)).alloc (.cells #[.int .i64 (invk k),.int .i64 a,.int .i64 b,.int .i64 c] 102)=w':=by
 by_cases h5:k=5
 ·subst h5
  go_enter Tryz.func168,Tryz.ntmps168
  go_wp2
  exact bodyPost_ret (v:=.agg #[.int .i64 6,.int .i64 a,.int .i64 b,.int .i64 c]) (by simp [results,Tryz.results168,go_sem]) rfl ⟨rfl,rfl⟩
 by_cases h6:k=6
 ·subst h6
  go_enter Tryz.func168,Tryz.ntmps168
  go_wp2
  exact bodyPost_ret (v:=.agg #[.int .i64 5,.int .i64 a,.int .i64 b,.int .i64 c]) (by simp [results,Tryz.results168,go_sem]) rfl ⟨rfl,rfl⟩
 by_cases h7:k=7
 ·subst h7
  go_enter Tryz.func168,Tryz.ntmps168
  go_wp2
  exact bodyPost_ret (v:=.agg #[.int .i64 8,.int .i64 a,.int .i64 b,.int .i64 c]) (by simp [results,Tryz.results168,go_sem]) rfl ⟨rfl,rfl⟩
 by_cases h8:k=8
 ·subst h8
  go_enter Tryz.func168,Tryz.ntmps168
  go_wp2
  exact bodyPost_ret (v:=.agg #[.int .i64 7,.int .i64 a,.int .i64 b,.int .i64 c]) (by simp [results,Tryz.results168,go_sem]) rfl ⟨rfl,rfl⟩
 rw[yn8 h5 h6 h7 h8]
 have e5:(k==5)=false:=beq_eq_false_iff_ne.2 h5
 have e6:(k==6)=false:=beq_eq_false_iff_ne.2 h6
 have e7:(k==7)=false:=beq_eq_false_iff_ne.2 h7
 have e8:(k==8)=false:=beq_eq_false_iff_ne.2 h8
 clear h5 h6 h7 h8
 go_enter Tryz.func168,Tryz.ntmps168
 go_wp2
 exact bodyPost_ret (v:=.agg #[.int .i64 k,.int .i64 a,.int .i64 b,.int .i64 c]) (by simp [results,Tryz.results168,go_sem]) rfl ⟨rfl,rfl⟩
theorem ygh (k a b c:Int) (w:World):Calls Tryz.prog 175 #[.agg #[.int .i64 k,.int .i64 a,.int .i64 b,.int .i64 c]] w fun e w' =>
  e=.returned (.agg #[.int .i64 (invk k),.int .i64 a,.int .i64 b,.int .i64 c])∧(w.alloc (.cells #[.int .i64 (invk k),.int .i64 a,.int .i64 b,.int .i64 c] 102)).alloc (.cells #[.int .i64 (invk k),.int .i64 a,.int .i64 b,.int .i64 c] 102)=w':=by
 by_cases h5:k=5
 ·subst h5
  go_enter Tryz.func175,Tryz.ntmps175
  go_wp2
  exact bodyPost_ret (v:=.agg #[.int .i64 6,.int .i64 a,.int .i64 b,.int .i64 c]) (by simp [results,Tryz.results175,go_sem]) rfl ⟨rfl,rfl⟩
 by_cases h6:k=6
 ·subst h6
  go_enter Tryz.func175,Tryz.ntmps175
  go_wp2
  exact bodyPost_ret (v:=.agg #[.int .i64 5,.int .i64 a,.int .i64 b,.int .i64 c]) (by simp [results,Tryz.results175,go_sem]) rfl ⟨rfl,rfl⟩
 by_cases h7:k=7
 ·subst h7
  go_enter Tryz.func175,Tryz.ntmps175
  go_wp2
  exact bodyPost_ret (v:=.agg #[.int .i64 8,.int .i64 a,.int .i64 b,.int .i64 c]) (by simp [results,Tryz.results175,go_sem]) rfl ⟨rfl,rfl⟩
 by_cases h8:k=8
 ·subst h8
  go_enter Tryz.func175,Tryz.ntmps175
  go_wp2
  exact bodyPost_ret (v:=.agg #[.int .i64 7,.int .i64 a,.int .i64 b,.int .i64 c]) (by simp [results,Tryz.results175,go_sem]) rfl ⟨rfl,rfl⟩
 rw[yn8 h5 h6 h7 h8]
 have e5:(k==5)=false:=beq_eq_false_iff_ne.2 h5
 have e6:(k==6)=false:=beq_eq_false_iff_ne.2 h6
 have e7:(k==7)=false:=beq_eq_false_iff_ne.2 h7
 have e8:(k==8)=false:=beq_eq_false_iff_ne.2 h8
 clear h5 h6 h7 h8
 go_enter Tryz.func175,Tryz.ntmps175
 go_wp2
 exact bodyPost_ret (v:=.agg #[.int .i64 k,.int .i64 a,.int .i64 b,.int .i64 c]) (by simp [results,Tryz.results175,go_sem]) rfl ⟨rfl,rfl⟩
def coL (q:Int) (o:Opt):List Opt:=if o.k=1 then (cgL q o.g).map (gop o.cond) else [o]
def coB (q:Int) (o:Opt):Bool:=if o.k=1 then cgB q o.g else true
theorem yn9 (q:Int) {o:Opt} (h:(o.k==1)=false):coB q o=true:=by
 have h1:¬ o.k=1:=by simpa using h
 simp [coB,h1]
theorem yoa (q:Int) {o:Opt} (h:(o.k==1)=false):coL q o=[o]:=by
 have h1:¬ o.k=1:=by simpa using h
 simp [coL,h1]
theorem yhe {q:Int} {o:Opt} {x:Bool} (h:(o.k==1)=true) (hx:cgB q ⟨o.g.k,o.g.a,o.g.b,o.g.c⟩=x):coB q o=x:=by
 have h1:o.k=1:=by simpa using h
 simp [coB,h1]
 exact hx
theorem ymk (q:Int) {o:Opt} (h:(o.k==1)=true):coL q o=(cgL q ⟨o.g.k,o.g.a,o.g.b,o.g.c⟩).map (gop o.cond):=by
 have h1:o.k=1:=by simpa using h
 simp [coL,h1]
theorem ys5 (q:Int) (o:Opt):(coL q o).length≤7:=by
 unfold coL
 split
 ·simpa using yks q o.g
 ·simp
def cos (q:Int):List Opt→Option (List Opt)
 | []=>some []
 | g :: l=>if coB q g then (cos q l).map (coL q g++·) else none
def osB (q:Int) (l:List Opt):Bool:=(cos q l).isSome
def osL (q:Int) (l:List Opt):List Opt:=(cos q l).getD []
theorem ykv {q:Int}:∀ {l:List Opt} {L:List Opt},cos q l=some L→L.length≤l.length*7:=by
 intro l
 induction l with
 | nil=>intro L h;simp [cos] at h;subst h;simp
 | cons g l ih =>
  intro L h
  simp only[cos] at h
  split at h
  ·rw[Option.map_eq_some_iff] at h
   obtain ⟨M,h1,rfl⟩:=h
   have:=ih h1
   have:=ys5 q g
   simp only[List.length_append,List.length_cons]
   omega
  ·cases h
theorem yr6 {q:Int} {g:Opt} (hk:coB q g=true):∀ {l:List Opt} {L:List Opt},cos q l=some L→cos q (l++[g])=some (L++coL q g):=by
 intro l
 induction l with
 | nil=>intro L h;simp [cos] at h;subst h;simp [cos,hk]
 | cons x l ih =>
  intro L h
  simp only[cos] at h
  split at h
  ·rename_i hx
   rw[Option.map_eq_some_iff] at h
   obtain ⟨M,h1,rfl⟩:=h
   simp only[List.cons_append,cos,hx,if_true,ih h1,Option.map_some,List.append_assoc]
  ·cases h
theorem yhf {q:Int} {l L:List Opt} {t:Nat} {g:Opt} (h:cos q (l.take t)=some L) (hg:l[t]?=some g) (hk:coB q g=true):cos q (l.take (t+1))=some (L++coL q g):=by
 rw[List.take_add_one,hg]
 exact yr6 hk h
theorem yob {q:Int} {t:Nat} {g:Opt}:∀ {l:List Opt},l[t]?=some g→coB q g=false→osB q l=false∧osL q l=[]:=by
 have key:∀ {l:List Opt} {t:Nat},l[t]?=some g→coB q g=false→cos q l=none:=by
  intro l
  induction l with
  | nil=>intro t h;simp at h
  | cons x l ih =>
   intro t h hk
   cases t with
   | zero=>simp at h;subst h;simp [cos,hk]
   | succ t =>
    simp only[cos]
    split
    ·rw[ih (by simpa using h) hk];rfl
    ·rfl
 intro l h hk
 exact ⟨by rw[osB,key h hk];rfl,by rw[osL,key h hk];rfl⟩
theorem yqc (q:Int) (l:List Opt):(osL q l).length≤l.length*7:=by
 unfold osL
 cases h:cos q l with
 | none=>simp
 | some L=>exact ykv h
theorem yh6 (q:Int) (A:Option Addr) (n c:Nat) (l:List Opt) (w:World) (h:Rd w 8 A n (l.flatMap yan)) (hl:l.length=n) (hn:n≤1073741824) :
  Calls Tryz.prog 142 #[.int .i64 q,.slice A n c] w (yey 104 8 w (osB q l) (osL q l).length ((osL q l).flatMap yan)):=by
 obtain ⟨i0,hi,hz0,hz1,hz2⟩:=info_parts yda
 have H:=hD h
 have HL:=hD hl
 clear h hl
 go_enter Tryz.func142,Tryz.ntmps142
 go_wp2
 go_loopw [6,7] (fun v i wr=>∃ (t:Nat) (L:List Opt),t≤n∧i=.int .i64 t∧cos q (l.take t)=some L∧wr.ownsRow w.heap.size 104 8 v L.length (L.flatMap yan)∧Below w.heap.size w wr) (fun _ i _=>n - (intOf i).toNat)
 case atStart=>exact ⟨0,[],Nat.zero_le _,rfl,rfl,by simpa using yb2 w _ 8,Zq0⟩
 case round =>
  obtain ⟨t,L,ht,rfl,hcg,hown,hb⟩:=hrel
  have hd1:=ykv hcg
  have hd3:=List.length_take_le t l
  have hd:L.length≤t*7:=Nat.le_trans hd1 (Nat.mul_le_mul_right _ hd3)
  have HC:=hD hcg
  clear hcg hd1 hd3
  by_cases hlt:t<n
  ·have htl:t<l.length:=by rw[HL.out];exact hlt
   obtain ⟨o,ho⟩:∃ o,l[t]?=some o:=⟨_,List.getElem?_eq_getElem htl⟩
   obtain ⟨b,off,rfl,hbl,hc⟩:=H.out.2 Zq6
   have q0:wr.cell? ⟨b,off+t*8,none⟩=some (.int .i64 o.k):=(hb.cell (by exact hbl)).trans (hc (t*8+0) _ (yal yad l t o 0 ho Zq9))
   have q1:wr.cell? ⟨b,off+t*8+1,none⟩=some (.int .i64 o.g.k):=(hb.cell (by exact hbl)).trans (hc (t*8+1) _ (yal yad l t o 1 ho Zq9))
   have q2:wr.cell? ⟨b,off+t*8+2,none⟩=some (.int .i64 o.g.a):=(hb.cell (by exact hbl)).trans (hc (t*8+2) _ (yal yad l t o 2 ho Zq9))
   have q3:wr.cell? ⟨b,off+t*8+3,none⟩=some (.int .i64 o.g.b):=(hb.cell (by exact hbl)).trans (hc (t*8+3) _ (yal yad l t o 3 ho Zq9))
   have q4:wr.cell? ⟨b,off+t*8+4,none⟩=some (.int .i64 o.g.c):=(hb.cell (by exact hbl)).trans (hc (t*8+4) _ (yal yad l t o 4 ho Zq9))
   have q5:wr.cell? ⟨b,off+t*8+5,none⟩=some (.int .i64 o.q):=(hb.cell (by exact hbl)).trans (hc (t*8+5) _ (yal yad l t o 5 ho Zq9))
   have q6:wr.cell? ⟨b,off+t*8+6,none⟩=some (.int .i64 o.bit):=(hb.cell (by exact hbl)).trans (hc (t*8+6) _ (yal yad l t o 6 ho Zq9))
   have q7:wr.cell? ⟨b,off+t*8+7,none⟩=some (.int .i64 o.cond):=(hb.cell (by exact hbl)).trans (hc (t*8+7) _ (yal yad l t o 7 ho Zq9))
   have HG:=hD ho
   have HC0:=hD hc
   clear hc ho htl
   cases hk:(o.k==1)
   ·have hk':(o.k != 1)=true:=by simp only[bne,hk];rfl
    have HS:=hD (yhf HC.out HG.out (yn9 q hk))
    have HO:=hD (yoa q hk)
    clear hk
    go_wp2_with (at_builtin;refine yae _ rfl _ _ 38 rfl w.heap.size 104 i0 _ 8 64 Tryz.underlying38 hi hz0 hz1 hz2 rfl Zq9 _ _ _ rfl (hown.alloc _) _ 1 1 _ rfl (yd2 ?c0 rfl) ?c2 ?c3 ?c4 ?c5 ?_)
    case c0=>first|rfl|simp
    case c2=>repeat' (first|rfl|apply And.intro)
    case c3=>simp only[maxLen];omega
    case c4=>omega
    case c5=>have:=hb.size;simp;omega
    intro v3 w3 own3 gr3 _
    have b3:=(hb.alloc hb.size _).grown gr3 (by have:=hb.size;simp;omega) (ybe hown)
    clear hown gr3
    go_wp2_with fail
    go_roundw
    case rel =>
     refine ⟨t+1,_,by omega,by go_num,HS.out,?_,b3⟩
     rw[HO.out,List.flatMap_append,List.length_append]
     exact own3
    case measure=>simp [intOf];omega
   have hk':(o.k != 1)=false:=by simp only[bne,hk];rfl
   have HK:=hD hk
   clear hk
   go_wp2_with fail
   refine(yhd _ _ _ _ _ _).mono ?_
   rintro e w2 ⟨v2,rfl,own2,hb2,hs2⟩
   (try simp at hs2)
   obtain ⟨A2,c2,rfl,_,_,r2⟩:=yah own2
   have hown2:=yat (hown) hb2
   have hb2':Below w.heap.size w w2:=hb.trans (hb2.mono hb.size)
   have hd2:=yks q ⟨o.g.k,o.g.a,o.g.b,o.g.c⟩
   clear q0 q1 q2 q3 q4 q5 q6 q7
   have z7:w2.cell? ⟨b,off+t*8+7,none⟩=some (.int .i64 o.cond):=(hb2'.cell (by exact hbl)).trans (HC0.out (t*8+7) _ (yal yad l t o 7 HG.out Zq9))
   clear hown own2 hb2
   cases hk:cgB q ⟨o.g.k,o.g.a,o.g.b,o.g.c⟩
   ·have HF:=hD (yob (l:=l) HG.out (yhe HK.out hk))
    go_wp2_with fail
    go_ret2
    rw[show osB q l=false from HF.out.1,show osL q l=[] from HF.out.2]
    exact ydu hb2'.size hb2' rfl (by simp [maxLen]) rfl rfl
   ·have HS:=hD (yhf HC.out HG.out (yhe HK.out hk))
    have HO:=hD (ymk q HK.out)
    go_wp2_with fail
    refine(ymj _ _ _ (cgL q ⟨o.g.k,o.g.a,o.g.b,o.g.c⟩) _ _ r2 rfl Zq6).mono ?_
    rintro e w3 ⟨v3,rfl,own3,hb3,hs3⟩
    obtain ⟨A3,c3,rfl,_,_,r3⟩:=yah own3
    have hown3:=yat hown2 hb3
    have hb3':Below w.heap.size w w3:=hb2'.trans (hb3.mono hb2'.size)
    clear own3 hown2 r2
    go_wp2_with (at_builtin;refine yae _ rfl _ _ 38 rfl w.heap.size 104 i0 _ 8 64 Tryz.underlying38 hi hz0 hz1 hz2 rfl Zq9 _ _ _ rfl hown3 _ _ _ _ rfl r3 (yed ydt _) ?c3 ?c4 ?c5 ?_)
    case c3=>simp only[maxLen];omega
    case c4=>omega
    case c5=>exact hb3'.size
    intro v4 w4 own4 gr4 _
    have b4:=hb3'.grown gr4 hb3'.size (ybe hown3)
    clear hown3 gr4 r3
    go_wp2_with fail
    go_roundw
    case rel =>
     refine ⟨t+1,_,by omega,by go_num,HS.out,?_,b4⟩
     rw[HO.out,List.flatMap_append,List.length_append,List.length_map]
     exact own4
    case measure=>simp [intOf];omega
  ·obtain rfl:t=n:=by omega
   have HF:Hid (osB q l=true∧osL q l=L):=by
    have h:=HC.out
    rw[List.take_of_length_le (by rw[HL.out];exact Nat.le_refl _)] at h
    exact ⟨by rw[osB,h];rfl,by rw[osL,h];rfl⟩
   go_wp2
   go_ret2
   rw[HF.out.1,HF.out.2]
   exact ⟨_,rfl,hown,hb,hb.size⟩
theorem yh7 (q:Int) (A:Option Addr) (n c:Nat) (l:List Opt) (w:World) (h:Rd w 8 A n (l.flatMap yan)) (hl:l.length=n) (hn:n≤1073741824) :
  Calls Tryz.prog 153 #[.int .i64 q,.slice A n c] w (yey 104 8 w (osB q l) (osL q l).length ((osL q l).flatMap yan)):=by
 obtain ⟨i0,hi,hz0,hz1,hz2⟩:=info_parts yda
 have H:=hD h
 have HL:=hD hl
 clear h hl
 go_enter Tryz.func153,Tryz.ntmps153
 go_wp2
 go_loopw [6,14] (fun v i wr=>∃ (t:Nat) (L:List Opt),t≤n∧i=.int .i64 t∧cos q (l.take t)=some L∧wr.ownsRow w.heap.size 104 8 v L.length (L.flatMap yan)∧Below w.heap.size w wr) (fun _ i _=>n - (intOf i).toNat)
 case atStart=>exact ⟨0,[],Nat.zero_le _,rfl,rfl,by simpa using yb2 w _ 8,Zq0⟩
 case round =>
  obtain ⟨t,L,ht,rfl,hcg,hown,hb⟩:=hrel
  have hd1:=ykv hcg
  have hd3:=List.length_take_le t l
  have hd:L.length≤t*7:=Nat.le_trans hd1 (Nat.mul_le_mul_right _ hd3)
  have HC:=hD hcg
  clear hcg hd1 hd3
  by_cases hlt:t<n
  ·have htl:t<l.length:=by rw[HL.out];exact hlt
   obtain ⟨o,ho⟩:∃ o,l[t]?=some o:=⟨_,List.getElem?_eq_getElem htl⟩
   obtain ⟨b,off,rfl,hbl,hc⟩:=H.out.2 Zq6
   have q0:wr.cell? ⟨b,off+t*8,none⟩=some (.int .i64 o.k):=(hb.cell (by exact hbl)).trans (hc (t*8+0) _ (yal yad l t o 0 ho Zq9))
   have q1:wr.cell? ⟨b,off+t*8+1,none⟩=some (.int .i64 o.g.k):=(hb.cell (by exact hbl)).trans (hc (t*8+1) _ (yal yad l t o 1 ho Zq9))
   have q2:wr.cell? ⟨b,off+t*8+2,none⟩=some (.int .i64 o.g.a):=(hb.cell (by exact hbl)).trans (hc (t*8+2) _ (yal yad l t o 2 ho Zq9))
   have q3:wr.cell? ⟨b,off+t*8+3,none⟩=some (.int .i64 o.g.b):=(hb.cell (by exact hbl)).trans (hc (t*8+3) _ (yal yad l t o 3 ho Zq9))
   have q4:wr.cell? ⟨b,off+t*8+4,none⟩=some (.int .i64 o.g.c):=(hb.cell (by exact hbl)).trans (hc (t*8+4) _ (yal yad l t o 4 ho Zq9))
   have q5:wr.cell? ⟨b,off+t*8+5,none⟩=some (.int .i64 o.q):=(hb.cell (by exact hbl)).trans (hc (t*8+5) _ (yal yad l t o 5 ho Zq9))
   have q6:wr.cell? ⟨b,off+t*8+6,none⟩=some (.int .i64 o.bit):=(hb.cell (by exact hbl)).trans (hc (t*8+6) _ (yal yad l t o 6 ho Zq9))
   have q7:wr.cell? ⟨b,off+t*8+7,none⟩=some (.int .i64 o.cond):=(hb.cell (by exact hbl)).trans (hc (t*8+7) _ (yal yad l t o 7 ho Zq9))
   have HG:=hD ho
   have HC0:=hD hc
   clear hc ho htl
   cases hk:(o.k==1)
   ·have hk':(o.k != 1)=true:=by simp only[bne,hk];rfl
    have HS:=hD (yhf HC.out HG.out (yn9 q hk))
    have HO:=hD (yoa q hk)
    clear hk
    go_wp2_with (at_builtin;refine yae _ rfl _ _ 38 rfl w.heap.size 104 i0 _ 8 64 Tryz.underlying38 hi hz0 hz1 hz2 rfl Zq9 _ _ _ rfl ((hown.alloc _).alloc _) _ 1 1 _ rfl (yd2 ?c0 rfl) ?c2 ?c3 ?c4 ?c5 ?_)
    case c0=>first|rfl|simp
    case c2=>repeat' (first|rfl|apply And.intro)
    case c3=>simp only[maxLen];omega
    case c4=>omega
    case c5=>have:=hb.size;simp;omega
    intro v3 w3 own3 gr3 _
    have b3:=((hb.alloc hb.size _).alloc (by have:=hb.size;simp;omega) _).grown gr3 (by have:=hb.size;simp;omega) (ybe hown)
    clear hown gr3
    go_wp2_with fail
    go_roundw
    case rel =>
     refine ⟨t+1,_,by omega,by go_num,HS.out,?_,b3⟩
     rw[HO.out,List.flatMap_append,List.length_append]
     exact own3
    case measure=>simp [intOf];omega
   have hk':(o.k != 1)=false:=by simp only[bne,hk];rfl
   have HK:=hD hk
   clear hk
   go_wp2_with fail
   refine(yhc _ _ _ _ _ _).mono ?_
   rintro e w2 ⟨v2,rfl,own2,hb2,hs2⟩
   (try simp at hs2)
   obtain ⟨A2,c2,rfl,_,_,r2⟩:=yah own2
   have hown2:=yat (hown.alloc _) hb2
   have hb2':Below w.heap.size w w2:=(hb.alloc hb.size _).trans (hb2.mono (by have:=hb.size;simp;omega))
   have hd2:=yks q ⟨o.g.k,o.g.a,o.g.b,o.g.c⟩
   clear q0 q1 q2 q3 q4 q5 q6 q7
   obtain ⟨z0,z1,z2,z3,z4,z5,z6,z7⟩:=ya0 (lay:=hb2) (yac _ _)
   clear hown own2 hb2
   cases hk:cgB q ⟨o.g.k,o.g.a,o.g.b,o.g.c⟩
   ·have HF:=hD (yob (l:=l) HG.out (yhe HK.out hk))
    go_wp2_with fail
    go_ret2
    rw[show osB q l=false from HF.out.1,show osL q l=[] from HF.out.2]
    exact yd6 hb2'.size hb2'
   ·have HS:=hD (yhf HC.out HG.out (yhe HK.out hk))
    have HO:=hD (ymk q HK.out)
    go_wp2_with fail
    refine(ye4 _ _ _ (cgL q ⟨o.g.k,o.g.a,o.g.b,o.g.c⟩) _ _ r2 rfl Zq6).mono ?_
    rintro e w3 ⟨v3,rfl,own3,hb3,hs3⟩
    obtain ⟨A3,c3,rfl,_,_,r3⟩:=yah own3
    have hown3:=yat hown2 hb3
    have hb3':Below w.heap.size w w3:=hb2'.trans (hb3.mono hb2'.size)
    clear own3 hown2 r2
    go_wp2_with (at_builtin;refine yae _ rfl _ _ 38 rfl w.heap.size 104 i0 _ 8 64 Tryz.underlying38 hi hz0 hz1 hz2 rfl Zq9 _ _ _ rfl hown3 _ _ _ _ rfl r3 (yed ydt _) ?c3 ?c4 ?c5 ?_)
    case c3=>simp only[maxLen];omega
    case c4=>omega
    case c5=>exact hb3'.size
    intro v4 w4 own4 gr4 _
    have b4:=hb3'.grown gr4 hb3'.size (ybe hown3)
    clear hown3 gr4 r3
    go_wp2_with fail
    go_roundw
    case rel =>
     refine ⟨t+1,_,by omega,by go_num,HS.out,?_,b4⟩
     rw[HO.out,List.flatMap_append,List.length_append,List.length_map]
     exact own4
    case measure=>simp [intOf];omega
  ·obtain rfl:t=n:=by omega
   have HF:Hid (osB q l=true∧osL q l=L):=by
    have h:=HC.out
    rw[List.take_of_length_le (by rw[HL.out];exact Nat.le_refl _)] at h
    exact ⟨by rw[osB,h];rfl,by rw[osL,h];rfl⟩
   go_wp2
   go_ret2
   rw[HF.out.1,HF.out.2]
   exact ⟨_,rfl,hown,hb,hb.size⟩
end Go.Proofs.YthkbckkghnbonaaGreatDoor
