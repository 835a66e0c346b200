/- What the calls that this law reaches answer, part 15 of 20. -/
import Derived.Test.YthkbckkghnbonaaGreatDoorJFElaborate14
import Derived.Test.YthkbckkghnbonaaGreatDoorJFElaborate7
set_option maxRecDepth 100000
set_option maxHeartbeats 16000000
set_option linter.unusedVariables false
namespace Go.Proofs.YthkbckkghnbonaaGreatDoor
open Go.RowKit
set_option linter.unusedVariables false
section
variable {w w0 W W':World} {E B:Nat} {vb:Value} {e:Es}
theorem EnvI.drew (h:EnvI W E B vb e):EnvI W.drew E B vb e:=h
theorem ylx {o:Obj}:W.heap.size<(W.alloc o).heap.size:=by simp
end
theorem yry (l:List ByteArray):∀ u∈strs l,u.oneCell'=true:=by
 intro u hu
 obtain ⟨s,_,rfl⟩:=List.mem_map.1 hu
 rfl
theorem yt8 (q:Int):∀ u∈yan (ybc q),u.oneCell'=true:=by
 intro u hu
 simp only[yan,ybc,List.mem_cons,List.not_mem_nil,or_false] at hu
 rcases hu with rfl|rfl|rfl|rfl|rfl|rfl|rfl|rfl <;> rfl
theorem ysu {α:Type} {S r:List α} {j:Nat} {y:α} (hl:S.length=r.length) (hy:S[j]?=some y):(S.take j++r.drop j).set j y=S.take (j+1)++r.drop (j+1):=by
 have hj:=(List.getElem?_eq_some_iff.1 hy).1
 have h1:(S.take j).length=j:=by rw[List.length_take];omega
 rw[List.set_append_right _ _ Zq6,h1,Nat.sub_self,List.drop_eq_getElem_cons (by omega:j<r.length),List.set_cons_zero,List.take_add_one,hy]
 simp
theorem yrz {α:Type} {S r:List α} {j:Nat} {y:α} (hl:S.length=r.length) (hy:S[j]?=some y) (hr:r[j]?=some y):S.take j++r.drop j=S.take (j+1)++r.drop (j+1):=by
 have hj:=(List.getElem?_eq_some_iff.1 hy).1
 rw[List.take_add_one,hy,List.drop_eq_getElem_cons (by omega:j<r.length),(List.getElem?_eq_some_iff.1 hr).2]
 simp
theorem yna {α:Type} {S r:List α} {j:Nat} {x y:α} (hl:S.length=r.length) (hy:S[j]?=some x) (hr:r[j]?=some y):(S.take j++r.drop j)[j]?=some y:=by
 have hj:=(List.getElem?_eq_some_iff.1 hy).1
 have h1:(S.take j).length=j:=by rw[List.length_take];omega
 rw[List.getElem?_append_right Zq6,h1,Nat.sub_self,List.getElem?_drop,Nat.add_zero,hr]
theorem yly {c:Int}:∀ {L:List Opt} {i:Nat} {o:Opt},L[i]?=some o→(L.flatMap yan).set (i*8+7) (.int .i64 c)=(L.set i ⟨o.k,o.g,o.q,o.bit,c⟩).flatMap yan
 | [],i,o,h=>by simp at h
 | x :: L,0,o,h=>by
  have e:x=o:=by simpa using h
  subst e
  simp [yan]
 | x :: L,i+1,o,h=>by
  have ih:=yly (c:=c) (L:=L) (i:=i) (o:=o) (by simpa using h)
  rw[List.flatMap_cons,List.set_cons_succ,List.flatMap_cons,←ih,List.set_append_right _ _ (by rw[yad];omega),yad]
  congr 2
  omega
theorem yt9 (l:List ByteArray) (s:ByteArray):-1≤ixI l s∧ixI l s≤l.length:=by
 unfold ixI
 cases hx:idx l s with
 | none=>exact ⟨Int.le_refl _,by show(-1:Int)≤_;omega⟩
 | some t =>
  unfold idx at hx
  rw[List.findIdx?_eq_some_iff_getElem] at hx
  obtain ⟨hl,_⟩:=hx
  exact ⟨by show(-1:Int)≤(t:Int);omega,by show(t:Int)≤_;omega⟩
theorem yr0 {d:Nat} (hall0:ymc d):OneI d:=by
 obtain ⟨i0,hi,hz0,hz1,hz2⟩:=info_parts yda
 obtain ⟨j0,hj,hy0,hy1,hy2⟩:=info_parts ydh
 intro P h bd Aa ca Ab nb cb E B M vb An nn cn names e w ha hb hna hnn hv hP hPv hE hG hM hne hnm hsz
 subst hnn
 have hElt:=hE.lt
 have hvB:∀ k,vb.ownBlock=some k→B≤k∧k<w.heap.size:=fun k hk=>⟨ybe hE.2 k hk,(hE.2.lt k hk).2⟩
 obtain ⟨X,hX⟩:∃ X,X=w.heap.size:=⟨_,rfl⟩
 obtain ⟨w0,hw0⟩:∃ w0,w0=w.alloc (.cells #[.int .i64 h.k,.string h.word,.slice Aa h.args.length ca,.int .i64 h.count,.slice Ab nb cb] 66):=⟨_,rfl⟩
 have B0:=hD (show Below w.heap.size w w0 by rw[hw0];exact Zq0)
 have hs0:=B0.out.size
 have MW:=hD (Mod.of_below E vb.ownBlock B0.out)
 have EN0:=hD (hE.below B0.out)
 have RA0:=hD (ha.keep (fun b _ hl=>B0.out.block b hl) hs0)
 have NA0:=hD (hna.keep (fun b _ hl=>B0.out.block b hl) hs0)
 have TB0:=hD (TrQ.keep (fun b _ hl=>B0.out.block b hl) hs0 hb)
 have HG0:=hD (hG.below (B0.out.mono hG.1))
 have X0:=hD (show w0.heap[X]?=some (.cells #[.int .i64 h.k,.string h.word,.slice Aa h.args.length ca,.int .i64 h.count,.slice Ab nb cb] 66 (0,0)) by rw[hw0,hX];exact yac _ _)
 have HXS:=hD (show w0.heap.size=X+1 by rw[hw0,hX];simp)
 have hX0:=lt_of_block X0.out
 have hXE:X≠E:=by omega
 have hvX:vb.ownBlock≠some X:=fun q=>by have:=hvB X q;omega
 have hvE:vb.ownBlock≠some E:=fun q=>by have:=hvB E q;omega
 have hE0:E<w0.heap.size:=by omega
 have hME:M≤E:=hM.1
 have hEB:E<B:=hM.2.1
 have hBw:B≤w0.heap.size:=Nat.le_trans hM.2.2 hs0
 obtain ⟨k0,k1,k2,k3,k4⟩:=yb9 (lay:=Below.refl _ _) X0.out
 have HX:=hD hX
 have HW0:=hD hw0
 have HV:=hD hv
 have HNM:=hD hnm
 have HSZ:=hD hsz
 have HPV:=hD hPv
 have HVB:=hD hvB
 have hk:=(ybp hv).1
 clear hX hw0 ha hb hna hv hE hG hM hPv hvB
 have hall:∀ W,Mod E vb.ownBlock w0 W→EnvI W E B vb e→1+ybf d bd≤4∧names.length+(1+ybf d bd)≤1000→Calls Tryz.prog 67 #[.pointer (some ⟨E,0,none⟩),.slice Ab nb cb,.slice An names.length cn] W (ymb W E B vb (iA d bd names e)):=fun W hm he hn=>hall0 P bd Ab nb cb E B M vb An _ cn names e W (yk8 TB0.out hm hP HPV.out) (yg8 NA0.out hm hP HPV.out) rfl (ybp HV.out).2.2.2.2.2.2.2 hP HPV.out he (HG0.out.mod hm hME (fun k hk=>by have:=HVB.out k hk;omega)) ⟨hME,hEB,Nat.le_trans hBw hm.size⟩ Zq6 Zq6 Zq6
 have hk7:h.k=1∨h.k=2∨h.k=3∨h.k=4∨h.k=5∨h.k=6∨h.k=7:=by omega
 have hnb:hasB h.k=true→1+ybf d bd≤4∧names.length+(1+ybf d bd)≤1000:=fun hb=>by have:=HNM.out;rw[if_pos hb] at this hne;exact ⟨hne,this⟩
 clear hk hnm hsz hne
 go_enter Tryz.func120,Tryz.ntmps120
 rcases hk7 with hk|hk|hk|hk|hk|hk|hk
 ·have hal3:1≤h.args.length∧h.args.length≤3:=by
   obtain ⟨_,h1,h2,_⟩:=ybp HV.out
   have h3:yar h.k h.word=ar (yao h.word):=by unfold yar;rw[if_pos hk]
   rw[h3] at h1 h2
   have h4:=h2.resolve_left (fun h=>h hk)
   have h5:=yju (yao h.word)
   omega
  have HAL:=hD hal3
  have hal:0<h.args.length:=by omega
  clear hal3
  obtain ⟨b,off,rfl,hbP,hb0,hbc⟩:=RA0.out.2 hal
  have hbE:b≠E:=fun e=>hP (e▸hbP)
  have hvb:vb.ownBlock≠some b:=fun e=>HPV.out b e hbP
  obtain ⟨a0,hA0⟩:∃ a0,a0=arg0 h:=⟨_,rfl⟩
  have HA0:=hD hA0
  have c0:w0.cell? ⟨b,off,none⟩=some (.string a0):=hbc 0 _ (by unfold strs;rw[List.getElem?_map,yc3 hal,hA0];rfl)
  clear hA0
  have HC:=hD hbc
  obtain ⟨x0,hx0⟩:∃ x,x=ixI names a0:=⟨_,rfl⟩
  have HX0:=hD hx0
  have HF:Hid (iS (iA d) h bd names e=([gop 0 (gat (ixI names) h)],e)):=by show _=_;rw[iS_1 hk]
  clear hx0 hbc
  have e1:(h.k==1)=true:=by rw[hk];decide
  clear hk hall hnb
  go_upto_region 3 with (fail)
  rw[←HW0.out,←HX.out]
  obtain ⟨J0,hJ0⟩:∃ J:Array Value→Array Bool→Act→World→Prop,J=(fun A0 Lz a W=>∃ (g0:Nat),∃ x18 x19 x20 x21 x22 x23 x24 x25 x26 x27 x7:Value,a=⟨(((((((((((A0.setIfInBounds 18 x18).setIfInBounds 19 x19).setIfInBounds 20 x20).setIfInBounds 21 x21).setIfInBounds 22 x22).setIfInBounds 23 x23).setIfInBounds 24 x24).setIfInBounds 25 x25).setIfInBounds 26 x26).setIfInBounds 27 x27).setIfInBounds 7 x7),[]⟩∧(Ls Lz 0→x18=.pointer (some ⟨X,1,none⟩))∧(Ls Lz 1→x19=.string h.word)∧(Ls Lz 2→x20=.int .i64 (yao h.word))∧(Ls Lz 3→x21=.slice An names.length cn)∧(Ls Lz 4→x22=.pointer (some ⟨X,2,none⟩))∧(Ls Lz 5→x23=.slice (some ⟨b,off,none⟩) h.args.length ca)∧(Ls Lz 6→x24=.pointer (some ⟨b,off,none⟩))∧(Ls Lz 7→x25=.string a0)∧(Ls Lz 8→x26=.int .i64 x0)∧(Ls Lz 9→x27=.agg #[.int .i64 (yao h.word),.int .i64 x0,.int .i64 0,.int .i64 0])∧(Ls Lz 10→x7=.pointer (some ⟨g0,0,none⟩))∧(Ls Lz 11→(x7=.pointer (some ⟨g0,0,none⟩)∧W.heap[g0]?=some (.cells #[.int .i64 (yao h.word),.int .i64 x0,.int .i64 0,.int .i64 0] 102 (0,0))∧w0.heap.size≤g0∧Below w0.heap.size w0 W))∧(Ls Lz 10→¬ Ls Lz 11→(W.heap[g0]?=some (.cells #[.int .i64 0,.int .i64 0,.int .i64 0,.int .i64 0] 102 (0,0))∧w0.heap.size≤g0))∧(¬ Ls Lz 11→Below w0.heap.size w0 W)∧(Ls Lz 11→¬ Ls Lz 11→True)):=⟨_,rfl⟩
  have HJ0:=hD hJ0
  clear hJ0
  refine ya3 Zq8 J0 ?_ ?_ ?_
  ·intro A0
   rw[HJ0.out]
   exact ⟨0,A0.getD 18 undef,A0.getD 19 undef,A0.getD 20 undef,A0.getD 21 undef,A0.getD 22 undef,A0.getD 23 undef,A0.getD 24 undef,A0.getD 25 undef,A0.getD 26 undef,A0.getD 27 undef,A0.getD 7 undef,by simp only[ybm],zn,zn,zn,zn,zn,zn,zn,zn,zn,zn,zn,zn,zn,fun _=>ycb (Below.refl _ _),zn⟩
  ·intro Lz a W hsize hcl hJ i hi
   have hil:=ybn hi
   have hnl:=ybi hi
   have hnow:=ybh hi hsize
   have HCL:=hD hcl
   rw[HJ0.out] at hJ
   obtain ⟨g0,x18,x19,x20,x21,x22,x23,x24,x25,x26,x27,x7,rfl,HF⟩:=hJ
   have HH:=hD HF
   have hi2:i=0∨i=1∨i=2∨i=3∨i=4∨i=5∨i=6∨i=7∨i=8∨i=9∨i=10∨i=11:=by simp at hil;omega
   clear hil hcl HF
   rcases hi2 with rfl|rfl|rfl|rfl|rfl|rfl|rfl|rfl|rfl|rfl|rfl|rfl
   ·clear hi HCL
    simp only[zA,zB,zC]
    refine yaa rfl rfl fun K hK=>?_
    go_wp2_with fail
    rw[HJ0.out]
    exact ⟨g0,.pointer (some ⟨X,1,none⟩),x19,x20,x21,x22,x23,x24,x25,x26,x27,x7,(by simp only[zA,zB,zC]),zT HH⟩
   ·have hns:¬ Ls Lz 11:=fun h=>hnl (dq HCL (dq HCL (dq HCL h 9) 2) 1)
    have D0:=(pj0 HH.out) (rq hi 0)
    have V0:=(pj13 HH.out) hns
    clear hi HCL
    simp only[zA,zB,zC,D0]
    have q0:=(V0.cell (p:=⟨X,1,none⟩) hX0).trans k1
    refine yaa rfl rfl fun K hK=>?_
    go_wp2_with fail
    rw[HJ0.out]
    exact ⟨g0,x18,.string h.word,x20,x21,x22,x23,x24,x25,x26,x27,x7,(by simp only[zA,zB,zC,D0]),zT HH⟩
   ·have hns:¬ Ls Lz 11:=fun h=>hnl (dq HCL (dq HCL h 9) 2)
    have D1:=(pj1 HH.out) (rq hi 1)
    have V0:=(pj13 HH.out) hns
    clear hi HCL
    simp only[zA,zB,zC,D1]
    refine yaa rfl rfl fun K hK=>?_
    go_wp2_with fail
    refine(ya8 h.word W (HG0.out.below (V0.mono HG0.out.1)).gn).mono ?_
    rintro e1 y ⟨rfl,rfl⟩
    go_wp2_with fail
    rw[HJ0.out]
    exact ⟨g0,x18,x19,.int .i64 (yao h.word),x21,x22,x23,x24,x25,x26,x27,x7,(by simp only[zA,zB,zC,D1]),zT HH⟩
   ·clear hi HCL
    simp only[zA,zB,zC]
    refine yaa rfl rfl fun K hK=>?_
    go_wp2_with fail
    rw[HJ0.out]
    exact ⟨g0,x18,x19,x20,.slice An names.length cn,x22,x23,x24,x25,x26,x27,x7,(by simp only[zA,zB,zC]),zT HH⟩
   ·clear hi HCL
    simp only[zA,zB,zC]
    refine yaa rfl rfl fun K hK=>?_
    go_wp2_with fail
    rw[HJ0.out]
    exact ⟨g0,x18,x19,x20,x21,.pointer (some ⟨X,2,none⟩),x23,x24,x25,x26,x27,x7,(by simp only[zA,zB,zC]),zT HH⟩
   ·have hns:¬ Ls Lz 11:=fun h=>hnl (dq HCL (dq HCL (dq HCL (dq HCL (dq HCL h 9) 8) 7) 6) 5)
    have D4:=(pj4 HH.out) (rq hi 4)
    have V0:=(pj13 HH.out) hns
    clear hi HCL
    simp only[zA,zB,zC,D4]
    have q0:=(V0.cell (p:=⟨X,2,none⟩) hX0).trans k2
    refine yaa rfl rfl fun K hK=>?_
    go_wp2_with fail
    rw[HJ0.out]
    exact ⟨g0,x18,x19,x20,x21,x22,.slice (some ⟨b,off,none⟩) h.args.length ca,x24,x25,x26,x27,x7,(by simp only[zA,zB,zC,D4]),zT HH⟩
   ·have D5:=(pj5 HH.out) (rq hi 5)
    clear hi HCL
    simp only[zA,zB,zC,D5]
    refine yaa rfl rfl fun K hK=>?_
    go_wp2_with fail
    rw[HJ0.out]
    exact ⟨g0,x18,x19,x20,x21,x22,x23,.pointer (some ⟨b,off,none⟩),x25,x26,x27,x7,(by simp only[zA,zB,zC,D5]),zT HH⟩
   ·have hns:¬ Ls Lz 11:=fun h=>hnl (dq HCL (dq HCL (dq HCL h 9) 8) 7)
    have D6:=(pj6 HH.out) (rq hi 6)
    have V0:=(pj13 HH.out) hns
    clear hi HCL
    simp only[zA,zB,zC,D6]
    have q0:=(V0.cell (p:=⟨b,off,none⟩) hb0).trans c0
    refine yaa rfl rfl fun K hK=>?_
    go_wp2_with fail
    rw[HJ0.out]
    exact ⟨g0,x18,x19,x20,x21,x22,x23,x24,.string a0,x26,x27,x7,(by simp only[zA,zB,zC,D6]),zT HH⟩
   ·have hns:¬ Ls Lz 11:=fun h=>hnl (dq HCL (dq HCL h 9) 8)
    have D3:=(pj3 HH.out) (rq hi 3)
    have D7:=(pj7 HH.out) (rq hi 7)
    have V0:=(pj13 HH.out) hns
    clear hi HCL
    simp only[zA,zB,zC,D3,D7]
    refine yaa rfl rfl fun K hK=>?_
    go_wp2_with fail
    refine(yd7 An names.length cn names a0 W (NA0.out.rd.below V0) rfl (by have:=HNM.out;omega)).mono ?_
    rintro e1 y ⟨rfl,rfl⟩
    rw[←HX0.out]
    go_wp2_with fail
    rw[HJ0.out]
    exact ⟨g0,x18,x19,x20,x21,x22,x23,x24,x25,.int .i64 x0,x27,x7,(by simp only[zA,zB,zC,D3,D7]),zT HH⟩
   ·have D2:=(pj2 HH.out) (rq hi 2)
    have D8:=(pj8 HH.out) (rq hi 8)
    clear hi HCL
    simp only[zA,zB,zC,D2,D8]
    refine yaa rfl rfl fun K hK=>?_
    go_wp2_with fail
    rw[HJ0.out]
    exact ⟨g0,x18,x19,x20,x21,x22,x23,x24,x25,x26,.agg #[.int .i64 (yao h.word),.int .i64 x0,.int .i64 0,.int .i64 0],x7,(by simp only[zA,zB,zC,D2,D8]),zT HH⟩
   ·have hns:¬ Ls Lz 11:=fun h=>hnl (dq HCL h 10)
    have V0:=(pj13 HH.out) hns
    clear hi HCL
    simp only[zA,zB,zC]
    refine yaa rfl rfl fun K hK=>?_
    go_wp2_with fail
    rw[HJ0.out]
    exact ⟨W.heap.size,x18,x19,x20,x21,x22,x23,x24,x25,x26,x27,.pointer (some ⟨W.heap.size,0,none⟩),(by simp only[zA,zB,zC]),zk HH,zk HH,zk HH,zk HH,zk HH,zk HH,zk HH,zk HH,zk HH,zk HH,fun _=>rfl,Ba hns,fun _ _=>⟨heap_alloc_new W _,V0.size⟩,fun h=>belE ((pj13 HH.out) (fun h2=>h h2.fwd)) yap,Bb hns⟩
   ·have hns:¬ Ls Lz 11:=hnl
    have D9:=(pj9 HH.out) (rq hi 9)
    have D10:=(pj10 HH.out) (rq hi 10)
    have E10:=(pj12 HH.out) (rq hi 10) hns
    have V0:=(pj13 HH.out) hns
    clear hi HCL
    simp only[zA,zB,zC,D9,D10]
    have z0:=yaj (j:=0) E10.1 rfl
    have z1:=yaj (j:=1) E10.1 rfl
    have z2:=yaj (j:=2) E10.1 rfl
    have z3:=yaj (j:=3) E10.1 rfl
    have f0:=yab (j:=0) E10.1
    have f1:=yab (j:=1) E10.1
    have f2:=yab (j:=2) E10.1
    have f3:=yab (j:=3) E10.1
    have lg:=lt_of_block E10.1
    have HE:=hD E10
    clear E10
    refine yaa rfl rfl fun K hK=>?_
    go_wp2_with fail
    rw[HJ0.out]
    exact ⟨g0,x18,x19,x20,x21,x22,x23,x24,x25,x26,x27,x7,(by first|(simp only[zA,zB,zC,D9,D10] <;> fail)|simp only[Act.put,zA,zB,zC,D9,D10]),zk HH,zk HH,zk HH,zk HH,zk HH,zk HH,zk HH,zk HH,zk HH,zk HH,zk HH,fun _=>⟨D10,yf4 HE.out.1,HE.out.2,yfl V0 HE.out.2⟩,zx hnow,zy hnow,zx hnow⟩
  ·intro Lz a W hsize hJ hr
   rw[HJ0.out] at hJ
   have hall:=ybj hsize Zq8 hr
   obtain ⟨g0,x18,x19,x20,x21,x22,x23,x24,x25,x26,x27,x7,rfl,HF⟩:=hJ
   have HH:=hD HF
   have HEND:=(pj11 HH.out) (hall 11 Zq9)
   clear HF HH hall hr hsize
   simp only[zA,zB,zC]
   obtain ⟨rfl,hg,hg0,hbF⟩:=HEND
   obtain ⟨w1,rfl⟩:∃ w1:World,w1=W:=⟨_,rfl⟩
   have hs1:=hbF.size
   have hgn:g0≠X∧g0≠b:=by omega
   have BBw1:=hD hbF
   have GGw1:=hD hg
   have XXw1:=hD ((hbF.block X hX0).trans X0.out)
   have CCw1:=hD (fun j u (h:(strs h.args)[j]?=some u)=>(hbF.cell (p:=⟨b,off+j,none⟩) hb0).trans (HC.out j u h))
   have RNw1:=hD (NA0.out.rd.below hbF)
   have HNA:=hD (show names.length≤1099511627776 by have:=HNM.out;omega)
   clear hg hbF k0 k1 k2 k3 k4 c0
   have cells:∀ (W:World) (b0 c0:Int),W.heap[g0]?=some (.cells #[.int .i64 (yao h.word),.int .i64 x0,.int .i64 b0,.int .i64 c0] 102 (0,0))→W.cell? ⟨g0,0,none⟩=some (.int .i64 (yao h.word))∧W.cell? ⟨g0,1,none⟩=some (.int .i64 x0)∧W.cell? ⟨g0,2,none⟩=some (.int .i64 b0)∧W.cell? ⟨g0,3,none⟩=some (.int .i64 c0):=fun W b0 c0 h=>⟨yaj h rfl,yaj h rfl,yaj h rfl,yaj h rfl⟩
   have hm3:h.args.length=1∨h.args.length=2∨h.args.length=3:=by have:=HAL.out;omega
   rcases hm3 with hm|hm|hm
   ·have d1:decide ((1:Int)<(h.args.length:Int))=false:=by rw[hm];decide
    have d2:decide ((2:Int)<(h.args.length:Int))=false:=by rw[hm];decide
    have HM:=hD hm
    have HGA:Hid (gat (ixI names) h=⟨yao h.word,x0,0,0⟩):=by
     show _=_
     unfold gat
     rw[HM.out,←HA0.out,←HX0.out]
     rfl
    have HM2:=hD hm
    clear hm
    obtain ⟨p0,p1,p2,p3,p4⟩:=yb9 (lay:=Below.refl _ _) XXw1.out
    obtain ⟨g1,g2,g3,g4⟩:=cells w1 _ _ GGw1.out
    have lX:=lt_of_block XXw1.out
    have lG:=lt_of_block GGw1.out
    clear cells
    go_wp2_with fail
    refine(ye4 _ _ _ [⟨yao h.word,x0,0,0⟩] 0 _ (yd2 ?c0 rfl) rfl Zq6).mono ?_
    case c0=>first|rfl|simp
    rintro e1 w9 ⟨v9,rfl,ho,hb9,hs9⟩
    have hB9:=BBw1.out.trans ((Below.alloc (Below.refl w0.heap.size _) BBw1.out.size _).trans (hb9.mono (Nat.le_trans BBw1.out.size (Below.alloc (Below.refl _ _) (Nat.le_refl _) _).size)))
    have HB9:=hD hB9
    have HO9:=hD ho
    have hz9:=Nat.le_trans BBw1.out.size (Below.alloc (Below.refl w1.heap.size w1) (Nat.le_refl _) (.cells #[.int .i64 (yao h.word),.int .i64 x0,.int .i64 0,.int .i64 0] 102)).size
    clear ho hb9 hB9
    go_wp2_with fail
    go_ret
    exact ⟨v9,vb,rfl,by rw[HF.out,HGA.out];exact ybd (by simpa using HO9.out) (Nat.le_trans hs0 hz9),by rw[HF.out];exact EN0.out.below HB9.out,ycu MW.out HB9.out,Mv.refl⟩
   ·have d1:decide ((1:Int)<(h.args.length:Int))=true:=by rw[hm];decide
    have d2:decide ((2:Int)<(h.args.length:Int))=false:=by rw[hm];decide
    have l1:1<h.args.length:=by omega
    have HM:=hD hm
    obtain ⟨a1,ha1⟩:∃ a,h.args[1]?=some a:=⟨_,List.getElem?_eq_getElem Zq6⟩
    have HG1:=hD ha1
    obtain ⟨x1,hx1⟩:∃ x,x=ixI names a1:=⟨_,rfl⟩
    have HX1:=hD hx1
    clear ha1 hx1
    have HB1:Hid (arg1 h=a1):=by
     show _=_
     unfold arg1
     rw[List.getD_eq_getElem?_getD,HG1.out]
     rfl
    have HGA:Hid (gat (ixI names) h=⟨yao h.word,x0,x1,0⟩):=by
     show _=_
     unfold gat
     rw[HM.out,←HA0.out,←HX0.out,HB1.out,←HX1.out]
     rfl
    have HM2:=hD hm
    clear hm
    obtain ⟨p0,p1,p2,p3,p4⟩:=yb9 (lay:=Below.refl _ _) XXw1.out
    obtain ⟨g1,g2,g3,g4⟩:=cells w1 _ _ GGw1.out
    have f2:=yab (j:=2) GGw1.out
    have lX:=lt_of_block XXw1.out
    have lG:=lt_of_block GGw1.out
    have cj:w1.cell? ⟨b,off+1,none⟩=some (.string a1):=CCw1.out 1 _ (by unfold strs;rw[List.getElem?_map,HG1.out];rfl)
    go_upto_region 6 with (go_at_call 149;refine(yd7 An names.length cn names a1 w1 RNw1.out rfl HNA.out).mono ?_;rintro e y ⟨rfl,rfl⟩;rw[←HX1.out])
    refine yez (fun w2 hwn=>?_)
    have GGw2:=hD (show w2.heap[g0]?=some (.cells #[.int .i64 (yao h.word),.int .i64 x0,.int .i64 x1,.int .i64 0] 102 (0,0)) by rw[hwn];exact ya1 GGw1.out _)
    have bn:Below w0.heap.size w1 w2:=by rw[hwn];exact(Below.refl _ _).setCell hg0 _
    have BBw2:=hD (BBw1.out.trans bn)
    have XXw2:=hD ((BBw2.out.block X hX0).trans X0.out)
    have CCw2:=hD (fun j u (h:(strs h.args)[j]?=some u)=>(BBw2.out.cell (p:=⟨b,off+j,none⟩) hb0).trans (HC.out j u h))
    have RNw2:=hD (NA0.out.rd.below BBw2.out)
    clear hwn bn p0 p1 p2 p3 p4 g1 g2 g3 g4 f2 lX lG cj
    obtain ⟨p0,p1,p2,p3,p4⟩:=yb9 (lay:=Below.refl _ _) XXw2.out
    obtain ⟨g1,g2,g3,g4⟩:=cells w2 _ _ GGw2.out
    have lX:=lt_of_block XXw2.out
    have lG:=lt_of_block GGw2.out
    clear cells
    go_wp2_with fail
    refine(ye4 _ _ _ [⟨yao h.word,x0,x1,0⟩] 0 _ (yd2 ?c0 rfl) rfl Zq6).mono ?_
    case c0=>first|rfl|simp
    rintro e1 w9 ⟨v9,rfl,ho,hb9,hs9⟩
    have hB9:=BBw2.out.trans ((Below.alloc (Below.refl w0.heap.size _) BBw2.out.size _).trans (hb9.mono (Nat.le_trans BBw2.out.size (Below.alloc (Below.refl _ _) (Nat.le_refl _) _).size)))
    have HB9:=hD hB9
    have HO9:=hD ho
    have hz9:=Nat.le_trans BBw2.out.size (Below.alloc (Below.refl w2.heap.size w2) (Nat.le_refl _) (.cells #[.int .i64 (yao h.word),.int .i64 x0,.int .i64 x1,.int .i64 0] 102)).size
    clear ho hb9 hB9
    go_wp2_with fail
    go_ret
    exact ⟨v9,vb,rfl,by rw[HF.out,HGA.out];exact ybd (by simpa using HO9.out) (Nat.le_trans hs0 hz9),by rw[HF.out];exact EN0.out.below HB9.out,ycu MW.out HB9.out,Mv.refl⟩
   ·have d1:decide ((1:Int)<(h.args.length:Int))=true:=by rw[hm];decide
    have d2:decide ((2:Int)<(h.args.length:Int))=true:=by rw[hm];decide
    have l1:1<h.args.length:=by omega
    have l2:2<h.args.length:=by omega
    have HM:=hD hm
    obtain ⟨a1,ha1⟩:∃ a,h.args[1]?=some a:=⟨_,List.getElem?_eq_getElem Zq6⟩
    have HG1:=hD ha1
    obtain ⟨x1,hx1⟩:∃ x,x=ixI names a1:=⟨_,rfl⟩
    have HX1:=hD hx1
    clear ha1 hx1
    obtain ⟨a2,ha2⟩:∃ a,h.args[2]?=some a:=⟨_,List.getElem?_eq_getElem Zq6⟩
    have HG2:=hD ha2
    obtain ⟨x2,hx2⟩:∃ x,x=ixI names a2:=⟨_,rfl⟩
    have HX2:=hD hx2
    clear ha2 hx2
    have HB1:Hid (arg1 h=a1):=by
     show _=_
     unfold arg1
     rw[List.getD_eq_getElem?_getD,HG1.out]
     rfl
    have HB2:Hid (h.args.getD 2 ⟨#[]⟩=a2):=by
     show _=_
     rw[List.getD_eq_getElem?_getD,HG2.out]
     rfl
    have HGA:Hid (gat (ixI names) h=⟨yao h.word,x0,x1,x2⟩):=by
     show _=_
     unfold gat
     rw[HM.out,←HA0.out,←HX0.out,HB1.out,←HX1.out,HB2.out,←HX2.out]
     rfl
    have HM2:=hD hm
    clear hm
    obtain ⟨p0,p1,p2,p3,p4⟩:=yb9 (lay:=Below.refl _ _) XXw1.out
    obtain ⟨g1,g2,g3,g4⟩:=cells w1 _ _ GGw1.out
    have f2:=yab (j:=2) GGw1.out
    have lX:=lt_of_block XXw1.out
    have lG:=lt_of_block GGw1.out
    have cj:w1.cell? ⟨b,off+1,none⟩=some (.string a1):=CCw1.out 1 _ (by unfold strs;rw[List.getElem?_map,HG1.out];rfl)
    go_upto_region 6 with (go_at_call 149;refine(yd7 An names.length cn names a1 w1 RNw1.out rfl HNA.out).mono ?_;rintro e y ⟨rfl,rfl⟩;rw[←HX1.out])
    refine yez (fun w2 hwn=>?_)
    have GGw2:=hD (show w2.heap[g0]?=some (.cells #[.int .i64 (yao h.word),.int .i64 x0,.int .i64 x1,.int .i64 0] 102 (0,0)) by rw[hwn];exact ya1 GGw1.out _)
    have bn:Below w0.heap.size w1 w2:=by rw[hwn];exact(Below.refl _ _).setCell hg0 _
    have BBw2:=hD (BBw1.out.trans bn)
    have XXw2:=hD ((BBw2.out.block X hX0).trans X0.out)
    have CCw2:=hD (fun j u (h:(strs h.args)[j]?=some u)=>(BBw2.out.cell (p:=⟨b,off+j,none⟩) hb0).trans (HC.out j u h))
    have RNw2:=hD (NA0.out.rd.below BBw2.out)
    clear hwn bn p0 p1 p2 p3 p4 g1 g2 g3 g4 f2 lX lG cj
    obtain ⟨p0,p1,p2,p3,p4⟩:=yb9 (lay:=Below.refl _ _) XXw2.out
    obtain ⟨g1,g2,g3,g4⟩:=cells w2 _ _ GGw2.out
    have f3:=yab (j:=3) GGw2.out
    have lX:=lt_of_block XXw2.out
    have lG:=lt_of_block GGw2.out
    have cj:w2.cell? ⟨b,off+2,none⟩=some (.string a2):=CCw2.out 2 _ (by unfold strs;rw[List.getElem?_map,HG2.out];rfl)
    go_upto_region 8 with (go_at_call 149;refine(yd7 An names.length cn names a2 w2 RNw2.out rfl HNA.out).mono ?_;rintro e y ⟨rfl,rfl⟩;rw[←HX2.out])
    refine yez (fun w3 hwn=>?_)
    have GGw3:=hD (show w3.heap[g0]?=some (.cells #[.int .i64 (yao h.word),.int .i64 x0,.int .i64 x1,.int .i64 x2] 102 (0,0)) by rw[hwn];exact ya1 GGw2.out _)
    have bn:Below w0.heap.size w2 w3:=by rw[hwn];exact(Below.refl _ _).setCell hg0 _
    have BBw3:=hD (BBw2.out.trans bn)
    have XXw3:=hD ((BBw3.out.block X hX0).trans X0.out)
    have CCw3:=hD (fun j u (h:(strs h.args)[j]?=some u)=>(BBw3.out.cell (p:=⟨b,off+j,none⟩) hb0).trans (HC.out j u h))
    have RNw3:=hD (NA0.out.rd.below BBw3.out)
    clear hwn bn p0 p1 p2 p3 p4 g1 g2 g3 g4 f3 lX lG cj
    obtain ⟨p0,p1,p2,p3,p4⟩:=yb9 (lay:=Below.refl _ _) XXw3.out
    obtain ⟨g1,g2,g3,g4⟩:=cells w3 _ _ GGw3.out
    have lX:=lt_of_block XXw3.out
    have lG:=lt_of_block GGw3.out
    clear cells
    go_wp2_with fail
    refine(ye4 _ _ _ [⟨yao h.word,x0,x1,x2⟩] 0 _ (yd2 ?c0 rfl) rfl Zq6).mono ?_
    case c0=>first|rfl|simp
    rintro e1 w9 ⟨v9,rfl,ho,hb9,hs9⟩
    have hB9:=BBw3.out.trans ((Below.alloc (Below.refl w0.heap.size _) BBw3.out.size _).trans (hb9.mono (Nat.le_trans BBw3.out.size (Below.alloc (Below.refl _ _) (Nat.le_refl _) _).size)))
    have HB9:=hD hB9
    have HO9:=hD ho
    have hz9:=Nat.le_trans BBw3.out.size (Below.alloc (Below.refl w3.heap.size w3) (Nat.le_refl _) (.cells #[.int .i64 (yao h.word),.int .i64 x0,.int .i64 x1,.int .i64 x2] 102)).size
    clear ho hb9 hB9
    go_wp2_with fail
    go_ret
    exact ⟨v9,vb,rfl,by rw[HF.out,HGA.out];exact ybd (by simpa using HO9.out) (Nat.le_trans hs0 hz9),by rw[HF.out];exact EN0.out.below HB9.out,ycu MW.out HB9.out,Mv.refl⟩
 ·obtain ⟨R,hR⟩:∃ R,R=iA d bd names e:=⟨_,rfl⟩
  have HF:Hid (iS (iA d) h bd names e=(repO R.1 (reps h.count),R.2)):=by show _=_;rw[iS_2 hk,hR]
  have HN:Hid ((repO R.1 (reps h.count)).length=reps h.count*R.1.length):=yip _ _
  have HRL:Hid (R.1.length≤2000000):=by show _≤_;rw[hR];exact yga names e (ybp HV.out).2.2.2.2.2.2.2 (by have:=hnb (by rw[hk];decide);omega)
  have HALL:=hD (fun W hb he=>hall W hb he (hnb (by rw[hk];decide)))
  rw[←hR] at HALL
  have e1:(h.k==1)=false:=by rw[hk];decide
  have e2:(h.k==2)=true:=by rw[hk];decide
  clear hk hall hnb hR
  go_upto_region 10 with (fail)
  rw[←HW0.out,←HX.out]
  obtain ⟨J0,hJ0⟩:∃ J:Array Value→Array Bool→Act→World→Prop,J=(fun A0 Lz a W=>∃ (Ax:Option Addr) (cx:Nat) (Ay:Option Addr) (cy:Nat) (vq:Value),∃ x55 x56 x57 x58 x59 x60 x61 x62 x6:Value,a=⟨(((((((((A0.setIfInBounds 55 x55).setIfInBounds 56 x56).setIfInBounds 57 x57).setIfInBounds 58 x58).setIfInBounds 59 x59).setIfInBounds 60 x60).setIfInBounds 61 x61).setIfInBounds 62 x62).setIfInBounds 6 x6),[]⟩∧(Ls Lz 0→x55=.pointer (some ⟨E,0,none⟩))∧(Ls Lz 1→x56=.pointer (some ⟨X,4,none⟩))∧(Ls Lz 2→x57=.slice Ab nb cb)∧(Ls Lz 3→x58=.slice An names.length cn)∧(Ls Lz 4→x59=.slice Ax R.1.length cx)∧(Ls Lz 5→x60=.pointer (some ⟨X,3,none⟩))∧(Ls Lz 6→x61=.int .i64 h.count)∧(Ls Lz 7→x62=.slice Ay (reps h.count*R.1.length) cy)∧(Ls Lz 8→(x6=.slice Ay (reps h.count*R.1.length) cy∧(W.ownsRow w0.heap.size 104 8 (.slice Ay (reps h.count*R.1.length) cy) (reps h.count*R.1.length) ((repO R.1 (reps h.count)).flatMap yan)∧EnvI W E B vq R.2∧Mv w0 vb vq)∧Mod E vb.ownBlock w0 W))∧(Ls Lz 4→¬ Ls Lz 8→(W.ownsRow w0.heap.size 104 8 (.slice Ax R.1.length cx) R.1.length (R.1.flatMap yan)∧EnvI W E B vq R.2∧Mv w0 vb vq))∧(Ls Lz 7→¬ Ls Lz 8→(W.ownsRow w0.heap.size 104 8 (.slice Ay (reps h.count*R.1.length) cy) (reps h.count*R.1.length) ((repO R.1 (reps h.count)).flatMap yan)∧EnvI W E B vq R.2∧Mv w0 vb vq))∧(¬ Ls Lz 8→Mod E vb.ownBlock w0 W)∧(Ls Lz 8→¬ Ls Lz 8→True)∧(¬ Ls Lz 4→EnvI W E B vb e)):=⟨_,rfl⟩
  have HJ0:=hD hJ0
  clear hJ0
  refine ya3 Zq8 J0 ?_ ?_ ?_
  ·intro A0
   rw[HJ0.out]
   exact ⟨none,0,none,0,vb,A0.getD 55 undef,A0.getD 56 undef,A0.getD 57 undef,A0.getD 58 undef,A0.getD 59 undef,A0.getD 60 undef,A0.getD 61 undef,A0.getD 62 undef,A0.getD 6 undef,by simp only[ybm],zn,zn,zn,zn,zn,zn,zn,zn,zn,zn,zn,fun _=>Mod.of_below _ _ (ycb (Below.refl _ _)),zn,fun _=>EN0.out.drew⟩
  ·intro Lz a W hsize hcl hJ i hi
   have hil:=ybn hi
   have hnl:=ybi hi
   have hnow:=ybh hi hsize
   have HCL:=hD hcl
   rw[HJ0.out] at hJ
   obtain ⟨Ax,cx,Ay,cy,vq,x55,x56,x57,x58,x59,x60,x61,x62,x6,rfl,HF⟩:=hJ
   have HH:=hD HF
   have hi2:i=0∨i=1∨i=2∨i=3∨i=4∨i=5∨i=6∨i=7∨i=8:=by simp at hil;omega
   clear hil hcl HF
   rcases hi2 with rfl|rfl|rfl|rfl|rfl|rfl|rfl|rfl|rfl
   ·clear hi HCL
    simp only[zA,zB,zC]
    refine yaa rfl rfl fun K hK=>?_
    go_wp2_with fail
    rw[HJ0.out]
    exact ⟨Ax,cx,Ay,cy,vq,.pointer (some ⟨E,0,none⟩),x56,x57,x58,x59,x60,x61,x62,x6,(by simp only[zA,zB,zC]),zT HH⟩
   ·clear hi HCL
    simp only[zA,zB,zC]
    refine yaa rfl rfl fun K hK=>?_
    go_wp2_with fail
    rw[HJ0.out]
    exact ⟨Ax,cx,Ay,cy,vq,x55,.pointer (some ⟨X,4,none⟩),x57,x58,x59,x60,x61,x62,x6,(by simp only[zA,zB,zC]),zT HH⟩
   ·have hns:¬ Ls Lz 8:=fun h=>hnl (dq HCL (dq HCL (dq HCL h 7) 4) 2)
    have D1:=(pj1 HH.out) (rq hi 1)
    have V0:=(pj11 HH.out) hns
    clear hi HCL
    simp only[zA,zB,zC,D1]
    have q0:=yby V0 hX0 hXE hvX k4
    refine yaa rfl rfl fun K hK=>?_
    go_wp2_with fail
    rw[HJ0.out]
    exact ⟨Ax,cx,Ay,cy,vq,x55,x56,.slice Ab nb cb,x58,x59,x60,x61,x62,x6,(by simp only[zA,zB,zC,D1]),zT HH⟩
   ·clear hi HCL
    simp only[zA,zB,zC]
    refine yaa rfl rfl fun K hK=>?_
    go_wp2_with fail
    rw[HJ0.out]
    exact ⟨Ax,cx,Ay,cy,vq,x55,x56,x57,.slice An names.length cn,x59,x60,x61,x62,x6,(by simp only[zA,zB,zC]),zT HH⟩
   ·have hns:¬ Ls Lz 8:=fun h=>hnl (dq HCL (dq HCL h 7) 4)
    have D0:=(pj0 HH.out) (rq hi 0)
    have D2:=(pj2 HH.out) (rq hi 2)
    have D3:=(pj3 HH.out) (rq hi 3)
    have V0:=(pj11 HH.out) hns
    have hk7:¬ Ls Lz 7:=fun h=>hnl (dq HCL h 4)
    have Hh0:=(pe13 HH.out) hnl
    clear hi HCL
    simp only[zA,zB,zC,D0,D2,D3]
    refine yaa rfl rfl fun K hK=>?_
    go_wp2_with fail
    refine(HALL.out W V0 Hh0).mono ?_
    rintro e1 y ⟨v7,vb7,rfl,ho,hen,hm,hmv⟩
    obtain ⟨A7,c7,rfl,_,_,_⟩:=yah ho
    go_wp2_with fail
    rw[HJ0.out]
    exact ⟨A7,c7,Ay,cy,vb7,x55,x56,x57,x58,.slice A7 R.1.length c7,x60,x61,x62,x6,(by simp only[zA,zB,zC,D0,D2,D3]),zk HH,zk HH,zk HH,zk HH,fun _=>rfl,zk HH,zk HH,Ba hk7,Ba hns,fun _ _=>⟨ybd ho V0.size,hen,Mv.refl.trans hmv V0.size⟩,Bb hk7,fun h=>Mod.trans ((pj11 HH.out) (fun h2=>h h2.fwd)) hm (.inl rfl),Bb hns,zy hnow⟩
   ·clear hi HCL
    simp only[zA,zB,zC]
    refine yaa rfl rfl fun K hK=>?_
    go_wp2_with fail
    rw[HJ0.out]
    exact ⟨Ax,cx,Ay,cy,vq,x55,x56,x57,x58,x59,.pointer (some ⟨X,3,none⟩),x61,x62,x6,(by simp only[zA,zB,zC]),zT HH⟩
   ·have hns:¬ Ls Lz 8:=fun h=>hnl (dq HCL (dq HCL h 7) 6)
    have D5:=(pj5 HH.out) (rq hi 5)
    have V0:=(pj11 HH.out) hns
    clear hi HCL
    simp only[zA,zB,zC,D5]
    have q0:=yby V0 hX0 hXE hvX k3
    refine yaa rfl rfl fun K hK=>?_
    go_wp2_with fail
    rw[HJ0.out]
    exact ⟨Ax,cx,Ay,cy,vq,x55,x56,x57,x58,x59,x60,.int .i64 h.count,x62,x6,(by simp only[zA,zB,zC,D5]),zT HH⟩
   ·have hns:¬ Ls Lz 8:=fun h=>hnl (dq HCL h 7)
    have D4:=(pj4 HH.out) (rq hi 4)
    have E4:=(pj9 HH.out) (rq hi 4) hns
    have D6:=(pj6 HH.out) (rq hi 6)
    have V0:=(pj11 HH.out) hns
    have hp4:Ls Lz 4:=(rq hi 4)
    clear hi HCL
    simp only[zA,zB,zC,D4,D6]
    have rr:=ybv E4.1
    refine yaa rfl rfl fun K hK=>?_
    go_wp2_with fail
    refine(ykx _ _ _ R.1 h.count W rr rfl (by have:=HRL.out;omega)).mono ?_
    rintro e1 y ⟨v8,rfl,ho,hb,hs⟩
    obtain ⟨A8,c8,rfl,_,_,_⟩:=yah ho
    go_wp2_with fail
    rw[HJ0.out]
    exact ⟨Ax,cx,A8,c8,vq,x55,x56,x57,x58,x59,x60,x61,.slice A8 (reps h.count*R.1.length) c8,x6,(by simp only[zA,zB,zC,D4,D6]),zk HH,zk HH,zk HH,zk HH,zk HH,zk HH,zk HH,fun _=>rfl,Ba hns,(Bt (pj9 HH.out) fun x=>⟨yat x.1 hb,EnvI.below x.2.1 hb,x.2.2⟩),fun _ _=>⟨ybd ho V0.size,(EnvI.below E4.2.1 hb),E4.2.2⟩,fun h=>ycu ((pj11 HH.out) (fun h2=>h h2.fwd)) hb,Bb hns,fun h=>absurd (Ls.fwd hp4) h⟩
   ·have hns:¬ Ls Lz 8:=hnl
    have D7:=(pj7 HH.out) (rq hi 7)
    have E7:=(pj10 HH.out) (rq hi 7) hns
    have V0:=(pj11 HH.out) hns
    clear hi HCL
    simp only[zA,zB,zC,D7]
    refine yaa rfl rfl fun K hK=>?_
    go_wp2_with fail
    rw[HJ0.out]
    exact ⟨Ax,cx,Ay,cy,vq,x55,x56,x57,x58,x59,x60,x61,x62,.slice Ay (reps h.count*R.1.length) cy,(by first|(simp only[zA,zB,zC,D7] <;> fail)|simp only[Act.put,zA,zB,zC,D7]),zk HH,zk HH,zk HH,zk HH,zk HH,zk HH,zk HH,zk HH,fun _=>⟨rfl,E7,V0⟩,zx hnow,zx hnow,zy hnow,zx hnow,zi HH⟩
  ·intro Lz a W hsize hJ hr
   rw[HJ0.out] at hJ
   have hall:=ybj hsize Zq8 hr
   obtain ⟨Ax,cx,Ay,cy,vq,x55,x56,x57,x58,x59,x60,x61,x62,x6,rfl,HF⟩:=hJ
   have HH:=hD HF
   have HEND:=(pj8 HH.out) (hall 8 Zq9)
   clear HF HH hall hr hsize
   simp only[zA,zB,zC]
   obtain ⟨rfl,⟨ho,hen,hmv⟩,hm⟩:=HEND
   obtain ⟨w1,rfl⟩:∃ w1:World,w1=W:=⟨_,rfl⟩
   have HO:=hD ho
   have HE:=hD hen
   have HMM:=hD hm
   clear ho hen hm
   go_wp2_with fail
   go_ret
   exact ⟨.slice Ay (reps h.count*R.1.length) cy,vq,rfl,by rw[HF.out];show World.ownsRow _ _ _ _ _ (repO R.1 (reps h.count)).length _;rw[HN.out];exact ybd HO.out Zq6,by rw[HF.out];exact HE.out,MW.out.trans HMM.out (.inl rfl),Mv.refl.trans hmv hs0⟩
 ·obtain ⟨R,hR⟩:∃ R,R=iA d bd names e:=⟨_,rfl⟩
  have HF:Hid (iS (iA d) h bd names e=(adjO R.1,R.2)):=by show _=_;rw[iS_3 hk,hR]
  have HN:Hid ((adjO R.1).length=R.1.length):=yf7 _
  have HRL:Hid (R.1.length≤2000000):=by show _≤_;rw[hR];exact yga names e (ybp HV.out).2.2.2.2.2.2.2 (by have:=hnb (by rw[hk];decide);omega)
  have HALL:=hD (fun W hb he=>hall W hb he (hnb (by rw[hk];decide)))
  rw[←hR] at HALL
  have e1:(h.k==1)=false:=by rw[hk];decide
  have e2:(h.k==2)=false:=by rw[hk];decide
  have e3:(h.k==3)=true:=by rw[hk];decide
  clear hk hall hnb hR
  go_wp2_with fail
  rw[←HW0.out]
  refine(HALL.out w0 (Mod.of_below _ _ (Below.refl _ _)) EN0.out).mono ?_
  rintro e1 w1 ⟨v1,vq,rfl,ho,hen,hm,hmv⟩
  obtain ⟨A7,c7,rfl,_,_,rr⟩:=yah ho
  have hs1:=hm.size
  have HEN:=hD hen
  have HMM:=hD hm
  clear hen hm ho
  go_wp2_with fail
  refine(yj7 _ _ _ R.1 w1 rr rfl (by have:=HRL.out;omega)).mono ?_
  rintro e2 w2 ⟨v8,rfl,ho2,hb2,hs2⟩
  have HO:=hD ho2
  have HE2:=hD (HEN.out.below hb2)
  have HM2:=hD (ycu HMM.out hb2)
  clear ho2 hb2 rr
  go_wp2_with fail
  go_ret
  exact ⟨v8,vq,rfl,by rw[HF.out];show World.ownsRow _ _ _ _ _ (adjO R.1).length _;rw[HN.out];exact ybd HO.out Zq6,by rw[HF.out];exact HE2.out,MW.out.trans HM2.out (.inl rfl),Mv.refl.trans hmv hs0⟩
 ·have hal:0<h.args.length:=by have h1:=(ybp HV.out).2.1;rw[hk] at h1;have h2:yar 4 h.word=1:=Zq14;omega
  obtain ⟨b,off,rfl,hbP,hb0,hbc⟩:=RA0.out.2 hal
  have hbE:b≠E:=fun e=>hP (e▸hbP)
  have hvb:vb.ownBlock≠some b:=fun e=>HPV.out b e hbP
  obtain ⟨a0,hA0⟩:∃ a0,a0=arg0 h:=⟨_,rfl⟩
  have HA0:=hD hA0
  have c0:w0.cell? ⟨b,off,none⟩=some (.string a0):=hbc 0 _ (by unfold strs;rw[List.getElem?_map,yc3 hal,hA0];rfl)
  clear hA0
  obtain ⟨R,hR⟩:∃ R,R=iA d bd names e:=⟨_,rfl⟩
  obtain ⟨q0i,hQ⟩:∃ q,q=ixI names a0:=⟨_,rfl⟩
  have HQ:=hD hQ
  have HF:Hid (iS (iA d) h bd names e=(osL q0i R.1,⟨R.2.bits,R.2.most,R.2.bad || !osB q0i R.1⟩)):=by show _=_;rw[iS_4 hk,hR,hQ,HA0.out]
  have HRL:Hid (R.1.length≤2000000):=by show _≤_;rw[hR];exact yga names e (ybp HV.out).2.2.2.2.2.2.2 (by have:=hnb (by rw[hk];decide);omega)
  have HALL:=hD (fun W hb he=>hall W hb he (hnb (by rw[hk];decide)))
  rw[←hR] at HALL
  clear hQ
  have e1:(h.k==1)=false:=by rw[hk];decide
  have e2:(h.k==2)=false:=by rw[hk];decide
  have e3:(h.k==3)=false:=by rw[hk];decide
  have e4:(h.k==4)=true:=by rw[hk];decide
  clear hk hall hnb hR
  go_upto_region 14 with (fail)
  rw[←HW0.out,←HX.out]
  obtain ⟨J0,hJ0⟩:∃ J:Array Value→Array Bool→Act→World→Prop,J=(fun A0 Lz a W=>∃ (Ax:Option Addr) (cx:Nat) (Ay:Option Addr) (cy:Nat) (vq:Value),∃ x74 x75 x76 x77 x78 x79 x80 x81 x82 x83 x84 x85 x73 x86 x87 x8 x9:Value,a=⟨(((((((((((((((((A0.setIfInBounds 74 x74).setIfInBounds 75 x75).setIfInBounds 76 x76).setIfInBounds 77 x77).setIfInBounds 78 x78).setIfInBounds 79 x79).setIfInBounds 80 x80).setIfInBounds 81 x81).setIfInBounds 82 x82).setIfInBounds 83 x83).setIfInBounds 84 x84).setIfInBounds 85 x85).setIfInBounds 73 x73).setIfInBounds 86 x86).setIfInBounds 87 x87).setIfInBounds 8 x8).setIfInBounds 9 x9),[]⟩∧(Ls Lz 0→x74=.slice An names.length cn)∧(Ls Lz 1→x75=.pointer (some ⟨X,2,none⟩))∧(Ls Lz 2→x76=.slice (some ⟨b,off,none⟩) h.args.length ca)∧(Ls Lz 3→x77=.pointer (some ⟨b,off,none⟩))∧(Ls Lz 4→x78=.string a0)∧(Ls Lz 5→x79=.int .i64 q0i)∧(Ls Lz 6→x80=.pointer (some ⟨E,0,none⟩))∧(Ls Lz 7→x81=.pointer (some ⟨X,4,none⟩))∧(Ls Lz 8→x82=.slice Ab nb cb)∧(Ls Lz 9→x83=.slice An names.length cn)∧(Ls Lz 10→x84=.slice Ax R.1.length cx)∧(Ls Lz 11→x85=.tuple #[.slice Ay (osL q0i R.1).length cy,.bool (osB q0i R.1)])∧(Ls Lz 12→x73=.tuple #[.slice Ay (osL q0i R.1).length cy,.bool (osB q0i R.1)])∧(Ls Lz 13→x86=.slice Ay (osL q0i R.1).length cy)∧(Ls Lz 14→x87=.bool (osB q0i R.1))∧(Ls Lz 15→x8=.slice Ay (osL q0i R.1).length cy)∧(Ls Lz 16→(x9=.bool (osB q0i R.1)∧(W.ownsRow w0.heap.size 104 8 (.slice Ay (osL q0i R.1).length cy) (osL q0i R.1).length ((osL q0i R.1).flatMap yan)∧EnvI W E B vq R.2∧Mv w0 vb vq)∧Mod E vb.ownBlock w0 W))∧(Ls Lz 10→¬ Ls Lz 16→(W.ownsRow w0.heap.size 104 8 (.slice Ax R.1.length cx) R.1.length (R.1.flatMap yan)∧EnvI W E B vq R.2∧Mv w0 vb vq))∧(Ls Lz 11→¬ Ls Lz 16→(W.ownsRow w0.heap.size 104 8 (.slice Ay (osL q0i R.1).length cy) (osL q0i R.1).length ((osL q0i R.1).flatMap yan)∧EnvI W E B vq R.2∧Mv w0 vb vq))∧(¬ Ls Lz 16→Mod E vb.ownBlock w0 W)∧(Ls Lz 16→¬ Ls Lz 16→True)∧(¬ Ls Lz 10→EnvI W E B vb e)):=⟨_,rfl⟩
  have HJ0:=hD hJ0
  clear hJ0
  refine ya3 Zq8 J0 ?_ ?_ ?_
  ·intro A0
   rw[HJ0.out]
   exact ⟨none,0,none,0,vb,A0.getD 74 undef,A0.getD 75 undef,A0.getD 76 undef,A0.getD 77 undef,A0.getD 78 undef,A0.getD 79 undef,A0.getD 80 undef,A0.getD 81 undef,A0.getD 82 undef,A0.getD 83 undef,A0.getD 84 undef,A0.getD 85 undef,A0.getD 73 undef,A0.getD 86 undef,A0.getD 87 undef,A0.getD 8 undef,A0.getD 9 undef,by simp only[ybm],zn,zn,zn,zn,zn,zn,zn,zn,zn,zn,zn,zn,zn,zn,zn,zn,zn,zn,zn,fun _=>Mod.of_below _ _ (ycb (Below.refl _ _)),zn,fun _=>EN0.out.drew⟩
  ·intro Lz a W hsize hcl hJ i hi
   have hil:=ybn hi
   have hnl:=ybi hi
   have hnow:=ybh hi hsize
   have HCL:=hD hcl
   rw[HJ0.out] at hJ
   obtain ⟨Ax,cx,Ay,cy,vq,x74,x75,x76,x77,x78,x79,x80,x81,x82,x83,x84,x85,x73,x86,x87,x8,x9,rfl,HF⟩:=hJ
   have HH:=hD HF
   have hi2:i=0∨i=1∨i=2∨i=3∨i=4∨i=5∨i=6∨i=7∨i=8∨i=9∨i=10∨i=11∨i=12∨i=13∨i=14∨i=15∨i=16:=by simp at hil;omega
   clear hil hcl HF
   rcases hi2 with rfl|rfl|rfl|rfl|rfl|rfl|rfl|rfl|rfl|rfl|rfl|rfl|rfl|rfl|rfl|rfl|rfl
   ·clear hi HCL
    simp only[zA,zB,zC]
    refine yaa rfl rfl fun K hK=>?_
    go_wp2_with fail
    rw[HJ0.out]
    exact ⟨Ax,cx,Ay,cy,vq,.slice An names.length cn,x75,x76,x77,x78,x79,x80,x81,x82,x83,x84,x85,x73,x86,x87,x8,x9,(by simp only[zA,zB,zC]),zT HH⟩
   ·clear hi HCL
    simp only[zA,zB,zC]
    refine yaa rfl rfl fun K hK=>?_
    go_wp2_with fail
    rw[HJ0.out]
    exact ⟨Ax,cx,Ay,cy,vq,x74,.pointer (some ⟨X,2,none⟩),x76,x77,x78,x79,x80,x81,x82,x83,x84,x85,x73,x86,x87,x8,x9,(by simp only[zA,zB,zC]),zT HH⟩
   ·have hns:¬ Ls Lz 16:=fun h=>hnl (dq HCL (dq HCL (dq HCL (dq HCL (dq HCL (dq HCL (dq HCL h 14) 12) 11) 5) 4) 3) 2)
    have D1:=(pj1 HH.out) (rq hi 1)
    have V0:=(pj19 HH.out) hns
    clear hi HCL
    simp only[zA,zB,zC,D1]
    have q0:=yby V0 hX0 hXE hvX k2
    refine yaa rfl rfl fun K hK=>?_
    go_wp2_with fail
    rw[HJ0.out]
    exact ⟨Ax,cx,Ay,cy,vq,x74,x75,.slice (some ⟨b,off,none⟩) h.args.length ca,x77,x78,x79,x80,x81,x82,x83,x84,x85,x73,x86,x87,x8,x9,(by simp only[zA,zB,zC,D1]),zT HH⟩
   ·have D2:=(pj2 HH.out) (rq hi 2)
    clear hi HCL
    simp only[zA,zB,zC,D2]
    refine yaa rfl rfl fun K hK=>?_
    go_wp2_with fail
    rw[HJ0.out]
    exact ⟨Ax,cx,Ay,cy,vq,x74,x75,x76,.pointer (some ⟨b,off,none⟩),x78,x79,x80,x81,x82,x83,x84,x85,x73,x86,x87,x8,x9,(by simp only[zA,zB,zC,D2]),zT HH⟩
   ·have hns:¬ Ls Lz 16:=fun h=>hnl (dq HCL (dq HCL (dq HCL (dq HCL (dq HCL h 14) 12) 11) 5) 4)
    have D3:=(pj3 HH.out) (rq hi 3)
    have V0:=(pj19 HH.out) hns
    clear hi HCL
    simp only[zA,zB,zC,D3]
    have q0:=yby V0 hb0 hbE hvb c0
    refine yaa rfl rfl fun K hK=>?_
    go_wp2_with fail
    rw[HJ0.out]
    exact ⟨Ax,cx,Ay,cy,vq,x74,x75,x76,x77,.string a0,x79,x80,x81,x82,x83,x84,x85,x73,x86,x87,x8,x9,(by simp only[zA,zB,zC,D3]),zT HH⟩
   ·have hns:¬ Ls Lz 16:=fun h=>hnl (dq HCL (dq HCL (dq HCL (dq HCL h 14) 12) 11) 5)
    have D0:=(pj0 HH.out) (rq hi 0)
    have D4:=(pj4 HH.out) (rq hi 4)
    have V0:=(pj19 HH.out) hns
    clear hi HCL
    simp only[zA,zB,zC,D0,D4]
    refine yaa rfl rfl fun K hK=>?_
    go_wp2_with fail
    refine(yd7 An names.length cn names a0 W (yg8 NA0.out V0 hP HPV.out).rd rfl (by have:=HNM.out;omega)).mono ?_
    rintro e1 y ⟨rfl,rfl⟩
    rw[←HQ.out]
    go_wp2_with fail
    rw[HJ0.out]
    exact ⟨Ax,cx,Ay,cy,vq,x74,x75,x76,x77,x78,.int .i64 q0i,x80,x81,x82,x83,x84,x85,x73,x86,x87,x8,x9,(by simp only[zA,zB,zC,D0,D4]),zT HH⟩
   ·clear hi HCL
    simp only[zA,zB,zC]
    refine yaa rfl rfl fun K hK=>?_
    go_wp2_with fail
    rw[HJ0.out]
    exact ⟨Ax,cx,Ay,cy,vq,x74,x75,x76,x77,x78,x79,.pointer (some ⟨E,0,none⟩),x81,x82,x83,x84,x85,x73,x86,x87,x8,x9,(by simp only[zA,zB,zC]),zT HH⟩
   ·clear hi HCL
    simp only[zA,zB,zC]
    refine yaa rfl rfl fun K hK=>?_
    go_wp2_with fail
    rw[HJ0.out]
    exact ⟨Ax,cx,Ay,cy,vq,x74,x75,x76,x77,x78,x79,x80,.pointer (some ⟨X,4,none⟩),x82,x83,x84,x85,x73,x86,x87,x8,x9,(by simp only[zA,zB,zC]),zT HH⟩
   ·have hns:¬ Ls Lz 16:=fun h=>hnl (dq HCL (dq HCL (dq HCL (dq HCL (dq HCL h 14) 12) 11) 10) 8)
    have D7:=(pj7 HH.out) (rq hi 7)
    have V0:=(pj19 HH.out) hns
    clear hi HCL
    simp only[zA,zB,zC,D7]
    have q0:=yby V0 hX0 hXE hvX k4
    refine yaa rfl rfl fun K hK=>?_
    go_wp2_with fail
    rw[HJ0.out]
    exact ⟨Ax,cx,Ay,cy,vq,x74,x75,x76,x77,x78,x79,x80,x81,.slice Ab nb cb,x83,x84,x85,x73,x86,x87,x8,x9,(by simp only[zA,zB,zC,D7]),zT HH⟩
   ·clear hi HCL
    simp only[zA,zB,zC]
    refine yaa rfl rfl fun K hK=>?_
    go_wp2_with fail
    rw[HJ0.out]
    exact ⟨Ax,cx,Ay,cy,vq,x74,x75,x76,x77,x78,x79,x80,x81,x82,.slice An names.length cn,x84,x85,x73,x86,x87,x8,x9,(by simp only[zA,zB,zC]),zT HH⟩
   ·have hns:¬ Ls Lz 16:=fun h=>hnl (dq HCL (dq HCL (dq HCL (dq HCL h 14) 12) 11) 10)
    have D6:=(pj6 HH.out) (rq hi 6)
    have D8:=(pj8 HH.out) (rq hi 8)
    have D9:=(pj9 HH.out) (rq hi 9)
    have V0:=(pj19 HH.out) hns
    have hk11:¬ Ls Lz 11:=fun h=>hnl (dq HCL h 10)
    have Hh0:=(pe21 HH.out) hnl
    clear hi HCL
    simp only[zA,zB,zC,D6,D8,D9]
    refine yaa rfl rfl fun K hK=>?_
    go_wp2_with fail
    refine(HALL.out W V0 Hh0).mono ?_
    rintro e1 y ⟨v7,vb7,rfl,ho,hen,hm,hmv⟩
    obtain ⟨A7,c7,rfl,_,_,_⟩:=yah ho
    go_wp2_with fail
    rw[HJ0.out]
    exact ⟨A7,c7,Ay,cy,vb7,x74,x75,x76,x77,x78,x79,x80,x81,x82,x83,.slice A7 R.1.length c7,x85,x73,x86,x87,x8,x9,(by simp only[zA,zB,zC,D6,D8,D9]),zk HH,zk HH,zk HH,zk HH,zk HH,zk HH,zk HH,zk HH,zk HH,zk HH,fun _=>rfl,Ba hk11,zk HH,zk HH,zk HH,zk HH,Ba hns,fun _ _=>⟨ybd ho V0.size,hen,Mv.refl.trans hmv V0.size⟩,Bb hk11,fun h=>Mod.trans ((pj19 HH.out) (fun h2=>h h2.fwd)) hm (.inl rfl),Bb hns,zy hnow⟩
   ·have hns:¬ Ls Lz 16:=fun h=>hnl (dq HCL (dq HCL (dq HCL h 14) 12) 11)
    have D5:=(pj5 HH.out) (rq hi 5)
    have D10:=(pj10 HH.out) (rq hi 10)
    have E10:=(pj17 HH.out) (rq hi 10) hns
    have V0:=(pj19 HH.out) hns
    have hk12:¬ Ls Lz 12:=fun h=>hnl (dq HCL h 11)
    have hk13:¬ Ls Lz 13:=fun h=>hnl (dq HCL (dq HCL h 12) 11)
    have hk15:¬ Ls Lz 15:=fun h=>hnl (dq HCL (dq HCL (dq HCL h 13) 12) 11)
    have hp10:Ls Lz 10:=(rq hi 10)
    clear hi HCL
    simp only[zA,zB,zC,D5,D10]
    have rr:=ybv E10.1
    refine yaa rfl rfl fun K hK=>?_
    go_wp2_with fail
    refine(yh7 q0i _ _ _ R.1 W rr rfl (by have:=HRL.out;omega)).mono ?_
    rintro e1 y ⟨v8,rfl,ho,hb,hs⟩
    obtain ⟨A8,c8,rfl,_,_,_⟩:=yah ho
    go_wp2_with fail
    rw[HJ0.out]
    exact ⟨Ax,cx,A8,c8,vq,x74,x75,x76,x77,x78,x79,x80,x81,x82,x83,x84,.tuple #[.slice A8 (osL q0i R.1).length c8,.bool (osB q0i R.1)],x73,x86,x87,x8,x9,(by simp only[zA,zB,zC,D5,D10]),zk HH,zk HH,zk HH,zk HH,zk HH,zk HH,zk HH,zk HH,zk HH,zk HH,zk HH,fun _=>rfl,Ba hk12,Ba hk13,zk HH,Ba hk15,Ba hns,(Bt (pj17 HH.out) fun x=>⟨yat x.1 hb,EnvI.below x.2.1 hb,x.2.2⟩),fun _ _=>⟨ybd ho V0.size,(EnvI.below E10.2.1 hb),E10.2.2⟩,fun h=>ycu ((pj19 HH.out) (fun h2=>h h2.fwd)) hb,Bb hns,fun h=>absurd (Ls.fwd hp10) h⟩
   ·have D11:=(pj11 HH.out) (rq hi 11)
    clear hi HCL
    simp only[zA,zB,zC,D11]
    refine yaa rfl rfl fun K hK=>?_
    go_wp2_with fail
    rw[HJ0.out]
    exact ⟨Ax,cx,Ay,cy,vq,x74,x75,x76,x77,x78,x79,x80,x81,x82,x83,x84,x85,.tuple #[.slice Ay (osL q0i R.1).length cy,.bool (osB q0i R.1)],x86,x87,x8,x9,(by simp only[zA,zB,zC,D11]),zT HH⟩
   ·have D12:=(pj12 HH.out) (rq hi 12)
    clear hi HCL
    simp only[zA,zB,zC,D12]
    refine yaa rfl rfl fun K hK=>?_
    go_wp2_with fail
    rw[HJ0.out]
    exact ⟨Ax,cx,Ay,cy,vq,x74,x75,x76,x77,x78,x79,x80,x81,x82,x83,x84,x85,x73,.slice Ay (osL q0i R.1).length cy,x87,x8,x9,(by simp only[zA,zB,zC,D12]),zT HH⟩
   ·have D12:=(pj12 HH.out) (rq hi 12)
    clear hi HCL
    simp only[zA,zB,zC,D12]
    refine yaa rfl rfl fun K hK=>?_
    go_wp2_with fail
    rw[HJ0.out]
    exact ⟨Ax,cx,Ay,cy,vq,x74,x75,x76,x77,x78,x79,x80,x81,x82,x83,x84,x85,x73,x86,.bool (osB q0i R.1),x8,x9,(by simp only[zA,zB,zC,D12]),zT HH⟩
   ·have D13:=(pj13 HH.out) (rq hi 13)
    clear hi HCL
    simp only[zA,zB,zC,D13]
    refine yaa rfl rfl fun K hK=>?_
    go_wp2_with fail
    rw[HJ0.out]
    exact ⟨Ax,cx,Ay,cy,vq,x74,x75,x76,x77,x78,x79,x80,x81,x82,x83,x84,x85,x73,x86,x87,.slice Ay (osL q0i R.1).length cy,x9,(by simp only[zA,zB,zC,D13]),zT HH⟩
   ·have hns:¬ Ls Lz 16:=hnl
    have D14:=(pj14 HH.out) (rq hi 14)
    have E11:=(pj18 HH.out) (dq HCL (dq HCL (rq hi 14) 12) 11) hns
    have V0:=(pj19 HH.out) hns
    clear hi HCL
    simp only[zA,zB,zC,D14]
    refine yaa rfl rfl fun K hK=>?_
    go_wp2_with fail
    rw[HJ0.out]
    exact ⟨Ax,cx,Ay,cy,vq,x74,x75,x76,x77,x78,x79,x80,x81,x82,x83,x84,x85,x73,x86,x87,x8,.bool (osB q0i R.1),(by first|(simp only[zA,zB,zC,D14] <;> fail)|simp only[Act.put,zA,zB,zC,D14]),zk HH,zk HH,zk HH,zk HH,zk HH,zk HH,zk HH,zk HH,zk HH,zk HH,zk HH,zk HH,zk HH,zk HH,zk HH,zk HH,fun _=>⟨rfl,E11,V0⟩,zx hnow,zx hnow,zy hnow,zx hnow,zi HH⟩
  ·intro Lz a W hsize hJ hr
   rw[HJ0.out] at hJ
   have hall:=yfm hsize Zq8 hr
   obtain ⟨Ax,cx,Ay,cy,vq,x74,x75,x76,x77,x78,x79,x80,x81,x82,x83,x84,x85,x73,x86,x87,x8,x9,rfl,HF⟩:=hJ
   have HH:=hD HF
   have HEND:=(pj16 HH.out) (hall 16 Zq9)
   have HE15:=(pj15 HH.out) (hall 15 Zq9)
   clear HF HH hall hr hsize
   simp only[zA,zB,zC]
   obtain ⟨hob,⟨ho,hen,hmv⟩,hm⟩:=HEND
   obtain rfl:=HE15
   obtain ⟨w1,rfl⟩:∃ w1:World,w1=W:=⟨_,rfl⟩
   have HO:=hD ho
   have HE:=hD hen
   have HMM:=hD hm
   have hs1:=hm.size
   have lE:=hen.lt
   have f2:=yab (j:=2) hen.1
   have z2:=yaj (j:=2) hen.1 rfl
   clear ho hen hm
   cases hB:osB q0i R.1 with
   | true =>
    rw[hB] at hob
    obtain rfl:=hob
    go_wp2_with fail
    go_ret
    exact ⟨.slice Ay (osL q0i R.1).length cy,vq,rfl,by rw[HF.out];exact ybd HO.out Zq6,by rw[HF.out,hB];show EnvI _ E B vq ⟨R.2.bits,R.2.most,R.2.bad || false⟩;rw[Bool.or_false];exact HE.out,MW.out.trans HMM.out (.inl rfl),Mv.refl.trans hmv hs0⟩
   | false =>
    rw[hB] at hob
    obtain rfl:=hob
    go_wp2_with fail
    go_ret
    exact ⟨.slice Ay (osL q0i R.1).length cy,vq,rfl,by rw[HF.out];exact yc8 (ybd HO.out Zq6) (fun q=>by have:=ybe HO.out E q;omega) _,by rw[HF.out,hB];show EnvI _ E B vq ⟨R.2.bits,R.2.most,R.2.bad || true⟩;rw[Bool.or_true];exact HE.out.long hEB,(MW.out.trans HMM.out (.inl rfl)).set (.inl rfl) _,Mv.refl.trans hmv hs0⟩
 ·have hal:0<h.args.length:=by have h1:=(ybp HV.out).2.1;rw[hk] at h1;have h2:yar 5 h.word=1:=Zq14;omega
  obtain ⟨b,off,rfl,hbP,hb0,hbc⟩:=RA0.out.2 hal
  have hbE:b≠E:=fun e=>hP (e▸hbP)
  have hvb:vb.ownBlock≠some b:=fun e=>HPV.out b e hbP
  obtain ⟨a0,hA0⟩:∃ a0,a0=arg0 h:=⟨_,rfl⟩
  have HA0:=hD hA0
  have c0:w0.cell? ⟨b,off,none⟩=some (.string a0):=hbc 0 _ (by unfold strs;rw[List.getElem?_map,yc3 hal,hA0];rfl)
  clear hA0
  have hn5:=hnb (by rw[hk];decide)
  have HF0:=hD (iS_5 (all:=iA d) (bd:=bd) (names:=names) (e:=e) hk)
  rw[←HA0.out] at HF0
  obtain ⟨C,hC⟩:∃ C,C=w0.heap.size:=⟨_,rfl⟩
  obtain ⟨w1,hw1⟩:∃ w1,w1=w0.alloc (.cells #[.int .i64 3,.int .i64 0,.int .i64 0,.int .i64 0,.int .i64 0,.int .i64 (names.length:Int),.int .i64 0,.int .i64 0] 104):=⟨_,rfl⟩
  have b1:Below w0.heap.size w0 w1:=by rw[hw1];exact Zq0
  have C1:=hD (show w1.heap[C]?=some (.cells #[.int .i64 3,.int .i64 0,.int .i64 0,.int .i64 0,.int .i64 0,.int .i64 (names.length:Int),.int .i64 0,.int .i64 0] 104 (0,0)) by rw[hw1,hC];exact yac _ _)
  have hs1:=b1.size
  have lC1:=lt_of_block C1.out
  have HW1:=hD hw1
  have HCX:=hD (hC.trans HXS.out)
  have hXC:X<C:=by have:=HCX.out;omega
  have B1:=hD b1
  clear hw1 hC b1
  have e1:(h.k==1)=false:=by rw[hk];decide
  have e2:(h.k==2)=false:=by rw[hk];decide
  have e3:(h.k==3)=false:=by rw[hk];decide
  have e4:(h.k==4)=false:=by rw[hk];decide
  have e5:(h.k==5)=true:=by rw[hk];decide
  clear hk hall hnb
  go_upto_region 20 with (fail)
  rw[←HW0.out,←HX.out]
  rw[←HW1.out,←HCX.out]
  have p2:=(B1.out.cell (p:=⟨X,2,none⟩) hX0).trans k2
  have c1:=(B1.out.cell (p:=⟨b,off,none⟩) hb0).trans c0
  have lX1:X<w1.heap.size:=by omega
  have lb1:b<w1.heap.size:=by omega
  have hp1:0<w1.heap.size:=by omega
  have hnn9:names.length≤1000:=by omega
  have NA1:=hD (NA0.out.keep (fun b _ hl=>B1.out.block b hl) hs1)
  clear c0 k2
  obtain ⟨J0,hJ0⟩:∃ J:Array Value→Array Bool→Act→World→Prop,J=(fun A0 Lz a W=>∃ (g0:Nat) (A2:Option Addr) (c2:Nat) (g1:Nat) (Ay:Option Addr) (cy:Nat),∃ x99 x100 x101 x102 x103 x104 x105 x106 x107 x11:Value,a=⟨((((((((((A0.setIfInBounds 99 x99).setIfInBounds 100 x100).setIfInBounds 101 x101).setIfInBounds 102 x102).setIfInBounds 103 x103).setIfInBounds 104 x104).setIfInBounds 105 x105).setIfInBounds 106 x106).setIfInBounds 107 x107).setIfInBounds 11 x11),[]⟩∧(Ls Lz 0→(x99=.slice (some ⟨g0,0,none⟩) 0 0∧g0≠0))∧(Ls Lz 1→x100=.slice An names.length cn)∧(Ls Lz 2→x101=.slice A2 names.length c2)∧(Ls Lz 3→x102=.pointer (some ⟨X,2,none⟩))∧(Ls Lz 4→x103=.slice (some ⟨b,off,none⟩) h.args.length ca)∧(Ls Lz 5→x104=.pointer (some ⟨b,off,none⟩))∧(Ls Lz 6→x105=.string a0)∧(Ls Lz 7→x106=.slice (some ⟨g1,0,none⟩) 1 1)∧(Ls Lz 8→x107=.slice Ay (names.length+1) cy)∧(Ls Lz 9→(x11=.slice Ay (names.length+1) cy∧(W.ownsRow w1.heap.size 9 1 (.slice Ay (names.length+1) cy) (names.length+1) (strs names++[.string a0])∧Below w1.heap.size w1 W)))∧(Ls Lz 2→¬ Ls Lz 8→W.ownsRow w1.heap.size 9 1 (.slice A2 names.length c2) names.length (strs names))∧(Ls Lz 7→¬ Ls Lz 8→(W.ownsRow w1.heap.size 9 1 (.slice (some ⟨g1,0,none⟩) 1 1) 1 [.string a0]∧g1≠g0))∧(¬ Ls Lz 8→Below w1.heap.size w1 W)∧(¬ Ls Lz 8→g0<W.heap.size)∧(Ls Lz 8→¬ Ls Lz 9→(W.ownsRow w1.heap.size 9 1 (.slice Ay (names.length+1) cy) (names.length+1) (strs names++[.string a0])∧Below w1.heap.size w1 W))∧(¬ Ls Lz 2→(g0=0∨W.ownsRow w1.heap.size 9 1 (.slice (some ⟨g0,0,none⟩) 0 0) 0 []))):=⟨_,rfl⟩
  have HJ0:=hD hJ0
  clear hJ0
  refine ya3 Zq8 J0 ?_ ?_ ?_
  ·intro A0
   rw[HJ0.out]
   exact ⟨0,none,0,0,none,0,A0.getD 99 undef,A0.getD 100 undef,A0.getD 101 undef,A0.getD 102 undef,A0.getD 103 undef,A0.getD 104 undef,A0.getD 105 undef,A0.getD 106 undef,A0.getD 107 undef,A0.getD 11 undef,by simp only[ybm],zn,zn,zn,zn,zn,zn,zn,zn,zn,zn,zn,zn,fun _=>ycb (Below.refl _ _),fun _=>hp1,zn,fun _=>.inl rfl⟩
  ·intro Lz a W hsize hcl hJ i hi
   have hil:=ybn hi
   have hnl:=ybi hi
   have hnow:=ybh hi hsize
   have HCL:=hD hcl
   rw[HJ0.out] at hJ
   obtain ⟨g0,A2,c2,g1,Ay,cy,x99,x100,x101,x102,x103,x104,x105,x106,x107,x11,rfl,HF⟩:=hJ
   have HH:=hD HF
   have hi2:i=0∨i=1∨i=2∨i=3∨i=4∨i=5∨i=6∨i=7∨i=8∨i=9:=by simp at hil;omega
   clear hil hcl HF
   rcases hi2 with rfl|rfl|rfl|rfl|rfl|rfl|rfl|rfl|rfl|rfl
   ·have hns:¬ Ls Lz 8:=fun h=>hnl (dq HCL (dq HCL h 2) 0)
    have V0:=(pj12 HH.out) hns
    have V1:=(pj13 HH.out) hns
    have hnla:¬ Ls Lz 9:=fun h=>hns (HCL.out.dep2 h 8 Zq8)
    clear hi HCL
    simp only[zA,zB,zC]
    refine yaa rfl rfl fun K hK=>?_
    go_wp2_with fail
    rw[HJ0.out]
    exact ⟨W.heap.size,A2,c2,g1,Ay,cy,.slice (some ⟨W.heap.size,0,none⟩) 0 0,x100,x101,x102,x103,x104,x105,x106,x107,x11,(by simp only[zA,zB,zC]),fun _=>⟨rfl,by have:=V0.size;omega⟩,zk HH,zk HH,zk HH,zk HH,zk HH,zk HH,zk HH,zk HH,Ba hnla,(Bt (pj10 HH.out) fun x=>yat x yap),(Bt (pj11 HH.out) fun x=>⟨yat x.1 yap,fun q=>by have h1:=(World.ownsRow.lt x.1 g1 rfl).2;omega⟩),fun h=>belE ((pj12 HH.out) (fun h2=>h h2.fwd)) yap,fun h=>ylx,Bb hns,fun h=>.inr (ybd (yb2 W _ _) V0.size)⟩
   ·clear hi HCL
    simp only[zA,zB,zC]
    refine yaa rfl rfl fun K hK=>?_
    go_wp2_with fail
    rw[HJ0.out]
    exact ⟨g0,A2,c2,g1,Ay,cy,x99,.slice An names.length cn,x101,x102,x103,x104,x105,x106,x107,x11,(by simp only[zA,zB,zC]),zT HH⟩
   ·have hns:¬ Ls Lz 8:=fun h=>hnl (dq HCL h 2)
    have D0:=(pj0 HH.out) (rq hi 0)
    have D1:=(pj1 HH.out) (rq hi 1)
    have V0:=(pj12 HH.out) hns
    have V1:=(pj13 HH.out) hns
    have hnla:¬ Ls Lz 9:=fun h=>hns (HCL.out.dep2 h 8 Zq8)
    have Hh0:=(pe15 HH.out) hnl
    clear hi HCL
    obtain ⟨D0,X0⟩:=D0
    simp only[zA,zB,zC,D0,D1]
    have hown0:=Hh0.resolve_left X0
    refine yaa rfl rfl fun K hK=>?_
    simp only[List.getElem_toArray,List.getElem_cons_succ,List.getElem_cons_zero]
    refine yae _ rfl _ _ 24 rfl w1.heap.size 9 j0 _ 1 16 Tryz.underlying24 hj hy0 hy1 hy2 rfl Zq9 _ _ _ rfl hown0 _ names.length _ _ rfl (NA1.out.rd.below V0) ?c2 ?c3 ?c4 ?c5 ?_
    case c2=>exact fun u hu=>yry _ u hu
    case c3=>simp only[maxLen];omega
    case c4=>omega
    case c5=>exact V0.size
    intro v6 W6 own6 gr6 hat
    rw[Nat.zero_add] at own6
    obtain ⟨A8,c8,rfl,_,_,_⟩:=yah own6
    go_wp2_with fail
    rw[HJ0.out]
    exact ⟨g0,A8,c8,g1,Ay,cy,x99,x100,.slice A8 names.length c8,x102,x103,x104,x105,x106,x107,x11,(by first|(simp only[zA,zB,zC,D0,D1] <;> fail)|simp only[Act.put,zA,zB,zC,D0,D1]),zk HH,zk HH,fun _=>rfl,zk HH,zk HH,zk HH,zk HH,zk HH,zk HH,Ba hnla,fun _ _=>own6,(Bt (pj11 HH.out) fun x=>⟨World.ownsRow.kept x.1 gr6 (.inr (fun q=>by injection q with q;exact x.2 q)),x.2⟩),fun h=>Below.grown ((pj12 HH.out) (fun h2=>h h2.fwd)) gr6 V0.size (ybe hown0),fun h=>Nat.lt_of_lt_of_le ((pj13 HH.out) (fun h2=>h h2.fwd)) (gr6).size,Bb hns,zy hnow⟩
   ·clear hi HCL
    simp only[zA,zB,zC]
    refine yaa rfl rfl fun K hK=>?_
    go_wp2_with fail
    rw[HJ0.out]
    exact ⟨g0,A2,c2,g1,Ay,cy,x99,x100,x101,.pointer (some ⟨X,2,none⟩),x103,x104,x105,x106,x107,x11,(by simp only[zA,zB,zC]),zT HH⟩
   ·have hns:¬ Ls Lz 8:=fun h=>hnl (dq HCL (dq HCL (dq HCL (dq HCL h 7) 6) 5) 4)
    have D3:=(pj3 HH.out) (rq hi 3)
    have V0:=(pj12 HH.out) hns
    have V1:=(pj13 HH.out) hns
    have hnla:¬ Ls Lz 9:=fun h=>hns (HCL.out.dep2 h 8 Zq8)
    clear hi HCL
    simp only[zA,zB,zC,D3]
    have q0:=(V0.cell (p:=⟨X,2,none⟩) lX1).trans p2
    refine yaa rfl rfl fun K hK=>?_
    go_wp2_with fail
    rw[HJ0.out]
    exact ⟨g0,A2,c2,g1,Ay,cy,x99,x100,x101,x102,.slice (some ⟨b,off,none⟩) h.args.length ca,x104,x105,x106,x107,x11,(by simp only[zA,zB,zC,D3]),zT HH⟩
   ·have D4:=(pj4 HH.out) (rq hi 4)
    clear hi HCL
    simp only[zA,zB,zC,D4]
    refine yaa rfl rfl fun K hK=>?_
    go_wp2_with fail
    rw[HJ0.out]
    exact ⟨g0,A2,c2,g1,Ay,cy,x99,x100,x101,x102,x103,.pointer (some ⟨b,off,none⟩),x105,x106,x107,x11,(by simp only[zA,zB,zC,D4]),zT HH⟩
   ·have hns:¬ Ls Lz 8:=fun h=>hnl (dq HCL (dq HCL h 7) 6)
    have D5:=(pj5 HH.out) (rq hi 5)
    have V0:=(pj12 HH.out) hns
    have V1:=(pj13 HH.out) hns
    have hnla:¬ Ls Lz 9:=fun h=>hns (HCL.out.dep2 h 8 Zq8)
    clear hi HCL
    simp only[zA,zB,zC,D5]
    have q0:=(V0.cell (p:=⟨b,off,none⟩) lb1).trans c1
    refine yaa rfl rfl fun K hK=>?_
    go_wp2_with fail
    rw[HJ0.out]
    exact ⟨g0,A2,c2,g1,Ay,cy,x99,x100,x101,x102,x103,x104,.string a0,x106,x107,x11,(by simp only[zA,zB,zC,D5]),zT HH⟩
   ·have hns:¬ Ls Lz 8:=fun h=>hnl (dq HCL h 7)
    have D6:=(pj6 HH.out) (rq hi 6)
    have V0:=(pj12 HH.out) hns
    have V1:=(pj13 HH.out) hns
    have hnla:¬ Ls Lz 9:=fun h=>hns (HCL.out.dep2 h 8 Zq8)
    clear hi HCL
    simp only[zA,zB,zC,D6]
    refine yaa rfl rfl fun K hK=>?_
    go_wp2_with fail
    rw[HJ0.out]
    exact ⟨g0,A2,c2,W.heap.size,Ay,cy,x99,x100,x101,x102,x103,x104,x105,.slice (some ⟨W.heap.size,0,none⟩) 1 1,x107,x11,(by simp only[zA,zB,zC,D6]),zk HH,zk HH,zk HH,zk HH,zk HH,zk HH,zk HH,fun _=>rfl,zk HH,Ba hnla,(Bt (pj10 HH.out) fun x=>yat x yap),fun _ _=>⟨World.ownsRow_lit W _ 1 V0.size Zq13 rfl,fun q=>by have:=V1;omega⟩,fun h=>belE ((pj12 HH.out) (fun h2=>h h2.fwd)) yap,fun h=>Nat.lt_of_lt_of_le ((pj13 HH.out) (fun h2=>h h2.fwd)) (yap).size,Bb hns,fun h=>(((pe15 HH.out) (fun h2=>h h2.fwd))).imp id (fun h=>yat h yap)⟩
   ·have hns:¬ Ls Lz 8:=hnl
    have D2:=(pj2 HH.out) (rq hi 2)
    have E2:=(pj10 HH.out) (rq hi 2) hns
    have D7:=(pj7 HH.out) (rq hi 7)
    have E7:=(pj11 HH.out) (rq hi 7) hns
    have V0:=(pj12 HH.out) hns
    have V1:=(pj13 HH.out) hns
    have hnla:¬ Ls Lz 9:=fun h=>hns (HCL.out.dep2 h 8 Zq8)
    have hp2:Ls Lz 2:=(rq hi 2)
    clear hi HCL
    simp only[zA,zB,zC,D2,D7]
    have rr:=ybv E7.1
    refine yaa rfl rfl fun K hK=>?_
    simp only[List.getElem_toArray,List.getElem_cons_succ,List.getElem_cons_zero]
    refine yae _ rfl _ _ 24 rfl w1.heap.size 9 j0 _ 1 16 Tryz.underlying24 hj hy0 hy1 hy2 rfl Zq9 _ _ _ rfl E2 _ 1 _ _ rfl rr ?c2 ?c3 ?c4 ?c5 ?_
    case c2=>exact yhj _
    case c3=>simp only[maxLen];omega
    case c4=>omega
    case c5=>exact V0.size
    intro v6 W6 own6 gr6 hat
    obtain ⟨A8,c8,rfl,_,_,_⟩:=yah own6
    go_wp2_with fail
    rw[HJ0.out]
    exact ⟨g0,A2,c2,g1,A8,c8,x99,x100,x101,x102,x103,x104,x105,x106,.slice A8 (names.length+1) c8,x11,(by first|(simp only[zA,zB,zC,D2,D7] <;> fail)|simp only[Act.put,zA,zB,zC,D2,D7]),zk HH,zk HH,zk HH,zk HH,zk HH,zk HH,zk HH,zk HH,fun _=>rfl,Ba hnla,zx hnow,zx hnow,zy hnow,zy hnow,fun _ _=>⟨own6,Below.grown V0 gr6 V0.size (ybe E2)⟩,fun h=>absurd (Ls.fwd hp2) h⟩
   ·have D8:=(pj8 HH.out) (rq hi 8)
    have HST:=rq hi 8
    have VL:=(pj14 HH.out) HST hnl
    clear hi HCL
    simp only[zA,zB,zC,D8]
    refine yaa rfl rfl fun K hK=>?_
    go_wp2_with fail
    rw[HJ0.out]
    exact ⟨g0,A2,c2,g1,Ay,cy,x99,x100,x101,x102,x103,x104,x105,x106,x107,.slice Ay (names.length+1) cy,(by simp only[zA,zB,zC,D8]),zk HH,zk HH,zk HH,zk HH,zk HH,zk HH,zk HH,zk HH,zk HH,fun _=>⟨rfl,VL⟩,zx (Ls.fwd HST),zx (Ls.fwd HST),zy (Ls.fwd HST),zy (Ls.fwd HST),zx hnow,zi HH⟩
  ·intro Lz a W hsize hJ hr
   rw[HJ0.out] at hJ
   have hall:=yfm hsize Zq8 hr
   obtain ⟨g0,A2,c2,g1,Ay,cy,x99,x100,x101,x102,x103,x104,x105,x106,x107,x11,rfl,HF⟩:=hJ
   have HH:=hD HF
   have HEND:=(pj9 HH.out) (hall 9 Zq9)
   clear HF HH hall hr hsize
   simp only[zA,zB,zC]
   obtain ⟨rfl,ho2,hb2⟩:=HEND
   obtain ⟨w2,rfl⟩:∃ w2:World,w2=W:=⟨_,rfl⟩
   have hs2:=hb2.size
   have hb02:Below w0.heap.size w0 w2:=B1.out.trans (hb2.mono hs1)
   have hs02:=hb02.size
   have hCE:C≠E:=by have:=HCX.out;have:=HXS.out;omega
   have hvC:vb.ownBlock≠some C:=fun q=>by have:=(HVB.out C q).2;have:=HX.out;omega
   have lC2:C<w2.heap.size:=by omega
   have lX2:X<w2.heap.size:=by omega
   have hp2:0<w2.heap.size:=by omega
   have p4:=(hb02.cell (p:=⟨X,4,none⟩) hX0).trans k4
   have C2:=hD ((hb2.block C lC1).trans C1.out)
   have hm:=fun (j:Nat) (u:Value) (hu)=>yaj (j:=j) (u:=u) C2.out hu
   obtain ⟨m0,m1,m2,m3,m4,m5,m6,m7⟩:(w2.cell? ⟨C,0,none⟩=some (.int .i64 3)∧w2.cell? ⟨C,1,none⟩=some (.int .i64 0)∧w2.cell? ⟨C,2,none⟩=some (.int .i64 0)∧w2.cell? ⟨C,3,none⟩=some (.int .i64 0)∧w2.cell? ⟨C,4,none⟩=some (.int .i64 0)∧w2.cell? ⟨C,5,none⟩=some (.int .i64 (names.length:Int))∧w2.cell? ⟨C,6,none⟩=some (.int .i64 0)∧w2.cell? ⟨C,7,none⟩=some (.int .i64 0)):=⟨hm 0 _ rfl,hm 1 _ rfl,hm 2 _ rfl,hm 3 _ rfl,hm 4 _ rfl,hm 5 _ rfl,hm 6 _ rfl,hm 7 _ rfl⟩
   have EN2:=hD (EN0.out.below hb02)
   have HG2:=hD (HG0.out.below (hb02.mono HG0.out.1))
   obtain ⟨P4,hP4e⟩:∃ P4:Nat→Prop,P4=fun b=>P b∨w1.heap.size≤b:=⟨_,rfl⟩
   have hP4:¬ P4 E:=by
    rw[hP4e]
    rintro (h|h)
    ·exact hP h
    ·have h:w1.heap.size≤E:=h
     omega
   have HPV4:Hid (∀ k,vb.ownBlock=some k→¬ P4 k):=by
    show ∀ k,_
    rw[hP4e]
    rintro k hk (h|h)
    ·exact HPV.out k hk h
    ·have h:w1.heap.size≤k:=h
     have:=(HVB.out k hk).2
     omega
   have TB2:=hD (show TrQ w2 P4 d Ab nb bd by rw[hP4e];exact TrQ.mono (fun b _ h=>.inl h) (TrQ.keep (fun b _ hl=>hb02.block b hl) hs02 TB0.out))
   have NA2:=hD (show RdQ w2 P4 1 Ay (names.length+1) (strs (names++[a0])) by
    rw[hP4e,show strs (names++[a0])=strs names++[.string a0] by unfold strs;rw[List.map_append];rfl]
    exact(yck ho2).mono (fun b _ h=>.inr h))
   obtain ⟨R,hR⟩:∃ R,R=iA d bd (names++[a0]) e:=⟨_,rfl⟩
   have HF:Hid (iS (iA d) h bd names e=([ybc names.length]++R.1++[ybc names.length],R.2)):=by show _=_;rw[HF0.out,hR]
   have HRL:Hid (R.1.length≤2000000):=by show _≤_;rw[hR];exact yga _ e (ybp HV.out).2.2.2.2.2.2.2 Zq6
   have HALL:Hid (∀ W,Mod E vb.ownBlock w2 W→EnvI W E B vb e→Calls Tryz.prog 67 #[.pointer (some ⟨E,0,none⟩),.slice Ab nb cb,.slice Ay (names.length+1) cy] W (ymb W E B vb R)):=by
    show ∀ W,_
    intro W hm he
    rw[hR]
    exact hall0 P4 bd Ab nb cb E B M vb Ay _ cy (names++[a0]) e W (yk8 TB2.out hm hP4 HPV4.out) (yg8 NA2.out hm hP4 HPV4.out) Zq11 (ybp HV.out).2.2.2.2.2.2.2 hP4 HPV4.out he (HG2.out.mod hm hME (fun k hk=>by have:=HVB.out k hk;omega)) ⟨hME,hEB,Nat.le_trans hBw (Nat.le_trans hs02 hm.size)⟩ Zq6 Zq10 (by have:=HSZ.out;omega)
   have HB02:=hD hb02
   clear hb2 hb02 ho2 hm hR hP4e hall0 p2 c1 hn5 hnn9
   go_upto_region 21 with (fail)
   obtain ⟨J0,hJ0⟩:∃ J:Array Value→Array Bool→Act→World→Prop,J=(fun A0 Lz a W=>∃ (g0:Nat) (gL:Nat) (Ax:Option Addr) (cx:Nat) (vq:Value) (A2:Option Addr) (c2:Nat) (g1:Nat) (Az:Option Addr) (cz:Nat),∃ x108 x109 x110 x111 x112 x113 x114 x115 x116 x117 x118 x6:Value,a=⟨((((((((((((A0.setIfInBounds 108 x108).setIfInBounds 109 x109).setIfInBounds 110 x110).setIfInBounds 111 x111).setIfInBounds 112 x112).setIfInBounds 113 x113).setIfInBounds 114 x114).setIfInBounds 115 x115).setIfInBounds 116 x116).setIfInBounds 117 x117).setIfInBounds 118 x118).setIfInBounds 6 x6),[]⟩∧(Ls Lz 0→x108=.agg #[.int .i64 3,.int .i64 0,.int .i64 0,.int .i64 0,.int .i64 0,.int .i64 (names.length:Int),.int .i64 0,.int .i64 0])∧(Ls Lz 1→(x109=.slice (some ⟨g0,0,none⟩) 1 1∧g0≠0))∧(Ls Lz 2→x110=.pointer (some ⟨E,0,none⟩))∧(Ls Lz 3→x111=.pointer (some ⟨X,4,none⟩))∧(Ls Lz 4→x112=.slice Ab nb cb)∧(Ls Lz 5→x113=.slice Ay (names.length+1) cy)∧(Ls Lz 6→(x114=.slice Ax R.1.length cx∧gL≠0))∧(Ls Lz 7→x115=.slice A2 (1+R.1.length) c2)∧(Ls Lz 8→x116=.agg #[.int .i64 3,.int .i64 0,.int .i64 0,.int .i64 0,.int .i64 0,.int .i64 (names.length:Int),.int .i64 0,.int .i64 0])∧(Ls Lz 9→x117=.slice (some ⟨g1,0,none⟩) 1 1)∧(Ls Lz 10→x118=.slice Az (1+R.1.length+1) cz)∧(Ls Lz 11→(x6=.slice Az (1+R.1.length+1) cz∧(W.ownsRow w2.heap.size 104 8 (.slice Az (1+R.1.length+1) cz) (1+R.1.length+1) (yan (ybc (names.length:Int))++R.1.flatMap yan++yan (ybc (names.length:Int)))∧EnvI W E B vq R.2∧Mv w2 vb vq∧Mod E vb.ownBlock w2 W)))∧(Ls Lz 6→¬ Ls Lz 10→(EnvI W E B vq R.2∧Mv w2 vb vq))∧(Ls Lz 7→¬ Ls Lz 10→W.ownsRow w2.heap.size 104 8 (.slice A2 (1+R.1.length) c2) (1+R.1.length) (yan (ybc (names.length:Int))++R.1.flatMap yan))∧(Ls Lz 9→¬ Ls Lz 10→(W.ownsRow w2.heap.size 104 8 (.slice (some ⟨g1,0,none⟩) 1 1) 1 (yan (ybc (names.length:Int)))∧g1≠g0))∧(¬ Ls Lz 10→Mod E vb.ownBlock w2 W)∧(¬ Ls Lz 10→g0<W.heap.size)∧(Ls Lz 10→¬ Ls Lz 11→(W.ownsRow w2.heap.size 104 8 (.slice Az (1+R.1.length+1) cz) (1+R.1.length+1) (yan (ybc (names.length:Int))++R.1.flatMap yan++yan (ybc (names.length:Int)))∧EnvI W E B vq R.2∧Mv w2 vb vq∧Mod E vb.ownBlock w2 W))∧(¬ Ls Lz 6→EnvI W E B vb e)∧(¬ Ls Lz 7→(g0=0∨W.ownsRow w2.heap.size 104 8 (.slice (some ⟨g0,0,none⟩) 1 1) 1 (yan (ybc (names.length:Int)))))∧(¬ Ls Lz 7→(gL=0∨W.ownsRow w2.heap.size 104 8 (.slice Ax R.1.length cx) R.1.length (R.1.flatMap yan)))):=⟨_,rfl⟩
   have HJ0:=hD hJ0
   clear hJ0
   refine ya3 Zq8 J0 ?_ ?_ ?_
   ·intro A0
    rw[HJ0.out]
    exact ⟨0,0,none,0,vb,none,0,0,none,0,A0.getD 108 undef,A0.getD 109 undef,A0.getD 110 undef,A0.getD 111 undef,A0.getD 112 undef,A0.getD 113 undef,A0.getD 114 undef,A0.getD 115 undef,A0.getD 116 undef,A0.getD 117 undef,A0.getD 118 undef,A0.getD 6 undef,by simp only[ybm],zn,zn,zn,zn,zn,zn,zn,zn,zn,zn,zn,zn,zn,zn,zn,fun _=>Mod.of_below _ _ (ycb (Below.refl _ _)),fun _=>hp2,zn,fun _=>EN2.out.drew,fun _=>.inl rfl,fun _=>.inl rfl⟩
   ·intro Lz a W hsize hcl hJ i hi
    have hil:=ybn hi
    have hnl:=ybi hi
    have hnow:=ybh hi hsize
    have HCL:=hD hcl
    rw[HJ0.out] at hJ
    obtain ⟨g0,gL,Ax,cx,vq,A2,c2,g1,Az,cz,x108,x109,x110,x111,x112,x113,x114,x115,x116,x117,x118,x6,rfl,HF⟩:=hJ
    have HH:=hD HF
    have hi2:i=0∨i=1∨i=2∨i=3∨i=4∨i=5∨i=6∨i=7∨i=8∨i=9∨i=10∨i=11:=by simp at hil;omega
    clear hil hcl HF
    rcases hi2 with rfl|rfl|rfl|rfl|rfl|rfl|rfl|rfl|rfl|rfl|rfl|rfl
    ·have hns:¬ Ls Lz 10:=fun h=>hnl (dq HCL (dq HCL (dq HCL h 7) 1) 0)
     have V0:=(pj15 HH.out) hns
     have V1:=(pj16 HH.out) hns
     have hnla:¬ Ls Lz 11:=fun h=>hns (HCL.out.dep2 h 10 Zq8)
     clear hi HCL
     simp only[zA,zB,zC]
     have q0:=yby V0 lC2 hCE hvC m0
     have q1:=yby V0 lC2 hCE hvC m1
     have q2:=yby V0 lC2 hCE hvC m2
     have q3:=yby V0 lC2 hCE hvC m3
     have q4:=yby V0 lC2 hCE hvC m4
     have q5:=yby V0 lC2 hCE hvC m5
     have q6:=yby V0 lC2 hCE hvC m6
     have q7:=yby V0 lC2 hCE hvC m7
     refine yaa rfl rfl fun K hK=>?_
     go_wp2_with fail
     rw[HJ0.out]
     exact ⟨g0,gL,Ax,cx,vq,A2,c2,g1,Az,cz,.agg #[.int .i64 3,.int .i64 0,.int .i64 0,.int .i64 0,.int .i64 0,.int .i64 (names.length:Int),.int .i64 0,.int .i64 0],x109,x110,x111,x112,x113,x114,x115,x116,x117,x118,x6,(by simp only[zA,zB,zC]),zT HH⟩
    ·have hns:¬ Ls Lz 10:=fun h=>hnl (dq HCL (dq HCL h 7) 1)
     have D0:=(pj0 HH.out) (rq hi 0)
     have V0:=(pj15 HH.out) hns
     have V1:=(pj16 HH.out) hns
     have hk7:¬ Ls Lz 7:=fun h=>hnl (dq HCL h 1)
     have hnla:¬ Ls Lz 11:=fun h=>hns (HCL.out.dep2 h 10 Zq8)
     clear hi HCL
     simp only[zA,zB,zC,D0]
     refine yaa rfl rfl fun K hK=>?_
     go_wp2_with fail
     rw[HJ0.out]
     exact ⟨W.heap.size,gL,Ax,cx,vq,A2,c2,g1,Az,cz,x108,.slice (some ⟨W.heap.size,0,none⟩) 1 1,x110,x111,x112,x113,x114,x115,x116,x117,x118,x6,(by simp only[zA,zB,zC,D0]),zk HH,fun _=>⟨rfl,by have:=V0.size;omega⟩,zk HH,zk HH,zk HH,zk HH,zk HH,Ba hk7,zk HH,zk HH,zk HH,Ba hnla,(Bt (pj12 HH.out) fun x=>⟨EnvI.below x.1 yap,x.2⟩),Bb hk7,(Bt (pj14 HH.out) fun x=>⟨yat x.1 yap,fun q=>by have h1:=(World.ownsRow.lt x.1 g1 rfl).2;omega⟩),fun h=>ycu ((pj15 HH.out) (fun h2=>h h2.fwd)) yap,fun h=>ylx,Bb hns,fun h=>EnvI.below ((pj18 HH.out) (fun h2=>h h2.fwd)) yap,fun h=>.inr (World.ownsRow_lit W _ 1 V0.size Zq13 rfl),fun h=>(((pe20 HH.out) (fun h2=>h h2.fwd))).imp id (fun h=>yat h yap)⟩
    ·clear hi HCL
     simp only[zA,zB,zC]
     refine yaa rfl rfl fun K hK=>?_
     go_wp2_with fail
     rw[HJ0.out]
     exact ⟨g0,gL,Ax,cx,vq,A2,c2,g1,Az,cz,x108,x109,.pointer (some ⟨E,0,none⟩),x111,x112,x113,x114,x115,x116,x117,x118,x6,(by simp only[zA,zB,zC]),zT HH⟩
    ·clear hi HCL
     simp only[zA,zB,zC]
     refine yaa rfl rfl fun K hK=>?_
     go_wp2_with fail
     rw[HJ0.out]
     exact ⟨g0,gL,Ax,cx,vq,A2,c2,g1,Az,cz,x108,x109,x110,.pointer (some ⟨X,4,none⟩),x112,x113,x114,x115,x116,x117,x118,x6,(by simp only[zA,zB,zC]),zT HH⟩
    ·have hns:¬ Ls Lz 10:=fun h=>hnl (dq HCL (dq HCL (dq HCL h 7) 6) 4)
     have D3:=(pj3 HH.out) (rq hi 3)
     have V0:=(pj15 HH.out) hns
     have V1:=(pj16 HH.out) hns
     have hnla:¬ Ls Lz 11:=fun h=>hns (HCL.out.dep2 h 10 Zq8)
     clear hi HCL
     simp only[zA,zB,zC,D3]
     have q0:=yby V0 lX2 hXE hvX p4
     refine yaa rfl rfl fun K hK=>?_
     go_wp2_with fail
     rw[HJ0.out]
     exact ⟨g0,gL,Ax,cx,vq,A2,c2,g1,Az,cz,x108,x109,x110,x111,.slice Ab nb cb,x113,x114,x115,x116,x117,x118,x6,(by simp only[zA,zB,zC,D3]),zT HH⟩
    ·clear hi HCL
     simp only[zA,zB,zC]
     refine yaa rfl rfl fun K hK=>?_
     go_wp2_with fail
     rw[HJ0.out]
     exact ⟨g0,gL,Ax,cx,vq,A2,c2,g1,Az,cz,x108,x109,x110,x111,x112,.slice Ay (names.length+1) cy,x114,x115,x116,x117,x118,x6,(by simp only[zA,zB,zC]),zT HH⟩
    ·have hns:¬ Ls Lz 10:=fun h=>hnl (dq HCL (dq HCL h 7) 6)
     have D2:=(pj2 HH.out) (rq hi 2)
     have D4:=(pj4 HH.out) (rq hi 4)
     have D5:=(pj5 HH.out) (rq hi 5)
     have V0:=(pj15 HH.out) hns
     have V1:=(pj16 HH.out) hns
     have hk7:¬ Ls Lz 7:=fun h=>hnl (dq HCL h 6)
     have hnla:¬ Ls Lz 11:=fun h=>hns (HCL.out.dep2 h 10 Zq8)
     have Hh0:=(pj18 HH.out) hnl
     clear hi HCL
     simp only[zA,zB,zC,D2,D4,D5]
     refine yaa rfl rfl fun K hK=>?_
     go_wp2_with fail
     refine(HALL.out W V0 Hh0).mono ?_
     rintro e1 y ⟨v7,vb7,rfl,ho,hen,hm,hmv⟩
     obtain ⟨A7,c7,rfl,_,_,_⟩:=yah ho
     go_wp2_with fail
     rw[HJ0.out]
     exact ⟨g0,1,A7,c7,vb7,A2,c2,g1,Az,cz,x108,x109,x110,x111,x112,x113,.slice A7 R.1.length c7,x115,x116,x117,x118,x6,(by simp only[zA,zB,zC,D2,D4,D5]),zk HH,zk HH,zk HH,zk HH,zk HH,zk HH,fun _=>⟨rfl,by decide⟩,Ba hk7,zk HH,zk HH,zk HH,Ba hnla,fun _ _=>⟨hen,Mv.refl.trans hmv V0.size⟩,Bb hk7,(Bt (pj14 HH.out) fun x=>⟨yjy x.1 hm (fun q=>by have:=ybe x.1 E q;omega) (fun k hk q=>by have h1:=ybe x.1 k hk;have h2:=(HVB.out k q).2;omega),x.2⟩),fun h=>Mod.trans ((pj15 HH.out) (fun h2=>h h2.fwd)) hm (.inl rfl),fun h=>Nat.lt_of_lt_of_le ((pj16 HH.out) (fun h2=>h h2.fwd)) (hm).size,Bb hns,zy hnow,fun h=>(((pj19 HH.out) (fun h2=>h h2.fwd))).imp id (fun h=>yjy h hm (fun q=>by have:=ybe h E q;omega) (fun k hk q=>by have h1:=ybe h k hk;have h2:=(HVB.out k q).2;omega)),fun h=>.inr (ybd ho V0.size)⟩
    ·have hns:¬ Ls Lz 10:=fun h=>hnl (dq HCL h 7)
     have D1:=(pj1 HH.out) (rq hi 1)
     have D6:=(pj6 HH.out) (rq hi 6)
     have E6:=(pj12 HH.out) (rq hi 6) hns
     have V0:=(pj15 HH.out) hns
     have V1:=(pj16 HH.out) hns
     have hnla:¬ Ls Lz 11:=fun h=>hns (HCL.out.dep2 h 10 Zq8)
     have hp6:Ls Lz 6:=(rq hi 6)
     have Hh1:=(pj19 HH.out) hnl
     have Hh2:=(pe20 HH.out) hnl
     clear hi HCL
     obtain ⟨D1,X1⟩:=D1
     obtain ⟨D6,X6⟩:=D6
     simp only[zA,zB,zC,D1,D6]
     have hown0:=Hh1.resolve_left X1
     have hrow0:=Hh2.resolve_left X6
     have rr:=ybv hrow0
     refine yaa rfl rfl fun K hK=>?_
     simp only[List.getElem_toArray,List.getElem_cons_succ,List.getElem_cons_zero]
     refine yae _ rfl _ _ 38 rfl w2.heap.size 104 i0 _ 8 64 Tryz.underlying38 hi hz0 hz1 hz2 rfl Zq9 _ _ _ rfl hown0 _ R.1.length _ _ rfl rr ?c2 ?c3 ?c4 ?c5 ?_
     case c2=>exact yed ydt R.1
     case c3=>simp only[maxLen];have:=HRL.out;omega
     case c4=>have:=HRL.out;omega
     case c5=>exact V0.size
     intro v6 W6 own6 gr6 hat
     obtain ⟨A8,c8,rfl,_,_,_⟩:=yah own6
     go_wp2_with fail
     rw[HJ0.out]
     exact ⟨g0,gL,Ax,cx,vq,A8,c8,g1,Az,cz,x108,x109,x110,x111,x112,x113,x114,.slice A8 (1+R.1.length) c8,x116,x117,x118,x6,(by first|(simp only[zA,zB,zC,D1,D6] <;> fail)|simp only[Act.put,zA,zB,zC,D1,D6]),zk HH,zk HH,zk HH,zk HH,zk HH,zk HH,zk HH,fun _=>rfl,zk HH,zk HH,zk HH,Ba hnla,(Bt (pj12 HH.out) fun x=>⟨EnvI.grown x.1 gr6 (fun q=>by have:=ybe hown0 E q;omega) (yg9 hown0 x.1.2),x.2⟩),fun _ _=>own6,(Bt (pj14 HH.out) fun x=>⟨World.ownsRow.kept x.1 gr6 (.inr (fun q=>by injection q with q;exact x.2 q)),x.2⟩),fun h=>ygu ((pj15 HH.out) (fun h2=>h h2.fwd)) gr6 (ybe hown0),fun h=>Nat.lt_of_lt_of_le ((pj16 HH.out) (fun h2=>h h2.fwd)) (gr6).size,Bb hns,fun h=>absurd (Ls.fwd hp6) h,zy hnow,zy hnow⟩
    ·have hns:¬ Ls Lz 10:=fun h=>hnl (dq HCL (dq HCL h 9) 8)
     have V0:=(pj15 HH.out) hns
     have V1:=(pj16 HH.out) hns
     have hnla:¬ Ls Lz 11:=fun h=>hns (HCL.out.dep2 h 10 Zq8)
     clear hi HCL
     simp only[zA,zB,zC]
     have q0:=yby V0 lC2 hCE hvC m0
     have q1:=yby V0 lC2 hCE hvC m1
     have q2:=yby V0 lC2 hCE hvC m2
     have q3:=yby V0 lC2 hCE hvC m3
     have q4:=yby V0 lC2 hCE hvC m4
     have q5:=yby V0 lC2 hCE hvC m5
     have q6:=yby V0 lC2 hCE hvC m6
     have q7:=yby V0 lC2 hCE hvC m7
     refine yaa rfl rfl fun K hK=>?_
     go_wp2_with fail
     rw[HJ0.out]
     exact ⟨g0,gL,Ax,cx,vq,A2,c2,g1,Az,cz,x108,x109,x110,x111,x112,x113,x114,x115,.agg #[.int .i64 3,.int .i64 0,.int .i64 0,.int .i64 0,.int .i64 0,.int .i64 (names.length:Int),.int .i64 0,.int .i64 0],x117,x118,x6,(by simp only[zA,zB,zC]),zT HH⟩
    ·have hns:¬ Ls Lz 10:=fun h=>hnl (dq HCL h 9)
     have D8:=(pj8 HH.out) (rq hi 8)
     have V0:=(pj15 HH.out) hns
     have V1:=(pj16 HH.out) hns
     have hnla:¬ Ls Lz 11:=fun h=>hns (HCL.out.dep2 h 10 Zq8)
     clear hi HCL
     simp only[zA,zB,zC,D8]
     refine yaa rfl rfl fun K hK=>?_
     go_wp2_with fail
     rw[HJ0.out]
     exact ⟨g0,gL,Ax,cx,vq,A2,c2,W.heap.size,Az,cz,x108,x109,x110,x111,x112,x113,x114,x115,x116,.slice (some ⟨W.heap.size,0,none⟩) 1 1,x118,x6,(by simp only[zA,zB,zC,D8]),zk HH,zk HH,zk HH,zk HH,zk HH,zk HH,zk HH,zk HH,zk HH,fun _=>rfl,zk HH,Ba hnla,(Bt (pj12 HH.out) fun x=>⟨EnvI.below x.1 yap,x.2⟩),(Bt (pj13 HH.out) fun x=>yat x yap),fun _ _=>⟨World.ownsRow_lit W _ 1 V0.size Zq13 rfl,fun q=>by have:=V1;omega⟩,fun h=>ycu ((pj15 HH.out) (fun h2=>h h2.fwd)) yap,fun h=>Nat.lt_of_lt_of_le ((pj16 HH.out) (fun h2=>h h2.fwd)) (yap).size,Bb hns,fun h=>EnvI.below ((pj18 HH.out) (fun h2=>h h2.fwd)) yap,fun h=>(((pj19 HH.out) (fun h2=>h h2.fwd))).imp id (fun h=>yat h yap),fun h=>(((pe20 HH.out) (fun h2=>h h2.fwd))).imp id (fun h=>yat h yap)⟩
    ·have hns:¬ Ls Lz 10:=hnl
     have D7:=(pj7 HH.out) (rq hi 7)
     have E7:=(pj13 HH.out) (rq hi 7) hns
     have D9:=(pj9 HH.out) (rq hi 9)
     have E9:=(pj14 HH.out) (rq hi 9) hns
     have E6:=(pj12 HH.out) (dq HCL (rq hi 7) 6) hns
     have V0:=(pj15 HH.out) hns
     have V1:=(pj16 HH.out) hns
     have hnla:¬ Ls Lz 11:=fun h=>hns (HCL.out.dep2 h 10 Zq8)
     have hp6:Ls Lz 6:=(dq HCL (rq hi 7) 6)
     have hp7:Ls Lz 7:=(rq hi 7)
     have hp7:Ls Lz 7:=(rq hi 7)
     clear hi HCL
     simp only[zA,zB,zC,D7,D9]
     have rr:=ybv E9.1
     refine yaa rfl rfl fun K hK=>?_
     simp only[List.getElem_toArray,List.getElem_cons_succ,List.getElem_cons_zero]
     refine yae _ rfl _ _ 38 rfl w2.heap.size 104 i0 _ 8 64 Tryz.underlying38 hi hz0 hz1 hz2 rfl Zq9 _ _ _ rfl E7 _ 1 _ _ rfl rr ?c2 ?c3 ?c4 ?c5 ?_
     case c2=>exact yt8 _
     case c3=>simp only[maxLen];have:=HRL.out;omega
     case c4=>have:=HRL.out;omega
     case c5=>exact V0.size
     intro v6 W6 own6 gr6 hat
     obtain ⟨A8,c8,rfl,_,_,_⟩:=yah own6
     go_wp2_with fail
     rw[HJ0.out]
     exact ⟨g0,gL,Ax,cx,vq,A2,c2,g1,A8,c8,x108,x109,x110,x111,x112,x113,x114,x115,x116,x117,.slice A8 (1+R.1.length+1) c8,x6,(by first|(simp only[zA,zB,zC,D7,D9] <;> fail)|simp only[Act.put,zA,zB,zC,D7,D9]),zk HH,zk HH,zk HH,zk HH,zk HH,zk HH,zk HH,zk HH,zk HH,zk HH,fun _=>rfl,Ba hnla,zx hnow,zx hnow,zx hnow,zy hnow,zy hnow,fun _ _=>⟨own6,EnvI.grown E6.1 gr6 (fun q=>by have:=ybe E7 E q;omega) (yg9 E7 E6.1.2),E6.2,ygu V0 gr6 (ybe E7)⟩,fun h=>absurd (Ls.fwd hp6) h,fun h=>absurd (Ls.fwd hp7) h,fun h=>absurd (Ls.fwd hp7) h⟩
    ·have D10:=(pj10 HH.out) (rq hi 10)
     have HST:=rq hi 10
     have VL:=(pj17 HH.out) HST hnl
     clear hi HCL
     simp only[zA,zB,zC,D10]
     refine yaa rfl rfl fun K hK=>?_
     go_wp2_with fail
     rw[HJ0.out]
     exact ⟨g0,gL,Ax,cx,vq,A2,c2,g1,Az,cz,x108,x109,x110,x111,x112,x113,x114,x115,x116,x117,x118,.slice Az (1+R.1.length+1) cz,(by simp only[zA,zB,zC,D10]),zk HH,zk HH,zk HH,zk HH,zk HH,zk HH,zk HH,zk HH,zk HH,zk HH,zk HH,fun _=>⟨rfl,VL⟩,zx (Ls.fwd HST),zx (Ls.fwd HST),zx (Ls.fwd HST),zy (Ls.fwd HST),zy (Ls.fwd HST),zx hnow,zi HH,zi HH,zi HH⟩
   ·intro Lz a W hsize hJ hr
    rw[HJ0.out] at hJ
    have hall:=yfm hsize Zq8 hr
    obtain ⟨g0,gL,Ax,cx,vq,A2,c2,g1,Az,cz,x108,x109,x110,x111,x112,x113,x114,x115,x116,x117,x118,x6,rfl,HF⟩:=hJ
    have HH:=hD HF
    have HEND:=(pj11 HH.out) (hall 11 Zq9)
    clear HF HH hall hr hsize
    simp only[zA,zB,zC]
    obtain ⟨rfl,ho,hen,hmv,hm⟩:=HEND
    obtain ⟨w3,rfl⟩:∃ w3:World,w3=W:=⟨_,rfl⟩
    have HO:=hD ho
    have HE:=hD hen
    have HMM:=hD hm
    clear ho hen hm
    go_wp2_with fail
    go_ret
    refine ⟨.slice Az (1+R.1.length+1) cz,vq,rfl,?_,by rw[HF.out];exact HE.out,MW.out.trans ((Mod.of_below _ _ HB02.out).trans HMM.out (.inl rfl)) (.inl rfl),Mv.refl.trans hmv (Nat.le_trans hs0 hs02)⟩
    rw[HF.out]
    have h9:=ybd HO.out (show w.heap.size≤w2.heap.size by omega)
    have e1:([ybc names.length]++R.1++[ybc names.length]).length=1+R.1.length+1:=by simp;omega
    have e2:([ybc names.length]++R.1++[ybc names.length]).flatMap yan=yan (ybc names.length)++R.1.flatMap yan++yan (ybc names.length):=by simp
    show World.ownsRow _ _ _ _ _ ([ybc names.length]++R.1++[ybc names.length]).length (([ybc names.length]++R.1++[ybc names.length]).flatMap yan)
    rw[e1,e2]
    exact h9
 ·have hal:0<h.args.length:=by have h1:=(ybp HV.out).2.1;rw[hk] at h1;have h2:yar 6 h.word=2:=Zq14;omega
  obtain ⟨b,off,rfl,hbP,hb0,hbc⟩:=RA0.out.2 hal
  have hbE:b≠E:=fun e=>hP (e▸hbP)
  have hvb:vb.ownBlock≠some b:=fun e=>HPV.out b e hbP
  obtain ⟨a0,hA0⟩:∃ a0,a0=arg0 h:=⟨_,rfl⟩
  have HA0:=hD hA0
  have c0:w0.cell? ⟨b,off,none⟩=some (.string a0):=hbc 0 _ (by unfold strs;rw[List.getElem?_map,yc3 hal,hA0];rfl)
  clear hA0
  have hal2:1<h.args.length:=by have h1:=(ybp HV.out).2.1;rw[hk] at h1;have h2:yar 6 h.word=2:=Zq14;omega
  obtain ⟨a1,hA1⟩:∃ a1,a1=arg1 h:=⟨_,rfl⟩
  have c1:w0.cell? ⟨b,off+1,none⟩=some (.string a1):=hbc 1 _ (by unfold strs;rw[List.getElem?_map,yiq hal2,hA1];rfl)
  obtain ⟨q0i,hQ⟩:∃ q,q=ixI names a0:=⟨_,rfl⟩
  have HQ:=hD hQ
  obtain ⟨nbb,hnbb⟩:∃ n,n=e.bits.length:=⟨_,rfl⟩
  have HF:Hid (iS (iA d) h bd names e=([yev q0i nbb],⟨e.bits++[a1],e.most,e.bad⟩)):=by show _=_;rw[iS_6 hk,hQ,HA0.out,hA1,hnbb]
  have HBL:=hD hnbb
  have ho0:=EN0.out.2
  rw[←hnbb] at ho0
  obtain ⟨Bn,cbb,rfl,_,_,_⟩:=yah ho0
  have BI0:=hD ho0
  have HH0:=hD EN0.out.1
  have z0:=yaj (j:=0) EN0.out.1 rfl
  have hbb:nbb≤1048576:=by have:=HSZ.out;omega
  clear hQ hA1 hnbb ho0
  have e1:(h.k==1)=false:=by rw[hk];decide
  have e2:(h.k==2)=false:=by rw[hk];decide
  have e3:(h.k==3)=false:=by rw[hk];decide
  have e4:(h.k==4)=false:=by rw[hk];decide
  have e5:(h.k==5)=false:=by rw[hk];decide
  have e6:(h.k==6)=true:=by rw[hk];decide
  clear hk hall hnb
  go_upto_region 23 with (fail)
  rw[←HW0.out,←HX.out]
  obtain ⟨J0,hJ0⟩:∃ J:Array Value→Array Bool→Act→World→Prop,J=(fun A0 Lz a W=>∃ (g0:Nat) (Ay:Option Addr) (cy:Nat),∃ x121 x122 x123 x124 x125 x126 x127 x128 x129 x130 x131 x132 x133:Value,a=⟨(((((((((((((A0.setIfInBounds 121 x121).setIfInBounds 122 x122).setIfInBounds 123 x123).setIfInBounds 124 x124).setIfInBounds 125 x125).setIfInBounds 126 x126).setIfInBounds 127 x127).setIfInBounds 128 x128).setIfInBounds 129 x129).setIfInBounds 130 x130).setIfInBounds 131 x131).setIfInBounds 132 x132).setIfInBounds 133 x133),[]⟩∧(Ls Lz 0→x121=.pointer (some ⟨E,0,none⟩))∧(Ls Lz 1→x122=.pointer (some ⟨E,0,none⟩))∧(Ls Lz 2→x123=.pointer (some ⟨E,0,none⟩))∧(Ls Lz 3→x124=.pointer (some ⟨E,0,none⟩))∧(Ls Lz 4→x125=.slice Bn nbb cbb)∧(Ls Lz 5→x126=.pointer (some ⟨X,2,none⟩))∧(Ls Lz 6→x127=.slice (some ⟨b,off,none⟩) h.args.length ca)∧(Ls Lz 7→x128=.pointer (some ⟨b,off+1,none⟩))∧(Ls Lz 8→x129=.string a1)∧(Ls Lz 9→x130=.slice (some ⟨g0,0,none⟩) 1 1)∧(Ls Lz 10→x131=.slice Ay (nbb+1) cy)∧(Ls Lz 11→x132=.pointer (some ⟨E,0,none⟩))∧(Ls Lz 12→x133=.pointer (some ⟨E,0,none⟩))∧(Ls Lz 13→(W.heap[E]?=some (.cells #[.slice Ay (nbb+1) cy,.int .i64 (e.most:Int),.bool e.bad] 89 (0,0))∧(W.ownsRow B 9 1 (.slice Ay (nbb+1) cy) (nbb+1) (strs e.bits++[.string a1])∧Mv w0 (.slice Bn nbb cbb) (.slice Ay (nbb+1) cy))∧Mod E (.slice Bn nbb cbb:Value).ownBlock w0 W))∧(Ls Lz 9→¬ Ls Lz 13→W.ownsRow w0.heap.size 9 1 (.slice (some ⟨g0,0,none⟩) 1 1) 1 [.string a1])∧(Ls Lz 10→¬ Ls Lz 13→(W.ownsRow B 9 1 (.slice Ay (nbb+1) cy) (nbb+1) (strs e.bits++[.string a1])∧Mv w0 (.slice Bn nbb cbb) (.slice Ay (nbb+1) cy)))∧(¬ Ls Lz 13→Mod E (.slice Bn nbb cbb:Value).ownBlock w0 W)∧(¬ Ls Lz 13→W.heap[E]?=some (.cells #[.slice Bn nbb cbb,.int .i64 (e.most:Int),.bool e.bad] 89 (0,0)))∧(Ls Lz 13→¬ Ls Lz 13→True)∧(¬ Ls Lz 10→W.ownsRow B 9 1 (.slice Bn nbb cbb) nbb (strs e.bits))):=⟨_,rfl⟩
  have HJ0:=hD hJ0
  clear hJ0
  refine ya3 Zq8 J0 ?_ ?_ ?_
  ·intro A0
   rw[HJ0.out]
   exact ⟨0,none,0,A0.getD 121 undef,A0.getD 122 undef,A0.getD 123 undef,A0.getD 124 undef,A0.getD 125 undef,A0.getD 126 undef,A0.getD 127 undef,A0.getD 128 undef,A0.getD 129 undef,A0.getD 130 undef,A0.getD 131 undef,A0.getD 132 undef,A0.getD 133 undef,by simp only[ybm],zn,zn,zn,zn,zn,zn,zn,zn,zn,zn,zn,zn,zn,zn,zn,zn,fun _=>Mod.of_below _ _ (ycb (Below.refl _ _)),fun _=>HH0.out,zn,fun _=>BI0.out⟩
  ·intro Lz a W hsize hcl hJ i hi
   have hil:=ybn hi
   have hnl:=ybi hi
   have hnow:=ybh hi hsize
   have HCL:=hD hcl
   rw[HJ0.out] at hJ
   obtain ⟨g0,Ay,cy,x121,x122,x123,x124,x125,x126,x127,x128,x129,x130,x131,x132,x133,rfl,HF⟩:=hJ
   have HH:=hD HF
   have hi2:i=0∨i=1∨i=2∨i=3∨i=4∨i=5∨i=6∨i=7∨i=8∨i=9∨i=10∨i=11∨i=12∨i=13:=by simp at hil;omega
   clear hil hcl HF
   rcases hi2 with rfl|rfl|rfl|rfl|rfl|rfl|rfl|rfl|rfl|rfl|rfl|rfl|rfl|rfl
   ·clear hi HCL
    simp only[zA,zB,zC]
    refine yaa rfl rfl fun K hK=>?_
    go_wp2_with fail
    rw[HJ0.out]
    exact ⟨g0,Ay,cy,.pointer (some ⟨E,0,none⟩),x122,x123,x124,x125,x126,x127,x128,x129,x130,x131,x132,x133,(by simp only[zA,zB,zC]),zT HH⟩
   ·clear hi HCL
    simp only[zA,zB,zC]
    refine yaa rfl rfl fun K hK=>?_
    go_wp2_with fail
    rw[HJ0.out]
    exact ⟨g0,Ay,cy,x121,.pointer (some ⟨E,0,none⟩),x123,x124,x125,x126,x127,x128,x129,x130,x131,x132,x133,(by simp only[zA,zB,zC]),zT HH⟩
   ·have D1:=(pj1 HH.out) (rq hi 1)
    clear hi HCL
    simp only[zA,zB,zC,D1]
    refine yaa rfl rfl fun K hK=>?_
    go_wp2_with fail
    rw[HJ0.out]
    exact ⟨g0,Ay,cy,x121,x122,.pointer (some ⟨E,0,none⟩),x124,x125,x126,x127,x128,x129,x130,x131,x132,x133,(by simp only[zA,zB,zC,D1]),zT HH⟩
   ·have D2:=(pj2 HH.out) (rq hi 2)
    clear hi HCL
    simp only[zA,zB,zC,D2]
    refine yaa rfl rfl fun K hK=>?_
    go_wp2_with fail
    rw[HJ0.out]
    exact ⟨g0,Ay,cy,x121,x122,x123,.pointer (some ⟨E,0,none⟩),x125,x126,x127,x128,x129,x130,x131,x132,x133,(by simp only[zA,zB,zC,D2]),zT HH⟩
   ·have hns:¬ Ls Lz 13:=fun h=>hnl (dq HCL (dq HCL h 10) 4)
    have D3:=(pj3 HH.out) (rq hi 3)
    have V0:=(pj16 HH.out) hns
    have V1:=(pj17 HH.out) hns
    clear hi HCL
    simp only[zA,zB,zC,D3]
    have hE9:=V1
    have q0:=yaj (j:=0) hE9 rfl
    clear hE9
    refine yaa rfl rfl fun K hK=>?_
    go_wp2_with fail
    rw[HJ0.out]
    exact ⟨g0,Ay,cy,x121,x122,x123,x124,.slice Bn nbb cbb,x126,x127,x128,x129,x130,x131,x132,x133,(by simp only[zA,zB,zC,D3]),zT HH⟩
   ·clear hi HCL
    simp only[zA,zB,zC]
    refine yaa rfl rfl fun K hK=>?_
    go_wp2_with fail
    rw[HJ0.out]
    exact ⟨g0,Ay,cy,x121,x122,x123,x124,x125,.pointer (some ⟨X,2,none⟩),x127,x128,x129,x130,x131,x132,x133,(by simp only[zA,zB,zC]),zT HH⟩
   ·have hns:¬ Ls Lz 13:=fun h=>hnl (dq HCL (dq HCL (dq HCL (dq HCL (dq HCL h 10) 9) 8) 7) 6)
    have D5:=(pj5 HH.out) (rq hi 5)
    have V0:=(pj16 HH.out) hns
    have V1:=(pj17 HH.out) hns
    clear hi HCL
    simp only[zA,zB,zC,D5]
    have q0:=yby V0 hX0 hXE hvX k2
    refine yaa rfl rfl fun K hK=>?_
    go_wp2_with fail
    rw[HJ0.out]
    exact ⟨g0,Ay,cy,x121,x122,x123,x124,x125,x126,.slice (some ⟨b,off,none⟩) h.args.length ca,x128,x129,x130,x131,x132,x133,(by simp only[zA,zB,zC,D5]),zT HH⟩
   ·have D6:=(pj6 HH.out) (rq hi 6)
    clear hi HCL
    simp only[zA,zB,zC,D6]
    refine yaa rfl rfl fun K hK=>?_
    go_wp2_with fail
    rw[HJ0.out]
    exact ⟨g0,Ay,cy,x121,x122,x123,x124,x125,x126,x127,.pointer (some ⟨b,off+1,none⟩),x129,x130,x131,x132,x133,(by simp only[zA,zB,zC,D6]),zT HH⟩
   ·have hns:¬ Ls Lz 13:=fun h=>hnl (dq HCL (dq HCL (dq HCL h 10) 9) 8)
    have D7:=(pj7 HH.out) (rq hi 7)
    have V0:=(pj16 HH.out) hns
    have V1:=(pj17 HH.out) hns
    clear hi HCL
    simp only[zA,zB,zC,D7]
    have q0:=yby V0 hb0 hbE hvb c1
    refine yaa rfl rfl fun K hK=>?_
    go_wp2_with fail
    rw[HJ0.out]
    exact ⟨g0,Ay,cy,x121,x122,x123,x124,x125,x126,x127,x128,.string a1,x130,x131,x132,x133,(by simp only[zA,zB,zC,D7]),zT HH⟩
   ·have hns:¬ Ls Lz 13:=fun h=>hnl (dq HCL (dq HCL h 10) 9)
    have D8:=(pj8 HH.out) (rq hi 8)
    have V0:=(pj16 HH.out) hns
    have V1:=(pj17 HH.out) hns
    clear hi HCL
    simp only[zA,zB,zC,D8]
    refine yaa rfl rfl fun K hK=>?_
    go_wp2_with fail
    rw[HJ0.out]
    exact ⟨W.heap.size,Ay,cy,x121,x122,x123,x124,x125,x126,x127,x128,x129,.slice (some ⟨W.heap.size,0,none⟩) 1 1,x131,x132,x133,(by simp only[zA,zB,zC,D8]),zk HH,zk HH,zk HH,zk HH,zk HH,zk HH,zk HH,zk HH,zk HH,fun _=>rfl,zk HH,zk HH,zk HH,Ba hns,fun _ _=>World.ownsRow_lit W _ 1 V0.size Zq13 rfl,(Bt (pj15 HH.out) fun x=>⟨yat x.1 yap,x.2⟩),fun h=>ycu ((pj16 HH.out) (fun h2=>h h2.fwd)) yap,fun h=>(yap.block E (lt_of_block ((pj17 HH.out) (fun h2=>h h2.fwd)))).trans ((pj17 HH.out) (fun h2=>h h2.fwd)),Bb hns,fun h=>yat ((pe19 HH.out) (fun h2=>h h2.fwd)) yap⟩
   ·have hns:¬ Ls Lz 13:=fun h=>hnl (dq HCL h 10)
    have D4:=(pj4 HH.out) (rq hi 4)
    have D9:=(pj9 HH.out) (rq hi 9)
    have E9:=(pj14 HH.out) (rq hi 9) hns
    have V0:=(pj16 HH.out) hns
    have V1:=(pj17 HH.out) hns
    have Hh0:=(pe19 HH.out) hnl
    clear hi HCL
    simp only[zA,zB,zC,D4,D9]
    have rr:=ybv E9
    refine yaa rfl rfl fun K hK=>?_
    simp only[List.getElem_toArray,List.getElem_cons_succ,List.getElem_cons_zero]
    refine yae _ rfl _ _ 24 rfl B 9 j0 _ 1 16 Tryz.underlying24 hj hy0 hy1 hy2 rfl Zq9 _ _ _ rfl Hh0 _ 1 _ _ rfl rr ?c2 ?c3 ?c4 ?c5 ?_
    case c2=>exact yhj _
    case c3=>simp only[maxLen];omega
    case c4=>omega
    case c5=>exact Nat.le_trans hBw V0.size
    intro v6 W6 own6 gr6 hat
    obtain ⟨A8,c8,rfl,_,_,_⟩:=yah own6
    go_wp2_with fail
    rw[HJ0.out]
    exact ⟨g0,A8,c8,x121,x122,x123,x124,x125,x126,x127,x128,x129,x130,.slice A8 (nbb+1) c8,x132,x133,(by first|(simp only[zA,zB,zC,D4,D9] <;> fail)|simp only[Act.put,zA,zB,zC,D4,D9]),zk HH,zk HH,zk HH,zk HH,zk HH,zk HH,zk HH,zk HH,zk HH,zk HH,fun _=>rfl,zk HH,zk HH,Ba hns,(Bt (pj14 HH.out) fun x=>World.ownsRow.kept x gr6 (.inr (fun q=>by have h1:=(HVB.out g0 q.symm).2;have h2:=(World.ownsRow.lt x g0 rfl).1;omega))),fun _ _=>⟨own6,hat.imp id (fun h=>⟨_,h,V0.size⟩)⟩,fun h=>Mod.trans ((pj16 HH.out) (fun h2=>h h2.fwd)) (Mod.grown gr6) (.inl rfl),fun h=>(gr6.block E (lt_of_block ((pj17 HH.out) (fun h2=>h h2.fwd))) (fun q=>hvE q.symm)).trans ((pj17 HH.out) (fun h2=>h h2.fwd)),Bb hns,zy hnow⟩
   ·have D0:=(pj0 HH.out) (rq hi 0)
    clear hi HCL
    simp only[zA,zB,zC,D0]
    refine yaa rfl rfl fun K hK=>?_
    go_wp2_with fail
    rw[HJ0.out]
    exact ⟨g0,Ay,cy,x121,x122,x123,x124,x125,x126,x127,x128,x129,x130,x131,.pointer (some ⟨E,0,none⟩),x133,(by simp only[zA,zB,zC,D0]),zT HH⟩
   ·have D11:=(pj11 HH.out) (rq hi 11)
    clear hi HCL
    simp only[zA,zB,zC,D11]
    refine yaa rfl rfl fun K hK=>?_
    go_wp2_with fail
    rw[HJ0.out]
    exact ⟨g0,Ay,cy,x121,x122,x123,x124,x125,x126,x127,x128,x129,x130,x131,x132,.pointer (some ⟨E,0,none⟩),(by simp only[zA,zB,zC,D11]),zT HH⟩
   ·have hns:¬ Ls Lz 13:=hnl
    have D10:=(pj10 HH.out) (rq hi 10)
    have E10:=(pj15 HH.out) (rq hi 10) hns
    have D12:=(pj12 HH.out) (rq hi 12)
    have V0:=(pj16 HH.out) hns
    have V1:=(pj17 HH.out) hns
    have hp10:Ls Lz 10:=(rq hi 10)
    clear hi HCL
    simp only[zA,zB,zC,D10,D12]
    have hE9:=V1
    have q1:=yaj (j:=0) hE9 rfl
    have f1:=yab (j:=0) hE9
    have lE:=lt_of_block hE9
    have HE9:=hD hE9
    clear hE9
    refine yaa rfl rfl fun K hK=>?_
    go_wp2_with fail
    rw[HJ0.out]
    exact ⟨g0,Ay,cy,x121,x122,x123,x124,x125,x126,x127,x128,x129,x130,x131,x132,x133,(by first|(simp only[zA,zB,zC,D10,D12] <;> fail)|simp only[Act.put,zA,zB,zC,D10,D12]),zk HH,zk HH,zk HH,zk HH,zk HH,zk HH,zk HH,zk HH,zk HH,zk HH,zk HH,zk HH,zk HH,fun _=>⟨ya1 HE9.out _,⟨yc8 E10.1 (fun q=>by have:=ybe E10.1 E q;omega) _,E10.2⟩,V0.set (.inl rfl) _⟩,zx hnow,zx hnow,zy hnow,zy hnow,zx hnow,fun h=>absurd (Ls.fwd hp10) h⟩
  ·intro Lz a W hsize hJ hr
   rw[HJ0.out] at hJ
   have hall:=ybj hsize Zq8 hr
   obtain ⟨g0,Ay,cy,x121,x122,x123,x124,x125,x126,x127,x128,x129,x130,x131,x132,x133,rfl,HF⟩:=hJ
   have HH:=hD HF
   have HEND:=(pj13 HH.out) (hall 13 Zq9)
   clear HF HH hall hr hsize
   simp only[zA,zB,zC]
   obtain ⟨hh1,⟨ho1,hmv1⟩,hm1⟩:=HEND
   obtain ⟨w1,rfl⟩:∃ w1:World,w1=W:=⟨_,rfl⟩
   have hs1:=hm1.size
   have y0:=yaj (j:=0) hh1 rfl
   have p2:=yby hm1 hX0 hXE hvX k2
   have c0:=yby hm1 hb0 hbE hvb c0
   have NA1:=hD (yg8 NA0.out hm1 hP HPV.out)
   have HH1:=hD hh1
   have HO1:=hD ho1
   have HM1:=hD hm1
   have HMV:=hD hmv1
   have lE1:E<w1.heap.size:=by omega
   have lX1:X<w1.heap.size:=by omega
   have lb1:b<w1.heap.size:=by omega
   clear hh1 ho1 hm1 hmv1 z0 c1
   go_upto_region 24 with (fail)
   obtain ⟨J0,hJ0⟩:∃ J:Array Value→Array Bool→Act→World→Prop,J=(fun A0 Lz a W=>∃ (g0:Nat),∃ x134 x135 x136 x137 x138 x139 x140 x141 x142 x143 x144 x145 x146 x147 x6:Value,a=⟨(((((((((((((((A0.setIfInBounds 134 x134).setIfInBounds 135 x135).setIfInBounds 136 x136).setIfInBounds 137 x137).setIfInBounds 138 x138).setIfInBounds 139 x139).setIfInBounds 140 x140).setIfInBounds 141 x141).setIfInBounds 142 x142).setIfInBounds 143 x143).setIfInBounds 144 x144).setIfInBounds 145 x145).setIfInBounds 146 x146).setIfInBounds 147 x147).setIfInBounds 6 x6),[]⟩∧(Ls Lz 0→x134=.slice An names.length cn)∧(Ls Lz 1→x135=.pointer (some ⟨X,2,none⟩))∧(Ls Lz 2→x136=.slice (some ⟨b,off,none⟩) h.args.length ca)∧(Ls Lz 3→x137=.pointer (some ⟨b,off,none⟩))∧(Ls Lz 4→x138=.string a0)∧(Ls Lz 5→x139=.int .i64 q0i)∧(Ls Lz 6→x140=.pointer (some ⟨E,0,none⟩))∧(Ls Lz 7→x141=.pointer (some ⟨E,0,none⟩))∧(Ls Lz 8→x142=.pointer (some ⟨E,0,none⟩))∧(Ls Lz 9→x143=.slice Ay (nbb+1) cy)∧(Ls Lz 10→x144=.int .i64 ((nbb:Int)+1))∧(Ls Lz 11→x145=.int .i64 (nbb:Int))∧(Ls Lz 12→x146=.agg #[.int .i64 2,.int .i64 0,.int .i64 0,.int .i64 0,.int .i64 0,.int .i64 q0i,.int .i64 (nbb:Int),.int .i64 0])∧(Ls Lz 13→x147=.slice (some ⟨g0,0,none⟩) 1 1)∧(Ls Lz 14→(x6=.slice (some ⟨g0,0,none⟩) 1 1∧W.ownsRow w1.heap.size 104 8 (.slice (some ⟨g0,0,none⟩) 1 1) 1 (yan (yev q0i (nbb:Int)))∧Below w1.heap.size w1 W))∧(Ls Lz 13→¬ Ls Lz 14→W.ownsRow w1.heap.size 104 8 (.slice (some ⟨g0,0,none⟩) 1 1) 1 (yan (yev q0i (nbb:Int))))∧(¬ Ls Lz 14→Below w1.heap.size w1 W)∧(Ls Lz 14→¬ Ls Lz 14→True)):=⟨_,rfl⟩
   have HJ0:=hD hJ0
   clear hJ0
   refine ya3 Zq8 J0 ?_ ?_ ?_
   ·intro A0
    rw[HJ0.out]
    exact ⟨0,A0.getD 134 undef,A0.getD 135 undef,A0.getD 136 undef,A0.getD 137 undef,A0.getD 138 undef,A0.getD 139 undef,A0.getD 140 undef,A0.getD 141 undef,A0.getD 142 undef,A0.getD 143 undef,A0.getD 144 undef,A0.getD 145 undef,A0.getD 146 undef,A0.getD 147 undef,A0.getD 6 undef,by simp only[ybm],zn,zn,zn,zn,zn,zn,zn,zn,zn,zn,zn,zn,zn,zn,zn,zn,fun _=>ycb (Below.refl _ _),zn⟩
   ·intro Lz a W hsize hcl hJ i hi
    have hil:=ybn hi
    have hnl:=ybi hi
    have hnow:=ybh hi hsize
    have HCL:=hD hcl
    rw[HJ0.out] at hJ
    obtain ⟨g0,x134,x135,x136,x137,x138,x139,x140,x141,x142,x143,x144,x145,x146,x147,x6,rfl,HF⟩:=hJ
    have HH:=hD HF
    have hi2:i=0∨i=1∨i=2∨i=3∨i=4∨i=5∨i=6∨i=7∨i=8∨i=9∨i=10∨i=11∨i=12∨i=13∨i=14:=by simp at hil;omega
    clear hil hcl HF
    rcases hi2 with rfl|rfl|rfl|rfl|rfl|rfl|rfl|rfl|rfl|rfl|rfl|rfl|rfl|rfl|rfl
    ·clear hi HCL
     simp only[zA,zB,zC]
     refine yaa rfl rfl fun K hK=>?_
     go_wp2_with fail
     rw[HJ0.out]
     exact ⟨g0,.slice An names.length cn,x135,x136,x137,x138,x139,x140,x141,x142,x143,x144,x145,x146,x147,x6,(by simp only[zA,zB,zC]),zT HH⟩
    ·clear hi HCL
     simp only[zA,zB,zC]
     refine yaa rfl rfl fun K hK=>?_
     go_wp2_with fail
     rw[HJ0.out]
     exact ⟨g0,x134,.pointer (some ⟨X,2,none⟩),x136,x137,x138,x139,x140,x141,x142,x143,x144,x145,x146,x147,x6,(by simp only[zA,zB,zC]),zT HH⟩
    ·have hns:¬ Ls Lz 14:=fun h=>hnl (dq HCL (dq HCL (dq HCL (dq HCL (dq HCL (dq HCL h 13) 12) 5) 4) 3) 2)
     have D1:=(pj1 HH.out) (rq hi 1)
     have V0:=(pj16 HH.out) hns
     clear hi HCL
     simp only[zA,zB,zC,D1]
     have q0:=(V0.cell (p:=⟨X,2,none⟩) lX1).trans p2
     refine yaa rfl rfl fun K hK=>?_
     go_wp2_with fail
     rw[HJ0.out]
     exact ⟨g0,x134,x135,.slice (some ⟨b,off,none⟩) h.args.length ca,x137,x138,x139,x140,x141,x142,x143,x144,x145,x146,x147,x6,(by simp only[zA,zB,zC,D1]),zT HH⟩
    ·have D2:=(pj2 HH.out) (rq hi 2)
     clear hi HCL
     simp only[zA,zB,zC,D2]
     refine yaa rfl rfl fun K hK=>?_
     go_wp2_with fail
     rw[HJ0.out]
     exact ⟨g0,x134,x135,x136,.pointer (some ⟨b,off,none⟩),x138,x139,x140,x141,x142,x143,x144,x145,x146,x147,x6,(by simp only[zA,zB,zC,D2]),zT HH⟩
    ·have hns:¬ Ls Lz 14:=fun h=>hnl (dq HCL (dq HCL (dq HCL (dq HCL h 13) 12) 5) 4)
     have D3:=(pj3 HH.out) (rq hi 3)
     have V0:=(pj16 HH.out) hns
     clear hi HCL
     simp only[zA,zB,zC,D3]
     have q0:=(V0.cell (p:=⟨b,off,none⟩) lb1).trans c0
     refine yaa rfl rfl fun K hK=>?_
     go_wp2_with fail
     rw[HJ0.out]
     exact ⟨g0,x134,x135,x136,x137,.string a0,x139,x140,x141,x142,x143,x144,x145,x146,x147,x6,(by simp only[zA,zB,zC,D3]),zT HH⟩
    ·have hns:¬ Ls Lz 14:=fun h=>hnl (dq HCL (dq HCL (dq HCL h 13) 12) 5)
     have D0:=(pj0 HH.out) (rq hi 0)
     have D4:=(pj4 HH.out) (rq hi 4)
     have V0:=(pj16 HH.out) hns
     clear hi HCL
     simp only[zA,zB,zC,D0,D4]
     refine yaa rfl rfl fun K hK=>?_
     go_wp2_with fail
     refine(yd7 An names.length cn names a0 W (NA1.out.rd.below V0) rfl (by have:=HNM.out;omega)).mono ?_
     rintro e1 y ⟨rfl,rfl⟩
     rw[←HQ.out]
     go_wp2_with fail
     rw[HJ0.out]
     exact ⟨g0,x134,x135,x136,x137,x138,.int .i64 q0i,x140,x141,x142,x143,x144,x145,x146,x147,x6,(by simp only[zA,zB,zC,D0,D4]),zT HH⟩
    ·clear hi HCL
     simp only[zA,zB,zC]
     refine yaa rfl rfl fun K hK=>?_
     go_wp2_with fail
     rw[HJ0.out]
     exact ⟨g0,x134,x135,x136,x137,x138,x139,.pointer (some ⟨E,0,none⟩),x141,x142,x143,x144,x145,x146,x147,x6,(by simp only[zA,zB,zC]),zT HH⟩
    ·have D6:=(pj6 HH.out) (rq hi 6)
     clear hi HCL
     simp only[zA,zB,zC,D6]
     refine yaa rfl rfl fun K hK=>?_
     go_wp2_with fail
     rw[HJ0.out]
     exact ⟨g0,x134,x135,x136,x137,x138,x139,x140,.pointer (some ⟨E,0,none⟩),x142,x143,x144,x145,x146,x147,x6,(by simp only[zA,zB,zC,D6]),zT HH⟩
    ·have D7:=(pj7 HH.out) (rq hi 7)
     clear hi HCL
     simp only[zA,zB,zC,D7]
     refine yaa rfl rfl fun K hK=>?_
     go_wp2_with fail
     rw[HJ0.out]
     exact ⟨g0,x134,x135,x136,x137,x138,x139,x140,x141,.pointer (some ⟨E,0,none⟩),x143,x144,x145,x146,x147,x6,(by simp only[zA,zB,zC,D7]),zT HH⟩
    ·have hns:¬ Ls Lz 14:=fun h=>hnl (dq HCL (dq HCL (dq HCL (dq HCL (dq HCL h 13) 12) 11) 10) 9)
     have D8:=(pj8 HH.out) (rq hi 8)
     have V0:=(pj16 HH.out) hns
     clear hi HCL
     simp only[zA,zB,zC,D8]
     have q0:=(V0.cell (p:=⟨E,0,none⟩) lE1).trans y0
     refine yaa rfl rfl fun K hK=>?_
     go_wp2_with fail
     rw[HJ0.out]
     exact ⟨g0,x134,x135,x136,x137,x138,x139,x140,x141,x142,.slice Ay (nbb+1) cy,x144,x145,x146,x147,x6,(by simp only[zA,zB,zC,D8]),zT HH⟩
    ·have D9:=(pj9 HH.out) (rq hi 9)
     clear hi HCL
     simp only[zA,zB,zC,D9]
     refine yaa rfl rfl fun K hK=>?_
     go_wp2_with fail
     rw[HJ0.out]
     exact ⟨g0,x134,x135,x136,x137,x138,x139,x140,x141,x142,x143,.int .i64 ((nbb:Int)+1),x145,x146,x147,x6,(by simp only[zA,zB,zC,D9]),zT HH⟩
    ·have D10:=(pj10 HH.out) (rq hi 10)
     clear hi HCL
     simp only[zA,zB,zC,D10]
     refine yaa rfl rfl fun K hK=>?_
     go_wp2_with fail
     rw[HJ0.out]
     exact ⟨g0,x134,x135,x136,x137,x138,x139,x140,x141,x142,x143,x144,.int .i64 (nbb:Int),x146,x147,x6,(by simp only[zA,zB,zC,D10]),zT HH⟩
    ·have D5:=(pj5 HH.out) (rq hi 5)
     have D11:=(pj11 HH.out) (rq hi 11)
     clear hi HCL
     simp only[zA,zB,zC,D5,D11]
     refine yaa rfl rfl fun K hK=>?_
     go_wp2_with fail
     rw[HJ0.out]
     exact ⟨g0,x134,x135,x136,x137,x138,x139,x140,x141,x142,x143,x144,x145,.agg #[.int .i64 2,.int .i64 0,.int .i64 0,.int .i64 0,.int .i64 0,.int .i64 q0i,.int .i64 (nbb:Int),.int .i64 0],x147,x6,(by simp only[zA,zB,zC,D5,D11]),zT HH⟩
    ·have hns:¬ Ls Lz 14:=fun h=>hnl (dq HCL h 13)
     have D12:=(pj12 HH.out) (rq hi 12)
     have V0:=(pj16 HH.out) hns
     clear hi HCL
     simp only[zA,zB,zC,D12]
     refine yaa rfl rfl fun K hK=>?_
     go_wp2_with fail
     rw[HJ0.out]
     exact ⟨W.heap.size,x134,x135,x136,x137,x138,x139,x140,x141,x142,x143,x144,x145,x146,.slice (some ⟨W.heap.size,0,none⟩) 1 1,x6,(by simp only[zA,zB,zC,D12]),zk HH,zk HH,zk HH,zk HH,zk HH,zk HH,zk HH,zk HH,zk HH,zk HH,zk HH,zk HH,zk HH,fun _=>rfl,Ba hns,fun _ _=>World.ownsRow_lit W _ 1 V0.size Zq13 rfl,fun h=>belE ((pj16 HH.out) (fun h2=>h h2.fwd)) yap,Bb hns⟩
    ·have hns:¬ Ls Lz 14:=hnl
     have D13:=(pj13 HH.out) (rq hi 13)
     have E13:=(pj15 HH.out) (rq hi 13) hns
     have V0:=(pj16 HH.out) hns
     clear hi HCL
     simp only[zA,zB,zC,D13]
     refine yaa rfl rfl fun K hK=>?_
     go_wp2_with fail
     rw[HJ0.out]
     exact ⟨g0,x134,x135,x136,x137,x138,x139,x140,x141,x142,x143,x144,x145,x146,x147,.slice (some ⟨g0,0,none⟩) 1 1,(by first|(simp only[zA,zB,zC,D13] <;> fail)|simp only[Act.put,zA,zB,zC,D13]),zk HH,zk HH,zk HH,zk HH,zk HH,zk HH,zk HH,zk HH,zk HH,zk HH,zk HH,zk HH,zk HH,zk HH,fun _=>⟨rfl,E13,V0⟩,zx hnow,zy hnow,zx hnow⟩
   ·intro Lz a W hsize hJ hr
    rw[HJ0.out] at hJ
    have hall:=ybj hsize Zq8 hr
    obtain ⟨g0,x134,x135,x136,x137,x138,x139,x140,x141,x142,x143,x144,x145,x146,x147,x6,rfl,HF⟩:=hJ
    have HH:=hD HF
    have HEND:=(pj14 HH.out) (hall 14 Zq9)
    clear HF HH hall hr hsize
    simp only[zA,zB,zC]
    obtain ⟨rfl,ho,hbF⟩:=HEND
    obtain ⟨w2,rfl⟩:∃ w2:World,w2=W:=⟨_,rfl⟩
    have HO:=hD ho
    have HB2:=hD hbF
    clear ho hbF
    go_wp2_with fail
    go_ret
    refine ⟨.slice (some ⟨g0,0,none⟩) 1 1,.slice Ay (nbb+1) cy,rfl,by rw[HF.out];exact ybd (by simpa using HO.out) Zq6,?_,MW.out.trans (ycu HM1.out HB2.out) (.inl rfl),Mv.refl.trans HMV.out hs0⟩
    rw[HF.out]
    refine EnvI.below ⟨HH1.out,?_⟩ HB2.out
    show World.ownsRow _ _ _ _ _ (e.bits++[a1]).length (strs (e.bits++[a1]))
    have e1:(e.bits++[a1]).length=nbb+1:=by rw[List.length_append,←HBL.out];rfl
    have e2:strs (e.bits++[a1])=strs e.bits++[.string a1]:=by unfold strs;rw[List.map_append];rfl
    rw[e1,e2]
    exact HO1.out
 ·have hal:0<h.args.length:=by have h1:=(ybp HV.out).2.1;rw[hk] at h1;have h2:yar 7 h.word=1:=Zq14;omega
  obtain ⟨b,off,rfl,hbP,hb0,hbc⟩:=RA0.out.2 hal
  have hbE:b≠E:=fun e=>hP (e▸hbP)
  have hvb:vb.ownBlock≠some b:=fun e=>HPV.out b e hbP
  obtain ⟨a0,hA0⟩:∃ a0,a0=arg0 h:=⟨_,rfl⟩
  have HA0:=hD hA0
  have c0:w0.cell? ⟨b,off,none⟩=some (.string a0):=hbc 0 _ (by unfold strs;rw[List.getElem?_map,yc3 hal,hA0];rfl)
  clear hA0
  obtain ⟨R,hR⟩:∃ R,R=iA d bd names e:=⟨_,rfl⟩
  obtain ⟨q0i,hQ⟩:∃ q,q=ixI R.2.bits a0:=⟨_,rfl⟩
  have HQ:=hD hQ
  have HF:Hid (iS (iA d) h bd names e=(yci (1+q0i) R.1,R.2)):=by show _=_;rw[iS_7 hk,←hR,hQ,HA0.out]
  have HN:Hid ((yci (1+q0i) R.1).length=R.1.length):=by show _=_;unfold yci;rw[List.length_map]
  have HRL:Hid (R.1.length≤2000000):=by show _≤_;rw[hR];exact yga names e (ybp HV.out).2.2.2.2.2.2.2 (by have:=hnb (by rw[hk];decide);omega)
  have HBZ:Hid (R.2.bits.length≤1048577):=by show _≤_;rw[hR];have h1:=yk9 d bd names e;have h2:=HSZ.out;omega
  have HALL:=hD (fun W hb he=>hall W hb he (hnb (by rw[hk];decide)))
  rw[←hR] at HALL
  have hqb:-1≤q0i∧q0i≤1048577:=by have h1:=yt9 R.2.bits a0;have h2:=HBZ.out;rw[←hQ] at h1;omega
  clear hQ
  have e1:(h.k==1)=false:=by rw[hk];decide
  have e2:(h.k==2)=false:=by rw[hk];decide
  have e3:(h.k==3)=false:=by rw[hk];decide
  have e4:(h.k==4)=false:=by rw[hk];decide
  have e5:(h.k==5)=false:=by rw[hk];decide
  have e6:(h.k==6)=false:=by rw[hk];decide
  have E6X:=hD e6
  clear e6
  clear hk hall hnb hR
  have e6:(h.k==6)=false:=E6X.out
  go_wp2_with fail
  rw[←HW0.out]
  refine(HALL.out w0 (Mod.of_below _ _ (Below.refl _ _)) EN0.out).mono ?_
  rintro e1 w1 ⟨v1,vq,rfl,ho,hen,hm,hmv⟩
  obtain ⟨A7,c7,rfl,_,_,_⟩:=yah ho
  obtain ⟨Bn,cbb,rfl,_,_,_⟩:=yah hen.2
  have hs1:=hm.size
  have HEN:=hD hen
  have HMM:=hD hm
  have HO:=hD ho
  have HMV:=hD hmv
  have hrl:=HRL.out
  clear hen hm ho hmv
  go_wp2_with fail
  rw[←HX.out]
  go_loopw [155] (fun i wr=>∃ t:Nat,t≤R.1.length∧i=.int .i64 (t:Int)∧Hid (wr.ownsRow w0.heap.size 104 8 (.slice A7 R.1.length c7) R.1.length (((yci (1+q0i) R.1).take t++R.1.drop t).flatMap yan))∧Hid (EnvI wr E B (.slice Bn R.2.bits.length cbb) R.2)∧Hid (Mod E vb.ownBlock w0 wr)) (fun i _=>R.1.length - (intOf i).toNat)
  case atStart=>exact ⟨0,Nat.zero_le _,rfl,by rw[List.take_zero,List.drop_zero,List.nil_append];exact HO.out,HEN.out,HMM.out⟩
  case round =>
   clear HO HEN HMM
   obtain ⟨t,ht,rfl,hown,henv,hmd⟩:=hrel
   by_cases hlt:t<R.1.length
   ·obtain ⟨o,ho⟩:∃ o,R.1[t]?=some o:=⟨_,List.getElem?_eq_getElem hlt⟩
    have hS:(yci (1+q0i) R.1)[t]?=some (ifO (1+q0i) o):=by rw[yic,List.getElem?_map,ho];rfl
    have hmix:=yna HN.out (hS) ho
    obtain ⟨g7,cur,rfl,hG7⟩:∃ g7 cur,A7=some ⟨g7,0,none⟩∧wr.heap[g7]?=some (.cells cur 104 (0,0)):=by
     rcases hown.out.2 with ⟨h',hz⟩|⟨g7,cap,cur,h',_,hg,_⟩
     ·omega
     ·injection h' with h1 _ _;exact ⟨g7,cur,h1,hg⟩
    have hrr:=ybv hown.out
    have qc:∀ j u,j<8→(yan o)[j]?=some u→wr.cell? ⟨g7,t*8+j,none⟩=some u:=by
     intro j u hj hu
     obtain ⟨b9,off9,e9,_,hc9⟩:=hrr.2 Zq6
     injection e9 with e9
     injection e9 with e8 e7
     subst e8
     have:=hc9 (t*8+j) u ((yal yad _ t o j hmix hj).trans hu)
     rw[←e7,Nat.zero_add] at this
     exact this
    have q0:=qc 0 _ Zq9 rfl
    have q7:=qc 7 _ Zq9 rfl
    rw[Nat.add_zero] at q0
    have lG1:=lt_of_block hG7
    have HG7:=hD hG7
    have HMD:=hD hmd.out
    have y0:=yaj (j:=0) henv.out.1 rfl
    have p2:=yby hmd.out hX0 hXE hvX k2
    have c1:=yby hmd.out hb0 hbE hvb c0
    have lE1:=henv.out.lt
    have lX1:X<wr.heap.size:=Nat.lt_of_lt_of_le hX0 hmd.out.size
    have lb1:b<wr.heap.size:=Nat.lt_of_lt_of_le hb0 hmd.out.size
    have RB1:=hD (ybv henv.out.2)
    have HS:=hD hS
    have HOO:=hD ho
    have hge:=ybe hown.out g7 rfl
    clear qc hrr hG7 hS ho hmix
    by_cases hk:o.k=1
    ·have hk':(o.k==1)=true:=by simp [hk]
     have HK:=hD (show ifO (1+q0i) o=⟨o.k,o.g,o.q,o.bit,1+q0i⟩ by rw[ifO,if_pos hk])
     clear hk
     go_upto_region 30 with (fail)
     obtain ⟨J0,hJ0⟩:∃ J:Array Value→Array Bool→Act→World→Prop,J=(fun A0 Lz a W=>∃ (g0:Nat),∃ x164 x165 x166 x167 x168 x169 x170 x171 x172 x173 x174 x175 x176 x177:Value,a=⟨((((((((((((((A0.setIfInBounds 164 x164).setIfInBounds 165 x165).setIfInBounds 166 x166).setIfInBounds 167 x167).setIfInBounds 168 x168).setIfInBounds 169 x169).setIfInBounds 170 x170).setIfInBounds 171 x171).setIfInBounds 172 x172).setIfInBounds 173 x173).setIfInBounds 174 x174).setIfInBounds 175 x175).setIfInBounds 176 x176).setIfInBounds 177 x177),[]⟩∧(Ls Lz 0→x164=.slice (some ⟨g7,0,none⟩) R.1.length c7)∧(Ls Lz 1→x165=.int .i64 (t:Int))∧(Ls Lz 2→x166=.pointer (some ⟨E,0,none⟩))∧(Ls Lz 3→x167=.pointer (some ⟨E,0,none⟩))∧(Ls Lz 4→x168=.pointer (some ⟨E,0,none⟩))∧(Ls Lz 5→x169=.slice Bn R.2.bits.length cbb)∧(Ls Lz 6→x170=.pointer (some ⟨X,2,none⟩))∧(Ls Lz 7→x171=.slice (some ⟨b,off,none⟩) h.args.length ca)∧(Ls Lz 8→x172=.pointer (some ⟨b,off,none⟩))∧(Ls Lz 9→x173=.string a0)∧(Ls Lz 10→x174=.int .i64 q0i)∧(Ls Lz 11→x175=.int .i64 (1+q0i))∧(Ls Lz 12→x176=.pointer (some ⟨g7,t*8,none⟩))∧(Ls Lz 13→x177=.pointer (some ⟨g7,t*8+7,none⟩))∧(Ls Lz 14→(∃ W5,Below wr.heap.size wr W5∧W=W5.setCell ⟨g7,t*8+7,none⟩ (.int .i64 (1+q0i))))∧(¬ Ls Lz 14→Below wr.heap.size wr W)∧(Ls Lz 14→¬ Ls Lz 14→True)):=⟨_,rfl⟩
     have HJ0:=hD hJ0
     clear hJ0
     refine ya3 Zq8 J0 ?_ ?_ ?_
     ·intro A0
      rw[HJ0.out]
      exact ⟨0,A0.getD 164 undef,A0.getD 165 undef,A0.getD 166 undef,A0.getD 167 undef,A0.getD 168 undef,A0.getD 169 undef,A0.getD 170 undef,A0.getD 171 undef,A0.getD 172 undef,A0.getD 173 undef,A0.getD 174 undef,A0.getD 175 undef,A0.getD 176 undef,A0.getD 177 undef,by simp only[ybm],zn,zn,zn,zn,zn,zn,zn,zn,zn,zn,zn,zn,zn,zn,zn,fun _=>ycb (Below.refl _ _),zn⟩
     ·intro Lz a W hsize hcl hJ i hi
      have hil:=ybn hi
      have hnl:=ybi hi
      have hnow:=ybh hi hsize
      have HCL:=hD hcl
      rw[HJ0.out] at hJ
      obtain ⟨g0,x164,x165,x166,x167,x168,x169,x170,x171,x172,x173,x174,x175,x176,x177,rfl,HF⟩:=hJ
      have HH:=hD HF
      have hi2:i=0∨i=1∨i=2∨i=3∨i=4∨i=5∨i=6∨i=7∨i=8∨i=9∨i=10∨i=11∨i=12∨i=13∨i=14:=by simp at hil;omega
      clear hil hcl HF
      rcases hi2 with rfl|rfl|rfl|rfl|rfl|rfl|rfl|rfl|rfl|rfl|rfl|rfl|rfl|rfl|rfl
      ·clear hi HCL
       simp only[zA,zB,zC]
       refine yaa rfl rfl fun K hK=>?_
       go_wp2_with fail
       rw[HJ0.out]
       exact ⟨g0,.slice (some ⟨g7,0,none⟩) R.1.length c7,x165,x166,x167,x168,x169,x170,x171,x172,x173,x174,x175,x176,x177,(by simp only[zA,zB,zC]),zT HH⟩
      ·clear hi HCL
       simp only[zA,zB,zC]
       refine yaa rfl rfl fun K hK=>?_
       go_wp2_with fail
       rw[HJ0.out]
       exact ⟨g0,x164,.int .i64 (t:Int),x166,x167,x168,x169,x170,x171,x172,x173,x174,x175,x176,x177,(by simp only[zA,zB,zC]),zT HH⟩
      ·clear hi HCL
       simp only[zA,zB,zC]
       refine yaa rfl rfl fun K hK=>?_
       go_wp2_with fail
       rw[HJ0.out]
       exact ⟨g0,x164,x165,.pointer (some ⟨E,0,none⟩),x167,x168,x169,x170,x171,x172,x173,x174,x175,x176,x177,(by simp only[zA,zB,zC]),zT HH⟩
      ·have D2:=(pj2 HH.out) (rq hi 2)
       clear hi HCL
       simp only[zA,zB,zC,D2]
       refine yaa rfl rfl fun K hK=>?_
       go_wp2_with fail
       rw[HJ0.out]
       exact ⟨g0,x164,x165,x166,.pointer (some ⟨E,0,none⟩),x168,x169,x170,x171,x172,x173,x174,x175,x176,x177,(by simp only[zA,zB,zC,D2]),zT HH⟩
      ·have D3:=(pj3 HH.out) (rq hi 3)
       clear hi HCL
       simp only[zA,zB,zC,D3]
       refine yaa rfl rfl fun K hK=>?_
       go_wp2_with fail
       rw[HJ0.out]
       exact ⟨g0,x164,x165,x166,x167,.pointer (some ⟨E,0,none⟩),x169,x170,x171,x172,x173,x174,x175,x176,x177,(by simp only[zA,zB,zC,D3]),zT HH⟩
      ·have hns:¬ Ls Lz 14:=fun h=>hnl (dq HCL (dq HCL (dq HCL h 11) 10) 5)
       have D4:=(pj4 HH.out) (rq hi 4)
       have V0:=(pj15 HH.out) hns
       clear hi HCL
       simp only[zA,zB,zC,D4]
       have q0:=(V0.cell (p:=⟨E,0,none⟩) lE1).trans y0
       refine yaa rfl rfl fun K hK=>?_
       go_wp2_with fail
       rw[HJ0.out]
       exact ⟨g0,x164,x165,x166,x167,x168,.slice Bn R.2.bits.length cbb,x170,x171,x172,x173,x174,x175,x176,x177,(by simp only[zA,zB,zC,D4]),zT HH⟩
      ·clear hi HCL
       simp only[zA,zB,zC]
       refine yaa rfl rfl fun K hK=>?_
       go_wp2_with fail
       rw[HJ0.out]
       exact ⟨g0,x164,x165,x166,x167,x168,x169,.pointer (some ⟨X,2,none⟩),x171,x172,x173,x174,x175,x176,x177,(by simp only[zA,zB,zC]),zT HH⟩
      ·have hns:¬ Ls Lz 14:=fun h=>hnl (dq HCL (dq HCL (dq HCL (dq HCL (dq HCL h 11) 10) 9) 8) 7)
       have D6:=(pj6 HH.out) (rq hi 6)
       have V0:=(pj15 HH.out) hns
       clear hi HCL
       simp only[zA,zB,zC,D6]
       have q0:=(V0.cell (p:=⟨X,2,none⟩) lX1).trans p2
       refine yaa rfl rfl fun K hK=>?_
       go_wp2_with fail
       rw[HJ0.out]
       exact ⟨g0,x164,x165,x166,x167,x168,x169,x170,.slice (some ⟨b,off,none⟩) h.args.length ca,x172,x173,x174,x175,x176,x177,(by simp only[zA,zB,zC,D6]),zT HH⟩
      ·have D7:=(pj7 HH.out) (rq hi 7)
       clear hi HCL
       simp only[zA,zB,zC,D7]
       refine yaa rfl rfl fun K hK=>?_
       go_wp2_with fail
       rw[HJ0.out]
       exact ⟨g0,x164,x165,x166,x167,x168,x169,x170,x171,.pointer (some ⟨b,off,none⟩),x173,x174,x175,x176,x177,(by simp only[zA,zB,zC,D7]),zT HH⟩
      ·have hns:¬ Ls Lz 14:=fun h=>hnl (dq HCL (dq HCL (dq HCL h 11) 10) 9)
       have D8:=(pj8 HH.out) (rq hi 8)
       have V0:=(pj15 HH.out) hns
       clear hi HCL
       simp only[zA,zB,zC,D8]
       have q0:=(V0.cell (p:=⟨b,off,none⟩) lb1).trans c1
       refine yaa rfl rfl fun K hK=>?_
       go_wp2_with fail
       rw[HJ0.out]
       exact ⟨g0,x164,x165,x166,x167,x168,x169,x170,x171,x172,.string a0,x174,x175,x176,x177,(by simp only[zA,zB,zC,D8]),zT HH⟩
      ·have hns:¬ Ls Lz 14:=fun h=>hnl (dq HCL (dq HCL h 11) 10)
       have D5:=(pj5 HH.out) (rq hi 5)
       have D9:=(pj9 HH.out) (rq hi 9)
       have V0:=(pj15 HH.out) hns
       clear hi HCL
       simp only[zA,zB,zC,D5,D9]
       refine yaa rfl rfl fun K hK=>?_
       go_wp2_with fail
       refine(yd7 Bn R.2.bits.length cbb R.2.bits a0 W (RB1.out.below V0) rfl (by have:=HBZ.out;omega)).mono ?_
       rintro e1 y ⟨rfl,rfl⟩
       rw[←HQ.out]
       go_wp2_with fail
       rw[HJ0.out]
       exact ⟨g0,x164,x165,x166,x167,x168,x169,x170,x171,x172,x173,.int .i64 q0i,x175,x176,x177,(by simp only[zA,zB,zC,D5,D9]),zT HH⟩
      ·have D10:=(pj10 HH.out) (rq hi 10)
       clear hi HCL
       simp only[zA,zB,zC,D10]
       refine yaa rfl rfl fun K hK=>?_
       go_wp2_with fail
       rw[HJ0.out]
       exact ⟨g0,x164,x165,x166,x167,x168,x169,x170,x171,x172,x173,x174,.int .i64 (1+q0i),x176,x177,(by simp only[zA,zB,zC,D10]),zT HH⟩
      ·have D0:=(pj0 HH.out) (rq hi 0)
       have D1:=(pj1 HH.out) (rq hi 1)
       clear hi HCL
       simp only[zA,zB,zC,D0,D1]
       refine yaa rfl rfl fun K hK=>?_
       go_wp2_with fail
       rw[HJ0.out]
       exact ⟨g0,x164,x165,x166,x167,x168,x169,x170,x171,x172,x173,x174,x175,.pointer (some ⟨g7,t*8,none⟩),x177,(by simp only[zA,zB,zC,D0,D1]),zT HH⟩
      ·have D12:=(pj12 HH.out) (rq hi 12)
       clear hi HCL
       simp only[zA,zB,zC,D12]
       refine yaa rfl rfl fun K hK=>?_
       go_wp2_with fail
       rw[HJ0.out]
       exact ⟨g0,x164,x165,x166,x167,x168,x169,x170,x171,x172,x173,x174,x175,x176,.pointer (some ⟨g7,t*8+7,none⟩),(by simp only[zA,zB,zC,D12]),zT HH⟩
      ·have hns:¬ Ls Lz 14:=hnl
       have D11:=(pj11 HH.out) (rq hi 11)
       have D13:=(pj13 HH.out) (rq hi 13)
       have V0:=(pj15 HH.out) hns
       clear hi HCL
       simp only[zA,zB,zC,D11,D13]
       have hG9:=(V0.block g7 lG1).trans HG7.out
       have f9:=yab (j:=t*8+7) hG9
       have q9:=(V0.cell (p:=⟨g7,t*8+7,none⟩) lG1).trans q7
       have lG9:=lt_of_block hG9
       clear hG9
       refine yaa rfl rfl fun K hK=>?_
       go_wp2_with fail
       rw[HJ0.out]
       exact ⟨g0,x164,x165,x166,x167,x168,x169,x170,x171,x172,x173,x174,x175,x176,x177,(by first|(simp only[zA,zB,zC,D11,D13] <;> fail)|simp only[Act.put,zA,zB,zC,D11,D13]),zk HH,zk HH,zk HH,zk HH,zk HH,zk HH,zk HH,zk HH,zk HH,zk HH,zk HH,zk HH,zk HH,zk HH,fun _=>⟨W,V0,rfl⟩,zy hnow,zx hnow⟩
     ·intro Lz a W hsize hJ hr
      rw[HJ0.out] at hJ
      have hall:=ybj hsize Zq8 hr
      obtain ⟨g0,x164,x165,x166,x167,x168,x169,x170,x171,x172,x173,x174,x175,x176,x177,rfl,HF⟩:=hJ
      have HH:=hD HF
      have HEND:=(pj14 HH.out) (hall 14 Zq9)
      clear HF HH hall hr hsize
      simp only[zA,zB,zC]
      obtain ⟨W5,hb5,rfl⟩:=HEND
      have hs5:=hb5.size
      have st:=World.ownsRow.stored (yat hown.out hb5) (t*8+7) (.int .i64 (1+q0i))
      have e5:=(henv.out.below hb5).grown st.2 (fun q=>by injection q with q;omega) (fun k hk q=>yg9 (yat hown.out hb5) (henv.out.below hb5).2 k hk q)
      have m5:=ygu (ycu hmd.out hb5) st.2 (fun k hk=>by injection hk with hk;omega)
      have o5:=st.1
      rw[yly (yna HN.out HS.out HOO.out),←HK.out,ysu HN.out HS.out] at o5
      have O5:=hD o5
      have E5:=hD e5
      have M5:=hD m5
      clear o5 e5 m5 st
      go_wp2_with fail
      go_roundw
      case rel=>exact ⟨t+1,by omega,by go_num,O5.out,E5.out,M5.out⟩
      case measure=>simp [intOf];omega
    ·have hk':(o.k==1)=false:=by simp [hk]
     have HK:Hid (ifO (1+q0i) o=o):=by show _=_;rw[ifO,if_neg hk]
     clear hk
     go_wp2_with fail
     go_roundw
     case rel=>exact ⟨t+1,by omega,by go_num,by rw[←yrz HN.out (HS.out.trans (by rw[HK.out])) HOO.out];exact hown.out,henv.out,hmd.out⟩
     case measure=>simp [intOf];omega
   ·obtain rfl:t=R.1.length:=by omega
    have HT:Hid ((yci (1+q0i) R.1).take R.1.length++R.1.drop R.1.length=yci (1+q0i) R.1):=by show _=_;rw[List.take_of_length_le (by rw[HN.out];exact Nat.le_refl _),List.drop_of_length_le (Nat.le_refl _),List.append_nil]
    go_wp2_with fail
    go_ret
    exact ⟨_,_,rfl,by rw[HF.out];show World.ownsRow _ _ _ _ _ (yci (1+q0i) R.1).length _;rw[HN.out,←HT.out];exact ybd hown.out Zq6,by rw[HF.out];exact henv.out,MW.out.trans hmd.out (.inl rfl),Mv.refl.trans HMV.out hs0⟩
end Go.Proofs.YthkbckkghnbonaaGreatDoor
