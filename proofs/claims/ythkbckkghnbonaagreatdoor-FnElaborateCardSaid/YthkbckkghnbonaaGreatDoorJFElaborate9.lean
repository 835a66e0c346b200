/- What the calls that this law reaches answer, part 9 of 20. -/
import Derived.Test.YthkbckkghnbonaaGreatDoorJFElaborate4
import Derived.Test.YthkbckkghnbonaaGreatDoorJFElaborate8
import Derived.Test.YthkbckkghnbonaaGreatDoorJFElaborate3
set_option maxRecDepth 100000
set_option maxHeartbeats 16000000
set_option linter.unusedVariables false
namespace Go.Proofs.YthkbckkghnbonaaGreatDoor
open Go.RowKit
set_option linter.unusedVariables false
theorem Mod.drewN {X:Nat} {r:Option Nat} {w w':World} (h:Mod X r w w') (k:Nat):Mod X r w (w'.drewN k):=⟨h.os,h.tape,h.output,h.size,h.block⟩
structure EvS (w:World) (base E:Nat) (An:Option Addr) (nn cn:Nat) (bits:List ByteArray) (v:Value):Prop where
 x:w.heap[E]?=some (.cells #[.slice An nn cn,.slice none 0 0,.bool false,v] 100 (0,0))
 o:w.ownsRow base 9 1 v bits.length (strs bits)
theorem EvS.below {w w':World} {base E:Nat} {An:Option Addr} {nn cn:Nat} {bits:List ByteArray} {v:Value} (h:EvS w base E An nn cn bits v) (hb:Below w.heap.size w w'):EvS w' base E An nn cn bits v :=
 ⟨(hb.block _ (lt_of_block h.x)).trans h.x,yat h.o hb⟩
theorem EvS.drewN {w:World} {base E:Nat} {An:Option Addr} {nn cn:Nat} {bits:List ByteArray} {v:Value} (h:EvS w base E An nn cn bits v) (k:Nat):EvS (w.drewN k) base E An nn cn bits v:=⟨h.x,h.o⟩
theorem EvS.set {w:World} {base E:Nat} {An:Option Addr} {nn cn:Nat} {bits:List ByteArray} {v:Value} (h:EvS w base E An nn cn bits v) {p:Addr} (h1:E≠p.block) (h2:v.ownBlock≠some p.block) (u:Value):EvS (w.setCell p u) base E An nn cn bits v :=
 ⟨yc9 h.x h1 u,ygw h.o h2 u⟩
def yki (base E:Nat) (An:Option Addr) (nn cn:Nat) (v:Value) (r:Bad × List ByteArray) (w:World) (e:Ending) (w':World):Prop :=
 ∃ v',e=.returned (.agg #[.int .i64 r.1.1,.string r.1.2])∧EvS w' base E An nn cn r.2 v'∧Mod E v.ownBlock w w'∧Grew v.ownBlock w.heap.size v'.ownBlock
theorem Grew.weakV {r r':Option Nat} {z z':Nat} (h:Grew r z r') (hz:z'≤z):Grew r z' r':=by
 rcases h with h|⟨k,h,hk⟩
 ·exact .inl h
 ·exact .inr ⟨k,h,Nat.le_trans hz hk⟩
theorem rnil (w:World):Rd w 1 none 0 (strs []):=⟨rfl,fun h=>absurd h Zq9⟩
theorem yo6 {w:World} {base e size n:Nat} {v:Value} {xs:List Value} (h:w.ownsRow base e size v n xs) (k:Nat):(w.drewN k).ownsRow base e size v n xs:=h
theorem ysp (a:ByteArray):∀ u∈[Value.string a],u.oneCell'=true:=by
 intro u hu
 simp at hu
 subst hu
 rfl
theorem Zq12 {p:Prop} (h:p:=by dsimp only;omega):p:=h
theorem yk3 (word:ByteArray) (args:List ByteArray) (count:Int) (Aa:Option Addr) (m ca:Nat) (Ac:Option Addr) (nc cc:Nat) (An:Option Addr) (nn cn base E:Nat) (names bits:List ByteArray) (v:Value) (a c:ByteArray) (w:World)
    (hev:EvS w base E An nn cn bits v) (hbase:base≤w.heap.size) (hb3:bits.length≤3) (hm:args.length=m) (hra:Rd w 1 Aa m (strs args)) (hca:m≤ca) (h2:2≤m) (h1:m≤1048576) (ha:args[0]?=some a) (hc:args[1]?=some c) (hnn:names.length=nn) (hrn:Rd w 1 An nn (strs names)) (h4:nn≤1048576) :
    Calls Tryz.prog 157 #[.agg #[.int .i64 6,.string word,.slice Aa m ca,.int .i64 count,.slice Ac nc cc],.pointer (some ⟨E,0,none⟩)] w (yki base E An nn cn v (yca names bits a c) w):=by
  obtain ⟨i0,hi,hzi0,hzi1,hzi2⟩:=info_parts ydh
  obtain ⟨A,cb,rfl,hcap,_,_⟩:=yah hev.o
  obtain ⟨b,off,rfl,hbw,hcl⟩:=hra.2 Zq6
  obtain ⟨w0,hw0⟩:∃ w0,w0=(w.alloc (.cells #[.int .i64 6,.string word,.slice (some ⟨b,off,none⟩) m ca,.int .i64 count,.slice Ac nc cc] 66)).alloc (.cells #[.int .i64 0,.string ⟨#[]⟩] 96):=⟨_,rfl⟩
  have X0:=hD (show w0.heap[w.heap.size]?=some (.cells #[.int .i64 6,.string word,.slice (some ⟨b,off,none⟩) m ca,.int .i64 count,.slice Ac nc cc] 66 (0,0)) by rw[hw0];exact ydo _ _ _)
  have X1:=hD (show w0.heap[w.heap.size+1]?=some (.cells #[.int .i64 0,.string ⟨#[]⟩] 96 (0,0)) by rw[hw0];exact yem _ _ _)
  have b0:Below w.heap.size w w0:=by rw[hw0];exact Zq0
  have hz1:w.heap.size+1<w0.heap.size:=by rw[hw0];simp
  have hz0:w.heap.size<w0.heap.size:=by omega
  have hbl:b<w0.heap.size:=by omega
  have r0:=hcl 0 _ (ybr ha)
  have r1:=hcl 1 _ (ybr hc)
  rw[Nat.add_zero,←b0.cell (p:=⟨b,off,none⟩) hbw] at r0
  rw[←b0.cell (p:=⟨b,off+1,none⟩) hbw] at r1
  have hxw:E<w.heap.size:=lt_of_block hev.x
  have hvl:∀ k,(Value.slice A bits.length cb).ownBlock=some k→k<w.heap.size:=fun k e=>(hev.o.lt k e).2
  have VN:Hid ((Value.slice A bits.length cb).ownBlock≠some (w.heap.size+1)):=fun e=>by have:=hvl _ e;omega
  have HW:=hD hw0
  have B0:=hD b0
  have HN:=hD (hrn.below b0)
  have HNN:=hD hnn
  have EV:=hD (hev.below b0)
  have al:∀ (W:World) (ob:Obj),Below W.heap.size W (W.alloc ob):=fun W ob=>(Below.refl _ _).alloc (Nat.le_refl _) _
  have AL:=hD al
  have hm3:(0:Int)<(m:Int):=by omega
  have hm4:(1:Int)<(m:Int):=by omega
  have hm2:0<m:=by omega
  have hm5:1<m:=by omega
  obtain ⟨e0,e1,e2,e3⟩:=yb1 (lay:=Below.refl _ _) EV.out.x
  obtain ⟨p0,p1,p2,p3,p4⟩:=yas (lay:=Below.refl _ _) X0.out
  obtain ⟨k0,k1⟩:=ycd (lay:=Below.refl _ _) X1.out
  have f0:=ya6 (Below.refl _ _) X1.out 0
  have f1:=ya6 (Below.refl _ _) X1.out 1
  have hE0:E<w0.heap.size:=by omega
  have KS:Hid (∀ W:World,Below (w.heap.size+1) w0 W→(W.cell? ⟨E,0,none⟩=some (.slice An nn cn)∧W.cell? ⟨E,1,none⟩=some (.slice none 0 0)∧W.cell? ⟨E,2,none⟩=some (.bool false)∧W.cell? ⟨E,3,none⟩=some (.slice A bits.length cb)∧W.cell? ⟨w.heap.size,2,none⟩=some (.slice (some ⟨b,off,none⟩) m ca)∧W.cell? ⟨b,off,none⟩=some (.string a))):=fun W hW =>
    ⟨(hW.cell (p:=⟨E,0,none⟩) (by show E<_;omega)).trans e0,(hW.cell (p:=⟨E,1,none⟩) (by show E<_;omega)).trans e1,(hW.cell (p:=⟨E,2,none⟩) (by show E<_;omega)).trans e2,(hW.cell (p:=⟨E,3,none⟩) (by show E<_;omega)).trans e3,(hW.cell (p:=⟨w.heap.size,2,none⟩) (by show w.heap.size<_;omega)).trans p2,(hW.cell (p:=⟨b,off,none⟩) (by show b<_;omega)).trans r0⟩
  have R1:=hD r1
  obtain ⟨z,hzd⟩:∃ z,z=ycn names [] a:=⟨_,rfl⟩
  have HC:=hD hzd
  clear hcl ha hc hm hra hev hrn hnn hw0 b0 hvl al hzd r1
  go_enter Tryz.func157,Tryz.ntmps157
  go_upto_region 1 with (fail)
  rw[←HW.out]
  go_wp2_with fail
  go_region_held3 (fun W=>W.cell? ⟨E,0,none⟩=some (.slice An nn cn)∧W.cell? ⟨E,1,none⟩=some (.slice none 0 0)∧W.cell? ⟨E,2,none⟩=some (.bool false)∧W.cell? ⟨E,3,none⟩=some (.slice A bits.length cb)∧W.cell? ⟨w.heap.size,2,none⟩=some (.slice (some ⟨b,off,none⟩) m ca)∧W.cell? ⟨b,off,none⟩=some (.string a)) ((refine KS.out _ ?_;first|exact Below.refl _ _|exact(Below.refl _ _).drew|exact Below.mono b1 Zq6|exact((Below.refl w0.heap.size w0).drew.alloc (Nat.le_refl _) _).mono Zq6|exact(b1.alloc b1.size _).mono Zq6|exact((b1.mono Zq6).setCell Zq10 _).setCell Zq10 _)) (first|(go_at_call 156;(with_reducible refine(yhh a names [] An none A nn cn 0 0 bits.length cb false _ HNN.out (by first|exact HN.out.drew|exact HN.out.drew.below (AL.out _ _)) rfl (rnil _) Zq6 Zq6).mono ?_);rintro e w1 ⟨rfl,b1d,s1d⟩;rw[←HC.out];first|(have b1:Below w0.heap.size w0 w1:=ydz b1d)|(have b1:Below w0.heap.size w0 w1:=((Below.refl _ _).drew.alloc (Nat.le_refl _) _).trans (b1d.mono Zq11);obtain ⟨y0,y1⟩:w1.cell? ⟨w0.heap.size,0,none⟩=some (.int .i64 0)∧w1.cell? ⟨w0.heap.size,1,none⟩=some (.string ⟨#[]⟩):=ycd (lay:=b1d) (heap_alloc_new w0.drew (.cells #[.int .i64 0,.string ⟨#[]⟩] 96));have y2:w1.frozen? ⟨w0.heap.size,0,none⟩=false:=ya6 b1d (heap_alloc_new w0.drew (.cells #[.int .i64 0,.string ⟨#[]⟩] 96)) 0;have y3:w1.frozen? ⟨w0.heap.size,1,none⟩=false:=ya6 b1d (heap_alloc_new w0.drew (.cells #[.int .i64 0,.string ⟨#[]⟩] 96)) 1;have y6:w1.heap[w0.heap.size]?=some (.cells #[.int .i64 0,.string ⟨#[]⟩] 96 (0,0)):=(b1d.block _ Zq11).trans (heap_alloc_new w0.drew _);have y4:w0.heap.size<w1.heap.size:=lt_of_block y6)))
  all_goals
    have hs1:=b1.size
    first
    | (have y5:=y4
       obtain ⟨G,hGe⟩:∃ G,G=w0.heap.size:=⟨_,rfl⟩
       obtain ⟨wy,hwy⟩:∃ wy,wy=(w1.setCell ⟨w0.heap.size,0,none⟩ (.int .i64 z.1)).setCell ⟨w0.heap.size,1,none⟩ (.string z.2):=⟨_,rfl⟩
       have hxy:wy.heap[G]?=some (.cells #[.int .i64 z.1,.string z.2] 96 (0,0)):=by rw[hwy,hGe];exact yb6 (yb6 y6 _) _
       have by2:Below w0.heap.size w0 wy:=by rw[hwy];exact(b1.setCell (Nat.le_refl _) _).setCell (Nat.le_refl _) _
       rw[←hwy,←hGe]
       clear hwy hGe y0 y1 y2 y3 y4 y5 y6)
    | (obtain ⟨G,hGe⟩:∃ G,G=w1.heap.size:=⟨_,rfl⟩
       obtain ⟨wy,hwy⟩:∃ wy,wy=w1.alloc (.cells #[.int .i64 z.1,.string z.2] 96):=⟨_,rfl⟩
       have hxy:wy.heap[G]?=some (.cells #[.int .i64 z.1,.string z.2] 96 (0,0)):=by rw[hwy,hGe];exact heap_alloc_new _ _
       have by2:Below w0.heap.size w0 wy:=by rw[hwy];exact b1.alloc hs1 _
       rw[←hwy,←hGe]
       clear hwy hGe)
    clear b1 hs1 b1d s1d e0 e1 e2 e3 p0 p1 p2 p3 p4 k0 k1 f0 f1
    have hsy:=by2.size
    have hgl:=lt_of_block hxy
    obtain ⟨z0,z1⟩:=ycd (lay:=Below.refl _ _) hxy
    obtain ⟨e0,e1,e2',e3'⟩:=yb1 (lay:=by2) EV.out.x
    obtain ⟨p0,p1,p2,p3,p4⟩:=yas (lay:=by2) X0.out
    obtain ⟨k0,k1⟩:=ycd (lay:=by2) X1.out
    have f0:=ya6 by2 X1.out 0
    have f1:=ya6 by2 X1.out 1
    have hl1:w.heap.size+1<wy.heap.size:=by omega
    have r1:=(by2.cell (p:=⟨b,off+1,none⟩) hbl).trans R1.out
    have HNY:=hD (HN.out.below by2)
    have EVY:=hD (EV.out.below by2)
    have HRY:=hD (ybv EVY.out.o)
    have MY:Hid (Mod E (Value.slice A bits.length cb).ownBlock w wy):=(Mod.of_below E _ B0.out).trans (Mod.of_below E _ by2) (.inl rfl)
    have KY:=hD ((by2.block (w.heap.size+1) hz1).trans X1.out)
    clear r0 hxy by2
    cases e1:hasS names a
    · have hzz:z=(2,a):=by rw[HC.out,ycn,if_pos e1]
      subst hzz
      have HS:Hid (yca names bits a c=((2,a),bits)):=by rw[yca,if_pos e1];exact rfl
      have z0':wy.cell? ⟨G,0,none⟩=some (.int .i64 2):=z0
      have z1':wy.cell? ⟨G,1,none⟩=some (.string a):=z1
      clear z0 z1
      go_wp2_with fail
      exact bodyPost_ret (v:=.agg #[.int .i64 2,.string a]) (by simp [results,Tryz.results157,go_sem,k0,k1]) rfl ⟨_,by rw[HS.out],by rw[HS.out];exact(EVY.out.set Zq12 (by dsimp only;exact VN.out) _).set Zq12 (by dsimp only;exact VN.out) _,(MY.out.set (.inr Zq11) _).set (.inr Zq11) _,.inl rfl⟩
    · have hzz:z=bad0:=by rw[HC.out,ycn,if_neg (by rw[e1];decide)];exact rfl
      subst hzz
      have z0':wy.cell? ⟨G,0,none⟩=some (.int .i64 0):=z0
      have z1':wy.cell? ⟨G,1,none⟩=some (.string ⟨#[]⟩):=z1
      clear z0 z1
      go_wp2_with fail
      clear z0' z1'
      cases e2:hasS names c
      · cases e3:hasS bits c
        · by_cases h3:bits.length=3
          · have HS:Hid (yca names bits a c=((8,c),bits)):=by rw[yca,if_neg (by rw[e1];decide),if_neg (by rw[e2];decide),if_neg (by rw[e3];decide),if_pos h3];exact rfl
            have d3:((bits.length:Int)==3)=true:=by simp;omega
            have H3:=hD h3
            clear h3
            have HB:Hid (∀ (S:Value) (r:Bool) (k:Nat),((S=.slice An nn cn∧r=false)∨(S=.slice A bits.length cb∧r=false))→Calls Tryz.prog 77 #[S,.string c] (wy.drewN k) fun e W=>e=.returned (.bool r)∧W=wy.drewN k):=by
              rintro S r k (⟨rfl,rfl⟩|⟨rfl,rfl⟩)
              · exact(ybx An nn cn names c _ (HNY.out.drewN k) HNN.out Zq6).mono fun e W h=>⟨h.1.trans (by rw[e2]),h.2.symm⟩
              · exact(ybx A bits.length cb bits c _ (HRY.out.drewN k) rfl Zq6).mono fun e W h=>⟨h.1.trans (by rw[e3]),h.2.symm⟩
            go_quiet ((go_at_call 77;exact Calls.quiet_of_same (HB.out _ _ _ (by first|exact Or.inl ⟨rfl,rfl⟩|exact Or.inr ⟨rfl,rfl⟩))))
            go_wp2_with fail
            exact bodyPost_ret (v:=.agg #[.int .i64 8,.string c]) (by simp [results,Tryz.results157,go_sem,k0,k1]) rfl ⟨_,by rw[HS.out],by rw[HS.out];exact((EVY.out.drewN _).set Zq12 (by dsimp only;exact VN.out) _).set Zq12 (by dsimp only;exact VN.out) _,((MY.out.drewN _).set (.inr Zq11) _).set (.inr Zq11) _,.inl rfl⟩
          · have HS:Hid (yca names bits a c=(bad0,bits++[c])):=by rw[yca,if_neg (by rw[e1];decide),if_neg (by rw[e2];decide),if_neg (by rw[e3];decide),if_neg h3];exact rfl
            have d3:((bits.length:Int)==3)=false:=by rw[beq_eq_false_iff_ne];omega
            have hb2:bits.length≤2:=by omega
            have H3:=hD h3
            clear h3
            have HB:Hid (∀ (S:Value) (r:Bool) (k:Nat),((S=.slice An nn cn∧r=false)∨(S=.slice A bits.length cb∧r=false))→Calls Tryz.prog 77 #[S,.string c] (wy.drewN k) fun e W=>e=.returned (.bool r)∧W=wy.drewN k):=by
              rintro S r k (⟨rfl,rfl⟩|⟨rfl,rfl⟩)
              · exact(ybx An nn cn names c _ (HNY.out.drewN k) HNN.out Zq6).mono fun e W h=>⟨h.1.trans (by rw[e2]),h.2.symm⟩
              · exact(ybx A bits.length cb bits c _ (HRY.out.drewN k) rfl Zq6).mono fun e W h=>⟨h.1.trans (by rw[e3]),h.2.symm⟩
            go_quiet ((go_at_call 77;exact Calls.quiet_of_same (HB.out _ _ _ (by first|exact Or.inl ⟨rfl,rfl⟩|exact Or.inr ⟨rfl,rfl⟩))))
            go_wp2_with fail
            have hEy:E<wy.heap.size:=by omega
            have hxA:∀ (k:Nat) (ob:Obj),((wy.drewN k).alloc ob).cell? ⟨E,3,none⟩=some (.slice A bits.length cb):=fun k ob=>(World.cell?_alloc_lt (wy.drewN k) ob ⟨E,3,none⟩ hEy).trans e3'
            go_region_law (first|(refine ydl _ (by rfl) (.tmp 67) (.tmp 72) 24 (by rfl) base 9 i0 _ 1 16 Tryz.underlying24 hi hzi0 hzi1 hzi2 (by rfl) Zq9 _ bits.length _ (by rfl) (by exact((yo6 EVY.out.o _).alloc _)) _ 1 _ [.string c] (by rfl) (by exact yg1 (w:=wy.drewN _) (by rfl) rfl) (by exact ysp c) Zq13 Zq6 Zq10 ?_;intro v3 w3 own3 gr3 at3;obtain ⟨A3,c3,rfl,_,_,_⟩:=yah own3;have hx3:w3.heap[E]?=some (.cells #[.slice An nn cn,.slice none 0 0,.bool false,.slice A bits.length cb] 100 (0,0)):=(gr3.block E Zq10 (fun e=>yeo EVY.out.o EVY.out.x Zq9 e.symm)).trans ((Below.heap_alloc _ _ _ Zq10).trans EVY.out.x);have px3:=yaj (j:=3) (u:=.slice A bits.length cb) hx3 rfl;have fx3:=yjg (j:=3) hx3;have hlx3:=lt_of_block hx3))
            all_goals
              have hk3:w3.heap[w.heap.size+1]?=some (.cells #[.int .i64 0,.string ⟨#[]⟩] 96 (0,0)):=(gr3.block (w.heap.size+1) Zq10 (fun e=>yeo EVY.out.o KY.out Zq9 e.symm)).trans ((Below.heap_alloc _ _ _ Zq10).trans KY.out)
              have M3:Mod E (Value.slice A bits.length cb).ownBlock w w3:=((MY.out.drewN _).trans (Mod.of_below E _ ((Below.refl _ _).alloc (Nat.le_refl _) _)) (.inl rfl)).trans (Mod.grown gr3) (.inl rfl)
              have G4:Grew (Value.slice A bits.length cb).ownBlock (w.heap.size+1+1) (Value.slice A3 (bits.length+1) c3).ownBlock:=by
                rcases at3 with e|e
                · exact .inl e
                · exact .inr ⟨_,e,by first|omega|(simp;omega)⟩
              obtain ⟨w4,hw4⟩:∃ w4,w4=w3.setCell ⟨E,3,none⟩ (.slice A3 (bits.length+1) c3):=⟨_,rfl⟩
              have EV4:EvS w4 base E An nn cn (bits++[c]) (.slice A3 (bits.length+1) c3):=by rw[hw4];exact ⟨yb6 hx3 _,by rw[List.length_append,ye5];exact ygw own3 (yeo own3 hx3 Zq9) _⟩
              have hk4:w4.heap[w.heap.size+1]?=some (.cells #[.int .i64 0,.string ⟨#[]⟩] 96 (0,0)):=by rw[hw4];exact yc9 hk3 Zq12 _
              have M4:Mod E (Value.slice A bits.length cb).ownBlock w w4:=by rw[hw4];exact M3.set (p:=⟨E,3,none⟩) (.inl rfl) _
              have x4:(Value.slice A3 (bits.length+1) c3).ownBlock≠some (w.heap.size+1):=fun e=>by
                rcases G4 with g|⟨k,g,hk⟩
                · exact VN.out (g.symm.trans e)
                · have:=Option.some.inj (g.symm.trans e);omega
              have HE4:=hD EV4
              have HM4:=hD M4
              have HG4:=hD (G4.weakV (z':=w.heap.size) Zq6)
              have HX4:=hD x4
              have W4:=hD hw4
              have hl4:w.heap.size+1<w4.heap.size:=lt_of_block hk4
              clear k0 k1 f0 f1
              obtain ⟨k0,k1⟩:=ycd (lay:=Below.refl _ _) hk4
              have f0:=ya6 (Below.refl _ _) hk4 0
              have f1:=ya6 (Below.refl _ _) hk4 1
              clear hxA own3 gr3 at3 hx3 px3 fx3 hlx3 hk3 M3 G4 hw4 EV4 hk4 M4 x4 e0 e3' p0 p1 p2 p3 p4 r1
              rw[←W4.out]
              go_wp2_with fail
              exact bodyPost_ret (v:=.agg #[.int .i64 0,.string ⟨#[]⟩]) (by simp [results,Tryz.results157,go_sem,k0,k1]) rfl ⟨_,by rw[HS.out];exact rfl,by rw[HS.out];exact(HE4.out.set Zq12 (by dsimp only;exact HX4.out) _).set Zq12 (by dsimp only;exact HX4.out) _,(HM4.out.set (.inr Zq11) _).set (.inr Zq11) _,HG4.out⟩
        · have HS:Hid (yca names bits a c=((1,c),bits)):=by rw[yca,if_neg (by rw[e1];decide),if_neg (by rw[e2];decide),if_pos e3];exact rfl
          have HB:Hid (∀ (S:Value) (r:Bool) (k:Nat),((S=.slice An nn cn∧r=false)∨(S=.slice A bits.length cb∧r=true))→Calls Tryz.prog 77 #[S,.string c] (wy.drewN k) fun e W=>e=.returned (.bool r)∧W=wy.drewN k):=by
            rintro S r k (⟨rfl,rfl⟩|⟨rfl,rfl⟩)
            · exact(ybx An nn cn names c _ (HNY.out.drewN k) HNN.out Zq6).mono fun e W h=>⟨h.1.trans (by rw[e2]),h.2.symm⟩
            · exact(ybx A bits.length cb bits c _ (HRY.out.drewN k) rfl Zq6).mono fun e W h=>⟨h.1.trans (by rw[e3]),h.2.symm⟩
          go_quiet ((go_at_call 77;exact Calls.quiet_of_same (HB.out _ _ _ (by first|exact Or.inl ⟨rfl,rfl⟩|exact Or.inr ⟨rfl,rfl⟩))))
          go_wp2_with fail
          exact bodyPost_ret (v:=.agg #[.int .i64 1,.string c]) (by simp [results,Tryz.results157,go_sem,k0,k1]) rfl ⟨_,by rw[HS.out],by rw[HS.out];exact((EVY.out.drewN _).set Zq12 (by dsimp only;exact VN.out) _).set Zq12 (by dsimp only;exact VN.out) _,((MY.out.drewN _).set (.inr Zq11) _).set (.inr Zq11) _,.inl rfl⟩
      · have HS:Hid (yca names bits a c=((1,c),bits)):=by rw[yca,if_neg (by rw[e1];decide),if_pos e2];exact rfl
        go_quiet ((go_at_call 77;exact Calls.quiet_of_same ((ybx An nn cn names c _ (HNY.out.drewN _) HNN.out Zq6).mono fun e W h=>(⟨h.1.trans (by rw[e2]),h.2.symm⟩:e=.returned (.bool true)∧W=_))))
        go_wp2_with fail
        exact bodyPost_ret (v:=.agg #[.int .i64 1,.string c]) (by simp [results,Tryz.results157,go_sem,k0,k1]) rfl ⟨_,by rw[HS.out],by rw[HS.out];exact((EVY.out.drewN _).set Zq12 (by dsimp only;exact VN.out) _).set Zq12 (by dsimp only;exact VN.out) _,((MY.out.drewN _).set (.inr Zq11) _).set (.inr Zq11) _,.inl rfl⟩
theorem yeb {w:World} {o:Obj} {k:Nat} (h:k=w.heap.size):(w.alloc o).heap[k]?=some o:=by subst h;exact heap_alloc_new w o
theorem yim {w:World} {o x:Obj} {k:Nat} (h:k<w.heap.size) (hx:w.heap[k]?=some x):(w.alloc o).heap[k]?=some x:=(Below.heap_alloc w o k h).trans hx
theorem yhn {W:World} {k B e size:Nat} (hk:W.heap[k]?=some (.cells #[] e (0,0))) (hB:B≤k):W.ownsRow B e size (.slice (some ⟨k,0,none⟩) 0 0) 0 [] :=
 ⟨by simp,.inr ⟨k,0,#[],rfl,hB,hk,Nat.le_refl _,Nat.zero_le _,by simp,by simp⟩⟩
theorem yfn {W w1:World} {r:Option Nat} {K:Nat} (h:W.grownBy w1 r) (e:r=some K):(∀ b o,b<W.heap.size→b≠K→w1.cell? ⟨b,o,none⟩=W.cell? ⟨b,o,none⟩)∧(∀ b o,b<W.heap.size→b≠K→w1.frozen? ⟨b,o,none⟩=W.frozen? ⟨b,o,none⟩)∧W.heap.size≤w1.heap.size:=by
 subst e
 exact ⟨fun b o h1 h2=>World.cell?_of_block (w:=W) (h.block b h1 (fun e=>h2 (Option.some.inj e))),fun b o h1 h2=>World.frozen?_of_block (w:=W) (h.block b h1 (fun e=>h2 (Option.some.inj e))),h.size⟩
def yrl (r:Bad × (List ByteArray × List ByteArray)) (w:World) (e:Ending) (w':World):Prop:=∃ A1 c1 A2 c2 n1 n2,e=.returned (.tuple #[.agg #[.slice A1 n1 c1,.slice A2 n2 c2,.bool true],.int .i64 r.1.1,.string r.1.2])∧(r.1.1=0→r.2.1.length=n1∧Rd w' 1 A1 n1 (strs r.2.1)∧r.2.2.length=n2∧Rd w' 1 A2 n2 (strs r.2.2))∧Below w.heap.size w w'∧w.heap.size≤w'.heap.size
theorem yce {w:World} {b j:Nat} {cs:Array Value} {t:TypeId} (h:w.heap[b]?=some (.cells cs t (0,0))):w.frozen? ⟨b,j,none⟩=false:=by simp [World.frozen?,h]
theorem ycv {w:World} {base e size n g:Nat} {v:Value} {xs:List Value} {cs:Array Value} {t:TypeId} (h:w.ownsRow base e size v n xs) (hg:w.heap[g]?=some (.cells cs t (0,0))) (hne:e≠t):v.ownBlock≠some g:=by
 rcases h.2 with ⟨rfl,_⟩|⟨g',cap,cur,rfl,_,hh,_⟩
 ·simp [Value.ownBlock]
 ·intro he
  have e1:g'=g:=by simpa [Value.ownBlock] using he
  subst e1
  rw[hh] at hg
  injection hg with hg
  injection hg with _ ht
  exact hne ht
theorem yak {w:World} {base e size n:Nat} {v:Value} {xs:List Value} (h:w.ownsRow base e size v n xs) {p:Addr} (hp:v.ownBlock≠some p.block) (u:Value):(w.setCell p u).ownsRow base e size v n xs:=by
 refine ⟨h.1,?_⟩
 rcases h.2 with hn|⟨g,cap,cur,rfl,hb,hh,rest⟩
 ·exact .inl hn
 ·exact .inr ⟨g,cap,cur,rfl,hb,yc9 hh (fun e=>hp (by simp [Value.ownBlock,e])) u,rest⟩
theorem ygs {w1:World} {v:Value} {row:Option Nat} {K1 T1 K2 B e size n:Nat} {xs:List Value} (ho:w1.ownsRow B e size v n xs) (at1:v.ownBlock=row∨v.ownBlock=some T1) (hr:row=some K1) (h:w1.heap.size≤K2∨(K2≠K1∧K2≠T1)):v.ownBlock≠some K2:=by
 intro e2
 have hl:=(ho.lt _ e2).2
 rcases h with h|⟨h1,h2⟩
 ·omega
 ·rcases at1 with a|a
  ·exact h1 (Option.some.inj (e2.symm.trans (a.trans hr)))
  ·exact h2 (Option.some.inj (e2.symm.trans a))
theorem yrm {w1:World} {v1 v2:Value} {row:Option Nat} {T2 K2 B e size n:Nat} {xs:List Value} (ho:w1.ownsRow B e size v1 n xs) (n1:v1.ownBlock≠some K2) (at2:v2.ownBlock=row∨v2.ownBlock=some T2) (hr:row=some K2) (hT:w1.heap.size≤T2):∀ k,v1.ownBlock=some k→v2.ownBlock≠some k:=by
 intro k hk e2
 have hl:=(ho.lt _ hk).2
 rcases at2 with a|a
 ·exact n1 (hk.trans (e2.symm.trans (a.trans hr)))
 ·have:=Option.some.inj (e2.symm.trans a)
  omega
structure Two (base G ts te nn nh:Nat) (names held:List ByteArray) (a wc:World):Prop where
 bel:Below base a wc
 low:base≤G
 rest:∃ A1 c1 A2 c2,wc.heap[G]?=some (.cells #[.slice A1 nn c1,.slice A2 nh c2,.bool true] ts (0,0))∧wc.ownsRow base te 1 (.slice A1 nn c1) nn (strs names)∧wc.ownsRow base te 1 (.slice A2 nh c2) nh (strs held)∧∀ k,(Value.slice A1 nn c1).ownBlock=some k→(Value.slice A2 nh c2).ownBlock≠some k
theorem yls {base ts te nn nh c1 c2:Nat} {A1 A2:Option Addr} {names held:List ByteArray} {a w2:World} (b:Below base a w2) (h1:base≤w2.heap.size) (o1:w2.ownsRow base te 1 (.slice A1 nn c1) nn (strs names)) (o2:w2.ownsRow base te 1 (.slice A2 nh c2) nh (strs held)) (d:∀ k,(Value.slice A1 nn c1).ownBlock=some k→(Value.slice A2 nh c2).ownBlock≠some k):Two base w2.heap.size ts te nn nh names held a (w2.alloc (.cells #[.slice A1 nn c1,.slice A2 nh c2,.bool true] ts)) :=
 ⟨Below.alloc b h1 _,h1,A1,c1,A2,c2,heap_alloc_new _ _,o1.alloc _,o2.alloc _,d⟩
theorem yop {base G ts te nn nh c1 c2:Nat} {A1 A2:Option Addr} {names held:List ByteArray} {a w2:World} (b:Below base a w2) (h1:base≤G) (hg:w2.heap[G]?=some (.cells #[.slice none 0 0,.slice none 0 0,.bool false] ts (0,0))) (hne:te≠ts) (o1:w2.ownsRow base te 1 (.slice A1 nn c1) nn (strs names)) (o2:w2.ownsRow base te 1 (.slice A2 nh c2) nh (strs held)) (d:∀ k,(Value.slice A1 nn c1).ownBlock=some k→(Value.slice A2 nh c2).ownBlock≠some k):Two base G ts te nn nh names held a (((w2.setCell ⟨G,0,none⟩ (.slice A1 nn c1)).setCell ⟨G,1,none⟩ (.slice A2 nh c2)).setCell ⟨G,2,none⟩ (.bool true)):=by
 have g0:=yb6 (i:=0) hg (.slice A1 nn c1)
 have g1:=yb6 (i:=1) g0 (.slice A2 nh c2)
 have g2:=yb6 (i:=2) g1 (.bool true)
 exact ⟨Below.setCell (Below.setCell (Below.setCell b h1 _) h1 _) h1 _,h1,A1,c1,A2,c2,g2,
  yak (yak (yak o1 (ycv o1 hg hne) _) (ycv o1 hg hne) _) (ycv o1 hg hne) _,
  yak (yak (yak o2 (ycv o2 hg hne) _) (ycv o2 hg hne) _) (ycv o2 hg hne) _,d⟩
theorem yes {w:World} {k:Nat} {o:Obj} (h:w.heap[k]?=some o):w.drew.heap[k]?=some o:=h
theorem yf6 {W w1:World} {r:Option Nat} {K:Nat} (h:W.grownBy w1 r) (e:r=some K):∀ b,b<W.heap.size→b≠K→w1.heap[b]?=W.heap[b]?:=by
 subst e
 exact fun b h1 h2=>h.block b h1 (fun e=>h2 (Option.some.inj e))
theorem yfa {W w1:World} {r:Option Nat} {K B:Nat} (h:W.grownBy w1 r) (e:r=some K) (h1:B≤W.heap.size) (h2:B≤K):Below B W w1:=by
 subst e
 exact yd4 h h1 (fun k e=>by have:=Option.some.inj e;omega)
theorem yrn {w:World} {a:Addr} {v:Value} (h:w.cell? a=some v):w.drew.cell? a=some v:=h
theorem yfh {w:World} {c:Array Value} {t n i:Nat} {v:Value} (hn:n=w.heap.size) (hv:c[i]?=some v):(w.alloc (.cells c t)).cell? ⟨n,i,none⟩=some v:=by subst hn;simp [hv]
theorem ygt {w:World} {o:Obj} {n i:Nat} {v:Value} (hn:n<w.heap.size) (h:w.cell? ⟨n,i,none⟩=some v):(w.alloc o).cell? ⟨n,i,none⟩=some v:=(World.cell?_alloc_lt w o _ hn).trans h
theorem ysq {w:World} {a:Addr} (h:w.frozen? a=false):w.drew.frozen? a=false:=h
theorem yf9 {w:World} {c:Array Value} {t n i:Nat} (hn:n=w.heap.size):(w.alloc (.cells c t)).frozen? ⟨n,i,none⟩=false:=by subst hn;rw[frozen?_alloc_cells];simp [World.frozen?]
theorem yho {w:World} {c:Array Value} {t:Nat} {a:Addr} (h:w.frozen? a=false):(w.alloc (.cells c t)).frozen? a=false:=(frozen?_alloc_cells w c t a).trans h
theorem yo7 (C:Value) (word:ByteArray) (args:List ByteArray) (count:Int) (Aa:Option Addr) (m ca:Nat) (Ac:Option Addr) (nc cc:Nat) (An Ah:Option Addr) (nn cn nh ch:Nat) (a:ByteArray) (w:World)
  (hm:args.length=m) (hra:Rd w 1 Aa m (strs args)) (h2:2≤m) (ha:args[0]?=some a) :
  Calls Tryz.prog 174 #[C,.agg #[.int .i64 6,.string word,.slice Aa m ca,.int .i64 count,.slice Ac nc cc],.agg #[.slice An nn cn,.slice Ah nh ch,.bool true]] w (yky (6,a) w):=by
 obtain ⟨w0,hw0⟩:∃ w0,w0=(w.alloc (.cells #[.int .i64 6,.string word,.slice Aa m ca,.int .i64 count,.slice Ac nc cc] 66)).alloc (.cells #[.slice An nn cn,.slice Ah nh ch,.bool true] 151):=⟨_,rfl⟩
 have X0:=hD (show w0.heap[w.heap.size]?=some (.cells #[.int .i64 6,.string word,.slice Aa m ca,.int .i64 count,.slice Ac nc cc] 66 (0,0)) by rw[hw0];exact ydo _ _ _)
 have X1:=hD (show w0.heap[w.heap.size+1]?=some (.cells #[.slice An nn cn,.slice Ah nh ch,.bool true] 151 (0,0)) by rw[hw0];exact yem _ _ _)
 have b0:Below w.heap.size w w0:=by rw[hw0];exact Zq0
 have hz:w.heap.size+1<w0.heap.size:=by rw[hw0];simp
 have HW:=hD hw0
 have hraA:=hra.below b0
 have B0:=hD b0
 obtain ⟨p0,p1,p2,p3,p4⟩:=yas (lay:=Below.refl _ _) X0.out
 obtain ⟨q0,q1,q2⟩:=ybz (lay:=Below.refl _ _) X1.out
 obtain ⟨b,off,rfl,hbl,hcl⟩:=hraA.2 Zq6
 obtain ⟨a1,ha1⟩:∃ a1,args[1]?=some a1:=⟨_,List.getElem?_eq_getElem Zq6⟩
 have r0:=hcl 0 _ (ybr ha)
 have r1:=hcl 1 _ (ybr ha1)
 simp only[Nat.add_zero] at r0
 clear hw0 b0 hra hraA hcl ha ha1 hm
 go_enter Tryz.func174,Tryz.ntmps174
 go_upto_region 1 with (fail)
 rw[←HW.out]
 go_wp2_with fail
 go_ret2
 exact ⟨rfl,B0.out,B0.out.size⟩
theorem Zq1 {p:Prop} (h:p:=by first|(simp <;> fail)|(simp;omega)|omega):p:=h
theorem Zq2 {p:Prop} (h:p:=by first|assumption|exact yeb Zq1|(refine yes ?_;first|assumption|exact yeb Zq1|(refine yes ?_;first|assumption|exact yeb Zq1|(refine yim Zq1 ?_;first|assumption|exact yeb Zq1|(refine yes ?_;first|assumption|exact yeb Zq1)))|(refine yim Zq1 ?_;first|assumption|exact yeb Zq1|(refine yes ?_;first|assumption|exact yeb Zq1)))|(refine yim Zq1 ?_;first|assumption|exact yeb Zq1|(refine yes ?_;first|assumption|exact yeb Zq1|(refine yim Zq1 ?_;first|assumption|exact yeb Zq1|(refine yes ?_;first|assumption|exact yeb Zq1)))|(refine yim Zq1 ?_;first|assumption|exact yeb Zq1|(refine yes ?_;first|assumption|exact yeb Zq1)))):p:=h
theorem Zq3 {p:Prop} (h:p:=by first|assumption|(first|exact yfh Zq1 rfl|(refine ygt Zq1 ?_;first|assumption|exact yfh Zq1 rfl|(refine ygt Zq1 ?_;first|assumption|exact yfh Zq1 rfl))|(refine yrn ?_;first|assumption|exact yfh Zq1 rfl|(refine ygt Zq1 ?_;first|assumption|exact yfh Zq1 rfl|(refine ygt Zq1 ?_;first|assumption|exact yfh Zq1 rfl))))):p:=h
theorem Zq4 {p:Prop} (h:p:=by first|assumption|(first|exact yf9 Zq1|(refine yho ?_;first|assumption|exact yf9 Zq1|(refine yho ?_;first|assumption|exact yf9 Zq1))|(refine ysq ?_;first|assumption|exact yf9 Zq1|(refine yho ?_;first|assumption|exact yf9 Zq1|(refine yho ?_;first|assumption|exact yf9 Zq1))))):p:=h
theorem Zq7 {p:Prop} (h:p:=by show _≠_;dsimp only;omega):p:=h
theorem yoq (C:Value) (k:Int) (word:ByteArray) (names held:List ByteArray) (count:Int) (Aa:Option Addr) (m ca:Nat) (Ac:Option Addr) (nc cc:Nat) (An Ah:Option Addr) (nn cn nh ch:Nat) (ns:Bool) (w:World)
  (args:List ByteArray) (hm:args.length=m) (hra:Rd w 1 Aa m (strs args)) (hca:m≤ca) (hkr:1≤k∧k≤7) (h6:k=6→2≤m) (h4:4≤k→1≤m) (h1:m≤1048576) (hnn:names.length=nn) (hrn:Rd w 1 An nn (strs names)) (hnh:held.length=nh) (hrh:Rd w 1 Ah nh (strs held)) (h2:nn≤1048576) (h3:nh≤1048576) (hn4:nn≤4) (h67:6≤k→ns=true) :
  Calls Tryz.prog 148 #[C,.agg #[.int .i64 k,.string word,.slice Aa m ca,.int .i64 count,.slice Ac nc cc],.agg #[.slice An nn cn,.slice Ah nh ch,.bool ns]] w (yrl (yb8 ⟨k,word,args,count⟩ names held) w):=by
 obtain ⟨i0,hi,hz0,hz1,hz2⟩:=info_parts ydh
 obtain ⟨w0,hw0⟩:∃ w0,w0=((w.alloc (.cells #[.int .i64 k,.string word,.slice Aa m ca,.int .i64 count,.slice Ac nc cc] 66)).alloc (.cells #[.slice An nn cn,.slice Ah nh ch,.bool ns] 151)).alloc (.cells #[.slice none 0 0,.slice none 0 0,.bool false] 151):=⟨_,rfl⟩
 have X0:=hD (show w0.heap[w.heap.size]?=some (.cells #[.int .i64 k,.string word,.slice Aa m ca,.int .i64 count,.slice Ac nc cc] 66 (0,0)) by rw[hw0];exact ydp _ _ _ _)
 have X2:=hD (show w0.heap[w.heap.size+2]?=some (.cells #[.slice none 0 0,.slice none 0 0,.bool false] 151 (0,0)) by rw[hw0];exact ycx _ _ _ _)
 have X1:=hD (show w0.heap[w.heap.size+1]?=some (.cells #[.slice An nn cn,.slice Ah nh ch,.bool ns] 151 (0,0)) by rw[hw0];exact ycw _ _ _ _)
 have b0:Below w.heap.size w w0:=by rw[hw0];exact Zq0
 have hz:w.heap.size+1+1<w0.heap.size:=by rw[hw0];simp
 have hz1':w.heap.size+1<w0.heap.size:=by omega
 have HW:=hD hw0
 have HA:=hD (hra.below b0)
 have B0:=hD b0
 have H67:=hD h67
 have HN4:=hD hn4
 have HM:=hD hm
 have HNN:=hD hnn
 have HNH:=hD hnh
 have HN:=hD (hrn.below b0)
 have HH:=hD (hrh.below b0)
 obtain ⟨q0,q1,q2⟩:=ybz (lay:=Below.refl _ _) X1.out
 clear hw0 b0 hrn hrh hra hm hnn hnh h67 hn4
 go_enter Tryz.func148,Tryz.ntmps148
 go_upto_region 1 with (fail)
 rw[←HW.out]
 go_cut [9] (fun v wc=>∃ G:Nat,v=.pointer (some ⟨G,0,none⟩)∧Two w0.heap.size G 151 9 nn nh names held w0 wc)
 case first =>
  go_wp2_with fail
  go_region_held3 (fun W=>W.cell? ⟨w.heap.size+1,0,none⟩=some (.slice An nn cn)∧W.cell? ⟨w.heap.size+1,1,none⟩=some (.slice Ah nh ch)) (first|exact ⟨((show Below w0.heap.size w0 _ from Zq0).cell (p:=⟨w.heap.size+1,0,none⟩) hz1').trans q0,((show Below w0.heap.size w0 _ from Zq0).cell (p:=⟨w.heap.size+1,1,none⟩) hz1').trans q1⟩|go_keep) (first|(refine ydl _ (by rfl) (.tmp 15) (.tmp 17) 24 (by rfl) w0.heap.size 9 i0 _ 1 16 Tryz.underlying24 hi hz0 hz1 hz2 (by rfl) Zq9 _ 0 [] (by rfl) (by exact yhn Zq2 Zq1) _ nn _ (strs names) (by rfl) (by exact HN.out.below Zq0) (yfr _) Zq13 Zq6 Zq1 ?_;intro v1 w1 own1 gr1 at1;simp only[Nat.zero_add,List.nil_append] at own1;obtain ⟨A1,c1,rfl,_,_,_⟩:=yah own1;obtain ⟨u1,u2,u3⟩:=yfn gr1 rfl;obtain hp1:=yf6 gr1 rfl;have bb1:Below w0.heap.size w0 w1:=Below.trans Zq0 (yfa gr1 rfl Zq1 Zq1);(try have lt10:w0.heap.size<w1.heap.size:=by have hh:=u3;simp at hh;omega);(try have lt11:w0.heap.size+1<w1.heap.size:=by have hh:=u3;simp at hh;omega);(try have lt12:w0.heap.size+1+1<w1.heap.size:=by have hh:=u3;simp at hh;omega);(try have lt13:w2.heap.size<w1.heap.size:=by have hh:=u3;simp at hh;omega);(try have lt14:w2.heap.size+1<w1.heap.size:=by have hh:=u3;simp at hh;omega);(try have ne10:¬ w1.heap.size=w0.heap.size:=by omega);(try have ne11:¬ w1.heap.size=w0.heap.size+1:=by omega);(try have ne12:¬ w1.heap.size=w0.heap.size+1+1:=by omega);(try have ne13:¬ w1.heap.size=w2.heap.size:=by omega);(try have ne14:¬ w1.heap.size=w2.heap.size+1:=by omega);(try have l10:w1.heap[w0.heap.size]?=some (.cells #[] 9 (0,0)):=(hp1 (w0.heap.size) Zq1 Zq7).trans Zq2);(try have l11:w1.heap[w0.heap.size+1]?=some (.cells #[] 9 (0,0)):=(hp1 (w0.heap.size+1) Zq1 Zq7).trans Zq2);(try have l12:w1.heap[w0.heap.size+1+1]?=some (.cells #[] 9 (0,0)):=(hp1 (w0.heap.size+1+1) Zq1 Zq7).trans Zq2);(try have l13:w1.heap[w2.heap.size]?=some (.cells #[] 9 (0,0)):=(hp1 (w2.heap.size) Zq1 Zq7).trans Zq2);(try have l14:w1.heap[w2.heap.size+1]?=some (.cells #[] 9 (0,0)):=(hp1 (w2.heap.size+1) Zq1 Zq7).trans Zq2);(try have s10:w1.heap[w0.heap.size]?=some (.cells #[.slice none 0 0,.slice none 0 0,.bool false] 151 (0,0)):=(hp1 (w0.heap.size) Zq1 Zq7).trans Zq2);(try have s11:w1.heap[w0.heap.size+1]?=some (.cells #[.slice none 0 0,.slice none 0 0,.bool false] 151 (0,0)):=(hp1 (w0.heap.size+1) Zq1 Zq7).trans Zq2);(try have s12:w1.heap[w0.heap.size+1+1]?=some (.cells #[.slice none 0 0,.slice none 0 0,.bool false] 151 (0,0)):=(hp1 (w0.heap.size+1+1) Zq1 Zq7).trans Zq2);(try have s13:w1.heap[w2.heap.size]?=some (.cells #[.slice none 0 0,.slice none 0 0,.bool false] 151 (0,0)):=(hp1 (w2.heap.size) Zq1 Zq7).trans Zq2);(try have s14:w1.heap[w2.heap.size+1]?=some (.cells #[.slice none 0 0,.slice none 0 0,.bool false] 151 (0,0)):=(hp1 (w2.heap.size+1) Zq1 Zq7).trans Zq2);(try have g100:w1.cell? ⟨w0.heap.size,0,none⟩=some (.slice none 0 0):=(u1 (w0.heap.size) 0 Zq1 Zq7).trans Zq3);(try have f100:w1.frozen? ⟨w0.heap.size,0,none⟩=false:=(u2 (w0.heap.size) 0 Zq1 Zq7).trans Zq4);(try have g101:w1.cell? ⟨w0.heap.size,1,none⟩=some (.slice none 0 0):=(u1 (w0.heap.size) 1 Zq1 Zq7).trans Zq3);(try have f101:w1.frozen? ⟨w0.heap.size,1,none⟩=false:=(u2 (w0.heap.size) 1 Zq1 Zq7).trans Zq4);(try have g102:w1.cell? ⟨w0.heap.size,2,none⟩=some (.bool false):=(u1 (w0.heap.size) 2 Zq1 Zq7).trans Zq3);(try have f102:w1.frozen? ⟨w0.heap.size,2,none⟩=false:=(u2 (w0.heap.size) 2 Zq1 Zq7).trans Zq4);(try have g110:w1.cell? ⟨w0.heap.size+1,0,none⟩=some (.slice none 0 0):=(u1 (w0.heap.size+1) 0 Zq1 Zq7).trans Zq3);(try have f110:w1.frozen? ⟨w0.heap.size+1,0,none⟩=false:=(u2 (w0.heap.size+1) 0 Zq1 Zq7).trans Zq4);(try have g111:w1.cell? ⟨w0.heap.size+1,1,none⟩=some (.slice none 0 0):=(u1 (w0.heap.size+1) 1 Zq1 Zq7).trans Zq3);(try have f111:w1.frozen? ⟨w0.heap.size+1,1,none⟩=false:=(u2 (w0.heap.size+1) 1 Zq1 Zq7).trans Zq4);(try have g112:w1.cell? ⟨w0.heap.size+1,2,none⟩=some (.bool false):=(u1 (w0.heap.size+1) 2 Zq1 Zq7).trans Zq3);(try have f112:w1.frozen? ⟨w0.heap.size+1,2,none⟩=false:=(u2 (w0.heap.size+1) 2 Zq1 Zq7).trans Zq4);(try have g120:w1.cell? ⟨w0.heap.size+1+1,0,none⟩=some (.slice none 0 0):=(u1 (w0.heap.size+1+1) 0 Zq1 Zq7).trans Zq3);(try have f120:w1.frozen? ⟨w0.heap.size+1+1,0,none⟩=false:=(u2 (w0.heap.size+1+1) 0 Zq1 Zq7).trans Zq4);(try have g121:w1.cell? ⟨w0.heap.size+1+1,1,none⟩=some (.slice none 0 0):=(u1 (w0.heap.size+1+1) 1 Zq1 Zq7).trans Zq3);(try have f121:w1.frozen? ⟨w0.heap.size+1+1,1,none⟩=false:=(u2 (w0.heap.size+1+1) 1 Zq1 Zq7).trans Zq4);(try have g122:w1.cell? ⟨w0.heap.size+1+1,2,none⟩=some (.bool false):=(u1 (w0.heap.size+1+1) 2 Zq1 Zq7).trans Zq3);(try have f122:w1.frozen? ⟨w0.heap.size+1+1,2,none⟩=false:=(u2 (w0.heap.size+1+1) 2 Zq1 Zq7).trans Zq4);(try have g130:w1.cell? ⟨w2.heap.size,0,none⟩=some (.slice none 0 0):=(u1 (w2.heap.size) 0 Zq1 Zq7).trans Zq3);(try have f130:w1.frozen? ⟨w2.heap.size,0,none⟩=false:=(u2 (w2.heap.size) 0 Zq1 Zq7).trans Zq4);(try have g131:w1.cell? ⟨w2.heap.size,1,none⟩=some (.slice none 0 0):=(u1 (w2.heap.size) 1 Zq1 Zq7).trans Zq3);(try have f131:w1.frozen? ⟨w2.heap.size,1,none⟩=false:=(u2 (w2.heap.size) 1 Zq1 Zq7).trans Zq4);(try have g132:w1.cell? ⟨w2.heap.size,2,none⟩=some (.bool false):=(u1 (w2.heap.size) 2 Zq1 Zq7).trans Zq3);(try have f132:w1.frozen? ⟨w2.heap.size,2,none⟩=false:=(u2 (w2.heap.size) 2 Zq1 Zq7).trans Zq4);(try have g140:w1.cell? ⟨w2.heap.size+1,0,none⟩=some (.slice none 0 0):=(u1 (w2.heap.size+1) 0 Zq1 Zq7).trans Zq3);(try have f140:w1.frozen? ⟨w2.heap.size+1,0,none⟩=false:=(u2 (w2.heap.size+1) 0 Zq1 Zq7).trans Zq4);(try have g141:w1.cell? ⟨w2.heap.size+1,1,none⟩=some (.slice none 0 0):=(u1 (w2.heap.size+1) 1 Zq1 Zq7).trans Zq3);(try have f141:w1.frozen? ⟨w2.heap.size+1,1,none⟩=false:=(u2 (w2.heap.size+1) 1 Zq1 Zq7).trans Zq4);(try have g142:w1.cell? ⟨w2.heap.size+1,2,none⟩=some (.bool false):=(u1 (w2.heap.size+1) 2 Zq1 Zq7).trans Zq3);(try have f142:w1.frozen? ⟨w2.heap.size+1,2,none⟩=false:=(u2 (w2.heap.size+1) 2 Zq1 Zq7).trans Zq4))|(refine ydl _ (by rfl) (.tmp 19) (.tmp 21) 24 (by rfl) w0.heap.size 9 i0 _ 1 16 Tryz.underlying24 hi hz0 hz1 hz2 (by rfl) Zq9 _ 0 [] (by rfl) (by exact yhn Zq2 Zq1) _ nh _ (strs held) (by rfl) (by exact HH.out.below Zq0) (yfr _) Zq13 Zq6 Zq1 ?_;intro v2 w2 own2 gr2 at2;simp only[Nat.zero_add,List.nil_append] at own2;obtain ⟨A2,c2,rfl,_,_,_⟩:=yah own2;obtain ⟨u4,u5,u6⟩:=yfn gr2 rfl;obtain hp2:=yf6 gr2 rfl;have bb2:Below w0.heap.size w0 w2:=Below.trans Zq0 (yfa gr2 rfl Zq1 Zq1);(try have lt20:w0.heap.size<w2.heap.size:=by have hh:=u6;simp at hh;omega);(try have lt21:w0.heap.size+1<w2.heap.size:=by have hh:=u6;simp at hh;omega);(try have lt22:w0.heap.size+1+1<w2.heap.size:=by have hh:=u6;simp at hh;omega);(try have lt23:w1.heap.size<w2.heap.size:=by have hh:=u6;simp at hh;omega);(try have lt24:w1.heap.size+1<w2.heap.size:=by have hh:=u6;simp at hh;omega);(try have ne20:¬ w2.heap.size=w0.heap.size:=by omega);(try have ne21:¬ w2.heap.size=w0.heap.size+1:=by omega);(try have ne22:¬ w2.heap.size=w0.heap.size+1+1:=by omega);(try have ne23:¬ w2.heap.size=w1.heap.size:=by omega);(try have ne24:¬ w2.heap.size=w1.heap.size+1:=by omega);(try have l20:w2.heap[w0.heap.size]?=some (.cells #[] 9 (0,0)):=(hp2 (w0.heap.size) Zq1 Zq7).trans Zq2);(try have l21:w2.heap[w0.heap.size+1]?=some (.cells #[] 9 (0,0)):=(hp2 (w0.heap.size+1) Zq1 Zq7).trans Zq2);(try have l22:w2.heap[w0.heap.size+1+1]?=some (.cells #[] 9 (0,0)):=(hp2 (w0.heap.size+1+1) Zq1 Zq7).trans Zq2);(try have l23:w2.heap[w1.heap.size]?=some (.cells #[] 9 (0,0)):=(hp2 (w1.heap.size) Zq1 Zq7).trans Zq2);(try have l24:w2.heap[w1.heap.size+1]?=some (.cells #[] 9 (0,0)):=(hp2 (w1.heap.size+1) Zq1 Zq7).trans Zq2);(try have s20:w2.heap[w0.heap.size]?=some (.cells #[.slice none 0 0,.slice none 0 0,.bool false] 151 (0,0)):=(hp2 (w0.heap.size) Zq1 Zq7).trans Zq2);(try have s21:w2.heap[w0.heap.size+1]?=some (.cells #[.slice none 0 0,.slice none 0 0,.bool false] 151 (0,0)):=(hp2 (w0.heap.size+1) Zq1 Zq7).trans Zq2);(try have s22:w2.heap[w0.heap.size+1+1]?=some (.cells #[.slice none 0 0,.slice none 0 0,.bool false] 151 (0,0)):=(hp2 (w0.heap.size+1+1) Zq1 Zq7).trans Zq2);(try have s23:w2.heap[w1.heap.size]?=some (.cells #[.slice none 0 0,.slice none 0 0,.bool false] 151 (0,0)):=(hp2 (w1.heap.size) Zq1 Zq7).trans Zq2);(try have s24:w2.heap[w1.heap.size+1]?=some (.cells #[.slice none 0 0,.slice none 0 0,.bool false] 151 (0,0)):=(hp2 (w1.heap.size+1) Zq1 Zq7).trans Zq2);(try have g200:w2.cell? ⟨w0.heap.size,0,none⟩=some (.slice none 0 0):=(u4 (w0.heap.size) 0 Zq1 Zq7).trans Zq3);(try have f200:w2.frozen? ⟨w0.heap.size,0,none⟩=false:=(u5 (w0.heap.size) 0 Zq1 Zq7).trans Zq4);(try have g201:w2.cell? ⟨w0.heap.size,1,none⟩=some (.slice none 0 0):=(u4 (w0.heap.size) 1 Zq1 Zq7).trans Zq3);(try have f201:w2.frozen? ⟨w0.heap.size,1,none⟩=false:=(u5 (w0.heap.size) 1 Zq1 Zq7).trans Zq4);(try have g202:w2.cell? ⟨w0.heap.size,2,none⟩=some (.bool false):=(u4 (w0.heap.size) 2 Zq1 Zq7).trans Zq3);(try have f202:w2.frozen? ⟨w0.heap.size,2,none⟩=false:=(u5 (w0.heap.size) 2 Zq1 Zq7).trans Zq4);(try have g210:w2.cell? ⟨w0.heap.size+1,0,none⟩=some (.slice none 0 0):=(u4 (w0.heap.size+1) 0 Zq1 Zq7).trans Zq3);(try have f210:w2.frozen? ⟨w0.heap.size+1,0,none⟩=false:=(u5 (w0.heap.size+1) 0 Zq1 Zq7).trans Zq4);(try have g211:w2.cell? ⟨w0.heap.size+1,1,none⟩=some (.slice none 0 0):=(u4 (w0.heap.size+1) 1 Zq1 Zq7).trans Zq3);(try have f211:w2.frozen? ⟨w0.heap.size+1,1,none⟩=false:=(u5 (w0.heap.size+1) 1 Zq1 Zq7).trans Zq4);(try have g212:w2.cell? ⟨w0.heap.size+1,2,none⟩=some (.bool false):=(u4 (w0.heap.size+1) 2 Zq1 Zq7).trans Zq3);(try have f212:w2.frozen? ⟨w0.heap.size+1,2,none⟩=false:=(u5 (w0.heap.size+1) 2 Zq1 Zq7).trans Zq4);(try have g220:w2.cell? ⟨w0.heap.size+1+1,0,none⟩=some (.slice none 0 0):=(u4 (w0.heap.size+1+1) 0 Zq1 Zq7).trans Zq3);(try have f220:w2.frozen? ⟨w0.heap.size+1+1,0,none⟩=false:=(u5 (w0.heap.size+1+1) 0 Zq1 Zq7).trans Zq4);(try have g221:w2.cell? ⟨w0.heap.size+1+1,1,none⟩=some (.slice none 0 0):=(u4 (w0.heap.size+1+1) 1 Zq1 Zq7).trans Zq3);(try have f221:w2.frozen? ⟨w0.heap.size+1+1,1,none⟩=false:=(u5 (w0.heap.size+1+1) 1 Zq1 Zq7).trans Zq4);(try have g222:w2.cell? ⟨w0.heap.size+1+1,2,none⟩=some (.bool false):=(u4 (w0.heap.size+1+1) 2 Zq1 Zq7).trans Zq3);(try have f222:w2.frozen? ⟨w0.heap.size+1+1,2,none⟩=false:=(u5 (w0.heap.size+1+1) 2 Zq1 Zq7).trans Zq4);(try have g230:w2.cell? ⟨w1.heap.size,0,none⟩=some (.slice none 0 0):=(u4 (w1.heap.size) 0 Zq1 Zq7).trans Zq3);(try have f230:w2.frozen? ⟨w1.heap.size,0,none⟩=false:=(u5 (w1.heap.size) 0 Zq1 Zq7).trans Zq4);(try have g231:w2.cell? ⟨w1.heap.size,1,none⟩=some (.slice none 0 0):=(u4 (w1.heap.size) 1 Zq1 Zq7).trans Zq3);(try have f231:w2.frozen? ⟨w1.heap.size,1,none⟩=false:=(u5 (w1.heap.size) 1 Zq1 Zq7).trans Zq4);(try have g232:w2.cell? ⟨w1.heap.size,2,none⟩=some (.bool false):=(u4 (w1.heap.size) 2 Zq1 Zq7).trans Zq3);(try have f232:w2.frozen? ⟨w1.heap.size,2,none⟩=false:=(u5 (w1.heap.size) 2 Zq1 Zq7).trans Zq4);(try have g240:w2.cell? ⟨w1.heap.size+1,0,none⟩=some (.slice none 0 0):=(u4 (w1.heap.size+1) 0 Zq1 Zq7).trans Zq3);(try have f240:w2.frozen? ⟨w1.heap.size+1,0,none⟩=false:=(u5 (w1.heap.size+1) 0 Zq1 Zq7).trans Zq4);(try have g241:w2.cell? ⟨w1.heap.size+1,1,none⟩=some (.slice none 0 0):=(u4 (w1.heap.size+1) 1 Zq1 Zq7).trans Zq3);(try have f241:w2.frozen? ⟨w1.heap.size+1,1,none⟩=false:=(u5 (w1.heap.size+1) 1 Zq1 Zq7).trans Zq4);(try have g242:w2.cell? ⟨w1.heap.size+1,2,none⟩=some (.bool false):=(u4 (w1.heap.size+1) 2 Zq1 Zq7).trans Zq3);(try have f242:w2.frozen? ⟨w1.heap.size+1,2,none⟩=false:=(u5 (w1.heap.size+1) 2 Zq1 Zq7).trans Zq4);have o12:w2.ownsRow w0.heap.size 9 1 (.slice A1 nn c1) nn (strs names):=World.ownsRow.kept (by first|exact own1|exact own1.alloc _|exact(own1.alloc _).alloc _) gr2 (.inr (ygs own1 at1 rfl (by (try dsimp only);first|(left;omega)|(right;exact ⟨Zq1,Zq1⟩))));have dis:=yrm own1 (ygs own1 at1 rfl (by (try dsimp only);first|(left;omega)|(right;exact ⟨Zq1,Zq1⟩))) at2 rfl Zq1))
  all_goals (go_wp2_with (fail);go_meet;refine ⟨_,rfl,?_⟩;first|exact yls bb2 Zq6 o12 own2 dis|exact yop bb2 Zq6 (by assumption) Zq9 o12 own2 dis)
 case rest =>
  obtain ⟨G,rfl,T0⟩:=hcut
  obtain ⟨wA,rfl⟩:∃ wA:World,wA=wc:=⟨_,rfl⟩
  obtain ⟨A1,c1,A2,c2,hG,o1,o2,dis⟩:=T0.rest
  have hlow:=T0.low
  have bA:=T0.bel
  have sA:=bA.size
  have HG:=hD hG
  have hGl:G<wA.heap.size:=(Array.getElem?_eq_some_iff.1 hG).1
  have O1:=hD o1
  have O2:=hD o2
  have DI:=hD dis
  obtain ⟨p0,p1,p2,p3,p4⟩:=yas (lay:=bA) X0.out
  obtain ⟨q0,q1,q2⟩:=ybz (lay:=bA) X1.out
  obtain ⟨f0,f1,f2⟩:=ybz (lay:=bA) X2.out
  obtain ⟨g0,g1,g2⟩:=ybz (lay:=Below.refl _ _) hG
  have fr2:=yce (j:=0) ((bA.block _ Zq6).trans X2.out)
  have fr3:=yce (j:=1) ((bA.block _ Zq6).trans X2.out)
  have fr4:=yce (j:=2) ((bA.block _ Zq6).trans X2.out)
  have HAA:=hD (HA.out.below bA)
  have HNA:=hD (HN.out.below bA)
  have HHA:=hD (HH.out.below bA)
  clear hG o1 o2 dis T0
  by_cases hk1:k=1
  ·subst hk1
   have HS:Hid (yb8 ⟨1,word,args,count⟩ names held=(yc0 names held args word,(names,held))):=by
    rw[yb8,if_pos rfl]
    exact rfl
   go_wp2_with (go_at_call 173;(with_reducible refine(yqi _ word args names held count Aa m ca _ An Ah nn cn nh ch ns wA HM.out HAA.out hca HNN.out HNA.out HNH.out HHA.out h1 h2 h3 ⟨_,_,_,rfl⟩).mono ?_);rintro e w' ⟨rfl,b',s'⟩;have bW:=bA.trans (b'.mono Zq6);obtain ⟨j0,j1,j2⟩:=ybz (lay:=b') HG.out;obtain ⟨e0,e1,e2⟩:=ybz (lay:=bW) X2.out;have fs2:=yce (j:=0) ((bW.block _ Zq6).trans X2.out);have fs3:=yce (j:=1) ((bW.block _ Zq6).trans X2.out);have fs4:=yce (j:=2) ((bW.block _ Zq6).trans X2.out))
   have o1':=O1.out.kept (row:=none) (w':=w') ⟨b'.os,b'.tape,b'.output,b'.size,fun i hi _=>b'.block i hi⟩ (Classical.em _)
   have o2':=O2.out.kept (row:=none) (w':=w') ⟨b'.os,b'.tape,b'.output,b'.size,fun i hi _=>b'.block i hi⟩ (Classical.em _)
   have x1:(Value.slice A1 nn c1).ownBlock≠some (w.heap.size+1+1):=fun e=>by have:=(o1'.lt _ e).1;omega
   have x2:(Value.slice A2 nh c2).ownBlock≠some (w.heap.size+1+1):=fun e=>by have:=(o2'.lt _ e).1;omega
   refine bodyPost_ret (v:=.tuple #[.agg #[.slice A1 nn c1,.slice A2 nh c2,.bool true],.int .i64 (yc0 names held args word).1,.string (yc0 names held args word).2]) (by simp [results,Tryz.results148,go_sem,e0,e1,e2]) rfl ?_
   exact ⟨A1,c1,A2,c2,nn,nh,by rw[HS.out],fun _=>by rw[HS.out];exact ⟨HNN.out,ybv (yak (yak (yak o1' x1 _) x1 _) x1 _),HNH.out,ybv (yak (yak (yak o2' x2 _) x2 _) x2 _)⟩,((((B0.out.trans (bA.mono Zq6)).trans (b'.mono Zq6)).setCell Zq10 _).setCell Zq10 _).setCell Zq10 _,by simp [World.setCell];omega⟩
  ·by_cases hk2:k=2
   ·subst hk2
    have HS:Hid (yb8 ⟨2,word,args,count⟩ names held=(bad0,(names,held))):=rfl
    clear hk1
    go_wp2_with fail
    have x1:(Value.slice A1 nn c1).ownBlock≠some (w.heap.size+1+1):=fun e=>by have:=(O1.out.lt _ e).1;omega
    have x2:(Value.slice A2 nh c2).ownBlock≠some (w.heap.size+1+1):=fun e=>by have:=(O2.out.lt _ e).1;omega
    refine bodyPost_ret (v:=.tuple #[.agg #[.slice A1 nn c1,.slice A2 nh c2,.bool true],.int .i64 0,.string ⟨#[]⟩]) (by simp [results,Tryz.results148,go_sem,f0,f1,f2]) rfl ?_
    exact ⟨A1,c1,A2,c2,nn,nh,by rw[HS.out];rfl,fun _=>by rw[HS.out];exact ⟨HNN.out,ybv (yak (yak (yak O1.out x1 _) x1 _) x1 _),HNH.out,ybv (yak (yak (yak O2.out x2 _) x2 _) x2 _)⟩,(((B0.out.trans (bA.mono Zq6)).setCell Zq10 _).setCell Zq10 _).setCell Zq10 _,by simp [World.setCell];omega⟩
   ·by_cases hk3:k=3
    ·subst hk3
     have HS:Hid (yb8 ⟨3,word,args,count⟩ names held=(bad0,(names,held))):=rfl
     clear hk1 hk2
     go_wp2_with fail
     have x1:(Value.slice A1 nn c1).ownBlock≠some (w.heap.size+1+1):=fun e=>by have:=(O1.out.lt _ e).1;omega
     have x2:(Value.slice A2 nh c2).ownBlock≠some (w.heap.size+1+1):=fun e=>by have:=(O2.out.lt _ e).1;omega
     refine bodyPost_ret (v:=.tuple #[.agg #[.slice A1 nn c1,.slice A2 nh c2,.bool true],.int .i64 0,.string ⟨#[]⟩]) (by simp [results,Tryz.results148,go_sem,f0,f1,f2]) rfl ?_
     exact ⟨A1,c1,A2,c2,nn,nh,by rw[HS.out];rfl,fun _=>by rw[HS.out];exact ⟨HNN.out,ybv (yak (yak (yak O1.out x1 _) x1 _) x1 _),HNH.out,ybv (yak (yak (yak O2.out x2 _) x2 _) x2 _)⟩,(((B0.out.trans (bA.mono Zq6)).setCell Zq10 _).setCell Zq10 _).setCell Zq10 _,by simp [World.setCell];omega⟩
    ·by_cases hk6:k=6
     ·subst hk6
      obtain rfl:ns=true:=H67.out Zq6
      have hm2:=h6 rfl
      obtain ⟨a,ha0⟩:∃ a,args[0]?=some a:=⟨_,List.getElem?_eq_getElem (by rw[HM.out];omega)⟩
      have ha:=hD ha0
      have HS:Hid (yb8 ⟨6,word,args,count⟩ names held=((6,a),(names,held))):=by
       have e:arg0 ⟨6,word,args,count⟩=a:=by unfold arg0;rw[List.getD_eq_getElem?_getD];show(args[0]?).getD _=a;rw[ha0];rfl
       rw[←e]
       exact rfl
      clear hk1 hk2 hk3 h6 h4 ha0
      go_wp2_with (go_at_call 174;(with_reducible refine(yo7 _ word args count Aa m ca Ac nc cc An Ah nn cn nh ch a wA HM.out HAA.out hm2 ha.out).mono ?_);rintro e w' ⟨rfl,b',s'⟩;have bW:=bA.trans (b'.mono Zq6);obtain ⟨j0,j1,j2⟩:=ybz (lay:=b') HG.out;obtain ⟨e0,e1,e2⟩:=ybz (lay:=bW) X2.out;have fs2:=yce (j:=0) ((bW.block _ Zq6).trans X2.out);have fs3:=yce (j:=1) ((bW.block _ Zq6).trans X2.out);have fs4:=yce (j:=2) ((bW.block _ Zq6).trans X2.out))
      have o1':=O1.out.kept (row:=none) (w':=w') ⟨b'.os,b'.tape,b'.output,b'.size,fun i hi _=>b'.block i hi⟩ (Classical.em _)
      have o2':=O2.out.kept (row:=none) (w':=w') ⟨b'.os,b'.tape,b'.output,b'.size,fun i hi _=>b'.block i hi⟩ (Classical.em _)
      have x1:(Value.slice A1 nn c1).ownBlock≠some (w.heap.size+1+1):=fun e=>by have:=(o1'.lt _ e).1;omega
      have x2:(Value.slice A2 nh c2).ownBlock≠some (w.heap.size+1+1):=fun e=>by have:=(o2'.lt _ e).1;omega
      refine bodyPost_ret (v:=.tuple #[.agg #[.slice A1 nn c1,.slice A2 nh c2,.bool true],.int .i64 6,.string a]) (by simp [results,Tryz.results148,go_sem,e0,e1,e2]) rfl ?_
      exact ⟨A1,c1,A2,c2,nn,nh,by rw[HS.out],fun _=>by rw[HS.out];exact ⟨HNN.out,ybv (yak (yak (yak o1' x1 _) x1 _) x1 _),HNH.out,ybv (yak (yak (yak o2' x2 _) x2 _) x2 _)⟩,((((B0.out.trans (bA.mono Zq6)).trans (b'.mono Zq6)).setCell Zq10 _).setCell Zq10 _).setCell Zq10 _,by simp [World.setCell];omega⟩
     ·have hm1:1≤m:=h4 Zq6
      obtain ⟨a,ha0⟩:∃ a,args[0]?=some a:=⟨_,List.getElem?_eq_getElem (by rw[HM.out];omega)⟩
      have HE:Hid (arg0 ⟨k,word,args,count⟩=a):=by unfold arg0;rw[List.getD_eq_getElem?_getD];show(args[0]?).getD _=a;rw[ha0];rfl
      obtain ⟨b,off,rfl,hbl,hcl⟩:=HAA.out.2 Zq6
      have r0:=hcl 0 _ (ybr ha0)
      simp only[Nat.add_zero] at r0
      clear hcl ha0 h6 h4
      by_cases hk7:k=7
      ·subst hk7
       obtain rfl:ns=true:=H67.out Zq6
       have HS:Hid (yb8 ⟨7,word,args,count⟩ names held=((6,a),(names,held))):=by
        rw[←HE.out]
        exact rfl
       clear hk1 hk2 hk3 hk6
       go_wp2_with fail
       have x1:(Value.slice A1 nn c1).ownBlock≠some (w.heap.size+1+1):=fun e=>by have:=(O1.out.lt _ e).1;omega
       have x2:(Value.slice A2 nh c2).ownBlock≠some (w.heap.size+1+1):=fun e=>by have:=(O2.out.lt _ e).1;omega
       refine bodyPost_ret (v:=.tuple #[.agg #[.slice A1 nn c1,.slice A2 nh c2,.bool true],.int .i64 6,.string a]) (by simp [results,Tryz.results148,go_sem,f0,f1,f2]) rfl ?_
       exact ⟨A1,c1,A2,c2,nn,nh,by rw[HS.out],fun _=>by rw[HS.out];exact ⟨HNN.out,ybv (yak (yak (yak O1.out x1 _) x1 _) x1 _),HNH.out,ybv (yak (yak (yak O2.out x2 _) x2 _) x2 _)⟩,(((B0.out.trans (bA.mono Zq6)).setCell Zq10 _).setCell Zq10 _).setCell Zq10 _,by simp [World.setCell];omega⟩
      ·by_cases hk4:k=4
       ·subst hk4
        have HT:Hid (yb8 ⟨4,word,args,count⟩ names held=(ycn names held a,(names,held++[a]))):=by
         rw[←HE.out]
         exact rfl
        clear hk1 hk2 hk3 hk6 hk7
        cases e1:hasS names a
        ·have HS:Hid (yb8 ⟨4,word,args,count⟩ names held=((2,a),(names,held++[a]))):=by rw[HT.out,ycn,if_pos e1];exact rfl
         go_wp2_with (first|(go_at_call 118;(with_reducible refine(yay An nn cn names a wA HNA.out HNN.out Zq6).mono ?_);rintro e w' ⟨rfl,rfl⟩)|(go_at_call 118;(with_reducible refine(yay Ah nh ch held a wA HHA.out HNH.out Zq6).mono ?_);rintro e w' ⟨rfl,rfl⟩))
         have x1:(Value.slice A1 nn c1).ownBlock≠some (w.heap.size+1+1):=fun e=>by have:=(O1.out.lt _ e).1;omega
         have x2:(Value.slice A2 nh c2).ownBlock≠some (w.heap.size+1+1):=fun e=>by have:=(O2.out.lt _ e).1;omega
         refine bodyPost_ret (v:=.tuple #[.agg #[.slice A1 nn c1,.slice A2 nh c2,.bool true],.int .i64 2,.string a]) (by simp [results,Tryz.results148,go_sem,f0,f1,f2]) rfl ?_
         exact ⟨A1,c1,A2,c2,nn,nh,by rw[HS.out],fun h0=>absurd h0 (by rw[HS.out];show ¬ (2:Int)=0;decide),(((B0.out.trans (bA.mono Zq6)).setCell Zq10 _).setCell Zq10 _).setCell Zq10 _,by simp [World.setCell];omega⟩
        ·cases e2:hasS held a
         ·have HS:Hid (yb8 ⟨4,word,args,count⟩ names held=(bad0,(names,held++[a]))):=by rw[HT.out,ycn,if_neg (by rw[e1];decide),if_neg (by rw[e2];decide)];exact rfl
          go_wp2_with (first|(first|(go_at_call 118;(with_reducible refine(yay An nn cn names a wA HNA.out HNN.out Zq6).mono ?_);rintro e w' ⟨rfl,rfl⟩)|(go_at_call 118;(with_reducible refine(yay Ah nh ch held a wA HHA.out HNH.out Zq6).mono ?_);rintro e w' ⟨rfl,rfl⟩))|(at_builtin;refine yae _ rfl _ _ 24 rfl w0.heap.size 9 i0 _ 1 16 Tryz.underlying24 hi hz0 hz1 hz2 rfl Zq9 _ _ _ rfl (O2.out.alloc _) _ 1 1 _ rfl (yg1 ?c0 rfl) ?c2 ?c3 ?c4 ?c5 ?_))
          case c0=>first|omega|rfl|(simp;done)
          case c2=>repeat' (first|rfl|apply And.intro)
          case c3=>simp only[maxLen];omega
          case c4=>omega
          case c5=>simp;omega
          intro v3 w3 own3 gr3 at3
          obtain ⟨A3,c3,rfl,_,_,_⟩:=yah own3
          have hx3:w3.heap[G]?=some (.cells #[.slice A1 nn c1,.slice A2 nh c2,.bool true] 151 (0,0)):=(gr3.block G Zq10 (fun e=>ycv O2.out HG.out Zq9 e.symm)).trans ((Below.heap_alloc _ _ _ Zq6).trans HG.out)
          have px3:=yaj (j:=1) (u:=.slice A2 nh c2) hx3 rfl
          have fx3:=yce (j:=1) hx3
          have hlx3:=lt_of_block hx3
          have g3b:=yd4 gr3 (B:=w0.heap.size) Zq10 (ybe O2.out)
          have bW3:Below w0.heap.size w0 w3:=(bA.alloc Zq6 _).trans g3b
          have hs3:=bW3.size
          have oX:w3.ownsRow w0.heap.size 9 1 (.slice A1 nn c1) nn (strs names):=World.ownsRow.kept (O1.out.alloc _) gr3 (by cases hh:(Value.slice A1 nn c1).ownBlock with|none=>exact .inl rfl|some k=>exact .inr (fun e=>DI.out k hh e.symm))
          clear gr3 at3 g3b p0 p1 p2 p3 p4 q0 q1 q2 f0 f1 f2 fr2 fr3 fr4 g0 g1 g2 r0
          go_upto_region 29 with (fail)
          obtain ⟨w4,hw4⟩:∃ w4,w4=w3.setCell ⟨G,1,none⟩ (.slice A3 (nh+1) c3):=⟨_,rfl⟩
          have hG4:w4.heap[G]?=some (.cells #[.slice A1 nn c1,.slice A3 (nh+1) c3,.bool true] 151 (0,0)):=by rw[hw4];exact yb6 hx3 _
          have bW4:Below w0.heap.size w0 w4:=by rw[hw4];exact bW3.setCell hlow _
          have hs4:=bW4.size
          have oY:w4.ownsRow w0.heap.size 9 1 (.slice A1 nn c1) nn (strs names):=by rw[hw4];exact yak oX (ycv oX hx3 Zq9) _
          have oN:w4.ownsRow w0.heap.size 9 1 (.slice A3 (nh+1) c3) (nh+1) (strs (held++[a])):=by rw[hw4,ye5];exact yak own3 (ycv own3 hx3 Zq9) _
          have OY:=hD oY
          have ON:=hD oN
          have HG4:=hD hG4
          have BW4:=hD bW4
          have W4:=hD hw4
          have hGl4:G<w4.heap.size:=lt_of_block hG4
          have hz4:w.heap.size+1+1<w4.heap.size:=by omega
          clear own3 hx3 px3 fx3 hlx3 bW3 hs3 oX hw4 hG4 bW4 oY oN
          obtain ⟨p0,p1,p2,p3,p4⟩:=yas (lay:=BW4.out) X0.out
          obtain ⟨q0,q1,q2⟩:=ybz (lay:=BW4.out) X1.out
          obtain ⟨f0,f1,f2⟩:=ybz (lay:=BW4.out) X2.out
          obtain ⟨g0,g1,g2⟩:=ybz (lay:=Below.refl _ _) HG4.out
          have fr2:=yce (j:=0) ((BW4.out.block _ Zq6).trans X2.out)
          have fr3:=yce (j:=1) ((BW4.out.block _ Zq6).trans X2.out)
          have fr4:=yce (j:=2) ((BW4.out.block _ Zq6).trans X2.out)
          rw[←W4.out]
          go_wp2_with fail
          have x1:(Value.slice A3 (nh+1) c3).ownBlock≠some (w.heap.size+1+1):=fun e=>by have:=(ON.out.lt _ e).1;omega
          have x2:(Value.slice A1 nn c1).ownBlock≠some (w.heap.size+1+1):=fun e=>by have:=(OY.out.lt _ e).1;omega
          refine bodyPost_ret (v:=.tuple #[.agg #[.slice A1 nn c1,.slice A3 (nh+1) c3,.bool true],.int .i64 0,.string ⟨#[]⟩]) (by simp [results,Tryz.results148,go_sem,f0,f1,f2]) rfl ?_
          exact ⟨A1,c1,A3,c3,nn,nh+1,by rw[HS.out];rfl,fun _=>by rw[HS.out];exact ⟨HNN.out,ybv (yak (yak (yak OY.out x2 _) x2 _) x2 _),(by rw[List.length_append,HNH.out];exact rfl),ybv (yak (yak (yak ON.out x1 _) x1 _) x1 _)⟩,(((B0.out.trans (BW4.out.mono Zq6)).setCell Zq10 _).setCell Zq10 _).setCell Zq10 _,by simp [World.setCell];omega⟩
         ·have HS:Hid (yb8 ⟨4,word,args,count⟩ names held=((4,a),(names,held++[a]))):=by rw[HT.out,ycn,if_neg (by rw[e1];decide),if_pos e2];exact rfl
          go_wp2_with (first|(go_at_call 118;(with_reducible refine(yay An nn cn names a wA HNA.out HNN.out Zq6).mono ?_);rintro e w' ⟨rfl,rfl⟩)|(go_at_call 118;(with_reducible refine(yay Ah nh ch held a wA HHA.out HNH.out Zq6).mono ?_);rintro e w' ⟨rfl,rfl⟩))
          have x1:(Value.slice A1 nn c1).ownBlock≠some (w.heap.size+1+1):=fun e=>by have:=(O1.out.lt _ e).1;omega
          have x2:(Value.slice A2 nh c2).ownBlock≠some (w.heap.size+1+1):=fun e=>by have:=(O2.out.lt _ e).1;omega
          refine bodyPost_ret (v:=.tuple #[.agg #[.slice A1 nn c1,.slice A2 nh c2,.bool true],.int .i64 4,.string a]) (by simp [results,Tryz.results148,go_sem,f0,f1,f2]) rfl ?_
          exact ⟨A1,c1,A2,c2,nn,nh,by rw[HS.out],fun h0=>absurd h0 (by rw[HS.out];show ¬ (4:Int)=0;decide),(((B0.out.trans (bA.mono Zq6)).setCell Zq10 _).setCell Zq10 _).setCell Zq10 _,by simp [World.setCell];omega⟩
       ·obtain rfl:k=5:=by omega
        have HT:Hid (yb8 ⟨5,word,args,count⟩ names held=(if hasS names a=true then ((1,a),(names,held)) else if names.length=4 then ((5,a),(names,held)) else (bad0,(names++[a],held)))):=by
         rw[←HE.out]
         exact rfl
        clear hk1 hk2 hk3 hk6 hk7 hk4
        cases e1:hasS names a
        ·by_cases h4:nn=4
         ·have HS:Hid (yb8 ⟨5,word,args,count⟩ names held=((5,a),(names,held))):=by rw[HT.out,if_neg (by rw[e1];decide),if_pos (by rw[HNN.out];exact h4)];exact rfl
          have d4:decide ((4:Int)≤(nn:Int))=true:=by simp;omega
          have d4':decide (4≤nn)=true:=by simp;omega
          have H4:=hD h4
          clear h4
          go_wp2_with (first|(go_at_call 118;(with_reducible refine(yay An nn cn names a wA HNA.out HNN.out Zq6).mono ?_);rintro e w' ⟨rfl,rfl⟩)|(go_at_call 118;(with_reducible refine(yay Ah nh ch held a wA HHA.out HNH.out Zq6).mono ?_);rintro e w' ⟨rfl,rfl⟩))
          have x1:(Value.slice A1 nn c1).ownBlock≠some (w.heap.size+1+1):=fun e=>by have:=(O1.out.lt _ e).1;omega
          have x2:(Value.slice A2 nh c2).ownBlock≠some (w.heap.size+1+1):=fun e=>by have:=(O2.out.lt _ e).1;omega
          refine bodyPost_ret (v:=.tuple #[.agg #[.slice A1 nn c1,.slice A2 nh c2,.bool true],.int .i64 5,.string a]) (by simp [results,Tryz.results148,go_sem,f0,f1,f2]) rfl ?_
          exact ⟨A1,c1,A2,c2,nn,nh,by rw[HS.out],fun h0=>absurd h0 (by rw[HS.out];show ¬ (5:Int)=0;decide),(((B0.out.trans (bA.mono Zq6)).setCell Zq10 _).setCell Zq10 _).setCell Zq10 _,by simp [World.setCell];omega⟩
         ·have hn3:nn≤3:=by have:=HN4.out;omega
          have HS:Hid (yb8 ⟨5,word,args,count⟩ names held=(bad0,(names++[a],held))):=by rw[HT.out,if_neg (by rw[e1];decide),if_neg (by rw[HNN.out];exact h4)];exact rfl
          have d4:decide ((4:Int)≤(nn:Int))=false:=by simp;omega
          have d4':decide (4≤nn)=false:=by simp;omega
          have H4:=hD h4
          clear h4
          go_wp2_with (first|(first|(go_at_call 118;(with_reducible refine(yay An nn cn names a wA HNA.out HNN.out Zq6).mono ?_);rintro e w' ⟨rfl,rfl⟩)|(go_at_call 118;(with_reducible refine(yay Ah nh ch held a wA HHA.out HNH.out Zq6).mono ?_);rintro e w' ⟨rfl,rfl⟩))|(at_builtin;refine yae _ rfl _ _ 24 rfl w0.heap.size 9 i0 _ 1 16 Tryz.underlying24 hi hz0 hz1 hz2 rfl Zq9 _ _ _ rfl (O1.out.alloc _) _ 1 1 _ rfl (yg1 ?c0 rfl) ?c2 ?c3 ?c4 ?c5 ?_))
          case c0=>first|omega|rfl|(simp;done)
          case c2=>repeat' (first|rfl|apply And.intro)
          case c3=>simp only[maxLen];omega
          case c4=>omega
          case c5=>simp;omega
          intro v3 w3 own3 gr3 at3
          obtain ⟨A3,c3,rfl,_,_,_⟩:=yah own3
          have hx3:w3.heap[G]?=some (.cells #[.slice A1 nn c1,.slice A2 nh c2,.bool true] 151 (0,0)):=(gr3.block G Zq10 (fun e=>ycv O1.out HG.out Zq9 e.symm)).trans ((Below.heap_alloc _ _ _ Zq6).trans HG.out)
          have px3:=yaj (j:=0) (u:=.slice A1 nn c1) hx3 rfl
          have fx3:=yce (j:=0) hx3
          have hlx3:=lt_of_block hx3
          have g3b:=yd4 gr3 (B:=w0.heap.size) Zq10 (ybe O1.out)
          have bW3:Below w0.heap.size w0 w3:=(bA.alloc Zq6 _).trans g3b
          have hs3:=bW3.size
          have oX:w3.ownsRow w0.heap.size 9 1 (.slice A2 nh c2) nh (strs held):=World.ownsRow.kept (O2.out.alloc _) gr3 (by cases hh:(Value.slice A2 nh c2).ownBlock with|none=>exact .inl rfl|some k=>exact .inr (fun e=>DI.out k e.symm hh))
          clear gr3 at3 g3b p0 p1 p2 p3 p4 q0 q1 q2 f0 f1 f2 fr2 fr3 fr4 g0 g1 g2 r0
          go_upto_region 29 with (fail)
          obtain ⟨w4,hw4⟩:∃ w4,w4=w3.setCell ⟨G,0,none⟩ (.slice A3 (nn+1) c3):=⟨_,rfl⟩
          have hG4:w4.heap[G]?=some (.cells #[.slice A3 (nn+1) c3,.slice A2 nh c2,.bool true] 151 (0,0)):=by rw[hw4];exact yb6 hx3 _
          have bW4:Below w0.heap.size w0 w4:=by rw[hw4];exact bW3.setCell hlow _
          have hs4:=bW4.size
          have oY:w4.ownsRow w0.heap.size 9 1 (.slice A2 nh c2) nh (strs held):=by rw[hw4];exact yak oX (ycv oX hx3 Zq9) _
          have oN:w4.ownsRow w0.heap.size 9 1 (.slice A3 (nn+1) c3) (nn+1) (strs (names++[a])):=by rw[hw4,ye5];exact yak own3 (ycv own3 hx3 Zq9) _
          have OY:=hD oY
          have ON:=hD oN
          have HG4:=hD hG4
          have BW4:=hD bW4
          have W4:=hD hw4
          have hGl4:G<w4.heap.size:=lt_of_block hG4
          have hz4:w.heap.size+1+1<w4.heap.size:=by omega
          clear own3 hx3 px3 fx3 hlx3 bW3 hs3 oX hw4 hG4 bW4 oY oN
          obtain ⟨p0,p1,p2,p3,p4⟩:=yas (lay:=BW4.out) X0.out
          obtain ⟨q0,q1,q2⟩:=ybz (lay:=BW4.out) X1.out
          obtain ⟨f0,f1,f2⟩:=ybz (lay:=BW4.out) X2.out
          obtain ⟨g0,g1,g2⟩:=ybz (lay:=Below.refl _ _) HG4.out
          have fr2:=yce (j:=0) ((BW4.out.block _ Zq6).trans X2.out)
          have fr3:=yce (j:=1) ((BW4.out.block _ Zq6).trans X2.out)
          have fr4:=yce (j:=2) ((BW4.out.block _ Zq6).trans X2.out)
          rw[←W4.out]
          go_wp2_with fail
          have x1:(Value.slice A3 (nn+1) c3).ownBlock≠some (w.heap.size+1+1):=fun e=>by have:=(ON.out.lt _ e).1;omega
          have x2:(Value.slice A2 nh c2).ownBlock≠some (w.heap.size+1+1):=fun e=>by have:=(OY.out.lt _ e).1;omega
          refine bodyPost_ret (v:=.tuple #[.agg #[.slice A3 (nn+1) c3,.slice A2 nh c2,.bool true],.int .i64 0,.string ⟨#[]⟩]) (by simp [results,Tryz.results148,go_sem,f0,f1,f2]) rfl ?_
          exact ⟨A3,c3,A2,c2,nn+1,nh,by rw[HS.out];rfl,fun _=>by rw[HS.out];exact ⟨(by rw[List.length_append,HNN.out];exact rfl),ybv (yak (yak (yak ON.out x1 _) x1 _) x1 _),HNH.out,ybv (yak (yak (yak OY.out x2 _) x2 _) x2 _)⟩,(((B0.out.trans (BW4.out.mono Zq6)).setCell Zq10 _).setCell Zq10 _).setCell Zq10 _,by simp [World.setCell];omega⟩
        ·have HS:Hid (yb8 ⟨5,word,args,count⟩ names held=((1,a),(names,held))):=by rw[HT.out,if_pos e1];exact rfl
         go_wp2_with (first|(go_at_call 118;(with_reducible refine(yay An nn cn names a wA HNA.out HNN.out Zq6).mono ?_);rintro e w' ⟨rfl,rfl⟩)|(go_at_call 118;(with_reducible refine(yay Ah nh ch held a wA HHA.out HNH.out Zq6).mono ?_);rintro e w' ⟨rfl,rfl⟩))
         have x1:(Value.slice A1 nn c1).ownBlock≠some (w.heap.size+1+1):=fun e=>by have:=(O1.out.lt _ e).1;omega
         have x2:(Value.slice A2 nh c2).ownBlock≠some (w.heap.size+1+1):=fun e=>by have:=(O2.out.lt _ e).1;omega
         refine bodyPost_ret (v:=.tuple #[.agg #[.slice A1 nn c1,.slice A2 nh c2,.bool true],.int .i64 1,.string a]) (by simp [results,Tryz.results148,go_sem,f0,f1,f2]) rfl ?_
         exact ⟨A1,c1,A2,c2,nn,nh,by rw[HS.out],fun h0=>absurd h0 (by rw[HS.out];show ¬ (1:Int)=0;decide),(((B0.out.trans (bA.mono Zq6)).setCell Zq10 _).setCell Zq10 _).setCell Zq10 _,by simp [World.setCell];omega⟩
def yds (k:Int) (names bits:List ByteArray) (a c:ByteArray):Bad × List ByteArray :=
 if k=6 then yca names bits a c else if hasS bits a=true then (bad0,bits) else ((7,a),bits)
def yk4 (base X:Nat) (v:Value) (R:Bad × (List ByteArray × List ByteArray)) (bits:List ByteArray) (w:World) (e:Ending) (w':World):Prop :=
 ∃ v' A1 c1 A2 c2 n1 n2,e=.returned (.tuple #[.agg #[.slice A1 n1 c1,.slice A2 n2 c2,.bool true],.int .i64 R.1.1,.string R.1.2])∧(R.1.1=0→R.2.1.length=n1∧Rd w' 1 A1 n1 (strs R.2.1)∧R.2.2.length=n2∧Rd w' 1 A2 n2 (strs R.2.2))∧CkS w' base X bits v'∧Mod X v.ownBlock w w'∧Grew v.ownBlock w.heap.size v'.ownBlock
theorem yor {X:Nat} {r:Option Nat} {w w':World} {base e size n:Nat} {v:Value} {xs:List Value} (h:w.ownsRow base e size v n xs) (m:Mod X r w w') (h1:v.ownBlock≠some X) (h2:∀ k,v.ownBlock=some k→r≠some k):w'.ownsRow base e size v n xs:=by
 refine ⟨h.1,?_⟩
 have hl:=h.lt
 rcases h.2 with hn|⟨g,cap,cur,rfl,hb,hh,rest⟩
 ·exact .inl hn
 ·exact .inr ⟨g,cap,cur,rfl,hb,(m.block g (hl g rfl).2 (fun e=>h1 (by rw[←e];rfl)) (h2 g rfl)).trans hh,rest⟩
theorem CkS.set {w:World} {base X:Nat} {bits:List ByteArray} {v:Value} (h:CkS w base X bits v) {p:Addr} (h1:X≠p.block) (h2:v.ownBlock≠some p.block) (u:Value):CkS (w.setCell p u) base X bits v :=
 ⟨yc9 h.x h1 u,yak h.o h2 u⟩
theorem Grew.weak {r r':Option Nat} {z z':Nat} (h:Grew r z r') (hz:z'≤z):Grew r z' r':=by
 rcases h with h|⟨k,h,hk⟩
 ·exact .inl h
 ·exact .inr ⟨k,h,Nat.le_trans hz hk⟩
theorem ytd (k:Int) (word:ByteArray) (names held:List ByteArray) (count:Int) (Aa:Option Addr) (m ca:Nat) (Ac:Option Addr) (nc cc:Nat) (An Ah:Option Addr) (nn cn nh ch base X:Nat) (bits:List ByteArray) (v:Value) (a c:ByteArray) (w:World)
  (args:List ByteArray) (hck:CkS w base X bits v) (hbase:base≤w.heap.size) (hb3:bits.length≤3) (hm:args.length=m) (hra:Rd w 1 Aa m (strs args)) (hca:m≤ca) (hk67:k=6∨k=7) (h6:k=6→2≤m∧args[1]?=some c) (h4:1≤m) (ha0:args[0]?=some a) (h1:m≤1048576) (hnn:names.length=nn) (hrn:Rd w 1 An nn (strs names)) (hnh:held.length=nh) (hrh:Rd w 1 Ah nh (strs held)) (h2:nn≤1048576) (h3:nh≤1048576) :
  Calls Tryz.prog 148 #[.pointer (some ⟨X,0,none⟩),.agg #[.int .i64 k,.string word,.slice Aa m ca,.int .i64 count,.slice Ac nc cc],.agg #[.slice An nn cn,.slice Ah nh ch,.bool false]] w (yk4 base X v ((yds k names bits a c).1,(names,held)) (yds k names bits a c).2 w):=by
 obtain ⟨i0,hi,hz0,hz1,hz2⟩:=info_parts ydh
 obtain ⟨w0,hw0⟩:∃ w0,w0=((w.alloc (.cells #[.int .i64 k,.string word,.slice Aa m ca,.int .i64 count,.slice Ac nc cc] 66)).alloc (.cells #[.slice An nn cn,.slice Ah nh ch,.bool false] 151)).alloc (.cells #[.slice none 0 0,.slice none 0 0,.bool false] 151):=⟨_,rfl⟩
 have X0:=hD (show w0.heap[w.heap.size]?=some (.cells #[.int .i64 k,.string word,.slice Aa m ca,.int .i64 count,.slice Ac nc cc] 66 (0,0)) by rw[hw0];exact ydp _ _ _ _)
 have X2:=hD (show w0.heap[w.heap.size+2]?=some (.cells #[.slice none 0 0,.slice none 0 0,.bool false] 151 (0,0)) by rw[hw0];exact ycx _ _ _ _)
 have X1:=hD (show w0.heap[w.heap.size+1]?=some (.cells #[.slice An nn cn,.slice Ah nh ch,.bool false] 151 (0,0)) by rw[hw0];exact ycw _ _ _ _)
 have b0:Below w.heap.size w w0:=by rw[hw0];exact Zq0
 have hz:w.heap.size+1+1<w0.heap.size:=by rw[hw0];simp
 have hz1':w.heap.size+1<w0.heap.size:=by omega
 have HW:=hD hw0
 have HA:=hD (hra.below b0)
 have B0:=hD b0
 have CK0:=hD hck
 have CKW:=hD (hck.below b0)
 have HA0:=hD ha0
 have H6:=hD h6
 have hxw:X<w.heap.size:=lt_of_block hck.x
 have HM:=hD hm
 have HNN:=hD hnn
 have HNH:=hD hnh
 have HN:=hD (hrn.below b0)
 have HH:=hD (hrh.below b0)
 obtain ⟨q0,q1,q2⟩:=ybz (lay:=Below.refl _ _) X1.out
 clear hw0 b0 hrn hrh hra hm hnn hnh hck ha0 h6
 go_enter Tryz.func148,Tryz.ntmps148
 go_upto_region 1 with (fail)
 rw[←HW.out]
 go_cut [9] (fun v wc=>∃ G:Nat,v=.pointer (some ⟨G,0,none⟩)∧Two w0.heap.size G 151 9 nn nh names held w0 wc)
 case first =>
  go_wp2_with fail
  go_region_held3 (fun W=>W.cell? ⟨w.heap.size+1,0,none⟩=some (.slice An nn cn)∧W.cell? ⟨w.heap.size+1,1,none⟩=some (.slice Ah nh ch)) (first|exact ⟨((show Below w0.heap.size w0 _ from Zq0).cell (p:=⟨w.heap.size+1,0,none⟩) hz1').trans q0,((show Below w0.heap.size w0 _ from Zq0).cell (p:=⟨w.heap.size+1,1,none⟩) hz1').trans q1⟩|go_keep) (first|(refine ydl _ (by rfl) (.tmp 15) (.tmp 17) 24 (by rfl) w0.heap.size 9 i0 _ 1 16 Tryz.underlying24 hi hz0 hz1 hz2 (by rfl) Zq9 _ 0 [] (by rfl) (by exact yhn Zq2 Zq1) _ nn _ (strs names) (by rfl) (by exact HN.out.below Zq0) (yfr _) Zq13 Zq6 Zq1 ?_;intro v1 w1 own1 gr1 at1;simp only[Nat.zero_add,List.nil_append] at own1;obtain ⟨A1,c1,rfl,_,_,_⟩:=yah own1;obtain ⟨u1,u2,u3⟩:=yfn gr1 rfl;obtain hp1:=yf6 gr1 rfl;have bb1:Below w0.heap.size w0 w1:=Below.trans Zq0 (yfa gr1 rfl Zq1 Zq1);(try have lt10:w0.heap.size<w1.heap.size:=by have hh:=u3;simp at hh;omega);(try have lt11:w0.heap.size+1<w1.heap.size:=by have hh:=u3;simp at hh;omega);(try have lt12:w0.heap.size+1+1<w1.heap.size:=by have hh:=u3;simp at hh;omega);(try have lt13:w2.heap.size<w1.heap.size:=by have hh:=u3;simp at hh;omega);(try have lt14:w2.heap.size+1<w1.heap.size:=by have hh:=u3;simp at hh;omega);(try have ne10:¬ w1.heap.size=w0.heap.size:=by omega);(try have ne11:¬ w1.heap.size=w0.heap.size+1:=by omega);(try have ne12:¬ w1.heap.size=w0.heap.size+1+1:=by omega);(try have ne13:¬ w1.heap.size=w2.heap.size:=by omega);(try have ne14:¬ w1.heap.size=w2.heap.size+1:=by omega);(try have l10:w1.heap[w0.heap.size]?=some (.cells #[] 9 (0,0)):=(hp1 (w0.heap.size) Zq1 Zq7).trans Zq2);(try have l11:w1.heap[w0.heap.size+1]?=some (.cells #[] 9 (0,0)):=(hp1 (w0.heap.size+1) Zq1 Zq7).trans Zq2);(try have l12:w1.heap[w0.heap.size+1+1]?=some (.cells #[] 9 (0,0)):=(hp1 (w0.heap.size+1+1) Zq1 Zq7).trans Zq2);(try have l13:w1.heap[w2.heap.size]?=some (.cells #[] 9 (0,0)):=(hp1 (w2.heap.size) Zq1 Zq7).trans Zq2);(try have l14:w1.heap[w2.heap.size+1]?=some (.cells #[] 9 (0,0)):=(hp1 (w2.heap.size+1) Zq1 Zq7).trans Zq2);(try have s10:w1.heap[w0.heap.size]?=some (.cells #[.slice none 0 0,.slice none 0 0,.bool false] 151 (0,0)):=(hp1 (w0.heap.size) Zq1 Zq7).trans Zq2);(try have s11:w1.heap[w0.heap.size+1]?=some (.cells #[.slice none 0 0,.slice none 0 0,.bool false] 151 (0,0)):=(hp1 (w0.heap.size+1) Zq1 Zq7).trans Zq2);(try have s12:w1.heap[w0.heap.size+1+1]?=some (.cells #[.slice none 0 0,.slice none 0 0,.bool false] 151 (0,0)):=(hp1 (w0.heap.size+1+1) Zq1 Zq7).trans Zq2);(try have s13:w1.heap[w2.heap.size]?=some (.cells #[.slice none 0 0,.slice none 0 0,.bool false] 151 (0,0)):=(hp1 (w2.heap.size) Zq1 Zq7).trans Zq2);(try have s14:w1.heap[w2.heap.size+1]?=some (.cells #[.slice none 0 0,.slice none 0 0,.bool false] 151 (0,0)):=(hp1 (w2.heap.size+1) Zq1 Zq7).trans Zq2);(try have g100:w1.cell? ⟨w0.heap.size,0,none⟩=some (.slice none 0 0):=(u1 (w0.heap.size) 0 Zq1 Zq7).trans Zq3);(try have f100:w1.frozen? ⟨w0.heap.size,0,none⟩=false:=(u2 (w0.heap.size) 0 Zq1 Zq7).trans Zq4);(try have g101:w1.cell? ⟨w0.heap.size,1,none⟩=some (.slice none 0 0):=(u1 (w0.heap.size) 1 Zq1 Zq7).trans Zq3);(try have f101:w1.frozen? ⟨w0.heap.size,1,none⟩=false:=(u2 (w0.heap.size) 1 Zq1 Zq7).trans Zq4);(try have g102:w1.cell? ⟨w0.heap.size,2,none⟩=some (.bool false):=(u1 (w0.heap.size) 2 Zq1 Zq7).trans Zq3);(try have f102:w1.frozen? ⟨w0.heap.size,2,none⟩=false:=(u2 (w0.heap.size) 2 Zq1 Zq7).trans Zq4);(try have g110:w1.cell? ⟨w0.heap.size+1,0,none⟩=some (.slice none 0 0):=(u1 (w0.heap.size+1) 0 Zq1 Zq7).trans Zq3);(try have f110:w1.frozen? ⟨w0.heap.size+1,0,none⟩=false:=(u2 (w0.heap.size+1) 0 Zq1 Zq7).trans Zq4);(try have g111:w1.cell? ⟨w0.heap.size+1,1,none⟩=some (.slice none 0 0):=(u1 (w0.heap.size+1) 1 Zq1 Zq7).trans Zq3);(try have f111:w1.frozen? ⟨w0.heap.size+1,1,none⟩=false:=(u2 (w0.heap.size+1) 1 Zq1 Zq7).trans Zq4);(try have g112:w1.cell? ⟨w0.heap.size+1,2,none⟩=some (.bool false):=(u1 (w0.heap.size+1) 2 Zq1 Zq7).trans Zq3);(try have f112:w1.frozen? ⟨w0.heap.size+1,2,none⟩=false:=(u2 (w0.heap.size+1) 2 Zq1 Zq7).trans Zq4);(try have g120:w1.cell? ⟨w0.heap.size+1+1,0,none⟩=some (.slice none 0 0):=(u1 (w0.heap.size+1+1) 0 Zq1 Zq7).trans Zq3);(try have f120:w1.frozen? ⟨w0.heap.size+1+1,0,none⟩=false:=(u2 (w0.heap.size+1+1) 0 Zq1 Zq7).trans Zq4);(try have g121:w1.cell? ⟨w0.heap.size+1+1,1,none⟩=some (.slice none 0 0):=(u1 (w0.heap.size+1+1) 1 Zq1 Zq7).trans Zq3);(try have f121:w1.frozen? ⟨w0.heap.size+1+1,1,none⟩=false:=(u2 (w0.heap.size+1+1) 1 Zq1 Zq7).trans Zq4);(try have g122:w1.cell? ⟨w0.heap.size+1+1,2,none⟩=some (.bool false):=(u1 (w0.heap.size+1+1) 2 Zq1 Zq7).trans Zq3);(try have f122:w1.frozen? ⟨w0.heap.size+1+1,2,none⟩=false:=(u2 (w0.heap.size+1+1) 2 Zq1 Zq7).trans Zq4);(try have g130:w1.cell? ⟨w2.heap.size,0,none⟩=some (.slice none 0 0):=(u1 (w2.heap.size) 0 Zq1 Zq7).trans Zq3);(try have f130:w1.frozen? ⟨w2.heap.size,0,none⟩=false:=(u2 (w2.heap.size) 0 Zq1 Zq7).trans Zq4);(try have g131:w1.cell? ⟨w2.heap.size,1,none⟩=some (.slice none 0 0):=(u1 (w2.heap.size) 1 Zq1 Zq7).trans Zq3);(try have f131:w1.frozen? ⟨w2.heap.size,1,none⟩=false:=(u2 (w2.heap.size) 1 Zq1 Zq7).trans Zq4);(try have g132:w1.cell? ⟨w2.heap.size,2,none⟩=some (.bool false):=(u1 (w2.heap.size) 2 Zq1 Zq7).trans Zq3);(try have f132:w1.frozen? ⟨w2.heap.size,2,none⟩=false:=(u2 (w2.heap.size) 2 Zq1 Zq7).trans Zq4);(try have g140:w1.cell? ⟨w2.heap.size+1,0,none⟩=some (.slice none 0 0):=(u1 (w2.heap.size+1) 0 Zq1 Zq7).trans Zq3);(try have f140:w1.frozen? ⟨w2.heap.size+1,0,none⟩=false:=(u2 (w2.heap.size+1) 0 Zq1 Zq7).trans Zq4);(try have g141:w1.cell? ⟨w2.heap.size+1,1,none⟩=some (.slice none 0 0):=(u1 (w2.heap.size+1) 1 Zq1 Zq7).trans Zq3);(try have f141:w1.frozen? ⟨w2.heap.size+1,1,none⟩=false:=(u2 (w2.heap.size+1) 1 Zq1 Zq7).trans Zq4);(try have g142:w1.cell? ⟨w2.heap.size+1,2,none⟩=some (.bool false):=(u1 (w2.heap.size+1) 2 Zq1 Zq7).trans Zq3);(try have f142:w1.frozen? ⟨w2.heap.size+1,2,none⟩=false:=(u2 (w2.heap.size+1) 2 Zq1 Zq7).trans Zq4))|(refine ydl _ (by rfl) (.tmp 19) (.tmp 21) 24 (by rfl) w0.heap.size 9 i0 _ 1 16 Tryz.underlying24 hi hz0 hz1 hz2 (by rfl) Zq9 _ 0 [] (by rfl) (by exact yhn Zq2 Zq1) _ nh _ (strs held) (by rfl) (by exact HH.out.below Zq0) (yfr _) Zq13 Zq6 Zq1 ?_;intro v2 w2 own2 gr2 at2;simp only[Nat.zero_add,List.nil_append] at own2;obtain ⟨A2,c2,rfl,_,_,_⟩:=yah own2;obtain ⟨u4,u5,u6⟩:=yfn gr2 rfl;obtain hp2:=yf6 gr2 rfl;have bb2:Below w0.heap.size w0 w2:=Below.trans Zq0 (yfa gr2 rfl Zq1 Zq1);(try have lt20:w0.heap.size<w2.heap.size:=by have hh:=u6;simp at hh;omega);(try have lt21:w0.heap.size+1<w2.heap.size:=by have hh:=u6;simp at hh;omega);(try have lt22:w0.heap.size+1+1<w2.heap.size:=by have hh:=u6;simp at hh;omega);(try have lt23:w1.heap.size<w2.heap.size:=by have hh:=u6;simp at hh;omega);(try have lt24:w1.heap.size+1<w2.heap.size:=by have hh:=u6;simp at hh;omega);(try have ne20:¬ w2.heap.size=w0.heap.size:=by omega);(try have ne21:¬ w2.heap.size=w0.heap.size+1:=by omega);(try have ne22:¬ w2.heap.size=w0.heap.size+1+1:=by omega);(try have ne23:¬ w2.heap.size=w1.heap.size:=by omega);(try have ne24:¬ w2.heap.size=w1.heap.size+1:=by omega);(try have l20:w2.heap[w0.heap.size]?=some (.cells #[] 9 (0,0)):=(hp2 (w0.heap.size) Zq1 Zq7).trans Zq2);(try have l21:w2.heap[w0.heap.size+1]?=some (.cells #[] 9 (0,0)):=(hp2 (w0.heap.size+1) Zq1 Zq7).trans Zq2);(try have l22:w2.heap[w0.heap.size+1+1]?=some (.cells #[] 9 (0,0)):=(hp2 (w0.heap.size+1+1) Zq1 Zq7).trans Zq2);(try have l23:w2.heap[w1.heap.size]?=some (.cells #[] 9 (0,0)):=(hp2 (w1.heap.size) Zq1 Zq7).trans Zq2);(try have l24:w2.heap[w1.heap.size+1]?=some (.cells #[] 9 (0,0)):=(hp2 (w1.heap.size+1) Zq1 Zq7).trans Zq2);(try have s20:w2.heap[w0.heap.size]?=some (.cells #[.slice none 0 0,.slice none 0 0,.bool false] 151 (0,0)):=(hp2 (w0.heap.size) Zq1 Zq7).trans Zq2);(try have s21:w2.heap[w0.heap.size+1]?=some (.cells #[.slice none 0 0,.slice none 0 0,.bool false] 151 (0,0)):=(hp2 (w0.heap.size+1) Zq1 Zq7).trans Zq2);(try have s22:w2.heap[w0.heap.size+1+1]?=some (.cells #[.slice none 0 0,.slice none 0 0,.bool false] 151 (0,0)):=(hp2 (w0.heap.size+1+1) Zq1 Zq7).trans Zq2);(try have s23:w2.heap[w1.heap.size]?=some (.cells #[.slice none 0 0,.slice none 0 0,.bool false] 151 (0,0)):=(hp2 (w1.heap.size) Zq1 Zq7).trans Zq2);(try have s24:w2.heap[w1.heap.size+1]?=some (.cells #[.slice none 0 0,.slice none 0 0,.bool false] 151 (0,0)):=(hp2 (w1.heap.size+1) Zq1 Zq7).trans Zq2);(try have g200:w2.cell? ⟨w0.heap.size,0,none⟩=some (.slice none 0 0):=(u4 (w0.heap.size) 0 Zq1 Zq7).trans Zq3);(try have f200:w2.frozen? ⟨w0.heap.size,0,none⟩=false:=(u5 (w0.heap.size) 0 Zq1 Zq7).trans Zq4);(try have g201:w2.cell? ⟨w0.heap.size,1,none⟩=some (.slice none 0 0):=(u4 (w0.heap.size) 1 Zq1 Zq7).trans Zq3);(try have f201:w2.frozen? ⟨w0.heap.size,1,none⟩=false:=(u5 (w0.heap.size) 1 Zq1 Zq7).trans Zq4);(try have g202:w2.cell? ⟨w0.heap.size,2,none⟩=some (.bool false):=(u4 (w0.heap.size) 2 Zq1 Zq7).trans Zq3);(try have f202:w2.frozen? ⟨w0.heap.size,2,none⟩=false:=(u5 (w0.heap.size) 2 Zq1 Zq7).trans Zq4);(try have g210:w2.cell? ⟨w0.heap.size+1,0,none⟩=some (.slice none 0 0):=(u4 (w0.heap.size+1) 0 Zq1 Zq7).trans Zq3);(try have f210:w2.frozen? ⟨w0.heap.size+1,0,none⟩=false:=(u5 (w0.heap.size+1) 0 Zq1 Zq7).trans Zq4);(try have g211:w2.cell? ⟨w0.heap.size+1,1,none⟩=some (.slice none 0 0):=(u4 (w0.heap.size+1) 1 Zq1 Zq7).trans Zq3);(try have f211:w2.frozen? ⟨w0.heap.size+1,1,none⟩=false:=(u5 (w0.heap.size+1) 1 Zq1 Zq7).trans Zq4);(try have g212:w2.cell? ⟨w0.heap.size+1,2,none⟩=some (.bool false):=(u4 (w0.heap.size+1) 2 Zq1 Zq7).trans Zq3);(try have f212:w2.frozen? ⟨w0.heap.size+1,2,none⟩=false:=(u5 (w0.heap.size+1) 2 Zq1 Zq7).trans Zq4);(try have g220:w2.cell? ⟨w0.heap.size+1+1,0,none⟩=some (.slice none 0 0):=(u4 (w0.heap.size+1+1) 0 Zq1 Zq7).trans Zq3);(try have f220:w2.frozen? ⟨w0.heap.size+1+1,0,none⟩=false:=(u5 (w0.heap.size+1+1) 0 Zq1 Zq7).trans Zq4);(try have g221:w2.cell? ⟨w0.heap.size+1+1,1,none⟩=some (.slice none 0 0):=(u4 (w0.heap.size+1+1) 1 Zq1 Zq7).trans Zq3);(try have f221:w2.frozen? ⟨w0.heap.size+1+1,1,none⟩=false:=(u5 (w0.heap.size+1+1) 1 Zq1 Zq7).trans Zq4);(try have g222:w2.cell? ⟨w0.heap.size+1+1,2,none⟩=some (.bool false):=(u4 (w0.heap.size+1+1) 2 Zq1 Zq7).trans Zq3);(try have f222:w2.frozen? ⟨w0.heap.size+1+1,2,none⟩=false:=(u5 (w0.heap.size+1+1) 2 Zq1 Zq7).trans Zq4);(try have g230:w2.cell? ⟨w1.heap.size,0,none⟩=some (.slice none 0 0):=(u4 (w1.heap.size) 0 Zq1 Zq7).trans Zq3);(try have f230:w2.frozen? ⟨w1.heap.size,0,none⟩=false:=(u5 (w1.heap.size) 0 Zq1 Zq7).trans Zq4);(try have g231:w2.cell? ⟨w1.heap.size,1,none⟩=some (.slice none 0 0):=(u4 (w1.heap.size) 1 Zq1 Zq7).trans Zq3);(try have f231:w2.frozen? ⟨w1.heap.size,1,none⟩=false:=(u5 (w1.heap.size) 1 Zq1 Zq7).trans Zq4);(try have g232:w2.cell? ⟨w1.heap.size,2,none⟩=some (.bool false):=(u4 (w1.heap.size) 2 Zq1 Zq7).trans Zq3);(try have f232:w2.frozen? ⟨w1.heap.size,2,none⟩=false:=(u5 (w1.heap.size) 2 Zq1 Zq7).trans Zq4);(try have g240:w2.cell? ⟨w1.heap.size+1,0,none⟩=some (.slice none 0 0):=(u4 (w1.heap.size+1) 0 Zq1 Zq7).trans Zq3);(try have f240:w2.frozen? ⟨w1.heap.size+1,0,none⟩=false:=(u5 (w1.heap.size+1) 0 Zq1 Zq7).trans Zq4);(try have g241:w2.cell? ⟨w1.heap.size+1,1,none⟩=some (.slice none 0 0):=(u4 (w1.heap.size+1) 1 Zq1 Zq7).trans Zq3);(try have f241:w2.frozen? ⟨w1.heap.size+1,1,none⟩=false:=(u5 (w1.heap.size+1) 1 Zq1 Zq7).trans Zq4);(try have g242:w2.cell? ⟨w1.heap.size+1,2,none⟩=some (.bool false):=(u4 (w1.heap.size+1) 2 Zq1 Zq7).trans Zq3);(try have f242:w2.frozen? ⟨w1.heap.size+1,2,none⟩=false:=(u5 (w1.heap.size+1) 2 Zq1 Zq7).trans Zq4);have o12:w2.ownsRow w0.heap.size 9 1 (.slice A1 nn c1) nn (strs names):=World.ownsRow.kept (by first|exact own1|exact own1.alloc _|exact(own1.alloc _).alloc _) gr2 (.inr (ygs own1 at1 rfl (by (try dsimp only);first|(left;omega)|(right;exact ⟨Zq1,Zq1⟩))));have dis:=yrm own1 (ygs own1 at1 rfl (by (try dsimp only);first|(left;omega)|(right;exact ⟨Zq1,Zq1⟩))) at2 rfl Zq1))
  all_goals (go_wp2_with (fail);go_meet;refine ⟨_,rfl,?_⟩;first|exact yls bb2 Zq6 o12 own2 dis|exact yop bb2 Zq6 (by assumption) Zq9 o12 own2 dis)
 case rest =>
  obtain ⟨G,rfl,T0⟩:=hcut
  obtain ⟨wA,rfl⟩:∃ wA:World,wA=wc:=⟨_,rfl⟩
  obtain ⟨A1,c1,A2,c2,hG,o1,o2,dis⟩:=T0.rest
  have hlow:=T0.low
  have bA:=T0.bel
  have sA:=bA.size
  have HG:=hD hG
  have hGl:G<wA.heap.size:=(Array.getElem?_eq_some_iff.1 hG).1
  have O1:=hD o1
  have O2:=hD o2
  have CKA:=hD (CKW.out.below bA)
  obtain ⟨p0,p1,p2,p3,p4⟩:=yas (lay:=bA) X0.out
  obtain ⟨q0,q1,q2⟩:=ybz (lay:=bA) X1.out
  obtain ⟨f0,f1,f2⟩:=ybz (lay:=bA) X2.out
  obtain ⟨g0,g1,g2⟩:=ybz (lay:=Below.refl _ _) hG
  have fr2:=yce (j:=0) ((bA.block _ Zq6).trans X2.out)
  have fr3:=yce (j:=1) ((bA.block _ Zq6).trans X2.out)
  have fr4:=yce (j:=2) ((bA.block _ Zq6).trans X2.out)
  have HAA:=hD (HA.out.below bA)
  have HNA:=hD (HN.out.below bA)
  have HHA:=hD (HH.out.below bA)
  have hvl:∀ k,v.ownBlock=some k→k<w.heap.size:=fun k e=>(CK0.out.o.lt k e).2
  have HVL:=hD hvl
  have MA:Mod X v.ownBlock w wA:=(Mod.of_below X _ B0.out).trans (Mod.of_below X _ (bA.mono (Nat.le_refl _))) (.inl rfl)
  have HMA:=hD MA
  clear hG o1 o2 dis T0 hvl MA
  rcases hk67 with rfl|rfl
  ·obtain ⟨hm2,hc0⟩:=H6.out rfl
   have HC:=hD hc0
   have HS:Hid (yds 6 names bits a c=yca names bits a c):=rfl
   clear hc0
   go_wp2_with (go_at_call 174;(with_reducible refine(yns word args count Aa m ca Ac nc cc An Ah nn cn nh ch base X names bits v a c wA CKA.out Zq6 hb3 HM.out HAA.out hm2 HA0.out HC.out HNN.out HNA.out Zq6).mono ?_);rintro e w' ⟨v',rfl,ck',m',g'⟩;have hG':w'.heap[G]?=some (.cells #[.slice A1 nn c1,.slice A2 nh c2,.bool true] 151 (0,0)):=(m'.block G hGl Zq6 (fun e=>by have:=HVL.out _ e;omega)).trans HG.out;have hX2:w'.heap[w.heap.size+2]?=some (.cells #[.slice none 0 0,.slice none 0 0,.bool false] 151 (0,0)):=(m'.block (w.heap.size+2) Zq6 Zq6 (fun e=>by have:=HVL.out _ e;omega)).trans ((bA.block _ Zq6).trans X2.out);obtain ⟨j0,j1,j2⟩:=ybz (lay:=Below.refl _ _) hG';obtain ⟨e0,e1,e2⟩:=ybz (lay:=Below.refl _ _) hX2;have fs2:=yce (j:=0) hX2;have fs3:=yce (j:=1) hX2;have fs4:=yce (j:=2) hX2;have sW:=m'.size)
   have o1':=yor O1.out m' (fun e=>by have:=(O1.out.lt _ e).1;omega) (fun k e e'=>by have:=(O1.out.lt _ e).1;have:=HVL.out _ e';omega)
   have o2':=yor O2.out m' (fun e=>by have:=(O2.out.lt _ e).1;omega) (fun k e e'=>by have:=(O2.out.lt _ e).1;have:=HVL.out _ e';omega)
   have x1:(Value.slice A1 nn c1).ownBlock≠some (w.heap.size+1+1):=fun e=>by have:=(o1'.lt _ e).1;omega
   have x2:(Value.slice A2 nh c2).ownBlock≠some (w.heap.size+1+1):=fun e=>by have:=(o2'.lt _ e).1;omega
   have x3:v'.ownBlock≠some (w.heap.size+1+1):=fun e=>by
    rcases g' with g'|⟨k,g',hk⟩
    ·have:=HVL.out _ (g'.symm.trans e);omega
    ·have:=Option.some.inj (g'.symm.trans e);omega
   refine bodyPost_ret (v:=.tuple #[.agg #[.slice A1 nn c1,.slice A2 nh c2,.bool true],.int .i64 (yca names bits a c).1.1,.string (yca names bits a c).1.2]) (by simp [results,Tryz.results148,go_sem,e0,e1,e2]) rfl ?_
   exact ⟨v',A1,c1,A2,c2,nn,nh,by rw[HS.out],fun _=>⟨HNN.out,ybv (yak (yak (yak o1' x1 _) x1 _) x1 _),HNH.out,ybv (yak (yak (yak o2' x2 _) x2 _) x2 _)⟩,by rw[HS.out];exact((ck'.set Zq12 x3 _).set Zq12 x3 _).set Zq12 x3 _,(((HMA.out.trans m' (.inl rfl)).set (.inr Zq10) _).set (.inr Zq10) _).set (.inr Zq10) _,g'.weak Zq6⟩
  ·obtain ⟨b,off,rfl,hbl,hcl⟩:=HAA.out.2 Zq6
   have r0:=hcl 0 _ (ybr HA0.out)
   simp only[Nat.add_zero] at r0
   obtain ⟨A,cb,rfl,hcap,_,_⟩:=yah CK0.out.o
   have HRB:=hD (ybv CKA.out.o)
   have px:=yaj (j:=0) (u:=.slice A bits.length cb) CKA.out.x rfl
   have hxA:X<wA.heap.size:=by omega
   have x1:(Value.slice A1 nn c1).ownBlock≠some (w.heap.size+1+1):=fun e=>by have:=(O1.out.lt _ e).1;omega
   have x2:(Value.slice A2 nh c2).ownBlock≠some (w.heap.size+1+1):=fun e=>by have:=(O2.out.lt _ e).1;omega
   have x3:(Value.slice A bits.length cb).ownBlock≠some (w.heap.size+1+1):=fun e=>by have:=HVL.out _ e;omega
   have XX1:=hD x1
   have XX2:=hD x2
   have XX3:=hD x3
   clear hcl x1 x2 x3
   cases e1:hasS bits a
   ·have HS:Hid (yds 7 names bits a c=((7,a),bits)):=by unfold yds;rw[if_neg Zq9,if_neg (by rw[e1];decide)];exact rfl
    go_wp2_with (go_at_call 118;(with_reducible refine(yay A bits.length cb bits a wA HRB.out rfl Zq6).mono ?_);rintro e w' ⟨rfl,rfl⟩)
    refine bodyPost_ret (v:=.tuple #[.agg #[.slice A1 nn c1,.slice A2 nh c2,.bool true],.int .i64 7,.string a]) (by simp [results,Tryz.results148,go_sem,f0,f1,f2]) rfl ?_
    exact ⟨_,A1,c1,A2,c2,nn,nh,by rw[HS.out],fun _=>⟨HNN.out,ybv (yak (yak (yak O1.out XX1.out _) XX1.out _) XX1.out _),HNH.out,ybv (yak (yak (yak O2.out XX2.out _) XX2.out _) XX2.out _)⟩,by rw[HS.out];exact((CKA.out.set Zq12 XX3.out _).set Zq12 XX3.out _).set Zq12 XX3.out _,((HMA.out.set (.inr Zq10) _).set (.inr Zq10) _).set (.inr Zq10) _,.inl rfl⟩
   ·have HS:Hid (yds 7 names bits a c=(bad0,bits)):=by unfold yds;rw[if_neg Zq9,if_pos e1];exact rfl
    go_wp2_with (go_at_call 118;(with_reducible refine(yay A bits.length cb bits a wA HRB.out rfl Zq6).mono ?_);rintro e w' ⟨rfl,rfl⟩)
    refine bodyPost_ret (v:=.tuple #[.agg #[.slice A1 nn c1,.slice A2 nh c2,.bool true],.int .i64 0,.string ⟨#[]⟩]) (by simp [results,Tryz.results148,go_sem,f0,f1,f2]) rfl ?_
    exact ⟨_,A1,c1,A2,c2,nn,nh,by rw[HS.out];exact rfl,fun _=>⟨HNN.out,ybv (yak (yak (yak O1.out XX1.out _) XX1.out _) XX1.out _),HNH.out,ybv (yak (yak (yak O2.out XX2.out _) XX2.out _) XX2.out _)⟩,by rw[HS.out];exact((CKA.out.set Zq12 XX3.out _).set Zq12 XX3.out _).set Zq12 XX3.out _,((HMA.out.set (.inr Zq10) _).set (.inr Zq10) _).set (.inr Zq10) _,.inl rfl⟩
end Go.Proofs.YthkbckkghnbonaaGreatDoor
