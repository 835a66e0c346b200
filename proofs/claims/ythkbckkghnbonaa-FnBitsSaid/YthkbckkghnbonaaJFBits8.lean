/- What the calls that this law reaches answer, part 8 of 15. -/
import Derived.Test.YthkbckkghnbonaaJFBits2
import Derived.Test.YthkbckkghnbonaaJFBits7
set_option maxRecDepth 100000
set_option maxHeartbeats 16000000
set_option linter.unusedVariables false
namespace Go.Proofs.Ythkbckkghnbonaa
open Go.RowKit
set_option linter.unusedVariables false
theorem Mod.drewN {X:Nat} {r:Option Nat} {w w':World} (h:Mod X r w w') (k:Nat):Mod X r w (w'.drewN k):=⟨h.os,h.tape,h.output,h.size,h.block⟩
structure EvS (w:World) (base E:Nat) (An:Option Addr) (nn cn:Nat) (bits:List ByteArray) (v:Value):Prop where
 x:w.heap[E]?=some (.cells #[.slice An nn cn,.slice none 0 0,.bool false,v] 72 (0,0))
 o:w.ownsRow base 9 1 v bits.length (strs bits)
theorem EvS.below {w w':World} {base E:Nat} {An:Option Addr} {nn cn:Nat} {bits:List ByteArray} {v:Value} (h:EvS w base E An nn cn bits v) (hb:Below w.heap.size w w'):EvS w' base E An nn cn bits v :=
 ⟨(hb.block _ (lt_of_block h.x)).trans h.x,ownsRow_below h.o hb⟩
theorem EvS.drewN {w:World} {base E:Nat} {An:Option Addr} {nn cn:Nat} {bits:List ByteArray} {v:Value} (h:EvS w base E An nn cn bits v) (k:Nat):EvS (w.drewN k) base E An nn cn bits v:=⟨h.x,h.o⟩
theorem EvS.set {w:World} {base E:Nat} {An:Option Addr} {nn cn:Nat} {bits:List ByteArray} {v:Value} (h:EvS w base E An nn cn bits v) {p:Addr} (h1:E≠p.block) (h2:v.ownBlock≠some p.block) (u:Value):EvS (w.setCell p u) base E An nn cn bits v :=
 ⟨heap_set_far h.x h1 u,own_setfarM h.o h2 u⟩
def RetMS (base E:Nat) (An:Option Addr) (nn cn:Nat) (v:Value) (r:Bad × List ByteArray) (w:World) (e:Ending) (w':World):Prop :=
 ∃ v',e=.returned (.agg #[.int .i64 r.1.1,.string r.1.2])∧EvS w' base E An nn cn r.2 v'∧Mod E v.ownBlock w w'∧Grew v.ownBlock w.heap.size v'.ownBlock
theorem Grew.weakV {r r':Option Nat} {z z':Nat} (h:Grew r z r') (hz:z'≤z):Grew r z' r':=by
 rcases h with h|⟨k,h,hk⟩
 ·exact .inl h
 ·exact .inr ⟨k,h,Nat.le_trans hz hk⟩
theorem rnil (w:World):Rd w 1 none 0 (strs []):=⟨rfl,fun h=>absurd h Zq4⟩
theorem own_drewNV {w:World} {base e size n:Nat} {v:Value} {xs:List Value} (h:w.ownsRow base e size v n xs) (k:Nat):(w.drewN k).ownsRow base e size v n xs:=h
theorem one_strV (a:ByteArray):∀ u∈[Value.string a],u.oneCell'=true:=by
 intro u hu
 simp at hu
 subst hu
 rfl
theorem Zq7 {p:Prop} (h:p:=by dsimp only;omega):p:=h
theorem l20Measure_top (word:ByteArray) (args:List ByteArray) (count:Int) (Aa:Option Addr) (m ca:Nat) (Ac:Option Addr) (nc cc:Nat) (An:Option Addr) (nn cn base E:Nat) (names bits:List ByteArray) (v:Value) (a c:ByteArray) (w:World)
    (hev:EvS w base E An nn cn bits v) (hbase:base≤w.heap.size) (hb3:bits.length≤3) (hm:args.length=m) (hra:Rd w 1 Aa m (strs args)) (hca:m≤ca) (h2:2≤m) (h1:m≤1048576) (ha:args[0]?=some a) (hc:args[1]?=some c) (hnn:names.length=nn) (hrn:Rd w 1 An nn (strs names)) (h4:nn≤1048576) :
    Calls Try.prog 63 #[.agg #[.int .i64 6,.string word,.slice Aa m ca,.int .i64 count,.slice Ac nc cc],.pointer (some ⟨E,0,none⟩)] w (RetMS base E An nn cn v (measT names bits a c) w):=by
  obtain ⟨i0,hi,hzi0,hzi1,hzi2⟩:=info_parts info_str
  obtain ⟨A,cb,rfl,hcap,_,_⟩:=rd_of_own hev.o
  obtain ⟨b,off,rfl,hbw,hcl⟩:=hra.2 Zq1
  obtain ⟨w0,hw0⟩:∃ w0,w0=(w.alloc (.cells #[.int .i64 6,.string word,.slice (some ⟨b,off,none⟩) m ca,.int .i64 count,.slice Ac nc cc] 42)).alloc (.cells #[.int .i64 0,.string ⟨#[]⟩] 68):=⟨_,rfl⟩
  have X0:=hD (show w0.heap[w.heap.size]?=some (.cells #[.int .i64 6,.string word,.slice (some ⟨b,off,none⟩) m ca,.int .i64 count,.slice Ac nc cc] 42 (0,0)) by rw[hw0];exact boxed2_0 _ _ _)
  have X1:=hD (show w0.heap[w.heap.size+1]?=some (.cells #[.int .i64 0,.string ⟨#[]⟩] 68 (0,0)) by rw[hw0];exact boxed2_1 _ _ _)
  have b0:Below w.heap.size w w0:=by rw[hw0];exact Zq0
  have hz1:w.heap.size+1<w0.heap.size:=by rw[hw0];simp
  have hz0:w.heap.size<w0.heap.size:=by omega
  have hbl:b<w0.heap.size:=by omega
  have r0:=hcl 0 _ (strs_at ha)
  have r1:=hcl 1 _ (strs_at hc)
  rw[Nat.add_zero,←b0.cell (p:=⟨b,off,none⟩) hbw] at r0
  rw[←b0.cell (p:=⟨b,off+1,none⟩) hbw] at r1
  have hxw:E<w.heap.size:=lt_of_block hev.x
  have hvl:∀ k,(Value.slice A bits.length cb).ownBlock=some k→k<w.heap.size:=fun k e=>(hev.o.lt k e).2
  have VN:Hid ((Value.slice A bits.length cb).ownBlock≠some (w.heap.size+1)):=fun e=>by have:=hvl _ e;omega
  have HW:=hD hw0
  have B0:=hD b0
  have HN:=hD (hrn.below b0)
  have HNN:=hD hnn
  have EV:=hD (hev.below b0)
  have al:∀ (W:World) (ob:Obj),Below W.heap.size W (W.alloc ob):=fun W ob=>(Below.refl _ _).alloc (Nat.le_refl _) _
  have AL:=hD al
  have hm3:(0:Int)<(m:Int):=by omega
  have hm4:(1:Int)<(m:Int):=by omega
  have hm2:0<m:=by omega
  have hm5:1<m:=by omega
  obtain ⟨e0,e1,e2,e3⟩:=boxcells4' (lay:=Below.refl _ _) EV.out.x
  obtain ⟨p0,p1,p2,p3,p4⟩:=boxcells5 (lay:=Below.refl _ _) X0.out
  obtain ⟨k0,k1⟩:=boxc2 (lay:=Below.refl _ _) X1.out
  have f0:=boxfree (Below.refl _ _) X1.out 0
  have f1:=boxfree (Below.refl _ _) X1.out 1
  have hE0:E<w0.heap.size:=by omega
  have KS:Hid (∀ W:World,Below (w.heap.size+1) w0 W→(W.cell? ⟨E,0,none⟩=some (.slice An nn cn)∧W.cell? ⟨E,1,none⟩=some (.slice none 0 0)∧W.cell? ⟨E,2,none⟩=some (.bool false)∧W.cell? ⟨E,3,none⟩=some (.slice A bits.length cb)∧W.cell? ⟨w.heap.size,2,none⟩=some (.slice (some ⟨b,off,none⟩) m ca)∧W.cell? ⟨b,off,none⟩=some (.string a))):=fun W hW =>
    ⟨(hW.cell (p:=⟨E,0,none⟩) (by show E<_;omega)).trans e0,(hW.cell (p:=⟨E,1,none⟩) (by show E<_;omega)).trans e1,(hW.cell (p:=⟨E,2,none⟩) (by show E<_;omega)).trans e2,(hW.cell (p:=⟨E,3,none⟩) (by show E<_;omega)).trans e3,(hW.cell (p:=⟨w.heap.size,2,none⟩) (by show w.heap.size<_;omega)).trans p2,(hW.cell (p:=⟨b,off,none⟩) (by show b<_;omega)).trans r0⟩
  have R1:=hD r1
  obtain ⟨z,hzd⟩:∃ z,z=argBad names [] a:=⟨_,rfl⟩
  have HC:=hD hzd
  clear hcl ha hc hm hra hev hrn hnn hw0 b0 hvl al hzd r1
  go_enter Try.func63,Try.ntmps63
  go_upto_region 1 with (fail)
  rw[←HW.out]
  go_wp2_with fail
  go_region_held3 (fun W=>W.cell? ⟨E,0,none⟩=some (.slice An nn cn)∧W.cell? ⟨E,1,none⟩=some (.slice none 0 0)∧W.cell? ⟨E,2,none⟩=some (.bool false)∧W.cell? ⟨E,3,none⟩=some (.slice A bits.length cb)∧W.cell? ⟨w.heap.size,2,none⟩=some (.slice (some ⟨b,off,none⟩) m ca)∧W.cell? ⟨b,off,none⟩=some (.string a)) ((refine KS.out _ ?_;first|exact Below.refl _ _|exact(Below.refl _ _).drew|exact Below.mono b1 Zq1|exact((Below.refl w0.heap.size w0).drew.alloc (Nat.le_refl _) _).mono Zq1|exact(b1.alloc b1.size _).mono Zq1|exact((b1.mono Zq1).setCell Zq6 _).setCell Zq6 _)) (first|(go_at_call 62;(with_reducible refine(l20Arg_any a names [] An none A nn cn 0 0 bits.length cb false _ HNN.out (by first|exact HN.out.drew|exact HN.out.drew.below (AL.out _ _)) rfl (rnil _) Zq1 Zq1).mono ?_);rintro e w1 ⟨rfl,b1d,s1d⟩;rw[←HC.out];first|(have b1:Below w0.heap.size w0 w1:=below_undrewC b1d)|(have b1:Below w0.heap.size w0 w1:=((Below.refl _ _).drew.alloc (Nat.le_refl _) _).trans (b1d.mono Zq5);obtain ⟨y0,y1⟩:w1.cell? ⟨w0.heap.size,0,none⟩=some (.int .i64 0)∧w1.cell? ⟨w0.heap.size,1,none⟩=some (.string ⟨#[]⟩):=boxc2 (lay:=b1d) (heap_alloc_new w0.drew (.cells #[.int .i64 0,.string ⟨#[]⟩] 68));have y2:w1.frozen? ⟨w0.heap.size,0,none⟩=false:=boxfree b1d (heap_alloc_new w0.drew (.cells #[.int .i64 0,.string ⟨#[]⟩] 68)) 0;have y3:w1.frozen? ⟨w0.heap.size,1,none⟩=false:=boxfree b1d (heap_alloc_new w0.drew (.cells #[.int .i64 0,.string ⟨#[]⟩] 68)) 1;have y6:w1.heap[w0.heap.size]?=some (.cells #[.int .i64 0,.string ⟨#[]⟩] 68 (0,0)):=(b1d.block _ Zq5).trans (heap_alloc_new w0.drew _);have y4:w0.heap.size<w1.heap.size:=lt_of_block y6)))
  all_goals
    have hs1:=b1.size
    first
    | (have y5:=y4
       obtain ⟨G,hGe⟩:∃ G,G=w0.heap.size:=⟨_,rfl⟩
       obtain ⟨wy,hwy⟩:∃ wy,wy=(w1.setCell ⟨w0.heap.size,0,none⟩ (.int .i64 z.1)).setCell ⟨w0.heap.size,1,none⟩ (.string z.2):=⟨_,rfl⟩
       have hxy:wy.heap[G]?=some (.cells #[.int .i64 z.1,.string z.2] 68 (0,0)):=by rw[hwy,hGe];exact heap_set_self (heap_set_self y6 _) _
       have by2:Below w0.heap.size w0 wy:=by rw[hwy];exact(b1.setCell (Nat.le_refl _) _).setCell (Nat.le_refl _) _
       rw[←hwy,←hGe]
       clear hwy hGe y0 y1 y2 y3 y4 y5 y6)
    | (obtain ⟨G,hGe⟩:∃ G,G=w1.heap.size:=⟨_,rfl⟩
       obtain ⟨wy,hwy⟩:∃ wy,wy=w1.alloc (.cells #[.int .i64 z.1,.string z.2] 68):=⟨_,rfl⟩
       have hxy:wy.heap[G]?=some (.cells #[.int .i64 z.1,.string z.2] 68 (0,0)):=by rw[hwy,hGe];exact heap_alloc_new _ _
       have by2:Below w0.heap.size w0 wy:=by rw[hwy];exact b1.alloc hs1 _
       rw[←hwy,←hGe]
       clear hwy hGe)
    clear b1 hs1 b1d s1d e0 e1 e2 e3 p0 p1 p2 p3 p4 k0 k1 f0 f1
    have hsy:=by2.size
    have hgl:=lt_of_block hxy
    obtain ⟨z0,z1⟩:=boxc2 (lay:=Below.refl _ _) hxy
    obtain ⟨e0,e1,e2',e3'⟩:=boxcells4' (lay:=by2) EV.out.x
    obtain ⟨p0,p1,p2,p3,p4⟩:=boxcells5 (lay:=by2) X0.out
    obtain ⟨k0,k1⟩:=boxc2 (lay:=by2) X1.out
    have f0:=boxfree by2 X1.out 0
    have f1:=boxfree by2 X1.out 1
    have hl1:w.heap.size+1<wy.heap.size:=by omega
    have r1:=(by2.cell (p:=⟨b,off+1,none⟩) hbl).trans R1.out
    have HNY:=hD (HN.out.below by2)
    have EVY:=hD (EV.out.below by2)
    have HRY:=hD (rd_own EVY.out.o)
    have MY:Hid (Mod E (Value.slice A bits.length cb).ownBlock w wy):=(Mod.of_below E _ B0.out).trans (Mod.of_below E _ by2) (.inl rfl)
    have KY:=hD ((by2.block (w.heap.size+1) hz1).trans X1.out)
    clear r0 hxy by2
    cases e1:hasS names a
    · have hzz:z=(2,a):=by rw[HC.out,argBad,if_pos e1]
      subst hzz
      have HS:Hid (measT names bits a c=((2,a),bits)):=by rw[measT,if_pos e1];exact rfl
      have z0':wy.cell? ⟨G,0,none⟩=some (.int .i64 2):=z0
      have z1':wy.cell? ⟨G,1,none⟩=some (.string a):=z1
      clear z0 z1
      go_wp2_with fail
      exact bodyPost_ret (v:=.agg #[.int .i64 2,.string a]) (by simp [results,Try.results63,go_sem,k0,k1]) rfl ⟨_,by rw[HS.out],by rw[HS.out];exact(EVY.out.set Zq7 (by dsimp only;exact VN.out) _).set Zq7 (by dsimp only;exact VN.out) _,(MY.out.set (.inr Zq5) _).set (.inr Zq5) _,.inl rfl⟩
    · have hzz:z=bad0:=by rw[HC.out,argBad,if_neg (by rw[e1];decide)];exact rfl
      subst hzz
      have z0':wy.cell? ⟨G,0,none⟩=some (.int .i64 0):=z0
      have z1':wy.cell? ⟨G,1,none⟩=some (.string ⟨#[]⟩):=z1
      clear z0 z1
      go_wp2_with fail
      clear z0' z1'
      cases e2:hasS names c
      · cases e3:hasS bits c
        · by_cases h3:bits.length=3
          · have HS:Hid (measT names bits a c=((8,c),bits)):=by rw[measT,if_neg (by rw[e1];decide),if_neg (by rw[e2];decide),if_neg (by rw[e3];decide),if_pos h3];exact rfl
            have d3:((bits.length:Int)==3)=true:=by simp;omega
            have H3:=hD h3
            clear h3
            have HB:Hid (∀ (S:Value) (r:Bool) (k:Nat),((S=.slice An nn cn∧r=false)∨(S=.slice A bits.length cb∧r=false))→Calls Try.prog 30 #[S,.string c] (wy.drewN k) fun e W=>e=.returned (.bool r)∧W=wy.drewN k):=by
              rintro S r k (⟨rfl,rfl⟩|⟨rfl,rfl⟩)
              · exact(l1Has_any An nn cn names c _ (HNY.out.drewN k) HNN.out Zq1).mono fun e W h=>⟨h.1.trans (by rw[e2]),h.2.symm⟩
              · exact(l1Has_any A bits.length cb bits c _ (HRY.out.drewN k) rfl Zq1).mono fun e W h=>⟨h.1.trans (by rw[e3]),h.2.symm⟩
            go_quiet ((go_at_call 30;exact Calls.quiet_of_same (HB.out _ _ _ (by first|exact Or.inl ⟨rfl,rfl⟩|exact Or.inr ⟨rfl,rfl⟩))))
            go_wp2_with fail
            exact bodyPost_ret (v:=.agg #[.int .i64 8,.string c]) (by simp [results,Try.results63,go_sem,k0,k1]) rfl ⟨_,by rw[HS.out],by rw[HS.out];exact((EVY.out.drewN _).set Zq7 (by dsimp only;exact VN.out) _).set Zq7 (by dsimp only;exact VN.out) _,((MY.out.drewN _).set (.inr Zq5) _).set (.inr Zq5) _,.inl rfl⟩
          · have HS:Hid (measT names bits a c=(bad0,bits++[c])):=by rw[measT,if_neg (by rw[e1];decide),if_neg (by rw[e2];decide),if_neg (by rw[e3];decide),if_neg h3];exact rfl
            have d3:((bits.length:Int)==3)=false:=by rw[beq_eq_false_iff_ne];omega
            have hb2:bits.length≤2:=by omega
            have H3:=hD h3
            clear h3
            have HB:Hid (∀ (S:Value) (r:Bool) (k:Nat),((S=.slice An nn cn∧r=false)∨(S=.slice A bits.length cb∧r=false))→Calls Try.prog 30 #[S,.string c] (wy.drewN k) fun e W=>e=.returned (.bool r)∧W=wy.drewN k):=by
              rintro S r k (⟨rfl,rfl⟩|⟨rfl,rfl⟩)
              · exact(l1Has_any An nn cn names c _ (HNY.out.drewN k) HNN.out Zq1).mono fun e W h=>⟨h.1.trans (by rw[e2]),h.2.symm⟩
              · exact(l1Has_any A bits.length cb bits c _ (HRY.out.drewN k) rfl Zq1).mono fun e W h=>⟨h.1.trans (by rw[e3]),h.2.symm⟩
            go_quiet ((go_at_call 30;exact Calls.quiet_of_same (HB.out _ _ _ (by first|exact Or.inl ⟨rfl,rfl⟩|exact Or.inr ⟨rfl,rfl⟩))))
            go_wp2_with fail
            have hEy:E<wy.heap.size:=by omega
            have hxA:∀ (k:Nat) (ob:Obj),((wy.drewN k).alloc ob).cell? ⟨E,3,none⟩=some (.slice A bits.length cb):=fun k ob=>(World.cell?_alloc_lt (wy.drewN k) ob ⟨E,3,none⟩ hEy).trans e3'
            go_region_law (first|(refine step_append_rdO _ (by rfl) (.tmp 67) (.tmp 72) 24 (by rfl) base 9 i0 _ 1 16 Try.underlying24 hi hzi0 hzi1 hzi2 (by rfl) Zq4 _ bits.length _ (by rfl) (by exact((own_drewNV EVY.out.o _).alloc _)) _ 1 _ [.string c] (by rfl) (by exact rd_lit4 (w:=wy.drewN _) (by rfl) rfl) (by exact one_strV c) (by simp only[maxLen];omega) Zq1 Zq6 ?_;intro v3 w3 own3 gr3 at3;obtain ⟨A3,c3,rfl,_,_,_⟩:=rd_of_own own3;have hx3:w3.heap[E]?=some (.cells #[.slice An nn cn,.slice none 0 0,.bool false,.slice A bits.length cb] 72 (0,0)):=(gr3.block E Zq6 (fun e=>own_ne_typeM EVY.out.o EVY.out.x Zq4 e.symm)).trans ((Below.heap_alloc _ _ _ Zq6).trans EVY.out.x);have px3:=cell_at (j:=3) (u:=.slice A bits.length cb) hx3 rfl;have fx3:=free_atM (j:=3) hx3;have hlx3:=lt_of_block hx3))
            all_goals
              have hk3:w3.heap[w.heap.size+1]?=some (.cells #[.int .i64 0,.string ⟨#[]⟩] 68 (0,0)):=(gr3.block (w.heap.size+1) Zq6 (fun e=>own_ne_typeM EVY.out.o KY.out Zq4 e.symm)).trans ((Below.heap_alloc _ _ _ Zq6).trans KY.out)
              have M3:Mod E (Value.slice A bits.length cb).ownBlock w w3:=((MY.out.drewN _).trans (Mod.of_below E _ ((Below.refl _ _).alloc (Nat.le_refl _) _)) (.inl rfl)).trans (Mod.grown gr3) (.inl rfl)
              have G4:Grew (Value.slice A bits.length cb).ownBlock (w.heap.size+1+1) (Value.slice A3 (bits.length+1) c3).ownBlock:=by
                rcases at3 with e|e
                · exact .inl e
                · exact .inr ⟨_,e,by first|omega|(simp;omega)⟩
              obtain ⟨w4,hw4⟩:∃ w4,w4=w3.setCell ⟨E,3,none⟩ (.slice A3 (bits.length+1) c3):=⟨_,rfl⟩
              have EV4:EvS w4 base E An nn cn (bits++[c]) (.slice A3 (bits.length+1) c3):=by rw[hw4];exact ⟨heap_set_self hx3 _,by rw[List.length_append,strs_snoc2];exact own_setfarM own3 (own_ne_typeM own3 hx3 Zq4) _⟩
              have hk4:w4.heap[w.heap.size+1]?=some (.cells #[.int .i64 0,.string ⟨#[]⟩] 68 (0,0)):=by rw[hw4];exact heap_set_far hk3 Zq7 _
              have M4:Mod E (Value.slice A bits.length cb).ownBlock w w4:=by rw[hw4];exact M3.set (p:=⟨E,3,none⟩) (.inl rfl) _
              have x4:(Value.slice A3 (bits.length+1) c3).ownBlock≠some (w.heap.size+1):=fun e=>by
                rcases G4 with g|⟨k,g,hk⟩
                · exact VN.out (g.symm.trans e)
                · have:=Option.some.inj (g.symm.trans e);omega
              have HE4:=hD EV4
              have HM4:=hD M4
              have HG4:=hD (G4.weakV (z':=w.heap.size) Zq1)
              have HX4:=hD x4
              have W4:=hD hw4
              have hl4:w.heap.size+1<w4.heap.size:=lt_of_block hk4
              clear k0 k1 f0 f1
              obtain ⟨k0,k1⟩:=boxc2 (lay:=Below.refl _ _) hk4
              have f0:=boxfree (Below.refl _ _) hk4 0
              have f1:=boxfree (Below.refl _ _) hk4 1
              clear hxA own3 gr3 at3 hx3 px3 fx3 hlx3 hk3 M3 G4 hw4 EV4 hk4 M4 x4 e0 e3' p0 p1 p2 p3 p4 r1
              rw[←W4.out]
              go_wp2_with fail
              exact bodyPost_ret (v:=.agg #[.int .i64 0,.string ⟨#[]⟩]) (by simp [results,Try.results63,go_sem,k0,k1]) rfl ⟨_,by rw[HS.out];exact rfl,by rw[HS.out];exact(HE4.out.set Zq7 (by dsimp only;exact HX4.out) _).set Zq7 (by dsimp only;exact HX4.out) _,(HM4.out.set (.inr Zq5) _).set (.inr Zq5) _,HG4.out⟩
        · have HS:Hid (measT names bits a c=((1,c),bits)):=by rw[measT,if_neg (by rw[e1];decide),if_neg (by rw[e2];decide),if_pos e3];exact rfl
          have HB:Hid (∀ (S:Value) (r:Bool) (k:Nat),((S=.slice An nn cn∧r=false)∨(S=.slice A bits.length cb∧r=true))→Calls Try.prog 30 #[S,.string c] (wy.drewN k) fun e W=>e=.returned (.bool r)∧W=wy.drewN k):=by
            rintro S r k (⟨rfl,rfl⟩|⟨rfl,rfl⟩)
            · exact(l1Has_any An nn cn names c _ (HNY.out.drewN k) HNN.out Zq1).mono fun e W h=>⟨h.1.trans (by rw[e2]),h.2.symm⟩
            · exact(l1Has_any A bits.length cb bits c _ (HRY.out.drewN k) rfl Zq1).mono fun e W h=>⟨h.1.trans (by rw[e3]),h.2.symm⟩
          go_quiet ((go_at_call 30;exact Calls.quiet_of_same (HB.out _ _ _ (by first|exact Or.inl ⟨rfl,rfl⟩|exact Or.inr ⟨rfl,rfl⟩))))
          go_wp2_with fail
          exact bodyPost_ret (v:=.agg #[.int .i64 1,.string c]) (by simp [results,Try.results63,go_sem,k0,k1]) rfl ⟨_,by rw[HS.out],by rw[HS.out];exact((EVY.out.drewN _).set Zq7 (by dsimp only;exact VN.out) _).set Zq7 (by dsimp only;exact VN.out) _,((MY.out.drewN _).set (.inr Zq5) _).set (.inr Zq5) _,.inl rfl⟩
      · have HS:Hid (measT names bits a c=((1,c),bits)):=by rw[measT,if_neg (by rw[e1];decide),if_pos e2];exact rfl
        go_quiet ((go_at_call 30;exact Calls.quiet_of_same ((l1Has_any An nn cn names c _ (HNY.out.drewN _) HNN.out Zq1).mono fun e W h=>(⟨h.1.trans (by rw[e2]),h.2.symm⟩:e=.returned (.bool true)∧W=_))))
        go_wp2_with fail
        exact bodyPost_ret (v:=.agg #[.int .i64 1,.string c]) (by simp [results,Try.results63,go_sem,k0,k1]) rfl ⟨_,by rw[HS.out],by rw[HS.out];exact((EVY.out.drewN _).set Zq7 (by dsimp only;exact VN.out) _).set Zq7 (by dsimp only;exact VN.out) _,((MY.out.drewN _).set (.inr Zq5) _).set (.inr Zq5) _,.inl rfl⟩
theorem own_ne_type {w:World} {base e size n g:Nat} {v:Value} {xs:List Value} {cs:Array Value} {t:TypeId} (h:w.ownsRow base e size v n xs) (hg:w.heap[g]?=some (.cells cs t (0,0))) (hne:e≠t):v.ownBlock≠some g:=by
 rcases h.2 with ⟨rfl,_⟩|⟨g',cap,cur,rfl,_,hh,_⟩
 ·simp [Value.ownBlock]
 ·intro he
  have e1:g'=g:=by simpa [Value.ownBlock] using he
  subst e1
  rw[hh] at hg
  injection hg with hg
  injection hg with _ ht
  exact hne ht
theorem own_setfar {w:World} {base e size n:Nat} {v:Value} {xs:List Value} (h:w.ownsRow base e size v n xs) {p:Addr} (hp:v.ownBlock≠some p.block) (u:Value):(w.setCell p u).ownsRow base e size v n xs:=by
 refine ⟨h.1,?_⟩
 rcases h.2 with hn|⟨g,cap,cur,rfl,hb,hh,rest⟩
 ·exact .inl hn
 ·exact .inr ⟨g,cap,cur,rfl,hb,heap_set_far hh (fun e=>hp (by simp [Value.ownBlock,e])) u,rest⟩
theorem nargs_facts {d:Nat} {h:SH} {bd:List (Tr d)} (hv:vOne d (validT d) h bd=true):(h.k=6→2≤h.args.length)∧(4≤h.k→1≤h.args.length):=by
 have e:=valid_args hv
 refine ⟨fun hk=>?_,fun hk=>?_⟩
 ·have h6:nargs 6 h.word=2:=rfl
  rw[e,hk,h6]
  exact Nat.le_refl 2
 ·rw[e]
  unfold nargs
  repeat' split
  all_goals omega
theorem Grew.trans {r r' r'':Option Nat} {z z':Nat} (h:Grew r z r') (h':Grew r' z' r'') (hz:z≤z'):Grew r z r'':=by
 rcases h' with h'|⟨k,h',hk⟩
 ·rw[h'];exact h
 ·exact .inr ⟨k,h',Nat.le_trans hz hk⟩
def sel7 (b:Bool) (x y:Bad):Bad:=if b=true then x else y
theorem Grew.transV {r r' r'':Option Nat} {z z':Nat} (h:Grew r z r') (h':Grew r' z' r'') (hz:z≤z'):Grew r z r'':=h.trans h' hz
theorem Zq8 {p:Prop} (h:p:=by first|omega|(dsimp only;omega)):p:=h
theorem l20Stmt_6t (word:ByteArray) (args names bits:List ByteArray) (count:Int) (Aa:Option Addr) (m ca:Nat) (Ac:Option Addr) (nc cc:Nat) (An:Option Addr) (nn cn base E:Nat) (v:Value) (a c:ByteArray) (w:World) (hev:EvS w base E An nn cn bits v) (hbase:base≤w.heap.size) (hb3:bits.length≤3) (hm:args.length=m) (hra:Rd w 1 Aa m (strs args)) (hca:m≤ca) (h1:m≤1048576) (hnn:names.length=nn) (hrn:Rd w 1 An nn (strs names)) (h4:nn≤4) (h2:2≤m) (ha:args[0]?=some a) (hc:args[1]?=some c) :
  Calls Try.prog 42 #[.agg #[.int .i64 6,.string word,.slice Aa m ca,.int .i64 count,.slice Ac nc cc],.pointer (some ⟨E,0,none⟩)] w (RetMS base E An nn cn v (measT names bits a c) w):=by
 obtain ⟨A,cb,rfl,hcap,_,_⟩:=rd_of_own hev.o
 obtain ⟨b,off,rfl,hbw,hcl⟩:=hra.2 Zq1
 obtain ⟨w0,hw0⟩:∃ w0,w0=((w.alloc (.cells #[.int .i64 6,.string word,.slice (some ⟨b,off,none⟩) m ca,.int .i64 count,.slice Ac nc cc] 42)).alloc (.cells #[.int .i64 0,.string ⟨#[]⟩] 68)).alloc (.cells #[.slice An nn cn,.slice none 0 0,.bool true,.slice A bits.length cb] 72):=⟨_,rfl⟩
 have X0:=hD (show w0.heap[w.heap.size]?=some (.cells #[.int .i64 6,.string word,.slice (some ⟨b,off,none⟩) m ca,.int .i64 count,.slice Ac nc cc] 42 (0,0)) by rw[hw0];exact boxed3_0 _ _ _ _)
 have X1:=hD (show w0.heap[w.heap.size+1]?=some (.cells #[.int .i64 0,.string ⟨#[]⟩] 68 (0,0)) by rw[hw0];exact boxed3_1 _ _ _ _)
 have X2:=hD (show w0.heap[w.heap.size+1+1]?=some (.cells #[.slice An nn cn,.slice none 0 0,.bool true,.slice A bits.length cb] 72 (0,0)) by rw[hw0];exact boxed3_2 _ _ _ _)
 have b0:Below w.heap.size w w0:=by rw[hw0];exact Zq0
 have hz:w.heap.size+1+1<w0.heap.size:=by rw[hw0];simp
 have hz0:w.heap.size<w0.heap.size:=by omega
 have hz1:w.heap.size+1<w0.heap.size:=by omega
 have HW:=hD hw0
 have HA:=hD (hra.below b0)
 have HN:=hD (hrn.below b0)
 have EV:=hD (hev.below b0)
 have HM:=hD hm
 have HNN:=hD hnn
 have B0:=hD b0
 have hEl:=lt_of_block hev.x
 have hE1:E<w.heap.size+1:=by omega
 have hE2:E<w.heap.size+1+1:=by omega
 have hvl:∀ k,(Value.slice A bits.length cb).ownBlock=some k→k<w.heap.size:=fun k e=>(hev.o.lt k e).2
 have HVL:=hD hvl
 have VN:Hid ((Value.slice A bits.length cb).ownBlock≠some (w.heap.size+1)):=fun e=>by have:=hvl _ e;omega
 have hbl:b<w0.heap.size:=by omega
 have hm2:0<m:=by omega
 have r0:=hcl 0 _ (strs_at ha)
 rw[Nat.add_zero,←b0.cell (p:=⟨b,off,none⟩) hbw] at r0
 have R0:=hD r0
 have HA0:=hD ha
 obtain ⟨e0,e1,e2,e3⟩:=boxcells4' (lay:=Below.refl _ _) hev.x
 clear hcl hra hrn hm hnn hvl ha r0
 have HC0:=hD hc
 clear hc
 go_enter Try.func42,Try.ntmps42
 go_wp2_with fail
 rw[←HW.out]
 clear e0 e1 e2 e3 hev b0 hw0
 have hEl0:E<w0.heap.size:=by omega
 obtain ⟨e0,e1,e2,e3⟩:=boxcells4' (lay:=Below.refl _ _) EV.out.x
 obtain ⟨p0,p1,p2,p3,p4⟩:=boxcells5 (lay:=Below.refl _ _) X0.out
 obtain ⟨k0,k1⟩:=boxc2 (lay:=Below.refl _ _) X1.out
 have f0:=boxfree (Below.refl _ _) X1.out 0
 have f1:=boxfree (Below.refl _ _) X1.out 1
 go_wp2_with fail
 refine(l20Measure_top word args count (some ⟨b,off,none⟩) m ca Ac nc cc An nn cn base E names bits (.slice A bits.length cb) a c w0 EV.out Zq1 hb3 HM.out HA.out hca h2 h1 HA0.out HC0.out HNN.out HN.out Zq1).mono ?_
 rintro e w1 ⟨v',rfl,ev1,m1,g1⟩
 have hx1:w1.heap[w.heap.size+1]?=some (.cells #[.int .i64 0,.string ⟨#[]⟩] 68 (0,0)):=(m1.block _ hz1 Zq1 (fun e=>by have:=HVL.out _ e;omega)).trans X1.out
 clear k0 k1 f0 f1
 obtain ⟨k0,k1⟩:=boxc2 (lay:=Below.refl _ _) hx1
 have f0:=boxfree (Below.refl _ _) hx1 0
 have f1:=boxfree (Below.refl _ _) hx1 1
 have hl1:w.heap.size+1<w1.heap.size:=lt_of_block hx1
 have x4:v'.ownBlock≠some (w.heap.size+1):=fun e=>by
  rcases g1 with g|⟨k,g,hk⟩
  ·exact VN.out (g.symm.trans e)
  ·have:=Option.some.inj (g.symm.trans e);omega
 have EV1:=hD ev1
 have M1:=hD ((Mod.of_below E (Value.slice A bits.length cb).ownBlock B0.out).trans m1 (.inl rfl))
 have G1:=hD (g1.weakV (z':=w.heap.size) Zq1)
 have HX4:=hD x4
 obtain ⟨z,hzz⟩:∃ z,z=measT names bits a c:=⟨_,rfl⟩
 rw[←hzz] at EV1 ⊢
 have HZ:=hD hzz
 clear hx1 ev1 m1 g1 x4 hzz
 go_wp2_with fail
 exact bodyPost_ret (v:=.agg #[.int .i64 z.1.1,.string z.1.2]) (by simp [results,Try.results42,go_sem,k0,k1]) rfl ⟨v',by rw[←HZ.out],by rw[←HZ.out];exact(EV1.out.set Zq8 (by first|exact HX4.out|(dsimp only;exact HX4.out)) _).set Zq8 (by first|exact HX4.out|(dsimp only;exact HX4.out)) _,(M1.out.set (.inr Zq5) _).set (.inr Zq5) _,G1.out⟩
theorem l20Stmt_7t (d:Nat) (bd:List (Tr d)) (word:ByteArray) (args names bits:List ByteArray) (count:Int) (Aa:Option Addr) (m ca:Nat) (Ac:Option Addr) (nc cc:Nat) (An:Option Addr) (nn cn base E:Nat) (v:Value) (a:ByteArray) (w:World) (hev:EvS w base E An nn cn bits v) (hbase:base≤w.heap.size) (hb3:bits.length≤3) (hm:args.length=m) (hra:Rd w 1 Aa m (strs args)) (hca:m≤ca) (h1:m≤1048576) (hnn:names.length=nn) (hrn:Rd w 1 An nn (strs names)) (h4:nn≤4) (h2:1≤m) (ha:args[0]?=some a) (h3:szT d bd≤1048576) (hbody:BodyS d bd w Ac nc cc) :
  Calls Try.prog 42 #[.agg #[.int .i64 7,.string word,.slice Aa m ca,.int .i64 count,.slice Ac nc cc],.pointer (some ⟨E,0,none⟩)] w (RetMS base E An nn cn v (sel7 (hasS bits a) (chkN d bd names []) (7,a),bits) w):=by
 obtain ⟨A,cb,rfl,hcap,_,_⟩:=rd_of_own hev.o
 obtain ⟨b,off,rfl,hbw,hcl⟩:=hra.2 Zq1
 obtain ⟨w0,hw0⟩:∃ w0,w0=((w.alloc (.cells #[.int .i64 7,.string word,.slice (some ⟨b,off,none⟩) m ca,.int .i64 count,.slice Ac nc cc] 42)).alloc (.cells #[.int .i64 0,.string ⟨#[]⟩] 68)).alloc (.cells #[.slice An nn cn,.slice none 0 0,.bool true,.slice A bits.length cb] 72):=⟨_,rfl⟩
 have X0:=hD (show w0.heap[w.heap.size]?=some (.cells #[.int .i64 7,.string word,.slice (some ⟨b,off,none⟩) m ca,.int .i64 count,.slice Ac nc cc] 42 (0,0)) by rw[hw0];exact boxed3_0 _ _ _ _)
 have X1:=hD (show w0.heap[w.heap.size+1]?=some (.cells #[.int .i64 0,.string ⟨#[]⟩] 68 (0,0)) by rw[hw0];exact boxed3_1 _ _ _ _)
 have X2:=hD (show w0.heap[w.heap.size+1+1]?=some (.cells #[.slice An nn cn,.slice none 0 0,.bool true,.slice A bits.length cb] 72 (0,0)) by rw[hw0];exact boxed3_2 _ _ _ _)
 have b0:Below w.heap.size w w0:=by rw[hw0];exact Zq0
 have hz:w.heap.size+1+1<w0.heap.size:=by rw[hw0];simp
 have hz0:w.heap.size<w0.heap.size:=by omega
 have hz1:w.heap.size+1<w0.heap.size:=by omega
 have HW:=hD hw0
 have HA:=hD (hra.below b0)
 have HN:=hD (hrn.below b0)
 have EV:=hD (hev.below b0)
 have HM:=hD hm
 have HNN:=hD hnn
 have B0:=hD b0
 have hEl:=lt_of_block hev.x
 have hE1:E<w.heap.size+1:=by omega
 have hE2:E<w.heap.size+1+1:=by omega
 have hvl:∀ k,(Value.slice A bits.length cb).ownBlock=some k→k<w.heap.size:=fun k e=>(hev.o.lt k e).2
 have HVL:=hD hvl
 have VN:Hid ((Value.slice A bits.length cb).ownBlock≠some (w.heap.size+1)):=fun e=>by have:=hvl _ e;omega
 have hbl:b<w0.heap.size:=by omega
 have hm2:0<m:=by omega
 have r0:=hcl 0 _ (strs_at ha)
 rw[Nat.add_zero,←b0.cell (p:=⟨b,off,none⟩) hbw] at r0
 have R0:=hD r0
 have HA0:=hD ha
 obtain ⟨e0,e1,e2,e3⟩:=boxcells4' (lay:=Below.refl _ _) hev.x
 clear hcl hra hrn hm hnn hvl ha r0
 have HB:=hD hbody
 clear hbody
 go_enter Try.func42,Try.ntmps42
 go_wp2_with fail
 rw[←HW.out]
 clear e0 e1 e2 e3 hev b0 hw0
 have hEl0:E<w0.heap.size:=by omega
 obtain ⟨e0,e1,e2,e3⟩:=boxcells4' (lay:=Below.refl _ _) EV.out.x
 obtain ⟨p0,p1,p2,p3,p4⟩:=boxcells5 (lay:=Below.refl _ _) X0.out
 obtain ⟨k0,k1⟩:=boxc2 (lay:=Below.refl _ _) X1.out
 have f0:=boxfree (Below.refl _ _) X1.out 0
 have f1:=boxfree (Below.refl _ _) X1.out 1
 have HRB:=hD (rd_own EV.out.o)
 have r0:=R0.out
 have M0:Hid (Mod E (Value.slice A bits.length cb).ownBlock w w0):=Mod.of_below E _ B0.out
 cases e1:hasS bits a
 ·have HS:Hid ((sel7 (hasS bits a) (chkN d bd names []) (7,a),bits)=(((7,a):Bad),bits)):=by rw[e1];exact rfl
  go_wp2_with fail
  go_quiet ((go_at_call 30;exact Calls.quiet_of_same ((l1Has_any A bits.length cb bits a _ (HRB.out.drewN _) rfl Zq1).mono fun e W h=>(⟨h.1.trans (by rw[e1]),h.2.symm⟩:e=.returned (.bool false)∧W=_))))
  go_wp2_with fail
  exact bodyPost_ret (v:=.agg #[.int .i64 7,.string a]) (by simp [results,Try.results42,go_sem,k0,k1]) rfl ⟨_,by rw[HS.out],by rw[HS.out];exact((EV.out.drewN _).set Zq8 (by first|exact VN.out|(dsimp only;exact VN.out)) _).set Zq8 (by first|exact VN.out|(dsimp only;exact VN.out)) _,((M0.out.drewN _).set (.inr Zq5) _).set (.inr Zq5) _,.inl rfl⟩
 ·obtain ⟨z,hz9⟩:∃ z,z=chkN d bd names []:=⟨_,rfl⟩
  have HS:Hid ((sel7 (hasS bits a) (chkN d bd names []) (7,a),bits)=(z,bits)):=by rw[hz9,e1];exact rfl
  have HZ:=hD hz9
  clear hz9
  go_wp2_with fail
  go_quiet ((go_at_call 30;exact Calls.quiet_of_same ((l1Has_any A bits.length cb bits a _ (HRB.out.drewN _) rfl Zq1).mono fun e W h=>(⟨h.1.trans (by rw[e1]),h.2.symm⟩:e=.returned (.bool true)∧W=_))))
  go_wp2_with fail
  refine(HB.out (w.heap.size+1+1) An nn cn none 0 0 A bits.length cb names [] _ (below_drewN B0.out _) X2.out (HN.out.drewN _) (rnil _) HNN.out rfl h4 Zq1).mono ?_
  rintro e w1 ⟨rfl,b1d,s1d⟩
  have b1:Below w0.heap.size w0 w1:=⟨b1d.os,b1d.tape,b1d.output,b1d.size,b1d.block⟩
  clear k0 k1 f0 f1 b1d s1d
  obtain ⟨k0,k1⟩:=boxc2 (lay:=b1) X1.out
  have f0:=boxfree b1 X1.out 0
  have f1:=boxfree b1 X1.out 1
  have hl1:w.heap.size+1<w1.heap.size:=by have:=b1.size;omega
  rw[←HZ.out]
  have EV1:=hD (EV.out.below b1)
  have M1:=hD (M0.out.trans (Mod.of_below E _ b1) (.inl rfl))
  clear b1
  go_wp2_with fail
  exact bodyPost_ret (v:=.agg #[.int .i64 z.1,.string z.2]) (by simp [results,Try.results42,go_sem,k0,k1]) rfl ⟨_,by rw[HS.out],by rw[HS.out];exact(EV1.out.set Zq8 (by first|exact VN.out|(dsimp only;exact VN.out)) _).set Zq8 (by first|exact VN.out|(dsimp only;exact VN.out)) _,(M1.out.set (.inr Zq5) _).set (.inr Zq5) _,.inl rfl⟩
theorem l20Stmt_any_top (d:Nat) (bd:List (Tr d)) (k:Int) (word:ByteArray) (args names bits:List ByteArray) (count:Int) (Aa:Option Addr) (m ca:Nat) (Ac:Option Addr) (nc cc:Nat) (An:Option Addr) (nn cn base E:Nat) (v:Value) (w:World) (hev:EvS w base E An nn cn bits v) (hbase:base≤w.heap.size) (hb3:bits.length≤3) (hm:args.length=m) (hra:Rd w 1 Aa m (strs args)) (hca:m≤ca) (h1:m≤1048576) (hnn:names.length=nn) (hrn:Rd w 1 An nn (strs names)) (h4:nn≤4) (hv:vOne d (validT d) ⟨k,word,args,count⟩ bd=true) (h3:m+szT d bd≤1048576) (hbody:BodyS d bd w Ac nc cc) :
  Calls Try.prog 42 #[.agg #[.int .i64 k,.string word,.slice Aa m ca,.int .i64 count,.slice Ac nc cc],.pointer (some ⟨E,0,none⟩)] w (RetMS base E An nn cn v (oneT d ⟨k,word,args,count⟩ bd names bits) w):=by
 obtain ⟨hk,_,_⟩:=vOne_facts hv
 obtain ⟨g6,g4⟩:=nargs_facts hv
 by_cases h6:k=6
 ·subst h6
  have hl:2≤args.length:=g6 rfl
  have e:oneT d ⟨6,word,args,count⟩ bd names bits=measT names bits (arg0 ⟨6,word,args,count⟩) (arg1 ⟨6,word,args,count⟩):=by rw[oneT,if_pos rfl]
  rw[e]
  exact l20Stmt_6t word args names bits count Aa m ca Ac nc cc An nn cn base E v _ _ w hev hbase hb3 hm hra hca h1 hnn hrn h4 Zq1 (arg0_of (h:=⟨6,word,args,count⟩) (show 0<args.length by omega)) (arg1_of (h:=⟨6,word,args,count⟩) hl)
 ·by_cases h7:k=7
  ·subst h7
   have hl:1≤args.length:=g4 (show(4:Int)≤7 by decide)
   have e:oneT d ⟨7,word,args,count⟩ bd names bits=(sel7 (hasS bits (arg0 ⟨7,word,args,count⟩)) (chkN d bd names []) (7,arg0 ⟨7,word,args,count⟩),bits):=by rw[oneT,if_neg h6,if_pos rfl];rfl
   rw[e]
   exact l20Stmt_7t d bd word args names bits count Aa m ca Ac nc cc An nn cn base E v _ w hev hbase hb3 hm hra hca h1 hnn hrn h4 Zq1 (arg0_of (h:=⟨7,word,args,count⟩) hl) Zq1 hbody
  ·have e:oneT d ⟨k,word,args,count⟩ bd names bits=(oneN ⟨k,word,args,count⟩ (chkN d bd) names [],bits):=by rw[oneT,if_neg h6,if_neg h7]
   rw[e]
   obtain ⟨A,cb,rfl,hcap,_,_⟩:=rd_of_own hev.o
   have hh:Calls Try.prog 42 #[.agg #[.int .i64 k,.string word,.slice Aa m ca,.int .i64 count,.slice Ac nc cc],.pointer (some ⟨E,0,none⟩)] w (RetBadA (oneN ⟨k,word,args,count⟩ (chkN d bd) names []) w):=by
    have h:k=1∨k=2∨k=3∨k=4∨k=5:=by omega
    rcases h with rfl|rfl|rfl|rfl|rfl
    ·exact l20Stmt_1 d word args names [] count bd Aa m ca Ac nc cc E An none A nn cn 0 0 bits.length cb false w hev.x hm hra hca hnn hrn rfl (rnil _) h1 h4 Zq1 hv hbody
    ·exact l20Stmt_2 d word args names [] count bd Aa m ca Ac nc cc E An none A nn cn 0 0 bits.length cb false w hev.x hm hra hca hnn hrn rfl (rnil _) h1 h4 Zq1 hv hbody
    ·exact l20Stmt_3 d word args names [] count bd Aa m ca Ac nc cc E An none A nn cn 0 0 bits.length cb false w hev.x hm hra hca hnn hrn rfl (rnil _) h1 h4 Zq1 hv hbody
    ·exact l20Stmt_4 d word args names [] count bd Aa m ca Ac nc cc E An none A nn cn 0 0 bits.length cb false w hev.x hm hra hca hnn hrn rfl (rnil _) h1 h4 Zq1 hv hbody
    ·exact l20Stmt_5 d word args names [] count bd Aa m ca Ac nc cc E An none A nn cn 0 0 bits.length cb false w hev.x hm hra hca hnn hrn rfl (rnil _) h1 h4 Zq1 hv hbody
   refine hh.mono ?_
   rintro e w' ⟨rfl,b',s'⟩
   exact ⟨_,rfl,hev.below b',Mod.of_below _ _ b',.inl rfl⟩
def RetAllS (base:Nat) (c:Bad) (w:World) (e:Ending) (w':World):Prop:=e=.returned (.agg #[.int .i64 c.1,.string c.2])∧Below base w w'∧w.heap.size≤w'.heap.size
theorem l20All_top (d lo base E:Nat) (A:Option Addr) (n c:Nat) (l:List (Tr d)) (An:Option Addr) (nn cn:Nat) (names bits0:List ByteArray) (v0:Value) (wB w:World) (h:RdT wB lo d A n l) (hrn:Rd wB 1 An nn (strs names)) (hnn:names.length=nn) (hB:wB.heap.size≤base) (hbase:base≤w.heap.size) (hbB:Below base wB w) (hX:base≤E) (hev:EvS w base E An nn cn bits0 v0) (hb3:bits0.length≤3) (h4:nn≤4) (hsz:szT d l≤1048576) (hv:validT d l=true) :
  Calls Try.prog 31 #[.slice A n c,.pointer (some ⟨E,0,none⟩)] w (RetAllS base (chkT d l names bits0) w):=by
 cases d with
 | zero =>
  obtain rfl:=szT_zero_len h
  clear h hrn hnn hbB hev
  go_enter Try.func31,Try.ntmps31
  go_wp2
  refine wp_loop_rounds 1 ?_
  rw[rounds_succ]
  go_wp2
  exact bodyPost_ret (v:=.agg #[.int .i64 0,.string ⟨#[]⟩]) (by simp [results,Try.results31,go_sem]) rfl ⟨rfl,(Below.refl _ _).alloc hbase _,Zq2⟩
 | succ d =>
  have hq:=hsz
  rw[szT_succ] at hq
  have hln:=h.len
  have hn:n≤1048576:=by omega
  obtain ⟨f,hf⟩:∃ f,f=fun (s:Tr (d+1)) bits=>oneT d (hdT s) (bdT s) names bits:=⟨_,rfl⟩
  obtain ⟨RES,hRES⟩:∃ RES,RES=topB f l bits0:=⟨_,rfl⟩
  have HRES:Hid (chkT (d+1) l names bits0=RES):=by rw[hRES,hf];exact rfl
  obtain ⟨w0,hw0⟩:∃ w0,w0=w.alloc (.cells #[.int .i64 0,.string ⟨#[]⟩] 68):=⟨_,rfl⟩
  have X0:=hD (show w0.heap[w.heap.size]?=some (.cells #[.int .i64 0,.string ⟨#[]⟩] 68 (0,0)) by rw[hw0];exact boxed1_0 _ _)
  have b0:Below w.heap.size w w0:=by rw[hw0];exact Zq0
  have hz0:w.heap.size<w0.heap.size:=by rw[hw0];simp
  have hxw:E<w.heap.size:=lt_of_block hev.x
  have hvl:∀ k,v0.ownBlock=some k→base≤k∧k<w.heap.size:=fun k e=>hev.o.lt k e
  have HVL:=hD hvl
  have EV0:=hD (hev.below b0)
  have HW:=hD hw0
  have H:=hD h
  have HLN:=hD hln
  have HF:=hD hf
  have HRS:=hD hRES
  have HN:=hD hrn
  have HNN:=hD hnn
  have HQ:=hD hq
  have HV:=hD hv
  have B0:=hD b0
  have BB:=hD (hbB.trans (b0.mono hbase))
  clear h hln hf hRES hrn hnn hsz hq hv hw0 b0 hev hvl hbB
  go_enter Try.func31,Try.ntmps31
  go_wp2_with fail
  rw[←HW.out]
  go_loopw [5] (fun i wr=>∃ (t:Nat) (v:Value) (bits:List ByteArray),t≤n∧i=.int .i64 t∧Hid (topB f (l.drop t) bits=RES)∧Hid (bits.length≤3)∧Hid (EvS wr base E An nn cn bits v)∧Hid (Mod E v0.ownBlock w0 wr)∧Hid (Grew v0.ownBlock w0.heap.size v.ownBlock)) (fun i _=>n - (intOf i).toNat)
  case atStart=>exact ⟨0,v0,bits0,Nat.zero_le _,rfl,HRS.out.symm,hb3,EV0.out,Mod.of_below _ _ (Below.refl _ _),.inl rfl⟩
  case round =>
   obtain ⟨t,v,bits,ht,rfl,hres,hb3r,hevr,hmod,hgr⟩:=hrel
   have hbs:=hmod.out.size
   have hBr:Below base w0 wr:=hmod.out.below Zq1 hX (fun k e=>(HVL.out k e).1)
   have hbB:Below wB.heap.size wB wr:=(BB.out.trans hBr).mono hB
   have hX0r:wr.heap[w.heap.size]?=some (.cells #[.int .i64 0,.string ⟨#[]⟩] 68 (0,0)):=(hmod.out.block _ hz0 Zq1 (fun e=>by have:=(HVL.out _ e).2;omega)).trans X0.out
   by_cases hlt:t<n
   ·obtain ⟨b,off,s,Aa,ca,Ac,nc,cc,rfl,hbl,hs,⟨c0,c1,c2,c3,c4⟩,ha,hbd,hcap⟩:=H.out.at_c hlt
    rw[←hbB.cell (p:=⟨b,_,none⟩) hbl] at c0 c1 c2 c3 c4
    have hbl':b<wr.heap.size:=Nat.lt_of_lt_of_le hbl hbB.size
    have hme:=szT_mem hs
    have hze:szE s=(hdT s).word.size+((hdT s).args.length+szS (hdT s).args+szT d (bdT s)):=rfl
    have hq:=HQ.out
    have hvs:=validT_mem HV.out hs
    obtain ⟨hk,_,hvb⟩:=vOne_facts hvs
    have HC:=hD (l20Stmt_any_top d (bdT s) (hdT s).k (hdT s).word (hdT s).args names bits (hdT s).count Aa _ ca Ac nc cc An nn cn base E v wr hevr.out Zq1 hb3r.out rfl (ha.rd.below hbB) hcap Zq1 HNN.out (HN.out.below hbB) h4 hvs Zq1 (bodyS_of (l20All_in d) cc (hbd.below hbB) hvb))
    obtain ⟨R,hR⟩:∃ R,R=oneT d (hdT s) (bdT s) names bits:=⟨_,rfl⟩
    have HC2:Hid (Calls Try.prog 42 #[.agg #[.int .i64 (hdT s).k,.string (hdT s).word,.slice Aa (hdT s).args.length ca,.int .i64 (hdT s).count,.slice Ac nc cc],.pointer (some ⟨E,0,none⟩)] wr (RetMS base E An nn cn v R wr)):=by
     rw[hR]
     exact HC.out
    have HAT:Hid (RES=if R.1.1=0 then topB f (l.drop (t+1)) R.2 else R.1):=by
     rw[←hres.out,topB_at hs,HF.out,hR]
     exact rfl
    have HB3:Hid (R.2.length≤3):=by rw[hR];exact oneT_len hb3r.out
    have hvlr:∀ k,v.ownBlock=some k→k<wr.heap.size:=fun k e=>(hevr.out.o.lt k e).2
    have hvX:v.ownBlock≠some w.heap.size:=fun e=>by rcases hgr.out with g|⟨k',g,hk'⟩ <;> have hh:=g.symm.trans e <;> first|(have:=(HVL.out _ hh).2;omega)|(have:=Option.some.inj hh;omega)
    have HVX:=hD hvX
    clear hs ha hbd hcap hme hze hq hvs hk hvb HC hR hvlr hvX hevr hres
    go_wp2_with fail
    refine HC2.out.mono ?_
    rintro e w1 ⟨v1,rfl,ev1,m1,g1⟩
    have hX1:w1.heap[w.heap.size]?=some (.cells #[.int .i64 0,.string ⟨#[]⟩] 68 (0,0)):=(m1.block _ Zq1 Zq1 HVX.out).trans hX0r
    obtain ⟨k0,k1⟩:=boxc2 (lay:=Below.refl _ _) hX1
    have f0:=boxfree (Below.refl _ _) hX1 0
    have f1:=boxfree (Below.refl _ _) hX1 1
    have hl1:w.heap.size<w1.heap.size:=lt_of_block hX1
    have hs1:=m1.size
    have MW1:=hD (hmod.out.trans m1 hgr.out)
    have GR1:=hD (hgr.out.transV g1 Zq1)
    have EV1:=hD ev1
    clear c0 c1 c2 c3 c4 hX1 ev1 m1 g1 hmod hgr
    by_cases hc0:R.1.1=0
    ·have HZ:Hid (topB f (l.drop (t+1)) R.2=RES):=by rw[HAT.out,if_pos hc0];exact rfl
     have hne:(R.1.1 != 0)=false:=by simp [hc0]
     have HC0:=hD hc0
     clear hc0
     go_wp2_with fail
     go_roundw
     case rel=>exact ⟨t+1,v1,R.2,by omega,by go_num,HZ,HB3,EV1.out.below ((Below.refl _ _).alloc (Nat.le_refl _) _),MW1.out.trans (Mod.of_below E _ ((Below.refl _ _).alloc (Nat.le_refl _) _)) (.inl rfl),GR1⟩
     case measure=>simp [intOf];omega
    ·have HE2:Hid (RES=R.1):=by rw[HAT.out,if_neg hc0];exact rfl
     have hne:(R.1.1 != 0)=true:=by rw[bne_iff_ne];exact hc0
     have HBE:=hD (MW1.out.below (B:=base) Zq1 hX (fun k e=>(HVL.out k e).1))
     clear hc0
     go_wp2_with fail
     exact bodyPost_ret (v:=.agg #[.int .i64 R.1.1,.string R.1.2]) (by simp [results,Try.results31,go_sem,k0,k1,hl1]) rfl ⟨by rw[HRES.out,HE2.out],((((B0.out.mono hbase).trans HBE.out).setCell hbase _).setCell hbase _).alloc (by rw[size_setCell,size_setCell];have:=HBE.out.size;omega) _,by have:=HBE.out.size;simp [World.setCell];omega⟩
   ·obtain rfl:t=n:=by omega
    have HFN:Hid (RES=bad0):=by
     rw[←hres.out,List.drop_of_length_le (by rw[HLN.out];exact Nat.le_refl _)]
     exact rfl
    have HB:=hD hBr
    obtain ⟨k0,k1⟩:=boxc2 (lay:=Below.refl _ _) hX0r
    have f0:=boxfree (Below.refl _ _) hX0r 0
    have f1:=boxfree (Below.refl _ _) hX0r 1
    have hl1:w.heap.size<wr.heap.size:=lt_of_block hX0r
    clear hX0r hbB hBr hmod hgr hevr
    go_wp2_with fail
    exact bodyPost_ret (v:=.agg #[.int .i64 0,.string ⟨#[]⟩]) (by simp [results,Try.results31,go_sem,k0,k1]) rfl ⟨by rw[HRES.out,HFN.out];rfl,(((B0.out.mono hbase).trans HB.out).setCell hbase _).setCell hbase _,by simp [World.setCell];omega⟩
theorem szS_mem {l:List ByteArray} {t:Nat} {s:ByteArray} (h:l[t]?=some s):s.size≤szS l:=by
 have h1:=szS_take l t s h
 have h2:=szS_take_le l (t+1)
 omega
end Go.Proofs.Ythkbckkghnbonaa
