/- Part of a proof. No condition. -/
import Derived.Test.YtnlajnpcdnnpmaaGreatA8
namespace Go.Proofs.YtnlajnpcdnnpmaaGreat
set_option linter.all false
set_option maxRecDepth 100000
set_option maxHeartbeats 16000000
open Go.Proofs.Tryz Go.RowKit Go.PlainAid
def gB (a b:Int):Bool:=decide (Nat.gcd a.toNat b.toNat=1)
def eN (a:Int):Nat:=if a=2 then 2 else 3
def aL (x:DvD) (nets:Int):Bool:=ae x.a 0 2&&(decide (x.pins.length=eN x.a)&&(x.pins.all (ae · 0 (nets - 1))&&(ae x.b 1 1000000&&(ae x.c 1 1000000&&(!(x.a==2)||gB x.b x.c)))))
theorem HP (a b:Nat):Nat.gcd b (a % b)=Nat.gcd a b:=by rw [Nat.gcd_comm b,<-Nat.gcd_rec,Nat.gcd_comm]
theorem HQ (a b:Nat)(hb:b=0):Nat.gcd a b=a:=by rw [hb,Nat.gcd_zero_right]
theorem SE (a b:Nat)(ha:a<=1000000)(hb:b<=1000000)(w:World) :
 CE 274 #[.int .u64 a,.int .u64 b] w (.int .u64 (Nat.gcd a b:Nat)):=by
 go_enter func274,ntmps274;go_wp2_with (fail);go_loopw [0,1] (λ x y wr=>∃ i j:Nat,i<=1000000/\j<=1000000/\x=.int .u64 i/\y=.int .u64 j/\Ext w wr/\Hid (Nat.gcd i j=Nat.gcd a b)) (λ _ y _=>(intOf y).toNat)
 case atStart=>exact⟨a,b,ha,hb,rfl,rfl,ab _,rfl⟩
 case round =>
  obtain⟨i,j,hi,hj,rfl,rfl,E,hg⟩:=hrel;by_cases hj0:j=0
  . have hr:Hid ((i:Int)=(Nat.gcd a b:Nat)):=by show _=_;rw [<-hg.out,HQ i j hj0]
    have i0:(j:Int)=0:=oM;have i1:((j:Int)==0)=true:=by simpa using i0
    go_wp2_with (fail);go_ret;exact⟨cp hr.out,E⟩
  . have hg2:=aa ((HP i j).trans hg.out);have hlt:i % j<j:=Nat.mod_lt _ oM;have i0:¬ ((j:Int)=0):=oM;have i1:((j:Int)==0)=false:=by simpa using hj0
    exact zV
theorem SF (a b:Nat)(ha:a<=1000000)(hb:b<=1000000)(w:World) :
 CE 155 #[a,b] w ((Nat.gcd a b:Nat):Int):=by
 go_enter func155,ntmps155;go_wp2_with (fail);go_loopw [0,1] (λ x y wr=>∃ i j:Nat,i<=1000000/\j<=1000000/\x=.int .i64 i/\y=.int .i64 j/\Ext w wr/\Hid (Nat.gcd i j=Nat.gcd a b)) (λ _ y _=>(intOf y).toNat)
 case atStart=>exact⟨a,b,ha,hb,rfl,rfl,ab _,rfl⟩
 case round =>
  obtain⟨i,j,hi,hj,rfl,rfl,E,hg⟩:=hrel;by_cases hj0:j=0
  . have hr:Hid ((i:Int)=(Nat.gcd a b:Nat)):=by show _=_;rw [<-hg.out,HQ i j hj0]
    have i0:(j:Int)=0:=oM;have i1:¬ ((0:Int)<(j:Int)):=oM;go_wp2_with (fail);go_ret;exact⟨cp hr.out,E⟩
  . have hg2:=aa ((HP i j).trans hg.out);have hlt:i % j<j:=Nat.mod_lt _ oM;have i0:¬ ((j:Int)=0):=oM;have i1:(0:Int)<(j:Int):=oM;exact zV
theorem SG (n:Nat)(hn:n<=1000000)(w:World) :
 CW 275 #[n] w (.int .u64 n):=by
 have i0:¬ ((n:Int)<0):=oM;have i1:(n:Int)<=1000000:=oM;go_enter func275,ntmps275;go_wp2;exact kA
theorem SH (a b:Nat)(ha:a<=1000000)(hb:b<=1000000)(hb0:1<=b)(w:World) :
 CE 184 #[.agg #[a,b]] w (.bool (gB a b)):=by
 have i0:(0:Int)<(b:Int):=oM;have i1:(b:Int)<=1000000:=oM;have i2:decide (0<b)=true:=bl oM;have hr:Hid (((Nat.gcd a b:Nat):Int)=1↔gB a b=true):=A4
 have hr2:Hid (∀ v:Bool,(v=true↔((Nat.gcd a b:Nat):Int)=1)->v=gB a b):=λ v h=>aL62.2 (h.trans hr.out)
 obtain⟨gv,hgv⟩:∃ gv:Int,gv=((Nat.gcd a b:Nat):Int):=⟨_,rfl⟩;have hc:=λ W=>SE a b ha hb W
 rw [<-hgv] at hc hr2;replace hc:=aa hc;clear hr hgv;go_enter func184,ntmps184;go_upto_region 1 with (fail);generalize hW:World.alloc _ _=W0;obtain⟨E0,z0,b0⟩:=al hW;clear hW z0;replace b0:=fJ b0;have⟨g0,l0⟩:=b0.gl;have E:=ab W0;have hc1:∀ P:Later W0,CE 275 #[a] P.val (.int .u64 a):=λ P=>(SG a ha P.val).mono (λ e w' hh=>⟨hh.1,hh.2▸ab _⟩)
 replace hc1:=aa hc1;go_wp2_with (fail);refine aQ kR kR ?_;repeat (go_big_quiet_step (first | (go_at_call 275;exact bh (hc1.out _)) | (go_at_call 274;exact bh (hc.out _))))
 refine bW ?_;rintro w7 ⟨⟨_,h7⟩,rfl⟩;go_wp2;go_ret;exact⟨bu (hr2.out _ (by simp)),E0.trans (E.trans h7)⟩
theorem oX (a:Int)(r:Int)(h:(a=0\/a=1)/\r=3\/a=2/\r=2\/¬ (0<=a/\a<=2)/\r=0)(w:World) :
 CW 181 #[a] w r:=by
 rcases h with ⟨rfl | rfl,rfl⟩ | ⟨rfl,rfl⟩ | ⟨h,rfl⟩
 . exact td
 . exact td
 . exact td
 . have q0:(a==0)=false:=by simp;omega
   have q1:(a==1)=false:=by simp;omega
   have q2:(a==2)=false:=by simp;omega
   exact td
theorem vj (x nets:Int)(B:Nat)(w:World)(hn:0<=nets/\nets<=24)(hc:w.cell? (ad B 0)=si nets) :
 CE 183 #[x,.pointer (so B 0)] w (.bool (!ae x 0 (nets - 1))):=by
 go_enter func183,ntmps183;go_wp2_with (go_at_call 117;refine aO (dd _ _ _ _) ?_);go_ret;exact⟨rfl,ab _⟩
theorem SI (b d nets:Int)(pins:List Int)(p:OA)(n c base:Nat)(w:World)(h:SlD (Fl bi) 1 base w p n pins)(hn:n<=9223372036854775807)(hnets:0<=nets/\nets<=24) :
 CE 121 #[.agg #[(0:Int),sl p n c,b,d],nets] w (.bool (aL ⟨0,pins,b,d⟩ nets)):=by
 have hl:=aa h.length;have hk:ae 0 0 2=true:=by decide
 by_cases m1:n=3
 . have d1:Hid (decide (pins.length=eN 0)=true):=bl (by have:=hl.out;have:eN 0=3:=rfl;omega);subst m1
   cases a1:pins.all (ae · 0 (nets - 1)) with
   | false =>
     have hr:Hid (false=aL ⟨0,pins,b,d⟩ nets):=by show _=_;unfold aL;rw [hk,d1.out,a1];simp
     exact Cy
   | true =>
     replace a1:=aa a1
     cases a2:ae b 1 1000000 with
     | false =>
       have hr:Hid (false=aL ⟨0,pins,b,d⟩ nets):=by show _=_;unfold aL;rw [hk,d1.out,a1.out,a2];simp
       exact pr
     | true =>
       cases a3:ae d 1 1000000 with
       | false =>
         have hr:Hid (false=aL ⟨0,pins,b,d⟩ nets):=by show _=_;unfold aL;rw [hk,d1.out,a1.out,a2,a3];simp
         exact pr
       | true =>
         have hr:Hid (true=aL ⟨0,pins,b,d⟩ nets):=by show _=_;unfold aL;rw [hk,d1.out,a1.out,a2,a3];simp
         exact pr
 . have d1:decide (pins.length=eN 0)=false:=bU (by have:=hl.out;have:eN 0=3:=rfl;omega);have i1:¬ ((n:Int)=3):=oM;have i2:((n:Int)==3)=false:=by simpa using i1
   have hr:Hid (false=aL ⟨0,pins,b,d⟩ nets):=by show _=_;unfold aL;rw [hk,d1];rfl
   clear d1;exact tp
theorem SJ (b d nets:Int)(pins:List Int)(p:OA)(n c base:Nat)(w:World)(h:SlD (Fl bi) 1 base w p n pins)(hn:n<=9223372036854775807)(hnets:0<=nets/\nets<=24) :
 CE 96 #[.agg #[(0:Int),sl p n c,b,d],nets] w (.bool (aL ⟨0,pins,b,d⟩ nets)):=by
 have hl:=aa h.length;have hk:ae 0 0 2=true:=by decide
 by_cases m1:n=3
 . have d1:Hid (decide (pins.length=eN 0)=true):=bl (by have:=hl.out;have:eN 0=3:=rfl;omega);subst m1
   cases a2:ae b 1 1000000 with
   | false =>
     have hr:Hid (false=aL ⟨0,pins,b,d⟩ nets):=by show _=_;unfold aL;rw [hk,d1.out,a2];simp
     exact lg
   | true =>
     cases a3:ae d 1 1000000 with
     | false =>
       have hr:Hid (false=aL ⟨0,pins,b,d⟩ nets):=by show _=_;unfold aL;rw [hk,d1.out,a2,a3];simp
       exact lg
     | true =>
       go_enter func96,ntmps96;go_upto_region 1 with (fail);generalize hW:World.alloc _ _=W0;obtain⟨E0,z0,b0⟩:=al hW;clear hW z0;replace b0:=du b0;have⟨g0,l0⟩:=b0.gl;have E:=ab W0;go_wp2_with (first | (go_at_call 95;refine aO (jZ _ _ _ _) ?_));go_loopw [6] (λ i wr=>∃ k:Nat,k<=3/\i=.int .i64 k/\Ext W0 wr/\Hid ((pins.take k).all (ae · 0 (nets - 1))=true)) (λ i _=>3 - (intOf i).toNat)
       case atStart=>exact⟨0,oM,rfl,E,rfl⟩
       case round =>
        clear g0 l0 E;obtain⟨j,hj,rfl,E,hA⟩:=hrel;have⟨g0,l0⟩:=(b0.ext E).gl;by_cases hlt:j<3
        . have hltI:(j:Int)<3:=oM;obtain⟨b',off,y,cs,rfl,hb',hx,hcs,hc⟩:=((h.ext cW E0).ext cW E).get hlt;obtain rfl:cs=bi y:=hcs;have y0:=hc 0 _ rfl;rw [aq,aZ] at y0;clear hc
          cases hq:ae y 0 (nets - 1) with
          | false =>
            have a1:pins.all (ae · 0 (nets - 1))=false:=mo hx.out hq;have hr:Hid (false=aL ⟨0,pins,b,d⟩ nets):=by show _=_;unfold aL;rw [hk,d1.out,a1];simp
            exact vN
          | true => exact vz
        . have a1:Hid (pins.all (ae · 0 (nets - 1))=true):=mp hA.out hl.out oM;clear hA;have hr:Hid (true=aL ⟨0,pins,b,d⟩ nets):=by show _=_;unfold aL;rw [hk,d1.out,a1.out,a2,a3];simp
          exact wc
 . have d1:decide (pins.length=eN 0)=false:=bU (by have:=hl.out;have:eN 0=3:=rfl;omega);have i1:¬ ((n:Int)=3):=oM;have i2:((n:Int)==3)=false:=by simpa using i1
   have hr:Hid (false=aL ⟨0,pins,b,d⟩ nets):=by show _=_;unfold aL;rw [hk,d1];rfl
   clear d1;exact lg
theorem SK (b d nets:Int)(pins:List Int)(p:OA)(n c base:Nat)(w:World)(h:SlD (Fl bi) 1 base w p n pins)(hn:n<=9223372036854775807)(hnets:0<=nets/\nets<=24) :
 CE 121 #[.agg #[(1:Int),sl p n c,b,d],nets] w (.bool (aL ⟨1,pins,b,d⟩ nets)):=by
 have hl:=aa h.length;have hk:ae 1 0 2=true:=by decide
 by_cases m1:n=3
 . have d1:Hid (decide (pins.length=eN 1)=true):=bl (by have:=hl.out;have:eN 1=3:=rfl;omega);subst m1
   cases a1:pins.all (ae · 0 (nets - 1)) with
   | false =>
     have hr:Hid (false=aL ⟨1,pins,b,d⟩ nets):=by show _=_;unfold aL;rw [hk,d1.out,a1];simp
     exact Cy
   | true =>
     replace a1:=aa a1
     cases a2:ae b 1 1000000 with
     | false =>
       have hr:Hid (false=aL ⟨1,pins,b,d⟩ nets):=by show _=_;unfold aL;rw [hk,d1.out,a1.out,a2];simp
       exact pr
     | true =>
       cases a3:ae d 1 1000000 with
       | false =>
         have hr:Hid (false=aL ⟨1,pins,b,d⟩ nets):=by show _=_;unfold aL;rw [hk,d1.out,a1.out,a2,a3];simp
         exact pr
       | true =>
         have hr:Hid (true=aL ⟨1,pins,b,d⟩ nets):=by show _=_;unfold aL;rw [hk,d1.out,a1.out,a2,a3];simp
         exact pr
 . have d1:decide (pins.length=eN 1)=false:=bU (by have:=hl.out;have:eN 1=3:=rfl;omega);have i1:¬ ((n:Int)=3):=oM;have i2:((n:Int)==3)=false:=by simpa using i1
   have hr:Hid (false=aL ⟨1,pins,b,d⟩ nets):=by show _=_;unfold aL;rw [hk,d1];rfl
   clear d1;exact tp
theorem SL (b d nets:Int)(pins:List Int)(p:OA)(n c base:Nat)(w:World)(h:SlD (Fl bi) 1 base w p n pins)(hn:n<=9223372036854775807)(hnets:0<=nets/\nets<=24) :
 CE 96 #[.agg #[(1:Int),sl p n c,b,d],nets] w (.bool (aL ⟨1,pins,b,d⟩ nets)):=by
 have hl:=aa h.length;have hk:ae 1 0 2=true:=by decide
 by_cases m1:n=3
 . have d1:Hid (decide (pins.length=eN 1)=true):=bl (by have:=hl.out;have:eN 1=3:=rfl;omega);subst m1
   cases a2:ae b 1 1000000 with
   | false =>
     have hr:Hid (false=aL ⟨1,pins,b,d⟩ nets):=by show _=_;unfold aL;rw [hk,d1.out,a2];simp
     exact lg
   | true =>
     cases a3:ae d 1 1000000 with
     | false =>
       have hr:Hid (false=aL ⟨1,pins,b,d⟩ nets):=by show _=_;unfold aL;rw [hk,d1.out,a2,a3];simp
       exact lg
     | true =>
       go_enter func96,ntmps96;go_upto_region 1 with (fail);generalize hW:World.alloc _ _=W0;obtain⟨E0,z0,b0⟩:=al hW;clear hW z0;replace b0:=du b0;have⟨g0,l0⟩:=b0.gl;have E:=ab W0;go_wp2_with (first | (go_at_call 95;refine aO (jZ _ _ _ _) ?_));go_loopw [6] (λ i wr=>∃ k:Nat,k<=3/\i=.int .i64 k/\Ext W0 wr/\Hid ((pins.take k).all (ae · 0 (nets - 1))=true)) (λ i _=>3 - (intOf i).toNat)
       case atStart=>exact⟨0,oM,rfl,E,rfl⟩
       case round =>
        clear g0 l0 E;obtain⟨j,hj,rfl,E,hA⟩:=hrel;have⟨g0,l0⟩:=(b0.ext E).gl;by_cases hlt:j<3
        . have hltI:(j:Int)<3:=oM;obtain⟨b',off,y,cs,rfl,hb',hx,hcs,hc⟩:=((h.ext cW E0).ext cW E).get hlt;obtain rfl:cs=bi y:=hcs;have y0:=hc 0 _ rfl;rw [aq,aZ] at y0;clear hc
          cases hq:ae y 0 (nets - 1) with
          | false =>
            have a1:pins.all (ae · 0 (nets - 1))=false:=mo hx.out hq;have hr:Hid (false=aL ⟨1,pins,b,d⟩ nets):=by show _=_;unfold aL;rw [hk,d1.out,a1];simp
            exact vN
          | true => exact vz
        . have a1:Hid (pins.all (ae · 0 (nets - 1))=true):=mp hA.out hl.out oM;clear hA;have hr:Hid (true=aL ⟨1,pins,b,d⟩ nets):=by show _=_;unfold aL;rw [hk,d1.out,a1.out,a2,a3];simp
          exact wc
 . have d1:decide (pins.length=eN 1)=false:=bU (by have:=hl.out;have:eN 1=3:=rfl;omega);have i1:¬ ((n:Int)=3):=oM;have i2:((n:Int)==3)=false:=by simpa using i1
   have hr:Hid (false=aL ⟨1,pins,b,d⟩ nets):=by show _=_;unfold aL;rw [hk,d1];rfl
   clear d1;exact lg
theorem SM (b d nets:Int)(pins:List Int)(p:OA)(n c base:Nat)(w:World)(h:SlD (Fl bi) 1 base w p n pins)(hn:n<=9223372036854775807)(hnets:0<=nets/\nets<=24) :
 CE 121 #[.agg #[(2:Int),sl p n c,b,d],nets] w (.bool (aL ⟨2,pins,b,d⟩ nets)):=by
 have hl:=aa h.length;have hk:ae 2 0 2=true:=by decide
 by_cases m1:n=2
 . have d1:Hid (decide (pins.length=eN 2)=true):=bl (by have:=hl.out;have:eN 2=2:=rfl;omega);subst m1
   cases a1:pins.all (ae · 0 (nets - 1)) with
   | false =>
     have hr:Hid (false=aL ⟨2,pins,b,d⟩ nets):=by show _=_;unfold aL;rw [hk,d1.out,a1];simp
     go_enter func121,ntmps121;go_upto_region 1 with (fail);generalize hW:World.alloc (World.alloc _ _) _=W0;obtain⟨E0,z0,b0,b1⟩:=bV hW;clear hW z0;replace b0:=du b0;replace b1:=cC b1;have⟨g0,l0⟩:=b0.gl;have⟨g1,l1⟩:=b1.gl;have E:=ab W0
     have cf:∀ W,Ext W0 W->CE 182 #[sl p 2 c,.func (.func 183) #[] #[.pointer (so (w+1) 0)]] W (.bool true):=λ W hX=>by
      have:=tG p 2 c base pins (λ y=>!ae y 0 (nets - 1)) 183 #[.pointer (so (w+1) 0)] (fb func183 kR rfl) W ((h.ext cW E0).ext cW hX)
       (λ W2 y hE hy=>vj y nets (w+1) W2 hnets (((hX.trans hE).cells _ _ b1.lt).trans (b1.cells 0))) oM
      rw [jB,a1] at this;exact this
     exact vH
   | true =>
     replace a1:=aa a1
     cases a2:ae b 1 1000000 with
     | false =>
       have hr:Hid (false=aL ⟨2,pins,b,d⟩ nets):=by show _=_;unfold aL;rw [hk,d1.out,a1.out,a2];simp
       exact vW
     | true =>
       cases a3:ae d 1 1000000 with
       | false =>
         have hr:Hid (false=aL ⟨2,pins,b,d⟩ nets):=by show _=_;unfold aL;rw [hk,d1.out,a1.out,a2,a3];simp
         exact vW
       | true =>
         have hb1:1<=b/\b<=1000000:=by simpa [ae] using a2
         have hd1:1<=d/\d<=1000000:=by simpa [ae] using a3
         obtain⟨b,rfl⟩:∃ m:Nat,b=(m:Int):=⟨b.toNat,oM⟩;obtain⟨d,rfl⟩:∃ m:Nat,d=(m:Int):=⟨d.toNat,oM⟩;have hr:Hid (gB b d=aL ⟨2,pins,b,d⟩ nets):=by show _=_;unfold aL;rw [hk,d1.out,a1.out,a2,a3];simp
         exact vW
 . have d1:decide (pins.length=eN 2)=false:=bU (by have:=hl.out;have:eN 2=2:=rfl;omega);have i1:¬ ((n:Int)=2):=oM;have i2:((n:Int)==2)=false:=by simpa using i1
   have hr:Hid (false=aL ⟨2,pins,b,d⟩ nets):=by show _=_;unfold aL;rw [hk,d1];rfl
   clear d1;exact tp
theorem SN (b d nets:Int)(pins:List Int)(p:OA)(n c base:Nat)(w:World)(h:SlD (Fl bi) 1 base w p n pins)(hn:n<=9223372036854775807)(hnets:0<=nets/\nets<=24) :
 CE 96 #[.agg #[(2:Int),sl p n c,b,d],nets] w (.bool (aL ⟨2,pins,b,d⟩ nets)):=by
 have hl:=aa h.length;have hk:ae 2 0 2=true:=by decide
 by_cases m1:n=2
 . have d1:Hid (decide (pins.length=eN 2)=true):=bl (by have:=hl.out;have:eN 2=2:=rfl;omega);subst m1
   cases a2:ae b 1 1000000 with
   | false =>
     have hr:Hid (false=aL ⟨2,pins,b,d⟩ nets):=by show _=_;unfold aL;rw [hk,d1.out,a2];simp
     exact lg
   | true =>
     cases a3:ae d 1 1000000 with
     | false =>
       have hr:Hid (false=aL ⟨2,pins,b,d⟩ nets):=by show _=_;unfold aL;rw [hk,d1.out,a2,a3];simp
       exact lg
     | true =>
       have hb1:1<=b/\b<=1000000:=by simpa [ae] using a2
       have hd1:1<=d/\d<=1000000:=by simpa [ae] using a3
       obtain⟨b,rfl⟩:∃ m:Nat,b=(m:Int):=⟨b.toNat,oM⟩;obtain⟨d,rfl⟩:∃ m:Nat,d=(m:Int):=⟨d.toNat,oM⟩;go_enter func96,ntmps96;go_upto_region 1 with (fail);generalize hW:World.alloc _ _=W0;obtain⟨E0,z0,b0⟩:=al hW;clear hW z0;replace b0:=du b0;have⟨g0,l0⟩:=b0.gl;have E:=ab W0;go_wp2_with (first | (go_at_call 95;refine aO (jZ _ _ _ _) ?_));go_loopw [6] (λ i wr=>∃ k:Nat,k<=2/\i=.int .i64 k/\Ext W0 wr/\Hid ((pins.take k).all (ae · 0 (nets - 1))=true)) (λ i _=>2 - (intOf i).toNat)
       case atStart=>exact⟨0,oM,rfl,E,rfl⟩
       case round =>
        clear g0 l0 E;obtain⟨j,hj,rfl,E,hA⟩:=hrel;have⟨g0,l0⟩:=(b0.ext E).gl;by_cases hlt:j<2
        . have hltI:(j:Int)<2:=oM;obtain⟨b',off,y,cs,rfl,hb',hx,hcs,hc⟩:=((h.ext cW E0).ext cW E).get hlt;obtain rfl:cs=bi y:=hcs;have y0:=hc 0 _ rfl;rw [aq,aZ] at y0;clear hc
          cases hq:ae y 0 (nets - 1) with
          | false =>
            have a1:pins.all (ae · 0 (nets - 1))=false:=mo hx.out hq;have hr:Hid (false=aL ⟨2,pins,b,d⟩ nets):=by show _=_;unfold aL;rw [hk,d1.out,a1];simp
            exact vN
          | true => exact vz
        . have a1:Hid (pins.all (ae · 0 (nets - 1))=true):=mp hA.out hl.out oM;clear hA;have hr0:Hid (gB b d=aL ⟨2,pins,b,d⟩ nets):=by show _=_;unfold aL;rw [hk,d1.out,a1.out,a2,a3];simp
          have hr1:Hid (((Nat.gcd b d:Nat):Int)=1↔gB b d=true):=A4
          have hr2:Hid (∀ v:Bool,(v=true↔((Nat.gcd b d:Nat):Int)=1)->v=aL ⟨2,pins,b,d⟩ nets):=λ v h=>(aL62.2 (h.trans hr1.out)).trans hr0.out
          obtain⟨gv,hgv⟩:∃ gv:Int,gv=((Nat.gcd b d:Nat):Int):=⟨_,rfl⟩;have hcg:=λ W=>SF b d oM oM W
          rw [<-hgv] at hcg hr2;replace hcg:=aa hcg;clear hr0 hr1 hgv;go_wp2_with (first | (go_at_call 95;refine aO (jZ _ _ _ _) ?_) | (go_at_call 155;clear g0 l0;refine aR b0 E (hcg.out _) λ w5 E g0 l0=>?_));go_ret;exact⟨bu (hr2.out _ (by simp)),E0.trans E⟩
 . have d1:decide (pins.length=eN 2)=false:=bU (by have:=hl.out;have:eN 2=2:=rfl;omega);have i1:¬ ((n:Int)=2):=oM;have i2:((n:Int)==2)=false:=by simpa using i1
   have hr:Hid (false=aL ⟨2,pins,b,d⟩ nets):=by show _=_;unfold aL;rw [hk,d1];rfl
   clear d1;exact lg
theorem SO (a:Int)(b d nets:Int)(pins:List Int)(p:OA)(n c base:Nat)(w:World)(h:SlD (Fl bi) 1 base w p n pins)(hn:n<=9223372036854775807)(hnets:0<=nets/\nets<=24) :
 CE 121 #[.agg #[a,sl p n c,b,d],nets] w (.bool (aL ⟨a,pins,b,d⟩ nets)):=by
 cases hk:ae a 0 2 with
 | false =>
   have hout:¬ (0<=a/\a<=2):=by intro hh;simp [ae,hh.1,hh.2] at hk
   have q2:(a==2)=false:=by simp;omega
   have hr:Hid (false=aL ⟨a,pins,b,d⟩ nets):=by show _=_;unfold aL;rw [hk];rfl
   exact tp
 | true => have pA:=@SI;have pB:=@SK;have pC:=@SM;exact C0
theorem SP (a:Int)(b d nets:Int)(pins:List Int)(p:OA)(n c base:Nat)(w:World)(h:SlD (Fl bi) 1 base w p n pins)(hn:n<=9223372036854775807)(hnets:0<=nets/\nets<=24) :
 CE 96 #[.agg #[a,sl p n c,b,d],nets] w (.bool (aL ⟨a,pins,b,d⟩ nets)):=by
 cases hk:ae a 0 2 with
 | false =>
   have hout:¬ (0<=a/\a<=2):=by intro hh;simp [ae,hh.1,hh.2] at hk
   have q2:(a==2)=false:=by simp;omega
   have hr:Hid (false=aL ⟨a,pins,b,d⟩ nets):=by show _=_;unfold aL;rw [hk];rfl
   exact lg
 | true => have pA:=@SJ;have pB:=@SL;have pC:=@SN;exact C0
def fa (l:List PoD) (nets:Int) (k:Nat):Bool:=match l[k]? with | some y=>dK y.s&&(ae y.a 0 (nets - 1)&&(match k with | 0=>true | j+1=>match l[j]? with | some z=>Op.bytesLess z.s.toList y.s.toList | none=>true)) | none=>true
def dC (x:NlD):Bool:=ae x.nets 0 24&&(decide (x.devs.length<=24)&&(decide (x.ports.length<=8)&&(x.devs.all (aL · x.nets)&&(List.range x.ports.length).all (fa x.ports x.nets))))
theorem HR {l:List PoD}{nets:Int}{k:Nat}{y:PoD}(hx:l[k]?=some y)(h:dK y.s=false):fa l nets k=false:=by rw [fa,hx];simp only [h];rfl
theorem HS {l:List PoD}{nets:Int}{k:Nat}{y:PoD}(hx:l[k]?=some y)(h:ae y.a 0 (nets - 1)=false):fa l nets k=false:=by rw [fa,hx];simp only [h,Bool.false_and,Bool.and_false]
theorem HT {l:List PoD}{nets:Int}{y:PoD}(hx:l[0]?=some y)(h:dK y.s=true)(h2:ae y.a 0 (nets - 1)=true):fa l nets 0=true:=by rw [fa,hx];simp only [h,h2];rfl
theorem HU {l:List PoD}{nets:Int}{j:Nat}{y z:PoD}(hx:l[j+1]?=some y)(hz:l[j]?=some z)(h:Op.bytesLess z.s.toList y.s.toList=false):fa l nets (j+1)=false:=by rw [fa,hx];simp only [hz,h,Bool.and_false]
theorem HW {l:List PoD}{nets:Int}{j:Nat}{y z:PoD}(hx:l[j+1]?=some y)(hz:l[j]?=some z)(h:dK y.s=true)(h2:ae y.a 0 (nets - 1)=true)(h3:Op.bytesLess z.s.toList y.s.toList=true):fa l nets (j+1)=true:=by rw [fa,hx];simp only [h,h2,hz,h3];rfl
theorem SQ (x:DvD)(nets:Int)(p:OA)(n c base B:Nat)(w:World)(s:SlD (Fl bi) 1 base w p n x.pins)(hn:n<=9223372036854775807)(hnets:0<=nets/\nets<=24)(hB:B<w.heap.size)(hc:w.cell? (ad B 0)=si nets) :
 CE 120 #[.agg #[x.a,sl p n c,x.b,x.c],.pointer (so B 0)] w (.bool (!aL x nets)):=by
 obtain⟨a,pins,b,d⟩:=x;go_enter func120,ntmps120;go_upto_region 1 with (fail);generalize hW:World.alloc _ _=W0;obtain⟨E0,z0,b0⟩:=al hW;clear hW z0;replace b0:=du b0;exact Ch
theorem SR (nets:Int)(devs:List DvD)(ports:List PoD)(p1 p2:OA)(n1 c1 n2 c2 base:Nat)(w:World)(s1:SlD DvR 4 base w p1 n1 devs)(s2:SlD (Fl cD) 2 base w p2 n2 ports)(hf:wt ⟨nets,devs,ports⟩) :
 CE 64 #[.agg #[nets,sl p1 n1 c1,sl p2 n2 c2]] w (.bool (dC ⟨nets,devs,ports⟩)):=by
 obtain⟨f1,f2,f3,f4⟩:=hf;have hl1:=aa s1.length;have hl2:=aa s2.length;rw [show (⟨nets,devs,ports⟩:NlD).devs=devs from rfl,hl1.out] at f1;rw [show (⟨nets,devs,ports⟩:NlD).ports=ports from rfl,hl2.out] at f3;replace f2:=aa f2;replace f4:=aa f4
 cases h0:ae nets 0 24 with
 | false =>
   have hr:Hid (false=dC ⟨nets,devs,ports⟩):=by show _=_;unfold dC;first | (rw [h0];done) | (rw [h0];rfl)
   go_enter func64,ntmps64;exact nS
 | true =>
   have hnets:0<=nets/\nets<=24:=by simpa [ae] using h0
   by_cases m1:24<n1
   . have pA:=func64;have pB:=ntmps64;exact CY
   have d1:decide (devs.length<=24)=true:=bl (by have:=hl1.out;omega);replace d1:=aa d1;by_cases m2:8<n2
   . have pA:=func64;have pB:=ntmps64;exact CV
   have d2:decide (ports.length<=8)=true:=bl (by have:=hl2.out;omega);replace d2:=aa d2;go_enter func64,ntmps64;go_upto_region 1 with (fail);generalize hW:World.alloc _ _=W0;obtain⟨E0,z0,b0⟩:=al hW;clear hW z0;replace b0:=eQ b0;have⟨g0,l0⟩:=b0.gl;have E:=ab W0;go_wp2_with (first | (go_at_call 117;refine aO (dd _ _ _ _) ?_));go_loopw [3,4,24] (λ _ _ i wr=>∃ k:Nat,k<=n2/\i=.int .i64 k/\Ext W0 wr/\Hid (∀ j,j<k->fa ports nets j=true)) (λ _ _ i _=>n2 - (intOf i).toNat)
   case atStart=>exact⟨0,oM,rfl,E,λ j hj=>by omega⟩
   case round =>
    clear g0 l0 E;obtain⟨k,hk,rfl,E,hA⟩:=hrel;have⟨g0,l0⟩:=(b0.ext E).gl;by_cases hlt:k<n2
    . have hltI:(k:Int)<n2:=oM;obtain⟨b,off,y,cs,rfl,hb,hy,hcs,hc⟩:=((s2.ext bw E0).ext bw E).get hlt;obtain rfl:cs=cD y:=hcs;have y0:=hc 0 _ rfl;rw [aq] at y0;have y1:=hc 1 _ rfl;clear hc;have hfy:=aa (f4.out y (ap hy.out));go_upto_region 6 with (fail);generalize hV:World.alloc _ _=W1;obtain⟨E1,zz,b1⟩:=al hV;clear hV zz y0 y1 g0 l0;replace b1:=aa (show Blk W1 wr [_,_] _ from b1);replace E:=E.trans E1;replace hb:=aF hb E1.le;have⟨g0,l0⟩:=(b0.ext E).gl;have⟨g1,l1⟩:=b1.gl;have hc1:∀ P:Later W1,CE 118 #[.string y.s] P.val (.bool (dK y.s)):=λ P=>lj y.s P.val hfy.out
      have hc2:∀ P:Later W1,CE 117 #[y.a,(0:Int),(nets - 1:Int)] P.val (.bool (ae y.a 0 (nets - 1))):=λ P=>(dd _ _ _ _).mono (λ e w' hh=>⟨hh.1,hh.2▸ab _⟩)
      cases hq:dK y.s with
      | false =>
        have a1:(List.range ports.length).all (fa ports nets)=false:=gb (by rw [hl2.out];exact hlt) (HR hy.out hq);have hr:Hid (false=dC ⟨nets,devs,ports⟩):=by show _=_;unfold dC;rw [a1];simp
        clear a1;rw [hq] at hc1;clear hq;replace hc1:=aa hc1;replace hc2:=aa hc2;exact vK
      | true =>
        rw [hq] at hc1;replace hq:=aa hq
        cases hw:ae y.a 0 (nets - 1) with
        | false =>
          have a1:(List.range ports.length).all (fa ports nets)=false:=gb (by rw [hl2.out];exact hlt) (HS hy.out hw);have hr:Hid (false=dC ⟨nets,devs,ports⟩):=by show _=_;unfold dC;rw [a1];simp
          clear a1;rw [hw] at hc2;clear hw;replace hc1:=aa hc1;replace hc2:=aa hc2;exact vK
        | true =>
          rw [hw] at hc2;replace hw:=aa hw;replace hc1:=aa hc1;replace hc2:=aa hc2;by_cases hk0:k=0
          . have hr:Hid (fa ports nets k=true):=by subst hk0;exact HT hy.out hq.out hw.out
            have i0:¬ ((0:Int)<(k:Int)):=oM;have i3:decide (0<k)=false:=bU oM;replace hk0:=aa hk0;refine aQ kR kR ?_;repeat (go_big_quiet_step (first | (go_at_call 118;exact bh (hc1.out _)) | (go_at_call 117;exact bh (hc2.out _))))
            exact sN
          . obtain⟨j,rfl⟩:∃ j,k=j+1:=⟨k - 1,oM⟩;clear hk0;obtain⟨b',off',z,cs,hbb,_,hz,hcs,hc⟩:=((s2.ext bw E0).ext bw E).get (show j<n2 by omega)
            cases hbb
            obtain rfl:cs=cD z:=hcs;have z0:=hc 0 _ rfl;rw [aq] at z0;clear hc;have i0:(0:Int)<((j+1:Nat):Int):=oM;have i1:(j:Int)<n2:=oM;have i3:decide (0<j+1)=true:=bl oM
            cases hbl:Op.bytesLess z.s.toList y.s.toList with
            | true =>
              have hr:=aa (HW hy.out hz.out hq.out hw.out hbl);refine aQ kR kR ?_;repeat (go_big_quiet_step (first | (go_at_call 118;exact bh (hc1.out _)) | (go_at_call 117;exact bh (hc2.out _))))
              exact sM
            | false =>
              have a1:(List.range ports.length).all (fa ports nets)=false:=gb (by rw [hl2.out];exact hlt) (HU hy.out hz.out hbl);have hr:Hid (false=dC ⟨nets,devs,ports⟩):=by show _=_;unfold dC;rw [a1];simp
              clear a1;exact vK
    . have a1:Hid ((List.range ports.length).all (fa ports nets)=true):=oi λ j hj=>hA.out j (by have:=hl2.out;omega)
      clear hA
      cases ha:devs.all (aL · nets) with
      | false =>
        have hr:Hid (false=dC ⟨nets,devs,ports⟩):=by show _=_;unfold dC;rw [h0,d1.out,d2.out,ha,a1.out];simp
        have cf:∀ W,Ext W0 W->CE 119 #[sl p1 n1 c1,.func (.func 120) #[] #[.pointer (so w 0)]] W (.bool true):=λ W hX=>by exact zy
        exact Ce
      | true =>
        have hr:Hid (true=dC ⟨nets,devs,ports⟩):=by show _=_;unfold dC;rw [h0,d1.out,d2.out,ha,a1.out];rfl
        have cf:∀ W,Ext W0 W->CE 119 #[sl p1 n1 c1,.func (.func 120) #[] #[.pointer (so w 0)]] W (.bool false):=λ W hX=>by exact zy
        exact Ce
theorem SS (nets:Int)(devs:List DvD)(ports:List PoD)(p1 p2:OA)(n1 c1 n2 c2 base:Nat)(w:World)(s1:SlD DvR 4 base w p1 n1 devs)(s2:SlD (Fl cD) 2 base w p2 n2 ports)(hf:wt ⟨nets,devs,ports⟩) :
 CE 47 #[.agg #[nets,sl p1 n1 c1,sl p2 n2 c2]] w (.bool (dC ⟨nets,devs,ports⟩)):=by
 obtain⟨f1,f2,f3,f4⟩:=hf;have hl1:=aa s1.length;have hl2:=aa s2.length;rw [show (⟨nets,devs,ports⟩:NlD).devs=devs from rfl,hl1.out] at f1;rw [show (⟨nets,devs,ports⟩:NlD).ports=ports from rfl,hl2.out] at f3;replace f2:=aa f2;replace f4:=aa f4
 cases h0:ae nets 0 24 with
 | false =>
   have hr:Hid (false=dC ⟨nets,devs,ports⟩):=by show _=_;unfold dC;first | (rw [h0];done) | (rw [h0];rfl)
   go_enter func47,ntmps47;exact nS
 | true =>
   have hnets:0<=nets/\nets<=24:=by simpa [ae] using h0
   by_cases m1:24<n1
   . have pA:=func47;have pB:=ntmps47;exact CY
   have d1:decide (devs.length<=24)=true:=bl (by have:=hl1.out;omega);replace d1:=aa d1;by_cases m2:8<n2
   . have pA:=func47;have pB:=ntmps47;exact CV
   have d2:decide (ports.length<=8)=true:=bl (by have:=hl2.out;omega);replace d2:=aa d2;go_enter func47,ntmps47;go_upto_region 1 with (fail);generalize hW:World.alloc _ _=W0;obtain⟨E0,z0,b0⟩:=al hW;clear hW z0;replace b0:=eQ b0;have⟨g0,l0⟩:=b0.gl;have E:=ab W0;go_wp2_with (first | (go_at_call 95;refine aO (jZ _ _ _ _) ?_));go_loopw [3] (λ i wr=>∃ k:Nat,k<=n1/\i=.int .i64 k/\Ext W0 wr/\Hid ((devs.take k).all (aL · nets)=true)) (λ i _=>n1 - (intOf i).toNat)
   case atStart=>exact⟨0,oM,rfl,E,rfl⟩
   case round =>
    clear g0 l0 E;obtain⟨k,hk,rfl,E,hA⟩:=hrel;have⟨g0,l0⟩:=(b0.ext E).gl;by_cases hlt:k<n1
    . have hltI:(k:Int)<n1:=oM;obtain⟨b,off,y,cs,rfl,hb,hx,hcs,hc⟩:=((s1.ext aL25 E0).ext aL25 E).get hlt;obtain⟨p4,n4,c4,rfl,s4⟩:=hcs;have hfy:=aa (f2.out y (ap hx.out));have y0:=hc 0 _ rfl;rw [aq] at y0;have y1:=hc 1 _ rfl;have y2:=hc 2 _ rfl;have y3:=hc 3 _ rfl;clear hc;have hc1:∀ P:Later wr,CE 96 #[.agg #[y.a,sl p4 n4 c4,y.b,y.c],nets] P.val (.bool (aL y nets)):=λ P=>SP y.a y.b y.c nets y.pins p4 n4 c4 base P.val (s4.ext cW P.ok) (by rw [<-s4.length];exact hfy.out) hnets
      go_wp2_with (fail)
      cases hq:aL y nets with
      | false =>
        have ha:devs.all (aL · nets)=false:=mo hx.out hq;have hr:Hid (false=dC ⟨nets,devs,ports⟩):=by show _=_;unfold dC;rw [h0,d1.out,d2.out,ha];rfl
        rw [hq] at hc1;clear hq ha;replace hc1:=aa hc1;refine aQ kR kR ?_;repeat (go_big_quiet_step ((go_at_call 96;exact bh (hc1.out _))))
        exact pm
      | true =>
        have hr:=aa (tH hA.out hx.out hq);rw [hq] at hc1;clear hq;replace hc1:=aa hc1;refine aQ kR kR ?_;repeat (go_big_quiet_step ((go_at_call 96;exact bh (hc1.out _))))
        exact Cf
    . have ha:Hid (devs.all (aL · nets)=true):=mp hA.out hl1.out oM;clear hA;go_wp2_with (fail);go_loopw [4] (λ i wr=>∃ k:Nat,k<=n2/\i=.int .i64 k/\Ext W0 wr/\Hid (∀ j,j<k->fa ports nets j=true)) (λ i _=>n2 - (intOf i).toNat)
      case atStart=>exact⟨0,oM,rfl,E,λ j hj=>by omega⟩
      case round =>
       clear g0 l0 E;obtain⟨k,hk,rfl,E,hA⟩:=hrel;have⟨g0,l0⟩:=(b0.ext E).gl;by_cases hlt:k<n2
       . have hltI:(k:Int)<n2:=oM;obtain⟨b,off,y,cs,rfl,hb,hy,hcs,hc⟩:=((s2.ext bw E0).ext bw E).get hlt;obtain rfl:cs=cD y:=hcs;have y0:=hc 0 _ rfl;rw [aq] at y0;have y1:=hc 1 _ rfl;clear hc;have hfy:=aa (f4.out y (ap hy.out));go_wp2_with (fail);have hc1:∀ P:Later wr,CE 97 #[.string y.s] P.val (.bool (dK y.s)):=λ P=>nW y.s P.val hfy.out
         have hc2:∀ P:Later wr,CE 95 #[y.a,(0:Int),(nets - 1:Int)] P.val (.bool (ae y.a 0 (nets - 1))):=λ P=>(jZ _ _ _ _).mono (λ e w' hh=>⟨hh.1,hh.2▸ab _⟩)
         cases hq:dK y.s with
         | false =>
           have a1:(List.range ports.length).all (fa ports nets)=false:=gb (by rw [hl2.out];exact hlt) (HR hy.out hq);have hr:Hid (false=dC ⟨nets,devs,ports⟩):=by show _=_;unfold dC;rw [h0,d1.out,d2.out,ha.out,a1];simp
           clear a1;rw [hq] at hc1;clear hq;exact vJ
         | true =>
           rw [hq] at hc1;replace hq:=aa hq;by_cases hk0:k=0
           . have hr0:Hid (ae y.a 0 (nets - 1)=true->fa ports nets k=true):=by subst hk0;exact λ hw=>HT hy.out hq.out hw
             have i0:¬ ((0:Int)<(k:Int)):=oM;have i3:decide (0<k)=false:=bU oM;replace hk0:=aa hk0
             cases hw:ae y.a 0 (nets - 1) with
             | false => exact CA
             | true =>
               have hr:=aa (hr0.out hw);rw [hw] at hc2;clear hw;replace hc1:=aa hc1;replace hc2:=aa hc2;refine aQ kR kR ?_;repeat (go_big_quiet_step (first | (go_at_call 97;exact bh (hc1.out _)) | (go_at_call 95;exact bh (hc2.out _))))
               exact sN
           . obtain⟨j,rfl⟩:∃ j,k=j+1:=⟨k - 1,oM⟩;clear hk0;obtain⟨b',off',z,cs,hbb,_,hz,hcs,hc⟩:=((s2.ext bw E0).ext bw E).get (show j<n2 by omega)
             cases hbb
             obtain rfl:cs=cD z:=hcs;have z0:=hc 0 _ rfl;rw [aq] at z0;clear hc;have i0:(0:Int)<((j+1:Nat):Int):=oM;have i1:(j:Int)<n2:=oM;have i3:decide (0<j+1)=true:=bl oM
             cases hbl:Op.bytesLess z.s.toList y.s.toList with
             | true =>
               have hr0:Hid (ae y.a 0 (nets - 1)=true->fa ports nets (j+1)=true):=λ hw=>HW hy.out hz.out hq.out hw hbl
               cases hw:ae y.a 0 (nets - 1) with
               | false => exact CA
               | true =>
                 have hr:=aa (hr0.out hw);rw [hw] at hc2;clear hw;replace hc1:=aa hc1;replace hc2:=aa hc2;refine aQ kR kR ?_;repeat (go_big_quiet_step (first | (go_at_call 97;exact bh (hc1.out _)) | (go_at_call 95;exact bh (hc2.out _))))
                 exact sM
             | false =>
               have a1:(List.range ports.length).all (fa ports nets)=false:=gb (by rw [hl2.out];exact hlt) (HU hy.out hz.out hbl);have hr:Hid (false=dC ⟨nets,devs,ports⟩):=by show _=_;unfold dC;rw [h0,d1.out,d2.out,ha.out,a1];simp
               clear a1;exact vJ
       . have a1:Hid ((List.range ports.length).all (fa ports nets)=true):=oi λ j hj=>hA.out j (by have:=hl2.out;omega)
         clear hA;have hr:Hid (true=dC ⟨nets,devs,ports⟩):=by show _=_;unfold dC;rw [h0,d1.out,d2.out,ha.out,a1.out];rfl
         exact qV
end Go.Proofs.YtnlajnpcdnnpmaaGreat
