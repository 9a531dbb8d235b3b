/- Part of a proof. No condition. -/
import Derived.Test.YtnlajnpcdnnpmaaGreatA8
namespace Go.Proofs.YtnlajnpcdnnpmaaGreat
set_option linter.all false
set_option maxRecDepth 100000
set_option maxHeartbeats 16000000
open Go.Proofs.Tryz Go.RowKit Go.PlainAid
def au (r:RuD):Bool:=ae r.a 0 5&&(ae r.b 0 7&&((if r.a=2\/r.a=3 then ae r.c 0 7&&!(r.c==r.b) else (r.c==0))&&(if r.a=4 then ae r.d 1 6400&&(r.e==0) else if r.a=5 then ae r.d 4 40&&ae r.e 1 100 else ae r.d 1 8&&(r.e==0))))
def dN (x y:RuD):Bool:=x.a==y.a&&(x.b==y.b&&(x.c==y.c&&(x.d==y.d&&x.e==y.e)))
theorem DV (x:RuD):dN x x=true:=by simp [dN]
theorem pF (b c d e:Int):au ⟨0,b,c,d,e⟩=(ae b 0 7&&((c==0)&&(ae d 1 8&&((e==0))))):=by have h:au ⟨0,b,c,d,e⟩=(ae 0 0 5&&(ae b 0 7&&(((c==0))&&(ae d 1 8&&((e==0)))))):=rfl;rw [h,show ae 0 0 5=true from by decide];exact sW
theorem rg (b c d e:Int):au ⟨0,b,c,d,e⟩=(ae b 0 7&&(ae d 1 8&&((c==0)&&((e==0))))):=by rw [pF];exact sW
theorem pG (b c d e:Int):au ⟨1,b,c,d,e⟩=(ae b 0 7&&((c==0)&&(ae d 1 8&&((e==0))))):=by have h:au ⟨1,b,c,d,e⟩=(ae 1 0 5&&(ae b 0 7&&(((c==0))&&(ae d 1 8&&((e==0)))))):=rfl;rw [h,show ae 1 0 5=true from by decide];exact sW
theorem rh (b c d e:Int):au ⟨1,b,c,d,e⟩=(ae b 0 7&&(ae d 1 8&&((c==0)&&((e==0))))):=by rw [pG];exact sW
theorem oj (b c d e:Int):au ⟨2,b,c,d,e⟩=(ae b 0 7&&(ae c 0 7&&(!(c==b)&&(ae d 1 8&&((e==0)))))):=by have h:au ⟨2,b,c,d,e⟩=(ae 2 0 5&&(ae b 0 7&&((ae c 0 7&&(!(c==b)))&&(ae d 1 8&&((e==0)))))):=rfl;rw [h,show ae 2 0 5=true from by decide];exact sQ
theorem pH (b c d e:Int):au ⟨2,b,c,d,e⟩=(ae b 0 7&&(ae d 1 8&&(ae c 0 7&&(!(c==b)&&((e==0)))))):=by rw [oj];exact sQ
theorem ol (b c d e:Int):au ⟨3,b,c,d,e⟩=(ae b 0 7&&(ae c 0 7&&(!(c==b)&&(ae d 1 8&&((e==0)))))):=by have h:au ⟨3,b,c,d,e⟩=(ae 3 0 5&&(ae b 0 7&&((ae c 0 7&&(!(c==b)))&&(ae d 1 8&&((e==0)))))):=rfl;rw [h,show ae 3 0 5=true from by decide];exact sQ
theorem pI (b c d e:Int):au ⟨3,b,c,d,e⟩=(ae b 0 7&&(ae d 1 8&&(ae c 0 7&&(!(c==b)&&((e==0)))))):=by rw [ol];exact sQ
theorem pJ (b c d e:Int):au ⟨4,b,c,d,e⟩=(ae b 0 7&&((c==0)&&(ae d 1 6400&&((e==0))))):=by have h:au ⟨4,b,c,d,e⟩=(ae 4 0 5&&(ae b 0 7&&(((c==0))&&(ae d 1 6400&&((e==0)))))):=rfl;rw [h,show ae 4 0 5=true from by decide];exact Bc
theorem ri (b c d e:Int):au ⟨4,b,c,d,e⟩=(ae b 0 7&&(ae d 1 6400&&((c==0)&&((e==0))))):=by rw [pJ];exact Bc
theorem rj (b c d e:Int):au ⟨5,b,c,d,e⟩=(ae b 0 7&&((c==0)&&(ae d 4 40&&(ae e 1 100)))):=by have h:au ⟨5,b,c,d,e⟩=(ae 5 0 5&&(ae b 0 7&&(((c==0))&&(ae d 4 40&&(ae e 1 100))))):=rfl;rw [h,show ae 5 0 5=true from by decide];exact A9
theorem tJ (b c d e:Int):au ⟨5,b,c,d,e⟩=(ae b 0 7&&(ae d 4 40&&((c==0)&&(ae e 1 100)))):=by rw [rj];exact A9
theorem pK (a:Int)(r:Bool)(h:(a==2||a==3)=r)(w:World) :
 CW 177 #[a] w (.bool r):=by
 by_cases h2:a=2
 . subst h2;obtain rfl:true=r:=h;exact vP
 . by_cases h3:a=3
   . subst h3;obtain rfl:true=r:=h;exact vP
   . have q2:(a==2)=false:=by simpa using h2
     have q3:(a==3)=false:=by simpa using h3
     rw [q2,q3] at h;obtain rfl:false=r:=h;exact vP
theorem pL (a:Int)(r:Bool)(h:(a==2||a==3)=r)(w:World) :
 CW 152 #[a] w (.bool r):=by
 by_cases h2:a=2
 . subst h2;obtain rfl:true=r:=h;exact vQ
 . by_cases h3:a=3
   . subst h3;obtain rfl:true=r:=h;exact vQ
   . have q2:(a==2)=false:=by simpa using h2
     have q3:(a==3)=false:=by simpa using h3
     rw [q2,q3] at h;obtain rfl:false=r:=h;exact vQ
theorem KS (b c d e:Int)(w:World) :
 CE 151 #[.agg #[(0:Int),b,c,d,e]] w (.bool (ae d 1 8)):=by
 exact pw
theorem KT (b c d e:Int)(w:World) :
 CE 151 #[.agg #[(1:Int),b,c,d,e]] w (.bool (ae d 1 8)):=by
 exact pw
theorem KU (b c d e:Int)(w:World) :
 CE 151 #[.agg #[(2:Int),b,c,d,e]] w (.bool (ae d 1 8)):=by
 exact pw
theorem KV (b c d e:Int)(w:World) :
 CE 151 #[.agg #[(3:Int),b,c,d,e]] w (.bool (ae d 1 8)):=by
 exact pw
theorem KX (b c d e:Int)(w:World) :
 CE 151 #[.agg #[(4:Int),b,c,d,e]] w (.bool (ae d 1 6400)):=by
 exact pw
theorem KY (b c d e:Int)(w:World) :
 CE 151 #[.agg #[(5:Int),b,c,d,e]] w (.bool (ae d 4 40)):=by
 exact pw
theorem KZ (b c d e:Int)(w:World) :
 CE 114 #[.agg #[(0:Int),b,c,d,e]] w (.bool (au ⟨0,b,c,d,e⟩)):=by
 have hk:ae 0 0 5=true:=by decide
 cases a0:ae b 0 7 with
 | false =>
   have hr:Hid (false=au ⟨0,b,c,d,e⟩):=by show _=_;rw [pF,a0];rfl
   exact eH
 | true =>
   cases a1:(c==0) with
   | false =>
     have hr:Hid (false=au ⟨0,b,c,d,e⟩):=by show _=_;rw [pF,a0,a1];rfl
     exact th
   | true =>
     have q1:c=0:=by simpa using a1
     cases a2:ae d 1 8 with
     | false =>
       have hr:Hid (false=au ⟨0,b,c,d,e⟩):=by show _=_;rw [pF,a0,a1,a2];rfl
       exact eH
     | true =>
       cases a3:(e==0) with
       | false =>
         have hr:Hid (false=au ⟨0,b,c,d,e⟩):=by show _=_;rw [pF,a0,a1,a2,a3];rfl
         exact vS
       | true =>
         have hr:Hid (true=au ⟨0,b,c,d,e⟩):=by show _=_;rw [pF,a0,a1,a2,a3];rfl
         exact vU
theorem K0 (b c d e:Int)(w:World) :
 CE 92 #[.agg #[(0:Int),b,c,d,e]] w (.bool (au ⟨0,b,c,d,e⟩)):=by
 have hk:ae 0 0 5=true:=by decide
 cases a0:ae b 0 7 with
 | false =>
   have hr:Hid (false=au ⟨0,b,c,d,e⟩):=by show _=_;rw [rg,a0];rfl
   exact eG
 | true =>
   cases a1:ae d 1 8 with
   | false =>
     have hr:Hid (false=au ⟨0,b,c,d,e⟩):=by show _=_;rw [rg,a0,a1];rfl
     exact eG
   | true =>
     cases a2:(c==0) with
     | false =>
       have hr:Hid (false=au ⟨0,b,c,d,e⟩):=by show _=_;rw [rg,a0,a1,a2];rfl
       exact tg
     | true =>
       have q2:c=0:=by simpa using a2
       cases a3:(e==0) with
       | false =>
         have hr:Hid (false=au ⟨0,b,c,d,e⟩):=by show _=_;rw [rg,a0,a1,a2,a3];rfl
         exact vT
       | true =>
         have hr:Hid (true=au ⟨0,b,c,d,e⟩):=by show _=_;rw [rg,a0,a1,a2,a3];rfl
         exact vV
theorem K3 (b c d e:Int)(w:World) :
 CE 114 #[.agg #[(1:Int),b,c,d,e]] w (.bool (au ⟨1,b,c,d,e⟩)):=by
 have hk:ae 1 0 5=true:=by decide
 cases a0:ae b 0 7 with
 | false =>
   have hr:Hid (false=au ⟨1,b,c,d,e⟩):=by show _=_;rw [pG,a0];rfl
   exact eH
 | true =>
   cases a1:(c==0) with
   | false =>
     have hr:Hid (false=au ⟨1,b,c,d,e⟩):=by show _=_;rw [pG,a0,a1];rfl
     exact th
   | true =>
     have q1:c=0:=by simpa using a1
     cases a2:ae d 1 8 with
     | false =>
       have hr:Hid (false=au ⟨1,b,c,d,e⟩):=by show _=_;rw [pG,a0,a1,a2];rfl
       exact eH
     | true =>
       cases a3:(e==0) with
       | false =>
         have hr:Hid (false=au ⟨1,b,c,d,e⟩):=by show _=_;rw [pG,a0,a1,a2,a3];rfl
         exact vS
       | true =>
         have hr:Hid (true=au ⟨1,b,c,d,e⟩):=by show _=_;rw [pG,a0,a1,a2,a3];rfl
         exact vU
theorem K4 (b c d e:Int)(w:World) :
 CE 92 #[.agg #[(1:Int),b,c,d,e]] w (.bool (au ⟨1,b,c,d,e⟩)):=by
 have hk:ae 1 0 5=true:=by decide
 cases a0:ae b 0 7 with
 | false =>
   have hr:Hid (false=au ⟨1,b,c,d,e⟩):=by show _=_;rw [rh,a0];rfl
   exact eG
 | true =>
   cases a1:ae d 1 8 with
   | false =>
     have hr:Hid (false=au ⟨1,b,c,d,e⟩):=by show _=_;rw [rh,a0,a1];rfl
     exact eG
   | true =>
     cases a2:(c==0) with
     | false =>
       have hr:Hid (false=au ⟨1,b,c,d,e⟩):=by show _=_;rw [rh,a0,a1,a2];rfl
       exact tg
     | true =>
       have q2:c=0:=by simpa using a2
       cases a3:(e==0) with
       | false =>
         have hr:Hid (false=au ⟨1,b,c,d,e⟩):=by show _=_;rw [rh,a0,a1,a2,a3];rfl
         exact vT
       | true =>
         have hr:Hid (true=au ⟨1,b,c,d,e⟩):=by show _=_;rw [rh,a0,a1,a2,a3];rfl
         exact vV
theorem K5 (b c d e:Int)(w:World) :
 CE 114 #[.agg #[(2:Int),b,c,d,e]] w (.bool (au ⟨2,b,c,d,e⟩)):=by
 have hk:ae 2 0 5=true:=by decide
 cases a0:ae b 0 7 with
 | false =>
   have hr:Hid (false=au ⟨2,b,c,d,e⟩):=by show _=_;rw [oj,a0];rfl
   exact eH
 | true =>
   cases a1:ae c 0 7 with
   | false =>
     have hr:Hid (false=au ⟨2,b,c,d,e⟩):=by show _=_;rw [oj,a0,a1];rfl
     exact eH
   | true =>
     cases a2 : !(c==b) with
     | false =>
       have hr:Hid (false=au ⟨2,b,c,d,e⟩):=by show _=_;rw [oj,a0,a1,a2];rfl
       have q2:c=b:=by simpa using a2
       exact eH
     | true =>
       have q2:¬ c=b:=by simpa using a2
       cases a3:ae d 1 8 with
       | false =>
         have hr:Hid (false=au ⟨2,b,c,d,e⟩):=by show _=_;rw [oj,a0,a1,a2,a3];rfl
         exact eH
       | true =>
         cases a4:(e==0) with
         | false =>
           have hr:Hid (false=au ⟨2,b,c,d,e⟩):=by show _=_;rw [oj,a0,a1,a2,a3,a4];rfl
           have q4:¬ e=0:=by simpa using a4
           exact eH
         | true =>
           have hr:Hid (true=au ⟨2,b,c,d,e⟩):=by show _=_;rw [oj,a0,a1,a2,a3,a4];rfl
           have q4:e=0:=by simpa using a4
           exact eH
theorem K6 (b c d e:Int)(w:World) :
 CE 92 #[.agg #[(2:Int),b,c,d,e]] w (.bool (au ⟨2,b,c,d,e⟩)):=by
 have hk:ae 2 0 5=true:=by decide
 cases a0:ae b 0 7 with
 | false =>
   have hr:Hid (false=au ⟨2,b,c,d,e⟩):=by show _=_;rw [pH,a0];rfl
   exact eG
 | true =>
   cases a1:ae d 1 8 with
   | false =>
     have hr:Hid (false=au ⟨2,b,c,d,e⟩):=by show _=_;rw [pH,a0,a1];rfl
     exact eG
   | true =>
     cases a2:ae c 0 7 with
     | false =>
       have hr:Hid (false=au ⟨2,b,c,d,e⟩):=by show _=_;rw [pH,a0,a1,a2];rfl
       exact eG
     | true =>
       cases a3 : !(c==b) with
       | false =>
         have hr:Hid (false=au ⟨2,b,c,d,e⟩):=by show _=_;rw [pH,a0,a1,a2,a3];rfl
         have q3:c=b:=by simpa using a3
         exact eG
       | true =>
         have q3:¬ c=b:=by simpa using a3
         cases a4:(e==0) with
         | false =>
           have hr:Hid (false=au ⟨2,b,c,d,e⟩):=by show _=_;rw [pH,a0,a1,a2,a3,a4];rfl
           have q4:¬ e=0:=by simpa using a4
           exact eG
         | true =>
           have hr:Hid (true=au ⟨2,b,c,d,e⟩):=by show _=_;rw [pH,a0,a1,a2,a3,a4];rfl
           have q4:e=0:=by simpa using a4
           exact eG
theorem K7 (b c d e:Int)(w:World) :
 CE 114 #[.agg #[(3:Int),b,c,d,e]] w (.bool (au ⟨3,b,c,d,e⟩)):=by
 have hk:ae 3 0 5=true:=by decide
 cases a0:ae b 0 7 with
 | false =>
   have hr:Hid (false=au ⟨3,b,c,d,e⟩):=by show _=_;rw [ol,a0];rfl
   exact eH
 | true =>
   cases a1:ae c 0 7 with
   | false =>
     have hr:Hid (false=au ⟨3,b,c,d,e⟩):=by show _=_;rw [ol,a0,a1];rfl
     exact eH
   | true =>
     cases a2 : !(c==b) with
     | false =>
       have hr:Hid (false=au ⟨3,b,c,d,e⟩):=by show _=_;rw [ol,a0,a1,a2];rfl
       have q2:c=b:=by simpa using a2
       exact eH
     | true =>
       have q2:¬ c=b:=by simpa using a2
       cases a3:ae d 1 8 with
       | false =>
         have hr:Hid (false=au ⟨3,b,c,d,e⟩):=by show _=_;rw [ol,a0,a1,a2,a3];rfl
         exact eH
       | true =>
         cases a4:(e==0) with
         | false =>
           have hr:Hid (false=au ⟨3,b,c,d,e⟩):=by show _=_;rw [ol,a0,a1,a2,a3,a4];rfl
           have q4:¬ e=0:=by simpa using a4
           exact eH
         | true =>
           have hr:Hid (true=au ⟨3,b,c,d,e⟩):=by show _=_;rw [ol,a0,a1,a2,a3,a4];rfl
           have q4:e=0:=by simpa using a4
           exact eH
theorem K8 (b c d e:Int)(w:World) :
 CE 92 #[.agg #[(3:Int),b,c,d,e]] w (.bool (au ⟨3,b,c,d,e⟩)):=by
 have hk:ae 3 0 5=true:=by decide
 cases a0:ae b 0 7 with
 | false =>
   have hr:Hid (false=au ⟨3,b,c,d,e⟩):=by show _=_;rw [pI,a0];rfl
   exact eG
 | true =>
   cases a1:ae d 1 8 with
   | false =>
     have hr:Hid (false=au ⟨3,b,c,d,e⟩):=by show _=_;rw [pI,a0,a1];rfl
     exact eG
   | true =>
     cases a2:ae c 0 7 with
     | false =>
       have hr:Hid (false=au ⟨3,b,c,d,e⟩):=by show _=_;rw [pI,a0,a1,a2];rfl
       exact eG
     | true =>
       cases a3 : !(c==b) with
       | false =>
         have hr:Hid (false=au ⟨3,b,c,d,e⟩):=by show _=_;rw [pI,a0,a1,a2,a3];rfl
         have q3:c=b:=by simpa using a3
         exact eG
       | true =>
         have q3:¬ c=b:=by simpa using a3
         cases a4:(e==0) with
         | false =>
           have hr:Hid (false=au ⟨3,b,c,d,e⟩):=by show _=_;rw [pI,a0,a1,a2,a3,a4];rfl
           have q4:¬ e=0:=by simpa using a4
           exact eG
         | true =>
           have hr:Hid (true=au ⟨3,b,c,d,e⟩):=by show _=_;rw [pI,a0,a1,a2,a3,a4];rfl
           have q4:e=0:=by simpa using a4
           exact eG
theorem K9 (b c d e:Int)(w:World) :
 CE 114 #[.agg #[(4:Int),b,c,d,e]] w (.bool (au ⟨4,b,c,d,e⟩)):=by
 have hk:ae 4 0 5=true:=by decide
 cases a0:ae b 0 7 with
 | false =>
   have hr:Hid (false=au ⟨4,b,c,d,e⟩):=by show _=_;rw [pJ,a0];rfl
   exact eH
 | true =>
   cases a1:(c==0) with
   | false =>
     have hr:Hid (false=au ⟨4,b,c,d,e⟩):=by show _=_;rw [pJ,a0,a1];rfl
     exact th
   | true =>
     have q1:c=0:=by simpa using a1
     cases a2:ae d 1 6400 with
     | false =>
       have hr:Hid (false=au ⟨4,b,c,d,e⟩):=by show _=_;rw [pJ,a0,a1,a2];rfl
       exact eH
     | true =>
       cases a3:(e==0) with
       | false =>
         have hr:Hid (false=au ⟨4,b,c,d,e⟩):=by show _=_;rw [pJ,a0,a1,a2,a3];rfl
         exact vS
       | true =>
         have hr:Hid (true=au ⟨4,b,c,d,e⟩):=by show _=_;rw [pJ,a0,a1,a2,a3];rfl
         exact vU
theorem La (b c d e:Int)(w:World) :
 CE 92 #[.agg #[(4:Int),b,c,d,e]] w (.bool (au ⟨4,b,c,d,e⟩)):=by
 have hk:ae 4 0 5=true:=by decide
 cases a0:ae b 0 7 with
 | false =>
   have hr:Hid (false=au ⟨4,b,c,d,e⟩):=by show _=_;rw [ri,a0];rfl
   exact eG
 | true =>
   cases a1:ae d 1 6400 with
   | false =>
     have hr:Hid (false=au ⟨4,b,c,d,e⟩):=by show _=_;rw [ri,a0,a1];rfl
     exact eG
   | true =>
     cases a2:(c==0) with
     | false =>
       have hr:Hid (false=au ⟨4,b,c,d,e⟩):=by show _=_;rw [ri,a0,a1,a2];rfl
       exact tg
     | true =>
       have q2:c=0:=by simpa using a2
       cases a3:(e==0) with
       | false =>
         have hr:Hid (false=au ⟨4,b,c,d,e⟩):=by show _=_;rw [ri,a0,a1,a2,a3];rfl
         exact vT
       | true =>
         have hr:Hid (true=au ⟨4,b,c,d,e⟩):=by show _=_;rw [ri,a0,a1,a2,a3];rfl
         exact vV
theorem Lb (b c d e:Int)(w:World) :
 CE 114 #[.agg #[(5:Int),b,c,d,e]] w (.bool (au ⟨5,b,c,d,e⟩)):=by
 have hk:ae 5 0 5=true:=by decide
 cases a0:ae b 0 7 with
 | false =>
   have hr:Hid (false=au ⟨5,b,c,d,e⟩):=by show _=_;rw [rj,a0];rfl
   exact eH
 | true =>
   cases a1:(c==0) with
   | false =>
     have hr:Hid (false=au ⟨5,b,c,d,e⟩):=by show _=_;rw [rj,a0,a1];rfl
     exact th
   | true =>
     have q1:c=0:=by simpa using a1
     cases a2:ae d 4 40 with
     | false =>
       have hr:Hid (false=au ⟨5,b,c,d,e⟩):=by show _=_;rw [rj,a0,a1,a2];rfl
       exact eH
     | true =>
       have hr:Hid (ae e 1 100=au ⟨5,b,c,d,e⟩):=by show _=_;rw [rj,a0,a1,a2];rfl
       exact eH
theorem Lc (b c d e:Int)(w:World) :
 CE 92 #[.agg #[(5:Int),b,c,d,e]] w (.bool (au ⟨5,b,c,d,e⟩)):=by
 have hk:ae 5 0 5=true:=by decide
 cases a0:ae b 0 7 with
 | false =>
   have hr:Hid (false=au ⟨5,b,c,d,e⟩):=by show _=_;rw [tJ,a0];rfl
   exact eG
 | true =>
   cases a1:ae d 4 40 with
   | false =>
     have hr:Hid (false=au ⟨5,b,c,d,e⟩):=by show _=_;rw [tJ,a0,a1];rfl
     exact eG
   | true =>
     cases a2:(c==0) with
     | false =>
       have hr:Hid (false=au ⟨5,b,c,d,e⟩):=by show _=_;rw [tJ,a0,a1,a2];rfl
       exact tg
     | true =>
       have q2:c=0:=by simpa using a2
       have hr:Hid (ae e 1 100=au ⟨5,b,c,d,e⟩):=by show _=_;rw [tJ,a0,a1,a2];rfl
       exact eG
theorem DW {r:RuD}(h:ae r.a 0 5=false):au r=false:=by unfold au;rw [h];rfl
theorem SlD.take {α:Type}{Q:fS α}{sz base:Nat}{w:World}{p:OA}{n k:Nat}{l:List α}(h:SlD Q sz base w p n l)(hk:k<=n):SlD Q sz base w p k (l.take k):=by
 refine⟨by rw [fI,h.1];omega,?_⟩
 have ht:∀ {i:Nat} {x:α},(l.take k)[i]?=some x->l[i]?=some x:=by
  intro i x hx;rw [List.getElem?_take] at hx
  split at hx
  . exact hx
  . cases hx
 rcases h.2 with h0 | ⟨b,off,hp,hb,hs,hc,ho⟩
 . exact ay oM
 . exact aB ⟨b,off,hp,hb,hs,λ i x hx=>hc i x (ht hx),λ h9=>⟨(ho h9).1,λ i x hx=>(ho h9).2 i x (ht hx)⟩⟩
def iJ (l:List RuD) (k:Nat):Bool:=match l[k]? with | some r=>au r&&!((l.take k).any (dN r)) | none=>true
def dO (l:List RuD):Bool:=decide (l.length<=12)&&(List.range l.length).all (iJ l)
theorem wu {l:List RuD}{k:Nat}{y:RuD}(hx:l[k]?=some y)(h:au y=false):iJ l k=false:=by rw [iJ,hx];simp [h]
theorem DX {l:List RuD}{k:Nat}{y:RuD}(hx:l[k]?=some y)(h:(l.take k).any (dN y)=true):iJ l k=false:=by rw [iJ,hx];simp only [h];simp
theorem DY {l:List RuD}{k:Nat}{y:RuD}(hx:l[k]?=some y)(h:au y=true)(h2:(l.take k).any (dN y)=false):iJ l k=true:=by rw [iJ,hx];simp only [h,h2];rfl
theorem DZ (x:RuD)(w:World) :
 CE 114 #[.agg #[x.a,x.b,x.c,x.d,x.e]] w (.bool (au x)):=by
 obtain⟨a,b,c,d,e⟩:=x
 cases hk:ae a 0 5 with
 | false =>
   have hr:Hid (false=au ⟨a,b,c,d,e⟩):=by show _=_;rw [DW hk]
   exact eH
 | true =>
   have h':0<=a/\a<=5:=by simpa [ae] using hk
   have h6:a=0\/a=1\/a=2\/a=3\/a=4\/a=5:=oM;rcases h6 with rfl | rfl | rfl | rfl | rfl | rfl
   . exact KZ b c d e w
   . exact K3 b c d e w
   . exact K5 b c d e w
   . exact K7 b c d e w
   . exact K9 b c d e w
   . exact Lb b c d e w
theorem ng (x:RuD)(w:World) :
 CE 92 #[.agg #[x.a,x.b,x.c,x.d,x.e]] w (.bool (au x)):=by
 obtain⟨a,b,c,d,e⟩:=x
 cases hk:ae a 0 5 with
 | false =>
   have hr:Hid (false=au ⟨a,b,c,d,e⟩):=by show _=_;rw [DW hk]
   exact eG
 | true =>
   have h':0<=a/\a<=5:=by simpa [ae] using hk
   have h6:a=0\/a=1\/a=2\/a=3\/a=4\/a=5:=oM;rcases h6 with rfl | rfl | rfl | rfl | rfl | rfl
   . exact K0 b c d e w
   . exact K4 b c d e w
   . exact K6 b c d e w
   . exact K8 b c d e w
   . exact La b c d e w
   . exact Lc b c d e w
theorem Ld (p:OA)(n c base:Nat)(l:List RuD)(v1 v2 v3 v4 v5:Int)(w:World)(h:SlD (Fl bE) 5 base w p n l)(hn:n<=9223372036854775807) :
 CE 178 #[sl p n c,.agg #[v1,v2,v3,v4,v5]] w (dc (dN ⟨v1,v2,v3,v4,v5⟩) l:Int):=by
 have hl:=aa h.length;go_enter func178,ntmps178;go_upto_region 1 with (fail);generalize hW:World.alloc _ _=W0;obtain⟨E0,z0,b0⟩:=al hW;clear hW z0;replace b0:=kE b0;have⟨g0,l0⟩:=b0.gl;have E:=ab W0;go_wp2_with (fail);go_loopw [5,8] (λ _ i wr=>∃ k:Nat,k<=n/\i=.int .i64 k/\Ext W0 wr/\Hid ((l.take k).any (dN ⟨v1,v2,v3,v4,v5⟩)=false)) (λ _ i _=>n - (intOf i).toNat)
 case atStart=>exact⟨0,oM,rfl,E,rfl⟩
 case round =>
  clear g0 l0 E;obtain⟨k,hk,rfl,E,hA⟩:=hrel;have⟨g0,l0⟩:=(b0.ext E).gl;by_cases hlt:k<n
  . have hltI:(k:Int)<n:=oM;obtain⟨b,off,x,cs,rfl,hb,hx,hcs,hc⟩:=((h.ext aT E0).ext aT E).get hlt;obtain rfl:cs=bE x:=hcs;obtain⟨x1,x2,x3,x4,x5⟩:=x;have y0:=hc 0 _ rfl;rw [aq] at y0;have y1:=hc 1 _ rfl;have y2:=hc 2 _ rfl;have y3:=hc 3 _ rfl;have y4:=hc 4 _ rfl;clear hc;by_cases q1:v1=x1
    . subst q1;by_cases q2:v2=x2
      . subst q2;by_cases q3:v3=x3
        . subst q3;by_cases q4:v4=x4
          . subst q4;by_cases q5:v5=x5
            . subst q5;have hq:dN ⟨v1,v2,v3,v4,v5⟩ ⟨v1,v2,v3,v4,v5⟩=true:=DV _;have hr:Hid (dc (dN ⟨v1,v2,v3,v4,v5⟩) l=k):=kD hA.out hx.out hq;clear hq;go_wp2_with (fail);refine aQ kR kR ?_;repeat (go_big_quiet_step (fail))
              refine bW ?_;rintro w7 ⟨⟨_,h7⟩,rfl⟩;go_wp2;go_ret;exact⟨cp hr.symm,E0.trans (E.trans h7)⟩
            . exact Cp
          . exact Cr
        . exact Cs
      . exact Cu
    . exact Cv
  . have hr:Hid (dc (dN ⟨v1,v2,v3,v4,v5⟩) l = -1):=by
     have:=hA.out;rw [cz hl.out oM] at this;exact we this
    go_wp2_with (fail);go_ret;exact⟨cp hr.symm,E0.trans E⟩
theorem Le (p:OA)(n c base:Nat)(l:List RuD)(v1 v2 v3 v4 v5:Int)(w:World)(h:SlD (Fl bE) 5 base w p n l)(hn:n<=9223372036854775807) :
 CE 115 #[sl p n c,.agg #[v1,v2,v3,v4,v5]] w (.bool (l.any (dN ⟨v1,v2,v3,v4,v5⟩))):=by
 have hr:=aa (lh (dN ⟨v1,v2,v3,v4,v5⟩) l);go_enter func115,ntmps115;go_upto_region 1 with (fail);generalize hW:World.alloc _ _=W0;obtain⟨E0,z0,b0⟩:=al hW;clear hW z0;replace b0:=kE b0;have⟨g0,l0⟩:=b0.gl;have E:=ab W0;go_wp2_with (go_at_call 178;refine (Ld p n c base l v1 v2 v3 v4 v5 _ ((h.ext aT E0).ext aT E) hn).mono ?_;rintro e w3 ⟨rfl,E3⟩);go_ret;exact⟨bu hr.out,E0.trans (E.trans E3)⟩
theorem Lf (p:OA)(n c base:Nat)(l:List RuD)(v1 v2 v3 v4 v5:Int)(w:World)(h:SlD (Fl bE) 5 base w p n l)(hn:n<=9223372036854775807) :
 CE 93 #[sl p n c,.agg #[v1,v2,v3,v4,v5]] w (.bool (l.any (dN ⟨v1,v2,v3,v4,v5⟩))):=by
 have hl:=aa h.length;go_enter func93,ntmps93;go_upto_region 1 with (fail);generalize hW:World.alloc _ _=W0;obtain⟨E0,z0,b0⟩:=al hW;clear hW z0;replace b0:=kE b0;have⟨g0,l0⟩:=b0.gl;have E:=ab W0;go_wp2_with (fail);go_loopw [5] (λ i wr=>∃ k:Nat,k<=n/\i=.int .i64 k/\Ext W0 wr/\Hid ((l.take k).any (dN ⟨v1,v2,v3,v4,v5⟩)=false)) (λ i _=>n - (intOf i).toNat)
 case atStart=>exact⟨0,oM,rfl,E,rfl⟩
 case round =>
  clear g0 l0 E;obtain⟨k,hk,rfl,E,hA⟩:=hrel;have⟨g0,l0⟩:=(b0.ext E).gl;by_cases hlt:k<n
  . have hltI:(k:Int)<n:=oM;obtain⟨b,off,x,cs,rfl,hb,hx,hcs,hc⟩:=((h.ext aT E0).ext aT E).get hlt;obtain rfl:cs=bE x:=hcs;obtain⟨x1,x2,x3,x4,x5⟩:=x;have y0:=hc 0 _ rfl;rw [aq] at y0;have y1:=hc 1 _ rfl;have y2:=hc 2 _ rfl;have y3:=hc 3 _ rfl;have y4:=hc 4 _ rfl;clear hc;by_cases q1:v1=x1
    . subst q1;by_cases q2:v2=x2
      . subst q2;by_cases q3:v3=x3
        . subst q3;by_cases q4:v4=x4
          . subst q4;by_cases q5:v5=x5
            . subst q5;have hq:dN ⟨v1,v2,v3,v4,v5⟩ ⟨v1,v2,v3,v4,v5⟩=true:=DV _;have hr:Hid (true=l.any (dN ⟨v1,v2,v3,v4,v5⟩)):=by show _=_;symm;rw [aL59];exact⟨_,ap hx.out,hq⟩
              clear hq;go_wp2_with (fail);refine aQ kR kR ?_;repeat (go_big_quiet_step (fail))
              exact pm
            . exact Cp
          . exact Cr
        . exact Cs
      . exact Cu
    . exact Cv
  . have hr:Hid (false=l.any (dN ⟨v1,v2,v3,v4,v5⟩)):=by
     have:=hA.out;rw [cz hl.out oM] at this;exact this.symm
    exact qV
theorem wv (p:OA)(n base:Nat)(l:List RuD)(w:World)(h:SlD (Fl bE) 5 base w p n l)(hn:n<=9223372036854775807) :
 CE 62 #[.agg #[sl p n n]] w (.bool (dO l)):=by
 have hl:=aa h.length;go_enter func62,ntmps62;go_upto_region 1 with (fail);generalize hW:World.alloc _ _=W0;obtain⟨E0,z0,b0⟩:=al hW;clear hW z0;replace b0:=cC b0;have⟨g0,l0⟩:=b0.gl;have E:=ab W0;go_wp2_with (fail);go_loopw [3,4,8] (λ _ _ i wr=>∃ k:Nat,k<=n/\i=.int .i64 k/\Ext W0 wr/\Hid (∀ j,j<k->iJ l j=true)) (λ _ _ i _=>n - (intOf i).toNat)
 case atStart=>exact⟨0,oM,rfl,E,λ j hj=>by omega⟩
 case round =>
  clear g0 l0 E;obtain⟨k,hk,rfl,E,hA⟩:=hrel;have⟨g0,l0⟩:=(b0.ext E).gl;by_cases hlt:k<n
  . have hltI:(k:Int)<n:=oM;have hleI:(k:Int)<=n:=oM;obtain⟨b,off,x,cs,rfl,hb,hx,hcs,hc⟩:=((h.ext aT E0).ext aT E).get hlt;obtain rfl:cs=bE x:=hcs;obtain⟨y1,y2,y3,y4,y5⟩:=x;have z0:=hc 0 _ rfl;rw [aq] at z0;have z1:=hc 1 _ rfl;have z2:=hc 2 _ rfl;have z3:=hc 3 _ rfl;have z4:=hc 4 _ rfl;clear hc;go_upto_region 4 with (fail);generalize hV:World.alloc _ _=W1;obtain⟨E1,zz,b1⟩:=al hV;clear hV zz z0 z1 z2 z3 z4 g0 l0;replace b1:=aa (show Blk W1 wr [_,_,_,_,_] _ from b1);replace E:=E.trans E1;replace hb:=aF hb E1.le;have⟨g0,l0⟩:=(b0.ext E).gl;have⟨g1,l1⟩:=b1.gl;have hc1:∀ P:Later W1,CE 114 #[.agg #[y1,y2,y3,y4,y5]] P.val (.bool (au ⟨y1,y2,y3,y4,y5⟩)):=λ P=>DZ ⟨y1,y2,y3,y4,y5⟩ P.val
    have hc2:∀ P:Later W1,CE 115 #[sm b off k n,.agg #[y1,y2,y3,y4,y5]] P.val (.bool ((l.take k).any (dN ⟨y1,y2,y3,y4,y5⟩))):=λ P =>
     Le (so b off) k n base (l.take k) y1 y2 y3 y4 y5 P.val (((h.ext aT E0).ext aT (E.trans P.ok)).take oM) oM
    cases hq:au ⟨y1,y2,y3,y4,y5⟩ with
    | false =>
      have a1:(List.range l.length).all (iJ l)=false:=gb (by rw [hl.out];exact hlt) (wu hx.out hq);have hr:Hid (false=dO l):=by show _=_;unfold dO;rw [a1];simp
      rw [hq] at hc1;clear hq a1;exact BW
    | true =>
      cases hd:(l.take k).any (dN ⟨y1,y2,y3,y4,y5⟩) with
      | true =>
        have a1:(List.range l.length).all (iJ l)=false:=gb (by rw [hl.out];exact hlt) (DX hx.out hd);have hr:Hid (false=dO l):=by show _=_;unfold dO;rw [a1];simp
        rw [hq] at hc1;rw [hd] at hc2;clear hq hd a1;exact BW
      | false =>
        have hr:=aa (DY hx.out hq hd);rw [hq] at hc1;rw [hd] at hc2;clear hq hd;replace hc1:=aa hc1;replace hc2:=aa hc2;refine aQ kR kR ?_;repeat (go_big_quiet_step (first | (go_at_call 114;exact bh (hc1.out _)) | (go_at_call 115;exact bh (hc2.out _))))
        exact zM
  . have a1:(List.range l.length).all (iJ l)=true:=oi λ j hj=>hA.out j (by have:=hl.out;omega)
    have hr:Hid (decide ((n:Int)<=12)=dO l):=by show _=_;have:=hl.out;unfold dO;rw [a1,this];simp;omega
    clear a1;exact qV
theorem ww (p:OA)(n base:Nat)(l:List RuD)(w:World)(h:SlD (Fl bE) 5 base w p n l)(hn:n<=9223372036854775807) :
 CE 45 #[.agg #[sl p n n]] w (.bool (dO l)):=by
 have hl:=aa h.length;by_cases m2:12<n
 . have z2:(12:Int)<n:=oM;have d2:decide (l.length<=12)=false:=bU (by have:=hl.out;omega);have hr:Hid (false=dO l):=by show _=_;unfold dO;rw [d2];rfl
   clear d2;go_enter func45,ntmps45;exact vI
 have d2:Hid (decide (l.length<=12)=true):=bl (by have:=hl.out;omega);go_enter func45,ntmps45;go_upto_region 1 with (fail);generalize hW:World.alloc _ _=W0;obtain⟨E0,z0,b0⟩:=al hW;clear hW z0;replace b0:=cC b0;have⟨g0,l0⟩:=b0.gl;have E:=ab W0;go_wp2_with (fail);go_loopw [3] (λ i wr=>∃ k:Nat,k<=n/\i=.int .i64 k/\Ext W0 wr/\Hid (∀ j,j<k->iJ l j=true)) (λ i _=>n - (intOf i).toNat)
 case atStart=>exact⟨0,oM,rfl,E,λ j hj=>by omega⟩
 case round =>
  clear g0 l0 E;obtain⟨k,hk,rfl,E,hA⟩:=hrel;have⟨g0,l0⟩:=(b0.ext E).gl;by_cases hlt:k<n
  . have hltI:(k:Int)<n:=oM;have hleI:(k:Int)<=n:=oM;obtain⟨b,off,x,cs,rfl,hb,hx,hcs,hc⟩:=((h.ext aT E0).ext aT E).get hlt;obtain rfl:cs=bE x:=hcs;obtain⟨y1,y2,y3,y4,y5⟩:=x;have z0:=hc 0 _ rfl;rw [aq] at z0;have z1:=hc 1 _ rfl;have z2:=hc 2 _ rfl;have z3:=hc 3 _ rfl;have z4:=hc 4 _ rfl;clear hc;have hc1:∀ P:Later wr,CE 92 #[.agg #[y1,y2,y3,y4,y5]] P.val (.bool (au ⟨y1,y2,y3,y4,y5⟩)):=λ P=>ng ⟨y1,y2,y3,y4,y5⟩ P.val
    have hc2:∀ P:Later wr,CE 93 #[sm b off k n,.agg #[y1,y2,y3,y4,y5]] P.val (.bool ((l.take k).any (dN ⟨y1,y2,y3,y4,y5⟩))):=λ P =>
     Lf (so b off) k n base (l.take k) y1 y2 y3 y4 y5 P.val (((h.ext aT E0).ext aT (E.trans P.ok)).take oM) oM
    go_wp2_with (fail)
    cases hq:au ⟨y1,y2,y3,y4,y5⟩ with
    | false =>
      have a1:(List.range l.length).all (iJ l)=false:=gb (by rw [hl.out];exact hlt) (wu hx.out hq);have hr:Hid (false=dO l):=by show _=_;unfold dO;rw [a1];simp
      rw [hq] at hc1;clear hq a1;exact BX
    | true =>
      cases hd:(l.take k).any (dN ⟨y1,y2,y3,y4,y5⟩) with
      | true =>
        have a1:(List.range l.length).all (iJ l)=false:=gb (by rw [hl.out];exact hlt) (DX hx.out hd);have hr:Hid (false=dO l):=by show _=_;unfold dO;rw [a1];simp
        rw [hq] at hc1;rw [hd] at hc2;clear hq hd a1;exact BX
      | false =>
        have hr:=aa (DY hx.out hq hd);rw [hq] at hc1;rw [hd] at hc2;clear hq hd;replace hc1:=aa hc1;replace hc2:=aa hc2;refine aQ kR kR ?_;repeat (go_big_quiet_step (first | (go_at_call 92;exact bh (hc1.out _)) | (go_at_call 93;exact bh (hc2.out _))))
        exact zM
  . have a1:(List.range l.length).all (iJ l)=true:=oi λ j hj=>hA.out j (by have:=hl.out;omega)
    have hr:Hid (true=dO l):=by show _=_;unfold dO;rw [a1,d2.out];rfl
    clear a1;exact qV
end Go.Proofs.YtnlajnpcdnnpmaaGreat
