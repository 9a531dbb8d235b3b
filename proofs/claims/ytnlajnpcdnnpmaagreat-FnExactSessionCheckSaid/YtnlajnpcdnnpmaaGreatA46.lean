/- Part of a proof. No condition. -/
import Derived.Test.YtnlajnpcdnnpmaaGreatA45
namespace Go.Proofs.YtnlajnpcdnnpmaaGreat
set_option linter.all false
set_option maxRecDepth 100000
set_option maxHeartbeats 16000000
open Go.Proofs.Tryz Go.RowKit Go.PlainAid
theorem qw:emp.toList=[]:=by simp [emp]
theorem Sd (x:ShD):dZ x x=true:=by simp [dZ]
theorem Se (x:LbD):d8 x x=true:=by simp [d8]
theorem Sf (x:InD):d9 x x=true:=by simp [d9]
theorem bq {α:Type}[BEq α][LawfulBEq α](a b:α):(a==b)=(b==a):=by
 cases h:(b==a) with
 | true=>rw [eq_of_beq h];simp
 | false =>
   cases h2:(a==b) with
   | true=>rw [eq_of_beq h2] at h;simp at h
   | false=>rfl
theorem qx (x y:ShD):dZ x y=dZ y x:=by unfold dZ;rw [bq x.a,bq x.box.a,bq x.box.b,bq x.box.c,bq x.box.d]
theorem qy (x y:LbD):d8 x y=d8 y x:=by unfold d8;rw [bq x.a,bq x.pt.a,bq x.pt.b,bq x.s.toList]
theorem qz (x y:InD):d9 x y=d9 y x:=by unfold d9;rw [bq x.a,bq x.tr.a,bq x.tr.b,bq x.tr.c,bq x.c,bq x.d,bq x.e,bq x.f]
theorem oW (a b c c1:Int)(s s1:ByteArray)(S S1:ShD)(L L1:LbD)(I I1:InD):ek ⟨a,b,c1,s1,S1,L1,I1⟩ ⟨a,b,c,s,S,L,I⟩=((c1==c)&&((s1.toList==s.toList)&&(dZ S1 S&&(d8 L1 L&&d9 I1 I)))):=by unfold ek;simp only [nJ,jv]
theorem kU {e:EdD}(h0:ae e.b 0 8=true)(h1:ae e.c 0 24=true):eD e=aE e:=by unfold eD;rw [h0,h1];rfl
theorem Sg (a b c:Int)(s:ByteArray)(sh:ShD)(lb:LbD)(ins:InD)(w:World)(hs1:s.size<=9223372036854775807)(hs2:lb.s.size<=9223372036854775807) :
 CE 272 #[.agg #[a,b,c,.string s,sh.a,sh.box.a,sh.box.b,sh.box.c,sh.box.d,lb.a,lb.pt.a,lb.pt.b,.string lb.s,ins.a,ins.tr.a,ins.tr.b,ins.tr.c,ins.c,ins.d,ins.e,ins.f]] w (.bool (eD ⟨a,b,c,s,sh,lb,ins⟩)):=by
 cases h0:ae b 0 8 with
 | false =>
   have hr:Hid (false=eD ⟨a,b,c,s,sh,lb,ins⟩):=by show _=_;unfold eD;rw [h0];rfl
   go_enter func272,ntmps272;exact yU
 | true =>
   cases h1:ae c 0 24 with
   | false =>
     have hr:Hid (false=eD ⟨a,b,c,s,sh,lb,ins⟩):=by show _=_;unfold eD;rw [h0,h1];rfl
     go_enter func272,ntmps272;exact yU
   | true =>
     by_cases e1:a=1
     . subst e1;rw [kU h0 h1];exact R4 b c s sh lb ins w hs1 hs2 h0 h1
     by_cases e2:a=2
     . subst e2;rw [kU h0 h1];exact R5 b c s sh lb ins w hs1 hs2 h0 h1
     by_cases e3:a=3
     . subst e3;rw [kU h0 h1];exact R6 b c s sh lb ins w hs1 hs2 h0 h1
     by_cases e4:a=4
     . subst e4;rw [kU h0 h1];exact R7 b c s sh lb ins w hs1 hs2 h0 h1
     by_cases e5:a=5
     . subst e5;rw [kU h0 h1];exact R8 b c s sh lb ins w hs1 hs2 h0 h1
     by_cases e6:a=6
     . subst e6;rw [kU h0 h1];exact R9 b c s sh lb ins w hs1 hs2 h0 h1
     by_cases e7:a=7
     . subst e7;rw [kU h0 h1];exact Sa b c s sh lb ins w hs1 hs2 h0 h1
     by_cases e8:a=8
     . subst e8;rw [kU h0 h1];exact Sb b c s sh lb ins w hs1 hs2 h0 h1
     by_cases e9:a=9
     . subst e9;rw [kU h0 h1];exact Sc b c s sh lb ins w hs1 hs2 h0 h1
     have hr:Hid (false=eD ⟨a,b,c,s,sh,lb,ins⟩):=by show _=_;rw [kU h0 h1];unfold aE;rw [ar e1,ar e3,ar e5,ar (show ¬ (a=2\/a=4\/a=6) by omega),ar (show ¬ (a=7\/a=8) by omega),ar e9]
     have q1:(a==1)=false:=by simpa using e1
     have q2:(a==2)=false:=by simpa using e2
     have q3:(a==3)=false:=by simpa using e3
     have q4:(a==4)=false:=by simpa using e4
     have q5:(a==5)=false:=by simpa using e5
     have q6:(a==6)=false:=by simpa using e6
     have q7:(a==7)=false:=by simpa using e7
     have q8:(a==8)=false:=by simpa using e8
     have q9:(a==9)=false:=by simpa using e9
     go_enter func272,ntmps272;go_upto_region 1 with (fail);generalize hW:World.alloc _ _=W0;obtain⟨E0,z0,b0⟩:=al hW;clear hW z0;replace b0:=jx b0;have⟨g0,l0⟩:=b0.gl;have E:=ab W0;go_wp2_with (first | (go_at_call 117;refine aO (dd _ _ _ _) ?_) | ((with_reducible refine cI 18 ?_);refine lX (op:=⟨some 18,_,_,_,_,_⟩) rfl 254 _ rfl [(0,.int .i64 a),(1,.int .i64 b)] rfl _ (lV a b) ?_) | ((with_reducible refine lW ?_);refine lY (op:=⟨none,_,_,_,_,_⟩) rfl (Operand.tmp 3) (Operand.tmp 18) rfl ⟨a,b,0,emp,zS,zL,zI⟩ _ rfl rfl rfl ?_;intro W1 b1 E1;replace E:=E.trans E1;clear g0 l0;have⟨g0,l0⟩:=(b0.ext E).gl));exact eP
theorem Sh (x:ShD)(w:World) :
 CE 305 #[.agg #[x.a,x.box.a,x.box.b,x.box.c,x.box.d]] w (.bool (dZ x zS)):=by
 go_enter func305,ntmps305;go_upto_region 1 with (fail);generalize hW:World.alloc _ _=W0;obtain⟨E0,z0,b0⟩:=al hW;clear hW z0;replace b0:=kE b0;have⟨g0,l0⟩:=b0.gl;have E:=ab W0;go_wp2_with (fail);all_goals go_ret
 all_goals clear g0 l0 b0
 all_goals exact⟨bu (by simp_all [dZ,zS]),E0.trans E⟩
theorem Si (x:LbD)(w:World) :
 CE 306 #[.agg #[x.a,x.pt.a,x.pt.b,.string x.s]] w (.bool (d8 x zL)):=by
 go_enter func306,ntmps306;go_upto_region 1 with (fail);generalize hW:World.alloc _ _=W0;obtain⟨E0,z0,b0⟩:=al hW;clear hW z0;replace b0:=du b0;have⟨g0,l0⟩:=b0.gl;have E:=ab W0;go_wp2_with (fail);all_goals go_ret
 all_goals clear g0 l0 b0
 all_goals exact⟨bu (by simp_all [d8,zL,qw]),E0.trans E⟩
theorem Sj (x:InD)(w:World) :
 CE 307 #[.agg #[x.a,x.tr.a,x.tr.b,x.tr.c,x.c,x.d,x.e,x.f]] w (.bool (d9 x zI)):=by
 go_enter func307,ntmps307;go_upto_region 1 with (fail);generalize hW:World.alloc _ _=W0;obtain⟨E0,z0,b0⟩:=al hW;clear hW z0;replace b0:=gG b0;have⟨g0,l0⟩:=b0.gl;have E:=ab W0;go_wp2_with (fail);all_goals go_ret
 all_goals clear g0 l0 b0
 all_goals exact⟨bu (by simp_all [d9,zI]),E0.trans E⟩
theorem vc (b c:Int)(s:ByteArray)(sh:ShD)(lb:LbD)(ins:InD):aE ⟨1,b,c,s,sh,lb,ins⟩=((s.toList==[])&&(eR sh&&(d8 lb zL&&(d9 ins zI)))):=by rw [yH,oW,nJ c,qw,bq [] s.toList,Sd,qy zL lb,qz zI ins];generalize (s.toList==[])=P;generalize eR sh=Q;generalize d8 lb zL=R;generalize d9 ins zI=S;revert P Q R S;decide
theorem ve (b c:Int)(s:ByteArray)(sh:ShD)(lb:LbD)(ins:InD):aE ⟨2,b,c,s,sh,lb,ins⟩=((s.toList==[])&&(dZ sh zS&&(d8 lb zL&&(d9 ins zI)))):=by have pA:=@yI;exact wb
theorem vf (b c:Int)(s:ByteArray)(sh:ShD)(lb:LbD)(ins:InD):aE ⟨3,b,c,s,sh,lb,ins⟩=((s.toList==[])&&(dZ sh zS&&(eI lb&&(d9 ins zI)))):=by rw [yJ,oW,nJ c,qw,bq [] s.toList,qx zS sh,Se,qz zI ins];generalize (s.toList==[])=P;generalize dZ sh zS=Q;generalize eI lb=R;generalize d9 ins zI=S;revert P Q R S;decide
theorem vg (b c:Int)(s:ByteArray)(sh:ShD)(lb:LbD)(ins:InD):aE ⟨4,b,c,s,sh,lb,ins⟩=((s.toList==[])&&(dZ sh zS&&(d8 lb zL&&(d9 ins zI)))):=by have pA:=@yK;exact wb
theorem vh (b c:Int)(s:ByteArray)(sh:ShD)(lb:LbD)(ins:InD):aE ⟨5,b,c,s,sh,lb,ins⟩=((s.toList==[])&&(dZ sh zS&&(d8 lb zL&&(de ins 8)))):=by rw [yL,oW,nJ c,qw,bq [] s.toList,qx zS sh,qy zL lb,Sf];generalize (s.toList==[])=P;generalize dZ sh zS=Q;generalize d8 lb zL=R;generalize de ins 8=S;revert P Q R S;decide
theorem vi (b c:Int)(s:ByteArray)(sh:ShD)(lb:LbD)(ins:InD):aE ⟨6,b,c,s,sh,lb,ins⟩=((s.toList==[])&&(dZ sh zS&&(d8 lb zL&&(d9 ins zI)))):=by have pA:=@yM;exact wb
theorem sx (b c:Int)(s:ByteArray)(sh:ShD)(lb:LbD)(ins:InD):aE ⟨7,b,c,s,sh,lb,ins⟩=((c==0)&&(dK s&&(dZ sh zS&&(d8 lb zL&&(d9 ins zI))))):=by rw [yN,oW,bq 0 c,nJ s.toList,qx zS sh,qy zL lb,qz zI ins];exact AQ
theorem sy (b c:Int)(s:ByteArray)(sh:ShD)(lb:LbD)(ins:InD):aE ⟨8,b,c,s,sh,lb,ins⟩=((c==0)&&(dK s&&(dZ sh zS&&(d8 lb zL&&(d9 ins zI))))):=by rw [yO,oW,bq 0 c,nJ s.toList,qx zS sh,qy zL lb,qz zI ins];exact AQ
theorem sA (b c:Int)(s:ByteArray)(sh:ShD)(lb:LbD)(ins:InD):aE ⟨9,b,c,s,sh,lb,ins⟩=((c==0)&&((s.toList==[])&&(dZ sh zS&&(d8 lb zL&&(d9 ins zI))))):=by rw [yP,oW,bq 0 c,qw,bq [] s.toList,qx zS sh,qy zL lb,qz zI ins]
theorem Sk (b c:Int)(s:ByteArray)(sh:ShD)(lb:LbD)(ins:InD)(w:World)(hs1:s.size<=9223372036854775807)(hs2:lb.s.size<=9223372036854775807)(h0:ae b 0 8=true)(h1:ae c 0 24=true) :
 CE 219 #[.agg #[(1:Int),b,c,.string s,sh.a,sh.box.a,sh.box.b,sh.box.c,sh.box.d,lb.a,lb.pt.a,lb.pt.b,.string lb.s,ins.a,ins.tr.a,ins.tr.b,ins.tr.c,ins.c,ins.d,ins.e,ins.f]] w (.bool (aE ⟨1,b,c,s,sh,lb,ins⟩)):=by
 have _u:=fY hs1 hs2;clear _u;have hk:ae 1 1 9=true:=by decide
 cases a0:(s.toList==[]) with
 | false =>
   have hr:Hid (false=aE ⟨1,b,c,s,sh,lb,ins⟩):=by show _=_;rw [vc,a0];rfl
   exact pv
 | true =>
   have q0:s.toList=[]:=by simpa using a0
   cases a1:eR sh with
   | false =>
     have hr:Hid (false=aE ⟨1,b,c,s,sh,lb,ins⟩):=by show _=_;rw [vc,a0,a1];rfl
     exact da
   | true =>
     cases a2:d8 lb zL with
     | false =>
       have hr:Hid (false=aE ⟨1,b,c,s,sh,lb,ins⟩):=by show _=_;rw [vc,a0,a1,a2];rfl
       exact da
     | true =>
       have hr:Hid ((d9 ins zI)=aE ⟨1,b,c,s,sh,lb,ins⟩):=by show _=_;rw [vc,a0,a1,a2];rfl
       exact da
theorem Sl (b c:Int)(s:ByteArray)(sh:ShD)(lb:LbD)(ins:InD)(w:World)(hs1:s.size<=9223372036854775807)(hs2:lb.s.size<=9223372036854775807)(h0:ae b 0 8=true)(h1:ae c 0 24=true) :
 CE 219 #[.agg #[(2:Int),b,c,.string s,sh.a,sh.box.a,sh.box.b,sh.box.c,sh.box.d,lb.a,lb.pt.a,lb.pt.b,.string lb.s,ins.a,ins.tr.a,ins.tr.b,ins.tr.c,ins.c,ins.d,ins.e,ins.f]] w (.bool (aE ⟨2,b,c,s,sh,lb,ins⟩)):=by
 have _u:=fY hs1 hs2;clear _u;have hk:ae 2 1 9=true:=by decide
 cases a0:(s.toList==[]) with
 | false =>
   have hr:Hid (false=aE ⟨2,b,c,s,sh,lb,ins⟩):=by show _=_;rw [ve,a0];rfl
   exact pv
 | true =>
   have q0:s.toList=[]:=by simpa using a0
   cases a1:dZ sh zS with
   | false =>
     have hr:Hid (false=aE ⟨2,b,c,s,sh,lb,ins⟩):=by show _=_;rw [ve,a0,a1];rfl
     exact da
   | true =>
     cases a2:d8 lb zL with
     | false =>
       have hr:Hid (false=aE ⟨2,b,c,s,sh,lb,ins⟩):=by show _=_;rw [ve,a0,a1,a2];rfl
       exact da
     | true =>
       have hr:Hid ((d9 ins zI)=aE ⟨2,b,c,s,sh,lb,ins⟩):=by show _=_;rw [ve,a0,a1,a2];rfl
       exact da
theorem Sm (b c:Int)(s:ByteArray)(sh:ShD)(lb:LbD)(ins:InD)(w:World)(hs1:s.size<=9223372036854775807)(hs2:lb.s.size<=9223372036854775807)(h0:ae b 0 8=true)(h1:ae c 0 24=true) :
 CE 219 #[.agg #[(3:Int),b,c,.string s,sh.a,sh.box.a,sh.box.b,sh.box.c,sh.box.d,lb.a,lb.pt.a,lb.pt.b,.string lb.s,ins.a,ins.tr.a,ins.tr.b,ins.tr.c,ins.c,ins.d,ins.e,ins.f]] w (.bool (aE ⟨3,b,c,s,sh,lb,ins⟩)):=by
 have _u:=fY hs1 hs2;clear _u;have hk:ae 3 1 9=true:=by decide
 cases a0:(s.toList==[]) with
 | false =>
   have hr:Hid (false=aE ⟨3,b,c,s,sh,lb,ins⟩):=by show _=_;rw [vf,a0];rfl
   exact pv
 | true =>
   have q0:s.toList=[]:=by simpa using a0
   cases a1:dZ sh zS with
   | false =>
     have hr:Hid (false=aE ⟨3,b,c,s,sh,lb,ins⟩):=by show _=_;rw [vf,a0,a1];rfl
     exact da
   | true =>
     cases a2:eI lb with
     | false =>
       have hr:Hid (false=aE ⟨3,b,c,s,sh,lb,ins⟩):=by show _=_;rw [vf,a0,a1,a2];rfl
       exact da
     | true =>
       have hr:Hid ((d9 ins zI)=aE ⟨3,b,c,s,sh,lb,ins⟩):=by show _=_;rw [vf,a0,a1,a2];rfl
       exact da
theorem Sn (b c:Int)(s:ByteArray)(sh:ShD)(lb:LbD)(ins:InD)(w:World)(hs1:s.size<=9223372036854775807)(hs2:lb.s.size<=9223372036854775807)(h0:ae b 0 8=true)(h1:ae c 0 24=true) :
 CE 219 #[.agg #[(4:Int),b,c,.string s,sh.a,sh.box.a,sh.box.b,sh.box.c,sh.box.d,lb.a,lb.pt.a,lb.pt.b,.string lb.s,ins.a,ins.tr.a,ins.tr.b,ins.tr.c,ins.c,ins.d,ins.e,ins.f]] w (.bool (aE ⟨4,b,c,s,sh,lb,ins⟩)):=by
 have _u:=fY hs1 hs2;clear _u;have hk:ae 4 1 9=true:=by decide
 cases a0:(s.toList==[]) with
 | false =>
   have hr:Hid (false=aE ⟨4,b,c,s,sh,lb,ins⟩):=by show _=_;rw [vg,a0];rfl
   exact pv
 | true =>
   have q0:s.toList=[]:=by simpa using a0
   cases a1:dZ sh zS with
   | false =>
     have hr:Hid (false=aE ⟨4,b,c,s,sh,lb,ins⟩):=by show _=_;rw [vg,a0,a1];rfl
     exact da
   | true =>
     cases a2:d8 lb zL with
     | false =>
       have hr:Hid (false=aE ⟨4,b,c,s,sh,lb,ins⟩):=by show _=_;rw [vg,a0,a1,a2];rfl
       exact da
     | true =>
       have hr:Hid ((d9 ins zI)=aE ⟨4,b,c,s,sh,lb,ins⟩):=by show _=_;rw [vg,a0,a1,a2];rfl
       exact da
theorem So (b c:Int)(s:ByteArray)(sh:ShD)(lb:LbD)(ins:InD)(w:World)(hs1:s.size<=9223372036854775807)(hs2:lb.s.size<=9223372036854775807)(h0:ae b 0 8=true)(h1:ae c 0 24=true) :
 CE 219 #[.agg #[(5:Int),b,c,.string s,sh.a,sh.box.a,sh.box.b,sh.box.c,sh.box.d,lb.a,lb.pt.a,lb.pt.b,.string lb.s,ins.a,ins.tr.a,ins.tr.b,ins.tr.c,ins.c,ins.d,ins.e,ins.f]] w (.bool (aE ⟨5,b,c,s,sh,lb,ins⟩)):=by
 have _u:=fY hs1 hs2;clear _u;have hk:ae 5 1 9=true:=by decide
 cases a0:(s.toList==[]) with
 | false =>
   have hr:Hid (false=aE ⟨5,b,c,s,sh,lb,ins⟩):=by show _=_;rw [vh,a0];rfl
   exact pv
 | true =>
   have q0:s.toList=[]:=by simpa using a0
   cases a1:dZ sh zS with
   | false =>
     have hr:Hid (false=aE ⟨5,b,c,s,sh,lb,ins⟩):=by show _=_;rw [vh,a0,a1];rfl
     exact da
   | true =>
     cases a2:d8 lb zL with
     | false =>
       have hr:Hid (false=aE ⟨5,b,c,s,sh,lb,ins⟩):=by show _=_;rw [vh,a0,a1,a2];rfl
       exact da
     | true =>
       have hr:Hid ((de ins 8)=aE ⟨5,b,c,s,sh,lb,ins⟩):=by show _=_;rw [vh,a0,a1,a2];rfl
       exact da
theorem Sp (b c:Int)(s:ByteArray)(sh:ShD)(lb:LbD)(ins:InD)(w:World)(hs1:s.size<=9223372036854775807)(hs2:lb.s.size<=9223372036854775807)(h0:ae b 0 8=true)(h1:ae c 0 24=true) :
 CE 219 #[.agg #[(6:Int),b,c,.string s,sh.a,sh.box.a,sh.box.b,sh.box.c,sh.box.d,lb.a,lb.pt.a,lb.pt.b,.string lb.s,ins.a,ins.tr.a,ins.tr.b,ins.tr.c,ins.c,ins.d,ins.e,ins.f]] w (.bool (aE ⟨6,b,c,s,sh,lb,ins⟩)):=by
 have _u:=fY hs1 hs2;clear _u;have hk:ae 6 1 9=true:=by decide
 cases a0:(s.toList==[]) with
 | false =>
   have hr:Hid (false=aE ⟨6,b,c,s,sh,lb,ins⟩):=by show _=_;rw [vi,a0];rfl
   exact pv
 | true =>
   have q0:s.toList=[]:=by simpa using a0
   cases a1:dZ sh zS with
   | false =>
     have hr:Hid (false=aE ⟨6,b,c,s,sh,lb,ins⟩):=by show _=_;rw [vi,a0,a1];rfl
     exact da
   | true =>
     cases a2:d8 lb zL with
     | false =>
       have hr:Hid (false=aE ⟨6,b,c,s,sh,lb,ins⟩):=by show _=_;rw [vi,a0,a1,a2];rfl
       exact da
     | true =>
       have hr:Hid ((d9 ins zI)=aE ⟨6,b,c,s,sh,lb,ins⟩):=by show _=_;rw [vi,a0,a1,a2];rfl
       exact da
theorem Sq (b c:Int)(s:ByteArray)(sh:ShD)(lb:LbD)(ins:InD)(w:World)(hs1:s.size<=9223372036854775807)(hs2:lb.s.size<=9223372036854775807)(h0:ae b 0 8=true)(h1:ae c 0 24=true) :
 CE 219 #[.agg #[(7:Int),b,c,.string s,sh.a,sh.box.a,sh.box.b,sh.box.c,sh.box.d,lb.a,lb.pt.a,lb.pt.b,.string lb.s,ins.a,ins.tr.a,ins.tr.b,ins.tr.c,ins.c,ins.d,ins.e,ins.f]] w (.bool (aE ⟨7,b,c,s,sh,lb,ins⟩)):=by
 have _u:=fY hs1 hs2;clear _u;have hk:ae 7 1 9=true:=by decide
 cases a0:(c==0) with
 | false =>
   have hr:Hid (false=aE ⟨7,b,c,s,sh,lb,ins⟩):=by show _=_;rw [sx,a0];rfl
   have q0:¬ c=0:=by simpa using a0
   exact da
 | true =>
   have q0:c=0:=by simpa using a0
   cases a1:dK s with
   | false =>
     have hr:Hid (false=aE ⟨7,b,c,s,sh,lb,ins⟩):=by show _=_;rw [sx,a0,a1];rfl
     exact da
   | true =>
     cases a2:dZ sh zS with
     | false =>
       have hr:Hid (false=aE ⟨7,b,c,s,sh,lb,ins⟩):=by show _=_;rw [sx,a0,a1,a2];rfl
       exact da
     | true =>
       cases a3:d8 lb zL with
       | false =>
         have hr:Hid (false=aE ⟨7,b,c,s,sh,lb,ins⟩):=by show _=_;rw [sx,a0,a1,a2,a3];rfl
         exact da
       | true =>
         have hr:Hid ((d9 ins zI)=aE ⟨7,b,c,s,sh,lb,ins⟩):=by show _=_;rw [sx,a0,a1,a2,a3];rfl
         exact da
theorem Sr (b c:Int)(s:ByteArray)(sh:ShD)(lb:LbD)(ins:InD)(w:World)(hs1:s.size<=9223372036854775807)(hs2:lb.s.size<=9223372036854775807)(h0:ae b 0 8=true)(h1:ae c 0 24=true) :
 CE 219 #[.agg #[(8:Int),b,c,.string s,sh.a,sh.box.a,sh.box.b,sh.box.c,sh.box.d,lb.a,lb.pt.a,lb.pt.b,.string lb.s,ins.a,ins.tr.a,ins.tr.b,ins.tr.c,ins.c,ins.d,ins.e,ins.f]] w (.bool (aE ⟨8,b,c,s,sh,lb,ins⟩)):=by
 have _u:=fY hs1 hs2;clear _u;have hk:ae 8 1 9=true:=by decide
 cases a0:(c==0) with
 | false =>
   have hr:Hid (false=aE ⟨8,b,c,s,sh,lb,ins⟩):=by show _=_;rw [sy,a0];rfl
   have q0:¬ c=0:=by simpa using a0
   exact da
 | true =>
   have q0:c=0:=by simpa using a0
   cases a1:dK s with
   | false =>
     have hr:Hid (false=aE ⟨8,b,c,s,sh,lb,ins⟩):=by show _=_;rw [sy,a0,a1];rfl
     exact da
   | true =>
     cases a2:dZ sh zS with
     | false =>
       have hr:Hid (false=aE ⟨8,b,c,s,sh,lb,ins⟩):=by show _=_;rw [sy,a0,a1,a2];rfl
       exact da
     | true =>
       cases a3:d8 lb zL with
       | false =>
         have hr:Hid (false=aE ⟨8,b,c,s,sh,lb,ins⟩):=by show _=_;rw [sy,a0,a1,a2,a3];rfl
         exact da
       | true =>
         have hr:Hid ((d9 ins zI)=aE ⟨8,b,c,s,sh,lb,ins⟩):=by show _=_;rw [sy,a0,a1,a2,a3];rfl
         exact da
theorem Ss (b c:Int)(s:ByteArray)(sh:ShD)(lb:LbD)(ins:InD)(w:World)(hs1:s.size<=9223372036854775807)(hs2:lb.s.size<=9223372036854775807)(h0:ae b 0 8=true)(h1:ae c 0 24=true) :
 CE 219 #[.agg #[(9:Int),b,c,.string s,sh.a,sh.box.a,sh.box.b,sh.box.c,sh.box.d,lb.a,lb.pt.a,lb.pt.b,.string lb.s,ins.a,ins.tr.a,ins.tr.b,ins.tr.c,ins.c,ins.d,ins.e,ins.f]] w (.bool (aE ⟨9,b,c,s,sh,lb,ins⟩)):=by
 have _u:=fY hs1 hs2;clear _u;have hk:ae 9 1 9=true:=by decide
 cases a0:(c==0) with
 | false =>
   have hr:Hid (false=aE ⟨9,b,c,s,sh,lb,ins⟩):=by show _=_;rw [sA,a0];rfl
   have q0:¬ c=0:=by simpa using a0
   exact da
 | true =>
   have q0:c=0:=by simpa using a0
   cases a1:(s.toList==[]) with
   | false =>
     have hr:Hid (false=aE ⟨9,b,c,s,sh,lb,ins⟩):=by show _=_;rw [sA,a0,a1];rfl
     have q1:¬ s.toList=[]:=by simpa using a1
     exact da
   | true =>
     have q1:s.toList=[]:=by simpa using a1
     cases a2:dZ sh zS with
     | false =>
       have hr:Hid (false=aE ⟨9,b,c,s,sh,lb,ins⟩):=by show _=_;rw [sA,a0,a1,a2];rfl
       exact da
     | true =>
       cases a3:d8 lb zL with
       | false =>
         have hr:Hid (false=aE ⟨9,b,c,s,sh,lb,ins⟩):=by show _=_;rw [sA,a0,a1,a2,a3];rfl
         exact da
       | true =>
         have hr:Hid ((d9 ins zI)=aE ⟨9,b,c,s,sh,lb,ins⟩):=by show _=_;rw [sA,a0,a1,a2,a3];rfl
         exact da
theorem Su (a b c:Int)(s:ByteArray)(sh:ShD)(lb:LbD)(ins:InD)(h:ae a 1 9=false):aE ⟨a,b,c,s,sh,lb,ins⟩=false:=by
 have h':¬ (1<=a/\a<=9):=by intro hh;simp [ae,hh.1,hh.2] at h
 unfold aE;rw [ar (show ¬ (a=1) by omega),ar (show ¬ (a=3) by omega),ar (show ¬ (a=5) by omega),ar (show ¬ (a=2\/a=4\/a=6) by omega),ar (show ¬ (a=7\/a=8) by omega),ar (show ¬ (a=9) by omega)]
theorem Sv (a b c:Int)(s:ByteArray)(sh:ShD)(lb:LbD)(ins:InD)(w:World)(hs1:s.size<=9223372036854775807)(hs2:lb.s.size<=9223372036854775807) :
 CE 219 #[.agg #[a,b,c,.string s,sh.a,sh.box.a,sh.box.b,sh.box.c,sh.box.d,lb.a,lb.pt.a,lb.pt.b,.string lb.s,ins.a,ins.tr.a,ins.tr.b,ins.tr.c,ins.c,ins.d,ins.e,ins.f]] w (.bool (eD ⟨a,b,c,s,sh,lb,ins⟩)):=by
 cases hk:ae a 1 9 with
 | false =>
   have hr:Hid (false=eD ⟨a,b,c,s,sh,lb,ins⟩):=by show _=_;unfold eD;rw [Su a b c s sh lb ins hk];simp
   exact da
 | true =>
   cases h0:ae b 0 8 with
   | false =>
     have hr:Hid (false=eD ⟨a,b,c,s,sh,lb,ins⟩):=by show _=_;unfold eD;rw [h0];rfl
     exact da
   | true =>
     cases h1:ae c 0 24 with
     | false =>
       have hr:Hid (false=eD ⟨a,b,c,s,sh,lb,ins⟩):=by show _=_;unfold eD;rw [h0,h1];rfl
       exact da
     | true =>
       rw [kU h0 h1];have h':1<=a/\a<=9:=by simpa [ae] using hk
       have h9:a=1\/a=2\/a=3\/a=4\/a=5\/a=6\/a=7\/a=8\/a=9:=oM;rcases h9 with rfl | rfl | rfl | rfl | rfl | rfl | rfl | rfl | rfl
       . exact Sk b c s sh lb ins w hs1 hs2 h0 h1
       . exact Sl b c s sh lb ins w hs1 hs2 h0 h1
       . exact Sm b c s sh lb ins w hs1 hs2 h0 h1
       . exact Sn b c s sh lb ins w hs1 hs2 h0 h1
       . exact So b c s sh lb ins w hs1 hs2 h0 h1
       . exact Sp b c s sh lb ins w hs1 hs2 h0 h1
       . exact Sq b c s sh lb ins w hs1 hs2 h0 h1
       . exact Sr b c s sh lb ins w hs1 hs2 h0 h1
       . exact Ss b c s sh lb ins w hs1 hs2 h0 h1
def fH (l:List EdD):Bool:=decide (1<=l.length)&&(decide (l.length<=8)&&l.all eD)
def gT (l:List (List EdD)):Bool:=decide (l.length<=6)&&l.all fH
def kV (x:EtD):Bool:=dq x.cells&&(gT x.undos&&gT x.redos)
theorem Sw (x:EdD)(w:World)(hf:oh x):CE 272 #[.agg (am x).toArray] w (.bool (eD x)):=by obtain⟨a,b,c,s,sh,lb,ins⟩:=x;exact Sg a b c s sh lb ins w hf.1 hf.2
theorem Sx (x:EdD)(w:World)(hf:oh x):CE 219 #[.agg (am x).toArray] w (.bool (eD x)):=by obtain⟨a,b,c,s,sh,lb,ins⟩:=x;exact Sv a b c s sh lb ins w hf.1 hf.2
theorem Sy (x:EdD)(w:World)(hf:oh x) :
 CE 271 #[.agg (am x).toArray] w (.bool (!eD x)):=by
 have sz2:Hid ((prog.info? 254).map (·.size)=some 21):=iG;show Calls prog 271 #[.agg #[x.a,x.b,x.c,.string x.s,x.sh.a,x.sh.box.a,x.sh.box.b,x.sh.box.c,x.sh.box.d,x.lb.a,x.lb.pt.a,x.lb.pt.b,.string x.lb.s,x.ins.a,x.ins.tr.a,x.ins.tr.b,x.ins.tr.c,x.ins.c,x.ins.d,x.ins.e,x.ins.f]] w _;go_enter func271,ntmps271;go_upto_region 1 with (fail);generalize hW:World.alloc _ _=W0;obtain⟨E0,z0,b0⟩:=al hW;clear hW z0;replace b0:=jx b0;have⟨g0,l0⟩:=b0.gl;have E:=ab W0;have r0:=aa (show W0.rangeAt w 0 (am x) from fo b0.out);clear g0;exact vp
theorem Sz (p:OA)(n c base:Nat)(l:List EdD)(w:World)(h:SlD (Fl am) 21 base w p n l)(hf:jA l) :
 CE 176 #[sl p n c] w (.bool (fH l)):=by
 have hf:=aa hf;have hl:=aa h.length;by_cases m1:n<1
 . have z1:¬ ((1:Int)<=n):=oM;have d1:decide (1<=l.length)=false:=bU (by have:=hl.out;omega);have hr:Hid (false=fH l):=by show _=_;unfold fH;rw [d1];rfl
   clear d1;go_enter func176,ntmps176;go_wp2_with (fail);exact pp
 have z1:(1:Int)<=n:=oM;have d1:decide (1<=l.length)=true:=bl (by have:=hl.out;omega);replace d1:=aa d1;by_cases m2:8<n
 . have z2:¬ ((n:Int)<=8):=oM;have d2:decide (l.length<=8)=false:=bU (by have:=hl.out;omega);have hr:Hid (false=fH l):=by show _=_;unfold fH;rw [d1.out,d2];rfl
   clear d2;go_enter func176,ntmps176;go_wp2_with (fail);exact pp
 have z2:(n:Int)<=8:=oM;have d2:decide (l.length<=8)=true:=bl (by have:=hl.out;omega);have hr:Hid (l.all eD=fH l):=by show _=_;unfold fH;rw [d1.out,d2];rfl
 have cf:=Jc p n c base l (λ y=>!eD y) 271 #[] (fb func271 kR rfl) w h (λ W y cs hE hy hcs=>by cases hcs;exact Sy y W (hf.2 y hy)) oM;rw [jB] at cf
 cases ha:l.all eD with
 | false => exact Ap
 | true => exact Ap
theorem SA (p:OA)(n c base:Nat)(l:List EdD)(w:World)(h:SlD (Fl am) 21 base w p n l)(hf:jA l) :
 CE 175 #[sl p n c] w (.bool (!fH l)):=by
 go_enter func175,ntmps175;go_wp2_with (go_at_call 176;refine (Sz p n c base l _ h hf).mono ?_;rintro e w3 ⟨rfl,E3⟩);go_ret;exact⟨rfl,E3⟩
theorem HN (p:OA)(n c base:Nat)(l:List (List EdD))(w:World)(h:SlD (RwD (Fl am) 21) 1 base w p n l)(hn:n<=9223372036854775807)(hf:∀ y∈l,jA y) :
 CE 113 #[sl p n c] w (.bool (gT l)):=by
 have hf:=aa hf;have hl:=aa h.length;by_cases m2:6<n
 . have z2:¬ ((n:Int)<=6):=oM;have d2:decide (l.length<=6)=false:=bU (by have:=hl.out;omega);have hr:Hid (false=gT l):=by show _=_;unfold gT;rw [d2];rfl
   clear d2;go_enter func113,ntmps113;go_wp2_with (fail);exact pp
 have z2:(n:Int)<=6:=oM;have d2:decide (l.length<=6)=true:=bl (by have:=hl.out;omega);have hr:Hid (l.all fH=gT l):=by show _=_;unfold gT;rw [d2];rfl
 have cf:=Ji p n c base l (λ y=>!fH y) 175 #[] (fb func175 kR rfl) w h (λ W y p2 n2 c2 hE hy hs=>SA p2 n2 c2 base y W hs (hf.out y hy)) oM;rw [jB] at cf;clear d2
 cases ha:l.all fH with
 | false => exact Ar
 | true => exact Ar
theorem SB (p:OA)(n c base:Nat)(l:List EdD)(w:World)(h:SlD (Fl am) 21 base w p n l)(hf:jA l) :
 CE 150 #[sl p n c] w (.bool (fH l)):=by
 have hn:n<=9223372036854775807:=by rw [<-h.length];exact hf.1
 have hf:=aa hf;have hl:=aa h.length;have sz2:Hid ((prog.info? 254).map (·.size)=some 21):=iG;go_enter func150,ntmps150;go_wp2_with (fail);go_loopw [3] (λ i wr=>∃ k:Nat,k<=n/\i=.int .i64 k/\Ext w wr/\Hid ((l.take k).all eD=true)) (λ i _=>n - (intOf i).toNat)
 case atStart=>exact⟨0,oM,rfl,ab _,rfl⟩
 case round =>
  obtain⟨k,hk,rfl,E,hA⟩:=hrel;by_cases hlt:k<n
  . have hltI:(k:Int)<n:=oM;obtain⟨b,off,y,cs,rfl,hb,hx,hcs,hc⟩:=(h.ext okEdit E).get hlt;obtain rfl:cs=am y:=hcs;have hrr:=aa (show wr.rangeAt b (off+k*21) (am y) from hc);clear hc;have hcall:=aa (Sx y wr (hf.2 y (ap hx.out)))
    cases hq:eD y with
    | false =>
      have a1:l.all eD=false:=mo hx.out hq;have hr:Hid (false=fH l):=by show _=_;unfold fH;rw [a1];simp
      exact AS
    | true => exact Al
  . have a1:l.all eD=true:=mp hA.out hl.out oM;have hr:Hid (ae n 1 8=fH l):=by show _=_;have:=hl.out;unfold fH ae;rw [a1,this];simp;by_cases h1:1<=n <;> by_cases h8:n<=8 <;> simp [h1,h8] <;> omega
    clear a1;go_wp2_with (first | (go_at_call 220;refine aO (jY _ _ _ _) ?_));go_ret;exact⟨bu hr.out,E⟩
theorem HO (p:OA)(n c base:Nat)(l:List (List EdD))(w:World)(h:SlD (RwD (Fl am) 21) 1 base w p n l)(hn:n<=9223372036854775807)(hf:∀ y∈l,jA y) :
 CE 91 #[sl p n c] w (.bool (gT l)):=by
 have hf:=aa hf;have hl:=aa h.length;have sz2:Hid ((prog.info? 254).map (·.size)=some 21):=iG;go_enter func91,ntmps91;go_wp2_with (fail);go_loopw [3] (λ i wr=>∃ k:Nat,k<=n/\i=.int .i64 k/\Ext w wr/\Hid ((l.take k).all fH=true)) (λ i _=>n - (intOf i).toNat)
 case atStart=>exact⟨0,oM,rfl,ab _,rfl⟩
 case round =>
  obtain⟨k,hk,rfl,E,hA⟩:=hrel;by_cases hlt:k<n
  . have hltI:(k:Int)<n:=oM;obtain⟨b,off,y,cs,rfl,hb,hx,hcs,hc⟩:=(h.ext (az okEdit) E).get hlt;obtain⟨p2,n2,c2,rfl,s2⟩:=hcs;have y0:=hc 0 _ rfl;rw [aq,aZ] at y0;clear hc sz2;have hcall:=aa (SB p2 n2 c2 base y wr s2 (hf.out y (ap hx.out)))
    cases hq:fH y with
    | false =>
      have a1:l.all fH=false:=mo hx.out hq;have hr:Hid (false=gT l):=by show _=_;unfold gT;rw [a1];simp
      exact AS
    | true => exact Al
  . have a1:l.all fH=true:=mp hA.out hl.out oM;have hr:Hid (decide ((n:Int)<=6)=gT l):=by show _=_;have:=hl.out;unfold gT;rw [a1,this];simp;omega
    exact vF
theorem SC (x:EtD)(p1 p2 p3:OA)(n1 c1 n2 c2 n3 c3 base:Nat)(w:World)(s1:SlD CeR 4 base w p1 n1 x.cells)(s2:SlD (RwD (Fl am) 21) 1 base w p2 n2 x.undos)(s3:SlD (RwD (Fl am) 21) 1 base w p3 n3 x.redos)(hf:ws x) :
 CE 61 #[.agg #[sl p1 n1 c1,sl p2 n2 c2,sl p3 n3 c3]] w (.bool (kV x)):=by
 have pA:=func61;have pB:=ntmps61;exact CI
theorem SD (x:EtD)(p1 p2 p3:OA)(n1 c1 n2 c2 n3 c3 base:Nat)(w:World)(s1:SlD CeR 4 base w p1 n1 x.cells)(s2:SlD (RwD (Fl am) 21) 1 base w p2 n2 x.undos)(s3:SlD (RwD (Fl am) 21) 1 base w p3 n3 x.redos)(hf:ws x) :
 CE 44 #[.agg #[sl p1 n1 c1,sl p2 n2 c2,sl p3 n3 c3]] w (.bool (kV x)):=by
 have pA:=func44;have pB:=ntmps44;exact CI
end Go.Proofs.YtnlajnpcdnnpmaaGreat
