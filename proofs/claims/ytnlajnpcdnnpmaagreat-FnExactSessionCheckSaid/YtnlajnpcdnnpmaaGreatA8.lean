/- Part of a proof. No condition. -/
import Derived.Test.YtnlajnpcdnnpmaaGreatA7
namespace Go.Proofs.YtnlajnpcdnnpmaaGreat
set_option linter.all false
set_option maxRecDepth 100000
set_option maxHeartbeats 16000000
open Go.Proofs.Tryz Go.RowKit Go.PlainAid
theorem mo {α:Type}{f:α->Bool}{l:List α}{k:Nat}{y:α}(hx:l[k]?=some y)(hq:f y=false):l.all f=false:=by rw [pc];exact⟨y,ap hx,by rw [hq];simp⟩
theorem tH {α:Type}{f:α->Bool}{l:List α}{k:Nat}{y:α}(h:(l.take k).all f=true)(hx:l[k]?=some y)(hq:f y=true):(l.take (k+1)).all f=true:=by rw [ch hx,nL,h];simp [hq]
theorem mp {α:Type}{f:α->Bool}{l:List α}{k n:Nat}(h:(l.take k).all f=true)(hl:l.length=n)(hk:n<=k):l.all f=true:=by rwa [cz hl hk] at h
theorem jB {α:Type}(f:α->Bool)(l:List α):(l.any λ x=>!f x)=!(l.all f):=by rw [<-IU f l,Bool.not_not]
def cF (x:CeD) (k:Int):Bool:=dK x.s&&(decide (x.shs.length<=24)&&(decide (x.lbs.length<=8)&&(decide (x.ins.length<=8)&&(x.shs.all eR&&(x.lbs.all eI&&x.ins.all (de · k))))))
theorem DO (x:ShD)(w:World) :
 CE 259 #[.agg #[x.a,x.box.a,x.box.b,x.box.c,x.box.d]] w (.bool (!eR x)):=by
 go_enter func259,ntmps259;exact yZ
theorem DP (x:LbD)(w:World)(hs:x.s.size<=9223372036854775807) :
 CE 262 #[.agg #[x.a,x.pt.a,x.pt.b,.string x.s]] w (.bool (!eI x)):=by
 go_enter func262,ntmps262;go_upto_region 1 with (fail);generalize hW:World.alloc _ _=W0;obtain⟨E0,z0,b0⟩:=al hW;clear hW z0;replace b0:=du b0;exact ze
theorem DQ (x:InD)(k:Int)(B:Nat)(w:World)(hk:0<=k/\k<=1048576)(hB:B<w.heap.size)(hc:w.cell? (ad B 0)=si k) :
 CE 265 #[.agg #[x.a,x.tr.a,x.tr.b,x.tr.c,x.c,x.d,x.e,x.f],.pointer (so B 0)] w (.bool (!de x k)):=by
 go_enter func265,ntmps265;go_upto_region 1 with (fail);generalize hW:World.alloc _ _=W0;obtain⟨E0,z0,b0⟩:=al hW;clear hW z0;replace b0:=gG b0;exact Ch
theorem KN (x:CeD)(k:Int)(p1 p2 p3:OA)(n1 c1 n2 c2 n3 c3 base:Nat)(w:World)(s1:SlD (Fl bg) 5 base w p1 n1 x.shs)(s2:SlD (Fl dL) 4 base w p2 n2 x.lbs)(s3:SlD (Fl cV) 8 base w p3 n3 x.ins)(hk:0<=k/\k<=1048576)(hf:dp x) :
 CE 172 #[.agg #[.string x.s,sl p1 n1 c1,sl p2 n2 c2,sl p3 n3 c3],k] w (.bool (cF x k)):=by
 have hf:=aa hf;have hl1:=aa s1.length;have hl2:=aa s2.length;have hl3:=aa s3.length
 cases h0:dK x.s with
 | false =>
   have hr:Hid (false=cF x k):=by show _=_;unfold cF;first | (rw [h0];done) | (rw [h0];rfl)
   exact tk
 | true =>
   by_cases m1:24<n1
   . have z1:(24:Int)<n1:=oM;have d1:decide (x.shs.length<=24)=false:=bU (by have:=hl1.out;omega);have hr:Hid (false=cF x k):=by show _=_;unfold cF;first | (rw [h0,d1];done) | (rw [h0,d1];rfl)
     exact tk
   have d1:decide (x.shs.length<=24)=true:=bl (by have:=hl1.out;omega);replace d1:=aa d1;by_cases m2:8<n2
   . have z2:(8:Int)<n2:=oM;have d2:decide (x.lbs.length<=8)=false:=bU (by have:=hl2.out;omega);have hr:Hid (false=cF x k):=by show _=_;unfold cF;first | (rw [h0,d1.out,d2];done) | (rw [h0,d1.out,d2];rfl)
     exact tk
   have d2:decide (x.lbs.length<=8)=true:=bl (by have:=hl2.out;omega);replace d2:=aa d2;by_cases m3:8<n3
   . have z3:(8:Int)<n3:=oM;have d3:decide (x.ins.length<=8)=false:=bU (by have:=hl3.out;omega);have hr:Hid (false=cF x k):=by show _=_;unfold cF;first | (rw [h0,d1.out,d2.out,d3];done) | (rw [h0,d1.out,d2.out,d3];rfl)
     exact tk
   have d3:decide (x.ins.length<=8)=true:=bl (by have:=hl3.out;omega);replace d3:=aa d3
   cases a1:x.shs.all eR with
   | false =>
     have hr:Hid (false=cF x k):=by show _=_;unfold cF;first | (rw [h0,d1.out,d2.out,d3.out,a1];done) | (rw [h0,d1.out,d2.out,d3.out,a1];rfl)
     go_enter func172,ntmps172;go_upto_region 1 with (fail);generalize hW:World.alloc (World.alloc _ _) _=W0;obtain⟨E0,z0,b0,b1⟩:=bV hW;clear hW z0;replace b0:=du b0;replace b1:=cC b1;have⟨g0,l0⟩:=b0.gl;have⟨g1,l1⟩:=b1.gl;have E:=ab W0;have cf1:∀ W,Ext W0 W->CE 258 #[sl p1 n1 c1,.func (.func 259) #[] #[]] W (.bool true):=λ W hX=>by have:=DB p1 n1 c1 base x.shs (λ y=>!eR y) 259 #[] (fb func259 kR rfl) W ((s1.ext okShape E0).ext okShape hX) (λ W y cs hE hy hcs=>by cases hcs;exact DO y W) oM;rw [jB,a1] at this;exact this
     replace cf1:=aa cf1;go_wp2_with (first | (go_at_call 118;refine (lj x.s _ hf.1).mono ?_;rintro e w3 ⟨rfl,E3⟩;replace E:=E.trans E3;clear g0 l0 g1 l1 E3;have⟨g0,l0⟩:=(b0.ext E).gl;have⟨g1,l1⟩:=(b1.ext E).gl) | (go_at_call 258;refine (cf1.out _ E).mono ?_;rintro e w4 ⟨rfl,E4⟩;replace E:=E.trans E4;clear g0 l0 g1 l1 E4;have⟨g0,l0⟩:=(b0.ext E).gl;have⟨g1,l1⟩:=(b1.ext E).gl));exact eP
   | true =>
     replace a1:=aa a1
     cases a2:x.lbs.all eI with
     | false =>
       have hr:Hid (false=cF x k):=by show _=_;unfold cF;first | (rw [h0,d1.out,d2.out,d3.out,a1.out,a2];done) | (rw [h0,d1.out,d2.out,d3.out,a1.out,a2];rfl)
       go_enter func172,ntmps172;go_upto_region 1 with (fail);generalize hW:World.alloc (World.alloc _ _) _=W0;obtain⟨E0,z0,b0,b1⟩:=bV hW;clear hW z0;replace b0:=du b0;replace b1:=cC b1;have⟨g0,l0⟩:=b0.gl;have⟨g1,l1⟩:=b1.gl;have E:=ab W0;have cf1:∀ W,Ext W0 W->CE 258 #[sl p1 n1 c1,.func (.func 259) #[] #[]] W (.bool false):=λ W hX=>by exact vy
       replace cf1:=aa cf1;have cf2:∀ W,Ext W0 W->CE 261 #[sl p2 n2 c2,.func (.func 262) #[] #[]] W (.bool true):=λ W hX=>by have:=DC p2 n2 c2 base x.lbs (λ y=>!eI y) 262 #[] (fb func262 kR rfl) W ((s2.ext okLabel E0).ext okLabel hX) (λ W y cs hE hy hcs=>by cases hcs;exact DP y W (hf.2.2.2.1 y hy)) oM;rw [jB,a2] at this;exact this
       replace cf2:=aa cf2;go_wp2_with (first | (go_at_call 118;refine (lj x.s _ hf.1).mono ?_;rintro e w3 ⟨rfl,E3⟩;replace E:=E.trans E3;clear g0 l0 g1 l1 E3;have⟨g0,l0⟩:=(b0.ext E).gl;have⟨g1,l1⟩:=(b1.ext E).gl) | (go_at_call 258;refine (cf1.out _ E).mono ?_;rintro e w4 ⟨rfl,E4⟩;replace E:=E.trans E4;clear g0 l0 g1 l1 E4;have⟨g0,l0⟩:=(b0.ext E).gl;have⟨g1,l1⟩:=(b1.ext E).gl) | (go_at_call 261;refine (cf2.out _ E).mono ?_;rintro e w5 ⟨rfl,E5⟩;replace E:=E.trans E5;clear g0 l0 g1 l1 E5;have⟨g0,l0⟩:=(b0.ext E).gl;have⟨g1,l1⟩:=(b1.ext E).gl));exact eP
     | true =>
       replace a2:=aa a2
       cases a3:x.ins.all (de · k) with
       | false =>
         have hr:Hid (false=cF x k):=by show _=_;unfold cF;first | (rw [h0,d1.out,d2.out,d3.out,a1.out,a2.out,a3];done) | (rw [h0,d1.out,d2.out,d3.out,a1.out,a2.out,a3];rfl)
         go_enter func172,ntmps172;go_upto_region 1 with (fail);generalize hW:World.alloc (World.alloc _ _) _=W0;obtain⟨E0,z0,b0,b1⟩:=bV hW;clear hW z0;replace b0:=du b0;replace b1:=cC b1;have⟨g0,l0⟩:=b0.gl;have⟨g1,l1⟩:=b1.gl;have E:=ab W0;have cf1:∀ W,Ext W0 W->CE 258 #[sl p1 n1 c1,.func (.func 259) #[] #[]] W (.bool false):=λ W hX=>by exact vy
         replace cf1:=aa cf1;have cf2:∀ W,Ext W0 W->CE 261 #[sl p2 n2 c2,.func (.func 262) #[] #[]] W (.bool false):=λ W hX=>by exact zY
         replace cf2:=aa cf2;have cf3:∀ W,Ext W0 W->CE 264 #[sl p3 n3 c3,.func (.func 265) #[] #[.pointer (so (w+1) 0)]] W (.bool true):=λ W hX=>by have:=DD p3 n3 c3 base x.ins (λ y=>!de y k) 265 #[.pointer (so (w+1) 0)] (fb func265 kR rfl) W ((s3.ext okInstance E0).ext okInstance hX) (λ W y cs hE hy hcs=>by cases hcs;exact DQ y k (w+1) W hk (aF b1.lt (hX.trans hE).le) (((hX.trans hE).cells _ _ b1.lt).trans (b1.cells 0))) oM;rw [jB,a3] at this;exact this
         exact BJ
       | true =>
         replace a3:=aa a3;have hr:Hid (true=cF x k):=by show _=_;unfold cF;first | (rw [h0,d1.out,d2.out,d3.out,a1.out,a2.out,a3.out];done) | (rw [h0,d1.out,d2.out,d3.out,a1.out,a2.out,a3.out];rfl)
         go_enter func172,ntmps172;go_upto_region 1 with (fail);generalize hW:World.alloc (World.alloc _ _) _=W0;obtain⟨E0,z0,b0,b1⟩:=bV hW;clear hW z0;replace b0:=du b0;replace b1:=cC b1;have⟨g0,l0⟩:=b0.gl;have⟨g1,l1⟩:=b1.gl;have E:=ab W0;have cf1:∀ W,Ext W0 W->CE 258 #[sl p1 n1 c1,.func (.func 259) #[] #[]] W (.bool false):=λ W hX=>by exact vy
         replace cf1:=aa cf1;have cf2:∀ W,Ext W0 W->CE 261 #[sl p2 n2 c2,.func (.func 262) #[] #[]] W (.bool false):=λ W hX=>by exact zY
         replace cf2:=aa cf2;have cf3:∀ W,Ext W0 W->CE 264 #[sl p3 n3 c3,.func (.func 265) #[] #[.pointer (so (w+1) 0)]] W (.bool false):=λ W hX=>by have:=DD p3 n3 c3 base x.ins (λ y=>!de y k) 265 #[.pointer (so (w+1) 0)] (fb func265 kR rfl) W ((s3.ext okInstance E0).ext okInstance hX) (λ W y cs hE hy hcs=>by cases hcs;exact DQ y k (w+1) W hk (aF b1.lt (hX.trans hE).le) (((hX.trans hE).cells _ _ b1.lt).trans (b1.cells 0))) oM;rw [jB,a3.out] at this;exact this
         exact BJ
theorem KO (x:CeD)(k:Int)(p1 p2 p3:OA)(n1 c1 n2 c2 n3 c3 base:Nat)(w:World)(s1:SlD (Fl bg) 5 base w p1 n1 x.shs)(s2:SlD (Fl dL) 4 base w p2 n2 x.lbs)(s3:SlD (Fl cV) 8 base w p3 n3 x.ins)(hk:0<=k/\k<=1048576)(hf:dp x) :
 CE 149 #[.agg #[.string x.s,sl p1 n1 c1,sl p2 n2 c2,sl p3 n3 c3],k] w (.bool (cF x k)):=by
 have hf:=aa hf;have hl1:=aa s1.length;have hl2:=aa s2.length;have hl3:=aa s3.length
 cases h0:dK x.s with
 | false =>
   have hr:Hid (false=cF x k):=by show _=_;unfold cF;first | (rw [h0];done) | (rw [h0];rfl)
   exact tl
 | true =>
   by_cases m1:24<n1
   . have z1:(24:Int)<n1:=oM;have d1:decide (x.shs.length<=24)=false:=bU (by have:=hl1.out;omega);have hr:Hid (false=cF x k):=by show _=_;unfold cF;first | (rw [h0,d1];done) | (rw [h0,d1];rfl)
     exact tl
   have d1:decide (x.shs.length<=24)=true:=bl (by have:=hl1.out;omega);replace d1:=aa d1;by_cases m2:8<n2
   . have z2:(8:Int)<n2:=oM;have d2:decide (x.lbs.length<=8)=false:=bU (by have:=hl2.out;omega);have hr:Hid (false=cF x k):=by show _=_;unfold cF;first | (rw [h0,d1.out,d2];done) | (rw [h0,d1.out,d2];rfl)
     exact tl
   have d2:decide (x.lbs.length<=8)=true:=bl (by have:=hl2.out;omega);replace d2:=aa d2;by_cases m3:8<n3
   . have z3:(8:Int)<n3:=oM;have d3:decide (x.ins.length<=8)=false:=bU (by have:=hl3.out;omega);have hr:Hid (false=cF x k):=by show _=_;unfold cF;first | (rw [h0,d1.out,d2.out,d3];done) | (rw [h0,d1.out,d2.out,d3];rfl)
     exact tl
   have d3:decide (x.ins.length<=8)=true:=bl (by have:=hl3.out;omega);replace d3:=aa d3;go_enter func149,ntmps149;go_upto_region 1 with (fail);generalize hW:World.alloc _ _=W0;obtain⟨E0,z0,b0⟩:=al hW;clear hW z0;replace b0:=du b0;have⟨g0,l0⟩:=b0.gl;have E:=ab W0;go_wp2_with (first | (go_at_call 97;clear g0 l0;refine aR b0 E (nW x.s _ hf.1) λ w3 E g0 l0=>?_));go_loopw [5] (λ i wr=>∃ j:Nat,j<=n1/\i=.int .i64 j/\Ext W0 wr/\Hid ((x.shs.take j).all eR=true)) (λ i _=>n1 - (intOf i).toNat)
   case atStart=>exact⟨0,oM,rfl,E,rfl⟩
   case round =>
    clear g0 l0 E;obtain⟨j,hj,rfl,E,hA⟩:=hrel;have⟨g0,l0⟩:=(b0.ext E).gl;by_cases hlt:j<n1
    . have hltI:(j:Int)<n1:=oM;obtain⟨b,off,y,cs,rfl,hb,hx,hcs,hc⟩:=((s1.ext okShape E0).ext okShape E).get hlt;obtain rfl:cs=bg y:=hcs;have y0:=hc 0 _ rfl;rw [aq] at y0;have y1:=hc 1 _ rfl;have y2:=hc 2 _ rfl;have y3:=hc 3 _ rfl;have y4:=hc 4 _ rfl;clear hc;have hcall:=aa (Dw y wr)
      cases hq:eR y with
      | false =>
        have a1:x.shs.all eR=false:=mo hx.out hq;have hr:Hid (false=cF x k):=by show _=_;unfold cF;first | (rw [h0,d1.out,d2.out,d3.out,a1];done) | (rw [h0,d1.out,d2.out,d3.out,a1];rfl)
        rw [hq] at hcall;clear hq a1;exact qT
      | true => exact vx
    . have a1:Hid (x.shs.all eR=true):=mp hA.out hl1.out oM;clear hA;go_wp2_with (fail);go_loopw [6] (λ i wr=>∃ j:Nat,j<=n2/\i=.int .i64 j/\Ext W0 wr/\Hid ((x.lbs.take j).all eI=true)) (λ i _=>n2 - (intOf i).toNat)
      case atStart=>exact⟨0,oM,rfl,E,rfl⟩
      case round =>
       clear g0 l0 E;obtain⟨j,hj,rfl,E,hA⟩:=hrel;have⟨g0,l0⟩:=(b0.ext E).gl;by_cases hlt:j<n2
       . have hltI:(j:Int)<n2:=oM;obtain⟨b,off,y,cs,rfl,hb,hx,hcs,hc⟩:=((s2.ext okLabel E0).ext okLabel E).get hlt;obtain rfl:cs=dL y:=hcs;have y0:=hc 0 _ rfl;rw [aq] at y0;have y1:=hc 1 _ rfl;have y2:=hc 2 _ rfl;have y3:=hc 3 _ rfl;clear hc;have hcall:=aa (Dy y wr (hf.2.2.2.1 y (ap hx.out)))
         cases hq:eI y with
         | false =>
           have a2:x.lbs.all eI=false:=mo hx.out hq;have hr:Hid (false=cF x k):=by show _=_;unfold cF;first | (rw [h0,d1.out,d2.out,d3.out,a1.out,a2];done) | (rw [h0,d1.out,d2.out,d3.out,a1.out,a2];rfl)
           rw [hq] at hcall;clear hq a2;exact qT
         | true => exact vx
       . have a2:Hid (x.lbs.all eI=true):=mp hA.out hl2.out oM;clear hA;go_wp2_with (fail);go_loopw [7] (λ i wr=>∃ j:Nat,j<=n3/\i=.int .i64 j/\Ext W0 wr/\Hid ((x.ins.take j).all (de · k)=true)) (λ i _=>n3 - (intOf i).toNat)
         case atStart=>exact⟨0,oM,rfl,E,rfl⟩
         case round =>
          clear g0 l0 E;obtain⟨j,hj,rfl,E,hA⟩:=hrel;have⟨g0,l0⟩:=(b0.ext E).gl;by_cases hlt:j<n3
          . have hltI:(j:Int)<n3:=oM;obtain⟨b,off,y,cs,rfl,hb,hx,hcs,hc⟩:=((s3.ext okInstance E0).ext okInstance E).get hlt;obtain rfl:cs=cV y:=hcs;have y0:=hc 0 _ rfl;rw [aq] at y0;have y1:=hc 1 _ rfl;have y2:=hc 2 _ rfl;have y3:=hc 3 _ rfl;have y4:=hc 4 _ rfl;have y5:=hc 5 _ rfl;have y6:=hc 6 _ rfl;have y7:=hc 7 _ rfl;clear hc;have hcall:=aa (DA y k wr hk)
            cases hq:de y k with
            | false =>
              have a3:x.ins.all (de · k)=false:=mo hx.out hq;have hr:Hid (false=cF x k):=by show _=_;unfold cF;first | (rw [h0,d1.out,d2.out,d3.out,a1.out,a2.out,a3];done) | (rw [h0,d1.out,d2.out,d3.out,a1.out,a2.out,a3];rfl)
              rw [hq] at hcall;clear hq a3;exact qT
            | true => exact vx
          . have a3:Hid (x.ins.all (de · k)=true):=mp hA.out hl3.out oM;clear hA;have hr:Hid (true=cF x k):=by show _=_;unfold cF;first | (rw [h0,d1.out,d2.out,d3.out,a1.out,a2.out,a3.out];done) | (rw [h0,d1.out,d2.out,d3.out,a1.out,a2.out,a3.out];rfl)
            exact qV
def iI (l:List CeD) (k:Nat):Bool:=match l[k]? with | some c=>cF c k&&!((l.take k).any λ d=>d.s.toList==c.s.toList) | none=>true
def dq (l:List CeD):Bool:=decide (1<=l.length)&&(decide (l.length<=8)&&(List.range l.length).all (iI l))
theorem gb {f:Nat->Bool}{n k:Nat}(hk:k<n)(h:f k=false):(List.range n).all f=false:=by rw [pc];exact⟨k,aL70.2 hk,by rw [h];simp⟩
theorem oi {f:Nat->Bool}{n:Nat}(h:∀ j,j<n->f j=true):(List.range n).all f=true:=by rw [aL79];exact λ i hi=>h i (aL70.1 hi)
theorem KP {α:Type}{p:α->Bool}{l:List α}{k:Nat}(h:(l.take k).any p=true):dc p l≠k:=by
 intro he;unfold dc at he
 split at he
 . rename_i i hi;obtain rfl:i=k:=oM;rw [List.findIdx?_eq_some_iff_getElem] at hi;obtain⟨hl,h1,h2⟩:=hi;rw [aL59] at h;obtain⟨x,hx,hp⟩:=h;obtain⟨j,hj,rfl⟩:=List.mem_take_iff_getElem.1 hx;exact h2 j oM hp
 . omega
theorem DR {l:List CeD}{k:Nat}{y:CeD}(hx:l[k]?=some y)(h:cF y k=false):iI l k=false:=by rw [iI,hx];simp [h]
theorem DS {l:List CeD}{k:Nat}{y:CeD}(hx:l[k]?=some y)(h:((l.take k).any λ d=>d.s.toList==y.s.toList)=true):iI l k=false:=by rw [iI,hx];simp only [h];simp
theorem DT {l:List CeD}{k:Nat}{y:CeD}(hx:l[k]?=some y)(h:cF y k=true)(h2:((l.take k).any λ d=>d.s.toList==y.s.toList)=false):iI l k=true:=by rw [iI,hx];simp only [h,h2];rfl
theorem KQ (x:CeD)(nm:ByteArray)(p1 p2 p3:OA)(n1 c1 n2 c2 n3 c3 B:Nat)(w:World)(hB:B<w.heap.size)(hc:w.cell? (ad B 0)=some (.string nm)) :
 CE 268 #[.agg #[.string x.s,sl p1 n1 c1,sl p2 n2 c2,sl p3 n3 c3],.pointer (so B 0)] w (.bool (x.s.toList==nm.toList)):=by
 go_enter func268,ntmps268;go_upto_region 1 with (fail);generalize hW:World.alloc _ _=W0;obtain⟨E0,z0,b0⟩:=al hW;clear hW z0;replace b0:=du b0;have⟨g0,l0⟩:=b0.gl;have E:=ab W0;have hc0:=(E0.cells B _ hB).trans hc;have hB0:B<W0.heap.size:=aF hB E0.le;go_wp2_with (fail);exact px
theorem KR (p:OA)(n c base:Nat)(l:List CeD)(nm:ByteArray)(w:World)(h:SlD CeR 4 base w p n l)(hn:n<=1048576) :
 CE 173 #[.agg #[sl p n c],.string nm] w (dc (λ y=>y.s.toList==nm.toList) l:Int):=by
 go_enter func173,ntmps173;go_upto_region 1 with (fail);generalize hW:World.alloc (World.alloc _ _) _=W0;obtain⟨E0,z0,b0,b1⟩:=bV hW;clear hW z0;replace b0:=cC b0;replace b1:=cC b1;have⟨g0,l0⟩:=b0.gl;have⟨g1,l1⟩:=b1.gl;have E:=ab W0
 have cf:∀ W,Ext W0 W->CE 267 #[sl p n c,.func (.func 268) #[] #[.pointer (so (w+1) 0)]] W (dc (λ y=>y.s.toList==nm.toList) l:Int):=λ W hX =>
  Jf p n c base l (λ y=>y.s.toList==nm.toList) 268 #[.pointer (so (w+1) 0)] (fb func268 kR rfl) W ((h.ext aL6 E0).ext aL6 hX)
   (λ W2 y cs hE hy hcs=>by obtain⟨p1,n1,c1,p2,n2,c2,p3,n3,c3,rfl,s1,s2,s3⟩:=hcs;exact KQ y nm p1 p2 p3 n1 c1 n2 c2 n3 c3 (w+1) W2 (aF b1.lt (hX.trans hE).le) (((hX.trans hE).cells _ _ b1.lt).trans (b1.cells 0))) hn
 replace cf:=aa cf;exact vp
theorem DU (p:OA)(n c base:Nat)(l:List CeD)(w:World)(h:SlD CeR 4 base w p n l)(hn:n<=9223372036854775807)(hf:∀ x∈l,dp x) :
 CE 112 #[.agg #[sl p n c]] w (.bool (dq l)):=by
 have hf:=aa hf;have hl:=aa h.length;by_cases m1:n<1
 . have pA:=func112;have pB:=ntmps112;exact C3
 have d1:decide (1<=l.length)=true:=bl (by have:=hl.out;omega);replace d1:=aa d1;by_cases m2:8<n
 . have pA:=func112;have pB:=ntmps112;exact C2
 have d2:decide (l.length<=8)=true:=bl (by have:=hl.out;omega);replace d2:=aa d2;go_enter func112,ntmps112;go_upto_region 1 with (fail);generalize hW:World.alloc _ _=W0;obtain⟨E0,z0,b0⟩:=al hW;clear hW z0;replace b0:=cC b0;have⟨g0,l0⟩:=b0.gl;have E:=ab W0;go_wp2_with (fail);go_loopw [3,4,18] (λ _ _ i wr=>∃ k:Nat,k<=n/\i=.int .i64 k/\Ext W0 wr/\Hid (∀ j,j<k->iI l j=true)) (λ _ _ i _=>n - (intOf i).toNat)
 case atStart=>exact⟨0,oM,rfl,E,λ j hj=>by omega⟩
 case round =>
  clear g0 l0 E;obtain⟨k,hk,rfl,E,hA⟩:=hrel;have⟨g0,l0⟩:=(b0.ext E).gl;by_cases hlt:k<n
  . have hltI:(k:Int)<n:=oM;obtain⟨b,off,y,cs,rfl,hb,hx,hcs,hc⟩:=((h.ext aL6 E0).ext aL6 E).get hlt;have hfy:=aa (hf.out y (ap hx.out));obtain⟨p1,n1,c1,p2,n2,c2,p3,n3,c3,rfl,s1,s2,s3⟩:=hcs;have y0:=hc 0 _ rfl;rw [aq] at y0;have y1:=hc 1 _ rfl;have y2:=hc 2 _ rfl;have y3:=hc 3 _ rfl;clear hc;go_upto_region 6 with (fail);generalize hV:World.alloc _ _=W1;obtain⟨E1,z1,b1⟩:=al hV;clear hV z1;replace b1:=aa (show Blk W1 wr [_,_,_,_] _ from b1);replace E:=E.trans E1;clear g0 l0 y0 y1 y2 y3;have⟨g0,l0⟩:=(b0.ext E).gl;have⟨g1,l1⟩:=b1.gl;have hcall:=aa (KN y k p1 p2 p3 n1 c1 n2 c2 n3 c3 base W1 (s1.ext okShape E1) (s2.ext okLabel E1) (s3.ext okInstance E1) ⟨oM,oM⟩ hfy.out);have hB:Blk W1 wr _ _:=b1.out
    cases hq:cF y k with
    | false =>
      have a1:(List.range l.length).all (iI l)=false:=gb (by rw [hl.out];exact hlt) (DR hx.out hq);have hr:Hid (false=dq l):=by show _=_;unfold dq;first | (rw [d1.out,d2.out,a1];done) | (rw [d1.out,d2.out,a1];rfl)
      rw [hq] at hcall;clear hq a1 hB;exact qT
    | true =>
      rw [hq] at hcall;have E':=aa E
      have hcall2:∀ W,Ext W1 W->CE 173 #[.agg #[sm b off n c],.string y.s] W (dc (λ d=>d.s.toList==y.s.toList) l:Int):=λ W hX =>
       KR (so b off) n c base l y.s W (((h.ext aL6 E0).ext aL6 E'.out).ext aL6 hX) oM
      cases hd:(l.take k).any λ d=>d.s.toList==y.s.toList with
      | false =>
        have hi:dc (λ d=>d.s.toList==y.s.toList) l=k:=kD hd hx.out (by simp);have hr:=aa (DT hx.out hq hd);rw [hi] at hcall2;replace hcall2:=aa hcall2;clear hq hd hi hB;go_wp2_with (first | (go_at_call 172;refine hcall.mono ?_;rintro e w4 ⟨rfl,E4⟩;replace b1:=aa (b1.ext E4);replace E:=E.trans E4;clear g0 l0 g1 l1;have⟨g0,l0⟩:=(b0.ext E).gl;have⟨g1,l1⟩:=b1.gl) | (go_at_call 173;refine (hcall2.out _ E4).mono ?_;rintro e w5 ⟨rfl,E5⟩;replace b1:=aa (b1.ext E5);replace E:=E.trans E5;clear g0 l0 g1 l1;have⟨g0,l0⟩:=(b0.ext E).gl;have⟨g1,l1⟩:=b1.gl));go_roundw
        case rel =>
         refine⟨k+1,oM,gN,E,λ j hj=>?_⟩;by_cases hjk:j=k
         . subst hjk;exact hr.out
         . exact hA.out j oM
        case measure=>exact mS
      | true =>
        have a1:(List.range l.length).all (iI l)=false:=gb (by rw [hl.out];exact hlt) (DS hx.out hd);have hr:Hid (false=dq l):=by show _=_;unfold dq;first | (rw [d1.out,d2.out,a1];done) | (rw [d1.out,d2.out,a1];rfl)
        obtain⟨i,hi⟩:∃ i,i=dc (λ d=>d.s.toList==y.s.toList) l:=⟨_,rfl⟩;have hne:i≠(k:Int):=by rw [hi];exact KP hd
        rw [<-hi] at hcall2;replace hcall2:=aa hcall2;clear hq hd hi a1 hB;go_wp2_with (first | (go_at_call 172;refine hcall.mono ?_;rintro e w4 ⟨rfl,E4⟩;replace b1:=aa (b1.ext E4);replace E:=E.trans E4;clear g0 l0 g1 l1;have⟨g0,l0⟩:=(b0.ext E).gl;have⟨g1,l1⟩:=b1.gl) | (go_at_call 173;refine (hcall2.out _ E4).mono ?_;rintro e w5 ⟨rfl,E5⟩;replace b1:=aa (b1.ext E5);replace E:=E.trans E5;clear g0 l0 g1 l1;have⟨g0,l0⟩:=(b0.ext E).gl;have⟨g1,l1⟩:=b1.gl));exact eP
  . exact BR
theorem tI (p:OA)(n c base:Nat)(l:List CeD)(w:World)(h:SlD CeR 4 base w p n l)(hn:n<=9223372036854775807)(hf:∀ x∈l,dp x) :
 CE 90 #[.agg #[sl p n c]] w (.bool (dq l)):=by
 have hf:=aa hf;have hl:=aa h.length;by_cases m1:n<1
 . have pA:=func90;have pB:=ntmps90;exact C3
 have d1:decide (1<=l.length)=true:=bl (by have:=hl.out;omega);replace d1:=aa d1;by_cases m2:8<n
 . have pA:=func90;have pB:=ntmps90;exact C2
 have d2:decide (l.length<=8)=true:=bl (by have:=hl.out;omega);replace d2:=aa d2;go_enter func90,ntmps90;go_upto_region 1 with (fail);generalize hW:World.alloc _ _=W0;obtain⟨E0,z0,b0⟩:=al hW;clear hW z0;replace b0:=cC b0;have⟨g0,l0⟩:=b0.gl;have E:=ab W0;go_wp2_with (fail);go_loopw [3,4] (λ i _ wr=>∃ k:Nat,k<=n/\i=.int .i64 k/\Ext W0 wr/\Hid (∀ j,j<k->iI l j=true)) (λ i _ _=>n - (intOf i).toNat)
 case atStart=>exact⟨0,oM,rfl,E,λ j hj=>by omega⟩
 case round =>
  clear g0 l0 E;obtain⟨k,hk,rfl,E,hA⟩:=hrel;have⟨g0,l0⟩:=(b0.ext E).gl;by_cases hlt:k<n
  . have hltI:(k:Int)<n:=oM;obtain⟨b,off,y,cs,rfl,hb,hx,hcs,hc⟩:=((h.ext aL6 E0).ext aL6 E).get hlt;have hfy:=aa (hf.out y (ap hx.out));obtain⟨p1,n1,c1,p2,n2,c2,p3,n3,c3,rfl,s1,s2,s3⟩:=hcs;have y0:=hc 0 _ rfl;rw [aq] at y0;have y1:=hc 1 _ rfl;have y2:=hc 2 _ rfl;have y3:=hc 3 _ rfl;clear hc;have hcall:=aa (KO y k p1 p2 p3 n1 c1 n2 c2 n3 c3 base wr s1 s2 s3 ⟨oM,oM⟩ hfy.out)
    cases hq:cF y k with
    | false =>
      have a1:(List.range l.length).all (iI l)=false:=gb (by rw [hl.out];exact hlt) (DR hx.out hq);have hr:Hid (false=dq l):=by show _=_;unfold dq;first | (rw [d1.out,d2.out,a1];done) | (rw [d1.out,d2.out,a1];rfl)
      rw [hq] at hcall;clear hq a1;exact qT
    | true =>
      rw [hq] at hcall;replace hq:=aa hq;go_wp2_with (first | (go_at_call 149;refine hcall.mono ?_;rintro e w4 ⟨rfl,E4⟩;replace E:=E.trans E4;clear g0 l0;have⟨g0,l0⟩:=(b0.ext E).gl));clear hcall y0 y1 y2 y3 s1 s2 s3 hb;go_loopw [4] (λ q wr=>∃ m:Nat,m<=k/\q=.int .i64 m/\Ext w4 wr/\Hid (((l.take m).any λ d=>d.s.toList==y.s.toList)=false)) (λ q _=>k - (intOf q).toNat)
      case atStart=>exact⟨0,oM,rfl,ab _,rfl⟩
      case round =>
       clear g0 l0;obtain⟨m,hm,rfl,EI,hB⟩:=hrel;have EE:=E.trans EI;have⟨g0,l0⟩:=(b0.ext EE).gl;by_cases hmk:m<k
       . have hmkI:(m:Int)<k:=oM;obtain⟨b',off',y',cs,hbb,hb,hx',hcs,hc⟩:=((h.ext aL6 E0).ext aL6 EE).get hlt
         cases hbb
         obtain rfl:y=y':=cJ (hx.symm.trans hx'.out);obtain⟨p1,n1,c1,p2,n2,c2,p3,n3,c3,rfl,s1,s2,s3⟩:=hcs;have y0:=hc 0 _ rfl;rw [aq] at y0;clear hc hx' s1 s2 s3;obtain⟨b',off',z,cs,hbb,_,hz,hcs,hc⟩:=((h.ext aL6 E0).ext aL6 EE).get (show m<n by omega)
         cases hbb
         obtain⟨p4,n4,c4,p5,n5,c5,p6,n6,c6,rfl,s1,s2,s3⟩:=hcs;have z0:=hc 0 _ rfl;rw [aq] at z0;clear hc s1 s2 s3;have hmn:(m:Int)<n:=oM
         cases he:(z.s.toList==y.s.toList) with
         | true =>
           have a1:(List.range l.length).all (iI l)=false:=gb (by rw [hl.out];exact hlt) (DS hx.out (by rw [aL59];exact⟨z,ap (by rw [List.getElem?_take_of_lt hmk];exact hz.out),he⟩));have hr:Hid (false=dq l):=by show _=_;unfold dq;first | (rw [d1.out,d2.out,a1];done) | (rw [d1.out,d2.out,a1];rfl)
           clear a1;go_wp2_with (fail);refine aQ kR kR ?_;repeat (go_big_quiet_step (fail))
           refine bW ?_;rintro w7 ⟨⟨_,h7⟩,rfl⟩;go_wp2;go_ret;exact⟨bu hr.out,E0.trans (EE.trans h7)⟩
         | false =>
           have hr:=aa (jc hB.out hz.out he);go_wp2_with (fail);refine aQ kR kR ?_;repeat (go_big_quiet_step (fail))
           refine bW ?_;rintro w7 ⟨⟨_,h7⟩,rfl⟩;go_wp2;go_roundw
           case rel=>exact⟨m+1,oM,gN,EI.trans h7,hr⟩
           case measure=>exact mS
       . obtain rfl:m=k:=oM;have hr:=aa (DT hx.out hq.out hB.out);go_wp2_with (fail);go_roundw
         case rel =>
          refine⟨m+1,oM,gN,EE,λ j hj=>?_⟩;by_cases hjk:j=m
          . subst hjk;exact hr.out
          . exact hA.out j oM
         case measure=>exact mS
  . exact BR
end Go.Proofs.YtnlajnpcdnnpmaaGreat
