/- Part of a proof. No condition. -/
import Derived.Test.YtnlajnpcdnnpmaaGreatA6
namespace Go.Proofs.YtnlajnpcdnnpmaaGreat
set_option linter.all false
set_option maxRecDepth 100000
set_option maxHeartbeats 16000000
open Go.Proofs.Tryz Go.RowKit
def ak (left tot:Int):Int:=if left<tot then -1 else left - tot
def aC {α:Type} (f:α->Nat) (l:List α):Nat:=(l.map f).sum
theorem nY {α:Type}{f:α->Nat}{l:List α}{k:Nat}{x:α}(h:l[k]?=some x):aC f (l.take (k+1))=aC f (l.take k)+f x:=by rw [aC,ch h,dT,qJ,aC];simp
theorem nZ {α:Type}(f:α->Nat)(l:List α)(k:Nat):aC f (l.take k)<=aC f l:=by
 have h:=qK k l;have:aC f l=aC f (l.take k)+aC f (l.drop k):=by rw [aC,aC,aC,<-qJ,<-dT,h]
 omega
def ec (x:LbD):Nat:=x.s.size
def fe (x:WvD):Nat:=x.s.size
def ff (x:PoD):Nat:=x.s.size
def fA (x:EdD):Nat:=x.s.size+ec x.lb
def eo (l:List EdD):Nat:=l.length+aC fA l
def er (x:DvD):Nat:=x.pins.length
def nf (l:List LbD):Nat:=l.length+aC ec l
def dM (x:CeD):Nat:=x.s.size+(x.shs.length+(nf x.lbs+x.ins.length))
theorem DL (x:LbD)(left:Int)(w:World)(h0:0<=left)(h1:left<=1048576)(hs:x.s.size<=9223372036854775807) :
 CE 215 #[.agg #[x.a,x.pt.a,x.pt.b,.string x.s],left] w (ak left (ec x:Nat):Int):=by
 by_cases h:left<x.s.size
 . have hr:Hid (-1=ak left (ec x:Nat)):=by show _=_;rw [ak,ec,aw h]
   go_enter func215,ntmps215;exact pu
 . have hr:Hid (left - x.s.size=ak left (ec x:Nat)):=by show _=_;rw [ak,ec,ar h]
   go_enter func215,ntmps215;exact pu
theorem Kr (x:WvD)(left:Int)(w:World)(h0:0<=left)(h1:left<=1048576)(hs:x.s.size<=9223372036854775807) :
 CE 41 #[.agg #[x.a,.string x.s],left] w (ak left (fe x:Nat):Int):=by
 by_cases h:left<x.s.size
 . have hr:Hid (-1=ak left (fe x:Nat)):=by show _=_;rw [ak,fe,aw h]
   go_enter func41,ntmps41;exact pu
 . have hr:Hid (left - x.s.size=ak left (fe x:Nat)):=by show _=_;rw [ak,fe,ar h]
   go_enter func41,ntmps41;exact pu
theorem Ks (x:PoD)(left:Int)(w:World)(h0:0<=left)(h1:left<=1048576)(hs:x.s.size<=9223372036854775807) :
 CE 89 #[.agg #[.string x.s,x.a],left] w (ak left (ff x:Nat):Int):=by
 by_cases h:left<x.s.size
 . have hr:Hid (-1=ak left (ff x:Nat)):=by show _=_;rw [ak,ff,aw h]
   go_enter func89,ntmps89;exact pu
 . have hr:Hid (left - x.s.size=ak left (ff x:Nat)):=by show _=_;rw [ak,ff,ar h]
   go_enter func89,ntmps89;exact pu
theorem Kt (p:OA)(n c base:Nat)(l:List LbD)(left:Int)(w:World)(h:SlD (Fl dL) 4 base w p n l)(hn:n<=9223372036854775807)(h0:0<=left)(h1:left<=1048576)(hin:∀ x∈l,x.s.size<=9223372036854775807) :
 CE 213 #[sl p n c,left] w (ak left (l.length+aC ec l:Nat):Int):=by
 have hl:=aa h.length;replace hin:=aa hin;by_cases hln:left<n
 . have hr:Hid (-1=ak left (l.length+aC ec l:Nat)):=by show _=_;rw [ak,hl.out,aw oM]
   go_enter func213,ntmps213;exact mh
 . go_enter func213,ntmps213;go_wp2;go_loopw [1,5] (λ lv i wr=>∃ (k:Nat) (L:Int),k<=n/\i=.int .i64 k/\lv=.int .i64 L/\Hid (L=left - n - aC ec (l.take k))/\0<=L/\L<=1048576/\Ext w wr) (λ _ i _=>n - (intOf i).toNat)
   case atStart=>exact⟨0,left - n,oM,rfl,rfl,by show _=_;simp [aC],oM,oM,ab _⟩
   case round =>
    obtain⟨k,L,hk,rfl,rfl,hL,hL0,hL1,hE⟩:=hrel;by_cases hlt:k<n
    . have hltI:(k:Int)<n:=oM;obtain⟨b,off,x,cs,rfl,hb,hx,hcs,hc⟩:=(h.ext okLabel hE).get hlt;have hm:=aa (hin.out x (ap hx.out));have hst:=aa (nY (f:=ec) hx.out);have hle:=aa (nZ ec l (k+1));obtain rfl:cs=dL x:=hcs;have y0:=hc 0 _ rfl;rw [aq] at y0;have y1:=hc 1 _ rfl;have y2:=hc 2 _ rfl;have y3:=hc 3 _ rfl;clear hc;have hcall:=aa (DL x L wr hL0 hL1 hm.out);by_cases hlx:L<(ec x:Nat)
      . have hr:Hid (-1=ak left (l.length+aC ec l:Nat)):=by
         exact nO
        have hv:Hid (ak L (ec x:Nat) = -1):=by show _=_;rw [ak,aw hlx]
        exact pn
      . have hv:Hid (ak L (ec x:Nat)=L - (ec x:Nat)):=by show _=_;rw [ak,ar hlx]
        rw [hv.out] at hcall;obtain⟨L2,hL2⟩:∃ L2:Int,L2=L - (ec x:Nat):=⟨_,rfl⟩;exact pl
    . obtain rfl:k=n:=oM;have hr:Hid (L=ak left (l.length+aC ec l:Nat)):=nN
      exact nP
theorem Ku (p:OA)(n c base:Nat)(l:List WvD)(left:Int)(w:World)(h:SlD (Fl cj) 2 base w p n l)(hn:n<=9223372036854775807)(h0:0<=left)(h1:left<=1048576)(hin:∀ x∈l,x.s.size<=9223372036854775807) :
 CE 15 #[sl p n c,left] w (ak left (l.length+aC fe l:Nat):Int):=by
 have hl:=aa h.length;replace hin:=aa hin;by_cases hln:left<n
 . have hr:Hid (-1=ak left (l.length+aC fe l:Nat)):=by show _=_;rw [ak,hl.out,aw oM]
   go_enter func15,ntmps15;exact mh
 . go_enter func15,ntmps15;go_wp2;go_loopw [1,5] (λ lv i wr=>∃ (k:Nat) (L:Int),k<=n/\i=.int .i64 k/\lv=.int .i64 L/\Hid (L=left - n - aC fe (l.take k))/\0<=L/\L<=1048576/\Ext w wr) (λ _ i _=>n - (intOf i).toNat)
   case atStart=>exact⟨0,left - n,oM,rfl,rfl,by show _=_;simp [aC],oM,oM,ab _⟩
   case round =>
    obtain⟨k,L,hk,rfl,rfl,hL,hL0,hL1,hE⟩:=hrel;by_cases hlt:k<n
    . have hltI:(k:Int)<n:=oM;obtain⟨b,off,x,cs,rfl,hb,hx,hcs,hc⟩:=(h.ext okWaiver hE).get hlt;have hm:=aa (hin.out x (ap hx.out));have hst:=aa (nY (f:=fe) hx.out);have hle:=aa (nZ fe l (k+1));obtain rfl:cs=cj x:=hcs;have y0:=hc 0 _ rfl;rw [aq] at y0;have y1:=hc 1 _ rfl;clear hc;have hcall:=aa (Kr x L wr hL0 hL1 hm.out);by_cases hlx:L<(fe x:Nat)
      . have hr:Hid (-1=ak left (l.length+aC fe l:Nat)):=by
         exact nO
        have hv:Hid (ak L (fe x:Nat) = -1):=by show _=_;rw [ak,aw hlx]
        exact pn
      . have hv:Hid (ak L (fe x:Nat)=L - (fe x:Nat)):=by show _=_;rw [ak,ar hlx]
        rw [hv.out] at hcall;obtain⟨L2,hL2⟩:∃ L2:Int,L2=L - (fe x:Nat):=⟨_,rfl⟩;exact pl
    . obtain rfl:k=n:=oM;have hr:Hid (L=ak left (l.length+aC fe l:Nat)):=nN
      exact nP
theorem Kv (p:OA)(n c base:Nat)(l:List PoD)(left:Int)(w:World)(h:SlD (Fl cD) 2 base w p n l)(hn:n<=9223372036854775807)(h0:0<=left)(h1:left<=1048576)(hin:∀ x∈l,x.s.size<=9223372036854775807) :
 CE 43 #[sl p n c,left] w (ak left (l.length+aC ff l:Nat):Int):=by
 have hl:=aa h.length;replace hin:=aa hin;by_cases hln:left<n
 . have hr:Hid (-1=ak left (l.length+aC ff l:Nat)):=by show _=_;rw [ak,hl.out,aw oM]
   go_enter func43,ntmps43;exact mh
 . go_enter func43,ntmps43;go_wp2;go_loopw [1,5] (λ lv i wr=>∃ (k:Nat) (L:Int),k<=n/\i=.int .i64 k/\lv=.int .i64 L/\Hid (L=left - n - aC ff (l.take k))/\0<=L/\L<=1048576/\Ext w wr) (λ _ i _=>n - (intOf i).toNat)
   case atStart=>exact⟨0,left - n,oM,rfl,rfl,by show _=_;simp [aC],oM,oM,ab _⟩
   case round =>
    obtain⟨k,L,hk,rfl,rfl,hL,hL0,hL1,hE⟩:=hrel;by_cases hlt:k<n
    . have hltI:(k:Int)<n:=oM;obtain⟨b,off,x,cs,rfl,hb,hx,hcs,hc⟩:=(h.ext bw hE).get hlt;have hm:=aa (hin.out x (ap hx.out));have hst:=aa (nY (f:=ff) hx.out);have hle:=aa (nZ ff l (k+1));obtain rfl:cs=cD x:=hcs;have y0:=hc 0 _ rfl;rw [aq] at y0;have y1:=hc 1 _ rfl;clear hc;have hcall:=aa (Ks x L wr hL0 hL1 hm.out);by_cases hlx:L<(ff x:Nat)
      . have hr:Hid (-1=ak left (l.length+aC ff l:Nat)):=by
         exact nO
        have hv:Hid (ak L (ff x:Nat) = -1):=by show _=_;rw [ak,aw hlx]
        exact pn
      . have hv:Hid (ak L (ff x:Nat)=L - (ff x:Nat)):=by show _=_;rw [ak,ar hlx]
        rw [hv.out] at hcall;obtain⟨L2,hL2⟩:∃ L2:Int,L2=L - (ff x:Nat):=⟨_,rfl⟩;exact pl
    . obtain rfl:k=n:=oM;have hr:Hid (L=ak left (l.length+aC ff l:Nat)):=nN
      exact nP
theorem Kw (p:OA)(n c:Nat)(left:Int)(w:World)(h0:0<=left)(h1:left<=1048576)(hm:n<=9223372036854775807) :
 CE 148 #[sl p n c,left] w (ak left (n:Nat):Int):=by
 have pA:=func148;have pB:=ntmps148;exact tq
theorem Kx (p:OA)(n c:Nat)(left:Int)(w:World)(h0:0<=left)(h1:left<=1048576)(hm:n<=9223372036854775807) :
 CE 212 #[sl p n c,left] w (ak left (n:Nat):Int):=by
 have pA:=func212;have pB:=ntmps212;exact tq
theorem Ky (p:OA)(n c:Nat)(left:Int)(w:World)(h0:0<=left)(h1:left<=1048576)(hm:n<=9223372036854775807) :
 CE 214 #[sl p n c,left] w (ak left (n:Nat):Int):=by
 have pA:=func214;have pB:=ntmps214;exact tq
theorem Kz (p:OA)(n c:Nat)(left:Int)(w:World)(h0:0<=left)(h1:left<=1048576)(hm:n<=9223372036854775807) :
 CE 40 #[sl p n c,left] w (ak left (n:Nat):Int):=by
 have pA:=func40;have pB:=ntmps40;exact tq
theorem KA (x:DvD)(p:OA)(n c:Nat)(left:Int)(w:World)(h0:0<=left)(h1:left<=1048576)(hx:x.pins.length=n)(hn:n<=9223372036854775807) :
 CE 88 #[.agg #[x.a,sl p n c,x.b,x.c],left] w (ak left (er x:Nat):Int):=by
 have ht:Hid (∀ L:Int,L=left - (er x:Nat)->0<=L->L=ak left (er x:Nat)):=λ L h1 h2=>by rw [ak,ar oM];exact h1
 have hf:Hid (left<(er x:Nat)->(-1:Int)=ak left (er x:Nat)):=λ h=>by rw [ak,aw h]
 go_enter func88,ntmps88;go_upto_region 1 with (fail);generalize hW:World.alloc _ _=W0;obtain⟨E0,z0,b0⟩:=al hW;clear hW z0;replace b0:=du b0;have⟨g0,l0⟩:=b0.gl;have E:=ab W0;obtain⟨L0,hL0⟩:∃ L:Int,L=left:=⟨_,rfl⟩;rw [<-hL0];replace hL0:=aa hL0;have a0:0<=L0:=by have:=hL0.out;omega
 have b00:L0<=1048576:=by have:=hL0.out;omega
 clear h0 h1;have hcall:=aa (Kw p n c L0 W0 a0 b00 hn);by_cases k0:L0<(n:Nat)
 . have hv:Hid (ak L0 (n:Nat) = -1):=by show _=_;rw [ak,aw k0]
   rw [hv.out] at hcall;go_wp2_with fail;refine hcall.mono ?_;rintro e w1 ⟨rfl,E1⟩;go_wp2_with fail;go_ret;exact⟨cp (hf.out (by have:=hL0.out;unfold er at *;omega)),E0.trans (E.trans E1)⟩
 . have hv:Hid (ak L0 (n:Nat)=L0 - (n:Nat)):=by show _=_;rw [ak,ar k0]
   rw [hv.out] at hcall;obtain⟨L1,hL1⟩:∃ L:Int,L=L0 - (n:Nat):=⟨_,rfl⟩;rw [<-hL1] at hcall;have a1:0<=L1:=oM;have b10:L1<=1048576:=oM;replace hL1:=aa hL1;replace k0:=aa k0;go_wp2_with fail;refine hcall.mono ?_;rintro e w1 ⟨rfl,E1⟩;clear hcall;replace E:=E.trans E1;clear g0 l0 E1;have⟨g0,l0⟩:=(b0.ext E).gl;go_wp2_with fail;go_ret;exact⟨cp (ht.out _ (by have:=hL0.out;have:=hL1.out;unfold er at *;omega) oM),E0.trans E⟩
theorem KB (x:EdD)(left:Int)(w:World)(h0:0<=left)(h1:left<=1048576)(hs1:x.s.size<=9223372036854775807)(hs2:x.lb.s.size<=9223372036854775807) :
 CE 147 #[.agg #[x.a,x.b,x.c,.string x.s,x.sh.a,x.sh.box.a,x.sh.box.b,x.sh.box.c,x.sh.box.d,x.lb.a,x.lb.pt.a,x.lb.pt.b,.string x.lb.s,x.ins.a,x.ins.tr.a,x.ins.tr.b,x.ins.tr.c,x.ins.c,x.ins.d,x.ins.e,x.ins.f],left] w (ak left (fA x:Nat):Int):=by
 have ht:Hid (∀ L:Int,L=left - (fA x:Nat)->0<=L->L=ak left (fA x:Nat)):=λ L h1 h2=>by rw [ak,ar oM];exact h1
 have hf:Hid (left<(fA x:Nat)->(-1:Int)=ak left (fA x:Nat)):=λ h=>by rw [ak,aw h]
 go_enter func147,ntmps147;go_upto_region 1 with (fail);generalize hW:World.alloc _ _=W0;obtain⟨E0,z0,b0⟩:=al hW;clear hW z0;replace b0:=jx b0;have⟨g0,l0⟩:=b0.gl;have E:=ab W0;obtain⟨L0,hL0⟩:∃ L:Int,L=left:=⟨_,rfl⟩;rw [<-hL0];replace hL0:=aa hL0;have a0:0<=L0:=by have:=hL0.out;omega
 have b00:L0<=1048576:=by have:=hL0.out;omega
 clear h0 h1;by_cases k0:L0<(x.s.size:Nat)
 . go_wp2_with fail;go_ret;exact⟨cp (hf.out (by have:=hL0.out;unfold fA at *;omega)),E0.trans E⟩
 . have a1:0<=L0 - (x.s.size:Nat):=oM;have b10:L0 - (x.s.size:Nat)<=1048576:=oM;have hcall:=aa (DL x.lb (L0 - (x.s.size:Nat)) W0 a1 b10 hs2);by_cases k1:(L0 - (x.s.size:Nat))<(ec x.lb:Nat)
   . have hv:Hid (ak (L0 - (x.s.size:Nat)) (ec x.lb:Nat) = -1):=by show _=_;rw [ak,aw k1]
     rw [hv.out] at hcall;go_wp2_with fail;refine hcall.mono ?_;rintro e w2 ⟨rfl,E2⟩;go_wp2_with fail;go_ret;exact⟨cp (hf.out (by have:=hL0.out;unfold fA at *;omega)),E0.trans (E.trans E2)⟩
   . have hv:Hid (ak (L0 - (x.s.size:Nat)) (ec x.lb:Nat)=(L0 - (x.s.size:Nat)) - (ec x.lb:Nat)):=by show _=_;rw [ak,ar k1]
     rw [hv.out] at hcall;obtain⟨L2,hL2⟩:∃ L:Int,L=(L0 - (x.s.size:Nat)) - (ec x.lb:Nat):=⟨_,rfl⟩;rw [<-hL2] at hcall;have a2:0<=L2:=oM;have b20:L2<=1048576:=oM;replace hL2:=aa hL2;replace k1:=aa k1;go_wp2_with fail;refine hcall.mono ?_;rintro e w2 ⟨rfl,E2⟩;clear hcall;replace E:=E.trans E2;clear g0 l0 E2;have⟨g0,l0⟩:=(b0.ext E).gl;go_wp2_with fail;go_ret;exact⟨cp (ht.out _ (by have:=hL0.out;have:=hL2.out;unfold fA at *;omega) oM),E0.trans E⟩
theorem KD (x:CeD)(p1 p2 p3:OA)(n1 c1 n2 c2 n3 c3 base:Nat)(left:Int)(w:World)(h0:0<=left)(h1:left<=1048576)(hs1:x.s.size<=9223372036854775807)(hx1:x.shs.length=n1)(hn1:n1<=9223372036854775807)(s2:SlD (Fl dL) 4 base w p2 n2 x.lbs)(hn2:n2<=9223372036854775807)(hin:∀ y∈x.lbs,y.s.size<=9223372036854775807)(hx3:x.ins.length=n3)(hn3:n3<=9223372036854775807) :
 CE 146 #[.agg #[.string x.s,sl p1 n1 c1,sl p2 n2 c2,sl p3 n3 c3],left] w (ak left (dM x:Nat):Int):=by
 have ht:Hid (∀ L:Int,L=left - (dM x:Nat)->0<=L->L=ak left (dM x:Nat)):=λ L h1 h2=>by rw [ak,ar oM];exact h1
 have hf:Hid (left<(dM x:Nat)->(-1:Int)=ak left (dM x:Nat)):=λ h=>by rw [ak,aw h]
 go_enter func146,ntmps146;go_upto_region 1 with (fail);generalize hW:World.alloc _ _=W0;obtain⟨E0,z0,b0⟩:=al hW;clear hW z0;replace b0:=du b0;have⟨g0,l0⟩:=b0.gl;have E:=ab W0;obtain⟨L0,hL0⟩:∃ L:Int,L=left:=⟨_,rfl⟩;rw [<-hL0];replace hL0:=aa hL0;have a0:0<=L0:=by have:=hL0.out;omega
 have b00:L0<=1048576:=by have:=hL0.out;omega
 clear h0 h1;by_cases k0:L0<(x.s.size:Nat)
 . go_wp2_with fail;go_ret;exact⟨cp (hf.out (by have:=hL0.out;unfold dM nf at *;omega)),E0.trans E⟩
 . have a1:0<=L0 - (x.s.size:Nat):=oM;have b10:L0 - (x.s.size:Nat)<=1048576:=oM;have hcall:=aa (Kx p1 n1 c1 (L0 - (x.s.size:Nat)) W0 a1 b10 hn1);by_cases k1:(L0 - (x.s.size:Nat))<(n1:Nat)
   . have hv:Hid (ak (L0 - (x.s.size:Nat)) (n1:Nat) = -1):=by show _=_;rw [ak,aw k1]
     rw [hv.out] at hcall;go_wp2_with fail;refine hcall.mono ?_;rintro e w2 ⟨rfl,E2⟩;go_wp2_with fail;go_ret;exact⟨cp (hf.out (by have:=hL0.out;unfold dM nf at *;omega)),E0.trans (E.trans E2)⟩
   . have hv:Hid (ak (L0 - (x.s.size:Nat)) (n1:Nat)=(L0 - (x.s.size:Nat)) - (n1:Nat)):=by show _=_;rw [ak,ar k1]
     rw [hv.out] at hcall;obtain⟨L2,hL2⟩:∃ L:Int,L=(L0 - (x.s.size:Nat)) - (n1:Nat):=⟨_,rfl⟩;rw [<-hL2] at hcall;have a2:0<=L2:=oM;have b20:L2<=1048576:=oM;replace hL2:=aa hL2;replace k1:=aa k1;go_wp2_with fail;refine hcall.mono ?_;rintro e w2 ⟨rfl,E2⟩;clear hcall;replace E:=E.trans E2;clear g0 l0 E2;have⟨g0,l0⟩:=(b0.ext E).gl;have hcall:=aa (Kt p2 n2 c2 base x.lbs L2 w2 (s2.ext okLabel (E0.trans E)) hn2 a2 b20 hin);by_cases k2:L2<(x.lbs.length+aC ec x.lbs:Nat)
     . have hv:Hid (ak L2 (x.lbs.length+aC ec x.lbs:Nat) = -1):=by show _=_;rw [ak,aw k2]
       rw [hv.out] at hcall;go_wp2_with fail;refine hcall.mono ?_;rintro e w3 ⟨rfl,E3⟩;go_wp2_with fail;go_ret;exact⟨cp (hf.out (by have:=hL0.out;have:=hL2.out;unfold dM nf at *;omega)),E0.trans (E.trans E3)⟩
     . have hv:Hid (ak L2 (x.lbs.length+aC ec x.lbs:Nat)=L2 - (x.lbs.length+aC ec x.lbs:Nat)):=by show _=_;rw [ak,ar k2]
       rw [hv.out] at hcall;obtain⟨L3,hL3⟩:∃ L:Int,L=L2 - (x.lbs.length+aC ec x.lbs:Nat):=⟨_,rfl⟩;rw [<-hL3] at hcall;have a3:0<=L3:=oM;have b30:L3<=1048576:=oM;replace hL3:=aa hL3;replace k2:=aa k2;go_wp2_with fail;refine hcall.mono ?_;rintro e w3 ⟨rfl,E3⟩;clear hcall;replace E:=E.trans E3;clear g0 l0 E3;have⟨g0,l0⟩:=(b0.ext E).gl;have hcall:=aa (Ky p3 n3 c3 L3 w3 a3 b30 hn3);by_cases k3:L3<(n3:Nat)
       . have hv:Hid (ak L3 (n3:Nat) = -1):=by show _=_;rw [ak,aw k3]
         rw [hv.out] at hcall;go_wp2_with fail;refine hcall.mono ?_;rintro e w4 ⟨rfl,E4⟩;go_wp2_with fail;go_ret;exact⟨cp (hf.out (by have:=hL0.out;have:=hL2.out;have:=hL3.out;unfold dM nf at *;omega)),E0.trans (E.trans E4)⟩
       . have hv:Hid (ak L3 (n3:Nat)=L3 - (n3:Nat)):=by show _=_;rw [ak,ar k3]
         rw [hv.out] at hcall;obtain⟨L4,hL4⟩:∃ L:Int,L=L3 - (n3:Nat):=⟨_,rfl⟩;rw [<-hL4] at hcall;have a4:0<=L4:=oM;have b40:L4<=1048576:=oM;replace hL4:=aa hL4;replace k3:=aa k3;go_wp2_with fail;refine hcall.mono ?_;rintro e w4 ⟨rfl,E4⟩;clear hcall;replace E:=E.trans E4;clear g0 l0 E4;have⟨g0,l0⟩:=(b0.ext E).gl;go_wp2_with fail;go_ret;exact⟨cp (ht.out _ (by have:=hL0.out;have:=hL2.out;have:=hL3.out;have:=hL4.out;unfold dM nf at *;omega) oM),E0.trans E⟩
def qY (l:List DvD):Nat:=l.length+aC er l
def jd (l:List CeD):Nat:=l.length+aC dM l
def n9 (l:List (List EdD)):Nat:=l.length+aC eo l
def og (l:List WvD):Nat:=l.length+aC fe l
def qZ (l:List PoD):Nat:=l.length+aC ff l
def iH (x:NlD):Nat:=qY x.devs+qZ x.ports
def ie (x:EtD):Nat:=jd x.cells+(n9 x.undos+n9 x.redos)
def ga (x:SeD):Nat:=ie x.ed+(x.rules.length+(og x.waivers+iH x.nl))
def pE (x:DvD):Prop:=x.pins.length<=9223372036854775807
def oh (x:EdD):Prop:=x.s.size<=9223372036854775807/\x.lb.s.size<=9223372036854775807
def jA (l:List EdD):Prop:=l.length<=9223372036854775807/\∀ x∈l,oh x
def dp (x:CeD):Prop:=x.s.size<=9223372036854775807/\x.shs.length<=9223372036854775807/\x.lbs.length<=9223372036854775807/\(∀ y∈x.lbs,y.s.size<=9223372036854775807)/\x.ins.length<=9223372036854775807
def ws (x:EtD):Prop:=x.cells.length<=9223372036854775807/\(∀ y∈x.cells,dp y)/\x.undos.length<=9223372036854775807/\(∀ y∈x.undos,jA y)/\x.redos.length<=9223372036854775807/\∀ y∈x.redos,jA y
def wt (x:NlD):Prop:=x.devs.length<=9223372036854775807/\(∀ y∈x.devs,pE y)/\x.ports.length<=9223372036854775807/\∀ y∈x.ports,y.s.size<=9223372036854775807
def lu (x:SeD):Prop:=ws x.ed/\x.rules.length<=9223372036854775807/\(x.waivers.length<=9223372036854775807/\∀ y∈x.waivers,y.s.size<=9223372036854775807)/\wt x.nl
theorem KE (p:OA)(n c base:Nat)(l:List DvD)(left:Int)(w:World)(h:SlD DvR 4 base w p n l)(hn:n<=9223372036854775807)(h0:0<=left)(h1:left<=1048576)(hin:∀ x∈l,pE x) :
 CE 42 #[sl p n c,left] w (ak left (l.length+aC er l:Nat):Int):=by
 have hl:=aa h.length;replace hin:=aa hin;by_cases hln:left<n
 . have hr:Hid (-1=ak left (l.length+aC er l:Nat)):=by show _=_;rw [ak,hl.out,aw oM]
   go_enter func42,ntmps42;exact mh
 . go_enter func42,ntmps42;go_wp2;go_loopw [1,5] (λ lv i wr=>∃ (k:Nat) (L:Int),k<=n/\i=.int .i64 k/\lv=.int .i64 L/\Hid (L=left - n - aC er (l.take k))/\0<=L/\L<=1048576/\Ext w wr) (λ _ i _=>n - (intOf i).toNat)
   case atStart=>exact⟨0,left - n,oM,rfl,rfl,by show _=_;simp [aC],oM,oM,ab _⟩
   case round =>
    obtain⟨k,L,hk,rfl,rfl,hL,hL0,hL1,hE⟩:=hrel;by_cases hlt:k<n
    . have hltI:(k:Int)<n:=oM;obtain⟨b,off,x,cs,rfl,hb,hx,hcs,hc⟩:=(h.ext aL25 hE).get hlt;have hm:=aa (hin.out x (ap hx.out));have hst:=aa (nY (f:=er) hx.out);have hle:=aa (nZ er l (k+1));obtain⟨p1,n1,c1,rfl,s1⟩:=hcs;have y0:=hc 0 _ rfl;rw [aq] at y0;have y1:=hc 1 _ rfl;have y2:=hc 2 _ rfl;have y3:=hc 3 _ rfl;clear hc;have hcall:=aa (KA x p1 n1 c1 L wr hL0 hL1 s1.length (by have:=s1.length;have:=hm.out;unfold pE at this;omega));by_cases hlx:L<(er x:Nat)
      . have hr:Hid (-1=ak left (l.length+aC er l:Nat)):=by
         exact nO
        have hv:Hid (ak L (er x:Nat) = -1):=by show _=_;rw [ak,aw hlx]
        exact pn
      . have hv:Hid (ak L (er x:Nat)=L - (er x:Nat)):=by show _=_;rw [ak,ar hlx]
        rw [hv.out] at hcall;obtain⟨L2,hL2⟩:∃ L2:Int,L2=L - (er x:Nat):=⟨_,rfl⟩;exact pl
    . obtain rfl:k=n:=oM;have hr:Hid (L=ak left (l.length+aC er l:Nat)):=nN
      exact nP
theorem KF (p:OA)(n c base:Nat)(l:List EdD)(left:Int)(w:World)(h:SlD (Fl am) 21 base w p n l)(hn:n<=9223372036854775807)(h0:0<=left)(h1:left<=1048576)(hin:∀ x∈l,oh x) :
 CE 87 #[sl p n c,left] w (ak left (l.length+aC fA l:Nat):Int):=by
 have hl:=aa h.length;replace hin:=aa hin;have hsL:=aa DH;by_cases hln:left<n
 . have hr:Hid (-1=ak left (l.length+aC fA l:Nat)):=by show _=_;rw [ak,hl.out,aw oM]
   go_enter func87,ntmps87;exact mh
 . go_enter func87,ntmps87;go_wp2;go_loopw [1,5] (λ lv i wr=>∃ (k:Nat) (L:Int),k<=n/\i=.int .i64 k/\lv=.int .i64 L/\Hid (L=left - n - aC fA (l.take k))/\0<=L/\L<=1048576/\Ext w wr) (λ _ i _=>n - (intOf i).toNat)
   case atStart=>exact⟨0,left - n,oM,rfl,rfl,by show _=_;simp [aC],oM,oM,ab _⟩
   case round =>
    obtain⟨k,L,hk,rfl,rfl,hL,hL0,hL1,hE⟩:=hrel;by_cases hlt:k<n
    . have hltI:(k:Int)<n:=oM;obtain⟨b,off,x,cs,rfl,hb,hx,hcs,hc⟩:=(h.ext okEdit hE).get hlt;have hm:=aa (hin.out x (ap hx.out));have hst:=aa (nY (f:=fA) hx.out);have hle:=aa (nZ fA l (k+1));obtain rfl:cs=am x:=hcs;have hrr:=aa (show wr.rangeAt b (off+k*21) (am x) from hc);clear hc;have hcall:=aa (KB x L wr hL0 hL1 hm.1 hm.2);by_cases hlx:L<(fA x:Nat)
      . have hr:Hid (-1=ak left (l.length+aC fA l:Nat)):=by
         exact nO
        have hv:Hid (ak L (fA x:Nat) = -1):=by show _=_;rw [ak,aw hlx]
        rw [hv.out] at hcall;go_wp2_with (refine cy rfl 224 (Operand.tmp 20) rfl b (off+k*21) rfl (am x) _ hrr.out underlying224 rfl hsL.out ?_);exact Cl
      . have hv:Hid (ak L (fA x:Nat)=L - (fA x:Nat)):=by show _=_;rw [ak,ar hlx]
        rw [hv.out] at hcall;obtain⟨L2,hL2⟩:∃ L2:Int,L2=L - (fA x:Nat):=⟨_,rfl⟩;rw [<-hL2] at hcall;have hb0:0<=L2:=oM;have hb1:L2<=1048576:=oM;replace hL2:=aa hL2;go_wp2_with (refine cy rfl 224 (Operand.tmp 20) rfl b (off+k*21) rfl (am x) _ hrr.out underlying224 rfl hsL.out ?_);exact B7
    . obtain rfl:k=n:=oM;have hr:Hid (L=ak left (l.length+aC fA l:Nat)):=nN
      exact nP
theorem KG (p:OA)(n c base:Nat)(l:List EdD)(left:Int)(w:World)(h:SlD (Fl am) 21 base w p n l)(hn:n<=9223372036854775807)(h0:0<=left)(h1:left<=1048576)(hin:∀ x∈l,oh x) :
 CE 87 #[sl p n c,left] w (ak left (eo l:Nat):Int):=KF p n c base l left w h hn h0 h1 hin
theorem KH (p:OA)(n c base:Nat)(l:List CeD)(left:Int)(w:World)(h:SlD CeR 4 base w p n l)(hn:n<=9223372036854775807)(h0:0<=left)(h1:left<=1048576)(hin:∀ x∈l,dp x) :
 CE 86 #[sl p n c,left] w (ak left (l.length+aC dM l:Nat):Int):=by
 have hl:=aa h.length;replace hin:=aa hin;by_cases hln:left<n
 . have hr:Hid (-1=ak left (l.length+aC dM l:Nat)):=by show _=_;rw [ak,hl.out,aw oM]
   go_enter func86,ntmps86;exact mh
 . go_enter func86,ntmps86;go_wp2;go_loopw [1,5] (λ lv i wr=>∃ (k:Nat) (L:Int),k<=n/\i=.int .i64 k/\lv=.int .i64 L/\Hid (L=left - n - aC dM (l.take k))/\0<=L/\L<=1048576/\Ext w wr) (λ _ i _=>n - (intOf i).toNat)
   case atStart=>exact⟨0,left - n,oM,rfl,rfl,by show _=_;simp [aC],oM,oM,ab _⟩
   case round =>
    obtain⟨k,L,hk,rfl,rfl,hL,hL0,hL1,hE⟩:=hrel;by_cases hlt:k<n
    . have hltI:(k:Int)<n:=oM;obtain⟨b,off,x,cs,rfl,hb,hx,hcs,hc⟩:=(h.ext aL6 hE).get hlt;have hm:=aa (hin.out x (ap hx.out));have hst:=aa (nY (f:=dM) hx.out);have hle:=aa (nZ dM l (k+1));obtain⟨p1,n1,c1,p2,n2,c2,p3,n3,c3,rfl,s1,s2,s3⟩:=hcs;have y0:=hc 0 _ rfl;rw [aq] at y0;have y1:=hc 1 _ rfl;have y2:=hc 2 _ rfl;have y3:=hc 3 _ rfl;clear hc;have hcall:=aa (KD x p1 p2 p3 n1 c1 n2 c2 n3 c3 base L wr hL0 hL1 hm.1 s1.length (by have:=s1.length;have:=hm.2.1;omega) s2 (by have:=s2.length;have:=hm.2.2.1;omega) hm.2.2.2.1 s3.length (by have:=s3.length;have:=hm.2.2.2.2;omega));by_cases hlx:L<(dM x:Nat)
      . have hr:Hid (-1=ak left (l.length+aC dM l:Nat)):=by
         exact nO
        have hv:Hid (ak L (dM x:Nat) = -1):=by show _=_;rw [ak,aw hlx]
        exact pn
      . have hv:Hid (ak L (dM x:Nat)=L - (dM x:Nat)):=by show _=_;rw [ak,ar hlx]
        rw [hv.out] at hcall;obtain⟨L2,hL2⟩:∃ L2:Int,L2=L - (dM x:Nat):=⟨_,rfl⟩;exact pl
    . obtain rfl:k=n:=oM;have hr:Hid (L=ak left (l.length+aC dM l:Nat)):=nN
      exact nP
theorem DM (p:OA)(n c base:Nat)(l:List (List EdD))(left:Int)(w:World)(h:SlD (RwD (Fl am) 21) 1 base w p n l)(hn:n<=9223372036854775807)(h0:0<=left)(h1:left<=1048576)(hin:∀ x∈l,jA x) :
 CE 39 #[sl p n c,left] w (ak left (l.length+aC eo l:Nat):Int):=by
 have hl:=aa h.length;replace hin:=aa hin;by_cases hln:left<n
 . have hr:Hid (-1=ak left (l.length+aC eo l:Nat)):=by show _=_;rw [ak,hl.out,aw oM]
   go_enter func39,ntmps39;exact mh
 . go_enter func39,ntmps39;go_wp2;go_loopw [1,5] (λ lv i wr=>∃ (k:Nat) (L:Int),k<=n/\i=.int .i64 k/\lv=.int .i64 L/\Hid (L=left - n - aC eo (l.take k))/\0<=L/\L<=1048576/\Ext w wr) (λ _ i _=>n - (intOf i).toNat)
   case atStart=>exact⟨0,left - n,oM,rfl,rfl,by show _=_;simp [aC],oM,oM,ab _⟩
   case round =>
    obtain⟨k,L,hk,rfl,rfl,hL,hL0,hL1,hE⟩:=hrel;by_cases hlt:k<n
    . have hltI:(k:Int)<n:=oM;obtain⟨b,off,x,cs,rfl,hb,hx,hcs,hc⟩:=(h.ext (az okEdit) hE).get hlt;have hm:=aa (hin.out x (ap hx.out));have hst:=aa (nY (f:=eo) hx.out);have hle:=aa (nZ eo l (k+1));obtain⟨p1,n1,c1,rfl,s1⟩:=hcs;have y0:=hc 0 _ rfl;rw [aq,aZ] at y0;clear hc;have hcall:=aa (KG p1 n1 c1 base x L wr s1 (by have:=s1.length;have:=hm.1;omega) hL0 hL1 hm.2);by_cases hlx:L<(eo x:Nat)
      . have hr:Hid (-1=ak left (l.length+aC eo l:Nat)):=by
         exact nO
        have hv:Hid (ak L (eo x:Nat) = -1):=by show _=_;rw [ak,aw hlx]
        exact pn
      . have hv:Hid (ak L (eo x:Nat)=L - (eo x:Nat)):=by show _=_;rw [ak,ar hlx]
        rw [hv.out] at hcall;obtain⟨L2,hL2⟩:∃ L2:Int,L2=L - (eo x:Nat):=⟨_,rfl⟩;exact pl
    . obtain rfl:k=n:=oM;have hr:Hid (L=ak left (l.length+aC eo l:Nat)):=nN
      exact nP
theorem KI (l:List CeD)(p1:OA)(n1 c1 base:Nat)(left:Int)(w:World)(h0:0<=left)(h1:left<=1048576)(s1:SlD CeR 4 base w p1 n1 l)(hn1:n1<=9223372036854775807)(hi1:∀ y∈l,dp y) :
 CE 38 #[.agg #[sl p1 n1 c1],left] w (ak left (jd l:Nat):Int):=by
 have ht:Hid (∀ L:Int,L=left - (jd l:Nat)->0<=L->L=ak left (jd l:Nat)):=λ L h1 h2=>by rw [ak,ar oM];exact h1
 have hf:Hid (left<(jd l:Nat)->(-1:Int)=ak left (jd l:Nat)):=λ h=>by rw [ak,aw h]
 go_enter func38,ntmps38;go_upto_region 1 with (fail);generalize hW:World.alloc _ _=W0;obtain⟨E0,z0,b0⟩:=al hW;clear hW z0;replace b0:=cC b0;have⟨g0,l0⟩:=b0.gl;have E:=ab W0;obtain⟨L0,hL0⟩:∃ L:Int,L=left:=⟨_,rfl⟩;rw [<-hL0];replace hL0:=aa hL0;have a0:0<=L0:=by have:=hL0.out;omega
 have b00:L0<=1048576:=by have:=hL0.out;omega
 clear h0 h1;have hcall:=aa (KH p1 n1 c1 base l L0 W0 (s1.ext aL6 (E0.trans E)) hn1 a0 b00 hi1);by_cases k0:L0<(l.length+aC dM l:Nat)
 . have hv:Hid (ak L0 (l.length+aC dM l:Nat) = -1):=by show _=_;rw [ak,aw k0]
   rw [hv.out] at hcall;go_wp2_with fail;refine hcall.mono ?_;rintro e w1 ⟨rfl,E1⟩;go_wp2_with fail;go_ret;exact⟨cp (hf.out (by have:=hL0.out;unfold jd at *;omega)),E0.trans (E.trans E1)⟩
 . have hv:Hid (ak L0 (l.length+aC dM l:Nat)=L0 - (l.length+aC dM l:Nat)):=by show _=_;rw [ak,ar k0]
   rw [hv.out] at hcall;obtain⟨L1,hL1⟩:∃ L:Int,L=L0 - (l.length+aC dM l:Nat):=⟨_,rfl⟩;rw [<-hL1] at hcall;have a1:0<=L1:=oM;have b10:L1<=1048576:=oM;replace hL1:=aa hL1;replace k0:=aa k0;go_wp2_with fail;refine hcall.mono ?_;rintro e w1 ⟨rfl,E1⟩;clear hcall;replace E:=E.trans E1;clear g0 l0 E1;have⟨g0,l0⟩:=(b0.ext E).gl;go_wp2_with fail;go_ret;exact⟨cp (ht.out _ (by have:=hL0.out;have:=hL1.out;unfold jd at *;omega) oM),E0.trans E⟩
theorem KJ (x:EtD)(p1 p2 p3:OA)(n1 c1 n2 c2 n3 c3 base:Nat)(left:Int)(w:World)(h0:0<=left)(h1:left<=1048576)(s1:SlD CeR 4 base w p1 n1 x.cells)(hn1:n1<=9223372036854775807)(hi1:∀ y∈x.cells,dp y)(s2:SlD (RwD (Fl am) 21) 1 base w p2 n2 x.undos)(hn2:n2<=9223372036854775807)(hi2:∀ y∈x.undos,jA y)(s3:SlD (RwD (Fl am) 21) 1 base w p3 n3 x.redos)(hn3:n3<=9223372036854775807)(hi3:∀ y∈x.redos,jA y) :
 CE 13 #[.agg #[sl p1 n1 c1,sl p2 n2 c2,sl p3 n3 c3],left] w (ak left (ie x:Nat):Int):=by
 have ht:Hid (∀ L:Int,L=left - (ie x:Nat)->0<=L->L=ak left (ie x:Nat)):=λ L h1 h2=>by rw [ak,ar oM];exact h1
 have hf:Hid (left<(ie x:Nat)->(-1:Int)=ak left (ie x:Nat)):=λ h=>by rw [ak,aw h]
 go_enter func13,ntmps13;go_upto_region 1 with (fail);generalize hW:World.alloc _ _=W0;obtain⟨E0,z0,b0⟩:=al hW;clear hW z0;replace b0:=eQ b0;have⟨g0,l0⟩:=b0.gl;have E:=ab W0;obtain⟨L0,hL0⟩:∃ L:Int,L=left:=⟨_,rfl⟩;rw [<-hL0];replace hL0:=aa hL0;have a0:0<=L0:=by have:=hL0.out;omega
 have b00:L0<=1048576:=by have:=hL0.out;omega
 clear h0 h1;have hcall:=aa (KI x.cells p1 n1 c1 base L0 W0 a0 b00 (s1.ext aL6 (E0.trans E)) hn1 hi1);by_cases k0:L0<(jd x.cells:Nat)
 . have hv:Hid (ak L0 (jd x.cells:Nat) = -1):=by show _=_;rw [ak,aw k0]
   rw [hv.out] at hcall;go_wp2_with fail;refine hcall.mono ?_;rintro e w1 ⟨rfl,E1⟩;go_wp2_with fail;go_ret;exact⟨cp (hf.out (by have:=hL0.out;unfold ie n9 at *;omega)),E0.trans (E.trans E1)⟩
 . have hv:Hid (ak L0 (jd x.cells:Nat)=L0 - (jd x.cells:Nat)):=by show _=_;rw [ak,ar k0]
   rw [hv.out] at hcall;obtain⟨L1,hL1⟩:∃ L:Int,L=L0 - (jd x.cells:Nat):=⟨_,rfl⟩;rw [<-hL1] at hcall;have a1:0<=L1:=oM;have b10:L1<=1048576:=oM;replace hL1:=aa hL1;replace k0:=aa k0;go_wp2_with fail;refine hcall.mono ?_;rintro e w1 ⟨rfl,E1⟩;clear hcall;replace E:=E.trans E1;clear g0 l0 E1;have⟨g0,l0⟩:=(b0.ext E).gl;have hcall:=aa (DM p2 n2 c2 base x.undos L1 w1 (s2.ext (az okEdit) (E0.trans E)) hn2 a1 b10 hi2);by_cases k1:L1<(x.undos.length+aC eo x.undos:Nat)
   . have hv:Hid (ak L1 (x.undos.length+aC eo x.undos:Nat) = -1):=by show _=_;rw [ak,aw k1]
     rw [hv.out] at hcall;go_wp2_with fail;refine hcall.mono ?_;rintro e w2 ⟨rfl,E2⟩;go_wp2_with fail;go_ret;exact⟨cp (hf.out (by have:=hL0.out;have:=hL1.out;unfold ie n9 at *;omega)),E0.trans (E.trans E2)⟩
   . have hv:Hid (ak L1 (x.undos.length+aC eo x.undos:Nat)=L1 - (x.undos.length+aC eo x.undos:Nat)):=by show _=_;rw [ak,ar k1]
     rw [hv.out] at hcall;obtain⟨L2,hL2⟩:∃ L:Int,L=L1 - (x.undos.length+aC eo x.undos:Nat):=⟨_,rfl⟩;rw [<-hL2] at hcall;have a2:0<=L2:=oM;have b20:L2<=1048576:=oM;replace hL2:=aa hL2;replace k1:=aa k1;go_wp2_with fail;refine hcall.mono ?_;rintro e w2 ⟨rfl,E2⟩;clear hcall;replace E:=E.trans E2;clear g0 l0 E2;have⟨g0,l0⟩:=(b0.ext E).gl;have hcall:=aa (DM p3 n3 c3 base x.redos L2 w2 (s3.ext (az okEdit) (E0.trans E)) hn3 a2 b20 hi3);by_cases k2:L2<(x.redos.length+aC eo x.redos:Nat)
     . have hv:Hid (ak L2 (x.redos.length+aC eo x.redos:Nat) = -1):=by show _=_;rw [ak,aw k2]
       rw [hv.out] at hcall;go_wp2_with fail;refine hcall.mono ?_;rintro e w3 ⟨rfl,E3⟩;go_wp2_with fail;go_ret;exact⟨cp (hf.out (by have:=hL0.out;have:=hL1.out;have:=hL2.out;unfold ie n9 at *;omega)),E0.trans (E.trans E3)⟩
     . have hv:Hid (ak L2 (x.redos.length+aC eo x.redos:Nat)=L2 - (x.redos.length+aC eo x.redos:Nat)):=by show _=_;rw [ak,ar k2]
       rw [hv.out] at hcall;obtain⟨L3,hL3⟩:∃ L:Int,L=L2 - (x.redos.length+aC eo x.redos:Nat):=⟨_,rfl⟩;rw [<-hL3] at hcall;have a3:0<=L3:=oM;have b30:L3<=1048576:=oM;replace hL3:=aa hL3;replace k2:=aa k2;go_wp2_with fail;refine hcall.mono ?_;rintro e w3 ⟨rfl,E3⟩;clear hcall;replace E:=E.trans E3;clear g0 l0 E3;have⟨g0,l0⟩:=(b0.ext E).gl;go_wp2_with fail;go_ret;exact⟨cp (ht.out _ (by have:=hL0.out;have:=hL1.out;have:=hL2.out;have:=hL3.out;unfold ie n9 at *;omega) oM),E0.trans E⟩
theorem KK (l:List RuD)(p1:OA)(n1 c1:Nat)(left:Int)(w:World)(h0:0<=left)(h1:left<=1048576)(hx1:l.length=n1)(hn1:n1<=9223372036854775807) :
 CE 14 #[.agg #[sl p1 n1 c1],left] w (ak left (l.length:Nat):Int):=by
 have ht:Hid (∀ L:Int,L=left - (l.length:Nat)->0<=L->L=ak left (l.length:Nat)):=λ L h1 h2=>by rw [ak,ar oM];exact h1
 have hf:Hid (left<(l.length:Nat)->(-1:Int)=ak left (l.length:Nat)):=λ h=>by rw [ak,aw h]
 go_enter func14,ntmps14;go_upto_region 1 with (fail);generalize hW:World.alloc _ _=W0;obtain⟨E0,z0,b0⟩:=al hW;clear hW z0;replace b0:=cC b0;have⟨g0,l0⟩:=b0.gl;have E:=ab W0;obtain⟨L0,hL0⟩:∃ L:Int,L=left:=⟨_,rfl⟩;rw [<-hL0];replace hL0:=aa hL0;have a0:0<=L0:=by have:=hL0.out;omega
 have b00:L0<=1048576:=by have:=hL0.out;omega
 clear h0 h1;have hcall:=aa (Kz p1 n1 c1 L0 W0 a0 b00 hn1);by_cases k0:L0<(n1:Nat)
 . have hv:Hid (ak L0 (n1:Nat) = -1):=by show _=_;rw [ak,aw k0]
   rw [hv.out] at hcall;go_wp2_with fail;refine hcall.mono ?_;rintro e w1 ⟨rfl,E1⟩;go_wp2_with fail;go_ret;exact⟨cp (hf.out (by have:=hL0.out; omega)),E0.trans (E.trans E1)⟩
 . have hv:Hid (ak L0 (n1:Nat)=L0 - (n1:Nat)):=by show _=_;rw [ak,ar k0]
   rw [hv.out] at hcall;obtain⟨L1,hL1⟩:∃ L:Int,L=L0 - (n1:Nat):=⟨_,rfl⟩;rw [<-hL1] at hcall;have a1:0<=L1:=oM;have b10:L1<=1048576:=oM;replace hL1:=aa hL1;replace k0:=aa k0;go_wp2_with fail;refine hcall.mono ?_;rintro e w1 ⟨rfl,E1⟩;clear hcall;replace E:=E.trans E1;clear g0 l0 E1;have⟨g0,l0⟩:=(b0.ext E).gl;go_wp2_with fail;go_ret;exact⟨cp (ht.out _ (by have:=hL0.out;have:=hL1.out; omega) oM),E0.trans E⟩
theorem KM (x:NlD)(p1 p2:OA)(n1 c1 n2 c2 base:Nat)(left:Int)(w:World)(h0:0<=left)(h1:left<=1048576)(s1:SlD DvR 4 base w p1 n1 x.devs)(hn1:n1<=9223372036854775807)(hi1:∀ y∈x.devs,pE y)(s2:SlD (Fl cD) 2 base w p2 n2 x.ports)(hn2:n2<=9223372036854775807)(hi2:∀ y∈x.ports,y.s.size<=9223372036854775807) :
 CE 16 #[.agg #[x.nets,sl p1 n1 c1,sl p2 n2 c2],left] w (ak left (iH x:Nat):Int):=by
 have ht:Hid (∀ L:Int,L=left - (iH x:Nat)->0<=L->L=ak left (iH x:Nat)):=λ L h1 h2=>by rw [ak,ar oM];exact h1
 have hf:Hid (left<(iH x:Nat)->(-1:Int)=ak left (iH x:Nat)):=λ h=>by rw [ak,aw h]
 go_enter func16,ntmps16;go_upto_region 1 with (fail);generalize hW:World.alloc _ _=W0;obtain⟨E0,z0,b0⟩:=al hW;clear hW z0;replace b0:=eQ b0;have⟨g0,l0⟩:=b0.gl;have E:=ab W0;obtain⟨L0,hL0⟩:∃ L:Int,L=left:=⟨_,rfl⟩;rw [<-hL0];replace hL0:=aa hL0;have a0:0<=L0:=by have:=hL0.out;omega
 have b00:L0<=1048576:=by have:=hL0.out;omega
 clear h0 h1;have hcall:=aa (KE p1 n1 c1 base x.devs L0 W0 (s1.ext aL25 (E0.trans E)) hn1 a0 b00 hi1);by_cases k0:L0<(x.devs.length+aC er x.devs:Nat)
 . have hv:Hid (ak L0 (x.devs.length+aC er x.devs:Nat) = -1):=by show _=_;rw [ak,aw k0]
   rw [hv.out] at hcall;go_wp2_with fail;refine hcall.mono ?_;rintro e w1 ⟨rfl,E1⟩;go_wp2_with fail;go_ret;exact⟨cp (hf.out (by have:=hL0.out;unfold iH qY qZ at *;omega)),E0.trans (E.trans E1)⟩
 . have hv:Hid (ak L0 (x.devs.length+aC er x.devs:Nat)=L0 - (x.devs.length+aC er x.devs:Nat)):=by show _=_;rw [ak,ar k0]
   rw [hv.out] at hcall;obtain⟨L1,hL1⟩:∃ L:Int,L=L0 - (x.devs.length+aC er x.devs:Nat):=⟨_,rfl⟩;rw [<-hL1] at hcall;have a1:0<=L1:=oM;have b10:L1<=1048576:=oM;replace hL1:=aa hL1;replace k0:=aa k0;go_wp2_with fail;refine hcall.mono ?_;rintro e w1 ⟨rfl,E1⟩;clear hcall;replace E:=E.trans E1;clear g0 l0 E1;have⟨g0,l0⟩:=(b0.ext E).gl;have hcall:=aa (Kv p2 n2 c2 base x.ports L1 w1 (s2.ext bw (E0.trans E)) hn2 a1 b10 hi2);by_cases k1:L1<(x.ports.length+aC ff x.ports:Nat)
   . have hv:Hid (ak L1 (x.ports.length+aC ff x.ports:Nat) = -1):=by show _=_;rw [ak,aw k1]
     rw [hv.out] at hcall;go_wp2_with fail;refine hcall.mono ?_;rintro e w2 ⟨rfl,E2⟩;go_wp2_with fail;go_ret;exact⟨cp (hf.out (by have:=hL0.out;have:=hL1.out;unfold iH qY qZ at *;omega)),E0.trans (E.trans E2)⟩
   . have hv:Hid (ak L1 (x.ports.length+aC ff x.ports:Nat)=L1 - (x.ports.length+aC ff x.ports:Nat)):=by show _=_;rw [ak,ar k1]
     rw [hv.out] at hcall;obtain⟨L2,hL2⟩:∃ L:Int,L=L1 - (x.ports.length+aC ff x.ports:Nat):=⟨_,rfl⟩;rw [<-hL2] at hcall;have a2:0<=L2:=oM;have b20:L2<=1048576:=oM;replace hL2:=aa hL2;replace k1:=aa k1;go_wp2_with fail;refine hcall.mono ?_;rintro e w2 ⟨rfl,E2⟩;clear hcall;replace E:=E.trans E2;clear g0 l0 E2;have⟨g0,l0⟩:=(b0.ext E).gl;go_wp2_with fail;go_ret;exact⟨cp (ht.out _ (by have:=hL0.out;have:=hL1.out;have:=hL2.out;unfold iH qY qZ at *;omega) oM),E0.trans E⟩
theorem DN (x:SeD)(p1 p2 p3 p4 p5 p6 p7:OA)(n1 c1 n2 c2 n3 c3 n4 c4 n5 c5 n6 c6 n7 c7 base:Nat)(left:Int)(w:World)(h0:0<=left)(h1:left<=1048576)(s1:SlD CeR 4 base w p1 n1 x.ed.cells)(hn1:n1<=9223372036854775807)(hi1:∀ y∈x.ed.cells,dp y)(s2:SlD (RwD (Fl am) 21) 1 base w p2 n2 x.ed.undos)(hn2:n2<=9223372036854775807)(hi2:∀ y∈x.ed.undos,jA y)(s3:SlD (RwD (Fl am) 21) 1 base w p3 n3 x.ed.redos)(hn3:n3<=9223372036854775807)(hi3:∀ y∈x.ed.redos,jA y)(hx4:x.rules.length=n4)(hn4:n4<=9223372036854775807)(s5:SlD (Fl cj) 2 base w p5 n5 x.waivers)(hn5:n5<=9223372036854775807)(hi5:∀ y∈x.waivers,y.s.size<=9223372036854775807)(s6:SlD DvR 4 base w p6 n6 x.nl.devs)(hn6:n6<=9223372036854775807)(hi6:∀ y∈x.nl.devs,pE y)(s7:SlD (Fl cD) 2 base w p7 n7 x.nl.ports)(hn7:n7<=9223372036854775807)(hi7:∀ y∈x.nl.ports,y.s.size<=9223372036854775807) :
 CE 4 #[.agg #[sl p1 n1 c1,sl p2 n2 c2,sl p3 n3 c3,sl p4 n4 c4,sl p5 n5 c5,x.nl.nets,sl p6 n6 c6,sl p7 n7 c7],left] w (ak left (ga x:Nat):Int):=by
 have ht:Hid (∀ L:Int,L=left - (ga x:Nat)->0<=L->L=ak left (ga x:Nat)):=λ L h1 h2=>by rw [ak,ar oM];exact h1
 have hf:Hid (left<(ga x:Nat)->(-1:Int)=ak left (ga x:Nat)):=λ h=>by rw [ak,aw h]
 go_enter func4,ntmps4;go_upto_region 1 with (fail);generalize hW:World.alloc _ _=W0;obtain⟨E0,z0,b0⟩:=al hW;clear hW z0;replace b0:=gG b0;have⟨g0,l0⟩:=b0.gl;have E:=ab W0;obtain⟨L0,hL0⟩:∃ L:Int,L=left:=⟨_,rfl⟩;rw [<-hL0];replace hL0:=aa hL0;have a0:0<=L0:=by have:=hL0.out;omega
 have b00:L0<=1048576:=by have:=hL0.out;omega
 clear h0 h1;have hcall:=aa (KJ x.ed p1 p2 p3 n1 c1 n2 c2 n3 c3 base L0 W0 a0 b00 (s1.ext aL6 (E0.trans E)) hn1 hi1 (s2.ext (az okEdit) (E0.trans E)) hn2 hi2 (s3.ext (az okEdit) (E0.trans E)) hn3 hi3);by_cases k0:L0<(ie x.ed:Nat)
 . have hv:Hid (ak L0 (ie x.ed:Nat) = -1):=by show _=_;rw [ak,aw k0]
   rw [hv.out] at hcall;go_wp2_with fail;refine hcall.mono ?_;rintro e w1 ⟨rfl,E1⟩;go_wp2_with fail;go_ret;exact⟨cp (hf.out (by have:=hL0.out;unfold ga og at *;omega)),E0.trans (E.trans E1)⟩
 . have hv:Hid (ak L0 (ie x.ed:Nat)=L0 - (ie x.ed:Nat)):=by show _=_;rw [ak,ar k0]
   rw [hv.out] at hcall;obtain⟨L1,hL1⟩:∃ L:Int,L=L0 - (ie x.ed:Nat):=⟨_,rfl⟩;rw [<-hL1] at hcall;have a1:0<=L1:=oM;have b10:L1<=1048576:=oM;replace hL1:=aa hL1;replace k0:=aa k0;go_wp2_with fail;refine hcall.mono ?_;rintro e w1 ⟨rfl,E1⟩;clear hcall;replace E:=E.trans E1;clear g0 l0 E1;have⟨g0,l0⟩:=(b0.ext E).gl;have hcall:=aa (KK x.rules p4 n4 c4 L1 w1 a1 b10 hx4 hn4);by_cases k1:L1<(x.rules.length:Nat)
   . have hv:Hid (ak L1 (x.rules.length:Nat) = -1):=by show _=_;rw [ak,aw k1]
     rw [hv.out] at hcall;go_wp2_with fail;refine hcall.mono ?_;rintro e w2 ⟨rfl,E2⟩;go_wp2_with fail;go_ret;exact⟨cp (hf.out (by have:=hL0.out;have:=hL1.out;unfold ga og at *;omega)),E0.trans (E.trans E2)⟩
   . have hv:Hid (ak L1 (x.rules.length:Nat)=L1 - (x.rules.length:Nat)):=by show _=_;rw [ak,ar k1]
     rw [hv.out] at hcall;obtain⟨L2,hL2⟩:∃ L:Int,L=L1 - (x.rules.length:Nat):=⟨_,rfl⟩;rw [<-hL2] at hcall;have a2:0<=L2:=oM;have b20:L2<=1048576:=oM;replace hL2:=aa hL2;replace k1:=aa k1;go_wp2_with fail;refine hcall.mono ?_;rintro e w2 ⟨rfl,E2⟩;clear hcall;replace E:=E.trans E2;clear g0 l0 E2;have⟨g0,l0⟩:=(b0.ext E).gl;have hcall:=aa (Ku p5 n5 c5 base x.waivers L2 w2 (s5.ext okWaiver (E0.trans E)) hn5 a2 b20 hi5);by_cases k2:L2<(x.waivers.length+aC fe x.waivers:Nat)
     . have hv:Hid (ak L2 (x.waivers.length+aC fe x.waivers:Nat) = -1):=by show _=_;rw [ak,aw k2]
       rw [hv.out] at hcall;go_wp2_with fail;refine hcall.mono ?_;rintro e w3 ⟨rfl,E3⟩;go_wp2_with fail;go_ret;exact⟨cp (hf.out (by have:=hL0.out;have:=hL1.out;have:=hL2.out;unfold ga og at *;omega)),E0.trans (E.trans E3)⟩
     . have hv:Hid (ak L2 (x.waivers.length+aC fe x.waivers:Nat)=L2 - (x.waivers.length+aC fe x.waivers:Nat)):=by show _=_;rw [ak,ar k2]
       rw [hv.out] at hcall;obtain⟨L3,hL3⟩:∃ L:Int,L=L2 - (x.waivers.length+aC fe x.waivers:Nat):=⟨_,rfl⟩;rw [<-hL3] at hcall;have a3:0<=L3:=oM;have b30:L3<=1048576:=oM;replace hL3:=aa hL3;replace k2:=aa k2;go_wp2_with fail;refine hcall.mono ?_;rintro e w3 ⟨rfl,E3⟩;clear hcall;replace E:=E.trans E3;clear g0 l0 E3;have⟨g0,l0⟩:=(b0.ext E).gl;have hcall:=aa (KM x.nl p6 p7 n6 c6 n7 c7 base L3 w3 a3 b30 (s6.ext aL25 (E0.trans E)) hn6 hi6 (s7.ext bw (E0.trans E)) hn7 hi7);by_cases k3:L3<(iH x.nl:Nat)
       . have hv:Hid (ak L3 (iH x.nl:Nat) = -1):=by show _=_;rw [ak,aw k3]
         rw [hv.out] at hcall;go_wp2_with fail;refine hcall.mono ?_;rintro e w4 ⟨rfl,E4⟩;go_wp2_with fail;go_ret;exact⟨cp (hf.out (by have:=hL0.out;have:=hL1.out;have:=hL2.out;have:=hL3.out;unfold ga og at *;omega)),E0.trans (E.trans E4)⟩
       . have hv:Hid (ak L3 (iH x.nl:Nat)=L3 - (iH x.nl:Nat)):=by show _=_;rw [ak,ar k3]
         rw [hv.out] at hcall;obtain⟨L4,hL4⟩:∃ L:Int,L=L3 - (iH x.nl:Nat):=⟨_,rfl⟩;rw [<-hL4] at hcall;have a4:0<=L4:=oM;have b40:L4<=1048576:=oM;replace hL4:=aa hL4;replace k3:=aa k3;go_wp2_with fail;refine hcall.mono ?_;rintro e w4 ⟨rfl,E4⟩;clear hcall;replace E:=E.trans E4;clear g0 l0 E4;have⟨g0,l0⟩:=(b0.ext E).gl;go_wp2_with fail;go_ret;exact⟨cp (ht.out _ (by have:=hL0.out;have:=hL1.out;have:=hL2.out;have:=hL3.out;have:=hL4.out;unfold ga og at *;omega) oM),E0.trans E⟩
end Go.Proofs.YtnlajnpcdnnpmaaGreat
