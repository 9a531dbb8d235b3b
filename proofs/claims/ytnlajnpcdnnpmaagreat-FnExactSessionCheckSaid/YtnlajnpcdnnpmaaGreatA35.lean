/- Part of a proof. No condition. -/
import Derived.Test.YtnlajnpcdnnpmaaGreatA34
namespace Go.Proofs.YtnlajnpcdnnpmaaGreat
set_option linter.all false
set_option maxRecDepth 100000
set_option maxHeartbeats 16000000
open Go.Proofs.Tryz Go.RowKit Go.PlainAid
theorem GR {l:List Q4}{a b:ac}{v:Bool}{j:Nat}{s:Q4}(h:l[j]?=some s)(he:eB a b v s=true):(l.take (j+1)).filter (eB a b v)=(l.take j).filter (eB a b v)++[s]:=sZ
theorem GS {l:List Q4}{a b:ac}{v:Bool}{j:Nat}{s:Q4}(h:l[j]?=some s)(he:eB a b v s=false):(l.take (j+1)).filter (eB a b v)=(l.take j).filter (eB a b v):=sZ
theorem GpI.later {w W W':World}{b3 cr c:Nat}{qr q:OA}{R L:List Q4}(h:GpI w W b3 qr cr R q c L)(E:Ext W W'):GpI w W' b3 qr cr R q c L:=⟨h.ext.trans E,aG h.own E,aG h.run E,h.ne⟩
theorem Pq (a b:ac)(x y:Int):gh (fq (λ p q=>p||q) a b) x y=gh (iT a b) x y:=by
 cases h:ax x y with
 | true=>rw [gc h,fq,iT,iK _ h,gc h,gc h]
 | false=>rw [dr h,dr h]
theorem GT (a b:ac)(v:Bool):dW (eu (fq (λ p q=>p||q) a b)) v=dW (eu (iT a b)) v:=by
 have e:∀ y,ck (eu (fq (λ p q=>p||q) a b)) v y=ck (eu (iT a b)) v y:=λ y=>funext λ i=>by simp only [ck,rV,Pq]
 simp only [dW,ei,e]
theorem Pr (BA BB cA cB:Nat)(a b:ac)(w:World)(hA:Bits w BA a)(hB:Bits w BB b) :
 Calls prog 362 #[sm BA 0 6400 cA,sm BB 0 6400 cB,.bool false] w (bH (fE a b false) w):=by
 obtain⟨i0,hi,hz0,hz1,hz2⟩:=aM iP;obtain⟨j0,hj0,hy0,hy1,hy2⟩:=aM gm;go_enter func362,ntmps362;go_wp2_with (refine ep _ rfl _ _ 238 rfl w 4 i0 _ 1 underlying238 hi hz0 hz1 .i64 .i64 6400 6400 6400 rfl rfl rfl rfl (by rw [hz2];omega) (by unfold maxLen;omega) (ai _) ?_;intro w1 ho hg);rw [gF _ (.bool false) _ (by simp [Value.cells]) (by intro j hj;simp [Value.cells] at hj ⊢;subst hj;rfl),<-gH,uM (λ p q=>p||q) a b] at ho;have hE:Ext w w1:=(ab _).grown hg (λ _ h=>by cases h);clear hg;have hX1:=aa hE;have ho1:=aa ho;clear hE ho;go_wp2_with (fail);go_loopw [8] (λ i wx=>∃ j:Nat,j<=6400/\i=.int .i64 j/\Hid (Ext w wx)/\Hid (wx.ownsRow w 4 1 (sm w 0 6400 6400) 6400 (ag (jr (λ p q=>p||q) a b j)))) (λ i _=>6400 - (intOf i).toNat)
 case atStart=>exact⟨0,oM,rfl,hX1,ho1⟩
 case round =>
  clear hX1 ho1;obtain⟨j,hj,rfl,hX,ho⟩:=hrel;have hbA:=hA.ext hX.out;have hbB:=hB.ext hX.out;have hlA:=hbA.1;have hlB:=hbB.1;by_cases hjt:j<6400
  . exact vn
  . have hjI:¬ (j:Int)<6400:=oM;obtain rfl:j=6400:=oM;rw [uN] at ho;have hbO:=aa (dH ho.out);obtain⟨R,hR⟩:∃ R,Hid (dW (eu (fq (λ p q=>p||q) a b)) false=R):=⟨_,aa rfl⟩;have hR6:Hid (R.length<=6400):=aa (by rw [<-hR.out];exact jn _ _);have hrn:=λ(B2:Nat) (W:World) (h2:Bits W B2 (eu (fq (λ p q=>p||q) a b)))=>GF B2 6400 (eu (fq (λ p q=>p||q) a b)) W h2
    rw [hR.out] at hrn;replace hrn:=aa hrn;clear hbA hbB hlA hlB;go_wp2_with (first | (go_at_call 383;refine (GP w 6400 _ _ hbO.out).mono ?_;rintro e w2 ⟨B2,rfl,o2,E2⟩;have b2:=aa (dH o2);replace E2:=aa E2;clear o2) | (go_at_call 361;refine (hrn.out B2 _ b2.out).mono ?_;rintro e w3 ⟨q3,c3,rfl,o3,E3⟩;replace o3:=aa o3;replace E3:=aa E3) | fail);have hlR:=aa (aS hX.le (aS E2.le E3.le))
    have hI0:Hid (GpI w (w3.alloc (.cells #[] 139)) w2 q3 c3 R (so w3 0) 0 []):=aa ⟨((hX.trans E2.out).trans E3.out).alloc _,fi (dh (size:=4) (aD w3 [] 139) (ai _)) hlR.out,cv o3.out _,λ k hk hr=>by
     have h1:=(o3.lt k hr).2
     cases hk
     exact absurd h1 (Nat.lt_irrefl _)⟩
    clear o3 E3 b2 E2 ho hbO hX;go_loopw [10,11] (λ u z wx=>∃ (j:Nat) (q2:OA) (c2:Nat) (L:List Q4),j<=R.length/\u=sl q2 L.length c2/\z=.int .i64 (j:Int)/\Hid (L=(R.take j).filter (eB a b false))/\Hid (GpI w wx w2 q3 c3 R q2 c2 L)) (λ _ z _=>R.length - (intOf z).toNat)
    case atStart=>exact⟨0,_,_,[],oM,rfl,rfl,aa (by simp),hI0⟩
    case round =>
     clear hI0;obtain⟨j,q2,c2,L,hj,rfl,rfl,hL,hI⟩:=hrel;have hR64:=hR6.out;have hnL:L.length<=6400:=by rw [hL.out];have h1:=jU (eB a b false) (R.take j);have h2:(R.take j).length<=j:=md _ _;omega
     by_cases hjt:j<R.length
     . have hjI:(j:Int)<(R.length:Int):=oM;obtain⟨bq,oq,s,rfl,hbn,hs,c0,c1,c2x,c3x⟩:=(bm (l:=R) cw rfl hI.run).four hjt;have hsv:vR s=true:=(oK (g:=eu (fq (λ p q=>p||q) a b)) (v:=false) (by rw [hR.out];exact ap hs.out)).on;have hen:=aa (λ W=>Po s W hsv);go_upto_region 12 with (first | (go_at_call 384;refine (hen.out _).mono ?_;rintro e w5 ⟨rfl,E5⟩) | fail);generalize hW8:World.alloc (World.alloc _ _) _=W8;obtain⟨E8,z8,b8,b9⟩:=bV hW8;clear hW8 z8;replace b8:=aa (show Blk W8 (w5.heap.size) [(s.a - 1:Int),s.b] _ from b8);replace b9:=aa (show Blk W8 (w5+1) [s.c,s.b] _ from b9);have⟨g8,l8⟩:=b8.gl;have⟨g9,l9⟩:=b9.gl;have hE8:=E5.trans E8;have hI8:=aa (hI.later hE8);have hwW:=aa hI8.ext;have k0:=(hE8.cells bq (oq+j*4) hbn).trans c0;have k1:=(hE8.cells bq (oq+j*4+1) hbn).trans c1;have k2:=(hE8.cells bq (oq+j*4+2) hbn).trans c2x;have k3:=(hE8.cells bq (oq+j*4+3) hbn).trans c3x;have kb:=aF hbn hE8.le;clear c0 c1 c2x c3x hbn E8 E5 hE8;obtain⟨A1,hA1⟩:∃ A1,gh a ((s.a - 1)) (s.b)=A1:=⟨_,rfl⟩;obtain⟨B1,hB1⟩:∃ B1,gh b (s.c) (s.b)=B1:=⟨_,rfl⟩;obtain⟨B2,hB2⟩:∃ B2,gh b ((s.a - 1)) (s.b)=B2:=⟨_,rfl⟩;obtain⟨A2,hA2⟩:∃ A2,gh a (s.c) (s.b)=A2:=⟨_,rfl⟩;have hends:eB a b false s=((A1&&B1)||(B2&&A2)):=by rw [<-hA1,<-hB1,<-hB2,<-hA2];rfl
       have m1:=λ(V:World) (hV:Ext W8 V)=>fU BA cA a ((s.a - 1)) (s.b) V (hA.ext (hwW.trans hV))
       have m2:=λ(V:World) (hV:Ext W8 V)=>fU BB cB b (s.c) (s.b) V (hB.ext (hwW.trans hV))
       have m3:=λ(V:World) (hV:Ext W8 V)=>fU BB cB b ((s.a - 1)) (s.b) V (hB.ext (hwW.trans hV))
       have m4:=λ(V:World) (hV:Ext W8 V)=>fU BA cA a (s.c) (s.b) V (hA.ext (hwW.trans hV))
       rw [hA1] at m1;rw [hB1] at m2;rw [hB2] at m3;rw [hA2] at m4;replace m1:=aa m1;replace m2:=aa m2;replace m3:=aa m3;replace m4:=aa m4;clear hA1 hB1 hB2 hA2 hen;have hsz8:=aa hwW.le
       cases hen:eB a b false s with
       | true => exact zd
       | false => exact zp
     . have hjI:¬ (j:Int)<(R.length:Int):=oM;rw [cz rfl oM] at hL;go_wp2_with (fail);go_ret;have e:L=fE a b false:=by rw [hL.out,<-hR.out,fE,GT]
       exact ta
theorem Ps (BA BB cA cB:Nat)(a b:ac)(w:World)(hA:Bits w BA a)(hB:Bits w BB b) :
 Calls prog 362 #[sm BA 0 6400 cA,sm BB 0 6400 cB,.bool true] w (bH (fE a b true) w):=by
 obtain⟨i0,hi,hz0,hz1,hz2⟩:=aM iP;obtain⟨j0,hj0,hy0,hy1,hy2⟩:=aM gm;go_enter func362,ntmps362;go_wp2_with (refine ep _ rfl _ _ 238 rfl w 4 i0 _ 1 underlying238 hi hz0 hz1 .i64 .i64 6400 6400 6400 rfl rfl rfl rfl (by rw [hz2];omega) (by unfold maxLen;omega) (ai _) ?_;intro w1 ho hg);rw [gF _ (.bool false) _ (by simp [Value.cells]) (by intro j hj;simp [Value.cells] at hj ⊢;subst hj;rfl),<-gH,uM (λ p q=>p||q) a b] at ho;have hE:Ext w w1:=(ab _).grown hg (λ _ h=>by cases h);clear hg;have hX1:=aa hE;have ho1:=aa ho;clear hE ho;go_wp2_with (fail);go_loopw [8] (λ i wx=>∃ j:Nat,j<=6400/\i=.int .i64 j/\Hid (Ext w wx)/\Hid (wx.ownsRow w 4 1 (sm w 0 6400 6400) 6400 (ag (jr (λ p q=>p||q) a b j)))) (λ i _=>6400 - (intOf i).toNat)
 case atStart=>exact⟨0,oM,rfl,hX1,ho1⟩
 case round =>
  clear hX1 ho1;obtain⟨j,hj,rfl,hX,ho⟩:=hrel;have hbA:=hA.ext hX.out;have hbB:=hB.ext hX.out;have hlA:=hbA.1;have hlB:=hbB.1;by_cases hjt:j<6400
  . exact vn
  . have hjI:¬ (j:Int)<6400:=oM;obtain rfl:j=6400:=oM;rw [uN] at ho;have hbO:=aa (dH ho.out);obtain⟨R,hR⟩:∃ R,Hid (dW (eu (fq (λ p q=>p||q) a b)) true=R):=⟨_,aa rfl⟩;have hR6:Hid (R.length<=6400):=aa (by rw [<-hR.out];exact jn _ _);have hrn:=λ(B2:Nat) (W:World) (h2:Bits W B2 (eu (fq (λ p q=>p||q) a b)))=>GG B2 6400 (eu (fq (λ p q=>p||q) a b)) W h2
    rw [hR.out] at hrn;replace hrn:=aa hrn;clear hbA hbB hlA hlB;go_wp2_with (first | (go_at_call 383;refine (GP w 6400 _ _ hbO.out).mono ?_;rintro e w2 ⟨B2,rfl,o2,E2⟩;have b2:=aa (dH o2);replace E2:=aa E2;clear o2) | (go_at_call 361;refine (hrn.out B2 _ b2.out).mono ?_;rintro e w3 ⟨q3,c3,rfl,o3,E3⟩;replace o3:=aa o3;replace E3:=aa E3) | fail);have hlR:=aa (aS hX.le (aS E2.le E3.le))
    have hI0:Hid (GpI w (w3.alloc (.cells #[] 139)) w2 q3 c3 R (so w3 0) 0 []):=aa ⟨((hX.trans E2.out).trans E3.out).alloc _,fi (dh (size:=4) (aD w3 [] 139) (ai _)) hlR.out,cv o3.out _,λ k hk hr=>by
     have h1:=(o3.lt k hr).2
     cases hk
     exact absurd h1 (Nat.lt_irrefl _)⟩
    clear o3 E3 b2 E2 ho hbO hX;go_loopw [10,11] (λ u z wx=>∃ (j:Nat) (q2:OA) (c2:Nat) (L:List Q4),j<=R.length/\u=sl q2 L.length c2/\z=.int .i64 (j:Int)/\Hid (L=(R.take j).filter (eB a b true))/\Hid (GpI w wx w2 q3 c3 R q2 c2 L)) (λ _ z _=>R.length - (intOf z).toNat)
    case atStart=>exact⟨0,_,_,[],oM,rfl,rfl,aa (by simp),hI0⟩
    case round =>
     clear hI0;obtain⟨j,q2,c2,L,hj,rfl,rfl,hL,hI⟩:=hrel;have hR64:=hR6.out;have hnL:L.length<=6400:=by rw [hL.out];have h1:=jU (eB a b true) (R.take j);have h2:(R.take j).length<=j:=md _ _;omega
     by_cases hjt:j<R.length
     . have hjI:(j:Int)<(R.length:Int):=oM;obtain⟨bq,oq,s,rfl,hbn,hs,c0,c1,c2x,c3x⟩:=(bm (l:=R) cw rfl hI.run).four hjt;have hsv:vR s=true:=(oK (g:=eu (fq (λ p q=>p||q) a b)) (v:=true) (by rw [hR.out];exact ap hs.out)).on;have hen:=aa (λ W=>Pp s W hsv);go_upto_region 12 with (first | (go_at_call 384;refine (hen.out _).mono ?_;rintro e w5 ⟨rfl,E5⟩) | fail);generalize hW8:World.alloc (World.alloc _ _) _=W8;obtain⟨E8,z8,b8,b9⟩:=bV hW8;clear hW8 z8;replace b8:=aa (show Blk W8 (w5.heap.size) [s.a,(s.b - 1:Int)] _ from b8);replace b9:=aa (show Blk W8 (w5+1) [s.a,s.d] _ from b9);have⟨g8,l8⟩:=b8.gl;have⟨g9,l9⟩:=b9.gl;have hE8:=E5.trans E8;have hI8:=aa (hI.later hE8);have hwW:=aa hI8.ext;have k0:=(hE8.cells bq (oq+j*4) hbn).trans c0;have k1:=(hE8.cells bq (oq+j*4+1) hbn).trans c1;have k2:=(hE8.cells bq (oq+j*4+2) hbn).trans c2x;have k3:=(hE8.cells bq (oq+j*4+3) hbn).trans c3x;have kb:=aF hbn hE8.le;clear c0 c1 c2x c3x hbn E8 E5 hE8;obtain⟨A1,hA1⟩:∃ A1,gh a (s.a) ((s.b - 1))=A1:=⟨_,rfl⟩;obtain⟨B1,hB1⟩:∃ B1,gh b (s.a) (s.d)=B1:=⟨_,rfl⟩;obtain⟨B2,hB2⟩:∃ B2,gh b (s.a) ((s.b - 1))=B2:=⟨_,rfl⟩;obtain⟨A2,hA2⟩:∃ A2,gh a (s.a) (s.d)=A2:=⟨_,rfl⟩;have hends:eB a b true s=((A1&&B1)||(B2&&A2)):=by rw [<-hA1,<-hB1,<-hB2,<-hA2];rfl
       have m1:=λ(V:World) (hV:Ext W8 V)=>fU BA cA a (s.a) ((s.b - 1)) V (hA.ext (hwW.trans hV))
       have m2:=λ(V:World) (hV:Ext W8 V)=>fU BB cB b (s.a) (s.d) V (hB.ext (hwW.trans hV))
       have m3:=λ(V:World) (hV:Ext W8 V)=>fU BB cB b (s.a) ((s.b - 1)) V (hB.ext (hwW.trans hV))
       have m4:=λ(V:World) (hV:Ext W8 V)=>fU BA cA a (s.a) (s.d) V (hA.ext (hwW.trans hV))
       rw [hA1] at m1;rw [hB1] at m2;rw [hB2] at m3;rw [hA2] at m4;replace m1:=aa m1;replace m2:=aa m2;replace m3:=aa m3;replace m4:=aa m4;clear hA1 hB1 hB2 hA2 hen;have hsz8:=aa hwW.le
       cases hen:eB a b true s with
       | true => exact zd
       | false => exact zp
     . have hjI:¬ (j:Int)<(R.length:Int):=oM;rw [cz rfl oM] at hL;go_wp2_with (fail);go_ret;have e:L=fE a b true:=by rw [hL.out,<-hR.out,fE,GT]
       exact ta
theorem Pt {g c:ac}{i:Nat}(h:lM g c i){q:Q2}(hq:Rch (eA false) (aP g) (p2 i) q):Rch (eA false) (aP c) (p2 i) q:=by
 induction hq with
 | refl=>exact Rch.refl
 | step h1 h2 h3 ih=>exact Rch.step ih h2 ((h.2.2 _ (setC_iff.1 h3).1).2 (Rch.step h1 h2 h3))
theorem Pu {g c:ac}{i:Nat}(h:lM g c i){d:ac}(hd:∀ x y,gh d x y=gh c x y):(bk d).length=1:=by
 obtain⟨h1,h2,h3,_⟩:=jI d;have hs:aP d=aP c:=funext λ q=>propext (by rw [aP,aP,hd])
 have hr:∀ q,aP d q->Rch (eA false) (aP d) (p2 i) q:=λ q hq=>by rw [hs] at hq ⊢;exact Pt h ((h.2.2 q (setC_iff.1 hq).1).1 hq)
 have hi:aP d (p2 i):=by rw [hs,aP,kn h.1.1];exact h.1.2.1
 rcases Nat.lt_trichotomy (bk d).length 1 with hlt | he | hgt
 . obtain⟨c',hc',_⟩:=h3 i h.1.1 (by rwa [aP,kn h.1.1] at hi);rw [sF (show (bk d).length=0 by omega)] at hc'
   cases hc'
 . exact he
 . rw [aL121] at h2;obtain⟨k,k',hk,hk',_,hn⟩:=h2 0 1 oM hgt oM;have a1:aP d (p2 k):=by rw [aP,kn hk.1.1];exact hk.2.1
   have a2:aP d (p2 k'):=by rw [aP,kn hk'.1.1];exact hk'.2.1
   exact absurd ((Rch.turn hi (hr _ a1)).trans (hr _ a2)) hn
theorem GU {g c:ac}(h:c∈bk g):∃ k,lM g c k:=(jI g).1 c h
theorem Pv {g c:ac}(h:c∈bk g){d:ac}(hd:∀ x y,gh d x y=gh c x y):(bk d).length=1:=by obtain⟨k,hk⟩:=GU h;exact Pu hk hd
theorem qh (g:ac)(x y:Int):gh (gL (ah g)) x y=gh g x y:=tN (Ef g) x y
theorem Pw {g c:ac}(h:c∈bk g):(bk (gL (ah c))).length=1:=Pv h (qh c)
theorem Px (g:ac):(bk g).Pairwise λ c c'=>∀ x y,gh c x y=true->gh c' x y=true->False:=by
 refine (jI g).2.1.imp ?_;rintro c c' ⟨k,k',hk,hk',_,hn⟩ x y h1 h2;have s1:aP c ⟨x,y⟩:=h1;have s2:aP c' ⟨x,y⟩:=h2;have r1:=(hk.2.2 _ (setC_iff.1 s1).1).1 s1;have r2:=(hk'.2.2 _ (setC_iff.1 s2).1).1 s2;have i2:aP g (p2 k'):=by rw [aP,kn hk'.1.1];exact hk'.2.1
 exact hn (r1.trans (Rch.turn i2 r2))
theorem Py {g c:ac}(h:c∈bk g):∃ r rs,ah c=r :: rs:=by obtain⟨k,hk⟩:=GU h;obtain⟨r,rs,hr,_⟩:=uk hk.1;exact⟨r,rs,hr⟩
def dJ (g:ac):Nat->Int
 | 0=>0
 | n+1=>dJ g n+ej (g n)
theorem yv (g:ac):∀ n,0<=dJ g n/\dJ g n<=n
 | 0=>by simp [dJ]
 | n+1=>by have:=yv g n;have:=ym (g n);rw [dJ];omega
theorem GV (g:ac){m:Nat}(hm:m<80):∀ j,j<=80->dJ g (m*80+j)=dJ g (m*80)+cT (λ x=>ej (gh g x ((m:Int) - 40))) (-40) ((j:Int) - 40)
 | 0,_=>by rw [jK oM,aq];omega
 | j+1,h=>by
   have ih:=GV g hm j oM
   have e:gh g ((j:Int) - 40) ((m:Int) - 40)=g (m*80+j):=by
    rw [gc (by rw [onC_iff];omega)]
    congr 1
    unfold av;omega
   rw [show m*80+(j+1)=(m*80+j)+1 from rfl,dJ,ih,show (((j+1:Nat):Int) - 40)=((j:Int) - 40)+1 by omega,uG _ oM,e];omega
theorem GW (g:ac):∀ m,m<=80->dJ g (m*80)=cT (λ y=>cT (λ x=>ej (gh g x y)) (-40) 40) (-40) ((m:Int) - 40)
 | 0,_=>by rw [jK oM];simp [dJ]
 | m+1,h=>by have ih:=GW g m oM;rw [show (m+1)*80=m*80+80 by omega,GV g oM 80 oM,ih,show (((m+1:Nat):Int) - 40)=((m:Int) - 40)+1 by omega,uG _ oM];rfl
theorem yw (g:ac):dJ g 6400=fO (gh g) ⟨-40,-40,40,40⟩:=GW g 80 oM
theorem Pz {g h:ac}(e:∀ x y,gh g x y=gh h x y):dJ g 6400=dJ h 6400:=by rw [yw,yw];exact Gr λ x y _ _=>e x y
theorem GX:∀ {l:List Q4},(∀ r∈l,vR r=true)->dP l=bJ l ⟨-40,-40,40,40⟩
 | [],_=>rfl
 | s :: l,h=>by have hs:=h s (by simp);rw [vR_iff] at hs;rw [ot,qf,<-GX λ r hr=>h r (by simp [hr]),iU];have e1:min s.d 40 - max s.b (-40)=s.d - s.b:=oM;have e2:min s.c 40 - max s.a (-40)=s.c - s.a:=oM;rw [e1,e2,ju oM,ju oM,Int.mul_comm]
theorem PA {l:List Q4}(h:aH l=true):dP l=dJ (gL l) 6400:=by have hv:=iR (isReg_iff.1 h).1;rw [GX hv,yn h _ (by simp),yw]
theorem PB (g:ac):dP (ah g)=dJ g 6400:=by rw [PA (ov g)];exact Pz (qh g)
def jN (G:List ac):ac:=λ i=>G.any λ c=>c i
theorem PC (G:List ac)(x y:Int):gh (jN G) x y=G.any λ c=>gh c x y:=by
 unfold gh jN
 cases ax x y with
 | false=>simp
 | true=>simp
theorem PD (G:List ac)(x y:Int):bA ((G.map ah).flatten) x y=G.any λ c=>gh c x y:=by
 induction G with
 | nil=>rfl
 | cons c G ih=>rw [mX,List.flatten_cons,tM,ih,nk,List.any_cons]
theorem GY (G:List ac):ah (gL ((G.map ah).flatten))=ah (jN G):=tO λ x y=>by
 rw [PC]
 cases hc:ax x y with
 | true=>rw [gL,iK _ hc,PD]
 | false => rw [dr hc];symm;rw [List.any_eq_false];intro c _;rw [dr hc];simp
theorem sp (l:List Q4){x y:Int}(hc:ax x y=true):gh (gL l) x y=bA l x y:=by rw [gL,iK _ hc]
theorem st {l:List Q4}{x y:Int} : bA l x y=true↔∃ r∈l,bj r x y=true:=by rw [bA,aL59]
def GZ (g:ac) (k:Int):List ac:=(bk g).filter λ c=>decide (dJ c 6400<k)
theorem PE (s:Int)(w:World)(hs:ae s 4 40=true) :
 Calls prog 353 #[s] w (bH (gp s) w):=by
 obtain⟨i0,hi,hz0,hz1,hz2⟩:=aM ry;have hcall:=λ W=>dd s 4 40 W
 rw [hs] at hcall;rw [wit_iff] at hs;obtain⟨s0,s1⟩:=hs;have ho0:(w.alloc (.cells #[] 139)).ownsRow w 139 4 (sm w 0 0 0) 0 []:=sT
 have hwl:=uJ s0;go_enter func353,ntmps353;go_wp2_with fail;refine (hcall _).mono ?_;rintro e w1 ⟨rfl,rfl⟩;clear hcall;go_wp2_with fail;go_loopw [3,4] (λ v i wr=>∃ (y:Int) (out:List Q4) (q:OA) (c:Nat),-40<=y/\y<=80/\v=sl q out.length c/\i=.int .i64 y/\Hid (gp s=out++gu s y)/\wr.ownsRow w 139 4 (sl q out.length c) out.length (out.flatMap aj)/\Ext w wr) (λ _ i _=>(80 - intOf i).toNat)
 case atStart=>exact⟨-40,[],_,_,oM,oM,rfl,rfl,rfl,ho0,(ab _).alloc _⟩
 case round =>
  clear ho0;obtain⟨y,out,q,c,hy0,hy1,rfl,rfl,hC,ho,hE⟩:=hrel;by_cases hy:y<40
  . have hC2:Hid (gp s=out++(iV s y (-40)++gu s (y+s))):=by show _=_;rw [hC.out,sg oM hy0 hy]
    clear hC;replace ho:=aa ho;go_wp2_with fail;go_loopw [3,5] (λ v i wr=>∃ (x:Int) (out:List Q4) (q:OA) (c:Nat),-40<=x/\x<=80/\v=sl q out.length c/\i=.int .i64 x/\Hid (gp s=out++(iV s y x++gu s (y+s)))/\wr.ownsRow w 139 4 (sl q out.length c) out.length (out.flatMap aj)/\Ext w wr) (λ _ i _=>(80 - intOf i).toNat)
    case atStart=>exact⟨-40,out,q,c,oM,oM,rfl,rfl,hC2,ho.out,hE⟩
    case round =>
     clear ho hE hC2;obtain⟨x,out,q,c,hx0,hx1,rfl,rfl,hC,ho,hE⟩:=hrel;have hlen:out.length<=420:=by have:=k9 List.length hC.out;rw [aI] at this;omega
     by_cases hx:x<40
     . have hC2:Hid (gp s=(out++[⟨x,y,min (x+s) 40,min (y+s) 40⟩])++(iV s y (x+s)++gu s (y+s))):=by
        show _=_;rw [hC.out,uI oM hx0 hx];simp
       clear hC;obtain⟨X1,hX1⟩:∃ X1,X1=min (x+s) 40:=⟨_,rfl⟩;obtain⟨Y1,hY1⟩:∃ Y1,Y1=min (y+s) 40:=⟨_,rfl⟩;rw [<-hX1,<-hY1] at hC2;have hXc:(x+s<=40/\X1=x+s)\/(40<x+s/\X1=40):=oM;have hYc:(y+s<=40/\Y1=y+s)\/(40<y+s/\Y1=40):=oM;clear hX1 hY1;have hNl:=hE.le;replace ho:=aa ho;rcases hXc with ⟨hX,rfl⟩ | ⟨hX,rfl⟩ <;> rcases hYc with ⟨hY,rfl⟩ | ⟨hY,rfl⟩
       all_goals
        go_wp2_with (at_builtin;refine qG _ rfl _ _ 77 rfl w 139 i0 (.agg #[(0:Int),(0:Int),(0:Int),(0:Int)]) 4 32 underlying77 hi hz0 hz1 hz2 rfl oM _ _ _ rfl (ho.alloc _) ⟨_,0,none⟩ 1 1 [.int .i64 x,.int .i64 y,.int .i64 _,.int .i64 _] rfl rfl (dg _ [_,_,_,_] _) (iq _ _ _ _) (by unfold maxLen;omega) oM (by simp;omega) ?_;intro v' w1 ho' hg' _;obtain⟨qa,ca,rfl⟩:=cq ho';have hE1:=aa ((hE.alloc _).grown hg' (λ k hk=>(ho.lt k hk).1));replace ho':=aa ho';clear hg');go_roundw
        case rel=>exact⟨x+s,_,qa,ca,oM,oM,by rw [aI];rfl,rfl,hC2,by rw [aI,dj];first | exact ho'.out | (rw [show min (x+s) 40=x+s by omega,show min (y+s) 40=y+s by omega] at ho';exact ho'.out) | (rw [show min (x+s) 40=x+s by omega,show min (y+s) 40=40 by omega] at ho';exact ho'.out) | (rw [show min (x+s) 40=40 by omega,show min (y+s) 40=y+s by omega] at ho';exact ho'.out) | (rw [show min (x+s) 40=40 by omega,show min (y+s) 40=40 by omega] at ho';exact ho'.out),hE1.out⟩
        case measure=>exact mS
     . exact zU
  . exact At
def eW (a b:ac):List Q4:=fE a b false++fE a b true
theorem su (a b:ac)(v:Bool):(fE a b v).length<=6400:=aS (jU _ _) (jn _ v)
theorem G3 {a b:ac}{v:Bool} : ∀ r∈fE a b v,vR r=true:=λ r hr=>(oK (List.mem_filter.1 hr).1).on
theorem yx {a b:ac} : ∀ r∈eW a b,vR r=true:=λ r hr=>(aL49.1 hr).elim (G3 r) (G3 r)
theorem uO (a b:ac):(eW a b).length<=12800:=by have h1:=su a b false;have h2:=su a b true;rw [eW,aI];omega
theorem PF (g:ac):jp g=eW g g:=by rw [jp,eW,GJ,GJ]
def kq (f:Nat->Bool) (o:ac) (k:Nat):ac:=λ i=>if i<k then f i else o i
theorem yy (f:Nat->Bool)(o:ac):kq f o 0=o:=funext λ i=>by simp [kq]
theorem yz (f:Nat->Bool)(o:ac)(k:Nat):kq f o k k=o k:=by simp [kq]
theorem PG (f:Nat->Bool)(o:ac):ag (kq f o 6400)=ag f:=df λ i hi=>by simp [kq,hi]
theorem yA (f:Nat->Bool)(o:ac)(k:Nat)(h:k<6400):(ag (kq f o k)).set k (.bool (f k))=ag (kq f o (k+1)):=by
 rw [j9];refine df λ i hi=>?_
 simp only [ig,kq];by_cases h1:i=k
 . subst h1;simp
 . by_cases h2:i<k
   . simp [h1,h2,show i<k+1 by omega]
   . simp [h1,h2,show ¬ i<k+1 by omega]
theorem PH (g h:ac):ah (gL ([ah g,ah h].flatten))=ah (λ i=>g i||h i):=by
 have e:=GY [g,h];rw [mX,mX,nG] at e;rw [e]
 congr 1
 funext i;simp [jN]
def oP (l1 l2:List Q4) (d:Int):ac:=λ i=>gL (et (eW (gL l1) (gL l2)) d) i||(gL l1 i&&gL l2 i)
def mM (l1 l2:List Q4) (d:Int):List Q4:=if (aH l1&&aH l2)&&ae d 1 8 then ah (oP l1 l2 d) else []
def nB (l1 l2:List Q4) (k:Int):ac:=λ i=>oI (gL l1) k i&&!gL l2 i
def mN (l1 l2:List Q4) (k:Int):List Q4:=if (aH l1&&aH l2)&&ae k 0 8 then ah (nB l1 l2 k) else []
theorem G5 {r:Q4}(hv:vR r=true){k:Int}(hk:0<=k)(x y:Int):bj (jq k r) x y=true↔∃ u v,bj r u v=true/\(u - x<=k/\x - u<=k)/\(v - y<=k/\y - v<=k):=by
 rw [vR_iff] at hv;rw [inR_iff];simp only [jq];constructor
 . intro h;refine⟨max r.a (min x (r.c - 1)),max r.b (min y (r.d - 1)),?_,?_,?_⟩
   . rw [inR_iff];omega
   . omega
   . omega
 . rintro⟨u,v,h1,h2,h3⟩;rw [inR_iff] at h1;omega
theorem PI {l:List Q4}(hv:∀ r∈l,vR r=true){k:Int}(hk:0<=k)(x y:Int):gh (gL (l.map (jq k))) x y=gh (oI (gL l) k) x y:=by
 rw [aL62,Mm];constructor
 . intro h
   have hc:ax x y=true:=by
    cases hc:ax x y with
    | true=>rfl
    | false=>rw [dr hc] at h;cases h
   refine⟨hc,?_⟩;rw [sp _ hc,st] at h;obtain⟨r,hr,h⟩:=h;obtain⟨s,hs,rfl⟩:=aL52.1 hr;obtain⟨u,v,h1,h2,h3⟩:=(G5 (hv s hs) hk x y).1 h;have hu:ax u v=true:=Li (hv s hs) h1;exact⟨u,v,by rw [sp _ hu,st];exact⟨s,hs,h1⟩,h2,h3⟩
 . rintro⟨hc,u,v,h1,h2,h3⟩
   have hu:ax u v=true:=by
    cases hu:ax u v with
    | true=>rfl
    | false=>rw [dr hu] at h1;cases h1
   rw [sp _ hu,st] at h1;obtain⟨s,hs,h1⟩:=h1;rw [sp _ hc,st];exact⟨jq k s,pg hs,(G5 (hv s hs) hk x y).2 ⟨u,v,h1,h2,h3⟩⟩
theorem G6 (a b:ac)(x y:Int):gh (λ i=>a i&&!b i) x y=(gh a x y&&!gh b x y):=by
 unfold gh
 cases ax x y <;> simp
theorem PJ {l1 l2:List Q4}(hv:∀ r∈l1,vR r=true){k:Int}(hk:0<=k):ah (fq (λ p q=>p&&!q) (gL (oO l1 k)) (gL l2))=ah (nB l1 l2 k):=tO λ x y=>by rw [GM rfl,oO,qh,PI hv hk,show nB l1 l2 k=(λ i=>oI (gL l1) k i&&!gL l2 i) from rfl,G6]
def qj (l:List Q4) (k:Int):ac:=jN (GZ (gL l) k)
def mO (l:List Q4) (k:Int):List Q4:=if aH l&&ae k 1 6400 then ah (qj l k) else []
def lQ (l:List Q4) (s p:Int):List Q4:=(gp s).filter λ r=>!fj (bJ l r) r p
def oQ (l:List Q4) (s p:Int):ac:=λ i=>gL (lQ l s p) i&&!gL l i
def mP (l:List Q4) (s p:Int):List Q4:=if aH l&&(ae s 4 40&&ae p 1 100) then ah (oQ l s p) else []
theorem PK (l:List Q4)(s p:Int):ah (fq (λ p q=>p&&!q) (gL (ah (gL (lQ l s p)))) (gL l))=ah (oQ l s p):=tO λ x y=>by rw [GM rfl,qh,show oQ l s p=(λ i=>gL (lQ l s p) i&&!gL l i) from rfl,G6]
def fG (L:List (List Q4)) (r:RuD):List Q4 :=
 if r.a=0 then iW (L.getD r.b.toNat []) r.d
 else if r.a=1 then iX (L.getD r.b.toNat []) r.d
 else if r.a=2 then mM (L.getD r.b.toNat []) (L.getD r.c.toNat []) r.d
 else if r.a=3 then mN (L.getD r.b.toNat []) (L.getD r.c.toNat []) r.d
 else if r.a=4 then mO (L.getD r.b.toNat []) r.d
 else mP (L.getD r.b.toNat []) r.d r.e
theorem PL:aH []=true:=by
 have h:=ov bo
 have e:ah bo=[]:=by
  cases hc:ah bo with
  | nil=>rfl
  | cons r rs =>
    have hv:=iR (ik bo) r (by rw [hc];simp);rw [vR_iff] at hv;have h1:bA (ah bo) r.a r.b=true:=by rw [hc,st];exact⟨r,by simp,by rw [inR_iff];omega⟩
    rw [nk] at h1;simp [gh,bo] at h1
 rwa [e] at h
theorem qk (c:Bool)(g:ac):aH (if c then ah g else [])=true:=by
 cases c with
 | true=>exact ov g
 | false=>exact PL
theorem PM (L:List (List Q4))(r:RuD):aH (fG L r)=true:=by
 unfold fG
 split
 . exact qk _ _
 split
 . exact qk _ _
 split
 . exact qk _ _
 split
 . exact qk _ _
 split
 . exact qk _ _
 exact qk _ _
theorem Bits.set {w:World}{B C j:Nat}{g:ac}{v:Value}(h:Bits w B g)(hne:B≠C):Bits (w.setCell (ad C j) v) B g:=⟨by simpa using h.1,λ i hi=>sn (gW hne) (h.2 i hi)⟩
theorem G7 (BA BB cA cB:Nat)(a b:ac)(w:World)(hA:Bits w BA a)(hB:Bits w BB b) :
 Calls prog 316 #[sm BA 0 6400 cA,sm BB 0 6400 cB] w (bH (eW a b) w):=by
 obtain⟨i0,hi,hz0,hz1,hz2⟩:=aM gm;have b1:=su a b false;have b2:=su a b true;have hlen:(eW a b).length=(fE a b false).length+(fE a b true).length:=by rw [eW,aI]
 have hr1:=aa (λ W (hE:Ext w W)=>Pr BA BB cA cB a b W (hA.ext hE) (hB.ext hE));have hr2:=aa (λ W (hE:Ext w W)=>Ps BA BB cA cB a b W (hA.ext hE) (hB.ext hE));go_enter func316,ntmps316;go_wp2_with (first | (go_at_call 362;(with_reducible refine (hr1.out _ (ab _)).mono ?_);rintro e w2 ⟨q1,c1,rfl,o1,E2⟩;replace o1:=aa o1;replace E2:=aa E2) | (go_at_call 362;(with_reducible refine (hr2.out _ E2.out).mono ?_);rintro e w3 ⟨q2,c2,rfl,o2,E3⟩;replace o2:=aa o2;have ob:=aa (aG o1.out E3);have E13:=aa (E2.trans E3);have hs3:=aa E13.le) | (at_builtin;refine uz rfl _ _ 77 rfl w 139 i0 (.agg #[(0:Int),(0:Int),(0:Int),(0:Int)]) 4 32 underlying77 hi hz0 hz1 hz2 rfl oM _ _ _ rfl ob.out w2 _ _ _ rfl o2.out (uy _) (by unfold maxLen;omega) oM hs3.out ?_;intro v' w4 ho' hg;obtain⟨qa,ca,rfl⟩:=cq ho';replace ho':=aa ho';replace hg:=aa hg) | fail);go_ret;refine⟨qa,ca,by rw [hlen];rfl,?_,E13.grown hg.out (λ k hk=>(ob.lt k hk).1)⟩;rw [hlen,eW,dj];exact ho'.out
theorem PN (q:OA)(n c:Nat)(l:List Q4)(d:Int)(w:World)(h:SlT aj 4 w q n l)(hn:n<=1048576) :
 Calls prog 235 #[sl q n c,d] w (bH (iX l d) w):=by
 have hok:=kL q n c l w h hn
 cases hr:aH l with
 | false =>
   have hm:Hid (iX l d=[]):=by show _=_;rw [iX,ar (by rw [hr];simp)]
   rw [hr] at hok;replace hok:=aa hok;clear hr;exact Cg
 | true =>
   cases hw:ae d 1 8 with
   | false =>
     have hm:Hid (iX l d=[]):=by show _=_;rw [iX,ar (by rw [hw];simp)]
     have hdi:=λ W=>sj d W
     rw [hr] at hok;rw [hw] at hdi;replace hok:=aa hok;replace hdi:=aa hdi;clear hr hw;exact Cg
   | true =>
     have hm:Hid (iX l d=ah (gL (et (eW (gL l) (gL l)) d))):=by show _=_;rw [iX,aw (by rw [hr,hw];rfl),PF]
     have hvs:=aa ((eU (isReg_iff.1 hr).1).2);have hn2:=aa (uO (gL l) (gL l));have hdi:=λ W=>sj d W
     rw [hr] at hok;rw [hw] at hdi;replace hok:=aa hok;replace hdi:=aa hdi;have hbi:=aa (λ W (hE:Ext w W)=>ji q n c l W (h.ext hE) hn hvs.out);clear hr hw;go_enter func235,ntmps235;go_wp2_with (first | (go_at_call 161;(with_reducible refine (hok.out).mono ?_);rintro e w2 ⟨rfl,E2⟩;replace E2:=aa E2) | (go_at_call 313;(with_reducible refine (hdi.out _).mono ?_);rintro e w3 ⟨rfl,rfl⟩) | (go_at_call 159;(with_reducible refine (hbi.out _ E2.out).mono ?_);rintro e w4 ⟨B,rfl,o4,E4⟩;have t4:=aa (dH o4);have E4s:=aa E4;replace E4:=aa (E2.trans E4);clear o4) | (go_at_call 159;(with_reducible refine (hbi.out _ E4.out).mono ?_);rintro e w8 ⟨B8,rfl,o8,E8⟩;have t8:=aa (dH o8);replace t4:=aa (t4.ext E8);replace E8:=aa (E4.trans E8);clear o8) | (go_at_call 316;(with_reducible refine (G7 B B8 6400 6400 (gL l) (gL l) _ t4.out t8.out).mono ?_);rintro e w5 ⟨q5,c5,rfl,o5,E5⟩;have s5:=aa (bm (l:=eW (gL l) (gL l)) cw rfl o5);replace E5:=aa (E8.trans E5);clear o5) | (go_at_call 314;(with_reducible refine (yt q5 _ c5 (eW (gL l) (gL l)) d _ s5.out (by have:=hn2.out;omega) yx).mono ?_);rintro e w6 ⟨B6,rfl,o6,E6⟩;have t6:=aa (dH o6);replace E6:=aa (E5.trans E6);clear o6) | (go_at_call 160;(with_reducible refine (kK B6 6400 _ _ t6.out).mono ?_);rintro e w7 ⟨q7,c7,rfl,o7,E7⟩;replace o7:=aa o7;replace E7:=aa E7) | fail);exact Bp
theorem PO (q q2:OA)(n c n2 c2:Nat)(l l2:List Q4)(d:Int)(w:World)(h:SlT aj 4 w q n l)(hn:n<=1048576)(h2:SlT aj 4 w q2 n2 l2)(hn2:n2<=1048576)(hr:aH l=true)(hr2:aH l2=true)(hw:ae d 1 8=true) :
 Calls prog 236 #[sl q n c,sl q2 n2 c2,d] w (bH (mM l l2 d) w):=by
 have hok:=kL q n c l w h hn;have hok2:=λ W (hE:Ext w W)=>kL q2 n2 c2 l2 W (h2.ext hE) hn2
 have hm:Hid (mM l l2 d=ah (oP l l2 d)):=by show _=_;rw [mM,aw (by rw [hr,hr2,hw];rfl)]
 have hvs:=aa ((eU (isReg_iff.1 hr).1).2);have hvs2:=aa ((eU (isReg_iff.1 hr2).1).2);have hna:=aa (uO (gL l) (gL l2));have hdi:=λ W=>sj d W
 rw [hr] at hok;rw [hr2] at hok2;rw [hw] at hdi;replace hok:=aa hok;replace hok2:=aa hok2;replace hdi:=aa hdi;have hbi:=aa (λ W (hE:Ext w W)=>ji q n c l W (h.ext hE) hn hvs.out);have hbi2:=aa (λ W (hE:Ext w W)=>ji q2 n2 c2 l2 W (h2.ext hE) hn2 hvs2.out);clear hr hw hr2;go_enter func236,ntmps236;go_wp2_with (first | (go_at_call 161;(with_reducible refine (hok.out).mono ?_);rintro e w2 ⟨rfl,E2⟩;replace E2:=aa E2) | (go_at_call 161;(with_reducible refine (hok2.out _ E2.out).mono ?_);rintro e w3 ⟨rfl,E3⟩;replace E3:=aa (E2.trans E3)) | (go_at_call 313;(with_reducible refine (hdi.out _).mono ?_);rintro e w3d ⟨rfl,rfl⟩) | (go_at_call 159;(with_reducible refine (hbi.out _ E3.out).mono ?_);rintro e w4 ⟨B,rfl,o4,E4⟩;have t4:=aa (dH o4);replace E4:=aa (E3.trans E4);clear o4) | (go_at_call 159;(with_reducible refine (hbi2.out _ E4.out).mono ?_);rintro e w8 ⟨B8,rfl,o8,E8⟩;have t8:=aa (dH o8);replace t4:=aa (t4.ext E8);replace E8:=aa (E4.trans E8);clear o8) | (go_at_call 316;(with_reducible refine (G7 B B8 6400 6400 (gL l) (gL l2) _ t4.out t8.out).mono ?_);rintro e w5 ⟨q5,c5,rfl,o5,E5⟩;have s5:=aa (bm (l:=eW (gL l) (gL l2)) cw rfl o5);replace t4:=aa (t4.ext E5);replace t8:=aa (t8.ext E5);replace E5:=aa (E8.trans E5);clear o5) | (go_at_call 314;(with_reducible refine (yt q5 _ c5 (eW (gL l) (gL l2)) d _ s5.out (by have:=hna.out;omega) yx).mono ?_);rintro e w6 ⟨B6,rfl,o6,E6⟩;have hne4:=aa (Nat.ne_of_lt (aF t4.1 (cM o6).1));have hne8:=aa (Nat.ne_of_lt (aF t8.1 (cM o6).1));have hlo6:=aa (aS E5.le (cM o6).1);replace t4:=aa (t4.ext E6);replace t8:=aa (t8.ext E6);replace o6:=aa o6;replace E6:=aa (E5.trans E6)) | fail);obtain⟨f,hf⟩:∃ f:Nat->Bool,Hid (f=oP l l2 d):=⟨_,aa rfl⟩;obtain⟨o,ho⟩:∃ o:ac,Hid (gL (et (eW (gL l) (gL l2)) d)=o):=⟨_,aa rfl⟩;have hfo:Hid (∀ i,f i=(o i||(gL l i&&gL l2 i))):=aa (λ i=>by rw [hf.out,<-ho.out,oP]);rw [ho.out,<-yy f o] at o6;clear s5;go_loopw [10] (λ i wx=>∃ j:Nat,j<=6400/\i=.int .i64 j/\Hid (Ext w wx)/\Hid (Bits wx B (gL l))/\Hid (Bits wx B8 (gL l2))/\Hid (wx.ownsRow w5 4 1 (sm B6 0 6400 6400) 6400 (ag (kq f o j)))) (λ i _=>6400 - (intOf i).toNat)
 case atStart=>exact⟨0,oM,rfl,E6,t4,t8,o6⟩
 case round =>
  clear E6 t4 t8 o6;obtain⟨j,hj,rfl,hX,hA,hB,hO⟩:=hrel;have hlA:=hA.1;have hlB:=hB.1;have hlO:=(cM hO.out).2;by_cases hjt:j<6400
  . have hjI:(j:Int)<6400:=oM;have hcA:=hA.2 j hjt;have hcB:=hB.2 j hjt;have hcO:=(dH hO.out).2 j hjt;rw [yz] at hcO;have hfr:=ey hO.out;have hst:=aa (yA f o j hjt);have hfj:=hfo.out j;obtain⟨va,hva⟩:∃ va,gL l j=va:=⟨_,rfl⟩;obtain⟨vb,hvb⟩:∃ vb,gL l2 j=vb:=⟨_,rfl⟩;obtain⟨vo,hvo⟩:∃ vo,o j=vo:=⟨_,rfl⟩;rw [hva] at hcA hfj;rw [hvb] at hcB hfj;rw [hvo] at hcO hfj;clear hva hvb hvo;replace hfj:=aa hfj
    cases vo with
    | true => exact vA
    | false =>
      cases va with
      | false => exact vA
      | true => exact vA
  . exact vv
end Go.Proofs.YtnlajnpcdnnpmaaGreat
