/- Part of a proof. No condition. -/
import Derived.Test.YtnlajnpcdnnpmaaGreatA38
namespace Go.Proofs.YtnlajnpcdnnpmaaGreat
set_option linter.all false
set_option maxRecDepth 100000
set_option maxHeartbeats 16000000
open Go.Proofs.Tryz Go.RowKit Go.PlainAid
theorem Qx (B cb:Nat)(g:ac)(w:World)(hb:Bits w B g) :
 CW 319 #[sm B 0 6400 cb] w (dJ g 6400:Int):=by
 replace hb:=aa hb;go_enter func319,ntmps319;go_wp2_with (fail);go_loopw [3,4] (λ s i wx=>∃ j:Nat,j<=6400/\s=.int .i64 (dJ g j)/\i=.int .i64 j/\w=wx) (λ _ i _=>6400 - (intOf i).toNat)
 case atStart=>exact⟨0,oM,rfl,rfl,rfl⟩
 case round =>
  obtain⟨j,hj,rfl,rfl,rfl⟩:=hrel;have hBl:=hb.1;have hbd:=yv g j;by_cases hjt:j<6400
  . have hjI:(j:Int)<6400:=oM;have z:=hb.2 j hjt;have hst:dJ g (j+1)=dJ g j+ej (g j):=rfl;obtain⟨C,hC⟩:∃ C,dJ g j=C:=⟨_,rfl⟩;rw [hC] at hbd hst;rw [hC];clear hC
    cases hg:g j with
    | true => rw [hg] at z hst;replace hst:=aa (show dJ g (j+1)=C+1 from hst);exact AF
    | false => rw [hg] at z hst;replace hst:=aa (show dJ g (j+1)=C from by rw [hst];simp [ej]);exact AF
  . have hjI:¬ (j:Int)<6400:=oM;obtain rfl:j=6400:=oM;go_wp2_with (fail);exact kA
theorem Qy (BA BB cA cB:Nat)(a b:ac)(w:World)(hA:Bits w BA a)(hB:Bits w BB b) :
 Calls prog 320 #[sm BA 0 6400 cA,sm BB 0 6400 cB] w (mB (gP a b) w):=by
 obtain⟨i0,hi,hz0,hz1,hz2⟩:=aM iP;replace hA:=aa hA;replace hB:=aa hB;go_enter func320,ntmps320;go_wp2_with (refine ep _ rfl _ _ 238 rfl w 4 i0 _ 1 underlying238 hi hz0 hz1 .i64 .i64 6400 6400 6400 rfl rfl rfl rfl (by rw [hz2];omega) (by unfold maxLen;omega) (ai _) ?_;intro w1 ho hg);rw [gF _ (.bool false) _ (by simp [Value.cells]) (by intro j hj;simp [Value.cells] at hj ⊢;subst hj;rfl),<-gH,uM (λ p q=>p||q) a b] at ho;have hX1:=aa ((ab _).grown hg (λ _ h=>by cases h):Ext w w1);have ho1:=aa ho;clear hg ho;go_wp2_with (fail);go_loopw [6] (λ i wx=>∃ j:Nat,j<=6400/\i=.int .i64 j/\Hid (Ext w wx)/\Hid (wx.ownsRow w 4 1 (sm w 0 6400 6400) 6400 (ag (jr (λ p q=>p||q) a b j)))) (λ i _=>6400 - (intOf i).toNat)
 case atStart=>exact⟨0,oM,rfl,hX1,ho1⟩
 case round =>
  clear hX1 ho1;obtain⟨j,hj,rfl,hX,ho⟩:=hrel;have hbA:=hA.ext hX.out;have hbB:=hB.ext hX.out;have hlA:=hbA.1;have hlB:=hbB.1;by_cases hjt:j<6400
  . exact vn
  . have hjI:¬ (j:Int)<6400:=oM;obtain rfl:j=6400:=oM;rw [uN] at ho;exact vG
theorem Qz (G:List ac)(c:ac):ag (gP (jN G) c)=ag (jN (G++[c])):=df λ i _=>by simp [gP,jN]
theorem QA (q:OA)(n c:Nat)(l:List Q4)(k:Int)(w:World)(h:SlT aj 4 w q n l)(hn:n<=1048576)(hr:aH l=true)(hk:ae k 1 6400=true) :
 Calls prog 238 #[sl q n c,k] w (bH (mO l k) w):=by
 obtain⟨i0,hi,hz0,hz1,hz2⟩:=aM iP;have hm:Hid (mO l k=ah (qj l k)):=by show _=_;rw [mO,aw (by rw [hr,hk];rfl)]
 have hv:=aa (eU (isReg_iff.1 hr).1).2;have hok:=kL q n c l w h hn;have hbi:=aa (λ W (hE:Ext w W)=>ji q n c l W (h.ext hE) hn hv.out);have hg6:=(jI (gL l)).2.2.2;rw [hr] at hok;replace hok:=aa hok;obtain⟨k0,k1⟩:=wit_iff.1 hk;have hlc:=aa (λ(B:Nat) (W:World) (hb:Bits W B (gL l))=>Qw B 6400 (gL l) W hb);obtain⟨G,hG⟩:∃ G,bk (gL l)=G:=⟨_,rfl⟩;rw [hG] at hlc hg6;have hma:Hid (qj l k=jN (G.filter λ c=>decide (dJ c 6400<k))):=aa (by rw [qj,GZ,hG]);clear hr hk hG;go_enter func238,ntmps238;go_wp2_with (first | (go_at_call 161;(with_reducible refine (hok.out).mono ?_);rintro e w2 ⟨rfl,E2⟩;replace E2:=aa E2) | (refine ep _ rfl _ _ 238 rfl w2 4 i0 _ 1 underlying238 hi hz0 hz1 .i64 .i64 6400 6400 6400 rfl rfl rfl rfl (by rw [hz2];omega) (by unfold maxLen;omega) (ai _) ?_;intro w4 ho hg) | fail);rw [gF _ (.bool false) _ (by simp [Value.cells]) (by intro j hj;simp [Value.cells] at hj ⊢;subst hj;rfl),<-gH,show ag bo=ag (jN ((G.take 0).filter λ c=>decide (dJ c 6400<k))) from df λ i _=>by simp [bo,jN]] at ho;have hE4:Ext w2 w4:=(ab _).grown hg (λ _ h=>by cases h);have hX4:=aa (E2.trans hE4);have b4:=aa (dH ho);clear hg hE4 ho;go_wp2_with (first | (go_at_call 159;(with_reducible refine (hbi.out _ hX4.out).mono ?_);rintro e w5 ⟨B,rfl,o5,E5⟩;have t5:=aa (dH o5);replace b4:=aa (b4.ext E5);replace hX4:=aa (hX4.trans E5);clear o5) | (go_at_call 318;(with_reducible refine (hlc.out B _ t5.out).mono ?_);rintro e w6 ⟨q6,c6,Bs,rfl,o6,E6⟩;replace o6:=aa o6;replace b4:=aa (b4.ext E6);replace hX4:=aa (hX4.trans E6)) | fail);clear t5 hlc hbi;go_loopw [5,7] (λ v i wx=>∃ (j D:Nat),j<=G.length/\v=sm D 0 6400 6400/\i=.int .i64 j/\Hid (Ext w wx)/\Hid (Ext w6 wx)/\Hid (Bits wx D (jN ((G.take j).filter λ c=>decide (dJ c 6400<k))))) (λ _ i _=>G.length - (intOf i).toNat)
 case atStart=>exact⟨0,_,oM,rfl,rfl,hX4,aa (ab _),b4⟩
 case round =>
  clear hX4 b4;obtain⟨j,D,hj,rfl,rfl,hX,hY,hb⟩:=hrel;by_cases hjt:j<G.length
  . have hjI:(j:Int)<(G.length:Int):=oM;obtain⟨b,B,g,rfl,hbs,hg,z,tB⟩:=(o6.ext hY.out).get hjt;have tB:=aa tB;have hct:=aa (λ W (hE:Ext wr W)=>Qx B 6400 g W (tB.ext hE));have hcb:=yv g 6400;have hin:=Hf (P:=λ c=>decide (dJ c 6400<k)) hg.out;have hout:=Hg (P:=λ c=>decide (dJ c 6400<k)) hg.out;obtain⟨C,hC⟩:∃ C,dJ g 6400=C:=⟨_,rfl⟩;rw [hC] at hct hcb hin hout;clear hC;by_cases hd:C<k
    . have hin2:=aa (hin (by simpa using hd));have hor:=aa (Qy D B 6400 6400 _ g wr hb.out tB.out);clear hin hout;go_wp2_with (first | (go_at_call 319;(with_reducible refine (hct.out _ (ab _)).mono ?_);rintro e w9 ⟨rfl,rfl⟩) | (go_at_call 320;(with_reducible refine (hor.out).mono ?_);rintro e w10 ⟨D2,rfl,o10,E10⟩;have t10:=aa (dH o10);replace E10:=aa E10;clear o10) | fail);go_roundw
      case rel=>exact⟨j+1,D2,oM,rfl,gN,aa (hX.trans E10.out),aa (hY.trans E10.out),aa (by rw [hin2.out];exact t10.eqv (Qz _ _))⟩
      case measure=>exact mS
    . have hout2:=aa (hout (by simpa using hd));clear hin hout;go_wp2_with (first | (go_at_call 319;(with_reducible refine (hct.out _ (ab _)).mono ?_);rintro e w9 ⟨rfl,rfl⟩) | fail);go_roundw
      case rel=>exact⟨j+1,D,oM,rfl,gN,hX,hY,aa (by rw [hout2.out];exact hb.out)⟩
      case measure=>exact mS
  . have hjI:¬ (j:Int)<(G.length:Int):=oM;rw [eE (show G.length<=j by omega),<-hma.out] at hb;go_wp2_with (first | (go_at_call 160;(with_reducible refine (kK D 6400 _ _ hb.out).mono ?_);rintro e w7 ⟨q7,c7,rfl,o7,E7⟩;replace o7:=aa o7;replace E7:=aa E7) | fail);go_ret;rw [hm.out];exact⟨q7,c7,rfl,fi o7.out hX.le,hX.trans E7.out⟩
theorem QB (B cb:Nat)(g:ac)(r:Q4)(w:World)(hb:Bits w B g)(hv:vR r=true) :
 CE 322 #[sm B 0 6400 cb,.agg #[r.a,r.b,r.c,r.d]] w (fO (gh g) r:Int):=by
 have hbd:=yo (gh g);obtain⟨⟨ra,rb,rc⟩,rd,re,rf⟩:=vR_iff.1 hv;replace hb:=aa hb;clear hv;go_enter func322,ntmps322;go_upto_region 1 with (fail);generalize hW:World.alloc _ _=W0;obtain⟨E0,z0,b0⟩:=al hW;clear hW z0;replace b0:=aa (show Blk W0 w [r.a,r.b,r.c,r.d] _ from b0);have⟨g0,l0⟩:=b0.gl;have hB0:=aa (hb.ext E0);have hBl:=hB0.1;go_wp2_with (fail);go_loopw [5,6] (λ s i wx=>∃ y:Int,r.b<=y/\y<=r.d/\s=.int .i64 (cT (λ y=>cT (λ x=>ej (gh g x y)) r.a r.c) r.b y)/\i=.int .i64 y/\W0=wx) (λ _ i _=>(r.d - intOf i).toNat)
 case atStart=>exact⟨r.b,oM,oM,by rw [jK oM],rfl,rfl⟩
 case round =>
  obtain⟨y,hy0,hy1,rfl,rfl,rfl⟩:=hrel;have hs1:=hbd ⟨r.a,r.b,r.c,y⟩ (by simp only;omega);obtain⟨S,hS⟩:∃ S,cT (λ y=>cT (λ x=>ej (gh g x y)) r.a r.c) r.b y=S:=⟨_,rfl⟩;have hs1:0<=S/\S<=6400:=by rw [<-hS];exact hs1
  by_cases hlt:y<r.d
  . have hrow:=aa (uG (λ y=>cT (λ x=>ej (gh g x y)) r.a r.c) hy0);rw [hS] at hrow ⊢;replace hS:=aa hS;have hs2:=hbd ⟨r.a,r.b,r.c,y+1⟩ (by simp only;omega);replace hs2:=aa (show cT (λ y=>cT (λ x=>ej (gh g x y)) r.a r.c) r.b (y+1)<=6400 from hs2.2);go_wp2_with (fail);go_loopw [5,7] (λ s i wx=>∃ x:Int,r.a<=x/\x<=r.c/\s=.int .i64 (S+cT (λ x=>ej (gh g x y)) r.a x)/\i=.int .i64 x/\W0=wx) (λ _ i _=>(r.c - intOf i).toNat)
    case atStart=>exact⟨r.a,oM,oM,by rw [jK oM];simp,rfl,rfl⟩
    case round =>
     obtain⟨x,hx0,hx1,rfl,rfl,rfl⟩:=hrel;have hx2:=yk (f:=λ x=>ej (gh g x y)) (m:=1) oM (λ i=>ym _) _ r.a x rfl;obtain⟨X,hX⟩:∃ X,cT (λ x=>ej (gh g x y)) r.a x=X:=⟨_,rfl⟩;rw [hX] at hx2 ⊢;have hxb:0<=X/\X<=80:=oM;clear hx2;by_cases hltx:x<r.c
     . have hon:ax x y=true:=by rw [onC_iff];omega
       have hcell:=hB0.2 (av x y) (eJ hon);have hat:=eJ hon;have hst:=uG (λ x=>ej (gh g x y)) hx0;rw [hX,gc hon] at hst;have hal:=aa (λ W=>kQ x y W hon);clear hX
       cases hg:g (av x y) with
       | true =>
         rw [hg] at hcell hst;replace hst:=aa (show cT (λ x=>ej (gh g x y)) r.a (x+1)=X+1 from hst);clear hg hon;go_wp2_with (first | (go_at_call 363;(with_reducible refine (hal.out _).mono ?_);rintro e w2 ⟨rfl,rfl⟩) | fail);go_roundw
         case rel=>exact⟨x+1,oM,oM,by rw [hst.out,Int.add_assoc],rfl,trivial⟩
         case measure=>exact mS
       | false =>
         rw [hg] at hcell hst;replace hst:=aa (show cT (λ x=>ej (gh g x y)) r.a (x+1)=X from by rw [hst];simp [ej]);clear hg hon;go_wp2_with (first | (go_at_call 363;(with_reducible refine (hal.out _).mono ?_);rintro e w2 ⟨rfl,rfl⟩) | fail);go_roundw
         case rel=>exact⟨x+1,oM,oM,by rw [hst.out],rfl,trivial⟩
         case measure=>exact mS
     . obtain rfl:x=r.c:=oM;replace hX:=aa hX;go_wp2_with (fail);go_roundw
       case rel=>exact⟨y+1,oM,oM,by rw [hrow.out,hX.out],rfl,trivial⟩
       case measure=>exact mS
  . obtain rfl:y=r.d:=oM;rw [hS];replace hS:=aa hS;go_wp2_with (fail);go_ret;exact⟨by rw [<-hS.out];rfl,E0⟩
theorem QC (s:Int)(w:World)(hs:ae s 4 40=true) :
 Calls prog 321 #[s] w (bH (gp s) w):=by
 obtain⟨i0,hi,hz0,hz1,hz2⟩:=aM ry;rw [wit_iff] at hs;obtain⟨s0,s1⟩:=hs;have ho0:(w.alloc (.cells #[] 139)).ownsRow w 139 4 (sm w 0 0 0) 0 []:=sT
 have hwl:=uJ s0;go_enter func321,ntmps321;go_wp2_with fail;go_loopw [3,4] (λ v i wr=>∃ (y:Int) (out:List Q4) (q:OA) (c:Nat),-40<=y/\y<=80/\v=sl q out.length c/\i=.int .i64 y/\Hid (gp s=out++gu s y)/\wr.ownsRow w 139 4 (sl q out.length c) out.length (out.flatMap aj)/\Ext w wr) (λ _ i _=>(80 - intOf i).toNat)
 case atStart=>exact⟨-40,[],_,_,oM,oM,rfl,rfl,rfl,ho0,(ab _).alloc _⟩
 case round =>
  clear ho0;obtain⟨y,out,q,c,hy0,hy1,rfl,rfl,hC,ho,hE⟩:=hrel;by_cases hy:y<40
  . have hC2:Hid (gp s=out++(iV s y (-40)++gu s (y+s))):=by show _=_;rw [hC.out,sg oM hy0 hy]
    clear hC;replace ho:=aa ho;go_wp2_with fail;go_loopw [3,5] (λ v i wr=>∃ (x:Int) (out:List Q4) (q:OA) (c:Nat),-40<=x/\x<=80/\v=sl q out.length c/\i=.int .i64 x/\Hid (gp s=out++(iV s y x++gu s (y+s)))/\wr.ownsRow w 139 4 (sl q out.length c) out.length (out.flatMap aj)/\Ext w wr) (λ _ i _=>(80 - intOf i).toNat)
    case atStart=>exact⟨-40,out,q,c,oM,oM,rfl,rfl,hC2,ho.out,hE⟩
    case round =>
     clear ho hE hC2;obtain⟨x,out,q,c,hx0,hx1,rfl,rfl,hC,ho,hE⟩:=hrel;have hlen:out.length<=420:=by have:=k9 List.length hC.out;rw [aI] at this;omega
     by_cases hx:x<40
     . have hC2:Hid (gp s=(out++[⟨x,y,min (x+s) 40,min (y+s) 40⟩])++(iV s y (x+s)++gu s (y+s))):=by
        show _=_;rw [hC.out,uI oM hx0 hx];simp
       clear hC;have hNl:=hE.le;replace ho:=aa ho
       all_goals
        exact zq
     . exact zU
  . exact At
theorem QD (base B c:Nat)(g:ac)(r:Q4)(w:World)(ho:w.ownsRow base 4 1 (sm B 0 6400 c) 6400 (ag g))(hv:vR r=true) :
 Calls prog 324 #[sm B 0 6400 c,.agg #[r.a,r.b,r.c,r.d]] w λ e w'=>e=.returned (sm B 0 6400 c)/\w'.ownsRow base 4 1 (sm B 0 6400 c) 6400 (ag (aU λ x y=>gh g x y||bj r x y))/\Mut w w' [B]:=by
 obtain⟨⟨a0,a1,a2⟩,b0,b1,b2⟩:=vR_iff.1 hv;have hBg:=dE ho B (by simp [ao]);have hBj:Hid (w.heap.size≠B):=aa oM;clear hBg hv;go_enter func324,ntmps324;go_upto_region 1 with (fail);generalize hW1:World.alloc _ _=W1;obtain⟨E1,z1,b1'⟩:=al hW1;clear hW1 z1;have hX1:=aa (E1.mut [B]);have ho1:=aa (aG ho E1);rw [tY] at ho1;have hb1:=aa (show Blk W1 w [r.a,r.b,r.c,r.d] _ from b1');have hb:=hb1;have g7:=hb.cells;have k0:=g7 0;have k1:=g7 1;have k2:=g7 2;have k3:=g7 3;simp only [aJ,aN] at k0 k1 k2 k3;have l7:=hb.lt;clear g7;clear hb E1 b1' ho;go_wp2_with (fail);go_loopw [5] (λ i wx=>∃ y:Int,i=.int .i64 y/\r.b<=y/\y<=r.d/\Hid (Mut w wx [B])/\Hid (wx.ownsRow base 4 1 (sm B 0 6400 c) 6400 (ag (aU (part (gh g) r (-2000) y))))/\Hid (Blk wx w [r.a,r.b,r.c,r.d] 139)) (λ i _=>(1100 - intOf i).toNat)
 case atStart=>exact⟨_,rfl,oM,oM,hX1,aa (by rw [<-rB _ r (ay (fW _))];exact ho1.out),hb1⟩
 case round =>
  clear hX1 ho1 hb1 k0 k1 k2 k3 l7;obtain⟨y,rfl,hy0,hy1,hX,ho,hb⟩:=hrel;have g7:=hb.cells;have k0:=g7 0;have k1:=g7 1;have k2:=g7 2;have k3:=g7 3;simp only [aJ,aN] at k0 k1 k2 k3;have l7:=hb.lt;clear g7;by_cases hyd:y<r.d
  . go_wp2_with (fail);go_loopw [6] (λ i wx=>∃ x:Int,i=.int .i64 x/\r.a<=x/\x<=r.c/\Hid (Mut w wx [B])/\Hid (wx.ownsRow base 4 1 (sm B 0 6400 c) 6400 (ag (aU (part (gh g) r (x) y))))/\Hid (Blk wx w [r.a,r.b,r.c,r.d] 139)) (λ i _=>(1100 - intOf i).toNat)
    case atStart=>exact⟨_,rfl,oM,oM,hX,aa (by rw [<-tZ _ r (ay (fW _))];exact ho.out),hb⟩
    case round =>
     clear hX ho hb k0 k1 k2 k3 l7;obtain⟨x,rfl,hx0,hx1,hX,ho,hb⟩:=hrel;have g7:=hb.cells;have k0:=g7 0;have k1:=g7 1;have k2:=g7 2;have k3:=g7 3;simp only [aJ,aN] at k0 k1 k2 k3;have l7:=hb.lt;clear g7;by_cases hxc:x<r.c
     . have hc:ax x y=true:=by rw [onC_iff];omega
       have hin:Hid (bj r x y=true):=by show _=_;rw [inR_iff];omega
       have hat:=eJ hc;have hatI:(av x y:Int)<6400:=oM;obtain⟨v0,e0⟩:=bO ho.out (av x y) oM;have hf:=ey ho.out;have hat2:=aa (λ W=>kQ x y W hc);replace hc:=aa hc;go_wp2_with (first | (go_at_call 363;refine (hat2.out _).mono ?_;rintro e w3 ⟨rfl,rfl⟩) | fail);go_roundw
       case rel=>exact⟨x+1,rfl,oM,oM,aa (hX.setCell (p:=⟨B,_,none⟩) (by simp) _),aa (by rw [<-ua _ r hc.out hin.out];exact f7 ho.out _ _),aa (hb.other _ _ hBj.out)⟩
       case measure=>exact mS
     . exact Ax
  . exact Bd
theorem QE {l:List Q4}{W:List Q4}{j:Nat}{r:Q4}{p:Int}(h:W[j]?=some r)(hd:fj (bJ l r) r p=false):ag (aU λ x y=>gh (gL ((W.take j).filter λ r=>!fj (bJ l r) r p)) x y||bj r x y)=ag (gL ((W.take (j+1)).filter λ r=>!fj (bJ l r) r p)):=by rw [rU,ch h,i8];simp [List.filter,hd]
theorem QF {l:List Q4}{W:List Q4}{j:Nat}{r:Q4}{p:Int}(h:W[j]?=some r)(hd:fj (bJ l r) r p=true):((W.take j).filter λ r=>!fj (bJ l r) r p)=((W.take (j+1)).filter λ r=>!fj (bJ l r) r p):=by rw [ch h,i8];simp [List.filter,hd]
theorem QG (q:OA)(n c:Nat)(l:List Q4)(s p:Int)(w:World)(h:SlT aj 4 w q n l)(hn:n<=1048576)(hr:aH l=true)(hs:ae s 4 40=true)(hp:ae p 1 100=true) :
 Calls prog 239 #[sl q n c,s,p] w (bH (mP l s p) w):=by
 obtain⟨i0,hi,hz0,hz1,hz2⟩:=aM iP;have hm:Hid (mP l s p=ah (oQ l s p)):=by show _=_;rw [mP,aw (by rw [hr,hs,hp];rfl)]
 have hv:=aa (eU (isReg_iff.1 hr).1).2;have hok:=kL q n c l w h hn;have hbi:=aa (λ W (hE:Ext w W)=>ji q n c l W (h.ext hE) hn hv.out);have k4:=aa (λ W=>QC s W hs);have hcb:=aa (λ(r:Q4) (hrv:vR r=true)=>(show bJ l r=fO (gh (gL l)) r/\0<=bJ l r/\bJ l r<=6400 from by have h9:=yn hr r (by have:=vR_iff.1 hrv;omega);refine⟨h9,?_⟩;rw [h9];exact yo _ r (by have:=vR_iff.1 hrv;omega)));have hwin:=aa (Gu (s:=s) (by have:=wit_iff.1 hs;omega));have hwl:=uJ (s:=s) (by have:=wit_iff.1 hs;omega);rw [hr] at hok;obtain⟨p0,p1⟩:=wit_iff.1 hp;obtain⟨s0,s1⟩:=wit_iff.1 hs;replace hok:=aa hok;obtain⟨WL,hWL⟩:∃ WL,gp s=WL:=⟨_,rfl⟩;rw [hWL] at k4 hwin hwl;have hmw:Hid (lQ l s p=WL.filter λ r=>!fj (bJ l r) r p):=aa (by rw [lQ,hWL]);clear hr hs hp hWL;go_enter func239,ntmps239;go_wp2_with (first | (go_at_call 161;(with_reducible refine (hok.out).mono ?_);rintro e w2 ⟨rfl,E2⟩;replace E2:=aa E2) | (go_at_call 159;(with_reducible refine (hbi.out _ E2.out).mono ?_);rintro e w3 ⟨B,rfl,o3,E3⟩;have t3:=aa (dH o3);replace E3:=aa (E2.trans E3);clear o3) | (refine ep _ rfl _ _ 238 rfl w3 4 i0 _ 1 underlying238 hi hz0 hz1 .i64 .i64 6400 6400 6400 rfl rfl rfl rfl (by rw [hz2];omega) (by unfold maxLen;omega) (ai _) ?_;intro w4 ho hg) | fail);rw [gF _ (.bool false) _ (by simp [Value.cells]) (by intro j hj;simp [Value.cells] at hj ⊢;subst hj;rfl),<-gH,show ag bo=ag (gL ((WL.take 0).filter λ r=>!fj (bJ l r) r p)) from by rw [jC];rfl] at ho;have hE4:Ext w3 w4:=(ab _).grown hg (λ _ h=>by cases h);have hX4:=aa (E3.trans hE4);have t4:=aa (t3.ext hE4);have hlt4:=aa (cM ho).2;have hneB:=aa (Nat.ne_of_lt t3.1);have hlo3:=aa E3.le;clear hg hE4 t3;replace ho:=aa ho;refine (k4.out _).mono ?_;rintro e w5 ⟨q5,c5,rfl,o5,E5⟩;have s5:=aa (bm (l:=WL) cw rfl o5);have hne5:=aa (λ(a:Addr) (ha:q5=some a)=>(show a.block∉[w3.heap.size] from λ h9=>by have h1:=(dE o5 a.block (mem_blkOf.2 ⟨a,ha,rfl⟩)).1;have:=hlt4.out;simp at h9;omega));have ho5:=aa (aG ho.out E5);have t5:=aa (t4.ext E5);have hX5:=aa (hX4.trans E5);clear o5 E5 t4 hX4 ho;go_wp2_with (fail);go_loopw [8,10] (λ v i wx=>∃ j:Nat,j<=WL.length/\v=sm w3 0 6400 6400/\i=.int .i64 j/\Hid (Ext w wx)/\Hid (SlT aj 4 wx q5 WL.length WL)/\Hid (Bits wx B (gL l))/\Hid (wx.ownsRow w3 4 1 (sm w3 0 6400 6400) 6400 (ag (gL ((WL.take j).filter λ r=>!fj (bJ l r) r p))))) (λ _ i _=>WL.length - (intOf i).toNat)
 case atStart=>exact⟨0,oM,rfl,rfl,hX5,s5,t5,ho5⟩
 case round =>
  clear hX5 s5 t5 ho5;obtain⟨j,hj,rfl,rfl,hX,hS,hB,hO⟩:=hrel;by_cases hjt:j<WL.length
  . have hjI:(j:Int)<(WL.length:Int):=oM;obtain⟨b,off,r,rfl,hbn,hs,c0,c1,c2,c3⟩:=hS.four hjt;have hrv:=hwin.out r (ap hs.out);obtain⟨cv9,cv0,cv1⟩:=hcb.out r hrv;obtain⟨a0,a1⟩:=uL hrv;have hco:=λ W (hE:Ext wr W)=>QB B 6400 (gL l) r W (hB.ext hE) hrv
    rw [<-cv9] at hco;have har:=λ W=>GD r W hrv
    rw [show mJ r=gA r from rfl] at har;have hin:=QE (l:=l) (p:=p) hs.out;have hout:=QF (l:=l) (p:=p) hs.out;have hdb:fj (bJ l r) r p=decide (p*gA r<=100*bJ l r):=rfl;clear cv9;obtain⟨C,hC⟩:∃ C,bJ l r=C:=⟨_,rfl⟩;obtain⟨A,hA⟩:∃ A,gA r=A:=⟨_,rfl⟩;rw [hC,hA] at hdb;rw [hC] at hco cv0 cv1 hin hout;rw [hA] at har a0 a1;have hpa:0<=p*A/\p*A<=640000:=⟨Int.mul_nonneg oM a0,by have:=Int.mul_le_mul p1 a1 a0 oM;omega⟩;have hw9:IntKind.i64.wrap (p*A)=p*A:=jS _ oM;replace hco:=aa hco;replace har:=aa har;replace hrv:=aa hrv;clear hC hA;by_cases hd:100*C<p*A
    . have hin2:=aa (hin (by rw [hdb];simp;omega));clear hin hout hdb;go_upto_region 9 with (fail);refine aQ kR kR ?_;repeat (go_big_quiet_step (first | (go_at_call 322;exact bh (hco.out _ (Later.ok _))) | (go_at_call 323;exact bh (har.out _)) | fail))
      refine bW ?_;rintro w9 ⟨⟨_,E9⟩,rfl⟩;have ho9:=aa (aG hO.out E9);have hS9:=aa (hS.ext E9);have hB9:=aa (hB.ext E9);have hX9:=aa (hX.trans E9);have k0:=(E9.cells _ _ hbn).trans c0;have k1:=(E9.cells _ _ hbn).trans c1;have k2:=(E9.cells _ _ hbn).trans c2;have k3:=(E9.cells _ _ hbn).trans c3;have kb:=aF hbn E9.le;clear c0 c1 c2 c3 hbn hO hS hB hX E9;have hfl:=aa (QD w3 w3 6400 _ r w9 ho9.out hrv.out);go_wp2_with (first | (go_at_call 324;(with_reducible refine (hfl.out).mono ?_);rintro e w10 ⟨rfl,o10,M10⟩) | fail);have ho10:=aa (show w10.ownsRow w3 4 1 (sm w3 0 6400 6400) 6400 (ag (gL ((WL.take (j+1)).filter λ r=>!fj (bJ l r) r p))) from by rw [<-hin2.out];exact o10);have hX10:=aa (hX9.then M10 (by intro k hk;simp at hk;rw [hk];exact hlo3.out));have hS10:=aa (hS9.mut M10 hne5.out);have hB10:=aa (hB9.mut M10 (by have:=hneB.out;simpa using this));clear M10 o10;go_wp2_with (fail);go_roundw
      case rel=>exact⟨j+1,oM,rfl,gN,hX10,hS10,hB10,ho10⟩
      case measure=>exact mS
    . have hout2:=aa (hout (by rw [hdb];simp;omega));clear hin hout hdb;go_upto_region 9 with (fail);refine aQ kR kR ?_;repeat (go_big_quiet_step (first | (go_at_call 322;exact bh (hco.out _ (Later.ok _))) | (go_at_call 323;exact bh (har.out _)) | fail))
      refine bW ?_;rintro w9 ⟨⟨_,E9⟩,rfl⟩;have ho9:=aG hO.out E9;have hS9:=aa (hS.ext E9);have hB9:=aa (hB.ext E9);have hX9:=aa (hX.trans E9);rw [hout2.out] at ho9;replace ho9:=aa ho9;clear c0 c1 c2 c3 hbn hO hS hB hX E9;go_wp2_with (fail);go_roundw
      case rel=>exact⟨j+1,oM,rfl,gN,hX9,hS9,hB9,ho9⟩
      case measure=>exact mS
  . have hjI:¬ (j:Int)<(WL.length:Int):=oM;rw [eE (show WL.length<=j by omega),<-hmw.out] at hO;obtain⟨f,hf⟩:∃ f:Nat->Bool,Hid (f=oQ l s p):=⟨_,aa rfl⟩;obtain⟨o,ho⟩:∃ o:ac,Hid (gL (lQ l s p)=o):=⟨_,aa rfl⟩;have hfo:Hid (∀ i,f i=(o i&&!gL l i)):=aa (λ i=>by rw [hf.out,<-ho.out,oQ]);rw [ho.out,<-yy f o] at hO;clear hS hcb hwin;go_wp2_with (fail);go_loopw [11] (λ i wx=>∃ j:Nat,j<=6400/\i=.int .i64 j/\Hid (Ext w wx)/\Hid (Bits wx B (gL l))/\Hid (wx.ownsRow w3 4 1 (sm w3 0 6400 6400) 6400 (ag (kq f o j)))) (λ i _=>6400 - (intOf i).toNat)
    case atStart=>exact⟨0,oM,rfl,hX,hB,hO⟩
    case round =>
     clear hX hB hO;obtain⟨j,hj,rfl,hX,hB,hO⟩:=hrel;have hlB:=hB.1;have hlO:=(cM hO.out).2;by_cases hjt:j<6400
     . have hjI:(j:Int)<6400:=oM;have hcB:=hB.2 j hjt;have hcO:=(dH hO.out).2 j hjt;rw [yz] at hcO;have hfr:=ey hO.out;have hst:=aa (yA f o j hjt);have hfj:=hfo.out j;obtain⟨vb,hvb⟩:∃ vb,gL l j=vb:=⟨_,rfl⟩;obtain⟨vo,hvo⟩:∃ vo,o j=vo:=⟨_,rfl⟩;rw [hvb] at hcB hfj;rw [hvo] at hcO hfj;clear hvb hvo;replace hfj:=aa hfj
       cases vo with
       | true => exact Ai
       | false => exact Ai
     . exact vv
def fK (l:List ShD) (j:Nat) (k:Int):Int->Int->Bool:=bA (((l.take j).filter λ s=>decide (s.a=k)).map (·.box))
theorem yD (l:List ShD)(j:Nat)(k:Int):fL (l.take j) k=aU (fK l j k):=rfl
theorem QH (A:List Q4)(r:Q4):(λ x y=>bA A x y||bj r x y)=bA (A++[r]):=by have h:=wD (l:=A++[r]) (k:=A.length) (r:=r) (by simp);rwa [List.take_left,show (A++[r]).take (A.length+1)=A++[r] from eE (by simp)] at h
theorem QI {l:List ShD}{j:Nat}{s:ShD}{k:Int}(h:l[j]?=some s)(he:s.a=k):aU (λ x y=>fK l j k x y||bj s.box x y)=aU (fK l (j+1) k):=by
 have e:fK l (j+1) k=bA ((((l.take j).filter λ s=>decide (s.a=k)).map (·.box))++[s.box]):=by rw [fK,ch h,i8,dT];simp [List.filter,he]
 rw [e,<-QH];rfl
theorem QJ (q:OA)(n c:Nat)(l:List ShD)(w:World)(h:SlT bg 5 w q n l)(hn:n<=4824)(hv:∀ s∈l,vR s.box=true) :
 Calls prog 99 #[sl q n c] w (FZ l w):=by
 obtain⟨i0,hi,hz0,hz1,hz2⟩:=aM rO;have hl:=aa h.length;replace hv:=aa hv;go_enter func99,ntmps99;go_upto_region 2 with (fail);have ho0:(w.alloc (.cells #[] 77)).ownsRow w 77 1 (sm w 0 0 0) 0 []:=sU
 generalize hW:w.alloc _=W0 at ho0 ⊢;have E0:Ext w W0:=by rw [<-hW];exact (ab _).alloc _
 clear hW;replace E0:=aa E0;replace ho0:=aa ho0;go_wp2_with (fail);go_loopw [3,4] (λ vo iv wr=>∃ (G:List ac) (qo:OA) (co:Nat) (H:List Hd),G.length<=8/\iv=.int .i64 G.length/\vo=sl qo G.length co/\Hid (G=oJ l G.length)/\Hid (OwnS w wr qo G.length co H (dG (G.map ah)))/\Hid (Ext w wr)) (λ _ i _=>8 - (intOf i).toNat)
 case atStart=>exact⟨[],_,_,[],by simp,rfl,rfl,rfl,OwnS.start ho0.out,E0⟩
 case round =>
  clear ho0 E0;obtain⟨G,qo,co,H,hk,rfl,rfl,hG,hoS,hE⟩:=hrel;obtain⟨wo,rfl⟩:∃ wo,wo=wr:=⟨_,rfl⟩;by_cases hlt:G.length<8
  . have hltI:(G.length:Int)<8:=oM;go_wp2_with (first | (go_at_call 159;refine (ji none 0 0 [] _ (SlT.zero _ _) oM (by simp)).mono ?_;rintro e w1 ⟨B,rfl,o1,E1⟩) | fail);have ho1:Hid (w1.ownsRow wo 4 1 (sm B 0 6400 6400) 6400 (ag (fL (l.take 0) (G.length:Int)))):=aa o1;have hX1:=aa E1;clear o1 E1;go_loopw [6] (λ i wx=>∃ j:Nat,j<=n/\i=.int .i64 j/\Hid (Ext wo wx)/\Hid (wx.ownsRow wo 4 1 (sm B 0 6400 6400) 6400 (ag (fL (l.take j) (G.length:Int))))) (λ i _=>n - (intOf i).toNat)
    case atStart=>exact⟨0,oM,rfl,hX1,ho1⟩
    case round =>
     clear hX1 ho1;obtain⟨j,hj,rfl,hX,ho⟩:=hrel;obtain⟨wj,rfl⟩:∃ wj,wj=wr:=⟨_,rfl⟩;by_cases hjt:j<n
     . have hjI:(j:Int)<(n:Int):=oM;obtain⟨b,off,s,rfl,hbn,hs,hc⟩:=h.get hjt;have d0:=aa (hc 0 _ rfl);rw [aq] at d0;have d1:=hc 1 _ rfl;have d2:=hc 2 _ rfl;have d3:=hc 3 _ rfl;have d4:=hc 4 _ rfl;clear hc;have hsv:=vR_iff.1 (hv.out s (ap hs.out));obtain⟨⟨a0,a1,a2⟩,b0,b1,b2⟩:=hsv;have EE:=hE.trans hX.out;have c1:=(EE.cells _ _ hbn).trans d1;have c2:=(EE.cells _ _ hbn).trans d2;have c3:=(EE.cells _ _ hbn).trans d3;have c4:=(EE.cells _ _ hbn).trans d4;have bn:=aF hbn EE.le;clear EE d1 d2 d3 d4;replace hbn:=aa hbn;have hBj:Hid (wj.heap.size≠B):=aa (by have:=(dE ho.out B (by simp [ao])).2;omega);go_wp2_with (fail);generalize hW2:World.alloc _ _=W2;obtain⟨E2,z2,b2'⟩:=al hW2;clear hW2 z2 c1 c2 c3 c4 bn;have hX2:=aa (hX.trans E2);have ho2:=aa (aG ho.out E2);have hb2:=aa (show Blk W2 wj [s.box.a,s.box.b,s.box.c,s.box.d] _ from b2');clear hX ho E2 b2';go_loopw [8] (λ i wx=>∃ y:Int,i=.int .i64 y/\s.box.b<=y/\y<=s.box.d/\(¬ s.a=(G.length:Int)->y=s.box.b)/\Hid (Ext wo wx)/\Hid (wx.ownsRow wo 4 1 (sm B 0 6400 6400) 6400 (ag (aU (part (fK l j (G.length:Int)) s.box (-2000) y))))/\Hid (Blk wx wj [s.box.a,s.box.b,s.box.c,s.box.d] 139)) (λ i _=>(1100 - intOf i).toNat)
       case atStart=>exact⟨_,rfl,oM,oM,λ _=>rfl,hX2,aa (by rw [<-rB _ s.box (ay (fW _)),<-yD];exact ho2.out),hb2⟩
       case round =>
        clear hX2 ho2 hb2;obtain⟨y,rfl,hy0,hy1,hyk,hX,ho,hb⟩:=hrel;have EE:=hE.trans hX.out;have c0:=(EE.cells _ _ hbn.out).trans d0.out;have bn:=aF hbn.out EE.le;have g7:=hb.cells;have k0:=g7 0;have k1:=g7 1;have k2:=g7 2;have k3:=g7 3;simp only [aJ,aN] at k0 k1 k2 k3;have l7:=hb.lt;clear g7;clear EE;replace hyk:=aa hyk;by_cases hka:s.a=(G.length:Int)
        . by_cases hyd:y<s.box.d
          . have hka2:=aa hka;go_wp2_with (fail);replace hka:=hka2;go_loopw [9] (λ i wx=>∃ x:Int,i=.int .i64 x/\s.box.a<=x/\x<=s.box.c/\Hid (Ext wo wx)/\Hid (wx.ownsRow wo 4 1 (sm B 0 6400 6400) 6400 (ag (aU (part (fK l j (G.length:Int)) s.box (x) y))))/\Hid (Blk wx wj [s.box.a,s.box.b,s.box.c,s.box.d] 139)) (λ i _=>(1100 - intOf i).toNat)
            case atStart=>exact⟨_,rfl,oM,oM,hX,aa (by rw [<-tZ _ s.box (ay (fW _))];exact ho.out),hb⟩
            case round =>
             clear hX ho hb c0 bn k0 k1 k2 k3 l7;obtain⟨x,rfl,hx0,hx1,hX,ho,hb⟩:=hrel;have EE:=hE.trans hX.out;have c0:=(EE.cells _ _ hbn.out).trans d0.out;have bn:=aF hbn.out EE.le;have g7:=hb.cells;have k0:=g7 0;have k1:=g7 1;have k2:=g7 2;have k3:=g7 3;simp only [aJ,aN] at k0 k1 k2 k3;have l7:=hb.lt;clear g7;clear EE;by_cases hxc:x<s.box.c
             . have hc:ax x y=true:=by rw [onC_iff];omega
               have hin:Hid (bj s.box x y=true):=by show _=_;rw [inR_iff];omega
               have hat:=eJ hc;have hatI:(av x y:Int)<6400:=oM;have hm:(y+40)*80+x+40=(av x y:Int):=by rw [av];rw [onC_iff] at hc;omega
               obtain⟨v0,e0⟩:=bO ho.out (av x y) oM;have hf:=ey ho.out;have hlo:=aa ((dE ho.out B (by simp [ao])).1);replace hc:=aa hc;go_wp2_with (fail);go_roundw
               case rel=>exact⟨x+1,rfl,oM,oM,aa (hX.setCell hlo.out _),aa (by rw [<-ua _ s.box hc.out hin.out];exact f7 ho.out _ _),aa (hb.other _ _ hBj.out)⟩
               case measure=>exact mS
             . rw [xk _ s.box (ay oM)] at ho;go_wp2_with (fail);go_roundw
               case rel=>exact⟨y+1,rfl,oM,oM,λ h=>absurd hka.out h,hX,ho,hb⟩
               case measure=>exact mS
          . rw [xm _ s.box (ay oM),QI hs.out hka,<-yD] at ho;exact AJ
        . have hy9:=hyk.out hka;subst hy9;rw [<-rB _ s.box (ay (fW _)),<-yD,F0 hs.out hka] at ho;exact AJ
     . have hjI:¬ (j:Int)<(n:Int):=oM;rw [cz hl.out oM] at ho;obtain⟨g,hg⟩:∃ g,Hid (fL l (G.length:Int)=g):=⟨_,aa rfl⟩;rw [hg.out] at ho;have hcl:=fC g;have hsz0:=aa (aS hE.le hX.le);have hbt:=aa (dH ho.out);go_wp2_with (first | (go_at_call 160;refine (kK B 6400 g _ hbt.out).mono ?_;rintro e w5 ⟨q5,c5,rfl,o5,E5⟩;have hO:=aa o5;have hE5:=aa E5;have htop:=aa (aG hoS.top (hX.trans E5));have hsz:=aS hsz0.out E5.le;clear o5 E5) | (at_builtin;refine cZ _ rfl _ _ 101 rfl w 77 i0 (.slice none 0 0) 1 24 underlying101 hi hz0 hz1 hz2 rfl oM _ _ _ rfl (htop.alloc _) ⟨_,0,none⟩ 1 1 [sl q5 (ah g).length c5] rfl rfl (nq _ _ _) (by intro u9 h9;simp at h9;subst h9;rfl) (cx oM oM) oM (by simp;omega) ?_;intro v' w9 ho' hg' _ hb';obtain⟨qa,ca,rfl⟩:=cq ho';replace ho':=aa ho';replace hg':=aa hg';replace hb':=aa hb') | fail);have pA:=hoS;exact CM
  . have pA:=hoS;exact C1
def sv (cells:List CeD) (k:Int) (w:World) (e:Ending) (w':World):Prop:=∃ (q:OA) (c:Nat) (H:List Hd),e=.returned (.tuple #[sl q (fp cells k).length c,.int .i64 (cX cells k)])/\OwnS w w' q (fp cells k).length c H (dG (fp cells k))/\Ext w w'
theorem qq {cells:List CeD}{k:Int}(h:cX cells k=0):fp cells k=mw (fg cells k) 8:=aw h
theorem Hp {cells:List CeD}{k:Int}(h:¬ cX cells k=0):fp cells k=[]:=ar h
theorem uU (l:List ShD)(n:Nat):(mw l n).length=n:=by simp [mw]
theorem Hq {cells:List CeD}{k:Int}(h:¬ cX cells k=0):fg cells k=[]:=by
 by_cases h0:dm cells k=0
 . by_cases h1:(aX cells (aA cells k)).all (λ s=>vR s.box)=true
   . exact absurd (rv h0 h1).1 h
   . exact (tU h0 (by simpa using h1)).2
 . exact (tT h0).2
theorem Hr {cells:List CeD}{k:Int}(h:cX cells k=0):(∀ s∈fg cells k,vR s.box=true)/\(fg cells k).length<=4824:=by
 by_cases h0:dm cells k=0
 . have hv:=OcV.of h0;by_cases h1:(aX cells (aA cells k)).all (λ s=>vR s.box)=true
   . rw [(rv h0 h1).2];refine⟨λ s hs=>(aL79.1 h1) s hs,?_⟩;have:=tV hv.lib (aA cells k);have:=hv.len;omega
   . have:=(tU h0 (by simpa using h1)).1;rw [h] at this
     cases this
 . have:=(tT h0).1;rw [h] at this;exact absurd this.symm h0
theorem QK (cells:List CeD)(k:Int)(p:OA)(n base:Nat)(w:World)(h:SlD CeR 4 base w p n cells)(hn:n<=1048576)(hf:∀ x∈cells,dp x) :
 Calls prog 65 #[.agg #[sl p n n],k] w (sv cells k w):=by
 have hfs:=λ W (hE:Ext w W)=>xW cells k p n base W (h.ext aL6 hE) hn hf
 obtain⟨C,hC⟩:∃ C,Hid (cX cells k=C):=⟨_,aa rfl⟩;by_cases h0:C=0
 . subst h0;have hok:=aa (Hr hC.out);have hLL:=aa (qq hC.out);obtain⟨L,hL⟩:∃ L,Hid (fg cells k=L):=⟨_,aa rfl⟩;have hfs0:Hid (∀ W,Ext w W->Calls prog 122 #[.agg #[sl p n n],k] W λ e w'=>∃ (q:OA) (c:Nat),e=.returned (.tuple #[sl q L.length c,.int .i64 0])/\SlT bg 5 w' q L.length L/\Ext W w'):=aa (λ W hE=>by have:=hfs W hE;unfold FsB at this;rw [hC.out,hL.out] at this;exact this);rw [hL.out] at hok hLL;clear hfs;go_enter func65,ntmps65;exact zJ
 . have hLL:=aa (Hp (cells:=cells) (k:=k) (by rw [hC.out];exact h0));have hSL:=aa (Hq (cells:=cells) (k:=k) (by rw [hC.out];exact h0));have hfs0:Hid (∀ W,Ext w W->Calls prog 122 #[.agg #[sl p n n],k] W λ e w'=>∃ (q:OA) (c:Nat),e=.returned (.tuple #[sl q 0 c,.int .i64 C])/\Ext W w'):=aa (λ W hE=>by refine (hfs W hE).mono ?_;rintro e w' ⟨q,c,h1,_,h4⟩;rw [hSL.out,hC.out] at h1;exact⟨q,c,h1,h4⟩);clear hfs;go_enter func65,ntmps65;exact zP
theorem QL (cells:List CeD)(k:Int)(p:OA)(n base:Nat)(w:World)(h:SlD CeR 4 base w p n cells)(hn:n<=1048576)(hf:∀ x∈cells,dp x) :
 Calls prog 48 #[.agg #[sl p n n],k] w (sv cells k w):=by
 have hfs:=λ W (hE:Ext w W)=>Gd cells k p n base W (h.ext aL6 hE) hn hf
 obtain⟨C,hC⟩:∃ C,Hid (cX cells k=C):=⟨_,aa rfl⟩;by_cases h0:C=0
 . subst h0;have hok:=aa (Hr hC.out);have hLL:=aa (qq hC.out);obtain⟨L,hL⟩:∃ L,Hid (fg cells k=L):=⟨_,aa rfl⟩;have hfs0:Hid (∀ W,Ext w W->Calls prog 98 #[.agg #[sl p n n],k] W λ e w'=>∃ (q:OA) (c:Nat),e=.returned (.tuple #[sl q L.length c,.int .i64 0])/\SlT bg 5 w' q L.length L/\Ext W w'):=aa (λ W hE=>by have:=hfs W hE;unfold FsB at this;rw [hC.out,hL.out] at this;exact this);rw [hL.out] at hok hLL;clear hfs;go_enter func48,ntmps48;exact zJ
 . have hLL:=aa (Hp (cells:=cells) (k:=k) (by rw [hC.out];exact h0));have hSL:=aa (Hq (cells:=cells) (k:=k) (by rw [hC.out];exact h0));have hfs0:Hid (∀ W,Ext w W->Calls prog 98 #[.agg #[sl p n n],k] W λ e w'=>∃ (q:OA) (c:Nat),e=.returned (.tuple #[sl q 0 c,.int .i64 C])/\Ext W w'):=aa (λ W hE=>by refine (hfs W hE).mono ?_;rintro e w' ⟨q,c,h1,_,h4⟩;rw [hSL.out,hC.out] at h1;exact⟨q,c,h1,h4⟩);clear hfs;go_enter func48,ntmps48;exact zP
end Go.Proofs.YtnlajnpcdnnpmaaGreat
