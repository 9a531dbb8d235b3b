/- Part of a proof. No condition. -/
import Derived.Test.YtnlajnpcdnnpmaaGreatA23
import Derived.Test.YtnlajnpcdnnpmaaGreatA19
namespace Go.Proofs.YtnlajnpcdnnpmaaGreat
set_option linter.all false
set_option maxRecDepth 100000
set_option maxHeartbeats 16000000
open Go.Proofs.Tryz Go.RowKit Go.PlainAid
structure OwI (e:TypeId) (sz:Nat) (w5 W:World) (BI:Nat) (bc:List Value) (bt:TypeId) (q:OA) (N c:Nat) (xs:List Value):Prop where
 ext:Ext w5 W
 own:W.ownsRow w5 e sz (sl q N c) N xs
 ne:∀ k,(Value.slice q N c).ownBlock=some k->k≠BI
 box:Blk W BI bc bt
theorem OwI.later {e bt:TypeId}{sz BI N c:Nat}{w5 W W':World}{bc xs:List Value}{q:OA}(h:OwI e sz w5 W BI bc bt q N c xs)(E:Ext W W'):OwI e sz w5 W' BI bc bt q N c xs:=⟨h.ext.trans E,aG h.own E,h.ne,h.box.ext E⟩
theorem OwI.push {e bt:TypeId}{sz BI N c ca:Nat}{w5 W wA:World}{bc xs ys:List Value}{q qa:OA}{ob:Obj}(h:OwI e sz w5 W BI bc bt q N c xs)(hoA:wA.ownsRow w5 e sz (sl qa (N+1) ca) (N+1) ys)(hgA:(W.alloc ob).grownBy wA (Value.slice q N c).ownBlock)
 (hbA:(Value.slice qa (N+1) ca).ownBlock=(Value.slice q N c).ownBlock\/(Value.slice qa (N+1) ca).ownBlock=some (W.alloc ob).heap.size):OwI e sz w5 wA BI bc bt qa (N+1) ca ys:=by
 have h5:=h.later ((ab W).alloc ob);have pA:=h;exact CZ
theorem xU (l:List ShD)(x:ShD):(l++[x]).flatMap bg=l.flatMap bg++bg x:=by simp
theorem rS {W:World}{b N c:Nat}{e:TypeId}{q:OA}{L:List ShD}(h:W.ownsRow b e 5 (sl q N c) N (L.flatMap bg)):L.length=N:=by have:=h.1;rw [kC tE] at this;omega
theorem uq (x:ShD):∀ u∈bg x,u.oneCell'=true:=λ u hu=>by simp [bg] at hu;rcases hu with rfl | rfl | rfl | rfl | rfl <;> rfl
theorem FS:(prog.info? 236).map (λ i=>(i.zero,i.size,i.bytes))=some (some (.agg #[(0:Int),(0:Int),(0:Int),(0:Int),(0:Int)]),5,40):=by kernel_rfl
theorem xV {cells:List CeD}{k:Nat}{x:CeD}(h:cells[k]?=some x):kJ cells (k:Int)=x.shs:=by rw [kJ,show ((k:Int)).toNat=k by omega,h]
theorem ur {cells:List CeD}{l:List Q4}{i:Nat}{x:Q4}(h:l[i]?=some x):aX cells (l.take (i+1))=aX cells (l.take i)++ms cells x:=by rw [ch h,aX,aX,dj];simp
theorem p8 {l:List ShD}{o:Q4}{j:Nat}{s:ShD}(h:l[j]?=some s):(l.take (j+1)).map (cQ o)=(l.take j).map (cQ o)++[cQ o s]:=by rw [ch h,dT];rfl
def kp (s:ShD):Bool:=vR s.box
theorem FT {cells:List CeD}{l:List Q4}{i j:Nat}{x:Q4}{s:ShD}{sh:List ShD}(hx:l[i]?=some x)(hs:kJ cells x.a=sh)(hj:sh[j]?=some s)(h:kp (cQ x s)=false):(aX cells l).all (λ s=>vR s.box)=false:=by rw [pc];refine⟨cQ x s,?_,by show ¬ kp (cQ x s)=true;rw [h];simp⟩;rw [aX,aL80];exact⟨x,ap hx,by rw [ms,hs];exact pg (ap hj)⟩
theorem FU {cells:List CeD}(hV:LibV cells){l:List Q4}(hl:l.length<=200){x:Q4}{sh:List ShD}(h24:sh.length<=24)(i j:Nat):(aX cells (l.take i)++(sh.take j).map (cQ x)).length<=4824:=by
 have h1:=tV hV (l.take i);have h2:(l.take i).length<=200:=by rw [fI];omega
 rw [aI,dD,fI];omega
def FsB (cells:List CeD) (k:Int) (w:World) (e:Ending) (w':World):Prop:=∃ (q:OA) (c:Nat),e=.returned (.tuple #[sl q (fg cells k).length c,.int .i64 (cX cells k)])/\SlT bg 5 w' q (fg cells k).length (fg cells k)/\Ext w w'
theorem FsB.err {cells:List CeD}{k v:Int}{w w':World}(h:cX cells k=v/\fg cells k=[])(E:Ext w w'):FsB cells k w (.returned (.tuple #[.slice none 0 0,.int .i64 v])) w' :=
 ⟨none,0,by rw [h.1,h.2];rfl,by rw [h.2];exact SlT.zero _ _,E⟩
theorem xW (cells:List CeD)(k:Int)(p:OA)(n base:Nat)(w:World)(h:SlD CeR 4 base w p n cells)(hn:n<=1048576)(hf:∀ x∈cells,dp x) :
 Calls prog 122 #[.agg #[sl p n n],k] w (FsB cells k w):=by
 have hl:=aa h.length;have hocc:=λ W (hE:Ext w W)=>FQ cells k p n base W (h.ext aL6 hE) hn hf
 by_cases h0:dm cells k=0
 . have hocv:=aa (OcV.of h0);have hV:=aa hocv.lib;have hM2:=aa hocv.len;have hL0:Hid (aA cells k=aA cells k):=rfl;replace h0:=aa h0;obtain⟨b,off,x0,cs0,rfl,hb0,_,_,_⟩:=h.get (show 0<n by have:=hV.len.1;have:=hl.out;omega);obtain⟨i0,hi0,hz0,hz1,hz2⟩:=aM FS;have hoc0:Hid (∀ W,Ext w W->Calls prog 185 #[.agg #[sm b off n n],k] W λ e w'=>∃ (q:OA) (c:Nat) (H:List cu),e=.returned (.tuple #[sl q (aA cells k).length c,.int .i64 0])/\OcO W w' q (aA cells k).length c H/\H.map Prod.fst=aA cells k/\Ext W w'):=aa (λ W hE=>by have:=hocc W hE;unfold OcB at this;rw [h0.out] at this;exact this);clear hocc;go_enter func122,ntmps122;go_upto_region 1 with (fail);generalize hW:World.alloc _ _=W0;obtain⟨E0,z0,b0⟩:=al hW;clear hW z0;replace b0:=cC b0;have⟨g0,l0⟩:=b0.gl;have E:=ab W0;go_wp2_with (first | (go_at_call 185;refine (hoc0.out _ (E0.trans E)).mono ?_;rintro e w5 ⟨q,c,H,rfl,hO,hval,E5⟩;have hEE:=aa (E0.trans (E.trans E5));have b5:=aa ((b0.ext E).ext E5);have hst:=aa hO.slt;replace hval:=aa hval;clear g0 l0 E E5 hO) | fail);have hE5:=hEE;obtain⟨M,hM⟩:∃ M,Hid (M=(aA cells k).length):=⟨_,aa rfl⟩;rw [<-hM.out] at hst;have hst0:=aa (dh (size:=5) (aD w5 [] 236) (ai _));go_loopw [8,26] (λ v z wr=>∃ (i:Nat) (q2:OA) (N2 c2:Nat),i<=(aA cells k).length/\v=sl q2 N2 c2/\z=.int .i64 (i:Int)/\Hid (wr.ownsRow w5 236 5 (sl q2 N2 c2) N2 ((aX cells ((aA cells k).take i)).flatMap bg))/\Ext w5 wr/\Hid ((aX cells ((aA cells k).take i)).all kp=true)) (λ _ z _=>(aA cells k).length - (intOf z).toNat)
   case atStart=>exact⟨0,_,_,_,oM,rfl,rfl,by simpa [aX] using hst0,(ab _).alloc _,by simp [aX,Hid]⟩
   case round =>
    clear hst0;obtain⟨i,q2,N2,c2,hi,rfl,rfl,hO,E6,hall⟩:=hrel;obtain⟨wo,rfl⟩:∃ wo,wo=wr:=⟨_,rfl⟩;by_cases hlt:i<(aA cells k).length
    . have hltI:(i:Int)<((aA cells k).length:Int):=oM;obtain⟨bq,oq,x,hqq,hbq,hx,hy⟩:=(hst.ext E6).get (by rw [hM.out];exact hlt);subst hqq;have hxL:Hid ((aA cells k)[i]?=some x.1):=by show _=_;rw [<-hval.out,cK,hx.out];rfl
      have hxm:=ap hxL.out;obtain⟨hok,htr⟩:=hocv.ok _ hxm;obtain⟨⟨xA,xb,xc,xd⟩,xq,xn,xp⟩:=x;obtain⟨xa,rfl⟩:∃ xa:Nat,xA=(xa:Int):=⟨xA.toNat,by have:=hok.1;exact (ju this.1).symm⟩;have hxn:xa<n:=by have h1:(xa:Int)<(cells.length:Int):=hok.1.2;have:=hl.out;omega
      have hob:0<=xb/\xb<=7:=hok.2.1;have hon:=aa (hok.near hV.out);clear hok htr hxm;have y0:wo.cell? (ad bq (oq+i*5))=si (xa:Int):=hy 0 _ rfl;have y1:wo.cell? (ad bq (oq+i*5+1))=si xb:=hy 1 _ rfl;have y2:wo.cell? (ad bq (oq+i*5+2))=si xc:=hy 2 _ rfl;have y3:wo.cell? (ad bq (oq+i*5+3))=si xd:=hy 3 _ rfl;have y4:wo.cell? (ad bq (oq+i*5+4))=ss xq xn xp:=hy 4 _ rfl;clear hy;obtain⟨bc,oc,ce,cs,hp,hbc,hce,hcs,hc⟩:=h.get hxn
      cases hp
      obtain⟨p1,n1,c1,p2,n2,c2',p3,n3,c3,rfl,s1,s2,s3⟩:=hcs;have z1:=aa (hc 1 _ rfl);clear hc s2 s3;replace s1:=aa s1;obtain⟨sh,hsh⟩:∃ sh,sh=ce.shs:=⟨_,rfl⟩;have hshA:Hid (kJ cells (xa:Int)=sh):=by show _=_;rw [xV hce.out,hsh]
      rw [<-hsh] at s1;have h24:Hid (sh.length<=24):=by show _<=_;rw [hsh];exact hV.shsLen _ _ hce.out
      have hsok:Hid (∀ s∈sh,vR s.box=true):=by show ∀ s∈sh,_;rw [hsh];exact λ s hs=>(hV.shs _ _ hce.out s hs).2
      have hsl:=aa s1.length;clear hsh hce;have hn1:n1<=24:=by have:=hsl.out;have:=h24.out;omega
      have x1:=(hEE.trans E6).cells _ (off+xa*4+1) hbc;rw [z1.out] at x1;have xl:=aF hbc (hEE.trans E6).le;have g0:=(b5.ext E6).cells 0;simp only [aJ] at g0;have l0:=(b5.ext E6).lt;go_upto_region 8 with (fail);generalize hW7:World.alloc _ _=W7;obtain⟨E7,z7,b7⟩:=al hW7;clear hW7 z7 y0 y1 y2 y3 y4;replace b7:=aa (show Blk W7 wo [(xa:Int),xb,xc,xd,sl xq xn xp] 233 from b7);replace x1:=(E7.cells _ _ xl).trans x1;replace xl:=aF xl E7.le;replace g0:=(E7.cells _ _ l0).trans g0;replace l0:=aF l0 E7.le;have g7:=b7.cells 0;simp only [aJ] at g7;have l7:=b7.lt;go_wp2_with (fail);have hI0:Hid (OwI 236 5 w5 W7 wo [.int .i64 (xa:Int),.int .i64 xb,.int .i64 xc,.int .i64 xd,sl xq xn xp] 233 q2 N2 c2 ((aX cells ((aA cells k).take i)++(sh.take 0).map (cQ ⟨(xa:Int),xb,xc,xd⟩)).flatMap bg)):=aa ⟨E6.trans E7,by simpa using aG hO.out E7,λ k hk=>by have:=(hO.lt k hk).2;omega,b7.out⟩;have hA0:Hid (((aX cells ((aA cells k).take i)++(sh.take 0).map (cQ ⟨(xa:Int),xb,xc,xd⟩))).all kp=true):=by simpa [Hid] using hall.out
      clear x1 xl g0 l0 g7 l7 b7 hO E7 hall;go_loopw [8,38] (λ v z wx=>∃ (j:Nat) (q2:OA) (N2 c2:Nat),j<=n1/\v=sl q2 N2 c2/\z=.int .i64 (j:Int)/\Hid (OwI 236 5 w5 wx wo [.int .i64 (xa:Int),.int .i64 xb,.int .i64 xc,.int .i64 xd,sl xq xn xp] 233 q2 N2 c2 ((aX cells ((aA cells k).take i)++(sh.take j).map (cQ ⟨(xa:Int),xb,xc,xd⟩)).flatMap bg))/\Hid ((aX cells ((aA cells k).take i)++(sh.take j).map (cQ ⟨(xa:Int),xb,xc,xd⟩)).all kp=true)) (λ _ z _=>n1 - (intOf z).toNat)
      case atStart=>exact⟨0,q2,N2,c2,oM,rfl,rfl,hI0,hA0⟩
      case round =>
       clear hI0 hA0;obtain⟨j,q2,N2,c2,hj,rfl,rfl,hO,hall⟩:=hrel;by_cases hjt:j<n1
       . have hjI:(j:Int)<(n1:Int):=oM;obtain⟨b3,o3,s,cs3,hq3,hb3,hs,hcs3,hc3⟩:=(s1.ext okShape (hEE.trans hO.ext)).get hjt;subst hq3;obtain rfl:cs3=bg s:=hcs3;have c0:=hc3 0 _ rfl;rw [aq] at c0;have c1:=hc3 1 _ rfl;have c2x:=hc3 2 _ rfl;have c3:=hc3 3 _ rfl;have c4:=hc3 4 _ rfl;clear hc3;have hsv:=aa (hsok.out s (ap hs.out));have hsr:=vR_iff.1 hsv.out;have gB:=hO.box.cells;have yB1:=gB 1;have yB2:=gB 2;have yB3:=gB 3;simp only [aJ,aN] at yB1 yB2 yB3;have lB:=hO.box.lt;clear gB;go_upto_region 11 with (fail);generalize hW8:World.alloc _ _=W8;obtain⟨E8,z8,b8⟩:=al hW8;clear hW8 z8 c0 c1 c2x c3 c4;replace b8:=aa (show Blk W8 wr [_,_,_,_,_] _ from b8);have⟨g8,l8⟩:=b8.gl;replace yB1:=(E8.cells _ _ lB).trans yB1;replace yB2:=(E8.cells _ _ lB).trans yB2;replace yB3:=(E8.cells _ _ lB).trans yB3;replace lB:=aF lB E8.le;have hO8:=aa (hO.later E8);have hroom:=FU (x:=⟨(xa:Int),xb,xc,xd⟩) hV.out hM2.out h24.out i j;rw [rS hO.own] at hroom;obtain⟨R,hR⟩:∃ R,Hid (cG ⟨xb,xc,xd⟩ s.box=R):=⟨_,aa rfl⟩;have hmv:Hid (∀ W,CE 186 #[.agg #[xb,xc,xd],.agg #[s.box.a,s.box.b,s.box.c,s.box.d]] W (.agg #[R.a,R.b,R.c,R.d])):=aa (λ W=>by have:=xO ⟨xb,xc,xd⟩ s.box W hob (hon.mono oM) (by unfold Nr2;simp only;omega) (by unfold Nr2;simp only;omega);rwa [hR.out] at this);have hvr:=λ W=>mA R W
         have hEk:Hid (cQ ⟨(xa:Int),xb,xc,xd⟩ s=⟨s.a,R⟩):=by show _=_;rw [<-hR.out];rfl
         have hok2:kp (cQ ⟨(xa:Int),xb,xc,xd⟩ s)=vR R:=by rw [hEk.out];rfl
         clear hO E8
         cases hvv:vR R with
         | false => have hr:=aa (tU h0.out (FT hxL.out hshA.out hs.out (hok2.trans hvv)));rw [hvv] at hvr;replace hvr:=aa hvr;clear hvv hok2;go_wp2_with (first | (go_at_call 186;(with_reducible refine (hmv.out _).mono ?_);rintro e w9 ⟨rfl,E9⟩;have b9:=aa (b8.ext E9);clear g8 l8 yB1 yB2 yB3 lB;have⟨g8,l8⟩:=b9.gl) | (go_at_call 187;(with_reducible refine (hvr.out _).mono ?_);rintro e w10 ⟨rfl,E10⟩) | fail);go_ret2;exact FsB.err hr.out (hEE.trans (hO8.ext.trans (E9.trans (((ab w9).alloc _).trans E10))))
         | true =>
           have hok3:=aa (hok2.trans hvv);rw [hvv] at hvr;replace hvr:=aa hvr;clear hvv hok2;go_wp2_with (first | (go_at_call 186;(with_reducible refine (hmv.out _).mono ?_);rintro e w9 ⟨rfl,E9⟩;have b9:=aa (b8.ext E9);clear g8 l8 yB1 yB2 yB3 lB;have⟨g8,l8⟩:=b9.gl) | (go_at_call 187;(with_reducible refine (hvr.out _).mono ?_);rintro e w10 ⟨rfl,E10⟩;have b10:=aa ((b9.alloc _).ext E10);have b11:=aa ((aD w9 [.int .i64 R.a,.int .i64 R.b,.int .i64 R.c,.int .i64 R.d] 139).ext E10);have hO9:=aa (((hO8.later E9).later ((ab _).alloc _)).later E10);have hlo:=aa hO9.ext.le;clear g8 l8;have⟨g10,l10⟩:=b10.gl;have⟨g11,l11⟩:=b11.gl) | (at_builtin;refine cZ _ rfl _ _ 159 rfl w5 236 i0 (.agg #[(0:Int),(0:Int),(0:Int),(0:Int),(0:Int)]) 5 40 underlying159 hi0 hz0 hz1 hz2 rfl oM _ _ _ rfl (cv hO9.own _) ⟨_,0,none⟩ 1 1 [.int .i64 s.a,.int .i64 R.a,.int .i64 R.b,.int .i64 R.c,.int .i64 R.d] rfl rfl (dg _ [_,_,_,_,_] _) (uq ⟨s.a,R⟩) (cx oM oM) oM (by have:=hlo.out;simp;omega) ?_;intro v2 wB hoB hgB hnB hbB;obtain⟨qB,cB,rfl⟩:=cq hoB) | fail);have hP:=aa (hO9.push (ys:=((aX cells ((aA cells k).take i)++(sh.take (j+1)).map (cQ ⟨(xa:Int),xb,xc,xd⟩))).flatMap bg) (by rw [p8 hs.out,<-fc,xU,hEk.out];exact hoB) hgB hbB);have hall2:Hid (((aX cells ((aA cells k).take i)++(sh.take (j+1)).map (cQ ⟨(xa:Int),xb,xc,xd⟩))).all kp=true):=by show _=_;rw [p8 hs.out,<-fc,nL,hall.out];simp [hok3.out]
           clear hoB hgB hbB hnB;go_wp2_with (fail);go_roundw
           case rel=>exact⟨j+1,qB,N2+1,cB,oM,rfl,gN,hP,hall2⟩
           case measure=>exact mS
       . have hjI:¬ (j:Int)<(n1:Int):=oM;have e1:Hid ((aX cells ((aA cells k).take i)++(sh.take j).map (cQ ⟨(xa:Int),xb,xc,xd⟩))=aX cells ((aA cells k).take (i+1))):=by show _=_;rw [cz hsl.out oM,ur hxL.out,ms,hshA.out]
         rw [e1.out] at hO hall;have hM200:=hM2.out;go_wp2_with (fail);go_roundw
         case rel=>exact⟨i+1,q2,N2,c2,oM,rfl,gN,aa hO.own,hO.ext,hall⟩
         case measure=>exact mS
    . have hltI:¬ (i:Int)<((aA cells k).length:Int):=oM;rw [cz rfl oM] at hO hall;have hr:=aa (rv h0.out hall.out);have hN:=aa (rS hO.out);replace E6:=aa E6;go_wp2_with (fail);go_ret2;exact⟨q2,c2,by rw [hr.1,hr.2,hN.out];rfl,by rw [hr.2,hN.out];exact bm tE hN.out hO.out,hEE.trans E6.out⟩
 . have hr:=aa (tT h0);have hL0:Hid (aA cells k=[]):=by show _=_;rw [aA,ar h0]
   obtain⟨C,hC⟩:∃ C,Hid (dm cells k=C):=⟨_,aa rfl⟩;have hC0:¬ C=0:=by rw [<-hC.out];exact h0
   have hoc0:Hid (∀ W,Ext w W->Calls prog 185 #[.agg #[sl p n n],k] W λ e w'=>∃ (q:OA) (c:Nat),e=.returned (.tuple #[sl q 0 c,.int .i64 C])/\Ext W w'):=aa (λ W hE=>by refine (hocc W hE).mono ?_;rintro e w' ⟨q,c,H,h1,_,_,h4⟩;rw [hL0.out,hC.out] at h1;exact⟨q,c,h1,h4⟩);rw [hC.out] at hr;clear hocc h0;go_enter func122,ntmps122;exact Aa
def mH (g h:ac) (m:Nat):ac:=λ i=>decide (i<m)&&(g i||h i)
theorem Ni (g h:ac):List.replicate 6400 (Value.bool false)=ag (mH g h 0):=by rw [<-gH];exact df λ i _=>by simp [bo,mH]
theorem Nj (g h:ac):ag (mH g h 6400)=ag (gP g h):=df λ i hi=>by rw [mH,gP];simp [hi]
theorem Nk (g h:ac)(m:Nat):(ag (mH g h m)).set m (.bool (g m||h m))=ag (mH g h (m+1)):=by
 rw [j9];refine df λ i _=>?_
 rw [ig,mH,mH];exact vE
theorem Nl (B1 B2 c1 c2:Nat)(g h:ac)(w:World)(b1:Bits w B1 g)(b2:Bits w B2 h) :
 Calls prog 312 #[sm B1 0 6400 c1,sm B2 0 6400 c2,(14:Int)] w (mB (gP g h) w):=by
 obtain⟨j0,hj,hy0,hy1,hy2⟩:=aM iP;have hb1:=aa b1;have hb2:=aa b2;clear b1 b2;go_enter func312,ntmps312;go_wp2_with (refine ep _ rfl _ _ 238 rfl w 4 j0 _ 1 underlying238 hj hy0 hy1 .i64 .i64 6400 6400 6400 rfl rfl rfl rfl (by rw [hy2];omega) (by unfold maxLen;omega) (by simp) ?_;intro w1 ho hg);rw [gF _ (.bool false) _ (by simp [Value.cells]) (by intro j hj;simp [Value.cells] at hj ⊢;subst hj;rfl),Ni g h] at ho;have hE:Ext w w1:=(ab _).grown hg (λ _ h=>by cases h);clear hg;obtain⟨N,hN⟩:∃ N,N=w.heap.size:=⟨_,rfl⟩;rw [<-hN] at ho ⊢;have hNw:w.heap.size<=N:=oM;replace hN:=aa hN;replace ho:=aa ho;go_loopw [8,9] (λ i _ wr=>∃ k:Nat,k<=6400/\i=.int .i64 k/\Hid (wr.ownsRow N 4 1 (sm N 0 6400 6400) 6400 (ag (mH g h k)))/\Ext w wr) (λ i _ _=>6400 - (intOf i).toNat)
 case atStart=>exact⟨0,oM,rfl,ho,hE⟩
 case round => have pA:=@Nk;have pB:=@Nj;exact CQ
theorem rT {w:World}{base g n size:Nat}{e:TypeId}{xs:List Value}(h:w.ownsRow base e size (sm g 0 n n) n xs):Blk w g xs e:=by
 obtain⟨h1,h2⟩:=h;rcases h2 with ⟨h2,_⟩ | ⟨g',cap,cur,hv,_,hh,_,_,hs,ht⟩
 . cases h2
 . cases hv
   have:cur.toList=xs:=by rw [<-ht,eE (by simp [hs])]
   rw [Blk,<-this];exact hh
theorem Bits.ofBlk {w:World}{B:Nat}{g:ac}{t:TypeId}(h:Blk w B (ag g) t):Bits w B g:=⟨h.lt,λ i hi=>by rw [h.cells i,dv _ hi]⟩
structure FlW (w:World) (N:Nat) (s:St) (q:OA) (c:Nat) (wr:World):Prop where
 inv:Inv s
 blk:Blk wr N (ag (gD s.1)) 4
 own:wr.ownsRow N 248 2 (sl q s.2.length c) s.2.length (s.2.flatMap jb)
 ne:Value.ownBlock (sl q s.2.length c)≠some N
 ext:Ext w wr
theorem FlW.later {w:World}{N:Nat}{s:St}{q:OA}{c:Nat}{a b:World}(h:FlW w N s q c a)(hE:Ext a b):FlW w N s q c b:=⟨h.inv,h.blk.ext hE,aG h.own hE,h.ne,h.ext.trans hE⟩
theorem Nm (B cb:Nat)(c:ac)(p:Q2)(w:World)(hb:Bits w B c)(hp:ax p.a p.b=true) :
 Calls prog 311 #[sm B 0 6400 cb,p.a,p.b,.bool false] w (mB (dA c false p) w):=by
 obtain⟨i0,hi,hz0,hz1,hz2⟩:=aM Fh;obtain⟨j0,hj,hy0,hy1,hy2⟩:=aM iP;have hpp:=aa hp;have hpb:=onC_iff.1 hp;obtain⟨⟨pa0,pa1⟩,pb0,pb1⟩:=hpb;have hat:=eJ hp;have hgs:=aa (rM (λ _ => -1) hp);have hBl:B<w.heap.size:=hb.1;have hbw:=aa hb;clear hp hb;obtain⟨N,hN⟩:∃ N,N=w.heap.size:=⟨_,rfl⟩;have hBN:B<N:=oM;go_enter func311,ntmps311;go_upto_region 2 with (refine ep _ rfl _ _ 238 rfl w 4 j0 _ 1 underlying238 hj hy0 hy1 .i64 .i64 6400 6400 6400 rfl rfl rfl rfl (by rw [hy2];omega) (by unfold maxLen;omega) (by simp) ?_;intro w1 ho hg);rw [gF _ (.bool false) _ (by simp [Value.cells]) (by intro j hj;simp [Value.cells] at hj ⊢;subst hj;rfl),<-gH,xH] at ho;have hE:Ext w w1:=(ab _).grown hg (λ _ h=>by cases h);have hb1:=rT ho;clear hg ho;rw [<-hN] at hb1 ⊢;have hNw:w.heap.size<=N:=oM;replace hN:=aa hN;have hs1:=hb1.lt;go_upto_region 3 with (fail);generalize hW:w1.alloc _=W2;obtain⟨E2,s2,b2⟩:=al hW;clear hW;have hb2:=hb1.ext E2;have z0:=hb2.cells (av p.a p.b);rw [dv _ hat] at z0;have fz:=hb2.free (av p.a p.b);have hN2:=hb2.lt;have hb3:=hb2.set (av p.a p.b) (.bool true);rw [hgs.out,xG] at hb3
 have hq3:(W2.setCell (ad N (av p.a p.b)) (.bool true)).ownsRow N 248 2 (sm w1 0 1 1) 1 ([p].flatMap jb):=by
  have hne:w1.heap.size≠N:=oM;have h9:(W2.setCell (ad N (av p.a p.b)) (.bool true)).heap[w1.heap.size]?=some (.cells #[.int .i64 p.a,.int .i64 p.b] 248 (0,0)):=by rw [jR _ _ _ _ hne];exact b2
  exact rL (n:=1) (size:=2) (cs:=[.int .i64 p.a,.int .i64 p.b]) h9 oM rfl (by simp [maxLen])
 have hst:FlW w N (eV p) (so w1 0) 1 (W2.setCell (ad N (av p.a p.b)) (.bool true)):=⟨rG hpp.out,hb3,hq3,(by simp [Value.ownBlock];omega),(hE.trans E2).setCell (p:=⟨N,_,none⟩) hNw _⟩;replace hst:=aa hst;clear hb3 hq3 b2 hb2 hb1 hE E2;go_wp2_with (go_at_call 226;refine (pT _ _ _ hpp.out).mono ?_;rintro e w' ⟨rfl,rfl⟩);clear z0 fz hat;clear hgs;go_loopw [10,11] (λ v i wr=>∃ (k:Nat) (s:St) (q:OA) (c':Nat),k<=s.2.length/\v=sl q s.2.length c'/\i=.int .i64 k/\Hid (jH c false (6401 - k) k s=lJ c false p)/\Hid (FlW w N s q c' wr)) (λ _ i _=>6401 - (intOf i).toNat)
 case atStart=>exact⟨0,eV p,_,_,oM,rfl,rfl,rfl,hst⟩
 case round =>
  clear hst;obtain⟨k,s,q,c',hk,rfl,rfl,hI,hw⟩:=hrel;have hsl:=hw.inv.len;by_cases hlt:k<s.2.length
  . have hkI:(k:Int)<(s.2.length:Int):=oM;obtain⟨pt,hpt⟩:∃ pt,Hid (s.2[k]?=some pt):=⟨_,bK hlt⟩;have hT:Hid (jH c false (6401 - (k+1)) (k+1) (ir c false pt 3 s)=lJ c false p):=by show _=_;rw [<-hI.out,show 6401 - k=(6401 - (k+1))+1 by omega,jH,jH,ug hpt.out]
    have hptb:=onC_iff.1 (hw.inv.on pt (ap hpt.out));obtain⟨⟨pt0,pt1⟩,pt2,pt3⟩:=hptb;obtain⟨T,hTT⟩:∃ T,T=ir c false pt 3 s:=⟨_,rfl⟩;rw [<-hTT] at hT;have hI2:Hid (ir c false pt 3 s=T/\s.2[k]?=some pt):=⟨hTT.symm,hpt.out⟩;clear hI hTT hpt;go_wp2;go_loopw [10,12] (λ vq j wr=>∃ (m:Nat) (s':St) (q':OA) (c':Nat),m<=3/\vq=sl q' s'.2.length c'/\j=.int .i64 (2 - m)/\Hid (ir c false pt m s'=T/\s'.2[k]?=some pt)/\Hid (FlW w N s' q' c' wr)) (λ _ j _=>(3 - intOf j).toNat)
    case atStart=>exact⟨3,s,_,_,oM,rfl,rfl,hI2,hw⟩
    case round =>
     clear hI2 hw;obtain⟨m,s',q',c',hm3,rfl,rfl,hI,hw⟩:=hrel
     cases m with
     | zero =>
       have hO:Hid (jH c false (6401 - (k+1)) (k+1) s'=lJ c false p):=by show _=_;rw [show s'=T from hI.1];exact hT.out
       have hkl:k<s'.2.length:=(aL31.1 hI.2).1;go_wp2;exact Bg
     | succ m =>
       obtain⟨dy,hdy⟩:∃ dy:Int,dy=1 - (m:Int):=⟨_,rfl⟩;have hdyb : -1<=dy/\dy<=1:=oM;have hdy2:(2:Int) - ((m+1:Nat):Int)=dy:=oM;have hdy3:Hid (Value.int .i64 (dy+1)=.int .i64 (2 - (m:Int))):=by show _=_;rw [hdy];congr 1;omega
       obtain⟨T2,hTT⟩:∃ T2,T2=jG c false pt dy 3 s':=⟨_,rfl⟩;have hT2:Hid (ir c false pt m T2=T):=by show _=_;rw [hTT,hdy];exact hI.1
       have hI2:Hid (jG c false pt dy 3 s'=T2/\s'.2[k]?=some pt):=⟨hTT.symm,hI.2⟩;rw [hdy2];replace hdy:=aa hdy;clear hI hTT hdy2;go_wp2;go_loopw [10,13] (λ vq j wr=>∃ (m:Nat) (s':St) (q':OA) (c':Nat),m<=3/\vq=sl q' s'.2.length c'/\j=.int .i64 (2 - m)/\Hid (jG c false pt dy m s'=T2/\s'.2[k]?=some pt)/\Hid (FlW w N s' q' c' wr)) (λ _ j _=>(3 - intOf j).toNat)
       case atStart=>exact⟨3,s',_,_,oM,rfl,rfl,hI2,hw⟩
       case round =>
        clear hI2 hw;obtain⟨j,s',q',c',hj3,rfl,rfl,hI,hw⟩:=hrel
        cases j with
        | zero =>
          have hI3:Hid (ir c false pt m s'=T/\s'.2[k]?=some pt):=⟨by rw [show s'=T2 from hI.1];exact hT2.out,hI.2⟩;go_wp2;go_roundw
          case rel=>exact⟨m,s',q',c',oM,rfl,hdy3.out,hI3,hw⟩
          case measure=>exact mS
        | succ j =>
          obtain⟨dx,hdx⟩:∃ dx:Int,dx=1 - (j:Int):=⟨_,rfl⟩;have hdxb : -1<=dx/\dx<=1:=oM;have hdx2:(2:Int) - ((j+1:Nat):Int)=dx:=oM;have hst:Hid (jG c false pt dy j (jk c false pt dx dy s')=T2):=by show _=_;rw [hdx];exact hI.1
          have hkl:k<s'.2.length:=(aL31.1 hI.2).1;have hsl':=hw.inv.len;rw [hdx2];replace hdx:=aa hdx;clear hdx2;have hs2:=bm (l:=s'.2) wg rfl hw.own;obtain⟨bq,oq,y,hq',hbq,hy,y0,y1⟩:=hs2.two hkl;obtain rfl:y=pt:=cJ (hy.symm.trans hI.2);subst hq';have hkI2:(k:Int)<(s'.2.length:Int):=oM;clear hs2 hy;have hw1:IntKind.i64.wrap (y.a+dx)=y.a+dx:=jS _ oM;have hw2:IntKind.i64.wrap (y.b+dy)=y.b+dy:=jS _ oM;have hk0:Hid (∀ V,Ext wr V->V.cell? (ad bq (oq+k*2))=si y.a/\V.cell? (ad bq (oq+k*2+1))=si y.b):=λ V hV=>⟨(hV.cells _ _ hbq).trans y0,(hV.cells _ _ hbq).trans y1⟩
          have hne:=World.new_ne wr _ y0;have hne1:=World.new_ne wr _ y1;go_wp2_with fail
          go_region_held3 (λ V=>V.cell? (ad bq (oq+k*2))=si y.a/\V.cell? (ad bq (oq+k*2+1))=si y.b)
           (exact hk0.out _ (by first | exact (ab _).drew | exact (ab _).drew.alloc _ | exact ((ab _).alloc _).drew))
           (fail)
          generalize hW:(wr.alloc (.cells #[.int .i64 (y.a+dx),.int .i64 (y.b+dy)] 248)).drew=W3;have hE3:Ext wr W3:=by rw [<-hW];exact ((ab _).alloc _).drew
          have hb3:Blk W3 wr [(y.a+dx:Int),(y.b+dy:Int)] 248:=by rw [<-hW];exact (aD _ _ _).drew
          clear hW;have hNl:=hw.blk.lt;have hw3:=aa (hw.later hE3);obtain⟨M,hM⟩:∃ M,M=wr.heap.size:=⟨_,rfl⟩;rw [<-hM] at hb3 ⊢;have hMN:M≠N:=oM;obtain⟨U,hU⟩:∃ U,U=y.a+dx:=⟨_,rfl⟩;obtain⟨V,hV⟩:∃ V,V=y.b+dy:=⟨_,rfl⟩;rw [<-hU,<-hV] at hb3 ⊢;have m0:=hb3.cells 0;have m1:=hb3.cells 1;simp only [aJ,aN] at m0 m1;have hMl:=hb3.lt;have hrel:Hid (∀ s2:St,jk c false y dx dy s'=s2->s2.2[k]?=some y->jG c false y dy j s2=T2/\s2.2[k]?=some y):=λ s2 e h2=>⟨by rw [<-e];exact hst.out,h2⟩
          have hH:∀ b,gh c U V=b->Hid (∀ W,Ext w W->CW 310 #[sm B 0 6400 cb,U,V] W (.bool b)):=λ b hb W hW=>by have:=xo B cb c U V W (hbw.ext hW);rw [hb] at this;exact this
          have hUV:Hid (U=y.a+dx/\V=y.b+dy):=⟨hU,hV⟩;have hUVb:(-1000<=U/\U<=1000)/\(-1000<=V/\V<=1000):=oM;clear hw hE3 hNl hk0 hne hne1 hw1 hw2 y0 y1 hbq hst hM hU hV;by_cases hA:dx=0\/dy=0
          . cases hg:gh c U V with
            | false =>
              have hH2:=hH _ hg;have hmv:=aa (hrel.out s' (iQ (aB (ay (by rw [<-hUV.1,<-hUV.2];exact hg)))) hI.2);clear hg hH hb3;rcases (show (dx=0/\dy=0)\/(dx=0/\¬ dy=0)\/(¬ dx=0/\dy=0) by omega) with ⟨rfl,rfl⟩ | ⟨rfl,hy0⟩ | ⟨hx0,rfl⟩
              all_goals
               go_wp2_with ((go_at_call 310;refine (hH2.out _ hw3.ext).mono ?_;rintro e w' ⟨rfl,rfl⟩));exact vC
            | true =>
              have hH2:=hH _ hg;have hoc:ax U V=true:=A7
              have hoc2:=aa hoc;have zn:=hw3.blk.cells (av U V);have hlt6:=eJ hoc;rw [dv _ hlt6] at zn;have hNl:=hw3.blk.lt;have fz:=hw3.blk.free (av U V);have hgD:=xI s'.1 (q:=⟨U,V⟩) hoc;simp only at hgD;have hat2:=aa (show (av U V:Int)=(V+40)*80+U+40 from by rw [onC_iff] at hoc;rw [av];omega);clear hH hoc;by_cases hD:0<=s'.1 ⟨U,V⟩
              . have hmv:=aa (hrel.out s' (iQ (aB (aB (by rw [<-hUV.1,<-hUV.2];exact hD)))) hI.2);rw [hgD,bl hD] at zn;clear hg hgD hD fz hb3;rcases (show (dx=0/\dy=0)\/(dx=0/\¬ dy=0)\/(¬ dx=0/\dy=0) by omega) with ⟨rfl,rfl⟩ | ⟨rfl,hy0⟩ | ⟨hx0,rfl⟩
                all_goals
                 go_wp2_with (first | (go_at_call 310;refine (hH2.out _ hw3.ext).mono ?_;rintro e w' ⟨rfl,rfl⟩) | (go_at_call 226;refine (pT _ _ _ hoc2.out).mono ?_;rintro e w' ⟨rfl,rfl⟩));exact vC
              . have hDn:s'.1 ⟨U,V⟩<0:=oM;have hst2:=nu (c:=c) (wide:=false) (p:=y) (dx:=dx) (dy:=dy) (s:=s') (ay hA) (by rw [<-hUV.1,<-hUV.2];exact hg) (by rw [<-hUV.1,<-hUV.2];exact hDn);rw [<-hUV.1,<-hUV.2] at hst2;have hInv2:=aa (hw3.inv.add (g:=bo) (v:=0) (uj hDn) hoc2.out oM oM);have hmv:=aa (hrel.out _ hst2 (by show (s'.2++[_])[k]?=_;rw [fm hkl];exact hI.2));rw [hgD,bU hD] at zn;have hw4:=aa (hw3.out);obtain⟨W4,hW4⟩:∃ W4,W4=W3.setCell (ad N (av U V)) (.bool true):=⟨_,rfl⟩;have r1:Blk W4 N (ag (gD (bS s'.1 ⟨U,V⟩ 0))) 4:=AL
                have r2:W4.ownsRow N 248 2 (sm bq oq s'.2.length c') s'.2.length (s'.2.flatMap jb):=by rw [hW4];exact tx hw3.own hw3.ne (av U V) (.bool true)
                have r3:Blk W4 M [U,V] 248:=by rw [hW4];exact hb3.other _ _ hMN
                have r4:Ext w W4:=by rw [hW4];exact hw3.ext.setCell (p:=(ad N (av U V))) hNw (.bool true)
                have hne9:=hw3.ne;have n0:=r3.cells 0;have n1:=r3.cells 1;simp only [aJ,aN] at n0 n1;have hMl4:=r3.lt;have hNl4:=r1.lt;have hNw4:=r4.le;have hN4:N<=W4.heap.size:=oM;replace hW4:=aa hW4.symm;replace r1:=aa r1;replace r2:=aa r2;replace r4:=aa r4;replace hne9:=aa hne9;clear hg hgD hD hst2 hDn hb3 hNw4 r3;rcases (show (dx=0/\dy=0)\/(dx=0/\¬ dy=0)\/(¬ dx=0/\dy=0) by omega) with ⟨rfl,rfl⟩ | ⟨rfl,hy0⟩ | ⟨hx0,rfl⟩
                all_goals
                 go_upto_region 16 with (first | (go_at_call 310;refine (hH2.out _ hw3.ext).mono ?_;rintro e w' ⟨rfl,rfl⟩) | (go_at_call 226;refine (pT _ _ _ hoc2.out).mono ?_;rintro e w' ⟨rfl,rfl⟩));rw [hW4.out];go_wp2_with (at_builtin;refine cZ _ rfl _ _ 385 rfl N 248 i0 (.agg #[(0:Int),(0:Int)]) 2 16 underlying385 hi hz0 hz1 hz2 rfl oM _ _ _ rfl (r2.alloc _) ⟨_,0,none⟩ 1 1 [.int .i64 U,.int .i64 V] rfl rfl (dg W4 [.int .i64 U,.int .i64 V] 248) (xv _ _) (cx oM oM) oM (by simp;omega) ?_;intro v' w6 ho' hg' _ hb';obtain⟨qa,ca,rfl⟩:=cq ho';have t4:=aa ((r4.alloc (.cells #[.int .i64 U,.int .i64 V] 248)).grown hg' (λ k hk=>by have:=(r2.lt k hk).1;omega));have t5:=aa (xw hne9.out hb' (by simp;omega));have t1:=aa ((r1.alloc (.cells #[.int .i64 U,.int .i64 V] 248)).grown hg' hne9.out);replace ho':=aa ho';clear hg' hb');go_roundw
                 case rel=>exact⟨j,_,qa,ca,oM,by show _=Value.slice _ (s'.2++[_]).length _;rw [aI];rfl,lN (by have:=hdx.out;omega),hmv,hInv2.out,t1.out,by show World.ownsRow _ _ _ _ (Value.slice _ (s'.2++[_]).length _) (s'.2++[_]).length ((s'.2++[_]).flatMap jb);rw [aI,dj];simpa [jb] using ho'.out,by show Value.ownBlock (.slice _ (s'.2++[_]).length _)≠_;rw [aI];exact t5.out,t4.out⟩
                 case measure=>simp [intOf] <;> omega
          . have hmv:=aa (hrel.out s' (iQ (ay ⟨hA,rfl⟩)) hI.2);have hx0:¬ dx=0:=λ h=>hA (ay h)
            have hy0:¬ dy=0:=λ h=>hA (aB h)
            clear hA hH hb3;go_wp2_with fail;exact vC
  . have hkI:¬ (k:Int)<(s.2.length:Int):=oM;have hfin:Hid (s=lJ c false p):=by show _=_;rw [<-hI.out,jH,xz oM]
    go_wp2;go_ret;exact⟨N,rfl,by rw [dA,<-hfin.out];exact rL (n:=6400) (size:=1) hw.blk hNw (by rw [j8]) (by simp [maxLen]),hw.ext⟩
end Go.Proofs.YtnlajnpcdnnpmaaGreat
