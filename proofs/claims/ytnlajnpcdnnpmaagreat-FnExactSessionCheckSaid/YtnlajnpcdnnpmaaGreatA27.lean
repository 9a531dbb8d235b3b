/- Part of a proof. No condition. -/
import Derived.Test.YtnlajnpcdnnpmaaGreatA26
namespace Go.Proofs.YtnlajnpcdnnpmaaGreat
set_option linter.all false
set_option maxRecDepth 100000
set_option maxHeartbeats 16000000
open Go.Proofs.Tryz Go.RowKit Go.PlainAid
def uA (l:List Int):Prop:=∀ x∈l,0<=x/\x<=1000000
theorem NP {l:List Int}{k:Nat}{x:Int}(h:Int)(hx:l[k]?=some x):hsh (hsL h (l.take k)) x=hsL h (l.take (k+1)):=by rw [hsL,hsL,ch hx,List.foldl_append];rfl
theorem F9 (h0:Int)(q:OA)(n c:Nat)(l:List Int)(w:World)(h:SlT bi 1 w q n l)(hn:n<=1048576)(hh:0<=h0/\h0<=2147483646)(hs:uA l) :
 CW 134 #[h0,sl q n c] w (hsL h0 l:Int):=by
 have hl:=aa h.length;replace hs:=aa hs;have hbd:=aa (λ k=>wZ hh (l.take k));go_enter func134,ntmps134;go_wp2_with (fail);go_loopw [0,9] (λ s i wx=>∃ j:Nat,j<=n/\s=.int .i64 (hsL h0 (l.take j))/\i=.int .i64 j/\w=wx) (λ _ i _=>n - (intOf i).toNat)
 case atStart=>exact⟨0,oM,by simp [hsL],rfl,rfl⟩
 case round =>
  obtain⟨j,hj,rfl,rfl,rfl⟩:=hrel;by_cases hjt:j<n
  . have hjI:(j:Int)<(n:Int):=oM;obtain⟨b,off,x,rfl,hbn,hx,x0⟩:=h.int hjt;obtain⟨xa,xb⟩:=hs.out x (ap hx.out);obtain⟨ba,bb⟩:=hbd.out j;have hst:=NP h0 hx.out;obtain⟨S,hS⟩:∃ S,hsL h0 (l.take j)=S:=⟨_,rfl⟩;rw [hS] at ba bb hst;rw [hS];replace hst:=aa (show (S*1000003+x+1) % 2147483647=hsL h0 (l.take (j+1)) from hst);clear hS;go_wp2_with (fail);go_roundw
    case rel=>exact⟨j+1,oM,by rw [<-hst.out],gN,trivial⟩
    case measure=>exact mS
  . have hjI:¬ (j:Int)<(n:Int):=oM;rw [cz hl.out oM];go_wp2_with (fail);exact kA
theorem Ga (h x:Int)(w:World)(hh:0<=h/\h<=2147483646)(hx:0<=x/\x<=1000000) :
 CW 106 #[h,x] w (hsh h x:Int):=by
 obtain⟨a,b⟩:=hh;obtain⟨c,d⟩:=hx;have he:=aa (show hsh h x=(h*1000003+x+1) % 2147483647 from rfl);go_enter func106,ntmps106;go_wp2_with (fail);go_ret;exact⟨cp he.symm,rfl⟩
theorem Gb {l:List Q4}{k:Nat}{r:Q4}(o:Int)(h:l[k]?=some r):(ef (l.take (k+1)) o).flatMap aj=(ef (l.take k) o).flatMap aj++aj (cG (ip o) r):=by rw [ef,ef,ch h,dT,dj];simp
theorem uB {r:Q4}(h:vR r=true):Nr2 1000000 ⟨r.a,r.b⟩/\Nr2 1000000 ⟨r.c,r.d⟩:=by rw [vR_iff] at h;unfold Nr2;simp only;omega
theorem Gc (l:List Q4)(n:Nat):jD l (n+1)=min (jD l n) (jg l ((n:Int)+1)):=rfl
def jo (l:List Q4) (o:Nat):Int:=if o=0 then -1 else jD l (o - 1)
theorem NQ (l:List Q4)(o:Nat):jo l (o+1)=if jo l o<0\/jg l (o:Int)<jo l o then jg l (o:Int) else jo l o:=by
 have hb:=rx l (o:Int)
 cases o with
 | zero=>simp [jo,jD]
 | succ o =>
   have h1:=pR l o;simp only [jo,Nat.add_one_ne_zero,if_false,Nat.add_sub_cancel];rw [Gc];have e:((o+1:Nat):Int)=(o:Int)+1:=oM;rw [e]
   split <;> omega
theorem NR (l:List Q4)(o:Nat) : -1<=jo l o/\jo l o<=2147483646:=by
 unfold jo
 split
 . omega
 . have:=pR l (o - 1);omega
theorem NS {l:List Q4}{j:Nat}{r:Q4}(dx dy:Int)(h:l[j]?=some r):ag (aU λ x y=>gh (gL ((l.take j).map (es dx dy))) x y||bj (es dx dy r) x y)=ag (gL ((l.take (j+1)).map (es dx dy))):=by rw [rU,ch h,dT];simp
theorem NT (h:Int)(r:Q4):hsL h [r.a+40,r.b+40,r.c+40,r.d+40]=xh h r:=rfl
theorem NU (q:OA)(n c:Nat)(l:List Q4)(w:World)(h:SlT aj 4 w q n l)(h0:0<n)(hn:n<=3200)(hv:∀ r∈l,vR r=true) :
 CE 135 #[sl q n c] w (mx l:Int):=by
 obtain⟨i0,hi,hz0,hz1,hz2⟩:=aM gm;have hl:=aa h.length;replace hv:=aa hv;go_enter func135,ntmps135;go_wp2_with (fail);go_loopw [3,17] (λ s i wx=>∃ o:Nat,o<=8/\s=.int .i64 (jo l o)/\i=.int .i64 o/\Hid (Ext w wx)) (λ _ i _=>8 - (intOf i).toNat)
 case atStart=>exact⟨0,oM,rfl,rfl,ab _⟩
 case round =>
  obtain⟨o,ho,rfl,rfl,hX⟩:=hrel;by_cases hot:o<8
  . have hoI:(o:Int)<8:=oM;obtain⟨sb0,sb1⟩:=NR l o;have hsg:=aa (NQ l o);have hvI:=aa (xf hv.out (o:=(o:Int)) oM);have hnv:=aa (EP hv.out (o:=(o:Int)) oM);have hil:=EK l (o:Int);rw [hl.out] at hil;obtain⟨S,hS⟩:∃ S,Hid (jo l o=S):=⟨_,aa rfl⟩;rw [hS.out] at sb0 sb1 hsg;rw [hS.out];clear hS;go_upto_region 6 with (fail);have ho0:=dh (size:=4) (aD wr [] 139) (ai _);generalize hW:wr.alloc _=W0 at ho0 ⊢;have E0:Ext wr W0:=by rw [<-hW];exact (ab _).alloc _
    clear hW;have ho1:=aa (show W0.ownsRow wr 139 4 (sm wr 0 0 0) 0 ((ef (l.take 0) (o:Int)).flatMap aj) from ho0);replace E0:=aa E0;clear ho0;obtain⟨wo,rfl⟩:∃ wo,wo=wr:=⟨wr,rfl⟩;go_wp2_with (fail);go_loopw [5,23] (λ v i wx=>∃ (k:Nat) (q5:OA) (c5:Nat),k<=n/\v=sl q5 k c5/\i=.int .i64 k/\Hid (wx.ownsRow wo 139 4 (sl q5 k c5) k ((ef (l.take k) (o:Int)).flatMap aj))/\Hid (Ext wo wx)) (λ _ i _=>n - (intOf i).toNat)
    case atStart=>exact⟨0,_,_,oM,rfl,rfl,ho1,E0⟩
    case round =>
     clear ho1 E0;obtain⟨k,q5,c5,hk,rfl,rfl,hO,hY⟩:=hrel;by_cases hkt:k<n
     . have hkI:(k:Int)<(n:Int):=oM;obtain⟨b,off,r,rfl,hbn,hr,c0,c1,c2,c3⟩:=(h.ext (hX.trans hY.out)).four hkt;have hrv:=hv.out r (ap hr.out);have hmv:=aa (λ W=>xO (ip (o:Int)) r W (by show 0<=(o:Int)/\(o:Int)<=7;omega) (by unfold Nr2 ip;simp) (uB hrv).1 (uB hrv).2);have hsn:=aa (Gb (o:Int) hr.out);obtain⟨m,hm⟩:∃ m,cG (ip (o:Int)) r=m:=⟨_,rfl⟩;rw [hm] at hmv hsn;clear hm hrv;go_upto_region 9 with (fail);generalize hW8:World.alloc _ _=W8;obtain⟨E8,z8,b8⟩:=al hW8;clear hW8 z8;replace b8:=aa (show Blk W8 wr [r.a,r.b,r.c,r.d] _ from b8);have⟨g8,l8⟩:=b8.gl;have hO8:=aa (aG hO.out E8);have hY8:=aa (hY.trans E8);clear E8 c0 c1 c2 c3 hbn hO hY;go_wp2_with (first | (go_at_call 186;(refine (hmv.out _).mono ?_);rintro e w9 ⟨rfl,E9⟩;have hO9:=aa (aG hO8.out E9);have hY9:=aa (hY8.trans E9);have hs9:=aa hY9.le) | (at_builtin;refine cZ _ rfl _ _ 77 rfl wo 139 i0 (.agg #[(0:Int),(0:Int),(0:Int),(0:Int)]) 4 32 underlying77 hi hz0 hz1 hz2 rfl oM _ _ _ rfl (cv hO9.out _) ⟨_,0,none⟩ 1 1 [.int .i64 m.a,.int .i64 m.b,.int .i64 m.c,.int .i64 m.d] rfl rfl (dg _ [_,_,_,_] _) (iq _ _ _ _) (cx oM oM) oM (by have:=hs9.out;simp;omega) ?_;intro v2 wA hoA hgA hnA hbA;obtain⟨qa,ca,rfl⟩:=cq hoA;have hYA:=aa ((hY9.alloc _).grown hgA (λ k hk=>(hO9.lt k hk).1));replace hoA:=aa hoA;clear hgA hnA hbA) | fail);exact sS
     . have hkI:¬ (k:Int)<(n:Int):=oM;obtain rfl:k=n:=oM;rw [eE (show l.length<=k by have:=hl.out;omega)] at hO;have s5:=aa (bm (l:=ef l (o:Int)) cw hil hO.out);obtain⟨I,hI⟩:∃ I,Hid (ef l (o:Int)=I):=⟨_,aa rfl⟩;rw [hI.out] at s5 hvI hil;have hbx:=aa (Fz q5 k c5 I wr s5.out h0 oM);have hbi:=tW (by rw [hil];exact h0) hvI.out;have hnr:Hid (lF l (o:Int)=I.map (es (-40 - (dz I).a) (-40 - (dz I).b))):=aa (by rw [lF,hI.out]);obtain⟨X,hXe⟩:∃ X,dz I=X:=⟨_,rfl⟩;rw [hXe] at hbx hbi hnr;obtain⟨⟨xa0,xa1⟩,⟨xb0,xb1⟩,-⟩:=hbi;have hnv2:Hid (∀ r∈I,iN (es (-40 - X.a) (-40 - X.b) r)):=aa (λ r hr=>iO (hnv.out _ (by rw [hnr.out];exact pg hr)));have hI40:=hvI;clear hXe hO;go_upto_region 12 with (first | (go_at_call 205;(with_reducible refine hbx.out.mono ?_);rintro e w9 ⟨rfl,E9⟩;have hY9:=aa (hY.trans E9);have s9:=aa (s5.ext E9)) | fail);generalize hW8:World.alloc (World.alloc _ _) _=W8;obtain⟨E8,z8,b8,b9⟩:=bV hW8;clear hW8 z8;rw [lG] at b8;have hb8:Hid (Blk W8 w9 (ag (gL ((I.take 0).map (es (-40 - X.a) (-40 - X.b))))) 269):=aa (by show W8.heap[w9.heap.size]?=_;rw [b8];simp only [List.take_zero,nG,gL,<-jC]);replace b9:=aa (show Blk W8 (w9+1) [X.a,X.b,X.c,X.d] _ from b9);have⟨g9,l9⟩:=b9.gl;have E98:=aa E8;clear b8 E8 hY;refine aQ kR kR ?_;repeat (go_big_quiet_step (fail))
       refine bW ?_;rintro wL ⟨⟨_,EL⟩,rfl⟩;replace hb8:=aa (hb8.ext EL);replace E98:=aa (E98.trans EL);obtain⟨dx,hdx⟩:∃ dx,-40 - X.a=dx:=⟨_,rfl⟩;obtain⟨dy,hdy⟩:∃ dy,-40 - X.b=dy:=⟨_,rfl⟩;rw [hdx,hdy] at hb8 hnv2 hnr;rw [hdx,hdy];have hdxb : -80<=dx/\dx<=0:=oM;have hdyb : -80<=dy/\dy<=0:=oM;clear g9 l9 b9 EL hdx hdy;go_wp2_with (fail);go_loopw [47] (λ i wx=>∃ j:Nat,j<=k/\i=.int .i64 j/\Hid (Ext w9 wx)/\Hid (Blk wx w9 (ag (gL ((I.take j).map (es dx dy)))) 269)) (λ i _=>k - (intOf i).toNat)
       case atStart=>exact⟨0,oM,rfl,E98,hb8⟩
       case round =>
        clear E98 hb8;obtain⟨j,hj,rfl,hZ,hb⟩:=hrel;have hBl:=hb.lt;by_cases hjt:j<k
        . have hjI:(j:Int)<(k:Int):=oM;obtain⟨b2,off2,r,rfl,hbn,hr,c0,c1,c2,c3⟩:=(s9.ext hZ.out).four hjt;obtain⟨⟨r0,r1⟩,⟨r2,r3⟩,⟨r4,r5⟩,r6,r7⟩:=hI40.out r (ap hr.out);have hnr2:=aa (hnv2.out r (ap hr.out));have hst:=aa (NS dx dy hr.out);have hbA:=λ(o:Obj)=>aa (hb.alloc o)
          go_wp2_with (first | (go_at_call 188;(refine (nr w9 _ (es dx dy r) _ (hbA _).out hnr2.out).mono ?_);rintro e w10 ⟨rfl,hb2,hM⟩) | fail);have hb3:=aa (show Blk w10 w9 (ag (gL ((I.take (j+1)).map (es dx dy)))) 269 from by rw [<-hst.out];exact hb2);have hZ3:=aa ((hZ.alloc (.cells #[.int .i64 r.a,.int .i64 r.b,.int .i64 r.c,.int .i64 r.d] 139)).then hM (by intro k hk;simp at hk;rw [hk];exact ai _));clear hM hb2;go_wp2_with (fail);go_roundw
          case rel=>exact⟨j+1,oM,gN,hZ3,hb3⟩
          case measure=>exact mS
        . have hjI:¬ (j:Int)<(k:Int):=oM;rw [eE (show I.length<=j by omega),<-hnr.out] at hb;obtain⟨Rg,hRg⟩:∃ Rg,Hid (ah (gL (lF l (o:Int)))=Rg):=⟨_,aa rfl⟩;have hRl:Rg.length<=3200:=by rw [<-hRg.out];exact fC _
          have hRv:=aa (show ∀ r∈Rg,vR r=true from by rw [<-hRg.out];exact iR (ik _));have hre:=mD w9 (gL (lF l (o:Int))) wr hb.out;rw [hRg.out] at hre;replace hre:=aa hre;have hhs:Hid (jg l (o:Int)=eT 17 Rg):=aa (by rw [jg,hRg.out]);have hZw:=aa ((hX.trans hY9.out).trans hZ.out);clear hb hBl s9 s5 hI40 hnv2 hnr hZ;go_wp2_with (first | (go_at_call 189;(with_reducible refine (hre.out).mono ?_);rintro e w11 ⟨q11,c11,rfl,o11,E11⟩;have s11:=aa (bm (l:=Rg) cw rfl o11);have hQ:=aa (hZw.trans E11);clear o11) | fail);go_loopw [14,74] (λ s i wx=>∃ j:Nat,j<=Rg.length/\s=.int .i64 (eT 17 (Rg.take j))/\i=.int .i64 j/\Hid (Ext w11 wx)) (λ _ i _=>Rg.length - (intOf i).toNat)
          case atStart=>exact⟨0,oM,by simp [eT],rfl,ab _⟩
          case round =>
           obtain⟨j,hj,rfl,rfl,hE⟩:=hrel;by_cases hjt:j<Rg.length
           . have hjI:(j:Int)<(Rg.length:Int):=oM;obtain⟨b2,off2,r,rfl,hbn,hr,c0,c1,c2,c3⟩:=(s11.ext hE.out).four hjt;obtain⟨⟨r0,r1,r2⟩,r3,r4,r5⟩:=vR_iff.1 (hRv.out r (ap hr.out));obtain⟨hc0,hc1⟩:=tX (h:=17) oM (Rg.take j);have hst:=aa (EQ 17 hr.out);obtain⟨T,hT⟩:∃ T,eT 17 (Rg.take j)=T:=⟨_,rfl⟩;rw [hT] at hc0 hc1 hst;rw [hT];clear hT;have hha:=aa (λ(W:World) (q1:OA) (hs:SlT bi 1 W q1 4 [r.a+40,r.b+40,r.c+40,r.d+40])=>F9 T q1 4 4 [r.a+40,r.b+40,r.c+40,r.d+40] W hs oM ⟨hc0,hc1⟩ (by intro x hx;simp at hx;rcases hx with rfl | rfl | rfl | rfl <;> omega));go_upto_region 22 with (fail);generalize hW2:World.alloc _ _=W2;obtain⟨E2,z2,b2x⟩:=al hW2;clear hW2 z2;replace b2x:=aa (show Blk W2 wr [r.a,r.b,r.c,r.d] _ from b2x);have⟨g2,l2⟩:=b2x.gl;have hE2:=aa (hE.trans E2);clear c0 c1 c2 c3 hbn hE E2;go_wp2_with (first | (go_at_call 134;(refine (hha.out _ _ (SlT.of_blk (enc:=bi) (l:=[r.a+40,r.b+40,r.c+40,r.d+40]) nV (aD W2 [.int .i64 (r.a+40),.int .i64 (r.b+40),.int .i64 (r.c+40),.int .i64 (r.d+40)] 2))).mono ?_);rintro e w12 ⟨rfl,rfl⟩) | fail);rw [NT,hst.out];go_roundw
             case rel=>exact⟨j+1,oM,rfl,gN,aa (hE2.alloc _)⟩
             case measure=>exact mS
           . have hjI:¬ (j:Int)<(Rg.length:Int):=oM;rw [eE (show Rg.length<=j by omega),<-hhs.out];have hfin:=aa (hQ.trans hE.out);have hH:=rx l (o:Int);obtain⟨V,hV⟩:∃ V,jg l (o:Int)=V:=⟨_,rfl⟩;rw [hV] at hsg hH;rw [hV];clear hV hhs;by_cases hS0:S<0
             . have hv2:Hid (jo l (o+1)=V):=aa (by rw [hsg.out,aw (ay hS0)]);exact vB
             . by_cases hS1:V<S
               . have hv2:Hid (jo l (o+1)=V):=aa (by rw [hsg.out,aw (aB hS1)]);exact vB
               . have hv2:Hid (jo l (o+1)=S):=aa (by rw [hsg.out,ar oM]);exact vB
  . have hoI:¬ (o:Int)<8:=oM;obtain rfl:o=8:=oM;go_wp2_with (fail);go_ret;exact⟨rfl,hX.out⟩
theorem OwI.push2 {e bt:TypeId}{sz BI N c ca:Nat}{w5 W5 wA:World}{bc xs ys:List Value}{q qa:OA}(h5:OwI e sz w5 W5 BI bc bt q N c xs)(hoA:wA.ownsRow w5 e sz (sl qa (N+1) ca) (N+1) ys)(hgA:W5.grownBy wA (Value.slice q N c).ownBlock)
 (hbA:(Value.slice qa (N+1) ca).ownBlock=(Value.slice q N c).ownBlock\/(Value.slice qa (N+1) ca).ownBlock=some W5.heap.size):OwI e sz w5 wA BI bc bt qa (N+1) ca ys:=by
 have pA:=h5;exact CZ
theorem NV (r:Q4):nX r=vR r:=by rw [aL62,vR_iff,tF]
theorem NX (r:Q4)(w:World):CE 158 #[.agg #[r.a,r.b,r.c,r.d]] w (.bool (vR r)):=by rw [<-NV];exact wk r w
theorem Gd (cells:List CeD)(k:Int)(p:OA)(n base:Nat)(w:World)(h:SlD CeR 4 base w p n cells)(hn:n<=1048576)(hf:∀ x∈cells,dp x) :
 Calls prog 98 #[.agg #[sl p n n],k] w (FsB cells k w):=by
 have hl:=aa h.length;have hocc:=λ W (hE:Ext w W)=>FR cells k p n base W (h.ext aL6 hE) hn hf
 by_cases h0:dm cells k=0
 . have hocv:=aa (OcV.of h0);have hV:=aa hocv.lib;have hM2:=aa hocv.len;have hL0:Hid (aA cells k=aA cells k):=rfl;replace h0:=aa h0;obtain⟨b,off,x0,cs0,rfl,hb0,_,_,_⟩:=h.get (show 0<n by have:=hV.len.1;have:=hl.out;omega);obtain⟨i0,hi0,hz0,hz1,hz2⟩:=aM FS;have hoc0:Hid (∀ W,Ext w W->Calls prog 156 #[.agg #[sm b off n n],k] W λ e w'=>∃ (q:OA) (c:Nat) (H:List cu),e=.returned (.tuple #[sl q (aA cells k).length c,.int .i64 0])/\OcO W w' q (aA cells k).length c H/\H.map Prod.fst=aA cells k/\Ext W w'):=aa (λ W hE=>by have:=hocc W hE;unfold OcB at this;rw [h0.out] at this;exact this);clear hocc;go_enter func98,ntmps98;go_upto_region 1 with (fail);generalize hW:World.alloc _ _=W0;obtain⟨E0,z0,b0⟩:=al hW;clear hW z0;replace b0:=cC b0;have⟨g0,l0⟩:=b0.gl;have E:=ab W0;go_wp2_with (first | (go_at_call 156;refine (hoc0.out _ (E0.trans E)).mono ?_;rintro e w5 ⟨q,c,H,rfl,hO,hval,E5⟩;have hEE:=aa (E0.trans (E.trans E5));have b5:=aa ((b0.ext E).ext E5);have hst:=aa hO.slt;replace hval:=aa hval;clear g0 l0 E E5 hO) | fail);have hE5:=hEE;obtain⟨M,hM⟩:∃ M,Hid (M=(aA cells k).length):=⟨_,aa rfl⟩;rw [<-hM.out] at hst;have hst0:=aa (dh (size:=5) (aD w5 [] 236) (ai _));go_loopw [8,9] (λ v z wr=>∃ (i:Nat) (q2:OA) (N2 c2:Nat),i<=(aA cells k).length/\v=sl q2 N2 c2/\z=.int .i64 (i:Int)/\Hid (wr.ownsRow w5 236 5 (sl q2 N2 c2) N2 ((aX cells ((aA cells k).take i)).flatMap bg))/\Ext w5 wr/\Hid ((aX cells ((aA cells k).take i)).all kp=true)) (λ _ z _=>(aA cells k).length - (intOf z).toNat)
   case atStart=>exact⟨0,_,_,_,oM,rfl,rfl,by simpa [aX] using hst0,(ab _).alloc _,by simp [aX,Hid]⟩
   case round =>
    clear hst0;obtain⟨i,q2,N2,c2',hi,rfl,rfl,hO,E6,hall⟩:=hrel;obtain⟨wo,rfl⟩:∃ wo,wo=wr:=⟨_,rfl⟩;by_cases hlt:i<(aA cells k).length
    . have hltI:(i:Int)<((aA cells k).length:Int):=oM;obtain⟨bq,oq,x,hqq,hbq,hx,hy⟩:=hst.get (by rw [hM.out];exact hlt);subst hqq;have hxL:Hid ((aA cells k)[i]?=some x.1):=by show _=_;rw [<-hval.out,cK,hx.out];rfl
      have hxm:=ap hxL.out;obtain⟨hok,htr⟩:=hocv.ok _ hxm;obtain⟨⟨xA,xb,xc,xd⟩,xq,xn,xp⟩:=x;obtain⟨xa,rfl⟩:∃ xa:Nat,xA=(xa:Int):=⟨xA.toNat,by have:=hok.1;exact (ju this.1).symm⟩;have hxn:xa<n:=by have h1:(xa:Int)<(cells.length:Int):=hok.1.2;have:=hl.out;omega
      have hxI:(xa:Int)<(n:Int):=oM;have hob:0<=xb/\xb<=7:=hok.2.1;have hon:=aa (hok.near hV.out);clear hok htr hxm;have y0:Hid (w5.cell? (ad bq (oq+i*5))=si (xa:Int)):=hy 0 _ rfl;have y1:Hid (w5.cell? (ad bq (oq+i*5+1))=si xb):=hy 1 _ rfl;have y2:Hid (w5.cell? (ad bq (oq+i*5+2))=si xc):=hy 2 _ rfl;have y3:Hid (w5.cell? (ad bq (oq+i*5+3))=si xd):=hy 3 _ rfl;clear hy;obtain⟨bc,oc,ce,cs,hp,hbc,hce,hcs,hc⟩:=h.get hxn
      cases hp
      obtain⟨p1,n1,c1,p2,n2,c2,p3,n3,c3,rfl,s1,s2,s3⟩:=hcs;have k0:=aa (hc 0 _ rfl);rw [aq] at k0;have k1:=aa (hc 1 _ rfl);have k2:=aa (hc 2 _ rfl);have k3:=aa (hc 3 _ rfl);clear hc s2 s3;replace s1:=aa s1;obtain⟨sh,hsh⟩:∃ sh,sh=ce.shs:=⟨_,rfl⟩;have hshA:Hid (kJ cells (xa:Int)=sh):=by show _=_;rw [xV hce.out,hsh]
      rw [<-hsh] at s1;have h24:Hid (sh.length<=24):=by show _<=_;rw [hsh];exact hV.shsLen _ _ hce.out
      have hsok:Hid (∀ s∈sh,vR s.box=true):=by show ∀ s∈sh,_;rw [hsh];exact λ s hs=>(hV.shs _ _ hce.out s hs).2
      have hsl:=aa s1.length;clear hsh hce;have hn1:n1<=24:=by have:=hsl.out;have:=h24.out;omega
      have hEB:Hid (Ext w wo):=aa (hEE.trans E6);have hS:Hid (∀ W,Ext wo W->W.cell? (ad w 0)=sq b off n n/\W.cell? (ad bq (oq+i*5))=si (xa:Int)/\W.cell? (ad b (off+xa*4))=some (.string ce.s)/\W.cell? (ad b (off+xa*4+1))=ss p1 n1 c1/\W.cell? (ad b (off+xa*4+2))=ss p2 n2 c2/\W.cell? (ad b (off+xa*4+3))=ss p3 n3 c3):=aa (λ W hW=>⟨(b5.ext (E6.trans hW)).cells 0,((E6.trans hW).cells _ _ hbq).trans y0.out,((hEB.trans hW).cells _ _ hbc).trans k0.out,((hEB.trans hW).cells _ _ hbc).trans k1.out,((hEB.trans hW).cells _ _ hbc).trans k2.out,((hEB.trans hW).cells _ _ hbc).trans k3.out⟩);go_wp2_with (fail);refine jh (λ a0 a' w'=>(Blk w' wo [.string ce.s,sl p1 n1 c1,sl p2 n2 c2,sl p3 n3 c3] 188/\Ext wo w')/\a'=((((((((((a0.put (some 29) (.pointer (so w 0))).put (some 30) (sm b off n n)).put (some 31) (sm bq oq (aA cells k).length c)).put (some 32) (i:Int)).put (some 33) (.pointer (so bq (oq+i*5)))).put (some 34) (.pointer (so bq (oq+i*5)))).put (some 35) (xa:Int)).put (some 36) (.pointer (so b (off+xa*4)))).put (some 37) (.agg #[.string ce.s,sl p1 n1 c1,sl p2 n2 c2,sl p3 n3 c3])).put (some 10) (.pointer (so wo 0)))) ?_ ?_
      . go_region_held3 (λ W=>W.cell? (ad w 0)=sq b off n n/\W.cell? (ad bq (oq+i*5))=si (xa:Int)/\W.cell? (ad b (off+xa*4))=some (.string ce.s)/\W.cell? (ad b (off+xa*4+1))=ss p1 n1 c1/\W.cell? (ad b (off+xa*4+2))=ss p2 n2 c2/\W.cell? (ad b (off+xa*4+3))=ss p3 n3 c3) (first | exact hS.out _ (ab wo) | exact hS.out _ (ab wo).drew | exact hS.out _ ((ab wo).alloc _).drew | exact hS.out _ ((ab wo).drew.alloc _) | exact hS.out _ ((ab wo).alloc _)) (fail)
        all_goals first
         | exact⟨⟨aD wo [_,_,_,_] _,(ab wo).alloc _⟩,by kernel_rfl⟩
         | exact⟨⟨(aD wo [_,_,_,_] _).drew,((ab wo).alloc _).drew⟩,by kernel_rfl⟩
         | exact⟨⟨aD wo.drew [_,_,_,_] _,(ab wo).drew.alloc _⟩,by kernel_rfl⟩
         | fail
      rintro a' W7 ⟨⟨b7,E7⟩,rfl⟩;simp only [Act.put,dn,aW,aY];clear hS k0 k1 k2 k3 y0;have hI0:Hid (OwI 236 5 w5 W7 wo [.string ce.s,sl p1 n1 c1,sl p2 n2 c2,sl p3 n3 c3] 188 q2 N2 c2' ((aX cells ((aA cells k).take i)++(sh.take 0).map (cQ ⟨(xa:Int),xb,xc,xd⟩)).flatMap bg)):=aa ⟨E6.trans E7,by simpa using aG hO.out E7,λ k hk=>by have:=(hO.lt k hk).2;omega,b7⟩;have hA0:Hid (((aX cells ((aA cells k).take i)++(sh.take 0).map (cQ ⟨(xa:Int),xb,xc,xd⟩))).all kp=true):=by simpa [Hid] using hall.out
      clear b7 hO E7 hall;go_wp2_with (fail);go_loopw [8,11] (λ v z wx=>∃ (j:Nat) (q2:OA) (N2 c2':Nat),j<=n1/\v=sl q2 N2 c2'/\z=.int .i64 (j:Int)/\Hid (OwI 236 5 w5 wx wo [.string ce.s,sl p1 n1 c1,sl p2 n2 c2,sl p3 n3 c3] 188 q2 N2 c2' ((aX cells ((aA cells k).take i)++(sh.take j).map (cQ ⟨(xa:Int),xb,xc,xd⟩)).flatMap bg))/\Hid ((aX cells ((aA cells k).take i)++(sh.take j).map (cQ ⟨(xa:Int),xb,xc,xd⟩)).all kp=true)) (λ _ z _=>n1 - (intOf z).toNat)
      case atStart=>exact⟨0,q2,N2,c2',oM,rfl,rfl,hI0,hA0⟩
      case round =>
       clear hI0 hA0;obtain⟨j,q2,N2,c2',hj,rfl,rfl,hO,hall⟩:=hrel;have yB1:=hO.box.cells 1;simp only [aJ,aN] at yB1;have lBk:=hO.box.lt;by_cases hjt:j<n1
       . have hjI:(j:Int)<(n1:Int):=oM;obtain⟨b3,o3,s,cs3,hq3,hb3,hs,hcs3,hc3⟩:=(s1.ext okShape (hEE.trans hO.ext)).get hjt;subst hq3;obtain rfl:cs3=bg s:=hcs3;have c0:=aa (hc3 0 _ rfl);rw [aq] at c0;have c1x:=aa (hc3 1 _ rfl);have c2x:=aa (hc3 2 _ rfl);have c3x:=aa (hc3 3 _ rfl);have c4:=aa (hc3 4 _ rfl);clear hc3;replace hb3:=aa hb3;have hsv:=aa (hsok.out s (ap hs.out));have hsr:=vR_iff.1 hsv.out;have hS:Hid (∀ W,Ext wr W->W.cell? (ad wo 1)=sq b3 o3 n1 c1/\W.cell? (ad bq (oq+i*5+1))=si xb/\W.cell? (ad bq (oq+i*5+2))=si xc/\W.cell? (ad bq (oq+i*5+3))=si xd/\W.cell? (ad b3 (o3+j*5))=si s.a/\W.cell? (ad b3 (o3+j*5+1))=si s.box.a/\W.cell? (ad b3 (o3+j*5+2))=si s.box.b/\W.cell? (ad b3 (o3+j*5+3))=si s.box.c/\W.cell? (ad b3 (o3+j*5+4))=si s.box.d):=aa (λ W hW=>⟨(hO.box.ext hW).cells 1,((hO.ext.trans hW).cells _ _ hbq).trans y1.out,((hO.ext.trans hW).cells _ _ hbq).trans y2.out,((hO.ext.trans hW).cells _ _ hbq).trans y3.out,(hW.cells _ _ hb3.out).trans c0.out,(hW.cells _ _ hb3.out).trans c1x.out,(hW.cells _ _ hb3.out).trans c2x.out,(hW.cells _ _ hb3.out).trans c3x.out,(hW.cells _ _ hb3.out).trans c4.out⟩);have hroom:=FU (x:=⟨(xa:Int),xb,xc,xd⟩) hV.out hM2.out h24.out i j;rw [rS hO.own] at hroom;obtain⟨R,hR⟩:∃ R,Hid (cG ⟨xb,xc,xd⟩ s.box=R):=⟨_,aa rfl⟩;have hmv:Hid (∀ W,CE 157 #[.agg #[xb,xc,xd],.agg #[s.box.a,s.box.b,s.box.c,s.box.d]] W (.agg #[R.a,R.b,R.c,R.d])):=aa (λ W=>by have:=MO ⟨xb,xc,xd⟩ s.box W hob (hon.mono oM) (by unfold Nr2;simp only;omega) (by unfold Nr2;simp only;omega);rwa [hR.out] at this);have hvr:=λ W=>NX R W
         have hEk:Hid (cQ ⟨(xa:Int),xb,xc,xd⟩ s=⟨s.a,R⟩):=by show _=_;rw [<-hR.out];rfl
         have hok2:kp (cQ ⟨(xa:Int),xb,xc,xd⟩ s)=vR R:=by rw [hEk.out];rfl
         go_wp2_with (fail);refine jh (λ a0 a' w'=>∃ P:Nat,(Blk w' P [R.a,R.b,R.c,R.d] 139/\Ext wr w')/\a'=(((((((((((((a0.put (some 45) (sm bq oq (aA cells k).length c)).put (some 46) (i:Int)).put (some 47) (.pointer (so bq (oq+i*5)))).put (some 48) (.pointer (so bq (oq+i*5+1)))).put (some 49) (.agg #[xb,xc,xd])).put (some 50) (.pointer (so wo 1))).put (some 51) (sm b3 o3 n1 c1)).put (some 52) (j:Int)).put (some 53) (.pointer (so b3 (o3+j*5)))).put (some 54) (.pointer (so b3 (o3+j*5+1)))).put (some 55) (.agg #[s.box.a,s.box.b,s.box.c,s.box.d])).put (some 56) (.agg #[R.a,R.b,R.c,R.d])).put (some 12) (.pointer (so P 0)))) ?_ ?_
         . go_region_held3 (λ W=>W.cell? (ad wo 1)=sq b3 o3 n1 c1/\W.cell? (ad bq (oq+i*5+1))=si xb/\W.cell? (ad bq (oq+i*5+2))=si xc/\W.cell? (ad bq (oq+i*5+3))=si xd/\W.cell? (ad b3 (o3+j*5))=si s.a/\W.cell? (ad b3 (o3+j*5+1))=si s.box.a/\W.cell? (ad b3 (o3+j*5+2))=si s.box.b/\W.cell? (ad b3 (o3+j*5+3))=si s.box.c/\W.cell? (ad b3 (o3+j*5+4))=si s.box.d) (first | exact hS.out _ (ab wr) | exact hS.out _ (ab wr).drew | exact hS.out _ ((ab wr).alloc _).drew | exact hS.out _ ((ab wr).drew.alloc _) | exact hS.out _ ((ab wr).alloc _) | exact hS.out _ hX9.out | exact hS.out _ ((((hX9.setCell (p:=(ad wr 0)) (ai _) _).setCell (p:=(ad wr 1)) (ai _) _).setCell (p:=(ad wr 2)) (ai _) _).setCell (p:=(ad wr 3)) (ai _) _) | exact hS.out _ (hX9.alloc _)) (first | (go_at_call 157;(with_reducible refine (hmv.out _).mono ?_);rintro e w9 ⟨rfl,E9⟩;have hX9:Hid (Ext wr w9):=aa (Ext.trans (b:=_) (by first | exact (ab wr).drew | exact ((ab wr).alloc _).drew) E9);(try (have j1:=aa ((aD wr [.int .i64 0,.int .i64 0,.int .i64 0,.int .i64 0] 139).drew.ext E9);have f10:=j1.free 0;have f11:=j1.free 1;have f12:=j1.free 2;have f13:=j1.free 3;have l1:=j1.lt;have q10:=j1.cells 0;have q11:=j1.cells 1;have q12:=j1.cells 2;have q13:=j1.cells 3;simp only [aJ,aN] at q10 q11 q12 q13));clear E9) | fail)
           . exact⟨w9.heap.size,⟨(aD w9 [_,_,_,_] _),(hX9.alloc _)⟩,by kernel_rfl⟩
           . exact⟨wr.heap.size,⟨((((j1.set 0 _).set 1 _).set 2 _).set 3 _),((((hX9.setCell (p:=(ad wr 0)) (ai _) _).setCell (p:=(ad wr 1)) (ai _) _).setCell (p:=(ad wr 2)) (ai _) _).setCell (p:=(ad wr 3)) (ai _) _)⟩,by kernel_rfl⟩
         rintro a' W11 ⟨P,⟨b11,E11⟩,rfl⟩;simp only [Act.put,dn,aW,aY];replace b11:=aa b11;replace E11:=aa E11;have⟨g11,l11⟩:=b11.gl;clear hmv
         cases hvv:vR R with
         | false => have hr:=aa (tU h0.out (FT hxL.out hshA.out hs.out (hok2.trans hvv)));rw [hvv] at hvr;replace hvr:=aa hvr;clear hvv hok2;clear hS;go_wp2_with (first | (go_at_call 158;(with_reducible refine (hvr.out _).mono ?_);rintro e w12 ⟨rfl,E12⟩) | fail);go_ret2;exact FsB.err hr.out (hEE.trans (hO.ext.trans (E11.trans E12)))
         | true =>
           have hok3:=aa (hok2.trans hvv);rw [hvv] at hvr;replace hvr:=aa hvr;clear hvv hok2;clear hS;have hO11:=aa (hO.later E11.out);have hlo:=aa hO11.ext.le;go_wp2_with (first | (go_at_call 158;(with_reducible refine (hvr.out _).mono ?_);rintro e w12 ⟨rfl,E12⟩;have hO12:=aa (hO11.later E12);have b12:=aa (b11.ext E12);have E12h:=aa E12;have hlo2:=aa (hO12.ext.le)) | fail);clear g11 l11;have⟨g12,l12⟩:=b12.gl;have E12':=aa (E11.trans E12);have z1:=(E12'.cells _ _ lBk).trans yB1;have zl:=aF lBk E12'.le;have z0:=(E12'.cells _ _ hb3.out).trans c0.out;have zb:=aF hb3.out E12'.le;go_region_law (first | (refine mV _ rfl _ _ 159 rfl w5 236 i0 _ 5 40 underlying159 hi0 hz0 hz1 hz2 rfl oM (sl q2 N2 c2') _ _ rfl (aG hO12.own ((ab w12).alloc _).drew) (ad w12 0) 1 1 [.int .i64 s.a,.int .i64 R.a,.int .i64 R.b,.int .i64 R.c,.int .i64 R.d] rfl rfl (dg w12 [_,_,_,_,_] _) (uq ⟨s.a,R⟩) oM (cx oM oM) oM (by have:=hlo2.out;simp;omega) _ rfl ?_;intro gL cL wA hoA hgA hbA hlA) | fail)
           all_goals
            have hP:=aa ((hO12.later ((ab w12).alloc _).drew).push2 (qa:=so gL 0) (ca:=cL) (ys:=((aX cells ((aA cells k).take i)++(sh.take (j+1)).map (cQ ⟨(xa:Int),xb,xc,xd⟩))).flatMap bg) (by rw [p8 hs.out,<-fc,xU,hEk.out];exact hoA) hgA (hbA.imp (λ h=>h.symm) (λ h=>by rw [<-h];rfl)));have hall2:Hid (((aX cells ((aA cells k).take i)++(sh.take (j+1)).map (cQ ⟨(xa:Int),xb,xc,xd⟩))).all kp=true):=by show _=_;rw [p8 hs.out,<-fc,nL,hall.out];simp [hok3.out]
            clear hoA hgA hbA hlA g12 l12;go_wp2_with (fail);go_roundw
            case rel=>exact⟨j+1,so gL 0,N2+1,cL,oM,rfl,gN,hP,hall2⟩
            case measure=>exact mS
       . have hjI:¬ (j:Int)<(n1:Int):=oM;have e1:Hid ((aX cells ((aA cells k).take i)++(sh.take j).map (cQ ⟨(xa:Int),xb,xc,xd⟩))=aX cells ((aA cells k).take (i+1))):=by show _=_;rw [cz hsl.out oM,ur hxL.out,ms,hshA.out]
         rw [e1.out] at hO hall;have hM200:=hM2.out;go_wp2_with (fail);go_roundw
         case rel=>exact⟨i+1,q2,N2,c2',oM,rfl,gN,aa hO.own,hO.ext,hall⟩
         case measure=>exact mS
    . have hltI:¬ (i:Int)<((aA cells k).length:Int):=oM;rw [cz rfl oM] at hO hall;have hr:=aa (rv h0.out hall.out);have hN:=aa (rS hO.out);replace E6:=aa E6;go_wp2_with (fail);go_ret2;exact⟨q2,c2',by rw [hr.1,hr.2,hN.out];rfl,by rw [hr.2,hN.out];exact bm tE hN.out hO.out,hEE.trans E6.out⟩
 . have hr:=aa (tT h0);have hL0:Hid (aA cells k=[]):=by show _=_;rw [aA,ar h0]
   obtain⟨C,hC⟩:∃ C,Hid (dm cells k=C):=⟨_,aa rfl⟩;have hC0:¬ C=0:=by rw [<-hC.out];exact h0
   have hoc0:Hid (∀ W,Ext w W->Calls prog 156 #[.agg #[sl p n n],k] W λ e w'=>∃ (q:OA) (c:Nat),e=.returned (.tuple #[sl q 0 c,.int .i64 C])/\Ext W w'):=aa (λ W hE=>by refine (hocc W hE).mono ?_;rintro e w' ⟨q,c,H,h1,_,_,h4⟩;rw [hL0.out,hC.out] at h1;exact⟨q,c,h1,h4⟩);rw [hC.out] at hr;clear hocc h0;go_enter func98,ntmps98;exact Aa
end Go.Proofs.YtnlajnpcdnnpmaaGreat
