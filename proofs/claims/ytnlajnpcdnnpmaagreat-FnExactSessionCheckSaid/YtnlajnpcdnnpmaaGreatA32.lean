/- Part of a proof. No condition. -/
import Derived.Test.YtnlajnpcdnnpmaaGreatA30
import Derived.Test.YtnlajnpcdnnpmaaGreatA31
namespace Go.Proofs.YtnlajnpcdnnpmaaGreat
set_option linter.all false
set_option maxRecDepth 100000
set_option maxHeartbeats 16000000
open Go.Proofs.Tryz Go.RowKit Go.PlainAid
theorem OG:(prog.info? 2).map (λ i=>(i.zero,i.size,i.bytes))=some (some (.int .i64 0),1,8):=by kernel_rfl
theorem Gm (a b c d:Int)(w:World)(ha : -2000000<=a/\a<=2000000)(hb : -2000000<=b/\b<=2000000)(hc : -2000000<=c/\c<=2000000)(hd : -2000000<=d/\d<=2000000) :
 CW 246 #[a,b,c,d] w (min b d - max a c:Int):=by
 obtain⟨a1,a2⟩:=ha;obtain⟨b1,b2⟩:=hb;obtain⟨c1,c2⟩:=hc;obtain⟨d1,d2⟩:=hd;go_enter func246,ntmps246;go_wp2_with (fail);go_ret;refine⟨cp ?_,rfl⟩;simp only [Int.min_def,Int.max_def];repeat' split;all_goals omega
theorem OH (cells:List CeD)(k:Nat)(p:OA)(n base num:Nat)(rch:Int)(w:World)(h:SlD CeR 4 base w p n cells)(hn:n<=1048576)(hf:∀ x∈cells,dp x)(hC:cX cells (k:Int)=0)(hnum:num<1000)(hr:0<=rch/\rch<=8) :
 Calls prog 165 #[.agg #[sl p n n],(k:Int),(num:Int),rch] w (Gj w):=by
 have hpp:=aa (λ V B (hV:Ext w V) (hB:Blk V B [(num:Int)] 2)=>OE cells k p n base num (so B 0) 1 V (h.ext aL6 hV) hn hf hC (SlT.of_blk (l:=[(num:Int)]) (enc:=bi) (sz:=1) (λ _=>rfl) hB) hnum);have hsh:=aa (λ V B (hV:Ext w V) (hB:Blk V B [(num:Int)] 2)=>Ow cells (k:Int) p n base (so B 0) 1 1 [(num:Int)] V (h.ext aL6 hV) hn hf hC (SlT.of_blk (l:=[(num:Int)]) (enc:=bi) (sz:=1) (λ _=>rfl) hB) oM);have hcb:=aa (λ(kk:Int) V (hV:Ext w V)=>N6 cells kk p n base V (h.ext aL6 hV) hn hf);obtain⟨hr0,hr8⟩:=hr;clear h hn hf hC;go_enter func165,ntmps165;go_upto_region 1 with (fail);generalize hW:World.alloc _ _=W0;obtain⟨E0,z,b0⟩:=al hW;clear hW z;replace b0:=aa (show Blk W0 w [sl p n n] _ from b0);have⟨g0,l0⟩:=b0.gl;replace E0:=aa E0;go_upto_region 2 with (first | (go_at_call 240;(with_reducible refine (hpp.out _ _ (E0.out.alloc _) (aD W0 _ _)).mono ?_);rintro e w1 ⟨oa,ob,oc,od,oq,om,occ,code,rfl,hob,hon,E1⟩) | fail);generalize hW2:World.alloc w1 _=W2;obtain⟨E2,z,b2⟩:=al hW2;clear hW2 z g0 l0;replace b2:=aa (show Blk W2 w1 [oa,ob,oc,od,sl oq om occ] _ from b2);have hX2:=aa (((ab W0).alloc _).trans (E1.trans E2));have bl2:=aa (b0.ext hX2.out);have hE2:=aa (E0.trans hX2.out);have⟨g2,l2⟩:=b2.gl;have⟨gl,ll⟩:=bl2.gl;have hbd:=aa (show (0<=ob/\ob<=7)/\Nr2 2000 ⟨oc,od⟩ from ⟨hob,hon⟩);clear hob hon E1 E2;go_upto_region 3 with (first | (go_at_call 241;(with_reducible refine (hcb.out _ _ hE2.out).mono ?_);rintro e w3 ⟨own,cd,rfl,hown,E3⟩) | fail);generalize hW4:World.alloc w3 _=W4;obtain⟨E4,z,b4⟩:=al hW4;clear hW4 z g2 l2 gl ll;replace b4:=aa (show Blk W4 w3 [own.a,own.b,own.c,own.d] _ from b4);have hX4:=aa (E3.trans E4);have bl4:=aa (bl2.ext hX4.out);have bo4:=aa (b2.ext hX4.out);have hE4:=aa (hE2.trans hX4.out);clear E3 E4 b2 bl2;by_cases hcd:cd=0
 . subst hcd;have⟨go4,lo4⟩:=bo4.gl;have⟨g4,l4⟩:=b4.gl;have hownW:eM own:=by have:=hown;unfold dU at this;unfold eM;omega
   obtain⟨hob,hon⟩:=hbd.out;obtain⟨P,hP⟩:∃ P,Hid (cG ⟨ob,oc,od⟩ own=P):=⟨_,aa rfl⟩;have hPw:(-3000<=P.a/\P.a<=3000)/\(-3000<=P.b/\P.b<=3000)/\(-3000<=P.c/\P.c<=3000)/\(-3000<=P.d/\P.d<=3000):=by have:=tQ (j:=2000) (k:=40) (t:=⟨ob,oc,od⟩) (r:=own) hon (by unfold dU at hown;unfold Nr2;simp only;omega) (by unfold dU at hown;unfold Nr2;simp only;omega);rw [hP.out] at this;unfold Nr2 at this;simp only at this;omega
   have hmv:=aa (λ V=>rP ⟨ob,oc,od⟩ own V hob (hon.mono oM) (by unfold dU at hown;unfold Nr2;simp only;omega) (by unfold dU at hown;unfold Nr2;simp only;omega));rw [hP.out] at hmv;have hwo:=aa (λ V=>yj own rch V (by unfold eM at hownW;omega) oM);have hwp:=aa (λ V=>yj P rch V oM oM);have hwn:=aa (λ V=>yj P (2*rch) V oM oM);obtain⟨X1,hX1⟩:∃ X,mK own rch=X:=⟨_,rfl⟩;obtain⟨X2,hX2'⟩:∃ X,mK P rch=X:=⟨_,rfl⟩;obtain⟨X3,hX3⟩:∃ X,mK P (2*rch)=X:=⟨_,rfl⟩;have hX3b:(-4000<=X3.a/\X3.a<=4000)/\(-4000<=X3.b/\X3.b<=4000)/\(-4000<=X3.c/\X3.c<=4000)/\(-4000<=X3.d/\X3.d<=4000):=by rw [<-hX3];unfold mK;simp only;omega
   rw [hX1] at hwo;rw [hX2'] at hwp;rw [hX3] at hwn;replace hX3b:=aa hX3b;have hv1:=aa (λ V=>pS X1 V);have hv2:=aa (λ V=>pS X2 V);obtain⟨v1,hv1e⟩:∃ v,vR X1=v:=⟨_,rfl⟩;obtain⟨v2,hv2e⟩:∃ v,vR X2=v:=⟨_,rfl⟩;rw [hv1e] at hv1;rw [hv2e] at hv2;clear hv1e hv2e hX1 hX2' hX3 hP hownW hown hPw hob hon hbd;go_upto_region 6 with (first | (go_at_call 242;(with_reducible refine (hmv.out _).mono ?_);rintro e w5 ⟨rfl,E5⟩) | fail);generalize hW6:World.alloc w5 _=W6;obtain⟨E6,z,b6⟩:=al hW6;clear hW6 z go4 lo4 g4 l4;replace b6:=aa (show Blk W6 w5 [P.a,P.b,P.c,P.d] _ from b6);have hX6:=aa (E5.trans E6);have bl6:=aa (bl4.ext hX6.out);have bw6:=aa (b4.ext hX6.out);have hE6:=aa (hE4.trans hX6.out);have⟨gw,lw⟩:=bw6.gl;have E:=ab W6;have⟨g6,l6⟩:=b6.gl;clear E5 E6 bo4 b4 bl4
   cases v1 with
   | false => go_wp2_with (first | (go_at_call 244;(with_reducible refine (hwo.out _).mono ?_);rintro e w7 ⟨rfl,E7⟩) | (go_at_call 243;(with_reducible refine (hv1.out _).mono ?_);rintro e w8 ⟨rfl,E8⟩) | fail);go_ret;exact⟨false,rfl,hE6.trans (E7.trans E8)⟩
   | true =>
     cases v2 with
     | false => go_wp2_with (first | (go_at_call 244;(with_reducible refine (hwo.out _).mono ?_);rintro e w7 ⟨rfl,E7⟩) | (go_at_call 243;(with_reducible refine (hv1.out _).mono ?_);rintro e w8 ⟨rfl,E8⟩;have hX8:=aa (E7.trans E8);have b8:=b6.ext hX8.out;have⟨g8,l8⟩:=b8.gl;clear g6 l6) | (go_at_call 244;(with_reducible refine (hwp.out _).mono ?_);rintro e w9 ⟨rfl,E9⟩) | (go_at_call 243;(with_reducible refine (hv2.out _).mono ?_);rintro e w10 ⟨rfl,E10⟩) | fail);go_ret;exact⟨false,rfl,hE6.trans (hX8.trans (E9.trans E10))⟩
     | true =>
       go_upto_region 8 with (first | (go_at_call 244;(with_reducible refine (hwo.out _).mono ?_);rintro e w7 ⟨rfl,E7⟩) | (go_at_call 243;(with_reducible refine (hv1.out _).mono ?_);rintro e w8 ⟨rfl,E8⟩;have hX8:=aa (E7.trans E8);have b8:=b6.ext hX8.out;have⟨g8,l8⟩:=b8.gl;clear g6 l6) | (go_at_call 244;(with_reducible refine (hwp.out _).mono ?_);rintro e w9 ⟨rfl,E9⟩) | (go_at_call 243;(with_reducible refine (hv2.out _).mono ?_);rintro e w10 ⟨rfl,E10⟩) | fail);have hX10:=aa (hX8.trans (E9.trans E10));have b10:=b6.ext hX10.out;have⟨g10,l10⟩:=b10.gl;clear g8 l8 gw lw E7 E8 E9 E10 b10 b8;go_upto_region 9 with (first | (go_at_call 244;(with_reducible refine (hwn.out _).mono ?_);rintro e w11 ⟨rfl,E11⟩) | fail);generalize hW12:World.alloc w11 _=W12;obtain⟨E12,z,b12⟩:=al hW12;clear hW12 z g10 l10;replace b12:=aa (show Blk W12 w11 [X3.a,X3.b,X3.c,X3.d] _ from b12);have hX12:=aa (hX10.trans (E11.trans E12));have bl12:=aa (bl6.ext hX12.out);have hE12:=aa (hE6.trans hX12.out);have⟨gl,ll⟩:=bl12.gl;clear E11 E12;go_upto_region 10 with (first | (go_at_call 245;(with_reducible refine (hsh.out _ _ (hE12.out.alloc _) (aD W12 _ _)).mono ?_);rintro e w13 ⟨q13,n13,c13,L13,rfl,s13,hn13,hw13,E13⟩) | fail);have hX13:=aa (((ab W12).alloc _).trans E13);have b13:=aa (b12.ext hX13.out);have hE13:=aa (hE12.trans hX13.out);replace s13:=aa s13;replace hw13:=aa hw13;clear gl ll E13;go_wp2_with (fail);go_loopw [16] (λ i wx=>∃ j:Nat,j<=n13/\i=.int .i64 (j:Int)/\Hid (Ext w13 wx)) (λ i _=>n13 - (intOf i).toNat)
       case atStart=>exact⟨0,oM,rfl,ab _⟩
       case round =>
        obtain⟨j,hj,rfl,hX⟩:=hrel;by_cases hjt:j<n13
        . have hjI:(j:Int)<(n13:Int):=oM;obtain⟨b3,o3,s,rfl,hb3,hs,hc⟩:=(s13.ext hX.out).get hjt;have hsw:=hw13.out s (ap hs.out);unfold eM at hsw;have c1:=hc 1 _ rfl;have c2:=hc 2 _ rfl;have c3:=hc 3 _ rfl;have c4:=hc 4 _ rfl;clear hc;have hb:=hX3b.out;have hs1:=aa (λ V=>Gm s.box.a s.box.c X3.a X3.c V oM oM oM oM);have hs2:=aa (λ V=>Gm s.box.b s.box.d X3.b X3.d V oM oM oM oM);obtain⟨S1,hS1⟩:∃ S,min s.box.c X3.c - max s.box.a X3.a=S:=⟨_,rfl⟩;obtain⟨S2,hS2⟩:∃ S,min s.box.d X3.d - max s.box.b X3.b=S:=⟨_,rfl⟩;rw [hS1] at hs1;rw [hS2] at hs2;clear hS1 hS2 hb hsw;go_upto_region 14 with (fail);generalize hW14:World.alloc wr _=W14;obtain⟨E14,z,b14⟩:=al hW14;clear hW14 z c1 c2 c3 c4;replace b14:=aa (show Blk W14 wr [s.box.a,s.box.b,s.box.c,s.box.d] _ from b14);have⟨g14,l14⟩:=b14.gl;have hY:=aa (hX.trans E14);have bn:=aa (b13.ext hY.out);have⟨gn,ln⟩:=bn.gl;clear E14;by_cases h1:0<S1
          . by_cases h2:0<S2
            . go_wp2_with (first | (go_at_call 246;(with_reducible refine (hs1.out _).mono ?_);rintro e w15 ⟨rfl,rfl⟩) | (go_at_call 246;(with_reducible refine (hs2.out _).mono ?_);rintro e w15 ⟨rfl,rfl⟩) | fail);go_ret;exact⟨false,rfl,hE13.trans hY.out⟩
            . exact Ag
          . exact Ag
        . have hjI:¬ (j:Int)<(n13:Int):=oM;go_wp2_with (fail);go_ret;exact⟨true,rfl,hE13.trans hX.out⟩
 . have pA:=hE4;exact Db
def OI (w:World) (e:Ending) (w':World):Prop:=∃ (q:OA) (m c:Nat),e=.returned (sl q m c)/\m<=128/\Ext w w'
theorem OJ (cells:List CeD)(k:Nat)(p:OA)(n base:Nat)(rch:Int)(w:World)(h:SlD CeR 4 base w p n cells)(hn:n<=1048576)(hf:∀ x∈cells,dp x)(hC:cX cells (k:Int)=0)(hr:0<=rch/\rch<=8) :
 Calls prog 103 #[.agg #[sl p n n],(k:Int),rch] w (OI w):=by
 have hocv:=OcV.of (mu hC).1;have hV:=hocv.lib;have hkn:k<n:=by have h1:=hocv.cell;have:=h.length;omega
 have hel:=aa (λ V (hX:Ext w V)=>Oq cells hV k p n base V (h.ext aL6 hX) hkn);have hEL:=wJ hV (k:Int);have hfr:=aa (λ(num:Nat) (hnum:num<1000) V (hX:Ext w V)=>OH cells k p n base num rch V (h.ext aL6 hX) hn hf hC hnum hr);obtain⟨EL,hE⟩:∃ EL,(aK (dQ cells (k:Int))).length=EL:=⟨_,rfl⟩;rw [hE] at hel hEL;obtain⟨i0,hi0,hz0,hz1,hz2⟩:=aM OG;clear h hn hf hC hocv hV hE;go_enter func103,ntmps103;go_upto_region 1 with (fail);generalize hW:World.alloc _ _=W0;obtain⟨E0,z,b0⟩:=al hW;clear hW z;replace b0:=aa (show Blk W0 w [sl p n n] _ from b0);go_upto_region 2 with (fail);have hst0:=dh (size:=1) (aD W0 [] 2) (ai _);generalize hW1:World.alloc _ _=W1 at hst0 ⊢;have E1:Ext W0 W1:=by rw [<-hW1];exact (ab _).alloc _
 clear hW1;have hw0:=aa E0;replace hst0:=aa hst0;replace E1:=aa E1;clear E0;go_wp2_with (fail);go_loopw [7,8] (λ v i wx=>∃ (j:Nat) (q2:OA) (N2 c2:Nat) (V2:List Value),j<=EL/\v=sl q2 N2 c2/\i=.int .i64 (j:Int)/\N2<=j/\Hid (wx.ownsRow W0 2 1 (sl q2 N2 c2) N2 V2)/\Hid (Ext W0 wx)) (λ _ i _=>EL - (intOf i).toNat)
 case atStart=>exact⟨0,_,0,_,[],oM,rfl,rfl,oM,hst0,E1⟩
 case round =>
  clear hst0 E1;obtain⟨j,q2,N2,c2,V2,hj,rfl,rfl,hNj,hO,hX⟩:=hrel;have bx:=aa (b0.ext hX.out);have⟨gx,lx⟩:=bx.gl;by_cases hjt:j<EL
  . have hjI:(j:Int)<(EL:Int):=oM;have hcall:=aa (λ V (hV:Ext wr V)=>hfr.out j oM V (hw0.trans (hX.trans hV)));go_wp2_with (first | (go_at_call 164;(with_reducible refine (hel.out _ (hw0.out.trans hX.out)).mono ?_);rintro e w5 ⟨rfl,E5⟩;have b5:=bx.ext E5;have⟨g5,l5⟩:=b5.gl;clear gx lx;replace b5:=aa b5) | (go_at_call 165;(with_reducible refine (hcall.out _ E5).mono ?_);rintro e w6 ⟨bb,rfl,E6⟩;have hX6:=aa (hX.trans (E5.trans E6));have hO6:=aa (aG hO.out (E5.trans E6));have hs6:=aa hX6.le;clear g5 l5 hcall E6;cases bb) | (at_builtin;refine cZ _ rfl _ _ 121 rfl W0 2 i0 (0:Int) 1 8 underlying121 hi0 hz0 hz1 hz2 rfl oM _ _ _ rfl (cv hO6.out _) ⟨_,0,none⟩ 1 1 [.int .i64 (j:Int)] rfl rfl (dg _ [_] _) (np _) (cx oM oM) oM (by have:=hs6.out;simp;omega) ?_;intro v2 wA hoA hgA hnA hbA;obtain⟨qa,ca,rfl⟩:=cq hoA;have hYA:=aa ((hX6.alloc _).grown hgA (λ k hk=>(hO6.lt k hk).1));replace hoA:=aa hoA;clear hgA hnA hbA) | fail)
    . go_roundw
      case rel=>exact⟨j+1,q2,N2,c2,V2,oM,rfl,gN,oM,hO6,hX6⟩
      case measure=>exact mS
    . go_roundw
      case rel=>exact⟨j+1,qa,N2+1,ca,_,oM,rfl,gN,oM,hoA,hYA⟩
      case measure=>exact mS
  . have hjI:¬ (j:Int)<(EL:Int):=oM;go_wp2_with (first | (go_at_call 164;(with_reducible refine (hel.out _ (hw0.out.trans hX.out)).mono ?_);rintro e w5 ⟨rfl,E5⟩) | fail);go_ret;exact⟨q2,N2,c2,rfl,oM,hw0.trans (hX.trans E5)⟩
theorem OK (cells:List CeD)(k:Int)(p:OA)(n base:Nat)(r:RuD)(w:World)(h:SlD CeR 4 base w p n cells)(hn:n<=1048576)(hf:∀ x∈cells,dp x)(hr:au r=true)(hC:cX cells k=0) :
 Calls prog 50 #[.agg #[sl p n n],k,.agg #[r.a,r.b,r.c,r.d,r.e]] w λ e w'=>∃ d:Int,e=.returned d/\(0<=d/\d<=1048576)/\Ext w w':=by
 have hocv:=OcV.of (mu hC).1;obtain⟨kk,rfl⟩:∃ kk:Nat,k=(kk:Int):=⟨k.toNat,by have:=hocv.cell;omega⟩;have hrr:=aa (λ V=>NZ r V hr);obtain⟨hd0,hd1⟩:=Ge hr;obtain⟨d,hd⟩:∃ d,ny r=d:=⟨_,rfl⟩;rw [hd] at hrr hd0 hd1;have hal:=aa (λ V (hX:Ext w V) (h0:0<=d)=>OJ cells kk p n base d V (h.ext aL6 hX) hn hf hC ⟨h0,hd1⟩);clear h hn hf hC hocv hr hd;go_enter func50,ntmps50;go_upto_region 1 with (fail);generalize hW:World.alloc (World.alloc _ _) _=W0;obtain⟨E0,z,b0,b1⟩:=bV hW;clear hW z;replace b0:=aa (show Blk W0 w [sl p n n] _ from b0);replace b1:=aa (show Blk W0 (w+1) [r.a,r.b,r.c,r.d,r.e] _ from b1);have⟨g1,l1⟩:=b1.gl;by_cases hdn:d<0
 . go_wp2_with (first | (go_at_call 102;(with_reducible refine (hrr.out _).mono ?_);rintro e w1 ⟨rfl,E1⟩) | fail);go_ret
   first
    | exact⟨0,rfl,⟨oM,oM⟩,E0.trans E1⟩
    | exact⟨⟨0,rfl,oM,oM⟩,E0.trans E1⟩
 . have hd2:0<=d:=oM;go_wp2_with (first | (go_at_call 102;(with_reducible refine (hrr.out _).mono ?_);rintro e w1 ⟨rfl,E1⟩) | fail);have hX:=aa E1;have hS:=aa (show ∀ V,Ext w1 V->V.cell? (ad w 0)=ss p n n/\V.cell? (ad (w+1) 0)=si r.a/\V.cell? (ad (w+1) 1)=si r.b/\V.cell? (ad (w+1) 2)=si r.c/\V.cell? (ad (w+1) 3)=si r.d/\V.cell? (ad (w+1) 4)=si r.e from λ V hV=>⟨(b0.ext (hX.trans hV)).cells 0,(b1.ext (hX.trans hV)).cells 0,(b1.ext (hX.trans hV)).cells 1,(b1.ext (hX.trans hV)).cells 2,(b1.ext (hX.trans hV)).cells 3,(b1.ext (hX.trans hV)).cells 4⟩);clear g1 l1 E1
   go_region_held3 (λ V=>V.cell? (ad w 0)=ss p n n/\V.cell? (ad (w+1) 0)=si r.a/\V.cell? (ad (w+1) 1)=si r.b/\V.cell? (ad (w+1) 2)=si r.c/\V.cell? (ad (w+1) 3)=si r.d/\V.cell? (ad (w+1) 4)=si r.e)
    (first | exact hS.out _ (ab w1).drew | exact hS.out _ hX2.out | exact hS.out _ hX3.out)
    (first | (go_at_call 102;(with_reducible refine (hrr.out _).mono ?_);rintro e w2 ⟨rfl,E2⟩;have hX2:=aa ((ab w1).drew.trans E2);clear E2) | (go_at_call 103;(with_reducible refine (hal.out _ (E0.trans (hX.out.trans hX2.out)) hd2).mono ?_);rintro e w3 ⟨q3,m3,c3,rfl,hm3,E3⟩;have hX3:=aa (hX2.trans E3);clear E3) | fail)
   all_goals
    go_wp2_with (fail);go_ret
    first
     | exact⟨_,rfl,⟨oM,oM⟩,E0.trans (hX.trans hX3.out)⟩
     | exact⟨⟨_,rfl,oM,oM⟩,E0.trans (hX.trans hX3.out)⟩
def cT (f:Int->Int) (a b:Int):Int:=if _h:a<b then f a+cT f (a+1) b else 0
termination_by (b - a).toNat
theorem lO {f:Int->Int}{a b:Int}(h:a<b):cT f a b=f a+cT f (a+1) b:=by rw [cT,dif_pos h]
theorem jK {f:Int->Int}{a b:Int}(h:b<=a):cT f a b=0:=by rw [cT,dif_neg oM]
theorem OL (f:Int->Int):∀ (n:Nat) (a b:Int),(b - a).toNat=n->a<=b->cT f a (b+1)=cT f a b+f b:=by
 intro n
 induction n with
 | zero => intro a b hn h;have:a=b:=oM;subst this;rw [lO oM,jK oM,jK oM];omega
 | succ n ih=>intro a b hn h;rw [lO oM,ih (a+1) b oM oM,lO (a:=a) (b:=b) oM];omega
theorem uG (f:Int->Int){a b:Int}(h:a<=b):cT f a (b+1)=cT f a b+f b:=OL f _ a b rfl h
theorem OM {f g:Int->Int} : ∀ (n:Nat) (a b:Int),(b - a).toNat=n->(∀ i,a<=i->i<b->f i=g i)->cT f a b=cT g a b:=by
 intro n
 induction n with
 | zero=>intro a b hn h;rw [jK oM,jK oM]
 | succ n ih=>intro a b hn h;rw [lO oM,lO (f:=g) oM,h a oM oM,ih (a+1) b oM (λ i h1 h2=>h i oM h2)]
theorem lP {f g:Int->Int}{a b:Int}(h:∀ i,a<=i->i<b->f i=g i):cT f a b=cT g a b:=OM _ a b rfl h
theorem Gn (f g:Int->Int):∀ (n:Nat) (a b:Int),(b - a).toNat=n->cT (λ i=>f i+g i) a b=cT f a b+cT g a b:=by
 intro n
 induction n with
 | zero=>intro a b hn;rw [jK oM,jK oM,jK oM];rfl
 | succ n ih=>intro a b hn;rw [lO oM,lO (f:=f) oM,lO (f:=g) oM,ih (a+1) b oM];omega
theorem yk {f:Int->Int}{m:Int}(_hm:0<=m)(hf:∀ i,0<=f i/\f i<=m):∀ (n:Nat) (a b:Int),(b - a).toNat=n->0<=cT f a b/\cT f a b<=m*((b - a).toNat:Int):=by
 intro n
 induction n with
 | zero=>intro a b hn;rw [jK oM,hn];simp
 | succ n ih =>
   intro a b hn;have h1:=hf a;have h2:=ih (a+1) b oM;have e:(((b - a).toNat:Nat):Int)=((b - (a+1)).toNat:Int)+1:=oM;rw [lO oM,e,Int.mul_add];generalize m*((b - (a+1)).toNat:Int)=M at *
   omega
def ej (b:Bool):Int:=if b then 1 else 0
theorem ym (b:Bool):0<=ej b/\ej b<=1:=by cases b <;> simp [ej]
theorem uH (lo hi m:Int):∀ (n:Nat) (a b:Int),(b - a).toNat=n->cT (λ i=>if lo<=i/\i<hi then m else 0) a b=((min hi b - max lo a).toNat:Int)*m:=by
 intro n
 induction n with
 | zero => intro a b hn;rw [jK oM,show (min hi b - max lo a).toNat=0 by omega];simp
 | succ n ih =>
   intro a b hn;rw [lO oM,ih (a+1) b oM];by_cases h:lo<=a/\a<hi
   . rw [aw h,show (min hi b - max lo a).toNat=(min hi b - max lo (a+1)).toNat+1 by omega,Int.natCast_add,Int.add_mul];simp;omega
   . rw [ar h];by_cases h2:a<lo
     . rw [show max lo (a+1)=max lo a by omega];omega
     . rw [show (min hi b - max lo (a+1)).toNat=0 by omega,show (min hi b - max lo a).toNat=0 by omega];simp
def fO (f:Int->Int->Bool) (r:Q4):Int:=cT (λ y=>cT (λ x=>ej (f x y)) r.a r.c) r.b r.d
def iU (s r:Q4):Int:=((min s.d r.d - max s.b r.b).toNat:Int)*((min s.c r.c - max s.a r.a).toNat:Int)
theorem ON (s r:Q4):fO (bj s) r=iU s r:=by
 rw [fO,iU]
 have h1:∀ y,cT (λ x=>ej (bj s x y)) r.a r.c=if s.b<=y/\y<s.d then ((min s.c r.c - max s.a r.a).toNat:Int) else 0:=by
  intro y;by_cases hy:s.b<=y/\y<s.d
  . rw [aw hy];rw [lP (g:=λ x=>if s.a<=x/\x<s.c then 1 else 0),uH s.a s.c 1 _ _ _ rfl]
    . omega
    . intro x _ _;by_cases hx:s.a<=x/\x<s.c
      . have:bj s x y=true:=inR_iff.2 ⟨hx,hy⟩;rw [this,aw hx];rfl
      . have:bj s x y=false:=by rw [<-gV,inR_iff];exact λ h=>hx h.1
        rw [this,ar hx];rfl
  . rw [ar hy];rw [lP (g:=λ x=>if (0:Int)<=x/\x<0 then 1 else 0),uH 0 0 1 _ _ _ rfl]
    . rw [show (min (0:Int) r.c - max 0 r.a).toNat=0 by omega];rfl
    . intro x _ _;have:bj s x y=false:=by rw [<-gV,inR_iff];exact λ h=>hy h.2
      rw [this,ar oM];rfl
 rw [lP (λ y _ _=>h1 y),uH s.b s.d _ _ _ _ rfl]
def Dis:List Q4->Prop
 | []=>True
 | r :: l=>(∀ x y,bj r x y=true->bA l x y=false)/\Dis l
def bJ (l:List Q4) (r:Q4):Int:=(l.map λ s=>iU s r).sum
theorem qf (s:Q4)(l:List Q4)(r:Q4):bJ (s :: l) r=iU s r+bJ l r:=by simp [bJ]
theorem OO {f g h:Int->Int->Bool}(r:Q4)(hfg:∀ x y,ej (h x y)=ej (f x y)+ej (g x y)):fO h r=fO f r+fO g r:=by
 rw [fO,fO,fO,<-Gn _ _ _ _ _ rfl];refine lP λ y _ _=>?_
 rw [<-Gn _ _ _ _ _ rfl];exact lP λ x _ _=>hfg x y
theorem OP (r:Q4):fO (bA []) r=0:=by
 have h:=uH 0 0 0;rw [fO,lP (g:=λ _=>if (0:Int)<=0/\(0:Int)<0 then 0 else 0)]
 . rw [lP (g:=λ i=>if (0:Int)<=i/\i<0 then 0 else 0) (λ i _ _=>by split <;> simp),h _ _ _ rfl];simp
 . intro y _ _;rw [lP (g:=λ i=>if (0:Int)<=i/\i<0 then 0 else 0) (λ i _ _=>by show ej false=_;split <;> rfl),h _ _ _ rfl];simp
theorem Gp:∀ (l:List Q4),Dis l->∀ r,fO (bA l) r=bJ l r
 | [],_,r=>OP r
 | s :: l,h,r=>by
   rw [qf,<-ON,<-Gp l h.2 r];refine OO r λ x y=>?_
   have e:bA (s :: l) x y=(bj s x y||bA l x y):=by simp [bA]
   rw [e]
   cases hs:bj s x y with
   | true=>rw [h.1 x y hs];rfl
   | false=>simp [ej]
theorem Dis.append {l m:List Q4}(hl:Dis l)(hm:Dis m)(h:∀ x y,bA l x y=true->bA m x y=false):Dis (l++m):=by
 induction l with
 | nil=>exact hm
 | cons r l ih => refine⟨λ x y hr=>?_,ih hl.2 (λ x y hx=>h x y (by simp [bA] at hx ⊢;exact aB hx))⟩;show bA (l++m) x y=false;rw [tM,hl.1 x y hr,h x y (by simp [bA,hr])];rfl
theorem Gq (y e:Int):∀ (l:List Int) (lo:Int),Inc lo l->lo<=41->Dis ((dl l).map λ p=>⟨p.1,y,p.2,e⟩)
 | [],_,_,_=>trivial
 | [_],_,_,_=>trivial
 | a :: b :: l,lo,hi,h=>by obtain⟨h1,h2,h3,h4,h5⟩:=hi;rw [dl,mX];refine⟨λ x z hr=>?_,Gq y e l (b+1) h5 oM⟩;rw [<-gV,bA,aL59];rintro⟨s,hs,hs2⟩;rw [aL52] at hs;obtain⟨p,hp,rfl⟩:=hs;have:=(rm l (b+1) h5 oM).2.2.2 p hp;rw [inR_iff] at hr hs2;simp only at hr hs2;omega
theorem OQ (g:ac):∀ (n:Nat) (y0:Int),(40 - y0).toNat<=n->y0<=40->Dis (ez g y0):=by
 intro n
 induction n with
 | zero=>intro y0 hn h40;rw [iL oM];trivial
 | succ n ih =>
   intro y0 hn h40;by_cases h:y0<40
   . have g1:=nj g y0 (y0+1);have g2:=pM g y0 (y0+1) oM;rw [lC h];refine (Gq _ _ _ _ (rl g y0) oM).append (ih _ oM g2) λ x y hx=>?_
     have h1:=((Ed g y0 x y).1 hx).1;rw [<-gV,Ee g _ _ (ai _) g2];rintro⟨h2,-⟩;omega
   . rw [iL oM];trivial
theorem OR (g:ac):Dis (ah g):=OQ g _ _ (ai _) oM
theorem OS {l:List Q4}(h:aH l=true):Dis l:=by rw [isReg_iff] at h;rw [<-h.2];exact OR _
theorem Gr {f g:Int->Int->Bool}{r:Q4}(h:∀ x y,(r.a<=x/\x<r.c)->(r.b<=y/\y<r.d)->f x y=g x y):fO f r=fO g r :=
 lP λ y h1 h2=>lP λ x h3 h4=>by rw [h x y ⟨h3,h4⟩ ⟨h1,h2⟩]
theorem yn {l:List Q4}(h:aH l=true)(r:Q4)(hr:(-40<=r.a/\r.c<=40)/\(-40<=r.b/\r.d<=40)):bJ l r=fO (gh (gL l)) r:=by
 rw [<-Gp l (OS h)];refine Gr λ x y h1 h2=>?_
 rw [gL,iK _ (by rw [onC_iff];omega)]
theorem yo (f:Int->Int->Bool)(r:Q4)(hr:(-40<=r.a/\r.c<=40)/\(-40<=r.b/\r.d<=40)):0<=fO f r/\fO f r<=6400:=by
 have h1:∀ y,0<=cT (λ x=>ej (f x y)) r.a r.c/\cT (λ x=>ej (f x y)) r.a r.c<=80:=λ y=>by have:=yk (m:=1) (f:=λ x=>ej (f x y)) oM (λ x=>ym _) _ r.a r.c rfl;omega
 have:=yk (m:=80) oM h1 _ r.b r.d rfl;rw [fO];omega
def jL (s y:Int):Nat->Int->List Q4
 | 0,_=>[]
 | k+1,x=>if x<40 then ⟨x,y,min (x+s) 40,min (y+s) 40⟩:: jL s y k (x+s) else []
def jM (s:Int):Nat->Int->List Q4
 | 0,_=>[]
 | k+1,y=>if y<40 then jL s y 80 (-40)++jM s k (y+s) else []
def gp (s:Int):List Q4:=jM s 80 (-40)
theorem Gs {s y:Int}(hs:1<=s):∀ (k m:Nat) (x:Int),40 - x<=k->40 - x<=m->jL s y k x=jL s y m x
 | 0,0,_,_,_=>rfl
 | 0,m+1,x,h,_=>by rw [jL,jL,ar oM]
 | k+1,0,x,_,h=>by rw [jL,jL,ar oM]
 | k+1,m+1,x,h1,h2=>by
   rw [jL,jL]
   split
   . rw [Gs hs k m (x+s) oM oM]
   . rfl
theorem Gt {s:Int}(hs:1<=s):∀ (k m:Nat) (y:Int),40 - y<=k->40 - y<=m->jM s k y=jM s m y
 | 0,0,_,_,_=>rfl
 | 0,m+1,y,h,_=>by rw [jM,jM,ar oM]
 | k+1,0,y,_,h=>by rw [jM,jM,ar oM]
 | k+1,m+1,y,h1,h2=>by
   rw [jM,jM]
   split
   . rw [Gt hs k m (y+s) oM oM]
   . rfl
def iV (s y x:Int):List Q4:=jL s y 80 x
def gu (s y:Int):List Q4:=jM s 80 y
theorem uI {s y x:Int}(hs:1<=s)(h0 : -40<=x)(h:x<40):iV s y x=⟨x,y,min (x+s) 40,min (y+s) 40⟩:: iV s y (x+s):=by rw [iV,jL,aw h,iV,Gs hs 79 80 (x+s) oM oM]
theorem rZ {s y x:Int}(h:40<=x):iV s y x=[]:=by rw [iV,jL,ar oM]
theorem sg {s y:Int}(hs:1<=s)(h0 : -40<=y)(h:y<40):gu s y=iV s y (-40)++gu s (y+s):=by rw [gu,jM,aw h,gu,Gt hs 79 80 (y+s) oM oM];rfl
theorem qg {s y:Int}(h:40<=y):gu s y=[]:=by rw [gu,jM,ar oM]
theorem OT {s y:Int}(hs:1<=s)(hy0 : -40<=y)(hy:y<40):∀ (n:Nat) (x:Int),(40 - x).toNat<=n -> -40<=x->∀ r∈iV s y x,vR r=true:=by
 intro n
 induction n with
 | zero=>intro x hx _;rw [rZ oM];simp
 | succ n ih =>
   intro x hx h0 r hr;by_cases h:x<40
   . rw [uI hs h0 h,aL89] at hr;rcases hr with rfl | hr
     . rw [vR_iff];simp only;omega
     . exact ih (x+s) oM oM r hr
   . rw [rZ oM] at hr;cases hr
theorem OU {s:Int}(hs:1<=s):∀ (n:Nat) (y:Int),(40 - y).toNat<=n -> -40<=y->∀ r∈gu s y,vR r=true:=by
 intro n
 induction n with
 | zero=>intro y hy _;rw [qg oM];simp
 | succ n ih =>
   intro y hy h0 r hr;by_cases h:y<40
   . rw [sg hs h0 h,aL49] at hr;rcases hr with hr | hr
     . exact OT hs h0 h _ (-40) (ai _) oM r hr
     . exact ih (y+s) oM oM r hr
   . rw [qg oM] at hr;cases hr
theorem OV (s:Int):gp s=gu s (-40):=rfl
theorem Gu {s:Int}(hs:1<=s):∀ r∈gp s,vR r=true:=OU hs _ _ (ai _) oM
theorem OW {s y:Int}(hs:4<=s):∀ (n:Nat) (x:Int),(40 - x).toNat<=n -> -40<=x->(iV s y x).length*4<=(40 - x).toNat+3:=by
 intro n
 induction n with
 | zero=>intro x hx _;rw [rZ oM];simp
 | succ n ih =>
   intro x hx h0;by_cases h:x<40
   . have:=ih (x+s) oM oM;rw [uI oM h0 h,eO];omega
   . rw [rZ oM];simp
theorem OX {s:Int}(hs:4<=s):∀ (n:Nat) (y:Int),(40 - y).toNat<=n -> -40<=y->(gu s y).length*4<=20*((40 - y).toNat+3):=by
 intro n
 induction n with
 | zero=>intro y hy _;rw [qg oM];simp
 | succ n ih =>
   intro y hy h0;by_cases h:y<40
   . have h1:=ih (y+s) oM oM;have h2:=OW (y:=y) hs _ (-40) (ai _) oM;by_cases h3:y+s<40
     . rw [sg oM h0 h,aI];omega
     . rw [sg oM h0 h,aI,qg (y:=y+s) oM];simp;omega
   . rw [qg oM];simp
theorem uJ {s:Int}(hs:4<=s):(gp s).length<=420:=by have:=OX hs _ (-40) (ai _) oM;rw [OV];omega
def gA (r:Q4):Int:=(r.c - r.a)*(r.d - r.b)
def fj (covered:Int) (r:Q4) (percent:Int):Bool:=decide (percent*gA r<=100*covered)
def dI (p q:Q4):Q4:=⟨max p.a q.a,max p.b q.b,min p.c q.c,min p.d q.d⟩
theorem Gv (p q:Q4):(if vR (dI p q)=true then gA (dI p q) else 0)=if vR p=true/\vR q=true then iU p q else (if vR (dI p q)=true then gA (dI p q) else 0):=by
 by_cases h:vR p=true/\vR q=true
 . rw [aw h];obtain⟨h1,h2⟩:=h;rw [vR_iff] at h1 h2;rw [iU,gA];by_cases hv:vR (dI p q)=true
   . rw [aw hv];rw [vR_iff] at hv;simp only [dI] at hv ⊢;rw [show (((min p.d q.d - max p.b q.b).toNat:Nat):Int)=min p.d q.d - max p.b q.b by omega,show (((min p.c q.c - max p.a q.a).toNat:Nat):Int)=min p.c q.c - max p.a q.a by omega,Int.mul_comm]
   . rw [ar hv];rw [vR_iff] at hv;simp only [dI] at hv;by_cases hx:min p.c q.c<=max p.a q.a
     . rw [show (min p.c q.c - max p.a q.a).toNat=0 by omega];simp
     . rw [show (min p.d q.d - max p.b q.b).toNat=0 by omega];simp
 . rw [ar h]
theorem Gx (p q:Q4)(w:World) :
 CE 358 #[.agg #[p.a,p.b,p.c,p.d],.agg #[q.a,q.b,q.c,q.d]] w (.agg #[.int .i64 (dI p q).a,.int .i64 (dI p q).b,.int .i64 (dI p q).c,.int .i64 (dI p q).d]):=by
 go_enter func358,ntmps358;go_wp2
 all_goals
  refine bB (v:=.agg #[.int .i64 (dI p q).a,.int .i64 (dI p q).b,.int .i64 (dI p q).c,.int .i64 (dI p q).d]) (by simp [results,Tryz.results358,go_sem,dI]<;>omega) rfl ⟨rfl,?_⟩;exact (((ab _).alloc _).alloc _).alloc _
theorem uK (r:Q4)(w:World)(hv:vR r=true) :
 CE 355 #[.agg #[r.a,r.b,r.c,r.d]] w (gA r:Int):=by
 obtain⟨h0,h1⟩:=pU hv;have hr:Hid ((r.c - r.a)*(r.d - r.b)=gA r):=rfl;rw [vR_iff] at hv;obtain⟨⟨a0,a1,a2⟩,b0,b1,b2⟩:=hv;go_enter func355,ntmps355;go_wp2;go_ret;exact⟨cp hr.out,(ab _).alloc _⟩
theorem uL {r:Q4}(h:vR r=true):0<=gA r/\gA r<=6400:=pU h
theorem Gy {s r:Q4}(h:vR r=true):0<=iU s r/\iU s r<=6400:=by rw [vR_iff] at h;rw [iU];have h1:(min s.d r.d - max s.b r.b).toNat<=80:=oM;have h2:(min s.c r.c - max s.a r.a).toNat<=80:=oM;have:=Nat.mul_le_mul h1 h2;rw [<-Int.natCast_mul];omega
theorem Gz {r:Q4}(h:vR r=true):∀ l:List Q4,0<=bJ l r/\bJ l r<=6400*(l.length:Int)
 | []=>by simp [bJ]
 | s :: l=>by have h1:=Gy (s:=s) h;have h2:=Gz h l;rw [qf,eO];omega
theorem OY (l m:List Q4)(r:Q4):bJ (l++m) r=bJ l r+bJ m r:=by
 induction l with
 | nil=>simp [bJ]
 | cons s l ih=>rw [List.cons_append,qf,qf,ih];omega
theorem OZ {s r:Q4}(hs:vR s=true)(hr:vR r=true)(h:vR (dI s r)=true):gA (dI s r)=iU s r:=by have:=Gv s r;rw [aw h,aw ⟨hs,hr⟩] at this;exact this
theorem O0 {s r:Q4}(hs:vR s=true)(hr:vR r=true)(h:vR (dI s r)=false):iU s r=0:=by have:=Gv s r;rw [ar (by rw [h];simp),aw ⟨hs,hr⟩] at this;exact this.symm
theorem O1 (q:OA)(n c:Nat)(l:List Q4)(r:Q4)(w:World)(h:SlT aj 4 w q n l)(hn:n<=1048576)(hv:∀ s∈l,vR s=true)(hr:vR r=true) :
 CE 354 #[sl q n c,.agg #[r.a,r.b,r.c,r.d]] w (bJ l r:Int):=by
 have hl:=aa h.length;replace hv:=aa hv;replace hr:=aa hr;go_enter func354,ntmps354;go_wp2_with fail;generalize hW:w.alloc _=W0;obtain⟨E0,z0,b0⟩:=al hW;clear hW;have b1:=aa (show Blk W0 w [_,_,_,_] _ from b0);clear b0;replace z0:=aa z0;go_loopw [5,11] (λ a i wr=>∃ k:Nat,k<=n/\i=.int .i64 k/\a=.int .i64 (bJ (l.take k) r)/\Ext W0 wr) (λ _ i _=>n - (intOf i).toNat)
 case atStart=>exact⟨0,oM,rfl,rfl,ab _⟩
 case round =>
  obtain⟨k,hk,rfl,rfl,hE⟩:=hrel;have hbd:=Gz hr.out (l.take k);have hkl:(l.take k).length<=k:=md _ _;by_cases hlt:k<n
  . obtain⟨b,off,s,rfl,hb,hs,c0,c1,c2,c3⟩:=(h.ext (E0.trans hE)).four hlt;have hvs:=aa (hv.out s (ap hs.out));have hcb:=Gy (s:=s) hr.out;have hkI:(k:Int)<n:=oM;have hS2:Hid (bJ (l.take k) r+iU s r=bJ (l.take (k+1)) r):=by show _=_;rw [ch hs.out,OY,qf];simp [bJ]
    obtain⟨A,hA⟩:∃ A,A=bJ (l.take k) r:=⟨_,rfl⟩;rw [<-hA] at hbd hS2 ⊢;replace hA:=aa hA;have hb2:=b1.ext hE;have g:=hb2.cells;have k0:=g 0;have k1:=g 1;have k2:=g 2;have k3:=g 3;simp only [aJ,aN] at k0 k1 k2 k3;have hBl:=hb2.lt;clear g hb2;go_wp2_with fail;generalize hW1:wr.alloc _=W1;obtain⟨E1,z1,b2⟩:=al hW1;clear hW1;replace z1:=aa z1;replace b2:=aa b2;refine (Gx s r _).mono ?_;obtain⟨C,hC⟩:∃ C,C=dI s r:=⟨_,rfl⟩;rw [<-hC];rintro e w2 ⟨rfl,E2⟩;have hE2:=aa ((hE.trans E1).trans E2);clear E1 E2 c0 c1 c2 c3 k0 k1 k2 k3 hb hBl
    cases hvc:vR C with
    | true =>
      have hcall:=λ W=>mA C W
      rw [hvc] at hcall;have hCA:Hid (gA C=iU s r):=by show _=_;rw [hC];exact OZ hvs.out hr.out (by rw [<-hC];exact hvc)
      have hab:=uL hvc;replace hvc:=aa hvc;replace hC:=aa hC;go_wp2_with fail;generalize hW3:w2.alloc _=W3;obtain⟨E3,z3,b3⟩:=al hW3;clear hW3;replace z3:=aa z3;refine (hcall _).mono ?_;rintro e w4 ⟨rfl,E4⟩;have b5:=(show Blk W3 w2 [_,_,_,_] _ from b3).ext E4;have g:=b5.cells;have k0:=g 0;have k1:=g 1;have k2:=g 2;have k3:=g 3;simp only [aJ,aN] at k0 k1 k2 k3;have hBl:=b5.lt;have hE4:=aa ((hE2.trans E3).trans E4);clear g b5 b3 E3 E4 hcall;go_wp2_with fail;refine (uK C _ hvc.out).mono ?_;rintro e w5 ⟨rfl,E5⟩;have hE5:=aa (hE4.trans E5);clear k0 k1 k2 k3 E5;go_wp2_with fail;go_roundw
      case rel=>exact⟨k+1,oM,gN,by rw [<-hS2.out,hCA.out],hE5.out⟩
      case measure=>exact mS
    | false =>
      have hcall:=λ W=>mA C W
      rw [hvc] at hcall;have hCA:Hid (iU s r=0):=O0 hvs.out hr.out (by rw [<-hC];exact hvc);replace hvc:=aa hvc;replace hC:=aa hC;go_wp2_with fail;refine (hcall _).mono ?_;rintro e w4 ⟨rfl,E4⟩;have hE4:=aa ((hE2.alloc _).trans E4);clear E4 hcall;go_wp2_with fail;go_roundw
      case rel=>exact⟨k+1,oM,gN,by rw [<-hS2.out,hCA.out,Int.add_zero],hE4.out⟩
      case measure=>exact mS
  . have hkI:¬ (k:Int)<n:=oM;have hta:Hid (l.take k=l):=cz hl.out oM;go_wp2_with fail;go_ret;exact⟨cp (by rw [hta.out]),E0.trans hE⟩
end Go.Proofs.YtnlajnpcdnnpmaaGreat
