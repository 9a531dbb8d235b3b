/- Part of a proof. No condition. -/
import Derived.Test.YtnlajnpcdnnpmaaGreatA40
namespace Go.Proofs.YtnlajnpcdnnpmaaGreat
set_option linter.all false
set_option maxRecDepth 100000
set_option maxHeartbeats 16000000
open Go.Proofs.Tryz Go.RowKit Go.PlainAid
theorem Hv (L:List (List Q4))(r:RuD):(fG L r).length<=3200/\∀ s∈fG L r,vR s=true:=eU (isReg_iff.1 (PM L r)).1
theorem uX (L:List (List Q4))(R:List RuD){k:Nat}(hk:k<=12):(cY L R k).length<=76800:=by have:=Hu L R k;omega
theorem Re (q:OA)(c:Nat)(L:List (List Q4))(p:OA)(n cr base:Nat)(R:List RuD)(w:World)(h:SlS w q 8 L)(hr:∀ l∈L,aH l=true)(hR:SlD (Fl bE) 5 base w p n R)(hn:n<=12)(hv:∀ r∈R,au r=true) :
 Calls prog 125 #[sl q 8 c,.agg #[sl p n cr]] w λ e w'=>∃ q2 c2,e=.returned (sl q2 (eZ L R).length c2)/\OwV w w' q2 c2 (eZ L R)/\Ext w w':=by
 obtain⟨i0,hi,hz0,hz1,hz2⟩:=aM uV;have hl:=aa hR.length;have hRf:=aa hR.flat;replace hr:=aa hr;replace hv:=aa hv;go_enter func125,ntmps125;go_upto_region 1 with (fail);generalize hW:World.alloc _ _=W0;obtain⟨E0,z0,b0⟩:=al hW;clear hW z0;replace b0:=aa (show Blk W0 w [sl p n cr] _ from b0);go_upto_region 2 with (fail);have ho0:=dh (size:=2) (aD W0 [] 79) (ai _);generalize hW:W0.alloc _=W1 at ho0 ⊢;have E1:Ext w W1:=by rw [<-hW];exact E0.alloc _
 have b1:=aa (show Blk W1 w [sl p n cr] _ from by rw [<-hW];exact b0.alloc _);clear hW b0;have⟨g1,l1⟩:=b1.gl;have hO1:Hid (OwV w W1 (so W0 0) 0 (cY L R 0)):=aa ⟨[],⟨OwnX.start (fi ho0 E0.le),rfl⟩⟩;have hX1:=aa E1;clear ho0 E1 E0;go_wp2_with (fail);clear g1 l1 b1;go_loopw [5,14] (λ vo iv wx=>∃ (k:Nat) (q:OA) (c:Nat),k<=n/\vo=sl q (cY L R k).length c/\iv=.int .i64 k/\Hid (OwV w wx q c (cY L R k))/\Hid (Ext w wx)) (λ _ i _=>n - (intOf i).toNat)
 case atStart=>exact⟨0,_,_,oM,rfl,rfl,hO1,hX1⟩
 case round =>
  clear hO1 hX1;obtain⟨k,qo,co,hk,rfl,rfl,hO,hX⟩:=hrel;by_cases hkt:k<n
  . have hkI:(k:Int)<(n:Int):=oM;obtain⟨b,off,x,rfl,hbn,hx,hc⟩:=(hRf.ext hX.out).get hkt;have c0:=hc 0 _ rfl;rw [aq] at c0;have c1:=hc 1 _ rfl;have c2x:=hc 2 _ rfl;have c3x:=hc 3 _ rfl;have c4x:=hc 4 _ rfl;clear hc;have hxv:=hv.out x (ap hx.out);obtain⟨ml,mv⟩:=Hv L x;have hrm:=aa (λ(W:World) (hE:Ext w W)=>Q7 q c L x W (h.ext hE) hr.out hxv);have hcm:=aa (λ(q1:OA) (c1:Nat) (W:World) (hs:SlT aj 4 W q1 (fG L x).length (fG L x))=>yB q1 (fG L x).length c1 (fG L x) W hs oM mv);clear mv hxv;obtain⟨G,hG⟩:∃ G,Hid (bk (gL (fG L x))=G):=⟨_,aa rfl⟩;have hg6:G.length<=6400:=by rw [<-hG.out];exact (jI _).2.2.2
    have hkk:Hid (ku L R k=G.map λ g=>((k:Int),g)):=aa (by rw [ku,iD,ER hx.out,hG.out]);rw [hG.out] at hcm;go_upto_region 5 with (fail);generalize hW8:World.alloc _ _=W8;obtain⟨E8,z8,b8⟩:=al hW8;clear hW8 z8;replace b8:=aa (show Blk W8 wr [x.a,x.b,x.c,x.d,x.e] _ from b8);have⟨g8,l8⟩:=b8.gl;have hO8:=aa (hO.ext E8);have hX8:=aa (hX.trans E8);clear E8 c0 c1 c2x c3x c4x hbn hO hX;go_wp2_with (first | (go_at_call 194;(with_reducible refine (hrm.out _ hX8.out).mono ?_);rintro e w3 ⟨q3,c3,rfl,o3,E3⟩;have s3:=aa (bm (l:=fG L x) cw rfl o3);have hO3:=aa (hO8.ext E3);have hX3:=aa (hX8.trans E3);clear o3 E3) | (go_at_call 193;(with_reducible refine (hcm.out q3 c3 _ s3.out).mono ?_);rintro e w4 ⟨q4,c4,HG,rfl,o4,E4⟩;have hC0:=aa (CkI.start (k:=k) hO3.out hX3.out o4 E4);clear o4 E4) | fail);clear g8 l8 b8 hO8 hX8 hrm hcm s3;have hlN:=uX L R (k:=k) oM;go_loopw [5,24] (λ vo iv wx=>∃ (j:Nat) (q:OA) (c:Nat),j<=G.length/\vo=sl q ((cY L R k).length+j) c/\iv=.int .i64 j/\Hid (CkI w w3 w4 wx k (cY L R k) G q4 c4 HG j q c)) (λ _ i _=>G.length - (intOf i).toNat)
    case atStart=>exact⟨0,qo,co,oM,rfl,rfl,hC0⟩
    case round =>
     clear hC0;obtain⟨j,q5,c5,hj,rfl,rfl,hC⟩:=hrel;by_cases hjt:j<G.length
     . have hjI:(j:Int)<(G.length:Int):=oM;obtain⟨bb,g,q1,n1,cc1,rfl,hb4,hgg,z⟩:=hC.at hjt;have hln:(cY L R k++(G.take j).map λ g=>((k:Int),g)).length=(cY L R k).length+j:=by rw [aI,dD,fI,qL oM]
       replace hln:=aa hln;obtain⟨HV,hHV,hU⟩:=hC.out.out;have htop:=hHV.1.top;rw [hln.out] at htop;obtain⟨H9,hH9e⟩:∃ H9,H9=HV.flatMap fV:=⟨_,rfl⟩;rw [<-hH9e] at htop;have hH9:=aa (⟨HV,hH9e,hHV,hU⟩:∃ H:List VX,H9=H.flatMap fV/\OwVH w wr q5 c5 (cY L R k++(G.take j).map λ g=>((k:Int),g)) H/\∀ b,b∈di Prod.snd H->b<w3.heap.size\/∃ i h,i<j/\HG[i]?=some h/\b∈ao h.1);replace htop:=aa htop;have hlo:=aa hC.ext.le;obtain⟨N9,hN9⟩:∃ N9,N9=(cY L R k).length+j:=⟨_,rfl⟩;rw [<-hN9] at htop hln;rw [<-hN9];have hN9b:N9<=100000:=oM;replace hN9:=aa hN9;clear hHV hU hH9e;go_wp2_with (first | (at_builtin;refine cZ _ rfl _ _ 39 rfl w 79 i0 (.agg #[(0:Int),.slice none 0 0]) 2 32 underlying39 hi hz0 hz1 hz2 rfl oM _ _ _ rfl (cv htop.out _) ⟨_,0,none⟩ 1 1 [.int .i64 (k:Int),sl q1 n1 cc1] rfl rfl (dg _ [_,_] _) (by intro u9 h9;simp at h9;rcases h9 with rfl | rfl <;> rfl) (cx oM oM) oM (by have:=hlo.out;simp;omega) ?_;intro v2 wA hoA hgA hnA hbA;obtain⟨qa,ca,rfl⟩:=cq hoA;have hP:=aa (hC.push hln.out hgg.1 hgg.2 H9 hH9.out hoA hgA hbA);clear hoA hgA hnA hbA) | fail);exact A8
     . exact zv
  . have hkI:¬ (k:Int)<(n:Int):=oM;obtain rfl:k=n:=oM;have hfin:Hid (eZ L R=cY L R k):=aa (by rw [eZ,hl.out]);go_wp2_with (fail);go_ret;rw [hfin.out];exact⟨qo,co,rfl,hO.out,hX.out⟩
theorem Rf (q:OA)(c:Nat)(L:List (List Q4))(p:OA)(n cr base:Nat)(R:List RuD)(w:World)(h:SlS w q 8 L)(hr:∀ l∈L,aH l=true)(hR:SlD (Fl bE) 5 base w p n R)(hn:n<=12)(hv:∀ r∈R,au r=true) :
 Calls prog 101 #[sl q 8 c,.agg #[sl p n cr]] w λ e w'=>∃ q2 c2,e=.returned (.tuple #[sl q2 (eZ L R).length c2,.bool (decide ((eZ L R).length<=256))])/\OwV w w' q2 c2 (eZ L R)/\Ext w w':=by
 obtain⟨i0,hi,hz0,hz1,hz2⟩:=aM uV;have hl:=aa hR.length;have hRf:=aa hR.flat;replace hr:=aa hr;replace hv:=aa hv;go_enter func101,ntmps101;go_upto_region 1 with (fail);generalize hW:World.alloc _ _=W0;obtain⟨E0,z0,b0⟩:=al hW;clear hW z0;replace b0:=aa (show Blk W0 w [sl p n cr] _ from b0);go_upto_region 2 with (fail);have ho0:=dh (size:=2) (aD W0 [] 79) (ai _);generalize hW:W0.alloc _=W1 at ho0 ⊢;have E1:Ext W0 W1:=by rw [<-hW];exact (ab W0).alloc _
 clear hW;have hO1:Hid (OwV W0 W1 (so W0 0) 0 (cY L R 0)):=aa ⟨[],⟨OwnX.start ho0,rfl⟩⟩;have hX1:=aa E1;replace E0:=aa E0;clear ho0 E1;go_wp2_with (fail);go_loopw [6,7] (λ vo iv wx=>∃ (k:Nat) (q:OA) (c:Nat),k<=n/\vo=sl q (cY L R k).length c/\iv=.int .i64 k/\Hid (OwV W0 wx q c (cY L R k))/\Hid (Ext W0 wx)) (λ _ i _=>n - (intOf i).toNat)
 case atStart=>exact⟨0,_,_,oM,rfl,rfl,hO1,hX1⟩
 case round =>
  clear hO1 hX1;obtain⟨k,qo,co,hk,rfl,rfl,hO,hX⟩:=hrel;have bx:=aa (b0.ext hX.out);have⟨gx,lx⟩:=bx.gl;by_cases hkt:k<n
  . have hkI:(k:Int)<(n:Int):=oM;obtain⟨b,off,x,rfl,hbn,hx,hc⟩:=(hRf.ext (E0.trans hX.out)).get hkt;have c0:=hc 0 _ rfl;rw [aq] at c0;have c1:=hc 1 _ rfl;have c2x:=hc 2 _ rfl;have c3x:=hc 3 _ rfl;have c4x:=hc 4 _ rfl;clear hc;have hxv:=hv.out x (ap hx.out);obtain⟨ml,mv⟩:=Hv L x;have hrm:=aa (λ(W:World) (hE:Ext w W)=>Q8 q c L x W (h.ext hE) hr.out hxv);have hcm:=aa (λ(q1:OA) (c1:Nat) (W:World) (hs:SlT aj 4 W q1 (fG L x).length (fG L x))=>FY q1 (fG L x).length c1 (fG L x) W hs oM mv);clear mv hxv;obtain⟨G,hG⟩:∃ G,Hid (bk (gL (fG L x))=G):=⟨_,aa rfl⟩;have hg6:G.length<=6400:=by rw [<-hG.out];exact (jI _).2.2.2
    have hkk:Hid (ku L R k=G.map λ g=>((k:Int),g)):=aa (by rw [ku,iD,ER hx.out,hG.out]);rw [hG.out] at hcm;go_wp2_with (first | (go_at_call 163;(with_reducible refine (hrm.out _ (E0.out.trans hX.out)).mono ?_);rintro e w3 ⟨q3,c3,rfl,o3,E3⟩;have s3:=aa (bm (l:=fG L x) cw rfl o3);have hO3:=aa (hO.ext E3);have hX3:=aa (hX.trans E3);clear o3 E3) | (go_at_call 162;(with_reducible refine (hcm.out q3 c3 _ s3.out).mono ?_);rintro e w4 ⟨q4,c4,HG,rfl,o4,E4⟩;have hC0:=aa (CkI.start (k:=k) hO3.out hX3.out o4 E4);clear o4 E4) | fail);clear gx lx bx hO hX hrm hcm s3 c0 c1 c2x c3x c4x hbn;have hlN:=uX L R (k:=k) oM;go_loopw [6,9] (λ vo iv wx=>∃ (j:Nat) (q:OA) (c:Nat),j<=G.length/\vo=sl q ((cY L R k).length+j) c/\iv=.int .i64 j/\Hid (CkI W0 w3 w4 wx k (cY L R k) G q4 c4 HG j q c)) (λ _ i _=>G.length - (intOf i).toNat)
    case atStart=>exact⟨0,qo,co,oM,rfl,rfl,hC0⟩
    case round =>
     clear hC0;obtain⟨j,q5,c5,hj,rfl,rfl,hC⟩:=hrel;by_cases hjt:j<G.length
     . have hjI:(j:Int)<(G.length:Int):=oM;obtain⟨bb,g,q1,n1,cc1,rfl,hb4,hgg,z⟩:=hC.at hjt;have hln:(cY L R k++(G.take j).map λ g=>((k:Int),g)).length=(cY L R k).length+j:=by rw [aI,dD,fI,qL oM]
       replace hln:=aa hln;obtain⟨HV,hHV,hU⟩:=hC.out.out;have htop:=hHV.1.top;rw [hln.out] at htop;obtain⟨H9,hH9e⟩:∃ H9,H9=HV.flatMap fV:=⟨_,rfl⟩;rw [<-hH9e] at htop;have hH9:=aa (⟨HV,hH9e,hHV,hU⟩:∃ H:List VX,H9=H.flatMap fV/\OwVH W0 wr q5 c5 (cY L R k++(G.take j).map λ g=>((k:Int),g)) H/\∀ b,b∈di Prod.snd H->b<w3.heap.size\/∃ i h,i<j/\HG[i]?=some h/\b∈ao h.1);replace htop:=aa htop;have hlo:=aa hC.ext.le;obtain⟨N9,hN9⟩:∃ N9,N9=(cY L R k).length+j:=⟨_,rfl⟩;rw [<-hN9] at htop hln;rw [<-hN9];have hN9b:N9<=100000:=oM;replace hN9:=aa hN9;clear hHV hU hH9e;go_wp2_with (first | (at_builtin;refine cZ _ rfl _ _ 39 rfl W0 79 i0 (.agg #[(0:Int),.slice none 0 0]) 2 32 underlying39 hi hz0 hz1 hz2 rfl oM _ _ _ rfl (cv htop.out _) ⟨_,0,none⟩ 1 1 [.int .i64 (k:Int),sl q1 n1 cc1] rfl rfl (dg _ [_,_] _) (by intro u9 h9;simp at h9;rcases h9 with rfl | rfl <;> rfl) (cx oM oM) oM (by have:=hlo.out;simp;omega) ?_;intro v2 wA hoA hgA hnA hbA;obtain⟨qa,ca,rfl⟩:=cq hoA;have hP:=aa (hC.push hln.out hgg.1 hgg.2 H9 hH9.out hoA hgA hbA);clear hoA hgA hnA hbA) | fail);exact A8
     . exact zv
  . have hkI:¬ (k:Int)<(n:Int):=oM;obtain rfl:k=n:=oM;have hfin:Hid (eZ L R=cY L R k):=aa (by rw [eZ,hl.out]);go_wp2_with (fail);have hd9:decide (((cY L R k).length:Int)<=256)=decide ((cY L R k).length<=256):=by rw [aL127];omega
    refine bB (results_tmp2 rfl _ _ _) rfl ?_;rw [hfin.out,<-hd9];exact⟨qo,co,rfl,hO.low E0.le,E0.trans hX.out⟩
def lS (L:List (List Q4)) (R:List RuD):Int:=if 256<(eZ L R).length then 3 else 0
def kT (L:List (List Q4)) (R:List RuD):List aV:=if 256<(eZ L R).length then [] else eZ L R
def qu (L:List (List Q4)) (R:List RuD) (w:World) (e:Ending) (w':World):Prop:=∃ q2 c2,e=.returned (.tuple #[sl q2 (kT L R).length c2,.int .i64 (lS L R)])/\OwV w w' q2 c2 (kT L R)/\Ext w w'
theorem uY {L:List (List Q4)}{R:List RuD}(h:256<(eZ L R).length):lS L R=3/\kT L R=[]:=⟨aw h,aw h⟩
theorem uZ {L:List (List Q4)}{R:List RuD}(h:¬ 256<(eZ L R).length):lS L R=0/\kT L R=eZ L R:=⟨ar h,ar h⟩
theorem Rh (q:OA)(c:Nat)(L:List (List Q4))(p:OA)(n base:Nat)(R:List RuD)(w:World)(h:SlS w q 8 L)(hr:∀ l∈L,aH l=true)(hR:SlD (Fl bE) 5 base w p n R)(hk:dO R=true)(hn:n<=12)(hv:∀ r∈R,au r=true) :
 Calls prog 66 #[sl q 8 c,.agg #[sl p n n]] w (qu L R w):=by
 have k1:=aa (λ V (hV:Ext w V)=>QP q c L V (h.ext hV) hr);have k2:=λ V (hV:Ext w V)=>wv p n base R V (hR.ext aT hV) oM
 rw [hk] at k2;replace k2:=aa k2;have k3:=λ V (hV:Ext w V)=>Re q c L p n n base R V (h.ext hV) hr (hR.ext aT hV) hn hv
 have hc1:=aa (λ h=>uY (L:=L) (R:=R) h);have hc2:=aa (λ h=>uZ (L:=L) (R:=R) h);have hln:=uX L R (k:=R.length) (by have:=hR.length;omega);rw [show cY L R R.length=eZ L R from rfl] at hln;obtain⟨X,hX⟩:∃ X,eZ L R=X:=⟨_,rfl⟩;rw [hX] at k3 hc1 hc2 hln;clear hX hk hr hv;by_cases h256:256<X.length
 . have hcc:=aa (hc1.out h256);have h256I:(256:Int)<(X.length:Int):=oM;have h256D:Hid (decide (X.length<=256)=false):=aa (by simp;omega);skip;replace k3:=aa k3;go_enter func66,ntmps66;exact zF
 . have hcc:=aa (hc2.out h256);have h256I:¬ (256:Int)<(X.length:Int):=oM;have h256D:Hid (decide (X.length<=256)=true):=aa (by simp;omega);skip;replace k3:=aa k3;go_enter func66,ntmps66;exact zE
theorem Ri (q:OA)(c:Nat)(L:List (List Q4))(p:OA)(n base:Nat)(R:List RuD)(w:World)(h:SlS w q 8 L)(hr:∀ l∈L,aH l=true)(hR:SlD (Fl bE) 5 base w p n R)(hk:dO R=true)(hn:n<=12)(hv:∀ r∈R,au r=true) :
 Calls prog 49 #[sl q 8 c,.agg #[sl p n n]] w (qu L R w):=by
 have k1:=aa (λ V (hV:Ext w V)=>QQ q c L V (h.ext hV) hr);have k2:=λ V (hV:Ext w V)=>ww p n base R V (hR.ext aT hV) oM
 rw [hk] at k2;replace k2:=aa k2;have k3:=λ V (hV:Ext w V)=>Rf q c L p n n base R V (h.ext hV) hr (hR.ext aT hV) hn hv
 have hc1:=aa (λ h=>uY (L:=L) (R:=R) h);have hc2:=aa (λ h=>uZ (L:=L) (R:=R) h);have hln:=uX L R (k:=R.length) (by have:=hR.length;omega);rw [show cY L R R.length=eZ L R from rfl] at hln;obtain⟨X,hX⟩:∃ X,eZ L R=X:=⟨_,rfl⟩;rw [hX] at k3 hc1 hc2 hln;clear hX hk hr hv;by_cases h256:256<X.length
 . have hcc:=aa (hc1.out h256);have h256I:(256:Int)<(X.length:Int):=oM;have h256D:Hid (decide (X.length<=256)=false):=aa (by simp;omega);rw [h256D.out] at k3;replace k3:=aa k3;go_enter func49,ntmps49;exact zF
 . have hcc:=aa (hc2.out h256);have h256I:¬ (256:Int)<(X.length:Int):=oM;have h256D:Hid (decide (X.length<=256)=true):=aa (by simp;omega);rw [h256D.out] at k3;replace k3:=aa k3;go_enter func49,ntmps49;exact zE
theorem Rj (q:OA)(n c:Nat)(l:List Q4)(w:World)(h:SlT aj 4 w q n l)(hn:n<=1048576)(hr:aH l=true)(h1:(bk (gL l)).length=1) :
 CE 293 #[sl q n c] w (.bool true):=by
 have hv:=(eU (isReg_iff.1 hr).1).2;have k1:=lH q n c l w h hn;have k2:=aa (λ V (hV:Ext w V)=>yB q n c l V (h.ext hV) hn hv);rw [hr] at k1;replace k1:=aa k1;obtain⟨G,hG⟩:∃ G,bk (gL l)=G:=⟨_,rfl⟩;rw [hG] at k2 h1;have h1I:(G.length:Int)=1:=oM;clear hv hr hG h1;go_enter func293,ntmps293;go_wp2_with (first | (go_at_call 192;(with_reducible refine (k1.out).mono ?_);rintro e w2 ⟨rfl,E2⟩;replace E2:=aa E2) | (go_at_call 193;(with_reducible refine (k2.out _ E2.out).mono ?_);rintro e w3 ⟨q3,c3,H,rfl,o3,E3⟩;replace E3:=aa (E2.trans E3);clear o3) | fail);go_ret;exact⟨rfl,E3.out⟩
theorem Rk (q:OA)(n c:Nat)(l:List Q4)(w:World)(h:SlT aj 4 w q n l)(hn:n<=1048576)(hr:aH l=true)(h1:(bk (gL l)).length=1) :
 CE 247 #[sl q n c] w (.bool true):=by
 have hv:=(eU (isReg_iff.1 hr).1).2;have k1:=kL q n c l w h hn;have k2:=aa (λ V (hV:Ext w V)=>FY q n c l V (h.ext hV) hn hv);rw [hr] at k1;replace k1:=aa k1;obtain⟨G,hG⟩:∃ G,bk (gL l)=G:=⟨_,rfl⟩;rw [hG] at k2 h1;have h1I:(G.length:Int)=1:=oM;clear hv hr hG;have hcc:Hid (CE 329 #[sl q n c] w (1:Int)):=by show Calls _ _ _ _ _;go_enter func329,ntmps329;go_wp2_with (first | (go_at_call 161;(with_reducible refine (k1.out).mono ?_);rintro e w2 ⟨rfl,E2⟩;replace E2:=aa E2) | (go_at_call 162;(with_reducible refine (k2.out _ E2.out).mono ?_);rintro e w3 ⟨q3,c3,H,rfl,o3,E3⟩;replace E3:=aa (E2.trans E3);clear o3) | fail);go_ret;exact⟨by simp [h1I],E3.out⟩
 go_enter func247,ntmps247;exact sV
theorem Rl (r:Int)(q:OA)(n c:Nat)(l:List Q4)(w:World)(h:SlT aj 4 w q n l)(hn:n<=1048576)(hr:aH l=true)(h1:(bk (gL l)).length=1)(h2:ae r 0 11=true) :
 CE 200 #[.agg #[r,sl q n c]] w (.bool true):=by
 have k1:=aa (λ V (hV:Ext w V)=>Rj q n c l V (h.ext hV) hn hr h1);have k2:=λ W=>dd r 0 11 W
 rw [h2] at k2;replace k2:=aa k2;clear hr h1 h2;go_enter func200,ntmps200;exact Ao
theorem Rm (r:Int)(q:OA)(n c:Nat)(l:List Q4)(w:World)(h:SlT aj 4 w q n l)(hn:n<=1048576)(hr:aH l=true)(h1:(bk (gL l)).length=1)(h2:ae r 0 11=true) :
 CE 166 #[.agg #[r,sl q n c]] w (.bool true):=by
 have k1:=aa (λ V (hV:Ext w V)=>Rk q n c l V (h.ext hV) hn hr h1);have k2:=λ W=>qX r 0 11 W
 rw [h2] at k2;replace k2:=aa k2;clear hr h1 h2;go_enter func166,ntmps166;exact Ao
def oU (g h:ac):ac:=λ i=>g i&&h i
def mR (g h:ac) (m:Nat):ac:=λ i=>decide (i<m)&&(g i&&h i)
theorem Rn (g h:ac):List.replicate 6400 (Value.bool false)=ag (mR g h 0):=by rw [<-gH];exact df λ i _=>by simp [bo,mR]
theorem Ro (g h:ac):ag (mR g h 6400)=ag (oU g h):=df λ i hi=>by rw [mR,oU];simp [hi]
theorem Rp (g h:ac)(m:Nat):(ag (mR g h m)).set m (.bool (g m&&h m))=ag (mR g h (m+1)):=by
 rw [j9];refine df λ i _=>?_
 rw [ig,mR,mR];exact vE
theorem Rq (B1 B2 c1 c2:Nat)(g h:ac)(w:World)(b1:Bits w B1 g)(b2:Bits w B2 h) :
 Calls prog 312 #[sm B1 0 6400 c1,sm B2 0 6400 c2,(8:Int)] w (mB (oU g h) w):=by
 obtain⟨j0,hj,hy0,hy1,hy2⟩:=aM iP;have hb1:=aa b1;have hb2:=aa b2;clear b1 b2;go_enter func312,ntmps312;go_wp2_with (refine ep _ rfl _ _ 238 rfl w 4 j0 _ 1 underlying238 hj hy0 hy1 .i64 .i64 6400 6400 6400 rfl rfl rfl rfl (by rw [hy2];omega) (by unfold maxLen;omega) (by simp) ?_;intro w1 ho hg);rw [gF _ (.bool false) _ (by simp [Value.cells]) (by intro j hj;simp [Value.cells] at hj ⊢;subst hj;rfl),Rn g h] at ho;have hE:Ext w w1:=(ab _).grown hg (λ _ h=>by cases h);clear hg;obtain⟨N,hN⟩:∃ N,N=w.heap.size:=⟨_,rfl⟩;rw [<-hN] at ho ⊢;have hNw:w.heap.size<=N:=oM;replace hN:=aa hN;replace ho:=aa ho;go_loopw [8,9] (λ i _ wr=>∃ k:Nat,k<=6400/\i=.int .i64 k/\Hid (wr.ownsRow N 4 1 (sm N 0 6400 6400) 6400 (ag (mR g h k)))/\Ext w wr) (λ i _ _=>6400 - (intOf i).toNat)
 case atStart=>exact⟨0,oM,rfl,ho,hE⟩
 case round => have pA:=@Rp;have pB:=@Ro;exact CQ
theorem Rr (a b:ac)(x y:Int):gh (oU a b) x y=(gh a x y&&gh b x y):=by
 unfold gh oU
 cases ax x y <;> simp
theorem Rs {g:ac}(h:∀ x y,gh g x y=false):ah g=[]:=by
 cases hc:ah g with
 | nil=>rfl
 | cons r rs => have hv:=(iR (ik g)) r (by rw [hc];simp);have h1:=nk g r.a r.b;rw [h r.a r.b,hc] at h1;rw [vR_iff] at hv;have h2:bj r r.a r.b=true:=inR_iff.2 oM;simp [bA,h2] at h1
theorem Rt {a b:ac}(h:∀ x y,gh a x y=true->gh b x y=true->False):ah (oU (gL (ah a)) (gL (ah b)))=[]:=by
 refine Rs λ x y=>?_
 rw [Rr,qh,qh]
 cases ha:gh a x y with
 | false=>rfl
 | true=>cases hb:gh b x y with
   | false=>rfl
   | true=>exact (h x y ha hb).elim
theorem Ru {a b:ac}(h:∀ x y,gh a x y=true->gh b x y=true->False):ql (ah a) (ah b)=false:=by
 cases hm:ql (ah a) (ah b) with
 | false=>rfl
 | true => unfold ql at hm;rw [aL59] at hm;obtain⟨r,hr,hm⟩:=hm;rw [aL59] at hm;obtain⟨t,ht,hm⟩:=hm;rw [PR (iR (ik a) r hr) (iR (ik b) t ht)] at hm;obtain⟨x,y,h1,h2⟩:=hm;have k1:=nk a x y;have k2:=nk b x y;have e1:bA (ah a) x y=true:=aL59.2 ⟨r,hr,h1⟩;have e2:bA (ah b) x y=true:=aL59.2 ⟨t,ht,h2⟩;rw [e1] at k1;rw [e2] at k2;exact (h x y k1.symm k2.symm).elim
theorem Rv (q1 q2:OA)(n1 n2 c1 c2:Nat)(l1 l2:List Q4)(w:World)(h1:SlT aj 4 w q1 n1 l1)(h2:SlT aj 4 w q2 n2 l2)(hn1:n1<=1048576)(hn2:n2<=1048576)(v1:∀ r∈l1,vR r=true)(v2:∀ r∈l2,vR r=true) :
 Calls prog 249 #[sl q1 n1 c1,sl q2 n2 c2,(8:Int)] w (bH (ah (oU (gL l1) (gL l2))) w):=by
 have k1:=aa (ji q1 n1 c1 l1 w h1 hn1 v1);have k2:=aa (λ V (hV:Ext w V)=>ji q2 n2 c2 l2 V (h2.ext hV) hn2 v2);go_enter func249,ntmps249;go_wp2_with (first | (go_at_call 159;(with_reducible refine (k1.out).mono ?_);rintro e w1 ⟨B1,rfl,o1,E1⟩;have t1:=aa (dH o1);replace E1:=aa E1;clear o1) | (go_at_call 159;(with_reducible refine (k2.out _ E1.out).mono ?_);rintro e w2 ⟨B2,rfl,o2,E2⟩;have t2:=aa (dH o2);have t1b:=aa (t1.ext E2);replace E2:=aa (E1.trans E2);clear o2) | (go_at_call 312;(with_reducible refine (Rq B1 B2 _ _ _ _ _ t1b.out t2.out).mono ?_);rintro e w3 ⟨B3,rfl,o3,E3⟩;have t3:=aa (dH o3);replace E3:=aa (E2.trans E3);clear o3) | (go_at_call 160;(with_reducible refine (kK B3 _ _ _ t3.out).mono ?_);rintro e w4 ⟨q4,c4,rfl,o4,E4⟩) | fail);go_ret;exact⟨q4,c4,rfl,mF o4 E3.le,E3.trans E4⟩
theorem Rw (r s:Q4)(w:World)(h:nv r s) :
 CE 248 #[.agg #[r.a,r.b,r.c,r.d],.agg #[s.a,s.b,s.c,s.d]] w (.bool true):=by
 unfold nv at h;go_enter func248,ntmps248;go_upto_region 1 with (fail);generalize hW:World.alloc (World.alloc _ _) _=W0;obtain⟨E0,z0,b0,b1⟩:=bV hW;clear hW z0;replace b0:=aa (show Blk W0 w [r.a,r.b,r.c,r.d] _ from b0);replace b1:=aa (show Blk W0 (w+1) [s.a,s.b,s.c,s.d] _ from b1);have⟨g0,l0⟩:=b0.gl;have⟨g1,l1⟩:=b1.gl;by_cases he:r.b=s.b
 . have ha:r.a<s.a:=oM;have ha2:¬ r.a=s.a:=oM;exact ti
 . have hb:r.b<s.b:=oM;exact ti
theorem SlV.canon_ne {m:Int}{l:List aV}(h:RpOk m l){k:Nat}{x:aV}(hx:l[k]?=some x):0<(ah x.2).length/\(ah x.2).length<=3200/\aH (ah x.2)=true/\(bk (gL (ah x.2))).length=1/\∀ r∈ah x.2,vR r=true:=by have hm:=ap hx;obtain⟨r,rs,e⟩:=h.hd x hm;exact⟨by rw [e];simp,fC _,ov _,h.part x hm,iR (ik _)⟩
theorem Rx (x y:aV)(q1 q2:OA)(n1 n2 c1 c2:Nat)(w:World)(h1:SlT aj 4 w q1 n1 (ah x.2))(h2:SlT aj 4 w q2 n2 (ah y.2))(h:sw x y) :
 CE 167 #[.agg #[x.1,sl q1 n1 c1],.agg #[y.1,sl q2 n2 c2]] w (.bool true):=by
 have hl1:=h1.length;have hl2:=h2.length;have hn1:n1<=3200:=by rw [<-hl1];exact fC _
 have hn2:n2<=3200:=by rw [<-hl2];exact fC _
 rcases h with h | ⟨he,⟨r,rs,s,ss,hr,hs,hlt⟩,hd⟩
 . have hne:¬ x.1=y.1:=oM;go_enter func167,ntmps167;go_upto_region 1 with (fail);generalize hW:World.alloc (World.alloc _ _) _=W0;obtain⟨E0,z0,b0,b1⟩:=bV hW;clear hW z0;replace b0:=fJ b0;replace b1:=fJ b1;have⟨g0,l0⟩:=b0.gl;have⟨g1,l1⟩:=b1.gl;exact ti
 . have hop:=aa (λ V (hV:Ext w V)=>Rv q1 q2 n1 n2 c1 c2 (ah x.2) (ah y.2) V (h1.ext hV) (h2.ext hV) oM oM (iR (ik _)) (iR (ik _)));rw [Rt hd] at hop;rw [hr] at h1 hl1;rw [hs] at h2 hl2;have hrl:=aa (λ V=>Rw r s V hlt);clear hr hs hd hlt;go_enter func167,ntmps167;go_upto_region 1 with (fail);generalize hW:World.alloc (World.alloc _ _) _=W0;obtain⟨E0,z0,b0,b1⟩:=bV hW;clear hW z0;replace b0:=fJ b0;replace b1:=fJ b1;have⟨g0,l0⟩:=b0.gl;have⟨g1,l1⟩:=b1.gl;obtain⟨p1,bb1,oo1,rfl,hb1,z10,z11,z12,z13⟩:=(h1.ext E0).head4;obtain⟨p2,bb2,oo2,rfl,hb2,z20,z21,z22,z23⟩:=(h2.ext E0).head4;have p1I:(0:Int)<(n1:Int):=oM;have p2I:(0:Int)<(n2:Int):=oM;replace E0:=aa E0;go_upto_region 3 with (fail)
   have hk:=aa (show ∀ V,Ext W0 V->V.cell? (ad w 1)=sq bb1 oo1 n1 c1/\V.cell? (ad (w+1) 1)=sq bb2 oo2 n2 c2/\V.cell? (ad bb1 oo1)=si r.a/\V.cell? (ad bb1 (oo1+1))=si r.b/\V.cell? (ad bb1 (oo1+2))=si r.c/\V.cell? (ad bb1 (oo1+3))=si r.d/\V.cell? (ad bb2 oo2)=si s.a/\V.cell? (ad bb2 (oo2+1))=si s.b/\V.cell? (ad bb2 (oo2+2))=si s.c/\V.cell? (ad bb2 (oo2+3))=si s.d from λ V hV =>
    ⟨(b0.ext hV).cells 1,(b1.ext hV).cells 1,(hV.cells _ _ hb1).trans z10,(hV.cells _ _ hb1).trans z11,(hV.cells _ _ hb1).trans z12,(hV.cells _ _ hb1).trans z13,(hV.cells _ _ hb2).trans z20,(hV.cells _ _ hb2).trans z21,(hV.cells _ _ hb2).trans z22,(hV.cells _ _ hb2).trans z23⟩)
   clear g0 l0 g1 l1 z10 z11 z12 z13 z20 z21 z22 z23 hb1 hb2
   go_region_held3 (λ V=>V.cell? (ad w 1)=sq bb1 oo1 n1 c1/\V.cell? (ad (w+1) 1)=sq bb2 oo2 n2 c2/\V.cell? (ad bb1 oo1)=si r.a/\V.cell? (ad bb1 (oo1+1))=si r.b/\V.cell? (ad bb1 (oo1+2))=si r.c/\V.cell? (ad bb1 (oo1+3))=si r.d/\V.cell? (ad bb2 oo2)=si s.a/\V.cell? (ad bb2 (oo2+1))=si s.b/\V.cell? (ad bb2 (oo2+2))=si s.c/\V.cell? (ad bb2 (oo2+3))=si s.d)
    (exact hk.out _ (by first | exact (ab _).drew | exact hE9.out | exact hV10.out))
    (first | (go_at_call 248;refine (hrl.out _).mono ?_;rintro e w9 ⟨rfl,E9⟩;have hE9:=aa (show Ext W0 w9 from (ab _).drew.trans E9);clear E9) | (go_at_call 249;refine (hop.out _ (E0.trans hE9.out)).mono ?_;rintro e w10 ⟨q3,c3,rfl,o3,E3⟩;have hE10:=aa ((E0.trans hE9.out).trans E3);have hV10:=aa (hE9.trans E3);clear o3 E3))
   go_wp2_with (fail);go_ret;exact⟨rfl,hE10.out⟩
theorem Ry (m:Int)(q:OA)(n c:Nat)(l:List aV)(w:World)(h:SlV w q n l)(hn:n<=256)(hm:m<=12)(hk:RpOk m l) :
 CE 104 #[sl q n c] w (.bool true):=by
 have hl:=aa h.length;have hbf:=aa (λ x y q1 q2 n1 n2 c1 c2 V h1 h2 h=>Rx x y q1 q2 n1 n2 c1 c2 V h1 h2 h);replace hk:=aa hk;have hnI:¬ (256:Int)<(n:Int):=oM;go_enter func104,ntmps104;go_wp2_with (fail);go_loopw [3] (λ i wx=>∃ j:Nat,j<=n/\i=.int .i64 j/\Hid (Ext w wx)) (λ i _=>n - (intOf i).toNat)
 case atStart=>exact⟨0,oM,rfl,ab _⟩
 case round =>
  obtain⟨j,hj,rfl,hE⟩:=hrel;by_cases hjt:j<n
  . have hjI:(j:Int)<(n:Int):=oM;obtain⟨b,off,q1,n1,c1,x,rfl,hb,hx,x0,x1,s1⟩:=(h.ext hE.out).get hjt;obtain⟨p1,p2,p3,p4,-⟩:=SlV.canon_ne hk.out hx.out;have hrr:=hk.rule x (ap hx.out);have hs1:=aa s1;rw [s1.length] at p1 p2;have hvv:=aa (λ V (hV:Ext wr V)=>Rm x.1 q1 n1 c1 (ah x.2) V (s1.ext hV) oM p3 p4 (by rw [ae];simp;omega));clear p3 p4 hrr s1;go_wp2_with (first | (go_at_call 166;(with_reducible refine (hvv.out _ (ab _)).mono ?_);rintro e w2 ⟨rfl,E2⟩;have hE2:=aa (hE.trans E2)) | fail);clear x0 x1 hb hvv;go_loopw [4] (λ i wx=>∃ k:Nat,k<=j/\i=.int .i64 k/\Hid (Ext w wx)) (λ i _=>j - (intOf i).toNat)
    case atStart=>exact⟨0,oM,rfl,hE2⟩
    case round =>
     obtain⟨k,hkj,rfl,hZ⟩:=hrel;by_cases hkt:k<j
     . have hkI:(k:Int)<(j:Int):=oM;obtain⟨b2,off2,q2,n2,c2,y,hp2,hb2,hy,y0,y1,s2⟩:=(h.ext hZ.out).get (show k<n by omega)
       cases hp2
       obtain⟨b3,off3,q3,n3,c3,x2,hp3,hb3,hx3,x0,x1,s3⟩:=(h.ext hZ.out).get hjt
       cases hp3
       obtain rfl:x2=x:=cJ (hx3.symm.trans hx.out);have hlt:=hk.lt hkt hy.out hx.out;have hbb:=aa (λ V (hV:Ext wr V)=>hbf.out y x2 q2 q3 n2 n3 c2 c3 V (s2.ext hV) (s3.ext hV) hlt);have hkn:(k:Int)<(n:Int):=oM;clear s2 s3 hlt;go_upto_region 11 with (fail);refine aQ kR kR ?_;repeat (go_big_quiet_step ((go_at_call 167;exact bh (hbb.out _ (Later.ok _)))))
       refine bW ?_;rintro wL ⟨⟨_,EL⟩,rfl⟩;have hZL:=aa (hZ.trans EL);clear x0 x1 y0 y1 hb2 hb3 EL;go_wp2_with (fail);go_roundw
       case rel=>exact⟨k+1,oM,gN,hZL⟩
       case measure=>exact mS
     . have hkI:¬ (k:Int)<(j:Int):=oM;go_wp2_with (fail);go_roundw
       case rel=>exact⟨j+1,oM,gN,hZ⟩
       case measure=>exact mS
  . have hjI:¬ (j:Int)<(n:Int):=oM;exact nQ
theorem Rz (m:Int)(q:OA)(n c:Nat)(l:List aV)(w:World)(h:SlV w q n l)(hn:n<=256)(hm:m<=12)(hk:RpOk m l) :
 CE 129 #[sl q n c] w (.bool true):=by
 have hl:=aa h.length;replace hk:=aa hk;have hnI:¬ (256:Int)<(n:Int):=oM;go_enter func129,ntmps129;go_wp2_with (fail);go_loopw [11] (λ i wx=>∃ j:Nat,j<=n/\i=.int .i64 j/\Hid (Ext w wx)) (λ i _=>n - (intOf i).toNat)
 case atStart=>exact⟨0,oM,rfl,ab _⟩
 case round =>
  obtain⟨j,hj,rfl,hE⟩:=hrel;by_cases hjt:j<n
  . have hjI:(j:Int)<(n:Int):=oM;obtain⟨b,off,q1,n1,c1,x,rfl,hb,hx,x0,x1,s1⟩:=(h.ext hE.out).get hjt;obtain⟨p1,p2,p3,p4,-⟩:=SlV.canon_ne hk.out hx.out;have hrr:=hk.rule x (ap hx.out);have hvv:=aa (λ V (hV:Ext wr V)=>Rl x.1 q1 n1 c1 (ah x.2) V (s1.ext hV) (by rw [<-s1.length];omega) p3 p4 (by rw [ae];simp;omega));rw [s1.length] at p1 p2;clear p3 p4 hrr;replace s1:=aa s1;go_upto_region 6 with (fail);generalize hW:World.alloc _ _=W0;obtain⟨E0,z0,b0⟩:=al hW;clear hW z0;replace b0:=aa (show Blk W0 wr [x.1,sl q1 n1 c1] _ from b0);have⟨g0,l0⟩:=b0.gl;clear x0 x1 hb;go_wp2_with (first | (go_at_call 200;(with_reducible refine (hvv.out _ E0).mono ?_);rintro e w2 ⟨rfl,E2⟩;have hE02:=aa (E0.trans E2);have hE2:=aa (hE.trans hE02.out);have b2:=aa (b0.ext E2)) | fail);have⟨g2,l2⟩:=b2.gl;clear g0 l0 E0 hvv b0;by_cases hj0:j=0
    . subst hj0;refine aQ kR kR ?_;repeat (go_big_quiet_step (fail))
      refine bW ?_;rintro wL ⟨⟨_,EL⟩,rfl⟩;have hZL:=aa (hE2.trans EL);go_wp2_with (fail);go_roundw
      case rel=>exact⟨1,oM,gN,hZL⟩
      case measure=>exact mS
    . obtain⟨k,rfl⟩:∃ k,j=k+1:=⟨j - 1,oM⟩;have hj0I:¬ ((k:Int)+1=0):=oM;have hj0B:((k:Int)+1==0)=false:=by simp;omega
      have hkI:(k:Int)<(n:Int):=oM;obtain⟨b4,off4,q4,n4,c4,y,hp4,hb4,hy,y0,y1,s4⟩:=(h.ext hE2.out).get (show k<n by omega)
      cases hp4
      have hlt:=hk.lt (Nat.lt_succ_self k) hy.out hx.out;rcases hlt with hlt | ⟨he,⟨r,rs,s,ss,hr,hs,hlt⟩,hd⟩
      . refine aQ kR kR ?_;repeat (go_big_quiet_step (fail))
        refine bW ?_;rintro wL ⟨⟨_,EL⟩,rfl⟩;have hZL:=aa (hE2.trans EL);go_wp2_with (fail);go_roundw
        case rel=>exact⟨k+1+1,oM,gN,hZL⟩
        case measure=>exact mS
      . have hne:¬ y.1<x.1:=oM;have hne2:¬ x.1<y.1:=oM;refine aQ kR kR ?_;repeat (go_big_quiet_step (fail))
        refine bW ?_;rintro wL ⟨⟨_,EL⟩,rfl⟩;clear y0 y1 hb4 s4 g2 l2;have hEL:=aa (hE2.trans EL);obtain⟨b5,off5,q5,n5,c5,y5,hp5,hb5,hy5,y0,y1,s5⟩:=(h.ext hEL.out).get (show k<n by omega)
        cases hp5
        obtain rfl:y5=y:=cJ (hy5.symm.trans hy.out);have bL:=aa (b2.ext EL);have hrL:=aa (hE02.trans EL);have s6:=hs▸(s1.ext (hE02.trans EL));replace s5:=hr▸s5;obtain⟨p5,bb1,oo1,rfl,hb1,z10,z11,z12,z13⟩:=s5.head4;obtain⟨p6,bb2,oo2,rfl,hb2,z20,z21,z22,z23⟩:=s6.head4;have p1I:(0:Int)<(n5:Int):=oM;have p2I:(0:Int)<(n1:Int):=oM;have hcr:=aa (λ V=>ES r s V);rw [(xi hlt).1] at hcr;have hcx:=aa (λ(V1:World) (p:Later V1)=>bh ((hcr.out p.val).mono λ e w' (h:_/\Gw _ w')=>⟨h.1,h.2.ext⟩));have⟨gL2,lL2⟩:=bL.gl;clear hr hs s5 s6 hlt b2 hE2 EL hd;go_upto_region 9 with (fail);refine aQ kR kR ?_;repeat (go_big_quiet_step ((go_at_call 201;exact hcx.out _ _)))
        refine bW ?_;rintro wM ⟨⟨_,EM⟩,rfl⟩;have bM:=aa (bL.ext EM);have hM:=aa (hEL.trans EM);have hrM:=aa (hrL.trans EM);clear gL2 lL2 z10 z11 z12 z13 z20 z21 z22 z23 y0 y1 hb1 hb2 hb5 bL EM hcr hcx;go_wp2_with (fail);go_loopw [5] (λ i wx=>∃ d:Nat,d<=k+1/\i=.int .i64 ((d:Int) - 1)/\Hid (Ext wM wx)) (λ i _=>(intOf i+1).toNat)
        case atStart=>exact⟨k+1,oM,by congr 1;omega,ab _⟩
        case round =>
         obtain⟨d,hdk,rfl,hZ⟩:=hrel;by_cases hd0:d=0
         . subst hd0;rw [show ((0:Nat):Int) - 1 = -1 from rfl];exact zA
         . obtain⟨i,rfl⟩:∃ i,d=i+1:=⟨d - 1,oM⟩;rw [show ((i+1:Nat):Int) - 1=(i:Int) by omega];have hin:(i:Int)<(n:Int):=oM;have bZ:=aa (bM.ext hZ.out);have⟨gz,lz⟩:=bZ.gl;obtain⟨b7,off7,q7,n7,c7,z,hp7,hb7,hz,v0,v1,s7⟩:=(h.ext (hM.trans hZ.out)).get (show i<n by omega)
           cases hp7
           have hlt:=aa (hk.lt (show i<k+1 by omega) hz.out hx.out);replace s7:=aa s7;have hi0:(0:Int)<=(i:Int):=oM;by_cases hzx:z.1=x.1
           . have hmm:ql (ah z.2) (ah x.2)=false:=by
              rcases hlt.out with h9 | ⟨-,-,h9⟩
              . omega
              . exact Ru h9
             go_upto_region 12 with (fail);refine aQ kR kR ?_;repeat (go_big_quiet_step (fail))
             refine bW ?_;rintro wN ⟨⟨_,EN⟩,rfl⟩;have hNZ:=aa EN;have hN:=aa (hM.trans (hZ.trans EN));have bN:=aa (bZ.ext EN);have⟨gn,ln⟩:=bN.gl;obtain⟨b8,off8,q8,n8,c8,z8,hp8,hb8,hz8,v3,v4,s8⟩:=(h.ext hN.out).get (show i<n by omega)
             cases hp8
             obtain rfl:z8=z:=cJ (hz8.symm.trans hz.out);have s9:=s1.ext (hrM.trans (hZ.trans EN));have hl8:=s8.length;have hl9:=s9.length;have hc8:=fC z8.2;have hc9:=fC x.2;have hmt:=λ(V:World) (hV:Ext wN V)=>PT q8 _ n8 n1 c8 c1 (ah z8.2) (ah x.2) V (s8.ext hV) (s9.ext hV) oM oM
             rw [hmm] at hmt;replace hmt:=aa hmt;clear v0 v1 hb7 gz lz s8 s9 hmm EN;go_upto_region 14 with (fail);refine aQ kR kR ?_;repeat (go_big_quiet_step ((go_at_call 202;exact bh (hmt.out _ (Later.ok _)))))
             refine bW ?_;rintro wO ⟨⟨_,EO⟩,rfl⟩;have hO:=aa ((hZ.trans hNZ.out).trans EO);go_wp2_with (fail);go_roundw
             case rel=>exact⟨i,oM,gN,hO⟩
             case measure=>simp [intOf] <;> omega
           . have hzB:(z.1==x.1)=false:=by simp;exact hzx
             exact zA
  . have hjI:¬ (j:Int)<(n:Int):=oM;exact nQ
end Go.Proofs.YtnlajnpcdnnpmaaGreat
