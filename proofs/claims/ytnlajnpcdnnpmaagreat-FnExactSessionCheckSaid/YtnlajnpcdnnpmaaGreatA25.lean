/- Part of a proof. No condition. -/
import Derived.Test.YtnlajnpcdnnpmaaGreatA24
namespace Go.Proofs.YtnlajnpcdnnpmaaGreat
set_option linter.all false
set_option maxRecDepth 100000
set_option maxHeartbeats 16000000
open Go.Proofs.Tryz Go.RowKit
def ut (B:Nat):List Value:=[sm B 0 6400 6400]
theorem Nn (B:Nat):(ut B).length=1:=rfl
theorem FV:(prog.info? 238).map (λ i=>(i.zero,i.size,i.bytes))=some (some (.slice none 0 0),1,24):=by kernel_rfl
theorem Bits.grown {w w':World}{B:Nat}{g:ac}{row:Option Nat}(h:Bits w B g)(hg:w.grownBy w' row)(hne:row≠some B):Bits w' B g :=
 ⟨aF h.1 hg.size,λ i hi=>by rw [kY (w:=w) (a:=(ad B i)) (hg.block B h.1 (λ e=>hne e.symm))];exact h.2 i hi⟩
structure OwB (base:Nat) (w:World) (q:OA) (c:Nat) (Bs:List Nat) (G:List ac):Prop where
 len:Bs.length=G.length
 top:w.ownsRow base 238 1 (sl q G.length c) G.length (Bs.flatMap ut)
 row:∀ (k:Nat) (B:Nat) (g:ac),Bs[k]?=some B->G[k]?=some g->Bits w B g
 under:∀ (k:Nat) (B:Nat),Bs[k]?=some B->B∉ao q
 ge:∀ (k:Nat) (B:Nat),Bs[k]?=some B->base<=B
theorem OwB.start {base c:Nat}{w:World}{q:OA}(h:w.ownsRow base 238 1 (sl q 0 c) 0 []):OwB base w q c [] []:=⟨rfl,h,(λ k B g hk=>by simp at hk),(λ k B hk=>by simp at hk),(λ k B hk=>by simp at hk)⟩
theorem OwB.ext {base c:Nat}{w w':World}{q:OA}{Bs:List Nat}{G:List ac}(h:OwB base w q c Bs G)(hE:Ext w w'):OwB base w' q c Bs G :=
 ⟨h.len,aG h.top hE,λ k B g hB hg=>(h.row k B g hB hg).ext hE,h.under,h.ge⟩
theorem Bits.mut {w w':World}{B:Nat}{g:ac}{S:List Nat}(h:Bits w B g)(M:Mut w w' S)(hB:B∉S):Bits w' B g :=
 ⟨aF h.1 M.size,λ i hi=>by rw [kY (w:=w) (a:=(ad B i)) (M.block B h.1 hB)];exact h.2 i hi⟩
theorem OwB.mut {base c O:Nat}{w w':World}{q:OA}{Bs:List Nat}{G:List ac}(h:OwB base w q c Bs G)(M:Mut w w' [O])(hO:O<base):OwB base w' q c Bs G :=
 ⟨h.len,M.own hO h.top,λ k B g hB hg=>(h.row k B g hB hg).mut M (λ hh=>by have:=h.ge k B hB;simp at hh;omega),h.under,h.ge⟩
theorem OwB.get {base c:Nat}{w:World}{q:OA}{Bs:List Nat}{G:List ac}(h:OwB base w q c Bs G){k:Nat}(hk:k<G.length) :
 ∃ b B g,q=so b 0/\b<w.heap.size/\Hid (G[k]?=some g)/\w.cell? (ad b k)=sq B 0 6400 6400/\Bits w B g:=by
 obtain⟨b,rfl⟩:=jy h.top oM;have hs:=bm (l:=Bs) Nn h.len h.top;obtain⟨b',off,B,e1,e2,e3,e4⟩:=hs.get hk
 cases e1
 have hg:G[k]?=some G[k]:=bK hk;exact⟨b,B,G[k],rfl,e2,hg,by have:=e4 0 _ rfl;simpa using this,h.row k B _ e3.out hg⟩
theorem OwB.push {base c ca:Nat}{w w2 W':World}{q qa:OA}{Bs:List Nat}{G:List ac}{B:Nat}{g:ac}{o:Obj}(h:OwB base w q c Bs G)(hB:Bits w2 B g)(hge:base<=B)(hq:B∉ao q)(hE:Ext w w2)
 (ht:W'.ownsRow base 238 1 (sl qa (G.length+1) ca) (G.length+1) (Bs.flatMap ut++[.slice (so B 0) 6400 6400])) (hg:(w2.alloc o).grownBy W' (Value.slice q G.length c).ownBlock)
 (hb:(Value.slice qa (G.length+1) ca).ownBlock=(Value.slice q G.length c).ownBlock\/(Value.slice qa (G.length+1) ca).ownBlock=some (w2.alloc o).heap.size):OwB base W' qa ca (Bs++[B]) (G++[g]):=by
 have hlen:(G++[g]).length=G.length+1:=by simp
 have hrow:∀ (k:Nat) (B':Nat) (g':ac),(Bs++[B])[k]?=some B'->(G++[g])[k]?=some g'->Bits w2 B' g'/\B'∉ao q/\base<=B':=by
  intro k B' g' h1 h2;by_cases hk:k<Bs.length
  . rw [fm hk] at h1;rw [fm (by rw [<-h.len];exact hk)] at h2;exact⟨(h.row k B' g' h1 h2).ext hE,h.under k B' h1,h.ge k B' h1⟩
  . rw [jT oM] at h1;rw [jT (by rw [<-h.len];omega)] at h2;have e1:B'=B:=by have:=ap h1;simpa using this
    have e2:g'=g:=by have:=ap h2;simpa using this
    subst e1 e2;exact⟨hB,hq,hge⟩
 have hlt:∀ (k:Nat) (B':Nat),(Bs++[B])[k]?=some B'->k<(G++[g]).length:=λ k B' h1=>by have:=(aL31.1 h1).1;rw [aI,h.len] at this;simpa using this
 refine⟨by simp [h.len],?_,λ k B' g' h1 h2=>?_,λ k B' h1 hh=>?_,λ k B' h1=>(hrow k B' _ h1 (bK (hlt k B' h1))).2.2⟩
 . rw [hlen,dj];simpa [ut] using ht
 . obtain⟨h3,h4,_⟩:=hrow k B' g' h1 h2;refine (h3.ext ((ab w2).alloc o)).grown hg λ e=>?_
   rw [fd,ew] at e;exact h4 (mem_blkOf.2 e)
 . obtain⟨h3,h4,_⟩:=hrow k B' _ h1 (bK (hlt k B' h1));obtain⟨a,rfl,ha⟩:=mem_blkOf.1 hh;rw [fd,fd,Option.map_some] at hb;rcases hb with hb | hb
   . rw [eq_comm,ew] at hb;obtain⟨a',h5,h6⟩:=hb;exact h4 (mem_blkOf.2 ⟨a',h5,h6.trans ha⟩)
   . have:=h3.1;simp only [Option.some.injEq] at hb;rw [<-ha,hb] at this;simp at this;omega
theorem Np (B cb:Nat)(c:ac)(x y:Nat)(w:World)(hb:Bits w B c)(hx:x<80)(hy:y<80) :
 Calls prog 311 #[sm B 0 6400 cb,((x:Int) - 40:Int),((y:Int) - 40:Int),.bool false] w (mB (dA c false (p2 (y*80+x))) w):=by
 have h:=Nm B cb c (p2 (y*80+x)) w hb (kM oM);exact AO
theorem FW (x y:Nat)(w:World)(hx:x<80)(hy:y<80) :
 CW 226 #[((x:Int) - 40:Int),((y:Int) - 40:Int)] w ((y*80+x:Nat):Int):=by
 have pA:=@pT;exact C9
structure LpW (g:ac) (w:World) (i:Nat) (d:ac) (D:Nat) (G:List ac) (q:OA) (c:Nat) (Bs:List Nat) (wr:World):Prop where
 split:bk g=G++iw g (6400 - i) i d
 own:OwB w wr q c Bs G
 done:Bits wr D d
 ext:Ext w wr
def uu (g:ac) (w:World) (i:Nat) (vo vd:Value) (wr:World):Prop:=∃ (d:ac) (D:Nat) (G:List ac) (q:OA) (c:Nat) (Bs:List Nat),vo=sl q G.length c/\vd=sm D 0 6400 6400/\LpW g w i d D G q c Bs wr
def FX (G:List ac) (w:World) (e:Ending) (w':World):Prop:=∃ (q:OA) (c:Nat) (Bs:List Nat),e=.returned (sl q G.length c)/\OwB w w' q c Bs G/\Ext w w'
theorem Nq (B cb:Nat)(g:ac)(w:World)(hb:Bits w B g) :
 Calls prog 232 #[sm B 0 6400 cb,.bool false] w (FX (bk g) w):=by
 obtain⟨i0,hi,hz0,hz1,hz2⟩:=aM FV;obtain⟨j0,hj,hy0,hy1,hy2⟩:=aM iP;have hbw:=aa hb;have hBl:=hb.1;clear hb;go_enter func232,ntmps232;go_upto_region 2 with (fail);have ho0:(w.alloc (.cells #[] 238)).ownsRow w 238 1 (sm w 0 0 0) 0 []:=by have:=qH (base:=w.heap.size) (e:=238) (size:=1) w #[] 0 (by simp) (by simp [maxLen]) (by simp);exact this
 generalize hW:w.alloc _=W0 at ho0 ⊢;have E0:Ext w W0:=by rw [<-hW];exact (ab _).alloc _
 clear hW;go_wp2_with (refine ep _ rfl _ _ 238 rfl W0 4 j0 _ 1 underlying238 hj hy0 hy1 .i64 .i64 6400 6400 6400 rfl rfl rfl rfl (by rw [hy2];omega) (by unfold maxLen;omega) (by simp) ?_;intro w1 ho hg);rw [gF _ (.bool false) _ (by simp [Value.cells]) (by intro j hj;simp [Value.cells] at hj ⊢;subst hj;rfl),<-gH] at ho;have hE:Ext W0 w1:=(ab _).grown hg (λ _ h=>by cases h);have hst:uu g w 0 (sm w 0 0 0) (sm W0 0 6400 6400) w1:=⟨bo,_,[],_,_,[],rfl,rfl,rfl,OwB.start (aG ho0 hE),dH ho,E0.trans hE⟩;replace hst:=aa hst;clear ho hg hE E0 ho0;go_loopw [5,6,7] (λ vo vd iy wr=>∃ y:Nat,y<=80/\iy=.int .i64 ((y:Int) - 40)/\Hid (uu g w (y*80) vo vd wr)) (λ _ _ i _=>(40 - intOf i).toNat)
 case atStart=>exact⟨0,oM,rfl,by rw [ky];exact hst⟩
 case round =>
  clear hst;obtain⟨y,hy,rfl,hr⟩:=hrel;by_cases hlt:y<80
  . have hyI:(y:Int) - 40<40:=oM;go_wp2;go_loopw [5,6,8] (λ vo vd ix wr=>∃ x:Nat,x<=80/\ix=.int .i64 ((x:Int) - 40)/\Hid (uu g w (y*80+x) vo vd wr)) (λ _ _ i _=>(40 - intOf i).toNat)
    case atStart=>exact⟨0,oM,rfl,hr⟩
    case round =>
     clear hr;obtain⟨x,hx,rfl,hr⟩:=hrel;by_cases hxl:x<80
     . have hxI:(x:Int) - 40<40:=oM;obtain⟨d,D,G,q,c,Bs,rfl,rfl,hw⟩:=hr.out;have hbx:=hbw.ext hw.ext;have z1:=hbx.2 (y*80+x) oM;have hBl2:=hbx.1;have z2:=hw.done.2 (y*80+x) oM;have hDl:=hw.done.1
       cases hh:(g (y*80+x)&&!d (y*80+x)) with
       | false =>
         have hn:Hid (uu g w (y*80+(x+1)) (sl q G.length c) (sm D 0 6400 6400) wr):=⟨d,D,G,q,c,Bs,rfl,rfl,by rw [hw.split,show 6400 - (y*80+x)=(6400 - (y*80+(x+1)))+1 by omega,xC hh];rfl,hw.own,hw.done,hw.ext⟩;replace hw:=aa hw;clear hr hbx;rcases (show g (y*80+x)=false\/(g (y*80+x)=true/\d (y*80+x)=true) by revert hh;cases g (y*80+x) <;> cases d (y*80+x) <;> simp) with h1 | ⟨h1,h2⟩
         . rw [h1] at z1;clear hh h1 z2;exact Cn
         . rw [h1] at z1;rw [h2] at z2;clear hh h1 h2;exact Cn
       | true =>
         have hh2:=hh;rw [cm,qN] at hh2;obtain⟨h1,h2⟩:=hh2;rw [h1] at z1;rw [h2] at z2;have hsp:Hid (bk g=(G++[dA g false (p2 (y*80+x))])++iw g (6400 - (y*80+(x+1))) (y*80+(x+1)) (gP d (dA g false (p2 (y*80+x))))):=by show _=_;rw [hw.split,show 6400 - (y*80+x)=(6400 - (y*80+(x+1)))+1 by omega,xB h1 h2,fc,List.singleton_append];rfl
         have hlG:G.length+1<=6400:=by have h8:=(jI g).2.2.2;rw [hsp.out,aI,aI] at h8;simp at h8;omega
         replace hw:=aa hw;replace hbx:=aa hbx;clear hr hh h1 h2;go_upto_region 10 with (go_at_call 226;refine (FW x y _ hxl hlt).mono ?_;rintro e w' ⟨rfl,rfl⟩);go_wp2_with fail;refine (Np B cb g x y _ hbx.out hxl hlt).mono ?_;rintro e w6 ⟨N,rfl,oN,E6⟩;have bN:=aa (dH oN);have hNge:=(cM oN).1;have hNb:=aa (aS hw.ext.le hNge);replace E6:=aa E6;generalize hfl:dA g false (p2 (y*80+x))=fl at bN hsp;clear oN hfl z1 z2 hBl2 hDl;go_wp2_with fail;refine (Nl D N 6400 6400 d fl _ (hw.done.ext E6.out) bN.out).mono ?_;rintro e w7 ⟨D2,rfl,oD,E7⟩;have bD:=aa (dH oD);have hD2:=aa (cM oD).1;have hqlt:=aa (λ k (hk:k∈ao q)=>(dE (aG hw.own.top E6.out) k hk).2);replace E7:=aa E7;have bN7:=aa (bN.ext E7.out);have hown:=aa (hw.own);have hE67:=aa (E6.trans E7.out);have hEw:=aa (hw.ext.trans hE67.out);have htop:=aa (aG hown.top hE67.out);have hNq:Hid (N∉ao q):=λ h9=>by have:=(dE hown.top N h9).2;omega
         have hsz:=hEw.le;clear oD bN hNge;go_wp2_with (at_builtin;refine cZ _ rfl _ _ 307 rfl w 238 i0 (.slice none 0 0) 1 24 underlying307 hi hz0 hz1 hz2 rfl oM _ _ _ rfl (htop.alloc _) ⟨_,0,none⟩ 1 1 [sm N 0 6400 6400] rfl rfl (nq _ _ _) (by intro u9 h9;simp at h9;subst h9;rfl) (cx oM oM) oM (by simp;omega) ?_;intro v' w9 ho' hg' _ hb';obtain⟨qa,ca,rfl⟩:=cq ho';replace ho':=aa ho';replace hg':=aa hg';replace hb':=aa hb');have hgne:Hid ((Value.slice q G.length c).ownBlock≠some D2):=by intro e9;rw [fd,ew] at e9;have h9:=hqlt.out D2 (mem_blkOf.2 e9);have:=hD2.out;omega
         go_roundw
         case rel=>exact⟨x+1,oM,lN oM,_,D2,G++[fl],qa,ca,_,by rw [aI];rfl,rfl,hsp.out,hown.push bN7.out hNb.out hNq.out hE67.out ho'.out hg'.out hb'.out,(bD.ext ((ab _).alloc _)).grown hg'.out hgne.out,(hEw.trans ((ab _).alloc _)).grown hg'.out (λ k hk=>by have hk:(Value.slice q G.length c).ownBlock=some k:=hk;rw [fd,ew] at hk;exact (dE hown.top k (mem_blkOf.2 hk)).1)⟩
         case measure=>exact mS
     . have hxI:¬ (x:Int) - 40<40:=oM;have h80:y*80+x=(y+1)*80:=oM;rw [h80] at hr;clear h80;go_wp2;exact Bm
  . have hyI:¬ (y:Int) - 40<40:=oM;have h80:y*80=6400:=oM;rw [h80] at hr;clear h80;obtain⟨d,D,G,q,c,Bs,rfl,rfl,hw⟩:=hr.out;have hG:Hid (bk g=G):=hw.split.trans (fP _);replace hw:=aa hw;clear hr;go_wp2;go_ret;rw [hG.out];exact⟨q,c,Bs,rfl,hw.own,hw.ext⟩
theorem Nr (G:List ac)(g:ac):dG ((G++[g]).map ah)=dG (G.map ah)++[(ah g).flatMap aj]:=by simp [dG]
theorem OwnS.part {cg:ac}{base c c5 ca:Nat}{w1 w2 W':World}{G:List ac}{q q5 qa:OA}{H:List Hd}(h:OwnS base w1 q G.length c H (dG (G.map ah)))(hb:base<=w1.heap.size)
 (o5:w2.ownsRow w1 139 4 (sl q5 (ah cg).length c5) (ah cg).length ((ah cg).flatMap aj)) (hE2:Ext w1 w2) (o:Obj)
 (ht:W'.ownsRow base 77 1 (sl qa (G.length+1) ca) (G.length+1) (H.flatMap iM++[.slice q5 (ah cg).length c5])) (hg:(w2.alloc o).grownBy W' (Value.slice q G.length c).ownBlock)
 (hq:(Value.slice qa (G.length+1) ca).ownBlock=(Value.slice q G.length c).ownBlock\/(Value.slice qa (G.length+1) ca).ownBlock=some (w2.alloc o).heap.size):OwnS base W' qa (G++[cg]).length ca (H++[(q5,(ah cg).length,c5)]) (dG ((G++[cg]).map ah)):=by
 have hE3:=(hE2.trans ((ab w2).alloc o));have hlen:(G++[cg]).length=G.length+1:=by simp
 have hfar:∀ b,b∈ao q5->w1.heap.size<=b:=λ b hb=>(dE o5 b hb).1
 rw [hlen,Nr];refine (h.ext hE3).push (x:=(q5,(ah cg).length,c5)) (mF (aG o5 ((ab w2).alloc o)) hb) (λ b hb=>⟨λ h'=>by have:=h.geTop b h';have:=hfar b hb;omega,λ h'=>by have:=h.geRow b h';have:=hfar b hb;omega⟩) ht hg (λ b hb=>?_);exact vu
theorem FY (q:OA)(n c:Nat)(l:List Q4)(w:World)(h:SlT aj 4 w q n l)(hn:n<=1048576)(hv:∀ r∈l,vR r=true) :
 Calls prog 162 #[sl q n c] w (xJ (bk (gL l)) w):=by
 obtain⟨i0,hi,hz0,hz1,hz2⟩:=aM rO;have hg6:=(jI (gL l)).2.2.2;replace hv:=aa hv;go_enter func162,ntmps162;go_upto_region 2 with (fail);have ho0:(w.alloc (.cells #[] 77)).ownsRow w 77 1 (sm w 0 0 0) 0 []:=sU
 generalize hW:w.alloc _=W0 at ho0 ⊢;have E0:Ext w W0:=by rw [<-hW];exact (ab _).alloc _
 clear hW;go_wp2_with fail;refine (ji q n c l _ (h.ext E0) hn hv.out).mono ?_;rintro e w1 ⟨B1,rfl,o1,E1⟩;have t1:=aa (dH o1);clear o1;go_wp2_with fail;refine (Nq B1 6400 (gL l) _ t1.out).mono ?_;rintro e w2 ⟨q2,c2,Bs,rfl,o2,E2⟩;obtain⟨P,hP⟩:∃ P,P=bk (gL l):=⟨_,rfl⟩;rw [<-hP] at o2 hg6 ⊢;have hEw:=aa (E0.trans (E1.trans E2));have ho:=aa (aG ho0 (E1.trans E2));have hwl:w.heap.size<w1.heap.size:=aF (cM ho0).2 E1.le;have hwl2:w.heap.size<=w2.heap.size:=hEw.le;replace o2:=aa o2;replace hP:=aa hP;clear t1 E0 E1 E2 ho0;go_wp2_with fail;have hfr:Hid (Fresh w2 w (sm w 0 0 0)):=λ k hk=>by simp [Value.ownBlock] at hk;omega
 go_loopw [3,5] (λ vo iv wr=>∃ (G:List ac) (qo:OA) (co:Nat) (H:List Hd),G.length<=P.length/\iv=.int .i64 G.length/\vo=sl qo G.length co/\Hid (G=P.take G.length)/\Hid (OwnS w wr qo G.length co H (dG (G.map ah)))/\Hid (Mut w2 wr [w.heap.size])/\Hid (Fresh w2 w (sl qo G.length co))/\Hid (Ext w wr)) (λ _ i _=>P.length - (intOf i).toNat)
 case atStart=>exact⟨[],_,_,[],by simp,rfl,rfl,rfl,OwnS.start ho.out,fw _ _,hfr,hEw⟩
 case round =>
  clear ho hfr;obtain⟨G,qo,co,H,hk,rfl,rfl,hG,ho,hM,hF,hE⟩:=hrel;by_cases hlt:G.length<P.length
  . have hltI:(G.length:Int)<(P.length:Int):=oM;have hB:=o2.mut hM.out hwl;obtain⟨b,B,g,rfl,hb,hg,z,tB⟩:=hB.get hlt;have tB:=aa tB;clear hB;go_wp2_with fail;refine (kK B 6400 g _ tB.out).mono ?_;rintro e w5 ⟨q5,c5,rfl,o5,E5⟩;have hO:=aa o5;have hE5:=aa E5;have htop:=aa (aG ho.top E5);have hsz:=aS hE.le E5.le;have hM5:=aa ((hM.ext E5).alloc (.cells #[sl q5 (ah g).length c5] 77));have hEw5:=aa ((hE.trans E5).alloc (.cells #[sl q5 (ah g).length c5] 77));clear tB o5 E5 z hb;go_wp2_with (at_builtin;refine cZ _ rfl _ _ 101 rfl w 77 i0 (.slice none 0 0) 1 24 underlying101 hi hz0 hz1 hz2 rfl oM _ _ _ rfl (htop.alloc _) ⟨_,0,none⟩ 1 1 [sl q5 (ah g).length c5] rfl rfl (nq _ _ _) (by intro u9 h9;simp at h9;subst h9;rfl) (cx oM oM) oM (by simp;omega) ?_;intro v' w9 ho' hg' _ hb';obtain⟨qa,ca,rfl⟩:=cq ho';replace ho':=aa ho';replace hg':=aa hg';replace hb':=aa hb');have hlG:(G++[g]).length=G.length+1:=by simp
    have hlG2:=aa hlG;clear hlG;go_roundw
    case rel=>exact⟨G++[g],qa,ca,_,by rw [hlG2.out];omega,by rw [hlG2.out];go_num,by rw [hlG2.out],by show _=_;rw [hlG2.out,ch hg.out,<-hG.out],ho.part hE.le hO.out hE5.out _ ho'.out hg'.out hb'.out,hM5.append hF.out hg'.out,by rw [hlG2.out];exact hF.append hM5.out hb'.out,hEw5.grown hg'.out (λ k hk=>by have hk:(Value.slice qo G.length co).ownBlock=some k:=hk;rw [fd,ew] at hk;exact (dE htop.out k (mem_blkOf.2 hk)).1)⟩
    case measure=>exact mS
  . have hltI:¬ (G.length:Int)<(P.length:Int):=oM;have hGP:Hid (G=P):=hG.trans (eE oM);clear hG;go_wp2_with fail;go_ret;rw [<-hP.out,<-hGP.out];exact⟨qo,co,H,rfl,ho.out,hE.out⟩
open Go.PlainAid
def oJ (l:List ShD) (n:Nat):List ac:=(List.range n).map λ(k:Nat)=>fL l (k:Int)
theorem Ns (l:List ShD)(n:Nat):oJ l (n+1)=oJ l n++[fL l (n:Int)]:=by simp [oJ,la]
theorem Nt (l:List ShD)(n:Nat):mw l n=(oJ l n).map ah:=by simp [mw,oJ]
def FZ (l:List ShD) (w:World) (e:Ending) (w':World):Prop:=∃ (q:OA) (c:Nat) (H:List Hd),e=.returned (sl q 8 c)/\OwnS w w' q 8 c H (dG (mw l 8))/\Ext w w'
theorem rU (a:List Q4)(r:Q4):ag (aU λ x y=>gh (gL a) x y||bj r x y)=ag (gL (a++[r])):=by have h:=xj (l:=a++[r]) (k:=a.length) (r:=r) (by simp);rwa [List.take_left,show (a++[r]).take (a.length+1)=a++[r] from eE (by simp)] at h
theorem Nu {l:List ShD}{j:Nat}{s:ShD}{k:Int}(h:l[j]?=some s)(he:s.a=k):ag (aU λ x y=>gh (fL (l.take j) k) x y||bj s.box x y)=ag (fL (l.take (j+1)) k):=by rw [fL,rU,fL,ch h,i8,dT];simp [List.filter,he]
theorem F0 {l:List ShD}{j:Nat}{s:ShD}{k:Int}(h:l[j]?=some s)(he:¬ s.a=k):fL (l.take j) k=fL (l.take (j+1)) k:=by rw [fL,fL,ch h,i8,dT];simp [List.filter,he]
theorem Nv (q:OA)(n c:Nat)(l:List ShD)(w:World)(h:SlT bg 5 w q n l)(hn:n<=4824)(hv:∀ s∈l,vR s.box=true) :
 Calls prog 123 #[sl q n c] w (FZ l w):=by
 obtain⟨i0,hi,hz0,hz1,hz2⟩:=aM rO;have hl:=aa h.length;replace hv:=aa hv;go_enter func123,ntmps123;go_upto_region 2 with (fail);have ho0:(w.alloc (.cells #[] 77)).ownsRow w 77 1 (sm w 0 0 0) 0 []:=sU
 generalize hW:w.alloc _=W0 at ho0 ⊢;have E0:Ext w W0:=by rw [<-hW];exact (ab _).alloc _
 clear hW;replace E0:=aa E0;replace ho0:=aa ho0;go_wp2_with (fail);go_loopw [3,9] (λ vo iv wr=>∃ (G:List ac) (qo:OA) (co:Nat) (H:List Hd),G.length<=8/\iv=.int .i64 G.length/\vo=sl qo G.length co/\Hid (G=oJ l G.length)/\Hid (OwnS w wr qo G.length co H (dG (G.map ah)))/\Hid (Ext w wr)) (λ _ i _=>8 - (intOf i).toNat)
 case atStart=>exact⟨[],_,_,[],by simp,rfl,rfl,rfl,OwnS.start ho0.out,E0⟩
 case round =>
  clear ho0 E0;obtain⟨G,qo,co,H,hk,rfl,rfl,hG,ho,hE⟩:=hrel;obtain⟨wo,rfl⟩:∃ wo,wo=wr:=⟨_,rfl⟩;by_cases hlt:G.length<8
  . have hltI:(G.length:Int)<8:=oM;go_wp2_with (fail);generalize hW1:World.alloc _ _=W1;obtain⟨E1,z1,b1⟩:=al hW1;clear hW1;have hb1:Hid (Blk W1 wo (ag (fL (l.take 0) (G.length:Int))) 269):=by have:=jC;rw [lG] at b1;show W1.heap[wo.heap.size]?=_;rw [b1];simp only [List.take_zero,fL,List.filter_nil,nG,gL,<-jC]
    clear b1 z1;have hX1:=aa E1;clear E1;go_loopw [16] (λ i wx=>∃ j:Nat,j<=n/\i=.int .i64 j/\Hid (Ext wo wx)/\Hid (Blk wx wo (ag (fL (l.take j) (G.length:Int))) 269)) (λ i _=>n - (intOf i).toNat)
    case atStart=>exact⟨0,oM,rfl,hX1,hb1⟩
    case round =>
     clear hX1 hb1;obtain⟨j,hj,rfl,hX,hb⟩:=hrel;have hBl:=hb.lt;by_cases hjt:j<n
     . have hjI:(j:Int)<(n:Int):=oM;obtain⟨b,off,s,rfl,hbn,hs,hc⟩:=(h.ext (hE.trans hX.out)).get hjt;have c0:=hc 0 _ rfl;rw [aq] at c0;have c1:=hc 1 _ rfl;have c2:=hc 2 _ rfl;have c3:=hc 3 _ rfl;have c4:=hc 4 _ rfl;clear hc;have hnr:=aa (iO (hv.out s (ap hs.out)));by_cases he:s.a=(G.length:Int)
       . have hst:=aa (Nu hs.out he);have hbA:=λ(o:Obj)=>aa (hb.alloc o)
         go_wp2_with (first | (go_at_call 188;refine (nr wo _ s.box _ (hbA _).out hnr.out).mono ?_;rintro e w9 ⟨rfl,hb2,hM⟩) | fail);have hb3:Hid (Blk w9 wo (ag (fL (l.take (j+1)) (G.length:Int))) 269):=aa (by rw [<-hst.out];exact hb2);have hX9:=aa ((hX.alloc _).then hM (by intro k hk;simp at hk;rw [hk];exact ai _));clear hM hb2 c0 c1 c2 c3 c4;exact AU
       . have hst:=aa (F0 hs.out he);rw [hst.out] at hb;go_wp2_with (fail);go_roundw
         case rel=>exact⟨j+1,oM,gN,aa (hX.alloc _),aa (hb.alloc _)⟩
         case measure=>exact mS
     . have hjI:¬ (j:Int)<(n:Int):=oM;rw [cz hl.out oM] at hb;obtain⟨g,hg⟩:∃ g,Hid (fL l (G.length:Int)=g):=⟨_,aa rfl⟩;rw [hg.out] at hb;have hcl:=fC g;have hsz0:=aa (aS hE.le hX.le);go_wp2_with (first | (go_at_call 189;refine (mD wo _ _ hb.out).mono ?_;rintro e w5 ⟨q5,c5,rfl,o5,E5⟩;have hO:=aa o5;have hE5:=aa E5;have htop:=aa (aG ho.top (hX.trans E5));have hsz:=aS hsz0.out E5.le;clear o5 E5) | (at_builtin;refine cZ _ rfl _ _ 101 rfl w 77 i0 (.slice none 0 0) 1 24 underlying101 hi hz0 hz1 hz2 rfl oM _ _ _ rfl (htop.alloc _) ⟨_,0,none⟩ 1 1 [sl q5 (ah g).length c5] rfl rfl (nq _ _ _) (by intro u9 h9;simp at h9;subst h9;rfl) (cx oM oM) oM (by simp;omega) ?_;intro v' w9 ho' hg' _ hb';obtain⟨qa,ca,rfl⟩:=cq ho';replace ho':=aa ho';replace hg':=aa hg';replace hb':=aa hb') | fail);have pA:=ho;exact CM
  . have pA:=ho;exact C1
def uv (f:Int->Bool):Nat->Int->Int
 | 0,x=>x
 | n+1,x=>if f x then uv f n (x+1) else x
def rE (f:Int->Bool) (x:Int):Int:=uv f (41 - x).toNat x
theorem F3 {f:Int->Bool}{x:Int}(hx:x<=40)(h:f x=true):rE f x=rE f (x+1):=by unfold rE;rw [show (41 - x).toNat=(41 - (x+1)).toNat+1 by omega,uv,aw h]
theorem xX {f:Int->Bool}{x:Int}(h:f x=false):rE f x=x:=by
 unfold rE
 cases (41 - x).toNat with
 | zero=>rfl
 | succ n=>rw [uv,ar (by rw [h];simp)]
theorem xY {f:Int->Bool}{e:Int}(he:e<=41)(hf:f e=false):∀ (n:Nat) (x:Int),(e - x).toNat<=n->x<=e->(∀ j,x<=j->j<e->f j=true)->rE f x=e
 | 0,x,hn,hx,_=>by obtain rfl:x=e:=oM;exact xX hf
 | n+1,x,hn,hx,h=>by
   rcases Int.lt_or_le x e with hlt | hge
   . rw [F3 oM (h x (fW _) hlt)];exact xY he hf n (x+1) oM oM λ j h1 h2=>h j oM h2
   . obtain rfl:x=e:=oM;exact xX hf
def kP (f:Int->Bool) (k:Nat):List (Int×Int):=if f ((k:Int) - 40)&&!f ((k:Int) - 41) then [((k:Int) - 40,rE f ((k:Int) - 40))] else []
def dB (f:Int->Bool) (n:Nat):List (Int×Int):=(List.range n).flatMap (kP f)
theorem mI (f:Int->Bool)(n:Nat):dB f (n+1)=dB f n++kP f n:=by unfold dB;rw [la,dj];simp
theorem F4 {f:Int->Bool}{k:Nat}(h:f ((k:Int) - 40)=true)(h2:f ((k:Int) - 41)=false):kP f k=[((k:Int) - 40,rE f ((k:Int) - 40))]:=by rw [kP,h,h2];rfl
theorem xZ {f:Int->Bool}{k:Nat}(h:f ((k:Int) - 40)=false):kP f k=[]:=by rw [kP,h];rfl
theorem ya {f:Int->Bool}{k:Nat}(h:f ((k:Int) - 41)=f ((k:Int) - 40)):kP f k=[]:=by rw [kP,h];cases f ((k:Int) - 40) <;> rfl
theorem ye {f:Int->Bool}{i:Nat} : ∀ (n:Nat),(∀ j,i<=j->j<i+1+n->f ((j:Nat) - 40:Int)=f ((i:Int) - 40))->dB f (i+1+n)=dB f (i+1)
 | 0,_=>rfl
 | n+1,h=>by
   rw [show i+1+(n+1)=(i+1+n)+1 by omega,mI,ye n (λ j h1 h2=>h j h1 oM),ya,fP];have h1:=h (i+1+n) oM oM;have h2:=h (i+n) oM oM;rw [h1,<-h2]
   congr 1
   omega
theorem F5 {f:Int->Bool}{i e:Nat}(hie:i<e)(he:e<=80)(hc:∀ j,i<=j->j<e->f ((j:Nat) - 40:Int)=true)(hs:f ((i:Int) - 41)=false)(hend:f ((e:Int) - 40)=false):dB f e=dB f i++[((i:Int) - 40,(e:Int) - 40)]:=by obtain⟨n,rfl⟩:∃ n,e=i+1+n:=⟨e - i - 1,oM⟩;rw [ye n λ j h1 h2=>by rw [hc j h1 h2,hc i (ai _) hie],mI,F4 (hc i (ai _) hie) hs];rw [xY (e:=((i+1+n:Nat):Int) - 40) oM hend _ _ (ai _) oM λ j h1 h2=>by have:=hc (j+40).toNat oM oM;rw [show (((j+40).toNat:Nat):Int) - 40=j by omega] at this;exact this]
theorem F6 {f:Int->Bool}{i e:Nat}(hie:i<e)(hc:∀ j,i<=j->j<e->f ((j:Nat) - 40:Int)=false):dB f e=dB f i:=by obtain⟨n,rfl⟩:∃ n,e=i+1+n:=⟨e - i - 1,oM⟩;rw [ye n λ j h1 h2=>by rw [hc j h1 h2,hc i (ai _) hie],mI,xZ (hc i (ai _) hie),fP]
def ck (g:ac) (v:Bool) (y:Int):Int->Bool:=λ i=>if v then gh g y i else gh g i y
theorem yf {g:ac}{v:Bool}{y i:Int}(h:i < -40\/40<=i):ck g v y i=false:=by
 unfold ck
 cases v with
 | false=>exact dr (by rw [qI];intro hh;rw [onC_iff] at hh;omega)
 | true=>exact dr (by rw [qI];intro hh;rw [onC_iff] at hh;omega)
def dR (v:Bool) (y:Int) (p:Int×Int):Q4:=if v then ⟨y,p.1,y+1,p.2⟩ else ⟨p.1,y,p.2,y+1⟩
def ei (g:ac) (v:Bool) (n:Nat):List Q4:=(List.range n).flatMap λ(k:Nat)=>(dB (ck g v ((k:Int) - 40)) 80).map (dR v ((k:Int) - 40))
theorem uw (g:ac)(v:Bool)(n:Nat):ei g v (n+1)=ei g v n++(dB (ck g v ((n:Int) - 40)) 80).map (dR v ((n:Int) - 40)):=by unfold ei;rw [la,dj];simp
def dW (g:ac) (v:Bool):List Q4:=ei g v 80
def mJ (r:Q4):Int:=(r.c - r.a)*(r.d - r.b)
def et (l:List Q4) (w:Int):List Q4:=l.filter λ r=>decide (mJ r<w)
structure RunOk (g:ac) (v:Bool) (r:Q4):Prop where
 on:vR r=true
 inn:∀ x y,bj r x y=true->gh g x y=true
 bef:(if v then gh g r.a (r.b - 1) else gh g (r.a - 1) r.b)=false
 beh:(if v then gh g r.a r.d else gh g r.c r.b)=false
 thin:if v then r.c=r.a+1 else r.d=r.b+1
theorem F7 (f:Int->Bool):∀ (n:Nat) (x:Int),(41 - x).toNat<=n->x<=rE f x/\(∀ j,x<=j->j<rE f x->f j=true)/\(x<=40->f 40=false->rE f x<=40/\f (rE f x)=false)
 | 0,x,hn=>by exact AH
 | n+1,x,hn=>by
   rcases Int.lt_or_le 40 x with hlt | hge
   . exact AH
   . cases hf:f x with
     | false => rw [xX hf];exact⟨fW _,λ j h1 h2=>by omega,λ h h4=>⟨h,hf⟩⟩
     | true =>
       obtain⟨h1,h2,h3⟩:=F7 f n (x+1) oM;rw [F3 hge hf];refine⟨oM,λ j h4 h5=>?_,λ h4 h5=>?_⟩
       . by_cases he:j=x
         . rw [he];exact hf
         . exact h2 j oM h5
       . have:x≠40:=λ he=>by rw [he,h5] at hf;cases hf
         exact h3 oM h5
theorem oK {g:ac}{v:Bool}{r:Q4}(h:r∈dW g v):RunOk g v r:=by
 unfold dW ei at h;rw [aL80] at h;obtain⟨k,hk,h⟩:=h;rw [aL70] at hk;rw [aL52] at h;obtain⟨p,hp,rfl⟩:=h;unfold dB at hp;rw [aL80] at hp;obtain⟨i,hi,hp⟩:=hp;rw [aL70] at hi;unfold kP at hp
 split at hp
 . rename_i hc;rw [cm,qN] at hc;obtain⟨hc1,hc2⟩:=hc;rw [aL77] at hp;subst hp;obtain⟨h1,h2,h3⟩:=F7 (ck g v ((k:Int) - 40)) _ ((i:Int) - 40) (ai _);obtain⟨h4,h5⟩:=h3 oM (yf oM)
   have hne:(i:Int) - 40<rE (ck g v ((k:Int) - 40)) ((i:Int) - 40):=by
    rcases Int.lt_or_le ((i:Int) - 40) (rE (ck g v ((k:Int) - 40)) ((i:Int) - 40)) with hh | hh
    . exact hh
    . have:rE (ck g v ((k:Int) - 40)) ((i:Int) - 40)=(i:Int) - 40:=oM;rw [this,hc1] at h5;cases h5
   generalize rE (ck g v ((k:Int) - 40)) ((i:Int) - 40)=e at *
   have hi1:(i:Int) - 40 - 1=(i:Int) - 41:=oM
   cases v with
   | false =>
     refine⟨?_,λ x y hxy=>?_,?_,h5,rfl⟩
     . rw [vR_iff];show (-40<=(i:Int) - 40/\(i:Int) - 40<e/\e<=40)/\(-40<=(k:Int) - 40/\(k:Int) - 40<(k:Int) - 40+1/\(k:Int) - 40+1<=40);omega
     . rw [inR_iff] at hxy;have e1:((i:Int) - 40<=x/\x<e)/\((k:Int) - 40<=y/\y<(k:Int) - 40+1):=hxy;obtain rfl:y=(k:Int) - 40:=oM;exact h2 x e1.1.1 e1.1.2
     . show gh g ((i:Int) - 40 - 1) ((k:Int) - 40)=false;rw [hi1];exact hc2
   | true =>
     refine⟨?_,λ x y hxy=>?_,?_,h5,rfl⟩
     . rw [vR_iff];show (-40<=(k:Int) - 40/\(k:Int) - 40<(k:Int) - 40+1/\(k:Int) - 40+1<=40)/\(-40<=(i:Int) - 40/\(i:Int) - 40<e/\e<=40);omega
     . rw [inR_iff] at hxy;have e1:((k:Int) - 40<=x/\x<(k:Int) - 40+1)/\((i:Int) - 40<=y/\y<e):=hxy;obtain rfl:x=(k:Int) - 40:=oM;exact h2 y e1.2.1 e1.2.2
     . show gh g ((k:Int) - 40) ((i:Int) - 40 - 1)=false;rw [hi1];exact hc2
 . cases hp
def eu (g:ac):ac:=aU λ x y=>!gh g x y
def iT (a b:ac):ac:=aU λ x y=>gh a x y||gh b x y
theorem F8 (f:Int->Int->Bool)(x y:Int):gh (aU f) x y=(ax x y&&f x y):=by
 cases h:ax x y with
 | true=>rw [iK f h];rfl
 | false=>rw [dr h];rfl
theorem rV (g:ac)(x y:Int):gh (eu g) x y=(ax x y&&!gh g x y):=F8 _ x y
theorem Nw (a b:ac)(x y:Int):gh (iT a b) x y=(gh a x y||gh b x y):=by
 rw [iT,F8]
 cases h:ax x y with
 | true=>rfl
 | false=>rw [dr h,dr h];rfl
theorem Nx (g:ac):eu (iT g g)=eu g:=by
 unfold eu
 congr 1
 funext x y;rw [Nw,Bool.or_self]
def bX (v:Bool) (r:Q4):Int:=if v then r.a else r.a - 1
def bY (v:Bool) (r:Q4):Int:=if v then r.b - 1 else r.b
def eX (v:Bool) (r:Q4):Int:=if v then r.a else r.c
def eY (v:Bool) (r:Q4):Int:=if v then r.d else r.b
def dt (v:Bool) (r:Q4):Bool:=if v then decide (-40<r.b)&&decide (r.d<40) else decide (-40<r.a)&&decide (r.c<40)
theorem yg {v:Bool}{r:Q4}(h:dt v r=false)(g k:ac):(gh g (bX v r) (bY v r)&&gh k (eX v r) (eY v r))=false:=by
 rw [mZ]
 cases v with
 | false =>
   have h1:¬ (-40<r.a/\r.c<40):=by simpa [dt] using h
   rcases pN (-40) r.a with h2 | h2
   . right;show gh k r.c r.b=false;exact sX
   . left;show gh g (r.a - 1) r.b=false;exact sX
 | true =>
   have h1:¬ (-40<r.b/\r.d<40):=by simpa [dt] using h
   rcases pN (-40) r.b with h2 | h2
   . right;show gh k r.a r.d=false;exact sX
   . left;show gh g r.a (r.b - 1)=false;exact sX
theorem Ny {g:ac}{v:Bool}{r:Q4}(hr:RunOk (eu g) v r)(h:dt v r=true):(gh g (bX v r) (bY v r)&&gh g (eX v r) (eY v r))=true:=by
 have hv:=vR_iff.1 hr.on;have h1:=hr.bef;have h2:=hr.beh
 cases v with
 | false =>
   have h3 : -40<r.a/\r.c<40:=by simpa [dt] using h
   replace h1:gh (eu g) (r.a - 1) r.b=false:=h1;replace h2:gh (eu g) r.c r.b=false:=h2;rw [rV,show ax (r.a - 1) r.b=true by rw [onC_iff];omega] at h1;rw [rV,show ax r.c r.b=true by rw [onC_iff];omega] at h2;show (gh g (r.a - 1) r.b&&gh g r.c r.b)=true;simp at h1 h2;rw [h1,h2];rfl
 | true =>
   have h3 : -40<r.b/\r.d<40:=by simpa [dt] using h
   replace h1:gh (eu g) r.a (r.b - 1)=false:=h1;replace h2:gh (eu g) r.a r.d=false:=h2;rw [rV,show ax r.a (r.b - 1)=true by rw [onC_iff];omega] at h1;rw [rV,show ax r.a r.d=true by rw [onC_iff];omega] at h2;show (gh g r.a (r.b - 1)&&gh g r.a r.d)=true;simp at h1 h2;rw [h1,h2];rfl
theorem Nz {g:ac}{v:Bool}{r:Q4}(hr:RunOk (eu g) v r):dt v r=(gh g (bX v r) (bY v r)&&gh g (eX v r) (eY v r)):=by
 cases h:dt v r with
 | false=>rw [yg h]
 | true=>rw [Ny hr h]
def eB (a b:ac) (v:Bool) (r:Q4):Bool:=(gh a (bX v r) (bY v r)&&gh b (eX v r) (eY v r))||(gh b (bX v r) (bY v r)&&gh a (eX v r) (eY v r))
def fE (a b:ac) (v:Bool):List Q4:=(dW (eu (iT a b)) v).filter (eB a b v)
theorem NA (g:ac)(v:Bool):fE g g v=(dW (eu g) v).filter (dt v):=by unfold fE;rw [Nx];apply List.filter_congr;intro r hr;rw [Nz (oK hr),eB,Bool.or_self]
theorem NB (a b:ac)(v:Bool):fE a b v=((dW (eu (iT a b)) v).filter (dt v)).filter (eB a b v):=by
 unfold fE;rw [List.filter_filter];apply List.filter_congr;intro r hr
 cases h:dt v r with
 | true=>simp
 | false=>rw [eB,yg h,yg h];rfl
end Go.Proofs.YtnlajnpcdnnpmaaGreat
