/- Part of a proof. No condition. -/
import Derived.Test.YtnlajnpcdnnpmaaGreatA37
namespace Go.Proofs.YtnlajnpcdnnpmaaGreat
set_option linter.all false
set_option maxRecDepth 100000
set_option maxHeartbeats 16000000
open Go.Proofs.Tryz Go.RowKit Go.PlainAid
theorem Qi (q q2:OA)(n n2 c c2:Nat)(l l2:List Q4)(k:Int)(w:World)(h:SlT aj 4 w q n l)(h2:SlT aj 4 w q2 n2 l2)(hn:n<=1048576)(hn2:n2<=1048576)(hr:aH l=true)(hr2:aH l2=true)(hw:ae k 0 8=true) :
 Calls prog 237 #[sl q n c,sl q2 n2 c2,k] w (bH (mN l l2 k) w):=by
 have hok:=kL q n c l w h hn;have hok2:=λ W (hE:Ext w W)=>kL q2 n2 c2 l2 W (h2.ext hE) hn2
 have hm:Hid (mN l l2 k=ah (nB l l2 k)):=by show _=_;rw [mN,aw (by rw [hr,hr2,hw];rfl)]
 have hvs:=aa ((eU (isReg_iff.1 hr).1).2);have hvs2:=aa ((eU (isReg_iff.1 hr2).1).2);rw [hr] at hok;rw [hr2] at hok2;rw [wit_iff] at hw;obtain⟨k0,k8⟩:=hw;replace hok:=aa hok;replace hok2:=aa hok2;have hbi:=aa (λ W (hE:Ext w W)=>ji q n c l W (h.ext hE) hn hvs.out);have hbi2:=aa (λ W (hE:Ext w W)=>ji q2 n2 c2 l2 W (h2.ext hE) hn2 hvs2.out);clear hr hr2;go_enter func237,ntmps237;go_wp2_with (first | (go_at_call 161;(with_reducible refine (hok.out).mono ?_);rintro e w2 ⟨rfl,E2⟩;replace E2:=aa E2) | (go_at_call 161;(with_reducible refine (hok2.out _ E2.out).mono ?_);rintro e w3 ⟨rfl,E3⟩;replace E3:=aa (E2.trans E3)) | (go_at_call 159;(with_reducible refine (hbi.out _ E3.out).mono ?_);rintro e w4 ⟨B,rfl,o4,E4⟩;have t4:=aa (dH o4);replace E4:=aa (E3.trans E4);clear o4) | (go_at_call 317;(with_reducible refine (Qh B 6400 (gL l) k _ t4.out k0 k8).mono ?_);rintro e w5 ⟨B5,rfl,o5,E5⟩;have hlo5:=aa (aS E4.le (cM o5).1);have hlt5:=aa (cM o5).2;replace o5:=aa o5;replace E5:=aa (E4.trans E5)) | (go_at_call 159;(with_reducible refine (hbi2.out _ E5.out).mono ?_);rintro e w6 ⟨B6,rfl,o6,E6⟩;have hne6:=aa (Nat.ne_of_gt (aF hlt5.out (cM o6).1));have t6:=aa (dH o6);replace o5:=aa (aG o5.out E6);replace E6:=aa (E5.trans E6);clear o6) | fail);obtain⟨f,hf⟩:∃ f:Nat->Bool,Hid (f=nB l l2 k):=⟨_,aa rfl⟩;obtain⟨o,ho⟩:∃ o:ac,Hid (oI (gL l) k=o):=⟨_,aa rfl⟩;have hfo:Hid (∀ i,f i=(o i&&!gL l2 i)):=aa (λ i=>by rw [hf.out,<-ho.out,nB]);rw [ho.out,<-yy f o] at o5;clear t4 hlt5;go_loopw [9] (λ i wx=>∃ j:Nat,j<=6400/\i=.int .i64 j/\Hid (Ext w wx)/\Hid (Bits wx B6 (gL l2))/\Hid (wx.ownsRow w4 4 1 (sm B5 0 6400 6400) 6400 (ag (kq f o j)))) (λ i _=>6400 - (intOf i).toNat)
 case atStart=>exact⟨0,oM,rfl,E6,t6,o5⟩
 case round =>
  clear E6 t6 o5;obtain⟨j,hj,rfl,hX,hB,hO⟩:=hrel;have hlB:=hB.1;have hlO:=(cM hO.out).2;by_cases hjt:j<6400
  . have hjI:(j:Int)<6400:=oM;have hcB:=hB.2 j hjt;have hcO:=(dH hO.out).2 j hjt;rw [yz] at hcO;have hfr:=ey hO.out;have hst:=aa (yA f o j hjt);have hfj:=hfo.out j;obtain⟨vb,hvb⟩:∃ vb,gL l2 j=vb:=⟨_,rfl⟩;obtain⟨vo,hvo⟩:∃ vo,o j=vo:=⟨_,rfl⟩;rw [hvb] at hcB hfj;rw [hvo] at hcO hfj;clear hvb hvo;replace hfj:=aa hfj
    cases vo with
    | true => exact Am
    | false => exact Am
  . exact vv
def dX (k:Nat):Int:=if k=0 then 1 else if k=1 then -1 else 0
def dY (k:Nat):Int:=if k=2 then 1 else if k=3 then -1 else 0
theorem Qj {k:Nat}(h:k<4):(k=0/\dX k=1/\dY k=0)\/(k=1/\dX k = -1/\dY k=0)\/(k=2/\dX k=0/\dY k=1)\/(k=3/\dX k=0/\dY k = -1):=by rcases (show k=0\/k=1\/k=2\/k=3 by omega) with rfl | rfl | rfl | rfl <;> simp [dX,dY]
def ks (c:ac) (p:Q2):Nat->St->St
 | 0,s=>s
 | m+1,s=>ks c p m (jk c false p (dX (3 - m)) (dY (3 - m)) s)
def oS (c:ac) (n i:Nat) (s:St):St:=jj (λ p s=>ks c p 4 s) n i s
def jO (c:ac) (p:Q2):St:=oS c 6401 0 (eV p)
def oT (r q:Q2):Prop:=(q.a=r.a+1/\q.b=r.b+0)\/(q.a=r.a + -1/\q.b=r.b+0)\/(q.a=r.a+0/\q.b=r.b+1)\/(q.a=r.a+0/\q.b=r.b + -1)
theorem Qk (c:ac)(p:Q2):Piece c (oT p) (ks c p 4):=by
 have h:=(rI c false p 1 0).comp ((rI c false p (-1) 0).comp ((rI c false p 0 1).comp (rI c false p 0 (-1))));refine (show Piece c _ (ks c p 4) from h).congr λ q=>?_
 unfold oT;simp
theorem Hm (c:ac):Turn (λ p s=>ks c p 4 s) oT (aP c):=by
 have hp:=λ p=>Qk c p
 refine⟨λ p s hI hm=>(hp p).inv s hI (λ e=>by rw [e] at hm;simp at hm),λ p s _ _=>(hp p).pre s,λ p s _ _ q hq=>(hp p).old s q hq,λ p s _ _ q hq=>(hp p).sound s q hq,λ p s _ _ q hN hc=>(hp p).full s q hN hc⟩
theorem Ql {r q:Q2}(h:oT r q):eA false r q:=by
 unfold oT at h;unfold eA;refine⟨oM,oM,?_⟩;rcases h with h | h | h | h
 . right;left;omega
 . right;left;omega
 . left;omega
 . left;omega
theorem Qm {r q:Q2}(h:eA false r q):q=r\/oT r q:=by
 obtain⟨a,b⟩:=q;obtain⟨x,y⟩:=r;unfold eA at h;obtain⟨h1,h2,h3⟩:=h;simp only at h1 h2 h3;by_cases e:a=x/\b=y
 . left;rw [e.1,e.2]
 . right;unfold oT;simp only;rcases h3 with h3 | h3 | h3
   . omega
   . omega
   . cases h3
theorem Qn (c:ac){p:Q2}(h:ax p.a p.b=true)(q:Q2):0<=(jO c p).1 q↔Rch (eA false) (aP c) p q:=by
 rw [show (jO c p).1 q=(jj (λ p s=>ks c p 4 s) 6401 0 (eV p)).1 q from rfl,Fm (Hm c) h];constructor
 . intro hr
   induction hr with
   | refl=>exact Rch.refl
   | step _ h2 h3 ih=>exact Rch.step ih (Ql h2) h3
 . intro hr
   induction hr with
   | refl=>exact Rch.refl
   | step _ h2 h3 ih =>
     rcases Qm h2 with e | e
     . rw [e];exact ih
     . exact Rch.step ih e h3
theorem Hn (c:ac){p:Q2}(h:ax p.a p.b=true):Inv (jO c p):=(Hm c).inv_out h
def iz (l:List Q2):ac:=λ i=>l.any λ q=>decide (av q.a q.b=i)
theorem Qo:iz []=bo:=rfl
theorem Qp {l:List Q2}{k:Nat}{q:Q2}(h:l[k]?=some q):(ag (iz (l.take k))).set (av q.a q.b) (.bool true)=ag (iz (l.take (k+1))):=by
 rw [j9];refine df λ i hi=>?_
 rw [ch h];simp only [ig,iz,pi,List.any_cons,List.any_nil,Bool.or_false];by_cases e:i=av q.a q.b
 . simp [e]
 . simp [e,show ¬ av q.a q.b=i from λ x=>e x.symm]
def mQ (l:ac) (c:ac):ac:=λ i=>l i&&!c i
theorem Qq {l:List Q2}{g:ac}{k:Nat}{q:Q2}(h:l[k]?=some q):(ag (mQ g (iz (l.take k)))).set (av q.a q.b) (.bool false)=ag (mQ g (iz (l.take (k+1)))):=by
 rw [j9];refine df λ i hi=>?_
 rw [ch h];simp only [ig,mQ,iz,pi,List.any_cons,List.any_nil,Bool.or_false];by_cases e:i=av q.a q.b
 . simp [e]
 . simp [e,show ¬ av q.a q.b=i from λ x=>e x.symm]
theorem Qr (c:ac){p:Q2}(h:ax p.a p.b=true):ag (iz (jO c p).2)=ag (dA c false p):=df λ i hi=>by
 have hI:=Hn c h;rw [aL62];have e:dA c false p i=true↔Rch (eA false) (aP c) p (p2 i):=oG h hi;rw [e,<-Qn c h,<-hI.mem,iz,aL59];constructor
 . rintro⟨q,hq,hd⟩;rw [dS] at hd;rw [<-hd,Mf (hI.on q hq)];exact hq
 . intro hq;refine⟨p2 i,hq,?_⟩;rw [dS,p2];exact D0 i
theorem Qs (l c:ac){d:ac}(h:ag c=ag d):ag (mQ l c)=ag (oF l d):=df λ i hi=>by have:=tN h (bF i) (bG i);rw [je hi,je hi] at this;rw [mQ,oF,this]
def uP (c:ac) (p:Q2) (w:World) (e:Ending) (w':World):Prop:=∃ q ca,e=.returned (sl q (jO c p).2.length ca)/\w'.ownsRow w 248 2 (sl q (jO c p).2.length ca) (jO c p).2.length ((jO c p).2.flatMap jb)/\Ext w w'
theorem uQ (w:World)(o1 o2:Obj)(cs:List Value)(t:TypeId):Blk (((w.alloc o1).alloc o2).alloc (.cells cs.toArray t)).drew (w+1+1) cs t:=by have h:=aD ((w.alloc o1).alloc o2) cs t;rw [show ((w.alloc o1).alloc o2).heap.size=w.heap.size+1+1 by simp] at h;exact h.drew
theorem uR (w:World)(o1 o3:Obj)(cs:List Value)(t:TypeId):Blk (((w.alloc o1).alloc (.cells cs.toArray t)).alloc o3).drew (w+1) cs t:=by have h:=(aD (w.alloc o1) cs t).alloc o3;rw [show (w.alloc o1).heap.size=w.heap.size+1 by simp] at h;exact h.drew
theorem uS (w:World)(o2 o3:Obj)(cs:List Value)(t:TypeId):Blk (((w.alloc (.cells cs.toArray t)).alloc o2).alloc o3).drew w cs t:=(((aD w cs t).alloc o2).alloc o3).drew
theorem kt (w:World)(o1 o2 o3:Obj):Ext w (((w.alloc o1).alloc o2).alloc o3).drew:=((((ab w).alloc o1).alloc o2).alloc o3).drew
theorem Blk.two {W:World}{B:Nat}{x y a b:Value}{t:TypeId}(h:Blk W B [x,y] t):Blk ((W.setCell (ad B 0) a).setCell (ad B 1) b) B [a,b] t:=(h.set 0 a).set 1 b
theorem Ext.two {w W:World}{B:Nat}{a b:Value}(h:Ext w W)(hB:w.heap.size<=B):Ext w ((W.setCell (ad B 0) a).setCell (ad B 1) b):=(h.setCell (p:=(ad B 0)) hB a).setCell (p:=(ad B 1)) hB b
theorem Qt (B cb:Nat)(c:ac)(p:Q2)(w:World)(hb:Bits w B c)(hp:ax p.a p.b=true) :
 Calls prog 365 #[sm B 0 6400 cb,p.a,p.b] w (uP c p w):=by
 obtain⟨i0,hi,hz0,hz1,hz2⟩:=aM Fh;obtain⟨j0,hj,hy0,hy1,hy2⟩:=aM iP;have hpp:=aa hp;have hpb:=onC_iff.1 hp;obtain⟨⟨pa0,pa1⟩,pb0,pb1⟩:=hpb;have hat:=eJ hp;have hgs:=aa (rM (λ _ => -1) hp);have hBl:B<w.heap.size:=hb.1;have hbw:=aa hb;clear hp hb;obtain⟨N,hN⟩:∃ N,N=w.heap.size:=⟨_,rfl⟩;have hBN:B<N:=oM;go_enter func365,ntmps365;go_upto_region 2 with (refine ep _ rfl _ _ 238 rfl w 4 j0 _ 1 underlying238 hj hy0 hy1 .i64 .i64 6400 6400 6400 rfl rfl rfl rfl (by rw [hy2];omega) (by unfold maxLen;omega) (by simp) ?_;intro w1 ho hg);rw [gF _ (.bool false) _ (by simp [Value.cells]) (by intro j hj;simp [Value.cells] at hj ⊢;subst hj;rfl),<-gH,xH] at ho;have hE:Ext w w1:=(ab _).grown hg (λ _ h=>by cases h);have hb1:=rT ho;clear hg ho;rw [<-hN] at hb1 ⊢;have hNw:w.heap.size<=N:=oM;replace hN:=aa hN;have hs1:=hb1.lt;have z0:=hb1.cells (av p.a p.b);rw [dv _ hat] at z0;have fz:=hb1.free (av p.a p.b);have hb3:=hb1.set (av p.a p.b) (.bool true);rw [hgs.out,xG] at hb3;replace hb3:=aa hb3;replace hE:=aa hE;clear hb1 hgs;go_upto_region 4 with (go_at_call 363;refine (kQ _ _ _ hpp.out).mono ?_;rintro e w' ⟨rfl,rfl⟩);generalize hW2:w1.setCell _ _=W2;have hs2:W2.heap.size=w1.heap.size:=by rw [<-hW2];simp [World.setCell]
 rw [hW2] at hb3;have hE2:Hid (Ext w W2):=aa (by rw [<-hW2];exact hE.setCell (p:=⟨N,_,none⟩) hNw _);clear hW2 hE;generalize hW:World.alloc _ _=W3;obtain⟨E3,s3,b3⟩:=al hW;clear hW;have hq3:W3.ownsRow N 248 2 (sm W2 0 1 1) 1 ([p].flatMap jb):=rL (n:=1) (size:=2) (cs:=[.int .i64 p.a,.int .i64 p.b]) b3 oM rfl (by simp [maxLen]);have hst:FlW w N (eV p) (so W2 0) 1 W3:=⟨rG hpp.out,hb3.ext E3,hq3,(by simp [Value.ownBlock];omega),hE2.trans E3⟩;rw [hs2] at hst;replace hst:=aa hst;clear hq3 b3 E3 hb3 z0 fz hat s3 hs2 hE2;go_wp2_with (fail);go_loopw [8,9] (λ v i wr=>∃ (k:Nat) (s:St) (q:OA) (c':Nat),k<=s.2.length/\v=sl q s.2.length c'/\i=.int .i64 k/\Hid (oS c (6401 - k) k s=jO c p)/\Hid (FlW w N s q c' wr)) (λ _ i _=>6401 - (intOf i).toNat)
 case atStart=>exact⟨0,eV p,_,_,oM,rfl,rfl,rfl,hst⟩
 case round =>
  clear hst;obtain⟨k,s,q,c',hk,rfl,rfl,hI,hw⟩:=hrel;have hsl:=hw.inv.len;by_cases hlt:k<s.2.length
  . have hkI:(k:Int)<(s.2.length:Int):=oM;obtain⟨pt,hpt⟩:∃ pt,Hid (s.2[k]?=some pt):=⟨_,bK hlt⟩;have hT:Hid (oS c (6401 - (k+1)) (k+1) (ks c pt 4 s)=jO c p):=by show _=_;rw [<-hI.out,show 6401 - k=(6401 - (k+1))+1 by omega,oS,oS,ug hpt.out]
    have hptb:=onC_iff.1 (hw.inv.on pt (ap hpt.out));obtain⟨⟨pt0,pt1⟩,pt2,pt3⟩:=hptb;obtain⟨T,hTT⟩:∃ T,T=ks c pt 4 s:=⟨_,rfl⟩;rw [<-hTT] at hT;have hI2:Hid (ks c pt 4 s=T/\s.2[k]?=some pt):=⟨hTT.symm,hpt.out⟩;clear hI hTT hpt;go_wp2_with (fail);go_loopw [8,10] (λ vq j wr=>∃ (m:Nat) (s':St) (q':OA) (c':Nat),m<=4/\vq=sl q' s'.2.length c'/\j=.int .i64 (4 - (m:Int))/\Hid (ks c pt m s'=T/\s'.2[k]?=some pt)/\Hid (FlW w N s' q' c' wr)) (λ _ j _=>(4 - intOf j).toNat)
    case atStart=>exact⟨4,s,_,_,oM,rfl,rfl,hI2,hw⟩
    case round =>
     clear hI2 hw;obtain⟨m,s',q',c',hm4,rfl,rfl,hI,hw⟩:=hrel
     cases m with
     | zero =>
       have hO:Hid (oS c (6401 - (k+1)) (k+1) s'=jO c p):=by show _=_;rw [show s'=T from hI.1];exact hT.out
       have hkl:k<s'.2.length:=(aL31.1 hI.2).1;go_wp2_with (fail);exact Bg
     | succ m =>
       obtain⟨d,hd⟩:∃ d:Nat,d=3 - m:=⟨_,rfl⟩;have hd4:d<4:=oM;have hd2:(4:Int) - ((m+1:Nat):Int)=(d:Int):=oM;have hd3:Hid (Value.int .i64 ((d:Int)+1)=.int .i64 (4 - (m:Int))):=aa (by congr 1;omega);have hst:Hid (∀ dx dy:Int,dX d=dx->dY d=dy->ks c pt m (jk c false pt dx dy s')=T):=aa (λ dx dy h1 h2=>by rw [<-h1,<-h2,hd];exact hI.1);have hkl:k<s'.2.length:=(aL31.1 hI.2).1;have hsl':=hw.inv.len;rw [hd2];replace hd:=aa (show m=3 - d by omega);clear hd2;obtain⟨dx,dy,hx,hy,hdd⟩:∃ dx dy:Int,dX d=dx/\dY d=dy/\((d=0/\dx=1/\dy=0)\/(d=1/\dx = -1/\dy=0)\/(d=2/\dx=0/\dy=1)\/(d=3/\dx=0/\dy = -1)):=⟨_,_,rfl,rfl,Qj hd4⟩;replace hst:=aa (hst.out dx dy hx hy);clear hx hy;have hA:dx=0\/dy=0:=oM;have hdxb : -1<=dx/\dx<=1:=oM;have hdyb : -1<=dy/\dy<=1:=oM;have hs2:=bm (l:=s'.2) wg rfl hw.own;obtain⟨bq,oq,y,hq',hbq,hy,y0,y1⟩:=hs2.two hkl;obtain rfl:y=pt:=cJ (hy.symm.trans hI.2);subst hq';have hkI2:(k:Int)<(s'.2.length:Int):=oM;clear hs2 hy;have hw1:IntKind.i64.wrap (y.a+dx)=y.a+dx:=jS _ oM;have hw2:IntKind.i64.wrap (y.b+dy)=y.b+dy:=jS _ oM;have hbq1:bq<wr.heap.size+1:=oM;have hbq2:bq<wr.heap.size+1+1:=oM;have hbq3:bq<wr.heap.size+1+1+1:=oM;have hX:[Value.int .i64 1,.int .i64 (-1),.int .i64 0,.int .i64 0][d]'(by simp;omega)=.int .i64 dx:=by rcases hdd with ⟨rfl,rfl,rfl⟩ | ⟨rfl,rfl,rfl⟩ | ⟨rfl,rfl,rfl⟩ | ⟨rfl,rfl,rfl⟩ <;> rfl
       have hY:[Value.int .i64 0,.int .i64 0,.int .i64 1,.int .i64 (-1)][d]'(by simp;omega)=.int .i64 dy:=by rcases hdd with ⟨rfl,rfl,rfl⟩ | ⟨rfl,rfl,rfl⟩ | ⟨rfl,rfl,rfl⟩ | ⟨rfl,rfl,rfl⟩ <;> rfl
       have hdI:(d:Int)<4:=oM;clear hdd;go_wp2_with (fail)
       refine jh (λ a0 a' w'=>∃ M g1 g2:Nat,(Ext wr w'/\wr.heap.size<=M/\Blk w' M [(y.a+dx:Int),(y.b+dy:Int)] 248) /\
        a'=((((((((((((((((((((((a0.put (some 34) (sm bq oq s'.2.length c')).put (some 35) (k:Int)).put (some 36) (.pointer (so bq (oq+k*2)))).put (some 37) (.pointer (so bq (oq+k*2)))).put (some 38) y.a).put (some 39) (sm g1 0 4 4)).put (some 40) (d:Int)).put (some 41) (.pointer (so g1 d))).put (some 42) dx).put (some 43) (y.a+dx:Int)).put (some 44) (sm bq oq s'.2.length c')).put (some 45) (k:Int)).put (some 46) (.pointer (so bq (oq+k*2)))).put (some 47) (.pointer (so bq (oq+k*2+1)))).put (some 48) y.b).put (some 49) (sm g2 0 4 4)).put (some 50) (d:Int)).put (some 51) (.pointer (so g2 d))).put (some 52) dy).put (some 53) (y.b+dy:Int)).put (some 54) (.agg #[(y.a+dx:Int),(y.b+dy:Int)])).put (some 11) (.pointer (so M 0)))) ?_ ?_
       . go_region
         all_goals first
          | (refine⟨wr.heap.size+1+1,wr.heap.size,wr.heap.size+1,⟨kt _ _ _ _,oM,uQ _ _ _ _ _⟩,?_⟩;simp only [Act.put,dn,aW,aY];done)
          | (refine⟨wr.heap.size+1+1,wr.heap.size,wr.heap.size+1,⟨(kt _ _ _ _).two oM,oM,(uQ _ _ _ _ _).two⟩,?_⟩;simp only [Act.put,dn,aW,aY];done)
          | (refine⟨wr.heap.size+1+1,wr.heap.size+1,wr.heap.size,⟨kt _ _ _ _,oM,uQ _ _ _ _ _⟩,?_⟩;simp only [Act.put,dn,aW,aY];done)
          | (refine⟨wr.heap.size+1+1,wr.heap.size+1,wr.heap.size,⟨(kt _ _ _ _).two oM,oM,(uQ _ _ _ _ _).two⟩,?_⟩;simp only [Act.put,dn,aW,aY];done)
          | (refine⟨wr.heap.size+1,wr.heap.size,wr.heap.size+1+1,⟨kt _ _ _ _,oM,uR _ _ _ _ _⟩,?_⟩;simp only [Act.put,dn,aW,aY];done)
          | (refine⟨wr.heap.size+1,wr.heap.size,wr.heap.size+1+1,⟨(kt _ _ _ _).two oM,oM,(uR _ _ _ _ _).two⟩,?_⟩;simp only [Act.put,dn,aW,aY];done)
          | (refine⟨wr.heap.size+1,wr.heap.size+1+1,wr.heap.size,⟨kt _ _ _ _,oM,uR _ _ _ _ _⟩,?_⟩;simp only [Act.put,dn,aW,aY];done)
          | (refine⟨wr.heap.size+1,wr.heap.size+1+1,wr.heap.size,⟨(kt _ _ _ _).two oM,oM,(uR _ _ _ _ _).two⟩,?_⟩;simp only [Act.put,dn,aW,aY];done)
          | (refine⟨wr.heap.size,wr.heap.size+1,wr.heap.size+1+1,⟨kt _ _ _ _,oM,uS _ _ _ _ _⟩,?_⟩;simp only [Act.put,dn,aW,aY];done)
          | (refine⟨wr.heap.size,wr.heap.size+1,wr.heap.size+1+1,⟨(kt _ _ _ _).two oM,oM,(uS _ _ _ _ _).two⟩,?_⟩;simp only [Act.put,dn,aW,aY];done)
          | (refine⟨wr.heap.size,wr.heap.size+1+1,wr.heap.size+1,⟨kt _ _ _ _,oM,uS _ _ _ _ _⟩,?_⟩;simp only [Act.put,dn,aW,aY];done)
          | (refine⟨wr.heap.size,wr.heap.size+1+1,wr.heap.size+1,⟨(kt _ _ _ _).two oM,oM,(uS _ _ _ _ _).two⟩,?_⟩;simp only [Act.put,dn,aW,aY];done)
          | fail
       rintro a' W3 ⟨M,g1,g2,⟨E3,hM,hb3⟩,rfl⟩;simp only [Act.put,dn,aW,aY];have hNl:=hw.blk.lt;have hw3:=aa (hw.later E3);have hMN:M≠N:=oM;obtain⟨U,hU⟩:∃ U,U=y.a+dx:=⟨_,rfl⟩;obtain⟨V,hV⟩:∃ V,V=y.b+dy:=⟨_,rfl⟩;rw [<-hU,<-hV] at hb3 ⊢;have m0:=hb3.cells 0;have m1:=hb3.cells 1;simp only [aJ,aN] at m0 m1;have hMl:=hb3.lt;have hrel:Hid (∀ s2:St,jk c false y dx dy s'=s2->s2.2[k]?=some y->ks c y m s2=T/\s2.2[k]?=some y):=λ s2 e h2=>⟨by rw [<-e];exact hst.out,h2⟩
       have hH:∀ b,gh c U V=b->Hid (∀ W,Ext w W->CW 381 #[sm B 0 6400 cb,U,V] W (.bool b)):=λ b hb W hW=>by have:=fU B cb c U V W (hbw.ext hW);rw [hb] at this;exact this
       have hUV:Hid (U=y.a+dx/\V=y.b+dy):=⟨hU,hV⟩;clear hw E3 hNl hw1 hw2 y0 y1 hbq hbq1 hbq2 hbq3 hst hM hU hV hX hY
       cases hg:gh c U V with
       | false => have hH2:=hH _ hg;have hmv:=aa (hrel.out s' (iQ (aB (ay (by rw [<-hUV.1,<-hUV.2];exact hg)))) hI.2);clear hg hH hb3;exact Af
       | true =>
         have hH2:=hH _ hg;have hoc:ax U V=true:=A7
         have hoc2:=aa hoc;have zn:=hw3.blk.cells (av U V);have hlt6:=eJ hoc;rw [dv _ hlt6] at zn;have hNl:=hw3.blk.lt;have fz:=hw3.blk.free (av U V);have hgD:=xI s'.1 (q:=⟨U,V⟩) hoc;simp only at hgD;clear hH hoc;by_cases hD:0<=s'.1 ⟨U,V⟩
         . have hmv:=aa (hrel.out s' (iQ (aB (aB (by rw [<-hUV.1,<-hUV.2];exact hD)))) hI.2);rw [hgD,bl hD] at zn;clear hg hgD hD fz hb3;exact Af
         . have hDn:s'.1 ⟨U,V⟩<0:=oM;have hst2:=nu (c:=c) (wide:=false) (p:=y) (dx:=dx) (dy:=dy) (s:=s') (ay hA) (by rw [<-hUV.1,<-hUV.2];exact hg) (by rw [<-hUV.1,<-hUV.2];exact hDn);rw [<-hUV.1,<-hUV.2] at hst2;have hInv2:=aa (hw3.inv.add (g:=bo) (v:=0) (uj hDn) hoc2.out oM oM);have hmv:=aa (hrel.out _ hst2 (by show (s'.2++[_])[k]?=_;rw [fm hkl];exact hI.2));rw [hgD,bU hD] at zn;obtain⟨W4,hW4⟩:∃ W4,W4=W3.setCell (ad N (av U V)) (.bool true):=⟨_,rfl⟩;have r1:Blk W4 N (ag (gD (bS s'.1 ⟨U,V⟩ 0))) 4:=AL
           have r2:W4.ownsRow N 248 2 (sm bq oq s'.2.length c') s'.2.length (s'.2.flatMap jb):=by rw [hW4];exact tx hw3.own hw3.ne (av U V) (.bool true)
           have r3:Blk W4 M [U,V] 248:=by rw [hW4];exact hb3.other _ _ hMN
           have r4:Ext w W4:=by rw [hW4];exact hw3.ext.setCell (p:=(ad N (av U V))) hNw (.bool true)
           have hne9:=hw3.ne;have n0:=r3.cells 0;have n1:=r3.cells 1;simp only [aJ,aN] at n0 n1;have hMl4:=r3.lt;have hNl4:=r1.lt;have hNw4:=r4.le;have hN4:N<=W4.heap.size:=oM;replace hW4:=aa hW4.symm;replace r1:=aa r1;replace r2:=aa r2;replace r4:=aa r4;replace hne9:=aa hne9;clear hg hgD hD hst2 hDn hb3 hNw4 r3;go_upto_region 13 with (first | (go_at_call 381;refine (hH2.out _ hw3.ext).mono ?_;rintro e w' ⟨rfl,rfl⟩) | (go_at_call 363;refine (kQ _ _ _ hoc2.out).mono ?_;rintro e w' ⟨rfl,rfl⟩) | fail);rw [hW4.out];go_wp2_with (at_builtin;refine cZ _ rfl _ _ 385 rfl N 248 i0 (.agg #[(0:Int),(0:Int)]) 2 16 underlying385 hi hz0 hz1 hz2 rfl oM _ _ _ rfl (r2.alloc _) ⟨_,0,none⟩ 1 1 [.int .i64 U,.int .i64 V] rfl rfl (dg W4 [.int .i64 U,.int .i64 V] 248) (xv _ _) (cx oM oM) oM (by simp;omega) ?_;intro v' w6 ho' hg' _ hb';obtain⟨qa,ca,rfl⟩:=cq ho';have t4:=aa ((r4.alloc (.cells #[.int .i64 U,.int .i64 V] 248)).grown hg' (λ k hk=>by have:=(r2.lt k hk).1;omega));have t5:=aa (xw hne9.out hb' (by simp;omega));have t1:=aa ((r1.alloc (.cells #[.int .i64 U,.int .i64 V] 248)).grown hg' hne9.out);replace ho':=aa ho';clear hg' hb');go_roundw
           case rel=>exact⟨m,_,qa,ca,oM,by show _=Value.slice _ (s'.2++[_]).length _;rw [aI];rfl,hd3.out,hmv,hInv2.out,t1.out,by show World.ownsRow _ _ _ _ (Value.slice _ (s'.2++[_]).length _) (s'.2++[_]).length ((s'.2++[_]).flatMap jb);rw [aI,dj];simpa [jb] using ho'.out,by show Value.ownBlock (.slice _ (s'.2++[_]).length _)≠_;rw [aI];exact t5.out,t4.out⟩
           case measure=>exact mS
  . have hkI:¬ (k:Int)<(s.2.length:Int):=oM;have hfin:Hid (s=jO c p):=by show _=_;rw [<-hI.out,oS,xz oM]
    go_wp2_with (fail);go_ret;unfold uP;rw [<-hfin.out];exact⟨q,c',rfl,fi hw.own hNw,hw.ext⟩
theorem OwB.mutS {base c:Nat}{w w':World}{q:OA}{Bs:List Nat}{G:List ac}{S:List Nat}(h:OwB base w q c Bs G)(M:Mut w w' S)(h1:∀ b,b∈ao q->b∉S)(h2:∀ (k:Nat) (B:Nat),Bs[k]?=some B->B∉S):OwB base w' q c Bs G :=
 ⟨h.len,M.grownBy (λ g hg=>h1 g (by rw [fd,ew] at hg;exact mem_blkOf.2 hg)) h.top,λ k B g hB hg=>(h.row k B g hB hg).mut M (h2 k B hB),h.under,h.ge⟩
theorem Qu (B cb:Nat)(c:ac)(x y:Nat)(w:World)(hb:Bits w B c)(hx:x<80)(hy:y<80) :
 Calls prog 365 #[sm B 0 6400 cb,((x:Int) - 40:Int),((y:Int) - 40:Int)] w (uP c (p2 (y*80+x)) w):=by
 have h:=Qt B cb c (p2 (y*80+x)) w hb (kM oM);exact AO
theorem Ho (x y:Nat)(w:World)(hx:x<80)(hy:y<80) :
 CW 363 #[((x:Int) - 40:Int),((y:Int) - 40:Int)] w ((y*80+x:Nat):Int):=by
 exact AG
theorem Bits.eqv {w:World}{B:Nat}{g h:ac}(hb:Bits w B g)(e:ag g=ag h):Bits w B h:=⟨hb.1,λ i hi=>by have:=tN e (bF i) (bG i);rw [je hi,je hi] at this;rw [hb.2 i hi,this]⟩
structure LcW (g:ac) (w:World) (i:Nat) (l d:ac) (G:List ac) (q:OA) (c:Nat) (Bs:List Nat) (L cL:Nat) (wr:World):Prop where
 inv:PtI g i l d G
 own:OwB w wr q c Bs G
 left:wr.ownsRow w 4 1 (sm L 0 6400 cL) 6400 (ag l)
 under:L∉ao q
 apart:∀ (k:Nat) (B:Nat),Bs[k]?=some B->B≠L
 ext:Ext w wr
def uT (g:ac) (w:World) (L cL i:Nat) (vo:Value) (wr:World):Prop:=∃ (l d:ac) (G:List ac) (q:OA) (c:Nat) (Bs:List Nat),vo=sl q G.length c/\LcW g w i l d G q c Bs L cL wr
theorem Qv (g:ac):∀ u∈ag g,u.oneCell'=true:=λ u hu=>by simp [ag] at hu;obtain⟨_,_,rfl⟩:=hu;rfl
theorem Qw (B cb:Nat)(g:ac)(w:World)(hb:Bits w B g) :
 Calls prog 318 #[sm B 0 6400 cb] w (FX (bk g) w):=by
 obtain⟨i0,hi,hz0,hz1,hz2⟩:=aM FV;obtain⟨j0,hj,hy0,hy1,hy2⟩:=aM iP;have hbw:=aa hb;clear hb;go_enter func318,ntmps318;go_upto_region 2 with (fail);have ho0:=dh (size:=1) (aD w [] 238) (ai _);generalize hW:w.alloc _=W0 at ho0 ⊢;have E0:Ext w W0:=by rw [<-hW];exact (ab _).alloc _
 clear hW;have hw0:=(cM ho0).2;have he1:=dh (size:=1) (aD W0 [] 4) (ai _);have hb1:=(hbw.ext E0).ext ((ab W0).alloc (.cells #[] 4))
 have hx1:∀ j u,(ag g)[j]?=some u->(W0.alloc (.cells #[] 4)).cell? (((ad B 0):Addr).add j)=some u:=λ j u hu=>by
  have hj6:j<6400:=by have:=(aL31.1 hu).1;rwa [j8] at this
  rw [dv _ hj6] at hu
  cases hu
  rw [Ly,fQ];exact hb1.2 j hj6
 replace hx1:=aa hx1;go_wp2_with (at_builtin;refine cZ _ rfl _ _ 238 rfl W0 4 j0 (.bool false) 1 1 underlying238 hj hy0 hy1 hy2 rfl oM _ _ _ rfl he1 (ad B 0) 6400 cb (ag g) rfl (by rw [j8]) hx1.out (Qv g) (by unfold maxLen;omega) oM (by simp) ?_;intro v' w2 hoA hgA _ hbA;simp only [fQ,List.nil_append] at hoA;obtain⟨qa,ca,rfl⟩:=cq hoA;obtain⟨L,rfl⟩:=jy hoA oM);have E2:Ext w w2:=(E0.trans ((ab W0).alloc _)).grown hgA (λ k hk=>by have h1:=(he1.lt k hk).1;omega);have hL0:W0.heap.size<=L:=(cM hoA).1;have ho2:=(aG ho0 ((ab W0).alloc (.cells #[] 4))).kept hgA (by right;show some w.heap.size≠some W0;simp;omega);have hst:uT g w L ca 0 (sm w 0 0 0) w2:=⟨g,bo,[],_,_,[],rfl,PtI.start g,OwB.start ho2,fi hoA oM,by simp [ao];omega,(λ k B hk=>by simp at hk),E2⟩;have hLw:Hid (w.heap.size<L):=aa oM;replace hst:=aa hst;clear ho2 hL0 E2 hoA hgA hbA hx1 hb1 he1 hw0 E0 ho0;go_wp2_with (fail);go_loopw [3,5] (λ vo iy wr=>∃ y:Nat,y<=80/\iy=.int .i64 ((y:Int) - 40)/\Hid (uT g w L ca (y*80) vo wr)) (λ _ i _=>(40 - intOf i).toNat)
 case atStart=>exact⟨0,oM,rfl,by rw [ky];exact hst⟩
 case round =>
  clear hst;obtain⟨y,hy,rfl,hr⟩:=hrel;by_cases hlt:y<80
  . have hyI:(y:Int) - 40<40:=oM;go_wp2_with (fail);go_loopw [3,6] (λ vo ix wr=>∃ x:Nat,x<=80/\ix=.int .i64 ((x:Int) - 40)/\Hid (uT g w L ca (y*80+x) vo wr)) (λ _ i _=>(40 - intOf i).toNat)
    case atStart=>exact⟨0,oM,rfl,hr⟩
    case round =>
     clear hr;obtain⟨x,hx,rfl,hr⟩:=hrel;by_cases hxl:x<80
     . have hxI:(x:Int) - 40<40:=oM;obtain⟨l,d,G,q,c,Bs,rfl,hw⟩:=hr.out;have bL:=dH hw.left;have z1:=bL.2 (y*80+x) oM;have hLl:=bL.1
       cases hh:l (y*80+x) with
       | false => have hn:Hid (uT g w L ca (y*80+(x+1)) (sl q G.length c) wr):=⟨l,d,G,q,c,Bs,rfl,hw.inv.miss oM hh,hw.own,hw.left,hw.under,hw.apart,hw.ext⟩;rw [hh] at z1;replace hw:=aa hw;clear hr bL hh;go_wp2_with (first | (go_at_call 363;(with_reducible refine (Ho x y _ hxl hlt).mono ?_);rintro e w' ⟨rfl,rfl⟩) | fail);exact sO
       | true =>
         have hhit:=hw.inv.hit (show y*80+x<6400 by omega) hh;have hlG:=hw.inv.room (show y*80+x<6400 by omega) hh;have hvi:=aa (Qu L ca l x y wr bL hxl hlt);have hpv:=Qr l (kM (show y*80+x<6400 by omega));have hIv:=Hn l (kM (show y*80+x<6400 by omega));obtain⟨ps,hps⟩:∃ ps,(jO l (p2 (y*80+x))).2=ps:=⟨_,rfl⟩;have hvl:=hIv.len;have hon:=hIv.on;rw [hps] at hpv hvl hon;have hpv2:=hpv.trans hhit.1;have hcut:=Qs l (iz ps) hpv2;replace hvi:=aa (show Calls prog 365 #[sm L 0 6400 ca,((x:Int) - 40:Int),((y:Int) - 40:Int)] wr (λ e w'=>∃ q5 c5,e=.returned (sl q5 ps.length c5)/\w'.ownsRow wr 248 2 (sl q5 ps.length c5) ps.length (ps.flatMap jb)/\Ext wr w') from by have:=hvi.out;unfold uP at this;rw [hps] at this;exact this);rw [hh] at z1;replace hw:=aa hw;replace hhit:=aa hhit.2;replace hpv2:=aa hpv2;replace hcut:=aa hcut;replace hon:=aa hon;clear hr bL hh hpv hIv hps;go_wp2_with (first | (go_at_call 363;(with_reducible refine (Ho x y _ hxl hlt).mono ?_);rintro e w' ⟨rfl,rfl⟩) | (go_at_call 365;(with_reducible refine (hvi.out).mono ?_);rintro e w5 ⟨q5,c5,rfl,o5,E5⟩;replace o5:=aa o5;replace E5:=aa E5) | (refine ep _ rfl _ _ 238 rfl w5 4 j0 _ 1 underlying238 hj hy0 hy1 .i64 .i64 6400 6400 6400 rfl rfl rfl rfl (by rw [hy2];omega) (by unfold maxLen;omega) (ai _) ?_;intro w7 ho hg) | fail);rw [gF _ (.bool false) _ (by simp [Value.cells]) (by intro j hj;simp [Value.cells] at hj ⊢;subst hj;rfl),<-gH,<-Qo] at ho;have E7:Ext w5 w7:=(ab _).grown hg (λ _ h=>by cases h);have hD0:=rT ho;have hDl:=hD0.lt;obtain⟨D,hD⟩:∃ D,D=w5.heap.size:=⟨_,rfl⟩;rw [<-hD] at hD0 hDl ⊢;have hLw5:L<w5.heap.size:=aF hLl E5.le;have hDL:L≠D:=oM;have o7:=aG o5.out E7;have hq7:∀ b∈ao q5,b∉[L,D]:=λ b hb h9=>by have h1:=dE o5.out b hb;simp at h9;omega
         have E57:=E5.trans E7;have own7:=hw.own.ext E57;have left7:=aG hw.left E57
         have hqD:∀ b∈ao q,b∉[L,D]:=λ b hb h9=>by
          have h1:=dE hw.own.top b hb;have h2:=hw.under;have h3:=E5.le;simp at h9;rcases h9 with h9 | h9
          . rw [h9] at hb;exact h2 hb
          . omega
         have hBD:∀ (k:Nat) (B:Nat),Bs[k]?=some B->B∉[L,D]:=λ k B hk h9=>by
          have h1:=hw.apart k B hk;have hkG:k<G.length:=by rw [<-hw.own.len];exact (aL31.1 hk).1
          have h2:=(hw.own.row k B _ hk (bK hkG)).1;have h3:=E5.le;simp at h9;omega
         have hwD:w.heap.size<=D:=aS hw.ext.le (by rw [hD];exact E5.le);have hX7:=aa (hw.ext.trans E57);have hs7:=aa (bm (l:=ps) wg rfl o7);have hin0:Hid (Mut w7 w7 [L,D]/\Blk w7 D (ag (iz (ps.take 0))) 4/\w7.ownsRow w 4 1 (sm L 0 6400 ca) 6400 (ag (mQ l (iz (ps.take 0))))):=aa ⟨fw _ _,by rw [List.take_zero];exact hD0,by rw [List.take_zero,show ag (mQ l (iz []))=ag l from df λ i _=>by simp [mQ,iz]];exact left7⟩;replace own7:=aa own7;replace hqD:=aa hqD;replace hBD:=aa hBD;replace hq7:=aa hq7;replace hD:=aa hD;clear ho hg E57 o7 E7 hLw5 left7 z1 hD0;go_wp2_with (fail);go_loopw [9] (λ iv wx=>∃ k:Nat,k<=ps.length/\iv=.int .i64 k/\Hid (Mut w7 wx [L,D]/\Blk wx D (ag (iz (ps.take k))) 4/\wx.ownsRow w 4 1 (sm L 0 6400 ca) 6400 (ag (mQ l (iz (ps.take k)))))) (λ i _=>ps.length - (intOf i).toNat)
         case atStart=>exact⟨0,oM,rfl,hin0⟩
         case round =>
          clear hin0;obtain⟨k,hk,rfl,hI⟩:=hrel;by_cases hkt:k<ps.length
          . have hkI:(k:Int)<(ps.length:Int):=oM;have hmt:∀ a,q5=some a->a.block∉[L,D]:=λ a ha=>hq7.out _ (mem_blkOf.2 ⟨a,ha,rfl⟩)
            obtain⟨b2,off2,pt,e9,hb2,hp,y0,y1⟩:=(hs7.mut hI.1 hmt).two hkt;subst e9;have hb2n:=hmt _ rfl;have hoc:=aa (hon.out pt (ap hp.out));have hat:=eJ hoc.out;have hatI:(av pt.a pt.b:Int)<6400:=oM;have zn:=hI.2.1.cells (av pt.a pt.b);rw [dv _ hat] at zn;have fz:=hI.2.1.free (av pt.a pt.b);have hNl:=hI.2.1.lt;have hset1:=Qp hp.out;have hset2:=Qq (g:=l) hp.out;have hM1:=aa ((hI.1.setCell (p:=(ad D (av pt.a pt.b))) (by simp) (.bool true)).drew:Mut w7 (wr.setCell (ad D (av pt.a pt.b)) (.bool true)).drew [L,D]);have hB1:=aa ((hI.2.1.set (av pt.a pt.b) (.bool true)).drew);have hO1:=aa (mY (tx hI.2.2 (show Value.ownBlock (sm L 0 6400 ca)≠some D from by simp [Value.ownBlock];exact hDL) (av pt.a pt.b) (.bool true)));have e0:(wr.setCell (ad D (av pt.a pt.b)) (.bool true)).drew.cell? (ad b2 (off2+k*2))=si pt.a:=sn (show D≠b2 from λ h9=>by rw [h9] at hb2n;simp at hb2n) y0;have e1:(wr.setCell (ad D (av pt.a pt.b)) (.bool true)).drew.cell? (ad b2 (off2+k*2+1))=si pt.b:=sn (show D≠b2 from λ h9=>by rw [h9] at hb2n;simp at hb2n) y1;replace e0:=aa e0;replace e1:=aa e1;rw [hset1] at hB1;replace hset2:=aa hset2;clear hI hset1;go_wp2_with (fail);refine wp_region_still_tail 13 kR kR ?_;simp only [List.take_succ_cons,List.take_zero,pa,pb]
            iterate 11 still_step
            still_call ((kQ _ _ _ hoc.out).mono λ _ _ h=>⟨h.1,h.2.symm⟩)
            still_step
            refine wpStill_nil ?_;change wpList _ _ _ _ _ wr.drew;go_upto_region 16 with (fail);generalize (wr.setCell _ _).drew=V1 at hM1 hB1 hO1 e0 e1 ⊢;replace e0:=e0.out;replace e1:=e1.out;have hlV:=(cM hO1.out).2;obtain⟨v0,ev⟩:=bO hO1.out (av pt.a pt.b) oM;have fv:=ey hO1.out
            have hb2V:b2<V1.heap.size:=by
             rcases kX b2 V1.heap.size with h9 | h9
             . exact h9
             . exact absurd (World.block_lt_of_cell? V1 _ e0) (by simp;omega)
            have hM2:=aa ((hM1.setCell (p:=(ad L (av pt.a pt.b))) (by simp) (.bool false)).drew:Mut w7 (V1.setCell (ad L (av pt.a pt.b)) (.bool false)).drew [L,D]);have hB2:=aa ((hB1.other (B:=L) (av pt.a pt.b) (.bool false) oM).drew);have hO2:=aa (mY (f7 hO1.out (av pt.a pt.b) (.bool false)));rw [hset2.out] at hO2;clear y0 y1 zn fz hNl hb2;refine wp_region_still_tail 13 kR kR ?_;simp only [List.take_succ_cons,List.take_zero,pa,pb]
            iterate 11 still_step
            still_call ((kQ _ _ _ hoc.out).mono λ _ _ h=>⟨h.1,h.2.symm⟩)
            still_step
            refine wpStill_nil ?_;change wpList _ _ _ _ _ V1.drew;go_wp2_with (fail);go_roundw
            case rel=>exact⟨k+1,oM,gN,aa ⟨hM2.out,hB2.out,hO2.out⟩⟩
            case measure=>exact mS
          . have hkI:¬ (k:Int)<(ps.length:Int):=oM;have hI2:=hI.out;rw [eE (show ps.length<=k by omega)] at hI2;obtain⟨M9,B9,O9⟩:=hI2;rw [hcut.out] at O9;have hown:=aa (own7.mutS M9 hqD.out hBD.out);have hbD:=aa ((Bits.ofBlk B9).eqv hpv2.out);have hEx:=aa (hX7.then M9 (by intro k hk;have:=hLw.out;simp at hk;omega));have hDq:Hid (D∉ao q):=aa (λ h9=>hqD.out D h9 (by simp));have hsz:=hEx.le;have htop:=aa hown.top;have hLq:=aa hw.under;have hLB:=aa hw.apart;replace O9:=aa O9;clear M9 B9 hI hw;go_wp2_with (at_builtin;refine cZ _ rfl _ _ 307 rfl w 238 i0 (.slice none 0 0) 1 24 underlying307 hi hz0 hz1 hz2 rfl oM _ _ _ rfl (htop.alloc _) ⟨_,0,none⟩ 1 1 [sm D 0 6400 6400] rfl rfl (nq _ _ _) (by intro u9 h9;simp at h9;subst h9;rfl) (cx oM oM) oM (by simp;omega) ?_;intro v' w9 ho' hg' _ hb';obtain⟨qa,ca2,rfl⟩:=cq ho';replace ho':=aa ho';replace hg':=aa hg';replace hb':=aa hb');have hLne:Hid ((Value.slice q G.length c).ownBlock≠some L):=aa (λ e9=>by rw [fd,ew] at e9;exact hLq.out (mem_blkOf.2 e9));have hlr:=aa ((cM O9.out).2);go_roundw
            case rel=>exact⟨x+1,oM,lN oM,_,_,G++[dA g false (p2 (y*80+x))],qa,ca2,_,by rw [aI];rfl,hhit.out,hown.push hbD.out hwD hDq.out (ab _) ho'.out hg'.out hb'.out,(aG O9.out ((ab _).alloc _)).kept hg'.out (aB (gW hLne.out)),(λ h9=>by
             have hb:(Value.slice qa (G.length+1) ca2).ownBlock=(Value.slice q G.length c).ownBlock\/(Value.slice qa (G.length+1) ca2).ownBlock=some (wr.alloc (.cells #[sm D 0 6400 6400] 238)).heap.size:=hb'.out;rw [fd,fd] at hb;obtain⟨a,rfl,ha⟩:=mem_blkOf.1 h9;rcases hb with hb | hb
             . rw [Option.map_some,eq_comm,ew] at hb;obtain⟨a',h5,h6⟩:=hb;exact hLq.out (mem_blkOf.2 ⟨a',h5,h6.trans ha⟩)
             . simp only [Option.map_some,Option.some.injEq] at hb;have:=hlr.out;rw [<-ha,hb] at this;simp at this;omega),(λ k B hk=>by
             by_cases h9:k<Bs.length
             . rw [fm h9] at hk;exact hLB.out k B hk
             . rw [jT oM] at hk;have:=ap hk;simp at this;omega),(hEx.alloc _).grown hg'.out (λ k hk=>by have hk:(Value.slice q G.length c).ownBlock=some k:=hk;rw [fd,ew] at hk;exact (dE htop.out k (mem_blkOf.2 hk)).1)⟩
            case measure=>exact mS
     . have hxI:¬ (x:Int) - 40<40:=oM;have h80:y*80+x=(y+1)*80:=oM;rw [h80] at hr;clear h80;go_wp2_with (fail);exact Bm
  . have hyI:¬ (y:Int) - 40<40:=oM;have h80:y*80=6400:=oM;rw [h80] at hr;clear h80;obtain⟨l,d,G,q,c,Bs,rfl,hw⟩:=hr.out;have hG:=aa hw.inv.done;replace hw:=aa hw;clear hr;go_wp2_with (fail);go_ret;rw [hG.out];exact⟨q,c,Bs,rfl,hw.own,hw.ext⟩
end Go.Proofs.YtnlajnpcdnnpmaaGreat
