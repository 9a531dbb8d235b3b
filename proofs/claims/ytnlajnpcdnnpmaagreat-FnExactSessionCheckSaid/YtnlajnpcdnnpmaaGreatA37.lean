/- Part of a proof. No condition. -/
import Derived.Test.YtnlajnpcdnnpmaaGreatA36
namespace Go.Proofs.YtnlajnpcdnnpmaaGreat
set_option linter.all false
set_option maxRecDepth 100000
set_option maxHeartbeats 16000000
open Go.Proofs.Tryz Go.RowKit Go.PlainAid
theorem P3 {l:List Q4}{k:Nat}{r:Q4}(h:l[k]?=some r):dP (l.take k)+gA r=dP (l.take (k+1)):=by rw [ch h,wE,ot,oo,gA];omega
theorem P4 (q:OA)(n c:Nat)(l:List Q4)(w:World)(h:SlT aj 4 w q n l)(hn:n<=1048576)(hv:∀ r∈l,vR r=true) :
 CE 379 #[sl q n c] w (dP l:Int):=by
 have hl:=aa h.length;have hv:=aa hv;go_enter func379,ntmps379;go_wp2_with (fail);go_loopw [3,8] (λ s i wx=>∃ j:Nat,j<=n/\s=.int .i64 (dP (l.take j))/\i=.int .i64 j/\Ext w wx) (λ _ i _=>n - (intOf i).toNat)
 case atStart=>exact⟨0,oM,by simp [dP],rfl,ab _⟩
 case round =>
  obtain⟨j,hj,rfl,rfl,hX⟩:=hrel;by_cases hjt:j<n
  . have hjI:(j:Int)<(n:Int):=oM;obtain⟨b,off,s,rfl,hbn,hs,c0,c1,c2,c3⟩:=(h.ext hX).four hjt;have hsv:=aa (hv.out s (ap hs.out));have hb1:=xx (l.take j) (λ r hr=>hv.out r (oZ hr));have hb2:((l.take j).length:Int)<=j:=by have:=md j l;omega
    have hb3:=uL hsv.out;have hst:=aa (P3 hs.out);obtain⟨A,hA⟩:∃ A,gA s=A:=⟨_,rfl⟩;obtain⟨S,hS⟩:∃ S,dP (l.take j)=S:=⟨_,rfl⟩;have har:=λ W=>uK s W hsv.out
    rw [hA] at har hb3 hst;rw [hS] at hb1 hst;rw [hS];replace har:=aa har;clear hA hS;replace hX:=aa hX;go_wp2_with (first | (go_at_call 355;(with_reducible refine (har.out _).mono ?_);rintro e w8 ⟨rfl,E8⟩;have hX8:=aa ((hX.alloc _).trans E8)) | fail);go_roundw
    case rel=>exact⟨j+1,oM,by rw [<-hst.out],gN,hX8.out⟩
    case measure=>exact mS
  . have hjI:¬ (j:Int)<(n:Int):=oM;rw [cz hl.out oM];go_wp2_with (fail);go_ret;exact⟨rfl,hX⟩
def Sub (H:List Hd) (G:List ac) (HL:List Hd) (GL:List ac):Prop:=HL.length=GL.length/\∀ (k:Nat) (h:Hd) (g:ac),HL[k]?=some h->GL[k]?=some g->∃ i:Nat,H[i]?=some h/\G[i]?=some g
theorem Sub.nil (H:List Hd)(G:List ac):Sub H G [] []:=⟨rfl,λ k h g hk=>by simp at hk⟩
theorem Sub.push {H HL:List Hd}{G GL:List ac}(h:Sub H G HL GL){i:Nat}{x:Hd}{g:ac}(hx:H[i]?=some x)(hg:G[i]?=some g):Sub H G (HL++[x]) (GL++[g]):=by
 refine⟨by simp [h.1],λ k y z h1 h2=>?_⟩;by_cases hk:k<HL.length
 . rw [fm hk] at h1;rw [fm (by rw [<-h.1];exact hk)] at h2;exact h.2 k y z h1 h2
 . rw [jT oM] at h1;rw [jT (by rw [<-h.1];omega)] at h2;have e1:y=x:=by have:=ap h1;simpa using this
   have e2:z=g:=by have:=ap h2;simpa using this
   subst e1 e2;exact⟨i,hx,hg⟩
theorem Sub.toS {H HL:List Hd}{G GL:List ac}(h:Sub H G HL GL){base b2 n2 c2 c:Nat}{q2 q:OA}{W:World}(hS:OwnS b2 W q2 n2 c2 H (dG (G.map ah)))(ht:W.ownsRow base 77 1 (sl q GL.length c) GL.length (HL.flatMap iM)):SlS W q GL.length (GL.map ah):=by
 refine⟨HL,bm rz h.1 ht,by simp,λ k x l hx hl=>?_⟩;rw [cK,ew] at hl;obtain⟨g,hg,rfl⟩:=hl;obtain⟨i,h1,h2⟩:=h.2 k x g hx hg;have hl2:(G.map ah)[i]?=some (ah g):=by rw [cK,h2];rfl
 exact bm cw (hS.hd h1 hl2) (hS.row i x _ h1 (by rw [dG,cK,hl2];rfl))
structure ChI (w w2 wr:World) (H:List Hd) (G:List ac) (q:OA) (c:Nat) (HL:List Hd) (GL:List ac):Prop where
 top:wr.ownsRow w 77 1 (sl q GL.length c) GL.length (HL.flatMap iM)
 sub:Sub H G HL GL
 mt:Mut w2 wr [w.heap.size]
 fr:Fresh w2 w (sl q GL.length c)
 ext:Ext w wr
theorem ChI.later {w w2 wr wx:World}{H HL:List Hd}{G GL:List ac}{q:OA}{c:Nat}(h:ChI w w2 wr H G q c HL GL)(E:Ext wr wx):ChI w w2 wx H G q c HL GL:=⟨aG h.top E,h.sub,h.mt.ext E,h.fr,h.ext.trans E⟩
theorem ChI.push {w w2 wr wA:World}{H HL:List Hd}{G GL:List ac}{q qa:OA}{c ca:Nat}(h:ChI w w2 wr H G q c HL GL){i:Nat}{x:Hd}{g:ac}(hx:H[i]?=some x)(hg:G[i]?=some g){o:Obj}
 (ht:wA.ownsRow w 77 1 (sl qa (GL.length+1) ca) (GL.length+1) (HL.flatMap iM++[.slice x.1 x.2.1 x.2.2])) (hgr:(wr.alloc o).grownBy wA (Value.slice q GL.length c).ownBlock)
 (hb:(Value.slice qa (GL.length+1) ca).ownBlock=(Value.slice q GL.length c).ownBlock\/(Value.slice qa (GL.length+1) ca).ownBlock=some (wr.alloc o).heap.size):ChI w w2 wA H G qa ca (HL++[x]) (GL++[g]):=by
 have h5:=h.later ((ab wr).alloc o);have hlen:(GL++[g]).length=GL.length+1:=by simp
 refine⟨by rw [hlen,dj];simpa [iM,ci] using ht,h.sub.push hx hg,h5.mt.append h.fr hgr,?_,h5.ext.grown hgr (λ k hk=>(h.top.lt k hk).1)⟩;rw [hlen];exact h5.fr.append h5.mt hb
theorem Hf {P:ac->Bool}{G:List ac}{k:Nat}{g:ac}(h:G[k]?=some g)(hp:P g=true):(G.take (k+1)).filter P=(G.take k).filter P++[g]:=by rw [ch h,i8];simp [hp]
theorem Hg {P:ac->Bool}{G:List ac}{k:Nat}{g:ac}(h:G[k]?=some g)(hp:P g=false):(G.take (k+1)).filter P=(G.take k).filter P:=by rw [ch h,i8];simp [hp]
theorem P5 (P:ac->Bool)(g:Nat)(lb:Array Value)(eg:∀ args w,(callFunc g args).run prog w=.ok (.enter g args) w)(q:OA)(n c:Nat)(l:List Q4)(w:World)(h:SlT aj 4 w q n l)(hn:n<=1048576)(hv:∀ r∈l,vR r=true)
 (hG:∀ (W:World) (q1:OA) (n1 c1:Nat) (cg:ac),Ext w W->SlT aj 4 W q1 n1 (ah cg)->n1<=3200->Calls prog g (#[.slice q1 n1 c1]++lb) W λ e w2=>e=.returned (.bool (P cg))/\Ext W w2) :
 Calls prog 377 #[sl q n c,.func (.func g) #[] lb] w (bH (ah (jN ((bk (gL l)).filter P))) w):=by
 obtain⟨i0,hi,hz0,hz1,hz2⟩:=aM rO;have hg6:=(jI (gL l)).2.2.2;replace hG:=aa hG;have hco:=aa (λ V (hV:Ext w V)=>yB q n c l V (h.ext hV) hn hv);clear hv;go_enter func377,ntmps377;go_upto_region 2 with (fail);have ho0:(w.alloc (.cells #[] 77)).ownsRow w 77 1 (sm w 0 0 0) 0 []:=sU
 generalize hW:w.alloc _=W0 at ho0 ⊢;have E0:Ext w W0:=by rw [<-hW];exact (ab _).alloc _
 clear hW;obtain⟨G,hGe⟩:∃ G,bk (gL l)=G:=⟨_,rfl⟩;rw [hGe] at hco hg6;go_wp2_with (first | (go_at_call 193;(with_reducible refine (hco.out _ E0).mono ?_);rintro e w2 ⟨q2,c2,H,rfl,o2,E2⟩;have o2h:=aa o2) | fail);have hC0:Hid (ChI w w2 w2 H G (so w 0) 0 [] []):=aa ⟨aG ho0 E2,Sub.nil _ _,fw _ _,λ k hk=>by simp [Value.ownBlock] at hk;omega,E0.trans E2⟩;have hwl:w.heap.size<W0.heap.size:=(cM ho0).2;replace hGe:=aa hGe;clear o2 E2 E0 ho0 hco;go_loopw [5,12] (λ vo iv wr=>∃ (j:Nat) (HL:List Hd) (GL:List ac) (qo:OA) (co:Nat),j<=G.length/\iv=.int .i64 j/\vo=sl qo GL.length co/\Hid (GL=(G.take j).filter P)/\Hid (ChI w w2 wr H G qo co HL GL)) (λ _ i _=>G.length - (intOf i).toNat)
 case atStart=>exact⟨0,[],[],_,_,oM,rfl,rfl,aa (by simp),hC0⟩
 case round =>
  clear hC0;obtain⟨j,HL,GL,qo,co,hj,rfl,rfl,hGL,hC⟩:=hrel;have hlG:GL.length<=j:=by rw [hGL.out];have h1:=jU P (G.take j);have h2:(G.take j).length<=j:=md _ _;omega
  have o3:=o2h.mut hC.mt (by intro b hb;have:=(o2h.geTop b hb).1;simp;omega) (by intro b hb;have:=(o2h.geRow b hb).1;simp;omega);by_cases hlt:j<G.length
  . have hltI:(j:Int)<(G.length:Int):=oM;obtain⟨cg,hcg⟩:∃ cg,Hid (G[j]?=some cg):=⟨_,aa (bK hlt)⟩;obtain⟨x,v,hx,hv⟩:=o3.at hlt;have hl2:(G.map ah)[j]?=some (ah cg):=by rw [cK,hcg.out];rfl
    have s1:=bm cw (o3.hd hx hl2) (o3.row j x _ hx (by rw [dG,cK,hl2];rfl));have hs:=bm (l:=H) rz o3.len o3.top;obtain⟨b,off,x',rfl,hbs,hx',z⟩:=hs.get hlt;obtain rfl:x=x':=by have:=hx'.out;rw [hx] at this;exact cJ this
    have z0:=z 0 _ rfl;obtain⟨p1,m1,d1⟩:=x;have hm3:m1<=3200:=by have:=s1.length;have:=fC cg;simp only at *;omega
    simp only [ci,aZ,aq] at z0 s1;have s1:=aa s1;have hxh:=aa hx;clear z hs hx' hx hv hl2 o3;have hcl:=aa (hG.out wr p1 m1 d1 cg hC.ext s1.out hm3)
    cases hp:P cg with
    | true =>
      have hf:=aa (Hf hcg.out hp);rw [hp] at hcl;clear hp;go_wp2_with (fail);refine hcl.mono ?_;rintro e w5 ⟨rfl,E5⟩;have hC5:=aa (hC.later E5);have hsz5:=aa hC5.ext.le;go_wp2_with (first | (at_builtin;refine cZ _ rfl _ _ 101 rfl w 77 i0 (.slice none 0 0) 1 24 underlying101 hi hz0 hz1 hz2 rfl oM _ _ _ rfl (cv hC5.top _) ⟨_,0,none⟩ 1 1 [sl p1 m1 d1] rfl rfl (nq _ _ _) (by intro u9 h9;simp at h9;subst h9;rfl) (cx oM oM) oM (by have:=hsz5.out;simp;omega) ?_;intro v' w9 ho' hg' _ hb';obtain⟨qa,ca,rfl⟩:=cq ho';have hP:=aa (hC5.push (x:=(p1,m1,d1)) hxh.out hcg.out ho' hg' hb');clear ho' hg' hb') | fail);have hlen2:Hid ((GL++[cg]).length=GL.length+1):=aa (by simp);go_roundw
      case rel=>exact⟨j+1,HL++[(p1,m1,d1)],GL++[cg],qa,ca,oM,gN,by rw [hlen2.out],aa (by rw [hf.out,hGL.out]),hP⟩
      case measure=>exact mS
    | false =>
      have hf:=aa (Hg hcg.out hp);rw [hp] at hcl;clear hp;go_wp2_with (fail);refine hcl.mono ?_;rintro e w5 ⟨rfl,E5⟩;have hC5:=aa (hC.later E5);clear z0 hbs;go_wp2_with (fail);go_roundw
      case rel=>exact⟨j+1,HL,GL,qo,co,oM,gN,rfl,aa (by rw [hf.out,hGL.out]),hC5⟩
      case measure=>exact mS
  . have hltI:¬ (j:Int)<(G.length:Int):=oM;have sL:=aa (hC.sub.toS o3 hC.top);have hu:=aa (G8 qo GL.length co (GL.map ah) wr sL.out oM (λ l hl=>by obtain⟨g9,_,rfl⟩:=aL52.1 hl;exact⟨aS (fC g9) oM,λ r hr=>iO ((iR (ik g9)) r hr)⟩));rw [GY] at hu;clear o3 sL;go_wp2_with (first | (go_at_call 348;(with_reducible refine (hu.out).mono ?_);rintro e w7 ⟨q7,c7,rfl,o7,E7⟩;replace o7:=aa o7;replace E7:=aa E7) | fail);go_ret;rw [hGe.out,<-show GL=G.filter P from by rw [hGL.out,eE oM]];exact⟨q7,c7,rfl,fi o7.out hC.ext.le,hC.ext.trans E7.out⟩
theorem P6 (k:Int)(B:Nat)(q:OA)(n c:Nat)(cg:ac)(w:World)(h:SlT aj 4 w q n (ah cg))(hn:n<=3200)(hB:B<w.heap.size)(hc:w.cell? (ad B 0)=si k) :
 CE 378 #[sl q n c,.pointer (so B 0)] w (.bool (decide (dJ cg 6400<k))):=by
 have hra:=aa (λ V (hV:Ext w V)=>P4 q n c (ah cg) V (h.ext hV) oM (iR (ik cg)));rw [PB] at hra;obtain⟨A,hA⟩:∃ A,dJ cg 6400=A:=⟨_,rfl⟩;rw [hA] at hra ⊢;clear hA;go_enter func378,ntmps378;go_upto_region 1 with (fail);refine aQ kR kR ?_;repeat (go_big_quiet_step ((go_at_call 379;exact bh (hra.out _ (Later.ok _)))))
 refine bW ?_;rintro w1 ⟨⟨_,E1⟩,rfl⟩;go_wp2_with (fail);go_ret;exact⟨rfl,E1⟩
theorem P7 (q:OA)(n c:Nat)(l:List Q4)(k:Int)(w:World)(h:SlT aj 4 w q n l)(hn:n<=1048576)(hr:aH l=true) :
 Calls prog 352 #[sl q n c,k] w (bH (ah (qj l k)) w):=by
 have hv:=(eU (isReg_iff.1 hr).1).2;have k1:=λ V (hV:Ext w V)=>lH q n c l V (h.ext hV) hn
 rw [hr] at k1;replace k1:=aa k1;have hch:=aa (λ(B:Nat) (V:World) (hV:Ext w V) (hB:B<V.heap.size) (hc:V.cell? (ad B 0)=si k)=>P5 (λ cg=>decide (dJ cg 6400<k)) 378 #[.pointer (so B 0)] (fb func378 kR rfl) q n c l V (h.ext hV) hn hv (λ W q1 n1 c1 cg hE hs h3=>P6 k B q1 n1 c1 cg W hs h3 (aF hB hE.le) ((hE.cells _ _ hB).trans hc)));clear hr hv;go_enter func352,ntmps352;go_upto_region 1 with (fail);generalize hW:World.alloc _ _=W0;obtain⟨E0,z0,b0⟩:=al hW;clear hW z0;replace b0:=aa (show Blk W0 w [k] _ from b0);go_wp2_with (first | (go_at_call 192;(with_reducible refine (k1.out _ E0).mono ?_);rintro e w2 ⟨rfl,E2⟩;replace E2:=aa E2) | (go_at_call 377;(refine (hch.out w _ (E0.trans E2.out) (aF b0.lt E2.le) ((b0.ext E2.out).cells 0)).mono ?_);rintro e w3 ⟨q3,c3,rfl,o3,E3⟩;replace o3:=aa o3;replace E3:=aa E3) | fail);go_ret;exact⟨q3,c3,rfl,fi o3.out (E0.trans E2.out).le,(E0.trans E2.out).trans E3.out⟩
theorem P8 (q:OA)(n c:Nat)(l:List Q4)(k:Int)(w:World)(h:SlT aj 4 w q n l)(hn:n<=1048576)(hr:aH l=true)(hk:ae k 1 6400=true) :
 Calls prog 290 #[sl q n c,k] w (bH (mO l k) w):=by
 have hm:Hid (mO l k=ah (qj l k)):=by show _=_;rw [mO,aw (by rw [hr,hk];rfl)]
 have k1:=λ V=>dd k 1 6400 V
 rw [hk] at k1;replace k1:=aa k1;have k2:=aa (P7 q n c l k w h hn hr);clear hr hk;go_enter func290,ntmps290;go_wp2_with (first | (go_at_call 117;(with_reducible refine (k1.out _).mono ?_);rintro e w2 ⟨rfl,rfl⟩) | (go_at_call 352;(with_reducible refine (k2.out).mono ?_);rintro e w3 ⟨q3,c3,rfl,o3,E3⟩;replace o3:=aa o3;replace E3:=aa E3) | fail);go_ret;rw [hm.out];exact⟨q3,c3,rfl,o3.out,E3.out⟩
theorem P9 (x y:Bool)(w:World):CW 380 #[.bool x,.bool y] w (.bool (x&&!y)):=by
 cases x <;> cases y
 all_goals
  go_enter func380,ntmps380;go_wp2_with fail;exact kA
theorem Hh (q1 q2:OA)(n1 n2 c1 c2:Nat)(l1 l2:List Q4)(w:World)(h1:SlT aj 4 w q1 n1 l1)(h2:SlT aj 4 w q2 n2 l2)(hn1:n1<=1048576)(hn2:n2<=1048576)(r1:aH l1=true)(r2:aH l2=true) :
 Calls prog 356 #[sl q1 n1 c1,sl q2 n2 c2] w (bH (ah (fq (λ p q=>p&&!q) (gL l1) (gL l2))) w):=by
 have hc:=aa (GO (λ p q=>p&&!q) 380 (fb func380 kR rfl) (λ W x y=>P9 x y W) q1 q2 n1 n2 c1 c2 l1 l2 w h1 h2 hn1 hn2 r1 r2);clear r1 r2;go_enter func356,ntmps356;go_wp2_with (first | (go_at_call 374;(with_reducible refine (hc.out).mono ?_);rintro e w5 ⟨q5,c5,rfl,o5,E5⟩;have hO:=aa o5;clear o5) | fail);go_ret;exact⟨q5,c5,rfl,hO.out,E5⟩
theorem Qa (q1 q2:OA)(n1 n2 c1 c2:Nat)(l1 l2:List Q4)(k:Int)(w:World)(h1:SlT aj 4 w q1 n1 l1)(h2:SlT aj 4 w q2 n2 l2)(hn1:n1<=1048576)(hn2:n2<=1048576)(r1:aH l1=true)(r2:aH l2=true)(hk:0<=k/\k<=100) :
 Calls prog 351 #[sl q1 n1 c1,sl q2 n2 c2,k] w (bH (ah (nB l1 l2 k)) w):=by
 have hv:=(eU (isReg_iff.1 r1).1).2;have hg:=aa (Pg q1 n1 c1 l1 k w h1 hn1 hv hk);have he:=aa (PJ (l1:=l1) (l2:=l2) hv hk.1);have hl:=aa (fC (gL (l1.map (jq k))));have hd:=aa (λ(q:OA) (c:Nat) (W:World) (hE:Ext w W) (hs:SlT aj 4 W q (oO l1 k).length (oO l1 k))=>Hh q q2 _ n2 c c2 (oO l1 k) l2 W hs (h2.ext hE) (aS hl.out oM) hn2 (ov _) r2);rw [he.out] at hd;clear hv r1 r2;go_enter func351,ntmps351;go_wp2_with (first | (go_at_call 376;(with_reducible refine (hg.out).mono ?_);rintro e w2 ⟨q2',c2',rfl,o2,E2⟩;have s2:=aa (bm (l:=oO l1 k) cw rfl o2);replace E2:=aa E2;clear o2) | (go_at_call 356;(with_reducible refine (hd.out q2' c2' _ E2.out s2.out).mono ?_);rintro e w5 ⟨q5,c5,rfl,o5,E5⟩;have hO:=aa o5;replace E5:=aa E5;clear o5) | fail);go_ret;exact⟨q5,c5,rfl,fi hO.out E2.le,E2.trans E5.out⟩
theorem Qb (q1 q2:OA)(n1 n2 c1 c2:Nat)(l1 l2:List Q4)(k:Int)(w:World)(h1:SlT aj 4 w q1 n1 l1)(h2:SlT aj 4 w q2 n2 l2)(hn1:n1<=1048576)(hn2:n2<=1048576)(r1:aH l1=true)(r2:aH l2=true)(hw:ae k 0 8=true) :
 Calls prog 289 #[sl q1 n1 c1,sl q2 n2 c2,k] w (bH (mN l1 l2 k) w):=by
 have hm:Hid (mN l1 l2 k=ah (nB l1 l2 k)):=by show _=_;rw [mN,aw (by rw [r1,r2,hw];rfl)]
 have k1:=lH q1 n1 c1 l1 w h1 hn1;have k2:=λ V (hV:Ext w V)=>lH q2 n2 c2 l2 V (h2.ext hV) hn2
 have k3:=λ W=>dd k 0 8 W
 have k4:=aa (λ V (hV:Ext w V)=>Qa q1 q2 n1 n2 c1 c2 l1 l2 k V (h1.ext hV) (h2.ext hV) hn1 hn2 r1 r2 (by have:=wit_iff.1 hw;omega));rw [r1] at k1;rw [r2] at k2;rw [hw] at k3;replace k1:=aa k1;replace k2:=aa k2;replace k3:=aa k3;clear r1 r2 hw;go_enter func289,ntmps289;go_wp2_with (first | (go_at_call 192;(with_reducible refine (k1.out).mono ?_);rintro e w2 ⟨rfl,E2⟩;replace E2:=aa E2) | (go_at_call 192;(with_reducible refine (k2.out _ E2.out).mono ?_);rintro e w3 ⟨rfl,E3⟩;replace E3:=aa (E2.trans E3)) | (go_at_call 117;(with_reducible refine (k3.out _).mono ?_);rintro e w4 ⟨rfl,rfl⟩) | (go_at_call 351;(with_reducible refine (k4.out _ E3.out).mono ?_);rintro e w5 ⟨q5,c5,rfl,o5,E5⟩;have hO:=aa o5;replace E5:=aa E5;clear o5) | fail);go_ret;rw [hm.out];exact⟨q5,c5,rfl,fi hO.out E3.le,E3.trans E5.out⟩
theorem Qc {l:List Q4}{W:List Q4}{j:Nat}{r:Q4}{p:Int}(h:W[j]?=some r)(hd:fj (bJ l r) r p=false):ag (aU λ x y=>gh (gL ((W.take j).filter λ r=>!fj (bJ l r) r p)) x y||bj r x y)=ag (gL ((W.take (j+1)).filter λ r=>!fj (bJ l r) r p)):=by rw [rU,ch h,i8];simp [List.filter,hd]
theorem Qd {l:List Q4}{W:List Q4}{j:Nat}{r:Q4}{p:Int}(h:W[j]?=some r)(hd:fj (bJ l r) r p=true):((W.take j).filter λ r=>!fj (bJ l r) r p)=((W.take (j+1)).filter λ r=>!fj (bJ l r) r p):=by rw [ch h,i8];simp [List.filter,hd]
theorem Qe (q:OA)(n c:Nat)(l:List Q4)(s p:Int)(w:World)(h:SlT aj 4 w q n l)(hn:n<=1048576)(hr:aH l=true)(hs:ae s 4 40=true)(hp:ae p 1 100=true) :
 Calls prog 291 #[sl q n c,s,p] w (bH (mP l s p) w):=by
 have hm:Hid (mP l s p=ah (oQ l s p)):=by show _=_;rw [mP,aw (by rw [hr,hs,hp];rfl)]
 have hv:=aa (eU (isReg_iff.1 hr).1).2;have k1:=lH q n c l w h hn;have k2:=λ W=>dd s 4 40 W
 have k3:=λ W=>dd p 1 100 W
 have k4:=aa (λ W=>PE s W hs);have hcb:=aa (λ(r:Q4) (hrv:vR r=true)=>(show 0<=bJ l r/\bJ l r<=6400 from by rw [yn hr r (by have:=vR_iff.1 hrv;omega)];exact yo _ r (by have:=vR_iff.1 hrv;omega)));have hwin:=aa (Gu (s:=s) (by have:=wit_iff.1 hs;omega));have hwl:=uJ (s:=s) (by have:=wit_iff.1 hs;omega);have hdf:=aa (λ(q1:OA) (n1 c1:Nat) (l1:List Q4) (W:World) (h1:SlT aj 4 W q1 n1 l1) (hE:Ext w W) (hn1:n1<=1048576) (r1:aH l1=true)=>Hh q1 q n1 n c1 c l1 l W h1 (h.ext hE) hn1 hn r1 hr);rw [hr] at k1;rw [hs] at k2;rw [hp] at k3;obtain⟨p0,p1⟩:=wit_iff.1 hp;replace k1:=aa k1;replace k2:=aa k2;replace k3:=aa k3;have hme:=aa (PK l s p);obtain⟨WL,hWL⟩:∃ WL,gp s=WL:=⟨_,rfl⟩;rw [hWL] at k4 hwin hwl;have hmw:Hid (lQ l s p=WL.filter λ r=>!fj (bJ l r) r p):=aa (by rw [lQ,hWL]);clear hr hs hp hWL;go_enter func291,ntmps291;go_upto_region 4 with (first | (go_at_call 192;(with_reducible refine k1.out.mono ?_);rintro e w2 ⟨rfl,E2⟩;replace E2:=aa E2) | (go_at_call 117;(with_reducible refine (k2.out _).mono ?_);rintro e w3 ⟨rfl,rfl⟩) | (go_at_call 117;(with_reducible refine (k3.out _).mono ?_);rintro e w3 ⟨rfl,rfl⟩) | fail);generalize hW1:World.alloc _ _=W1;obtain⟨E1,z1,b1⟩:=al hW1;clear hW1;have hb1:Hid (Blk W1 w2 (ag (gL ((WL.take 0).filter λ r=>!fj (bJ l r) r p))) 269):=by have:=jC;rw [lG] at b1;show W1.heap[w2.heap.size]?=_;rw [b1];simp only [List.take_zero,List.filter_nil,gL,<-jC]
 have hX1:=aa (E2.trans E1);clear b1 E1;go_wp2_with (first | (go_at_call 353;(with_reducible refine (k4.out _).mono ?_);rintro e w4 ⟨q4,c4,rfl,o4,E4⟩;have s4:=aa (bm (l:=WL) cw rfl o4);replace hb1:=aa (hb1.ext E4);replace hX1:=aa (hX1.trans E4);have hne4:=aa (λ(a:Addr) (ha:q4=some a)=>(show a.block≠w2.heap.size from λ h9=>by have h1:=(dE o4 a.block (mem_blkOf.2 ⟨a,ha,rfl⟩)).1;rw [z1] at h1;omega));clear o4) | fail);go_loopw [28] (λ i wx=>∃ j:Nat,j<=WL.length/\i=.int .i64 j/\Hid (Ext w wx)/\Hid (Blk wx w2 (ag (gL ((WL.take j).filter λ r=>!fj (bJ l r) r p))) 269)/\Hid (SlT aj 4 wx q4 WL.length WL/\∀ a,q4=some a->a.block≠w2.heap.size)) (λ i _=>WL.length - (intOf i).toNat)
 case atStart=>exact⟨0,oM,rfl,hX1,hb1,aa ⟨s4.out,hne4.out⟩⟩
 case round =>
  clear hX1 hb1 s4 hne4;obtain⟨j,hj,rfl,hX,hb,hS⟩:=hrel;have hBl:=hb.lt;by_cases hjt:j<WL.length
  . have hjI:(j:Int)<(WL.length:Int):=oM;obtain⟨b,off,r,rfl,hbn,hs,c0,c1,c2,c3⟩:=hS.1.four hjt;have hrv:=hwin.out r (ap hs.out);have hnr:=aa (iO hrv);obtain⟨cv0,cv1⟩:=hcb.out r hrv;obtain⟨a0,a1⟩:=uL hrv;have hco:=λ W (hE:Ext w W)=>O1 q n c l r W (h.ext hE) hn hv.out hrv
    have har:=λ W=>uK r W hrv
    have hin:=Qc (l:=l) (p:=p) hs.out;have hout:=Qd (l:=l) (p:=p) hs.out;have hdb:fj (bJ l r) r p=decide (p*gA r<=100*bJ l r):=rfl;obtain⟨C,hC⟩:∃ C,bJ l r=C:=⟨_,rfl⟩;obtain⟨A,hA⟩:∃ A,gA r=A:=⟨_,rfl⟩;rw [hC,hA] at hdb;rw [hC] at hco cv0 cv1 hin hout;rw [hA] at har a0 a1;have hpa:0<=p*A/\p*A<=640000:=⟨Int.mul_nonneg oM a0,by have:=Int.mul_le_mul p1 a1 a0 oM;omega⟩;have hw9:IntKind.i64.wrap (p*A)=p*A:=jS _ oM;replace hco:=aa hco;replace har:=aa har;replace hrv:=aa hrv;clear hC hA;go_upto_region 7 with (fail);generalize hW8:World.alloc _ _=W8;obtain⟨E8,z8,b8⟩:=al hW8;clear hW8 z8;replace b8:=aa (show Blk W8 wr [r.a,r.b,r.c,r.d] _ from b8);have⟨g8,l8⟩:=b8.gl;have hb8:=aa (hb.ext E8);have hX8:=aa (hX.trans E8);have hS8:=aa (hS.1.ext E8);have hlt8:=aF hbn E8.le;have hne8:=aa hS.2;clear c0 c1 c2 c3 hbn hb hX hS hBl E8;by_cases hd:C*100<p*A
    . have hin2:=aa (hin (by rw [hdb];simp;omega));clear hin hout hdb;refine aQ kR kR ?_;repeat (go_big_quiet_step (first | (go_at_call 354;exact bh (hco.out _ (hX8.trans (Later.ok _)))) | (go_at_call 355;exact bh (har.out _)) | fail))
      refine bW ?_;rintro w9 ⟨⟨_,E9⟩,rfl⟩;have hb9:=aa (hb8.ext E9);have b9:=aa (b8.ext E9);have hS9:=aa (hS8.ext E9);have hX9:=aa (hX8.trans E9);have⟨g9,l9⟩:=b9.gl;have hneb:=aa (hne8.out _ rfl);clear g8 l8 E9 hlt8;go_wp2_with (first | (go_at_call 188;(with_reducible refine (nr w2 _ r _ hb9.out hnr.out).mono ?_);rintro e w10 ⟨rfl,hb2,hM⟩) | fail);have hb3:Hid (Blk w10 w2 (ag (gL ((WL.take (j+1)).filter λ r=>!fj (bJ l r) r p))) 269):=aa (by rw [<-hin2.out];exact hb2);have hX10:=aa (hX9.then hM (by intro k hk;simp at hk;rw [hk];exact E2.le));have hS10:=aa (hS9.mut hM (by intro a ha;cases ha;simpa using hneb.out));clear hM hb2;go_wp2_with (fail);go_roundw
      case rel=>exact⟨j+1,oM,gN,hX10,hb3,aa ⟨hS10.out,hne8.out⟩⟩
      case measure=>exact mS
    . have hout2:=aa (hout (by rw [hdb];simp;omega));clear hin hout hdb;refine aQ kR kR ?_;repeat (go_big_quiet_step (first | (go_at_call 354;exact bh (hco.out _ (hX8.trans (Later.ok _)))) | (go_at_call 355;exact bh (har.out _)) | fail))
      refine bW ?_;rintro w9 ⟨⟨_,E9⟩,rfl⟩;have hb9:=aa (hb8.ext E9);have hS9:=aa (hS8.ext E9);have hX9:=aa (hX8.trans E9);rw [hout2.out] at hb9;clear g8 l8 E9 hlt8;go_wp2_with (fail);go_roundw
      case rel=>exact⟨j+1,oM,gN,hX9,hb9,aa ⟨hS9.out,hne8.out⟩⟩
      case measure=>exact mS
  . have hjI:¬ (j:Int)<(WL.length:Int):=oM;rw [eE (show WL.length<=j by omega),<-hmw.out] at hb;have hl:=fC (gL (lQ l s p));go_wp2_with (first | (go_at_call 189;(with_reducible refine (mD w2 _ _ hb.out).mono ?_);rintro e w5 ⟨q5,c5,rfl,o5,E5⟩;have s5:=aa (bm (l:=ah (gL (lQ l s p))) cw rfl o5);replace E5:=aa (hX.trans E5);clear o5) | (go_at_call 356;(with_reducible refine (hdf.out q5 _ c5 _ _ s5.out E5.out oM (ov _)).mono ?_);rintro e w6 ⟨q6,c6,rfl,o6,E6⟩;replace o6:=aa o6;replace E6:=aa E6) | fail);go_ret;rw [hm.out,<-hme.out];exact⟨q6,c6,rfl,fi o6.out E5.le,E5.trans E6.out⟩
theorem Hi {x y:Nat}(h:x<80):bF (y*80+x)=(x:Int) - 40:=by unfold bF;omega
theorem Hj {x y:Nat}(h:x<80):bG (y*80+x)=(y:Int) - 40:=by unfold bG;omega
theorem qm {i:Nat}(_:i<6400) : -40<=bF i:=by unfold bF;omega
theorem qp {i:Nat}(_:i<6400) : -40<=bG i:=by unfold bG;omega
theorem Qf {i:Nat}(_:i<6400):bF i<=39:=by unfold bF;omega
theorem Qg {i:Nat}(_:i<6400):bG i<=39:=by unfold bG;omega
theorem Hk {i:Nat}{u v:Int}(hoc:ax u v=true)(h1:bF i=u)(h2:bG i=v):i=av u v:=by have h3:=onC_iff.1 hoc;unfold bF at h1;unfold bG at h2;unfold av;omega
theorem Hl {g:ac}{rel:Nat->Nat->Bool}{cut:Nat->Int}{m:Nat}{t t':Int}(h:∀ i,i<6400->rel m i=true->t<=cut i)(h':∀ i,i<6400->rel m i=true->t'<=cut i):ag (cH g rel cut m t)=ag (cH g rel cut m t'):=df λ i hi=>by
 rw [cH,cH]
 congr 1
 cases hr:rel m i
 . simp
 . have h1:=h i hi hr;have h2:=h' i hi hr;have h3:decide (cut i<t)=false:=by simp;omega
   have h4:decide (cut i<t')=false:=by simp;omega
   rw [h3,h4]
theorem yC (x y:Nat)(w:World)(hx:x<80)(hy:y<80) :
 CW 363 #[((x:Int) - 40:Int),((y:Int) - 40:Int)] w ((y*80+x:Nat):Int):=by
 exact AG
structure GwW (w:World) (R O:Nat) (cR cO:ac) (wr:World):Prop where
 rb:Blk wr R (ag cR) 4
 ob:Blk wr O (ag cO) 4
 ext:Ext w wr
theorem GwW.left {w:World}{R O:Nat}{cR cO c:ac}{wr:World}(h:GwW w R O cR cO wr)(e:ag cR=ag c):GwW w R O c cO wr:=⟨e▸h.rb,h.ob,h.ext⟩
theorem GwW.right {w:World}{R O:Nat}{cR cO c:ac}{wr:World}(h:GwW w R O cR cO wr)(e:ag cO=ag c):GwW w R O cR c wr:=⟨h.rb,e▸h.ob,h.ext⟩
theorem GwW.setL {w:World}{R O:Nat}{cR cO c:ac}{wr:World}(h:GwW w R O cR cO wr)(hR:w.heap.size<=R)(hRO:O≠R)(j:Nat)(e:(ag cR).set j (.bool true)=ag c):GwW w R O c cO (wr.setCell (ad R j) (.bool true)) :=
 ⟨by have:=h.rb.set j (.bool true);rw [e] at this;exact this,h.ob.other j _ hRO,h.ext.setCell (p:=(ad R j)) hR _⟩
theorem GwW.setR {w:World}{R O:Nat}{cR cO c:ac}{wr:World}(h:GwW w R O cR cO wr)(hO:w.heap.size<=O)(hRO:R≠O)(j:Nat)(e:(ag cO).set j (.bool true)=ag c):GwW w R O cR c (wr.setCell (ad O j) (.bool true)) :=
 ⟨h.rb.other j _ hRO,by have:=h.ob.set j (.bool true);rw [e] at this;exact this,h.ext.setCell (p:=(ad O j)) hO _⟩
theorem Qh (B cb:Nat)(g:ac)(k:Int)(w:World)(hb:Bits w B g)(hk0:0<=k)(hk8:k<=8) :
 Calls prog 317 #[sm B 0 6400 cb,k] w (mB (oI g k) w):=by
 obtain⟨j0,hj,hy0,hy1,hy2⟩:=aM iP;have hbw:=aa hb;have hBl:=hb.1;clear hb;go_enter func317,ntmps317;go_upto_region 2 with (refine ep _ rfl _ _ 238 rfl w 4 j0 _ 1 underlying238 hj hy0 hy1 .i64 .i64 6400 6400 6400 rfl rfl rfl rfl (by rw [hy2];omega) (by unfold maxLen;omega) (by simp) ?_;intro w1 ho hg);rw [gF _ (.bool false) _ (by simp [Value.cells]) (by intro j hj;simp [Value.cells] at hj ⊢;subst hj;rfl),<-gH] at ho;have hE:Ext w w1:=(ab _).grown hg (λ _ h=>by cases h);have hR:=rT ho;clear hg ho;obtain⟨R,hRe⟩:∃ R,R=w.heap.size:=⟨_,rfl⟩;rw [<-hRe] at hR ⊢;have hRw:w.heap.size<=R:=oM;have hR1:=hR.lt;replace hRe:=aa hRe;replace hR:=aa hR;go_wp2_with (refine ep _ rfl _ _ 238 rfl w1 4 j0 _ 1 underlying238 hj hy0 hy1 .i64 .i64 6400 6400 6400 rfl rfl rfl rfl (by rw [hy2];omega) (by unfold maxLen;omega) (by simp) ?_;intro w2 ho2 hg2);rw [gF _ (.bool false) _ (by simp [Value.cells]) (by intro j hj;simp [Value.cells] at hj ⊢;subst hj;rfl),<-gH] at ho2;have hE2:Ext w1 w2:=(ab _).grown hg2 (λ _ h=>by cases h);have hO:=rT ho2;clear hg2 ho2;obtain⟨O,hOe⟩:∃ O,O=w1.heap.size:=⟨_,rfl⟩;rw [<-hOe] at hO ⊢;have hRO:O≠R:=oM;have hOw:w.heap.size<=O:=oM;have hst:GwW w R O (cH g (iS k) bF 0 (-40)) bo w2:=⟨by rw [<-Ft (λ i hi=>qm hi)];exact hR.ext hE2,hO,hE.trans hE2⟩;replace hst:=aa hst;replace hOe:=aa hOe;clear hE hE2 hO hR;go_loopw [7] (λ iy wr=>∃ y:Nat,y<=80/\iy=.int .i64 ((y:Int) - 40)/\Hid (GwW w R O (cH g (iS k) bF (y*80) (-40)) bo wr)) (λ i _=>(40 - intOf i).toNat)
 case atStart=>exact⟨0,oM,rfl,by rw [ky];exact hst⟩
 case round =>
  clear hst;obtain⟨y,hy,rfl,hw⟩:=hrel;by_cases hlt:y<80
  . have hyI:(y:Int) - 40<40:=oM;go_wp2_with fail;go_loopw [8] (λ ix wr=>∃ x:Nat,x<=80/\ix=.int .i64 ((x:Int) - 40)/\Hid (GwW w R O (cH g (iS k) bF (y*80+x) (-40)) bo wr)) (λ i _=>(40 - intOf i).toNat)
    case atStart=>exact⟨0,oM,rfl,hw⟩
    case round =>
     clear hw;obtain⟨x,hx,rfl,hw⟩:=hrel;by_cases hxl:x<80
     . have hxI:(x:Int) - 40<40:=oM;obtain⟨c0,hc0⟩:∃ c0:Int,c0=(x:Int) - 40:=⟨_,rfl⟩;have hcb : -40<=c0/\c0<=39:=oM;have hxm:=Hi (y:=y) hxl;have hym:=Hj (y:=y) hxl;have hlo:Hid (GwW w R O (cH g (iS k) bF (y*80+x) (c0 - k)) bo wr):=hw.left (Hl (λ i hi _=>qm hi) (λ i hi hr=>by rw [rJ] at hr;omega));rw [hc0] at hlo;clear hw;go_wp2_with fail;go_loopw [9] (λ iu wr=>∃ i:Nat,(i:Int)<=2*k+1/\iu=.int .i64 (-k+(i:Int))/\Hid (GwW w R O (cH g (iS k) bF (y*80+x) ((x:Int) - 40+(-k+(i:Int)))) bo wr)) (λ i _=>(k+1 - intOf i).toNat)
       case atStart=>exact⟨0,oM,by simp,by simpa [Int.sub_eq_add_neg] using hlo⟩
       case round =>
        clear hlo;obtain⟨i,hi,rfl,hw⟩:=hrel;have hs:=hbw.ext hw.ext;have z:=hs.2 (y*80+x) oM;have hsl:=hs.1;clear hs;obtain⟨d,hd⟩:∃ d:Int,d = -k+(i:Int):=⟨_,rfl⟩;have hdb : -20<=d/\d<=20:=oM;have hnext : -k+((i+1:Nat):Int)=d+1:=oM;have hsh:(x:Int) - 40+(d+1)=(x:Int) - 40+d+1:=oM;rw [<-hd] at hw ⊢;by_cases hik:d<=k
        . have hme:(k+1 - (d+1)).toNat<(k+1 - d).toNat:=oM;have hi2:(i:Int)+1<=2*k+1:=oM
          cases hg:g (y*80+x) with
          | false => rw [hg] at z;have hn:Hid (GwW w R O (cH g (iS k) bF (y*80+(x+1)) (-40)) bo wr):=hw.left (ul (λ i _ h=>by rw [hg] at h;cases h) (-40) (λ i hi=>qm hi));exact Cc
          | true =>
            rw [hg] at z;obtain⟨u,hu⟩:∃ u:Int,u=(x:Int) - 40+d:=⟨_,rfl⟩;have hub : -60<=u/\u<=60:=oM;have huk:c0 - k<=u/\u<=c0+k:=oM;rw [<-hu] at hw;have hwi:=λ W=>yr ((x:Int) - 40+d) ((y:Int) - 40) W
            by_cases hon : -40<=u/\u<=39
            . have hoc:ax u ((y:Int) - 40)=true:=by rw [onC_iff];omega
              have hoc2:=hoc;rw [hu] at hoc2;rw [hoc2] at hwi;replace hwi:=aa hwi;have hxa:=nh hoc;have hya:=ni hoc;have hst:=aa (Fv (g:=g) (rel:=iS k) (cut:=bF) (m:=y*80+x) (t:=u) (i0:=av u ((y:Int) - 40)) hg (by rw [rJ];omega) oM (λ i hi hr hc=>by rw [rJ] at hr;exact Hk hoc oM oM));have hat6:=eJ hoc;have zt:=hw.rb.cells (av u ((y:Int) - 40));have ft:=hw.rb.free (av u ((y:Int) - 40));have htl:=hw.rb.lt;have htc:=dv (cH g (iS k) bF (y*80+x) u) hat6;rw [htc] at zt;have hn:Hid (GwW w R O (cH g (iS k) bF (y*80+x) (u+1)) bo (wr.setCell (ad R (av u ((y:Int) - 40))) (.bool true)) ):=hw.setL hRw hRO (av u ((y:Int) - 40)) hst.out;exact zk
            . have hoff:ax ((x:Int) - 40+d) ((y:Int) - 40)=false:=by rw [qI];intro h9;rw [onC_iff] at h9;omega
              rw [hoff] at hwi;replace hwi:=aa hwi;have hn:Hid (GwW w R O (cH g (iS k) bF (y*80+x) (u+1)) bo wr):=hw.left (Fu (λ i hi h=>hon (by rw [<-h.2.2];exact⟨qm hi,Qf hi⟩)));exact zu
        . have hn:Hid (GwW w R O (cH g (iS k) bF (y*80+(x+1)) (-40)) bo wr):=hw.left (ul (λ i9 _ _ hr=>by rw [rJ] at hr;omega) (-40) (λ i hi=>qm hi));exact Ct
     . exact zX
  . have hyI:¬ (y:Int) - 40<40:=oM;have h80:y*80=6400:=oM;rw [h80] at hw;clear h80;obtain⟨G1,hG1⟩:∃ G1,G1=oH g (iS k):=⟨_,rfl⟩;have hst2:Hid (GwW w R O G1 (cH G1 (jl k) bG 0 (-40)) wr):=(hw.left (by rw [hG1];exact Fw (λ i hi=>qm hi))).right (Ft (λ i hi=>qp hi));replace hG1:=aa hG1;clear hw;go_wp2_with fail;go_loopw [10] (λ iy wr=>∃ y:Nat,y<=80/\iy=.int .i64 ((y:Int) - 40)/\Hid (GwW w R O G1 (cH G1 (jl k) bG (y*80) (-40)) wr)) (λ i _=>(40 - intOf i).toNat)
    case atStart=>exact⟨0,oM,rfl,by rw [ky];exact hst2⟩
    case round =>
     clear hst2;obtain⟨y,hy,rfl,hw⟩:=hrel;by_cases hlt:y<80
     . have hyI:(y:Int) - 40<40:=oM;go_wp2_with fail;go_loopw [11] (λ ix wr=>∃ x:Nat,x<=80/\ix=.int .i64 ((x:Int) - 40)/\Hid (GwW w R O G1 (cH G1 (jl k) bG (y*80+x) (-40)) wr)) (λ i _=>(40 - intOf i).toNat)
       case atStart=>exact⟨0,oM,rfl,hw⟩
       case round =>
        clear hw;obtain⟨x,hx,rfl,hw⟩:=hrel;by_cases hxl:x<80
        . have hxI:(x:Int) - 40<40:=oM;obtain⟨c0,hc0⟩:∃ c0:Int,c0=(y:Int) - 40:=⟨_,rfl⟩;have hcb : -40<=c0/\c0<=39:=oM;have hxm:=Hi (y:=y) hxl;have hym:=Hj (y:=y) hxl;have hlo:Hid (GwW w R O G1 (cH G1 (jl k) bG (y*80+x) (c0 - k)) wr):=hw.right (Hl (λ i hi _=>qp hi) (λ i hi hr=>by rw [rK] at hr;omega));rw [hc0] at hlo;clear hw;go_wp2_with fail;go_loopw [12] (λ iu wr=>∃ i:Nat,(i:Int)<=2*k+1/\iu=.int .i64 (-k+(i:Int))/\Hid (GwW w R O G1 (cH G1 (jl k) bG (y*80+x) ((y:Int) - 40+(-k+(i:Int)))) wr)) (λ i _=>(k+1 - intOf i).toNat)
          case atStart=>exact⟨0,oM,by simp,by simpa [Int.sub_eq_add_neg] using hlo⟩
          case round =>
           clear hlo;obtain⟨i,hi,rfl,hw⟩:=hrel;have hs:=Bits.ofBlk hw.rb;have z:=hs.2 (y*80+x) oM;have hsl:=hs.1;clear hs;obtain⟨d,hd⟩:∃ d:Int,d = -k+(i:Int):=⟨_,rfl⟩;have hdb : -20<=d/\d<=20:=oM;have hnext : -k+((i+1:Nat):Int)=d+1:=oM;have hsh:(y:Int) - 40+(d+1)=(y:Int) - 40+d+1:=oM;rw [<-hd] at hw ⊢;by_cases hik:d<=k
           . have hme:(k+1 - (d+1)).toNat<(k+1 - d).toNat:=oM;have hi2:(i:Int)+1<=2*k+1:=oM
             cases hg:G1 (y*80+x) with
             | false => rw [hg] at z;have hn:Hid (GwW w R O G1 (cH G1 (jl k) bG (y*80+(x+1)) (-40)) wr):=hw.right (ul (λ i _ h=>by rw [hg] at h;cases h) (-40) (λ i hi=>qp hi));exact Cc
             | true =>
               rw [hg] at z;obtain⟨u,hu⟩:∃ u:Int,u=(y:Int) - 40+d:=⟨_,rfl⟩;have hub : -60<=u/\u<=60:=oM;have huk:c0 - k<=u/\u<=c0+k:=oM;rw [<-hu] at hw;have hwi:=λ W=>yr ((x:Int) - 40) ((y:Int) - 40+d) W
               by_cases hon : -40<=u/\u<=39
               . have hoc:ax ((x:Int) - 40) u=true:=by rw [onC_iff];omega
                 have hoc2:=hoc;rw [hu] at hoc2;rw [hoc2] at hwi;replace hwi:=aa hwi;have hxa:=nh hoc;have hya:=ni hoc;have hst:=aa (Fv (g:=G1) (rel:=jl k) (cut:=bG) (m:=y*80+x) (t:=u) (i0:=av ((x:Int) - 40) u) hg (by rw [rK];omega) oM (λ i hi hr hc=>by rw [rK] at hr;exact Hk hoc oM oM));have hat6:=eJ hoc;have zt:=hw.ob.cells (av ((x:Int) - 40) u);have ft:=hw.ob.free (av ((x:Int) - 40) u);have htl:=hw.ob.lt;have htc:=dv (cH G1 (jl k) bG (y*80+x) u) hat6;rw [htc] at zt;have hn:Hid (GwW w R O G1 (cH G1 (jl k) bG (y*80+x) (u+1)) (wr.setCell (ad O (av ((x:Int) - 40) u)) (.bool true)) ):=hw.setR hOw hRO.symm (av ((x:Int) - 40) u) hst.out;exact zk
               . have hoff:ax ((x:Int) - 40) ((y:Int) - 40+d)=false:=by rw [qI];intro h9;rw [onC_iff] at h9;omega
                 rw [hoff] at hwi;replace hwi:=aa hwi;have hn:Hid (GwW w R O G1 (cH G1 (jl k) bG (y*80+x) (u+1)) wr):=hw.right (Fu (λ i hi h=>hon (by rw [<-h.2.2];exact⟨qp hi,Qg hi⟩)));exact zu
           . have hn:Hid (GwW w R O G1 (cH G1 (jl k) bG (y*80+(x+1)) (-40)) wr):=hw.right (ul (λ i9 _ _ hr=>by rw [rK] at hr;omega) (-40) (λ i hi=>qp hi));exact Ct
        . exact zX
     . have hyI:¬ (y:Int) - 40<40:=oM;have h80:y*80=6400:=oM;rw [h80] at hw;clear h80;have hfin:=(hw.right (Fw (λ i hi=>qp hi)));rw [hG1.out] at hfin;have hfin:=aa hfin;go_wp2_with fail;go_ret;exact⟨O,rfl,rL (n:=6400) (size:=1) hfin.ob hOw (by rw [j8]) (by simp [maxLen]),hfin.ext⟩
end Go.Proofs.YtnlajnpcdnnpmaaGreat
