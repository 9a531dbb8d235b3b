/- Part of a proof. No condition. -/
import Derived.Test.YtnlajnpcdnnpmaaGreatA22
namespace Go.Proofs.YtnlajnpcdnnpmaaGreat
set_option linter.all false
set_option maxRecDepth 100000
set_option maxHeartbeats 16000000
open Go.Proofs.Tryz Go.RowKit Go.PlainAid
theorem FN {i:InD}{r c:Nat}(hr:r<i.d.toNat)(hc:c<i.c.toNat):(gi i)[r*i.c.toNat+c]?=some (bQ i r c):=by have hd:=qK r (List.range i.d.toNat);rw [o0 (by simpa using hr),List.getElem_range,List.take_range,qL oM] at hd;unfold gi;rw [<-hd,dj,jT (by rw [xP];omega),xP,fX,fm (by rw [wI];omega),gK,cK,nK oM];rw [show r*i.c.toNat+c - r*i.c.toNat=c by omega];rfl
theorem Nf {ins:List InD}{k r c:Nat}{i:InD}(hk:ins[k]?=some i)(hr:r<i.d.toNat)(hc:c<i.c.toNat):(aK ins)[(aK (ins.take k)).length+(r*i.c.toNat+c)]?=some (bQ i r c):=by
 have hd:=qK (k+1) ins
 have h0:aK ins=aK (ins.take k)++(gi i++aK (ins.drop (k+1))):=by
  conv=>lhs;rw [<-hd]
  rw [<-fc,<-un hk];unfold aK;rw [dj]
 have hlt:r*i.c.toNat+c<(gi i).length:=(aL31.1 (FN hr hc)).1;rw [h0,jT oM,fm oM,show (aK (ins.take k)).length+(r*i.c.toNat+c) - (aK (ins.take k)).length=r*i.c.toNat+c by omega];exact FN hr hc
theorem Ng {P:Program}{w:World}{ops:Array Oper}{rest:List Oper}{op:Oper}{a:Act}{Q:Exit->Act->World->Prop}(hgd:op.guard=none)(s x:Operand)(t:TypeId)
 (ho:op.op=.call { callee:=.builtin .append,args:=#[s,x],argTypes:=#[t,t] })
 (base:Nat) (e:TypeId) (i:TypeInfo) (z:Value) (size bytes:Nat) (ht:P.underlying t=some (.slice e)) (hi:P.info? e=some i) (hz:i.zero=some z)
 (hsize:i.size=size) (hby:i.bytes=bytes) (hzs:z.cells.size=size) (hsz:0<size)
 (v:Value) (hs:a.eval s=v) (hown:w.ownsRow base e size v 0 [])
 (b2 m:Nat) (v2:Value) (news:List Value) (hx:a.eval x=v2) (hrow:w.ownsRow b2 e size v2 m news) (h1:∀ u∈news,u.oneCell'=true)
 (h63:m<=maxLen) (hbytes:m*bytes<=140737488355328) (hbase:base<=w.heap.size)
 (h:∀ v' w',w'.ownsRow base e size v' m news->w.grownBy w' v.ownBlock->wpList P ops Q rest (a.put op.dst v') w'):wpList P ops Q (op :: rest) a w:=by
 rcases sE hrow with ⟨e1,e2⟩ | ⟨g,c2,e1⟩
 . have hn:news=[]:=sF (by rw [hrow.1,e2];omega);subst e1 e2 hn;exact wpList_append_own_none hgd s x t ho base e i size ht hi v 0 [] hs hown hx (h v w hown ((ab w).grownBy _))
 . subst e1;exact qG w hgd s x t ho base e i z size bytes ht hi hz hsize hby hzs hsz v 0 [] hs hown (ad g 0) m c2 news hx hrow.1 (hrow.cells rfl) h1 oM (by simpa using hbytes) hbase (λ v' w' a b _=>h v' w' (by simpa using a) b)
theorem Nh (cells:List CeD)(hV:LibV cells)(w0:World)(b off n base:Nat)(h:SlD CeR 4 base w0 (so b off) n cells)(N0:Nat)(hN0:w0.heap.size<=N0)(f:Nat):∀ (oa:Nat) (o:cu) (q:OA) (N c:Nat) (H:List cu) (w:World),o.1.a=(oa:Int)->oa<f->Ext w0 w->OcO N0 w q N c H->N0<=w.heap.size->OkO cells o.1->N+(ct cells o.1).length<=1000->(∃ l:List Int,w.ownsRow N0 2 1 (ci o.2) o.2.2.1 (cS l))->(∀ b,b∈ao o.2.1->b∉ao q/\b∉di Prod.snd H)->o.2.2.1+oa<=100 ->
 Calls prog 223 #[.agg #[sm b off n n],sl q N c,.agg #[o.1.a,o.1.b,o.1.c,o.1.d,ci o.2]] w λ e w'=>∃ (q':OA) (N' c':Nat) (H':List cu),e=.returned (sl q' N' c')/\OcO N0 w' q' N' c' (H++H')/\H'.map Prod.fst=ct cells o.1/\Mut w w' (ao q)/\Ext w0 w'/\∀ b∈ao q',b∈ao q\/w.heap.size<=b:=by
 induction f with
 | zero=>intro oa o q N c H w _ h0;omega
 | succ f ih =>
 intro oa o q N c H w hoa hf hE hH hlw hO hroom hpath hnew hpn;obtain⟨i0,hi0,hz0,hz1,hz2⟩:=aM FK;obtain⟨j0,hj0,hy0,hy1,hy2⟩:=aM rR;have hl:=aa h.length;have hoc:oa<cells.length:=by have:=hO.1;omega
 obtain⟨x,hx,hx2⟩:∃ x,cells[oa]?=some x/\Hid (dQ cells o.1.a=x.ins):=Bf
 have hV:=aa hV;have hxi:=aa (hV.ins _ _ hx);have hon:oa<n:=by have:=hl.out;omega
 have h8:=aa (hV.insLen _ _ hx);have hN:=aa hH.len;obtain⟨V0,hOw⟩:=hH;have hT:=aa hOw.top;have hroom1:N+1<=1000:=by have:=pQ cells o.1.a;have:=ru cells o.1;omega
 replace hlw:=aa hlw;replace hpn:=aa hpn;replace hO:=aa hO;replace hroom:=aa hroom;replace hnew:=aa hnew;replace hpath:=aa hpath;replace hOw:=aa (show OcO N0 w q N c H from ⟨V0,hOw⟩);have hoa2:=aa hoa;have hoaI:(oa:Int)<(n:Int):=oM;obtain⟨bb,off2,x',cs,hp,hbb,hx',hcs,hc⟩:=h.get hon
 cases hp
 obtain rfl:x=x':=cJ (hx.symm.trans hx'.out);obtain⟨p1,n1,c1,p2,n2,c2,p3,n3,c3,rfl,s1,s2,s3⟩:=hcs;have z0:=aa (hc 0 _ rfl);have z1:=aa (hc 1 _ rfl);have z2:=aa (hc 2 _ rfl);have z3:=aa (hc 3 _ rfl);rw [aq] at z0;have hl3:=aa s3.length;replace s3:=aa s3;replace hbb:=aa hbb;clear hc s1 s2 hx' hx;have hn3:n3<=8:=by have:=hl3.out;have:=h8.out;omega
 have hob:Hid (∀ k,(Value.slice q N c).ownBlock=some k->N0<=k/\k<w.heap.size):=aa (λ k hk=>hT.lt k hk);obtain⟨els,hels⟩:∃ els,Hid (aK x.ins=els):=⟨_,aa rfl⟩;go_enter func223,ntmps223;go_upto_region 1 with (fail);generalize hW:World.alloc (World.alloc _ _) _=W0;obtain⟨E0,z0,b0,b1⟩:=bV hW;clear hW z0;replace b0:=cC b0;replace b1:=kE b1;have⟨g0,l0⟩:=b0.gl;have⟨g1,l1⟩:=b1.gl;have E:=ab W0;have hA:Hid (fT o=[.int .i64 (oa:Int),.int .i64 o.1.b,.int .i64 o.1.c,.int .i64 o.1.d,ci o.2]):=by show _=_;rw [fT,hoa2.out]
 replace b1:=aa (show Blk W0 (w+1) (fT o) 233 from by rw [hA.out];exact b1.out);replace hT:=aa (aG hT.out E0);have hlw0:=aa (aS hlw.out E0.le);go_wp2_with (first | (at_builtin;refine cZ _ rfl _ _ 228 rfl N0 233 i0 (.agg #[(0:Int),(0:Int),(0:Int),(0:Int),.slice none 0 0]) 5 56 underlying228 hi0 hz0 hz1 hz2 rfl oM _ _ _ rfl (cv hT.out _) ⟨_,0,none⟩ 1 1 [.int .i64 (oa:Int),.int .i64 o.1.b,.int .i64 o.1.c,.int .i64 o.1.d,ci o.2] rfl rfl (dg _ [_,_,_,_,_] _) (hA.out▸FI o) (cx oM oM) oM (by have:=hlw0.out;simp;omega) ?_;intro v2 wB hoB hgB hnB hbB;obtain⟨qB,cB,rfl⟩:=cq hoB;have hE1:=aa (((hE.trans E0).alloc _).grown hgB (λ k hk=>by have:=(hob.out k hk).1;omega));have k0:=aa (nx (b0.alloc _) hgB (λ e=>by have:=(hob.out _ e).2;omega));have k1:=aa (nx (b1.alloc _) hgB (λ e=>by have:=(hob.out _ e).2;omega));clear g0 l0 g1 l1;have g0:=k0.cells 0;have g1:=k1.cells 0;simp only [hA.out,aJ] at g0 g1;have l0:=k0.lt;have l1:=k1.lt;have y0:=(hE1.cells _ _ hbb.out).trans z0.out;have y1:=(hE1.cells _ _ hbb.out).trans z1.out;have y2:=(hE1.cells _ _ hbb.out).trans z2.out;have y3:=(hE1.cells _ _ hbb.out).trans z3.out;have yl:=aF hbb.out hE1.le;replace hoB:=aa hoB;replace hgB:=aa hgB;replace hbB:=aa hbB;clear hnB) | fail);have hI:=aa (BlI.start (cells:=cells) (els:=aK x.ins) (lv:=sm b off n n) hE hN0 hOw.out hpath.out hnew.out E0 b0.out b1.out (hA.out▸hoB.out) (show (W0.alloc _).grownBy wB (Value.slice q N c).ownBlock from hgB.out) hbB.out (ab wB));have hl128:(aK x.ins).length<=128:=by have:=wJ hV.out o.1.a;rwa [hx2.out] at this
 clear y0 y1 y2 y3 yl g0 g1 l0 l1 k0 k1 hoB hgB hbB hE1 E b0 b1;go_loopw [1,7,9] (λ v z y wr=>∃ (k j:Nat) (q2:OA) (N2 c2:Nat) (H':List cu),k<=n3/\v=sl q2 N2 c2/\z=.int .i64 (j:Int)/\y=.int .i64 (k:Int)/\Hid (j=(aK (x.ins.take k)).length)/\Hid (BlI cells w0 w N0 q H o (sm b off n n) (aK x.ins) j q2 N2 c2 H' wr)) (λ _ _ y _=>n3 - (intOf y).toNat)
 case atStart=>exact⟨0,0,qB,N+1,cB,[o],oM,rfl,rfl,rfl,by simp [aK,Hid],hI⟩
 case round =>
  clear hI;obtain⟨k,j,q2,N2,c2',H',hk,rfl,rfl,rfl,hj,hI⟩:=hrel;by_cases hkt:k<n3
  . have hkI:(k:Int)<(n3:Int):=oM;obtain⟨b3,off3,i,cs,hp3,hb3,hx3,hcs,hc⟩:=s3.get hkt;subst hp3;obtain rfl:cs=cV i:=hcs;have i0:=aa (hc 0 _ rfl);have i1:=aa (hc 1 _ rfl);have i2:=aa (hc 2 _ rfl);have i3:=aa (hc 3 _ rfl);have i4:=aa (hc 4 _ rfl);have i5:=aa (hc 5 _ rfl);have i6:=aa (hc 6 _ rfl);have i7:=aa (hc 7 _ rfl);rw [aq] at i0;clear hc;replace hb3:=aa hb3;have hii:=hxi.out i (ap hx3.out);unfold dF at hii;go_wp2_with (fail);go_loopw [1,7,10] (λ v z y wr=>∃ (r j:Nat) (q2:OA) (N2 c2:Nat) (H':List cu),r<=i.d.toNat/\v=sl q2 N2 c2/\z=.int .i64 (j:Int)/\y=.int .i64 (r:Int)/\Hid (j=(aK (x.ins.take k)).length+r*i.c.toNat)/\Hid (BlI cells w0 w N0 q H o (sm b off n n) (aK x.ins) j q2 N2 c2 H' wr)) (λ _ _ y _=>i.d.toNat - (intOf y).toNat)
    case atStart=>exact⟨0,j,q2,N2,c2',H',oM,rfl,rfl,rfl,by simpa using hj,hI⟩
    case round =>
     clear hI hj;obtain⟨r,j,q2,N2,c2',H',hr,rfl,rfl,rfl,hj,hI⟩:=hrel;have yc:=(hI.ext.cells _ _ hb3.out).trans i4.out;have yd:=(hI.ext.cells _ _ hb3.out).trans i5.out;have yb:=aF hb3.out hI.ext.le;by_cases hrt:(r:Int)<i.d
     . have hrtI:=hrt;replace hrt:Hid (r<i.d.toNat):=aa oM;go_wp2_with (fail);clear yc yd yb hrtI;go_loopw [1,7,11] (λ v z y wr=>∃ (cc j:Nat) (q2:OA) (N2 c2:Nat) (H':List cu),cc<=i.c.toNat/\v=sl q2 N2 c2/\z=.int .i64 (j:Int)/\y=.int .i64 (cc:Int)/\Hid (j=(aK (x.ins.take k)).length+(r*i.c.toNat+cc))/\Hid (BlI cells w0 w N0 q H o (sm b off n n) (aK x.ins) j q2 N2 c2 H' wr)) (λ _ _ y _=>i.c.toNat - (intOf y).toNat)
       case atStart=>exact⟨0,j,q2,N2,c2',H',oM,rfl,rfl,rfl,by simpa using hj,hI⟩
       case round =>
        clear hI hj;obtain⟨cc,j,q2,N2,c2',H',hcc,rfl,rfl,rfl,hj,hI⟩:=hrel;have yc:=(hI.ext.cells _ _ hb3.out).trans i4.out;have yd:=(hI.ext.cells _ _ hb3.out).trans i5.out;have yb:=aF hb3.out hI.ext.le;by_cases hct:(cc:Int)<i.c
        . have he:=aa (Nf hx3.out hrt.out (by omega:cc<i.c.toNat));have hjj:Hid (j=(aK (x.ins.take k)).length+(r*i.c.toNat+cc)):=hj;have heN0:=ro (r:=r) (c:=cc) (hxi.out i (ap hx3.out)) (by have:=hrt.out;omega) hct;have hem:=aa (ap he.out);obtain⟨l0,hl0⟩:=hI.path;replace hl0:=aa hl0;obtain⟨ea,hea⟩:∃ ea:Nat,Hid (i.a=(ea:Int)):=⟨i.a.toNat,aa (by have:=heN0.1;exact (ju this.1).symm)⟩;have g5:=hI.occ.cells 4;simp only [fT,aJ,aN] at g5;have l5:=hI.occ.lt;have hlen128:j<128:=by have h1:=(aL31.1 he.out).1;have h2:=hjj.out;omega
          have hem0:=aa (dh (size:=1) (aD wr [] 2) (ai _));go_wp2_with (first | (at_builtin;refine Ng rfl _ _ 121 rfl wr 2 j0 (0:Int) 1 8 underlying121 hj0 hy0 hy1 hy2 rfl oM _ rfl hem0.out N0 o.2.2.1 (ci o.2) (cS l0) rfl (cv hl0.out _) (FJ l0) (by have:=hpn.out;unfold maxLen;omega) (by have:=hpn.out;omega) (by simp) ?_;intro v4 w4 o4 G4;obtain⟨q4,c4,rfl⟩:=cq o4;replace o4:=aa o4;replace G4:=aa G4;have l4:Hid (wr.heap.size<=w4.heap.size):=aa (aS (by simp) G4.size)) | (at_builtin;refine cZ _ rfl _ _ 121 rfl wr 2 j0 (0:Int) 1 8 underlying121 hj0 hy0 hy1 hy2 rfl oM _ _ _ rfl (cv o4.out _) ⟨_,0,none⟩ 1 1 [.int .i64 (j:Int)] rfl rfl (dg _ [_] _) (np _) (cx (by have:=hpn.out;omega) oM) (by have:=hpn.out;omega) (by have:=l4.out;simp;omega) ?_;intro v2 wB hoB hgB hnB hbB;obtain⟨qP,cP,rfl⟩:=cq hoB;have hoBg:=aa (show (w4.alloc _).grownBy wB (Value.slice q4 o.2.2.1 c4).ownBlock from hgB);replace hoB:=aa hoB;clear hgB hnB hbB) | fail);have E4:=((ab wr).alloc (.cells #[] 2)).grown G4.out (λ k hk=>(hem0.lt k hk).1);have EX5:=aa ((E4.alloc _).grown hoBg.out (λ k hk=>(o4.lt k hk).1));clear g5 l5 G4 E4 yc yd yb;have hK:Hid (∀ W,Ext wr W->W.cell? (ad w 0)=sq b off n n/\W.cell? (ad (w+1) 1)=si o.1.b/\W.cell? (ad (w+1) 2)=si o.1.c/\W.cell? (ad (w+1) 3)=si o.1.d/\W.cell? (ad b3 (off3+k*8))=si i.a/\W.cell? (ad b3 (off3+k*8+1))=si i.tr.a/\W.cell? (ad b3 (off3+k*8+2))=si i.tr.b/\W.cell? (ad b3 (off3+k*8+3))=si i.tr.c/\W.cell? (ad b3 (off3+k*8+4))=si i.c/\W.cell? (ad b3 (off3+k*8+5))=si i.d/\W.cell? (ad b3 (off3+k*8+6))=si i.e/\W.cell? (ad b3 (off3+k*8+7))=si i.f):=aa (λ W hW=>⟨(hI.lib.ext hW).cells 0,by have:=(hI.occ.ext hW).cells 1;exact this,by have:=(hI.occ.ext hW).cells 2;exact this,by have:=(hI.occ.ext hW).cells 3;exact this,((hI.ext.trans hW).cells _ _ hb3.out).trans i0.out,((hI.ext.trans hW).cells _ _ hb3.out).trans i1.out,((hI.ext.trans hW).cells _ _ hb3.out).trans i2.out,((hI.ext.trans hW).cells _ _ hb3.out).trans i3.out,((hI.ext.trans hW).cells _ _ hb3.out).trans i4.out,((hI.ext.trans hW).cells _ _ hb3.out).trans i5.out,((hI.ext.trans hW).cells _ _ hb3.out).trans i6.out,((hI.ext.trans hW).cells _ _ hb3.out).trans i7.out⟩);have hX:=EX5;have hXB:=aa (ab wB);have hoN:=hO.near hV.out;have hoO:=hO.2.1
          have hrm:N2+(ct cells (gM (bQ i r cc) o.1)).length<=1000:=by
           have h1:=hI.own.len;have h2:=k9 List.length hI.val;have h3:=k9 List.length (rt hV.out o.1);have h4:=FL (f:=λ e=>ct cells (gM e o.1)) he.out;rw [hx2.out,<-hjj.out] at *
           have pA:=hroom;have pB:=hN;exact C7
          replace hrm:=aa hrm;have hpn2:Hid (o.2.2.1+1+ea<=100):=by show _<=_;have:=hpn.out;have:=heN0.1;have:=hea.out;have h9:(bQ i r cc).a=i.a:=rfl;omega
          have heaf:Hid (ea<f):=by show _<_;have:=heN0.1;have:=hea.out;have h9:(bQ i r cc).a=i.a:=rfl;omega
          have hPth:Hid (∀ W,Ext wB W->W.ownsRow N0 2 1 (ci (qP,o.2.2.1+1,cP)) (o.2.2.1+1) (cS (l0++[(j:Int)]))):=aa (λ W hW=>by have h1:=aG hoB.out hW;rw [show cS (l0++[(j:Int)])=cS l0++[.int .i64 (j:Int)] by simp [cS]];exact rQ h1 (by have:=hlw.out;have:=hI.mt.size;omega))
          have hPn:Hid (∀ b,b∈ao qP->b∉ao q2/\b∉di Prod.snd (H++H')):=aa (λ b hb=>by
           have h1:=(dE hoB.out b hb).1;obtain⟨V,hV⟩:=hI.own;refine⟨λ h=>?_,λ h=>?_⟩
           . have:=(hV.geTop b h).2;omega
           . have:=(hV.geRow b h).2;omega)
          have hS7f:Hid (∀ W6 W7,Ext wr W6->Ext w0 W7->Mut W6 W7 (ao q2)->W7.cell? (ad w 0)=sq b off n n/\W7.cell? (ad (w+1) 1)=si o.1.b/\W7.cell? (ad (w+1) 2)=si o.1.c/\W7.cell? (ad (w+1) 3)=si o.1.d/\W7.cell? (ad b3 (off3+k*8))=si i.a/\W7.cell? (ad b3 (off3+k*8+1))=si i.tr.a/\W7.cell? (ad b3 (off3+k*8+2))=si i.tr.b/\W7.cell? (ad b3 (off3+k*8+3))=si i.tr.c/\W7.cell? (ad b3 (off3+k*8+4))=si i.c/\W7.cell? (ad b3 (off3+k*8+5))=si i.d/\W7.cell? (ad b3 (off3+k*8+6))=si i.e/\W7.cell? (ad b3 (off3+k*8+7))=si i.f):=aa (λ W6 W7 hW hE7 hM=>by have k3:=(hI.lib.ext hW).mut hM (λ hh=>(hI.ne _ hh).1 rfl);have k5:=(hI.occ.ext hW).mut hM (λ hh=>(hI.ne _ hh).2.1 rfl);exact⟨k3.cells 0,by have:=k5.cells 1;exact this,by have:=k5.cells 2;exact this,by have:=k5.cells 3;exact this,(hE7.cells _ _ hb3.out).trans i0.out,(hE7.cells _ _ hb3.out).trans i1.out,(hE7.cells _ _ hb3.out).trans i2.out,(hE7.cells _ _ hb3.out).trans i3.out,(hE7.cells _ _ hb3.out).trans i4.out,(hE7.cells _ _ hb3.out).trans i5.out,(hE7.cells _ _ hb3.out).trans i6.out,(hE7.cells _ _ hb3.out).trans i7.out⟩);have hcall:Hid (∀ W,Ext wB W->Ext wr W->Calls prog 223 #[.agg #[sm b off n n],sl q2 N2 c2',.agg #[i.a,.int .i64 (il ⟨(bQ i r cc).b,(bQ i r cc).c,(bQ i r cc).d⟩ ⟨o.1.b,o.1.c,o.1.d⟩).a,.int .i64 (il ⟨(bQ i r cc).b,(bQ i r cc).c,(bQ i r cc).d⟩ ⟨o.1.b,o.1.c,o.1.d⟩).b,.int .i64 (il ⟨(bQ i r cc).b,(bQ i r cc).c,(bQ i r cc).d⟩ ⟨o.1.b,o.1.c,o.1.d⟩).c,sl qP (o.2.2.1+1) cP]] W λ e3 w'=>∃ (q':OA) (N' c':Nat) (H2:List cu),e3=.returned (sl q' N' c')/\OcO N0 w' q' N' c' (H++H'++H2)/\H2.map Prod.fst=ct cells (gM (bQ i r cc) o.1)/\Mut W w' (ao q2)/\Ext w0 w'/\∀ b∈ao q',b∈ao q2\/W.heap.size<=b):=aa (λ W hB hX=>ih ea ((gM (bQ i r cc) o.1,(qP,o.2.2.1+1,cP)):cu) q2 N2 c2' (H++H') W hea.out heaf.out (hI.ext.trans hX) (hI.own.ext hX) (aS hlw.out (aS hI.mt.size hX.le)) (wT hV.out hO.out (hx2.out▸hem.out)) hrm.out ⟨l0++[(j:Int)],hPth.out _ hB⟩ hPn.out hpn2.out);have heN:=heN0.2.2;have heo2:=heN0.2.1;have hin:dF oa i:=hxi.out i (ap hx3.out);have hb3w:=aF hb3.out (hI.ext.trans hX.out).le;go_region_held3 (λ W=>W.cell? (ad w 0)=sq b off n n/\W.cell? (ad (w+1) 1)=si o.1.b/\W.cell? (ad (w+1) 2)=si o.1.c/\W.cell? (ad (w+1) 3)=si o.1.d/\W.cell? (ad b3 (off3+k*8))=si i.a/\W.cell? (ad b3 (off3+k*8+1))=si i.tr.a/\W.cell? (ad b3 (off3+k*8+2))=si i.tr.b/\W.cell? (ad b3 (off3+k*8+3))=si i.tr.c/\W.cell? (ad b3 (off3+k*8+4))=si i.c/\W.cell? (ad b3 (off3+k*8+5))=si i.d/\W.cell? (ad b3 (off3+k*8+6))=si i.e/\W.cell? (ad b3 (off3+k*8+7))=si i.f) (first | exact hK.out _ hX.out | exact hK.out _ hX.drew | exact hS7.out) (first | (go_at_call 309;(with_reducible refine (FB i oa r cc _ hin (by have:=hrt.out;omega) hct).mono ?_);rintro e3 w6 ⟨rfl,E6⟩;have hX:=aa (hX.drew.trans E6);have hXB:=aa (hXB.drew.trans E6)) | (go_at_call 308;(with_reducible refine (FC ⟨o.1.b,o.1.c,o.1.d⟩ ⟨(bQ i r cc).b,(bQ i r cc).c,(bQ i r cc).d⟩ _ heo2 hoO (heN.mono oM) (hoN.mono oM)).mono ?_);rintro e3 w6 ⟨rfl,E6⟩;have hX:=aa (hX.trans E6);have hXB:=aa (hXB.trans E6)) | (go_at_call 223;(with_reducible refine (hcall.out _ hXB.out hX.out).mono ?_);rintro e3 w7 ⟨q7,N7,c7,H2,rfl,h1,h2,h3,h4,h5⟩;have hS7:Hid (w7.cell? (ad w 0)=sq b off n n/\w7.cell? (ad (w+1) 1)=si o.1.b/\w7.cell? (ad (w+1) 2)=si o.1.c/\w7.cell? (ad (w+1) 3)=si o.1.d/\w7.cell? (ad b3 (off3+k*8))=si i.a/\w7.cell? (ad b3 (off3+k*8+1))=si i.tr.a/\w7.cell? (ad b3 (off3+k*8+2))=si i.tr.b/\w7.cell? (ad b3 (off3+k*8+3))=si i.tr.c/\w7.cell? (ad b3 (off3+k*8+4))=si i.c/\w7.cell? (ad b3 (off3+k*8+5))=si i.d/\w7.cell? (ad b3 (off3+k*8+6))=si i.e/\w7.cell? (ad b3 (off3+k*8+7))=si i.f):=aa (hS7f.out _ _ hX.out h4 h3)) | fail);go_wp2_with (fail);go_roundw
          case rel=>exact⟨cc+1,j+1,q7,N7,c7,H'++H2,oM,rfl,gN,gN,aa (by have:=hjj.out;omega),aa (hI.step hX.out (hjj.out▸he.out) h1 h2 h3 h4 h5)⟩
          case measure=>exact mS
        . have e1:Hid (j=(aK (x.ins.take k)).length+(r+1)*i.c.toNat):=by show _=_;rw [hj.out,me,show cc=i.c.toNat by omega]
          go_wp2_with (fail);go_roundw
          case rel=>exact⟨r+1,j,q2,N2,c2',H',by have:=hrt.out;omega,rfl,rfl,gN,e1,hI⟩
          case measure=>have:=hrt.out;simp [intOf];omega
     . have e1:Hid (j=(aK (x.ins.take (k+1))).length):=by show _=_;rw [hj.out,un hx3.out,aI,tS,show r=i.d.toNat by omega]
       go_wp2_with (fail);go_roundw
       case rel=>exact⟨k+1,j,q2,N2,c2',H',oM,rfl,rfl,gN,e1,hI⟩
       case measure=>exact mS
  . have hkI:¬ (k:Int)<(n3:Int):=oM;have hfin:Hid (H'.map Prod.fst=ct cells o.1):=by show _=_;rw [hI.val,rt hV.out,hx2.out,hj.out,cz hl3.out oM,List.take_length]
    exact AA
theorem Mut.toExt {a b:World}(h:Mut a b []):Ext a b:=⟨h.os,h.tape,h.output,h.size,λ k hk=>h.block k hk (by simp)⟩
theorem OcO.nil (N0:Nat)(w:World):OcO N0 w none 0 0 []:=⟨[],OwnX.nil _ _⟩
theorem OcO.slt {N0 n c:Nat}{w:World}{q:OA}{H:List cu}(h:OcO N0 w q n c H):SlT fT 5 w q n H:=let ⟨_,h⟩:=h;bm M0 h.len h.top
def OcB (cells:List CeD) (k:Int) (w:World) (e:Ending) (w':World):Prop:=∃ (q:OA) (c:Nat) (H:List cu),e=.returned (.tuple #[sl q (aA cells k).length c,.int .i64 (dm cells k)])/\OcO w w' q (aA cells k).length c H/\H.map Prod.fst=aA cells k/\Ext w w'
theorem OcB.err {cells:List CeD}{k v:Int}{w w':World}(h:dm cells k=v/\aA cells k=[])(E:Ext w w'):OcB cells k w (.returned (.tuple #[.slice none 0 0,.int .i64 v])) w' :=
 ⟨none,0,[],by rw [h.1,h.2];rfl,by rw [h.2];exact OcO.nil _ _,by rw [h.2];rfl,E⟩
theorem FO {l:List Q4}{i:Nat}{x:Q4}(hx:l[i]?=some x)(h:im x=false):l.all im=false:=by rw [pc];exact⟨x,ap hx,by rw [h];simp⟩
theorem FP {l:List Q4}{i:Nat}{x:Q4}(h:(l.take i).all im=true)(hx:l[i]?=some x)(h2:im x=true):(l.take (i+1)).all im=true:=by rw [ch hx,nL,h];simp [h2]
theorem FQ (cells:List CeD)(k:Int)(p:OA)(n base:Nat)(w:World)(h:SlD CeR 4 base w p n cells)(hn:n<=1048576)(hf:∀ x∈cells,dp x) :
 Calls prog 185 #[.agg #[sl p n n],k] w (OcB cells k w):=by
 have hl:=aa h.length;have hcode:=λ W (hE:Ext w W)=>MY cells k p n base W (h.ext aL6 hE) hn hf
 cases h1:dq cells with
 | false => have hr:=aa (Ew k h1);rw [show mG cells k n=1 by rw [mG,h1];rfl] at hcode;replace hcode:=aa hcode;go_enter func185,ntmps185;exact pk
 | true =>
   cases h2:ae k 0 ((n:Int) - 1) with
   | false => have hr:=aa (Ex h1 (by rw [hl.out];exact h2));rw [show mG cells k n=5 by rw [mG,h1,h2];rfl] at hcode;replace hcode:=aa hcode;go_enter func185,ntmps185;exact pk
   | true =>
     obtain⟨kk,rfl⟩:∃ kk:Nat,k=(kk:Int):=⟨k.toNat,by have:=wit_iff.1 h2;omega⟩;have hkn:kk<n:=by have:=wit_iff.1 h2;omega
     have hV:=aa (LibV.of h1);have h2l:ae (kk:Int) 0 ((cells.length:Int) - 1)=true:=by rw [hl.out];exact h2
     obtain⟨b,off,x0,cs0,rfl,hb0,_,_,_⟩:=h.get hkn;have hkc:kk<cells.length:=by have:=hl.out;omega
     have hk8:kk<8:=by have:=hV.len.2;omega
     have hcnt:=aa (λ W (hE:Ext w W)=>MW cells kk (so b off) n base W (h.ext aL6 hE) hV.out hkn);have hbig:=FG hV.out (k:=(kk:Int)) oM;rw [show mG cells (kk:Int) n=0 by rw [mG,h1,h2];rfl] at hcode;replace hcode:=aa hcode;by_cases h3:200<cn cells (kk:Int)
     . have hr:=aa (Ey h1 h2l h3);clear h1 h2 h2l;go_enter func185,ntmps185;exact pk
     . have hbel:Hid (∀ W,Ext w W->Calls prog 278 #[.agg #[sm b off n n],.slice none 0 0,.agg #[(kk:Int),(0:Int),(0:Int),(0:Int),.slice none 0 0]] W λ e w'=>∃ (q':OA) (N' c':Nat) (H':List cu),e=.returned (sl q' N' c')/\OcO w w' q' N' c' H'/\H'.map Prod.fst=ct cells ⟨(kk:Int),0,0,0⟩/\Mut W w' []/\Ext w w'/\∀ b∈ao q',b∈([]:List Nat)\/W.heap.size<=b):=aa (λ W hE=>Nd cells hV.out w b off n base h w (ai _) (kk+1) kk ((⟨(kk:Int),0,0,0⟩,(none,0,0)):cu) none 0 0 [] W rfl (Nat.lt_succ_self _) hE (OcO.nil _ _) hE.le (wU oM hV.len.2) (by show 0+(ct cells ⟨(kk:Int),0,0,0⟩).length<=1000;unfold cn at h3;omega) ⟨[],pd _ _ _ _⟩ (by simp [ao]) (by show 0+kk<=100;omega));have hcn2:=aa (ru cells ⟨(kk:Int),0,0,0⟩);have h3h:=aa h3;replace h1:=aa h1;replace h2l:=aa h2l;clear h2;go_enter func185,ntmps185;go_upto_region 1 with (fail);generalize hW:World.alloc _ _=W0;obtain⟨E0,z0,b0⟩:=al hW;clear hW z0;replace b0:=cC b0;have⟨g0,l0⟩:=b0.gl;have E:=ab W0;go_wp2_with (first | (go_at_call 276;refine CE.t E (hcode.out _ (E0.trans E)) λ w3 E=>?_;clear g0 l0;have⟨g0,l0⟩:=(b0.ext E).gl) | (go_at_call 277;refine CE.t E (hcnt.out _ (E0.trans E)) λ w4 E=>?_;clear g0 l0;have⟨g0,l0⟩:=(b0.ext E).gl) | (go_at_call 278;refine (hbel.out _ (E0.trans E)).mono ?_;rintro e w5 ⟨q,N,c,H',rfl,hO,hval,M5,E5,_⟩;have hE5:=aa (E.trans M5.toExt);replace hO:=aa hO;replace hval:=aa hval;have b5:=aa (b0.ext hE5.out);clear g0 l0 M5 E5) | fail);have hN:=aa hO.len;have hst:=aa hO.slt;have hNL:Hid ((ct cells ⟨(kk:Int),0,0,0⟩).length=N):=by show _=_;rw [<-hval.out,dD,hN.out]
       have hN2:N<=200:=by have h9:((ct cells ⟨(kk:Int),0,0,0⟩).length:Int)=cn cells (kk:Int):=hcn2.out;have:=hNL.out;have:=h3h.out;omega
       go_loopw [26] (λ z wr=>∃ i:Nat,i<=N/\z=.int .i64 (i:Int)/\Ext w5 wr/\Hid (((ct cells ⟨(kk:Int),0,0,0⟩).take i).all im=true)) (λ z _=>N - (intOf z).toNat)
       case atStart=>exact⟨0,oM,rfl,ab _,by simp [Hid]⟩
       case round =>
        obtain⟨i,hi,rfl,E6,hall⟩:=hrel;by_cases hlt:i<N
        . have hltI:(i:Int)<(N:Int):=oM;obtain⟨bq,oq,x,rfl,hbq,hx,hy⟩:=(hst.ext E6).get hlt;have hxL:Hid ((ct cells ⟨(kk:Int),0,0,0⟩)[i]?=some x.1):=by show _=_;rw [<-hval.out,cK,hx.out];rfl
          obtain⟨⟨xa,xb,xc,xd⟩,xq,xn,xp⟩:=x;have y0:wr.cell? (ad bq (oq+i*5))=si xa:=hy 0 _ rfl;have y1:wr.cell? (ad bq (oq+i*5+1))=si xb:=hy 1 _ rfl;have y2:wr.cell? (ad bq (oq+i*5+2))=si xc:=hy 2 _ rfl;have y3:wr.cell? (ad bq (oq+i*5+3))=si xd:=hy 3 _ rfl;have y4:wr.cell? (ad bq (oq+i*5+4))=ss xq xn xp:=hy 4 _ rfl;clear hy;have htr:=λ W=>mn ⟨xb,xc,xd⟩ W
          have htt:im ⟨xa,xb,xc,xd⟩=f8 ⟨xb,xc,xd⟩:=rfl
          cases ht:im ⟨xa,xb,xc,xd⟩ with
          | false => have hr:=aa (EA h1.out h2l.out (by have:=h3h.out;omega) (FO hxL.out ht));rw [<-htt,ht] at htr;replace htr:=aa htr;clear htt ht;go_upto_region 10 with (fail);generalize hW8:World.alloc _ _=W8;obtain⟨E8,z8,b8⟩:=al hW8;clear hW8 z8 y0 y1 y2 y3 y4;replace b8:=aa (show Blk W8 wr [_,_,_,_,_] _ from b8);have⟨g8,l8⟩:=b8.gl;go_wp2_with (first | (go_at_call 279;refine (htr.out _).mono ?_;rintro e w7 ⟨rfl,E7⟩) | fail);go_ret2;exact OcB.err hr.out (E0.trans (hE5.trans (E6.trans (E8.trans E7))))
          | true =>
            have hall2:=aa (FP hall.out hxL.out ht);rw [<-htt,ht] at htr;replace htr:=aa htr;clear htt ht;go_upto_region 10 with (fail);generalize hW8:World.alloc _ _=W8;obtain⟨E8,z8,b8⟩:=al hW8;clear hW8 z8 y0 y1 y2 y3 y4;replace b8:=aa (show Blk W8 wr [_,_,_,_,_] _ from b8);have⟨g8,l8⟩:=b8.gl;go_wp2_with (first | (go_at_call 279;refine (htr.out _).mono ?_;rintro e w7 ⟨rfl,E7⟩) | fail);go_roundw
            case rel=>exact⟨i+1,oM,gN,E6.trans (E8.trans E7),hall2⟩
            case measure=>exact mS
        . exact zx
theorem FR (cells:List CeD)(k:Int)(p:OA)(n base:Nat)(w:World)(h:SlD CeR 4 base w p n cells)(hn:n<=1048576)(hf:∀ x∈cells,dp x) :
 Calls prog 156 #[.agg #[sl p n n],k] w (OcB cells k w):=by
 have hl:=aa h.length;have hlib:=λ W (hE:Ext w W)=>tI p n n base cells W (h.ext aL6 hE) oM hf
 have hhas:=λ W (hE:Ext w W)=>xT cells k p n base W (h.ext aL6 hE) hn hf
 cases h1:dq cells with
 | false => have hr:=aa (Ew k h1);rw [h1] at hlib;replace hlib:=aa hlib;clear hhas;go_enter func156,ntmps156;exact pk
 | true =>
   cases h2:ae k 0 ((n:Int) - 1) with
   | false => have hr:=aa (Ex h1 (by rw [hl.out];exact h2));rw [h1] at hlib;rw [h1,h2] at hhas;replace hlib:=aa hlib;replace hhas:=aa hhas;go_enter func156,ntmps156;exact pk
   | true =>
     obtain⟨kk,rfl⟩:∃ kk:Nat,k=(kk:Int):=⟨k.toNat,by have:=wit_iff.1 h2;omega⟩;have hkn:kk<n:=by have:=wit_iff.1 h2;omega
     have hV:=aa (LibV.of h1);have h2l:ae (kk:Int) 0 ((cells.length:Int) - 1)=true:=by rw [hl.out];exact h2
     obtain⟨b,off,x0,cs0,rfl,hb0,_,_,_⟩:=h.get hkn;have hkc:kk<cells.length:=by have:=hl.out;omega
     have hk8:kk<8:=by have:=hV.len.2;omega
     have hcnt:=aa (λ W (hE:Ext w W)=>MZ cells kk b off n base W (h.ext aL6 hE) h1 hf hkn);have hbig:=FG hV.out (k:=(kk:Int)) oM;rw [h1] at hlib;rw [h1,h2] at hhas;replace hlib:=aa hlib;replace hhas:=aa hhas;by_cases h3:200<cn cells (kk:Int)
     . have hr:=aa (Ey h1 h2l h3);clear h1 h2 h2l;go_enter func156,ntmps156;exact pk
     . have hbel:Hid (∀ W,Ext w W->∀ V,W.alloc (.cells #[] 233)=V->Calls prog 223 #[.agg #[sm b off n n],sm W 0 0 0,.agg #[(kk:Int),(0:Int),(0:Int),(0:Int),.slice none 0 0]] V λ e w'=>∃ (q':OA) (N' c':Nat) (H':List cu),e=.returned (sl q' N' c')/\OcO w w' q' N' c' H'/\H'.map Prod.fst=ct cells ⟨(kk:Int),0,0,0⟩/\Ext W w'):=aa (λ W hE V hV2=>by
        subst hV2;refine (Nh cells hV.out w b off n base h w (ai _) (kk+1) kk ((⟨(kk:Int),0,0,0⟩,(none,0,0)):cu) (so W 0) 0 0 [] _ rfl (Nat.lt_succ_self _) (hE.alloc _) ⟨[],OwnX.start (dh (aD W [] 233) hE.le)⟩ (by have:=hE.le;simp;omega) (wU oM hV.len.2) (by show 0+(ct cells ⟨(kk:Int),0,0,0⟩).length<=1000;unfold cn at h3;omega) ⟨[],pd _ _ _ _⟩ (by simp [ao]) (by show 0+kk<=100;omega)).mono ?_;rintro e w' ⟨q',N',c',H',rfl,h1,h2,h3,h4,h5⟩;exact⟨q',N',c',H',rfl,h1,h2,⟨h3.os,h3.tape,h3.output,aS (by simp) h3.size,λ i hi=>(h3.block i (by simp;omega) (by simp [ao];omega)).trans (heap_alloc_old W _ hi)⟩⟩)
       have hcn2:=aa (ru cells ⟨(kk:Int),0,0,0⟩);have h3h:=aa h3;replace h1:=aa h1;replace h2l:=aa h2l;clear h2;go_enter func156,ntmps156;go_upto_region 1 with (fail);generalize hW:World.alloc _ _=W0;obtain⟨E0,z0,b0⟩:=al hW;clear hW z0;replace b0:=cC b0;have⟨g0,l0⟩:=b0.gl;have E:=ab W0;go_wp2_with (first | (go_at_call 90;refine CE.t E (hlib.out _ (E0.trans E)) λ w3 E=>?_;clear g0 l0;have⟨g0,l0⟩:=(b0.ext E).gl) | (go_at_call 221;refine CE.t E (hhas.out _ (E0.trans E)) λ w3 E=>?_;clear g0 l0;have⟨g0,l0⟩:=(b0.ext E).gl) | (go_at_call 222;refine CE.t E (hcnt.out _ (E0.trans E)) λ w4 E=>?_;clear g0 l0;have⟨g0,l0⟩:=(b0.ext E).gl) | (go_at_call 223;refine (hbel.out _ ((E0.trans E)) _ rfl).mono ?_;rintro e w5 ⟨q,N,c,H',rfl,hO,hval,E5⟩;have hE5:=aa (E.trans E5);replace hO:=aa hO;replace hval:=aa hval;have b5:=aa (b0.ext hE5.out);clear g0 l0 E5) | fail);have hN:=aa hO.len;have hst:=aa hO.slt;have hNL:Hid ((ct cells ⟨(kk:Int),0,0,0⟩).length=N):=by show _=_;rw [<-hval.out,dD,hN.out]
       have hN2:N<=200:=by have h9:((ct cells ⟨(kk:Int),0,0,0⟩).length:Int)=cn cells (kk:Int):=hcn2.out;have:=hNL.out;have:=h3h.out;omega
       go_loopw [7] (λ z wr=>∃ i:Nat,i<=N/\z=.int .i64 (i:Int)/\Ext w5 wr/\Hid (((ct cells ⟨(kk:Int),0,0,0⟩).take i).all im=true)) (λ z _=>N - (intOf z).toNat)
       case atStart=>exact⟨0,oM,rfl,ab _,by simp [Hid]⟩
       case round =>
        obtain⟨i,hi,rfl,E6,hall⟩:=hrel;by_cases hlt:i<N
        . have hltI:(i:Int)<(N:Int):=oM;obtain⟨bq,oq,x,rfl,hbq,hx,hy⟩:=(hst.ext E6).get hlt;have hxL:Hid ((ct cells ⟨(kk:Int),0,0,0⟩)[i]?=some x.1):=by show _=_;rw [<-hval.out,cK,hx.out];rfl
          obtain⟨⟨xa,xb,xc,xd⟩,xq,xn,xp⟩:=x;have y0:wr.cell? (ad bq (oq+i*5))=si xa:=hy 0 _ rfl;have y1:wr.cell? (ad bq (oq+i*5+1))=si xb:=hy 1 _ rfl;have y2:wr.cell? (ad bq (oq+i*5+2))=si xc:=hy 2 _ rfl;have y3:wr.cell? (ad bq (oq+i*5+3))=si xd:=hy 3 _ rfl;have y4:wr.cell? (ad bq (oq+i*5+4))=ss xq xn xp:=hy 4 _ rfl;clear hy;have htr:=λ W=>ls ⟨xb,xc,xd⟩ W
          have htt:im ⟨xa,xb,xc,xd⟩=f8 ⟨xb,xc,xd⟩:=rfl
          cases ht:im ⟨xa,xb,xc,xd⟩ with
          | false => have hr:=aa (EA h1.out h2l.out (by have:=h3h.out;omega) (FO hxL.out ht));rw [<-htt,ht] at htr;replace htr:=aa htr;clear htt ht;go_wp2_with (first | (go_at_call 224;refine (htr.out _).mono ?_;rintro e w7 ⟨rfl,E7⟩) | fail);go_ret2;exact OcB.err hr.out (E0.trans (hE5.trans (E6.trans E7)))
          | true =>
            have hall2:=aa (FP hall.out hxL.out ht);rw [<-htt,ht] at htr;replace htr:=aa htr;clear htt ht;go_wp2_with (first | (go_at_call 224;refine (htr.out _).mono ?_;rintro e w7 ⟨rfl,E7⟩) | fail);go_roundw
            case rel=>exact⟨i+1,oM,gN,E6.trans E7,hall2⟩
            case measure=>exact mS
        . exact zx
end Go.Proofs.YtnlajnpcdnnpmaaGreat
