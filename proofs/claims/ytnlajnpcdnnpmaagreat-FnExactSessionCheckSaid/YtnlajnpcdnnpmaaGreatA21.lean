/- Part of a proof. No condition. -/
import Derived.Test.YtnlajnpcdnnpmaaGreatA20
import Derived.Test.YtnlajnpcdnnpmaaGreatA14
import Derived.Test.YtnlajnpcdnnpmaaGreatA9
namespace Go.Proofs.YtnlajnpcdnnpmaaGreat
set_option linter.all false
set_option maxRecDepth 100000
set_option maxHeartbeats 16000000
open Go.Proofs.Tryz Go.RowKit Go.PlainAid
theorem MS (i:InD)(r c:Nat):(List.range (c+1)).map (bQ i r)=(List.range c).map (bQ i r)++[bQ i r c]:=by simp [la]
theorem FD (i:InD)(r:Nat):(List.range (r+1)).flatMap (gK i)=(List.range r).flatMap (gK i)++gK i r:=by simp [la]
theorem un {ins:List InD}{k:Nat}{i:InD}(h:ins[k]?=some i):aK (ins.take (k+1))=aK (ins.take k)++gi i:=by unfold aK;rw [ch h,dj];simp
theorem MT (l:List Q4)(x:Q4):(l++[x]).flatMap aj=l.flatMap aj++aj x:=by simp
theorem xP (i:InD)(r:Nat):((List.range r).flatMap (gK i)).length=r*i.c.toNat:=by
 induction r with
 | zero=>simp
 | succ r ih=>rw [FD,aI,ih,wI,me]
theorem FE {W:World}{b N c:Nat}{e:TypeId}{q:OA}{L:List Q4}(h:W.ownsRow b e 4 (sl q N c) N (L.flatMap aj)):L.length=N:=by have:=h.1;rw [kC cw] at this;omega
theorem MU {ins:List InD}{kk k r c:Nat}{i:InD}(hV:∀ i∈ins,dF kk i)(h8:ins.length<=8)(hi:dF kk i)(hr:r<=i.d.toNat)(hc:c<=i.c.toNat):(aK (ins.take k)++(List.range r).flatMap (gK i)++(List.range c).map (bQ i r)).length<=200:=by
 have h1:=rq (ins.take k) λ j hj=>hV j (oZ hj)
 have h2:(ins.take k).length<=8:=by rw [fI];omega
 unfold dF at hi;have h3:r*i.c.toNat<=4*4:=Nat.mul_le_mul oM oM;rw [aI,aI,xP,dD,List.length_range];omega
theorem MV:(prog.info? 277).map (λ i=>(i.zero,i.size,i.bytes))=some (some (.agg #[(0:Int),(0:Int),(0:Int),(0:Int)]),4,32):=by kernel_rfl
structure ElI (w W:World) (N0:Nat) (BI:Nat) (i:InD) (q:OA) (N c:Nat) (L:List Q4):Prop where
 ext:Ext w W
 own:W.ownsRow N0 277 4 (sl q N c) N (L.flatMap aj)
 ne:∀ k,(Value.slice q N c).ownBlock=some k->k≠BI
 inb:Blk W BI (cV i) 252
 lo:w.heap.size<N0
 low:N0<=W.heap.size
theorem ElI.later {w W W':World}{N0 BI N c:Nat}{i:InD}{q:OA}{L:List Q4}(h:ElI w W N0 BI i q N c L)(E:Ext W W'):ElI w W' N0 BI i q N c L:=⟨h.ext.trans E,aG h.own E,h.ne,h.inb.ext E,h.lo,aS h.low E.le⟩
theorem nx {w w':World}{B:Nat}{cs:List Value}{t:TypeId}{row:Option Nat}(h:Blk w B cs t)(hg:w.grownBy w' row)(hne:row≠some B):Blk w' B cs t:=(hg.block B h.lt (λ e=>hne e.symm)).trans h
theorem ElI.push {w W W5 wA:World}{N0 BI N c gL cL:Nat}{i:InD}{q:OA}{L:List Q4}{Q:Q4}{o:Obj}(h:ElI w W N0 BI i q N c L)(E:Ext W W5)
 (hoA:wA.ownsRow N0 277 4 (sm gL 0 (N+1) cL) (N+1) (L.flatMap aj++aj Q)) (hgA:(W5.alloc o).grownBy wA (Value.slice q N c).ownBlock) (hbA:(Value.slice q N c).ownBlock=some gL\/gL=(W5.alloc o).heap.size):ElI w wA N0 BI i (so gL 0) (N+1) cL (L++[Q]):=by
 have h5:=(h.later E).later ((ab W5).alloc o);refine⟨h5.ext.grown hgA (λ k hk=>by have:=(h.own.lt k hk).1;have:=h.lo;omega),by rw [MT];exact hoA,λ k hk=>?_,nx h5.inb hgA (λ e=>h.ne _ e rfl),h.lo,aS h5.low hgA.size⟩
 cases hk
 rcases hbA with e | e
 . exact h.ne _ e
 . have:=h5.inb.lt;show gL≠BI;omega
theorem rQ {w:World}{b b' size n:Nat}{e:TypeId}{v:Value}{xs:List Value}(h:w.ownsRow b e size v n xs)(hb:b'<=b):w.ownsRow b' e size v n xs :=
 ⟨h.1,h.2.elim ay (λ⟨g,cap,cur,hv,hg,r⟩=>aB ⟨g,cap,cur,hv,aS hb hg,r⟩)⟩
theorem xQ (s:ByteArray)(ins:List InD)(kk:Nat)(p1 p2 p3:OA)(n1 c1 n2 c2 n3 c3 base:Nat)(w:World)(h:SlD (Fl cV) 8 base w p3 n3 ins)(hV:∀ i∈ins,dF kk i)(h8:n3<=8) :
 Calls prog 127 #[.agg #[.string s,sl p1 n1 c1,sl p2 n2 c2,sl p3 n3 c3]] w λ e w'=>∃ q c,e=.returned (sl q (aK ins).length c)/\w'.ownsRow w 277 4 (sl q (aK ins).length c) (aK ins).length ((aK ins).flatMap aj)/\Ext w w':=by
 obtain⟨i0,hi0,hz0,hz1,hz2⟩:=aM MV;have hl:=aa h.length;have hV:=aa hV;go_enter func127,ntmps127;go_upto_region 1 with (fail);generalize hW:World.alloc _ _=W0;obtain⟨E0,z0,b0⟩:=al hW;clear hW z0;replace b0:=du b0;have⟨g0,l0⟩:=b0.gl;have E:=ab W0;obtain⟨N0,hN0⟩:∃ N0,N0=W0.heap.size:=⟨_,rfl⟩;have hlo:w.heap.size<N0:=by have:=b0.lt;omega
 have hst:=aa (dh (size:=4) (aD W0 [] 277) (ai _));rw [<-hN0] at hst;go_wp2_with (fail);clear g0 l0 E;go_loopw [3,12] (λ v z wr=>∃ (k:Nat) (q:OA) (N c:Nat),k<=n3/\v=sl q N c/\z=.int .i64 (k:Int)/\Hid (wr.ownsRow N0 277 4 (sl q N c) N ((aK (ins.take k)).flatMap aj))/\Ext w wr/\N0<=wr.heap.size) (λ _ z _=>n3 - (intOf z).toNat)
 case atStart=>exact⟨0,_,_,_,oM,rfl,rfl,by rw [<-hN0];simpa [aK] using hst,E0.alloc _,by rw [hN0];simp⟩
 case round =>
  clear hst b0 E0;obtain⟨k,q,N,c,hk,rfl,rfl,hO,hE,hlw⟩:=hrel;by_cases hlt:k<n3
  . have hltI:(k:Int)<n3:=oM;obtain⟨b,off,i,cs,rfl,hb,hx,hcs,hc⟩:=(h.ext okInstance hE).get hlt;obtain rfl:cs=cV i:=hcs;have c0:=hc 0 _ rfl;rw [aq] at c0;have c1:=hc 1 _ rfl;have c2:=hc 2 _ rfl;have c3:=hc 3 _ rfl;have c4:=hc 4 _ rfl;have c5:=hc 5 _ rfl;have c6:=hc 6 _ rfl;have c7:=hc 7 _ rfl;clear hc;have hi:=aa (hV.out i (ap hx.out));have hi2:=hi.out;unfold dF at hi2;go_upto_region 6 with (fail);generalize hW2:World.alloc _ _=W2;obtain⟨E2,z2,bI⟩:=al hW2;clear hW2 z2;obtain⟨BI,hBI⟩:∃ BI,BI=wr.heap.size:=⟨_,rfl⟩;have hR:Hid (ElI w W2 N0 BI i q N c (aK (ins.take k)++(List.range 0).flatMap (gK i))):=aa ⟨hE.trans E2,by simpa using aG hO.out E2,λ k hk=>by have:=(hO.lt k hk).2;omega,by rw [hBI];exact bI,hlo,aS hlw E2.le⟩;rw [<-hBI];clear hBI bI E2 hE hO c0 c1 c2 c3 c4 c5 c6 c7 hb;go_loopw [3,18] (λ v z wx=>∃ (r:Nat) (q:OA) (N c:Nat),r<=i.d.toNat/\v=sl q N c/\z=.int .i64 (r:Int)/\Hid (ElI w wx N0 BI i q N c (aK (ins.take k)++(List.range r).flatMap (gK i)))) (λ _ z _=>i.d.toNat - (intOf z).toNat)
    case atStart=>exact⟨0,q,N,c,oM,rfl,rfl,hR⟩
    case round =>
     clear hR;obtain⟨r,q,N,c,hr,rfl,rfl,hR⟩:=hrel;have gI:=hR.inb.cells;have lI:=hR.inb.lt;have y0:=gI 0;have y1:=gI 1;have y2:=gI 2;have y3:=gI 3;have y4:=gI 4;have y5:=gI 5;have y6:=gI 6;have y7:=gI 7;simp only [cV,aJ,aN] at y0 y1 y2 y3 y4 y5 y6 y7;clear gI;by_cases hrt:(r:Int)<i.d
     . replace hrt:=aa hrt;have hrtI:=hrt.out;go_upto_region 9 with (fail);clear y0 y1 y2 y3 y4 y5 y6 y7 lI hrtI;go_loopw [3,23] (λ v z wy=>∃ (cc:Nat) (q:OA) (N c:Nat),cc<=i.c.toNat/\v=sl q N c/\z=.int .i64 (cc:Int)/\Hid (ElI w wy N0 BI i q N c (aK (ins.take k)++(List.range r).flatMap (gK i)++(List.range cc).map (bQ i r)))) (λ _ z _=>i.c.toNat - (intOf z).toNat)
       case atStart=>exact⟨0,q,N,c,oM,rfl,rfl,by simpa using hR⟩
       case round =>
        clear hR;obtain⟨cc,q,N,c,hcc,rfl,rfl,hR0⟩:=hrel;by_cases hct:(cc:Int)<i.c
        . have gI:=hR0.inb.cells;have lI:=hR0.inb.lt;have hep:Hid (∀ V,CE 195 #[.agg #[i.a,i.tr.a,i.tr.b,i.tr.c,i.c,i.d,i.e,i.f],(cc:Int),(r:Int)] V (.agg #[((bQ i r cc).b:Int),((bQ i r cc).c:Int),((bQ i r cc).d:Int)])):=λ V=>MQ i kk r cc V hi.out hrt.out hct
          have hroom:=MU (k:=k) (r:=r) (c:=cc) hV.out (by rw [hl.out];exact h8) hi.out (by have:=hrt.out;omega) oM;rw [FE hR0.own] at hroom;have y0:=gI 0;have y1:=gI 1;have y2:=gI 2;have y3:=gI 3;have y4:=gI 4;have y5:=gI 5;have y6:=gI 6;have y7:=gI 7;simp only [cV,aJ,aN] at y0 y1 y2 y3 y4 y5 y6 y7;clear gI;have hLd:=aa hR0.low;go_wp2_with (fail);have hX:=aa (ab wr);have hR:=hR0;go_region_law (first | (refine mV _ rfl _ _ 183 rfl N0 277 i0 _ 4 32 underlying183 hi0 hz0 hz1 hz2 rfl oM _ _ _ rfl (cv (aG hR.own EX.out) _) ⟨_,0,none⟩ 1 1 [.int .i64 i.a,.int .i64 (bQ i r cc).b,.int .i64 (bQ i r cc).c,.int .i64 (bQ i r cc).d] rfl rfl (dg _ [_,_,_,_] _) (iq _ _ _ _) oM (cx oM oM) oM (by have:=EX.le;have:=hLd.out;simp;omega) _ rfl ?_;intro gL cL wA hoA hgA hbA hlA;clear y0 y1 y2 y3 y4 y5 y6 y7 lI;have hB:=nx ((hR.inb.ext EX.out).alloc _) hgA (λ e=>hR.ne _ e rfl);have lI:=hB.lt;have gI:=hB.cells;have y0:=gI 0;have y1:=gI 1;have y2:=gI 2;have y3:=gI 3;have y4:=gI 4;have y5:=gI 5;have y6:=gI 6;have y7:=gI 7;simp only [cV,aJ,aN] at y0 y1 y2 y3 y4 y5 y6 y7;clear gI hB) | (go_simp;go_at_call 195;refine (hep.out _).mono ?_;rintro e w5 ⟨rfl,E5⟩;have EX:=aa ((ab wr).drew.trans E5);clear y0 y1 y2 y3 y4 y5 y6 y7 lI;have hB:=hR.inb.ext EX.out;have lI:=hB.lt;have gI:=hB.cells;have y0:=gI 0;have y1:=gI 1;have y2:=gI 2;have y3:=gI 3;have y4:=gI 4;have y5:=gI 5;have y6:=gI 6;have y7:=gI 7;simp only [cV,aJ,aN] at y0 y1 y2 y3 y4 y5 y6 y7;clear gI hB))
          all_goals
           have hP:=aa (hR.push (Q:=bQ i r cc) EX.out hoA hgA hbA);clear hoA hgA hbA hlA y0 y1 y2 y3 y4 y5 y6 y7 lI;go_wp2_with (fail);go_roundw
           case rel=>exact⟨cc+1,so gL 0,N+1,cL,oM,rfl,gN,by show ElI _ _ _ _ _ _ _ _ _;rw [MS,<-fc];exact hP.out⟩
           case measure=>exact mS
        . have e1:Hid (aK (ins.take k)++(List.range (r+1)).flatMap (gK i)=aK (ins.take k)++(List.range r).flatMap (gK i)++(List.range cc).map (bQ i r)):=by show _=_;rw [FD,fc,gK,show cc=i.c.toNat by omega]
          go_wp2_with (fail);go_roundw
          case rel=>exact⟨r+1,q,N,c,by have:=hrt.out;omega,rfl,gN,by show ElI _ _ _ _ _ _ _ _ _;rw [e1.out];exact hR0.out⟩
          case measure=>have:=hrt.out;simp [intOf];omega
     . have e1:Hid (aK (ins.take (k+1))=aK (ins.take k)++(List.range r).flatMap (gK i)):=by show _=_;rw [un hx.out,gi,show r=i.d.toNat by omega]
       go_wp2_with (fail);go_roundw
       case rel=>exact⟨k+1,q,N,c,oM,rfl,gN,by show World.ownsRow _ _ _ _ _ _ _;rw [e1.out];exact hR.own,hR.ext,hR.low⟩
       case measure=>exact mS
  . have hltI:¬ (k:Int)<n3:=oM;obtain rfl:k=n3:=oM;rw [cz hl.out (ai _)] at hO;obtain rfl:=FE hO.out;replace hE:=aa hE;go_wp2_with (fail);go_ret;exact⟨q,c,rfl,rQ hO.out oM,hE.out⟩
def kO (cells:List CeD) (n:Nat):List Int:=(List.range n).map λ(j:Nat)=>cn cells (j:Int)
theorem FF (cells:List CeD)(n:Nat):cS (kO cells (n+1))=cS (kO cells n)++[.int .i64 (cn cells (n:Int))]:=by simp [kO,cS,la]
theorem uo (cells:List CeD){n j:Nat}(h:j<n):(cS (kO cells n))[j]?=si (cn cells (j:Int)):=by rw [cS,kO,cK,cK,nK h];rfl
theorem xR {cells:List CeD}(hV:LibV cells){k:Int}(h:k<7):1<=cn cells k/\cn cells k<=594467302491009:=⟨pQ _ _,Int.le_trans (wS hV 7 k oM) (by decide)⟩
theorem FG {cells:List CeD}(hV:LibV cells){k:Int}(h:k<8):1<=cn cells k/\cn cells k<=76686282021340161:=⟨pQ _ _,Int.le_trans (wS hV 8 k oM) (by decide)⟩
theorem FH {cells:List CeD}(hV:LibV cells){k:Nat}(hk:k<=7){ins:List InD}(h:∀ i∈ins,dF k i)(h8:ins.length<=8)(j:Nat):0<=fD cells (ins.take j)/\fD cells (ins.take j)<=76091814718849152:=by
 have h1:=wR (cells:=cells) (k:=k) (K:=594467302491009) (λ x h1 h2=>(xR hV oM).2) (ins.take j) (λ i hi=>h i (oZ hi));have h2:(ins.take j).length<=8:=by rw [fI];omega
 omega
theorem rR:(prog.info? 2).map (λ i=>(i.zero,i.size,i.bytes))=some (some (.int .i64 0),1,8):=by kernel_rfl
theorem xS {cells:List CeD}{k:Nat}{x:CeD}(h:cells[k]?=some x):dQ cells (k:Int)=x.ins:=by rw [dQ,show ((k:Int)).toNat=k by omega,h]
theorem MW (cells:List CeD)(k:Nat)(p:OA)(n base:Nat)(w:World)(h:SlD CeR 4 base w p n cells)(hV:LibV cells)(hk:k<n) :
 CE 277 #[.agg #[sl p n n],(k:Int)] w (cn cells (k:Int):Int):=by
 obtain⟨i0,hi0,hz0,hz1,hz2⟩:=aM rR;have hl:=aa h.length;have hV2:=aa hV;obtain⟨b,off,x0,cs0,rfl,hb0,_,_,_⟩:=h.get hk;go_enter func277,ntmps277;go_upto_region 1 with (fail);generalize hW:World.alloc _ _=W0;obtain⟨E0,z0,b0⟩:=al hW;clear hW z0;replace b0:=cC b0;have⟨g0,l0⟩:=b0.gl;have E:=ab W0;obtain⟨N0,hN0⟩:∃ N0,N0=W0.heap.size:=⟨_,rfl⟩;have hlo:w.heap.size<N0:=by have:=b0.lt;omega
 have hst:=aa (dh (size:=1) (aD W0 [] 2) (ai _));rw [<-hN0] at hst;have hk8:k<8:=by have:=hV.len.2;have:=hl.out;omega
 go_wp2_with (fail);go_loopw [5,18] (λ v z wr=>∃ (i:Nat) (q:OA) (c:Nat),i<=k+1/\v=sl q i c/\z=.int .i64 (i:Int)/\Hid (wr.ownsRow N0 2 1 (sl q i c) i (cS (kO cells i)))/\Ext w wr/\Hid (N0<=wr.heap.size)) (λ _ z _=>k+1 - (intOf z).toNat)
 case atStart=>exact⟨0,_,_,oM,rfl,rfl,by rw [<-hN0];simpa [kO,cS] using hst,E0.alloc _,aa (by rw [hN0];simp)⟩
 case round =>
  clear hst b0 E0 g0 l0 E;obtain⟨i,q,c,hi,rfl,rfl,hO,hE,hlw⟩:=hrel;by_cases hlt:i<k+1
  . have hltI:(i:Int)<(k:Int)+1:=oM;obtain⟨b',off',x,cs,hp,hb,hx,hcs,hc⟩:=h.get (show i<n by omega)
    cases hp
    replace hc:=λ j v hv=>(hE.cells _ _ hb).trans (hc j v hv)
    have hb:=aF hb hE.le;obtain⟨p1,n1,c1,p2,n2,c2,p3,n3,c3,rfl,s1,s2,s3⟩:=hcs;have c0:=hc 0 _ rfl;rw [aq] at c0;have c1:=hc 1 _ rfl;have c2:=hc 2 _ rfl;have c3:=hc 3 _ rfl;clear hc;have hxi:=aa (hV2.ins _ _ hx.out);have hl3:=aa s3.length;replace s3:=aa s3;have h8:=aa (hV2.insLen _ _ hx.out);have hn3:n3<=8:=by have:=hl3.out;have:=h8.out;omega
    go_upto_region 5 with (fail);generalize hW2:World.alloc _ _=W2;obtain⟨E2,z2,bC⟩:=al hW2;clear hW2 z2;replace bC:=aa (show Blk W2 wr [_,_,_,_] _ from bC);have⟨g1,l1⟩:=bC.gl;have hO2:=aa (aG hO.out E2);have hE2:=hE.trans E2;have hlw2:=aa (aS hlw.out E2.le);go_upto_region 7 with (fail);clear g1 l1 c0 c1 c2 c3 hO hE hlw hb E2;go_loopw [8,25] (λ v z wx=>∃ j:Nat,j<=n3/\v=.int .i64 (1+fD cells (x.ins.take j))/\z=.int .i64 (j:Int)/\Hid (wx.ownsRow N0 2 1 (sl q i c) i (cS (kO cells i)))/\Ext w wx/\Hid (N0<=wx.heap.size)) (λ _ z _=>n3 - (intOf z).toNat)
    case atStart=>exact⟨0,oM,by simp [fD],rfl,hO2,hE2,hlw2⟩
    case round =>
     clear hO2 hE2 hlw2 bC;obtain⟨j,hj,rfl,rfl,hO,hE,hlw⟩:=hrel;have hS:=FH hV2.out (k:=i) oM hxi.out h8.out j;by_cases hjt:j<n3
     . have hjI:(j:Int)<n3:=oM;obtain⟨b3,off3,ii,cs3,rfl,hb3,hx3,hcs3,hc3⟩:=(s3.ext okInstance hE).get hjt;obtain rfl:cs3=cV ii:=hcs3;have c0:=hc3 0 _ rfl;rw [aq] at c0;have c1:=hc3 1 _ rfl;have c2:=hc3 2 _ rfl;have c3:=hc3 3 _ rfl;have c4:=hc3 4 _ rfl;have c5:=hc3 5 _ rfl;have c6:=hc3 6 _ rfl;have c7:=hc3 7 _ rfl;clear hc3;have hii:=hxi.out ii (ap hx3.out);unfold dF at hii;obtain⟨ia,hia⟩:∃ ia:Nat,ii.a=(ia:Int):=⟨ii.a.toNat,oM⟩;have hcc:=xR hV2.out (k:=ii.a) oM;have hpr:=wQ (a:=ii.c) (b:=ii.d) (c:=cn cells ii.a) (K:=594467302491009) oM oM hcc;have hst:=aa (Er cells hx3.out);have hcI:Hid (oz cells ii=ii.c*ii.d*cn cells ii.a):=rfl;rw [hia] at c0 hcc hpr hcI;have hiaI:(ia:Int)<(i:Int):=oM;obtain⟨gq,rfl⟩:=jy hO.out oM;have y0:=hO.cellAt ia oM;rw [uo cells oM] at y0;have yl:=(cM hO.out).2;have hf:=ey hO.out;go_upto_region 9 with (fail);generalize hW3:World.alloc _ _=W3;obtain⟨E3,z3,b4⟩:=al hW3;clear hW3 z3;replace b4:=aa (show Blk W3 wr [_,_,_,_,_,_,_,_] _ from b4);have⟨g4,l4⟩:=b4.gl;have y1:=(E3.cells _ ia yl).trans y0;have yl1:=aF yl E3.le;clear c0 c1 c2 c3 c4 c5 c6 c7 y0;refine aQ kR kR ?_;repeat (go_big_quiet_step (fail))
       refine bW ?_;rintro w7 ⟨⟨_,E7⟩,rfl⟩;have hO2:=aa (aG (aG hO.out E3) E7);have hE2:=(hE.trans E3).trans E7;have hlw2:=aa (aS hlw.out (aS E3.le E7.le));clear g4 l4 y1 yl1 hO hE;go_wp2_with (fail);go_roundw
       case rel=>exact⟨j+1,oM,by rw [hst.out,hcI.out,<-Int.add_assoc],gN,hO2,hE2,hlw2⟩
       case measure=>exact mS
     . have hjI:¬ (j:Int)<n3:=oM;obtain rfl:j=n3:=oM;have e1:Hid (1+fD cells (x.ins.take j)=cn cells (i:Int)):=by show _=_;rw [cz hl3.out (ai _),wP hV2.out,xS hx.out]
       rw [e1.out];obtain⟨S,hSS⟩:∃ S,S=cn cells (i:Int):=⟨_,rfl⟩;rw [<-hSS];clear hS;replace hSS:=aa hSS;go_wp2_with (at_builtin;refine cZ _ rfl _ _ 121 rfl N0 2 i0 (0:Int) 1 8 underlying121 hi0 hz0 hz1 hz2 rfl oM _ _ _ rfl (hO.alloc _) ⟨_,0,none⟩ 1 1 [.int .i64 S] rfl rfl (dg _ [_] _) (np _) (cx oM oM) oM (by have:=hlw.out;simp;omega) ?_;intro v2 wB hoB hgB hnB hbB;obtain⟨qB,cB,rfl⟩:=cq hoB);have e2:=aa (FF cells i);rw [<-hSS.out] at e2;have hE3:=aa ((hE.alloc _).grown hgB (λ a ha=>by have:=(hO.lt a ha).1;omega));have hlw3:=aa (aS hlw.out (show wr.heap.size<=wB.heap.size from aS (by simp) hgB.size));replace hoB:=aa hoB;clear hgB hnB hbB hE;go_roundw
       case rel=>exact⟨i+1,qB,cB,oM,rfl,gN,by show World.ownsRow _ _ _ _ _ _ _;rw [e2.out];exact hoB.out,hE3.out,hlw3⟩
       case measure=>exact mS
  . have hltI:¬ (i:Int)<(k:Int)+1:=oM;obtain rfl:i=k+1:=oM;obtain⟨gq,rfl⟩:=jy hO.out oM;have y0:=hO.cellAt k oM;rw [uo cells oM] at y0;have yl:=(cM hO.out).2;have hkI:(k:Int)<(((k+1:Nat):Int)):=oM;replace hE:=aa hE;exact nQ
def mG (cells:List CeD) (k:Int) (n:Nat):Int:=if dq cells=true then (if ae k 0 ((n:Int) - 1)=true then 0 else 5) else 1
theorem xT (cells:List CeD)(k:Int)(p:OA)(n base:Nat)(w:World)(h:SlD CeR 4 base w p n cells)(hn:n<=1048576)(hf:∀ x∈cells,dp x) :
 CE 221 #[.agg #[sl p n n],k] w (.bool (dq cells&&ae k 0 ((n:Int) - 1))):=by
 have hl:=aa h.length;have hlib:=λ W (hE:Ext w W)=>tI p n n base cells W (h.ext aL6 hE) oM hf
 have hin:=λ W=>jY k 0 ((n:Int) - 1) W
 cases h1:dq cells with
 | false => rw [h1] at hlib;replace hlib:=aa hlib;clear hin;go_enter func221,ntmps221;go_upto_region 1 with (fail);generalize hW:World.alloc _ _=W0;obtain⟨E0,z0,b0⟩:=al hW;clear hW z0;replace b0:=cC b0;have⟨g0,l0⟩:=b0.gl;have E:=ab W0;go_wp2_with (go_at_call 90;clear g0 l0;refine aR b0 E (hlib.out _ ((E0.trans E))) λ w3 E g0 l0=>?_);exact px
 | true =>
   rw [h1] at hlib;replace hlib:=aa hlib
   cases h2:ae k 0 ((n:Int) - 1) with
   | false => exact BU
   | true => exact BU
theorem MY (cells:List CeD)(k:Int)(p:OA)(n base:Nat)(w:World)(h:SlD CeR 4 base w p n cells)(hn:n<=1048576)(hf:∀ x∈cells,dp x) :
 CE 276 #[.agg #[sl p n n],k] w (mG cells k n:Int):=by
 have hl:=aa h.length;have hlib:=λ W (hE:Ext w W)=>DU p n n base cells W (h.ext aL6 hE) oM hf
 have hin:=λ W=>dd k 0 ((n:Int) - 1) W
 cases h1:dq cells with
 | false => rw [h1] at hlib;replace hlib:=aa hlib;clear hin;go_enter func276,ntmps276;go_upto_region 1 with (fail);generalize hW:World.alloc _ _=W0;obtain⟨E0,z0,b0⟩:=al hW;clear hW z0;replace b0:=cC b0;have⟨g0,l0⟩:=b0.gl;have E:=ab W0;go_wp2_with (go_at_call 112;clear g0 l0;refine aR b0 E (hlib.out _ ((E0.trans E))) λ w3 E g0 l0=>?_);go_ret;exact⟨by rw [mG,h1];rfl,E0.trans E⟩
 | true =>
   rw [h1] at hlib;replace hlib:=aa hlib
   cases h2:ae k 0 ((n:Int) - 1) with
   | false => exact zw
   | true => exact zw
theorem MZ (cells:List CeD)(k b off n base:Nat)(w:World)(h:SlD CeR 4 base w (so b off) n cells)(hB:dq cells=true)(hf:∀ x∈cells,dp x)(hk:k<n) :
 CE 222 #[.agg #[sm b off n n],(k:Int)] w (cn cells (k:Int):Int):=by
 obtain⟨i0,hi0,hz0,hz1,hz2⟩:=aM rR;have hl:=aa h.length;have hV2:=aa (LibV.of hB);have hk8:n<=8:=by have:=hV2.len.2;have:=hl.out;omega
 have hhas:=xT cells (k:Int) (so b off) n base;rw [hB,(wit_iff (v:=(k:Int)) (a:=0) (b:=(n:Int) - 1)).2 oM] at hhas;go_enter func222,ntmps222;go_upto_region 1 with (fail);generalize hW:World.alloc _ _=W0;obtain⟨E0,z0,b0⟩:=al hW;clear hW z0;replace b0:=cC b0;have⟨g0,l0⟩:=b0.gl;have E:=ab W0;go_wp2_with (go_at_call 221;refine (hhas _ (h.ext aL6 E0) oM hf).mono ?_;rintro e w3 ⟨rfl,E3⟩;replace E:=E.trans E3;clear g0 l0 E3 hhas;have⟨g0,l0⟩:=(b0.ext E).gl);obtain⟨N0,hN0⟩:∃ N0,N0=w3.heap.size:=⟨_,rfl⟩;have hlo:w.heap.size<N0:=oM;have hst:=aa (dh (size:=1) (aD w3 [] 2) (ai _));rw [<-hN0] at hst;have hE9:=aa ((E0.trans E).alloc (.cells #[] 2));have hb9:=aa ((b0.ext E).alloc (.cells #[] 2));clear g0 l0 b0 E E0;go_loopw [5,6] (λ v z wr=>∃ (i:Nat) (q:OA) (c:Nat),i<=n/\v=sl q i c/\z=.int .i64 (i:Int)/\Hid (wr.ownsRow N0 2 1 (sl q i c) i (cS (kO cells i)))/\Ext w wr/\Hid (N0<=wr.heap.size)/\Hid (Blk wr w [sm b off n n] 44)) (λ _ z _=>n - (intOf z).toNat)
 case atStart=>exact⟨0,_,_,oM,rfl,rfl,by rw [<-hN0];simpa [kO,cS] using hst,hE9.out,aa (by rw [hN0];simp),hb9⟩
 case round =>
  clear hst hE9 hb9;obtain⟨i,q,c,hi,rfl,rfl,hO,hE,hlw,hbx⟩:=hrel;have g0:=hbx.cells 0;simp only [aJ] at g0;have l0:=hbx.lt;by_cases hlt:i<n
  . have hltI:(i:Int)<n:=oM;obtain⟨b',off',x,cs,hp,hb,hx,hcs,hc⟩:=h.get (show i<n by omega)
    cases hp
    replace hc:=λ j v hv=>(hE.cells _ _ hb).trans (hc j v hv)
    have hb:=aF hb hE.le;obtain⟨p1,n1,c1,p2,n2,c2,p3,n3,c3,rfl,s1,s2,s3⟩:=hcs;have c0:=hc 0 _ rfl;rw [aq] at c0;have c1:=hc 1 _ rfl;have c2:=hc 2 _ rfl;have c3:=hc 3 _ rfl;clear hc;have hxi:=aa (hV2.ins _ _ hx.out);have hl3:=aa s3.length;replace s3:=aa s3;have h8:=aa (hV2.insLen _ _ hx.out);have hn3:n3<=8:=by have:=hl3.out;have:=h8.out;omega
    go_wp2_with (fail);clear g0 l0 c0 c1 c2 c3 hb;go_loopw [7,9] (λ v z wx=>∃ j:Nat,j<=n3/\v=.int .i64 (1+fD cells (x.ins.take j))/\z=.int .i64 (j:Int)/\Hid (wx.ownsRow N0 2 1 (sl q i c) i (cS (kO cells i)))/\Ext w wx/\Hid (N0<=wx.heap.size)/\Hid (Blk wx w [sm b off n n] 44)) (λ _ z _=>n3 - (intOf z).toNat)
    case atStart=>exact⟨0,oM,by simp [fD],rfl,hO,hE,hlw,hbx⟩
    case round =>
     clear hO hE hlw hbx;obtain⟨j,hj,rfl,rfl,hO,hE,hlw,hbx⟩:=hrel;have hS:=FH hV2.out (k:=i) oM hxi.out h8.out j;by_cases hjt:j<n3
     . have hjI:(j:Int)<n3:=oM;obtain⟨b3,off3,ii,cs3,rfl,hb3,hx3,hcs3,hc3⟩:=(s3.ext okInstance hE).get hjt;obtain rfl:cs3=cV ii:=hcs3;have c0:=hc3 0 _ rfl;rw [aq] at c0;have c1:=hc3 1 _ rfl;have c2:=hc3 2 _ rfl;have c3:=hc3 3 _ rfl;have c4:=hc3 4 _ rfl;have c5:=hc3 5 _ rfl;have c6:=hc3 6 _ rfl;have c7:=hc3 7 _ rfl;clear hc3;have hii:=hxi.out ii (ap hx3.out);unfold dF at hii;obtain⟨ia,hia⟩:∃ ia:Nat,ii.a=(ia:Int):=⟨ii.a.toNat,oM⟩;have hcc:=xR hV2.out (k:=ii.a) oM;have hpr:=wQ (a:=ii.c) (b:=ii.d) (c:=cn cells ii.a) (K:=594467302491009) oM oM hcc;have hst:=aa (Er cells hx3.out);have hcI:Hid (oz cells ii=ii.c*ii.d*cn cells ii.a):=rfl;rw [hia] at c0 hcc hpr hcI;have hiaI:(ia:Int)<(i:Int):=oM;obtain⟨gq,rfl⟩:=jy hO.out oM;have y0:=hO.cellAt ia oM;rw [uo cells oM] at y0;have yl:=(cM hO.out).2;go_upto_region 12 with (fail);refine aQ kR kR ?_;repeat (go_big_quiet_step (fail))
       refine bW ?_;rintro w7 ⟨⟨_,E7⟩,rfl⟩;have hO2:=aa (aG hO.out E7);have hE2:=hE.trans E7;have hlw2:=aa (aS hlw.out E7.le);have hb2:=aa (hbx.ext E7);clear y0 yl hO hE c0 c1 c2 c3 c4 c5 c6 c7;go_wp2_with (fail);go_roundw
       case rel=>exact⟨j+1,oM,by rw [hst.out,hcI.out,<-Int.add_assoc],gN,hO2,hE2,hlw2,hb2⟩
       case measure=>exact mS
     . have hjI:¬ (j:Int)<n3:=oM;obtain rfl:j=n3:=oM;have e1:Hid (1+fD cells (x.ins.take j)=cn cells (i:Int)):=by show _=_;rw [cz hl3.out (ai _),wP hV2.out,xS hx.out]
       rw [e1.out];obtain⟨S,hSS⟩:∃ S,S=cn cells (i:Int):=⟨_,rfl⟩;rw [<-hSS];replace hSS:=aa hSS;clear hS;go_wp2_with (at_builtin;refine cZ _ rfl _ _ 121 rfl N0 2 i0 (0:Int) 1 8 underlying121 hi0 hz0 hz1 hz2 rfl oM _ _ _ rfl (hO.alloc _) ⟨_,0,none⟩ 1 1 [.int .i64 S] rfl rfl (dg _ [_] _) (np _) (cx oM oM) oM (by have:=hlw.out;simp;omega) ?_;intro v2 wB hoB hgB hnB hbB;obtain⟨qB,cB,rfl⟩:=cq hoB);have e2:=aa (FF cells i);rw [<-hSS.out] at e2;have hE3:=aa ((hE.alloc _).grown hgB (λ a ha=>by have:=(hO.lt a ha).1;omega));have hlw3:=aa (aS hlw.out (show wr.heap.size<=wB.heap.size from aS (by simp) hgB.size));have hb3:=aa (nx (hbx.alloc _) hgB (λ ha=>by have:=(hO.lt _ ha).1;omega));replace hoB:=aa hoB;clear hgB hnB hbB hE;go_roundw
       case rel=>exact⟨i+1,qB,cB,oM,rfl,gN,by show World.ownsRow _ _ _ _ _ _ _;rw [e2.out];exact hoB.out,hE3.out,hlw3,hb3⟩
       case measure=>exact mS
  . have hltI:¬ (i:Int)<n:=oM;obtain rfl:i=n:=oM;obtain⟨gq,rfl⟩:=jy hO.out oM;have y0:=hO.cellAt k oM;rw [uo cells oM] at y0;have yl:=(cM hO.out).2;have hkI:(k:Int)<(i:Int):=oM;replace hE:=aa hE;exact nQ
structure OwnX {X:Type} (en:X->List Value) (hx:X->Hd) (tr te:TypeId) (sr sz base:Nat) (w:World) (q:OA) (n c:Nat) (H:List X) (V:List (List Value)):Prop where
 len:H.length=n
 lenV:V.length=n
 top:w.ownsRow base tr sr (sl q n c) n (H.flatMap en)
 row:∀ (k:Nat) (h:X) (v:List Value),H[k]?=some h->V[k]?=some v->w.ownsRow base te sz (ci (hx h)) (hx h).2.1 v
 apart:∀ (j k:Nat) (h h':X),j≠k->H[j]?=some h->H[k]?=some h'->∀ b,b∈ao (hx h).1->b∉ao (hx h').1
 under:∀ (k:Nat) (h:X),H[k]?=some h->∀ b,b∈ao (hx h).1->b∉ao q
def di {X:Type} (hx:X->Hd) (H:List X):List Nat:=H.flatMap λ(h:X)=>ao (hx h).1
section
variable {X:Type} {en:X->List Value} {hx:X->Hd} {tr te:TypeId} {sr sz base n c:Nat} {w w':World} {q:Option Addr} {H:List X} {V:List (List Value)}
theorem mem_rowsX {b:Nat} : b∈di hx H↔∃ (k:Nat) (h:X),H[k]?=some h/\b∈ao (hx h).1:=by rw [di,aL80];exact AD
theorem OwnX.nil (base:Nat)(w:World):OwnX en hx tr te sr sz base w none 0 0 [] []:=⟨rfl,rfl,pd _ _ _ _,(λ k h v hk=>by simp at hk),(λ j k h h' _ hj=>by simp at hj),(λ k h hk=>by simp at hk)⟩
theorem OwnX.start (h:w.ownsRow base tr sr (sl q 0 c) 0 []):OwnX en hx tr te sr sz base w q 0 c [] []:=⟨rfl,rfl,h,(λ k h v hk=>by simp at hk),(λ j k h h' _ hj=>by simp at hj),(λ k h hk=>by simp at hk)⟩
theorem OwnX.mut {S:List Nat}(h:OwnX en hx tr te sr sz base w q n c H V)(M:Mut w w' S)(h1:∀ b,b∈ao q->b∉S)(h2:∀ b,b∈di hx H->b∉S):OwnX en hx tr te sr sz base w' q n c H V:=by have pA:=@mem_rowsX;exact CU
theorem OwnX.ext (h:OwnX en hx tr te sr sz base w q n c H V)(hE:Ext w w'):OwnX en hx tr te sr sz base w' q n c H V:=h.mut (hE.mut []) (by simp) (by simp)
theorem OwnX.low {b':Nat}(h:OwnX en hx tr te sr sz base w q n c H V)(hb:b'<=base):OwnX en hx tr te sr sz b' w q n c H V:=zT
theorem OwnX.geTop (h:OwnX en hx tr te sr sz base w q n c H V):∀ b,b∈ao q->base<=b/\b<w.heap.size:=dE h.top
theorem OwnX.at (h:OwnX en hx tr te sr sz base w q n c H V){k:Nat}(hk:k<n):∃ x v,H[k]?=some x/\V[k]?=some v :=
 ⟨_,_,bK (by rw [h.len];exact hk),bK (by rw [h.lenV];exact hk)⟩
theorem OwnX.geRow (h:OwnX en hx tr te sr sz base w q n c H V):∀ b,b∈di hx H->base<=b/\b<w.heap.size:=by intro b hb;obtain⟨k,x,hx,hb⟩:=mem_rowsX.1 hb;exact AM
theorem OwnX.setRow (h:OwnX en hx tr te sr sz base w q n c H V){j:Nat}{x:X}{v:List Value}(hj:H[j]?=some x)(M:Mut w w' (ao (hx x).1))(hr:w'.ownsRow base te sz (ci (hx x)) (hx x).2.1 v):OwnX en hx tr te sr sz base w' q n c H (V.set j v):=by have pA:=hj;exact CL
theorem OwnX.push {qa:OA}{ca:Nat}{x:X}{v:List Value}(h:OwnX en hx tr te sr sz base w q n c H V)(hr:w.ownsRow base te sz (ci (hx x)) (hx x).2.1 v)(hnew:∀ b,b∈ao (hx x).1->b∉ao q/\b∉di hx H)
 (ht:w'.ownsRow base tr sr (sl qa (n+1) ca) (n+1) (H.flatMap en++en x)) (hg:w.grownBy w' (Value.slice q n c).ownBlock) (hq:∀ b,b∈ao qa->b∈ao q\/w.heap.size<=b):OwnX en hx tr te sr sz base w' qa (n+1) ca (H++[x]) (V++[v]):=by
 have hkeep:∀ {m:Nat} {y:Hd} {u:List Value},(∀ b,b∈ao y.1->b∉ao q)->w.ownsRow base te sz (ci y) m u->w'.ownsRow base te sz (ci y) m u:=by intro m y u hy ho;exact zN
 have hrow:∀ (k:Nat) (y:X),H[k]?=some y->∀ b,b∈ao (hx y).1->b∈di hx H:=λ k y hy b hb=>mem_rowsX.2 ⟨k,y,hy,hb⟩
 have hcase:∀ {α:Type} {l:List α} {z y:α} {k:Nat},(l++[z])[k]?=some y->(k<l.length/\l[k]?=some y)\/(k=l.length/\y=z):=by intro α l z y k hk;exact Ah
 have hb9:∀ b,b∈ao (hx x).1->b<w.heap.size:=λ b hb=>(dE hr b hb).2
 have pA:=hnew;have pB:=hb9;exact CG
theorem up {v v':Value}{q qa:OA}{n n' c ca N:Nat}(hq:(Value.slice qa n' ca).ownBlock=(Value.slice q n c).ownBlock\/(Value.slice qa n' ca).ownBlock=some N):∀ b,b∈ao qa->b∈ao q\/N<=b:=λ b hb=>by exact vu
end
def SlX {X α:Type} (en:X->List Value) (hx:X->Hd) (sr:Nat) (enc:α->List Value) (sz:Nat) (w:World) (q:OA) (n:Nat) (H:List X) (L:List (List α)):Prop:=SlT en sr w q n H/\L.length=n/\∀ (k:Nat) (h:X) (l:List α),H[k]?=some h->L[k]?=some l->SlT enc sz w (hx h).1 (hx h).2.1 l
section
variable {X α:Type} {en:X->List Value} {hx:X->Hd} {enc:α->List Value} {sr sz:Nat} {w w':World} {q:Option Addr} {n:Nat} {H:List X} {L:List (List α)}
theorem SlX.ext (h:SlX en hx sr enc sz w q n H L)(hE:Ext w w'):SlX en hx sr enc sz w' q n H L:=⟨h.1.ext hE,h.2.1,λ k x l hx hl=>(h.2.2 k x l hx hl).ext hE⟩
theorem OwnX.toX {tr te:TypeId}{base c:Nat}(hs:∀ x,(en x).length=sr)(hpos:0<sz)(hsz:∀ x,(enc x).length=sz)(h:OwnX en hx tr te sr sz base w q n c H (L.map (·.flatMap enc))):SlX en hx sr enc sz w q n H L:=by
 have hL:L.length=n:=by rw [<-h.lenV,dD]
 refine⟨bm hs h.len h.top,hL,λ k x l hk hl=>?_⟩;have ho:=h.row k x (l.flatMap enc) hk (by rw [cK,hl];rfl);refine bm hsz ?_ ho;have h1:=ho.1;rw [kC hsz] at h1;exact Nat.eq_of_mul_eq_mul_right hpos h1
end
end Go.Proofs.YtnlajnpcdnnpmaaGreat
