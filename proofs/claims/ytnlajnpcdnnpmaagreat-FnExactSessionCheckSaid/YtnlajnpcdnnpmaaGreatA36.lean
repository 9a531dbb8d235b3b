/- Part of a proof. No condition. -/
import Derived.Test.YtnlajnpcdnnpmaaGreatA35
namespace Go.Proofs.YtnlajnpcdnnpmaaGreat
set_option linter.all false
set_option maxRecDepth 100000
set_option maxHeartbeats 16000000
open Go.Proofs.Tryz Go.RowKit
theorem PP {w:World}{b b' size n:Nat}{e:TypeId}{v:Value}{xs:List Value}(h:w.ownsRow b e size v n xs)(hb:b'<=b):w.ownsRow b' e size v n xs :=
 ⟨h.1,h.2.elim ay (λ⟨g,cap,cur,hv,hg,r⟩=>aB ⟨g,cap,cur,hv,aS hb hg,r⟩)⟩
theorem Blk.quad {w:World}{P:Nat}{x:Q4}{t:TypeId}(h:Blk w P [x.a,x.b,x.c,x.d] t) :
 P<w.heap.size/\w.cell? (ad P 0)=si x.a/\w.cell? (ad P 1)=si x.b/\w.cell? (ad P 2)=si x.c/\w.cell? (ad P 3)=si x.d :=
 ⟨h.lt,h.cells 0,h.cells 1,h.cells 2,h.cells 3⟩
theorem PQ (A:List Q4)(r:Q4):ag (aU λ x y=>gh (gL A) x y||bj r x y)=ag (gL (A++[r])):=by
 rw [gL,gL];refine lA λ x y hc=>?_
 rw [iK _ hc,bA,bA,pi];simp
theorem G8 (q:OA)(n c:Nat)(L:List (List Q4))(w:World)(h:SlS w q n L)(hn:n<=1048576)(hv:∀ l∈L,l.length<=1048576/\∀ r∈l,iN r) :
 Calls prog 348 #[sl q n c] w (bH (ah (gL L.flatten)) w):=by
 have hl:=aa h.length;replace hv:=aa hv;go_enter func348,ntmps348;go_wp2;generalize hW:w.alloc _=W0;obtain⟨E0,z0,b0⟩:=al hW;clear hW;have hb0:Blk W0 w (ag (gL (L.take 0).flatten)) 269:=by rw [lG] at b0;show W0.heap[w.heap.size]?=_;rw [b0];simp only [List.take_zero,List.flatten_nil,gL,<-jC]
 clear b0;obtain⟨B,hB⟩:∃ B,B=w.heap.size:=⟨_,rfl⟩;rw [<-hB] at hb0 ⊢;replace hB:=aa hB;replace z0:=aa z0;replace hb0:=aa hb0;replace E0:=aa E0;go_loopw [12] (λ i wr=>∃ k:Nat,k<=n/\i=.int .i64 k/\Hid (Ext w wr)/\Hid (Blk wr B (ag (gL (L.take k).flatten)) 269)) (λ i _=>n - (intOf i).toNat)
 case atStart=>exact⟨0,oM,rfl,E0,hb0⟩
 case round =>
  clear hb0 E0 W0 z0;obtain⟨k,hk,rfl,hE,hb⟩:=hrel;by_cases hlt:k<n
  . have hltI:(k:Int)<(n:Int):=oM;obtain⟨b,off,q1,n1,c1,l1,rfl,hbn,hl1,z,t1⟩:=h.get hlt;have z:=(hE.cells b (off+k) hbn).trans z;have hbn:=aF hbn hE.le;have hvl:=aa (hv.out l1 (ap hl1.out));have hln:=aa t1.length;have t1:=aa t1;have hn1:n1<=1048576:=by rw [<-hln.out];exact hvl.1
    have hsn:Hid (ag (gL ((L.take k).flatten++l1))=ag (gL (L.take (k+1)).flatten)):=by show _=_;rw [ch hl1.out,List.flatten_append];simp
    obtain⟨A,hA⟩:∃ A,A=(L.take k).flatten:=⟨_,rfl⟩;rw [<-hA] at hb hsn;have hb':Hid (Blk wr B (ag (gL (A++l1.take 0))) 269):=by rw [List.take_zero,fP];exact hb
    clear hA hb;go_wp2;go_loopw [18] (λ i wr=>∃ j:Nat,j<=n1/\i=.int .i64 j/\Hid (Ext w wr)/\Hid (Blk wr B (ag (gL (A++l1.take j))) 269)) (λ i _=>n1 - (intOf i).toNat)
    case atStart=>exact⟨0,oM,rfl,hE,hb'⟩
    case round =>
     clear hE hb' z hbn;obtain⟨j,hj,rfl,hE,hb⟩:=hrel;by_cases hlt2:j<n1
     . have hltI2:(j:Int)<(n1:Int):=oM;obtain⟨b2,off2,x,rfl,hbn,hx,c0,c1,c2,c3⟩:=(t1.ext hE.out).four hlt2;have hBl:=hb.lt;have hvx:=aa (hvl.2 x (ap hx.out));have hsx:Hid (ag (aU λ u v=>gh (gL (A++l1.take j)) u v||bj x u v)=ag (gL (A++l1.take (j+1)))):=by show _=_;rw [PQ,ch hx.out,fc]
       clear hbn;go_wp2_with fail;have hb1:=hb.alloc (.cells #[.int .i64 x.a,.int .i64 x.b,.int .i64 x.c,.int .i64 x.d] 139);refine (nr B _ x _ hb1 hvx.out).mono ?_;rintro e w1 ⟨rfl,hb2,hM⟩;rw [hsx.out] at hb2;have hE1:=aa ((hE.alloc (.cells #[.int .i64 x.a,.int .i64 x.b,.int .i64 x.c,.int .i64 x.d] 139)).then hM (by intro k hk;simp at hk;rw [hk,hB.out];omega));clear hM c0 c1 c2 c3 hb1;replace hb2:=aa hb2;go_wp2_with fail;go_roundw
       case rel=>exact⟨j+1,oM,gN,hE1,hb2⟩
       case measure=>exact mS
     . have hltI2:¬ (j:Int)<(n1:Int):=oM;rw [cz hln.out oM,hsn.out] at hb;go_wp2_with fail;go_roundw
       case rel=>exact⟨k+1,oM,gN,hE,hb⟩
       case measure=>exact mS
  . have hltI:¬ (k:Int)<(n:Int):=oM;rw [cz hl.out oM] at hb;go_wp2_with fail;refine (mD B _ _ hb.out).mono ?_;rintro e w1 ⟨q1,c1,rfl,o1,E1⟩;have hE1:=aa (hE.trans E1);have o1:=aa (PP o1 hE.le);clear E1;go_wp2_with fail;go_ret;exact⟨q1,c1,rfl,o1.out,hE1.out⟩
def kS (r t:Q4):Bool:=(vR r&&vR t)&&vR (dI r t)
theorem G9 (p q:Q4)(x y:Int):bj (dI p q) x y=(bj p x y&&bj q x y):=by rw [aL62,cm,inR_iff,inR_iff,inR_iff];simp only [dI];omega
theorem PR {r t:Q4}(hr:vR r=true)(ht:vR t=true):kS r t=true↔∃ x y,bj r x y=true/\bj t x y=true:=by
 rw [kS,hr,ht,Bool.and_self,jv];have h1:=vR_iff.1 hr;have h2:=vR_iff.1 ht;constructor
 . intro h;have h3:=vR_iff.1 h;have h4:bj (dI r t) (dI r t).a (dI r t).b=true:=inR_iff.2 oM;rw [G9,cm] at h4;exact⟨_,_,h4.1,h4.2⟩
 . rintro⟨x,y,h3,h4⟩;have h5:bj (dI r t) x y=true:=by rw [G9,h3,h4];rfl
   rw [inR_iff] at h5;simp only [dI] at h5;rw [vR_iff];simp only [dI];omega
theorem PS (p q:Q4)(w:World) :
 CE 296 #[.agg #[p.a,p.b,p.c,p.d],.agg #[q.a,q.b,q.c,q.d]] w (.bool (kS p q)):=by
 have k1:=λ W=>mA p W
 have k2:=λ W=>mA q W
 have k3:=λ W=>mA (dI p q) W
 have k4:=aa (λ W=>Gx p q W);have hr:Hid (kS p q=((vR p&&vR q)&&vR (dI p q))):=rfl;obtain⟨C,hC⟩:∃ C,C=dI p q:=⟨_,rfl⟩;rw [<-hC] at k3 k4 hr;clear hC;obtain⟨b1,h1⟩:∃ b,b=vR p:=⟨_,rfl⟩;obtain⟨b2,h2⟩:∃ b,b=vR q:=⟨_,rfl⟩;obtain⟨b3,h3⟩:∃ b,b=vR C:=⟨_,rfl⟩;rw [<-h1] at k1 hr;rw [<-h2] at k2 hr;rw [<-h3] at k3 hr;replace k1:=aa k1;replace k2:=aa k2;replace k3:=aa k3;clear h1 h2 h3;go_enter func296,ntmps296;go_upto_region 1 with (fail);generalize hW:(w.alloc _).alloc _=W0;obtain⟨E0,z0,bp,bq⟩:=bV hW;clear hW;have bp:=aa (show Blk W0 w [p.a,p.b,p.c,p.d] _ from bp);have bq:=aa (show Blk W0 (w+1) [q.a,q.b,q.c,q.d] _ from bq);obtain⟨P,hP⟩:∃ P,P=w.heap.size:=⟨_,rfl⟩;rw [<-hP] at bp bq ⊢;replace hP:=aa hP;replace z0:=aa z0;replace E0:=aa E0;obtain⟨p9,p0,p1,p2,p3⟩:=bp.quad;obtain⟨q9,q0,q1,q2,q3⟩:=bq.quad
 cases b1 with
 | false => go_wp2_with fail;refine (k1.out _).mono ?_;rintro e w1 ⟨rfl,E1⟩;clear p0 p1 p2 p3 q0 q1 q2 q3 p9 q9;go_wp2_with fail;go_ret;exact⟨bu hr.symm,E0.trans E1⟩
 | true =>
   go_wp2_with fail;refine (k1.out _).mono ?_;rintro e w1 ⟨rfl,E1⟩;clear p0 p1 p2 p3 q0 q1 q2 q3 p9 q9;obtain⟨p9,p0,p1,p2,p3⟩:=(bp.ext E1).quad;obtain⟨q9,q0,q1,q2,q3⟩:=(bq.ext E1).quad;replace E1:=aa E1
   cases b2 with
   | false => go_wp2_with fail;refine (k2.out _).mono ?_;rintro e w2 ⟨rfl,E2⟩;clear p0 p1 p2 p3 q0 q1 q2 q3 p9 q9;go_wp2_with fail;go_ret;exact⟨bu hr.symm,E0.trans (E1.trans E2)⟩
   | true => go_wp2_with fail;refine (k2.out _).mono ?_;rintro e w2 ⟨rfl,E2⟩;clear p0 p1 p2 p3 q0 q1 q2 q3 p9 q9;obtain⟨p9,p0,p1,p2,p3⟩:=(bp.ext (E1.trans E2)).quad;obtain⟨q9,q0,q1,q2,q3⟩:=(bq.ext (E1.trans E2)).quad;replace E2:=aa (E1.trans E2);go_wp2_with fail;refine (k4.out _).mono ?_;rintro e w3 ⟨rfl,E3⟩;clear p0 p1 p2 p3 q0 q1 q2 q3 p9 q9;replace E3:=aa (E2.trans E3);go_wp2_with fail;refine (k3.out _).mono ?_;rintro e w4 ⟨rfl,E4⟩;go_wp2_with fail;go_ret;exact⟨bu hr.symm,E0.trans (E3.trans E4)⟩
def ql (l1 l2:List Q4):Bool:=l1.any λ r=>l2.any λ t=>kS r t
theorem Ha {α:Type}{p:α->Bool}{l:List α}{k:Nat}{x:α}(hx:l[k]?=some x)(hp:p x=true):l.any p=true:=aL59.2 ⟨x,ap hx,hp⟩
theorem PT (q1 q2:OA)(n1 n2 c1 c2:Nat)(l1 l2:List Q4)(w:World)(h1:SlT aj 4 w q1 n1 l1)(h2:SlT aj 4 w q2 n2 l2)(hn1:n1<=1048576)(hn2:n2<=1048576) :
 CE 202 #[sl q1 n1 c1,sl q2 n2 c2] w (.bool (ql l1 l2)):=by
 have hl1:=aa h1.length;have hl2:=aa h2.length;go_enter func202,ntmps202;go_wp2;go_loopw [11] (λ i wr=>∃ k:Nat,k<=n1/\i=.int .i64 k/\Hid ((l1.take k).any (λ r=>l2.any λ t=>kS r t)=false)/\Hid (Ext w wr)) (λ i _=>n1 - (intOf i).toNat)
 case atStart=>exact⟨0,oM,rfl,rfl,ab _⟩
 case round =>
  obtain⟨k,hk,rfl,hno,hE⟩:=hrel;by_cases hlt:k<n1
  . have hltI:(k:Int)<(n1:Int):=oM;obtain⟨b,off,x,rfl,hb,hx,z0,z1,z2,z3⟩:=(h1.ext hE.out).four hlt;go_upto_region 4 with (fail);generalize hW:wr.alloc _=W1;obtain⟨E1,sz1,b1⟩:=al hW;clear hW;have hB1:Hid (Blk W1 wr [x.a,x.b,x.c,x.d] 139):=b1;have hEw:=aa (hE.trans E1);obtain⟨X,hX⟩:∃ X,X=wr.heap.size:=⟨_,rfl⟩;rw [<-hX] at hB1 ⊢;have hst:=aa (λ hr:(l2.any λ t=>kS x t)=false=>jc hno.out hx.out hr);have hhit:=aa (λ(t:Q4) (m:Nat) (ht:l2[m]?=some t) (hc:kS x t=true)=>(Ha (p:=λ r=>l2.any λ t=>kS r t) hx.out (Ha ht hc):ql l1 l2=true));clear b1 sz1 hX E1 hE z0 z1 z2 z3 hb;go_wp2;go_loopw [17] (λ i wr=>∃ m:Nat,m<=n2/\i=.int .i64 m/\Hid ((l2.take m).any (λ t=>kS x t)=false)/\Hid (Ext W1 wr)) (λ i _=>n2 - (intOf i).toNat)
    case atStart=>exact⟨0,oM,rfl,rfl,ab _⟩
    case round =>
     obtain⟨m,hm,rfl,hno2,hE2⟩:=hrel;by_cases hlt2:m<n2
     . have hltI2:(m:Int)<(n2:Int):=oM;obtain⟨b2,off2,y,rfl,hb2,hy,y0,y1,y2,y3⟩:=(h2.ext (hEw.trans hE2.out)).four hlt2;go_upto_region 7 with (fail);generalize hW:wr.alloc _=W2;obtain⟨E3,sz3,b3⟩:=al hW;clear hW;have hB2:Blk W2 wr [y.a,y.b,y.c,y.d] 139:=b3;obtain⟨hXl,p0,p1,p2,p3⟩:=(hB1.ext (hE2.trans E3)).quad;obtain⟨hYl,r0,r1,r2,r3⟩:=hB2.quad;obtain⟨Y,hY⟩:∃ Y,Y=wr.heap.size:=⟨_,rfl⟩;rw [<-hY] at hYl r0 r1 r2 r3 ⊢;have hE5:=aa (hE2.trans E3);clear b3 sz3 hB2 hY y0 y1 y2 y3 hb2 hE2 E3;go_wp2_with fail;refine (PS x y _).mono ?_;rintro e w4 ⟨rfl,E4⟩;have hE6:=aa (hE5.trans E4);clear p0 p1 p2 p3 r0 r1 r2 r3 hXl hYl E4
       cases hc:kS x y with
       | true => have hr:=aa (hhit.out y m hy.out hc);have hE7:=aa (hEw.trans hE6.out);clear hc;go_wp2_with fail;go_ret;exact⟨bu hr.symm,hE7.out⟩
       | false =>
         have hn:=aa (jc hno2.out hy.out hc);clear hc;go_wp2_with fail;go_roundw
         case rel=>exact⟨m+1,oM,gN,hn,hE6⟩
         case measure=>exact mS
     . have hltI2:¬ (m:Int)<(n2:Int):=oM;rw [cz hl2.out oM] at hno2;have hn:=hst.out hno2.out;have hn:=aa hn;have hE3:=aa (hEw.trans hE2.out);go_wp2;go_roundw
       case rel=>exact⟨k+1,oM,gN,hn,hE3⟩
       case measure=>exact mS
  . have hltI:¬ (k:Int)<(n1:Int):=oM;rw [cz hl1.out oM] at hno;go_wp2;go_ret;exact⟨bu hno.symm,hE.out⟩
open Go.PlainAid
theorem PU {A:ac}{l:List Q4}{j:Nat}{r:Q4}(h:l[j]?=some r):ag (aU λ x y=>gh (aU λ x y=>gh A x y||bA (l.take j) x y) x y||bj r x y)=ag (aU λ x y=>gh A x y||bA (l.take (j+1)) x y) :=
 lA λ x y hc=>by rw [iK _ hc,ch h,tM,Bool.or_assoc];simp [bA]
theorem PV (A:ac)(l:List Q4):ag A=ag (aU λ x y=>gh A x y||bA (l.take 0) x y):=by rw [tY];exact lA λ x y _=>by simp [bA]
theorem PW (A:ac)(l:List Q4):ag (aU λ x y=>gh A x y||bA l x y)=ag (iT A (gL l)):=lA λ x y hc=>by rw [sp _ hc]
theorem PY (a b:ac)(v:Bool):fE a b v=(gQ (iT a b) v).filter (eB a b v):=NB a b v
structure GbI (w:World) (B1 B2 B3 BF:Nat) (A B:ac) (W:World) (q:OA) (c:Nat) (L:List Q4):Prop where
 ext:Ext w W
 own:W.ownsRow w 139 4 (sl q L.length c) L.length (L.flatMap aj)
 b1:Blk W B1 (ag A) 269
 b2:Blk W B2 (ag B) 269
 b3:Blk W B3 (ag (iT A B)) 269
 bf:Blk W BF [.bool false,.bool true] 4
 ne:∀ k,(Value.slice q L.length c).ownBlock=some k->k≠B1/\k≠B2/\k≠B3/\k≠BF
theorem GbI.later {w W W':World}{B1 B2 B3 BF c:Nat}{A B:ac}{q:OA}{L:List Q4}(h:GbI w B1 B2 B3 BF A B W q c L)(E:Ext W W'):GbI w B1 B2 B3 BF A B W' q c L :=
 ⟨h.ext.trans E,aG h.own E,h.b1.ext E,h.b2.ext E,h.b3.ext E,h.bf.ext E,h.ne⟩
theorem GbI.push {w W wA:World}{B1 B2 B3 BF c ca:Nat}{A B:ac}{q qa:OA}{L:List Q4}{s:Q4}{o:Obj}(h:GbI w B1 B2 B3 BF A B W q c L)(hoA:wA.ownsRow w 139 4 (sl qa (L.length+1) ca) (L.length+1) (L.flatMap aj++aj s))
 (hgA:(W.alloc o).grownBy wA (Value.slice q L.length c).ownBlock) (hbA:(Value.slice qa (L.length+1) ca).ownBlock=(Value.slice q L.length c).ownBlock\/(Value.slice qa (L.length+1) ca).ownBlock=some (W.alloc o).heap.size):GbI w B1 B2 B3 BF A B wA qa ca (L++[s]):=by
 have h5:=h.later ((ab W).alloc o);have hlen:(L++[s]).length=L.length+1:=by rw [aI];rfl
 refine⟨h5.ext.grown hgA (λ k hk=>(h.own.lt k hk).1),by rw [hlen,dj];simpa using hoA,h5.b1.grownR hgA λ e=>(h.ne _ e).1 rfl,h5.b2.grownR hgA λ e=>(h.ne _ e).2.1 rfl,h5.b3.grownR hgA λ e=>(h.ne _ e).2.2.1 rfl,h5.bf.grownR hgA λ e=>(h.ne _ e).2.2.2 rfl,λ k hk=>?_⟩;rw [hlen] at hk;rcases hbA with e | e
 . exact h.ne k (e▸hk)
 . rw [e] at hk
   cases hk
   have l1:=h5.b1.lt;have l2:=h5.b2.lt;have l3:=h5.b3.lt;have l4:=h5.bf.lt;omega
structure RunI (N:Nat) (W:World) (qr:OA) (cr:Nat) (R:List Q4) (q:OA) (n c:Nat):Prop where
 run:W.ownsRow N 139 4 (sl qr R.length cr) R.length (R.flatMap aj)
 ne:∀ k,(Value.slice q n c).ownBlock=some k->(Value.slice qr R.length cr).ownBlock≠some k
theorem RunI.later {N:Nat}{W W':World}{qr q:OA}{cr n c:Nat}{R:List Q4}(h:RunI N W qr cr R q n c)(E:Ext W W'):RunI N W' qr cr R q n c:=⟨aG h.run E,h.ne⟩
theorem RunI.push {N:Nat}{W wA:World}{qr q qa:OA}{cr n n' c ca:Nat}{R:List Q4}{o:Obj}(h:RunI N W qr cr R q n c)(hgA:(W.alloc o).grownBy wA (Value.slice q n c).ownBlock)(hbA:(Value.slice qa n' ca).ownBlock=(Value.slice q n c).ownBlock\/(Value.slice qa n' ca).ownBlock=some (W.alloc o).heap.size):RunI N wA qr cr R qa n' ca:=by
 have h5:=h.later ((ab W).alloc o);refine⟨h5.run.kept hgA ?_,λ k hk=>?_⟩
 . exact AR
 . exact AK
theorem PZ (v:Bool)(B:Nat)(g:ac)(w:World)(hb:Blk w B (ag g) 269):Calls prog 372 #[.pointer (so B 0),.bool v] w (bH (gQ g v) w):=by
 cases v with
 | false=>exact GH B g w hb
 | true=>exact GI B g w hb
theorem Hb (w:World)(o1 o2:Obj):Ext w ((w.alloc o1).alloc o2).drew:=(((ab w).alloc o1).alloc o2).drew
theorem Hc (w:World)(o2:Obj)(cs:List Value)(t:TypeId):Blk ((w.alloc (.cells cs.toArray t)).alloc o2).drew w cs t:=((aD w cs t).alloc o2).drew
theorem He (w:World)(o1:Obj)(cs:List Value)(t:TypeId):Blk ((w.alloc o1).alloc (.cells cs.toArray t)).drew (w+1) cs t:=by have h:=aD (w.alloc o1) cs t;rw [show (w.alloc o1).heap.size=w.heap.size+1 by simp] at h;exact h.drew
def kr (a b:ac) (j:Nat):List Q4:=if j=0 then [] else if j=1 then fE a b false else eW a b
theorem P0 (a b:ac)(j:Nat):(kr a b j).length<=12800:=by
 unfold kr
 split
 . simp
 split
 . have:=su a b false;omega
 . exact uO a b
theorem P1 (q1 q2:OA)(n1 n2 c1 c2:Nat)(l1 l2:List Q4)(w:World)(h1:SlT aj 4 w q1 n1 l1)(h2:SlT aj 4 w q2 n2 l2)(hn1:n1<=1048576)(hn2:n2<=1048576)(hv1:∀ r∈l1,iN r)(hv2:∀ r∈l2,iN r) :
 Calls prog 349 #[sl q1 n1 c1,sl q2 n2 c2] w (bH (eW (gL l1) (gL l2)) w):=by
 obtain⟨i0,hi,hz0,hz1,hz2⟩:=aM gm;have hl2:=aa h2.length;have hca:=aa (λ W (hE:Ext w W)=>ns q1 n1 c1 l1 W (h1.ext hE) hn1 hv1);have hcb:=aa (λ W (hE:Ext w W)=>ns q2 n2 c2 l2 W (h2.ext hE) hn2 hv2);replace hv2:=aa hv2;clear hv1;go_enter func349,ntmps349;go_upto_region 2 with (first | (go_at_call 284;(with_reducible refine (hca.out _ (ab _)).mono ?_);rintro e w1 ⟨B1,rfl,lo1,b1,E1⟩;replace b1:=aa b1;replace E1:=aa E1) | (go_at_call 284;(with_reducible refine (hcb.out _ E1.out).mono ?_);rintro e w2 ⟨B2,rfl,lo2,b2,E2⟩;replace b2:=aa b2;replace b1:=aa (b1.ext E2);replace E2:=aa (E1.trans E2)) | fail);have ho0:=dh (size:=4) (aD w2 [] 139) (ai _);generalize hW:w2.alloc _=W0 at ho0 ⊢;have E0:Ext w2 W0:=by rw [<-hW];exact (ab _).alloc _
 clear hW;have b10:=aa (b1.ext E0);have b20:=aa (b2.ext E0);have hl0:=(cM ho0).2;have b1lt:=aa (b1.lt);have b2lt:=aa (b2.lt);have hw0s:=E0.le;replace E0:=aa (E2.trans E0);replace ho0:=aa ho0;clear b1 b2;have hq1:=b10.lt;have hq2:=b20.lt;have hwW:=E0.le;go_wp2_with (first | (go_at_call 284;(with_reducible refine (hca.out _ E0.out).mono ?_);rintro e w3 ⟨B3,rfl,lo3,b3,E3⟩;replace b3:=aa b3;replace b10:=aa (b10.ext E3);replace b20:=aa (b20.ext E3);replace ho0:=aa (aG ho0.out E3);replace E0:=aa (E0.trans E3);have w0w3:=aa E3.le;clear E3) | fail);have hB1:=b10.lt;have hne13:B1≠B3:=oM;have hne23:B2≠B3:=oM;have hB3w:w.heap.size<=B3:=oM;have hb3:=b3.out;rw [PV (gL l1) l2] at hb3;replace hb3:=aa hb3;go_loopw [26] (λ i wx=>∃ j:Nat,j<=n2/\i=.int .i64 j/\Hid (Mut w3 wx [B3])/\Hid (Blk wx B3 (ag (aU λ x y=>gh (gL l1) x y||bA (l2.take j) x y)) 269)) (λ i _=>n2 - (intOf i).toNat)
 case atStart=>exact⟨0,oM,rfl,fw _ _,hb3⟩
 case round =>
  clear hb3;obtain⟨j,hj,rfl,hM,hb⟩:=hrel;have hBl:=hb.lt;have hEw:=aa (E0.then hM.out (by intro k hk;simp at hk;omega));have h2w:SlT aj 4 wr q2 n2 l2:=h2.ext hEw.out;by_cases hjt:j<n2
  . have hjI:(j:Int)<(n2:Int):=oM;obtain⟨b,off,s,rfl,hbn,hs,c0,c1,c2x,c3x⟩:=h2w.four hjt;have hnr:=aa (hv2.out s (ap hs.out));have hst:=aa (PU (A:=gL l1) hs.out);have hbA:=λ(o:Obj)=>aa (hb.alloc o)
    go_wp2_with (first | (go_at_call 188;(with_reducible refine (nr B3 _ s _ (hbA _).out hnr.out).mono ?_);rintro e w9 ⟨rfl,hb2,hM9⟩) | fail);have hb3:=aa (show Blk w9 B3 (ag (aU λ x y=>gh (gL l1) x y||bA (l2.take (j+1)) x y)) 269 from by rw [<-hst.out];exact hb2);have hM3:=aa ((hM.alloc (.cells #[.int .i64 s.a,.int .i64 s.b,.int .i64 s.c,.int .i64 s.d] 139)).same hM9);clear hM9 hb2;go_wp2_with (fail);go_roundw
    case rel=>exact⟨j+1,oM,gN,hM3,hb3⟩
    case measure=>exact mS
  . have hjI:¬ (j:Int)<(n2:Int):=oM;rw [cz hl2.out oM,PW] at hb;have b1w:=aa (b10.mut hM.out (by simp;exact hne13));have b2w:=aa (b20.mut hM.out (by simp;exact hne23));have how:=aa (hM.grownBy (by intro g hg hh;simp [Value.ownBlock] at hg;simp at hh;omega) ho0.out);clear h2w b10 b20 ho0 b3 hBl;obtain⟨wo,rfl⟩:∃ wo,wo=wr:=⟨wr,rfl⟩;go_upto_region 9 with (fail);generalize hW8:World.alloc _ _=W8;obtain⟨E8,z8,b8⟩:=al hW8;clear hW8 z8
    have hI0:Hid (GbI w B1 B2 B3 wo (gL l1) (gL l2) W8 (so w2 0) 0 []):=aa ⟨hEw.trans E8,fi (aG how.out E8) E2.le,b1w.ext E8,b2w.ext E8,hb.ext E8,b8,λ k hk=>by
     have hk2:k=w2.heap.size:=by simpa [Value.ownBlock] using hk.symm
     have h7:=hM.size;have h8:=b2lt.out;have h9:=b1lt.out;have h10:=w0w3.out;omega⟩
    clear b1w b2w hb how hEw E8 b8 hM;go_loopw [7,36] (λ vo iv wx=>∃ (j:Nat) (q:OA) (c:Nat),j<=2/\vo=sl q (kr (gL l1) (gL l2) j).length c/\iv=.int .i64 j/\Hid (GbI w B1 B2 B3 wo (gL l1) (gL l2) wx q c (kr (gL l1) (gL l2) j))) (λ _ i _=>2 - (intOf i).toNat)
    case atStart=>exact⟨0,_,_,oM,rfl,rfl,hI0⟩
    case round =>
     clear hI0;obtain⟨j,q,c,hj,rfl,rfl,hI⟩:=hrel;have gf:=hI.bf.cells;have lf:=hI.bf.lt;by_cases hjt:j<2
     . have hjI:(j:Int)<2:=oM
       obtain⟨v,hv⟩:∃ v,Hid (kr (gL l1) (gL l2) (j+1)=kr (gL l1) (gL l2) j++fE (gL l1) (gL l2) v/\wr.cell? (ad wo j)=some (.bool v)):=by
        rcases (show j=0\/j=1 by omega) with rfl | rfl
        . exact⟨false,aa ⟨by simp [kr],gf 0⟩⟩
        . exact⟨true,aa ⟨by simp [kr,eW],gf 1⟩⟩
       obtain⟨R,hR⟩:∃ R,Hid (gQ (iT (gL l1) (gL l2)) v=R):=⟨_,aa rfl⟩;have hR6:Hid (R.length<=6400):=aa (by rw [<-hR.out];exact sk _ _);have hRv:Hid (∀ r∈R,vR r=true):=aa (by rw [<-hR.out];exact yu);have hgp:=λ(W:World) (h2:Blk W B3 (ag (iT (gL l1) (gL l2))) 269)=>PZ v B3 (iT (gL l1) (gL l2)) W h2
       rw [hR.out] at hgp;replace hgp:=aa hgp;have g0:=hv.2;clear gf;go_wp2_with (first | (go_at_call 372;(with_reducible refine (hgp.out _ hI.out.b3).mono ?_);rintro e w5 ⟨q5,c5,rfl,o5,E5⟩;have hI5:=aa (hI.later E5);have hR0:=aa (⟨o5,λ k hk hr=>by have h7:=(hI.own.lt k hk).2;have h8:=(o5.lt k hr).1;omega⟩:RunI wr w5 q5 c5 R q _ c);clear o5 E5) | fail);obtain⟨wp,rfl⟩:∃ wp,wp=wr:=⟨wr,rfl⟩;have hL0:Hid (kr (gL l1) (gL l2) j=kr (gL l1) (gL l2) j++(R.take 0).filter (eB (gL l1) (gL l2) v)):=aa (by simp);go_loopw [7,44] (λ vo iv wx=>∃ (k:Nat) (L:List Q4) (q:OA) (c:Nat),k<=R.length/\vo=sl q L.length c/\iv=.int .i64 k/\Hid (L=kr (gL l1) (gL l2) j++(R.take k).filter (eB (gL l1) (gL l2) v))/\Hid (GbI w B1 B2 B3 wo (gL l1) (gL l2) wx q c L)/\Hid (RunI wp wx q5 c5 R q L.length c)) (λ _ i _=>R.length - (intOf i).toNat)
       case atStart=>exact⟨0,_,_,_,oM,rfl,rfl,hL0,hI5,hR0⟩
       case round =>
        clear hI5 hR0 hL0;obtain⟨k,L,q,c,hk,rfl,rfl,hL,hI,hRu⟩:=hrel;have hR64:=hR6.out;have hnL:L.length<=30000:=by rw [hL.out,aI];have h0:=P0 (gL l1) (gL l2) j;have h1:=jU (eB (gL l1) (gL l2) v) (R.take k);have h2:(R.take k).length<=k:=md _ _;have:=hR6.out;omega
        by_cases hkt:k<R.length
        . have hkI:(k:Int)<(R.length:Int):=oM;obtain⟨b,off,s,rfl,hbn,hs,c0,c1,c2x,c3x⟩:=(bm (l:=R) cw rfl hRu.run).four hkt;have hsv:=hRv.out s (ap hs.out);obtain⟨⟨sa,sb,sc⟩,sd,se,sf⟩:=vR_iff.1 hsv;clear hsv;go_upto_region 14 with (fail);generalize hW8:World.alloc _ _=W8;obtain⟨E8,z8,b8⟩:=al hW8;clear hW8 z8;replace b8:=aa (show Blk W8 wr [s.a,s.b,s.c,s.d] _ from b8);have g8:=b8.cells;have k0:=g8 0;have k1:=g8 1;have k2:=g8 2;have k3:=g8 3;simp only [aJ,aN] at k0 k1 k2 k3;have l8:=b8.lt;have l81:wr.heap.size<W8.heap.size+1:=oM;have l82:wr.heap.size<W8.heap.size+1+1:=oM;have hI8:=aa (hI.later E8);have hRu8:=aa (hRu.later E8);have hEr8:=aa E8;clear g8 c0 c1 c2x c3x hbn E8
          refine jh (λ a0 a' w'=>∃ M1 M2:Nat,(Ext W8 w'/\W8.heap.size<=M1/\W8.heap.size<=M2/\M1≠M2/\Blk w' M1 [(s.a - 1:Int),s.b] 248/\Blk w' M2 [s.c,s.b] 248) /\
           a'=(((((((((((((a0.put (some 48) (.pointer (so wr 0))).put (some 49) s.a).put (some 50) (s.a - 1:Int)).put (some 51) (.pointer (so wr 1))).put (some 52) s.b).put (some 53) (.agg #[(s.a - 1:Int),s.b])).put (some 54) (.pointer (so wr 2))).put (some 55) s.c).put (some 56) (.pointer (so wr 1))).put (some 57) s.b).put (some 58) (.agg #[s.c,s.b])).put (some 15) (.pointer (so M1 0))).put (some 16) (.pointer (so M2 0)))) ?_ ?_
          . go_region
            all_goals first
             | (refine⟨W8.heap.size,W8.heap.size+1,⟨Hb _ _ _,oM,oM,oM,Hc _ _ _ _,He _ _ _ _⟩,?_⟩;simp only [Act.put,dn,aW,aY];done)
             | (refine⟨W8.heap.size+1,W8.heap.size,⟨Hb _ _ _,oM,oM,oM,He _ _ _ _,Hc _ _ _ _⟩,?_⟩;simp only [Act.put,dn,aW,aY];done)
             | fail
          rintro a' W9 ⟨M1,M2,⟨E9,hM1,hM2,hM12,p1,p2⟩,rfl⟩;simp only [Act.put,dn,aW,aY];have b9:=aa (b8.ext E9);have hI9:=aa (hI8.later E9);have hRu9:=aa (hRu8.later E9);have hEr:=aa (hEr8.trans E9);have h0M:wr.heap.size<M1/\wr.heap.size<M2:=oM;clear k0 k1 k2 k3 l8 l81 l82 b8 hI8 hRu8 E9 hM1 hM2
          cases v with
          | false =>
            have q1h:=aa p1;have q2h:=aa p2;clear p1 p2;have⟨g8,l8⟩:=q1h.gl;have⟨g9,l9⟩:=q2h.gl;have EV:=aa (ab W9);obtain⟨A1,hA1⟩:∃ A1,gh (gL l1) (s.a - 1) (s.b)=A1:=⟨_,rfl⟩;obtain⟨Bb,hBb⟩:∃ Bb,gh (gL l2) (s.c) (s.b)=Bb:=⟨_,rfl⟩;obtain⟨Ba,hBa⟩:∃ Ba,gh (gL l2) (s.a - 1) (s.b)=Ba:=⟨_,rfl⟩;obtain⟨Ab,hAb⟩:∃ Ab,gh (gL l1) (s.c) (s.b)=Ab:=⟨_,rfl⟩;have hends:eB (gL l1) (gL l2) false s=((A1&&Bb)||(Ba&&Ab)):=by rw [<-hA1,<-hBb,<-hBa,<-hAb];rfl
            have m1:=λ(V:World) (hV:Ext W9 V)=>km B1 (gL l1) (s.a - 1) (s.b) V (hI9.b1.ext hV)
            have m2:=λ(V:World) (hV:Ext W9 V)=>km B2 (gL l2) (s.c) (s.b) V (hI9.b2.ext hV)
            have m3:=λ(V:World) (hV:Ext W9 V)=>km B2 (gL l2) (s.a - 1) (s.b) V (hI9.b2.ext hV)
            have m4:=λ(V:World) (hV:Ext W9 V)=>km B1 (gL l1) (s.c) (s.b) V (hI9.b1.ext hV)
            rw [hA1] at m1;rw [hBb] at m2;rw [hBa] at m3;rw [hAb] at m4;replace m1:=aa m1;replace m2:=aa m2;replace m3:=aa m3;replace m4:=aa m4;clear hA1 hBb hBa hAb;have hsz8:=aa hI9.ext.le;have⟨gr,lr⟩:=b9.gl
            cases hen:eB (gL l1) (gL l2) false s with
            | true => have pA:=hI9;have pB:=hRu9;exact CD
            | false => have pA:=hI9;have pB:=hRu9;exact CF
          | true =>
            have g9:=b9.cells;have k0:=g9 0;have k1:=g9 1;have k3:=g9 3;simp only [aJ,aN] at k0 k1 k3;have l9:=b9.lt;have f1:=p1.free;have f2:=p2.free;have c10:=p1.cells 0;have c11:=p1.cells 1;have c20:=p2.cells 0;have c21:=p2.cells 1;simp only [aJ,aN] at c10 c11 c20 c21;have lp1:=p1.lt;have lp2:=p2.lt;have hn1:M1≠wr.heap.size:=oM;have hn2:M2≠wr.heap.size:=oM;replace p1:=aa p1;replace p2:=aa p2;clear g9;go_upto_region 16 with (fail)
            refine jh (λ a0 a' w'=>(Ext wr w'/\Mut W9 w' [M1,M2]/\Blk w' M1 [s.a,(s.b - 1:Int)] 248/\Blk w' M2 [s.a,s.d] 248) /\
             a'=(((((((((((a0.put (some 60) (.pointer (so wr 0))).put (some 61) s.a).put (some 62) (.pointer (so wr 1))).put (some 63) s.b).put (some 64) (s.b - 1:Int)).put (some 65) (.agg #[s.a,(s.b - 1:Int)])).put (some 66) (.pointer (so wr 0))).put (some 67) s.a).put (some 68) (.pointer (so wr 3))).put (some 69) s.d).put (some 70) (.agg #[s.a,s.d]))) ?_ ?_
            . go_region
              all_goals
               refine⟨⟨((((hEr.setCell (p:=(ad M1 0)) (by dsimp only;omega) _).setCell (p:=(ad M1 1)) (by dsimp only;omega) _).setCell (p:=(ad M2 0)) (by dsimp only;omega) _).setCell (p:=(ad M2 1)) (by dsimp only;omega) _).drew,(((((fw W9 [M1,M2]).setCell (p:=(ad M1 0)) (by simp) _).setCell (p:=(ad M1 1)) (by simp) _).setCell (p:=(ad M2 0)) (by simp) _).setCell (p:=(ad M2 1)) (by simp) _).drew,((((p1.set 0 _).set 1 _).other 0 _ hM12).other 1 _ hM12).drew,((((p2.other 0 _ hM12.symm).other 1 _ hM12.symm).set 0 _).set 1 _).drew⟩,?_⟩;simp only [Act.put,dn,aW,aY]
            rintro a' WX ⟨⟨EX,MX,r1,r2⟩,rfl⟩;simp only [Act.put,dn,aW,aY];have hIX:=aa (hI.later EX);have hRX:=aa (hRu.later EX);have bX:=aa (b9.mut MX (by simp;omega));clear b9 k0 k1 k3 l9 f1 f2 c10 c11 c20 c21 lp1 lp2 p1 p2 EX MX hI9 hRu9;obtain⟨b9,-⟩:Hid (Blk WX wr [s.a,s.b,s.c,s.d] 139)/\True:=⟨bX,trivial⟩;have q1h:=aa r1;have q2h:=aa r2;clear r1 r2;have⟨g8,l8⟩:=q1h.gl;have⟨g9,l9⟩:=q2h.gl;have EV:=aa (ab WX);obtain⟨A1,hA1⟩:∃ A1,gh (gL l1) (s.a) (s.b - 1)=A1:=⟨_,rfl⟩;obtain⟨Bb,hBb⟩:∃ Bb,gh (gL l2) (s.a) (s.d)=Bb:=⟨_,rfl⟩;obtain⟨Ba,hBa⟩:∃ Ba,gh (gL l2) (s.a) (s.b - 1)=Ba:=⟨_,rfl⟩;obtain⟨Ab,hAb⟩:∃ Ab,gh (gL l1) (s.a) (s.d)=Ab:=⟨_,rfl⟩;have hends:eB (gL l1) (gL l2) true s=((A1&&Bb)||(Ba&&Ab)):=by rw [<-hA1,<-hBb,<-hBa,<-hAb];rfl
            have m1:=λ(V:World) (hV:Ext WX V)=>km B1 (gL l1) (s.a) (s.b - 1) V (hIX.b1.ext hV)
            have m2:=λ(V:World) (hV:Ext WX V)=>km B2 (gL l2) (s.a) (s.d) V (hIX.b2.ext hV)
            have m3:=λ(V:World) (hV:Ext WX V)=>km B2 (gL l2) (s.a) (s.b - 1) V (hIX.b2.ext hV)
            have m4:=λ(V:World) (hV:Ext WX V)=>km B1 (gL l1) (s.a) (s.d) V (hIX.b1.ext hV)
            rw [hA1] at m1;rw [hBb] at m2;rw [hBa] at m3;rw [hAb] at m4;replace m1:=aa m1;replace m2:=aa m2;replace m3:=aa m3;replace m4:=aa m4;clear hA1 hBb hBa hAb;have hsz8:=aa hIX.ext.le;have⟨gr,lr⟩:=b9.gl
            cases hen:eB (gL l1) (gL l2) true s with
            | true => have pA:=hIX;have pB:=hRX;exact CD
            | false => have pA:=hIX;have pB:=hRX;exact CF
        . have hkI:¬ (k:Int)<(R.length:Int):=oM;have hfin:Hid (kr (gL l1) (gL l2) (j+1)=L):=aa (by rw [hL.out,eE oM,<-hR.out,<-PY,hv.1]);go_wp2_with (fail);go_roundw
          case rel=>exact⟨j+1,q,c,oM,by rw [hfin.out],gN,aa (by rw [hfin.out];exact hI.out)⟩
          case measure=>exact mS
     . have hjI:¬ (j:Int)<2:=oM;obtain rfl:j=2:=oM;go_wp2_with (fail);go_ret;exact⟨q,c,rfl,hI.own,hI.ext⟩
theorem P2 (q q2:OA)(n c n2 c2:Nat)(l l2:List Q4)(d:Int)(w:World)(h:SlT aj 4 w q n l)(hn:n<=1048576)(h2:SlT aj 4 w q2 n2 l2)(hn2:n2<=1048576)(hr:aH l=true)(hr2:aH l2=true)(hw:ae d 1 8=true) :
 Calls prog 288 #[sl q n c,sl q2 n2 c2,d] w (bH (mM l l2 d) w):=by
 have hm:Hid (mM l l2 d=ah (oP l l2 d)):=by show _=_;rw [mM,aw (by rw [hr,hr2,hw];rfl)]
 have hck:=yq q n c l d w h hn;rw [hr,hw] at hck;replace hck:=aa (show Calls _ _ _ _ (λ e w'=>e=.returned (.bool true)/\Ext w w') from hck);have k2:=λ V (hV:Ext w V)=>lH q2 n2 c2 l2 V (h2.ext hV) hn2
 rw [hr2] at k2;replace k2:=aa k2;have v1:=aa ((eU (isReg_iff.1 hr).1).2);have v2:=aa ((eU (isReg_iff.1 hr2).1).2);have hgb:=aa (λ V (hV:Ext w V)=>P1 q q2 n n2 c c2 l l2 V (h.ext hV) (h2.ext hV) hn hn2 (λ r hr=>iO (v1.out r hr)) (λ r hr=>iO (v2.out r hr)));have hab:=uO (gL l) (gL l2);have hin:=aa (λ V (hV:Ext w V)=>Pi q q2 n n2 c c2 l l2 V (h.ext hV) (h2.ext hV) hn hn2 hr hr2);obtain⟨X,hX⟩:∃ X,ah (gL (et (eW (gL l) (gL l2)) d))=X:=⟨_,rfl⟩;obtain⟨Y,hY⟩:∃ Y,ah (fq (·&&·) (gL l) (gL l2))=Y:=⟨_,rfl⟩;have hXl:X.length<=3200:=by rw [<-hX];exact fC _
 have hYl:Y.length<=3200:=by rw [<-hY];exact fC _
 have hXv:Hid (∀ r∈X,iN r):=aa (by rw [<-hX];exact λ r hr=>iO (iR (ik _) r hr));have hYv:Hid (∀ r∈Y,iN r):=aa (by rw [<-hY];exact λ r hr=>iO (iR (ik _) r hr));have hfin:Hid (ah (gL [X,Y].flatten)=ah (oP l l2 d)):=aa (by rw [<-hX,<-hY,PH];rfl);have hsh:=λ(q1:OA) (c1:Nat) (V:World) (hs:SlT aj 4 V q1 (eW (gL l) (gL l2)).length (eW (gL l) (gL l2)))=>yp q1 _ c1 (eW (gL l) (gL l2)) d V hs (aS hab oM) yx
 rw [hX] at hsh;rw [hY] at hin;replace hsh:=aa hsh;clear hr hr2 hw hX hY hab;go_enter func288,ntmps288;go_wp2_with (first | (go_at_call 344;(with_reducible refine (hck.out).mono ?_);rintro e w2 ⟨rfl,E2⟩;replace E2:=aa E2) | (go_at_call 192;(with_reducible refine (k2.out _ E2.out).mono ?_);rintro e w3 ⟨rfl,E3⟩;replace E3:=aa (E2.trans E3)) | (go_at_call 349;(with_reducible refine (hgb.out _ E3.out).mono ?_);rintro e w4 ⟨q4,c4,rfl,o4,E4⟩;have s4:=aa (bm (l:=eW (gL l) (gL l2)) cw rfl o4);replace E4:=aa (E3.trans E4);clear o4) | (go_at_call 345;(with_reducible refine (hsh.out q4 c4 _ s4.out).mono ?_);rintro e w5 ⟨q5,c5,rfl,o5,E5⟩;have s5:=aa (bm (l:=X) cw rfl o5);replace E5:=aa (E4.trans E5);clear o5) | (go_at_call 350;(with_reducible refine (hin.out _ E5.out).mono ?_);rintro e w6 ⟨q6,c6,rfl,o6,E6⟩;have s6:=aa (bm (l:=Y) cw rfl o6);replace s5:=aa (s5.ext E6);replace E6:=aa (E5.trans E6);clear o6) | fail);have hEA:Ext w6 (w6.alloc (.cells #[sl q5 X.length c5,sl q6 Y.length c6] 77)):=(ab w6).alloc _
 have hS:SlS (w6.alloc (.cells #[sl q5 X.length c5,sl q6 Y.length c6] 77)) (so w6 0) 2 [X,Y]:=by
  have hb:=aD w6 ([(q5,X.length,c5),(q6,Y.length,c6)].flatMap iM) 77;refine⟨[(q5,X.length,c5),(q6,Y.length,c6)],SlT.of_blk rz hb,rfl,λ k x l hx hl=>?_⟩
  match k,hx,hl with
  | 0,hx,hl=>cases hx;cases hl;exact s5.ext hEA
  | 1,hx,hl=>cases hx;cases hl;exact s6.ext hEA
  | k+2,hx,hl=>simp at hx
 refine (G8 (so w6 0) 2 2 [X,Y] _ hS oM (by
  intro l hl;simp at hl;rcases hl with rfl | rfl
  . exact⟨aS hXl oM,hXv.out⟩
  . exact⟨aS hYl oM,hYv.out⟩)).mono ?_
 rintro e w7 ⟨q7,c7,rfl,o7,E7⟩;rw [hfin.out] at o7;have o7:=aa o7;have hE7:=aa ((E6.trans hEA).trans E7);have hlo:=aa (E6.trans hEA).le;have hlen:(ah (gL [X,Y].flatten)).length=(ah (oP l l2 d)).length:=by rw [hfin.out]
 rw [hlen];clear E7;go_wp2_with (fail);go_ret;rw [hm.out];exact⟨q7,c7,rfl,fi o7.out hlo.out,hE7.out⟩
theorem yB (q:OA)(n c:Nat)(l:List Q4)(w:World)(h:SlT aj 4 w q n l)(hn:n<=1048576)(hv:∀ r∈l,vR r=true) :
 Calls prog 193 #[sl q n c] w (xJ (bk (gL l)) w):=by
 have hv:=aa (λ r hr=>iO (hv r hr));go_enter func193,ntmps193;go_wp2_with fail;refine (ns q n c l _ h hn hv.out).mono ?_;rintro e w1 ⟨B,rfl,lo,b,E1⟩;replace b:=aa b;go_wp2_with fail;refine (MI B (gL l) _ b.out).mono ?_;rintro e w2 ⟨q2,c2,H,rfl,o2,E2⟩;replace o2:=aa o2;go_wp2_with fail;go_ret;exact⟨q2,c2,H,rfl,o2.low E1.le,E1.trans E2⟩
end Go.Proofs.YtnlajnpcdnnpmaaGreat
