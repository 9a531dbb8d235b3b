/- Part of a proof. No condition. -/
import Derived.Test.YtnlajnpcdnnpmaaGreatA33
namespace Go.Proofs.YtnlajnpcdnnpmaaGreat
set_option linter.all false
set_option maxRecDepth 100000
set_option maxHeartbeats 16000000
open Go.Proofs.Tryz Go.RowKit Go.PlainAid
def gQ (g:ac) (v:Bool):List Q4:=(dW (lK g) v).filter (dt v)
theorem Pa {l:List Q4}{v:Bool}{j:Nat}{s:Q4}(h:l[j]?=some s)(he:dt v s=true):(l.take (j+1)).filter (dt v)=(l.take j).filter (dt v)++[s]:=sZ
theorem Pb {l:List Q4}{v:Bool}{j:Nat}{s:Q4}(h:l[j]?=some s)(he:dt v s=false):(l.take (j+1)).filter (dt v)=(l.take j).filter (dt v):=sZ
structure GpI (w W:World) (b3:Nat) (qr:OA) (cr:Nat) (R:List Q4) (q:OA) (c:Nat) (L:List Q4):Prop where
 ext:Ext w W
 own:W.ownsRow w 139 4 (sl q L.length c) L.length (L.flatMap aj)
 run:W.ownsRow b3 139 4 (sl qr R.length cr) R.length (R.flatMap aj)
 ne:∀ k,(Value.slice q L.length c).ownBlock=some k->(Value.slice qr R.length cr).ownBlock≠some k
theorem GpI.alloc {w W:World}{b3 cr c:Nat}{qr q:OA}{R L:List Q4}(h:GpI w W b3 qr cr R q c L)(o:Obj):GpI w (W.alloc o) b3 qr cr R q c L:=⟨h.ext.alloc o,cv h.own o,cv h.run o,h.ne⟩
theorem GpI.push {w W wA:World}{b3 cr c ca:Nat}{qr q qa:OA}{R L:List Q4}{s:Q4}{o:Obj}(h:GpI w W b3 qr cr R q c L)(hoA:wA.ownsRow w 139 4 (sl qa (L.length+1) ca) (L.length+1) (L.flatMap aj++aj s))
 (hgA:(W.alloc o).grownBy wA (Value.slice q L.length c).ownBlock) (hbA:(Value.slice qa (L.length+1) ca).ownBlock=(Value.slice q L.length c).ownBlock\/(Value.slice qa (L.length+1) ca).ownBlock=some (W.alloc o).heap.size):GpI w wA b3 qr cr R qa ca (L++[s]):=by
 have h5:=h.alloc o;have hlen:(L++[s]).length=L.length+1:=by rw [aI];rfl
 refine⟨h5.ext.grown hgA (λ k hk=>(h.own.lt k hk).1),by rw [hlen,dj];simpa using hoA,h5.run.kept hgA ?_,λ k hk=>?_⟩
 . exact AR
 . rw [hlen] at hk;exact AK
theorem GH (B:Nat)(g:ac)(w:World)(hb:Blk w B (ag g) 269) :
 Calls prog 372 #[.pointer (so B 0),.bool false] w (bH (gQ g false) w):=by
 obtain⟨i0,hi,hz0,hz1,hz2⟩:=aM gm;replace hb:=aa hb;go_enter func372,ntmps372;go_upto_region 2 with (fail);have ho0:=dh (size:=4) (aD w [] 139) (ai _);generalize hW:w.alloc _=W0 at ho0 ⊢;have E0:Ext w W0:=by rw [<-hW];exact (ab _).alloc _
 clear hW;replace E0:=aa E0;replace ho0:=aa ho0;obtain⟨R,hR⟩:∃ R,Hid (dW (lK g) false=R):=⟨_,aa rfl⟩;have hR6:Hid (R.length<=6400):=aa (by rw [<-hR.out];exact jn _ _);have hro:=λ(B2:Nat) (W:World) (h2:Blk W B2 (ag (lK g)) 269)=>ux W false (lK g) B2 h2
 rw [hR.out] at hro;replace hro:=aa hro;go_wp2_with (first | (go_at_call 399;refine (Fx B g _ (hb.ext E0.out)).mono ?_;rintro e w2 ⟨B2,rfl,hB2,b2,E2⟩;replace b2:=aa b2;replace E2:=aa E2) | (go_at_call 371;refine (hro.out B2 _ b2.out).mono ?_;rintro e w3 ⟨q3,c3,rfl,o3,E3⟩;replace o3:=aa o3;replace E3:=aa E3) | fail);have hI0:Hid (GpI w w3 w2 q3 c3 R (so w 0) 0 []):=aa ⟨E0.trans (E2.trans E3.out),aG (aG ho0.out E2.out) E3.out,o3.out,λ k hk hr=>by have h1:=(o3.lt k hr).1;have h2:=(ho0.lt k hk).2;have:=E2.le;omega⟩;clear ho0 o3 E3 b2 E2 E0;go_loopw [5,14] (λ u z wx=>∃ (j:Nat) (q2:OA) (c2:Nat) (L:List Q4),j<=R.length/\u=sl q2 L.length c2/\z=.int .i64 (j:Int)/\Hid (L=(R.take j).filter (dt false))/\Hid (GpI w wx w2 q3 c3 R q2 c2 L)) (λ _ z _=>R.length - (intOf z).toNat)
 case atStart=>exact⟨0,_,_,[],oM,rfl,rfl,aa (by simp),hI0⟩
 case round =>
  clear hI0;obtain⟨j,q2,c2,L,hj,rfl,rfl,hL,hI⟩:=hrel;have hR64:=hR6.out;have hnL:L.length<=6400:=by rw [hL.out];have h1:=jU (dt false) (R.take j);have h2:(R.take j).length<=j:=md _ _;have:=hR6.out;omega
  by_cases hjt:j<R.length
  . have hjI:(j:Int)<(R.length:Int):=oM;obtain⟨b,off,s,rfl,hbn,hs,c0,c1,c2x,c3x⟩:=(bm (l:=R) cw rfl hI.run).four hjt;by_cases h1 : -40<s.a
    . by_cases h2:s.c<40
      . have hbr:Hid (dt false s=true):=aa (by simp [dt];omega);exact za
      . have hbr:Hid (dt false s=false):=aa (by simp [dt];omega);exact sP
    . have hbr:Hid (dt false s=false):=aa (by simp [dt];omega);exact sP
  . have hjI:¬ (j:Int)<(R.length:Int):=oM;rw [cz rfl oM] at hL;go_wp2_with (fail);go_ret;have e:L=gQ g false:=by rw [hL.out,<-hR.out];rfl
    exact ta
theorem GI (B:Nat)(g:ac)(w:World)(hb:Blk w B (ag g) 269) :
 Calls prog 372 #[.pointer (so B 0),.bool true] w (bH (gQ g true) w):=by
 obtain⟨i0,hi,hz0,hz1,hz2⟩:=aM gm;replace hb:=aa hb;go_enter func372,ntmps372;go_upto_region 2 with (fail);have ho0:=dh (size:=4) (aD w [] 139) (ai _);generalize hW:w.alloc _=W0 at ho0 ⊢;have E0:Ext w W0:=by rw [<-hW];exact (ab _).alloc _
 clear hW;replace E0:=aa E0;replace ho0:=aa ho0;obtain⟨R,hR⟩:∃ R,Hid (dW (lK g) true=R):=⟨_,aa rfl⟩;have hR6:Hid (R.length<=6400):=aa (by rw [<-hR.out];exact jn _ _);have hro:=λ(B2:Nat) (W:World) (h2:Blk W B2 (ag (lK g)) 269)=>ux W true (lK g) B2 h2
 rw [hR.out] at hro;replace hro:=aa hro;go_wp2_with (first | (go_at_call 399;refine (Fx B g _ (hb.ext E0.out)).mono ?_;rintro e w2 ⟨B2,rfl,hB2,b2,E2⟩;replace b2:=aa b2;replace E2:=aa E2) | (go_at_call 371;refine (hro.out B2 _ b2.out).mono ?_;rintro e w3 ⟨q3,c3,rfl,o3,E3⟩;replace o3:=aa o3;replace E3:=aa E3) | fail);have hI0:Hid (GpI w w3 w2 q3 c3 R (so w 0) 0 []):=aa ⟨E0.trans (E2.trans E3.out),aG (aG ho0.out E2.out) E3.out,o3.out,λ k hk hr=>by have h1:=(o3.lt k hr).1;have h2:=(ho0.lt k hk).2;have:=E2.le;omega⟩;clear ho0 o3 E3 b2 E2 E0;go_loopw [5,14] (λ u z wx=>∃ (j:Nat) (q2:OA) (c2:Nat) (L:List Q4),j<=R.length/\u=sl q2 L.length c2/\z=.int .i64 (j:Int)/\Hid (L=(R.take j).filter (dt true))/\Hid (GpI w wx w2 q3 c3 R q2 c2 L)) (λ _ z _=>R.length - (intOf z).toNat)
 case atStart=>exact⟨0,_,_,[],oM,rfl,rfl,aa (by simp),hI0⟩
 case round =>
  clear hI0;obtain⟨j,q2,c2,L,hj,rfl,rfl,hL,hI⟩:=hrel;have hR64:=hR6.out;have hnL:L.length<=6400:=by rw [hL.out];have h1:=jU (dt true) (R.take j);have h2:(R.take j).length<=j:=md _ _;have:=hR6.out;omega
  by_cases hjt:j<R.length
  . have hjI:(j:Int)<(R.length:Int):=oM;obtain⟨b,off,s,rfl,hbn,hs,c0,c1,c2x,c3x⟩:=(bm (l:=R) cw rfl hI.run).four hjt;by_cases h1 : -40<s.b
    . by_cases h2:s.d<40
      . have hbr:Hid (dt true s=true):=aa (by simp [dt];omega);exact za
      . have hbr:Hid (dt true s=false):=aa (by simp [dt];omega);exact sP
    . have hbr:Hid (dt true s=false):=aa (by simp [dt];omega);exact sP
  . have hjI:¬ (j:Int)<(R.length:Int):=oM;rw [cz rfl oM] at hL;go_wp2_with (fail);go_ret;have e:L=gQ g true:=by rw [hL.out,<-hR.out];rfl
    exact ta
def jp (g:ac):List Q4:=gQ g false++gQ g true
theorem sk (g:ac)(v:Bool):(gQ g v).length<=6400:=aS (jU _ _) (jn _ v)
theorem yu {g:ac}{v:Bool} : ∀ r∈gQ g v,vR r=true:=λ r hr=>(oK (List.mem_filter.1 hr).1).on
theorem Pc {g:ac} : ∀ r∈jp g,vR r=true:=λ r hr=>(aL49.1 hr).elim (yu r) (yu r)
theorem Pd (q:OA)(n c:Nat)(l:List Q4)(w:World)(h:SlT aj 4 w q n l)(hn:n<=1048576)(hv:∀ r∈l,iN r) :
 Calls prog 347 #[sl q n c] w (bH (jp (gL l)) w):=by
 obtain⟨i0,hi,hz0,hz1,hz2⟩:=aM gm;have hco:=aa (ns q n c l w h hn hv);have b1:=sk (gL l) false;have b2:=sk (gL l) true;have hlen:(jp (gL l)).length=(gQ (gL l) false).length+(gQ (gL l) true).length:=by rw [jp,aI]
 go_enter func347,ntmps347;go_wp2_with (first | (go_at_call 284;refine hco.mono ?_;rintro e w1 ⟨B,rfl,hB,hb,E1⟩;replace hb:=aa hb;replace E1:=aa E1) | (go_at_call 372;(with_reducible refine (GH B (gL l) w1 hb.out).mono ?_);rintro e w2 ⟨q1,c1,rfl,o1,E2⟩;replace o1:=aa o1;replace E2:=aa E2) | (go_at_call 372;(with_reducible refine (GI B (gL l) w2 (hb.out.ext E2.out)).mono ?_);rintro e w3 ⟨q2,c2,rfl,o2,E3⟩;replace o2:=aa o2;have ob:=aa (aG o1.out E3);have E13:=aa (E2.trans E3);have hs3:=aa E13.le) | (at_builtin;refine uz rfl _ _ 77 rfl w1 139 i0 (.agg #[(0:Int),(0:Int),(0:Int),(0:Int)]) 4 32 underlying77 hi hz0 hz1 hz2 rfl oM _ _ _ rfl ob.out w2 _ _ _ rfl o2.out (uy _) (by unfold maxLen;omega) oM hs3.out ?_;intro v' w4 ho' hg;obtain⟨qa,ca,rfl⟩:=cq ho';replace ho':=aa ho';replace hg:=aa hg) | fail);go_ret;refine⟨qa,ca,by rw [hlen];rfl,?_,E1.trans (E13.grown hg.out (λ k hk=>(ob.lt k hk).1))⟩;rw [hlen,jp,dj];exact fi ho'.out E1.le
def iX (l:List Q4) (d:Int):List Q4:=if aH l&&ae d 1 8 then ah (gL (et (jp (gL l)) d)) else []
theorem Pe (q:OA)(n c:Nat)(l:List Q4)(d:Int)(w:World)(h:SlT aj 4 w q n l)(hn:n<=1048576) :
 Calls prog 287 #[sl q n c,d] w (bH (iX l d) w):=by
 have hck:=yq q n c l d w h hn
 cases hc:aH l&&ae d 1 8 with
 | true =>
   have hm:Hid (iX l d=ah (gL (et (jp (gL l)) d))):=by show _=_;rw [iX,aw hc]
   have hvr:=aa (λ r hr=>iO ((eU (isReg_iff.1 (cm _ _▸hc).1).1).2 r hr):∀ r∈l,iN r);have b1:=sk (gL l) false;have b2:=sk (gL l) true;have hlen:Hid ((jp (gL l)).length=(gQ (gL l) false).length+(gQ (gL l) true).length):=by show _=_;rw [jp,aI]
   have hn2:Hid ((jp (gL l)).length<=12800):=by show _<=_;rw [hlen.out];omega
   rw [hc] at hck;replace hck:=aa hck;clear hc b1 b2;go_enter func287,ntmps287;exact AE
 | false =>
   have hm:Hid (iX l d=[]):=by show _=_;rw [iX,ar (by rw [hc];simp)]
   rw [hc] at hck;replace hck:=aa hck;clear hc;go_enter func287,ntmps287;exact As
theorem GJ (g:ac)(v:Bool):gQ g v=fE g g v:=by rw [NA];rfl
def jq (k:Int) (r:Q4):Q4:=⟨r.a - k,r.b - k,r.c+k,r.d+k⟩
theorem Pf (q:OA)(n c:Nat)(l:List Q4)(k0:Int)(w:World)(h:SlT aj 4 w q n l)(hn:n<=1048576)(hv:∀ r∈l,vR r=true)(hk0:0<=k0)(hk1:k0<=100) :
 Calls prog 400 #[sl q n c,k0] w (rA (gL (l.map (jq k0))) w):=by
 have hl:=aa h.length;replace hv:=aa hv;go_enter func400,ntmps400;go_wp2;generalize hW:w.alloc _=W0;obtain⟨E0,z0,b0⟩:=al hW;clear hW;have hb0:Blk W0 w (ag (gL ((l.map (jq k0)).take 0))) 269:=AY
 clear b0;obtain⟨B,hB⟩:∃ B,B=w.heap.size:=⟨_,rfl⟩;rw [<-hB] at hb0 ⊢;replace hB:=aa hB;replace z0:=aa z0;go_loopw [12] (λ i wr=>∃ k:Nat,k<=n/\i=.int .i64 k/\Ext w wr/\Blk wr B (ag (gL ((l.map (jq k0)).take k))) 269) (λ i _=>n - (intOf i).toNat)
 case atStart=>exact⟨0,oM,rfl,E0,hb0⟩
 case round =>
  clear hb0 E0 W0 z0;obtain⟨k,hk,rfl,hE,hb⟩:=hrel;by_cases hlt:k<n
  . obtain⟨b,off,x,rfl,hbn,hx,c0,c1,c2,c3⟩:=(h.ext hE).four hlt;have hBl:=hb.lt;have hvx:=aa (hv.out x (ap hx.out));obtain⟨⟨xa0,xa1,xa2⟩,xb0,xb1,xb2⟩:=vR_iff.1 hvx.out;have hxm:Hid ((l.map (jq k0))[k]?=some (jq k0 x)):=by show _=_;rw [cK,hx.out];rfl
    replace hb:=aa hb;clear hbn;go_wp2_with fail;have hb1:=hb.alloc (.cells #[.int .i64 x.a,.int .i64 x.b,.int .i64 x.c,.int .i64 x.d] 139);refine (nr B _ (jq k0 x) _ hb1 (by unfold iN jq;simp only;omega)).mono ?_;rintro e w1 ⟨rfl,hb2,hM⟩;rw [xj hxm.out] at hb2;exact zQ
  . go_wp2_with fail;go_ret;rw [cz (n:=n) (l:=l.map (jq k0)) (by rw [dD];exact hl.out) oM] at hb;exact⟨B,rfl,by rw [hB.out];omega,hb,hE⟩
theorem GK {w:World}{b b' size n:Nat}{e:TypeId}{v:Value}{xs:List Value}(h:w.ownsRow b e size v n xs)(hb:b'<=b):w.ownsRow b' e size v n xs :=
 ⟨h.1,h.2.elim ay (λ⟨g,cap,cur,hv,hg,r⟩=>aB ⟨g,cap,cur,hv,aS hb hg,r⟩)⟩
def oO (l:List Q4) (k:Int):List Q4:=ah (gL (l.map (jq k)))
theorem Pg (q:OA)(n c:Nat)(l:List Q4)(k:Int)(w:World)(h:SlT aj 4 w q n l)(hn:n<=1048576)(hv:∀ r∈l,vR r=true)(hk:0<=k/\k<=100) :
 Calls prog 376 #[sl q n c,k] w (bH (oO l k) w):=by
 have hg:=aa (Pf q n c l k w h hn hv hk.1 hk.2);clear hv;go_enter func376,ntmps376;go_wp2_with fail;refine hg.mono ?_;rintro e w1 ⟨B,rfl,_,b1,E1⟩;have b1:=aa b1;go_wp2_with fail;refine (mD B _ _ b1.out).mono ?_;rintro e w2 ⟨q2,c2,rfl,o2,E2⟩;have hO:=aa o2;clear o2;go_wp2_with fail;go_ret;exact⟨q2,c2,rfl,GK hO.out E1.le,E1.trans E2⟩
def fq (f:Bool->Bool->Bool) (g h:ac):ac:=λ i=>f (g i) (h i)
theorem GM {f:Bool->Bool->Bool}(h0:f false false=false)(g h:ac)(x y:Int):gh (fq f g h) x y=f (gh g x y) (gh h x y):=by rw [gh,gh,gh,fq];cases ax x y <;> simp [h0]
def jr (f:Bool->Bool->Bool) (g h:ac) (m:Nat):ac:=λ i=>decide (i<m)&&f (g i) (h i)
theorem uM (f:Bool->Bool->Bool)(g h:ac):ag bo=ag (jr f g h 0):=df λ i _=>by simp [bo,jr]
theorem uN (f:Bool->Bool->Bool)(g h:ac):ag (jr f g h 6400)=ag (fq f g h):=df λ i hi=>by rw [jr,fq];simp [hi]
theorem GN (f:Bool->Bool->Bool)(g h:ac)(m:Nat):(ag (jr f g h m)).set m (.bool (f (g m) (h m)))=ag (jr f g h (m+1)):=by
 rw [j9];refine df λ i _=>?_
 rw [ig,jr,jr];exact vE
theorem sn {w:World}{B N j i:Nat}{u x:Value}(h:N≠B)(hx:w.cell? (ad B j)=some x):(w.setCell (ad N i) u).cell? (ad B j)=some x:=by rw [kY (w:=w) (a:=(ad B j)) (jR _ _ _ _ (by simpa using h.symm))];exact hx
theorem GO (f:Bool->Bool->Bool)(F:Nat)(eF:∀ args w,(callFunc F args).run prog w=.ok (.enter F args) w)(hF:∀ W x y,Calls prog F #[.bool x,.bool y] W λ e w'=>e=.returned (.bool (f x y))/\W=w')
 (q1 q2:OA) (n1 n2 c1 c2:Nat) (l1 l2:List Q4) (w:World) (h1:SlT aj 4 w q1 n1 l1) (h2:SlT aj 4 w q2 n2 l2) (hn1:n1<=1048576) (hn2:n2<=1048576) (r1:aH l1=true) (r2:aH l2=true) :
 Calls prog 374 #[sl q1 n1 c1,sl q2 n2 c2,.func (.func F) #[] #[]] w (bH (ah (fq f (gL l1) (gL l2))) w):=by
 have k1:=λ V (hV:Ext w V)=>lH q1 n1 c1 l1 V (h1.ext hV) hn1
 have k2:=λ V (hV:Ext w V)=>lH q2 n2 c2 l2 V (h2.ext hV) hn2
 have v1:=aa (λ r hr=>iO ((eU (isReg_iff.1 r1).1).2 r hr));have v2:=aa (λ r hr=>iO ((eU (isReg_iff.1 r2).1).2 r hr));rw [r1] at k1;rw [r2] at k2;replace k1:=aa k1;replace k2:=aa k2;have hF:=aa hF;clear r1 r2;go_enter func374,ntmps374;go_wp2_with fail;refine (k1.out _ (ab _)).mono ?_;rintro e w1 ⟨rfl,E1⟩;go_wp2_with fail;refine (k2.out _ E1).mono ?_;rintro e w2 ⟨rfl,E2⟩;have E:=E1.trans E2;go_wp2_with fail;refine (ns q1 n1 c1 l1 _ (h1.ext E) hn1 v1.out).mono ?_;rintro e w3 ⟨B1,rfl,lo1,b1,E3⟩;have E:=E.trans E3;go_wp2_with fail;refine (ns q2 n2 c2 l2 _ (h2.ext E) hn2 v2.out).mono ?_;rintro e w4 ⟨B2,rfl,lo2,b2,E4⟩;have E:=E.trans E4;have b1:=b1.ext E4;have b1:=aa b1;have b2:=aa b2;clear E1 E2 E3 E4 k1 k2 v1 v2;go_wp2_with fail;generalize hW:World.alloc _ _=W0;obtain⟨E0,z0,b0⟩:=al hW;clear hW;have hb0:Blk W0 w4 (ag (jr f (gL l1) (gL l2) (0*80))) 269:=by rw [lG,uM f (gL l1) (gL l2)] at b0;exact b0
 clear b0;obtain⟨N,hN⟩:∃ N,N=w4.heap.size:=⟨_,rfl⟩;rw [<-hN] at hb0 ⊢;have hN1:N≠B1:=by have:=b1.lt;omega
 have hN2:N≠B2:=by have:=b2.lt;omega
 have hNw:w.heap.size<=N:=by rw [hN];exact E.le
 replace hN:=aa hN;replace z0:=aa z0;have b1:=aa (b1.ext E0);have b2:=aa (b2.ext E0);have E:=aa (E.trans E0);obtain⟨g,hg⟩:∃ g,g=gL l1:=⟨_,rfl⟩;obtain⟨h,hh⟩:∃ h,h=gL l2:=⟨_,rfl⟩;rw [<-hg] at b1 hb0 ⊢;rw [<-hh] at b2 hb0 ⊢;replace hg:=aa hg;replace hh:=aa hh;replace h1:=aa h1;replace h2:=aa h2;have I:=ab W0;have hNl:=hb0.lt;go_loopw [10,11,26] (λ _ _ i wr=>∃ k:Nat,k<=80/\i=.int .i64 k/\Mut W0 wr [N]/\Blk wr N (ag (jr f g h (k*80))) 269) (λ _ _ i _=>80 - (intOf i).toNat)
 case atStart=>exact⟨0,oM,rfl,fw _ _,hb0⟩
 case round =>
  clear hb0 E0 z0;obtain⟨y,hy,rfl,hM,hb⟩:=hrel;by_cases hlt:y<80
  . have hyI:(y:Int)<80:=oM;replace hb:=aa hb;go_wp2_with fail;go_loopw [11,29] (λ _ i wr=>∃ k:Nat,k<=80/\i=.int .i64 k/\Mut W0 wr [N]/\Blk wr N (ag (jr f g h (y*80+k))) 269) (λ _ i _=>80 - (intOf i).toNat)
    case atStart=>exact⟨0,oM,rfl,hM,hb.out⟩
    case round =>
     clear hb hM;obtain⟨x,hx,rfl,hM,hb⟩:=hrel;by_cases hxl:x<80
     . have hxI:(x:Int)<80:=oM;have z1:=(b1.mut hM (by simpa using hN1.symm)).cells (y*80+x);rw [dv _ oM] at z1;have z2:=(b2.mut hM (by simpa using hN2.symm)).cells (y*80+x);rw [dv _ oM] at z2;have z3:=hb.cells (y*80+x);rw [dv _ oM] at z3;have fz:=hb.free (y*80+x);have hB1l:B1<wr.heap.size:=aF b1.lt hM.size;have hB2l:B2<wr.heap.size:=aF b2.lt hM.size;have hNl2:=hb.lt;have hst:=aa (GN f g h (y*80+x));have hb2:=aa ((show Blk wr.drew N _ _ from hb).set (y*80+x) (.bool (f (g (y*80+x)) (h (y*80+x)))));have hM2:=aa (hM.drew.setCell (p:=(ad N (y*80+x))) (by simp) (.bool (f (g (y*80+x)) (h (y*80+x)))));replace hb:=aa hb;go_wp2_with fail
       go_region_held3 (λ W=>W.cell? (ad B1 (y*80+x))=some (.bool (g (y*80+x)))/\W.cell? (ad B2 (y*80+x))=some (.bool (h (y*80+x))))
        (first | exact⟨z1,z2⟩ | exact⟨sn hN1 z1,sn hN2 z2⟩)
        (first | (go_at_fn F;refine (hF.out _ _ _).mono ?_;rintro e w' ⟨rfl,rfl⟩))
       clear hM z1 z2 z3 fz;go_wp2_with fail;have pA:=hM2;exact Dc
     . have hxI:¬ (x:Int)<80:=oM;have h80:y*80+x=(y+1)*80:=oM;rw [h80] at hb;replace hb:=aa hb;clear h80;go_wp2_with fail;go_roundw
       case rel=>exact⟨y+1,oM,gN,hM,hb.out⟩
       case measure=>exact mS
  . have hyI:¬ (y:Int)<80:=oM;have h80:y*80=6400:=oM;rw [h80,uN] at hb;clear h80;have hE:=aa (E.then hM (by simpa using hNw));have hwl:=aa hE.le;replace hb:=aa hb;go_wp2_with fail;refine (mD N _ _ hb.out).mono ?_;rintro e w5 ⟨q5,c5,rfl,o5,E5⟩;have hO:=aa o5;clear o5;go_wp2_with fail;go_ret;rw [<-hg.out,<-hh.out];exact⟨q5,c5,rfl,GK hO.out hwl.out,hE.trans E5⟩
theorem Ph (x y:Bool)(w:World):CW 375 #[.bool x,.bool y] w (.bool (x&&y)):=by
 cases x <;> cases y
 all_goals
  go_enter func375,ntmps375;go_wp2_with fail;exact kA
theorem Pi (q1 q2:OA)(n1 n2 c1 c2:Nat)(l1 l2:List Q4)(w:World)(h1:SlT aj 4 w q1 n1 l1)(h2:SlT aj 4 w q2 n2 l2)(hn1:n1<=1048576)(hn2:n2<=1048576)(r1:aH l1=true)(r2:aH l2=true) :
 Calls prog 350 #[sl q1 n1 c1,sl q2 n2 c2] w (bH (ah (fq (·&&·) (gL l1) (gL l2))) w):=by
 have hc:=aa (GO (·&&·) 375 (fb func375 kR rfl) (λ W x y=>Ph x y W) q1 q2 n1 n2 c1 c2 l1 l2 w h1 h2 hn1 hn2 r1 r2);clear r1 r2;go_enter func350,ntmps350;go_wp2_with fail;refine hc.mono ?_;rintro e w5 ⟨q5,c5,rfl,o5,E5⟩;have hO:=aa o5;clear o5;go_wp2_with fail;go_ret;exact⟨q5,c5,rfl,hO.out,E5⟩
def mL (g:ac) (k:Nat):ac:=λ i=>decide (i<k)&&!g i
theorem Pj (g:ac)(k:Nat)(hk:k<6400):(ag (mL g k)).set k (.bool (!g k))=ag (mL g (k+1)):=by
 refine qM λ i=>?_
 by_cases hi:i<6400
 . rw [ph,dv _ hi,dv _ hi,j8];by_cases h:k=i
   . subst h;simp [mL,hk]
   . have e:decide (i<k)=decide (i<k+1):=aL127.2 oM;simp [h,mL,e]
 . rw [kZ (by rw [List.length_set,j8];omega),kZ (by rw [j8];omega)]
theorem Pk (g:ac):ag (mL g 6400)=ag (eu g):=df λ i hi=>by simp only [mL,hi,decide_true,jv];show _=!gh g (bF i) (bG i);rw [je hi]
theorem Pm (g:ac):ag bo=ag (mL g 0):=df λ i _=>by simp [mL,bo]
theorem GP (B c:Nat)(g:ac)(w:World)(hbits:Bits w B g) :
 Calls prog 383 #[sm B 0 6400 c] w (mB (eu g) w):=by
 obtain⟨i0,hi,hz0,hz1,hz2⟩:=aM iP;go_enter func383,ntmps383;go_wp2_with (refine ep _ rfl _ _ 238 rfl w 4 i0 _ 1 underlying238 hi hz0 hz1 .i64 .i64 6400 6400 6400 rfl rfl rfl rfl (by rw [hz2];omega) (by unfold maxLen;omega) (ai _) ?_;intro w1 ho hg);rw [gF _ (.bool false) _ (by simp [Value.cells]) (by intro j hj;simp [Value.cells] at hj ⊢;subst hj;rfl),<-gH,Pm g] at ho;have hE:Ext w w1:=(ab _).grown hg (λ _ h=>by cases h);clear hg;have hX1:=aa hE;have ho1:=aa ho;clear hE ho;go_wp2_with (fail);go_loopw [4] (λ i wx=>∃ j:Nat,j<=6400/\i=.int .i64 j/\Hid (Ext w wx)/\Hid (wx.ownsRow w 4 1 (sm w 0 6400 6400) 6400 (ag (mL g j)))) (λ i _=>6400 - (intOf i).toNat)
 case atStart=>exact⟨0,oM,rfl,hX1,ho1⟩
 case round =>
  clear hX1 ho1;obtain⟨j,hj,rfl,hX,ho⟩:=hrel;have hbt:=hbits.ext hX.out;have hBl:=hbt.1;by_cases hjt:j<6400
  . have hjI:(j:Int)<6400:=oM;have hcell:=hbt.2 j hjt;obtain⟨v0,e0⟩:=bO ho.out j oM;have hf:=ey ho.out;clear hbt;go_wp2_with (fail);go_roundw
    case rel=>exact⟨j+1,oM,gN,aa (hX.setCell (ai _) _),aa (by rw [<-Pj g j hjt];exact f7 ho.out _ _)⟩
    case measure=>exact mS
  . have hjI:¬ (j:Int)<6400:=oM;obtain rfl:j=6400:=oM;rw [Pk] at ho;exact vG
theorem Pn {P:Program}{fn:Func}{p r:Tmp}{ty:TypeId}(h:fn.results=#[.cell p ty,.cell r ty])(tmps:Array Value)(w:World)(g g2:Nat)(t t2:TypeId)(cs ds:Array Value)(d:TypeDesc)
 (hp:tmps.getD p undef=.pointer (so g 0)) (hr:tmps.getD r undef=.pointer (so g2 0)) (hg:w.heap[g]?=some (.cells cs t (0,0))) (hg2:w.heap[g2]?=some (.cells ds t2 (0,0)))
 (hu:P.underlying ty=some d) (hd:(match d with | .struct _ | .array _ _=>true | _=>false)=true) (hi:(P.info? ty).map (·.size)=some cs.size) (hi2:(P.info? ty).map (·.size)=some ds.size) :
 (results fn tmps).run P w=.ok (.tuple #[.agg cs,.agg ds]) w:=by
 have hp':tmps[p]?.getD undef=.pointer (so g 0):=by simpa using hp
 have hr':tmps[r]?.getD undef=.pointer (so g2 0):=by simpa using hr
 simp [results,h,hp',hr',asAddr,run_loadVar_row w g t ty cs (0,0) d hg hu hd hi,run_loadVar_row w g2 t2 ty ds (0,0) d hg2 hu hd hi2,mc,Result.andThen]
theorem GQ {P:Program}{fn:Func}{R:Ending->World->Prop}{a:Act}{w:World}{p r:Tmp}{ty t t2:TypeId}{g g2:Nat}{d:TypeDesc}(vs us:List Value)(h:fn.results=#[.cell p ty,.cell r ty])(hp:a.tmps.getD p undef=.pointer (so g 0))(hr:a.tmps.getD r undef=.pointer (so g2 0))(hb:Blk w g vs t)(hb2:Blk w g2 us t2)
 (hu:P.underlying ty=some d) (hd:(match d with | .struct _ | .array _ _=>true | _=>false)=true) (hi:(P.info? ty).map (·.size)=some vs.toArray.size) (hi2:(P.info? ty).map (·.size)=some us.toArray.size) (hdef:a.defers=[]) (hR:R (.returned (.tuple #[.agg vs.toArray,.agg us.toArray])) w):bodyPost P fn R .ret a w :=
 bB (v:=.tuple #[.agg vs.toArray,.agg us.toArray]) (Pn h _ _ g g2 t t2 vs.toArray us.toArray d hp hr hb hb2 hu hd hi hi2) hdef hR
theorem Po (r:Q4)(w:World)(hv:vR r=true) :
 CE 384 #[.agg #[r.a,r.b,r.c,r.d],.bool false] w (.tuple #[.agg #[(r.a - 1:Int),r.b],.agg #[r.c,r.b]]):=by
 have hb:=vR_iff.1 hv;go_enter func384,ntmps384;go_upto_region 1 with (fail);generalize hW:World.alloc (World.alloc (World.alloc _ _) _) _=W0;obtain⟨E0,z0,b0,b1,b2⟩:=fu hW;clear hW z0;replace b0:=du b0;replace b1:=fJ b1;replace b2:=aa (show Blk W0 (w+1+1) [_,_] _ from b2);have⟨g0,l0⟩:=b0.gl;have⟨g1,l1⟩:=b1.gl;have⟨g2,l2⟩:=b2.gl;have E:=ab W0;have f1:=b1.free;have f2:=b2.free;go_wp2_with (fail);go_region
 all_goals
  go_wp2_with (fail);exact GQ [.int .i64 (r.a - 1),.int .i64 r.b] [.int .i64 r.c,.int .i64 r.b] Tryz.results384 rfl rfl ((((b1.set 0 _).set 1 _).other 0 _ oM).other 1 _ oM).drew ((((b2.other 0 _ oM).other 1 _ oM).set 0 _).set 1 _).drew underlying248 rfl kR kR rfl ⟨rfl,((((E0.setCell (p:=(ad (w+1) 0)) (by dsimp only;omega) _).setCell (p:=(ad (w+1) 1)) (by dsimp only;omega) _).setCell (p:=(ad (w+1+1) 0)) (by dsimp only;omega) _).setCell (p:=(ad (w+1+1) 1)) (by dsimp only;omega) _).drew⟩
theorem Pp (r:Q4)(w:World)(hv:vR r=true) :
 CE 384 #[.agg #[r.a,r.b,r.c,r.d],.bool true] w (.tuple #[.agg #[r.a,(r.b - 1:Int)],.agg #[r.a,r.d]]):=by
 have hb:=vR_iff.1 hv;go_enter func384,ntmps384;go_upto_region 1 with (fail);generalize hW:World.alloc (World.alloc (World.alloc _ _) _) _=W0;obtain⟨E0,z0,b0,b1,b2⟩:=fu hW;clear hW z0;replace b0:=du b0;replace b1:=fJ b1;replace b2:=aa (show Blk W0 (w+1+1) [_,_] _ from b2);have⟨g0,l0⟩:=b0.gl;have⟨g1,l1⟩:=b1.gl;have⟨g2,l2⟩:=b2.gl;have E:=ab W0;have f1:=b1.free;have f2:=b2.free;go_wp2_with (fail);go_region
 all_goals
  go_wp2_with (fail);exact GQ [.int .i64 r.a,.int .i64 (r.b - 1)] [.int .i64 r.a,.int .i64 r.d] Tryz.results384 rfl rfl ((((b1.set 0 _).set 1 _).other 0 _ oM).other 1 _ oM).drew ((((b2.other 0 _ oM).other 1 _ oM).set 0 _).set 1 _).drew underlying248 rfl kR kR rfl ⟨rfl,((((E0.setCell (p:=(ad (w+1) 0)) (by dsimp only;omega) _).setCell (p:=(ad (w+1) 1)) (by dsimp only;omega) _).setCell (p:=(ad (w+1+1) 0)) (by dsimp only;omega) _).setCell (p:=(ad (w+1+1) 1)) (by dsimp only;omega) _).drew⟩
end Go.Proofs.YtnlajnpcdnnpmaaGreat
