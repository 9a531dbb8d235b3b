/- Part of a proof. No condition. -/
import Derived.Test.YtnlajnpcdnnpmaaGreatA43
namespace Go.Proofs.YtnlajnpcdnnpmaaGreat
set_option linter.all false
set_option maxRecDepth 100000
set_option maxHeartbeats 16000000
open Go.Proofs.Tryz Go.RowKit Go.PlainAid
theorem RS (w:World)(f:Nat)(a:OA)(l c:Nat):(Op.equalIn (f+1) 77 (sl a l c) (.slice none 0 0)).run prog w=.ok a.isNone w:=by
 have h:=underlying77
 cases a <;> simp [Op.equalIn,run_underlying h]
theorem RT (w:World)(a:OA)(l c:Nat):(Op.equal 77 (sl a l c) (.slice none 0 0)).run prog w=.ok a.isNone w:=RS w 9999 a l c
theorem RU (w:World)(a:OA)(l c:Nat):(binOp .eql 77 (sl a l c) (.slice none 0 0)).run prog w=.ok (.bool a.isNone) w:=by simp [binOp,RT w a l c]
theorem HC (l:List Q4):∀ u∈l.flatMap aj,u.oneCell'=true:=λ u hu=>by rw [aL80] at hu;obtain⟨r,_,h⟩:=hu;exact iq _ _ _ _ u h
theorem HD {w:World}{b off n:Nat}{l:List Q4}(h:SlT aj 4 w (so b off) n l):∀ j u,(l.flatMap aj)[j]?=some u->w.cell? (((ad b off):Addr).add j)=some u:=by
 intro j u hu;have hj:j<l.length*4:=by have:=(aL31.1 hu).1;rwa [kC cw] at this
 have hk:j / 4<l.length:=oM;have hi:j % 4<4:=oM;obtain⟨h1,h2⟩:=h;rcases h2 with h2 | ⟨b',off',hp,_,hc⟩
 . omega
 . cases hp
   have hx:=bK hk;have hv:(aj l[j / 4])[j % 4]?=some ((aj l[j / 4])[j % 4]'(by rw [cw];exact hi)):=bK _;have e1:=hc (j / 4) _ hx (j % 4) _ hv;have e2:=tu cw hx hv;rw [show j / 4*4+j % 4=j by omega,hu] at e2
   cases e2
   rw [Addr.add_lit,<-e1]
   congr 2
   omega
def yF (l:List Q4) (w:World) (e:Ending) (w':World):Prop:=∃ q c,e=.returned (sl q l.length c)/\w'.ownsRow w 139 4 (sl q l.length c) l.length (l.flatMap aj)/\Ext w w'
theorem RV (b off c:Nat)(l:List Q4)(w:World)(h:SlT aj 4 w (so b off) l.length l)(hn:l.length<=1048576) :
 Calls prog 136 #[sm b off l.length c] w (yF l w):=by
 obtain⟨i0,hi,hz0,hz1,hz2⟩:=aM gm;have ho0:=aa (dh (size:=4) (aD w [] 139) (ai _));have hnw:=aa (HD (h.ext ((ab w).alloc (.cells #[] 139))));have hfl:Hid ((l.flatMap aj).length=l.length*4):=by show _=_;rw [kC cw]
 have hnil:=λ W=>RU W (so b off) l.length c
 obtain⟨n,hN⟩:∃ n,Hid (n=l.length):=⟨_,aa rfl⟩;have hn2:n<=1048576:=by rw [hN.out];exact hn
 rw [<-hN.out] at hfl hnil;unfold yF;rw [<-hN.out];go_enter func136,ntmps136;go_wp2_with (at_builtin;refine cZ _ rfl _ _ 77 rfl w 139 i0 (.agg #[(0:Int),(0:Int),(0:Int),(0:Int)]) 4 32 underlying77 hi hz0 hz1 hz2 rfl oM _ _ _ rfl ho0.out (ad b off) n c (l.flatMap aj) rfl hfl.out hnw.out (HC l) (by unfold maxLen;omega) oM (by simp) ?_;intro v' w9 ho' hg' _ hb';obtain⟨qa,ca,rfl⟩:=cq ho';replace ho':=aa ho';replace hg':=aa hg');exact A5
def u5 (r:Int) (l:List Q4) (w:World) (e:Ending) (w':World):Prop:=∃ q c,e=.returned (.agg #[r,sl q l.length c])/\w'.ownsRow w 139 4 (sl q l.length c) l.length (l.flatMap aj)/\Ext w w'
theorem HE (r:Int)(b off c:Nat)(l:List Q4)(w:World)(h:SlT aj 4 w (so b off) l.length l)(hn:l.length<=1048576) :
 Calls prog 72 #[.agg #[r,sm b off l.length c]] w (u5 r l w):=by
 have hcl:=aa (λ(V:World) (hV:Ext w V)=>RV b off c l V (h.ext hV) hn);obtain⟨n,hN⟩:∃ n,Hid (n=l.length):=⟨_,aa rfl⟩;unfold u5;unfold yF at hcl;rw [<-hN.out] at hcl;rw [<-hN.out];go_enter func72,ntmps72;go_upto_region 1 with (fail);generalize hW:World.alloc (World.alloc _ _) _=W0;obtain⟨E0,z0,b0,b1⟩:=bV hW;clear hW z0;replace b0:=aa (show Blk W0 w [r,sm b off n c] _ from b0);replace b1:=aa (show Blk W0 (w+1) [(0:Int),.slice none 0 0] _ from b1);have⟨g0,l0⟩:=b0.gl;have⟨g1,l1⟩:=b1.gl;have f1:=b1.free;have hk:=aa (show ∀ V,Ext W0 V->V.cell? (ad w 0)=si r/\V.cell? (ad w 1)=sq b off n c from λ V hV=>⟨(b0.ext hV).cells 0,(b0.ext hV).cells 1⟩);clear g0 l0 g1 l1 f1
 go_region_held3 (λ V=>V.cell? (ad w 0)=si r/\V.cell? (ad w 1)=sq b off n c)
  (first | exact hk.out _ (by first | exact (ab _).drew | exact hE9.out) | exact hS9.out _ _)
  (first | (go_at_call 136;refine (hcl.out _ (E0.trans (ab _).drew)).mono ?_;rintro e w9 ⟨q9,c9,rfl,o9,E9⟩;have hE9:=aa (show Ext W0 w9 from (ab _).drew.trans E9);have hS9:=aa (show ∀ u v,World.cell? (World.setCell (World.setCell w9 (ad (w+1) 0) u) (ad (w+1) 1) v) (ad w 0)=si r/\World.cell? (World.setCell (World.setCell w9 (ad (w+1) 0) u) (ad (w+1) 1) v) (ad w 1)=sq b off n c from λ u v=>⟨(((b0.ext hE9.out).other 0 u oM).other 1 v oM).cells 0,(((b0.ext hE9.out).other 0 u oM).other 1 v oM).cells 1⟩);have b9:=b1.ext hE9.out;have p0:=b9.cells 0;have p1:=b9.cells 1;have f0:=b9.free 0;have f1:=b9.free 1;have l9:=b9.lt;simp only [aJ,aN] at p0 p1;replace o9:=aa o9;clear E9))
 have o8:=aa (show w9.ownsRow W0 139 4 (sl q9 n c9) n (l.flatMap aj) from o9.out);have hsz:w.heap.size+1<W0.heap.size:=b1.lt;have hB8:=(b9.set 0 r).set 1 (sl q9 n c9);have hM8:Mut w9 _ [w.heap.size+1]:=((fw w9 [w.heap.size+1]).setCell (p:=(ad (w+1) 0)) (by simp) r).setCell (p:=(ad (w+1) 1)) (by simp) (sl q9 n c9);have hx8:=((E0.trans hE9.out).setCell (p:=(ad (w+1) 0)) (bv _) r).setCell (p:=(ad (w+1) 1)) (bv _) (sl q9 n c9);have hO8:=hM8.grownBy (λ g hg hh=>by have:=(o8.lt g hg).1;simp at hh;omega) o8.out;generalize World.setCell _ _ _=WF at hB8 hM8 hx8 hO8 ⊢;have t0:=hB8.cells 0;have t1:=hB8.cells 1;have tf:=hB8.lt;simp only [aW,aY,aJ,aN] at t0 t1;go_wp2_with (fail);refine bB (v:=.agg #[r,sl q9 n c9]) (by simp [results,Tryz.results72,go_sem,t0,t1]) rfl ⟨q9,c9,rfl,mF hO8 oM,hx8⟩
theorem HF (r:Int)(b off c:Nat)(l:List Q4)(w:World)(h:SlT aj 4 w (so b off) l.length l)(h0:0<l.length)(hn:l.length<=1048576) :
 Calls prog 54 #[.agg #[r,sm b off l.length c]] w (u5 r l w):=by
 obtain⟨i0,hi,hz0,hz1,hz2⟩:=aM gm;have hfl:Hid ((l.flatMap aj).length=l.length*4):=by show _=_;rw [kC cw]
 have hnw:=aa (λ(V:World) (hV:Ext w V)=>HD (h.ext hV));obtain⟨n,hN⟩:∃ n,Hid (n=l.length):=⟨_,aa rfl⟩;have hn2:n<=1048576:=by rw [hN.out];exact hn
 have hn0:0<n:=by rw [hN.out];exact h0
 rw [<-hN.out] at hfl;unfold u5;rw [<-hN.out];go_enter func54,ntmps54;go_upto_region 1 with (fail);generalize hW:World.alloc (World.alloc _ _) _=W0;obtain⟨E0,z0,b0,b1⟩:=bV hW;clear hW z0;replace b0:=aa (show Blk W0 w [r,sm b off n c] _ from b0);replace b1:=aa (show Blk W0 (w+1) [(0:Int),.slice none 0 0] _ from b1);have⟨g0,l0⟩:=b0.gl;have⟨g1,l1⟩:=b1.gl;have f1:=b1.free;have hk:=aa (show ∀ V,Ext W0 V->V.cell? (ad w 0)=si r/\V.cell? (ad w 1)=sq b off n c from λ V hV=>⟨(b0.ext hV).cells 0,(b0.ext hV).cells 1⟩);clear g0 l0 g1 l1 f1;have ho:=dh (size:=4) (aD W0 [] 139) (ai _);replace ho:=aa (mY ho)
 go_region_held3 (λ V=>V.cell? (ad w 0)=si r/\V.cell? (ad w 1)=sq b off n c)
  (first | exact hk.out _ (by first | exact (ab _).drew | exact ((ab _).alloc _).drew | exact hE9.out) | exact hS9.out _ _)
  (first | (refine mV _ rfl _ _ 77 rfl W0 139 i0 _ 4 32 underlying77 hi hz0 hz1 hz2 rfl oM _ _ _ rfl ho.out (ad b off) n c (l.flatMap aj) rfl hfl.out (hnw.out _ (E0.trans ((ab _).alloc _).drew)) (HC l) hn0 (by unfold maxLen;omega) oM (by simp) _ rfl ?_;intro gL c9 w9 hoA hgA hbA hlA;have hE9:=aa (((ab W0).alloc _).drew.grown hgA (λ b hb=>(ho.lt b hb).1));have hS9:=aa (show ∀ u v,World.cell? (World.setCell (World.setCell w9 (ad (w+1) 0) u) (ad (w+1) 1) v) (ad w 0)=si r/\World.cell? (World.setCell (World.setCell w9 (ad (w+1) 0) u) (ad (w+1) 1) v) (ad w 1)=sq b off n c from λ u v=>⟨(((b0.ext hE9.out).other 0 u oM).other 1 v oM).cells 0,(((b0.ext hE9.out).other 0 u oM).other 1 v oM).cells 1⟩);have b9:=b1.ext hE9.out;have p0:=b9.cells 0;have p1:=b9.cells 1;have f0:=b9.free 0;have f1:=b9.free 1;have l9:=b9.lt;simp only [aJ,aN] at p0 p1;replace hoA:=aa hoA;clear hgA hbA hlA))
 have o8:=aa (show w9.ownsRow W0 139 4 (sm gL 0 n c9) n (l.flatMap aj) from by have:=hoA.out;rw [fQ,List.nil_append] at this;exact this);try simp only [fQ]
 obtain⟨q9,hq9⟩:∃ q9,q9=some ((ad gL 0):Addr):=⟨_,rfl⟩;rw [<-hq9] at o8 ⊢;clear hoA ho hq9;have hsz:w.heap.size+1<W0.heap.size:=b1.lt;have hB8:=(b9.set 0 r).set 1 (sl q9 n c9);have hM8:Mut w9 _ [w.heap.size+1]:=((fw w9 [w.heap.size+1]).setCell (p:=(ad (w+1) 0)) (by simp) r).setCell (p:=(ad (w+1) 1)) (by simp) (sl q9 n c9);have hx8:=((E0.trans hE9.out).setCell (p:=(ad (w+1) 0)) (bv _) r).setCell (p:=(ad (w+1) 1)) (bv _) (sl q9 n c9);have hO8:=hM8.grownBy (λ g hg hh=>by have:=(o8.lt g hg).1;simp at hh;omega) o8.out;generalize World.setCell _ _ _=WF at hB8 hM8 hx8 hO8 ⊢;have t0:=hB8.cells 0;have t1:=hB8.cells 1;have tf:=hB8.lt;simp only [aW,aY,aJ,aN] at t0 t1;go_wp2_with (fail);refine bB (v:=.agg #[r,sl q9 n c9]) (by simp [results,Tryz.results54,go_sem,t0,t1]) rfl ⟨q9,c9,rfl,mF hO8 oM,hx8⟩
structure AwI (w wx:World) (K1 K2:List aV) (q1:OA) (c1:Nat) (q2:OA) (c2:Nat):Prop where
 out:∃ H1 H2:List VX,OwVH w wx q1 c1 K1 H1/\OwVH w wx q2 c2 K2 H2/\∀ b,(b∈ao q1\/b∈di Prod.snd H1)->¬ (b∈ao q2\/b∈di Prod.snd H2)
 ext:Ext w wx
theorem AwI.swap {c1 c2:Nat}{w wx:World}{K1 K2:List aV}{q1 q2:OA}(h:AwI w wx K1 K2 q1 c1 q2 c2):AwI w wx K2 K1 q2 c2 q1 c1:=let ⟨⟨H1,H2,a,b,d⟩,e⟩:=h;⟨⟨H2,H1,b,a,λ x hx hy=>d x hy hx⟩,e⟩
theorem AwI.later {c1 c2:Nat}{w wx wy:World}{K1 K2:List aV}{q1 q2:OA}(h:AwI w wx K1 K2 q1 c1 q2 c2)(E:Ext wx wy):AwI w wy K1 K2 q1 c1 q2 c2:=let ⟨⟨H1,H2,a,b,d⟩,e⟩:=h;⟨⟨H1,H2,⟨a.1.ext E,a.2⟩,⟨b.1.ext E,b.2⟩,d⟩,e.trans E⟩
theorem AwI.top {c1 c2:Nat}{w wx:World}{K1 K2:List aV}{q1 q2:OA}(h:AwI w wx K1 K2 q1 c1 q2 c2):∃ H9:List Value,wx.ownsRow w 79 2 (sl q1 K1.length c1) K1.length H9/\Hid (∃ H1 H2:List VX,H9=H1.flatMap fV/\OwVH w wx q1 c1 K1 H1/\OwVH w wx q2 c2 K2 H2/\∀ b,(b∈ao q1\/b∈di Prod.snd H1)->¬ (b∈ao q2\/b∈di Prod.snd H2)):=by obtain⟨⟨H1,H2,a,b,d⟩,-⟩:=h;exact⟨_,a.1.top,H1,H2,rfl,a,b,d⟩
theorem AwI.push {n c1 c2 ca n1 cc1:Nat}{w wr wV wA:World}{K1 K2:List aV}{q1 q2 qa q':OA}(hE:Ext w wr)(E:Ext wr wV)(x:aV)(hr:wV.ownsRow wr 139 4 (sl q' n1 cc1) n1 ((ah x.2).flatMap aj)){o:Obj}(hn:K1.length=n){H9:List Value}
 (hH:∃ H1 H2:List VX,H9=H1.flatMap fV/\OwVH w wr q1 c1 K1 H1/\OwVH w wr q2 c2 K2 H2/\∀ b,(b∈ao q1\/b∈di Prod.snd H1)->¬ (b∈ao q2\/b∈di Prod.snd H2))
 (ht:wA.ownsRow w 79 2 (sl qa (n+1) ca) (n+1) (H9++[.int .i64 x.1,.slice q' n1 cc1])) (hgr:(wV.alloc o).grownBy wA (Value.slice q1 n c1).ownBlock)
 (hb:(Value.slice qa (n+1) ca).ownBlock=(Value.slice q1 n c1).ownBlock\/(Value.slice qa (n+1) ca).ownBlock=some (wV.alloc o).heap.size):AwI w wA (K1++[x]) K2 qa ca q2 c2:=by
 obtain⟨H1,H2,rfl,a1,a2,d⟩:=hH;subst hn;have E2:Ext wr (wV.alloc o):=E.alloc o;have b1:OwVH w (wV.alloc o) q1 c1 K1 H1:=⟨a1.1.ext E2,a1.2⟩;have b2:OwVH w (wV.alloc o) q2 c2 K2 H2:=⟨a2.1.ext E2,a2.2⟩;have hr2:=aG hr ((ab wV).alloc o);have hge:∀ b,b∈ao q'->wr.heap.size<=b/\b<(wV.alloc o).heap.size:=dE hr2;have hbw:w.heap.size<=wr.heap.size:=hE.le;have hq:=up (v:=.bool true) (v':=.bool true) hb;have M:Mut (wV.alloc o) wA (ao q1):=uW hgr
 have hpush:=b1.1.push (x:=(x.1,(q',n1,cc1))) (v:=(ah x.2).flatMap aj) (mF hr2 hbw) (λ b hb=>⟨λ h'=>by
  have h1:=(hge b hb).1;have h2:=(a1.1.geTop b h').2;omega,λ h'=>by
  have h1:=(hge b hb).1;have h2:=(a1.1.geRow b h').2;omega⟩) ht hgr hq
 have hrows:∀ b,b∈di Prod.snd (H1++[(x.1,(q',n1,cc1))])->b∈di Prod.snd H1\/b∈ao q':=λ b hb=>by
  rw [di,dj,aL49] at hb;rcases hb with hb | hb
  . exact ay hb
  . right;simpa using hb
 refine⟨⟨H1++[(x.1,(q',n1,cc1))],H2,⟨?_,?_⟩,⟨b2.1.mut M (λ b hb hh=>d b (ay hh) (ay hb)) (λ b hb hh=>d b (ay hh) (aB hb)),b2.2⟩,λ b hb hh=>?_⟩,?_⟩
 . have e2:(K1++[x]).length=K1.length+1:=by rw [aI];rfl
   rw [e2,nD,dT,dT];exact hpush
 . rw [dT,dT,b1.2];rfl
 . have hlt:b<wr.heap.size:=hh.elim (λ h=>(a2.1.geTop b h).2) (λ h=>(a2.1.geRow b h).2);rcases hb with hb | hb
   . rcases hq b hb with h3 | h3
     . exact d b (ay h3) hh
     . have:=E2.le;omega
   . rcases hrows b hb with h3 | h3
     . exact d b (aB h3) hh
     . have:=(hge b h3).1;omega
 . exact (hE.trans E2).then M (λ b hb=>(a1.1.geTop b hb).1)
theorem AwI.geA {c1 c2:Nat}{w wx:World}{K1 K2:List aV}{q1 q2:OA}(h:AwI w wx K1 K2 q1 c1 q2 c2):∀ b,b∈ao q1->w.heap.size<=b:=λ b hb=>let ⟨⟨_,_,a,_,_⟩,_⟩:=h;(a.1.geTop b hb).1
theorem AwI.low {c1 c2:Nat}{w v wx:World}{K1 K2:List aV}{q1 q2:OA}(h:AwI v wx K1 K2 q1 c1 q2 c2)(E:Ext w v):AwI w wx K1 K2 q1 c1 q2 c2:=let ⟨⟨H1,H2,a,b,d⟩,e⟩:=h;⟨⟨H1,H2,⟨a.1.low E.le,a.2⟩,⟨b.1.low E.le,b.2⟩,d⟩,E.trans e⟩
theorem HH {r:RuD}(h:au r=true):uA (jE r):=by
 have hx:(0<=r.a/\r.a<=1000000)/\(0<=r.b/\r.b<=1000000)/\(0<=r.c/\r.c<=1000000)/\(0<=r.d/\r.d<=1000000)/\(0<=r.e/\r.e<=1000000):=by
  simp only [au,ae,cm,dS] at h;obtain⟨h1,h2,h3,h4⟩:=h;repeat' split at h3;all_goals repeat' split at h4
  all_goals simp only [cm,dS,beq_iff_eq,qN] at h3 h4
  all_goals omega
 intro x hx2;simp only [jE,aL89,List.not_mem_nil,or_false] at hx2;rcases hx2 with rfl | rfl | rfl | rfl | rfl <;> omega
theorem HI {l:List aV}{j:Nat}{x:aV}(R:List RuD)(W:List WvD)(h:l[j]?=some x):iE R W (l.take (j+1))=if kv W (nC R x) then iE R W (l.take j) else iE R W (l.take j)++[x]:=by
 rw [ch h,iE,iE,i8]
 cases hc:kv W (nC R x) <;> simp [hc]
theorem HJ {l:List aV}{j:Nat}{x:aV}(R:List RuD)(W:List WvD)(h:l[j]?=some x):iF R W (l.take (j+1))=if kv W (nC R x) then iF R W (l.take j)++[x] else iF R W (l.take j):=by
 rw [ch h,iF,iF,i8]
 cases hc:kv W (nC R x) <;> simp [hc]
theorem HK (R:List RuD)(W:List WvD)(l:List aV)(j:Nat):(iE R W (l.take j)).length<=l.length:=aS (jU _ _) (by rw [fI];omega)
theorem HM (R:List RuD)(W:List WvD)(l:List aV)(j:Nat):(iF R W (l.take j)).length<=l.length:=aS (jU _ _) (by rw [fI];omega)
def yG (K1 K2:List aV) (w:World) (e:Ending) (w':World):Prop:=∃ q1 c1 q2 c2,e=.returned (.tuple #[sl q1 K1.length c1,sl q2 K2.length c2,.int .i64 0])/\AwI w w' K1 K2 q1 c1 q2 c2
theorem AwI.start {w w2:World}{b1 b2:Nat}{c1 c2:Nat}(h1:w2.ownsRow w 79 2 (sm b1 0 0 c1) 0 [])(h2:w2.ownsRow w 79 2 (sm b2 0 0 c2) 0 [])(hb:b1≠b2)(E:Ext w w2):AwI w w2 [] [] (so b1 0) c1 (so b2 0) c2 :=
 ⟨⟨[],[],⟨OwnX.start h1,rfl⟩,⟨OwnX.start h2,rfl⟩,λ b hx hy=>by simp [di,ao] at hx hy;omega⟩,E⟩
theorem RW (p:OA)(m base:Nat)(R:List RuD)(q:OA)(n c:Nat)(l:List aV)(p2:OA)(n2 c2:Nat)(W0:List WvD)(w:World)(hR:SlD (Fl bE) 5 base w p m R)(hk:dO R=true)(hm:m<=12)(hs:∀ r∈R,au r=true)(h:SlV w q n l)(hn:n<=256)(hl:RpOk m l)(hW:SlD (Fl cj) 2 base w p2 n2 W0)(hw:fk W0=true)(hn2:n2<=1048576)(hf:∀ x∈W0,x.s.size<=9223372036854775807) :
 Calls prog 26 #[.agg #[sl p m m],sl q n c,sl p2 n2 c2] w (yG (iE R W0 l) (iF R W0 l) w):=by
 obtain⟨i0,hi,hz0,hz1,hz2⟩:=aM uV;have k1:=aa (λ V (hV:Ext w V)=>RQ p m base R q n c l p2 n2 c2 W0 V (hR.ext aT hV) hk hm (h.ext hV) hn hl (hW.ext okWaiver hV) hw hn2 hf);have hll:=aa h.length;have hrl:=hR.length;replace hs:=aa hs;replace hl:=aa hl;have hwv:=aa (λ(s:Int) (V:World) (hV:Ext w V)=>RN p2 n2 c2 base W0 s V (hW.ext okWaiver hV) hn2);have hvs:=aa (λ(k:Nat) (q1:OA) (n1 cc1:Nat) (l1:List Q4) (V:World) (hV:Ext w V) (hk:k<m) (h1:SlT aj 4 V q1 n1 l1) (h0:0<n1) (hn1:n1<=3200) (hr:aH l1=true)=>RH p m m base R k q1 n1 cc1 l1 V (hR.ext aT hV) hk hm h1 h0 hn1 hr (HH (hs.out _ (by rw [iD,kz,bK oM];exact qF _))));clear hR hk hW hw hf hrl;go_enter func26,ntmps26;go_upto_region 1 with (fail);generalize hW:World.alloc _ _=V0;obtain⟨E0,z0,b0⟩:=al hW;clear hW z0;replace b0:=aa (show Blk V0 w [sl p m m] _ from b0);have⟨g0,l0⟩:=b0.gl;go_upto_region 4 with (first | (go_at_call 69;(with_reducible refine (k1.out _ E0).mono ?_);rintro e w1 ⟨rfl,E1⟩;have bx1:=aa (b0.ext E1)) | fail);go_wp2_with (fail);have ho1:=dh (size:=2) ((aD w1 [] 79).alloc (.cells #[] 79)) E1.le;have ho2:=dh (size:=2) (jJ w1 (.cells #[] 79) [] 79) (Nat.le_succ_of_le E1.le);have hA0:=AwI.start ho1 ho2 oM ((E1.alloc _).alloc _);have bx2:=(bx1.alloc (.cells #[] 79)).alloc (.cells #[] 79);generalize World.alloc (World.alloc _ _) _=W2 at hA0 bx2 ⊢;replace hA0:=aa hA0;replace bx2:=aa bx2;have hV0:w.heap.size<V0.heap.size:=b0.lt;replace E0:=aa E0;clear ho1 ho2 E1 bx1 g0 l0 b0;go_loopw [10,11,25] (λ va vb i wx=>∃ (j:Nat) (qa:OA) (ca:Nat) (qb:OA) (cb:Nat),j<=n/\va=sl qa (iE R W0 (l.take j)).length ca/\vb=sl qb (iF R W0 (l.take j)).length cb/\i=.int .i64 j/\Hid (AwI V0 wx (iE R W0 (l.take j)) (iF R W0 (l.take j)) qa ca qb cb)/\Hid (Blk wx w [sl p m m] 50)) (λ _ _ i _=>n - (intOf i).toNat)
 case atStart=>exact⟨0,_,_,_,_,oM,rfl,rfl,rfl,hA0,bx2⟩
 case round =>
  clear hA0 bx2;obtain⟨j,qa,ca,qb,cb,hj,rfl,rfl,rfl,hA,hB⟩:=hrel;by_cases hjt:j<n
  . have hjI:(j:Int)<(n:Int):=oM;obtain⟨b,off,q1,n1,cc1,⟨xr,xg⟩,rfl,hb,hx,x0,x1,s1⟩:=(h.ext (E0.trans hA.ext)).get hjt;obtain⟨hr0,hr1⟩:=hl.rule _ (ap hx.out);obtain⟨p1,p2x,p3,-,-⟩:=SlV.canon_ne hl.out hx.out;simp only at hr0 hr1 x0 x1 s1 p1 p2x p3;obtain⟨k,rfl⟩:∃ k:Nat,xr=k:=⟨xr.toNat,oM⟩;have hkm:k<m:=oM;obtain rfl:(ah xg).length=n1:=s1.length;obtain⟨b1,o1,y1,rfl,-,-⟩:=s1.four p1;have hkp:=aa (HI R W0 hx.out);have hwd:=aa (HJ R W0 hx.out);have hvx:Hid (nC R ((k:Int),xg)=my (iD R k) (ah xg)):=aa rfl;rw [hvx.out] at hkp hwd;have hka:=HK R W0 l j;have hkb:=HM R W0 l j;rw [hll.out] at hka hkb;obtain⟨K1,hK1⟩:∃ K1,iE R W0 (l.take j)=K1:=⟨_,rfl⟩;obtain⟨K2,hK2⟩:∃ K2,iF R W0 (l.take j)=K2:=⟨_,rfl⟩;rw [hK1] at hA hkp hka;rw [hK2] at hA hwd hkb;rw [hK1,hK2];clear hK1 hK2 hvx;obtain⟨S,hS⟩:∃ S,my (iD R k) (ah xg)=S:=⟨_,rfl⟩;rw [hS] at hkp hwd;obtain⟨N1,hN1⟩:∃ N1,N1=K1.length:=⟨_,rfl⟩;obtain⟨N2,hN2⟩:∃ N2,N2=K2.length:=⟨_,rfl⟩;rw [<-hN1] at hka;rw [<-hN2] at hkb;rw [<-hN1,<-hN2];replace hN1:=aa hN1;replace hN2:=aa hN2;have hsg:=λ(V:World) (hV:Ext wr V)=>hvs.out k _ (ah xg).length cc1 (ah xg) V (E0.trans (hA.ext.trans hV)) hkm (s1.ext hV) p1 p2x p3
    rw [hS] at hsg;replace hsg:=aa hsg;have hww:=λ(V:World) (hV:Ext wr V)=>hwv.out S V (E0.trans (hA.ext.trans hV))
    have⟨hBc,hBl⟩:=hB.gl;replace s1:=aa s1;have p2m:(ah xg).length<=1048576:=oM;clear hS hr0 hr1 p3;go_upto_region 8 with (fail);generalize hW8:World.alloc _ _=W8;obtain⟨E8,z8,b8⟩:=al hW8;clear hW8 z8;replace b8:=aa (show Blk W8 wr [(k:Int),sm b1 o1 (ah xg).length cc1] _ from b8);have⟨g8,l8⟩:=b8.gl;have hB8:=aa (hB.ext E8);have⟨gB8,lB8⟩:=hB8.gl;replace E8:=aa E8;clear x0 x1 hb hBc hBl
    cases hcw:kv W0 S with
    | true => rw [hcw] at hww hkp hwd;replace hww:=aa hww;clear hcw;go_upto_region 9 with (first | (go_at_call 71;refine (hsg.out _ E8.out).mono ?_;rintro e w9 ⟨rfl,E9⟩;have hE9s:=aa (E8.trans E9)) | (go_at_call 70;refine (hww.out _ hE9s.out).mono ?_;rintro e wz ⟨rfl,Ez⟩;have hEz:=aa (hE9s.trans Ez);have bz8:=aa (b8.ext (E9.trans Ez));have⟨gz,lz⟩:=bz8.gl;have bz:=aa (hB.ext hEz.out);have hAz:=aa (hA.later hEz.out);clear E9 Ez) | fail);have hz:=aa (hAz.swap);have hcp:=aa (λ(V:World) (hV:Ext wz V)=>HE (k:Int) b1 o1 cc1 (ah xg) V ((s1.ext hEz.out).ext hV) p2m);exact zi
    | false => rw [hcw] at hww hkp hwd;replace hww:=aa hww;clear hcw;go_upto_region 10 with (first | (go_at_call 71;refine (hsg.out _ E8.out).mono ?_;rintro e w9 ⟨rfl,E9⟩;have hE9s:=aa (E8.trans E9)) | (go_at_call 70;refine (hww.out _ hE9s.out).mono ?_;rintro e wz ⟨rfl,Ez⟩;have hEz:=aa (hE9s.trans Ez);have bz8:=aa (b8.ext (E9.trans Ez));have⟨gz,lz⟩:=bz8.gl;have bz:=aa (hB.ext hEz.out);have hAz:=aa (hA.later hEz.out);clear E9 Ez) | fail);have hz:=hAz;have hcp:=aa (λ(V:World) (hV:Ext wz V)=>HE (k:Int) b1 o1 cc1 (ah xg) V ((s1.ext hEz.out).ext hV) p2m);exact zh
  . exact Ac
theorem RX (p:OA)(m base:Nat)(R:List RuD)(q:OA)(n c:Nat)(l:List aV)(p2:OA)(n2 c2:Nat)(W0:List WvD)(w:World)(hR:SlD (Fl bE) 5 base w p m R)(hk:dO R=true)(hm:m<=12)(hs:∀ r∈R,au r=true)(h:SlV w q n l)(hn:n<=256)(hl:RpOk m l)(hW:SlD (Fl cj) 2 base w p2 n2 W0)(hw:fk W0=true)(hn2:n2<=1048576)(hf:∀ x∈W0,x.s.size<=9223372036854775807) :
 Calls prog 19 #[.agg #[sl p m m],sl q n c,sl p2 n2 c2] w (yG (iE R W0 l) (iF R W0 l) w):=by
 obtain⟨i0,hi,hz0,hz1,hz2⟩:=aM uV;have k1:=aa (λ V (hV:Ext w V)=>RR p m base R q n c l p2 n2 c2 W0 V (hR.ext aT hV) hk hm (h.ext hV) hn hl (hW.ext okWaiver hV) hw hn2 hf);have hll:=aa h.length;have hrl:=hR.length;replace hs:=aa hs;replace hl:=aa hl;have hRf:=aa hR.flat;have hwv:=aa (λ(s:Int) (V:World) (hV:Ext w V)=>RO p2 n2 c2 base W0 s V (hW.ext okWaiver hV) hn2);clear hR hk hW hw hf;go_enter func19,ntmps19;go_upto_region 1 with (fail);generalize hW:World.alloc _ _=V0;obtain⟨E0,z0,b0⟩:=al hW;clear hW z0;replace b0:=aa (show Blk V0 w [sl p m m] _ from b0);have⟨g0,l0⟩:=b0.gl;go_upto_region 4 with (first | (go_at_call 51;(with_reducible refine (k1.out _ E0).mono ?_);rintro e w1 ⟨rfl,E1⟩;have bx1:=aa (b0.ext E1)) | fail);go_wp2_with (fail);have ho1:=dh (size:=2) ((aD w1 [] 79).alloc (.cells #[] 79)) E1.le;have ho2:=dh (size:=2) (jJ w1 (.cells #[] 79) [] 79) (Nat.le_succ_of_le E1.le);have hA0:=AwI.start ho1 ho2 oM ((E1.alloc _).alloc _);have bx2:=(bx1.alloc (.cells #[] 79)).alloc (.cells #[] 79);generalize World.alloc (World.alloc _ _) _=W2 at hA0 bx2 ⊢;replace hA0:=aa hA0;replace bx2:=aa bx2;have hV0:w.heap.size<V0.heap.size:=b0.lt;replace E0:=aa E0;clear ho1 ho2 E1 bx1 g0 l0 b0;go_loopw [10,11,12] (λ va vb i wx=>∃ (j:Nat) (qa:OA) (ca:Nat) (qb:OA) (cb:Nat),j<=n/\va=sl qa (iE R W0 (l.take j)).length ca/\vb=sl qb (iF R W0 (l.take j)).length cb/\i=.int .i64 j/\Hid (AwI V0 wx (iE R W0 (l.take j)) (iF R W0 (l.take j)) qa ca qb cb)/\Hid (Blk wx w [sl p m m] 50)) (λ _ _ i _=>n - (intOf i).toNat)
 case atStart=>exact⟨0,_,_,_,_,oM,rfl,rfl,rfl,hA0,bx2⟩
 case round =>
  clear hA0 bx2;obtain⟨j,qa,ca,qb,cb,hj,rfl,rfl,rfl,hA,hB⟩:=hrel;by_cases hjt:j<n
  . have hjI:(j:Int)<(n:Int):=oM;obtain⟨b,off,q1,n1,cc1,⟨xr,xg⟩,rfl,hb,hx,x0,x1,s1⟩:=(h.ext (E0.trans hA.ext)).get hjt;obtain⟨hr0,hr1⟩:=hl.rule _ (ap hx.out);obtain⟨p1,p2x,p3,-,-⟩:=SlV.canon_ne hl.out hx.out;simp only at hr0 hr1 x0 x1 s1 p1 p2x p3;obtain⟨k,rfl⟩:∃ k:Nat,xr=k:=⟨xr.toNat,oM⟩;have hkm:k<m:=oM;obtain rfl:(ah xg).length=n1:=s1.length;obtain⟨b1,o1,y1,rfl,-,-⟩:=s1.four p1;have hkp:=aa (HI R W0 hx.out);have hwd:=aa (HJ R W0 hx.out);have hvx:Hid (nC R ((k:Int),xg)=my (iD R k) (ah xg)):=aa rfl;rw [hvx.out] at hkp hwd;have hka:=HK R W0 l j;have hkb:=HM R W0 l j;rw [hll.out] at hka hkb;obtain⟨K1,hK1⟩:∃ K1,iE R W0 (l.take j)=K1:=⟨_,rfl⟩;obtain⟨K2,hK2⟩:∃ K2,iF R W0 (l.take j)=K2:=⟨_,rfl⟩;rw [hK1] at hA hkp hka;rw [hK2] at hA hwd hkb;rw [hK1,hK2];clear hK1 hK2 hvx;obtain⟨S,hS⟩:∃ S,my (iD R k) (ah xg)=S:=⟨_,rfl⟩;rw [hS] at hkp hwd;obtain⟨N1,hN1⟩:∃ N1,N1=K1.length:=⟨_,rfl⟩;obtain⟨N2,hN2⟩:∃ N2,N2=K2.length:=⟨_,rfl⟩;rw [<-hN1] at hka;rw [<-hN2] at hkb;rw [<-hN1,<-hN2];replace hN1:=aa hN1;replace hN2:=aa hN2;obtain⟨bR,oR,y,rfl,hb2,hy,hc⟩:=(hRf.ext (E0.trans hA.ext)).get hkm;have hyv:Hid (iD R k=y):=aa (by rw [iD,kz,hy.out];rfl);have gT:=hs.out y (ap hy.out);rw [hyv.out] at hS;have c0:=hc 0 _ rfl;rw [aq] at c0;have c1:=hc 1 _ rfl;have c2x:=hc 2 _ rfl;have c3x:=hc 3 _ rfl;have c4x:=hc 4 _ rfl;clear hc;have hkI:(k:Int)<(m:Int):=oM;have hsg:=λ(V:World) (hV:Ext wr V)=>RG y _ (ah xg).length cc1 (ah xg) V (s1.ext hV) p1 p2x p3 (HH gT)
    rw [hS] at hsg;replace hsg:=aa hsg;have hww:=λ(V:World) (hV:Ext wr V)=>hwv.out S V (E0.trans (hA.ext.trans hV))
    have⟨hBc,hBl⟩:=hB.gl;replace s1:=aa s1;have p2m:(ah xg).length<=1048576:=oM;clear hS hr0 hr1 p3 gT
    cases hcw:kv W0 S with
    | true =>
      rw [hcw] at hww hkp hwd;replace hww:=aa hww;clear hcw;go_upto_region 9 with (fail);refine aQ kR kR ?_;repeat (go_big_quiet_step (first | (go_at_call 53;exact bh (hsg.out _ (Later.ok _))) | (go_at_call 52;exact bh (hww.out _ (Later.ok _)))))
      refine bW ?_;rintro wz ⟨⟨_,Ez⟩,rfl⟩;have hEz:=aa Ez;have bz:=aa (hB.ext Ez);have hAz:=aa (hA.later Ez);have x0z:=(Ez.cells _ _ hb).trans x0;have x1z:=(Ez.cells _ _ hb).trans x1;have hbz:=aF hb Ez.le;clear x0 x1 hb hBc hBl Ez c0 c1 c2x c3x c4x hb2;have hz:=aa (hAz.swap);have hcp:=aa (λ(V:World) (hV:Ext wz V)=>HF (k:Int) b1 o1 cc1 (ah xg) V ((s1.ext hEz.out).ext hV) p1 p2m);exact zi
    | false =>
      rw [hcw] at hww hkp hwd;replace hww:=aa hww;clear hcw;go_upto_region 9 with (fail);refine aQ kR kR ?_;repeat (go_big_quiet_step (first | (go_at_call 53;exact bh (hsg.out _ (Later.ok _))) | (go_at_call 52;exact bh (hww.out _ (Later.ok _)))))
      refine bW ?_;rintro wz ⟨⟨_,Ez⟩,rfl⟩;have hEz:=aa Ez;have bz:=aa (hB.ext Ez);have hAz:=aa (hA.later Ez);have x0z:=(Ez.cells _ _ hb).trans x0;have x1z:=(Ez.cells _ _ hb).trans x1;have hbz:=aF hb Ez.le;clear x0 x1 hb hBc hBl Ez c0 c1 c2x c3x c4x hb2;have hz:=hAz;have hcp:=aa (λ(V:World) (hV:Ext wz V)=>HF (k:Int) b1 o1 cc1 (ah xg) V ((s1.ext hEz.out).ext hV) p1 p2m);exact zh
  . exact Ac
end Go.Proofs.YtnlajnpcdnnpmaaGreat
