/- Part of a proof. No condition. -/
import Derived.Test.YtnlajnpcdnnpmaaGreatA21
namespace Go.Proofs.YtnlajnpcdnnpmaaGreat
set_option linter.all false
set_option maxRecDepth 100000
set_option maxHeartbeats 16000000
open Go.Proofs.Tryz Go.RowKit Go.PlainAid
abbrev cu:=Q4×Hd
def fT (x:cu):List Value:=[.int .i64 x.1.a,.int .i64 x.1.b,.int .i64 x.1.c,.int .i64 x.1.d,ci x.2]
theorem M0 (x:cu):(fT x).length=5:=rfl
theorem FI (x:cu):∀ u∈fT x,u.oneCell'=true:=λ u hu=>by simp [fT] at hu;rcases hu with rfl | rfl | rfl | rfl | rfl <;> rfl
theorem FJ (l:List Int):∀ u∈cS l,u.oneCell'=true:=λ u hu=>by simp [cS] at hu;obtain⟨x,_,rfl⟩:=hu;rfl
theorem FK:(prog.info? 233).map (λ i=>(i.zero,i.size,i.bytes))=some (some (.agg #[(0:Int),(0:Int),(0:Int),(0:Int),.slice none 0 0]),5,56):=by kernel_rfl
def OcO (N0:Nat) (w:World) (q:OA) (n c:Nat) (H:List cu):Prop:=∃ V:List (List Int),OwnX fT Prod.snd 233 2 5 1 N0 w q n c H (V.map cS)
theorem OcO.len {N0 n c:Nat}{w:World}{q:OA}{H:List cu}(h:OcO N0 w q n c H):H.length=n:=let ⟨_,h⟩:=h;h.len
theorem OcO.ext {N0 n c:Nat}{w w':World}{q:OA}{H:List cu}(h:OcO N0 w q n c H)(E:Ext w w'):OcO N0 w' q n c H:=let ⟨V,h⟩:=h;⟨V,h.ext E⟩
theorem OcO.ge {N0 n c:Nat}{w:World}{q:OA}{H:List cu}(h:OcO N0 w q n c H):∀ b∈ao q,N0<=b/\b<w.heap.size:=let ⟨_,h⟩:=h;h.geTop
theorem OcO.push {N0 n c ca:Nat}{w wB:World}{q qa:OA}{H:List cu}{x:cu}{l:List Int}{ob:Obj}(h:OcO N0 w q n c H)(hr:w.ownsRow N0 2 1 (ci x.2) x.2.2.1 (cS l))(hnew:∀ b,b∈ao x.2.1->b∉ao q/\b∉di Prod.snd H)
 (ht:wB.ownsRow N0 233 5 (sl qa (n+1) ca) (n+1) (H.flatMap fT++fT x)) (hg:(w.alloc ob).grownBy wB (Value.slice q n c).ownBlock) (hb:(Value.slice qa (n+1) ca).ownBlock=(Value.slice q n c).ownBlock\/(Value.slice qa (n+1) ca).ownBlock=some (w.alloc ob).heap.size):OcO N0 wB qa (n+1) ca (H++[x]):=by
 obtain⟨V,h⟩:=h;refine⟨V++[l],?_⟩;rw [dT];exact (h.ext ((ab w).alloc ob)).push (cv hr ob) hnew ht hg (up (v:=.bool true) (v':=.bool true) hb)
theorem Mut.later {a b c:World}{S T:List Nat}(h:Mut a b S)(k:Mut b c T)(hT:∀ x∈T,x∈S\/a.heap.size<=x):Mut a c S :=
 ⟨k.os.trans h.os,k.tape.trans h.tape,k.output.trans h.output,aS h.size k.size,λ i hi hn=>(k.block i (aF hi h.size) λ hh=>(hT i hh).elim hn (λ h=>by omega)).trans (h.block i hi hn)⟩
structure BlI (cells:List CeD) (w0 w:World) (N0:Nat) (qi:OA) (H:List cu) (o:cu) (lv:Value) (els:List Q4) (j:Nat) (q:OA) (N c:Nat) (H':List cu) (wr:World):Prop where
 ext:Ext w0 wr
 own:OcO N0 wr q N c (H++H')
 val:H'.map Prod.fst=o.1 :: (els.take j).flatMap λ e=>ct cells (gM e o.1)
 mt:Mut w wr (ao qi)
 sub:∀ b∈ao q,b∈ao qi\/w.heap.size<=b
 lib:Blk wr w [lv] 44
 occ:Blk wr (w+1) (fT o) 233
 path:∃ l:List Int,wr.ownsRow N0 2 1 (ci o.2) o.2.2.1 (cS l)
 ne:∀ b∈ao q,b≠w.heap.size/\b≠w.heap.size+1/\b∉ao o.2.1
theorem SlT.blk_lt {α:Type}{enc:α->List Value}{sz n:Nat}{w:World}{q:OA}{l:List α}(h:SlT enc sz w q n l)(hn:0<n):∀ b∈ao q,b<w.heap.size:=by
 rcases h.2 with h0 | ⟨b,off,rfl,hb,_⟩
 . omega
 . intro x hx;obtain⟨a,e,rfl⟩:=mem_blkOf.1 hx
   cases e
   exact hb
theorem BlI.step {cells:List CeD}{w0 w:World}{N0:Nat}{qi:OA}{H:List cu}{o:cu}{lv:Value}{els:List Q4}{j:Nat}{q:OA}{N c:Nat}{H':List cu}{wr w6 w7:World}(h:BlI cells w0 w N0 qi H o lv els j q N c H' wr)(E6:Ext wr w6)
 {e:Q4} (he:els[j]?=some e) {q7:OA} {N7 c7:Nat} {H2:List cu} (h1:OcO N0 w7 q7 N7 c7 (H++H'++H2)) (h2:H2.map Prod.fst=ct cells (gM e o.1)) (h3:Mut w6 w7 (ao q)) (h4:Ext w0 w7) (h5:∀ b∈ao q7,b∈ao q\/w6.heap.size<=b) :
 BlI cells w0 w N0 qi H o lv els (j+1) q7 N7 c7 (H'++H2) w7:=by
 have hpos:0<els.length:=by have:=(aL31.1 he).1;omega
 obtain⟨l,hl⟩:=h.path;have s1:=h.mt.size;have s2:=E6.le;have l1:=h.lib.lt;have l2:=h.occ.lt;refine⟨h4,by rw [<-fc];exact h1,?_,(h.mt.ext E6).later h3 h.sub,λ b hb=>?_,(h.lib.ext E6).mut h3 (λ hh=>(h.ne _ hh).1 rfl),(h.occ.ext E6).mut h3 (λ hh=>(h.ne _ hh).2.1 rfl),⟨l,h3.grownBy (λ g hg hh=>?_) (aG hl E6)⟩,λ b hb=>?_⟩
 . rw [dT,h.val,h2,ch he,dj];simp
 . rcases h5 b hb with hh | hh
   . exact h.sub b hh
   . right;omega
 . rw [oA,ew] at hg;exact (h.ne g hh).2.2 (mem_blkOf.2 hg)
 . rcases h5 b hb with hh | hh
   . exact h.ne b hh
   . exact⟨oM,oM,λ hp=>by have:=(dE hl b hp).2;omega⟩
def ElK (wr:World) (qe:OA) (els:List Q4) (q:OA):Prop:=SlT aj 4 wr qe els.length els/\∀ b∈ao q,b∉ao qe
theorem ElK.step {wr w6 w7:World}{qe q q7:OA}{els:List Q4}(h:ElK wr qe els q)(hp:0<els.length)(E6:Ext wr w6)(h3:Mut w6 w7 (ao q))(h5:∀ b∈ao q7,b∈ao q\/w6.heap.size<=b):ElK w7 qe els q7 :=
 ⟨(h.1.ext E6).mut h3 (λ a ha hh=>h.2 _ hh (mem_blkOf.2 ⟨a,ha,rfl⟩)),λ b hb hq=>by
   rcases h5 b hb with hh | hh
   . exact h.2 b hh hq
   . have:=h.1.blk_lt hp b hq;have:=E6.le;omega⟩
theorem FL {α β:Type}{f:α->List β}{els:List α}{j:Nat}{e:α}(he:els[j]?=some e):((els.take j).flatMap f).length+(f e).length<=(els.flatMap f).length:=by
 have hd:=qK j els;rw [o0 (aL31.1 he).1,(aL31.1 he).2] at hd
 have h2:(els.flatMap f).length=((els.take j).flatMap f).length+((f e).length+((els.drop (j+1)).flatMap f).length):=by
  conv=>lhs;rw [<-hd]
  rw [dj,aI,fX,aI]
 omega
theorem M6 (w:World)(d:Nat)(a:OA)(l c:Nat):(Op.equalIn (d+1) 121 (sl a l c) (.slice none 0 0)).run prog w=.ok a.isNone w:=by
 have h:=underlying121
 cases a <;> simp [Op.equalIn,run_underlying h]
theorem M7 (w:World)(a:OA)(l c:Nat):(Op.equal 121 (sl a l c) (.slice none 0 0)).run prog w=.ok a.isNone w:=M6 w 9999 a l c
theorem FM (w:World)(a:OA)(l c:Nat):(binOp .eql 121 (sl a l c) (.slice none 0 0)).run prog w=.ok (.bool a.isNone) w:=by simp [binOp,M7 w a l c]
theorem M8 (N0 b n c:Nat)(l:List Int)(w:World)(h:w.ownsRow N0 2 1 (sm b 0 n c) n (cS l))(hn:n<=1000) :
 Calls prog 338 #[sm b 0 n c] w λ e w'=>∃ q' c',e=.returned (sl q' n c')/\w'.ownsRow w 2 1 (sl q' n c') n (cS l)/\Ext w w':=by
 obtain⟨i0,hi,hz0,hz1,hz2⟩:=aM rR;have ho0:=aa (dh (size:=1) (aD w [] 2) (ai _));have hnw:Hid (∀ j u,(cS l)[j]?=some u->(w.alloc (.cells #[] 2)).cell? (((ad b 0):Addr).add j)=some u):=aa ((cv h (.cells #[] 2)).cells rfl);have hfl:Hid ((cS l).length=n*1):=h.1;have hnil:=λ W=>FM W (so b 0) n c
 go_enter func338,ntmps338;go_wp2_with (at_builtin;refine cZ _ rfl _ _ 121 rfl w 2 i0 (0:Int) 1 8 underlying121 hi hz0 hz1 hz2 rfl oM _ _ _ rfl ho0.out (ad b 0) n c (cS l) rfl hfl.out hnw.out (FJ l) (by unfold maxLen;omega) oM (by simp) ?_;intro v' w9 ho' hg' _ hb';obtain⟨qa,ca,rfl⟩:=cq ho';replace ho':=aa ho';replace hg':=aa hg');exact A5
theorem Na (w:World) :
 CW 338 #[.slice none 0 0] w (.slice none 0 0):=by
 have hnil:=λ W=>FM W none 0 0
 go_enter func338,ntmps338;go_wp2_with (fail);exact kA
theorem Nb (N0:Nat)(x:Hd)(l:List Int)(w:World)(h:w.ownsRow N0 2 1 (ci x) x.2.1 (cS l))(hn:x.2.1<=1000) :
 Calls prog 338 #[ci x] w λ e w'=>∃ q' c',e=.returned (sl q' x.2.1 c')/\w'.ownsRow w 2 1 (sl q' x.2.1 c') x.2.1 (cS l)/\Ext w w':=by
 obtain⟨q,n,c⟩:=x;rcases sE h with ⟨e,e2⟩ | ⟨g,c2,e⟩
 . cases e
   refine (Na w).mono ?_;rintro e w' ⟨rfl,rfl⟩;have hl:cS l=[]:=sF (by have:=h.1;simpa using this);exact⟨none,0,rfl,by rw [hl];exact pd _ _ _ _,ab _⟩
 . cases e
   exact M8 N0 g n c l w h hn
theorem Nc {a b:World}{q:OA}{n c:Nat}(h:a.grownBy b (Value.slice q n c).ownBlock):Mut a b (ao q) :=
 ⟨h.os,h.tape,h.output,h.size,λ k hk hn=>h.block k hk (λ e=>hn (by rw [fd,eq_comm,ew] at e;exact mem_blkOf.2 e))⟩
theorem BlI.start {cells:List CeD}{w0 w W0 wB w2:World}{N0 N c cB:Nat}{q qB:OA}{H:List cu}{o:cu}{lv:Value}{els:List Q4}{ob:Obj}(hE:Ext w0 w)(hN0:w0.heap.size<=N0)(hH:OcO N0 w q N c H)(hp:∃ l:List Int,w.ownsRow N0 2 1 (ci o.2) o.2.2.1 (cS l))(hnew:∀ b,b∈ao o.2.1->b∉ao q/\b∉di Prod.snd H)
 (E0:Ext w W0) (b0:Blk W0 w [lv] 44) (b1:Blk W0 (w+1) (fT o) 233) (hoB:wB.ownsRow N0 233 5 (sl qB (N+1) cB) (N+1) (H.flatMap fT++fT o)) (hgB:(W0.alloc ob).grownBy wB (Value.slice q N c).ownBlock)
 (hbB:(Value.slice qB (N+1) cB).ownBlock=(Value.slice q N c).ownBlock\/(Value.slice qB (N+1) cB).ownBlock=some (W0.alloc ob).heap.size) (E2:Ext wB w2) :
 BlI cells w0 w N0 q H o lv els 0 qB (N+1) cB [o] w2:=by
 obtain⟨l,hl⟩:=hp;have hg:=hH.ge;have M1:=Nc hgB;have s1:=b1.lt;have z1:(W0.alloc ob).heap.size=W0.heap.size+1:=by simp
 have s0:=E0.le;have s2:=hgB.size;have hcs:=up (v:=.bool true) (v':=.bool true) hbB;have mt:Mut w wB (ao q):=((E0.alloc ob).mut (ao q)).same M1;have hq:∀ b∈ao q,b<w.heap.size:=λ b hb=>(hg b hb).2
 refine⟨(((hE.trans E0).alloc ob).grown hgB (λ k hk=>?_)).trans E2,(OcO.push (hH.ext E0) (aG hl E0) hnew hoB hgB hbB).ext E2,by simp,mt.ext E2,λ b hb=>?_,(b0.alloc ob).mut M1 (λ hh=>by have:=hq _ hh;omega) |>.ext E2,(b1.alloc ob).mut M1 (λ hh=>by have:=hq _ hh;omega) |>.ext E2,⟨l,aG (mt.grownBy (λ g hg2 hh=>?_) hl) E2⟩,λ b hb=>?_⟩
 . rw [fd,ew] at hk;have:=hg k (mem_blkOf.2 hk);omega
 . rcases hcs b hb with h | h
   . exact ay h
   . right;omega
 . rw [oA,ew] at hg2;exact (hnew g (mem_blkOf.2 hg2)).1 hh
 . have hlt:b<wB.heap.size:=(dE hoB b hb).2;refine⟨?_,?_,λ h=>?_⟩
   . rcases hcs b hb with h | h
     . have:=hq b h;omega
     . omega
   . rcases hcs b hb with h | h
     . have:=hq b h;omega
     . omega
   . rcases hcs b hb with h2 | h2
     . exact (hnew b h).1 h2
     . have:=(dE hl b h).2;omega
theorem Nd (cells:List CeD)(hV:LibV cells)(w0:World)(b off n base:Nat)(h:SlD CeR 4 base w0 (so b off) n cells)(N0:Nat)(hN0:w0.heap.size<=N0)(f:Nat):∀ (oa:Nat) (o:cu) (q:OA) (N c:Nat) (H:List cu) (w:World),o.1.a=(oa:Int)->oa<f->Ext w0 w->OcO N0 w q N c H->N0<=w.heap.size->OkO cells o.1->N+(ct cells o.1).length<=1000->(∃ l:List Int,w.ownsRow N0 2 1 (ci o.2) o.2.2.1 (cS l))->(∀ b,b∈ao o.2.1->b∉ao q/\b∉di Prod.snd H)->o.2.2.1+oa<=100 ->
 Calls prog 278 #[.agg #[sm b off n n],sl q N c,.agg #[o.1.a,o.1.b,o.1.c,o.1.d,ci o.2]] w λ e w'=>∃ (q':OA) (N' c':Nat) (H':List cu),e=.returned (sl q' N' c')/\OcO N0 w' q' N' c' (H++H')/\H'.map Prod.fst=ct cells o.1/\Mut w w' (ao q)/\Ext w0 w'/\∀ b∈ao q',b∈ao q\/w.heap.size<=b:=by
 induction f with
 | zero=>intro oa o q N c H w _ h0;omega
 | succ f ih =>
 intro oa o q N c H w hoa hf hE hH hlw hO hroom hpath hnew hpn;obtain⟨i0,hi0,hz0,hz1,hz2⟩:=aM FK;obtain⟨j0,hj0,hy0,hy1,hy2⟩:=aM rR;have hl:=aa h.length;have hoc:oa<cells.length:=by have:=hO.1;omega
 obtain⟨x,hx,hx2⟩:∃ x,cells[oa]?=some x/\Hid (dQ cells o.1.a=x.ins):=Bf
 have hV:=aa hV;have hxi:=aa (hV.ins _ _ hx);have hon:oa<n:=by have:=hl.out;omega
 have h8:=aa (hV.insLen _ _ hx);have hN:=aa hH.len;obtain⟨V0,hOw⟩:=hH;have hT:=aa hOw.top;have hroom1:N+1<=1000:=by have:=pQ cells o.1.a;have:=ru cells o.1;omega
 replace hlw:=aa hlw;replace hpn:=aa hpn;replace hO:=aa hO;replace hroom:=aa hroom;replace hnew:=aa hnew;replace hpath:=aa hpath;replace hOw:=aa (show OcO N0 w q N c H from ⟨V0,hOw⟩);have hoa2:=aa hoa;have hoaI:(oa:Int)<(n:Int):=oM;obtain⟨bb,off2,x',cs,hp,hbb,hx',hcs,hc⟩:=h.get hon
 cases hp
 obtain rfl:x=x':=cJ (hx.symm.trans hx'.out);obtain⟨p1,n1,c1,p2,n2,c2,p3,n3,c3,rfl,s1,s2,s3⟩:=hcs;have z0:=aa (hc 0 _ rfl);have z1:=aa (hc 1 _ rfl);have z2:=aa (hc 2 _ rfl);have z3:=aa (hc 3 _ rfl);rw [aq] at z0;have hl3:=aa s3.length;replace s3:=aa s3;replace hbb:=aa hbb;clear hc s1 s2 hx' hx;have hn3:n3<=8:=by have:=hl3.out;have:=h8.out;omega
 have hob:Hid (∀ k,(Value.slice q N c).ownBlock=some k->N0<=k/\k<w.heap.size):=aa (λ k hk=>hT.lt k hk);obtain⟨els,hels⟩:∃ els,Hid (aK x.ins=els):=⟨_,aa rfl⟩;go_enter func278,ntmps278;go_upto_region 1 with (fail);generalize hW:World.alloc (World.alloc _ _) _=W0;obtain⟨E0,z0,b0,b1⟩:=bV hW;clear hW z0;replace b0:=cC b0;replace b1:=kE b1;have⟨g0,l0⟩:=b0.gl;have⟨g1,l1⟩:=b1.gl;have E:=ab W0;have hA:Hid (fT o=[.int .i64 (oa:Int),.int .i64 o.1.b,.int .i64 o.1.c,.int .i64 o.1.d,ci o.2]):=by show _=_;rw [fT,hoa2.out]
 replace b1:=aa (show Blk W0 (w+1) (fT o) 233 from by rw [hA.out];exact b1.out);replace hT:=aa (aG hT.out E0);have hlw0:=aa (aS hlw.out E0.le);go_wp2_with (first | (at_builtin;refine cZ _ rfl _ _ 228 rfl N0 233 i0 (.agg #[(0:Int),(0:Int),(0:Int),(0:Int),.slice none 0 0]) 5 56 underlying228 hi0 hz0 hz1 hz2 rfl oM _ _ _ rfl (cv hT.out _) ⟨_,0,none⟩ 1 1 [.int .i64 (oa:Int),.int .i64 o.1.b,.int .i64 o.1.c,.int .i64 o.1.d,ci o.2] rfl rfl (dg _ [_,_,_,_,_] _) (hA.out▸FI o) (cx oM oM) oM (by have:=hlw0.out;simp;omega) ?_;intro v2 wB hoB hgB hnB hbB;obtain⟨qB,cB,rfl⟩:=cq hoB;have hE1:=aa (((hE.trans E0).alloc _).grown hgB (λ k hk=>by have:=(hob.out k hk).1;omega));have k0:=aa (nx (b0.alloc _) hgB (λ e=>by have:=(hob.out _ e).2;omega));have k1:=aa (nx (b1.alloc _) hgB (λ e=>by have:=(hob.out _ e).2;omega));clear g0 l0 g1 l1;have g0:=k0.cells 0;have g1:=k1.cells 0;simp only [hA.out,aJ] at g0 g1;have l0:=k0.lt;have l1:=k1.lt;have y0:=(hE1.cells _ _ hbb.out).trans z0.out;have y1:=(hE1.cells _ _ hbb.out).trans z1.out;have y2:=(hE1.cells _ _ hbb.out).trans z2.out;have y3:=(hE1.cells _ _ hbb.out).trans z3.out;have yl:=aF hbb.out hE1.le;replace hoB:=aa hoB;replace hgB:=aa hgB;replace hbB:=aa hbB;clear hnB) | (go_at_call 127;refine (xQ x.s x.ins oa p1 p2 p3 n1 c1 n2 c2 n3 c3 base _ (s3.ext okInstance hE1.out) hxi.out hn3).mono ?_;rintro e w2 ⟨qe,ce,rfl,oE,E2⟩;replace oE:=aa oE;replace E2:=aa E2) | fail);have hI:=aa (BlI.start (cells:=cells) (els:=aK x.ins) (lv:=sm b off n n) hE hN0 hOw.out hpath.out hnew.out E0 b0.out b1.out (hA.out▸hoB.out) (show (W0.alloc _).grownBy wB (Value.slice q N c).ownBlock from hgB.out) hbB.out E2.out);have hK0:Hid (ElK w2 qe (aK x.ins) qB):=aa ⟨bm cw rfl oE.out,λ b hb h=>by have:=(dE oE.out b h).1;have:=(dE hoB.out b hb).2;omega⟩;have hl128:(aK x.ins).length<=128:=by have:=wJ hV.out o.1.a;rwa [hx2.out] at this
 clear y0 y1 y2 y3 yl g0 g1 l0 l1 k0 k1 hoB hgB hbB oE E2 hE1 E b0 b1;go_loopw [1,22] (λ v z wr=>∃ (j:Nat) (q2:OA) (N2 c2:Nat) (H':List cu),j<=(aK x.ins).length/\v=sl q2 N2 c2/\z=.int .i64 (j:Int)/\Hid (BlI cells w0 w N0 q H o (sm b off n n) (aK x.ins) j q2 N2 c2 H' wr)/\Hid (ElK wr qe (aK x.ins) q2)) (λ _ z _=>(aK x.ins).length - (intOf z).toNat)
 case atStart=>exact⟨0,qB,N+1,cB,[o],oM,rfl,rfl,hI,hK0⟩
 case round =>
  clear hI hK0;obtain⟨j,q2,N2,c2',H',hj,rfl,rfl,hI,hKe⟩:=hrel;by_cases hjt:j<(aK x.ins).length
  . have hjI:(j:Int)<((aK x.ins).length:Int):=oM;obtain⟨be,oe,e,hqe,hbe,he,c0,c1,c2,c3⟩:=hKe.1.four hjt;have hem:=aa (ap he.out);have heO:=aa (rp hV.out (hx2.out▸hem.out));obtain⟨l0,hl0⟩:=hI.path;replace hl0:=aa hl0;obtain⟨ea,hea⟩:∃ ea:Nat,Hid (e.a=(ea:Int)):=⟨e.a.toNat,aa (by have:=heO.1;omega)⟩;subst hqe;have g0:=hI.lib.cells 0;simp only [aJ] at g0;have l0':=hI.lib.lt;go_upto_region 5 with (fail);generalize hW3:World.alloc _ _=W3;obtain⟨E3,z3',b8⟩:=al hW3;clear hW3 z3' c0 c1 c2 c3;replace b8:=aa (show Blk W3 wr [e.a,e.b,e.c,e.d] 277 from b8);have b5:=aa (hI.occ.ext E3);have b3:=aa (hI.lib.ext E3);have g5:=b5.cells 4;simp only [fT,aJ,aN] at g5;have l5:=b5.lt;clear g0 l0';have E3h:=aa E3;clear E3;go_wp2_with (first | (go_at_call 338;refine (Nb N0 o.2 l0 _ (aG hl0.out E3h.out) (by have:=hpn.out;omega)).mono ?_;rintro e2 w4 ⟨q4,c4,rfl,o4,E4⟩;replace o4:=aa o4;have l4:=aa E4.le;clear g5 l5) | (at_builtin;refine cZ _ rfl _ _ 121 rfl W3 2 j0 (0:Int) 1 8 underlying121 hj0 hy0 hy1 hy2 rfl oM _ _ _ rfl (cv o4.out _) ⟨_,0,none⟩ 1 1 [.int .i64 (j:Int)] rfl rfl (dg _ [_] _) (np _) (cx (by have:=hpn.out;omega) oM) (by have:=hpn.out;omega) (by have:=l4.out;simp;omega) ?_;intro v2 wB hoB hgB hnB hbB;obtain⟨qP,cP,rfl⟩:=cq hoB;have hoBg:=aa (show (w4.alloc _).grownBy wB (Value.slice q4 o.2.2.1 c4).ownBlock from hgB);replace hoB:=aa hoB;clear hgB hnB hbB) | fail);have EX5:=aa ((E4.alloc _).grown hoBg.out (λ k hk=>(o4.lt k hk).1));have hK:Hid (∀ W,Ext W3 W->W.cell? (ad w 0)=sq b off n n/\W.cell? (ad (w+1) 1)=si o.1.b/\W.cell? (ad (w+1) 2)=si o.1.c/\W.cell? (ad (w+1) 3)=si o.1.d/\W.cell? (ad wr 0)=si e.a/\W.cell? (ad wr 1)=si e.b/\W.cell? (ad wr 2)=si e.c/\W.cell? (ad wr 3)=si e.d):=aa (λ W hW=>⟨(b3.ext hW).cells 0,by have:=(b5.ext hW).cells 1;exact this,by have:=(b5.ext hW).cells 2;exact this,by have:=(b5.ext hW).cells 3;exact this,(b8.ext hW).cells 0,(b8.ext hW).cells 1,(b8.ext hW).cells 2,(b8.ext hW).cells 3⟩);have hX:=EX5;have hXB:=aa (ab wB);have heN:=heO.2.2;have hoN:=hO.near hV.out;have hoO:=hO.2.1;have heo2:=heO.2.1;have hrm:N2+(ct cells (gM e o.1)).length<=1000:=by have h1:=hI.own.len;have h2:=k9 List.length hI.val;have h3:=k9 List.length (rt hV.out o.1);have h4:=FL (f:=λ e=>ct cells (gM e o.1)) he.out;have pA:=hN;have pB:=hroom;exact C7
    replace hrm:=aa hrm;have hpn2:Hid (o.2.2.1+1+ea<=100):=by show _<=_;have:=hpn.out;have:=heO.1;have:=hea.out;have:=hoa2.out;omega
    have heaf:Hid (ea<f):=by show _<_;have:=heO.1;have:=hea.out;have:=hoa2.out;omega
    have hPth:Hid (∀ W,Ext wB W->W.ownsRow N0 2 1 (ci (qP,o.2.2.1+1,cP)) (o.2.2.1+1) (cS (l0++[(j:Int)]))):=aa (λ W hW=>by have h1:=aG hoB.out hW;rw [show cS (l0++[(j:Int)])=cS l0++[.int .i64 (j:Int)] by simp [cS]];exact rQ h1 (by have:=hlw.out;have:=hI.mt.size;have:=E3h.le;omega))
    have hPn:Hid (∀ b,b∈ao qP->b∉ao q2/\b∉di Prod.snd (H++H')):=aa (λ b hb=>by
     have h1:=(dE hoB.out b hb).1;have h2:=E3h.le;obtain⟨V,hV⟩:=hI.own;refine⟨λ h=>?_,λ h=>?_⟩
     . have:=(hV.geTop b h).2;omega
     . have:=(hV.geRow b h).2;omega)
    have hS7f:Hid (∀ W6 W7,Ext W3 W6->Mut W6 W7 (ao q2)->W7.cell? (ad w 0)=sq b off n n/\W7.cell? (ad (w+1) 1)=si o.1.b/\W7.cell? (ad (w+1) 2)=si o.1.c/\W7.cell? (ad (w+1) 3)=si o.1.d/\W7.cell? (ad wr 0)=si e.a/\W7.cell? (ad wr 1)=si e.b/\W7.cell? (ad wr 2)=si e.c/\W7.cell? (ad wr 3)=si e.d):=aa (λ W6 W7 hW hM=>by have k3:=(b3.ext hW).mut hM (λ hh=>(hI.ne _ hh).1 rfl);have k5:=(b5.ext hW).mut hM (λ hh=>(hI.ne _ hh).2.1 rfl);have k8:=(b8.ext hW).mut hM (λ hh=>by have:=(hI.own.ge _ hh).2;omega);exact⟨k3.cells 0,by have:=k5.cells 1;exact this,by have:=k5.cells 2;exact this,by have:=k5.cells 3;exact this,k8.cells 0,k8.cells 1,k8.cells 2,k8.cells 3⟩);have hcall:Hid (∀ W,Ext wB W->Ext W3 W->Calls prog 278 #[.agg #[sm b off n n],sl q2 N2 c2',.agg #[e.a,.int .i64 (il ⟨e.b,e.c,e.d⟩ ⟨o.1.b,o.1.c,o.1.d⟩).a,.int .i64 (il ⟨e.b,e.c,e.d⟩ ⟨o.1.b,o.1.c,o.1.d⟩).b,.int .i64 (il ⟨e.b,e.c,e.d⟩ ⟨o.1.b,o.1.c,o.1.d⟩).c,sl qP (o.2.2.1+1) cP]] W λ e3 w'=>∃ (q':OA) (N' c':Nat) (H2:List cu),e3=.returned (sl q' N' c')/\OcO N0 w' q' N' c' (H++H'++H2)/\H2.map Prod.fst=ct cells (gM e o.1)/\Mut W w' (ao q2)/\Ext w0 w'/\∀ b∈ao q',b∈ao q2\/W.heap.size<=b):=aa (λ W hB hX=>ih ea ((gM e o.1,(qP,o.2.2.1+1,cP)):cu) q2 N2 c2' (H++H') W hea.out heaf.out (hI.ext.trans (E3h.trans hX)) (hI.own.ext (E3h.trans hX)) (aS hlw.out (aS hI.mt.size (E3h.trans hX).le)) (wT hV.out hO.out (hx2.out▸hem.out)) hrm.out ⟨l0++[(j:Int)],hPth.out _ hB⟩ hPn.out hpn2.out);clear hjI;go_region_held3 (λ W=>W.cell? (ad w 0)=sq b off n n/\W.cell? (ad (w+1) 1)=si o.1.b/\W.cell? (ad (w+1) 2)=si o.1.c/\W.cell? (ad (w+1) 3)=si o.1.d/\W.cell? (ad wr 0)=si e.a/\W.cell? (ad wr 1)=si e.b/\W.cell? (ad wr 2)=si e.c/\W.cell? (ad wr 3)=si e.d) (first | exact hK.out _ hX.out | exact hK.out _ hX.drew | exact hS7.out) (first | (go_at_call 339;(with_reducible refine (MR ⟨e.b,e.c,e.d⟩ ⟨o.1.b,o.1.c,o.1.d⟩ _ heo2 hoO (heN.mono oM) (hoN.mono oM)).mono ?_);rintro e3 w6 ⟨rfl,E6⟩;have hX:=aa (hX.drew.trans E6);have hXB:=aa (hXB.drew.trans E6)) | (go_at_call 278;(with_reducible refine (hcall.out _ hXB.out hX.out).mono ?_);rintro e3 w7 ⟨q7,N7,c7,H2,rfl,h1,h2,h3,h4,h5⟩;have hS7:Hid (w7.cell? (ad w 0)=sq b off n n/\w7.cell? (ad (w+1) 1)=si o.1.b/\w7.cell? (ad (w+1) 2)=si o.1.c/\w7.cell? (ad (w+1) 3)=si o.1.d/\w7.cell? (ad wr 0)=si e.a/\w7.cell? (ad wr 1)=si e.b/\w7.cell? (ad wr 2)=si e.c/\w7.cell? (ad wr 3)=si e.d):=(aa (hS7f.out _ _ hX.out h3))) | fail);go_wp2_with (fail);go_roundw
    case rel=>exact⟨j+1,q7,N7,c7,H'++H2,oM,rfl,gN,aa (hI.step (E3h.trans hX.out) he.out h1 h2 h3 h4 h5),aa (hKe.step oM (E3h.trans hX.out) h3 h5)⟩
    case measure=>exact mS
  . have hjI:¬ (j:Int)<((aK x.ins).length:Int):=oM;have hfin:Hid (H'.map Prod.fst=ct cells o.1):=by show _=_;rw [hI.val,rt hV.out,hx2.out,cz rfl oM]
    exact AA
end Go.Proofs.YtnlajnpcdnnpmaaGreat
