/- Part of a proof. No condition. -/
import Derived.Test.YtnlajnpcdnnpmaaGreatA28
namespace Go.Proofs.YtnlajnpcdnnpmaaGreat
set_option linter.all false
set_option maxRecDepth 100000
set_option maxHeartbeats 16000000
open Go.Proofs.Tryz Go.RowKit Go.PlainAid
section
def qc (x y:Int):Int:=if x<y then y else x
def qd (a b c d e:Int):Int:=qc (qc (qc (qc a b) c) d) e
theorem Od (P:Program)(w:World)(ts:Array TypeId)(t:TypeId)(k k1 k2 k3 k4:IntKind)(a b c d e:Int):(Builtin.max_ ts t #[.int k a,.int k1 b,.int k2 c,.int k3 d,.int k4 e]).run P w=.ok (.int k (qd a b c d e)) w:=by simp [Builtin.max_,Builtin.max2,qd,qc];rfl
attribute [local go_sem] Od
def eM (r:Q4):Prop:=(-1000000<=r.a/\r.a<=1000000)/\(-1000000<=r.b/\r.b<=1000000)/\(-1000000<=r.c/\r.c<=1000000)/\(-1000000<=r.d/\r.d<=1000000)
def rY (x y:Q4):Int:=qd 0 (y.a - x.c+1) (x.a - y.c+1) (y.b - x.d+1) (x.b - y.d+1)
theorem Oe (x y:Q4)(w:World)(hx:eM x)(hy:eM y) :
 CE 199 #[.agg #[x.a,x.b,x.c,x.d],.agg #[y.a,y.b,y.c,y.d]] w (rY x y:Int):=by
 obtain⟨⟨a1,a2⟩,⟨a3,a4⟩,⟨a5,a6⟩,a7,a8⟩:=hx;obtain⟨⟨b1,b2⟩,⟨b3,b4⟩,⟨b5,b6⟩,b7,b8⟩:=hy;unfold rY;go_enter func199,ntmps199;go_wp2;go_ret;exact⟨rfl,((ab w).alloc _).alloc _⟩
def uE (num:Int) (P:Q4) (rch:Int) (x:fF):Bool:=decide (x.1≠num)&&decide (rY x.2.box P<=2*rch)
theorem Of {a b c d e K:Int}(ha : -K<=a/\a<=K)(hb : -K<=b/\b<=K)(hc : -K<=c/\c<=K)(hd : -K<=d/\d<=K)(he : -K<=e/\e<=K) : -K<=qd a b c d e/\qd a b c d e<=K:=by unfold qd qc;repeat' split;all_goals omega
theorem Og (x:fF)(num rch:Int)(P:Q4)(B1 B2 B3:Nat)(w:World)(h1:w.cell? (ad B1 0)=si num)(l1:B1<w.heap.size)(p0:w.cell? (ad B2 0)=si P.a)(p1:w.cell? (ad B2 1)=si P.b)(p2:w.cell? (ad B2 2)=si P.c)(p3:w.cell? (ad B2 3)=si P.d)(l2:B2<w.heap.size)(h3:w.cell? (ad B3 0)=si rch)(l3:B3<w.heap.size)(hx:vR x.2.box=true)(hP:eM P)(hr:0<=rch/\rch<=8) :
 CE 198 #[.agg #[x.1,x.2.a,x.2.box.a,x.2.box.b,x.2.box.c,x.2.box.d],.pointer (so B1 0),.pointer (so B2 0),.pointer (so B3 0)] w (.bool (uE num P rch x)):=by
 have hxb:=aa (show eM x.2.box from by rw [vR_iff] at hx;unfold eM;omega);have hcd:=aa (λ V=>Oe x.2.box P V hxb.out hP);obtain⟨xr,xl,xbx⟩:=x;simp only at hxb hcd ⊢;obtain⟨hr0,hr8⟩:=hr;clear hx;have hv:Hid (uE num P rch (xr,⟨xl,xbx⟩)=(decide (xr≠num)&&decide (rY xbx P<=2*rch))):=aa rfl;obtain⟨D,hD⟩:∃ D,rY xbx P=D:=⟨_,rfl⟩;rw [hD] at hcd hv;have hDb : -4000000<=D/\D<=4000000:=by rw [<-hD];have h8:=hxb.out;unfold eM at h8 hP;exact Of oM oM oM oM oM
 obtain⟨hD0,hD1⟩:=hDb;rw [hv.out];clear hv hD hP hxb;go_enter func198,ntmps198;go_upto_region 1 with (fail);generalize hW:World.alloc _ _=W0;obtain⟨E0,z0,b0⟩:=al hW;clear hW z0;replace b0:=aa (show Blk W0 w [xr,xl,xbx.a,xbx.b,xbx.c,xbx.d] _ from b0);have⟨g0,l0⟩:=b0.gl;replace h1:=(E0.cells _ _ l1).trans h1;replace p0:=(E0.cells _ _ l2).trans p0;replace p1:=(E0.cells _ _ l2).trans p1;replace p2:=(E0.cells _ _ l2).trans p2;replace p3:=(E0.cells _ _ l2).trans p3;replace h3:=(E0.cells _ _ l3).trans h3;replace l1:=aF l1 E0.le;replace l2:=aF l2 E0.le;replace l3:=aF l3 E0.le;replace E0:=aa E0;by_cases hxn:xr=num
 . subst hxn;refine aQ kR kR ?_;repeat (go_big_quiet_step (fail))
   refine bW ?_;rintro wL ⟨⟨_,EL⟩,rfl⟩;go_wp2_with (fail);go_ret;exact⟨by simp,E0.trans EL⟩
 . have hxB:(xr != num)=true:=by simp only [bne_iff_ne,ne_eq];exact hxn
   refine aQ kR kR ?_;repeat (go_big_quiet_step ((go_at_call 199;exact bh (hcd.out _))))
   refine bW ?_;rintro wL ⟨⟨_,EL⟩,rfl⟩;go_wp2_with (fail);go_ret;exact⟨by simp [hxn],E0.trans EL⟩
theorem Oh (q:OA)(n c base:Nat)(l:List fF)(p:fF->Bool)(g:Nat)(lb:Array Value)(eg:∀ args w,(callFunc g args).run prog w=.ok (.enter g args) w)(w:World)
 (h:SlD (Fl fN) 6 base w q n l) (hp:∀ (W:World) (x:fF) (cs:List Value),Ext w W->x∈l->(Fl fN) base W x cs->Calls prog g (#[.agg cs.toArray]++lb) W λ e w2=>e=.returned (.bool (p x))/\Ext W w2) (hn:n<=1048576) :
 CE 292 #[sl q n c,.func (.func g) #[] lb] w (dc p l:Int):=by
 have hl:=aa h.length;go_enter func292,ntmps292;go_wp2;go_loopw [5,8] (λ _ i wr=>∃ k:Nat,k<=n/\i=.int .i64 k/\Ext w wr/\Hid ((l.take k).any p=false)) (λ _ i _=>n - (intOf i).toNat)
 case atStart=>exact⟨0,oM,rfl,ab _,rfl⟩
 case round =>
  obtain⟨k,hk,rfl,hE,hA⟩:=hrel;by_cases hlt:k<n
  . obtain⟨b,off,x,cs,rfl,hb,hx,hcs,hc⟩:=(h.ext (Fl.ok uD) hE).get hlt;have hrr:=aa (show wr.rangeAt b (off+k*6) cs from hc);have hsz:=aa (show (prog.info? 274).map (·.size)=some cs.length from by rw [(Fl.ok uD).len hcs];kernel_rfl);clear hc;have hcall:=aa (hp wr x cs hE (ap hx.out) hcs)
    cases hq:p x with
    | true => rw [hq] at hcall;have hr:Hid (dc p l=k):=kD hA.out hx.out hq;clear hq;go_wp2_with (first | (go_at_fn g;refine hcall.mono ?_;rintro e w2 ⟨rfl,hb2⟩) | (refine cy rfl 274 (Operand.tmp 14) rfl b (off+k*6) rfl cs _ hrr.out underlying274 rfl hsz.out ?_));exact mi
    | false => rw [hq] at hcall;have hr:Hid ((l.take (k+1)).any p=false):=jc hA.out hx.out hq;clear hq;go_wp2_with (first | (go_at_fn g;refine hcall.mono ?_;rintro e w2 ⟨rfl,hb2⟩) | (refine cy rfl 274 (Operand.tmp 14) rfl b (off+k*6) rfl cs _ hrr.out underlying274 rfl hsz.out ?_));exact mg
  . exact lc
theorem Oi (q:OA)(n c base:Nat)(l:List fF)(p:fF->Bool)(g:Nat)(lb:Array Value)(eg:∀ args w,(callFunc g args).run prog w=.ok (.enter g args) w)(w:World)
 (h:SlD (Fl fN) 6 base w q n l) (hp:∀ (W:World) (x:fF) (cs:List Value),Ext w W->x∈l->(Fl fN) base W x cs->Calls prog g (#[.agg cs.toArray]++lb) W λ e w2=>e=.returned (.bool (p x))/\Ext W w2) (hn:n<=1048576) :
 CE 197 #[sl q n c,.func (.func g) #[] lb] w (.bool (l.any p)):=by
 have hr:=aa (lh p l);go_enter func197,ntmps197;go_wp2_with (go_at_call 292;refine (Oh q n c base l p g lb eg _ h hp hn).mono ?_;rintro e w' ⟨rfl,hE⟩);exact jW
theorem SlD.of_slt {α:Type}{enc:α->List Value}{sz:Nat}{w:World}{p:OA}{n:Nat}{l:List α}(h:SlT enc sz w p n l):SlD (Fl enc) sz 0 w p n l:=by refine⟨h.1,h.2.elim ay λ⟨b,off,hp,hb,hc⟩=>aB ⟨b,off,hp,Nat.zero_le _,hb,λ k x hx=>⟨enc x,rfl,hc k x hx⟩,λ h0=>absurd h0 (Nat.lt_irrefl 0)⟩⟩
theorem Oj {W:World}{B:Nat}{t:TypeId}{x y:Q4}(h:Blk W B [x.a,x.b,x.c,x.d,y.a,y.b,y.c,y.d] t):SlT aj 4 W (so B 0) 2 [x,y]:=by
 refine⟨rfl,aB ⟨B,0,rfl,h.lt,λ k z hz j v hv=>?_⟩⟩;rw [h.cells]
 match k,hz with
 | 0,hz =>
   obtain rfl:x=z:=by simpa using hz
   exact Au
 | 1,hz =>
   obtain rfl:y=z:=by simpa using hz
   exact Au
 | k+2,hz=>simp at hz
theorem Ok (cells:List CeD)(hV:LibV cells)(k:Nat)(p:Option Addr)(n base:Nat)(num:Nat)(rch:Int)(q:Option Addr)(m c:Nat)(l:List fF)(w:World)(h:SlD CeR 4 base w p n cells)(hn:n<=1048576)(hf:∀ x∈cells,dp x)(hk:k<n)(hnum:num<(aK (dQ cells (k:Int))).length)(hs:SlT fN 6 w q m l)(hm:m<=4800)(hb:∀ x∈l,vR x.2.box=true)(hr:0<=rch/\rch<=8) :
 Calls prog 128 #[.agg #[.slice p n n],(k:Int),(num:Int),rch,.slice q m c] w λ e w'=>∃ b,e=.returned (.bool b)/\Ext w w':=by
 have hcb:=aa (λ(kk:Int) V (hV:Ext w V)=>N3 cells kk p n base V (h.ext aL6 hV) hn hf);obtain⟨b,off,ce,cs,rfl,hbc,hce,hcs,hc⟩:=h.get hk;obtain⟨p1,n1,c1,p2,n2,c2',p3,n3,c3,rfl,s1,s2,s3⟩:=hcs;have z0:=hc 0 _ rfl;rw [aq] at z0;have z1:=hc 1 _ rfl;have z2:=hc 2 _ rfl;have z3:=hc 3 _ rfl;have hnn:(k:Int)<(n:Int):=oM;have h8:=hV.insLen _ _ hce.out;have hin:=hV.ins _ _ hce.out;have hA:dQ cells (k:Int)=ce.ins:=by rw [dQ,show ((k:Int)).toNat=k by omega,hce.out]
 have hek:=λ e (he:e∈aK ce.ins)=>by have:=rp hV (k:=(k:Int)) (e:=e) (by rw [hA];exact he);exact this
 rw [hA] at hnum;have hl3:=s3.length;rw [hl3] at h8;have hel:=aa (λ V (hV:Ext w V)=>xQ ce.s ce.ins k p1 p2 p3 n1 c1 n2 c2' n3 c3 base V (s3.ext okInstance hV) hin h8);have hE1:(aK ce.ins)[num]?=some (aK ce.ins)[num]:=bK hnum;have hek1:=aa (hek _ (qF hnum));obtain⟨el,hel1⟩:∃ el,(aK ce.ins)[num]=el:=⟨_,rfl⟩;rw [hel1] at hE1 hek1;obtain⟨EL,hEL⟩:∃ EL,aK ce.ins=EL:=⟨_,rfl⟩;rw [hEL] at hel hE1 hnum;have hnumI:(num:Int)<(EL.length:Int):=oM;replace hE1:=aa hE1;replace hs:=aa hs;replace hb:=aa hb;clear hc s1 s2 s3 hA hek hin hel1 hEL;go_enter func128,ntmps128;go_upto_region 1 with (fail);have b0:=((aD w [.slice (some ⟨b,off,none⟩) n n] 44).alloc (.cells #[.int .i64 (num:Int)] 2)).alloc (.cells #[.int .i64 rch] 2);have b1:=(jJ w (.cells #[.slice (some ⟨b,off,none⟩) n n] 44) [.int .i64 (num:Int)] 2).alloc (.cells #[.int .i64 rch] 2);have b2:=aD ((w.alloc (.cells #[.slice (some ⟨b,off,none⟩) n n] 44)).alloc (.cells #[.int .i64 (num:Int)] 2)) [.int .i64 rch] 2;have E0:=(((ab w).alloc (.cells #[.slice (some ⟨b,off,none⟩) n n] 44)).alloc (.cells #[.int .i64 (num:Int)] 2)).alloc (.cells #[.int .i64 rch] 2);rw [show ((w.alloc (.cells #[.slice (some ⟨b,off,none⟩) n n] 44)).alloc (.cells #[.int .i64 (num:Int)] 2)).heap.size=w.heap.size+1+1 by simp] at b2;generalize hW:World.alloc (World.alloc (World.alloc _ _) _) _=W0 at b0 b1 b2 E0 ⊢;clear hW
 have hk9:=aa (show ∀ V,Ext W0 V->V.cell? ⟨w.heap.size,0,none⟩=some (.slice (some ⟨b,off,none⟩) n n)/\V.cell? ⟨w.heap.size+1,0,none⟩=some (.int .i64 (num:Int))/\V.cell? ⟨b,off+k*4,none⟩=some (.string ce.s)/\V.cell? ⟨b,off+k*4+1,none⟩=some (.slice p1 n1 c1)/\V.cell? ⟨b,off+k*4+2,none⟩=some (.slice p2 n2 c2')/\V.cell? ⟨b,off+k*4+3,none⟩=some (.slice p3 n3 c3) from λ V hV =>
  ⟨(b0.ext hV).cells 0,(b1.ext hV).cells 0,((E0.trans hV).cells _ _ hbc).trans z0,((E0.trans hV).cells _ _ hbc).trans z1,((E0.trans hV).cells _ _ hbc).trans z2,((E0.trans hV).cells _ _ hbc).trans z3⟩)
 replace b0:=aa b0;replace b1:=aa b1;replace b2:=aa b2;replace E0:=aa E0;have hbW:=aF hbc E0.le;clear z0 z1 z2 z3 hbc
 refine jh (λ a0 a' w'=>∃ (M gE cE:Nat),(Ext W0 w'/\Blk w' M [el.a,el.b,el.c,el.d] 277) /\
  a'=((((((((((a0.put (some 17) (.pointer (some ⟨w.heap.size,0,none⟩))).put (some 18) (.slice (some ⟨b,off,none⟩) n n)).put (some 19) (.int .i64 (k:Int))).put (some 20) (.pointer (some ⟨b,off+k*4,none⟩))).put (some 21) (.agg #[.string ce.s,.slice p1 n1 c1,.slice p2 n2 c2',.slice p3 n3 c3])).put (some 22) (.slice (some ⟨gE,0,none⟩) EL.length cE)).put (some 23) (.int .i64 (num:Int))).put (some 24) (.pointer (some ⟨gE,num*4,none⟩))).put (some 25) (.agg #[el.a,el.b,el.c,el.d])).put (some 11) (.pointer (some ⟨M,0,none⟩)))) ?_ ?_
 . obtain⟨z0,z1,z2,z3,z4,z5⟩:=hk9.out W0 (ab _);have lb0:=b0.lt;have lb1:=b1.lt
   go_region_with
    (first | (go_at_call 127;refine (hel.out _ (by first | exact E0.trans (ab _).drew | exact E0.trans ((ab _).alloc _).drew)).mono ?_;rintro e w9 ⟨q9,c9,rfl,o9,E9⟩;have hE9:=aa (show Ext W0 w9 from (by first | exact (ab _).drew.trans E9 | exact ((ab _).alloc _).drew.trans E9));obtain⟨-,u1,-⟩:=hk9.out w9 hE9.out;have lu1:=(b1.ext hE9.out).lt;obtain⟨gE,rfl⟩:=jy o9 oM;have t9:=bm (l:=EL) cw rfl o9;obtain⟨b9,f9,x9,e9,hb9,hx9,y0,y1,y2,y3⟩:=t9.four hnum;cases e9;obtain rfl:x9=el:=cJ (hx9.symm.trans hE1.out);simp only [fQ] at y0 y1 y2 y3;try (have b9:=(Blk.ext (nc (aD W0 [.int .i64 0,.int .i64 0,.int .i64 0,.int .i64 0] 277)) E9);have f9:=b9.free;have l9:=b9.lt;have p0:=b9.cells 0;have p1:=b9.cells 1;have p2:=b9.cells 2;have p3:=b9.cells 3;have f90:=f9 0;have f91:=f9 1;have f92:=f9 2;have f93:=f9 3;simp only [aJ,aN] at p0 p1 p2 p3)))
   all_goals first
    | (refine⟨w9.heap.size,gE,c9,⟨hE9.alloc _,aD w9 [_,_,_,_] _⟩,?_⟩;simp only [Act.put,dn,aW,aY];done)
    | (refine⟨W0.heap.size,gE,c9,⟨(((hE9.setCell (p:=⟨W0.heap.size,0,none⟩) (ai _) _).setCell (p:=⟨W0.heap.size,1,none⟩) (ai _) _).setCell (p:=⟨W0.heap.size,2,none⟩) (ai _) _).setCell (p:=⟨W0.heap.size,3,none⟩) (ai _) _,((((b9.set 0 _).set 1 _).set 2 _).set 3 _)⟩,?_⟩;simp only [Act.put,dn,aW,aY];done)
    | fail
 rintro a' W3 ⟨M,gE,cE,⟨E3,hb3⟩,rfl⟩;simp only [Act.put,dn,aW,aY];have⟨m9,ml⟩:=hb3.gl;have bl3:=aa (b0.ext E3);have bn3:=aa (b1.ext E3);have br3:=aa (b2.ext E3);have⟨gl3,ll3⟩:=bl3.gl;have hE3:=aa (E0.trans E3);have hb3h:=aa hb3;obtain⟨⟨he1,he2⟩,⟨he3,he4⟩,hen⟩:=hek1.out;clear b0 b1 b2 E3 hb3 hk9;go_upto_region 3 with (first | (go_at_call 196;(with_reducible refine (hcb.out _ _ hE3.out).mono ?_);rintro e w4 ⟨own,cd,rfl,hown,E4⟩;have hE4:=aa (hE3.trans E4);have be4:=aa (hb3h.ext E4);have bn4:=aa (bn3.ext E4);have br4:=aa (br3.ext E4)) | fail);generalize hW5:World.alloc _ _=W5;obtain⟨E5,z5,b5⟩:=al hW5;clear hW5 z5 m9 ml gl3 ll3;replace b5:=aa (show Blk W5 w4.heap.size [own.a,own.b,own.c,own.d] _ from b5);have hE5:=aa (hE4.trans E5);by_cases hcd:cd=0
 . subst hcd;have be5:=aa (be4.ext E5);have bn5:=aa (bn4.ext E5);have br5:=aa (br4.ext E5);have⟨ge5,le5⟩:=be5.gl;have⟨g5,l5⟩:=b5.gl;have hownW:eM own:=by have:=hown;unfold dU at this;unfold eM;omega
   obtain⟨P,hP⟩:∃ P,Hid (cG ⟨el.b,el.c,el.d⟩ own=P):=⟨_,aa rfl⟩;have hPw:=aa (show eM P from by have:=tQ (j:=320) (k:=40) (t:=⟨el.b,el.c,el.d⟩) (r:=own) hen (by unfold dU at hown;unfold Nr2;simp only;omega) (by unfold dU at hown;unfold Nr2;simp only;omega);rw [hP.out] at this;unfold Nr2 at this;unfold eM;simp only at this;omega);have hmv:=aa (λ V=>xO ⟨el.b,el.c,el.d⟩ own V ⟨he3,he4⟩ (hen.mono oM) (by unfold dU at hown;unfold Nr2;simp only;omega) (by unfold dU at hown;unfold Nr2;simp only;omega));rw [hP.out] at hmv;go_upto_region 6 with (first | (go_at_call 186;(with_reducible refine (hmv.out _).mono ?_);rintro e w6 ⟨rfl,E6⟩) | fail);generalize hW7:World.alloc _ _=W7;obtain⟨E7,z7,b7⟩:=al hW7;clear hW7 z7 ge5 le5 g5 l5;replace b7:=aa (show Blk W7 w6.heap.size [P.a,P.b,P.c,P.d] _ from b7);have hE7:=aa (hE5.trans (E6.trans E7));have bo7:=aa (b5.ext (E6.trans E7));have bn7:=aa (bn5.ext (E6.trans E7));have br7:=aa (br5.ext (E6.trans E7));have⟨g7,l7⟩:=b7.gl;have⟨go7,lo7⟩:=bo7.gl;go_upto_region 7 with (fail);generalize hW8:World.alloc _ _=W8;obtain⟨E8,z8,b8⟩:=al hW8;clear hW8 z8 g7 l7 go7 lo7;have s8:=aa (Oj (show Blk W8 W7.heap.size [own.a,own.b,own.c,own.d,P.a,P.b,P.c,P.d] _ from b8));have hE8:=aa (hE7.trans E8);have bp8:=aa (b7.ext E8);have bn8:=aa (bn7.ext E8);have br8:=aa (br7.ext E8)
   have hall:∀ x∈[own,P],eM x:=λ x hx=>by
    simp at hx;rcases hx with rfl | rfl
    . exact hownW
    . exact hPw.out
   replace hall:=aa hall;obtain⟨hr0,hr8⟩:=hr;clear b8 E8 E5 E6 E7 be4 bn4 br4 be5 bn5 br5 b5 b7 bo7 bn7 br7 hen hown;go_wp2_with (fail);go_loopw [43] (λ i wx=>∃ j:Nat,j<=2/\i=.int .i64 j/\Hid (Ext W8 wx)) (λ i _=>2 - (intOf i).toNat)
   case atStart=>exact⟨0,oM,rfl,ab _⟩
   case round =>
    obtain⟨j,hj,rfl,hX⟩:=hrel;by_cases hjt:j<2
    . have hjI:(j:Int)<2:=oM;obtain⟨bx,ox,x,hbx,hbxl,hx,c0,c1',c2x,c3'⟩:=(s8.ext hX.out).four hjt
      cases hbx
      simp only [fQ] at c0 c1' c2x c3';have hxw:=hall.out x (ap hx.out);obtain⟨⟨a1,a2⟩,⟨a3,a4⟩,⟨a5,a6⟩,a7,a8⟩:=hxw;have brx:=aa (br8.ext hX.out);have⟨grx,lrx⟩:=brx.gl;have hvr:=aa (λ V=>mA ⟨x.a - rch,x.b - rch,x.c+rch,x.d+rch⟩ V);obtain⟨vb,hvb⟩:∃ vb,vR ⟨x.a - rch,x.b - rch,x.c+rch,x.d+rch⟩=vb:=⟨_,rfl⟩;rw [hvb] at hvr;clear hvb;go_upto_region 9 with (fail);generalize hW9:World.alloc _ _=W9;obtain⟨E9,z9,b9⟩:=al hW9;clear hW9 z9 c0 c1' c2x c3';replace b9:=aa (show Blk W9 wr.heap.size [x.a,x.b,x.c,x.d] _ from b9);have⟨g9,l9⟩:=b9.gl;have hY:=aa (hX.trans E9);have bry:=aa (brx.ext E9);have⟨gry,lry⟩:=bry.gl;clear grx lrx E9
      cases vb with
      | false => go_wp2_with (first | (go_at_call 187;(with_reducible refine (hvr.out _).mono ?_);rintro e w10 ⟨rfl,E10⟩) | fail);go_ret;exact⟨false,rfl,hE8.trans (hY.trans E10)⟩
      | true =>
        go_wp2_with (first | (go_at_call 187;(with_reducible refine (hvr.out _).mono ?_);rintro e w10 ⟨rfl,E10⟩;have hZ:=aa (hY.trans E10)) | fail);go_roundw
        case rel=>exact⟨j+1,oM,gN,hZ⟩
        case measure=>exact mS
    . have hjI:¬ (j:Int)<2:=oM;have hpr:=aa (show ∀ (V:World) (x:fF) (cs:List Value),Ext wr V->x∈l->(Fl fN) 0 V x cs->Calls prog 198 (#[.agg cs.toArray]++#[.pointer (some ⟨w.heap.size+1,0,none⟩),.pointer (some ⟨w6.heap.size,0,none⟩),.pointer (some ⟨w.heap.size+1+1,0,none⟩)]) V λ e w2=>e=.returned (.bool (uE num P rch x))/\Ext V w2 from λ V x cs hVx hx hcs=>by obtain rfl:cs=fN x:=hcs;have q1:=bn8.ext (hX.trans hVx);have q2:=bp8.ext (hX.trans hVx);have q3:=br8.ext (hX.trans hVx);exact Og x num rch P _ _ _ V (q1.cells 0) q1.lt (q2.cells 0) (q2.cells 1) (q2.cells 2) (q2.cells 3) q2.lt (q3.cells 0) q3.lt (hb.out x hx) hPw.out ⟨hr0,hr8⟩);have hct:=aa (Oi q m c 0 l (uE num P rch) 198 _ (fb func198 kR rfl) wr (SlD.of_slt (hs.ext (hE8.trans hX.out))) hpr.out oM);go_wp2_with (first | (go_at_call 197;refine hct.mono ?_;rintro e w11 ⟨rfl,E11⟩) | fail);go_ret;exact⟨_,rfl,hE8.trans (hX.trans E11)⟩
 . have pA:=hE5;exact Db
end
def Ol (w:World) (e:Ending) (w':World):Prop:=∃ (q:OA) (m c:Nat) (cd:Int),e=.returned (.tuple #[sl q m c,.int .i64 cd])/\m<=1048576/\Ext w w'
theorem Om:(prog.info? 2).map (λ i=>(i.zero,i.size,i.bytes))=some (some (.int .i64 0),1,8):=by kernel_rfl
theorem On (cells:List CeD)(k:Int)(p:OA)(n base:Nat)(rch:Int)(w:World)(h:SlD CeR 4 base w p n cells)(hn:n<=1048576)(hf:∀ x∈cells,dp x)(hr:0<=rch/\rch<=8)(hC:cX cells k=0) :
 Calls prog 68 #[.agg #[sl p n n],k,rch] w (Ol w):=by
 have hocv:=OcV.of (mu hC).1;obtain⟨kk,rfl⟩:∃ kk:Nat,k=(kk:Int):=⟨k.toNat,by have:=hocv.cell;omega⟩;have hkn:kk<n:=by have h1:=hocv.cell;have:=h.length;omega
 have hV:=hocv.lib;have hrt:=aa (λ V (hV:Ext w V)=>Oc cells (kk:Int) p n base V (h.ext aL6 hV) hn hf hC);obtain⟨b,off,ce,cs,rfl,hbc,hce,hcs,hc⟩:=h.get hkn;obtain⟨p1,n1,c1,p2,n2,c2',p3,n3,c3,rfl,s1,s2,s3⟩:=hcs;have hA:dQ cells (kk:Int)=ce.ins:=by rw [dQ,show ((kk:Int)).toNat=kk by omega,hce.out]
 have hcf:=aa (λ(num:Nat) (hnum:num<(aK ce.ins).length) (q:OA) (m c:Nat) (l:List fF) V (hX:Ext w V) (hs:SlT fN 6 V q m l) (hm:m<=4800) (hb:∀ x∈l,vR x.2.box=true)=>Ok cells hV kk (so b off) n base num rch q m c l V (h.ext aL6 hX) hn hf hkn (by rw [hA];exact hnum) hs hm hb hr);have z0:=hc 0 _ rfl;rw [aq] at z0;have z1:=hc 1 _ rfl;have z2:=hc 2 _ rfl;have z3:=hc 3 _ rfl;have hnn:(kk:Int)<(n:Int):=oM;have h8:=hV.insLen _ _ hce.out;have hin:=hV.ins _ _ hce.out;have hl3:=s3.length;have hEL128:=rq ce.ins hin;rw [hl3] at h8;have hel:=aa (λ V (hV:Ext w V)=>xQ ce.s ce.ins kk p1 p2 p3 n1 c1 n2 c2' n3 c3 base V (s3.ext okInstance hV) hin h8);obtain⟨EL,hEL⟩:∃ EL,(aK ce.ins).length=EL:=⟨_,rfl⟩;rw [hEL] at hel hcf hEL128;have hwt:Hid (ae rch 0 8=true):=aa (wit_iff.2 hr);obtain⟨i0,hi0,hz0,hz1,hz2⟩:=aM Om;clear hc s1 s2 s3 hA hin hEL hC hocv hV;go_enter func68,ntmps68;go_upto_region 1 with (fail);generalize hW:World.alloc _ _=W0;obtain⟨E0,z,b0⟩:=al hW;clear hW z;replace b0:=aa (show Blk W0 w [sm b off n n] _ from b0);have⟨g0,l0⟩:=b0.gl;replace E0:=aa E0;go_upto_region 2 with (first | (go_at_call 126;(with_reducible refine (hrt.out _ E0.out).mono ?_);rintro e w1 ⟨q1,m1,c1x,l1,rfl,s1,hm1,hb1,E1⟩;have hE1:=aa (E0.trans E1);have bl1:=aa (b0.ext E1)) | fail);replace s1:=aa s1;replace hb1:=aa hb1;clear g0 l0 E1;have⟨g1,l1⟩:=bl1.gl;have hb2:=aF hbc hE1.le;replace z0:=(hE1.cells _ _ hbc).trans z0;replace z1:=(hE1.cells _ _ hbc).trans z1;replace z2:=(hE1.cells _ _ hbc).trans z2;replace z3:=(hE1.cells _ _ hbc).trans z3;go_upto_region 7 with (first | (go_at_call 117;(with_reducible refine (dd _ _ _ _).mono ?_);rintro e w2 ⟨rfl,rfl⟩;rw [hwt.out]) | fail);have ho0:=dh (size:=1) (aD w1 [] 2) (ai _);generalize hW3:World.alloc _ _=W3 at ho0 ⊢;have hE3:Hid (Ext w1 W3):=by rw [<-hW3];exact (ab _).alloc _
 clear hW3;have bl3:=aa (bl1.ext hE3.out);have⟨g3,l3⟩:=bl3.gl;have hb3:=aF hb2 hE3.le;have y0:=(hE3.cells _ _ hb2).trans z0;have y1:=(hE3.cells _ _ hb2).trans z1;have y2:=(hE3.cells _ _ hb2).trans z2;have y3:=(hE3.cells _ _ hb2).trans z3;clear z0 z1 z2 z3 g1 l1;replace ho0:=aa ho0;go_wp2_with (first | (go_at_call 127;(with_reducible refine (hel.out _ (hE1.out.trans hE3.out)).mono ?_);rintro e w4 ⟨q4,c4,rfl,o4,E4⟩;have hE4:=aa (hE3.trans E4);have ho4:=aa (aG ho0.out E4);clear E4 o4) | fail);clear g3 l3 y0 y1 y2 y3 ho0;go_loopw [10,36] (λ v i wx=>∃ (j:Nat) (q5:OA) (N5 c5:Nat) (V5:List Value),j<=EL/\v=sl q5 N5 c5/\i=.int .i64 j/\N5<=j/\Hid (wx.ownsRow w1 2 1 (sl q5 N5 c5) N5 V5)/\Hid (Ext w1 wx)) (λ _ i _=>EL - (intOf i).toNat)
 case atStart=>exact⟨0,_,0,_,[],oM,rfl,rfl,oM,ho4,hE4⟩
 case round =>
  clear ho4 hE4;obtain⟨j,q5,N5,c5,V5,hj,rfl,rfl,hNj,hO,hX⟩:=hrel;have blx:=aa (bl1.ext hX.out);by_cases hjt:j<EL
  . have hjI:(j:Int)<(EL:Int):=oM;have⟨gx,lx⟩:=blx.gl;have hcall:=aa (λ V (hV:Ext wr V)=>hcf.out j hjt q1 m1 c1x l1 V (hE1.trans (hX.trans hV)) (s1.ext (hX.trans hV)) hm1 hb1.out);go_wp2_with (first | (go_at_call 128;(with_reducible refine (hcall.out _ (ab _)).mono ?_);rintro e w6 ⟨bb,rfl,E6⟩;have hX6:=aa (hX.trans E6);have hO6:=aa (aG hO.out E6);have hs6:=aa hX6.le;clear gx lx hcall E6;cases bb) | (at_builtin;refine cZ _ rfl _ _ 121 rfl w1 2 i0 (0:Int) 1 8 underlying121 hi0 hz0 hz1 hz2 rfl oM _ _ _ rfl (cv hO6.out _) ⟨_,0,none⟩ 1 1 [.int .i64 (j:Int)] rfl rfl (dg _ [_] _) (np _) (cx oM oM) oM (by have:=hs6.out;simp;omega) ?_;intro v2 wA hoA hgA hnA hbA;obtain⟨qa,ca,rfl⟩:=cq hoA;have hYA:=aa ((hX6.alloc _).grown hgA (λ k hk=>(hO6.lt k hk).1));replace hoA:=aa hoA;clear hgA hnA hbA) | fail)
    . go_roundw
      case rel=>exact⟨j+1,q5,N5,c5,V5,oM,rfl,gN,oM,hO6,hX6⟩
      case measure=>exact mS
    . go_roundw
      case rel=>exact⟨j+1,qa,N5+1,ca,_,oM,rfl,gN,oM,hoA,hYA⟩
      case measure=>exact mS
  . have hjI:¬ (j:Int)<(EL:Int):=oM;go_wp2_with (fail);refine bB (results_tmp2 rfl _ _ _) rfl ?_;exact⟨q5,N5,c5,0,rfl,oM,hE1.trans hX.out⟩
def Gj (w:World) (e:Ending) (w':World):Prop:=∃ b:Bool,e=.returned (.bool b)/\Ext w w'
theorem Oo (q:OA)(n c:Nat)(l:List Int)(s:Int)(w:World)(h:SlT bi 1 w q n l)(hn:n<=1048576) :
 Calls prog 328 #[sl q n c,s] w (Gj w):=by
 go_enter func328,ntmps328;go_wp2_with (fail);go_loopw [5] (λ i wx=>∃ k:Nat,k<=n/\i=.int .i64 k/\w=wx) (λ i _=>n - (intOf i).toNat)
 case atStart=>exact⟨0,oM,rfl,rfl⟩
 case round =>
  obtain⟨k,hk,rfl,rfl⟩:=hrel;by_cases hkt:k<n
  . have hkI:(k:Int)<(n:Int):=oM;obtain⟨b,off,x,rfl,hb,hx,x0⟩:=h.int hkt;by_cases hxs:x=s
    . go_wp2_with (fail);go_ret
      first
       | exact⟨true,rfl,ab _⟩
       | exact⟨⟨true,rfl⟩,ab _⟩
    . go_wp2_with (fail);go_roundw
      case rel=>exact⟨k+1,oM,gN,by first | rfl | trivial⟩
      case measure=>exact mS
  . have hkI:¬ (k:Int)<(n:Int):=oM;go_wp2_with (fail);go_ret
    first
     | exact⟨false,rfl,ab _⟩
     | exact⟨⟨false,rfl⟩,ab _⟩
def mK (r:Q4) (k:Int):Q4:=⟨r.a - k,r.b - k,r.c+k,r.d+k⟩
theorem yj (r:Q4)(k:Int)(w:World)(hr:(-1000000<=r.a/\r.a<=1000000)/\(-1000000<=r.b/\r.b<=1000000)/\(-1000000<=r.c/\r.c<=1000000)/\(-1000000<=r.d/\r.d<=1000000))(hk:0<=k/\k<=100) :
 CE 244 #[.agg #[r.a,r.b,r.c,r.d],k] w (.agg #[.int .i64 (mK r k).a,.int .i64 (mK r k).b,.int .i64 (mK r k).c,.int .i64 (mK r k).d]):=by
 obtain⟨⟨a1,a2⟩,⟨a3,a4⟩,⟨a5,a6⟩,a7,a8⟩:=hr;obtain⟨k1,k2⟩:=hk;unfold mK;go_enter func244,ntmps244;go_upto_region 1 with (fail);generalize hW:World.alloc (World.alloc _ _) _=W0;obtain⟨E0,z0,b0,b1⟩:=bV hW;clear hW z0;replace b0:=aa (show Blk W0 w [r.a,r.b,r.c,r.d] 139 from b0);replace b1:=aa (show Blk W0 (w+1) [(0:Int),(0:Int),(0:Int),(0:Int)] 139 from b1);have⟨g0,l0⟩:=b0.gl;have⟨g1,l1⟩:=b1.gl;have f1:=b1.free;go_wp2_with (fail);have hBF:=(((b1.set 0 (r.a - k:Int)).set 1 (r.b - k:Int)).set 2 (r.c+k:Int)).set 3 (r.d+k:Int);have hEF:=(((E0.setCell (p:=(ad (w+1) 0)) (bv _) (r.a - k:Int)).setCell (p:=(ad (w+1) 1)) (bv _) (r.b - k:Int)).setCell (p:=(ad (w+1) 2)) (bv _) (r.c+k:Int)).setCell (p:=(ad (w+1) 3)) (bv _) (r.d+k:Int);generalize World.setCell (World.setCell (World.setCell (World.setCell _ _ _) _ _) _ _) _ _=WF at hBF hEF ⊢;have t0:=hBF.cells 0;have t1:=hBF.cells 1;have t2:=hBF.cells 2;have t3:=hBF.cells 3;have tf:=hBF.lt;simp only [aW,aY,aJ,aN] at t0 t1 t2 t3;refine bB (v:=.agg #[(r.a - k:Int),(r.b - k:Int),(r.c+k:Int),(r.d+k:Int)]) (by simp [results,Tryz.results244,go_sem,t0,t1,t2,t3]) rfl ⟨rfl,hEF⟩
theorem Gk {k:Nat}{i:InD}(h:dF k i):i.c*i.d=((gi i).length:Int)/\(gi i).length<=16:=by refine⟨?_,Ek h⟩;unfold dF at h;rw [tS,Int.natCast_mul,ju oM,ju oM,Int.mul_comm]
theorem Oq (cells:List CeD)(hV:LibV cells)(k:Nat)(p:OA)(n base:Nat)(w:World)(h:SlD CeR 4 base w p n cells)(hk:k<n) :
 CE 164 #[.agg #[sl p n n],(k:Int)] w ((aK (dQ cells (k:Int))).length:Int):=by
 obtain⟨b,off,ce,cs,rfl,hbc,hce,hcs,hc⟩:=h.get hk;obtain⟨p1,n1,c1,p2,n2,c2',p3,n3,c3,rfl,s1,s2,s3⟩:=hcs;have z3:=hc 3 _ rfl;have hnn:(k:Int)<(n:Int):=oM;have h8:=hV.insLen _ _ hce.out;have hin:=aa (hV.ins _ _ hce.out);have hA:dQ cells (k:Int)=ce.ins:=by rw [dQ,show ((k:Int)).toNat=k by omega,hce.out]
 rw [hA];have hl3:=s3.length;rw [hl3] at h8;have hIf:=aa s3.flat;clear hc s1 s2 s3 hA;go_enter func164,ntmps164;go_upto_region 1 with (fail);generalize hW:World.alloc _ _=W0;obtain⟨E0,z0,b0⟩:=al hW;clear hW z0;replace b0:=aa (show Blk W0 w [sm b off n n] _ from b0);have⟨g0,l0⟩:=b0.gl;have z3':=(E0.cells _ _ hbc).trans z3;have hb0:=aF hbc E0.le;replace E0:=aa E0;clear z3 hbc;go_wp2_with (fail);go_loopw [5,7] (λ v i wx=>∃ j:Nat,j<=n3/\v=.int .i64 ((aK (ce.ins.take j)).length:Int)/\i=.int .i64 j/\Hid (Ext W0 wx)) (λ _ i _=>n3 - (intOf i).toNat)
 case atStart=>exact⟨0,oM,by simp [aK],rfl,ab _⟩
 case round =>
  clear g0 l0 z3' hb0;obtain⟨j,hj,rfl,rfl,hE⟩:=hrel;have hbd:=rq (ce.ins.take j) (λ i hi=>hin.out i (oZ hi));have hbl:(ce.ins.take j).length<=8:=by rw [fI];omega
  by_cases hjt:j<n3
  . have hjI:(j:Int)<(n3:Int):=oM;obtain⟨b3,o3,x,rfl,hb3,hx,hc⟩:=(hIf.ext (E0.trans hE.out)).get hjt;have c4:=hc 4 _ rfl;have c5:=hc 5 _ rfl;clear hc;obtain⟨hp,hp2⟩:=Gk (hin.out x (ap hx.out));have hsn:=aa (show (aK (ce.ins.take (j+1))).length=(aK (ce.ins.take j)).length+(gi x).length from by rw [un hx.out,aI]);obtain⟨T,hT⟩:∃ T,(aK (ce.ins.take j)).length=T:=⟨_,rfl⟩;obtain⟨D,hD⟩:∃ D,(gi x).length=D:=⟨_,rfl⟩;rw [hT] at hbd hsn;rw [hD] at hp hp2 hsn;rw [hT];obtain⟨P,hPe⟩:∃ P,x.c*x.d=P:=⟨_,rfl⟩;have hPP:=hPe;rw [hPe] at hp;have hw:=aa (show IntKind.i64.wrap (x.c*x.d)=(D:Int) from by rw [hPe,hp];exact jS _ oM);replace hPe:=aa hPe;replace hPP:=aa hPP;clear hT hD;have hw2:=hw.out;go_upto_region 6 with (fail);refine aQ kR kR ?_;repeat (go_big_quiet_step (fail))
    refine bW ?_;rintro wL ⟨⟨_,EL⟩,rfl⟩;have hL:=aa (hE.trans EL);clear c4 c5 hb3 EL;go_wp2_with (fail);go_roundw
    case rel=>exact⟨j+1,oM,by rw [hsn.out];go_num,gN,hL⟩
    case measure=>exact mS
  . have hjI:¬ (j:Int)<(n3:Int):=oM;have hfin:Hid (aK ce.ins=aK (ce.ins.take j)):=aa (by rw [eE oM]);rw [<-hfin.out];go_wp2_with (fail);go_ret;exact⟨rfl,E0.trans hE.out⟩
end Go.Proofs.YtnlajnpcdnnpmaaGreat
