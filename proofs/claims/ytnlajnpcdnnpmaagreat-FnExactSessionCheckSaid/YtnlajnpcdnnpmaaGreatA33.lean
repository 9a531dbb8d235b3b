/- Part of a proof. No condition. -/
import Derived.Test.YtnlajnpcdnnpmaaGreatA32
namespace Go.Proofs.YtnlajnpcdnnpmaaGreat
set_option linter.all false
set_option maxRecDepth 100000
set_option maxHeartbeats 16000000
open Go.Proofs.Tryz Go.RowKit Go.PlainAid
theorem GA {l:List Q4}{j:Nat}{s:Q4}{k:Int}(h:l[j]?=some s)(he:mJ s<k):ag (aU λ x y=>gh (gL (et (l.take j) k)) x y||bj s x y)=ag (gL (et (l.take (j+1)) k)):=by rw [rU,et,et,ch h,i8];simp [List.filter,he]
theorem GB {l:List Q4}{j:Nat}{s:Q4}{k:Int}(h:l[j]?=some s)(he:¬ mJ s<k):et (l.take j) k=et (l.take (j+1)) k:=by rw [et,et,ch h,i8];simp [List.filter,he]
theorem O2 (r:Q4)(w:World)(hv:vR r=true):CE 370 #[.agg #[r.a,r.b,r.c,r.d]] w (mJ r:Int):=by go_enter func370,ntmps370;go_wp2_with (first | (go_at_call 355;refine (uK r _ hv).mono ?_;rintro e w2 ⟨rfl,E2⟩) | fail);go_ret;exact⟨rfl,((ab _).alloc _).trans E2⟩
theorem yp (q:OA)(n c:Nat)(l:List Q4)(d:Int)(w:World)(h:SlT aj 4 w q n l)(hn:n<=1048576)(hv:∀ r∈l,vR r=true) :
 Calls prog 345 #[sl q n c,d] w (bH (ah (gL (et l d))) w):=by
 have hl:=aa h.length;replace hv:=aa hv;go_enter func345,ntmps345;go_wp2_with (fail);generalize hW1:World.alloc _ _=W1;obtain⟨E1,z1,b1⟩:=al hW1;clear hW1;have hb1:Hid (Blk W1 w (ag (gL (et (l.take 0) d))) 269):=by have:=jC;rw [lG] at b1;show W1.heap[w.heap.size]?=_;rw [b1];simp only [List.take_zero,et,List.filter_nil,gL,<-jC]
 clear b1 z1;have hX1:=aa E1;clear E1;go_loopw [12] (λ i wx=>∃ j:Nat,j<=n/\i=.int .i64 j/\Hid (Ext w wx)/\Hid (Blk wx w (ag (gL (et (l.take j) d))) 269)) (λ i _=>n - (intOf i).toNat)
 case atStart=>exact⟨0,oM,rfl,hX1,hb1⟩
 case round =>
  clear hX1 hb1;obtain⟨j,hj,rfl,hX,hb⟩:=hrel;have hBl:=hb.lt;by_cases hjt:j<n
  . have hjI:(j:Int)<(n:Int):=oM;obtain⟨b,off,s,rfl,hbn,hs,c0,c1,c2,c3⟩:=(h.ext hX.out).four hjt;have hsv:=hv.out s (ap hs.out);have hnr:=aa (iO hsv);have hrl:=λ W=>O2 s W hsv
    obtain⟨A,hA⟩:∃ A,Hid (mJ s=A):=⟨_,aa rfl⟩;rw [hA.out] at hrl;replace hrl:=aa hrl;clear hsv;have hbA:=λ(o:Obj)=>aa (hb.alloc o)
    by_cases he:A<d
    . have hst:=aa (GA hs.out (hA.out▸he));go_wp2_with (first | (go_at_call 370;refine (hrl.out _).mono ?_;rintro e w8 ⟨rfl,E8⟩;have hb8:=aa ((hbA _).ext E8);have hX8:=aa ((hX.alloc _).trans E8);have bx8:=aa ((aD wr [.int .i64 s.a,.int .i64 s.b,.int .i64 s.c,.int .i64 s.d] 139).ext E8);have⟨gx8,lx8⟩:=bx8.gl) | (go_at_call 188;refine (nr w _ s _ hb8.out hnr.out).mono ?_;rintro e w9 ⟨rfl,hb2,hM⟩) | fail);have hb3:Hid (Blk w9 w (ag (gL (et (l.take (j+1)) d))) 269):=aa (by rw [<-hst.out];exact hb2);have hX9:=aa (hX8.then hM (by intro k hk;simp at hk;rw [hk];exact ai _));clear hM hb2;exact AU
    . have hst:=aa (GB (k:=d) hs.out (hA.out▸he));rw [hst.out] at hb hbA;go_wp2_with (first | (go_at_call 370;refine (hrl.out _).mono ?_;rintro e w8 ⟨rfl,E8⟩;have hb8:=aa ((hbA _).ext E8);have hX8:=aa ((hX.alloc _).trans E8)) | fail);go_roundw
      case rel=>exact⟨j+1,oM,gN,hX8,hb8⟩
      case measure=>exact mS
  . have hjI:¬ (j:Int)<(n:Int):=oM;rw [cz hl.out oM] at hb;go_wp2_with (first | (go_at_call 189;refine (mD w _ _ hb.out).mono ?_;rintro e w5 ⟨q5,c5,rfl,o5,E5⟩) | fail);go_ret;exact⟨q5,c5,rfl,fi o5 hX.le,hX.trans E5⟩
theorem yq (q:OA)(n c:Nat)(l:List Q4)(d:Int)(w:World)(h:SlT aj 4 w q n l)(hn:n<=1048576) :
 CE 344 #[sl q n c,d] w (.bool (aH l&&ae d 1 8)):=by
 have hreg:=lH q n c l w h hn
 cases hr:aH l with
 | true => exact Cw
 | false => exact Cw
def iW (l:List Q4) (d:Int):List Q4:=if aH l&&ae d 1 8 then ah (gL (et (eL (gL l)) d)) else []
theorem GC {g:ac} : ∀ r∈eL g,vR r=true:=λ r hr=>by rw [eL,aL49] at hr;exact hr.elim (λ h=>(oK h).on) (λ h=>(oK h).on)
theorem O3 (q:OA)(n c:Nat)(l:List Q4)(d:Int)(w:World)(h:SlT aj 4 w q n l)(hn:n<=1048576) :
 Calls prog 286 #[sl q n c,d] w (bH (iW l d) w):=by
 have hck:=yq q n c l d w h hn
 cases hc:aH l&&ae d 1 8 with
 | true =>
   have hm:Hid (iW l d=ah (gL (et (eL (gL l)) d))):=by show _=_;rw [iW,aw hc]
   have hvr:=aa (λ r hr=>iO ((eU (isReg_iff.1 (cm _ _▸hc).1).1).2 r hr):∀ r∈l,iN r);have b1:=jn (gL l) false;have b2:=jn (gL l) true;have hlen:Hid ((eL (gL l)).length=(dW (gL l) false).length+(dW (gL l) true).length):=by show _=_;rw [eL,aI]
   have hn2:Hid ((eL (gL l)).length<=12800):=by show _<=_;rw [hlen.out];omega
   rw [hc] at hck;replace hck:=aa hck;clear hc b1 b2;go_enter func286,ntmps286;exact AE
 | false =>
   have hm:Hid (iW l d=[]):=by show _=_;rw [iW,ar (by rw [hc];simp)]
   rw [hc] at hck;replace hck:=aa hck;clear hc;go_enter func286,ntmps286;exact As
theorem kQ (x y:Int)(w:World)(h:ax x y=true):CW 363 #[x,y] w (av x y:Int):=by
 rw [onC_iff] at h;obtain⟨⟨x0,x1⟩,y0,y1⟩:=h;have hr:Hid ((y+40)*80+x+40=(av x y:Int)):=by show _=_;rw [av];omega
 go_enter func363,ntmps363;exact nR
theorem yr (x y:Int)(w:World):CW 364 #[x,y] w (.bool (ax x y)):=by have hr:=aa (onC_iff (x:=x) (y:=y));go_enter func364,ntmps364;exact Bi
theorem GD (r:Q4)(w:World)(hv:vR r=true):CE 323 #[.agg #[r.a,r.b,r.c,r.d]] w (mJ r:Int):=by have hr:Hid ((r.c - r.a)*(r.d - r.b)=mJ r):=rfl;obtain⟨h0,h1⟩:=pU hv;rw [vR_iff] at hv;go_enter func323,ntmps323;go_wp2;go_ret;exact⟨cp hr.out,(ab _).alloc _⟩
theorem fU (B c:Nat)(g:ac)(x y:Int)(w:World)(h:Bits w B g):CW 381 #[sm B 0 6400 c,x,y] w (.bool (gh g x y)):=by
 have hin:=aa (yr x y)
 cases hc:ax x y with
 | true =>
   have hat:=eJ hc;have hatI:(av x y:Int)<6400:=oM;have hl:=h.1;have hcell:=h.2 _ hat;have hr:Hid (g (av x y)=gh g x y):=by show _=_;rw [gh,hc,jv]
   rw [hc] at hin;have hat2:=λ W=>kQ x y W hc
   replace hat2:=aa hat2;clear hc;go_enter func381,ntmps381;go_wp2_with (first | (go_at_call 364;refine aO (hin.out _) ?_) | (go_at_call 363;refine (hat2.out _).mono ?_;rintro e w3 ⟨rfl,rfl⟩) | fail);go_ret;exact⟨bu hr.out,rfl⟩
 | false => have hr:=aa (dr (g:=g) hc);rw [hc] at hin;clear hc;go_enter func381,ntmps381;go_wp2_with (first | (go_at_call 364;refine aO (hin.out _) ?_) | fail);go_ret;exact⟨bu hr.symm,rfl⟩
theorem O4 (w0:World)(base B c:Nat)(g:ac)(r:Q4)(w:World)(hE:Ext w0 w)(hb:w0.heap.size<=base)(ho:w.ownsRow base 4 1 (sm B 0 6400 c) 6400 (ag g))(hv:vR r=true) :
 Calls prog 324 #[sm B 0 6400 c,.agg #[r.a,r.b,r.c,r.d]] w λ e w'=>e=.returned (sm B 0 6400 c)/\w'.ownsRow base 4 1 (sm B 0 6400 c) 6400 (ag (aU λ x y=>gh g x y||bj r x y))/\Ext w0 w':=by
 obtain⟨⟨a0,a1,a2⟩,b0,b1,b2⟩:=vR_iff.1 hv;have hBg:=dE ho B (by simp [ao]);have hB0:Hid (w0.heap.size<=B):=aa oM;have hBj:Hid (w.heap.size≠B):=aa oM;clear hBg hv;go_enter func324,ntmps324;go_upto_region 1 with (fail);generalize hW1:World.alloc _ _=W1;obtain⟨E1,z1,b1'⟩:=al hW1;clear hW1 z1;have hX1:=aa (hE.trans E1);have ho1:=aa (aG ho E1);rw [tY] at ho1;have hb1:=aa (show Blk W1 w [r.a,r.b,r.c,r.d] _ from b1');have hb:=hb1;have g7:=hb.cells;have k0:=g7 0;have k1:=g7 1;have k2:=g7 2;have k3:=g7 3;simp only [aJ,aN] at k0 k1 k2 k3;have l7:=hb.lt;clear g7;clear hb E1 b1' ho;go_wp2_with (fail);go_loopw [5] (λ i wx=>∃ y:Int,i=.int .i64 y/\r.b<=y/\y<=r.d/\Hid (Ext w0 wx)/\Hid (wx.ownsRow base 4 1 (sm B 0 6400 c) 6400 (ag (aU (part (gh g) r (-2000) y))))/\Hid (Blk wx w [r.a,r.b,r.c,r.d] 139)) (λ i _=>(1100 - intOf i).toNat)
 case atStart=>exact⟨_,rfl,oM,oM,hX1,aa (by rw [<-rB _ r (ay (fW _))];exact ho1.out),hb1⟩
 case round =>
  clear hX1 ho1 hb1 k0 k1 k2 k3 l7;obtain⟨y,rfl,hy0,hy1,hX,ho,hb⟩:=hrel;have g7:=hb.cells;have k0:=g7 0;have k1:=g7 1;have k2:=g7 2;have k3:=g7 3;simp only [aJ,aN] at k0 k1 k2 k3;have l7:=hb.lt;clear g7;by_cases hyd:y<r.d
  . go_wp2_with (fail);go_loopw [6] (λ i wx=>∃ x:Int,i=.int .i64 x/\r.a<=x/\x<=r.c/\Hid (Ext w0 wx)/\Hid (wx.ownsRow base 4 1 (sm B 0 6400 c) 6400 (ag (aU (part (gh g) r (x) y))))/\Hid (Blk wx w [r.a,r.b,r.c,r.d] 139)) (λ i _=>(1100 - intOf i).toNat)
    case atStart=>exact⟨_,rfl,oM,oM,hX,aa (by rw [<-tZ _ r (ay (fW _))];exact ho.out),hb⟩
    case round =>
     clear hX ho hb k0 k1 k2 k3 l7;obtain⟨x,rfl,hx0,hx1,hX,ho,hb⟩:=hrel;have g7:=hb.cells;have k0:=g7 0;have k1:=g7 1;have k2:=g7 2;have k3:=g7 3;simp only [aJ,aN] at k0 k1 k2 k3;have l7:=hb.lt;clear g7;by_cases hxc:x<r.c
     . have hc:ax x y=true:=by rw [onC_iff];omega
       have hin:Hid (bj r x y=true):=by show _=_;rw [inR_iff];omega
       have hat:=eJ hc;have hatI:(av x y:Int)<6400:=oM;obtain⟨v0,e0⟩:=bO ho.out (av x y) oM;have hf:=ey ho.out;have hat2:=aa (λ W=>kQ x y W hc);replace hc:=aa hc;go_wp2_with (first | (go_at_call 363;refine (hat2.out _).mono ?_;rintro e w3 ⟨rfl,rfl⟩) | fail);go_roundw
       case rel=>exact⟨x+1,rfl,oM,oM,aa (hX.setCell hB0.out _),aa (by rw [<-ua _ r hc.out hin.out];exact f7 ho.out _ _),aa (hb.other _ _ hBj.out)⟩
       case measure=>exact mS
     . exact Ax
  . exact Bd
theorem yt (q:OA)(n c:Nat)(l:List Q4)(d:Int)(w:World)(h:SlT aj 4 w q n l)(hn:n<=1048576)(hv:∀ r∈l,vR r=true) :
 Calls prog 314 #[sl q n c,d] w (mB (gL (et l d)) w):=by
 obtain⟨i0,hi,hz0,hz1,hz2⟩:=aM iP;have hl:=aa h.length;replace hv:=aa hv;go_enter func314,ntmps314;go_wp2_with (refine ep _ rfl _ _ 238 rfl w 4 i0 _ 1 underlying238 hi hz0 hz1 .i64 .i64 6400 6400 6400 rfl rfl rfl rfl (by rw [hz2];omega) (by unfold maxLen;omega) (ai _) ?_;intro w1 ho hg);rw [gF _ (.bool false) _ (by simp [Value.cells]) (by intro j hj;simp [Value.cells] at hj ⊢;subst hj;rfl),<-gH,show ag bo=ag (gL (et (l.take 0) d)) from by rw [jC];rfl] at ho;have hE:Ext w w1:=(ab _).grown hg (λ _ h=>by cases h);clear hg;have hX1:=aa hE;have ho1:=aa ho;clear hE ho;go_wp2_with (fail);go_loopw [5,6] (λ v i wx=>∃ j:Nat,j<=n/\v=sm w 0 6400 6400/\i=.int .i64 j/\Hid (Ext w wx)/\Hid (wx.ownsRow w 4 1 (sm w 0 6400 6400) 6400 (ag (gL (et (l.take j) d))))) (λ _ i _=>n - (intOf i).toNat)
 case atStart=>exact⟨0,oM,rfl,rfl,hX1,ho1⟩
 case round =>
  clear hX1 ho1;obtain⟨j,hj,rfl,rfl,hX,ho⟩:=hrel;by_cases hjt:j<n
  . have hjI:(j:Int)<(n:Int):=oM;obtain⟨b,off,s,rfl,hbn,hs,c0,c1,c2,c3⟩:=(h.ext hX.out).four hjt;have hsv:=hv.out s (ap hs.out);have hrl:=λ W=>GD s W hsv
    obtain⟨A,hA⟩:∃ A,Hid (mJ s=A):=⟨_,aa rfl⟩;rw [hA.out] at hrl;replace hrl:=aa hrl;replace hsv:=aa hsv;by_cases he:A<d
    . have hst:=aa (GA hs.out (hA.out▸he));have hfl:=λ W (hE:Ext wr W)=>O4 w w w 6400 (gL (et (l.take j) d)) s W (hX.trans hE) (ai _) (aG ho.out hE) hsv.out
      replace hfl:=aa hfl;go_wp2_with (first | (go_at_call 323;(with_reducible refine (hrl.out _).mono ?_);rintro e w8 ⟨rfl,E8⟩;have c08:=(E8.cells _ _ hbn).trans c0;have c18:=(E8.cells _ _ hbn).trans c1;have c28:=(E8.cells _ _ hbn).trans c2;have c38:=(E8.cells _ _ hbn).trans c3;have bn8:=aF hbn E8.le;have E8h:=aa E8) | (go_at_call 324;(with_reducible refine (hfl.out _ E8h.out).mono ?_);rintro e w9 ⟨rfl,o9,E9⟩) | fail);have hb3:Hid (w9.ownsRow w 4 1 (sm w 0 6400 6400) 6400 (ag (gL (et (l.take (j+1)) d)))):=aa (by rw [<-hst.out];exact o9);have hX9:=aa E9;clear E9 o9;go_wp2_with (fail);go_roundw
      case rel=>exact⟨j+1,oM,rfl,gN,hX9,hb3⟩
      case measure=>exact mS
    . have hst:=aa (GB (k:=d) hs.out (hA.out▸he));rw [hst.out] at ho;go_wp2_with (first | (go_at_call 323;(with_reducible refine (hrl.out _).mono ?_);rintro e w8 ⟨rfl,E8⟩;have ho8:=aa (aG ho.out E8);have hX8:=aa (hX.trans E8)) | fail);go_roundw
      case rel=>exact⟨j+1,oM,rfl,gN,hX8,ho8⟩
      case measure=>exact mS
  . have hjI:¬ (j:Int)<(n:Int):=oM;rw [cz hl.out oM] at ho;exact vG
theorem GE {f:Int->Bool}{a b:Int}(hb:b<=41)(hab:a<=b)(h:∀ j,a<=j->j<b->f j=true)(he:f b=false):rE f a=b:=xY hb he _ a (ai _) hab h
theorem O5 (B c:Nat)(g:ac)(x y:Int)(w:World)(hbits:Bits w B g)(h1:gh g x y=true)(h0:gh g x (y - 1)=false) :
 CE 382 #[sm B 0 6400 c,x,y,.bool true] w (.agg #[x,y,(x+1:Int),(rE (ck g true x) y:Int)]):=by
 have hon:ax x y=true:=by rw [gh] at h1;exact (cm _ _▸h1).1
 rw [onC_iff] at hon;obtain⟨⟨x0,x1⟩,y0,y1⟩:=hon;have h1s:=aa h1;replace h0:=aa h0;clear h1;go_enter func382,ntmps382;go_upto_region 1 with (fail);generalize hW1:World.alloc _ _=W1;obtain⟨E1,z1,b1'⟩:=al hW1;clear hW1 z1;have hX:=aa E1;have hb:=aa (show Blk W1 w [(0:Int),(0:Int),(0:Int),(0:Int)] _ from b1');clear E1 b1';go_wp2_with (fail);go_loopw [9] (λ z wx=>z=.int .i64 y/\Hid (Ext w wx)/\Hid (Blk wx w [(0:Int),(0:Int),(0:Int),(0:Int)] 139)) (λ z _=>0)
 case atStart=>exact⟨rfl,hX,hb⟩
 case round =>
  clear hX hb;obtain⟨rfl,hX,hb⟩:=hrel;have hcl:=λ W (hE:Ext wr W)=>fU B c g x (y - 1) W (hbits.ext (hX.trans hE))
  rw [h0.out] at hcl;replace hcl:=aa hcl;go_wp2_with (first | (go_at_call 381;(with_reducible refine (hcl.out _ (ab _)).mono ?_);rintro e2 w3 ⟨rfl,rfl⟩) | fail);clear hcl;go_loopw [10] (λ z wx=>∃ e:Int,z=.int .i64 e/\y+1<=e/\e<=40/\Hid (∀ j,y<=j->j<e->gh g x (j)=true)/\Hid (Ext w wx)/\Hid (Blk wx w [(0:Int),(0:Int),(0:Int),(0:Int)] 139)) (λ z _=>(1100 - intOf z).toNat)
  case atStart=>exact⟨_,rfl,oM,oM,aa (λ j h1 h2=>by rw [show j=y by omega];exact h1s.out),hX,hb⟩
  case round =>
   clear hX hb;obtain⟨e,rfl,he0,he1,hall,hX,hb⟩:=hrel;have hcl:=λ W (hE:Ext wr W)=>fU B c g x (e) W (hbits.ext (hX.trans hE))
   cases hg:gh g x (e) with
   | true =>
     rw [hg] at hcl
     have he39:e<=39:=by
      have:ax x (e)=true:=by rw [gh] at hg;exact (cm _ _▸hg).1
      rw [onC_iff] at this;omega
     have hall2:Hid (∀ j,y<=j->j<e+1->gh g x (j)=true):=aa (λ j h1 h2=>by
      by_cases hj:j<e
      . exact hall.out j h1 hj
      . obtain rfl:j=e:=oM;exact hg)
     exact zZ
   | false => rw [hg] at hcl;have hr:Hid (rE (ck g true x) y=e):=aa (GE oM oM (λ j h1 h2=>by show (if _ then _ else _)=_;simp;exact hall.out j h1 h2) (by show (if _ then _ else _)=_;simp;exact hg));replace hcl:=aa hcl;clear hg;have g7:=hb.cells;have f0:=hb.free 0;have f1:=hb.free 1;have f2:=hb.free 2;have f3:=hb.free 3;have k0:=g7 0;have k1:=g7 1;have k2:=g7 2;have k3:=g7 3;simp only [aJ,aN] at k0 k1 k2 k3;have l7:=hb.lt;clear g7;go_wp2_with (first | (go_at_call 381;(with_reducible refine (hcl.out _ (ab _)).mono ?_);rintro e2 w3 ⟨rfl,rfl⟩) | fail);rw [hr.out];exact jm [.int .i64 (x),.int .i64 (y),.int .i64 (x+1),.int .i64 (e)] Tryz.results382 rfl ((((hb.set 0 _).set 1 _).set 2 _).set 3 _) underlying139 rfl kR rfl ⟨rfl,(((hX.setCell (p:=(ad w 0)) (ai _) _).setCell (p:=(ad w 1)) (ai _) _).setCell (p:=(ad w 2)) (ai _) _).setCell (p:=(ad w 3)) (ai _) _⟩
theorem O6 (B c:Nat)(g:ac)(x y:Int)(w:World)(hbits:Bits w B g)(h1:gh g x y=true)(h0:gh g (x - 1) y=false) :
 CE 382 #[sm B 0 6400 c,x,y,.bool false] w (.agg #[x,y,(rE (ck g false y) x:Int),(y+1:Int)]):=by
 have hon:ax x y=true:=by rw [gh] at h1;exact (cm _ _▸h1).1
 rw [onC_iff] at hon;obtain⟨⟨x0,x1⟩,y0,y1⟩:=hon;have h1s:=aa h1;replace h0:=aa h0;clear h1;go_enter func382,ntmps382;go_upto_region 1 with (fail);generalize hW1:World.alloc _ _=W1;obtain⟨E1,z1,b1'⟩:=al hW1;clear hW1 z1;have hX:=aa E1;have hb:=aa (show Blk W1 w [(0:Int),(0:Int),(0:Int),(0:Int)] _ from b1');clear E1 b1';go_wp2_with (fail);go_loopw [9] (λ z wx=>z=.int .i64 x/\Hid (Ext w wx)/\Hid (Blk wx w [(0:Int),(0:Int),(0:Int),(0:Int)] 139)) (λ z _=>0)
 case atStart=>exact⟨rfl,hX,hb⟩
 case round =>
  clear hX hb;obtain⟨rfl,hX,hb⟩:=hrel;have hcl:=λ W (hE:Ext wr W)=>fU B c g (x - 1) y W (hbits.ext (hX.trans hE))
  rw [h0.out] at hcl;replace hcl:=aa hcl;go_wp2_with (first | (go_at_call 381;(with_reducible refine (hcl.out _ (ab _)).mono ?_);rintro e2 w3 ⟨rfl,rfl⟩) | fail);clear hcl;go_loopw [10] (λ z wx=>∃ e:Int,z=.int .i64 e/\x+1<=e/\e<=40/\Hid (∀ j,x<=j->j<e->gh g (j) y=true)/\Hid (Ext w wx)/\Hid (Blk wx w [(0:Int),(0:Int),(0:Int),(0:Int)] 139)) (λ z _=>(1100 - intOf z).toNat)
  case atStart=>exact⟨_,rfl,oM,oM,aa (λ j h1 h2=>by rw [show j=x by omega];exact h1s.out),hX,hb⟩
  case round =>
   clear hX hb;obtain⟨e,rfl,he0,he1,hall,hX,hb⟩:=hrel;have hcl:=λ W (hE:Ext wr W)=>fU B c g (e) y W (hbits.ext (hX.trans hE))
   cases hg:gh g (e) y with
   | true =>
     rw [hg] at hcl
     have he39:e<=39:=by
      have:ax (e) y=true:=by rw [gh] at hg;exact (cm _ _▸hg).1
      rw [onC_iff] at this;omega
     have hall2:Hid (∀ j,x<=j->j<e+1->gh g (j) y=true):=aa (λ j h1 h2=>by
      by_cases hj:j<e
      . exact hall.out j h1 hj
      . obtain rfl:j=e:=oM;exact hg)
     exact zZ
   | false => rw [hg] at hcl;have hr:Hid (rE (ck g false y) x=e):=aa (GE oM oM (λ j h1 h2=>by show (if _ then _ else _)=_;simp;exact hall.out j h1 h2) (by show (if _ then _ else _)=_;simp;exact hg));replace hcl:=aa hcl;clear hg;have g7:=hb.cells;have f0:=hb.free 0;have f1:=hb.free 1;have f2:=hb.free 2;have f3:=hb.free 3;have k0:=g7 0;have k1:=g7 1;have k2:=g7 2;have k3:=g7 3;simp only [aJ,aN] at k0 k1 k2 k3;have l7:=hb.lt;clear g7;go_wp2_with (first | (go_at_call 381;(with_reducible refine (hcl.out _ (ab _)).mono ?_);rintro e2 w3 ⟨rfl,rfl⟩) | fail);rw [hr.out];exact jm [.int .i64 (x),.int .i64 (y),.int .i64 (e),.int .i64 (y+1)] Tryz.results382 rfl ((((hb.set 0 _).set 1 _).set 2 _).set 3 _) underlying139 rfl kR rfl ⟨rfl,(((hX.setCell (p:=(ad w 0)) (ai _) _).setCell (p:=(ad w 1)) (ai _) _).setCell (p:=(ad w 2)) (ai _) _).setCell (p:=(ad w 3)) (ai _) _⟩
theorem GF (B c:Nat)(g:ac)(w:World)(hbits:Bits w B g) :
 Calls prog 361 #[sm B 0 6400 c,.bool false] w (bH (dW g false) w):=by
 obtain⟨i0,hi,hz0,hz1,hz2⟩:=aM gm;go_enter func361,ntmps361;go_upto_region 2 with (fail);have ho0:=dh (size:=4) (aD w [] 139) (ai _);generalize hW:w.alloc _=W0 at ho0 ⊢;have E0:Ext w W0:=by rw [<-hW];exact (ab _).alloc _
 clear hW;replace E0:=aa E0;replace ho0:=aa ho0;go_wp2_with (fail);go_loopw [5,6] (λ u z wx=>∃ (k:Nat) (yl:Int) (q2:OA) (c2:Nat) (L:List Q4),k<=80/\u=sl q2 L.length c2/\z=.int .i64 yl/\Hid (yl=(k:Int) - 40) /\ -40<=yl/\yl<=40/\Hid (L=ei g false k)/\Hid (wx.ownsRow w 139 4 (sl q2 L.length c2) L.length (L.flatMap aj))/\Hid (Ext w wx)) (λ _ z _=>(100 - intOf z).toNat)
 case atStart=>exact⟨0,-40,_,_,[],oM,rfl,rfl,aa oM,oM,oM,aa (by simp [ei]),ho0,E0⟩
 case round =>
  clear ho0 E0;obtain⟨k,yl,q2,c2,L,hk,rfl,rfl,hy,hy0,hy1,hL,ho,hX⟩:=hrel;by_cases hkt:k<80
  . have hyI:yl<40:=by have:=hy.out;omega
    have hL0:Hid (L=ei g false k++(dB (ck g false yl) 0).map (dR false yl)):=aa (by rw [hL.out];simp [dB]);go_wp2_with (fail);go_loopw [5,7] (λ u z wx=>∃ (m:Nat) (p:Int) (q2:OA) (c2:Nat) (L:List Q4),m<=80/\u=sl q2 L.length c2/\z=.int .i64 p/\Hid (p=(m:Int) - 40) /\ -40<=p/\p<=40/\Hid (L=ei g false k++(dB (ck g false yl) m).map (dR false yl))/\Hid (wx.ownsRow w 139 4 (sl q2 L.length c2) L.length (L.flatMap aj))/\Hid (Ext w wx)) (λ _ z _=>(100 - intOf z).toNat)
    case atStart=>exact⟨0,-40,q2,c2,L,oM,rfl,rfl,aa oM,oM,oM,hL0,ho,hX⟩
    case round =>
     clear hL hL0 ho hX;obtain⟨m,p,q2,c2,L,hm,rfl,rfl,hp,hp0,hp1,hL,ho,hX⟩:=hrel;have hnL:L.length<=6480:=by rw [hL.out,aI,dD];have:=rX g false k;have:=rW (ck g false yl) m;omega
     by_cases hmt:m<80
     . have hpI:p<40:=by have:=hp.out;omega
       have hcB:=aa (λ W (hE:Ext wr W)=>fU B c g (p - 1) yl W (hbits.ext (hX.trans hE)));have hcP:=λ W (hE:Ext wr W)=>fU B c g (p - 1) yl W (hbits.ext (hX.trans hE))
       have hcC:=λ W (hE:Ext wr W)=>fU B c g (p) yl W (hbits.ext (hX.trans hE))
       have e40:Hid ((m:Int) - 40=p):=aa (by have:=hp.out;omega);have e41:Hid ((m:Int) - 41=p - 1):=aa (by have:=hp.out;omega)
       cases hq:gh g (p - 1) yl with
       | true=>cases hg:gh g (p) yl with
         | true => rw [hg] at hcC;rw [hq] at hcP;have hL2:Hid (L=ei g false k++(dB (ck g false yl) (m+1)).map (dR false yl)):=aa (by rw [hL.out,mI,ya (by rw [e40.out,e41.out];simp [ck,hg,hq]),fP]);exact sI
         | false => exact BS
       | false=>cases hg:gh g (p) yl with
         | false => exact BS
         | true =>
           rw [hg] at hcC;rw [hq] at hcP;have hrun:=λ W (hE:Ext wr W)=>O6 B c g p yl W (hbits.ext (hX.trans hE)) hg hq
           have hL1:ei g false k++(dB (ck g false yl) (m+1)).map (dR false yl)=L++[dR false yl (p,rE (ck g false yl) p)]:=AN
           obtain⟨e,he⟩:∃ e,Hid (rE (ck g false yl) p=e):=⟨_,aa rfl⟩;rw [he.out] at hrun hL1;replace hL1:=aa hL1;replace hrun:=aa hrun;replace hcC:=aa hcC;replace hcP:=aa hcP;clear hg hq;go_wp2_with (first | (go_at_call 381;(with_reducible refine (hcP.out _ (ab _)).mono ?_);rintro e2 w3 ⟨rfl,rfl⟩) | (go_at_call 381;(with_reducible refine (hcC.out _ (ab _)).mono ?_);rintro e2 w3 ⟨rfl,rfl⟩) | (go_at_call 382;(with_reducible refine (hrun.out _ (ab _)).mono ?_);rintro e2 w5 ⟨rfl,E5⟩;have ho5:=aa (aG ho.out E5);have hX5:=aa (hX.trans E5);have hlo:=aa hX5.le) | (at_builtin;refine cZ _ rfl _ _ 77 rfl w 139 i0 (.agg #[(0:Int),(0:Int),(0:Int),(0:Int)]) 4 32 underlying77 hi hz0 hz1 hz2 rfl oM _ _ _ rfl (cv ho5.out _) ⟨_,0,none⟩ 1 1 [.int .i64 p,.int .i64 yl,.int .i64 e,.int .i64 (yl+1)] rfl rfl (dg _ [_,_,_,_] _) (iq _ _ _ _) (cx oM oM) oM (by have:=hlo.out;simp;omega) ?_;intro v2 w9 hoA hgA hnA hbA;obtain⟨qa,ca,rfl⟩:=cq hoA;have hoA':=aa hoA;have hX9:=aa ((hX5.alloc _).grown hgA (λ k hk=>(ho5.lt k hk).1));clear hoA hgA hnA hbA) | fail);have hlen:(L++[dR false yl (p,e)]).length=L.length+1:=by rw [aI];rfl
           have hfl:(L++[dR false yl (p,e)]).flatMap aj=L.flatMap aj++[.int .i64 p,.int .i64 yl,.int .i64 e,.int .i64 (yl+1)]:=by rw [dj];rfl
           have ho9:Hid (w9.ownsRow w 139 4 (sl qa (L++[dR false yl (p,e)]).length ca) (L++[dR false yl (p,e)]).length ((L++[dR false yl (p,e)]).flatMap aj)):=aa (by rw [hlen,hfl];exact hoA'.out);exact Ae
     . have hpI:¬ p<40:=by have:=hp.out;omega
       have hL2:Hid (L=ei g false (k+1)):=aa (by rw [hL.out,show m=80 by omega,uw,<-hy.out]);exact Ay
  . have hyI:¬ yl<40:=by have:=hy.out;omega
    have hk8:k=80:=oM;subst hk8;go_wp2_with (fail);go_ret;have hL':L=dW g false:=hL.out;rw [<-hL'];exact⟨q2,c2,rfl,ho.out,hX.out⟩
theorem GG (B c:Nat)(g:ac)(w:World)(hbits:Bits w B g) :
 Calls prog 361 #[sm B 0 6400 c,.bool true] w (bH (dW g true) w):=by
 obtain⟨i0,hi,hz0,hz1,hz2⟩:=aM gm;go_enter func361,ntmps361;go_upto_region 2 with (fail);have ho0:=dh (size:=4) (aD w [] 139) (ai _);generalize hW:w.alloc _=W0 at ho0 ⊢;have E0:Ext w W0:=by rw [<-hW];exact (ab _).alloc _
 clear hW;replace E0:=aa E0;replace ho0:=aa ho0;go_wp2_with (fail);go_loopw [5,6] (λ u z wx=>∃ (k:Nat) (yl:Int) (q2:OA) (c2:Nat) (L:List Q4),k<=80/\u=sl q2 L.length c2/\z=.int .i64 yl/\Hid (yl=(k:Int) - 40) /\ -40<=yl/\yl<=40/\Hid (L=ei g true k)/\Hid (wx.ownsRow w 139 4 (sl q2 L.length c2) L.length (L.flatMap aj))/\Hid (Ext w wx)) (λ _ z _=>(100 - intOf z).toNat)
 case atStart=>exact⟨0,-40,_,_,[],oM,rfl,rfl,aa oM,oM,oM,aa (by simp [ei]),ho0,E0⟩
 case round =>
  clear ho0 E0;obtain⟨k,yl,q2,c2,L,hk,rfl,rfl,hy,hy0,hy1,hL,ho,hX⟩:=hrel;by_cases hkt:k<80
  . have hyI:yl<40:=by have:=hy.out;omega
    have hL0:Hid (L=ei g true k++(dB (ck g true yl) 0).map (dR true yl)):=aa (by rw [hL.out];simp [dB]);go_wp2_with (fail);go_loopw [5,7] (λ u z wx=>∃ (m:Nat) (p:Int) (q2:OA) (c2:Nat) (L:List Q4),m<=80/\u=sl q2 L.length c2/\z=.int .i64 p/\Hid (p=(m:Int) - 40) /\ -40<=p/\p<=40/\Hid (L=ei g true k++(dB (ck g true yl) m).map (dR true yl))/\Hid (wx.ownsRow w 139 4 (sl q2 L.length c2) L.length (L.flatMap aj))/\Hid (Ext w wx)) (λ _ z _=>(100 - intOf z).toNat)
    case atStart=>exact⟨0,-40,q2,c2,L,oM,rfl,rfl,aa oM,oM,oM,hL0,ho,hX⟩
    case round =>
     clear hL hL0 ho hX;obtain⟨m,p,q2,c2,L,hm,rfl,rfl,hp,hp0,hp1,hL,ho,hX⟩:=hrel;have hnL:L.length<=6480:=by rw [hL.out,aI,dD];have:=rX g true k;have:=rW (ck g true yl) m;omega
     by_cases hmt:m<80
     . have hpI:p<40:=by have:=hp.out;omega
       have hcB:=aa (λ W (hE:Ext wr W)=>fU B c g (p - 1) yl W (hbits.ext (hX.trans hE)));have hcP:=λ W (hE:Ext wr W)=>fU B c g yl (p - 1) W (hbits.ext (hX.trans hE))
       have hcC:=λ W (hE:Ext wr W)=>fU B c g yl (p) W (hbits.ext (hX.trans hE))
       have e40:Hid ((m:Int) - 40=p):=aa (by have:=hp.out;omega);have e41:Hid ((m:Int) - 41=p - 1):=aa (by have:=hp.out;omega)
       cases hq:gh g yl (p - 1) with
       | true=>cases hg:gh g yl (p) with
         | true => rw [hg] at hcC;rw [hq] at hcP;have hL2:Hid (L=ei g true k++(dB (ck g true yl) (m+1)).map (dR true yl)):=aa (by rw [hL.out,mI,ya (by rw [e40.out,e41.out];simp [ck,hg,hq]),fP]);exact sI
         | false => exact BT
       | false=>cases hg:gh g yl (p) with
         | false => exact BT
         | true =>
           rw [hg] at hcC;rw [hq] at hcP;have hrun:=λ W (hE:Ext wr W)=>O5 B c g yl p W (hbits.ext (hX.trans hE)) hg hq
           have hL1:ei g true k++(dB (ck g true yl) (m+1)).map (dR true yl)=L++[dR true yl (p,rE (ck g true yl) p)]:=AN
           obtain⟨e,he⟩:∃ e,Hid (rE (ck g true yl) p=e):=⟨_,aa rfl⟩;rw [he.out] at hrun hL1;replace hL1:=aa hL1;replace hrun:=aa hrun;replace hcC:=aa hcC;replace hcP:=aa hcP;clear hg hq;go_wp2_with (first | (go_at_call 381;(with_reducible refine (hcB.out _ (ab _)).mono ?_);rintro e2 w3 ⟨rfl,rfl⟩) | (go_at_call 381;(with_reducible refine (hcP.out _ (ab _)).mono ?_);rintro e2 w3 ⟨rfl,rfl⟩) | (go_at_call 381;(with_reducible refine (hcC.out _ (ab _)).mono ?_);rintro e2 w3 ⟨rfl,rfl⟩) | (go_at_call 382;(with_reducible refine (hrun.out _ (ab _)).mono ?_);rintro e2 w5 ⟨rfl,E5⟩;have ho5:=aa (aG ho.out E5);have hX5:=aa (hX.trans E5);have hlo:=aa hX5.le) | (at_builtin;refine cZ _ rfl _ _ 77 rfl w 139 i0 (.agg #[(0:Int),(0:Int),(0:Int),(0:Int)]) 4 32 underlying77 hi hz0 hz1 hz2 rfl oM _ _ _ rfl (cv ho5.out _) ⟨_,0,none⟩ 1 1 [.int .i64 yl,.int .i64 p,.int .i64 (yl+1),.int .i64 e] rfl rfl (dg _ [_,_,_,_] _) (iq _ _ _ _) (cx oM oM) oM (by have:=hlo.out;simp;omega) ?_;intro v2 w9 hoA hgA hnA hbA;obtain⟨qa,ca,rfl⟩:=cq hoA;have hoA':=aa hoA;have hX9:=aa ((hX5.alloc _).grown hgA (λ k hk=>(ho5.lt k hk).1));clear hoA hgA hnA hbA) | fail);have hlen:(L++[dR true yl (p,e)]).length=L.length+1:=by rw [aI];rfl
           have hfl:(L++[dR true yl (p,e)]).flatMap aj=L.flatMap aj++[.int .i64 yl,.int .i64 p,.int .i64 (yl+1),.int .i64 e]:=by rw [dj];rfl
           have ho9:Hid (w9.ownsRow w 139 4 (sl qa (L++[dR true yl (p,e)]).length ca) (L++[dR true yl (p,e)]).length ((L++[dR true yl (p,e)]).flatMap aj)):=aa (by rw [hlen,hfl];exact hoA'.out);exact Ae
     . have hpI:¬ p<40:=by have:=hp.out;omega
       have hL2:Hid (L=ei g true (k+1)):=aa (by rw [hL.out,show m=80 by omega,uw,<-hy.out]);exact Ay
  . have hyI:¬ yl<40:=by have:=hy.out;omega
    have hk8:k=80:=oM;subst hk8;go_wp2_with (fail);go_ret;have hL':L=dW g true:=hL.out;rw [<-hL'];exact⟨q2,c2,rfl,ho.out,hX.out⟩
theorem O7 (B c:Nat)(g:ac)(w:World)(hbits:Bits w B g) :
 Calls prog 315 #[sm B 0 6400 c] w (bH (eL g) w):=by
 obtain⟨i0,hi,hz0,hz1,hz2⟩:=aM gm;have b1:=jn g false;have b2:=jn g true;have hlen:(eL g).length=(dW g false).length+(dW g true).length:=by rw [eL,aI]
 have hr1:=aa (λ W (hE:Ext w W)=>GF B c g W (hbits.ext hE));have hr2:=aa (λ W (hE:Ext w W)=>GG B c g W (hbits.ext hE));go_enter func315,ntmps315;go_wp2_with (first | (go_at_call 361;(with_reducible refine (hr1.out _ (ab _)).mono ?_);rintro e w2 ⟨q1,c1,rfl,o1,E2⟩;replace o1:=aa o1;replace E2:=aa E2) | (go_at_call 361;(with_reducible refine (hr2.out _ E2.out).mono ?_);rintro e w3 ⟨q2,c2,rfl,o2,E3⟩;replace o2:=aa o2;have ob:=aa (aG o1.out E3);have E13:=aa (E2.trans E3);have hs3:=aa E13.le) | (at_builtin;refine uz rfl _ _ 77 rfl w 139 i0 (.agg #[(0:Int),(0:Int),(0:Int),(0:Int)]) 4 32 underlying77 hi hz0 hz1 hz2 rfl oM _ _ _ rfl ob.out w2 _ _ _ rfl o2.out (uy _) (by unfold maxLen;omega) oM hs3.out ?_;intro v' w4 ho' hg;obtain⟨qa,ca,rfl⟩:=cq ho';replace ho':=aa ho';replace hg:=aa hg) | fail);go_ret;refine⟨qa,ca,by rw [hlen];rfl,?_,E13.grown hg.out (λ k hk=>(ob.lt k hk).1)⟩;rw [hlen,eL,dj];exact ho'.out
theorem sj (d:Int)(w:World):CW 313 #[d] w (.bool (ae d 1 8)):=by have hr:=aa (wit_iff (v:=d) (a:=1) (b:=8));go_enter func313,ntmps313;exact Bi
theorem O8 (q:OA)(n c:Nat)(l:List Q4)(d:Int)(w:World)(h:SlT aj 4 w q n l)(hn:n<=1048576) :
 Calls prog 234 #[sl q n c,d] w (bH (iW l d) w):=by
 have hok:=kL q n c l w h hn
 cases hr:aH l with
 | false =>
   have hm:Hid (iW l d=[]):=by show _=_;rw [iW,ar (by rw [hr];simp)]
   rw [hr] at hok;replace hok:=aa hok;clear hr;exact Ck
 | true =>
   cases hw:ae d 1 8 with
   | false =>
     have hm:Hid (iW l d=[]):=by show _=_;rw [iW,ar (by rw [hw];simp)]
     have hdi:=λ W=>sj d W
     rw [hr] at hok;rw [hw] at hdi;replace hok:=aa hok;replace hdi:=aa hdi;clear hr hw;exact Ck
   | true =>
     have hm:Hid (iW l d=ah (gL (et (eL (gL l)) d))):=by show _=_;rw [iW,aw (by rw [hr,hw];rfl)]
     have hvs:=aa ((eU (isReg_iff.1 hr).1).2);have b1:=jn (gL l) false;have b2:=jn (gL l) true;have hn2:Hid ((eL (gL l)).length<=12800):=by show _<=_;rw [eL,aI];omega
     have hdi:=λ W=>sj d W
     rw [hr] at hok;rw [hw] at hdi;replace hok:=aa hok;replace hdi:=aa hdi;clear hr hw b1 b2;go_enter func234,ntmps234;go_wp2_with (first | (go_at_call 161;refine hok.mono ?_;rintro e w2 ⟨rfl,E2⟩;replace E2:=aa E2) | (go_at_call 313;refine (hdi.out _).mono ?_;rintro e w3 ⟨rfl,rfl⟩) | (go_at_call 159;refine (ji q n c l _ (h.ext E2.out) hn hvs.out).mono ?_;rintro e w4 ⟨B,rfl,o4,E4⟩;have t4:=aa (dH o4);replace E4:=aa (E2.trans E4);clear o4) | (go_at_call 315;refine (O7 B 6400 (gL l) _ t4.out).mono ?_;rintro e w5 ⟨q5,c5,rfl,o5,E5⟩;have s5:=aa (bm (l:=eL (gL l)) cw rfl o5);replace E5:=aa (E4.trans E5);clear o5) | (go_at_call 314;refine (yt q5 _ c5 (eL (gL l)) d _ s5.out (by have:=hn2.out;omega) GC).mono ?_;rintro e w6 ⟨B6,rfl,o6,E6⟩;have t6:=aa (dH o6);replace E6:=aa (E5.trans E6);clear o6) | (go_at_call 160;refine (kK B6 6400 _ _ t6.out).mono ?_;rintro e w7 ⟨q7,c7,rfl,o7,E7⟩;replace o7:=aa o7;replace E7:=aa E7) | fail);exact Bp
end Go.Proofs.YtnlajnpcdnnpmaaGreat
