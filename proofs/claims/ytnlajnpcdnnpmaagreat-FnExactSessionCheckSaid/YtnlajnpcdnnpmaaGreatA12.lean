/- Part of a proof. No condition. -/
import Derived.Test.YtnlajnpcdnnpmaaGreatA11
namespace Go.Proofs.YtnlajnpcdnnpmaaGreat
set_option linter.all false
set_option maxRecDepth 100000
set_option maxHeartbeats 16000000
open Go.RowKit
abbrev Hd:=OA×Nat×Nat
def ci (h:Hd):Value:=sl h.1 h.2.1 h.2.2
def iM (h:Hd):List Value:=[ci h]
theorem rz (h:Hd):(iM h).length=1:=rfl
structure OwnS (base:Nat) (w:World) (q:OA) (n c:Nat) (H:List Hd) (V:List (List Value)):Prop where
 len:H.length=n
 lenV:V.length=n
 top:w.ownsRow base 77 1 (sl q n c) n (H.flatMap iM)
 row:∀ (k:Nat) (h:Hd) (v:List Value),H[k]?=some h->V[k]?=some v->w.ownsRow base 139 4 (ci h) h.2.1 v
 apart:∀ (j k:Nat) (h h':Hd),j≠k->H[j]?=some h->H[k]?=some h'->∀ b,b∈ao h.1->b∉ao h'.1
 under:∀ (k:Nat) (h:Hd),H[k]?=some h->∀ b,b∈ao h.1->b∉ao q
def kj (H:List Hd):List Nat:=H.flatMap λ(h:Hd)=>ao h.1
theorem mem_rowsB {H:List Hd}{b:Nat} : b∈kj H↔∃ (k:Nat) (h:Hd),H[k]?=some h/\b∈ao h.1:=by rw [kj,aL80];exact AD
theorem oA {h:Hd} : (ci h).ownBlock=h.1.map (·.block):=fd
section
variable {base n c:Nat} {w w':World} {q:Option Addr} {H:List Hd} {V:List (List Value)}
theorem OwnS.nil (base:Nat)(w:World):OwnS base w none 0 0 [] []:=⟨rfl,rfl,pd _ _ _ _,(λ k h v hk=>by simp at hk),(λ j k h h' _ hj=>by simp at hj),(λ k h hk=>by simp at hk)⟩
theorem OwnS.mut {S:List Nat}(h:OwnS base w q n c H V)(M:Mut w w' S)(h1:∀ b,b∈ao q->b∉S)(h2:∀ b,b∈kj H->b∉S):OwnS base w' q n c H V:=by have pA:=@mem_rowsB;exact CU
theorem OwnS.ext (h:OwnS base w q n c H V)(hE:Ext w w'):OwnS base w' q n c H V:=h.mut (hE.mut []) (by simp) (by simp)
theorem OwnS.low {b':Nat}(h:OwnS base w q n c H V)(hb:b'<=base):OwnS b' w q n c H V:=zT
theorem OwnS.geTop (h:OwnS base w q n c H V):∀ b,b∈ao q->base<=b/\b<w.heap.size:=dE h.top
theorem OwnS.at (h:OwnS base w q n c H V){k:Nat}(hk:k<n):∃ x v,H[k]?=some x/\V[k]?=some v :=
 ⟨_,_,bK (by rw [h.len];exact hk),bK (by rw [h.lenV];exact hk)⟩
theorem OwnS.geRow (h:OwnS base w q n c H V):∀ b,b∈kj H->base<=b/\b<w.heap.size:=by intro b hb;obtain⟨k,x,hx,hb⟩:=mem_rowsB.1 hb;exact AM
theorem OwnS.setRow (h:OwnS base w q n c H V){j:Nat}{x:Hd}{v:List Value}(hx:H[j]?=some x)(M:Mut w w' (ao x.1))(hr:w'.ownsRow base 139 4 (ci x) x.2.1 v):OwnS base w' q n c H (V.set j v):=by have pA:=hx;exact CL
theorem OwnS.push {qa:OA}{ca:Nat}{x:Hd}{v:List Value}(h:OwnS base w q n c H V)(hr:w.ownsRow base 139 4 (ci x) x.2.1 v)(hx:∀ b,b∈ao x.1->b∉ao q/\b∉kj H)
 (ht:w'.ownsRow base 77 1 (sl qa (n+1) ca) (n+1) (H.flatMap iM++iM x)) (hg:w.grownBy w' (Value.slice q n c).ownBlock) (hq:∀ b,b∈ao qa->b∈ao q\/w.heap.size<=b):OwnS base w' qa (n+1) ca (H++[x]) (V++[v]):=by
 have hkeep:∀ {m:Nat} {y:Hd} {u:List Value},(∀ b,b∈ao y.1->b∉ao q)->w.ownsRow base 139 4 (ci y) m u->w'.ownsRow base 139 4 (ci y) m u:=by intro m y u hy ho;exact zN
 have hrow:∀ (k:Nat) (y:Hd),H[k]?=some y->∀ b,b∈ao y.1->b∈kj H:=λ k y hy b hb=>mem_rowsB.2 ⟨k,y,hy,hb⟩
 have hcase:∀ {α:Type} {l:List α} {z y:α} {k:Nat},(l++[z])[k]?=some y->(k<l.length/\l[k]?=some y)\/(k=l.length/\y=z):=by intro α l z y k hk;exact Ah
 have hnew:∀ b,b∈ao x.1->b<w.heap.size:=λ b hb=>(dE hr b hb).2
 have pA:=hx;have pB:=hnew;exact CG
end
def SlS (w:World) (q:OA) (n:Nat) (L:List (List Q4)):Prop:=∃ H:List Hd,SlT iM 1 w q n H/\L.length=n/\∀ (k:Nat) (h:Hd) (l:List Q4),H[k]?=some h->L[k]?=some l->SlT aj 4 w h.1 h.2.1 l
theorem SlS.length {w:World}{q:OA}{n:Nat}{L:List (List Q4)}(h:SlS w q n L):L.length=n:=let ⟨_,_,h,_⟩:=h;h
theorem SlS.ext {w w':World}{q:OA}{n:Nat}{L:List (List Q4)}(h:SlS w q n L)(hE:Ext w w'):SlS w' q n L:=by obtain⟨H,h1,h2,h3⟩:=h;exact⟨H,h1.ext hE,h2,λ k x l hx hl=>(h3 k x l hx hl).ext hE⟩
theorem SlS.get {w:World}{q:OA}{n:Nat}{L:List (List Q4)}(h:SlS w q n L){k:Nat}(hk:k<n) :
 ∃ b off q1 n1 c1 l,q=so b off/\b<w.heap.size/\Hid (L[k]?=some l)/\w.cell? (ad b (off+k))=ss q1 n1 c1/\SlT aj 4 w q1 n1 l:=by
 obtain⟨H,h1,h2,h3⟩:=h;obtain⟨b,off,x,e1,e2,e3,e4⟩:=h1.get hk;have hl:L[k]?=some L[k]:=bK oM;exact⟨b,off,x.1,x.2.1,x.2.2,L[k],e1,e2,hl,by have:=e4 0 _ rfl;simpa [iM,ci] using this,h3 k x _ e3.out hl⟩
theorem SlS.nil (w:World)(q:OA):SlS w q 0 []:=⟨[],SlT.zero _ _,rfl,λ k x l hx=>by simp at hx⟩
def dG (L:List (List Q4)):List (List Value):=L.map (·.flatMap aj)
theorem OwnS.hd {base n c:Nat}{w:World}{q:OA}{H:List Hd}{L:List (List Q4)}(h:OwnS base w q n c H (dG L)){k:Nat}{x:Hd}{l:List Q4}(hx:H[k]?=some x)(hl:L[k]?=some l):l.length=x.2.1:=by have h1:=(h.row k x (l.flatMap aj) hx (by rw [dG,cK,hl];rfl)).1;rw [kC cw] at h1;omega
theorem OwnS.toS {base n c:Nat}{w:World}{q:OA}{H:List Hd}{L:List (List Q4)}(h:OwnS base w q n c H (dG L)):SlS w q n L:=by
 have hL:L.length=n:=by rw [<-h.lenV,dG,dD]
 refine⟨H,bm rz h.len h.top,hL,λ k x l hx hl=>?_⟩;exact bm cw (h.hd hx hl) (h.row k x (l.flatMap aj) hx (by rw [dG,cK,hl];rfl))
theorem OwnS.mono {base n c:Nat}{w:World}{q:OA}{H:List Hd}{V V':List (List Value)}(h:OwnS base w q n c H V)(e:V=V'):OwnS base w q n c H V':=e▸h
theorem Mut.wide {a b:World}{S T:List Nat}(h:Mut a b S)(hs:∀ k,k∈S->k∈T):Mut a b T:=⟨h.os,h.tape,h.output,h.size,λ k hk hn=>h.block k hk (λ hh=>hn (hs k hh))⟩
open Go.Proofs.Tryz Go.Sort
def dV (a b:Int):Int:=if a<b then -1 else if a>b then 1 else 0
theorem LD (a b:Int)(w:World):CW 295 #[a,b] w (dV a b:Int):=by
 go_enter func295,ntmps295;by_cases h:a<b
 . have hr:Hid (-1=dV a b):=by show _=_;rw [dV,aw h]
   exact nR
 . by_cases h2:b<a
   . have hr:Hid (1=dV a b):=by show _=_;rw [dV,ar h,aw h2]
     exact nR
   . have hr:Hid (0=dV a b):=by show _=_;rw [dV,ar h,ar h2]
     exact nR
def gj:List Int->Int
 | []=>0
 | a :: l=>if a=0 then gj l else a
theorem LE {l:List Int}{k:Nat}(h:l[k]?=some 0):gj (l.drop k)=gj (l.drop (k+1)):=by obtain⟨h1,h2⟩:=aL31.1 h;rw [o0 h1,h2,gj,aw rfl]
theorem LF {l:List Int}{k:Nat}{a:Int}(h:l[k]?=some a)(ha:a≠0):gj (l.drop k)=a:=by obtain⟨h1,h2⟩:=aL31.1 h;rw [o0 h1,h2,gj,ar ha]
theorem LG (B:Nat)(vs:List Int)(w:World)(t:TypeId)(hb:Blk w B (vs.map (Value.int .i64)) t)(hn:vs.length<=100) :
 CW 294 #[sm B 0 vs.length vs.length] w (gj vs:Int):=by
 have⟨g,hlt⟩:=hb.gl;obtain⟨n,hN⟩:∃ n,n=vs.length:=⟨_,rfl⟩;rw [<-hN] at hn ⊢;replace hN:=aa hN;clear hb;go_enter func294,ntmps294;go_wp2;go_loop [5,8] (λ _ i=>∃ k:Nat,k<=n/\i=.int .i64 k/\Hid (gj vs=gj (vs.drop k))) (λ _ i=>n - (intOf i).toNat)
 case atStart=>exact⟨0,oM,rfl,rfl⟩
 case round =>
  obtain⟨k,hk,rfl,hI⟩:=hrel;by_cases hlt:k<n
  . obtain⟨a,ha⟩:∃ a,Hid (vs[k]?=some a):=⟨_,bK (by rw [<-hN.out];exact hlt)⟩;have gk:=g k;rw [cK,ha.out] at gk;simp only [Option.map_some] at gk;by_cases h0:a=0
    . subst h0;have hI2:Hid (gj vs=gj (vs.drop (k+1))):=hI.trans (LE ha.out);clear g;go_wp2;go_round
      case rel=>exact⟨k+1,oM,gN,hI2⟩
      case measure=>exact mS
    . have hr:Hid (a=gj vs):=(hI.trans (LF ha.out h0)).symm;clear g;exact nR
  . have hr:Hid (0=gj vs):=by
     show _=_;rw [hI.out,sD (by have:=hN.out;omega)];rfl
    clear g;exact nR
def mz (x y:Q4):Int:=gj [dV x.b y.b,dV x.a y.a,dV x.d y.d,dV x.c y.c]
theorem xi {x y:Q4}(h:x.b<y.b\/(x.b=y.b/\x.a<y.a)):mz x y = -1/\mz y x=1:=by simp only [mz,gj,dV];constructor <;> (repeat' split) <;> omega
theorem LH (B:Nat)(a b c d:Int)(w:World)(t:TypeId)(hb:Blk w B [a,b,c,d] t) :
 CW 294 #[sm B 0 4 4] w (gj [a,b,c,d]:Int):=LG B [a,b,c,d] w t hb (by simp)
def Gw (w w':World):Prop:=∃ q os',w'=grow (w.drewN q) os'
theorem Gw.refl (w:World):Gw w w:=⟨0,#[],by rw [grow_empty];rfl⟩
theorem Gw.drew {a w:World}(h:Gw a w):Gw a w.drew:=by obtain⟨q,os,rfl⟩:=h;exact⟨q+1,os,rfl⟩
theorem Gw.alloc {a w:World}(h:Gw a w)(o:Obj):Gw a (w.alloc o):=by obtain⟨q,os,rfl⟩:=h;exact⟨q,os++#[o],by rw [alloc_eq_grow,grow_grow]⟩
theorem Gw.trans {a b c:World}(h:Gw a b)(k:Gw b c):Gw a c:=by obtain⟨q,os,rfl⟩:=h;obtain⟨q',os',rfl⟩:=k;exact⟨q+q',os++os',by simp only [grow,World.drewN,nH,Array.append_assoc]⟩
theorem Gw.ext {a b:World}(h:Gw a b):Ext a b:=by obtain⟨q,os,rfl⟩:=h;exact⟨rfl,rfl,rfl,by simp [World.drewN],λ k hk=>heap_grow_old _ _ hk⟩
theorem LI (x y:Q4)(W:World):Calls prog 201 #[.agg (aj x).toArray,.agg (aj y).toArray] W λ e w'=>e=.returned (mz x y:Int)/\Gw W w':=by
 have hr:Hid (gj [dV x.b y.b,dV x.a y.a,dV x.d y.d,dV x.c y.c]=mz x y):=rfl;go_enter func201,ntmps201;go_wp2_with fail;generalize hW0:(W.alloc (.cells (aj x).toArray 139)).alloc (.cells (aj y).toArray 139)=W0;obtain⟨E0,hz,hb1,hb2⟩:=bV hW0;have G0:Gw W W0:=by rw [<-hW0];exact ((Gw.refl W).alloc _).alloc _
 have z1:Blk W0 W [x.a,x.b,x.c,x.d] 139:=hb1;have z2:Blk W0 (W+1) [y.a,y.b,y.c,y.d] 139:=hb2
 have hk:Hid (∀ V,Ext W0 V->V.cell? (ad W 0)=si x.a/\V.cell? (ad W 1)=si x.b/\V.cell? (ad W 2)=si x.c/\V.cell? (ad W 3)=si x.d /\
  V.cell? (ad (W+1) 0)=si y.a/\V.cell? (ad (W+1) 1)=si y.b/\V.cell? (ad (W+1) 2)=si y.c/\V.cell? (ad (W+1) 3)=si y.d):=λ V hV=>by
  have k1:=(z1.ext hV).cells;have k2:=(z2.ext hV).cells;exact⟨k1 0,k1 1,k1 2,k1 3,k2 0,k2 1,k2 2,k2 3⟩
 have zb:=aa (show ∀ V:World,Blk (V.alloc (.cells #[.int .i64 (dV x.b y.b),.int .i64 (dV x.a y.a),.int .i64 (dV x.d y.d),.int .i64 (dV x.c y.c)] 3)).drew V [.int .i64 (dV x.b y.b),.int .i64 (dV x.a y.a),.int .i64 (dV x.d y.d),.int .i64 (dV x.c y.c)] 3 from λ V=>(aD V _ _).drew);have G0:=aa G0;clear hb1 hb2 z1 z2 hW0 E0 hz
 go_region_held3 (λ V=>V.cell? (ad W 0)=si x.a/\V.cell? (ad W 1)=si x.b/\V.cell? (ad W 2)=si x.c/\V.cell? (ad W 3)=si x.d /\
  V.cell? (ad (W+1) 0)=si y.a/\V.cell? (ad (W+1) 1)=si y.b/\V.cell? (ad (W+1) 2)=si y.c/\V.cell? (ad (W+1) 3)=si y.d)
  (exact hk.out _ (by first | exact (ab _).drew | exact ((ab _).alloc _).drew))
  (first | (go_at_call 295;refine (LD _ _ _).mono ?_;rintro e w' ⟨rfl,rfl⟩) | (go_at_call 294;((with_reducible refine (LH W0 _ _ _ _ _ _ (zb.out W0)).mono ?_);rintro e w' ⟨rfl,rfl⟩)))
 go_wp2_with fail;go_ret;exact⟨cp hr.out,(G0.alloc _).drew⟩
theorem ES (x y:Q4)(W:World):Calls prog 201 #[.agg #[x.a,x.b,x.c,x.d],.agg #[y.a,y.b,y.c,y.d]] W λ e w'=>e=.returned (mz x y:Int)/\Gw W w':=LI x y W
theorem SlT.head4 {w:World}{q:OA}{n:Nat}{f:Q4}{t:List Q4}(h:SlT aj 4 w q n (f :: t)):0<n/\∃ b off,q=so b off/\b<w.heap.size/\w.cell? (ad b off)=si f.a/\w.cell? (ad b (off+1))=si f.b/\w.cell? (ad b (off+2))=si f.c/\w.cell? (ad b (off+3))=si f.d:=by
 have hl:=h.length;rw [eO] at hl;obtain⟨b,off,x,rfl,hb,hx,z0,z1,z2,z3⟩:=h.four (k:=0) oM;have e:f=x:=by have:=hx.out;simpa using this
 subst e;simp only [ky,aq] at z0 z1 z2 z3;exact⟨oM,b,off,rfl,hb,z0,z1,z2,z3⟩
theorem LJ (x1 x2:Hd)(f1 f2:Q4)(t1 t2:List Q4)(W:World)(r1:SlT aj 4 W x1.1 x1.2.1 (f1 :: t1))(r2:SlT aj 4 W x2.1 x2.2.1 (f2 :: t2)) :
 Calls prog 343 #[ci x1,ci x2] W λ e w'=>e=.returned (mz f1 f2:Int)/\Gw W w':=by
 obtain⟨q1,n1,c1⟩:=x1;obtain⟨q2,n2,c2⟩:=x2;obtain⟨h1,b1,o1,hq1,hb1,z0,z1,z2,z3⟩:=r1.head4;obtain⟨h2,b2,o2,hq2,hb2,y0,y1,y2,y3⟩:=r2.head4;simp only at hq1 hq2 h1 h2;subst hq1 hq2;clear r1 r2
 have hk:Hid (∀ V,Gw W.drew V->V.cell? (ad b1 o1)=si f1.a/\V.cell? (ad b1 (o1+1))=si f1.b/\V.cell? (ad b1 (o1+2))=si f1.c/\V.cell? (ad b1 (o1+3))=si f1.d /\
  V.cell? (ad b2 o2)=si f2.a/\V.cell? (ad b2 (o2+1))=si f2.b/\V.cell? (ad b2 (o2+2))=si f2.c/\V.cell? (ad b2 (o2+3))=si f2.d):=λ V hV=>by
  have k:=((Gw.refl W).drew.trans hV).ext.cells;exact⟨(k _ _ hb1).trans z0,(k _ _ hb1).trans z1,(k _ _ hb1).trans z2,(k _ _ hb1).trans z3,(k _ _ hb2).trans y0,(k _ _ hb2).trans y1,(k _ _ hb2).trans y2,(k _ _ hb2).trans y3⟩
 unfold ci;simp only;go_enter func343,ntmps343;go_wp2_with fail
 go_region_held3 (λ V=>V.cell? (ad b1 o1)=si f1.a/\V.cell? (ad b1 (o1+1))=si f1.b/\V.cell? (ad b1 (o1+2))=si f1.c/\V.cell? (ad b1 (o1+3))=si f1.d /\
  V.cell? (ad b2 o2)=si f2.a/\V.cell? (ad b2 (o2+1))=si f2.b/\V.cell? (ad b2 (o2+2))=si f2.c/\V.cell? (ad b2 (o2+3))=si f2.d)
  (first | exact⟨z0,z1,z2,z3,y0,y1,y2,y3⟩ | exact hk.out _ g1)
  ((go_at_call 201;((with_reducible refine (ES f1 f2 _).mono ?_);rintro e w1 ⟨rfl,g1⟩)))
 go_wp2_with fail;go_ret;exact⟨rfl,(Gw.refl W).drew.trans g1⟩
open Go.Maps
theorem ET (x y:Int):ax x y=(ae x (-40) 39&&ae y (-40) 39):=by rw [aL62,onC_iff,cm,wit_iff,wit_iff]
theorem LK (x y:Int)(w:World) :
 CE 335 #[.agg #[x,y]] w (.bool (ax x y)):=by
 have hr:=aa (ET x y)
 cases hx:ae x (-40) 39
 all_goals
  go_enter func335,ntmps335;go_wp2_with (go_at_call 117;refine (dd _ _ _ _).mono ?_;rintro e w' ⟨rfl,rfl⟩);go_ret;exact⟨bu (by rw [hr.out,hx];simp),(ab _).alloc _⟩
theorem mA (r:Q4)(w:World) :
 CE 187 #[.agg #[r.a,r.b,r.c,r.d]] w (.bool (vR r)):=by
 go_enter func187,ntmps187;exact Bn
theorem pS (r:Q4)(w:World) :
 CE 243 #[.agg #[r.a,r.b,r.c,r.d]] w (.bool (vR r)):=by
 go_enter func243,ntmps243;exact Bn
theorem pT (x y:Int)(w:World)(h:ax x y=true) :
 CW 226 #[x,y] w (av x y:Int):=by
 rw [onC_iff] at h;obtain⟨⟨x0,x1⟩,y0,y1⟩:=h;have hr:Hid ((y+40)*80+x+40=(av x y:Int)):=by show _=_;rw [av];omega
 go_enter func226,ntmps226;exact nR
def V2 (p:Q2):Value:=.agg #[p.a,p.b]
theorem lG:Tryz.zeroCells269=(ag bo).toArray:=by
 have h:Tryz.zeroCells269=(List.replicate 6400 (Value.bool false)).toArray:=by kernel_rfl
 rw [h,gH]
def EU (B:Nat) (g:ac) (r:Q4) (w:World) (e:Ending) (w':World):Prop:=e=.returned (.tuple #[])/\Blk w' B (ag (aU λ x y=>gh g x y||bj r x y)) 269/\Mut w w' [B]
theorem tY (g:ac):ag g=ag (aU λ x y=>gh g x y):=tK λ x y h=>by rw [iK _ h]
def iN (r:Q4):Prop:=(-1000<=r.a/\r.a<=1000)/\(-1000<=r.b/\r.b<=1000)/\(-1000<=r.c/\r.c<=1000)/\(-1000<=r.d/\r.d<=1000)
theorem iO {r:Q4}(h:vR r=true):iN r:=by rw [vR_iff] at h;unfold iN;omega
def Putting (B:Nat) (g:ac) (r:Q4) (w:World) (u v:Int) (wr:World):Prop:=Blk wr B (ag (aU (part (gh g) r u v))) 269/\Mut w wr [B]/\Blk wr w [r.a,r.b,r.c,r.d] 139
theorem Putting.start {B:Nat}{g:ac}{r:Q4}{w:World}{v:Int}(hb:Blk w B (ag g) 269)(h0:v<=r.b\/v <= -40):Putting B g r w (-2000) v (w.alloc (.cells #[.int .i64 r.a,.int .i64 r.b,.int .i64 r.c,.int .i64 r.d] 139)):=by
 refine⟨?_,((ab _).alloc _).mut _,aD _ [_,_,_,_] _⟩;rw [<-D6 (u := -2000) (v:=v) (gh g) r,<-tY]
 . exact hb.alloc _
 . intro x y hc hr;rw [onC_iff] at hc;rw [inR_iff] at hr;omega
theorem Putting.row {B:Nat}{g:ac}{r:Q4}{w wr:World}{u v:Int}(h:Putting B g r w u v wr)(hu:r.c<=u\/40<=u):Putting B g r w (-2000) (v+1) wr:=by
 refine⟨?_,h.2⟩;rw [<-D5 (u:=u) (u' := -2000) (v:=v) (gh g) r]
 . exact h.1
 . intro x hc hr;rw [onC_iff] at hc;rw [inR_iff] at hr;omega
 . intro x hc hr;rw [onC_iff] at hc;omega
theorem Putting.go {B:Nat}{g:ac}{r:Q4}{w wr:World}{u v:Int}(h:Putting B g r w (-2000) v wr)(hu:u<=r.a\/u <= -40):Putting B g r w u v wr:=by
 refine⟨?_,h.2⟩;have h1:=h.1;rw [lA (f:=part (gh g) r (-2000) v) (f':=part (gh g) r u v)] at h1
 . exact h1
 . intro x y hc;exact Ad
theorem Putting.cell {B:Nat}{g:ac}{r:Q4}{w wr:World}{u v:Int}(h:Putting B g r w u v wr)(hB:B<w.heap.size)(hc:ax u v=true)(hr:bj r u v=true):Putting B g r w (u+1) v (wr.setCell (ad B (av u v)) (.bool true)):=by obtain⟨h1,h2,h3⟩:=h;refine⟨?_,h2.setCell (p:=(ad B (av u v))) (by simp) _,h3.other _ _ oM⟩;have:=h1.set (av u v) (.bool true);rwa [j9,D4 _ _ hc hr] at this
theorem Putting.done {B:Nat}{g:ac}{r:Q4}{w wr:World}{v:Int}(h:Putting B g r w (-2000) v wr)(hv:r.d<=v\/40<=v):EU B g r w (.returned (.tuple #[])) wr:=by refine⟨rfl,?_,h.2.1⟩;have h1:=h.1;rwa [D7 (gh g) r] at h1;intro x y hc hr;rw [onC_iff] at hc;rw [inR_iff] at hr;omega
theorem nr (B:Nat)(g:ac)(r:Q4)(w:World)(hb:Blk w B (ag g) 269)(hv:iN r) :
 Calls prog 188 #[.pointer (so B 0),.agg #[r.a,r.b,r.c,r.d]] w (EU B g r w):=by
 obtain⟨⟨a0,a1⟩,⟨b0,b1⟩,⟨c0,c1⟩,d0,d1⟩:=hv;have hBl:=hb.lt;go_enter func188,ntmps188;go_wp2
 all_goals
  go_loopw [4] (λ i wr=>∃ y:Int,i=.int .i64 y/\r.b<=y /\ -40<=y/\y<=1000/\Putting B g r w (-2000) y wr) (λ i _=>(1100 - intOf i).toNat)
  case atStart=>exact⟨_,rfl,oM,oM,oM,Putting.start hb oM⟩
  case round =>
   obtain⟨y,rfl,hy0,hy1,hy2,hP⟩:=hrel;have g0:=hP.2.2.cells;have k0:=g0 0;have k1:=g0 1;have k2:=g0 2;have k3:=g0 3;simp only [aJ,aN] at k0 k1 k2 k3;clear g0;by_cases hy:y<40/\y<r.d
   . obtain⟨hy,hyd⟩:=hy;go_wp2
     all_goals
      go_loopw [5] (λ i wr=>∃ x:Int,i=.int .i64 x/\r.a<=x /\ -40<=x/\x<=1000/\Putting B g r w x y wr) (λ i _=>(1100 - intOf i).toNat)
      case atStart=>exact⟨_,rfl,oM,oM,oM,hP.go oM⟩
      case round =>
       clear hP k0 k1 k2 k3;obtain⟨x,rfl,hx0,hx1,hx2,hP⟩:=hrel;have g0:=hP.2.2.cells;have k0:=g0 0;have k1:=g0 1;have k2:=g0 2;have k3:=g0 3;simp only [aJ,aN] at k0 k1 k2 k3;clear g0;by_cases hx:x<40/\x<r.c
       . obtain⟨hx,hxc⟩:=hx;have hc:ax x y=true:=by rw [onC_iff];omega
         have hr:bj r x y=true:=by rw [inR_iff];omega
         have z0:=hP.1.cells (av x y);rw [dv _ (eJ hc)] at z0;have fz:=hP.1.free (av x y);have hPn:=aa (hP.cell hBl hc hr);have eat:(y+40).toNat*80+(x+40).toNat=av x y:=by rw [av];omega
         replace hc:=aa hc;replace hr:=aa hr;have pA:=hPn;exact Dd
       . have hP2:=aa (hP.row oM);have pA:=hP2;exact Dd
   . have hP2:=aa (hP.done oM);go_wp2
     all_goals
      go_end0;exact hP2.out
def rA (g:ac) (w:World) (e:Ending) (w':World):Prop:=∃ B,e=.returned (.pointer (so B 0))/\w.heap.size<=B/\Blk w' B (ag g) 269/\Ext w w'
theorem xj {l:List Q4}{k:Nat}{r:Q4}(h:l[k]?=some r):ag (aU λ x y=>gh (gL (l.take k)) x y||bj r x y)=ag (gL (l.take (k+1))):=by
 rw [gL,gL,<-wD h];refine lA λ x y hc=>?_
 rw [iK _ hc]
theorem Blk.pair {w w':World}{B:Nat}{cs ds:List Value}{t:TypeId}(h:Blk w B cs t)(e:cs=ds)(hw:w=w'):Blk w' B ds t:=hw▸e▸h
theorem ns (q:OA)(n c:Nat)(l:List Q4)(w:World)(h:SlT aj 4 w q n l)(hn:n<=1048576)(hv:∀ r∈l,iN r) :
 Calls prog 284 #[sl q n c] w (rA (gL l) w):=by
 have hl:=aa h.length;replace hv:=aa hv;go_enter func284,ntmps284;go_wp2;generalize hW:w.alloc _=W0;obtain⟨E0,z0,b0⟩:=al hW;clear hW;have hb0:Blk W0 w (ag (gL (l.take 0))) 269:=AY
 clear b0;obtain⟨B,hB⟩:∃ B,B=w.heap.size:=⟨_,rfl⟩;rw [<-hB] at hb0 ⊢;replace hB:=aa hB;replace z0:=aa z0;go_loopw [10] (λ i wr=>∃ k:Nat,k<=n/\i=.int .i64 k/\Ext w wr/\Blk wr B (ag (gL (l.take k))) 269) (λ i _=>n - (intOf i).toNat)
 case atStart=>exact⟨0,oM,rfl,E0,hb0⟩
 case round =>
  clear hb0 E0 W0 z0;obtain⟨k,hk,rfl,hE,hb⟩:=hrel;by_cases hlt:k<n
  . obtain⟨b,off,x,rfl,hbn,hx,c0,c1,c2,c3⟩:=(h.ext hE).four hlt;have hBl:=hb.lt;have hvx:=aa (hv.out x (ap hx.out));replace hb:=aa hb;clear hbn;go_wp2_with fail;have hb1:=hb.alloc (.cells #[.int .i64 x.a,.int .i64 x.b,.int .i64 x.c,.int .i64 x.d] 139);refine (nr B _ x _ hb1 hvx.out).mono ?_;rintro e w1 ⟨rfl,hb2,hM⟩;rw [xj hx.out] at hb2;exact zQ
  . go_wp2_with fail;go_ret;rw [cz hl.out oM] at hb;exact⟨B,rfl,by rw [hB.out];omega,hb,hE⟩
def V4 (x:Q4):Value:=.agg #[x.a,x.b,x.c,x.d]
theorem LL (x y:Q4)(w:World):(Op.equalIn 10000 139 (V4 x) (V4 y)).run prog w=.ok (decide (x=y)) w:=by
 have u:=underlying2;have a:=Tryz.isAgg2;have z:=Tryz.sizeOf2;have hS:prog.underlying 139=some (.struct (prog.fieldsOf 139)):=by kernel_rfl
 rw [show (10000:Nat)=9999+1 from rfl,V4,V4,run_equalIn_agg w 9999 _ _ _ hS Tryz.stoodInHeld139];simp only [Program.fieldsOf,underlying139];go_simp;have hd:decide (x=y)=(x.a==y.a&&x.b==y.b&&x.c==y.c&&x.d==y.d):=by rw [aL62];cases x;cases y;simp [and_assoc]
 rw [hd];by_cases h1:x.a=y.a <;> by_cases h2:x.b=y.b <;> by_cases h3:x.c=y.c <;> by_cases h4:x.d=y.d <;> simp [h1,h2,h3,h4]
theorem LM:prog.eqGuardType prog.depth 139=false:=by kernel_rfl
section
variable {C:World->Prop} {a:Act} {o:Oper} {K:Act->Prop}
theorem LN (t':TypeId)(x y:Operand)(h:o.op=.binOp .neq 139 x y t')(p q:Q4)(hx:a.eval x=V4 p)(hy:a.eval y=V4 q)(r:Bool)(hr:(!decide (p=q))=r)(hk:K (a.put o.dst (.bool r))):o.quiet prog a C K :=
 ⟨_,λ w _=>by unfold Oper.quietAt execOp;have h1:=LL p q w;unfold V4 at h1 hx hy;simp only [h,hx,hy,mc,run_eqGuard_agg w .neq _ x y _ _ LM,mW,run_neq_struct,h1,hr,Sem.run_pure];exact⟨rfl,rfl⟩,hk⟩
end
def SameTo {α:Type} (k:Nat) (l m:List α):Prop:=∀ i,i<k->l[i]?=m[i]?
theorem SameTo.all {α:Type}{k:Nat}{l m:List α}(h:SameTo k l m)(hl:l.length<=k)(hm:m.length<=k):l=m:=by
 apply qM;intro i;rcases kX i k with h' | h'
 . exact h i h'
 . rw [kZ oM,kZ oM]
theorem SameTo.go {α:Type}{k:Nat}{l m:List α}{x:α}(h:SameTo k l m)(hl:l[k]?=some x)(hm:m[k]?=some x):SameTo (k+1) l m:=λ i hi=>by
 by_cases he:i=k
 . rw [he,hl,hm]
 . exact h i oM
theorem EW {α:Type}{k:Nat}{l m:List α}{x y:α}(hl:l[k]?=some x)(hm:m[k]?=some y)(h:x≠y):l≠m:=λ e=>by rw [e,hm] at hl;exact h (cJ hl.symm)
theorem LO (p1 p2:OA)(n m k1 k2:Nat)(l l':List Q4)(w:World)(h1:SlT aj 4 w p1 n l)(h2:SlT aj 4 w p2 m l')(hn:n<=1048576)(hm:m<=1048576) :
 CE 283 #[sl p1 n k1,sl p2 m k2] w (.bool (decide (l=l'))):=by
 have hl:=aa h1.length;have hl':=aa h2.length;by_cases hnm:n=m
 . subst hnm;go_enter func283,ntmps283;go_wp2;go_loopw [13] (λ i wr=>∃ k:Nat,k<=n/\i=.int .i64 k/\Hid (SameTo k l l')/\Ext w wr) (λ i _=>n - (intOf i).toNat)
   case atStart=>exact⟨0,oM,rfl,(λ i hi=>by omega),ab _⟩
   case round => exact yX
 . have pA:=func283;have pB:=ntmps283;exact vY
theorem LP (p1 p2:OA)(n m k1 k2:Nat)(l l':List Q4)(w:World)(h1:SlT aj 4 w p1 n l)(h2:SlT aj 4 w p2 m l')(hn:n<=1048576)(hm:m<=1048576) :
 CE 231 #[sl p1 n k1,sl p2 m k2] w (.bool (decide (l=l'))):=by
 have hl:=aa h1.length;have hl':=aa h2.length;by_cases hnm:n=m
 . subst hnm;go_enter func231,ntmps231;go_wp2;go_loopw [5] (λ i wr=>∃ k:Nat,k<=n/\i=.int .i64 k/\Hid (SameTo k l l')/\Ext w wr) (λ i _=>n - (intOf i).toNat)
   case atStart=>exact⟨0,oM,rfl,(λ i hi=>by omega),ab _⟩
   case round => exact yX
 . have pA:=func231;have pB:=ntmps231;exact vY
theorem EY (p1 p2:OA)(n m k1 k2:Nat)(l l':List Int)(w:World)(h1:SlT bi 1 w p1 n l)(h2:SlT bi 1 w p2 m l')(hn:n<=1048576)(hm:m<=1048576) :
 CE 228 #[sl p1 n k1,sl p2 m k2] w (.bool (decide (l=l'))):=by
 have hl:=aa h1.length;have hl':=aa h2.length;by_cases hnm:n=m
 . subst hnm;go_enter func228,ntmps228;go_wp2;go_loopw [5] (λ i wr=>∃ k:Nat,k<=n/\i=.int .i64 k/\Hid (SameTo k l l')/\Ext w wr) (λ i _=>n - (intOf i).toNat)
   case atStart=>exact⟨0,oM,rfl,(λ i hi=>by omega),ab _⟩
   case round =>
    obtain⟨k,hk,rfl,hS,hE⟩:=hrel;by_cases hlt:k<n
    . obtain⟨b,off,x,rfl,hb,hx,c0⟩:=(h1.ext hE).int hlt;obtain⟨b',off',x',rfl,hb',hx',d0⟩:=(h2.ext hE).int hlt;have hkI:(k:Int)<n:=oM;by_cases hxx:x=x'
      . subst hxx;have hS2:Hid (SameTo (k+1) l l'):=hS.go hx.out hx'.out;have hxx:Hid (decide (x=x)=true):=by show _=_;simp
        clear hS;go_wp2_with fail;refine aQ kR kR ?_;repeat (go_big_quiet_step (fail))
        refine bW ?_;rintro w2 ⟨⟨_,E2⟩,rfl⟩;have hE2:=aa (hE.trans E2);clear hE E2 c0 d0;exact Cm
      . have hr:Hid (decide (l=l')=false):=bU (EW hx.out hx'.out hxx);have hxx':(x==x')=false:=by simpa using hxx
        clear hS;go_wp2_with fail;refine aQ kR kR ?_;repeat (go_big_quiet_step (fail))
        refine bW ?_;rintro w2 ⟨⟨_,E2⟩,rfl⟩;have hE2:=aa (hE.trans E2);clear hE E2 c0 d0;go_wp2_with fail;go_ret;exact⟨bu hr.symm,hE2.out⟩
    . exact Ca
 . have pA:=func228;have pB:=ntmps228;exact vY
theorem LQ (q:OA)(n c:Nat)(l:List Q4)(w:World)(h:SlT aj 4 w q n l)(hn:n<=1048576) :
 CE 282 #[sl q n c] w (.bool (eS l)):=by
 have hl:=aa h.length;by_cases h3:n<=3200
 . go_enter func282,ntmps282;go_wp2;go_loopw [10] (λ i wr=>∃ k:Nat,k<=n/\i=.int .i64 k/\Hid ((l.take k).all vR=true)/\Ext w wr) (λ i _=>n - (intOf i).toNat)
   case atStart=>exact⟨0,oM,rfl,(by show _=_;simp),ab _⟩
   case round =>
    obtain⟨k,hk,rfl,hA,hE⟩:=hrel;by_cases hlt:k<n
    . obtain⟨b,off,r,rfl,hb,hr,c0,c1,c2,c3⟩:=(h.ext hE).four hlt;have hkI:(k:Int)<n:=oM
      cases hv:vR r with
      | true =>
        have hA2:Hid ((l.take (k+1)).all vR=true):=by show _=_;rw [ch hr.out,nL,hA.out];simp [hv]
        have hcall:=λ W=>mA r W
        rw [hv] at hcall;clear hA hv;go_wp2_with fail;refine (hcall _).mono ?_;rintro e w2 ⟨rfl,E2⟩;have hE2:=aa (((hE.alloc _)).trans E2);exact AB
      | false =>
        have hr2:Hid (false=eS l):=Ak
        have hcall:=λ W=>mA r W
        rw [hv] at hcall;clear hA hv;go_wp2_with fail;refine (hcall _).mono ?_;rintro e w2 ⟨rfl,E2⟩;have hE2:=aa (((hE.alloc _)).trans E2);exact AW
    . exact zW
 . have hr2:Hid (false=eS l):=by show _=_;rw [eS,hl.out];simp [h3]
   go_enter func282,ntmps282;go_wp2;go_ret;exact⟨bu hr2.out,ab _⟩
theorem LR (q:OA)(n c:Nat)(l:List Q4)(w:World)(h:SlT aj 4 w q n l)(hn:n<=1048576) :
 CE 229 #[sl q n c] w (.bool (eS l)):=by
 have hl:=aa h.length;by_cases h3:n<=3200
 . go_enter func229,ntmps229;go_wp2;go_loopw [3] (λ i wr=>∃ k:Nat,k<=n/\i=.int .i64 k/\Hid ((l.take k).all vR=true)/\Ext w wr) (λ i _=>n - (intOf i).toNat)
   case atStart=>exact⟨0,oM,rfl,(by show _=_;simp),ab _⟩
   case round =>
    obtain⟨k,hk,rfl,hA,hE⟩:=hrel;by_cases hlt:k<n
    . obtain⟨b,off,r,rfl,hb,hr,c0,c1,c2,c3⟩:=(h.ext hE).four hlt;have hkI:(k:Int)<n:=oM
      cases hv:vR r with
      | true =>
        have hA2:Hid ((l.take (k+1)).all vR=true):=by show _=_;rw [ch hr.out,nL,hA.out];simp [hv]
        have hcall:=λ W=>pS r W
        rw [hv] at hcall;clear hA hv;go_wp2_with fail;refine (hcall _).mono ?_;rintro e w2 ⟨rfl,E2⟩;have hE2:=aa (((hE)).trans E2);exact AB
      | false =>
        have hr2:Hid (false=eS l):=Ak
        have hcall:=λ W=>pS r W
        rw [hv] at hcall;clear hA hv;go_wp2_with fail;refine (hcall _).mono ?_;rintro e w2 ⟨rfl,E2⟩;have hE2:=aa (((hE)).trans E2);exact AW
    . exact zW
 . have hr2:Hid (false=eS l):=by show _=_;rw [eS,hl.out];simp [h3]
   go_enter func229,ntmps229;go_wp2;go_ret;exact⟨bu hr2.out,ab _⟩
end Go.Proofs.YtnlajnpcdnnpmaaGreat
