/- Part of a proof. No condition. -/
import Derived.Test.YtnlajnpcdnnpmaaGreatA12
namespace Go.Proofs.YtnlajnpcdnnpmaaGreat
set_option linter.all false
set_option maxRecDepth 100000
set_option maxHeartbeats 16000000
open Go.Proofs.Tryz Go.RowKit Go.RowKit
def mB (g:ac) (w:World) (e:Ending) (w':World):Prop:=∃ B,e=.returned (sm B 0 6400 6400)/\w'.ownsRow w 4 1 (sm B 0 6400 6400) 6400 (ag g)/\Ext w w'
section
variable (f:Int->Int->Bool) (r:Q4) {u v:Int}
theorem rB (h0:v<=r.b\/v <= -40):ag (aU f)=ag (aU (part f r (-2000) v)) :=
 D6 f r λ x y hc hr=>by rw [onC_iff] at hc;rw [inR_iff] at hr;omega
theorem xk (hu:r.c<=u\/40<=u):ag (aU (part f r u v))=ag (aU (part f r (-2000) (v+1))) :=
 D5 f r (λ x hc hr=>by rw [onC_iff] at hc;rw [inR_iff] at hr;omega) (λ x hc _=>by rw [onC_iff] at hc;omega)
theorem tZ (hu:u<=r.a\/u <= -40):ag (aU (part f r (-2000) v))=ag (aU (part f r u v)) :=
 lA λ x y hc=>by exact Ad
theorem ua (hc:ax u v=true)(hr:bj r u v=true):(ag (aU (part f r u v))).set (av u v) (.bool true)=ag (aU (part f r (u+1) v)):=by rw [j9,D4 _ _ hc hr]
theorem xm (hv:r.d<=v\/40<=v):ag (aU (part f r (-2000) v))=ag (aU (λ x y=>f x y||bj r x y)) :=
 D7 f r λ x y hc hr=>by rw [onC_iff] at hc;rw [inR_iff] at hr;omega
end
theorem iP:(prog.info? 4).map (λ i=>(i.zero,i.size,i.bytes))=some (some (.bool false),1,1):=by kernel_rfl
theorem ji (q:OA)(n c:Nat)(l:List Q4)(w:World)(h:SlT aj 4 w q n l)(hn:n<=1048576)(hv:∀ r∈l,vR r=true) :
 Calls prog 159 #[sl q n c] w (mB (gL l) w):=by
 obtain⟨i0,hi,hz0,hz1,hz2⟩:=aM iP;have hl:=aa h.length;replace hv:=aa hv;go_enter func159,ntmps159;go_wp2_with (refine ep _ rfl _ _ 238 rfl w 4 i0 _ 1 underlying238 hi hz0 hz1 .i64 .i64 6400 6400 6400 rfl rfl rfl rfl (by rw [hz2];omega) (by unfold maxLen;omega) (ai _) ?_;intro w1 ho hg);rw [gF _ (.bool false) _ (by simp [Value.cells]) (by intro j hj;simp [Value.cells] at hj ⊢;subst hj;rfl),<-gH,show ag bo=ag (gL (l.take 0)) from by rw [jC];rfl] at ho;have hE:Ext w w1:=(ab _).grown hg (λ _ h=>by cases h);clear hg;go_wp2;go_loopw [4] (λ i wr=>∃ k:Nat,k<=n/\i=.int .i64 k/\Ext w wr/\wr.ownsRow w 4 1 (sm w 0 6400 6400) 6400 (ag (gL (l.take k)))) (λ i _=>n - (intOf i).toNat)
 case atStart=>exact⟨0,oM,rfl,hE,ho⟩
 case round =>
  clear ho hE w1;obtain⟨k,hk,rfl,hE,ho⟩:=hrel;by_cases hlt:k<n
  . have hkI:(k:Int)<n:=oM;obtain⟨b,off,r,rfl,hbn,hr,c0,c1,c2,c3⟩:=(h.ext hE).four hlt;have hvr:=aa (vR_iff.1 (hv.out r (ap hr.out)));obtain⟨⟨a0,a1,a2⟩,b0,b1,b2⟩:=hvr.out;replace ho:=aa ho;go_wp2;go_loopw [5] (λ i wr=>∃ y:Int,i=.int .i64 y/\r.b<=y/\y<=r.d/\Ext w wr/\wr.ownsRow w 4 1 (sm w 0 6400 6400) 6400 (ag (aU (part (bA (l.take k)) r (-2000) y)))) (λ i _=>(1100 - intOf i).toNat)
    case atStart=>exact⟨_,rfl,oM,oM,hE,by rw [<-rB _ r (ay (fW _))];exact ho.out⟩
    case round =>
     clear hE ho c0 c1 c2 c3 hbn;obtain⟨y,rfl,hy0,hy1,hE,ho⟩:=hrel;obtain⟨b',off',r',hp',hbn,hr',c0,c1,c2,c3⟩:=(h.ext hE).four hlt
     cases hp'
     obtain rfl:r=r':=cJ (hr.symm.trans hr'.out);clear hr';by_cases hyd:y<r.d
     . replace ho:=aa ho;go_wp2;go_loopw [6] (λ i wr=>∃ x:Int,i=.int .i64 x/\r.a<=x/\x<=r.c/\Ext w wr/\wr.ownsRow w 4 1 (sm w 0 6400 6400) 6400 (ag (aU (part (bA (l.take k)) r x y)))) (λ i _=>(1100 - intOf i).toNat)
       case atStart=>exact⟨_,rfl,oM,oM,hE,by rw [<-tZ _ r (ay (fW _))];exact ho.out⟩
       case round =>
        clear hE ho c0 c1 c2 c3 hbn;obtain⟨x,rfl,hx0,hx1,hE,ho⟩:=hrel;obtain⟨b',off',r',hp',hbn,hr',c0,c1,c2,c3⟩:=(h.ext hE).four hlt
        cases hp'
        obtain rfl:r=r':=cJ (hr.symm.trans hr'.out);clear hr';by_cases hxc:x<r.c
        . have hc:ax x y=true:=by rw [onC_iff];omega
          have hin:Hid (bj r x y=true):=by show _=_;rw [inR_iff];omega
          have hat:=eJ hc;have hatI:(av x y:Int)<6400:=oM;obtain⟨v0,e0⟩:=bO ho (av x y) oM;have hf:=ey ho;have ho2:=aa ho;have hE2:=aa hE;clear ho;go_wp2_with (go_at_call 226;refine (pT _ _ _ hc).mono ?_;rintro e w' ⟨rfl,rfl⟩);go_roundw
          case rel => refine⟨x+1,rfl,oM,oM,hE2.setCell (ai _) _,?_⟩;rw [<-ua _ r hc hin.out];exact f7 ho2.out _ _
          case measure=>exact mS
        . rw [xk _ r (ay oM)] at ho;have ho2:=aa ho;have hE2:=aa hE;clear ho;go_wp2;go_roundw
          case rel=>exact⟨y+1,rfl,oM,oM,hE2.out,ho2.out⟩
          case measure=>exact mS
     . rw [xm _ r (ay oM),wD hr.out] at ho;have ho2:=aa ho;have hE2:=aa hE;clear ho;go_wp2;go_roundw
       case rel=>exact⟨k+1,oM,gN,hE2.out,ho2.out⟩
       case measure=>exact mS
  . have hkI:¬ (k:Int)<n:=oM;go_wp2_with fail;go_ret;rw [cz hl.out oM] at ho;exact⟨_,rfl,ho,hE⟩
def Bits (w:World) (B:Nat) (g:ac):Prop:=B<w.heap.size/\∀ i,i<6400->w.cell? (ad B i)=some (.bool (g i))
theorem Bits.ext {w w':World}{B:Nat}{g:ac}(h:Bits w B g)(hE:Ext w w'):Bits w' B g:=⟨aF h.1 hE.le,λ i hi=>(hE.cells _ _ h.1).trans (h.2 i hi)⟩
theorem Bits.of {w:World}{base B c:Nat}{e:TypeId}{g:ac}(h:w.ownsRow base e 1 (sm B 0 6400 c) 6400 (ag g)):Bits w B g :=
 ⟨(cM h).2,λ i hi=>by rw [h.cellAt i oM,dv _ hi]⟩
abbrev dH:=@Bits.of
theorem xo (B c:Nat)(g:ac)(x y:Int)(w:World)(h:Bits w B g) :
 CW 310 #[sm B 0 6400 c,x,y] w (.bool (gh g x y)):=by
 have hw:=aa (ET x y)
 cases hx:ae x (-40) 39 with
 | false => have hr:Hid (gh g x y=false):=dr (by rw [hw.out,hx];rfl);exact AC
 | true =>
   cases hy:ae y (-40) 39 with
   | false => have hr:Hid (gh g x y=false):=dr (by rw [hw.out,hx,hy];rfl);exact AC
   | true =>
     have hc:ax x y=true:=by rw [hw.out,hx,hy];rfl
     have hr:Hid (gh g x y=g (av x y)):=gc hc;have hat:=eJ hc;have hatI:(av x y:Int)<6400:=oM;have c0:=h.2 _ hat;replace hc:=aa hc;go_enter func310,ntmps310;go_wp2_with (first | (go_at_call 153;refine (qX _ _ _ _).mono ?_;rintro e w' ⟨rfl,rfl⟩) | (go_at_call 226;refine (pT _ _ _ hc.out).mono ?_;rintro e w' ⟨rfl,rfl⟩));go_ret;exact⟨bu hr.symm,rfl⟩
def LS (l:List Int) (w:World) (e:Ending) (w':World):Prop:=∃ q c,e=.returned (sl q l.length c)/\w'.ownsRow w 2 1 (sl q l.length c) l.length (l.flatMap bi)/\Ext w w'
theorem LT:(prog.info? 2).map (λ i=>(i.zero,i.size,i.bytes))=some (some (.int .i64 0),1,8):=by kernel_rfl
theorem ub (g:ac)(y:Int):(runs g y).length<=81:=by
 have key:∀ (l:List Int) (lo:Int),Inc lo l->lo<=41->(l.length:Int)<=41 - lo:=by
  intro l
  induction l with
  | nil=>intro lo _ h;simp;omega
  | cons a l ih => intro lo h hlo;obtain⟨h1,h2,h3⟩:=h;have:=ih (a+1) h3 oM;rw [eO];omega
 have:=key _ _ (rl g y) oM;omega
theorem xt (B c:Nat)(g:ac)(y:Int)(w:World)(h:Bits w B g) :
 Calls prog 227 #[sm B 0 6400 c,y] w (LS (runs g y) w):=by
 obtain⟨i0,hi,hz0,hz1,hz2⟩:=aM LT;have ho0:(w.alloc (.cells #[] 2)).ownsRow w 2 1 (sm w 0 0 0) 0 []:=by have:=qH (base:=w.heap.size) (e:=2) (size:=1) w #[] 0 (by simp) (by simp [maxLen]) (by simp);exact this
 have hb:=aa h;clear h;go_enter func227,ntmps227;go_wp2;go_loopw [5,6] (λ v i wr=>∃ (x:Int) (out:List Int) (q:OA) (c:Nat),-40<=x/\x<=41/\v=sl q out.length c/\i=.int .i64 x/\Hid (runs g y=out++ee g y x)/\wr.ownsRow w 2 1 (sl q out.length c) out.length (out.flatMap bi)/\Ext w wr) (λ _ i _=>(41 - intOf i).toNat)
 case atStart=>exact⟨-40,[],_,_,oM,oM,rfl,rfl,rfl,ho0,(ab _).alloc _⟩
 case round =>
  clear ho0;obtain⟨x,out,q,c',hx0,hx1,rfl,rfl,hR,ho,hE⟩:=hrel;have hlen:out.length<=81:=by have h1:=ub g y;rw [hR.out,aI] at h1;omega
  by_cases hx:x<=40
  . by_cases hd:gh g x y=gh g (x - 1) y
    . have hR2:Hid (runs g y=out++ee g y (x+1)):=by show _=_;rw [hR.out,kH hd]
      clear hR;have ho2:=aa ho;clear ho;go_wp2_with (go_at_call 310;refine (xo _ _ g _ _ _ (hb.ext hE)).mono ?_;rintro e w' ⟨rfl,rfl⟩);go_roundw
      case rel=>exact⟨x+1,out,q,c',oM,oM,rfl,rfl,hR2,ho2.out,hE⟩
      case measure=>exact mS
    . have hR2:Hid (runs g y=(out++[x])++ee g y (x+1)):=by show _=_;rw [hR.out,kG hx hd];simp
      have hne:(gh g x y==gh g (x - 1) y)=false:=by simpa using hd
      clear hR;have ho2:=aa ho;have hNl:=hE.le;clear ho;go_wp2_with (first | (go_at_call 310;refine (xo _ _ g _ _ _ (hb.ext hE)).mono ?_;rintro e w' ⟨rfl,rfl⟩) | (at_builtin;refine qG _ rfl _ _ 121 rfl w 2 i0 (0:Int) 1 8 underlying121 hi hz0 hz1 hz2 rfl oM _ _ _ rfl (ho2.alloc _) ⟨_,0,none⟩ 1 1 [.int .i64 x] rfl rfl (nq _ _ _) (np _) (cx oM oM) oM (by simp;omega) ?_;intro v' w1 ho' hg' _;obtain⟨qa,ca,rfl⟩:=cq ho';have hE1:=aa ((hE.alloc _).grown hg' (λ k hk=>(ho2.lt k hk).1));replace ho':=aa ho';clear hg'));go_roundw
      case rel=>exact⟨x+1,out++[x],qa,ca,oM,oM,by rw [aI];rfl,rfl,hR2,by rw [aI,dj];exact ho'.out,hE1.out⟩
      case measure=>exact mS
  . have hR2:Hid (runs g y=out):=by show _=_;rw [hR.out,ij oM,fP]
    clear hR;go_wp2_with fail;go_ret;rw [hR2.out];exact⟨q,c',rfl,ho,hE⟩
def gO (n:Nat) (f:Nat->Bool):List Value:=(List.range n).map λ i=>.bool (f i)
theorem rC (n:Nat)(f:Nat->Bool):(gO n f).length=n:=by simp [gO]
theorem EZ {n:Nat}(f:Nat->Bool){i:Nat}(h:i<n):(gO n f)[i]?=some (.bool (f i)):=by rw [gO,cK,nK h];rfl
section
variable {P:Program}
theorem Fa {e:TypeId}(he:P.underlying e=some .bool)(w:World){n:Nat}(f:Nat->Bool){i:Nat}(h:i<n):(Go.part e (gO n f).toArray (i*1)).run P w=.ok (.bool (f i)) w:=by have:=EZ f h;simp [Go.part,isAgg,run_underlying he,this]
theorem Fb (w:World)(d:Nat){e:TypeId}(he:P.underlying e=some .bool)(hc:P.cellsOf e=1){n:Nat}(f g:Nat->Bool) :
 ∀ is:List Nat,(∀ i∈is,i<n)->(Op.eqItems (d+1) e (P.cellsOf e) (gO n f).toArray (gO n g).toArray is).run P w=.ok (is.all λ i=>f i==g i) w
 | [],_=>by simp [Op.eqItems]
 | i :: is,h=>by
   have hi:=h i (by simp);have ih:=Fb w d he hc f g is (λ j hj=>h j (by simp [hj]));rw [hc] at ih ⊢;simp only [Op.eqItems,mc,Fa he w f hi,Fa he w g hi,mW,run_equalIn_bool' w d e _ _ he,List.all_cons]
   cases hb:(f i==g i)
   . simp
   . simpa using ih
def oB (n:Nat) (f g:Nat->Bool):Bool:=(List.range n).all λ i=>f i==g i
theorem LU {n:Nat}{f g:Nat->Bool} : oB n f g=true↔∀ i,i<n->f i=g i:=by simp [oB]
theorem LV (w:World){t e:TypeId}{n:Nat}{i:TypeInfo}(ht:P.underlying t=some (.array n e))(hi:P.info? e=some i)(he:P.underlying e=some .bool)(hc:P.cellsOf e=1)(f g:Nat->Bool) :
 (binOp .eql t (.agg (gO n f).toArray) (.agg (gO n g).toArray)).run P w=.ok (.bool (oB n f g)) w:=by
 rw [run_eql_struct,run_equalIn_array w 9999 _ _ ht hi,Fb w 9998 he hc f g _ (λ i hi=>aL70.1 hi)];rfl
end
section
variable {P:Program} {C:World->Prop} {a:Act} {o:Oper} {K:Act->Prop}
theorem uc (ty:TypeId)(x:Operand)(h:o.op=.load ty x)(b off:Nat)(hx:a.eval x=.pointer (so b off))(cs:List Value)(d:TypeDesc)(hc:∀ w,C w->w.rangeAt b off cs)
 (hu:P.underlying ty=some d) (hd:d.isRow=true) (hi:(P.info? ty).map (·.size)=some cs.length) (hk:K (a.put o.dst (.agg cs.toArray))):o.quiet P a C K :=
 ⟨_,λ w hw=>by unfold Oper.quietAt execOp;simp only [h,hx,Instr.loadAt,Instr.sureAddr,mc,Sem.run_pure,mW,run_loadVar_mid w b off ty cs d (hc w hw) hu hd hi];exact⟨rfl,rfl⟩,hk⟩
theorem Fc (t t':TypeId)(x y:Operand)(h:o.op=.binOp .eql t x y t'){n:Nat}(f g:Nat->Bool)(hx:a.eval x=.agg (gO n f).toArray)(hy:a.eval y=.agg (gO n g).toArray){e:TypeId}{i:TypeInfo}
 (ht:P.underlying t=some (.array n e)) (hi:P.info? e=some i) (he:P.underlying e=some .bool) (hc:P.cellsOf e=1) (hm:P.eqGuardType P.depth t=false) (hk:K (a.put o.dst (.bool (oB n f g)))):o.quiet P a C K :=
 ⟨_,λ w _=>by unfold Oper.quietAt execOp;simp only [h,hx,hy,mc,run_eqGuard_agg w .eql t x y _ _ hm,mW,LV w ht hi he hc f g,Sem.run_pure];exact⟨rfl,rfl⟩,hk⟩
end
def jF (g:ac) (y:Nat):Nat->Bool:=λ i=>g (y*80+i)
theorem ud {w:World}{B:Nat}{g:ac}{t:TypeId}(h:Blk w B (ag g) t){y:Nat}(hy:y<80):w.rangeAt B (y*80) (gO 80 (jF g y)):=λ j v hj=>by
 have hl:j<80:=by have:=(aL31.1 hj).1;rwa [rC] at this
 rw [EZ _ hl] at hj;rw [h.cells,dv _ oM,<-hj];rfl
theorem mC {g:ac}{x y:Nat}(hx:x<80)(hy:y<80):gh g ((x:Int) - 40) ((y:Int) - 40)=g (y*80+x):=by rw [gc (by rw [onC_iff];omega),show av ((x:Int) - 40) ((y:Int) - 40)=y*80+x by unfold av;omega]
theorem Fd {g:ac}{y e:Nat}(hy:y<80)(he:e<80):oB 80 (jF g e) (jF g y)=true↔runs g ((e:Int) - 40)=runs g ((y:Int) - 40):=by
 rw [LU,runs_inj];constructor
 . intro h x;by_cases hx : -40<=x/\x<40
   . have:=h (x+40).toNat oM;rw [jF,jF,<-mC (g:=g) (x:=(x+40).toNat) oM he,<-mC (g:=g) (x:=(x+40).toNat) oM hy] at this;rwa [show (((x+40).toNat:Nat):Int) - 40=x by omega] at this
   . exact vD
 . intro h i hi;have:=h ((i:Int) - 40);rwa [mC hi he,mC hi hy] at this
def rD (y e:Int) (p:Int×Int):Q4:=⟨p.1,y,p.2,e⟩
def Rest (g:ac) (y e x:Int) (out:List Q4):Prop:=ah g=out++((dl (ee g y x)).map (rD y e)++ez g e)
theorem Rest.start {g:ac}{y e:Int}{out:List Q4}(h:ah g=out++ez g y)(hy:y<40)(he:cN g y (y+1)=e):Rest g y e (-40) out:=by rw [Rest,h,lC hy,gg,he];rfl
theorem Rest.skip {g:ac}{y e x:Int}{out:List Q4}(h:Rest g y e x out)(h1:gh g x y=false)(h0:gh g (x - 1) y=false):Rest g y e (x+1) out:=by rw [Rest,kH (by rw [h1,h0])] at h;exact h
theorem Rest.done {g:ac}{y e x:Int}{out:List Q4}(h:Rest g y e x out)(hx:40<=x)(h0:gh g (x - 1) y=false):ah g=out++ez g e:=by
 have h2:=h.skip (pO hx) h0;rw [Rest,ij oM,dl,nG,List.nil_append] at h2
 . exact h2
 . intro a b l hh;cases hh
def InRun (g:ac) (y f x:Int):Prop:=ee g y f=f :: ee g y x/\gh g (x - 1) y=true
theorem InRun.start {g:ac}{y x:Int}(hx:x<40)(h1:gh g x y=true)(h0:gh g (x - 1) y=false):InRun g y x (x+1) :=
 ⟨kG oM (by rw [h1,h0];simp),by rw [show x+1 - 1=x by omega];exact h1⟩
theorem InRun.go {g:ac}{y f x:Int}(h:InRun g y f x)(h1:gh g x y=true):InRun g y f (x+1) :=
 ⟨by rw [h.1,kH (by rw [h1,h.2])],by rw [show x+1 - 1=x by omega];exact h1⟩
theorem InRun.stop {g:ac}{y e f x:Int}{out:List Q4}(hr:Rest g y e f out)(h:InRun g y f x)(hx:x<=40)(h1:gh g x y=false):Rest g y e (x+1) (out++[⟨f,y,x,e⟩]):=by rw [Rest,h.1,kG hx (by rw [h1,h.2];simp),dl,mX] at hr;rw [Rest,hr];simp [rD]
theorem ue:(prog.info? 267).map (·.size)=some 80:=by kernel_rfl
theorem Fe:prog.eqGuardType prog.depth 267=false:=by kernel_rfl
theorem Ff:prog.cellsOf 4=1:=by kernel_rfl
theorem LW:∃ i,prog.info? 4=some i:=Option.isSome_iff_exists.1 kR
theorem uf {w:World}{b o:Nat}{cs:List Value}(h:w.rangeAt b o cs)(p:Later w)(hb:b<w.heap.size):p.val.rangeAt b o cs:=λ j v hj=>(p.ok.cells b (o+j) hb).trans (h j v hj)
def bH (l:List Q4) (w:World) (e:Ending) (w':World):Prop:=∃ q c,e=.returned (sl q l.length c)/\w'.ownsRow w 139 4 (sl q l.length c) l.length (l.flatMap aj)/\Ext w w'
def xu (B:Nat) (g:ac) (w:World) (v i:Value) (wr:World):Prop:=∃ (y:Nat) (out:List Q4) (q:OA) (c:Nat),y<=80/\v=sl q out.length c/\i=.int .i64 y/\ah g=out++ez g ((y:Int) - 40)/\wr.ownsRow w 139 4 (sl q out.length c) out.length (out.flatMap aj)/\Blk wr B (ag g) 269/\Ext w wr
def LX (B:Nat) (g:ac) (w:World) (y e:Nat) (v i:Value) (wr:World):Prop:=∃ (x:Nat) (out:List Q4) (q:OA) (c:Nat),x<=81/\v=sl q out.length c/\i=.int .i64 x/\Hid (Rest g ((y:Int) - 40) ((e:Int) - 40) ((x:Int) - 40) out)/\Hid (gh g ((x:Int) - 40 - 1) ((y:Int) - 40)=false) /\
 wr.ownsRow w 139 4 (sl q out.length c) out.length (out.flatMap aj)/\Blk wr B (ag g) 269/\Ext w wr
theorem mD (B:Nat)(g:ac)(w:World)(hb:Blk w B (ag g) 269) :
 Calls prog 189 #[.pointer (so B 0)] w (bH (ah g) w):=by
 obtain⟨i0,hi,hz0,hz1,hz2⟩:=aM ry;obtain⟨ib,hib⟩:=LW;have ho0:(w.alloc (.cells #[] 139)).ownsRow w 139 4 (sm w 0 0 0) 0 []:=sT
 have hA0:=aa (show xu B g w (sm w 0 0 0) ((0:Nat):Int) (w.alloc (.cells #[] 139)) from ⟨0,[],_,_,oM,rfl,rfl,rfl,ho0,hb.alloc _,(ab _).alloc _⟩);clear ho0;have hbw:=aa hb;clear hb;go_enter func189,ntmps189;go_wp2;go_loopw [3,4] (xu B g w) (λ _ i _=>80 - (intOf i).toNat)
 case atStart=>exact hA0.out
 case round =>
  clear hA0;obtain⟨y,out,q,c,hy,rfl,rfl,hC,ho,hbr,hE⟩:=hrel;replace hC:=aa hC;replace ho:=aa ho;have hBl:=hbr.lt;replace hbr:=aa hbr;by_cases hy8:y<80
  . have hyI:(y:Int)<80:=oM;go_wp2;go_loopw [5] (λ i wr=>∃ e:Nat,y+1<=e/\e<=80/\i=.int .i64 e/\Hid (cN g ((y:Int) - 40) ((y:Int) - 40+1)=cN g ((y:Int) - 40) ((e:Int) - 40))/\wr.ownsRow w 139 4 (sl q out.length c) out.length (out.flatMap aj)/\Blk wr B (ag g) 269/\Ext w wr) (λ i _=>80 - (intOf i).toNat)
    case atStart=>exact⟨y+1,oM,oM,gN,by show _=_;rw [show (((y+1:Nat):Int) - 40)=(y:Int) - 40+1 by omega],ho.out,hbr.out,hE⟩
    case round =>
     clear hbr ho hE;obtain⟨e,he0,he1,rfl,hR,ho,hbr,hE⟩:=hrel;replace ho:=aa ho;have hBl:=hbr.lt;by_cases hes:e<80/\oB 80 (jF g e) (jF g y)=true
     . obtain⟨he8,hs⟩:=hes;have heI:(e:Int)<80:=oM;have hR2:Hid (cN g ((y:Int) - 40) ((y:Int) - 40+1)=cN g ((y:Int) - 40) (((e+1:Nat):Int) - 40)):=by show _=_;rw [hR.out,rk oM ((Fd hy8 he8).1 hs),show (((e+1:Nat):Int) - 40)=(e:Int) - 40+1 by omega]
       have r1:=ud hbr he8;have r2:=ud hbr hy8;replace hbr:=aa hbr;go_wp2;refine aQ kR kR ?_;repeat (go_big_quiet_step (fail))
       go_big_quiet_want;refine uc _ _ rfl B (e*80) rfl (gO 80 (jF g e)) _ (λ W hW=>by obtain⟨p,rfl⟩:=hW;exact uf r1 p hBl) underlying267 rfl (by rw [rC];exact ue) ?_;go_simp;go_big_quiet_on;repeat (go_big_quiet_step (fail))
       go_big_quiet_want;refine uc _ _ rfl B (y*80) rfl (gO 80 (jF g y)) _ (λ W hW=>by obtain⟨p,rfl⟩:=hW;exact uf r2 p hBl) underlying267 rfl (by rw [rC];exact ue) ?_;go_simp;go_big_quiet_on;go_big_quiet_want;refine Fc _ _ _ _ rfl _ _ rfl rfl underlying267 hib underlying4 Ff Fe ?_;rw [hs];go_simp;go_big_quiet_on;repeat (go_big_quiet_step (fail))
       refine bW ?_;rintro w2 ⟨⟨_,E2⟩,rfl⟩;clear r1 r2 hs;have ho2:=aa (aG ho.out E2);have hb2:=aa (hbr.ext E2);have hE2:=aa (hE.trans E2);clear ho hbr hE E2;go_wp2;go_roundw
       case rel=>exact⟨e+1,oM,oM,gN,hR2,ho2.out,hb2.out,hE2.out⟩
       case measure=>exact mS
     . have hEnd:Hid (cN g ((y:Int) - 40) ((y:Int) - 40+1)=(e:Int) - 40):=by
        show _=_;rw [hR.out];apply kF;by_cases he8:e<80
        . right;intro h;exact hes ⟨he8,(Fd hy8 he8).2 h⟩
        . left;omega
       replace hes:=aa hes;clear hR;by_cases he8:e<80
       case' pos =>
        have heI:(e:Int)<80:=oM;have hs:Hid (oB 80 (jF g e) (jF g y)=false):=by show _=_;rw [<-gV];exact λ h=>hes.out ⟨he8,h⟩
        have r1:=ud hbr he8;have r2:=ud hbr hy8;replace hbr:=aa hbr;clear hes;go_wp2;refine aQ kR kR ?_;repeat (go_big_quiet_step (fail))
        go_big_quiet_want;refine uc _ _ rfl B (e*80) rfl (gO 80 (jF g e)) _ (λ W hW=>by obtain⟨p,rfl⟩:=hW;exact uf r1 p hBl) underlying267 rfl (by rw [rC];exact ue) ?_;go_simp;go_big_quiet_on;repeat (go_big_quiet_step (fail))
        go_big_quiet_want;refine uc _ _ rfl B (y*80) rfl (gO 80 (jF g y)) _ (λ W hW=>by obtain⟨p,rfl⟩:=hW;exact uf r2 p hBl) underlying267 rfl (by rw [rC];exact ue) ?_;go_simp;go_big_quiet_on;go_big_quiet_want;refine Fc _ _ _ _ rfl _ _ rfl rfl underlying267 hib underlying4 Ff Fe ?_;rw [hs.out];go_simp;go_big_quiet_on;repeat (go_big_quiet_step (fail))
        refine bW ?_;rintro w2 ⟨⟨_,E2⟩,rfl⟩;clear r1 r2 hs heI;have ho2:=aa (aG ho.out E2);have hb2:=aa (hbr.ext E2);have hE2:=aa (hE.trans E2);clear ho hbr hE E2 hBl he8;go_wp2
       case' neg =>
        have heI:¬ (e:Int)<80:=oM;have hd:decide ((e:Int)<80)=false:=by simpa using heI
        replace hbr:=aa hbr;clear hes;go_wp2;refine aQ kR kR ?_;repeat (go_big_quiet_step (fail))
        refine bW ?_;rintro w2 ⟨⟨_,E2⟩,rfl⟩;have ho2:=aa (aG ho.out E2);have hb2:=aa (hbr.ext E2);have hE2:=aa (hE.trans E2);clear ho hbr hE E2 hBl he8 heI hd;go_wp2
       all_goals
        have hRest0:Hid (Rest g ((y:Int) - 40) ((e:Int) - 40) (((0:Nat):Int) - 40) out):=Rest.start hC.out oM hEnd.out;have hgh0:Hid (gh g (((0:Nat):Int) - 40 - 1) ((y:Int) - 40)=false):=wF oM;replace hb2:=hb2.out;clear hEnd hC;go_loopw [3,6] (LX B g w y e) (λ _ i _=>81 - (intOf i).toNat)
        case atStart=>exact⟨0,out,q,c,oM,rfl,rfl,hRest0,hgh0,ho2.out,hb2,hE2.out⟩
        case round =>
         clear ho2 hb2 hE2;obtain⟨x,out,q,c,hx,rfl,rfl,hRest,hgh,ho,hb,hE⟩:=hrel;have hBl:=hb.lt;have hlen:out.length<=3200:=by have:=hRest.out;have h2:=fC g;rw [Rest] at this;rw [this] at h2;simp at h2;omega
         by_cases hx8:x<80
         . have hxI:(x:Int)<80:=oM;have z0:=hb.cells (y*80+x);rw [dv _ oM] at z0
           cases hc:g (y*80+x) with
           | false =>
             rw [hc] at z0;have hg1:gh g ((x:Int) - 40) ((y:Int) - 40)=false:=by rw [mC hx8 hy8,hc]
             have hRest1:Hid (Rest g ((y:Int) - 40) ((e:Int) - 40) (((x+1:Nat):Int) - 40) out):=by show Rest _ _ _ _ _;rw [show (((x+1:Nat):Int) - 40)=(x:Int) - 40+1 by omega];exact hRest.skip hg1 hgh.out
             have hgh1:Hid (gh g (((x+1:Nat):Int) - 40 - 1) ((y:Int) - 40)=false):=by show _=_;rw [show (((x+1:Nat):Int) - 40 - 1)=(x:Int) - 40 by omega];exact hg1
             clear hc hg1;replace ho:=aa ho;replace hb:=aa hb;go_wp2;go_roundw
             case rel=>exact⟨x+1,out,q,c,oM,rfl,gN,hRest1,hgh1,ho.out,hb.out,hE⟩
             case measure=>exact mS
           | true =>
             rw [hc] at z0;have hg1:Hid (gh g ((x:Int) - 40) ((y:Int) - 40)=true):=by show _=_;rw [mC hx8 hy8,hc]
             clear hc;replace ho:=aa ho;replace hb:=aa hb;go_wp2;go_loop [6] (λ i=>∃ s:Nat,x<=s/\s<=80/\i=.int .i64 s/\Hid (x<s->InRun g ((y:Int) - 40) ((x:Int) - 40) ((s:Int) - 40))) (λ i=>81 - (intOf i).toNat)
             case atStart=>exact⟨x,oM,oM,rfl,λ h=>by omega⟩
             case round =>
              obtain⟨s,hs0,hs1,rfl,hI⟩:=hrel;by_cases hsc:s<80/\g (y*80+s)=true
              . obtain⟨hs8,hc⟩:=hsc;have hsI:(s:Int)<80:=oM;have z1:=hb.cells (y*80+s);rw [dv _ oM,hc] at z1;have hg2:gh g ((s:Int) - 40) ((y:Int) - 40)=true:=by rw [mC hs8 hy8,hc]
                have hI1:Hid (x<s+1->InRun g ((y:Int) - 40) ((x:Int) - 40) (((s+1:Nat):Int) - 40)):=by
                 intro _;rw [show (((s+1:Nat):Int) - 40)=(s:Int) - 40+1 by omega];by_cases hsx:x<s
                 . exact (hI.out hsx).go hg2
                 . have:s=x:=oM;subst this;exact InRun.start oM hg2 hgh.out
                clear hc hg2 z0;go_wp2;go_round
                case rel=>exact⟨s+1,oM,oM,gN,hI1⟩
                case measure=>exact mS
              . have hxs:x<s:=by
                 rcases kX x s with h | h
                 . exact h
                 . exfalso;have:s=x:=oM;subst this;have:=hg1.out;rw [mC hx8 hy8] at this;exact hsc ⟨hx8,this⟩
                have hg2:gh g ((s:Int) - 40) ((y:Int) - 40)=false:=by
                 by_cases hs8:s<80
                 . rw [mC hs8 hy8];rw [<-gV];exact λ h=>hsc ⟨hs8,h⟩
                 . exact pO oM
                have hRest1:Hid (Rest g ((y:Int) - 40) ((e:Int) - 40) (((s+1:Nat):Int) - 40) (out++[⟨(x:Int) - 40,(y:Int) - 40,(s:Int) - 40,(e:Int) - 40⟩])):=by show Rest _ _ _ _ _;rw [show (((s+1:Nat):Int) - 40)=(s:Int) - 40+1 by omega];exact (hI.out hxs).stop hRest.out oM hg2
                have hgh1:Hid (gh g (((s+1:Nat):Int) - 40 - 1) ((y:Int) - 40)=false):=by show _=_;rw [show (((s+1:Nat):Int) - 40 - 1)=(s:Int) - 40 by omega];exact hg2
                clear hg2 hRest hgh hI hg1 z0;have hNl:=hE.le;by_cases hs8:s<80
                case' pos =>
                 have hsI:(s:Int)<80:=oM;have hc:g (y*80+s)=false:=by rw [<-gV];exact λ h=>hsc ⟨hs8,h⟩
                 have z1:=hb.cells (y*80+s);rw [dv _ oM,hc] at z1;clear hc
                case' neg => have hsI:¬ (s:Int)<80:=oM
                all_goals
                 replace hsc:=aa hsc;go_wp2_with (at_builtin;refine qG _ rfl _ _ 77 rfl w 139 i0 (.agg #[(0:Int),(0:Int),(0:Int),(0:Int)]) 4 32 underlying77 hi hz0 hz1 hz2 rfl oM _ _ _ rfl (ho.alloc _) ⟨_,0,none⟩ 1 1 [.int .i64 ((x:Int) - 40),.int .i64 ((y:Int) - 40),.int .i64 ((s:Int) - 40),.int .i64 ((e:Int) - 40)] rfl rfl (dg _ [_,_,_,_] _) (iq _ _ _ _) (by unfold maxLen;omega) oM (by simp;omega) ?_;intro v' w1 ho' hg' _;obtain⟨qa,ca,rfl⟩:=cq ho';have hE1:=aa ((hE.alloc _).grown hg' (λ k hk=>(ho.lt k hk).1));replace ho':=aa ho';clear hg');go_roundw
                 case rel=>exact⟨s+1,out++[⟨(x:Int) - 40,(y:Int) - 40,(s:Int) - 40,(e:Int) - 40⟩],qa,ca,oM,by rw [aI];rfl,gN,hRest1,hgh1,by rw [aI,dj];exact ho'.out,hbw.ext hE1.out,hE1.out⟩
                 case measure=>exact mS
         . have hxI:¬ (x:Int)<80:=oM;have hC:ah g=out++ez g ((e:Int) - 40):=Rest.done hRest.out oM hgh.out;have hA:=aa (show xu B g w (sl q out.length c) e wr from ⟨e,out,q,c,oM,rfl,rfl,hC,ho,hb,hE⟩);clear hRest hgh hC ho hb hE;go_wp2;go_roundw
           case rel=>exact hA.out
           case measure=>exact mS
  . have hyI:¬ (y:Int)<80:=oM;have hCl:Hid (out=ah g):=by show _=_;rw [hC.out,iL oM,fP]
    clear hC;go_wp2;go_ret;rw [<-hCl.out];exact⟨q,c,rfl,ho.out,hE⟩
theorem rF {w w':World}{row:Option Nat}(hg:w.grownBy w' row){b:Nat}(hb:b<w.heap.size)(hne:row≠some b)(o:Nat):w'.cell? (ad b o)=w.cell? (ad b o):=kY (w:=w) (a:=(ad b o)) (hg.block b hb (λ h=>hne h.symm))
theorem LY (w:World)(cs:List Value)(t:TypeId):∀ j u,cs[j]?=some u->(w.alloc (.cells cs.toArray t)).drew.cell? (((ad w 0):Addr).add j)=some u:=dg w cs t
theorem LZ {l:List Int}{k:Nat}(h:k*2+1<l.length):∃ a b,l[k*2]?=some a/\l[k*2+1]?=some b/\(dl l)[k]?=some (a,b) :=
 ⟨l[k*2]'oM,l[k*2+1]'h,bK _,bK _,Ea l k (bK _) (bK _)⟩
theorem SlT.grown {α:Type}{enc:α->List Value}{sz n:Nat}{p:OA}{l:List α}{w w':World}{row:Option Nat}(h:SlT enc sz w p n l)(hg:w.grownBy w' row)(hne:∀ a,p=some a->row≠some a.block):SlT enc sz w' p n l:=by
 obtain⟨h1,h2⟩:=h;refine⟨h1,?_⟩;rcases h2 with h2 | ⟨b,off,hp,hb,hc⟩
 . exact ay h2
 . exact aB ⟨b,off,hp,aF hb hg.size,λ k y hy i v hv=>(rF hg hb (hne _ hp) _).trans (hc k y hy i v hv)⟩
theorem kK (B c:Nat)(g:ac)(w:World)(h:Bits w B g) :
 Calls prog 160 #[sm B 0 6400 c] w (bH (ah g) w):=by
 obtain⟨i0,hi,hz0,hz1,hz2⟩:=aM ry;have ho0:(w.alloc (.cells #[] 139)).ownsRow w 139 4 (sm w 0 0 0) 0 []:=sT
 have hb:=aa h;clear h;go_enter func160,ntmps160;go_wp2;go_loopw [3,4] (λ v i wr=>∃ (y:Int) (out:List Q4) (q:OA) (c:Nat),-40<=y/\y<=40/\v=sl q out.length c/\i=.int .i64 y/\Hid (ah g=out++ez g y)/\wr.ownsRow w 139 4 (sl q out.length c) out.length (out.flatMap aj)/\Ext w wr) (λ _ i _=>(40 - intOf i).toNat)
 case atStart=>exact⟨-40,[],_,_,oM,oM,rfl,rfl,rfl,ho0,(ab _).alloc _⟩
 case round =>
  clear ho0;obtain⟨y,out,q,c',hy0,hy1,rfl,rfl,hC,ho,hE⟩:=hrel;by_cases hy:y<40
  . have hlen:=fC g;rw [hC.out,aI,lC hy,aI] at hlen;go_wp2_with fail;refine (xt B _ g y _ (hb.ext hE)).mono ?_;rintro e w5 ⟨qr,cr,rfl,oR,E5⟩;obtain⟨R,hRr⟩:∃ R,R=runs g y:=⟨_,rfl⟩;have hRl:R.length<=81:=by rw [hRr];exact ub g y
    rw [<-hRr] at oR ⊢;have hne:Hid (∀ a,qr=some a->Value.ownBlock (sl q out.length c')≠some a.block):=λ a ha hh=>by have h1:=(ho.lt _ hh).2;have h2:=(oR.lt a.block (by rw [ha];rfl)).1;omega
    have sR:=aa (bm (l:=R) nV rfl oR);have ho5:=aa (aG ho E5);have hE5:=aa (hE.trans E5);clear ho hE E5 oR;replace hRr:=aa hRr;go_wp2_with fail;go_loopw [6] (λ i wr=>∃ e:Int,y+1<=e/\e<=40/\i=.int .i64 e/\Hid (cN g y (y+1)=cN g y e)/\Ext w5 wr) (λ i _=>(40 - intOf i).toNat)
    case atStart=>exact⟨y+1,oM,oM,rfl,rfl,ab _⟩
    case round =>
     obtain⟨e,he0,he1,rfl,hR,hE6⟩:=hrel;by_cases hes:e<40/\runs g e=runs g y
     . obtain⟨he,hs⟩:=hes;have hR2:Hid (cN g y (y+1)=cN g y (e+1)):=by show _=_;rw [hR.out,rk he hs]
       have hdec:decide (runs g e=R)=true:=bl (by rw [hRr.out];exact hs);replace hs:=aa hs;clear hR;go_wp2_with fail;refine (xt B _ g e _ (hb.ext (hE5.trans hE6))).mono ?_;rintro e2 w7 ⟨q7,c7,rfl,o7,E7⟩;have s7:=bm (l:=runs g e) nV rfl o7;have hl7:=ub g e;clear o7;go_wp2_with fail;refine (EY q7 qr _ _ c7 cr (runs g e) R _ s7 ((sR.ext hE6).ext E7) oM oM).mono ?_;rw [hdec];rintro e3 w8 ⟨rfl,E8⟩;have hE8:=aa ((hE6.trans E7).trans E8);clear hdec s7 hl7 E7 E8 hE6;go_wp2_with fail;go_roundw
       case rel=>exact⟨e+1,oM,oM,rfl,hR2,hE8.out⟩
       case measure=>exact mS
     . have hEnd:Hid (cN g y (y+1)=e):=by
        show _=_;rw [hR.out];apply kF;by_cases he8:e<40
        . right;intro h;exact hes ⟨he8,h⟩
        . left;omega
       replace hes:=aa hes;clear hR;by_cases he:e<40
       case' pos => have hdec:decide (runs g e=R)=false:=bU (λ h=>hes.out ⟨he,by rw [h,hRr.out]⟩);clear hes;go_wp2_with fail;refine (xt B _ g e _ (hb.ext (hE5.trans hE6))).mono ?_;rintro e2 w7 ⟨q7,c7,rfl,o7,E7⟩;have s7:=bm (l:=runs g e) nV rfl o7;have hl7:=ub g e;clear o7;go_wp2_with fail;refine (EY q7 qr _ _ c7 cr (runs g e) R _ s7 ((sR.ext hE6).ext E7) oM oM).mono ?_;rw [hdec];rintro e3 w8 ⟨rfl,E8⟩;have hE8:=aa ((hE6.trans E7).trans E8);clear hdec s7 hl7 E7 E8 hE6 he;go_wp2_with fail
       case' neg => have hE8:=aa hE6;clear hes hE6;go_wp2_with fail;clear he
       all_goals
        replace hE8:=hE8.out;have hEw:=aa (hE5.trans hE8);have hoA:=aa (aG ho5.out hE8);have sR8:=aa (sR.ext hE8);go_loopw [3,7] (λ v i wr=>∃ (m:Nat) (o2:List Q4) (q2:OA) (c2:Nat),(m<=R.length/\m % 2=0)/\v=sl q2 o2.length c2/\i=.int .i64 m/\Hid (o2=out++((dl R).take (m / 2)).map (rD y e))/\wr.ownsRow w 139 4 (sl q2 o2.length c2) o2.length (o2.flatMap aj)/\Hid (∀ a,qr=some a->Value.ownBlock (sl q2 o2.length c2)≠some a.block)/\SlT bi 1 wr qr R.length R/\Ext w wr) (λ _ i _=>100 - (intOf i).toNat)
        case atStart=>exact⟨0,out,q,c',⟨oM,rfl⟩,rfl,rfl,(by show _=_;simp),hoA.out,hne,sR8.out,hEw.out⟩
        case round =>
         clear hE8 hEw hoA sR8 hne ho5 hE5 sR;obtain⟨m,o2,q2,c2,⟨hm,hm2⟩,rfl,rfl,hO,ho,hne,sR,hE⟩:=hrel;have hpl:=D9 R;have hoL:o2.length<=3200:=by rw [hO.out,aI,dD,fI];rw [gg,<-hRr.out,dD] at hlen;omega
         by_cases hmR:m+1<R.length
         . have hmI:(m:Int)+1<(R.length:Int):=oM;have hmI0:(m:Int)<(R.length:Int):=oM;obtain⟨x0,x1,hx0,hx1,hxp⟩:=LZ (l:=R) (k:=m / 2) oM;rw [show m / 2*2=m by omega] at hx0 hx1;obtain⟨br,or,y0,rfl,hbr,hy0',d0⟩:=sR.int (k:=m) oM;obtain⟨br',or',y1,hp',hbr',hy1',d1⟩:=sR.int (k:=m+1) hmR
           cases hp'
           obtain rfl:y0=x0:=cJ (hy0'.symm.trans hx0);obtain rfl:y1=x1:=cJ (hy1'.symm.trans hx1);have hO2:Hid (o2++[⟨y0,y,y1,e⟩]=out++((dl R).take ((m+2) / 2)).map (rD y e)):=by show _=_;rw [hO.out,show (m+2) / 2=m / 2+1 by omega,ch hxp,dT];simp [rD]
           have A0:=((ab wr).alloc (.cells #[.int .i64 y0,.int .i64 y,.int .i64 y1,.int .i64 e] 139)).drew;have q0:=(A0.cells _ (or+m) hbr).trans d0;have q1:=(A0.cells _ (or+(m+1)) hbr).trans d1;have nb1:=aa (aF hbr A0.le);have ne1:=aa (hne.out _ rfl);have hbase:w.heap.size<=(wr.alloc (.cells #[.int .i64 y0,.int .i64 y,.int .i64 y1,.int .i64 e] 139)).heap.size:=(hE.alloc _).le;have hwm:IntKind.i64.wrap ((m:Int)+1)=(m:Int)+1:=jS _ oM;have hwt:((m:Int)+1).toNat=m+1:=oM;have hw0:(0:Int)<=(m:Int)+1:=oM;replace hx0:=aa hx0;replace hx1:=aa hx1;replace hxp:=aa hxp;clear hx0 hx1 hxp hO A0;replace sR:=aa sR;go_wp2_with fail;go_region_held3 (λ w'=>w'.cell? (ad br (or+m))=si y0/\w'.cell? (ad br (or+(m+1)))=si y1) (first | exact⟨d0,d1⟩ | exact⟨q0,q1⟩ | exact⟨(rF hgA nb1.out ne1.out _).trans q0,(rF hgA nb1.out ne1.out _).trans q1⟩) ((refine mV _ rfl _ _ 77 rfl w 139 i0 _ 4 32 underlying77 hi hz0 hz1 hz2 rfl oM _ _ _ rfl (ho.alloc _).drew (ad wr 0) 1 1 [.int .i64 y0,.int .i64 y,.int .i64 y1,.int .i64 e] rfl rfl (LY _ _ _) (iq _ _ _ _) oM (cx oM oM) oM hbase _ rfl ?_;intro gL cL wA hoA hgA hbA hlA));have hE2:=aa ((hE.alloc (.cells #[.int .i64 y0,.int .i64 y,.int .i64 y1,.int .i64 e] 139)).drew.grown hgA (λ b hb=>(ho.lt b hb).1));have hs2:=aa (((sR.ext ((ab wr).alloc (.cells #[.int .i64 y0,.int .i64 y,.int .i64 y1,.int .i64 e] 139)).drew)).grown hgA hne.out)
           have hne2:Hid (∀ a,some ((ad br or):Addr)=some a->Value.ownBlock (sm gL 0 (o2.length+1) cL)≠some a.block):=by
            intro a ha hh
            cases ha
            simp only [Value.ownBlock] at hh
            cases hh
            rcases hbA with h1 | h1
            . exact ne1.out h1
            . have:=((ab wr).alloc (.cells #[.int .i64 y0,.int .i64 y,.int .i64 y1,.int .i64 e] 139)).le;simp at h1;omega
           replace hoA:=aa hoA;clear hgA hbA hlA q0 q1 d0 d1 hwm hwt hw0;go_wp2_with fail;go_roundw
           case rel=>exact⟨m+2,o2++[⟨y0,y,y1,e⟩],_,cL,⟨oM,oM⟩,by rw [aI];rfl,gN,hO2,by rw [aI,dj];exact hoA.out,by rw [aI];exact hne2.out,hs2.out,hE2.out⟩
           case measure=>exact mS
         . have hmI:¬ (m:Int)+1<(R.length:Int):=oM;have hC2:Hid (ah g=o2++ez g e):=by show _=_;rw [hC.out,lC hy,gg,hEnd.out,hO.out,eE oM,hRr.out,fc];rfl
           clear hC hEnd hO hRr hlen;replace sR:=aa sR;replace ho:=aa ho;go_wp2_with fail;go_roundw
           case rel=>exact⟨e,o2,q2,c2,oM,oM,rfl,rfl,hC2,ho.out,hE⟩
           case measure=>exact mS
  . have hCl:Hid (out=ah g):=by show _=_;rw [hC.out,iL oM,fP]
    clear hC;go_wp2_with fail;go_ret;rw [<-hCl.out];exact⟨q,c',rfl,ho,hE⟩
end Go.Proofs.YtnlajnpcdnnpmaaGreat
