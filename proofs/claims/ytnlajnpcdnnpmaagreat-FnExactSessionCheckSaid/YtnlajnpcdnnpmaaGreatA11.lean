/- Part of a proof. No condition. -/
import Derived.Test.YtnlajnpcdnnpmaaGreatA8
import Derived.Test.YtnlajnpcdnnpmaaGreatA10
namespace Go.Proofs.YtnlajnpcdnnpmaaGreat
set_option linter.all false
set_option maxRecDepth 100000
set_option maxHeartbeats 16000000
open Go.RowKit
def ow (p:Q2):Q2:=⟨-p.b,p.a⟩
def mq:Nat->Q2->Q2
 | 0,p=>p
 | n+1,p=>mq n (ow p)
def eK (o:Int) (p:Q2):Q2:=if 4<=o then ⟨p.a,-p.b⟩ else p
def gJ (o:Int) (p:Q2):Q2:=mq (o % 4).toNat (eK o p)
def db (t:Q3) (p:Q2):Q2:=⟨(gJ t.a p).a+t.b,(gJ t.a p).b+t.c⟩
def oy (a b:Q2):Q4:=⟨min a.a b.a,min a.b b.b,max a.a b.a,max a.b b.b⟩
def cG (t:Q3) (r:Q4):Q4:=oy (db t ⟨r.a,r.b⟩) (db t ⟨r.c,r.d⟩)
def Nr2 (k:Int) (p:Q2):Prop:=(-k<=p.a/\p.a<=k)/\(-k<=p.b/\p.b<=k)
theorem Nr2.mono {k k':Int}{p:Q2}(h:Nr2 k p)(hk:k<=k'):Nr2 k' p:=by unfold Nr2 at *;omega
theorem wG {k:Int}{p:Q2}(h:Nr2 k p):Nr2 k (ow p):=by unfold Nr2 ow at *;simp only;omega
theorem Eh {k:Int} : ∀ (n:Nat) (p:Q2),Nr2 k p->Nr2 k (mq n p)
 | 0,_,h=>h
 | n+1,p,h=>Eh n (ow p) (wG h)
theorem tP {k o:Int}{p:Q2}(h:Nr2 k p):Nr2 k (eK o p):=by
 unfold eK
 split
 . unfold Nr2 at *;simp only;omega
 . exact h
theorem wH {k o:Int}{p:Q2}(h:Nr2 k p):Nr2 k (gJ o p):=Eh _ _ (tP h)
theorem ki {j k:Int}{t:Q3}{p:Q2}(ht:Nr2 j ⟨t.b,t.c⟩)(hp:Nr2 k p):Nr2 (j+k) (db t p):=by
 have h:=wH (o:=t.a) hp;unfold Nr2 db at *
 simp only at *
 omega
theorem tQ {j k:Int}{t:Q3}{r:Q4}(ht:Nr2 j ⟨t.b,t.c⟩)(h1:Nr2 k ⟨r.a,r.b⟩)(h2:Nr2 k ⟨r.c,r.d⟩):Nr2 (j+k) ⟨(cG t r).a,(cG t r).b⟩/\Nr2 (j+k) ⟨(cG t r).c,(cG t r).d⟩:=by
 have e1:=ki ht h1;have e2:=ki ht h2;unfold cG oy;generalize db t ⟨r.a,r.b⟩=a at *
 generalize db t ⟨r.c,r.d⟩=b at *
 unfold Nr2 at *
 simp only at *
 omega
def lE (a b:Int):Int:=(if 4<=b then b % 4+4 - a % 4 else b % 4+a % 4) % 4+(if (4<=a/\4<=b)\/(a<4/\b<4) then 0 else 4)
theorem Ei (a b:Int):0<=lE a b/\lE a b<=7:=by
 unfold lE
 split <;> split <;> omega
theorem Lu {a b:Int}(ha:0<=a/\a<=7)(hb:0<=b/\b<=7):(b % 4+(if 4<=b then -(a % 4) else a % 4)+4) % 4+4*(if 4<=b then 1 - a / 4 else a / 4)=lE a b:=by
 unfold lE;by_cases h:4<=b
 . rw [aw h,aw h,aw h];split <;> omega
 . rw [ar h,ar h,ar h];split <;> omega
def il (t u:Q3):Q3:=⟨lE t.a u.a,(db u ⟨t.b,t.c⟩).a,(db u ⟨t.b,t.c⟩).b⟩
def bQ (i:InD) (r c:Nat):Q4:=⟨i.a,i.tr.a,i.tr.b+(c:Int)*i.e,i.tr.c+(r:Int)*i.f⟩
def gK (i:InD) (r:Nat):List Q4:=(List.range i.c.toNat).map (bQ i r)
def gi (i:InD):List Q4:=(List.range i.d.toNat).flatMap (gK i)
def aK (ins:List InD):List Q4:=ins.flatMap gi
def q3 (o:Q4):Q3:=⟨o.b,o.c,o.d⟩
def gM (e o:Q4):Q4:=⟨e.a,(il (q3 e) (q3 o)).a,(il (q3 e) (q3 o)).b,(il (q3 e) (q3 o)).c⟩
def dQ (cells:List CeD) (k:Int):List InD:=match cells[k.toNat]? with | some c=>c.ins | none=>[]
def jf (cells:List CeD):Nat->Q4->List Q4
 | 0,_=>[]
 | f+1,o=>o :: (aK (dQ cells o.a)).flatMap λ e=>jf cells f (gM e o)
def ct (cells:List CeD) (o:Q4):List Q4:=jf cells (o.a.toNat+1) o
def dF (k:Nat) (i:InD):Prop:=(0<=i.a/\i.a<k)/\((0<=i.tr.a/\i.tr.a<=7)/\(-80<=i.tr.b/\i.tr.b<=80)/\(-80<=i.tr.c/\i.tr.c<=80))/\(1<=i.c/\i.c<=4)/\(1<=i.d/\i.d<=4)/\(-80<=i.e/\i.e<=80)/\(-80<=i.f/\i.f<=80)
structure LibV (cells:List CeD):Prop where
 len:1<=cells.length/\cells.length<=8
 insLen:∀ (k:Nat) (c:CeD),cells[k]?=some c->c.ins.length<=8
 shsLen:∀ (k:Nat) (c:CeD),cells[k]?=some c->c.shs.length<=24
 shs:∀ (k:Nat) (c:CeD),cells[k]?=some c->∀ s∈c.shs,(0<=s.a/\s.a<=7)/\vR s.box=true
 ins:∀ (k:Nat) (c:CeD),cells[k]?=some c->∀ i∈c.ins,dF k i
theorem LibV.of {cells:List CeD}(h:dq cells=true):LibV cells:=by
 unfold dq at h;rw [cm,cm,dS,dS,aL79] at h;obtain⟨h1,h2,h3⟩:=h;have hc:∀ (k:Nat) (c:CeD),cells[k]?=some c->cF c k=true:=λ k c hk=>by have:=h3 k (aL70.2 (aL31.1 hk).1);unfold iI at this;rw [hk,cm] at this;exact this.1
 refine⟨⟨h1,h2⟩,λ k c hk=>?_,λ k c hk=>?_,λ k c hk s hs=>?_,λ k c hk i hi=>?_⟩
 all_goals
  have h4:=hc k c hk;unfold cF at h4;simp only [cm,dS,aL79] at h4;obtain⟨_,h5,_,h6,h7,_,h8⟩:=h4
 . exact h6
 . exact h5
 . have:=h7 s hs;unfold eR at this;rw [cm,wit_iff,tF] at this;rw [vR_iff];exact this
 . have:=h8 i hi;unfold de f8 at this;simp only [cm,wit_iff,nM,dS] at this;unfold dF;omega
theorem tR {cells:List CeD}(hV:LibV cells){k:Int}{i:InD}(h:i∈dQ cells k):dF k.toNat i:=by
 unfold dQ at h
 cases hc:cells[k.toNat]? with
 | none=>rw [hc] at h;cases h
 | some c=>rw [hc] at h;exact hV.ins _ _ hc i h
theorem wI (i:InD)(r:Nat):(gK i r).length=i.c.toNat:=by simp [gK]
theorem tS (i:InD):(gi i).length=i.d.toNat*i.c.toNat:=by
 unfold gi;rw [List.length_flatMap];simp only [wI]
 induction i.d.toNat with
 | zero=>simp
 | succ n ih=>rw [la,dT,qJ,ih,me];simp
theorem Ej {ins:List InD}{e:Q4}(h:e∈aK ins):∃ i∈ins,∃ r c:Nat,(r:Int)<i.d/\(c:Int)<i.c/\e=bQ i r c:=by unfold aK gi gK at h;rw [aL80] at h;obtain⟨i,hi,h⟩:=h;rw [aL80] at h;obtain⟨r,hr,h⟩:=h;rw [aL52] at h;obtain⟨c,hc,rfl⟩:=h;rw [aL70] at hr hc;exact⟨i,hi,r,c,oM,oM,rfl⟩
theorem pP {r:Nat}{e:Int}(hr:r<=3)(he : -80<=e/\e<=80) : -240<=(r:Int)*e/\(r:Int)*e<=240:=by have:r=0\/r=1\/r=2\/r=3:=oM;rcases this with rfl | rfl | rfl | rfl <;> constructor <;> omega
theorem ro {k:Nat}{i:InD}(h:dF k i){r c:Nat}(hr:(r:Int)<i.d)(hc:(c:Int)<i.c):(0<=(bQ i r c).a/\(bQ i r c).a<k)/\(0<=(bQ i r c).b/\(bQ i r c).b<=7)/\Nr2 320 ⟨(bQ i r c).c,(bQ i r c).d⟩:=by unfold dF at h;have h1:=pP (r:=c) (e:=i.e) oM oM;have h2:=pP (r:=r) (e:=i.f) oM oM;unfold bQ Nr2;simp only;omega
theorem rp {cells:List CeD}(hV:LibV cells){k:Int}{e:Q4}(h:e∈aK (dQ cells k)):(0<=e.a/\e.a<(k.toNat:Int))/\(0<=e.b/\e.b<=7)/\Nr2 320 ⟨e.c,e.d⟩:=by obtain⟨i,hi,r,c,hr,hc,rfl⟩:=Ej h;exact ro (tR hV hi) hr hc
theorem Ek {k:Nat}{i:InD}(h:dF k i):(gi i).length<=16:=by
 rw [tS];unfold dF at h
 calc i.d.toNat*i.c.toNat<=4*4:=Nat.mul_le_mul oM oM
  _=16:=rfl
theorem rq {k:Nat} : ∀ (ins:List InD),(∀ i∈ins,dF k i)->(aK ins).length<=16*ins.length
 | [],_=>by simp [aK]
 | i :: ins,h=>by
   have h1:=Ek (h i (by simp));have h2:=rq ins λ j hj=>h j (by simp [hj])
   unfold aK at *
   rw [fX,aI,eO];omega
theorem El {cells:List CeD}(hV:LibV cells)(k:Int):(dQ cells k).length<=8:=by
 unfold dQ
 cases hc:cells[k.toNat]? with
 | none=>simp
 | some c=>exact hV.insLen _ _ hc
theorem wJ {cells:List CeD}(hV:LibV cells)(k:Int):(aK (dQ cells k)).length<=128:=by have h1:=rq (dQ cells k) (λ i hi=>tR hV hi);have h2:=El hV k;omega
theorem wK {α β:Type}{f g:α->List β} : ∀ {l:List α},(∀ x∈l,f x=g x)->l.flatMap f=l.flatMap g
 | [],_=>rfl
 | x :: l,h=>by rw [fX,fX,h x (by simp),wK λ y hy=>h y (by simp [hy])]
theorem Em {cells:List CeD}(hV:LibV cells):∀ (f f':Nat) (o:Q4),o.a.toNat<f->o.a.toNat<f'->jf cells f o=jf cells f' o
 | 0,_,_,h,_=>by omega
 | _+1,0,_,_,h=>by omega
 | f+1,f'+1,o,h,h'=>by
   rw [jf,jf]
   congr 1
   refine wK λ e he=>?_
   have:=(rp hV he).1;exact Em hV f f' _ (show e.a.toNat<f by omega) (show e.a.toNat<f' by omega)
theorem rt {cells:List CeD}(hV:LibV cells)(o:Q4):ct cells o=o :: (aK (dQ cells o.a)).flatMap λ e=>ct cells (gM e o):=by
 rw [ct,jf]
 congr 1
 refine wK λ e he=>?_
 have:=(rp hV he).1;exact Em hV _ _ _ (show e.a.toNat<o.a.toNat by omega) (show e.a.toNat<e.a.toNat+1 by omega)
theorem Eo {α β γ:Type}{f:α->List β}{g:α->List γ} : ∀ {l:List α},(∀ x∈l,(f x).length=(g x).length)->(l.flatMap f).length=(l.flatMap g).length
 | [],_=>rfl
 | x :: l,h=>by rw [fX,fX,aI,aI,h x (by simp),Eo λ y hy=>h y (by simp [hy])]
theorem Ep (cells:List CeD):∀ (f:Nat) (o o':Q4),o.a=o'.a->(jf cells f o).length=(jf cells f o').length
 | 0,_,_,_=>rfl
 | f+1,o,o',h=>by
   rw [jf,jf,eO,eO,h]
   congr 1
   exact Eo λ e _=>Ep cells f _ _ rfl
def cn (cells:List CeD) (k:Int):Int:=((ct cells ⟨k,0,0,0⟩).length:Int)
theorem ru (cells:List CeD)(o:Q4):((ct cells o).length:Int)=cn cells o.a:=by rw [cn,ct,ct,Ep cells _ o ⟨o.a,0,0,0⟩ rfl]
theorem pQ (cells:List CeD)(k:Int):1<=cn cells k:=by rw [cn,ct,jf,eO];omega
def oz (cells:List CeD) (i:InD):Int:=i.c*i.d*cn cells i.a
def fD (cells:List CeD) (ins:List InD):Int:=(ins.map (oz cells)).sum
theorem Eq (cells:List CeD)(i:InD)(ins:List InD):fD cells (i :: ins)=oz cells i+fD cells ins:=by simp [fD]
theorem Er (cells:List CeD){ins:List InD}{k:Nat}{i:InD}(h:ins[k]?=some i):fD cells (ins.take (k+1))=fD cells (ins.take k)+oz cells i:=by rw [ch h,fD,fD,dT,qJ];simp
theorem Es {α β:Type}{f:α->List β}{m:Nat} : ∀ {l:List α},(∀ x∈l,(f x).length=m)->(l.flatMap f).length=l.length*m
 | [],_=>by simp
 | x :: l,h=>by rw [fX,aI,h x (by simp),Es λ y hy=>h y (by simp [hy]),eO,me];omega
theorem Et {cells:List CeD}{k:Nat}(o:Q4):∀ (ins:List InD),(∀ i∈ins,dF k i)->(((aK ins).flatMap λ e=>ct cells (gM e o)).length:Int)=fD cells ins
 | [],_=>by simp [aK,fD]
 | i :: ins,h=>by
   have ih:=Et (cells:=cells) o ins λ j hj=>h j (by simp [hj])
   have hi:=h i (by simp);have h1:∀ e∈gi i,(ct cells (gM e o)).length=(cn cells i.a).toNat:=λ e he=>by obtain⟨i',hi',r,c,_,_,rfl⟩:=Ej (ins:=[i]) (e:=e) (by simpa [aK] using he);rw [aL77] at hi';subst hi';have:=ru cells (gM (bQ i' r c) o);have h2:(gM (bQ i' r c) o).a=i'.a:=rfl;rw [h2] at this;omega
   have h2:=Es h1;rw [tS] at h2;have h0:aK (i :: ins)=gi i++aK ins:=by simp [aK]
   rw [h0,dj,aI,Eq,h2,Int.natCast_add,ih,oz];have hp:=pQ cells i.a;unfold dF at hi;rw [Int.natCast_mul,Int.natCast_mul,ju oM,ju oM,ju oM,Int.mul_comm i.d i.c]
theorem wP {cells:List CeD}(hV:LibV cells)(k:Int):cn cells k=1+fD cells (dQ cells k):=by
 have h:=Et (cells:=cells) (k:=k.toNat) ⟨k,0,0,0⟩ (dQ cells k) λ i hi=>tR hV hi
 have e:dQ cells (⟨k,0,0,0⟩:Q4).a=dQ cells k:=rfl;rw [cn,rt hV,eO,Int.natCast_add,<-h,e];omega
def mr:Nat->Int
 | 0=>1
 | n+1=>129*mr n
theorem Eu:∀ n,1<=mr n
 | 0=>by decide
 | n+1=>by have:=Eu n;rw [mr];omega
theorem wQ {a b c K:Int}(ha:1<=a/\a<=4)(hb:1<=b/\b<=4)(hc:1<=c/\c<=K):(1<=a*b/\a*b<=16)/\(0<=a*b*c/\a*b*c<=16*K):=by have h1:a=1\/a=2\/a=3\/a=4:=oM;have h2:b=1\/b=2\/b=3\/b=4:=oM;rcases h1 with rfl | rfl | rfl | rfl <;> rcases h2 with rfl | rfl | rfl | rfl <;> constructor <;> simp only [Int.reduceMul] <;> omega
theorem wR {cells:List CeD}{k:Nat}{K:Int}(hK:∀ j:Int,0<=j->j<k->cn cells j<=K):∀ (ins:List InD),(∀ i∈ins,dF k i)->0<=fD cells ins/\fD cells ins<=16*K*ins.length
 | [],_=>by simp [fD]
 | i :: ins,h=>by
   have ih:=wR hK ins λ j hj=>h j (by simp [hj])
   have hi:=h i (by simp);unfold dF at hi;have:=(wQ (a:=i.c) (b:=i.d) (c:=cn cells i.a) (K:=K) oM oM ⟨pQ _ _,hK _ oM oM⟩).2;rw [Eq,eO,Int.natCast_add,Int.mul_add,oz];have e:16*K*((1:Nat):Int)=16*K:=by simp
   rw [e];generalize 16*K*(ins.length:Int)=Z at *
   omega
theorem wS {cells:List CeD}(hV:LibV cells):∀ (n:Nat) (k:Int),k.toNat<n->cn cells k<=mr n
 | 0,_,h=>by omega
 | n+1,k,h=>by
   rw [wP hV];have h0:=Eu n;have h1:=(wR (cells:=cells) (k:=k.toNat) (K:=mr n) (λ j hj hj2=>wS hV n j oM) (dQ cells k) λ i hi=>tR hV hi).2;have h2:=El hV k;have h3:16*mr n*((dQ cells k).length:Int)<=16*mr n*8:=Int.mul_le_mul_of_nonneg_left oM oM;rw [mr];generalize 16*mr n*((dQ cells k).length:Int)=Z at *
   omega
def OkO (cells:List CeD) (o:Q4):Prop:=(0<=o.a/\o.a<(cells.length:Int))/\(0<=o.b/\o.b<=7)/\Nr2 (2560 - 320*o.a) ⟨o.c,o.d⟩
theorem wT {cells:List CeD}(hV:LibV cells){o e:Q4}(ho:OkO cells o)(he:e∈aK (dQ cells o.a)):OkO cells (gM e o):=by
 obtain⟨h1,h2,h3⟩:=ho;obtain⟨k1,k2,k3⟩:=rp hV he;have h4:=Ei e.b o.b;have h5:=ki (t:=q3 o) (p:=⟨e.c,e.d⟩) h3 k3;refine⟨?_,?_,?_⟩
 . show 0<=e.a/\e.a<_;omega
 . exact h4
 . refine Nr2.mono (p:=⟨(db (q3 o) ⟨e.c,e.d⟩).a,(db (q3 o) ⟨e.c,e.d⟩).b⟩) h5 ?_;show 2560 - 320*o.a+320<=2560 - 320*e.a;omega
theorem Ev {cells:List CeD}(hV:LibV cells):∀ (f:Nat) (o:Q4),OkO cells o->∀ x∈jf cells f o,OkO cells x
 | 0,_,_,_,h=>by cases h
 | f+1,o,ho,x,h=>by
   rw [jf,aL89,aL80] at h;rcases h with rfl | ⟨e,he,h⟩
   . exact ho
   . exact Ev hV f _ (wT hV ho he) x h
theorem OkO.near {cells:List CeD}(hV:LibV cells){o:Q4}(h:OkO cells o):Nr2 2560 ⟨o.c,o.d⟩:=by obtain⟨h1,h2,h3⟩:=h;exact h3.mono oM
theorem wU {cells:List CeD}{k:Int}(h:0<=k/\k<(cells.length:Int))(h8:cells.length<=8):OkO cells ⟨k,0,0,0⟩:=⟨h,⟨by simp,by simp⟩,by unfold Nr2;simp only;omega⟩
def im (o:Q4):Bool:=f8 (q3 o)
def dm (cells:List CeD) (k:Int):Int:=if dq cells=true then (if ae k 0 ((cells.length:Int) - 1)=true then (if 200<cn cells k then 3 else if (ct cells ⟨k,0,0,0⟩).all im=true then 0 else 2) else 5) else 1
def aA (cells:List CeD) (k:Int):List Q4:=if dm cells k=0 then ct cells ⟨k,0,0,0⟩ else []
theorem Ew {cells:List CeD}(k:Int)(h:dq cells=false):dm cells k=1/\aA cells k=[]:=by
 have:dm cells k=1:=by rw [dm,h];rfl
 exact qU
theorem Ex {cells:List CeD}{k:Int}(h:dq cells=true)(h2:ae k 0 ((cells.length:Int) - 1)=false):dm cells k=5/\aA cells k=[]:=by
 have:dm cells k=5:=by rw [dm,h,h2];rfl
 exact qU
theorem Ey {cells:List CeD}{k:Int}(h:dq cells=true)(h2:ae k 0 ((cells.length:Int) - 1)=true)(h3:200<cn cells k):dm cells k=3/\aA cells k=[]:=by
 have:dm cells k=3:=by rw [dm,aw h,aw h2,aw h3]
 exact qU
theorem EA {cells:List CeD}{k:Int}(h:dq cells=true)(h2:ae k 0 ((cells.length:Int) - 1)=true)(h3:¬ 200<cn cells k)(h4:(ct cells ⟨k,0,0,0⟩).all im=false):dm cells k=2/\aA cells k=[]:=by
 have:dm cells k=2:=by rw [dm,aw h,aw h2,ar h3,ar (by rw [h4];simp)]
 exact qU
theorem Lv {cells:List CeD}{k:Int}(h:dq cells=true)(h2:ae k 0 ((cells.length:Int) - 1)=true)(h3:¬ 200<cn cells k)(h4:(ct cells ⟨k,0,0,0⟩).all im=true):dm cells k=0/\aA cells k=ct cells ⟨k,0,0,0⟩:=by
 have:dm cells k=0:=by rw [dm,aw h,aw h2,ar h3,aw h4]
 exact qU
theorem EB {cells:List CeD}{k:Int}(h:dm cells k=0):dq cells=true/\ae k 0 ((cells.length:Int) - 1)=true/\cn cells k<=200/\(ct cells ⟨k,0,0,0⟩).all im=true:=by
 unfold dm at h
 split at h
 . split at h
   . split at h
     . cases h
     . split at h
       . rename_i h1 h2 h3 h4;exact⟨h1,h2,oM,h4⟩
       . cases h
   . cases h
 . cases h
structure OcV (cells:List CeD) (k:Int):Prop where
 lib:LibV cells
 cell:0<=k/\k<(cells.length:Int)
 len:(aA cells k).length<=200
 ok:∀ o∈aA cells k,OkO cells o/\f8 (q3 o)=true
theorem OcV.of {cells:List CeD}{k:Int}(h:dm cells k=0):OcV cells k:=by
 obtain⟨h1,h2,h3,h4⟩:=EB h;have hV:=LibV.of h1;rw [wit_iff] at h2;have e:aA cells k=ct cells ⟨k,0,0,0⟩:=by rw [aA,aw h]
 refine⟨hV,oM,?_,λ o ho=>?_⟩
 . rw [e];unfold cn at h3;omega
 . rw [e] at ho;rw [aL79] at h4;exact⟨Ev hV _ _ (wU oM hV.len.2) o ho,h4 o ho⟩
def kJ (cells:List CeD) (k:Int):List ShD:=match cells[k.toNat]? with | some c=>c.shs | none=>[]
def cQ (o:Q4) (s:ShD):ShD:=⟨s.a,cG (q3 o) s.box⟩
def ms (cells:List CeD) (o:Q4):List ShD:=(kJ cells o.a).map (cQ o)
def aX (cells:List CeD) (l:List Q4):List ShD:=l.flatMap (ms cells)
def cX (cells:List CeD) (k:Int):Int:=if dm cells k=0 then (if (aX cells (aA cells k)).all (λ s=>vR s.box)=true then 0 else 2) else dm cells k
def fg (cells:List CeD) (k:Int):List ShD:=if cX cells k=0 then aX cells (aA cells k) else []
theorem tT {cells:List CeD}{k:Int}(h:dm cells k≠0):cX cells k=dm cells k/\fg cells k=[]:=by
 have:cX cells k=dm cells k:=by rw [cX,ar h]
 exact⟨this,by rw [fg,this,ar h]⟩
theorem tU {cells:List CeD}{k:Int}(h:dm cells k=0)(h2:(aX cells (aA cells k)).all (λ s=>vR s.box)=false):cX cells k=2/\fg cells k=[]:=by
 have:cX cells k=2:=by rw [cX,aw h,ar (by rw [h2];simp)]
 exact⟨this,by rw [fg,this];rfl⟩
theorem rv {cells:List CeD}{k:Int}(h:dm cells k=0)(h2:(aX cells (aA cells k)).all (λ s=>vR s.box)=true):cX cells k=0/\fg cells k=aX cells (aA cells k):=by
 have:cX cells k=0:=by rw [cX,aw h,aw h2]
 exact⟨this,by rw [fg,this];rfl⟩
theorem mu {cells:List CeD}{k:Int}(h:cX cells k=0):dm cells k=0/\(aX cells (aA cells k)).all (λ s=>vR s.box)=true:=by
 unfold cX at h
 split at h
 . rename_i h1
   split at h
   . rename_i h2;exact⟨h1,h2⟩
   . cases h
 . rename_i h1;exact absurd h h1
theorem Lw {cells:List CeD}(hV:LibV cells)(k:Int):(kJ cells k).length<=24/\∀ s∈kJ cells k,(0<=s.a/\s.a<=7)/\vR s.box=true:=by
 unfold kJ
 cases hc:cells[k.toNat]? with
 | none=>simp
 | some c=>exact⟨hV.shsLen _ _ hc,hV.shs _ _ hc⟩
theorem tV {cells:List CeD}(hV:LibV cells):∀ (l:List Q4),(aX cells l).length<=24*l.length
 | []=>by simp [aX]
 | o :: l=>by
   have h1:=tV hV l;have h2:=(Lw hV o.a).1;unfold aX at *
   rw [fX,aI,eO,ms,dD];omega
theorem wW (cells:List CeD)(k:Int):(fg cells k).length<=4800:=by
 unfold fg
 split
 . rename_i h;have h1:=OcV.of (mu h).1;have h2:=tV h1.lib (aA cells k);have h3:=h1.len;omega
 . simp
theorem wX (cells:List CeD)(k:Int):∀ s∈fg cells k,vR s.box=true:=by
 unfold fg
 split
 . rename_i h;have:=(mu h).2;rw [aL79] at this;exact this
 . simp
def fL (l:List ShD) (k:Int):ac:=gL ((l.filter λ s=>decide (s.a=k)).map (·.box))
def mw (l:List ShD) (n:Nat):List (List Q4):=(List.range n).map λ(k:Nat)=>ah (fL l (k:Int))
def fp (cells:List CeD) (k:Int):List (List Q4):=if cX cells k=0 then mw (fg cells k) 8 else []
theorem EC (l:List ShD)(n:Nat):∀ r∈mw l n,aH r=true:=by intro r hr;unfold mw at hr;rw [aL52] at hr;obtain⟨k,_,rfl⟩:=hr;exact ov _
def hsh (h n:Int):Int:=(h*1000003+n+1) % 2147483647
theorem wY (h n:Int):0<=hsh h n/\hsh h n<=2147483646:=by unfold hsh;omega
def hsL (h:Int) (l:List Int):Int:=l.foldl hsh h
theorem wZ {h:Int}(hh:0<=h/\h<=2147483646):∀ (l:List Int),0<=hsL h l/\hsL h l<=2147483646
 | []=>hh
 | n :: l=>wZ (wY h n) l
def dw (o r:Q4):Q4:=⟨min o.a r.a,min o.b r.b,max o.c r.c,max o.d r.d⟩
def fh (l:List Q4) (k:Nat):Q4:=(l.take k).foldl dw (l.getD 0 ⟨0,0,0,0⟩)
def dz (l:List Q4):Q4:=l.foldl dw (l.getD 0 ⟨0,0,0,0⟩)
theorem ED {l:List Q4}{k:Nat}{r:Q4}(h:l[k]?=some r):dw (fh l k) r=fh l (k+1):=by rw [fh,fh,ch h,List.foldl_append];rfl
theorem EF:∀ (l:List Q4) (o:Q4),(l.foldl dw o).a<=o.a/\(l.foldl dw o).b<=o.b/\o.c<=(l.foldl dw o).c/\o.d<=(l.foldl dw o).d
 | [],o=>⟨fW _,fW _,fW _,fW _⟩
 | r :: l,o=>by have h:=EF l (dw o r);rw [List.foldl_cons];exact Bo
theorem EG:∀ (l:List Q4) (o r:Q4),r∈l->(l.foldl dw o).a<=r.a/\(l.foldl dw o).b<=r.b/\r.c<=(l.foldl dw o).c/\r.d<=(l.foldl dw o).d
 | [],_,_,h=>by cases h
 | s :: l,o,r,h=>by
   rw [List.foldl_cons];rw [aL89] at h;rcases h with rfl | h
   . have h:=EF l (dw o r);exact Bo
   . exact EG l _ r h
theorem EH {P:Q4->Prop}(hP:∀ o r,P o->P r->P (dw o r)):∀ (l:List Q4) (o:Q4),P o->(∀ r∈l,P r)->P (l.foldl dw o)
 | [],_,h,_=>h
 | s :: l,o,h,hl=>EH hP l _ (hP o s h (hl s (by simp))) λ r hr=>hl r (by simp [hr])
def dU (r:Q4):Prop:=(-40<=r.a/\r.a<=40)/\(-40<=r.b/\r.b<=40)/\(-40<=r.c/\r.c<=40)/\(-40<=r.d/\r.d<=40)
theorem EJ (o r:Q4)(h:dU o)(k:dU r):dU (dw o r):=by unfold dU dw at *;simp only;omega
theorem tW {l:List Q4}(h0:0<l.length)(h:∀ r∈l,dU r):dU (dz l):=by refine EH EJ l _ ?_ h;rw [kz,bK h0];exact h _ (qF h0)
def ip (o:Int):Q3:=⟨o,0,0⟩
def ef (l:List Q4) (o:Int):List Q4:=l.map (cG (ip o))
theorem xe {o:Int}(h:0<=o/\o<=7){r:Q4}(hv:vR r=true):dU (cG (ip o) r)/\(cG (ip o) r).a<(cG (ip o) r).c/\(cG (ip o) r).b<(cG (ip o) r).d:=by rw [vR_iff] at hv;have e:o=0\/o=1\/o=2\/o=3\/o=4\/o=5\/o=6\/o=7:=oM;rcases e with rfl | rfl | rfl | rfl | rfl | rfl | rfl | rfl <;> simp [cG,db,oy,ip,gJ,eK,mq,ow,dU] <;> omega
def es (dx dy:Int) (r:Q4):Q4:=⟨r.a+dx,r.b+dy,r.c+dx,r.d+dy⟩
def lF (l:List Q4) (o:Int):List Q4:=(ef l o).map (es (-40 - (dz (ef l o)).a) (-40 - (dz (ef l o)).b))
theorem xf {l:List Q4}(h:∀ r∈l,vR r=true){o:Int}(ho:0<=o/\o<=7):∀ r∈ef l o,dU r:=by intro r hr;unfold ef at hr;rw [aL52] at hr;obtain⟨s,hs,rfl⟩:=hr;exact (xe ho (h s hs)).1
theorem EK (l:List Q4)(o:Int):(ef l o).length=l.length:=by simp [ef]
theorem EP {l:List Q4}(h:∀ r∈l,vR r=true){o:Int}(ho:0<=o/\o<=7):∀ r∈lF l o,vR r=true:=by
 intro r hr;unfold lF at hr;rw [aL52] at hr;obtain⟨s,hs,rfl⟩:=hr;have h1:=EG (ef l o) ((ef l o).getD 0 ⟨0,0,0,0⟩) s hs;have h2:=tW (l:=ef l o) (List.length_pos_of_mem hs) (xf h ho);have h3:(cG (ip o) s).a<(cG (ip o) s).c\/True:=aB trivial;have h4:s.a<s.c/\s.b<s.d:=by unfold ef at hs;rw [aL52] at hs;obtain⟨t,ht,rfl⟩:=hs;exact (xe ho (h t ht)).2
 have h5:(ef l o).foldl dw ((ef l o).getD 0 ⟨0,0,0,0⟩)=dz (ef l o):=rfl;rw [h5] at h1;generalize dz (ef l o)=B at *
 rw [vR_iff];unfold dU at h2;unfold es;simp only;omega
theorem Lx (dx dy:Int){r:Q4}(h:r.a<r.c/\r.b<r.d):cG ⟨0,dx,dy⟩ r=es dx dy r:=by unfold cG db oy es gJ eK;simp only [mq,Int.zero_emod,Int.toNat_zero];rw [ar oM,ar oM];simp only [Q4.mk.injEq];omega
def xh (h:Int) (r:Q4):Int:=hsL h [r.a+40,r.b+40,r.c+40,r.d+40]
def eT (h:Int) (l:List Q4):Int:=l.foldl xh h
theorem tX {h:Int}(hh:0<=h/\h<=2147483646):∀ (l:List Q4),0<=eT h l/\eT h l<=2147483646
 | []=>hh
 | n :: l=>tX (wZ hh _) l
theorem EQ {l:List Q4}{k:Nat}{r:Q4}(h:Int)(hr:l[k]?=some r):xh (eT h (l.take k)) r=eT h (l.take (k+1)):=by rw [eT,eT,ch hr,List.foldl_append];rfl
def jg (l:List Q4) (o:Int):Int:=eT 17 (ah (gL (lF l o)))
theorem rx (l:List Q4)(o:Int):0<=jg l o/\jg l o<=2147483646:=tX oM _
def jD (l:List Q4):Nat->Int
 | 0=>jg l 0
 | n+1=>min (jD l n) (jg l ((n:Int)+1))
def mx (l:List Q4):Int:=jD l 7
theorem pR (l:List Q4):∀ n,0<=jD l n/\jD l n<=2147483646
 | 0=>rx l 0
 | n+1=>by have:=pR l n;have:=rx l ((n:Int)+1);rw [jD];omega
def jE (r:RuD):List Int:=[r.a,r.b,r.c,r.d,r.e]
def my (r:RuD) (l:List Q4):Int:=hsL (mx l) (jE r)
def cS (xs:List Int):List Value:=xs.map (Value.int .i64)
theorem Mut.drew {a b:World}{S:List Nat}(h:Mut a b S):Mut a b.drew S:=⟨h.os,h.tape,h.output,h.size,h.block⟩
theorem dg (w:World)(cs:List Value)(t:TypeId):∀ j u,cs[j]?=some u->(w.alloc (.cells cs.toArray t)).cell? (((ad w 0):Addr).add j)=some u:=by intro j u h;rw [Addr.add_lit,fQ,(aD w cs t).cells j];exact h
theorem ER {α:Type}{l:List α}{k:Nat}{x d:α}(h:l[k]?=some x):l.getD k d=x:=by rw [kz,h];rfl
theorem cq {w:World}{base size n:Nat}{e:TypeId}{v:Value}{xs:List Value}(h:w.ownsRow base e size v n xs):∃ q c,v=sl q n c:=by
 rcases sE h with ⟨rfl,rfl⟩ | ⟨g,c,rfl⟩
 . exact⟨_,_,rfl⟩
 . exact⟨_,_,rfl⟩
theorem SlT.drop {α:Type}{enc:α->List Value}{sz:Nat}{w:World}{b off n:Nat}{l:List α}(h:SlT enc sz w (so b off) n l)(k:Nat):SlT enc sz w (so b (off+k*sz)) (n - k) (l.drop k):=by
 obtain⟨h1,h2⟩:=h;refine⟨by rw [List.length_drop,h1],?_⟩;rcases h2 with h2 | ⟨b',off',hp,hb,hc⟩
 . exact ay oM
 . cases hp
   refine aB ⟨b,_,rfl,hb,λ i x hx j v hv=>?_⟩;rw [List.getElem?_drop] at hx;have:=hc (k+i) x hx j v hv;rw [Nat.add_mul] at this;rw [<-this]
   congr 2
   omega
theorem Ly (b off k:Nat):((ad b off):Addr).add k=(ad b (off+k)):=by simp [Addr.add]
theorem Mut.ext {a b c:World}{S:List Nat}(h:Mut a b S)(k:Ext b c):Mut a c S:=Mut.same h (k.mut S)
theorem Mut.alloc {a b:World}{S:List Nat}(h:Mut a b S)(o:Obj):Mut a (b.alloc o) S:=h.ext ((ab _).alloc o)
theorem np (v:Int):∀ u∈[Value.int .i64 v],u.oneCell'=true:=λ u hu=>by simp at hu;subst hu;rfl
theorem nq (w:World)(v:Value)(t:TypeId):∀ j u,[v][j]?=some u->(w.alloc (.cells #[v] t)).cell? (((ad w 0):Addr).add j)=some u:=dg w [v] t
theorem cx {k m:Nat}(h:k<=1048576)(hm:m<=1048576):k+m<=maxLen:=by unfold maxLen;omega
def Fresh (w0:World) (B:Nat) (v:Value):Prop:=∀ k,v.ownBlock=some k->k=B\/w0.heap.size<=k
theorem Mut.append {w0 w w':World}{B:Nat}{v:Value}(hM:Mut w0 w [B])(hv:Fresh w0 B v)(hg:w.grownBy w' v.ownBlock):Mut w0 w' [B] :=
 ⟨hg.os.trans hM.os,hg.tape.trans hM.tape,hg.output.trans hM.output,aS hM.size hg.size,λ k hk hn=>by rw [hg.block k (aF hk hM.size) (λ h=>(hv k h.symm).elim (λ e=>hn (by rw [e];exact aL77.2 rfl)) (λ h'=>by omega))];exact hM.block k hk hn⟩
theorem Fresh.append {w0 w:World}{B:Nat}{v v':Value}(hv:Fresh w0 B v)(hM:Mut w0 w [B])(h:v'.ownBlock=v.ownBlock\/v'.ownBlock=some w.heap.size):Fresh w0 B v':=λ k hk=>by
 rcases h with h | h
 . rw [h] at hk;exact hv k hk
 . rw [h] at hk;cases hk;exact aB hM.size
theorem iq (a b c d:Int):∀ u∈[Value.int .i64 a,.int .i64 b,.int .i64 c,.int .i64 d],u.oneCell'=true:=λ u hu=>by simp at hu;rcases hu with rfl | rfl | rfl | rfl <;> rfl
theorem Mut.own {w w':World}{B base n size:Nat}{e:TypeId}{v:Value}{xs:List Value}(M:Mut w w' [B])(hB:B<base)(ho:w.ownsRow base e size v n xs):w'.ownsRow base e size v n xs :=
 M.grownBy (λ g hg hh=>by have:=(ho.lt g hg).1;simp at hh;omega) ho
theorem jh {P:Program}{c:Code}{Q:Exit->Act->World->Prop}{a:Act}{w:World}(Mid:Act->Act->World->Prop)(h1:c.wp P (λ e a' w'=>match e with | .normal=>Mid a a' w' | _=>False) a w)(h2:∀ a' w',Mid a a' w'->Q .normal a' w'):c.wp P Q a w :=
 Code.wp_mono (λ e _ _ hm=>by cases e <;> first | exact h2 _ _ hm | exact (hm:False).elim) h1
open Go.Proofs.Tryz
theorem ry:(prog.info? 139).map (λ i=>(i.zero,i.size,i.bytes))=some (some (.agg #[(0:Int),(0:Int),(0:Int),(0:Int)]),4,32):=by kernel_rfl
theorem Lz (x:Q4)(w:World) :
 CE 137 #[.agg #[x.a,x.b,x.c,x.d],.agg #[x.a,x.b,x.c,x.d]] w (.bool true):=by
 go_enter func137,ntmps137;go_wp2;go_ret;exact⟨rfl,((ab _).alloc _).alloc _⟩
theorem LA (p1 p2:OA)(n c1 c2:Nat)(l:List Q4)(w:World)(h1:SlT aj 4 w p1 n l)(h2:SlT aj 4 w p2 n l)(hn:n<=1048576) :
 CE 73 #[sl p1 n c1,sl p2 n c2] w (.bool true):=by
 have hl:=aa h1.length;go_enter func73,ntmps73;go_wp2;go_loopw [5] (λ i wr=>∃ k:Nat,k<=n/\i=.int .i64 k/\Ext w wr) (λ i _=>n - (intOf i).toNat)
 case atStart=>exact⟨0,oM,rfl,ab _⟩
 case round =>
  obtain⟨k,hk,rfl,hE⟩:=hrel;by_cases hlt:k<n
  . obtain⟨b,off,x,rfl,hb,hx,c0,c1,c2,c3⟩:=(h1.ext hE).four hlt;obtain⟨b',off',x',rfl,hb',hx',d0,d1,d2,d3⟩:=(h2.ext hE).four hlt;obtain rfl:x=x':=cJ (hx.symm.trans hx'.out);have hlt':(k:Int)<(n:Int):=oM;go_wp2_with fail;refine aQ kR kR ?_;repeat (quiet_step ((go_at_call 137;exact bh (Lz _ _))))
    exact jV
  . exact ja
theorem LB (q:OA)(n c:Nat)(k:Int)(base:Nat)(e:TypeId)(xs:List Value)(w:World)(h:w.ownsRow base e 4 (sl q n c) n xs)(hn:n<=1048576)(hk0:0<=k)(hk1:k<=1099511627776) :
 Calls prog 36 #[sl q n c,k] w λ e1 w'=>e1=.returned (k+(n:Int)*4:Int)/\w'.ownsRow base e 4 (sl q n c) n (gX k (n*4))/\Mut w w' (ao q):=by
 have hxl:=aa h.1;go_enter func36,ntmps36;go_wp2;go_loopw [1,5] (λ t i wr=>∃ j:Nat,j<=n/\i=.int .i64 j/\t=.int .i64 (k+(j:Int)*4)/\Mut w wr (ao q)/\wr.ownsRow base e 4 (sl q n c) n (gX k (j*4)++xs.drop (j*4))) (λ _ i _=>n - (intOf i).toNat)
 case atStart=>exact⟨0,oM,rfl,gN,fw _ _,by simpa [gX] using h⟩
 case round =>
  obtain⟨j,hj,rfl,rfl,hM,ho⟩:=hrel;by_cases hlt:j<n
  . obtain⟨g,hg⟩:=jy ho oM;subst hg;obtain⟨v0,e0⟩:=bO ho (j*4) oM;obtain⟨v1,e1⟩:=bO ho (j*4+1) oM;obtain⟨v2,e2⟩:=bO ho (j*4+2) oM;obtain⟨v3,e3⟩:=bO ho (j*4+3) oM;have hf:=ey ho;have hs:=aa hxl.out;go_wp2;go_roundw
    case rel => refine⟨j+1,oM,gN,gN,((((hM.setCell (p:=⟨g,_,none⟩) (by simp [ao]) _).setCell (p:=⟨g,_,none⟩) (by simp [ao]) _).setCell (p:=⟨g,_,none⟩) (by simp [ao]) _).setCell (p:=⟨g,_,none⟩) (by simp [ao]) _),?_⟩;have m0:=tA (k:=k) (j:=j*4) (xs:=xs) (by rw [hxl.out];omega);rw [show k+((j*4:Nat):Int)=k+(j:Int)*4 by omega] at m0;have m1:=tA (k:=k) (j:=j*4+1) (xs:=xs) (by rw [hxl.out];omega);rw [show k+((j*4+1:Nat):Int)=k+(j:Int)*4+1 by omega] at m1;have m2:=tA (k:=k) (j:=j*4+2) (xs:=xs) (by rw [hxl.out];omega);rw [show k+((j*4+2:Nat):Int)=k+(j:Int)*4+1+1 by omega] at m2;have m3:=tA (k:=k) (j:=j*4+3) (xs:=xs) (by rw [hxl.out];omega);rw [show k+((j*4+3:Nat):Int)=k+(j:Int)*4+1+1+1 by omega] at m3;rw [show (j+1)*4=j*4+3+1 by omega,<-m3,show j*4+3=j*4+2+1 from rfl,<-m2,show j*4+2=j*4+1+1 from rfl,<-m1,show j*4+1=j*4+1 from rfl,<-m0];exact (f7 (f7 (f7 (f7 ho _ _) _ _) _ _) _ _)
    case measure=>exact mS
  . have hjn:j=n:=oM;subst hjn;rw [List.drop_eq_nil_of_le (by rw [hxl.out];omega),fP] at ho;go_wp2_with fail;go_ret;exact⟨cp oM,ho,hM⟩
theorem LC (q:OA)(n c:Nat)(k:Int)(base:Nat)(e:TypeId)(w:World)(h:w.ownsRow base e 4 (sl q n c) n (gX k (n*4)))(hn:n<=1048576)(hk0:0<=k)(hk1:k<=1099511627776) :
 CW 37 #[sl q n c,k] w (k+(n:Int)*4:Int):=by
 go_enter func37,ntmps37;go_wp2;go_loop [1,5] (λ t i=>∃ j:Nat,j<=n/\i=.int .i64 j/\t=.int .i64 (k+(j:Int)*4)) (λ _ i=>n - (intOf i).toNat)
 case atStart=>exact⟨0,oM,rfl,gN⟩
 case round =>
  obtain⟨j,hj,rfl,rfl⟩:=hrel;by_cases hlt:j<n
  . obtain⟨g,hg⟩:=jy h oM;subst hg;have e0:w.cell? (ad g (j*4))=si (k+(j:Int)*4):=by rw [h.cellAt _ oM,tz oM];try (congr 2 <;> omega)
    have e1:w.cell? (ad g (j*4+1))=si (k+(j:Int)*4+1):=by rw [h.cellAt _ oM,tz oM];try (congr 2 <;> omega)
    have e2:w.cell? (ad g (j*4+2))=si (k+(j:Int)*4+2):=by rw [h.cellAt _ oM,tz oM];try (congr 2 <;> omega)
    have e3:w.cell? (ad g (j*4+3))=si (k+(j:Int)*4+3):=by rw [h.cellAt _ oM,tz oM];try (congr 2 <;> omega)
    go_wp2;go_round
    case rel=>exact⟨j+1,oM,gN,gN⟩
    case measure=>exact mS
  . have hjn:j=n:=oM;subst hjn;go_wp2_with fail;go_ret;exact⟨cp oM,rfl⟩
end Go.Proofs.YtnlajnpcdnnpmaaGreat
