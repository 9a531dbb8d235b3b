/- Part of a proof. No condition. -/
import Derived.Test.YtnlajnpcdnnpmaaGreatA1
namespace Go.Proofs.YtnlajnpcdnnpmaaGreat
set_option linter.all false
set_option maxRecDepth 100000
set_option maxHeartbeats 16000000
open Go.RowKit
instance decQ4:DecidableEq Q4:=λ x y=>decidable_of_iff (x.a=y.a/\x.b=y.b/\x.c=y.c/\x.d=y.d) ⟨λ h=>by cases x;cases y;simp_all,λ h=>by subst h;simp⟩
abbrev ac:=Nat->Bool
def ag (g:ac):List Value:=(List.range 6400).map λ i=>.bool (g i)
theorem j8 (g:ac):(ag g).length=6400:=by simp [ag]
theorem dv (g:ac){i:Nat}(h:i<6400):(ag g)[i]?=some (.bool (g i)):=by rw [ag,cK,nK h];rfl
theorem df {g g':ac}(h:∀ i,i<6400->g i=g' i):ag g=ag g' :=
 List.map_congr_left λ i hi=>by rw [h i (aL70.1 hi)]
def ig (g:ac) (k:Nat) (b:Bool):ac:=λ i=>if i=k then b else g i
theorem j9 (g:ac)(k:Nat)(b:Bool):(ag g).set k (.bool b)=ag (ig g k b):=by
 apply qM;intro i;rw [ph];by_cases hi:i<6400
 . rw [dv _ hi,dv _ hi,j8];by_cases hk:k=i
   . subst hk;simp [ig,hi]
   . rw [ar hk,ig,ar (λ h=>hk h.symm)]
 . rw [ag,ag];simp only [cK,kZ (show (List.range 6400).length<=i by simp;omega),Option.map_none]
   split
   . rename_i h;subst h;simp;omega
   . rfl
def bo:ac:=λ _=>false
theorem gH:ag bo=List.replicate 6400 (.bool false):=by
 apply qM;intro i;by_cases hi:i<6400
 . rw [dv _ hi,List.getElem?_replicate,aw hi];rfl
 . rw [kZ (by rw [j8];omega),kZ (by rw [List.length_replicate];omega)]
def av (x y:Int):Nat:=((y+40)*80+x+40).toNat
def ax (x y:Int):Bool:=decide (-40<=x/\x<=39)&&decide (-40<=y/\y<=39)
theorem onC_iff {x y:Int} : ax x y=true↔(-40<=x/\x<=39)/\(-40<=y/\y<=39):=by simp [ax]
def gh (g:ac) (x y:Int):Bool:=ax x y&&g (av x y)
theorem gc {g:ac}{x y:Int}(h:ax x y=true):gh g x y=g (av x y):=by rw [gh,h,jv]
theorem dr {g:ac}{x y:Int}(h:ax x y=false):gh g x y=false:=by rw [gh,h,Bool.false_and]
def bF (i:Nat):Int:=((i % 80:Nat):Int) - 40
def bG (i:Nat):Int:=((i / 80:Nat):Int) - 40
theorem eJ {x y:Int}(h:ax x y=true):av x y<6400:=by rw [onC_iff] at h;unfold av;omega
theorem D0 (i:Nat):av (bF i) (bG i)=i:=by unfold av bF bG;omega
theorem wC {i:Nat}(h:i<6400):ax (bF i) (bG i)=true:=by rw [onC_iff];unfold bF bG;omega
theorem nh {x y:Int}(h:ax x y=true):bF (av x y)=x:=by rw [onC_iff] at h;unfold bF av;omega
theorem ni {x y:Int}(h:ax x y=true):bG (av x y)=y:=by rw [onC_iff] at h;unfold bG av;omega
theorem je {g:ac}{i:Nat}(h:i<6400):gh g (bF i) (bG i)=g i:=by rw [gc (wC h),D0]
theorem D1 {x y u v:Int}(h:ax x y=true)(k:ax u v=true)(e:av x y=av u v):x=u/\y=v:=by rw [onC_iff] at h k;unfold av at e;omega
theorem tK {g g':ac}(h:∀ x y,ax x y=true->gh g x y=gh g' x y):ag g=ag g' :=
 df λ i hi=>by have:=h _ _ (wC hi);rwa [je hi,je hi] at this
theorem Lg {g:ac}{x y u v:Int}(b:Bool)(h:ax u v=true):gh (ig g (av u v) b) x y=if x=u/\y=v then b else gh g x y:=by
 by_cases hc:ax x y=true
 . rw [gc hc,ig];by_cases he:x=u/\y=v
   . obtain⟨rfl,rfl⟩:=he;simp
   . rw [ar he,ar (λ e=>he (D1 hc h e)),gc hc]
 . rw [gV] at hc;rw [dr hc,dr hc]
   split
   . rename_i h2;obtain⟨rfl,rfl⟩:=h2;rw [h] at hc;cases hc
   . rfl
def aU (f:Int->Int->Bool):ac:=λ i=>f (bF i) (bG i)
theorem iK (f:Int->Int->Bool){x y:Int}(h:ax x y=true):gh (aU f) x y=f x y:=by rw [gc h,aU,nh h,ni h]
theorem Lh (f:Int->Int->Bool){x y:Int}(h:ax x y=true):aU f (av x y)=f x y:=by rw [aU,nh h,ni h]
theorem D3 {f f':Int->Int->Bool}{u v:Int}(b:Bool)(h:ax u v=true)(hf:∀ x y,ax x y=true->f' x y=if x=u/\y=v then b else f x y):ag (ig (aU f) (av u v) b)=ag (aU f'):=by apply tK;intro x y hc;rw [Lg b h,iK _ hc,iK _ hc,hf x y hc]
theorem lA {f f':Int->Int->Bool}(h:∀ x y,ax x y=true->f x y=f' x y):ag (aU f)=ag (aU f') :=
 tK λ x y hc=>by rw [iK _ hc,iK _ hc,h x y hc]
def bj (r:Q4) (x y:Int):Bool:=decide (r.a<=x/\x<r.c)&&decide (r.b<=y/\y<r.d)
theorem inR_iff {r:Q4}{x y:Int} : bj r x y=true↔(r.a<=x/\x<r.c)/\(r.b<=y/\y<r.d):=by simp [bj]
def vR (r:Q4):Bool:=(decide (-40<=r.a)&&decide (r.a<r.c)&&decide (r.c<=40))&&(decide (-40<=r.b)&&decide (r.b<r.d)&&decide (r.d<=40))
theorem vR_iff {r:Q4} : vR r=true↔(-40<=r.a/\r.a<r.c/\r.c<=40)/\(-40<=r.b/\r.b<r.d/\r.d<=40):=by simp [vR,and_assoc]
theorem Li {r:Q4}{x y:Int}(hv:vR r=true)(h:bj r x y=true):ax x y=true:=by rw [vR_iff] at hv;rw [inR_iff] at h;rw [onC_iff];omega
def bA (l:List Q4) (x y:Int):Bool:=l.any λ r=>bj r x y
def gL (l:List Q4):ac:=aU (bA l)
def part (f:Int->Int->Bool) (r:Q4) (u v:Int):Int->Int->Bool:=λ x y=>f x y||(bj r x y&&(decide (y<v)||(decide (y=v)&&decide (x<u))))
theorem D4 (f:Int->Int->Bool)(r:Q4){u v:Int}(h:ax u v=true)(hr:bj r u v=true):ag (ig (aU (part f r u v)) (av u v) true)=ag (aU (part f r (u+1) v)):=by
 refine D3 _ h λ x y _=>?_
 rw [part,part];by_cases he:x=u/\y=v
 . obtain⟨rfl,rfl⟩:=he;rw [aw ⟨rfl,rfl⟩,hr];simp [Int.lt_succ]
 . rw [ar he]
   congr 2
   rw [aL62];simp;omega
theorem D5 (f:Int->Int->Bool)(r:Q4){u u' v:Int}(h:∀ x,ax x v=true->bj r x v=true->x<u)(h':∀ x,ax x (v+1)=true->bj r x (v+1)=true->u'<=x):ag (aU (part f r u v))=ag (aU (part f r u' (v+1))):=by
 refine lA λ x y hc=>?_
 rw [part,part]
 congr 1
 by_cases hr:bj r x y=true
 . rw [hr,jv,jv,aL62];simp;constructor
   . rintro (h1 | ⟨rfl,h2⟩)
     . left;omega
     . left;omega
   . rintro (h1 | ⟨rfl,h2⟩)
     . by_cases h3:y=v
       . subst h3;exact aB ⟨rfl,h x hc hr⟩
       . left;omega
     . have:=h' x hc hr;omega
 . rw [gV] at hr;rw [hr];rfl
theorem D6 (f:Int->Int->Bool)(r:Q4){u v:Int}(h:∀ x y,ax x y=true->bj r x y=true->v<=y/\(y=v->u<=x)):ag (aU f)=ag (aU (part f r u v)):=by
 refine lA λ x y hc=>?_
 rw [part];by_cases hr:bj r x y=true
 . obtain⟨h1,h2⟩:=h x y hc hr
   have:(decide (y<v)||(decide (y=v)&&decide (x<u)))=false:=by
    rw [Bool.or_eq_false_iff,mZ];refine⟨by simpa using h1,?_⟩;by_cases he:y=v
    . right;simpa using h2 he
    . left;simpa using he
   rw [this,Bool.and_false,Bool.or_false]
 . rw [gV] at hr;rw [hr];simp
theorem D7 (f:Int->Int->Bool)(r:Q4){u v:Int}(h:∀ x y,ax x y=true->bj r x y=true->y<v):ag (aU (part f r u v))=ag (aU (λ x y=>f x y||bj r x y)):=by
 refine lA λ x y hc=>?_
 rw [part];by_cases hr:bj r x y=true
 . have:=h x y hc hr;simp [hr,this]
 . rw [gV] at hr;rw [hr];simp
theorem wD {l:List Q4}{k:Nat}{r:Q4}(h:l[k]?=some r):(λ x y=>bA (l.take k) x y||bj r x y)=bA (l.take (k+1)):=by funext x y;rw [ch h,bA,bA,pi];simp
theorem jC:ag bo=ag (aU (bA [])):=df λ _ _=>rfl
def ee (g:ac) (y:Int) (x:Int):List Int :=
 if _h:x<=40 then (if gh g x y != gh g (x - 1) y then x :: ee g y (x+1) else ee g y (x+1)) else []
termination_by (41 - x).toNat
def runs (g:ac) (y:Int):List Int:=ee g y (-40)
def dl:List Int->List (Int×Int)
 | a :: b :: l=>(a,b) :: dl l
 | _=>[]
def cN (g:ac) (y e:Int):Int:=if _h:e<40 then (if runs g e=runs g y then cN g y (e+1) else e) else e
termination_by (40 - e).toNat
theorem nj (g:ac)(y e:Int):e<=cN g y e:=by
 rw [cN]
 split
 . split
   . have:=nj g y (e+1);omega
   . omega
 . omega
termination_by (40 - e).toNat
theorem pM (g:ac)(y e:Int)(h:e<=40):cN g y e<=40:=by
 rw [cN]
 split
 . split
   . exact pM g y (e+1) oM
   . omega
 . omega
termination_by (40 - e).toNat
def gg (g:ac) (y:Int):List Q4:=(dl (runs g y)).map λ p=>⟨p.1,y,p.2,cN g y (y+1)⟩
def ez (g:ac) (y:Int):List Q4:=if _h:y<40 then gg g y++ez g (cN g y (y+1)) else []
termination_by (40 - y).toNat
decreasing_by have:=nj g y (y+1);omega
def ah (g:ac):List Q4:=ez g (-40)
theorem rk {g:ac}{y e:Int}(h:e<40)(hr:runs g e=runs g y):cN g y e=cN g y (e+1):=by rw [cN,dif_pos h,aw hr]
theorem kF {g:ac}{y e:Int}(h:40<=e\/runs g e≠runs g y):cN g y e=e:=by
 rw [cN]
 split
 . rcases h with h | h
   . omega
   . rw [ar h]
 . rfl
theorem lC {g:ac}{y:Int}(h:y<40):ez g y=gg g y++ez g (cN g y (y+1)):=by rw [ez,dif_pos h]
theorem iL {g:ac}{y:Int}(h:40<=y):ez g y=[]:=by rw [ez,dif_neg oM]
theorem kG {g:ac}{y x:Int}(h:x<=40)(hd:gh g x y≠gh g (x - 1) y):ee g y x=x :: ee g y (x+1):=by rw [ee,dif_pos h,aw (by simpa using hd)]
theorem kH {g:ac}{y x:Int}(hd:gh g x y=gh g (x - 1) y):ee g y x=ee g y (x+1):=by
 by_cases h:x<=40
 . rw [ee,dif_pos h,ar (by simpa using hd)]
 . rw [ee,dif_neg h,ee,dif_neg oM]
theorem ij {g:ac}{y x:Int}(h:40<x):ee g y x=[]:=by rw [ee,dif_neg oM]
theorem tL (g:ac)(y x:Int):∀ z,z∈ee g y x↔x<=z/\z<=40/\gh g z y≠gh g (z - 1) y:=by
 intro z;by_cases h:x<=40
 . by_cases hd:gh g x y=gh g (x - 1) y
   . rw [kH hd,tL g y (x+1) z];constructor
     . rintro⟨h1,h2,h3⟩;exact⟨oM,h2,h3⟩
     . rintro⟨h1,h2,h3⟩;refine⟨?_,h2,h3⟩;by_cases he:z=x
       . subst he;exact absurd hd h3
       . omega
   . rw [kG h hd,aL89,tL g y (x+1) z];constructor
     . rintro (rfl | ⟨h1,h2,h3⟩)
       . exact⟨oM,h,hd⟩
       . exact⟨oM,h2,h3⟩
     . rintro⟨h1,h2,h3⟩;by_cases he:z=x
       . exact ay he
       . exact aB ⟨oM,h2,h3⟩
 . rw [ij oM];simp;omega
termination_by (41 - x).toNat
theorem runs_inj {g:ac}{y y':Int} : runs g y=runs g y'↔∀ x,gh g x y=gh g x y':=by
 constructor
 . intro h x
   have key:∀ n:Nat,gh g ((n:Int) - 41) y=gh g ((n:Int) - 41) y':=by
    intro n
    induction n with
    | zero=>rw [dr,dr] <;> simp [ax]
    | succ n ih =>
      have e:(((n+1:Nat):Int) - 41) - 1=(n:Int) - 41:=oM;by_cases h40:((n+1:Nat):Int) - 41<=40
      . have h1:=tL g y (-40) (((n+1:Nat):Int) - 41);have h2:=tL g y' (-40) (((n+1:Nat):Int) - 41);rw [runs,runs] at h;rw [h,h2,e,ih] at h1
        have h3:(gh g (((n+1:Nat):Int) - 41) y'≠gh g ((n:Int) - 41) y')↔gh g (((n+1:Nat):Int) - 41) y≠gh g ((n:Int) - 41) y':=by
         constructor
         . intro h4;exact (h1.1 ⟨oM,h40,h4⟩).2.2
         . intro h4;exact (h1.2 ⟨oM,h40,h4⟩).2.2
        revert h3
        cases gh g (((n+1:Nat):Int) - 41) y' <;> cases gh g (((n+1:Nat):Int) - 41) y <;> cases gh g ((n:Int) - 41) y' <;> simp
      . exact vD
   by_cases hx : -41<=x
   . have:=key (x+41).toNat;rwa [show (((x+41).toNat:Nat):Int) - 41=x by omega] at this
   . exact vD
 . intro h
   have key:∀ x,ee g y x=ee g y' x:=by
    intro x;by_cases hx:x<=40
    . have ih:∀ n:Nat,∀ x:Int,(41 - x).toNat<=n->ee g y x=ee g y' x:=by
       intro n
       induction n with
       | zero=>intro x hx;rw [ij oM,ij oM]
       | succ n ih =>
         intro x hx;by_cases hx4:x<=40
         . by_cases hd:gh g x y=gh g (x - 1) y
           . rw [kH hd,kH (x:=x) (y:=y') (by rw [<-h x,<-h (x - 1),hd]),ih (x+1) oM]
           . rw [kG hx4 hd,kG hx4 (by rw [<-h x,<-h (x - 1)];exact hd),ih (x+1) oM]
         . rw [ij oM,ij oM]
      exact ih _ x (ai _)
    . rw [ij oM,ij oM]
   exact key _
theorem pN (a b:Int):a<b\/b<=a:=oM
def Inc:Int->List Int->Prop
 | _,[]=>True
 | lo,a :: l=>lo<=a/\a<=40/\Inc (a+1) l
theorem Inc.mono {lo lo':Int}{l:List Int}(h:Inc lo l)(hl:lo'<=lo):Inc lo' l:=by
 cases l with
 | nil=>trivial
 | cons a l=>exact⟨by have:=h.1;omega,h.2⟩
theorem Lj (g:ac)(y:Int):∀ (n:Nat) (x:Int),(41 - x).toNat<=n->Inc x (ee g y x):=by
 intro n
 induction n with
 | zero=>intro x hx;rw [ij oM];trivial
 | succ n ih =>
   intro x hx;by_cases h:x<=40
   . by_cases hd:gh g x y=gh g (x - 1) y
     . rw [kH hd];exact (ih (x+1) oM).mono oM
     . rw [kG h hd];exact⟨oM,h,ih (x+1) oM⟩
   . rw [ij oM];trivial
theorem rl (g:ac)(y:Int):Inc (-40) (runs g y):=Lj g y _ _ (ai _)
def kI (l:List (Int×Int)):Int:=(l.map λ p=>p.2 - p.1).sum
theorem D8 (p:Int×Int)(l:List (Int×Int)):kI (p :: l)=p.2 - p.1+kI l:=by simp [kI]
theorem rm:∀ (l:List Int) (lo:Int),Inc lo l->lo<=41->0<=kI (dl l)/\(kI (dl l)<=41 - lo/\(lo<=40->kI (dl l)<=40 - lo))/\((dl l).length:Int)*2<=41 - lo/\∀ p∈dl l,lo<=p.1/\p.1<p.2/\p.2<=40
 | [],lo,_,h=>by simp [dl,kI];omega
 | [a],lo,_,h=>by simp [dl,kI];omega
 | a :: b :: l,lo,hi,h=>by
   obtain⟨h1,h2,h3,h4,h5⟩:=hi;obtain⟨k1,k2,k3,k4⟩:=rm l (b+1) h5 oM;rw [dl,D8];refine⟨by simp only;omega,⟨by simp only;omega,by simp only;omega⟩,by simp;omega,?_⟩;intro p hp;rw [aL89] at hp;rcases hp with rfl | hp
   . exact⟨h1,by simp only;omega,h4⟩
   . have:=k4 p hp;omega
theorem D9:∀ (l:List Int),(dl l).length=l.length / 2
 | []=>rfl
 | [a]=>by simp [dl]
 | a :: b :: l=>by rw [dl,eO,D9 l];simp;omega
theorem Ea:∀ (l:List Int) (k:Nat) {a b:Int},l[k*2]?=some a->l[k*2+1]?=some b->(dl l)[k]?=some (a,b)
 | [],k,a,b,h,_=>by simp at h
 | [x],k,a,b,h,h'=>by simp at h'
 | x :: y :: l,0,a,b,h,h'=>by simp at h h';subst h h';rfl
 | x :: y :: l,k+1,a,b,h,h'=>by
   rw [dl,aN];apply Ea l k
   . rw [show (k+1)*2=k*2+1+1 by omega] at h;simpa using h
   . rw [show (k+1)*2+1=k*2+1+1+1 by omega] at h';simpa using h'
def dP (l:List Q4):Int:=(l.map λ r=>(r.c - r.a)*(r.d - r.b)).sum
theorem oo:dP []=0:=rfl
theorem ot (r:Q4)(l:List Q4):dP (r :: l)=(r.c - r.a)*(r.d - r.b)+dP l:=by simp [dP]
theorem wE (l m:List Q4):dP (l++m)=dP l+dP m:=by
 induction l with
 | nil=>simp [oo]
 | cons r l ih=>rw [List.cons_append,ot,ot,ih];omega
theorem Eb (y e:Int):∀ l:List (Int×Int),dP (l.map λ p=>⟨p.1,y,p.2,e⟩)=kI l*(e - y)
 | []=>by simp [oo,kI]
 | p :: l=>by rw [mX,ot,Eb y e l,D8,Int.add_mul]
theorem Lk (g:ac):∀ (n:Nat) (y:Int),(40 - y).toNat<=n -> -40<=y->y<=40->0<=dP (ez g y)/\dP (ez g y)<=80*(40 - y):=by
 intro n
 induction n with
 | zero=>intro y hy _ _;rw [iL oM,oo];omega
 | succ n ih =>
   intro y hy h1 h2;by_cases h:y<40
   . rw [lC h,wE,gg,Eb];have g1:=nj g y (y+1);have g2:=pM g y (y+1) oM;obtain⟨k1,k2⟩:=ih (cN g y (y+1)) oM oM g2;obtain⟨p1,⟨-,p2⟩,-⟩:=rm (runs g y) (-40) (rl g y) oM;replace p2:=p2 oM;have q1:=Int.mul_nonneg p1 (show 0<=cN g y (y+1) - y by omega);have q2:=Int.mul_le_mul_of_nonneg_right p2 (show 0<=cN g y (y+1) - y by omega);generalize kI (dl (runs g y))*(cN g y (y+1) - y)=M at *
     omega
   . rw [iL oM,oo];omega
def ou (l:List (Int×Int)) (z:Int):Prop:=∃ p∈l,p.1<=z/\z<p.2
theorem Ll (z:Int):¬ ou [] z:=λ⟨_,h,_⟩=>by cases h
theorem Lm (p:Int×Int)(l:List (Int×Int))(z:Int):ou (p :: l) z↔(p.1<=z/\z<p.2)\/ou l z:=by simp [ou]
theorem pO {g:ac}{x y:Int}(h:40<=x):gh g x y=false:=dr (by rw [ax,mZ];left;simp;omega)
theorem wF {g:ac}{x y:Int}(h:x < -40):gh g x y=false:=dr (by rw [ax,mZ];left;simp;omega)
theorem Ln (g:ac)(y:Int):∀ (n:Nat) (x:Int),(41 - x).toNat<=n ->
 (gh g (x - 1) y=false->∀ z,ou (dl (ee g y x)) z↔x<=z/\gh g z y=true) /\
 (gh g (x - 1) y=true->∀ a,a<x->∀ z,ou (dl (a :: ee g y x)) z↔(a<=z/\z<x)\/(x<=z/\gh g z y=true)):=by
 intro n
 induction n with
 | zero =>
   intro x hx;refine⟨λ _ z=>?_,λ h=>?_⟩
   . rw [ij oM,dl]
     . refine⟨λ h=>absurd h (Ll z),λ⟨h1,h2⟩=>?_⟩;rw [pO oM] at h2;cases h2
     . intro a b l h;cases h
   . rw [pO oM] at h;cases h
 | succ n ih =>
   intro x hx;obtain⟨iA,iB⟩:=ih (x+1) oM;rw [show x+1 - 1=x by omega] at iA iB
   cases hc:gh g x y with
   | false =>
     refine⟨λ hp z=>?_,λ hp a ha z=>?_⟩
     . rw [kH (by rw [hc,hp]),iA hc z];constructor
       . rintro⟨h1,h2⟩;exact⟨oM,h2⟩
       . rintro⟨h1,h2⟩;refine⟨?_,h2⟩;exact Bl
     . have hx40:x<=40:=by
        rcases pN 40 x with h | h
        . rw [pO oM] at hp;cases hp
        . exact h
       rw [kG hx40 (by rw [hc,hp];simp),dl,Lm,iA hc z];constructor
       . rintro (h | ⟨h1,h2⟩)
         . exact ay h
         . exact aB ⟨oM,h2⟩
       . rintro (h | ⟨h1,h2⟩)
         . exact ay h
         . refine aB ⟨?_,h2⟩;exact Bl
   | true =>
     have hx40:x<40:=by
      rcases pN x 40 with h | h
      . exact h
      . rw [pO h] at hc;cases hc
     refine⟨λ hp z=>?_,λ hp a ha z=>?_⟩
     . rw [kG oM (by rw [hc,hp];simp),iB hc x oM z];constructor
       . rintro (⟨h1,h2⟩ | ⟨h1,h2⟩)
         . have:z=x:=oM;subst this;exact⟨oM,hc⟩
         . exact⟨oM,h2⟩
       . rintro⟨h1,h2⟩;by_cases he:z=x
         . left;omega
         . right;exact⟨oM,h2⟩
     . rw [kH (by rw [hc,hp]),iB hc a oM z];constructor
       . rintro (⟨h1,h2⟩ | ⟨h1,h2⟩)
         . by_cases he:z=x
           . subst he;right;exact⟨oM,hc⟩
           . left;omega
         . right;exact⟨oM,h2⟩
       . rintro (⟨h1,h2⟩ | ⟨h1,h2⟩)
         . left;omega
         . by_cases he:z=x
           . left;omega
           . right;exact⟨oM,h2⟩
theorem Lo (g:ac)(y z:Int):ou (dl (runs g y)) z↔gh g z y=true:=by
 rw [runs,(Ln g y _ (-40) (ai _)).1 (wF oM) z];refine⟨λ h=>h.2,λ h=>⟨?_,h⟩⟩;rcases pN z (-40) with h' | h'
 . rw [wF h'] at h;cases h
 . exact h'
theorem Ec (g:ac)(y:Int):∀ (n:Nat) (e:Int),(40 - e).toNat<=n->∀ v,e<=v->v<cN g y e->runs g v=runs g y:=by
 intro n
 induction n with
 | zero=>intro e he v h1 h2;rw [kF (ay oM)] at h2;omega
 | succ n ih =>
   intro e he v h1 h2;by_cases h40:e<40
   . by_cases hr:runs g e=runs g y
     . rw [rk h40 hr] at h2;by_cases hv:v=e
       . subst hv;exact hr
       . exact ih (e+1) oM v oM h2
     . rw [kF (aB hr)] at h2;omega
   . rw [kF (ay oM)] at h2;omega
theorem tM (l m:List Q4)(x y:Int):bA (l++m) x y=(bA l x y||bA m x y):=by simp [bA]
theorem Ed (g:ac)(y0 x y:Int):bA (gg g y0) x y=true↔(y0<=y/\y<cN g y0 (y0+1))/\gh g x y0=true:=by
 rw [<-Lo,bA,aL59,gg];constructor
 . rintro⟨r,hr,h⟩;rw [aL52] at hr;obtain⟨p,hp,rfl⟩:=hr;rw [inR_iff] at h;exact⟨h.2,p,hp,h.1⟩
 . rintro⟨h,p,hp,h2⟩;exact⟨_,pg hp,by rw [inR_iff];exact⟨h2,h⟩⟩
theorem Ee (g:ac):∀ (n:Nat) (y0:Int),(40 - y0).toNat<=n->y0<=40->∀ x y,bA (ez g y0) x y=true↔y0<=y/\gh g x y=true:=by
 intro n
 induction n with
 | zero => intro y0 hn h40 x y;exact Az
 | succ n ih =>
   intro y0 hn h40 x y;by_cases h:y0<40
   . have g1:=nj g y0 (y0+1);have g2:=pM g y0 (y0+1) oM;rw [lC h,tM,nM,Ed,ih _ oM g2];constructor
     . rintro (⟨h1,h2⟩ | ⟨h1,h2⟩)
       . refine⟨h1.1,?_⟩;by_cases he:y=y0
         . rw [he];exact h2
         . rw [runs_inj.1 (Ec g y0 _ (y0+1) (ai _) y oM h1.2) x];exact h2
       . exact⟨oM,h2⟩
     . rintro⟨h1,h2⟩;by_cases hl:y<cN g y0 (y0+1)
       . left;refine⟨⟨h1,hl⟩,?_⟩;by_cases he:y=y0
         . rw [<-he];exact h2
         . rw [<-runs_inj.1 (Ec g y0 _ (y0+1) (ai _) y oM hl) x];exact h2
       . right;exact⟨oM,h2⟩
   . exact Az
theorem nk (g:ac)(x y:Int):bA (ah g) x y=gh g x y:=by
 rw [aL62,ah,Ee g _ (-40) (ai _) oM];refine⟨λ h=>h.2,λ h=>⟨?_,h⟩⟩;rcases pN y (-40) with h' | h'
 . rw [dr] at h
   . cases h
   . rw [ax,mZ];right;simp;omega
 . exact h'
theorem Lp (g:ac):∀ (n:Nat) (y0:Int),(40 - y0).toNat<=n -> -40<=y0->y0<=40->(ez g y0).all vR=true/\(ez g y0).length<=40*(40 - y0).toNat:=by
 intro n
 induction n with
 | zero=>intro y0 hn h1 h2;rw [iL oM];simp
 | succ n ih =>
   intro y0 hn h1 h2;by_cases h:y0<40
   . have g1:=nj g y0 (y0+1);have g2:=pM g y0 (y0+1) oM;obtain⟨k1,k2⟩:=ih (cN g y0 (y0+1)) oM oM g2;obtain⟨-,-,p3,p4⟩:=rm (runs g y0) (-40) (rl g y0) oM;rw [lC h,nL,k1,Bool.and_true,aI,gg,dD];refine⟨?_,oM⟩;rw [aL79];intro r hr;rw [aL52] at hr;obtain⟨p,hp,rfl⟩:=hr;have:=p4 p hp;rw [vR_iff];simp only;omega
   . rw [iL oM];simp
def eS (l:List Q4):Bool:=decide (l.length<=3200)&&l.all vR
theorem ik (g:ac):eS (ah g)=true:=by
 obtain⟨h1,h2⟩:=Lp g _ (-40) (ai _) oM oM;rw [eS,ah,h1,Bool.and_true,dS];have:(40 - (-40:Int)).toNat=80:=by decide
 omega
theorem fC (g:ac):(ah g).length<=3200:=by have:=ik g;rw [eS,cm,dS] at this;exact this.1
theorem Ef (g:ac):ag (gL (ah g))=ag g:=tK λ x y hc=>by rw [gL,iK _ hc,nk]
theorem tN {g g':ac}(h:ag g=ag g')(x y:Int):gh g x y=gh g' x y:=by
 by_cases hc:ax x y=true
 . rw [gc hc,gc hc];have h1:=dv g (eJ hc);have h2:=dv g' (eJ hc);rw [h] at h1;rw [h1] at h2;simpa using h2
 . rw [gV] at hc;rw [dr hc,dr hc]
theorem Lq {g g':ac}(h:∀ x y,gh g x y=gh g' x y)(y:Int):∀ (n:Nat) (x:Int),(41 - x).toNat<=n->ee g y x=ee g' y x:=by
 intro n
 induction n with
 | zero=>intro x hx;rw [ij oM,ij oM]
 | succ n ih =>
   intro x hx;by_cases h4:x<=40
   . by_cases hd:gh g x y=gh g (x - 1) y
     . rw [kH hd,kH (g:=g') (x:=x) (by rw [<-h x,<-h (x - 1),hd]),ih (x+1) oM]
     . rw [kG h4 hd,kG (g:=g') h4 (by rw [<-h x,<-h (x - 1)];exact hd),ih (x+1) oM]
   . rw [ij oM,ij oM]
theorem rn {g g':ac}(h:∀ x y,gh g x y=gh g' x y)(y:Int):runs g y=runs g' y:=Lq h y _ _ (ai _)
theorem Lr {g g':ac}(h:∀ x y,gh g x y=gh g' x y)(y:Int):∀ (n:Nat) (e:Int),(40 - e).toNat<=n->cN g y e=cN g' y e:=by
 intro n
 induction n with
 | zero=>intro e he;rw [kF (ay oM),kF (ay oM)]
 | succ n ih =>
   intro e he;by_cases h4:e<40
   . by_cases hr:runs g e=runs g y
     . rw [rk h4 hr,rk (g:=g') h4 (by rw [<-rn h,<-rn h,hr]),ih (e+1) oM]
     . rw [kF (aB hr),kF (g:=g') (aB (by rw [<-rn h,<-rn h];exact hr))]
   . rw [kF (ay oM),kF (ay oM)]
theorem Ls {g g':ac}(h:∀ x y,gh g x y=gh g' x y):∀ (n:Nat) (y:Int),(40 - y).toNat<=n->ez g y=ez g' y:=by
 intro n
 induction n with
 | zero=>intro y hy;rw [iL oM,iL oM]
 | succ n ih =>
   intro y hy;by_cases h4:y<40
   . have:=nj g y (y+1);rw [lC h4,lC (g:=g') h4,gg,gg,rn h,<-Lr h y _ _ (ai _),ih (cN g y (y+1)) oM]
   . rw [iL oM,iL oM]
theorem tO {g g':ac}(h:∀ x y,gh g x y=gh g' x y):ah g=ah g':=Ls h _ _ (ai _)
theorem Eg {g g':ac}(h:ag g=ag g'):ah g=ah g':=tO (tN h)
def aH (l:List Q4):Bool:=eS l&&decide (ah (gL l)=l)
theorem ov (g:ac):aH (ah g)=true:=by rw [aH,ik,jv,dS];exact Eg (Ef g)
theorem isReg_iff {l:List Q4} : aH l=true↔eS l=true/\ah (gL l)=l:=by simp [aH]
theorem Lt {l:List Q4}(h:ah (gL l)=l):0<=dP l/\dP l<=6400:=by have:=Lk (gL l) _ (-40) (ai _) oM oM;rw [show ez (gL l) (-40)=ah (gL l) from rfl,h] at this;omega
end Go.Proofs.YtnlajnpcdnnpmaaGreat
