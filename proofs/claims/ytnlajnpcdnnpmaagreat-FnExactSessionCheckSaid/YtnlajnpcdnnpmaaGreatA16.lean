/- Part of a proof. No condition. -/
import Derived.Test.YtnlajnpcdnnpmaaGreatA15
namespace Go.Proofs.YtnlajnpcdnnpmaaGreat
set_option linter.all false
set_option maxRecDepth 100000
set_option maxHeartbeats 16000000
def p2 (i:Nat):Q2:=⟨bF i,bG i⟩
def gP (g h:ac):ac:=λ i=>g i||h i
def oF (g h:ac):ac:=λ i=>g i&&!h i
theorem Fq (g h:ac)(x y:Int):gh (gP g h) x y=(gh g x y||gh h x y):=by rw [gh,gh,gh,gP];cases ax x y <;> simp
theorem Md (g h:ac)(x y:Int):gh (oF g h) x y=(gh g x y&&!gh h x y):=by rw [gh,gh,gh,oF];cases ax x y <;> simp
def iw (g:ac):Nat->Nat->ac->List ac
 | 0,_,_=>[]
 | n+1,i,d=>if (g i&&!d i)=true then dA g false (p2 i) :: iw g n (i+1) (gP d (dA g false (p2 i))) else iw g n (i+1) d
def bk (g:ac):List ac:=iw g 6400 0 bo
theorem xB {g d:ac}{n i:Nat}(h:g i=true)(h2:d i=false):iw g (n+1) i d=dA g false (p2 i) :: iw g n (i+1) (gP d (dA g false (p2 i))):=by rw [iw,aw (by rw [h,h2];rfl)]
theorem xC {g d:ac}{n i:Nat}(h:(g i&&!d i)=false):iw g (n+1) i d=iw g n (i+1) d:=by rw [iw,ar (by rw [h];simp)]
theorem kM {i:Nat}(h:i<6400):ax (p2 i).a (p2 i).b=true:=wC h
theorem kn {g:ac}{i:Nat}(h:i<6400):gh g (p2 i).a (p2 i).b=g i:=je h
theorem Me {r q:Q2}(h:eA false r q):eA false q r:=by
 obtain⟨h1,h2,h3⟩:=h;refine⟨oM,oM,?_⟩;rcases h3 with h | h | h
 . exact ay h.symm
 . exact aB (ay h.symm)
 . cases h
theorem Mf {q:Q2}(h:ax q.a q.b=true):p2 (av q.a q.b)=q:=by cases q;simp only [p2];rw [nh h,ni h]
theorem setC_iff {g:ac}{q:Q2} : aP g q↔ax q.a q.b=true/\g (av q.a q.b)=true:=by rw [aP,gh,cm]
theorem pY {g:ac}{p:Q2}(h:ax p.a p.b=true)(q:Q2)(hq:ax q.a q.b=true):aP (dA g false p) q↔Rch (eA false) (aP g) p q:=by rw [aP,dA,gD,iK _ hq,dS];exact Mc g false h q
theorem oG {g:ac}{p:Q2}(h:ax p.a p.b=true){i:Nat}(hi:i<6400):dA g false p i=true↔Rch (eA false) (aP g) p (p2 i):=by rw [<-pY h _ (kM hi),aP,kn hi]
theorem xD {nb:Q2->Q2->Prop}{g:ac}{p q:Q2}(hp:aP g p)(h:Rch nb (aP g) p q):aP g q:=by
 cases h with
 | refl=>exact hp
 | step _ _ h=>exact h
theorem Rch.trans {nb:Q2->Q2->Prop}{fr:Q2->Prop}{p q r:Q2}(h:Rch nb fr p q)(k:Rch nb fr q r):Rch nb fr p r:=by
 induction k with
 | refl=>exact h
 | step _ h2 h3 ih=>exact Rch.step ih h2 h3
theorem Rch.turn {g:ac}{p q:Q2}(hp:aP g p)(h:Rch (eA false) (aP g) p q):Rch (eA false) (aP g) q p:=by
 induction h with
 | refl=>exact Rch.refl
 | step h1 h2 h3 ih=>exact (Rch.step Rch.refl (Me h2) (xD hp h1)).trans ih
structure Scan (g:ac) (i:Nat) (d:ac):Prop where
 sub:∀ q,aP d q->aP g q
 closed:∀ q r,aP d q->eA false q r->aP g r->aP d r
 seen:∀ j,j<i->j<6400->g j=true->d j=true
 own:∀ q,aP d q->∃ j,j<i/\Rch (eA false) (aP g) (p2 j) q/\g j=true/\j<6400
theorem Scan.start (g:ac):Scan g 0 bo:=by
 have h:∀ q,¬ aP bo q:=λ q h=>by rw [setC_iff] at h;exact absurd h.2 (by simp [bo])
 exact⟨λ q hq=>absurd hq (h q),λ q _ hq=>absurd hq (h q),λ j hj=>absurd hj oM,λ q hq=>absurd hq (h q)⟩
theorem Scan.closedR {g d:ac}{i:Nat}(h:Scan g i d){q r:Q2}(hq:aP d q)(hr:Rch (eA false) (aP g) q r):aP d r:=by
 induction hr with
 | refl=>exact hq
 | step _ h2 h3 ih=>exact h.closed _ _ ih h2 h3
theorem Scan.miss {g d:ac}{i:Nat}(h:Scan g i d)(hm:(g i&&!d i)=false):Scan g (i+1) d:=by
 refine⟨h.sub,h.closed,λ j hj h6 hg=>?_,λ q hq=>?_⟩
 . by_cases he:j=i
   . subst he;rw [hg] at hm;simpa using hm
   . exact h.seen j oM h6 hg
 . obtain⟨j,h1,h2⟩:=h.own q hq;exact⟨j,oM,h2⟩
theorem Scan.hit {g d:ac}{i:Nat}(h:Scan g i d)(h6:i<6400)(hg:g i=true):Scan g (i+1) (gP d (dA g false (p2 i))):=by
 have hp:=kM h6;have hpg:aP g (p2 i):=by rw [aP,kn h6];exact hg
 have hor:∀ q,aP (gP d (dA g false (p2 i))) q↔aP d q\/aP (dA g false (p2 i)) q:=λ q=>by rw [aP,Fq,nM];exact Iff.rfl
 have hon:∀ {c:ac} {q:Q2},aP c q->ax q.a q.b=true:=λ h=>(setC_iff.1 h).1
 refine⟨λ q hq=>?_,λ q r hq hn hr=>?_,λ j hj hj6 hgj=>?_,λ q hq=>?_⟩
 . rcases (hor q).1 hq with h1 | h1
   . exact h.sub q h1
   . exact xD hpg ((pY hp q (hon h1)).1 h1)
 . rw [hor] at hq ⊢;rcases hq with h1 | h1
   . exact ay (h.closed q r h1 hn hr)
   . exact aB ((pY hp r (hon hr)).2 (Rch.step ((pY hp q (hon h1)).1 h1) hn hr))
 . show (d j||dA g false (p2 i) j)=true;rw [nM];by_cases he:j=i
   . subst he;exact aB ((oG hp hj6).2 Rch.refl)
   . exact ay (h.seen j oM hj6 hgj)
 . rcases (hor q).1 hq with h1 | h1
   . obtain⟨j,h1,h2⟩:=h.own q h1;exact⟨j,oM,h2⟩
   . exact⟨i,oM,(pY hp q (hon h1)).1 h1,hg,h6⟩
theorem Scan.apart {g d:ac}{i:Nat}(h:Scan g i d)(h6:i<6400)(hg:g i=true)(hd:d i=false){q:Q2}(hq:Rch (eA false) (aP g) (p2 i) q):¬ aP d q:=by
 intro hdq;have hpg:aP g (p2 i):=by rw [aP,kn h6];exact hg
 have:=h.closedR hdq (hq.turn hpg);rw [aP,kn h6,hd] at this
 cases this
theorem Scan.left {g d l:ac}{i:Nat}(h:Scan g i d)(h6:i<6400)(hg:g i=true)(hd:d i=false)(hl:∀ x y,gh l x y=(gh g x y&&!gh d x y)):ag (dA l false (p2 i))=ag (dA g false (p2 i)):=by
 have hp:=kM h6;refine df λ j hj=>?_
 rw [aL62,oG hp hj,oG hp hj];constructor
 . intro hr;generalize p2 j=q at hr
   induction hr with
   | refl=>exact Rch.refl
   | step _ h2 h3 ih => refine Rch.step ih h2 ?_;rw [aP,hl,cm] at h3;exact h3.1
 . intro hr;generalize p2 j=q at hr
   induction hr with
   | refl=>exact Rch.refl
   | step h1 h2 h3 ih => refine Rch.step ih h2 ?_;have hn:=h.apart h6 hg hd (Rch.step h1 h2 h3);rw [aP] at hn h3;rw [aP,hl,h3];simpa using hn
def xE (c:ac) (i:Nat):Prop:=i<6400/\c i=true/\∀ j,j<6400->c j=true->i<=j
theorem Scan.first {g d:ac}{i:Nat}(h:Scan g i d)(h6:i<6400)(hg:g i=true)(hd:d i=false):xE (dA g false (p2 i)) i:=by
 have hp:=kM h6;have hpg:aP g (p2 i):=by rw [aP,kn h6];exact hg
 refine⟨h6,(oG hp h6).2 Rch.refl,λ j hj hc=>?_⟩;rcases kX j i with hlt | hge
 . have hr:=(oG hp hj).1 hc;have hgj:g j=true:=by have:=xD hpg hr;rwa [aP,kn hj] at this
   exact absurd (by rw [aP,kn hj];exact h.seen j hlt hj hgj) (h.apart h6 hg hd hr)
 . exact hge
def lM (g:ac) (c:ac) (i:Nat):Prop:=xE c i/\g i=true/\∀ q,ax q.a q.b=true->(aP c q↔Rch (eA false) (aP g) (p2 i) q)
theorem Scan.part {g d:ac}{i:Nat}(h:Scan g i d)(h6:i<6400)(hg:g i=true)(hd:d i=false):lM g (dA g false (p2 i)) i :=
 ⟨h.first h6 hg hd,hg,λ q hq=>pY (kM h6) q hq⟩
theorem xF {g:ac} : ∀ (n i:Nat) (d:ac),n+i=6400->Scan g i d->(∀ c∈iw g n i d,∃ k,i<=k/\lM g c k/\d k=false)/\(iw g n i d).Pairwise (λ c c'=>∃ k k',lM g c k/\lM g c' k'/\k<k'/\¬ Rch (eA false) (aP g) (p2 k) (p2 k'))/\(∀ j,j<6400->g j=true->d j=true\/∃ c∈iw g n i d,c j=true)/\(iw g n i d).length<=n
 | 0,i,d,hn,hs=>by refine⟨(λ c hc=>by cases hc),List.Pairwise.nil,(λ j hj hg=>ay (hs.seen j oM hj hg)),ai _⟩
 | n+1,i,d,hn,hs=>by
   have h6:i<6400:=oM;by_cases hh:(g i&&!d i)=true
   . have hh2:=hh;rw [cm,qN] at hh2;obtain⟨hg,hd⟩:=hh2;have hsn:=hs.hit h6 hg;obtain⟨ih1,ih2,ih3,ih4⟩:=xF n (i+1) _ oM hsn;rw [xB hg hd];refine⟨λ c hc=>?_,List.Pairwise.cons (λ c hc=>?_) ih2,λ j hj hgj=>?_,by rw [eO];omega⟩
     . rw [aL89] at hc;rcases hc with rfl | hc
       . exact⟨i,ai _,hs.part h6 hg hd,hd⟩
       . obtain⟨k,h1,h2,h3⟩:=ih1 c hc;simp only [gP,Bool.or_eq_false_iff] at h3;exact⟨k,oM,h2,h3.1⟩
     . obtain⟨k,h1,h2,h3⟩:=ih1 c hc;simp only [gP,Bool.or_eq_false_iff] at h3;refine⟨i,k,hs.part h6 hg hd,h2,oM,λ hr=>?_⟩;have:=(oG (g:=g) (kM h6) h2.1.1).2 hr;rw [this] at h3;exact absurd h3.2 (by simp)
     . rcases ih3 j hj hgj with h1 | ⟨c,h1,h2⟩
       . simp only [gP,nM] at h1;rcases h1 with h1 | h1
         . exact ay h1
         . exact aB ⟨_,List.mem_cons_self,h1⟩
       . exact aB ⟨c,List.mem_cons_of_mem _ h1,h2⟩
   . rw [gV] at hh;obtain⟨ih1,ih2,ih3,ih4⟩:=xF n (i+1) d oM (hs.miss hh);rw [xC hh];refine⟨λ c hc=>?_,ih2,ih3,oM⟩;obtain⟨k,h1,h2⟩:=ih1 c hc;exact⟨k,oM,h2⟩
theorem jI (g:ac):(∀ c∈bk g,∃ k,lM g c k)/\(bk g).Pairwise (λ c c'=>∃ k k',lM g c k/\lM g c' k'/\k<k'/\¬ Rch (eA false) (aP g) (p2 k) (p2 k'))/\(∀ j,j<6400->g j=true->∃ c∈bk g,c j=true)/\(bk g).length<=6400:=by
 obtain⟨h1,h2,h3,h4⟩:=xF (g:=g) 6400 0 bo rfl (Scan.start g);refine⟨λ c hc=>?_,h2,λ j hj hg=>?_,h4⟩
 . obtain⟨k,_,h,_⟩:=h1 c hc;exact⟨k,h⟩
 . rcases h3 j hj hg with h | h
   . simp [bo] at h
   . exact h
def Fr (r s:Q4):Prop:=r.b<s.b\/(r.b=s.b/\r.a<=s.a)
theorem Mg:∀ (l:List Int) (lo:Int),Inc lo l->∀ p ps,dl l=p :: ps->∀ s∈dl l,p.1<=s.1
 | [],lo,_,p,ps,h,_,_=>by simp [dl] at h
 | [a],lo,_,p,ps,h,_,_=>by simp [dl] at h
 | a :: b :: l,lo,hi,p,ps,h,s,hs=>by
   rw [dl] at h hs;obtain⟨rfl,rfl⟩:=List.cons.inj h;obtain⟨h1,h2,h3,h4,h5⟩:=hi;rw [aL89] at hs;rcases hs with rfl | hs
   . exact fW _
   . obtain⟨_,_,_,k⟩:=rm l (b+1) h5 oM;have:=k s hs;show a<=s.1;omega
theorem Mh (g:ac):∀ (n:Nat) (y:Int),(40 - y).toNat<=n->y<=40->(∀ r∈ez g y,y<=r.b)/\∀ r rs,ez g y=r :: rs->∀ s∈ez g y,Fr r s:=by
 intro n
 induction n with
 | zero=>intro y hn h40;rw [iL oM];exact⟨(λ r hr=>by cases hr),(λ r rs h=>by cases h)⟩
 | succ n ih =>
   intro y hn h40;by_cases h:y<40
   . have g1:=nj g y (y+1);have g2:=pM g y (y+1) oM;obtain⟨i1,i2⟩:=ih (cN g y (y+1)) oM g2;have hb:∀ r∈gg g y,r.b=y:=λ r hr=>by rw [gg,aL52] at hr;obtain⟨p,_,rfl⟩:=hr;rfl
     rw [lC h];refine⟨λ r hr=>?_,λ r rs hrs s hs=>?_⟩
     . rw [aL49] at hr;rcases hr with hr | hr
       . rw [hb r hr];exact fW _
       . have:=i1 r hr;omega
     . cases hpp:dl (runs g y) with
       | nil =>
         have hbn:gg g y=[]:=by rw [gg,hpp];rfl
         rw [hbn,List.nil_append] at hrs hs;exact i2 r rs hrs s hs
       | cons p ps =>
         have hbn:gg g y=⟨p.1,y,p.2,cN g y (y+1)⟩:: ps.map λ p=>⟨p.1,y,p.2,cN g y (y+1)⟩:=by rw [gg,hpp];rfl
         have hr:r=⟨p.1,y,p.2,cN g y (y+1)⟩:=by rw [hbn,List.cons_append] at hrs;exact (List.cons.inj hrs).1.symm
         subst hr;rw [aL49] at hs;rcases hs with hs | hs
         . right;refine⟨(hb s hs).symm,?_⟩;rw [gg,aL52] at hs;obtain⟨t,ht,rfl⟩:=hs;exact Mg _ _ (rl g y) p ps hpp t ht
         . left;have:=i1 s hs;show y<s.b;omega
   . rw [iL oM];exact⟨(λ r hr=>by cases hr),(λ r rs h=>by cases h)⟩
theorem iR {l:List Q4}(h:eS l=true):∀ r∈l,vR r=true:=by rw [eS,cm,aL79] at h;exact h.2
theorem uk {c:ac}{i:Nat}(h:xE c i):∃ r rs,ah c=r :: rs/\r.a=bF i/\r.b=bG i:=by
 obtain⟨h6,hc,hmin⟩:=h;have hin:bA (ah c) (bF i) (bG i)=true:=by rw [nk,je h6];exact hc
 rw [bA,aL59] at hin;obtain⟨s,hs,hsi⟩:=hin
 cases hcn:ah c with
 | nil=>rw [hcn] at hs;cases hs
 | cons r rs =>
   refine⟨r,rs,rfl,?_⟩;have hle:=(Mh c _ (-40) (ai _) oM).2 r rs hcn s hs;have hv:=vR_iff.1 ((iR (ik c)) r (by rw [hcn];exact List.mem_cons_self));have hr:gh c r.a r.b=true:=by rw [<-nk,bA,aL59];exact⟨r,by rw [hcn];exact List.mem_cons_self,by rw [inR_iff];omega⟩
   have hon:ax r.a r.b=true:=by
    cases ho:ax r.a r.b with
    | true=>rfl
    | false=>rw [dr ho] at hr;cases hr
   rw [gc hon] at hr;have hm:=hmin _ (eJ hon) hr;rw [inR_iff] at hsi;rw [onC_iff] at hon;unfold Fr at hle;unfold av at hm;unfold bF bG at hsi ⊢;omega
def ko (l c:ac) (m:Nat):ac:=λ j=>l j&&!(decide (j<m)&&c j)
theorem Mi (l c:ac):ag l=ag (ko l c 0):=df λ i _=>by simp [ko]
theorem Mj (l c:ac):ag (ko l c 6400)=ag (oF l c):=df λ i hi=>by simp [ko,oF,hi]
theorem Mk (l c:ac)(m:Nat):(ag (ko l c m)).set m (.bool (l m&&!c m))=ag (ko l c (m+1)):=by
 rw [j9];refine df λ i _=>?_
 rw [ig,ko,ko];by_cases e:i=m
 . subst e;simp
 . rw [ar e];have:decide (i<m)=decide (i<m+1):=by rw [aL62];simp;omega
   rw [this]
theorem Ml (l c:ac)(m:Nat):ko l c m m=l m:=by simp [ko]
structure PtI (g:ac) (i:Nat) (l d:ac) (G:List ac):Prop where
 scan:Scan g i d
 split:bk g=G++iw g (6400 - i) i d
 left:∀ x y,gh l x y=(gh g x y&&!gh d x y)
theorem PtI.start (g:ac):PtI g 0 g bo []:=⟨Scan.start g,rfl,λ x y=>by simp [gh,bo]⟩
theorem PtI.val {g l d:ac}{i:Nat}{G:List ac}(h:PtI g i l d G)(h6:i<6400):l i=(g i&&!d i):=by have:=h.left (bF i) (bG i);rwa [je h6,je h6,je h6] at this
theorem PtI.miss {g l d:ac}{i:Nat}{G:List ac}(h:PtI g i l d G)(h6:i<6400)(hl:l i=false):PtI g (i+1) l d G:=by have hv:=h.val h6;rw [hl] at hv;refine⟨h.scan.miss hv.symm,?_,h.left⟩;rw [h.split,show 6400 - i=(6400 - (i+1))+1 by omega,xC hv.symm]
theorem PtI.hit {g l d:ac}{i:Nat}{G:List ac}(h:PtI g i l d G)(h6:i<6400)(hl:l i=true) :
 ag (dA l false (p2 i))=ag (dA g false (p2 i))/\PtI g (i+1) (oF l (dA g false (p2 i))) (gP d (dA g false (p2 i))) (G++[dA g false (p2 i)]):=by
 have hv:=h.val h6;rw [hl] at hv;have h2:=hv.symm;rw [cm,qN] at h2;refine⟨h.scan.left h6 h2.1 h2.2 h.left,h.scan.hit h6 h2.1,?_,λ x y=>?_⟩
 . rw [h.split,show 6400 - i=(6400 - (i+1))+1 by omega,xB h2.1 h2.2,fc,List.singleton_append]
 . rw [Md,Fq,h.left,Bool.not_or,Bool.and_assoc]
theorem PtI.done {g l d:ac}{G:List ac}(h:PtI g 6400 l d G):bk g=G:=by rw [h.split];exact fP _
theorem PtI.len {g l d:ac}{i:Nat}{G:List ac}(h:PtI g i l d G):G.length<=6400:=by have:=(jI g).2.2.2;rw [h.split,aI] at this;omega
theorem PtI.room {g l d:ac}{i:Nat}{G:List ac}(h:PtI g i l d G)(h6:i<6400)(hl:l i=true):G.length+1<=6400:=by have:=(h.hit h6 hl).2.len;rwa [aI] at this
def nv (r s:Q4):Prop:=r.b<s.b\/(r.b=s.b/\r.a<s.a)
theorem Fs (g:ac):∃ f:Nat->Q4,(∀ k l,((bk g).map ah)[k]?=some l->∃ rs,l=f k :: rs)/\(∀ j k,j<k->k<(bk g).length->nv (f j) (f k)):=by
 obtain⟨h1,h2,_,_⟩:=jI g;refine⟨λ k=>(((bk g).map ah).getD k []).headD ⟨0,0,0,0⟩,λ k l hl=>?_,λ j k hjk hk=>?_⟩
 . have hl2:=hl;rw [cK,ew] at hl2;obtain⟨c,hc,rfl⟩:=hl2;obtain⟨i,hi⟩:=h1 c (ap hc);obtain⟨r,rs,hr,_⟩:=uk hi.1;refine⟨rs,?_⟩;show ah c=(((bk g).map ah).getD k []).headD ⟨0,0,0,0⟩:: rs;rw [kz,hl,hr];rfl
 . rw [aL121] at h2;obtain⟨i,i',hi,hi',hlt,_⟩:=h2 j k oM hk hjk;obtain⟨r,rs,hr,ha,hb⟩:=uk hi.1;obtain⟨s,ss,hs,ha',hb'⟩:=uk hi'.1;have e:∀ {k:Nat} (hk:k<(bk g).length) {r rs},ah (bk g)[k]=r :: rs->(((bk g).map ah).getD k []).headD ⟨0,0,0,0⟩=r:=λ hk r rs hr=>by rw [kz,cK,bK hk,Option.map_some,hr];rfl
   show nv ((((bk g).map ah).getD j []).headD ⟨0,0,0,0⟩) ((((bk g).map ah).getD k []).headD ⟨0,0,0,0⟩);rw [e oM hr,e hk hs,nv,ha,hb,ha',hb'];unfold bF bG;omega
def cH (g:ac) (rel:Nat->Nat->Bool) (cut:Nat->Int) (m:Nat) (t:Int):ac:=λ i=>(List.range m).any (λ j=>g j&&rel j i)||(g m&&rel m i&&decide (cut i<t))
def oH (g:ac) (rel:Nat->Nat->Bool):ac:=λ i=>(List.range 6400).any λ j=>g j&&rel j i
section
variable {g:ac} {rel:Nat->Nat->Bool} {cut:Nat->Int} {m:Nat} {t:Int}
theorem Ft (ht:∀ i,i<6400->t<=cut i):ag bo=ag (cH g rel cut 0 t):=df λ i hi=>by have:=ht i hi;simp [bo,cH];intro _ _;omega
theorem ul (h:∀ i,i<6400->g m=true->rel m i=true->cut i<t)(t':Int)(ht:∀ i,i<6400->t'<=cut i):ag (cH g rel cut m t)=ag (cH g rel cut (m+1) t'):=df λ i hi=>by
 rw [cH,cH,la,pi];have h1:decide (cut i<t')=false:=by have:=ht i hi;simp;omega
 have h2:(g m&&rel m i&&decide (cut i<t))=(g m&&rel m i):=by
  cases hg:g m <;> cases hr:rel m i
  . rfl
  . rfl
  . rfl
  . have:=h i hi hg hr;simp [this]
 rw [h1,h2];simp
theorem Fu (h:∀ i,i<6400->¬ (g m=true/\rel m i=true/\cut i=t)):ag (cH g rel cut m t)=ag (cH g rel cut m (t+1)):=df λ i hi=>by
 rw [cH,cH]
 congr 1
 cases hg:g m <;> cases hr:rel m i
 . rfl
 . rfl
 . rfl
 . have:=h i hi
   have h2:decide (cut i<t)=decide (cut i<t+1):=by
    rw [aL127];have:cut i≠t:=λ e=>this ⟨hg,hr,e⟩
    omega
   rw [h2]
theorem Fv {i0:Nat}(hg:g m=true)(hr:rel m i0=true)(hc:cut i0=t)(hu:∀ i,i<6400->rel m i=true->cut i=t->i=i0):(ag (cH g rel cut m t)).set i0 (.bool true)=ag (cH g rel cut m (t+1)):=by
 rw [j9];refine df λ i hi=>?_
 rw [ig,cH,cH];by_cases e:i=i0
 . subst e;rw [aw rfl,hg,hr,hc];simp;right;omega
 . rw [ar e]
   congr 1
   cases hri:rel m i
   . simp
   . have h2:decide (cut i<t)=decide (cut i<t+1):=by
      rw [aL127];have:cut i≠t:=λ e'=>e (hu i hi hri e')
      omega
     rw [h2]
theorem Fw (ht:∀ i,i<6400->t<=cut i):ag (cH g rel cut 6400 t)=ag (oH g rel):=df λ i hi=>by
 have h1:decide (cut i<t)=false:=by have:=ht i hi;simp;omega
 rw [cH,oH,h1];simp
end
def iS (k:Int) (j i:Nat):Bool:=decide (bG j=bG i)&&decide (bF i - bF j<=k)&&decide (bF j - bF i<=k)
def jl (k:Int) (j i:Nat):Bool:=decide (bF j=bF i)&&decide (bG i - bG j<=k)&&decide (bG j - bG i<=k)
theorem rJ {k:Int}{j i:Nat} : iS k j i=true↔bG j=bG i/\bF i - bF j<=k/\bF j - bF i<=k:=by simp [iS,and_assoc]
theorem rK {k:Int}{j i:Nat} : jl k j i=true↔bF j=bF i/\bG i - bG j<=k/\bG j - bG i<=k:=by simp [jl,and_assoc]
def oI (g:ac) (k:Int):ac:=oH (oH g (iS k)) (jl k)
theorem Mm (g:ac)(k:Int){u v:Int} : gh (oI g k) u v=true↔ax u v=true/\∃ x y,gh g x y=true/\(x - u<=k/\u - x<=k)/\(y - v<=k/\v - y<=k):=by
 cases hc:ax u v with
 | false=>rw [dr hc];simp
 | true =>
   have hb:=onC_iff.1 hc;have e1:=nh hc;have e2:=ni hc;rw [gc hc,oI,oH,aL59];simp only [true_and,cm,rK,oH,aL59,rJ,aL70,e1,e2];constructor
   . rintro⟨j,hj,⟨i,hi,hg,h1,h2,h3⟩,h4,h5,h6⟩;refine⟨bF i,bG i,by rw [je hi];exact hg,?_,?_⟩ <;> omega
   . rintro⟨x,y,hg,h1,h2⟩
     have hon:ax x y=true:=by
      cases ho:ax x y with
      | true=>rfl
      | false=>rw [dr ho] at hg;cases hg
     have hb2:=onC_iff.1 hon;have hon2:ax u y=true:=by rw [onC_iff];omega
     have a1:=nh hon;have a2:=ni hon;have a3:=nh hon2;have a4:=ni hon2;rw [gc hon] at hg;refine⟨av u y,eJ hon2,⟨av x y,eJ hon,hg,?_,?_,?_⟩,?_,?_,?_⟩ <;> omega
end Go.Proofs.YtnlajnpcdnnpmaaGreat
