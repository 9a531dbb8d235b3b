/- Part of a proof. No condition. -/
import Derived.Test.YtnlajnpcdnnpmaaGreatA14
namespace Go.Proofs.YtnlajnpcdnnpmaaGreat
set_option linter.all false
set_option maxRecDepth 100000
set_option maxHeartbeats 16000000
abbrev St:=(Q2->Int)×List Q2
def bS (D:Q2->Int) (q:Q2) (v:Int):Q2->Int:=λ x=>if x=q then v else D x
def fM (g:ac) (D:Q2->Int) (q:Q2):Bool:=!gh g q.a q.b&&decide (D q<0)
def inn (g:ac) (v:Int):List Q2->St->St
 | [],s=>s
 | q :: qs,s=>if fM g s.1 q=true then inn g v qs (bS s.1 q v,s.2++[q]) else inn g v qs s
def outr (g:ac):Nat->Nat->St->St
 | 0,_,s=>s
 | n+1,i,s=>match s.2[i]? with
   | none=>s
   | some p=>outr g n (i+1) (inn g (s.1 p+1) (eh p) s)
def eV (p:Q2):St:=(λ x=>if x=p then 0 else -1,[p])
theorem L6 (g:ac)(v:Int)(s:St):inn g v [] s=s:=rfl
theorem oC {g:ac}{v:Int}{q:Q2}{qs:List Q2}{s:St}(h:fM g s.1 q=true):inn g v (q :: qs) s=inn g v qs (bS s.1 q v,s.2++[q]):=by rw [inn,aw h]
theorem pV {g:ac}{v:Int}{q:Q2}{qs:List Q2}{s:St}(h:fM g s.1 q=false):inn g v (q :: qs) s=inn g v qs s:=by rw [inn,ar (by rw [h];simp)]
theorem xy {g:ac}{n i:Nat}{s:St}{p:Q2}(h:s.2[i]?=some p):outr g (n+1) i s=outr g n (i+1) (inn g (s.1 p+1) (eh p) s):=by rw [outr,h]
theorem Fk:∀ (n:Nat) (l:List Nat),l.Nodup->(∀ x∈l,x<n)->l.length<=n
 | 0,l,_,h=>by cases l with | nil=>simp | cons x l=>exact absurd (h x (by simp)) oM
 | n+1,l,hd,h=>by
   have h1:=Fk n (l.erase n) (hd.erase n) (λ x hx=>by have h2:=h x (List.mem_of_mem_erase hx);have h3:=(hd.mem_erase_iff.1 hx).1;omega);by_cases hn:n∈l
   . rw [List.length_erase_of_mem hn] at h1;omega
   . rw [List.erase_of_not_mem hn] at h1;omega
structure Inv (s:St):Prop where
 nd:s.2.Nodup
 mem:∀ q,q∈s.2↔0<=s.1 q
 on:∀ q∈s.2,ax q.a q.b=true
 bd:∀ q,-1<=s.1 q/\s.1 q<s.2.length
theorem Inv.len {s:St}(h:Inv s):s.2.length<=6400:=by
 have h1:(s.2.map λ q=>av q.a q.b).Nodup:=by
  rw [List.nodup_iff_pairwise_ne,List.pairwise_map];refine (List.nodup_iff_pairwise_ne.1 h.nd).imp_of_mem λ{a b} ha hb hne he=>hne ?_
  have:=D1 (h.on a ha) (h.on b hb) he
  cases a;cases b;simp at this;simp [this]
 have:=Fk 6400 _ h1 (λ x hx=>by rw [aL52] at hx;obtain⟨q,hq,rfl⟩:=hx;exact eJ (h.on q hq));simpa using this
theorem rG {p:Q2}(h:ax p.a p.b=true):Inv (eV p):=by
 refine⟨by simp [eV],λ q=>?_,λ q hq=>?_,λ q=>?_⟩
 . simp only [eV,aL77];by_cases e:q=p <;> simp [e]
 . simp only [eV,aL77] at hq;rw [hq];exact h
 . simp only [eV];by_cases e:q=p <;> simp [e]
theorem Inv.add {g:ac}{s:St}{q:Q2}{v:Int}(h:Inv s)(ho:fM g s.1 q=true)(hc:ax q.a q.b=true)(h0:0<=v)(h1:v<=s.2.length):Inv (bS s.1 q v,s.2++[q]):=by
 rw [fM,cm,dS] at ho;have hn:q∉s.2:=λ hq=>by have:=(h.mem q).1 hq;omega
 refine⟨?_,λ x=>?_,λ x hx=>?_,λ x=>?_⟩
 . show (s.2++[q]).Nodup;rw [List.nodup_append];exact⟨h.nd,by simp,λ a ha b hb=>by simp at hb;subst hb;exact λ e=>hn (e▸ha)⟩
 . show x∈s.2++[q]↔0<=bS s.1 q v x;rw [aL49,aL77,bS];by_cases e:x=q
   . simp [e,h0]
   . simp [e,h.mem]
 . have hx':x∈s.2++[q]:=hx;rw [aL49,aL77] at hx';rcases hx' with hx' | rfl
   . exact h.on x hx'
   . exact hc
 . show -1<=bS s.1 q v x/\bS s.1 q v x<((s.2++[q]).length:Int);rw [bS,aI];have:=h.bd x;by_cases e:x=q
   . simp only [aw e,List.length_singleton];omega
   . simp only [ar e,List.length_singleton];omega
theorem Inv.inn {g:ac}{v:Int}(h0:0<=v):∀ (qs:List Q2) (s:St),Inv s->(∀ q∈qs,ax q.a q.b=true)->v<=s.2.length->Inv (inn g v qs s)
 | [],_,h,_,_=>h
 | q :: qs,s,h,hq,h1=>by
   cases ho:fM g s.1 q with
   | true => rw [oC ho];exact Inv.inn h0 qs _ (h.add ho (hq q (by simp)) h0 h1) (λ x hx=>hq x (by simp [hx])) (by show v<=((s.2++[q]).length:Int);rw [aI];omega)
   | false => rw [pV ho];exact Inv.inn h0 qs s h (λ x hx=>hq x (by simp [hx])) h1
theorem pW {p q:Q2}(h:q∈eh p):ax q.a q.b=true:=(List.mem_filter.1 h).2
theorem Inv.outr {g:ac} : ∀ (n i:Nat) (s:St),Inv s->Inv (outr g n i s)
 | 0,_,_,h=>h
 | n+1,i,s,h=>by
   cases hp:s.2[i]? with
   | none=>rw [Go.Proofs.YtnlajnpcdnnpmaaGreat.outr,hp];exact h
   | some p => rw [xy hp];have h1:=(h.mem p).1 (ap hp);have h2:=h.bd p;exact Inv.outr n (i+1) _ (Inv.inn oM _ s h (λ q hq=>pW hq) oM)
theorem near_iff {p q:Q2} : q∈eh p↔ax q.a q.b=true/\nt p q=true:=by
 constructor
 . intro h;have hc:=pW h;exact⟨hc,by rw [<-Fi hc,dS];exact h⟩
 . rintro⟨hc,h⟩;rw [<-Fi hc,dS] at h;exact h
theorem L7 (p q:Q2):nt p q=nt q p:=by rw [aL62,nt,nt,dS,dS];omega
theorem L8 {p q:Q2}(hp:ax p.a p.b=true)(hq:ax q.a q.b=true):q∈eh p↔p∈eh q:=by rw [near_iff,near_iff,hp,hq,L7]
structure Down (p:Q2) (s:St):Prop where
 pred:∀ q,0<s.1 q->∃ r,q∈eh r/\s.1 r=s.1 q - 1
 zero:∀ q,s.1 q=0↔q=p
theorem Down.add {g:ac}{p:Q2}{s:St}{q r:Q2}{v:Int}(h:Down p s)(ho:fM g s.1 q=true)(hn:q∈eh r)(hv:s.1 r=v - 1)(h0:1<=v):Down p (bS s.1 q v,s.2++[q]):=by
 rw [fM,cm,dS] at ho;refine⟨λ x hx=>?_,λ x=>?_⟩
 . show ∃ r,x∈eh r/\bS s.1 q v r=bS s.1 q v x - 1;have hx':0<bS s.1 q v x:=hx;by_cases e:x=q
   . subst e;refine⟨r,hn,?_⟩;have:r≠x:=λ e=>by rw [e] at hv;omega
     rw [bS,ar this,bS,aw rfl,hv]
   . rw [bS,ar e] at hx';obtain⟨r',h1,h2⟩:=h.pred x hx';refine⟨r',h1,?_⟩;have:r'≠q:=λ e=>by rw [e] at h2;omega
     rw [bS,ar this,bS,ar e,h2]
 . show bS s.1 q v x=0↔x=p;rw [bS];by_cases e:x=q
   . subst e;have:=h.zero x;rw [aw rfl];constructor
     . intro hh;omega
     . intro hh;have:=this.2 hh;omega
   . rw [ar e];exact h.zero x
theorem Down.inn {g:ac}{p r:Q2}{v:Int}(h0:1<=v):∀ (qs:List Q2) (s:St),Down p s->(∀ q∈qs,q∈eh r)->s.1 r=v - 1->Down p (inn g v qs s)
 | [],_,h,_,_=>h
 | q :: qs,s,h,hq,h1=>by
   cases ho:fM g s.1 q with
   | true =>
     rw [oC ho];have hne:r≠q:=λ e=>by rw [fM,cm,dS] at ho;rw [e] at h1;omega
     exact Down.inn h0 qs _ (h.add ho (hq q (by simp)) h1 h0) (λ x hx=>hq x (by simp [hx])) (by show bS s.1 q v r=_;rw [bS,ar hne,h1])
   | false => rw [pV ho];exact Down.inn h0 qs s h (λ x hx=>hq x (by simp [hx])) h1
theorem Down.outr {g:ac}{p:Q2} : ∀ (n i:Nat) (s:St),Inv s->Down p s->Down p (outr g n i s)
 | 0,_,_,_,h=>h
 | n+1,i,s,hI,h=>by
   cases hp:s.2[i]? with
   | none=>rw [Go.Proofs.YtnlajnpcdnnpmaaGreat.outr,hp];exact h
   | some r => rw [xy hp];have h1:=(hI.mem r).1 (ap hp);have h2:=hI.bd r;exact Down.outr n (i+1) _ (Inv.inn oM _ s hI (λ q hq=>pW hq) oM) (Down.inn (r:=r) oM _ s h (λ q hq=>hq) oM)
def jj (ex:Q2->St->St):Nat->Nat->St->St
 | 0,_,s=>s
 | n+1,i,s=>match s.2[i]? with
   | none=>s
   | some p=>jj ex n (i+1) (ex p s)
theorem ug {ex:Q2->St->St}{n i:Nat}{s:St}{p:Q2}(h:s.2[i]?=some p):jj ex (n+1) i s=jj ex n (i+1) (ex p s):=by rw [jj,h]
theorem xz {ex:Q2->St->St}{n i:Nat}{s:St}(h:s.2.length<=i):jj ex n i s=s:=by
 cases n with
 | zero=>rfl
 | succ n=>rw [jj,kZ h]
inductive Rch (nb:Q2->Q2->Prop) (free:Q2->Prop) (p:Q2):Q2->Prop
 | refl:Rch nb free p p
 | step {r q:Q2} : Rch nb free p r->nb r q->free q->Rch nb free p q
structure Turn (ex:Q2->St->St) (nb:Q2->Q2->Prop) (free:Q2->Prop):Prop where
 inv:∀ p s,Inv s->p∈s.2->Inv (ex p s)
 pre:∀ p s,Inv s->p∈s.2->∃ t,(ex p s).2=s.2++t
 old:∀ p s,Inv s->p∈s.2->∀ q,0<=s.1 q->(ex p s).1 q=s.1 q
 sound:∀ p s,Inv s->p∈s.2->∀ q,0<=(ex p s).1 q->0<=s.1 q\/(nb p q/\free q)
 full:∀ p s,Inv s->p∈s.2->∀ q,nb p q->free q->0<=(ex p s).1 q
structure Srch (nb:Q2->Q2->Prop) (free:Q2->Prop) (p:Q2) (i:Nat) (s:St):Prop where
 inv:Inv s
 at0:p∈s.2
 sound:∀ q,0<=s.1 q->Rch nb free p q
 done:∀ (j:Nat) r,j<i->s.2[j]?=some r->∀ q,nb r q->free q->0<=s.1 q
section
variable {ex:Q2->St->St} {nb:Q2->Q2->Prop} {free:Q2->Prop} {p:Q2}
theorem Srch.start (h:ax p.a p.b=true):Srch nb free p 0 (eV p):=by
 refine⟨rG h,by simp [eV],λ q hq=>?_,λ j r hj=>by omega⟩;simp only [eV] at hq
 split at hq
 . rename_i e;rw [e];exact Rch.refl
 . omega
theorem Srch.go (hT:Turn ex nb free){i:Nat}{s:St}{r:Q2}(h:Srch nb free p i s)(hr:s.2[i]?=some r):Srch nb free p (i+1) (ex r s):=by
 have hm:=ap hr;obtain⟨t,ht⟩:=hT.pre r s h.inv hm;have hlt:i<s.2.length:=(aL31.1 hr).1;refine⟨hT.inv r s h.inv hm,by rw [ht];exact aL49.2 (ay h.at0),λ q hq=>?_,λ j x hj hx q hn hf=>?_⟩
 . rcases hT.sound r s h.inv hm q hq with h1 | ⟨h1,h2⟩
   . exact h.sound q h1
   . exact Rch.step (h.sound r ((h.inv.mem r).1 hm)) h1 h2
 . by_cases hji:j=i
   . subst hji;rw [ht,fm hlt,hr] at hx
     cases hx
     exact hT.full r s h.inv hm q hn hf
   . have hj':j<i:=oM;rw [ht,fm oM] at hx;have h1:=h.done j x hj' hx q hn hf;rw [hT.old r s h.inv hm q h1];exact h1
theorem Srch.out (hT:Turn ex nb free):∀ (n i:Nat) (s:St),Srch nb free p i s->6401<=n+i->∃ k,Srch nb free p k (jj ex n i s)/\(jj ex n i s).2.length<=k
 | 0,i,s,h,hn=>⟨i,h,by have:=h.inv.len;show s.2.length<=i;omega⟩
 | n+1,i,s,h,hn=>by
   cases hr:s.2[i]? with
   | none=>rw [jj,hr];exact⟨i,h,List.getElem?_eq_none_iff.1 hr⟩
   | some r=>rw [ug hr];exact Srch.out hT n (i+1) _ (h.go hT hr) oM
theorem Fm (hT:Turn ex nb free)(h:ax p.a p.b=true)(q:Q2):0<=(jj ex 6401 0 (eV p)).1 q↔Rch nb free p q:=by
 obtain⟨k,hs,hk⟩:=Srch.out hT 6401 0 _ (Srch.start (nb:=nb) (free:=free) h) oM;refine⟨hs.sound q,λ hR=>?_⟩
 induction hR with
 | refl=>exact (hs.inv.mem p).1 hs.at0
 | step _ hn hf ih => obtain⟨j,hj⟩:=pe ((hs.inv.mem _).2 ih);exact hs.done j _ (by have:=(aL31.1 hj).1;omega) hj _ hn hf
theorem Turn.inv_out (hT:Turn ex nb free)(h:ax p.a p.b=true):Inv (jj ex 6401 0 (eV p)):=by obtain⟨k,hs,_⟩:=Srch.out hT 6401 0 _ (Srch.start (nb:=nb) (free:=free) h) oM;exact hs.inv
end
theorem uh {g:ac}{v:Int} : ∀ (qs:List Q2) (s:St),∃ t,(inn g v qs s).2=s.2++t
 | [],s=>⟨[],by simp [L6]⟩
 | q :: qs,s=>by
   cases ho:fM g s.1 q with
   | true => rw [oC ho];obtain⟨t,ht⟩:=uh qs (bS s.1 q v,s.2++[q]);exact⟨q :: t,by rw [ht];simp⟩
   | false=>rw [pV ho];exact uh qs s
theorem Fn {g:ac}{D:Q2->Int}{q:Q2}(h:fM g D q=true):gh g q.a q.b=false/\D q<0:=by rw [fM,cm,dS] at h;exact⟨by simpa using h.1,h.2⟩
theorem pX {g:ac}{v:Int} : ∀ (qs:List Q2) (s:St) (x:Q2),0<=s.1 x->(inn g v qs s).1 x=s.1 x
 | [],_,_,_=>rfl
 | q :: qs,s,x,hx=>by
   cases ho:fM g s.1 q with
   | true =>
     have hne:x≠q:=λ e=>by have:=(Fn ho).2;rw [<-e] at this;omega
     have h1:bS s.1 q v x=s.1 x:=by rw [bS,ar hne]
     rw [oC ho,pX qs _ x (by show 0<=bS s.1 q v x;rw [h1];exact hx)];exact h1
   | false=>rw [pV ho];exact pX qs s x hx
theorem rH {g:ac}{v:Int} : ∀ (qs:List Q2) (s:St) (x:Q2),(inn g v qs s).1 x=s.1 x\/(x∈qs/\gh g x.a x.b=false/\(inn g v qs s).1 x=v/\s.1 x<0)
 | [],_,_=>ay rfl
 | q :: qs,s,x=>by
   cases ho:fM g s.1 q with
   | true =>
     rw [oC ho];obtain⟨h1,h2⟩:=Fn ho;rcases rH qs (bS s.1 q v,s.2++[q]) x with h | ⟨h3,h4,h5,h6⟩
     . by_cases e:x=q
       . subst e;exact aB ⟨by simp,h1,by rw [h];show bS s.1 x v x=v;rw [bS,aw rfl],h2⟩
       . exact ay (by rw [h];show bS s.1 q v x=_;rw [bS,ar e])
     . refine aB ⟨by simp [h3],h4,h5,?_⟩;by_cases e:x=q
       . rw [e];exact h2
       . have h6':bS s.1 q v x<0:=h6;rwa [bS,ar e] at h6'
   | false =>
     rw [pV ho];rcases rH qs s x with h | ⟨h3,h4⟩
     . exact ay h
     . exact aB ⟨by simp [h3],h4⟩
theorem ui {g:ac}{v:Int}(h0:0<=v):∀ (qs:List Q2) (s:St) (x:Q2),x∈qs->gh g x.a x.b=false->0<=(inn g v qs s).1 x
 | [],_,_,h,_=>by simp at h
 | q :: qs,s,x,h,hg=>by
   by_cases hx:0<=s.1 x
   . rw [pX _ _ _ hx];exact hx
   . by_cases e:x=q
     . subst e;have ho:fM g s.1 x=true:=by rw [fM,hg];simp;omega
       have h1:bS s.1 x v x=v:=by rw [bS,aw rfl]
       rw [oC ho,pX qs _ x (by show 0<=bS s.1 x v x;rw [h1];exact h0)];show 0<=bS s.1 x v x;rw [h1];exact h0
     . have hm:x∈qs:=by simpa [e] using h
       cases ho:fM g s.1 q with
       | true=>rw [oC ho];exact ui h0 qs _ x hm hg
       | false=>rw [pV ho];exact ui h0 qs _ x hm hg
def L9 (g:ac) (q:Q2):Prop:=gh g q.a q.b=false
theorem Ma (g:ac):Turn (λ p s=>inn g (s.1 p+1) (eh p) s) (λ r q=>q∈eh r) (L9 g):=by
 have key:∀ p s,Inv s->p∈s.2->0<=s.1 p/\s.1 p<s.2.length:=λ p s hI hp=>⟨(hI.mem p).1 hp,(hI.bd p).2⟩
 refine⟨λ p s hI hp=>?_,λ p s hI hp=>uh _ _,λ p s hI hp q hq=>pX _ _ _ hq,λ p s hI hp q hq=>?_,λ p s hI hp q hn hf=>ui (by have:=key p s hI hp;omega) _ _ _ hn hf⟩
 . obtain⟨h1,h2⟩:=key p s hI hp;exact Inv.inn oM _ s hI (λ q hq=>pW hq) oM
 . rcases rH (eh p) s q with h | ⟨h1,h2,_,_⟩
   . left;rw [<-h];exact hq
   . exact aB ⟨h1,h2⟩
inductive Wk (g:ac) (p:Q2):Nat->Q2->Prop
 | refl:Wk g p 0 p
 | step {n:Nat} {r q:Q2} : Wk g p n r->q∈eh r->gh g q.a q.b=false->Wk g p (n+1) q
structure Lev (g:ac) (i:Nat) (s:St):Prop where
 inv:Inv s
 sort:∀ (j k:Nat) a b,j<=k->s.2[j]?=some a->s.2[k]?=some b->s.1 a<=s.1 b
 near:∀ (k:Nat) a b,s.2[i]?=some a->s.2[k]?=some b->s.1 b<=s.1 a+1
 done:∀ (j:Nat) r,j<i->s.2[j]?=some r->∀ q,q∈eh r->gh g q.a q.b=false->0<=s.1 q/\s.1 q<=s.1 r+1
theorem Lev.start {g:ac}{p:Q2}(h:ax p.a p.b=true):Lev g 0 (eV p):=by
 have h1:∀ (k:Nat) a,(eV p).2[k]?=some a->a=p:=by
  intro k a hk
  cases k with
  | zero=>simp [eV] at hk;exact hk.symm
  | succ k=>simp [eV] at hk
 refine⟨rG h,λ j k a b _ ha hb=>?_,λ k a b ha hb=>?_,λ j r hj=>by omega⟩
 . rw [h1 _ _ ha,h1 _ _ hb];omega
 . rw [h1 _ _ ha,h1 _ _ hb];omega
theorem Lev.go {g:ac}{i:Nat}{s:St}{r:Q2}(h:Lev g i s)(hr:s.2[i]?=some r):Lev g (i+1) (inn g (s.1 r+1) (eh r) s):=by
 have hm:=ap hr;have hT:=Ma g;have hD:=(h.inv.mem r).1 hm;obtain⟨t,ht⟩:=uh (g:=g) (v:=s.1 r+1) (eh r) s;have hlt:i<s.2.length:=(aL31.1 hr).1;have hinv:=hT.inv r s h.inv hm;have hold:∀ q,0<=s.1 q->(inn g (s.1 r+1) (eh r) s).1 q=s.1 q:=λ q hq=>pX _ _ _ hq
 have hpos:∀ (k:Nat) a,(inn g (s.1 r+1) (eh r) s).2[k]?=some a->(s.2[k]?=some a/\k<s.2.length/\(inn g (s.1 r+1) (eh r) s).1 a=s.1 a)\/(s.2.length<=k/\(inn g (s.1 r+1) (eh r) s).1 a=s.1 r+1):=by
  intro k a hk;have hma:=ap hk;by_cases hkl:k<s.2.length
  . left;rw [ht,fm hkl] at hk;exact⟨hk,hkl,hold a ((h.inv.mem a).1 (ap hk))⟩
  . right;refine⟨oM,?_⟩;rcases rH (g:=g) (v:=s.1 r+1) (eh r) s a with h1 | ⟨_,_,h3,_⟩
    . exfalso;have h2:=(hinv.mem a).1 hma;have h3:0<=s.1 a:=by rw [<-h1];exact h2
      obtain⟨j,hj⟩:=pe ((h.inv.mem a).2 h3);have hjl:=(aL31.1 hj).1;have hnd:=hinv.nd;have e1:(inn g (s.1 r+1) (eh r) s).2[j]?=some a:=by rw [ht,fm hjl];exact hj
      have hkl2:=(aL31.1 hk).1;have:=(List.getElem?_inj (by rw [ht,aI];omega) hnd).1 (e1.trans hk.symm);omega
    . exact h3
 have hup:∀ (k:Nat) a,s.2[k]?=some a->s.1 a<=s.1 r+1:=λ k a ha=>h.near k r a hr ha
 refine⟨hinv,λ j k a b hjk ha hb=>?_,λ k a b ha hb=>?_,λ j x hj hx q hn hf=>?_⟩
 . rcases hpos j a ha with ⟨a1,a2,a3⟩ | ⟨a2,a3⟩ <;> rcases hpos k b hb with ⟨b1,b2,b3⟩ | ⟨b2,b3⟩
   . rw [a3,b3];exact h.sort j k a b hjk a1 b1
   . rw [a3,b3];exact hup j a a1
   . omega
   . rw [a3,b3];omega
 . have hb':(inn g (s.1 r+1) (eh r) s).1 b<=s.1 r+1:=by
    rcases hpos k b hb with ⟨b1,b2,b3⟩ | ⟨b2,b3⟩
    . rw [b3];exact hup k b b1
    . rw [b3];omega
   have ha':s.1 r<=(inn g (s.1 r+1) (eh r) s).1 a:=by
    rcases hpos (i+1) a ha with ⟨a1,a2,a3⟩ | ⟨a2,a3⟩
    . rw [a3];exact h.sort i (i+1) r a oM hr a1
    . rw [a3];omega
   omega
 . by_cases hji:j=i
   . subst hji;rw [ht,fm hlt,hr] at hx
     cases hx
     refine⟨ui oM _ _ _ hn hf,?_⟩;rw [hold r hD];rcases rH (g:=g) (v:=s.1 r+1) (eh r) s q with h1 | ⟨_,_,h3,_⟩
     . rw [h1];by_cases h0:0<=s.1 q
       . obtain⟨k,hk⟩:=pe ((h.inv.mem q).2 h0);exact hup k q hk
       . omega
     . rw [h3];omega
   . have hj':j<i:=oM;rw [ht,fm oM] at hx;have h1:=h.done j x hj' hx q hn hf;rw [hold q h1.1,hold x ((h.inv.mem x).1 (ap hx))];exact h1
theorem Lev.out {g:ac} : ∀ (n i:Nat) (s:St),Lev g i s->6401<=n+i->∃ k,Lev g k (outr g n i s)/\(outr g n i s).2.length<=k
 | 0,i,s,h,hn=>⟨i,h,by have:=h.inv.len;show s.2.length<=i;omega⟩
 | n+1,i,s,h,hn=>by
   cases hr:s.2[i]? with
   | none=>rw [outr,hr];exact⟨i,h,List.getElem?_eq_none_iff.1 hr⟩
   | some r=>rw [xy hr];exact Lev.out n (i+1) _ (h.go hr) oM
theorem Wk.on {g:ac}{p:Q2}(h:ax p.a p.b=true){n:Nat}{q:Q2}(hw:Wk g p n q):ax q.a q.b=true:=by
 cases hw with
 | refl=>exact h
 | step _ hn _=>exact pW hn
theorem Wk.front {g:ac}{p r:Q2}(hr:gh g r.a r.b=false)(hn:r∈eh p){n:Nat}{q:Q2}(hw:Wk g r n q):Wk g p (n+1) q:=by
 induction hw with
 | refl=>exact Wk.step Wk.refl hn hr
 | step _ hn' hf ih=>exact Wk.step ih hn' hf
theorem Wk.turn {g:ac}{p:Q2}(hp:ax p.a p.b=true)(hpf:gh g p.a p.b=false){n:Nat}{q:Q2}(hw:Wk g p n q):Wk g q n p:=by
 induction hw with
 | refl=>exact Wk.refl
 | step hw' hn hf ih =>
   rename_i m r q;have hr:=hw'.on hp
   have hrf:gh g r.a r.b=false:=by
    cases hw' with
    | refl=>exact hpf
    | step _ _ hf'=>exact hf'
   exact Wk.front hrf ((L8 hr (pW hn)).1 hn) ih
theorem Wk.far {g:ac}{p:Q2}{n:Nat}{q:Q2}(hw:Wk g p n q):q.a - p.a<=n/\p.a - q.a<=n:=by
 induction hw with
 | refl=>omega
 | step _ hn _ ih => have h1:=(near_iff.1 hn).2;rw [nt,dS] at h1;omega
def jk (c:ac) (wide:Bool) (p:Q2) (dx dy:Int) (s:St):St :=
 if ((decide (dx=0)||decide (dy=0)||wide)&&gh c (p.a+dx) (p.b+dy)&&decide (s.1 ⟨p.a+dx,p.b+dy⟩<0))=true then (bS s.1 ⟨p.a+dx,p.b+dy⟩ 0,s.2++[⟨p.a+dx,p.b+dy⟩]) else s
def jG (c:ac) (wide:Bool) (p:Q2) (dy:Int):Nat->St->St
 | 0,s=>s
 | k+1,s=>jG c wide p dy k (jk c wide p (1 - k) dy s)
def ir (c:ac) (wide:Bool) (p:Q2):Nat->St->St
 | 0,s=>s
 | k+1,s=>ir c wide p k (jG c wide p (1 - k) 3 s)
def jH (c:ac) (wide:Bool) (n i:Nat) (s:St):St:=jj (λ p s=>ir c wide p 3 s) n i s
def lJ (c:ac) (wide:Bool) (p:Q2):St:=jH c wide 6401 0 (eV p)
def gD (D:Q2->Int):ac:=aU λ x y=>decide (0<=D ⟨x,y⟩)
def dA (c:ac) (wide:Bool) (p:Q2):ac:=gD (lJ c wide p).1
def eA (wide:Bool) (r q:Q2):Prop:=(-1<=q.a - r.a/\q.a - r.a<=1)/\(-1<=q.b - r.b/\q.b - r.b<=1)/\(q.a=r.a\/q.b=r.b\/wide=true)
def aP (c:ac) (q:Q2):Prop:=gh c q.a q.b=true
theorem uj {D:Q2->Int}{q:Q2}(h:D q<0):fM bo D q=true:=by rw [fM,cm,dS];refine⟨?_,h⟩;rw [gh];simp [bo]
structure Piece (c:ac) (P:Q2->Prop) (f:St->St):Prop where
 inv:∀ s,Inv s->s.2≠[]->Inv (f s)
 pre:∀ s,∃ t,(f s).2=s.2++t
 old:∀ s q,0<=s.1 q->(f s).1 q=s.1 q
 sound:∀ s q,0<=(f s).1 q->0<=s.1 q\/(P q/\aP c q)
 full:∀ s q,P q->aP c q->0<=(f s).1 q
theorem Piece.comp {c:ac}{P Q:Q2->Prop}{f k:St->St}(h:Piece c P f)(h2:Piece c Q k):Piece c (λ q=>P q\/Q q) (λ s=>k (f s)):=by
 refine⟨λ s hI hn=>h2.inv _ (h.inv s hI hn) ?_,λ s=>?_,λ s q hq=>?_,λ s q hq=>?_,λ s q hP hc=>?_⟩
 . obtain⟨t,ht⟩:=h.pre s;rw [ht];simp [hn]
 . obtain⟨t,ht⟩:=h.pre s;obtain⟨u,hu⟩:=h2.pre (f s);exact⟨t++u,by rw [hu,ht,fc]⟩
 . have h1:=h.old s q hq;rw [h2.old (f s) q (by rw [h1];exact hq),h1]
 . rcases h2.sound (f s) q hq with h1 | ⟨h1,h3⟩
   . rcases h.sound s q h1 with h4 | ⟨h4,h5⟩
     . exact ay h4
     . exact aB ⟨ay h4,h5⟩
   . exact aB ⟨aB h1,h3⟩
 . rcases hP with hP | hP
   . have h1:=h.full s q hP hc;rw [h2.old _ _ h1];exact h1
   . exact h2.full _ q hP hc
theorem Piece.nil (c:ac):Piece c (λ _=>False) (λ s=>s) :=
 ⟨λ _ h _=>h,λ s=>⟨[],by simp⟩,λ _ _ _=>rfl,λ _ _ h=>ay h,λ _ _ h=>h.elim⟩
theorem Piece.congr {c:ac}{P Q:Q2->Prop}{f:St->St}(h:Piece c P f)(hq:∀ q,P q↔Q q):Piece c Q f :=
 ⟨h.inv,h.pre,h.old,λ s q hs=>(h.sound s q hs).imp id (λ⟨a,b⟩=>⟨(hq q).1 a,b⟩),λ s q hP hc=>h.full s q ((hq q).2 hP) hc⟩
theorem nu {c:ac}{wide:Bool}{p:Q2}{dx dy:Int}{s:St}(h1:(dx=0\/dy=0)\/wide=true)(h2:gh c (p.a+dx) (p.b+dy)=true)(h3:s.1 ⟨p.a+dx,p.b+dy⟩<0):jk c wide p dx dy s=(bS s.1 ⟨p.a+dx,p.b+dy⟩ 0,s.2++[⟨p.a+dx,p.b+dy⟩]):=by rw [jk,aw];simp only [cm,nM,dS];exact⟨⟨h1,h2⟩,h3⟩
theorem iQ {c:ac}{wide:Bool}{p:Q2}{dx dy:Int}{s:St}(h:(¬ (dx=0\/dy=0)/\wide=false)\/gh c (p.a+dx) (p.b+dy)=false\/0<=s.1 ⟨p.a+dx,p.b+dy⟩):jk c wide p dx dy s=s:=by
 rw [jk,ar];simp only [cm,nM,dS];rintro⟨⟨h1,h2⟩,h3⟩;rcases h with ⟨h,hw⟩ | h | h
 . rcases h1 with h1 | h1
   . exact h h1
   . rw [hw] at h1;cases h1
 . rw [h] at h2;cases h2
 . omega
theorem rI (c:ac)(wide:Bool)(p:Q2)(dx dy:Int):Piece c (λ q=>((dx=0\/dy=0)\/wide=true)/\q.a=p.a+dx/\q.b=p.b+dy) (jk c wide p dx dy):=by
 have hq2:∀ q:Q2,q.a=p.a+dx->q.b=p.b+dy->q=⟨p.a+dx,p.b+dy⟩:=by rintro⟨a,b⟩ h1 h2;simp only at h1 h2;rw [h1,h2]
 by_cases h:((dx=0\/dy=0)\/wide=true)/\gh c (p.a+dx) (p.b+dy)=true
 . obtain⟨h1,h2⟩:=h;refine⟨λ s hI hn=>?_,λ s=>?_,λ s q hq=>?_,λ s q hq=>?_,λ s q hP hc=>?_⟩
   . by_cases h3:s.1 ⟨p.a+dx,p.b+dy⟩<0
     . rw [nu h1 h2 h3];refine hI.add (g:=bo) (uj h3) ?_ oM oM
       cases ho:ax (p.a+dx) (p.b+dy) with
       | true=>rfl
       | false=>rw [dr ho] at h2;cases h2
     . rw [iQ (aB (aB oM))];exact hI
   . by_cases h3:s.1 ⟨p.a+dx,p.b+dy⟩<0
     . rw [nu h1 h2 h3];exact⟨_,rfl⟩
     . rw [iQ (aB (aB oM))];exact⟨[],by simp⟩
   . by_cases h3:s.1 ⟨p.a+dx,p.b+dy⟩<0
     . rw [nu h1 h2 h3];show bS _ _ _ q=_;rw [bS,ar (λ e=>by rw [e] at hq;omega)]
     . rw [iQ (aB (aB oM))]
   . by_cases h3:s.1 ⟨p.a+dx,p.b+dy⟩<0
     . rw [nu h1 h2 h3] at hq;have hq':0<=bS s.1 ⟨p.a+dx,p.b+dy⟩ 0 q:=hq;rw [bS] at hq'
       split at hq'
       . rename_i e;subst e;exact aB ⟨⟨h1,rfl,rfl⟩,h2⟩
       . exact ay hq'
     . rw [iQ (aB (aB oM))] at hq;exact ay hq
   . obtain⟨_,e1,e2⟩:=hP;rw [hq2 q e1 e2];by_cases h3:s.1 ⟨p.a+dx,p.b+dy⟩<0
     . rw [nu h1 h2 h3];show 0<=bS _ _ _ _;rw [bS,aw rfl];omega
     . rw [iQ (aB (aB oM))];omega
 . have hm:∀ s,jk c wide p dx dy s=s:=by
    intro s;apply iQ;by_cases h1:(dx=0\/dy=0)\/wide=true
    . right;left
      cases hg:gh c (p.a+dx) (p.b+dy) with
      | false=>rfl
      | true=>exact absurd ⟨h1,hg⟩ h
    . left;refine⟨λ h2=>h1 (ay h2),?_⟩
      cases hw:wide with
      | false=>rfl
      | true=>exact absurd (aB hw) h1
   refine⟨λ s hI _=>by rw [hm];exact hI,λ s=>⟨[],by rw [hm];simp⟩,λ s q _=>by rw [hm],λ s q hq=>by rw [hm] at hq;exact ay hq,λ s q hP hc=>?_⟩;obtain⟨h1,e1,e2⟩:=hP;rw [hq2 q e1 e2] at hc;exact absurd ⟨h1,hc⟩ h
theorem Fo (c:ac)(wide:Bool)(p:Q2)(dy:Int):∀ k:Nat,Piece c (λ q=>(2 - (k:Int)<=q.a - p.a/\q.a - p.a<=1)/\q.b=p.b+dy/\((q.a=p.a\/dy=0)\/wide=true)) (jG c wide p dy k)
 | 0=>(Piece.nil c).congr λ q=>⟨λ h=>h.elim,λ h=>by omega⟩
 | k+1=>((rI c wide p (1 - k) dy).comp (Fo c wide p dy k)).congr λ q=>by
   constructor
   . rintro (⟨h1,h2,h3⟩ | ⟨h1,h2,h3⟩)
     . refine⟨oM,h3,?_⟩;rcases h1 with (h1 | h1) | h1
       . left;left;omega
       . left;right;exact h1
       . right;exact h1
     . exact⟨oM,h2,h3⟩
   . rintro⟨h1,h2,h3⟩;by_cases he:q.a=p.a+(1 - (k:Int))
     . left;refine⟨?_,he,h2⟩;rcases h3 with (h3 | h3) | h3
       . left;left;omega
       . left;right;exact h3
       . right;exact h3
     . right;exact⟨oM,h2,h3⟩
theorem Fp (c:ac)(wide:Bool)(p:Q2):∀ k:Nat,Piece c (λ q=>(2 - (k:Int)<=q.b - p.b/\q.b - p.b<=1)/\(-1<=q.a - p.a/\q.a - p.a<=1)/\((q.a=p.a\/q.b=p.b)\/wide=true)) (ir c wide p k)
 | 0=>(Piece.nil c).congr λ q=>⟨λ h=>h.elim,λ h=>by omega⟩
 | k+1=>((Fo c wide p (1 - k) 3).comp (Fp c wide p k)).congr λ q=>by
   constructor
   . rintro (⟨h1,h2,h3⟩ | ⟨h1,h2,h3⟩)
     . refine⟨oM,oM,?_⟩;exact AV
     . exact⟨oM,h2,h3⟩
   . rintro⟨h1,h2,h3⟩;by_cases he:q.b=p.b+(1 - (k:Int))
     . left;refine⟨oM,he,?_⟩;exact AV
     . right;exact⟨oM,h2,h3⟩
theorem Mb (c:ac)(wide:Bool):Turn (λ p s=>ir c wide p 3 s) (eA wide) (aP c):=by
 have hp:=λ p=>Fp c wide p 3
 have hn:∀ p q,eA wide p q↔((2 - ((3:Nat):Int)<=q.b - p.b/\q.b - p.b<=1)/\(-1<=q.a - p.a/\q.a - p.a<=1)/\((q.a=p.a\/q.b=p.b)\/wide=true)):=by
  intro p q;unfold eA;constructor
  . rintro⟨h1,h2,h3⟩;refine⟨oM,oM,?_⟩;rcases h3 with h3 | h3 | h3
    . left;left;exact h3
    . left;right;exact h3
    . right;exact h3
  . rintro⟨h1,h2,h3⟩;refine⟨oM,oM,?_⟩;rcases h3 with (h3 | h3) | h3
    . left;exact h3
    . right;left;exact h3
    . right;right;exact h3
 refine⟨λ p s hI hm=>(hp p).inv s hI (λ e=>by rw [e] at hm;simp at hm),λ p s _ _=>(hp p).pre s,λ p s _ _ q hq=>(hp p).old s q hq,λ p s _ _ q hq=>?_,λ p s _ _ q hN hc=>(hp p).full s q ((hn p q).1 hN) hc⟩;rcases (hp p).sound s q hq with h | ⟨h1,h2⟩
 . exact ay h
 . exact aB ⟨(hn p q).2 h1,h2⟩
theorem Mc (c:ac)(wide:Bool){p:Q2}(h:ax p.a p.b=true)(q:Q2):0<=(lJ c wide p).1 q↔Rch (eA wide) (aP c) p q:=Fm (Mb c wide) h q
def lK (g:ac):ac:=aU λ x y=>!gh g x y
end Go.Proofs.YtnlajnpcdnnpmaaGreat
