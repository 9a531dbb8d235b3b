/- Part of a proof. No condition. -/
import Derived.Test.YtnlajnpcdnnpmaaGreatA1
namespace Go.Proofs.YtnlajnpcdnnpmaaGreat
set_option linter.all false
set_option maxRecDepth 100000
set_option maxHeartbeats 16000000
open Go.RowKit
theorem IZ {cur:List Value}{o:Nat}{v:Value}(h:o<cur.length):(cur.set o v).take (o+1)=cur.take o++[v]:=by rw [List.take_add_one,List.take_set_of_le (ai _),List.getElem?_set_self h];rfl
theorem Blk.setCells {B:Nat}{t:TypeId} : ∀ (vs:List Value) (o:Nat) (w:World) (cur:List Value),Blk w B cur t->o+vs.length<=cur.length->Blk (w.setCells B o vs) B (cur.take o++(vs++cur.drop (o+vs.length))) t
 | [],o,w,cur,h,_=>by show Blk w B _ t;simpa using h
 | v :: vs,o,w,cur,h,hl=>by
   rw [eO] at hl;have ih:=Blk.setCells vs (o+1) (w.setCell (ad B o) v) (cur.set o v) (h.set o v) (by rw [List.length_set];omega);have e1:(cur.set o v).take (o+1)++(vs++(cur.set o v).drop (o+1+vs.length))=cur.take o++(v :: vs++cur.drop (o+(v :: vs).length)):=by rw [IZ oM,List.drop_set_of_lt oM,eO,show o+(vs.length+1)=o+1+vs.length by omega];simp
   rw [e1] at ih;exact ih
theorem Blk.setAll {B:Nat}{t:TypeId}{w:World}{cur vs:List Value}(h:Blk w B cur t)(hl:vs.length=cur.length):Blk (w.setCells B 0 vs) B vs t:=by have:=Blk.setCells vs 0 w cur h oM;rw [List.take_zero,List.nil_append,fQ,sD oM,fP] at this;exact this
theorem Mut.setCells {a:World}{B:Nat}{S:List Nat}(hB:B∈S):∀ (vs:List Value) (o:Nat) (w:World),Mut a w S->Mut a (w.setCells B o vs) S
 | [],_,_,h=>h
 | v :: vs,o,_,h=>Mut.setCells hB vs (o+1) _ (h.setCell (p:=(ad B o)) hB v)
theorem tC {w:World}{B:Nat}{cs:List Value}{t:TypeId}(h:Blk w B cs t):w.there B 0 cs.length:=λ j hj=>by rw [fQ];exact⟨by rw [h.cells,bK hj];rfl,h.free j⟩
theorem fo {w:World}{B:Nat}{cs:List Value}{t:TypeId}(h:Blk w B cs t):w.rangeAt B 0 cs:=λ j v hj=>by rw [fQ,h.cells];exact hj
theorem tD {a:World}{B:Nat}(hB:a.heap.size<=B):∀ (vs:List Value) (o:Nat) (w:World),Ext a w->Ext a (w.setCells B o vs)
 | [],_,_,h=>h
 | v :: vs,o,_,h=>tD hB vs (o+1) _ (h.setCell (p:=(ad B o)) hB v)
theorem Dp {P:Program}{C:World->Prop}{a:Act}{o:Oper}{K:Act->Prop}(ty:TypeId)(x:Operand)(h:o.op=.load ty x)(b off:Nat)(hx:a.eval x=.pointer (so b off))(cs:List Value)(d:TypeDesc)(hc:∀ w,C w->w.rangeAt b off cs)
 (hu:P.underlying ty=some d) (hd:d.isRow=true) (hi:(P.info? ty).map (·.size)=some cs.length) (hk:K (a.put o.dst (.agg cs.toArray))):o.quiet P a C K :=
 ⟨_,λ w hw=>by unfold Oper.quietAt execOp;simp only [h,hx,Instr.loadAt,Instr.sureAddr,mc,Sem.run_pure,mW,run_loadVar_mid w b off ty cs d (hc w hw) hu hd hi];exact⟨rfl,rfl⟩,hk⟩
theorem I3 {w:World}{base:Nat}{e:TypeId}{size g n c o m:Nat}{xs:List Value}(h:w.ownsRow base e size (sm g 0 n c) n xs)(hm:o+m<=n*size):w.there g o m:=λ j hj=>by obtain⟨v,hv⟩:=bO h (o+j) oM;exact⟨by rw [hv];rfl,ey h _⟩
abbrev fS (α:Type):=Nat->World->α->List Value->Prop
structure Rok {α:Type} (R:fS α) (sz:Nat):Prop where
 len:∀ {base:Nat} {w:World} {x:α} {cs:List Value},R base w x cs->cs.length=sz
 ext:∀ {base:Nat} {w w':World} {x:α} {cs:List Value},R base w x cs->Ext w w'->R base w' x cs
 mt:∀ {base g:Nat} {w w':World} {x:α} {cs:List Value},R base w x cs->Mut w w' [g]->g<base->R base w' x cs
 low:∀ {b b':Nat} {w:World} {x:α} {cs:List Value},R b w x cs->b'<=b->R b' w x cs
def SlO {α:Type} (R:fS α) (sz:Nat) (w:World) (b off:Nat) (l:List α):Prop :=
 (∃ cs t,w.heap[b]?=some (.cells cs t (0,0)))/\∀ k x,l[k]?=some x->∃ cs,R (b+1) w x cs/\∀ j v,cs[j]?=some v->w.cell? (ad b (off+k*sz+j))=some v
def SlD {α:Type} (R:fS α) (sz base:Nat) (w:World) (p:OA) (n:Nat) (l:List α):Prop :=
 l.length=n/\(n=0\/∃ b off,p=so b off/\base<=b/\b<w.heap.size/\(∀ k x,l[k]?=some x->∃ cs,R base w x cs/\∀ j v,cs[j]?=some v->w.cell? (ad b (off+k*sz+j))=some v)/\(0<base->SlO R sz w b off l))
section
variable {α:Type} {R:fS α} {sz base:Nat} {w w':World} {p:Option Addr} {n:Nat} {l:List α}
theorem SlD.length (h:SlD R sz base w p n l):l.length=n:=h.1
theorem SlO.ext {b off:Nat}(hR:Rok R sz)(h:SlO R sz w b off l)(hb:b<w.heap.size)(hE:Ext w w'):SlO R sz w' b off l:=by obtain⟨⟨cs,t,h0⟩,hc⟩:=h;refine⟨⟨cs,t,(hE.block b hb).trans h0⟩,λ k x hx=>?_⟩;exact Bh
theorem SlO.mt {b off g:Nat}(hR:Rok R sz)(h:SlO R sz w b off l)(hb:b<w.heap.size)(hM:Mut w w' [g])(hg:g<b):SlO R sz w' b off l:=by
 have hbg:b∉[g]:=by simp;omega
 obtain⟨⟨cs,t,h0⟩,hc⟩:=h;refine⟨⟨cs,t,(hM.block b hb hbg).trans h0⟩,λ k x hx=>?_⟩;obtain⟨cs,h1,h2⟩:=hc k x hx;refine⟨cs,hR.mt h1 hM oM,λ j v hv=>?_⟩;rw [kY (w:=w) (a:=(ad b (off+k*sz+j))) (hM.block b hb hbg)];exact h2 j v hv
theorem SlD.ext (hR:Rok R sz)(h:SlD R sz base w p n l)(hE:Ext w w'):SlD R sz base w' p n l:=by refine⟨h.1,h.2.elim ay λ⟨b,off,hp,h0,hb,hc,ho⟩=>aB ⟨b,off,hp,h0,aF hb hE.le,λ k x hx=>?_,λ h9=>(ho h9).ext hR hb hE⟩⟩;exact Bh
theorem SlD.mt (hR:Rok R sz){g:Nat}(h:SlD R sz base w p n l)(hM:Mut w w' [g])(hg:g<base):SlD R sz base w' p n l:=by refine⟨h.1,h.2.elim ay λ⟨b,off,hp,h0,hb,hc,ho⟩=>aB ⟨b,off,hp,h0,aF hb hM.size,λ k x hx=>?_,λ h9=>(ho h9).mt hR hb hM oM⟩⟩;obtain⟨cs,h1,h2⟩:=hc k x hx;refine⟨cs,hR.mt h1 hM hg,λ j v hv=>?_⟩;rw [kY (w:=w) (a:=(ad b (off+k*sz+j))) (hM.block b hb (by simp;omega))];exact h2 j v hv
theorem SlD.low (hR:Rok R sz){b':Nat}(h:SlD R sz base w p n l)(hb:b'<=base):SlD R sz b' w p n l:=by refine⟨h.1,h.2.elim ay λ⟨b,off,hp,h0,hb2,hc,ho⟩=>aB ⟨b,off,hp,oM,hb2,λ k x hx=>?_,λ h9=>ho oM⟩⟩;obtain⟨cs,h1,h2⟩:=hc k x hx;exact⟨cs,hR.low h1 hb,h2⟩
theorem SlD.get (h:SlD R sz base w p n l){k:Nat}(hk:k<n):∃ b off x cs,p=so b off/\b<w.heap.size/\Hid (l[k]?=some x)/\R base w x cs/\∀ j v,cs[j]?=some v->w.cell? (ad b (off+k*sz+j))=some v:=by
 obtain⟨h1,h2⟩:=h;rcases h2 with h2 | ⟨b,off,hp,_,hb,hc,_⟩
 . omega
 . have hx:l[k]?=some l[k]:=bK oM;obtain⟨cs,h3,h4⟩:=hc k _ hx;exact⟨b,off,l[k],cs,hp,hb,hx,h3,h4⟩
theorem SlD.zero (p:OA)(w:World)(base:Nat):SlD R sz base w p 0 []:=⟨rfl,ay rfl⟩
end
def Fl {α:Type} (enc:α->List Value):fS α:=λ _ _ x cs=>cs=enc x
theorem Fl.ok {α:Type}{enc:α->List Value}{sz:Nat}(h:∀ x,(enc x).length=sz):Rok (Fl enc) sz :=
 ⟨λ{_ _ x _} e=>by rw [show _=enc x from e];exact h x,λ e _=>e,λ e _ _=>e,λ e _=>e⟩
def putRow (w:World) (g o:Nat):List Value->World
 | []=>w
 | v :: vs=>putRow (w.setCell (ad g o) v) g (o+1) vs
def setRow (cells:List Value) (o:Nat):List Value->List Value
 | []=>cells
 | v :: vs=>setRow (cells.set o v) (o+1) vs
theorem Dq {g:Nat} : ∀ (vs:List Value) (o:Nat) (w:World),putRow w g o vs=w.setCells g o vs
 | [],_,_=>rfl
 | _ :: vs,o,_=>Dq vs (o+1) _
theorem wi:∀ (vs:List Value) (cells:List Value) (o i:Nat),i<o->(setRow cells o vs)[i]?=cells[i]?
 | [],_,_,_,_=>rfl
 | v :: vs,cells,o,i,h=>by rw [setRow,wi vs _ _ _ oM,ph,ar oM]
theorem Dr:∀ (vs:List Value) (cells:List Value) (o j:Nat) (v:Value),o+vs.length<=cells.length->vs[j]?=some v->(setRow cells o vs)[o+j]?=some v
 | [],_,_,j,v,_,h=>by simp at h
 | u :: vs,cells,o,0,v,hl,h=>by simp at h hl;subst h;rw [setRow,wi vs _ _ _ oM,aq,ph,aw rfl,aw oM]
 | u :: vs,cells,o,j+1,v,hl,h=>by simp at h hl;have:=Dr vs (cells.set o u) (o+1) j v (by simp;omega) h;rw [setRow,<-this];congr 1;omega
theorem Ds {base e g n c size:Nat} : ∀ (vs:List Value) (cells:List Value) (o:Nat) (w:World),w.ownsRow base e size (sm g 0 n c) n cells->(putRow w g o vs).ownsRow base e size (sm g 0 n c) n (setRow cells o vs)
 | [],_,_,_,h=>h
 | v :: vs,_,o,_,h=>Ds vs _ _ _ (f7 h o v)
theorem Dt {a:World}{g:Nat} : ∀ (vs:List Value) (o:Nat) (w:World),Mut a w [g]->Mut a (putRow w g o vs) [g]
 | [],_,_,h=>h
 | v :: vs,o,_,h=>Dt vs _ _ (h.setCell (p:=(ad g o)) (by simp) v)
theorem lk {a:World}{g:Nat}(hg:a.heap.size<=g):∀ (vs:List Value) (o:Nat) (w:World),Ext a w->Ext a (putRow w g o vs)
 | [],_,_,h=>h
 | v :: vs,o,_,h=>lk hg vs _ _ (h.setCell (p:=(ad g o)) hg v)
def FillD {α:Type} (R:fS α) (sz g:Nat) (e:TypeId) (w:World) (n k:Nat) (l:List α):Prop :=
 ∃ cells:List Value,w.ownsRow g e sz (sm g 0 n n) n cells/\∀ i x,i<k->l[i]?=some x->∃ cs,R (g+1) w x cs/\∀ j v,cs[j]?=some v->cells[i*sz+j]?=some v
section
variable {α:Type} {R:fS α} {sz g n k:Nat} {e:TypeId} {w w':World} {l:List α}
theorem FillD.start {cells:List Value}(h:w.ownsRow g e sz (sm g 0 n n) n cells):FillD R sz g e w n 0 l:=⟨cells,h,λ i x hi=>by omega⟩
abbrev lm:=@FillD.start
theorem FillD.ext (hR:Rok R sz)(h:FillD R sz g e w n k l)(hE:Ext w w'):FillD R sz g e w' n k l:=by obtain⟨cells,h1,h2⟩:=h;exact⟨cells,aG h1 hE,λ i x hi hx=>let ⟨cs,a,b⟩:=h2 i x hi hx;⟨cs,hR.ext a hE,b⟩⟩
theorem FillD.put (hR:Rok R sz)(h:FillD R sz g e w n k l)(hk:k<n){x:α}{cs:List Value}(hx:l[k]?=some x)(hc:R (g+1) w x cs):FillD R sz g e (putRow w g (k*sz) cs) n (k+1) l:=by
 obtain⟨cells,h1,h2⟩:=h;have hl:=hR.len hc;have hM:=Dt (g:=g) cs (k*sz) w (fw w [g]);refine⟨setRow cells (k*sz) cs,Ds _ _ _ _ h1,λ i y hi hy=>?_⟩;have hcl:cells.length=n*sz:=h1.1;have hkn:k*sz+sz<=n*sz:=by have:=sH sz (show k+1<=n by omega);rwa [me] at this
 by_cases hik:i=k
 . subst hik;obtain rfl:x=y:=cJ (hx.symm.trans hy);exact⟨cs,hR.mt hc hM oM,λ j v hv=>Dr cs cells _ j v oM hv⟩
 . obtain⟨ds,a,b⟩:=h2 i y oM hy;refine⟨ds,hR.mt a hM oM,λ j v hv=>?_⟩;have hj:j<sz:=by rw [<-hR.len a];exact (aL31.1 hv).1
   have hik2:i*sz+sz<=k*sz:=by have:=sH sz (show i+1<=k by omega);rwa [me] at this
   rw [wi cs cells _ _ oM];exact b j v hv
theorem FillD.fin (hR:Rok R sz)(h:FillD R sz g e w n n l)(hl:l.length=n):SlD R sz g w (so g 0) n l:=by
 obtain⟨cells,h1,h2⟩:=h;by_cases h0:n=0
 . exact⟨hl,ay h0⟩
 . have hin:∀ k x,l[k]?=some x->∃ cs,R (g+1) w x cs/\∀ j v,cs[j]?=some v->w.cell? (ad g (0+k*sz+j))=some v:=λ k x hx=>by
    have hk:k<n:=by rw [<-hl];exact (aL31.1 hx).1
    obtain⟨cs,a,b⟩:=h2 k x hk hx;refine⟨cs,a,λ j v hv=>?_⟩;have hj:j<sz:=by rw [<-hR.len a];exact (aL31.1 hv).1
    have hkn:k*sz+sz<=n*sz:=by have:=sH sz (show k+1<=n by omega);rwa [me] at this
    rw [fQ,h1.cellAt (k*sz+j) oM];exact b j v hv
   refine⟨hl,aB ⟨g,0,rfl,ai _,(cM h1).2,λ k x hx=>?_,λ _=>⟨?_,hin⟩⟩⟩
   . obtain⟨cs,a,b⟩:=hin k x hx;exact⟨cs,hR.low a oM,b⟩
   . obtain⟨_,h3⟩:=h1;rcases h3 with ⟨h3,_⟩ | ⟨g',cap,cur,hv,_,hh,_⟩
     . cases h3
     . cases hv
       exact⟨cur,e,hh⟩
end
structure ShD where
 a:Int
 box:Q4
structure LbD where
 a:Int
 pt:Q2
 s:ByteArray
structure InD where
 a:Int
 tr:Q3
 c:Int
 d:Int
 e:Int
 f:Int
structure RuD where
 a:Int
 b:Int
 c:Int
 d:Int
 e:Int
structure WvD where
 a:Int
 s:ByteArray
structure PoD where
 s:ByteArray
 a:Int
structure EdD where
 a:Int
 b:Int
 c:Int
 s:ByteArray
 sh:ShD
 lb:LbD
 ins:InD
structure DvD where
 a:Int
 pins:List Int
 b:Int
 c:Int
structure CeD where
 s:ByteArray
 shs:List ShD
 lbs:List LbD
 ins:List InD
def bg (x:ShD):List Value:=[.int .i64 x.a,.int .i64 x.box.a,.int .i64 x.box.b,.int .i64 x.box.c,.int .i64 x.box.d]
theorem tE (x:ShD):(bg x).length=5:=rfl
def dL (x:LbD):List Value:=[.int .i64 x.a,.int .i64 x.pt.a,.int .i64 x.pt.b,.string x.s]
def cV (x:InD):List Value:=[.int .i64 x.a,.int .i64 x.tr.a,.int .i64 x.tr.b,.int .i64 x.tr.c,.int .i64 x.c,.int .i64 x.d,.int .i64 x.e,.int .i64 x.f]
def bE (x:RuD):List Value:=[.int .i64 x.a,.int .i64 x.b,.int .i64 x.c,.int .i64 x.d,.int .i64 x.e]
def cj (x:WvD):List Value:=[.int .i64 x.a,.string x.s]
def cD (x:PoD):List Value:=[.string x.s,.int .i64 x.a]
def am (x:EdD):List Value:=[.int .i64 x.a,.int .i64 x.b,.int .i64 x.c,.string x.s,.int .i64 x.sh.a,.int .i64 x.sh.box.a,.int .i64 x.sh.box.b,.int .i64 x.sh.box.c,.int .i64 x.sh.box.d,.int .i64 x.lb.a,.int .i64 x.lb.pt.a,.int .i64 x.lb.pt.b,.string x.lb.s,.int .i64 x.ins.a,.int .i64 x.ins.tr.a,.int .i64 x.ins.tr.b,.int .i64 x.ins.tr.c,.int .i64 x.ins.c,.int .i64 x.ins.d,.int .i64 x.ins.e,.int .i64 x.ins.f]
theorem okShape:Rok (Fl bg) 5:=Fl.ok (λ _=>rfl)
theorem okLabel:Rok (Fl dL) 4:=Fl.ok (λ _=>rfl)
theorem okInstance:Rok (Fl cV) 8:=Fl.ok (λ _=>rfl)
theorem aT:Rok (Fl bE) 5:=Fl.ok (λ _=>rfl)
theorem okWaiver:Rok (Fl cj) 2:=Fl.ok (λ _=>rfl)
theorem bw:Rok (Fl cD) 2:=Fl.ok (λ _=>rfl)
theorem okEdit:Rok (Fl am) 21:=Fl.ok (λ _=>rfl)
theorem cW:Rok (Fl bi) 1:=Fl.ok (λ _=>rfl)
def RwD {α:Type} (R:fS α) (sz:Nat):fS (List α):=λ base w x cs=>∃ p n c,cs=[.slice p n c]/\SlD R sz base w p n x
theorem RwD.ok {α:Type}{R:fS α}{sz:Nat}(h:Rok R sz):Rok (RwD R sz) 1 :=
 ⟨λ⟨_,_,_,e,_⟩=>by rw [e];rfl,λ⟨p,n,c,e,s⟩ hE=>⟨p,n,c,e,s.ext h hE⟩,λ⟨p,n,c,e,s⟩ hM hg=>⟨p,n,c,e,s.mt h hM hg⟩,λ⟨p,n,c,e,s⟩ hb=>⟨p,n,c,e,s.low h hb⟩⟩
abbrev az:=@RwD.ok
def DvR:fS DvD:=λ base w x cs=>∃ p n c,cs=[.int .i64 x.a,.slice p n c,.int .i64 x.b,.int .i64 x.c]/\SlD (Fl bi) 1 base w p n x.pins
theorem DvR.ok:Rok DvR 4 :=
 ⟨λ⟨_,_,_,e,_⟩=>by rw [e];rfl,λ⟨p,n,c,e,s⟩ hE=>⟨p,n,c,e,s.ext cW hE⟩,λ⟨p,n,c,e,s⟩ hM hg=>⟨p,n,c,e,s.mt cW hM hg⟩,λ⟨p,n,c,e,s⟩ hb=>⟨p,n,c,e,s.low cW hb⟩⟩
abbrev aL25:=@DvR.ok
def CeR:fS CeD:=λ base w x cs=>∃ p1 n1 c1 p2 n2 c2 p3 n3 c3,cs=[.string x.s,.slice p1 n1 c1,.slice p2 n2 c2,.slice p3 n3 c3]/\SlD (Fl bg) 5 base w p1 n1 x.shs/\SlD (Fl dL) 4 base w p2 n2 x.lbs/\SlD (Fl cV) 8 base w p3 n3 x.ins
theorem CeR.ok:Rok CeR 4 :=
 ⟨λ⟨_,_,_,_,_,_,_,_,_,e,_⟩=>by rw [e];rfl,
  λ⟨p1,n1,c1,p2,n2,c2,p3,n3,c3,e,s1,s2,s3⟩ hE=>⟨p1,n1,c1,p2,n2,c2,p3,n3,c3,e,s1.ext okShape hE,s2.ext okLabel hE,s3.ext okInstance hE⟩,
  λ⟨p1,n1,c1,p2,n2,c2,p3,n3,c3,e,s1,s2,s3⟩ hM hg=>⟨p1,n1,c1,p2,n2,c2,p3,n3,c3,e,s1.mt okShape hM hg,s2.mt okLabel hM hg,s3.mt okInstance hM hg⟩,
  λ⟨p1,n1,c1,p2,n2,c2,p3,n3,c3,e,s1,s2,s3⟩ hb=>⟨p1,n1,c1,p2,n2,c2,p3,n3,c3,e,s1.low okShape hb,s2.low okLabel hb,s3.low okInstance hb⟩⟩
abbrev aL6:=@CeR.ok
open Go.Proofs.Tryz Go.PlainAid
def nX (r:Q4):Bool:=ae r.a (-40) 40&&(ae r.c (-40) 40&&(ae r.b (-40) 40&&(ae r.d (-40) 40&&(decide (r.a<r.c)&&decide (r.b<r.d)))))
theorem tF {r:Q4} : nX r=true↔(-40<=r.a/\r.a<r.c/\r.c<=40)/\(-40<=r.b/\r.b<r.d/\r.d<=40):=by simp [nX,ae];omega
theorem I4 {P:Prop}{b c:Bool}(h:b=true↔P)(hc:c=true↔P):c=b:=by cases b <;> cases c <;> simp_all
def lq (p:Q2):Bool:=ae p.a (-40) 39&&ae p.b (-40) 39
def f8 (t:Q3):Bool:=ae t.a 0 7&&(ae t.b (-80) 80&&ae t.c (-80) 80)
def eR (x:ShD):Bool:=ae x.a 0 7&&nX x.box
def eI (x:LbD):Bool:=ae x.a 0 7&&(lq x.pt&&dK x.s)
def de (x:InD) (k:Int):Bool:=ae x.a 0 (k - 1)&&(f8 x.tr&&(ae x.c 1 4&&(ae x.d 1 4&&(ae x.e (-80) 80&&(ae x.f (-80) 80&&((decide (x.e=0)||decide (1<x.c))&&(decide (x.f=0)||decide (1<x.d))))))))
def ic (x:WvD):Bool:=ae x.a 0 2147483646&&gY x.s
theorem Du (r:Q4)(w:World) :
 CE 187 #[.agg #[r.a,r.b,r.c,r.d]] w (.bool (nX r)):=by
 have hr:=aa (tF (r:=r));go_enter func187,ntmps187;exact Bk
theorem wk (r:Q4)(w:World) :
 CE 158 #[.agg #[r.a,r.b,r.c,r.d]] w (.bool (nX r)):=by
 have hr:=aa (tF (r:=r));go_enter func158,ntmps158;exact Bk
theorem wl (v:Int)(w:World) :
 CW 303 #[v] w (.bool (ae v 0 7)):=by
 go_enter func303,ntmps303;go_wp2_with ((go_at_call 220;refine aO (jY _ _ _ _) ?_));exact kA
theorem qX (v a b:Int)(w:World) :
 CW 153 #[v,a,b] w (.bool (ae v a b)):=by
 have pA:=func153;have pB:=ntmps153;exact tt
theorem jZ (v a b:Int)(w:World) :
 CW 95 #[v,a,b] w (.bool (ae v a b)):=by
 have pA:=func95;have pB:=ntmps95;exact tt
theorem wm (x:Q2)(w:World) :
 CE 335 #[.agg #[x.a,x.b]] w (.bool (lq x)):=by
 have pA:=func335;have pB:=ntmps335;exact CN
theorem wq (x:Q2)(w:World) :
 CE 304 #[.agg #[x.a,x.b]] w (.bool (lq x)):=by
 have pA:=func304;have pB:=ntmps304;exact CN
theorem mn (x:Q3)(w:World) :
 CE 279 #[.agg #[x.a,x.b,x.c]] w (.bool (f8 x)):=by
 have pA:=func279;have pB:=ntmps279;exact CH
theorem ls (x:Q3)(w:World) :
 CE 224 #[.agg #[x.a,x.b,x.c]] w (.bool (f8 x)):=by
 have pA:=func224;have pB:=ntmps224;exact CH
theorem Dv (x:ShD)(w:World) :
 CE 260 #[.agg #[x.a,x.box.a,x.box.b,x.box.c,x.box.d]] w (.bool (eR x)):=by
 have pA:=func260;have pB:=ntmps260;exact CP
theorem Dw (x:ShD)(w:World) :
 CE 216 #[.agg #[x.a,x.box.a,x.box.b,x.box.c,x.box.d]] w (.bool (eR x)):=by
 have pA:=func216;have pB:=ntmps216;exact CP
theorem Dx (x:LbD)(w:World)(hs:x.s.size<=9223372036854775807) :
 CE 263 #[.agg #[x.a,x.pt.a,x.pt.b,.string x.s]] w (.bool (eI x)):=by
 have pA:=func263;have pB:=ntmps263;exact CJ
theorem Dy (x:LbD)(w:World)(hs:x.s.size<=9223372036854775807) :
 CE 217 #[.agg #[x.a,x.pt.a,x.pt.b,.string x.s]] w (.bool (eI x)):=by
 have pA:=func217;have pB:=ntmps217;exact CJ
theorem I5 (x:WvD)(w:World)(hs:x.s.size<=9223372036854775807) :
 CE 116 #[.agg #[x.a,.string x.s]] w (.bool (ic x)):=by
 have pA:=func116;have pB:=ntmps116;exact CO
theorem I6 (x:WvD)(w:World)(hs:x.s.size<=9223372036854775807) :
 CE 94 #[.agg #[x.a,.string x.s]] w (.bool (ic x)):=by
 have pA:=func94;have pB:=ntmps94;exact CO
theorem Dz (x:InD)(k:Int)(w:World)(hk:0<=k/\k<=1048576) :
 CE 266 #[.agg #[x.a,x.tr.a,x.tr.b,x.tr.c,x.c,x.d,x.e,x.f],k] w (.bool (de x k)):=by
 have pA:=func266;have pB:=ntmps266;exact CB
theorem DA (x:InD)(k:Int)(w:World)(hk:0<=k/\k<=1048576) :
 CE 218 #[.agg #[x.a,x.tr.a,x.tr.b,x.tr.c,x.c,x.d,x.e,x.f],k] w (.bool (de x k)):=by
 have pA:=func218;have pB:=ntmps218;exact CB
theorem I7 (q:OA)(n c base:Nat)(l:List ShD)(p:ShD->Bool)(g:Nat)(lb:Array Value)(eg:∀ args w,(callFunc g args).run prog w=.ok (.enter g args) w)(w:World)
 (h:SlD (Fl bg) 5 base w q n l) (hp:∀ (W:World) (x:ShD) (cs:List Value),Ext w W->x∈l->(Fl bg) base W x cs->Calls prog g (#[.agg cs.toArray]++lb) W λ e w2=>e=.returned (.bool (p x))/\Ext W w2) (hn:n<=1048576) :
 CE 333 #[sl q n c,.func (.func g) #[] lb] w (dc p l:Int):=by
 have hl:=aa h.length;go_enter func333,ntmps333;go_wp2;go_loopw [5,8] (λ _ i wr=>∃ k:Nat,k<=n/\i=.int .i64 k/\Ext w wr/\Hid ((l.take k).any p=false)) (λ _ i _=>n - (intOf i).toNat)
 case atStart=>exact⟨0,oM,rfl,ab _,rfl⟩
 case round =>
  obtain⟨k,hk,rfl,hE,hA⟩:=hrel;by_cases hlt:k<n
  . obtain⟨b,off,x,cs,rfl,hb,hx,hcs,hc⟩:=(h.ext okShape hE).get hlt;have hrr:=aa (show wr.rangeAt b (off+k*5) cs from hc);have hsz:=aa (show (prog.info? 236).map (·.size)=some cs.length from by rw [okShape.len hcs];kernel_rfl);clear hc;have hcall:=aa (hp wr x cs hE (ap hx.out) hcs)
    cases hq:p x with
    | true => rw [hq] at hcall;have hr:Hid (dc p l=k):=kD hA.out hx.out hq;clear hq;go_wp2_with (first | (go_at_fn g;refine hcall.mono ?_;rintro e w2 ⟨rfl,hb2⟩) | (refine cy rfl 236 (Operand.tmp 14) rfl b (off+k*5) rfl cs _ hrr.out underlying236 rfl hsz.out ?_));exact mi
    | false => rw [hq] at hcall;have hr:Hid ((l.take (k+1)).any p=false):=jc hA.out hx.out hq;clear hq;go_wp2_with (first | (go_at_fn g;refine hcall.mono ?_;rintro e w2 ⟨rfl,hb2⟩) | (refine cy rfl 236 (Operand.tmp 14) rfl b (off+k*5) rfl cs _ hrr.out underlying236 rfl hsz.out ?_));exact mg
  . exact lc
theorem DB (q:OA)(n c base:Nat)(l:List ShD)(p:ShD->Bool)(g:Nat)(lb:Array Value)(eg:∀ args w,(callFunc g args).run prog w=.ok (.enter g args) w)(w:World)
 (h:SlD (Fl bg) 5 base w q n l) (hp:∀ (W:World) (x:ShD) (cs:List Value),Ext w W->x∈l->(Fl bg) base W x cs->Calls prog g (#[.agg cs.toArray]++lb) W λ e w2=>e=.returned (.bool (p x))/\Ext W w2) (hn:n<=1048576) :
 CE 258 #[sl q n c,.func (.func g) #[] lb] w (.bool (l.any p)):=by
 have hr:=aa (lh p l);go_enter func258,ntmps258;go_wp2_with (go_at_call 333;refine (I7 q n c base l p g lb eg _ h hp hn).mono ?_;rintro e w' ⟨rfl,hE⟩);exact jW
theorem I8 (q:OA)(n c base:Nat)(l:List LbD)(p:LbD->Bool)(g:Nat)(lb:Array Value)(eg:∀ args w,(callFunc g args).run prog w=.ok (.enter g args) w)(w:World)
 (h:SlD (Fl dL) 4 base w q n l) (hp:∀ (W:World) (x:LbD) (cs:List Value),Ext w W->x∈l->(Fl dL) base W x cs->Calls prog g (#[.agg cs.toArray]++lb) W λ e w2=>e=.returned (.bool (p x))/\Ext W w2) (hn:n<=1048576) :
 CE 334 #[sl q n c,.func (.func g) #[] lb] w (dc p l:Int):=by
 have hl:=aa h.length;go_enter func334,ntmps334;go_wp2;go_loopw [5,8] (λ _ i wr=>∃ k:Nat,k<=n/\i=.int .i64 k/\Ext w wr/\Hid ((l.take k).any p=false)) (λ _ i _=>n - (intOf i).toNat)
 case atStart=>exact⟨0,oM,rfl,ab _,rfl⟩
 case round =>
  obtain⟨k,hk,rfl,hE,hA⟩:=hrel;by_cases hlt:k<n
  . obtain⟨b,off,x,cs,rfl,hb,hx,hcs,hc⟩:=(h.ext okLabel hE).get hlt;have hrr:=aa (show wr.rangeAt b (off+k*4) cs from hc);have hsz:=aa (show (prog.info? 250).map (·.size)=some cs.length from by rw [okLabel.len hcs];kernel_rfl);clear hc;have hcall:=aa (hp wr x cs hE (ap hx.out) hcs)
    cases hq:p x with
    | true => rw [hq] at hcall;have hr:Hid (dc p l=k):=kD hA.out hx.out hq;clear hq;go_wp2_with (first | (go_at_fn g;refine hcall.mono ?_;rintro e w2 ⟨rfl,hb2⟩) | (refine cy rfl 250 (Operand.tmp 14) rfl b (off+k*4) rfl cs _ hrr.out underlying250 rfl hsz.out ?_));exact mi
    | false => rw [hq] at hcall;have hr:Hid ((l.take (k+1)).any p=false):=jc hA.out hx.out hq;clear hq;go_wp2_with (first | (go_at_fn g;refine hcall.mono ?_;rintro e w2 ⟨rfl,hb2⟩) | (refine cy rfl 250 (Operand.tmp 14) rfl b (off+k*4) rfl cs _ hrr.out underlying250 rfl hsz.out ?_));exact mg
  . exact lc
theorem DC (q:OA)(n c base:Nat)(l:List LbD)(p:LbD->Bool)(g:Nat)(lb:Array Value)(eg:∀ args w,(callFunc g args).run prog w=.ok (.enter g args) w)(w:World)
 (h:SlD (Fl dL) 4 base w q n l) (hp:∀ (W:World) (x:LbD) (cs:List Value),Ext w W->x∈l->(Fl dL) base W x cs->Calls prog g (#[.agg cs.toArray]++lb) W λ e w2=>e=.returned (.bool (p x))/\Ext W w2) (hn:n<=1048576) :
 CE 261 #[sl q n c,.func (.func g) #[] lb] w (.bool (l.any p)):=by
 have hr:=aa (lh p l);go_enter func261,ntmps261;go_wp2_with (go_at_call 334;refine (I8 q n c base l p g lb eg _ h hp hn).mono ?_;rintro e w' ⟨rfl,hE⟩);exact jW
theorem Ja (q:OA)(n c base:Nat)(l:List InD)(p:InD->Bool)(g:Nat)(lb:Array Value)(eg:∀ args w,(callFunc g args).run prog w=.ok (.enter g args) w)(w:World)
 (h:SlD (Fl cV) 8 base w q n l) (hp:∀ (W:World) (x:InD) (cs:List Value),Ext w W->x∈l->(Fl cV) base W x cs->Calls prog g (#[.agg cs.toArray]++lb) W λ e w2=>e=.returned (.bool (p x))/\Ext W w2) (hn:n<=1048576) :
 CE 336 #[sl q n c,.func (.func g) #[] lb] w (dc p l:Int):=by
 have hl:=aa h.length;go_enter func336,ntmps336;go_wp2;go_loopw [5,8] (λ _ i wr=>∃ k:Nat,k<=n/\i=.int .i64 k/\Ext w wr/\Hid ((l.take k).any p=false)) (λ _ i _=>n - (intOf i).toNat)
 case atStart=>exact⟨0,oM,rfl,ab _,rfl⟩
 case round =>
  obtain⟨k,hk,rfl,hE,hA⟩:=hrel;by_cases hlt:k<n
  . obtain⟨b,off,x,cs,rfl,hb,hx,hcs,hc⟩:=(h.ext okInstance hE).get hlt;have hrr:=aa (show wr.rangeAt b (off+k*8) cs from hc);have hsz:=aa (show (prog.info? 252).map (·.size)=some cs.length from by rw [okInstance.len hcs];kernel_rfl);clear hc;have hcall:=aa (hp wr x cs hE (ap hx.out) hcs)
    cases hq:p x with
    | true => rw [hq] at hcall;have hr:Hid (dc p l=k):=kD hA.out hx.out hq;clear hq;go_wp2_with (first | (go_at_fn g;refine hcall.mono ?_;rintro e w2 ⟨rfl,hb2⟩) | (refine cy rfl 252 (Operand.tmp 14) rfl b (off+k*8) rfl cs _ hrr.out underlying252 rfl hsz.out ?_));exact mi
    | false => rw [hq] at hcall;have hr:Hid ((l.take (k+1)).any p=false):=jc hA.out hx.out hq;clear hq;go_wp2_with (first | (go_at_fn g;refine hcall.mono ?_;rintro e w2 ⟨rfl,hb2⟩) | (refine cy rfl 252 (Operand.tmp 14) rfl b (off+k*8) rfl cs _ hrr.out underlying252 rfl hsz.out ?_));exact mg
  . exact lc
theorem DD (q:OA)(n c base:Nat)(l:List InD)(p:InD->Bool)(g:Nat)(lb:Array Value)(eg:∀ args w,(callFunc g args).run prog w=.ok (.enter g args) w)(w:World)
 (h:SlD (Fl cV) 8 base w q n l) (hp:∀ (W:World) (x:InD) (cs:List Value),Ext w W->x∈l->(Fl cV) base W x cs->Calls prog g (#[.agg cs.toArray]++lb) W λ e w2=>e=.returned (.bool (p x))/\Ext W w2) (hn:n<=1048576) :
 CE 264 #[sl q n c,.func (.func g) #[] lb] w (.bool (l.any p)):=by
 have hr:=aa (lh p l);go_enter func264,ntmps264;go_wp2_with (go_at_call 336;refine (Ja q n c base l p g lb eg _ h hp hn).mono ?_;rintro e w' ⟨rfl,hE⟩);exact jW
theorem Jb (q:OA)(n c base:Nat)(l:List EdD)(p:EdD->Bool)(g:Nat)(lb:Array Value)(eg:∀ args w,(callFunc g args).run prog w=.ok (.enter g args) w)(w:World)
 (h:SlD (Fl am) 21 base w q n l) (hp:∀ (W:World) (x:EdD) (cs:List Value),Ext w W->x∈l->(Fl am) base W x cs->Calls prog g (#[.agg cs.toArray]++lb) W λ e w2=>e=.returned (.bool (p x))/\Ext W w2) (hn:n<=1048576) :
 CE 337 #[sl q n c,.func (.func g) #[] lb] w (dc p l:Int):=by
 have hl:=aa h.length;go_enter func337,ntmps337;go_wp2;go_loopw [5,8] (λ _ i wr=>∃ k:Nat,k<=n/\i=.int .i64 k/\Ext w wr/\Hid ((l.take k).any p=false)) (λ _ i _=>n - (intOf i).toNat)
 case atStart=>exact⟨0,oM,rfl,ab _,rfl⟩
 case round =>
  obtain⟨k,hk,rfl,hE,hA⟩:=hrel;by_cases hlt:k<n
  . obtain⟨b,off,x,cs,rfl,hb,hx,hcs,hc⟩:=(h.ext okEdit hE).get hlt;have hrr:=aa (show wr.rangeAt b (off+k*21) cs from hc);have hsz:=aa (show (prog.info? 254).map (·.size)=some cs.length from by rw [okEdit.len hcs];kernel_rfl);clear hc;have hcall:=aa (hp wr x cs hE (ap hx.out) hcs)
    cases hq:p x with
    | true => rw [hq] at hcall;have hr:Hid (dc p l=k):=kD hA.out hx.out hq;clear hq;go_wp2_with (first | (go_at_fn g;refine hcall.mono ?_;rintro e w2 ⟨rfl,hb2⟩) | (refine cy rfl 254 (Operand.tmp 14) rfl b (off+k*21) rfl cs _ hrr.out underlying254 rfl hsz.out ?_));exact mi
    | false => rw [hq] at hcall;have hr:Hid ((l.take (k+1)).any p=false):=jc hA.out hx.out hq;clear hq;go_wp2_with (first | (go_at_fn g;refine hcall.mono ?_;rintro e w2 ⟨rfl,hb2⟩) | (refine cy rfl 254 (Operand.tmp 14) rfl b (off+k*21) rfl cs _ hrr.out underlying254 rfl hsz.out ?_));exact mg
  . exact lc
theorem Jc (q:OA)(n c base:Nat)(l:List EdD)(p:EdD->Bool)(g:Nat)(lb:Array Value)(eg:∀ args w,(callFunc g args).run prog w=.ok (.enter g args) w)(w:World)
 (h:SlD (Fl am) 21 base w q n l) (hp:∀ (W:World) (x:EdD) (cs:List Value),Ext w W->x∈l->(Fl am) base W x cs->Calls prog g (#[.agg cs.toArray]++lb) W λ e w2=>e=.returned (.bool (p x))/\Ext W w2) (hn:n<=1048576) :
 CE 270 #[sl q n c,.func (.func g) #[] lb] w (.bool (l.any p)):=by
 have hr:=aa (lh p l);go_enter func270,ntmps270;go_wp2_with (go_at_call 337;refine (Jb q n c base l p g lb eg _ h hp hn).mono ?_;rintro e w' ⟨rfl,hE⟩);exact jW
theorem Jd (q:OA)(n c base:Nat)(l:List DvD)(p:DvD->Bool)(g:Nat)(lb:Array Value)(eg:∀ args w,(callFunc g args).run prog w=.ok (.enter g args) w)(w:World)
 (h:SlD DvR 4 base w q n l) (hp:∀ (W:World) (x:DvD) (cs:List Value),Ext w W->x∈l->DvR base W x cs->Calls prog g (#[.agg cs.toArray]++lb) W λ e w2=>e=.returned (.bool (p x))/\Ext W w2) (hn:n<=1048576) :
 CE 180 #[sl q n c,.func (.func g) #[] lb] w (dc p l:Int):=by
 have hl:=aa h.length;go_enter func180,ntmps180;go_wp2;go_loopw [5,8] (λ _ i wr=>∃ k:Nat,k<=n/\i=.int .i64 k/\Ext w wr/\Hid ((l.take k).any p=false)) (λ _ i _=>n - (intOf i).toNat)
 case atStart=>exact⟨0,oM,rfl,ab _,rfl⟩
 case round =>
  obtain⟨k,hk,rfl,hE,hA⟩:=hrel;by_cases hlt:k<n
  . obtain⟨b,off,x,cs,rfl,hb,hx,hcs,hc⟩:=(h.ext aL25 hE).get hlt;have hrr:=aa (show wr.rangeAt b (off+k*4) cs from hc);have hsz:=aa (show (prog.info? 156).map (·.size)=some cs.length from by rw [aL25.len hcs];kernel_rfl);clear hc;have hcall:=aa (hp wr x cs hE (ap hx.out) hcs)
    cases hq:p x with
    | true => rw [hq] at hcall;have hr:Hid (dc p l=k):=kD hA.out hx.out hq;clear hq;go_wp2_with (first | (go_at_fn g;refine hcall.mono ?_;rintro e w2 ⟨rfl,hb2⟩) | (refine cy rfl 156 (Operand.tmp 14) rfl b (off+k*4) rfl cs _ hrr.out underlying156 rfl hsz.out ?_));exact mi
    | false => rw [hq] at hcall;have hr:Hid ((l.take (k+1)).any p=false):=jc hA.out hx.out hq;clear hq;go_wp2_with (first | (go_at_fn g;refine hcall.mono ?_;rintro e w2 ⟨rfl,hb2⟩) | (refine cy rfl 156 (Operand.tmp 14) rfl b (off+k*4) rfl cs _ hrr.out underlying156 rfl hsz.out ?_));exact mg
  . exact lc
theorem Je (q:OA)(n c base:Nat)(l:List DvD)(p:DvD->Bool)(g:Nat)(lb:Array Value)(eg:∀ args w,(callFunc g args).run prog w=.ok (.enter g args) w)(w:World)
 (h:SlD DvR 4 base w q n l) (hp:∀ (W:World) (x:DvD) (cs:List Value),Ext w W->x∈l->DvR base W x cs->Calls prog g (#[.agg cs.toArray]++lb) W λ e w2=>e=.returned (.bool (p x))/\Ext W w2) (hn:n<=1048576) :
 CE 119 #[sl q n c,.func (.func g) #[] lb] w (.bool (l.any p)):=by
 have hr:=aa (lh p l);go_enter func119,ntmps119;go_wp2_with (go_at_call 180;refine (Jd q n c base l p g lb eg _ h hp hn).mono ?_;rintro e w' ⟨rfl,hE⟩);exact jW
theorem Jf (q:OA)(n c base:Nat)(l:List CeD)(p:CeD->Bool)(g:Nat)(lb:Array Value)(eg:∀ args w,(callFunc g args).run prog w=.ok (.enter g args) w)(w:World)
 (h:SlD CeR 4 base w q n l) (hp:∀ (W:World) (x:CeD) (cs:List Value),Ext w W->x∈l->CeR base W x cs->Calls prog g (#[.agg cs.toArray]++lb) W λ e w2=>e=.returned (.bool (p x))/\Ext W w2) (hn:n<=1048576) :
 CE 267 #[sl q n c,.func (.func g) #[] lb] w (dc p l:Int):=by
 have hl:=aa h.length;go_enter func267,ntmps267;go_wp2;go_loopw [5,8] (λ _ i wr=>∃ k:Nat,k<=n/\i=.int .i64 k/\Ext w wr/\Hid ((l.take k).any p=false)) (λ _ i _=>n - (intOf i).toNat)
 case atStart=>exact⟨0,oM,rfl,ab _,rfl⟩
 case round =>
  obtain⟨k,hk,rfl,hE,hA⟩:=hrel;by_cases hlt:k<n
  . obtain⟨b,off,x,cs,rfl,hb,hx,hcs,hc⟩:=(h.ext aL6 hE).get hlt;have hrr:=aa (show wr.rangeAt b (off+k*4) cs from hc);have hsz:=aa (show (prog.info? 188).map (·.size)=some cs.length from by rw [aL6.len hcs];kernel_rfl);clear hc;have hcall:=aa (hp wr x cs hE (ap hx.out) hcs)
    cases hq:p x with
    | true => rw [hq] at hcall;have hr:Hid (dc p l=k):=kD hA.out hx.out hq;clear hq;go_wp2_with (first | (go_at_fn g;refine hcall.mono ?_;rintro e w2 ⟨rfl,hb2⟩) | (refine cy rfl 188 (Operand.tmp 14) rfl b (off+k*4) rfl cs _ hrr.out underlying188 rfl hsz.out ?_));exact mi
    | false => rw [hq] at hcall;have hr:Hid ((l.take (k+1)).any p=false):=jc hA.out hx.out hq;clear hq;go_wp2_with (first | (go_at_fn g;refine hcall.mono ?_;rintro e w2 ⟨rfl,hb2⟩) | (refine cy rfl 188 (Operand.tmp 14) rfl b (off+k*4) rfl cs _ hrr.out underlying188 rfl hsz.out ?_));exact mg
  . exact lc
theorem Jg (q:OA)(n c base:Nat)(l:List Int)(p:Int->Bool)(g:Nat)(lb:Array Value)(eg:∀ args w,(callFunc g args).run prog w=.ok (.enter g args) w)(w:World)
 (h:SlD (Fl bi) 1 base w q n l) (hp:∀ (W:World) (x:Int),Ext w W->x∈l->Calls prog g (#[.int .i64 x]++lb) W λ e w2=>e=.returned (.bool (p x))/\Ext W w2) (hn:n<=1048576) :
 CE 273 #[sl q n c,.func (.func g) #[] lb] w (dc p l:Int):=by
 have hl:=aa h.length;go_enter func273,ntmps273;go_wp2;go_loopw [5,8] (λ _ i wr=>∃ k:Nat,k<=n/\i=.int .i64 k/\Ext w wr/\Hid ((l.take k).any p=false)) (λ _ i _=>n - (intOf i).toNat)
 case atStart=>exact⟨0,oM,rfl,ab _,rfl⟩
 case round =>
  obtain⟨k,hk,rfl,hE,hA⟩:=hrel;by_cases hlt:k<n
  . obtain⟨b,off,x,cs,rfl,hb,hx,hcs,hc⟩:=(h.ext cW hE).get hlt;obtain rfl:cs=bi x:=hcs;have y0:=hc 0 _ rfl;rw [aq,aZ] at y0;clear hc;have hcall:=aa (hp wr x hE (ap hx.out));exact BN
  . exact lc
theorem tG (q:OA)(n c base:Nat)(l:List Int)(p:Int->Bool)(g:Nat)(lb:Array Value)(eg:∀ args w,(callFunc g args).run prog w=.ok (.enter g args) w)(w:World)
 (h:SlD (Fl bi) 1 base w q n l) (hp:∀ (W:World) (x:Int),Ext w W->x∈l->Calls prog g (#[.int .i64 x]++lb) W λ e w2=>e=.returned (.bool (p x))/\Ext W w2) (hn:n<=1048576) :
 CE 182 #[sl q n c,.func (.func g) #[] lb] w (.bool (l.any p)):=by
 have hr:=aa (lh p l);go_enter func182,ntmps182;go_wp2_with (go_at_call 273;refine (Jg q n c base l p g lb eg _ h hp hn).mono ?_;rintro e w' ⟨rfl,hE⟩);exact jW
theorem Jh (q:OA)(n c base:Nat)(l:List (List EdD))(p:(List EdD)->Bool)(g:Nat)(lb:Array Value)(eg:∀ args w,(callFunc g args).run prog w=.ok (.enter g args) w)(w:World)
 (h:SlD (RwD (Fl am) 21) 1 base w q n l) (hp:∀ (W:World) (x:List EdD) (p2:OA) (n2 c2:Nat),Ext w W->x∈l->SlD (Fl am) 21 base W p2 n2 x->Calls prog g (#[.slice p2 n2 c2]++lb) W λ e w2=>e=.returned (.bool (p x))/\Ext W w2) (hn:n<=1048576) :
 CE 269 #[sl q n c,.func (.func g) #[] lb] w (dc p l:Int):=by
 have hl:=aa h.length;go_enter func269,ntmps269;go_wp2;go_loopw [5,8] (λ _ i wr=>∃ k:Nat,k<=n/\i=.int .i64 k/\Ext w wr/\Hid ((l.take k).any p=false)) (λ _ i _=>n - (intOf i).toNat)
 case atStart=>exact⟨0,oM,rfl,ab _,rfl⟩
 case round =>
  obtain⟨k,hk,rfl,hE,hA⟩:=hrel;by_cases hlt:k<n
  . obtain⟨b,off,x,cs,rfl,hb,hx,hcs,hc⟩:=(h.ext (az okEdit) hE).get hlt;obtain⟨p2,n2,c2,rfl,s2⟩:=hcs;have y0:=hc 0 _ rfl;rw [aq,aZ] at y0;clear hc;have hcall:=aa (hp wr x p2 n2 c2 hE (ap hx.out) s2);exact BN
  . exact lc
theorem Ji (q:OA)(n c base:Nat)(l:List (List EdD))(p:(List EdD)->Bool)(g:Nat)(lb:Array Value)(eg:∀ args w,(callFunc g args).run prog w=.ok (.enter g args) w)(w:World)
 (h:SlD (RwD (Fl am) 21) 1 base w q n l) (hp:∀ (W:World) (x:List EdD) (p2:OA) (n2 c2:Nat),Ext w W->x∈l->SlD (Fl am) 21 base W p2 n2 x->Calls prog g (#[.slice p2 n2 c2]++lb) W λ e w2=>e=.returned (.bool (p x))/\Ext W w2) (hn:n<=1048576) :
 CE 174 #[sl q n c,.func (.func g) #[] lb] w (.bool (l.any p)):=by
 have hr:=aa (lh p l);go_enter func174,ntmps174;go_wp2_with (go_at_call 269;refine (Jh q n c base l p g lb eg _ h hp hn).mono ?_;rintro e w' ⟨rfl,hE⟩);exact jW
end Go.Proofs.YtnlajnpcdnnpmaaGreat
