/- Part of a proof. No condition. -/
import Derived.Test.YtnlajnpcdnnpmaaGreatA0
import Derived.Test.YtnlajnpcdnnpmaaGreatRows
namespace Go.Proofs.YtnlajnpcdnnpmaaGreat
set_option linter.all false
set_option maxRecDepth 100000
set_option maxHeartbeats 16000000
open Go.RowKit
theorem aa {p:Prop}(h:p):Hid p:=h
theorem bu {a b:Bool}(h:a=b):Ending.returned (.bool a)=.returned (.bool b):=by rw [h]
theorem cp {k:IntKind}{a b:Int}(h:a=b):Ending.returned (.int k a)=.returned (.int k b):=by rw [h]
def Ext (w w':World):Prop:=Below w.heap.size w w'
theorem Ext.refl (w:World):Ext w w:=Below.refl _ _
abbrev ab:=@Ext.refl
theorem Ext.trans {a b c:World}(h:Ext a b)(k:Ext b c):Ext a c:=Below.trans h (Below.mono k h.size)
theorem Ext.alloc {a w:World}(h:Ext a w)(o:Obj):Ext a (w.alloc o):=Below.alloc h h.size o
abbrev gC:=@Ext.alloc
theorem Ext.drew {a w:World}(h:Ext a w):Ext a w.drew:=Below.drew h
abbrev jw:=@Ext.drew
theorem Ext.setCell {a w:World}(h:Ext a w){p:Addr}(hp:a.heap.size<=p.block)(u:Value):Ext a (w.setCell p u):=Below.setCell h hp u
abbrev jX:=@Ext.setCell
theorem Ext.le {w w':World}(h:Ext w w'):w.heap.size<=w'.heap.size:=h.size
theorem Ext.cells {w w':World}(h:Ext w w'):∀ b o,b<w.heap.size->w'.cell? ⟨b,o,none⟩=w.cell? ⟨b,o,none⟩:=λ b o hb=>Below.cell h (p:=⟨b,o,none⟩) hb
theorem Ext.grown {a w w':World}{row:Option Nat}(h:Ext a w)(hg:w.grownBy w' row)(hr:∀ k,row=some k->a.heap.size<=k):Ext a w':=Below.grown h hg h.size hr
structure Later (w:World) where
 val:World
 ok:Ext w val
instance laterNe (w:World):Nonempty (Later w):=⟨⟨w,ab _⟩⟩
theorem Later.cell? {w:World}(p:Later w)(a:Addr)(h:a.block<w.heap.size):p.val.cell? a=w.cell? a:=Below.cell p.ok h
attribute [go_sem] Later.cell?
theorem aQ {P:Program}{id:Nat}{Q:Exit->Act->World->Prop}{a:Act}{w:World}{l:List Oper}(hm:P.follows .mixedOrders=true)(hB:Region.lexB .any l.toArray=true)
 (h:wpQuiet P l.toArray (λ w'=>∃ p:Later w,w'=p.val) (λ a'=>∀ w',(∃ p:Later w,w'=p.val)->Q .normal a' w') l a):(Code.region id l.toArray true).wp P Q a w :=
 wp_region_quiet (C:=λ w'=>∃ p:Later w,w'=p.val) hm hB ⟨⟨w.drew,(ab _).drew⟩,rfl⟩ (by simpa using h)
theorem bh {P:Program}{f:FuncId}{args:Array Value}{w:World}{p:Later w}{v:Value}
 (h:Calls P f args p.val λ e w'=>e=.returned v/\Ext p.val w'):Calls P f args p.val λ e w''=>e=.returned v/\∃ q:Later w,w''=q.val :=
 h.mono λ _ w' ⟨he,hq⟩=>⟨he,⟨w',p.ok.trans hq⟩,rfl⟩
theorem Calls.ext {P:Program}{f:FuncId}{args:Array Value}{w:World}{v:Value}(h:Calls P f args w λ e w'=>e=.returned v/\w=w') :
 Calls P f args w λ e w'=>e=.returned v/\Ext w w':=h.mono λ _ _ ⟨he,hq⟩=>⟨he,hq▸ab _⟩
def SlT {α:Type} (enc:α->List Value) (sz:Nat) (w:World) (p:Option Addr) (n:Nat) (l:List α):Prop :=
 l.length=n/\(n=0\/∃ b off,p=some ⟨b,off,none⟩/\b<w.heap.size/\∀ k x,l[k]?=some x->∀ j v,(enc x)[j]?=some v->w.cell? ⟨b,off+k*sz+j,none⟩=some v)
section
variable {α:Type} {enc:α->List Value} {sz:Nat} {w w':World} {p:Option Addr} {n:Nat} {l:List α}
theorem SlT.length (h:SlT enc sz w p n l):l.length=n:=h.1
theorem SlT.ext (h:SlT enc sz w p n l)(hE:Ext w w'):SlT enc sz w' p n l:=by
 obtain⟨h1,h2⟩:=h;refine⟨h1,?_⟩;rcases h2 with h2 | ⟨b,off,hp,hb,hc⟩
 . exact ay h2
 . exact aB ⟨b,off,hp,aF hb hE.le,λ k x hx j v hv=>(hE.cells b _ hb).trans (hc k x hx j v hv)⟩
theorem SlT.get (h:SlT enc sz w p n l){k:Nat}(hk:k<n):∃ b off x,p=some ⟨b,off,none⟩/\b<w.heap.size/\Hid (l[k]?=some x)/\∀ j v,(enc x)[j]?=some v->w.cell? ⟨b,off+k*sz+j,none⟩=some v:=by
 obtain⟨h1,h2⟩:=h;rcases h2 with h2 | ⟨b,off,hp,hb,hc⟩
 . omega
 . have hx:l[k]?=some l[k]:=bK oM;exact⟨b,off,l[k],hp,hb,hx,hc k _ hx⟩
theorem SlT.zero (p:Option Addr)(w:World):SlT enc sz w p 0 []:=⟨rfl,ay rfl⟩
end
theorem ch {α:Type}{l:List α}{k:Nat}{x:α}(h:l[k]?=some x):l.take (k+1)=l.take k++[x]:=by rw [List.take_add_one,h];rfl
theorem cz {α:Type}{l:List α}{k n:Nat}(hl:l.length=n)(h:n<=k):l.take k=l:=eE oM
def bi (x:Int):List Value:=[.int .i64 x]
theorem SlT.int {w:World}{p:Option Addr}{n:Nat}{l:List Int}(h:SlT bi 1 w p n l){k:Nat}(hk:k<n) :
 ∃ b off x,p=some ⟨b,off,none⟩/\b<w.heap.size/\Hid (l[k]?=some x)/\w.cell? ⟨b,off+k,none⟩=some (.int .i64 x):=by
 obtain⟨b,off,x,h1,h2,h3,h4⟩:=h.get hk;exact⟨b,off,x,h1,h2,h3,by have:=h4 0 _ rfl;simpa using this⟩
structure Q4 where
 a:Int
 b:Int
 c:Int
 d:Int
def aj (x:Q4):List Value:=[.int .i64 x.a,.int .i64 x.b,.int .i64 x.c,.int .i64 x.d]
theorem SlT.four {w:World}{p:Option Addr}{n:Nat}{l:List Q4}(h:SlT aj 4 w p n l){k:Nat}(hk:k<n) :
 ∃ b off x,p=some ⟨b,off,none⟩/\b<w.heap.size/\Hid (l[k]?=some x)/\w.cell? ⟨b,off+k*4,none⟩=some (.int .i64 x.a)/\w.cell? ⟨b,off+k*4+1,none⟩=some (.int .i64 x.b) /\
  w.cell? ⟨b,off+k*4+2,none⟩=some (.int .i64 x.c)/\w.cell? ⟨b,off+k*4+3,none⟩=some (.int .i64 x.d):=by
 obtain⟨b,off,x,h1,h2,h3,h4⟩:=h.get hk;exact⟨b,off,x,h1,h2,h3,h4 0 _ rfl,h4 1 _ rfl,h4 2 _ rfl,h4 3 _ rfl⟩
structure Q3 where
 a:Int
 b:Int
 c:Int
def IM (x:Q3):List Value:=[.int .i64 x.a,.int .i64 x.b,.int .i64 x.c]
structure Q2 where
 a:Int
 b:Int
def jb (x:Q2):List Value:=[.int .i64 x.a,.int .i64 x.b]
theorem SlT.two {w:World}{p:Option Addr}{n:Nat}{l:List Q2}(h:SlT jb 2 w p n l){k:Nat}(hk:k<n) :
 ∃ b off x,p=some ⟨b,off,none⟩/\b<w.heap.size/\Hid (l[k]?=some x)/\w.cell? ⟨b,off+k*2,none⟩=some (.int .i64 x.a)/\w.cell? ⟨b,off+k*2+1,none⟩=some (.int .i64 x.b):=by
 obtain⟨b,off,x,h1,h2,h3,h4⟩:=h.get hk;exact⟨b,off,x,h1,h2,h3,h4 0 _ rfl,h4 1 _ rfl⟩
theorem tu {α:Type}{enc:α->List Value}{sz:Nat}(hsz:∀ x,(enc x).length=sz):∀ {l:List α} {k:Nat} {x:α},l[k]?=some x->∀ {j:Nat} {v:Value},(enc x)[j]?=some v->(l.flatMap enc)[k*sz+j]?=some v
 | [],k,x,hx,_,_,_=>by simp at hx
 | y :: l,0,x,hx,j,v,hv=>by
   have hj:j<sz:=by rw [<-hsz x];exact (aL31.1 hv).1
   simp only [aJ,Option.some.injEq] at hx;subst hx;simp only [fX,ky,fQ];rw [fm (by rw [hsz];exact hj)];exact hv
 | y :: l,k+1,x,hx,j,v,hv=>by simp only [aN] at hx;simp only [fX];rw [jT (by rw [hsz,Nat.add_mul];omega),hsz,show (k+1)*sz+j - sz=k*sz+j by rw [Nat.add_mul];omega];exact tu hsz hx hv
theorem SlT.of_owns {α:Type}{enc:α->List Value}{sz:Nat}(hsz:∀ x,(enc x).length=sz){w:World}{base:Nat}{e:TypeId}{p:Option Addr}{n c:Nat}{l:List α}(hl:l.length=n)
 (h:w.ownsRow base e sz (.slice p n c) n (l.flatMap enc)):SlT enc sz w p n l:=by
 refine⟨hl,?_⟩;rcases h.2 with ⟨_,h0⟩ | ⟨g,cap,cur,hv,hg,hh,hc,hm,hs,ht⟩
 . exact ay h0
 . cases hv
   refine aB ⟨g,0,rfl,?_,?_⟩
   . exact AX
   . intro k x hx j v hv;have hk:k<l.length:=(aL31.1 hx).1;have key:=tu hsz hx hv;rw [fQ];simp only [World.cell?,hh];rw [<-ht,List.getElem?_take] at key
     split at key
     . simpa using key
     . cases key
abbrev bm:=@SlT.of_owns
theorem gF (z:Array Value)(v:Value)(m:Nat)(hz:0<z.size)(h:∀ j,j<z.size->z[j]?=some v):(madeCells z m).toList=List.replicate m v:=by
 apply qM;intro j;simp only [madeCells,Array.toList_map,Array.toList_range,cK,List.getElem?_replicate];by_cases hj:j<m
 . rw [nK hj];have:=h (j % z.size) (Nat.mod_lt _ hz);simp [hj,getElem!_def,this]
 . simp [hj]
def fill {α:Type} (enc:α->List Value) (sz:Nat) (z:Value) (l:List α) (n k:Nat):List Value:=(l.take k).flatMap enc++List.replicate ((n - k)*sz) z
theorem IP {α:Type}(enc:α->List Value)(sz:Nat)(z:Value)(l:List α)(n:Nat):fill enc sz z l n 0=List.replicate (n*sz) z:=by simp [fill]
theorem IQ {α:Type}(enc:α->List Value)(sz:Nat)(z:Value)(l:List α)(n:Nat)(h:l.length=n):fill enc sz z l n n=l.flatMap enc:=by simp [fill,eE (Nat.le_of_eq h)]
theorem kC {α:Type}{enc:α->List Value}{sz:Nat}(hsz:∀ x,(enc x).length=sz):∀ (l:List α),(l.flatMap enc).length=l.length*sz
 | []=>by simp
 | x :: l=>by rw [fX,aI,hsz,kC hsz l,eO,Nat.add_mul];omega
theorem IR {l:List Int}{n k:Nat}{x:Int}{z:Value}(hx:l[k]?=some x)(hk:k<n)(hl:l.length=n) :
 (fill bi 1 z l n k).set k (.int .i64 x)=fill bi 1 z l n (k+1):=by
 have e:(n - k)*1=(n - (k+1))*1+1:=oM;have hlen:((l.take k).flatMap bi).length=k:=by rw [kC (sz:=1) (λ _=>rfl),fI];omega
 unfold fill;rw [ch hx,e,List.replicate_succ,dj,List.set_append_right _ _ oM,hlen];simp [bi]
theorem Ext.grownBy {w w':World}(h:Ext w w')(row:Option Nat):w.grownBy w' row:=⟨h.os,h.tape,h.output,h.size,λ k hk _=>h.block k hk⟩
theorem aG {w w':World}{base:Nat}{e:TypeId}{size:Nat}{v:Value}{n:Nat}{xs:List Value}(h:w.ownsRow base e size v n xs)(hE:Ext w w'):w'.ownsRow base e size v n xs :=
 h.kept (hE.grownBy none) (by cases v.ownBlock <;> simp)
theorem cM {w:World}{base:Nat}{e:TypeId}{size g n c:Nat}{xs:List Value}(h:w.ownsRow base e size (.slice (some ⟨g,0,none⟩) n c) n xs):base<=g/\g<w.heap.size:=h.lt g rfl
theorem bO {w:World}{base:Nat}{e:TypeId}{size g n c:Nat}{xs:List Value}(h:w.ownsRow base e size (.slice (some ⟨g,0,none⟩) n c) n xs)(j:Nat)(hj:j<n*size):∃ v,w.cell? ⟨g,j,none⟩=some v:=by rw [h.cellAt j hj];exact⟨_,bK (by rw [h.1];exact hj)⟩
theorem ey {w:World}{base:Nat}{e:TypeId}{size g n c:Nat}{xs:List Value}(h:w.ownsRow base e size (.slice (some ⟨g,0,none⟩) n c) n xs):∀ j,w.frozen? ⟨g,j,none⟩=false:=λ j=>h.frozenAt j
theorem f7 {w:World}{base:Nat}{e:TypeId}{size g n c:Nat}{xs:List Value}(h:w.ownsRow base e size (.slice (some ⟨g,0,none⟩) n c) n xs)(j:Nat)(u:Value) :
 (w.setCell ⟨g,j,none⟩ u).ownsRow base e size (.slice (some ⟨g,0,none⟩) n c) n (xs.set j u):=(h.stored j u).1
def dc {α:Type} (p:α->Bool) (l:List α):Int:=match l.findIdx? p with | some i=>(i:Int) | none => -1
theorem we {α:Type}{p:α->Bool}{l:List α}(h:l.any p=false):dc p l = -1:=by
 have:l.findIdx? p=none:=by rw [List.findIdx?_eq_none_iff];intro x hx;rw [List.any_eq_false] at h;simpa using h x hx
 simp [dc,this]
theorem kD {α:Type}{p:α->Bool}{l:List α}{k:Nat}{x:α}(h:(l.take k).any p=false)(hx:l[k]?=some x)(hp:p x=true):dc p l=k:=by
 have:l.findIdx? p=some k:=by rw [List.findIdx?_eq_some_iff_getElem];obtain⟨hk,rfl⟩:=aL31.1 hx;refine⟨hk,hp,λ j hj=>?_⟩;rw [List.any_eq_false] at h;have hm:l[j]∈l.take k:=List.mem_take_iff_getElem.2 ⟨j,oM,rfl⟩;simpa using h _ hm
 simp [dc,this]
theorem jc {α:Type}{p:α->Bool}{l:List α}{k:Nat}{x:α}(h:(l.take k).any p=false)(hx:l[k]?=some x)(hp:p x=false):(l.take (k+1)).any p=false:=by rw [ch hx,pi,h];simp [hp]
theorem lh {α:Type}(p:α->Bool)(l:List α):decide (0<=dc p l)=l.any p:=by
 by_cases h:l.any p=true
 . rw [h]
   have:∃ i,l.findIdx? p=some i:=by
    cases hf:l.findIdx? p with
    | some i=>exact⟨i,rfl⟩
    | none=>rw [List.findIdx?_eq_none_iff] at hf;rw [aL59] at h;obtain⟨x,hx,hp⟩:=h;rw [hf x hx] at hp;cases hp
   obtain⟨i,hi⟩:=this;simp [dc,hi]
 . rw [gV] at h;rw [we h,h];rfl
theorem IU {α:Type}(p:α->Bool)(l:List α):(!l.any λ x=>!p x)=l.all p:=by
 induction l with
 | nil=>rfl
 | cons x l ih=>rw [List.any_cons,List.all_cons,<-ih];cases p x <;> simp
theorem cw (x:Q4):(aj x).length=4:=rfl
theorem wg (x:Q2):(jb x).length=2:=rfl
theorem nV (x:Int):(bi x).length=1:=rfl
def Blk (w:World) (B:Nat) (cs:List Value) (t:TypeId):Prop:=w.heap[B]?=some (.cells cs.toArray t (0,0))
theorem pz (w:World)(o:Obj):(w.alloc o).heap[w.heap.size]?=some o:=heap_alloc_new w o
theorem tw {w:World}(o:Obj){B:Nat}{x:Obj}(h:w.heap[B]?=some x):(w.alloc o).heap[B]?=some x:=by
 have hb:B<w.heap.size:=by
  rcases kX B w.heap.size with h' | h'
  . exact h'
  . rw [qE h'] at h;cases h
 rw [Below.heap_alloc _ _ _ hb];exact h
section
variable {w w':World} {B C:Nat} {cs ds:List Value} {t u:TypeId}
theorem Blk.lt (h:Blk w B cs t):B<w.heap.size:=by
 rcases kX B w.heap.size with h' | h'
 . exact h'
 . rw [Blk,qE h'] at h;cases h
theorem Blk.new (w:World)(cs:List Value)(t:TypeId):Blk (w.alloc (.cells cs.toArray t)) w.heap.size cs t:=pz _ _
abbrev aD:=@Blk.new
theorem Blk.ext (h:Blk w B cs t)(hE:Ext w w'):Blk w' B cs t:=(hE.block B h.lt).trans h
theorem Blk.alloc (h:Blk w B cs t)(o:Obj):Blk (w.alloc o) B cs t:=tw o h
theorem Blk.drew (h:Blk w B cs t):Blk w.drew B cs t:=h
abbrev nc:=@Blk.drew
theorem Blk.cells (h:Blk w B cs t):∀ j,w.cell? ⟨B,j,none⟩=cs[j]?:=λ j=>by rw [Blk] at h;simp [World.cell?,h]
theorem Blk.free (h:Blk w B cs t):∀ j,w.frozen? ⟨B,j,none⟩=false:=λ j=>by rw [Blk] at h;simp [World.frozen?,h]
theorem Blk.set (h:Blk w B cs t)(j:Nat)(v:Value):Blk (w.setCell ⟨B,j,none⟩ v) B (cs.set j v) t:=by rw [Blk] at h ⊢;simp [World.setCell,Array.getElem?_modify,h]
theorem Blk.other (h:Blk w C cs t)(j:Nat)(v:Value)(hne:C≠B):Blk (w.setCell ⟨B,j,none⟩ v) C cs t:=by rw [Blk] at h ⊢;rw [jR _ _ _ _ hne];exact h
theorem tx {base:Nat}{e:TypeId}{size n:Nat}{v:Value}{xs:List Value}(h:w.ownsRow base e size v n xs)(hne:v.ownBlock≠some B)(j:Nat)(x:Value) :
 (w.setCell ⟨B,j,none⟩ x).ownsRow base e size v n xs :=
 h.kept (row:=some B) ⟨rfl,rfl,rfl,by simp [World.setCell],λ k _ hk=>jR _ _ _ _ (λ hh=>hk (by rw [hh]))⟩ (aB hne)
theorem SlT.other {α:Type}{enc:α->List Value}{sz n:Nat}{p:Option Addr}{l:List α}(h:SlT enc sz w p n l)(j:Nat)(x:Value)(hne:∀ a,p=some a->a.block≠B):SlT enc sz (w.setCell ⟨B,j,none⟩ x) p n l:=by
 obtain⟨h1,h2⟩:=h;refine⟨h1,?_⟩;rcases h2 with h2 | ⟨b,off,hp,hb,hc⟩
 . exact ay h2
 . refine aB ⟨b,off,hp,by simpa [World.setCell] using hb,λ k y hy i v hv=>?_⟩;rw [kY (w:=w) (a:=⟨b,off+k*sz+i,none⟩) (jR _ _ _ _ (hne _ hp))];exact hc k y hy i v hv
end
theorem al {w W:World}{o1:Obj}(h:w.alloc o1=W):Ext w W/\W.heap.size=w.heap.size+1/\W.heap[w.heap.size]?=some o1:=by subst h;exact⟨(ab _).alloc _,by simp,pz _ _⟩
theorem bV {w W:World}{o1 o2:Obj}(h:(w.alloc o1).alloc o2=W):Ext w W/\W.heap.size=w.heap.size+2/\W.heap[w.heap.size]?=some o1/\W.heap[w.heap.size+1]?=some o2:=by subst h;refine⟨((ab _).alloc _).alloc _,by simp,tw _ (pz _ _),?_⟩;have:=pz (w.alloc o1) o2;simpa using this
theorem fu {w W:World}{o1 o2 o3:Obj}(h:((w.alloc o1).alloc o2).alloc o3=W) :
 Ext w W/\W.heap.size=w.heap.size+3/\W.heap[w.heap.size]?=some o1/\W.heap[w.heap.size+1]?=some o2/\W.heap[w.heap.size+1+1]?=some o3:=by
 subst h;obtain⟨hE,hs,h1,h2⟩:=bV (w:=w) (o1:=o1) (o2:=o2) rfl;refine⟨hE.alloc _,by simp,tw _ h1,tw _ h2,?_⟩;have:=pz ((w.alloc o1).alloc o2) o3;simpa using this
abbrev CE (f:FuncId)(a:Array Value)(w:World)(v:Value):Prop:=Calls Tryz.prog f a w λ e w'=>e=.returned v/\Ext w w'
abbrev CW (f:FuncId)(a:Array Value)(w:World)(v:Value):Prop:=Calls Tryz.prog f a w λ e w'=>e=.returned v/\w=w'
instance:Coe Int Value:=⟨Value.int .i64⟩
theorem Blk.gl {w:World}{B:Nat}{cs:List Value}{t:TypeId}(h:Blk w B cs t):(∀ j,w.cell? ⟨B,j,none⟩=cs[j]?)/\B<w.heap.size:=⟨h.cells,h.lt⟩
theorem CW.k {f:FuncId}{a:Array Value}{w:World}{v:Value}{Q:Ending->World->Prop}(h:CW f a w v)(k:Q (.returned v) w):Calls Tryz.prog f a w Q:=h.mono (by rintro e w' ⟨rfl,rfl⟩;exact k)
abbrev aO:=@CW.k
theorem CE.t {f:FuncId}{a:Array Value}{w W0:World}{v:Value}{Q:Ending->World->Prop}(E:Ext W0 w)(h:CE f a w v)(k:∀ w',Ext W0 w'->Q (.returned v) w'):Calls Tryz.prog f a w Q:=h.mono (by rintro e w' ⟨rfl,E1⟩;exact k w' (E.trans E1))
theorem CE.b {f:FuncId}{a:Array Value}{w W0:World}{v:Value}{Q:Ending->World->Prop}{B:Nat}{cs:List Value}{t:TypeId}(b:Hid (Blk W0 B cs t))(E:Ext W0 w)(h:CE f a w v)(k:∀ w',Ext W0 w'->(∀ j,w'.cell? ⟨B,j,none⟩=cs[j]?)->B<w'.heap.size->Q (.returned v) w'):Calls Tryz.prog f a w Q:=CE.t E h λ w' E1=>k w' E1 (b.out.ext E1).cells (b.out.ext E1).lt
abbrev aR:=@CE.b
structure PX
abbrev OA:=Option Addr
def ad(_ _:Nat):PX:=⟨⟩
def so(_ _:Nat):PX:=⟨⟩
def sl(_:OA)(_ _:Nat):PX:=⟨⟩
def sm(_ _ _ _:Nat):PX:=⟨⟩
def si(_:Int):PX:=⟨⟩
def ss(_:OA)(_ _:Nat):PX:=⟨⟩
def sq(_ _ _ _:Nat):PX:=⟨⟩
instance:CoeOut World Nat:=⟨λ w=>w.heap.size⟩
instance:Coe Nat Value:=⟨λ n=>Value.int .i64 n⟩
instance{b o:Nat}:CoeDep PX (ad b o) Addr:=⟨⟨b,o,none⟩⟩
instance{b o:Nat}:CoeDep PX (so b o) (Option Addr):=⟨some ⟨b,o,none⟩⟩
instance{q:Option Addr}{n c:Nat}:CoeDep PX (sl q n c) Value:=⟨.slice q n c⟩
instance{b o n c:Nat}:CoeDep PX (sm b o n c) Value:=⟨.slice (some ⟨b,o,none⟩) n c⟩
instance{q:Option Addr}{n c:Nat}:CoeDep PX (ss q n c) (Option Value):=⟨some (.slice q n c)⟩
instance{b o n c:Nat}:CoeDep PX (sq b o n c) (Option Value):=⟨some (.slice (some ⟨b,o,none⟩) n c)⟩
instance{x:Int}:CoeDep PX (si x) (Option Value):=⟨some (.int .i64 x)⟩
theorem cC{W:World}{B:Nat}{t:TypeId}{x0:Value}(h:Blk W B [x0] t):Hid (Blk W B [x0] t):=h
theorem fJ{W:World}{B:Nat}{t:TypeId}{x0 x1:Value}(h:Blk W B [x0,x1] t):Hid (Blk W B [x0,x1] t):=h
theorem eQ{W:World}{B:Nat}{t:TypeId}{x0 x1 x2:Value}(h:Blk W B [x0,x1,x2] t):Hid (Blk W B [x0,x1,x2] t):=h
theorem du{W:World}{B:Nat}{t:TypeId}{x0 x1 x2 x3:Value}(h:Blk W B [x0,x1,x2,x3] t):Hid (Blk W B [x0,x1,x2,x3] t):=h
theorem kE{W:World}{B:Nat}{t:TypeId}{x0 x1 x2 x3 x4:Value}(h:Blk W B [x0,x1,x2,x3,x4] t):Hid (Blk W B [x0,x1,x2,x3,x4] t):=h
theorem gG{W:World}{B:Nat}{t:TypeId}{x0 x1 x2 x3 x4 x5 x6 x7:Value}(h:Blk W B [x0,x1,x2,x3,x4,x5,x6,x7] t):Hid (Blk W B [x0,x1,x2,x3,x4,x5,x6,x7] t):=h
theorem jx{W:World}{B:Nat}{t:TypeId}{x0 x1 x2 x3 x4 x5 x6 x7 x8 x9 x10 x11 x12 x13 x14 x15 x16 x17 x18 x19 x20:Value}(h:Blk W B [x0,x1,x2,x3,x4,x5,x6,x7,x8,x9,x10,x11,x12,x13,x14,x15,x16,x17,x18,x19,x20] t):Hid (Blk W B [x0,x1,x2,x3,x4,x5,x6,x7,x8,x9,x10,x11,x12,x13,x14,x15,x16,x17,x18,x19,x20] t):=h
open Go.Proofs.Tryz
def ae (v a b:Int):Bool:=decide (a<=v)&&decide (v<=b)
theorem wit_iff {v a b:Int} : ae v a b=true↔a<=v/\v<=b:=by simp [ae]
theorem dd (v a b:Int)(w:World) :
 CW 117 #[v,a,b] w (.bool (ae v a b)):=by
 have pA:=func117;have pB:=ntmps117;exact tt
theorem jY (v a b:Int)(w:World) :
 CW 220 #[v,a,b] w (.bool (ae v a b)):=by
 have pA:=func220;have pB:=ntmps220;exact tt
theorem IV:(prog.info? 2).map (λ i=>(i.zero,i.size,i.bytes))=some (some (.int .i64 0),1,8):=by kernel_rfl
theorem IW (p:OA)(n c:Nat)(l:List Int)(w:World)(h:SlT bi 1 w p n l)(hn:n<=1048576) :
 Calls prog 171 #[sl p n c] w λ e w'=>∃ q,e=.returned (sl q n n)/\w'.ownsRow w 2 1 (sl q n n) n (l.flatMap bi)/\Ext w w':=by
 obtain⟨i0,hi,hz0,hz1,hz2⟩:=aM IV;have hl:=aa h.length;go_enter func171,ntmps171;go_wp2_with (refine ep _ rfl _ _ 121 rfl w 2 i0 _ 1 underlying121 hi hz0 hz1 .i64 .i64 n n n rfl rfl rfl rfl (by rw [hz2];omega) (by unfold maxLen;omega) (ai _) ?_;intro w1 ho hg);rw [gF _ (0:Int) _ (by simp [Value.cells]) (by intro j hj;simp [Value.cells] at hj ⊢;subst hj;rfl),<-IP bi 1 _ l] at ho;have hE:Ext w w1:=(ab _).grown hg (λ _ h=>by cases h);clear hg;go_wp2;go_loopw [4] (λ i wr=>∃ k:Nat,k<=n/\i=.int .i64 k/\Ext w wr/\wr.ownsRow w 2 1 (sm w 0 n n) n (fill bi 1 (0:Int) l n k)) (λ i _=>n - (intOf i).toNat)
 case atStart=>exact⟨0,oM,rfl,hE,ho⟩
 case round =>
  clear hE ho w1;obtain⟨k,hk,rfl,hE,ho⟩:=hrel;by_cases hlt:k<n
  . obtain⟨b,off,x,rfl,hb,hx,c0⟩:=(h.ext hE).int hlt;have ho2:=ho;have hE2:=hE;obtain⟨v0,e0⟩:=bO ho2 k oM;have hf:=ey ho2;go_wp2_with fail;go_roundw
    case rel => refine⟨k+1,oM,gN,hE2.setCell (ai _) _,?_⟩;rw [<-IR hx.out hlt hl.out];exact f7 ho2 _ _
    case measure=>exact mS
  . go_wp2_with fail;go_ret;have:k=n:=oM;subst this;rw [IQ _ _ _ _ _ hl.out] at ho;exact⟨_,rfl,ho,hE⟩
theorem IX (p1 p2:OA)(n c1 c2:Nat)(l:List Int)(w:World)(h1:SlT bi 1 w p1 n l)(h2:SlT bi 1 w p2 n l)(hn:n<=1048576) :
 CE 208 #[sl p1 n c1,sl p2 n c2] w (.bool true):=by
 have hl:=aa h1.length;go_enter func208,ntmps208;go_wp2;go_loopw [5] (λ i wr=>∃ k:Nat,k<=n/\i=.int .i64 k/\Ext w wr) (λ i _=>n - (intOf i).toNat)
 case atStart=>exact⟨0,oM,rfl,ab _⟩
 case round =>
  obtain⟨k,hk,rfl,hE⟩:=hrel;by_cases hlt:k<n
  . obtain⟨b,off,x,rfl,hb,hx,c0⟩:=(h1.ext hE).int hlt;obtain⟨b',off',x',rfl,hb',hx',d0⟩:=(h2.ext hE).int hlt;obtain rfl:x=x':=cJ (hx.symm.trans hx'.out);have hlt':(k:Int)<(n:Int):=oM;go_wp2_with fail;refine aQ kR kR ?_;repeat (quiet_step (fail))
    exact jV
  . exact ja
open Go.ChangeShapes Go.WideShapes Go.ChangeAt
section
variable {H:Type} {enc:TypeId×Value->H} {P:Program} {w:World} {base:Nat} {spare:Nat->Bool} {held:Bool}
theorem IY {w:World}{a:Addr}{v:Value}(h:w.cell? a=some v):a.block<w.heap.size:=by
 rcases kX a.block w.heap.size with h' | h'
 . exact h'
 . simp [World.cell?,qE h'] at h
end
instance inhQ4:Inhabited Q4:=⟨⟨0,0,0,0⟩⟩
instance inhQ3:Inhabited Q3:=⟨⟨0,0,0⟩⟩
instance inhQ2:Inhabited Q2:=⟨⟨0,0⟩⟩
structure Mut (w w':World) (S:List Nat):Prop where
 os:w'.os=w.os
 tape:w'.tape=w.tape
 output:w'.output=w.output
 size:w.heap.size<=w'.heap.size
 block:∀ k,k<w.heap.size->k∉S->w'.heap[k]?=w.heap[k]?
theorem Mut.refl (w:World)(S:List Nat):Mut w w S:=⟨rfl,rfl,rfl,ai _,λ _ _ _=>rfl⟩
abbrev fw:=@Mut.refl
theorem Mut.trans {a b c:World}{S T:List Nat}(h:Mut a b S)(k:Mut b c T):Mut a c (S++T) :=
 ⟨k.os.trans h.os,k.tape.trans h.tape,k.output.trans h.output,aS h.size k.size,λ i hi hn =>
   (k.block i (aF hi h.size) (λ hh=>hn (aL49.2 (aB hh)))).trans (h.block i hi (λ hh=>hn (aL49.2 (ay hh))))⟩
theorem Mut.same {a b c:World}{S:List Nat}(h:Mut a b S)(k:Mut b c S):Mut a c S :=
 ⟨k.os.trans h.os,k.tape.trans h.tape,k.output.trans h.output,aS h.size k.size,λ i hi hn=>(k.block i (aF hi h.size) hn).trans (h.block i hi hn)⟩
theorem Mut.setCell {a b:World}{S:List Nat}(h:Mut a b S){p:Addr}(hp:p.block∈S)(u:Value):Mut a (b.setCell p u) S :=
 h.same ⟨rfl,rfl,rfl,by simp [World.setCell],λ k _ hk=>jR _ _ _ _ (λ e=>hk (e▸hp))⟩
theorem Ext.mut {w w':World}(h:Ext w w')(S:List Nat):Mut w w' S:=⟨h.os,h.tape,h.output,h.size,λ k hk _=>h.block k hk⟩
theorem Ext.then {a w w':World}{S:List Nat}(h:Ext a w)(m:Mut w w' S)(hS:∀ k∈S,a.heap.size<=k):Ext a w' :=
 Below.trans h ⟨m.os,m.tape,m.output,m.size,λ k hk=>m.block k (aF hk h.size) (λ hh=>by have:=hS k hh;omega)⟩
theorem Mut.grownBy {w w':World}{S:List Nat}(m:Mut w w' S){v:Value}(h:∀ g,v.ownBlock=some g->g∉S){base:Nat}{e:TypeId}{size n:Nat}{xs:List Value}(ho:w.ownsRow base e size v n xs):w'.ownsRow base e size v n xs:=by
 obtain⟨h1,h2⟩:=ho;refine⟨h1,?_⟩;rcases h2 with h2 | ⟨g,cap,cur,rfl,hg,hh,hc,hm,hs,ht⟩
 . exact ay h2
 . refine aB ⟨g,cap,cur,rfl,hg,?_,hc,hm,hs,ht⟩;rw [m.block g ?_ (h g rfl)]
   . exact hh
   . exact AX
theorem Blk.mut {w w':World}{S:List Nat}{B:Nat}{cs:List Value}{t:TypeId}(h:Blk w B cs t)(m:Mut w w' S)(hB:B∉S):Blk w' B cs t:=(m.block B h.lt hB).trans h
theorem SlT.mut {α:Type}{enc:α->List Value}{sz n:Nat}{p:OA}{l:List α}{w w':World}{S:List Nat}(h:SlT enc sz w p n l)(m:Mut w w' S)(hp:∀ a,p=some a->a.block∉S):SlT enc sz w' p n l:=by
 obtain⟨h1,h2⟩:=h;refine⟨h1,?_⟩;rcases h2 with h2 | ⟨b,off,hp',hb,hc⟩
 . exact ay h2
 . refine aB ⟨b,off,hp',aF hb m.size,λ k y hy i v hv=>?_⟩;rw [kY (w:=w) (a:=(ad b (off+k*sz+i))) (m.block b hb (hp _ hp'))];exact hc k y hy i v hv
def ao (q:OA):List Nat:=match q with | some a=>[a.block] | none=>[]
theorem mem_blkOf {q:OA}{k:Nat} : k∈ao q↔∃ a,q=some a/\a.block=k:=by
 cases q with
 | none=>simp [ao]
 | some a=>simp [ao,eq_comm]
theorem fd {q:OA}{n c:Nat} : (Value.slice q n c).ownBlock=q.map (·.block):=by cases q <;> rfl
theorem dE {w:World}{base:Nat}{e:TypeId}{size n c:Nat}{q:OA}{xs:List Value}(h:w.ownsRow base e size (sl q n c) n xs):∀ k∈ao q,base<=k/\k<w.heap.size:=by intro k hk;obtain⟨a,rfl,rfl⟩:=mem_blkOf.1 hk;exact h.lt _ rfl
def gX (k:Int) (m:Nat):List Value:=(List.range m).map λ i:Nat=>Value.int .i64 (k+(i:Int))
theorem Dh (k:Int)(m:Nat):(gX k m).length=m:=by simp [gX]
theorem tz {k:Int}{m j:Nat}(h:j<m):(gX k m)[j]?=si (k+j):=by rw [gX,cK,nK h];rfl
theorem tA {k:Int}{j:Nat}{xs:List Value}(h:j<xs.length):(gX k j++xs.drop j).set j (k+j:Int)=gX k (j+1)++xs.drop (j+1):=by rw [List.set_append_right _ _ (by rw [Dh];exact ai _),Dh,Nat.sub_self,o0 h,aW];simp only [gX,la,dT,mX,nG,fc,List.singleton_append]
theorem jy {w:World}{base:Nat}{e:TypeId}{size n c:Nat}{q:OA}{xs:List Value}(h:w.ownsRow base e size (sl q n c) n xs)(hn:0<n):∃ g,q=so g 0:=by
 obtain⟨g,cap,hv⟩:=Joins.ownsRow_form h hn
 cases hv
 exact⟨g,rfl⟩
open Go.PlainAid
def jz (c:Int):Bool:=(decide (97<=c)&&decide (c<=122))||(decide (48<=c)&&decide (c<=57))
def li (c:Int):Bool:=jz c||decide (c=45)
def mm (f:Int->Bool) (s:ByteArray):Bool:=(List.range s.size).all λ i=>f (bt s i)
def dK (s:ByteArray):Bool:=mm jz s&&(decide (1<=s.size)&&decide (s.size<=8))
def gY (s:ByteArray):Bool:=mm li s&&(decide (1<=s.size)&&decide (s.size<=24))
theorem Di {f:Int->Bool}{s:ByteArray}{k:Nat}(hk:k<s.size)(h:f (bt s k)=false):mm f s=false:=by rw [mm,pc];exact⟨k,aL70.2 hk,by rw [h];simp⟩
theorem wh {f:Int->Bool}{s:ByteArray}(h:∀ j,j<s.size->f (bt s j)=true):mm f s=true:=by rw [mm,aL79];exact λ i hi=>h i (aL70.1 hi)
theorem Dj (c:Int):c<48\/(48<=c/\c<=57)\/(57<c/\c<97)\/(97<=c/\c<=122)\/122<c:=oM
theorem Dk {c:Int}(h1:48<=c)(h2:c<=57):jz c=true:=by simp [jz];omega
theorem Dl {c:Int}(h1:97<=c)(h2:c<=122):jz c=true:=by simp [jz];omega
theorem Dm {c:Int}(h1:¬ (48<=c/\c<=57))(h2:¬ (97<=c/\c<=122)):jz c=false:=by
 cases h:jz c with
 | false=>rfl
 | true=>simp [jz] at h;omega
theorem lj (s:ByteArray)(w:World)(hs:s.size<=9223372036854775807) :
 CE 118 #[.string s] w (.bool (dK s)):=by
 have hb:=get_bt s;go_enter func118,ntmps118;exact B0
theorem nW (s:ByteArray)(w:World)(hs:s.size<=9223372036854775807) :
 CE 97 #[.string s] w (.bool (dK s)):=by
 have hb:=get_bt s;go_enter func97,ntmps97;exact B0
theorem Dn (s:ByteArray)(w:World)(hs:s.size<=9223372036854775807) :
 CE 179 #[.string s] w (.bool (gY s)):=by
 have hb:=get_bt s;go_enter func179,ntmps179;go_wp2;go_loopw [3] (λ i wr=>∃ k:Nat,k<=s.size/\i=.int .i64 k/\Hid (∀ j,j<k->li (bt s j)=true)/\Ext w wr) (λ i _=>s.size - (intOf i).toNat)
 case atStart=>exact⟨0,oM,rfl,λ j hj=>by omega,ab _⟩
 case round =>
  obtain⟨k,hk,rfl,hp,hE⟩:=hrel;by_cases hlt:k<s.size
  . exact yV
  . have hall:Hid (mm li s=true):=wh λ j hj=>hp.out j oM
    by_cases hz:1<=s.size
    . have hzI:(1:Int)<=s.size:=oM;have hr:Hid (decide ((s.size:Int)<=24)=gY s):=by show _=_;rw [gY,hall.out,bl hz];simp;omega
      go_wp2;exact jW
    . have hzI:¬ (1:Int)<=s.size:=oM;have hr:Hid (false=gY s):=by show _=_;rw [gY,bU hz];simp
      go_wp2;exact jW
theorem Do (s:ByteArray)(w:World)(hs:s.size<=9223372036854775807) :
 CE 154 #[.string s] w (.bool (gY s)):=by
 by_cases hz:s.size<1
 . have hr:Hid (false=gY s):=by show _=_;rw [gY];have:decide (1<=s.size)=false:=bU oM;rw [this];simp
   go_enter func154,ntmps154;go_wp2;exact pp
 by_cases hz2:24<s.size
 . have hr:Hid (false=gY s):=by show _=_;rw [gY];have:decide (s.size<=24)=false:=bU oM;rw [this];simp
   have hz3:(24:Int)<s.size:=oM;go_enter func154,ntmps154;go_wp2;exact pp
 have hb:=get_bt s;go_enter func154,ntmps154;go_wp2;go_loopw [3] (λ i wr=>∃ k:Nat,k<=s.size/\i=.int .i64 k/\Hid (∀ j,j<k->li (bt s j)=true)/\Ext w wr) (λ i _=>s.size - (intOf i).toNat)
 case atStart=>exact⟨0,oM,rfl,λ j hj=>by omega,ab _⟩
 case round =>
  obtain⟨k,hk,rfl,hp,hE⟩:=hrel;by_cases hlt:k<s.size
  . exact yV
  . have hall:Hid (mm li s=true):=wh λ j hj=>hp.out j oM
    have hr:Hid (true=gY s):=by show _=_;rw [gY,hall.out,bl (show 1<=s.size by omega),bl (show s.size<=24 by omega)];rfl
    go_wp2;exact jW
end Go.Proofs.YtnlajnpcdnnpmaaGreat
