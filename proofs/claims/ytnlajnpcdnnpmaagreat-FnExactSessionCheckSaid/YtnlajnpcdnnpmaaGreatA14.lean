/- Part of a proof. No condition. -/
import Derived.Test.YtnlajnpcdnnpmaaGreatA13
namespace Go.Proofs.YtnlajnpcdnnpmaaGreat
set_option linter.all false
set_option maxRecDepth 100000
set_option maxHeartbeats 16000000
open Go.Proofs.Tryz Go.RowKit
instance decQ2:DecidableEq Q2:=λ x y=>decidable_of_iff (x.a=y.a/\x.b=y.b) ⟨λ h=>by cases x;cases y;simp_all,λ h=>by subst h;simp⟩
def Fg (p:Q2):List Q2:=[⟨p.a+1,p.b⟩,⟨p.a,p.b+1⟩,⟨p.a - 1,p.b⟩,⟨p.a,p.b - 1⟩]
def eh (p:Q2):List Q2:=(Fg p).filter λ q=>ax q.a q.b
theorem SlT.of_blk {α:Type}{enc:α->List Value}{sz:Nat}(hsz:∀ x,(enc x).length=sz){w:World}{B:Nat}{l:List α}{t:TypeId}(h:Blk w B (l.flatMap enc) t):SlT enc sz w (so B 0) l.length l :=
 ⟨rfl,aB ⟨B,0,rfl,h.lt,λ k x hx j v hv=>by rw [fQ,h.cells,tu hsz hx hv]⟩⟩
theorem Fh:(prog.info? 248).map (λ i=>(i.zero,i.size,i.bytes))=some (some (.agg #[(0:Int),(0:Int)]),2,16):=by kernel_rfl
theorem xv (a b:Int):∀ u∈[Value.int .i64 a,.int .i64 b],u.oneCell'=true:=λ u hu=>by simp at hu;rcases hu with rfl | rfl <;> rfl
theorem xw {v v':Value}{N B:Nat}(hne:v.ownBlock≠some B)(h:v'.ownBlock=v.ownBlock\/v'.ownBlock=some N)(hB:B<N):v'.ownBlock≠some B:=by
 rcases h with h | h
 . rw [h];exact hne
 . rw [h];intro e;cases e;omega
theorem dh {w:World}{base B size:Nat}{e:TypeId}(h:Blk w B [] e)(hb:base<=B):w.ownsRow base e size (sm B 0 0 0) 0 [] :=
 ⟨by simp,.inr ⟨B,0,#[],rfl,hb,h,ai _,Nat.zero_le _,by simp,by simp⟩⟩
section
variable {C:World->Prop} {a:Act} {o:Oper} {K:Act->Prop}
end
def nt (a b:Q2):Bool:=decide (max (a.a - b.a) (b.a - a.a)+max (a.b - b.b) (b.b - a.b)=1)
theorem Fi {a b:Q2}(h:ax b.a b.b=true):decide (b∈eh a)=nt a b:=by rw [aL62,dS,nt,dS,eh,List.mem_filter];obtain⟨x,y⟩:=a;obtain⟨u,v⟩:=b;simp only [Fg,aL89,List.not_mem_nil,or_false,Q2.mk.injEq];simp only at h;rw [h];simp only [and_true];omega
open Go.Maps
def MapI {κ:Type} (P:Program) (K E:TypeId) (kl:κ->Lit) (ok:κ->Prop) (w:World) (B n:Nat) (f:κ->Option Int):Prop :=
 ∃ D:DataW Unit,w.ownsMap P K (plainElem P E) B n D/\∀ x,ok x->Maps.has D (kl x)=(f x).isSome/\D.atKey (kl x) (.lit (.int .i64 0))=.lit (.int .i64 ((f x).getD 0))
section
variable {κ:Type} {P:Program} {K E:TypeId} {kl:κ->Lit} {ok:κ->Prop} {w w':World} {B n:Nat} {f:κ->Option Int}
theorem MapI.lt (h:MapI P K E kl ok w B n f):B<w.heap.size:=let ⟨_,h,_⟩:=h;h.lt
theorem MapI.kept {row:Option Nat}(h:MapI P K E kl ok w B n f)(hg:w.grownBy w' row)(hne:some B≠row):MapI P K E kl ok w' B n f:=let ⟨D,h1,h2⟩:=h;⟨D,h1.kept hg hne,h2⟩
theorem MapI.ext (h:MapI P K E kl ok w B n f)(hE:Ext w w'):MapI P K E kl ok w' B n f:=h.kept (hE.grownBy none) (by simp)
theorem MapI.setCell (h:MapI P K E kl ok w B n f){a:Addr}(ha:B≠a.block)(u:Value):MapI P K E kl ok (w.setCell a u) B n f:=let ⟨D,h1,h2⟩:=h;⟨D,h1.setCell ha u,h2⟩
theorem MapI.drew (h:MapI P K E kl ok w B n f):MapI P K E kl ok w.drew B n f:=h
theorem MapI.mono (h:MapI P K E kl ok w B n f){n':Nat}(hn:n<=n'):MapI P K E kl ok w B n' f:=let ⟨D,h1,h2⟩:=h;⟨D,h1.mono hn,h2⟩
end
section
variable {κ:Type} {P:Program} {K E t:TypeId} {kl:κ->Lit} {ok:κ->Prop} {B n:Nat} {f:κ->Option Int}
 (w:World) {ops:Array Oper} {rest:List Oper} {o:Oper} {a:Act} {Q:Exit->Act->World->Prop}
end
def MapBo {κ:Type} (P:Program) (K E:TypeId) (kl:κ->Lit) (ok:κ->Prop) (w:World) (B n:Nat) (f:κ->Bool):Prop :=
 ∃ D:DataW Unit,w.ownsMap P K (plainElem P E) B n D/\∀ x,ok x->D.atKey (kl x) (.lit (.bool false))=.lit (.bool (f x))
section
variable {κ:Type} {P:Program} {K E t:TypeId} {kl:κ->Lit} {ok:κ->Prop} {w w':World} {B n:Nat} {f:κ->Bool}
theorem MapBo.lt (h:MapBo P K E kl ok w B n f):B<w.heap.size:=let ⟨_,h,_⟩:=h;h.lt
theorem MapBo.kept {row:Option Nat}(h:MapBo P K E kl ok w B n f)(hg:w.grownBy w' row)(hne:some B≠row):MapBo P K E kl ok w' B n f:=let ⟨D,h1,h2⟩:=h;⟨D,h1.kept hg hne,h2⟩
theorem MapBo.ext (h:MapBo P K E kl ok w B n f)(hE:Ext w w'):MapBo P K E kl ok w' B n f:=h.kept (hE.grownBy none) (by simp)
end
theorem eU {l:List Q4}(h:eS l=true):l.length<=3200/\∀ r∈l,vR r=true:=by rw [eS,cm,dS,aL79] at h;exact h
theorem pU {r:Q4}(h:vR r=true):0<=(r.c - r.a)*(r.d - r.b)/\(r.c - r.a)*(r.d - r.b)<=6400:=by rw [vR_iff] at h;obtain⟨⟨a0,a1,a2⟩,b0,b1,b2⟩:=h;refine⟨Int.mul_nonneg oM oM,?_⟩;have h1:=Int.mul_le_mul_of_nonneg_right (show r.c - r.a<=80 by omega) (show 0<=r.d - r.b by omega);omega
theorem xx:∀ (l:List Q4),(∀ r∈l,vR r=true)->0<=dP l/\dP l<=6400*(l.length:Int)
 | [],_=>by simp [oo]
 | r :: l,h=>by have h1:=pU (h r (by simp));have h2:=xx l (λ x hx=>h x (by simp [hx]));rw [ot,eO];omega
theorem Fj {l:List Q4}(h:eS l=false):aH l=false:=by rw [aH,h];rfl
theorem L5 (r:Q4)(w:World)(hv:vR r=true) :
 CE 230 #[.agg #[r.a,r.b,r.c,r.d]] w ((r.c - r.a)*(r.d - r.b):Int):=by
 obtain⟨h0,h1⟩:=pU hv;have hv2:=vR_iff.1 hv;obtain⟨⟨a0,a1,a2⟩,b0,b1,b2⟩:=hv2;have hcall:=λ W=>pS r W
 rw [hv] at hcall;replace hv:=aa hv;go_enter func230,ntmps230;go_wp2_with fail;refine (hcall _).mono ?_;rintro e w2 ⟨rfl,E2⟩;have hc:=E2.cells;have hz:=E2.le;have g0:=hc w 0 (by simp);have g1:=hc w 1 (by simp);have g2:=hc w 2 (by simp);have g3:=hc w 3 (by simp);clear hc;go_wp2_with fail;go_ret;exact⟨rfl,((ab _).alloc _).trans E2⟩
theorem kL (q:OA)(n c:Nat)(l:List Q4)(w:World)(h:SlT aj 4 w q n l)(hn:n<=1048576) :
 CE 161 #[sl q n c] w (.bool (aH l)):=by
 have hl:=aa h.length;have hcall:=λ W (hW:Ext w W)=>LR q n c l W (h.ext hW) hn
 cases hv:eS l with
 | false => have hr:=aa (Fj hv);rw [hv] at hcall;clear hv;go_enter func161,ntmps161;go_wp2_with fail;refine (hcall _ (ab _)).mono ?_;rintro e w2 ⟨rfl,E2⟩;clear hcall;exact sY
 | true =>
   obtain⟨h3,hvs⟩:=eU hv;have hvr:=aa hv;rw [hv] at hcall;rw [hl.out] at h3;have hvs:=aa hvs;clear hv;go_enter func161,ntmps161;go_wp2_with fail;refine (hcall _ (ab _)).mono ?_;rintro e w2 ⟨rfl,E2⟩;clear hcall;go_wp2_with fail;go_loopw [3,4] (λ a i wr=>∃ k:Nat,k<=n/\i=.int .i64 k/\a=.int .i64 (dP (l.take k))/\Ext w wr) (λ _ i _=>n - (intOf i).toNat)
   case atStart=>exact⟨0,oM,rfl,rfl,E2⟩
   case round =>
    clear E2;obtain⟨k,hk,rfl,rfl,hE⟩:=hrel;have hbd:=xx (l.take k) (λ r hr=>hvs.out r (oZ hr));have hkl:(l.take k).length<=k:=md _ _;by_cases hlt:k<n
    . obtain⟨b,off,r,rfl,hb,hr,c0,c1,c2,c3⟩:=(h.ext hE).four hlt;have hvx:=hvs.out r (ap hr.out);have hb1:=pU hvx;have hA2:Hid (dP (l.take k)+(r.c - r.a)*(r.d - r.b)=dP (l.take (k+1))):=by show _=_;rw [ch hr.out,wE,ot,oo];omega
      have hkI:(k:Int)<n:=oM;replace hvx:=aa hvx;obtain⟨A,hA⟩:∃ A,A=dP (l.take k):=⟨_,rfl⟩;rw [<-hA] at hbd hA2 ⊢;replace hA:=aa hA;go_wp2_with fail;refine (L5 r _ hvx.out).mono ?_;rintro e w3 ⟨rfl,E3⟩;have hE2:=aa (hE.trans E3);clear hE E3 c0 c1 c2 c3;go_wp2_with fail;go_roundw
      case rel=>exact⟨k+1,oM,gN,by rw [hA2.out],hE2.out⟩
      case measure=>exact mS
    . have hkI:¬ (k:Int)<n:=oM;have hta:l.take k=l:=cz hl.out oM;rw [hta] at hbd ⊢;replace hta:=aa hta;by_cases h64:dP l<=6400
      . have h64:=aa h64;have h64':dP l<=6400:=h64.out;have hrr:Hid (decide (ah (gL l)=l)=aH l):=by show _=_;rw [aH,hvr.out,jv]
        obtain⟨A,hA⟩:∃ A,A=dP l:=⟨_,rfl⟩;rw [<-hA] at hbd h64' ⊢;replace hA:=aa hA;have hsl:=aa (h.ext hE);go_wp2_with fail;refine (ji q n c l _ hsl.out hn hvs.out).mono ?_;rintro e w3 ⟨B,rfl,o3,E3⟩;have b3:=dH o3;clear o3;go_wp2_with fail;refine (kK B _ (gL l) _ b3).mono ?_;rintro e w4 ⟨q4,c4,rfl,o4,E4⟩;have s4:=bm (l:=ah (gL l)) cw rfl o4;have hE4:=aa ((hE.trans E3).trans E4);have hcl:=fC (gL l);clear o4 b3 hE E3 E4;go_wp2_with fail;refine (LP q4 q _ n c4 c (ah (gL l)) l _ s4 (h.ext hE4.out) oM hn).mono ?_;exact Aw
      . have hrr:Hid (false=aH l):=by
         show _=_;rw [aH,hvr.out,jv,eq_comm,decide_eq_false_iff_not];intro hc;exact h64 (Lt hc).2
        have hd:decide (dP l<=6400)=false:=bU h64;go_wp2_with fail;go_ret;exact⟨bu hrr.out,hE⟩
theorem lH (q:OA)(n c:Nat)(l:List Q4)(w:World)(h:SlT aj 4 w q n l)(hn:n<=1048576) :
 CE 192 #[sl q n c] w (.bool (aH l)):=by
 have hl:=aa h.length;have hcall:=LQ q n c l w h hn
 cases hv:eS l with
 | false => have hr:=aa (Fj hv);rw [hv] at hcall;clear hv;go_enter func192,ntmps192;go_wp2_with fail;refine hcall.mono ?_;rintro e w2 ⟨rfl,E2⟩;exact sY
 | true =>
   obtain⟨h3,hvs⟩:=eU hv;have hrr:Hid (decide (ah (gL l)=l)=aH l):=by show _=_;rw [aH,hv,jv]
   have hvs:=aa hvs;rw [hv] at hcall;clear hv;go_enter func192,ntmps192;go_wp2_with fail;refine hcall.mono ?_;rintro e w2 ⟨rfl,E2⟩;go_wp2_with fail;refine (ns q n c l _ (h.ext E2) hn (λ r hr=>iO (hvs.out r hr))).mono ?_;rintro e w3 ⟨B,rfl,hB,b3,E3⟩;go_wp2_with fail;refine (mD B (gL l) _ b3).mono ?_;rintro e w4 ⟨q4,c4,rfl,o4,E4⟩;have s4:=bm (l:=ah (gL l)) cw rfl o4;have hE4:=aa ((E2.trans E3).trans E4);have hcl:=fC (gL l);clear o4 b3 hB E2 E3 E4;go_wp2_with fail;refine (LO q4 q _ n c4 c (ah (gL l)) l _ s4 (h.ext hE4.out) oM hn).mono ?_;exact Aw
theorem km (B:Nat)(g:ac)(x y:Int)(w:World)(h:Blk w B (ag g) 269) :
 CE 373 #[.pointer (so B 0),x,y] w (.bool (gh g x y)):=by
 have hcall:=λ W=>LK x y W
 have hBl:=h.lt
 cases hc:ax x y with
 | false => have hr:Hid (gh g x y=false):=dr hc;rw [hc] at hcall;clear hc;go_enter func373,ntmps373;go_wp2_with fail;refine (hcall _).mono ?_;rintro e w2 ⟨rfl,E2⟩;clear hcall;exact sY
 | true =>
   have hr:Hid (gh g x y=g (av x y)):=gc hc;have hat:=eJ hc;have c0:=h.cells (av x y);rw [dv _ hat] at c0;rw [hc] at hcall;obtain⟨⟨x0,x1⟩,y0,y1⟩:=onC_iff.1 hc;have eat:(y+40).toNat*80+(x+40).toNat=av x y:=by rw [av];omega
   clear hc;replace h:=aa h;go_enter func373,ntmps373;go_wp2_with fail;refine (hcall _).mono ?_;rintro e w2 ⟨rfl,E2⟩;have c2:=(E2.cells _ _ hBl).trans c0;have hBl2:=aF hBl E2.le;clear hcall c0;exact sY
end Go.Proofs.YtnlajnpcdnnpmaaGreat
