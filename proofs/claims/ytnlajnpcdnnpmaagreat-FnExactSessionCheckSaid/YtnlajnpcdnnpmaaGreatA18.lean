/- Part of a proof. No condition. -/
import Derived.Test.YtnlajnpcdnnpmaaGreatA16
import Derived.Test.YtnlajnpcdnnpmaaGreatA17
namespace Go.Proofs.YtnlajnpcdnnpmaaGreat
set_option linter.all false
set_option maxRecDepth 100000
set_option maxHeartbeats 16000000
open Go.Proofs.Tryz Go.RowKit Go.Sort
theorem Mn {α:Type}[Inhabited α]{lt:α->α->Bool}{d:Array α}(h:SortedIn lt 0 d.size d):d.toList.Pairwise λ x y=>lt y x=false:=by rw [aL121];intro i j hi hj hij;have:=h i j (Nat.zero_le _) hij (by simpa using hj);rwa [getElem!_pos d i (by simpa using hi),getElem!_pos d j (by simpa using hj)] at this
theorem Mo {α:Type}[Inhabited α](enc:α->Value)(w:World)(g q:Nat)(d:Array α)(os:Array Obj):Mut w (sortWorld enc w g 0 q d os) [g] :=
 ⟨rfl,rfl,rfl,by simp [sortWorld,Go.Sort.putRow,mapBlock,Sort.ahead],λ j hj hn=>by
   have hne:g≠j:=λ h=>hn (by simp [h])
   show (Array.modify w.heap g (onCells (putCells enc 0 d))++os)[j]?=_;rw [Array.getElem?_append_left (by simpa using hj),Array.getElem?_modify,ar hne]⟩
theorem Mp {α:Type}[Inhabited α]{enc:α->Value}{w:World}{g q:Nat}{d:Array α}{os:Array Obj}(h:Holds enc w g 0 d):Ext w (sortWorld enc w g 0 q d os):=by have e:Go.Sort.putRow enc (Sort.ahead w q) g 0 d=Sort.ahead w q:=putRow_self _ _ _ _ _ h;rw [sortWorld,e];exact⟨rfl,rfl,rfl,by simp [Sort.ahead],λ j hj=>by show (w.heap++os)[j]?=_;rw [Array.getElem?_append_left hj]⟩
def mE {m:Nat} (i j:Fin m):Int:=dV i.1 j.1
theorem um {m:Nat}(x y:Fin m):Go.Proofs.ltOf mE x y=true↔x.1<y.1:=by
 rw [Go.Proofs.ltOf,decide_eq_true_iff,mE,dV]
 split <;> (try split) <;> omega
theorem pZ {m:Nat}(x y:Fin m):Go.Proofs.ltOf mE x y=false↔¬ x.1<y.1:=by rw [<-um,gV]
theorem Mq (m:Nat):SWO (Go.Proofs.ltOf (mE (m:=m))):=by
 constructor
 . intro x;rw [pZ];omega
 . intro x y z;rw [um,um,um];omega
 . intro x y z;rw [pZ,pZ,pZ];omega
theorem Mr (x:Q4):mz x x=0:=by simp [mz,gj,dV]
theorem Ms (H:List Hd):H.flatMap iM=H.map ci:=by
 induction H with
 | nil=>rfl
 | cons h H ih=>rw [fX,ih];rfl
theorem Mt (O m c base:Nat)(H:List Hd)(L:List (List Q4))(f:Nat->Q4)(w:World)(h:OwnS base w (so O 0) (m+1) c H (dG L))(hn:m<6400)(hf:∀ k l,L[k]?=some l->∃ rs,l=f k :: rs)(hlt:∀ j k,j<k->k<m+1->nv (f j) (f k)) :
 CE 342 #[sm O 0 (m+1) c,.func (.func 343) #[] #[]] w (.tuple #[]):=by
 have hL:L.length=m+1:=by rw [<-h.lenV,dG,dD]
 have hget:∀ i:Fin (m+1),∃ x l,H[i.1]?=some x/\L[i.1]?=some l/\H.getD i.1 (none,0,0)=x:=λ i=>by have e:H[i.1]?=some (H[i.1]'(by rw [h.len];exact i.2)):=bK _;exact⟨_,_,e,bK (by rw [hL];exact i.2),by rw [kz,e];rfl⟩
 have hc:=Any.slices_SortFunc (P:=prog) Tryz.sortP (λ i:Fin (m+1)=>ci (H.getD i.1 (none,0,0))) (λ _=>rfl) mE (Mq _) 343 #[] O 0 c (Array.ofFn λ i:Fin (m+1)=>i) w
  (fb func343 kR rfl) (λ m' os dk _ x y=>?_) (λ j hj=>?_) (cM h.top).2 (by simp;omega)
 . simp only [Array.size_ofFn] at hc;refine hc.mono ?_;rintro e' w' ⟨rfl,d',q,os,hp,hs,rfl⟩;refine⟨rfl,?_⟩;have hsz:d'.size=m+1:=by simpa using hp.1
   have hperm:d'.toList.Perm (Array.ofFn λ i:Fin (m+1)=>i).toList:=by have:=hp.2.2;rw [show d'.extract 0 (m+1)=d' by (have h9:d'.extract 0 d'.size=d':=Array.extract_size;rwa [hsz] at h9),show (Array.ofFn λ i:Fin (m+1)=>i).extract 0 (m+1)=(Array.ofFn λ i:Fin (m+1)=>i) by (have h9:(Array.ofFn λ i:Fin (m+1)=>i).extract 0 (Array.ofFn λ i:Fin (m+1)=>i).size=_:=Array.extract_size;rwa [Array.size_ofFn] at h9)] at this;exact this
   have hd:d'=Array.ofFn λ i:Fin (m+1)=>i:=by
    apply Array.toList_inj.1;refine List.Perm.eq_of_pairwise (le:=λ x y=>Go.Proofs.ltOf mE y x=false) ?_ ?_ ?_ hperm
    . intro a b _ _ h1 h2;rw [pZ] at h1 h2;exact Fin.ext oM
    . exact Mn (by rw [hsz];exact hs)
    . rw [aL121];intro i j hi hj hij;rw [pZ,Array.getElem_toList,Array.getElem_toList,Array.getElem_ofFn,Array.getElem_ofFn];show ¬ j<i;omega
   rw [hd];refine Mp λ j hj=>?_
   exact zH
 . have M:=Mo (λ i:Fin (m+1)=>ci (H.getD i.1 (none,0,0))) w O m' dk os;obtain⟨x1,l1,hx1,hl1,hg1⟩:=hget x;obtain⟨x2,l2,hx2,hl2,hg2⟩:=hget y
   have hrow:∀ (k:Nat) (x:Hd) (l:List Q4),H[k]?=some x->L[k]?=some l->SlT aj 4 (sortWorld (λ i:Fin (m+1)=>ci (H.getD i.1 (none,0,0))) w O 0 m' dk os) x.1 x.2.1 l:=λ k x l hx hl=>by
    have hv:(dG L)[k]?=some (l.flatMap aj):=by rw [dG,cK,hl];rfl
    have ho:=h.row k x _ hx hv;refine bm cw (h.hd hx hl) (M.grownBy (λ g hg hh=>?_) ho);have hg:(ci x).ownBlock=some g:=hg;rw [oA,ew] at hg;rw [aL77] at hh;subst hh;exact h.under k x hx g (mem_blkOf.2 hg) (mem_blkOf.2 ⟨_,rfl,rfl⟩)
   have r1:=hrow _ _ _ hx1 hl1;have r2:=hrow _ _ _ hx2 hl2;obtain⟨t1,rfl⟩:=hf _ _ hl1;obtain⟨t2,rfl⟩:=hf _ _ hl2;have:=LJ x1 x2 (f x.1) (f y.1) t1 t2 _ r1 r2;simp only [hg1,hg2];refine this.mono ?_;rintro e w' ⟨rfl,hw⟩;refine⟨?_,hw⟩
   congr 2
   rcases Nat.lt_trichotomy x.1 y.1 with hlt' | he | hgt
   . rw [(xi (hlt _ _ hlt' y.2)).1,mE,dV,aw oM]
   . rw [he,Mr,mE,dV,ar oM,ar oM]
   . rw [(xi (hlt _ _ hgt x.2)).2,mE,dV,ar oM,aw oM]
 . exact zH
theorem Mu (q:OA)(c:Nat)(w:World) :
 CW 385 #[sl q 0 c,(0:Int),(0:Int),.func (.func 343) #[] #[]] w (.tuple #[]):=by
 go_enter func385,ntmps385;go_wp2;go_loop [8] (λ i=>i=.int .i64 1) (λ _=>0)
 case atStart=>rfl
 case round => subst hrel;go_wp2;go_end0;exact⟨rfl,rfl⟩
theorem Mv (q:OA)(c:Nat)(w:World) :
 CW 368 #[sl q 0 c,(0:Int),(0:Int),(0:Int),.func (.func 343) #[] #[]] w (.tuple #[]):=by
 go_enter func368,ntmps368;go_wp2;go_loop [1,2] (λ i j=>i=.int .i64 0/\j=.int .i64 0) (λ _ _=>0)
 case atStart=>exact⟨rfl,rfl⟩
 case round => obtain⟨rfl,rfl⟩:=hrel;go_wp2_with ((go_at_call 385;refine (Mu _ _ _).mono ?_;rintro e w' ⟨rfl,rfl⟩));refine bB (v:=.tuple #[]) (by simp [results,go_sem]) rfl ⟨rfl,rfl⟩
theorem Mw (q:OA)(c:Nat)(w:World) :
 CW 342 #[sl q 0 c,.func (.func 343) #[] #[]] w (.tuple #[]):=by
 have hl:CW 369 #[.int .u64 0] w (0:Int):=by have h:=Any.bits_Len (SlLaysF0.n15.bits (P:=prog) (ρ:=Tryz.sortP_ren) { Tryz.sortP with }) 0 w oM oM;exact h.mono λ e w' ⟨h1,h2⟩=>⟨h1,h2.symm⟩
 go_enter func342,ntmps342;go_wp2_with (first | (go_at_call 369;refine hl.mono ?_;rintro e w' ⟨rfl,rfl⟩) | (go_at_call 368;refine (Mv _ _ _).mono ?_;rintro e w' ⟨rfl,rfl⟩));go_end0;exact⟨rfl,rfl⟩
theorem rL {w:World}{B base:Nat}{cs:List Value}{e:TypeId}{n size:Nat}(h:w.heap[B]?=some (.cells cs.toArray e (0,0)))(hb:base<=B)(hl:cs.length=n*size)(hn:n<=maxLen):w.ownsRow base e size (sm B 0 n n) n cs :=
 ⟨hl,.inr ⟨B,n,cs.toArray,rfl,hb,h,ai _,hn,by simp [hl],by simp [<-hl]⟩⟩
theorem xG (p:Q2):bS (λ _ => -1) p 0=(eV p).1:=rfl
def kN (g:ac) (m:Nat):ac:=λ j=>decide (j<m)&&!g j
theorem Mx (g:ac):ag bo=ag (kN g 0):=df λ i _=>by simp [bo,kN]
theorem My (g:ac):ag (kN g 6400)=ag (lK g):=df λ i hi=>by rw [kN,lK,aU,je hi];simp [hi]
theorem Mz (g:ac)(m:Nat):(ag (kN g m)).set m (.bool (!g m))=ag (kN g (m+1)):=by
 rw [j9];refine df λ i _=>?_
 rw [ig,kN,kN];by_cases e:i=m
 . subst e;simp
 . rw [ar e]
   congr 1
   rw [aL62];simp;omega
theorem Fx (B:Nat)(g:ac)(w:World)(hb:Blk w B (ag g) 269) :
 Calls prog 399 #[.pointer (so B 0)] w (rA (lK g) w):=by
 go_enter func399,ntmps399;go_wp2;generalize hW:w.alloc _=W0;obtain⟨E0,z0,b0⟩:=al hW;clear hW;have hb0:Blk W0 w (ag (kN g (0*80))) 269:=by rw [lG,Mx g] at b0;exact b0
 clear b0;obtain⟨N,hN⟩:∃ N,N=w.heap.size:=⟨_,rfl⟩;rw [<-hN] at hb0 ⊢;have hBN:B<N:=by rw [hN];exact hb.lt
 replace hN:=aa hN;replace z0:=aa z0;have hbw:=aa hb;clear hb;go_loopw [8] (λ i wr=>∃ k:Nat,k<=80/\i=.int .i64 k/\Ext w wr/\Blk wr N (ag (kN g (k*80))) 269) (λ i _=>80 - (intOf i).toNat)
 case atStart=>exact⟨0,oM,rfl,E0,hb0⟩
 case round =>
  clear hb0 E0 W0 z0;obtain⟨y,hy,rfl,hE,hb⟩:=hrel;by_cases hlt:y<80
  . have hyI:(y:Int)<80:=oM;replace hb:=aa hb;go_wp2;go_loopw [11] (λ i wr=>∃ k:Nat,k<=80/\i=.int .i64 k/\Ext w wr/\Blk wr N (ag (kN g (y*80+k))) 269) (λ i _=>80 - (intOf i).toNat)
    case atStart=>exact⟨0,oM,rfl,hE,hb.out⟩
    case round =>
     clear hb hE;obtain⟨x,hx,rfl,hE,hb⟩:=hrel;by_cases hxl:x<80
     . have hxI:(x:Int)<80:=oM;have z1:=(hbw.ext hE).cells (y*80+x);rw [dv _ oM] at z1;have z2:=hb.cells (y*80+x);rw [dv _ oM] at z2;have fz:=hb.free (y*80+x);have hBl:B<wr.heap.size:=(hbw.ext hE).lt;have hNl:=hb.lt;have hst:=aa (Mz g (y*80+x));have hb2:=aa ((show Blk wr.drew N _ _ from hb).set (y*80+x) (.bool (!g (y*80+x))));have hE2:=aa (hE.drew.setCell (p:=(ad N (y*80+x))) (Nat.le_of_eq hN.symm) (.bool (!g (y*80+x))));replace hb:=aa hb;go_wp2;refine wp_region_still_tail 14 kR kR ?_;simp only [List.take_succ_cons,List.take_zero,pa,pb]
       iterate 14 still_step
       refine wpStill_nil ?_;change wpList _ _ _ _ _ wr.drew;clear hE;go_wp2;have pA:=hE2;exact Dc
     . have hxI:¬ (x:Int)<80:=oM;have h80:y*80+x=(y+1)*80:=oM;rw [h80] at hb;replace hb:=aa hb;clear h80;go_wp2;go_roundw
       case rel=>exact⟨y+1,oM,gN,hE,hb.out⟩
       case measure=>exact mS
  . have hyI:¬ (y:Int)<80:=oM;have h80:y*80=6400:=oM;rw [h80,My] at hb;replace hb:=aa hb;clear h80;go_wp2;go_ret;exact⟨N,rfl,by rw [hN.out];omega,hb.out,hE⟩
theorem Blk.grown {w w':World}{B:Nat}{cs:List Value}{t:TypeId}{row:Option Nat}(h:Blk w B cs t)(hg:w.grownBy w' row)(hne:row≠some B):Blk w' B cs t:=(hg.block B h.lt (λ e=>hne e.symm)).trans h
theorem lN {k:IntKind}{a b:Int}(h:a=b):Value.int k a=.int k b:=by rw [h]
def nw (x:Q2):List Value:=[.int .i64 (x.a+40),.int .i64 (x.b+40)]
theorem MA (x:Q2):(nw x).length=2:=rfl
theorem MB:(prog.info? 390).map (λ i=>(i.zero,i.size,i.bytes))=some (some (.agg #[(0:Int),(0:Int)]),2,16):=by kernel_rfl
theorem SlT.twoS {w:World}{p:OA}{n:Nat}{l:List Q2}(h:SlT nw 2 w p n l){k:Nat}(hk:k<n) :
 ∃ b off x,p=so b off/\b<w.heap.size/\Hid (l[k]?=some x)/\w.cell? (ad b (off+k*2))=si (x.a+40)/\w.cell? (ad b (off+k*2+1))=si (x.b+40):=by
 obtain⟨b,off,x,h1,h2,h3,h4⟩:=h.get hk;exact⟨b,off,x,h1,h2,h3,h4 0 _ rfl,h4 1 _ rfl⟩
theorem rM (D:Q2->Int){u v:Int}(h:ax u v=true):(ag (gD D)).set (av u v) (.bool true)=ag (gD (bS D ⟨u,v⟩ 0)):=by
 rw [j9,gD,gD];refine D3 _ h λ x y _=>?_
 rw [bS];by_cases e:x=u/\y=v
 . obtain⟨rfl,rfl⟩:=e;simp
 . rw [ar e,ar];intro h
   cases h
   exact e ⟨rfl,rfl⟩
theorem xH:ag bo=ag (gD λ _ => -1):=df λ i _=>by simp [bo,gD,aU]
theorem xI (D:Q2->Int){q:Q2}(h:ax q.a q.b=true):gD D (av q.a q.b)=decide (0<=D q):=by rw [gD,Lh _ h]
theorem MC (B:Nat)(c:ac)(p:Q2)(w:World)(hb:Blk w B (ag c) 269)(hp:ax p.a p.b=true) :
 Calls prog 341 #[.pointer (so B 0),(p.a+40:Int),(p.b+40:Int),.bool false] w (rA (dA c false p) w):=by
 obtain⟨i0,hi,hz0,hz1,hz2⟩:=aM MB;have hpp:=aa hp;have hpb:=onC_iff.1 hp;obtain⟨⟨pa0,pa1⟩,pb0,pb1⟩:=hpb;have eat:(p.b+40).toNat*80+(p.a+40).toNat=av p.a p.b:=by rw [av];omega
 have hat:=eJ hp;have hgs:=aa (rM (λ _ => -1) hp);have hBl:B<w.heap.size:=hb.lt;have hbw:=aa hb;clear hp hb;obtain⟨N,hN⟩:∃ N,N=w.heap.size:=⟨_,rfl⟩;have hBN:B<N:=oM;go_enter func341,ntmps341;go_upto_region 2 with (fail);generalize hW:w.alloc _=W0;obtain⟨E0,s0,b0⟩:=al hW;clear hW;rw [lG] at b0;replace b0:=show Blk W0 w (ag bo) 269 from b0;rw [<-hN] at b0 s0 ⊢;have z0:=b0.cells (av p.a p.b);rw [dv _ hat] at z0;have fz:=b0.free (av p.a p.b);have hbN:=b0.set (av p.a p.b) (.bool true);rw [xH,hgs.out,xG] at hbN;have hNl:N<W0.heap.size:=b0.lt;replace hbN:=aa hbN;clear b0 hgs;have hs0:W0.heap.size=N+1:=by rw [s0,hN]
 clear s0;replace hs0:=aa hs0;replace hN:=aa hN;go_wp2;have hq0:((W0.setCell (ad N (av p.a p.b)) (.bool true)).alloc (.cells #[.int .i64 (p.a+40),.int .i64 (p.b+40)] 390)).ownsRow N 390 2 (sm W0 0 1 1) 1 ([p].flatMap nw):=by have:=pz (W0.setCell (ad N (av p.a p.b)) (.bool true)) (.cells #[.int .i64 (p.a+40),.int .i64 (p.b+40)] 390);exact rL (n:=1) (size:=2) (cs:=[.int .i64 (p.a+40),.int .i64 (p.b+40)]) (by simpa [World.setCell] using this) oM rfl (by simp [maxLen])
 have hd0:Blk ((W0.setCell (ad N (av p.a p.b)) (.bool true)).alloc (.cells #[.int .i64 (p.a+40),.int .i64 (p.b+40)] 390)) N (ag (gD (eV p).1)) 269:=hbN.alloc _;have hE0:Ext w ((W0.setCell (ad N (av p.a p.b)) (.bool true)).alloc (.cells #[.int .i64 (p.a+40),.int .i64 (p.b+40)] 390)):=(E0.setCell (p:=⟨N,_,none⟩) (Nat.le_of_eq hN.symm) _).alloc _;clear z0 fz E0 hbN;go_loopw [10,11] (λ v i wr=>∃ (k:Nat) (s:St) (q:OA) (c':Nat),k<=s.2.length/\v=sl q s.2.length c'/\i=.int .i64 k/\Hid (Inv s/\jH c false (6401 - k) k s=lJ c false p)/\Blk wr N (ag (gD s.1)) 269/\wr.ownsRow N 390 2 (sl q s.2.length c') s.2.length (s.2.flatMap nw)/\Value.ownBlock (sl q s.2.length c')≠some N/\Ext w wr) (λ _ i _=>6401 - (intOf i).toNat)
 case atStart=>exact⟨0,eV p,_,_,oM,rfl,rfl,aa ⟨rG hpp.out,rfl⟩,hd0,hq0,(by have:=hs0.out;simp [Value.ownBlock];omega),hE0⟩
 case round =>
  clear hq0 hd0 hE0 hs0 hNl eat hat;obtain⟨k,s,q,c',hk,rfl,rfl,hI,hd,ho,hqM,hE⟩:=hrel;have hsl:=hI.1.len;by_cases hlt:k<s.2.length
  . have hkI:(k:Int)<(s.2.length:Int):=oM;obtain⟨pt,hpt⟩:∃ pt,Hid (s.2[k]?=some pt):=⟨_,bK hlt⟩;have hT:Hid (jH c false (6401 - (k+1)) (k+1) (ir c false pt 3 s)=lJ c false p):=by show _=_;rw [<-hI.2,show 6401 - k=(6401 - (k+1))+1 by omega,jH,jH,ug hpt.out]
    have hptb:=onC_iff.1 (hI.1.on pt (ap hpt.out));obtain⟨⟨pt0,pt1⟩,pt2,pt3⟩:=hptb;obtain⟨T,hTT⟩:∃ T,T=ir c false pt 3 s:=⟨_,rfl⟩;rw [<-hTT] at hT;have hI2:Hid (Inv s/\ir c false pt 3 s=T/\s.2[k]?=some pt):=⟨hI.1,hTT.symm,hpt.out⟩;replace hd:=aa hd;replace ho:=aa ho;replace hqM:=aa hqM;clear hI hTT hpt;go_wp2;go_loopw [10,12] (λ vq j wr=>∃ (m:Nat) (s':St) (q':OA) (c':Nat),m<=3/\vq=sl q' s'.2.length c'/\j=.int .i64 (2 - m)/\Hid (Inv s'/\ir c false pt m s'=T/\s'.2[k]?=some pt)/\Blk wr N (ag (gD s'.1)) 269/\wr.ownsRow N 390 2 (sl q' s'.2.length c') s'.2.length (s'.2.flatMap nw)/\Value.ownBlock (sl q' s'.2.length c')≠some N/\Ext w wr) (λ _ j _=>(3 - intOf j).toNat)
    case atStart=>exact⟨3,s,_,_,oM,rfl,rfl,hI2,hd.out,ho.out,hqM.out,hE⟩
    case round =>
     clear hI2 hd ho hqM hE;obtain⟨m,s',q',c',hm3,rfl,rfl,hI,hd,ho,hqM,hE⟩:=hrel
     cases m with
     | zero =>
       have hO:Hid (Inv s'/\jH c false (6401 - (k+1)) (k+1) s'=lJ c false p):=⟨hI.1,by rw [show s'=T from hI.2.1];exact hT.out⟩;have hkl:k<s'.2.length:=(aL31.1 hI.2.2).1;replace hd:=aa hd;replace ho:=aa ho;replace hqM:=aa hqM;go_wp2;go_roundw
       case rel=>exact⟨k+1,s',q',c',oM,rfl,gN,hO,hd.out,ho.out,hqM.out,hE⟩
       case measure=>exact mS
     | succ m =>
       obtain⟨dy,hdy⟩:∃ dy:Int,dy=1 - (m:Int):=⟨_,rfl⟩;have hdyb : -1<=dy/\dy<=1:=oM;have hdy2:(2:Int) - ((m+1:Nat):Int)=dy:=oM;have hdy3:Hid (Value.int .i64 (dy+1)=.int .i64 (2 - (m:Int))):=by show _=_;rw [hdy];congr 1;omega
       obtain⟨T2,hTT⟩:∃ T2,T2=jG c false pt dy 3 s':=⟨_,rfl⟩;have hT2:Hid (ir c false pt m T2=T):=by show _=_;rw [hTT,hdy];exact hI.2.1
       have hI2:Hid (Inv s'/\jG c false pt dy 3 s'=T2/\s'.2[k]?=some pt):=⟨hI.1,hTT.symm,hI.2.2⟩;have hdym:Hid ((3 - (dy+1)).toNat<(3 - dy).toNat):=by show _<_;omega
       rw [hdy2];replace hd:=aa hd;replace ho:=aa ho;replace hqM:=aa hqM;replace hdy:=aa hdy;clear hI hTT hdy2;go_wp2;go_loopw [10,13] (λ vq j wr=>∃ (m:Nat) (s':St) (q':OA) (c':Nat),m<=3/\vq=sl q' s'.2.length c'/\j=.int .i64 (2 - m)/\Hid (Inv s'/\jG c false pt dy m s'=T2/\s'.2[k]?=some pt)/\Blk wr N (ag (gD s'.1)) 269/\wr.ownsRow N 390 2 (sl q' s'.2.length c') s'.2.length (s'.2.flatMap nw)/\Value.ownBlock (sl q' s'.2.length c')≠some N/\Ext w wr) (λ _ j _=>(3 - intOf j).toNat)
       case atStart=>exact⟨3,s',_,_,oM,rfl,rfl,hI2,hd.out,ho.out,hqM.out,hE⟩
       case round =>
        clear hI2 hd ho hqM hE;obtain⟨j,s',q',c',hj3,rfl,rfl,hI,hd,ho,hqM,hE⟩:=hrel
        cases j with
        | zero =>
          have hI3:Hid (Inv s'/\ir c false pt m s'=T/\s'.2[k]?=some pt):=⟨hI.1,by rw [show s'=T2 from hI.2.1];exact hT2.out,hI.2.2⟩;replace hd:=aa hd;replace ho:=aa ho;replace hqM:=aa hqM;go_wp2;go_roundw
          case rel=>exact⟨m,s',q',c',oM,rfl,hdy3.out,hI3,hd.out,ho.out,hqM.out,hE⟩
          case measure=>exact mS
        | succ j =>
          obtain⟨dx,hdx⟩:∃ dx:Int,dx=1 - (j:Int):=⟨_,rfl⟩;have hdxb : -1<=dx/\dx<=1:=oM;have hdx2:(2:Int) - ((j+1:Nat):Int)=dx:=oM;have hst:Hid (jG c false pt dy j (jk c false pt dx dy s')=T2):=by show _=_;rw [hdx];exact hI.2.1
          have hkl:k<s'.2.length:=(aL31.1 hI.2.2).1;have hsl':=hI.1.len;rw [hdx2];replace hdx:=aa hdx;clear hdx2;have hs2:=bm (l:=s'.2) MA rfl ho;obtain⟨bq,oq,y,hq',hbq,hy,y0,y1⟩:=hs2.twoS hkl;obtain rfl:y=pt:=cJ (hy.symm.trans hI.2.2);subst hq';have hkI2:(k:Int)<(s'.2.length:Int):=oM;replace hd:=aa hd;replace ho:=aa ho;replace hqM:=aa hqM;clear hs2 hy;have hw1:IntKind.i64.wrap (y.a+40+dx)=y.a+40+dx:=jS _ oM;have hw2:IntKind.i64.wrap (y.b+40+dy)=y.b+40+dy:=jS _ oM;go_wp2;refine aQ kR kR ?_;repeat (go_big_quiet_step (fail))
          refine bW ?_;rintro w4 ⟨⟨_,E4⟩,rfl⟩;have r1:=aa (hd.ext E4);have r2:=aa (aG ho.out E4);have r4:=aa (hE.trans E4);have hbB:=hbw.ext r4.out;have zc:=hbB.cells (av (y.a+dx) (y.b+dy));have hBl4:=hbB.lt;have zn:=r1.cells (av (y.a+dx) (y.b+dy));have hNl4:=r1.lt;have fz:=r1.free (av (y.a+dx) (y.b+dy));have hrel:Hid (∀ s2:St,jk c false y dx dy s'=s2->Inv s2->s2.2[k]?=some y->Inv s2/\jG c false y dy j s2=T2/\s2.2[k]?=some y):=λ s2 e h1 h2=>⟨h1,by rw [<-e];exact hst.out,h2⟩
          obtain⟨AT,hAT⟩:∃ AT,AT=av (y.a+dx) (y.b+dy):=⟨_,rfl⟩;obtain⟨U,hU⟩:∃ U,U=y.a+40+dx:=⟨_,rfl⟩;obtain⟨V,hV⟩:∃ V,V=y.b+40+dy:=⟨_,rfl⟩;rw [<-hAT] at zc zn fz;rw [<-hU] at hw1 ⊢;rw [<-hV] at hw2 ⊢;clear E4 hE hd ho hbB hst hw1 hw2;have hUV:Hid (U=y.a+40+dx/\V=y.b+40+dy):=⟨hU,hV⟩;have hUb : -1<=U/\U<=80:=oM;have hVb : -1<=V/\V<=80:=oM;have heAT:=aa hAT;by_cases hA:dx=0\/dy=0
          . cases hoc:ax (y.a+dx) (y.b+dy) with
            | false =>
              have hmv:=aa (hrel.out s' (iQ (aB (ay (dr hoc)))) hI.1 hI.2.2)
              have h4:U<0\/(0<=U/\V<0)\/(0<=U/\0<=V/\80<=U)\/(0<=U/\0<=V/\U<80/\80<=V):=by
               have h5:¬ ((-40<=y.a+dx/\y.a+dx<=39)/\(-40<=y.b+dy/\y.b+dy<=39)):=λ h=>by rw [onC_iff.2 h] at hoc;cases hoc
               omega
              clear hoc zc zn fz hAT hU hV hUb hVb;rcases (show (dx=0/\dy=0)\/(dx=0/\¬ dy=0)\/(¬ dx=0/\dy=0) by omega) with ⟨rfl,rfl⟩ | ⟨rfl,hy0⟩ | ⟨hx0,rfl⟩
              all_goals
               rcases h4 with h4 | ⟨h4,h5⟩ | ⟨h4,h5,h6⟩ | ⟨h4,h5,h6,h7⟩
              all_goals
               exact vt
            | true =>
              have hq:=onC_iff.1 hoc;have eat:V.toNat*80+U.toNat=AT:=by rw [hAT,av];omega
              have hUb2:0<=U/\U<80:=oM;have hVb2:0<=V/\V<80:=oM;have hlt6:=eJ hoc;rw [<-hAT] at hlt6;rw [dv _ hlt6] at zc zn;have hghc:=gc (g:=c) hoc;have hgD:=xI s'.1 (q:=⟨y.a+dx,y.b+dy⟩) hoc;simp only at hgD;rw [<-hAT] at hghc hgD;have hset:=aa (rM s'.1 hoc);have hoc2:=aa hoc;clear hoc hU hV hUb hVb hq hAT
              cases hc:c AT with
              | false => have hmv:=aa (hrel.out s' (iQ (aB (ay (hghc.trans hc)))) hI.1 hI.2.2);rw [hc] at zc;clear hc hghc hgD zn fz;exact Cb
              | true =>
                rw [hc] at zc;by_cases hD:0<=s'.1 ⟨y.a+dx,y.b+dy⟩
                . have hmv:=aa (hrel.out s' (iQ (aB (aB hD))) hI.1 hI.2.2);rw [hgD,bl hD] at zn;clear hc hghc hgD fz hD;exact Cb
                . have hst2:=nu (wide:=false) (ay hA) (hghc.trans hc) (show s'.1 ⟨y.a+dx,y.b+dy⟩<0 by omega);have hInv2:=hI.1.add (g:=bo) (v:=0) (uj (show s'.1 ⟨y.a+dx,y.b+dy⟩<0 by omega)) hoc2.out oM oM;have hmv:=aa (hrel.out _ hst2 hInv2 (by show (s'.2++[_])[k]?=_;rw [fm hkl];exact hI.2.2));rw [hgD,bU hD] at zn;have hne1:bq≠N:=λ e=>hqM.out (by rw [e];rfl)
                  have r15:=aa (show Blk (w4.setCell (ad N AT) (.bool true)) N (ag (gD (bS s'.1 ⟨y.a+dx,y.b+dy⟩ 0))) 269 from by have h9:=r1.set AT (.bool true);have h8:=hset.out;rw [<-heAT.out] at h8;rw [h8] at h9;exact h9);have r25:=aa (tx r2.out hqM.out AT (.bool true));have r45:=aa (r4.setCell (p:=(ad N AT)) (Nat.le_of_eq hN.symm) (.bool true));have hencE:=aa (show nw ⟨y.a+dx,y.b+dy⟩=[.int .i64 U,.int .i64 V] from by show [Value.int .i64 (y.a+dx+40),Value.int .i64 (y.b+dy+40)]=_;rw [show y.a+dx+40=U by have:=hUV.1;omega,show y.b+dy+40=V by have:=hUV.2;omega]);clear hc hghc hgD hD hst2 hInv2 hset r1 r2 r4;have hsz9:Hid ((w4.setCell (ad N AT) (.bool true)).heap.size=w4.heap.size):=by show _=_;simp [World.setCell]
                  have hNl9:N<(w4.setCell (ad N AT) (.bool true)).heap.size:=r15.lt;rcases (show (dx=0/\dy=0)\/(dx=0/\¬ dy=0)\/(¬ dx=0/\dy=0) by omega) with ⟨rfl,rfl⟩ | ⟨rfl,hy0⟩ | ⟨hx0,rfl⟩
                  all_goals
                   go_wp2_with (at_builtin;refine cZ _ rfl _ _ 391 rfl N 390 i0 (.agg #[(0:Int),(0:Int)]) 2 16 underlying391 hi hz0 hz1 hz2 rfl oM _ _ _ rfl (r25.alloc _) ⟨_,0,none⟩ 1 1 [.int .i64 U,.int .i64 V] rfl rfl (by have h9:=dg (w4.setCell (ad N AT) (.bool true)) [.int .i64 U,.int .i64 V] 390;rw [hsz9.out] at h9;exact h9) (xv _ _) (cx oM oM) oM (by have h1:=r45.le;have h2:=hN.out;simp at h1 ⊢;omega) ?_;intro v' w6 ho' hg' _ hb';obtain⟨qa,ca,rfl⟩:=cq ho';have t4:=aa ((r45.alloc (.cells #[.int .i64 U,.int .i64 V] 390)).grown hg' (λ k hk=>by have:=(r25.lt k hk).1;have:=hN.out;omega));have t5:=aa (xw hqM.out hb' (by simp at hNl9 ⊢;omega));have t1:=aa ((r15.alloc (.cells #[.int .i64 U,.int .i64 V] 390)).grown hg' hqM.out);rw [<-hencE.out] at ho';replace ho':=aa ho';clear hg' hb')
                   all_goals
                    go_roundw
                    case rel=>exact⟨j,_,qa,ca,oM,by show _=Value.slice _ (s'.2++[_]).length _;rw [aI];rfl,lN (by have:=hdx.out;omega),hmv,t1.out,by show World.ownsRow _ _ _ _ (Value.slice _ (s'.2++[_]).length _) (s'.2++[_]).length ((s'.2++[_]).flatMap nw);rw [aI,dj];simpa using ho'.out,by show Value.ownBlock (.slice _ (s'.2++[_]).length _)≠_;rw [aI];exact t5.out,t4.out⟩
                    case measure=>simp [intOf] <;> omega
          . have hmv:=aa (hrel.out s' (iQ (ay ⟨hA,rfl⟩)) hI.1 hI.2.2);have hx0:¬ dx=0:=λ h=>hA (ay h)
            have hy0:¬ dy=0:=λ h=>hA (aB h)
            clear hA zc zn fz hAT hU hV;exact vt
  . have hkI:¬ (k:Int)<(s.2.length:Int):=oM;have hfin:Hid (s=lJ c false p):=by show _=_;rw [<-hI.2,jH,xz oM]
    replace hd:=aa hd;replace ho:=aa ho;go_wp2;go_ret;exact⟨N,rfl,Nat.le_of_eq hN.symm,by rw [dA,<-hfin.out];exact hd.out,hE⟩
end Go.Proofs.YtnlajnpcdnnpmaaGreat
