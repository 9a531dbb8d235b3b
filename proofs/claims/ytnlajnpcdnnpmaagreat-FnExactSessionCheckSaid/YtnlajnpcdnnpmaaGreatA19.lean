/- Part of a proof. No condition. -/
import Derived.Test.YtnlajnpcdnnpmaaGreatA18
namespace Go.Proofs.YtnlajnpcdnnpmaaGreat
set_option linter.all false
set_option maxRecDepth 100000
set_option maxHeartbeats 16000000
open Go.Proofs.Tryz Go.RowKit
theorem mF {w:World}{b b' size n:Nat}{e:TypeId}{v:Value}{xs:List Value}(h:w.ownsRow b e size v n xs)(hb:b'<=b):w.ownsRow b' e size v n xs :=
 ⟨h.1,h.2.elim ay (λ⟨g,cap,cur,hv,hg,r⟩=>aB ⟨g,cap,cur,hv,aS hb hg,r⟩)⟩
theorem MD:(prog.info? 269).map (·.size)=some 6400:=by kernel_rfl
theorem ME (g:ac):∀ v∈ag g,v.oneCell'=true:=by intro v hv;rw [ag,aL52] at hv;obtain⟨i,_,rfl⟩:=hv;rfl
theorem MF {P:Program}{ops:Array Oper}{w:World}{Q:Act->Prop}{a:Act}{o:Oper}{rest:List Oper}(h:Region.wanted o (yielded ops a.tmps)=false)(k:wpStill P ops w Q rest (a.put o.dst undef)):wpStill P ops w Q (o :: rest) a :=
 wpStill_step λ K hK=>by rw [h];exact hK _ k
theorem Fy {P:Program}{ops:Array Oper}{w:World}{Q:Act->Prop}{a:Act}{o:Oper}{rest:List Oper}(h:Region.wanted o (yielded ops a.tmps)=true)(k:∀ K:Act->Prop,(∀ a,wpStill P ops w Q rest a->K a)->o.still P a w K):wpStill P ops w Q (o :: rest) a :=
 wpStill_step λ K hK=>by rw [h];exact k K hK
theorem OwnS.start {base c:Nat}{w:World}{q:OA}(h:w.ownsRow base 77 1 (sl q 0 c) 0 []):OwnS base w q 0 c [] []:=⟨rfl,rfl,h,(λ k h v hk=>by simp at hk),(λ j k h h' _ hj=>by simp at hj),(λ k h hk=>by simp at hk)⟩
structure PtW (g:ac) (w:World) (P i:Nat) (l d:ac) (G:List ac) (q:OA) (c:Nat) (H:List Hd) (wr:World):Prop where
 inv:PtI g i l d G
 own:OwnS w wr q G.length c H (dG (G.map ah))
 top:P∉ao q
 rows:P∉kj H
 blk:Blk wr P (ag l) 269
 ext:Ext w wr
def rN (g:ac) (w:World) (P i:Nat) (vo:Value) (wr:World):Prop:=∃ (l d:ac) (G:List ac) (q:OA) (c:Nat) (H:List Hd),vo=sl q G.length c/\PtW g w P i l d G q c H wr
theorem MG (B:Nat)(c:ac)(x y:Nat)(w:World)(hb:Blk w B (ag c) 269)(hx:x<80)(hy:y<80) :
 Calls prog 341 #[.pointer (so B 0),x,y,.bool false] w (rA (dA c false (p2 (y*80+x))) w):=by
 have h:=MC B c (p2 (y*80+x)) w hb (kM oM);rw [show (p2 (y*80+x)).a+40=x by simp only [p2,bF];omega,show (p2 (y*80+x)).b+40=y by simp only [p2,bG];omega] at h;exact h
def xJ (G:List ac) (w:World) (e:Ending) (w':World):Prop:=∃ (q:OA) (c:Nat) (H:List Hd),e=.returned (sl q G.length c)/\OwnS w w' q G.length c H (dG (G.map ah))/\Ext w w'
theorem MH (g:ac)(q:OA)(c base:Nat)(H:List Hd)(w:World)(h:OwnS base w q (bk g).length c H (dG ((bk g).map ah))) :
 CE 342 #[sl q (bk g).length c,.func (.func 343) #[] #[]] w (.tuple #[]):=by
 obtain⟨f,hf,hlt⟩:=Fs g;have hl:=(jI g).2.2.2;generalize hL:(bk g).map ah=L at h hf;generalize (bk g).length=n at h hlt hl ⊢
 cases n with
 | zero=>exact (Mw q c w).mono λ e w' ⟨h1,h2⟩=>⟨h1,h2▸ab _⟩
 | succ m => obtain⟨O,rfl⟩:=jy h.top oM;exact Mt O m c base H L f w h oM hf hlt
theorem rO:(prog.info? 77).map (λ i=>(i.zero,i.size,i.bytes))=some (some (.slice none 0 0),1,24):=by kernel_rfl
theorem PtW.push {g l' d' cg:ac}{w w1 w2 W':World}{P i:Nat}{G:List ac}{q q5 qa:OA}{c c5 ca:Nat}{H:List Hd}
 (h:OwnS w w1 q G.length c H (dG (G.map ah))) (hP:P∉ao q) (hPr:P∉kj H) (hb:Blk w1 P (ag l') 269) (hE:Ext w w1)
 (o5:w2.ownsRow w1 139 4 (sl q5 (ah cg).length c5) (ah cg).length ((ah cg).flatMap aj)) (hE2:Ext w1 w2) (o:Obj)
 (ht:W'.ownsRow w 77 1 (sl qa (G.length+1) ca) (G.length+1) (H.flatMap iM++[.slice q5 (ah cg).length c5])) (hg:(w2.alloc o).grownBy W' (Value.slice q G.length c).ownBlock)
 (hq:(Value.slice qa (G.length+1) ca).ownBlock=(Value.slice q G.length c).ownBlock\/(Value.slice qa (G.length+1) ca).ownBlock=some (w2.alloc o).heap.size)
 (hI:PtI g i l' d' (G++[cg])):rN g w P i (sl qa (G.length+1) ca) W':=by
 have hE3:=(hE2.trans ((ab w2).alloc o));have hlen:(G++[cg]).length=G.length+1:=by simp
 have hw1:=h.ext hE3;have hqo:∀ b,b∈ao qa->b∈ao q\/(w2.alloc o).heap.size<=b:=λ b hb=>by exact vu
 have hfar:∀ b,b∈ao q5->w1.heap.size<=b:=λ b hb=>(dE o5 b hb).1
 have hPl:=hb.lt;have hpush:=hw1.push (x:=(q5,(ah cg).length,c5)) (v:=(ah cg).flatMap aj) (w':=W') (qa:=qa) (ca:=ca) (mF (aG o5 ((ab w2).alloc o)) hE.le) (λ b hb=>⟨λ h'=>by have:=h.geTop b h';have:=hfar b hb;omega,λ h'=>by have:=h.geRow b h';have:=hfar b hb;omega⟩) ht hg hqo;refine⟨l',d',G++[cg],qa,ca,H++[(q5,(ah cg).length,c5)],by rw [hlen],hI,?_,λ hp=>?_,λ hp=>?_,?_,?_⟩
 . rw [hlen];have e:dG ((G++[cg]).map ah)=dG (G.map ah)++[(ah cg).flatMap aj]:=by simp [dG]
   rw [e];exact hpush
 . rcases hqo P hp with h' | h'
   . exact hP h'
   . have:=hE3.le;omega
 . obtain⟨k,x,hx,hbx⟩:=mem_rowsB.1 hp;by_cases hk:k<H.length
   . rw [fm hk] at hx;exact hPr (mem_rowsB.2 ⟨k,x,hx,hbx⟩)
   . rw [jT oM] at hx;have:x=(q5,(ah cg).length,c5):=by have hm:=ap hx;simpa using hm
     subst this;have:=hfar P hbx;omega
 . refine (hb.ext hE3).grown hg (λ hh=>?_);rw [fd,ew] at hh;exact hP (mem_blkOf.2 hh)
 . exact (hE.trans hE3).grown hg (λ k hk=>by rw [fd,ew] at hk;exact (h.geTop k (mem_blkOf.2 hk)).1)
theorem MI (B:Nat)(g:ac)(w:World)(hb:Blk w B (ag g) 269) :
 Calls prog 285 #[.pointer (so B 0),.bool false] w (xJ (bk g) w):=by
 have hbw:=aa hb;obtain⟨cs,hcs⟩:∃ cs,cs=ag g:=⟨_,rfl⟩;have hlen:cs.length=(ag bo).length:=by rw [hcs,j8,j8]
 have huc:=underlying269;have hic:(prog.info? 269).map (·.size)=some cs.length:=by rw [hcs,j8];exact MD
 have hone:∀ v∈cs,v.oneCell'=true:=by rw [hcs];exact ME g
 have hBl:=hb.lt;rw [<-hcs] at hb;have r1:w.drew.rangeAt B 0 cs:=fo hb;have hk:∀ W,Ext w W->W.rangeAt B 0 cs:=λ W hW=>fo (hb.ext hW)
 have hk:=aa hk;have hk2:∀ W P,Ext w W->w.heap.size<=P->(W.setCells P 0 cs).rangeAt B 0 cs:=λ W P hW hP=>World.rangeAt_setCells_apart (hk.out W hW) _ _ _ (ay oM)
 have hk2:=aa hk2;have zb:∀ W:World,Blk (W.alloc (.cells Tryz.zeroCells269 269)) W (ag bo) 269:=λ W=>by rw [lG];exact aD _ _ _
 have zb1:=(zb (w.alloc (.cells #[] 77))).drew;have zb2:=((zb w).alloc (.cells #[] 77)).drew;have t1:((w.alloc (.cells #[] 77)).alloc (.cells Tryz.zeroCells269 269)).drew.there (w+1) 0 cs.length=True:=eq_true (by rw [hlen];have:=tC zb1;simpa using this);have t2:((w.alloc (.cells Tryz.zeroCells269 269)).alloc (.cells #[] 77)).drew.there w 0 cs.length=True:=eq_true (by rw [hlen];exact tC zb2);have f1:=zb1.setAll hlen;have f2:=zb2.setAll hlen;clear zb1 zb2;rw [show (w.alloc (.cells #[] 77)).heap.size=w.heap.size+1 by simp] at f1
 have ho0:∀ W:World,w.heap.size<=W.heap.size->(W.alloc (.cells #[] 77)).ownsRow w 77 1 (sm W 0 0 0) 0 []:=λ W hW =>
  by
  have:=qH (base:=W.heap.size) (e:=77) (size:=1) W #[] 0 (by simp) (by simp [maxLen]) (by simp);exact mF this hW
 have o1:=(Mut.setCells (B:=w.heap.size+1) (S:=[w.heap.size+1]) (by simp) cs 0 _ (fw _ _)).grownBy (v:=sm w 0 0 0) (λ g hg=>by simp [Value.ownBlock] at hg ⊢;omega) (((ho0 w (ai _)).alloc (.cells Tryz.zeroCells269 269)).drew);have o2:=(Mut.setCells (B:=w.heap.size) (S:=[w.heap.size]) (by simp) cs 0 _ (fw _ _)).grownBy (v:=sl (some (ad (w.alloc (.cells Tryz.zeroCells269 269)).heap.size 0)) 0 0) (λ g hg=>by simp [Value.ownBlock] at hg ⊢;omega) ((ho0 (w.alloc (.cells Tryz.zeroCells269 269)) (by simp)).drew);rw [show (w.alloc (.cells Tryz.zeroCells269 269)).heap.size=w.heap.size+1 by simp] at o2;have e1:=(((ab w).alloc (.cells #[] 77)).alloc (.cells Tryz.zeroCells269 269)).drew.then (Mut.setCells (B:=w.heap.size+1) (S:=[w.heap.size+1]) (by simp) cs 0 _ (fw _ _)) (by simp);have e2:=(((ab w).alloc (.cells Tryz.zeroCells269 269)).alloc (.cells #[] 77)).drew.then (Mut.setCells (B:=w.heap.size) (S:=[w.heap.size]) (by simp) cs 0 _ (fw _ _)) (by simp);have o1:=aa o1;have o2:=aa o2;have e1:=aa e1;have e2:=aa e2;have f1:=aa f1;have f2:=aa f2;clear ho0;have zb:=aa zb;replace hlen:=aa hlen;replace hcs:=aa hcs;clear hb;go_enter func285,ntmps285;go_wp2
 refine jh (λ a0 a' w'=>∃ (P O:Nat),(w.heap.size<=P/\w.heap.size<=O/\P≠O/\Blk w' P (ag g) 269/\w'.ownsRow w 77 1 (sm O 0 0 0) 0 []/\Ext w w') /\
  a'=(((((a0.put (some 12) (sm O 0 0 0)).put (some 13) (.pointer (so B 0))).put (some 14) (.pointer (so B 0))).put (some 15) (.agg cs.toArray)).put (some 6) (.pointer (so P 0))).put (some 5) (sm O 0 0 0)) ?_ ?_
 . skip;go_region_held3 (λ W=>W.rangeAt B 0 cs) (first | exact r1 | exact hk.out _ ((ab _).drew.alloc _) | exact hk.out _ (((ab _).drew.alloc _).alloc _) | exact hk2.out _ _ (((ab _).drew.alloc _).alloc _) oM) (fail)
   . exact⟨w.heap.size+1,w.heap.size,⟨oM,oM,oM,by rw [<-hcs.out];exact f1.out,o1.out,e1.out⟩,by kernel_rfl⟩
   . exact⟨w.heap.size,w.heap.size+1,⟨oM,oM,oM,by rw [<-hcs.out];exact f2.out,o2.out,e2.out⟩,by kernel_rfl⟩
 rintro a' w5 ⟨P,O,⟨hP,hO,hPO,hbP,ho,hE⟩,rfl⟩;simp only [Act.put,dn,aW,aY];clear r1 hk hk2 zb t1 t2 o1 o2 e1 e2 f1 f2 hic hone huc hBl;clear hk hk2 zb o1 o2 e1 e2 f1 f2;have hst:rN g w P 0 (sm O 0 0 0) w5:=⟨g,bo,[],_,0,[],rfl,PtI.start g,OwnS.start ho,by simp [ao];exact hPO,by simp [kj],hbP,hE⟩;obtain⟨i0,hi,hz0,hz1,hz2⟩:=aM rO;replace hst:=aa hst;clear hbP ho hE hcs hlen;go_wp2;go_loopw [5,16] (λ vo iy wr=>∃ y:Nat,y<=80/\iy=.int .i64 y/\Hid (rN g w P (y*80) vo wr)) (λ _ i _=>80 - (intOf i).toNat)
 case atStart=>exact⟨0,oM,rfl,by rw [ky];exact hst⟩
 case round =>
  clear hst;obtain⟨y,hy,rfl,hr⟩:=hrel;by_cases hlt:y<80
  . have hyI:(y:Int)<80:=oM;go_wp2;go_loopw [5,19] (λ vo ix wr=>∃ x:Nat,x<=80/\ix=.int .i64 x/\Hid (rN g w P (y*80+x) vo wr)) (λ _ i _=>80 - (intOf i).toNat)
    case atStart=>exact⟨0,oM,rfl,hr⟩
    case round =>
     clear hr;obtain⟨x,hx,rfl,hr⟩:=hrel;by_cases hxl:x<80
     . have hxI:(x:Int)<80:=oM;obtain⟨l,d,G,q,c,H,rfl,hw⟩:=hr.out;have z1:=hw.blk.cells (y*80+x);rw [dv _ oM] at z1;have hPl:=hw.blk.lt
       cases hl:l (y*80+x) with
       | false =>
         rw [hl] at z1;have hn:Hid (rN g w P (y*80+(x+1)) (sl q G.length c) wr):=⟨l,d,G,q,c,H,rfl,hw.inv.miss oM hl,hw.own,hw.top,hw.rows,hw.blk,hw.ext⟩;replace hw:=aa hw;clear hl hr;go_wp2;go_roundw
         case rel=>exact⟨x+1,oM,gN,hn⟩
         case measure=>exact mS
       | true =>
         rw [hl] at z1;have hl2:=aa hl;replace hw:=aa hw;clear hl hr;go_wp2_with fail;refine (MG P l x y _ hw.blk hxl hlt).mono ?_;rintro e w6 ⟨N,rfl,hN,hbN,E6⟩;have hh:=hw.inv.hit oM hl2.out;obtain⟨hh1,hI⟩:=hh;rw [hh1] at hbN;obtain⟨cg,hcg⟩:∃ cg,cg=dA g false (p2 (y*80+x)):=⟨_,rfl⟩;rw [<-hcg] at hbN hI;have hNP:N≠P:=oM;have hb6:=hw.blk.ext E6;rw [Mi l cg] at hb6;have hPl6:P<w6.heap.size:=aF hPl E6.le;replace hI:=aa hI;replace hbN:=aa hbN;replace hb6:=aa hb6;replace E6:=aa E6;replace hcg:=aa hcg;clear hh1 z1 hPl hl2 hN;go_wp2_with fail;go_loopw [32] (λ iv W=>∃ v:Nat,v<=80/\iv=.int .i64 v/\Hid (Mut w6 W [P])/\Hid (Blk W P (ag (ko l cg (v*80))) 269)) (λ i _=>80 - (intOf i).toNat)
         case atStart=>exact⟨0,oM,rfl,fw _ _,by rw [ky];exact hb6⟩
         case round =>
          clear hb6;obtain⟨v,hv,rfl,hM,hb⟩:=hrel;by_cases hvl:v<80
          . have hvI:(v:Int)<80:=oM;go_wp2_with fail;go_loopw [35] (λ iu W=>∃ u:Nat,u<=80/\iu=.int .i64 u/\Hid (Mut w6 W [P])/\Hid (Blk W P (ag (ko l cg (v*80+u))) 269)) (λ i _=>80 - (intOf i).toNat)
            case atStart=>exact⟨0,oM,rfl,hM,hb⟩
            case round =>
             clear hb hM;obtain⟨u,hu,rfl,hM,hb⟩:=hrel;by_cases hul:u<80
             . have huI:(u:Int)<80:=oM;have z1:=hb.cells (v*80+u);rw [dv _ oM,Ml] at z1;have z2:=(hbN.mut hM.out (by simpa using hNP)).cells (v*80+u);rw [dv _ oM] at z2;have hNl:=(hbN.mut hM.out (by simpa using hNP)).lt;have hPl4:=hb.lt;have fz:=hb.free (v*80+u);have hb2:=aa ((show Blk wr.drew P _ _ from hb.out).set (v*80+u) (.bool (l (v*80+u)&&!cg (v*80+u))));have hM2:=aa (hM.drew.setCell (p:=(ad P (v*80+u))) (by simp) (.bool (l (v*80+u)&&!cg (v*80+u))));have hst:=aa (Mk l cg (v*80+u))
               cases hlm:l (v*80+u) with
               | false =>
                 rw [hlm] at z1 hb2 hM2 hst;clear hlm;go_wp2_with fail;refine wp_region_still_tail 19 kR kR ?_;simp only [List.take_succ_cons,List.take_zero,pa,pb]
                 iterate 8 still_step
                 iterate 8
                  refine @MF _ _ _ _ _ _ _ ?_ ?_
                  . kernel_rfl
                  simp only [Act.put,dn,aW,aY]
                 iterate 3
                  refine @Fy _ _ _ _ _ _ _ ?_ (λ K hK=>?_)
                  . kernel_rfl
                  go_simp;refine hK _ ?_;clear hK K
                 exact zK
               | true =>
                 rw [hlm] at z1 hb2 hM2 hst;clear hlm;go_wp2_with fail;refine wp_region_still_tail 19 kR kR ?_;simp only [List.take_succ_cons,List.take_zero,pa,pb]
                 iterate 8 still_step
                 iterate 11
                  refine @Fy _ _ _ _ _ _ _ ?_ (λ K hK=>?_)
                  . kernel_rfl
                  go_simp;refine hK _ ?_;clear hK K
                 exact zK
             . have huI:¬ (u:Int)<80:=oM;have h80:v*80+u=(v+1)*80:=oM;rw [h80] at hb;clear h80;go_wp2;go_roundw
               case rel=>exact⟨v+1,oM,gN,hM,hb⟩
               case measure=>exact mS
          . have hvI:¬ (v:Int)<80:=oM;have h80:v*80=6400:=oM;rw [h80,Mj] at hb;clear h80;have hbN2:=hbN.mut hM.out (by simpa using hNP);go_wp2_with fail;refine (mD N cg _ hbN2).mono ?_;rintro e w8 ⟨q5,c5,rfl,o5,E8⟩;have hO:=aa o5;have hown:=aa ((hw.own.ext E6.out).mut hM.out (λ b h9 h8=>by rw [aL77] at h8;subst h8;exact hw.top h9) (λ b h9 h8=>by rw [aL77] at h8;subst h8;exact hw.rows h9));have hEx:=aa ((hw.ext.trans E6.out).then hM.out (by simpa using hP));have hrow:=aa ((hown.ext E8).top);have hlG:G.length+1<=6400:=by have:=hI.len;simpa using this
            have hE8:=aa E8;have hszw:=aS hEx.le E8.le;clear o5 E8 hbN2;go_wp2_with (at_builtin;refine cZ _ rfl _ _ 101 rfl w 77 i0 (.slice none 0 0) 1 24 underlying101 hi hz0 hz1 hz2 rfl oM _ _ _ rfl (hrow.alloc _) ⟨_,0,none⟩ 1 1 [sl q5 (ah cg).length c5] rfl rfl (nq _ _ _) (by intro u9 h9;simp at h9;subst h9;rfl) (cx oM oM) oM (by simp;omega) ?_;intro v' w9 ho' hg' _ hb';obtain⟨qa,ca,rfl⟩:=cq ho';replace ho':=aa ho';replace hg':=aa hg';replace hb':=aa hb');go_roundw
            case rel=>exact⟨x+1,oM,gN,PtW.push hown.out hw.top hw.rows hb.out hEx.out hO.out hE8.out _ ho'.out hg'.out hb'.out hI.out⟩
            case measure=>exact mS
     . have hxI:¬ (x:Int)<80:=oM;have h80:y*80+x=(y+1)*80:=oM;rw [h80] at hr;clear h80;go_wp2;go_roundw
       case rel=>exact⟨y+1,oM,gN,hr⟩
       case measure=>exact mS
  . have hyI:¬ (y:Int)<80:=oM;have h80:y*80=6400:=oM;rw [h80] at hr;clear h80;obtain⟨l,d,G,q,c,H,rfl,hw⟩:=hr.out;have hG:=aa hw.inv.done;obtain⟨n,hn⟩:∃ n,n=G.length:=⟨_,rfl⟩;have hS:=MH g q c w H wr (by rw [hG.out];exact hw.own);rw [hG.out,<-hn] at hS;rw [<-hn];replace hn:=aa hn;replace hS:=aa hS;replace hw:=aa hw;clear hr;go_wp2_with fail;refine hS.mono ?_;rintro e w7 ⟨rfl,E7⟩;replace E7:=aa E7;go_wp2_with fail;go_ret;rw [hG.out,hn.out];exact⟨q,c,H,rfl,hw.own.ext E7.out,hw.ext.trans E7.out⟩
open Go.PlainAid
theorem MJ (l:List Q4):fh l 1=fh l 0:=by
 cases l with
 | nil=>rfl
 | cons r l =>
   simp only [fh,List.take_succ_cons,List.take_zero,List.foldl_cons,List.foldl_nil,List.getD_cons_zero,dw]
   cases r
   simp
theorem Fz (q:OA)(n c:Nat)(l:List Q4)(w:World)(h:SlT aj 4 w q n l)(h0:0<n)(hn:n<=1048576) :
 CE 205 #[sl q n c] w (.agg #[.int .i64 (dz l).a,.int .i64 (dz l).b,.int .i64 (dz l).c,.int .i64 (dz l).d]):=by
 have hl:=aa h.length;obtain⟨b,off,r,rfl,hb,hr,c0,c1,c2,c3⟩:=h.four h0;have hr0:Hid (r=fh l 0):=by show _=_;rw [fh,List.take_zero,List.foldl_nil,kz,hr.out];rfl
 simp only [ky,aq] at c0 c1 c2 c3;have h0I:(0:Int)<(n:Int):=oM;go_enter func205,ntmps205;go_wp2;generalize hW:(w.alloc _).alloc _=W0;obtain⟨E0,z0,bT,bP⟩:=bV hW;clear hW;have hT0:=(show Blk W0 w [(0:Int),(0:Int),(0:Int),(0:Int)] _ from bT);have hP0:=(show Blk W0 (w+1) [r.a,r.b,r.c,r.d] _ from bP);rw [hr0.out] at hP0;clear bT bP z0 c0 c1 c2 c3 hr0 hr;obtain⟨P,hP⟩:∃ P,P=w.heap.size+1:=⟨_,rfl⟩;obtain⟨T,hT⟩:∃ T,T=w.heap.size:=⟨_,rfl⟩;rw [<-hP] at hP0 ⊢;rw [<-hT] at hT0 ⊢;have hTP:T<P:=oM;replace hP:=aa hP;replace hT:=aa hT;go_loopw [11] (λ i wr=>∃ k:Nat,k<=n/\i=.int .i64 k/\Ext w wr/\Blk wr T [(0:Int),(0:Int),(0:Int),(0:Int)] 139/\Blk wr P [.int .i64 (fh l k).a,.int .i64 (fh l k).b,.int .i64 (fh l k).c,.int .i64 (fh l k).d] 139) (λ i _=>n - (intOf i).toNat)
 case atStart=>exact⟨0,oM,rfl,E0,hT0,hP0⟩
 case round =>
  clear hT0 hP0 E0 W0 hb;obtain⟨k,hk,rfl,hE,hbT,hbP⟩:=hrel;by_cases hlt:k<n
  . have hkI:(k:Int)<(n:Int):=oM;obtain⟨b',off',r,hp',hb,hr,c0,c1,c2,c3⟩:=(h.ext hE).four hlt
    cases hp'
    have hg:=hbP.cells;have p0:=hg 0;have p1:=hg 1;have p2:=hg 2;have p3:=hg 3;have f0:=hbP.free 0;have f1:=hbP.free 1;have f2:=hbP.free 2;have f3:=hbP.free 3;simp only [aJ,aN] at p0 p1 p2 p3;have hPl:=hbP.lt;have hsn:=aa (ED hr.out);have hPw:=aa (show w.heap.size<=P by have:=hP.out;omega);replace hbP:=aa hbP;replace hbT:=aa hbT;clear hg;go_wp2
    all_goals
     go_roundw
     case rel => refine⟨k+1,oM,gN,((((hE.setCell (p:=(ad P 0)) hPw.out _).setCell (p:=(ad P 1)) hPw.out _).setCell (p:=(ad P 2)) hPw.out _).setCell (p:=(ad P 3)) hPw.out _).alloc _,((((hbT.other _ _ oM).other _ _ oM).other _ _ oM).other _ _ oM).alloc _,Blk.pair (((((hbP.set 0 _).set 1 _).set 2 _).set 3 _).alloc _) ?_ rfl⟩;exact An
     case measure=>simp [intOf] <;> omega
  . have hkI:¬ (k:Int)<(n:Int):=oM;have hkn:k=n:=oM;subst hkn;have hfin:Hid (fh l k=dz l):=by show _=_;rw [fh,dz,cz hl.out (ai _)]
    rw [hfin.out] at hbP;have hg:=hbP.cells;have p0:=hg 0;have p1:=hg 1;have p2:=hg 2;have p3:=hg 3;have ht:=hbT.cells;have t0:=ht 0;have t1:=ht 1;have t2:=ht 2;have t3:=ht 3;have f0:=hbT.free 0;have f1:=hbT.free 1;have f2:=hbT.free 2;have f3:=hbT.free 3;simp only [aJ,aN] at p0 p1 p2 p3 t0 t1 t2 t3;have hPl:=hbP.lt;have hTl:=hbT.lt;have hTw:=aa (show w.heap.size<=T by have:=hT.out;omega);clear hg ht hbP hbT;go_wp2;refine bB (v:=.agg #[.int .i64 (dz l).a,.int .i64 (dz l).b,.int .i64 (dz l).c,.int .i64 (dz l).d]) (by simp [results,Tryz.results205,go_sem,t0,t1,t2,t3]) rfl ⟨rfl,?_⟩;exact AP
theorem MK (q:OA)(n c:Nat)(l:List Q4)(w:World)(h:SlT aj 4 w q n l)(h0:0<n)(hn:n<=1048576) :
 CE 250 #[sl q n c] w (.agg #[.int .i64 (dz l).a,.int .i64 (dz l).b,.int .i64 (dz l).c,.int .i64 (dz l).d]):=by
 have hl:=aa h.length;obtain⟨b,off,r,rfl,hb,hr,c0,c1,c2,c3⟩:=h.four h0;have hr0:Hid (r=fh l 0):=by show _=_;rw [fh,List.take_zero,List.foldl_nil,kz,hr.out];rfl
 simp only [ky,aq] at c0 c1 c2 c3;have h0I:(0:Int)<(n:Int):=oM;go_enter func250,ntmps250;go_wp2;generalize hW:(w.alloc _).alloc _=W0;obtain⟨E0,z0,bT,bP⟩:=bV hW;clear hW;have hT0:=(show Blk W0 w [(0:Int),(0:Int),(0:Int),(0:Int)] _ from bT);have hP0:=(show Blk W0 (w+1) [r.a,r.b,r.c,r.d] _ from bP);rw [hr0.out] at hP0;clear bT bP z0 c0 c1 c2 c3 hr0 hr;obtain⟨P,hP⟩:∃ P,P=w.heap.size+1:=⟨_,rfl⟩;obtain⟨T,hT⟩:∃ T,T=w.heap.size:=⟨_,rfl⟩;rw [<-hP] at hP0 ⊢;rw [<-hT] at hT0 ⊢;have hTP:T<P:=oM;replace hP:=aa hP;replace hT:=aa hT;go_loopw [4] (λ i wr=>∃ k:Nat,1<=k/\k<=n/\i=.int .i64 k/\Ext w wr/\Blk wr T [(0:Int),(0:Int),(0:Int),(0:Int)] 139/\Blk wr P [.int .i64 (fh l k).a,.int .i64 (fh l k).b,.int .i64 (fh l k).c,.int .i64 (fh l k).d] 139) (λ i _=>n - (intOf i).toNat)
 case atStart=>exact⟨1,oM,oM,rfl,E0,hT0,by rw [MJ];exact hP0⟩
 case round =>
  clear hT0 hP0 E0 W0 hb;obtain⟨k,hk1,hk,rfl,hE,hbT,hbP⟩:=hrel;by_cases hlt:k<n
  . have hkI:(k:Int)<(n:Int):=oM;obtain⟨b',off',r,hp',hb,hr,c0,c1,c2,c3⟩:=(h.ext hE).four hlt
    cases hp'
    have hg:=hbP.cells;have p0:=hg 0;have p1:=hg 1;have p2:=hg 2;have p3:=hg 3;have f0:=hbP.free 0;have f1:=hbP.free 1;have f2:=hbP.free 2;have f3:=hbP.free 3;simp only [aJ,aN] at p0 p1 p2 p3;have hPl:=hbP.lt;have hsn:=aa (ED hr.out);have hPw:=aa (show w.heap.size<=P by have:=hP.out;omega);replace hbP:=aa hbP;replace hbT:=aa hbT;clear hg;go_wp2
    all_goals
     go_roundw
     case rel => refine⟨k+1,oM,oM,gN,((((hE.setCell (p:=(ad P 0)) hPw.out _).setCell (p:=(ad P 1)) hPw.out _).setCell (p:=(ad P 2)) hPw.out _).setCell (p:=(ad P 3)) hPw.out _).alloc _,((((hbT.other _ _ oM).other _ _ oM).other _ _ oM).other _ _ oM).alloc _,Blk.pair (((((hbP.set 0 _).set 1 _).set 2 _).set 3 _).alloc _) ?_ rfl⟩;exact An
     case measure=>simp [intOf] <;> omega
  . have hkI:¬ (k:Int)<(n:Int):=oM;have hkn:k=n:=oM;subst hkn;have hfin:Hid (fh l k=dz l):=by show _=_;rw [fh,dz,cz hl.out (ai _)]
    rw [hfin.out] at hbP;have hg:=hbP.cells;have p0:=hg 0;have p1:=hg 1;have p2:=hg 2;have p3:=hg 3;have ht:=hbT.cells;have t0:=ht 0;have t1:=ht 1;have t2:=ht 2;have t3:=ht 3;have f0:=hbT.free 0;have f1:=hbT.free 1;have f2:=hbT.free 2;have f3:=hbT.free 3;simp only [aJ,aN] at p0 p1 p2 p3 t0 t1 t2 t3;have hPl:=hbP.lt;have hTl:=hbT.lt;have hTw:=aa (show w.heap.size<=T by have:=hT.out;omega);clear hg ht hbP hbT;go_wp2;refine bB (v:=.agg #[.int .i64 (dz l).a,.int .i64 (dz l).b,.int .i64 (dz l).c,.int .i64 (dz l).d]) (by simp [results,Tryz.results250,go_sem,t0,t1,t2,t3]) rfl ⟨rfl,?_⟩;exact AP
end Go.Proofs.YtnlajnpcdnnpmaaGreat
