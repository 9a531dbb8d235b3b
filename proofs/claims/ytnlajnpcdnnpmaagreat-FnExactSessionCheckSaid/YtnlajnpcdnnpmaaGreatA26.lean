/- Part of a proof. No condition. -/
import Derived.Test.YtnlajnpcdnnpmaaGreatA25
namespace Go.Proofs.YtnlajnpcdnnpmaaGreat
set_option linter.all false
set_option maxRecDepth 100000
set_option maxHeartbeats 16000000
open Go.Proofs.Tryz Go.RowKit Go.PlainAid
theorem NC (f:Int->Bool)(G1 G2:Nat)(k1 k2:Array Value)(eg1:∀ args w,(callFunc G1 args).run prog w=.ok (.enter G1 args) w)(eg2:∀ args w,(callFunc G2 args).run prog w=.ok (.enter G2 args) w)
 (L0:List (Int×Int)) (I:World->List (Int×Int)->Prop) (hI:∀ W W' L,I W L->Ext W W'->I W' L)
 (h1:∀ W L (i:Nat),I W L->i<80->Calls prog G1 (#[.int .i64 (i:Int)]++k1) W λ e w'=>e=.returned (if f ((i:Int) - 40)=true then 1 else 0:Int)/\Ext W w')
 (h2:∀ W (i:Nat) (a b:Int),I W (L0++dB f i)->i<=80 -> -40<=a/\a<b/\b<=40->Calls prog G2 (#[.int .i64 a,.int .i64 b,.int .i64 1]++k2) W λ e w'=>e=.returned (.tuple #[])/\I w' (L0++dB f i++[(a,b)]))
 (hoff:f 40=false) (hof2:f (-41)=false) (w:World) (h0:I w L0) :
 Calls prog 395 #[.func (.func G1) #[] k1,.func (.func G2) #[] k2] w λ e w'=>e=.returned (.tuple #[])/\I w' (L0++dB f 80):=by
 replace hI:=aa hI;replace h1:=aa h1;replace h2:=aa h2;replace hoff:=aa (show f (((80:Nat):Int) - 40)=false from hoff);replace h0:=aa h0;go_enter func395,ntmps395;go_wp2;go_loopw [4,5] (λ z _ wr=>∃ i:Nat,i<=80/\z=.int .i64 (i:Int)/\Hid (I wr (L0++dB f i))/\Hid (i=0\/i=80\/f ((i:Int) - 41)≠f ((i:Int) - 40))) (λ z _ _=>80 - (intOf z).toNat)
 case atStart=>exact⟨0,oM,rfl,by show I _ _;rw [show dB f 0=[] from rfl,fP];exact h0.out,ay rfl⟩
 case round =>
  clear h0;obtain⟨i,hi,rfl,I0,hs⟩:=hrel;by_cases hlt:i<80
  . have hltI:(i:Int)<80:=oM;have hi0:(0:Int)<=i:=oM
    cases hfi:f ((i:Int) - 40) with
    | true =>
      replace hfi:=aa hfi
      have hs2:Hid (f ((i:Int) - 41)=false):=by
       show _=_;rcases hs.out with rfl | h9 | h9
       . exact hof2
       . omega
       . rw [hfi.out] at h9;cases h8:f ((i:Int) - 41) with
         | true=>exact absurd h8 h9
         | false=>rfl
      go_wp2;go_loopw [5] (λ z wx=>∃ e:Nat,i+1<=e/\e<=80/\z=.int .i64 (e:Int)/\Hid (I wx (L0++dB f i))/\Hid (∀ j,i<=j->j<e->f ((j:Nat) - 40:Int)=true)) (λ z _=>80 - (intOf z).toNat)
      case atStart=>exact⟨i+1,oM,oM,gN,I0,λ j h3 h4=>(show j=i by omega)▸hfi.out⟩
      case round =>
       clear I0;obtain⟨e,he1,he2,rfl,I1,hc⟩:=hrel;by_cases hlt:e<80
       . have hltI:(e:Int)<80:=oM;have hI0:(0:Int)<=e:=oM
         cases hfe:f ((e:Int) - 40) with
         | true =>
           replace hfe:=aa hfe;have hc2:Hid (∀ j,i<=j->j<e+1->f ((j:Nat) - 40:Int)=true):=λ j h3 h4=>by exact Be
           exact zr
         | false =>
           replace hfe:=aa hfe;have hst:=aa (F5 (f:=f) (i:=i) (e:=e) oM he2 hc.out hs2.out hfe.out);have hnx:Hid (e=0\/e=80\/f ((e:Int) - 41)≠f ((e:Int) - 40)):=AZ
           go_wp2_with (fail);refine (h1.out _ _ e I1.out oM).mono ?_;rw [hfe.out];rintro e9 w9 ⟨rfl,E9⟩;replace I1:=aa (hI.out _ _ _ I1.out E9);clear E9;go_wp2_with (fail);refine (h1.out _ _ i I1.out oM).mono ?_;rw [hfi.out];rintro e9 w9 ⟨rfl,E9⟩;replace I1:=aa (hI.out _ _ _ I1.out E9);clear E9;exact zj
       . obtain⟨e',rfl⟩:∃ e',e=e':=⟨e,rfl⟩;have hltI:¬ ((e:Int)<80):=oM;have he80:=aa (show e=80 by omega);have hfe:Hid (f ((e:Int) - 40)=false):=by show _=_;rw [he80.out];exact hoff.out
         have hst:=aa (F5 (f:=f) (i:=i) (e:=e) oM he2 hc.out hs2.out hfe.out);have hnx:Hid (e=0\/e=80\/f ((e:Int) - 41)≠f ((e:Int) - 40)):=by right;left;exact he80.out
         exact zj
    | false =>
      replace hfi:=aa hfi;go_wp2;go_loopw [5] (λ z wx=>∃ e:Nat,i+1<=e/\e<=80/\z=.int .i64 (e:Int)/\Hid (I wx (L0++dB f i))/\Hid (∀ j,i<=j->j<e->f ((j:Nat) - 40:Int)=false)) (λ z _=>80 - (intOf z).toNat)
      case atStart=>exact⟨i+1,oM,oM,gN,I0,λ j h3 h4=>(show j=i by omega)▸hfi.out⟩
      case round =>
       clear I0;obtain⟨e,he1,he2,rfl,I1,hc⟩:=hrel;by_cases hlt:e<80
       . have hltI:(e:Int)<80:=oM;have hI0:(0:Int)<=e:=oM
         cases hfe:f ((e:Int) - 40) with
         | false =>
           replace hfe:=aa hfe;have hc2:Hid (∀ j,i<=j->j<e+1->f ((j:Nat) - 40:Int)=false):=λ j h3 h4=>by exact Be
           exact zr
         | true =>
           replace hfe:=aa hfe;have hst:=aa (F6 (f:=f) (i:=i) (e:=e) oM hc.out);have hnx:Hid (e=0\/e=80\/f ((e:Int) - 41)≠f ((e:Int) - 40)):=AZ
           go_wp2_with (fail);refine (h1.out _ _ e I1.out oM).mono ?_;rw [hfe.out];rintro e9 w9 ⟨rfl,E9⟩;replace I1:=aa (hI.out _ _ _ I1.out E9);clear E9;go_wp2_with (fail);refine (h1.out _ _ i I1.out oM).mono ?_;rw [hfi.out];rintro e9 w9 ⟨rfl,E9⟩;replace I1:=aa (hI.out _ _ _ I1.out E9);clear E9;exact zC
       . obtain⟨e',rfl⟩:∃ e',e=e':=⟨e,rfl⟩;have hltI:¬ ((e:Int)<80):=oM;have he80:=aa (show e=80 by omega);have hfe:Hid (f ((e:Int) - 40)=false):=by show _=_;rw [he80.out];exact hoff.out
         have hst:=aa (F6 (f:=f) (i:=i) (e:=e) oM hc.out);have hnx:Hid (e=0\/e=80\/f ((e:Int) - 41)≠f ((e:Int) - 40)):=by right;left;exact he80.out
         exact zC
  . have hltI:¬ ((i:Int)<80):=oM;obtain rfl:i=80:=oM;have I9:=I0.out;go_wp2_with (fail);go_end0;exact⟨rfl,I9⟩
theorem ND (g:ac)(y:Int)(i:Nat)(BL BV BC B:Nat)(w:World)(hb:Blk w B (ag g) 269)(hy : -40<=y/\y<=39)(hi:i<80)(hL:w.cell? (ad BL 0)=si y)(hV:w.cell? (ad BV 0)=some (.bool false))(hC:w.cell? (ad BC 0)=some (.pointer (so B 0)))(l1:BL<w.heap.size)(l2:BV<w.heap.size)(l3:BC<w.heap.size)(hq:gh g ((i:Int) - 40) y=false) :
 CE 396 #[(i:Int),.pointer (so BL 0),.pointer (so BV 0),.pointer (so BC 0)] w (0:Int):=by
 have hcall:Hid (∀ V,Ext w V->CE 373 #[.pointer (so B 0),((i:Int) - 40:Int),y] V (.bool false)):=λ V hE=>by have:=km B g ((i:Int) - 40) y V (hb.ext hE);rwa [hq] at this
 exact sK
theorem NE (g:ac)(y:Int)(i:Nat)(BL BV BC B:Nat)(w:World)(hb:Blk w B (ag g) 269)(hy : -40<=y/\y<=39)(hi:i<80)(hL:w.cell? (ad BL 0)=si y)(hV:w.cell? (ad BV 0)=some (.bool false))(hC:w.cell? (ad BC 0)=some (.pointer (so B 0)))(l1:BL<w.heap.size)(l2:BV<w.heap.size)(l3:BC<w.heap.size)(hq:gh g ((i:Int) - 40) y=true) :
 CE 396 #[(i:Int),.pointer (so BL 0),.pointer (so BV 0),.pointer (so BC 0)] w (1:Int):=by
 have hcall:Hid (∀ V,Ext w V->CE 373 #[.pointer (so B 0),((i:Int) - 40:Int),y] V (.bool true)):=λ V hE=>by have:=km B g ((i:Int) - 40) y V (hb.ext hE);rwa [hq] at this
 exact sK
theorem NF (g:ac)(y:Int)(i:Nat)(BL BV BC B:Nat)(w:World)(hb:Blk w B (ag g) 269)(hy : -40<=y/\y<=39)(hi:i<80)(hL:w.cell? (ad BL 0)=si y)(hV:w.cell? (ad BV 0)=some (.bool true))(hC:w.cell? (ad BC 0)=some (.pointer (so B 0)))(l1:BL<w.heap.size)(l2:BV<w.heap.size)(l3:BC<w.heap.size)(hq:gh g y ((i:Int) - 40)=false) :
 CE 396 #[(i:Int),.pointer (so BL 0),.pointer (so BV 0),.pointer (so BC 0)] w (0:Int):=by
 have hcall:Hid (∀ V,Ext w V->CE 373 #[.pointer (so B 0),y,((i:Int) - 40:Int)] V (.bool false)):=λ V hE=>by have:=km B g y ((i:Int) - 40) V (hb.ext hE);rwa [hq] at this
 exact sK
theorem NG (g:ac)(y:Int)(i:Nat)(BL BV BC B:Nat)(w:World)(hb:Blk w B (ag g) 269)(hy : -40<=y/\y<=39)(hi:i<80)(hL:w.cell? (ad BL 0)=si y)(hV:w.cell? (ad BV 0)=some (.bool true))(hC:w.cell? (ad BC 0)=some (.pointer (so B 0)))(l1:BL<w.heap.size)(l2:BV<w.heap.size)(l3:BC<w.heap.size)(hq:gh g y ((i:Int) - 40)=true) :
 CE 396 #[(i:Int),.pointer (so BL 0),.pointer (so BV 0),.pointer (so BC 0)] w (1:Int):=by
 have hcall:Hid (∀ V,Ext w V->CE 373 #[.pointer (so B 0),y,((i:Int) - 40:Int)] V (.bool true)):=λ V hE=>by have:=km B g y ((i:Int) - 40) V (hb.ext hE);rwa [hq] at this
 exact sK
theorem NH (y a b:Int)(w:World)(hy : -40<=y/\y<=39) :
 CE 398 #[y,a,b,.bool false] w (.agg #[a,y,b,(y+1:Int)]):=by
 go_enter func398,ntmps398;go_wp2;exact bB (v:=.agg #[a,y,b,(y+1:Int)]) (by simp [results,Tryz.results398,go_sem]) rfl ⟨rfl,(ab _).alloc _⟩
theorem NI (y a b:Int)(w:World)(hy : -40<=y/\y<=39) :
 CE 398 #[y,a,b,.bool true] w (.agg #[y,a,(y+1:Int),b]):=by
 go_enter func398,ntmps398;go_wp2;exact bB (v:=.agg #[y,a,(y+1:Int),b]) (by simp [results,Tryz.results398,go_sem]) rfl ⟨rfl,(ab _).alloc _⟩
theorem NJ (v:Bool)(y a b:Int)(w:World)(hy : -40<=y/\y<=39) :
 CE 398 #[y,a,b,.bool v] w (.agg #[.int .i64 (dR v y (a,b)).a,.int .i64 (dR v y (a,b)).b,.int .i64 (dR v y (a,b)).c,.int .i64 (dR v y (a,b)).d]):=by
 cases v with
 | false=>exact NH y a b w hy
 | true=>exact NI y a b w hy
theorem NL (v:Bool)(g:ac)(y:Int)(i:Nat)(BL BV BC B:Nat)(w:World)(hb:Blk w B (ag g) 269)(hy : -40<=y/\y<=39)(hi:i<80)(hL:w.cell? (ad BL 0)=si y)(hV:w.cell? (ad BV 0)=some (.bool v))(hC:w.cell? (ad BC 0)=some (.pointer (so B 0)))(l1:BL<w.heap.size)(l2:BV<w.heap.size)(l3:BC<w.heap.size) :
 CE 396 #[(i:Int),.pointer (so BL 0),.pointer (so BV 0),.pointer (so BC 0)] w (if ck g v y ((i:Int) - 40)=true then 1 else 0:Int):=by
 cases v with
 | false =>
   cases hq:gh g ((i:Int) - 40) y with
   | false=>rw [show ck g false y ((i:Int) - 40)=false from hq];exact ND g y i BL BV BC B w hb hy hi hL hV hC l1 l2 l3 hq
   | true=>rw [show ck g false y ((i:Int) - 40)=true from hq];exact NE g y i BL BV BC B w hb hy hi hL hV hC l1 l2 l3 hq
 | true =>
   cases hq:gh g y ((i:Int) - 40) with
   | false=>rw [show ck g true y ((i:Int) - 40)=false from hq];exact NF g y i BL BV BC B w hb hy hi hL hV hC l1 l2 l3 hq
   | true=>rw [show ck g true y ((i:Int) - 40)=true from hq];exact NG g y i BL BV BC B w hb hy hi hL hV hC l1 l2 l3 hq
theorem Blk.grownR {w w':World}{B:Nat}{cs:List Value}{t:TypeId}{row:Option Nat}(h:Blk w B cs t)(hg:w.grownBy w' row)(hne:row≠some B):Blk w' B cs t:=(hg.block B h.lt (λ e=>hne e.symm)).trans h
theorem gm:(prog.info? 139).map (λ i=>(i.zero,i.size,i.bytes))=some (some (.agg #[(0:Int),(0:Int),(0:Int),(0:Int)]),4,32):=by kernel_rfl
structure RoI (w W:World) (v:Bool) (g:ac) (y:Int) (BO BL BV BC B:Nat) (q:OA) (c:Nat) (L:List Q4):Prop where
 ext:Ext w W
 out:Blk W BO [sl q L.length c] 77
 own:W.ownsRow w 139 4 (sl q L.length c) L.length (L.flatMap aj)
 ne:∀ k,(Value.slice q L.length c).ownBlock=some k->k≠BL/\k≠BO/\k≠BV/\k≠BC/\k≠B
 line:Blk W BL [y] 2
 dir:Blk W BV [.bool v] 4
 ptr:Blk W BC [.pointer (so B 0)] 266
 set:Blk W B (ag g) 269
 lo:w.heap.size<=BO
 dif:BL≠BO/\BV≠BO/\BC≠BO/\B≠BO
theorem RoI.later {w W W':World}{v:Bool}{g:ac}{y:Int}{BO BL BV BC B:Nat}{q:OA}{c:Nat}{L:List Q4}(h:RoI w W v g y BO BL BV BC B q c L)(E:Ext W W'):RoI w W' v g y BO BL BV BC B q c L :=
 ⟨h.ext.trans E,h.out.ext E,aG h.own E,h.ne,h.line.ext E,h.dir.ext E,h.ptr.ext E,h.set.ext E,h.lo,h.dif⟩
theorem RoI.push {w W W5 wA:World}{v:Bool}{g:ac}{y:Int}{BO BL BV BC B gL cL:Nat}{q:OA}{c:Nat}{L:List Q4}{Q:Q4}{o:Obj}(h:RoI w W v g y BO BL BV BC B q c L)(E:Ext W W5)
 (hoA:wA.ownsRow w 139 4 (sm gL 0 (L.length+1) cL) (L.length+1) (L.flatMap aj++aj Q)) (hgA:(W5.alloc o).grownBy wA (Value.slice q L.length c).ownBlock) (hbA:(Value.slice q L.length c).ownBlock=some gL\/gL=(W5.alloc o).heap.size) :
 RoI w (wA.setCell (ad BO 0) (sm gL 0 (L.length+1) cL)) v g y BO BL BV BC B (so gL 0) cL (L++[Q]):=by
 have h5:=(h.later E).later ((ab W5).alloc o)
 have hgL:gL≠BL/\gL≠BO/\gL≠BV/\gL≠BC/\gL≠B:=by
  rcases hbA with e | e
  . exact h.ne _ e
  . have h1:=h5.line.lt;have h2:=h5.out.lt;have h3:=h5.dir.lt;have h4:=h5.ptr.lt;have h6:=h5.set.lt;rw [<-e] at h1 h2 h3 h4 h6;exact⟨oM,oM,oM,oM,oM⟩
 have hlen:(L++[Q]).length=L.length+1:=by rw [aI];rfl
 have hm:Mut wA (wA.setCell (ad BO 0) (sm gL 0 (L.length+1) cL)) [BO]:=(fw wA [BO]).setCell (p:=(ad BO 0)) (by simp) _;refine⟨(h5.ext.grown hgA (λ k hk=>(h.own.lt k hk).1)).setCell (p:=(ad BO 0)) h.lo _,?_,?_,?_,(h5.line.grownR hgA (λ e=>(h.ne _ e).1 rfl)).other 0 _ h.dif.1,(h5.dir.grownR hgA (λ e=>(h.ne _ e).2.2.1 rfl)).other 0 _ h.dif.2.1,(h5.ptr.grownR hgA (λ e=>(h.ne _ e).2.2.2.1 rfl)).other 0 _ h.dif.2.2.1,(h5.set.grownR hgA (λ e=>(h.ne _ e).2.2.2.2 rfl)).other 0 _ h.dif.2.2.2,h.lo,h.dif⟩
 . rw [hlen];exact (h5.out.grownR hgA (λ e=>(h.ne _ e).2.1 rfl)).set 0 _
 . rw [hlen,dj];have h9:(L.flatMap aj++[Q].flatMap aj)=L.flatMap aj++aj Q:=by simp
   rw [h9];exact hm.grownBy (λ k hk hh=>by cases hk;simp at hh;exact hgL.2.1 hh) hoA
 . intro k hk
   cases hk
   exact hgL
theorem NM (w W:World)(v:Bool)(g:ac)(y a b:Int)(BO BL BV BC B:Nat)(q:OA)(c:Nat)(L:List Q4)(h:RoI w W v g y BO BL BV BC B q c L)(hy : -40<=y/\y<=39)(hn:L.length<=6400) :
 Calls prog 397 #[a,b,(1:Int),.pointer (so BO 0),.pointer (so BL 0),.pointer (so BV 0)] W λ e w'=>e=.returned (.tuple #[])/\∃ q2 c2,RoI w w' v g y BO BL BV BC B q2 c2 (L++[dR v y (a,b)]):=by
 obtain⟨i0,hi,hz0,hz1,hz2⟩:=aM gm;have hR:=aa h;have x0:=h.out.cells 0;have x1:=h.line.cells 0;have x2:=h.dir.cells 0;simp only [aJ] at x0 x1 x2;have l0:=h.out.lt;have l1:=h.line.lt;have l2:=h.dir.lt;have f0:=h.out.free 0;clear h;obtain⟨Q,hQ⟩:∃ Q,Hid (Q=dR v y (a,b)):=⟨_,aa rfl⟩;have hlr:Hid (∀ V,CE 398 #[y,a,b,.bool v] V (.agg #[Q.a,Q.b,Q.c,Q.d])):=λ V=>by rw [hQ.out];exact NJ v y a b V hy
 have hLd:=aa hR.out.ext.le;go_enter func397,ntmps397;go_wp2_with (fail);go_region_law (first | (refine mV _ rfl _ _ 77 rfl w 139 i0 _ 4 32 underlying77 hi hz0 hz1 hz2 rfl oM _ _ _ rfl (cv (aG hR.out.own EX.out) _) ⟨_,0,none⟩ 1 1 [.int .i64 Q.a,.int .i64 Q.b,.int .i64 Q.c,.int .i64 Q.d] rfl rfl (dg _ [_,_,_,_] _) (iq _ _ _ _) oM (cx oM oM) oM (by have:=EX.out.le;have:=hLd.out;simp;omega) _ rfl ?_;intro gL cL wA hoA hgA hbA hlA;have hbx:=((hR.out.out.ext EX.out).ext ((ab _).alloc (.cells #[.int .i64 Q.a,.int .i64 Q.b,.int .i64 Q.c,.int .i64 Q.d] 139))).grownR hgA (λ e=>(hR.out.ne _ e).2.1 rfl);have f9:=hbx.free 0;have g9:=hbx.cells 0;have l9:=hbx.lt;simp only [aJ] at g9) | (go_simp;go_at_call 398;refine (hlr.out _).mono ?_;rintro e w5 ⟨rfl,E5⟩;have EX:=aa ((ab W).drew.trans E5);have x05:=(EX.out.cells _ _ l0).trans x0;have x15:=(EX.out.cells _ _ l1).trans x1;have x25:=(EX.out.cells _ _ l2).trans x2;have l05:=aF l0 EX.out.le;have l15:=aF l1 EX.out.le;have l25:=aF l2 EX.out.le))
 all_goals
  have hP:=aa (hR.out.push EX.out hoA hgA hbA);clear hoA hgA hbA hlA hbx;go_wp2_with (fail);go_end0;exact⟨rfl,so gL 0,cL,by rw [<-hQ.out];exact hP.out⟩
theorem rW (f:Int->Bool):∀ i,(dB f i).length<=i
 | 0=>by simp [dB]
 | i+1=>by
   have h:=rW f i;have h1:(kP f i).length<=1:=by unfold kP;split <;> simp
   rw [mI,aI];omega
theorem rX (g:ac)(v:Bool):∀ k,(ei g v k).length<=80*k
 | 0=>by simp [ei]
 | k+1=>by have h:=rX g v k;have h1:=rW (ck g v ((k:Int) - 40)) 80;rw [uw,aI,dD];omega
theorem RoI.start {w:World}{v:Bool}{g:ac}{B:Nat}(hb:Blk w B (ag g) 269) :
 RoI w (((((w.alloc (.cells #[.pointer (so B 0)] 266)).alloc (.cells #[.bool v] 4)).alloc (.cells #[] 139)).alloc (.cells #[sm (w+1+1) 0 0 0] 77)).alloc (.cells #[.int .i64 (-40)] 2)) v g (-40) (w+1+1+1) (w+1+1+1+1) (w+1) w B (so (w+1+1) 0) 0 []:=by
 have hB:=hb.lt;have z1:∀ (W:World) (o:Obj),(W.alloc o).heap.size=W.heap.size+1:=λ W o=>by simp
 have s1:=z1 w (.cells #[.pointer (so B 0)] 266);have s2:=z1 (w.alloc (.cells #[.pointer (so B 0)] 266)) (.cells #[.bool v] 4);have n1:=aD w [.pointer (so B 0)] 266;have n2:=aD (w.alloc (.cells #[.pointer (so B 0)] 266)) [.bool v] 4;have n3:=World.ownsRow_lit (base:=w.heap.size) (size:=4) (e:=139) ((w.alloc (.cells #[.pointer (so B 0)] 266)).alloc (.cells #[.bool v] 4)) #[] 0 (by simp;omega) (by decide) rfl;rw [s2,s1] at n3;rw [s1] at n2;have n4:=aD ((((w.alloc (.cells #[.pointer (so B 0)] 266)).alloc (.cells #[.bool v] 4)).alloc (.cells #[] 139))) [sm (w+1+1) 0 0 0] 77;rw [z1,s2,s1] at n4;have n5:=aD ((((w.alloc (.cells #[.pointer (so B 0)] 266)).alloc (.cells #[.bool v] 4)).alloc (.cells #[] 139)).alloc (.cells #[sm (w+1+1) 0 0 0] 77)) [.int .i64 (-40)] 2;rw [z1,z1,s2,s1] at n5;have nn:=cv (cv n3 (.cells #[sm (w+1+1) 0 0 0] 77)) (.cells #[.int .i64 (-40)] 2);refine⟨(((((ab w).alloc _).alloc _).alloc _).alloc _).alloc _,n4.alloc _,nn,?_,n5,((n2.alloc _).alloc _).alloc _,(((n1.alloc _).alloc _).alloc _).alloc _,((((hb.alloc _).alloc _).alloc _).alloc _).alloc _,oM,oM,oM,oM,oM⟩;intro k hk
 cases hk
 exact⟨show w.heap.size+1+1≠_ by omega,show w.heap.size+1+1≠_ by omega,show w.heap.size+1+1≠_ by omega,show w.heap.size+1+1≠_ by omega,show w.heap.size+1+1≠_ by omega⟩
theorem RoI.next {w W:World}{v:Bool}{g:ac}{y:Int}{BO BL BV BC B:Nat}{q:OA}{c:Nat}{L:List Q4}(h:RoI w W v g y BO BL BV BC B q c L)(y2:Int)(V:World)(hE:Ext W V)(B2:Nat)(hB2:V.heap.size<=B2)(V2:World)(hE2:Ext V V2)(hn:Blk V2 B2 [y2] 2):RoI w V2 v g y2 BO B2 BV BC B q c L:=by have h2:=h.later hE;have h3:=h.later (hE.trans hE2);have l1:=h2.out.lt;refine⟨h3.ext,h3.out,h3.own,λ k hk=>?_,hn,h3.dir,h3.ptr,h3.set,h3.lo,oM,h3.dif.2⟩;have:=h3.ne k hk;have hk2:=(h2.own.lt k hk).2;exact⟨oM,this.2⟩
theorem NN (w V:World)(v:Bool)(g:ac)(k BO BL BV BC B:Nat)(q:OA)(c:Nat)(hk:k<80)(h:RoI w V v g ((k:Int) - 40) BO BL BV BC B q c (ei g v k)) :
 Calls prog 395 #[.func (.func 396) #[] #[.pointer (so BL 0),.pointer (so BV 0),.pointer (so BC 0)],.func (.func 397) #[] #[.pointer (so BO 0),.pointer (so BL 0),.pointer (so BV 0)]] V λ e w'=>e=.returned (.tuple #[])/\∃ q c,RoI w w' v g ((k:Int) - 40) BO BL BV BC B q c (ei g v (k+1)):=by
 have h9:=NC (ck g v ((k:Int) - 40)) 396 397 #[.pointer (so BL 0),.pointer (so BV 0),.pointer (so BC 0)] #[.pointer (so BO 0),.pointer (so BL 0),.pointer (so BV 0)] (fb func396 kR rfl) (fb func397 kR rfl) []
  (λ W L'=>∃ q c,RoI w W v g ((k:Int) - 40) BO BL BV BC B q c (ei g v k++L'.map (dR v ((k:Int) - 40))))
  (λ W W' L h E=>by obtain⟨q,c,h⟩:=h;exact⟨q,c,h.later E⟩)
  (λ W L i h hi=>by obtain⟨q,c,h⟩:=h;exact NL v g ((k:Int) - 40) i BL BV BC B W h.set oM hi (h.line.cells 0) (h.dir.cells 0) (h.ptr.cells 0) h.line.lt h.dir.lt h.ptr.lt)
  (λ W i a b h hi hab=>by
    obtain⟨q,c,h⟩:=h;refine (NM w W v g ((k:Int) - 40) a b BO BL BV BC B q c _ h oM ?_).mono ?_
    . have h1:=rX g v k;have h2:=rW (ck g v ((k:Int) - 40)) i;rw [aI,dD,List.nil_append];omega
    . rintro e w' ⟨rfl,q2,c2,h2⟩;exact⟨rfl,q2,c2,by rw [dT,<-fc];exact h2⟩)
  (yf oM) (yf oM) V ⟨q,c,by simpa using h⟩
 refine h9.mono ?_;rintro e w' ⟨rfl,q2,c2,h2⟩;exact⟨rfl,q2,c2,by rw [uw];simpa using h2⟩
theorem ux (w:World)(v:Bool)(g:ac)(B:Nat)(hb:Blk w B (ag g) 269) :
 Calls prog 371 #[.pointer (so B 0),.bool v] w λ e w'=>∃ q c,e=.returned (sl q (dW g v).length c)/\w'.ownsRow w 139 4 (sl q (dW g v).length c) (dW g v).length ((dW g v).flatMap aj)/\Ext w w':=by
 have hst:=aa (RoI.start (v:=v) hb);clear hb;go_enter func371,ntmps371;go_wp2;generalize ((((w.alloc _).alloc _).alloc _).alloc _).alloc _=W0 at hst ⊢;obtain⟨BO,hBO⟩:∃ BO,BO=w.heap.size+1+1+1:=⟨_,rfl⟩;obtain⟨BL0,hBL⟩:∃ BL0,BL0=w.heap.size+1+1+1+1:=⟨_,rfl⟩;obtain⟨BV,hBV⟩:∃ BV,BV=w.heap.size+1:=⟨_,rfl⟩;obtain⟨BC,hBC⟩:∃ BC,BC=w.heap.size:=⟨_,rfl⟩;replace hst:=aa (show RoI w W0 v g (((0:Nat):Int) - 40) BO BL0 BV BC B (so (w+1+1) 0) 0 (ei g v 0) by rw [hBO,hBL,hBV,hBC];exact hst.out);rw [<-hBL,<-hBO,<-hBV];generalize (some ((ad (w+1+1) 0):Addr))=q0 at hst ⊢;rw [<-hBC];clear hBL hBO hBV hBC;go_loopw [6] (λ z wr=>∃ (k:Nat) (BL:Nat) (q:OA) (c:Nat),k<=80/\z=.pointer (so BL 0)/\wr.cell? (ad BL 0)=si ((k:Int) - 40)/\Hid (RoI w wr v g ((k:Int) - 40) BO BL BV BC B q c (ei g v k))) (λ z wr=>match z with | .pointer (some a)=>(40 - intOf ((wr.cell? a).getD (40:Int))).toNat | _=>0)
 case atStart=>exact⟨0,BL0,q0,0,oM,rfl,hst.out.line.cells 0,hst⟩
 case round =>
  clear hst;obtain⟨k,BL,q,c,hk,rfl,hc,hr⟩:=hrel;by_cases hlt:k<80
  . have hltI:((k:Int) - 40)<40:=oM;go_wp2_with (go_at_call 395;refine (NN w _ v g k BO BL BV BC B q c hlt (by first | exact hr.out | exact hr.out.later (ab _).drew)).mono ?_;rintro e w5 ⟨rfl,q5,c5,h5⟩;have x5:=h5.line.cells 0;simp only [aJ] at x5;replace h5:=aa h5);have hnb:=aD w5 [.int .i64 ((k:Int) - 40+1)] 2;have hk1:((k:Int) - 40+1)=((k+1:Nat):Int) - 40:=oM;have hnc:=hnb.cells 0;simp only [aJ] at hnc;have h6:=aa (h5.out.next (((k+1:Nat):Int) - 40) w5 (ab _) w5 (ai _) _ ((ab _).alloc _) (hk1▸hnb));go_roundw
    case rel=>exact⟨k+1,w5.heap.size,q5,c5,oM,rfl,by rw [<-hk1];exact hnc,by rw [<-hk1] at h6 ⊢;exact h6⟩
    case measure => show (40 - intOf (((w5.alloc _).cell? _).getD _)).toNat<(40 - intOf ((wr.cell? _).getD _)).toNat;rw [hnc,hc];simp [intOf];omega
  . have hltI:¬ ((k:Int) - 40)<40:=oM;obtain rfl:k=80:=oM;have hbo:=hr.out.out.cells 0;simp only [aJ] at hbo;go_wp2_with (fail);go_ret;exact⟨q,c,rfl,hr.out.own,hr.out.ext⟩
theorem fi {W:World}{b b':Nat}{e:TypeId}{z:Nat}{v:Value}{n:Nat}{xs:List Value}(h:W.ownsRow b' e z v n xs)(hb:b<=b'):W.ownsRow b e z v n xs :=
 ⟨h.1,h.2.imp id λ⟨g,cap,cur,e,h1,r⟩=>⟨g,cap,cur,e,oM,r⟩⟩
theorem uy (l:List Q4):∀ u∈l.flatMap aj,u.oneCell'=true:=by intro u hu;obtain⟨x,_,hx⟩:=aL80.1 hu;exact iq _ _ _ _ u hx
def eL (g:ac):List Q4:=dW g false++dW g true
theorem jn (g:ac)(v:Bool):(dW g v).length<=6400:=rX g v 80
theorem uz {P:Program}{w:World}{ops:Array Oper}{rest:List Oper}{op:Oper}{a:Act}{Q:Exit->Act->World->Prop}(hgd:op.guard=none)(s x:Operand)(t:TypeId)
 (ho:op.op=.call { callee:=.builtin .append,args:=#[s,x],argTypes:=#[t,t] })
 (base:Nat) (e:TypeId) (i:TypeInfo) (z:Value) (size bytes:Nat) (ht:P.underlying t=some (.slice e)) (hi:P.info? e=some i) (hz:i.zero=some z)
 (hsize:i.size=size) (hby:i.bytes=bytes) (hzs:z.cells.size=size) (hsz:0<size)
 (v:Value) (n:Nat) (xs:List Value) (hs:a.eval s=v) (hown:w.ownsRow base e size v n xs)
 (b2 m:Nat) (v2:Value) (news:List Value) (hx:a.eval x=v2) (hrow:w.ownsRow b2 e size v2 m news) (h1:∀ u∈news,u.oneCell'=true)
 (h63:n+m<=maxLen) (hbytes:(n+m)*bytes<=140737488355328) (hbase:base<=w.heap.size)
 (h:∀ v' w',w'.ownsRow base e size v' (n+m) (xs++news)->w.grownBy w' v.ownBlock->wpList P ops Q rest (a.put op.dst v') w'):wpList P ops Q (op :: rest) a w:=by
 rcases sE hrow with ⟨e1,e2⟩ | ⟨g,c2,e1⟩
 . have hn:news=[]:=sF (by rw [hrow.1,e2];omega);subst e1 e2 hn;exact wpList_append_own_none hgd s x t ho base e i size ht hi v n xs hs hown hx (h v w (by simpa using hown) ((ab w).grownBy _))
 . subst e1;exact qG w hgd s x t ho base e i z size bytes ht hi hz hsize hby hzs hsz v n xs hs hown (ad g 0) m c2 news hx hrow.1 (hrow.cells rfl) h1 oM hbytes hbase (λ v' w' a b _=>h v' w' a b)
theorem NO (q:OA)(n c:Nat)(l:List Q4)(w:World)(h:SlT aj 4 w q n l)(hn:n<=1048576)(hv:∀ r∈l,iN r) :
 Calls prog 346 #[sl q n c] w λ e w'=>∃ q2 c2,e=.returned (sl q2 (eL (gL l)).length c2)/\w'.ownsRow w 139 4 (sl q2 (eL (gL l)).length c2) (eL (gL l)).length ((eL (gL l)).flatMap aj)/\Ext w w':=by
 obtain⟨i0,hi,hz0,hz1,hz2⟩:=aM gm;have hco:=aa (ns q n c l w h hn hv);have b1:=jn (gL l) false;have b2:=jn (gL l) true;have hlen:(eL (gL l)).length=(dW (gL l) false).length+(dW (gL l) true).length:=by rw [eL,aI]
 go_enter func346,ntmps346;go_wp2_with (first | (go_at_call 284;refine hco.mono ?_;rintro e w1 ⟨B,rfl,hB,hb,E1⟩;replace hb:=aa hb;replace E1:=aa E1) | (go_at_call 371;(with_reducible refine (ux w1 false (gL l) B hb.out).mono ?_);rintro e w2 ⟨q1,c1,rfl,o1,E2⟩;replace o1:=aa o1;replace E2:=aa E2) | (go_at_call 371;(with_reducible refine (ux w2 true (gL l) B (hb.out.ext E2.out)).mono ?_);rintro e w3 ⟨q2,c2,rfl,o2,E3⟩;replace o2:=aa o2;have ob:=aa (aG o1.out E3);have E13:=aa (E2.trans E3);have hs3:=aa E13.le) | (at_builtin;refine uz rfl _ _ 77 rfl w1 139 i0 (.agg #[(0:Int),(0:Int),(0:Int),(0:Int)]) 4 32 underlying77 hi hz0 hz1 hz2 rfl oM _ _ _ rfl ob.out w2 _ _ _ rfl o2.out (uy _) (by unfold maxLen;omega) oM hs3.out ?_;intro v' w4 ho' hg;obtain⟨qa,ca,rfl⟩:=cq ho';replace ho':=aa ho';replace hg:=aa hg) | fail);go_ret;refine⟨qa,ca,by rw [hlen];rfl,?_,E1.trans (E13.grown hg.out (λ k hk=>(ob.lt k hk).1))⟩;rw [hlen,eL,dj];exact fi ho'.out E1.le
end Go.Proofs.YtnlajnpcdnnpmaaGreat
