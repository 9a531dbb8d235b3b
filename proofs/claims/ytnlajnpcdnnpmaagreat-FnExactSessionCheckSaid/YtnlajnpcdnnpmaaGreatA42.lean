/- Part of a proof. No condition. -/
import Derived.Test.YtnlajnpcdnnpmaaGreatA40
namespace Go.Proofs.YtnlajnpcdnnpmaaGreat
set_option linter.all false
set_option maxRecDepth 100000
set_option maxHeartbeats 16000000
open Go.Proofs.Tryz Go.RowKit Go.PlainAid
def gS (l:List WvD) (k:Nat):Bool:=match l[k]? with | some y=>ic y&&(match k with | 0=>true | j+1=>match l[j]? with | some z=>decide (z.a<y.a) | none=>true) | none=>true
def fk (l:List WvD):Bool:=decide (l.length<=16)&&(List.range l.length).all (gS l)
theorem Hw {l:List WvD}{k:Nat}{y:WvD}(hx:l[k]?=some y)(h:ic y=false):gS l k=false:=by rw [gS,hx];simp only [h];rfl
theorem Hx {l:List WvD}{y:WvD}(hx:l[0]?=some y)(h:ic y=true):gS l 0=true:=by rw [gS,hx];simp only [h];rfl
theorem Hy {l:List WvD}{j:Nat}{y z:WvD}(hx:l[j+1]?=some y)(hz:l[j]?=some z)(h:ic y=true):gS l (j+1)=decide (z.a<y.a):=by rw [gS,hx];simp only [h,hz];rfl
theorem Hz (p:OA)(n c base:Nat)(l:List WvD)(w:World)(h:SlD (Fl cj) 2 base w p n l)(hn:n<=9223372036854775807)(hf:∀ x∈l,x.s.size<=9223372036854775807) :
 CE 63 #[sl p n c] w (.bool (fk l)):=by
 have hf:=aa hf;have hl:=aa h.length;go_enter func63,ntmps63;go_wp2_with (fail);go_loopw [3,4,7] (λ _ _ i wr=>∃ k:Nat,k<=n/\i=.int .i64 k/\Ext w wr/\Hid (∀ j,j<k->gS l j=true)) (λ _ _ i _=>n - (intOf i).toNat)
 case atStart=>exact⟨0,oM,rfl,ab _,λ j hj=>by omega⟩
 case round =>
  obtain⟨k,hk,rfl,E,hA⟩:=hrel;by_cases hlt:k<n
  . have hltI:(k:Int)<n:=oM;obtain⟨b,off,y,cs,rfl,hb,hy,hcs,hc⟩:=(h.ext okWaiver E).get (show k<n by omega);obtain rfl:cs=cj y:=hcs;have y0:=hc 0 _ rfl;rw [aq] at y0;have y1:=hc 1 _ rfl;clear hc;have hfy:=aa (hf.out y (ap hy.out));go_upto_region 4 with (fail);generalize hV:World.alloc _ _=W1;obtain⟨E1,zz,b1⟩:=al hV;clear hV zz;replace b1:=aa (show Blk W1 wr [_,_] _ from b1);clear y0 y1;replace E:=E.trans E1;replace hb:=aF hb E1.le;have⟨g1,l1⟩:=b1.gl;have hc1:∀ P:Later W1,CE 116 #[.agg #[y.a,.string y.s]] P.val (.bool (ic y)):=λ P=>I5 y P.val hfy.out
    cases hq:ic y with
    | false =>
      have a1:(List.range l.length).all (gS l)=false:=gb (by rw [hl.out];exact hlt) (Hw hy.out hq);have hr:Hid (false=fk l):=by show _=_;unfold fk;rw [a1];simp
      clear a1;rw [hq] at hc1;clear hq;replace hc1:=aa hc1;exact Ci
    | true =>
      rw [hq] at hc1;replace hc1:=aa hc1;by_cases hk0:k=0
      . have hr:Hid (gS l k=true):=by subst hk0;exact Hx hy.out hq
        have i0:¬ ((0:Int)<(k:Int)):=oM;have i3:decide (0<k)=false:=bU oM;replace hk0:=aa hk0;clear hq;refine aQ kR kR ?_;repeat (go_big_quiet_step ((go_at_call 116;exact bh (hc1.out _))))
        exact sN
      . obtain⟨j,rfl⟩:∃ j,k=j+1:=⟨k - 1,oM⟩;clear hk0;obtain⟨b',off',z,cs,hbb,_,hz,hcs,hc⟩:=(h.ext okWaiver E).get (show j<n by omega)
        cases hbb
        obtain rfl:cs=cj z:=hcs;have z0:=hc 0 _ rfl;rw [aq] at z0;clear hc;have hs:=Hy hy.out hz.out hq;have i0:(0:Int)<((j+1:Nat):Int):=oM;have i1:(j:Int)<n:=oM;have i3:decide (0<j+1)=true:=bl oM;clear hq;by_cases hza:z.a<y.a
        . rw [bl hza] at hs;have hr:=aa hs;have i2:¬ (y.a<=z.a):=oM;clear hs;refine aQ kR kR ?_;repeat (go_big_quiet_step ((go_at_call 116;exact bh (hc1.out _))))
          exact sM
        . rw [bU hza] at hs;have a1:(List.range l.length).all (gS l)=false:=gb (by rw [hl.out];exact hlt) (hs);have hr:Hid (false=fk l):=by show _=_;unfold fk;rw [a1];simp
          clear a1;have i2:y.a<=z.a:=oM;clear hs;exact Ci
  . have a1:(List.range l.length).all (gS l)=true:=oi λ j hj=>hA.out j (by have:=hl.out;omega)
    have hr:Hid (decide ((n:Int)<=16)=fk l):=by show _=_;have:=hl.out;unfold fk;rw [a1,this];simp;omega
    exact vF
theorem HA (p:OA)(n c base:Nat)(l:List WvD)(w:World)(h:SlD (Fl cj) 2 base w p n l)(hn:n<=9223372036854775807)(hf:∀ x∈l,x.s.size<=9223372036854775807) :
 CE 46 #[sl p n c] w (.bool (fk l)):=by
 have hf:=aa hf;have hl:=aa h.length;by_cases m2:16<n
 . have z2:(16:Int)<n:=oM;have d2:decide (l.length<=16)=false:=bU (by have:=hl.out;omega);have hr:Hid (false=fk l):=by show _=_;unfold fk;rw [d2];rfl
   clear d2;go_enter func46,ntmps46;go_wp2_with (fail);exact pp
 have d2:Hid (decide (l.length<=16)=true):=bl (by have:=hl.out;omega);go_enter func46,ntmps46;go_wp2_with (fail);go_loopw [3] (λ i wr=>∃ k:Nat,k<=n/\i=.int .i64 k/\Ext w wr/\Hid (∀ j,j<k->gS l j=true)) (λ i _=>n - (intOf i).toNat)
 case atStart=>exact⟨0,oM,rfl,ab _,λ j hj=>by omega⟩
 case round =>
  obtain⟨k,hk,rfl,E,hA⟩:=hrel;by_cases hlt:k<n
  . have hltI:(k:Int)<n:=oM;obtain⟨b,off,y,cs,rfl,hb,hy,hcs,hc⟩:=(h.ext okWaiver E).get (show k<n by omega);obtain rfl:cs=cj y:=hcs;have y0:=hc 0 _ rfl;rw [aq] at y0;have y1:=hc 1 _ rfl;clear hc;have hfy:=aa (hf.out y (ap hy.out));go_wp2_with (fail);have hc1:∀ P:Later wr,CE 94 #[.agg #[y.a,.string y.s]] P.val (.bool (ic y)):=λ P=>I6 y P.val hfy.out
    cases hq:ic y with
    | false =>
      have a1:(List.range l.length).all (gS l)=false:=gb (by rw [hl.out];exact hlt) (Hw hy.out hq);have hr:Hid (false=fk l):=by show _=_;unfold fk;rw [a1];simp
      clear a1;rw [hq] at hc1;clear hq;replace hc1:=aa hc1;exact Cj
    | true =>
      rw [hq] at hc1;replace hc1:=aa hc1;by_cases hk0:k=0
      . have hr:Hid (gS l k=true):=by subst hk0;exact Hx hy.out hq
        have i0:¬ ((0:Int)<(k:Int)):=oM;have i3:decide (0<k)=false:=bU oM;replace hk0:=aa hk0;clear hq;refine aQ kR kR ?_;repeat (go_big_quiet_step ((go_at_call 94;exact bh (hc1.out _))))
        exact sN
      . obtain⟨j,rfl⟩:∃ j,k=j+1:=⟨k - 1,oM⟩;clear hk0;obtain⟨b',off',z,cs,hbb,_,hz,hcs,hc⟩:=(h.ext okWaiver E).get (show j<n by omega)
        cases hbb
        obtain rfl:cs=cj z:=hcs;have z0:=hc 0 _ rfl;rw [aq] at z0;clear hc;have hs:=Hy hy.out hz.out hq;have i0:(0:Int)<((j+1:Nat):Int):=oM;have i1:(j:Int)<n:=oM;have i3:decide (0<j+1)=true:=bl oM;clear hq;by_cases hza:z.a<y.a
        . rw [bl hza] at hs;have hr:=aa hs;have i2:¬ (y.a<=z.a):=oM;clear hs;refine aQ kR kR ?_;repeat (go_big_quiet_step ((go_at_call 94;exact bh (hc1.out _))))
          exact sM
        . rw [bU hza] at hs;have a1:(List.range l.length).all (gS l)=false:=gb (by rw [hl.out];exact hlt) (hs);have hr:Hid (false=fk l):=by show _=_;unfold fk;rw [a1];simp
          clear a1;have i2:y.a<=z.a:=oM;clear hs;exact Cj
  . have a1:(List.range l.length).all (gS l)=true:=oi λ j hj=>hA.out j (by have:=hl.out;omega)
    have hr:Hid (true=fk l):=by show _=_;unfold fk;rw [a1,d2.out];rfl
    exact vF
theorem RA {l:List Q4}{k:Nat}{r:Q4}(dx dy:Int)(h:l[k]?=some r):(((l.take (k+1)).map (es dx dy)).flatMap aj)=((l.take k).map (es dx dy)).flatMap aj++aj (es dx dy r):=by rw [ch h,dT,dj];simp
def RB (l:List Q4) (w:World) (e:Ending) (w':World):Prop:=∃ q c,e=.returned (.tuple #[sl q l.length c,.bool true])/\w'.ownsRow w 139 4 (sl q l.length c) l.length (l.flatMap aj)/\Ext w w'
def HB (dx dy:Int) (r:Q4):Prop:=dU r/\(r.a<r.c/\r.b<r.d)/\vR (es dx dy r)=true
theorem RC (dx dy:Int)(q:OA)(n c:Nat)(l:List Q4)(w:World)(h:SlT aj 4 w q n l)(hn:n<=3200)(hd:Nr2 1000000 ⟨dx,dy⟩)(hv:∀ r∈l,HB dx dy r) :
 Calls prog 251 #[.agg #[(0:Int),dx,dy],sl q n c] w (RB (ah (gL (l.map (es dx dy)))) w):=by
 obtain⟨i0,hi,hz0,hz1,hz2⟩:=aM gm;have hl:=aa h.length;replace hv:=aa hv;replace hd:=aa hd;have hvl:=aa (show ∀ r∈l.map (es dx dy),vR r=true from by intro r hr;rw [aL52] at hr;obtain⟨s,hs,rfl⟩:=hr;exact (hv.out s hs).2.2);go_enter func251,ntmps251;go_upto_region 1 with (fail);generalize hW:World.alloc _ _=W0;obtain⟨E0,z0,b0⟩:=al hW;clear hW z0;replace b0:=aa (show Blk W0 w [(0:Int),dx,dy] _ from b0);go_upto_region 2 with (fail);have ho0:=dh (size:=4) (aD W0 [] 139) (ai _);generalize hW:W0.alloc _=W1 at ho0 ⊢;have E1:Ext W0 W1:=by rw [<-hW];exact (ab _).alloc _
 clear hW;have ho1:=aa (show W1.ownsRow W0 139 4 (sm W0 0 0 0) 0 (((l.take 0).map (es dx dy)).flatMap aj) from ho0);replace E1:=aa E1;replace E0:=aa E0;clear ho0;go_wp2_with (fail);go_loopw [6,7] (λ v i wx=>∃ (k:Nat) (q5:OA) (c5:Nat),k<=n/\v=sl q5 k c5/\i=.int .i64 k/\Hid (wx.ownsRow W0 139 4 (sl q5 k c5) k (((l.take k).map (es dx dy)).flatMap aj))/\Hid (Ext W0 wx)) (λ _ i _=>n - (intOf i).toNat)
 case atStart=>exact⟨0,_,_,oM,rfl,rfl,ho1,E1⟩
 case round =>
  clear ho1 E1;obtain⟨k,q5,c5,hk,rfl,rfl,hO,hY⟩:=hrel;have bx:=aa (b0.ext hY.out);by_cases hkt:k<n
  . have hkI:(k:Int)<(n:Int):=oM;obtain⟨b,off,r,rfl,hbn,hr,c0,c1,c2,c3⟩:=(h.ext (E0.trans hY.out)).four hkt;obtain⟨hrv,hrn,hrs⟩:=hv.out r (ap hr.out);have hmv:=aa (λ W=>rP ⟨0,dx,dy⟩ r W (by simp) hd.out (by unfold Nr2;unfold dU at hrv;simp only;omega) (by unfold Nr2;unfold dU at hrv;simp only;omega));rw [Lx dx dy hrn] at hmv;have hsn:=aa (RA dx dy hr.out);obtain⟨m,hm⟩:∃ m,es dx dy r=m:=⟨_,rfl⟩;rw [hm] at hmv hsn hrs;have hvr:=λ W=>pS m W
    rw [hrs] at hvr;replace hvr:=aa hvr;have⟨gx,lx⟩:=bx.gl;clear hm hrv hrn hrs;go_upto_region 5 with (fail)
    refine jh (λ a0 a' w'=>∃ M:Nat,(Ext wr w'/\wr.heap.size<=M/\Blk w' M [m.a,m.b,m.c,m.d] 139) /\
     a'=((((((a0.put (some 16) (.agg #[(0:Int),dx,dy])).put (some 17) (sm b off n c)).put (some 18) (k:Int)).put (some 19) (.pointer (so b (off+k*4)))).put (some 20) (.agg #[r.a,r.b,r.c,r.d])).put (some 21) (.agg #[m.a,m.b,m.c,m.d])).put (some 8) (.pointer (so M 0))) ?_ ?_
    . go_region_with (go_at_call 242;refine (hmv.out _).mono ?_;rintro e w9 ⟨rfl,E9⟩;try (have b9:=(Blk.ext (nc (aD wr [.int .i64 0,.int .i64 0,.int .i64 0,.int .i64 0] 139)) E9);have f9:=b9.free;have l9:=b9.lt;have p0:=b9.cells 0;have p1:=b9.cells 1;have p2:=b9.cells 2;have p3:=b9.cells 3;have f90:=f9 0;have f91:=f9 1;have f92:=f9 2;have f93:=f9 3;simp only [aJ,aN] at p0 p1 p2 p3))
      all_goals first
       | (refine⟨w9.heap.size,⟨((ab wr).drew.trans E9).alloc _,E9.le,aD w9 [_,_,_,_] _⟩,?_⟩;simp only [Act.put,dn,aW,aY];done)
       | (refine⟨wr.heap.size,⟨((((((ab wr).alloc _).drew.trans E9).setCell (p:=(ad wr 0)) (ai _) _).setCell (p:=(ad wr 1)) (ai _) _).setCell (p:=(ad wr 2)) (ai _) _).setCell (p:=(ad wr 3)) (ai _) _,ai _,((((b9.set 0 _).set 1 _).set 2 _).set 3 _)⟩,?_⟩;simp only [Act.put,dn,aW,aY];done)
       | fail
    rintro a' W3 ⟨M,⟨E3,hM,hb3⟩,rfl⟩;simp only [Act.put,dn,aW,aY];have⟨m9,ml⟩:=hb3.gl;have hO9:=aa (aG hO.out E3);have hY9:=aa (hY.trans E3);clear E3 c0 c1 c2 c3 gx lx;go_wp2_with (first | (go_at_call 243;(refine (hvr.out _).mono ?_);rintro e w8 ⟨rfl,E8⟩;have hO8:=aa (aG hO9.out E8);have hY8:=aa (hY9.trans E8);have hs8:=aa hY8.le;have hb8:=hb3.ext E8;have⟨m8,ml8⟩:=hb8.gl) | (at_builtin;refine cZ _ rfl _ _ 77 rfl W0 139 i0 (.agg #[(0:Int),(0:Int),(0:Int),(0:Int)]) 4 32 underlying77 hi hz0 hz1 hz2 rfl oM _ _ _ rfl (cv hO8.out _) ⟨_,0,none⟩ 1 1 [.int .i64 m.a,.int .i64 m.b,.int .i64 m.c,.int .i64 m.d] rfl rfl (dg _ [_,_,_,_] _) (iq _ _ _ _) (cx oM oM) oM (by have:=hs8.out;simp;omega) ?_;intro v2 wA hoA hgA hnA hbA;obtain⟨qa,ca,rfl⟩:=cq hoA;have hYA:=aa ((hY8.alloc _).grown hgA (λ k hk=>(hO8.lt k hk).1));replace hoA:=aa hoA;clear hgA hnA hbA) | fail);exact sS
  . have hkI:¬ (k:Int)<(n:Int):=oM;obtain rfl:k=n:=oM;rw [eE (show l.length<=k by have:=hl.out;omega)] at hO;have s5:=aa (bm (l:=l.map (es dx dy)) cw (by rw [dD];exact hl.out) hO.out);have hbt:=aa (λ(V:World) (hE:Ext wr V)=>ji q5 k c5 (l.map (es dx dy)) V (s5.ext hE) oM hvl.out);have hE0:=aa (E0.trans hY.out);have hll:=aa E0.le;have hX1:=λ(B:Nat) (V:World) (h1:V.ownsRow wr 4 1 (sm B 0 6400 6400) 6400 (ag (gL (l.map (es dx dy)))))=>kK B 6400 (gL (l.map (es dx dy))) V (dH h1)
    replace hX1:=aa hX1;clear hO;go_wp2_with (first | (go_at_call 159;(with_reducible refine (hbt.out _ (ab _)).mono ?_);rintro e w3 ⟨B,rfl,ob,E3⟩) | (go_at_call 160;(refine (hX1.out B _ ob).mono ?_);rintro e w4 ⟨q9,c9,rfl,o9,E9⟩) | fail);refine bB (results_tmp2 rfl _ _ _) rfl ?_;exact⟨q9,c9,rfl,mF o9 (aS hE0.le E3.le),hE0.trans (E3.trans E9)⟩
theorem RD {l:List Q4}(h:∀ r∈l,vR r=true){o:Int}(ho:0<=o/\o<=7):∀ r∈ef l o,r.a<r.c/\r.b<r.d:=by intro r hr;unfold ef at hr;rw [aL52] at hr;obtain⟨s,hs,rfl⟩:=hr;exact (xe ho (h s hs)).2
theorem RE (o:Int)(q:OA)(n c:Nat)(l:List Q4)(w:World)(h:SlT aj 4 w q n l)(h0:0<n)(hn:n<=3200)(ho:0<=o/\o<=7)(hv:∀ r∈l,vR r=true) :
 CE 168 #[sl q n c,o] w (jg l o:Int):=by
 obtain⟨i0,hi,hz0,hz1,hz2⟩:=aM gm;have hl:=aa h.length;replace hv:=aa hv;have hvI:=aa (xf hv.out (o:=o) oM);have hnv:=aa (EP hv.out (o:=o) oM);have hil:=EK l o;rw [hl.out] at hil;replace ho:=aa ho;go_enter func168,ntmps168;go_upto_region 2 with (fail);have ho0:=dh (size:=4) (aD w [] 139) (ai _);generalize hW:w.alloc _=W0 at ho0 ⊢;have E0:Ext w W0:=by rw [<-hW];exact (ab _).alloc _
 clear hW;have ho1:=aa (show W0.ownsRow w 139 4 (sm w 0 0 0) 0 ((ef (l.take 0) o).flatMap aj) from ho0);replace E0:=aa E0;clear ho0;go_wp2_with (fail);go_loopw [5,6] (λ v i wx=>∃ (k:Nat) (q5:OA) (c5:Nat),k<=n/\v=sl q5 k c5/\i=.int .i64 k/\Hid (wx.ownsRow w 139 4 (sl q5 k c5) k ((ef (l.take k) o).flatMap aj))/\Hid (Ext w wx)) (λ _ i _=>n - (intOf i).toNat)
 case atStart=>exact⟨0,_,_,oM,rfl,rfl,ho1,E0⟩
 case round =>
  clear ho1 E0;obtain⟨k,q5,c5,hk,rfl,rfl,hO,hY⟩:=hrel;by_cases hkt:k<n
  . have hkI:(k:Int)<(n:Int):=oM;obtain⟨b,off,r,rfl,hbn,hr,c0,c1,c2,c3⟩:=(h.ext hY.out).four hkt;have hrv:=hv.out r (ap hr.out);have hmv:=aa (λ W=>rP (ip o) r W ho.out (by unfold Nr2 ip;simp) (uB hrv).1 (uB hrv).2);have hsn:=aa (Gb o hr.out);obtain⟨m,hm⟩:∃ m,cG (ip o) r=m:=⟨_,rfl⟩;rw [hm] at hmv hsn;clear hm hrv;go_wp2_with (first | (go_at_call 242;(refine (hmv.out _).mono ?_);rintro e w9 ⟨rfl,E9⟩;have hO9:=aa (aG hO.out E9);have hY9:=aa (hY.trans E9);have hs9:=aa hY9.le) | (at_builtin;refine cZ _ rfl _ _ 77 rfl w 139 i0 (.agg #[(0:Int),(0:Int),(0:Int),(0:Int)]) 4 32 underlying77 hi hz0 hz1 hz2 rfl oM _ _ _ rfl (cv hO9.out _) ⟨_,0,none⟩ 1 1 [.int .i64 m.a,.int .i64 m.b,.int .i64 m.c,.int .i64 m.d] rfl rfl (dg _ [_,_,_,_] _) (iq _ _ _ _) (cx oM oM) oM (by have:=hs9.out;simp;omega) ?_;intro v2 wA hoA hgA hnA hbA;obtain⟨qa,ca,rfl⟩:=cq hoA;have hYA:=aa ((hY9.alloc _).grown hgA (λ k hk=>(hO9.lt k hk).1));replace hoA:=aa hoA;clear hgA hnA hbA) | fail);exact sS
  . have hkI:¬ (k:Int)<(n:Int):=oM;obtain rfl:k=n:=oM;rw [eE (show l.length<=k by have:=hl.out;omega)] at hO;have s5:=aa (bm (l:=ef l o) cw hil hO.out);have hne:=aa (RD hv.out ho.out);obtain⟨I,hI⟩:∃ I,Hid (ef l o=I):=⟨_,aa rfl⟩;rw [hI.out] at s5 hvI hil hne;have hbx:=aa (MK q5 k c5 I wr s5.out h0 oM);have hbi:=tW (by rw [hil];exact h0) hvI.out;have hnr:Hid (lF l o=I.map (es (-40 - (dz I).a) (-40 - (dz I).b))):=aa (by rw [lF,hI.out]);obtain⟨X,hXe⟩:∃ X,dz I=X:=⟨_,rfl⟩;rw [hXe] at hbx hbi hnr;obtain⟨⟨xa0,xa1⟩,⟨xb0,xb1⟩,-⟩:=hbi;have hsv:Hid (∀ r∈I,HB (-40 - X.a) (-40 - X.b) r):=aa (λ r hr=>⟨hvI.out r hr,hne.out r hr,hnv.out _ (by rw [hnr.out];exact pg hr)⟩);have hmv:=aa (λ(V:World) (hE:Ext wr V)=>RC (-40 - X.a) (-40 - X.b) q5 k c5 I V (s5.ext hE) hn (by unfold Nr2;simp only;omega) hsv.out);rw [<-hnr.out] at hmv;obtain⟨Rg,hRg⟩:∃ Rg,Hid (ah (gL (lF l o))=Rg):=⟨_,aa rfl⟩;have hRl:Rg.length<=3200:=by rw [<-hRg.out];exact fC _
    have hRv:=aa (show ∀ r∈Rg,vR r=true from by rw [<-hRg.out];exact iR (ik _));have hhs:Hid (jg l o=eT 17 Rg):=aa (by rw [jg,hRg.out]);rw [hRg.out] at hmv;clear hXe hO hne hsv hnr hnv;go_wp2_with (first | (go_at_call 250;(with_reducible refine (hbx.out).mono ?_);rintro e w9 ⟨rfl,E9⟩;have hY9:=aa (hY.trans E9);replace E9:=aa E9) | (go_at_call 251;(refine (hmv.out _ (E9.alloc _)).mono ?_);rintro e w10 ⟨q7,c7,rfl,o7,E10⟩;have hQ:=aa ((hY9.alloc _).trans E10);have s11:=aa (bm (l:=Rg) cw rfl o7);clear o7 E10) | fail);go_loopw [10,11] (λ s i wx=>∃ j:Nat,j<=Rg.length/\s=.int .i64 (eT 17 (Rg.take j))/\i=.int .i64 j/\Hid (Ext w10 wx)) (λ _ i _=>Rg.length - (intOf i).toNat)
    case atStart=>exact⟨0,oM,by simp [eT],rfl,ab _⟩
    case round =>
     obtain⟨j,hj,rfl,rfl,hE⟩:=hrel;by_cases hjt:j<Rg.length
     . have hjI:(j:Int)<(Rg.length:Int):=oM;obtain⟨b2,off2,r,rfl,hbn,hr,c0,c1,c2,c3⟩:=(s11.ext hE.out).four hjt;obtain⟨⟨r0,r1,r2⟩,r3,r4,r5⟩:=vR_iff.1 (hRv.out r (ap hr.out));obtain⟨hc0,hc1⟩:=tX (h:=17) oM (Rg.take j);have hst:=aa (EQ 17 hr.out);obtain⟨T,hT⟩:∃ T,eT 17 (Rg.take j)=T:=⟨_,rfl⟩;rw [hT] at hc0 hc1 hst;rw [hT];clear hT;have hha:=aa (λ(h x:Int) (W:World) (hh:0<=h/\h<=2147483646) (hx : -40<=x/\x<=40)=>Ga h (x+40) W hh oM);go_wp2_with (first | (go_at_call 106;(refine (hha.out _ _ _ (by first | exact⟨hc0,hc1⟩ | exact wY _ _) oM).mono ?_);rintro e w12 ⟨rfl,rfl⟩) | fail);go_roundw
       case rel=>exact⟨j+1,oM,by rw [<-hst.out];rfl,gN,hE⟩
       case measure=>exact mS
     . have hjI:¬ (j:Int)<(Rg.length:Int):=oM;rw [eE (show Rg.length<=j by omega),<-hhs.out];have hfin:=aa (hQ.trans hE.out);go_wp2_with (fail);go_ret;exact⟨rfl,hfin.out⟩
theorem RF (q:OA)(n c:Nat)(l:List Q4)(w:World)(h:SlT aj 4 w q n l)(h0:0<n)(hn:n<=3200)(hr:aH l=true) :
 CE 105 #[sl q n c] w (mx l:Int):=by
 have hv:=aa (eU (isReg_iff.1 hr).1).2;have k1:=λ(V:World) (hE:Ext w V)=>kL q n c l V (h.ext hE) oM
 rw [hr] at k1;replace k1:=aa k1;have k2:=aa (λ(o:Int) (ho:0<=o/\o<=7) (V:World) (hE:Ext w V)=>RE o q n c l V (h.ext hE) h0 hn ho hv.out);have h0I:(0:Int)<(n:Int):=oM;clear hr;go_enter func105,ntmps105;go_wp2_with (first | (go_at_call 161;(with_reducible refine (k1.out _ (ab _)).mono ?_);rintro e w2 ⟨rfl,E2⟩;replace E2:=aa E2) | (go_at_call 168;(with_reducible refine (k2.out 0 oM _ E2.out).mono ?_);rintro e w3 ⟨rfl,E3⟩;replace E3:=aa (E2.trans E3)) | fail);go_loopw [3,4] (λ s i wx=>∃ o:Nat,o<=7/\s=.int .i64 (jD l o)/\i=.int .i64 ((o:Int)+1)/\Hid (Ext w wx)) (λ _ i _=>8 - (intOf i).toNat)
 case atStart=>exact⟨0,oM,rfl,rfl,E3⟩
 case round =>
  obtain⟨o,ho,rfl,rfl,hE⟩:=hrel;by_cases hot:o<7
  . have hoI:(o:Int)+1<8:=oM;have k3:=aa (k2.out ((o:Int)+1) oM _ hE.out);have hsu:=aa (Gc l o);obtain⟨sa,sb⟩:=pR l o;obtain⟨ra,rb⟩:=rx l ((o:Int)+1);obtain⟨H,hH⟩:∃ H,jg l ((o:Int)+1)=H:=⟨_,rfl⟩;obtain⟨S,hS⟩:∃ S,jD l o=S:=⟨_,rfl⟩;rw [hH] at k3 hsu ra rb;rw [hS] at hsu sa sb;rw [hS];clear hH hS;go_wp2_with (first | (go_at_call 168;(with_reducible refine (k3.out).mono ?_);rintro e w4 ⟨rfl,E4⟩;have hE4:=aa (hE.trans E4)) | fail);go_roundw
    case rel=>exact⟨o+1,oM,by rw [hsu.out],gN,hE4⟩
    case measure=>exact mS
  . have hoI:¬ (o:Int)+1<8:=oM;obtain rfl:o=7:=oM;exact nQ
theorem RG (r:RuD)(q:OA)(n c:Nat)(l:List Q4)(w:World)(h:SlT aj 4 w q n l)(h0:0<n)(hn:n<=3200)(hr:aH l=true)(hv:uA (jE r)) :
 CE 53 #[.agg #[r.a,r.b,r.c,r.d,r.e],sl q n c] w (my r l:Int):=by
 have k1:=aa (λ(V:World) (hE:Ext w V)=>RF q n c l V (h.ext hE) h0 hn hr);obtain⟨sa,sb⟩:=pR l 7;have hvs:Hid (my r l=hsh (hsh (hsh (hsh (hsh (mx l) r.a) r.b) r.c) r.d) r.e):=aa rfl;rw [show jD l 7=mx l from rfl] at sa sb;obtain⟨S,hS⟩:∃ S,mx l=S:=⟨_,rfl⟩;rw [hS] at k1 hvs sa sb;rw [hvs.out];have ha:=aa (hv r.a (by simp [jE]));have hb:=aa (hv r.b (by simp [jE]));have hc:=aa (hv r.c (by simp [jE]));have hd:=aa (hv r.d (by simp [jE]));have he:=aa (hv r.e (by simp [jE]));clear hS hr hv hvs;have hha:=aa (λ(h x:Int) (W:World) (hh:0<=h/\h<=2147483646) (hx:0<=x/\x<=1000000)=>Ga h x W hh hx);go_enter func53,ntmps53;go_upto_region 1 with (fail);generalize hW:World.alloc _ _=W0;obtain⟨E0,z0,b0⟩:=al hW;clear hW z0;replace b0:=aa (show Blk W0 w [r.a,r.b,r.c,r.d,r.e] _ from b0);have⟨gx,lx⟩:=b0.gl;go_wp2_with (first | (go_at_call 105;(with_reducible refine (k1.out _ E0).mono ?_);rintro e w2 ⟨rfl,E2⟩;have bx2:=b0.ext E2;have⟨gx2,lx2⟩:=bx2.gl;have hE2:=aa (E0.trans E2)) | (go_at_call 106;(refine (hha.out _ _ _ (by first | exact⟨sa,sb⟩ | exact wY _ _) (by first | exact ha.out | exact hb.out | exact hc.out | exact hd.out | exact he.out)).mono ?_);rintro e w12 ⟨rfl,rfl⟩) | fail);go_ret;exact⟨rfl,hE2.out⟩
theorem RH (p:OA)(m cr base:Nat)(R:List RuD)(k:Nat)(q:OA)(n c:Nat)(l:List Q4)(w:World)(hR:SlD (Fl bE) 5 base w p m R)(hk:k<m)(hm:m<=12)(h:SlT aj 4 w q n l)(h0:0<n)(hn:n<=3200)(hr:aH l=true)(hv:uA (jE (iD R k))) :
 CE 71 #[.agg #[sl p m cr],.agg #[(k:Int),sl q n c]] w (my (iD R k) l:Int):=by
 have hRf:=aa hR.flat;have hkI:(k:Int)<(m:Int):=oM;have hvl:=aa (eU (isReg_iff.1 hr).1).2;have k1:=aa (λ(V:World) (hE:Ext w V)=>NU q n c l V (h.ext hE) h0 hn hvl.out);obtain⟨b0,off0,y,rfl,hbn0,hy,-⟩:=hRf.get hk;have hyv:Hid (iD R k=y):=aa (by rw [iD,kz,hy.out];rfl);rw [hyv.out] at hv;rw [hyv.out];obtain⟨sa,sb⟩:=pR l 7;have hvs:Hid (my y l=hsL (mx l) (jE y)):=aa rfl;rw [show jD l 7=mx l from rfl] at sa sb;obtain⟨S,hS⟩:∃ S,mx l=S:=⟨_,rfl⟩;rw [hS] at k1 hvs sa sb;rw [hvs.out];have hha:=aa (λ(W:World) (q1:OA) (hs:SlT bi 1 W q1 5 (jE y))=>F9 S q1 5 5 (jE y) W hs oM ⟨sa,sb⟩ hv);clear hS hr hvs hv hvl;go_enter func71,ntmps71;go_upto_region 1 with (fail);generalize hW:World.alloc _ _=W0;obtain⟨E0,z0,b0x,b1x⟩:=bV hW;clear hW z0;replace b0x:=aa (show Blk W0 w [sm b0 off0 m cr] _ from b0x);replace b1x:=aa (show Blk W0 (w+1) [(k:Int),sl q n c] _ from b1x);have⟨g0,l0⟩:=b0x.gl;have⟨g1,l1⟩:=b1x.gl;obtain⟨b,off,y2,hp2,hbn,hy2,hc⟩:=(hRf.ext E0).get hk
 cases hp2
 obtain rfl:y2=y:=cJ (hy2.symm.trans hy.out);have c0:=hc 0 _ rfl;rw [aq] at c0;have c1:=hc 1 _ rfl;have c2x:=hc 2 _ rfl;have c3x:=hc 3 _ rfl;have c4x:=hc 4 _ rfl;replace E0:=aa E0;clear hc;go_upto_region 2 with (fail);generalize hW:World.alloc _ _=W2;obtain⟨E2,z2,b2x⟩:=al hW;clear hW z2;replace b2x:=aa (show Blk W2 W0 [y2.a,y2.b,y2.c,y2.d,y2.e] _ from b2x);have b1y:=aa (b1x.ext E2);have hk:=aa (show ∀ V,Ext W2 V->V.cell? (ad W0 0)=si y2.a/\V.cell? (ad W0 1)=si y2.b/\V.cell? (ad W0 2)=si y2.c/\V.cell? (ad W0 3)=si y2.d/\V.cell? (ad W0 4)=si y2.e/\V.cell? (ad (w+1) 1)=ss q n c from λ V hV=>by have k1:=(b2x.ext hV).cells;have k2:=(b1y.ext hV).cells;exact⟨k1 0,k1 1,k1 2,k1 3,k1 4,k2 1⟩);have hE2:=aa (E0.trans E2);clear E2 c0 c1 c2x c3x c4x hbn hy hy2 l0 g0 g1 l1
 go_region_held3 (λ V=>V.cell? (ad W0 0)=si y2.a/\V.cell? (ad W0 1)=si y2.b/\V.cell? (ad W0 2)=si y2.c/\V.cell? (ad W0 3)=si y2.d/\V.cell? (ad W0 4)=si y2.e/\V.cell? (ad (w+1) 1)=ss q n c)
  (exact hk.out _ (by first | exact (ab _).drew | exact ((ab _).alloc _).drew | exact hE9.out | exact hE9.alloc _))
  (first | (go_at_call 135;refine (k1.out _ (by first | exact hE2.trans (ab _).drew | exact (hE2.trans ((ab _).alloc _)).trans (ab _).drew)).mono ?_;rintro e w9 ⟨rfl,E9⟩;have hX9:=aa E9;have hE9:=aa (show Ext W2 w9 from (by first | exact (ab _).drew.trans E9 | exact ((ab _).alloc _).drew.trans E9));clear E9) | (go_at_call 134;refine (hha.out _ _ (by first | exact SlT.of_blk (enc:=bi) nV (aD _ [.int .i64 y2.a,.int .i64 y2.b,.int .i64 y2.c,.int .i64 y2.d,.int .i64 y2.e] 2) | exact SlT.of_blk (enc:=bi) nV ((nc (aD _ [.int .i64 y2.a,.int .i64 y2.b,.int .i64 y2.c,.int .i64 y2.d,.int .i64 y2.e] 2)).ext hX9.out))).mono ?_;rintro e w10 ⟨rfl,rfl⟩))
 all_goals
  go_wp2_with (fail);go_ret
  first
   | exact⟨rfl,hE2.trans hE9.out⟩
   | exact⟨rfl,(hE2.trans hE9.out).alloc _⟩
end Go.Proofs.YtnlajnpcdnnpmaaGreat
