/- Part of a proof. No condition. -/
import Derived.Test.YtnlajnpcdnnpmaaGreatA49
namespace Go.Proofs.YtnlajnpcdnnpmaaGreat
set_option linter.all false
set_option maxRecDepth 100000
set_option maxHeartbeats 16000000
open Go.Proofs.Tryz Go.RowKit Go.PlainAid
theorem nE {α:Type}{enc:α->List Value}(h:∀ x,∀ v∈enc x,jt v=true):mb (Fl enc):=λ _ _ x cs e v hv=>by rw [show cs=enc x from e] at hv;exact h x v hv
theorem Te:mb (Fl bg):=nE λ x v hv=>by simp [bg] at hv;rcases hv with rfl | rfl | rfl | rfl | rfl <;> rfl
theorem Tf:mb (Fl dL):=nE λ x v hv=>by simp [dL] at hv;rcases hv with rfl | rfl | rfl | rfl <;> rfl
theorem Tg:mb (Fl cV):=nE λ x v hv=>by simp [cV] at hv;rcases hv with rfl | rfl | rfl | rfl | rfl | rfl | rfl | rfl <;> rfl
theorem Th:mb (Fl bE):=nE λ x v hv=>by simp [bE] at hv;rcases hv with rfl | rfl | rfl | rfl | rfl <;> rfl
theorem Ti:mb (Fl cj):=nE λ x v hv=>by simp [cj] at hv;rcases hv with rfl | rfl <;> rfl
theorem Tj:mb (Fl cD):=nE λ x v hv=>by simp [cD] at hv;rcases hv with rfl | rfl <;> rfl
theorem Tk:mb (Fl bi):=nE λ x v hv=>by simp [bi] at hv;subst hv;rfl
theorem Tl:mb (Fl am):=nE λ x v hv=>by simp [am,bg,dL,cV] at hv;repeat (first | (rcases hv with rfl | hv;· rfl) | (subst hv;rfl))
abbrev JC:List (Nat×Nat):=[(1,5),(2,4),(3,8)]
abbrev JD:List (Nat×Nat):=[(1,1)]
abbrev JE:List (Nat×Nat):=[(0,21)]
theorem Tm:vl CeR JC (λ y=>y.shs.length<=1048576/\y.lbs.length<=1048576/\y.ins.length<=1048576) 1048576:=by
 rintro b w x cs hb ⟨p1,n1,c1,p2,n2,c2,p3,n3,c3,rfl,s1,s2,s3⟩ ⟨g1,g2,g3⟩;have e1:=s1.length;have e2:=s2.length;have e3:=s3.length;refine⟨λ js hj=>?_,λ i v hv hJ=>?_⟩
 . simp at hj;rcases hj with rfl | rfl | rfl
   . exact⟨p1,n1,c1,rfl,oM,s1.wf okShape oM Te hb⟩
   . exact⟨p2,n2,c2,rfl,oM,s2.wf okLabel oM Tf hb⟩
   . exact⟨p3,n3,c3,rfl,oM,s3.wf okInstance oM Tg hb⟩
 . match i,hv with
   | 0,hv=>simp at hv;subst hv;rfl
   | 1,hv=>exact absurd rfl (hJ (1,5) (by simp))
   | 2,hv=>exact absurd rfl (hJ (2,4) (by simp))
   | 3,hv=>exact absurd rfl (hJ (3,8) (by simp))
   | i+4,hv=>simp at hv
theorem Tn:vl DvR JD (λ y=>y.pins.length<=1048576) 1048576:=by
 rintro b w x cs hb ⟨p1,n1,c1,rfl,s1⟩ g1;have e1:=s1.length;have g2:x.pins.length<=1048576:=g1;refine⟨λ js hj=>?_,λ i v hv hJ=>?_⟩
 . simp at hj;subst hj;exact⟨p1,n1,c1,rfl,oM,s1.wf cW oM Tk hb⟩
 . match i,hv with
   | 0,hv=>simp at hv;subst hv;rfl
   | 1,hv=>exact absurd rfl (hJ (1,1) (by simp))
   | 2,hv=>simp at hv;subst hv;rfl
   | 3,hv=>simp at hv;subst hv;rfl
   | i+4,hv=>simp at hv
theorem Ia:vl (RwD (Fl am) 21) JE (λ y=>y.length<=1048576) 1048576:=by
 rintro b w x cs hb ⟨p1,n1,c1,rfl,s1⟩ g1;have e1:=s1.length;have g2:x.length<=1048576:=g1;refine⟨λ js hj=>?_,λ i v hv hJ=>?_⟩
 . simp at hj;subst hj;exact⟨p1,n1,c1,rfl,oM,s1.wf okEdit oM Tl hb⟩
 . match i,hv with
   | 0,hv=>exact absurd rfl (hJ (0,21) (by simp))
   | i+1,hv=>simp at hv
theorem To (p:OA)(n c:Nat)(k:Int)(lo hi:Nat)(w:World)(h:Wn lo hi 4 JC 1048576 w p n)(hn:n<=1048576)(hk0:0<=k)(hk1:k<=100000000000000000) :
 Calls prog 143 #[sl p n c,k] w (gU lo hi ((n:Int)*17825793) w k):=by
 go_enter func143,ntmps143;go_wp2_with (fail);go_loopw [1,5] (λ t i wr=>∃ (j:Nat) (k1:Int),j<=n/\i=.int .i64 j/\t=.int .i64 k1/\(k<=k1/\k1<=k+(j:Int)*17825793)/\Hid (MutF lo hi w wr)) (λ _ i _=>n - (intOf i).toNat)
 case atStart=>exact⟨0,k,oM,rfl,rfl,⟨oM,oM⟩,ma _ _ _⟩
 case round =>
  obtain⟨j,k1,hj,rfl,rfl,⟨hka,hkb⟩,hM⟩:=hrel;by_cases hlt:j<n
  . have hltI:(j:Int)<(n:Int):=oM;obtain⟨b,off,rfl,hlo,hbh,-,-,-,-⟩:=(h.mutF hM.out).at hlt;go_upto_region 6 with (first | (go_at_call 83;(with_reducible refine (qD _ _ oM oM).mono ?_);rintro e1 w1 ⟨s0,rfl,E1⟩;have hMb0:=aa (hM.trans (kW E1));clear E1;obtain⟨b2,off2,hp2,-,-,hbl,hfr,hci,hcs⟩:=(h.mutF hMb0.out).at hlt;cases hp2;obtain⟨v,e,en⟩:=hci 0 oM (by simp);clear hci hcs;try simp only [aq,aZ] at e) | fail);have hN0:=aa (hMb0.setCell (v:=.string s0) hlo hbh e en rfl);generalize World.setCell _ _ _=V0 at hN0 ⊢;clear e en hfr hbl v;obtain⟨b2,off2,hp2,-,-,hbl,hfr,hci,hcs⟩:=(h.mutF hN0.out).at hlt
    cases hp2
    obtain⟨q1,m1,c1,e,hm1,hw1⟩:=hcs 1 5 (by simp);clear hci hcs;try simp only [aq,aZ] at e
    replace hw1:=aa hw1;go_upto_region 7 with (first | (go_at_call 209;(with_reducible refine (S6 q1 m1 c1 _ lo hi _ hw1.out hm1 oM oM).mono ?_);rintro e1 w1 ⟨k3,rfl,⟨hka1,hkb1⟩,hMc1⟩;have hN1:=aa (hN0.trans hMc1);clear hMc1) | fail);clear e hfr hbl;obtain⟨b2,off2,hp2,-,-,hbl,hfr,hci,hcs⟩:=(h.mutF hN1.out).at hlt
    cases hp2
    obtain⟨q2,m2,c2,e,hm2,hw2⟩:=hcs 2 4 (by simp);clear hci hcs;try simp only [aq,aZ] at e
    replace hw2:=aa hw2;go_upto_region 8 with (first | (go_at_call 210;(with_reducible refine (S7 q2 m2 c2 _ lo hi _ hw2.out hm2 oM oM).mono ?_);rintro e1 w2 ⟨k4,rfl,⟨hka2,hkb2⟩,hMc2⟩;have hN2:=aa (hN1.trans hMc2);clear hMc2) | fail);clear e hfr hbl;obtain⟨b2,off2,hp2,-,-,hbl,hfr,hci,hcs⟩:=(h.mutF hN2.out).at hlt
    cases hp2
    obtain⟨q3,m3,c3,e,hm3,hw3⟩:=hcs 3 8 (by simp);clear hci hcs;try simp only [aq,aZ] at e
    replace hw3:=aa hw3;go_wp2_with (first | (go_at_call 211;(with_reducible refine (S8 q3 m3 c3 _ lo hi _ hw3.out hm3 oM oM).mono ?_);rintro e1 w3 ⟨k5,rfl,⟨hka3,hkb3⟩,hMc3⟩;have hN3:=aa (hN2.trans hMc3);clear hMc3) | fail);have pA:=hN3;exact Df
  . exact mf
theorem Tp (p:OA)(n c:Nat)(k:Int)(lo hi:Nat)(w:World)(h:Wn lo hi 4 JD 1048576 w p n)(hn:n<=1048576)(hk0:0<=k)(hk1:k<=100000000000000000) :
 Calls prog 84 #[sl p n c,k] w (gU lo hi ((n:Int)*1048579) w k):=by
 go_enter func84,ntmps84;go_wp2_with (fail);go_loopw [1,5] (λ t i wr=>∃ (j:Nat) (k1:Int),j<=n/\i=.int .i64 j/\t=.int .i64 k1/\(k<=k1/\k1<=k+(j:Int)*1048579)/\Hid (MutF lo hi w wr)) (λ _ i _=>n - (intOf i).toNat)
 case atStart=>exact⟨0,k,oM,rfl,rfl,⟨oM,oM⟩,ma _ _ _⟩
 case round =>
  obtain⟨j,k1,hj,rfl,rfl,⟨hka,hkb⟩,hM⟩:=hrel;by_cases hlt:j<n
  . have hltI:(j:Int)<(n:Int):=oM;obtain⟨b,off,rfl,hlo,hbh,-,-,-,-⟩:=(h.mutF hM.out).at hlt;obtain⟨b2,off2,hp2,-,-,hbl,hfr,hci,hcs⟩:=(h.mutF hM.out).at hlt
    cases hp2
    obtain⟨v,e,en⟩:=hci 0 oM (by simp);clear hci hcs;try simp only [aq,aZ] at e
    go_upto_region 6 with (fail);have hN0:=aa (hM.setCell (v:=.int .i64 (k1)) hlo hbh e en rfl);generalize World.setCell _ _ _=V0 at hN0 ⊢;clear e en hfr hbl v;obtain⟨b2,off2,hp2,-,-,hbl,hfr,hci,hcs⟩:=(h.mutF hN0.out).at hlt
    cases hp2
    obtain⟨q1,m1,c1,e,hm1,hw1⟩:=hcs 1 1 (by simp);clear hci hcs;try simp only [aq,aZ] at e
    replace hw1:=aa hw1;go_upto_region 7 with (first | (go_at_call 145;(with_reducible refine (Tc q1 m1 c1 _ lo hi _ hw1.out hm1 oM oM).mono ?_);rintro e1 w1 ⟨k3,rfl,⟨hka1,hkb1⟩,hMc1⟩;have hN1:=aa (hN0.trans hMc1);clear hMc1) | fail);clear e hfr hbl;obtain⟨b2,off2,hp2,-,-,hbl,hfr,hci,hcs⟩:=(h.mutF hN1.out).at hlt
    cases hp2
    obtain⟨v,e,en⟩:=hci 2 oM (by simp);clear hci hcs;try simp only [aq,aZ] at e
    go_upto_region 9 with (fail);have hN2:=aa (hN1.setCell (v:=.int .i64 (k3)) hlo hbh e en rfl);generalize World.setCell _ _ _=V2 at hN2 ⊢;clear e en hfr hbl v;obtain⟨b2,off2,hp2,-,-,hbl,hfr,hci,hcs⟩:=(h.mutF hN2.out).at hlt
    cases hp2
    obtain⟨v,e,en⟩:=hci 3 oM (by simp);clear hci hcs;try simp only [aq,aZ] at e
    go_wp2_with (fail);go_roundw
    case rel=>exact⟨j+1,_,oM,gN,rfl,⟨oM,oM⟩,aa (hN2.setCell hlo hbh e en rfl)⟩
    case measure=>exact mS
  . exact mf
theorem Ib (p:OA)(n c:Nat)(k:Int)(lo hi:Nat)(w:World)(h:Wn lo hi 1 JE 1048576 w p n)(hn:n<=1048576)(hk0:0<=k)(hk1:k<=100000000000000000) :
 Calls prog 81 #[sl p n c,k] w (gU lo hi ((n:Int)*22020096) w k):=by
 go_enter func81,ntmps81;go_wp2_with (fail);go_loopw [1,5] (λ t i wr=>∃ (j:Nat) (k1:Int),j<=n/\i=.int .i64 j/\t=.int .i64 k1/\(k<=k1/\k1<=k+(j:Int)*22020096)/\Hid (MutF lo hi w wr)) (λ _ i _=>n - (intOf i).toNat)
 case atStart=>exact⟨0,k,oM,rfl,rfl,⟨oM,oM⟩,ma _ _ _⟩
 case round =>
  obtain⟨j,k1,hj,rfl,rfl,⟨hka,hkb⟩,hM⟩:=hrel;by_cases hlt:j<n
  . have hltI:(j:Int)<(n:Int):=oM;obtain⟨b,off,rfl,hlo,hbh,-,-,-,-⟩:=(h.mutF hM.out).at hlt;obtain⟨b2,off2,hp2,-,-,hbl,hfr,hci,hcs⟩:=(h.mutF hM.out).at hlt
    cases hp2
    obtain⟨q0,m0,c0,e,hm0,hw0⟩:=hcs 0 21 (by simp);clear hci hcs;try simp only [aq,aZ] at e
    replace hw0:=aa hw0;go_wp2_with (first | (go_at_call 144;(with_reducible refine (Td q0 m0 c0 _ lo hi _ hw0.out hm0 oM oM).mono ?_);rintro e1 w0 ⟨k2,rfl,⟨hka0,hkb0⟩,hMc0⟩;have hN0:=aa (hM.trans hMc0);clear hMc0) | fail);have pA:=hN0;exact Df
  . exact mf
theorem Tq (p:OA)(n c:Nat)(k:Int)(lo hi:Nat)(w:World)(h:Wn lo hi 4 JC 1048576 w p n)(hhi:hi<=w.heap.size)(hn:n<=1048576)(hk0:0<=k)(hk1:k<=10000000000000000) :
 Calls prog 80 #[.agg #[sl p n c],k] w (gU lo hi ((n:Int)*17825793) w k):=by
 go_enter func80,ntmps80;exact zO
theorem Tr (p:OA)(n c:Nat)(k:Int)(lo hi:Nat)(w:World)(h:Wf lo hi 5 w p n)(hhi:hi<=w.heap.size)(hn:n<=1048576)(hk0:0<=k)(hk1:k<=10000000000000000) :
 Calls prog 33 #[.agg #[sl p n c],k] w (gU lo hi ((n:Int)*5) w k):=by
 go_enter func33,ntmps33;exact zO
theorem Ts (nets:Int)(p q:OA)(n c m d:Nat)(k:Int)(lo hi:Nat)(w:World)(h:Wn lo hi 4 JD 1048576 w p n)(h2:Wf lo hi 2 w q m)(hhi:hi<=w.heap.size)(hn:n<=1048576)(hm:m<=1048576)(hk0:0<=k)(hk1:k<=10000000000000000) :
 Calls prog 35 #[.agg #[nets,sl p n c,sl q m d],k] w (gU lo hi ((n:Int)*1048579+(m:Int)*2) w k):=by
 go_enter func35,ntmps35;go_upto_region 1 with (fail);generalize hW:World.alloc _ _=W0;obtain⟨E0,z0,b0⟩:=al hW;clear hW z0;replace b0:=aa (show Blk W0 w [nets,sl p n c,sl q m d] _ from b0);have⟨g0,l0⟩:=b0.gl;have hM:=aa (kW (lo:=lo) (hi:=hi) E0);have h1:=aa (h.mutF hM.out);have hh2:=aa (h2.mutF hM.out);go_wp2_with (first | (go_at_call 84;(with_reducible refine (Tp p n c _ lo hi _ h1.out hn oM oM).mono ?_);rintro e w1 ⟨k1,rfl,⟨ka,kb⟩,M1⟩;clear g0 l0;have b1:=M1.blk b0.out (aB hhi);have⟨g1,l1⟩:=b1.gl;have hM1:=aa (hM.trans M1);have hh3:=aa (hh2.mutF M1);clear M1) | (go_at_call 85;(with_reducible refine (Tb q m d _ lo hi _ hh3.out hm oM oM).mono ?_);rintro e w2 ⟨k2,rfl,⟨kc,kd⟩,M2⟩) | fail);go_ret;exact⟨_,rfl,⟨oM,oM⟩,hM1.trans M2⟩
theorem Tt (p1 p2 p3:OA)(n1 c1 n2 c2 n3 c3:Nat)(k:Int)(lo hi:Nat)(w:World)(h1:Wn lo hi 4 JC 1048576 w p1 n1)(h2:Wn lo hi 1 JE 1048576 w p2 n2)(h3:Wn lo hi 1 JE 1048576 w p3 n3)(hhi:hi<=w.heap.size)(m1:n1<=1048576)(m2:n2<=1048576)(m3:n3<=1048576)(hk0:0<=k)(hk1:k<=1000000000000000) :
 Calls prog 32 #[.agg #[sl p1 n1 c1,sl p2 n2 c2,sl p3 n3 c3],k] w (gU lo hi 100000000000000 w k):=by
 go_enter func32,ntmps32;go_upto_region 1 with (fail);generalize hW:World.alloc _ _=W0;obtain⟨E0,z0,b0⟩:=al hW;clear hW;replace b0:=aa (show Blk W0 w [sl p1 n1 c1,sl p2 n2 c2,sl p3 n3 c3] _ from b0);have⟨g0,l0⟩:=b0.gl;have hM:=aa (kW (lo:=lo) (hi:=hi) E0);have x1:=aa (h1.mutF hM.out);have x2:=aa (h2.mutF hM.out);have x3:=aa (h3.mutF hM.out);have hh0:hi<=W0.heap.size:=by have:=E0.le;omega
 clear z0;go_wp2_with (first | (go_at_call 80;(with_reducible refine (Tq p1 n1 c1 _ lo hi _ x1.out hh0 m1 oM oM).mono ?_);rintro e w1 ⟨k1,rfl,⟨ka,kb⟩,M1⟩;clear g0 l0;have b1:=aa (M1.blk b0.out (aB hhi));have⟨g1,l1⟩:=b1.gl;have hM1:=aa (hM.trans M1);have y2:=aa (x2.mutF M1);have y3:=aa (x3.mutF M1);clear M1) | (go_at_call 81;(with_reducible refine (Ib p2 n2 c2 _ lo hi _ y2.out m2 oM oM).mono ?_);rintro e w2 ⟨k2,rfl,⟨kc,kd⟩,M2⟩;clear g1 l1;have b2:=aa (M2.blk b1.out (aB hhi));have⟨g2,l2⟩:=b2.gl;have hM2:=aa (hM1.trans M2);have z3:=aa (y3.mutF M2);clear M2) | (go_at_call 81;(with_reducible refine (Ib p3 n3 c3 _ lo hi _ z3.out m3 oM oM).mono ?_);rintro e w3 ⟨k3,rfl,⟨ke,kf⟩,M3⟩) | fail);go_ret;exact⟨_,rfl,⟨oM,oM⟩,hM2.trans M3⟩
theorem Tu (nets:Int)(p1 p2 p3 p4 p5 p6 p7:OA)(n1 c1 n2 c2 n3 c3 n4 c4 n5 c5 n6 c6 n7 c7:Nat)(k:Int)(lo hi:Nat)(w:World)(h1:Wn lo hi 4 JC 1048576 w p1 n1)(h2:Wn lo hi 1 JE 1048576 w p2 n2)(h3:Wn lo hi 1 JE 1048576 w p3 n3)(h4:Wf lo hi 5 w p4 n4)(h5:Wf lo hi 2 w p5 n5)(h6:Wn lo hi 4 JD 1048576 w p6 n6)(h7:Wf lo hi 2 w p7 n7)(hhi:hi<=w.heap.size)(m1:n1<=1048576)(m2:n2<=1048576)(m3:n3<=1048576)(m4:n4<=1048576)(m5:n5<=1048576)(m6:n6<=1048576)(m7:n7<=1048576)(hk0:0<=k)(hk1:k<=100000000000000) :
 Calls prog 10 #[.agg #[sl p1 n1 c1,sl p2 n2 c2,sl p3 n3 c3,sl p4 n4 c4,sl p5 n5 c5,nets,sl p6 n6 c6,sl p7 n7 c7],k] w (gU lo hi 1000000000000000 w k):=by
 go_enter func10,ntmps10;go_upto_region 1 with (fail);generalize hW:World.alloc _ _=W0;obtain⟨E0,z0,b0⟩:=al hW;clear hW;replace b0:=aa (show Blk W0 w [sl p1 n1 c1,sl p2 n2 c2,sl p3 n3 c3,sl p4 n4 c4,sl p5 n5 c5,nets,sl p6 n6 c6,sl p7 n7 c7] _ from b0);have⟨g0,l0⟩:=b0.gl;have hM:=aa (kW (lo:=lo) (hi:=hi) E0);have x1:=aa (h1.mutF hM.out);have x2:=aa (h2.mutF hM.out);have x3:=aa (h3.mutF hM.out);have x4:=aa (h4.mutF hM.out);have x5:=aa (h5.mutF hM.out);have x6:=aa (h6.mutF hM.out);have x7:=aa (h7.mutF hM.out);have hh0:hi<=W0.heap.size:=by have:=E0.le;omega
 clear z0;go_wp2_with (first | (go_at_call 32;(with_reducible refine (Tt p1 p2 p3 n1 c1 n2 c2 n3 c3 _ lo hi _ x1.out x2.out x3.out hh0 m1 m2 m3 oM oM).mono ?_);rintro e w1 ⟨k1,rfl,⟨ka,kb⟩,M1⟩;clear g0 l0;have b1:=aa (M1.blk b0.out (aB hhi));have⟨g1,l1⟩:=b1.gl;have hM1:=aa (hM.trans M1);have y4:=aa (x4.mutF M1);have y5:=aa (x5.mutF M1);have y6:=aa (x6.mutF M1);have y7:=aa (x7.mutF M1);have hh1:=aS hh0 M1.le;clear M1) | (go_at_call 33;(with_reducible refine (Tr p4 n4 c4 _ lo hi _ y4.out hh1 m4 oM oM).mono ?_);rintro e w2 ⟨k2,rfl,⟨kc,kd⟩,M2⟩;clear g1 l1;have b2:=aa (M2.blk b1.out (aB hhi));have⟨g2,l2⟩:=b2.gl;have hM2:=aa (hM1.trans M2);have z5:=aa (y5.mutF M2);have z6:=aa (y6.mutF M2);have z7:=aa (y7.mutF M2);have hh2:=aS hh1 M2.le;clear M2) | (go_at_call 34;(with_reducible refine (Ta p5 n5 c5 _ lo hi _ z5.out m5 oM oM).mono ?_);rintro e w3 ⟨k3,rfl,⟨ke,kf⟩,M3⟩;clear g2 l2;have b3:=aa (M3.blk b2.out (aB hhi));have⟨g3,l3⟩:=b3.gl;have hM3:=aa (hM2.trans M3);have u6:=aa (z6.mutF M3);have u7:=aa (z7.mutF M3);have hh3:=aS hh2 M3.le;clear M3) | (go_at_call 35;(with_reducible refine (Ts nets p6 p7 n6 c6 n7 c7 _ lo hi _ u6.out u7.out hh3 m6 m7 oM oM).mono ?_);rintro e w4 ⟨k4,rfl,⟨kg,kh⟩,M4⟩) | fail);go_ret;exact⟨_,rfl,⟨oM,oM⟩,hM3.trans M4⟩
end Go.Proofs.YtnlajnpcdnnpmaaGreat
