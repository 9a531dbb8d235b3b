/- Part of a proof. No condition. -/
import Derived.Test.YtnlajnpcdnnpmaaGreatA48
namespace Go.Proofs.YtnlajnpcdnnpmaaGreat
set_option linter.all false
set_option maxRecDepth 100000
set_option maxHeartbeats 16000000
open Go.Proofs.Tryz Go.RowKit Go.PlainAid
def gU (lo hi:Nat) (C:Int) (w:World) (k:Int) (e:Ending) (w':World):Prop:=∃ k':Int,e=.returned k'/\(k<=k'/\k'<=k+C)/\MutF lo hi w w'
theorem S5 (d:Nat)(hd:d<=9)(w:World):(convert 203 9 (sm w 0 1 1)).run prog (w.alloc (.cells #[.int .u8 (48+(d:Int))] 5))=.ok (.string ⟨#[UInt8.ofNat (48+d)]⟩) (w.alloc (.cells #[.int .u8 (48+(d:Int))] 5)):=by
 exact
 run_convert_bytes_back _ 203 9 5 (ad w 0) 1 [UInt8.ofNat (48+d)] underlying203 underlying5 underlying9 (λ j hj=>by
  have h0:j=0:=by simpa using hj
  subst h0;have:=(aD w [.int .u8 (48+(d:Int))] 5).cells 0;have e2:((UInt8.ofNat (48+d)).toNat:Int)=48+(d:Int):=by rw [UInt8.toNat_ofNat_of_lt' (by show 48+d<256;omega)];omega
  show _=some (Value.int .u8 ((UInt8.ofNat (48+d)).toNat:Int));rw [e2];exact this)
theorem qD (k:Int)(w:World)(h0:0<=k)(h1:k<=9000000000000000000) :
 Calls prog 83 #[k] w λ e w'=>∃ s:ByteArray,e=.returned (.string s)/\Ext w w':=by
 by_cases hk:k<=0
 . go_enter func83,ntmps83;go_wp2_with (fail);go_ret
   first
    | exact⟨_,rfl,ab _⟩
    | exact⟨⟨_,rfl⟩,ab _⟩
 . go_enter func83,ntmps83;go_wp2_with (fail);go_loopw [0,3] (λ i v wr=>∃ (K:Nat) (s:ByteArray),i=.int .i64 (K:Int)/\v=.string s/\s.size+K<=9000000000000000000/\Hid (Ext w wr)) (λ i _ _=>(intOf i).toNat)
   case atStart=>exact⟨k.toNat,_,by rw [ju h0],rfl,by show 0+k.toNat<=_;omega,ab _⟩
   case round =>
    clear hk h0 h1;obtain⟨K,s,rfl,rfl,hK,hE⟩:=hrel;by_cases hKp:0<K
    . have hKI:0<(K:Int):=oM;have hd:K % 10<=9:=oM;have hc:=S5 (K % 10) hd wr;rw [show ((K % 10:Nat):Int)=(K:Int) % 10 by omega] at hc;have hm:((K:Int)).tmod 10=((K % 10:Nat):Int):=by rw [Int.tmod_eq_emod_of_nonneg oM];omega
      have hsz:s.size<=9000000000000000000:=oM;have hq:((K:Int)).tdiv 10=((K / 10:Nat):Int):=by rw [Int.tdiv_eq_ediv_of_nonneg oM];omega
      go_wp2_with (fail);go_roundw
      case rel=>exact⟨K / 10,_,gN,rfl,by rw [ByteArray.size_append];show 1+s.size+K / 10<=_;omega,aa (hE.alloc _)⟩
      case measure=>exact mS
    . have hKI:¬ 0<(K:Int):=oM;have hsz:s.size<=9000000000000000000:=oM;go_wp2_with (fail);go_ret
      first
       | exact⟨_,rfl,hE.out⟩
       | exact⟨⟨_,rfl⟩,hE.out⟩
theorem S6 (p:OA)(n c:Nat)(k:Int)(lo hi:Nat)(w:World)(h:Wf lo hi 5 w p n)(hn:n<=1048576)(hk0:0<=k)(hk1:k<=1000000000000000000) :
 Calls prog 209 #[sl p n c,k] w (gU lo hi ((n:Int)*5) w k):=by
 go_enter func209,ntmps209;exact BZ
theorem S7 (p:OA)(n c:Nat)(k:Int)(lo hi:Nat)(w:World)(h:Wf lo hi 4 w p n)(hn:n<=1048576)(hk0:0<=k)(hk1:k<=1000000000000000000) :
 Calls prog 210 #[sl p n c,k] w (gU lo hi ((n:Int)*4) w k):=by
 go_enter func210,ntmps210;go_wp2_with (fail);go_loopw [1,5] (λ t i wr=>∃ (j:Nat),j<=n/\i=.int .i64 j/\t=.int .i64 (k+(j:Int)*4)/\Hid (MutF lo hi w wr)) (λ _ i _=>n - (intOf i).toNat)
 case atStart=>exact⟨0,oM,rfl,by simp,ma _ _ _⟩
 case round =>
  obtain⟨j,hj,rfl,rfl,hM⟩:=hrel;by_cases hlt:j<n
  . have hltI:(j:Int)<(n:Int):=oM;obtain⟨b,off,rfl,hlo,hbh,-,-,-⟩:=(h.mutF hM.out).at hlt;obtain⟨K,hK⟩:∃ K:Int,K=k+(j:Int)*4:=⟨_,rfl⟩;have hKb:0<=K/\K<=2000000000000000000:=oM;obtain⟨hKb0,hKb1⟩:=hKb;rw [<-hK];replace hK:=aa hK;obtain⟨b2,off2,hp2,-,-,hbl,hfr,hcl⟩:=(h.mutF hM.out).at hlt
    cases hp2
    obtain⟨v,e,en⟩:=hcl 0 oM;clear hcl;try simp only [aq,aZ] at e
    go_upto_region 6 with (fail);have hM1:=aa (hM.setCell (v:=.int .i64 (K)) hlo hbh e en rfl);generalize World.setCell _ _ _=W1 at hM1 ⊢;clear e en hfr hbl v;obtain⟨b2,off2,hp2,-,-,hbl,hfr,hcl⟩:=(h.mutF hM1.out).at hlt
    cases hp2
    obtain⟨v,e,en⟩:=hcl 1 oM;clear hcl;try simp only [aq,aZ] at e
    go_upto_region 8 with (fail);have hM2:=aa (hM1.setCell (v:=.int .i64 (K+1)) hlo hbh e en rfl);generalize World.setCell _ _ _=W2 at hM2 ⊢;clear e en hfr hbl v;obtain⟨b2,off2,hp2,-,-,hbl,hfr,hcl⟩:=(h.mutF hM2.out).at hlt
    cases hp2
    obtain⟨v,e,en⟩:=hcl 2 oM;clear hcl;try simp only [aq,aZ] at e
    go_upto_region 10 with (fail);have hM3:=aa (hM2.setCell (v:=.int .i64 (K+1+1)) hlo hbh e en rfl);generalize World.setCell _ _ _=W3 at hM3 ⊢;clear e en hfr hbl v;go_wp2_with (first | (go_at_call 83;(with_reducible refine (qD _ _ oM oM).mono ?_);rintro e1 w1 ⟨s3,rfl,E1⟩;have hMb3:=aa (hM3.trans (kW E1));clear E1;obtain⟨b2,off2,hp2,-,-,hbl,hfr,hcl⟩:=(h.mutF hMb3.out).at hlt;cases hp2;obtain⟨v,e,en⟩:=hcl 3 oM;clear hcl;try simp only [aq,aZ] at e) | fail);have pA:=hMb3;exact CK
  . exact mf
theorem S8 (p:OA)(n c:Nat)(k:Int)(lo hi:Nat)(w:World)(h:Wf lo hi 8 w p n)(hn:n<=1048576)(hk0:0<=k)(hk1:k<=1000000000000000000) :
 Calls prog 211 #[sl p n c,k] w (gU lo hi ((n:Int)*8) w k):=by
 go_enter func211,ntmps211;go_wp2_with (fail);go_loopw [1,5] (λ t i wr=>∃ (j:Nat),j<=n/\i=.int .i64 j/\t=.int .i64 (k+(j:Int)*8)/\Hid (MutF lo hi w wr)) (λ _ i _=>n - (intOf i).toNat)
 case atStart=>exact⟨0,oM,rfl,by simp,ma _ _ _⟩
 case round =>
  obtain⟨j,hj,rfl,rfl,hM⟩:=hrel;by_cases hlt:j<n
  . have hltI:(j:Int)<(n:Int):=oM;obtain⟨b,off,rfl,hlo,hbh,-,-,-⟩:=(h.mutF hM.out).at hlt;obtain⟨K,hK⟩:∃ K:Int,K=k+(j:Int)*8:=⟨_,rfl⟩;have hKb:0<=K/\K<=2000000000000000000:=oM;obtain⟨hKb0,hKb1⟩:=hKb;rw [<-hK];replace hK:=aa hK;obtain⟨b2,off2,hp2,-,-,hbl,hfr,hcl⟩:=(h.mutF hM.out).at hlt
    cases hp2
    obtain⟨v,e,en⟩:=hcl 0 oM;clear hcl;try simp only [aq,aZ] at e
    go_upto_region 6 with (fail);have hM1:=aa (hM.setCell (v:=.int .i64 (K)) hlo hbh e en rfl);generalize World.setCell _ _ _=W1 at hM1 ⊢;clear e en hfr hbl v;obtain⟨b2,off2,hp2,-,-,hbl,hfr,hcl⟩:=(h.mutF hM1.out).at hlt
    cases hp2
    obtain⟨v,e,en⟩:=hcl 1 oM;clear hcl;try simp only [aq,aZ] at e
    go_upto_region 8 with (fail);have hM2:=aa (hM1.setCell (v:=.int .i64 (K+1)) hlo hbh e en rfl);generalize World.setCell _ _ _=W2 at hM2 ⊢;clear e en hfr hbl v;obtain⟨b2,off2,hp2,-,-,hbl,hfr,hcl⟩:=(h.mutF hM2.out).at hlt
    cases hp2
    obtain⟨v,e,en⟩:=hcl 2 oM;clear hcl;try simp only [aq,aZ] at e
    go_upto_region 10 with (fail);have hM3:=aa (hM2.setCell (v:=.int .i64 (K+1+1)) hlo hbh e en rfl);generalize World.setCell _ _ _=W3 at hM3 ⊢;clear e en hfr hbl v;obtain⟨b2,off2,hp2,-,-,hbl,hfr,hcl⟩:=(h.mutF hM3.out).at hlt
    cases hp2
    obtain⟨v,e,en⟩:=hcl 3 oM;clear hcl;try simp only [aq,aZ] at e
    go_upto_region 12 with (fail);have hM4:=aa (hM3.setCell (v:=.int .i64 (K+1+1+1)) hlo hbh e en rfl);generalize World.setCell _ _ _=W4 at hM4 ⊢;clear e en hfr hbl v;obtain⟨b2,off2,hp2,-,-,hbl,hfr,hcl⟩:=(h.mutF hM4.out).at hlt
    cases hp2
    obtain⟨v,e,en⟩:=hcl 4 oM;clear hcl;try simp only [aq,aZ] at e
    go_upto_region 14 with (fail);have hM5:=aa (hM4.setCell (v:=.int .i64 (K+1+1+1+1)) hlo hbh e en rfl);generalize World.setCell _ _ _=W5 at hM5 ⊢;clear e en hfr hbl v;obtain⟨b2,off2,hp2,-,-,hbl,hfr,hcl⟩:=(h.mutF hM5.out).at hlt
    cases hp2
    obtain⟨v,e,en⟩:=hcl 5 oM;clear hcl;try simp only [aq,aZ] at e
    go_upto_region 16 with (fail);have hM6:=aa (hM5.setCell (v:=.int .i64 (K+1+1+1+1+1)) hlo hbh e en rfl);generalize World.setCell _ _ _=W6 at hM6 ⊢;clear e en hfr hbl v;obtain⟨b2,off2,hp2,-,-,hbl,hfr,hcl⟩:=(h.mutF hM6.out).at hlt
    cases hp2
    obtain⟨v,e,en⟩:=hcl 6 oM;clear hcl;try simp only [aq,aZ] at e
    go_upto_region 18 with (fail);have hM7:=aa (hM6.setCell (v:=.int .i64 (K+1+1+1+1+1+1)) hlo hbh e en rfl);generalize World.setCell _ _ _=W7 at hM7 ⊢;clear e en hfr hbl v;obtain⟨b2,off2,hp2,-,-,hbl,hfr,hcl⟩:=(h.mutF hM7.out).at hlt
    cases hp2
    obtain⟨v,e,en⟩:=hcl 7 oM;have pA:=hM7;exact qW
  . exact mf
theorem S9 (p:OA)(n c:Nat)(k:Int)(lo hi:Nat)(w:World)(h:Wf lo hi 5 w p n)(hn:n<=1048576)(hk0:0<=k)(hk1:k<=1000000000000000000) :
 Calls prog 82 #[sl p n c,k] w (gU lo hi ((n:Int)*5) w k):=by
 go_enter func82,ntmps82;exact BZ
theorem Ta (p:OA)(n c:Nat)(k:Int)(lo hi:Nat)(w:World)(h:Wf lo hi 2 w p n)(hn:n<=1048576)(hk0:0<=k)(hk1:k<=1000000000000000000) :
 Calls prog 34 #[sl p n c,k] w (gU lo hi ((n:Int)*2) w k):=by
 go_enter func34,ntmps34;go_wp2_with (fail);go_loopw [1,5] (λ t i wr=>∃ (j:Nat),j<=n/\i=.int .i64 j/\t=.int .i64 (k+(j:Int)*2)/\Hid (MutF lo hi w wr)) (λ _ i _=>n - (intOf i).toNat)
 case atStart=>exact⟨0,oM,rfl,by simp,ma _ _ _⟩
 case round =>
  obtain⟨j,hj,rfl,rfl,hM⟩:=hrel;by_cases hlt:j<n
  . have hltI:(j:Int)<(n:Int):=oM;obtain⟨b,off,rfl,hlo,hbh,-,-,-⟩:=(h.mutF hM.out).at hlt;obtain⟨K,hK⟩:∃ K:Int,K=k+(j:Int)*2:=⟨_,rfl⟩;have hKb:0<=K/\K<=2000000000000000000:=oM;obtain⟨hKb0,hKb1⟩:=hKb;rw [<-hK];replace hK:=aa hK;obtain⟨b2,off2,hp2,-,-,hbl,hfr,hcl⟩:=(h.mutF hM.out).at hlt
    cases hp2
    obtain⟨v,e,en⟩:=hcl 0 oM;clear hcl;try simp only [aq,aZ] at e
    go_upto_region 6 with (fail);have hM1:=aa (hM.setCell (v:=.int .i64 (K)) hlo hbh e en rfl);generalize World.setCell _ _ _=W1 at hM1 ⊢;clear e en hfr hbl v;go_wp2_with (first | (go_at_call 83;(with_reducible refine (qD _ _ oM oM).mono ?_);rintro e1 w1 ⟨s1,rfl,E1⟩;have hMb1:=aa (hM1.trans (kW E1));clear E1;obtain⟨b2,off2,hp2,-,-,hbl,hfr,hcl⟩:=(h.mutF hMb1.out).at hlt;cases hp2;obtain⟨v,e,en⟩:=hcl 1 oM;clear hcl;try simp only [aq,aZ] at e) | fail);have pA:=hMb1;exact CK
  . exact mf
theorem Tb (p:OA)(n c:Nat)(k:Int)(lo hi:Nat)(w:World)(h:Wf lo hi 2 w p n)(hn:n<=1048576)(hk0:0<=k)(hk1:k<=1000000000000000000) :
 Calls prog 85 #[sl p n c,k] w (gU lo hi ((n:Int)*2) w k):=by
 go_enter func85,ntmps85;go_wp2_with (fail);go_loopw [1,5] (λ t i wr=>∃ (j:Nat),j<=n/\i=.int .i64 j/\t=.int .i64 (k+(j:Int)*2)/\Hid (MutF lo hi w wr)) (λ _ i _=>n - (intOf i).toNat)
 case atStart=>exact⟨0,oM,rfl,by simp,ma _ _ _⟩
 case round =>
  obtain⟨j,hj,rfl,rfl,hM⟩:=hrel;by_cases hlt:j<n
  . have hltI:(j:Int)<(n:Int):=oM;obtain⟨b,off,rfl,hlo,hbh,-,-,-⟩:=(h.mutF hM.out).at hlt;obtain⟨K,hK⟩:∃ K:Int,K=k+(j:Int)*2:=⟨_,rfl⟩;have hKb:0<=K/\K<=2000000000000000000:=oM;obtain⟨hKb0,hKb1⟩:=hKb;rw [<-hK];replace hK:=aa hK;go_upto_region 6 with (first | (go_at_call 83;(with_reducible refine (qD _ _ oM oM).mono ?_);rintro e1 w1 ⟨s0,rfl,E1⟩;have hMb0:=aa (hM.trans (kW E1));clear E1;obtain⟨b2,off2,hp2,-,-,hbl,hfr,hcl⟩:=(h.mutF hMb0.out).at hlt;cases hp2;obtain⟨v,e,en⟩:=hcl 0 oM;clear hcl;try simp only [aq,aZ] at e) | fail);have hM1:=aa (hMb0.setCell (v:=.string s0) hlo hbh e en rfl);generalize World.setCell _ _ _=W1 at hM1 ⊢;clear e en hfr hbl v;obtain⟨b2,off2,hp2,-,-,hbl,hfr,hcl⟩:=(h.mutF hM1.out).at hlt
    cases hp2
    obtain⟨v,e,en⟩:=hcl 1 oM;have pA:=hM1;exact qW
  . exact mf
theorem Tc (p:OA)(n c:Nat)(k:Int)(lo hi:Nat)(w:World)(h:Wf lo hi 1 w p n)(hn:n<=1048576)(hk0:0<=k)(hk1:k<=1000000000000000000) :
 Calls prog 145 #[sl p n c,k] w (gU lo hi ((n:Int)*1) w k):=by
 go_enter func145,ntmps145;go_wp2_with (fail);go_loopw [1,5] (λ t i wr=>∃ (j:Nat),j<=n/\i=.int .i64 j/\t=.int .i64 (k+(j:Int)*1)/\Hid (MutF lo hi w wr)) (λ _ i _=>n - (intOf i).toNat)
 case atStart=>exact⟨0,oM,rfl,by simp,ma _ _ _⟩
 case round =>
  obtain⟨j,hj,rfl,rfl,hM⟩:=hrel;by_cases hlt:j<n
  . have hltI:(j:Int)<(n:Int):=oM;obtain⟨b,off,rfl,hlo,hbh,-,-,-⟩:=(h.mutF hM.out).at hlt;obtain⟨K,hK⟩:∃ K:Int,K=k+(j:Int)*1:=⟨_,rfl⟩;have hKb:0<=K/\K<=2000000000000000000:=oM;obtain⟨hKb0,hKb1⟩:=hKb;rw [<-hK];replace hK:=aa hK;obtain⟨b2,off2,hp2,-,-,hbl,hfr,hcl⟩:=(h.mutF hM.out).at hlt
    cases hp2
    obtain⟨v,e,en⟩:=hcl 0 oM;have pA:=hM;exact qW
  . exact mf
theorem Td (p:OA)(n c:Nat)(k:Int)(lo hi:Nat)(w:World)(h:Wf lo hi 21 w p n)(hn:n<=1048576)(hk0:0<=k)(hk1:k<=1000000000000000000) :
 Calls prog 144 #[sl p n c,k] w (gU lo hi ((n:Int)*21) w k):=by
 go_enter func144,ntmps144;go_wp2_with (fail);go_loopw [1,5] (λ t i wr=>∃ (j:Nat),j<=n/\i=.int .i64 j/\t=.int .i64 (k+(j:Int)*21)/\Hid (MutF lo hi w wr)) (λ _ i _=>n - (intOf i).toNat)
 case atStart=>exact⟨0,oM,rfl,by simp,ma _ _ _⟩
 case round =>
  obtain⟨j,hj,rfl,rfl,hM⟩:=hrel;by_cases hlt:j<n
  . have hltI:(j:Int)<(n:Int):=oM;obtain⟨b,off,rfl,hlo,hbh,-,-,-⟩:=(h.mutF hM.out).at hlt;obtain⟨K,hK⟩:∃ K:Int,K=k+(j:Int)*21:=⟨_,rfl⟩;have hKb:0<=K/\K<=2000000000000000000:=oM;obtain⟨hKb0,hKb1⟩:=hKb;rw [<-hK];replace hK:=aa hK;obtain⟨b2,off2,hp2,-,-,hbl,hfr,hcl⟩:=(h.mutF hM.out).at hlt
    cases hp2
    obtain⟨v,e,en⟩:=hcl 0 oM;clear hcl;try simp only [aq,aZ] at e
    go_upto_region 6 with (fail);have hM1:=aa (hM.setCell (v:=.int .i64 (K)) hlo hbh e en rfl);generalize World.setCell _ _ _=W1 at hM1 ⊢;clear e en hfr hbl v;obtain⟨b2,off2,hp2,-,-,hbl,hfr,hcl⟩:=(h.mutF hM1.out).at hlt
    cases hp2
    obtain⟨v,e,en⟩:=hcl 1 oM;clear hcl;try simp only [aq,aZ] at e
    go_upto_region 8 with (fail);have hM2:=aa (hM1.setCell (v:=.int .i64 (K+1)) hlo hbh e en rfl);generalize World.setCell _ _ _=W2 at hM2 ⊢;clear e en hfr hbl v;obtain⟨b2,off2,hp2,-,-,hbl,hfr,hcl⟩:=(h.mutF hM2.out).at hlt
    cases hp2
    obtain⟨v,e,en⟩:=hcl 2 oM;clear hcl;try simp only [aq,aZ] at e
    go_upto_region 10 with (fail);have hM3:=aa (hM2.setCell (v:=.int .i64 (K+1+1)) hlo hbh e en rfl);generalize World.setCell _ _ _=W3 at hM3 ⊢;clear e en hfr hbl v;go_upto_region 12 with (first | (go_at_call 83;(with_reducible refine (qD _ _ oM oM).mono ?_);rintro e1 w1 ⟨s3,rfl,E1⟩;have hMb3:=aa (hM3.trans (kW E1));clear E1;obtain⟨b2,off2,hp2,-,-,hbl,hfr,hcl⟩:=(h.mutF hMb3.out).at hlt;cases hp2;obtain⟨v,e,en⟩:=hcl 3 oM;clear hcl;try simp only [aq,aZ] at e) | fail);have hM4:=aa (hMb3.setCell (v:=.string s3) hlo hbh e en rfl);generalize World.setCell _ _ _=W4 at hM4 ⊢;clear e en hfr hbl v;obtain⟨b2,off2,hp2,-,-,hbl,hfr,hcl⟩:=(h.mutF hM4.out).at hlt
    cases hp2
    obtain⟨v,e,en⟩:=hcl 4 oM;clear hcl;try simp only [aq,aZ] at e
    go_upto_region 14 with (fail);have hM5:=aa (hM4.setCell (v:=.int .i64 (K+1+1+1+1)) hlo hbh e en rfl);generalize World.setCell _ _ _=W5 at hM5 ⊢;clear e en hfr hbl v;obtain⟨b2,off2,hp2,-,-,hbl,hfr,hcl⟩:=(h.mutF hM5.out).at hlt
    cases hp2
    obtain⟨v,e,en⟩:=hcl 5 oM;clear hcl;try simp only [aq,aZ] at e
    go_upto_region 16 with (fail);have hM6:=aa (hM5.setCell (v:=.int .i64 (K+1+1+1+1+1)) hlo hbh e en rfl);generalize World.setCell _ _ _=W6 at hM6 ⊢;clear e en hfr hbl v;obtain⟨b2,off2,hp2,-,-,hbl,hfr,hcl⟩:=(h.mutF hM6.out).at hlt
    cases hp2
    obtain⟨v,e,en⟩:=hcl 6 oM;clear hcl;try simp only [aq,aZ] at e
    go_upto_region 18 with (fail);have hM7:=aa (hM6.setCell (v:=.int .i64 (K+1+1+1+1+1+1)) hlo hbh e en rfl);generalize World.setCell _ _ _=W7 at hM7 ⊢;clear e en hfr hbl v;obtain⟨b2,off2,hp2,-,-,hbl,hfr,hcl⟩:=(h.mutF hM7.out).at hlt
    cases hp2
    obtain⟨v,e,en⟩:=hcl 7 oM;clear hcl;try simp only [aq,aZ] at e
    go_upto_region 20 with (fail);have hM8:=aa (hM7.setCell (v:=.int .i64 (K+1+1+1+1+1+1+1)) hlo hbh e en rfl);generalize World.setCell _ _ _=W8 at hM8 ⊢;clear e en hfr hbl v;obtain⟨b2,off2,hp2,-,-,hbl,hfr,hcl⟩:=(h.mutF hM8.out).at hlt
    cases hp2
    obtain⟨v,e,en⟩:=hcl 8 oM;clear hcl;try simp only [aq,aZ] at e
    go_upto_region 22 with (fail);have hM9:=aa (hM8.setCell (v:=.int .i64 (K+1+1+1+1+1+1+1+1)) hlo hbh e en rfl);generalize World.setCell _ _ _=W9 at hM9 ⊢;clear e en hfr hbl v;obtain⟨b2,off2,hp2,-,-,hbl,hfr,hcl⟩:=(h.mutF hM9.out).at hlt
    cases hp2
    obtain⟨v,e,en⟩:=hcl 9 oM;clear hcl;try simp only [aq,aZ] at e
    go_upto_region 24 with (fail);have hM10:=aa (hM9.setCell (v:=.int .i64 (K+1+1+1+1+1+1+1+1+1)) hlo hbh e en rfl);generalize World.setCell _ _ _=W10 at hM10 ⊢;clear e en hfr hbl v;obtain⟨b2,off2,hp2,-,-,hbl,hfr,hcl⟩:=(h.mutF hM10.out).at hlt
    cases hp2
    obtain⟨v,e,en⟩:=hcl 10 oM;clear hcl;try simp only [aq,aZ] at e
    go_upto_region 26 with (fail);have hM11:=aa (hM10.setCell (v:=.int .i64 (K+1+1+1+1+1+1+1+1+1+1)) hlo hbh e en rfl);generalize World.setCell _ _ _=W11 at hM11 ⊢;clear e en hfr hbl v;obtain⟨b2,off2,hp2,-,-,hbl,hfr,hcl⟩:=(h.mutF hM11.out).at hlt
    cases hp2
    obtain⟨v,e,en⟩:=hcl 11 oM;clear hcl;try simp only [aq,aZ] at e
    go_upto_region 28 with (fail);have hM12:=aa (hM11.setCell (v:=.int .i64 (K+1+1+1+1+1+1+1+1+1+1+1)) hlo hbh e en rfl);generalize World.setCell _ _ _=W12 at hM12 ⊢;clear e en hfr hbl v;go_upto_region 30 with (first | (go_at_call 83;(with_reducible refine (qD _ _ oM oM).mono ?_);rintro e1 w1 ⟨s12,rfl,E1⟩;have hMb12:=aa (hM12.trans (kW E1));clear E1;obtain⟨b2,off2,hp2,-,-,hbl,hfr,hcl⟩:=(h.mutF hMb12.out).at hlt;cases hp2;obtain⟨v,e,en⟩:=hcl 12 oM;clear hcl;try simp only [aq,aZ] at e) | fail);have hM13:=aa (hMb12.setCell (v:=.string s12) hlo hbh e en rfl);generalize World.setCell _ _ _=W13 at hM13 ⊢;clear e en hfr hbl v;obtain⟨b2,off2,hp2,-,-,hbl,hfr,hcl⟩:=(h.mutF hM13.out).at hlt
    cases hp2
    obtain⟨v,e,en⟩:=hcl 13 oM;clear hcl;try simp only [aq,aZ] at e
    go_upto_region 32 with (fail);have hM14:=aa (hM13.setCell (v:=.int .i64 (K+1+1+1+1+1+1+1+1+1+1+1+1+1)) hlo hbh e en rfl);generalize World.setCell _ _ _=W14 at hM14 ⊢;clear e en hfr hbl v;obtain⟨b2,off2,hp2,-,-,hbl,hfr,hcl⟩:=(h.mutF hM14.out).at hlt
    cases hp2
    obtain⟨v,e,en⟩:=hcl 14 oM;clear hcl;try simp only [aq,aZ] at e
    go_upto_region 34 with (fail);have hM15:=aa (hM14.setCell (v:=.int .i64 (K+1+1+1+1+1+1+1+1+1+1+1+1+1+1)) hlo hbh e en rfl);generalize World.setCell _ _ _=W15 at hM15 ⊢;clear e en hfr hbl v;obtain⟨b2,off2,hp2,-,-,hbl,hfr,hcl⟩:=(h.mutF hM15.out).at hlt
    cases hp2
    obtain⟨v,e,en⟩:=hcl 15 oM;clear hcl;try simp only [aq,aZ] at e
    go_upto_region 36 with (fail);have hM16:=aa (hM15.setCell (v:=.int .i64 (K+1+1+1+1+1+1+1+1+1+1+1+1+1+1+1)) hlo hbh e en rfl);generalize World.setCell _ _ _=W16 at hM16 ⊢;clear e en hfr hbl v;obtain⟨b2,off2,hp2,-,-,hbl,hfr,hcl⟩:=(h.mutF hM16.out).at hlt
    cases hp2
    obtain⟨v,e,en⟩:=hcl 16 oM;clear hcl;try simp only [aq,aZ] at e
    go_upto_region 38 with (fail);have hM17:=aa (hM16.setCell (v:=.int .i64 (K+1+1+1+1+1+1+1+1+1+1+1+1+1+1+1+1)) hlo hbh e en rfl);generalize World.setCell _ _ _=W17 at hM17 ⊢;clear e en hfr hbl v;obtain⟨b2,off2,hp2,-,-,hbl,hfr,hcl⟩:=(h.mutF hM17.out).at hlt
    cases hp2
    obtain⟨v,e,en⟩:=hcl 17 oM;clear hcl;try simp only [aq,aZ] at e
    go_upto_region 40 with (fail);have hM18:=aa (hM17.setCell (v:=.int .i64 (K+1+1+1+1+1+1+1+1+1+1+1+1+1+1+1+1+1)) hlo hbh e en rfl);generalize World.setCell _ _ _=W18 at hM18 ⊢;clear e en hfr hbl v;obtain⟨b2,off2,hp2,-,-,hbl,hfr,hcl⟩:=(h.mutF hM18.out).at hlt
    cases hp2
    obtain⟨v,e,en⟩:=hcl 18 oM;clear hcl;try simp only [aq,aZ] at e
    go_upto_region 42 with (fail);have hM19:=aa (hM18.setCell (v:=.int .i64 (K+1+1+1+1+1+1+1+1+1+1+1+1+1+1+1+1+1+1)) hlo hbh e en rfl);generalize World.setCell _ _ _=W19 at hM19 ⊢;clear e en hfr hbl v;obtain⟨b2,off2,hp2,-,-,hbl,hfr,hcl⟩:=(h.mutF hM19.out).at hlt
    cases hp2
    obtain⟨v,e,en⟩:=hcl 19 oM;clear hcl;try simp only [aq,aZ] at e
    go_upto_region 44 with (fail);have hM20:=aa (hM19.setCell (v:=.int .i64 (K+1+1+1+1+1+1+1+1+1+1+1+1+1+1+1+1+1+1+1)) hlo hbh e en rfl);generalize World.setCell _ _ _=W20 at hM20 ⊢;clear e en hfr hbl v;obtain⟨b2,off2,hp2,-,-,hbl,hfr,hcl⟩:=(h.mutF hM20.out).at hlt
    cases hp2
    obtain⟨v,e,en⟩:=hcl 20 oM;have pA:=hM20;exact qW
  . exact mf
end Go.Proofs.YtnlajnpcdnnpmaaGreat
