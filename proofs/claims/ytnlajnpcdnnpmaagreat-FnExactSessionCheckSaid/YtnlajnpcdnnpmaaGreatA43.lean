/- Part of a proof. No condition. -/
import Derived.Test.YtnlajnpcdnnpmaaGreatA41
import Derived.Test.YtnlajnpcdnnpmaaGreatA42
namespace Go.Proofs.YtnlajnpcdnnpmaaGreat
set_option linter.all false
set_option maxRecDepth 100000
set_option maxHeartbeats 16000000
open Go.Proofs.Tryz Go.RowKit Go.PlainAid
theorem RI (q:OA)(n c base:Nat)(l:List WvD)(p:WvD->Bool)(g:Nat)(lb:Array Value)(eg:∀ args w,(callFunc g args).run prog w=.ok (.enter g args) w)(w:World)
 (h:SlD (Fl cj) 2 base w q n l) (hp:∀ (W:World) (x:WvD) (cs:List Value),Ext w W->x∈l->(Fl cj) base W x cs->Calls prog g (#[.agg cs.toArray]++lb) W λ e w2=>e=.returned (.bool (p x))/\Ext W w2) (hn:n<=1048576) :
 CE 204 #[sl q n c,.func (.func g) #[] lb] w (dc p l:Int):=by
 have hl:=aa h.length;go_enter func204,ntmps204;go_wp2;go_loopw [5,8] (λ _ i wr=>∃ k:Nat,k<=n/\i=.int .i64 k/\Ext w wr/\Hid ((l.take k).any p=false)) (λ _ i _=>n - (intOf i).toNat)
 case atStart=>exact⟨0,oM,rfl,ab _,rfl⟩
 case round =>
  obtain⟨k,hk,rfl,hE,hA⟩:=hrel;by_cases hlt:k<n
  . obtain⟨b,off,x,cs,rfl,hb,hx,hcs,hc⟩:=(h.ext okWaiver hE).get hlt;have hrr:=aa (show wr.rangeAt b (off+k*2) cs from hc);have hsz:=aa (show (prog.info? 116).map (·.size)=some cs.length from by rw [okWaiver.len hcs];kernel_rfl);clear hc;have hcall:=aa (hp wr x cs hE (ap hx.out) hcs)
    cases hq:p x with
    | true => rw [hq] at hcall;have hr:Hid (dc p l=k):=kD hA.out hx.out hq;clear hq;go_wp2_with (first | (go_at_fn g;refine hcall.mono ?_;rintro e w2 ⟨rfl,hb2⟩) | (refine cy rfl 116 (Operand.tmp 14) rfl b (off+k*2) rfl cs _ hrr.out underlying116 rfl hsz.out ?_));exact mi
    | false => rw [hq] at hcall;have hr:Hid ((l.take (k+1)).any p=false):=jc hA.out hx.out hq;clear hq;go_wp2_with (first | (go_at_fn g;refine hcall.mono ?_;rintro e w2 ⟨rfl,hb2⟩) | (refine cy rfl 116 (Operand.tmp 14) rfl b (off+k*2) rfl cs _ hrr.out underlying116 rfl hsz.out ?_));exact mg
  . exact lc
theorem RJ (q:OA)(n c base:Nat)(l:List WvD)(p:WvD->Bool)(g:Nat)(lb:Array Value)(eg:∀ args w,(callFunc g args).run prog w=.ok (.enter g args) w)(w:World)
 (h:SlD (Fl cj) 2 base w q n l) (hp:∀ (W:World) (x:WvD) (cs:List Value),Ext w W->x∈l->(Fl cj) base W x cs->Calls prog g (#[.agg cs.toArray]++lb) W λ e w2=>e=.returned (.bool (p x))/\Ext W w2) (hn:n<=1048576) :
 CE 132 #[sl q n c,.func (.func g) #[] lb] w (.bool (l.any p)):=by
 have hr:=aa (lh p l);go_enter func132,ntmps132;go_wp2_with (go_at_call 204;refine (RI q n c base l p g lb eg _ h hp hn).mono ?_;rintro e w' ⟨rfl,hE⟩);exact jW
theorem RK (q:OA)(n c:Nat)(l:List aV)(g:Nat)(lb:Array Value)(eg:∀ args w,(callFunc g args).run prog w=.ok (.enter g args) w)(w:World)
 (h:SlV w q n l) (hp:∀ (W:World) (x:aV) (v:Value),Ext w W->x∈l->Calls prog g (#[.agg #[x.1,v]]++lb) W λ e w2=>e=.returned (.bool false)/\Ext W w2) (hn:n<=1048576) :
 CE 203 #[sl q n c,.func (.func g) #[] lb] w (-1:Int):=by
 have hl:=aa h.length;go_enter func203,ntmps203;go_wp2;go_loopw [5,8] (λ _ i wr=>∃ k:Nat,k<=n/\i=.int .i64 k/\Ext w wr) (λ _ i _=>n - (intOf i).toNat)
 case atStart=>exact⟨0,oM,rfl,ab _⟩
 case round =>
  obtain⟨k,hk,rfl,hE⟩:=hrel;by_cases hlt:k<n
  . obtain⟨b,off,q1,n1,c1,x,rfl,hb,hx,z0,z1,-⟩:=(h.ext hE).get hlt;have hcall:=aa (hp wr x (sl q1 n1 c1) hE (ap hx.out));have hkI:(k:Int)<(n:Int):=oM;exact Av
  . have hkI:¬ (k:Int)<(n:Int):=oM;exact ja
theorem RL (q:OA)(n c:Nat)(l:List aV)(g:Nat)(lb:Array Value)(eg:∀ args w,(callFunc g args).run prog w=.ok (.enter g args) w)(w:World)
 (h:SlV w q n l) (hp:∀ (W:World) (x:aV) (v:Value),Ext w W->x∈l->Calls prog g (#[.agg #[x.1,v]]++lb) W λ e w2=>e=.returned (.bool false)/\Ext W w2) (hn:n<=1048576) :
 CE 130 #[sl q n c,.func (.func g) #[] lb] w (.bool false):=by
 go_enter func130,ntmps130;go_wp2_with (go_at_call 203;refine (RK q n c l g lb eg _ h hp hn).mono ?_;rintro e w' ⟨rfl,hE⟩);go_ret;exact⟨rfl,hE⟩
theorem RM (x:WvD)(B:Nat)(s:Int)(t:TypeId)(w:World)(h:Blk w B [s] t) :
 CE 133 #[.agg #[x.a,.string x.s],.pointer (so B 0)] w (.bool (x.a==s)):=by
 have hBl:=h.lt;go_enter func133,ntmps133;exact Aj
theorem RN (q:OA)(n c base:Nat)(l:List WvD)(s:Int)(w:World)(h:SlD (Fl cj) 2 base w q n l)(hn:n<=1048576) :
 CE 70 #[sl q n c,s] w (.bool (kv l s)):=by
 have hcf:=aa (λ(B:Nat) (t:TypeId) (V:World) (hV:Ext w V) (hB:Blk V B [s] t)=>RJ q n c base l (λ x=>x.a==s) 133 #[.pointer (so B 0)] (fb func133 kR rfl) V (h.ext okWaiver hV) (λ W x cs hE hx hcs=>by cases hcs;exact RM x B s t W (hB.ext hE)) hn);go_enter func70,ntmps70;go_upto_region 1 with (fail);generalize hW:World.alloc _ _=W0;obtain⟨E0,z0,b0⟩:=al hW;clear hW z0;replace b0:=cC b0;replace E0:=aa E0;go_wp2_with (first | (go_at_call 132;(refine (hcf.out w _ _ E0.out b0.out).mono ?_);rintro e w2 ⟨rfl,E2⟩) | fail);go_ret;exact⟨rfl,E0.trans E2⟩
theorem RO (q:OA)(n c base:Nat)(l:List WvD)(s:Int)(w:World)(h:SlD (Fl cj) 2 base w q n l)(hn:n<=1048576) :
 CE 52 #[sl q n c,s] w (.bool (kv l s)):=by
 have hf:=aa h.flat;have hl:=aa h.length;go_enter func52,ntmps52;go_wp2_with (fail);go_loopw [5] (λ i wx=>∃ k:Nat,k<=n/\i=.int .i64 k/\Hid (Ext w wx)/\Hid ((l.take k).any (λ x=>x.a==s)=false)) (λ i _=>n - (intOf i).toNat)
 case atStart=>exact⟨0,oM,rfl,ab _,rfl⟩
 case round =>
  obtain⟨k,hk,rfl,hE,hA⟩:=hrel;by_cases hkt:k<n
  . have hkI:(k:Int)<(n:Int):=oM;obtain⟨b,off,x,rfl,hb,hx,hc⟩:=(hf.ext hE.out).get hkt;have c0:=hc 0 _ rfl;rw [aq] at c0;clear hc;by_cases hxs:x.a=s
    . have hr:Hid (kv l s=true):=aa (aL59.2 ⟨x,ap hx.out,by simp [hxs]⟩);go_wp2_with (fail);go_ret;exact⟨bu hr.symm,hE.out⟩
    . have hxB:(x.a==s)=false:=by simp;exact hxs
      have hr:Hid ((l.take (k+1)).any (λ x=>x.a==s)=false):=jc hA.out hx.out hxB;go_wp2_with (fail);go_roundw
      case rel=>exact⟨k+1,oM,gN,hE,hr⟩
      case measure=>exact mS
  . have hkI:¬ (k:Int)<(n:Int):=oM;have hr:Hid (kv l s=false):=by have:=hA.out;rwa [cz hl.out oM] at this
    go_wp2_with (fail);go_ret;exact⟨bu hr.symm,hE.out⟩
theorem RP (k:Int)(v:Value)(B:Nat)(p:OA)(m cr:Nat)(t:TypeId)(w:World)(h:Blk w B [sl p m cr] t)(hk:k<m) :
 CE 131 #[.agg #[k,v],.pointer (so B 0)] w (.bool false):=by
 have hBl:=h.lt;have hkn:¬ (m:Int)<=k:=oM;go_enter func131,ntmps131;exact Aj
theorem RQ (p:OA)(m base:Nat)(R:List RuD)(q:OA)(n c:Nat)(l:List aV)(p2:OA)(n2 c2:Nat)(W0:List WvD)(w:World)(hR:SlD (Fl bE) 5 base w p m R)(hk:dO R=true)(hm:m<=12)(h:SlV w q n l)(hn:n<=256)(hl:RpOk m l)(hW:SlD (Fl cj) 2 base w p2 n2 W0)(hw:fk W0=true)(hn2:n2<=1048576)(hf:∀ x∈W0,x.s.size<=9223372036854775807) :
 CE 69 #[.agg #[sl p m m],sl q n c,sl p2 n2 c2] w (0:Int):=by
 have k1:=λ V (hV:Ext w V)=>wv p m base R V (hR.ext aT hV) oM
 rw [hk] at k1;replace k1:=aa k1;have k2:=aa (λ V (hV:Ext w V)=>Rz m q n c l V (h.ext hV) hn oM hl);have k3:=λ V (hV:Ext w V)=>Hz p2 n2 c2 base W0 V (hW.ext okWaiver hV) oM hf
 rw [hw] at k3;replace k3:=aa k3;have k4:=aa (λ(B:Nat) (t:TypeId) (V:World) (hV:Ext w V) (hB:Blk V B [sl p m m] t)=>RL q n c l 131 #[.pointer (so B 0)] (fb func131 kR rfl) V (h.ext hV) (λ W x v hE hx=>RP x.1 v B p m m t W (hB.ext hE) (by have:=hl.rule x hx;omega)) oM);clear hR hk h hl hW hw hf;go_enter func69,ntmps69;go_upto_region 1 with (fail);generalize hW:World.alloc _ _=V0;obtain⟨E0,z0,b0⟩:=al hW;clear hW z0;replace b0:=aa (show Blk V0 w [_] _ from b0);have⟨g0,l0⟩:=b0.gl;replace E0:=aa E0;go_wp2_with (first | (go_at_call 62;(with_reducible refine (k1.out _ E0.out).mono ?_);rintro e w2 ⟨rfl,E2⟩;have hE2:=aa (E0.trans E2);have bx2:=b0.ext E2;have⟨gx2,lx2⟩:=bx2.gl;replace bx2:=aa bx2) | (go_at_call 129;(with_reducible refine (k2.out _ hE2.out).mono ?_);rintro e w3 ⟨rfl,E3⟩;have hE3:=aa (hE2.trans E3);have bx3:=bx2.ext E3;have⟨gx3,lx3⟩:=bx3.gl;replace bx3:=aa bx3) | (go_at_call 63;(with_reducible refine (k3.out _ hE3.out).mono ?_);rintro e w4 ⟨rfl,E4⟩;have hE4:=aa (hE3.trans E4);have bx4:=bx3.ext E4;have⟨gx4,lx4⟩:=bx4.gl;replace bx4:=aa bx4) | (go_at_call 130;(refine (k4.out w _ _ hE4.out bx4.out).mono ?_);rintro e w5 ⟨rfl,E5⟩) | fail);go_ret;exact⟨rfl,hE4.trans E5⟩
theorem RR (p:OA)(m base:Nat)(R:List RuD)(q:OA)(n c:Nat)(l:List aV)(p2:OA)(n2 c2:Nat)(W0:List WvD)(w:World)(hR:SlD (Fl bE) 5 base w p m R)(hk:dO R=true)(hm:m<=12)(h:SlV w q n l)(hn:n<=256)(hl:RpOk m l)(hW:SlD (Fl cj) 2 base w p2 n2 W0)(hw:fk W0=true)(hn2:n2<=1048576)(hf:∀ x∈W0,x.s.size<=9223372036854775807) :
 CE 51 #[.agg #[sl p m m],sl q n c,sl p2 n2 c2] w (0:Int):=by
 have k1:=λ V (hV:Ext w V)=>ww p m base R V (hR.ext aT hV) oM
 rw [hk] at k1;replace k1:=aa k1;have k2:=aa (λ V (hV:Ext w V)=>Ry m q n c l V (h.ext hV) hn oM hl);have k3:=λ V (hV:Ext w V)=>HA p2 n2 c2 base W0 V (hW.ext okWaiver hV) oM hf
 rw [hw] at k3;replace k3:=aa k3;have hll:=aa h.length;have hru:=aa hl.rule;clear hR hk hl hW hw hf;go_enter func51,ntmps51;go_upto_region 1 with (fail);generalize hW:World.alloc _ _=V0;obtain⟨E0,z0,b0⟩:=al hW;clear hW z0;replace b0:=aa (show Blk V0 w [_] _ from b0);have⟨g0,l0⟩:=b0.gl;replace E0:=aa E0;go_wp2_with (first | (go_at_call 45;(with_reducible refine (k1.out _ E0.out).mono ?_);rintro e w2 ⟨rfl,E2⟩;have hE2:=aa (E0.trans E2);have bx2:=b0.ext E2;have⟨gx2,lx2⟩:=bx2.gl;replace bx2:=aa bx2) | (go_at_call 104;(with_reducible refine (k2.out _ hE2.out).mono ?_);rintro e w3 ⟨rfl,E3⟩;have hE3:=aa (hE2.trans E3);have bx3:=bx2.ext E3;have⟨gx3,lx3⟩:=bx3.gl;replace bx3:=aa bx3) | (go_at_call 46;(with_reducible refine (k3.out _ hE3.out).mono ?_);rintro e w4 ⟨rfl,E4⟩;have hE4:=aa (hE3.trans E4);have bx4:=bx3.ext E4;replace bx4:=aa bx4) | fail);go_loopw [7] (λ i wx=>∃ k:Nat,k<=n/\i=.int .i64 k/\Hid (Ext w wx)/\Hid (Blk wx w [sl p m m] 50)) (λ i _=>n - (intOf i).toNat)
 case atStart=>exact⟨0,oM,rfl,hE4,bx4⟩
 case round =>
  clear hE4 bx4 hE3 bx3 hE2 bx2;obtain⟨k,hk,rfl,hE,hB⟩:=hrel;by_cases hkt:k<n
  . have hkI:(k:Int)<(n:Int):=oM;obtain⟨b,off,q1,n1,c1,x,rfl,hb,hx,x0,x1,-⟩:=(h.ext hE.out).get hkt;have hr:=hru.out x (ap hx.out);have hrn:¬ (m:Int)<=x.1:=oM;have⟨gB,lB⟩:=hB.gl;go_upto_region 6 with (fail);refine aQ kR kR ?_;repeat (go_big_quiet_step (fail))
    refine bW ?_;rintro wL ⟨⟨_,EL⟩,rfl⟩;have hL:=aa (hE.trans EL);have hBL:=aa (hB.ext EL);clear x0 x1 hb gB lB EL;go_wp2_with (fail);go_roundw
    case rel=>exact⟨k+1,oM,gN,hL,hBL⟩
    case measure=>exact mS
  . have hkI:¬ (k:Int)<(n:Int):=oM;exact nQ
end Go.Proofs.YtnlajnpcdnnpmaaGreat
