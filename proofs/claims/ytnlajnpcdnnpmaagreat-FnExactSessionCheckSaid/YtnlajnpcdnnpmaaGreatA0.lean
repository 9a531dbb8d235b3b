/- Part of a proof. No condition. -/
import Derived.BigQuiet
import Derived.BigRegion
import Derived.ChangeKeysEq
import Derived.Deep.AppendLies
import Derived.Deep.Cut
import Derived.Deep.MidRow
import Derived.Deep.RegionHeld3
import Derived.Deep.RegionLaw
import Derived.Deep.Slices
import Derived.Deep.Strs
import Derived.DeepKeys4
import Derived.IntWalk
import Derived.JoinedTies
import Derived.KernelRfl
import Derived.Laws.AppendOwnNone
import Derived.Laws.IdiomStrings
import Derived.Laws.Rows
import Derived.Laws.StructEq
import Derived.Lib.AppendZeros
import Derived.Lib.SmallJoins
import Derived.Maps.AppendAt
import Derived.Maps.Own
import Derived.Maps.OwnOps
import Derived.Maps.OwnSet
import Derived.PlainAid
import Derived.ProofKit
import Derived.RegionTactic
import Derived.Shelf.Abstract
import Derived.Sort.Grow
import Derived.StillTailTactics
import Derived.WalkKit
import Derived.WalkLawsBesides
import Derived.WalkSpells
import GoSem.Claim
import GoSem.ClaimJoined
import GoSem.ClaimMapViews
namespace Go.Proofs.YtnlajnpcdnnpmaaGreat
set_option linter.all false
set_option maxRecDepth 100000
set_option maxHeartbeats 16000000
open Go.RowKit
section
variable {P:Prop}
abbrev ai:=@Nat.le_refl
abbrev ap:=@List.mem_of_getElem?
theorem aq(n:Nat):n+0=n:=rfl
abbrev ar:=@if_neg
abbrev aw:=@if_pos
abbrev ay:=@Or.inl
abbrev aB:=@Or.inr
abbrev aF:=@Nat.lt_of_lt_of_le
abbrev aI:=@List.length_append
theorem aJ{α}{a:α}{l:List α}:(a::l)[0]?=some a:=rfl
abbrev aM:=@info_parts
theorem aN{α}{a:α}{l:List α}{i:Nat}:(a::l)[i+1]?=l[i]?:=rfl
abbrev aS:=@Nat.le_trans
theorem aW{α}{a b:α}{l:List α}:(a::l).set 0 b=b::l:=rfl
theorem aY{α}{a b:α}{l:List α}{n:Nat}:(a::l).set (n+1) b=a::l.set n b:=rfl
abbrev aZ:=@Nat.mul_one
abbrev bl:=@decide_eq_true
abbrev bv:=@Nat.le_succ
abbrev bB:=@bodyPost_ret
abbrev bK:=@List.getElem?_eq_getElem
abbrev bU:=@decide_eq_false
abbrev bW:=@wpQuiet_nil
abbrev cm:=@Bool.and_eq_true
abbrev aL31:=@List.getElem?_eq_some_iff
abbrev cv:=@World.ownsRow.alloc
abbrev cy:=@wpList_load_mid
abbrev cJ:=@Option.some.inj
abbrev cK:=@List.getElem?_map
abbrev cZ:=@wpList_append_own_at
abbrev dj:=@List.flatMap_append
abbrev dn:=@List.setIfInBounds_toArray
abbrev dD:=@List.length_map
abbrev dS:=@decide_eq_true_eq
abbrev dT:=@List.map_append
abbrev ep:=@wpList_make_full
abbrev ew:=@Option.map_eq_some_iff
abbrev eE:=@List.take_of_length_le
theorem eO{α}{a:α}{l:List α}:(a::l).length=l.length+1:=rfl
abbrev fb:=@enters_of
abbrev fc:=@List.append_assoc
abbrev aL49:=@List.mem_append
abbrev fm:=@List.getElem?_append_left
abbrev aL52:=@List.mem_map
abbrev fI:=@List.length_take
abbrev fP:=@List.append_nil
abbrev fQ:=@Nat.zero_add
abbrev fW:=@Int.le_refl
abbrev fX:=@List.flatMap_cons
abbrev aL59:=@List.any_eq_true
abbrev fY:=@And.intro
abbrev aL62:=@Bool.eq_iff_iff
abbrev gV:=@Bool.not_eq_true
abbrev gW:=@Ne.symm
abbrev i8:=@List.filter_append
abbrev ju:=@Int.toNat_of_nonneg
abbrev jv:=@Bool.true_and
abbrev aL70:=@List.mem_range
abbrev jR:=@Below.heap_setCell
abbrev jS:=@IntWalk.i64_in
abbrev jT:=@List.getElem?_append_right
abbrev jU:=@List.length_filter_le
abbrev ky:=@Nat.zero_mul
abbrev aL77:=@List.mem_singleton
abbrev aL79:=@List.all_eq_true
abbrev aL80:=@List.mem_flatMap
abbrev kz:=@List.getD_eq_getElem?_getD
abbrev kX:=@Nat.lt_or_ge
abbrev kY:=@World.cell?_of_block
abbrev kZ:=@List.getElem?_eq_none
abbrev k9:=@congrArg
abbrev la:=@List.range_succ
abbrev aL89:=@List.mem_cons
abbrev mc:=@Sem.run_bind
abbrev md:=@List.length_take_le
abbrev me:=@Nat.succ_mul
abbrev mV:=@step_append_lies
abbrev mW:=@Result.andThen_ok
abbrev mX:=@List.map_cons
abbrev mY:=@World.ownsRow.drew
abbrev mZ:=@Bool.and_eq_false_iff
abbrev nF:=@beq_eq_false_iff_ne
abbrev nG:=@List.map_nil
abbrev nH:=@Nat.add_assoc
abbrev nI:=@results_tmp3
abbrev nJ:=@beq_self_eq_true
abbrev nK:=@List.getElem?_range
abbrev nL:=@List.all_append
abbrev nM:=@Bool.or_eq_true
abbrev oZ:=@List.mem_of_mem_take
abbrev o0:=@List.drop_eq_getElem_cons
abbrev pa:=@List.drop_succ_cons
abbrev pb:=@List.drop_zero
abbrev pc:=@List.all_eq_false
abbrev pd:=@World.ownsRow_nil
abbrev pe:=@List.getElem?_of_mem
abbrev pf:=@Nat.le_add_right
abbrev pg:=@List.mem_map_of_mem
abbrev ph:=@List.getElem?_set
abbrev pi:=@List.any_append
abbrev aL121:=@List.pairwise_iff_getElem
abbrev qE:=@Array.getElem?_eq_none
abbrev qF:=@List.getElem_mem
abbrev qG:=@wpList_append_own
abbrev qH:=@World.ownsRow_made
abbrev qI:=@Bool.eq_false_iff
abbrev aL127:=@decide_eq_decide
abbrev qJ:=@List.sum_append
abbrev qK:=@List.take_append_drop
abbrev qL:=@Nat.min_eq_left
abbrev qM:=@List.ext_getElem?
abbrev qN:=@Bool.not_eq_true'
abbrev sD:=@List.drop_of_length_le
abbrev sE:=@Joins.ownsRow_forms
abbrev sF:=@List.eq_nil_of_length_eq_zero
abbrev sG:=@Array.getElem?_eq_getElem
abbrev sH:=@Nat.mul_le_mul_right
abbrev aL139:=@Array.getElem?_eq_some_iff
theorem oM(h:P:=by omega):P:=h
theorem gN(h:P:=by go_num):P:=h
theorem kR(h:P:=by kernel_rfl):P:=h
theorem mS(h:P:=by simp [intOf];omega):P:=h
theorem mT(h:P:=by simp [intOf]):P:=h
theorem da(h:P:=by go_enter func219,ntmps219;exact B4):P:=h
theorem yU(h:P:=by exact B4):P:=h
theorem eG(h:P:=by go_enter func92,ntmps92;go_upto_region 1 with (fail);generalize hW:World.alloc _ _=W0;obtain⟨E0,z0,b0⟩:=al hW;clear hW z0;replace b0:=kE b0;have⟨g0,l0⟩:=b0.gl;have E:=ab W0;go_wp2_with (first | (go_at_call 95;refine aO (jZ _ _ _ _) ?_) | (go_at_call 152;(with_reducible refine aO (pL 0 false rfl _) ?_)) | (go_at_call 151;clear g0 l0;(with_reducible refine aR b0 E (KS _ _ _ _ _) λ w7 E g0 l0=>?_)) | (go_at_call 152;(with_reducible refine aO (pL 1 false rfl _) ?_)) | (go_at_call 151;clear g0 l0;(with_reducible refine aR b0 E (KT _ _ _ _ _) λ w7 E g0 l0=>?_)) | (go_at_call 152;(with_reducible refine aO (pL 2 true rfl _) ?_)) | (go_at_call 151;clear g0 l0;(with_reducible refine aR b0 E (KU _ _ _ _ _) λ w7 E g0 l0=>?_)) | (go_at_call 152;(with_reducible refine aO (pL 3 true rfl _) ?_)) | (go_at_call 151;clear g0 l0;(with_reducible refine aR b0 E (KV _ _ _ _ _) λ w7 E g0 l0=>?_)) | (go_at_call 152;(with_reducible refine aO (pL 4 false rfl _) ?_)) | (go_at_call 151;clear g0 l0;(with_reducible refine aR b0 E (KX _ _ _ _ _) λ w7 E g0 l0=>?_)) | (go_at_call 152;(with_reducible refine aO (pL 5 false rfl _) ?_)) | (go_at_call 151;clear g0 l0;(with_reducible refine aR b0 E (KY _ _ _ _ _) λ w7 E g0 l0=>?_)));exact tj):P:=h
theorem eH(h:P:=by go_enter func114,ntmps114;go_upto_region 1 with (fail);generalize hW:World.alloc _ _=W0;obtain⟨E0,z0,b0⟩:=al hW;clear hW z0;replace b0:=kE b0;have⟨g0,l0⟩:=b0.gl;have E:=ab W0;go_wp2_with (first | (go_at_call 117;refine aO (dd _ _ _ _) ?_) | (go_at_call 177;(with_reducible refine aO (pK 0 false rfl _) ?_)) | (go_at_call 177;(with_reducible refine aO (pK 1 false rfl _) ?_)) | (go_at_call 177;(with_reducible refine aO (pK 2 true rfl _) ?_)) | (go_at_call 177;(with_reducible refine aO (pK 3 true rfl _) ?_)) | (go_at_call 177;(with_reducible refine aO (pK 4 false rfl _) ?_)) | (go_at_call 177;(with_reducible refine aO (pK 5 false rfl _) ?_)));exact tj):P:=h
theorem eP(h:P:=by exact tj):P:=h
theorem qO(h:P:=by
 have⟨g0,l0⟩:=b0.gl;have E:=ab W0;go_wp2_with (first | (go_at_call 117;refine aO (dd _ _ _ _) ?_) | (go_at_call 220;refine aO (jY _ _ _ _) ?_) | (go_at_call 187;clear g0 l0;refine aR b0 E (Du x.box _) λ w3 E g0 l0=>?_) | (go_at_call 303;refine aO (wl _ _) ?_) | (go_at_call 158;clear g0 l0;refine aR b0 E (wk x.box _) λ w3 E g0 l0=>?_) | (go_at_call 335;clear g0 l0;refine aR b0 E (wm x.pt _) λ w3 E g0 l0=>?_) | (go_at_call 118;clear g0 l0;refine aR b0 E (lj x.s _ hs) λ w4 E g0 l0=>?_) | (go_at_call 304;clear g0 l0;refine aR b0 E (wq x.pt _) λ w3 E g0 l0=>?_) | (go_at_call 97;clear g0 l0;refine aR b0 E (nW x.s _ hs) λ w4 E g0 l0=>?_) | (go_at_call 179;clear g0 l0;refine aR b0 E (Dn x.s _ hs) λ w4 E g0 l0=>?_) | (go_at_call 153;refine aO (qX _ _ _ _) ?_) | (go_at_call 154;clear g0 l0;refine aR b0 E (Do x.s _ hs) λ w4 E g0 l0=>?_) | (go_at_call 279;clear g0 l0;refine aR b0 E (mn x.tr _) λ w3 E g0 l0=>?_) | (go_at_call 224;clear g0 l0;refine aR b0 E (ls x.tr _) λ w3 E g0 l0=>?_));all_goals go_ret
 all_goals exact⟨bu (by rw [<-hr.out] <;> simp [h0,h1]),E0.trans E⟩):P:=h
theorem qQ(h:P:=by
 have hr:=aa (jc hA.out hx.out hq);clear hq;go_wp2_with (fail);refine aQ kR kR ?_;repeat (go_big_quiet_step (fail))
 exact Cf):P:=h
theorem yV(h:P:=by
 have hltI:(k:Int)<s.size:=oM;by_cases h45:bt s k=45
 . have h45a:bt s k<97:=oM;have h45b:bt s k<48:=oM;have d57:decide (bt s k<=57)=true:=bl oM;have d122:decide (bt s k<=122)=true:=bl oM;have hn:Hid (li (bt s k)=true):=by show _=_;simp [li,h45]
   exact tc
 have h45n:decide (bt s k=45)=false:=bU h45;have e45:(bt s k==45)=false:=by simp [h45]
 have n45:(bt s k != 45)=true:=by simp [h45]
 rcases Dj (bt s k) with hc | ⟨hc,hc2⟩ | ⟨hc,hc2⟩ | ⟨hc,hc2⟩ | hc
 . have d57:decide (bt s k<=57)=true:=bl oM;have d122:decide (bt s k<=122)=true:=bl oM;exact vL
 . have d57:decide (bt s k<=57)=true:=bl oM;have pA:=@Dk;exact Da
 . have d57:decide (bt s k<=57)=false:=bU oM;have d122:decide (bt s k<=122)=true:=bl oM;exact vL
 . have d57:decide (bt s k<=57)=false:=bU oM;have pA:=@Dl;exact Da
 . have d57:decide (bt s k<=57)=false:=bU oM;have d122:decide (bt s k<=122)=false:=bU oM;exact vL):P:=h
theorem sI(h:P:=by
 replace hcC:=aa hcC;replace hcP:=aa hcP;clear hg hq;go_wp2_with (first | (go_at_call 381;(with_reducible refine (hcP.out _ (ab _)).mono ?_);rintro e2 w3 ⟨rfl,rfl⟩) | (go_at_call 381;(with_reducible refine (hcC.out _ (ab _)).mono ?_);rintro e2 w3 ⟨rfl,rfl⟩) | (go_at_call 381;(with_reducible refine (hcB.out _ (ab _)).mono ?_);rintro e2 w3 ⟨rfl,rfl⟩) | fail);go_roundw
 case rel=>exact⟨m+1,p+1,q2,c2,L,oM,rfl,gN,aa (by have:=hp.out;omega),oM,oM,hL2,ho,hX⟩
 case measure=>exact mS):P:=h
theorem Ih(h:P:=by
 obtain⟨k,hk,rfl,hp,hE⟩:=hrel;by_cases hlt:k<s.size
 . have hltI:(k:Int)<s.size:=oM;rcases Dj (bt s k) with hc | ⟨hc,hc2⟩ | ⟨hc,hc2⟩ | ⟨hc,hc2⟩ | hc
   . have d57:decide (bt s k<=57)=true:=bl oM;have d122:decide (bt s k<=122)=true:=bl oM;exact vX
   . have d57:decide (bt s k<=57)=true:=bl oM;have d122:decide (bt s k<=122)=true:=bl oM;have hn:Hid (jz (bt s k)=true):=Dk hc hc2;exact tc
   . have d57:decide (bt s k<=57)=false:=bU oM;have d122:decide (bt s k<=122)=true:=bl oM;exact vX
   . have d57:decide (bt s k<=57)=false:=bU oM;have d122:decide (bt s k<=122)=true:=bl oM;have hn:Hid (jz (bt s k)=true):=Dl hc hc2;exact tc
   . have d57:decide (bt s k<=57)=false:=bU oM;have d122:decide (bt s k<=122)=false:=bU oM;exact vX
 . have hall:Hid (mm jz s=true):=wh λ j hj=>hp.out j oM
   by_cases hz:1<=s.size
   . have hzI:(1:Int)<=s.size:=oM;have hr:Hid (decide ((s.size:Int)<=8)=dK s):=by show _=_;rw [dK,hall.out,bl hz];simp;omega
     exact vM
   . have hzI:¬ (1:Int)<=s.size:=oM;have hr:Hid (false=dK s):=by show _=_;rw [dK,bU hz];simp
     exact vM):P:=h
theorem vm(h:P:=by
 have⟨g0,l0⟩:=b0.gl;have E:=ab W0;go_wp2_with (first | (go_at_call 117;refine aO (dd _ _ _ _) ?_) | (go_at_call 220;refine aO (jY _ _ _ _) ?_) | (go_at_call 335;clear g0 l0;refine aR b0 E (wm x.pt _) λ w3 E g0 l0=>?_) | (go_at_call 118;clear g0 l0;refine aR b0 E (lj x.s _ hs) λ w4 E g0 l0=>?_) | (go_at_call 303;refine aO (wl _ _) ?_) | (go_at_call 304;clear g0 l0;refine aR b0 E (wq x.pt _) λ w3 E g0 l0=>?_) | (go_at_call 97;clear g0 l0;refine aR b0 E (nW x.s _ hs) λ w4 E g0 l0=>?_) | (go_at_call 279;clear g0 l0;refine aR b0 E (mn x.tr _) λ w3 E g0 l0=>?_) | (go_at_call 224;clear g0 l0;refine aR b0 E (ls x.tr _) λ w3 E g0 l0=>?_));all_goals go_ret
 all_goals exact⟨bu (by rw [<-hr.out] <;> simp [h0,h1,h2]),E0.trans E⟩):P:=h
theorem Ii(h:P:=by
 obtain⟨j,hj,rfl,rfl,hM⟩:=hrel;by_cases hlt:j<n
 . have hltI:(j:Int)<(n:Int):=oM;obtain⟨b,off,rfl,hlo,hbh,-,-,-⟩:=(h.mutF hM.out).at hlt;obtain⟨K,hK⟩:∃ K:Int,K=k+(j:Int)*5:=⟨_,rfl⟩;have hKb:0<=K/\K<=2000000000000000000:=oM;obtain⟨hKb0,hKb1⟩:=hKb;rw [<-hK];replace hK:=aa hK;obtain⟨b2,off2,hp2,-,-,hbl,hfr,hcl⟩:=(h.mutF hM.out).at hlt
   cases hp2
   obtain⟨v,e,en⟩:=hcl 0 oM;clear hcl;try simp only [aq,aZ] at e
   go_upto_region 6 with (fail);have hM1:=aa (hM.setCell (v:=.int .i64 (K)) hlo hbh e en rfl);generalize World.setCell _ _ _=W1 at hM1 ⊢;clear e en hfr hbl v;obtain⟨b2,off2,hp2,-,-,hbl,hfr,hcl⟩:=(h.mutF hM1.out).at hlt
   cases hp2
   obtain⟨v,e,en⟩:=hcl 1 oM;clear hcl;try simp only [aq,aZ] at e
   go_upto_region 8 with (fail);have hM2:=aa (hM1.setCell (v:=.int .i64 (K+1)) hlo hbh e en rfl);generalize World.setCell _ _ _=W2 at hM2 ⊢;clear e en hfr hbl v;obtain⟨b2,off2,hp2,-,-,hbl,hfr,hcl⟩:=(h.mutF hM2.out).at hlt
   cases hp2
   obtain⟨v,e,en⟩:=hcl 2 oM;clear hcl;try simp only [aq,aZ] at e
   go_upto_region 10 with (fail);have hM3:=aa (hM2.setCell (v:=.int .i64 (K+1+1)) hlo hbh e en rfl);generalize World.setCell _ _ _=W3 at hM3 ⊢;clear e en hfr hbl v;obtain⟨b2,off2,hp2,-,-,hbl,hfr,hcl⟩:=(h.mutF hM3.out).at hlt
   cases hp2
   obtain⟨v,e,en⟩:=hcl 3 oM;clear hcl;try simp only [aq,aZ] at e
   go_upto_region 12 with (fail);have hM4:=aa (hM3.setCell (v:=.int .i64 (K+1+1+1)) hlo hbh e en rfl);generalize World.setCell _ _ _=W4 at hM4 ⊢;clear e en hfr hbl v;obtain⟨b2,off2,hp2,-,-,hbl,hfr,hcl⟩:=(h.mutF hM4.out).at hlt
   cases hp2
   obtain⟨v,e,en⟩:=hcl 4 oM;have pA:=hM4;exact qW
 . exact Co):P:=h
theorem pj(h:P:=by
 have⟨g0,l0⟩:=bx.gl;have y1:=(E0.cells _ _ hb0).trans z1;have y2:=(E0.cells _ _ hb0).trans z2;have hb1:=aF hb0 E0.le;clear z1 z2;refine aQ kR kR ?_;repeat (go_big_quiet_step (fail))
 refine bW ?_;rintro w1 ⟨⟨_,E1⟩,rfl⟩;have⟨g1,l1x⟩:=(bx.ext E1).gl;have hX1:=aa (E0.trans E1);clear g0 l0 y1 y2 hb1 E1;go_wp2_with (first | (go_at_call 286;(with_reducible refine (hcall.out _ hX1.out).mono ?_);rintro e w3 ⟨q3,c3,rfl,o3,E3⟩;replace o3:=aa o3;replace E3:=aa E3) | (go_at_call 287;(with_reducible refine (hcall.out _ hX1.out).mono ?_);rintro e w3 ⟨q3,c3,rfl,o3,E3⟩;replace o3:=aa o3;replace E3:=aa E3) | (go_at_call 288;(with_reducible refine (hcall.out _ hX1.out).mono ?_);rintro e w3 ⟨q3,c3,rfl,o3,E3⟩;replace o3:=aa o3;replace E3:=aa E3) | (go_at_call 289;(with_reducible refine (hcall.out _ hX1.out).mono ?_);rintro e w3 ⟨q3,c3,rfl,o3,E3⟩;replace o3:=aa o3;replace E3:=aa E3) | (go_at_call 290;(with_reducible refine (hcall.out _ hX1.out).mono ?_);rintro e w3 ⟨q3,c3,rfl,o3,E3⟩;replace o3:=aa o3;replace E3:=aa E3) | (go_at_call 291;(with_reducible refine (hcall.out _ hX1.out).mono ?_);rintro e w3 ⟨q3,c3,rfl,o3,E3⟩;replace o3:=aa o3;replace E3:=aa E3) | fail);go_ret;exact⟨q3,c3,rfl,fi o3.out hX1.le,hX1.trans E3.out⟩):P:=h
theorem sJ(h:P:=by have⟨g0,l0⟩:=bx.gl;have y1:=(E0.cells _ _ hb0).trans z1;have y2:=(E0.cells _ _ hb0).trans z2;have hb1:=aF hb0 E0.le;clear z1 z2;go_wp2_with (first | (go_at_call 233;(with_reducible refine (hly.out _ E0).mono ?_);rintro e w1 ⟨rfl,E1⟩;have E1h:=aa E1;have b1:=aa (bx.ext E1);clear g0 l0;have⟨g1,l1x⟩:=b1.gl) | (go_at_call 92;(with_reducible refine (hvl.out _).mono ?_);rintro e w2 ⟨rfl,E2⟩;have E02:=E1h.trans E2;have b2:=aa (b1.ext E2);clear g1 l1x;have⟨g2,l2x⟩:=b2.gl;have x1:=(E02.cells _ _ hb1).trans y1;have x2:=(E02.cells _ _ hb1).trans y2;have xb:=aF hb1 E02.le;have hX2:=aa (E0.trans E02);clear y1 y2 E2 E1 E02) | (go_at_call 234;(with_reducible refine (hcall.out _ hX2.out).mono ?_);rintro e w3 ⟨q3,c3,rfl,o3,E3⟩;replace o3:=aa o3;replace E3:=aa E3) | (go_at_call 235;(with_reducible refine (hcall.out _ hX2.out).mono ?_);rintro e w3 ⟨q3,c3,rfl,o3,E3⟩;replace o3:=aa o3;replace E3:=aa E3) | (go_at_call 238;(with_reducible refine (hcall.out _ hX2.out).mono ?_);rintro e w3 ⟨q3,c3,rfl,o3,E3⟩;replace o3:=aa o3;replace E3:=aa E3) | (go_at_call 239;(with_reducible refine (hcall.out _ hX2.out).mono ?_);rintro e w3 ⟨q3,c3,rfl,o3,E3⟩;replace o3:=aa o3;replace E3:=aa E3) | fail);go_ret;exact⟨q3,c3,rfl,fi o3.out hX2.le,hX2.trans E3.out⟩):P:=h
theorem qR(h:P:=by
 have⟨g0,l0⟩:=b0.gl;have E:=ab W0;go_wp2_with (first | (go_at_call 117;refine aO (dd _ _ _ _) ?_) | (go_at_call 220;refine aO (jY _ _ _ _) ?_) | (go_at_call 187;clear g0 l0;refine aR b0 E (Du x.box _) λ w3 E g0 l0=>?_) | (go_at_call 303;refine aO (wl _ _) ?_) | (go_at_call 158;clear g0 l0;refine aR b0 E (wk x.box _) λ w3 E g0 l0=>?_) | (go_at_call 335;clear g0 l0;refine aR b0 E (wm x.pt _) λ w3 E g0 l0=>?_) | (go_at_call 118;clear g0 l0;refine aR b0 E (lj x.s _ hs) λ w4 E g0 l0=>?_) | (go_at_call 304;clear g0 l0;refine aR b0 E (wq x.pt _) λ w3 E g0 l0=>?_) | (go_at_call 97;clear g0 l0;refine aR b0 E (nW x.s _ hs) λ w4 E g0 l0=>?_) | (go_at_call 179;clear g0 l0;refine aR b0 E (Dn x.s _ hs) λ w4 E g0 l0=>?_) | (go_at_call 153;refine aO (qX _ _ _ _) ?_) | (go_at_call 154;clear g0 l0;refine aR b0 E (Do x.s _ hs) λ w4 E g0 l0=>?_) | (go_at_call 279;clear g0 l0;refine aR b0 E (mn x.tr _) λ w3 E g0 l0=>?_) | (go_at_call 224;clear g0 l0;refine aR b0 E (ls x.tr _) λ w3 E g0 l0=>?_));all_goals go_ret
 all_goals exact⟨bu (by rw [<-hr.out] <;> simp [h0]),E0.trans E⟩):P:=h
theorem pk(h:P:=by go_upto_region 1 with (fail);generalize hW:World.alloc _ _=W0;obtain⟨E0,z0,b0⟩:=al hW;clear hW z0;replace b0:=cC b0;have⟨g0,l0⟩:=b0.gl;have E:=ab W0;go_wp2_with (first | (go_at_call 276;refine CE.t E (hcode.out _ (E0.trans E)) λ w3 E=>?_;clear g0 l0;have⟨g0,l0⟩:=(b0.ext E).gl) | (go_at_call 277;refine CE.t E (hcnt.out _ (E0.trans E)) λ w4 E=>?_;clear g0 l0;have⟨g0,l0⟩:=(b0.ext E).gl) | (go_at_call 90;refine CE.t E (hlib.out _ (E0.trans E)) λ w3 E=>?_;clear g0 l0;have⟨g0,l0⟩:=(b0.ext E).gl) | (go_at_call 221;refine CE.t E (hhas.out _ (E0.trans E)) λ w3 E=>?_;clear g0 l0;have⟨g0,l0⟩:=(b0.ext E).gl) | (go_at_call 222;refine CE.t E (hcnt.out _ (E0.trans E)) λ w4 E=>?_;clear g0 l0;have⟨g0,l0⟩:=(b0.ext E).gl) | fail);go_ret2;exact OcB.err hr.out (E0.trans E)):P:=h
theorem yW(h:P:=by
 go_upto_region 1 with (fail);generalize hW:World.alloc _ _=W0;obtain⟨E0,z0,b0⟩:=al hW;clear hW z0;replace b0:=gG b0;have⟨g0,l0⟩:=b0.gl;have E:=ab W0;go_wp2_with (first | (go_at_call 117;refine aO (dd _ _ _ _) ?_) | (go_at_call 279;clear g0 l0;refine aR b0 E (mn x.tr _) λ w3 E g0 l0=>?_) | (go_at_call 220;refine aO (jY _ _ _ _) ?_) | (go_at_call 224;clear g0 l0;refine aR b0 E (ls x.tr _) λ w3 E g0 l0=>?_));all_goals go_ret
 all_goals exact⟨bu (by rw [<-hr.out] <;> first | (revert h6 h7;simp;done) | (revert h6 h7;simp;omega) | (revert h6 h7;simp <;> omega) | omega),E0.trans E⟩):P:=h
theorem pl(h:P:=by rw [<-hL2] at hcall;have hb0:0<=L2:=oM;have hb1:L2<=1048576:=oM;replace hL2:=aa hL2;go_wp2_with fail;exact B7):P:=h
theorem yX(h:P:=by
 obtain⟨k,hk,rfl,hS,hE⟩:=hrel;by_cases hlt:k<n
 . obtain⟨b,off,x,rfl,hb,hx,c0,c1,c2,c3⟩:=(h1.ext hE).four hlt;obtain⟨b',off',x',rfl,hb',hx',d0,d1,d2,d3⟩:=(h2.ext hE).four hlt;have hkI:(k:Int)<n:=oM;by_cases hxx:x=x'
   . subst hxx;have hS2:Hid (SameTo (k+1) l l'):=hS.go hx.out hx'.out;have hxx:Hid (decide (x=x)=true):=by show _=_;simp
     clear hS;go_wp2_with fail;refine aQ kR kR ?_;repeat (go_big_quiet_step (fail))
     refine bW ?_;rintro w2 ⟨⟨_,E2⟩,rfl⟩;have hE2:=aa (hE.trans E2);clear hE E2 c0 c1 c2 c3 d0 d1 d2 d3;exact Cm
   . have hr:Hid (decide (l=l')=false):=bU (EW hx.out hx'.out hxx);replace hxx:=aa hxx;clear hS;go_wp2_with fail;refine aQ kR kR ?_;repeat (go_big_quiet_step (fail))
     go_big_quiet_want;refine LN _ _ _ rfl x x' rfl rfl true (by rw [show decide (x=x')=false from bU hxx.out];simp) ?_;go_simp;go_big_quiet_on;repeat (go_big_quiet_step (fail))
     refine bW ?_;rintro w2 ⟨⟨_,E2⟩,rfl⟩;have hE2:=aa (hE.trans E2);clear hE E2 c0 c1 c2 c3 d0 d1 d2 d3;go_wp2_with fail;go_ret;exact⟨bu hr.symm,hE2.out⟩
 . exact Ca):P:=h
theorem pm(h:P:=by refine bW ?_;rintro w7 ⟨⟨_,h7⟩,rfl⟩;go_wp2;go_ret;exact⟨bu hr.out,E0.trans (E.trans h7)⟩):P:=h
theorem yY(h:P:=by
 go_enter func366,ntmps366;go_upto_region 1 with (fail);generalize hW:World.alloc (World.alloc _ _) _=W0;obtain⟨E0,z0,b0,b1⟩:=bV hW;clear hW z0;replace b0:=fJ b0;replace b1:=fJ b1;have⟨g0,l0⟩:=b0.gl;have⟨g1,l1⟩:=b1.gl;have E:=ab W0;go_upto_region 2 with (fail);refine aQ kR kR ?_;repeat (go_big_quiet_step (fail))
 refine bW ?_;rintro w4 ⟨⟨_,E4⟩,rfl⟩;have b2:=aa (b1.ext E4);replace E0:=E0.trans E4;clear b0 b1 g0 l0 g1 l1 E E4;go_wp2_with (fail);go_loopw [5,6,7] (λ x y z wr=>∃ (j:Nat) (q:Q2),j<=3/\x=.int .i64 q.a/\y=.int .i64 q.b/\z=.int .i64 (j:Int)/\Nr2 1000000 q/\Hid (mq j q=gJ o p)/\wr=w4) (λ _ _ z _=>(intOf z).toNat)
 case atStart=>exact⟨k0,eK o p,hk3,by rw [hfl.out],by rw [hfl.out],by first | rfl | rw [hk0],tP hp,(xL hk0 p).symm,rfl⟩
 case round =>
  obtain⟨j,q,hj,rfl,rfl,rfl,hq,hr,rfl⟩:=hrel;have hq2:=hq;unfold Nr2 at hq2;have z0:=b2.cells 0;have z1:=b2.cells 1;simp only [aJ,aN] at z0 z1;have e0:=b2.free 0;have e1:=b2.free 1;have lt1:=b2.lt
  cases j with
  | zero => have hz:Hid (q=gJ o p):=hr;have hlt:¬ ((0:Nat):Int)>0:=oM;go_wp2_with (fail);exact jm [_,_] Tryz.results366 rfl ((b2.set 0 _).set 1 _) underlying248 rfl kR rfl ⟨by rw [<-hz.out],(E0.setCell (p:=(ad (w+1) 0)) (by simp) _).setCell (p:=(ad (w+1) 1)) (by simp) _⟩
  | succ j => exact Cd):P:=h
theorem vn(h:P:=by
 have hjI:(j:Int)<6400:=oM;have hcA:=hbA.2 j hjt;have hcB:=hbB.2 j hjt;obtain⟨v0,e0⟩:=bO ho.out j oM;have hf:=ey ho.out;have hset:=aa (GN (λ p q=>p||q) a b j);clear hbA hbB;obtain⟨va,hva⟩:∃ va,Hid (a j=va):=⟨_,aa rfl⟩;obtain⟨vb,hvb⟩:∃ vb,Hid (b j=vb):=⟨_,aa rfl⟩;rw [hva.out] at hcA;rw [hvb.out] at hcB
 cases va with
 | true =>
   go_wp2_with (fail);go_roundw
   case rel=>exact⟨j+1,oM,gN,aa (hX.setCell (ai _) _),aa (by rw [<-hset.out,hva.out];exact f7 ho.out _ _)⟩
   case measure=>exact mS
 | false =>
   go_wp2_with (fail);go_roundw
   case rel=>exact⟨j+1,oM,gN,aa (hX.setCell (ai _) _),aa (by rw [<-hset.out,hva.out,hvb.out];exact f7 ho.out _ _)⟩
   case measure=>exact mS):P:=h
theorem Ij(h:P:=by
 have:=tG p 3 c base pins (λ y=>!ae y 0 (nets - 1)) 183 #[.pointer (so (w+1) 0)] (fb func183 kR rfl) W ((h.ext cW E0).ext cW hX)
  (λ W2 y hE hy=>vj y nets (w+1) W2 hnets (((hX.trans hE).cells _ _ b1.lt).trans (b1.cells 0))) oM
 rw [jB,a1.out] at this;exact this):P:=h
theorem jV(h:P:=by refine bW ?_;rintro w2 ⟨⟨_,h3⟩,rfl⟩;go_wp2;have pA:=h3;exact wd):P:=h
theorem yZ(h:P:=by go_upto_region 1 with (fail);generalize hW:World.alloc _ _=W0;obtain⟨E0,z0,b0⟩:=al hW;clear hW z0;replace b0:=kE b0;have⟨g0,l0⟩:=b0.gl;have E:=ab W0;go_wp2_with (first | (go_at_call 260;clear g0 l0;refine aR b0 E (Dv x _) λ w3 E g0 l0=>?_) | (go_at_call 95;refine aO (jZ _ _ _ _) ?_));exact px):P:=h
theorem y8(h:P:=by
 go_enter func225,ntmps225;go_upto_region 1 with (fail);generalize hW:World.alloc (World.alloc (World.alloc _ _) _) _=W0;obtain⟨E0,z0,b0,b1,b2⟩:=fu hW;clear hW z0;replace b0:=eQ b0;replace b1:=fJ b1;replace b2:=aa (show Blk W0 (w+1+1) [_,_] _ from b2);have⟨g0,l0⟩:=b0.gl;have⟨g1,l1⟩:=b1.gl;have⟨g2,l2⟩:=b2.gl;have E:=ab W0;have f0:=b0.free;have f1:=b1.free;have f2:=b2.free;go_wp2_with (fail);go_loopw [5,6,7] (λ y z k wr=>∃ (j:Nat) (q:Q2),j<=3/\y=.int .i64 q.a/\z=.int .i64 q.b/\k=.int .i64 (j:Int)/\Nr2 1000000 q/\Hid (mq j q=gJ x.a p)/\wr=W0) (λ _ _ z _=>(intOf z).toNat)
 case atStart=>exact⟨k0,eK x.a p,hk3,by rw [hfl.out],by rw [hfl.out],by first | rfl | rw [hk0],tP hp,(xL hk0 p).symm,rfl⟩
 case round =>
  obtain⟨j,q,hj,rfl,rfl,rfl,hq,hr,rfl⟩:=hrel;have hq2:=hq;unfold Nr2 at hq2
  cases j with
  | zero => have hz:Hid (q=gJ x.a p):=hr;have hlt:¬ ((0:Nat):Int)>0:=oM;go_wp2_with (fail);exact jm [_,_] Tryz.results225 rfl ((b2.set 0 _).set 1 _) underlying248 rfl kR rfl ⟨by unfold db;rw [<-hz.out],(by repeat (first | exact E0 | refine gC ?_ _ | refine jX ?_ (by dsimp only;omega) _))⟩
  | succ j => exact Cd):P:=h
theorem lc(h:P:=by
 have hr:Hid (dc p l = -1):=by have:=hA.out;rw [cz hl.out oM] at this;exact we this
 go_wp2_with fail;go_ret;exact⟨cp hr.symm,hE⟩):P:=h
theorem y9(h:P:=by
 go_loopw [5] (λ z wr=>∃ (j:Nat) (q:Q2),j<=3/\z=.int .i64 (j:Int)/\Nr2 1000000 q/\Hid (mq j q=gJ o p)/\Ext w wr/\Blk wr w [q.a,q.b] 248/\Blk wr (w+1) [(0:Int),(0:Int)] 248) (λ z _=>(intOf z).toNat)
 case atStart=>exact⟨k0,eK o p,hk3,by first | rfl | rw [hk0],tP hp,(xL hk0 p).symm,E1,b2.out,b3.out⟩
 case round =>
  clear b2 b3 E1;obtain⟨j,q,hj,rfl,hq,hr,E,c0,c1⟩:=hrel;have hq2:=hq;unfold Nr2 at hq2;have y0:=c0.cells 0;have y1:=c0.cells 1;simp only [aJ,aN] at y0 y1;have z0:=c1.cells 0;have z1:=c1.cells 1;simp only [aJ,aN] at z0 z1;have f0:=c0.free 0;have f1:=c0.free 1;have e0:=c1.free 0;have e1:=c1.free 1;have lt0:=c0.lt;have lt1:=c1.lt
  cases j with
  | zero => have hz:Hid (q=gJ o p):=hr;have hlt:¬ ((0:Nat):Int)>0:=oM;go_wp2_with (fail);exact jm [_,_] Tryz.results340 rfl ((c1.set 0 _).set 1 _) underlying248 rfl kR rfl ⟨by rw [<-hz.out],(E.setCell (p:=(ad (w+1) 0)) (by simp) _).setCell (p:=(ad (w+1) 1)) (by simp) _⟩
  | succ j =>
    have hlt:((j+1:Nat):Int)>0:=oM;go_wp2_with (fail);go_roundw
    case rel=>exact⟨j,ow q,oM,gN,wG hq,hr,(E.setCell (p:=(ad w 0)) (by simp) _).setCell (p:=(ad w 1)) (by simp) _,(c0.set 0 _).set 1 _,(c1.other 0 _ oM).other 1 _ oM⟩
    case measure=>simp [intOf]):P:=h
theorem za(h:P:=by
 go_upto_region 5 with (fail);generalize hW8:World.alloc _ _=W8;have hI8:Hid (GpI w W8 w2 (so b off) c3 R q2 c2 L):=aa (by rw [<-hW8];exact hI.alloc _);obtain⟨E8,z8,b8⟩:=al hW8;replace b8:=aa (show Blk W8 wr [s.a,s.b,s.c,s.d] _ from b8);have g8:=b8.cells;have k0:=g8 0;have k1:=g8 1;have k2:=g8 2;have k3:=g8 3;simp only [aJ,aN] at k0 k1 k2 k3;have l8:=b8.lt;clear hW8 z8 E8 g8 c0 c1 c2x c3x;have hlo:=aa hI8.ext.le;go_wp2_with (first | (at_builtin;refine cZ _ rfl _ _ 77 rfl w 139 i0 (.agg #[(0:Int),(0:Int),(0:Int),(0:Int)]) 4 32 underlying77 hi hz0 hz1 hz2 rfl oM _ _ _ rfl (cv hI8.own _) ⟨_,0,none⟩ 1 1 [.int .i64 s.a,.int .i64 s.b,.int .i64 s.c,.int .i64 s.d] rfl rfl (dg _ [_,_,_,_] _) (iq _ _ _ _) (cx oM oM) oM (by have:=hlo.out;simp;omega) ?_;intro v2 w9 hoA hgA hnA hbA;obtain⟨qa,ca,rfl⟩:=cq hoA;have hP:=aa (hI8.push (s:=s) (qa:=qa) (ca:=ca) hoA hgA hbA);clear hoA hgA hnA hbA) | fail);have hlen2:Hid ((L++[s]).length=L.length+1):=aa (by rw [aI];rfl);go_roundw
 case rel=>exact⟨j+1,qa,ca,L++[s],oM,by rw [hlen2.out],gN,aa (by rw [hL.out,Pa hs.out hbr.out]),hP⟩
 case measure=>exact mS):P:=h
theorem zd(h:P:=by
 rw [hen] at hends;have hin:=aa (GR hs.out hen);clear hen
 cases A1 <;> cases B1 <;> cases B2 <;> cases A2 <;> first | (exact absurd hends (by decide)) | skip
 all_goals
  clear hends;go_wp2_with (first | (go_at_call 381;(first | (with_reducible refine (m1.out _ (ab _)).mono ?_) | (with_reducible refine (m2.out _ (ab _)).mono ?_) | (with_reducible refine (m3.out _ (ab _)).mono ?_) | (with_reducible refine (m4.out _ (ab _)).mono ?_));rintro e w9 ⟨rfl,rfl⟩) | (at_builtin;refine cZ _ rfl _ _ 77 rfl w 139 j0 (.agg #[(0:Int),(0:Int),(0:Int),(0:Int)]) 4 32 underlying77 hj0 hy0 hy1 hy2 rfl oM _ _ _ rfl (cv hI8.own _) ⟨_,0,none⟩ 1 1 [.int .i64 s.a,.int .i64 s.b,.int .i64 s.c,.int .i64 s.d] rfl rfl (dg _ [_,_,_,_] _) (iq _ _ _ _) (cx oM oM) oM (by have:=hsz8.out;simp;omega) ?_;intro v2 w9 hoA hgA hnA hbA;obtain⟨qa,ca,rfl⟩:=cq hoA;have hP:=aa (hI8.push (s:=s) (qa:=qa) (ca:=ca) hoA hgA hbA);clear hoA hgA hnA hbA) | fail);have hlen2:Hid ((L++[s]).length=L.length+1):=aa (by rw [aI];rfl);go_roundw
  case rel=>exact⟨j+1,qa,ca,L++[s],oM,by rw [hlen2.out],gN,aa (by rw [hL.out,hin.out]),hP⟩
  case measure=>exact mS):P:=h
theorem sK(h:P:=by
 have hLV:=aa hL;have hVV:=aa hV;have hCC:=aa hC;go_enter func396,ntmps396;go_wp2_with (fail);refine aQ kR kR ?_;repeat (go_big_quiet_step (fail))
 refine bW ?_;rintro w4 ⟨⟨_,E4⟩,rfl⟩;clear hL hV hC;have hV:=(E4.cells _ _ l2).trans hVV.out;have hC:=(E4.cells _ _ l3).trans hCC.out;go_wp2_with (go_at_call 373;refine (hcall.out _ E4).mono ?_;rintro e w5 ⟨rfl,E5⟩);go_ret;exact⟨rfl,E4.trans E5⟩):P:=h
theorem ze(h:P:=by have⟨g0,l0⟩:=b0.gl;have E:=ab W0;go_wp2_with (first | (go_at_call 90;clear g0 l0;refine aR b0 E (hlib.out _ ((E0.trans E))) λ w3 E g0 l0=>?_) | (go_at_call 220;refine (hin.out _).mono ?_;rintro e w5 ⟨rfl,rfl⟩) | (go_at_call 263;clear g0 l0;refine aR b0 E (Dx x _ hs) λ w3 E g0 l0=>?_));exact px):P:=h
theorem mf(h:P:=by exact Co):P:=h
theorem zf(h:P:=by
 have hPA:=aa (OwI.push2 (qa:=so gL 0) (ca:=cL) (ys:=(L++[(⟨s.a,R⟩:ShD)]).flatMap bg) (hI.later (hX9.alloc (.cells #[.int .i64 s.a,.int .i64 R.a,.int .i64 R.b,.int .i64 R.c,.int .i64 R.d] 236))) (by rw [xU];exact hoA) hgA (hbA.imp (λ h=>h.symm) (λ h=>by rw [<-h];rfl)));have hQA:=aa ((hX.later (hX9.alloc (.cells #[.int .i64 s.a,.int .i64 R.a,.int .i64 R.b,.int .i64 R.c,.int .i64 R.d] 236))).grown hgA (λ k hk=>(hI.own.lt k hk).1) hNe.out);have hNA:=aa (Ou (N:=N2+1) (c:=cL) hbA hNe.out (by have h7:=hX9.le;have h8:=hX.sz;simp;omega));clear hoA hgA hbA hlA hgc
 have hAA:=aa (show ∀ s'∈L++[(⟨s.a,R⟩:ShD)],eM s'.box from λ s' hs'=>by
  rw [aL49,aL77] at hs';rcases hs' with h | rfl
  . exact hall.out _ h
  . exact hRw.out)
 go_wp2_with (fail);go_roundw
 case rel=>exact⟨j+1,so gL 0,N2+1,cL,L++[⟨s.a,R⟩],oM,rfl,gN,hPA,hQA,hAA,aa oM,hNA⟩
 case measure=>exact mS):P:=h
theorem zg(h:P:=by go_upto_region 1 with (fail);generalize hW:World.alloc _ _=W0;obtain⟨E0,z0,b0⟩:=al hW;clear hW z0;replace b0:=aa (show Blk W0 w [r.a,r.b,r.c,r.d,r.e] _ from b0);have⟨g0,l0⟩:=b0.gl;go_wp2_with (first | (go_at_call 114;(with_reducible refine (k1.out _).mono ?_);rintro e w2 ⟨rfl,E2⟩;have bx2:=b0.ext E2;have⟨gx2,lx2⟩:=bx2.gl;have hE2:=aa (E0.trans E2)) | (go_at_call 92;(with_reducible refine (k1.out _).mono ?_);rintro e w2 ⟨rfl,E2⟩;have bx2:=b0.ext E2;have⟨gx2,lx2⟩:=bx2.gl;have hE2:=aa (E0.trans E2)) | fail);go_ret;exact⟨rfl,hE2.out⟩):P:=h
theorem sM(h:P:=by
 refine bW ?_;rintro w7 ⟨⟨_,h7⟩,rfl⟩;go_wp2;go_roundw
 case rel =>
  refine⟨(j+1)+1,oM,gN,E.trans h7,λ i hi=>?_⟩;by_cases hjk:i=(j+1)
  . subst hjk;exact hr.out
  . exact hA.out i oM
 case measure=>exact mS):P:=h
theorem zh(h:P:=by
 obtain⟨H9,htop,hH9⟩:=hz.top;rw [<-hN1] at htop;replace htop:=aa htop;go_wp2_with (first | (go_at_call 72;(with_reducible refine (hcp.out _ (ab _)).mono ?_);rintro e w9 ⟨q9,c9,rfl,o9,E9⟩;have hE9:=aa E9;have ho9:=aa o9;have hle9:=aa (aS hz.ext.le E9.le);clear o9 E9) | (at_builtin;refine cZ _ rfl _ _ 39 rfl V0 79 i0 (.agg #[(0:Int),.slice none 0 0]) 2 32 underlying39 hi hz0 hz1 hz2 rfl oM _ _ _ rfl (cv (aG htop.out hE9.out) _) ⟨_,0,none⟩ 1 1 [.int .i64 (k:Int),sl q9 (ah xg).length c9] rfl rfl (dg _ [_,_] _) (by intro u9 h9;simp at h9;rcases h9 with rfl | rfl <;> rfl) (cx oM oM) oM (by have:=hle9.out;simp;omega) ?_;intro v2 wA hoA hgA hnA hbA;obtain⟨qn,cn,rfl⟩:=cq hoA;have hP:=aa (AwI.push hz.ext hE9.out ((k:Int),xg) ho9.out hN1.symm hH9.out hoA hgA hbA);have hBA:=aa (((bz.ext hE9.out).alloc _).mut (uW hgA) (λ hh=>by have:=hz.geA _ hh;omega));clear hoA hgA hbA) | (go_at_call 54;(with_reducible refine (hcp.out _ (ab _)).mono ?_);rintro e w9 ⟨q9,c9,rfl,o9,E9⟩;have hE9:=aa E9;have ho9:=aa o9;have hle9:=aa (aS hz.ext.le E9.le);clear o9 E9) | fail);go_roundw
 case rel=>exact⟨j+1,qn,cn,qb,cb,oM,by rw [hkp.out,ar (by simp),aI,hN1.out];rfl,by rw [hwd.out,hN2.out];rfl,gN,aa (by rw [hkp.out,hwd.out,ar (by simp),ar (by simp)];exact hP.out),hBA⟩
 case measure=>exact mS):P:=h
theorem zi(h:P:=by
 obtain⟨H9,htop,hH9⟩:=hz.top;rw [<-hN2] at htop;replace htop:=aa htop;go_wp2_with (first | (go_at_call 72;(with_reducible refine (hcp.out _ (ab _)).mono ?_);rintro e w9 ⟨q9,c9,rfl,o9,E9⟩;have hE9:=aa E9;have ho9:=aa o9;have hle9:=aa (aS hz.ext.le E9.le);clear o9 E9) | (at_builtin;refine cZ _ rfl _ _ 39 rfl V0 79 i0 (.agg #[(0:Int),.slice none 0 0]) 2 32 underlying39 hi hz0 hz1 hz2 rfl oM _ _ _ rfl (cv (aG htop.out hE9.out) _) ⟨_,0,none⟩ 1 1 [.int .i64 (k:Int),sl q9 (ah xg).length c9] rfl rfl (dg _ [_,_] _) (by intro u9 h9;simp at h9;rcases h9 with rfl | rfl <;> rfl) (cx oM oM) oM (by have:=hle9.out;simp;omega) ?_;intro v2 wA hoA hgA hnA hbA;obtain⟨qn,cn,rfl⟩:=cq hoA;have hP:=aa (AwI.push hz.ext hE9.out ((k:Int),xg) ho9.out hN2.symm hH9.out hoA hgA hbA);have hBA:=aa (((bz.ext hE9.out).alloc _).mut (uW hgA) (λ hh=>by have:=hz.geA _ hh;omega));clear hoA hgA hbA) | (go_at_call 54;(with_reducible refine (hcp.out _ (ab _)).mono ?_);rintro e w9 ⟨q9,c9,rfl,o9,E9⟩;have hE9:=aa E9;have ho9:=aa o9;have hle9:=aa (aS hz.ext.le E9.le);clear o9 E9) | fail);go_roundw
 case rel=>exact⟨j+1,qa,ca,qn,cn,oM,by rw [hkp.out,hN1.out];rfl,by rw [hwd.out,aw trivial,aI,hN2.out];rfl,gN,aa (by rw [hkp.out,hwd.out,aw trivial,aw trivial];exact hP.swap),hBA⟩
 case measure=>exact mS):P:=h
theorem vp(h:P:=by go_wp2_with (first | (go_at_call 266;clear g0 l0;refine aR b0 E (Dz x k _ hk) λ w3 E g0 l0=>?_) | (go_at_call 267;refine (cf.out _ E).mono ?_;rintro e w4 ⟨rfl,E4⟩;replace E:=E.trans E4;clear g0 l0 g1 l1 E4;have⟨g0,l0⟩:=(b0.ext E).gl;have⟨g1,l1⟩:=(b1.ext E).gl) | (go_at_call 121;clear g0 l0;refine aR b0 E (SO a b d nets pins p n c base _ ((s.ext cW E0).ext cW E) hn hnets) λ w3 E g0 l0=>?_) | ((with_reducible refine cI 3 ?_);refine cy (op:=⟨some 3,_,_,_,_,_⟩) rfl 254 (Operand.tmp 1) rfl w 0 rfl (am x) _ r0.out underlying254 rfl sz2.out ?_) | (go_at_call 272;refine CE.t E (Sw x _ hf) λ w3 E=>?_));exact px):P:=h
theorem sN(h:P:=by
 refine bW ?_;rintro w7 ⟨⟨_,h7⟩,rfl⟩;go_wp2;go_roundw
 case rel =>
  refine⟨k+1,oM,gN,E.trans h7,λ i hi=>?_⟩;by_cases hjk:i=k
  . subst hjk;exact hr.out
  . exact hA.out i oM
 case measure=>exact mS):P:=h
theorem pn(h:P:=by rw [hv.out] at hcall;go_wp2_with fail;exact Cl):P:=h
theorem zj(h:P:=by
 go_wp2_with (fail);refine (h1.out _ _ i I1.out oM).mono ?_;rw [hfi.out];rintro e9 w9 ⟨rfl,E9⟩;replace I1:=aa (hI.out _ _ _ I1.out E9);clear E9;go_wp2_with (fail);refine (h1.out _ _ i I1.out oM).mono ?_;rw [hfi.out];rintro e9 w9 ⟨rfl,E9⟩;replace I1:=aa (hI.out _ _ _ I1.out E9);clear E9;go_wp2_with (fail);refine (h2.out _ i ((i:Int) - 40) ((e:Int) - 40) I1.out oM oM).mono ?_;rintro e9 w9 ⟨rfl,I2⟩;replace I2:=aa I2;go_wp2_with (fail);go_roundw
 case rel=>exact⟨e,he2,rfl,by show I _ _;rw [hst.out,<-fc];exact I2.out,hnx⟩
 case measure=>exact mS):P:=h
theorem zk(h:P:=by rw [hu,<-hsh,<-hnext] at hn;rw [hu] at zt ft hat6;replace hoc2:=aa hoc2;rw [<-hnext] at hme;replace hnext:=aa hnext;replace hw:=aa hw;clear hg hoc hxa hya hst htc hxm hym hc0 hcb huk hon hu hub hd hsh;go_wp2_with (first | (go_at_call 364;refine (hwi.out _).mono ?_;rintro e w' ⟨rfl,rfl⟩) | (go_at_call 363;first | ((with_reducible refine (yC x y _ hxl hlt).mono ?_);rintro e w' ⟨rfl,rfl⟩) | ((with_reducible refine (kQ _ _ _ hoc2.out).mono ?_);rintro e w' ⟨rfl,rfl⟩) | fail));exact Cq):P:=h
theorem zm(h:P:=by
 go_region_held3 (λ W=>W.cell? (ad w 0)=sq b off n n/\W.cell? (ad bq (oq+i*5))=si (xa:Int)/\W.cell? (ad b (off+xa*4))=some (.string ce.s)/\W.cell? (ad b (off+xa*4+1))=ss p1 n1 c1/\W.cell? (ad b (off+xa*4+2))=ss p2 n2 c2/\W.cell? (ad b (off+xa*4+3))=ss p3 n3 c3) (first | exact hSV.out _ (ab _) | exact hSV.out _ (ab _).drew | exact hSV.out _ ((ab _).alloc _).drew | exact hSV.out _ ((ab _).drew.alloc _) | exact hSV.out _ ((ab _).alloc _)) (fail)
 all_goals first
  | exact⟨⟨aD w6 [_,_,_,_] _,(ab w6).alloc _⟩,by kernel_rfl⟩
  | exact⟨⟨(aD w6 [_,_,_,_] _).drew,((ab w6).alloc _).drew⟩,by kernel_rfl⟩
  | exact⟨⟨aD (w6).drew [_,_,_,_] _,(ab w6).drew.alloc _⟩,by kernel_rfl⟩
  | fail):P:=h
theorem na(h:P:=by repeat (first | exact ab _ | refine gC ?_ _)):P:=h
theorem jW(h:P:=by go_ret;exact⟨bu hr.out,hE⟩):P:=h
theorem zo(h:P:=by
 go_wp2_with fail;go_loopw [3] (λ i wr=>∃ k:Nat,k<=8/\i=.int .i64 k/\Ext w wr) (λ i _=>8 - (intOf i).toNat)
 case atStart=>exact⟨0,oM,rfl,ab _⟩
 case round =>
  obtain⟨k,hk,rfl,hE⟩:=hrel;by_cases hlt:k<8
  . have hkI:(k:Int)<8:=oM;obtain⟨b,off,q1,n1,c1,l,rfl,hb,hx,z,s⟩:=(h.ext hE).get hlt;have hrl:=hr.out l (ap hx.out);have hcall:=kL q1 n1 c1 l wr s (by have:=eC hrl;have:=s.length;omega);rw [hrl] at hcall;replace hcall:=aa hcall;clear s hrl;go_wp2_with (first | (go_at_call 161;refine hcall.mono ?_;rintro e w2 ⟨rfl,hb2⟩) | fail);have pA:=hb2;exact wd
  . have hkI:¬ (k:Int)<8:=oM;go_wp2_with fail;go_ret;exact⟨rfl,hE⟩):P:=h
theorem zp(h:P:=by
 rw [hen] at hends;have hout:=aa (GS hs.out hen);clear hen
 cases A1 <;> cases B1 <;> cases B2 <;> cases A2 <;> first | (exact absurd hends (by decide)) | skip
 all_goals
  clear hends;go_wp2_with (first | (go_at_call 381;(first | (with_reducible refine (m1.out _ (ab _)).mono ?_) | (with_reducible refine (m2.out _ (ab _)).mono ?_) | (with_reducible refine (m3.out _ (ab _)).mono ?_) | (with_reducible refine (m4.out _ (ab _)).mono ?_));rintro e w9 ⟨rfl,rfl⟩) | fail);go_roundw
  case rel=>exact⟨j+1,q2,c2,L,oM,rfl,gN,aa (by rw [hL.out,hout.out]),hI8⟩
  case measure=>exact mS):P:=h
theorem mg(h:P:=by
 go_roundw
 case rel=>exact⟨k+1,oM,gN,hE.trans hb2,hr⟩
 case measure=>exact mS):P:=h
theorem zq(h:P:=by
 go_wp2_with (at_builtin;refine qG _ rfl _ _ 77 rfl w 139 i0 (.agg #[(0:Int),(0:Int),(0:Int),(0:Int)]) 4 32 underlying77 hi hz0 hz1 hz2 rfl oM _ _ _ rfl (ho.alloc _) ⟨_,0,none⟩ 1 1 [.int .i64 x,.int .i64 y,.int .i64 _,.int .i64 _] rfl rfl (dg _ [_,_,_,_] _) (iq _ _ _ _) (by unfold maxLen;omega) oM (by simp;omega) ?_;intro v' w1 ho' hg' _;obtain⟨qa,ca,rfl⟩:=cq ho';have hE1:=aa ((hE.alloc _).grown hg' (λ k hk=>(ho.lt k hk).1));replace ho':=aa ho';clear hg');go_roundw
 case rel=>exact⟨x+s,_,qa,ca,oM,oM,by rw [aI];rfl,rfl,hC2,by rw [aI,dj];exact ho'.out,hE1.out⟩
 case measure=>exact mS):P:=h
theorem vt(h:P:=by
 go_wp2
 all_goals
  go_roundw
  case rel=>exact⟨j,s',_,_,oM,rfl,lN (by have:=hdx.out;omega),hmv,r1.out,r2.out,hqM.out,r4.out⟩
  case measure=>simp [intOf] <;> omega):P:=h
theorem zr(h:P:=by
 go_wp2_with (fail);refine (h1.out _ _ e I1.out oM).mono ?_;rw [hfe.out];rintro e9 w9 ⟨rfl,E9⟩;replace I1:=aa (hI.out _ _ _ I1.out E9);clear E9;go_wp2_with (fail);refine (h1.out _ _ i I1.out oM).mono ?_;rw [hfi.out];rintro e9 w9 ⟨rfl,E9⟩;replace I1:=aa (hI.out _ _ _ I1.out E9);clear E9;go_wp2_with (fail);go_roundw
 case rel=>exact⟨e+1,oM,oM,gN,I1,hc2⟩
 case measure=>exact mS):P:=h
theorem nN(h:P:=by show _=_;have:=hL.out;rw [cz hl.out (ai _)] at this;rw [ak,hl.out,ar oM];omega):P:=h
theorem Ik(h:P:=by
 have:=tG p 2 c base pins (λ y=>!ae y 0 (nets - 1)) 183 #[.pointer (so (w+1) 0)] (fb func183 kR rfl) W ((h.ext cW E0).ext cW hX)
  (λ W2 y hE hy=>vj y nets (w+1) W2 hnets (((hX.trans hE).cells _ _ b1.lt).trans (b1.cells 0))) oM
 rw [jB,a1.out] at this;exact this):P:=h
theorem zu(h:P:=by rw [hu,<-hsh,<-hnext] at hn;rw [<-hnext] at hme;replace hnext:=aa hnext;clear hg hw hxm hym hc0 hcb huk hon hu hub hd hsh hoff;go_wp2_with (first | (go_at_call 364;refine (hwi.out _).mono ?_;rintro e w' ⟨rfl,rfl⟩) | (go_at_call 363;((with_reducible refine (yC x y _ hxl hlt).mono ?_);rintro e w' ⟨rfl,rfl⟩)) | fail);exact Cq):P:=h
theorem mh(h:P:=by go_wp2;go_ret;exact⟨cp hr.out,ab _⟩):P:=h
theorem vu(h:P:=by
 rw [fd,fd] at hq;obtain⟨a,rfl,rfl⟩:=mem_blkOf.1 hb;rcases hq with hq | hq
 . left;rw [Option.map_some,eq_comm,ew] at hq;obtain⟨a',h1,h2⟩:=hq;exact mem_blkOf.2 ⟨a',h1,h2⟩
 . right;simp only [Option.map_some,Option.some.injEq] at hq;rw [hq];exact ai _):P:=h
theorem qS(h:P:=by have⟨g0,l0⟩:=(a0.ext E).gl;have⟨g1,l1⟩:=(a1.ext E).gl;go_wp2_with fail;exact px):P:=h
theorem Il(h:P:=by
 go_upto_region 1 with (fail);generalize hW:World.alloc _ _=W0;obtain⟨E0,z0,b0⟩:=al hW;clear hW z0;replace b0:=gG b0;have⟨g0,l0⟩:=b0.gl;have E:=ab W0;go_wp2_with (first | (go_at_call 117;refine aO (dd _ _ _ _) ?_) | (go_at_call 279;clear g0 l0;refine aR b0 E (mn x.tr _) λ w3 E g0 l0=>?_) | (go_at_call 220;refine aO (jY _ _ _ _) ?_) | (go_at_call 224;clear g0 l0;refine aR b0 E (ls x.tr _) λ w3 E g0 l0=>?_));all_goals go_ret
 all_goals exact⟨bu (by rw [<-hr.out] <;> first | (revert h6;simp;done) | (revert h6;simp;omega) | (revert h6;simp <;> omega) | omega),E0.trans E⟩):P:=h
theorem ja(h:P:=by go_wp2_with fail;go_ret;exact⟨rfl,hE⟩):P:=h
theorem zv(h:P:=by
 have hjI:¬ (j:Int)<(G.length:Int):=oM;obtain rfl:j=G.length:=oM;have hfin:Hid (cY L R (k+1)=cY L R k++(G.take G.length).map λ g=>((k:Int),g)):=aa (by rw [Ht,hkk.out,List.take_length]);have hlen9:Hid ((cY L R (k+1)).length=(cY L R k).length+G.length):=aa (by rw [hfin.out,aI,dD,fI,Nat.min_self]);go_wp2_with (fail);go_roundw
 case rel=>exact⟨k+1,q5,c5,oM,by rw [hlen9.out],gN,aa (by rw [hfin.out];exact hC.own),aa hC.ext⟩
 case measure=>exact mS):P:=h
theorem Im(h:P:=by go_upto_region 1 with (fail);generalize hW:World.alloc (World.alloc _ _) _=W0;obtain⟨E0,z0,b0,b1⟩:=bV hW;clear hW z0;replace b0:=aa (show Blk W0 w [sl p n n] _ from b0);replace b1:=aa (show Blk W0 (w+1) [sl p2 m m] _ from b1);have⟨g0,l0⟩:=b0.gl;go_upto_region 4 with (first | (go_at_call 65;(with_reducible refine (hfl.out _ E0).mono ?_);rintro e w1 ⟨q1,c1,H1,rfl,hO1,E1⟩;have hE1:=aa (E0.trans E1);have bl1:=aa (b0.ext E1);have bd1:=aa (b1.ext E1);have hS1:=aa hO1.toS) | (go_at_call 48;(with_reducible refine (hfl.out _ E0).mono ?_);rintro e w1 ⟨q1,c1,H1,rfl,hO1,E1⟩;have hE1:=aa (E0.trans E1);have bl1:=aa (b0.ext E1);have bd1:=aa (b1.ext E1);have hS1:=aa hO1.toS) | fail);rw [h8] at hS1;have⟨gd,ld⟩:=bd1.gl;clear g0 l0 E0 E1 b0 b1 hO1;go_wp2_with (first | (go_at_call 66;(with_reducible refine (hck.out _ _ _ hE1.out hS1.out).mono ?_);rintro e w2 ⟨q2,c2,rfl,hO2,E2⟩;have hE2:=aa (hE1.trans E2)) | (go_at_call 49;(with_reducible refine (hck.out _ _ _ hE1.out hS1.out).mono ?_);rintro e w2 ⟨q2,c2,rfl,hO2,E2⟩;have hE2:=aa (hE1.trans E2)) | fail);refine bB (nI rfl _ _ _) rfl ?_;exact⟨none,0,0,rfl,OwV.nil _ _,hE2.out⟩):P:=h
theorem vv(h:P:=by have hjI:¬ (j:Int)<6400:=oM;obtain rfl:j=6400:=oM;have t9:=aa (dH hO.out);have e9:=aa (Eg (PG f o));go_wp2_with (first | (go_at_call 160;(with_reducible refine (kK w3 6400 _ _ t9.out).mono ?_);rintro e w7 ⟨q7,c7,rfl,o7,E7⟩;replace o7:=aa o7;replace E7:=aa E7) | (go_at_call 160;(with_reducible refine (kK B5 6400 _ _ t9.out).mono ?_);rintro e w7 ⟨q7,c7,rfl,o7,E7⟩;replace o7:=aa o7;replace E7:=aa E7) | (go_at_call 160;(with_reducible refine (kK B6 6400 _ _ t9.out).mono ?_);rintro e w7 ⟨q7,c7,rfl,o7,E7⟩;replace o7:=aa o7;replace E7:=aa E7) | fail);go_ret;rw [hm.out,<-hf.out,<-e9.out];exact⟨q7,c7,rfl,fi o7.out hX.le,hX.trans E7.out⟩):P:=h
theorem zw(h:P:=by rw [h2] at hin;replace hin:=aa hin;go_enter func276,ntmps276;go_upto_region 1 with (fail);generalize hW:World.alloc _ _=W0;obtain⟨E0,z0,b0⟩:=al hW;clear hW z0;replace b0:=cC b0;have⟨g0,l0⟩:=b0.gl;have E:=ab W0;go_wp2_with (first | (go_at_call 112;clear g0 l0;refine aR b0 E (hlib.out _ ((E0.trans E))) λ w3 E g0 l0=>?_) | (go_at_call 117;refine (hin.out _).mono ?_;rintro e w5 ⟨rfl,rfl⟩));go_ret;exact⟨by rw [mG,h1,h2];rfl,E0.trans E⟩):P:=h
theorem vw(h:P:=by
 go_wp2_with (fail);go_roundw
 case rel=>exact⟨i+1,q2,N2,c2z,L,oM,rfl,gN,aa hI.own,hX,hall,aa (by have:=hNb.out;omega),hNe⟩
 case measure=>exact mS):P:=h
theorem nO(h:P:=by show _=_;have:=hst.out;have:=hle.out;have:=hL.out;rw [ak,hl.out,aw oM]):P:=h
theorem sO(h:P:=by
 go_roundw
 case rel=>exact⟨x+1,oM,lN oM,hn⟩
 case measure=>exact mS):P:=h
theorem zx(h:P:=by
 have hltI:¬ (i:Int)<(N:Int):=oM;have hfin:Hid ((ct cells ⟨(kk:Int),0,0,0⟩).all im=true):=by have:=hall.out;rwa [cz hNL.out oM] at this
 have hr:=aa (Lv h1.out h2l.out (by have:=h3h.out;omega) hfin.out);replace E6:=aa E6;go_wp2_with (fail);go_ret2;exact⟨q,c,H',by rw [hr.1,hr.2,hNL.out];rfl,by rw [hr.2,hNL.out];exact hO.ext E6.out,by rw [hr.2];exact hval.out,E0.trans (hE5.trans E6.out)⟩):P:=h
theorem sP(h:P:=by
 go_wp2_with (fail);go_roundw
 case rel=>exact⟨j+1,q2,c2,L,oM,rfl,gN,aa (by rw [hL.out,Pb hs.out hbr.out]),aa (hI.alloc _)⟩
 case measure=>exact mS):P:=h
theorem In(h:P:=by
 go_upto_region 1 with (fail);generalize hW:World.alloc _ _=W0;obtain⟨E0,z0,b0⟩:=al hW;clear hW z0;replace b0:=gG b0;have⟨g0,l0⟩:=b0.gl;have E:=ab W0;go_wp2_with (first | (go_at_call 117;refine aO (dd _ _ _ _) ?_) | (go_at_call 279;clear g0 l0;refine aR b0 E (mn x.tr _) λ w3 E g0 l0=>?_) | (go_at_call 220;refine aO (jY _ _ _ _) ?_) | (go_at_call 224;clear g0 l0;refine aR b0 E (ls x.tr _) λ w3 E g0 l0=>?_));all_goals go_ret
 all_goals exact⟨bu (by rw [<-hr.out] <;> simp [h0,h1,h2,h3,h4,h5]),E0.trans E⟩):P:=h
theorem vx(h:P:=by
 have hr:=aa (tH hA.out hx.out hq);rw [hq] at hcall;clear hq;go_wp2_with (first | (go_at_call 216;refine hcall.mono ?_;rintro e w4 ⟨rfl,E4⟩) | (go_at_call 217;refine hcall.mono ?_;rintro e w4 ⟨rfl,E4⟩) | (go_at_call 218;refine hcall.mono ?_;rintro e w4 ⟨rfl,E4⟩));go_roundw
 case rel=>exact⟨j+1,oM,gN,E.trans E4,hr⟩
 case measure=>exact mS):P:=h
theorem vy(h:P:=by have:=DB p1 n1 c1 base x.shs (λ y=>!eR y) 259 #[] (fb func259 kR rfl) W ((s1.ext okShape E0).ext okShape hX) (λ W y cs hE hy hcs=>by cases hcs;exact DO y W) oM;rw [jB,a1.out] at this;exact this):P:=h
theorem vz(h:P:=by
 have hr:=aa (tH hA.out hx.out hq);go_wp2_with (first | (go_at_call 95;refine aO (jZ _ _ _ _) ?_));go_roundw
 case rel=>exact⟨j+1,oM,gN,E,hr⟩
 case measure=>exact mS):P:=h
theorem zy(h:P:=by
 have:=Je p1 n1 c1 base devs (λ y=>!aL y nets) 120 #[.pointer (so w 0)] (fb func120 kR rfl) W ((s1.ext aL25 E0).ext aL25 hX)
  (λ W2 y cs hE hy hcs=>by obtain⟨p4,n4,c4,rfl,s4⟩:=hcs;exact SQ y nets p4 n4 c4 base w W2 s4 (by rw [<-s4.length];exact f2.out y hy) hnets (aF b0.lt (hX.trans hE).le) (((hX.trans hE).cells _ _ b0.lt).trans (b0.cells 0))) oM
 rw [jB,ha] at this;exact this):P:=h
theorem Io(h:P:=by go_upto_region 1 with (fail);generalize hW:World.alloc _ _=W0;obtain⟨E0,z0,b0⟩:=al hW;clear hW z0;replace b0:=aa (show Blk W0 w [sl p1 n1 n1,sl p2 n2 c2,sl p3 n3 c3,sl p4 n4 n4,sl p5 n5 c5,x.nl.nets,sl p6 n6 c6,sl p7 n7 c7] _ from b0);have⟨g0,l0⟩:=b0.gl;replace E0:=aa E0;go_wp2_with (first | (go_at_call 24;(with_reducible refine (hv.out _ E0.out).mono ?_);rintro e w2 ⟨rfl,E2⟩;have hE2:=aa (E0.trans E2);have bx2:=b0.ext E2;have⟨gx2,lx2⟩:=bx2.gl;replace bx2:=aa bx2) | (go_at_call 25;(with_reducible refine (hh.out _ hE2.out).mono ?_);rintro e w3 ⟨q3,c3x,t3,rfl,hO3,E3⟩;have hE3:=aa (hE2.trans E3);have hV3:=aa hO3.toV;have bx3:=bx2.ext E3;have⟨gx3,lx3⟩:=bx3.gl) | (go_at_call 26;(with_reducible refine (ha.out _ _ _ hE3.out hV3.out).mono ?_);rintro e w4 ⟨q4,c4x,q5,c5x,rfl,hA4⟩) | (go_at_call 17;(with_reducible refine (hv.out _ E0.out).mono ?_);rintro e w2 ⟨rfl,E2⟩;have hE2:=aa (E0.trans E2);have bx2:=b0.ext E2;have⟨gx2,lx2⟩:=bx2.gl;replace bx2:=aa bx2) | (go_at_call 18;(with_reducible refine (hh.out _ hE2.out).mono ?_);rintro e w3 ⟨q3,c3x,t3,rfl,hO3,E3⟩;have hE3:=aa (hE2.trans E3);have hV3:=aa hO3.toV;have bx3:=bx2.ext E3;have⟨gx3,lx3⟩:=bx3.gl) | (go_at_call 19;(with_reducible refine (ha.out _ _ _ hE3.out hV3.out).mono ?_);rintro e w4 ⟨q4,c4x,q5,c5x,rfl,hA4⟩) | fail);refine bB (nI rfl _ _ _) rfl ?_;exact⟨q4,c4x,q5,c5x,rfl,hA4.low hE3.out⟩):P:=h
theorem Ip(h:P:=by go_upto_region 1 with (fail);generalize hW:World.alloc _ _=W0;obtain⟨E0,z0,b0⟩:=al hW;clear hW z0;replace b0:=aa (show Blk W0 w [sl p1 n1 n1,sl p2 n2 c2,sl p3 n3 c3,sl p4 n4 n4,sl p5 n5 c5,x.nl.nets,sl p6 n6 c6,sl p7 n7 c7] _ from b0);have⟨g0,l0⟩:=b0.gl;replace E0:=aa E0;go_wp2_with (first | (go_at_call 24;(with_reducible refine (hv.out _ E0.out).mono ?_);rintro e w2 ⟨rfl,E2⟩;have hE2:=aa (E0.trans E2);have bx2:=b0.ext E2;have⟨gx2,lx2⟩:=bx2.gl;replace bx2:=aa bx2) | (go_at_call 25;(with_reducible refine (hh.out _ hE2.out).mono ?_);rintro e w3 ⟨q3,c3x,t3,rfl,hO3,E3⟩;have hE3:=aa (hE2.trans E3);have hV3:=aa hO3.toV;have bx3:=bx2.ext E3;have⟨gx3,lx3⟩:=bx3.gl) | (go_at_call 17;(with_reducible refine (hv.out _ E0.out).mono ?_);rintro e w2 ⟨rfl,E2⟩;have hE2:=aa (E0.trans E2);have bx2:=b0.ext E2;have⟨gx2,lx2⟩:=bx2.gl;replace bx2:=aa bx2) | (go_at_call 18;(with_reducible refine (hh.out _ hE2.out).mono ?_);rintro e w3 ⟨q3,c3x,t3,rfl,hO3,E3⟩;have hE3:=aa (hE2.trans E3);have hV3:=aa hO3.toV;have bx3:=bx2.ext E3;have⟨gx3,lx3⟩:=bx3.gl) | fail);refine bB (nI rfl _ _ _) rfl ?_;exact⟨none,0,none,0,rfl,AwI.nil hE3.out⟩):P:=h
theorem vA(h:P:=by
 go_wp2_with (fail);go_roundw
 case rel=>exact⟨j+1,oM,gN,aa (hX.setCell hlo6.out _),aa (hA.set hne4.out),aa (hB.set hne8.out),aa (by rw [<-hst.out,hfj.out];exact f7 hO.out _ _)⟩
 case measure=>exact mS):P:=h
theorem zA(h:P:=by
 go_upto_region 12 with (fail);refine aQ kR kR ?_;repeat (go_big_quiet_step (fail))
 refine bW ?_;rintro wN ⟨⟨_,EN⟩,rfl⟩;have hN:=aa (hM.trans (hZ.trans EN));go_wp2_with (fail);go_roundw
 case rel=>exact⟨k+1+1,oM,gN,hN⟩
 case measure=>exact mS):P:=h
theorem Iq(h:P:=by
 go_upto_region 1 with (fail);generalize hW:World.alloc _ _=W0;obtain⟨E0,z0,b0⟩:=al hW;clear hW z0;replace b0:=gG b0;have⟨g0,l0⟩:=b0.gl;have E:=ab W0;go_wp2_with (first | (go_at_call 117;refine aO (dd _ _ _ _) ?_) | (go_at_call 279;clear g0 l0;refine aR b0 E (mn x.tr _) λ w3 E g0 l0=>?_) | (go_at_call 220;refine aO (jY _ _ _ _) ?_) | (go_at_call 224;clear g0 l0;refine aR b0 E (ls x.tr _) λ w3 E g0 l0=>?_));all_goals go_ret
 all_goals exact⟨bu (by rw [<-hr.out] <;> simp [h0,h1,h2,h3,h4]),E0.trans E⟩):P:=h
theorem zB(h:P:=by
 have hjI:¬ (j:Int)<(n1:Int):=oM;obtain rfl:j=n1:=oM;have e1:Hid (l2.map Prod.snd=aX cells ((aA cells k).take (i+1))):=by show _=_;rw [hval3.out,cz hsl.out (ai _),ur hxL.out,ms,hshA.out]
 have hM200:=hM2.out;go_wp2_with (fail);go_roundw
 case rel=>exact⟨i+1,q2,N2,c2,l2,oM,rfl,gN,hO,hX.out,e1⟩
 case measure=>exact mS):P:=h
theorem Ir(h:P:=by go_upto_region 1 with (fail);generalize hW:World.alloc _ _=W0;obtain⟨E0,z0,b0⟩:=al hW;clear hW z0;replace b0:=aa (show Blk W0 w [sl p1 n1 n1,sl p2 n2 c2,sl p3 n3 c3,sl p4 n4 n4,sl p5 n5 c5,x.nl.nets,sl p6 n6 c6,sl p7 n7 c7] _ from b0);have⟨g0,l0⟩:=b0.gl;replace E0:=aa E0;go_wp2_with (first | (go_at_call 24;(with_reducible refine (hv.out _ E0.out).mono ?_);rintro e w2 ⟨rfl,E2⟩;have hE2:=aa (E0.trans E2);have bx2:=b0.ext E2;have⟨gx2,lx2⟩:=bx2.gl;replace bx2:=aa bx2) | (go_at_call 17;(with_reducible refine (hv.out _ E0.out).mono ?_);rintro e w2 ⟨rfl,E2⟩;have hE2:=aa (E0.trans E2);have bx2:=b0.ext E2;have⟨gx2,lx2⟩:=bx2.gl;replace bx2:=aa bx2) | fail);refine bB (nI rfl _ _ _) rfl ?_;exact⟨none,0,none,0,rfl,AwI.nil hE2.out⟩):P:=h
theorem zC(h:P:=by
 go_wp2_with (fail);refine (h1.out _ _ i I1.out oM).mono ?_;rw [hfi.out];rintro e9 w9 ⟨rfl,E9⟩;replace I1:=aa (hI.out _ _ _ I1.out E9);clear E9;go_wp2_with (fail);go_roundw
 case rel=>exact⟨e,he2,rfl,by show I _ _;rw [hst.out];exact I1.out,hnx⟩
 case measure=>exact mS):P:=h
theorem Is(h:P:=by
 go_upto_region 1 with (fail);generalize hW:World.alloc _ _=W0;obtain⟨E0,z0,b0⟩:=al hW;clear hW z0;replace b0:=gG b0;have⟨g0,l0⟩:=b0.gl;have E:=ab W0;go_wp2_with (first | (go_at_call 117;refine aO (dd _ _ _ _) ?_) | (go_at_call 279;clear g0 l0;refine aR b0 E (mn x.tr _) λ w3 E g0 l0=>?_) | (go_at_call 220;refine aO (jY _ _ _ _) ?_) | (go_at_call 224;clear g0 l0;refine aR b0 E (ls x.tr _) λ w3 E g0 l0=>?_));all_goals go_ret
 all_goals exact⟨bu (by rw [<-hr.out] <;> simp [h0,h1,h2,h3]),E0.trans E⟩):P:=h
theorem It(h:P:=by go_upto_region 1 with (fail);generalize hW:World.alloc (World.alloc _ _) _=W0;obtain⟨E0,z0,b0,b1⟩:=bV hW;clear hW z0;replace b0:=aa (show Blk W0 w [sl p n n] _ from b0);replace b1:=aa (show Blk W0 (w+1) [sl p2 m m] _ from b1);have⟨g0,l0⟩:=b0.gl;go_wp2_with (first | (go_at_call 65;(with_reducible refine (hfl.out _ E0).mono ?_);rintro e w1 ⟨q1,c1,H1,rfl,hO1,E1⟩;have hE1:=aa (E0.trans E1)) | (go_at_call 48;(with_reducible refine (hfl.out _ E0).mono ?_);rintro e w1 ⟨q1,c1,H1,rfl,hO1,E1⟩;have hE1:=aa (E0.trans E1)) | fail);refine bB (nI rfl _ _ _) rfl ?_;exact⟨none,0,0,rfl,OwV.nil _ _,hE1.out⟩):P:=h
theorem zD(h:P:=by refine bW ?_;rintro w7 ⟨⟨_,h7⟩,rfl⟩;go_wp2;go_ret;exact⟨bu hr.out,E.trans h7⟩):P:=h
theorem Iu(h:P:=by
 have hNl:=(cM ho.out).2
 cases hg:g k <;> cases hh:h k
 all_goals
  rw [hg] at z1;rw [hh] at z2;rw [hg,hh] at hst;have hst:=aa hst;clear hg hh;go_wp2;go_roundw
  case rel=>exact⟨k+1,oM,gN,aa (by rw [<-hst.out];exact f7 ho.out _ _),hE.setCell (p:=(ad N k)) hNw _⟩
  case measure=>simp [intOf] <;> omega):P:=h
theorem sQ(h:P:=by generalize ae b 0 7=P;generalize ae c 0 7=Q;generalize (c==b)=R;generalize ae d 1 8=S;generalize (e==0)=T;revert P Q R S T;decide):P:=h
theorem mi(h:P:=by go_ret;exact⟨cp hr.symm,hE.trans hb2⟩):P:=h
theorem zE(h:P:=by go_upto_region 1 with (fail);generalize hW:World.alloc _ _=W0;obtain⟨E0,z0,b0⟩:=al hW;clear hW z0;replace b0:=aa (show Blk W0 w [sl p n n] _ from b0);have⟨g0,l0⟩:=b0.gl;go_wp2_with (first | (go_at_call 124;(with_reducible refine (k1.out _ E0).mono ?_);rintro e w1 ⟨rfl,E1⟩;have b1:=aa (b0.ext E1);have hE1:=aa (E0.trans E1);clear g0 l0 E1;have⟨g1,l1⟩:=b1.gl) | (go_at_call 62;(with_reducible refine (k2.out _ hE1.out).mono ?_);rintro e w2 ⟨rfl,E2⟩;have b2:=aa (b1.ext E2);have hE2:=aa (hE1.trans E2);clear g1 l1 E2;have⟨g2,l2⟩:=b2.gl) | (go_at_call 125;(with_reducible refine (k3.out _ hE2.out).mono ?_);rintro e w3 ⟨q3,c3,rfl,o3,E3⟩;replace o3:=aa o3;have hE3:=aa (hE2.trans E3);clear E3) | (go_at_call 100;(with_reducible refine (k1.out _ E0).mono ?_);rintro e w1 ⟨rfl,E1⟩;have b1:=aa (b0.ext E1);have hE1:=aa (E0.trans E1);clear g0 l0 E1;have⟨g1,l1⟩:=b1.gl) | (go_at_call 45;(with_reducible refine (k2.out _ hE1.out).mono ?_);rintro e w2 ⟨rfl,E2⟩;have b2:=aa (b1.ext E2);have hE2:=aa (hE1.trans E2);clear g1 l1 E2;have⟨g2,l2⟩:=b2.gl) | (go_at_call 101;(with_reducible refine (k3.out _ hE2.out).mono ?_);rintro e w3 ⟨q3,c3,rfl,o3,E3⟩;replace o3:=aa o3;have hE3:=aa (hE2.trans E3);clear E3) | fail);refine bB (results_tmp2 rfl _ _ _) rfl ?_;unfold qu;rw [hcc.1,hcc.2];exact⟨q3,c3,rfl,o3.low hE2.le,hE3.out⟩):P:=h
theorem zF(h:P:=by go_upto_region 1 with (fail);generalize hW:World.alloc _ _=W0;obtain⟨E0,z0,b0⟩:=al hW;clear hW z0;replace b0:=aa (show Blk W0 w [sl p n n] _ from b0);have⟨g0,l0⟩:=b0.gl;go_wp2_with (first | (go_at_call 124;(with_reducible refine (k1.out _ E0).mono ?_);rintro e w1 ⟨rfl,E1⟩;have b1:=aa (b0.ext E1);have hE1:=aa (E0.trans E1);clear g0 l0 E1;have⟨g1,l1⟩:=b1.gl) | (go_at_call 62;(with_reducible refine (k2.out _ hE1.out).mono ?_);rintro e w2 ⟨rfl,E2⟩;have b2:=aa (b1.ext E2);have hE2:=aa (hE1.trans E2);clear g1 l1 E2;have⟨g2,l2⟩:=b2.gl) | (go_at_call 125;(with_reducible refine (k3.out _ hE2.out).mono ?_);rintro e w3 ⟨q3,c3,rfl,o3,E3⟩;replace o3:=aa o3;have hE3:=aa (hE2.trans E3);clear E3) | (go_at_call 100;(with_reducible refine (k1.out _ E0).mono ?_);rintro e w1 ⟨rfl,E1⟩;have b1:=aa (b0.ext E1);have hE1:=aa (E0.trans E1);clear g0 l0 E1;have⟨g1,l1⟩:=b1.gl) | (go_at_call 45;(with_reducible refine (k2.out _ hE1.out).mono ?_);rintro e w2 ⟨rfl,E2⟩;have b2:=aa (b1.ext E2);have hE2:=aa (hE1.trans E2);clear g1 l1 E2;have⟨g2,l2⟩:=b2.gl) | (go_at_call 101;(with_reducible refine (k3.out _ hE2.out).mono ?_);rintro e w3 ⟨q3,c3,rfl,o3,E3⟩;replace o3:=aa o3;have hE3:=aa (hE2.trans E3);clear E3) | fail);refine bB (results_tmp2 rfl _ _ _) rfl ?_;unfold qu;rw [hcc.1,hcc.2];exact⟨none,0,rfl,OwV.nil _ _,hE3.out⟩):P:=h
theorem zG(h:P:=by go_ret;rw [hm.out];exact⟨_,0,rfl,fi (dh (size:=4) (aD w2 [] 139) (ai _)) E2.le,E2.alloc _⟩):P:=h
theorem zH(h:P:=by simp only [Array.size_ofFn] at hj;obtain⟨x,l,hx,_,hg⟩:=hget ⟨j,hj⟩;rw [getElem!_pos _ j (by simpa using hj),Array.getElem_ofFn];have hg:H.getD j (none,0,0)=x:=hg;show w.cell? (ad O (0+j))=some (ci (H.getD j (none,0,0)))/\_;rw [hg,fQ];exact⟨by rw [h.top.cellAt j oM,Ms,cK,hx];rfl,ey h.top j⟩):P:=h
theorem sS(h:P:=by
 go_roundw
 case rel=>exact⟨k+1,qa,ca,oM,rfl,gN,aa (by rw [hsn.out];exact hoA.out),hYA⟩
 case measure=>exact mS):P:=h
theorem zJ(h:P:=by go_upto_region 1 with (fail);generalize hW:World.alloc _ _=W0;obtain⟨E0,z0,b0⟩:=al hW;clear hW z0;replace b0:=cC b0;have⟨g0,l0⟩:=b0.gl;have E:=ab W0;go_wp2_with (first | (go_at_call 122;refine (hfs0.out _ (E0.trans E)).mono ?_;rintro e w5 ⟨q,c,rfl,hS,E5⟩;have hEE:=aa (E0.trans (E.trans E5));have hS5:=aa hS;clear g0 l0 E E5 hS) | (go_at_call 123;refine (Nv _ _ _ _ _ hS5.out hok.2 hok.1).mono ?_;rintro e w6 ⟨q6,c6,H6,rfl,hO,E6⟩;replace hO:=aa hO;replace E6:=aa E6) | (go_at_call 98;refine (hfs0.out _ (E0.trans E)).mono ?_;rintro e w5 ⟨q,c,rfl,hS,E5⟩;have hEE:=aa (E0.trans (E.trans E5));have hS5:=aa hS;clear g0 l0 E E5 hS) | (go_at_call 99;refine (QJ _ _ _ _ _ hS5.out hok.2 hok.1).mono ?_;rintro e w6 ⟨q6,c6,H6,rfl,hO,E6⟩;replace hO:=aa hO;replace E6:=aa E6) | fail);go_ret2;exact⟨q6,c6,H6,by rw [hLL.out,uU,hC.out];rfl,by rw [hLL.out,uU];exact hO.low hEE.le,hEE.trans E6.out⟩):P:=h
theorem zK(h:P:=by
 refine @wpStill_nil _ _ _ _ _ ?_;change wpList _ _ _ _ _ wr.drew;go_wp2_with fail;go_roundw
 case rel=>exact⟨u+1,oM,gN,hM2,by have:=hb2.out;rw [hst.out] at this;exact this⟩
 case measure=>exact mS):P:=h
theorem qT(h:P:=by go_wp2_with (first | (go_at_call 216;refine hcall.mono ?_;rintro e w4 ⟨rfl,E4⟩) | (go_at_call 217;refine hcall.mono ?_;rintro e w4 ⟨rfl,E4⟩) | (go_at_call 218;refine hcall.mono ?_;rintro e w4 ⟨rfl,E4⟩) | (go_at_call 172;refine hcall.mono ?_;rintro e w4 ⟨rfl,E4⟩) | (go_at_call 149;refine hcall.mono ?_;rintro e w4 ⟨rfl,E4⟩));go_ret;exact⟨bu hr.out,E0.trans (E.trans E4)⟩):P:=h
theorem zM(h:P:=by
 refine bW ?_;rintro w7 ⟨⟨_,h7⟩,rfl⟩;go_wp2;go_roundw
 case rel =>
  refine⟨k+1,oM,gN,E.trans h7,λ j hj=>?_⟩;by_cases hjk:j=k
  . subst hjk;exact hr.out
  . exact hA.out j oM
 case measure=>exact mS):P:=h
theorem Iv(h:P:=by
 have hlen2:Hid ((L++[s]).length=L.length+1):=aa (by rw [aI];rfl);go_roundw
 case rel=>exact⟨k+1,L++[s],qa,ca,oM,by rw [hlen2.out],gN,aa (by rw [hL.out,hin.out,fc]),hP,aa (by rw [hlen2.out];exact hP2.out)⟩
 case measure=>exact mS):P:=h
theorem sT(h:P:=by have:=qH (base:=w.heap.size) (e:=139) (size:=4) w #[] 0 (by simp) (by simp [maxLen]) (by simp);exact this):P:=h
theorem sU(h:P:=by have:=qH (base:=w.heap.size) (e:=77) (size:=1) w #[] 0 (by simp) (by simp [maxLen]) (by simp);exact this):P:=h
theorem zN(h:P:=by
 refine ho.kept hg ?_;rw [oA,fd]
 cases hy1:y.1 with
 | none=>simp
 | some a =>
   cases hq1:q with
   | none=>simp
   | some b => have:=hy a.block (mem_blkOf.2 ⟨a,hy1,rfl⟩);rw [hq1,mem_blkOf] at this;simp only [Option.map_some];exact aB λ e=>this ⟨b,rfl,cJ e.symm⟩):P:=h
theorem nP(h:P:=by go_wp2_with fail;go_ret;exact⟨cp hr.out,hE⟩):P:=h
theorem zO(h:P:=by go_upto_region 1 with (fail);generalize hW:World.alloc _ _=W0;obtain⟨E0,z0,b0⟩:=al hW;clear hW z0;replace b0:=aa (show Blk W0 w [sl p n c] _ from b0);have⟨g0,l0⟩:=b0.gl;have hM:=aa (kW (lo:=lo) (hi:=hi) E0);have h1:=aa (h.mutF hM.out);go_wp2_with (first | (go_at_call 143;(with_reducible refine (To p n c _ lo hi _ h1.out hn oM oM).mono ?_);rintro e w1 ⟨k1,rfl,⟨ka,kb⟩,M1⟩) | (go_at_call 82;(with_reducible refine (S9 p n c _ lo hi _ h1.out hn oM oM).mono ?_);rintro e w1 ⟨k1,rfl,⟨ka,kb⟩,M1⟩) | fail);go_ret;exact⟨_,rfl,⟨ka,kb⟩,hM.trans M1⟩):P:=h
theorem zP(h:P:=by go_upto_region 1 with (fail);generalize hW:World.alloc _ _=W0;obtain⟨E0,z0,b0⟩:=al hW;clear hW z0;replace b0:=cC b0;have⟨g0,l0⟩:=b0.gl;have E:=ab W0;go_wp2_with (first | (go_at_call 122;refine (hfs0.out _ (E0.trans E)).mono ?_;rintro e w5 ⟨q,c,rfl,E5⟩;replace E:=E.trans E5;clear g0 l0 E5) | (go_at_call 98;refine (hfs0.out _ (E0.trans E)).mono ?_;rintro e w5 ⟨q,c,rfl,E5⟩;replace E:=E.trans E5;clear g0 l0 E5) | fail);go_ret2;exact⟨none,0,[],by rw [hLL.out,hC.out];rfl,by rw [hLL.out];exact OwnS.nil _ _,E0.trans E⟩):P:=h
theorem vB(h:P:=by
 go_wp2_with (fail);go_roundw
 case rel=>exact⟨o+1,oM,by rw [hv2.out],gN,hfin⟩
 case measure=>exact mS):P:=h
theorem zQ(h:P:=by
 have hE1:=aa ((hE.alloc (.cells #[.int .i64 x.a,.int .i64 x.b,.int .i64 x.c,.int .i64 x.d] 139)).then hM (by intro k hk;simp at hk;rw [hk,hB.out];omega));clear hM c0 c1 c2 c3 hb1;replace hb2:=aa hb2;go_wp2_with fail;go_roundw
 case rel=>exact⟨k+1,oM,gN,hE1.out,hb2.out⟩
 case measure=>exact mS):P:=h
theorem Iw(h:P:=by
 have:=tG p 3 c base pins (λ y=>!ae y 0 (nets - 1)) 183 #[.pointer (so (w+1) 0)] (fb func183 kR rfl) W ((h.ext cW E0).ext cW hX)
  (λ W2 y hE hy=>vj y nets (w+1) W2 hnets (((hX.trans hE).cells _ _ b1.lt).trans (b1.cells 0))) oM
 rw [jB,a1] at this;exact this):P:=h
theorem zR(h:P:=by
 have hX3:=aa (hX2.drew);refine wp_region_still_tail 8 kR kR ?_;simp only [List.take_succ_cons,List.take_zero,pa,pb]
 iterate 8 still_step
 refine wpStill_nil ?_;change wpList _ _ _ _ _ w2.drew;go_wp2_with (first | (go_at_call 236;(with_reducible refine (hcall.out _ hX3.out).mono ?_);rintro e w3 ⟨q3,c3,rfl,o3,E3⟩;replace o3:=aa o3;replace E3:=aa E3) | (go_at_call 237;(with_reducible refine (hcall.out _ hX3.out).mono ?_);rintro e w3 ⟨q3,c3,rfl,o3,E3⟩;replace o3:=aa o3;replace E3:=aa E3) | fail);go_ret;exact⟨q3,c3,rfl,fi o3.out hX3.le,hX3.trans E3.out⟩):P:=h
theorem kA(h:P:=by go_ret;exact⟨rfl,rfl⟩):P:=h
theorem zT(h:P:=by
 have lo:∀ {size m:Nat} {e:TypeId} {v:Value} {xs:List Value},w.ownsRow base e size v m xs->w.ownsRow b' e size v m xs:=λ h=>⟨h.1,h.2.elim ay (λ⟨g,cap,cur,hv,hg,r⟩=>aB ⟨g,cap,cur,hv,aS hb hg,r⟩)⟩
 exact⟨h.len,h.lenV,lo h.top,λ k x v hx hv=>lo (h.row k x v hx hv),h.apart,h.under⟩):P:=h
theorem sV(h:P:=by go_wp2_with (first | (go_at_call 192;refine hreg.mono ?_;rintro e w2 ⟨rfl,E2⟩) | (go_at_call 190;refine hc.mono ?_;rintro e w2 ⟨rfl,E2⟩) | (go_at_call 329;(with_reducible refine (hcc.out).mono ?_);rintro e w2 ⟨rfl,E2⟩) | (go_at_call 117;refine (dd _ _ _ _).mono ?_;rintro e w3 ⟨rfl,rfl⟩) | fail);go_ret;exact⟨rfl,E2⟩):P:=h
theorem vC(h:P:=by
 go_roundw
 case rel=>exact⟨j,s',_,_,oM,rfl,lN (by have:=hdx.out;omega),hmv,hw3⟩
 case measure=>simp [intOf] <;> omega):P:=h
theorem sW(h:P:=by generalize ae b 0 7=P;generalize (c==0)=Q;generalize ae d 1 8=R;generalize (e==0)=S;revert P Q R S;decide):P:=h
theorem zU(h:P:=by
 have hC2:Hid (gp s=out++gu s (y+s)):=by show _=_;rw [hC.out,rZ oM,List.nil_append]
 clear hC;replace ho:=aa ho;go_wp2_with fail;go_roundw
 case rel=>exact⟨y+s,out,q,c,oM,oM,rfl,rfl,hC2,ho.out,hE⟩
 case measure=>exact mS):P:=h
theorem zV(h:P:=by
 go_wp2_with (fail);refine aQ kR kR ?_;repeat (go_big_quiet_step (fail))
 refine bW ?_;rintro w7 ⟨⟨_,h7⟩,rfl⟩;go_wp2;refine⟨⟨j,i % j,hj,oM,rfl,by rw [Int.natCast_emod],E.trans h7,hg2⟩,?_⟩;simp only [intOf];omega):P:=h
theorem zW(h:P:=by
 have hr2:Hid (true=eS l):=by show _=_;have:=hA.out;rw [cz hl.out oM] at this;rw [eS,this,hl.out];simp [h3]
 have hkI:¬ (k:Int)<n:=oM;go_wp2_with fail;go_ret;exact⟨bu hr2.out,hE⟩):P:=h
theorem zX(h:P:=by
 have hxI:¬ (x:Int) - 40<40:=oM;have h80:y*80+x=(y+1)*80:=oM;rw [h80] at hw;clear h80;go_wp2_with fail;go_roundw
 case rel=>exact⟨y+1,oM,lN oM,hw⟩
 case measure=>exact mS):P:=h
theorem nQ(h:P:=by go_wp2_with (fail);go_ret;exact⟨rfl,hE.out⟩):P:=h
theorem zY(h:P:=by have:=DC p2 n2 c2 base x.lbs (λ y=>!eI y) 262 #[] (fb func262 kR rfl) W ((s2.ext okLabel E0).ext okLabel hX) (λ W y cs hE hy hcs=>by cases hcs;exact DP y W (hf.2.2.2.1 y hy)) oM;rw [jB,a2.out] at this;exact this):P:=h
theorem zZ(h:P:=by
 replace hcl:=aa hcl;clear hg;go_wp2_with (first | (go_at_call 381;(with_reducible refine (hcl.out _ (ab _)).mono ?_);rintro e2 w3 ⟨rfl,rfl⟩) | fail);go_roundw
 case rel=>exact⟨e+1,rfl,oM,oM,hall2,hX,hb⟩
 case measure=>exact mS):P:=h
theorem Aa(h:P:=by go_upto_region 1 with (fail);generalize hW:World.alloc _ _=W0;obtain⟨E0,z0,b0⟩:=al hW;clear hW z0;replace b0:=cC b0;have⟨g0,l0⟩:=b0.gl;have E:=ab W0;go_wp2_with (first | (go_at_call 185;refine (hoc0.out _ (E0.trans E)).mono ?_;rintro e w5 ⟨q,c,rfl,E5⟩;replace E:=E.trans E5;clear g0 l0 E5) | (go_at_call 156;refine (hoc0.out _ (E0.trans E)).mono ?_;rintro e w5 ⟨q,c,rfl,E5⟩;replace E:=E.trans E5;clear g0 l0 E5) | fail);go_ret2;exact FsB.err hr.out (E0.trans E)):P:=h
theorem Ac(h:P:=by have hjI:¬ (j:Int)<(n:Int):=oM;obtain rfl:j=n:=oM;rw [eE (show l.length<=j by have:=hll.out;omega)] at hA ⊢;go_wp2_with (fail);refine bB (nI rfl _ _ _) rfl ?_;exact⟨qa,ca,qb,cb,rfl,hA.low E0.out⟩):P:=h
theorem Ad(h:P:=by
 rw [part,part];by_cases hr:bj r x y=true
 . rw [hr,jv,jv];rw [onC_iff] at hc;rw [inR_iff] at hr;rw [show decide (x < -2000)=false by simp;omega,show decide (x<u)=false by simp;omega]
 . rw [gV] at hr;rw [hr];rfl):P:=h
theorem Ae(h:P:=by
 have hlen2:=aa hlen;clear hlen hfl hoA';go_roundw
 case rel=>exact⟨m+1,p+1,qa,ca,_,oM,by rw [hlen2.out],gN,aa (by have:=hp.out;omega),oM,oM,aa hL1.symm,ho9,hX9⟩
 case measure=>exact mS):P:=h
theorem Af(h:P:=by
 go_wp2_with (first | (go_at_call 381;(with_reducible refine (hH2.out _ hw3.out.ext).mono ?_);rintro e w' ⟨rfl,rfl⟩) | (go_at_call 363;(with_reducible refine (kQ _ _ _ hoc2.out).mono ?_);rintro e w' ⟨rfl,rfl⟩) | fail);go_roundw
 case rel=>exact⟨m,s',_,_,oM,rfl,hd3.out,hmv,hw3⟩
 case measure=>exact mS):P:=h
theorem vD(h:P:=by
 rw [dr,dr]
 . rw [ax,mZ];left;simp;omega
 . rw [ax,mZ];left;simp;omega):P:=h
theorem Ag(h:P:=by
 go_wp2_with (first | (go_at_call 246;(with_reducible refine (hs1.out _).mono ?_);rintro e w15 ⟨rfl,rfl⟩) | (go_at_call 246;(with_reducible refine (hs2.out _).mono ?_);rintro e w15 ⟨rfl,rfl⟩) | fail);go_roundw
 case rel=>exact⟨j+1,oM,gN,hY⟩
 case measure=>exact mS):P:=h
theorem nR(h:P:=by go_wp2;go_ret;exact⟨cp hr.out,rfl⟩):P:=h
theorem Ah(h:P:=by
 rcases Nat.lt_trichotomy k l.length with hlt | he | hgt
 . rw [fm hlt] at hk;exact ay ⟨hlt,hk⟩
 . subst he;simp at hk;exact aB ⟨rfl,hk.symm⟩
 . rw [kZ (by simp;omega)] at hk;cases hk):P:=h
theorem Ai(h:P:=by have pA:=hlo3;have pB:=hneB;exact C6):P:=h
theorem Aj(h:P:=by go_upto_region 1 with (fail);generalize hW:World.alloc _ _=W0;obtain⟨E0,z0,b0⟩:=al hW;clear hW z0;have hB:=h.ext E0;replace b0:=fJ b0;have⟨g0,l0⟩:=b0.gl;have⟨g1,l1⟩:=hB.gl;exact ti):P:=h
theorem Ak(h:P:=by
 show _=_;rw [eS,hl.out];have:l.all vR=false:=by rw [pc];exact⟨r,ap hr.out,by rw [hv];simp⟩
 rw [this,Bool.and_false]):P:=h
theorem Ix(h:P:=by generalize (s.toList==[])=P;generalize dZ sh zS=Q;generalize d8 lb zL=R;generalize d9 ins zI=S;revert P Q R S;decide):P:=h
theorem Al(h:P:=by
 have hr:=aa (tH hA.out hx.out hq);rw [hq] at hcall;clear hq;go_wp2_with (first | (go_at_call 219;refine hcall.mono ?_;rintro e w4 ⟨rfl,E4⟩) | ((with_reducible refine cI 13 ?_);refine cy (op:=⟨some 13,_,_,_,_,_⟩) rfl 254 (Operand.tmp 12) rfl b (off+k*21) rfl (am y) _ hrr.out underlying254 rfl sz2.out ?_) | (go_at_call 150;refine hcall.mono ?_;rintro e w4 ⟨rfl,E4⟩));go_roundw
 case rel=>exact⟨k+1,oM,gN,E.trans E4,hr⟩
 case measure=>exact mS):P:=h
theorem Am(h:P:=by have pA:=hlo5;have pB:=hne6;exact C6):P:=h
theorem An(h:P:=by
 rw [<-hsn.out];all_goals simp only [dw,aW,aY,List.cons.injEq,Value.int.injEq,true_and,and_true]
 all_goals refine⟨?_,?_,?_,?_⟩ <;> first | (split <;> omega) | omega):P:=h
theorem Ao(h:P:=by go_upto_region 1 with (fail);generalize hW:World.alloc _ _=W0;obtain⟨E0,z0,b0⟩:=al hW;clear hW z0;replace b0:=fJ b0;have⟨g0,l0⟩:=b0.gl;go_wp2_with (first | (go_at_call 117;(with_reducible refine (k2.out _).mono ?_);rintro e w2 ⟨rfl,rfl⟩) | (go_at_call 293;(with_reducible refine (k1.out _ E0).mono ?_);rintro e w3 ⟨rfl,E3⟩) | (go_at_call 153;(with_reducible refine (k2.out _).mono ?_);rintro e w2 ⟨rfl,rfl⟩) | (go_at_call 247;(with_reducible refine (k1.out _ E0).mono ?_);rintro e w3 ⟨rfl,E3⟩) | fail);go_ret;exact⟨rfl,E0.trans E3⟩):P:=h
theorem Ap(h:P:=by rw [ha] at cf hr;replace cf:=aa cf;clear d2 ha;go_enter func176,ntmps176;go_wp2_with (go_at_call 270;refine cf.mono ?_;rintro e w3 ⟨rfl,E3⟩);go_ret;exact⟨bu hr.out,E3⟩):P:=h
theorem Aq(h:P:=by have hjI:¬ (j:Int)<(m:Int):=oM;go_wp2_with (fail);refine bB (nI rfl _ _ _) rfl ?_;exact⟨q2,c2,⟨t,rfl⟩,hO2b.ext hZ.out,hE2.trans hZ.out⟩):P:=h
theorem Ar(h:P:=by rw [ha] at cf hr;replace cf:=aa cf;clear ha;go_enter func113,ntmps113;go_wp2_with (go_at_call 174;refine cf.mono ?_;rintro e w3 ⟨rfl,E3⟩);go_ret;exact⟨bu hr.out,E3⟩):P:=h
theorem sX(h:P:=by exact dr (by rw [qI];intro hh;rw [onC_iff] at hh;omega)):P:=h
theorem As(h:P:=by go_wp2_with (first | (go_at_call 344;refine hck.mono ?_;rintro e w2 ⟨rfl,E2⟩;replace E2:=aa E2) | fail);go_ret;rw [hm.out];exact⟨none,0,rfl,pd _ _ _ _,E2.out⟩):P:=h
theorem pp(h:P:=by go_ret;exact⟨bu hr.out,ab _⟩):P:=h
theorem At(h:P:=by
 have hC2:Hid (out=gp s):=by show _=_;rw [hC.out,qg oM,fP]
 clear hC;go_wp2_with fail;go_ret;rw [<-hC2.out];exact⟨q,c,rfl,ho,hE⟩):P:=h
theorem Au(h:P:=by
 match j,hv with
 | 0,hv=>simpa [aj] using hv
 | 1,hv=>simpa [aj] using hv
 | 2,hv=>simpa [aj] using hv
 | 3,hv=>simpa [aj] using hv
 | j+4,hv=>simp [aj] at hv):P:=h
theorem Av(h:P:=by go_wp2_with (first | (go_at_fn g;refine hcall.mono ?_;rintro e w2 ⟨rfl,hb2⟩) | fail);have pA:=hb2;exact wd):P:=h
theorem Aw(h:P:=by rw [hrr.out];rintro e w5 ⟨rfl,E5⟩;have hE5:=aa (hE4.trans E5);clear s4 E5;go_wp2_with fail;go_ret;exact⟨rfl,hE5.out⟩):P:=h
theorem Ax(h:P:=by
 rw [xk _ r (ay oM)] at ho;go_wp2_with (fail);go_roundw
 case rel=>exact⟨y+1,rfl,oM,oM,hX,ho,hb⟩
 case measure=>exact mS):P:=h
theorem Ay(h:P:=by
 go_wp2_with (fail);go_roundw
 case rel=>exact⟨k+1,yl+1,q2,c2,L,oM,rfl,gN,aa (by have:=hy.out;omega),oM,oM,hL2,ho,hX⟩
 case measure=>exact mS):P:=h
theorem Az(h:P:=by
 rw [iL oM];refine⟨(λ h=>by cases h),λ⟨h1,h2⟩=>?_⟩;rw [dr] at h2
 . cases h2
 . rw [ax,mZ];right;simp;omega):P:=h
theorem Iy(h:P:=by go_wp2;go_ret;exact⟨bu (by simp [ae];omega),rfl⟩):P:=h
theorem AA(h:P:=by go_wp2_with (fail);go_ret;first | exact⟨q2,N2,c2',rfl,H',hI.own,hfin.out,hI.mt,hI.ext,hI.sub⟩ | exact⟨q2,N2,c2',H',rfl,hI.own,hfin.out,hI.mt,hI.ext,hI.sub⟩):P:=h
theorem AB(h:P:=by
 clear hE E2 c0 c1 c2 c3;go_wp2_with fail;go_roundw
 case rel=>exact⟨k+1,oM,gN,hA2,hE2.out⟩
 case measure=>exact mS):P:=h
theorem AC(h:P:=by go_enter func310,ntmps310;go_wp2_with (go_at_call 153;refine (qX _ _ _ _).mono ?_;rintro e w' ⟨rfl,rfl⟩);go_ret;exact⟨bu hr.symm,rfl⟩):P:=h
theorem AD(h:P:=by
 constructor
 . rintro⟨h,hh,hb⟩;obtain⟨k,hk⟩:=pe hh;exact⟨k,h,hk,hb⟩
 . rintro⟨k,h,hk,hb⟩;exact⟨h,ap hk,hb⟩):P:=h
theorem vE(h:P:=by
 by_cases e:i=m
 . subst e;simp
 . rw [ar e]
   congr 1
   rw [aL127];omega):P:=h
theorem AE(h:P:=by go_wp2_with (first | (go_at_call 344;refine hck.mono ?_;rintro e w2 ⟨rfl,E2⟩;replace E2:=aa E2) | (go_at_call 347;refine (Pd q n c l _ (h.ext E2.out) hn hvr.out).mono ?_;rintro e w3 ⟨q3,c3,rfl,o3,E3⟩;have s3:=aa (bm (l:=jp (gL l)) cw rfl o3);replace E3:=aa (E2.trans E3);clear o3) | (go_at_call 345;(with_reducible refine (yp q3 _ c3 (jp (gL l)) d _ s3.out (by have:=hn2.out;omega) Pc).mono ?_);rintro e w4 ⟨q4,c4,rfl,o4,E4⟩;replace o4:=aa o4;replace E4:=aa E4) | (go_at_call 346;refine (NO q n c l _ (h.ext E2.out) hn hvr.out).mono ?_;rintro e w3 ⟨q3,c3,rfl,o3,E3⟩;have s3:=aa (bm (l:=eL (gL l)) cw rfl o3);replace E3:=aa (E2.trans E3);clear o3) | (go_at_call 345;(with_reducible refine (yp q3 _ c3 (eL (gL l)) d _ s3.out (by have:=hn2.out;omega) GC).mono ?_);rintro e w4 ⟨q4,c4,rfl,o4,E4⟩;replace o4:=aa o4;replace E4:=aa E4) | fail);go_ret;rw [hm.out];exact⟨q4,c4,rfl,fi o4.out E3.le,E3.trans E4.out⟩):P:=h
theorem Iz(h:P:=by go_wp2;go_ret;exact⟨bu (by simp [ae,h]),rfl⟩):P:=h
theorem sY(h:P:=by go_wp2_with fail;go_ret;exact⟨bu hr.symm,E2⟩):P:=h
theorem IA(h:P:=by
 rcases hcase hu with ⟨h3,h4⟩ | ⟨h3,_⟩
 . exact hkeep (h.under k y h2) (h.row k y u h2 h4)
 . rw [h.lenV] at h3;rw [h.len] at h1;omega):P:=h
theorem AF(h:P:=by
 clear hg;go_wp2_with (fail);go_roundw
 case rel=>exact⟨j+1,oM,by rw [hst.out],gN,trivial⟩
 case measure=>exact mS):P:=h
theorem AG(h:P:=by have pA:=@kQ;exact C9):P:=h
theorem AH(h:P:=by
 have h0:rE f x=x:=by unfold rE;rw [show (41 - x).toNat=0 by omega];rfl
 rw [h0];exact⟨fW _,λ j h1 h2=>by omega,λ h=>by omega⟩):P:=h
theorem sZ(h:P:=by rw [ch h,i8];simp [List.filter,he]):P:=h
theorem AJ(h:P:=by
 go_wp2_with (fail);go_roundw
 case rel=>exact⟨j+1,oM,gN,hX,ho⟩
 case measure=>exact mS):P:=h
theorem AK(h:P:=by
 rcases hbA with e | e
 . exact h.ne k (e▸hk)
 . rw [e] at hk;intro hr;have:=(h5.run.lt k hr).2
   cases hk
   omega):P:=h
theorem IB(h:P:=by replace ho2:=aa ho2;clear ho h64;go_wp2_with fail;go_ret;exact⟨N,rfl,by have:=hN.out;rw [<-this];exact ho2.out,hE⟩):P:=h
theorem AL(h:P:=by have h9:=hw3.blk.set (av U V) (.bool true);rw [rM s'.1 hoc2.out] at h9;rw [hW4];exact h9):P:=h
theorem AM(h:P:=by obtain⟨_,v,_,hv⟩:=h.at (k:=k) (by have:=(aL31.1 hx).1;rw [h.len] at this;exact this);exact dE (h.row k x v hx hv) b hb):P:=h
theorem vF(h:P:=by clear a1;go_wp2_with (fail);go_ret;exact⟨bu hr.out,E⟩):P:=h
theorem AN(h:P:=by rw [hL.out,mI,F4 (by rw [e40.out];simp [ck,hg]) (by rw [e41.out];simp [ck,hq]),dT,<-fc,e40.out];rfl):P:=h
theorem AO(h:P:=by rw [show (p2 (y*80+x)).a=(x:Int) - 40 by simp only [p2,bF];omega,show (p2 (y*80+x)).b=(y:Int) - 40 by simp only [p2,bG];omega] at h;exact h):P:=h
theorem AP(h:P:=by exact (((hE.setCell (p:=(ad T 0)) hTw.out _).setCell (p:=(ad T 1)) hTw.out _).setCell (p:=(ad T 2)) hTw.out _).setCell (p:=(ad T 3)) hTw.out _):P:=h
theorem AQ(h:P:=by generalize (c==0)=P;generalize dK s=Q;generalize dZ sh zS=R;generalize d8 lb zL=S;generalize d9 ins zI=T;revert P Q R S T;decide):P:=h
theorem mj(h:P:=by exact⟨k+1,oM,gN,h8,h9⟩):P:=h
theorem AR(h:P:=by
 cases hr:(Value.slice qr R.length cr).ownBlock with
 | none=>exact ay rfl
 | some k=>exact aB (λ e=>h.ne k e.symm hr)):P:=h
theorem AS(h:P:=by rw [hq] at hcall;clear hq a1;go_wp2_with (first | (go_at_call 219;refine hcall.mono ?_;rintro e w4 ⟨rfl,E4⟩) | ((with_reducible refine cI 13 ?_);refine cy (op:=⟨some 13,_,_,_,_,_⟩) rfl 254 (Operand.tmp 12) rfl b (off+k*21) rfl (am y) _ hrr.out underlying254 rfl sz2.out ?_) | (go_at_call 150;refine hcall.mono ?_;rintro e w4 ⟨rfl,E4⟩));go_ret;exact⟨bu hr.out,E.trans E4⟩):P:=h
theorem ta(h:P:=by rw [<-e];exact⟨q2,c2,rfl,hI.own,hI.ext⟩):P:=h
theorem AU(h:P:=by
 go_wp2_with (fail);go_roundw
 case rel=>exact⟨j+1,oM,gN,hX9,hb3⟩
 case measure=>exact mS):P:=h
theorem AV(h:P:=by
 rcases h3 with (h3 | h3) | h3
 . left;left;exact h3
 . left;right;omega
 . right;exact h3):P:=h
theorem AW(h:P:=by clear hE E2 c0 c1 c2 c3;go_wp2_with fail;go_ret;exact⟨bu hr2.out,hE2.out⟩):P:=h
theorem AX(h:P:=by
 rcases kX g w.heap.size with h' | h'
 . exact h'
 . rw [qE h'] at hh;cases hh):P:=h
theorem IC(h:P:=by
 rcases hq b hh with h3 | h3
 . exact h.under k y h2 b hb h3
 . have:=(h.geRow b (hrow k y h2 b hb)).2;omega):P:=h
theorem AY(h:P:=by have:=jC;rw [lG] at b0;show W0.heap[w.heap.size]?=_;rw [b0];simp only [List.take_zero,gL,<-jC]):P:=h
theorem AZ(h:P:=by right;right;have h8:=hc.out (e - 1) oM oM;rw [show (((e - 1:Nat):Int) - 40)=(e:Int) - 41 by omega] at h8;rw [h8,hfe.out];simp):P:=h
theorem vG(h:P:=by go_wp2_with (fail);go_ret;exact⟨_,rfl,ho.out,hX.out⟩):P:=h
theorem A4(h:P:=by show _↔_;unfold gB;rw [Int.toNat_natCast,Int.toNat_natCast,decide_eq_true_iff];omega):P:=h
theorem A5(h:P:=by go_ret;exact⟨qa,ca,by simp,by simpa using ho'.out,((ab w).alloc _).grown hg'.out (λ k hk=>(ho0.lt k hk).1)⟩):P:=h
theorem A7(h:P:=by
 cases ho:ax U V with
 | true=>rfl
 | false=>rw [dr ho] at hg;cases hg):P:=h
theorem pq(h:P:=by simpa [fG] using h9):P:=h
theorem A8(h:P:=by
 go_roundw
 case rel=>exact⟨j+1,qa,ca,oM,by rw [hN9.out];rfl,gN,hP⟩
 case measure=>exact mS):P:=h
theorem A9(h:P:=by generalize ae b 0 7=P;generalize (c==0)=Q;generalize ae d 4 40=R;generalize ae e 1 100=S;revert P Q R S;decide):P:=h
theorem Bc(h:P:=by generalize ae b 0 7=P;generalize (c==0)=Q;generalize ae d 1 6400=R;generalize (e==0)=S;revert P Q R S;decide):P:=h
theorem qU(h:P:=by exact⟨this,by rw [aA,this];rfl⟩):P:=h
theorem Bd(h:P:=by rw [xm _ r (ay oM)] at ho;go_wp2_with (fail);go_ret;exact⟨rfl,ho.out,hX.out⟩):P:=h
theorem Be(h:P:=by
 by_cases hj:j=e
 . subst hj;exact hfe.out
 . exact hc.out j h3 oM):P:=h
theorem ID(h:P:=by go_wp2;go_ret;exact⟨bu hr.symm,ab _⟩):P:=h
theorem Bf(h:P:=by have h1:=bK hoc;exact⟨_,h1,aa ((k9 (dQ cells) hoa).trans (xS h1))⟩):P:=h
theorem Bg(h:P:=by
 go_roundw
 case rel=>exact⟨k+1,s',q',c',oM,rfl,gN,hO,hw⟩
 case measure=>exact mS):P:=h
theorem Bh(h:P:=by obtain⟨cs,h1,h2⟩:=hc k x hx;exact⟨cs,hR.ext h1 hE,λ j v hv=>(hE.cells b _ hb).trans (h2 j v hv)⟩):P:=h
theorem Bi(h:P:=by
 go_wp2
 all_goals
  go_ret;exact⟨bu (by rw [aL62,hr.out];simp [*];try omega),rfl⟩):P:=h
theorem Bj(h:P:=by
 by_cases h9:256<(eZ L R).length
 . exact (uY h9).2
 . exact absurd (uZ h9).1 hK):P:=h
theorem Bk(h:P:=by
 go_wp2
 all_goals
  go_ret;exact⟨bu (I4 hr.out (by simp;omega)),(ab _).alloc _⟩):P:=h
theorem Bl(h:P:=by
 by_cases he:z=x
 . subst he;rw [hc] at h2;cases h2
 . omega):P:=h
theorem Bm(h:P:=by
 go_roundw
 case rel=>exact⟨y+1,oM,lN oM,hr⟩
 case measure=>exact mS):P:=h
theorem Bn(h:P:=by
 go_wp2
 all_goals
  go_ret;exact⟨bu (by simp [vR, *];try omega),(ab _).alloc _⟩):P:=h
theorem Bo(h:P:=by
 generalize l.foldl dw (dw o r)=z at *
 unfold dw at h;simp only at h;omega):P:=h
theorem Bp(h:P:=by go_ret;rw [hm.out];exact⟨q7,c7,rfl,fi o7.out E6.le,E6.trans E7.out⟩):P:=h
theorem pr(h:P:=by
 go_enter func121,ntmps121;go_upto_region 1 with (fail);generalize hW:World.alloc (World.alloc _ _) _=W0;obtain⟨E0,z0,b0,b1⟩:=bV hW;clear hW z0;replace b0:=du b0;replace b1:=cC b1;have⟨g0,l0⟩:=b0.gl;have⟨g1,l1⟩:=b1.gl;have E:=ab W0;have cf:∀ W,Ext W0 W->CE 182 #[sl p 3 c,.func (.func 183) #[] #[.pointer (so (w+1) 0)]] W (.bool false):=λ W hX=>by exact Ij
 exact Cz):P:=h
theorem Bq(h:P:=by go_upto_region 1 with (fail);generalize hW:World.alloc _ _=W0;obtain⟨E0,z0,b0⟩:=al hW;clear hW z0;replace b0:=gG b0;have⟨g0,l0⟩:=b0.gl;have E:=ab W0;go_wp2_with (first | (go_at_call 61;clear g0 l0;refine aR b0 E (SC x.ed p1 p2 p3 n1 c1 n2 c2 n3 c3 base _ ((s1.ext aL6 E0).ext aL6 E) ((s2.ext (az okEdit) E0).ext (az okEdit) E) ((s3.ext (az okEdit) E0).ext (az okEdit) E) f1.out) λ w3 E g0 l0=>?_) | (go_at_call 62;clear g0 l0;refine aR b0 E (wv p4 n4 base x.rules _ ((s4.ext aT E0).ext aT E) f2) λ w4 E g0 l0=>?_) | (go_at_call 63;clear g0 l0;refine aR b0 E (Hz p5 n5 c5 base x.waivers _ ((s5.ext okWaiver E0).ext okWaiver E) f3 f4.out) λ w5 E g0 l0=>?_) | (go_at_call 64;clear g0 l0;refine aR b0 E (SR x.nl.nets x.nl.devs x.nl.ports p6 p7 n6 c6 n7 c7 base _ ((s6.ext aL25 E0).ext aL25 E) ((s7.ext bw E0).ext bw E) f5.out) λ w6 E g0 l0=>?_) | (go_at_call 44;clear g0 l0;refine aR b0 E (SD x.ed p1 p2 p3 n1 c1 n2 c2 n3 c3 base _ ((s1.ext aL6 E0).ext aL6 E) ((s2.ext (az okEdit) E0).ext (az okEdit) E) ((s3.ext (az okEdit) E0).ext (az okEdit) E) f1.out) λ w3 E g0 l0=>?_) | (go_at_call 45;clear g0 l0;refine aR b0 E (ww p4 n4 base x.rules _ ((s4.ext aT E0).ext aT E) f2) λ w4 E g0 l0=>?_) | (go_at_call 46;clear g0 l0;refine aR b0 E (HA p5 n5 c5 base x.waivers _ ((s5.ext okWaiver E0).ext okWaiver E) f3 f4.out) λ w5 E g0 l0=>?_) | (go_at_call 47;clear g0 l0;refine aR b0 E (SS x.nl.nets x.nl.devs x.nl.ports p6 p7 n6 c6 n7 c7 base _ ((s6.ext aL25 E0).ext aL25 E) ((s7.ext bw E0).ext bw E) f5.out) λ w6 E g0 l0=>?_));exact eP):P:=h
theorem nS(h:P:=by go_upto_region 1 with (fail);generalize hW:World.alloc _ _=W0;obtain⟨E0,z0,b0⟩:=al hW;clear hW z0;replace b0:=eQ b0;have⟨g0,l0⟩:=b0.gl;have E:=ab W0;go_wp2_with (first | (go_at_call 117;refine aO (dd _ _ _ _) ?_) | (go_at_call 95;refine aO (jZ _ _ _ _) ?_) | (go_at_call 112;clear g0 l0;refine aR b0 E (DU p1 n1 c1 base x.cells _ ((s1.ext aL6 E0).ext aL6 E) f1 f2.out) λ w3 E g0 l0=>?_) | (go_at_call 113;(with_reducible refine (HN p2 n2 c2 base x.undos _ ((s2.ext (az okEdit) E0).ext (az okEdit) E) f3 f4.out).mono ?_);rintro e w4 ⟨rfl,E4⟩;replace E:=E.trans E4;clear g0 l0 E4;have⟨g0,l0⟩:=(b0.ext E).gl) | (go_at_call 113;(with_reducible refine (HN p3 n3 c3 base x.redos _ ((s3.ext (az okEdit) E0).ext (az okEdit) E) f5 f6.out).mono ?_);rintro e w5 ⟨rfl,E5⟩;replace E:=E.trans E5;clear g0 l0 E5;have⟨g0,l0⟩:=(b0.ext E).gl) | (go_at_call 90;clear g0 l0;refine aR b0 E (tI p1 n1 c1 base x.cells _ ((s1.ext aL6 E0).ext aL6 E) f1 f2.out) λ w3 E g0 l0=>?_) | (go_at_call 91;(with_reducible refine (HO p2 n2 c2 base x.undos _ ((s2.ext (az okEdit) E0).ext (az okEdit) E) f3 f4.out).mono ?_);rintro e w4 ⟨rfl,E4⟩;replace E:=E.trans E4;clear g0 l0 E4;have⟨g0,l0⟩:=(b0.ext E).gl) | (go_at_call 91;(with_reducible refine (HO p3 n3 c3 base x.redos _ ((s3.ext (az okEdit) E0).ext (az okEdit) E) f5 f6.out).mono ?_);rintro e w5 ⟨rfl,E5⟩;replace E:=E.trans E5;clear g0 l0 E5;have⟨g0,l0⟩:=(b0.ext E).gl));exact eP):P:=h
theorem vH(h:P:=by exact Cz):P:=h
theorem Br(h:P:=by go_upto_region 1 with (fail);generalize hW:World.alloc _ _=W0;obtain⟨E0,z0,b0⟩:=al hW;clear hW z0;replace b0:=du b0;have⟨g0,l0⟩:=b0.gl;have E:=ab W0;go_wp2_with (first | (go_at_call 97;clear g0 l0;refine aR b0 E (nW x.s _ hf.1) λ w3 E g0 l0=>?_) | (go_at_call 95;refine aO (jZ _ _ _ _) ?_));exact eP):P:=h
theorem Bt(h:P:=by go_upto_region 1 with (fail);generalize hW:World.alloc (World.alloc _ _) _=W0;obtain⟨E0,z0,b0,b1⟩:=bV hW;clear hW z0;replace b0:=du b0;replace b1:=cC b1;have⟨g0,l0⟩:=b0.gl;have⟨g1,l1⟩:=b1.gl;have E:=ab W0;go_wp2_with (first | (go_at_call 118;refine (lj x.s _ hf.1).mono ?_;rintro e w3 ⟨rfl,E3⟩;replace E:=E.trans E3;clear g0 l0 g1 l1 E3;have⟨g0,l0⟩:=(b0.ext E).gl;have⟨g1,l1⟩:=(b1.ext E).gl) | (go_at_call 181;(with_reducible refine aO (oX 0 3 (by decide) _) ?_)) | (go_at_call 117;refine aO (dd _ _ _ _) ?_) | (go_at_call 181;(with_reducible refine aO (oX 1 3 (by decide) _) ?_)) | (go_at_call 181;(with_reducible refine aO (oX 2 2 (by decide) _) ?_)) | (go_at_call 181;(with_reducible refine aO (oX a 0 (aB (aB ⟨hout,rfl⟩)) _) ?_)));exact eP):P:=h
theorem Bu(h:P:=by
 replace hq:=aa hq;go_upto_region 12 with (fail);go_region;generalize hV:World.drew _=W2;have b2':=((((((((((b1.out).set 2 c).set 13 ins.a).set 14 ins.tr.a).set 15 ins.tr.b).set 16 ins.tr.c).set 17 ins.c).set 18 ins.d).set 19 ins.e).set 20 ins.f).drew;simp only [aW,aY] at b2';rw [hV] at b2';have b2:Hid (Blk W2 W0 (am ⟨5,b,c,emp,zS,zL,ins⟩) 254):=b2';clear b2';have E2:Ext W0 W2:=by rw [<-hV];exact (((((((((((E1.trans (ab W1))).setCell (p:=(ad W0 2)) (ai _) c).setCell (p:=(ad W0 13)) (ai _) ins.a).setCell (p:=(ad W0 14)) (ai _) ins.tr.a).setCell (p:=(ad W0 15)) (ai _) ins.tr.b).setCell (p:=(ad W0 16)) (ai _) ins.tr.c).setCell (p:=(ad W0 17)) (ai _) ins.c).setCell (p:=(ad W0 18)) (ai _) ins.d).setCell (p:=(ad W0 19)) (ai _) ins.e).setCell (p:=(ad W0 20)) (ai _) ins.f).drew
 clear hV;clear g0 l0 g1 f1 l1 E E1 b1 b1e;have E:=E2;clear E2;have⟨g0,l0⟩:=(b0.ext E).gl;have r1:=aa (fo b2.out);have r0:=aa (fo (b0e.ext E));have l1:=b2.lt;go_wp2_with (first | ((with_reducible refine cI 61 ?_);refine cy (op:=⟨some 61,_,_,_,_,_⟩) rfl 254 (Operand.tmp 3) rfl W0 0 rfl (am ⟨5,b,c,emp,zS,zL,ins⟩) _ r1.out underlying254 rfl sz2.out ?_) | ((with_reducible refine cI 62 ?_);refine cy (op:=⟨some 62,_,_,_,_,_⟩) rfl 254 (Operand.tmp 1) rfl w 0 rfl (am ⟨5,b,c,s,sh,lb,ins⟩) _ r0.out underlying254 rfl sz2.out ?_) | ((with_reducible refine cI 63 ?_);refine mU (op:=⟨some 63,_,_,_,_,_⟩) rfl (.tmp 61) (.tmp 62) 254 rfl ⟨5,b,c,emp,zS,zL,ins⟩ ⟨5,b,c,s,sh,lb,ins⟩ rfl rfl ?_;rw [hq.out]) | (go_at_call 266;refine (Dz ins 8 _ ⟨oM,oM⟩).mono ?_;rintro e w5 ⟨rfl,E5⟩;replace E:=E.trans E5;clear g0 l0 r1 r0 E5;have⟨g0,l0⟩:=(b0.ext E).gl));exact eP):P:=h
theorem Bv(h:P:=by
 replace hq:=aa hq;go_upto_region 6 with (fail);go_region;generalize hV:World.drew _=W2;have b2':=(((((((b1.out).set 2 c).set 4 sh.a).set 5 sh.box.a).set 6 sh.box.b).set 7 sh.box.c).set 8 sh.box.d).drew;simp only [aW,aY] at b2';rw [hV] at b2';have b2:Hid (Blk W2 W0 (am ⟨1,b,c,emp,sh,zL,zI⟩) 254):=b2';clear b2';have E2:Ext W0 W2:=by rw [<-hV];exact ((((((((E1.trans (ab W1))).setCell (p:=(ad W0 2)) (ai _) c).setCell (p:=(ad W0 4)) (ai _) sh.a).setCell (p:=(ad W0 5)) (ai _) sh.box.a).setCell (p:=(ad W0 6)) (ai _) sh.box.b).setCell (p:=(ad W0 7)) (ai _) sh.box.c).setCell (p:=(ad W0 8)) (ai _) sh.box.d).drew
 clear hV;clear g0 l0 g1 f1 l1 E E1 b1 b1e;have E:=E2;clear E2;have⟨g0,l0⟩:=(b0.ext E).gl;have r1:=aa (fo b2.out);have r0:=aa (fo (b0e.ext E));have l1:=b2.lt;go_wp2_with (first | ((with_reducible refine cI 29 ?_);refine cy (op:=⟨some 29,_,_,_,_,_⟩) rfl 254 (Operand.tmp 3) rfl W0 0 rfl (am ⟨1,b,c,emp,sh,zL,zI⟩) _ r1.out underlying254 rfl sz2.out ?_) | ((with_reducible refine cI 30 ?_);refine cy (op:=⟨some 30,_,_,_,_,_⟩) rfl 254 (Operand.tmp 1) rfl w 0 rfl (am ⟨1,b,c,s,sh,lb,ins⟩) _ r0.out underlying254 rfl sz2.out ?_) | ((with_reducible refine cI 31 ?_);refine mU (op:=⟨some 31,_,_,_,_,_⟩) rfl (.tmp 29) (.tmp 30) 254 rfl ⟨1,b,c,emp,sh,zL,zI⟩ ⟨1,b,c,s,sh,lb,ins⟩ rfl rfl ?_;rw [hq.out]) | (go_at_call 260;refine (Dv sh _).mono ?_;rintro e w5 ⟨rfl,E5⟩;replace E:=E.trans E5;clear g0 l0 r1 r0 E5;have⟨g0,l0⟩:=(b0.ext E).gl));exact eP):P:=h
theorem Bw(h:P:=by
 replace hq:=aa hq;go_upto_region 9 with (fail);go_region;generalize hV:World.drew _=W2;have b2':=((((((b1.out).set 2 c).set 9 lb.a).set 10 lb.pt.a).set 11 lb.pt.b).set 12 (.string lb.s)).drew;simp only [aW,aY] at b2';rw [hV] at b2';have b2:Hid (Blk W2 W0 (am ⟨3,b,c,emp,zS,lb,zI⟩) 254):=b2';clear b2';have E2:Ext W0 W2:=by rw [<-hV];exact (((((((E1.trans (ab W1))).setCell (p:=(ad W0 2)) (ai _) c).setCell (p:=(ad W0 9)) (ai _) lb.a).setCell (p:=(ad W0 10)) (ai _) lb.pt.a).setCell (p:=(ad W0 11)) (ai _) lb.pt.b).setCell (p:=(ad W0 12)) (ai _) (.string lb.s)).drew
 clear hV;clear g0 l0 g1 f1 l1 E E1 b1 b1e;have E:=E2;clear E2;have⟨g0,l0⟩:=(b0.ext E).gl;have r1:=aa (fo b2.out);have r0:=aa (fo (b0e.ext E));have l1:=b2.lt;go_wp2_with (first | ((with_reducible refine cI 45 ?_);refine cy (op:=⟨some 45,_,_,_,_,_⟩) rfl 254 (Operand.tmp 3) rfl W0 0 rfl (am ⟨3,b,c,emp,zS,lb,zI⟩) _ r1.out underlying254 rfl sz2.out ?_) | ((with_reducible refine cI 46 ?_);refine cy (op:=⟨some 46,_,_,_,_,_⟩) rfl 254 (Operand.tmp 1) rfl w 0 rfl (am ⟨3,b,c,s,sh,lb,ins⟩) _ r0.out underlying254 rfl sz2.out ?_) | ((with_reducible refine cI 47 ?_);refine mU (op:=⟨some 47,_,_,_,_,_⟩) rfl (.tmp 45) (.tmp 46) 254 rfl ⟨3,b,c,emp,zS,lb,zI⟩ ⟨3,b,c,s,sh,lb,ins⟩ rfl rfl ?_;rw [hq.out]) | (go_at_call 263;refine (Dx lb _ hs2).mono ?_;rintro e w5 ⟨rfl,E5⟩;replace E:=E.trans E5;clear g0 l0 r1 r0 E5;have⟨g0,l0⟩:=(b0.ext E).gl));exact eP):P:=h
theorem Bx(h:P:=by
 replace hq:=aa hq;go_upto_region 22 with (fail);generalize hV:World.setCell _ _ _=W2;have b2':=(b1.out).set 3 (.string s);simp only [aW,aY] at b2';rw [hV] at b2';have b2:Hid (Blk W2 W0 (am ⟨7,b,0,s,zS,zL,zI⟩) 254):=b2';clear b2';have E2:Ext W0 W2:=by rw [<-hV];exact ((E1.trans (ab W1))).setCell (p:=(ad W0 3)) (ai _) (.string s)
 clear hV;clear g0 l0 g1 f1 l1 E E1 b1 b1e;have E:=E2;clear E2;have⟨g0,l0⟩:=(b0.ext E).gl;have r1:=aa (fo b2.out);have r0:=aa (fo (b0e.ext E));have l1:=b2.lt;go_wp2_with (first | ((with_reducible refine cI 85 ?_);refine cy (op:=⟨some 85,_,_,_,_,_⟩) rfl 254 (Operand.tmp 3) rfl W0 0 rfl (am ⟨7,b,0,s,zS,zL,zI⟩) _ r1.out underlying254 rfl sz2.out ?_) | ((with_reducible refine cI 86 ?_);refine cy (op:=⟨some 86,_,_,_,_,_⟩) rfl 254 (Operand.tmp 1) rfl w 0 rfl (am ⟨7,b,c,s,sh,lb,ins⟩) _ r0.out underlying254 rfl sz2.out ?_) | ((with_reducible refine cI 87 ?_);refine mU (op:=⟨some 87,_,_,_,_,_⟩) rfl (.tmp 85) (.tmp 86) 254 rfl ⟨7,b,0,s,zS,zL,zI⟩ ⟨7,b,c,s,sh,lb,ins⟩ rfl rfl ?_;rw [hq.out]) | (go_at_call 118;refine (lj s _ hs1).mono ?_;rintro e w5 ⟨rfl,E5⟩;replace E:=E.trans E5;clear g0 l0 r1 r0 E5;have⟨g0,l0⟩:=(b0.ext E).gl));exact eP):P:=h
theorem Bz(h:P:=by
 replace hq:=aa hq;go_upto_region 22 with (fail);generalize hV:World.setCell _ _ _=W2;have b2':=(b1.out).set 3 (.string s);simp only [aW,aY] at b2';rw [hV] at b2';have b2:Hid (Blk W2 W0 (am ⟨8,b,0,s,zS,zL,zI⟩) 254):=b2';clear b2';have E2:Ext W0 W2:=by rw [<-hV];exact ((E1.trans (ab W1))).setCell (p:=(ad W0 3)) (ai _) (.string s)
 clear hV;clear g0 l0 g1 f1 l1 E E1 b1 b1e;have E:=E2;clear E2;have⟨g0,l0⟩:=(b0.ext E).gl;have r1:=aa (fo b2.out);have r0:=aa (fo (b0e.ext E));have l1:=b2.lt;go_wp2_with (first | ((with_reducible refine cI 85 ?_);refine cy (op:=⟨some 85,_,_,_,_,_⟩) rfl 254 (Operand.tmp 3) rfl W0 0 rfl (am ⟨8,b,0,s,zS,zL,zI⟩) _ r1.out underlying254 rfl sz2.out ?_) | ((with_reducible refine cI 86 ?_);refine cy (op:=⟨some 86,_,_,_,_,_⟩) rfl 254 (Operand.tmp 1) rfl w 0 rfl (am ⟨8,b,c,s,sh,lb,ins⟩) _ r0.out underlying254 rfl sz2.out ?_) | ((with_reducible refine cI 87 ?_);refine mU (op:=⟨some 87,_,_,_,_,_⟩) rfl (.tmp 85) (.tmp 86) 254 rfl ⟨8,b,0,s,zS,zL,zI⟩ ⟨8,b,c,s,sh,lb,ins⟩ rfl rfl ?_;rw [hq.out]) | (go_at_call 118;refine (lj s _ hs1).mono ?_;rintro e w5 ⟨rfl,E5⟩;replace E:=E.trans E5;clear g0 l0 r1 r0 E5;have⟨g0,l0⟩:=(b0.ext E).gl));exact eP):P:=h
theorem BD(h:P:=by
 replace hq:=aa hq;go_upto_region 18 with (fail);generalize hV:World.setCell _ _ _=W2;have b2':=(b1.out).set 2 c;simp only [aW,aY] at b2';rw [hV] at b2';have b2:Hid (Blk W2 W0 (am ⟨2,b,c,emp,zS,zL,zI⟩) 254):=b2';clear b2';have E2:Ext W0 W2:=by rw [<-hV];exact ((E1.trans (ab W1))).setCell (p:=(ad W0 2)) (ai _) c
 clear hV;clear g0 l0 g1 f1 l1 E E1 b1 b1e;have E:=E2;clear E2;have⟨g0,l0⟩:=(b0.ext E).gl;have r1:=aa (fo b2.out);have r0:=aa (fo (b0e.ext E));have l1:=b2.lt;go_wp2_with (first | ((with_reducible refine cI 76 ?_);refine cy (op:=⟨some 76,_,_,_,_,_⟩) rfl 254 (Operand.tmp 3) rfl W0 0 rfl (am ⟨2,b,c,emp,zS,zL,zI⟩) _ r1.out underlying254 rfl sz2.out ?_) | ((with_reducible refine cI 77 ?_);refine cy (op:=⟨some 77,_,_,_,_,_⟩) rfl 254 (Operand.tmp 1) rfl w 0 rfl (am ⟨2,b,c,s,sh,lb,ins⟩) _ r0.out underlying254 rfl sz2.out ?_) | ((with_reducible refine cI 78 ?_);refine mU (op:=⟨some 78,_,_,_,_,_⟩) rfl (.tmp 76) (.tmp 77) 254 rfl ⟨2,b,c,emp,zS,zL,zI⟩ ⟨2,b,c,s,sh,lb,ins⟩ rfl rfl ?_;rw [hq.out]));exact eP):P:=h
theorem BE(h:P:=by
 replace hq:=aa hq;go_upto_region 18 with (fail);generalize hV:World.setCell _ _ _=W2;have b2':=(b1.out).set 2 c;simp only [aW,aY] at b2';rw [hV] at b2';have b2:Hid (Blk W2 W0 (am ⟨4,b,c,emp,zS,zL,zI⟩) 254):=b2';clear b2';have E2:Ext W0 W2:=by rw [<-hV];exact ((E1.trans (ab W1))).setCell (p:=(ad W0 2)) (ai _) c
 clear hV;clear g0 l0 g1 f1 l1 E E1 b1 b1e;have E:=E2;clear E2;have⟨g0,l0⟩:=(b0.ext E).gl;have r1:=aa (fo b2.out);have r0:=aa (fo (b0e.ext E));have l1:=b2.lt;go_wp2_with (first | ((with_reducible refine cI 76 ?_);refine cy (op:=⟨some 76,_,_,_,_,_⟩) rfl 254 (Operand.tmp 3) rfl W0 0 rfl (am ⟨4,b,c,emp,zS,zL,zI⟩) _ r1.out underlying254 rfl sz2.out ?_) | ((with_reducible refine cI 77 ?_);refine cy (op:=⟨some 77,_,_,_,_,_⟩) rfl 254 (Operand.tmp 1) rfl w 0 rfl (am ⟨4,b,c,s,sh,lb,ins⟩) _ r0.out underlying254 rfl sz2.out ?_) | ((with_reducible refine cI 78 ?_);refine mU (op:=⟨some 78,_,_,_,_,_⟩) rfl (.tmp 76) (.tmp 77) 254 rfl ⟨4,b,c,emp,zS,zL,zI⟩ ⟨4,b,c,s,sh,lb,ins⟩ rfl rfl ?_;rw [hq.out]));exact eP):P:=h
theorem BG(h:P:=by
 replace hq:=aa hq;go_upto_region 18 with (fail);generalize hV:World.setCell _ _ _=W2;have b2':=(b1.out).set 2 c;simp only [aW,aY] at b2';rw [hV] at b2';have b2:Hid (Blk W2 W0 (am ⟨6,b,c,emp,zS,zL,zI⟩) 254):=b2';clear b2';have E2:Ext W0 W2:=by rw [<-hV];exact ((E1.trans (ab W1))).setCell (p:=(ad W0 2)) (ai _) c
 clear hV;clear g0 l0 g1 f1 l1 E E1 b1 b1e;have E:=E2;clear E2;have⟨g0,l0⟩:=(b0.ext E).gl;have r1:=aa (fo b2.out);have r0:=aa (fo (b0e.ext E));have l1:=b2.lt;go_wp2_with (first | ((with_reducible refine cI 76 ?_);refine cy (op:=⟨some 76,_,_,_,_,_⟩) rfl 254 (Operand.tmp 3) rfl W0 0 rfl (am ⟨6,b,c,emp,zS,zL,zI⟩) _ r1.out underlying254 rfl sz2.out ?_) | ((with_reducible refine cI 77 ?_);refine cy (op:=⟨some 77,_,_,_,_,_⟩) rfl 254 (Operand.tmp 1) rfl w 0 rfl (am ⟨6,b,c,s,sh,lb,ins⟩) _ r0.out underlying254 rfl sz2.out ?_) | ((with_reducible refine cI 78 ?_);refine mU (op:=⟨some 78,_,_,_,_,_⟩) rfl (.tmp 76) (.tmp 77) 254 rfl ⟨6,b,c,emp,zS,zL,zI⟩ ⟨6,b,c,s,sh,lb,ins⟩ rfl rfl ?_;rw [hq.out]));exact eP):P:=h
theorem BH(h:P:=by
 replace hq:=aa hq;go_upto_region 24 with (fail);obtain⟨W2,hV⟩:∃ W2,W2=W1:=⟨_,rfl⟩;rw [<-hV];have b2:Hid (Blk W2 W0 (am ⟨9,b,0,emp,zS,zL,zI⟩) 254):=by rw [hV];exact b1e
 have E2:Ext W0 W2:=by rw [hV];exact E1
 clear hV;clear g0 l0 g1 f1 l1 E E1 b1 b1e;have E:=E2;clear E2;have⟨g0,l0⟩:=(b0.ext E).gl;have r1:=aa (fo b2.out);have r0:=aa (fo (b0e.ext E));have l1:=b2.lt;go_wp2_with (first | ((with_reducible refine cI 95 ?_);refine cy (op:=⟨some 95,_,_,_,_,_⟩) rfl 254 (Operand.tmp 3) rfl W0 0 rfl (am ⟨9,b,0,emp,zS,zL,zI⟩) _ r1.out underlying254 rfl sz2.out ?_) | ((with_reducible refine cI 96 ?_);refine cy (op:=⟨some 96,_,_,_,_,_⟩) rfl 254 (Operand.tmp 1) rfl w 0 rfl (am ⟨9,b,c,s,sh,lb,ins⟩) _ r0.out underlying254 rfl sz2.out ?_) | ((with_reducible refine cI 97 ?_);refine mU (op:=⟨some 97,_,_,_,_,_⟩) rfl (.tmp 95) (.tmp 96) 254 rfl ⟨9,b,0,emp,zS,zL,zI⟩ ⟨9,b,c,s,sh,lb,ins⟩ rfl rfl ?_;rw [hq.out]));exact eP):P:=h
theorem tb(h:P:=by go_upto_region 1 with (fail);generalize hW:World.alloc _ _=W0;obtain⟨E0,z0,b0⟩:=al hW;clear hW z0;replace b0:=fJ b0;exact qO):P:=h
theorem vI(h:P:=by go_upto_region 1 with (fail);generalize hW:World.alloc _ _=W0;obtain⟨E0,z0,b0⟩:=al hW;clear hW z0;replace b0:=cC b0;have⟨g0,l0⟩:=b0.gl;have E:=ab W0;go_wp2_with (fail);exact eP):P:=h
theorem vJ(h:P:=by
 replace hc1:=aa hc1;replace hc2:=aa hc2;refine aQ kR kR ?_;repeat (go_big_quiet_step (first | (go_at_call 97;exact bh (hc1.out _)) | (go_at_call 95;exact bh (hc2.out _))))
 exact pm):P:=h
theorem BJ(h:P:=by replace cf3:=aa cf3;go_wp2_with (first | (go_at_call 118;refine (lj x.s _ hf.1).mono ?_;rintro e w3 ⟨rfl,E3⟩;replace E:=E.trans E3;clear g0 l0 g1 l1 E3;have⟨g0,l0⟩:=(b0.ext E).gl;have⟨g1,l1⟩:=(b1.ext E).gl) | (go_at_call 258;refine (cf1.out _ E).mono ?_;rintro e w4 ⟨rfl,E4⟩;replace E:=E.trans E4;clear g0 l0 g1 l1 E4;have⟨g0,l0⟩:=(b0.ext E).gl;have⟨g1,l1⟩:=(b1.ext E).gl) | (go_at_call 261;refine (cf2.out _ E).mono ?_;rintro e w5 ⟨rfl,E5⟩;replace E:=E.trans E5;clear g0 l0 g1 l1 E5;have⟨g0,l0⟩:=(b0.ext E).gl;have⟨g1,l1⟩:=(b1.ext E).gl) | (go_at_call 264;refine (cf3.out _ E).mono ?_;rintro e w6 ⟨rfl,E6⟩;replace E:=E.trans E6;clear g0 l0 g1 l1 E6;have⟨g0,l0⟩:=(b0.ext E).gl;have⟨g1,l1⟩:=(b1.ext E).gl));exact eP):P:=h
theorem tc(h:P:=by
 go_wp2;go_roundw
 case rel =>
  refine⟨k+1,oM,gN,λ j hj=>?_,hE⟩;by_cases hjk:j=k
  . subst hjk;exact hn.out
  . exact hp.out j oM
 case measure=>exact mS):P:=h
theorem BK(h:P:=by go_upto_region 1 with (fail);generalize hW:World.alloc _ _=W0;obtain⟨E0,z0,b0⟩:=al hW;clear hW z0;replace b0:=eQ b0;exact vm):P:=h
theorem BM(h:P:=by go_upto_region 1 with (fail);generalize hW:World.alloc _ _=W0;obtain⟨E0,z0,b0⟩:=al hW;clear hW z0;replace b0:=du b0;exact vm):P:=h
theorem BN(h:P:=by
 cases hq:p x with
 | true => rw [hq] at hcall;have hr:Hid (dc p l=k):=kD hA.out hx.out hq;clear hq;go_wp2_with (first | (go_at_fn g;refine hcall.mono ?_;rintro e w2 ⟨rfl,hb2⟩));exact mi
 | false => rw [hq] at hcall;have hr:Hid ((l.take (k+1)).any p=false):=jc hA.out hx.out hq;clear hq;go_wp2_with (first | (go_at_fn g;refine hcall.mono ?_;rintro e w2 ⟨rfl,hb2⟩));exact mg):P:=h
theorem BP(h:P:=by go_upto_region 1 with (fail);generalize hW:World.alloc _ _=W0;obtain⟨E0,z0,b0⟩:=al hW;clear hW z0;replace b0:=kE b0;exact qO):P:=h
theorem BQ(h:P:=by go_upto_region 1 with (fail);generalize hW:World.alloc _ _=W0;obtain⟨E0,z0,b0⟩:=al hW;clear hW z0;replace b0:=fJ b0;exact qR):P:=h
theorem vK(h:P:=by
 refine aQ kR kR ?_;repeat (go_big_quiet_step (first | (go_at_call 118;exact bh (hc1.out _)) | (go_at_call 117;exact bh (hc2.out _))))
 exact pm):P:=h
theorem vL(h:P:=by
 have hr:Hid (false=gY s):=by show _=_;rw [gY,Di hlt ((by rw [li,Dm oM oM,h45n];rfl))];rfl
 go_wp2;go_ret;exact⟨bu hr.out,hE⟩):P:=h
theorem vM(h:P:=by go_wp2;go_ret;exact⟨bu hr.out,hE⟩):P:=h
theorem BR(h:P:=by
 have a1:(List.range l.length).all (iI l)=true:=oi λ j hj=>hA.out j (by have:=hl.out;omega)
 have hr:Hid (true=dq l):=by show _=_;unfold dq;first | (rw [d1.out,d2.out,a1];done) | (rw [d1.out,d2.out,a1];rfl)
 clear a1;go_wp2_with (fail);exact eP):P:=h
theorem pu(h:P:=by go_wp2;go_ret;refine⟨cp hr.out,?_⟩;exact na):P:=h
theorem BS(h:P:=by rw [hg] at hcC;rw [hq] at hcP;have hL2:Hid (L=ei g false k++(dB (ck g false yl) (m+1)).map (dR false yl)):=aa (by rw [hL.out,mI,xZ (by rw [e40.out];simp [ck,hg]),fP]);exact sI):P:=h
theorem BT(h:P:=by rw [hg] at hcC;rw [hq] at hcP;have hL2:Hid (L=ei g true k++(dB (ck g true yl) (m+1)).map (dR true yl)):=aa (by rw [hL.out,mI,xZ (by rw [e40.out];simp [ck,hg]),fP]);exact sI):P:=h
theorem BU(h:P:=by rw [h2] at hin;replace hin:=aa hin;go_enter func221,ntmps221;go_upto_region 1 with (fail);generalize hW:World.alloc _ _=W0;obtain⟨E0,z0,b0⟩:=al hW;clear hW z0;replace b0:=cC b0;exact ze):P:=h
theorem qV(h:P:=by go_wp2_with (fail);exact eP):P:=h
theorem BW(h:P:=by
 replace hc1:=aa hc1;replace hc2:=aa hc2;refine aQ kR kR ?_;repeat (go_big_quiet_step (first | (go_at_call 114;exact bh (hc1.out _)) | (go_at_call 115;exact bh (hc2.out _))))
 exact pm):P:=h
theorem BX(h:P:=by
 replace hc1:=aa hc1;replace hc2:=aa hc2;refine aQ kR kR ?_;repeat (go_big_quiet_step (first | (go_at_call 92;exact bh (hc1.out _)) | (go_at_call 93;exact bh (hc2.out _))))
 exact pm):P:=h
theorem BZ(h:P:=by
 go_wp2_with (fail);go_loopw [1,5] (λ t i wr=>∃ (j:Nat),j<=n/\i=.int .i64 j/\t=.int .i64 (k+(j:Int)*5)/\Hid (MutF lo hi w wr)) (λ _ i _=>n - (intOf i).toNat)
 case atStart=>exact⟨0,oM,rfl,by simp,ma _ _ _⟩
 case round => exact Ii):P:=h
theorem B0(h:P:=by
 go_wp2;go_loopw [3] (λ i wr=>∃ k:Nat,k<=s.size/\i=.int .i64 k/\Hid (∀ j,j<k->jz (bt s j)=true)/\Ext w wr) (λ i _=>s.size - (intOf i).toNat)
 case atStart=>exact⟨0,oM,rfl,λ j hj=>by omega,ab _⟩
 case round => exact Ih):P:=h
theorem vN(h:P:=by clear a1;exact wc):P:=h
theorem B4(h:P:=by go_upto_region 1 with (fail);generalize hW:World.alloc _ _=W0;obtain⟨E0,z0,b0⟩:=al hW;clear hW z0;replace b0:=jx b0;have⟨g0,l0⟩:=b0.gl;have E:=ab W0;go_wp2_with (first | (go_at_call 220;refine aO (jY _ _ _ _) ?_) | (go_at_call 216;clear g0 l0;refine aR b0 E (Dw sh _) λ w12 E g0 l0=>?_) | (go_at_call 306;clear g0 l0;refine aR b0 E (Si lb _) λ w16 E g0 l0=>?_) | (go_at_call 307;clear g0 l0;refine aR b0 E (Sj ins _) λ w17 E g0 l0=>?_) | (go_at_call 305;clear g0 l0;refine aR b0 E (Sh sh _) λ w15 E g0 l0=>?_) | (go_at_call 217;clear g0 l0;refine aR b0 E (Dy lb _ hs2) λ w13 E g0 l0=>?_) | (go_at_call 218;clear g0 l0;refine aR b0 E (DA ins 8 _ ⟨oM,oM⟩) λ w14 E g0 l0=>?_) | (go_at_call 97;clear g0 l0;refine aR b0 E (nW s _ hs1) λ w11 E g0 l0=>?_) | (go_at_call 117;refine aO (dd _ _ _ _) ?_));exact tj):P:=h
theorem B7(h:P:=by
 refine hcall.mono ?_;rintro e w2 ⟨rfl,h2⟩;go_wp2_with fail;go_roundw
 case rel=>exact⟨k+1,L2,oM,gN,rfl,by show _=_;rw [hL2.out,hL.out,hst.out];omega,hb0,hb1,hE.trans h2⟩
 case measure=>exact mS):P:=h
theorem pv(h:P:=by
 have q0:¬ s.toList=[]:=by simpa using a0
 exact da):P:=h
theorem nT(h:P:=by go_wp2;go_ret;refine⟨rfl,?_⟩;exact na):P:=h
theorem Ca(h:P:=by have hr:Hid (decide (l=l')=true):=bl (hS.all (by rw [hl.out];omega) (by rw [hl'.out];omega));have hkI:¬ (k:Int)<n:=oM;go_wp2_with fail;go_ret;exact⟨bu hr.symm,hE⟩):P:=h
theorem Cb(h:P:=by
 rcases (show (dx=0/\dy=0)\/(dx=0/\¬ dy=0)\/(¬ dx=0/\dy=0) by omega) with ⟨rfl,rfl⟩ | ⟨rfl,hy0⟩ | ⟨hx0,rfl⟩
 all_goals
  exact vt):P:=h
theorem IE(h:P:=by go_upto_region 1 with (fail);generalize hW:World.alloc _ _=W0;obtain⟨E0,z0,b0⟩:=al hW;clear hW z0;replace b0:=gG b0;exact vm):P:=h
theorem Cc(h:P:=by clear hg hd hnext hsh hxm hym hc0 hcb hw;go_wp2_with (go_at_call 363;refine (yC x y _ hxl hlt).mono ?_;rintro e w' ⟨rfl,rfl⟩);exact sO):P:=h
theorem Cd(h:P:=by
 have hlt:((j+1:Nat):Int)>0:=oM;go_wp2_with (fail);go_roundw
 case rel=>exact⟨j,ow q,oM,rfl,rfl,gN,wG hq,hr,by first | rfl | trivial⟩
 case measure=>simp [intOf]):P:=h
theorem Ce(h:P:=by replace cf:=aa cf;clear ha;go_wp2_with (first | (go_at_call 119;clear g0 l0;refine aR b0 E (cf.out _ E) λ w4 E g0 l0=>?_));exact eP):P:=h
theorem IF(h:P:=by go_upto_region 1 with (fail);generalize hW:World.alloc _ _=W0;obtain⟨E0,z0,b0⟩:=al hW;clear hW z0;replace b0:=eQ b0;exact qO):P:=h
theorem IG(h:P:=by go_upto_region 1 with (fail);generalize hW:World.alloc _ _=W0;obtain⟨E0,z0,b0⟩:=al hW;clear hW z0;replace b0:=du b0;exact qO):P:=h
theorem IH(h:P:=by go_upto_region 1 with (fail);generalize hW:World.alloc _ _=W0;obtain⟨E0,z0,b0⟩:=al hW;clear hW z0;replace b0:=gG b0;exact qO):P:=h
theorem Cf(h:P:=by
 refine bW ?_;rintro w7 ⟨⟨_,h7⟩,rfl⟩;go_wp2;go_roundw
 case rel=>exact⟨k+1,oM,gN,E.trans h7,hr⟩
 case measure=>exact mS):P:=h
theorem Cg(h:P:=by go_enter func235,ntmps235;go_wp2_with (first | (go_at_call 161;(with_reducible refine (hok.out).mono ?_);rintro e w2 ⟨rfl,E2⟩) | (go_at_call 313;(with_reducible refine (hdi.out _).mono ?_);rintro e w3 ⟨rfl,rfl⟩) | fail);exact zG):P:=h
theorem II(h:P:=by go_upto_region 1 with (fail);generalize hW:World.alloc _ _=W0;obtain⟨E0,z0,b0⟩:=al hW;clear hW z0;replace b0:=eQ b0;exact qR):P:=h
theorem IJ(h:P:=by go_upto_region 1 with (fail);generalize hW:World.alloc _ _=W0;obtain⟨E0,z0,b0⟩:=al hW;clear hW z0;replace b0:=kE b0;exact qR):P:=h
theorem IK(h:P:=by go_upto_region 1 with (fail);generalize hW:World.alloc _ _=W0;obtain⟨E0,z0,b0⟩:=al hW;clear hW z0;replace b0:=du b0;exact qR):P:=h
theorem IL(h:P:=by go_upto_region 1 with (fail);generalize hW:World.alloc _ _=W0;obtain⟨E0,z0,b0⟩:=al hW;clear hW z0;replace b0:=gG b0;exact qR):P:=h
theorem vO(h:P:=by rintro e w1 ⟨rfl,E1⟩;replace E:=E.trans E1;clear g0 l0 g1 l1 E1;exact qS):P:=h
theorem Ch(h:P:=by have⟨g0,l0⟩:=b0.gl;have E:=ab W0;have hc0:=(E0.cells B _ hB).trans hc;have hB0:B<W0.heap.size:=aF hB E0.le;exact vp):P:=h
theorem pw(h:P:=by go_enter func151,ntmps151;exact yZ):P:=h
theorem Ci(h:P:=by
 refine aQ kR kR ?_;repeat (go_big_quiet_step ((go_at_call 116;exact bh (hc1.out _))))
 exact zD):P:=h
theorem Cj(h:P:=by
 refine aQ kR kR ?_;repeat (go_big_quiet_step ((go_at_call 94;exact bh (hc1.out _))))
 exact zD):P:=h
theorem Ck(h:P:=by go_enter func234,ntmps234;go_wp2_with (first | (go_at_call 161;refine hok.mono ?_;rintro e w2 ⟨rfl,E2⟩) | (go_at_call 313;refine (hdi.out _).mono ?_;rintro e w3 ⟨rfl,rfl⟩) | fail);exact zG):P:=h
theorem Cl(h:P:=by refine hcall.mono ?_;rintro e w2 ⟨rfl,h2⟩;go_wp2_with fail;go_ret;exact⟨cp hr.out,hE.trans h2⟩):P:=h
theorem td(h:P:=by go_enter func181,ntmps181;go_wp2;exact kA):P:=h
theorem tg(h:P:=by
 have q2:¬ c=0:=by simpa using a2
 exact eG):P:=h
theorem Cm(h:P:=by
 go_wp2_with fail;go_roundw
 case rel=>exact⟨k+1,oM,gN,hS2,hE2.out⟩
 case measure=>exact mS):P:=h
theorem th(h:P:=by
 have q1:¬ c=0:=by simpa using a1
 exact eH):P:=h
theorem px(h:P:=by go_ret;exact⟨rfl,E0.trans E⟩):P:=h
theorem ti(h:P:=by go_wp2_with (fail);go_ret;exact⟨rfl,E0⟩):P:=h
theorem Cn(h:P:=by go_wp2_with (go_at_call 226;refine (FW x y _ hxl hlt).mono ?_;rintro e w' ⟨rfl,rfl⟩);exact sO):P:=h
theorem Co(h:P:=by have hltI:¬ (j:Int)<(n:Int):=oM;obtain rfl:j=n:=oM;go_wp2_with (fail);go_ret;exact⟨_,rfl,⟨oM,oM⟩,hM.out⟩):P:=h
theorem Cp(h:P:=by
 have hq:dN ⟨v1,v2,v3,v4,v5⟩ ⟨v1,v2,v3,v4,x5⟩=false:=by unfold dN;simp [q5]
 exact qQ):P:=h
theorem Cq(h:P:=by
 go_roundw
 case rel=>exact⟨i+1,oM,lN (by have:=hnext.out;omega),hn⟩
 case measure=>simp [intOf];have:=hnext.out;omega):P:=h
theorem Cr(h:P:=by
 have hq:dN ⟨v1,v2,v3,v4,v5⟩ ⟨v1,v2,v3,x4,x5⟩=false:=by unfold dN;simp [q4]
 exact qQ):P:=h
theorem Cs(h:P:=by
 have hq:dN ⟨v1,v2,v3,v4,v5⟩ ⟨v1,v2,x3,x4,x5⟩=false:=by unfold dN;simp [q3]
 exact qQ):P:=h
theorem Ct(h:P:=by clear hw hxm hym hc0 hcb hd hnext hsh z;go_wp2_with (fail);exact sO):P:=h
theorem Cu(h:P:=by
 have hq:dN ⟨v1,v2,v3,v4,v5⟩ ⟨v1,x2,x3,x4,x5⟩=false:=by unfold dN;simp [q2]
 exact qQ):P:=h
theorem Cv(h:P:=by
 have hq:dN ⟨v1,v2,v3,v4,v5⟩ ⟨x1,x2,x3,x4,x5⟩=false:=by unfold dN;simp [q1]
 exact qQ):P:=h
theorem Cw(h:P:=by rw [hr] at hreg;replace hreg:=aa hreg;clear hr;go_enter func344,ntmps344;exact sV):P:=h
theorem Cx(h:P:=by have hjI:¬ (j:Int)<(n1:Int):=oM;obtain rfl:j=n1:=oM;exact vw):P:=h
theorem vP(h:P:=by go_enter func177,ntmps177;go_wp2;exact kA):P:=h
theorem vQ(h:P:=by go_enter func152,ntmps152;go_wp2;exact kA):P:=h
theorem vS(h:P:=by
 have q3:¬ e=0:=by simpa using a3
 exact eH):P:=h
theorem vT(h:P:=by
 have q3:¬ e=0:=by simpa using a3
 exact eG):P:=h
theorem vU(h:P:=by
 have q3:e=0:=by simpa using a3
 exact eH):P:=h
theorem vV(h:P:=by
 have q3:e=0:=by simpa using a3
 exact eG):P:=h
theorem vW(h:P:=by
 go_enter func121,ntmps121;go_upto_region 1 with (fail);generalize hW:World.alloc (World.alloc _ _) _=W0;obtain⟨E0,z0,b0,b1⟩:=bV hW;clear hW z0;replace b0:=du b0;replace b1:=cC b1;have⟨g0,l0⟩:=b0.gl;have⟨g1,l1⟩:=b1.gl;have E:=ab W0;have cf:∀ W,Ext W0 W->CE 182 #[sl p 2 c,.func (.func 183) #[] #[.pointer (so (w+1) 0)]] W (.bool false):=λ W hX=>by exact Ik
 exact vH):P:=h
theorem Cy(h:P:=by
 go_enter func121,ntmps121;go_upto_region 1 with (fail);generalize hW:World.alloc (World.alloc _ _) _=W0;obtain⟨E0,z0,b0,b1⟩:=bV hW;clear hW z0;replace b0:=du b0;replace b1:=cC b1;have⟨g0,l0⟩:=b0.gl;have⟨g1,l1⟩:=b1.gl;have E:=ab W0;have cf:∀ W,Ext W0 W->CE 182 #[sl p 3 c,.func (.func 183) #[] #[.pointer (so (w+1) 0)]] W (.bool true):=λ W hX=>by exact Iw
 exact vH):P:=h
theorem Cz(h:P:=by replace cf:=aa cf;go_wp2_with (first | (go_at_call 181;(with_reducible refine aO (oX 0 3 (by decide) _) ?_)) | (go_at_call 117;refine aO (dd _ _ _ _) ?_) | (go_at_call 182;refine (cf.out _ E).mono ?_;rintro e w4 ⟨rfl,E4⟩;replace E:=E.trans E4;clear g0 l0 g1 l1 E4;have⟨g0,l0⟩:=(b0.ext E).gl;have⟨g1,l1⟩:=(b1.ext E).gl) | (go_at_call 181;(with_reducible refine aO (oX 1 3 (by decide) _) ?_)) | (go_at_call 181;(with_reducible refine aO (oX 2 2 (by decide) _) ?_)) | (go_at_call 184;refine (SH b d oM oM oM _).mono ?_;rintro e w5 ⟨rfl,E5⟩;replace E:=E.trans E5;clear g0 l0 g1 l1 E5;have⟨g0,l0⟩:=(b0.ext E).gl;have⟨g1,l1⟩:=(b1.ext E).gl));exact eP):P:=h
theorem CA(h:P:=by
 have a1:(List.range ports.length).all (fa ports nets)=false:=gb (by rw [hl2.out];exact hlt) (HS hy.out hw);have hr:Hid (false=dC ⟨nets,devs,ports⟩):=by show _=_;unfold dC;rw [h0,d1.out,d2.out,ha.out,a1];simp
 clear a1;rw [hw] at hc2;clear hw;exact vJ):P:=h
theorem lg(h:P:=by go_enter func96,ntmps96;exact Br):P:=h
theorem vX(h:P:=by
 have hr:Hid (false=dK s):=by show _=_;rw [dK,Di hlt (Dm oM oM)];rfl
 exact vM):P:=h
theorem tj(h:P:=by go_ret;exact⟨bu hr.out,E0.trans E⟩):P:=h
theorem tk(h:P:=by go_enter func172,ntmps172;exact Bt):P:=h
theorem tl(h:P:=by go_enter func149,ntmps149;exact Br):P:=h
theorem tm(h:P:=by go_enter func24,ntmps24;exact Bq):P:=h
theorem tn(h:P:=by go_enter func17,ntmps17;exact Bq):P:=h
theorem tp(h:P:=by go_enter func121,ntmps121;exact Bt):P:=h
theorem CB(h:P:=by
 cases h0:ae x.a 0 (k - 1) with
 | false =>
   have hr:Hid (false=de x k):=by show _=_;unfold de;first | (rw [h0];done) | (rw [h0];rfl)
   go_enter pA,pB;exact IL
 | true =>
   cases h1:f8 x.tr with
   | false =>
     have hr:Hid (false=de x k):=by show _=_;unfold de;first | (rw [h0,h1];done) | (rw [h0,h1];rfl)
     go_enter pA,pB;exact IH
   | true =>
     cases h2:ae x.c 1 4 with
     | false =>
       have hr:Hid (false=de x k):=by show _=_;unfold de;first | (rw [h0,h1,h2];done) | (rw [h0,h1,h2];rfl)
       go_enter pA,pB;exact IE
     | true =>
       cases h3:ae x.d 1 4 with
       | false =>
         have hr:Hid (false=de x k):=by show _=_;unfold de;first | (rw [h0,h1,h2,h3];done) | (rw [h0,h1,h2,h3];rfl)
         go_enter pA,pB;exact Is
       | true =>
         cases h4:ae x.e (-80) 80 with
         | false =>
           have hr:Hid (false=de x k):=by show _=_;unfold de;first | (rw [h0,h1,h2,h3,h4];done) | (rw [h0,h1,h2,h3,h4];rfl)
           go_enter pA,pB;exact Iq
         | true =>
           cases h5:ae x.f (-80) 80 with
           | false =>
             have hr:Hid (false=de x k):=by show _=_;unfold de;first | (rw [h0,h1,h2,h3,h4,h5];done) | (rw [h0,h1,h2,h3,h4,h5];rfl)
             go_enter pA,pB;exact In
           | true =>
             cases h6:(decide (x.e=0)||decide (1<x.c)) with
             | false =>
               have hr:Hid (false=de x k):=by show _=_;unfold de;first | (rw [h0,h1,h2,h3,h4,h5,h6];done) | (rw [h0,h1,h2,h3,h4,h5,h6];rfl)
               go_enter pA,pB;exact Il
             | true =>
               cases h7:(decide (x.f=0)||decide (1<x.d)) with
               | false =>
                 have hr:Hid (false=de x k):=by show _=_;unfold de;first | (rw [h0,h1,h2,h3,h4,h5,h6,h7];done) | (rw [h0,h1,h2,h3,h4,h5,h6,h7];rfl)
                 go_enter pA,pB;exact yW
               | true =>
                 have hr:Hid (true=de x k):=by show _=_;unfold de;first | (rw [h0,h1,h2,h3,h4,h5,h6,h7];done) | (rw [h0,h1,h2,h3,h4,h5,h6,h7];rfl)
                 go_enter pA,pB;exact yW):P:=h
theorem CC(h:P:=by
 unfold qA
 cases hs:em x with
 | false => rw [hs] at hv;replace hv:=aa hv;show Calls _ _ _ _ (λ e w'=>∃ q1 c1 q2 c2,e=.returned (.tuple #[sl q1 ([]:List aV).length c1,sl q2 ([]:List aV).length c2,.int .i64 1])/\AwI w w' [] [] q1 c1 q2 c2);clear s1 s2 s3 s4 s5 s6 s7 hf hfc hs;go_enter pA,pB;exact Ir
 | true =>
   have hs2:=hs;rw [em,cm,cm,cm] at hs2;obtain⟨_,hdk,hwl,_⟩:=hs2;have h4:=s4.length;have hm:=SV hdk;rw [h4] at hm;have hall:=SW hdk;rw [hs] at hv;replace hv:=aa hv;have hh:=λ V (hV:Ext w V)=>pC x.ed.cells k p1 n1 base p4 n4 x.rules V (s1.ext aL6 hV) hn1 hfc (s4.ext aT hV) hdk hm hall
   have eT:oV true x.ed.cells k x.rules=hcC x.ed.cells k x.rules:=rfl;unfold qv at hh;by_cases hC:hcC x.ed.cells k x.rules=0
   . obtain⟨hR,hRn⟩:=HX hC;rw [h4] at hR;have hK:lT true x.ed.cells k x.rules x.waivers=iE x.rules x.waivers (jP x.ed.cells k x.rules):=by unfold lT;rw [eT,aw hC]
     have hW:lU true x.ed.cells k x.rules x.waivers=iF x.rules x.waivers (jP x.ed.cells k x.rules):=by unfold lU;rw [eT,aw hC]
     rw [hK,hW,eT,hC];rw [hC] at hh;obtain⟨L,hL⟩:∃ L,jP x.ed.cells k x.rules=L:=⟨_,rfl⟩;rw [hL] at hh hR hRn ⊢;have ha:=aa (λ q c V (hV:Ext w V) (hs:SlV V q L.length L)=>pD p4 n4 base x.rules q L.length c L p5 n5 c5 x.waivers V (s4.ext aT hV) hdk hm hall hs hRn hR (s5.ext okWaiver hV) hwl hn5 hf.2.2.1.2);unfold yG at ha;replace hh:=aa hh;clear s1 s2 s3 s4 s5 s6 s7 hf hfc hs hdk hwl hall eT hC hR hK hW hL;go_enter pA,pB;exact Io
   . have hK:lT true x.ed.cells k x.rules x.waivers=[]:=by unfold lT;rw [eT,ar hC]
     have hW:lU true x.ed.cells k x.rules x.waivers=[]:=by unfold lU;rw [eT,ar hC]
     rw [hK,hW,eT];obtain⟨C,hCe⟩:∃ C,hcC x.ed.cells k x.rules=C:=⟨_,rfl⟩;rw [hCe] at hh hC ⊢;have hCB:(C==0)=false:=by simp only [nF,ne_eq];exact hC
     replace hh:=aa hh;clear s1 s2 s3 s4 s5 s6 s7 hf hfc hs hdk hwl hall eT hK hW hCe;go_enter pA,pB;exact Ip):P:=h
theorem py(h:P:=by exact⟨oM,oM,oM,(((Blk.set20 pA.out).other 0 _ oM).other 1 _ oM),(Blk.set20 ((pB.other 0 _ oM).other 1 _ oM)),(by repeat (first | with_reducible exact (ab W0).drew | with_reducible exact hX5.out | with_reducible exact hX4.out | with_reducible refine jw ?_ | with_reducible exact ab W0 | with_reducible refine gC ?_ _ | ((with_reducible refine jX ?_ ?_ _);rotate_left;(dsimp only;omega))))⟩):P:=h
theorem CD(h:P:=by
 rw [hen] at hends;have hin:=aa (GR hs.out hen);clear hen
 cases A1 <;> cases Bb <;> cases Ba <;> cases Ab <;> first | (exact absurd hends (by decide)) | skip
 all_goals
  clear hends;go_wp2_with (first | (go_at_call 373;(first | (with_reducible refine (m1.out _ EV.out).mono ?_) | (with_reducible refine (m2.out _ EV.out).mono ?_) | (with_reducible refine (m3.out _ EV.out).mono ?_) | (with_reducible refine (m4.out _ EV.out).mono ?_));rintro e wn ⟨rfl,En⟩;have EV2:=aa (EV.trans En);clear EV g8 l8 g9 l9 gr lr En;have EV:=EV2;clear EV2;have g8:=(q1h.ext EV.out).cells;have l8:=(q1h.ext EV.out).lt;have g9:=(q2h.ext EV.out).cells;have l9:=(q2h.ext EV.out).lt;have gr:=(b9.ext EV.out).cells;have lr:=(b9.ext EV.out).lt;have hsz8:=aa (pA.later EV.out).ext.le) | (at_builtin;refine cZ _ rfl _ _ 77 rfl w 139 i0 (.agg #[(0:Int),(0:Int),(0:Int),(0:Int)]) 4 32 underlying77 hi hz0 hz1 hz2 rfl oM _ _ _ rfl (cv (pA.later EV.out).own _) ⟨_,0,none⟩ 1 1 [.int .i64 s.a,.int .i64 s.b,.int .i64 s.c,.int .i64 s.d] rfl rfl (dg _ [_,_,_,_] _) (iq _ _ _ _) (cx oM oM) oM (by have:=hsz8.out;simp;omega) ?_;intro v2 wA hoA hgA hnA hbA;obtain⟨qa,ca,rfl⟩:=cq hoA;have hP:=aa ((pA.later EV.out).push (s:=s) (qa:=qa) (ca:=ca) hoA hgA hbA);have hP2:=aa ((pB.later EV.out).push (n':=L.length+1) hgA hbA);clear hoA hgA hnA hbA) | fail);exact Iv):P:=h
theorem CF(h:P:=by
 rw [hen] at hends;have hout:=aa (GS hs.out hen);clear hen
 cases A1 <;> cases Bb <;> cases Ba <;> cases Ab <;> first | (exact absurd hends (by decide)) | skip
 all_goals
  clear hends;go_wp2_with (first | (go_at_call 373;(first | (with_reducible refine (m1.out _ EV.out).mono ?_) | (with_reducible refine (m2.out _ EV.out).mono ?_) | (with_reducible refine (m3.out _ EV.out).mono ?_) | (with_reducible refine (m4.out _ EV.out).mono ?_));rintro e wn ⟨rfl,En⟩;have EV2:=aa (EV.trans En);clear EV g8 l8 g9 l9 gr lr En;have EV:=EV2;clear EV2;have g8:=(q1h.ext EV.out).cells;have l8:=(q1h.ext EV.out).lt;have g9:=(q2h.ext EV.out).cells;have l9:=(q2h.ext EV.out).lt;have gr:=(b9.ext EV.out).cells;have lr:=(b9.ext EV.out).lt;have hsz8:=aa (pA.later EV.out).ext.le) | fail);go_roundw
  case rel=>exact⟨k+1,L,q,c,oM,rfl,gN,aa (by rw [hL.out,hout.out]),aa (pA.later EV.out),aa (pB.later EV.out)⟩
  case measure=>exact mS):P:=h
theorem CG(h:P:=by
 refine⟨by rw [aI,h.len];rfl,by rw [aI,h.lenV];rfl,?_,λ k y u hy hu=>?_,λ j k y z hjk hy hz b hb=>?_,λ k y hy b hb=>?_⟩
 . rw [dj];simpa using ht
 . rcases hcase hy with ⟨h1,h2⟩ | ⟨h1,rfl⟩
   . exact IA
   . rcases hcase hu with ⟨h3,_⟩ | ⟨_,rfl⟩
     . rw [h.lenV] at h3;rw [h.len] at h1;omega
     . exact hkeep (λ b hb=>(pA b hb).1) hr
 . rcases hcase hy with ⟨h1,h2⟩ | ⟨h1,rfl⟩
   . rcases hcase hz with ⟨h3,h4⟩ | ⟨h3,rfl⟩
     . exact h.apart j k y z hjk h2 h4 b hb
     . exact λ hh=>(pA b hh).2 (hrow j y h2 b hb)
   . rcases hcase hz with ⟨h3,h4⟩ | ⟨h3,rfl⟩
     . exact λ hh=>(pA b hb).2 (hrow k z h4 b hh)
     . omega
 . intro hh;rcases hcase hy with ⟨h1,h2⟩ | ⟨h1,rfl⟩
   . exact IC
   . rcases hq b hh with h3 | h3
     . exact (pA b hb).1 h3
     . have:=pB b hb;omega):P:=h
theorem qW(h:P:=by
 clear hcl;try simp only [aq,aZ] at e
 go_wp2_with (fail);exact Dg):P:=h
theorem CH(h:P:=by
 cases h0:ae x.a 0 7 with
 | false =>
   have hr:Hid (false=f8 x):=by show _=_;unfold f8;first | (rw [h0];done) | (rw [h0];rfl)
   go_enter pA,pB;exact II
 | true =>
   cases h1:ae x.b (-80) 80 with
   | false =>
     have hr:Hid (false=f8 x):=by show _=_;unfold f8;first | (rw [h0,h1];done) | (rw [h0,h1];rfl)
     go_enter pA,pB;exact IF
   | true =>
     cases h2:ae x.c (-80) 80 with
     | false =>
       have hr:Hid (false=f8 x):=by show _=_;unfold f8;first | (rw [h0,h1,h2];done) | (rw [h0,h1,h2];rfl)
       go_enter pA,pB;exact BK
     | true =>
       have hr:Hid (true=f8 x):=by show _=_;unfold f8;first | (rw [h0,h1,h2];done) | (rw [h0,h1,h2];rfl)
       go_enter pA,pB;exact BK):P:=h
theorem CI(h:P:=by
 obtain⟨f1,f2,f3,f4,f5,f6⟩:=hf;have hl1:=aa s1.length;have hl2:=aa s2.length;have hl3:=aa s3.length;rw [hl1.out] at f1;rw [hl2.out] at f3;rw [hl3.out] at f5;replace f2:=aa f2;replace f4:=aa f4;replace f6:=aa f6
 cases a0:dq x.cells with
 | false =>
   have hr:Hid (false=kV x):=by show _=_;unfold kV;first | (rw [a0];done) | (rw [a0];rfl)
   go_enter pA,pB;exact nS
 | true =>
   cases a1:gT x.undos with
   | false =>
     have hr:Hid (false=kV x):=by show _=_;unfold kV;first | (rw [a0,a1];done) | (rw [a0,a1];rfl)
     go_enter pA,pB;exact nS
   | true =>
     have hr:Hid (gT x.redos=kV x):=by show _=_;unfold kV;first | (rw [a0,a1];done) | (rw [a0,a1];rfl)
     go_enter pA,pB;exact nS):P:=h
theorem CJ(h:P:=by
 cases h0:ae x.a 0 7 with
 | false =>
   have hr:Hid (false=eI x):=by show _=_;unfold eI;first | (rw [h0];done) | (rw [h0];rfl)
   go_enter pA,pB;exact IK
 | true =>
   cases h1:lq x.pt with
   | false =>
     have hr:Hid (false=eI x):=by show _=_;unfold eI;first | (rw [h0,h1];done) | (rw [h0,h1];rfl)
     go_enter pA,pB;exact IG
   | true =>
     cases h2:dK x.s with
     | false =>
       have hr:Hid (false=eI x):=by show _=_;unfold eI;first | (rw [h0,h1,h2];done) | (rw [h0,h1,h2];rfl)
       go_enter pA,pB;exact BM
     | true =>
       have hr:Hid (true=eI x):=by show _=_;unfold eI;first | (rw [h0,h1,h2];done) | (rw [h0,h1,h2];rfl)
       go_enter pA,pB;exact BM):P:=h
theorem CK(h:P:=by exact Dg):P:=h
theorem CL(h:P:=by
 refine⟨h.len,by rw [List.length_set];exact h.lenV,M.grownBy (λ g hg hh=>?_) h.top,λ k y u hy hu=>?_,h.apart,h.under⟩
 . rw [fd,ew] at hg;exact h.under j x pA g hh (mem_blkOf.2 hg)
 . by_cases hjk:j=k
   . subst hjk;rw [pA] at hy
     cases hy
     have hl:j<V.length:=by rw [h.lenV,<-h.len];exact (aL31.1 pA).1
     rw [List.getElem?_set_self hl] at hu
     cases hu
     exact hr
   . rw [List.getElem?_set_ne hjk] at hu;refine M.grownBy (λ g hg hh=>?_) (h.row k y u hy hu);rw [oA,ew] at hg;exact h.apart j k x y hjk pA hy g hh (mem_blkOf.2 hg)):P:=h
theorem CM(h:P:=by
 have hlG2:Hid ((G++[g]).length=G.length+1):=aa (by simp);have hEw5:=aa (((hE.trans hX.out).trans hE5.out).alloc (.cells #[sl q5 (ah g).length c5] 77));go_roundw
 case rel=>exact⟨G++[g],qa,ca,_,by rw [hlG2.out];omega,by rw [hlG2.out];go_num,by rw [hlG2.out],by show _=_;rw [hlG2.out,Ns,<-hG.out,hg.out],aa ((pA.ext hX.out).part hsz0.out hO.out hE5.out _ ho'.out hg'.out hb'.out),aa (hEw5.grown hg'.out (λ k hk=>by have hk:(Value.slice qo G.length co).ownBlock=some k:=hk;rw [fd,ew] at hk;exact (dE htop.out k (mem_blkOf.2 hk)).1))⟩
 case measure=>exact mS):P:=h
theorem tq(h:P:=by
 by_cases h:left<n
 . have hr:Hid (-1=ak left (n:Nat)):=by show _=_;rw [ak,aw h]
   go_enter pA,pB;exact mh
 . have hr:Hid (left - n=ak left (n:Nat)):=by show _=_;rw [ak,ar h]
   go_enter pA,pB;exact mh):P:=h
theorem CN(h:P:=by
 cases h0:ae x.a (-40) 39 with
 | false =>
   have hr:Hid (false=lq x):=by show _=_;unfold lq;first | (rw [h0];done) | (rw [h0];rfl)
   go_enter pA,pB;exact BQ
 | true =>
   cases h1:ae x.b (-40) 39 with
   | false =>
     have hr:Hid (false=lq x):=by show _=_;unfold lq;first | (rw [h0,h1];done) | (rw [h0,h1];rfl)
     go_enter pA,pB;exact tb
   | true =>
     have hr:Hid (true=lq x):=by show _=_;unfold lq;first | (rw [h0,h1];done) | (rw [h0,h1];rfl)
     go_enter pA,pB;exact tb):P:=h
theorem CO(h:P:=by
 cases h0:ae x.a 0 2147483646 with
 | false =>
   have hr:Hid (false=ic x):=by show _=_;unfold ic;first | (rw [h0];done) | (rw [h0];rfl)
   go_enter pA,pB;exact BQ
 | true =>
   cases h1:gY x.s with
   | false =>
     have hr:Hid (false=ic x):=by show _=_;unfold ic;first | (rw [h0,h1];done) | (rw [h0,h1];rfl)
     go_enter pA,pB;exact tb
   | true =>
     have hr:Hid (true=ic x):=by show _=_;unfold ic;first | (rw [h0,h1];done) | (rw [h0,h1];rfl)
     go_enter pA,pB;exact tb):P:=h
theorem CP(h:P:=by
 cases h0:ae x.a 0 7 with
 | false =>
   have hr:Hid (false=eR x):=by show _=_;unfold eR;first | (rw [h0];done) | (rw [h0];rfl)
   go_enter pA,pB;exact IJ
 | true =>
   cases h1:nX x.box with
   | false =>
     have hr:Hid (false=eR x):=by show _=_;unfold eR;first | (rw [h0,h1];done) | (rw [h0,h1];rfl)
     go_enter pA,pB;exact BP
   | true =>
     have hr:Hid (true=eR x):=by show _=_;unfold eR;first | (rw [h0,h1];done) | (rw [h0,h1];rfl)
     go_enter pA,pB;exact BP):P:=h
theorem nU(h:P:=by obtain rfl:k=n:=oM;go_wp2_with fail;go_ret;exact⟨_,rfl,hF.fin pA hl.out,hE⟩):P:=h
theorem CQ(h:P:=by
 clear ho hE;obtain⟨k,hk,rfl,ho,hE⟩:=hrel;by_cases hlt:k<6400
 . have hkI:(k:Int)<6400:=oM;have z1:=(hb1.ext hE).2 k hlt;have z2:=(hb2.ext hE).2 k hlt;have l1:=(hb1.ext hE).1;have l2:=(hb2.ext hE).1;obtain⟨v0,e0⟩:=bO ho.out k oM;have hf:=ey ho.out;have hst:=pA g h k;exact Iu
 . have hkI:¬ (k:Int)<6400:=oM;have h64:k=6400:=oM;have ho2:=ho.out;rw [h64,pB] at ho2;exact IB):P:=h
theorem vY(h:P:=by
 have hr:Hid (decide (l=l')=false):=bU (λ e=>hnm (by rw [<-hl.out,<-hl'.out,e]));have hd:((n:Int)==(m:Int))=false:=by simpa using λ e:(n:Int)=m=>hnm oM
 have hd2:¬ (n:Int)=m:=oM;go_enter pA,pB;exact ID):P:=h
theorem CR(h:P:=by exact⟨oM,oM,oM,((Blk.set20 pA.out).alloc _),(Blk.newS2 _ _ _ _ _ [_,_] _),(by repeat (first | with_reducible exact (ab W0).drew | with_reducible exact hX5.out | with_reducible exact hX4.out | with_reducible refine jw ?_ | with_reducible exact ab W0 | with_reducible refine gC ?_ _ | ((with_reducible refine jX ?_ ?_ _);rotate_left;(dsimp only;omega))))⟩):P:=h
theorem CS(h:P:=by exact⟨oM,oM,oM,(Blk.newS2 _ _ _ _ _ [_,_] _),((Blk.set20 pA.out).alloc _),(by repeat (first | with_reducible exact (ab W0).drew | with_reducible exact hX5.out | with_reducible exact hX4.out | with_reducible refine jw ?_ | with_reducible exact ab W0 | with_reducible refine gC ?_ _ | ((with_reducible refine jX ?_ ?_ _);rotate_left;(dsimp only;omega))))⟩):P:=h
theorem CT(h:P:=by
 have hcv:Hid (hcC cells k R=cX cells k/\jP cells k R=[]):=aa ⟨ar hC,ar hC⟩;unfold qv;rw [hcv.1,hcv.2];obtain⟨C,hCe⟩:∃ C,cX cells k=C:=⟨_,rfl⟩;unfold sv at hfl;rw [hCe] at hfl hC ⊢;have hCB:(C==0)=false:=by simp only [nF,ne_eq];exact hC
 clear hcv hk h hf;go_enter pA,pB;exact It):P:=h
theorem CU(h:P:=by
 refine⟨h.len,h.lenV,M.grownBy (λ g hg=>h1 g ?_) h.top,λ k x v hx hv=>M.grownBy (λ g hg=>h2 g ?_) (h.row k x v hx hv),h.apart,h.under⟩
 . rw [fd,ew] at hg;exact mem_blkOf.2 hg
 . rw [oA,ew] at hg;exact pA.2 ⟨k,x,hx,mem_blkOf.2 hg⟩):P:=h
theorem CV(h:P:=by
 have z2:(8:Int)<n2:=oM;have d2:decide (ports.length<=8)=false:=bU (by have:=hl2.out;omega);have hr:Hid (false=dC ⟨nets,devs,ports⟩):=by show _=_;unfold dC;first | (rw [h0,d1.out,d2];done) | (rw [h0,d1.out,d2];rfl)
 go_enter pA,pB;exact nS):P:=h
theorem vZ(h:P:=by simp [wit_iff] at hv;obtain⟨rfl,hv⟩:=hv;have h9:=pA q c L kb 0 d e w h hr oM oM (by rw [wit_iff];omega) hv0;exact pq):P:=h
theorem CX(h:P:=by
 rw [h] at k1;replace k1:=aa k1;have hr:Hid (ny r=if 3<r.a then -1 else r.d):=aa rfl;clear h;by_cases h3:3<r.a
 . rw [aw h3] at hr;rw [hr.out];go_enter pA,pB;exact zg
 . rw [ar h3] at hr;rw [hr.out];go_enter pA,pB;exact zg):P:=h
theorem CY(h:P:=by
 have z1:(24:Int)<n1:=oM;have d1:decide (devs.length<=24)=false:=bU (by have:=hl1.out;omega);have hr:Hid (false=dC ⟨nets,devs,ports⟩):=by show _=_;unfold dC;first | (rw [h0,d1];done) | (rw [h0,d1];rfl)
 go_enter pA,pB;exact nS):P:=h
theorem wa(h:P:=by simp [wit_iff] at hv;obtain⟨rfl,hv⟩:=hv;have h9:=pA q c L kb 0 d e w h hr oM oM (by rw [wit_iff];omega);exact pq):P:=h
theorem CZ(h:P:=by
 refine⟨h5.ext.grown hgA (λ k hk=>(pA.own.lt k hk).1),hoA,λ k hk=>?_,nx h5.box hgA (λ e=>pA.ne _ e rfl)⟩;rcases hbA with e | e
 . exact pA.ne _ (e▸hk)
 . rw [e] at hk
   cases hk
   have:=h5.box.lt;omega):P:=h
theorem C0(h:P:=by
 have h':0<=a/\a<=2:=by simpa [ae] using hk
 have h3:a=0\/a=1\/a=2:=oM;rcases h3 with rfl | rfl | rfl
 . exact pA b d nets pins p n c base w h hn hnets
 . exact pB b d nets pins p n c base w h hn hnets
 . exact pC b d nets pins p n c base w h hn hnets):P:=h
theorem C1(h:P:=by have hltI:¬ (G.length:Int)<8:=oM;have hG8:G.length=8:=oM;go_wp2_with (fail);go_ret;rw [hG8] at pA;rw [hG8] at hG;rw [hG.out,<-Nt] at pA;exact⟨qo,co,H,rfl,pA.out,hE.out⟩):P:=h
theorem C2(h:P:=by
 have z2:(8:Int)<n:=oM;have d2:decide (l.length<=8)=false:=bU (by have:=hl.out;omega);have hr:Hid (false=dq l):=by show _=_;unfold dq;first | (rw [d1.out,d2];done) | (rw [d1.out,d2];rfl)
 go_enter pA,pB;exact vI):P:=h
theorem wb(h:P:=by rw [pA,oW,nJ c,qw,bq [] s.toList,qx zS sh,qy zL lb,qz zI ins];exact Ix):P:=h
theorem C3(h:P:=by
 have z1:(n:Int)<1:=oM;have d1:decide (1<=l.length)=false:=bU (by have:=hl.out;omega);have hr:Hid (false=dq l):=by show _=_;unfold dq;first | (rw [d1];done) | (rw [d1];rfl)
 go_enter pA,pB;exact vI):P:=h
theorem wc(h:P:=by go_wp2_with (first | (go_at_call 95;refine aO (jZ _ _ _ _) ?_));exact eP):P:=h
theorem tt(h:P:=by
 by_cases h:a<=v
 . go_enter pA,pB;exact Iz
 . go_enter pA,pB;exact Iy):P:=h
theorem C4(h:P:=by simp [wit_iff] at hv;obtain⟨kc,rfl⟩:∃ k:Nat,cc=(k:Int):=⟨cc.toNat,oM⟩;have h9:=pA q c L kb kc d e w h hr oM oM (by rw [wit_iff];omega) hv0;exact pq):P:=h
theorem C5(h:P:=by simp [wit_iff] at hv;obtain⟨kc,rfl⟩:∃ k:Nat,cc=(k:Int):=⟨cc.toNat,oM⟩;have h9:=pA q c L kb kc d e w h hr oM oM (by rw [wit_iff];omega);exact pq):P:=h
theorem C6(h:P:=by
 go_wp2_with (fail);go_roundw
 case rel=>exact⟨j+1,oM,gN,aa (hX.setCell pA.out _),aa (hB.set pB.out),aa (by rw [<-hst.out,hfj.out];exact f7 hO.out _ _)⟩
 case measure=>exact mS):P:=h
theorem C7(h:P:=by rw [hx2.out] at h3;simp only [dD,eO,aI] at h1 h2 h3;have:=pA.out;have:=pB.out;omega):P:=h
theorem C8(h:P:=by obtain⟨s1,s2,s3,s4,s5,s6,s7⟩:=h;exact pA x k p1 p2 p3 p4 p5 p6 p7 n1 n2 n2 n3 n3 n4 n5 n5 n6 n6 n7 n7 b w s1 s2 s3 s4 s5 s6 s7 hf m.1.1 m.2.2.2.2.1 hf.1.2.1):P:=h
theorem C9(h:P:=by have h:=pA ((x:Int) - 40) ((y:Int) - 40) w (by rw [onC_iff];omega);rw [show av ((x:Int) - 40) ((y:Int) - 40)=y*80+x by rw [av];omega] at h;exact h):P:=h
theorem wd(h:P:=by
 go_roundw
 case rel=>exact⟨k+1,oM,gN,hE.trans pA⟩
 case measure=>exact mS):P:=h
theorem Da(h:P:=by have d122:decide (bt s k<=122)=true:=bl oM;have hn:Hid (li (bt s k)=true):=(by show _=_;rw [li,pA hc hc2];rfl);exact tc):P:=h
theorem Db(h:P:=by
 have hcdB:(cd==0)=false:=by simp only [nF,ne_eq];exact hcd
 go_wp2_with (fail);go_ret;exact⟨false,rfl,pA.out⟩):P:=h
theorem Dc(h:P:=by
 go_roundw
 case rel=>exact⟨x+1,oM,gN,pA.out,by have:=hb2.out;rw [hst.out] at this;exact this⟩
 case measure=>exact mS):P:=h
theorem Dd(h:P:=by
 go_wp2
 all_goals
  go_roundw
  case rel=>exact⟨_,rfl,oM,oM,oM,pA.out⟩
  case measure=>exact mS):P:=h
theorem De(h:P:=by
 obtain rfl:KL=[]:=hKd hK;have hKB:(KC==0)=false:=by simp only [nF,ne_eq];exact hK
 clear hKd;go_enter pA,pB;exact Im):P:=h
theorem Df(h:P:=by
 clear e hfr hbl;go_roundw
 case rel=>exact⟨j+1,_,oM,gN,rfl,⟨oM,oM⟩,aa (pA.out)⟩
 case measure=>exact mS):P:=h
theorem Dg(h:P:=by
 go_roundw
 case rel=>exact⟨j+1,oM,gN,by have:=hK.out;congr 1;omega,aa (pA.setCell hlo hbh e en rfl)⟩
 case measure=>exact mS):P:=h
end
end Go.Proofs.YtnlajnpcdnnpmaaGreat
