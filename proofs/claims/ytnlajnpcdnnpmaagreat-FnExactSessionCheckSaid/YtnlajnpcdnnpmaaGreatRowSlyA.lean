/- The given statement FnExactSessionCheckSaid: whatever the session and the number, the law FnExactSessionCheck returns true, and the arguments read behind the call as they read before. No condition. -/
import Derived.Test.YtnlajnpcdnnpmaaGreatA51
import Derived.Test.YtnlajnpcdnnpmaaGreatA52
namespace Go.Proofs.YtnlajnpcdnnpmaaGreat.fnExactSessionCheck
set_option linter.unusedVariables false
set_option linter.unusedSimpArgs false
set_option maxRecDepth 100000
set_option maxHeartbeats 8000000
open Go.ChangeShapes Go.WideShapes Go.ChangeAt Go.RowKit
theorem own:ownKnob Tryz.prog.godebug=none:=by kernel_rfl
theorem laidOut:laidOutB Tryz.prog=true:=by kernel_rfl
theorem lifted (os:Os)(started:os.Started)(H:Type)(enc:TypeId×Value→H) :
 ReturnsInHanded {} Tryz.checked os 3 .any (Rows.fnExactSessionCheckSpec.pre6 enc Tryz.prog Tryz.f3 Rows.fnExactSessionCheckRow.domain false) (Rows.fnExactSessionCheckSpec.post enc Tryz.prog Tryz.f3 false true false false):=by
 refine returnsInHanded_of_change (C:=Tryz.checked) own started (by kernel_rfl) Tryz.func3
  (ChangeSpec.witness6 (enc:=enc) (C:=Tryz.checked) false ⟨#[],#[.agg #[.slice none 0 0,.slice none 0 0,.slice none 0 0,.slice none 0 0,.slice none 0 0,.int .i64 0,.slice none 0 0,.slice none 0 0],.int .i64 0],[]⟩ 8 (by kernel_rfl) (by kernel_rfl) (by kernel_rfl) (by kernel_rfl)) ?_
 intro W base args ds gs before hval0 hW hcnd _
 have hval:∀ (j:Nat) t v,Tryz.f3.params[j]?=some t→args[j]?=some v→Value.okWide Tryz.prog W .any base t v:=hval0
 have hW':=hW
 obtain⟨p,q,hA0,hV,rfl,hfz,hnd⟩:=hW
 have hA:DataW.TrodAll enc Tryz.prog W 0 (fun _=>true) true Tryz.f3.params.toList args.toList ds p:=hA0
 rw [Tryz.params3] at hA hval
 obtain⟨v0,vs0,d0,ds0,p0,q0,hargs,rfl,rfl,h0,r0⟩:=trodAll_cons hA
 obtain⟨v1,vs1,d1,ds1,p1,q1,rfl,rfl,rfl,h1,r1⟩:=trodAll_cons r0
 obtain⟨rfl,rfl,rfl⟩:=trodAll_nil r1
 obtain rfl:args=#[v0,v1]:=by cases args;simp_all
 obtain⟨rfl,rfl⟩:=trodVars_none hV
 have k0:=h0
 have lt0:∀ x∈p0,x.block<W.heap.size:=by obtain⟨m,hm⟩:=k0;exact DataW.trod_lt m _ _ _ hm
 have k1:=h1
 have lt1:∀ x∈p1,x.block<W.heap.size:=by obtain⟨m,hm⟩:=k1;exact DataW.trod_lt m _ _ _ hm
 obtain⟨cs0,rfl,sz0⟩:=okWide_struct Tryz.underlying37 (hval 0 37 v0 rfl rfl)
 obtain⟨x,p1,p2,p3,p4,p5,p6,p7,n1,c1,n2,c2,n3,c3,n4,c4,n5,c5,n6,c6,n7,c7,rfl,s1,s2,s3,s4,s5,s6,s7,hfit⟩:∃ (x:SeD) (p1 p2 p3 p4 p5 p6 p7:Option Addr) (n1 c1 n2 c2 n3 c3 n4 c4 n5 c5 n6 c6 n7 c7:Nat),cs0=#[.slice p1 n1 c1,.slice p2 n2 c2,.slice p3 n3 c3,.slice p4 n4 c4,.slice p5 n5 c5,.int .i64 x.nl.nets,.slice p6 n6 c6,.slice p7 n7 c7] ∧
  SlD CeR 4 0 W p1 n1 x.ed.cells∧SlD (RwD (Fl am) 21) 1 0 W p2 n2 x.ed.undos∧SlD (RwD (Fl am) 21) 1 0 W p3 n3 x.ed.redos∧SlD (Fl bE) 5 0 W p4 n4 x.rules∧SlD (Fl cj) 2 0 W p5 n5 x.waivers∧SlD DvR 4 0 W p6 n6 x.nl.devs∧SlD (Fl cD) 2 0 W p7 n7 x.nl.ports∧lu x:=by
  obtain⟨fuel,hf⟩:=h0
  exact T4 (sz0.trans (by kernel_rfl)) (by simpa [Value.cells] using hf)
 obtain⟨a1,rfl,_,_,w1⟩:=open_int Tryz.underlying2 (hval 1 2 v1 rfl rfl) h1
 clear hA0 hval0
 refine (TD x p1 p2 p3 p4 p5 p6 p7 n1 c1 n2 c2 n3 c3 n4 c4 n5 c5 n6 c6 n7 c7 0 a1 W s1 s2 s3 s4 s5 s6 s7 hfit).mono fun e W' ⟨he,bel⟩=>?_
 subst he
 exact⟨_,rfl,_,_,_,[],_,[],hW',trodAll_mk1 (shut_bool Tryz.underlying4 _),(trodAll_cons_mk (Below.trod laidOut (by kernel_rfl) (of_decide_eq_true (by kernel_rfl)) k0 bel lt0) (trodAll_cons_mk (Below.trod laidOut (by kernel_rfl) (of_decide_eq_true (by kernel_rfl)) k1 bel lt1) trodAll_mk0)),rfl,bel.frame _,fun h=>by cases h⟩
theorem andT {a b:Bool}(h:a=true)(k:b=true):(a&&b)=true:=by rw [h,k];rfl
theorem T5:(Rows.fnExactSessionCheckRow.wf (OpenSpec.ofChange Rows.fnExactSessionCheckSpec))=true:=by kernel_rfl
theorem T6:(laidOutB Tryz.pinned.checked.prog)=true:=by kernel_rfl
theorem T7:(mapsRowed Tryz.pinned.checked.prog)=true:=by kernel_rfl
theorem T8:(Tryz.f3.params.all (Tryz.pinned.checked.prog.readableRec ·))=true:=by kernel_rfl
theorem T9:(namedTie Tryz.pinned.checked.prog Rows.fnExactSessionCheckRow.named Rows.fnExactSessionCheckSpec.vars)=true:=by kernel_rfl
theorem Ua:((Rows.fnExactSessionCheckRow.stops==[]))=true:=by kernel_rfl
theorem Ub:((Tryz.pinned.checked.prog.stops==[]))=true:=by kernel_rfl
theorem Uc:((Rows.fnExactSessionCheckRow.knobs==[]))=true:=by kernel_rfl
theorem Ud:((Tryz.pinned.checked.prog.stopKnobs==[]))=true:=by kernel_rfl
theorem Ue:((Rows.fnExactSessionCheckRow.inPlace==Tryz.pinned.checked.prog.inPlace 3))=true:=by kernel_rfl
theorem Uf:((Rows.fnExactSessionCheckRow.unfollowed==Tryz.pinned.checked.prog.unfollowed 3))=true:=by kernel_rfl
theorem Ug:((Rows.fnExactSessionCheckRow.recurses==Tryz.pinned.checked.prog.recurses 3))=true:=by kernel_rfl
theorem Uh:((Rows.fnExactSessionCheckRow.named==Tryz.pinned.checked.prog.varsNamed 3))=true:=by kernel_rfl
theorem Ui:((Rows.fnExactSessionCheckRow.maps==(Tryz.f3.params.toList++Rows.fnExactSessionCheckSpec.plain.varTypes Tryz.pinned.checked.prog).any (Tryz.pinned.checked.prog.mapsRec ·)))=true:=by kernel_rfl
theorem Uj:((Rows.fnExactSessionCheckRow.ifaces==(Tryz.f3.params.toList++Rows.fnExactSessionCheckSpec.plain.varTypes Tryz.pinned.checked.prog).any (Tryz.pinned.checked.prog.ifacesRec ·)))=true:=by kernel_rfl
theorem Uk:((Rows.fnExactSessionCheckRow.mapsOut==Tryz.pinned.checked.prog.mapsAmong Tryz.f3.resultTypes.toList))=true:=by kernel_rfl
theorem Ul:((Rows.fnExactSessionCheckRow.loops==(Tryz.f3.params.toList++Rows.fnExactSessionCheckSpec.plain.varTypes Tryz.pinned.checked.prog).any (Tryz.pinned.checked.prog.loopsFrom ·)))=true:=by kernel_rfl
theorem Um:((Rows.fnExactSessionCheckRow.wideKeys==(Tryz.f3.params.toList++Rows.fnExactSessionCheckSpec.plain.varTypes Tryz.pinned.checked.prog++Tryz.f3.resultTypes.toList).any (Tryz.pinned.checked.prog.wideKeysFrom ·)))=true:=by kernel_rfl
theorem Un:(Rows.fnExactSessionCheckSpec.vars.all (Tryz.pinned.checked.prog.varReadable ·))=true:=by kernel_rfl
theorem Uo:(Tryz.f3.resultTypes.all (fun t=>Tryz.pinned.checked.prog.readableRec t&&decide (t<Tryz.pinned.checked.prog.types.size)))=true:=by kernel_rfl
theorem Up:((Rows.fnExactSessionCheckRow.ifacesOut==Tryz.f3.resultTypes.toList.any (Tryz.pinned.checked.prog.ifacesRec ·)))=true:=by kernel_rfl
theorem Uq:((Rows.fnExactSessionCheckRow.loopsOut==Tryz.f3.resultTypes.toList.any (Tryz.pinned.checked.prog.loopsFrom ·)))=true:=by kernel_rfl
theorem Ur:((Rows.fnExactSessionCheckRow.plainKeys==Tryz.pinned.checked.prog.plainKeys))=true:=by kernel_rfl
theorem Us:(Rows.fnExactSessionCheckRow.shortTexts.isNone)=true:=by kernel_rfl
theorem Ut:(Tryz.pinned.checked.prog.stopsHeard)=true:=by kernel_rfl
theorem Uu:(Tryz.pinned.checked.prog.mayEnter)=true:=by kernel_rfl
theorem Uv:((Rows.fnExactSessionCheckRow.lifted==Tryz.pinned.checked.prog.liftsFinal))=true:=by kernel_rfl
theorem Uw:((Tryz.pinned.checked.prog.make==some Rows.fnExactSessionCheckRow.make))=true:=by kernel_rfl
theorem Ux:((Rows.fnExactSessionCheckRow.kinds==(if Rows.fnExactSessionCheckRow.domain.isEmpty then [] else Tryz.f3.params.toList.map fun t=>match Tryz.pinned.checked.prog.underlying t with | some (.int k)=>some k | _=>none)))=true:=by kernel_rfl
theorem Uy:((Rows.fnExactSessionCheckRow.pinned==Rows.fnExactSessionCheckRow.pinnedBy))=true:=by kernel_rfl
theorem Uz:((Rows.fnExactSessionCheckRow.veiled==(Tryz.f3.params.toList++Rows.fnExactSessionCheckSpec.plain.varTypes Tryz.pinned.checked.prog++Tryz.f3.resultTypes.toList).any (Tryz.pinned.checked.prog.veiledRec ·)))=true:=by kernel_rfl
theorem UA:(Rows.fnExactSessionCheckRow.veiledFits Tryz.pinned.checked.prog Tryz.f3.params.toList (Tryz.f3.params.toList++Rows.fnExactSessionCheckSpec.plain.varTypes Tryz.pinned.checked.prog++Tryz.f3.resultTypes.toList))=true:=by kernel_rfl
theorem closed:joinedFacts Tryz.pinned.checked.prog 3 Tryz.f3 Rows.fnExactSessionCheckSpec Rows.fnExactSessionCheckRow=true:=by
 unfold joinedFacts
 exact andT (andT (andT (andT (andT (andT (andT (andT (andT (andT (andT (andT (andT (andT (andT (andT (andT (andT (andT (andT (andT (andT (andT (andT (andT (andT (andT (andT (andT (andT (andT T5 T6) T7) T8) T9) Ua) Ub) Uc) Ud) Ue) Uf) Ug) Uh) Ui) Uj) Uk) Ul) Um) Un) Uo) Up) Uq) Ur) Us) Ut) Uu) Uv) Uw) Ux) Uy) Uz) UA
theorem named:Tryz.pinned.checked.prog.funcNamed Rows.fnExactSessionCheckRow.func=some 3:=by kernel_rfl
theorem inst:Tryz.f3.isInstance Tryz.pinned.checked.prog Rows.fnExactSessionCheckRow.origin Rows.fnExactSessionCheckRow.targs:=of_decide_eq_true (by kernel_rfl)
theorem wrap:Tryz.f3.isWrapper Tryz.pinned.checked.prog Rows.fnExactSessionCheckRow.wrapper Rows.fnExactSessionCheckRow.mainSum:=by unfold Func.isWrapper;first | (rw [if_pos (by decide +kernel)];kernel_rfl) | (rw [if_neg (by decide +kernel)];exact⟨rfl,rfl⟩)
theorem over:Rows.fnExactSessionCheckRow.holds Tryz.pinned (OpenSpec.ofChange Rows.fnExactSessionCheckSpec) :=
 OpenClaim.holds_of_wide 3 Tryz.f3 rfl rfl rfl rfl rfl rfl rfl ⟨rfl,rfl,rfl,rfl,rfl⟩ rfl rfl rfl rfl rfl named Tryz.func3 closed inst wrap
  (fun os started H enc _=>lifted os started H enc)
theorem proved:Rows.FnExactSessionCheckSaid:=over
#print axioms proved
end Go.Proofs.YtnlajnpcdnnpmaaGreat.fnExactSessionCheck
