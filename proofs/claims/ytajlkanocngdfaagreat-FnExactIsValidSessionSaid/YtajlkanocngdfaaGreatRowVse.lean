/- The law FnExactIsValidSession returns true, for every input, and leaves its arguments as they are. No condition. -/
import Derived.Test.YtajlkanocngdfaaGreatVse
import Derived.ProofKit
import Derived.Lib.SmallJoins
import Derived.Test.YtajlkanocngdfaaGreatOpn
import Derived.Test.YtajlkanocngdfaaGreatOpd
namespace Go.Proofs.YtajlkanocngdfaaGreat.fnExactIsValidSession
open Go.ChangeShapes Go.WideShapes Go.ChangeAt Go.RowKit

theorem own : ownKnob Tryz.prog.godebug = none := by kernel_rfl
theorem laidOut : laidOutB Tryz.prog = true := by kernel_rfl

set_option maxRecDepth 100000 in
theorem lifted (os : Os) (started : os.Started) (H : Type) (enc : TypeId × Value → H) :
    ReturnsInHanded {} Tryz.checked os 3 .any (Rows.fnExactIsValidSessionSpec.pre6 enc Tryz.prog Tryz.f3 Rows.fnExactIsValidSessionRow.domain false) (Rows.fnExactIsValidSessionSpec.post enc Tryz.prog Tryz.f3 false true false false) := by
  refine returnsInHanded_of_change (C := Tryz.checked) own started (by kernel_rfl) Tryz.func3
    (ChangeSpec.witness6 (enc := enc) (C := Tryz.checked) false ⟨#[], #[.agg #[.slice none 0 0, .slice none 0 0, .slice none 0 0, .slice none 0 0, .slice none 0 0, .int .i64 0, .slice none 0 0, .slice none 0 0]], []⟩ 8 (by kernel_rfl) (by kernel_rfl) (by kernel_rfl) (by kernel_rfl)) ?_
  intro W base args ds gs before hval0 hW hcnd _
  have hval : ∀ (j : Nat) t v, Tryz.f3.params[j]? = some t → args[j]? = some v → Value.okWide Tryz.prog W .any base t v := hval0
  have hW' := hW
  obtain ⟨p, q, hA0, hV, rfl, hfz, hnd⟩ := hW
  have hA : DataW.TrodAll enc Tryz.prog W 0 (fun _ => true) true Tryz.f3.params.toList args.toList ds p := hA0
  rw [Tryz.params3] at hA hval
  obtain ⟨v0, vs0, d0, ds0, p0, q0, hargs, rfl, rfl, h0, r0⟩ := trodAll_cons hA
  obtain ⟨rfl, rfl, rfl⟩ := trodAll_nil r0
  obtain rfl : args = #[v0] := by cases args; simp_all
  obtain ⟨rfl, rfl⟩ := trodVars_none hV
  have k0 := h0
  have lt0 : ∀ x ∈ p0, x.block < W.heap.size := by obtain ⟨m, hm⟩ := k0; exact DataW.trod_lt m _ _ _ hm
  obtain ⟨cs0, rfl, sz0⟩ := okWide_struct Tryz.underlying37 (hval 0 37 v0 rfl rfl)
  obtain ⟨x, p1, p2, p3, p4, p5, p6, p7, n1, c1, n2, c2, n3, c3, n4, c4, n5, c5, n6, c6, n7, c7, rfl, s1, s2, s3, s4, s5, s6, s7, hfit⟩ : ∃ (x : SeD) (p1 p2 p3 p4 p5 p6 p7 : Option Addr) (n1 c1 n2 c2 n3 c3 n4 c4 n5 c5 n6 c6 n7 c7 : Nat), cs0 = #[.slice p1 n1 c1, .slice p2 n2 c2, .slice p3 n3 c3, .slice p4 n4 c4, .slice p5 n5 c5, .int .i64 x.nl.nets, .slice p6 n6 c6, .slice p7 n7 c7] ∧
      SlD CeR 4 0 W p1 n1 x.ed.cells ∧ SlD (RwD (Fl encEd) 21) 1 0 W p2 n2 x.ed.undos ∧ SlD (RwD (Fl encEd) 21) 1 0 W p3 n3 x.ed.redos ∧ SlD (Fl encRu) 5 0 W p4 n4 x.rules ∧ SlD (Fl encWv) 2 0 W p5 n5 x.waivers ∧ SlD DvR 4 0 W p6 n6 x.nl.devs ∧ SlD (Fl encPo) 2 0 W p7 n7 x.nl.ports ∧ FitSe x := by
    obtain ⟨fuel, hf⟩ := h0
    exact openSession (sz0.trans (by kernel_rfl)) (by simpa [Value.cells] using hf)
  clear hA0 hval0
  refine (exactIsValidSession_any x p1 p2 p3 p4 p5 p6 p7 n1 c1 n2 c2 n3 c3 n4 c4 n5 c5 n6 c6 n7 c7 0 W s1 s2 s3 s4 s5 s6 s7 hfit).mono fun e W' ⟨he, bel⟩ => ?_
  subst he
  exact ⟨_, rfl, _, _, _, [], _, [], hW', trodAll_mk1 (shut_bool Tryz.underlying4 _), (trodAll_cons_mk (Below.trod laidOut (by kernel_rfl) (of_decide_eq_true (by kernel_rfl)) k0 bel lt0) trodAll_mk0), rfl, bel.frame _, fun h => by cases h⟩

theorem over : Rows.fnExactIsValidSessionRow.holds Tryz.pinned (OpenSpec.ofChange Rows.fnExactIsValidSessionSpec) :=
  OpenClaim.holds_of_wide 3 Tryz.f3 rfl rfl rfl rfl rfl rfl rfl ⟨rfl, rfl, rfl, rfl, rfl⟩ rfl rfl rfl rfl rfl (by kernel_rfl) Tryz.func3 (by kernel_rfl)
    (of_decide_eq_true (by kernel_rfl)) (by unfold Func.isWrapper; first | (rw [if_pos (by decide +kernel)]; kernel_rfl) | (rw [if_neg (by decide +kernel)]; exact ⟨rfl, rfl⟩))
    (fun os started H enc _ => lifted os started H enc)

theorem proved : Rows.FnExactIsValidSessionSaid := over
#print axioms proved
end Go.Proofs.YtajlkanocngdfaaGreat.fnExactIsValidSession
