/- Opener: what a slice of bytes that came in reads as. No condition. -/
import Derived.Test.YtiljojpnbpdaeaaOpn
import Derived.Test.YtiljojpnbpdaeaaSrc
import Derived.Lib.SmallJoins
namespace Go.Proofs.Ytiljojpnbpdaeaa
open Go.RowKit Go.ChangeShapes Go.WideShapes Go.ChangeAt

def goodU (x : Int) : Prop := 0 ≤ x ∧ x ≤ 255
theorem u8_of_wf {n : Int} (h : (Lit.int .u8 n).wf = true) : 0 ≤ n ∧ n ≤ 255 := by
  simp [Lit.wf, IntKind.min, IntKind.max, IntKind.signed, IntKind.bits] at h
  omega
theorem encU_len (x : Int) : (encU x).length = 1 := rfl
theorem decU {H : Type} {enc : TypeId × Value → H} {P : Program} {w : World} {spare : Nat → Bool} {held : Bool} {t : TypeId} (ht : P.underlying t = some (.int .u8)) : Decs H enc P w spare held t encU goodU := by
  intro n cs x h
  obtain ⟨a, rfl, _, hw⟩ := DataW.trod_int ht h
  exact ⟨a, rfl, u8_of_wf hw⟩
end Go.Proofs.Ytiljojpnbpdaeaa
