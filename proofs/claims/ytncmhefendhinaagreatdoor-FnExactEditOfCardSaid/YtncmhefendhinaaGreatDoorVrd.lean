/- Numbers read and written by the program. Condition: lengths that fit; the library's tables and errors as they are laid. -/
import Derived.Test.YtncmhefendhinaaGreatDoorVnu
import Derived.Test.YtncmhefendhinaaGreatDoorVlb
import Derived.Test.YtncmhefendhinaaGreatDoorShf
import Derived.Lib.ParseIntBTie
import Derived.Lib.AtoiErrMem
import Derived.Lib.AppendIntMem
namespace Go.Proofs.YtncmhefendhinaaGreatDoor
open Go.RowKit Go.PlainAid Go.Lib

/-- The names of the layers and of the orientations. -/
def layL : List ByteArray := [⟨#[100, 105, 102, 102, 117, 115, 105, 111, 110]⟩, ⟨#[112, 111, 108, 121]⟩, ⟨#[99, 111, 110, 116, 97, 99, 116]⟩, ⟨#[109, 101, 116, 97, 108, 49]⟩, ⟨#[118, 105, 97]⟩, ⟨#[109, 101, 116, 97, 108, 50]⟩, ⟨#[119, 101, 108, 108]⟩, ⟨#[109, 97, 114, 107, 101, 114]⟩]
def oriL : List ByteArray := [⟨#[114, 48]⟩, ⟨#[114, 57, 48]⟩, ⟨#[114, 49, 56, 48]⟩, ⟨#[114, 50, 55, 48]⟩, ⟨#[109, 48]⟩, ⟨#[109, 57, 48]⟩, ⟨#[109, 49, 56, 48]⟩, ⟨#[109, 50, 55, 48]⟩]
/-- The variables of the library and of the program that are read. -/
structure Vrs (w : World) : Prop where
  tab : Lib.TabIs Tryz.prog w "internal/strconv.uint64pow10" .u64 Lib.pow10Tab
  syn : ∃ tp p, w.var? Tryz.prog "strconv.ErrSyntax" = some #[.iface tp p]
  rng : ∃ tp p, w.var? Tryz.prog "strconv.ErrRange" = some #[.iface tp p]
  lay : w.var? Tryz.prog "loop.example/g00890/impl.layerNames" = some (layL.map Value.string).toArray
  ori : w.var? Tryz.prog "loop.example/g00890/impl.orientationNames" = some (oriL.map Value.string).toArray
theorem var_ext {w w' : World} {n : String} {cs : Array Value} (h : w.var? Tryz.prog n = some cs) (E : Ext w w') : w'.var? Tryz.prog n = some cs := by
  unfold World.var? at *
  rw [Option.bind_eq_some_iff] at h ⊢
  obtain ⟨g, h1, h2⟩ := h
  refine ⟨g, h1, ?_⟩
  have hg : g < w.heap.size := by
    rcases Nat.lt_or_ge g w.heap.size with h' | h'
    · exact h'
    · rw [Array.getElem?_eq_none h'] at h2; cases h2
  rw [E.block g hg]
  exact h2
theorem Vrs.ext {w w' : World} (h : Vrs w) (E : Ext w w') : Vrs w' :=
  ⟨var_ext h.tab E, h.syn.elim fun tp h1 => h1.elim fun p h2 => ⟨tp, p, var_ext h2 E⟩, h.rng.elim fun tp h1 => h1.elim fun p h2 => ⟨tp, p, var_ext h2 E⟩, var_ext h.lay E, var_ext h.ori E⟩
theorem ext_grow (w : World) (k : Nat) (os : Array Obj) : Ext w (Sort.grow (w.drewN k) os) := Lib.below_grow _ w (Nat.le_refl _) k os
theorem pDecimal_any (n : Int) (w : World) (hV : Vrs w) (h0 : -9223372036854775808 ≤ n) (h1 : n ≤ 9223372036854775807) :
    Calls Tryz.prog 105 #[.int .i64 n, .int .i64 10] w fun e w' => e = .returned (.string ⟨(itoa n).toArray⟩) ∧ Ext w w' :=
  (Any.strconv_FormatInt_10 Tryz.laysFI n h0 h1 w hV.tab).mono fun e w' ⟨he, k, os, hw⟩ => ⟨he, by rw [hw]; exact ext_grow _ _ _⟩
theorem pParse_ok (s : ByteArray) (v : Int) (w : World) (hs : s.size ≤ 1048576) (h : parseIntB 64 s.data.toList = .ok v) :
    Calls Tryz.prog 101 #[.string s, .int .i64 10, .int .i64 64] w fun e w' => e = .returned (.tuple #[.int .i64 v, .nilIface]) ∧ Ext w w' :=
  (Any.strconv_ParseInt_10_at64_ok Tryz.laysPI s (by omega) v h w).mono fun e w' ⟨he, hw⟩ => ⟨he, by
    rcases hw with rfl | ⟨t, rfl⟩
    · exact Ext.refl _
    · exact bytesWorld_below _ _ _⟩
theorem pParse_err (s : ByteArray) (w : World) (hV : Vrs w) (hs : s.size ≤ 1048576) (h : ∀ v, parseIntB 64 s.data.toList ≠ .ok v) :
    Calls Tryz.prog 101 #[.string s, .int .i64 10, .int .i64 64] w fun e w' => ∃ (n : Int) (tp : TypeId) (x : Value), e = .returned (.tuple #[.int .i64 n, .iface tp x]) ∧ Ext w w' := by
  cases hp : parseIntB 64 s.data.toList
  · rename_i v
    exact absurd hp (h v)
  · obtain ⟨tp, p, hv⟩ := hV.syn
    exact (Any.strconv_ParseInt_10_at64_syntax_var Tryz.laysPI s (by omega) hp tp p w hv).mono fun e w' ⟨N, he, _, _, hE⟩ => ⟨0, _, _, he, hE⟩
  · obtain ⟨tp, p, hv⟩ := hV.rng
    exact (Any.strconv_ParseInt_10_at64_range_var Tryz.laysPI s (by omega) hp tp p w hv).mono fun e w' ⟨N, he, _, _, hE⟩ => ⟨_, _, _, he, hE⟩
end Go.Proofs.YtncmhefendhinaaGreatDoor
