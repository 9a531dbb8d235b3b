/- Contract of the reference's l03Canon. No condition. -/
import Derived.Test.YtiljojpnbpdaeaaSp2
import Derived.Test.YtiljojpnbpdaeaaSp3
import Derived.Test.YtiljojpnbpdaeaaRg4
import Derived.Deep.RegionHeld3
import Derived.Deep.AppendLies
namespace Go.Proofs.Ytiljojpnbpdaeaa
open Go.RowKit

theorem grown_cell {w w' : World} {row : Option Nat} (hg : w.grownBy w' row) {b : Nat} (hb : b < w.heap.size) (hne : row ≠ some b) (o : Nat) : w'.cell? ⟨b, o, none⟩ = w.cell? ⟨b, o, none⟩ := World.cell?_of_block (w := w) (a := ⟨b, o, none⟩) (hg.block b hb (fun h => hne h.symm))
theorem cells_newd (w : World) (cs : List Value) (t : TypeId) : ∀ j u, cs[j]? = some u → (w.alloc (.cells cs.toArray t)).drew.cell? ((⟨w.heap.size, 0, none⟩ : Addr).add j) = some u := cells_new w cs t
theorem pairs_at {l : List Int} {k : Nat} (h : k * 2 + 1 < l.length) : ∃ a b, l[k * 2]? = some a ∧ l[k * 2 + 1]? = some b ∧ (pairs l)[k]? = some (a, b) :=
  ⟨l[k * 2]'(by omega), l[k * 2 + 1]'h, List.getElem?_eq_getElem _, List.getElem?_eq_getElem _, pairs_get l k (List.getElem?_eq_getElem _) (List.getElem?_eq_getElem _)⟩
theorem SlT.grown {α : Type} {enc : α → List Value} {sz n : Nat} {p : Option Addr} {l : List α} {w w' : World} {row : Option Nat} (h : SlT enc sz w p n l) (hg : w.grownBy w' row) (hne : ∀ a, p = some a → row ≠ some a.block) : SlT enc sz w' p n l := by
  obtain ⟨h1, h2⟩ := h
  refine ⟨h1, ?_⟩
  rcases h2 with h2 | ⟨b, off, hp, hb, hc⟩
  · exact Or.inl h2
  · exact Or.inr ⟨b, off, hp, Nat.lt_of_lt_of_le hb hg.size, fun k y hy i v hv => (grown_cell hg hb (hne _ hp) _).trans (hc k y hy i v hv)⟩
set_option maxRecDepth 100000 in
set_option maxHeartbeats 4000000 in
theorem l03Canon_any (B c : Nat) (g : Grid) (w : World) (h : Bits w B g) :
    Calls Try.prog 91 #[.slice (some ⟨B, 0, none⟩) 6400 c] w (RegB (canon g) w) := by
  obtain ⟨i0, hi, hz0, hz1, hz2⟩ := info_parts info_Rect
  have ho0 : (w.alloc (.cells #[] 49)).ownsRow w.heap.size 49 4 (.slice (some ⟨w.heap.size, 0, none⟩) 0 0) 0 [] := by
    have := World.ownsRow_made (base := w.heap.size) (e := 49) (size := 4) w #[] 0 (by simp) (by simp [maxLen]) (by simp)
    exact this
  have hb := hid h
  clear h
  go_enter Try.func91, Try.ntmps91
  go_wp2
  go_loopw [3, 4] (fun v i wr => ∃ (y : Int) (out : List Q4) (q : Option Addr) (c : Nat), -40 ≤ y ∧ y ≤ 40 ∧ v = .slice q out.length c ∧ i = .int .i64 y ∧ Hid (canon g = out ++ canonY g y) ∧ wr.ownsRow w.heap.size 49 4 (.slice q out.length c) out.length (out.flatMap enc4) ∧ Ext w wr) (fun _ i _ => (40 - intOf i).toNat)
  case atStart => exact ⟨-40, [], _, _, by omega, by omega, rfl, rfl, rfl, ho0, (Ext.refl _).alloc _⟩
  case round =>
    clear ho0
    obtain ⟨y, out, q, c', hy0, hy1, rfl, rfl, hC, ho, hE⟩ := hrel
    by_cases hy : y < 40
    · have hlen := canon_len g
      rw [hC.out, List.length_append, canonY_step hy, List.length_append] at hlen
      go_wp2_with fail
      refine (l03Runs_any B _ g y _ (hb.out.ext hE)).mono ?_
      rintro e w5 ⟨qr, cr, rfl, oR, E5⟩
      obtain ⟨R, hRr⟩ : ∃ R, R = runs g y := ⟨_, rfl⟩
      have hRl : R.length ≤ 81 := by rw [hRr]; exact runs_len g y
      rw [← hRr] at oR ⊢
      have hne : Hid (∀ a, qr = some a → Value.ownBlock (.slice q out.length c') ≠ some a.block) := fun a ha hh => by
        have h1 := (ho.lt _ hh).2
        have h2 := (oR.lt a.block (by rw [ha]; rfl)).1
        omega
      have sR := hid (SlT.of_owns (l := R) enc1_len rfl oR)
      have ho5 := hid (owns_ext ho E5)
      have hE5 := hid (hE.trans E5)
      clear ho hE E5 oR
      replace hRr := hid hRr
      go_wp2_with fail
      go_loopw [6] (fun i wr => ∃ e : Int, y + 1 ≤ e ∧ e ≤ 40 ∧ i = .int .i64 e ∧ Hid (rowEnd g y (y + 1) = rowEnd g y e) ∧ Ext w5 wr) (fun i _ => (40 - intOf i).toNat)
      case atStart => exact ⟨y + 1, by omega, by omega, rfl, rfl, Ext.refl _⟩
      case round =>
        obtain ⟨e, he0, he1, rfl, hR, hE6⟩ := hrel
        by_cases hes : e < 40 ∧ runs g e = runs g y
        · obtain ⟨he, hs⟩ := hes
          have hR2 : Hid (rowEnd g y (y + 1) = rowEnd g y (e + 1)) := by show _ = _; rw [hR.out, rowEnd_same he hs]
          have hdec : decide (runs g e = R) = true := decide_eq_true (by rw [hRr.out]; exact hs)
          replace hs := hid hs
          clear hR
          go_wp2_with fail
          refine (l03Runs_any B _ g e _ (hb.out.ext (hE5.out.trans hE6))).mono ?_
          rintro e2 w7 ⟨q7, c7, rfl, o7, E7⟩
          have s7 := SlT.of_owns (l := runs g e) enc1_len rfl o7
          have hl7 := runs_len g e
          clear o7
          go_wp2_with fail
          refine (l03Equal_any q7 qr _ _ c7 cr (runs g e) R _ s7 ((sR.out.ext hE6).ext E7) (by omega) (by omega)).mono ?_
          rw [hdec]
          rintro e3 w8 ⟨rfl, E8⟩
          have hE8 := hid ((hE6.trans E7).trans E8)
          clear hdec s7 hl7 E7 E8 hE6
          go_wp2_with fail
          go_roundw
          case rel => exact ⟨e + 1, by omega, by omega, rfl, hR2, hE8.out⟩
          case measure => simp [intOf]; omega
        · have hEnd : Hid (rowEnd g y (y + 1) = e) := by
            show _ = _
            rw [hR.out]
            apply rowEnd_stop
            by_cases he8 : e < 40
            · right; intro h; exact hes ⟨he8, h⟩
            · left; omega
          replace hes := hid hes
          clear hR
          by_cases he : e < 40
          case' pos =>
            have hdec : decide (runs g e = R) = false := decide_eq_false (fun h => hes.out ⟨he, by rw [h, hRr.out]⟩)
            clear hes
            go_wp2_with fail
            refine (l03Runs_any B _ g e _ (hb.out.ext (hE5.out.trans hE6))).mono ?_
            rintro e2 w7 ⟨q7, c7, rfl, o7, E7⟩
            have s7 := SlT.of_owns (l := runs g e) enc1_len rfl o7
            have hl7 := runs_len g e
            clear o7
            go_wp2_with fail
            refine (l03Equal_any q7 qr _ _ c7 cr (runs g e) R _ s7 ((sR.out.ext hE6).ext E7) (by omega) (by omega)).mono ?_
            rw [hdec]
            rintro e3 w8 ⟨rfl, E8⟩
            have hE8 := hid ((hE6.trans E7).trans E8)
            clear hdec s7 hl7 E7 E8 hE6 he
            go_wp2_with fail
          case' neg =>
            have hE8 := hid hE6
            clear hes hE6
            go_wp2_with fail
            clear he
          all_goals
            replace hE8 := hE8.out
            have hEw := hid (hE5.out.trans hE8)
            have hoA := hid (owns_ext ho5.out hE8)
            have sR8 := hid (sR.out.ext hE8)
            go_loopw [3, 7] (fun v i wr => ∃ (m : Nat) (o2 : List Q4) (q2 : Option Addr) (c2 : Nat), (m ≤ R.length ∧ m % 2 = 0) ∧ v = .slice q2 o2.length c2 ∧ i = .int .i64 m ∧ Hid (o2 = out ++ ((pairs R).take (m / 2)).map (mkR y e)) ∧ wr.ownsRow w.heap.size 49 4 (.slice q2 o2.length c2) o2.length (o2.flatMap enc4) ∧ Hid (∀ a, qr = some a → Value.ownBlock (.slice q2 o2.length c2) ≠ some a.block) ∧ SlT enc1 1 wr qr R.length R ∧ Ext w wr) (fun _ i _ => 100 - (intOf i).toNat)
            case atStart => exact ⟨0, out, q, c', ⟨by omega, rfl⟩, rfl, rfl, (by show _ = _; simp), hoA.out, hne, sR8.out, hEw.out⟩
            case round =>
              clear hE8 hEw hoA sR8 hne ho5 hE5 sR
              obtain ⟨m, o2, q2, c2, ⟨hm, hm2⟩, rfl, rfl, hO, ho, hne, sR, hE⟩ := hrel
              have hpl := pairs_len R
              have hoL : o2.length ≤ 3200 := by
                rw [hO.out, List.length_append, List.length_map, List.length_take]
                rw [band, ← hRr.out, List.length_map] at hlen
                omega
              by_cases hmR : m + 1 < R.length
              · have hmI : (m : Int) + 1 < (R.length : Int) := by omega
                have hmI0 : (m : Int) < (R.length : Int) := by omega
                obtain ⟨x0, x1, hx0, hx1, hxp⟩ := pairs_at (l := R) (k := m / 2) (by omega)
                rw [show m / 2 * 2 = m by omega] at hx0 hx1
                obtain ⟨br, or, y0, rfl, hbr, hy0', d0⟩ := sR.int (k := m) (by omega)
                obtain ⟨br', or', y1, hp', hbr', hy1', d1⟩ := sR.int (k := m + 1) hmR
                cases hp'
                obtain rfl : y0 = x0 := Option.some.inj (hy0'.out.symm.trans hx0)
                obtain rfl : y1 = x1 := Option.some.inj (hy1'.out.symm.trans hx1)
                have hO2 : Hid (o2 ++ [⟨y0, y, y1, e⟩] = out ++ ((pairs R).take ((m + 2) / 2)).map (mkR y e)) := by
                  show _ = _
                  rw [hO.out, show (m + 2) / 2 = m / 2 + 1 by omega, take_snoc hxp, List.map_append]
                  simp [mkR]
                have A0 := ((Ext.refl wr).alloc (.cells #[.int .i64 y0, .int .i64 y, .int .i64 y1, .int .i64 e] 49)).drew
                have q0 := (A0.cells _ (or + m) hbr).trans d0
                have q1 := (A0.cells _ (or + (m + 1)) hbr).trans d1
                have nb1 := hid (Nat.lt_of_lt_of_le hbr A0.le)
                have ne1 := hid (hne.out _ rfl)
                have hbase : w.heap.size ≤ (wr.alloc (.cells #[.int .i64 y0, .int .i64 y, .int .i64 y1, .int .i64 e] 49)).heap.size := (hE.alloc _).le
                have hwm : IntKind.i64.wrap ((m : Int) + 1) = (m : Int) + 1 := IntWalk.i64_in _ (by omega)
                have hwt : ((m : Int) + 1).toNat = m + 1 := by omega
                have hw0 : (0 : Int) ≤ (m : Int) + 1 := by omega
                replace hx0 := hid hx0
                replace hx1 := hid hx1
                replace hxp := hid hxp
                clear hx0 hx1 hxp hO A0
                replace sR := hid sR
                go_wp2_with fail
                go_region_held3 (fun w' => w'.cell? ⟨br, or + m, none⟩ = some (.int .i64 y0) ∧ w'.cell? ⟨br, or + (m + 1), none⟩ = some (.int .i64 y1)) (first | exact ⟨d0, d1⟩ | exact ⟨q0, q1⟩ | exact ⟨(grown_cell hgA nb1.out ne1.out _).trans q0, (grown_cell hgA nb1.out ne1.out _).trans q1⟩) ((refine step_append_lies _ rfl _ _ 42 rfl w.heap.size 49 i0 _ 4 32 Try.underlying42 hi hz0 hz1 hz2 rfl (by omega) _ _ _ rfl (ho.alloc _).drew ⟨wr.heap.size, 0, none⟩ 1 1 [.int .i64 y0, .int .i64 y, .int .i64 y1, .int .i64 e] rfl rfl (cells_newd _ _ _) (one_int4 _ _ _ _) (by omega) (len_le (by omega) (by omega)) (by omega) hbase _ rfl ?_; intro gL cL wA hoA hgA hbA hlA))
                have hE2 := hid ((hE.alloc (.cells #[.int .i64 y0, .int .i64 y, .int .i64 y1, .int .i64 e] 49)).drew.grown hgA (fun b hb => (ho.lt b hb).1))
                have hs2 := hid (((sR.out.ext ((Ext.refl wr).alloc (.cells #[.int .i64 y0, .int .i64 y, .int .i64 y1, .int .i64 e] 49)).drew)).grown hgA hne.out)
                have hne2 : Hid (∀ a, some (⟨br, or, none⟩ : Addr) = some a → Value.ownBlock (.slice (some ⟨gL, 0, none⟩) (o2.length + 1) cL) ≠ some a.block) := by
                  intro a ha hh
                  cases ha
                  simp only [Value.ownBlock] at hh
                  cases hh
                  rcases hbA with h1 | h1
                  · exact ne1.out h1
                  · have := ((Ext.refl wr).alloc (.cells #[.int .i64 y0, .int .i64 y, .int .i64 y1, .int .i64 e] 49)).le
                    simp at h1
                    omega
                replace hoA := hid hoA
                clear hgA hbA hlA q0 q1 d0 d1 hwm hwt hw0
                go_wp2_with fail
                go_roundw
                case rel => exact ⟨m + 2, o2 ++ [⟨y0, y, y1, e⟩], _, cL, ⟨by omega, by omega⟩, by rw [List.length_append]; rfl, by go_num, hO2, by rw [List.length_append, List.flatMap_append]; exact hoA.out, by rw [List.length_append]; exact hne2.out, hs2.out, hE2.out⟩
                case measure => simp [intOf]; omega
              · have hmI : ¬ (m : Int) + 1 < (R.length : Int) := by omega
                have hC2 : Hid (canon g = o2 ++ canonY g e) := by
                  show _ = _
                  rw [hC.out, canonY_step hy, band, hEnd.out, hO.out, List.take_of_length_le (by omega), hRr.out, List.append_assoc]
                  rfl
                clear hC hEnd hO hRr hlen
                replace sR := hid sR
                replace ho := hid ho
                go_wp2_with fail
                go_roundw
                case rel => exact ⟨e, o2, q2, c2, by omega, by omega, rfl, rfl, hC2, ho.out, hE⟩
                case measure => simp [intOf]; omega
    · have hCl : Hid (out = canon g) := by show _ = _; rw [hC.out, canonY_stop (by omega), List.append_nil]
      clear hC
      go_wp2_with fail
      go_ret
      rw [← hCl.out]
      exact ⟨q, c', rfl, ho, hE⟩
end Go.Proofs.Ytiljojpnbpdaeaa
