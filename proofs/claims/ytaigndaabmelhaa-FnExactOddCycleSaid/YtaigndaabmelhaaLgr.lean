/- Contract of the reference's l33Grow. Condition: a distance from 0 to 8. -/
import Derived.Test.YtaigndaabmelhaaLcl
import Derived.Test.YtaigndaabmelhaaScp
namespace Go.Proofs.Ytaigndaabmelhaa
open Go.RowKit

theorem xOf_m {x y : Nat} (h : x < 80) : xOf (y * 80 + x) = (x : Int) - 40 := by unfold xOf; omega
theorem yOf_m {x y : Nat} (h : x < 80) : yOf (y * 80 + x) = (y : Int) - 40 := by unfold yOf; omega
theorem xOf_ge {i : Nat} (_ : i < 6400) : -40 ≤ xOf i := by unfold xOf; omega
theorem yOf_ge {i : Nat} (_ : i < 6400) : -40 ≤ yOf i := by unfold yOf; omega
theorem xOf_le {i : Nat} (_ : i < 6400) : xOf i ≤ 39 := by unfold xOf; omega
theorem yOf_le {i : Nat} (_ : i < 6400) : yOf i ≤ 39 := by unfold yOf; omega
theorem at_uniq {i : Nat} {u v : Int} (hoc : onC u v = true) (h1 : xOf i = u) (h2 : yOf i = v) : i = atG u v := by
  have h3 := onC_iff.1 hoc
  unfold xOf at h1
  unfold yOf at h2
  unfold atG
  omega
theorem scat_low {g : Grid} {rel : Nat → Nat → Bool} {cut : Nat → Int} {m : Nat} {t t' : Int} (h : ∀ i, i < 6400 → rel m i = true → t ≤ cut i) (h' : ∀ i, i < 6400 → rel m i = true → t' ≤ cut i) : gcells (scat g rel cut m t) = gcells (scat g rel cut m t') := gcells_ext fun i hi => by
  rw [scat, scat]
  congr 1
  cases hr : rel m i
  · simp
  · have h1 := h i hi hr
    have h2 := h' i hi hr
    have h3 : decide (cut i < t) = false := by simp; omega
    have h4 : decide (cut i < t') = false := by simp; omega
    rw [h3, h4]
/-- The two arrays of l33Grow. -/
structure GwW (w : World) (R O : Nat) (cR cO : Grid) (wr : World) : Prop where
  rb : Blk wr R (gcells cR) 4
  ob : Blk wr O (gcells cO) 4
  ext : Ext w wr
theorem GwW.left {w : World} {R O : Nat} {cR cO c : Grid} {wr : World} (h : GwW w R O cR cO wr) (e : gcells cR = gcells c) : GwW w R O c cO wr := ⟨e ▸ h.rb, h.ob, h.ext⟩
theorem GwW.right {w : World} {R O : Nat} {cR cO c : Grid} {wr : World} (h : GwW w R O cR cO wr) (e : gcells cO = gcells c) : GwW w R O cR c wr := ⟨h.rb, e ▸ h.ob, h.ext⟩
theorem GwW.setL {w : World} {R O : Nat} {cR cO c : Grid} {wr : World} (h : GwW w R O cR cO wr) (hR : w.heap.size ≤ R) (hRO : O ≠ R) (j : Nat) (e : (gcells cR).set j (.bool true) = gcells c) : GwW w R O c cO (wr.setCell ⟨R, j, none⟩ (.bool true)) :=
  ⟨by have := h.rb.set j (.bool true); rw [e] at this; exact this, h.ob.other j _ hRO, h.ext.setCell (p := ⟨R, j, none⟩) hR _⟩
theorem GwW.setR {w : World} {R O : Nat} {cR cO c : Grid} {wr : World} (h : GwW w R O cR cO wr) (hO : w.heap.size ≤ O) (hRO : R ≠ O) (j : Nat) (e : (gcells cO).set j (.bool true) = gcells c) : GwW w R O cR c (wr.setCell ⟨O, j, none⟩ (.bool true)) :=
  ⟨h.rb.other j _ hRO, by have := h.ob.set j (.bool true); rw [e] at this; exact this, h.ext.setCell (p := ⟨O, j, none⟩) hO _⟩
set_option maxRecDepth 100000 in
set_option maxHeartbeats 8000000 in
theorem l33Grow_any (B cb : Nat) (g : Grid) (k : Int) (w : World) (hb : Bits w B g) (hk0 : 0 ≤ k) (hk8 : k ≤ 8) :
    Calls Try.prog 89 #[.slice (some ⟨B, 0, none⟩) 6400 cb, .int .i64 k] w (BitsB (growC g k) w) := by
  obtain ⟨j0, hj, hy0, hy1, hy2⟩ := info_parts info_Bool
  have hbw := hid hb
  have hBl := hb.1
  clear hb
  go_enter Try.func89, Try.ntmps89
  go_upto_region 2 with (refine wpList_make_full _ rfl _ _ 79 rfl w.heap.size 4 j0 _ 1 Try.underlying79 hj hy0 hy1 .i64 .i64 6400 6400 6400 rfl rfl rfl rfl (by rw [hy2]; omega) (by unfold maxLen; omega) (by simp) ?_; intro w1 ho hg)
  rw [made_const _ (.bool false) _ (by simp [Value.cells]) (by intro j hj; simp [Value.cells] at hj ⊢; subst hj; rfl), ← gcells_none] at ho
  have hE : Ext w w1 := (Ext.refl _).grown hg (fun _ h => by cases h)
  have hR := owns_toBlk ho
  clear hg ho
  obtain ⟨R, hRe⟩ : ∃ R, R = w.heap.size := ⟨_, rfl⟩
  rw [← hRe] at hR ⊢
  have hRw : w.heap.size ≤ R := by omega
  have hR1 := hR.lt
  replace hRe := hid hRe
  replace hR := hid hR
  go_wp2_with (refine wpList_make_full _ rfl _ _ 79 rfl w1.heap.size 4 j0 _ 1 Try.underlying79 hj hy0 hy1 .i64 .i64 6400 6400 6400 rfl rfl rfl rfl (by rw [hy2]; omega) (by unfold maxLen; omega) (by simp) ?_; intro w2 ho2 hg2)
  rw [made_const _ (.bool false) _ (by simp [Value.cells]) (by intro j hj; simp [Value.cells] at hj ⊢; subst hj; rfl), ← gcells_none] at ho2
  have hE2 : Ext w1 w2 := (Ext.refl _).grown hg2 (fun _ h => by cases h)
  have hO := owns_toBlk ho2
  clear hg2 ho2
  obtain ⟨O, hOe⟩ : ∃ O, O = w1.heap.size := ⟨_, rfl⟩
  rw [← hOe] at hO ⊢
  have hRO : O ≠ R := by omega
  have hOw : w.heap.size ≤ O := by omega
  have hst : GwW w R O (scat g (relH k) xOf 0 (-40)) gnone w2 := ⟨by rw [← scat_zero (fun i hi => xOf_ge hi)]; exact hR.out.ext hE2, hO, hE.trans hE2⟩
  replace hst := hid hst
  replace hOe := hid hOe
  clear hE hE2 hO hR
  go_loopw [7] (fun iy wr => ∃ y : Nat, y ≤ 80 ∧ iy = .int .i64 ((y : Int) - 40) ∧ Hid (GwW w R O (scat g (relH k) xOf (y * 80) (-40)) gnone wr)) (fun i _ => (40 - intOf i).toNat)
  case atStart => exact ⟨0, by omega, rfl, by rw [Nat.zero_mul]; exact hst⟩
  case round =>
    clear hst
    obtain ⟨y, hy, rfl, hw⟩ := hrel
    by_cases hlt : y < 80
    · have hyI : (y : Int) - 40 < 40 := by omega
      go_wp2_with fail
      go_loopw [8] (fun ix wr => ∃ x : Nat, x ≤ 80 ∧ ix = .int .i64 ((x : Int) - 40) ∧ Hid (GwW w R O (scat g (relH k) xOf (y * 80 + x) (-40)) gnone wr)) (fun i _ => (40 - intOf i).toNat)
      case atStart => exact ⟨0, by omega, rfl, hw⟩
      case round =>
        clear hw
        obtain ⟨x, hx, rfl, hw⟩ := hrel
        by_cases hxl : x < 80
        · have hxI : (x : Int) - 40 < 40 := by omega
          obtain ⟨c0, hc0⟩ : ∃ c0 : Int, c0 = (x : Int) - 40 := ⟨_, rfl⟩
          have hcb : -40 ≤ c0 ∧ c0 ≤ 39 := by omega
          have hxm := xOf_m (y := y) hxl
          have hym := yOf_m (y := y) hxl
          have hlo : Hid (GwW w R O (scat g (relH k) xOf (y * 80 + x) (c0 - k)) gnone wr) := hw.out.left (scat_low (fun i hi _ => xOf_ge hi) (fun i hi hr => by rw [relH_iff] at hr; omega))
          rw [hc0] at hlo
          clear hw
          go_wp2_with fail
          go_loopw [9] (fun iu wr => ∃ i : Nat, (i : Int) ≤ 2 * k + 1 ∧ iu = .int .i64 ((x : Int) - 40 - k + i) ∧ Hid (GwW w R O (scat g (relH k) xOf (y * 80 + x) ((x : Int) - 40 - k + i)) gnone wr)) (fun i _ => ((x : Int) - 40 + k + 1 - intOf i).toNat)
          case atStart => exact ⟨0, by omega, by simp, by simpa using hlo⟩
          case round =>
            clear hlo
            obtain ⟨i, hi, rfl, hw⟩ := hrel
            have hs := hbw.out.ext hw.out.ext
            have z := hs.2 (y * 80 + x) (by omega)
            have hsl := hs.1
            have hiw : IntKind.i64.wrap ((x : Int) - 40 + k) = (x : Int) - 40 + k := IntWalk.i64_in _ (by omega)
            clear hs
            cases hg : g (y * 80 + x) with
            | false =>
              rw [hg] at z
              have hn : Hid (GwW w R O (scat g (relH k) xOf (y * 80 + (x + 1)) (-40)) gnone wr) := hw.out.left (scat_done (fun i _ h => by rw [hg] at h; cases h) (-40) (fun i hi => xOf_ge hi))
              clear hg
              go_wp2_with (go_at_call 125; refine (l03At_at x y _ hxl hlt).mono ?_; rintro e w' ⟨rfl, rfl⟩)
              go_roundw
              case rel => exact ⟨x + 1, by omega, vint (by omega), hn⟩
              case measure => simp [intOf]; omega
            | true =>
              rw [hg] at z
              by_cases hik : (i : Int) ≤ 2 * k
              · have hikI : (x : Int) - 40 - k + (i : Int) ≤ (x : Int) - 40 + k := by omega
                obtain ⟨u, hu⟩ : ∃ u : Int, u = (x : Int) - 40 - k + (i : Int) := ⟨_, rfl⟩
                have hub : -60 ≤ u ∧ u ≤ 60 := by omega
                have huk : c0 - k ≤ u ∧ u ≤ c0 + k := by omega
                have hnext : (x : Int) - 40 - k + ((i + 1 : Nat) : Int) = u + 1 := by omega
                have hwi := fun W => l09In_any u (-40) 39 W
                have hme : ((x : Int) - 40 + k + 1 - (u + 1)).toNat < ((x : Int) - 40 + k + 1 - u).toNat := by omega
                rw [← hu] at hw hikI ⊢
                by_cases hon : -40 ≤ u ∧ u ≤ 39
                · rw [show wit u (-40) 39 = true from wit_iff.2 hon] at hwi
                  replace hwi := hid hwi
                  have hoc : onC u ((y : Int) - 40) = true := by rw [onC_iff]; omega
                  have hxa := xOf_at hoc
                  have hya := yOf_at hoc
                  have hst := hid (scat_set (g := g) (rel := relH k) (cut := xOf) (m := y * 80 + x) (t := u) (i0 := atG u ((y : Int) - 40)) hg (by rw [relH_iff]; omega) (by omega) (fun i hi hr hc => by rw [relH_iff] at hr; exact at_uniq hoc (by omega) (by omega)))
                  have hat6 := atG_lt hoc
                  have zt := hw.out.rb.cells (atG u ((y : Int) - 40))
                  have ft := hw.out.rb.free (atG u ((y : Int) - 40))
                  have htl := hw.out.rb.lt
                  have htc := gcells_get (scat g (relH k) xOf (y * 80 + x) u) hat6
                  rw [htc] at zt
                  have hn : Hid (GwW w R O (scat g (relH k) xOf (y * 80 + x) (u + 1)) gnone (wr.setCell ⟨R, atG u ((y : Int) - 40), none⟩ (.bool true)) ) := hw.out.setL hRw hRO (atG u ((y : Int) - 40)) hst.out
                  rw [← hnext] at hn
                  have hoc2 := hid hoc
                  rw [← hnext] at hme
                  replace hnext := hid hnext
                  replace hu := hid hu
                  replace hw := hid hw
                  clear hg hoc hxa hya hst htc hxm hym hc0 hcb huk hon
                  go_wp2_with (first | (go_at_call 128; refine (hwi.out _).mono ?_; rintro e w' ⟨rfl, rfl⟩) | (go_at_call 125; first | ((with_reducible refine (l03At_at x y _ hxl hlt).mono ?_); rintro e w' ⟨rfl, rfl⟩) | ((with_reducible refine (l03At_any _ _ _ hoc2.out).mono ?_); rintro e w' ⟨rfl, rfl⟩)))
                  go_roundw
                  case rel => exact ⟨i + 1, by omega, vint (by have := hnext.out; omega), hn⟩
                  case measure => simp [intOf]; have := hnext.out; omega
                · rw [show wit u (-40) 39 = false from by cases h9 : wit u (-40) 39 with
                    | true => exact absurd (wit_iff.1 h9) hon
                    | false => rfl] at hwi
                  replace hwi := hid hwi
                  have hn : Hid (GwW w R O (scat g (relH k) xOf (y * 80 + x) (u + 1)) gnone wr) := hw.out.left (scat_skip (fun i hi h => hon (by rw [← h.2.2]; exact ⟨xOf_ge hi, xOf_le hi⟩)))
                  rw [← hnext] at hn
                  rw [← hnext] at hme
                  replace hnext := hid hnext
                  replace hu := hid hu
                  clear hg hw hxm hym hc0 hcb huk hon
                  go_wp2_with (first | (go_at_call 128; refine (hwi.out _).mono ?_; rintro e w' ⟨rfl, rfl⟩) | (go_at_call 125; ((with_reducible refine (l03At_at x y _ hxl hlt).mono ?_); rintro e w' ⟨rfl, rfl⟩)))
                  go_roundw
                  case rel => exact ⟨i + 1, by omega, vint (by have := hnext.out; omega), hn⟩
                  case measure => simp [intOf]; have := hnext.out; omega
              · have hikI : ¬ (x : Int) - 40 - k + (i : Int) ≤ (x : Int) - 40 + k := by omega
                have hn : Hid (GwW w R O (scat g (relH k) xOf (y * 80 + (x + 1)) (-40)) gnone wr) := hw.out.left (scat_done (fun i9 _ _ hr => by rw [relH_iff] at hr; omega) (-40) (fun i hi => xOf_ge hi))
                clear hg hw hxm hym hc0 hcb
                go_wp2_with (go_at_call 125; refine (l03At_at x y _ hxl hlt).mono ?_; rintro e w' ⟨rfl, rfl⟩)
                go_roundw
                case rel => exact ⟨x + 1, by omega, vint (by omega), hn⟩
                case measure => simp [intOf]; omega
        · have hxI : ¬ (x : Int) - 40 < 40 := by omega
          have h80 : y * 80 + x = (y + 1) * 80 := by omega
          rw [h80] at hw
          clear h80
          go_wp2_with fail
          go_roundw
          case rel => exact ⟨y + 1, by omega, vint (by omega), hw⟩
          case measure => simp [intOf]; omega
    · have hyI : ¬ (y : Int) - 40 < 40 := by omega
      have h80 : y * 80 = 6400 := by omega
      rw [h80] at hw
      clear h80
      obtain ⟨G1, hG1⟩ : ∃ G1, G1 = scatA g (relH k) := ⟨_, rfl⟩
      have hst2 : Hid (GwW w R O G1 (scat G1 (relV k) yOf 0 (-40)) wr) := (hw.out.left (by rw [hG1]; exact scat_all (fun i hi => xOf_ge hi))).right (scat_zero (fun i hi => yOf_ge hi))
      replace hG1 := hid hG1
      clear hw
      go_wp2_with fail
      go_loopw [10] (fun iy wr => ∃ y : Nat, y ≤ 80 ∧ iy = .int .i64 ((y : Int) - 40) ∧ Hid (GwW w R O G1 (scat G1 (relV k) yOf (y * 80) (-40)) wr)) (fun i _ => (40 - intOf i).toNat)
      case atStart => exact ⟨0, by omega, rfl, by rw [Nat.zero_mul]; exact hst2⟩
      case round =>
        clear hst2
        obtain ⟨y, hy, rfl, hw⟩ := hrel
        by_cases hlt : y < 80
        · have hyI : (y : Int) - 40 < 40 := by omega
          go_wp2_with fail
          go_loopw [11] (fun ix wr => ∃ x : Nat, x ≤ 80 ∧ ix = .int .i64 ((x : Int) - 40) ∧ Hid (GwW w R O G1 (scat G1 (relV k) yOf (y * 80 + x) (-40)) wr)) (fun i _ => (40 - intOf i).toNat)
          case atStart => exact ⟨0, by omega, rfl, hw⟩
          case round =>
            clear hw
            obtain ⟨x, hx, rfl, hw⟩ := hrel
            by_cases hxl : x < 80
            · have hxI : (x : Int) - 40 < 40 := by omega
              obtain ⟨c0, hc0⟩ : ∃ c0 : Int, c0 = (y : Int) - 40 := ⟨_, rfl⟩
              have hcb : -40 ≤ c0 ∧ c0 ≤ 39 := by omega
              have hxm := xOf_m (y := y) hxl
              have hym := yOf_m (y := y) hxl
              have hlo : Hid (GwW w R O G1 (scat G1 (relV k) yOf (y * 80 + x) (c0 - k)) wr) := hw.out.right (scat_low (fun i hi _ => yOf_ge hi) (fun i hi hr => by rw [relV_iff] at hr; omega))
              rw [hc0] at hlo
              clear hw
              go_wp2_with fail
              go_loopw [12] (fun iu wr => ∃ i : Nat, (i : Int) ≤ 2 * k + 1 ∧ iu = .int .i64 ((y : Int) - 40 - k + i) ∧ Hid (GwW w R O G1 (scat G1 (relV k) yOf (y * 80 + x) ((y : Int) - 40 - k + i)) wr)) (fun i _ => ((y : Int) - 40 + k + 1 - intOf i).toNat)
              case atStart => exact ⟨0, by omega, by simp, by simpa using hlo⟩
              case round =>
                clear hlo
                obtain ⟨i, hi, rfl, hw⟩ := hrel
                have hs := Bits.ofBlk hw.out.rb
                have z := hs.2 (y * 80 + x) (by omega)
                have hsl := hs.1
                have hiw : IntKind.i64.wrap ((y : Int) - 40 + k) = (y : Int) - 40 + k := IntWalk.i64_in _ (by omega)
                clear hs
                cases hg : G1 (y * 80 + x) with
                | false =>
                  rw [hg] at z
                  have hn : Hid (GwW w R O G1 (scat G1 (relV k) yOf (y * 80 + (x + 1)) (-40)) wr) := hw.out.right (scat_done (fun i _ h => by rw [hg] at h; cases h) (-40) (fun i hi => yOf_ge hi))
                  clear hg
                  go_wp2_with (go_at_call 125; refine (l03At_at x y _ hxl hlt).mono ?_; rintro e w' ⟨rfl, rfl⟩)
                  go_roundw
                  case rel => exact ⟨x + 1, by omega, vint (by omega), hn⟩
                  case measure => simp [intOf]; omega
                | true =>
                  rw [hg] at z
                  by_cases hik : (i : Int) ≤ 2 * k
                  · have hikI : (y : Int) - 40 - k + (i : Int) ≤ (y : Int) - 40 + k := by omega
                    obtain ⟨u, hu⟩ : ∃ u : Int, u = (y : Int) - 40 - k + (i : Int) := ⟨_, rfl⟩
                    have hub : -60 ≤ u ∧ u ≤ 60 := by omega
                    have huk : c0 - k ≤ u ∧ u ≤ c0 + k := by omega
                    have hnext : (y : Int) - 40 - k + ((i + 1 : Nat) : Int) = u + 1 := by omega
                    have hwi := fun W => l09In_any u (-40) 39 W
                    have hme : ((y : Int) - 40 + k + 1 - (u + 1)).toNat < ((y : Int) - 40 + k + 1 - u).toNat := by omega
                    rw [← hu] at hw hikI ⊢
                    by_cases hon : -40 ≤ u ∧ u ≤ 39
                    · rw [show wit u (-40) 39 = true from wit_iff.2 hon] at hwi
                      replace hwi := hid hwi
                      have hoc : onC ((x : Int) - 40) u = true := by rw [onC_iff]; omega
                      have hxa := xOf_at hoc
                      have hya := yOf_at hoc
                      have hst := hid (scat_set (g := G1) (rel := relV k) (cut := yOf) (m := y * 80 + x) (t := u) (i0 := atG ((x : Int) - 40) u) hg (by rw [relV_iff]; omega) (by omega) (fun i hi hr hc => by rw [relV_iff] at hr; exact at_uniq hoc (by omega) (by omega)))
                      have hat6 := atG_lt hoc
                      have zt := hw.out.ob.cells (atG ((x : Int) - 40) u)
                      have ft := hw.out.ob.free (atG ((x : Int) - 40) u)
                      have htl := hw.out.ob.lt
                      have htc := gcells_get (scat G1 (relV k) yOf (y * 80 + x) u) hat6
                      rw [htc] at zt
                      have hn : Hid (GwW w R O G1 (scat G1 (relV k) yOf (y * 80 + x) (u + 1)) (wr.setCell ⟨O, atG ((x : Int) - 40) u, none⟩ (.bool true)) ) := hw.out.setR hOw hRO.symm (atG ((x : Int) - 40) u) hst.out
                      rw [← hnext] at hn
                      have hoc2 := hid hoc
                      rw [← hnext] at hme
                      replace hnext := hid hnext
                      replace hu := hid hu
                      replace hw := hid hw
                      clear hg hoc hxa hya hst htc hxm hym hc0 hcb huk hon
                      go_wp2_with (first | (go_at_call 128; refine (hwi.out _).mono ?_; rintro e w' ⟨rfl, rfl⟩) | (go_at_call 125; first | ((with_reducible refine (l03At_at x y _ hxl hlt).mono ?_); rintro e w' ⟨rfl, rfl⟩) | ((with_reducible refine (l03At_any _ _ _ hoc2.out).mono ?_); rintro e w' ⟨rfl, rfl⟩)))
                      go_roundw
                      case rel => exact ⟨i + 1, by omega, vint (by have := hnext.out; omega), hn⟩
                      case measure => simp [intOf]; have := hnext.out; omega
                    · rw [show wit u (-40) 39 = false from by cases h9 : wit u (-40) 39 with
                        | true => exact absurd (wit_iff.1 h9) hon
                        | false => rfl] at hwi
                      replace hwi := hid hwi
                      have hn : Hid (GwW w R O G1 (scat G1 (relV k) yOf (y * 80 + x) (u + 1)) wr) := hw.out.right (scat_skip (fun i hi h => hon (by rw [← h.2.2]; exact ⟨yOf_ge hi, yOf_le hi⟩)))
                      rw [← hnext] at hn
                      rw [← hnext] at hme
                      replace hnext := hid hnext
                      replace hu := hid hu
                      clear hg hw hxm hym hc0 hcb huk hon
                      go_wp2_with (first | (go_at_call 128; refine (hwi.out _).mono ?_; rintro e w' ⟨rfl, rfl⟩) | (go_at_call 125; ((with_reducible refine (l03At_at x y _ hxl hlt).mono ?_); rintro e w' ⟨rfl, rfl⟩)))
                      go_roundw
                      case rel => exact ⟨i + 1, by omega, vint (by have := hnext.out; omega), hn⟩
                      case measure => simp [intOf]; have := hnext.out; omega
                  · have hikI : ¬ (y : Int) - 40 - k + (i : Int) ≤ (y : Int) - 40 + k := by omega
                    have hn : Hid (GwW w R O G1 (scat G1 (relV k) yOf (y * 80 + (x + 1)) (-40)) wr) := hw.out.right (scat_done (fun i9 _ _ hr => by rw [relV_iff] at hr; omega) (-40) (fun i hi => yOf_ge hi))
                    clear hg hw hxm hym hc0 hcb
                    go_wp2_with (go_at_call 125; refine (l03At_at x y _ hxl hlt).mono ?_; rintro e w' ⟨rfl, rfl⟩)
                    go_roundw
                    case rel => exact ⟨x + 1, by omega, vint (by omega), hn⟩
                    case measure => simp [intOf]; omega
            · have hxI : ¬ (x : Int) - 40 < 40 := by omega
              have h80 : y * 80 + x = (y + 1) * 80 := by omega
              rw [h80] at hw
              clear h80
              go_wp2_with fail
              go_roundw
              case rel => exact ⟨y + 1, by omega, vint (by omega), hw⟩
              case measure => simp [intOf]; omega
        · have hyI : ¬ (y : Int) - 40 < 40 := by omega
          have h80 : y * 80 = 6400 := by omega
          rw [h80] at hw
          clear h80
          have hfin := (hw.out.right (scat_all (fun i hi => yOf_ge hi)))
          rw [hG1.out] at hfin
          have hfin := hid hfin
          go_wp2_with fail
          go_ret
          exact ⟨O, rfl, owns_blk (n := 6400) (size := 1) hfin.out.ob hOw (by rw [gcells_len]) (by simp [maxLen]), hfin.out.ext⟩
end Go.Proofs.Ytaigndaabmelhaa
