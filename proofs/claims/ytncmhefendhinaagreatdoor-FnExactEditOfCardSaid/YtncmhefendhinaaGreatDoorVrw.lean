/- Words read into numbers, program and reference. Condition: lengths that fit; the tables as they are laid; a valid library. -/
import Derived.Test.YtncmhefendhinaaGreatDoorVwd
namespace Go.Proofs.YtncmhefendhinaaGreatDoor
open Go.RowKit Go.PlainAid
set_option linter.unusedVariables false
set_option linter.unusedSimpArgs false

/-- The numbers that are laid so far. -/
structure VsP (w wr : World) (v : Value) (L : List Int) : Prop where
  ext : Ext w wr
  o : wr.ownsRow w.heap.size 2 1 v L.length (L.flatMap enc1)
theorem VsP.start (w : World) : VsP w (w.alloc (.cells #[] 2)) (.slice (some ⟨w.heap.size, 0, none⟩) 0 0) [] :=
  ⟨(Ext.refl w).alloc _, World.ownsRow_lit (base := w.heap.size) (e := 2) (size := 1) w #[] 0 (Nat.le_refl _) (by simp [maxLen]) (by simp)⟩
theorem VsP.later {w wr wr' : World} {v : Value} {L : List Int} (h : VsP w wr v L) (E : Ext wr wr') : VsP w wr' v L := ⟨h.ext.trans E, owns_ext h.o E⟩
theorem VsP.push {w wr wA : World} {v v' : Value} {L : List Int} {x : Int} {o : Obj} (h : VsP w wr v L) (hoA : wA.ownsRow w.heap.size 2 1 v' (L.length + 1) (L.flatMap enc1 ++ [.int .i64 x])) (hgA : (wr.alloc o).grownBy wA v.ownBlock) : VsP w wA v' (L ++ [x]) := by
  refine ⟨(h.ext.alloc o).grown hgA (fun k hk => (h.o.lt k hk).1), ?_⟩
  rw [List.length_append, List.flatMap_append]
  exact hoA

theorem vsV_le {l : List CeD} {ks : List Nat} {ws : List ByteArray} {k : Nat} (h : k ≤ 1048576) : (vsV l (ks.take k) (ws.take k)).length ≤ 1048576 := by
  unfold vsV
  rw [List.length_zipWith, List.length_take, List.length_take]
  omega
theorem sz_word {ws : List ByteArray} {k : Nat} {y : ByteArray} (h : ∀ y ∈ ws, y.size ≤ 1048576) (hy : ws[k]? = some y) : y.size ≤ 1048576 := h y (List.mem_of_getElem? hy)

set_option maxRecDepth 100000 in
set_option maxHeartbeats 4000000 in
theorem pReadW (K : ByteArray) (ks : List Nat) (ws : List ByteArray) (l : List CeD) (p q : Option Addr) (n c m d base base2 : Nat) (w : World) (hV : Vrs w) (h : SlD CeR 4 base w p n l) (hn : n ≤ 1048576) (hS : SlD (Fl encW) 1 base2 w q m ws) (hm : m ≤ 1048576) (hws : ∀ y ∈ ws, y.size ≤ 1048576)
    (hK : K.size = ks.length) (hK2 : ks.length ≤ 1048576) (hb : ∀ i k, ks[i]? = some k → k < 5 ∧ bt K i = chP k) (hT : ∀ i, bt K i ≠ 84) :
    Calls Tryz.prog 32 #[.agg #[.slice p n c], .string K, .slice q m d] w fun e w' => ∃ q3 n3 d3, e = .returned (.tuple #[.slice q3 n3 d3, .int .i64 (rwV l ks ws)]) ∧ (rwV l ks ws = 0 → n3 = ks.length ∧ SlD (Fl enc1) 1 w.heap.size w' q3 ks.length (vsV l ks ws)) ∧ Ext w w' := by
  have hl := hid hS.length
  have hbt := get_bt K
  obtain ⟨j0, hj, hy0, hy1, hy2⟩ := info_parts info_I6
  by_cases hmk : m = ks.length
  · have hlen : Hid (ws.length = ks.length) := by show _ = _; rw [hl.out, hmk]
    have hmI : (m : Int) = K.size := by omega
    have hmB : ((m : Int) != (K.size : Int)) = false := by simpa using hmI
    replace hmI := hid hmI
    replace hmk := hid hmk
    replace hb := hid hb
    replace hT := hid hT
    replace hws := hid hws
    replace hK := hid hK
    go_enter Tryz.func32, Tryz.ntmps32
    go_upto_region 1 with (fail)
    generalize hW : World.alloc _ _ = W0
    obtain ⟨E0, z0, b0⟩ := boxes1 hW
    clear hW z0
    replace b0 := hid (show Blk W0 (w.heap.size) [_] _ from b0)
    have g0 := b0.out.cells
    have l0 := b0.out.lt
    have E := Ext.refl W0
    go_upto_region 4 with (fail)
    generalize hV1 : World.alloc W0 _ = W1
    obtain ⟨E1, z1, b1⟩ := boxes1 hV1
    clear hV1
    replace b1 := hid (show Blk W1 W0.heap.size [_, _, _, _, _, _] _ from b1)
    rw [← z1]
    clear z1
    have hP := hid (VsP.start W1)
    generalize World.alloc W1 _ = W2 at hP ⊢
    clear g0 l0 E
    go_wp2_with (fail)
    go_loopw [9, 10, 11, 12, 13, 25] (fun v1 _ _ _ _ i wr => ∃ k : Nat, k ≤ m ∧ i = .int .i64 k ∧ Hid (rwI l ks ws k) ∧ Hid (VsP W1 wr v1 (vsV l (ks.take k) (ws.take k)))) (fun _ _ _ _ _ i _ => m - (intOf i).toNat)
    case atStart => exact ⟨0, by omega, rfl, rwI.start l ks ws, hP⟩
    case round =>
      clear hP
      obtain ⟨k, hk, rfl, hI, hP⟩ := hrel
      obtain ⟨q1, c1, rfl⟩ := owns_forms2 hP.out.o
      have E := hid (E1.trans hP.out.ext)
      by_cases hlt : k < m
      · have hltI : (k : Int) < m := by omega
        have hltK : (k : Int) < K.size := by have := hK.out; have := hmk.out; omega
        have hltN : k < K.size := by have := hK.out; have := hmk.out; omega
        obtain ⟨b, off, y, rfl, hbk, hx, y0⟩ := get_w (hS.ext okStr (E0.trans E.out)) hlt
        have y1 := hid y0
        obtain ⟨kd, hkd⟩ : ∃ kd, Hid (ks[k]? = some kd) := ⟨_, hid (List.getElem?_eq_getElem (show k < ks.length by have := hmk.out; omega))⟩
        have hk5 := hid (hb.out k kd hkd.out).1
        have hch := hid (hb.out k kd hkd.out).2
        have hne : ¬ (bt K k = 84) := hT.out k
        have hneB : (bt K k != 84) = true := by simpa using hne
        have hcl : Hid (Calls Tryz.prog 66 #[.pointer (some ⟨W0.heap.size, 0, none⟩), .int .u8 (bt K k), .string y] wr fun e w' => e = .returned (.tuple #[.int .i64 (wW l kd y), .int .i64 (wC l kd y)]) ∧ Ext wr w') :=
          hid (pWord_any kd y l p n c base W0.heap.size wr (hV.ext (E0.trans E.out)) (h.ext CeR.ok (E0.trans E.out)) hn ((b1.out.ext hP.out.ext).cells 0) (b1.out.ext hP.out.ext).lt (sz_word hws.out hx.out) hk5.out _ hch.out)
        by_cases hC : wC l kd y = 0
        · have hS2 := hid (hI.out.step hkd.out hx.out hC)
          have hS3 := hid (vsV_snoc (l := l) hkd.out hx.out)
          obtain ⟨V, hV9⟩ : ∃ V, Hid (V = wN l kd y) := ⟨_, hid rfl⟩
          have hcall : Hid (Calls Tryz.prog 66 #[.pointer (some ⟨W0.heap.size, 0, none⟩), .int .u8 (bt K k), .string y] wr fun e w' => e = .returned (.tuple #[.int .i64 V, .int .i64 0]) ∧ Ext wr w') := by
            have h1 := hcl.out
            rw [(wW_ok hC).1, hC, ← hV9.out] at h1
            exact h1
          clear hcl hC
          have hCl := hid (vsV_le (l := l) (ks := ks) (ws := ws) (k := k) (by omega))
          go_wp2_with (first | (go_at_call 66; refine hcall.out.mono ?_; rintro e w4 ⟨rfl, E4⟩; have hP2 := hid (hP.out.later E4)) | (at_builtin; (with_reducible refine at_dst2 49 ?_); refine wpList_append_own_at _ rfl _ _ 52 rfl W1.heap.size 2 j0 (.int .i64 0) 1 8 Tryz.underlying52 hj hy0 hy1 hy2 rfl (by omega) _ _ _ rfl (hP2.out.o.alloc _) ⟨_, 0, none⟩ 1 1 [.int .i64 V] rfl rfl (cells_v _ _ _) (one_i64 _) (len_m hCl.out (by omega)) (by have := hCl.out; omega) (by have := hP2.out.ext.le; simp; omega) ?_; intro v' wB hoB hgB hnB hbB; obtain ⟨qB, cB, rfl⟩ := owns_forms2 hoB; have hP3 := hid (hP2.out.push hoB hgB); clear hoB hgB hnB hbB))
          go_roundw
          case rel => exact ⟨k + 1, by omega, by go_num, hS2, by show VsP _ _ _ _; rw [hS3.out, ← hV9.out]; exact hP3.out⟩
          case measure => simp [intOf]; omega
        · obtain ⟨C, hC9⟩ : ∃ C, Hid (C = wC l kd y) := ⟨_, hid rfl⟩
          have hC0 : ¬ (C = 0) := by rw [hC9.out]; exact hC
          have hCB : (C != 0) = true := by simpa using hC0
          have hr : Hid (rwV l ks ws = C) := by show _ = _; rw [rwV_at hlen.out, hI.out.stop hkd.out hx.out hC, hC9.out]
          have hr0 := hid (show rwV l ks ws ≠ 0 by rw [hr.out]; exact hC0)
          have hcall : Hid (Calls Tryz.prog 66 #[.pointer (some ⟨W0.heap.size, 0, none⟩), .int .u8 (bt K k), .string y] wr fun e w' => e = .returned (.tuple #[.int .i64 0, .int .i64 C]) ∧ Ext wr w') := by
            have h1 := hcl.out
            rw [(wW_no rfl hC).1, ← hC9.out] at h1
            exact h1
          clear hcl hC
          go_wp2_with (go_at_call 66; refine hcall.out.mono ?_; rintro e w4 ⟨rfl, E4⟩)
          go_ret2
          rw [hr.out]
          exact ⟨_, _, _, rfl, (fun hh => absurd hh hC0), E0.trans (E.out.trans E4)⟩
      · have hke : Hid (k = ks.length) := by show _ = _; have := hmk.out; omega
        have hr : Hid (rwV l ks ws = 0) := by show _ = _; rw [rwV_at hlen.out]; exact hI.out.fin (by have := hke.out; omega)
        have hvs : Hid (vsV l (ks.take k) (ws.take k) = vsV l ks ws) := by
          show _ = _
          have h1 := hlen.out
          have h2 := hke.out
          rw [take_all rfl (by omega), take_all rfl (by omega)]
        have hl2 := hid (vsV_len (l := l) hlen.out)
        have h8 := hP.out.o
        rw [hvs.out] at h8 ⊢
        replace h8 := hid h8
        go_wp2_with (fail)
        go_ret2
        rw [hr.out]
        have hfin := (SlD.of_owns enc1_len hl2.out (by have := h8.out; rwa [hl2.out] at this)).low (Fl.ok enc1_len) (E0.trans E1).le
        have hEx := E0.trans E.out
        first | exact ⟨_, _, _, rfl, fun _ => ⟨hl2.out, hfin⟩, hEx⟩ | exact ⟨_, _, _, rfl, fun _ => ⟨rfl, hfin⟩, hEx⟩ | exact ⟨_, _, ⟨_, rfl⟩, fun _ => ⟨hl2.out, hfin⟩, hEx⟩
  · have hlen : Hid (rwV l ks ws = 4) := by show _ = _; exact rwV_no (by rw [hl.out]; exact hmk)
    have hmI : ¬ ((m : Int) = K.size) := by omega
    have hmB : ((m : Int) != (K.size : Int)) = true := by simpa using hmI
    clear hmk
    go_enter Tryz.func32, Tryz.ntmps32
    go_upto_region 1 with (fail)
    generalize hW : World.alloc _ _ = W0
    obtain ⟨E0, z0, b0⟩ := boxes1 hW
    clear hW z0
    replace b0 := hid (show Blk W0 (w.heap.size) [_] _ from b0)
    have g0 := b0.out.cells
    have l0 := b0.out.lt
    have E := Ext.refl W0
    go_wp2_with (fail)
    go_ret2
    rw [hlen.out]
    exact ⟨_, _, _, rfl, (fun h => by cases h), E0.trans E⟩

def nmL : List ByteArray := [⟨#[110, 101, 119]⟩, ⟨#[100, 114, 111, 112]⟩, ⟨#[114, 101, 110, 97, 109, 101]⟩, ⟨#[114, 101, 99, 116]⟩, ⟨#[108, 97, 98, 101, 108]⟩, ⟨#[112, 108, 97, 99, 101]⟩, ⟨#[97, 114, 114, 97, 121]⟩, ⟨#[117, 110, 114, 101, 99, 116]⟩, ⟨#[117, 110, 108, 97, 98, 101, 108]⟩, ⟨#[117, 110, 112, 108, 97, 99, 101]⟩, ⟨#[117, 110, 100, 111]⟩, ⟨#[114, 101, 100, 111]⟩, ⟨#[114, 117, 108, 101]⟩, ⟨#[99, 104, 101, 99, 107]⟩, ⟨#[119, 97, 105, 118, 101]⟩, ⟨#[103, 111, 108, 100, 101, 110]⟩, ⟨#[99, 111, 109, 112, 97, 114, 101]⟩, ⟨#[110, 101, 116, 115]⟩, ⟨#[99, 111, 117, 110, 116]⟩, ⟨#[98, 111, 117, 110, 100, 115]⟩, ⟨#[97, 114, 101, 97]⟩, ⟨#[119, 105, 110, 100, 111, 119]⟩, ⟨#[114, 111, 117, 116, 101]⟩, ⟨#[109, 97, 115, 107, 115]⟩, ⟨#[115, 116, 114, 101, 97, 109]⟩]
def fdL : List ByteArray := [⟨#[65]⟩, ⟨#[67]⟩, ⟨#[67, 65]⟩, ⟨#[67, 76, 78, 78, 78, 78]⟩, ⟨#[67, 76, 78, 78, 65]⟩, ⟨#[67, 67, 79, 78, 78]⟩, ⟨#[67, 67, 79, 78, 78, 78, 78, 78, 78]⟩, ⟨#[67, 78]⟩, ⟨#[67, 78]⟩, ⟨#[67, 78]⟩, ⟨#[]⟩, ⟨#[]⟩, ⟨#[84]⟩, ⟨#[67]⟩, ⟨#[67, 78, 87]⟩, ⟨#[67]⟩, ⟨#[67]⟩, ⟨#[67]⟩, ⟨#[67]⟩, ⟨#[67]⟩, ⟨#[67, 76]⟩, ⟨#[67, 76, 78, 78, 78, 78]⟩, ⟨#[67, 76, 78, 78, 78, 78]⟩, ⟨#[67, 76, 78]⟩, ⟨#[]⟩]
theorem eqW_data (s y : ByteArray) : eqW s y = (y.data.toList == s.data.toList) := by
  unfold eqW
  rw [ByteArray.toList_eq, ByteArray.toList_eq]
theorem kwX_nm {s : ByteArray} {j : Nat} (h : kwX s = some j) : idx (eqW s) nmL = j := by
  have he : eqW s = fun y => y.data.toList == s.data.toList := funext fun y => eqW_data s y
  unfold kwX at h
  rw [← he] at h
  have h2 : nmL.findIdx? (eqW s) = some j := by
    rw [show nmL = kwL ++ nmL.drop 10 from rfl, List.findIdx?_append, h]
    rfl
  unfold idx
  rw [h2]
theorem kwX_any {s : ByteArray} : kwL.any (eqW s) = (kwX s).isSome := by
  have he : eqW s = fun y => y.data.toList == s.data.toList := funext fun y => eqW_data s y
  unfold kwX
  rw [← he]
  cases h : kwL.findIdx? (eqW s) with
  | none => rw [List.findIdx?_eq_none_iff] at h; simpa [List.any_eq_false] using h
  | some j => rw [List.findIdx?_eq_some_iff_getElem] at h; obtain ⟨h1, h2, _⟩ := h; simp only [Option.isSome_some, List.any_eq_true]; exact ⟨_, List.getElem_mem h1, h2⟩
def fdJ (j : Nat) : ByteArray := (fdL[j]?).getD emp
theorem lit_words (w : World) (L : List ByteArray) : SlD (Fl encW) 1 w.heap.size (w.alloc (.cells (L.map Value.string).toArray 9)) (some ⟨w.heap.size, 0, none⟩) L.length L := by
  have hb := Blk.new w (L.map Value.string) 9
  refine ⟨rfl, Or.inr ⟨w.heap.size, 0, rfl, Nat.le_refl _, hb.lt, fun k x hx => ⟨encW x, rfl, fun j v hv => ?_⟩⟩⟩
  have hj : j = 0 := by
    have := (List.getElem?_eq_some_iff.1 hv).1
    rw [encW_len] at this
    omega
  subst hj
  cases hv
  have := hb.cells k
  rw [Nat.zero_add, Nat.mul_one, Nat.add_zero, this]
  simp [hx]

set_option maxRecDepth 100000 in
set_option maxHeartbeats 4000000 in
theorem rFields_any (s : ByteArray) (j : Nat) (w : World) (hj : kwX s = some j) :
    Calls Tryz.prog 45 #[.string s] w fun e w' => e = .returned (.string (fdJ j)) ∧ Ext w w' := by
  have hx := hid (kwX_nm hj)
  clear hj
  go_enter Tryz.func45, Tryz.ntmps45
  go_upto_region 3 with (fail)
  have hS1 := hid (lit_words w nmL)
  have hS2 := hid (lit_words (w.alloc (.cells (nmL.map Value.string).toArray 9)) fdL)
  have hE := hid (((Ext.refl w).alloc (.cells (nmL.map Value.string).toArray 9)).alloc (.cells (fdL.map Value.string).toArray 9))
  replace hS1 := hid (hS1.out.ext okStr ((Ext.refl _).alloc (.cells (fdL.map Value.string).toArray 9)))
  change Hid (SlD _ _ _ (World.alloc (World.alloc w _) _) _ 25 _) at hS1
  change Hid (SlD _ _ _ _ _ 25 _) at hS2
  rw [World.size_alloc] at hS2
  generalize hV2 : World.alloc (World.alloc w _) _ = W2
  have hW : (w.alloc (.cells (nmL.map Value.string).toArray 9)).alloc (.cells (fdL.map Value.string).toArray 9) = W2 := hV2
  rw [hW] at hS1 hS2 hE
  clear hW hV2
  go_wp2_with (fail)
  go_loopw [5] (fun i wr => ∃ k : Nat, k ≤ 25 ∧ i = .int .i64 k ∧ wr = W2 ∧ Hid ((nmL.take k).any (eqW s) = false)) (fun i _ => 25 - (intOf i).toNat)
  case atStart => exact ⟨0, by omega, rfl, by first | rfl | trivial, rfl⟩
  case round =>
    obtain ⟨k, hk, rfl, rfl, hA⟩ := hrel
    by_cases hlt : k < 25
    · have hltI : (k : Int) < 25 := by omega
      obtain ⟨b, off, y, hp1, hb, hy, y0⟩ := get_w hS1.out hlt
      cases hp1
      obtain ⟨b2, off2, z, hp2, hb2, hz, z0⟩ := get_w hS2.out hlt
      cases hp2
      rw [Nat.zero_add] at y0 z0
      cases hq : (y.toList == s.toList) with
      | true =>
        have hkj : k = j := by
          have := idx_hit hA.out hy.out hq
          rw [hx.out] at this
          omega
        have hr : Hid (z = fdJ j) := by
          show _ = _
          unfold fdJ
          rw [← hkj, hz.out]; rfl
        clear hkj
        go_wp2
        go_ret
        exact ⟨by rw [hr.out]; rfl, hE.out⟩
      | false =>
        have hr : Hid ((nmL.take (k + 1)).any (eqW s) = false) := any_take_snoc hA.out hy.out hq
        go_wp2
        go_roundw
        case rel => exact ⟨k + 1, by omega, by go_num, by first | rfl | trivial, hr⟩
        case measure => simp [intOf]; omega
    · exfalso
      have := hA.out
      rw [take_all (show nmL.length = 25 from rfl) (by omega)] at this
      have := idx_miss this
      rw [hx.out] at this
      omega

set_option maxRecDepth 100000 in
set_option maxHeartbeats 4000000 in
theorem rEdits_any (s : ByteArray) (w : World) :
    Calls Tryz.prog 24 #[.string s] w fun e w' => e = .returned (.bool (kwX s).isSome) ∧ Ext w w' := by
  have hkw := hid (kwX_any (s := s))
  go_enter Tryz.func24, Tryz.ntmps24
  go_upto_region 2 with (fail)
  have hS1 := hid (lit_words w kwL)
  have hE := hid ((Ext.refl w).alloc (.cells (kwL.map Value.string).toArray 9))
  change Hid (SlD _ _ _ _ _ 10 _) at hS1
  generalize hV2 : World.alloc w _ = W2
  have hW : w.alloc (.cells (kwL.map Value.string).toArray 9) = W2 := hV2
  rw [hW] at hS1 hE
  clear hW hV2
  go_wp2_with (fail)
  go_loopw [4] (fun i wr => ∃ k : Nat, k ≤ 10 ∧ i = .int .i64 k ∧ wr = W2 ∧ Hid ((kwL.take k).any (eqW s) = false)) (fun i _ => 10 - (intOf i).toNat)
  case atStart => exact ⟨0, by omega, rfl, by first | rfl | trivial, rfl⟩
  case round =>
    obtain ⟨k, hk, rfl, rfl, hA⟩ := hrel
    by_cases hlt : k < 10
    · have hltI : (k : Int) < 10 := by omega
      obtain ⟨b, off, y, hp1, hb, hy, y0⟩ := get_w hS1.out hlt
      cases hp1
      rw [Nat.zero_add] at y0
      cases hq : (y.toList == s.toList) with
      | true =>
        have hr : Hid (true = (kwX s).isSome) := by
          show _ = _
          rw [← hkw.out]
          symm
          rw [List.any_eq_true]
          exact ⟨y, List.mem_of_getElem? hy.out, hq⟩
        go_wp2
        go_ret
        exact ⟨ret_bool hr.out, hE.out⟩
      | false =>
        have hr : Hid ((kwL.take (k + 1)).any (eqW s) = false) := any_take_snoc hA.out hy.out hq
        go_wp2
        go_roundw
        case rel => exact ⟨k + 1, by omega, by go_num, by first | rfl | trivial, hr⟩
        case measure => simp [intOf]; omega
    · have hr : Hid (false = (kwX s).isSome) := by
        show _ = _
        rw [← hkw.out]
        have := hA.out
        rw [take_all (show kwL.length = 10 from rfl) (by omega)] at this
        exact this.symm
      go_wp2
      go_ret
      exact ⟨ret_bool hr.out, hE.out⟩

set_option maxRecDepth 100000 in
set_option maxHeartbeats 4000000 in
theorem rReadW (K s0 : ByteArray) (ks : List Nat) (ws : List ByteArray) (l : List CeD) (p q : Option Addr) (n c m d base base2 : Nat) (w : World) (h : SlD CeR 4 base w p n l) (hn : n ≤ 1048576) (hf : ∀ x ∈ l, FitCe x) (hB : libB l = true) (hS : SlD (Fl encW) 1 base2 w q (m + 1) (s0 :: ws)) (hm : m ≤ 1048576) (hws : ∀ y ∈ ws, y.size ≤ 1048576)
    (hF : ∀ W, Calls Tryz.prog 45 #[.string s0] W fun e w' => e = .returned (.string K) ∧ Ext W w')
    (hK : K.size = ks.length) (hK2 : ks.length ≤ 1048575) (hb : ∀ i k, ks[i]? = some k → k < 5 ∧ bt K i = chR k) (hT1 : ¬ (K.toList = [63])) (hT2 : ¬ (K.toList = [84])) :
    Calls Tryz.prog 25 #[.agg #[.slice p n c], .slice q (m + 1) d] w fun e w' => ∃ q3 n3 d3, e = .returned (.tuple #[.slice q3 n3 d3, .int .i64 (rwV l ks ws)]) ∧ (rwV l ks ws = 0 → n3 = ks.length ∧ SlD (Fl enc1) 1 w.heap.size w' q3 ks.length (vsV l ks ws)) ∧ Ext w w' := by
  have hl := hid (show ws.length = m by have := hS.length; rw [List.length_cons] at this; omega)
  have hbt := get_bt K
  obtain ⟨j0, hj, hy0, hy1, hy2⟩ := info_parts info_I6
  obtain ⟨b, off, y, hq, hbk, hx, y0⟩ := get_w hS (show 0 < m + 1 by omega)
  subst hq
  obtain rfl : s0 = y := by have := hx.out; simpa using this
  rw [Nat.add_zero] at y0
  clear hx
  have hm0 : (0 : Int) < ((m + 1 : Nat) : Int) := by omega
  have hF2 := hid hF
  clear hF
  have hT1B : (K.toList == [63]) = false := by simpa using hT1
  have hT2B : (K.toList == [84]) = false := by simpa using hT2
  have hKb : (K.size : Int) ≤ 1048575 := by omega
  have hKn : K.size ≤ 1048575 := by omega
  replace hK := hid hK
  by_cases hmk : m = ks.length
  · have hlen : Hid (ws.length = ks.length) := by show _ = _; rw [hl.out, hmk]
    have hmI : (m : Int) + 1 = (K.size : Int) + 1 := by have := hK.out; omega
    have hmB : ((m : Int) + 1 != (K.size : Int) + 1) = false := by simpa using hmI
    replace hmI := hid hmI
    replace hmk := hid hmk
    replace hb := hid hb
    replace hws := hid hws
    replace hS := hid hS
    go_enter Tryz.func25, Tryz.ntmps25
    go_upto_region 1 with (fail)
    generalize hW : World.alloc _ _ = W0
    obtain ⟨E0, z0, b0⟩ := boxes1 hW
    clear hW z0
    replace b0 := hid (show Blk W0 (w.heap.size) [_] _ from b0)
    have g0 := b0.out.cells
    have l0 := b0.out.lt
    have E := Ext.refl W0
    have y1 := hid ((E0.cells _ _ hbk).trans y0)
    have hbk1 := hid (Nat.lt_of_lt_of_le hbk E0.le)
    have y2 := y1.out
    have hb2 := hbk1.out
    go_upto_region 5 with (go_at_call 45; refine (hF2.out _).mono ?_; rintro e W1 ⟨rfl, E1⟩; clear g0 l0; have g0 := (b0.out.ext E1).cells; have l0 := (b0.out.ext E1).lt; clear y2 hb2; have y2 := (E1.cells _ _ hbk1.out).trans y1.out; have hb2 := Nat.lt_of_lt_of_le hbk1.out E1.le)
    have hP := hid (VsP.start W1)
    generalize World.alloc W1 _ = W2 at hP ⊢
    clear g0 l0 E y2 hb2 y1 hbk1 y0 hbk
    go_wp2_with (fail)
    go_loopw [7, 8, 9, 10] (fun v1 i _ _ wr => ∃ k : Nat, k ≤ m ∧ i = .int .i64 k ∧ Hid (rwI l ks ws k) ∧ Hid (VsP W1 wr v1 (vsV l (ks.take k) (ws.take k)))) (fun _ i _ _ _ => m - (intOf i).toNat)
    case atStart => exact ⟨0, by omega, rfl, rwI.start l ks ws, hP⟩
    case round =>
      clear hP
      obtain ⟨k, hk, rfl, hI, hP⟩ := hrel
      obtain ⟨q1, c1, rfl⟩ := owns_forms2 hP.out.o
      have E := hid (E1.trans hP.out.ext)
      have g0 := (b0.out.ext E.out).cells
      have l0 := (b0.out.ext E.out).lt
      by_cases hlt : k < m
      · have hltI : (k : Int) < m := by omega
        have hltI1 : (k : Int) + 1 < (m : Int) + 1 := by omega
        have hltK : (k : Int) < K.size := by have := hK.out; have := hmk.out; omega
        have hltN : k < K.size := by have := hK.out; have := hmk.out; omega
        obtain ⟨b', off', y, hq', hbk, hx, y0⟩ := get_w (hS.out.ext okStr (E0.trans E.out)) (show k + 1 < m + 1 by omega)
        cases hq'
        replace hx : Hid (ws[k]? = some y) := hx
        have y1 := hid y0
        obtain ⟨kd, hkd⟩ : ∃ kd, Hid (ks[k]? = some kd) := ⟨_, hid (List.getElem?_eq_getElem (show k < ks.length by have := hmk.out; omega))⟩
        have hk5 := hid (hb.out k kd hkd.out).1
        have hch := hid (hb.out k kd hkd.out).2
        have hcl : ∀ W, Ext wr W → Calls Tryz.prog 46 #[.agg #[.slice p n c], .int .u8 (bt K k), .string y] W fun e w' => e = .returned (.tuple #[.int .i64 (wW l kd y), .int .i64 (wC l kd y)]) ∧ Ext W w' := fun W hE =>
          rWord_any kd y l p n c base W (h.ext CeR.ok (E0.trans (E.out.trans hE))) hn hf hB (sz_word hws.out hx.out) hk5.out _ hch.out
        by_cases hC : wC l kd y = 0
        · have hS2 := hid (hI.out.step hkd.out hx.out hC)
          have hS3 := hid (vsV_snoc (l := l) hkd.out hx.out)
          obtain ⟨V, hV9⟩ : ∃ V, Hid (V = wN l kd y) := ⟨_, hid rfl⟩
          have hcall : Hid (∀ W, Ext wr W → Calls Tryz.prog 46 #[.agg #[.slice p n c], .int .u8 (bt K k), .string y] W fun e w' => e = .returned (.tuple #[.int .i64 V, .int .i64 0]) ∧ Ext W w') := fun W hE => by
            have h1 := hcl W hE
            rw [(wW_ok hC).1, hC, ← hV9.out] at h1
            exact h1
          clear hcl hC
          have hCl := hid (vsV_le (l := l) (ks := ks) (ws := ws) (k := k) (by omega))
          go_upto_region 8 with (fail)
          refine wp_region_later (by kernel_rfl) (by kernel_rfl) ?_
          repeat (go_big_quiet_step ((go_at_call 46; exact later_of (hcall.out _ (Later.ok _)))))
          refine wpQuiet_nil ?_
          rintro w4 ⟨⟨_, E4⟩, rfl⟩
          have hP2 := hid (hP.out.later E4)
          go_wp2_with ((at_builtin; (with_reducible refine at_dst2 59 ?_); refine wpList_append_own_at _ rfl _ _ 52 rfl W1.heap.size 2 j0 (.int .i64 0) 1 8 Tryz.underlying52 hj hy0 hy1 hy2 rfl (by omega) _ _ _ rfl (hP2.out.o.alloc _) ⟨_, 0, none⟩ 1 1 [.int .i64 V] rfl rfl (cells_v _ _ _) (one_i64 _) (len_m hCl.out (by omega)) (by have := hCl.out; omega) (by have := hP2.out.ext.le; simp; omega) ?_; intro v' wB hoB hgB hnB hbB; obtain ⟨qB, cB, rfl⟩ := owns_forms2 hoB; have hP3 := hid (hP2.out.push hoB hgB); clear hoB hgB hnB hbB))
          go_roundw
          case rel => exact ⟨k + 1, by omega, by go_num, hS2, by show VsP _ _ _ _; rw [hS3.out, ← hV9.out]; exact hP3.out⟩
          case measure => simp [intOf]; omega
        · obtain ⟨C, hC9⟩ : ∃ C, Hid (C = wC l kd y) := ⟨_, hid rfl⟩
          have hC0 : ¬ (C = 0) := by rw [hC9.out]; exact hC
          have hCB : (C != 0) = true := by simpa using hC0
          have hr : Hid (rwV l ks ws = C) := by show _ = _; rw [rwV_at hlen.out, hI.out.stop hkd.out hx.out hC, hC9.out]
          have hcall : Hid (∀ W, Ext wr W → Calls Tryz.prog 46 #[.agg #[.slice p n c], .int .u8 (bt K k), .string y] W fun e w' => e = .returned (.tuple #[.int .i64 0, .int .i64 C]) ∧ Ext W w') := fun W hE => by
            have h1 := hcl W hE
            rw [(wW_no rfl hC).1, ← hC9.out] at h1
            exact h1
          clear hcl hC
          go_upto_region 8 with (fail)
          refine wp_region_later (by kernel_rfl) (by kernel_rfl) ?_
          repeat (go_big_quiet_step ((go_at_call 46; exact later_of (hcall.out _ (Later.ok _)))))
          refine wpQuiet_nil ?_
          rintro w4 ⟨⟨_, E4⟩, rfl⟩
          go_wp2_with (fail)
          go_ret2
          rw [hr.out]
          exact ⟨_, _, _, rfl, (fun hh => absurd hh hC0), E0.trans (E.out.trans E4)⟩
      · have hke : Hid (k = ks.length) := by show _ = _; have := hmk.out; omega
        have hnK : ¬ ((k : Int) < K.size) := by have := hK.out; have := hke.out; omega
        have hr : Hid (rwV l ks ws = 0) := by show _ = _; rw [rwV_at hlen.out]; exact hI.out.fin (by have := hke.out; omega)
        have hvs : Hid (vsV l (ks.take k) (ws.take k) = vsV l ks ws) := by
          show _ = _
          have h1 := hlen.out
          have h2 := hke.out
          rw [take_all rfl (by omega), take_all rfl (by omega)]
        have hl2 := hid (vsV_len (l := l) hlen.out)
        have h8 := hP.out.o
        rw [hvs.out] at h8 ⊢
        replace h8 := hid h8
        go_wp2_with (fail)
        go_ret2
        rw [hr.out]
        have hfin := (SlD.of_owns enc1_len hl2.out (by have := h8.out; rwa [hl2.out] at this)).low (Fl.ok enc1_len) (E0.trans E1).le
        have hEx := E0.trans E.out
        first | exact ⟨_, _, _, rfl, fun _ => ⟨hl2.out, hfin⟩, hEx⟩ | exact ⟨_, _, _, rfl, fun _ => ⟨rfl, hfin⟩, hEx⟩ | exact ⟨_, _, ⟨_, rfl⟩, fun _ => ⟨hl2.out, hfin⟩, hEx⟩
  · have hlen : Hid (rwV l ks ws = 4) := by show _ = _; exact rwV_no (by rw [hl.out]; exact hmk)
    have hmI : ¬ ((m : Int) + 1 = (K.size : Int) + 1) := by have := hK.out; omega
    have hmB : ((m : Int) + 1 != (K.size : Int) + 1) = true := by simpa using hmI
    clear hmk
    go_enter Tryz.func25, Tryz.ntmps25
    go_upto_region 1 with (fail)
    generalize hW : World.alloc _ _ = W0
    obtain ⟨E0, z0, b0⟩ := boxes1 hW
    clear hW z0
    replace b0 := hid (show Blk W0 (w.heap.size) [_] _ from b0)
    have g0 := b0.out.cells
    have l0 := b0.out.lt
    have E := Ext.refl W0
    have y1 := hid ((E0.cells _ _ hbk).trans y0)
    have hbk1 := hid (Nat.lt_of_lt_of_le hbk E0.le)
    have y2 := y1.out
    have hb2 := hbk1.out
    go_wp2_with (go_at_call 45; refine (hF2.out _).mono ?_; rintro e w2 ⟨rfl, E2⟩)
    go_ret2
    rw [hlen.out]
    exact ⟨_, _, _, rfl, (fun h => by cases h), E0.trans (E.trans E2)⟩

end Go.Proofs.YtncmhefendhinaaGreatDoor
