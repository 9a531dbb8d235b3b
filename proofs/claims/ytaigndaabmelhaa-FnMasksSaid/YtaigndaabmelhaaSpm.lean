/- Contracts of SplitMasks, of the program and of the reference. Condition: at most 2^20 rectangles. -/
import Derived.Test.YtaigndaabmelhaaClp
import Derived.Test.YtaigndaabmelhaaMsk
import Derived.Deep.RegionLaw
import Derived.Deep.AppendLies
namespace Go.Proofs.Ytaigndaabmelhaa
open Go.RowKit

/-- Those whose color is 0 (b = true), or not. -/
def selL {α : Type} (c : Nat → Int) (b : Bool) (L : List α) : Nat → List α
  | 0 => []
  | k + 1 => match L[k]? with
    | some x => if decide (c k = 0) = b then selL c b L k ++ [x] else selL c b L k
    | none => selL c b L k
section
variable {α β : Type} {c : Nat → Int} {b : Bool}
theorem selL_hit {L : List α} {k : Nat} {x : α} (h : L[k]? = some x) (hc : decide (c k = 0) = b) : selL c b L (k + 1) = selL c b L k ++ [x] := by rw [selL, h]; exact if_pos hc
theorem selL_miss {L : List α} {k : Nat} (hc : decide (c k = 0) ≠ b) : selL c b L (k + 1) = selL c b L k := by
  rw [selL]; split
  · exact if_neg hc
  · rfl
theorem selL_mem {L : List α} {x : α} : ∀ k, x ∈ selL c b L k → x ∈ L
  | 0, h => by cases h
  | k + 1, h => by
    rw [selL] at h
    split at h
    · rename_i y hy
      split at h
      · rw [List.mem_append, List.mem_singleton] at h
        rcases h with h | rfl
        · exact selL_mem k h
        · exact List.mem_of_getElem? hy
      · exact selL_mem k h
    · exact selL_mem k h
theorem selL_len (L : List α) : ∀ k, (selL c b L k).length ≤ k
  | 0 => Nat.le_refl _
  | k + 1 => by
    have := selL_len L k
    rw [selL]; split
    · split
      · rw [List.length_append, List.length_singleton]; omega
      · omega
    · omega
theorem snoc_get {L : List α} {x y : α} {j : Nat} (h : (L ++ [x])[j]? = some y) : (j < L.length ∧ L[j]? = some y) ∨ (j = L.length ∧ y = x) := by
  rcases Nat.lt_trichotomy j L.length with hlt | he | hgt
  · rw [List.getElem?_append_left hlt] at h; exact Or.inl ⟨hlt, h⟩
  · subst he; simp at h; exact Or.inr ⟨rfl, h.symm⟩
  · rw [List.getElem?_eq_none (by simp; omega)] at h; cases h
theorem selL_pair {H : List α} {L : List β} {n : Nat} (hH : H.length = n) (hL : L.length = n) : ∀ k, k ≤ n → (selL c b H k).length = (selL c b L k).length ∧ ∀ (j : Nat) (h : α) (l : β), (selL c b H k)[j]? = some h → (selL c b L k)[j]? = some l → ∃ i : Nat, H[i]? = some h ∧ L[i]? = some l
  | 0, _ => ⟨rfl, fun j h l hh => by simp [selL] at hh⟩
  | k + 1, hk => by
    obtain ⟨ih1, ih2⟩ := selL_pair hH hL k (by omega)
    have h1 : H[k]? = some H[k] := List.getElem?_eq_getElem (by omega)
    have h2 : L[k]? = some L[k] := List.getElem?_eq_getElem (by omega)
    by_cases hc : decide (c k = 0) = b
    · rw [selL_hit h1 hc, selL_hit h2 hc]
      refine ⟨by rw [List.length_append, List.length_append, ih1]; rfl, fun j h l hh hl => ?_⟩
      rcases snoc_get hh with ⟨a1, a2⟩ | ⟨a1, a2⟩
      · rcases snoc_get hl with ⟨b1, b2⟩ | ⟨b1, b2⟩
        · exact ih2 j h l a2 b2
        · omega
      · rcases snoc_get hl with ⟨b1, b2⟩ | ⟨b1, b2⟩
        · omega
        · exact ⟨k, by rw [a2]; exact h1, by rw [b2]; exact h2⟩
    · rw [selL_miss hc, selL_miss hc]; exact ⟨ih1, ih2⟩
end
/-- The parts of one color, as rows read. -/
theorem SlS.sel {w : World} {qs : Option Addr} {n : Nat} {H : List Hd} {L : List (List Q4)} {c : Nat → Int} {b : Bool} {base cs : Nat} (hH : H.length = n) (hL : L.length = n) (hr : ∀ (k : Nat) (h : Hd) (l : List Q4), H[k]? = some h → L[k]? = some l → SlT enc4 4 w h.1 h.2.1 l)
    (ho : w.ownsRow base 27 1 (.slice qs (selL c b H n).length cs) (selL c b H n).length ((selL c b H n).flatMap encH)) : SlS w qs (selL c b H n).length (selL c b L n) := by
  obtain ⟨h1, h2⟩ := selL_pair (c := c) (b := b) hH hL n (Nat.le_refl _)
  refine ⟨selL c b H n, SlT.of_owns encH_len rfl ho, h1.symm, fun k h l hh hl => ?_⟩
  obtain ⟨i, a1, a2⟩ := h2 k h l hh hl
  exact hr i h l a1 a2
/-- The two masks as the loop leaves them. -/
structure MkAt (B M : Nat) (H0 H1 : List Hd) (q0 : Option Addr) (c0 : Nat) (q1 : Option Addr) (c1 : Nat) (w : World) : Prop where
  box : Blk w M [.slice q0 H0.length c0, .slice q1 H1.length c1] 89
  own0 : w.ownsRow B 27 1 (.slice q0 H0.length c0) H0.length (H0.flatMap encH)
  own1 : w.ownsRow B 27 1 (.slice q1 H1.length c1) H1.length (H1.flatMap encH)
  ne : ∀ a b, q0 = some a → q1 = some b → a.block ≠ b.block
theorem MkAt.ext {B M : Nat} {H0 H1 : List Hd} {q0 q1 : Option Addr} {c0 c1 : Nat} {w w' : World} (h : MkAt B M H0 H1 q0 c0 q1 c1 w) (hE : Ext w w') : MkAt B M H0 H1 q0 c0 q1 c1 w' := ⟨h.box.ext hE, owns_ext h.own0 hE, owns_ext h.own1 hE, h.ne⟩
theorem own_of (q : Option Addr) (n c : Nat) : (Value.slice q n c).ownBlock = q.map (·.block) := own_blkOf
theorem keep_other {w w' : World} {base size n m c1 c2 : Nat} {e : TypeId} {q p : Option Addr} {xs : List Value} (h : w.ownsRow base e size (.slice p m c2) m xs) (hg : w.grownBy w' (Value.slice q n c1).ownBlock) (hne : ∀ a b, q = some a → p = some b → a.block ≠ b.block) : w'.ownsRow base e size (.slice p m c2) m xs := by
  refine h.kept hg ?_
  rw [own_of, own_of]
  cases p with
  | none => exact Or.inl rfl
  | some b =>
    right
    cases q with
    | none => simp
    | some a => have := hne a b rfl rfl; simp only [Option.map_some, ne_eq, Option.some.injEq]; exact fun e => this e.symm
theorem MkAt.put0 {B M : Nat} {H0 H1 : List Hd} {q0 q1 : Option Addr} {c0 c1 g cap : Nat} {x : Hd} {W w9 : World} (h : MkAt B M H0 H1 q0 c0 q1 c1 W) (hM : M < B)
    (ho : w9.ownsRow B 27 1 (.slice (some ⟨g, 0, none⟩) (H0.length + 1) cap) (H0.length + 1) (H0.flatMap encH ++ [hdV x])) (hg : W.grownBy w9 (Value.slice q0 H0.length c0).ownBlock) (hat : (Value.slice q0 H0.length c0).ownBlock = some g ∨ g = W.heap.size) :
    MkAt B M (H0 ++ [x]) H1 (some ⟨g, 0, none⟩) cap q1 c1 (w9.setCell ⟨M, 0, none⟩ (.slice (some ⟨g, 0, none⟩) (H0.length + 1) cap)) := by
  have hMne : (Value.slice q0 H0.length c0).ownBlock ≠ some M := fun e => by have := (h.own0.lt M e).1; omega
  have hgB := (ho.lt g rfl).1
  have hl : (H0 ++ [x]).length = H0.length + 1 := by simp
  have hb : Blk w9 M [.slice q0 H0.length c0, .slice q1 H1.length c1] 89 := h.box.grown hg hMne
  refine ⟨?_, ?_, ?_, fun a b ha hb2 => ?_⟩
  · rw [hl]; exact hb.set 0 _
  · rw [hl, List.flatMap_append]
    exact owns_other ho (by rw [own_of]; simp; omega) 0 _
  · refine owns_other (keep_other h.own1 hg h.ne) (fun e => ?_) 0 _
    have := (h.own1.lt M e).1; omega
  · cases ha
    rcases hat with hat | hat
    · rw [own_of] at hat
      cases hq : q0 with
      | none => rw [hq] at hat; cases hat
      | some a0 =>
        rw [hq, Option.map_some, Option.some.injEq] at hat
        show g ≠ b.block
        rw [← hat]; exact h.ne a0 b hq hb2
    · have := (h.own1.lt b.block (by rw [own_of, hb2]; rfl)).2
      show g ≠ b.block
      omega
theorem MkAt.put1 {B M : Nat} {H0 H1 : List Hd} {q0 q1 : Option Addr} {c0 c1 g cap : Nat} {x : Hd} {W w9 : World} (h : MkAt B M H0 H1 q0 c0 q1 c1 W) (hM : M < B)
    (ho : w9.ownsRow B 27 1 (.slice (some ⟨g, 0, none⟩) (H1.length + 1) cap) (H1.length + 1) (H1.flatMap encH ++ [hdV x])) (hg : W.grownBy w9 (Value.slice q1 H1.length c1).ownBlock) (hat : (Value.slice q1 H1.length c1).ownBlock = some g ∨ g = W.heap.size) :
    MkAt B M H0 (H1 ++ [x]) q0 c0 (some ⟨g, 0, none⟩) cap (w9.setCell ⟨M, 1, none⟩ (.slice (some ⟨g, 0, none⟩) (H1.length + 1) cap)) := by
  have hMne : (Value.slice q1 H1.length c1).ownBlock ≠ some M := fun e => by have := (h.own1.lt M e).1; omega
  have hgB := (ho.lt g rfl).1
  have hl : (H1 ++ [x]).length = H1.length + 1 := by simp
  have hb : Blk w9 M [.slice q0 H0.length c0, .slice q1 H1.length c1] 89 := h.box.grown hg hMne
  refine ⟨?_, ?_, ?_, fun a b ha hb2 => ?_⟩
  · rw [hl]; exact hb.set 1 _
  · refine owns_other (keep_other h.own0 hg (fun a b h1 h2 => (h.ne b a h2 h1).symm)) (fun e => ?_) 1 _
    have := (h.own0.lt M e).1; omega
  · rw [hl, List.flatMap_append]
    exact owns_other ho (by rw [own_of]; simp; omega) 1 _
  · cases hb2
    rcases hat with hat | hat
    · rw [own_of] at hat
      cases hq : q1 with
      | none => rw [hq] at hat; cases hat
      | some a0 =>
        rw [hq, Option.map_some, Option.some.injEq] at hat
        show a.block ≠ g
        rw [← hat]; exact h.ne a a0 ha hq
    · have := (h.own0.lt a.block (by rw [own_of, ha]; rfl)).2
      show a.block ≠ g
      omega
theorem new_ne {W w' : World} {b1 s1 n1 c1 s2 n2 c2 : Nat} {e1 e2 : TypeId} {p q : Option Addr} {xs ys : List Value} (h : W.ownsRow b1 e1 s1 (.slice p n1 c1) n1 xs) (k : w'.ownsRow W.heap.size e2 s2 (.slice q n2 c2) n2 ys) : ∀ x y, p = some x → q = some y → x.block ≠ y.block := by
  intro x y hx hy he
  have h1 := (h.lt x.block (by rw [own_of, hx]; rfl)).2
  have h2 := (k.lt y.block (by rw [own_of, hy]; rfl)).1
  omega
/-- The masks of SplitMasks: of color 0 (b = true), or the others. -/
def smG (l : List Q4) (s : Int) (b : Bool) : List Q4 := (selL (ccol (tabL (ptL l s) s) (ptL l s).length (ptL l s).length) b (ptL l s) (ptL l s).length).flatten
theorem smG_eq (l : List Q4) (s : Int) (b : Bool) : smG l s b = (selL (ccol (tabL (ptL l s) s) (ptL l s).length (ptL l s).length) b (ptL l s) (ptL l s).length).flatten := rfl
def smL (l : List Q4) (s : Int) (b : Bool) : List Q4 := if cpC l s = 0 then canon (gL (smG l s b)) else []
theorem smL_len (l : List Q4) (s : Int) (b : Bool) : (smL l s b).length ≤ 3200 := by
  rw [smL]; split
  · exact canon_len _
  · simp
theorem cpC_parts {l : List Q4} {s : Int} (h : cpC l s = 0) : ptC l s = 0 ∧ cpO l s = true := by
  by_cases h0 : ptC l s = 0
  · cases hb : cpO l s with
    | true => exact ⟨h0, rfl⟩
    | false => rw [(cpC_bad h0 hb).1] at h; omega
  · rw [(cpC_no h0).1] at h; exact absurd h h0
theorem ptC_parts {l : List Q4} {s : Int} (h : ptC l s = 0) : ptL l s = (partsG (gL l)).map canon ∧ isReg l = true ∧ (partsG (gL l)).length ≤ 12 ∧ 1 ≤ s ∧ s ≤ 8 := by
  have h1 : ppC l = 0 := by
    by_cases h0 : ppC l = 0
    · exact h0
    · rw [(ptC_no h0).1] at h; exact h
  have hs : 1 ≤ s ∧ s ≤ 8 := by
    apply Classical.byContradiction
    intro hn
    rw [(ptC_range h1 hn).1] at h; omega
  cases hr : isReg l with
  | false => rw [(ppC_no hr).1] at h1; omega
  | true =>
    by_cases h12 : 12 < (partsG (gL l)).length
    · rw [(ppC_many hr h12).1] at h1; omega
    · exact ⟨by rw [(ptC_ok h1 hs).2, (ppC_ok hr h12).2], rfl, by omega, hs⟩
def TwoB (R S : List Q4) (C : Int) (w : World) (e : Ending) (w' : World) : Prop := ∃ p0 d0 p1 d1, e = .returned (.tuple #[.slice p0 R.length d0, .slice p1 S.length d1, .int .i64 C]) ∧ w'.ownsRow w.heap.size 50 4 (.slice p0 R.length d0) R.length (R.flatMap enc4) ∧ w'.ownsRow w.heap.size 50 4 (.slice p1 S.length d1) S.length (S.flatMap enc4) ∧
  (∀ x y, p0 = some x → p1 = some y → x.block ≠ y.block) ∧ Ext w w'
theorem info_SS : (Try.prog.info? 27).map (fun i => (i.zero, i.size, i.bytes)) = some (some (.slice none 0 0), 1, 24) := by kernel_rfl
set_option maxRecDepth 100000 in
set_option maxHeartbeats 8000000 in
theorem SplitMasks_any (q : Option Addr) (n c : Nat) (l : List Q4) (s : Int) (w : World) (h : SlT enc4 4 w q n l) (hn : n ≤ 1048576) :
    Calls Try.prog 35 #[.slice q n c, .int .i64 s] w (TwoB (smL l s true) (smL l s false) (cpC l s) w) := by
  have hp := hid (ColorParts_any q n c l s w h hn)
  by_cases hc : cpC l s = 0
  · obtain ⟨h0, hb⟩ := cpC_parts hc
    obtain ⟨hL, hreg, h12, _⟩ := ptC_parts h0
    obtain ⟨i0, hi, hz0, hz1, hz2⟩ := info_parts info_SS
    have v0 := (vRs_parts (isReg_iff.1 hreg).1).2
    have k2 := hid (fun V (hV : Ext w V) => components_any q n c l V (h.ext hV) hn v0)
    have hcl := (cpC_ok h0 hb).2
    have hok : okC (tabL (ptL l s) s) (ptL l s).length = true := hb
    rw [clL, if_pos hok] at hcl
    have hR : Hid (smL l s true = canon (gL (smG l s true))) := if_pos hc
    have hS : Hid (smL l s false = canon (gL (smG l s false))) := if_pos hc
    have hLok := hid (ptL_ok l s)
    have hc01 : ∀ i, i < (ptL l s).length → ccol (tabL (ptL l s) s) (ptL l s).length (ptL l s).length i = 0 ∨ ccol (tabL (ptL l s) s) (ptL l s).length (ptL l s).length i = 1 := fun i hi => by
      have h1 := ccol_ok (T := tabL (ptL l s) s) (n := (ptL l s).length) (ptL l s).length (Nat.le_refl _) i
      have h2 := ccol_has (T := tabL (ptL l s) s) (n := (ptL l s).length) (ptL l s).length i hi
      omega
    have hg0 := hid (smG_eq l s true)
    have hg1 := hid (smG_eq l s false)
    obtain ⟨F, hF⟩ : ∃ F, F = ccol (tabL (ptL l s) s) (ptL l s).length (ptL l s).length := ⟨_, rfl⟩
    rw [← hF] at hg0 hg1 hcl hc01
    obtain ⟨L, hLL⟩ : ∃ L, L = ptL l s := ⟨_, rfl⟩
    rw [← hLL] at hg0 hg1 hcl hc01 hL hLok
    obtain ⟨m, hm⟩ : ∃ m, m = L.length := ⟨_, rfl⟩
    rw [← hm] at hg0 hg1 hcl hc01
    have hmp : m = (partsG (gL l)).length := by rw [hm, hL, List.length_map]
    have h12m : m ≤ 12 := by omega
    replace hmp := hid hmp
    replace hm := hid hm
    replace hL := hid hL
    replace hF := hid hF
    replace hLL := hid hLL
    clear h12
    replace hc := hid hc
    replace h0 := hid h0
    replace hb := hid hb
    replace hok := hid hok
    replace hc01 := hid hc01
    clear v0 hreg
    go_enter Try.func35, Try.ntmps35
    go_wp2_with fail
    refine hp.out.mono ?_
    rintro e w1 ⟨q1, c1, rfl, o1, E1⟩
    rw [hc.out]
    have hkl : (cpL l s).length = m := by rw [hcl]; simp
    have sk := SlT.of_owns (l := cpL l s) enc1_len rfl o1
    have zlow := owns_ge o1
    rw [hkl] at sk o1 ⊢
    rw [hcl] at sk
    replace hcl := hid hcl
    replace hkl := hid hkl
    replace sk := hid sk
    replace zlow := hid zlow
    replace E1 := hid E1
    clear o1
    go_upto_region 5 with (fail)
    generalize hW : w1.alloc _ = W2
    obtain ⟨E2, z2, b2⟩ := boxes1 hW
    clear hW
    have hB0 : Blk W2 w1.heap.size [.slice none 0 0, .slice none 0 0] 89 := b2
    obtain ⟨M, hM⟩ : ∃ M, M = w1.heap.size := ⟨_, rfl⟩
    rw [← hM] at hB0 zlow ⊢
    have hMw : w.heap.size ≤ M := by rw [hM]; exact E1.out.le
    replace hM := hid hM
    replace z2 := hid z2
    replace E1 := hid (E1.out.trans E2)
    replace sk := hid (sk.out.ext E2)
    replace hB0 := hid hB0
    clear b2 E2
    go_wp2_with fail
    refine (k2.out _ E1.out).mono ?_
    rintro e w3 ⟨q3, c3, H, rfl, o3, E3⟩
    rw [← hmp.out] at o3 ⊢
    have hMB : M < W2.heap.size := hB0.out.lt
    have hB3 := hB0.out.ext E3
    have hML := hB3.lt
    have hHl := hid o3.len
    have zt := hid o3.geTop
    have zr := hid o3.geRow
    have sH := hid (SlT.of_owns (l := H) encH_len o3.len o3.top)
    rw [← hL.out] at o3
    have hLm : Hid (L.length = m) := hm.out.symm
    have hst : Hid (MkAt w3.heap.size M (selL F true H 0) (selL F false H 0) none 0 none 0 w3) := ⟨hB3, World.ownsRow_nil _ _ _ _, World.ownsRow_nil _ _ _ _, fun a b ha => by cases ha⟩
    replace sk := hid (sk.out.ext E3)
    replace E1 := hid (E1.out.trans E3)
    have hWB := E3.le
    replace o3 := hid o3
    clear E3 hB3 hB0
    go_wp2_with fail
    go_loopw [25] (fun iv wr => ∃ (k : Nat) (q5 : Option Addr) (c5 : Nat) (q6 : Option Addr) (c6 : Nat), iv = .int .i64 k ∧ k ≤ m ∧ Hid (MkAt w3.heap.size M (selL F true H k) (selL F false H k) q5 c5 q6 c6 wr) ∧ Hid (Mut w3 wr [M])) (fun i _ => m - (intOf i).toNat)
    case atStart => exact ⟨0, _, _, _, _, by go_num, by omega, hst, Mut.refl _ _⟩
    case round =>
      clear hst
      obtain ⟨k, q5, c5, q6, c6, rfl, hk, hmk, hmu⟩ := hrel
      by_cases hlt : k < m
      · have hltI : (k : Int) < (m : Int) := by omega
        have s9 := sH.out.mut hmu.out (fun a ha hh => by simp at hh; have := (zt.out a.block (mem_blkOf.2 ⟨a, ha, rfl⟩)).1; omega)
        obtain ⟨b, off, x, e9, hbw, hx, z0⟩ := s9.get hlt
        subst e9
        have z0 := z0 0 _ rfl
        simp only [hdV, Nat.mul_one, Nat.add_zero] at z0
        obtain ⟨px, nx, cx⟩ := x
        have k9 := sk.out.mut hmu.out (fun a ha hh => by simp at hh; have := (zlow.out a.block (mem_blkOf.2 ⟨a, ha, rfl⟩)).2; have := hM.out; omega)
        obtain ⟨b1, off1, y, e9, hb1w, hy, zk⟩ := k9.int hlt
        subst e9
        have hyF : y = F k := by have := hy.out; rw [List.getElem?_map, List.getElem?_range hlt] at this; exact (Option.some.inj this).symm
        have hc1 := hc01.out k hlt
        rw [← hyF] at hc1
        have hb1M : b1 < w3.heap.size := by have := (zlow.out b1 (mem_blkOf.2 ⟨_, rfl, rfl⟩)).2; have := hM.out; omega
        rcases hc1 with rfl | rfl
        · have hsel := hid (selL_hit (c := F) (b := true) hx.out (by rw [← hyF]; rfl))
          have hmis := hid (selL_miss (c := F) (b := false) (L := H) (k := k) (by rw [← hyF]; decide))
          have hln := selL_len (c := F) (b := true) H k
          have y0 := hmk.out.box.cells 0
          have y1 := hmk.out.box.cells 1
          simp only [List.getElem?_cons_zero, List.getElem?_cons_succ] at y0 y1
          have hMl := hmk.out.box.lt
          have hod := hid (owns_ext hmk.out.own0 ((Ext.refl wr).drew))
          have hmd := hid (hmk.out.ext (((Ext.refl wr).drew).alloc (.cells #[.slice px nx cx] 27)))
          have hmud := hid (hmu.out.ext (((Ext.refl wr).drew).alloc (.cells #[.slice px nx cx] 27)))
          have hwrB := hmu.out.size
          have zkd := hid (((((Ext.refl wr).drew).alloc (.cells #[.slice px nx cx] 27)).cells b1 (off1 + k) hb1w).trans zk)
          replace hyF := hid hyF
          go_wp2_with fail
          go_region_law (first
            | (refine step_append_lies _ rfl _ _ 24 rfl w3.heap.size 27 i0 _ 1 24 Try.underlying24 hi hz0 hz1 hz2 rfl (by omega) _ _ _ rfl (World.ownsRow.alloc hod.out _) ⟨_, 0, none⟩ 1 1 [.slice px nx cx] rfl rfl (cells_new1 _ _ _) (one_hd1 _ _ _) (by omega) (len_le (by omega) (by omega)) (by omega) (by simp; omega) _ rfl ?_; intro gA cA wA hoA hgA hatA hltA; have hbx := hmd.out.box.grown hgA (fun e => by have := (hmd.out.own0.lt M e).1; omega); have f9 := hbx.free 0; have g9 := hbx.cells 0; have l9 := hbx.lt; simp only [List.getElem?_cons_zero] at g9; have zk9 := (grown_cell hgA (by simp; omega) (fun e => by have := (hmd.out.own0.lt b1 e).1; omega) (off1 + k)).trans zkd.out; have lb9 := Nat.lt_of_lt_of_le hb1w (Nat.le_trans ((((Ext.refl wr).drew).alloc (.cells #[.slice px nx cx] 27)).le) hgA.size); have hP := hid (MkAt.put0 (x := (px, nx, cx)) hmd.out (Nat.lt_of_lt_of_le hMB hWB) hoA hgA hatA); have hM9 := hid ((hmud.out.young (fun k hk => (hmd.out.own0.lt k hk).1) hgA).setCell (p := ⟨M, 0, none⟩) (by simp) (.slice (some ⟨gA, 0, none⟩) ((selL F true H k).length + 1) cA)); clear hoA hgA hatA))
          all_goals
            clear y0 y1 zk z0
            go_wp2_with fail
            go_roundw
            case rel => exact ⟨k + 1, some ⟨gA, 0, none⟩, cA, q6, c6, by go_num, by omega, by rw [hsel.out, hmis.out]; exact hP.out, hM9⟩
            case measure => simp [intOf]; omega
        · have hsel := hid (selL_hit (c := F) (b := false) hx.out (by rw [← hyF]; rfl))
          have hmis := hid (selL_miss (c := F) (b := true) (L := H) (k := k) (by rw [← hyF]; decide))
          have hln := selL_len (c := F) (b := false) H k
          have y0 := hmk.out.box.cells 0
          have y1 := hmk.out.box.cells 1
          simp only [List.getElem?_cons_zero, List.getElem?_cons_succ] at y0 y1
          have hMl := hmk.out.box.lt
          have hod := hid (owns_ext hmk.out.own1 ((Ext.refl wr).drew))
          have hmd := hid (hmk.out.ext (((Ext.refl wr).drew).alloc (.cells #[.slice px nx cx] 27)))
          have hmud := hid (hmu.out.ext (((Ext.refl wr).drew).alloc (.cells #[.slice px nx cx] 27)))
          have hwrB := hmu.out.size
          have zkd := hid (((((Ext.refl wr).drew).alloc (.cells #[.slice px nx cx] 27)).cells b1 (off1 + k) hb1w).trans zk)
          replace hyF := hid hyF
          go_wp2_with fail
          go_region_law (first
            | (refine step_append_lies _ rfl _ _ 24 rfl w3.heap.size 27 i0 _ 1 24 Try.underlying24 hi hz0 hz1 hz2 rfl (by omega) _ _ _ rfl (World.ownsRow.alloc hod.out _) ⟨_, 0, none⟩ 1 1 [.slice px nx cx] rfl rfl (cells_new1 _ _ _) (one_hd1 _ _ _) (by omega) (len_le (by omega) (by omega)) (by omega) (by simp; omega) _ rfl ?_; intro gA cA wA hoA hgA hatA hltA; have hbx := hmd.out.box.grown hgA (fun e => by have := (hmd.out.own1.lt M e).1; omega); have f9 := hbx.free 1; have g9 := hbx.cells 1; have l9 := hbx.lt; simp only [List.getElem?_cons_zero, List.getElem?_cons_succ] at g9; have zk9 := (grown_cell hgA (by simp; omega) (fun e => by have := (hmd.out.own1.lt b1 e).1; omega) (off1 + k)).trans zkd.out; have lb9 := Nat.lt_of_lt_of_le hb1w (Nat.le_trans ((((Ext.refl wr).drew).alloc (.cells #[.slice px nx cx] 27)).le) hgA.size); have hP := hid (MkAt.put1 (x := (px, nx, cx)) hmd.out (Nat.lt_of_lt_of_le hMB hWB) hoA hgA hatA); have hM9 := hid ((hmud.out.young (fun k hk => (hmd.out.own1.lt k hk).1) hgA).setCell (p := ⟨M, 1, none⟩) (by simp) (.slice (some ⟨gA, 0, none⟩) ((selL F false H k).length + 1) cA)); clear hoA hgA hatA))
          all_goals
            clear y0 y1 zk z0
            go_wp2_with fail
            go_roundw
            case rel => exact ⟨k + 1, q5, c5, some ⟨gA, 0, none⟩, cA, by go_num, by omega, by rw [hsel.out, hmis.out]; exact hP.out, hM9⟩
            case measure => simp [intOf]; omega
      · have hltI : ¬ (k : Int) < (m : Int) := by omega
        obtain rfl : k = m := by omega
        have k9 := hmk.out
        have o9 := o3.out.mut hmu.out (fun b hb hh => by simp at hh; have := (zt.out b hb).1; omega) (fun b hb hh => by simp at hh; have := (zr.out b hb).1; omega)
        have hread := fun (i : Nat) (x : Hd) (y : List Q4) (hx : H[i]? = some x) (hy : L[i]? = some y) => SlT.of_owns enc4_len (o9.hd hx hy) (o9.row i x (y.flatMap enc4) hx (by rw [flV, List.getElem?_map, hy]; rfl))
        have sA := SlS.sel hHl.out hLm.out hread k9.own0
        have sB := SlS.sel hHl.out hLm.out hread k9.own1
        have hvA : ∀ b, ∀ y ∈ selL F b L k, y.length ≤ 1048576 ∧ ∀ r ∈ y, Near r := fun b y hy => by
          have := hLok.out y (selL_mem k hy)
          exact ⟨by omega, fun r hr => vR_near (this.2 r hr)⟩
        have hlA := (selL_len (c := F) (b := true) H k)
        have hlB := (selL_len (c := F) (b := false) H k)
        have unA := fun W (hW : Ext wr W) (c : Nat) => unionAll_any q5 _ c _ W (sA.ext hW) (by omega) (hvA true)
        have unB := fun W (hW : Ext wr W) (c : Nat) => unionAll_any q6 _ c _ W (sB.ext hW) (by omega) (hvA false)
        rw [← hg0.out] at unA
        rw [← hg1.out] at unB
        rw [← hR.out] at unA
        rw [← hS.out] at unB
        have y0 := k9.box.cells 0
        have y1 := k9.box.cells 1
        simp only [List.getElem?_cons_zero, List.getElem?_cons_succ] at y0 y1
        have hMl := k9.box.lt
        have hMn : w.heap.size ≤ M := hMw
        have hEw := hid (E1.out.then hmu.out (by simp; omega))
        have keepS := hid (show ∀ W, Ext wr W → (W.cell? ⟨M, 0, none⟩ = some (.slice q5 (selL F true H k).length c5) ∧ W.cell? ⟨M, 1, none⟩ = some (.slice q6 (selL F false H k).length c6)) from fun W hE => ⟨(hE.cells _ _ hMl).trans y0, (hE.cells _ _ hMl).trans y1⟩)
        have unA := hid unA
        have unB := hid unB
        have hmk := hid k9
        clear k9 o9 hread sA sB hvA
        go_wp2_with fail
        have hX : Ext wr _ := (Ext.refl wr).drew
        go_region_held3 (fun W => W.cell? ⟨M, 0, none⟩ = some (.slice q5 (selL F true H k).length c5) ∧ W.cell? ⟨M, 1, none⟩ = some (.slice q6 (selL F false H k).length c6))
          (exact keepS.out _ hX)
          (first
            | (go_at_call 74; (with_reducible refine (unA.out _ hX c5).mono ?_); rintro e w8 ⟨qa, ca, rfl, oa, Ea⟩; (first | (have hd := hid (new_ne ob.out oa); replace ob := hid (owns_ext ob.out Ea)) | skip); replace oa := hid (owns_lowP oa (Nat.le_trans hEw.out.le hX.le)); replace hX := hX.trans Ea; clear Ea)
            | (go_at_call 74; (with_reducible refine (unB.out _ hX c6).mono ?_); rintro e w9 ⟨qb, cb, rfl, ob, Eb⟩; (first | (have hd := hid (new_ne oa.out ob); replace oa := hid (owns_ext oa.out Eb)) | skip); replace ob := hid (owns_lowP ob (Nat.le_trans hEw.out.le hX.le)); replace hX := hX.trans Eb; clear Eb))
        all_goals
          have hX := hid hX
          replace keepS := hid keepS
          clear y0 y1
          go_wp2_with fail
          refine bodyPost_ret (results_tmp3 rfl _ _ _) rfl ?_
          rw [TwoB, hc.out]
          exact ⟨qa, ca, qb, cb, rfl, oa.out, ob.out, by first | exact hd.out | exact fun x y h1 h2 => (hd.out y x h2 h1).symm, hEw.out.trans hX.out⟩
  · have hB3 : (cpC l s != 0) = true := by simpa using hc
    have hR : Hid (smL l s true = []) := if_neg hc
    have hS : Hid (smL l s false = []) := if_neg hc
    obtain ⟨C, hC⟩ : ∃ C, C = cpC l s := ⟨_, rfl⟩
    rw [← hC] at hB3 hc ⊢
    go_enter Try.func35, Try.ntmps35
    go_wp2_with fail
    refine hp.out.mono ?_
    rintro e w1 ⟨q1, c1, rfl, o1, E1⟩
    rw [← hC]
    replace hC := hid hC
    replace o1 := hid o1
    go_wp2_with fail
    refine bodyPost_ret (results_tmp3 rfl _ _ _) rfl ?_
    rw [hR.out, hS.out]
    exact ⟨none, 0, none, 0, rfl, World.ownsRow_nil _ _ _ _, World.ownsRow_nil _ _ _ _, fun x y hx => by (cases hx), E1⟩
end Go.Proofs.Ytaigndaabmelhaa
