/- Contract of the reference's l33Cells: the unit cells of some rectangles, one by one. Condition: at most 3200 valid rectangles. -/
import Derived.Test.YtaigndaabmelhaaPtb
import Derived.Test.YtaigndaabmelhaaScp
namespace Go.Proofs.Ytaigndaabmelhaa
open Go.RowKit

def rowC (y a : Int) (m : Nat) : List Q2 := (List.range m).map fun (i : Nat) => ⟨a + (i : Int), y⟩
def rectM (r : Q4) (m : Nat) : List Q2 := (List.range m).flatMap fun (j : Nat) => rowC (r.b + (j : Int)) r.a (r.c - r.a).toNat
def rectC (r : Q4) : List Q2 := rectM r (r.d - r.b).toNat
def cellsP (l : List Q4) : List Q2 := l.flatMap rectC
theorem rowC_succ (y a : Int) (m : Nat) : rowC y a (m + 1) = rowC y a m ++ [⟨a + (m : Int), y⟩] := by simp [rowC, List.range_succ]
theorem rectM_succ (r : Q4) (m : Nat) : rectM r (m + 1) = rectM r m ++ rowC (r.b + (m : Int)) r.a (r.c - r.a).toNat := by simp [rectM, List.range_succ]
theorem cellsP_snoc {l : List Q4} {k : Nat} {r : Q4} (h : l[k]? = some r) : cellsP (l.take (k + 1)) = cellsP (l.take k) ++ rectC r := by
  rw [take_snoc h, cellsP, cellsP, List.flatMap_append]; simp
theorem rowC_len (y a : Int) (m : Nat) : (rowC y a m).length = m := by simp [rowC]
theorem rectM_len (r : Q4) (m : Nat) : (rectM r m).length = m * (r.c - r.a).toNat := by
  induction m with
  | zero => simp [rectM]
  | succ m ih => rw [rectM_succ, List.length_append, ih, rowC_len, Nat.succ_mul]
theorem rectM_bd {r : Q4} (h : vR r = true) {m : Nat} (hm : m ≤ 80) : (rectM r m).length ≤ 6400 := by
  rw [rectM_len]
  rw [vR_iff] at h
  have : (r.c - r.a).toNat ≤ 80 := by omega
  calc m * (r.c - r.a).toNat ≤ 80 * 80 := Nat.mul_le_mul hm this
    _ = 6400 := rfl
theorem rectC_bd {r : Q4} (h : vR r = true) : (rectC r).length ≤ 6400 := rectM_bd h (by rw [vR_iff] at h; omega)
theorem cellsP_bd : ∀ (l : List Q4), (∀ r ∈ l, vR r = true) → (cellsP l).length ≤ 6400 * l.length
  | [], _ => by simp [cellsP]
  | r :: l, h => by
    have h1 := rectC_bd (h r (by simp))
    have h2 := cellsP_bd l (fun x hx => h x (by simp [hx]))
    have e : cellsP (r :: l) = rectC r ++ cellsP l := by simp [cellsP]
    rw [e, List.length_append, List.length_cons]
    omega
theorem mem_rowC {y a : Int} {m : Nat} {p : Q2} : p ∈ rowC y a m ↔ p.b = y ∧ a ≤ p.a ∧ p.a < a + (m : Int) := by
  rw [rowC, List.mem_map]
  constructor
  · rintro ⟨i, hi, rfl⟩
    rw [List.mem_range] at hi
    refine ⟨rfl, ?_, ?_⟩ <;> simp only <;> omega
  · rintro ⟨h1, h2, h3⟩
    refine ⟨(p.a - a).toNat, by rw [List.mem_range]; omega, ?_⟩
    cases p
    simp only at h1 h2 h3 ⊢
    rw [h1]
    congr 1
    omega
theorem mem_rectC {r : Q4} {p : Q2} : p ∈ rectC r ↔ inR r p.a p.b = true := by
  rw [rectC, rectM, List.mem_flatMap, inR_iff]
  constructor
  · rintro ⟨j, hj, hp⟩
    rw [List.mem_range] at hj
    rw [mem_rowC] at hp
    omega
  · rintro h
    refine ⟨(p.b - r.b).toNat, by rw [List.mem_range]; omega, ?_⟩
    rw [mem_rowC]
    omega
theorem mem_cellsP {l : List Q4} {p : Q2} : p ∈ cellsP l ↔ inL l p.a p.b = true := by
  rw [cellsP, List.mem_flatMap, inL, List.any_eq_true]
  constructor
  · rintro ⟨r, hr, hp⟩; exact ⟨r, hr, mem_rectC.1 hp⟩
  · rintro ⟨r, hr, hp⟩; exact ⟨r, hr, mem_rectC.2 hp⟩
/-- A list of points of the call's own. -/
def PtlAt (w : World) (L : List Q2) (vo : Value) (wr : World) : Prop := ∃ (q : Option Addr) (c : Nat), vo = .slice q L.length c ∧ wr.ownsRow w.heap.size 138 2 (.slice q L.length c) L.length (L.flatMap enc2) ∧ Ext w wr
def PtlB (L : List Q2) (w : World) (e : Ending) (w' : World) : Prop := ∃ (q : Option Addr) (c : Nat), e = .returned (.slice q L.length c) ∧ w'.ownsRow w.heap.size 138 2 (.slice q L.length c) L.length (L.flatMap enc2) ∧ Ext w w'
theorem PtlAt.grow {w w2 W' : World} {L : List Q2} {q qa : Option Addr} {c ca : Nat} {x y : Int} (ho : w2.ownsRow w.heap.size 138 2 (.slice q L.length c) L.length (L.flatMap enc2)) (hE : Ext w w2) (o : Obj)
    (ht : W'.ownsRow w.heap.size 138 2 (.slice qa (L.length + 1) ca) (L.length + 1) (L.flatMap enc2 ++ [.int .i64 x, .int .i64 y])) (hg : (w2.alloc o).grownBy W' (Value.slice q L.length c).ownBlock) : PtlAt w (L ++ [⟨x, y⟩]) (.slice qa (L.length + 1) ca) W' := by
  have hl : (L ++ [(⟨x, y⟩ : Q2)]).length = L.length + 1 := by simp
  refine ⟨qa, ca, by rw [hl], ?_, (hE.alloc o).grown hg (fun k hk => (ho.lt k hk).1)⟩
  rw [hl, List.flatMap_append]
  simpa [enc2] using ht
set_option maxRecDepth 100000 in
set_option maxHeartbeats 4000000 in
theorem l33Cells_any (q : Option Addr) (n c : Nat) (l : List Q4) (w : World) (h : SlT enc4 4 w q n l) (hn : n ≤ 3200) (hv : ∀ r ∈ l, vR r = true) :
    Calls Try.prog 84 #[.slice q n c] w (PtlB (cellsP l) w) := by
  have hl := hid h.length
  replace hv := hid hv
  obtain ⟨i0, hi, hz0, hz1, hz2⟩ := info_parts info_Pt
  go_enter Try.func84, Try.ntmps84
  go_upto_region 2 with (fail)
  have ho0 : (w.alloc (.cells #[] 138)).ownsRow w.heap.size 138 2 (.slice (some ⟨w.heap.size, 0, none⟩) 0 0) 0 [] := by
    have := World.ownsRow_made (base := w.heap.size) (e := 138) (size := 2) w #[] 0 (by simp) (by simp [maxLen]) (by simp)
    exact this
  generalize hW : w.alloc _ = W0 at ho0 ⊢
  have E0 : Ext w W0 := by rw [← hW]; exact (Ext.refl _).alloc _
  clear hW
  have hst : PtlAt w [] (.slice (some ⟨w.heap.size, 0, none⟩) 0 0) W0 := ⟨_, _, rfl, ho0, E0⟩
  replace hst := hid hst
  clear ho0 E0
  go_wp2
  go_loopw [3, 4] (fun vo iv wr => ∃ k : Nat, k ≤ n ∧ iv = .int .i64 k ∧ Hid (PtlAt w (cellsP (l.take k)) vo wr)) (fun _ i _ => n - (intOf i).toNat)
  case atStart => exact ⟨0, by omega, rfl, hst⟩
  case round =>
    clear hst
    obtain ⟨k, hk, rfl, hP⟩ := hrel
    by_cases hlt : k < n
    · have hltI : (k : Int) < (n : Int) := by omega
      obtain ⟨b, off, x, e9, hb, hx, z0, z1, z2, z3⟩ := h.four hlt
      subst e9
      have hK : Hid (∀ V, Ext w V → b < V.heap.size ∧ V.cell? ⟨b, off + k * 4, none⟩ = some (.int .i64 x.a) ∧ V.cell? ⟨b, off + k * 4 + 1, none⟩ = some (.int .i64 x.b) ∧ V.cell? ⟨b, off + k * 4 + 2, none⟩ = some (.int .i64 x.c) ∧ V.cell? ⟨b, off + k * 4 + 3, none⟩ = some (.int .i64 x.d)) := fun V hV => ⟨Nat.lt_of_lt_of_le hb hV.le, (hV.cells _ _ hb).trans z0, (hV.cells _ _ hb).trans z1, (hV.cells _ _ hb).trans z2, (hV.cells _ _ hb).trans z3⟩
      clear z0 z1 z2 z3 hb
      have hxv := hid (hv.out x (List.mem_of_getElem? hx.out))
      have hxb := vR_iff.1 hxv.out
      obtain ⟨⟨xa0, xa1, xa2⟩, xb0, xb1, xb2⟩ := hxb
      have hbd : (cellsP (l.take k)).length ≤ 6400 * 3200 := by
        have h1 := cellsP_bd (l.take k) (fun r hr => hv.out r (List.mem_of_mem_take hr))
        have h2 : (l.take k).length ≤ 3200 := by rw [List.length_take]; omega
        omega
      obtain ⟨A, hA⟩ : ∃ A, A = cellsP (l.take k) := ⟨_, rfl⟩
      have hsn := hid (cellsP_snoc hx.out)
      rw [← hA] at hP hbd hsn
      clear hA hx
      obtain ⟨qo, co, rfl, ho, hE⟩ := hP.out
      obtain ⟨hb, z0, z1, z2, z3⟩ := hK.out _ hE
      have hP0 : Hid (PtlAt w (A ++ rectM x 0) (.slice qo A.length co) wr) := by show PtlAt w (A ++ []) _ wr; rw [List.append_nil]; exact hP.out
      clear ho hE hP
      go_wp2_with fail
      go_loopw [3, 5] (fun vo iy wr => ∃ j : Nat, j ≤ (x.d - x.b).toNat ∧ iy = .int .i64 (x.b + j) ∧ Hid (PtlAt w (A ++ rectM x j) vo wr)) (fun _ i _ => (x.d - intOf i).toNat)
      case atStart => exact ⟨0, by omega, by simp, hP0⟩
      case round =>
        clear hP0 z0 z1 z2 z3 hb
        obtain ⟨j, hj, rfl, hP⟩ := hrel
        obtain ⟨qo, co, rfl, ho, hE⟩ := hP.out
        obtain ⟨hb, z0, z1, z2, z3⟩ := hK.out _ hE
        clear ho hE
        by_cases hjl : j < (x.d - x.b).toNat
        · have hjI : x.b + (j : Int) < x.d := by omega
          have hP0 : Hid (PtlAt w (A ++ rectM x j ++ rowC (x.b + j) x.a 0) (.slice qo (A ++ rectM x j).length co) wr) := by show PtlAt w (_ ++ []) _ wr; rw [List.append_nil]; exact hP.out
          have hrs := hid (rectM_succ x j)
          have hrb := rectM_bd hxv.out (m := j) (by omega)
          clear hP
          go_wp2_with fail
          go_loopw [3, 6] (fun vo ix wr => ∃ i : Nat, i ≤ (x.c - x.a).toNat ∧ ix = .int .i64 (x.a + i) ∧ Hid (PtlAt w (A ++ rectM x j ++ rowC (x.b + j) x.a i) vo wr)) (fun _ i _ => (x.c - intOf i).toNat)
          case atStart => exact ⟨0, by omega, by simp, hP0⟩
          case round =>
            clear hP0 z0 z1 z2 z3 hb
            obtain ⟨i, hi9, rfl, hP⟩ := hrel
            obtain ⟨qo, co, rfl, ho, hE⟩ := hP.out
            obtain ⟨hb, z0, z1, z2, z3⟩ := hK.out _ hE
            replace ho := hid ho
            replace hE := hid hE
            have hll : (A ++ rectM x j ++ rowC (x.b + (j : Int)) x.a i).length = A.length + (rectM x j).length + i := by rw [List.length_append, List.length_append, rowC_len]
            obtain ⟨Ls, hLs⟩ : ∃ Ls, Ls = A ++ rectM x j ++ rowC (x.b + (j : Int)) x.a i := ⟨_, rfl⟩
            rw [← hLs] at ho hll ⊢
            have hsc : Hid (A ++ rectM x j ++ rowC (x.b + (j : Int)) x.a (i + 1) = Ls ++ [⟨x.a + i, x.b + j⟩]) := by show _ = _; rw [hLs, rowC_succ, List.append_assoc (A ++ rectM x j)]
            have hLb : Ls.length ≤ 20500000 := by omega
            replace hll := hid hll
            replace hLs := hid hLs
            by_cases hil : i < (x.c - x.a).toNat
            · have hiI : x.a + (i : Int) < x.c := by omega
              have hsz := hE.out.le
              go_wp2_with (at_builtin; refine wpList_append_own_at _ rfl _ _ 97 rfl w.heap.size 138 i0 (.agg #[.int .i64 0, .int .i64 0]) 2 16 Try.underlying97 hi hz0 hz1 hz2 rfl (by omega) _ _ _ rfl (ho.out.alloc _) ⟨_, 0, none⟩ 1 1 [.int .i64 (x.a + i), .int .i64 (x.b + j)] rfl rfl (cells_new wr [.int .i64 (x.a + i), .int .i64 (x.b + j)] 138) (one_int2 _ _) (by unfold maxLen; omega) (by omega) (by simp; omega) ?_; intro v' w6 ho' hg' _ hb'; obtain ⟨qa, ca, rfl⟩ := owns_forms ho'; replace ho' := hid ho'; replace hg' := hid hg')
              go_roundw
              case rel => exact ⟨i + 1, by omega, vint (by omega), by rw [hsc.out]; exact PtlAt.grow ho.out hE.out _ ho'.out hg'.out⟩
              case measure => simp [intOf]; omega
            · have hiI : ¬ x.a + (i : Int) < x.c := by omega
              have hie : i = (x.c - x.a).toNat := by omega
              have hP1 : Hid (PtlAt w (A ++ rectM x (j + 1)) (.slice qo Ls.length co) wr) := by
                show PtlAt _ _ _ _
                rw [hrs.out, ← List.append_assoc, ← hie, ← hLs.out]
                exact ⟨qo, co, rfl, ho.out, hE.out⟩
              clear hie
              go_wp2_with fail
              go_roundw
              case rel => exact ⟨j + 1, by omega, vint (by omega), hP1⟩
              case measure => simp [intOf]; omega
        · have hjI : ¬ x.b + (j : Int) < x.d := by omega
          have hje : j = (x.d - x.b).toNat := by omega
          have hP1 : Hid (PtlAt w (cellsP (l.take (k + 1))) (.slice qo (A ++ rectM x j).length co) wr) := by
            have h9 := hP.out
            show PtlAt _ _ _ _
            rw [hsn.out, rectC, ← hje]
            exact h9
          clear hje
          obtain ⟨vl, hvl⟩ : ∃ vl, vl = (A ++ rectM x j).length := ⟨_, rfl⟩
          rw [← hvl] at hP1 ⊢
          clear hP
          replace hvl := hid hvl
          go_wp2_with fail
          go_roundw
          case rel => exact ⟨k + 1, by omega, by go_num, hP1⟩
          case measure => simp [intOf]; omega
    · have hltI : ¬ (k : Int) < (n : Int) := by omega
      rw [take_all hl.out (by omega)] at hP
      obtain ⟨qo, co, rfl, ho, hE⟩ := hP.out
      replace ho := hid ho
      go_wp2
      go_ret
      exact ⟨qo, co, rfl, ho.out, hE⟩
end Go.Proofs.Ytaigndaabmelhaa
/- Contract of the reference's l33Grow. Condition: a distance from 0 to 8. -/
namespace Go.Proofs.Ytaigndaabmelhaa
open Go.RowKit

theorem xOf_m {x y : Nat} (h : x < 80) : xOf (y * 80 + x) = (x : Int) - 40 := by unfold xOf; omega
theorem yOf_m {x y : Nat} (h : x < 80) : yOf (y * 80 + x) = (y : Int) - 40 := by unfold yOf; omega
theorem xOf_ge {i : Nat} (_ : i < 6400) : -40 ≤ xOf i := by unfold xOf; omega
theorem yOf_ge {i : Nat} (_ : i < 6400) : -40 ≤ yOf i := by unfold yOf; omega
theorem xOf_le {i : Nat} (_ : i < 6400) : xOf i ≤ 39 := by unfold xOf; omega
theorem yOf_le {i : Nat} (_ : i < 6400) : yOf i ≤ 39 := by unfold yOf; omega
theorem at_uniq {i : Nat} {u v : Int} (hoc : onC u v = true) (h1 : xOf i = u) (h2 : yOf i = v) : i = atG u v := by
  have h3 := onC_iff.1 hoc
  unfold xOf at h1
  unfold yOf at h2
  unfold atG
  omega
theorem scat_low {g : Grid} {rel : Nat → Nat → Bool} {cut : Nat → Int} {m : Nat} {t t' : Int} (h : ∀ i, i < 6400 → rel m i = true → t ≤ cut i) (h' : ∀ i, i < 6400 → rel m i = true → t' ≤ cut i) : gcells (scat g rel cut m t) = gcells (scat g rel cut m t') := gcells_ext fun i hi => by
  rw [scat, scat]
  congr 1
  cases hr : rel m i
  · simp
  · have h1 := h i hi hr
    have h2 := h' i hi hr
    have h3 : decide (cut i < t) = false := by simp; omega
    have h4 : decide (cut i < t') = false := by simp; omega
    rw [h3, h4]
/-- The two arrays of l33Grow. -/
structure GwW (w : World) (R O : Nat) (cR cO : Grid) (wr : World) : Prop where
  rb : Blk wr R (gcells cR) 4
  ob : Blk wr O (gcells cO) 4
  ext : Ext w wr
theorem GwW.left {w : World} {R O : Nat} {cR cO c : Grid} {wr : World} (h : GwW w R O cR cO wr) (e : gcells cR = gcells c) : GwW w R O c cO wr := ⟨e ▸ h.rb, h.ob, h.ext⟩
theorem GwW.right {w : World} {R O : Nat} {cR cO c : Grid} {wr : World} (h : GwW w R O cR cO wr) (e : gcells cO = gcells c) : GwW w R O cR c wr := ⟨h.rb, e ▸ h.ob, h.ext⟩
theorem GwW.setL {w : World} {R O : Nat} {cR cO c : Grid} {wr : World} (h : GwW w R O cR cO wr) (hR : w.heap.size ≤ R) (hRO : O ≠ R) (j : Nat) (e : (gcells cR).set j (.bool true) = gcells c) : GwW w R O c cO (wr.setCell ⟨R, j, none⟩ (.bool true)) :=
  ⟨by have := h.rb.set j (.bool true); rw [e] at this; exact this, h.ob.other j _ hRO, h.ext.setCell (p := ⟨R, j, none⟩) hR _⟩
theorem GwW.setR {w : World} {R O : Nat} {cR cO c : Grid} {wr : World} (h : GwW w R O cR cO wr) (hO : w.heap.size ≤ O) (hRO : R ≠ O) (j : Nat) (e : (gcells cO).set j (.bool true) = gcells c) : GwW w R O cR c (wr.setCell ⟨O, j, none⟩ (.bool true)) :=
  ⟨h.rb.other j _ hRO, by have := h.ob.set j (.bool true); rw [e] at this; exact this, h.ext.setCell (p := ⟨O, j, none⟩) hO _⟩
set_option maxRecDepth 100000 in
set_option maxHeartbeats 8000000 in
theorem l33Grow_any (B cb : Nat) (g : Grid) (k : Int) (w : World) (hb : Bits w B g) (hk0 : 0 ≤ k) (hk8 : k ≤ 8) :
    Calls Try.prog 89 #[.slice (some ⟨B, 0, none⟩) 6400 cb, .int .i64 k] w (BitsB (growC g k) w) := by
  obtain ⟨j0, hj, hy0, hy1, hy2⟩ := info_parts info_Bool
  have hbw := hid hb
  have hBl := hb.1
  clear hb
  go_enter Try.func89, Try.ntmps89
  go_upto_region 2 with (refine wpList_make_full _ rfl _ _ 79 rfl w.heap.size 4 j0 _ 1 Try.underlying79 hj hy0 hy1 .i64 .i64 6400 6400 6400 rfl rfl rfl rfl (by rw [hy2]; omega) (by unfold maxLen; omega) (by simp) ?_; intro w1 ho hg)
  rw [made_const _ (.bool false) _ (by simp [Value.cells]) (by intro j hj; simp [Value.cells] at hj ⊢; subst hj; rfl), ← gcells_none] at ho
  have hE : Ext w w1 := (Ext.refl _).grown hg (fun _ h => by cases h)
  have hR := owns_toBlk ho
  clear hg ho
  obtain ⟨R, hRe⟩ : ∃ R, R = w.heap.size := ⟨_, rfl⟩
  rw [← hRe] at hR ⊢
  have hRw : w.heap.size ≤ R := by omega
  have hR1 := hR.lt
  replace hRe := hid hRe
  replace hR := hid hR
  go_wp2_with (refine wpList_make_full _ rfl _ _ 79 rfl w1.heap.size 4 j0 _ 1 Try.underlying79 hj hy0 hy1 .i64 .i64 6400 6400 6400 rfl rfl rfl rfl (by rw [hy2]; omega) (by unfold maxLen; omega) (by simp) ?_; intro w2 ho2 hg2)
  rw [made_const _ (.bool false) _ (by simp [Value.cells]) (by intro j hj; simp [Value.cells] at hj ⊢; subst hj; rfl), ← gcells_none] at ho2
  have hE2 : Ext w1 w2 := (Ext.refl _).grown hg2 (fun _ h => by cases h)
  have hO := owns_toBlk ho2
  clear hg2 ho2
  obtain ⟨O, hOe⟩ : ∃ O, O = w1.heap.size := ⟨_, rfl⟩
  rw [← hOe] at hO ⊢
  have hRO : O ≠ R := by omega
  have hOw : w.heap.size ≤ O := by omega
  have hst : GwW w R O (scat g (relH k) xOf 0 (-40)) gnone w2 := ⟨by rw [← scat_zero (fun i hi => xOf_ge hi)]; exact hR.out.ext hE2, hO, hE.trans hE2⟩
  replace hst := hid hst
  replace hOe := hid hOe
  clear hE hE2 hO hR
  go_loopw [7] (fun iy wr => ∃ y : Nat, y ≤ 80 ∧ iy = .int .i64 ((y : Int) - 40) ∧ Hid (GwW w R O (scat g (relH k) xOf (y * 80) (-40)) gnone wr)) (fun i _ => (40 - intOf i).toNat)
  case atStart => exact ⟨0, by omega, rfl, by rw [Nat.zero_mul]; exact hst⟩
  case round =>
    clear hst
    obtain ⟨y, hy, rfl, hw⟩ := hrel
    by_cases hlt : y < 80
    · have hyI : (y : Int) - 40 < 40 := by omega
      go_wp2_with fail
      go_loopw [8] (fun ix wr => ∃ x : Nat, x ≤ 80 ∧ ix = .int .i64 ((x : Int) - 40) ∧ Hid (GwW w R O (scat g (relH k) xOf (y * 80 + x) (-40)) gnone wr)) (fun i _ => (40 - intOf i).toNat)
      case atStart => exact ⟨0, by omega, rfl, hw⟩
      case round =>
        clear hw
        obtain ⟨x, hx, rfl, hw⟩ := hrel
        by_cases hxl : x < 80
        · have hxI : (x : Int) - 40 < 40 := by omega
          obtain ⟨c0, hc0⟩ : ∃ c0 : Int, c0 = (x : Int) - 40 := ⟨_, rfl⟩
          have hcb : -40 ≤ c0 ∧ c0 ≤ 39 := by omega
          have hxm := xOf_m (y := y) hxl
          have hym := yOf_m (y := y) hxl
          have hlo : Hid (GwW w R O (scat g (relH k) xOf (y * 80 + x) (c0 - k)) gnone wr) := hw.out.left (scat_low (fun i hi _ => xOf_ge hi) (fun i hi hr => by rw [relH_iff] at hr; omega))
          rw [hc0] at hlo
          clear hw
          go_wp2_with fail
          go_loopw [9] (fun iu wr => ∃ i : Nat, (i : Int) ≤ 2 * k + 1 ∧ iu = .int .i64 ((x : Int) - 40 - k + i) ∧ Hid (GwW w R O (scat g (relH k) xOf (y * 80 + x) ((x : Int) - 40 - k + i)) gnone wr)) (fun i _ => ((x : Int) - 40 + k + 1 - intOf i).toNat)
          case atStart => exact ⟨0, by omega, by simp, by simpa using hlo⟩
          case round =>
            clear hlo
            obtain ⟨i, hi, rfl, hw⟩ := hrel
            have hs := hbw.out.ext hw.out.ext
            have z := hs.2 (y * 80 + x) (by omega)
            have hsl := hs.1
            have hiw : IntKind.i64.wrap ((x : Int) - 40 + k) = (x : Int) - 40 + k := IntWalk.i64_in _ (by omega)
            clear hs
            cases hg : g (y * 80 + x) with
            | false =>
              rw [hg] at z
              have hn : Hid (GwW w R O (scat g (relH k) xOf (y * 80 + (x + 1)) (-40)) gnone wr) := hw.out.left (scat_done (fun i _ h => by rw [hg] at h; cases h) (-40) (fun i hi => xOf_ge hi))
              clear hg
              go_wp2_with (go_at_call 125; refine (l03At_at x y _ hxl hlt).mono ?_; rintro e w' ⟨rfl, rfl⟩)
              go_roundw
              case rel => exact ⟨x + 1, by omega, vint (by omega), hn⟩
              case measure => simp [intOf]; omega
            | true =>
              rw [hg] at z
              by_cases hik : (i : Int) ≤ 2 * k
              · have hikI : (x : Int) - 40 - k + (i : Int) ≤ (x : Int) - 40 + k := by omega
                obtain ⟨u, hu⟩ : ∃ u : Int, u = (x : Int) - 40 - k + (i : Int) := ⟨_, rfl⟩
                have hub : -60 ≤ u ∧ u ≤ 60 := by omega
                have huk : c0 - k ≤ u ∧ u ≤ c0 + k := by omega
                have hnext : (x : Int) - 40 - k + ((i + 1 : Nat) : Int) = u + 1 := by omega
                have hwi := fun W => l09In_any u (-40) 39 W
                have hme : ((x : Int) - 40 + k + 1 - (u + 1)).toNat < ((x : Int) - 40 + k + 1 - u).toNat := by omega
                rw [← hu] at hw hikI ⊢
                by_cases hon : -40 ≤ u ∧ u ≤ 39
                · rw [show wit u (-40) 39 = true from wit_iff.2 hon] at hwi
                  replace hwi := hid hwi
                  have hoc : onC u ((y : Int) - 40) = true := by rw [onC_iff]; omega
                  have hxa := xOf_at hoc
                  have hya := yOf_at hoc
                  have hst := hid (scat_set (g := g) (rel := relH k) (cut := xOf) (m := y * 80 + x) (t := u) (i0 := atG u ((y : Int) - 40)) hg (by rw [relH_iff]; omega) (by omega) (fun i hi hr hc => by rw [relH_iff] at hr; exact at_uniq hoc (by omega) (by omega)))
                  have hat6 := atG_lt hoc
                  have zt := hw.out.rb.cells (atG u ((y : Int) - 40))
                  have ft := hw.out.rb.free (atG u ((y : Int) - 40))
                  have htl := hw.out.rb.lt
                  have htc := gcells_get (scat g (relH k) xOf (y * 80 + x) u) hat6
                  rw [htc] at zt
                  have hn : Hid (GwW w R O (scat g (relH k) xOf (y * 80 + x) (u + 1)) gnone (wr.setCell ⟨R, atG u ((y : Int) - 40), none⟩ (.bool true)) ) := hw.out.setL hRw hRO (atG u ((y : Int) - 40)) hst.out
                  rw [← hnext] at hn
                  have hoc2 := hid hoc
                  rw [← hnext] at hme
                  replace hnext := hid hnext
                  replace hu := hid hu
                  replace hw := hid hw
                  clear hg hoc hxa hya hst htc hxm hym hc0 hcb huk hon
                  go_wp2_with (first | (go_at_call 128; refine (hwi.out _).mono ?_; rintro e w' ⟨rfl, rfl⟩) | (go_at_call 125; first | ((with_reducible refine (l03At_at x y _ hxl hlt).mono ?_); rintro e w' ⟨rfl, rfl⟩) | ((with_reducible refine (l03At_any _ _ _ hoc2.out).mono ?_); rintro e w' ⟨rfl, rfl⟩)))
                  go_roundw
                  case rel => exact ⟨i + 1, by omega, vint (by have := hnext.out; omega), hn⟩
                  case measure => simp [intOf]; have := hnext.out; omega
                · rw [show wit u (-40) 39 = false from by cases h9 : wit u (-40) 39 with
                    | true => exact absurd (wit_iff.1 h9) hon
                    | false => rfl] at hwi
                  replace hwi := hid hwi
                  have hn : Hid (GwW w R O (scat g (relH k) xOf (y * 80 + x) (u + 1)) gnone wr) := hw.out.left (scat_skip (fun i hi h => hon (by rw [← h.2.2]; exact ⟨xOf_ge hi, xOf_le hi⟩)))
                  rw [← hnext] at hn
                  rw [← hnext] at hme
                  replace hnext := hid hnext
                  replace hu := hid hu
                  clear hg hw hxm hym hc0 hcb huk hon
                  go_wp2_with (first | (go_at_call 128; refine (hwi.out _).mono ?_; rintro e w' ⟨rfl, rfl⟩) | (go_at_call 125; ((with_reducible refine (l03At_at x y _ hxl hlt).mono ?_); rintro e w' ⟨rfl, rfl⟩)))
                  go_roundw
                  case rel => exact ⟨i + 1, by omega, vint (by have := hnext.out; omega), hn⟩
                  case measure => simp [intOf]; have := hnext.out; omega
              · have hikI : ¬ (x : Int) - 40 - k + (i : Int) ≤ (x : Int) - 40 + k := by omega
                have hn : Hid (GwW w R O (scat g (relH k) xOf (y * 80 + (x + 1)) (-40)) gnone wr) := hw.out.left (scat_done (fun i9 _ _ hr => by rw [relH_iff] at hr; omega) (-40) (fun i hi => xOf_ge hi))
                clear hg hw hxm hym hc0 hcb
                go_wp2_with (go_at_call 125; refine (l03At_at x y _ hxl hlt).mono ?_; rintro e w' ⟨rfl, rfl⟩)
                go_roundw
                case rel => exact ⟨x + 1, by omega, vint (by omega), hn⟩
                case measure => simp [intOf]; omega
        · have hxI : ¬ (x : Int) - 40 < 40 := by omega
          have h80 : y * 80 + x = (y + 1) * 80 := by omega
          rw [h80] at hw
          clear h80
          go_wp2_with fail
          go_roundw
          case rel => exact ⟨y + 1, by omega, vint (by omega), hw⟩
          case measure => simp [intOf]; omega
    · have hyI : ¬ (y : Int) - 40 < 40 := by omega
      have h80 : y * 80 = 6400 := by omega
      rw [h80] at hw
      clear h80
      obtain ⟨G1, hG1⟩ : ∃ G1, G1 = scatA g (relH k) := ⟨_, rfl⟩
      have hst2 : Hid (GwW w R O G1 (scat G1 (relV k) yOf 0 (-40)) wr) := (hw.out.left (by rw [hG1]; exact scat_all (fun i hi => xOf_ge hi))).right (scat_zero (fun i hi => yOf_ge hi))
      replace hG1 := hid hG1
      clear hw
      go_wp2_with fail
      go_loopw [10] (fun iy wr => ∃ y : Nat, y ≤ 80 ∧ iy = .int .i64 ((y : Int) - 40) ∧ Hid (GwW w R O G1 (scat G1 (relV k) yOf (y * 80) (-40)) wr)) (fun i _ => (40 - intOf i).toNat)
      case atStart => exact ⟨0, by omega, rfl, by rw [Nat.zero_mul]; exact hst2⟩
      case round =>
        clear hst2
        obtain ⟨y, hy, rfl, hw⟩ := hrel
        by_cases hlt : y < 80
        · have hyI : (y : Int) - 40 < 40 := by omega
          go_wp2_with fail
          go_loopw [11] (fun ix wr => ∃ x : Nat, x ≤ 80 ∧ ix = .int .i64 ((x : Int) - 40) ∧ Hid (GwW w R O G1 (scat G1 (relV k) yOf (y * 80 + x) (-40)) wr)) (fun i _ => (40 - intOf i).toNat)
          case atStart => exact ⟨0, by omega, rfl, hw⟩
          case round =>
            clear hw
            obtain ⟨x, hx, rfl, hw⟩ := hrel
            by_cases hxl : x < 80
            · have hxI : (x : Int) - 40 < 40 := by omega
              obtain ⟨c0, hc0⟩ : ∃ c0 : Int, c0 = (y : Int) - 40 := ⟨_, rfl⟩
              have hcb : -40 ≤ c0 ∧ c0 ≤ 39 := by omega
              have hxm := xOf_m (y := y) hxl
              have hym := yOf_m (y := y) hxl
              have hlo : Hid (GwW w R O G1 (scat G1 (relV k) yOf (y * 80 + x) (c0 - k)) wr) := hw.out.right (scat_low (fun i hi _ => yOf_ge hi) (fun i hi hr => by rw [relV_iff] at hr; omega))
              rw [hc0] at hlo
              clear hw
              go_wp2_with fail
              go_loopw [12] (fun iu wr => ∃ i : Nat, (i : Int) ≤ 2 * k + 1 ∧ iu = .int .i64 ((y : Int) - 40 - k + i) ∧ Hid (GwW w R O G1 (scat G1 (relV k) yOf (y * 80 + x) ((y : Int) - 40 - k + i)) wr)) (fun i _ => ((y : Int) - 40 + k + 1 - intOf i).toNat)
              case atStart => exact ⟨0, by omega, by simp, by simpa using hlo⟩
              case round =>
                clear hlo
                obtain ⟨i, hi, rfl, hw⟩ := hrel
                have hs := Bits.ofBlk hw.out.rb
                have z := hs.2 (y * 80 + x) (by omega)
                have hsl := hs.1
                have hiw : IntKind.i64.wrap ((y : Int) - 40 + k) = (y : Int) - 40 + k := IntWalk.i64_in _ (by omega)
                clear hs
                cases hg : G1 (y * 80 + x) with
                | false =>
                  rw [hg] at z
                  have hn : Hid (GwW w R O G1 (scat G1 (relV k) yOf (y * 80 + (x + 1)) (-40)) wr) := hw.out.right (scat_done (fun i _ h => by rw [hg] at h; cases h) (-40) (fun i hi => yOf_ge hi))
                  clear hg
                  go_wp2_with (go_at_call 125; refine (l03At_at x y _ hxl hlt).mono ?_; rintro e w' ⟨rfl, rfl⟩)
                  go_roundw
                  case rel => exact ⟨x + 1, by omega, vint (by omega), hn⟩
                  case measure => simp [intOf]; omega
                | true =>
                  rw [hg] at z
                  by_cases hik : (i : Int) ≤ 2 * k
                  · have hikI : (y : Int) - 40 - k + (i : Int) ≤ (y : Int) - 40 + k := by omega
                    obtain ⟨u, hu⟩ : ∃ u : Int, u = (y : Int) - 40 - k + (i : Int) := ⟨_, rfl⟩
                    have hub : -60 ≤ u ∧ u ≤ 60 := by omega
                    have huk : c0 - k ≤ u ∧ u ≤ c0 + k := by omega
                    have hnext : (y : Int) - 40 - k + ((i + 1 : Nat) : Int) = u + 1 := by omega
                    have hwi := fun W => l09In_any u (-40) 39 W
                    have hme : ((y : Int) - 40 + k + 1 - (u + 1)).toNat < ((y : Int) - 40 + k + 1 - u).toNat := by omega
                    rw [← hu] at hw hikI ⊢
                    by_cases hon : -40 ≤ u ∧ u ≤ 39
                    · rw [show wit u (-40) 39 = true from wit_iff.2 hon] at hwi
                      replace hwi := hid hwi
                      have hoc : onC ((x : Int) - 40) u = true := by rw [onC_iff]; omega
                      have hxa := xOf_at hoc
                      have hya := yOf_at hoc
                      have hst := hid (scat_set (g := G1) (rel := relV k) (cut := yOf) (m := y * 80 + x) (t := u) (i0 := atG ((x : Int) - 40) u) hg (by rw [relV_iff]; omega) (by omega) (fun i hi hr hc => by rw [relV_iff] at hr; exact at_uniq hoc (by omega) (by omega)))
                      have hat6 := atG_lt hoc
                      have zt := hw.out.ob.cells (atG ((x : Int) - 40) u)
                      have ft := hw.out.ob.free (atG ((x : Int) - 40) u)
                      have htl := hw.out.ob.lt
                      have htc := gcells_get (scat G1 (relV k) yOf (y * 80 + x) u) hat6
                      rw [htc] at zt
                      have hn : Hid (GwW w R O G1 (scat G1 (relV k) yOf (y * 80 + x) (u + 1)) (wr.setCell ⟨O, atG ((x : Int) - 40) u, none⟩ (.bool true)) ) := hw.out.setR hOw hRO.symm (atG ((x : Int) - 40) u) hst.out
                      rw [← hnext] at hn
                      have hoc2 := hid hoc
                      rw [← hnext] at hme
                      replace hnext := hid hnext
                      replace hu := hid hu
                      replace hw := hid hw
                      clear hg hoc hxa hya hst htc hxm hym hc0 hcb huk hon
                      go_wp2_with (first | (go_at_call 128; refine (hwi.out _).mono ?_; rintro e w' ⟨rfl, rfl⟩) | (go_at_call 125; first | ((with_reducible refine (l03At_at x y _ hxl hlt).mono ?_); rintro e w' ⟨rfl, rfl⟩) | ((with_reducible refine (l03At_any _ _ _ hoc2.out).mono ?_); rintro e w' ⟨rfl, rfl⟩)))
                      go_roundw
                      case rel => exact ⟨i + 1, by omega, vint (by have := hnext.out; omega), hn⟩
                      case measure => simp [intOf]; have := hnext.out; omega
                    · rw [show wit u (-40) 39 = false from by cases h9 : wit u (-40) 39 with
                        | true => exact absurd (wit_iff.1 h9) hon
                        | false => rfl] at hwi
                      replace hwi := hid hwi
                      have hn : Hid (GwW w R O G1 (scat G1 (relV k) yOf (y * 80 + x) (u + 1)) wr) := hw.out.right (scat_skip (fun i hi h => hon (by rw [← h.2.2]; exact ⟨yOf_ge hi, yOf_le hi⟩)))
                      rw [← hnext] at hn
                      rw [← hnext] at hme
                      replace hnext := hid hnext
                      replace hu := hid hu
                      clear hg hw hxm hym hc0 hcb huk hon
                      go_wp2_with (first | (go_at_call 128; refine (hwi.out _).mono ?_; rintro e w' ⟨rfl, rfl⟩) | (go_at_call 125; ((with_reducible refine (l03At_at x y _ hxl hlt).mono ?_); rintro e w' ⟨rfl, rfl⟩)))
                      go_roundw
                      case rel => exact ⟨i + 1, by omega, vint (by have := hnext.out; omega), hn⟩
                      case measure => simp [intOf]; have := hnext.out; omega
                  · have hikI : ¬ (y : Int) - 40 - k + (i : Int) ≤ (y : Int) - 40 + k := by omega
                    have hn : Hid (GwW w R O G1 (scat G1 (relV k) yOf (y * 80 + (x + 1)) (-40)) wr) := hw.out.right (scat_done (fun i9 _ _ hr => by rw [relV_iff] at hr; omega) (-40) (fun i hi => yOf_ge hi))
                    clear hg hw hxm hym hc0 hcb
                    go_wp2_with (go_at_call 125; refine (l03At_at x y _ hxl hlt).mono ?_; rintro e w' ⟨rfl, rfl⟩)
                    go_roundw
                    case rel => exact ⟨x + 1, by omega, vint (by omega), hn⟩
                    case measure => simp [intOf]; omega
            · have hxI : ¬ (x : Int) - 40 < 40 := by omega
              have h80 : y * 80 + x = (y + 1) * 80 := by omega
              rw [h80] at hw
              clear h80
              go_wp2_with fail
              go_roundw
              case rel => exact ⟨y + 1, by omega, vint (by omega), hw⟩
              case measure => simp [intOf]; omega
        · have hyI : ¬ (y : Int) - 40 < 40 := by omega
          have h80 : y * 80 = 6400 := by omega
          rw [h80] at hw
          clear h80
          have hfin := (hw.out.right (scat_all (fun i hi => yOf_ge hi)))
          rw [hG1.out] at hfin
          have hfin := hid hfin
          go_wp2_with fail
          go_ret
          exact ⟨O, rfl, owns_blk (n := 6400) (size := 1) hfin.out.ob hOw (by rw [gcells_len]) (by simp [maxLen]), hfin.out.ext⟩
end Go.Proofs.Ytaigndaabmelhaa
/- Contracts of the reference's l33Meets, l33Sets, l33Graph. Condition: points on the chip; at most 12 parts; a spacing from 1 to 8. -/
namespace Go.Proofs.Ytaigndaabmelhaa
open Go.RowKit

def meetP (g : Grid) (ps : List Q2) : Bool := ps.any fun p => gh g p.a p.b
set_option maxRecDepth 100000 in
set_option maxHeartbeats 4000000 in
theorem l33Meets_any (B cb : Nat) (g : Grid) (q : Option Addr) (n c : Nat) (ps : List Q2) (w : World) (hb : Bits w B g) (h : SlT enc2 2 w q n ps) (hn : n ≤ 100000000) (hv : ∀ p ∈ ps, onC p.a p.b = true) :
    Calls Try.prog 130 #[.slice (some ⟨B, 0, none⟩) 6400 cb, .slice q n c] w fun e w' => e = .returned (.bool (meetP g ps)) ∧ Ext w w' := by
  have hl := hid h.length
  have hbw := hid hb
  have hv := hid hv
  clear hb
  go_enter Try.func130, Try.ntmps130
  go_wp2
  go_loopw [5] (fun i wr => ∃ k : Nat, k ≤ n ∧ i = .int .i64 k ∧ Hid ((ps.take k).any (fun p => gh g p.a p.b) = false) ∧ Hid (Ext w wr)) (fun i _ => n - (intOf i).toNat)
  case atStart => exact ⟨0, by omega, rfl, rfl, Ext.refl _⟩
  case round =>
    obtain ⟨k, hk, rfl, hno, hE⟩ := hrel
    by_cases hlt : k < n
    · have hltI : (k : Int) < (n : Int) := by omega
      obtain ⟨b, off, p, rfl, hb, hp, z0, z1⟩ := (h.ext hE.out).two hlt
      have hon := hid (hv.out p (List.mem_of_getElem? hp.out))
      have hat := atG_lt hon.out
      have hbb := hbw.out.ext hE.out
      have zg := hbb.2 _ hat
      have hgl := hbb.1
      have hgo := gh_on (g := g) hon.out
      clear hbb
      cases hg : g (atG p.a p.b) with
      | true =>
        rw [hg] at zg
        have hr : Hid (meetP g ps = true) := (any_hit (p := fun p : Q2 => gh g p.a p.b) hp.out (hgo.trans hg) : ps.any (fun p => gh g p.a p.b) = true)
        clear hgo hg
        go_wp2_with fail
        refine wp_region_later (by kernel_rfl) (by kernel_rfl) ?_
        repeat (go_big_quiet_step ((go_at_call 125; exact later_same (l03At_any _ _ _ hon.out))))
        refine wpQuiet_nil ?_
        rintro w1 ⟨⟨_, E1⟩, rfl⟩
        have hE1 := hid (hE.out.trans E1)
        clear E1
        go_wp2_with fail
        go_ret
        exact ⟨ret_bool hr.out.symm, hE1.out⟩
      | false =>
        rw [hg] at zg
        have hr := hid (any_take_snoc hno.out hp.out (hgo.trans hg))
        clear hgo hg
        go_wp2_with fail
        refine wp_region_later (by kernel_rfl) (by kernel_rfl) ?_
        repeat (go_big_quiet_step ((go_at_call 125; exact later_same (l03At_any _ _ _ hon.out))))
        refine wpQuiet_nil ?_
        rintro w1 ⟨⟨_, E1⟩, rfl⟩
        have hE1 := hid (hE.out.trans E1)
        clear E1
        go_wp2_with fail
        go_roundw
        case rel => exact ⟨k + 1, by omega, by go_num, hr, hE1⟩
        case measure => simp [intOf]; omega
    · have hltI : ¬ (k : Int) < (n : Int) := by omega
      rw [take_all hl.out (by omega)] at hno
      go_wp2_with fail
      go_ret
      exact ⟨ret_bool hno.out.symm, hE.out⟩
theorem info_PP : (Try.prog.info? 97).map (fun i => (i.zero, i.size, i.bytes)) = some (some (.slice none 0 0), 1, 24) := by kernel_rfl
def flP (S : List (List Q2)) : List (List Value) := S.map (·.flatMap enc2)
theorem flP_snoc (S : List (List Q2)) (r : List Q2) : flP (S ++ [r]) = flP S ++ [r.flatMap enc2] := by simp [flP]
def SetsB (S : List (List Q2)) (w : World) (e : Ending) (w' : World) : Prop := ∃ (q : Option Addr) (c : Nat), e = .returned (.slice q S.length c) ∧ SlR enc2 2 w' q S.length S ∧ Ext w w'
set_option maxRecDepth 100000 in
set_option maxHeartbeats 4000000 in
theorem l33Sets_any (q : Option Addr) (n c : Nat) (L : List (List Q4)) (w : World) (h : SlR enc4 4 w q n L) (hn : n ≤ 1000) (hv : ∀ l ∈ L, l.length ≤ 3200 ∧ ∀ r ∈ l, vR r = true) :
    Calls Try.prog 124 #[.slice q n c] w (SetsB (L.map cellsP) w) := by
  have hl := hid h.length
  replace hv := hid hv
  obtain ⟨i0, hi, hz0, hz1, hz2⟩ := info_parts info_PP
  go_enter Try.func124, Try.ntmps124
  go_upto_region 2 with (fail)
  have ho0 : (w.alloc (.cells #[] 97)).ownsRow w.heap.size 97 1 (.slice (some ⟨w.heap.size, 0, none⟩) 0 0) 0 [] := by
    have := World.ownsRow_made (base := w.heap.size) (e := 97) (size := 1) w #[] 0 (by simp) (by simp [maxLen]) (by simp)
    exact this
  generalize hW : w.alloc _ = W0 at ho0 ⊢
  have E0 : Ext w W0 := by rw [← hW]; exact (Ext.refl _).alloc _
  clear hW
  replace ho0 := hid ho0
  replace E0 := hid E0
  go_wp2
  go_loopw [3, 4] (fun vo iv wr => ∃ (k : Nat) (qo : Option Addr) (co : Nat) (H : List Hd), k ≤ n ∧ iv = .int .i64 k ∧ vo = .slice qo k co ∧ Hid (OwnG 97 138 2 w.heap.size wr qo k co H (flP ((L.take k).map cellsP))) ∧ Hid (Ext w wr)) (fun _ i _ => n - (intOf i).toNat)
  case atStart => exact ⟨0, _, _, [], by omega, rfl, rfl, OwnG.start ho0.out, E0⟩
  case round =>
    clear ho0 E0
    obtain ⟨k, qo, co, H, hk, rfl, rfl, ho, hE⟩ := hrel
    by_cases hlt : k < n
    · have hltI : (k : Int) < (n : Int) := by omega
      obtain ⟨b, off, q1, n1, c1, l1, rfl, hb, hl1, z, t1⟩ := (h.ext hE.out).get hlt
      have g1 := hid (hv.out l1 (List.mem_of_getElem? hl1.out))
      have hsn : Hid (flP ((L.take (k + 1)).map cellsP) = flP ((L.take k).map cellsP) ++ [(cellsP l1).flatMap enc2]) := by show _ = _; rw [take_snoc hl1.out, List.map_append]; exact flP_snoc _ _
      have hcl := hid (l33Cells_any q1 n1 c1 l1 _ t1 (by have := t1.length; have := g1.out.1; omega) g1.out.2)
      clear t1
      go_wp2_with fail
      refine hcl.out.mono ?_
      rintro e w5 ⟨q5, c5, rfl, o5, E5⟩
      have hO := hid o5
      have hE5 := hid E5
      have hsz := hE.out.le
      have hsz2 := E5.le
      have htop := hid (owns_ext ho.out.top E5)
      have hEw := hid ((hE.out.trans E5).alloc (.cells #[.slice q5 (cellsP l1).length c5] 97))
      clear o5 E5 hcl z hb
      obtain ⟨m5, hm5⟩ : ∃ m5, m5 = (cellsP l1).length := ⟨_, rfl⟩
      rw [← hm5] at hO hEw ⊢
      clear hm5
      go_wp2_with (at_builtin; refine wpList_append_own_at _ rfl _ _ 134 rfl w.heap.size 97 i0 (.slice none 0 0) 1 24 Try.underlying134 hi hz0 hz1 hz2 rfl (by omega) _ _ _ rfl (htop.out.alloc _) ⟨_, 0, none⟩ 1 1 [.slice q5 m5 c5] rfl rfl (cells_new1 _ _ _) (one_hd1 _ _ _) (len_le (by omega) (by omega)) (by omega) (by simp; omega) ?_; intro v' w9 ho' hg' _ hb'; obtain ⟨qa, ca, rfl⟩ := owns_forms ho'; replace ho' := hid ho'; replace hg' := hid hg'; replace hb' := hid hb')
      go_roundw
      case rel => exact ⟨k + 1, qa, ca, _, by omega, by go_num, rfl, by rw [hsn.out]; exact ho.out.more hE.out.le hO.out hE5.out _ ho'.out hg'.out hb'.out, hEw.out.grown hg'.out (fun g hg => (htop.out.lt g hg).1)⟩
      case measure => simp [intOf]; omega
    · have hltI : ¬ (k : Int) < (n : Int) := by omega
      obtain rfl : k = n := by omega
      have hT : Hid ((L.map cellsP).length = k) := (List.length_map _).trans hl.out
      rw [take_all hl.out (Nat.le_refl _)] at ho
      go_wp2_with fail
      go_ret
      rw [SetsB, hT.out]
      exact ⟨qo, co, rfl, ho.out.toR (by omega) enc2_len, hE.out⟩
/-- The set of some points. -/
def ptG (ps : List Q2) : Grid := gmk fun x y => ps.any fun p => decide (p.a = x) && decide (p.b = y)
theorem ptG_nil : gcells (gL []) = gcells (ptG []) := gmk_ext fun x y _ => by simp [inL]
theorem ptG_snoc {ps : List Q2} {k : Nat} {p : Q2} (h : ps[k]? = some p) (hon : onC p.a p.b = true) : (gcells (ptG (ps.take k))).set (atG p.a p.b) (.bool true) = gcells (ptG (ps.take (k + 1))) := by
  rw [gcells_set, ptG, ptG]
  refine gset_gmk _ hon fun x y _ => ?_
  rw [take_snoc h, List.any_append]
  by_cases e : x = p.a ∧ y = p.b
  · obtain ⟨rfl, rfl⟩ := e
    simp
  · have : (decide (p.a = x) && decide (p.b = y)) = false := by
      simp only [Bool.and_eq_false_iff, decide_eq_false_iff_not]
      by_cases h1 : p.a = x
      · right; intro h2; exact e ⟨h1.symm, h2.symm⟩
      · left; exact h1
    simp [this, e]
theorem gh_ptG {ps : List Q2} {x y : Int} (hv : ∀ p ∈ ps, onC p.a p.b = true) : gh (ptG ps) x y = true ↔ ⟨x, y⟩ ∈ ps := by
  constructor
  · intro h
    have hon : onC x y = true := by
      cases ho : onC x y with
      | true => rfl
      | false => rw [gh_off ho] at h; cases h
    rw [ptG, gh_gmk _ hon, List.any_eq_true] at h
    obtain ⟨p, hp, h2⟩ := h
    simp only [Bool.and_eq_true, decide_eq_true_eq] at h2
    obtain ⟨rfl, rfl⟩ := h2
    exact hp
  · intro h
    rw [ptG, gh_gmk _ (hv _ h), List.any_eq_true]
    exact ⟨_, h, by simp⟩
def gtB (S : List (List Q2)) (s : Int) (i k : Nat) : Bool := !decide (i = k) && meetP (growC (ptG (S.getD i [])) s) (S.getD k [])
def gtR (S : List (List Q2)) (s : Int) (i m : Nat) : List Bool := (List.range m).map fun k => gtB S s i k
def gtN (S : List (List Q2)) (s : Int) (m : Nat) : List (List Bool) := (List.range m).map fun i => gtR S s i S.length
theorem gtR_succ (S : List (List Q2)) (s : Int) (i m : Nat) : gtR S s i (m + 1) = gtR S s i m ++ [gtB S s i m] := by simp [gtR, List.range_succ]
theorem gtN_succ (S : List (List Q2)) (s : Int) (m : Nat) : gtN S s (m + 1) = gtN S s m ++ [gtR S s m S.length] := by simp [gtN, List.range_succ]
set_option maxRecDepth 100000 in
set_option maxHeartbeats 8000000 in
theorem l33Graph_any (q : Option Addr) (n c : Nat) (S : List (List Q2)) (s : Int) (w : World) (h : SlR enc2 2 w q n S) (hn : n ≤ 1000) (hv : ∀ ps ∈ S, ps.length ≤ 100000000 ∧ ∀ p ∈ ps, onC p.a p.b = true) (hs0 : 1 ≤ s) (hs8 : s ≤ 8) :
    Calls Try.prog 123 #[.slice q n c, .int .i64 s] w (TabB (gtN S s S.length) w) := by
  have hl := hid h.length
  replace hv := hid hv
  obtain ⟨i0, hi, hz0, hz1, hz2⟩ := info_parts info_BB
  obtain ⟨j0, hj, hy0, hy1, hy2⟩ := info_parts info_Bool
  go_enter Try.func123, Try.ntmps123
  go_upto_region 2 with (fail)
  have ho0 : (w.alloc (.cells #[] 79)).ownsRow w.heap.size 79 1 (.slice (some ⟨w.heap.size, 0, none⟩) 0 0) 0 [] := by
    have := World.ownsRow_made (base := w.heap.size) (e := 79) (size := 1) w #[] 0 (by simp) (by simp [maxLen]) (by simp)
    exact this
  generalize hW : w.alloc _ = W0 at ho0 ⊢
  have E0 : Ext w W0 := by rw [← hW]; exact (Ext.refl _).alloc _
  clear hW
  replace ho0 := hid ho0
  replace E0 := hid E0
  go_wp2
  go_loopw [5, 6] (fun vo iv wr => ∃ (k : Nat) (qo : Option Addr) (co : Nat) (H : List Hd), k ≤ n ∧ iv = .int .i64 k ∧ vo = .slice qo k co ∧ Hid (OwnG 79 4 1 w.heap.size wr qo k co H (flB (gtN S s k))) ∧ Hid (Ext w wr)) (fun _ i _ => n - (intOf i).toNat)
  case atStart => exact ⟨0, _, _, [], by omega, rfl, rfl, OwnG.start ho0.out, E0⟩
  case round =>
    clear ho0 E0
    obtain ⟨k, qo, co, H, hk, rfl, rfl, ho, hE⟩ := hrel
    rename World => wo
    by_cases hlt : k < n
    · have hltI : (k : Int) < (n : Int) := by omega
      obtain ⟨b, off, q1, n1, c1, ps, rfl, hb, hl1, z, t1⟩ := (h.ext hE.out).get hlt
      have hK : Hid (∀ V, Ext wo V → b < V.heap.size ∧ V.cell? ⟨b, off + k, none⟩ = some (.slice q1 n1 c1)) := fun V hV => ⟨Nat.lt_of_lt_of_le hb hV.le, (hV.cells _ _ hb).trans z⟩
      have hg1 := hv.out ps (List.mem_of_getElem? hl1.out)
      have hn1 : n1 ≤ 100000000 := by rw [← t1.length]; exact hg1.1
      have g1 := hid hg1
      have hpl := hid t1.length
      have t1 := hid t1
      clear z hb hg1
      go_wp2_with fail
      refine (l03Bits_any none 0 0 [] _ (SlT.zero _ _) (by omega) (by simp)).mono ?_
      rintro e w3 ⟨N, rfl, o3, E3⟩
      have hN : wo.heap.size ≤ N := (owns_lt o3).1
      have b3 := owns_toBlk o3
      rw [ptG_nil] at b3
      replace b3 := hid b3
      replace E3 := hid E3
      clear o3
      go_wp2_with fail
      go_loopw [8] (fun im wr => ∃ m : Nat, m ≤ n1 ∧ im = .int .i64 m ∧ Hid (Blk wr N (gcells (ptG (ps.take m))) 4) ∧ Hid (Ext wo wr)) (fun i _ => n1 - (intOf i).toNat)
      case atStart => exact ⟨0, by omega, rfl, b3, E3⟩
      case round =>
        clear b3 E3
        obtain ⟨m, hm, rfl, hbN, hE2⟩ := hrel
        obtain ⟨hb, z⟩ := hK.out _ hE2.out
        by_cases hltm : m < n1
        · have hltmI : (m : Int) < (n1 : Int) := by omega
          obtain ⟨b2, off2, p, e9, hb2, hp, z0, z1⟩ := (t1.out.ext hE2.out).two hltm
          subst e9
          have hon := hid (g1.out.2 p (List.mem_of_getElem? hp.out))
          have hat := atG_lt hon.out
          have hatI : (atG p.a p.b : Int) < 6400 := by omega
          have zn := hbN.out.cells (atG p.a p.b)
          rw [gcells_get _ hat] at zn
          have fz := hbN.out.free (atG p.a p.b)
          have hNl := hbN.out.lt
          have hst := hid (ptG_snoc hp.out hon.out)
          have hb9 := hid ((show Blk wr.drew N _ _ from hbN.out).set (atG p.a p.b) (.bool true))
          have hE9 := hid (hE2.out.drew.setCell (p := ⟨N, atG p.a p.b, none⟩) hN (.bool true))
          go_wp2_with fail
          refine wp_region_still_tail 19 (by kernel_rfl) (by kernel_rfl) ?_
          simp only [List.take_succ_cons, List.take_zero, List.drop_succ_cons, List.drop_zero]
          iterate 17 still_step
          still_call ((l03At_any _ _ _ hon.out).mono fun _ _ h => ⟨h.1, h.2.symm⟩)
          still_step
          refine wpStill_nil ?_
          change wpList _ _ _ _ _ wr.drew
          go_wp2_with fail
          go_roundw
          case rel => exact ⟨m + 1, by omega, by go_num, by have := hb9.out; rw [hst.out] at this; exact this, hE9⟩
          case measure => simp [intOf]; omega
        · have hltmI : ¬ (m : Int) < (n1 : Int) := by omega
          rw [take_all hpl.out (by omega)] at hbN
          have hbits := hid (Bits.ofBlk hbN.out)
          go_wp2_with fail
          refine (l33Grow_any N 6400 (ptG ps) s _ hbits.out (by omega) hs8).mono ?_
          rintro e w5 ⟨M, rfl, o5, E5⟩
          have bM := hid (Bits.of o5)
          have hE5 := hid (hE2.out.trans E5)
          clear o5 E5 z hb hbits hbN
          go_upto_region 12 with (fail)
          have hr0 : (w5.alloc (.cells #[] 4)).ownsRow w5.heap.size 4 1 (.slice (some ⟨w5.heap.size, 0, none⟩) 0 0) 0 [] := by
            have := World.ownsRow_made (base := w5.heap.size) (e := 4) (size := 1) w5 #[] 0 (by simp) (by simp [maxLen]) (by simp)
            exact this
          generalize hW : w5.alloc _ = W1 at hr0 ⊢
          have E1 : Ext w5 W1 := by rw [← hW]; exact (Ext.refl _).alloc _
          clear hW
          replace hr0 := hid hr0
          replace E1 := hid E1
          go_wp2_with fail
          go_loopw [10, 11] (fun vr iv wr => ∃ (m : Nat) (qr : Option Addr) (cr : Nat), m ≤ n ∧ iv = .int .i64 m ∧ vr = .slice qr m cr ∧ Hid (wr.ownsRow w5.heap.size 4 1 (.slice qr m cr) m ((gtR S s k m).flatMap encb)) ∧ Hid (Ext w5 wr)) (fun _ i _ => n - (intOf i).toNat)
          case atStart => exact ⟨0, _, _, by omega, rfl, rfl, hr0, E1⟩
          case round =>
            clear hr0 E1
            obtain ⟨m, qr, cr, hm, rfl, rfl, hrow, hE2⟩ := hrel
            by_cases hltm : m < n
            · have hltmI : (m : Int) < (n : Int) := by omega
              have hEo := hid (hE5.out.trans hE2.out)
              obtain ⟨b', off', q2, n2, c2, ps2, e9, hb, hl2, z, t2⟩ := (h.ext (hE.out.trans hEo.out)).get hltm
              cases e9
              have t2 := hid t2
              have g2 := hid (hv.out ps2 (List.mem_of_getElem? hl2.out))
              by_cases hkm : k = m
              · subst hkm
                have hval : Hid (gtR S s k (k + 1) = gtR S s k k ++ [false]) := by show _ = _; rw [gtR_succ, gtB]; simp
                have hsz := hE2.out.le
                go_wp2_with (at_builtin; refine wpList_append_own_at _ rfl _ _ 79 rfl w5.heap.size 4 j0 (.bool false) 1 1 Try.underlying79 hj hy0 hy1 hy2 rfl (by omega) _ _ _ rfl (hrow.out.alloc _) ⟨_, 0, none⟩ 1 1 [.bool false] rfl rfl (cells_new1 _ _ _) (one_b _) (len_le (by omega) (by omega)) (by omega) (by simp; omega) ?_; intro v' w9 ho' hg' _ hb'; obtain ⟨qa, ca, rfl⟩ := owns_forms ho'; replace ho' := hid ho'; replace hg' := hid hg')
                go_roundw
                case rel => exact ⟨k + 1, qa, ca, by omega, by go_num, rfl, by rw [hval.out, List.flatMap_append]; exact ho'.out, (hE2.out.alloc _).grown hg'.out (fun g hg => (hrow.out.lt g hg).1)⟩
                case measure => simp [intOf]; omega
              · have hkmI : ((k : Int) != (m : Int)) = true := by simp; omega
                have hval : Hid (gtR S s k (m + 1) = gtR S s k m ++ [meetP (growC (ptG ps) s) ps2]) := by
                  show _ = _
                  rw [gtR_succ, gtB, getD_of hl1.out, getD_of hl2.out, decide_eq_false hkm]; rfl
                have hmt := hid (l33Meets_any M 6400 (growC (ptG ps) s) q2 n2 c2 ps2 _ (bM.out.ext hE2.out) t2.out (by have := t2.out.length; have := g2.out.1; omega) g2.out.2)
                go_wp2_with fail
                refine hmt.out.mono ?_
                rintro e w7 ⟨rfl, E7⟩
                have hrow5 := hid (owns_ext hrow.out E7)
                have hE7 := hid (hE2.out.trans E7)
                have hsz := hE7.out.le
                obtain ⟨cv, hcv⟩ : ∃ cv, cv = meetP (growC (ptG ps) s) ps2 := ⟨_, rfl⟩
                rw [← hcv] at hval ⊢
                clear hmt E7 hcv z hb
                go_wp2_with (at_builtin; refine wpList_append_own_at _ rfl _ _ 79 rfl w5.heap.size 4 j0 (.bool false) 1 1 Try.underlying79 hj hy0 hy1 hy2 rfl (by omega) _ _ _ rfl (hrow5.out.alloc _) ⟨_, 0, none⟩ 1 1 [.bool cv] rfl rfl (cells_new1 _ _ _) (one_b _) (len_le (by omega) (by omega)) (by omega) (by simp; omega) ?_; intro v' w9 ho' hg' _ hb'; obtain ⟨qa, ca, rfl⟩ := owns_forms ho'; replace ho' := hid ho'; replace hg' := hid hg')
                go_roundw
                case rel => exact ⟨m + 1, qa, ca, by omega, by go_num, rfl, by rw [hval.out, List.flatMap_append]; exact ho'.out, (hE7.out.alloc _).grown hg'.out (fun g hg => (hrow5.out.lt g hg).1)⟩
                case measure => simp [intOf]; omega
            · have hltmI : ¬ (m : Int) < (n : Int) := by omega
              obtain rfl : m = n := by omega
              have hval : Hid (gtN S s (k + 1) = gtN S s k ++ [gtR S s k m]) := by show _ = _; rw [gtN_succ, hl.out]
              have hEo := hid (hE5.out.trans hE2.out)
              have hEw := hid (hE.out.trans hEo.out)
              have hsz := hE.out.le
              have hsz2 := hEo.out.le
              have htop := hid (owns_ext ho.out.top hEo.out)
              have hrw := hid (owns_lowP hrow.out hE5.out.le)
              go_wp2_with (at_builtin; refine wpList_append_own_at _ rfl _ _ 76 rfl w.heap.size 79 i0 (.slice none 0 0) 1 24 Try.underlying76 hi hz0 hz1 hz2 rfl (by omega) _ _ _ rfl (htop.out.alloc _) ⟨_, 0, none⟩ 1 1 [.slice qr m cr] rfl rfl (cells_new1 _ _ _) (one_hd1 _ _ _) (len_le (by omega) (by omega)) (by omega) (by simp; omega) ?_; intro v' w9 ho' hg' _ hb'; obtain ⟨qa, ca, rfl⟩ := owns_forms ho'; replace ho' := hid ho'; replace hg' := hid hg'; replace hb' := hid hb')
              go_roundw
              case rel => exact ⟨k + 1, qa, ca, _, by omega, by go_num, rfl, by rw [hval.out, flB_snoc]; exact ho.out.more hE.out.le hrw.out hEo.out _ ho'.out hg'.out hb'.out, (hEw.out.alloc _).grown hg'.out (fun g hg => (htop.out.lt g hg).1)⟩
              case measure => simp [intOf]; omega
    · have hltI : ¬ (k : Int) < (n : Int) := by omega
      obtain rfl : k = n := by omega
      have hT : Hid ((gtN S s S.length).length = k) := by show _ = _; simp [gtN]; exact hl.out
      have hT2 : Hid (gtN S s k = gtN S s S.length) := by show _ = _; rw [hl.out]
      go_wp2_with fail
      go_ret
      rw [TabB, hT.out, ← hT2.out]
      exact ⟨qo, co, H, rfl, ho.out, hE.out⟩
end Go.Proofs.Ytaigndaabmelhaa
/- The graph of the reference is the table of the program; contract of l33Parts. Condition: at most 2^20 rectangles. -/
namespace Go.Proofs.Ytaigndaabmelhaa
open Go.RowKit

theorem cells_on {l : List Q4} (hv : ∀ r ∈ l, vR r = true) : ∀ p ∈ cellsP l, onC p.a p.b = true := by
  intro p hp
  rw [mem_cellsP, inL, List.any_eq_true] at hp
  obtain ⟨r, hr, hi⟩ := hp
  exact inR_on (hv r hr) hi
theorem meet_conf {l1 l2 : List Q4} {s : Int} (v1 : ∀ r ∈ l1, vR r = true) (v2 : ∀ r ∈ l2, vR r = true) (hs : 0 ≤ s) : meetP (growC (ptG (cellsP l1)) s) (cellsP l2) = confL l1 l2 s := by
  rw [Bool.eq_iff_iff, meetP, confL, List.any_eq_true, List.any_eq_true]
  constructor
  · rintro ⟨p, hp, hg⟩
    rw [growC_iff] at hg
    obtain ⟨_, x, y, hxy, h1, h2⟩ := hg
    rw [gh_ptG (cells_on v1), mem_cellsP, inL, List.any_eq_true] at hxy
    rw [mem_cellsP, inL, List.any_eq_true] at hp
    obtain ⟨r, hr, hri⟩ := hxy
    obtain ⟨t, ht, hti⟩ := hp
    refine ⟨r, hr, List.any_eq_true.2 ⟨t, ht, ?_⟩⟩
    rw [inR_iff] at hri hti
    rw [cls_iff]
    simp only at hri
    omega
  · rintro ⟨r, hr, hc⟩
    rw [List.any_eq_true] at hc
    obtain ⟨t, ht, hc⟩ := hc
    rw [cls_iff] at hc
    have hr1 := vR_iff.1 (v1 r hr)
    have ht1 := vR_iff.1 (v2 t ht)
    obtain ⟨x, u, hx, hu, hxu⟩ : ∃ x u : Int, (r.a ≤ x ∧ x < r.c) ∧ (t.a ≤ u ∧ u < t.c) ∧ (x - u ≤ s ∧ u - x ≤ s) := by
      by_cases h1 : t.a < r.a
      · by_cases h2 : t.c ≤ r.a
        · exact ⟨r.a, t.c - 1, by omega, by omega, by omega⟩
        · exact ⟨r.a, r.a, by omega, by omega, by omega⟩
      · by_cases h2 : r.c ≤ t.a
        · exact ⟨r.c - 1, t.a, by omega, by omega, by omega⟩
        · exact ⟨t.a, t.a, by omega, by omega, by omega⟩
    obtain ⟨y, v, hy, hv, hyv⟩ : ∃ y v : Int, (r.b ≤ y ∧ y < r.d) ∧ (t.b ≤ v ∧ v < t.d) ∧ (y - v ≤ s ∧ v - y ≤ s) := by
      by_cases h1 : t.b < r.b
      · by_cases h2 : t.d ≤ r.b
        · exact ⟨r.b, t.d - 1, by omega, by omega, by omega⟩
        · exact ⟨r.b, r.b, by omega, by omega, by omega⟩
      · by_cases h2 : r.d ≤ t.b
        · exact ⟨r.d - 1, t.b, by omega, by omega, by omega⟩
        · exact ⟨t.b, t.b, by omega, by omega, by omega⟩
    refine ⟨⟨u, v⟩, mem_cellsP.2 (List.any_eq_true.2 ⟨t, ht, inR_iff.2 (by simp only; omega)⟩), ?_⟩
    rw [growC_iff]
    refine ⟨by rw [onC_iff]; simp only; omega, x, y, ?_, hxu, hyv⟩
    rw [gh_ptG (cells_on v1), mem_cellsP, inL, List.any_eq_true]
    exact ⟨r, hr, inR_iff.2 (by simp only; omega)⟩
theorem getD_cells (L : List (List Q4)) (i : Nat) : (L.map cellsP).getD i [] = cellsP (L.getD i []) := by
  rw [List.getD_eq_getElem?_getD, List.getD_eq_getElem?_getD, List.getElem?_map]
  cases L[i]? with
  | none => rfl
  | some l => rfl
theorem getD_ok {L : List (List Q4)} (hv : ∀ l ∈ L, l.length ≤ 3200 ∧ ∀ r ∈ l, vR r = true) (i : Nat) : ∀ r ∈ L.getD i [], vR r = true := by
  rw [List.getD_eq_getElem?_getD]
  cases h : L[i]? with
  | none => intro r hr; simp at hr
  | some l => exact (hv l (List.mem_of_getElem? h)).2
theorem graph_tab {L : List (List Q4)} {s : Int} (hv : ∀ l ∈ L, l.length ≤ 3200 ∧ ∀ r ∈ l, vR r = true) (hs : 0 ≤ s) : gtN (L.map cellsP) s (L.map cellsP).length = tabL L s := by
  rw [tabL, gtN, tabN, List.length_map]
  refine List.map_congr_left fun i _ => ?_
  rw [gtR, tabR]
  refine List.map_congr_left fun k _ => ?_
  rw [gtB, tbB, getD_cells, getD_cells, meet_conf (getD_ok hv i) (getD_ok hv k) hs]
theorem l33Spacing_any (s : Int) (w : World) : Calls Try.prog 122 #[.int .i64 s] w fun e w' => e = .returned (.bool (wit s 1 8)) ∧ w = w' := by
  go_enter Try.func122, Try.ntmps122
  go_wp2_with (go_at_call 128; refine (l09In_any _ _ _ _).mono ?_; rintro e w' ⟨rfl, rfl⟩)
  go_ret
  exact ⟨rfl, rfl⟩
theorem sets_ok {L : List (List Q4)} (hv : ∀ l ∈ L, l.length ≤ 3200 ∧ ∀ r ∈ l, vR r = true) : ∀ ps ∈ L.map cellsP, ps.length ≤ 100000000 ∧ ∀ p ∈ ps, onC p.a p.b = true := by
  intro ps hps
  rw [List.mem_map] at hps
  obtain ⟨l, hl, rfl⟩ := hps
  obtain ⟨h1, h2⟩ := hv l hl
  exact ⟨by have := cellsP_bd l h2; omega, cells_on h2⟩
set_option maxRecDepth 100000 in
set_option maxHeartbeats 4000000 in
theorem l33Parts_any (q : Option Addr) (n c : Nat) (l : List Q4) (s : Int) (w : World) (h : SlT enc4 4 w q n l) (hn : n ≤ 1048576) :
    Calls Try.prog 81 #[.slice q n c, .int .i64 s] w (PtTab l s w) := by
  have hp := hid (specPatternParts_any q n c l w h hn)
  have hgl := ppG_len l
  have hwi := fun W => l33Spacing_any s W
  have hwb : wit s 1 8 = true ↔ (1 ≤ s ∧ s ≤ 8) := wit_iff
  by_cases h0 : ppC l = 0
  · cases hw : wit s 1 8 with
    | true =>
      have hs := hwb.1 hw
      rw [hw] at hwi
      replace hwi := hid hwi
      have hc := hid (ptC_ok h0 hs)
      have hok := hid (parts_ok (ppG l))
      obtain ⟨P, hP⟩ : ∃ P, P = (ppG l).map canon := ⟨_, rfl⟩
      obtain ⟨m, hm⟩ : ∃ m, m = (ppG l).length := ⟨_, rfl⟩
      have hPm : P.length = m := by rw [hP, hm, List.length_map]
      rw [← hP] at hok hc
      obtain ⟨hs1, hs8⟩ := hs
      clear hw hwb
      go_enter Try.func81, Try.ntmps81
      go_wp2_with fail
      refine hp.out.mono ?_
      rintro e w1 ⟨q1, c1, H, rfl, o1, E1⟩
      rw [h0]
      rw [← hm] at o1 hgl ⊢
      have hr := hid (o1.toS.toR)
      rw [← hP] at hr
      replace hm := hid hm
      replace hP := hid hP
      replace hPm := hid hPm
      replace h0 := hid h0
      clear o1
      go_wp2_with fail
      refine (hwi.out _).mono ?_
      rintro e w2 ⟨rfl, rfl⟩
      go_wp2_with fail
      refine (l33Sets_any q1 m c1 P _ hr.out (by omega) hok.out).mono ?_
      rintro e w9 ⟨q9, c9, rfl, r9, E9⟩
      have hm9 : Hid ((P.map cellsP).length = m) := (List.length_map _).trans hPm.out
      rw [hm9.out] at r9 ⊢
      have r9 := hid r9
      have hso := hid (sets_ok hok.out)
      go_wp2_with fail
      refine (l33Graph_any q9 m c9 (P.map cellsP) s _ r9.out (by omega) hso.out hs1 hs8).mono ?_
      rw [graph_tab hok.out (by omega)]
      rintro e w3 ⟨q2, c2, H2, rfl, o2, E2'⟩
      have E2 := E9.trans E2'
      clear E9 E2'
      have hT : Hid ((tabL P s).length = m) := (tabL_len P s).trans hPm.out
      rw [hT.out] at o2 ⊢
      have hr2 := hid (o2.toR (enc := encb) (L := tabL P s) (by omega) encb_len)
      have hr1 := hid (hr.out.ext E2)
      have hE := hid (E1.trans E2)
      clear o2
      go_wp2_with fail
      refine bodyPost_ret (results_tmp3 rfl _ _ _) rfl ?_
      rw [PtTab, hc.out.1, hc.out.2, hPm.out]
      exact ⟨q1, c1, q2, c2, rfl, hr1.out, hr2.out, hE.out⟩
    | false =>
      have hs : ¬ (1 ≤ s ∧ s ≤ 8) := fun h => by rw [hwb.2 h] at hw; cases hw
      rw [hw] at hwi
      replace hwi := hid hwi
      have hc := hid (ptC_range h0 hs)
      clear hw hwb hs
      go_enter Try.func81, Try.ntmps81
      go_wp2_with fail
      refine hp.out.mono ?_
      rintro e w1 ⟨q1, c1, H, rfl, o1, E1⟩
      rw [h0]
      replace h0 := hid h0
      replace o1 := hid o1
      go_wp2_with fail
      refine (hwi.out _).mono ?_
      rintro e w2 ⟨rfl, rfl⟩
      go_wp2_with fail
      refine bodyPost_ret (results_tmp3 rfl _ _ _) rfl ?_
      rw [PtTab, hc.out.1, hc.out.2]
      exact ⟨none, 0, none, 0, rfl, SlR.nil _ _, SlR.nil _ _, E1⟩
  · have hc := hid (ptC_no (s := s) h0)
    have hB1 : decide (ppC l = 0) = false := decide_eq_false h0
    have hB2 : (ppC l == 0) = false := by simpa using h0
    have hB3 : (ppC l != 0) = true := by simp [h0]
    obtain ⟨C, hC⟩ : ∃ C, C = ppC l := ⟨_, rfl⟩
    rw [← hC] at h0 hB1 hB2 hB3 hc
    clear hwb
    go_enter Try.func81, Try.ntmps81
    go_wp2_with fail
    refine hp.out.mono ?_
    rintro e w1 ⟨q1, c1, H, rfl, o1, E1⟩
    rw [← hC]
    replace hC := hid hC
    replace o1 := hid o1
    go_wp2_with fail
    refine bodyPost_ret (results_tmp3 rfl _ _ _) rfl ?_
    rw [PtTab, hc.out.1, hc.out.2]
    exact ⟨none, 0, none, 0, rfl, SlR.nil _ _, SlR.nil _ _, E1⟩
end Go.Proofs.Ytaigndaabmelhaa
