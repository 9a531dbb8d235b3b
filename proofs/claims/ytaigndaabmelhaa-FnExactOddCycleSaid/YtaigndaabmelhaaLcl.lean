/- Contract of the reference's l33Cells: the unit cells of some rectangles, one by one. Condition: at most 3200 valid rectangles. -/
import Derived.Test.YtaigndaabmelhaaPtb
namespace Go.Proofs.Ytaigndaabmelhaa
open Go.RowKit

def rowC (y a : Int) (m : Nat) : List Q2 := (List.range m).map fun (i : Nat) => ⟨a + (i : Int), y⟩
def rectM (r : Q4) (m : Nat) : List Q2 := (List.range m).flatMap fun (j : Nat) => rowC (r.b + (j : Int)) r.a (r.c - r.a).toNat
def rectC (r : Q4) : List Q2 := rectM r (r.d - r.b).toNat
def cellsP (l : List Q4) : List Q2 := l.flatMap rectC
theorem rowC_succ (y a : Int) (m : Nat) : rowC y a (m + 1) = rowC y a m ++ [⟨a + (m : Int), y⟩] := by simp [rowC, List.range_succ]
theorem rectM_succ (r : Q4) (m : Nat) : rectM r (m + 1) = rectM r m ++ rowC (r.b + (m : Int)) r.a (r.c - r.a).toNat := by simp [rectM, List.range_succ]
theorem cellsP_snoc {l : List Q4} {k : Nat} {r : Q4} (h : l[k]? = some r) : cellsP (l.take (k + 1)) = cellsP (l.take k) ++ rectC r := by
  rw [take_snoc h, cellsP, cellsP, List.flatMap_append]; simp
theorem rowC_len (y a : Int) (m : Nat) : (rowC y a m).length = m := by simp [rowC]
theorem rectM_len (r : Q4) (m : Nat) : (rectM r m).length = m * (r.c - r.a).toNat := by
  induction m with
  | zero => simp [rectM]
  | succ m ih => rw [rectM_succ, List.length_append, ih, rowC_len, Nat.succ_mul]
theorem rectM_bd {r : Q4} (h : vR r = true) {m : Nat} (hm : m ≤ 80) : (rectM r m).length ≤ 6400 := by
  rw [rectM_len]
  rw [vR_iff] at h
  have : (r.c - r.a).toNat ≤ 80 := by omega
  calc m * (r.c - r.a).toNat ≤ 80 * 80 := Nat.mul_le_mul hm this
    _ = 6400 := rfl
theorem rectC_bd {r : Q4} (h : vR r = true) : (rectC r).length ≤ 6400 := rectM_bd h (by rw [vR_iff] at h; omega)
theorem cellsP_bd : ∀ (l : List Q4), (∀ r ∈ l, vR r = true) → (cellsP l).length ≤ 6400 * l.length
  | [], _ => by simp [cellsP]
  | r :: l, h => by
    have h1 := rectC_bd (h r (by simp))
    have h2 := cellsP_bd l (fun x hx => h x (by simp [hx]))
    have e : cellsP (r :: l) = rectC r ++ cellsP l := by simp [cellsP]
    rw [e, List.length_append, List.length_cons]
    omega
theorem mem_rowC {y a : Int} {m : Nat} {p : Q2} : p ∈ rowC y a m ↔ p.b = y ∧ a ≤ p.a ∧ p.a < a + (m : Int) := by
  rw [rowC, List.mem_map]
  constructor
  · rintro ⟨i, hi, rfl⟩
    rw [List.mem_range] at hi
    refine ⟨rfl, ?_, ?_⟩ <;> simp only <;> omega
  · rintro ⟨h1, h2, h3⟩
    refine ⟨(p.a - a).toNat, by rw [List.mem_range]; omega, ?_⟩
    cases p
    simp only at h1 h2 h3 ⊢
    rw [h1]
    congr 1
    omega
theorem mem_rectC {r : Q4} {p : Q2} : p ∈ rectC r ↔ inR r p.a p.b = true := by
  rw [rectC, rectM, List.mem_flatMap, inR_iff]
  constructor
  · rintro ⟨j, hj, hp⟩
    rw [List.mem_range] at hj
    rw [mem_rowC] at hp
    omega
  · rintro h
    refine ⟨(p.b - r.b).toNat, by rw [List.mem_range]; omega, ?_⟩
    rw [mem_rowC]
    omega
theorem mem_cellsP {l : List Q4} {p : Q2} : p ∈ cellsP l ↔ inL l p.a p.b = true := by
  rw [cellsP, List.mem_flatMap, inL, List.any_eq_true]
  constructor
  · rintro ⟨r, hr, hp⟩; exact ⟨r, hr, mem_rectC.1 hp⟩
  · rintro ⟨r, hr, hp⟩; exact ⟨r, hr, mem_rectC.2 hp⟩
/-- A list of points of the call's own. -/
def PtlAt (w : World) (L : List Q2) (vo : Value) (wr : World) : Prop := ∃ (q : Option Addr) (c : Nat), vo = .slice q L.length c ∧ wr.ownsRow w.heap.size 138 2 (.slice q L.length c) L.length (L.flatMap enc2) ∧ Ext w wr
def PtlB (L : List Q2) (w : World) (e : Ending) (w' : World) : Prop := ∃ (q : Option Addr) (c : Nat), e = .returned (.slice q L.length c) ∧ w'.ownsRow w.heap.size 138 2 (.slice q L.length c) L.length (L.flatMap enc2) ∧ Ext w w'
theorem PtlAt.grow {w w2 W' : World} {L : List Q2} {q qa : Option Addr} {c ca : Nat} {x y : Int} (ho : w2.ownsRow w.heap.size 138 2 (.slice q L.length c) L.length (L.flatMap enc2)) (hE : Ext w w2) (o : Obj)
    (ht : W'.ownsRow w.heap.size 138 2 (.slice qa (L.length + 1) ca) (L.length + 1) (L.flatMap enc2 ++ [.int .i64 x, .int .i64 y])) (hg : (w2.alloc o).grownBy W' (Value.slice q L.length c).ownBlock) : PtlAt w (L ++ [⟨x, y⟩]) (.slice qa (L.length + 1) ca) W' := by
  have hl : (L ++ [(⟨x, y⟩ : Q2)]).length = L.length + 1 := by simp
  refine ⟨qa, ca, by rw [hl], ?_, (hE.alloc o).grown hg (fun k hk => (ho.lt k hk).1)⟩
  rw [hl, List.flatMap_append]
  simpa [enc2] using ht
set_option maxRecDepth 100000 in
set_option maxHeartbeats 4000000 in
theorem l33Cells_any (q : Option Addr) (n c : Nat) (l : List Q4) (w : World) (h : SlT enc4 4 w q n l) (hn : n ≤ 3200) (hv : ∀ r ∈ l, vR r = true) :
    Calls Try.prog 84 #[.slice q n c] w (PtlB (cellsP l) w) := by
  have hl := hid h.length
  replace hv := hid hv
  obtain ⟨i0, hi, hz0, hz1, hz2⟩ := info_parts info_Pt
  go_enter Try.func84, Try.ntmps84
  go_upto_region 2 with (fail)
  have ho0 : (w.alloc (.cells #[] 138)).ownsRow w.heap.size 138 2 (.slice (some ⟨w.heap.size, 0, none⟩) 0 0) 0 [] := by
    have := World.ownsRow_made (base := w.heap.size) (e := 138) (size := 2) w #[] 0 (by simp) (by simp [maxLen]) (by simp)
    exact this
  generalize hW : w.alloc _ = W0 at ho0 ⊢
  have E0 : Ext w W0 := by rw [← hW]; exact (Ext.refl _).alloc _
  clear hW
  have hst : PtlAt w [] (.slice (some ⟨w.heap.size, 0, none⟩) 0 0) W0 := ⟨_, _, rfl, ho0, E0⟩
  replace hst := hid hst
  clear ho0 E0
  go_wp2
  go_loopw [3, 4] (fun vo iv wr => ∃ k : Nat, k ≤ n ∧ iv = .int .i64 k ∧ Hid (PtlAt w (cellsP (l.take k)) vo wr)) (fun _ i _ => n - (intOf i).toNat)
  case atStart => exact ⟨0, by omega, rfl, hst⟩
  case round =>
    clear hst
    obtain ⟨k, hk, rfl, hP⟩ := hrel
    by_cases hlt : k < n
    · have hltI : (k : Int) < (n : Int) := by omega
      obtain ⟨b, off, x, e9, hb, hx, z0, z1, z2, z3⟩ := h.four hlt
      subst e9
      have hK : Hid (∀ V, Ext w V → b < V.heap.size ∧ V.cell? ⟨b, off + k * 4, none⟩ = some (.int .i64 x.a) ∧ V.cell? ⟨b, off + k * 4 + 1, none⟩ = some (.int .i64 x.b) ∧ V.cell? ⟨b, off + k * 4 + 2, none⟩ = some (.int .i64 x.c) ∧ V.cell? ⟨b, off + k * 4 + 3, none⟩ = some (.int .i64 x.d)) := fun V hV => ⟨Nat.lt_of_lt_of_le hb hV.le, (hV.cells _ _ hb).trans z0, (hV.cells _ _ hb).trans z1, (hV.cells _ _ hb).trans z2, (hV.cells _ _ hb).trans z3⟩
      clear z0 z1 z2 z3 hb
      have hxv := hid (hv.out x (List.mem_of_getElem? hx.out))
      have hxb := vR_iff.1 hxv.out
      obtain ⟨⟨xa0, xa1, xa2⟩, xb0, xb1, xb2⟩ := hxb
      have hbd : (cellsP (l.take k)).length ≤ 6400 * 3200 := by
        have h1 := cellsP_bd (l.take k) (fun r hr => hv.out r (List.mem_of_mem_take hr))
        have h2 : (l.take k).length ≤ 3200 := by rw [List.length_take]; omega
        omega
      obtain ⟨A, hA⟩ : ∃ A, A = cellsP (l.take k) := ⟨_, rfl⟩
      have hsn := hid (cellsP_snoc hx.out)
      rw [← hA] at hP hbd hsn
      clear hA hx
      obtain ⟨qo, co, rfl, ho, hE⟩ := hP.out
      obtain ⟨hb, z0, z1, z2, z3⟩ := hK.out _ hE
      have hP0 : Hid (PtlAt w (A ++ rectM x 0) (.slice qo A.length co) wr) := by show PtlAt w (A ++ []) _ wr; rw [List.append_nil]; exact hP.out
      clear ho hE hP
      go_wp2_with fail
      go_loopw [3, 5] (fun vo iy wr => ∃ j : Nat, j ≤ (x.d - x.b).toNat ∧ iy = .int .i64 (x.b + j) ∧ Hid (PtlAt w (A ++ rectM x j) vo wr)) (fun _ i _ => (x.d - intOf i).toNat)
      case atStart => exact ⟨0, by omega, by simp, hP0⟩
      case round =>
        clear hP0 z0 z1 z2 z3 hb
        obtain ⟨j, hj, rfl, hP⟩ := hrel
        obtain ⟨qo, co, rfl, ho, hE⟩ := hP.out
        obtain ⟨hb, z0, z1, z2, z3⟩ := hK.out _ hE
        clear ho hE
        by_cases hjl : j < (x.d - x.b).toNat
        · have hjI : x.b + (j : Int) < x.d := by omega
          have hP0 : Hid (PtlAt w (A ++ rectM x j ++ rowC (x.b + j) x.a 0) (.slice qo (A ++ rectM x j).length co) wr) := by show PtlAt w (_ ++ []) _ wr; rw [List.append_nil]; exact hP.out
          have hrs := hid (rectM_succ x j)
          have hrb := rectM_bd hxv.out (m := j) (by omega)
          clear hP
          go_wp2_with fail
          go_loopw [3, 6] (fun vo ix wr => ∃ i : Nat, i ≤ (x.c - x.a).toNat ∧ ix = .int .i64 (x.a + i) ∧ Hid (PtlAt w (A ++ rectM x j ++ rowC (x.b + j) x.a i) vo wr)) (fun _ i _ => (x.c - intOf i).toNat)
          case atStart => exact ⟨0, by omega, by simp, hP0⟩
          case round =>
            clear hP0 z0 z1 z2 z3 hb
            obtain ⟨i, hi9, rfl, hP⟩ := hrel
            obtain ⟨qo, co, rfl, ho, hE⟩ := hP.out
            obtain ⟨hb, z0, z1, z2, z3⟩ := hK.out _ hE
            replace ho := hid ho
            replace hE := hid hE
            have hll : (A ++ rectM x j ++ rowC (x.b + (j : Int)) x.a i).length = A.length + (rectM x j).length + i := by rw [List.length_append, List.length_append, rowC_len]
            obtain ⟨Ls, hLs⟩ : ∃ Ls, Ls = A ++ rectM x j ++ rowC (x.b + (j : Int)) x.a i := ⟨_, rfl⟩
            rw [← hLs] at ho hll ⊢
            have hsc : Hid (A ++ rectM x j ++ rowC (x.b + (j : Int)) x.a (i + 1) = Ls ++ [⟨x.a + i, x.b + j⟩]) := by show _ = _; rw [hLs, rowC_succ, List.append_assoc (A ++ rectM x j)]
            have hLb : Ls.length ≤ 20500000 := by omega
            replace hll := hid hll
            replace hLs := hid hLs
            by_cases hil : i < (x.c - x.a).toNat
            · have hiI : x.a + (i : Int) < x.c := by omega
              have hsz := hE.out.le
              go_wp2_with (at_builtin; refine wpList_append_own_at _ rfl _ _ 97 rfl w.heap.size 138 i0 (.agg #[.int .i64 0, .int .i64 0]) 2 16 Try.underlying97 hi hz0 hz1 hz2 rfl (by omega) _ _ _ rfl (ho.out.alloc _) ⟨_, 0, none⟩ 1 1 [.int .i64 (x.a + i), .int .i64 (x.b + j)] rfl rfl (cells_new wr [.int .i64 (x.a + i), .int .i64 (x.b + j)] 138) (one_int2 _ _) (by unfold maxLen; omega) (by omega) (by simp; omega) ?_; intro v' w6 ho' hg' _ hb'; obtain ⟨qa, ca, rfl⟩ := owns_forms ho'; replace ho' := hid ho'; replace hg' := hid hg')
              go_roundw
              case rel => exact ⟨i + 1, by omega, vint (by omega), by rw [hsc.out]; exact PtlAt.grow ho.out hE.out _ ho'.out hg'.out⟩
              case measure => simp [intOf]; omega
            · have hiI : ¬ x.a + (i : Int) < x.c := by omega
              have hie : i = (x.c - x.a).toNat := by omega
              have hP1 : Hid (PtlAt w (A ++ rectM x (j + 1)) (.slice qo Ls.length co) wr) := by
                show PtlAt _ _ _ _
                rw [hrs.out, ← List.append_assoc, ← hie, ← hLs.out]
                exact ⟨qo, co, rfl, ho.out, hE.out⟩
              clear hie
              go_wp2_with fail
              go_roundw
              case rel => exact ⟨j + 1, by omega, vint (by omega), hP1⟩
              case measure => simp [intOf]; omega
        · have hjI : ¬ x.b + (j : Int) < x.d := by omega
          have hje : j = (x.d - x.b).toNat := by omega
          have hP1 : Hid (PtlAt w (cellsP (l.take (k + 1))) (.slice qo (A ++ rectM x j).length co) wr) := by
            have h9 := hP.out
            show PtlAt _ _ _ _
            rw [hsn.out, rectC, ← hje]
            exact h9
          clear hje
          obtain ⟨vl, hvl⟩ : ∃ vl, vl = (A ++ rectM x j).length := ⟨_, rfl⟩
          rw [← hvl] at hP1 ⊢
          clear hP
          replace hvl := hid hvl
          go_wp2_with fail
          go_roundw
          case rel => exact ⟨k + 1, by omega, by go_num, hP1⟩
          case measure => simp [intOf]; omega
    · have hltI : ¬ (k : Int) < (n : Int) := by omega
      rw [take_all hl.out (by omega)] at hP
      obtain ⟨qo, co, rfl, ho, hE⟩ := hP.out
      replace ho := hid ho
      go_wp2
      go_ret
      exact ⟨qo, co, rfl, ho.out, hE⟩
end Go.Proofs.Ytaigndaabmelhaa
