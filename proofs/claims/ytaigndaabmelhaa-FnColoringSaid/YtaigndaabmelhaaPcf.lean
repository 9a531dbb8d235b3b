/- Contracts of PatternConflicts, of the program and of the reference; the law FnExactPatternConflicts. Condition: at most 2^20 rectangles. -/
import Derived.Test.YtaigndaabmelhaaLpa
import Derived.Test.YtaigndaabmelhaaArm
namespace Go.Proofs.Ytaigndaabmelhaa
open Go.RowKit

def pcR (row : List Bool) (i m : Nat) : List Q2 := (List.range m).flatMap fun (j : Nat) => if row.getD (i + 1 + j) false = true then [⟨(i : Int), ((i + 1 + j : Nat) : Int)⟩] else []
def pcN (T : List (List Bool)) (n m : Nat) : List Q2 := (List.range m).flatMap fun i => pcR (T.getD i []) i (n - (i + 1))
theorem pcR_succ (row : List Bool) (i m : Nat) : pcR row i (m + 1) = pcR row i m ++ if row.getD (i + 1 + m) false = true then [⟨(i : Int), ((i + 1 + m : Nat) : Int)⟩] else [] := by simp [pcR, List.range_succ]
theorem pcN_succ (T : List (List Bool)) (n m : Nat) : pcN T n (m + 1) = pcN T n m ++ pcR (T.getD m []) m (n - (m + 1)) := by simp [pcN, List.range_succ]
theorem pcR_len (row : List Bool) (i m : Nat) : (pcR row i m).length ≤ m := by
  induction m with
  | zero => simp [pcR]
  | succ m ih => rw [pcR_succ, List.length_append]; split <;> simp <;> omega
theorem pcN_len (T : List (List Bool)) {n : Nat} (hn : n ≤ 1000) : ∀ m : Nat, (pcN T n m).length ≤ m * 1000
  | 0 => by simp [pcN]
  | m + 1 => by
    have h1 := pcN_len T hn m
    have h2 := pcR_len (T.getD m []) m (n - (m + 1))
    rw [pcN_succ, List.length_append]; omega
/-- A list of pairs of the call's own. -/
def PrAt (w : World) (L : List Q2) (vo : Value) (wr : World) : Prop := ∃ (q : Option Addr) (c : Nat), vo = .slice q L.length c ∧ wr.ownsRow w.heap.size 46 2 (.slice q L.length c) L.length (L.flatMap enc2) ∧ Ext w wr
def PairB (L : List Q2) (C : Int) (w : World) (e : Ending) (w' : World) : Prop := ∃ (q : Option Addr) (c : Nat), e = .returned (.tuple #[.slice q L.length c, .int .i64 C]) ∧ w'.ownsRow w.heap.size 46 2 (.slice q L.length c) L.length (L.flatMap enc2) ∧ Ext w w'
theorem PrAt.grow {w w2 W' : World} {L : List Q2} {q qa : Option Addr} {c ca : Nat} {x y : Int} (ho : w2.ownsRow w.heap.size 46 2 (.slice q L.length c) L.length (L.flatMap enc2)) (hE : Ext w w2) (o : Obj)
    (ht : W'.ownsRow w.heap.size 46 2 (.slice qa (L.length + 1) ca) (L.length + 1) (L.flatMap enc2 ++ [.int .i64 x, .int .i64 y])) (hg : (w2.alloc o).grownBy W' (Value.slice q L.length c).ownBlock) : PrAt w (L ++ [⟨x, y⟩]) (.slice qa (L.length + 1) ca) W' := by
  have hl : (L ++ [(⟨x, y⟩ : Q2)]).length = L.length + 1 := by simp
  refine ⟨qa, ca, by rw [hl], ?_, (hE.alloc o).grown hg (fun k hk => (ho.lt k hk).1)⟩
  rw [hl, List.flatMap_append]
  simpa [enc2] using ht
theorem info_Cp : (Try.prog.info? 46).map (fun i => (i.zero, i.size, i.bytes)) = some (some (.agg #[.int .i64 0, .int .i64 0]), 2, 16) := by kernel_rfl
theorem tabL_rows (L : List (List Q4)) (s : Int) : ∀ r ∈ tabL L s, r.length = L.length := by
  intro r hr
  rw [tabL, tabN, List.mem_map] at hr
  obtain ⟨i, _, rfl⟩ := hr
  exact tabR_len _ _ _ _
/-- What PatternConflicts hands back. -/
def pcL (l : List Q4) (s : Int) : List Q2 := pcN (tabL (ptL l s) s) (ptL l s).length (ptL l s).length
theorem pcL_len (l : List Q4) (s : Int) : (pcL l s).length ≤ 1048576 := by
  have h1 := ptL_len l s
  have h2 := pcN_len (tabL (ptL l s) s) (n := (ptL l s).length) (by omega) (ptL l s).length
  rw [pcL]; omega
theorem pcL_no {l : List Q4} {s : Int} (h : ¬ ptC l s = 0) : pcL l s = [] := by
  have : ptL l s = [] := by rw [ptL, if_neg h]
  rw [pcL, this]; rfl
set_option maxRecDepth 100000 in
set_option maxHeartbeats 8000000 in
theorem PatternConflicts_any (q : Option Addr) (n c : Nat) (l : List Q4) (s : Int) (w : World) (h : SlT enc4 4 w q n l) (hn : n ≤ 1048576) :
    Calls Try.prog 26 #[.slice q n c, .int .i64 s] w (PairB (pcL l s) (ptC l s) w) := by
  have hp := hid (patternTable_any q n c l s w h hn)
  have hpl := ptL_len l s
  obtain ⟨i0, hi, hz0, hz1, hz2⟩ := info_parts info_Cp
  by_cases h0 : ptC l s = 0
  · have hrows := hid (tabL_rows (ptL l s) s)
    have hLl := hid (tabL_len (ptL l s) s)
    obtain ⟨T, hT⟩ : ∃ T, T = tabL (ptL l s) s := ⟨_, rfl⟩
    obtain ⟨m, hm⟩ : ∃ m, m = (ptL l s).length := ⟨_, rfl⟩
    have hpc : Hid (pcL l s = pcN T m m) := by show _ = _; rw [pcL, hT, hm]
    rw [← hT, ← hm] at hrows hLl
    go_enter Try.func26, Try.ntmps26
    go_wp2_with fail
    refine hp.out.mono ?_
    rintro e w1 ⟨q1, c1, q2, c2, rfl, r1, r2, E1⟩
    rw [h0]
    rw [← hm] at r1 r2 hpl ⊢
    rw [← hT] at r2
    have r2 := hid r2
    replace E1 := hid E1
    replace hT := hid hT
    replace hm := hid hm
    replace h0 := hid h0
    clear r1
    go_upto_region 5 with (fail)
    have ho0 : (w1.alloc (.cells #[] 46)).ownsRow w1.heap.size 46 2 (.slice (some ⟨w1.heap.size, 0, none⟩) 0 0) 0 [] := by
      have := World.ownsRow_made (base := w1.heap.size) (e := 46) (size := 2) w1 #[] 0 (by simp) (by simp [maxLen]) (by simp)
      exact this
    have hst : Hid (PrAt w1 (pcN T m 0) (.slice (some ⟨w1.heap.size, 0, none⟩) 0 0) (w1.alloc (.cells #[] 46))) := ⟨_, _, rfl, ho0, (Ext.refl _).alloc _⟩
    clear ho0
    go_wp2_with fail
    go_loopw [9, 26] (fun vo iv wr => ∃ k : Nat, k ≤ m ∧ iv = .int .i64 k ∧ Hid (PrAt w1 (pcN T m k) vo wr)) (fun _ i _ => m - (intOf i).toNat)
    case atStart => exact ⟨0, by omega, rfl, hst⟩
    case round =>
      clear hst
      obtain ⟨k, hk, rfl, hP⟩ := hrel
      rename World => wo
      by_cases hlt : k < m
      · have hltI : (k : Int) < (m : Int) := by omega
        obtain ⟨b, off, q3, n3, c3, row, rfl, hb, hrow, z, t3⟩ := r2.out.get hlt
        have hn3 : n3 = m := by rw [← t3.length]; exact hrows.out row (List.mem_of_getElem? hrow.out)
        subst hn3
        have hK : Hid (∀ V, Ext w1 V → b < V.heap.size ∧ V.cell? ⟨b, off + k, none⟩ = some (.slice q3 n3 c3) ∧ SlT encb 1 V q3 n3 row) := fun V hV => ⟨Nat.lt_of_lt_of_le hb hV.le, (hV.cells _ _ hb).trans z, t3.ext hV⟩
        have hsn : Hid (pcN T n3 (k + 1) = pcN T n3 k ++ pcR row k (n3 - (k + 1))) := by show _ = _; rw [pcN_succ, getD_of hrow.out]
        have hbd := pcN_len T (n := n3) (by omega) k
        obtain ⟨A, hA⟩ : ∃ A, A = pcN T n3 k := ⟨_, rfl⟩
        rw [← hA] at hP hsn hbd
        replace hA := hid hA
        obtain ⟨qo, co, rfl, ho, hEo⟩ := hP.out
        have hP0 : Hid (PrAt w1 (A ++ pcR row k 0) (.slice qo A.length co) wo) := by show PrAt w1 (A ++ []) _ wo; rw [List.append_nil]; exact hP.out
        replace z := (hK.out _ hEo).2.1
        replace hb := (hK.out _ hEo).1
        clear ho hEo hP t3
        go_wp2_with fail
        go_loopw [9, 12] (fun vo ik wr => ∃ j : Nat, j ≤ n3 - (k + 1) ∧ ik = .int .i64 ((k + 1 + j : Nat) : Int) ∧ Hid (PrAt w1 (A ++ pcR row k j) vo wr)) (fun _ i _ => n3 - (intOf i).toNat)
        case atStart => exact ⟨0, by omega, by go_num, hP0⟩
        case round =>
          clear hP0 z hb
          obtain ⟨j, hj, rfl, hP⟩ := hrel
          obtain ⟨qo, co, rfl, ho, hEo⟩ := hP.out
          obtain ⟨hb, z, t3⟩ := hK.out _ hEo
          obtain ⟨x, hx⟩ : ∃ x : Nat, x = k + 1 + j := ⟨_, rfl⟩
          have hrs := hid (pcR_succ row k j)
          have hrl := pcR_len row k j
          obtain ⟨Ls, hLs⟩ : ∃ Ls, Ls = A ++ pcR row k j := ⟨_, rfl⟩
          have hLl2 : Ls.length = A.length + (pcR row k j).length := by rw [hLs, List.length_append]
          have hLb : Ls.length ≤ 100000 := by omega
          rw [← hLs] at hP ho ⊢
          rw [← hx] at hrs ⊢
          have hsc : Hid (A ++ pcR row k (j + 1) = Ls ++ if row.getD x false = true then [⟨(k : Int), (x : Int)⟩] else []) := by show _ = _; rw [hrs.out, ← List.append_assoc, hLs]
          have hLs2 := hid hLs
          replace hLl2 := hid hLl2
          replace ho := hid ho
          replace hEo := hid hEo
          clear hLs hrs hrl
          by_cases hjl : j < n3 - (k + 1)
          · have hxl : x < n3 := by omega
            have hxI : (x : Int) < (n3 : Int) := by omega
            have hx1 : (x : Int) + 1 = ((k + 1 + (j + 1) : Nat) : Int) := by omega
            have hme : n3 - (k + 1 + (j + 1)) < n3 - x := by omega
            replace hx1 := hid hx1
            replace hx := hid hx
            obtain ⟨b3, o3, fb, rfl, hb3, hfb, z3⟩ := t3.flag hxl
            have hgd := hid (getD_of (d := false) hfb.out)
            clear t3
            cases fb with
            | false =>
              have hn : Hid (PrAt w1 (A ++ pcR row k (j + 1)) (.slice qo Ls.length co) wr) := by
                show PrAt _ _ _ _
                rw [hsc.out, hgd.out, if_neg (by simp), List.append_nil]
                exact hP.out
              clear hP
              go_wp2_with fail
              go_roundw
              case rel => exact ⟨j + 1, by omega, vint hx1.out, hn⟩
              case measure => simp [intOf]; omega
            | true =>
              have hsz := hEo.out.le
              rw [hgd.out, if_pos rfl] at hsc
              go_wp2_with (at_builtin; refine wpList_append_own_at _ rfl _ _ 38 rfl w1.heap.size 46 i0 (.agg #[.int .i64 0, .int .i64 0]) 2 16 Try.underlying38 hi hz0 hz1 hz2 rfl (by omega) _ _ _ rfl (ho.out.alloc _) ⟨_, 0, none⟩ 1 1 [.int .i64 k, .int .i64 x] rfl rfl (cells_new wr [.int .i64 k, .int .i64 x] 46) (one_int2 _ _) (len_le (by omega) (by omega)) (by omega) (by simp; omega) ?_; intro v' w6 ho' hg' _ hb'; obtain ⟨qa, ca, rfl⟩ := owns_forms ho'; replace ho' := hid ho'; replace hg' := hid hg')
              go_roundw
              case rel => exact ⟨j + 1, by omega, vint hx1.out, by rw [hsc.out]; exact PrAt.grow ho.out hEo.out _ ho'.out hg'.out⟩
              case measure => simp [intOf]; omega
          · have hxI : ¬ (x : Int) < (n3 : Int) := by omega
            have hje : j = n3 - (k + 1) := by omega
            have hn : Hid (PrAt w1 (pcN T n3 (k + 1)) (.slice qo Ls.length co) wr) := by
              show PrAt _ _ _ _
              rw [hsn.out, ← hje, ← hLs2.out]
              exact hP.out
            replace hx := hid hx
            clear hje hP
            go_wp2_with fail
            go_roundw
            case rel => exact ⟨k + 1, by omega, by go_num, hn⟩
            case measure => simp [intOf]; omega
      · have hltI : ¬ (k : Int) < (m : Int) := by omega
        have hkm : k = m := by omega
        rw [hkm] at hP
        replace hkm := hid hkm
        obtain ⟨qo, co, rfl, ho, hEo⟩ := hP.out
        replace ho := hid ho
        go_wp2_with fail
        go_ret2
        rw [PairB, hpc.out, h0.out]
        exact ⟨qo, co, rfl, owns_lowP ho.out E1.out.le, E1.out.trans hEo⟩
  · have hB2 : (ptC l s == 0) = false := by simpa using h0
    have hB3 : (ptC l s != 0) = true := by simp [h0]
    have hpc := hid (pcL_no h0)
    obtain ⟨C, hC⟩ : ∃ C, C = ptC l s := ⟨_, rfl⟩
    rw [← hC] at h0 hB2 hB3
    go_enter Try.func26, Try.ntmps26
    go_wp2_with fail
    refine hp.out.mono ?_
    rintro e w1 ⟨q1, c1, q2, c2, rfl, r1, r2, E1⟩
    rw [← hC]
    replace hC := hid hC
    replace r1 := hid r1
    replace r2 := hid r2
    go_wp2_with fail
    go_ret2
    rw [PairB, hpc.out, ← hC.out]
    exact ⟨none, 0, rfl, World.ownsRow_nil _ _ _ _, E1⟩
set_option maxRecDepth 100000 in
set_option maxHeartbeats 8000000 in
theorem specPatternConflicts_any (q : Option Addr) (n c : Nat) (l : List Q4) (s : Int) (w : World) (h : SlT enc4 4 w q n l) (hn : n ≤ 1048576) :
    Calls Try.prog 39 #[.slice q n c, .int .i64 s] w (PairB (pcL l s) (ptC l s) w) := by
  have hp := hid (l33Parts_any q n c l s w h hn)
  have hpl := ptL_len l s
  obtain ⟨i0, hi, hz0, hz1, hz2⟩ := info_parts info_Cp
  by_cases h0 : ptC l s = 0
  · have hrows := hid (tabL_rows (ptL l s) s)
    have hLl := hid (tabL_len (ptL l s) s)
    obtain ⟨T, hT⟩ : ∃ T, T = tabL (ptL l s) s := ⟨_, rfl⟩
    obtain ⟨m, hm⟩ : ∃ m, m = (ptL l s).length := ⟨_, rfl⟩
    have hpc : Hid (pcL l s = pcN T m m) := by show _ = _; rw [pcL, hT, hm]
    rw [← hT, ← hm] at hrows hLl
    go_enter Try.func39, Try.ntmps39
    go_wp2_with fail
    refine hp.out.mono ?_
    rintro e w1 ⟨q1, c1, q2, c2, rfl, r1, r2, E1⟩
    rw [h0]
    rw [← hm] at r1 r2 hpl ⊢
    rw [← hT] at r2
    have r2 := hid r2
    replace E1 := hid E1
    replace hT := hid hT
    replace hm := hid hm
    replace h0 := hid h0
    clear r1
    go_upto_region 5 with (fail)
    have ho0 : (w1.alloc (.cells #[] 46)).ownsRow w1.heap.size 46 2 (.slice (some ⟨w1.heap.size, 0, none⟩) 0 0) 0 [] := by
      have := World.ownsRow_made (base := w1.heap.size) (e := 46) (size := 2) w1 #[] 0 (by simp) (by simp [maxLen]) (by simp)
      exact this
    have hst : Hid (PrAt w1 (pcN T m 0) (.slice (some ⟨w1.heap.size, 0, none⟩) 0 0) (w1.alloc (.cells #[] 46))) := ⟨_, _, rfl, ho0, (Ext.refl _).alloc _⟩
    clear ho0
    go_wp2_with fail
    go_loopw [9, 10] (fun vo iv wr => ∃ k : Nat, k ≤ m ∧ iv = .int .i64 k ∧ Hid (PrAt w1 (pcN T m k) vo wr)) (fun _ i _ => m - (intOf i).toNat)
    case atStart => exact ⟨0, by omega, rfl, hst⟩
    case round =>
      clear hst
      obtain ⟨k, hk, rfl, hP⟩ := hrel
      rename World => wo
      by_cases hlt : k < m
      · have hltI : (k : Int) < (m : Int) := by omega
        obtain ⟨b, off, q3, n3, c3, row, rfl, hb, hrow, z, t3⟩ := r2.out.get hlt
        have hn3 : n3 = m := by rw [← t3.length]; exact hrows.out row (List.mem_of_getElem? hrow.out)
        subst hn3
        have hK : Hid (∀ V, Ext w1 V → b < V.heap.size ∧ V.cell? ⟨b, off + k, none⟩ = some (.slice q3 n3 c3) ∧ SlT encb 1 V q3 n3 row) := fun V hV => ⟨Nat.lt_of_lt_of_le hb hV.le, (hV.cells _ _ hb).trans z, t3.ext hV⟩
        have hsn : Hid (pcN T n3 (k + 1) = pcN T n3 k ++ pcR row k (n3 - (k + 1))) := by show _ = _; rw [pcN_succ, getD_of hrow.out]
        have hbd := pcN_len T (n := n3) (by omega) k
        obtain ⟨A, hA⟩ : ∃ A, A = pcN T n3 k := ⟨_, rfl⟩
        rw [← hA] at hP hsn hbd
        replace hA := hid hA
        obtain ⟨qo, co, rfl, ho, hEo⟩ := hP.out
        have hP0 : Hid (PrAt w1 (A ++ pcR row k 0) (.slice qo A.length co) wo) := by show PrAt w1 (A ++ []) _ wo; rw [List.append_nil]; exact hP.out
        replace z := (hK.out _ hEo).2.1
        replace hb := (hK.out _ hEo).1
        clear ho hEo hP t3
        go_wp2_with fail
        go_loopw [9, 11] (fun vo ik wr => ∃ j : Nat, j ≤ n3 - (k + 1) ∧ ik = .int .i64 ((k + 1 + j : Nat) : Int) ∧ Hid (PrAt w1 (A ++ pcR row k j) vo wr)) (fun _ i _ => n3 - (intOf i).toNat)
        case atStart => exact ⟨0, by omega, by go_num, hP0⟩
        case round =>
          clear hP0 z hb
          obtain ⟨j, hj, rfl, hP⟩ := hrel
          obtain ⟨qo, co, rfl, ho, hEo⟩ := hP.out
          obtain ⟨hb, z, t3⟩ := hK.out _ hEo
          obtain ⟨x, hx⟩ : ∃ x : Nat, x = k + 1 + j := ⟨_, rfl⟩
          have hrs := hid (pcR_succ row k j)
          have hrl := pcR_len row k j
          obtain ⟨Ls, hLs⟩ : ∃ Ls, Ls = A ++ pcR row k j := ⟨_, rfl⟩
          have hLl2 : Ls.length = A.length + (pcR row k j).length := by rw [hLs, List.length_append]
          have hLb : Ls.length ≤ 100000 := by omega
          rw [← hLs] at hP ho ⊢
          rw [← hx] at hrs ⊢
          have hsc : Hid (A ++ pcR row k (j + 1) = Ls ++ if row.getD x false = true then [⟨(k : Int), (x : Int)⟩] else []) := by show _ = _; rw [hrs.out, ← List.append_assoc, hLs]
          have hLs2 := hid hLs
          replace hLl2 := hid hLl2
          replace ho := hid ho
          replace hEo := hid hEo
          clear hLs hrs hrl
          by_cases hjl : j < n3 - (k + 1)
          · have hxl : x < n3 := by omega
            have hxI : (x : Int) < (n3 : Int) := by omega
            have hx1 : (x : Int) + 1 = ((k + 1 + (j + 1) : Nat) : Int) := by omega
            have hme : n3 - (k + 1 + (j + 1)) < n3 - x := by omega
            replace hx1 := hid hx1
            replace hx := hid hx
            obtain ⟨b3, o3, fb, rfl, hb3, hfb, z3⟩ := t3.flag hxl
            have hgd := hid (getD_of (d := false) hfb.out)
            clear t3
            cases fb with
            | false =>
              have hn : Hid (PrAt w1 (A ++ pcR row k (j + 1)) (.slice qo Ls.length co) wr) := by
                show PrAt _ _ _ _
                rw [hsc.out, hgd.out, if_neg (by simp), List.append_nil]
                exact hP.out
              clear hP
              go_wp2_with fail
              go_roundw
              case rel => exact ⟨j + 1, by omega, vint hx1.out, hn⟩
              case measure => simp [intOf]; omega
            | true =>
              have hsz := hEo.out.le
              rw [hgd.out, if_pos rfl] at hsc
              go_wp2_with (at_builtin; refine wpList_append_own_at _ rfl _ _ 38 rfl w1.heap.size 46 i0 (.agg #[.int .i64 0, .int .i64 0]) 2 16 Try.underlying38 hi hz0 hz1 hz2 rfl (by omega) _ _ _ rfl (ho.out.alloc _) ⟨_, 0, none⟩ 1 1 [.int .i64 k, .int .i64 x] rfl rfl (cells_new wr [.int .i64 k, .int .i64 x] 46) (one_int2 _ _) (len_le (by omega) (by omega)) (by omega) (by simp; omega) ?_; intro v' w6 ho' hg' _ hb'; obtain ⟨qa, ca, rfl⟩ := owns_forms ho'; replace ho' := hid ho'; replace hg' := hid hg')
              go_roundw
              case rel => exact ⟨j + 1, by omega, vint hx1.out, by rw [hsc.out]; exact PrAt.grow ho.out hEo.out _ ho'.out hg'.out⟩
              case measure => simp [intOf]; omega
          · have hxI : ¬ (x : Int) < (n3 : Int) := by omega
            have hje : j = n3 - (k + 1) := by omega
            have hn : Hid (PrAt w1 (pcN T n3 (k + 1)) (.slice qo Ls.length co) wr) := by
              show PrAt _ _ _ _
              rw [hsn.out, ← hje, ← hLs2.out]
              exact hP.out
            replace hx := hid hx
            clear hje hP
            go_wp2_with fail
            go_roundw
            case rel => exact ⟨k + 1, by omega, by go_num, hn⟩
            case measure => simp [intOf]; omega
      · have hltI : ¬ (k : Int) < (m : Int) := by omega
        have hkm : k = m := by omega
        rw [hkm] at hP
        replace hkm := hid hkm
        obtain ⟨qo, co, rfl, ho, hEo⟩ := hP.out
        replace ho := hid ho
        go_wp2_with fail
        go_ret2
        rw [PairB, hpc.out, h0.out]
        exact ⟨qo, co, rfl, owns_lowP ho.out E1.out.le, E1.out.trans hEo⟩
  · have hB2 : (ptC l s == 0) = false := by simpa using h0
    have hB3 : (ptC l s != 0) = true := by simp [h0]
    have hpc := hid (pcL_no h0)
    obtain ⟨C, hC⟩ : ∃ C, C = ptC l s := ⟨_, rfl⟩
    rw [← hC] at h0 hB2 hB3
    go_enter Try.func39, Try.ntmps39
    go_wp2_with fail
    refine hp.out.mono ?_
    rintro e w1 ⟨q1, c1, q2, c2, rfl, r1, r2, E1⟩
    rw [← hC]
    replace hC := hid hC
    replace r1 := hid r1
    replace r2 := hid r2
    go_wp2_with fail
    go_ret2
    rw [PairB, hpc.out, ← hC.out]
    exact ⟨none, 0, rfl, World.ownsRow_nil _ _ _ _, E1⟩
set_option maxRecDepth 100000 in
set_option maxHeartbeats 4000000 in
theorem lawPatternConflicts (q0 : Option Addr) (n0 c0 : Nat) (l0 : List Q4) (a1 : Int) (R0 : List Q2) (N0 : Nat) (s1 : Int) (w : World) (h0 : SlT enc4 4 w q0 n0 l0) (m0 : n0 ≤ maxLen) (hR0 : R0.length = N0) (hN0 : N0 ≤ 1048576)
    (hS : Hid (n0 ≤ 1048576 → ∀ (W : World) (q0 : Option Addr) (c0 : Nat), SlT enc4 4 W q0 n0 l0 → Calls Try.prog 39 #[.slice q0 n0 c0, .int .i64 a1] W fun e w' => ∃ p0 d0, e = .returned (.tuple #[.slice p0 N0 d0, .int .i64 s1]) ∧ w'.ownsRow W.heap.size 46 2 (.slice p0 N0 d0) N0 (R0.flatMap enc2) ∧ Ext W w'))
    (hI : Hid (n0 ≤ 1048576 → ∀ (W : World) (q0 : Option Addr) (c0 : Nat), SlT enc4 4 W q0 n0 l0 → Calls Try.prog 26 #[.slice q0 n0 c0, .int .i64 a1] W fun e w' => ∃ p0 d0, e = .returned (.tuple #[.slice p0 N0 d0, .int .i64 s1]) ∧ w'.ownsRow W.heap.size 46 2 (.slice p0 N0 d0) N0 (R0.flatMap enc2) ∧ Ext W w')) :
    Calls Try.prog 8 #[.slice q0 n0 c0, .int .i64 a1] w fun e w' => e = .returned (.bool true) ∧ Ext w w' := by
  have e0 := hid h0.length
  unfold maxLen at m0
  replace hR0 := hid hR0
  by_cases x0 : 1048576 < (n0 : Int)
  · go_enter Try.func8, Try.ntmps8
    go_wp2_with fail
    refine (szRectS_any q0 n0 c0 _ _ (by omega) (by omega) (by omega)).mono ?_
    rintro e w' ⟨rfl, rfl⟩
    rw [if_pos (by omega)]
    go_wp2_with fail
    go_ret
    exact ⟨rfl, Ext.refl _⟩
  go_enter Try.func8, Try.ntmps8
  go_wp2_with fail
  refine (szRectS_any q0 n0 c0 _ _ (by omega) (by omega) (by omega)).mono ?_
  rintro e w' ⟨rfl, rfl⟩
  rw [if_neg (by omega)]
  have y0 := x0
  replace x0 : n0 ≤ 1048576 := by omega
  clear y0
  have F := Ext.refl w
  go_wp2_with fail
  refine (toRectS_any _ n0 _ l0 _ (h0.ext F) (by omega)).mono ?_
  rintro e w1 ⟨t0, rfl, ot0, E⟩
  replace F := F.trans E
  clear E
  go_wp2_with fail
  refine (hS.out x0 _ _ _ (SlT.of_owns enc4_len e0.out ot0)).mono ?_
  rintro e w2 ⟨u0, v0, rfl, os0, E⟩
  replace F := F.trans E
  clear E ot0
  have ss0 := SlT.of_owns (l := R0) enc2_len hR0.out os0
  clear os0
  have F0 := F
  have S := Ext.refl w2
  go_wp2_with fail
  refine (toRectS_any _ n0 _ l0 _ (h0.ext F) (by omega)).mono ?_
  rintro e w3 ⟨x0q, rfl, ox0, E⟩
  replace F := F.trans E
  replace S := S.trans E
  have zx0 := E.le
  clear E
  go_wp2_with fail
  refine (hI.out x0 _ _ _ (SlT.of_owns enc4_len e0.out ox0)).mono ?_
  rintro e w4 ⟨g0, k0, rfl, og0, E⟩
  have zI := E.le
  have zo0 := owns_ge ox0
  replace F := F.trans E
  replace S := S.trans E
  replace ox0 := owns_ext ox0 E
  clear E
  have zg0 := owns_ge og0
  go_wp2_with fail
  refine (eqConflictPairS_same _ _ _ _ _ R0 _ (SlT.of_owns (l := R0) enc2_len hR0.out og0) (ss0.ext S) (by omega)).mono ?_
  rintro e w5 ⟨rfl, E⟩
  replace F := F.trans E
  replace S := S.trans E
  replace ox0 := owns_ext ox0 E
  replace og0 := owns_ext og0 E
  clear E
  go_wp2_with fail
  refine (toRectS_any _ n0 _ l0 _ (h0.ext F) (by omega)).mono ?_
  rintro e w6 ⟨y0q, rfl, oy0, E⟩
  replace F := F.trans E
  replace S := S.trans E
  replace ox0 := owns_ext ox0 E
  replace og0 := owns_ext og0 E
  clear E
  go_wp2_with fail
  refine (eqRectS_same _ _ _ _ _ l0 _ (SlT.of_owns enc4_len e0.out ox0) (SlT.of_owns enc4_len e0.out oy0) (by omega)).mono ?_
  rintro e w7 ⟨rfl, E⟩
  replace F := F.trans E
  replace S := S.trans E
  replace ox0 := owns_ext ox0 E
  replace og0 := owns_ext og0 E
  clear E oy0
  go_wp2_with fail
  refine (markRectS_any x0q n0 n0 _ _ _ _ _ ox0 (by omega) (by omega) (by omega)).mono ?_
  rintro e w8 ⟨rfl, ox0m, M⟩
  clear ox0 ox0m
  have S2 := S.then M (fun k hk => by have := (zo0 k hk).1; omega)
  replace F := F0.trans S2
  replace og0 := M.grownBy (fun g hg hh => by have h5 := (og0.lt g hg).1; have h6 := (zo0 g hh).2; omega) og0
  replace S := S2
  clear S2 M
  have hkp : ¬ ((1 : Int) + n0 * 4 < 0) := by omega
  go_wp2_with fail
  refine (eqConflictPairS_same _ _ _ _ _ R0 _ (SlT.of_owns (l := R0) enc2_len hR0.out og0) (ss0.ext S) (by omega)).mono ?_
  rintro e w9 ⟨rfl, E⟩
  replace F := F.trans E
  replace S := S.trans E
  replace og0 := owns_ext og0 E
  clear E
  go_wp2_with fail
  refine (markConflictPairS_any g0 N0 k0 _ _ _ _ _ og0 (by omega) (by omega) (by omega)).mono ?_
  rintro e w10 ⟨rfl, om0, M⟩
  have S2 := S.then M (fun k hk => by have := (zg0 k hk).1; omega)
  replace F := F0.trans S2
  replace S := S2
  clear S2 M
  have hq0 : ¬ ((1 : Int) + (N0 : Int) * 2 < 0) := by omega
  go_wp2_with fail
  refine (heldConflictPairS_any g0 N0 k0 _ _ _ _ om0 (by omega) (by omega) (by omega)).mono ?_
  rintro e w' ⟨rfl, rfl⟩
  go_wp2_with fail
  refine (toRectS_any _ n0 _ l0 _ (h0.ext F) (by omega)).mono ?_
  rintro e w11 ⟨r0, rfl, or0, E⟩
  replace F := F.trans E
  replace S := S.trans E
  replace om0 := owns_ext om0 E
  clear E
  go_wp2_with fail
  refine (hI.out x0 _ _ _ (SlT.of_owns enc4_len e0.out or0)).mono ?_
  rintro e w12 ⟨b0, j0, rfl, oh0, E⟩
  replace F := F.trans E
  replace S := S.trans E
  replace om0 := owns_ext om0 E
  clear E or0
  go_wp2_with fail
  refine (eqConflictPairS_same _ _ _ _ _ R0 _ (SlT.of_owns (l := R0) enc2_len hR0.out oh0) (ss0.ext S) (by omega)).mono ?_
  rintro e w13 ⟨rfl, E⟩
  replace F := F.trans E
  replace S := S.trans E
  replace om0 := owns_ext om0 E
  replace oh0 := owns_ext oh0 E
  clear E
  go_wp2_with fail
  refine (heldConflictPairS_any g0 N0 k0 _ _ _ _ om0 (by omega) (by omega) (by omega)).mono ?_
  rintro e w' ⟨rfl, rfl⟩
  go_wp2_with fail
  go_ret
  exact ⟨rfl, F⟩
theorem exactPatternConflicts_any (q : Option Addr) (n c : Nat) (l : List Q4) (s : Int) (w : World) (h : SlT enc4 4 w q n l) (hm : n ≤ maxLen) :
    Calls Try.prog 8 #[.slice q n c, .int .i64 s] w fun e w' => e = .returned (.bool true) ∧ Ext w w' :=
  lawPatternConflicts q n c l s (pcL l s) (pcL l s).length (ptC l s) w h hm rfl (pcL_len l s) (hid fun hn W q c hW => specPatternConflicts_any q n c l s W hW hn) (hid fun hn W q c hW => PatternConflicts_any q n c l s W hW hn)
end Go.Proofs.Ytaigndaabmelhaa
