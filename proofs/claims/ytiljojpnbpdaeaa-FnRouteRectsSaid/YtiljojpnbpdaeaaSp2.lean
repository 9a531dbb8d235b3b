/- Contracts: lists of rectangles compared (slices.Equal, l03Same), lists of int64s compared (l03Equal), valid lists (validRects, l03Valid). Condition: at most 2^20 elements. -/
import Derived.Test.YtiljojpnbpdaeaaRg3
import Derived.Laws.StructEq
namespace Go.Proofs.Ytiljojpnbpdaeaa
open Go.RowKit

def V4 (x : Q4) : Value := .agg #[.int .i64 x.a, .int .i64 x.b, .int .i64 x.c, .int .i64 x.d]
theorem eq4 (x y : Q4) (w : World) : (Op.equalIn 10000 49 (V4 x) (V4 y)).run Try.prog w = .ok (decide (x = y)) w := by
  have u := Try.underlying2
  have a := Try.isAgg2
  have z := Try.sizeOf2
  have hS : Try.prog.underlying 49 = some (.struct (Try.prog.fieldsOf 49)) := by kernel_rfl
  rw [show (10000 : Nat) = 9999 + 1 from rfl, V4, V4, run_equalIn_agg w 9999 _ _ _ hS Try.stoodInHeld49]
  simp only [Program.fieldsOf, Try.underlying49]
  go_simp
  have hd : decide (x = y) = (x.a == y.a && x.b == y.b && x.c == y.c && x.d == y.d) := by
    rw [Bool.eq_iff_iff]; cases x; cases y; simp [and_assoc]
  rw [hd]
  by_cases h1 : x.a = y.a <;> by_cases h2 : x.b = y.b <;> by_cases h3 : x.c = y.c <;> by_cases h4 : x.d = y.d <;> simp [h1, h2, h3, h4]
theorem guard4 : Try.prog.eqGuardType Try.prog.depth 49 = false := by kernel_rfl
section
variable {C : World → Prop} {a : Act} {o : Oper} {K : Act → Prop}
theorem quiet_neq4 (t' : TypeId) (x y : Operand) (h : o.op = .binOp .neq 49 x y t') (p q : Q4) (hx : a.eval x = V4 p) (hy : a.eval y = V4 q) (r : Bool) (hr : (!decide (p = q)) = r) (hk : K (a.put o.dst (.bool r))) : o.quiet Try.prog a C K :=
  ⟨_, fun w _ => by
    unfold Oper.quietAt execOp
    have h1 := eq4 p q w
    unfold V4 at h1 hx hy
    simp only [h, hx, hy, Sem.run_bind, run_eqGuard_agg w .neq _ x y _ _ guard4, Result.andThen_ok, run_neq_struct, h1, hr, Sem.run_pure]
    exact ⟨rfl, rfl⟩, hk⟩
end
/-- Equal so far. -/
def SameTo {α : Type} (k : Nat) (l m : List α) : Prop := ∀ i, i < k → l[i]? = m[i]?
theorem SameTo.all {α : Type} {k : Nat} {l m : List α} (h : SameTo k l m) (hl : l.length ≤ k) (hm : m.length ≤ k) : l = m := by
  apply List.ext_getElem?
  intro i
  rcases Nat.lt_or_ge i k with h' | h'
  · exact h i h'
  · rw [List.getElem?_eq_none (by omega), List.getElem?_eq_none (by omega)]
theorem SameTo.go {α : Type} {k : Nat} {l m : List α} {x : α} (h : SameTo k l m) (hl : l[k]? = some x) (hm : m[k]? = some x) : SameTo (k + 1) l m := fun i hi => by
  by_cases he : i = k
  · rw [he, hl, hm]
  · exact h i (by omega)
theorem differ {α : Type} {k : Nat} {l m : List α} {x y : α} (hl : l[k]? = some x) (hm : m[k]? = some y) (h : x ≠ y) : l ≠ m := fun e => by
  rw [e, hm] at hl; exact h (Option.some.inj hl.symm)
set_option maxRecDepth 100000 in
set_option maxHeartbeats 4000000 in
theorem slicesEqual_any (p1 p2 : Option Addr) (n m k1 k2 : Nat) (l l' : List Q4) (w : World) (h1 : SlT enc4 4 w p1 n l) (h2 : SlT enc4 4 w p2 m l') (hn : n ≤ 1048576) (hm : m ≤ 1048576) :
    Calls Try.prog 118 #[.slice p1 n k1, .slice p2 m k2] w fun e w' => e = .returned (.bool (decide (l = l'))) ∧ Ext w w' := by
  have hl := hid h1.length
  have hl' := hid h2.length
  by_cases hnm : n = m
  · subst hnm
    go_enter Try.func118, Try.ntmps118
    go_wp2
    go_loopw [13] (fun i wr => ∃ k : Nat, k ≤ n ∧ i = .int .i64 k ∧ Hid (SameTo k l l') ∧ Ext w wr) (fun i _ => n - (intOf i).toNat)
    case atStart => exact ⟨0, by omega, rfl, (fun i hi => by omega), Ext.refl _⟩
    case round =>
      obtain ⟨k, hk, rfl, hS, hE⟩ := hrel
      by_cases hlt : k < n
      · obtain ⟨b, off, x, rfl, hb, hx, c0, c1, c2, c3⟩ := (h1.ext hE).four hlt
        obtain ⟨b', off', x', rfl, hb', hx', d0, d1, d2, d3⟩ := (h2.ext hE).four hlt
        have hkI : (k : Int) < n := by omega
        by_cases hxx : x = x'
        · subst hxx
          have hS2 : Hid (SameTo (k + 1) l l') := hS.out.go hx.out hx'.out
          have hxx : Hid (decide (x = x) = true) := by show _ = _; simp
          clear hS
          go_wp2_with fail
          refine wp_region_later (by kernel_rfl) (by kernel_rfl) ?_
          repeat (go_big_quiet_step (fail))
          refine wpQuiet_nil ?_
          rintro w2 ⟨⟨_, E2⟩, rfl⟩
          have hE2 := hid (hE.trans E2)
          clear hE E2 c0 c1 c2 c3 d0 d1 d2 d3
          go_wp2_with fail
          go_roundw
          case rel => exact ⟨k + 1, by omega, by go_num, hS2, hE2.out⟩
          case measure => simp [intOf]; omega
        · have hr : Hid (decide (l = l') = false) := decide_eq_false (differ hx.out hx'.out hxx)
          replace hxx := hid hxx
          clear hS
          go_wp2_with fail
          refine wp_region_later (by kernel_rfl) (by kernel_rfl) ?_
          repeat (go_big_quiet_step (fail))
          go_big_quiet_want
          refine quiet_neq4 _ _ _ rfl x x' rfl rfl true (by rw [show decide (x = x') = false from decide_eq_false hxx.out]; simp) ?_
          go_simp
          go_big_quiet_on
          repeat (go_big_quiet_step (fail))
          refine wpQuiet_nil ?_
          rintro w2 ⟨⟨_, E2⟩, rfl⟩
          have hE2 := hid (hE.trans E2)
          clear hE E2 c0 c1 c2 c3 d0 d1 d2 d3
          go_wp2_with fail
          go_ret
          exact ⟨ret_bool hr.out.symm, hE2.out⟩
      · have hr : Hid (decide (l = l') = true) := decide_eq_true (hS.out.all (by rw [hl.out]; omega) (by rw [hl'.out]; omega))
        have hkI : ¬ (k : Int) < n := by omega
        go_wp2_with fail
        go_ret
        exact ⟨ret_bool hr.out.symm, hE⟩
  · have hr : Hid (decide (l = l') = false) := decide_eq_false (fun e => hnm (by rw [← hl.out, ← hl'.out, e]))
    have hd : ((n : Int) == (m : Int)) = false := by simpa using fun e : (n : Int) = m => hnm (by omega)
    have hd2 : ¬ (n : Int) = m := by omega
    go_enter Try.func118, Try.ntmps118
    go_wp2
    go_ret
    exact ⟨ret_bool hr.out.symm, Ext.refl _⟩
set_option maxRecDepth 100000 in
set_option maxHeartbeats 4000000 in
theorem l03Same_any (p1 p2 : Option Addr) (n m k1 k2 : Nat) (l l' : List Q4) (w : World) (h1 : SlT enc4 4 w p1 n l) (h2 : SlT enc4 4 w p2 m l') (hn : n ≤ 1048576) (hm : m ≤ 1048576) :
    Calls Try.prog 90 #[.slice p1 n k1, .slice p2 m k2] w fun e w' => e = .returned (.bool (decide (l = l'))) ∧ Ext w w' := by
  have hl := hid h1.length
  have hl' := hid h2.length
  by_cases hnm : n = m
  · subst hnm
    go_enter Try.func90, Try.ntmps90
    go_wp2
    go_loopw [5] (fun i wr => ∃ k : Nat, k ≤ n ∧ i = .int .i64 k ∧ Hid (SameTo k l l') ∧ Ext w wr) (fun i _ => n - (intOf i).toNat)
    case atStart => exact ⟨0, by omega, rfl, (fun i hi => by omega), Ext.refl _⟩
    case round =>
      obtain ⟨k, hk, rfl, hS, hE⟩ := hrel
      by_cases hlt : k < n
      · obtain ⟨b, off, x, rfl, hb, hx, c0, c1, c2, c3⟩ := (h1.ext hE).four hlt
        obtain ⟨b', off', x', rfl, hb', hx', d0, d1, d2, d3⟩ := (h2.ext hE).four hlt
        have hkI : (k : Int) < n := by omega
        by_cases hxx : x = x'
        · subst hxx
          have hS2 : Hid (SameTo (k + 1) l l') := hS.out.go hx.out hx'.out
          have hxx : Hid (decide (x = x) = true) := by show _ = _; simp
          clear hS
          go_wp2_with fail
          refine wp_region_later (by kernel_rfl) (by kernel_rfl) ?_
          repeat (go_big_quiet_step (fail))
          refine wpQuiet_nil ?_
          rintro w2 ⟨⟨_, E2⟩, rfl⟩
          have hE2 := hid (hE.trans E2)
          clear hE E2 c0 c1 c2 c3 d0 d1 d2 d3
          go_wp2_with fail
          go_roundw
          case rel => exact ⟨k + 1, by omega, by go_num, hS2, hE2.out⟩
          case measure => simp [intOf]; omega
        · have hr : Hid (decide (l = l') = false) := decide_eq_false (differ hx.out hx'.out hxx)
          replace hxx := hid hxx
          clear hS
          go_wp2_with fail
          refine wp_region_later (by kernel_rfl) (by kernel_rfl) ?_
          repeat (go_big_quiet_step (fail))
          go_big_quiet_want
          refine quiet_neq4 _ _ _ rfl x x' rfl rfl true (by rw [show decide (x = x') = false from decide_eq_false hxx.out]; simp) ?_
          go_simp
          go_big_quiet_on
          repeat (go_big_quiet_step (fail))
          refine wpQuiet_nil ?_
          rintro w2 ⟨⟨_, E2⟩, rfl⟩
          have hE2 := hid (hE.trans E2)
          clear hE E2 c0 c1 c2 c3 d0 d1 d2 d3
          go_wp2_with fail
          go_ret
          exact ⟨ret_bool hr.out.symm, hE2.out⟩
      · have hr : Hid (decide (l = l') = true) := decide_eq_true (hS.out.all (by rw [hl.out]; omega) (by rw [hl'.out]; omega))
        have hkI : ¬ (k : Int) < n := by omega
        go_wp2_with fail
        go_ret
        exact ⟨ret_bool hr.out.symm, hE⟩
  · have hr : Hid (decide (l = l') = false) := decide_eq_false (fun e => hnm (by rw [← hl.out, ← hl'.out, e]))
    have hd : ((n : Int) == (m : Int)) = false := by simpa using fun e : (n : Int) = m => hnm (by omega)
    have hd2 : ¬ (n : Int) = m := by omega
    go_enter Try.func90, Try.ntmps90
    go_wp2
    go_ret
    exact ⟨ret_bool hr.out.symm, Ext.refl _⟩
set_option maxRecDepth 100000 in
set_option maxHeartbeats 4000000 in
theorem l03Equal_any (p1 p2 : Option Addr) (n m k1 k2 : Nat) (l l' : List Int) (w : World) (h1 : SlT enc1 1 w p1 n l) (h2 : SlT enc1 1 w p2 m l') (hn : n ≤ 1048576) (hm : m ≤ 1048576) :
    Calls Try.prog 122 #[.slice p1 n k1, .slice p2 m k2] w fun e w' => e = .returned (.bool (decide (l = l'))) ∧ Ext w w' := by
  have hl := hid h1.length
  have hl' := hid h2.length
  by_cases hnm : n = m
  · subst hnm
    go_enter Try.func122, Try.ntmps122
    go_wp2
    go_loopw [5] (fun i wr => ∃ k : Nat, k ≤ n ∧ i = .int .i64 k ∧ Hid (SameTo k l l') ∧ Ext w wr) (fun i _ => n - (intOf i).toNat)
    case atStart => exact ⟨0, by omega, rfl, (fun i hi => by omega), Ext.refl _⟩
    case round =>
      obtain ⟨k, hk, rfl, hS, hE⟩ := hrel
      by_cases hlt : k < n
      · obtain ⟨b, off, x, rfl, hb, hx, c0⟩ := (h1.ext hE).int hlt
        obtain ⟨b', off', x', rfl, hb', hx', d0⟩ := (h2.ext hE).int hlt
        have hkI : (k : Int) < n := by omega
        by_cases hxx : x = x'
        · subst hxx
          have hS2 : Hid (SameTo (k + 1) l l') := hS.out.go hx.out hx'.out
          have hxx : Hid (decide (x = x) = true) := by show _ = _; simp
          clear hS
          go_wp2_with fail
          refine wp_region_later (by kernel_rfl) (by kernel_rfl) ?_
          repeat (go_big_quiet_step (fail))
          refine wpQuiet_nil ?_
          rintro w2 ⟨⟨_, E2⟩, rfl⟩
          have hE2 := hid (hE.trans E2)
          clear hE E2 c0 d0
          go_wp2_with fail
          go_roundw
          case rel => exact ⟨k + 1, by omega, by go_num, hS2, hE2.out⟩
          case measure => simp [intOf]; omega
        · have hr : Hid (decide (l = l') = false) := decide_eq_false (differ hx.out hx'.out hxx)
          have hxx' : (x == x') = false := by simpa using hxx
          clear hS
          go_wp2_with fail
          refine wp_region_later (by kernel_rfl) (by kernel_rfl) ?_
          repeat (go_big_quiet_step (fail))
          refine wpQuiet_nil ?_
          rintro w2 ⟨⟨_, E2⟩, rfl⟩
          have hE2 := hid (hE.trans E2)
          clear hE E2 c0 d0
          go_wp2_with fail
          go_ret
          exact ⟨ret_bool hr.out.symm, hE2.out⟩
      · have hr : Hid (decide (l = l') = true) := decide_eq_true (hS.out.all (by rw [hl.out]; omega) (by rw [hl'.out]; omega))
        have hkI : ¬ (k : Int) < n := by omega
        go_wp2_with fail
        go_ret
        exact ⟨ret_bool hr.out.symm, hE⟩
  · have hr : Hid (decide (l = l') = false) := decide_eq_false (fun e => hnm (by rw [← hl.out, ← hl'.out, e]))
    have hd : ((n : Int) == (m : Int)) = false := by simpa using fun e : (n : Int) = m => hnm (by omega)
    have hd2 : ¬ (n : Int) = m := by omega
    go_enter Try.func122, Try.ntmps122
    go_wp2
    go_ret
    exact ⟨ret_bool hr.out.symm, Ext.refl _⟩
set_option maxRecDepth 100000 in
set_option maxHeartbeats 4000000 in
theorem validRects_any (q : Option Addr) (n c : Nat) (l : List Q4) (w : World) (h : SlT enc4 4 w q n l) (hn : n ≤ 1048576) :
    Calls Try.prog 56 #[.slice q n c] w fun e w' => e = .returned (.bool (vRs l)) ∧ Ext w w' := by
  have hl := hid h.length
  by_cases h3 : n ≤ 3200
  · go_enter Try.func56, Try.ntmps56
    go_wp2
    go_loopw [10] (fun i wr => ∃ k : Nat, k ≤ n ∧ i = .int .i64 k ∧ Hid ((l.take k).all vR = true) ∧ Ext w wr) (fun i _ => n - (intOf i).toNat)
    case atStart => exact ⟨0, by omega, rfl, (by show _ = _; simp), Ext.refl _⟩
    case round =>
      obtain ⟨k, hk, rfl, hA, hE⟩ := hrel
      by_cases hlt : k < n
      · obtain ⟨b, off, r, rfl, hb, hr, c0, c1, c2, c3⟩ := (h.ext hE).four hlt
        have hkI : (k : Int) < n := by omega
        cases hv : vR r with
        | true =>
          have hA2 : Hid ((l.take (k + 1)).all vR = true) := by show _ = _; rw [take_snoc hr.out, List.all_append, hA.out]; simp [hv]
          have hcall := fun W => IsValidRect_any r W
          rw [hv] at hcall
          clear hA hv
          go_wp2_with fail
          refine (hcall _).mono ?_
          rintro e w2 ⟨rfl, E2⟩
          have hE2 := hid (((hE.alloc _)).trans E2)
          clear hE E2 c0 c1 c2 c3
          go_wp2_with fail
          go_roundw
          case rel => exact ⟨k + 1, by omega, by go_num, hA2, hE2.out⟩
          case measure => simp [intOf]; omega
        | false =>
          have hr2 : Hid (false = vRs l) := by
            show _ = _
            rw [vRs, hl.out]
            have : l.all vR = false := by
              rw [List.all_eq_false]
              exact ⟨r, List.mem_of_getElem? hr.out, by rw [hv]; simp⟩
            rw [this, Bool.and_false]
          have hcall := fun W => IsValidRect_any r W
          rw [hv] at hcall
          clear hA hv
          go_wp2_with fail
          refine (hcall _).mono ?_
          rintro e w2 ⟨rfl, E2⟩
          have hE2 := hid (((hE.alloc _)).trans E2)
          clear hE E2 c0 c1 c2 c3
          go_wp2_with fail
          go_ret
          exact ⟨ret_bool hr2.out, hE2.out⟩
      · have hr2 : Hid (true = vRs l) := by
          show _ = _
          have := hA.out
          rw [take_all hl.out (by omega)] at this
          rw [vRs, this, hl.out]; simp [h3]
        have hkI : ¬ (k : Int) < n := by omega
        go_wp2_with fail
        go_ret
        exact ⟨ret_bool hr2.out, hE⟩
  · have hr2 : Hid (false = vRs l) := by show _ = _; rw [vRs, hl.out]; simp [h3]
    go_enter Try.func56, Try.ntmps56
    go_wp2
    go_ret
    exact ⟨ret_bool hr2.out, Ext.refl _⟩
set_option maxRecDepth 100000 in
set_option maxHeartbeats 4000000 in
theorem l03Valid_any (q : Option Addr) (n c : Nat) (l : List Q4) (w : World) (h : SlT enc4 4 w q n l) (hn : n ≤ 1048576) :
    Calls Try.prog 88 #[.slice q n c] w fun e w' => e = .returned (.bool (vRs l)) ∧ Ext w w' := by
  have hl := hid h.length
  by_cases h3 : n ≤ 3200
  · go_enter Try.func88, Try.ntmps88
    go_wp2
    go_loopw [3] (fun i wr => ∃ k : Nat, k ≤ n ∧ i = .int .i64 k ∧ Hid ((l.take k).all vR = true) ∧ Ext w wr) (fun i _ => n - (intOf i).toNat)
    case atStart => exact ⟨0, by omega, rfl, (by show _ = _; simp), Ext.refl _⟩
    case round =>
      obtain ⟨k, hk, rfl, hA, hE⟩ := hrel
      by_cases hlt : k < n
      · obtain ⟨b, off, r, rfl, hb, hr, c0, c1, c2, c3⟩ := (h.ext hE).four hlt
        have hkI : (k : Int) < n := by omega
        cases hv : vR r with
        | true =>
          have hA2 : Hid ((l.take (k + 1)).all vR = true) := by show _ = _; rw [take_snoc hr.out, List.all_append, hA.out]; simp [hv]
          have hcall := fun W => specIsValidRect_any r W
          rw [hv] at hcall
          clear hA hv
          go_wp2_with fail
          refine (hcall _).mono ?_
          rintro e w2 ⟨rfl, E2⟩
          have hE2 := hid (((hE)).trans E2)
          clear hE E2 c0 c1 c2 c3
          go_wp2_with fail
          go_roundw
          case rel => exact ⟨k + 1, by omega, by go_num, hA2, hE2.out⟩
          case measure => simp [intOf]; omega
        | false =>
          have hr2 : Hid (false = vRs l) := by
            show _ = _
            rw [vRs, hl.out]
            have : l.all vR = false := by
              rw [List.all_eq_false]
              exact ⟨r, List.mem_of_getElem? hr.out, by rw [hv]; simp⟩
            rw [this, Bool.and_false]
          have hcall := fun W => specIsValidRect_any r W
          rw [hv] at hcall
          clear hA hv
          go_wp2_with fail
          refine (hcall _).mono ?_
          rintro e w2 ⟨rfl, E2⟩
          have hE2 := hid (((hE)).trans E2)
          clear hE E2 c0 c1 c2 c3
          go_wp2_with fail
          go_ret
          exact ⟨ret_bool hr2.out, hE2.out⟩
      · have hr2 : Hid (true = vRs l) := by
          show _ = _
          have := hA.out
          rw [take_all hl.out (by omega)] at this
          rw [vRs, this, hl.out]; simp [h3]
        have hkI : ¬ (k : Int) < n := by omega
        go_wp2_with fail
        go_ret
        exact ⟨ret_bool hr2.out, hE⟩
  · have hr2 : Hid (false = vRs l) := by show _ = _; rw [vRs, hl.out]; simp [h3]
    go_enter Try.func88, Try.ntmps88
    go_wp2
    go_ret
    exact ⟨ret_bool hr2.out, Ext.refl _⟩
end Go.Proofs.Ytiljojpnbpdaeaa
