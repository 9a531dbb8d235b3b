/- Contract of RouteRects (program). Condition: at most 2^20 points. -/
import Derived.Test.YtiljojpnbpdaeaaRrt
namespace Go.Proofs.Ytiljojpnbpdaeaa
open Go.RowKit

theorem isRt_parts {l : List Q4} {ps : List Q2} (h : isRt l ps = true) : isReg l = true ∧ 0 < ps.length ∧ ∀ k, k < ps.length → okAt (gL l) ps k = true := by
  rw [isRt, Bool.and_eq_true, Bool.and_eq_true, decide_eq_true_eq, List.all_eq_true] at h
  exact ⟨h.1.1, h.1.2, fun k hk => h.2 k (List.mem_range.2 hk)⟩
theorem isRt_at {l : List Q4} {ps : List Q2} (h : isRt l ps = true) {k : Nat} {p : Q2} (hp : ps[k]? = some p) : onC p.a p.b = true ∧ gh (gL l) p.a p.b = false ∧ p ∉ ps.take k ∧ (k = 0 ∨ adjB (ps.getD (k - 1) ⟨0, 0⟩) p = true) := by
  have h1 := (isRt_parts h).2.2 k (List.getElem?_eq_some_iff.1 hp).1
  rw [okAt_some hp] at h1
  simp only [Bool.and_eq_true, Bool.or_eq_true, Bool.not_eq_true', decide_eq_true_eq, decide_eq_false_iff_not] at h1
  exact ⟨h1.1.1.1, h1.1.1.2, h1.1.2, h1.2⟩
theorem isRt_adj {l : List Q4} {ps : List Q2} (h : isRt l ps = true) {k : Nat} {p q : Q2} (hp : ps[k]? = some p) (hq : ps[k + 1]? = some q) : adjB p q = true := by
  have h1 := (isRt_at h hq).2.2.2
  rcases h1 with h1 | h1
  · omega
  · rw [Nat.add_sub_cancel, getD_of hp] at h1; exact h1
/-- What RouteRects tells. -/
def rrL (ps : List Q2) : List Q4 := if isRt [] ps = true then pcs ps else []
def RrB (ps : List Q2) (w : World) (e : Ending) (w' : World) : Prop := ∃ q c, e = .returned (.tuple #[.slice q (rrL ps).length c, .bool (isRt [] ps)]) ∧ w'.ownsRow w.heap.size 49 4 (.slice q (rrL ps).length c) (rrL ps).length ((rrL ps).flatMap enc4) ∧ Ext w w'
theorem rr_none {ps : List Q2} {w w' : World} (h : isRt [] ps = false) (hE : Ext w w') : RrB ps w (.returned (.tuple #[.slice none 0 0, .bool false])) w' := by
  refine ⟨none, 0, ?_, ?_, hE⟩
  · rw [rrL, h]; rfl
  · rw [rrL, h]; exact World.ownsRow_nil _ _ _ _
theorem rr_done {ps : List Q2} {w w' : World} {q : Option Addr} {c : Nat} {out : List Q4} (h : isRt [] ps = true) (ho : out = pcs ps) (how : w'.ownsRow w.heap.size 49 4 (.slice q out.length c) out.length (out.flatMap enc4)) (hE : Ext w w') : RrB ps w (.returned (.tuple #[.slice q out.length c, .bool true])) w' := by
  refine ⟨q, c, ?_, ?_, hE⟩
  · rw [rrL, h, ho]; rfl
  · rw [rrL, h, if_pos rfl, ← ho]; exact how
/-- The pieces from place i on. -/
def rest (ps : List Q2) (i e : Nat) : List Q4 := rr (ps.getD i ⟨0, 0⟩) (ps.getD e ⟨0, 0⟩) (ps.drop (e + 1))
theorem rest_on {ps : List Q2} {i e : Nat} {s x : Q2} (hs : ps[i]? = some s) (hx : ps[e + 1]? = some x) (h : strt s x = true) : rest ps i e = rest ps i (e + 1) := by
  rw [rest, rest, getD_of hs, getD_of hx, drop_get hx, rr_on h]
theorem rest_off {ps : List Q2} {i e : Nat} {s y x : Q2} (hs : ps[i]? = some s) (hy : ps[e]? = some y) (hx : ps[e + 1]? = some x) (h : strt s x = false) (ha : adjB y x = true) : rest ps i e = span s y :: rest ps e e := by
  rw [rest, rest, getD_of hs, getD_of hy, drop_get hx, rr_off h, rr_next ha]
theorem rest_end {ps : List Q2} {i e : Nat} {s y : Q2} (hs : ps[i]? = some s) (hy : ps[e]? = some y) (h : ps.length ≤ e + 1) : rest ps i e = [span s y] := by
  rw [rest, getD_of hs, getD_of hy, List.drop_eq_nil_of_le h]; rfl
theorem rest_zero {ps : List Q2} (h : 0 < ps.length) : rest ps 0 0 = pcs ps := by
  cases ps with
  | nil => simp at h
  | cons p ps => simp [rest, pcs]
theorem isRt_len {ps : List Q2} {l : List Q4} (h : isRt l ps = true) : ps.length ≤ 6400 := by
  have h1 : ∀ k, (ps.take k).Nodup := by
    intro k
    induction k with
    | zero => simp
    | succ k ih =>
      cases hp : ps[k]? with
      | none => rw [List.take_add_one, hp]; simpa using ih
      | some p =>
        rw [take_snoc hp, List.nodup_append]
        exact ⟨ih, by simp, fun x hx y hy e => by simp at hy; subst hy; subst e; exact (isRt_at h hp).2.2.1 hx⟩
  have h2 := h1 ps.length
  rw [List.take_length] at h2
  have h3 : (ps.map fun q => atG q.a q.b).Nodup := by
    rw [List.nodup_iff_pairwise_ne, List.pairwise_map]
    refine (List.nodup_iff_pairwise_ne.1 h2).imp_of_mem fun {a b} ha hb hne he => hne ?_
    obtain ⟨i, hi⟩ := List.getElem?_of_mem ha
    obtain ⟨j, hj⟩ := List.getElem?_of_mem hb
    have := atG_inj (isRt_at h hi).1 (isRt_at h hj).1 he
    cases a; cases b; simp at this; simp [this]
  have := nodup_len 6400 _ h3 (fun x hx => by
    rw [List.mem_map] at hx
    obtain ⟨q, hq, rfl⟩ := hx
    obtain ⟨i, hi⟩ := List.getElem?_of_mem hq
    exact atG_lt (isRt_at h hi).1)
  simpa using this
set_option maxRecDepth 100000 in
set_option maxHeartbeats 8000000 in
theorem RouteRects_any (q : Option Addr) (n c : Nat) (ps : List Q2) (w : World) (h : SlT enc2 2 w q n ps) (hn : n ≤ 1048576) :
    Calls Try.prog 21 #[.slice q n c] w (RrB ps w) := by
  obtain ⟨i0, hi, hz0, hz1, hz2⟩ := info_parts info_Rect
  have hl := hid h.length
  have hc1 := IsRoute_any none 0 0 [] q n c ps w (SlT.zero _ _) h (by omega) hn
  cases hr : isRt [] ps with
  | false =>
    rw [hr] at hc1
    have hr := hid hr
    go_enter Try.func21, Try.ntmps21
    go_wp2_with fail
    refine hc1.mono ?_
    rintro e w1 ⟨rfl, E1⟩
    go_wp2_with fail
    go_ret2
    exact rr_none hr.out E1
  | true =>
    rw [hr] at hc1
    have hr := hid hr
    have h0 := (isRt_parts hr.out).2.1
    have h64 := isRt_len hr.out
    rw [hl.out] at h0 h64
    go_enter Try.func21, Try.ntmps21
    go_wp2_with fail
    refine hc1.mono ?_
    rintro e w1 ⟨rfl, E1⟩
    clear hc1
    go_wp2_with fail
    have ho0 : (w1.alloc (.cells #[] 49)).ownsRow w.heap.size 49 4 (.slice (some ⟨w1.heap.size, 0, none⟩) 0 0) 0 [] := by
      have := World.ownsRow_made (base := w.heap.size) (e := 49) (size := 4) w1 #[] 0 E1.le (by simp [maxLen]) (by simp)
      exact this
    have hR0 : Hid ([] ++ rest ps 0 0 = pcs ps) := by show _ = _; rw [rest_zero (by rw [hl.out]; exact h0)]; rfl
    go_loopw [4, 5, 6] (fun v i _ wr => ∃ (k : Nat) (out : List Q4) (q' : Option Addr) (c' : Nat), k < n ∧ v = .slice q' out.length c' ∧ i = .int .i64 k ∧ Hid ((k + 1 < n ∨ k = 0 → out ++ rest ps k k = pcs ps) ∧ (¬ (k + 1 < n ∨ k = 0) → out = pcs ps)) ∧ wr.ownsRow w.heap.size 49 4 (.slice q' out.length c') out.length (out.flatMap enc4) ∧ Hid (out.length ≤ k) ∧ Ext w wr) (fun _ i _ _ => n - (intOf i).toNat)
    case atStart => exact ⟨0, [], _, _, h0, rfl, rfl, hid ⟨fun _ => hR0.out, fun hh => absurd (Or.inr rfl) hh⟩, ho0, hid (by simp), E1.alloc _⟩
    case round =>
      clear hR0 ho0 E1
      obtain ⟨k, out, q', c', hk, rfl, rfl, hI, ho, hol, hE⟩ := hrel
      have hol2 := hol.out
      by_cases hgo : k + 1 < n ∨ k = 0
      · have hI2 := hid (hI.out.1 hgo)
        obtain ⟨s, hs⟩ : ∃ s, Hid (ps[k]? = some s) := ⟨_, List.getElem?_eq_getElem (by rw [hl.out]; exact hk)⟩
        replace ho := hid ho
        clear hI
        have hp := (h.ext hE)
        obtain ⟨bp, op, s', hq, hbp, hs', c0, c1⟩ := h.two hk
        obtain rfl : s = s' := Option.some.inj (hs.out.symm.trans hs'.out)
        subst hq
        have hson := hid (isRt_at hr.out hs.out).1
        clear hs' hp
        have hR0 : Hid (rest ps k k = rest ps k k) := rfl
        have hstep : Hid (rest ps k k = rest ps k k) := rfl
        have hww := hE.le
        have d0 := (hE.cells _ _ hbp).trans c0
        have d1 := (hE.cells _ _ hbp).trans c1
        have hbw : bp < wr.heap.size := by omega
        clear hstep
        have hgo3 : Hid (k + 1 < n ∨ k = 0) := hgo
        by_cases hgk : k + 1 < n
        · have hgI : (k : Int) + 1 < (n : Int) := by omega
          clear hgo
          go_wp2_with fail
          go_loopw [6] (fun v wr => ∃ e : Nat, k ≤ e ∧ e < n ∧ v = .int .i64 e ∧ Hid (rest ps k e = rest ps k k) ∧ wr.ownsRow w.heap.size 49 4 (.slice q' out.length c') out.length (out.flatMap enc4) ∧ Ext w wr) (fun v _ => n - (intOf v).toNat)
          case atStart => exact ⟨k, by omega, hk, rfl, hid rfl, ho.out, hE⟩
          case round =>
            clear ho hE d0 d1 hww hbw
            obtain ⟨e, hke, he, rfl, hRe, ho, hE⟩ := hrel
            obtain ⟨bp', op', y, hq', _, hy, y0, y1⟩ := h.two he
            cases hq'
            have hyon := hid (isRt_at hr.out hy.out).1
            have d0 := (hE.cells _ _ hbp).trans c0
            have d1 := (hE.cells _ _ hbp).trans c1
            have z0 := (hE.cells _ _ hbp).trans y0
            have z1 := (hE.cells _ _ hbp).trans y1
            have hbw : bp < wr.heap.size := Nat.lt_of_lt_of_le hbp hE.le
            replace ho := hid ho
            by_cases hlast : e + 1 < n
            · have hlI : (e : Int) + 1 < (n : Int) := by omega
              obtain ⟨bp', op', x, hq', _, hx, x0, x1⟩ := h.two hlast
              cases hq'
              have t0 := (hE.cells _ _ hbp).trans x0
              have t1 := (hE.cells _ _ hbp).trans x1
              have hwp : IntKind.i64.wrap ((e : Int) + 1) = (e : Int) + 1 := IntWalk.i64_in _ (by omega)
              have hnn : (0 : Int) ≤ (e : Int) + 1 := by omega
              have htn : ((e : Int) + 1).toNat = e + 1 := by omega
              clear x0 x1
              cases hst : strt s x with
              | true =>
                have hR2 : Hid (rest ps k (e + 1) = rest ps k k) := by show _ = _; rw [← rest_on hs.out hx.out hst]; exact hRe.out
                rw [strt, Bool.or_eq_true, decide_eq_true_eq, decide_eq_true_eq] at hst
                by_cases hxa : x.a = s.a
                · have b1 : (x.a == s.a) = true := by simpa using hxa
                  clear hst
                  go_wp2_with fail
                  refine wp_region_later (by kernel_rfl) (by kernel_rfl) ?_
                  repeat (go_big_quiet_step (fail))
                  refine wpQuiet_nil ?_
                  rintro w4 ⟨⟨_, E4⟩, rfl⟩
                  replace hE := hE.trans E4
                  replace ho := hid (owns_ext ho.out E4)
                  clear E4
                  go_wp2_with fail
                  go_roundw
                  case rel => exact ⟨e + 1, by omega, by omega, by go_num, hR2, ho.out, hE⟩
                  case measure => simp [intOf] <;> omega
                · have hxb : x.b = s.b := by rcases hst with h1 | h1; exact absurd h1 hxa; exact h1
                  have b1 : (x.a == s.a) = false := by simpa using hxa
                  have b2 : (x.b == s.b) = true := by simpa using hxb
                  clear hst
                  go_wp2_with fail
                  refine wp_region_later (by kernel_rfl) (by kernel_rfl) ?_
                  repeat (go_big_quiet_step (fail))
                  refine wpQuiet_nil ?_
                  rintro w4 ⟨⟨_, E4⟩, rfl⟩
                  replace hE := hE.trans E4
                  replace ho := hid (owns_ext ho.out E4)
                  clear E4
                  go_wp2_with fail
                  go_roundw
                  case rel => exact ⟨e + 1, by omega, by omega, by go_num, hR2, ho.out, hE⟩
                  case measure => simp [intOf] <;> omega
              | false =>
                have hRR := hid (rest_off hs.out hy.out hx.out hst (isRt_adj hr.out hy.out hx.out))
                have hek : ¬ e = k := by
                  intro h1
                  subst h1
                  have h2 : y = s := Option.some.inj (hy.out.symm.trans hs.out)
                  rw [← h2, adj_strt (isRt_adj hr.out hy.out hx.out)] at hst
                  cases hst
                have hN : Hid ((e + 1 < n ∨ e = 0 → (out ++ [span s y]) ++ rest ps e e = pcs ps) ∧ (¬ (e + 1 < n ∨ e = 0) → out ++ [span s y] = pcs ps)) := by
                  refine ⟨fun _ => ?_, fun h1 => absurd (Or.inl hlast) h1⟩
                  rw [← hI2.out, ← hRe.out, hRR.out]; simp
                rw [strt, Bool.or_eq_false_iff, decide_eq_false_iff_not, decide_eq_false_iff_not] at hst
                obtain ⟨hxa, hxb⟩ := hst
                have b1 : (x.a == s.a) = false := by simpa using hxa
                have b2 : (x.b == s.b) = false := by simpa using hxb
                have hekI : ¬ (e : Int) = (k : Int) := by omega
                go_wp2_with fail
                refine wp_region_later (by kernel_rfl) (by kernel_rfl) ?_
                repeat (go_big_quiet_step (fail))
                refine wpQuiet_nil ?_
                rintro w4 ⟨⟨_, E4⟩, rfl⟩
                replace hE := hE.trans E4
                replace ho := hid (owns_ext ho.out E4)
                clear E4
                go_wp2_with fail
                clear d0 d1 z0 z1 t0 t1 hbw hwp hnn htn b1 b2
                try clear hlB
                have hX : Ext w _ := hE.drew
                have ho := World.ownsRow.drew ho.out
                have keepS := hid (show ∀ W, Ext w W → (W.cell? ⟨bp, op + k * 2, none⟩ = some (.int .i64 s.a) ∧ W.cell? ⟨bp, op + k * 2 + 1, none⟩ = some (.int .i64 s.b) ∧ W.cell? ⟨bp, op + e * 2, none⟩ = some (.int .i64 y.a) ∧ W.cell? ⟨bp, op + e * 2 + 1, none⟩ = some (.int .i64 y.b)) from fun W hE => ⟨(hE.cells _ _ hbp).trans c0, (hE.cells _ _ hbp).trans c1, (hE.cells _ _ hbp).trans y0, (hE.cells _ _ hbp).trans y1⟩)
                go_region_held3 (fun W => W.cell? ⟨bp, op + k * 2, none⟩ = some (.int .i64 s.a) ∧ W.cell? ⟨bp, op + k * 2 + 1, none⟩ = some (.int .i64 s.b) ∧ W.cell? ⟨bp, op + e * 2, none⟩ = some (.int .i64 y.a) ∧ W.cell? ⟨bp, op + e * 2 + 1, none⟩ = some (.int .i64 y.b))
                  (exact keepS.out _ (by first | exact hX | exact hX.alloc _ | exact hXA))
                  (first
                    | (go_at_call 50; (with_reducible refine (unitRect_any s _ hson.out).mono ?_); rintro e1 w5 ⟨rfl, E⟩; replace hX := hX.trans E; replace ho := owns_ext ho E; clear E)
                    | (go_at_call 50; (with_reducible refine (unitRect_any y _ hyon.out).mono ?_); rintro e1 w6 ⟨rfl, E⟩; replace hX := hX.trans E; replace ho := owns_ext ho E; clear E)
                    | (go_at_call 49; refine (boxOf_any _ 2 2 [uQ s, uQ y] _ (SlT.of_blk (l := [uQ s, uQ y]) enc4_len (Blk.new _ _ _)) (by omega) (by omega)).mono ?_; rw [box_two]; rintro e1 w7 ⟨rfl, E⟩; replace hX := (hX.alloc _).trans E; replace ho := owns_ext (World.ownsRow.alloc ho _) E; clear E)
                    | (refine step_append_lies _ rfl _ _ 42 rfl w.heap.size 49 i0 _ 4 32 Try.underlying42 hi hz0 hz1 hz2 rfl (by omega) _ _ _ rfl (World.ownsRow.alloc ho _) ⟨_, 0, none⟩ 1 1 [.int .i64 (span s y).a, .int .i64 (span s y).b, .int .i64 (span s y).c, .int .i64 (span s y).d] rfl rfl (cells_new _ [_, _, _, _] _) (one_int4 _ _ _ _) (by omega) (len_le (by omega) (by omega)) (by omega) (hX.alloc _).le _ rfl ?_; intro gL cL wA hoA hgA hbA hlA; have hXA := (hX.alloc (.cells #[.int .i64 (span s y).a, .int .i64 (span s y).b, .int .i64 (span s y).c, .int .i64 (span s y).d] 49)).grown hgA (fun b hb => (ho.lt b hb).1)))
                replace hoA := hid hoA
                replace hXA := hid hXA
                clear hgA hbA hlA hX ho keepS y0 y1
                go_wp2_with fail
                go_roundw
                case rel => exact ⟨e, out ++ [span s y], some ⟨gL, 0, none⟩, cL, he, by rw [List.length_append]; rfl, rfl, hN, by rw [List.length_append, List.flatMap_append]; exact hoA.out, hid (by rw [List.length_append, List.length_singleton]; omega), hXA.out⟩
                case measure => simp [intOf] <;> omega
            · have hlI : ¬ (e : Int) + 1 < (n : Int) := by omega
              have hlB : decide ((e : Int) + 1 < (n : Int)) = false := decide_eq_false hlI
              have hwp : IntKind.i64.wrap ((e : Int) + 1) = (e : Int) + 1 := IntWalk.i64_in _ (by omega)
              have hRR := hid (rest_end hs.out hy.out (show ps.length ≤ e + 1 by rw [hl.out]; omega))
              have hfinA : Hid (out ++ [span s y] = pcs ps) := by show _ = _; rw [← hI2.out, ← hRe.out, hRR.out]
              by_cases hek : e = k
              · exfalso; omega
              · have hekI : ¬ (e : Int) = (k : Int) := by omega
                have hN : Hid ((e + 1 < n ∨ e = 0 → (out ++ [span s y]) ++ rest ps e e = pcs ps) ∧ (¬ (e + 1 < n ∨ e = 0) → out ++ [span s y] = pcs ps)) := ⟨fun h1 => by omega, fun _ => hfinA.out⟩
                go_wp2_with fail
                refine wp_region_later (by kernel_rfl) (by kernel_rfl) ?_
                repeat (go_big_quiet_step (fail))
                refine wpQuiet_nil ?_
                rintro w4 ⟨⟨_, E4⟩, rfl⟩
                replace hE := hE.trans E4
                replace ho := hid (owns_ext ho.out E4)
                clear E4
                go_wp2_with fail
                clear d0 d1 z0 z1 hbw hwp
                try clear hlB
                have hX : Ext w _ := hE.drew
                have ho := World.ownsRow.drew ho.out
                have keepS := hid (show ∀ W, Ext w W → (W.cell? ⟨bp, op + k * 2, none⟩ = some (.int .i64 s.a) ∧ W.cell? ⟨bp, op + k * 2 + 1, none⟩ = some (.int .i64 s.b) ∧ W.cell? ⟨bp, op + e * 2, none⟩ = some (.int .i64 y.a) ∧ W.cell? ⟨bp, op + e * 2 + 1, none⟩ = some (.int .i64 y.b)) from fun W hE => ⟨(hE.cells _ _ hbp).trans c0, (hE.cells _ _ hbp).trans c1, (hE.cells _ _ hbp).trans y0, (hE.cells _ _ hbp).trans y1⟩)
                go_region_held3 (fun W => W.cell? ⟨bp, op + k * 2, none⟩ = some (.int .i64 s.a) ∧ W.cell? ⟨bp, op + k * 2 + 1, none⟩ = some (.int .i64 s.b) ∧ W.cell? ⟨bp, op + e * 2, none⟩ = some (.int .i64 y.a) ∧ W.cell? ⟨bp, op + e * 2 + 1, none⟩ = some (.int .i64 y.b))
                  (exact keepS.out _ (by first | exact hX | exact hX.alloc _ | exact hXA))
                  (first
                    | (go_at_call 50; (with_reducible refine (unitRect_any s _ hson.out).mono ?_); rintro e1 w5 ⟨rfl, E⟩; replace hX := hX.trans E; replace ho := owns_ext ho E; clear E)
                    | (go_at_call 50; (with_reducible refine (unitRect_any y _ hyon.out).mono ?_); rintro e1 w6 ⟨rfl, E⟩; replace hX := hX.trans E; replace ho := owns_ext ho E; clear E)
                    | (go_at_call 49; refine (boxOf_any _ 2 2 [uQ s, uQ y] _ (SlT.of_blk (l := [uQ s, uQ y]) enc4_len (Blk.new _ _ _)) (by omega) (by omega)).mono ?_; rw [box_two]; rintro e1 w7 ⟨rfl, E⟩; replace hX := (hX.alloc _).trans E; replace ho := owns_ext (World.ownsRow.alloc ho _) E; clear E)
                    | (refine step_append_lies _ rfl _ _ 42 rfl w.heap.size 49 i0 _ 4 32 Try.underlying42 hi hz0 hz1 hz2 rfl (by omega) _ _ _ rfl (World.ownsRow.alloc ho _) ⟨_, 0, none⟩ 1 1 [.int .i64 (span s y).a, .int .i64 (span s y).b, .int .i64 (span s y).c, .int .i64 (span s y).d] rfl rfl (cells_new _ [_, _, _, _] _) (one_int4 _ _ _ _) (by omega) (len_le (by omega) (by omega)) (by omega) (hX.alloc _).le _ rfl ?_; intro gL cL wA hoA hgA hbA hlA; have hXA := (hX.alloc (.cells #[.int .i64 (span s y).a, .int .i64 (span s y).b, .int .i64 (span s y).c, .int .i64 (span s y).d] 49)).grown hgA (fun b hb => (ho.lt b hb).1)))
                replace hoA := hid hoA
                replace hXA := hid hXA
                clear hgA hbA hlA hX ho keepS y0 y1
                go_wp2_with fail
                go_roundw
                case rel => exact ⟨e, out ++ [span s y], some ⟨gL, 0, none⟩, cL, he, by rw [List.length_append]; rfl, rfl, hN, by rw [List.length_append, List.flatMap_append]; exact hoA.out, hid (by rw [List.length_append, List.length_singleton]; omega), hXA.out⟩
                case measure => simp [intOf] <;> omega
        · have hgI : decide ((k : Int) + 1 < (n : Int)) = false := decide_eq_false (by omega)
          have hg0 : ((k : Int) == 0) = true := by have : k = 0 := by omega
                                                   simpa using this
          have hnk : n ≤ k + 1 := by omega
          clear hgo
          go_wp2_with fail
          go_loopw [6] (fun v wr => ∃ e : Nat, k ≤ e ∧ e < n ∧ v = .int .i64 e ∧ Hid (rest ps k e = rest ps k k) ∧ wr.ownsRow w.heap.size 49 4 (.slice q' out.length c') out.length (out.flatMap enc4) ∧ Ext w wr) (fun v _ => n - (intOf v).toNat)
          case atStart => exact ⟨k, by omega, hk, rfl, hid rfl, ho.out, hE⟩
          case round =>
            clear ho hE d0 d1 hww hbw
            obtain ⟨e, hke, he, rfl, hRe, ho, hE⟩ := hrel
            obtain ⟨bp', op', y, hq', _, hy, y0, y1⟩ := h.two he
            cases hq'
            have hyon := hid (isRt_at hr.out hy.out).1
            have d0 := (hE.cells _ _ hbp).trans c0
            have d1 := (hE.cells _ _ hbp).trans c1
            have z0 := (hE.cells _ _ hbp).trans y0
            have z1 := (hE.cells _ _ hbp).trans y1
            have hbw : bp < wr.heap.size := Nat.lt_of_lt_of_le hbp hE.le
            replace ho := hid ho
            by_cases hlast : e + 1 < n
            · exfalso; omega
            · have hlI : ¬ (e : Int) + 1 < (n : Int) := by omega
              have hlB : decide ((e : Int) + 1 < (n : Int)) = false := decide_eq_false hlI
              have hwp : IntKind.i64.wrap ((e : Int) + 1) = (e : Int) + 1 := IntWalk.i64_in _ (by omega)
              have hRR := hid (rest_end hs.out hy.out (show ps.length ≤ e + 1 by rw [hl.out]; omega))
              have hfinA : Hid (out ++ [span s y] = pcs ps) := by show _ = _; rw [← hI2.out, ← hRe.out, hRR.out]
              by_cases hek : e = k
              · have hekI : (e : Int) = (k : Int) := by omega
                subst hek
                have hsy : y = s := Option.some.inj (hy.out.symm.trans hs.out)
                rw [hsy] at y0 y1 z0 z1 hyon hfinA
                clear hsy
                go_wp2_with fail
                refine wp_region_later (by kernel_rfl) (by kernel_rfl) ?_
                repeat (go_big_quiet_step (fail))
                refine wpQuiet_nil ?_
                rintro w4 ⟨⟨_, E4⟩, rfl⟩
                replace hE := hE.trans E4
                replace ho := hid (owns_ext ho.out E4)
                clear E4
                go_wp2_with fail
                clear d0 d1 z0 z1 hbw hwp
                try clear hlB
                have hX : Ext w _ := hE.drew
                have ho := World.ownsRow.drew ho.out
                have keepS := hid (show ∀ W, Ext w W → (W.cell? ⟨bp, op + e * 2, none⟩ = some (.int .i64 s.a) ∧ W.cell? ⟨bp, op + e * 2 + 1, none⟩ = some (.int .i64 s.b) ∧ W.cell? ⟨bp, op + e * 2, none⟩ = some (.int .i64 s.a) ∧ W.cell? ⟨bp, op + e * 2 + 1, none⟩ = some (.int .i64 s.b)) from fun W hE => ⟨(hE.cells _ _ hbp).trans c0, (hE.cells _ _ hbp).trans c1, (hE.cells _ _ hbp).trans y0, (hE.cells _ _ hbp).trans y1⟩)
                go_region_held3 (fun W => W.cell? ⟨bp, op + e * 2, none⟩ = some (.int .i64 s.a) ∧ W.cell? ⟨bp, op + e * 2 + 1, none⟩ = some (.int .i64 s.b) ∧ W.cell? ⟨bp, op + e * 2, none⟩ = some (.int .i64 s.a) ∧ W.cell? ⟨bp, op + e * 2 + 1, none⟩ = some (.int .i64 s.b))
                  (exact keepS.out _ (by first | exact hX | exact hX.alloc _ | exact hXA))
                  (first
                    | (go_at_call 50; (with_reducible refine (unitRect_any s _ hson.out).mono ?_); rintro e1 w5 ⟨rfl, E⟩; replace hX := hX.trans E; replace ho := owns_ext ho E; clear E)
                    | (go_at_call 50; (with_reducible refine (unitRect_any s _ hyon.out).mono ?_); rintro e1 w6 ⟨rfl, E⟩; replace hX := hX.trans E; replace ho := owns_ext ho E; clear E)
                    | (go_at_call 49; refine (boxOf_any _ 2 2 [uQ s, uQ s] _ (SlT.of_blk (l := [uQ s, uQ s]) enc4_len (Blk.new _ _ _)) (by omega) (by omega)).mono ?_; rw [box_two]; rintro e1 w7 ⟨rfl, E⟩; replace hX := (hX.alloc _).trans E; replace ho := owns_ext (World.ownsRow.alloc ho _) E; clear E)
                    | (refine step_append_lies _ rfl _ _ 42 rfl w.heap.size 49 i0 _ 4 32 Try.underlying42 hi hz0 hz1 hz2 rfl (by omega) _ _ _ rfl (World.ownsRow.alloc ho _) ⟨_, 0, none⟩ 1 1 [.int .i64 (span s s).a, .int .i64 (span s s).b, .int .i64 (span s s).c, .int .i64 (span s s).d] rfl rfl (cells_new _ [_, _, _, _] _) (one_int4 _ _ _ _) (by omega) (len_le (by omega) (by omega)) (by omega) (hX.alloc _).le _ rfl ?_; intro gL cL wA hoA hgA hbA hlA; have hXA := (hX.alloc (.cells #[.int .i64 (span s s).a, .int .i64 (span s s).b, .int .i64 (span s s).c, .int .i64 (span s s).d] 49)).grown hgA (fun b hb => (ho.lt b hb).1)))
                replace hoA := hid hoA
                replace hXA := hid hXA
                clear hgA hbA hlA hX ho keepS y0 y1
                go_wp2_with fail
                go_ret2
                have hq := rr_done (q := some ⟨gL, 0, none⟩) (c := cL) (out := out ++ [span s s]) hr.out hfinA.out (by rw [List.length_append, List.flatMap_append]; exact hoA.out) hXA.out
                rw [List.length_append, List.length_singleton] at hq
                exact hq
              · exfalso; omega
      · have hfin := hid (hI.out.2 hgo)
        have g1 : ¬ (k : Int) + 1 < (n : Int) := by omega
        have g2 : ¬ (k : Int) = 0 := by omega
        clear hgo
        go_wp2_with fail
        go_ret2
        exact rr_done hr.out hfin.out ho hE
end Go.Proofs.Ytiljojpnbpdaeaa
