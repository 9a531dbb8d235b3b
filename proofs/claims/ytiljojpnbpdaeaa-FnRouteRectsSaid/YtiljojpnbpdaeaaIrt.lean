/- Contract of IsRoute (program). Condition: at most 2^20 rectangles and points. -/
import Derived.Test.YtiljojpnbpdaeaaIdx
import Derived.Test.YtiljojpnbpdaeaaMp2
import Derived.Test.YtiljojpnbpdaeaaReg
namespace Go.Proofs.Ytiljojpnbpdaeaa
open Go.RowKit

theorem has_any (B : Nat) (g : Grid) (x y : Int) (w : World) (h : Blk w B (gcells g) 140) :
    Calls Try.prog 85 #[.pointer (some ⟨B, 0, none⟩), .int .i64 x, .int .i64 y] w fun e w' => e = .returned (.bool (gh g x y)) ∧ Ext w w' := by
  have hcall := fun W => isUnitCell_any x y W
  have hBl := h.lt
  cases hc : onC x y with
  | false =>
    have hr : Hid (gh g x y = false) := gh_off hc
    rw [hc] at hcall
    clear hc
    go_enter Try.func85, Try.ntmps85
    go_wp2_with fail
    refine (hcall _).mono ?_
    rintro e w2 ⟨rfl, E2⟩
    clear hcall
    go_wp2_with fail
    go_ret
    exact ⟨ret_bool hr.out.symm, E2⟩
  | true =>
    have hr : Hid (gh g x y = g (atG x y)) := gh_on hc
    have hat := atG_lt hc
    have c0 := h.cells (atG x y)
    rw [gcells_get _ hat] at c0
    rw [hc] at hcall
    obtain ⟨⟨x0, x1⟩, y0, y1⟩ := onC_iff.1 hc
    have eat : (y + 40).toNat * 80 + (x + 40).toNat = atG x y := by rw [atG]; omega
    clear hc
    replace h := hid h
    go_enter Try.func85, Try.ntmps85
    go_wp2_with fail
    refine (hcall _).mono ?_
    rintro e w2 ⟨rfl, E2⟩
    have c2 := (E2.cells _ _ hBl).trans c0
    have hBl2 := Nat.lt_of_lt_of_le hBl E2.le
    clear hcall c0
    go_wp2_with fail
    go_ret
    exact ⟨ret_bool hr.out.symm, E2⟩
/-- The step k of a path is right. -/
def okAt (g : Grid) (l : List Q2) (k : Nat) : Bool := match l[k]? with
  | some p => onC p.a p.b && !gh g p.a p.b && !decide (p ∈ l.take k) && (decide (k = 0) || adjB (l.getD (k - 1) ⟨0, 0⟩) p)
  | none => true
/-- The path is a route around the unit cells of l. -/
def isRt (l : List Q4) (ps : List Q2) : Bool := isReg l && decide (0 < ps.length) && (List.range ps.length).all (okAt (gL l) ps)
theorem okAt_some {g : Grid} {l : List Q2} {k : Nat} {p : Q2} (h : l[k]? = some p) : okAt g l k = (onC p.a p.b && !gh g p.a p.b && !decide (p ∈ l.take k) && (decide (k = 0) || adjB (l.getD (k - 1) ⟨0, 0⟩) p)) := by rw [okAt, h]
theorem isRt_false {l : List Q4} {ps : List Q2} {k : Nat} (hk : k < ps.length) (h : okAt (gL l) ps k = false) : isRt l ps = false := by
  rw [isRt]
  have : (List.range ps.length).all (okAt (gL l) ps) = false := by
    rw [List.all_eq_false]
    exact ⟨k, List.mem_range.2 hk, by rw [h]; simp⟩
  rw [this, Bool.and_false]
theorem isRt_true {l : List Q4} {ps : List Q2} (h1 : isReg l = true) (h2 : 0 < ps.length) (h : (List.range ps.length).all (okAt (gL l) ps) = true) : isRt l ps = true := by
  rw [isRt, h1, h]; simpa using h2
theorem all_range_snoc {f : Nat → Bool} {k : Nat} (h : (List.range k).all f = true) (hk : f k = true) : (List.range (k + 1)).all f = true := by
  rw [List.range_succ, List.all_append, h]; simpa using hk
theorem mem_take_snoc {l : List Q2} {k : Nat} {p : Q2} (h : l[k]? = some p) : (fun y => if y = p then true else decide (y ∈ l.take k)) = fun y => decide (y ∈ l.take (k + 1)) := by
  funext y
  rw [take_snoc h, Bool.eq_iff_iff]
  split
  · rename_i he; subst he; simp
  · rename_i he; simp [he]
theorem okP_on {p : Q2} (h : onC p.a p.b = true) : okP p := by
  rw [onC_iff] at h
  exact ⟨WalkArith.wf_i64 (by constructor <;> omega), WalkArith.wf_i64 (by constructor <;> omega)⟩
theorem zeroB (w : World) : (zeroValue 4).run Try.prog w = .ok (.bool false) w := Try.zeroValue4 w
theorem kP_inj : ∀ y z, okP y → okP z → kP y = kP z → y = z := fun y z hy hz h => by
  have := lawP.inj (keyP hy) (h ▸ keyP hz)
  rw [V2, V2] at this
  obtain ⟨a, b⟩ := y
  obtain ⟨c, d⟩ := z
  simp at this
  simp [this]
theorem kP_key : ∀ y, okP y → WideAt.IsKeyLit (kP y) := fun _ hy => lawP.key (keyP hy)
abbrev MapPB (w : World) (M n : Nat) (f : Q2 → Bool) : Prop := MapBo Try.prog 47 4 kP okP w M n f
set_option maxRecDepth 100000 in
set_option maxHeartbeats 4000000 in
theorem IsRoute_any (q : Option Addr) (n c : Nat) (l : List Q4) (q2 : Option Addr) (n2 c2 : Nat) (ps : List Q2) (w : World) (h : SlT enc4 4 w q n l) (h2 : SlT enc2 2 w q2 n2 ps) (hn : n ≤ 1048576) (hn2 : n2 ≤ 1048576) :
    Calls Try.prog 48 #[.slice q n c, .slice q2 n2 c2] w fun e w' => e = .returned (.bool (isRt l ps)) ∧ Ext w w' := by
  have hl2 := hid h2.length
  have hcall := IsRegion_any q n c l w h hn
  cases h1 : isReg l with
  | false =>
    have hr : Hid (false = isRt l ps) := by show _ = _; rw [isRt, h1]; rfl
    rw [h1] at hcall
    clear h1
    go_enter Try.func48, Try.ntmps48
    go_wp2_with fail
    refine hcall.mono ?_
    rintro e w2 ⟨rfl, E2⟩
    go_wp2_with fail
    go_ret
    exact ⟨ret_bool hr.out, E2⟩
  | true =>
    rw [h1] at hcall
    by_cases h0 : n2 = 0
    · have hr : Hid (false = isRt l ps) := by show _ = _; rw [isRt, hl2.out, h0]; simp
      subst h0
      clear h1
      go_enter Try.func48, Try.ntmps48
      go_wp2_with fail
      refine hcall.mono ?_
      rintro e w2 ⟨rfl, E2⟩
      go_wp2_with fail
      go_ret
      exact ⟨ret_bool hr.out, E2⟩
    · have hvs := hid (vRs_parts (isReg_iff.1 h1).1).2
      have h1' := hid h1
      have hd : ((n2 : Int) == 0) = false := by simpa using h0
      clear h1
      go_enter Try.func48, Try.ntmps48
      go_wp2_with fail
      refine hcall.mono ?_
      rintro e w2 ⟨rfl, E2⟩
      clear hcall
      go_wp2_with fail
      refine (cellsOf_any q n c l _ (h.ext E2) hn (fun r hr => vR_near (hvs.out r hr))).mono ?_
      rintro e w3 ⟨B, rfl, hB, b3, E3⟩
      have hmm := @run_makeMap Try.prog
      go_wp2_with fail
      clear hmm
      generalize hW : w3.alloc _ = W4
      obtain ⟨E4, z4, m4⟩ := boxes1 hW
      have hM0 : MapPB W4 w3.heap.size 0 (fun y => decide (y ∈ ps.take 0)) := by
        have := MapBo.made (P := Try.prog) (K := 47) (E := 4) (kl := kP) (ok := okP) w3
        rw [hW] at this
        simpa using this
      clear hW m4
      have b4 := hid (b3.ext E4)
      have hE4 := hid ((E2.trans E3).trans E4)
      have hBM : Hid (w.heap.size ≤ w3.heap.size) := (E2.trans E3).le
      have hBne : Hid (B < w3.heap.size) := b3.lt
      obtain ⟨M, hM⟩ : ∃ M, M = w3.heap.size := ⟨_, rfl⟩
      rw [← hM] at hM0 hBM hBne ⊢
      replace hM := hid hM
      replace z4 := hid z4
      clear b3 E2 E3 E4 hB
      go_loopw [22] (fun i wr => ∃ k : Nat, k ≤ n2 ∧ i = .int .i64 k ∧ MapPB wr M k (fun y => decide (y ∈ ps.take k)) ∧ Blk wr B (gcells (gL l)) 140 ∧ Hid ((List.range k).all (okAt (gL l) ps) = true) ∧ Ext w wr) (fun i _ => n2 - (intOf i).toNat)
      case atStart => exact ⟨0, by omega, rfl, hM0, b4.out, (by show _ = _; rfl), hE4.out⟩
      case round =>
        clear hM0 b4 hE4
        obtain ⟨k, hk, rfl, hm, hb, hA, hE⟩ := hrel
        by_cases hlt : k < n2
        · obtain ⟨bp, op, p, rfl, hbp, hp, p0, p1⟩ := (h2.ext hE).two hlt
          have hkI : (k : Int) < n2 := by omega
          have hok := hid (okAt_some (g := gL l) hp.out)
          have hlk := hid hl2.out
          have hu := fun W => isUnitCell_any p.a p.b W
          replace hm := hid hm
          replace hb := hid hb
          cases hc : onC p.a p.b with
          | false =>
            have hr : Hid (false = isRt l ps) := (isRt_false (by rw [hl2.out]; exact hlt) (by rw [hok.out, hc]; rfl)).symm
            rw [hc] at hu
            clear hc
            go_wp2_with fail
            generalize hW : wr.alloc _ = W1
            obtain ⟨E1, z1, b1⟩ := boxes1 hW
            clear hW
            replace hu := hid hu
            have g := (show Blk W1 wr.heap.size [_, _] _ from b1).cells
            have g0 := g 0
            have g1 := g 1
            simp only [List.getElem?_cons_zero, List.getElem?_cons_succ] at g0 g1
            have hBl : wr.heap.size < W1.heap.size := by omega
            clear g b1
            refine wp_region_later (by kernel_rfl) (by kernel_rfl) ?_
            repeat (go_big_quiet_step ((go_at_call 84; exact later_of (hu.out _))))
            refine wpQuiet_nil ?_
            rintro w5 ⟨⟨_, E5⟩, rfl⟩
            clear g0 g1
            go_wp2_with fail
            go_ret
            exact ⟨ret_bool hr.out, (hE.trans E1).trans E5⟩
          | true =>
            rw [hc] at hu
            have hh := fun W (hW : Blk W B (gcells (gL l)) 140) => has_any B (gL l) p.a p.b W hW
            have hokp := hid (okP_on hc)
            have hcc := hid hc
            cases hg : gh (gL l) p.a p.b with
            | true =>
              have hr : Hid (false = isRt l ps) := (isRt_false (by rw [hl2.out]; exact hlt) (by rw [hok.out, hc, hg]; rfl)).symm
              rw [hg] at hh
              clear hg hc
              go_wp2_with fail
              generalize hW : wr.alloc _ = W1
              obtain ⟨E1, z1, b1⟩ := boxes1 hW
              clear hW
              replace hu := hid hu
              replace hh := hid hh
              have g := (show Blk W1 wr.heap.size [_, _] _ from b1).cells
              have g0 := g 0
              have g1 := g 1
              simp only [List.getElem?_cons_zero, List.getElem?_cons_succ] at g0 g1
              have hBl : wr.heap.size < W1.heap.size := by omega
              have hb1 := hid (hb.out.ext E1)
              clear g b1
              refine wp_region_later (by kernel_rfl) (by kernel_rfl) ?_
              repeat (go_big_quiet_step ((first | (go_at_call 84; exact later_of (hu.out _)) | (go_at_call 85; exact later_of (hh.out _ (hb1.out.ext (Later.ok _)))))))
              refine wpQuiet_nil ?_
              rintro w5 ⟨⟨_, E5⟩, rfl⟩
              clear g0 g1
              go_wp2_with fail
              go_ret
              exact ⟨ret_bool hr.out, (hE.trans E1).trans E5⟩
            | false =>
              rw [hg] at hh
              have hgg := hid hg
              by_cases hin : p ∈ ps.take k
              · have hr : Hid (false = isRt l ps) := (isRt_false (by rw [hl2.out]; exact hlt) (by rw [hok.out, hc, hg]; simp [hin])).symm
                replace hin : Hid (decide (p ∈ ps.take k) = true) := decide_eq_true hin
                clear hg hc
                go_wp2_with fail
                generalize hW : wr.alloc _ = W1
                obtain ⟨E1, z1, b1⟩ := boxes1 hW
                clear hW
                replace hu := hid hu
                replace hh := hid hh
                have g := (show Blk W1 wr.heap.size [_, _] _ from b1).cells
                have g0 := g 0
                have g1 := g 1
                simp only [List.getElem?_cons_zero, List.getElem?_cons_succ] at g0 g1
                have hBl : wr.heap.size < W1.heap.size := by omega
                have hb1 := hid (hb.out.ext E1)
                have hm1 := hid (hm.out.ext E1)
                have hlk : ∀ z : Later W1, (Instr.lookup 131 (.map (some M)) (.agg #[.int .i64 p.a, .int .i64 p.b]) false).run Try.prog z.val = .ok (.bool (decide (p ∈ ps.take k))) z.val := fun z => (hm1.out.ext z.ok).run_get lawP Try.underlying131 Try.underlying4 (zeroB _) hokp.out (keyP hokp.out)
                rw [hin.out] at hlk
                clear g b1
                refine wp_region_later (by kernel_rfl) (by kernel_rfl) ?_
                repeat (go_big_quiet_step ((first | (go_at_call 84; exact later_of (hu.out _)) | (go_at_call 85; exact later_of (hh.out _ (hb1.out.ext (Later.ok _)))))))
                refine wpQuiet_nil ?_
                rintro w5 ⟨⟨_, E5⟩, rfl⟩
                clear g0 g1
                clear hlk
                go_wp2_with fail
                go_ret
                exact ⟨ret_bool hr.out, (hE.trans E1).trans E5⟩
              · replace hin : Hid (decide (p ∈ ps.take k) = false) := decide_eq_false hin
                clear hg hc
                by_cases hk0 : k = 0
                · have hA2 : Hid ((List.range (k + 1)).all (okAt (gL l) ps) = true) := all_range_snoc hA.out (by rw [hok.out, hcc.out, hgg.out, hin.out]; simp [hk0])
                  have hk0I : decide ((0 : Int) < (k : Int)) = false := by simp; omega
                  have hk0N : decide (0 < k) = false := by simp; omega
                  have hsnoc := hid (mem_take_snoc hp.out)
                  clear hA
                  replace hk0 := hid hk0
                  go_wp2_with fail
                  generalize hW : wr.alloc _ = W1
                  obtain ⟨E1, z1, b1⟩ := boxes1 hW
                  clear hW
                  replace hu := hid hu
                  replace hh := hid hh
                  have g := (show Blk W1 wr.heap.size [_, _] _ from b1).cells
                  have g0 := g 0
                  have g1 := g 1
                  simp only [List.getElem?_cons_zero, List.getElem?_cons_succ] at g0 g1
                  have hBl : wr.heap.size < W1.heap.size := by omega
                  have hb1 := hid (hb.out.ext E1)
                  have hm1 := hid (hm.out.ext E1)
                  have hlk : ∀ z : Later W1, (Instr.lookup 131 (.map (some M)) (.agg #[.int .i64 p.a, .int .i64 p.b]) false).run Try.prog z.val = .ok (.bool (decide (p ∈ ps.take k))) z.val := fun z => (hm1.out.ext z.ok).run_get lawP Try.underlying131 Try.underlying4 (zeroB _) hokp.out (keyP hokp.out)
                  rw [hin.out] at hlk
                  clear g b1
                  refine wp_region_later (by kernel_rfl) (by kernel_rfl) ?_
                  repeat (go_big_quiet_step ((first | (go_at_call 84; exact later_of (hu.out _)) | (go_at_call 85; exact later_of (hh.out _ (hb1.out.ext (Later.ok _)))))))
                  refine wpQuiet_nil ?_
                  rintro w5 ⟨⟨_, E5⟩, rfl⟩
                  replace g0 := (E5.cells _ 0 hBl).trans g0
                  replace g1 := (E5.cells _ 1 hBl).trans g1
                  clear hlk
                  have hm5 := hid (hm1.out.ext E5)
                  have hb5 := hid (hb1.out.ext E5)
                  have hE5 := hid ((hE.trans E1).trans E5)
                  have hBl5 : wr.heap.size < w5.heap.size := by have := E5.le; omega
                  clear hE E5 E1
                  go_wp2_with (refine wpList_putb rfl _ _ _ 131 rfl lawP Try.underlying131 Try.underlying4 kP_inj kP_key rfl hm5.out (by unfold maxLen; omega) p hokp.out (V2 p) rfl (keyP hokp.out) true rfl ?_; intro w6 hm6 hg6)
                  rw [hsnoc.out] at hm6
                  have hb6 := hid (show Blk w6 B _ _ from (hg6.block B hb5.out.lt (by have := hBne.out; simp; omega)).trans hb5.out)
                  have hE6 := hid (grown_ext hE5.out hg6 hBM.out)
                  replace hm6 := hid hm6
                  clear hg6
                  go_wp2_with fail
                  go_roundw
                  case rel => exact ⟨k + 1, by omega, by go_num, hm6.out, hb6.out, hA2, hE6.out⟩
                  case measure => simp [intOf]; omega
                · have hkP : 0 < k := by omega
                  obtain ⟨bq, oq, pr, hpb, hbq, hpr, r0, r1⟩ := (h2.ext hE).two (k := k - 1) (by omega)
                  cases hpb
                  have hprn : Hid (NearP pr) := by
                    have h1 := List.all_eq_true.1 hA.out (k - 1) (List.mem_range.2 (by omega))
                    rw [okAt_some hpr.out, Bool.and_eq_true, Bool.and_eq_true, Bool.and_eq_true] at h1
                    exact onC_near h1.1.1.1
                  have hprL : Hid (ps.getD (k - 1) ⟨0, 0⟩ = pr) := getD_of hpr.out
                  have hnl := nearL_len pr
                  have hkPI : (0 : Int) < (k : Int) := by omega
                  have hwm : IntKind.i64.wrap ((k : Int) - 1) = (k : Int) - 1 := IntWalk.i64_in _ (by omega)
                  have hwt : ((k : Int) - 1).toNat = k - 1 := by omega
                  have hw0 : (0 : Int) ≤ (k : Int) - 1 := by omega
                  have hw1 : (k : Int) - 1 < (n2 : Int) := by omega
                  have hw2 : (1 : Int) ≤ (k : Int) := by omega
                  have hsnoc := hid (mem_take_snoc hp.out)
                  have hadj := hid (adj_near (a := pr) (b := p) hcc.out)
                  cases hj : adjB pr p with
                  | false =>
                    have hr : Hid (false = isRt l ps) := (isRt_false (by rw [hl2.out]; exact hlt) (by rw [hok.out, hcc.out, hgg.out, hin.out, hprL.out, hj]; simp; omega)).symm
                    have hjj := hid hj
                    have hct := hid (hadj.out.trans hj)
                    clear hj
                    go_wp2_with fail
                    generalize hW : wr.alloc _ = W1
                    obtain ⟨E1, z1, b1⟩ := boxes1 hW
                    clear hW
                    replace hu := hid hu
                    replace hh := hid hh
                    have g := (show Blk W1 wr.heap.size [_, _] _ from b1).cells
                    have g0 := g 0
                    have g1 := g 1
                    simp only [List.getElem?_cons_zero, List.getElem?_cons_succ] at g0 g1
                    have hBl : wr.heap.size < W1.heap.size := by omega
                    have hb1 := hid (hb.out.ext E1)
                    have hm1 := hid (hm.out.ext E1)
                    have hlk : ∀ z : Later W1, (Instr.lookup 131 (.map (some M)) (.agg #[.int .i64 p.a, .int .i64 p.b]) false).run Try.prog z.val = .ok (.bool (decide (p ∈ ps.take k))) z.val := fun z => (hm1.out.ext z.ok).run_get lawP Try.underlying131 Try.underlying4 (zeroB _) hokp.out (keyP hokp.out)
                    rw [hin.out] at hlk
                    clear g b1
                    have hS : Hid (∀ W', Ext W1 W' → W'.cell? ⟨wr.heap.size, 0, none⟩ = some (.int .i64 p.a) ∧ W'.cell? ⟨wr.heap.size, 1, none⟩ = some (.int .i64 p.b) ∧ W'.cell? ⟨bp, op + (k - 1) * 2, none⟩ = some (.int .i64 pr.a) ∧ W'.cell? ⟨bp, op + (k - 1) * 2 + 1, none⟩ = some (.int .i64 pr.b) ∧ (Instr.lookup 131 (.map (some M)) (.agg #[.int .i64 p.a, .int .i64 p.b]) false).run Try.prog W' = .ok (.bool false) W') := fun W' hW' =>
                      ⟨(hW'.cells _ 0 hBl).trans g0, (hW'.cells _ 1 hBl).trans g1, ((E1.trans hW').cells _ _ hbp).trans r0, ((E1.trans hW').cells _ _ hbp).trans r1, hlk ⟨W', hW'⟩⟩
                    obtain ⟨s0, s1, s2, s3, -⟩ := hS.out W1 (Ext.refl _)
                    clear r0 r1 hlk g0 g1 p0 p1
                    go_region_held3 (fun W' => W'.cell? ⟨wr.heap.size, 0, none⟩ = some (.int .i64 p.a) ∧ W'.cell? ⟨wr.heap.size, 1, none⟩ = some (.int .i64 p.b) ∧ W'.cell? ⟨bp, op + (k - 1) * 2, none⟩ = some (.int .i64 pr.a) ∧ W'.cell? ⟨bp, op + (k - 1) * 2 + 1, none⟩ = some (.int .i64 pr.b) ∧ (Instr.lookup 131 (.map (some M)) (.agg #[.int .i64 p.a, .int .i64 p.b]) false).run Try.prog W' = .ok (.bool false) W')
                      (first | exact hS.out _ (Ext.refl _) | exact hS.out _ (Ext.refl _).drew | exact hS.out _ ((Ext.refl W1).drew.trans E6) | exact hS.out _ (((Ext.refl W1).drew.trans E6).trans E7) | exact hS.out _ ((((Ext.refl W1).drew.trans E6).trans E7).trans E8) | exact hS.out _ (((((Ext.refl W1).drew.trans E6).trans E7).trans E8).trans E9))
                      (first | (go_at_call 84; refine (hu.out _).mono ?_; rintro e w6 ⟨rfl, E6⟩) | (go_at_call 85; refine (hh.out _ (hb1.out.ext ((Ext.refl W1).drew.trans E6))).mono ?_; rintro e w7 ⟨rfl, E7⟩) | (go_at_call 87; refine (near_any pr _ hprn.out).mono ?_; rintro e w8 ⟨qn, cn, rfl, on, E8⟩) | (go_at_call 86; refine (containsPt_any qn _ cn (nearL pr) p _ (SlT.of_owns (l := nearL pr) enc2_len rfl on) (by omega)).mono ?_; rw [hct.out]; rintro e w9 ⟨rfl, E9⟩))
                    have hE9 := hid ((((((hE.trans E1).trans ((Ext.refl W1).drew)).trans E6).trans E7).trans E8).trans E9)
                    clear on E6 E7 E8 E9 s0 s1 s2 s3 hwm hwt hw0
                    go_wp2_with fail
                    go_ret
                    exact ⟨ret_bool hr.out, hE9.out⟩
                  | true =>
                    have hA2 : Hid ((List.range (k + 1)).all (okAt (gL l) ps) = true) := all_range_snoc hA.out (by rw [hok.out, hcc.out, hgg.out, hin.out, hprL.out, hj]; simp)
                    clear hA
                    have hjj := hid hj
                    have hct := hid (hadj.out.trans hj)
                    clear hj
                    go_wp2_with fail
                    generalize hW : wr.alloc _ = W1
                    obtain ⟨E1, z1, b1⟩ := boxes1 hW
                    clear hW
                    replace hu := hid hu
                    replace hh := hid hh
                    have g := (show Blk W1 wr.heap.size [_, _] _ from b1).cells
                    have g0 := g 0
                    have g1 := g 1
                    simp only [List.getElem?_cons_zero, List.getElem?_cons_succ] at g0 g1
                    have hBl : wr.heap.size < W1.heap.size := by omega
                    have hb1 := hid (hb.out.ext E1)
                    have hm1 := hid (hm.out.ext E1)
                    have hlk : ∀ z : Later W1, (Instr.lookup 131 (.map (some M)) (.agg #[.int .i64 p.a, .int .i64 p.b]) false).run Try.prog z.val = .ok (.bool (decide (p ∈ ps.take k))) z.val := fun z => (hm1.out.ext z.ok).run_get lawP Try.underlying131 Try.underlying4 (zeroB _) hokp.out (keyP hokp.out)
                    rw [hin.out] at hlk
                    clear g b1
                    have hS : Hid (∀ W', Ext W1 W' → W'.cell? ⟨wr.heap.size, 0, none⟩ = some (.int .i64 p.a) ∧ W'.cell? ⟨wr.heap.size, 1, none⟩ = some (.int .i64 p.b) ∧ W'.cell? ⟨bp, op + (k - 1) * 2, none⟩ = some (.int .i64 pr.a) ∧ W'.cell? ⟨bp, op + (k - 1) * 2 + 1, none⟩ = some (.int .i64 pr.b) ∧ (Instr.lookup 131 (.map (some M)) (.agg #[.int .i64 p.a, .int .i64 p.b]) false).run Try.prog W' = .ok (.bool false) W') := fun W' hW' =>
                      ⟨(hW'.cells _ 0 hBl).trans g0, (hW'.cells _ 1 hBl).trans g1, ((E1.trans hW').cells _ _ hbp).trans r0, ((E1.trans hW').cells _ _ hbp).trans r1, hlk ⟨W', hW'⟩⟩
                    obtain ⟨s0, s1, s2, s3, -⟩ := hS.out W1 (Ext.refl _)
                    clear r0 r1 hlk g0 g1 p0 p1
                    go_region_held3 (fun W' => W'.cell? ⟨wr.heap.size, 0, none⟩ = some (.int .i64 p.a) ∧ W'.cell? ⟨wr.heap.size, 1, none⟩ = some (.int .i64 p.b) ∧ W'.cell? ⟨bp, op + (k - 1) * 2, none⟩ = some (.int .i64 pr.a) ∧ W'.cell? ⟨bp, op + (k - 1) * 2 + 1, none⟩ = some (.int .i64 pr.b) ∧ (Instr.lookup 131 (.map (some M)) (.agg #[.int .i64 p.a, .int .i64 p.b]) false).run Try.prog W' = .ok (.bool false) W')
                      (first | exact hS.out _ (Ext.refl _) | exact hS.out _ (Ext.refl _).drew | exact hS.out _ ((Ext.refl W1).drew.trans E6) | exact hS.out _ (((Ext.refl W1).drew.trans E6).trans E7) | exact hS.out _ ((((Ext.refl W1).drew.trans E6).trans E7).trans E8) | exact hS.out _ (((((Ext.refl W1).drew.trans E6).trans E7).trans E8).trans E9))
                      (first | (go_at_call 84; refine (hu.out _).mono ?_; rintro e w6 ⟨rfl, E6⟩) | (go_at_call 85; refine (hh.out _ (hb1.out.ext ((Ext.refl W1).drew.trans E6))).mono ?_; rintro e w7 ⟨rfl, E7⟩) | (go_at_call 87; refine (near_any pr _ hprn.out).mono ?_; rintro e w8 ⟨qn, cn, rfl, on, E8⟩) | (go_at_call 86; refine (containsPt_any qn _ cn (nearL pr) p _ (SlT.of_owns (l := nearL pr) enc2_len rfl on) (by omega)).mono ?_; rw [hct.out]; rintro e w9 ⟨rfl, E9⟩))
                    have hEc := ((((Ext.refl W1).drew.trans E6).trans E7).trans E8).trans E9
                    obtain ⟨g0, g1, -⟩ := hS.out w9 hEc
                    have hm5 := hid (hm1.out.ext hEc)
                    have hb5 := hid (hb1.out.ext hEc)
                    have hE5 := hid ((hE.trans E1).trans hEc)
                    have hBl5 : wr.heap.size < w9.heap.size := by have := hEc.le; omega
                    clear hE E1 on E6 E7 E8 E9 hEc s0 s1 s2 s3 hwm hwt hw0
                    go_wp2_with (refine wpList_putb rfl _ _ _ 131 rfl lawP Try.underlying131 Try.underlying4 kP_inj kP_key rfl hm5.out (by unfold maxLen; omega) p hokp.out (V2 p) rfl (keyP hokp.out) true rfl ?_; intro w10 hm6 hg6)
                    rw [hsnoc.out] at hm6
                    have hb6 := hid (show Blk w10 B _ _ from (hg6.block B hb5.out.lt (by have := hBne.out; simp; omega)).trans hb5.out)
                    have hE6 := hid (grown_ext hE5.out hg6 hBM.out)
                    replace hm6 := hid hm6
                    clear hg6
                    go_wp2_with fail
                    go_roundw
                    case rel => exact ⟨k + 1, by omega, by go_num, hm6.out, hb6.out, hA2, hE6.out⟩
                    case measure => simp [intOf]; omega
        · have hr : Hid (true = isRt l ps) := by
            have := hA.out
            rw [show k = ps.length by rw [hl2.out]; omega] at this
            exact (isRt_true h1'.out (by rw [hl2.out]; omega) this).symm
          have hkI : ¬ (k : Int) < n2 := by omega
          go_wp2_with fail
          go_ret
          exact ⟨ret_bool hr.out, hE⟩
end Go.Proofs.Ytiljojpnbpdaeaa
