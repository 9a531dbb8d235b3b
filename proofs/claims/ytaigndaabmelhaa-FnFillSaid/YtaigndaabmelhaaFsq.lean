/- Contract of FillSquares (program). Condition: at most 2^20 rectangles. -/
import Derived.Test.YtaigndaabmelhaaFil
import Derived.Test.YtaigndaabmelhaaIsd
import Derived.Test.YtaigndaabmelhaaBfs
namespace Go.Proofs.Ytaigndaabmelhaa
open Go.RowKit

def fsS (l : List Q4) (s p sz gap : Int) : FS := fillL p sz gap (winL s) (gL l, gnone, 0)
/-- The code of FillSquares. -/
def fsC (l : List Q4) (s p sz gap : Int) : Int := if isReg l = false then 1 else if (wit s 4 40 && wit p 1 100 && wit sz 1 8 && wit gap 0 8) = false then 2 else if 400 < (fsS l s p sz gap).2.2 then 3 else 0
def fsL (l : List Q4) (s p sz gap : Int) : List Q4 := if fsC l s p sz gap = 0 then canon (fsS l s p sz gap).2.1 else []
def FsB (l : List Q4) (s p sz gap : Int) (w : World) (e : Ending) (w' : World) : Prop := ∃ q d, e = .returned (.tuple #[.slice q (fsL l s p sz gap).length d, .int .i64 (fsC l s p sz gap)]) ∧ w'.ownsRow w.heap.size 50 4 (.slice q (fsL l s p sz gap).length d) (fsL l s p sz gap).length ((fsL l s p sz gap).flatMap enc4) ∧ Ext w w'
theorem fs_none {l : List Q4} {s p sz gap c : Int} {w w' : World} (h : fsC l s p sz gap = c) (hc : c ≠ 0) (hE : Ext w w') : FsB l s p sz gap w (.returned (.tuple #[.slice none 0 0, .int .i64 c])) w' := by
  refine ⟨none, 0, ?_, ?_, hE⟩
  · rw [fsL, h, if_neg hc]; rfl
  · rw [fsL, h, if_neg hc]; exact World.ownsRow_nil _ _ _ _
theorem cells_pair {w : World} {B : Nat} {cs ds : List Value} {t : TypeId} (h : Blk w B cs t) (e : cs = ds) : Blk w B ds t := e ▸ h
theorem owns_lowF {w : World} {b b' size n : Nat} {e : TypeId} {v : Value} {xs : List Value} (h : w.ownsRow b e size v n xs) (hb : b' ≤ b) : w.ownsRow b' e size v n xs :=
  ⟨h.1, h.2.elim Or.inl (fun ⟨g, cap, cur, hv, hg, r⟩ => Or.inr ⟨g, cap, cur, hv, Nat.le_trans hb hg, r⟩)⟩
set_option maxRecDepth 100000 in
set_option maxHeartbeats 16000000 in
theorem fill_ok (q : Option Addr) (n c : Nat) (l : List Q4) (s p sz gap : Int) (w : World) (h : SlT enc4 4 w q n l) (hn : n ≤ 1048576) (h1 : isReg l = true) (h2 : wit s 4 40 = true) (h3 : wit p 1 100 = true) (h4 : wit sz 1 8 = true) (h5 : wit gap 0 8 = true) :
    Calls Try.prog 53 #[.slice q n c, .int .i64 s, .int .i64 p, .int .i64 sz, .int .i64 gap] w (FsB l s p sz gap w) := by
  have hc1 := fun W (hW : Ext w W) => IsRegion_any q n c l W (h.ext hW) hn
  rw [h1] at hc1
  have k2 := fun W => within_any s 4 40 W
  have k3 := fun W => within_any p 1 100 W
  have k4 := fun W => within_any sz 1 8 W
  have k5 := fun W => within_any gap 0 8 W
  have hws := fun W => DensityWindows_any s W h2
  have hcov := fun W (hW : Ext w W) (r : Q4) (hr : vR r = true) => coveredCells_any q n c l r W (h.ext hW) hn (isReg_parts h1).2 hr
  have hC : Hid (fsC l s p sz gap = if 400 < (fsS l s p sz gap).2.2 then 3 else 0) := by show _ = _; rw [fsC, h1, h2, h3, h4, h5]; rfl
  have hvs := hid (isReg_parts h1).2
  have hcb := hid (fun (r : Q4) (hr : vR r = true) => cov_bd6 h1 hr)
  have hcr := hid (fun (r : Q4) (hr : vR r = true) => (show covL l r = cntB (gh (gL l)) r from cov_reg h1 r (by rw [vR_iff] at hr; omega)))
  rw [h2] at k2
  rw [h3] at k3
  rw [h4] at k4
  rw [h5] at k5
  rw [wit_iff] at h2 h3 h4 h5
  obtain ⟨hs0, hs1⟩ := h2
  obtain ⟨hp0, hp1⟩ := h3
  obtain ⟨hz0, hz1⟩ := h4
  obtain ⟨hg0, hg1⟩ := h5
  have hwv := hid (winL_in (s := s) (by omega))
  have hwl := winL_len hs0
  have hdis := hid (winL_dis (s := s) (by omega))
  replace hc1 := hid hc1
  replace k2 := hid k2
  replace k3 := hid k3
  replace k4 := hid k4
  replace k5 := hid k5
  replace hws := hid hws
  replace hcov := hid hcov
  have h := hid h
  clear h1
  go_enter Try.func53, Try.ntmps53
  go_wp2_with fail
  refine (hc1.out _ (Ext.refl _)).mono ?_
  rintro e w1 ⟨rfl, E1⟩
  go_wp2_with fail
  refine (k2.out _).mono ?_
  rintro e w' ⟨rfl, rfl⟩
  go_wp2_with fail
  refine (k3.out _).mono ?_
  rintro e w' ⟨rfl, rfl⟩
  go_wp2_with fail
  refine (k4.out _).mono ?_
  rintro e w' ⟨rfl, rfl⟩
  go_wp2_with fail
  refine (k5.out _).mono ?_
  rintro e w' ⟨rfl, rfl⟩
  go_wp2_with fail
  refine (cellsOf_any q n c l _ (h.out.ext E1) hn (fun r hr => vR_near (hvs.out r hr))).mono ?_
  rintro e w2 ⟨B, rfl, hBw, bB, E2⟩
  have hE2 := hid (E1.trans E2)
  have bB := hid bB
  clear E2
  go_wp2_with fail
  generalize hW : w2.alloc _ = W0
  obtain ⟨E0, z0, bO⟩ := boxes1 hW
  clear hW
  rw [zeroCells] at bO
  obtain ⟨O, hO⟩ : ∃ O, O = w2.heap.size := ⟨_, rfl⟩
  rw [← hO] at bO ⊢
  have bO := hid (show Blk W0 O (gcells gnone) 109 from bO)
  have hBO : B < O := by rw [hO]; exact bB.out.lt
  have hOW : O < W0.heap.size := bO.out.lt
  have hwB : w.heap.size ≤ B := by have := E1.le; omega
  replace bB := hid (bB.out.ext E0)
  replace hE2 := hid (hE2.out.trans E0)
  replace hO := hid hO
  replace z0 := hid z0
  clear E0 E1 hBw
  refine (hws.out _).mono ?_
  rintro e w3 ⟨q3, c3, rfl, o3, E3⟩
  have hq3 := hid (show ∀ a, q3 = some a → O < a.block from fun a ha => by have := (o3.lt a.block (by rw [ha]; rfl)).1; omega)
  have s3 := hid (SlT.of_owns (l := winL s) enc4_len rfl o3)
  replace bB := hid (bB.out.ext E3)
  replace bO := hid (bO.out.ext E3)
  replace hE2 := hid (hE2.out.trans E3)
  clear o3 E3 hOW
  obtain ⟨N, hN⟩ : ∃ N, N = (winL s).length := ⟨_, rfl⟩
  rw [← hN] at s3 hwl ⊢
  replace hN := hid hN
  go_wp2_with fail
  go_loopw [14, 51] (fun m i wr => ∃ (k : Nat) (S : FS), k ≤ N ∧ i = .int .i64 k ∧ m = .int .i64 S.2.2 ∧ 0 ≤ S.2.2 ∧ S.2.2 ≤ 10000 * (k : Int) ∧ Hid (fillL p sz gap ((winL s).drop k) S = fsS l s p sz gap) ∧ Hid (∀ (j : Nat) r, k ≤ j → (winL s)[j]? = some r → cntB (gh S.1) r = covL l r) ∧ Hid (Blk wr B (gcells S.1) 109) ∧ Hid (Blk wr O (gcells S.2.1) 109) ∧ Hid (SlT enc4 4 wr q3 N (winL s)) ∧ Hid (Ext w wr)) (fun _ i _ => N - (intOf i).toNat)
  case atStart => exact ⟨0, (gL l, gnone, 0), by omega, rfl, rfl, by simp, by simp, hid rfl, hid (fun j r _ hr => (hcr.out r (hwv.out r (List.mem_of_getElem? hr))).symm), bB, bO, s3, hE2⟩
  case round =>
    clear bB bO s3 hE2
    obtain ⟨k, S, hk, rfl, rfl, hS0, hS1, hT, hcnt, bB, bO, s3, hE⟩ := hrel
    by_cases hlt : k < N
    · have hkI : (k : Int) < (N : Int) := by omega
      obtain ⟨b3, o3, r, rfl, hb3, hr, c0, c1, c2, c3'⟩ := s3.out.four hlt
      have hvr := hid (hwv.out r (List.mem_of_getElem? hr.out))
      have hvr2 := vR_iff.1 hvr.out
      obtain ⟨⟨r0, r1, r2⟩, r3, r4, r5⟩ := hvr2
      have hCk := hid (hcnt.out k r (Nat.le_refl _) hr.out)
      go_wp2_with fail
      generalize hW : wr.alloc _ = V0
      obtain ⟨E0, z0, bP⟩ := boxes1 hW
      clear hW
      obtain ⟨P, hP⟩ : ∃ P, P = wr.heap.size := ⟨_, rfl⟩
      rw [← hP] at bP ⊢
      have bP := hid (show Blk V0 P [.int .i64 r.a, .int .i64 r.b, .int .i64 r.c, .int .i64 r.d] 50 from bP)
      have hOP : O < P := by rw [hP]; exact bO.out.lt
      have hb3P : b3 < P := by rw [hP]; exact hb3
      have hOb3 : O < b3 := hq3.out _ rfl
      have hPw : w.heap.size ≤ P := by omega
      replace hP := hid hP
      replace z0 := hid z0
      clear c0 c1 c2 c3' hb3
      replace bB := hid (bB.out.ext E0)
      replace bO := hid (bO.out.ext E0)
      replace s3 := hid (s3.out.ext E0)
      replace hE := hid (hE.out.trans E0)
      refine (hcov.out _ hE.out r hvr.out).mono ?_
      obtain ⟨C, hC9⟩ : ∃ C, C = covL l r := ⟨_, rfl⟩
      have hCb := hcb.out r hvr.out
      rw [← hC9] at hCk hCb ⊢
      rintro e w5 ⟨rfl, E5⟩
      replace hC9 := hid hC9
      replace bB := hid (bB.out.ext E5)
      replace bO := hid (bO.out.ext E5)
      replace s3 := hid (s3.out.ext E5)
      replace bP := hid (bP.out.ext E5)
      replace hE := hid (hE.out.trans E5)
      clear E0 E5
      obtain ⟨T2, hT2⟩ : ∃ T2, T2 = fillR r p sz gap S := ⟨_, rfl⟩
      have hTT : Hid (fillL p sz gap ((winL s).drop (k + 1)) T2 = fsS l s p sz gap) := by
        show _ = _
        rw [← hT.out, drop_get hr.out, fillL, hT2]
      have hT2b : Hid (fY r p sz gap r.b S = T2) := hT2.symm
      have hcnt2 : Hid (∀ (j : Nat) t, k + 1 ≤ j → (winL s)[j]? = some t → cntB (gh T2.1) t = covL l t) := fun j t hj ht => by
        rw [hT2, cnt_later hvr.out hz0 hg0 ?_]
        · exact hcnt.out j t (by omega) ht
        · have hd := hdis.out
          rw [List.pairwise_iff_getElem] at hd
          obtain ⟨hk1, hk2⟩ := List.getElem?_eq_some_iff.1 hr.out
          obtain ⟨hj1, hj2⟩ := List.getElem?_eq_some_iff.1 ht
          have := hd k j hk1 hj1 (by omega)
          rw [hk2, hj2] at this; exact this
      clear hT hT2 hcnt
      have p0 := bP.out.cells 0
      have p1 := bP.out.cells 1
      have p2 := bP.out.cells 2
      have p3 := bP.out.cells 3
      simp only [List.getElem?_cons_zero, List.getElem?_cons_succ] at p0 p1 p2 p3
      have hPl := bP.out.lt
      go_wp2_with fail
      go_loopw [14, 17, 18] (fun m cv v wr => ∃ (y : Int) (S' : FS) (C' : Int), v = .int .i64 y ∧ r.b ≤ y ∧ y ≤ r.d + 16 ∧ m = .int .i64 S'.2.2 ∧ cv = .int .i64 C' ∧ Hid (cntB (gh S'.1) r = C') ∧ 0 ≤ C' ∧ C' ≤ 6400 ∧ 0 ≤ S'.2.2 ∧ S'.2.2 ≤ 10000 * (k : Int) + 100 * (y - r.b) ∧ Hid (fY r p sz gap y S' = T2) ∧ Hid (Blk wr B (gcells S'.1) 109) ∧ Hid (Blk wr O (gcells S'.2.1) 109) ∧ Hid (SlT enc4 4 wr (some ⟨b3, o3, none⟩) N (winL s)) ∧ Hid (Blk wr P [.int .i64 r.a, .int .i64 r.b, .int .i64 r.c, .int .i64 r.d] 50) ∧ Hid (Ext w wr)) (fun _ _ v _ => (1000 - intOf v).toNat)
      case atStart => exact ⟨r.b, S, C, rfl, by omega, by omega, rfl, rfl, hCk, by omega, by omega, hS0, by omega, hT2b, bB, bO, s3, bP, hE⟩
      case round =>
        clear bB bO s3 bP hE p0 p1 p2 p3 hPl hT2b
        obtain ⟨y, S', C', rfl, hy0, hy1, rfl, rfl, hCe, hC0, hC1, hn0, hn1, hTy, bB, bO, s3, bP, hE⟩ := hrel
        have p0 := bP.out.cells 0
        have p1 := bP.out.cells 1
        have p2 := bP.out.cells 2
        have p3 := bP.out.cells 3
        simp only [List.getElem?_cons_zero, List.getElem?_cons_succ] at p0 p1 p2 p3
        have hPl := bP.out.lt
        by_cases hyd : y + sz ≤ r.d
        · obtain ⟨T3, hT3⟩ : ∃ T3, T3 = fX r p sz gap y r.a S' := ⟨_, rfl⟩
          have hTy2 : Hid (fY r p sz gap (y + (sz + gap)) T3 = T2) := by
            show _ = _
            rw [← hTy.out, fY_go hz0 hg0 hyd, hT3, show y + (sz + gap) = y + sz + gap by omega]
          have hT3b : Hid (fX r p sz gap y r.a S' = T3) := hT3.symm
          clear hTy hT3
          go_wp2_with fail
          go_loopw [14, 17, 19] (fun m cv v wr => ∃ (x : Int) (S' : FS) (C' : Int), v = .int .i64 x ∧ r.a ≤ x ∧ x ≤ r.c + 16 ∧ m = .int .i64 S'.2.2 ∧ cv = .int .i64 C' ∧ Hid (cntB (gh S'.1) r = C') ∧ 0 ≤ C' ∧ C' ≤ 6400 ∧ 0 ≤ S'.2.2 ∧ S'.2.2 ≤ 10000 * (k : Int) + 100 * (y - r.b) + (x - r.a) ∧ Hid (fX r p sz gap y x S' = T3) ∧ Hid (Blk wr B (gcells S'.1) 109) ∧ Hid (Blk wr O (gcells S'.2.1) 109) ∧ Hid (SlT enc4 4 wr (some ⟨b3, o3, none⟩) N (winL s)) ∧ Hid (Blk wr P [.int .i64 r.a, .int .i64 r.b, .int .i64 r.c, .int .i64 r.d] 50) ∧ Hid (Ext w wr)) (fun _ _ v _ => (1000 - intOf v).toNat)
          case atStart => exact ⟨r.a, S', C', rfl, by omega, by omega, rfl, rfl, hCe, hC0, hC1, hn0, by omega, hT3b, bB, bO, s3, bP, hE⟩
          case round =>
            clear bB bO s3 bP hE p0 p1 p2 p3 hPl hT3b hCe hC0 hC1 hn0 hn1
            obtain ⟨x, S', C', rfl, hx0, hx1, rfl, rfl, hCe, hC0, hC1, hn0, hn1, hTx, bB, bO, s3, bP, hE⟩ := hrel
            have p0 := bP.out.cells 0
            have p1 := bP.out.cells 1
            have p2 := bP.out.cells 2
            have p3 := bP.out.cells 3
            simp only [List.getElem?_cons_zero, List.getElem?_cons_succ] at p0 p1 p2 p3
            have hPl := bP.out.lt
            by_cases hxc : x + sz ≤ r.c
            · have hdn := fun W => dense_any C' r p W hvr.out hC0 hC1 hp0 hp1
              have hcl := fun W (hW : Blk W B (gcells S'.1) 109) => clear_any B S'.1 (grQ x y sz gap) W hW (by unfold Near grQ; simp only; omega)
              simp only [grQ] at hcl
              cases hd : denseB C' r p with
              | true =>
                have hTs : Hid (fX r p sz gap y (x + (sz + gap)) S' = T3) := by
                  show _ = _
                  rw [← hTx.out, fX_go hz0 hg0 hxc, stepS_skip (by rw [skipS, hCe.out, hd]; rfl), show x + (sz + gap) = x + sz + gap by omega]
                rw [hd] at hdn
                replace hdn := hid hdn
                clear hd hcl hTx
                go_wp2_with fail
                refine (hdn.out _).mono ?_
                rintro e w6 ⟨rfl, E6⟩
                replace bB := hid (bB.out.ext E6)
                replace bO := hid (bO.out.ext E6)
                replace s3 := hid (s3.out.ext E6)
                replace bP := hid (bP.out.ext E6)
                replace hE := hid (hE.out.trans E6)
                clear p0 p1 p2 p3 hPl E6
                go_wp2_with fail
                go_roundw
                case rel => exact ⟨x + (sz + gap), S', C', rfl, by omega, by omega, rfl, rfl, hCe, hC0, hC1, hn0, by omega, hTs, bB, bO, s3, bP, hE⟩
                case measure => simp [intOf] <;> omega
              | false =>
                rw [hd] at hdn
                replace hdn := hid hdn
                cases hc : clearB S'.1 (grQ x y sz gap) with
                | false =>
                  have hTs : Hid (fX r p sz gap y (x + (sz + gap)) S' = T3) := by
                    show _ = _
                    rw [← hTx.out, fX_go hz0 hg0 hxc, stepS_skip (by rw [skipS, hCe.out, hd, hc]; rfl), show x + (sz + gap) = x + sz + gap by omega]
                  simp only [grQ] at hc
                  rw [hc] at hcl
                  replace hcl := hid hcl
                  clear hd hc hTx
                  go_wp2_with fail
                  refine (hdn.out _).mono ?_
                  rintro e w6 ⟨rfl, E6⟩
                  replace bB := hid (bB.out.ext E6)
                  replace bO := hid (bO.out.ext E6)
                  replace s3 := hid (s3.out.ext E6)
                  replace bP := hid (bP.out.ext E6)
                  replace hE := hid (hE.out.trans E6)
                  clear p0 p1 p2 p3 hPl E6
                  go_wp2_with fail
                  refine (hcl.out _ bB.out).mono ?_
                  rintro e w7 ⟨rfl, E7⟩
                  replace bB := hid (bB.out.ext E7)
                  replace bO := hid (bO.out.ext E7)
                  replace s3 := hid (s3.out.ext E7)
                  replace bP := hid (bP.out.ext E7)
                  replace hE := hid (hE.out.trans E7)
                  clear E7
                  go_wp2_with fail
                  go_roundw
                  case rel => exact ⟨x + (sz + gap), S', C', rfl, by omega, by omega, rfl, rfl, hCe, hC0, hC1, hn0, by omega, hTs, bB, bO, s3, bP, hE⟩
                  case measure => simp [intOf] <;> omega
                | true =>
                  have hput : skipS r p sz gap x y S' = false := by rw [skipS, hCe.out, hd, hc]; rfl
                  have hTs : Hid (fX r p sz gap y (x + (sz + gap)) (orR S'.1 (sqQ x y sz), orR S'.2.1 (sqQ x y sz), S'.2.2 + 1) = T3) := by
                    show _ = _
                    rw [← hTx.out, fX_go hz0 hg0 hxc, stepS_put hput, show x + (sz + gap) = x + sz + gap by omega]
                  have hsv := hid (sq_valid hvr.out hz0 hx0 hxc hy0 hyd)
                  obtain ⟨A, hA⟩ : ∃ A, A = areaQ (sqQ x y sz) := ⟨_, rfl⟩
                  have hCe2 : Hid (cntB (gh (orR S'.1 (sqQ x y sz))) r = C' + A) := by show _ = _; rw [cnt_put hvr.out hz0 hg0 hx0 hxc hy0 hyd hc, hCe.out, hA]
                  have hCb2 := cntB_bd (gh (orR S'.1 (sqQ x y sz))) r (by omega)
                  rw [hCe2.out] at hCb2
                  have hAb := areaQ_bd hsv.out
                  rw [← hA] at hAb
                  have haq := fun W => area_any (sqQ x y sz) W hsv.out
                  rw [← hA] at haq
                  have hpB := fun W (hW : Blk W B (gcells S'.1) 109) => put_any B S'.1 (sqQ x y sz) W hW (vR_near hsv.out)
                  have hpO := fun W (hW : Blk W O (gcells S'.2.1) 109) => put_any O S'.2.1 (sqQ x y sz) W hW (vR_near hsv.out)
                  have hgB : Hid (gcells (gmk fun x' y' => gh S'.1 x' y' || inR ⟨x, y, x + sz, y + sz⟩ x' y') = gcells (orR S'.1 (sqQ x y sz))) := rfl
                  have hgO : Hid (gcells (gmk fun x' y' => gh S'.2.1 x' y' || inR ⟨x, y, x + sz, y + sz⟩ x' y') = gcells (orR S'.2.1 (sqQ x y sz))) := rfl
                  simp only [sqQ] at hpB hpO haq
                  simp only [grQ] at hc
                  rw [hc] at hcl
                  replace hcl := hid hcl
                  replace hpB := hid hpB
                  replace hpO := hid hpO
                  replace haq := hid haq
                  replace hA := hid hA
                  clear hd hc hTx hput
                  go_wp2_with fail
                  refine (hdn.out _).mono ?_
                  rintro e w6 ⟨rfl, E6⟩
                  replace bB := hid (bB.out.ext E6)
                  replace bO := hid (bO.out.ext E6)
                  replace s3 := hid (s3.out.ext E6)
                  replace bP := hid (bP.out.ext E6)
                  replace hE := hid (hE.out.trans E6)
                  clear p0 p1 p2 p3 hPl E6
                  go_wp2_with fail
                  refine (hcl.out _ bB.out).mono ?_
                  rintro e w7 ⟨rfl, E7⟩
                  replace bB := hid (bB.out.ext E7)
                  replace bO := hid (bO.out.ext E7)
                  replace s3 := hid (s3.out.ext E7)
                  replace bP := hid (bP.out.ext E7)
                  replace hE := hid (hE.out.trans E7)
                  clear E7
                  go_wp2_with fail
                  generalize hW : w7.alloc _ = V1
                  obtain ⟨E8, z8, bQ⟩ := boxes1 hW
                  clear hW
                  obtain ⟨Q, hQ⟩ : ∃ Q, Q = w7.heap.size := ⟨_, rfl⟩
                  rw [← hQ] at bQ ⊢
                  have bQ := hid (show Blk V1 Q [.int .i64 x, .int .i64 y, .int .i64 (x + sz), .int .i64 (y + sz)] 50 from bQ)
                  have hPQ : P < Q := by rw [hQ]; exact bP.out.lt
                  replace hQ := hid hQ
                  replace z8 := hid z8
                  replace bB := hid (bB.out.ext E8)
                  replace bO := hid (bO.out.ext E8)
                  replace s3 := hid (s3.out.ext E8)
                  replace bP := hid (bP.out.ext E8)
                  replace hE := hid (hE.out.trans E8)
                  clear E8
                  refine (hpB.out _ bB.out).mono ?_
                  rintro e w8 ⟨rfl, bB2, M8⟩
                  replace bB := hid (cells_pair bB2 hgB.out)
                  replace bO := hid (bO.out.mut M8 (by simp; omega))
                  replace s3 := hid (s3.out.mut M8 (fun a ha hh => by cases ha; simp at hh; omega))
                  replace bP := hid (bP.out.mut M8 (by simp; omega))
                  replace bQ := hid (bQ.out.mut M8 (by simp; omega))
                  replace hE := hid (hE.out.then M8 (by simp; omega))
                  clear bB2 M8
                  have u0 := bQ.out.cells 0
                  have u1 := bQ.out.cells 1
                  have u2 := bQ.out.cells 2
                  have u3 := bQ.out.cells 3
                  simp only [List.getElem?_cons_zero, List.getElem?_cons_succ] at u0 u1 u2 u3
                  have hQl := bQ.out.lt
                  go_wp2_with fail
                  refine (hpO.out _ bO.out).mono ?_
                  rintro e w9 ⟨rfl, bO2, M9⟩
                  replace bO := hid (cells_pair bO2 hgO.out)
                  replace bB := hid (bB.out.mut M9 (by simp; omega))
                  replace s3 := hid (s3.out.mut M9 (fun a ha hh => by cases ha; simp at hh; omega))
                  replace bP := hid (bP.out.mut M9 (by simp; omega))
                  replace bQ := hid (bQ.out.mut M9 (by simp; omega))
                  replace hE := hid (hE.out.then M9 (by simp; omega))
                  clear bO2 M9 u0 u1 u2 u3 hQl
                  have u0 := bQ.out.cells 0
                  have u1 := bQ.out.cells 1
                  have u2 := bQ.out.cells 2
                  have u3 := bQ.out.cells 3
                  simp only [List.getElem?_cons_zero, List.getElem?_cons_succ] at u0 u1 u2 u3
                  have hQl := bQ.out.lt
                  go_wp2_with fail
                  refine (haq.out _).mono ?_
                  rintro e w10 ⟨rfl, E10⟩
                  replace bB := hid (bB.out.ext E10)
                  replace bO := hid (bO.out.ext E10)
                  replace s3 := hid (s3.out.ext E10)
                  replace bP := hid (bP.out.ext E10)
                  replace hE := hid (hE.out.trans E10)
                  clear E10 u0 u1 u2 u3 hQl bQ
                  go_wp2_with fail
                  go_roundw
                  case rel => exact ⟨x + (sz + gap), (orR S'.1 (sqQ x y sz), orR S'.2.1 (sqQ x y sz), S'.2.2 + 1), C' + A, rfl, by omega, by omega, rfl, rfl, hCe2, by omega, by omega, by show 0 ≤ S'.2.2 + 1; omega, by show S'.2.2 + 1 ≤ _; omega, hTs, bB, bO, s3, bP, hE⟩
                  case measure => simp [intOf] <;> omega
            · have hTs : Hid (S' = T3) := by show _ = _; rw [← hTx.out, fX_stop hxc]
              have hTy3 : Hid (fY r p sz gap (y + (sz + gap)) S' = T2) := by rw [hTs.out]; exact hTy2
              clear hTx
              go_wp2_with fail
              go_roundw
              case rel => exact ⟨y + (sz + gap), S', C', rfl, by omega, by omega, rfl, rfl, hCe, hC0, hC1, hn0, by omega, hTy3, bB, bO, s3, bP, hE⟩
              case measure => simp [intOf] <;> omega
        · have hTs : Hid (S' = T2) := by show _ = _; rw [← hTy.out, fY_stop hyd]
          have hTT2 : Hid (fillL p sz gap ((winL s).drop (k + 1)) S' = fsS l s p sz gap) := by rw [hTs.out]; exact hTT
          have hcnt3 : Hid (∀ (j : Nat) t, k + 1 ≤ j → (winL s)[j]? = some t → cntB (gh S'.1) t = covL l t) := by rw [hTs.out]; exact hcnt2
          clear hTy
          go_wp2_with fail
          go_roundw
          case rel => exact ⟨k + 1, S', by omega, by go_num, rfl, hn0, by omega, hTT2, hcnt3, bB, bO, s3, hE⟩
          case measure => simp [intOf] <;> omega
    · have hkI : ¬ (k : Int) < (N : Int) := by omega
      have hkN : k = N := by omega
      have hfin : Hid (S = fsS l s p sz gap) := by
        show _ = _
        rw [← hT.out, List.drop_eq_nil_of_le (by have := hN.out; omega)]; rfl
      have hCC := hC.out
      rw [← hfin.out] at hCC
      by_cases h400 : 400 < S.2.2
      · have hr3 : Hid (fsC l s p sz gap = 3) := by show _ = _; rw [hCC, if_pos h400]
        go_wp2_with fail
        go_ret2
        exact fs_none hr3.out (by omega) hE.out
      · have hr0 : Hid (fsC l s p sz gap = 0) := by show _ = _; rw [hCC, if_neg h400]
        clear hCC
        go_wp2_with fail
        refine (region_any O S.2.1 _ bO.out).mono ?_
        rintro e w9 ⟨q9, c9, rfl, o9, E9⟩
        have hO9 := hid o9
        clear o9
        have hl9 : Hid (fsL l s p sz gap = canon S.2.1) := by show _ = _; rw [fsL, hr0.out, if_pos rfl, ← hfin.out]
        go_wp2_with fail
        go_ret2
        exact ⟨q9, c9, by rw [hl9.out, hr0.out]; rfl, by rw [hl9.out]; exact owns_lowF hO9.out hE.out.le, hE.out.trans E9⟩
end Go.Proofs.Ytaigndaabmelhaa
