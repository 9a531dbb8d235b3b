/- Contract of l32DrawChannel: a channel of at most 10 columns. Condition: a source. -/
import Derived.Test.YtiljojpnbpdaeaaSrd
import Derived.Deep.RegionWith
namespace Go.Proofs.Ytiljojpnbpdaeaa
open Go.RowKit

/-- What holds of a channel while it is drawn: v1 and v2 are its rows, in memory younger than block C. -/
structure ChP (B : Nat) (w0 w : World) (C : Nat) (v1 v2 : Value) (t b : List Int) : Prop where
  src : Src w B
  mt : Mut w0 w [B]
  res : Blk w w0.heap.size [.slice none 0 0, .slice none 0 0] 28
  bx : Blk w C [v1, v2] 28
  o1 : w.ownsRow (C + 1) 2 1 v1 t.length (t.flatMap enc1)
  o2 : w.ownsRow (C + 1) 2 1 v2 b.length (b.flatMap enc1)
  ne : ∀ k, v1.ownBlock = some k → v2.ownBlock ≠ some k
  lt : B < w0.heap.size
  hC : C = w0.heap.size + 1
theorem ChP.draw {B C : Nat} {w0 w w' : World} {v1 v2 : Value} {t b : List Int} (h : ChP B w0 w C v1 v2 t b) (hS : Src w' B) (hM : Mut w w' [B]) : ChP B w0 w' C v1 v2 t b :=
  have hl := h.lt
  have hC := h.hC
  ⟨hS, h.mt.same hM, h.res.mut hM (by simp; omega), h.bx.mut hM (by simp; omega), hM.own (by omega) h.o1, hM.own (by omega) h.o2, h.ne, h.lt, h.hC⟩
/-- A block that is no row's stays when an append grows the row. -/
theorem grown_blk {w wA : World} {o : Obj} {v : Value} {k : Nat} {cs : List Value} {ty : TypeId} (hg : (w.alloc o).grownBy wA v.ownBlock) (h : Blk w k cs ty) (hk : v.ownBlock ≠ some k) : Blk wA k cs ty := by
  have h2 := h.alloc o
  exact (hg.block k h2.lt (fun e => hk e.symm)).trans h2
theorem grown_own {w wA : World} {o : Obj} {v v2 : Value} {base size n : Nat} {e : TypeId} {xs : List Value} (hg : (w.alloc o).grownBy wA v.ownBlock) (h : w.ownsRow base e size v2 n xs) (hne : ∀ k, v.ownBlock = some k → v2.ownBlock ≠ some k) : wA.ownsRow base e size v2 n xs := by
  have h2 := owns_ext h ((Ext.refl w).alloc o)
  have hM : Mut (w.alloc o) wA (match v.ownBlock with | some k => [k] | none => []) := ⟨hg.os, hg.tape, hg.output, hg.size, fun k hk hn => hg.block k hk (fun e => hn (by rw [← e]; simp))⟩
  refine hM.grownBy (fun g hg2 hh => ?_) h2
  cases hv : v.ownBlock with
  | none => rw [hv] at hh; cases hh
  | some k => rw [hv] at hh; simp at hh; subst hh; exact hne g hv hg2
theorem grown_src {w wA : World} {o : Obj} {v : Value} {B : Nat} (hg : (w.alloc o).grownBy wA v.ownBlock) (h : Src w B) (hv : ∀ k, v.ownBlock = some k → B < k) : Src wA B := by
  have hM : Mut (w.alloc o) wA (match v.ownBlock with | some k => [k] | none => []) := ⟨hg.os, hg.tape, hg.output, hg.size, fun k hk hn => hg.block k hk (fun e => hn (by rw [← e]; simp))⟩
  refine (h.ext ((Ext.refl w).alloc o)).mut hM (fun k hk => ?_)
  cases hv2 : v.ownBlock with
  | none => rw [hv2] at hk; cases hk
  | some j => rw [hv2] at hk; simp at hk; subst hk; exact hv k hv2
theorem src_young {w : World} {B g j : Nat} {u : Value} (h : Src w B) (hg : B < g) : Src (w.setCell ⟨g, j, none⟩ u) B := h.mut ((Mut.refl w [g]).setCell (p := ⟨g, j, none⟩) (by simp) u) (by simp; omega)
theorem own_young {w : World} {base size n g j : Nat} {e : TypeId} {v u : Value} {xs : List Value} (h : w.ownsRow base e size v n xs) (hg : g < base) : (w.setCell ⟨g, j, none⟩ u).ownsRow base e size v n xs :=
  ((Mut.refl w [g]).setCell (p := ⟨g, j, none⟩) (by simp) u).own hg h
theorem ChP.push1 {B C : Nat} {w0 w wA : World} {v1 v2 v' : Value} {t b : List Int} {x : Int} {o : Obj} (h : ChP B w0 w C v1 v2 t b) (hoA : wA.ownsRow (C + 1) 2 1 v' (t.length + 1) (t.flatMap enc1 ++ [.int .i64 x])) (hgA : (w.alloc o).grownBy wA v1.ownBlock) (hbA : v'.ownBlock = v1.ownBlock ∨ v'.ownBlock = some (w.alloc o).heap.size) : ChP B w0 (wA.setCell ⟨C, 0, none⟩ v') C v' v2 (t ++ [x]) b := by
  have hl := h.lt
  have hC := h.hC
  have l1 : ∀ k, v1.ownBlock = some k → C + 1 ≤ k := fun k hk => (h.o1.lt k hk).1
  have l2 : ∀ k, v2.ownBlock = some k → C + 1 ≤ k ∧ k < w.heap.size := fun k hk => h.o2.lt k hk
  refine ⟨src_young (grown_src hgA h.src (fun k hk => by have := l1 k hk; omega)) (by omega), ?_, ?_, ?_, ?_, own_young (grown_own hgA h.o2 h.ne) (by omega), fun k hk hk2 => ?_, h.lt, h.hC⟩
  · exact ((h.mt.alloc o).young (fun k hk => by have := l1 k hk; omega) hgA).setYoung (by omega) _
  · exact (grown_blk hgA h.res (fun e => by have := l1 _ e; omega)).other 0 _ (by omega)
  · exact (grown_blk hgA h.bx (fun e => by have := l1 _ e; omega)).set 0 v'
  · have := own_young (j := 0) (u := v') hoA (show C < C + 1 by omega)
    rw [List.length_append, List.flatMap_append]; exact this
  · rcases hbA with e | e
    · exact h.ne k (e ▸ hk) hk2
    · rw [e] at hk
      have := (l2 k hk2).2
      simp at hk; omega
theorem ChP.push2 {B C : Nat} {w0 w wA : World} {v1 v2 v' : Value} {t b : List Int} {x : Int} {o : Obj} (h : ChP B w0 w C v1 v2 t b) (hoA : wA.ownsRow (C + 1) 2 1 v' (b.length + 1) (b.flatMap enc1 ++ [.int .i64 x])) (hgA : (w.alloc o).grownBy wA v2.ownBlock) (hbA : v'.ownBlock = v2.ownBlock ∨ v'.ownBlock = some (w.alloc o).heap.size) : ChP B w0 (wA.setCell ⟨C, 1, none⟩ v') C v1 v' t (b ++ [x]) := by
  have hl := h.lt
  have hC := h.hC
  have l2 : ∀ k, v2.ownBlock = some k → C + 1 ≤ k := fun k hk => (h.o2.lt k hk).1
  have l1 : ∀ k, v1.ownBlock = some k → C + 1 ≤ k ∧ k < w.heap.size := fun k hk => h.o1.lt k hk
  refine ⟨src_young (grown_src hgA h.src (fun k hk => by have := l2 k hk; omega)) (by omega), ?_, ?_, ?_, own_young (grown_own hgA h.o1 (fun k hk hk2 => h.ne k hk2 hk)) (by omega), ?_, fun k hk hk2 => ?_, h.lt, h.hC⟩
  · exact ((h.mt.alloc o).young (fun k hk => by have := l2 k hk; omega) hgA).setYoung (by omega) _
  · exact (grown_blk hgA h.res (fun e => by have := l2 _ e; omega)).other 1 _ (by omega)
  · exact (grown_blk hgA h.bx (fun e => by have := l2 _ e; omega)).set 1 v'
  · have := own_young (j := 1) (u := v') hoA (show C < C + 1 by omega)
    rw [List.length_append, List.flatMap_append]; exact this
  · rcases hbA with e | e
    · exact h.ne k hk (e ▸ hk2)
    · rw [e] at hk2
      have := (l1 k hk).2
      simp at hk2; omega
/-- What a drawn channel leaves. -/
def DrawnC (B : Nat) (w : World) (e : Ending) (w' : World) : Prop := ∃ (v1 v2 : Value) (t b : List Int), e = .returned (.agg #[v1, v2]) ∧ t.length ≤ 10 ∧ b.length ≤ 10 ∧ w'.ownsRow w.heap.size 2 1 v1 t.length (t.flatMap enc1) ∧ w'.ownsRow w.heap.size 2 1 v2 b.length (b.flatMap enc1) ∧ Mut w w' [B]
theorem ChP.fin {B C : Nat} {w W : World} {v1 v2 : Value} {t b : List Int} (h : ChP B w W C v1 v2 t b) (h1 : t.length ≤ 10) (h2 : b.length ≤ 10) : DrawnC B w (.returned (.agg #[v1, v2])) ((W.setCell ⟨w.heap.size, 0, none⟩ v1).setCell ⟨w.heap.size, 1, none⟩ v2) := by
  have hC := h.hC
  refine ⟨v1, v2, t, b, rfl, h1, h2, ?_, ?_, (h.mt.setYoung (Nat.le_refl _) _).setYoung (Nat.le_refl _) _⟩
  · exact Joins.ownsRow_le (own_young (own_young h.o1 (by omega)) (by omega)) (by omega)
  · exact Joins.ownsRow_le (own_young (own_young h.o2 (by omega)) (by omega)) (by omega)
theorem flat_set : ∀ (b : List Int) (k : Nat) (x : Int), (b.flatMap enc1).set k (.int .i64 x) = (b.set k x).flatMap enc1
  | [], _, _ => rfl
  | y :: b, 0, x => rfl
  | y :: b, k + 1, x => by rw [List.flatMap_cons, List.set_cons_succ, List.flatMap_cons, ← flat_set b k x]; rfl
theorem ChP.put2 {B C : Nat} {w W : World} {v1 : Value} {g c : Nat} {t b : List Int} (h : ChP B w W C v1 (.slice (some ⟨g, 0, none⟩) b.length c) t b) (k : Nat) (x : Int) : ChP B w (W.setCell ⟨g, k, none⟩ (.int .i64 x)) C v1 (.slice (some ⟨g, 0, none⟩) b.length c) t (b.set k x) := by
  have hC := h.hC
  have hl := h.lt
  have hg := h.o2.lt g rfl
  refine ⟨src_young h.src (by omega), h.mt.setYoung (by omega) _, h.res.other k _ (by omega), h.bx.other k _ (by omega), ?_, ?_, h.ne, h.lt, h.hC⟩
  · exact owns_other h.o1 (fun hh => h.ne g hh rfl) k _
  · have h2 := owns_set h.o2 k (.int .i64 x)
    rw [flat_set] at h2
    rw [List.length_set]
    exact h2
set_option maxRecDepth 100000 in
set_option maxHeartbeats 8000000 in
theorem drawChannel_any (B : Nat) (w : World) (hS : Src w B) :
    Calls Try.prog 44 #[.pointer (some ⟨B, 0, none⟩)] w (DrawnC B w) := by
  obtain ⟨i0, hi, hz0, hz1, hz2⟩ := info_parts info_Int64
  have hBl := hS.lt
  go_enter Try.func44, Try.ntmps44
  go_upto_region 2 with (fail)
  generalize hV : World.alloc (World.alloc _ _) _ = w1
  obtain ⟨E1, z1, b0, b1⟩ := boxes2 hV
  clear hV
  have hP : ChP B w w1 (w.heap.size + 1) (.slice none 0 0) (.slice none 0 0) [] [] := ⟨hS.ext E1, E1.mut [B], b0, b1, World.ownsRow_nil _ _ _ _, World.ownsRow_nil _ _ _ _, fun k hk => (by cases hk), hBl, rfl⟩
  obtain ⟨C, hC⟩ : ∃ C, C = w.heap.size + 1 := ⟨_, rfl⟩
  rw [← hC] at hP ⊢
  clear E1 z1 b0 b1
  replace hC := hid hC
  go_wp2_with fail
  refine (next_any B 10 _ hP.src (by omega) (by omega)).mono ?_
  rintro e w2 ⟨r1, rfl, h10, h11, S2, M2⟩
  replace hP := hP.draw S2 M2
  clear S2 M2
  obtain ⟨n, rfl⟩ : ∃ m : Nat, r1 = m := ⟨r1.toNat, by omega⟩
  go_wp2_with fail
  refine (next_any B 6 _ hP.src (by omega) (by omega)).mono ?_
  rintro e w3 ⟨r2, rfl, h20, h21, S3, M3⟩
  replace hP := hP.draw S3 M3
  clear S3 M3
  go_wp2_with fail
  refine (next_any B 3 _ hP.src (by omega) (by omega)).mono ?_
  rintro e w4 ⟨r3, rfl, h30, h31, S4, M4⟩
  replace hP := hP.draw S4 M4
  clear S4 M4
  go_wp2_with fail
  go_loopw [7, 8, 9] (fun i _ _ wr => ∃ (m : Nat) (v1 v2 : Value) (t b : List Int), i = .int .i64 m ∧ m ≤ n ∧ Hid (t.length = m) ∧ Hid (b.length = m) ∧ ChP B w wr C v1 v2 t b) (fun i _ _ _ => n - (intOf i).toNat)
  case atStart => exact ⟨0, _, _, [], [], rfl, by omega, rfl, rfl, hP⟩
  case round =>
    clear hP
    obtain ⟨m, v1, v2, t, b, rfl, hm, lt1, lb1, hP⟩ := hrel
    obtain ⟨q1, c1, rfl⟩ := owns_forms hP.o1
    obtain ⟨q2, c2, rfl⟩ := owns_forms hP.o2
    by_cases hmn : m < n
    · have hmI : (m : Int) < n := by omega
      go_wp2_with fail
      refine (next_any B _ _ hP.src (by omega) (by omega)).mono ?_
      rintro e w5 ⟨ra, rfl, ha0, ha1, S5, M5⟩
      replace hP := hP.draw S5 M5
      clear S5 M5
      go_wp2_with fail
      refine (next_any B _ _ hP.src (by omega) (by omega)).mono ?_
      rintro e w6 ⟨rb, rfl, hb0, hb1, S6, M6⟩
      replace hP := hP.draw S6 M6
      clear S6 M6
      have hcs : (r3 = 0 ∧ 0 < ra ∧ 0 < rb) ∨ (r3 = 0 ∧ 0 < ra ∧ ¬ 0 < rb) ∨ (r3 = 0 ∧ ¬ 0 < ra) ∨ (r3 = 1 ∧ rb < ra ∧ 0 < rb) ∨ (r3 = 1 ∧ rb < ra ∧ ¬ 0 < rb) ∨ (r3 = 1 ∧ ¬ rb < ra) ∨ r3 = 2 := by omega
      have g0 := hP.bx.cells
      have f0 := hP.bx.free
      have l0 := hP.bx.lt
      rcases hcs with ⟨rfl, k1, k2⟩ | ⟨rfl, k1, k2⟩ | ⟨rfl, k1⟩ | ⟨rfl, k1, k2⟩ | ⟨rfl, k1, k2⟩ | ⟨rfl, k1⟩ | rfl
      all_goals
        go_upto_region 14 with (fail)
        go_upto_region 15 with (at_builtin; refine wpList_append_own_at (o := ⟨some 57, _, _, _, _, _⟩) _ rfl _ _ 22 rfl (C + 1) 2 i0 _ 1 8 Try.underlying22 hi hz0 hz1 hz2 rfl (by omega) _ _ _ rfl ((owns_ext hP.o1 ((Ext.refl _).alloc _))) ⟨_, 0, none⟩ 1 1 [_] rfl rfl (cells_new1 _ _ _) (one_int1 _) (len_le (by have := lt1.out; omega) (by omega)) (by have := lt1.out; omega) (by have := l0; simp; omega) ?_; intro v' wA hoA hgA hnA hbA; obtain ⟨qA, cA, rfl⟩ := owns_forms hoA; have gA := (grown_blk hgA hP.bx (fun e => by have := (hP.o1.lt _ e).1; omega)).cells; have fA := (grown_blk hgA hP.bx (fun e => by have := (hP.o1.lt _ e).1; omega)).free; have lA := (grown_blk hgA hP.bx (fun e => by have := (hP.o1.lt _ e).1; omega)).lt)
        have hQ := hP.push1 hoA hgA hbA
        clear gA fA lA hoA hgA hnA hbA
        generalize World.setCell wA _ _ = W2 at hQ ⊢
        have gQ := hQ.bx.cells
        have fQ := hQ.bx.free
        have lQ := hQ.bx.lt
        go_wp2_with (at_builtin; refine wpList_append_own_at (o := ⟨some 63, _, _, _, _, _⟩) _ rfl _ _ 22 rfl (C + 1) 2 i0 _ 1 8 Try.underlying22 hi hz0 hz1 hz2 rfl (by omega) _ _ _ rfl ((owns_ext hQ.o2 ((Ext.refl _).alloc _))) ⟨_, 0, none⟩ 1 1 [_] rfl rfl (cells_new1 _ _ _) (one_int1 _) (len_le (by have := lb1.out; omega) (by omega)) (by have := lb1.out; omega) (by have := lQ; simp; omega) ?_; intro v' wB hoB hgB hnB hbB; obtain ⟨qB, cB, rfl⟩ := owns_forms hoB; have gB := (grown_blk hgB hQ.bx (fun e => by have := (hQ.o2.lt _ e).1; omega)).cells; have fB := (grown_blk hgB hQ.bx (fun e => by have := (hQ.o2.lt _ e).1; omega)).free; have lB := (grown_blk hgB hQ.bx (fun e => by have := (hQ.o2.lt _ e).1; omega)).lt)
        go_roundw
        case rel => exact ⟨m + 1, _, _, t ++ [ra], _, by go_num, by omega, by show _ = _; rw [List.length_append, lt1.out]; rfl, by show _ = _; rw [List.length_append, lb1.out]; rfl, hQ.push2 hoB hgB hbB⟩
        case measure => simp [intOf]; omega
    · obtain rfl : m = n := by omega
      go_wp2_with fail
      refine (next_any B 24 _ hP.src (by omega) (by omega)).mono ?_
      rintro e w5 ⟨r4, rfl, h40, h41, S5, M5⟩
      replace hP := hP.draw S5 M5
      clear S5 M5
      have g0 := hP.bx.cells
      have f0 := hP.bx.free
      have l0 := hP.bx.lt
      have gr := hP.res.cells
      have fr := hP.res.free
      have lr := hP.res.lt
      have hne1 : ¬ (C = w.heap.size) := by have := hC.out; omega
      have hne2 : ¬ (w.heap.size = C) := by have := hC.out; omega
      by_cases hr0 : r4 = 0
      · subst hr0
        go_upto_region 22 with (at_builtin; refine wpList_append_own_at (o := ⟨some 72, _, _, _, _, _⟩) _ rfl _ _ 22 rfl (C + 1) 2 i0 _ 1 8 Try.underlying22 hi hz0 hz1 hz2 rfl (by omega) _ _ _ rfl ((owns_ext hP.o1 ((Ext.refl _).alloc _))) ⟨_, 0, none⟩ 1 1 [_] rfl rfl (cells_new1 _ _ _) (one_int1 _) (len_le (by have := lt1.out; omega) (by omega)) (by have := lt1.out; omega) (by have := l0; simp; omega) ?_; intro v' wA hoA hgA hnA hbA; obtain ⟨qA, cA, rfl⟩ := owns_forms hoA; have gA := (grown_blk hgA hP.bx (fun e => by have := (hP.o1.lt _ e).1; omega)).cells; have fA := (grown_blk hgA hP.bx (fun e => by have := (hP.o1.lt _ e).1; omega)).free; have lA := (grown_blk hgA hP.bx (fun e => by have := (hP.o1.lt _ e).1; omega)).lt)
        have hQ := hP.push1 hoA hgA hbA
        clear gA fA lA hoA hgA hnA hbA
        generalize World.setCell wA _ _ = W2 at hQ ⊢
        have gQ := hQ.bx.cells
        have lQ := hQ.bx.lt
        have gr2 := hQ.res.cells
        have fr2 := hQ.res.free
        have lr2 := hQ.res.lt
        go_wp2_with fail
        have kB := (((hQ.res.set 0 (.slice qA (t.length + 1) cA)).set 1 (.slice q2 b.length c2))).cells
        refine bodyPost_ret (v := .agg #[.slice qA (t.length + 1) cA, .slice q2 b.length c2]) (by simp [results, Try.results44, go_sem, kB]) rfl (hQ.fin (by rw [List.length_append]; have := lt1.out; simp; omega) (by have := lb1.out; omega))
      · by_cases hr1 : r4 = 1
        · subst hr1
          by_cases hm0 : 0 < m
          · obtain ⟨g2, rfl⟩ : ∃ g2, q2 = some ⟨g2, 0, none⟩ := by
              rcases Joins.ownsRow_forms hP.o2 with ⟨h1, h2⟩ | ⟨gX, c, h1⟩
              · simp at h1; have := lb1.out; omega
              · simp at h1; exact ⟨gX, h1.1⟩
            have hm0I : (0 : Int) < m := by omega
            go_wp2_with fail
            have hgl := hP.o2.lt g2 rfl
            have hgC : ¬ (C = g2) := by omega
            have hgC2 : ¬ (g2 = C) := by omega
            have hgR : ¬ (w.heap.size = g2) := by have := hC.out; omega
            have hgR2 : ¬ (g2 = w.heap.size) := by have := hC.out; omega
            have hbl : 0 < b.length := by have := lb1.out; omega
            have hblI : (0 : Int) < b.length := by omega
            obtain ⟨x, hx⟩ : ∃ x, b[0]? = some x := ⟨b[0]'hbl, List.getElem?_eq_getElem _⟩
            have gd := hP.bx.drew.cells
            have ld := hP.bx.drew.lt
            have hPd := hid (show ChP B w w5.drew C _ _ t b from hP.draw (hP.src.ext (Ext.refl _).drew) ((Mut.refl _ _).drew))
            clear g0 f0 l0 gr fr lr
            replace hP := hid hP
            go_region_with (go_at_call 78; refine (next_any B 2 _ hPd.out.src (by omega) (by omega)).mono ?_; rintro e w8 ⟨r, rfl, h80, h81, S8, M8⟩; have hP8 := hPd.out.draw S8 M8; have g8 := hP8.bx.cells; have l8 := hP8.bx.lt; have f8 := owns_free hP8.o2; obtain ⟨z8, y8⟩ := owns_cell hP8.o2 0 (by omega); have l82 := (hP8.o2.lt g2 rfl).2; replace hP8 := hid hP8)
            all_goals
              have hQ := hP8.out.put2 0 (IntKind.i64.wrap (13 * r))
              clear g8 l8 f8 y8
              generalize World.setCell w8 _ _ = W2 at hQ ⊢
              have gQ := hQ.bx.cells
              have lQ := hQ.bx.lt
              have gr2 := hQ.res.cells
              have fr2 := hQ.res.free
              have lr2 := hQ.res.lt
              go_wp2_with fail
              have kB := (((hQ.res.set 0 (.slice q1 t.length c1)).set 1 (.slice (some ⟨g2, 0, none⟩) b.length c2))).cells
              refine bodyPost_ret (v := .agg #[.slice q1 t.length c1, .slice (some ⟨g2, 0, none⟩) b.length c2]) (by simp [results, Try.results44, go_sem, kB]) rfl (hQ.fin (by have := lt1.out; omega) (by rw [List.length_set]; have := lb1.out; omega))
          · have hmn0 : ¬ (0 : Int) < m := by omega
            go_wp2_with fail
            have kB := (((hP.res.set 0 (.slice q1 t.length c1)).set 1 (.slice q2 b.length c2))).cells
            refine bodyPost_ret (v := .agg #[.slice q1 t.length c1, .slice q2 b.length c2]) (by simp [results, Try.results44, go_sem, kB]) rfl (hP.fin (by have := lt1.out; omega) (by have := lb1.out; omega))
        · have e0 : (r4 == 0) = false := by simpa using hr0
          have e1 : (r4 == 1) = false := by simpa using hr1
          go_wp2_with fail
          have kB := (((hP.res.set 0 (.slice q1 t.length c1)).set 1 (.slice q2 b.length c2))).cells
          refine bodyPost_ret (v := .agg #[.slice q1 t.length c1, .slice q2 b.length c2]) (by simp [results, Try.results44, go_sem, kB]) rfl (hP.fin (by have := lt1.out; omega) (by have := lb1.out; omega))
end Go.Proofs.Ytiljojpnbpdaeaa
