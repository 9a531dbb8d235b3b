/- Contract of cells.parts (program). -/
import Derived.Test.YtaigndaabmelhaaSrm
import Derived.Test.YtaigndaabmelhaaFlo
import Derived.Deep.RegionHeld3
namespace Go.Proofs.Ytaigndaabmelhaa
open Go.RowKit

theorem set_take {cur : List Value} {o : Nat} {v : Value} (h : o < cur.length) : (cur.set o v).take (o + 1) = cur.take o ++ [v] := by
  rw [List.take_add_one, List.take_set_of_le (Nat.le_refl _), List.getElem?_set_self h]; rfl
theorem Blk.setCells {B : Nat} {t : TypeId} : ∀ (vs : List Value) (o : Nat) (w : World) (cur : List Value), Blk w B cur t → o + vs.length ≤ cur.length → Blk (w.setCells B o vs) B (cur.take o ++ (vs ++ cur.drop (o + vs.length))) t
  | [], o, w, cur, h, _ => by
    show Blk w B _ t
    simpa using h
  | v :: vs, o, w, cur, h, hl => by
    rw [List.length_cons] at hl
    have ih := Blk.setCells vs (o + 1) (w.setCell ⟨B, o, none⟩ v) (cur.set o v) (h.set o v) (by rw [List.length_set]; omega)
    have e1 : (cur.set o v).take (o + 1) ++ (vs ++ (cur.set o v).drop (o + 1 + vs.length)) = cur.take o ++ (v :: vs ++ cur.drop (o + (v :: vs).length)) := by
      rw [set_take (by omega), List.drop_set_of_lt (by omega), List.length_cons, show o + (vs.length + 1) = o + 1 + vs.length by omega]
      simp
    rw [e1] at ih
    exact ih
theorem Blk.setAll {B : Nat} {t : TypeId} {w : World} {cur vs : List Value} (h : Blk w B cur t) (hl : vs.length = cur.length) : Blk (w.setCells B 0 vs) B vs t := by
  have := Blk.setCells vs 0 w cur h (by omega)
  rw [List.take_zero, List.nil_append, Nat.zero_add, List.drop_of_length_le (by omega), List.append_nil] at this
  exact this
theorem Mut.setCells {a : World} {B : Nat} {S : List Nat} (hB : B ∈ S) : ∀ (vs : List Value) (o : Nat) (w : World), Mut a w S → Mut a (w.setCells B o vs) S
  | [], _, _, h => h
  | v :: vs, o, _, h => Mut.setCells hB vs (o + 1) _ (h.setCell (p := ⟨B, o, none⟩) hB v)
theorem there_blk {w : World} {B : Nat} {cs : List Value} {t : TypeId} (h : Blk w B cs t) : w.there B 0 cs.length := fun j hj => by
  rw [Nat.zero_add]
  exact ⟨by rw [h.cells, List.getElem?_eq_getElem hj]; rfl, h.free j⟩
theorem range_blk {w : World} {B : Nat} {cs : List Value} {t : TypeId} (h : Blk w B cs t) : w.rangeAt B 0 cs := fun j v hj => by rw [Nat.zero_add, h.cells]; exact hj
theorem owns_lowP {w : World} {b b' size n : Nat} {e : TypeId} {v : Value} {xs : List Value} (h : w.ownsRow b e size v n xs) (hb : b' ≤ b) : w.ownsRow b' e size v n xs :=
  ⟨h.1, h.2.elim Or.inl (fun ⟨g, cap, cur, hv, hg, r⟩ => Or.inr ⟨g, cap, cur, hv, Nat.le_trans hb hg, r⟩)⟩
theorem infoCells : (Try.prog.info? 109).map (·.size) = some 6400 := by kernel_rfl
theorem one_cells (g : Grid) : ∀ v ∈ gcells g, v.oneCell' = true := by
  intro v hv
  rw [gcells, List.mem_map] at hv
  obtain ⟨i, _, rfl⟩ := hv
  rfl
theorem wpStill_skip {P : Program} {ops : Array Oper} {w : World} {Q : Act → Prop} {a : Act} {o : Oper} {rest : List Oper} (h : Region.wanted o (yielded ops a.tmps) = false) (k : wpStill P ops w Q rest (a.put o.dst undef)) : wpStill P ops w Q (o :: rest) a :=
  wpStill_step fun K hK => by rw [h]; exact hK _ k
theorem wpStill_want {P : Program} {ops : Array Oper} {w : World} {Q : Act → Prop} {a : Act} {o : Oper} {rest : List Oper} (h : Region.wanted o (yielded ops a.tmps) = true) (k : ∀ K : Act → Prop, (∀ a, wpStill P ops w Q rest a → K a) → o.still P a w K) : wpStill P ops w Q (o :: rest) a :=
  wpStill_step fun K hK => by rw [h]; exact k K hK
theorem OwnS.start {base c : Nat} {w : World} {q : Option Addr} (h : w.ownsRow base 27 1 (.slice q 0 c) 0 []) : OwnS base w q 0 c [] [] := ⟨rfl, rfl, h, (fun k h v hk => by simp at hk), (fun j k h h' _ hj => by simp at hj), (fun k h hk => by simp at hk)⟩
/-- What holds of the scan at unit cell i. -/
structure PtW (g : Grid) (w : World) (P i : Nat) (l d : Grid) (G : List Grid) (q : Option Addr) (c : Nat) (H : List Hd) (wr : World) : Prop where
  inv : PtI g i l d G
  own : OwnS w.heap.size wr q G.length c H (flV (G.map canon))
  top : P ∉ blkOf q
  rows : P ∉ rowsB H
  blk : Blk wr P (gcells l) 109
  ext : Ext w wr
def PtAt (g : Grid) (w : World) (P i : Nat) (vo : Value) (wr : World) : Prop := ∃ (l d : Grid) (G : List Grid) (q : Option Addr) (c : Nat) (H : List Hd), vo = .slice q G.length c ∧ PtW g w P i l d G q c H wr
theorem flood_at (B : Nat) (c : Grid) (x y : Nat) (w : World) (hb : Blk w B (gcells c) 109) (hx : x < 80) (hy : y < 80) :
    Calls Try.prog 135 #[.pointer (some ⟨B, 0, none⟩), .int .i64 x, .int .i64 y, .bool false] w (CellsB (floodG c false (p2 (y * 80 + x))) w) := by
  have h := flood_any B c (p2 (y * 80 + x)) w hb (p2_on (by omega))
  rw [show (p2 (y * 80 + x)).a + 40 = x by simp only [p2, xOf]; omega, show (p2 (y * 80 + x)).b + 40 = y by simp only [p2, yOf]; omega] at h
  exact h
/-- A row of the regions of some sets comes back. -/
def PartsS (G : List Grid) (w : World) (e : Ending) (w' : World) : Prop := ∃ (q : Option Addr) (c : Nat) (H : List Hd), e = .returned (.slice q G.length c) ∧ OwnS w.heap.size w' q G.length c H (flV (G.map canon)) ∧ Ext w w'
/-- Sorting the parts, which stand in order already. -/
theorem sortParts_any (g : Grid) (q : Option Addr) (c base : Nat) (H : List Hd) (w : World) (h : OwnS base w q (partsG g).length c H (flV ((partsG g).map canon))) :
    Calls Try.prog 136 #[.slice q (partsG g).length c, .func (.func 137) #[] #[]] w fun e w' => e = .returned (.tuple #[]) ∧ Ext w w' := by
  obtain ⟨f, hf, hlt⟩ := parts_order g
  have hl := (partsG_ok g).2.2.2
  generalize hL : (partsG g).map canon = L at h hf
  generalize (partsG g).length = n at h hlt hl ⊢
  cases n with
  | zero => exact (sortP_zero q c w).mono fun e w' ⟨h1, h2⟩ => ⟨h1, h2 ▸ Ext.refl _⟩
  | succ m =>
    obtain ⟨O, rfl⟩ := owns_some h.top (by omega)
    exact sortP_some O m c base H L f w h (by omega) hf hlt
theorem info_Hd : (Try.prog.info? 27).map (fun i => (i.zero, i.size, i.bytes)) = some (some (.slice none 0 0), 1, 24) := by kernel_rfl
/-- The row grows by a part. -/
theorem PtW.push {g l' d' cg : Grid} {w w1 w2 W' : World} {P i : Nat} {G : List Grid} {q q5 qa : Option Addr} {c c5 ca : Nat} {H : List Hd}
    (h : OwnS w.heap.size w1 q G.length c H (flV (G.map canon))) (hP : P ∉ blkOf q) (hPr : P ∉ rowsB H) (hb : Blk w1 P (gcells l') 109) (hE : Ext w w1)
    (o5 : w2.ownsRow w1.heap.size 50 4 (.slice q5 (canon cg).length c5) (canon cg).length ((canon cg).flatMap enc4)) (hE2 : Ext w1 w2) (o : Obj)
    (ht : W'.ownsRow w.heap.size 27 1 (.slice qa (G.length + 1) ca) (G.length + 1) (H.flatMap encH ++ [.slice q5 (canon cg).length c5])) (hg : (w2.alloc o).grownBy W' (Value.slice q G.length c).ownBlock)
    (hq : (Value.slice qa (G.length + 1) ca).ownBlock = (Value.slice q G.length c).ownBlock ∨ (Value.slice qa (G.length + 1) ca).ownBlock = some (w2.alloc o).heap.size)
    (hI : PtI g i l' d' (G ++ [cg])) : PtAt g w P i (.slice qa (G.length + 1) ca) W' := by
  have hE3 := (hE2.trans ((Ext.refl w2).alloc o))
  have hlen : (G ++ [cg]).length = G.length + 1 := by simp
  have hw1 := h.ext hE3
  have hqo : ∀ b, b ∈ blkOf qa → b ∈ blkOf q ∨ (w2.alloc o).heap.size ≤ b := fun b hb => by
    rw [own_blkOf, own_blkOf] at hq
    obtain ⟨a, rfl, rfl⟩ := mem_blkOf.1 hb
    rcases hq with hq | hq
    · left
      rw [Option.map_some, eq_comm, Option.map_eq_some_iff] at hq
      obtain ⟨a', h1, h2⟩ := hq
      exact mem_blkOf.2 ⟨a', h1, h2⟩
    · right
      simp only [Option.map_some, Option.some.injEq] at hq
      rw [hq]; exact Nat.le_refl _
  have hfar : ∀ b, b ∈ blkOf q5 → w1.heap.size ≤ b := fun b hb => (owns_ge o5 b hb).1
  have hPl := hb.lt
  have hpush := hw1.push (x := (q5, (canon cg).length, c5)) (v := (canon cg).flatMap enc4) (w' := W') (qa := qa) (ca := ca) (owns_lowP (owns_ext o5 ((Ext.refl w2).alloc o)) hE.le) (fun b hb => ⟨fun h' => by have := h.geTop b h'; have := hfar b hb; omega, fun h' => by have := h.geRow b h'; have := hfar b hb; omega⟩) ht hg hqo
  refine ⟨l', d', G ++ [cg], qa, ca, H ++ [(q5, (canon cg).length, c5)], by rw [hlen], hI, ?_, fun hp => ?_, fun hp => ?_, ?_, ?_⟩
  · rw [hlen]
    have e : flV ((G ++ [cg]).map canon) = flV (G.map canon) ++ [(canon cg).flatMap enc4] := by simp [flV]
    rw [e]; exact hpush
  · rcases hqo P hp with h' | h'
    · exact hP h'
    · have := hE3.le; omega
  · obtain ⟨k, x, hx, hbx⟩ := mem_rowsB.1 hp
    by_cases hk : k < H.length
    · rw [List.getElem?_append_left hk] at hx
      exact hPr (mem_rowsB.2 ⟨k, x, hx, hbx⟩)
    · rw [List.getElem?_append_right (by omega)] at hx
      have : x = (q5, (canon cg).length, c5) := by
        have hm := List.mem_of_getElem? hx
        simpa using hm
      subst this
      have := hfar P hbx
      omega
  · refine (hb.ext hE3).grown hg (fun hh => ?_)
    rw [own_blkOf, Option.map_eq_some_iff] at hh
    exact hP (mem_blkOf.2 hh)
  · exact (hE.trans hE3).grown hg (fun k hk => by
      rw [own_blkOf, Option.map_eq_some_iff] at hk
      exact (h.geTop k (mem_blkOf.2 hk)).1)
set_option maxRecDepth 100000 in
set_option maxHeartbeats 8000000 in
theorem parts_any (B : Nat) (g : Grid) (w : World) (hb : Blk w B (gcells g) 109) :
    Calls Try.prog 112 #[.pointer (some ⟨B, 0, none⟩), .bool false] w (PartsS (partsG g) w) := by
  have hbw := hid hb
  obtain ⟨cs, hcs⟩ : ∃ cs, cs = gcells g := ⟨_, rfl⟩
  have hlen : cs.length = (gcells gnone).length := by rw [hcs, gcells_len, gcells_len]
  have huc := Try.underlying109
  have hic : (Try.prog.info? 109).map (·.size) = some cs.length := by rw [hcs, gcells_len]; exact infoCells
  have hone : ∀ v ∈ cs, v.oneCell' = true := by rw [hcs]; exact one_cells g
  have hBl := hb.lt
  rw [← hcs] at hb
  have r1 : w.drew.rangeAt B 0 cs := range_blk hb
  have hk : ∀ W, Ext w W → W.rangeAt B 0 cs := fun W hW => range_blk (hb.ext hW)
  have hk := hid hk
  have hk2 : ∀ W P, Ext w W → w.heap.size ≤ P → (W.setCells P 0 cs).rangeAt B 0 cs := fun W P hW hP => World.rangeAt_setCells_apart (hk.out W hW) _ _ _ (Or.inl (by omega))
  have hk2 := hid hk2
  have zb : ∀ W : World, Blk (W.alloc (.cells Try.zeroCells109 109)) W.heap.size (gcells gnone) 109 := fun W => by rw [zeroCells]; exact Blk.new _ _ _
  have zb1 := (zb (w.alloc (.cells #[] 27))).drew
  have zb2 := ((zb w).alloc (.cells #[] 27)).drew
  have t1 : ((w.alloc (.cells #[] 27)).alloc (.cells Try.zeroCells109 109)).drew.there (w.heap.size + 1) 0 cs.length = True := eq_true (by
    rw [hlen]
    have := there_blk zb1
    simpa using this)
  have t2 : ((w.alloc (.cells Try.zeroCells109 109)).alloc (.cells #[] 27)).drew.there w.heap.size 0 cs.length = True := eq_true (by
    rw [hlen]
    exact there_blk zb2)
  have f1 := zb1.setAll hlen
  have f2 := zb2.setAll hlen
  clear zb1 zb2
  rw [show (w.alloc (.cells #[] 27)).heap.size = w.heap.size + 1 by simp] at f1
  have ho0 : ∀ W : World, w.heap.size ≤ W.heap.size → (W.alloc (.cells #[] 27)).ownsRow w.heap.size 27 1 (.slice (some ⟨W.heap.size, 0, none⟩) 0 0) 0 [] := fun W hW =>
    by
    have := World.ownsRow_made (base := W.heap.size) (e := 27) (size := 1) W #[] 0 (by simp) (by simp [maxLen]) (by simp)
    exact owns_lowP this hW
  have o1 := (Mut.setCells (B := w.heap.size + 1) (S := [w.heap.size + 1]) (by simp) cs 0 _ (Mut.refl _ _)).grownBy (v := .slice (some ⟨w.heap.size, 0, none⟩) 0 0) (fun g hg => by simp [Value.ownBlock] at hg ⊢; omega) (((ho0 w (Nat.le_refl _)).alloc (.cells Try.zeroCells109 109)).drew)
  have o2 := (Mut.setCells (B := w.heap.size) (S := [w.heap.size]) (by simp) cs 0 _ (Mut.refl _ _)).grownBy (v := .slice (some ⟨(w.alloc (.cells Try.zeroCells109 109)).heap.size, 0, none⟩) 0 0) (fun g hg => by simp [Value.ownBlock] at hg ⊢; omega) ((ho0 (w.alloc (.cells Try.zeroCells109 109)) (by simp)).drew)
  rw [show (w.alloc (.cells Try.zeroCells109 109)).heap.size = w.heap.size + 1 by simp] at o2
  have e1 := (((Ext.refl w).alloc (.cells #[] 27)).alloc (.cells Try.zeroCells109 109)).drew.then (Mut.setCells (B := w.heap.size + 1) (S := [w.heap.size + 1]) (by simp) cs 0 _ (Mut.refl _ _)) (by simp)
  have e2 := (((Ext.refl w).alloc (.cells Try.zeroCells109 109)).alloc (.cells #[] 27)).drew.then (Mut.setCells (B := w.heap.size) (S := [w.heap.size]) (by simp) cs 0 _ (Mut.refl _ _)) (by simp)
  have o1 := hid o1
  have o2 := hid o2
  have e1 := hid e1
  have e2 := hid e2
  have f1 := hid f1
  have f2 := hid f2
  clear ho0
  have zb := hid zb
  replace hlen := hid hlen
  replace hcs := hid hcs
  clear hb
  go_enter Try.func112, Try.ntmps112
  go_wp2
  refine wp_cut (fun a0 a' w' => ∃ (P O : Nat), (w.heap.size ≤ P ∧ w.heap.size ≤ O ∧ P ≠ O ∧ Blk w' P (gcells g) 109 ∧ w'.ownsRow w.heap.size 27 1 (.slice (some ⟨O, 0, none⟩) 0 0) 0 [] ∧ Ext w w') ∧
    a' = (((((a0.put (some 12) (.slice (some ⟨O, 0, none⟩) 0 0)).put (some 13) (.pointer (some ⟨B, 0, none⟩))).put (some 14) (.pointer (some ⟨B, 0, none⟩))).put (some 15) (.agg cs.toArray)).put (some 6) (.pointer (some ⟨P, 0, none⟩))).put (some 5) (.slice (some ⟨O, 0, none⟩) 0 0)) ?_ ?_
  · skip
    go_region_held3 (fun W => W.rangeAt B 0 cs) (first | exact r1 | exact hk.out _ ((Ext.refl _).drew.alloc _) | exact hk.out _ (((Ext.refl _).drew.alloc _).alloc _) | exact hk2.out _ _ (((Ext.refl _).drew.alloc _).alloc _) (by omega)) (fail)
    · exact ⟨w.heap.size + 1, w.heap.size, ⟨by omega, by omega, by omega, by rw [← hcs.out]; exact f1.out, o1.out, e1.out⟩, by kernel_rfl⟩
    · exact ⟨w.heap.size, w.heap.size + 1, ⟨by omega, by omega, by omega, by rw [← hcs.out]; exact f2.out, o2.out, e2.out⟩, by kernel_rfl⟩
  rintro a' w5 ⟨P, O, ⟨hP, hO, hPO, hbP, ho, hE⟩, rfl⟩
  simp only [Act.put, List.setIfInBounds_toArray, List.set_cons_zero, List.set_cons_succ]
  clear r1 hk hk2 zb t1 t2 o1 o2 e1 e2 f1 f2 hic hone huc hBl
  clear hk hk2 zb o1 o2 e1 e2 f1 f2
  have hst : PtAt g w P 0 (.slice (some ⟨O, 0, none⟩) 0 0) w5 := ⟨g, gnone, [], _, 0, [], rfl, PtI.start g, OwnS.start ho, by simp [blkOf]; exact hPO, by simp [rowsB], hbP, hE⟩
  obtain ⟨i0, hi, hz0, hz1, hz2⟩ := info_parts info_Hd
  replace hst := hid hst
  clear hbP ho hE hcs hlen
  go_wp2
  go_loopw [5, 16] (fun vo iy wr => ∃ y : Nat, y ≤ 80 ∧ iy = .int .i64 y ∧ Hid (PtAt g w P (y * 80) vo wr)) (fun _ i _ => 80 - (intOf i).toNat)
  case atStart => exact ⟨0, by omega, rfl, by rw [Nat.zero_mul]; exact hst⟩
  case round =>
    clear hst
    obtain ⟨y, hy, rfl, hr⟩ := hrel
    by_cases hlt : y < 80
    · have hyI : (y : Int) < 80 := by omega
      go_wp2
      go_loopw [5, 19] (fun vo ix wr => ∃ x : Nat, x ≤ 80 ∧ ix = .int .i64 x ∧ Hid (PtAt g w P (y * 80 + x) vo wr)) (fun _ i _ => 80 - (intOf i).toNat)
      case atStart => exact ⟨0, by omega, rfl, hr⟩
      case round =>
        clear hr
        obtain ⟨x, hx, rfl, hr⟩ := hrel
        by_cases hxl : x < 80
        · have hxI : (x : Int) < 80 := by omega
          obtain ⟨l, d, G, q, c, H, rfl, hw⟩ := hr.out
          have z1 := hw.blk.cells (y * 80 + x)
          rw [gcells_get _ (by omega)] at z1
          have hPl := hw.blk.lt
          cases hl : l (y * 80 + x) with
          | false =>
            rw [hl] at z1
            have hn : Hid (PtAt g w P (y * 80 + (x + 1)) (.slice q G.length c) wr) := ⟨l, d, G, q, c, H, rfl, hw.inv.miss (by omega) hl, hw.own, hw.top, hw.rows, hw.blk, hw.ext⟩
            replace hw := hid hw
            clear hl hr
            go_wp2
            go_roundw
            case rel => exact ⟨x + 1, by omega, by go_num, hn⟩
            case measure => simp [intOf]; omega
          | true =>
            rw [hl] at z1
            have hl2 := hid hl
            replace hw := hid hw
            clear hl hr
            go_wp2_with fail
            refine (flood_at P l x y _ hw.out.blk hxl hlt).mono ?_
            rintro e w6 ⟨N, rfl, hN, hbN, E6⟩
            have hh := hw.out.inv.hit (by omega) hl2.out
            obtain ⟨hh1, hI⟩ := hh
            rw [hh1] at hbN
            obtain ⟨cg, hcg⟩ : ∃ cg, cg = floodG g false (p2 (y * 80 + x)) := ⟨_, rfl⟩
            rw [← hcg] at hbN hI
            have hNP : N ≠ P := by omega
            have hb6 := hw.out.blk.ext E6
            rw [subN_zero l cg] at hb6
            have hPl6 : P < w6.heap.size := Nat.lt_of_lt_of_le hPl E6.le
            replace hI := hid hI
            replace hbN := hid hbN
            replace hb6 := hid hb6
            replace E6 := hid E6
            replace hcg := hid hcg
            clear hh1 z1 hPl hl2 hN
            go_wp2_with fail
            go_loopw [32] (fun iv W => ∃ v : Nat, v ≤ 80 ∧ iv = .int .i64 v ∧ Hid (Mut w6 W [P]) ∧ Hid (Blk W P (gcells (subN l cg (v * 80))) 109)) (fun i _ => 80 - (intOf i).toNat)
            case atStart => exact ⟨0, by omega, rfl, Mut.refl _ _, by rw [Nat.zero_mul]; exact hb6⟩
            case round =>
              clear hb6
              obtain ⟨v, hv, rfl, hM, hb⟩ := hrel
              by_cases hvl : v < 80
              · have hvI : (v : Int) < 80 := by omega
                go_wp2_with fail
                go_loopw [35] (fun iu W => ∃ u : Nat, u ≤ 80 ∧ iu = .int .i64 u ∧ Hid (Mut w6 W [P]) ∧ Hid (Blk W P (gcells (subN l cg (v * 80 + u))) 109)) (fun i _ => 80 - (intOf i).toNat)
                case atStart => exact ⟨0, by omega, rfl, hM, hb⟩
                case round =>
                  clear hb hM
                  obtain ⟨u, hu, rfl, hM, hb⟩ := hrel
                  by_cases hul : u < 80
                  · have huI : (u : Int) < 80 := by omega
                    have z1 := hb.out.cells (v * 80 + u)
                    rw [gcells_get _ (by omega), subN_at] at z1
                    have z2 := (hbN.out.mut hM.out (by simpa using hNP)).cells (v * 80 + u)
                    rw [gcells_get _ (by omega)] at z2
                    have hNl := (hbN.out.mut hM.out (by simpa using hNP)).lt
                    have hPl4 := hb.out.lt
                    have fz := hb.out.free (v * 80 + u)
                    have hb2 := hid ((show Blk wr.drew P _ _ from hb.out).set (v * 80 + u) (.bool (l (v * 80 + u) && !cg (v * 80 + u))))
                    have hM2 := hid (hM.out.drew.setCell (p := ⟨P, v * 80 + u, none⟩) (by simp) (.bool (l (v * 80 + u) && !cg (v * 80 + u))))
                    have hst := hid (subN_set l cg (v * 80 + u))
                    cases hlm : l (v * 80 + u) with
                    | false =>
                      rw [hlm] at z1 hb2 hM2 hst
                      clear hlm
                      go_wp2_with fail
                      refine wp_region_still_tail 19 (by kernel_rfl) (by kernel_rfl) ?_
                      simp only [List.take_succ_cons, List.take_zero, List.drop_succ_cons, List.drop_zero]
                      iterate 8 still_step
                      iterate 8
                        refine @wpStill_skip _ _ _ _ _ _ _ ?_ ?_
                        · kernel_rfl
                        simp only [Act.put, List.setIfInBounds_toArray, List.set_cons_zero, List.set_cons_succ]
                      iterate 3
                        refine @wpStill_want _ _ _ _ _ _ _ ?_ (fun K hK => ?_)
                        · kernel_rfl
                        go_simp
                        refine hK _ ?_
                        clear hK K
                      refine @wpStill_nil _ _ _ _ _ ?_
                      change wpList _ _ _ _ _ wr.drew
                      go_wp2_with fail
                      go_roundw
                      case rel => exact ⟨u + 1, by omega, by go_num, hM2, by have := hb2.out; rw [hst.out] at this; exact this⟩
                      case measure => simp [intOf]; omega
                    | true =>
                      rw [hlm] at z1 hb2 hM2 hst
                      clear hlm
                      go_wp2_with fail
                      refine wp_region_still_tail 19 (by kernel_rfl) (by kernel_rfl) ?_
                      simp only [List.take_succ_cons, List.take_zero, List.drop_succ_cons, List.drop_zero]
                      iterate 8 still_step
                      iterate 11
                        refine @wpStill_want _ _ _ _ _ _ _ ?_ (fun K hK => ?_)
                        · kernel_rfl
                        go_simp
                        refine hK _ ?_
                        clear hK K
                      refine @wpStill_nil _ _ _ _ _ ?_
                      change wpList _ _ _ _ _ wr.drew
                      go_wp2_with fail
                      go_roundw
                      case rel => exact ⟨u + 1, by omega, by go_num, hM2, by have := hb2.out; rw [hst.out] at this; exact this⟩
                      case measure => simp [intOf]; omega
                  · have huI : ¬ (u : Int) < 80 := by omega
                    have h80 : v * 80 + u = (v + 1) * 80 := by omega
                    rw [h80] at hb
                    clear h80
                    go_wp2
                    go_roundw
                    case rel => exact ⟨v + 1, by omega, by go_num, hM, hb⟩
                    case measure => simp [intOf]; omega
              · have hvI : ¬ (v : Int) < 80 := by omega
                have h80 : v * 80 = 6400 := by omega
                rw [h80, subN_all] at hb
                clear h80
                have hbN2 := hbN.out.mut hM.out (by simpa using hNP)
                go_wp2_with fail
                refine (region_any N cg _ hbN2).mono ?_
                rintro e w8 ⟨q5, c5, rfl, o5, E8⟩
                have hO := hid o5
                have hown := hid ((hw.out.own.ext E6.out).mut hM.out (fun b h9 h8 => by rw [List.mem_singleton] at h8; subst h8; exact hw.out.top h9) (fun b h9 h8 => by rw [List.mem_singleton] at h8; subst h8; exact hw.out.rows h9))
                have hEx := hid ((hw.out.ext.trans E6.out).then hM.out (by simpa using hP))
                have hrow := hid ((hown.out.ext E8).top)
                have hlG : G.length + 1 ≤ 6400 := by
                  have := hI.out.len
                  simpa using this
                have hE8 := hid E8
                have hszw := Nat.le_trans hEx.out.le E8.le
                clear o5 E8 hbN2
                go_wp2_with (at_builtin; refine wpList_append_own_at _ rfl _ _ 24 rfl w.heap.size 27 i0 (.slice none 0 0) 1 24 Try.underlying24 hi hz0 hz1 hz2 rfl (by omega) _ _ _ rfl (hrow.out.alloc _) ⟨_, 0, none⟩ 1 1 [.slice q5 (canon cg).length c5] rfl rfl (cells_new1 _ _ _) (by intro u9 h9; simp at h9; subst h9; rfl) (len_le (by omega) (by omega)) (by omega) (by simp; omega) ?_; intro v' w9 ho' hg' _ hb'; obtain ⟨qa, ca, rfl⟩ := owns_forms ho'; replace ho' := hid ho'; replace hg' := hid hg'; replace hb' := hid hb')
                go_roundw
                case rel => exact ⟨x + 1, by omega, by go_num, PtW.push hown.out hw.out.top hw.out.rows hb.out hEx.out hO.out hE8.out _ ho'.out hg'.out hb'.out hI.out⟩
                case measure => simp [intOf]; omega
        · have hxI : ¬ (x : Int) < 80 := by omega
          have h80 : y * 80 + x = (y + 1) * 80 := by omega
          rw [h80] at hr
          clear h80
          go_wp2
          go_roundw
          case rel => exact ⟨y + 1, by omega, by go_num, hr⟩
          case measure => simp [intOf]; omega
    · have hyI : ¬ (y : Int) < 80 := by omega
      have h80 : y * 80 = 6400 := by omega
      rw [h80] at hr
      clear h80
      obtain ⟨l, d, G, q, c, H, rfl, hw⟩ := hr.out
      have hG := hid hw.inv.done
      obtain ⟨n, hn⟩ : ∃ n, n = G.length := ⟨_, rfl⟩
      have hS := sortParts_any g q c w.heap.size H wr (by rw [hG.out]; exact hw.own)
      rw [hG.out, ← hn] at hS
      rw [← hn]
      replace hn := hid hn
      replace hS := hid hS
      replace hw := hid hw
      clear hr
      go_wp2_with fail
      refine hS.out.mono ?_
      rintro e w7 ⟨rfl, E7⟩
      replace E7 := hid E7
      go_wp2_with fail
      go_ret
      rw [hG.out, hn.out]
      exact ⟨q, c, H, rfl, hw.out.own.ext E7.out, hw.out.ext.trans E7.out⟩
end Go.Proofs.Ytaigndaabmelhaa
