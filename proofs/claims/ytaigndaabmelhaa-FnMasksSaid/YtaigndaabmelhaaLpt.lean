/- Contracts of the reference's l07Parts, l07Components. Condition: at most 2^20 valid rectangles. -/
import Derived.Test.YtaigndaabmelhaaLfl
namespace Go.Proofs.Ytaigndaabmelhaa
open Go.RowKit

/-- The header of a row of 6400 bools. -/
def encB (B : Nat) : List Value := [.slice (some ⟨B, 0, none⟩) 6400 6400]
theorem encB_len (B : Nat) : (encB B).length = 1 := rfl
theorem info_BB : (Try.prog.info? 79).map (fun i => (i.zero, i.size, i.bytes)) = some (some (.slice none 0 0), 1, 24) := by kernel_rfl
theorem Bits.grown {w w' : World} {B : Nat} {g : Grid} {row : Option Nat} (h : Bits w B g) (hg : w.grownBy w' row) (hne : row ≠ some B) : Bits w' B g :=
  ⟨Nat.lt_of_lt_of_le h.1 hg.size, fun i hi => by
    rw [World.cell?_of_block (w := w) (a := ⟨B, i, none⟩) (hg.block B h.1 (fun e => hne e.symm))]
    exact h.2 i hi⟩
/-- A row of rows of bools: the top of the call's own, the rows read. -/
structure OwB (base : Nat) (w : World) (q : Option Addr) (c : Nat) (Bs : List Nat) (G : List Grid) : Prop where
  len : Bs.length = G.length
  top : w.ownsRow base 79 1 (.slice q G.length c) G.length (Bs.flatMap encB)
  row : ∀ (k : Nat) (B : Nat) (g : Grid), Bs[k]? = some B → G[k]? = some g → Bits w B g
  under : ∀ (k : Nat) (B : Nat), Bs[k]? = some B → B ∉ blkOf q
  ge : ∀ (k : Nat) (B : Nat), Bs[k]? = some B → base ≤ B
theorem OwB.start {base c : Nat} {w : World} {q : Option Addr} (h : w.ownsRow base 79 1 (.slice q 0 c) 0 []) : OwB base w q c [] [] := ⟨rfl, h, (fun k B g hk => by simp at hk), (fun k B hk => by simp at hk), (fun k B hk => by simp at hk)⟩
theorem OwB.ext {base c : Nat} {w w' : World} {q : Option Addr} {Bs : List Nat} {G : List Grid} (h : OwB base w q c Bs G) (hE : Ext w w') : OwB base w' q c Bs G :=
  ⟨h.len, owns_ext h.top hE, fun k B g hB hg => (h.row k B g hB hg).ext hE, h.under, h.ge⟩
theorem Bits.mut {w w' : World} {B : Nat} {g : Grid} {S : List Nat} (h : Bits w B g) (M : Mut w w' S) (hB : B ∉ S) : Bits w' B g :=
  ⟨Nat.lt_of_lt_of_le h.1 M.size, fun i hi => by
    rw [World.cell?_of_block (w := w) (a := ⟨B, i, none⟩) (M.block B h.1 hB)]
    exact h.2 i hi⟩
theorem OwB.mut {base c O : Nat} {w w' : World} {q : Option Addr} {Bs : List Nat} {G : List Grid} (h : OwB base w q c Bs G) (M : Mut w w' [O]) (hO : O < base) : OwB base w' q c Bs G :=
  ⟨h.len, M.own hO h.top, fun k B g hB hg => (h.row k B g hB hg).mut M (fun hh => by have := h.ge k B hB; simp at hh; omega), h.under, h.ge⟩
theorem OwB.get {base c : Nat} {w : World} {q : Option Addr} {Bs : List Nat} {G : List Grid} (h : OwB base w q c Bs G) {k : Nat} (hk : k < G.length) :
    ∃ b B g, q = some ⟨b, 0, none⟩ ∧ b < w.heap.size ∧ Hid (G[k]? = some g) ∧ w.cell? ⟨b, k, none⟩ = some (.slice (some ⟨B, 0, none⟩) 6400 6400) ∧ Bits w B g := by
  obtain ⟨b, rfl⟩ := owns_some h.top (by omega)
  have hs := SlT.of_owns (l := Bs) encB_len h.len h.top
  obtain ⟨b', off, B, e1, e2, e3, e4⟩ := hs.get hk
  cases e1
  have hg : G[k]? = some G[k] := List.getElem?_eq_getElem hk
  exact ⟨b, B, G[k], rfl, e2, hg, by have := e4 0 _ rfl; simpa using this, h.row k B _ e3.out hg⟩
theorem OwB.push {base c ca : Nat} {w w2 W' : World} {q qa : Option Addr} {Bs : List Nat} {G : List Grid} {B : Nat} {g : Grid} {o : Obj} (h : OwB base w q c Bs G) (hB : Bits w2 B g) (hge : base ≤ B) (hq : B ∉ blkOf q) (hE : Ext w w2)
    (ht : W'.ownsRow base 79 1 (.slice qa (G.length + 1) ca) (G.length + 1) (Bs.flatMap encB ++ [.slice (some ⟨B, 0, none⟩) 6400 6400])) (hg : (w2.alloc o).grownBy W' (Value.slice q G.length c).ownBlock)
    (hb : (Value.slice qa (G.length + 1) ca).ownBlock = (Value.slice q G.length c).ownBlock ∨ (Value.slice qa (G.length + 1) ca).ownBlock = some (w2.alloc o).heap.size) : OwB base W' qa ca (Bs ++ [B]) (G ++ [g]) := by
  have hlen : (G ++ [g]).length = G.length + 1 := by simp
  have hrow : ∀ (k : Nat) (B' : Nat) (g' : Grid), (Bs ++ [B])[k]? = some B' → (G ++ [g])[k]? = some g' → Bits w2 B' g' ∧ B' ∉ blkOf q ∧ base ≤ B' := by
    intro k B' g' h1 h2
    by_cases hk : k < Bs.length
    · rw [List.getElem?_append_left hk] at h1
      rw [List.getElem?_append_left (by rw [← h.len]; exact hk)] at h2
      exact ⟨(h.row k B' g' h1 h2).ext hE, h.under k B' h1, h.ge k B' h1⟩
    · rw [List.getElem?_append_right (by omega)] at h1
      rw [List.getElem?_append_right (by rw [← h.len]; omega)] at h2
      have e1 : B' = B := by have := List.mem_of_getElem? h1; simpa using this
      have e2 : g' = g := by have := List.mem_of_getElem? h2; simpa using this
      subst e1 e2
      exact ⟨hB, hq, hge⟩
  have hlt : ∀ (k : Nat) (B' : Nat), (Bs ++ [B])[k]? = some B' → k < (G ++ [g]).length := fun k B' h1 => by
    have := (List.getElem?_eq_some_iff.1 h1).1
    rw [List.length_append, h.len] at this
    simpa using this
  refine ⟨by simp [h.len], ?_, fun k B' g' h1 h2 => ?_, fun k B' h1 hh => ?_, fun k B' h1 => (hrow k B' _ h1 (List.getElem?_eq_getElem (hlt k B' h1))).2.2⟩
  · rw [hlen, List.flatMap_append]; simpa [encB] using ht
  · obtain ⟨h3, h4, _⟩ := hrow k B' g' h1 h2
    refine (h3.ext ((Ext.refl w2).alloc o)).grown hg fun e => ?_
    rw [own_blkOf, Option.map_eq_some_iff] at e
    exact h4 (mem_blkOf.2 e)
  · obtain ⟨h3, h4, _⟩ := hrow k B' _ h1 (List.getElem?_eq_getElem (hlt k B' h1))
    obtain ⟨a, rfl, ha⟩ := mem_blkOf.1 hh
    rw [own_blkOf, own_blkOf, Option.map_some] at hb
    rcases hb with hb | hb
    · rw [eq_comm, Option.map_eq_some_iff] at hb
      obtain ⟨a', h5, h6⟩ := hb
      exact h4 (mem_blkOf.2 ⟨a', h5, h6.trans ha⟩)
    · have := h3.1
      simp only [Option.some.injEq] at hb
      rw [← ha, hb] at this
      simp at this
      omega
theorem l07Flood_at (B cb : Nat) (c : Grid) (x y : Nat) (w : World) (hb : Bits w B c) (hx : x < 80) (hy : y < 80) :
    Calls Try.prog 129 #[.slice (some ⟨B, 0, none⟩) 6400 cb, .int .i64 ((x : Int) - 40), .int .i64 ((y : Int) - 40), .bool false] w (BitsB (floodG c false (p2 (y * 80 + x))) w) := by
  have h := l07Flood_any B cb c (p2 (y * 80 + x)) w hb (p2_on (by omega))
  rw [show (p2 (y * 80 + x)).a = (x : Int) - 40 by simp only [p2, xOf]; omega, show (p2 (y * 80 + x)).b = (y : Int) - 40 by simp only [p2, yOf]; omega] at h
  exact h
theorem l03At_at (x y : Nat) (w : World) (hx : x < 80) (hy : y < 80) :
    Calls Try.prog 125 #[.int .i64 ((x : Int) - 40), .int .i64 ((y : Int) - 40)] w fun e w' => e = .returned (.int .i64 ((y * 80 + x : Nat) : Int)) ∧ w = w' := by
  have h := l03At_any ((x : Int) - 40) ((y : Int) - 40) w (by rw [onC_iff]; omega)
  rw [show atG ((x : Int) - 40) ((y : Int) - 40) = y * 80 + x by rw [atG]; omega] at h
  exact h
/-- What holds of the scan of the reference at unit cell i. -/
structure LpW (g : Grid) (w : World) (i : Nat) (d : Grid) (D : Nat) (G : List Grid) (q : Option Addr) (c : Nat) (Bs : List Nat) (wr : World) : Prop where
  split : partsG g = G ++ partsN g (6400 - i) i d
  own : OwB w.heap.size wr q c Bs G
  done : Bits wr D d
  ext : Ext w wr
def LpAt (g : Grid) (w : World) (i : Nat) (vo vd : Value) (wr : World) : Prop := ∃ (d : Grid) (D : Nat) (G : List Grid) (q : Option Addr) (c : Nat) (Bs : List Nat), vo = .slice q G.length c ∧ vd = .slice (some ⟨D, 0, none⟩) 6400 6400 ∧ LpW g w i d D G q c Bs wr
def PartsB (G : List Grid) (w : World) (e : Ending) (w' : World) : Prop := ∃ (q : Option Addr) (c : Nat) (Bs : List Nat), e = .returned (.slice q G.length c) ∧ OwB w.heap.size w' q c Bs G ∧ Ext w w'
set_option maxRecDepth 100000 in
set_option maxHeartbeats 8000000 in
theorem l07Parts_any (B cb : Nat) (g : Grid) (w : World) (hb : Bits w B g) :
    Calls Try.prog 111 #[.slice (some ⟨B, 0, none⟩) 6400 cb, .bool false] w (PartsB (partsG g) w) := by
  obtain ⟨i0, hi, hz0, hz1, hz2⟩ := info_parts info_BB
  obtain ⟨j0, hj, hy0, hy1, hy2⟩ := info_parts info_Bool
  have hbw := hid hb
  have hBl := hb.1
  clear hb
  go_enter Try.func111, Try.ntmps111
  go_upto_region 2 with (fail)
  have ho0 : (w.alloc (.cells #[] 79)).ownsRow w.heap.size 79 1 (.slice (some ⟨w.heap.size, 0, none⟩) 0 0) 0 [] := by
    have := World.ownsRow_made (base := w.heap.size) (e := 79) (size := 1) w #[] 0 (by simp) (by simp [maxLen]) (by simp)
    exact this
  generalize hW : w.alloc _ = W0 at ho0 ⊢
  have E0 : Ext w W0 := by rw [← hW]; exact (Ext.refl _).alloc _
  clear hW
  go_wp2_with (refine wpList_make_full _ rfl _ _ 79 rfl W0.heap.size 4 j0 _ 1 Try.underlying79 hj hy0 hy1 .i64 .i64 6400 6400 6400 rfl rfl rfl rfl (by rw [hy2]; omega) (by unfold maxLen; omega) (by simp) ?_; intro w1 ho hg)
  rw [made_const _ (.bool false) _ (by simp [Value.cells]) (by intro j hj; simp [Value.cells] at hj ⊢; subst hj; rfl), ← gcells_none] at ho
  have hE : Ext W0 w1 := (Ext.refl _).grown hg (fun _ h => by cases h)
  have hst : LpAt g w 0 (.slice (some ⟨w.heap.size, 0, none⟩) 0 0) (.slice (some ⟨W0.heap.size, 0, none⟩) 6400 6400) w1 := ⟨gnone, _, [], _, _, [], rfl, rfl, rfl, OwB.start (owns_ext ho0 hE), Bits.of ho, E0.trans hE⟩
  replace hst := hid hst
  clear ho hg hE E0 ho0
  go_loopw [5, 6, 7] (fun vo vd iy wr => ∃ y : Nat, y ≤ 80 ∧ iy = .int .i64 ((y : Int) - 40) ∧ Hid (LpAt g w (y * 80) vo vd wr)) (fun _ _ i _ => (40 - intOf i).toNat)
  case atStart => exact ⟨0, by omega, rfl, by rw [Nat.zero_mul]; exact hst⟩
  case round =>
    clear hst
    obtain ⟨y, hy, rfl, hr⟩ := hrel
    by_cases hlt : y < 80
    · have hyI : (y : Int) - 40 < 40 := by omega
      go_wp2
      go_loopw [5, 6, 8] (fun vo vd ix wr => ∃ x : Nat, x ≤ 80 ∧ ix = .int .i64 ((x : Int) - 40) ∧ Hid (LpAt g w (y * 80 + x) vo vd wr)) (fun _ _ i _ => (40 - intOf i).toNat)
      case atStart => exact ⟨0, by omega, rfl, hr⟩
      case round =>
        clear hr
        obtain ⟨x, hx, rfl, hr⟩ := hrel
        by_cases hxl : x < 80
        · have hxI : (x : Int) - 40 < 40 := by omega
          obtain ⟨d, D, G, q, c, Bs, rfl, rfl, hw⟩ := hr.out
          have hbx := hbw.out.ext hw.ext
          have z1 := hbx.2 (y * 80 + x) (by omega)
          have hBl2 := hbx.1
          have z2 := hw.done.2 (y * 80 + x) (by omega)
          have hDl := hw.done.1
          cases hh : (g (y * 80 + x) && !d (y * 80 + x)) with
          | false =>
            have hn : Hid (LpAt g w (y * 80 + (x + 1)) (.slice q G.length c) (.slice (some ⟨D, 0, none⟩) 6400 6400) wr) := ⟨d, D, G, q, c, Bs, rfl, rfl, by rw [hw.split, show 6400 - (y * 80 + x) = (6400 - (y * 80 + (x + 1))) + 1 by omega, partsN_miss hh]; rfl, hw.own, hw.done, hw.ext⟩
            replace hw := hid hw
            clear hr hbx
            rcases (show g (y * 80 + x) = false ∨ (g (y * 80 + x) = true ∧ d (y * 80 + x) = true) by revert hh; cases g (y * 80 + x) <;> cases d (y * 80 + x) <;> simp) with h1 | ⟨h1, h2⟩
            · rw [h1] at z1
              clear hh h1 z2
              go_wp2_with (go_at_call 125; refine (l03At_at x y _ hxl hlt).mono ?_; rintro e w' ⟨rfl, rfl⟩)
              go_roundw
              case rel => exact ⟨x + 1, by omega, vint (by omega), hn⟩
              case measure => simp [intOf]; omega
            · rw [h1] at z1
              rw [h2] at z2
              clear hh h1 h2
              go_wp2_with (go_at_call 125; refine (l03At_at x y _ hxl hlt).mono ?_; rintro e w' ⟨rfl, rfl⟩)
              go_roundw
              case rel => exact ⟨x + 1, by omega, vint (by omega), hn⟩
              case measure => simp [intOf]; omega
          | true =>
            have hh2 := hh
            rw [Bool.and_eq_true, Bool.not_eq_true'] at hh2
            obtain ⟨h1, h2⟩ := hh2
            rw [h1] at z1
            rw [h2] at z2
            have hsp : Hid (partsG g = (G ++ [floodG g false (p2 (y * 80 + x))]) ++ partsN g (6400 - (y * 80 + (x + 1))) (y * 80 + (x + 1)) (orG d (floodG g false (p2 (y * 80 + x))))) := by
              show _ = _
              rw [hw.split, show 6400 - (y * 80 + x) = (6400 - (y * 80 + (x + 1))) + 1 by omega, partsN_hit h1 h2, List.append_assoc, List.singleton_append]; rfl
            have hlG : G.length + 1 ≤ 6400 := by
              have h8 := (partsG_ok g).2.2.2
              rw [hsp.out, List.length_append, List.length_append] at h8
              simp at h8
              omega
            replace hw := hid hw
            replace hbx := hid hbx
            clear hr hh h1 h2
            go_upto_region 10 with (go_at_call 125; refine (l03At_at x y _ hxl hlt).mono ?_; rintro e w' ⟨rfl, rfl⟩)
            go_wp2_with fail
            refine (l07Flood_at B cb g x y _ hbx.out hxl hlt).mono ?_
            rintro e w6 ⟨N, rfl, oN, E6⟩
            have bN := hid (Bits.of oN)
            have hNge := (owns_lt oN).1
            have hNb := hid (Nat.le_trans hw.out.ext.le hNge)
            replace E6 := hid E6
            generalize hfl : floodG g false (p2 (y * 80 + x)) = fl at bN hsp
            clear oN hfl z1 z2 hBl2 hDl
            go_wp2_with fail
            refine (l04Combine_any D N 6400 6400 d fl _ (hw.out.done.ext E6.out) bN.out).mono ?_
            rintro e w7 ⟨D2, rfl, oD, E7⟩
            have bD := hid (Bits.of oD)
            have hD2 := hid (owns_lt oD).1
            have hqlt := hid (fun k (hk : k ∈ blkOf q) => (owns_ge (owns_ext hw.out.own.top E6.out) k hk).2)
            replace E7 := hid E7
            have bN7 := hid (bN.out.ext E7.out)
            have hown := hid (hw.out.own)
            have hE67 := hid (E6.out.trans E7.out)
            have hEw := hid (hw.out.ext.trans hE67.out)
            have htop := hid (owns_ext hown.out.top hE67.out)
            have hNq : Hid (N ∉ blkOf q) := fun h9 => by have := (owns_ge hown.out.top N h9).2; omega
            have hsz := hEw.out.le
            clear oD bN hNge
            go_wp2_with (at_builtin; refine wpList_append_own_at _ rfl _ _ 76 rfl w.heap.size 79 i0 (.slice none 0 0) 1 24 Try.underlying76 hi hz0 hz1 hz2 rfl (by omega) _ _ _ rfl (htop.out.alloc _) ⟨_, 0, none⟩ 1 1 [.slice (some ⟨N, 0, none⟩) 6400 6400] rfl rfl (cells_new1 _ _ _) (by intro u9 h9; simp at h9; subst h9; rfl) (len_le (by omega) (by omega)) (by omega) (by simp; omega) ?_; intro v' w9 ho' hg' _ hb'; obtain ⟨qa, ca, rfl⟩ := owns_forms ho'; replace ho' := hid ho'; replace hg' := hid hg'; replace hb' := hid hb')
            have hgne : Hid ((Value.slice q G.length c).ownBlock ≠ some D2) := by
              intro e9
              rw [own_blkOf, Option.map_eq_some_iff] at e9
              have h9 := hqlt.out D2 (mem_blkOf.2 e9)
              have := hD2.out
              omega
            go_roundw
            case rel => exact ⟨x + 1, by omega, vint (by omega), _, D2, G ++ [fl], qa, ca, _, by rw [List.length_append]; rfl, rfl, hsp.out, hown.out.push bN7.out hNb.out hNq.out hE67.out ho'.out hg'.out hb'.out, (bD.out.ext ((Ext.refl _).alloc _)).grown hg'.out hgne.out, (hEw.out.trans ((Ext.refl _).alloc _)).grown hg'.out (fun k hk => by have hk : (Value.slice q G.length c).ownBlock = some k := hk; rw [own_blkOf, Option.map_eq_some_iff] at hk; exact (owns_ge hown.out.top k (mem_blkOf.2 hk)).1)⟩
            case measure => simp [intOf]; omega
        · have hxI : ¬ (x : Int) - 40 < 40 := by omega
          have h80 : y * 80 + x = (y + 1) * 80 := by omega
          rw [h80] at hr
          clear h80
          go_wp2
          go_roundw
          case rel => exact ⟨y + 1, by omega, vint (by omega), hr⟩
          case measure => simp [intOf]; omega
    · have hyI : ¬ (y : Int) - 40 < 40 := by omega
      have h80 : y * 80 = 6400 := by omega
      rw [h80] at hr
      clear h80
      obtain ⟨d, D, G, q, c, Bs, rfl, rfl, hw⟩ := hr.out
      have hG : Hid (partsG g = G) := hw.split.trans (List.append_nil _)
      replace hw := hid hw
      clear hr
      go_wp2
      go_ret
      rw [hG.out]
      exact ⟨q, c, Bs, rfl, hw.out.own, hw.out.ext⟩
/-- The region of a part of a grid: at most 3200 rectangles. -/
theorem flV_snoc (G : List Grid) (g : Grid) : flV ((G ++ [g]).map canon) = flV (G.map canon) ++ [(canon g).flatMap enc4] := by simp [flV]
/-- A part more at the end. -/
theorem OwnS.part {cg : Grid} {base c c5 ca : Nat} {w1 w2 W' : World} {G : List Grid} {q q5 qa : Option Addr} {H : List Hd} (h : OwnS base w1 q G.length c H (flV (G.map canon))) (hb : base ≤ w1.heap.size)
    (o5 : w2.ownsRow w1.heap.size 50 4 (.slice q5 (canon cg).length c5) (canon cg).length ((canon cg).flatMap enc4)) (hE2 : Ext w1 w2) (o : Obj)
    (ht : W'.ownsRow base 27 1 (.slice qa (G.length + 1) ca) (G.length + 1) (H.flatMap encH ++ [.slice q5 (canon cg).length c5])) (hg : (w2.alloc o).grownBy W' (Value.slice q G.length c).ownBlock)
    (hq : (Value.slice qa (G.length + 1) ca).ownBlock = (Value.slice q G.length c).ownBlock ∨ (Value.slice qa (G.length + 1) ca).ownBlock = some (w2.alloc o).heap.size) : OwnS base W' qa (G ++ [cg]).length ca (H ++ [(q5, (canon cg).length, c5)]) (flV ((G ++ [cg]).map canon)) := by
  have hE3 := (hE2.trans ((Ext.refl w2).alloc o))
  have hlen : (G ++ [cg]).length = G.length + 1 := by simp
  have hfar : ∀ b, b ∈ blkOf q5 → w1.heap.size ≤ b := fun b hb => (owns_ge o5 b hb).1
  rw [hlen, flV_snoc]
  refine (h.ext hE3).push (x := (q5, (canon cg).length, c5)) (owns_lowP (owns_ext o5 ((Ext.refl w2).alloc o)) hb) (fun b hb => ⟨fun h' => by have := h.geTop b h'; have := hfar b hb; omega, fun h' => by have := h.geRow b h'; have := hfar b hb; omega⟩) ht hg (fun b hb => ?_)
  rw [own_blkOf, own_blkOf] at hq
  obtain ⟨a, rfl, rfl⟩ := mem_blkOf.1 hb
  rcases hq with hq | hq
  · left
    rw [Option.map_some, eq_comm, Option.map_eq_some_iff] at hq
    obtain ⟨a', h1, h2⟩ := hq
    exact mem_blkOf.2 ⟨a', h1, h2⟩
  · right
    simp only [Option.map_some, Option.some.injEq] at hq
    rw [hq]; exact Nat.le_refl _
set_option maxRecDepth 100000 in
set_option maxHeartbeats 4000000 in
theorem l07Components_any (q : Option Addr) (n c : Nat) (l : List Q4) (w : World) (h : SlT enc4 4 w q n l) (hn : n ≤ 1048576) (hv : ∀ r ∈ l, vR r = true) :
    Calls Try.prog 59 #[.slice q n c] w (PartsS (partsG (gL l)) w) := by
  obtain ⟨i0, hi, hz0, hz1, hz2⟩ := info_parts info_Hd
  have hg6 := (partsG_ok (gL l)).2.2.2
  replace hv := hid hv
  go_enter Try.func59, Try.ntmps59
  go_upto_region 2 with (fail)
  have ho0 : (w.alloc (.cells #[] 27)).ownsRow w.heap.size 27 1 (.slice (some ⟨w.heap.size, 0, none⟩) 0 0) 0 [] := by
    have := World.ownsRow_made (base := w.heap.size) (e := 27) (size := 1) w #[] 0 (by simp) (by simp [maxLen]) (by simp)
    exact this
  generalize hW : w.alloc _ = W0 at ho0 ⊢
  have E0 : Ext w W0 := by rw [← hW]; exact (Ext.refl _).alloc _
  clear hW
  go_wp2_with fail
  refine (l03Bits_any q n c l _ (h.ext E0) hn hv.out).mono ?_
  rintro e w1 ⟨B1, rfl, o1, E1⟩
  have t1 := hid (Bits.of o1)
  clear o1
  go_wp2_with fail
  refine (l07Parts_any B1 6400 (gL l) _ t1.out).mono ?_
  rintro e w2 ⟨q2, c2, Bs, rfl, o2, E2⟩
  obtain ⟨P, hP⟩ : ∃ P, P = partsG (gL l) := ⟨_, rfl⟩
  rw [← hP] at o2 hg6 ⊢
  have hEw := hid (E0.trans (E1.trans E2))
  have ho := hid (owns_ext ho0 (E1.trans E2))
  have hwl : w.heap.size < w1.heap.size := Nat.lt_of_lt_of_le (owns_lt ho0).2 E1.le
  have hwl2 : w.heap.size ≤ w2.heap.size := hEw.out.le
  replace o2 := hid o2
  replace hP := hid hP
  clear t1 E0 E1 E2 ho0
  go_wp2_with fail
  have hfr : Hid (Fresh w2 w.heap.size (.slice (some ⟨w.heap.size, 0, none⟩) 0 0)) := fun k hk => by simp [Value.ownBlock] at hk; omega
  go_loopw [3, 5] (fun vo iv wr => ∃ (G : List Grid) (qo : Option Addr) (co : Nat) (H : List Hd), G.length ≤ P.length ∧ iv = .int .i64 G.length ∧ vo = .slice qo G.length co ∧ Hid (G = P.take G.length) ∧ Hid (OwnS w.heap.size wr qo G.length co H (flV (G.map canon))) ∧ Hid (Mut w2 wr [w.heap.size]) ∧ Hid (Fresh w2 w.heap.size (.slice qo G.length co)) ∧ Hid (Ext w wr)) (fun _ i _ => P.length - (intOf i).toNat)
  case atStart => exact ⟨[], _, _, [], by simp, rfl, rfl, rfl, OwnS.start ho.out, Mut.refl _ _, hfr, hEw⟩
  case round =>
    clear ho hfr
    obtain ⟨G, qo, co, H, hk, rfl, rfl, hG, ho, hM, hF, hE⟩ := hrel
    by_cases hlt : G.length < P.length
    · have hltI : (G.length : Int) < (P.length : Int) := by omega
      have hB := o2.out.mut hM.out hwl
      obtain ⟨b, B, g, rfl, hb, hg, z, tB⟩ := hB.get hlt
      have tB := hid tB
      clear hB
      go_wp2_with fail
      refine (l03Canon_any B 6400 g _ tB.out).mono ?_
      rintro e w5 ⟨q5, c5, rfl, o5, E5⟩
      have hO := hid o5
      have hE5 := hid E5
      have htop := hid (owns_ext ho.out.top E5)
      have hsz := Nat.le_trans hE.out.le E5.le
      have hM5 := hid ((hM.out.ext E5).alloc (.cells #[.slice q5 (canon g).length c5] 27))
      have hEw5 := hid ((hE.out.trans E5).alloc (.cells #[.slice q5 (canon g).length c5] 27))
      clear tB o5 E5 z hb
      go_wp2_with (at_builtin; refine wpList_append_own_at _ rfl _ _ 24 rfl w.heap.size 27 i0 (.slice none 0 0) 1 24 Try.underlying24 hi hz0 hz1 hz2 rfl (by omega) _ _ _ rfl (htop.out.alloc _) ⟨_, 0, none⟩ 1 1 [.slice q5 (canon g).length c5] rfl rfl (cells_new1 _ _ _) (by intro u9 h9; simp at h9; subst h9; rfl) (len_le (by omega) (by omega)) (by omega) (by simp; omega) ?_; intro v' w9 ho' hg' _ hb'; obtain ⟨qa, ca, rfl⟩ := owns_forms ho'; replace ho' := hid ho'; replace hg' := hid hg'; replace hb' := hid hb')
      have hlG : (G ++ [g]).length = G.length + 1 := by simp
      have hlG2 := hid hlG
      clear hlG
      go_roundw
      case rel => exact ⟨G ++ [g], qa, ca, _, by rw [hlG2.out]; omega, by rw [hlG2.out]; go_num, by rw [hlG2.out], by show _ = _; rw [hlG2.out, take_snoc hg.out, ← hG.out], ho.out.part hE.out.le hO.out hE5.out _ ho'.out hg'.out hb'.out, hM5.out.append hF.out hg'.out, by rw [hlG2.out]; exact hF.out.append hM5.out hb'.out, hEw5.out.grown hg'.out (fun k hk => by have hk : (Value.slice qo G.length co).ownBlock = some k := hk; rw [own_blkOf, Option.map_eq_some_iff] at hk; exact (owns_ge htop.out k (mem_blkOf.2 hk)).1)⟩
      case measure => simp [intOf]; omega
    · have hltI : ¬ (G.length : Int) < (P.length : Int) := by omega
      have hGP : Hid (G = P) := hG.out.trans (List.take_of_length_le (by omega))
      clear hG
      go_wp2_with fail
      go_ret
      rw [← hP.out, ← hGP.out]
      exact ⟨qo, co, H, rfl, ho.out, hE.out⟩
end Go.Proofs.Ytaigndaabmelhaa
