/- Contract of the reference's l33Stitched. Condition: at most 1000 rows; the points on the chip. -/
import Derived.Test.YtaigndaabmelhaaFsd
import Derived.Test.YtaigndaabmelhaaFsu
namespace Go.Proofs.Ytaigndaabmelhaa
open Go.RowKit

/-- Rows of unit cells near the parts, read. -/
def NrR (w : World) (q : Option Addr) (n : Nat) (G : List Grid) : Prop := G.length = n ∧ ∀ k, k < n → ∃ b off B c, q = some ⟨b, off, none⟩ ∧ b < w.heap.size ∧ w.cell? ⟨b, off + k, none⟩ = some (.slice (some ⟨B, 0, none⟩) 6400 c) ∧ Bits w B (G.getD k gnone)
theorem NrR.ext {w w' : World} {q : Option Addr} {n : Nat} {G : List Grid} (h : NrR w q n G) (hE : Ext w w') : NrR w' q n G :=
  ⟨h.1, fun k hk => by
    obtain ⟨b, off, B, c, h1, h2, h3, h4⟩ := h.2 k hk
    exact ⟨b, off, B, c, h1, Nat.lt_of_lt_of_le h2 hE.le, (hE.cells _ _ h2).trans h3, h4.ext hE⟩⟩
section
variable (G : List (List Bool)) (n k : Nat) (u v : Nat → Bool)
def m1R (j : Nat) : List Bool := (G.getD j []).set k (u j) ++ [v j]
def m1T (m : Nat) : List (List Bool) := (List.range m).map (m1R G k u v)
def rkR (m : Nat) : List Bool := (List.range n).map (fun t => if t < m then u t else ((G.getD k []).set k (u k)).getD t false) ++ [v k]
def m2T (m : Nat) : List (List Bool) := (List.range n).map fun j => if j = k then rkR G n k u v m else m1R G k u v j
end
section
variable {G : List (List Bool)} {n k : Nat} {u v : Nat → Bool}
theorem m1T_succ (m : Nat) : m1T G k u v (m + 1) = m1T G k u v m ++ [m1R G k u v m] := by simp [m1T, List.range_succ]
theorem m1T_len (m : Nat) : (m1T G k u v m).length = m := by simp [m1T]
theorem map_getD_self {α : Type} (l : List α) (d : α) : (List.range l.length).map (fun t => l.getD t d) = l := by
  apply List.ext_getElem? 
  intro i
  rw [List.getElem?_map]
  by_cases hi : i < l.length
  · rw [List.getElem?_range hi, Option.map_some, getD_of (List.getElem?_eq_getElem hi), List.getElem?_eq_getElem hi]
  · rw [List.getElem?_eq_none (by simp; omega), List.getElem?_eq_none (by omega)]; rfl
theorem rkR_zero (hl : (G.getD k []).length = n) : rkR G n k u v 0 = m1R G k u v k := by
  have h := map_getD_self ((G.getD k []).set k (u k)) false
  rw [List.length_set, hl] at h
  rw [rkR, m1R]
  conv => rhs; rw [← h]
  simp
theorem rkR_len (m : Nat) : (rkR G n k u v m).length = n + 1 := by simp [rkR]
theorem rkR_all : rkR G n k u v n = (List.range n).map u ++ [v k] := by
  rw [rkR]
  congr 1
  refine List.map_congr_left fun t ht => ?_
  rw [List.mem_range] at ht
  rw [if_pos ht]
theorem rkR_set {m : Nat} (hm : m < n) : (rkR G n k u v m).set m (u m) = rkR G n k u v (m + 1) := by
  rw [rkR, rkR, List.set_append_left _ _ (by simp; exact hm)]
  congr 1
  apply List.ext_getElem?
  intro i
  rw [List.getElem?_set, List.length_map, List.length_range]
  by_cases hi : i < n
  · rw [List.getElem?_map, List.getElem?_map, List.getElem?_range hi, Option.map_some, Option.map_some]
    by_cases e : m = i
    · subst e; rw [if_pos rfl, if_pos hm, if_pos (by omega)]
    · rw [if_neg e]
      by_cases h1 : i < m
      · rw [if_pos h1, if_pos (by omega)]
      · rw [if_neg h1, if_neg (by omega)]
  · rw [if_neg (by omega), List.getElem?_eq_none (by simp; omega), List.getElem?_eq_none (by simp; omega)]
theorem m2T_zero (hl : (G.getD k []).length = n) : m2T G n k u v 0 = m1T G k u v n := by
  rw [m2T, m1T]
  refine List.map_congr_left fun j _ => ?_
  split
  · rename_i e; subst e; exact rkR_zero hl
  · rfl
theorem m2T_len (m : Nat) : (m2T G n k u v m).length = n := by simp [m2T]
theorem m1R_len {j : Nat} (hl : ∀ r ∈ G, r.length = n) (hG : G.length = n) (hj : j < n) : (m1R G k u v j).length = n + 1 := by
  rw [m1R, List.length_append, List.length_set, getD_of (List.getElem?_eq_getElem (by omega : j < G.length)), hl _ (List.getElem_mem _)]; rfl
theorem m2T_rows (m : Nat) (hl : ∀ r ∈ G, r.length = n) (hG : G.length = n) : ∀ r ∈ m2T G n k u v m, r.length = n + 1 := by
  intro r hr
  rw [m2T, List.mem_map] at hr
  obtain ⟨j, hj, rfl⟩ := hr
  rw [List.mem_range] at hj
  split
  · exact rkR_len _
  · exact m1R_len hl hG hj
theorem m2T_get {m j : Nat} (hj : j < n) : (m2T G n k u v m).getD j [] = if j = k then rkR G n k u v m else m1R G k u v j := getD_map_range _ _ hj
theorem m1R_at {j : Nat} (hl : ∀ r ∈ G, r.length = n) (hG : G.length = n) (hj : j < n) (hk : k < n) : (m1R G k u v j).getD k false = u j ∧ (m1R G k u v j).getD n false = v j := by
  have h1 : (G.getD j []).length = n := by rw [getD_of (List.getElem?_eq_getElem (by omega : j < G.length)), hl _ (List.getElem_mem _)]
  rw [m1R]
  exact ⟨by rw [getD_app1G (by rw [List.length_set, h1]; exact hk), getD_set _ _ _ _ _ (by rw [h1]; exact hk), if_pos rfl], getD_app2G (by rw [List.length_set, h1])⟩
theorem m2T_col {m : Nat} (hl : ∀ r ∈ G, r.length = n) (hG : G.length = n) (hm : m < n) (hk : k < n) : edg (m2T G n k u v m) m k = u m := by
  rw [edg, m2T_get hm]
  split
  · rename_i e
    subst e
    have h1 : (G.getD m []).length = n := by rw [getD_of (List.getElem?_eq_getElem (by omega : m < G.length)), hl _ (List.getElem_mem _)]
    rw [rkR, getD_app1G (by simp; exact hk), getD_map_range _ _ hk, if_neg (by omega), getD_set _ _ _ _ _ (by rw [h1]; exact hm), if_pos rfl]
  · exact (m1R_at hl hG hm hk).1
theorem m2T_last {m t : Nat} (hl : ∀ r ∈ G, r.length = n) (hG : G.length = n) (ht : t < n) (hk : k < n) : edg (m2T G n k u v m) t n = v t := by
  rw [edg, m2T_get ht]
  split
  · rename_i e
    subst e
    rw [rkR, getD_app2G (by simp)]
  · exact (m1R_at hl hG ht hk).2
theorem m2T_set {m : Nat} (hm : m < n) (hk : k < n) : (m2T G n k u v m).set k (((m2T G n k u v m).getD k []).set m (u m)) = m2T G n k u v (m + 1) := by
  rw [m2T_get hk, if_pos rfl, rkR_set hm]
  apply List.ext_getElem?
  intro i
  rw [List.getElem?_set, m2T_len]
  by_cases hi : i < n
  · rw [m2T, m2T, List.getElem?_map, List.getElem?_map, List.getElem?_range hi, Option.map_some, Option.map_some]
    by_cases e : k = i
    · subst e; rw [if_pos rfl, if_pos hi, if_pos rfl]
    · rw [if_neg e, if_neg (fun h => e h.symm), if_neg (fun h => e h.symm)]
  · rw [if_neg (by omega), List.getElem?_eq_none (by rw [m2T_len]; omega), List.getElem?_eq_none (by rw [m2T_len]; omega)]
theorem m2T_mrT : m2T G n k u v n ++ [(List.range n).map v ++ [false]] = mrT G n k u v := by
  rw [m2T, mrT]
  congr 1
  refine List.map_congr_left fun j _ => ?_
  split
  · exact rkR_all
  · rfl
end
theorem grown_mut {w w' : World} {v : Value} (h : w.grownBy w' v.ownBlock) : Mut w w' v.ownBlock.toList :=
  ⟨h.os, h.tape, h.output, h.size, fun k hk hn => h.block k hk (fun e => hn (by rw [← e]; simp))⟩
/-- append([]bool{}, row...): a row of its own. -/
theorem SlT.newsB {w : World} {ad : Addr} {n : Nat} {l : List Bool} (h : SlT encb 1 w (some ad) n l) : ∀ j u, (l.flatMap encb)[j]? = some u → w.cell? (ad.add j) = some u := by
  intro j u hj
  rw [flatb, List.getElem?_map] at hj
  obtain ⟨x, hx, rfl⟩ := Option.map_eq_some_iff.1 hj
  obtain ⟨h1, h2⟩ := h
  rcases h2 with h2 | ⟨b', off', hp, _, hc⟩
  · subst h2
    rw [List.eq_nil_of_length_eq_zero h1] at hx
    cases hx
  · cases hp
    have := hc j x hx 0 _ rfl
    rw [Addr.add_lit]
    simpa using this
theorem one_flatb (l : List Bool) : ∀ u ∈ l.flatMap encb, u.oneCell' = true := by
  intro u hu
  rw [flatb, List.mem_map] at hu
  obtain ⟨x, _, rfl⟩ := hu
  rfl
/-- A row more at the end, of memory that lies apart. -/
theorem OwnG.pushB {tr te : TypeId} {sz base n c n5 c5 ca : Nat} {w2 W' : World} {q q5 qa : Option Addr} {H : List Hd} {V : List (List Value)} {v : List Value} (h : OwnG tr te sz base w2 q n c H V) (o : Obj)
    (o5 : w2.ownsRow base te sz (.slice q5 n5 c5) n5 v) (hx : ∀ b, b ∈ blkOf q5 → b ∉ blkOf q ∧ b ∉ rowsB H)
    (ht : W'.ownsRow base tr 1 (.slice qa (n + 1) ca) (n + 1) (H.flatMap encH ++ [.slice q5 n5 c5])) (hg : (w2.alloc o).grownBy W' (Value.slice q n c).ownBlock)
    (hq : (Value.slice qa (n + 1) ca).ownBlock = (Value.slice q n c).ownBlock ∨ (Value.slice qa (n + 1) ca).ownBlock = some (w2.alloc o).heap.size) : OwnG tr te sz base W' qa (n + 1) ca (H ++ [(q5, n5, c5)]) (V ++ [v]) := by
  refine (h.ext ((Ext.refl w2).alloc o)).push (x := (q5, n5, c5)) (o5.alloc o) hx ht hg (fun b hb => ?_)
  rw [own_blkOf, own_blkOf] at hq
  obtain ⟨a, rfl, rfl⟩ := mem_blkOf.1 hb
  rcases hq with hq | hq
  · left
    rw [Option.map_some, eq_comm, Option.map_eq_some_iff] at hq
    obtain ⟨a', h1, h2⟩ := hq
    exact mem_blkOf.2 ⟨a', h1, h2⟩
  · right
    simp only [Option.map_some, Option.some.injEq] at hq
    rw [hq]; exact Nat.le_refl _
def stU (N : List Grid) (k : Nat) (ps : List Q2) (j : Nat) : Bool := !decide (j = k) && meetP (N.getD j gnone) ps
set_option maxRecDepth 100000 in
set_option maxHeartbeats 8000000 in
theorem l33Stitched_any (q0 q1 : Option Addr) (n c0 c1 k : Nat) (G : List (List Bool)) (N : List Grid) (qa qb : Option Addr) (na nb ca cb : Nat) (A B : List Q2) (w : World) (h0 : SlR encb 1 w q0 n G) (h1 : NrR w q1 n N) (hn : n ≤ 900) (hk : k < n) (hr : ∀ r ∈ G, r.length = n)
    (ha : SlT enc2 2 w qa na A) (hb : SlT enc2 2 w qb nb B) (hna : na ≤ 20500000) (hnb : nb ≤ 20500000) (va : ∀ p ∈ A, onC p.a p.b = true) (vb : ∀ p ∈ B, onC p.a p.b = true) :
    Calls Try.prog 92 #[.slice q0 n c0, .slice q1 n c1, .int .i64 k, .slice qa na ca, .slice qb nb cb] w fun e w' => e = .returned (.bool (okC (mrT G n k (stU N k A) (stU N k B)) (n + 1))) ∧ Ext w w' := by
  have hGl := hid h0.length
  replace hr := hid hr
  replace va := hid va
  replace vb := hid vb
  obtain ⟨i0, hi, hz0, hz1, hz2⟩ := info_parts info_BB
  obtain ⟨j0, hj, hy0, hy1, hy2⟩ := info_parts info_Bool
  obtain ⟨u, hu⟩ : ∃ u, u = stU N k A := ⟨_, rfl⟩
  obtain ⟨v, hv⟩ : ∃ v, v = stU N k B := ⟨_, rfl⟩
  rw [← hu, ← hv]
  have huk : Hid (u k = false) := by show _ = _; rw [hu, stU]; simp
  have hvk : Hid (v k = false) := by show _ = _; rw [hv, stU]; simp
  have huj : Hid (∀ j, j ≠ k → u j = meetP (N.getD j gnone) A) := by intro j hj; rw [hu, stU, decide_eq_false hj]; rfl
  have hvj : Hid (∀ j, j ≠ k → v j = meetP (N.getD j gnone) B) := by intro j hj; rw [hv, stU, decide_eq_false hj]; rfl
  replace hu := hid hu
  replace hv := hid hv
  go_enter Try.func92, Try.ntmps92
  go_upto_region 3 with (fail)
  have ho0 : (w.alloc (.cells #[] 79)).ownsRow w.heap.size 79 1 (.slice (some ⟨w.heap.size, 0, none⟩) 0 0) 0 [] := by
    have := World.ownsRow_made (base := w.heap.size) (e := 79) (size := 1) w #[] 0 (by simp) (by simp [maxLen]) (by simp)
    exact this
  generalize hW : w.alloc _ = W0 at ho0 ⊢
  have E0 : Ext w W0 := by rw [← hW]; exact (Ext.refl _).alloc _
  clear hW
  replace ho0 := hid ho0
  replace E0 := hid E0
  go_wp2
  go_loopw [12, 13] (fun vo iv wr => ∃ (m : Nat) (qo : Option Addr) (co : Nat) (H : List Hd), m ≤ n ∧ iv = .int .i64 m ∧ vo = .slice qo m co ∧ Hid (OwnG 79 4 1 w.heap.size wr qo m co H (flB (m1T G k u v m))) ∧ Hid (Ext w wr)) (fun _ i _ => n - (intOf i).toNat)
  case atStart => exact ⟨0, _, _, [], by omega, rfl, rfl, OwnG.start ho0.out, E0⟩
  case round =>
    clear ho0 E0
    obtain ⟨m, qo, co, H, hm, rfl, rfl, ho, hE⟩ := hrel
    rename World => wo
    by_cases hlt : m < n
    · have hltI : (m : Int) < (n : Int) := by omega
      obtain ⟨b, off, q3, n3, c3, row, rfl, hbw, hrow, z3, t3⟩ := (h0.ext hE.out).get hlt
      have hrl := hr.out row (List.mem_of_getElem? hrow.out)
      have hn3 : n3 = n := by rw [← t3.length]; exact hrl
      subst hn3
      obtain ⟨_, _, ad, rfl, _⟩ : ∃ (b : Nat) (off : Nat) (ad : Addr), q3 = some ad ∧ True := by
        obtain ⟨b2, off2, x2, h9, _⟩ := t3.get (k := 0) (by omega)
        exact ⟨0, 0, _, h9, trivial⟩
      have hsn : Hid (m1T G k u v (m + 1) = m1T G k u v m ++ [row.set k (u m) ++ [v m]]) := by show _ = _; rw [m1T_succ, m1R, getD_of hrow.out]
      have hg1 : Hid ((row.flatMap encb).length = n3) := by show _ = _; rw [flatMap_len encb_len, hrl]; omega
      have hE1 : Ext wo (wo.alloc (.cells #[] 4)) := (Ext.refl _).alloc _
      have hr0 : (wo.alloc (.cells #[] 4)).ownsRow wo.heap.size 4 1 (.slice (some ⟨wo.heap.size, 0, none⟩) 0 0) 0 [] := by
        have := World.ownsRow_made (base := wo.heap.size) (e := 4) (size := 1) wo #[] 0 (by simp) (by simp [maxLen]) (by simp)
        exact this
      have hnw := (t3.ext hE1).newsB
      replace hr0 := hid hr0
      replace hnw := hid hnw
      replace t3 := hid t3
      replace hE1 := hid hE1
      go_upto_region 7 with (at_builtin; refine wpList_append_own_at _ rfl _ _ 79 rfl wo.heap.size 4 j0 (.bool false) 1 1 Try.underlying79 hj hy0 hy1 hy2 rfl (by omega) _ _ _ rfl hr0.out ad n3 c3 (row.flatMap encb) rfl (by rw [hg1.out]; omega) hnw.out (one_flatb _) (by unfold maxLen; omega) (by omega) (by simp) ?_; intro v' w2 ho' hg' _ hb'; obtain ⟨qr, cr, rfl⟩ := owns_forms ho'; replace ho' := hid ho'; replace hg' := hid hg'; clear hb')
      have o2 := ho'.out
      rw [Nat.zero_add, List.nil_append] at o2
      obtain ⟨g, rfl⟩ := row_some o2 (by omega)
      have E2 := hid (hE1.out.grown hg'.out (fun g hg => (hr0.out.lt g hg).1))
      have hgw := (owns_lt o2).1
      have hgl := (owns_lt o2).2
      have hgf := owns_free o2
      obtain ⟨x0, hx0⟩ := owns_cell o2 k (by omega)
      have o3 := owns_set o2 k (.bool (u m))
      rw [flatb_set] at o3
      have E3 := hid (E2.out.setCell (p := ⟨g, k, none⟩) hgw (.bool (u m)))
      replace o3 := hid o3
      replace o2 := hid o2
      have hkI : (k : Int) < (n3 : Int) := by omega
      clear ho' hg' hr0 hnw hg1 z3
      by_cases hmk : m = k
      · subst hmk
        rw [huk.out] at o3 E3
        go_upto_region 8 with (fail)
        generalize w2.setCell _ _ = W3 at o3 E3 ⊢
        have htop := hid (owns_ext ho.out.top E3.out)
        have hE3 := hid (hE.out.trans E3.out)
        have hsz := hE3.out.le
        have hsz1 := E3.out.le
        have hvm : Hid (v m = false) := hvk.out
        have hum : Hid (u m = false) := huk.out
        rw [hum.out, hvm.out] at hsn
        clear hgl hgf hx0 o2 E2
        go_wp2_with (first
          | (at_builtin; refine wpList_append_own_at _ rfl _ _ 79 rfl wo.heap.size 4 j0 (.bool false) 1 1 Try.underlying79 hj hy0 hy1 hy2 rfl (by omega) _ _ _ rfl (o3.out.alloc _) ⟨_, 0, none⟩ 1 1 [.bool false] rfl rfl (cells_new1 _ _ _) (one_b _) (len_le (by omega) (by omega)) (by omega) (by simp; omega) ?_; intro v5 w5 ho5 hg5 _ hb5; obtain ⟨q5, c5, rfl⟩ := owns_forms ho5; replace ho5 := hid ho5; have E5 := hid ((E3.out.alloc (.cells #[.bool false] 4)).grown hg5 (fun g hg => (o3.out.lt g hg).1)); have htop5 := hid (owns_ext ho.out.top E5.out); have hsz5 := E5.out.le; have hE5 := hid (hE.out.trans E5.out); have hsz6 := hE5.out.le; clear hg5 hb5)
          | (at_builtin; refine wpList_append_own_at _ rfl _ _ 76 rfl w.heap.size 79 i0 (.slice none 0 0) 1 24 Try.underlying76 hi hz0 hz1 hz2 rfl (by omega) _ _ _ rfl (htop5.out.alloc _) ⟨_, 0, none⟩ 1 1 [.slice q5 (n3 + 1) c5] rfl rfl (cells_new1 _ _ _) (one_hd1 _ _ _) (len_le (by omega) (by omega)) (by omega) (by simp; omega) ?_; intro v' w9 ho' hg' _ hb'; obtain ⟨qy, cy, rfl⟩ := owns_forms ho'; replace ho' := hid ho'; replace hg' := hid hg'; replace hb' := hid hb'))
        go_roundw
        case rel => exact ⟨m + 1, qy, cy, _, by omega, by go_num, rfl, by rw [hsn.out, flB_snoc]; exact ho.out.more hE.out.le (by rw [List.flatMap_append]; exact ho5.out) E5.out _ ho'.out hg'.out hb'.out, (hE5.out.alloc _).grown hg'.out (fun g hg => (htop5.out.lt g hg).1)⟩
        case measure => simp [intOf]; omega
      · have hmkI : ((m : Int) != (k : Int)) = true := by simp; omega
        obtain ⟨b1, off1, Bm, cm, e9, hb1, z1, bits1⟩ := (h1.ext (hE.out.trans E2.out)).2 m hlt
        subst e9
        have hmA := hid (l33Meets_any Bm cm (N.getD m gnone) qa na ca A _ bits1 (ha.ext (hE.out.trans E2.out)) (by omega) va.out)
        have hum := hid (huj.out m hmk)
        have hvm := hid (hvj.out m hmk)
        clear bits1 o3 E3 hx0 hgf
        go_wp2_with fail
        refine hmA.out.mono ?_
        rw [← hum.out]
        rintro e w4 ⟨rfl, E4⟩
        have o4 := owns_ext o2.out E4
        have E24 := hid (E2.out.trans E4)
        have hgl4 := (owns_lt o4).2
        have hgf4 := owns_free o4
        obtain ⟨x4, hx4⟩ := owns_cell o4 k (by omega)
        have o3 := owns_set o4 k (.bool (u m))
        rw [flatb_set] at o3
        have E3 := hid (E24.out.setCell (p := ⟨g, k, none⟩) hgw (.bool (u m)))
        replace o3 := hid o3
        clear z1 hb1 o2 E4 hmA
        go_upto_region 8 with (fail)
        clear hgl4 hgf4 hx4 hgl o4 E24
        generalize w4.setCell _ _ = W3 at o3 E3 ⊢
        obtain ⟨b1', off1', Bm', cm', e9, hb1, z1, bits1⟩ := (h1.ext (hE.out.trans E3.out)).2 m hlt
        cases e9
        have hmB := hid (l33Meets_any Bm' cm' (N.getD m gnone) qb nb cb B _ bits1 (hb.ext (hE.out.trans E3.out)) (by omega) vb.out)
        clear bits1
        go_wp2_with fail
        refine hmB.out.mono ?_
        rw [← hvm.out]
        rintro e w6 ⟨rfl, E46⟩
        have o6 := hid (owns_ext o3.out E46)
        have E6 := hid (E3.out.trans E46)
        have htop := hid (owns_ext ho.out.top E6.out)
        have hE3 := hid (hE.out.trans E6.out)
        have hsz := hE3.out.le
        have hsz1 := E6.out.le
        clear z1 hb1 E46 hmB o3
        go_wp2_with (first
          | (at_builtin; refine wpList_append_own_at _ rfl _ _ 79 rfl wo.heap.size 4 j0 (.bool false) 1 1 Try.underlying79 hj hy0 hy1 hy2 rfl (by omega) _ _ _ rfl (o6.out.alloc _) ⟨_, 0, none⟩ 1 1 [.bool (v m)] rfl rfl (cells_new1 _ _ _) (one_b _) (len_le (by omega) (by omega)) (by omega) (by simp; omega) ?_; intro v5 w5 ho5 hg5 _ hb5; obtain ⟨q5, c5, rfl⟩ := owns_forms ho5; replace ho5 := hid ho5; have E5 := hid ((E6.out.alloc (.cells #[.bool (v m)] 4)).grown hg5 (fun g hg => (o6.out.lt g hg).1)); have htop5 := hid (owns_ext ho.out.top E5.out); have hsz5 := E5.out.le; have hE5 := hid (hE.out.trans E5.out); have hsz6 := hE5.out.le; clear hg5 hb5)
          | (at_builtin; refine wpList_append_own_at _ rfl _ _ 76 rfl w.heap.size 79 i0 (.slice none 0 0) 1 24 Try.underlying76 hi hz0 hz1 hz2 rfl (by omega) _ _ _ rfl (htop5.out.alloc _) ⟨_, 0, none⟩ 1 1 [.slice q5 (n3 + 1) c5] rfl rfl (cells_new1 _ _ _) (one_hd1 _ _ _) (len_le (by omega) (by omega)) (by omega) (by simp; omega) ?_; intro v' w9 ho' hg' _ hb'; obtain ⟨qy, cy, rfl⟩ := owns_forms ho'; replace ho' := hid ho'; replace hg' := hid hg'; replace hb' := hid hb'))
        go_roundw
        case rel => exact ⟨m + 1, qy, cy, _, by omega, by go_num, rfl, by rw [hsn.out, flB_snoc]; exact ho.out.more hE.out.le (by rw [List.flatMap_append]; exact ho5.out) E5.out _ ho'.out hg'.out hb'.out, (hE5.out.alloc _).grown hg'.out (fun g hg => (htop5.out.lt g hg).1)⟩
        case measure => simp [intOf]; omega
    · have hltI : ¬ (m : Int) < (n : Int) := by omega
      obtain rfl : m = n := by omega
      have hGk : (G.getD k []).length = m := by rw [getD_of (List.getElem?_eq_getElem (by rw [hGl.out]; exact hk)), hr.out _ (List.getElem_mem _)]
      rw [← m2T_zero hGk] at ho
      have hHw := hid ho.out.geRow
      have hqw := hid ho.out.geTop
      have hwo := hE.out.le
      have hr0 : (wo.alloc (.cells #[] 4)).ownsRow wo.heap.size 4 1 (.slice (some ⟨wo.heap.size, 0, none⟩) 0 0) 0 [] := by
        have := World.ownsRow_made (base := wo.heap.size) (e := 4) (size := 1) wo #[] 0 (by simp) (by simp [maxLen]) (by simp)
        exact this
      have hE1 : Ext wo (wo.alloc (.cells #[] 4)) := (Ext.refl _).alloc _
      replace ho := hid (ho.out.ext hE1)
      replace hE := hid (hE.out.trans hE1)
      have hW1s := hE1.le
      clear hE1 hGk
      go_upto_region 10 with (fail)
      generalize wo.alloc _ = W1 at hr0 ho hE hW1s ⊢
      replace hr0 := hid hr0
      go_wp2_with fail
      go_loopw [15, 16] (fun vl iv wr => ∃ (t : Nat) (ql : Option Addr) (cl : Nat), t ≤ m ∧ iv = .int .i64 t ∧ vl = .slice ql t cl ∧ wo.heap.size ≤ wr.heap.size ∧ Hid (OwnG 79 4 1 w.heap.size wr qo m co H (flB (m2T G m k u v t))) ∧ Hid (wr.ownsRow wo.heap.size 4 1 (.slice ql t cl) t (((List.range t).map v).flatMap encb)) ∧ Hid (Ext w wr)) (fun _ i _ => m - (intOf i).toNat)
      case atStart => exact ⟨0, _, _, by omega, rfl, rfl, hW1s, ho, hr0, hE⟩
      case round =>
        clear ho hr0 hE
        obtain ⟨t, ql, cl, ht, rfl, rfl, hws, ho, hla, hE⟩ := hrel
        by_cases htl : t < m
        · have htI : (t : Int) < (m : Int) := by omega
          have hkI : (k : Int) < (m : Int) := by omega
          have od := ho.out.ext (show Ext wr wr.drew from (Ext.refl _).drew)
          have hrw := hid (m2T_rows (u := u) (v := v) (k := k) t hr.out hGl.out)
          obtain ⟨gt, g1, d1, rfl, z1, hgt, hg1, hb1, hH1, y1, f1, s1⟩ := od.setAt (i := k) (k := t) hk hrw.out (by omega)
          obtain ⟨gt', g2, d2, e9, z2, _, hg2, hb2, hH2, y2, f2, _⟩ := od.setAt (i := t) (k := k) htl hrw.out (by omega)
          cases e9
          have o3 := s1 (u t)
          rw [m2T_set htl hk] at o3
          rw [m2T_col hr.out hGl.out htl hk] at y2
          have hg1w : g1 < wo.heap.size := (hHw.out g1 (mem_rowsB.2 ⟨k, _, hH1, mem_blkOf.2 ⟨_, rfl, rfl⟩⟩)).2
          have hla3 := hid (owns_other (owns_ext hla.out (show Ext wr wr.drew from (Ext.refl _).drew)) (B := g1) (fun e => by have := (hla.out.lt g1 e).1; omega) t (.bool (u t)))
          have hE3 := hid ((hE.out.drew).setCell (p := ⟨g1, t, none⟩) hb1 (.bool (u t)))
          obtain ⟨W3, hW3⟩ : ∃ W3, W3 = (wr.setCell ⟨g1, t, none⟩ (.bool (u t))).drew := ⟨_, rfl⟩
          have o3 : Hid (OwnG 79 4 1 w.heap.size W3 (some ⟨gt, 0, none⟩) m co H (flB (m2T G m k u v (t + 1)))) := by rw [hW3]; exact o3
          replace hla3 : Hid (W3.ownsRow wo.heap.size 4 1 (.slice ql t cl) t (((List.range t).map v).flatMap encb)) := by rw [hW3]; exact hla3.out
          replace hE3 : Hid (Ext w W3) := by rw [hW3]; exact hE3.out
          have hwlt : wo.heap.size ≤ W3.heap.size := by rw [hW3]; simp [World.setCell]; omega
          replace hW3 := hid hW3
          obtain ⟨yv, hyv⟩ : ∃ yv, yv = Value.bool (edg (m2T G m k u v t) k t) := ⟨_, rfl⟩
          rw [← hyv] at y1
          have ht1 : (t : Int) < (m : Int) + 1 := by omega
          have hk1 : (k : Int) < (m : Int) + 1 := by omega
          clear s1 od hH1 hH2 hyv
          go_wp2_with fail
          refine wp_region_still_tail 13 (by kernel_rfl) (by kernel_rfl) ?_
          simp only [List.take_succ_cons, List.take_zero, List.drop_succ_cons, List.drop_zero]
          iterate 13 still_step
          refine wpStill_nil ?_
          change wpList _ _ _ _ _ wr.drew
          go_upto_region 14 with (fail)
          rw [← hW3.out]
          clear z1 z2 y1 y2 f1 f2 hgt hg1 hg2 hb1 hb2 hla hE ho hW3
          have hrw3 := hid (m2T_rows (u := u) (v := v) (k := k) (t + 1) hr.out hGl.out)
          obtain ⟨gt', g3, d3, e9, z3, hgt, hg3, _, _, y3, _, _⟩ := o3.out.setAt (i := t) (k := m) htl hrw3.out (by omega)
          cases e9
          rw [m2T_last hr.out hGl.out htl hk] at y3
          have hm1 : (m : Int) < (m : Int) + 1 := by omega
          have hsz3 := hE3.out.le
          have hsl : Hid ((List.range (t + 1)).map v = (List.range t).map v ++ [v t]) := by show _ = _; simp [List.range_succ]
          have hqg : gt < wo.heap.size := (hqw.out gt (mem_blkOf.2 ⟨_, rfl, rfl⟩)).2
          have hlw := fun g hg => (hla3.out.lt g hg).1
          replace hlw := hid hlw
          go_wp2_with (at_builtin; refine wpList_append_own_at _ rfl _ _ 79 rfl wo.heap.size 4 j0 (.bool false) 1 1 Try.underlying79 hj hy0 hy1 hy2 rfl (by omega) _ _ _ rfl (hla3.out.alloc _) ⟨_, 0, none⟩ 1 1 [.bool (v t)] rfl rfl (cells_new1 _ _ _) (one_b _) (len_le (by omega) (by omega)) (by omega) (by simp; omega) ?_; intro v5 w5 ho5 hg5 _ hb5; obtain ⟨q5, c5, rfl⟩ := owns_forms ho5; replace ho5 := hid ho5; have M5 := hid (show Mut _ _ (Value.slice ql t cl).ownBlock.toList from grown_mut hg5); have E5 := hid ((hE3.out.alloc (.cells #[.bool (v t)] 4)).grown hg5 (fun g hg => Nat.le_trans hwo (hlw.out g hg))); clear hg5 hb5)
          go_roundw
          case rel =>
            refine ⟨t + 1, q5, c5, by omega, by go_num, rfl, by have h9 := M5.out.size; simp at h9; omega, (o3.out.ext ((Ext.refl W3).alloc (.cells #[.bool (v t)] 4))).mut M5.out (fun b hb hh => ?_) (fun b hb hh => ?_), by rw [hsl.out, List.flatMap_append]; exact ho5.out, E5.out⟩
            · have := (hqw.out b hb).2
              have := hlw.out b (by simpa using hh)
              omega
            · have := (hHw.out b hb).2
              have := hlw.out b (by simpa using hh)
              omega
          case measure => simp [intOf]; omega
        · have htI : ¬ (t : Int) < (m : Int) := by omega
          obtain rfl : t = m := by omega
          have hwr := hE.out.le
          have hlw := hid (fun g hg => (hla.out.lt g hg).1)
          have hsz0 := hwo
          go_wp2_with (first
            | (at_builtin; refine wpList_append_own_at _ rfl _ _ 79 rfl wo.heap.size 4 j0 (.bool false) 1 1 Try.underlying79 hj hy0 hy1 hy2 rfl (by omega) _ _ _ rfl (hla.out.alloc _) ⟨_, 0, none⟩ 1 1 [.bool false] rfl rfl (cells_new1 _ _ _) (one_b _) (len_le (by omega) (by omega)) (by omega) (by simp; omega) ?_; intro v5 w5 ho5 hg5 _ hb5; obtain ⟨q5, c5, rfl⟩ := owns_forms ho5; replace ho5 := hid ho5; have M5 := hid (show Mut _ _ (Value.slice ql t cl).ownBlock.toList from grown_mut hg5); have E5 := hid ((hE.out.alloc (.cells #[.bool false] 4)).grown hg5 (fun g hg => Nat.le_trans hwo (hlw.out g hg))); have o5 := hid ((ho.out.ext ((Ext.refl wr).alloc (.cells #[.bool false] 4))).mut M5.out (fun b hb hh => by have := (hqw.out b hb).2; have := hlw.out b (by simpa using hh); omega) (fun b hb hh => by have := (hHw.out b hb).2; have := hlw.out b (by simpa using hh); omega)); have hsz5 := E5.out.le; clear hg5 hb5)
            | (at_builtin; refine wpList_append_own_at _ rfl _ _ 76 rfl w.heap.size 79 i0 (.slice none 0 0) 1 24 Try.underlying76 hi hz0 hz1 hz2 rfl (by omega) _ _ _ rfl (o5.out.top.alloc _) ⟨_, 0, none⟩ 1 1 [.slice q5 (t + 1) c5] rfl rfl (cells_new1 _ _ _) (one_hd1 _ _ _) (len_le (by omega) (by omega)) (by omega) (by simp; omega) ?_; intro v' w9 ho' hg' _ hb'; obtain ⟨qy, cy, rfl⟩ := owns_forms ho'; replace ho' := hid ho'; replace hg' := hid hg'; replace hb' := hid hb'))
          have o9 := o5.out.pushB _ (v := ((List.range t).map v ++ [false]).flatMap encb) (owns_lowP (by rw [List.flatMap_append]; exact ho5.out) hwo) (fun b hb => by
            have h9 := (owns_ge ho5.out b hb).1
            exact ⟨fun hh => by have := (hqw.out b hh).2; omega, fun hh => by have := (hHw.out b hh).2; omega⟩) ho'.out hg'.out hb'.out
          rw [← flB_snoc, m2T_mrT] at o9
          have E9 := hid ((E5.out.alloc (.cells #[.slice q5 (t + 1) c5] 79)).grown hg'.out (fun g hg => (o5.out.top.lt g hg).1))
          have r9 := hid (o9.toR (enc := encb) (by omega) encb_len)
          have hrow9 := hid (mrT_rows (i := k) (u := u) (v := v) hr.out hGl.out)
          clear o9
          refine (l33Color_any qy (t + 1) cy _ _ r9.out (by omega) hrow9.out).mono ?_
          rintro e w10 ⟨q10, c10, rfl, _, E10⟩
          obtain ⟨z, hz⟩ : ∃ z, z = okC (mrT G t k u v) (t + 1) := ⟨_, rfl⟩
          rw [← hz]
          replace hz := hid hz
          go_wp2_with fail
          go_ret
          exact ⟨ret_bool hz.out, E9.out.trans E10⟩
end Go.Proofs.Ytaigndaabmelhaa
