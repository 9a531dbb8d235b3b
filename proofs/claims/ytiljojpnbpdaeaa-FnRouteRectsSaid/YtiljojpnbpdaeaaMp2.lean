/- Maps of the call's own with int64 elements, told as partial functions on keys. No condition. -/
import Derived.Test.YtiljojpnbpdaeaaWor
import Derived.Maps.Own
import Derived.Maps.OwnOps
import Derived.Maps.OwnSet
namespace Go.Proofs.Ytiljojpnbpdaeaa
open Go.RowKit Go.Maps

/-- Block B is a map of at most n entries that gives, at each good key, what f gives. -/
def MapI {κ : Type} (P : Program) (K E : TypeId) (kl : κ → Lit) (ok : κ → Prop) (w : World) (B n : Nat) (f : κ → Option Int) : Prop :=
  ∃ D : DataW Unit, w.ownsMap P K (plainElem P E) B n D ∧ ∀ x, ok x → Maps.has D (kl x) = (f x).isSome ∧ D.atKey (kl x) (.lit (.int .i64 0)) = .lit (.int .i64 ((f x).getD 0))
def upd {κ : Type} [DecidableEq κ] (f : κ → Option Int) (k : κ) (v : Int) : κ → Option Int := fun x => if x = k then some v else f x
theorem upd_same {κ : Type} [DecidableEq κ] (f : κ → Option Int) (k : κ) (v : Int) : upd f k v k = some v := by simp [upd]
theorem upd_other {κ : Type} [DecidableEq κ] (f : κ → Option Int) {k x : κ} (v : Int) (h : x ≠ k) : upd f k v x = f x := by simp [upd, h]

section
variable {κ : Type} {P : Program} {K E : TypeId} {kl : κ → Lit} {ok : κ → Prop} {w w' : World} {B n : Nat} {f : κ → Option Int}
theorem MapI.made (w : World) : MapI P K E kl ok (w.alloc (.map #[] 0)) w.heap.size 0 (fun _ => none) :=
  ⟨.map [], World.ownsMap_made _ _ _ _, fun _ _ => ⟨rfl, rfl⟩⟩
theorem MapI.lt (h : MapI P K E kl ok w B n f) : B < w.heap.size := let ⟨_, h, _⟩ := h; h.lt
theorem MapI.kept {row : Option Nat} (h : MapI P K E kl ok w B n f) (hg : w.grownBy w' row) (hne : some B ≠ row) : MapI P K E kl ok w' B n f := let ⟨D, h1, h2⟩ := h; ⟨D, h1.kept hg hne, h2⟩
theorem MapI.ext (h : MapI P K E kl ok w B n f) (hE : Ext w w') : MapI P K E kl ok w' B n f := h.kept (hE.grownBy none) (by simp)
theorem MapI.setCell (h : MapI P K E kl ok w B n f) {a : Addr} (ha : B ≠ a.block) (u : Value) : MapI P K E kl ok (w.setCell a u) B n f := let ⟨D, h1, h2⟩ := h; ⟨D, h1.setCell ha u, h2⟩
theorem MapI.drew (h : MapI P K E kl ok w B n f) : MapI P K E kl ok w.drew B n f := h
theorem MapI.mono (h : MapI P K E kl ok w B n f) {n' : Nat} (hn : n ≤ n') : MapI P K E kl ok w B n' f := let ⟨D, h1, h2⟩ := h; ⟨D, h1.mono hn, h2⟩
end

section
variable {κ : Type} {P : Program} {K E t : TypeId} {kl : κ → Lit} {ok : κ → Prop} {B n : Nat} {f : κ → Option Int}
  (w : World) {ops : Array Oper} {rest : List Oper} {o : Oper} {a : Act} {Q : Exit → Act → World → Prop}
theorem wpList_get (hg : o.guard = none) (m x : Operand) (t : TypeId) (hop : o.op = Op.lookup t m x false) (law : Keyed P K) (ht : P.underlying t = some (.map K E)) (he : P.underlying E = some (.int .i64)) (hz : (zeroValue E).run P w = .ok (.int .i64 0) w)
    (hm : a.eval m = .map (some B)) (h : MapI P K E kl ok w B n f) (key : κ) (hok : ok key) (kv : Value) (hx : a.eval x = kv) (hkey : keyOf P K kv = some (kl key))
    (hK : wpList P ops Q rest (a.put o.dst (.int .i64 ((f key).getD 0))) w) : wpList P ops Q (o :: rest) a w := by
  obtain ⟨D, h1, h2⟩ := h
  refine wpList_lookup_own_int w hg m x t hop K E .i64 law ht he hz B n D hm h1 kv (kl key) hx hkey ?_
  intro c hc _
  rw [(h2 key hok).2] at hc
  cases hc
  exact hK
theorem wpList_getok (hg : o.guard = none) (m x : Operand) (t : TypeId) (hop : o.op = Op.lookup t m x true) (law : Keyed P K) (ht : P.underlying t = some (.map K E)) (he : P.underlying E = some (.int .i64)) (hz : (zeroValue E).run P w = .ok (.int .i64 0) w)
    (hm : a.eval m = .map (some B)) (h : MapI P K E kl ok w B n f) (key : κ) (hok : ok key) (kv : Value) (hx : a.eval x = kv) (hkey : keyOf P K kv = some (kl key))
    (hK : wpList P ops Q rest (a.put o.dst (.tuple #[.int .i64 ((f key).getD 0), .bool (f key).isSome])) w) : wpList P ops Q (o :: rest) a w := by
  obtain ⟨D, h1, h2⟩ := h
  refine wpList_lookup_own_ok_int w hg m x t hop K E .i64 law ht he hz B n D hm h1 kv (kl key) hx hkey ?_
  intro c hc _
  rw [(h2 key hok).2] at hc
  cases hc
  rw [(h2 key hok).1]
  exact hK
theorem wpList_put [DecidableEq κ] (hg : o.guard = none) (m x v : Operand) (t : TypeId) (hop : o.op = Op.mapUpdate t m x v) (law : Keyed P K) (ht : P.underlying t = some (.map K E)) (he : P.underlying E = some (.int .i64))
    (hinj : ∀ y z, ok y → ok z → kl y = kl z → y = z) (hkl : ∀ y, ok y → WideAt.IsKeyLit (kl y))
    (hm : a.eval m = .map (some B)) (h : MapI P K E kl ok w B n f) (hn : n < maxLen) (key : κ) (hok : ok key) (kv : Value) (hx : a.eval x = kv) (hkey : keyOf P K kv = some (kl key)) (c : Int) (hv : a.eval v = .int .i64 c) (hc : (Lit.int .i64 c).wf = true)
    (hK : ∀ w', MapI P K E kl ok w' B (n + 1) (upd f key c) → w.grownBy w' (some B) → wpList P ops Q rest (a.put o.dst undef) w') : wpList P ops Q (o :: rest) a w := by
  obtain ⟨D, h1, h2⟩ := h
  refine wpList_mapUpdate_own w hg m x v t hop K E law ht (plainElem P E) B n D hm h1 hn kv (.int .i64 c) (kl key) hx hv hkey (.lit (.int .i64 c)) [] (plainElem_int he hc) ?_
  intro w' h3 hgw
  refine hK w' ⟨_, h3, fun y hy => ?_⟩ hgw
  by_cases hyk : y = key
  · subst hyk
    rw [has_put_same h1.isMap (hkl y hy), atKey_put_same h1.isMap (hkl y hy), upd_same]
    exact ⟨rfl, rfl⟩
  · have hne : kl y ≠ kl key := fun e => hyk (hinj y key hy hok e)
    rw [has_put_other hne, atKey_put_other hne, upd_other _ _ hyk]
    exact h2 y hy
end

theorem MapI.run_get {κ : Type} {P : Program} {K E t : TypeId} {kl : κ → Lit} {ok : κ → Prop} {w : World} {B n : Nat} {f : κ → Option Int} (h : MapI P K E kl ok w B n f) (law : Keyed P K) (ht : P.underlying t = some (.map K E))
    (he : P.underlying E = some (.int .i64)) (hz : (zeroValue E).run P w = .ok (.int .i64 0) w) {key : κ} (hok : ok key) {kv : Value} (hkey : keyOf P K kv = some (kl key)) :
    (Instr.lookup t (.map (some B)) kv false).run P w = .ok (.int .i64 ((f key).getD 0)) w := by
  obtain ⟨D, h1, h2⟩ := h
  obtain ⟨c, hr, hc, _⟩ := h1.lookup_int law ht he hz hkey
  rw [(h2 key hok).2] at hc
  cases hc
  exact hr
/-- Block B is a map of at most n entries that gives, at each good key, what f gives (a bool). -/
def MapBo {κ : Type} (P : Program) (K E : TypeId) (kl : κ → Lit) (ok : κ → Prop) (w : World) (B n : Nat) (f : κ → Bool) : Prop :=
  ∃ D : DataW Unit, w.ownsMap P K (plainElem P E) B n D ∧ ∀ x, ok x → D.atKey (kl x) (.lit (.bool false)) = .lit (.bool (f x))
theorem plainElem_bool_inv {H : Type} {P : Program} {e : TypeId} (he : P.underlying e = some .bool) {v : Value} {z : DataW H × List MemPlace} (h : plainElem P e v = some z) : ∃ a, v = .bool a ∧ z = (.lit (.bool a), []) := by
  unfold plainElem at h
  cases v <;> simp [he] at h
  exact ⟨_, rfl, h.symm⟩
section
variable {κ : Type} {P : Program} {K E t : TypeId} {kl : κ → Lit} {ok : κ → Prop} {w w' : World} {B n : Nat} {f : κ → Bool}
theorem MapBo.made (w : World) : MapBo P K E kl ok (w.alloc (.map #[] 0)) w.heap.size 0 (fun _ => false) :=
  ⟨.map [], World.ownsMap_made _ _ _ _, fun _ _ => rfl⟩
theorem MapBo.lt (h : MapBo P K E kl ok w B n f) : B < w.heap.size := let ⟨_, h, _⟩ := h; h.lt
theorem MapBo.kept {row : Option Nat} (h : MapBo P K E kl ok w B n f) (hg : w.grownBy w' row) (hne : some B ≠ row) : MapBo P K E kl ok w' B n f := let ⟨D, h1, h2⟩ := h; ⟨D, h1.kept hg hne, h2⟩
theorem MapBo.ext (h : MapBo P K E kl ok w B n f) (hE : Ext w w') : MapBo P K E kl ok w' B n f := h.kept (hE.grownBy none) (by simp)
theorem MapBo.run_get (h : MapBo P K E kl ok w B n f) (law : Keyed P K) (ht : P.underlying t = some (.map K E)) (he : P.underlying E = some .bool) (hz : (zeroValue E).run P w = .ok (.bool false) w) {key : κ} (hok : ok key) {kv : Value} (hkey : keyOf P K kv = some (kl key)) :
    (Instr.lookup t (.map (some B)) kv false).run P w = .ok (.bool (f key)) w := by
  obtain ⟨D, h1, h2⟩ := h
  obtain ⟨v, ps, hr, hv⟩ := h1.lookup law ht hz (plainElem_bool he false) hkey
  obtain ⟨a, rfl, ha⟩ := plainElem_bool_inv he hv
  rw [h2 key hok] at ha
  simp at ha
  rw [hr, ha.1]
theorem wpList_putb [DecidableEq κ] {ops : Array Oper} {rest : List Oper} {o : Oper} {a : Act} {Q : Exit → Act → World → Prop} (hg : o.guard = none) (m x v : Operand) (t : TypeId) (hop : o.op = Op.mapUpdate t m x v) (law : Keyed P K) (ht : P.underlying t = some (.map K E)) (he : P.underlying E = some .bool)
    (hinj : ∀ y z, ok y → ok z → kl y = kl z → y = z) (hkl : ∀ y, ok y → WideAt.IsKeyLit (kl y))
    (hm : a.eval m = .map (some B)) (h : MapBo P K E kl ok w B n f) (hn : n < maxLen) (key : κ) (hok : ok key) (kv : Value) (hx : a.eval x = kv) (hkey : keyOf P K kv = some (kl key)) (c : Bool) (hv : a.eval v = .bool c)
    (hK : ∀ w', MapBo P K E kl ok w' B (n + 1) (fun y => if y = key then c else f y) → w.grownBy w' (some B) → wpList P ops Q rest (a.put o.dst undef) w') : wpList P ops Q (o :: rest) a w := by
  obtain ⟨D, h1, h2⟩ := h
  refine wpList_mapUpdate_own w hg m x v t hop K E law ht (plainElem P E) B n D hm h1 hn kv (.bool c) (kl key) hx hv hkey (.lit (.bool c)) [] (plainElem_bool he c) ?_
  intro w' h3 hgw
  refine hK w' ⟨_, h3, fun y hy => ?_⟩ hgw
  by_cases hyk : y = key
  · subst hyk
    rw [atKey_put_same h1.isMap (hkl y hy)]; simp
  · have hne : kl y ≠ kl key := fun e => hyk (hinj y key hy hok e)
    rw [atKey_put_other hne]
    simp only [if_neg hyk]
    exact h2 y hy
end
theorem grown_ext {a w w' : World} {B : Nat} (h : Ext a w) (hg : w.grownBy w' (some B)) (hB : a.heap.size ≤ B) : Ext a w' := h.grown hg (fun k hk => by cases hk; exact hB)
end Go.Proofs.Ytiljojpnbpdaeaa
