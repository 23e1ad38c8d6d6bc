/-
  Memory of a call's own (plain): 'Own lo w' (w's plain blocks from lo on), what grows in it ('Sh', 'Grow'), rows of one's own ('Rowz').
-/
import Derived.Test.YthfafenigjldlaaGreatApp1
import Derived.Test.YthfafenigjldlaaGreatNode1
import Derived.Test.YthfafenigjldlaaGreatGet7
namespace Go.Proofs.YthfafenigjldlaaGreat
open Go.RowKit
set_option linter.unusedVariables false

def ownO (lo i : Nat) (o : Obj) : Obj :=
  if i < lo then .cells #[] 0 else match o with
    | .cells c T (0, 0) => .cells c T
    | _ => .cells #[] 0
/-- w's plain blocks from lo on -/
def Own (lo : Nat) (w : World) : World := { w with heap := w.heap.mapIdx fun i o => ownO lo i o }
theorem Own.heap (lo : Nat) (w : World) (k : Nat) : (Own lo w).heap[k]? = (w.heap[k]?).map (ownO lo k) := by simp [Own]
theorem Own.size (lo : Nat) (w : World) : (Own lo w).heap.size = w.heap.size := by simp [Own]
theorem Own.wb {lo : Nat} {w : World} {g : Nat} {T : TypeId} {cs : Array Value} (h : WB w g T cs) (hg : lo ≤ g) : WB (Own lo w) g T cs := by
  unfold WB at *
  rw [Own.heap, h]
  simp only [Option.map_some, ownO]
  rw [if_neg (by omega)]
theorem ownO_cells {lo k : Nat} {o : Obj} {c : Array Value} {T : TypeId} {m : Nat × Nat} (h : ownO lo k o = .cells c T m) (hc : 0 < c.size) : lo ≤ k ∧ o = .cells c T (0, 0) ∧ m = (0, 0) := by
  unfold ownO at h
  split at h
  · injection h with h1 h2 h3; subst h1; simp at hc
  · rename_i hk
    split at h
    · injection h with h1 h2 h3; subst h1 h2 h3; exact ⟨by omega, rfl, rfl⟩
    · injection h with h1 h2 h3; subst h1; simp at hc
theorem Own.cell {lo : Nat} {w : World} {p : Addr} {v : Value} (h : (Own lo w).cell? p = some v) : lo ≤ p.block ∧ w.cell? p = some v ∧ w.frozen? p = false := by
  unfold World.cell? at h
  rw [Own.heap] at h
  cases hh : w.heap[p.block]? with
  | none => rw [hh] at h; simp at h
  | some o =>
    rw [hh] at h
    simp only [Option.map_some] at h
    split at h
    · rename_i c T m he
      injection he with he
      split at h
      · simp at h
      · rename_i hs
        have hc : 0 < c.size := by
          have := (Array.getElem?_eq_some_iff.1 h).1
          omega
        obtain ⟨h1, rfl, rfl⟩ := ownO_cells he hc
        refine ⟨h1, ?_, ?_⟩
        · simp only [World.cell?, hh]
          rw [if_neg hs]; exact h
        · simp [World.frozen?, hh]
    · simp at h
theorem Own.cell_of {lo : Nat} {w : World} {g : Nat} {T : TypeId} {cs : Array Value} (h : WB w g T cs) (hg : lo ≤ g) {i : Nat} {v : Value} (hv : cs[i]? = some v) : (Own lo w).cell? ⟨g, i, none⟩ = some v := (Own.wb h hg).cell hv
theorem Own.ext {lo : Nat} {w w' : World} (h : Ext w w') : Ext (Own lo w) (Own lo w') :=
  ⟨h.os, h.tape, h.output, by rw [Own.size, Own.size]; exact h.size, fun k hk => by rw [Own.heap, Own.heap, h.block k (by rwa [Own.size] at hk)]⟩
theorem Own.low {lo lo' : Nat} {w : World} (hl : lo ≤ lo') {p : Addr} {v : Value} (h : (Own lo' w).cell? p = some v) : (Own lo w).cell? p = some v := by
  unfold World.cell? at h ⊢
  rw [Own.heap] at h ⊢
  cases hh : w.heap[p.block]? with
  | none => rw [hh] at h; simp at h
  | some o =>
    rw [hh] at h
    simp only [Option.map_some] at h ⊢
    split at h
    · rename_i c T m he
      injection he with he
      split at h
      · simp at h
      · rename_i hs
        have hc : 0 < c.size := by
          have := (Array.getElem?_eq_some_iff.1 h).1
          omega
        obtain ⟨h1, rfl, rfl⟩ := ownO_cells he hc
        simp only [ownO]
        rw [if_neg (by omega)]
        simp only
        rw [if_neg hs]; exact h
    · simp at h
theorem Own.far {lo : Nat} (w : World) {p : Addr} (hp : p.block < lo) (v : Value) : Own lo (w.setCell p v) = Own lo w := by
  unfold Own World.setCell
  simp only
  congr 1
  apply Array.ext_getElem?
  intro i
  simp only [Array.getElem?_mapIdx, Array.getElem?_modify]
  by_cases hi : p.block = i
  · rw [if_pos hi]
    cases w.heap[i]? with
    | none => rfl
    | some o => simp only [Option.map_some]; unfold ownO; rw [if_pos (by omega), if_pos (by omega)]
  · rw [if_neg hi]
theorem Own.set {lo : Nat} (w : World) {p : Addr} (hp : lo ≤ p.block) (v : Value) : Own lo (w.setCell p v) = (Own lo w).setCell p v := by
  unfold Own World.setCell
  simp only
  congr 1
  apply Array.ext_getElem?
  intro i
  simp only [Array.getElem?_mapIdx, Array.getElem?_modify]
  by_cases hi : p.block = i
  · rw [if_pos hi, if_pos hi]
    cases w.heap[i]? with
    | none => rfl
    | some o =>
      simp only [Option.map_some]
      unfold ownO
      rw [if_neg (by omega), if_neg (by omega)]
      cases o with
      | cells c T m =>
        simp only
        by_cases hm : m = (0, 0)
        · subst hm; rfl
        · have e : ∀ c' : Array Value, (match Obj.cells c' T m with | .cells c T (0, 0) => Obj.cells c T | _ => .cells #[] 0) = .cells #[] 0 := by
            intro c'
            split
            · rename_i he; injection he with _ _ h3; exact absurd h3 hm
            · rfl
          rw [e, e]
          simp
      | _ => simp
  · rw [if_neg hi, if_neg hi]

/-! ### readings under fewer cells -/
def Sub (w w' : World) : Prop := ∀ (k : Nat) (c : Array Value) (T : TypeId) (m : Nat × Nat), w.heap[k]? = some (.cells c T m) → 0 < c.size → w'.heap[k]? = some (.cells c T m)
theorem Sub.cell {w w' : World} (h : Sub w w') {p : Addr} {v : Value} (hc : w.cell? p = some v) : w'.cell? p = some v := by
  unfold World.cell? at hc ⊢
  cases hh : w.heap[p.block]? with
  | none => rw [hh] at hc; simp at hc
  | some o =>
    rw [hh] at hc
    cases o with
    | cells c T m =>
      have hs : 0 < c.size := by
        simp only at hc
        split at hc
        · simp at hc
        · have := (Array.getElem?_eq_some_iff.1 hc).1
          omega
      rw [h _ c T m hh hs]; exact hc
    | _ => simp at hc
theorem Own.sub (lo : Nat) (w : World) : Sub (Own lo w) w := fun k c T m h hc => by
  rw [Own.heap] at h
  cases hh : w.heap[k]? with
  | none => rw [hh] at h; cases h
  | some o =>
    rw [hh] at h
    simp only [Option.map_some, Option.some.injEq] at h
    obtain ⟨_, rfl, rfl⟩ := ownO_cells h hc
    rfl
theorem Own.lowS {lo lo' : Nat} {w : World} (hl : lo ≤ lo') : Sub (Own lo' w) (Own lo w) := fun k c T m h hc => by
  rw [Own.heap] at h ⊢
  cases hh : w.heap[k]? with
  | none => rw [hh] at h; cases h
  | some o =>
    rw [hh] at h
    simp only [Option.map_some, Option.some.injEq] at h ⊢
    obtain ⟨h1, rfl, rfl⟩ := ownO_cells h hc
    unfold ownO
    rw [if_neg (by omega)]
    rfl
theorem Ext.sub {w w' : World} (h : Ext w w') : Sub w w' := fun k c T m hk hc => by
  rw [h.block k (Array.getElem?_eq_some_iff.1 hk).1]; exact hk
theorem Sub.trans {a b c : World} (h : Sub a b) (k : Sub b c) : Sub a c := fun i d T m x hd => k i d T m (h i d T m x hd) hd
def KeepsS {α : Type} (R : World → List Value → α → Prop) : Prop := ∀ w w' cs x, Sub w w' → R w cs x → R w' cs x
theorem Sl.sub {α : Type} {R : World → List Value → α → Prop} {size : Nat} {w w' : World} {A : Option Addr} {xs : List α} (hR : KeepsS R) (h : Sl R size w A xs) (he : Sub w w') : Sl R size w' A xs := by
  intro k x hk
  obtain ⟨b, o, cs, hA, hl, hc, hr⟩ := h k x hk
  exact ⟨b, o, cs, hA, hl, fun j u hu => he.cell (hc j u hu), hR _ _ _ _ he hr⟩
theorem Sl.imp {α : Type} {R S : World → List Value → α → Prop} {size : Nat} {w : World} {A : Option Addr} {xs : List α} (h : Sl R size w A xs) (hR : ∀ cs x, R w cs x → S w cs x) : Sl S size w A xs := by
  intro k x hk
  obtain ⟨b, o, cs, hA, hl, hc, hr⟩ := h k x hk
  exact ⟨b, o, cs, hA, hl, hc, hR _ _ hr⟩
/-! ### w's blocks of one type alone -/
def typO (T : TypeId) (o : Obj) : Obj := match o with
  | .cells c T' m => if T' = T then .cells c T' m else .cells #[] 0
  | _ => .cells #[] 0
def Typ (T : TypeId) (w : World) : World := { w with heap := w.heap.map (typO T) }
theorem Typ.heap (T : TypeId) (w : World) (k : Nat) : (Typ T w).heap[k]? = (w.heap[k]?).map (typO T) := by simp [Typ]
theorem typO_cells {T T' : TypeId} {o : Obj} {c : Array Value} {m : Nat × Nat} (h : typO T o = .cells c T' m) (hc : 0 < c.size) : T' = T ∧ o = .cells c T' m := by
  unfold typO at h
  split at h
  · split at h
    · rename_i e
      injection h with h1 h2 h3
      subst h1 h2 h3
      exact ⟨e, rfl⟩
    · injection h with h1 h2 h3; subst h1; simp at hc
  · injection h with h1 h2 h3; subst h1; simp at hc
theorem Typ.of {T : TypeId} {w : World} {k : Nat} {c : Array Value} {m : Nat × Nat} (h : w.heap[k]? = some (.cells c T m)) : (Typ T w).heap[k]? = some (.cells c T m) := by
  rw [Typ.heap, h]
  simp [typO]
theorem Typ.out {T T' : TypeId} {w : World} {k : Nat} {c : Array Value} {m : Nat × Nat} (h : (Typ T w).heap[k]? = some (.cells c T' m)) (hc : 0 < c.size) : T' = T ∧ w.heap[k]? = some (.cells c T' m) := by
  rw [Typ.heap] at h
  cases hh : w.heap[k]? with
  | none => rw [hh] at h; cases h
  | some o =>
    rw [hh] at h
    simp only [Option.map_some, Option.some.injEq] at h
    obtain ⟨h1, h2⟩ := typO_cells h hc
    exact ⟨h1, by rw [h2]⟩
theorem Typ.sub (T : TypeId) (w : World) : Sub (Typ T w) w := fun k c T' m h hc => (Typ.out h hc).2
theorem Typ.mono {T : TypeId} {w w' : World} (h : Sub w w') : Sub (Typ T w) (Typ T w') := fun k c T' m hk hc => by
  obtain ⟨rfl, h1⟩ := Typ.out hk hc
  exact Typ.of (h _ _ _ _ h1 hc)
theorem Typ.ext {T : TypeId} {w w' : World} (h : Ext w w') : Ext (Typ T w) (Typ T w') :=
  ⟨h.os, h.tape, h.output, by simpa [Typ] using h.size, fun k hk => by rw [Typ.heap, Typ.heap, h.block k (by simpa [Typ] using hk)]⟩
theorem Typ.set {T T' : TypeId} {w : World} {p : Addr} {c : Array Value} {m : Nat × Nat} (h : w.heap[p.block]? = some (.cells c T' m)) (hn : T' ≠ T) (v : Value) : Typ T (w.setCell p v) = Typ T w := by
  unfold Typ World.setCell
  simp only
  congr 1
  apply Array.ext_getElem?
  intro i
  simp only [Array.getElem?_map, Array.getElem?_modify]
  by_cases hi : p.block = i
  · subst hi
    rw [if_pos rfl, h]
    simp [typO, hn]
  · rw [if_neg hi]
theorem RInt.subs : KeepsS RInt := fun _ _ _ _ _ h => h
theorem RStr.subs : KeepsS RStr := fun _ _ _ _ _ h => h
theorem RPair.subs : KeepsS RPair := fun _ _ _ _ _ h => h
theorem RTol.subs : KeepsS RTol := fun _ _ _ _ _ h => h
theorem RTerm.subs : KeepsS RTerm := fun _ _ _ _ he h => by
  obtain ⟨A, c, h1, h2, h3, h4, h5, h6⟩ := h
  exact ⟨A, c, h1, h2, h3, h4, h5, h6.sub RStr.subs he⟩
/-- a term whose values lie in blocks of strings -/
def RTermT (w : World) (cs : List Value) (x : Tm) : Prop :=
  ∃ A c, cs = [.string x.key, .int .i64 x.kind, .slice A x.vals.length c] ∧ okS x.key ∧ inI x.kind ∧ x.vals.length ≤ c ∧ c ≤ maxLen ∧ Sl RStr 1 (Typ 9 w) A x.vals
theorem RTermT.weak {w : World} {cs : List Value} {x : Tm} (h : RTermT w cs x) : RTerm w cs x := by
  obtain ⟨A, c, h1, h2, h3, h4, h5, h6⟩ := h
  exact ⟨A, c, h1, h2, h3, h4, h5, h6.sub RStr.subs (Typ.sub _ _)⟩
theorem RTermT.subs : KeepsS RTermT := fun _ _ _ _ he h => by
  obtain ⟨A, c, h1, h2, h3, h4, h5, h6⟩ := h
  exact ⟨A, c, h1, h2, h3, h4, h5, h6.sub RStr.subs (Typ.mono he)⟩
theorem RTermT.keeps : Keeps RTermT := fun _ _ _ _ he h => RTermT.subs _ _ _ _ he.sub h
theorem PodOk.sub {w w' : World} {p : Pd} {q : PA} (h : PodOk w p q) (he : Sub w w') : PodOk w' p q :=
  { h with ports := h.ports.sub RInt.subs he, labels := h.labels.sub RPair.subs he, sel := h.sel.sub RTerm.subs he, tols := h.tols.sub RTol.subs he, anti := h.anti.sub RTerm.subs he, even := h.even.sub RTerm.subs he }
theorem NodeOk.sub {w w' : World} {p : Nd} {q : NA} (h : NodeOk w p q) (he : Sub w w') : NodeOk w' p q :=
  { h with labels := h.labels.sub RPair.subs he, taints := h.taints.sub RPair.subs he }

/-! ### rows of one's own -/
theorem own_own {lo : Nat} {w : World} {T : TypeId} {size n : Nat} {v : Value} {xs : List Value} (h : w.ownsRow lo T size v n xs) : (Own lo w).ownsRow lo T size v n xs := by
  refine ⟨h.1, ?_⟩
  rcases h.2 with h | ⟨g', cap, cur, rfl, hg', hh, r⟩
  · exact .inl h
  · exact .inr ⟨g', cap, cur, rfl, hg', Own.wb hh hg', r⟩
def Rowz {α : Type} (R : World → List Value → α → Prop) (T : TypeId) (size lo : Nat) (w : World) (A : Option Addr) (c : Nat) (xs : List α) : Prop :=
  ∃ cs, w.ownsRow lo T size (.slice A xs.length c) xs.length cs ∧ Cells R size (Own lo w) xs cs
theorem Rowz.ext {α : Type} {R : World → List Value → α → Prop} {T : TypeId} {size lo : Nat} {w w' : World} {A : Option Addr} {c : Nat} {xs : List α} (hR : Keeps R) (h : Rowz R T size lo w A c xs) (e : Ext w w') : Rowz R T size lo w' A c xs := by
  obtain ⟨cs, h1, h2⟩ := h
  exact ⟨cs, own_ext h1 e, h2.ext hR (Own.ext e)⟩
theorem Cells.sub {α : Type} {R : World → List Value → α → Prop} {size : Nat} {w w' : World} {xs : List α} {cs : List Value} (hR : KeepsS R) (h : Cells R size w xs cs) (e : Sub w w') : Cells R size w' xs cs := by
  induction h with
  | nil => exact .nil
  | cons h hl t ih => exact .cons (hR _ _ _ _ e h) hl ih
theorem own_low {lo lo' : Nat} {w : World} {T : TypeId} {size n : Nat} {v : Value} {xs : List Value} (hl : lo ≤ lo') (h : w.ownsRow lo' T size v n xs) : w.ownsRow lo T size v n xs := by
  refine ⟨h.1, ?_⟩
  rcases h.2 with h | ⟨g', cap, cur, rfl, hg', hh, r⟩
  · exact .inl h
  · exact .inr ⟨g', cap, cur, rfl, by omega, hh, r⟩
theorem Rowz.low {α : Type} {R : World → List Value → α → Prop} {T : TypeId} {size lo lo' : Nat} {w : World} {A : Option Addr} {c : Nat} {xs : List α} (hR : KeepsS R) (hl : lo ≤ lo') (h : Rowz R T size lo' w A c xs) : Rowz R T size lo w A c xs := by
  obtain ⟨cs, h1, h2⟩ := h
  exact ⟨cs, own_low hl h1, h2.sub hR (Own.lowS hl)⟩
theorem Rowz.sl {α : Type} {R : World → List Value → α → Prop} {T : TypeId} {size lo : Nat} {w : World} {A : Option Addr} {c : Nat} {xs : List α} (h : Rowz R T size lo w A c xs) : Sl R size (Own lo w) A xs ∧ xs.length ≤ c ∧ c ≤ maxLen := by
  obtain ⟨cs, h1, h2⟩ := h
  obtain ⟨f1, f2, f3⟩ := own_flatA h1
  exact ⟨own_sl (own_own h1) rfl h2, f2, f3⟩

theorem Rowz.typ {α : Type} {R : World → List Value → α → Prop} {T : TypeId} {size lo : Nat} {w : World} {A : Option Addr} {c : Nat} {xs : List α} (hR : ∀ w w' cs x, R w cs x → R w' cs x) (h : Rowz R T size lo w A c xs) : Sl R size (Typ T (Own lo w)) A xs := by
  obtain ⟨cs, h1, h2⟩ := h
  have h3 : (Typ T (Own lo w)).ownsRow lo T size (.slice A xs.length c) xs.length cs := by
    refine ⟨h1.1, ?_⟩
    rcases h1.2 with h | ⟨g', cap, cur, e, hg', hh, r⟩
    · exact .inl h
    · exact .inr ⟨g', cap, cur, e, hg', Typ.of (Own.wb hh hg'), r⟩
  have key : ∀ {w w' : World} {xs : List α} {cs : List Value}, Cells R size w xs cs → Cells R size w' xs cs := by
    intro w w' xs cs h
    induction h with
    | nil => exact .nil
    | cons h hl t ih => exact .cons (hR _ _ _ _ h) hl ih
  exact own_sl h3 rfl (key h2)

/-! ### what grows -/
inductive Like (t : Nat) : Value → Value → Prop
  | str {a b : ByteArray} (h : b.size ≤ a.size + t) : Like t (.string a) (.string b)
  | int {x y : Int} (h : inI y) : Like t (.int .i64 x) (.int .i64 y)
  | bool {a b : Bool} : Like t (.bool a) (.bool b)
  | same {v : Value} : Like t v v
theorem Like.ofStr {t : Nat} {a : ByteArray} {v : Value} (h : Like t (.string a) v) : ∃ b, v = .string b ∧ b.size ≤ a.size + t := by
  cases h with
  | str h => exact ⟨_, rfl, h⟩
  | same => exact ⟨_, rfl, by omega⟩
theorem Like.ofInt {t : Nat} {x : Int} {v : Value} (hx : inI x) (h : Like t (.int .i64 x) v) : ∃ y, v = .int .i64 y ∧ inI y := by
  cases h with
  | int h => exact ⟨_, rfl, h⟩
  | same => exact ⟨_, rfl, hx⟩
theorem Like.ofBool {t : Nat} {x : Bool} {v : Value} (h : Like t (.bool x) v) : ∃ y, v = .bool y := by
  cases h with
  | bool => exact ⟨_, rfl⟩
  | same => exact ⟨_, rfl⟩
theorem Like.ofSlice {t : Nat} {A : Option Addr} {n c : Nat} {v : Value} (h : Like t (.slice A n c) v) : v = .slice A n c := by
  cases h with
  | same => rfl
theorem Like.mono {t t' : Nat} {u v : Value} (h : Like t u v) (ht : t ≤ t') : Like t' u v := by
  cases h with
  | str h => exact .str (by omega)
  | int h => exact .int h
  | bool => exact .bool
  | same => exact .same
def Sh (t : Nat) (W w : World) : Prop := ∀ p v, W.cell? p = some v → ∃ u, w.cell? p = some u ∧ Like t v u
theorem cell_set_eq {w : World} {b o : Nat} {v u : Value} (h : w.cell? ⟨b, o, none⟩ = some v) : (w.setCell ⟨b, o, none⟩ u).cell? ⟨b, o, none⟩ = some u := World.cell?_setCell_same _ _ _ h
theorem cell_set_ne {w : World} {b o : Nat} {u : Value} {p : Addr} (h : p ≠ ⟨b, o, none⟩) : (w.setCell ⟨b, o, none⟩ u).cell? p = w.cell? p := World.cell?_setCell_other _ _ _ _ fun e => h e.symm
/-- behind W1 (made from W0 on) W2 was made; since then what W1 made has grown, by no more than t a string -/
structure Grow (W0 W1 W2 : World) (t : Nat) (w : World) : Prop where
  ext : Ext W0 w
  kept : Ext (Own W1.heap.size W2) (Own W1.heap.size w)
  sh : Sh t (Own W0.heap.size W1) (Own W0.heap.size w)
theorem Grow.start {W0 W1 W2 : World} (h1 : Ext W0 W1) (h2 : Ext W1 W2) : Grow W0 W1 W2 0 W2 :=
  ⟨h1.trans h2, Ext.refl _, fun p v hc => ⟨v, (Own.ext h2).cell hc, .same⟩⟩
theorem Grow.more {W0 W1 W2 w w' : World} {t : Nat} (h : Grow W0 W1 W2 t w) (e : Ext w w') : Grow W0 W1 W2 t w' :=
  ⟨h.ext.trans e, h.kept.trans (Own.ext e), fun p v hc => by
    obtain ⟨u, h1, h2⟩ := h.sh p v hc
    exact ⟨u, (Own.ext e).cell h1, h2⟩⟩
theorem Grow.mono {W0 W1 W2 w : World} {t t' : Nat} (h : Grow W0 W1 W2 t w) (ht : t ≤ t') : Grow W0 W1 W2 t' w :=
  ⟨h.ext, h.kept, fun p v hc => by
    obtain ⟨u, h1, h2⟩ := h.sh p v hc
    exact ⟨u, h1, h2.mono ht⟩⟩
theorem Grow.set {W0 W1 W2 w : World} {t t' : Nat} (h : Grow W0 W1 W2 t w) (ht : t ≤ t') {b o : Nat} {v x : Value} (hc : (Own W0.heap.size W1).cell? ⟨b, o, none⟩ = some v) (hl : Like t' v x) : Grow W0 W1 W2 t' (w.setCell ⟨b, o, none⟩ x) := by
  have hb : W0.heap.size ≤ b := (Own.cell hc).1
  have hb2 : b < W1.heap.size := by have := cell_lt hc; rwa [Own.size] at this
  refine ⟨h.ext.setCell hb _, ?_, fun p u hp => ?_⟩
  · rw [Own.far w (p := ⟨b, o, none⟩) hb2]; exact h.kept
  · rw [Own.set w (p := ⟨b, o, none⟩) hb]
    by_cases e : p = ⟨b, o, none⟩
    · subst e
      obtain rfl : v = u := by rw [hc] at hp; injection hp
      obtain ⟨y, h1, _⟩ := h.sh _ _ hc
      exact ⟨x, cell_set_eq h1, hl⟩
    · obtain ⟨y, h1, h2⟩ := h.sh p u hp
      exact ⟨y, by rw [cell_set_ne e]; exact h1, h2.mono ht⟩
theorem Grow.at {W0 W1 W2 w : World} {t : Nat} (h : Grow W0 W1 W2 t w) {p : Addr} {v : Value} (hc : (Own W0.heap.size W1).cell? p = some v) : ∃ u, w.cell? p = some u ∧ w.frozen? p = false ∧ Like t v u := by
  obtain ⟨u, h1, h2⟩ := h.sh p v hc
  obtain ⟨_, h3, h4⟩ := Own.cell h1
  exact ⟨u, h3, h4, h2⟩
end Go.Proofs.YthfafenigjldlaaGreat
