/-
  Plain laws of labels by rising keys; cells dropped, taken, exchanged.
-/
import Derived.Test.YthfafenigjldlaaGreatApp1
namespace Go.Proofs.YthfafenigjldlaaGreat
open Go.RowKit
set_option linter.unusedVariables false

def namesB (xs : List Pr) : Prop := ∀ x ∈ xs, nameB x.key = true ∧ nameB x.val = true
theorem mayFrom_some (xs : List Pr) : ∀ k, mayFrom (some k) xs = true ↔ namesB xs ∧ (∀ x ∈ xs, ltS k x.key = true) ∧ xs.Pairwise (fun a b => ltS a.key b.key = true) := by
  induction xs with
  | nil => intro k; simp [mayFrom, namesB]
  | cons x r ih =>
    intro k
    simp only [mayFrom, Bool.and_eq_true, ih, List.pairwise_cons, namesB, List.mem_cons, forall_eq_or_imp]
    constructor
    · rintro ⟨⟨⟨h1, h2⟩, h3⟩, h4, h5, h6⟩
      exact ⟨⟨⟨h1, h2⟩, h4⟩, ⟨h3, fun y hy => ltS_trans h3 (h5 y hy)⟩, h5, h6⟩
    · rintro ⟨⟨⟨h1, h2⟩, h4⟩, ⟨h3, _⟩, h5, h6⟩
      exact ⟨⟨⟨h1, h2⟩, h3⟩, h4, h5, h6⟩
theorem mayPairs_iff (xs : List Pr) : mayPairs xs = true ↔ namesB xs ∧ xs.Pairwise (fun a b => ltS a.key b.key = true) ∧ xs.length ≤ 6 := by
  unfold mayPairs
  cases xs with
  | nil => simp [mayFrom, namesB]
  | cons x r =>
    simp only [mayFrom, Bool.and_eq_true, mayFrom_some, List.pairwise_cons, namesB, List.mem_cons, forall_eq_or_imp, decide_eq_true_eq, and_true]
    constructor
    · rintro ⟨⟨⟨h1, h2⟩, h4, h5, h6⟩, h7⟩
      exact ⟨⟨⟨h1, h2⟩, h4⟩, ⟨h5, h6⟩, h7⟩
    · rintro ⟨⟨⟨h1, h2⟩, h4⟩, ⟨h5, h6⟩, h7⟩
      exact ⟨⟨⟨h1, h2⟩, h4, h5, h6⟩, h7⟩
theorem may_less {L : List Pr} (h : mayPairs L = true) (i : Nat) : mayPairs (L.take i ++ L.drop (i + 1)) = true := by
  rw [mayPairs_iff] at h ⊢
  have hs : List.Sublist (L.take i ++ L.drop (i + 1)) L := by
    rw [← List.eraseIdx_eq_take_drop_succ]; exact List.eraseIdx_sublist L i
  exact ⟨fun x hx => h.1 x (hs.subset hx), h.2.1.sublist hs, Nat.le_trans hs.length_le h.2.2⟩
theorem may_swap {L : List Pr} (h : mayPairs L = true) {i j : Nat} {x y : Pr} (hi : L[i]? = some x) (hj : L[j]? = some y) : mayPairs ((L.set i y).set j x) = decide (i = j) := by
  obtain ⟨li, ei⟩ := List.getElem?_eq_some_iff.1 hi
  obtain ⟨lj, ej⟩ := List.getElem?_eq_some_iff.1 hj
  by_cases hij : i = j
  · subst hij
    rw [decide_eq_true rfl]
    have : x = y := by rw [← ei, ← ej]
    subst this
    rw [List.set_set, ← ei, List.set_getElem_self]
    exact h
  · rw [decide_eq_false hij, ← Bool.not_eq_true]
    intro k
    rw [mayPairs_iff] at h k
    have h1 := List.pairwise_iff_getElem.1 h.2.1
    have k1 := List.pairwise_iff_getElem.1 k.2.1
    have a1 : ((L.set i y).set j x)[i]'(by simp [li]) = y := by
      rw [List.getElem_set_ne (Ne.symm hij), List.getElem_set_self]
    have a2 : ((L.set i y).set j x)[j]'(by simp [lj]) = x := by rw [List.getElem_set_self]
    rcases Nat.lt_or_gt_of_ne hij with hlt | hlt
    · have p := h1 i j li lj hlt
      have q := k1 i j (by simp [li]) (by simp [lj]) hlt
      rw [a1, a2] at q
      rw [ei, ej] at p
      have := ltS_trans p q
      rw [ltS_irrefl] at this; cases this
    · have p := h1 j i lj li hlt
      have q := k1 j i (by simp [lj]) (by simp [li]) hlt
      rw [a1, a2] at q
      rw [ei, ej] at p
      have := ltS_trans p q
      rw [ltS_irrefl] at this; cases this

/-! ### cells -/
theorem Cells.take {α : Type} {R : World → List Value → α → Prop} {size : Nat} {w : World} {xs : List α} {cs : List Value} (h : Cells R size w xs cs) : ∀ k, Cells R size w (xs.take k) (cs.take (k * size)) := by
  induction h with
  | nil => intro k; simpa using Cells.nil
  | @cons x xs cs rest h hl t ih =>
    intro k
    cases k with
    | zero => simpa using Cells.nil
    | succ k =>
      rw [List.take_succ_cons, show (k + 1) * size = cs.length + k * size by rw [hl, Nat.add_mul]; omega, List.take_length_add_append]
      exact Cells.cons h hl (ih k)
theorem Cells.drop {α : Type} {R : World → List Value → α → Prop} {size : Nat} {w : World} {xs : List α} {cs : List Value} (h : Cells R size w xs cs) : ∀ k, Cells R size w (xs.drop k) (cs.drop (k * size)) := by
  induction h with
  | nil => intro k; simpa using Cells.nil
  | @cons x xs cs rest h hl t ih =>
    intro k
    cases k with
    | zero => simpa using Cells.cons h hl t
    | succ k =>
      rw [List.drop_succ_cons, show (k + 1) * size = cs.length + k * size by rw [hl, Nat.add_mul]; omega, List.drop_length_add_append]
      exact ih k
theorem Flat.take {w : World} {size n : Nat} {A : Option Addr} {cs : List Value} (h : Flat w size A n cs) (k : Nat) (hk : k ≤ n) : Flat w size A k (cs.take (k * size)) := by
  have hle : k * size ≤ n * size := Nat.mul_le_mul_right _ hk
  refine ⟨by rw [List.length_take, h.1]; omega, fun h0 => ?_⟩
  obtain ⟨b, o, rfl, hc⟩ := h.2 (by omega)
  refine ⟨b, o, rfl, fun j u hu => ?_⟩
  rw [List.getElem?_take] at hu
  split at hu
  · exact hc j u hu
  · cases hu
theorem Flat.drop {w : World} {size n c : Nat} {A : Option Addr} {cs : List Value} (h : Flat w size A n cs) (k : Nat) (hk : k ≤ n) (hn : n ≤ c) :
    Flat w size (if c = k then A else Option.map (fun x => x.add (k * size)) A) (n - k) (cs.drop (k * size)) := by
  refine ⟨by rw [List.length_drop, h.1, Nat.sub_mul], fun h0 => ?_⟩
  obtain ⟨b, o, rfl, hc⟩ := h.2 (by omega)
  rw [if_neg (by omega)]
  refine ⟨b, o + k * size, ?_, fun j u hu => ?_⟩
  · show some _ = some _
    congr 1
    unfold Addr.add; split <;> simp_all
  · rw [List.getElem?_drop] at hu
    have := hc _ u hu
    rw [show o + k * size + j = o + (k * size + j) by omega]
    exact this
/-- a row of pairs, in an array of cells -/
def RowP (cur : Array Value) (xs : List Pr) : Prop := ∀ k x, xs[k]? = some x → cur[k * 2]? = some (.string x.key) ∧ cur[k * 2 + 1]? = some (.string x.val)
theorem RowP.set {cur : Array Value} {xs : List Pr} (h : RowP cur xs) {i : Nat} (hi : i < xs.length) (y : Pr) : RowP ((cur.setIfInBounds (i * 2) (.string y.key)).setIfInBounds (i * 2 + 1) (.string y.val)) (xs.set i y) := by
  obtain ⟨x, hx⟩ := get_of hi
  have hb := h i x hx
  have s0 : i * 2 < cur.size := (Array.getElem?_eq_some_iff.1 hb.1).1
  have s1 : i * 2 + 1 < cur.size := (Array.getElem?_eq_some_iff.1 hb.2).1
  intro k z hz
  by_cases hk : k = i
  · subst hk
    rw [List.getElem?_set_self hi] at hz
    obtain rfl : y = z := by simpa using hz
    constructor
    · rw [Array.getElem?_setIfInBounds_ne (by omega), Array.getElem?_setIfInBounds_self_of_lt s0]
    · rw [Array.getElem?_setIfInBounds_self_of_lt (by simpa using s1)]
  · rw [List.getElem?_set_ne (Ne.symm hk)] at hz
    have := h k z hz
    constructor
    · rw [Array.getElem?_setIfInBounds_ne (by omega), Array.getElem?_setIfInBounds_ne (by omega)]; exact this.1
    · rw [Array.getElem?_setIfInBounds_ne (by omega), Array.getElem?_setIfInBounds_ne (by omega)]; exact this.2
theorem RowP.sl {w : World} {g : Nat} {T : TypeId} {cur : Array Value} {xs : List Pr} (h : RowP cur xs) (hb : WB w g T cur) (ok : ∀ x ∈ xs, okS x.key ∧ okS x.val) : Sl RPair 2 w (some ⟨g, 0, none⟩) xs := by
  intro k x hx
  have hm : x ∈ xs := List.mem_of_getElem? hx
  exact ⟨g, 0, [_, _], rfl, rfl, fun j u hu => by
    match j, hu with
    | 0, hu => injection hu with hu; subst hu; have := hb.cell (h k x hx).1; simpa using this
    | 1, hu => injection hu with hu; subst hu; have := hb.cell (h k x hx).2; simpa using this, rfl, ok x hm⟩
theorem RowP.of_cells {w : World} {xs : List Pr} {cs : List Value} (h : Cells RPair 2 w xs cs) : RowP cs.toArray xs := by
  intro k x hx
  have := (h.at k x hx).1
  have g0 := congrArg (fun l : List Value => l[0]?) this
  have g1 := congrArg (fun l : List Value => l[1]?) this
  simp at g0 g1
  exact ⟨by simpa using g0, by simpa using g1⟩
end Go.Proofs.YthfafenigjldlaaGreat
