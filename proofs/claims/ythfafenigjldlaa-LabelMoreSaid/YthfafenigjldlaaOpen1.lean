/-
  What an argument's reading tells of memory: slices of strings, pairs, tolerations, terms as lists.
-/
import Derived.Test.YthfafenigjldlaaMem
import Derived.Test.YthfafenigjldlaaLaw
import Derived.Deep.Slices
namespace Go.Proofs.Ythfafenigjldlaa
open Go.RowKit Go.ChangeShapes Go.WideShapes Go.ChangeAt
set_option linter.unusedVariables false

section
variable {H : Type} {enc : TypeId × Value → H} {W : World} {sp : Nat → Bool} {hd : Bool}

theorem list_of {α : Type} {p : Nat → α → Prop} : ∀ n, (∀ i, i < n → ∃ x, p i x) → ∃ xs : List α, xs.length = n ∧ ∀ k x, xs[k]? = some x → p k x
  | 0, _ => ⟨[], rfl, fun k x h => by simp at h⟩
  | n + 1, h => by
    obtain ⟨xs, h1, h2⟩ := list_of n (fun i hi => h i (by omega))
    obtain ⟨x, hx⟩ := h n (by omega)
    refine ⟨xs ++ [x], by simp [h1], fun k y hy => ?_⟩
    rcases Nat.lt_or_ge k xs.length with hl | hl
    · rw [List.getElem?_append_left hl] at hy
      exact h2 k y hy
    · have hk : k = n := by
        have := (List.getElem?_eq_some_iff.1 hy).1
        simp at this; omega
      subst hk
      rw [List.getElem?_append_right hl, h1] at hy
      obtain rfl : x = y := by simpa using hy
      exact hx
theorem add_none (b o n : Nat) : (⟨b, o, none⟩ : Addr).add n = ⟨b, o + n, none⟩ := by unfold Addr.add; split <;> simp_all
theorem open_sl {α : Type} {R : World → List Value → α → Prop} {t e : TypeId} {size fuel : Nat} {cs : List Value} {x : DataW H × List MemPlace} (ht : Try.prog.underlying t = some (.slice e)) (hc : Try.prog.cellsOf e = size) (hs : 0 < size)
    (h : DataW.trod enc Try.prog W 0 sp hd fuel t cs = some x) (el : ∀ n cs' y, DataW.trod enc Try.prog W 0 sp hd n e cs' = some y → cs'.length = size → ∃ a : α, R W cs' a) :
    ∃ A c, ∃ xs : List α, cs = [.slice A xs.length c] ∧ xs.length ≤ c ∧ c ≤ maxLen ∧ Sl R size W A xs := by
  rcases Go.Deep.open_slice ht h with ⟨rfl, _⟩ | ⟨a, len, cap, m, n, D, Pl, rfl, hb, hl, hm, hmm, rfl, hx⟩
  · exact ⟨none, 0, [], rfl, by simp, by simp [maxLen], Sl.nil⟩
  · rw [hc] at hx
    have hlm : len ≤ m := by rw [hmm]; split <;> omega
    obtain ⟨xs, h1, h2⟩ := list_of (α := α) (p := fun i x => ∃ cs', W.cells? 0 (a.add (i * size)) size = some cs' ∧ cs'.length = size ∧ R W cs' x) len (fun i hi => by
      obtain ⟨cs', e1, e2⟩ := hx i (by omega)
      obtain ⟨_, e3, _⟩ := World.cells?_some e1
      obtain ⟨x, e4⟩ := el n cs' _ e2 e3
      exact ⟨x, cs', e1, e3, e4⟩)
    refine ⟨some a, cap, xs, by rw [h1], by omega, hm, fun k x hk => ?_⟩
    obtain ⟨cs', e1, e3, e4⟩ := h2 k x hk
    obtain ⟨_, _, hcell⟩ := World.cells?_some e1
    have hspot : a.spot = none := by
      obtain ⟨cs0, e10, e30⟩ := hx 0 (by have := (List.getElem?_eq_some_iff.1 hk).1; omega)
      obtain ⟨_, l0, c0⟩ := World.cells?_some e10
      have := c0 0 hs
      rw [List.getElem?_eq_getElem (by omega)] at this
      have := World.cell?_spot this
      simpa [Addr.add] using this
    obtain ⟨b, o, spot⟩ := a
    subst hspot
    refine ⟨b, o, cs', rfl, e3, fun j u hu => ?_, e4⟩
    have hj : j < size := by have := (List.getElem?_eq_some_iff.1 hu).1; omega
    have := hcell j hj
    rw [hu, add_none, add_none] at this
    exact this
theorem cells_bool : Try.prog.cellsOf 4 = 1 := by kernel_rfl
theorem cells_string : Try.prog.cellsOf 9 = 1 := by kernel_rfl
theorem cells_int : Try.prog.cellsOf 3 = 1 := by kernel_rfl
theorem cells_int64 : Try.prog.cellsOf 2 = 1 := by kernel_rfl
theorem cells_pair : Try.prog.cellsOf 34 = 2 := by kernel_rfl
theorem cells_taint : Try.prog.cellsOf 44 = 2 := by kernel_rfl
theorem cells_toler : Try.prog.cellsOf 43 = 3 := by kernel_rfl
theorem cells_strings : Try.prog.cellsOf 26 = 1 := by kernel_rfl
theorem cells_term : Try.prog.cellsOf 29 = 3 := by kernel_rfl
theorem cells_res : Try.prog.cellsOf 50 = 3 := by kernel_rfl

theorem el_string (n : Nat) (cs : List Value) (y) (h : DataW.trod enc Try.prog W 0 sp hd n 9 cs = some y) (hl : cs.length = 1) : ∃ a, RStr W cs a := by
  obtain ⟨s, rfl, _, h2⟩ := DataW.trod_string Try.underlying9 h
  exact ⟨s, rfl, h2⟩
theorem el_int (n : Nat) (cs : List Value) (y) (h : DataW.trod enc Try.prog W 0 sp hd n 3 cs = some y) (hl : cs.length = 1) : ∃ a, RInt W cs a := by
  obtain ⟨s, rfl, _, h2⟩ := DataW.trod_int Try.underlying3 h
  exact ⟨s, rfl, bounds_i64 h2⟩
set_option maxRecDepth 20000 in
theorem el_pair (n : Nat) (cs : List Value) (y) (h : DataW.trod enc Try.prog W 0 sp hd n 34 cs = some y) (hl : cs.length = 2) : ∃ a, RPair W cs a := by
  obtain ⟨xs, k, _, _, _, hxl, hf⟩ := DataW.trod_struct Try.underlying34 h
  match cs, hl with
  | [v0, v1], _ =>
    have g0 := hf 0 _ rfl
    have g1 := hf 1 _ rfl
    simp [cells_string] at g0 g1
    match xs, hxl with
    | [y0, y1], _ =>
      simp at g0 g1
      obtain ⟨s0, e0, _, b0⟩ := DataW.trod_string Try.underlying9 g0
      obtain ⟨s1, e1, _, b1⟩ := DataW.trod_string Try.underlying9 g1
      injection e0 with e0; injection e1 with e1
      exact ⟨⟨s0, s1⟩, by rw [e0, e1], b0, b1⟩
set_option maxRecDepth 20000 in
theorem el_taint (n : Nat) (cs : List Value) (y) (h : DataW.trod enc Try.prog W 0 sp hd n 44 cs = some y) (hl : cs.length = 2) : ∃ a, RPair W cs a := by
  obtain ⟨xs, k, _, _, _, hxl, hf⟩ := DataW.trod_struct Try.underlying44 h
  match cs, hl with
  | [v0, v1], _ =>
    have g0 := hf 0 _ rfl
    have g1 := hf 1 _ rfl
    simp [cells_string] at g0 g1
    match xs, hxl with
    | [y0, y1], _ =>
      simp at g0 g1
      obtain ⟨s0, e0, _, b0⟩ := DataW.trod_string Try.underlying9 g0
      obtain ⟨s1, e1, _, b1⟩ := DataW.trod_string Try.underlying9 g1
      injection e0 with e0; injection e1 with e1
      exact ⟨⟨s0, s1⟩, by rw [e0, e1], b0, b1⟩
set_option maxRecDepth 20000 in
theorem el_toler (n : Nat) (cs : List Value) (y) (h : DataW.trod enc Try.prog W 0 sp hd n 43 cs = some y) (hl : cs.length = 3) : ∃ a, RTol W cs a := by
  obtain ⟨xs, k, _, _, _, hxl, hf⟩ := DataW.trod_struct Try.underlying43 h
  match cs, hl with
  | [v0, v1, v2], _ =>
    have g0 := hf 0 _ rfl
    have g1 := hf 1 _ rfl
    have g2 := hf 2 _ rfl
    simp [cells_string, cells_bool] at g0 g1 g2
    match xs, hxl with
    | [y0, y1, y2], _ =>
      simp at g0 g1 g2
      obtain ⟨s0, e0, _, b0⟩ := DataW.trod_string Try.underlying9 g0
      obtain ⟨s1, e1, _, b1⟩ := DataW.trod_string Try.underlying9 g1
      obtain ⟨s2, e2, _⟩ := DataW.trod_bool Try.underlying4 g2
      injection e0 with e0; injection e1 with e1; injection e2 with e2
      exact ⟨⟨s0, s1, s2⟩, by rw [e0, e1, e2], b0, b1⟩
set_option maxRecDepth 20000 in
theorem el_term (n : Nat) (cs : List Value) (y) (h : DataW.trod enc Try.prog W 0 sp hd n 29 cs = some y) (hl : cs.length = 3) : ∃ a, RTerm W cs a := by
  obtain ⟨xs, k, _, _, _, hxl, hf⟩ := DataW.trod_struct Try.underlying29 h
  match cs, hl with
  | [v0, v1, v2], _ =>
    have g0 := hf 0 _ rfl
    have g1 := hf 1 _ rfl
    have g2 := hf 2 _ rfl
    simp [cells_string, cells_int, cells_strings] at g0 g1 g2
    match xs, hxl with
    | [y0, y1, y2], _ =>
      simp at g0 g1 g2
      obtain ⟨s0, e0, _, b0⟩ := DataW.trod_string Try.underlying9 g0
      obtain ⟨s1, e1, _, b1⟩ := DataW.trod_int Try.underlying3 g1
      obtain ⟨A, c, vs, e2, l1, l2, hv⟩ := open_sl (R := RStr) Try.underlying26 cells_string (by omega) g2 el_string
      injection e0 with e0; injection e1 with e1; injection e2 with e2
      exact ⟨⟨s0, s1, vs⟩, A, c, by rw [e0, e1, e2], b0, bounds_i64 b1, l1, l2, hv⟩
end
end Go.Proofs.Ythfafenigjldlaa
