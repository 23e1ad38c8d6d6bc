/-
  What the size condition says of a pod's, a node's lists and strings.
-/
import Derived.Test.YthfafenigjldlaaGreatOpen3
import Derived.Test.YthfafenigjldlaaGreatCopy4
import Derived.SizedLaws
namespace Go.Proofs.YthfafenigjldlaaGreat
open Go.RowKit
set_option linter.unusedVariables false

section
variable {H : Type} {enc : TypeId × Value → H} {W : World} {sp : Nat → Bool} {hd : Bool}
theorem mem_all {P : Program} {e : TypeId} : ∀ {l : List (DataW H)} {d : DataW H} {m : Nat}, d ∈ l → m ∈ d.weights P e → m ∈ DataW.weightsAll P e l
  | [], _, _, h, _ => by cases h
  | x :: r, d, m, h, hm => by
    simp only [DataW.weightsAll, List.mem_append]
    rcases List.mem_cons.1 h with rfl | h
    · exact .inl hm
    · exact .inr (mem_all h hm)
theorem fit_slice {t e : TypeId} {B fuel n c : Nat} {A : Option Addr} {y : DataW H × List MemPlace} (ht : Tryz.prog.underlying t = some (.slice e)) (h : DataW.trod enc Tryz.prog W 0 sp hd fuel t [.slice A n c] = some y) (hw : ∀ m ∈ y.1.weights Tryz.prog t, m ≤ B) :
    n * Tryz.prog.bytesOf e ≤ B ∧ ∀ i, i < n → ∃ (a : Addr) (cs' : List Value) (f : Nat) (y' : DataW H × List MemPlace), A = some a ∧ W.cells? 0 (a.add (i * Tryz.prog.cellsOf e)) (Tryz.prog.cellsOf e) = some cs' ∧ DataW.trod enc Tryz.prog W 0 sp hd f e cs' = some y' ∧ ∀ m ∈ y'.1.weights Tryz.prog e, m ≤ B := by
  rcases Go.Deep.open_slice ht h with ⟨e1, rfl⟩ | ⟨a, len, cap, m, n', D, Pl, e1, hb, hl, hm, hmm, rfl, hx⟩
  · obtain ⟨rfl, rfl, rfl⟩ : A = none ∧ n = 0 ∧ c = 0 := by simpa using e1
    exact ⟨by simp, fun i hi => by omega⟩
  · obtain ⟨rfl, rfl, rfl⟩ : A = some a ∧ n = len ∧ c = cap := by simpa using e1
    have hnm : n ≤ m := by rw [hmm]; split <;> omega
    simp only [DataW.weights, ht] at hw
    refine ⟨?_, fun i hi => ?_⟩
    · have := hw _ (List.mem_cons_self ..)
      simp only [List.length_map, List.length_range] at this
      exact Nat.le_trans (Nat.mul_le_mul_right _ (by omega)) this
    · obtain ⟨cs', h1, h2⟩ := hx i (by omega)
      refine ⟨a, cs', n', _, rfl, h1, h2, fun k hk => hw k ?_⟩
      refine List.mem_cons_of_mem _ (List.mem_append_left _ (mem_all (d := D i) ?_ hk))
      exact List.mem_map.2 ⟨i, by simpa using hi, rfl⟩
theorem fit_string {t : TypeId} {B fuel : Nat} {s : ByteArray} {y : DataW H × List MemPlace} (ht : Tryz.prog.underlying t = some .string) (h : DataW.trod enc Tryz.prog W 0 sp hd fuel t [.string s] = some y) (hw : ∀ m ∈ y.1.weights Tryz.prog t, m ≤ B) : s.size ≤ B := by
  obtain ⟨s', e, rfl, _⟩ := DataW.trod_string ht h
  obtain rfl : s = s' := by simpa using e
  have := hw s.data.toList.length (by simp [DataW.weights])
  simpa using this
/-- a struct's field -/
theorem fit_field {t : TypeId} {fs : Array Field} {B fuel : Nat} {cs : List Value} {y : DataW H × List MemPlace} (ht : Tryz.prog.underlying t = some (.struct fs)) (h : DataW.trod enc Tryz.prog W 0 sp hd fuel t cs = some y) (hw : ∀ m ∈ y.1.weights Tryz.prog t, m ≤ B)
    (i : Nat) (f : Field) (hf : fs[i]? = some f) : ∃ n' y', DataW.trod enc Tryz.prog W 0 sp hd n' f.type ((cs.drop f.offset).take (Tryz.prog.cellsOf f.type)) = some y' ∧ ∀ m ∈ y'.1.weights Tryz.prog f.type, m ≤ B := by
  obtain ⟨xs, k, _, rfl, _, hxl, hx⟩ := DataW.trod_struct ht h
  have hi : i < fs.size := (Array.getElem?_eq_some_iff.1 hf).1
  obtain ⟨y', hy⟩ : ∃ y', xs[i]? = some y' := ⟨_, List.getElem?_eq_getElem (by omega)⟩
  refine ⟨k, y', by rw [hx i f hf, hy], fun m hm => hw m ?_⟩
  simp only [DataW.weights, ht]
  refine DataW.weights_mem_each (j := i) (t := f.type) (d := y'.1) ?_ ?_ m hm
  · simp [hf]
  · simp [hy]
/-- strings -/
theorem fit_strings {B fuel n c : Nat} {A : Option Addr} {xs : List ByteArray} {y : DataW H × List MemPlace} (hx : Sl RStr 1 W A xs) (hn : xs.length = n) (h : DataW.trod enc Tryz.prog W 0 sp hd fuel 39 [.slice A n c] = some y) (hw : ∀ m ∈ y.1.weights Tryz.prog 39, m ≤ B) :
    n * 16 ≤ B ∧ ∀ x ∈ xs, x.size ≤ B := by
  obtain ⟨h1, h2⟩ := fit_slice Tryz.underlying39 h hw
  rw [show Tryz.prog.bytesOf 9 = 16 by kernel_rfl] at h1
  refine ⟨h1, fun x hxx => ?_⟩
  obtain ⟨k, hk⟩ := List.mem_iff_getElem?.1 hxx
  have hkl : k < xs.length := (List.getElem?_eq_some_iff.1 hk).1
  obtain ⟨a, cs', f, y', hA, hc, ht, hw'⟩ := h2 k (by omega)
  obtain ⟨b, o, hA2, _, hc2⟩ : ∃ b o, A = some ⟨b, o, none⟩ ∧ True ∧ W.cell? ⟨b, o + k, none⟩ = some (.string x) := by
    obtain ⟨b, o, cs, e1, e2, e3, rfl, _⟩ := hx k x hk
    exact ⟨b, o, e1, trivial, by simpa using e3 0 _ rfl⟩
  rw [hA] at hA2
  obtain rfl : a = ⟨b, o, none⟩ := by injection hA2
  rw [cells_string] at hc
  obtain ⟨_, e1, e2⟩ := World.cells?_some hc
  have e3 := e2 0 (by omega)
  match cs', e1 with
  | [u], _ =>
    simp only [add_none, Nat.mul_one, Nat.add_zero] at e3
    rw [hc2] at e3
    obtain rfl : .string x = u := by simpa using e3
    exact fit_string Tryz.underlying9 ht hw'
theorem sl_cells {α : Type} {R : World → List Value → α → Prop} {size : Nat} {A : Option Addr} {xs : List α} {k : Nat} {x : α} {a : Addr} {cs' : List Value} (hx : Sl R size W A xs) (hk : xs[k]? = some x) (hA : A = some a) (hc : W.cells? 0 (a.add (k * size)) size = some cs') : R W cs' x := by
  obtain ⟨b, o, cs, e1, e2, e3, hr⟩ := hx k x hk
  rw [hA] at e1
  obtain rfl : a = ⟨b, o, none⟩ := by injection e1
  obtain ⟨_, h1, h2⟩ := World.cells?_some hc
  have : cs' = cs := by
    apply List.ext_getElem?
    intro i
    rcases Nat.lt_or_ge i size with hi | hi
    · have h3 := h2 i hi
      obtain ⟨u, hu⟩ := get_of (xs := cs) (k := i) (by omega)
      rw [add_none, add_none] at h3
      rw [← h3, e3 i u hu, hu]
    · rw [List.getElem?_eq_none (by omega), List.getElem?_eq_none (by omega)]
  rw [this]; exact hr
theorem fit_ints {B fuel n c : Nat} {A : Option Addr} {y : DataW H × List MemPlace} (h : DataW.trod enc Tryz.prog W 0 sp hd fuel 64 [.slice A n c] = some y) (hw : ∀ m ∈ y.1.weights Tryz.prog 64, m ≤ B) : n * 8 ≤ B := by
  have := (fit_slice Tryz.underlying64 h hw).1
  rw [show Tryz.prog.bytesOf 3 = 8 by kernel_rfl] at this
  exact this
theorem fit_tols {B fuel n c : Nat} {A : Option Addr} {y : DataW H × List MemPlace} (h : DataW.trod enc Tryz.prog W 0 sp hd fuel 46 [.slice A n c] = some y) (hw : ∀ m ∈ y.1.weights Tryz.prog 46, m ≤ B) : n * 40 ≤ B := by
  have := (fit_slice Tryz.underlying46 h hw).1
  rw [show Tryz.prog.bytesOf 52 = 40 by kernel_rfl] at this
  exact this
theorem fit_pairs {B fuel n c : Nat} {A : Option Addr} {xs : List Pr} {y : DataW H × List MemPlace} (hx : Sl RPair 2 W A xs) (hn : xs.length = n) (h : DataW.trod enc Tryz.prog W 0 sp hd fuel 22 [.slice A n c] = some y) (hw : ∀ m ∈ y.1.weights Tryz.prog 22, m ≤ B) :
    n * 32 ≤ B ∧ ∀ x ∈ xs, x.key.size ≤ B ∧ x.val.size ≤ B := by
  obtain ⟨h1, h2⟩ := fit_slice Tryz.underlying22 h hw
  rw [show Tryz.prog.bytesOf 37 = 32 by kernel_rfl] at h1
  refine ⟨h1, fun x hxx => ?_⟩
  obtain ⟨k, hk⟩ := List.mem_iff_getElem?.1 hxx
  have hkl : k < xs.length := (List.getElem?_eq_some_iff.1 hk).1
  obtain ⟨a, cs', f, y', hA, hc, ht, hw'⟩ := h2 k (by omega)
  rw [cells_pair] at hc
  obtain ⟨rfl, _⟩ := sl_cells hx hk hA hc
  obtain ⟨f0, y0, g0, w0⟩ := fit_field Tryz.underlying37 ht hw' 0 _ rfl
  obtain ⟨f1, y1, g1, w1⟩ := fit_field Tryz.underlying37 ht hw' 1 _ rfl
  simp [cells_string] at g0 g1
  exact ⟨fit_string Tryz.underlying9 g0 w0, fit_string Tryz.underlying9 g1 w1⟩
theorem fit_taints {B fuel n c : Nat} {A : Option Addr} {xs : List Pr} {y : DataW H × List MemPlace} (hx : Sl RPair 2 W A xs) (hn : xs.length = n) (h : DataW.trod enc Tryz.prog W 0 sp hd fuel 45 [.slice A n c] = some y) (hw : ∀ m ∈ y.1.weights Tryz.prog 45, m ≤ B) :
    n * 32 ≤ B ∧ ∀ x ∈ xs, x.key.size ≤ B ∧ x.val.size ≤ B := by
  obtain ⟨h1, h2⟩ := fit_slice Tryz.underlying45 h hw
  rw [show Tryz.prog.bytesOf 53 = 32 by kernel_rfl] at h1
  refine ⟨h1, fun x hxx => ?_⟩
  obtain ⟨k, hk⟩ := List.mem_iff_getElem?.1 hxx
  have hkl : k < xs.length := (List.getElem?_eq_some_iff.1 hk).1
  obtain ⟨a, cs', f, y', hA, hc, ht, hw'⟩ := h2 k (by omega)
  rw [cells_taint] at hc
  obtain ⟨rfl, _⟩ := sl_cells hx hk hA hc
  obtain ⟨f0, y0, g0, w0⟩ := fit_field Tryz.underlying53 ht hw' 0 _ rfl
  obtain ⟨f1, y1, g1, w1⟩ := fit_field Tryz.underlying53 ht hw' 1 _ rfl
  simp [cells_string] at g0 g1
  exact ⟨fit_string Tryz.underlying9 g0 w0, fit_string Tryz.underlying9 g1 w1⟩
theorem fit_terms {B fuel n c : Nat} {A : Option Addr} {xs : List Tm} {y : DataW H × List MemPlace} (hx : Sl RTerm 3 W A xs) (hn : xs.length = n) (h : DataW.trod enc Tryz.prog W 0 sp hd fuel 23 [.slice A n c] = some y) (hw : ∀ m ∈ y.1.weights Tryz.prog 23, m ≤ B) :
    n * 48 ≤ B ∧ ∀ x ∈ xs, x.vals.length * 16 ≤ B ∧ ∀ v ∈ x.vals, v.size ≤ B := by
  obtain ⟨h1, h2⟩ := fit_slice Tryz.underlying23 h hw
  rw [show Tryz.prog.bytesOf 41 = 48 by kernel_rfl] at h1
  refine ⟨h1, fun x hxx => ?_⟩
  obtain ⟨k, hk⟩ := List.mem_iff_getElem?.1 hxx
  have hkl : k < xs.length := (List.getElem?_eq_some_iff.1 hk).1
  obtain ⟨a, cs', f, y', hA, hc, ht, hw'⟩ := h2 k (by omega)
  rw [cells_term] at hc
  obtain ⟨A', c', rfl, _, _, _, _, hv⟩ := sl_cells hx hk hA hc
  obtain ⟨f2, y2, g2, w2⟩ := fit_field Tryz.underlying41 ht hw' 2 _ rfl
  simp [cells_strings] at g2
  exact fit_strings hv rfl g2 w2
structure PodSz (B : Nat) (p : Pd) : Prop where
  name : p.name.size ≤ B
  topo : p.topo.size ≤ B
  node : p.node.size ≤ B
  ports : p.ports.length * 8 ≤ B
  labels : p.labels.length * 32 ≤ B ∧ ∀ x ∈ p.labels, x.key.size ≤ B ∧ x.val.size ≤ B
  sel : p.sel.length * 48 ≤ B ∧ ∀ x ∈ p.sel, x.vals.length * 16 ≤ B ∧ ∀ v ∈ x.vals, v.size ≤ B
  tols : p.tols.length * 40 ≤ B
  anti : p.anti.length * 48 ≤ B ∧ ∀ x ∈ p.anti, x.vals.length * 16 ≤ B ∧ ∀ v ∈ x.vals, v.size ≤ B
  even : p.even.length * 48 ≤ B ∧ ∀ x ∈ p.even, x.vals.length * 16 ≤ B ∧ ∀ v ∈ x.vals, v.size ≤ B
structure NodeSz (B : Nat) (p : Nd) : Prop where
  name : p.name.size ≤ B
  labels : p.labels.length * 32 ≤ B ∧ ∀ x ∈ p.labels, x.key.size ≤ B ∧ x.val.size ≤ B
  taints : p.taints.length * 32 ≤ B ∧ ∀ x ∈ p.taints, x.key.size ≤ B ∧ x.val.size ≤ B
theorem PodSz.fits {B : Nat} {p : Pd} (h : PodSz B p) (hB : B ≤ 140737488355328) : PodFits p :=
  ⟨Nat.le_trans h.ports hB, Nat.le_trans h.labels.1 hB, Nat.le_trans h.sel.1 hB, fun t ht => Nat.le_trans (h.sel.2 t ht).1 hB, Nat.le_trans h.tols hB, Nat.le_trans h.anti.1 hB, fun t ht => Nat.le_trans (h.anti.2 t ht).1 hB, Nat.le_trans h.even.1 hB, fun t ht => Nat.le_trans (h.even.2 t ht).1 hB⟩
theorem NodeSz.fits {B : Nat} {p : Nd} (h : NodeSz B p) (hB : B ≤ 140737488355328) : NodeFits p := ⟨Nat.le_trans h.labels.1 hB, Nat.le_trans h.taints.1 hB⟩
set_option maxRecDepth 40000 in
theorem fit_pod {B fuel : Nat} {p : Pd} {q : PA} {y : DataW H × List MemPlace} (ok : PodOk W p q) (h : DataW.trod enc Tryz.prog W 0 sp hd fuel 66 (podC p q) = some y) (hw : ∀ m ∈ y.1.weights Tryz.prog 66, m ≤ B) : PodSz B p := by
  obtain ⟨f0, y0, g0, w0⟩ := fit_field Tryz.underlying66 h hw 0 _ rfl
  obtain ⟨f4, y4, g4, w4⟩ := fit_field Tryz.underlying66 h hw 4 _ rfl
  obtain ⟨f5, y5, g5, w5⟩ := fit_field Tryz.underlying66 h hw 5 _ rfl
  obtain ⟨f6, y6, g6, w6⟩ := fit_field Tryz.underlying66 h hw 6 _ rfl
  obtain ⟨f7, y7, g7, w7⟩ := fit_field Tryz.underlying66 h hw 7 _ rfl
  obtain ⟨f8, y8, g8, w8⟩ := fit_field Tryz.underlying66 h hw 8 _ rfl
  obtain ⟨f9, y9, g9, w9⟩ := fit_field Tryz.underlying66 h hw 9 _ rfl
  obtain ⟨f11, y11, g11, w11⟩ := fit_field Tryz.underlying66 h hw 11 _ rfl
  obtain ⟨f12, y12, g12, w12⟩ := fit_field Tryz.underlying66 h hw 12 _ rfl
  simp [podC, cells_string, cells_ints, cells_pairs, cells_terms, cells_tolers] at g0 g4 g5 g6 g7 g8 g9 g11 g12
  exact ⟨fit_string Tryz.underlying9 g0 w0, fit_string Tryz.underlying9 g8 w8, fit_string Tryz.underlying9 g12 w12, fit_ints g4 w4, fit_pairs ok.labels rfl g5 w5, fit_terms ok.sel rfl g6 w6, fit_tols g7 w7, fit_terms ok.anti rfl g9 w9, fit_terms ok.even rfl g11 w11⟩
set_option maxRecDepth 40000 in
theorem fit_node {B fuel : Nat} {p : Nd} {q : NA} {y : DataW H × List MemPlace} (ok : NodeOk W p q) (h : DataW.trod enc Tryz.prog W 0 sp hd fuel 68 (nodeC p q) = some y) (hw : ∀ m ∈ y.1.weights Tryz.prog 68, m ≤ B) : NodeSz B p := by
  obtain ⟨f0, y0, g0, w0⟩ := fit_field Tryz.underlying68 h hw 0 _ rfl
  obtain ⟨f2, y2, g2, w2⟩ := fit_field Tryz.underlying68 h hw 2 _ rfl
  obtain ⟨f3, y3, g3, w3⟩ := fit_field Tryz.underlying68 h hw 3 _ rfl
  simp [nodeC, cells_string, cells_pairs, cells_taints] at g0 g2 g3
  exact ⟨fit_string Tryz.underlying9 g0 w0, fit_pairs ok.labels rfl g2 w2, fit_taints ok.taints rfl g3 w3⟩
/-- the size condition, at one argument -/
theorem sized_at {P : Program} {ts : List TypeId} {ds : List (DataW H)} (h : (DataW.weightsEach P ts ds).all (· ≤ reachBytes) = true) {j : Nat} {t : TypeId} {d : DataW H} (ht : ts[j]? = some t) (hd : ds[j]? = some d) : ∀ m ∈ d.weights P t, m ≤ 140737488351232 := fun m hm => by
  have := List.all_eq_true.1 h _ (DataW.weights_mem_each ht hd m hm)
  exact of_decide_eq_true this
end
end Go.Proofs.YthfafenigjldlaaGreat
