/-
  The last step of each law's proof, for any number of parameters: a call that answers true and leaves all that was there as it was meets the law's specification. Conditions: the parameter types can be read, the spec answers [true] and hands the arguments back.
-/
import Derived.Test.YthfafenigjldlaaGreatRows
import Derived.WalkKit
import Derived.ProofKit
import Derived.OpenShut
import Derived.ShutString
import Derived.ChangeOld
import Derived.Below
import Derived.Test.YthfafenigjldlaaGreatMem
import Derived.Deep.Slices
namespace Go.Proofs.YthfafenigjldlaaGreat
open Go.ChangeShapes Go.WideShapes Go.ChangeAt Go.RowKit

theorem trodAll_lt {H : Type} {enc : TypeId × Value → H} {P : Program} {w : World} {base : Nat} {sp : Nat → Bool} {held : Bool} :
    ∀ (ts : List TypeId) (vs : List Value) (ds : List (DataW H)) (ps : List MemPlace), DataW.TrodAll enc P w base sp held ts vs ds ps → ∀ p ∈ ps, p.block < w.heap.size
  | [], vs, ds, ps, h => by obtain ⟨_, _, rfl⟩ := trodAll_nil h; intro p hp; cases hp
  | t :: ts, vs, ds, ps, h => by
    obtain ⟨v, vs', d, ds', p, q, rfl, rfl, rfl, h0, h1⟩ := trodAll_cons h
    intro x hx
    rcases List.mem_append.1 hx with hx | hx
    · obtain ⟨m, hm⟩ := h0
      exact DataW.trod_lt m _ _ _ hm x hx
    · exact trodAll_lt ts vs' ds' q h1 x hx

theorem trodAll_stays {H : Type} {enc : TypeId × Value → H} {P : Program} (hl : laidOutB P = true) {W W' : World} {sp' : Nat → Bool} (hb : Below W.heap.size W W') :
    ∀ (ts : List TypeId) (vs : List Value) (ds : List (DataW H)) (ps : List MemPlace), (∀ t ∈ ts, P.readableRec t = true ∧ t < P.types.size) →
      DataW.TrodAll enc P W 0 (fun _ => true) true ts vs ds ps → (∀ p ∈ ps, sp' p.block = true) → DataW.TrodAll enc P W' 0 sp' true ts vs ds ps
  | [], vs, ds, ps, _, h, _ => by obtain ⟨rfl, rfl, rfl⟩ := trodAll_nil h; exact trodAll_mk0
  | t :: ts, vs, ds, ps, hr, h, hs => by
    have hlt := trodAll_lt _ _ _ _ h
    obtain ⟨v, vs', d, ds', p, q, rfl, rfl, rfl, h0, h1⟩ := trodAll_cons h
    have h2 := hr t (by simp)
    exact trodAll_cons_mk (WideElems.Trod_stays hl h2.1 h2.2 h0 (fun x hx => hb.same (hlt x (by simp [hx]))) (fun x hx => hs x (by simp [hx])))
      (trodAll_stays hl hb ts vs' ds' q (fun t ht => hr t (by simp [ht])) h1 (fun x hx => hs x (by simp [hx])))

/-- WHAT IS HANDED ON: the call answered true, nothing that was there has turned: the specification's 'post' holds. -/
theorem law_post {H : Type} {enc : TypeId × Value → H} {P : Program} {f : Func} {s : ChangeSpec} {W W' : World} {args : Array Value} {ds gs : List (DataW H)} {before : List MemPlace} {tb : TypeId}
    (hl : laidOutB P = true) (hr : ∀ t ∈ f.params.toList, P.readableRec t = true ∧ t < P.types.size) (hrt : f.resultTypes = #[tb]) (htb : P.underlying tb = some .bool)
    (hsv : s.vars = []) (hsf : s.fn H ds = { results := [.lit (.bool true)], args := ds })
    (hW : DataW.Whole enc P f.params.toList s.vars false W args.toList ds gs before) (hb : Below W.heap.size W W') :
    s.post enc P f false true false false W args (.bool true) W' := by
  have hW' := hW
  obtain ⟨p, q, hA, hV, rfl, hfz, hnd⟩ := hW
  rw [hsv] at hV
  obtain ⟨rfl, rfl⟩ : gs = [] ∧ q = [] := trodVars_none hV
  have hlt := trodAll_lt _ _ _ _ hA
  refine ⟨ds, [], p ++ [], [], p, [], hW', ?_, ?_, ?_, World.keptBut_mono (fun x hx => ⟨hx, ?_⟩) (hb.frame (· ∈ p ++ [])), fun h => by cases h⟩
  · rw [List.append_nil, hsf, hrt]
    exact trodAll_cons_mk (shut_bool htb _) trodAll_mk0
  · rw [List.append_nil, hsf]
    exact trodAll_stays hl hb _ _ _ _ hr hA (fun x hx => by simpa using hlt x hx)
  · rw [List.append_nil, hsf, hsv]
    rfl
  · simp at hx; simp [hx]

theorem own : ownKnob Tryz.prog.godebug = none := by kernel_rfl
theorem laidOut : laidOutB Tryz.prog = true := by kernel_rfl
end Go.Proofs.YthfafenigjldlaaGreat

/-
  What an argument's reading tells of memory: slices of strings, pairs, tolerations, terms as lists.
-/
namespace Go.Proofs.YthfafenigjldlaaGreat
open Go.RowKit Go.ChangeShapes Go.WideShapes Go.ChangeAt
set_option linter.unusedVariables false

section
variable {H : Type} {enc : TypeId × Value → H} {W : World} {sp : Nat → Bool} {hd : Bool}

theorem list_of {α : Type} {p : Nat → α → Prop} : ∀ n, (∀ i, i < n → ∃ x, p i x) → ∃ xs : List α, xs.length = n ∧ ∀ k x, xs[k]? = some x → p k x
  | 0, _ => ⟨[], rfl, fun k x h => by simp at h⟩
  | n + 1, h => by
    obtain ⟨xs, h1, h2⟩ := list_of n (fun i hi => h i (by omega))
    obtain ⟨x, hx⟩ := h n (by omega)
    refine ⟨xs ++ [x], by simp [h1], fun k y hy => ?_⟩
    rcases Nat.lt_or_ge k xs.length with hl | hl
    · rw [List.getElem?_append_left hl] at hy
      exact h2 k y hy
    · have hk : k = n := by
        have := (List.getElem?_eq_some_iff.1 hy).1
        simp at this; omega
      subst hk
      rw [List.getElem?_append_right hl, h1] at hy
      obtain rfl : x = y := by simpa using hy
      exact hx
theorem add_none (b o n : Nat) : (⟨b, o, none⟩ : Addr).add n = ⟨b, o + n, none⟩ := by unfold Addr.add; split <;> simp_all
theorem open_sl {α : Type} {R : World → List Value → α → Prop} {t e : TypeId} {size fuel : Nat} {cs : List Value} {x : DataW H × List MemPlace} (ht : Tryz.prog.underlying t = some (.slice e)) (hc : Tryz.prog.cellsOf e = size) (hs : 0 < size)
    (h : DataW.trod enc Tryz.prog W 0 sp hd fuel t cs = some x) (el : ∀ n cs' y, DataW.trod enc Tryz.prog W 0 sp hd n e cs' = some y → cs'.length = size → ∃ a : α, R W cs' a) :
    ∃ A c, ∃ xs : List α, cs = [.slice A xs.length c] ∧ xs.length ≤ c ∧ c ≤ maxLen ∧ Sl R size W A xs := by
  rcases Go.Deep.open_slice ht h with ⟨rfl, _⟩ | ⟨a, len, cap, m, n, D, Pl, rfl, hb, hl, hm, hmm, rfl, hx⟩
  · exact ⟨none, 0, [], rfl, by simp, by simp [maxLen], Sl.nil⟩
  · rw [hc] at hx
    have hlm : len ≤ m := by rw [hmm]; split <;> omega
    obtain ⟨xs, h1, h2⟩ := list_of (α := α) (p := fun i x => ∃ cs', W.cells? 0 (a.add (i * size)) size = some cs' ∧ cs'.length = size ∧ R W cs' x) len (fun i hi => by
      obtain ⟨cs', e1, e2⟩ := hx i (by omega)
      obtain ⟨_, e3, _⟩ := World.cells?_some e1
      obtain ⟨x, e4⟩ := el n cs' _ e2 e3
      exact ⟨x, cs', e1, e3, e4⟩)
    refine ⟨some a, cap, xs, by rw [h1], by omega, hm, fun k x hk => ?_⟩
    obtain ⟨cs', e1, e3, e4⟩ := h2 k x hk
    obtain ⟨_, _, hcell⟩ := World.cells?_some e1
    have hspot : a.spot = none := by
      obtain ⟨cs0, e10, e30⟩ := hx 0 (by have := (List.getElem?_eq_some_iff.1 hk).1; omega)
      obtain ⟨_, l0, c0⟩ := World.cells?_some e10
      have := c0 0 hs
      rw [List.getElem?_eq_getElem (by omega)] at this
      have := World.cell?_spot this
      simpa [Addr.add] using this
    obtain ⟨b, o, spot⟩ := a
    subst hspot
    refine ⟨b, o, cs', rfl, e3, fun j u hu => ?_, e4⟩
    have hj : j < size := by have := (List.getElem?_eq_some_iff.1 hu).1; omega
    have := hcell j hj
    rw [hu, add_none, add_none] at this
    exact this
theorem cells_bool : Tryz.prog.cellsOf 4 = 1 := by kernel_rfl
theorem cells_string : Tryz.prog.cellsOf 9 = 1 := by kernel_rfl
theorem cells_int : Tryz.prog.cellsOf 3 = 1 := by kernel_rfl
theorem cells_int64 : Tryz.prog.cellsOf 2 = 1 := by kernel_rfl
theorem cells_pair : Tryz.prog.cellsOf 37 = 2 := by kernel_rfl
theorem cells_taint : Tryz.prog.cellsOf 53 = 2 := by kernel_rfl
theorem cells_toler : Tryz.prog.cellsOf 52 = 3 := by kernel_rfl
theorem cells_strings : Tryz.prog.cellsOf 39 = 1 := by kernel_rfl
theorem cells_term : Tryz.prog.cellsOf 41 = 3 := by kernel_rfl
theorem cells_res : Tryz.prog.cellsOf 56 = 3 := by kernel_rfl

theorem el_string (n : Nat) (cs : List Value) (y) (h : DataW.trod enc Tryz.prog W 0 sp hd n 9 cs = some y) (hl : cs.length = 1) : ∃ a, RStr W cs a := by
  obtain ⟨s, rfl, _, h2⟩ := DataW.trod_string Tryz.underlying9 h
  exact ⟨s, rfl, h2⟩
theorem el_int (n : Nat) (cs : List Value) (y) (h : DataW.trod enc Tryz.prog W 0 sp hd n 3 cs = some y) (hl : cs.length = 1) : ∃ a, RInt W cs a := by
  obtain ⟨s, rfl, _, h2⟩ := DataW.trod_int Tryz.underlying3 h
  exact ⟨s, rfl, bounds_i64 h2⟩
set_option maxRecDepth 20000 in
theorem el_pair (n : Nat) (cs : List Value) (y) (h : DataW.trod enc Tryz.prog W 0 sp hd n 37 cs = some y) (hl : cs.length = 2) : ∃ a, RPair W cs a := by
  obtain ⟨xs, k, _, _, _, hxl, hf⟩ := DataW.trod_struct Tryz.underlying37 h
  match cs, hl with
  | [v0, v1], _ =>
    have g0 := hf 0 _ rfl
    have g1 := hf 1 _ rfl
    simp [cells_string] at g0 g1
    match xs, hxl with
    | [y0, y1], _ =>
      simp at g0 g1
      obtain ⟨s0, e0, _, b0⟩ := DataW.trod_string Tryz.underlying9 g0
      obtain ⟨s1, e1, _, b1⟩ := DataW.trod_string Tryz.underlying9 g1
      injection e0 with e0; injection e1 with e1
      exact ⟨⟨s0, s1⟩, by rw [e0, e1], b0, b1⟩
set_option maxRecDepth 20000 in
theorem el_taint (n : Nat) (cs : List Value) (y) (h : DataW.trod enc Tryz.prog W 0 sp hd n 53 cs = some y) (hl : cs.length = 2) : ∃ a, RPair W cs a := by
  obtain ⟨xs, k, _, _, _, hxl, hf⟩ := DataW.trod_struct Tryz.underlying53 h
  match cs, hl with
  | [v0, v1], _ =>
    have g0 := hf 0 _ rfl
    have g1 := hf 1 _ rfl
    simp [cells_string] at g0 g1
    match xs, hxl with
    | [y0, y1], _ =>
      simp at g0 g1
      obtain ⟨s0, e0, _, b0⟩ := DataW.trod_string Tryz.underlying9 g0
      obtain ⟨s1, e1, _, b1⟩ := DataW.trod_string Tryz.underlying9 g1
      injection e0 with e0; injection e1 with e1
      exact ⟨⟨s0, s1⟩, by rw [e0, e1], b0, b1⟩
set_option maxRecDepth 20000 in
theorem el_toler (n : Nat) (cs : List Value) (y) (h : DataW.trod enc Tryz.prog W 0 sp hd n 52 cs = some y) (hl : cs.length = 3) : ∃ a, RTol W cs a := by
  obtain ⟨xs, k, _, _, _, hxl, hf⟩ := DataW.trod_struct Tryz.underlying52 h
  match cs, hl with
  | [v0, v1, v2], _ =>
    have g0 := hf 0 _ rfl
    have g1 := hf 1 _ rfl
    have g2 := hf 2 _ rfl
    simp [cells_string, cells_bool] at g0 g1 g2
    match xs, hxl with
    | [y0, y1, y2], _ =>
      simp at g0 g1 g2
      obtain ⟨s0, e0, _, b0⟩ := DataW.trod_string Tryz.underlying9 g0
      obtain ⟨s1, e1, _, b1⟩ := DataW.trod_string Tryz.underlying9 g1
      obtain ⟨s2, e2, _⟩ := DataW.trod_bool Tryz.underlying4 g2
      injection e0 with e0; injection e1 with e1; injection e2 with e2
      exact ⟨⟨s0, s1, s2⟩, by rw [e0, e1, e2], b0, b1⟩
set_option maxRecDepth 20000 in
theorem el_term (n : Nat) (cs : List Value) (y) (h : DataW.trod enc Tryz.prog W 0 sp hd n 41 cs = some y) (hl : cs.length = 3) : ∃ a, RTerm W cs a := by
  obtain ⟨xs, k, _, _, _, hxl, hf⟩ := DataW.trod_struct Tryz.underlying41 h
  match cs, hl with
  | [v0, v1, v2], _ =>
    have g0 := hf 0 _ rfl
    have g1 := hf 1 _ rfl
    have g2 := hf 2 _ rfl
    simp [cells_string, cells_int, cells_strings] at g0 g1 g2
    match xs, hxl with
    | [y0, y1, y2], _ =>
      simp at g0 g1 g2
      obtain ⟨s0, e0, _, b0⟩ := DataW.trod_string Tryz.underlying9 g0
      obtain ⟨s1, e1, _, b1⟩ := DataW.trod_int Tryz.underlying3 g1
      obtain ⟨A, c, vs, e2, l1, l2, hv⟩ := open_sl (R := RStr) Tryz.underlying39 cells_string (by omega) g2 el_string
      injection e0 with e0; injection e1 with e1; injection e2 with e2
      exact ⟨⟨s0, s1, vs⟩, A, c, by rw [e0, e1, e2], b0, bounds_i64 b1, l1, l2, hv⟩
end
end Go.Proofs.YthfafenigjldlaaGreat
