/-
  What an amount handed in tells of memory.
-/
import Derived.Test.YthfafenigjldlaaGreatOpen1
import Derived.OpenShut
namespace Go.Proofs.YthfafenigjldlaaGreat
open Go.RowKit Go.ChangeShapes Go.WideShapes Go.ChangeAt
set_option linter.unusedVariables false

theorem okWide_arr {P : Program} {w : World} {r : Reach} {base : Nat} {t : TypeId} {v : Value} {n : Nat} {e : TypeId} (ht : P.underlying t = some (.array n e)) (h : Value.okWide P w r base t v) : ∃ cs, v = .agg cs ∧ cs.size = P.cellsOf t := by
  simp only [Value.okWide, ht] at h
  obtain ⟨cs, h1, h2, _⟩ := h
  exact ⟨cs, h1, h2⟩
section
variable {H : Type} {enc : TypeId × Value → H} {W : World} {sp : Nat → Bool} {hd : Bool}
set_option maxRecDepth 20000 in
theorem el_res (n : Nat) (cs : List Value) (y) (h : DataW.trod enc Tryz.prog W 0 sp hd n 56 cs = some y) (hl : cs.length = 3) : ∃ a, RRes W cs a := by
  obtain ⟨xs, k, _, _, _, hxl, hf⟩ := DataW.trod_array Tryz.underlying56 h
  match cs, hl with
  | [v0, v1, v2], _ =>
    have g0 := hf 0 (by omega)
    have g1 := hf 1 (by omega)
    have g2 := hf 2 (by omega)
    simp [cells_int64] at g0 g1 g2
    match xs, hxl with
    | [y0, y1, y2], _ =>
      simp at g0 g1 g2
      obtain ⟨s0, e0, _, b0⟩ := DataW.trod_int Tryz.underlying2 g0
      obtain ⟨s1, e1, _, b1⟩ := DataW.trod_int Tryz.underlying2 g1
      obtain ⟨s2, e2, _, b2⟩ := DataW.trod_int Tryz.underlying2 g2
      injection e0 with e0; injection e1 with e1; injection e2 with e2
      exact ⟨⟨s0, s1, s2⟩, by rw [e0, e1, e2], bounds_i64 b0, bounds_i64 b1, bounds_i64 b2⟩
end
end Go.Proofs.YthfafenigjldlaaGreat
