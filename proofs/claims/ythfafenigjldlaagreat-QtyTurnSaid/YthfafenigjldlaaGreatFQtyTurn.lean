/-
  'interrexlaw1.QtyTurn' answers true. No condition.
-/
import Derived.Test.YthfafenigjldlaaGreatLQTurn
import Derived.Test.YthfafenigjldlaaGreatGet8
import Derived.Test.YthfafenigjldlaaGreatOpen2
namespace Go.Proofs.YthfafenigjldlaaGreat
open Go.ChangeShapes Go.WideShapes Go.ChangeAt Go.RowKit
set_option linter.unusedVariables false

set_option maxRecDepth 100000 in
set_option maxHeartbeats 1000000 in
theorem qtyTurn_lifted (os : Os) (started : os.Started) (H : Type) (enc : TypeId × Value → H) :
    ReturnsInHanded {} Tryz.checked os 9 .any (Rows.qtyTurnSpec.pre6 enc Tryz.prog Tryz.f9 Rows.qtyTurnRow.domain false) (Rows.qtyTurnSpec.post enc Tryz.prog Tryz.f9 false true false false) := by
  refine returnsInHanded_of_change (C := Tryz.checked) own started (by kernel_rfl) Tryz.func9
    (ChangeSpec.witness6 (enc := enc) (C := Tryz.checked) false ⟨#[], #[.agg #[.int .i64 0, .int .i64 0, .int .i64 0], .agg #[.int .i64 0, .int .i64 0, .int .i64 0], .agg #[.int .i64 0, .int .i64 0, .int .i64 0]], []⟩ 8 (by kernel_rfl) (by kernel_rfl) (by kernel_rfl) (by kernel_rfl)) ?_
  intro W base args ds gs before hval0 hW hcnd _
  have hval : ∀ (j : Nat) t v, Tryz.f9.params[j]? = some t → args[j]? = some v → Value.okWide Tryz.prog W .any base t v := hval0
  obtain ⟨p, q, hA, hV, rfl, hfz, hnd⟩ := id hW
  have hA' : DataW.TrodAll enc Tryz.prog W 0 (fun _ => true) true Tryz.f9.params.toList args.toList ds p := hA
  rw [Tryz.params9] at hA' hval
  obtain ⟨v0, vs0, d0, ds0, p0, q0, e0, rfl, rfl, h0, hA0⟩ := trodAll_cons hA'
  obtain ⟨v1, vs1, d1, ds1, p1, q1, e1, rfl, rfl, h1, hA1⟩ := trodAll_cons hA0
  obtain ⟨v2, vs2, d2, ds2, p2, q2, e2, rfl, rfl, h2, hA2⟩ := trodAll_cons hA1
  obtain ⟨e3, rfl, rfl⟩ := trodAll_nil hA2
  obtain rfl : args = #[v0, v1, v2] := by cases args; simp_all
  obtain ⟨cs0, rfl, sz0⟩ := okWide_arr Tryz.underlying56 (hval 0 _ _ rfl rfl)
  obtain ⟨fu0, hf0⟩ := h0
  obtain ⟨x0, rc0, ro0⟩ := el_res _ _ _ hf0 (by rw [cells_res] at sz0; simpa [Value.cells] using sz0)
  obtain rfl : cs0 = #[.int .i64 x0.a, .int .i64 x0.b, .int .i64 x0.c] := by cases cs0; simpa [Value.cells] using rc0
  obtain ⟨cs1, rfl, sz1⟩ := okWide_arr Tryz.underlying56 (hval 1 _ _ rfl rfl)
  obtain ⟨fu1, hf1⟩ := h1
  obtain ⟨x1, rc1, ro1⟩ := el_res _ _ _ hf1 (by rw [cells_res] at sz1; simpa [Value.cells] using sz1)
  obtain rfl : cs1 = #[.int .i64 x1.a, .int .i64 x1.b, .int .i64 x1.c] := by cases cs1; simpa [Value.cells] using rc1
  obtain ⟨cs2, rfl, sz2⟩ := okWide_arr Tryz.underlying56 (hval 2 _ _ rfl rfl)
  obtain ⟨fu2, hf2⟩ := h2
  obtain ⟨x2, rc2, ro2⟩ := el_res _ _ _ hf2 (by rw [cells_res] at sz2; simpa [Value.cells] using sz2)
  obtain rfl : cs2 = #[.int .i64 x2.a, .int .i64 x2.b, .int .i64 x2.c] := by cases cs2; simpa [Value.cells] using rc2
  refine (qtyTurn_any (Lib.hid begun_any) x0 x1 x2 W ro0 ro1 ro2).mono fun e W' ⟨he, hb⟩ => ?_
  subst he
  exact ⟨_, rfl, law_post laidOut (by decide +kernel) rfl Tryz.underlying4 rfl rfl hW hb⟩

theorem qtyTurn_over : Rows.qtyTurnRow.holds Tryz.pinned (OpenSpec.ofChange Rows.qtyTurnSpec) :=
  OpenClaim.holds_of_wide 9 Tryz.f9 rfl rfl rfl rfl rfl rfl rfl ⟨rfl, rfl, rfl, rfl, rfl⟩ rfl rfl rfl rfl rfl (by kernel_rfl) Tryz.func9 (by kernel_rfl)
    (of_decide_eq_true (by kernel_rfl)) (by unfold Func.isWrapper; first | (rw [if_pos (by decide +kernel)]; kernel_rfl) | (rw [if_neg (by decide +kernel)]; exact ⟨rfl, rfl⟩))
    (fun os started H enc _ => qtyTurn_lifted os started H enc)

theorem qtyTurn_holds : Rows.QtyTurnSaid := qtyTurn_over
#print axioms qtyTurn_holds
end Go.Proofs.YthfafenigjldlaaGreat
