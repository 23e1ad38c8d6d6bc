/-
  'interrexlaw1.ObjPart' holds: for every input the call returns true, and each argument reads as it did. No condition.
-/
import Derived.Test.YthfafenigjldlaaGreatLPart
import Derived.Test.YthfafenigjldlaaGreatGet8
import Derived.Test.YthfafenigjldlaaGreatFits
namespace Go.Proofs.YthfafenigjldlaaGreat
open Go.ChangeShapes Go.WideShapes Go.ChangeAt Go.RowKit
set_option linter.unusedVariables false

set_option maxRecDepth 100000 in
set_option maxHeartbeats 1000000 in
theorem objPart_lifted (os : Os) (started : os.Started) (H : Type) (enc : TypeId × Value → H) :
    ReturnsInHanded {} Tryz.checked os 13 .any (Rows.objPartSpec.pre6 enc Tryz.prog Tryz.f13 Rows.objPartRow.domain false) (Rows.objPartSpec.post enc Tryz.prog Tryz.f13 false true false false) := by
  refine returnsInHanded_of_change_sized (C := Tryz.checked) own started (by kernel_rfl) Tryz.func13
    (ChangeSpec.witness6 (enc := enc) (C := Tryz.checked) false ⟨#[], #[.agg #[.string ⟨#[]⟩, .int .i64 0, .int .i64 0, .int .i64 0, .int .i64 0, .int .i64 0, .slice none 0 0, .slice none 0 0, .slice none 0 0, .slice none 0 0, .string ⟨#[]⟩, .slice none 0 0, .int .i64 0, .slice none 0 0, .string ⟨#[]⟩, .int .i64 0], .agg #[.string ⟨#[]⟩, .int .i64 0, .int .i64 0, .int .i64 0, .slice none 0 0, .slice none 0 0], .int .i64 0], []⟩ 8 (by kernel_rfl) (by kernel_rfl) (by kernel_rfl) (by kernel_rfl)) ?_
  intro W base args ds gs before hval0 hW hcnd hsz _
  have hval : ∀ (j : Nat) t v, Tryz.f13.params[j]? = some t → args[j]? = some v → Value.okWide Tryz.prog W .any base t v := hval0
  obtain ⟨p, q, hA, hV, rfl, hfz, hnd⟩ := id hW
  have hA' : DataW.TrodAll enc Tryz.prog W 0 (fun _ => true) true Tryz.f13.params.toList args.toList ds p := hA
  rw [Tryz.params13] at hA' hval
  obtain ⟨v0, vs0, d0, ds0, p0, q0, e0, rfl, rfl, h0, hA0⟩ := trodAll_cons hA'
  obtain ⟨v1, vs1, d1, ds1, p1, q1, e1, rfl, rfl, h1, hA1⟩ := trodAll_cons hA0
  obtain ⟨v2, vs2, d2, ds2, p2, q2, e2, rfl, rfl, h2, hA2⟩ := trodAll_cons hA1
  obtain ⟨e3, rfl, rfl⟩ := trodAll_nil hA2
  obtain rfl : args = #[v0, v1, v2] := by cases args; simp_all
  obtain ⟨cs0, rfl, sz0⟩ := okWide_struct Tryz.underlying66 (hval 0 _ _ rfl rfl)
  obtain ⟨fu0, hf0⟩ := h0
  obtain ⟨x0, q0x, rc0, ok0⟩ := el_pod _ _ _ hf0 (by rw [cells_pod] at sz0; simpa [Value.cells] using sz0)
  obtain rfl : cs0 = (podC x0 q0x).toArray := by cases cs0; simpa [Value.cells] using rc0
  obtain ⟨cs1, rfl, sz1⟩ := okWide_struct Tryz.underlying68 (hval 1 _ _ rfl rfl)
  obtain ⟨fu1, hf1⟩ := h1
  obtain ⟨x1, q1x, rc1, ok1⟩ := el_node _ _ _ hf1 (by rw [cells_node] at sz1; simpa [Value.cells] using sz1)
  obtain rfl : cs1 = (nodeC x1 q1x).toArray := by cases cs1; simpa [Value.cells] using rc1
  obtain ⟨x2, rfl, _, _, w2⟩ := open_int Tryz.underlying3 (hval 2 _ _ rfl rfl) h2
  refine (objPart_any (Lib.hid begun_any) x0 q0x x1 q1x x2 W ok0 ok1 (bounds_i64 w2) (fit_pod ok0 hf0 (sized_at hsz (j := 0) rfl rfl)) (fit_node ok1 hf1 (sized_at hsz (j := 1) rfl rfl))).mono fun e W' ⟨he, hb⟩ => ?_
  subst he
  exact ⟨_, rfl, law_post laidOut (by decide +kernel) rfl Tryz.underlying4 rfl rfl hW hb⟩

theorem objPart_over : Rows.objPartRow.holds Tryz.pinned (OpenSpec.ofChange Rows.objPartSpec) :=
  OpenClaim.holds_of_wide 13 Tryz.f13 rfl rfl rfl rfl rfl rfl rfl ⟨rfl, rfl, rfl, rfl, rfl⟩ rfl rfl rfl rfl rfl (by kernel_rfl) Tryz.func13 (by kernel_rfl)
    (of_decide_eq_true (by kernel_rfl)) (by unfold Func.isWrapper; first | (rw [if_pos (by decide +kernel)]; kernel_rfl) | (rw [if_neg (by decide +kernel)]; exact ⟨rfl, rfl⟩))
    (fun os started H enc _ => objPart_lifted os started H enc)

theorem objPart_holds : Rows.ObjPartSaid := objPart_over
#print axioms objPart_holds
end Go.Proofs.YthfafenigjldlaaGreat
