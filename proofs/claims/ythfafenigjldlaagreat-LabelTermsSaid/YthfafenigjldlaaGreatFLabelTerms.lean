/-
  'interrexlaw1.LabelTerms' answers true. No condition.
-/
import Derived.Test.YthfafenigjldlaaGreatLTerms
import Derived.Test.YthfafenigjldlaaGreatGet8
import Derived.Test.YthfafenigjldlaaGreatOpen1
namespace Go.Proofs.YthfafenigjldlaaGreat
open Go.ChangeShapes Go.WideShapes Go.ChangeAt Go.RowKit
set_option linter.unusedVariables false

set_option maxRecDepth 100000 in
set_option maxHeartbeats 1000000 in
theorem labelTerms_lifted (os : Os) (started : os.Started) (H : Type) (enc : TypeId × Value → H) :
    ReturnsInHanded {} Tryz.checked os 6 .any (Rows.labelTermsSpec.pre6 enc Tryz.prog Tryz.f6 Rows.labelTermsRow.domain false) (Rows.labelTermsSpec.post enc Tryz.prog Tryz.f6 false true false false) := by
  refine returnsInHanded_of_change (C := Tryz.checked) own started (by kernel_rfl) Tryz.func6
    (ChangeSpec.witness6 (enc := enc) (C := Tryz.checked) false ⟨#[], #[.agg #[.string ⟨#[]⟩, .int .i64 0, .slice none 0 0], .int .i64 0], []⟩ 8 (by kernel_rfl) (by kernel_rfl) (by kernel_rfl) (by kernel_rfl)) ?_
  intro W base args ds gs before hval0 hW hcnd _
  have hval : ∀ (j : Nat) t v, Tryz.f6.params[j]? = some t → args[j]? = some v → Value.okWide Tryz.prog W .any base t v := hval0
  obtain ⟨p, q, hA, hV, rfl, hfz, hnd⟩ := id hW
  have hA' : DataW.TrodAll enc Tryz.prog W 0 (fun _ => true) true Tryz.f6.params.toList args.toList ds p := hA
  rw [Tryz.params6] at hA' hval
  obtain ⟨v0, vs0, d0, ds0, p0, q0, e0, rfl, rfl, h0, hA0⟩ := trodAll_cons hA'
  obtain ⟨v1, vs1, d1, ds1, p1, q1, e1, rfl, rfl, h1, hA1⟩ := trodAll_cons hA0
  obtain ⟨e2, rfl, rfl⟩ := trodAll_nil hA1
  obtain rfl : args = #[v0, v1] := by cases args; simp_all
  obtain ⟨cs0, rfl, sz0⟩ := okWide_struct Tryz.underlying41 (hval 0 _ _ rfl rfl)
  obtain ⟨fu0, hf0⟩ := h0
  obtain ⟨x0, A0, c0, rc0, ra0, rb0, rd0, re0, rg0⟩ := el_term _ _ _ hf0 (by rw [cells_term] at sz0; simpa [Value.cells] using sz0)
  obtain rfl : cs0 = #[.string x0.key, .int .i64 x0.kind, .slice A0 x0.vals.length c0] := by cases cs0; simpa [Value.cells] using rc0
  obtain ⟨x1, rfl, _, _, w1⟩ := open_int Tryz.underlying3 (hval 1 _ _ rfl rfl) h1
  refine (labelTerms_any (Lib.hid begun_any) x0 A0 c0 x1 W ra0 rb0 rd0 re0 rg0 (bounds_i64 w1)).mono fun e W' ⟨he, hb⟩ => ?_
  subst he
  exact ⟨_, rfl, law_post laidOut (by decide +kernel) rfl Tryz.underlying4 rfl rfl hW hb⟩

theorem labelTerms_over : Rows.labelTermsRow.holds Tryz.pinned (OpenSpec.ofChange Rows.labelTermsSpec) :=
  OpenClaim.holds_of_wide 6 Tryz.f6 rfl rfl rfl rfl rfl rfl rfl ⟨rfl, rfl, rfl, rfl, rfl⟩ rfl rfl rfl rfl rfl (by kernel_rfl) Tryz.func6 (by kernel_rfl)
    (of_decide_eq_true (by kernel_rfl)) (by unfold Func.isWrapper; first | (rw [if_pos (by decide +kernel)]; kernel_rfl) | (rw [if_neg (by decide +kernel)]; exact ⟨rfl, rfl⟩))
    (fun os started H enc _ => labelTerms_lifted os started H enc)

theorem labelTerms_holds : Rows.LabelTermsSaid := labelTerms_over
#print axioms labelTerms_holds
end Go.Proofs.YthfafenigjldlaaGreat
