/-
  'interrexlaw1.LabelOther' answers true. No condition.
-/
import Derived.Test.YthfafenigjldlaaLOther
import Derived.Test.YthfafenigjldlaaBegun2
import Derived.Test.YthfafenigjldlaaOpen1
namespace Go.Proofs.Ythfafenigjldlaa
open Go.ChangeShapes Go.WideShapes Go.ChangeAt Go.RowKit
set_option linter.unusedVariables false

set_option maxRecDepth 100000 in
set_option maxHeartbeats 1000000 in
theorem labelOther_lifted (os : Os) (started : os.Started) (H : Type) (enc : TypeId × Value → H) :
    ReturnsInHanded {} Try.checked os 4 .any (Rows.labelOtherSpec.pre6 enc Try.prog Try.f4 Rows.labelOtherRow.domain false) (Rows.labelOtherSpec.post enc Try.prog Try.f4 false true false false) := by
  refine returnsInHanded_of_change (C := Try.checked) own started (by kernel_rfl) Try.func4
    (ChangeSpec.witness6 (enc := enc) (C := Try.checked) false ⟨#[], #[.slice none 0 0, .string ⟨#[]⟩, .slice none 0 0], []⟩ 8 (by kernel_rfl) (by kernel_rfl) (by kernel_rfl) (by kernel_rfl)) ?_
  intro W base args ds gs before hval0 hW hcnd _
  have hval : ∀ (j : Nat) t v, Try.f4.params[j]? = some t → args[j]? = some v → Value.okWide Try.prog W .any base t v := hval0
  obtain ⟨p, q, hA, hV, rfl, hfz, hnd⟩ := id hW
  have hA' : DataW.TrodAll enc Try.prog W 0 (fun _ => true) true Try.f4.params.toList args.toList ds p := hA
  rw [Try.params4] at hA' hval
  obtain ⟨v0, vs0, d0, ds0, p0, q0, e0, rfl, rfl, h0, hA0⟩ := trodAll_cons hA'
  obtain ⟨v1, vs1, d1, ds1, p1, q1, e1, rfl, rfl, h1, hA1⟩ := trodAll_cons hA0
  obtain ⟨v2, vs2, d2, ds2, p2, q2, e2, rfl, rfl, h2, hA2⟩ := trodAll_cons hA1
  obtain ⟨e3, rfl, rfl⟩ := trodAll_nil hA2
  obtain rfl : args = #[v0, v1, v2] := by cases args; simp_all
  obtain ⟨A0, l0, c0, rfl⟩ := okWide_slice Try.underlying25 (hval 0 _ _ rfl rfl)
  obtain ⟨fu0, hf0⟩ := h0
  obtain ⟨B0, k0, x0, eq0, le0, lm0, sl0⟩ := open_sl (R := RPair) (size := 2) Try.underlying25 cells_pair (by omega) hf0 el_pair
  obtain ⟨rfl, rfl, rfl⟩ : A0 = B0 ∧ l0 = x0.length ∧ c0 = k0 := by simpa [Value.cells] using eq0
  obtain ⟨x1, rfl, _, _, w1⟩ := Go.ChangeMaps.open_string Try.underlying9 (hval 1 _ _ rfl rfl) h1
  obtain ⟨A2, l2, c2, rfl⟩ := okWide_slice Try.underlying26 (hval 2 _ _ rfl rfl)
  obtain ⟨fu2, hf2⟩ := h2
  obtain ⟨B2, k2, x2, eq2, le2, lm2, sl2⟩ := open_sl (R := RStr) (size := 1) Try.underlying26 cells_string (by omega) hf2 el_string
  obtain ⟨rfl, rfl, rfl⟩ : A2 = B2 ∧ l2 = x2.length ∧ c2 = k2 := by simpa [Value.cells] using eq2
  refine (labelOther_any (Lib.hid begun_any) A0 c0 x0 x1 A2 c2 x2 W le0 lm0 sl0 w1 le2 lm2 sl2).mono fun e W' ⟨he, hb⟩ => ?_
  subst he
  exact ⟨_, rfl, law_post laidOut (by decide +kernel) rfl Try.underlying4 rfl rfl hW hb⟩

theorem labelOther_over : Rows.labelOtherRow.holds Try.pinned (OpenSpec.ofChange Rows.labelOtherSpec) :=
  OpenClaim.holds_of_wide 4 Try.f4 rfl rfl rfl rfl rfl rfl rfl ⟨rfl, rfl, rfl, rfl, rfl⟩ rfl rfl rfl rfl rfl (by kernel_rfl) Try.func4 (by kernel_rfl)
    (of_decide_eq_true (by kernel_rfl)) (by unfold Func.isWrapper; first | (rw [if_pos (by decide +kernel)]; kernel_rfl) | (rw [if_neg (by decide +kernel)]; exact ⟨rfl, rfl⟩))
    (fun os started H enc _ => labelOther_lifted os started H enc)

theorem labelOther_holds : Rows.LabelOtherSaid := labelOther_over
#print axioms labelOther_holds
end Go.Proofs.Ythfafenigjldlaa
