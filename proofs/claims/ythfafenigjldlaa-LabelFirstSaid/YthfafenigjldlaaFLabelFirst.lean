/-
  'interrexlaw1.LabelFirst' answers true. No condition.
-/
import Derived.Test.YthfafenigjldlaaLFirst
import Derived.Test.YthfafenigjldlaaBegun2
import Derived.Test.YthfafenigjldlaaOpen1
namespace Go.Proofs.Ythfafenigjldlaa
open Go.ChangeShapes Go.WideShapes Go.ChangeAt Go.RowKit
set_option linter.unusedVariables false

set_option maxRecDepth 100000 in
set_option maxHeartbeats 1000000 in
theorem labelFirst_lifted (os : Os) (started : os.Started) (H : Type) (enc : TypeId × Value → H) :
    ReturnsInHanded {} Try.checked os 6 .any (Rows.labelFirstSpec.pre6 enc Try.prog Try.f6 Rows.labelFirstRow.domain false) (Rows.labelFirstSpec.post enc Try.prog Try.f6 false true false false) := by
  refine returnsInHanded_of_change (C := Try.checked) own started (by kernel_rfl) Try.func6
    (ChangeSpec.witness6 (enc := enc) (C := Try.checked) false ⟨#[], #[.slice none 0 0, .string ⟨#[]⟩, .string ⟨#[]⟩, .string ⟨#[]⟩], []⟩ 8 (by kernel_rfl) (by kernel_rfl) (by kernel_rfl) (by kernel_rfl)) ?_
  intro W base args ds gs before hval0 hW hcnd _
  have hval : ∀ (j : Nat) t v, Try.f6.params[j]? = some t → args[j]? = some v → Value.okWide Try.prog W .any base t v := hval0
  obtain ⟨p, q, hA, hV, rfl, hfz, hnd⟩ := id hW
  have hA' : DataW.TrodAll enc Try.prog W 0 (fun _ => true) true Try.f6.params.toList args.toList ds p := hA
  rw [Try.params6] at hA' hval
  obtain ⟨v0, vs0, d0, ds0, p0, q0, e0, rfl, rfl, h0, hA0⟩ := trodAll_cons hA'
  obtain ⟨v1, vs1, d1, ds1, p1, q1, e1, rfl, rfl, h1, hA1⟩ := trodAll_cons hA0
  obtain ⟨v2, vs2, d2, ds2, p2, q2, e2, rfl, rfl, h2, hA2⟩ := trodAll_cons hA1
  obtain ⟨v3, vs3, d3, ds3, p3, q3, e3, rfl, rfl, h3, hA3⟩ := trodAll_cons hA2
  obtain ⟨e4, rfl, rfl⟩ := trodAll_nil hA3
  obtain rfl : args = #[v0, v1, v2, v3] := by cases args; simp_all
  obtain ⟨A0, l0, c0, rfl⟩ := okWide_slice Try.underlying25 (hval 0 _ _ rfl rfl)
  obtain ⟨fu0, hf0⟩ := h0
  obtain ⟨B0, k0, x0, eq0, le0, lm0, sl0⟩ := open_sl (R := RPair) (size := 2) Try.underlying25 cells_pair (by omega) hf0 el_pair
  obtain ⟨rfl, rfl, rfl⟩ : A0 = B0 ∧ l0 = x0.length ∧ c0 = k0 := by simpa [Value.cells] using eq0
  obtain ⟨x1, rfl, _, _, w1⟩ := Go.ChangeMaps.open_string Try.underlying9 (hval 1 _ _ rfl rfl) h1
  obtain ⟨x2, rfl, _, _, w2⟩ := Go.ChangeMaps.open_string Try.underlying9 (hval 2 _ _ rfl rfl) h2
  obtain ⟨x3, rfl, _, _, w3⟩ := Go.ChangeMaps.open_string Try.underlying9 (hval 3 _ _ rfl rfl) h3
  refine (labelFirst_any (Lib.hid begun_any) A0 c0 x0 x1 x2 x3 W le0 lm0 sl0 w1 w2 w3).mono fun e W' ⟨he, hb⟩ => ?_
  subst he
  exact ⟨_, rfl, law_post laidOut (by decide +kernel) rfl Try.underlying4 rfl rfl hW hb⟩

theorem labelFirst_over : Rows.labelFirstRow.holds Try.pinned (OpenSpec.ofChange Rows.labelFirstSpec) :=
  OpenClaim.holds_of_wide 6 Try.f6 rfl rfl rfl rfl rfl rfl rfl ⟨rfl, rfl, rfl, rfl, rfl⟩ rfl rfl rfl rfl rfl (by kernel_rfl) Try.func6 (by kernel_rfl)
    (of_decide_eq_true (by kernel_rfl)) (by unfold Func.isWrapper; first | (rw [if_pos (by decide +kernel)]; kernel_rfl) | (rw [if_neg (by decide +kernel)]; exact ⟨rfl, rfl⟩))
    (fun os started H enc _ => labelFirst_lifted os started H enc)

theorem labelFirst_holds : Rows.LabelFirstSaid := labelFirst_over
#print axioms labelFirst_holds
end Go.Proofs.Ythfafenigjldlaa
