/-
  'interrexlaw1.LabelMore' answers true. No condition.
-/
import Derived.Test.YthfafenigjldlaaLLMore
import Derived.Test.YthfafenigjldlaaBegun2
import Derived.Test.YthfafenigjldlaaOpen1
namespace Go.Proofs.Ythfafenigjldlaa
open Go.ChangeShapes Go.WideShapes Go.ChangeAt Go.RowKit
set_option linter.unusedVariables false

set_option maxRecDepth 100000 in
set_option maxHeartbeats 1000000 in
theorem labelMore_lifted (os : Os) (started : os.Started) (H : Type) (enc : TypeId × Value → H) :
    ReturnsInHanded {} Try.checked os 7 .any (Rows.labelMoreSpec.pre6 enc Try.prog Try.f7 Rows.labelMoreRow.domain false) (Rows.labelMoreSpec.post enc Try.prog Try.f7 false true false false) := by
  refine returnsInHanded_of_change (C := Try.checked) own started (by kernel_rfl) Try.func7
    (ChangeSpec.witness6 (enc := enc) (C := Try.checked) false ⟨#[], #[.slice none 0 0, .slice none 0 0, .agg #[.string ⟨#[]⟩, .string ⟨#[]⟩]], []⟩ 8 (by kernel_rfl) (by kernel_rfl) (by kernel_rfl) (by kernel_rfl)) ?_
  intro W base args ds gs before hval0 hW hcnd _
  have hval : ∀ (j : Nat) t v, Try.f7.params[j]? = some t → args[j]? = some v → Value.okWide Try.prog W .any base t v := hval0
  obtain ⟨p, q, hA, hV, rfl, hfz, hnd⟩ := id hW
  have hA' : DataW.TrodAll enc Try.prog W 0 (fun _ => true) true Try.f7.params.toList args.toList ds p := hA
  rw [Try.params7] at hA' hval
  obtain ⟨v0, vs0, d0, ds0, p0, q0, e0, rfl, rfl, h0, hA0⟩ := trodAll_cons hA'
  obtain ⟨v1, vs1, d1, ds1, p1, q1, e1, rfl, rfl, h1, hA1⟩ := trodAll_cons hA0
  obtain ⟨v2, vs2, d2, ds2, p2, q2, e2, rfl, rfl, h2, hA2⟩ := trodAll_cons hA1
  obtain ⟨e3, rfl, rfl⟩ := trodAll_nil hA2
  obtain rfl : args = #[v0, v1, v2] := by cases args; simp_all
  obtain ⟨A0, l0, c0, rfl⟩ := okWide_slice Try.underlying30 (hval 0 _ _ rfl rfl)
  obtain ⟨fu0, hf0⟩ := h0
  obtain ⟨B0, k0, x0, eq0, le0, lm0, sl0⟩ := open_sl (R := RTerm) (size := 3) Try.underlying30 cells_term (by omega) hf0 el_term
  obtain ⟨rfl, rfl, rfl⟩ : A0 = B0 ∧ l0 = x0.length ∧ c0 = k0 := by simpa [Value.cells] using eq0
  obtain ⟨A1, l1, c1, rfl⟩ := okWide_slice Try.underlying25 (hval 1 _ _ rfl rfl)
  obtain ⟨fu1, hf1⟩ := h1
  obtain ⟨B1, k1, x1, eq1, le1, lm1, sl1⟩ := open_sl (R := RPair) (size := 2) Try.underlying25 cells_pair (by omega) hf1 el_pair
  obtain ⟨rfl, rfl, rfl⟩ : A1 = B1 ∧ l1 = x1.length ∧ c1 = k1 := by simpa [Value.cells] using eq1
  obtain ⟨cs2, rfl, sz2⟩ := okWide_struct Try.underlying34 (hval 2 _ _ rfl rfl)
  obtain ⟨fu2, hf2⟩ := h2
  obtain ⟨x2, rc2, ra2, rb2⟩ := el_pair _ _ _ hf2 (by rw [cells_pair] at sz2; simpa [Value.cells] using sz2)
  obtain rfl : cs2 = #[.string x2.key, .string x2.val] := by cases cs2; simpa [Value.cells] using rc2
  refine (labelMore_any (Lib.hid begun_any) A0 c0 x0 A1 c1 x1 x2 W le0 lm0 sl0 le1 lm1 sl1 ⟨ra2, rb2⟩).mono fun e W' ⟨he, hb⟩ => ?_
  subst he
  exact ⟨_, rfl, law_post laidOut (by decide +kernel) rfl Try.underlying4 rfl rfl hW hb⟩

theorem labelMore_over : Rows.labelMoreRow.holds Try.pinned (OpenSpec.ofChange Rows.labelMoreSpec) :=
  OpenClaim.holds_of_wide 7 Try.f7 rfl rfl rfl rfl rfl rfl rfl ⟨rfl, rfl, rfl, rfl, rfl⟩ rfl rfl rfl rfl rfl (by kernel_rfl) Try.func7 (by kernel_rfl)
    (of_decide_eq_true (by kernel_rfl)) (by unfold Func.isWrapper; first | (rw [if_pos (by decide +kernel)]; kernel_rfl) | (rw [if_neg (by decide +kernel)]; exact ⟨rfl, rfl⟩))
    (fun os started H enc _ => labelMore_lifted os started H enc)

theorem labelMore_holds : Rows.LabelMoreSaid := labelMore_over
#print axioms labelMore_holds
end Go.Proofs.Ythfafenigjldlaa
