/-
  'interrexlaw1.LabelAll' answers true. No condition.
-/
import Derived.Test.YthfafenigjldlaaGreatLAll
import Derived.Test.YthfafenigjldlaaGreatGet8
import Derived.Test.YthfafenigjldlaaGreatOpen1
namespace Go.Proofs.YthfafenigjldlaaGreat
open Go.ChangeShapes Go.WideShapes Go.ChangeAt Go.RowKit
set_option linter.unusedVariables false

set_option maxRecDepth 100000 in
set_option maxHeartbeats 1000000 in
theorem labelAll_lifted (os : Os) (started : os.Started) (H : Type) (enc : TypeId × Value → H) :
    ReturnsInHanded {} Tryz.checked os 3 .any (Rows.labelAllSpec.pre6 enc Tryz.prog Tryz.f3 Rows.labelAllRow.domain false) (Rows.labelAllSpec.post enc Tryz.prog Tryz.f3 false true false false) := by
  refine returnsInHanded_of_change (C := Tryz.checked) own started (by kernel_rfl) Tryz.func3
    (ChangeSpec.witness6 (enc := enc) (C := Tryz.checked) false ⟨#[], #[.string ⟨#[]⟩, .slice none 0 0, .slice none 0 0, .string ⟨#[]⟩], []⟩ 8 (by kernel_rfl) (by kernel_rfl) (by kernel_rfl) (by kernel_rfl)) ?_
  intro W base args ds gs before hval0 hW hcnd _
  have hval : ∀ (j : Nat) t v, Tryz.f3.params[j]? = some t → args[j]? = some v → Value.okWide Tryz.prog W .any base t v := hval0
  obtain ⟨p, q, hA, hV, rfl, hfz, hnd⟩ := id hW
  have hA' : DataW.TrodAll enc Tryz.prog W 0 (fun _ => true) true Tryz.f3.params.toList args.toList ds p := hA
  rw [Tryz.params3] at hA' hval
  obtain ⟨v0, vs0, d0, ds0, p0, q0, e0, rfl, rfl, h0, hA0⟩ := trodAll_cons hA'
  obtain ⟨v1, vs1, d1, ds1, p1, q1, e1, rfl, rfl, h1, hA1⟩ := trodAll_cons hA0
  obtain ⟨v2, vs2, d2, ds2, p2, q2, e2, rfl, rfl, h2, hA2⟩ := trodAll_cons hA1
  obtain ⟨v3, vs3, d3, ds3, p3, q3, e3, rfl, rfl, h3, hA3⟩ := trodAll_cons hA2
  obtain ⟨e4, rfl, rfl⟩ := trodAll_nil hA3
  obtain rfl : args = #[v0, v1, v2, v3] := by cases args; simp_all
  obtain ⟨x0, rfl, _, _, w0⟩ := Go.ChangeMaps.open_string Tryz.underlying9 (hval 0 _ _ rfl rfl) h0
  obtain ⟨A1, l1, c1, rfl⟩ := okWide_slice Tryz.underlying22 (hval 1 _ _ rfl rfl)
  obtain ⟨fu1, hf1⟩ := h1
  obtain ⟨B1, k1, x1, eq1, le1, lm1, sl1⟩ := open_sl (R := RPair) (size := 2) Tryz.underlying22 cells_pair (by omega) hf1 el_pair
  obtain ⟨rfl, rfl, rfl⟩ : A1 = B1 ∧ l1 = x1.length ∧ c1 = k1 := by simpa [Value.cells] using eq1
  obtain ⟨A2, l2, c2, rfl⟩ := okWide_slice Tryz.underlying23 (hval 2 _ _ rfl rfl)
  obtain ⟨fu2, hf2⟩ := h2
  obtain ⟨B2, k2, x2, eq2, le2, lm2, sl2⟩ := open_sl (R := RTerm) (size := 3) Tryz.underlying23 cells_term (by omega) hf2 el_term
  obtain ⟨rfl, rfl, rfl⟩ : A2 = B2 ∧ l2 = x2.length ∧ c2 = k2 := by simpa [Value.cells] using eq2
  obtain ⟨x3, rfl, _, _, w3⟩ := Go.ChangeMaps.open_string Tryz.underlying9 (hval 3 _ _ rfl rfl) h3
  refine (labelAll_any (Lib.hid begun_any) x0 A1 c1 x1 A2 c2 x2 x3 W w0 le1 lm1 sl1 le2 lm2 sl2 w3).mono fun e W' ⟨he, hb⟩ => ?_
  subst he
  exact ⟨_, rfl, law_post laidOut (by decide +kernel) rfl Tryz.underlying4 rfl rfl hW hb⟩

theorem labelAll_over : Rows.labelAllRow.holds Tryz.pinned (OpenSpec.ofChange Rows.labelAllSpec) :=
  OpenClaim.holds_of_wide 3 Tryz.f3 rfl rfl rfl rfl rfl rfl rfl ⟨rfl, rfl, rfl, rfl, rfl⟩ rfl rfl rfl rfl rfl (by kernel_rfl) Tryz.func3 (by kernel_rfl)
    (of_decide_eq_true (by kernel_rfl)) (by unfold Func.isWrapper; first | (rw [if_pos (by decide +kernel)]; kernel_rfl) | (rw [if_neg (by decide +kernel)]; exact ⟨rfl, rfl⟩))
    (fun os started H enc _ => labelAll_lifted os started H enc)

theorem labelAll_holds : Rows.LabelAllSaid := labelAll_over
#print axioms labelAll_holds
end Go.Proofs.YthfafenigjldlaaGreat
