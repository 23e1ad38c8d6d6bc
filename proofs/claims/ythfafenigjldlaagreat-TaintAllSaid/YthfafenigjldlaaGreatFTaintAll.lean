/-
  'interrexlaw1.TaintAll' answers true. No condition.
-/
import Derived.Test.YthfafenigjldlaaGreatLTAll
import Derived.Test.YthfafenigjldlaaGreatGet8
import Derived.Test.YthfafenigjldlaaGreatOpen1
namespace Go.Proofs.YthfafenigjldlaaGreat
open Go.ChangeShapes Go.WideShapes Go.ChangeAt Go.RowKit
set_option linter.unusedVariables false

set_option maxRecDepth 100000 in
set_option maxHeartbeats 1000000 in
theorem taintAll_lifted (os : Os) (started : os.Started) (H : Type) (enc : TypeId × Value → H) :
    ReturnsInHanded {} Tryz.checked os 8 .any (Rows.taintAllSpec.pre6 enc Tryz.prog Tryz.f8 Rows.taintAllRow.domain false) (Rows.taintAllSpec.post enc Tryz.prog Tryz.f8 false true false false) := by
  refine returnsInHanded_of_change (C := Tryz.checked) own started (by kernel_rfl) Tryz.func8
    (ChangeSpec.witness6 (enc := enc) (C := Tryz.checked) false ⟨#[], #[.slice none 0 0, .slice none 0 0], []⟩ 8 (by kernel_rfl) (by kernel_rfl) (by kernel_rfl) (by kernel_rfl)) ?_
  intro W base args ds gs before hval0 hW hcnd _
  have hval : ∀ (j : Nat) t v, Tryz.f8.params[j]? = some t → args[j]? = some v → Value.okWide Tryz.prog W .any base t v := hval0
  obtain ⟨p, q, hA, hV, rfl, hfz, hnd⟩ := id hW
  have hA' : DataW.TrodAll enc Tryz.prog W 0 (fun _ => true) true Tryz.f8.params.toList args.toList ds p := hA
  rw [Tryz.params8] at hA' hval
  obtain ⟨v0, vs0, d0, ds0, p0, q0, e0, rfl, rfl, h0, hA0⟩ := trodAll_cons hA'
  obtain ⟨v1, vs1, d1, ds1, p1, q1, e1, rfl, rfl, h1, hA1⟩ := trodAll_cons hA0
  obtain ⟨e2, rfl, rfl⟩ := trodAll_nil hA1
  obtain rfl : args = #[v0, v1] := by cases args; simp_all
  obtain ⟨A0, l0, c0, rfl⟩ := okWide_slice Tryz.underlying45 (hval 0 _ _ rfl rfl)
  obtain ⟨fu0, hf0⟩ := h0
  obtain ⟨B0, k0, x0, eq0, le0, lm0, sl0⟩ := open_sl (R := RPair) (size := 2) Tryz.underlying45 cells_taint (by omega) hf0 el_taint
  obtain ⟨rfl, rfl, rfl⟩ : A0 = B0 ∧ l0 = x0.length ∧ c0 = k0 := by simpa [Value.cells] using eq0
  obtain ⟨A1, l1, c1, rfl⟩ := okWide_slice Tryz.underlying46 (hval 1 _ _ rfl rfl)
  obtain ⟨fu1, hf1⟩ := h1
  obtain ⟨B1, k1, x1, eq1, le1, lm1, sl1⟩ := open_sl (R := RTol) (size := 3) Tryz.underlying46 cells_toler (by omega) hf1 el_toler
  obtain ⟨rfl, rfl, rfl⟩ : A1 = B1 ∧ l1 = x1.length ∧ c1 = k1 := by simpa [Value.cells] using eq1
  refine (taintAll_any (Lib.hid begun_any) A0 c0 x0 A1 c1 x1 W le0 lm0 sl0 le1 lm1 sl1).mono fun e W' ⟨he, hb⟩ => ?_
  subst he
  exact ⟨_, rfl, law_post laidOut (by decide +kernel) rfl Tryz.underlying4 rfl rfl hW hb⟩

theorem taintAll_over : Rows.taintAllRow.holds Tryz.pinned (OpenSpec.ofChange Rows.taintAllSpec) :=
  OpenClaim.holds_of_wide 8 Tryz.f8 rfl rfl rfl rfl rfl rfl rfl ⟨rfl, rfl, rfl, rfl, rfl⟩ rfl rfl rfl rfl rfl (by kernel_rfl) Tryz.func8 (by kernel_rfl)
    (of_decide_eq_true (by kernel_rfl)) (by unfold Func.isWrapper; first | (rw [if_pos (by decide +kernel)]; kernel_rfl) | (rw [if_neg (by decide +kernel)]; exact ⟨rfl, rfl⟩))
    (fun os started H enc _ => taintAll_lifted os started H enc)

theorem taintAll_holds : Rows.TaintAllSaid := taintAll_over
#print axioms taintAll_holds
end Go.Proofs.YthfafenigjldlaaGreat
