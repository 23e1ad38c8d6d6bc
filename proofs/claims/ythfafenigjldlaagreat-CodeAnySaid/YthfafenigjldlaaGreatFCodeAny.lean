/-
  'interrexlaw1.CodeAny' holds: for every input the call returns true, and each argument reads as it did. No condition.
-/
import Derived.Test.YthfafenigjldlaaGreatLAny
import Derived.Test.YthfafenigjldlaaGreatGet8
import Derived.Test.YthfafenigjldlaaGreatOpen3
namespace Go.Proofs.YthfafenigjldlaaGreat
open Go.ChangeShapes Go.WideShapes Go.ChangeAt Go.RowKit
set_option linter.unusedVariables false

set_option maxRecDepth 100000 in
set_option maxHeartbeats 1000000 in
theorem codeAny_lifted (os : Os) (started : os.Started) (H : Type) (enc : TypeId × Value → H) :
    ReturnsInHanded {} Tryz.checked os 16 .any (Rows.codeAnySpec.pre6 enc Tryz.prog Tryz.f16 Rows.codeAnyRow.domain false) (Rows.codeAnySpec.post enc Tryz.prog Tryz.f16 false true false false) := by
  refine returnsInHanded_of_change (C := Tryz.checked) own started (by kernel_rfl) Tryz.func16
    (ChangeSpec.witness6 (enc := enc) (C := Tryz.checked) false ⟨#[], #[.slice none 0 0, .agg #[.string ⟨#[]⟩, .int .i64 0, .int .i64 0, .int .i64 0, .int .i64 0, .int .i64 0, .slice none 0 0, .slice none 0 0, .slice none 0 0, .slice none 0 0, .string ⟨#[]⟩, .slice none 0 0, .int .i64 0, .slice none 0 0, .string ⟨#[]⟩, .int .i64 0], .agg #[.string ⟨#[]⟩, .int .i64 0, .int .i64 0, .int .i64 0, .slice none 0 0, .slice none 0 0], .int .i64 0, .int .u8 0], []⟩ 8 (by kernel_rfl) (by kernel_rfl) (by kernel_rfl) (by kernel_rfl)) ?_
  intro W base args ds gs before hval0 hW hcnd _
  have hval : ∀ (j : Nat) t v, Tryz.f16.params[j]? = some t → args[j]? = some v → Value.okWide Tryz.prog W .any base t v := hval0
  obtain ⟨p, q, hA, hV, rfl, hfz, hnd⟩ := id hW
  have hA' : DataW.TrodAll enc Tryz.prog W 0 (fun _ => true) true Tryz.f16.params.toList args.toList ds p := hA
  rw [Tryz.params16] at hA' hval
  obtain ⟨v0, vs0, d0, ds0, p0, q0, e0, rfl, rfl, h0, hA0⟩ := trodAll_cons hA'
  obtain ⟨v1, vs1, d1, ds1, p1, q1, e1, rfl, rfl, h1, hA1⟩ := trodAll_cons hA0
  obtain ⟨v2, vs2, d2, ds2, p2, q2, e2, rfl, rfl, h2, hA2⟩ := trodAll_cons hA1
  obtain ⟨v3, vs3, d3, ds3, p3, q3, e3, rfl, rfl, h3, hA3⟩ := trodAll_cons hA2
  obtain ⟨v4, vs4, d4, ds4, p4, q4, e4, rfl, rfl, h4, hA4⟩ := trodAll_cons hA3
  obtain ⟨e5, rfl, rfl⟩ := trodAll_nil hA4
  obtain rfl : args = #[v0, v1, v2, v3, v4] := by cases args; simp_all
  obtain ⟨A0, l0, c0, rfl⟩ := okWide_slice Tryz.underlying42 (hval 0 _ _ rfl rfl)
  obtain ⟨fu0, hf0⟩ := h0
  obtain ⟨B0, k0, x0, eq0, le0, lm0, sl0⟩ := open_sl (R := RByte) (size := 1) Tryz.underlying42 cells_u8 (by omega) hf0 el_u8
  obtain ⟨rfl, rfl, rfl⟩ : A0 = B0 ∧ l0 = x0.length ∧ c0 = k0 := by simpa [Value.cells] using eq0
  obtain ⟨cs1, rfl, sz1⟩ := okWide_struct Tryz.underlying66 (hval 1 _ _ rfl rfl)
  obtain ⟨fu1, hf1⟩ := h1
  obtain ⟨x1, q1x, rc1, ok1⟩ := el_pod _ _ _ hf1 (by rw [cells_pod] at sz1; simpa [Value.cells] using sz1)
  obtain rfl : cs1 = (podC x1 q1x).toArray := by cases cs1; simpa [Value.cells] using rc1
  obtain ⟨cs2, rfl, sz2⟩ := okWide_struct Tryz.underlying68 (hval 2 _ _ rfl rfl)
  obtain ⟨fu2, hf2⟩ := h2
  obtain ⟨x2, q2x, rc2, ok2⟩ := el_node _ _ _ hf2 (by rw [cells_node] at sz2; simpa [Value.cells] using sz2)
  obtain rfl : cs2 = (nodeC x2 q2x).toArray := by cases cs2; simpa [Value.cells] using rc2
  obtain ⟨x3, rfl, _, _, w3⟩ := open_int Tryz.underlying3 (hval 3 _ _ rfl rfl) h3
  obtain ⟨y4, rfl, _, _, w4⟩ := open_int Tryz.underlying5 (hval 4 _ _ rfl rfl) h4
  obtain ⟨x4, z4⟩ : ∃ x : UInt8, Value.int .u8 y4 = byV x := by
    simp [Lit.wf, IntKind.min, IntKind.max, IntKind.signed, IntKind.bits] at w4
    exact ⟨_, by_of (by omega) (by omega)⟩
  obtain rfl : y4 = (x4.toNat : Int) := by injection z4
  rw [show Value.int .u8 (x4.toNat : Int) = byV x4 from rfl]
  refine (codeAny_any (Lib.hid begun_any) A0 c0 x0 x1 q1x x2 q2x x3 x4 W le0 lm0 (bytes_flat sl0) ok1 ok2 (bounds_i64 w3) ).mono fun e W' ⟨he, hb⟩ => ?_
  subst he
  exact ⟨_, rfl, law_post laidOut (by decide +kernel) rfl Tryz.underlying4 rfl rfl hW hb⟩

theorem codeAny_over : Rows.codeAnyRow.holds Tryz.pinned (OpenSpec.ofChange Rows.codeAnySpec) :=
  OpenClaim.holds_of_wide 16 Tryz.f16 rfl rfl rfl rfl rfl rfl rfl ⟨rfl, rfl, rfl, rfl, rfl⟩ rfl rfl rfl rfl rfl (by kernel_rfl) Tryz.func16 (by kernel_rfl)
    (of_decide_eq_true (by kernel_rfl)) (by unfold Func.isWrapper; first | (rw [if_pos (by decide +kernel)]; kernel_rfl) | (rw [if_neg (by decide +kernel)]; exact ⟨rfl, rfl⟩))
    (fun os started H enc _ => codeAny_lifted os started H enc)

theorem codeAny_holds : Rows.CodeAnySaid := codeAny_over
#print axioms codeAny_holds
end Go.Proofs.YthfafenigjldlaaGreat
