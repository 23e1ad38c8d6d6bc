/-
  'interrexlaw1.TaintKinds': the walk and the plain law.
-/
import Derived.Test.YthfafenigjldlaaObj1
import Derived.Test.YthfafenigjldlaaTaint1
namespace Go.Proofs.Ythfafenigjldlaa
open Go.RowKit
set_option linter.unusedVariables false

theorem emp_self : empS (⟨#[]⟩ : ByteArray) = true := empS_iff.2 rfl

set_option maxRecDepth 20000 in
set_option maxHeartbeats 4000000 in
theorem taintKinds_any (HBA : Hid (∀ w : World, Calls Try.prog 10 #[] w fun e w' => e = .returned (.bool true) ∧ Ext w w')) (x : Pr) (key val : ByteArray) (w : World) (h1 : okS x.key ∧ okS x.val) (h2 : okS key) (h3 : okS val) :
    Calls Try.prog 9 #[.agg #[.string x.key, .string x.val], .string key, .string val] w fun e w' => e = .returned (.bool true) ∧ Ext w w' := by
  have B := boxed w [.string x.key, .string x.val] 44
  have k0 := B 0 _ rfl
  have k1 := B 1 _ rfl
  have he := boxedExt w [.string x.key, .string x.val] 44
  obtain ⟨W1, hW⟩ : ∃ W1, w.alloc (.cells #[.string x.key, .string x.val] 44) = W1 := ⟨_, rfl⟩
  rw [hW] at k0 k1 he
  have HE := Lib.hid he
  have E : Ext W1 W1 := Ext.refl _
  clear he B
  have v1 : bearsB ⟨⟨#[]⟩, ⟨#[]⟩, true⟩ x = true := by unfold bearsB; rw [emp_self]; rfl
  have v2 : bearsB ⟨key, ⟨#[]⟩, true⟩ x = (empS key || eqS key x.key) := by unfold bearsB; simp
  have v3 : bearsB ⟨key, val, false⟩ x = ((empS key || eqS key x.key) && eqS val x.val) := by unfold bearsB; simp
  have v4 : bearsB ⟨⟨#[]⟩, val, false⟩ x = eqS val x.val := by unfold bearsB; rw [emp_self]; simp
  have V1 := Lib.hid v1
  have V2 := Lib.hid v2
  have V3 := Lib.hid v3
  have V4 := Lib.hid v4
  clear v1 v2 v3 v4
  have HM : Hid (∀ t wx, Ext W1 wx → Calls Try.prog 16 #[.agg #[.string t.key, .string t.val, .bool t.any], .agg #[.string x.key, .string x.val]] wx fun e w' => e = .returned (.bool (bearsB t x)) ∧ Ext wx w') := fun t wx _ => bears_any t x wx
  obtain ⟨e1, he1⟩ : ∃ b, b = empS key := ⟨_, rfl⟩
  obtain ⟨e2, he2⟩ : ∃ b, b = eqS key x.key := ⟨_, rfl⟩
  obtain ⟨e3, he3⟩ : ∃ b, b = eqS val x.val := ⟨_, rfl⟩
  rw [← he1, ← he2] at V2
  rw [← he1, ← he2, ← he3] at V3
  rw [← he3] at V4
  have q1 : (key.toList == []) = e1 := by rw [he1]; unfold empS; cases key.toList <;> rfl
  have q2 : (key.toList == x.key.toList) = e2 := he2.symm
  have q3 : (val.toList == x.val.toList) = e3 := he3.symm
  clear he1 he2 he3
  cases e1 <;> cases e2 <;> cases e3
  all_goals (
    simp only [Bool.or_true, Bool.or_false, Bool.and_true, Bool.and_false] at V2 V3
    go_enter Try.func9, Try.ntmps9
    go_wp2_with fail
    refine (HBA.out _).mono ?_
    rintro e w1 ⟨rfl, a1⟩
    replace E := E.trans a1
    clear a1
    go_wp2_with fail
    refine (HM.out ⟨⟨#[]⟩, ⟨#[]⟩, true⟩ _ E).mono ?_
    rintro e w2 ⟨rfl, a2⟩
    rw [V1.out]
    replace E := E.trans a2
    clear a2
    go_wp2_with fail
    refine (HM.out ⟨key, ⟨#[]⟩, true⟩ _ E).mono ?_
    rintro e w3 ⟨rfl, a3⟩
    rw [V2.out]
    replace E := E.trans a3
    clear a3
    go_wp2_with fail
    refine (HM.out ⟨key, val, false⟩ _ E).mono ?_
    rintro e w4 ⟨rfl, a4⟩
    rw [V3.out]
    replace E := E.trans a4
    clear a4
    go_wp2_with fail
    refine (HM.out ⟨⟨#[]⟩, val, false⟩ _ E).mono ?_
    rintro e w5 ⟨rfl, a5⟩
    rw [V4.out]
    replace E := E.trans a5
    clear a5
    go_wp2_with fail
    go_ret
    exact ⟨by first | rfl | (refine ret_bool ?_; simp), HE.out.trans E⟩)
end Go.Proofs.Ythfafenigjldlaa
