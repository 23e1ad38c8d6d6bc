/-
  'interrexlaw1.CodeNames': the walk.
-/
import Derived.Test.YthfafenigjldlaaGreatRef1
import Derived.Test.YthfafenigjldlaaGreatKey2
namespace Go.Proofs.YthfafenigjldlaaGreat
open Go.RowKit
set_option linter.unusedVariables false

set_option maxRecDepth 20000 in
set_option maxHeartbeats 4000000 in
theorem codeNames_any (HBA : Hid (∀ w : World, Calls Tryz.prog 17 #[] w fun e w' => e = .returned (.bool true) ∧ Ext w w')) (a b : ByteArray) (w : World) (ha : okS a) (hb : okS b) :
    Calls Tryz.prog 7 #[.string a, .string b] w fun e w' => e = .returned (.bool true) ∧ Ext w w' := by
  obtain ⟨A, hA⟩ : ∃ S, S = a.extract 0 (min a.size 12) := ⟨_, rfl⟩
  obtain ⟨B, hB⟩ : ∃ S, S = b.extract 0 (min b.size 12) := ⟨_, rfl⟩
  have OA : Hid (okS A) := by rw [hA]; exact okS_ex2 _ _ _ ha
  have OB : Hid (okS B) := by rw [hB]; exact okS_ex2 _ _ _ hb
  have TA : Hid (∀ w, Calls Tryz.prog 18 #[.string a, .int .i64 12] w fun e w' => e = .returned (.string A) ∧ w = w') := fun w => by rw [hA]; exact text_any a 12 12 rfl w ha
  have TB : Hid (∀ w, Calls Tryz.prog 18 #[.string b, .int .i64 12] w fun e w' => e = .returned (.string B) ∧ w = w') := fun w => by rw [hB]; exact text_any b 12 12 rfl w hb
  clear hA hB ha hb
  obtain ⟨xa, hxa⟩ : ∃ x, x = nameB A := ⟨_, rfl⟩
  obtain ⟨xb, hxb⟩ : ∃ x, x = nameB B := ⟨_, rfl⟩
  have NA : Hid (nameB A = xa) := hxa.symm
  have NB : Hid (nameB B = xb) := hxb.symm
  clear hxa hxb
  go_enter Tryz.func7, Tryz.ntmps7
  go_wp2_with fail
  refine (HBA.out _).mono ?_
  rintro e w1 ⟨rfl, a1⟩
  have E1 := Lib.hid a1
  clear a1
  go_wp2_with fail
  refine (TA.out _).mono ?_
  rintro e wq ⟨rfl, rfl⟩
  go_wp2_with fail
  refine (TB.out _).mono ?_
  rintro e wq ⟨rfl, rfl⟩
  go_wp2_with fail
  refine (name_any A _ OA.out).mono ?_
  rintro e wq ⟨rfl, rfl⟩
  rw [NA.out]
  cases xa
  · go_wp2_with fail
    refine (name_any A _ OA.out).mono ?_
    rintro e wq ⟨rfl, rfl⟩
    go_wp2_with fail
    refine (rName_any A _ OA.out).mono ?_
    rintro e wq ⟨rfl, rfl⟩
    go_wp2_with fail
    refine (name_any B _ OB.out).mono ?_
    rintro e wq ⟨rfl, rfl⟩
    go_wp2_with fail
    refine (rName_any B _ OB.out).mono ?_
    rintro e wq ⟨rfl, rfl⟩
    go_wp2_with fail
    go_ret
    exact ⟨ret_bool (by simp), E1.out⟩
  go_wp2_with fail
  refine (name_any B _ OB.out).mono ?_
  rintro e wq ⟨rfl, rfl⟩
  rw [NB.out]
  cases xb
  · go_wp2_with fail
    refine (name_any A _ OA.out).mono ?_
    rintro e wq ⟨rfl, rfl⟩
    go_wp2_with fail
    refine (rName_any A _ OA.out).mono ?_
    rintro e wq ⟨rfl, rfl⟩
    go_wp2_with fail
    refine (name_any B _ OB.out).mono ?_
    rintro e wq ⟨rfl, rfl⟩
    go_wp2_with fail
    refine (rName_any B _ OB.out).mono ?_
    rintro e wq ⟨rfl, rfl⟩
    go_wp2_with fail
    go_ret
    exact ⟨ret_bool (by simp), E1.out⟩
  obtain ⟨p, hp⟩ : ∃ x, x = pS ++ A := ⟨_, rfl⟩
  obtain ⟨q, hq⟩ : ∃ x, x = pS ++ B := ⟨_, rfl⟩
  obtain ⟨n, hn⟩ : ∃ x, x = nS ++ A := ⟨_, rfl⟩
  obtain ⟨e, he⟩ : ∃ x, x = eqS A B := ⟨_, rfl⟩
  have K1 : Hid (keyS 1 A = p) := by show _ = _; rw [hp]; unfold keyS; rw [if_neg (by decide), if_pos ⟨rfl, NA.out⟩]
  have K2 : Hid (keyS 1 B = q) := by show _ = _; rw [hq]; unfold keyS; rw [if_neg (by decide), if_pos ⟨rfl, NB.out⟩]
  have K3 : Hid (keyS 2 A = n) := by show _ = _; rw [hn]; unfold keyS; rw [if_neg (by decide), if_neg (fun h => absurd h.1 (by decide)), if_pos ⟨rfl, NA.out⟩]
  have f1 : (p.toList == n.toList) = false := by
    have : eqS p n = false := by rw [eqS_false, hp, hn]; exact pn_ne A A
    exact this
  have f2 : (p.toList == q.toList) = e := by
    have : eqS p q = e := by
      rw [he, hp, hq, Bool.eq_iff_iff, eqS_iff, eqS_iff]
      exact ⟨fun h => app_inj_left h, fun h => by rw [h]⟩
    exact this
  have f3 : (A.toList == B.toList) = e := he.symm
  have f4 : p.size = A.size + 2 := by rw [hp, app_size, pS_size]; omega
  have f5 : p.extract 2 (A.size + 2) = A := by rw [← f4, hp]; exact ex_app_right _ _ _ pS_size
  have f6 : (A.size : Int) ≤ 12 := by have := nameB_size NA.out; omega
  have KP : Hid (kindI p = 1) := by show _ = _; rw [hp]; exact kindI_p NA.out
  have KN : Hid (kindI n = 2) := by show _ = _; rw [hn]; exact kindI_n NA.out
  have OP : Hid (okS p) := by show okS _; unfold okS maxLen; rw [f4]; omega
  have ON : Hid (okS n) := by show okS _; unfold okS maxLen; rw [hn, app_size, nS_size]; omega
  have KL : Hid (∀ s, keyS 3 s = lS) := fun s => by unfold keyS; rw [if_pos rfl]
  have OZ : Hid (okS (⟨#[]⟩ : ByteArray)) := by show okS _; unfold okS maxLen; decide
  clear hp hq hn he
  go_wp2_with fail
  refine (cKey_any 1 A _ OA.out).mono ?_
  rintro e wq ⟨rfl, rfl⟩
  rw [K1.out]
  go_wp2_with fail
  refine (cKey_any 1 B _ OB.out).mono ?_
  rintro e wq ⟨rfl, rfl⟩
  rw [K2.out]
  go_wp2_with fail
  refine (cKey_any 2 A _ OA.out).mono ?_
  rintro e wq ⟨rfl, rfl⟩
  rw [K3.out]
  go_wp2_with fail
  refine (cKind_any p _ OP.out).mono ?_
  rintro e wq ⟨rfl, rfl⟩
  rw [KP.out]
  go_wp2_with fail
  refine (cKind_any n _ ON.out).mono ?_
  rintro e wq ⟨rfl, rfl⟩
  rw [KN.out]
  go_wp2_with fail
  refine (cKey_any 3 A _ OA.out).mono ?_
  rintro e wq ⟨rfl, rfl⟩
  rw [KL.out]
  go_wp2_with fail
  refine (cKey_any 3 ⟨#[]⟩ _ OZ.out).mono ?_
  rintro e wq ⟨rfl, rfl⟩
  rw [KL.out]
  go_wp2_with fail
  go_ret
  exact ⟨ret_bool (by simp), E1.out⟩
end Go.Proofs.YthfafenigjldlaaGreat
