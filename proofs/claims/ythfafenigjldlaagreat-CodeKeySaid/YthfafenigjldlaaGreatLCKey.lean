/-
  'interrexlaw1.CodeKey': the walk.
-/
import Derived.Test.YthfafenigjldlaaGreatRef1
import Derived.Test.YthfafenigjldlaaGreatKey2
import Derived.Deep.Cut
import Derived.Deep.CutRange
import Derived.Deep.CutBlock
namespace Go.Proofs.YthfafenigjldlaaGreat
open Go.RowKit
set_option linter.unusedVariables false

set_option maxRecDepth 20000 in
set_option maxHeartbeats 4000000 in
theorem codeKey_any (HBA : Hid (∀ w : World, Calls Tryz.prog 17 #[] w fun e w' => e = .returned (.bool true) ∧ Ext w w')) (kind : Int) (name raw : ByteArray) (w : World) (hk : inI kind) (hn : okS name) (hr : okS raw) :
    Calls Tryz.prog 4 #[.int .i64 kind, .string name, .string raw] w fun e w' => e = .returned (.bool true) ∧ Ext w w' := by
  obtain ⟨A, hA⟩ : ∃ S, S = name.extract 0 (min name.size 15) := ⟨_, rfl⟩
  obtain ⟨B, hB⟩ : ∃ S, S = raw.extract 0 (min raw.size 20) := ⟨_, rfl⟩
  have OA : Hid (okS A) := by rw [hA]; exact okS_ex2 _ _ _ hn
  have OB : Hid (okS B) := by rw [hB]; exact okS_ex2 _ _ _ hr
  have LB : Hid (B.size ≤ 20) := by show _ ≤ _; rw [hB, ByteArray.size_extract]; omega
  have TA : Hid (∀ w, Calls Tryz.prog 18 #[.string name, .int .i64 15] w fun e w' => e = .returned (.string A) ∧ w = w') := fun w => by rw [hA]; exact text_any name 15 15 rfl w hn
  have TB : Hid (∀ w, Calls Tryz.prog 18 #[.string raw, .int .i64 20] w fun e w' => e = .returned (.string B) ∧ w = w') := fun w => by rw [hB]; exact text_any raw 20 20 rfl w hr
  have hsz : ¬ 9223372036854775807 < 2 + A.size := by rw [hA, ByteArray.size_extract]; omega
  clear hA hB hn hr
  obtain ⟨xa, hxa⟩ : ∃ x, x = nameB A := ⟨_, rfl⟩
  have NA : Hid (nameB A = xa) := hxa.symm
  obtain ⟨ks, hks⟩ : ∃ x, x = keyS kind A := ⟨_, rfl⟩
  have HK : Hid (keyS kind A = ks) := hks.symm
  have HKD : Hid (ks = ⟨#[]⟩ ∨ kindI ks = kind) := by show _ ∨ _; rw [hks]; exact keyS_kind kind A
  obtain ⟨kr, hkr⟩ : ∃ x, x = kindI B := ⟨_, rfl⟩
  have HR : Hid (kindI B = kr) := hkr.symm
  have HRD : Hid (kr = 0 ∨ keyS kr (B.extract (min B.size 2) B.size) = B) := by show _ ∨ _; rw [hkr]; exact kindI_key B
  obtain ⟨ez, hez⟩ : ∃ e, e = (ks.toList == []) := ⟨_, rfl⟩
  have z1 : (ks.toList == []) = ez := hez.symm
  have z2 : ks.toList.isEmpty = ez := by rw [hez]; cases ks.toList <;> rfl
  have HKK : Hid (ez = false → kindI ks = kind) := fun h => by
    rcases HKD.out with h1 | h1
    · rw [h] at z1; rw [h1, ByteArray.toList_eq] at z1; cases z1
    · exact h1
  have OK : Hid (okS ks) := by
    show okS _
    rw [hks]
    unfold keyS okS maxLen
    split
    · decide
    · split
      · rw [app_size, pS_size]; omega
      · split
        · rw [app_size, nS_size]; omega
        · decide
  clear hxa hks hkr hez HKD
  obtain ⟨mb, mb1, mb2, MB, mm⟩ := min_litR (P := Tryz.prog) B.size 2 2 rfl
  have HRK : Hid (kr = 0 ∨ keyS kr (B.extract mb B.size) = B) := by show _ ∨ _; rw [MB.out]; exact HRD.out
  have OX : Hid (okS (B.extract mb B.size)) := okS_ex2 _ _ _ OB.out
  clear MB HRD
  go_enter Tryz.func4, Tryz.ntmps4
  go_wp2_with fail
  refine (HBA.out _).mono ?_
  rintro e w1 ⟨rfl, a1⟩
  have E1 := Lib.hid a1
  clear a1
  go_wp2_with fail
  refine (TA.out _).mono ?_
  rintro e wq ⟨rfl, rfl⟩
  go_wp2_with fail
  refine (TB.out _).mono ?_
  rintro e wq ⟨rfl, rfl⟩
  go_upto_block 0 with (fail)
  go_cut [8] from 11 (fun s8 wx => s8 = .string ks ∧ w1 = wx)
  case first =>
    clear z1 z2 mm
    by_cases h3 : kind = 3
    · subst h3
      have F : Hid (ks = ⟨#[108]⟩) := by show _ = _; rw [← HK.out]; unfold keyS; rw [if_pos rfl]; rfl
      go_wp2_with fail
      go_meet
      case rel => exact ⟨by rw [F.out], rfl⟩
    by_cases h1 : kind = 1
    · subst h1
      cases xa
      · have F : Hid (ks = ⟨#[]⟩) := by show _ = _; rw [← HK.out]; unfold keyS; rw [NA.out]; simp
        go_wp2_with fail
        refine (rName_any A _ OA.out).mono ?_
        rintro e wq ⟨rfl, rfl⟩
        rw [NA.out]
        go_wp2_with fail
        go_meet
        case rel => exact ⟨by rw [F.out], rfl⟩
      · have F : Hid (ks = ⟨#[112, 47]⟩ ++ A) := by show _ = _; rw [← HK.out]; unfold keyS; rw [NA.out]; simp; rfl
        go_wp2_with fail
        refine (rName_any A _ OA.out).mono ?_
        rintro e wq ⟨rfl, rfl⟩
        rw [NA.out]
        go_wp2_with fail
        go_meet
        case rel => exact ⟨by rw [F.out], rfl⟩
    by_cases h2 : kind = 2
    · subst h2
      cases xa
      · have F : Hid (ks = ⟨#[]⟩) := by show _ = _; rw [← HK.out]; unfold keyS; rw [NA.out]; simp
        go_wp2_with fail
        refine (rName_any A _ OA.out).mono ?_
        rintro e wq ⟨rfl, rfl⟩
        rw [NA.out]
        go_wp2_with fail
        go_meet
        case rel => exact ⟨by rw [F.out], rfl⟩
      · have F : Hid (ks = ⟨#[110, 47]⟩ ++ A) := by show _ = _; rw [← HK.out]; unfold keyS; rw [NA.out]; simp; rfl
        go_wp2_with fail
        refine (rName_any A _ OA.out).mono ?_
        rintro e wq ⟨rfl, rfl⟩
        rw [NA.out]
        go_wp2_with fail
        go_meet
        case rel => exact ⟨by rw [F.out], rfl⟩
    · have F : Hid (ks = ⟨#[]⟩) := by show _ = _; rw [← HK.out]; unfold keyS; rw [if_neg h3, if_neg (fun h => h1 h.1), if_neg (fun h => h2 h.1)]
      go_wp2_with fail
      go_meet
      case rel => exact ⟨by rw [F.out], rfl⟩
  case rest =>
    obtain ⟨rfl, rfl⟩ := hcut
    clear hsz
    go_wp2_with fail
    refine (cKey_any kind A _ OA.out).mono ?_
    rintro e wq ⟨rfl, rfl⟩
    rw [HK.out]
    have STEP : Hid (∀ (x : Int), kindI B = x → x = kr) := fun x h => by rw [← h, HR.out]
    cases ez
    case' true => go_upto_block 1 with (fail)
    case' false =>
      go_wp2_with fail
      refine (cKind_any ks _ OK.out).mono ?_
      rintro e wq ⟨rfl, rfl⟩
      rw [HKK.out (by simp)]
      go_upto_block 1 with (fail)
    all_goals (
      go_cut [10] from 11 (fun s10 wx => s10 = .int .i64 kr ∧ w1 = wx)
      case first =>
        clear z1 z2 mm
        by_cases h0 : B = lS
        · have q0 : (B.toList == [108]) = true := by rw [h0, lS_l]; rfl
          have F : Hid (3 = kr) := STEP.out _ (by unfold kindI; rw [if_pos h0])
          clear h0
          go_wp2_with fail
          go_meet
          case rel => exact ⟨by rw [← F.out], rfl⟩
        have q0 : (B.toList == [108]) = false := by rw [← lS_l]; exact eqS_false.2 h0
        by_cases h1 : 2 < B.size
        case neg =>
          have F : Hid (0 = kr) := STEP.out _ (by unfold kindI; rw [if_neg h0, if_neg (fun h => h1 h.1), if_neg (fun h => h1 h.1)])
          have h1' : ¬ (2 : Int) < (B.size : Int) := by omega
          clear h0
          go_wp2_with fail
          go_meet
          case rel => exact ⟨by rw [← F.out], rfl⟩
        have h1' : (2 : Int) < (B.size : Int) := by omega
        have hle : (2 : Int) ≤ (B.size : Int) := by omega
        have hy : Hid (okS (B.extract 2 B.size)) := okS_ex2 _ _ _ OB.out
        have HN := Lib.hid (fun wx => rName_any (B.extract 2 B.size) wx hy.out)
        by_cases hp : B.extract 0 2 = pS
        · have p1 : (B.extract 0 2).toList = [112, 47] := by rw [hp, pS_l]
          cases hb : nameB (B.extract 2 B.size)
          · have F : Hid (0 = kr) := STEP.out _ (by
              unfold kindI
              rw [if_neg h0, if_neg (fun h => by rw [hb] at h; exact absurd h.2.2 (by decide)), if_neg (fun h => by rw [hb] at h; exact absurd h.2.2 (by decide))])
            rw [hb] at HN
            clear hb h0 hp
            go_wp2_with fail
            refine (HN.out _).mono ?_
            rintro e w2 ⟨rfl, rfl⟩
            go_wp2_with fail
            go_meet
            case rel => exact ⟨by rw [← F.out], rfl⟩
          · have F : Hid (1 = kr) := STEP.out _ (by
              unfold kindI
              rw [if_neg h0, if_pos ⟨h1, hp, hb⟩])
            rw [hb] at HN
            clear hb h0 hp
            go_wp2_with fail
            refine (HN.out _).mono ?_
            rintro e w2 ⟨rfl, rfl⟩
            go_wp2_with fail
            go_meet
            case rel => exact ⟨by rw [← F.out], rfl⟩
        have p1 : ¬ (B.extract 0 2).toList = [112, 47] := fun h => hp (eqS_iff.1 (by unfold eqS; rw [h, pS_l]; rfl))
        by_cases hn : B.extract 0 2 = nS
        · have p2 : (B.extract 0 2).toList = [110, 47] := by rw [hn, nS_l]
          cases hb : nameB (B.extract 2 B.size)
          · have F : Hid (0 = kr) := STEP.out _ (by
              unfold kindI
              rw [if_neg h0, if_neg (fun h => hp h.2.1), if_neg (fun h => by rw [hb] at h; exact absurd h.2.2 (by decide))])
            rw [hb] at HN
            clear hb h0 hp hn
            go_wp2_with fail
            refine (HN.out _).mono ?_
            rintro e w2 ⟨rfl, rfl⟩
            go_wp2_with fail
            go_meet
            case rel => exact ⟨by rw [← F.out], rfl⟩
          · have F : Hid (2 = kr) := STEP.out _ (by
              unfold kindI
              rw [if_neg h0, if_neg (fun h => hp h.2.1), if_pos ⟨h1, hn, hb⟩])
            rw [hb] at HN
            clear hb h0 hp hn
            go_wp2_with fail
            refine (HN.out _).mono ?_
            rintro e w2 ⟨rfl, rfl⟩
            go_wp2_with fail
            go_meet
            case rel => exact ⟨by rw [← F.out], rfl⟩
        have p2 : ¬ (B.extract 0 2).toList = [110, 47] := fun h => hn (eqS_iff.1 (by unfold eqS; rw [h, nS_l]; rfl))
        have F : Hid (0 = kr) := STEP.out _ (by
          unfold kindI
          rw [if_neg h0, if_neg (fun h => hp h.2.1), if_neg (fun h => hn h.2.1)])
        clear h0 hp hn
        go_wp2_with fail
        go_meet
        case rel => exact ⟨by rw [← F.out], rfl⟩
      case rest =>
        obtain ⟨rfl, rfl⟩ := hcut
        go_wp2_with fail
        refine (cKind_any B _ OB.out).mono ?_
        rintro e wq ⟨rfl, rfl⟩
        rw [HR.out]
        by_cases hz : kr = 0
        · have hz' : (kr == 0) = true := by simp [hz]
          clear hz
          go_wp2_with fail
          go_ret
          exact ⟨ret_bool (by simp), E1.out⟩
        · have hz' : (kr == 0) = false := by simp [hz]
          have KK : Hid (keyS kr (B.extract mb B.size) = B) := HRK.out.resolve_left hz
          clear hz
          go_wp2_with fail
          refine (cKey_any kr _ _ OX.out).mono ?_
          rintro e wq ⟨rfl, rfl⟩
          rw [KK.out]
          go_wp2_with fail
          go_ret
          exact ⟨ret_bool (by simp), E1.out⟩)
end Go.Proofs.YthfafenigjldlaaGreat
