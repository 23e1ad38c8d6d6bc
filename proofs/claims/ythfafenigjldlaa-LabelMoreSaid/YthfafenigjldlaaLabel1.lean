/-
  The walks of package label, first part: letter, Name, May, Get.
-/
import Derived.Test.YthfafenigjldlaaSpec1
import Derived.Test.YthfafenigjldlaaRows
import Derived.Deep.QuietTactic
import Derived.BigQuiet
import Derived.IntWalk
import Derived.Outline
namespace Go.Proofs.Ythfafenigjldlaa
open Go.RowKit
set_option linter.unusedVariables false

set_option maxHeartbeats 400000 in
theorem letter_any (b : Int) (w : World) : Calls Try.prog 64 #[.int .u8 b] w fun e w' => e = .returned (.bool (letB b)) ∧ w = w' := by
  go_enter Try.func64, Try.ntmps64
  go_wp2
  all_goals go_ret
  all_goals refine ⟨ret_bool ?_, rfl⟩
  all_goals (rw [Bool.eq_iff_iff]; simp [letB]; omega)

set_option maxHeartbeats 400000 in
theorem name_any (s : ByteArray) (w : World) (hs : okS s) : Calls Try.prog 30 #[.string s] w fun e w' => e = .returned (.bool (nameB s)) ∧ w = w' := by
  unfold okS maxLen at hs
  by_cases h1 : s.size < 1
  · have h1' : (s.size : Int) < 1 := by omega
    go_enter Try.func30, Try.ntmps30
    go_wp2_with fail
    go_ret
    exact ⟨ret_bool (by unfold nameB; rw [show decide (1 ≤ s.size) = false from decide_eq_false (by omega)]; simp), rfl⟩
  by_cases h2 : 12 < s.size
  · have h1' : (1 : Int) ≤ s.size := by omega
    have h2' : (12 : Int) < s.size := by omega
    go_enter Try.func30, Try.ntmps30
    go_wp2_with fail
    go_ret
    exact ⟨ret_bool (by unfold nameB; rw [show decide (s.size ≤ 12) = false from decide_eq_false (by omega)]; simp), rfl⟩
  have h1' : (1 : Int) ≤ s.size := by omega
  have h2' : (s.size : Int) ≤ 12 := by omega
  have hfin : Hid (nameB s = nameL s.data.toList) := by
    show _ = _
    unfold nameB
    rw [show decide (1 ≤ s.size) = true from decide_eq_true (by omega), show decide (s.size ≤ 12) = true from decide_eq_true (by omega)]; simp
  go_enter Try.func30, Try.ntmps30
  go_wp2_with fail
  go_loop [14] (fun i => ∃ k : Nat, k ≤ s.size ∧ i = .int .i64 k ∧ Hid (nameL s.data.toList = nameL (s.data.toList.drop k))) (fun i => s.size - (intOf i).toNat)
  case atStart => exact ⟨0, by omega, rfl, rfl⟩
  case round =>
    obtain ⟨k, hk, rfl, hd⟩ := hrel
    by_cases hlt : k < s.size
    · have hstep := Lib.hid (nameL_at hlt)
      cases hl : letB s[k].toNat
      · go_wp2_with (go_at_call 64; refine (letter_any _ _).mono ?_; rintro e w' ⟨rfl, rfl⟩)
        go_ret
        exact ⟨ret_bool (by rw [hfin.out, hd.out, hstep.out, hl]; rfl), rfl⟩
      · go_wp2_with (go_at_call 64; refine (letter_any _ _).mono ?_; rintro e w' ⟨rfl, rfl⟩)
        go_round
        case rel => exact ⟨k + 1, by omega, by go_num, by show _ = _; rw [hd.out, hstep.out, hl]; rfl⟩
        case measure => simp [intOf]; omega
    · go_wp2_with fail
      go_ret
      exact ⟨ret_bool (by rw [hfin.out, hd.out, drop_all (by simp; omega)]; rfl), rfl⟩

set_option maxHeartbeats 400000 in
theorem get_any (A : Option Addr) (c : Nat) (xs : List Pr) (key : ByteArray) (w : World) (hn : xs.length ≤ maxLen) (hx : Sl RPair 2 w A xs) :
    Calls Try.prog 13 #[.slice A xs.length c, .string key] w fun e w' => e = .returned (.tuple #[.string (getV xs key), .bool (getB xs key)]) ∧ Ext w w' := by
  unfold maxLen at hn
  have HX := Lib.hid hx
  clear hx
  go_enter Try.func13, Try.ntmps13
  go_wp2_with fail
  go_loopw [10] (fun i wr => ∃ k : Nat, k ≤ xs.length ∧ i = .int .i64 k ∧ Ext w wr ∧ Hid (getO xs key = getO (xs.drop k) key)) (fun i _ => xs.length - (intOf i).toNat)
  case atStart => exact ⟨0, by omega, rfl, Ext.refl _, rfl⟩
  case round =>
    obtain ⟨k, hk, rfl, he, hd⟩ := hrel
    by_cases hlt : k < xs.length
    · obtain ⟨b, o, x, hA, hxk, _, _, c0, c1⟩ := (HX.out.ext RPair.keeps he).pair hlt
      have hstep := Lib.hid (getO_at (key := key) hxk)
      subst hA
      clear hxk HX
      cases hl : eqS x.key key
      · have hl' : (x.key.toList == key.toList) = false := hl
        go_wp2_with fail
        go_roundw
        case rel => exact ⟨k + 1, by omega, by go_num, he.alloc _, by show _ = _; rw [hd.out, hstep.out, hl]; rfl⟩
        case measure => simp [intOf]; omega
      · have hl' : (x.key.toList == key.toList) = true := hl
        go_wp2_with fail
        go_ret2
        have e1 : getO xs key = some x.val := by rw [hd.out, hstep.out, hl]; rfl
        exact ⟨by unfold getV getB; rw [e1]; rfl, he.alloc _⟩
    · go_wp2_with fail
      go_ret2
      have e1 : getO xs key = none := by rw [hd.out, drop_all (by omega)]; rfl
      exact ⟨by unfold getV getB; rw [e1]; rfl, he⟩

set_option maxHeartbeats 1000000 in
theorem may_any (A : Option Addr) (c : Nat) (xs : List Pr) (w : World) (hn : xs.length ≤ maxLen) (hx : Sl RPair 2 w A xs) :
    Calls Try.prog 14 #[.slice A xs.length c] w fun e w' => e = .returned (.bool (mayPairs xs)) ∧ Ext w w' := by
  unfold maxLen at hn
  have HX := Lib.hid hx
  clear hx
  go_enter Try.func14, Try.ntmps14
  go_wp2_with fail
  go_loopw [7] (fun i wr => ∃ k : Nat, k ≤ xs.length ∧ i = .int .i64 k ∧ Ext w wr ∧ Hid (mayFrom none xs = mayFrom (prevK xs k) (xs.drop k))) (fun i _ => xs.length - (intOf i).toNat)
  case atStart => exact ⟨0, by omega, rfl, Ext.refl _, rfl⟩
  case round =>
    obtain ⟨k, hk, rfl, he, hd⟩ := hrel
    by_cases hlt : k < xs.length
    · obtain ⟨b, o, x, hA, hxk, ok1, ok2, c0, c1⟩ := (HX.out.ext RPair.keeps he).pair hlt
      have hstep := Lib.hid (mayFrom_at hxk)
      have HA := Lib.hid hA
      have HXK := Lib.hid hxk
      subst hA
      clear hxk
      have nm : ∀ (s : ByteArray) (w : World), okS s → Calls Try.prog 30 #[.string s] w fun e w' => e = .returned (.bool (nameB s)) ∧ w' = w :=
        fun s w h => (name_any s w h).mono fun e w' ⟨a, b⟩ => ⟨a, b.symm⟩
      have NM := Lib.hid nm
      clear nm
      cases h1 : nameB x.key
      · go_wp2_with fail
        go_quiet ((go_at_call 30; exact Calls.quiet_of_same (NM.out _ _ (by assumption))))
        go_wp2_with fail
        go_ret
        exact ⟨ret_bool (by unfold mayPairs; rw [hd.out, hstep.out, h1]; rfl), (he.alloc _).drewN _⟩
      cases h2 : nameB x.val
      · go_wp2_with fail
        go_quiet ((go_at_call 30; exact Calls.quiet_of_same (NM.out _ _ (by assumption))))
        go_wp2_with fail
        go_ret
        exact ⟨ret_bool (by unfold mayPairs; rw [hd.out, hstep.out, h1, h2]; rfl), (he.alloc _).drewN _⟩
      rcases Nat.eq_zero_or_pos k with hk0 | hk0
      · subst hk0
        simp only [Nat.zero_mul, Nat.add_zero] at c0 c1
        go_wp2_with fail
        go_quiet ((go_at_call 30; exact Calls.quiet_of_same (NM.out _ _ (by assumption))))
        go_wp2_with fail
        go_roundw
        case rel => exact ⟨1, by omega, by go_num, (he.alloc _).drewN _, by show _ = _; rw [hd.out, hstep.out, h1, h2]; rfl⟩
        case measure => simp [intOf]; omega
      obtain ⟨m, rfl⟩ : ∃ m, k = m + 1 := ⟨k - 1, by omega⟩
      obtain ⟨b', o', y, hA', hym, _, _, d0, _⟩ := (HX.out.ext RPair.keeps he).pair (show m < xs.length by omega)
      obtain ⟨rfl, rfl⟩ : b' = b ∧ o' = o := by rw [HA.out] at hA'; injection hA' with e; injection e with e1 e2; exact ⟨e1.symm, e2.symm⟩
      have hp := Lib.hid (prevK_succ hym)
      clear hA' hym HA
      have d1 := cell_alloc d0
      have s1 : IntKind.i64.wrap (m : Int) = (m : Int) := IntWalk.i64_in _ (by omega)
      have s2 : (m : Int) < (xs.length : Int) := by omega
      have s3 : (0 : Int) ≤ (m : Int) := by omega
      cases h3 : ltS y.key x.key
      · have h3' : Op.bytesLess y.key.toList x.key.toList = false := h3
        go_wp2_with fail
        go_quiet ((go_at_call 30; exact Calls.quiet_of_same (NM.out _ _ (by assumption))))
        go_wp2_with fail
        go_ret
        exact ⟨ret_bool (by unfold mayPairs; rw [hd.out, hstep.out, h1, h2, hp.out]; simp [h3]), (he.alloc _).drewN _⟩
      · have h3' : Op.bytesLess y.key.toList x.key.toList = true := h3
        go_wp2_with fail
        go_quiet ((go_at_call 30; exact Calls.quiet_of_same (NM.out _ _ (by assumption))))
        go_wp2_with fail
        go_roundw
        case rel => exact ⟨m + 1 + 1, by omega, by go_num, (he.alloc _).drewN _, by show _ = _; rw [hd.out, hstep.out, h1, h2, hp.out]; simp [h3]⟩
        case measure => simp [intOf]; omega
    · have hlen := hd
      go_wp2_with fail
      go_ret
      exact ⟨ret_bool (by unfold mayPairs; rw [hd.out, drop_all (by omega)]; show _ = (true && _); simp; omega), he⟩
end Go.Proofs.Ythfafenigjldlaa
