/-
  The walks of slices.Equal (printed by mkeq.py).
-/
import Derived.Test.YthfafenigjldlaaGreatMem
import Derived.Test.YthfafenigjldlaaGreatRows
import Derived.RegionTactic
import Derived.BigQuiet
import Derived.Deep.QuietTactic
import Derived.Laws.BytesArg
namespace Go.Proofs.YthfafenigjldlaaGreat
open Go.RowKit
set_option linter.unusedVariables false

/-- it is told whether two things are the same -/
def EqPost (P : Prop) (w : World) (e : Ending) (w' : World) : Prop := ∃ b, e = .returned (.bool b) ∧ (b = true ↔ P) ∧ Ext w w'
theorem take_eq_succ {α : Type} {xs ys : List α} {k : Nat} {x : α} (h : xs.take k = ys.take k) (hx : xs[k]? = some x) (hy : ys[k]? = some x) : xs.take (k + 1) = ys.take (k + 1) := by
  rw [take_at hx, take_at hy, h]
theorem take_eq_all {α : Type} {xs ys : List α} {k : Nat} (hl : xs.length = ys.length) (h : xs.take k = ys.take k) (hk : xs.length ≤ k) : xs = ys := by
  rw [List.take_of_length_le hk, List.take_of_length_le (by omega)] at h
  exact h
theorem ne_at {α : Type} {xs ys : List α} {k : Nat} {x y : α} (hx : xs[k]? = some x) (hy : ys[k]? = some y) (hne : x ≠ y) : xs ≠ ys := by
  rintro rfl
  rw [hx] at hy
  injection hy with e
  exact hne e

theorem stood_pair : Tryz.prog.stoodInHeld 37 = false := by kernel_rfl
theorem stood_taint : Tryz.prog.stoodInHeld 53 = false := by kernel_rfl
theorem stood_toler : Tryz.prog.stoodInHeld 52 = false := by kernel_rfl
theorem guard_pair : Tryz.prog.eqGuardType Tryz.prog.depth 37 = false := by kernel_rfl
theorem guard_taint : Tryz.prog.eqGuardType Tryz.prog.depth 53 = false := by kernel_rfl
theorem guard_toler : Tryz.prog.eqGuardType Tryz.prog.depth 52 = false := by kernel_rfl
theorem neq_pair (a0 b0 : ByteArray) (a1 b1 : ByteArray) (w : World) : (binOp .neq 37 (.agg #[.string a0, .string a1]) (.agg #[.string b0, .string b1])).run Tryz.prog w = .ok (.bool (!(a0.toList == b0.toList && a1.toList == b1.toList))) w := by
  rw [run_neq_struct, run_equalIn_agg w 9999 37 _ _ (by kernel_rfl) stood_pair]
  rw [show (Tryz.prog.fieldsOf 37).toList = _ from by unfold Program.fieldsOf; rw [Tryz.underlying37]]
  simp [Op.eqFields, go_sem, run_equalIn_string]
  by_cases h0 : a0.toList = b0.toList <;> by_cases h1 : a1.toList = b1.toList <;> simp [h0, h1]
theorem neq_taint (a0 b0 : ByteArray) (a1 b1 : ByteArray) (w : World) : (binOp .neq 53 (.agg #[.string a0, .string a1]) (.agg #[.string b0, .string b1])).run Tryz.prog w = .ok (.bool (!(a0.toList == b0.toList && a1.toList == b1.toList))) w := by
  rw [run_neq_struct, run_equalIn_agg w 9999 53 _ _ (by kernel_rfl) stood_taint]
  rw [show (Tryz.prog.fieldsOf 53).toList = _ from by unfold Program.fieldsOf; rw [Tryz.underlying53]]
  simp [Op.eqFields, go_sem, run_equalIn_string]
  by_cases h0 : a0.toList = b0.toList <;> by_cases h1 : a1.toList = b1.toList <;> simp [h0, h1]
theorem neq_toler (a0 b0 : ByteArray) (a1 b1 : ByteArray) (a2 b2 : Bool) (w : World) : (binOp .neq 52 (.agg #[.string a0, .string a1, .bool a2]) (.agg #[.string b0, .string b1, .bool b2])).run Tryz.prog w = .ok (.bool (!(a0.toList == b0.toList && a1.toList == b1.toList && a2 == b2))) w := by
  rw [run_neq_struct, run_equalIn_agg w 9999 52 _ _ (by kernel_rfl) stood_toler]
  rw [show (Tryz.prog.fieldsOf 52).toList = _ from by unfold Program.fieldsOf; rw [Tryz.underlying52]]
  simp [Op.eqFields, go_sem, run_equalIn_string]
  by_cases h0 : a0.toList = b0.toList <;> by_cases h1 : a1.toList = b1.toList <;> by_cases h2 : a2 = b2 <;> simp [h0, h1, h2]

set_option maxHeartbeats 1000000 in
theorem eqInt_any (A B : Option Addr) (c d : Nat) (xs ys : List Int) (w : World) (hn : xs.length ≤ maxLen) (hm : ys.length ≤ maxLen) (hx : Sl RInt 1 w A xs) (hy : Sl RInt 1 w B ys) :
    Calls Tryz.prog 77 #[.slice A xs.length c, .slice B ys.length d] w (EqPost (xs = ys) w) := by
  unfold maxLen at hn hm
  have HX := Lib.hid hx
  have HY := Lib.hid hy
  clear hx hy
  by_cases hl : xs.length = ys.length
  case neg =>
    have hl' : ¬ ((xs.length : Int) = (ys.length : Int)) := by omega
    have FIN : Hid (EqPost (xs = ys) w (.returned (.bool false)) w) := ⟨false, rfl, by simp; rintro rfl; exact hl rfl, Ext.refl _⟩
    go_enter Tryz.func77, Tryz.ntmps77
    go_wp2_with fail
    go_ret
    exact FIN.out
  have HL := Lib.hid hl
  go_enter Tryz.func77, Tryz.ntmps77
  go_wp2_with fail
  go_loopw [13] (fun i wr => ∃ k : Nat, k ≤ xs.length ∧ i = .int .i64 k ∧ Ext w wr ∧ Hid (xs.take k = ys.take k)) (fun i _ => xs.length - (intOf i).toNat)
  case atStart => exact ⟨0, by omega, rfl, Ext.refl _, rfl⟩
  case round =>
    obtain ⟨k, hk, rfl, he, ht⟩ := hrel
    by_cases hlt : k < xs.length
    · obtain ⟨b, o, x, hA, hxk, ok1, c0⟩ := (HX.out.ext RInt.keeps he).int hlt
      obtain ⟨b', o', y, hB, hyk, ok2, d0⟩ := (HY.out.ext RInt.keeps he).int (show k < ys.length by omega)
      have HXK := Lib.hid hxk
      have HYK := Lib.hid hyk
      subst hA
      subst hB
      clear hxk hyk
      have s2 : (k : Int) < (ys.length : Int) := by omega
      have s3 : (k : Int) < (xs.length : Int) := by omega
      have s4 : (0 : Int) ≤ (k : Int) := by omega
      by_cases h1 : x = y
      case neg =>
        have FIN : ∀ wx, Ext wr wx → Hid (EqPost (xs = ys) w (.returned (.bool false)) wx) := fun wx hwx => ⟨false, rfl, by simp; exact ne_at HXK.out HYK.out h1, he.trans hwx⟩
        go_wp2_with fail
        go_quiet (fail)
        go_wp2_with fail
        go_ret
        exact (FIN _ (by first | exact Ext.refl _ | exact (Ext.refl _).drew | exact (Ext.refl _).drewN _)).out
      have HN : Hid (xs.take (k + 1) = ys.take (k + 1)) := take_eq_succ ht.out HXK.out (by rw [HYK.out]; rw [h1])
      go_wp2_with fail
      go_quiet (fail)
      go_wp2_with fail
      go_roundw
      case rel => exact ⟨k + 1, by omega, by go_num, he.drewN _, HN⟩
      case measure => simp [intOf]; omega
    · have FIN : Hid (EqPost (xs = ys) w (.returned (.bool true)) wr) := ⟨true, rfl, by simp; exact take_eq_all HL.out ht.out (by omega), he⟩
      go_wp2_with fail
      go_ret
      exact FIN.out

set_option maxHeartbeats 1000000 in
theorem eqStr_any (A B : Option Addr) (c d : Nat) (xs ys : List ByteArray) (w : World) (hn : xs.length ≤ maxLen) (hm : ys.length ≤ maxLen) (hx : Sl RStr 1 w A xs) (hy : Sl RStr 1 w B ys) :
    Calls Tryz.prog 119 #[.slice A xs.length c, .slice B ys.length d] w (EqPost (xs = ys) w) := by
  unfold maxLen at hn hm
  have HX := Lib.hid hx
  have HY := Lib.hid hy
  clear hx hy
  by_cases hl : xs.length = ys.length
  case neg =>
    have hl' : ¬ ((xs.length : Int) = (ys.length : Int)) := by omega
    have FIN : Hid (EqPost (xs = ys) w (.returned (.bool false)) w) := ⟨false, rfl, by simp; rintro rfl; exact hl rfl, Ext.refl _⟩
    go_enter Tryz.func119, Tryz.ntmps119
    go_wp2_with fail
    go_ret
    exact FIN.out
  have HL := Lib.hid hl
  go_enter Tryz.func119, Tryz.ntmps119
  go_wp2_with fail
  go_loopw [13] (fun i wr => ∃ k : Nat, k ≤ xs.length ∧ i = .int .i64 k ∧ Ext w wr ∧ Hid (xs.take k = ys.take k)) (fun i _ => xs.length - (intOf i).toNat)
  case atStart => exact ⟨0, by omega, rfl, Ext.refl _, rfl⟩
  case round =>
    obtain ⟨k, hk, rfl, he, ht⟩ := hrel
    by_cases hlt : k < xs.length
    · obtain ⟨b, o, x, hA, hxk, ok1, c0⟩ := (HX.out.ext RStr.keeps he).str hlt
      obtain ⟨b', o', y, hB, hyk, ok2, d0⟩ := (HY.out.ext RStr.keeps he).str (show k < ys.length by omega)
      have HXK := Lib.hid hxk
      have HYK := Lib.hid hyk
      subst hA
      subst hB
      clear hxk hyk
      have s2 : (k : Int) < (ys.length : Int) := by omega
      have s3 : (k : Int) < (xs.length : Int) := by omega
      have s4 : (0 : Int) ≤ (k : Int) := by omega
      by_cases h1 : x = y
      case neg =>
        have FIN : ∀ wx, Ext wr wx → Hid (EqPost (xs = ys) w (.returned (.bool false)) wx) := fun wx hwx => ⟨false, rfl, by simp; exact ne_at HXK.out HYK.out h1, he.trans hwx⟩
        have qh1 : (x.toList == y.toList) = false := eqS_false.2 h1
        go_wp2_with fail
        go_quiet (fail)
        go_wp2_with fail
        go_ret
        exact (FIN _ (by first | exact Ext.refl _ | exact (Ext.refl _).drew | exact (Ext.refl _).drewN _)).out
      have ph1 : (x.toList == y.toList) = true := eqS_iff.2 h1
      have HN : Hid (xs.take (k + 1) = ys.take (k + 1)) := take_eq_succ ht.out HXK.out (by rw [HYK.out]; rw [h1])
      go_wp2_with fail
      go_quiet (fail)
      go_wp2_with fail
      go_roundw
      case rel => exact ⟨k + 1, by omega, by go_num, he.drewN _, HN⟩
      case measure => simp [intOf]; omega
    · have FIN : Hid (EqPost (xs = ys) w (.returned (.bool true)) wr) := ⟨true, rfl, by simp; exact take_eq_all HL.out ht.out (by omega), he⟩
      go_wp2_with fail
      go_ret
      exact FIN.out

set_option maxHeartbeats 1000000 in
theorem eqPair_any (A B : Option Addr) (c d : Nat) (xs ys : List Pr) (w : World) (hn : xs.length ≤ maxLen) (hm : ys.length ≤ maxLen) (hx : Sl RPair 2 w A xs) (hy : Sl RPair 2 w B ys) :
    Calls Tryz.prog 78 #[.slice A xs.length c, .slice B ys.length d] w (EqPost (xs = ys) w) := by
  unfold maxLen at hn hm
  have HX := Lib.hid hx
  have HY := Lib.hid hy
  clear hx hy
  by_cases hl : xs.length = ys.length
  case neg =>
    have hl' : ¬ ((xs.length : Int) = (ys.length : Int)) := by omega
    have FIN : Hid (EqPost (xs = ys) w (.returned (.bool false)) w) := ⟨false, rfl, by simp; rintro rfl; exact hl rfl, Ext.refl _⟩
    go_enter Tryz.func78, Tryz.ntmps78
    go_wp2_with fail
    go_ret
    exact FIN.out
  have HL := Lib.hid hl
  go_enter Tryz.func78, Tryz.ntmps78
  go_wp2_with fail
  go_loopw [13] (fun i wr => ∃ k : Nat, k ≤ xs.length ∧ i = .int .i64 k ∧ Ext w wr ∧ Hid (xs.take k = ys.take k)) (fun i _ => xs.length - (intOf i).toNat)
  case atStart => exact ⟨0, by omega, rfl, Ext.refl _, rfl⟩
  case round =>
    obtain ⟨k, hk, rfl, he, ht⟩ := hrel
    by_cases hlt : k < xs.length
    · obtain ⟨b, o, x, hA, hxk, ok1, ok2, c0, c1⟩ := (HX.out.ext RPair.keeps he).pair hlt
      obtain ⟨b', o', y, hB, hyk, ok3, ok4, d0, d1⟩ := (HY.out.ext RPair.keeps he).pair (show k < ys.length by omega)
      have HXK := Lib.hid hxk
      have HYK := Lib.hid hyk
      subst hA
      subst hB
      clear hxk hyk
      have s2 : (k : Int) < (ys.length : Int) := by omega
      have s3 : (k : Int) < (xs.length : Int) := by omega
      have s4 : (0 : Int) ≤ (k : Int) := by omega
      by_cases h1 : x.key = y.key
      case neg =>
        have FIN : ∀ wx, Ext wr wx → Hid (EqPost (xs = ys) w (.returned (.bool false)) wx) := fun wx hwx => ⟨false, rfl, by simp; exact ne_at HXK.out HYK.out (fun e => h1 (by rw [e])), he.trans hwx⟩
        have qh1 : (x.key.toList == y.key.toList) = false := eqS_false.2 h1
        have hne := neq_pair
        go_wp2_with fail
        go_quiet (fail)
        go_wp2_with fail
        go_ret
        exact (FIN _ (by first | exact Ext.refl _ | exact (Ext.refl _).drew | exact (Ext.refl _).drewN _)).out
      have ph1 : (x.key.toList == y.key.toList) = true := eqS_iff.2 h1
      by_cases h2 : x.val = y.val
      case neg =>
        have FIN : ∀ wx, Ext wr wx → Hid (EqPost (xs = ys) w (.returned (.bool false)) wx) := fun wx hwx => ⟨false, rfl, by simp; exact ne_at HXK.out HYK.out (fun e => h2 (by rw [e])), he.trans hwx⟩
        have qh2 : (x.val.toList == y.val.toList) = false := eqS_false.2 h2
        have hne := neq_pair
        go_wp2_with fail
        go_quiet (fail)
        go_wp2_with fail
        go_ret
        exact (FIN _ (by first | exact Ext.refl _ | exact (Ext.refl _).drew | exact (Ext.refl _).drewN _)).out
      have ph2 : (x.val.toList == y.val.toList) = true := eqS_iff.2 h2
      have hne := neq_pair
      have HN : Hid (xs.take (k + 1) = ys.take (k + 1)) := take_eq_succ ht.out HXK.out (by rw [HYK.out]; congr 1; obtain ⟨x1, x2⟩ := x; obtain ⟨y1, y2⟩ := y; simp at h1 h2; rw [h1, h2])
      go_wp2_with fail
      go_quiet (fail)
      go_wp2_with fail
      go_roundw
      case rel => exact ⟨k + 1, by omega, by go_num, he.drewN _, HN⟩
      case measure => simp [intOf]; omega
    · have FIN : Hid (EqPost (xs = ys) w (.returned (.bool true)) wr) := ⟨true, rfl, by simp; exact take_eq_all HL.out ht.out (by omega), he⟩
      go_wp2_with fail
      go_ret
      exact FIN.out

set_option maxHeartbeats 1000000 in
theorem eqTaint_any (A B : Option Addr) (c d : Nat) (xs ys : List Pr) (w : World) (hn : xs.length ≤ maxLen) (hm : ys.length ≤ maxLen) (hx : Sl RPair 2 w A xs) (hy : Sl RPair 2 w B ys) :
    Calls Tryz.prog 81 #[.slice A xs.length c, .slice B ys.length d] w (EqPost (xs = ys) w) := by
  unfold maxLen at hn hm
  have HX := Lib.hid hx
  have HY := Lib.hid hy
  clear hx hy
  by_cases hl : xs.length = ys.length
  case neg =>
    have hl' : ¬ ((xs.length : Int) = (ys.length : Int)) := by omega
    have FIN : Hid (EqPost (xs = ys) w (.returned (.bool false)) w) := ⟨false, rfl, by simp; rintro rfl; exact hl rfl, Ext.refl _⟩
    go_enter Tryz.func81, Tryz.ntmps81
    go_wp2_with fail
    go_ret
    exact FIN.out
  have HL := Lib.hid hl
  go_enter Tryz.func81, Tryz.ntmps81
  go_wp2_with fail
  go_loopw [13] (fun i wr => ∃ k : Nat, k ≤ xs.length ∧ i = .int .i64 k ∧ Ext w wr ∧ Hid (xs.take k = ys.take k)) (fun i _ => xs.length - (intOf i).toNat)
  case atStart => exact ⟨0, by omega, rfl, Ext.refl _, rfl⟩
  case round =>
    obtain ⟨k, hk, rfl, he, ht⟩ := hrel
    by_cases hlt : k < xs.length
    · obtain ⟨b, o, x, hA, hxk, ok1, ok2, c0, c1⟩ := (HX.out.ext RPair.keeps he).pair hlt
      obtain ⟨b', o', y, hB, hyk, ok3, ok4, d0, d1⟩ := (HY.out.ext RPair.keeps he).pair (show k < ys.length by omega)
      have HXK := Lib.hid hxk
      have HYK := Lib.hid hyk
      subst hA
      subst hB
      clear hxk hyk
      have s2 : (k : Int) < (ys.length : Int) := by omega
      have s3 : (k : Int) < (xs.length : Int) := by omega
      have s4 : (0 : Int) ≤ (k : Int) := by omega
      by_cases h1 : x.key = y.key
      case neg =>
        have FIN : ∀ wx, Ext wr wx → Hid (EqPost (xs = ys) w (.returned (.bool false)) wx) := fun wx hwx => ⟨false, rfl, by simp; exact ne_at HXK.out HYK.out (fun e => h1 (by rw [e])), he.trans hwx⟩
        have qh1 : (x.key.toList == y.key.toList) = false := eqS_false.2 h1
        have hne := neq_taint
        go_wp2_with fail
        go_quiet (fail)
        go_wp2_with fail
        go_ret
        exact (FIN _ (by first | exact Ext.refl _ | exact (Ext.refl _).drew | exact (Ext.refl _).drewN _)).out
      have ph1 : (x.key.toList == y.key.toList) = true := eqS_iff.2 h1
      by_cases h2 : x.val = y.val
      case neg =>
        have FIN : ∀ wx, Ext wr wx → Hid (EqPost (xs = ys) w (.returned (.bool false)) wx) := fun wx hwx => ⟨false, rfl, by simp; exact ne_at HXK.out HYK.out (fun e => h2 (by rw [e])), he.trans hwx⟩
        have qh2 : (x.val.toList == y.val.toList) = false := eqS_false.2 h2
        have hne := neq_taint
        go_wp2_with fail
        go_quiet (fail)
        go_wp2_with fail
        go_ret
        exact (FIN _ (by first | exact Ext.refl _ | exact (Ext.refl _).drew | exact (Ext.refl _).drewN _)).out
      have ph2 : (x.val.toList == y.val.toList) = true := eqS_iff.2 h2
      have hne := neq_taint
      have HN : Hid (xs.take (k + 1) = ys.take (k + 1)) := take_eq_succ ht.out HXK.out (by rw [HYK.out]; congr 1; obtain ⟨x1, x2⟩ := x; obtain ⟨y1, y2⟩ := y; simp at h1 h2; rw [h1, h2])
      go_wp2_with fail
      go_quiet (fail)
      go_wp2_with fail
      go_roundw
      case rel => exact ⟨k + 1, by omega, by go_num, he.drewN _, HN⟩
      case measure => simp [intOf]; omega
    · have FIN : Hid (EqPost (xs = ys) w (.returned (.bool true)) wr) := ⟨true, rfl, by simp; exact take_eq_all HL.out ht.out (by omega), he⟩
      go_wp2_with fail
      go_ret
      exact FIN.out

set_option maxHeartbeats 1000000 in
theorem eqToler_any (A B : Option Addr) (c d : Nat) (xs ys : List Tl) (w : World) (hn : xs.length ≤ maxLen) (hm : ys.length ≤ maxLen) (hx : Sl RTol 3 w A xs) (hy : Sl RTol 3 w B ys) :
    Calls Tryz.prog 79 #[.slice A xs.length c, .slice B ys.length d] w (EqPost (xs = ys) w) := by
  unfold maxLen at hn hm
  have HX := Lib.hid hx
  have HY := Lib.hid hy
  clear hx hy
  by_cases hl : xs.length = ys.length
  case neg =>
    have hl' : ¬ ((xs.length : Int) = (ys.length : Int)) := by omega
    have FIN : Hid (EqPost (xs = ys) w (.returned (.bool false)) w) := ⟨false, rfl, by simp; rintro rfl; exact hl rfl, Ext.refl _⟩
    go_enter Tryz.func79, Tryz.ntmps79
    go_wp2_with fail
    go_ret
    exact FIN.out
  have HL := Lib.hid hl
  go_enter Tryz.func79, Tryz.ntmps79
  go_wp2_with fail
  go_loopw [13] (fun i wr => ∃ k : Nat, k ≤ xs.length ∧ i = .int .i64 k ∧ Ext w wr ∧ Hid (xs.take k = ys.take k)) (fun i _ => xs.length - (intOf i).toNat)
  case atStart => exact ⟨0, by omega, rfl, Ext.refl _, rfl⟩
  case round =>
    obtain ⟨k, hk, rfl, he, ht⟩ := hrel
    by_cases hlt : k < xs.length
    · obtain ⟨b, o, x, hA, hxk, ok1, ok2, c0, c1, c2⟩ := (HX.out.ext RTol.keeps he).tol hlt
      obtain ⟨b', o', y, hB, hyk, ok3, ok4, d0, d1, d2⟩ := (HY.out.ext RTol.keeps he).tol (show k < ys.length by omega)
      have HXK := Lib.hid hxk
      have HYK := Lib.hid hyk
      subst hA
      subst hB
      clear hxk hyk
      have s2 : (k : Int) < (ys.length : Int) := by omega
      have s3 : (k : Int) < (xs.length : Int) := by omega
      have s4 : (0 : Int) ≤ (k : Int) := by omega
      by_cases h1 : x.key = y.key
      case neg =>
        have FIN : ∀ wx, Ext wr wx → Hid (EqPost (xs = ys) w (.returned (.bool false)) wx) := fun wx hwx => ⟨false, rfl, by simp; exact ne_at HXK.out HYK.out (fun e => h1 (by rw [e])), he.trans hwx⟩
        have qh1 : (x.key.toList == y.key.toList) = false := eqS_false.2 h1
        have hne := neq_toler
        go_wp2_with fail
        go_quiet (fail)
        go_wp2_with fail
        go_ret
        exact (FIN _ (by first | exact Ext.refl _ | exact (Ext.refl _).drew | exact (Ext.refl _).drewN _)).out
      have ph1 : (x.key.toList == y.key.toList) = true := eqS_iff.2 h1
      by_cases h2 : x.val = y.val
      case neg =>
        have FIN : ∀ wx, Ext wr wx → Hid (EqPost (xs = ys) w (.returned (.bool false)) wx) := fun wx hwx => ⟨false, rfl, by simp; exact ne_at HXK.out HYK.out (fun e => h2 (by rw [e])), he.trans hwx⟩
        have qh2 : (x.val.toList == y.val.toList) = false := eqS_false.2 h2
        have hne := neq_toler
        go_wp2_with fail
        go_quiet (fail)
        go_wp2_with fail
        go_ret
        exact (FIN _ (by first | exact Ext.refl _ | exact (Ext.refl _).drew | exact (Ext.refl _).drewN _)).out
      have ph2 : (x.val.toList == y.val.toList) = true := eqS_iff.2 h2
      by_cases h3 : x.any = y.any
      case neg =>
        have FIN : ∀ wx, Ext wr wx → Hid (EqPost (xs = ys) w (.returned (.bool false)) wx) := fun wx hwx => ⟨false, rfl, by simp; exact ne_at HXK.out HYK.out (fun e => h3 (by rw [e])), he.trans hwx⟩
        have qh3 : (x.any == y.any) = false := by simpa using h3
        have hne := neq_toler
        go_wp2_with fail
        go_quiet (fail)
        go_wp2_with fail
        go_ret
        exact (FIN _ (by first | exact Ext.refl _ | exact (Ext.refl _).drew | exact (Ext.refl _).drewN _)).out
      have ph3 : (x.any == y.any) = true := by simpa using h3
      have hne := neq_toler
      have HN : Hid (xs.take (k + 1) = ys.take (k + 1)) := take_eq_succ ht.out HXK.out (by rw [HYK.out]; congr 1; obtain ⟨x1, x2, x3⟩ := x; obtain ⟨y1, y2, y3⟩ := y; simp at h1 h2 h3; rw [h1, h2, h3])
      go_wp2_with fail
      go_quiet (fail)
      go_wp2_with fail
      go_roundw
      case rel => exact ⟨k + 1, by omega, by go_num, he.drewN _, HN⟩
      case measure => simp [intOf]; omega
    · have FIN : Hid (EqPost (xs = ys) w (.returned (.bool true)) wr) := ⟨true, rfl, by simp; exact take_eq_all HL.out ht.out (by omega), he⟩
      go_wp2_with fail
      go_ret
      exact FIN.out
end Go.Proofs.YthfafenigjldlaaGreat
