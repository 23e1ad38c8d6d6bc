/-
  'interrexlaw1.QtyShare': the walk and the plain law of shares.
-/
import Derived.Test.YthfafenigjldlaaQty1
import Derived.IntWalk
namespace Go.Proofs.Ythfafenigjldlaa
open Go.RowKit
set_option linter.unusedVariables false

def BegunAny : Prop := ∀ w : World, Calls Try.prog 10 #[] w fun e w' => e = .returned (.bool true) ∧ Ext w w'

theorem share_none {p q : Int} (h : q < 1 ∨ 1000000000 < q) : shareI p q = 0 := by unfold shareI; rw [if_pos h]
theorem share_def {p q : Int} (h1 : 1 ≤ q) (h2 : q ≤ 1000000000) : shareI p q = 100 * min (max p 0) q / q := by unfold shareI; rw [if_neg (by omega)]
theorem share_range {p q : Int} (h1 : 1 ≤ q) (h2 : q ≤ 1000000000) : 0 ≤ shareI p q ∧ shareI p q ≤ 100 := by
  rw [share_def h1 h2]
  refine ⟨Int.ediv_nonneg (by omega) (by omega), ?_⟩
  have := Int.ediv_le_ediv (a := 100 * min (max p 0) q) (b := 100 * q) (c := q) (by omega) (by omega)
  rwa [Int.mul_ediv_cancel _ (by omega)] at this
theorem share_mono {p p' q : Int} (h1 : 1 ≤ q) (h2 : q ≤ 1000000000) (h : p ≤ p') : shareI p q ≤ shareI p' q := by
  rw [share_def h1 h2, share_def h1 h2]
  exact Int.ediv_le_ediv (by omega) (by omega)
theorem share_full {p q : Int} (h1 : 1 ≤ q) (h2 : q ≤ 1000000000) (h : q ≤ p) : shareI p q = 100 := by
  rw [share_def h1 h2, show min (max p 0) q = q by omega, Int.mul_ediv_cancel _ (by omega)]
theorem share_zero {p q : Int} (h1 : 1 ≤ q) (h2 : q ≤ 1000000000) (h : p ≤ 0) : shareI p q = 0 := by
  rw [share_def h1 h2, show min (max p 0) q = 0 by omega]; simp
theorem share_between {p q : Int} (h1 : 1 ≤ q) (h2 : q ≤ 1000000000) (h3 : 0 ≤ p) (h4 : p ≤ q) : shareI p q * q ≤ 100 * p ∧ 100 * p < (shareI p q + 1) * q := by
  rw [share_def h1 h2, show min (max p 0) q = p by omega]
  have e := Int.emod_add_mul_ediv (100 * p) q
  have m1 := Int.emod_nonneg (100 * p) (show q ≠ 0 by omega)
  have m2 := Int.emod_lt_of_pos (100 * p) (show 0 < q by omega)
  rw [Int.mul_comm q] at e
  rw [Int.add_mul]
  constructor <;> omega

set_option maxHeartbeats 2000000 in
set_option maxRecDepth 20000 in
theorem qtyShare_lt (HBA : Hid BegunAny) (p m q : Int) (w : World) (hp : inI p) (hm : inI m) (hq : inI q) (hpm : p < m) :
    Calls Try.prog 3 #[.int .i64 p, .int .i64 m, .int .i64 q] w fun e w' => e = .returned (.bool true) ∧ Ext w w' := by
  by_cases hr : q < 1 ∨ 1000000000 < q
  · have HR := Lib.hid hr
    have hr2 : decide (q < 1) = false → 1000000000 < q := by intro h; simp at h; omega
    rcases hr with hr | hr
    all_goals (
      go_enter Try.func3, Try.ntmps3
      go_wp2_with fail
      refine (HBA.out _).mono ?_
      rintro e w1 ⟨rfl, e1⟩
      have E1 := Lib.hid e1
      clear e1
      go_wp2_with fail
      refine (qShare_any p q _).mono ?_
      rintro e w2 ⟨rfl, rfl⟩
      rw [share_none HR.out]
      go_wp2_with fail
      refine (qShare_any m q _).mono ?_
      rintro e w2 ⟨rfl, rfl⟩
      rw [share_none HR.out]
      go_wp2_with fail
      go_ret
      exact ⟨by first | rfl | (refine ret_bool ?_; simp <;> omega), E1.out⟩)
  have h1 : 1 ≤ q := by omega
  have h2 : q ≤ 1000000000 := by omega
  clear hr
  obtain ⟨a, ha⟩ : ∃ a, a = shareI p q := ⟨_, rfl⟩
  have HA := Lib.hid ha
  have ⟨a0, a1⟩ : 0 ≤ a ∧ a ≤ 100 := by rw [ha]; exact share_range h1 h2
  clear ha
  by_cases c1 : p < 0
  · obtain rfl : a = 0 := by rw [HA.out]; exact share_zero h1 h2 (by omega)
    have c2 : p < q := by omega
    go_enter Try.func3, Try.ntmps3
    go_wp2_with fail
    refine (HBA.out _).mono ?_
    rintro e w1 ⟨rfl, e1⟩
    have E1 := Lib.hid e1
    clear e1
    go_wp2_with fail
    refine (qShare_any p q _).mono ?_
    rintro e w2 ⟨rfl, rfl⟩
    rw [← HA.out]
    go_wp2_with fail
    refine (qShare_any m q _).mono ?_
    rintro e w2 ⟨rfl, rfl⟩
    obtain ⟨b, hb⟩ : ∃ b, b = shareI m q := ⟨_, rfl⟩
    rw [← hb]
    have hab := share_mono (p := p) (p' := m) h1 h2 (by omega)
    rw [← HA.out, ← hb] at hab
    clear hb
    go_wp2_with fail
    refine (qShare_any q q _).mono ?_
    rintro e w2 ⟨rfl, rfl⟩
    rw [share_full h1 h2 (by omega)]
    go_wp2_with fail
    refine (qShare_any 0 q _).mono ?_
    rintro e w2 ⟨rfl, rfl⟩
    rw [share_zero h1 h2 (by omega)]
    go_wp2_with fail
    go_ret
    exact ⟨by first | rfl | (refine ret_bool ?_; simp <;> omega), E1.out⟩
  by_cases c2 : q < p
  · obtain rfl : a = 100 := by rw [HA.out]; exact share_full h1 h2 (by omega)
    have c3 : 0 < p := by omega
    go_enter Try.func3, Try.ntmps3
    go_wp2_with fail
    refine (HBA.out _).mono ?_
    rintro e w1 ⟨rfl, e1⟩
    have E1 := Lib.hid e1
    clear e1
    go_wp2_with fail
    refine (qShare_any p q _).mono ?_
    rintro e w2 ⟨rfl, rfl⟩
    rw [← HA.out]
    go_wp2_with fail
    refine (qShare_any m q _).mono ?_
    rintro e w2 ⟨rfl, rfl⟩
    obtain ⟨b, hb⟩ : ∃ b, b = shareI m q := ⟨_, rfl⟩
    rw [← hb]
    have hab := share_mono (p := p) (p' := m) h1 h2 (by omega)
    rw [← HA.out, ← hb] at hab
    clear hb
    go_wp2_with fail
    refine (qShare_any q q _).mono ?_
    rintro e w2 ⟨rfl, rfl⟩
    rw [share_full h1 h2 (by omega)]
    go_wp2_with fail
    refine (qShare_any 0 q _).mono ?_
    rintro e w2 ⟨rfl, rfl⟩
    rw [share_zero h1 h2 (by omega)]
    go_wp2_with fail
    go_ret
    exact ⟨by first | rfl | (refine ret_bool ?_; simp <;> omega), E1.out⟩
  by_cases c3 : p = q
  · obtain rfl : a = 100 := by rw [HA.out]; exact share_full h1 h2 (by omega)
    have c4 : 0 < p := by omega
    have c5 : ¬ p < q := by omega
    subst c3
    have w1 : IntKind.i64.wrap (100 * p) = 100 * p := IntWalk.i64_in _ (by omega)
    have w4 : IntKind.i64.wrap (101 * p) = 101 * p := IntWalk.i64_in _ (by omega)
    have w5 : (100 : Int) * p < 101 * p := by omega
    go_enter Try.func3, Try.ntmps3
    go_wp2_with fail
    refine (HBA.out _).mono ?_
    rintro e w1 ⟨rfl, e1⟩
    have E1 := Lib.hid e1
    clear e1
    go_wp2_with fail
    refine (qShare_any p p _).mono ?_
    rintro e w2 ⟨rfl, rfl⟩
    rw [← HA.out]
    go_wp2_with fail
    refine (qShare_any m p _).mono ?_
    rintro e w2 ⟨rfl, rfl⟩
    obtain ⟨b, hb⟩ : ∃ b, b = shareI m p := ⟨_, rfl⟩
    rw [← hb]
    have hab := share_mono (p := p) (p' := m) h1 h2 (by omega)
    rw [← HA.out, ← hb] at hab
    clear hb
    go_wp2_with fail
    refine (qShare_any p p _).mono ?_
    rintro e w2 ⟨rfl, rfl⟩
    rw [share_full h1 h2 (by omega)]
    go_wp2_with fail
    refine (qShare_any 0 p _).mono ?_
    rintro e w2 ⟨rfl, rfl⟩
    rw [share_zero h1 h2 (by omega)]
    go_wp2_with fail
    go_ret
    exact ⟨by first | rfl | (refine ret_bool ?_; simp <;> omega), E1.out⟩
  by_cases c4 : p = 0
  · obtain rfl : a = 0 := by rw [HA.out]; exact share_zero h1 h2 (by omega)
    subst c4
    have c5 : 0 < q := by omega
    have wq : IntKind.i64.wrap q = q := IntWalk.i64_in _ (by omega)
    go_enter Try.func3, Try.ntmps3
    go_wp2_with fail
    refine (HBA.out _).mono ?_
    rintro e w1 ⟨rfl, e1⟩
    have E1 := Lib.hid e1
    clear e1
    go_wp2_with fail
    refine (qShare_any 0 q _).mono ?_
    rintro e w2 ⟨rfl, rfl⟩
    rw [← HA.out]
    go_wp2_with fail
    refine (qShare_any m q _).mono ?_
    rintro e w2 ⟨rfl, rfl⟩
    obtain ⟨b, hb⟩ : ∃ b, b = shareI m q := ⟨_, rfl⟩
    rw [← hb]
    have hab := share_mono (p := 0) (p' := m) h1 h2 (by omega)
    rw [← HA.out, ← hb] at hab
    clear hb
    go_wp2_with fail
    refine (qShare_any q q _).mono ?_
    rintro e w2 ⟨rfl, rfl⟩
    rw [share_full h1 h2 (by omega)]
    go_wp2_with fail
    refine (qShare_any 0 q _).mono ?_
    rintro e w2 ⟨rfl, rfl⟩
    rw [share_zero h1 h2 (by omega)]
    go_wp2_with fail
    go_ret
    exact ⟨by first | rfl | (refine ret_bool ?_; simp <;> omega), E1.out⟩
  have hb := share_between (p := p) (q := q) h1 h2 (by omega) (by omega)
  rw [← HA.out] at hb
  have m1 : a * q ≤ 100000000000 := Int.le_trans (Int.mul_le_mul a1 h2 (by omega) (by omega)) (by decide)
  have m2 : 0 ≤ a * q := Int.mul_nonneg a0 (by omega)
  have m3 : (a + 1) * q = a * q + q := by rw [Int.add_mul]; omega
  have w1 : IntKind.i64.wrap (a * q) = a * q := IntWalk.i64_in _ (by omega)
  have w2 : IntKind.i64.wrap (100 * p) = 100 * p := IntWalk.i64_in _ (by omega)
  have w3 : IntKind.i64.wrap (a + 1) = a + 1 := IntWalk.i64_in _ (by omega)
  have w4 : IntKind.i64.wrap ((a + 1) * q) = (a + 1) * q := IntWalk.i64_in _ (by omega)
  have f1 := hb.1
  have f2 := hb.2
  clear hb m3 m1 m2
  have c5 : p < q := by omega
  have c6 : 0 < p := by omega
  go_enter Try.func3, Try.ntmps3
  go_wp2_with fail
  refine (HBA.out _).mono ?_
  rintro e w1 ⟨rfl, e1⟩
  have E1 := Lib.hid e1
  clear e1
  go_wp2_with fail
  refine (qShare_any p q _).mono ?_
  rintro e w2 ⟨rfl, rfl⟩
  rw [← HA.out]
  go_wp2_with fail
  refine (qShare_any m q _).mono ?_
  rintro e w2 ⟨rfl, rfl⟩
  obtain ⟨b, hb⟩ : ∃ b, b = shareI m q := ⟨_, rfl⟩
  rw [← hb]
  have hab := share_mono (p := p) (p' := m) h1 h2 (by omega)
  rw [← HA.out, ← hb] at hab
  clear hb
  go_wp2_with fail
  refine (qShare_any q q _).mono ?_
  rintro e w2 ⟨rfl, rfl⟩
  rw [share_full h1 h2 (by omega)]
  go_wp2_with fail
  refine (qShare_any 0 q _).mono ?_
  rintro e w2 ⟨rfl, rfl⟩
  rw [share_zero h1 h2 (by omega)]
  go_wp2_with fail
  go_ret
  exact ⟨by first | rfl | (refine ret_bool ?_; simp <;> omega), E1.out⟩

set_option maxHeartbeats 2000000 in
set_option maxRecDepth 20000 in
theorem qtyShare_ge (HBA : Hid BegunAny) (p m q : Int) (w : World) (hp : inI p) (hm : inI m) (hq : inI q) (hpm : m ≤ p) :
    Calls Try.prog 3 #[.int .i64 p, .int .i64 m, .int .i64 q] w fun e w' => e = .returned (.bool true) ∧ Ext w w' := by
  by_cases hr : q < 1 ∨ 1000000000 < q
  · have HR := Lib.hid hr
    have hr2 : decide (q < 1) = false → 1000000000 < q := by intro h; simp at h; omega
    rcases hr with hr | hr
    all_goals (
      go_enter Try.func3, Try.ntmps3
      go_wp2_with fail
      refine (HBA.out _).mono ?_
      rintro e w1 ⟨rfl, e1⟩
      have E1 := Lib.hid e1
      clear e1
      go_wp2_with fail
      refine (qShare_any p q _).mono ?_
      rintro e w2 ⟨rfl, rfl⟩
      rw [share_none HR.out]
      go_wp2_with fail
      refine (qShare_any p q _).mono ?_
      rintro e w2 ⟨rfl, rfl⟩
      rw [share_none HR.out]
      go_wp2_with fail
      go_ret
      exact ⟨by first | rfl | (refine ret_bool ?_; simp <;> omega), E1.out⟩)
  have h1 : 1 ≤ q := by omega
  have h2 : q ≤ 1000000000 := by omega
  clear hr
  obtain ⟨a, ha⟩ : ∃ a, a = shareI p q := ⟨_, rfl⟩
  have HA := Lib.hid ha
  have ⟨a0, a1⟩ : 0 ≤ a ∧ a ≤ 100 := by rw [ha]; exact share_range h1 h2
  clear ha
  by_cases c1 : p < 0
  · obtain rfl : a = 0 := by rw [HA.out]; exact share_zero h1 h2 (by omega)
    have c2 : p < q := by omega
    go_enter Try.func3, Try.ntmps3
    go_wp2_with fail
    refine (HBA.out _).mono ?_
    rintro e w1 ⟨rfl, e1⟩
    have E1 := Lib.hid e1
    clear e1
    go_wp2_with fail
    refine (qShare_any p q _).mono ?_
    rintro e w2 ⟨rfl, rfl⟩
    rw [← HA.out]
    go_wp2_with fail
    refine (qShare_any p q _).mono ?_
    rintro e w2 ⟨rfl, rfl⟩
    rw [← HA.out]
    go_wp2_with fail
    refine (qShare_any q q _).mono ?_
    rintro e w2 ⟨rfl, rfl⟩
    rw [share_full h1 h2 (by omega)]
    go_wp2_with fail
    refine (qShare_any 0 q _).mono ?_
    rintro e w2 ⟨rfl, rfl⟩
    rw [share_zero h1 h2 (by omega)]
    go_wp2_with fail
    go_ret
    exact ⟨by first | rfl | (refine ret_bool ?_; simp <;> omega), E1.out⟩
  by_cases c2 : q < p
  · obtain rfl : a = 100 := by rw [HA.out]; exact share_full h1 h2 (by omega)
    have c3 : 0 < p := by omega
    go_enter Try.func3, Try.ntmps3
    go_wp2_with fail
    refine (HBA.out _).mono ?_
    rintro e w1 ⟨rfl, e1⟩
    have E1 := Lib.hid e1
    clear e1
    go_wp2_with fail
    refine (qShare_any p q _).mono ?_
    rintro e w2 ⟨rfl, rfl⟩
    rw [← HA.out]
    go_wp2_with fail
    refine (qShare_any p q _).mono ?_
    rintro e w2 ⟨rfl, rfl⟩
    rw [← HA.out]
    go_wp2_with fail
    refine (qShare_any q q _).mono ?_
    rintro e w2 ⟨rfl, rfl⟩
    rw [share_full h1 h2 (by omega)]
    go_wp2_with fail
    refine (qShare_any 0 q _).mono ?_
    rintro e w2 ⟨rfl, rfl⟩
    rw [share_zero h1 h2 (by omega)]
    go_wp2_with fail
    go_ret
    exact ⟨by first | rfl | (refine ret_bool ?_; simp <;> omega), E1.out⟩
  by_cases c3 : p = q
  · obtain rfl : a = 100 := by rw [HA.out]; exact share_full h1 h2 (by omega)
    have c4 : 0 < p := by omega
    have c5 : ¬ p < q := by omega
    subst c3
    have w1 : IntKind.i64.wrap (100 * p) = 100 * p := IntWalk.i64_in _ (by omega)
    have w4 : IntKind.i64.wrap (101 * p) = 101 * p := IntWalk.i64_in _ (by omega)
    have w5 : (100 : Int) * p < 101 * p := by omega
    go_enter Try.func3, Try.ntmps3
    go_wp2_with fail
    refine (HBA.out _).mono ?_
    rintro e w1 ⟨rfl, e1⟩
    have E1 := Lib.hid e1
    clear e1
    go_wp2_with fail
    refine (qShare_any p p _).mono ?_
    rintro e w2 ⟨rfl, rfl⟩
    rw [← HA.out]
    go_wp2_with fail
    refine (qShare_any p p _).mono ?_
    rintro e w2 ⟨rfl, rfl⟩
    rw [← HA.out]
    go_wp2_with fail
    refine (qShare_any p p _).mono ?_
    rintro e w2 ⟨rfl, rfl⟩
    rw [share_full h1 h2 (by omega)]
    go_wp2_with fail
    refine (qShare_any 0 p _).mono ?_
    rintro e w2 ⟨rfl, rfl⟩
    rw [share_zero h1 h2 (by omega)]
    go_wp2_with fail
    go_ret
    exact ⟨by first | rfl | (refine ret_bool ?_; simp <;> omega), E1.out⟩
  by_cases c4 : p = 0
  · obtain rfl : a = 0 := by rw [HA.out]; exact share_zero h1 h2 (by omega)
    subst c4
    have c5 : 0 < q := by omega
    have wq : IntKind.i64.wrap q = q := IntWalk.i64_in _ (by omega)
    go_enter Try.func3, Try.ntmps3
    go_wp2_with fail
    refine (HBA.out _).mono ?_
    rintro e w1 ⟨rfl, e1⟩
    have E1 := Lib.hid e1
    clear e1
    go_wp2_with fail
    refine (qShare_any 0 q _).mono ?_
    rintro e w2 ⟨rfl, rfl⟩
    rw [← HA.out]
    go_wp2_with fail
    refine (qShare_any 0 q _).mono ?_
    rintro e w2 ⟨rfl, rfl⟩
    rw [← HA.out]
    go_wp2_with fail
    refine (qShare_any q q _).mono ?_
    rintro e w2 ⟨rfl, rfl⟩
    rw [share_full h1 h2 (by omega)]
    go_wp2_with fail
    refine (qShare_any 0 q _).mono ?_
    rintro e w2 ⟨rfl, rfl⟩
    rw [share_zero h1 h2 (by omega)]
    go_wp2_with fail
    go_ret
    exact ⟨by first | rfl | (refine ret_bool ?_; simp <;> omega), E1.out⟩
  have hb := share_between (p := p) (q := q) h1 h2 (by omega) (by omega)
  rw [← HA.out] at hb
  have m1 : a * q ≤ 100000000000 := Int.le_trans (Int.mul_le_mul a1 h2 (by omega) (by omega)) (by decide)
  have m2 : 0 ≤ a * q := Int.mul_nonneg a0 (by omega)
  have m3 : (a + 1) * q = a * q + q := by rw [Int.add_mul]; omega
  have w1 : IntKind.i64.wrap (a * q) = a * q := IntWalk.i64_in _ (by omega)
  have w2 : IntKind.i64.wrap (100 * p) = 100 * p := IntWalk.i64_in _ (by omega)
  have w3 : IntKind.i64.wrap (a + 1) = a + 1 := IntWalk.i64_in _ (by omega)
  have w4 : IntKind.i64.wrap ((a + 1) * q) = (a + 1) * q := IntWalk.i64_in _ (by omega)
  have f1 := hb.1
  have f2 := hb.2
  clear hb m3 m1 m2
  have c5 : p < q := by omega
  have c6 : 0 < p := by omega
  go_enter Try.func3, Try.ntmps3
  go_wp2_with fail
  refine (HBA.out _).mono ?_
  rintro e w1 ⟨rfl, e1⟩
  have E1 := Lib.hid e1
  clear e1
  go_wp2_with fail
  refine (qShare_any p q _).mono ?_
  rintro e w2 ⟨rfl, rfl⟩
  rw [← HA.out]
  go_wp2_with fail
  refine (qShare_any p q _).mono ?_
  rintro e w2 ⟨rfl, rfl⟩
  rw [← HA.out]
  go_wp2_with fail
  refine (qShare_any q q _).mono ?_
  rintro e w2 ⟨rfl, rfl⟩
  rw [share_full h1 h2 (by omega)]
  go_wp2_with fail
  refine (qShare_any 0 q _).mono ?_
  rintro e w2 ⟨rfl, rfl⟩
  rw [share_zero h1 h2 (by omega)]
  go_wp2_with fail
  go_ret
  exact ⟨by first | rfl | (refine ret_bool ?_; simp <;> omega), E1.out⟩

theorem qtyShare_any (HBA : Hid BegunAny) (p m q : Int) (w : World) (hp : inI p) (hm : inI m) (hq : inI q) :
    Calls Try.prog 3 #[.int .i64 p, .int .i64 m, .int .i64 q] w fun e w' => e = .returned (.bool true) ∧ Ext w w' := by
  by_cases h : p < m
  · exact qtyShare_lt HBA p m q w hp hm hq h
  · exact qtyShare_ge HBA p m q w hp hm hq (by omega)
end Go.Proofs.Ythfafenigjldlaa
