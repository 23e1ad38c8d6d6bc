/-
  Plain laws of amounts; the walk of 'fine'; three amounts in boxes.
-/
import Derived.Test.YthfafenigjldlaaGreatQty2
import Derived.Test.YthfafenigjldlaaGreatObj1
namespace Go.Proofs.YthfafenigjldlaaGreat
open Go.RowKit
set_option linter.unusedVariables false

theorem addB_iff (a b : Rs) : addB a b = true ↔ ((0 ≤ a.a ∧ a.a ≤ 4611686018427387904) ∧ (0 ≤ b.a ∧ b.a ≤ 4611686018427387904) ∧ a.a + b.a ≤ 4611686018427387904) ∧ ((0 ≤ a.b ∧ a.b ≤ 4611686018427387904) ∧ (0 ≤ b.b ∧ b.b ≤ 4611686018427387904) ∧ a.b + b.b ≤ 4611686018427387904) ∧
    ((0 ≤ a.c ∧ a.c ≤ 4611686018427387904) ∧ (0 ≤ b.c ∧ b.c ≤ 4611686018427387904) ∧ a.c + b.c ≤ 4611686018427387904) := by
  simp only [addB, addOk, inQ, Bool.and_eq_true, decide_eq_true_eq]
  omega
theorem subB_iff (a b : Rs) : subB a b = true ↔ ((0 ≤ a.a ∧ a.a ≤ 4611686018427387904) ∧ (0 ≤ b.a ∧ b.a ≤ 4611686018427387904) ∧ b.a ≤ a.a) ∧ ((0 ≤ a.b ∧ a.b ≤ 4611686018427387904) ∧ (0 ≤ b.b ∧ b.b ≤ 4611686018427387904) ∧ b.b ≤ a.b) ∧
    ((0 ≤ a.c ∧ a.c ≤ 4611686018427387904) ∧ (0 ≤ b.c ∧ b.c ≤ 4611686018427387904) ∧ b.c ≤ a.c) := by
  simp only [subB, subOk, inQ, Bool.and_eq_true, decide_eq_true_eq]
  omega
theorem fitsB_iff (a b : Rs) : fitsB a b = true ↔ a.a ≤ b.a ∧ a.b ≤ b.b ∧ a.c ≤ b.c := by
  simp only [fitsB, Bool.and_eq_true, decide_eq_true_eq]
  omega
theorem rs_ext {a b : Rs} (h1 : a.a = b.a) (h2 : a.b = b.b) (h3 : a.c = b.c) : a = b := by
  cases a; cases b; simp_all
theorem addB_comm (a b : Rs) : addB a b = addB b a := by
  rw [Bool.eq_iff_iff, addB_iff, addB_iff]
  omega
theorem addV_comm (a b : Rs) : addV a b = addV b a := by
  unfold addV
  rw [addB_comm a b]
  split
  · exact rs_ext (Int.add_comm _ _) (Int.add_comm _ _) (Int.add_comm _ _)
  · rfl
theorem addV_yes {a b : Rs} (h : addB a b = true) : addV a b = ⟨a.a + b.a, a.b + b.b, a.c + b.c⟩ := by unfold addV; rw [if_pos h]
theorem subV_yes {a b : Rs} (h : subB a b = true) : subV a b = ⟨a.a - b.a, a.b - b.b, a.c - b.c⟩ := by unfold subV; rw [if_pos h]
theorem add_back {a b : Rs} (h : addB a b = true) : subB (addV a b) b = true ∧ subV (addV a b) b = a ∧ fitsB a (addV a b) = true ∧ fitsB b (addV a b) = true := by
  have e := addV_yes h
  have hs : subB (addV a b) b = true := by
    rw [e, subB_iff]
    rw [addB_iff] at h
    simp only
    omega
  refine ⟨hs, ?_, ?_, ?_⟩
  · rw [subV_yes hs, e]
    exact rs_ext (by simp only; omega) (by simp only; omega) (by simp only; omega)
  · rw [e, fitsB_iff]
    rw [addB_iff] at h
    simp only
    omega
  · rw [e, fitsB_iff]
    rw [addB_iff] at h
    simp only
    omega
theorem sub_back {a b : Rs} (h : subB b a = true) : addB (subV b a) a = true ∧ addV (subV b a) a = b ∧ fitsB a b = true ∧ fitsB (subV b a) b = true := by
  have e := subV_yes h
  have hs : addB (subV b a) a = true := by
    rw [e, addB_iff]
    rw [subB_iff] at h
    simp only
    omega
  refine ⟨hs, ?_, ?_, ?_⟩
  · rw [addV_yes hs, e]
    exact rs_ext (by simp only; omega) (by simp only; omega) (by simp only; omega)
  · rw [fitsB_iff]
    rw [subB_iff] at h
    omega
  · rw [e, fitsB_iff]
    rw [subB_iff] at h
    simp only
    omega
def fineB (r : Rs) : Bool := inQ r.a && inQ r.b && inQ r.c
theorem sub_none {a b : Rs} (h : subB b a = false) : subV b a = zeroR ∧ ¬ (fitsB a b = true ∧ fineB a = true ∧ fineB b = true) := by
  constructor
  · unfold subV; rw [h]; rfl
  · intro k
    rw [← Bool.not_eq_true] at h
    apply h
    rw [subB_iff]
    rw [fitsB_iff] at k
    simp only [fineB, inQ, Bool.and_eq_true, decide_eq_true_eq] at k
    omega
theorem fits_trans {a b c : Rs} (h : fitsB a b = true) (k : fitsB b c = true) : fitsB a c = true := by
  rw [fitsB_iff] at *
  omega
theorem sum3_rev {a b c : Rs} (h : sumB [a, b, c] = true) (k : sumB [c, b, a] = true) : sumV [a, b, c] = sumV [c, b, a] := by
  unfold sumB sumV at *
  have key : ∀ x y z : Rs, (sumO zeroR [x, y, z]).isSome = true → (sumO zeroR [x, y, z]).getD zeroR = ⟨x.a + y.a + z.a, x.b + y.b + z.b, x.c + y.c + z.c⟩ := by
    intro x y z
    simp only [sumO]
    cases h1 : addB zeroR x
    · simp
    simp only [if_true]
    cases h2 : addB (addV zeroR x) y
    · simp
    simp only [if_true]
    cases h3 : addB (addV (addV zeroR x) y) z
    · simp
    intro _
    simp only [if_true, Option.getD_some]
    rw [addV_yes h3, addV_yes h2, addV_yes h1]
    exact rs_ext (by simp only [zeroR]; omega) (by simp only [zeroR]; omega) (by simp only [zeroR]; omega)
  rw [key _ _ _ h, key _ _ _ k]
  exact rs_ext (by simp only; omega) (by simp only; omega) (by simp only; omega)

def restFine (r : Rs) : Nat → Bool
  | 0 => fineB r
  | 1 => inQ r.b && inQ r.c
  | 2 => inQ r.c
  | _ => true
set_option maxHeartbeats 1000000 in
theorem fine_any (r : Rs) (w : World) : Calls Tryz.prog 44 #[.agg #[.int .i64 r.a, .int .i64 r.b, .int .i64 r.c]] w fun e w' => e = .returned (.bool (fineB r)) ∧ Ext w w' := by
  have AR := Arr3.new w r.a r.b r.c
  have EX : Hid (Ext w (w.alloc (.cells #[.int .i64 r.a, .int .i64 r.b, .int .i64 r.c] 56))) := (Ext.refl _).alloc _
  obtain ⟨W, hW⟩ : ∃ W, w.alloc (.cells #[.int .i64 r.a, .int .i64 r.b, .int .i64 r.c] 56) = W := ⟨_, rfl⟩
  obtain ⟨q, hq⟩ : ∃ q, w.heap.size = q := ⟨_, rfl⟩
  rw [hW] at AR EX
  rw [hq] at AR
  have c0 := AR.c0
  have c1 := AR.c1
  have c2 := AR.c2
  clear AR
  go_enter Tryz.func44, Tryz.ntmps44
  go_wp2_with fail
  go_loop [4] (fun i => ∃ k : Nat, k ≤ 3 ∧ i = .int .i64 k ∧ Hid (fineB r = restFine r k)) (fun i => 3 - (intOf i).toNat)
  case atStart => exact ⟨0, by omega, rfl, rfl⟩
  case round =>
    obtain ⟨k, hk, rfl, hd⟩ := hrel
    rcases (show k = 0 ∨ k = 1 ∨ k = 2 ∨ k = 3 by omega) with rfl | rfl | rfl | rfl
    · by_cases h1 : r.a < 0
      · go_wp2_with fail
        go_ret
        exact ⟨ret_bool (by simp [fineB, inQ]; omega), EX.out⟩
      by_cases h2 : 4611686018427387904 < r.a
      · go_wp2_with fail
        go_ret
        exact ⟨ret_bool (by simp [fineB, inQ]; omega), EX.out⟩
      · have hn : Hid (fineB r = restFine r 1) := by show (inQ r.a && inQ r.b && inQ r.c) = (inQ r.b && inQ r.c); rw [show inQ r.a = true by simp [inQ]; omega]; simp
        go_wp2_with fail
        go_round
        case rel => exact ⟨1, by omega, by go_num, hn⟩
        case measure => simp [intOf]
    · by_cases h1 : r.b < 0
      · go_wp2_with fail
        go_ret
        exact ⟨ret_bool (by simp [fineB, inQ]; omega), EX.out⟩
      by_cases h2 : 4611686018427387904 < r.b
      · go_wp2_with fail
        go_ret
        exact ⟨ret_bool (by simp [fineB, inQ]; omega), EX.out⟩
      · have hn : Hid (fineB r = restFine r 2) := by show _ = _; rw [hd.out]; show (inQ r.b && inQ r.c) = inQ r.c; rw [show inQ r.b = true by simp [inQ]; omega]; simp
        go_wp2_with fail
        go_round
        case rel => exact ⟨2, by omega, by go_num, hn⟩
        case measure => simp [intOf]
    · by_cases h1 : r.c < 0
      · go_wp2_with fail
        go_ret
        exact ⟨ret_bool (by simp [fineB, inQ]; omega), EX.out⟩
      by_cases h2 : 4611686018427387904 < r.c
      · go_wp2_with fail
        go_ret
        exact ⟨ret_bool (by simp [fineB, inQ]; omega), EX.out⟩
      · have hn : Hid (fineB r = restFine r 3) := by show _ = _; rw [hd.out]; show inQ r.c = true; simp [inQ]; omega
        go_wp2_with fail
        go_round
        case rel => exact ⟨3, by omega, by go_num, hn⟩
        case measure => simp [intOf]
    · go_wp2_with fail
      go_ret
      exact ⟨ret_bool (by rw [hd.out]; rfl), EX.out⟩
end Go.Proofs.YthfafenigjldlaaGreat
