/-
  Plain laws of keys.
-/
import Derived.Test.YthfafenigjldlaaGreatKey1
namespace Go.Proofs.YthfafenigjldlaaGreat
open Go.RowKit
set_option linter.unusedVariables false

theorem ba_ext {a b : ByteArray} (h : a.data.toList = b.data.toList) : a = b := ByteArray.ext (Array.toList_inj.mp h)
theorem ba_app (a b : ByteArray) : (a ++ b).data.toList = a.data.toList ++ b.data.toList := by simp
theorem ba_ex (a : ByteArray) (i j : Nat) : (a.extract i j).data.toList = (a.data.toList.drop i).take (j - i) := by
  simp [ByteArray.data_extract, List.extract_eq_take_drop]
theorem ba_size (a : ByteArray) : a.size = a.data.toList.length := rfl
theorem ex_app_right (p a : ByteArray) (n : Nat) (h : p.size = n) : (p ++ a).extract n (p ++ a).size = a := by
  apply ba_ext
  rw [ba_ex, ba_app, ba_size, ba_app]
  rw [ba_size] at h
  subst h
  rw [List.drop_left, List.length_append, Nat.add_sub_cancel_left, List.take_length]
theorem ex_app_left (p a : ByteArray) (n : Nat) (h : p.size = n) : (p ++ a).extract 0 n = p := by
  apply ba_ext
  rw [ba_ex, ba_app]
  rw [ba_size] at h
  subst h
  simp
theorem app_ex (r : ByteArray) (n : Nat) : r.extract 0 n ++ r.extract n r.size = r := by
  apply ba_ext
  rw [ba_app, ba_ex, ba_ex, ba_size, Nat.sub_zero, List.drop_zero]
  rw [List.take_of_length_le (show (r.data.toList.drop n).length ≤ _ by rw [List.length_drop]; omega), List.take_append_drop]
theorem app_size (a b : ByteArray) : (a ++ b).size = a.size + b.size := by rw [ba_size, ba_app, List.length_append]; rfl
theorem pS_size : pS.size = 2 := rfl
theorem nS_size : nS.size = 2 := rfl
theorem lS_size : lS.size = 1 := rfl
theorem nameB_size {a : ByteArray} (h : nameB a = true) : 1 ≤ a.size ∧ a.size ≤ 12 := by
  simp only [nameB, Bool.and_eq_true, decide_eq_true_eq] at h
  exact h.1
theorem pS_ne_nS : pS ≠ nS := by
  intro h
  have := congrArg (fun s : ByteArray => s.data.toList) h
  simp [pS, nS] at this
theorem not_lS {a : ByteArray} (h : 2 < a.size) : a ≠ lS := by
  intro e
  rw [e, lS_size] at h
  omega
theorem kindI_p {a : ByteArray} (h : nameB a = true) : kindI (pS ++ a) = 1 := by
  have hs := nameB_size h
  have h2 : 2 < (pS ++ a).size := by rw [app_size, pS_size]; omega
  unfold kindI
  rw [if_neg (not_lS h2), if_pos ⟨h2, ex_app_left _ _ _ pS_size, by rw [ex_app_right _ _ _ pS_size]; exact h⟩]
theorem kindI_n {a : ByteArray} (h : nameB a = true) : kindI (nS ++ a) = 2 := by
  have hs := nameB_size h
  have h2 : 2 < (nS ++ a).size := by rw [app_size, nS_size]; omega
  unfold kindI
  rw [if_neg (not_lS h2), if_neg (by rw [ex_app_left _ _ _ nS_size]; exact fun h => pS_ne_nS h.2.1.symm), if_pos ⟨h2, ex_app_left _ _ _ nS_size, by rw [ex_app_right _ _ _ nS_size]; exact h⟩]
theorem kindI_l : kindI lS = 3 := by unfold kindI; rw [if_pos rfl]
/-- a key that is there tells its kind -/
theorem keyS_kind (k : Int) (a : ByteArray) : keyS k a = ⟨#[]⟩ ∨ kindI (keyS k a) = k := by
  unfold keyS
  by_cases h3 : k = 3
  · rw [if_pos h3, kindI_l]; exact .inr h3.symm
  rw [if_neg h3]
  by_cases h1 : k = 1 ∧ nameB a = true
  · rw [if_pos h1, kindI_p h1.2]; exact .inr h1.1.symm
  rw [if_neg h1]
  by_cases h2 : k = 2 ∧ nameB a = true
  · rw [if_pos h2, kindI_n h2.2]; exact .inr h2.1.symm
  rw [if_neg h2]; exact .inl rfl
/-- what has a kind is the key of its rest -/
theorem kindI_key (r : ByteArray) : kindI r = 0 ∨ keyS (kindI r) (r.extract (min r.size 2) r.size) = r := by
  unfold kindI
  by_cases h0 : r = lS
  · rw [if_pos h0]; right; unfold keyS; rw [if_pos rfl, h0]
  rw [if_neg h0]
  by_cases h1 : 2 < r.size ∧ r.extract 0 2 = pS ∧ nameB (r.extract 2 r.size) = true
  · rw [if_pos h1]
    right
    rw [show min r.size 2 = 2 by omega]
    unfold keyS
    rw [if_neg (by decide), if_pos ⟨rfl, h1.2.2⟩, ← h1.2.1]
    exact app_ex r 2
  rw [if_neg h1]
  by_cases h2 : 2 < r.size ∧ r.extract 0 2 = nS ∧ nameB (r.extract 2 r.size) = true
  · rw [if_pos h2]
    right
    rw [show min r.size 2 = 2 by omega]
    unfold keyS
    rw [if_neg (by decide), if_neg (fun h => absurd h.1 (by decide)), if_pos ⟨rfl, h2.2.2⟩, ← h2.2.1]
    exact app_ex r 2
  rw [if_neg h2]; exact .inl rfl
theorem okS_ex2 (s : ByteArray) (a b : Nat) (h : okS s) : okS (s.extract a b) := by
  unfold okS at *
  rw [ByteArray.size_extract]
  omega
theorem app_inj_left {p a b : ByteArray} (h : p ++ a = p ++ b) : a = b := by
  have := congrArg (fun s : ByteArray => s.data.toList) h
  simp only [ba_app] at this
  exact ba_ext (List.append_cancel_left this)
theorem pn_ne (a b : ByteArray) : pS ++ a ≠ nS ++ b := by
  intro h
  have := congrArg (fun s : ByteArray => s.data.toList) h
  simp only [ba_app, pS, nS] at this
  simp at this
end Go.Proofs.YthfafenigjldlaaGreat
