/-
  'interrexlaw1.TaintMore': the plain law.
-/
import Derived.Test.YthfafenigjldlaaTaint1
namespace Go.Proofs.Ythfafenigjldlaa
open Go.RowKit
set_option linter.unusedVariables false

theorem all_more_tols (tols : List Tl) (ts : List Pr) (t : Tl) (h : allB tols ts = true) : allB (tols ++ [t]) ts = true := by
  unfold allB at h ⊢
  rw [List.all_eq_true] at h ⊢
  intro x hx
  have := h x hx
  rw [List.any_append, this]; rfl
theorem all_more_taints (tols : List Tl) (ts : List Pr) (x : Pr) (h : allB tols (ts ++ [x]) = true) : allB tols ts = true := by
  unfold allB at h ⊢
  rw [List.all_append, Bool.and_eq_true] at h
  exact h.1
end Go.Proofs.Ythfafenigjldlaa
