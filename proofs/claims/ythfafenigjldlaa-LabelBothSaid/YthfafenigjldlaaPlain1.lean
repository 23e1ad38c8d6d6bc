/-
  Plain laws of labels: terms together, the first of two alike keys, more labels.
-/
import Derived.Test.YthfafenigjldlaaSpec1
namespace Go.Proofs.Ythfafenigjldlaa
open Go.RowKit
set_option linter.unusedVariables false

theorem matchB_app (a b : List Tm) (l : List Pr) : matchB (a ++ b) l = (matchB a l && matchB b l) := by simp [matchB, List.any_append]
theorem match1 (t : Tm) (l : List Pr) : matchB [t] l = holdsB t l := by simp [matchB]
theorem getO_app (l m : List Pr) (key : ByteArray) : getO (l ++ m) key = (getO l key).or (getO m key) := by
  induction l with
  | nil => rfl
  | cons x r ih =>
    simp only [List.cons_append, getO]
    split
    · rfl
    · exact ih
theorem bytesLess_lt : ∀ (x y : List UInt8), Op.bytesLess x y = decide (x < y) := by
  intro x
  induction x with
  | nil => intro y; cases y <;> simp [Op.bytesLess]
  | cons a x ih =>
    intro y
    cases y with
    | nil => simp [Op.bytesLess]
    | cons b y =>
      simp only [Op.bytesLess, List.cons_lt_cons_iff]
      by_cases h : a < b
      · simp [h]
      · by_cases h2 : a = b
        · subst h2; simp [ih]
        · simp [h, h2]
theorem ltS_iff {a b : ByteArray} : ltS a b = true ↔ a.toList < b.toList := by simp [ltS, bytesLess_lt]
theorem ltS_irrefl (a : ByteArray) : ltS a a = false := by
  rw [← Bool.not_eq_true, ltS_iff]
  exact List.lt_irrefl _
theorem ltS_trans {a b c : ByteArray} (h : ltS a b = true) (k : ltS b c = true) : ltS a c = true := by
  rw [ltS_iff] at h k ⊢
  exact List.lt_trans h k
theorem mayFrom_lt : ∀ (xs : List Pr) (k : ByteArray), mayFrom (some k) xs = true → ∀ x ∈ xs, ltS k x.key = true := by
  intro xs
  induction xs with
  | nil => intro k _ x hx; cases hx
  | cons y r ih =>
    intro k h x hx
    simp only [mayFrom, Bool.and_eq_true] at h
    rcases List.mem_cons.1 hx with rfl | hx
    · exact h.1.2
    · exact ltS_trans h.1.2 (ih _ h.2 x hx)
theorem first_may (l : List Pr) (key a b : ByteArray) : mayPairs (⟨key, a⟩ :: (l ++ [⟨key, b⟩])) = false := by
  rw [← Bool.not_eq_true]
  intro h
  unfold mayPairs at h
  simp only [mayFrom, Bool.and_eq_true] at h
  have := mayFrom_lt _ _ h.1.2 ⟨key, b⟩ (by simp)
  rw [ltS_irrefl] at this
  cases this
theorem first_get (l : List Pr) (key a b : ByteArray) : getV (⟨key, a⟩ :: (l ++ [⟨key, b⟩])) key = a ∧ getB (⟨key, a⟩ :: (l ++ [⟨key, b⟩])) key = true := by
  have e : getO (⟨key, a⟩ :: (l ++ [⟨key, b⟩])) key = some a := by simp [getO, eqS_self]
  unfold getV getB
  rw [e]; exact ⟨rfl, rfl⟩
theorem first_end (l : List Pr) (key b : ByteArray) : getB (l ++ [⟨key, b⟩]) key = true ∧ (getB l key = false → getV (l ++ [⟨key, b⟩]) key = b) := by
  unfold getV getB
  rw [getO_app]
  have e : getO [⟨key, b⟩] key = some b := by simp [getO, eqS_self]
  rw [e]
  cases getO l key <;> simp
theorem more_get (l : List Pr) (p : Pr) (key : ByteArray) (h : getB l key = true) : getB (l ++ [p]) key = true ∧ getV (l ++ [p]) key = getV l key := by
  unfold getV getB at *
  rw [getO_app]
  cases hg : getO l key with
  | none => rw [hg] at h; cases h
  | some v => simp
theorem more_in (t : Tm) (l : List Pr) (p : Pr) (h : t.kind = 1 ∨ t.kind = 3) (ha : matchB [t] l = true) : matchB [t] (l ++ [p]) = true := by
  rw [match1] at *
  unfold holdsB at *
  rcases h with h | h
  · rw [h] at ha ⊢
    simp at ha ⊢
    obtain ⟨h1, h2⟩ := more_get l p t.key ha.1
    exact ⟨h1, by rw [h2]; exact ha.2⟩
  · rw [h] at ha ⊢
    simp at ha ⊢
    exact (more_get l p t.key ha).1
theorem more_not (t : Tm) (l : List Pr) (p : Pr) (h : t.kind = 2 ∨ t.kind = 4) (ha : matchB [t] (l ++ [p]) = true) : matchB [t] l = true := by
  rw [match1] at *
  unfold holdsB at *
  rcases h with h | h
  · rw [h] at ha ⊢
    simp at ha ⊢
    cases h1 : getB l t.key with
    | false => exact .inl rfl
    | true =>
      obtain ⟨h2, h3⟩ := more_get l p t.key h1
      rw [h2, h3] at ha
      exact .inr (by simpa using ha)
  · rw [h] at ha ⊢
    simp at ha ⊢
    cases hg : getB l t.key with
    | false => rfl
    | true => rw [(more_get l p t.key hg).1] at ha; cases ha
theorem more_else (t : Tm) (l : List Pr) (h1 : t.kind ≠ 1) (h2 : t.kind ≠ 2) (h3 : t.kind ≠ 3) (h4 : t.kind ≠ 4) : matchB [t] l = false := by
  rw [match1]
  unfold holdsB
  rw [if_neg h1, if_neg h2, if_neg h3, if_neg h4]
end Go.Proofs.Ythfafenigjldlaa
