/-
  Plain Lean: what was written is read again: numbers, names, counts, pairs, terms, amounts.
-/
import Derived.Test.YthfafenigjldlaaGet4
namespace Go.Proofs.Ythfafenigjldlaa
open Go.RowKit
set_option linter.unusedVariables false

theorem snocInd {α : Type} {p : List α → Prop} (nil : p []) (snoc : ∀ xs x, p xs → p (xs ++ [x])) (xs : List α) : p xs := by
  have h : ∀ ys : List α, p ys.reverse := by
    intro ys
    induction ys with
    | nil => exact nil
    | cons y r ih => rw [List.reverse_cons]; exact snoc _ _ ih
  have := h xs.reverse
  rwa [List.reverse_reverse] at this
theorem numAt_succ (n s i : Nat) (h : i < s) : numAt n (s + 1) i = numAt (n / 256) s i := by
  unfold numAt
  rw [show s + 1 - 1 - i = (s - 1 - i) + 1 by omega, Nat.pow_succ, Nat.mul_comm, Nat.div_div_eq_div_mul]
theorem numB_succ (n s : Nat) : numB n (s + 1) = numB (n / 256) s ++ [UInt8.ofNat n] := by
  unfold numB
  rw [List.range_succ, List.map_append]
  congr 1
  · apply List.map_congr_left
    intro i hi
    exact numAt_succ n s i (by simpa using hi)
  · simp [numAt]
theorem numVal_numB (s : Nat) : ∀ n, numVal (numB n s) = n % 256 ^ s := by
  induction s with
  | zero => intro n; simp [numB, numVal, Nat.mod_one]
  | succ s ih =>
    intro n
    rw [numB_succ, numVal_snoc, ih, Nat.pow_succ]
    have h1 : (UInt8.ofNat n).toNat = n % 256 := by simp
    rw [h1]
    have e := Nat.mod_mul_right_div_self n 256 (256 ^ s)
    have h2 : n % (256 * 256 ^ s) = 256 * (n / 256 % 256 ^ s) + n % 256 := by
      rw [Nat.mod_mul]; omega
    rw [Nat.mul_comm (256 ^ s) 256, h2]; omega
theorem numF_app (n s : Nat) (rest : List UInt8) (bad : Bool) (h1 : n < 256 ^ s) (h2 : n < 9223372036854775808) : numF s (numB n s ++ rest) bad = ((n : Int), rest, bad) := by
  have hl := numB_len n s
  unfold numF
  rw [if_neg (by rw [List.length_append]; omega), List.take_left' hl, List.drop_left' hl]
  unfold valI
  rw [numVal_numB, Nat.mod_eq_of_lt h1, IntWalk.i64_in _ (by omega)]

/-! ### names -/
theorem bk_dig : ∀ b < 256, letB (b : Nat) = true → dig b ≠ 0 ∧ bkB (dig b) = UInt8.ofNat b := by decide +kernel
theorem bk_dig8 (b : UInt8) (h : letB b.toNat = true) : dig b.toNat ≠ 0 ∧ bkB (dig b.toNat) = b := by
  have := bk_dig b.toNat (UInt8.toNat_lt b) h
  simpa using this
def dgt (s : List UInt8) (k : Nat) : Nat := match s[k]? with | some b => dig b.toNat | none => 0
theorem dgt_le (s : List UInt8) (k : Nat) : dgt s k ≤ 37 := by unfold dgt; split; exact dig_le _; omega
theorem nameK_div (s : List UInt8) (k j : Nat) (h : j ≤ k) : nameK s k / 38 ^ j = nameK s (k - j) := by
  induction j with
  | zero => simp
  | succ j ih =>
    rw [Nat.pow_succ, ← Nat.div_div_eq_div_mul, ih (by omega), show k - j = (k - (j + 1)) + 1 by omega]
    have := dgt_le s (k - (j + 1))
    show (nameK s (k - (j + 1)) * 38 + dgt s (k - (j + 1))) / 38 = _
    omega
theorem nameK_mod (s : List UInt8) (k : Nat) : nameK s (k + 1) % 38 = dgt s k := by
  have := dgt_le s k
  show (nameK s k * 38 + dgt s k) % 38 = _
  omega
theorem decL_name (s : List UInt8) (hl : s.length ≤ 12) (hs : nameL s = true) (k : Nat) (hk : k ≤ 12) : (decL (nameK s 12) k).reverse = s.drop (12 - k) := by
  induction k with
  | zero => simp [decL]; omega
  | succ k ih =>
    have hd : nameK s 12 / 38 ^ k % 38 = dgt s (11 - k) := by
      rw [nameK_div s 12 k (by omega), show 12 - k = (11 - k) + 1 by omega, nameK_mod]
    simp only [decL, List.reverse_append, ih (by omega), hd]
    rw [show 12 - (k + 1) = 11 - k by omega]
    rcases Nat.lt_or_ge (11 - k) s.length with h | h
    · have e : s[11 - k]? = some s[11 - k] := List.getElem?_eq_getElem h
      have hb : letB (s[11 - k]).toNat = true := by
        have := List.all_eq_true.1 hs _ (List.getElem_mem h)
        simpa using this
      obtain ⟨b1, b2⟩ := bk_dig8 _ hb
      have hg : dgt s (11 - k) = dig (s[11 - k]).toNat := by unfold dgt; rw [e]
      rw [hg, if_neg b1, b2, List.drop_eq_getElem_cons h, show 11 - k + 1 = 12 - k by omega]
      rfl
    · have e : s[11 - k]? = none := List.getElem?_eq_none h
      have hg : dgt s (11 - k) = 0 := by unfold dgt; rw [e]
      rw [hg, if_pos rfl, List.drop_eq_nil_of_le h, List.drop_eq_nil_of_le (by omega)]
      rfl
/-- a name, or nothing -/
def okN (s : ByteArray) : Prop := s.data.toList.length ≤ 12 ∧ nameL s.data.toList = true
theorem okN_name {s : ByteArray} (h : nameB s = true) : okN s := by
  simp only [nameB, Bool.and_eq_true, decide_eq_true_eq] at h
  exact ⟨h.1.2, h.2⟩
theorem okN_emp {s : ByteArray} (h : empS s = true) : okN s := by
  obtain rfl := empS_iff.1 h
  exact ⟨by simp, rfl⟩
theorem nameOf_K (s : ByteArray) (h : okN s) : nameOf (nameK s.data.toList 12) = s := by
  unfold nameOf
  rw [decL_name _ h.1 h.2 12 (by omega)]
  simp
theorem nameFR_app (s : ByteArray) (rest : List UInt8) (bad : Bool) (h : okN s) : nameFR (nameB8 s ++ rest) bad = (s, rest, bad) := by
  have hk := nameK_lt s.data.toList 12
  have h12 : (38 : Nat) ^ 12 < 9223372036854775808 := by decide
  have h8 : (9223372036854775808 : Nat) < 256 ^ 8 := by decide
  have e : numF 8 (nameB8 s ++ rest) bad = _ := numF_app (nameK s.data.toList 12) 8 rest bad (Nat.lt_trans (Nat.lt_trans hk h12) h8) (Nat.lt_trans hk h12)
  unfold nameFR
  rw [e]
  simp only
  have hu : ∀ u : Nat, u < 9223372036854775808 → uOf (u : Int) = u := by intro u hu; unfold uOf; omega
  rw [hu _ (Nat.lt_trans hk h12), nameOf_K s h]
theorem countF_app (n : Nat) (rest : List UInt8) (bad : Bool) (h : n < 256) (h2 : n ≤ rest.length) : countF 1 (numB n 1 ++ rest) bad = ((n : Int), rest, bad) := by
  unfold countF
  rw [numF_app n 1 rest bad (by omega) (by omega)]
  rw [if_neg (by simp; omega)]

/-! ### pairs, terms, amounts -/
theorem pairsFrom_app (xs : List Pr) (bad : Bool) (h : ∀ x ∈ xs, okN x.key ∧ okN x.val) (rest : List UInt8) : pairsFrom xs.length (xs.flatMap pairB ++ rest) bad = (xs, rest, bad) := by
  induction xs using snocInd generalizing rest with
  | nil => rfl
  | snoc xs x ih =>
    have hx := h x (by simp)
    rw [List.length_append, List.length_singleton, List.flatMap_append, List.append_assoc]
    simp only [pairsFrom, List.flatMap_cons, List.flatMap_nil, List.append_nil]
    rw [ih (fun y hy => h y (by simp [hy]))]
    simp only [pairB, List.append_assoc]
    rw [nameFR_app _ _ _ hx.1]
    simp only
    rw [nameFR_app _ _ _ hx.2]
theorem flat_len_ge {α : Type} {f : α → List UInt8} (hf : ∀ x, 1 ≤ (f x).length) (l : List α) : l.length ≤ (l.flatMap f).length := by
  induction l with
  | nil => simp
  | cons x r ih => have := hf x; simp only [List.flatMap_cons, List.length_append, List.length_cons]; omega
theorem pairsF_app (xs : List Pr) (bad : Bool) (h : ∀ x ∈ xs, okN x.key ∧ okN x.val) (hn : xs.length ≤ 6) (rest : List UInt8) : pairsF (pairsB xs ++ rest) bad = (xs, rest, bad) := by
  have hl := flat_len_ge (f := pairB) (fun x => by rw [pairB_len]; omega) xs
  unfold pairsF pairsB
  rw [List.append_assoc, countF_app _ _ _ (by omega) (by rw [List.length_append]; omega)]
  exact pairsFrom_app xs bad h rest
theorem valsFrom_app (xs : List ByteArray) (bad : Bool) (h : ∀ x ∈ xs, okN x) (rest : List UInt8) : valsFrom xs.length (xs.flatMap nameB8 ++ rest) bad = (xs, rest, bad) := by
  induction xs using snocInd generalizing rest with
  | nil => rfl
  | snoc xs x ih =>
    have hx := h x (by simp)
    rw [List.length_append, List.length_singleton, List.flatMap_append, List.append_assoc]
    simp only [valsFrom, List.flatMap_cons, List.flatMap_nil, List.append_nil]
    rw [ih (fun y hy => h y (by simp [hy]))]
    simp only
    rw [nameFR_app _ _ _ hx]
def okTm (t : Tm) : Prop := okN t.key ∧ 0 ≤ t.kind ∧ t.kind < 256 ∧ t.vals.length ≤ 6 ∧ ∀ x ∈ t.vals, okN x
theorem termF_app (t : Tm) (bad : Bool) (h : okTm t) (rest : List UInt8) : termF (termB t ++ rest) bad = (t, rest, bad) := by
  obtain ⟨h1, h2, h3, h4, h5⟩ := h
  have hl := flat_len_ge (f := nameB8) (fun x => by rw [nameB8_len]; omega) t.vals
  unfold termF termB valsB
  simp only [List.append_assoc]
  rw [nameFR_app _ _ _ h1]
  simp only
  rw [numF_app _ 1 _ _ (by omega) (by omega)]
  simp only
  rw [countF_app _ _ _ (by omega) (by rw [List.length_append]; omega)]
  simp only [Int.toNat_natCast]
  rw [valsFrom_app _ _ h5]
  simp only [Int.toNat_of_nonneg h2]
theorem termsFrom_app (xs : List Tm) (bad : Bool) (h : ∀ x ∈ xs, okTm x) (rest : List UInt8) : termsFrom xs.length (xs.flatMap termB ++ rest) bad = (xs, rest, bad) := by
  induction xs using snocInd generalizing rest with
  | nil => rfl
  | snoc xs x ih =>
    have hx := h x (by simp)
    rw [List.length_append, List.length_singleton, List.flatMap_append, List.append_assoc]
    simp only [termsFrom, List.flatMap_cons, List.flatMap_nil, List.append_nil]
    rw [ih (fun y hy => h y (by simp [hy]))]
    simp only
    rw [termF_app _ _ hx]
theorem termsF_app (xs : List Tm) (bad : Bool) (h : ∀ x ∈ xs, okTm x) (hn : xs.length ≤ 6) (rest : List UInt8) : termsF (termsB xs ++ rest) bad = (xs, rest, bad) := by
  have hl := flat_len_ge (f := termB) (fun x => by rw [termB, List.length_append, List.length_append, nameB8_len]; omega) xs
  unfold termsF termsB
  rw [List.append_assoc, countF_app _ _ _ (by omega) (by rw [List.length_append]; omega)]
  exact termsFrom_app xs bad h rest
theorem resF_app (r : Rs) (bad : Bool) (ha : 0 ≤ r.a) (ha' : r.a ≤ 1000000000) (hb : 0 ≤ r.b) (hb' : r.b ≤ 1000000000) (hc : 0 ≤ r.c) (hc' : r.c ≤ 1000000000) (rest : List UInt8) : resF (resB r ++ rest) bad = (r, rest, bad) := by
  unfold resF resB
  simp only [List.append_assoc]
  rw [numF_app _ 4 _ _ (by omega) (by omega)]
  simp only
  rw [numF_app _ 4 _ _ (by omega) (by omega)]
  simp only
  rw [numF_app _ 4 _ _ (by omega) (by omega)]
  simp only [Int.toNat_of_nonneg ha, Int.toNat_of_nonneg hb, Int.toNat_of_nonneg hc]
end Go.Proofs.Ythfafenigjldlaa
