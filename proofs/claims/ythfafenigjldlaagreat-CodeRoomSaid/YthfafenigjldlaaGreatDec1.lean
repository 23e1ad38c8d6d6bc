/-
  Plain Lean: what was written is read again: numbers, names, counts, pairs, terms, amounts.
-/
import Derived.Test.YthfafenigjldlaaGreatGet4
namespace Go.Proofs.YthfafenigjldlaaGreat
open Go.RowKit
set_option linter.unusedVariables false

theorem snocInd {α : Type} {p : List α → Prop} (nil : p []) (snoc : ∀ xs x, p xs → p (xs ++ [x])) (xs : List α) : p xs := by
  have h : ∀ ys : List α, p ys.reverse := by
    intro ys
    induction ys with
    | nil => exact nil
    | cons y r ih => rw [List.reverse_cons]; exact snoc _ _ ih
  have := h xs.reverse
  rwa [List.reverse_reverse] at this
theorem numAt_succ (n s i : Nat) (h : i < s) : numAt n (s + 1) i = numAt (n / 256) s i := by
  unfold numAt
  rw [show s + 1 - 1 - i = (s - 1 - i) + 1 by omega, Nat.pow_succ, Nat.mul_comm, Nat.div_div_eq_div_mul]
theorem numB_succ (n s : Nat) : numB n (s + 1) = numB (n / 256) s ++ [UInt8.ofNat n] := by
  unfold numB
  rw [List.range_succ, List.map_append]
  congr 1
  · apply List.map_congr_left
    intro i hi
    exact numAt_succ n s i (by simpa using hi)
  · simp [numAt]
theorem numVal_numB (s : Nat) : ∀ n, numVal (numB n s) = n % 256 ^ s := by
  induction s with
  | zero => intro n; simp [numB, numVal, Nat.mod_one]
  | succ s ih =>
    intro n
    rw [numB_succ, numVal_snoc, ih, Nat.pow_succ]
    have h1 : (UInt8.ofNat n).toNat = n % 256 := by simp
    rw [h1]
    have e := Nat.mod_mul_right_div_self n 256 (256 ^ s)
    have h2 : n % (256 * 256 ^ s) = 256 * (n / 256 % 256 ^ s) + n % 256 := by
      rw [Nat.mod_mul]; omega
    rw [Nat.mul_comm (256 ^ s) 256, h2]; omega
theorem numF_app (n s : Nat) (rest : List UInt8) (bad : Bool) (h1 : n < 256 ^ s) (h2 : n < 9223372036854775808) : numF s (numB n s ++ rest) bad = ((n : Int), rest, bad) := by
  have hl := numB_len n s
  unfold numF
  rw [if_neg (by rw [List.length_append]; omega), List.take_left' hl, List.drop_left' hl]
  unfold valI
  rw [numVal_numB, Nat.mod_eq_of_lt h1, IntWalk.i64_in _ (by omega)]

/-! ### names -/
theorem bk_dig : ∀ b < 256, letB (b : Nat) = true → dig b ≠ 0 ∧ bkB (dig b) = UInt8.ofNat b := by decide +kernel
theorem bk_dig8 (b : UInt8) (h : letB b.toNat = true) : dig b.toNat ≠ 0 ∧ bkB (dig b.toNat) = b := by
  have := bk_dig b.toNat (UInt8.toNat_lt b) h
  simpa using this
def dgt (s : List UInt8) (k : Nat) : Nat := match s[k]? with | some b => dig b.toNat | none => 0
theorem dgt_le (s : List UInt8) (k : Nat) : dgt s k ≤ 37 := by unfold dgt; split; exact dig_le _; omega
theorem nameK_div (s : List UInt8) (k j : Nat) (h : j ≤ k) : nameK s k / 38 ^ j = nameK s (k - j) := by
  induction j with
  | zero => simp
  | succ j ih =>
    rw [Nat.pow_succ, ← Nat.div_div_eq_div_mul, ih (by omega), show k - j = (k - (j + 1)) + 1 by omega]
    have := dgt_le s (k - (j + 1))
    show (nameK s (k - (j + 1)) * 38 + dgt s (k - (j + 1))) / 38 = _
    omega
theorem nameK_mod (s : List UInt8) (k : Nat) : nameK s (k + 1) % 38 = dgt s k := by
  have := dgt_le s k
  show (nameK s k * 38 + dgt s k) % 38 = _
  omega
theorem decL_name (s : List UInt8) (hl : s.length ≤ 12) (hs : nameL s = true) (k : Nat) (hk : k ≤ 12) : (decL (nameK s 12) k).reverse = s.drop (12 - k) := by
  induction k with
  | zero => simp [decL]; omega
  | succ k ih =>
    have hd : nameK s 12 / 38 ^ k % 38 = dgt s (11 - k) := by
      rw [nameK_div s 12 k (by omega), show 12 - k = (11 - k) + 1 by omega, nameK_mod]
    simp only [decL, List.reverse_append, ih (by omega), hd]
    rw [show 12 - (k + 1) = 11 - k by omega]
    rcases Nat.lt_or_ge (11 - k) s.length with h | h
    · have e : s[11 - k]? = some s[11 - k] := List.getElem?_eq_getElem h
      have hb : letB (s[11 - k]).toNat = true := by
        have := List.all_eq_true.1 hs _ (List.getElem_mem h)
        simpa using this
      obtain ⟨b1, b2⟩ := bk_dig8 _ hb
      have hg : dgt s (11 - k) = dig (s[11 - k]).toNat := by unfold dgt; rw [e]
      rw [hg, if_neg b1, b2, List.drop_eq_getElem_cons h, show 11 - k + 1 = 12 - k by omega]
      rfl
    · have e : s[11 - k]? = none := List.getElem?_eq_none h
      have hg : dgt s (11 - k) = 0 := by unfold dgt; rw [e]
      rw [hg, if_pos rfl, List.drop_eq_nil_of_le h, List.drop_eq_nil_of_le (by omega)]
      rfl
/-- a name, or nothing -/
def okN (s : ByteArray) : Prop := s.data.toList.length ≤ 12 ∧ nameL s.data.toList = true
theorem okN_name {s : ByteArray} (h : nameB s = true) : okN s := by
  simp only [nameB, Bool.and_eq_true, decide_eq_true_eq] at h
  exact ⟨h.1.2, h.2⟩
theorem okN_emp {s : ByteArray} (h : empS s = true) : okN s := by
  obtain rfl := empS_iff.1 h
  exact ⟨by simp, rfl⟩
theorem nameOf_K (s : ByteArray) (h : okN s) : nameOf (nameK s.data.toList 12) = s := by
  unfold nameOf
  rw [decL_name _ h.1 h.2 12 (by omega)]
  simp
theorem nameFR_app (s : ByteArray) (rest : List UInt8) (bad : Bool) (h : okN s) : nameFR (nameB8 s ++ rest) bad = (s, rest, bad) := by
  have hk := nameK_lt s.data.toList 12
  have h12 : (38 : Nat) ^ 12 < 9223372036854775808 := by decide
  have h8 : (9223372036854775808 : Nat) < 256 ^ 8 := by decide
  have e : numF 8 (nameB8 s ++ rest) bad = _ := numF_app (nameK s.data.toList 12) 8 rest bad (Nat.lt_trans (Nat.lt_trans hk h12) h8) (Nat.lt_trans hk h12)
  unfold nameFR
  rw [e]
  simp only
  have hu : ∀ u : Nat, u < 9223372036854775808 → uOf (u : Int) = u := by intro u hu; unfold uOf; omega
  rw [hu _ (Nat.lt_trans hk h12), nameOf_K s h]
theorem countF_app (n : Nat) (rest : List UInt8) (bad : Bool) (h : n < 256) (h2 : n ≤ rest.length) : countF 1 (numB n 1 ++ rest) bad = ((n : Int), rest, bad) := by
  unfold countF
  rw [numF_app n 1 rest bad (by omega) (by omega)]
  rw [if_neg (by simp; omega)]

/-! ### pairs, terms, amounts -/
theorem pairsFrom_app (xs : List Pr) (bad : Bool) (h : ∀ x ∈ xs, okN x.key ∧ okN x.val) (rest : List UInt8) : pairsFrom xs.length (xs.flatMap pairB ++ rest) bad = (xs, rest, bad) := by
  induction xs using snocInd generalizing rest with
  | nil => rfl
  | snoc xs x ih =>
    have hx := h x (by simp)
    rw [List.length_append, List.length_singleton, List.flatMap_append, List.append_assoc]
    simp only [pairsFrom, List.flatMap_cons, List.flatMap_nil, List.append_nil]
    rw [ih (fun y hy => h y (by simp [hy]))]
    simp only [pairB, List.append_assoc]
    rw [nameFR_app _ _ _ hx.1]
    simp only
    rw [nameFR_app _ _ _ hx.2]
theorem flat_len_ge {α : Type} {f : α → List UInt8} (hf : ∀ x, 1 ≤ (f x).length) (l : List α) : l.length ≤ (l.flatMap f).length := by
  induction l with
  | nil => simp
  | cons x r ih => have := hf x; simp only [List.flatMap_cons, List.length_append, List.length_cons]; omega
theorem pairsF_app (xs : List Pr) (bad : Bool) (h : ∀ x ∈ xs, okN x.key ∧ okN x.val) (hn : xs.length ≤ 6) (rest : List UInt8) : pairsF (pairsB xs ++ rest) bad = (xs, rest, bad) := by
  have hl := flat_len_ge (f := pairB) (fun x => by rw [pairB_len]; omega) xs
  unfold pairsF pairsB
  rw [List.append_assoc, countF_app _ _ _ (by omega) (by rw [List.length_append]; omega)]
  exact pairsFrom_app xs bad h rest
theorem valsFrom_app (xs : List ByteArray) (bad : Bool) (h : ∀ x ∈ xs, okN x) (rest : List UInt8) : valsFrom xs.length (xs.flatMap nameB8 ++ rest) bad = (xs, rest, bad) := by
  induction xs using snocInd generalizing rest with
  | nil => rfl
  | snoc xs x ih =>
    have hx := h x (by simp)
    rw [List.length_append, List.length_singleton, List.flatMap_append, List.append_assoc]
    simp only [valsFrom, List.flatMap_cons, List.flatMap_nil, List.append_nil]
    rw [ih (fun y hy => h y (by simp [hy]))]
    simp only
    rw [nameFR_app _ _ _ hx]
def okTm (t : Tm) : Prop := okN t.key ∧ 0 ≤ t.kind ∧ t.kind < 256 ∧ t.vals.length ≤ 6 ∧ ∀ x ∈ t.vals, okN x
theorem termF_app (t : Tm) (bad : Bool) (h : okTm t) (rest : List UInt8) : termF (termB t ++ rest) bad = (t, rest, bad) := by
  obtain ⟨h1, h2, h3, h4, h5⟩ := h
  have hl := flat_len_ge (f := nameB8) (fun x => by rw [nameB8_len]; omega) t.vals
  unfold termF termB valsB
  simp only [List.append_assoc]
  rw [nameFR_app _ _ _ h1]
  simp only
  rw [numF_app _ 1 _ _ (by omega) (by omega)]
  simp only
  rw [countF_app _ _ _ (by omega) (by rw [List.length_append]; omega)]
  simp only [Int.toNat_natCast]
  rw [valsFrom_app _ _ h5]
  simp only [Int.toNat_of_nonneg h2]
theorem termsFrom_app (xs : List Tm) (bad : Bool) (h : ∀ x ∈ xs, okTm x) (rest : List UInt8) : termsFrom xs.length (xs.flatMap termB ++ rest) bad = (xs, rest, bad) := by
  induction xs using snocInd generalizing rest with
  | nil => rfl
  | snoc xs x ih =>
    have hx := h x (by simp)
    rw [List.length_append, List.length_singleton, List.flatMap_append, List.append_assoc]
    simp only [termsFrom, List.flatMap_cons, List.flatMap_nil, List.append_nil]
    rw [ih (fun y hy => h y (by simp [hy]))]
    simp only
    rw [termF_app _ _ hx]
theorem termsF_app (xs : List Tm) (bad : Bool) (h : ∀ x ∈ xs, okTm x) (hn : xs.length ≤ 6) (rest : List UInt8) : termsF (termsB xs ++ rest) bad = (xs, rest, bad) := by
  have hl := flat_len_ge (f := termB) (fun x => by rw [termB, List.length_append, List.length_append, nameB8_len]; omega) xs
  unfold termsF termsB
  rw [List.append_assoc, countF_app _ _ _ (by omega) (by rw [List.length_append]; omega)]
  exact termsFrom_app xs bad h rest
theorem resF_app (r : Rs) (bad : Bool) (ha : 0 ≤ r.a) (ha' : r.a ≤ 1000000000) (hb : 0 ≤ r.b) (hb' : r.b ≤ 1000000000) (hc : 0 ≤ r.c) (hc' : r.c ≤ 1000000000) (rest : List UInt8) : resF (resB r ++ rest) bad = (r, rest, bad) := by
  unfold resF resB
  simp only [List.append_assoc]
  rw [numF_app _ 4 _ _ (by omega) (by omega)]
  simp only
  rw [numF_app _ 4 _ _ (by omega) (by omega)]
  simp only
  rw [numF_app _ 4 _ _ (by omega) (by omega)]
  simp only [Int.toNat_of_nonneg ha, Int.toNat_of_nonneg hb, Int.toNat_of_nonneg hc]
end Go.Proofs.YthfafenigjldlaaGreat

/-
  Plain Lean: what GetPod, GetNode, GetLease read; what was written is read again.
-/
namespace Go.Proofs.YthfafenigjldlaaGreat
open Go.RowKit
set_option linter.unusedVariables false

def portsFrom : Nat → List UInt8 → Bool → List Int × List UInt8 × Bool
  | 0, bs, bad => ([], bs, bad)
  | k + 1, bs, bad =>
    let r := portsFrom k bs bad
    let a := numF 2 r.2.1 r.2.2
    (r.1 ++ [a.1], a.2)
theorem portsFrom_len (k : Nat) (bs : List UInt8) (bad : Bool) : (portsFrom k bs bad).1.length = k := by
  induction k with
  | zero => rfl
  | succ k ih => simp [portsFrom, ih]
def portsF (bs : List UInt8) (bad : Bool) : List Int × List UInt8 × Bool := portsFrom (countF 1 bs bad).1.toNat (countF 1 bs bad).2.1 (countF 1 bs bad).2.2
def tolF (bs : List UInt8) (bad : Bool) : Tl × List UInt8 × Bool :=
  let a := nameFR bs bad
  let b := nameFR a.2.1 a.2.2
  let c := boolF b.2.1 b.2.2
  (⟨a.1, b.1, c.1⟩, c.2)
def tolsFrom : Nat → List UInt8 → Bool → List Tl × List UInt8 × Bool
  | 0, bs, bad => ([], bs, bad)
  | k + 1, bs, bad =>
    let r := tolsFrom k bs bad
    let a := tolF r.2.1 r.2.2
    (r.1 ++ [a.1], a.2)
theorem tolsFrom_len (k : Nat) (bs : List UInt8) (bad : Bool) : (tolsFrom k bs bad).1.length = k := by
  induction k with
  | zero => rfl
  | succ k ih => simp [tolsFrom, ih]
def tolsF (bs : List UInt8) (bad : Bool) : List Tl × List UInt8 × Bool := tolsFrom (countF 1 bs bad).1.toNat (countF 1 bs bad).2.1 (countF 1 bs bad).2.2
/-- what GetPod reads, step by step -/
structure PodR (bs : List UInt8) where
  s1 : Int × List UInt8 × Bool
  s2 : ByteArray × List UInt8 × Bool
  s3 : Int × List UInt8 × Bool
  s4 : Int × List UInt8 × Bool
  s5 : Rs × List UInt8 × Bool
  s6 : List Int × List UInt8 × Bool
  s7 : List Pr × List UInt8 × Bool
  s8 : List Tm × List UInt8 × Bool
  s9 : List Tl × List UInt8 × Bool
  s10 : ByteArray × List UInt8 × Bool
  s11 : List Tm × List UInt8 × Bool
  s12 : Int × List UInt8 × Bool
  s13 : List Tm × List UInt8 × Bool
  s14 : ByteArray × List UInt8 × Bool
  s15 : Int × List UInt8 × Bool
  e1 : s1 = numF 1 bs false
  e2 : s2 = nameFR s1.2.1 s1.2.2
  e3 : s3 = numF 8 s2.2.1 s2.2.2
  e4 : s4 = numF 2 s3.2.1 s3.2.2
  e5 : s5 = resF s4.2.1 s4.2.2
  e6 : s6 = portsF s5.2.1 s5.2.2
  e7 : s7 = pairsF s6.2.1 s6.2.2
  e8 : s8 = termsF s7.2.1 s7.2.2
  e9 : s9 = tolsF s8.2.1 s8.2.2
  e10 : s10 = nameFR s9.2.1 s9.2.2
  e11 : s11 = termsF s10.2.1 s10.2.2
  e12 : s12 = numF 1 s11.2.1 s11.2.2
  e13 : s13 = termsF s12.2.1 s12.2.2
  e14 : s14 = nameFR s13.2.1 s13.2.2
  e15 : s15 = numF 8 s14.2.1 s14.2.2
def podR (bs : List UInt8) : PodR bs := ⟨_, _, _, _, _, _, _, _, _, _, _, _, _, _, _, rfl, rfl, rfl, rfl, rfl, rfl, rfl, rfl, rfl, rfl, rfl, rfl, rfl, rfl, rfl⟩
def PodR.pod {bs : List UInt8} (r : PodR bs) : Pd := ⟨r.s2.1, r.s3.1, r.s4.1, r.s5.1, r.s6.1, r.s7.1, r.s8.1, r.s9.1, r.s10.1, r.s11.1, r.s12.1, r.s13.1, r.s14.1, r.s15.1⟩
def zeroPd : Pd := ⟨⟨#[]⟩, 0, 0, zeroR, [], [], [], [], ⟨#[]⟩, [], 0, [], ⟨#[]⟩, 0⟩
/-- whether the bytes are those of an object -/
def podG (bs : List UInt8) : Bool := !(podR bs).s15.2.2 && (podR bs).s15.2.1.isEmpty && decide (bs ≠ []) && (putPodB (podR bs).pod == bs)

def mayNodeB (n : Nd) : Bool := nameB n.name && mayRs n.cap && mayPairs n.labels && mayPairs n.taints
def nodeB (n : Nd) : List UInt8 := numB 2 1 ++ nameB8 n.name ++ resB n.cap ++ pairsB n.labels ++ pairsB n.taints
def putNodeB (n : Nd) : List UInt8 := if mayNodeB n then nodeB n else []
structure NodR (bs : List UInt8) where
  s1 : Int × List UInt8 × Bool
  s2 : ByteArray × List UInt8 × Bool
  s3 : Rs × List UInt8 × Bool
  s4 : List Pr × List UInt8 × Bool
  s5 : List Pr × List UInt8 × Bool
  e1 : s1 = numF 1 bs false
  e2 : s2 = nameFR s1.2.1 s1.2.2
  e3 : s3 = resF s2.2.1 s2.2.2
  e4 : s4 = pairsF s3.2.1 s3.2.2
  e5 : s5 = pairsF s4.2.1 s4.2.2
def nodR (bs : List UInt8) : NodR bs := ⟨_, _, _, _, _, rfl, rfl, rfl, rfl, rfl⟩
def NodR.node {bs : List UInt8} (r : NodR bs) : Nd := ⟨r.s2.1, r.s3.1, r.s4.1, r.s5.1⟩
def zeroNd : Nd := ⟨⟨#[]⟩, zeroR, [], []⟩
def nodG (bs : List UInt8) : Bool := !(nodR bs).s5.2.2 && (nodR bs).s5.2.1.isEmpty && decide (bs ≠ []) && (putNodeB (nodR bs).node == bs)

/-! ### read again -/
theorem portsFrom_app (xs : List Int) (bad : Bool) (h : ∀ x ∈ xs, 1 ≤ x ∧ x ≤ 65535) (rest : List UInt8) : portsFrom xs.length (xs.flatMap portB ++ rest) bad = (xs, rest, bad) := by
  induction xs using snocInd generalizing rest with
  | nil => rfl
  | snoc xs x ih =>
    have hx := h x (by simp)
    rw [List.length_append, List.length_singleton, List.flatMap_append, List.append_assoc]
    simp only [portsFrom, List.flatMap_cons, List.flatMap_nil, List.append_nil]
    rw [ih (fun y hy => h y (by simp [hy]))]
    simp only [portB]
    rw [numF_app _ 2 _ _ (by omega) (by omega)]
    simp only [Int.toNat_of_nonneg (show 0 ≤ x by omega)]
theorem portsF_app (xs : List Int) (bad : Bool) (h : ∀ x ∈ xs, 1 ≤ x ∧ x ≤ 65535) (hn : xs.length ≤ 6) (rest : List UInt8) : portsF (portsB xs ++ rest) bad = (xs, rest, bad) := by
  have hl := flat_len_ge (f := portB) (fun x => by rw [portB_len]; omega) xs
  unfold portsF portsB
  rw [List.append_assoc, countF_app _ _ _ (by omega) (by rw [List.length_append]; omega)]
  exact portsFrom_app xs bad h rest
def okTl (x : Tl) : Prop := okN x.key ∧ okN x.val
theorem tolF_app (x : Tl) (bad : Bool) (h : okTl x) (rest : List UInt8) : tolF (tolB x ++ rest) bad = (x, rest, bad) := by
  unfold tolF tolB
  simp only [List.append_assoc]
  rw [nameFR_app _ _ _ h.1]
  simp only
  rw [nameFR_app _ _ _ h.2]
  simp only [boolF]
  rw [numF_app _ 1 _ _ (by cases x.any <;> decide) (by cases x.any <;> decide)]
  obtain ⟨a, b, c⟩ := x
  cases c <;> rfl
theorem tolsFrom_app (xs : List Tl) (bad : Bool) (h : ∀ x ∈ xs, okTl x) (rest : List UInt8) : tolsFrom xs.length (xs.flatMap tolB ++ rest) bad = (xs, rest, bad) := by
  induction xs using snocInd generalizing rest with
  | nil => rfl
  | snoc xs x ih =>
    have hx := h x (by simp)
    rw [List.length_append, List.length_singleton, List.flatMap_append, List.append_assoc]
    simp only [tolsFrom, List.flatMap_cons, List.flatMap_nil, List.append_nil]
    rw [ih (fun y hy => h y (by simp [hy]))]
    simp only
    rw [tolF_app _ _ hx]
theorem tolsF_app (xs : List Tl) (bad : Bool) (h : ∀ x ∈ xs, okTl x) (hn : xs.length ≤ 6) (rest : List UInt8) : tolsF (tolsB xs ++ rest) bad = (xs, rest, bad) := by
  have hl := flat_len_ge (f := tolB) (fun x => by rw [tolB_len]; omega) xs
  unfold tolsF tolsB
  rw [List.append_assoc, countF_app _ _ _ (by omega) (by rw [List.length_append]; omega)]
  exact tolsFrom_app xs bad h rest

theorem terms_okN {xs : List Tm} (h : mayTermsB xs = true) : ∀ x ∈ xs, okTm x := by
  intro x hx
  have h0 := (terms_ok h).2 x hx
  simp only [mayTermsB, Bool.and_eq_true, decide_eq_true_eq, Bool.not_eq_true', List.any_eq_false, Bool.not_eq_false] at h
  have h1 := h.2 x hx
  simp only [mayTermB] at h1
  split at h1
  · rename_i hk
    simp at hk h1
    refine ⟨?_, by omega, by omega, h0.2, ?_⟩
    · exact okN_name (by simp_all)
    · intro v hv
      exact okN_name (by simp_all)
  · split at h1
    · rename_i hk
      simp at hk h1
      refine ⟨?_, by omega, by omega, h0.2, ?_⟩
      · exact okN_name (by simp_all)
      · intro v hv
        simp_all
    · simp at h1
end Go.Proofs.YthfafenigjldlaaGreat
