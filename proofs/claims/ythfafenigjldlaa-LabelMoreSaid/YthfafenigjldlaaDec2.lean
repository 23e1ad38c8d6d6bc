/-
  Plain Lean: what GetPod, GetNode, GetLease read; what was written is read again.
-/
import Derived.Test.YthfafenigjldlaaDec1
namespace Go.Proofs.Ythfafenigjldlaa
open Go.RowKit
set_option linter.unusedVariables false

def portsFrom : Nat → List UInt8 → Bool → List Int × List UInt8 × Bool
  | 0, bs, bad => ([], bs, bad)
  | k + 1, bs, bad =>
    let r := portsFrom k bs bad
    let a := numF 2 r.2.1 r.2.2
    (r.1 ++ [a.1], a.2)
theorem portsFrom_len (k : Nat) (bs : List UInt8) (bad : Bool) : (portsFrom k bs bad).1.length = k := by
  induction k with
  | zero => rfl
  | succ k ih => simp [portsFrom, ih]
def portsF (bs : List UInt8) (bad : Bool) : List Int × List UInt8 × Bool := portsFrom (countF 1 bs bad).1.toNat (countF 1 bs bad).2.1 (countF 1 bs bad).2.2
def tolF (bs : List UInt8) (bad : Bool) : Tl × List UInt8 × Bool :=
  let a := nameFR bs bad
  let b := nameFR a.2.1 a.2.2
  let c := boolF b.2.1 b.2.2
  (⟨a.1, b.1, c.1⟩, c.2)
def tolsFrom : Nat → List UInt8 → Bool → List Tl × List UInt8 × Bool
  | 0, bs, bad => ([], bs, bad)
  | k + 1, bs, bad =>
    let r := tolsFrom k bs bad
    let a := tolF r.2.1 r.2.2
    (r.1 ++ [a.1], a.2)
theorem tolsFrom_len (k : Nat) (bs : List UInt8) (bad : Bool) : (tolsFrom k bs bad).1.length = k := by
  induction k with
  | zero => rfl
  | succ k ih => simp [tolsFrom, ih]
def tolsF (bs : List UInt8) (bad : Bool) : List Tl × List UInt8 × Bool := tolsFrom (countF 1 bs bad).1.toNat (countF 1 bs bad).2.1 (countF 1 bs bad).2.2
/-- what GetPod reads, step by step -/
structure PodR (bs : List UInt8) where
  s1 : Int × List UInt8 × Bool
  s2 : ByteArray × List UInt8 × Bool
  s3 : Int × List UInt8 × Bool
  s4 : Int × List UInt8 × Bool
  s5 : Rs × List UInt8 × Bool
  s6 : List Int × List UInt8 × Bool
  s7 : List Pr × List UInt8 × Bool
  s8 : List Tm × List UInt8 × Bool
  s9 : List Tl × List UInt8 × Bool
  s10 : ByteArray × List UInt8 × Bool
  s11 : List Tm × List UInt8 × Bool
  s12 : Int × List UInt8 × Bool
  s13 : List Tm × List UInt8 × Bool
  s14 : ByteArray × List UInt8 × Bool
  s15 : Int × List UInt8 × Bool
  e1 : s1 = numF 1 bs false
  e2 : s2 = nameFR s1.2.1 s1.2.2
  e3 : s3 = numF 8 s2.2.1 s2.2.2
  e4 : s4 = numF 2 s3.2.1 s3.2.2
  e5 : s5 = resF s4.2.1 s4.2.2
  e6 : s6 = portsF s5.2.1 s5.2.2
  e7 : s7 = pairsF s6.2.1 s6.2.2
  e8 : s8 = termsF s7.2.1 s7.2.2
  e9 : s9 = tolsF s8.2.1 s8.2.2
  e10 : s10 = nameFR s9.2.1 s9.2.2
  e11 : s11 = termsF s10.2.1 s10.2.2
  e12 : s12 = numF 1 s11.2.1 s11.2.2
  e13 : s13 = termsF s12.2.1 s12.2.2
  e14 : s14 = nameFR s13.2.1 s13.2.2
  e15 : s15 = numF 8 s14.2.1 s14.2.2
def podR (bs : List UInt8) : PodR bs := ⟨_, _, _, _, _, _, _, _, _, _, _, _, _, _, _, rfl, rfl, rfl, rfl, rfl, rfl, rfl, rfl, rfl, rfl, rfl, rfl, rfl, rfl, rfl⟩
def PodR.pod {bs : List UInt8} (r : PodR bs) : Pd := ⟨r.s2.1, r.s3.1, r.s4.1, r.s5.1, r.s6.1, r.s7.1, r.s8.1, r.s9.1, r.s10.1, r.s11.1, r.s12.1, r.s13.1, r.s14.1, r.s15.1⟩
def zeroPd : Pd := ⟨⟨#[]⟩, 0, 0, zeroR, [], [], [], [], ⟨#[]⟩, [], 0, [], ⟨#[]⟩, 0⟩
/-- whether the bytes are those of an object -/
def podG (bs : List UInt8) : Bool := !(podR bs).s15.2.2 && (podR bs).s15.2.1.isEmpty && decide (bs ≠ []) && (putPodB (podR bs).pod == bs)

def mayNodeB (n : Nd) : Bool := nameB n.name && mayRs n.cap && mayPairs n.labels && mayPairs n.taints
def nodeB (n : Nd) : List UInt8 := numB 2 1 ++ nameB8 n.name ++ resB n.cap ++ pairsB n.labels ++ pairsB n.taints
def putNodeB (n : Nd) : List UInt8 := if mayNodeB n then nodeB n else []
structure NodR (bs : List UInt8) where
  s1 : Int × List UInt8 × Bool
  s2 : ByteArray × List UInt8 × Bool
  s3 : Rs × List UInt8 × Bool
  s4 : List Pr × List UInt8 × Bool
  s5 : List Pr × List UInt8 × Bool
  e1 : s1 = numF 1 bs false
  e2 : s2 = nameFR s1.2.1 s1.2.2
  e3 : s3 = resF s2.2.1 s2.2.2
  e4 : s4 = pairsF s3.2.1 s3.2.2
  e5 : s5 = pairsF s4.2.1 s4.2.2
def nodR (bs : List UInt8) : NodR bs := ⟨_, _, _, _, _, rfl, rfl, rfl, rfl, rfl⟩
def NodR.node {bs : List UInt8} (r : NodR bs) : Nd := ⟨r.s2.1, r.s3.1, r.s4.1, r.s5.1⟩
def zeroNd : Nd := ⟨⟨#[]⟩, zeroR, [], []⟩
def nodG (bs : List UInt8) : Bool := !(nodR bs).s5.2.2 && (nodR bs).s5.2.1.isEmpty && decide (bs ≠ []) && (putNodeB (nodR bs).node == bs)

/-! ### read again -/
theorem portsFrom_app (xs : List Int) (bad : Bool) (h : ∀ x ∈ xs, 1 ≤ x ∧ x ≤ 65535) (rest : List UInt8) : portsFrom xs.length (xs.flatMap portB ++ rest) bad = (xs, rest, bad) := by
  induction xs using snocInd generalizing rest with
  | nil => rfl
  | snoc xs x ih =>
    have hx := h x (by simp)
    rw [List.length_append, List.length_singleton, List.flatMap_append, List.append_assoc]
    simp only [portsFrom, List.flatMap_cons, List.flatMap_nil, List.append_nil]
    rw [ih (fun y hy => h y (by simp [hy]))]
    simp only [portB]
    rw [numF_app _ 2 _ _ (by omega) (by omega)]
    simp only [Int.toNat_of_nonneg (show 0 ≤ x by omega)]
theorem portsF_app (xs : List Int) (bad : Bool) (h : ∀ x ∈ xs, 1 ≤ x ∧ x ≤ 65535) (hn : xs.length ≤ 6) (rest : List UInt8) : portsF (portsB xs ++ rest) bad = (xs, rest, bad) := by
  have hl := flat_len_ge (f := portB) (fun x => by rw [portB_len]; omega) xs
  unfold portsF portsB
  rw [List.append_assoc, countF_app _ _ _ (by omega) (by rw [List.length_append]; omega)]
  exact portsFrom_app xs bad h rest
def okTl (x : Tl) : Prop := okN x.key ∧ okN x.val
theorem tolF_app (x : Tl) (bad : Bool) (h : okTl x) (rest : List UInt8) : tolF (tolB x ++ rest) bad = (x, rest, bad) := by
  unfold tolF tolB
  simp only [List.append_assoc]
  rw [nameFR_app _ _ _ h.1]
  simp only
  rw [nameFR_app _ _ _ h.2]
  simp only [boolF]
  rw [numF_app _ 1 _ _ (by cases x.any <;> decide) (by cases x.any <;> decide)]
  obtain ⟨a, b, c⟩ := x
  cases c <;> rfl
theorem tolsFrom_app (xs : List Tl) (bad : Bool) (h : ∀ x ∈ xs, okTl x) (rest : List UInt8) : tolsFrom xs.length (xs.flatMap tolB ++ rest) bad = (xs, rest, bad) := by
  induction xs using snocInd generalizing rest with
  | nil => rfl
  | snoc xs x ih =>
    have hx := h x (by simp)
    rw [List.length_append, List.length_singleton, List.flatMap_append, List.append_assoc]
    simp only [tolsFrom, List.flatMap_cons, List.flatMap_nil, List.append_nil]
    rw [ih (fun y hy => h y (by simp [hy]))]
    simp only
    rw [tolF_app _ _ hx]
theorem tolsF_app (xs : List Tl) (bad : Bool) (h : ∀ x ∈ xs, okTl x) (hn : xs.length ≤ 6) (rest : List UInt8) : tolsF (tolsB xs ++ rest) bad = (xs, rest, bad) := by
  have hl := flat_len_ge (f := tolB) (fun x => by rw [tolB_len]; omega) xs
  unfold tolsF tolsB
  rw [List.append_assoc, countF_app _ _ _ (by omega) (by rw [List.length_append]; omega)]
  exact tolsFrom_app xs bad h rest

theorem terms_okN {xs : List Tm} (h : mayTermsB xs = true) : ∀ x ∈ xs, okTm x := by
  intro x hx
  have h0 := (terms_ok h).2 x hx
  simp only [mayTermsB, Bool.and_eq_true, decide_eq_true_eq, Bool.not_eq_true', List.any_eq_false, Bool.not_eq_false] at h
  have h1 := h.2 x hx
  simp only [mayTermB] at h1
  split at h1
  · rename_i hk
    simp at hk h1
    refine ⟨?_, by omega, by omega, h0.2, ?_⟩
    · exact okN_name (by simp_all)
    · intro v hv
      exact okN_name (by simp_all)
  · split at h1
    · rename_i hk
      simp at hk h1
      refine ⟨?_, by omega, by omega, h0.2, ?_⟩
      · exact okN_name (by simp_all)
      · intro v hv
        simp_all
    · simp at h1
end Go.Proofs.Ythfafenigjldlaa
