/-
  The walks of package code: PutPod.
-/
import Derived.Test.YthfafenigjldlaaPut3
namespace Go.Proofs.Ythfafenigjldlaa
open Go.RowKit
set_option linter.unusedVariables false

def portB (x : Int) : List UInt8 := numB x.toNat 2
def tolB (x : Tl) : List UInt8 := nameB8 x.key ++ nameB8 x.val ++ numB x.any.toNat 1
def portsB (xs : List Int) : List UInt8 := numB xs.length 1 ++ xs.flatMap portB
def tolsB (xs : List Tl) : List UInt8 := numB xs.length 1 ++ xs.flatMap tolB
def podB (p : Pd) : List UInt8 :=
  numB 1 1 ++ nameB8 p.name ++ numB p.uid.toNat 8 ++ numB p.prio.toNat 2 ++ resB p.req ++ portsB p.ports ++ pairsB p.labels ++ termsB p.sel ++ tolsB p.tols ++ nameB8 p.topo ++ termsB p.anti ++ numB p.skew.toNat 1 ++ termsB p.even ++ nameB8 p.node ++ numB p.term.toNat 8
def putPodB (p : Pd) : List UInt8 := if mayPodB p then podB p else []

theorem terms_ok {xs : List Tm} (h : mayTermsB xs = true) : xs.length ≤ 6 ∧ ∀ x ∈ xs, okT x := by
  simp only [mayTermsB, Bool.and_eq_true, decide_eq_true_eq, Bool.not_eq_true', List.any_eq_false, Bool.not_eq_false] at h
  refine ⟨h.1, fun x hx => ?_⟩
  have h1 := h.2 x hx
  simp only [mayTermB] at h1
  split at h1
  · rename_i hk
    refine ⟨by omega, ?_⟩
    simp_all
  · split at h1
    · rename_i hk
      refine ⟨by omega, ?_⟩
      simp_all
    · simp at h1
theorem from_ports {prev : Option Int} {xs : List Int} (h : mayPFrom prev xs = true) : ∀ x ∈ xs, 1 ≤ x ∧ x ≤ 65535 := by
  induction xs generalizing prev with
  | nil => simp
  | cons y r ih =>
    simp only [mayPFrom, Bool.and_eq_true, decide_eq_true_eq] at h
    intro x hx
    rcases List.mem_cons.1 hx with rfl | hx
    · exact ⟨h.1.1.1, h.1.1.2⟩
    · exact ih h.2 x hx
structure PodMay (p : Pd) : Prop where
  u1 : 1 ≤ p.uid
  u2 : p.uid ≤ 1099511627776
  p1 : 0 ≤ p.prio
  p2 : p.prio ≤ 1000
  a1 : 0 ≤ p.req.a
  a2 : p.req.a ≤ 1000000000
  b1 : 0 ≤ p.req.b
  b2 : p.req.b ≤ 1000000000
  c1 : 0 ≤ p.req.c
  c2 : p.req.c ≤ 1000000000
  po : p.ports.length ≤ 6
  po1 : ∀ x ∈ p.ports, 1 ≤ x ∧ x ≤ 65535
  la : p.labels.length ≤ 6
  se : p.sel.length ≤ 6 ∧ ∀ x ∈ p.sel, okT x
  to : p.tols.length ≤ 6
  an : p.anti.length ≤ 6 ∧ ∀ x ∈ p.anti, okT x
  k1 : 0 ≤ p.skew
  k2 : p.skew ≤ 10
  ev : p.even.length ≤ 6 ∧ ∀ x ∈ p.even, okT x
  t1 : 0 ≤ p.term
theorem PodMay.of {p : Pd} (h : mayPodB p = true) : PodMay p := by
  simp only [mayPodB, mayTopoB, mayRs, mayR1, mayPortsB, mayPairs, mayTolsB, Bool.and_eq_true, Bool.or_eq_true, decide_eq_true_eq] at h
  obtain ⟨⟨⟨⟨⟨⟨⟨⟨⟨⟨⟨h0, h1⟩, h2⟩, h3⟩, h4⟩, ⟨⟨h5, h6⟩, h7⟩⟩, ⟨h8, h9⟩⟩, h10⟩, h11⟩, h12⟩, h13⟩, h14⟩ := h
  exact ⟨h1, h2, h3, h4, h5.1, h5.2, h6.1, h6.2, h7.1, h7.2, h9, from_ports h8, h10.2, terms_ok h11, h12.1, terms_ok h13.1.1.2, h13.1.1.1.1, h13.1.1.1.2, terms_ok h13.1.2, by omega⟩
theorem tolB_len (x : Tl) : (tolB x).length = 17 := by simp [tolB, nameB8_len, numB_len]
theorem portB_len (x : Int) : (portB x).length = 2 := by simp [portB, numB_len]
theorem termsB_len {xs : List Tm} (h : xs.length ≤ 6 ∧ ∀ x ∈ xs, okT x) : (termsB xs).length ≤ 400 := by
  have h1 := flat_len_all (f := termB) (c := 58) xs (fun x hx => termB_len x (h.2 x hx))
  rw [termsB, List.length_append, numB_len]; omega
theorem pairsB_len {xs : List Pr} (h : xs.length ≤ 6) : (pairsB xs).length ≤ 400 := by
  have h1 := flat_len (fun x => Nat.le_of_eq (pairB_len x)) xs
  rw [pairsB, List.length_append, numB_len]; omega
end Go.Proofs.Ythfafenigjldlaa
