/-
  How long what is written may be; what was read is written again alike.
-/
import Derived.Test.YthfafenigjldlaaGreatPut4
import Derived.Test.YthfafenigjldlaaGreatNode3
import Derived.Test.YthfafenigjldlaaGreatRef6
import Derived.Test.YthfafenigjldlaaGreatRef7
import Derived.Test.YthfafenigjldlaaGreatGet6
import Derived.Test.YthfafenigjldlaaGreatGet8
namespace Go.Proofs.YthfafenigjldlaaGreat
open Go.RowKit
set_option linter.unusedVariables false

theorem putPodB_len (p : Pd) : (putPodB p).length ≤ 3000 := by
  unfold putPodB
  split
  · rename_i h
    have m := PodMay.of h
    have h1 := termsB_len m.se
    have h2 := termsB_len m.an
    have h3 := termsB_len m.ev
    have h4 := pairsB_len m.la
    have h5 := flat_len (fun x => Nat.le_of_eq (portB_len x)) p.ports
    have h6 := flat_len (fun x => Nat.le_of_eq (tolB_len x)) p.tols
    have h7 := m.po
    have h8 := m.to
    simp only [podB, portsB, tolsB, List.length_append, numB_len, nameB8_len, resB_len]
    omega
  · simp
theorem putNodeB_len (p : Nd) : (putNodeB p).length ≤ 3000 := by
  unfold putNodeB
  split
  · rename_i h
    simp only [mayNodeB, mayPairs, Bool.and_eq_true, decide_eq_true_eq] at h
    have h4 := pairsB_len h.1.2.2
    have h5 := pairsB_len h.2.2
    simp only [nodeB, List.length_append, numB_len, nameB8_len, resB_len]
    omega
  · simp
theorem putLeaseB_len (k n : Int) : (putLeaseB k n).length ≤ 10 := by
  unfold putLeaseB
  split
  · simp [leaseB, numB_len]
  · simp
theorem podG_put {bs : List UInt8} (h : podG bs = true) : putPodB (podOut bs) = bs := by
  have h1 := h
  unfold podG at h1
  simp only [Bool.and_eq_true, beq_iff_eq] at h1
  rw [podOut, if_pos h]
  exact h1.2
theorem nodG_put {bs : List UInt8} (h : nodG bs = true) : putNodeB (nodOut bs) = bs := by
  have h1 := h
  unfold nodG at h1
  simp only [Bool.and_eq_true, beq_iff_eq] at h1
  rw [nodOut, if_pos h]
  exact h1.2
theorem leaseG_put {bs : List UInt8} (h : leaseG bs = true) : putLeaseB (leaseR2 bs).1 (leaseR3 bs).1 = bs := by
  have h1 := h
  unfold leaseG at h1
  simp only [Bool.and_eq_true, beq_iff_eq] at h1
  exact h1.2
theorem podOut_zero {bs : List UInt8} (h : podG bs = false) : podOut bs = zeroPd := by rw [podOut, if_neg (by rw [h]; decide)]
theorem nodOut_zero {bs : List UInt8} (h : nodG bs = false) : nodOut bs = zeroNd := by rw [nodOut, if_neg (by rw [h]; decide)]
end Go.Proofs.YthfafenigjldlaaGreat
