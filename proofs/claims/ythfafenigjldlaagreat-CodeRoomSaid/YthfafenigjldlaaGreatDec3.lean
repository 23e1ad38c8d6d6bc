/-
  Plain Lean: a pod, a node that may be, written: just it is read again.
-/
import Derived.Test.YthfafenigjldlaaGreatAny0
namespace Go.Proofs.YthfafenigjldlaaGreat
open Go.RowKit
set_option linter.unusedVariables false

theorem from_okN {prev : Option ByteArray} {xs : List Pr} (h : mayFrom prev xs = true) : ∀ x ∈ xs, okN x.key ∧ okN x.val := by
  induction xs generalizing prev with
  | nil => intro x hx; cases hx
  | cons y r ih =>
    intro x hx
    simp only [mayFrom, Bool.and_eq_true] at h
    rcases List.mem_cons.1 hx with rfl | hx
    · exact ⟨okN_name h.1.1.1, okN_name h.1.1.2⟩
    · exact ih h.2 x hx
theorem pairs_okN {xs : List Pr} (h : mayPairs xs = true) : (∀ x ∈ xs, okN x.key ∧ okN x.val) ∧ xs.length ≤ 6 := by
  simp only [mayPairs, Bool.and_eq_true, decide_eq_true_eq] at h
  exact ⟨from_okN h.1, h.2⟩
theorem tols_okN {xs : List Tl} (h : mayTolsB xs = true) : (∀ x ∈ xs, okTl x) ∧ xs.length ≤ 6 := by
  simp only [mayTolsB, Bool.and_eq_true, decide_eq_true_eq, Bool.not_eq_true', List.any_eq_false, Bool.not_eq_false] at h
  refine ⟨fun x hx => ?_, h.1⟩
  have h1 := h.2 x hx
  simp only [mayTolB] at h1
  split at h1
  · simp at h1
  · rename_i hk
    have hkey : okN x.key := by
      cases h2 : empS x.key with
      | true => exact okN_emp h2
      | false =>
        cases h3 : nameB x.key with
        | true => exact okN_name h3
        | false => rw [h2, h3] at hk; simp at hk
    refine ⟨hkey, ?_⟩
    split at h1
    · exact okN_emp (by simpa using h1)
    · exact okN_name (by simpa using h1)
theorem podR_put {bs : List UInt8} (r : PodR bs) (p : Pd) (h : mayPodB p = true) (ht : inI p.term) (hb : bs = podB p) : r.pod = p ∧ r.s15.2 = ([], false) := by
  have m := PodMay.of h
  simp only [mayPodB, mayTopoB, mayPortsB, Bool.and_eq_true, Bool.or_eq_true, decide_eq_true_eq] at h
  obtain ⟨⟨⟨⟨⟨⟨⟨⟨⟨⟨⟨h0, h1⟩, h2⟩, h3⟩, h4⟩, h5⟩, h8⟩, h10⟩, h11⟩, h12⟩, h13⟩, h14⟩ := h
  have n1 := okN_name h0
  have n2 : okN p.topo := by
    rcases h13.2 with h | h
    · exact okN_name h
    · exact okN_emp h.1.1
  have n3 : okN p.node := by
    rcases h14 with h | h
    · exact okN_name h.1
    · exact okN_emp h.1
  obtain ⟨l1, l2⟩ := pairs_okN h10
  obtain ⟨o1, o2⟩ := tols_okN h12
  have ht2 := ht.2
  have m1 := m.u1
  have m2 := m.u2
  have m3 := m.p1
  have m4 := m.p2
  have m5 := m.k1
  have m6 := m.k2
  have m7 := m.t1
  unfold podB at hb
  simp only [List.append_assoc] at hb
  rw [← List.append_nil (numB p.term.toNat 8)] at hb
  have q1 := r.e1.trans (congrArg (fun b => numF 1 b false) hb)
  rw [numF_app 1 1 _ _ (by decide) (by decide)] at q1
  have q2 := r.e2
  rw [q1, nameFR_app _ _ _ n1] at q2
  have q3 := r.e3
  rw [q2, numF_app _ 8 _ _ (by omega) (by omega)] at q3
  have q4 := r.e4
  rw [q3, numF_app _ 2 _ _ (by omega) (by omega)] at q4
  have q5 := r.e5
  rw [q4, resF_app _ _ m.a1 m.a2 m.b1 m.b2 m.c1 m.c2] at q5
  have q6 := r.e6
  rw [q5, portsF_app _ _ m.po1 m.po] at q6
  have q7 := r.e7
  rw [q6, pairsF_app _ _ l1 l2] at q7
  have q8 := r.e8
  rw [q7, termsF_app _ _ (terms_okN h11) m.se.1] at q8
  have q9 := r.e9
  rw [q8, tolsF_app _ _ o1 o2] at q9
  have q10 := r.e10
  rw [q9, nameFR_app _ _ _ n2] at q10
  have q11 := r.e11
  rw [q10, termsF_app _ _ (terms_okN h13.1.1.2) m.an.1] at q11
  have q12 := r.e12
  rw [q11, numF_app _ 1 _ _ (by omega) (by omega)] at q12
  have q13 := r.e13
  rw [q12, termsF_app _ _ (terms_okN h13.1.2) m.ev.1] at q13
  have q14 := r.e14
  rw [q13, nameFR_app _ _ _ n3] at q14
  have q15 := r.e15
  rw [q14, numF_app _ 8 _ _ (by omega) (by omega)] at q15
  refine ⟨?_, by rw [q15]⟩
  unfold PodR.pod
  rw [q2, q3, q4, q5, q6, q7, q8, q9, q10, q11, q12, q13, q14, q15]
  simp only [Int.toNat_of_nonneg (show 0 ≤ p.uid by omega), Int.toNat_of_nonneg m3, Int.toNat_of_nonneg m5, Int.toNat_of_nonneg m7]
theorem podB_ne (p : Pd) : podB p ≠ [] := by
  intro h
  have := congrArg List.length h
  simp [podB, numB_len] at this
theorem pod_back {p : Pd} (h : mayPodB p = true) (ht : inI p.term) : podG (putPodB p) = true ∧ podOut (putPodB p) = p := by
  have e : putPodB p = podB p := by rw [putPodB, if_pos h]
  obtain ⟨r1, r2⟩ := podR_put (podR (putPodB p)) p h ht e
  have g : podG (putPodB p) = true := by
    unfold podG
    rw [r1, r2]
    simp only [Bool.and_eq_true, decide_eq_true_eq]
    refine ⟨⟨⟨rfl, rfl⟩, ?_⟩, by simp⟩
    rw [e]; exact podB_ne p
  exact ⟨g, by rw [podOut, if_pos g, r1]⟩
theorem putPodB_no {p : Pd} (h : mayPodB p = false) : putPodB p = [] := by rw [putPodB, if_neg (by rw [h]; decide)]
theorem podG_nil : podG [] = false := by unfold podG; simp
theorem nodG_nil : nodG [] = false := by unfold nodG; simp
theorem nodR_put {bs : List UInt8} (r : NodR bs) (n : Nd) (h : mayNodeB n = true) (hb : bs = nodeB n) : r.node = n ∧ r.s5.2 = ([], false) := by
  simp only [mayNodeB, mayRs, mayR1, Bool.and_eq_true, decide_eq_true_eq] at h
  obtain ⟨⟨⟨h0, ⟨⟨⟨a1, a2⟩, ⟨b1, b2⟩⟩, ⟨c1, c2⟩⟩⟩, h2⟩, h3⟩ := h
  have n1 := okN_name h0
  obtain ⟨l1, l2⟩ := pairs_okN h2
  obtain ⟨o1, o2⟩ := pairs_okN h3
  unfold nodeB at hb
  simp only [List.append_assoc] at hb
  rw [← List.append_nil (pairsB n.taints)] at hb
  have q1 := r.e1.trans (congrArg (fun b => numF 1 b false) hb)
  rw [numF_app 2 1 _ _ (by decide) (by decide)] at q1
  have q2 := r.e2
  rw [q1, nameFR_app _ _ _ n1] at q2
  have q3 := r.e3
  rw [q2, resF_app _ _ a1 a2 b1 b2 c1 c2] at q3
  have q4 := r.e4
  rw [q3, pairsF_app _ _ l1 l2] at q4
  have q5 := r.e5
  rw [q4, pairsF_app _ _ o1 o2] at q5
  refine ⟨?_, by rw [q5]⟩
  unfold NodR.node
  rw [q2, q3, q4, q5]
theorem nodeB_ne (n : Nd) : nodeB n ≠ [] := by
  intro h
  have := congrArg List.length h
  simp [nodeB, numB_len] at this
theorem node_back {n : Nd} (h : mayNodeB n = true) : nodG (putNodeB n) = true ∧ nodOut (putNodeB n) = n := by
  have e : putNodeB n = nodeB n := by rw [putNodeB, if_pos h]
  obtain ⟨r1, r2⟩ := nodR_put (nodR (putNodeB n)) n h e
  have g : nodG (putNodeB n) = true := by
    unfold nodG
    rw [r1, r2]
    simp only [Bool.and_eq_true, decide_eq_true_eq]
    refine ⟨⟨⟨rfl, rfl⟩, ?_⟩, by simp⟩
    rw [e]; exact nodeB_ne n
  exact ⟨g, by rw [nodOut, if_pos g, r1]⟩
end Go.Proofs.YthfafenigjldlaaGreat
