/-
  The walks of package code: PutPod.
-/
import Derived.Test.YthfafenigjldlaaGreatPut1
namespace Go.Proofs.YthfafenigjldlaaGreat
open Go.RowKit
set_option linter.unusedVariables false

def portB (x : Int) : List UInt8 := numB x.toNat 2
def tolB (x : Tl) : List UInt8 := nameB8 x.key ++ nameB8 x.val ++ numB x.any.toNat 1
def portsB (xs : List Int) : List UInt8 := numB xs.length 1 ++ xs.flatMap portB
def tolsB (xs : List Tl) : List UInt8 := numB xs.length 1 ++ xs.flatMap tolB
def podB (p : Pd) : List UInt8 :=
  numB 1 1 ++ nameB8 p.name ++ numB p.uid.toNat 8 ++ numB p.prio.toNat 2 ++ resB p.req ++ portsB p.ports ++ pairsB p.labels ++ termsB p.sel ++ tolsB p.tols ++ nameB8 p.topo ++ termsB p.anti ++ numB p.skew.toNat 1 ++ termsB p.even ++ nameB8 p.node ++ numB p.term.toNat 8
def putPodB (p : Pd) : List UInt8 := if mayPodB p then podB p else []

theorem terms_ok {xs : List Tm} (h : mayTermsB xs = true) : xs.length ≤ 6 ∧ ∀ x ∈ xs, okT x := by
  simp only [mayTermsB, Bool.and_eq_true, decide_eq_true_eq, Bool.not_eq_true', List.any_eq_false, Bool.not_eq_false] at h
  refine ⟨h.1, fun x hx => ?_⟩
  have h1 := h.2 x hx
  simp only [mayTermB] at h1
  split at h1
  · rename_i hk
    refine ⟨by omega, ?_⟩
    simp_all
  · split at h1
    · rename_i hk
      refine ⟨by omega, ?_⟩
      simp_all
    · simp at h1
theorem from_ports {prev : Option Int} {xs : List Int} (h : mayPFrom prev xs = true) : ∀ x ∈ xs, 1 ≤ x ∧ x ≤ 65535 := by
  induction xs generalizing prev with
  | nil => simp
  | cons y r ih =>
    simp only [mayPFrom, Bool.and_eq_true, decide_eq_true_eq] at h
    intro x hx
    rcases List.mem_cons.1 hx with rfl | hx
    · exact ⟨h.1.1.1, h.1.1.2⟩
    · exact ih h.2 x hx
structure PodMay (p : Pd) : Prop where
  u1 : 1 ≤ p.uid
  u2 : p.uid ≤ 1099511627776
  p1 : 0 ≤ p.prio
  p2 : p.prio ≤ 1000
  a1 : 0 ≤ p.req.a
  a2 : p.req.a ≤ 1000000000
  b1 : 0 ≤ p.req.b
  b2 : p.req.b ≤ 1000000000
  c1 : 0 ≤ p.req.c
  c2 : p.req.c ≤ 1000000000
  po : p.ports.length ≤ 6
  po1 : ∀ x ∈ p.ports, 1 ≤ x ∧ x ≤ 65535
  la : p.labels.length ≤ 6
  se : p.sel.length ≤ 6 ∧ ∀ x ∈ p.sel, okT x
  to : p.tols.length ≤ 6
  an : p.anti.length ≤ 6 ∧ ∀ x ∈ p.anti, okT x
  k1 : 0 ≤ p.skew
  k2 : p.skew ≤ 10
  ev : p.even.length ≤ 6 ∧ ∀ x ∈ p.even, okT x
  t1 : 0 ≤ p.term
theorem PodMay.of {p : Pd} (h : mayPodB p = true) : PodMay p := by
  simp only [mayPodB, mayTopoB, mayRs, mayR1, mayPortsB, mayPairs, mayTolsB, Bool.and_eq_true, Bool.or_eq_true, decide_eq_true_eq] at h
  obtain ⟨⟨⟨⟨⟨⟨⟨⟨⟨⟨⟨h0, h1⟩, h2⟩, h3⟩, h4⟩, ⟨⟨h5, h6⟩, h7⟩⟩, ⟨h8, h9⟩⟩, h10⟩, h11⟩, h12⟩, h13⟩, h14⟩ := h
  exact ⟨h1, h2, h3, h4, h5.1, h5.2, h6.1, h6.2, h7.1, h7.2, h9, from_ports h8, h10.2, terms_ok h11, h12.1, terms_ok h13.1.1.2, h13.1.1.1.1, h13.1.1.1.2, terms_ok h13.1.2, by omega⟩
theorem tolB_len (x : Tl) : (tolB x).length = 17 := by simp [tolB, nameB8_len, numB_len]
theorem portB_len (x : Int) : (portB x).length = 2 := by simp [portB, numB_len]
theorem termsB_len {xs : List Tm} (h : xs.length ≤ 6 ∧ ∀ x ∈ xs, okT x) : (termsB xs).length ≤ 400 := by
  have h1 := flat_len_all (f := termB) (c := 58) xs (fun x hx => termB_len x (h.2 x hx))
  rw [termsB, List.length_append, numB_len]; omega
theorem pairsB_len {xs : List Pr} (h : xs.length ≤ 6) : (pairsB xs).length ≤ 400 := by
  have h1 := flat_len (fun x => Nat.le_of_eq (pairB_len x)) xs
  rw [pairsB, List.length_append, numB_len]; omega
end Go.Proofs.YthfafenigjldlaaGreat

/-
  The walk of package code's PutPod (printed by mkput.py).
-/
namespace Go.Proofs.YthfafenigjldlaaGreat
open Go.RowKit
set_option linter.unusedVariables false

set_option maxRecDepth 100000 in
set_option maxHeartbeats 4000000 in
theorem putPod_any (p : Pd) (q : PA) (w : World) (h : PodOk w p q) :
    Calls Tryz.prog 49 #[.agg (podC p q).toArray] w (ClPost 5 1 (putPodB p).length ((putPodB p).map byV) w) := by
  have B := boxed w (podC p q) 66
  have k0 := B 0 _ rfl
  have k1 := B 1 _ rfl
  have k2 := B 2 _ rfl
  have k3 := B 3 _ rfl
  have k4 := B 4 _ rfl
  have k5 := B 5 _ rfl
  have k6 := B 6 _ rfl
  have k7 := B 7 _ rfl
  have k8 := B 8 _ rfl
  have k9 := B 9 _ rfl
  have k10 := B 10 _ rfl
  have k11 := B 11 _ rfl
  have k12 := B 12 _ rfl
  have k13 := B 13 _ rfl
  have k14 := B 14 _ rfl
  have k15 := B 15 _ rfl
  have he := boxedExt w (podC p q) 66
  have HMP : Hid (∀ wx, Ext w wx → Calls Tryz.prog 60 #[.agg (podC p q).toArray] wx fun e w' => e = .returned (.bool (mayPodB p)) ∧ Ext wx w') := fun wx e => mayPod_any p q wx (h.ext e)
  have HP : Hid (PodOk (w.alloc (.cells (podC p q).toArray 66)) p q) := h.ext he
  obtain ⟨W1, hW⟩ : ∃ W1, w.alloc (.cells (podC p q).toArray 66) = W1 := ⟨_, rfl⟩
  rw [hW] at k0 k1 k2 k3 k4 k5 k6 k7 k8 k9 k10 k11 k12 k13 k14 k15 he HP
  have HE := Lib.hid he
  have E : Ext W1 W1 := Ext.refl _
  clear he B h
  by_cases hok : mayPodB p = true
  · have hb : putPodB p = podB p := by unfold putPodB; rw [if_pos hok]
    rw [hb]
    have HM := Lib.hid (PodMay.of hok)
    rw [hok] at HMP
    clear hok hb
    have HA1 : Hid (Sl RInt 1 W1 q.a1 p.ports) := HP.out.ports
    have HA4 : Hid (Sl RTol 3 W1 q.a4 p.tols) := HP.out.tols
    unfold podC at hW HMP ⊢
    obtain ⟨A1, hA1⟩ : ∃ A, A = q.a1 := ⟨_, rfl⟩
    rw [← hA1] at hW HMP HA1 k6 ⊢
    clear hA1
    obtain ⟨A4, hA4⟩ : ∃ A, A = q.a4 := ⟨_, rfl⟩
    rw [← hA4] at hW HMP HA4 k9 ⊢
    clear hA4
    go_enter Tryz.func49, Tryz.ntmps49
    go_wp2_with fail
    refine (HMP.out _ HE.out).mono ?_
    rintro e w1 ⟨rfl, e1⟩
    replace E := E.trans e1
    clear HMP
    go_wp2_with (first
      | (refine wpList_value (o := ⟨some 3, _, _, _, _, _⟩) rfl (v := .pointer (some ⟨w1.heap.size, 0, none⟩)) (w' := w1.alloc (.cells (newC [.slice none 0 0]) 130)) (by kernel_rfl) ?_
         simp only [Act.put, List.setIfInBounds_toArray, List.set_cons_succ, List.set_cons_zero]))
    have hB : W1.heap.size ≤ w1.heap.size := e1.size
    have HBB := Lib.hid hB
    have W0 := Wr.new w1
    obtain ⟨g, hg⟩ : ∃ g, g = w1.heap.size := ⟨_, rfl⟩
    rw [← hg] at W0 ⊢
    have HB1 : Hid (W1.heap.size ≤ g) := by rw [hg]; exact hB
    have E1 : Hid (Ext W1 (w1.alloc (.cells (newC [.slice none 0 0]) 130))) := E.alloc _
    have HG := Lib.hid hg
    clear hg hB e1 E
    have y0 : Hid (([] : List UInt8).length ≤ 0) := by simp [Hid]
    -- step 1
    refine (wNumI g g false ([] : List UInt8) 1 1 _ (by omega) (by omega) (by omega) (by omega) (by have := y0.out; omega) W0).mono ?_
    rintro e w2 ⟨rfl, b1, R1⟩
    have E2 : Hid (Ext W1 w2) := E1.out.below HB1.out b1
    obtain ⟨Y1, hY1⟩ : ∃ Y, Y = ([] : List UInt8) ++ numB (1 : Int).toNat (1 : Int).toNat := ⟨_, rfl⟩
    rw [← hY1] at R1
    have y1 : Hid (Y1.length ≤ 8) := by show _ ≤ _; have := y0.out; rw [hY1, List.length_append]; rw [numB_len]; first | omega | (simp; done) | (simp; omega)
    have HY1 := Lib.hid hY1
    clear hY1 b1 W0
    have E := E2.out
    go_wp2_with fail
    clear E
    -- step 2
    refine (wName_any g g false Y1 p.name _ HP.out.name (by have := y1.out; omega) R1).mono ?_
    rintro e w3 ⟨rfl, b2, R2⟩
    have E3 : Hid (Ext W1 w3) := E2.out.below HB1.out b2
    obtain ⟨Y2, hY2⟩ : ∃ Y, Y = Y1 ++ nameB8 p.name := ⟨_, rfl⟩
    rw [← hY2] at R2
    have y2 : Hid (Y2.length ≤ 16) := by show _ ≤ _; have := y1.out; rw [hY2, List.length_append]; rw [nameB8_len]; omega
    have HY2 := Lib.hid hY2
    clear hY2 b2 R1
    have E := E3.out
    go_wp2_with fail
    clear E
    -- step 3
    refine (wNumI g g true Y2 p.uid 8 _ (by have := HM.out.u1; omega) (by have := HM.out.u2; omega) (by omega) (by omega) (by have := y2.out; omega) R2).mono ?_
    rintro e w4 ⟨rfl, b3, R3⟩
    have E4 : Hid (Ext W1 w4) := E3.out.below HB1.out b3
    obtain ⟨Y3, hY3⟩ : ∃ Y, Y = Y2 ++ numB (p.uid : Int).toNat (8 : Int).toNat := ⟨_, rfl⟩
    rw [← hY3] at R3
    have y3 : Hid (Y3.length ≤ 24) := by show _ ≤ _; have := y2.out; rw [hY3, List.length_append]; rw [numB_len]; first | omega | (simp; done) | (simp; omega)
    have HY3 := Lib.hid hY3
    clear hY3 b3 R2
    have E := E4.out
    go_wp2_with fail
    clear E
    -- step 4
    refine (wNumI g g true Y3 p.prio 2 _ (by have := HM.out.p1; omega) (by have := HM.out.p2; omega) (by omega) (by omega) (by have := y3.out; omega) R3).mono ?_
    rintro e w5 ⟨rfl, b4, R4⟩
    have E5 : Hid (Ext W1 w5) := E4.out.below HB1.out b4
    obtain ⟨Y4, hY4⟩ : ∃ Y, Y = Y3 ++ numB (p.prio : Int).toNat (2 : Int).toNat := ⟨_, rfl⟩
    rw [← hY4] at R4
    have y4 : Hid (Y4.length ≤ 32) := by show _ ≤ _; have := y3.out; rw [hY4, List.length_append]; rw [numB_len]; first | omega | (simp; done) | (simp; omega)
    have HY4 := Lib.hid hY4
    clear hY4 b4 R3
    have E := E5.out
    go_wp2_with fail
    clear E
    -- step 5
    refine (putRes_any g g true Y4 p.req _ HM.out.a1 HM.out.a2 HM.out.b1 HM.out.b2 HM.out.c1 HM.out.c2 (by have := y4.out; omega) R4).mono ?_
    rintro e w6 ⟨rfl, b5, R5⟩
    have E6 : Hid (Ext W1 w6) := E5.out.below HB1.out b5
    obtain ⟨Y5, hY5⟩ : ∃ Y, Y = Y4 ++ resB p.req := ⟨_, rfl⟩
    rw [← hY5] at R5
    have y5 : Hid (Y5.length ≤ 44) := by show _ ≤ _; have := y4.out; rw [hY5, List.length_append]; rw [resB_len]; omega
    have HY5 := Lib.hid hY5
    clear hY5 b5 R4
    have E := E6.out
    go_wp2_with fail
    clear E
    -- step 6
    refine (wNumI g g true Y5 p.ports.length 1 _ (by omega) (by have := HM.out.po; omega) (by omega) (by omega) (by have := y5.out; omega) R5).mono ?_
    rintro e w7 ⟨rfl, b6, R6⟩
    have E7 : Hid (Ext W1 w7) := E6.out.below HB1.out b6
    obtain ⟨Y6, hY6⟩ : ∃ Y, Y = Y5 ++ numB (p.ports.length : Int).toNat (1 : Int).toNat := ⟨_, rfl⟩
    rw [← hY6] at R6
    have y6 : Hid (Y6.length ≤ 52) := by show _ ≤ _; have := y5.out; rw [hY6, List.length_append]; rw [numB_len]; first | omega | (simp; done) | (simp; omega)
    have HY6 := Lib.hid hY6
    clear hY6 b6 R5
    have E := E7.out
    go_wp2_with fail
    clear E
    go_loopw [31] (fun i wr => ∃ m : Nat, m ≤ p.ports.length ∧ i = .int .i64 m ∧ Bel g w7 wr ∧ Wr g wr g true (Y6 ++ (p.ports.take m).flatMap portB)) (fun i _ => p.ports.length - (intOf i).toNat)
    case atStart => exact ⟨0, by omega, rfl, Bel.refl _ _, by simpa using R6⟩
    obtain ⟨m, hm, rfl, hb, hr⟩ := hrel
    clear R6
    have E7 : Hid (Ext W1 wr) := E7.out.below HB1.out hb
    have hlen : Hid ((Y6 ++ (p.ports.take m).flatMap portB).length ≤ 252) := by
      show _ ≤ _
      have := y6.out
      have h1 := flat_len (fun x => Nat.le_of_eq (portB_len x)) (p.ports.take m)
      have h2 : (p.ports.take m).length ≤ 6 := by have := HM.out.po; simp; omega
      rw [List.length_append]; omega
    by_cases hlt : m < p.ports.length
    · obtain ⟨ys, hys⟩ : ∃ ys, ys = Y6 ++ (p.ports.take m).flatMap portB := ⟨_, rfl⟩
      rw [← hys] at hr hlen
      obtain ⟨b', o', x, hA, hxk, okx, c0⟩ := (HA1.out.ext RInt.keeps E7.out).int hlt
      have HN : Hid (Y6 ++ (p.ports.take (m + 1)).flatMap portB = ys ++ portB x) := by show _ = _; rw [flat_snoc hxk, hys]; simp
      have hx1 := HM.out.po1 x (List.mem_of_getElem? hxk)
      have hpo := HM.out.po
      subst hA
      clear hys hxk
      go_wp2_with fail
      refine (wNumI g g true ys x 2 _ (by omega) (by omega) (by omega) (by omega) (by have := hlen.out; omega) hr).mono ?_
      rintro e wb ⟨rfl, bb, rb⟩
      replace bb := hb.trans bb
      clear hb hr
      go_wp2_with fail
      go_roundw
      case rel => exact ⟨m + 1, by omega, by go_num, bb, by rw [HN.out]; exact rb⟩
      case measure => simp [intOf]; omega
    obtain ⟨Y7, hY7⟩ : ∃ Y, Y = Y6 ++ p.ports.flatMap portB := ⟨_, rfl⟩
    have R7 := hr
    rw [List.take_of_length_le (by omega), ← hY7] at R7
    have y7 : Hid (Y7.length ≤ 252) := by have h9 := hlen.out; rw [List.take_of_length_le (by omega), ← hY7] at h9; exact h9
    have HY7 := Lib.hid hY7
    obtain ⟨w8, hw⟩ : ∃ w2, w2 = wr := ⟨_, rfl⟩
    have E8 : Hid (Ext W1 w8) := by rw [hw]; exact E7.out
    rw [← hw] at R7 ⊢
    clear hY7 hr hb hw
    have E := E8.out
    go_wp2_with fail
    clear E
    -- step 8
    refine (putPair_any g g Y7 q.a2 q.c2 p.labels W1 _ E8.out HB1.out HP.out.labels HM.out.la (by have := y7.out; omega) R7).mono ?_
    rintro e w9 ⟨rfl, b8, R8⟩
    have E9 : Hid (Ext W1 w9) := E8.out.below HB1.out b8
    obtain ⟨Y8, hY8⟩ : ∃ Y, Y = Y7 ++ pairsB p.labels := ⟨_, rfl⟩
    rw [← hY8] at R8
    have y8 : Hid (Y8.length ≤ 652) := by show _ ≤ _; have := y7.out; rw [hY8, List.length_append]; have := pairsB_len HM.out.la; omega
    have HY8 := Lib.hid hY8
    clear hY8 b8 R7
    have E := E9.out
    go_wp2_with fail
    clear E
    -- step 9
    refine (putTerms_any g g Y8 q.a3 q.c3 p.sel W1 _ E9.out HB1.out HP.out.sel HM.out.se.1 HM.out.se.2 (by have := y8.out; omega) R8).mono ?_
    rintro e w10 ⟨rfl, b9, R9⟩
    have E10 : Hid (Ext W1 w10) := E9.out.below HB1.out b9
    obtain ⟨Y9, hY9⟩ : ∃ Y, Y = Y8 ++ termsB p.sel := ⟨_, rfl⟩
    rw [← hY9] at R9
    have y9 : Hid (Y9.length ≤ 1052) := by show _ ≤ _; have := y8.out; rw [hY9, List.length_append]; have := termsB_len HM.out.se; omega
    have HY9 := Lib.hid hY9
    clear hY9 b9 R8
    have E := E10.out
    go_wp2_with fail
    clear E
    -- step 10
    refine (wNumI g g true Y9 p.tols.length 1 _ (by omega) (by have := HM.out.to; omega) (by omega) (by omega) (by have := y9.out; omega) R9).mono ?_
    rintro e w11 ⟨rfl, b10, R10⟩
    have E11 : Hid (Ext W1 w11) := E10.out.below HB1.out b10
    obtain ⟨Y10, hY10⟩ : ∃ Y, Y = Y9 ++ numB (p.tols.length : Int).toNat (1 : Int).toNat := ⟨_, rfl⟩
    rw [← hY10] at R10
    have y10 : Hid (Y10.length ≤ 1060) := by show _ ≤ _; have := y9.out; rw [hY10, List.length_append]; rw [numB_len]; first | omega | (simp; done) | (simp; omega)
    have HY10 := Lib.hid hY10
    clear hY10 b10 R9
    have E := E11.out
    go_wp2_with fail
    clear E
    go_loopw [51] (fun i wr => ∃ m : Nat, m ≤ p.tols.length ∧ i = .int .i64 m ∧ Bel g w11 wr ∧ Wr g wr g true (Y10 ++ (p.tols.take m).flatMap tolB)) (fun i _ => p.tols.length - (intOf i).toNat)
    case atStart => exact ⟨0, by omega, rfl, Bel.refl _ _, by simpa using R10⟩
    obtain ⟨m, hm, rfl, hb, hr⟩ := hrel
    clear R10
    have E11 : Hid (Ext W1 wr) := E11.out.below HB1.out hb
    have hlen : Hid ((Y10 ++ (p.tols.take m).flatMap tolB).length ≤ 1260) := by
      show _ ≤ _
      have := y10.out
      have h1 := flat_len (fun x => Nat.le_of_eq ((fun x => tolB_len x) x)) (p.tols.take m)
      have h2 : (p.tols.take m).length ≤ 6 := by have := HM.out.to; simp; omega
      rw [List.length_append]; omega
    by_cases hlt : m < p.tols.length
    · obtain ⟨ys, hys⟩ : ∃ ys, ys = Y10 ++ (p.tols.take m).flatMap tolB := ⟨_, rfl⟩
      rw [← hys] at hr hlen
      obtain ⟨b', o', x, hA, hxk, ok1, ok2, c0, c1, c2⟩ := (HA4.out.ext RTol.keeps E11.out).tol hlt
      have HN : Hid (Y10 ++ (p.tols.take (m + 1)).flatMap tolB = ys ++ nameB8 x.key ++ nameB8 x.val ++ numB x.any.toNat 1) := by show _ = _; rw [flat_snoc hxk, hys]; simp [tolB]
      have hto := HM.out.to
      have HR := Lib.hid hr
      obtain ⟨BX, hBX⟩ : ∃ n, n = wr.heap.size := ⟨_, rfl⟩
      obtain ⟨W2, hW2⟩ : ∃ W2, wr.alloc (.cells #[.string x.key, .string x.val, .bool x.any] 52) = W2 := ⟨_, rfl⟩
      have hst : Still W2 BX := by
        rw [← hW2, hBX]; exact ⟨_, _, _, heap_alloc_new wr _, by decide, by decide⟩
      have hbx : W2.heap[BX]? = some (.cells #[.string x.key, .string x.val, .bool x.any] 52 (0, 0)) := by
        rw [← hW2, hBX]; exact heap_alloc_new wr _
      have hr1 : Wr g W2 g true ys := by rw [← hW2]; exact hr.alloc _
      have HBW : Hid (Bel g w11 W2) := by rw [← hW2]; exact hb.alloc hr.lt _
      have HS : Hid (∀ wx, Bel g W2 wx → wx.cell? ⟨BX, 0, none⟩ = some (.string x.key) ∧ wx.cell? ⟨BX, 1, none⟩ = some (.string x.val) ∧ wx.cell? ⟨BX, 2, none⟩ = some (.bool x.any)) := fun wx hx => by
        have e := (hx.still BX hst).trans hbx
        simp [World.cell?, e]
      subst hA
      clear hys hxk hr hb hst hbx
      subst hBX
      obtain ⟨s0, s1, s2⟩ := HS.out _ (Bel.refl _ _)
      go_wp2_with fail
      clear c0 c1 c2
      refine (wName_any g g true ys x.key _ ok1 (by have := hlen.out; omega) ?g1).mono ?_
      case g1 => first | exact hr1 | (rw [hW2]; exact hr1)
      try rw [hW2]
      rintro e wb ⟨rfl, b2, r2⟩
      clear s0 s1 s2
      obtain ⟨c0, c1, c2⟩ := HS.out _ b2
      go_wp2_with fail
      refine (wName_any g g true _ x.val _ ok2 (by have := hlen.out; rw [List.length_append, nameB8_len]; omega) r2).mono ?_
      rintro e wc ⟨rfl, b3, r3⟩
      replace b3 := b2.trans b3
      clear c0 c1 c2 b2
      obtain ⟨c0, c1, c2⟩ := HS.out _ b3
      go_wp2_with fail
      refine (wBool_any g g true _ x.any _ (by have := hlen.out; rw [List.length_append, List.length_append, nameB8_len, nameB8_len]; omega) r3).mono ?_
      rintro e wd ⟨rfl, b4, r4⟩
      have FIN := Lib.hid (HBW.out.trans (b3.trans b4))
      have HR4 : Hid (Wr g wd g true (Y10 ++ (p.tols.take (m + 1)).flatMap tolB)) := by show Wr _ _ _ _ _; rw [HN.out]; exact r4
      clear c0 c1 c2 b3 b4 r4 HN
      go_wp2_with fail
      go_roundw
      case rel => exact ⟨m + 1, by omega, by go_num, FIN.out, HR4.out⟩
      case measure => simp [intOf]; omega
    obtain ⟨Y11, hY11⟩ : ∃ Y, Y = Y10 ++ p.tols.flatMap tolB := ⟨_, rfl⟩
    have R11 := hr
    rw [List.take_of_length_le (by omega), ← hY11] at R11
    have y11 : Hid (Y11.length ≤ 1260) := by have h9 := hlen.out; rw [List.take_of_length_le (by omega), ← hY11] at h9; exact h9
    have HY11 := Lib.hid hY11
    obtain ⟨w12, hw⟩ : ∃ w2, w2 = wr := ⟨_, rfl⟩
    have E12 : Hid (Ext W1 w12) := by rw [hw]; exact E11.out
    rw [← hw] at R11 ⊢
    clear hY11 hr hb hw
    have E := E12.out
    go_wp2_with fail
    clear E
    -- step 12
    refine (wName_any g g true Y11 p.topo _ HP.out.topo (by have := y11.out; omega) R11).mono ?_
    rintro e w13 ⟨rfl, b12, R12⟩
    have E13 : Hid (Ext W1 w13) := E12.out.below HB1.out b12
    obtain ⟨Y12, hY12⟩ : ∃ Y, Y = Y11 ++ nameB8 p.topo := ⟨_, rfl⟩
    rw [← hY12] at R12
    have y12 : Hid (Y12.length ≤ 1268) := by show _ ≤ _; have := y11.out; rw [hY12, List.length_append]; rw [nameB8_len]; omega
    have HY12 := Lib.hid hY12
    clear hY12 b12 R11
    have E := E13.out
    go_wp2_with fail
    clear E
    -- step 13
    refine (putTerms_any g g Y12 q.a5 q.c5 p.anti W1 _ E13.out HB1.out HP.out.anti HM.out.an.1 HM.out.an.2 (by have := y12.out; omega) R12).mono ?_
    rintro e w14 ⟨rfl, b13, R13⟩
    have E14 : Hid (Ext W1 w14) := E13.out.below HB1.out b13
    obtain ⟨Y13, hY13⟩ : ∃ Y, Y = Y12 ++ termsB p.anti := ⟨_, rfl⟩
    rw [← hY13] at R13
    have y13 : Hid (Y13.length ≤ 1668) := by show _ ≤ _; have := y12.out; rw [hY13, List.length_append]; have := termsB_len HM.out.an; omega
    have HY13 := Lib.hid hY13
    clear hY13 b13 R12
    have E := E14.out
    go_wp2_with fail
    clear E
    -- step 14
    refine (wNumI g g true Y13 p.skew 1 _ (by have := HM.out.k1; omega) (by have := HM.out.k2; omega) (by omega) (by omega) (by have := y13.out; omega) R13).mono ?_
    rintro e w15 ⟨rfl, b14, R14⟩
    have E15 : Hid (Ext W1 w15) := E14.out.below HB1.out b14
    obtain ⟨Y14, hY14⟩ : ∃ Y, Y = Y13 ++ numB (p.skew : Int).toNat (1 : Int).toNat := ⟨_, rfl⟩
    rw [← hY14] at R14
    have y14 : Hid (Y14.length ≤ 1676) := by show _ ≤ _; have := y13.out; rw [hY14, List.length_append]; rw [numB_len]; first | omega | (simp; done) | (simp; omega)
    have HY14 := Lib.hid hY14
    clear hY14 b14 R13
    have E := E15.out
    go_wp2_with fail
    clear E
    -- step 15
    refine (putTerms_any g g Y14 q.a6 q.c6 p.even W1 _ E15.out HB1.out HP.out.even HM.out.ev.1 HM.out.ev.2 (by have := y14.out; omega) R14).mono ?_
    rintro e w16 ⟨rfl, b15, R15⟩
    have E16 : Hid (Ext W1 w16) := E15.out.below HB1.out b15
    obtain ⟨Y15, hY15⟩ : ∃ Y, Y = Y14 ++ termsB p.even := ⟨_, rfl⟩
    rw [← hY15] at R15
    have y15 : Hid (Y15.length ≤ 2076) := by show _ ≤ _; have := y14.out; rw [hY15, List.length_append]; have := termsB_len HM.out.ev; omega
    have HY15 := Lib.hid hY15
    clear hY15 b15 R14
    have E := E16.out
    go_wp2_with fail
    clear E
    -- step 16
    refine (wName_any g g true Y15 p.node _ HP.out.node (by have := y15.out; omega) R15).mono ?_
    rintro e w17 ⟨rfl, b16, R16⟩
    have E17 : Hid (Ext W1 w17) := E16.out.below HB1.out b16
    obtain ⟨Y16, hY16⟩ : ∃ Y, Y = Y15 ++ nameB8 p.node := ⟨_, rfl⟩
    rw [← hY16] at R16
    have y16 : Hid (Y16.length ≤ 2084) := by show _ ≤ _; have := y15.out; rw [hY16, List.length_append]; rw [nameB8_len]; omega
    have HY16 := Lib.hid hY16
    clear hY16 b16 R15
    have E := E17.out
    go_wp2_with fail
    clear E
    -- step 17
    refine (wNumI g g true Y16 p.term 8 _ (by have := HM.out.t1; omega) (by have := HP.out.term.2; omega) (by omega) (by omega) (by have := y16.out; omega) R16).mono ?_
    rintro e w18 ⟨rfl, b17, R17⟩
    have E18 : Hid (Ext W1 w18) := E17.out.below HB1.out b17
    obtain ⟨Y17, hY17⟩ : ∃ Y, Y = Y16 ++ numB (p.term : Int).toNat (8 : Int).toNat := ⟨_, rfl⟩
    rw [← hY17] at R17
    have y17 : Hid (Y17.length ≤ 2092) := by show _ ≤ _; have := y16.out; rw [hY17, List.length_append]; rw [numB_len]; first | omega | (simp; done) | (simp; omega)
    have HY17 := Lib.hid hY17
    clear hY17 b17 R16
    have E := E18.out
    go_wp2_with fail
    clear E
    have hfin : podB p = Y17 := by
      rw [HY17.out, HY16.out, HY15.out, HY14.out, HY13.out, HY12.out, HY11.out, HY10.out, HY9.out, HY8.out, HY7.out, HY6.out, HY5.out, HY4.out, HY3.out, HY2.out, HY1.out]
      simp [podB, portsB, tolsB]
    rw [← hfin] at R17 y17
    have hl := y17.out
    refine (wBytes_any _ _ _ _ _ (by omega) R17).mono ?_
    rintro e wz ⟨v, rfl, h1, h2⟩
    have hsz : w.heap.size ≤ w18.heap.size := Nat.le_trans HE.out.size E18.out.size
    have HF := Lib.hid (own_base h1 hsz)
    have H2 := Lib.hid (HE.out.trans (E18.out.trans h2))
    clear h1 h2 hfin
    go_wp2_with fail
    go_ret
    exact ⟨v, rfl, HF.out, H2.out⟩
  · have hb : putPodB p = [] := by unfold putPodB; rw [if_neg hok]
    rw [hb]
    rw [show mayPodB p = false by simpa using hok] at HMP
    clear hok hb
    unfold podC at hW HMP ⊢
    go_enter Tryz.func49, Tryz.ntmps49
    go_wp2_with fail
    refine (HMP.out _ HE.out).mono ?_
    rintro e w1 ⟨rfl, e1⟩
    have H2 := Lib.hid (HE.out.trans (E.trans e1))
    go_wp2_with fail
    go_ret
    exact cl_nil _ _ H2.out
end Go.Proofs.YthfafenigjldlaaGreat
