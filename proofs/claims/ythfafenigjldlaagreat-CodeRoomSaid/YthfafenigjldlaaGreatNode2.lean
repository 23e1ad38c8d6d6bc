/-
  The walk of package code's PutNode (printed by mknode.py).
-/
import Derived.Test.YthfafenigjldlaaGreatNode1
import Derived.Test.YthfafenigjldlaaGreatPut4
import Derived.Test.YthfafenigjldlaaGreatGet1
import Derived.Test.YthfafenigjldlaaGreatDec1
namespace Go.Proofs.YthfafenigjldlaaGreat
open Go.RowKit
set_option linter.unusedVariables false

structure NodMay (p : Nd) : Prop where
  a1 : 0 ≤ p.cap.a
  a2 : p.cap.a ≤ 1000000000
  b1 : 0 ≤ p.cap.b
  b2 : p.cap.b ≤ 1000000000
  c1 : 0 ≤ p.cap.c
  c2 : p.cap.c ≤ 1000000000
  la : p.labels.length ≤ 6
  ta : p.taints.length ≤ 6
theorem NodMay.of {p : Nd} (h : mayNodeB p = true) : NodMay p := by
  simp only [mayNodeB, mayRs, mayR1, mayPairs, Bool.and_eq_true, decide_eq_true_eq] at h
  obtain ⟨⟨⟨h0, ⟨⟨h1, h2⟩, h3⟩⟩, h4⟩, h5⟩ := h
  exact ⟨h1.1, h1.2, h2.1, h2.2, h3.1, h3.2, h4.2, h5.2⟩

set_option maxRecDepth 100000 in
set_option maxHeartbeats 4000000 in
theorem putNode_any (p : Nd) (q : NA) (w : World) (h : NodeOk w p q) :
    Calls Tryz.prog 50 #[.agg (nodeC p q).toArray] w (ClPost 5 1 (putNodeB p).length ((putNodeB p).map byV) w) := by
  have B := boxed w (nodeC p q) 68
  have k0 := B 0 _ rfl
  have k1 := B 1 _ rfl
  have k2 := B 2 _ rfl
  have k3 := B 3 _ rfl
  have k4 := B 4 _ rfl
  have k5 := B 5 _ rfl
  have he := boxedExt w (nodeC p q) 68
  have HMP : Hid (∀ wx, Ext w wx → Calls Tryz.prog 90 #[.agg (nodeC p q).toArray] wx fun e w' => e = .returned (.bool (mayNodeB p)) ∧ Ext wx w') := fun wx e => mayNode_any p q wx (h.ext e)
  have HP : Hid (NodeOk (w.alloc (.cells (nodeC p q).toArray 68)) p q) := h.ext he
  obtain ⟨W1, hW⟩ : ∃ W1, w.alloc (.cells (nodeC p q).toArray 68) = W1 := ⟨_, rfl⟩
  rw [hW] at k0 k1 k2 k3 k4 k5 he HP
  have HE := Lib.hid he
  have E : Ext W1 W1 := Ext.refl _
  clear he B h
  by_cases hok : mayNodeB p = true
  · have hb : putNodeB p = nodeB p := by unfold putNodeB; rw [if_pos hok]
    rw [hb]
    have HM := Lib.hid (NodMay.of hok)
    rw [hok] at HMP
    clear hok hb
    unfold nodeC at hW HMP ⊢
    go_enter Tryz.func50, Tryz.ntmps50
    go_wp2_with fail
    refine (HMP.out _ HE.out).mono ?_
    rintro e w1 ⟨rfl, e1⟩
    replace E := E.trans e1
    clear HMP
    go_wp2_with (first
      | (refine wpList_value (o := ⟨some 3, _, _, _, _, _⟩) rfl (v := .pointer (some ⟨w1.heap.size, 0, none⟩)) (w' := w1.alloc (.cells (newC [.slice none 0 0]) 130)) (by kernel_rfl) ?_
         simp only [Act.put, List.setIfInBounds_toArray, List.set_cons_succ, List.set_cons_zero]))
    have hB : W1.heap.size ≤ w1.heap.size := e1.size
    have HBB := Lib.hid hB
    have W0 := Wr.new w1
    obtain ⟨g, hg⟩ : ∃ g, g = w1.heap.size := ⟨_, rfl⟩
    rw [← hg] at W0 ⊢
    have HB1 : Hid (W1.heap.size ≤ g) := by rw [hg]; exact hB
    have E1 : Hid (Ext W1 (w1.alloc (.cells (newC [.slice none 0 0]) 130))) := E.alloc _
    have HG := Lib.hid hg
    clear hg hB e1 E
    have y0 : Hid (([] : List UInt8).length ≤ 0) := by simp [Hid]
    -- step 1
    refine (wNumI g g false ([] : List UInt8) 2 1 _ (by omega) (by omega) (by omega) (by omega) (by have := y0.out; omega) W0).mono ?_
    rintro e w2 ⟨rfl, b1, R1⟩
    have E2 : Hid (Ext W1 w2) := E1.out.below HB1.out b1
    obtain ⟨Y1, hY1⟩ : ∃ Y, Y = ([] : List UInt8) ++ numB (2 : Int).toNat (1 : Int).toNat := ⟨_, rfl⟩
    rw [← hY1] at R1
    have y1 : Hid (Y1.length ≤ 8) := by show _ ≤ _; have := y0.out; rw [hY1, List.length_append]; rw [numB_len]; first | omega | (simp; done) | (simp; omega)
    have HY1 := Lib.hid hY1
    clear hY1 b1 W0
    have E := E2.out
    go_wp2_with fail
    clear E
    -- step 2
    refine (wName_any g g false Y1 p.name _ HP.out.name (by have := y1.out; omega) R1).mono ?_
    rintro e w3 ⟨rfl, b2, R2⟩
    have E3 : Hid (Ext W1 w3) := E2.out.below HB1.out b2
    obtain ⟨Y2, hY2⟩ : ∃ Y, Y = Y1 ++ nameB8 p.name := ⟨_, rfl⟩
    rw [← hY2] at R2
    have y2 : Hid (Y2.length ≤ 16) := by show _ ≤ _; have := y1.out; rw [hY2, List.length_append]; rw [nameB8_len]; omega
    have HY2 := Lib.hid hY2
    clear hY2 b2 R1
    have E := E3.out
    go_wp2_with fail
    clear E
    -- step 3
    refine (putRes_any g g true Y2 p.cap _ HM.out.a1 HM.out.a2 HM.out.b1 HM.out.b2 HM.out.c1 HM.out.c2 (by have := y2.out; omega) R2).mono ?_
    rintro e w4 ⟨rfl, b3, R3⟩
    have E4 : Hid (Ext W1 w4) := E3.out.below HB1.out b3
    obtain ⟨Y3, hY3⟩ : ∃ Y, Y = Y2 ++ resB p.cap := ⟨_, rfl⟩
    rw [← hY3] at R3
    have y3 : Hid (Y3.length ≤ 28) := by show _ ≤ _; have := y2.out; rw [hY3, List.length_append]; rw [resB_len]; omega
    have HY3 := Lib.hid hY3
    clear hY3 b3 R2
    have E := E4.out
    go_wp2_with fail
    clear E
    -- step 4
    refine (putPair_any g g Y3 q.a1 q.c1 p.labels W1 _ E4.out HB1.out HP.out.labels HM.out.la (by have := y3.out; omega) R3).mono ?_
    rintro e w5 ⟨rfl, b4, R4⟩
    have E5 : Hid (Ext W1 w5) := E4.out.below HB1.out b4
    obtain ⟨Y4, hY4⟩ : ∃ Y, Y = Y3 ++ pairsB p.labels := ⟨_, rfl⟩
    rw [← hY4] at R4
    have y4 : Hid (Y4.length ≤ 428) := by show _ ≤ _; have := y3.out; rw [hY4, List.length_append]; have := pairsB_len HM.out.la; omega
    have HY4 := Lib.hid hY4
    clear hY4 b4 R3
    have E := E5.out
    go_wp2_with fail
    clear E
    -- step 5
    refine (putTaint_any g g Y4 q.a2 q.c2 p.taints W1 _ E5.out HB1.out HP.out.taints HM.out.ta (by have := y4.out; omega) R4).mono ?_
    rintro e w6 ⟨rfl, b5, R5⟩
    have E6 : Hid (Ext W1 w6) := E5.out.below HB1.out b5
    obtain ⟨Y5, hY5⟩ : ∃ Y, Y = Y4 ++ pairsB p.taints := ⟨_, rfl⟩
    rw [← hY5] at R5
    have y5 : Hid (Y5.length ≤ 828) := by show _ ≤ _; have := y4.out; rw [hY5, List.length_append]; have := pairsB_len HM.out.ta; omega
    have HY5 := Lib.hid hY5
    clear hY5 b5 R4
    have E := E6.out
    go_wp2_with fail
    clear E
    have hfin : nodeB p = Y5 := by
      rw [HY5.out, HY4.out, HY3.out, HY2.out, HY1.out]
      simp [nodeB]
    rw [← hfin] at R5 y5
    have hl := y5.out
    refine (wBytes_any _ _ _ _ _ (by omega) R5).mono ?_
    rintro e wz ⟨v, rfl, h1, h2⟩
    have hsz : w.heap.size ≤ w6.heap.size := Nat.le_trans HE.out.size E6.out.size
    have HF := Lib.hid (own_base h1 hsz)
    have H2 := Lib.hid (HE.out.trans (E6.out.trans h2))
    clear h1 h2 hfin
    go_wp2_with fail
    go_ret
    exact ⟨v, rfl, HF.out, H2.out⟩
  · have hb : putNodeB p = [] := by unfold putNodeB; rw [if_neg hok]
    rw [hb]
    rw [show mayNodeB p = false by simpa using hok] at HMP
    clear hok hb
    unfold nodeC at hW HMP ⊢
    go_enter Tryz.func50, Tryz.ntmps50
    go_wp2_with fail
    refine (HMP.out _ HE.out).mono ?_
    rintro e w1 ⟨rfl, e1⟩
    have H2 := Lib.hid (HE.out.trans (E.trans e1))
    go_wp2_with fail
    go_ret
    exact cl_nil _ _ H2.out
end Go.Proofs.YthfafenigjldlaaGreat
