/-
  The walk of the reference's EqNode (printed by mkref.py).
-/
import Derived.Test.YthfafenigjldlaaGreatRef5
import Derived.Test.YthfafenigjldlaaGreatEq2
import Derived.Test.YthfafenigjldlaaGreatNode1
namespace Go.Proofs.YthfafenigjldlaaGreat
open Go.RowKit
set_option linter.unusedVariables false

set_option maxRecDepth 20000 in
set_option maxHeartbeats 8000000 in
theorem rEqNode_any (x y : Nd) (q r : NA) (w : World) (hx : NodeOk w x q) (hy : NodeOk w y r) :
    Calls Tryz.prog 56 #[.agg (nodeC x q).toArray, .agg (nodeC y r).toArray] w (EqPost (x = y) w) := by
  have B := boxed w (nodeC x q) 68
  have HE1 := Lib.hid (boxedExt w (nodeC x q) 68)
  obtain ⟨W1, hW1⟩ : ∃ W1, w.alloc (.cells (nodeC x q).toArray 68) = W1 := ⟨_, rfl⟩
  rw [hW1] at B HE1
  have C := boxed W1 (nodeC y r) 68
  have HE2 := Lib.hid (boxedExt W1 (nodeC y r) 68)
  obtain ⟨W2, hW2⟩ : ∃ W2, W1.alloc (.cells (nodeC y r).toArray 68) = W2 := ⟨_, rfl⟩
  rw [hW2] at C HE2
  have k0 := fun wx (e : Ext W2 wx) => B 0 _ rfl wx (HE2.out.trans e)
  have l0 := C 0 _ rfl
  have k1 := fun wx (e : Ext W2 wx) => B 1 _ rfl wx (HE2.out.trans e)
  have l1 := C 1 _ rfl
  have k2 := fun wx (e : Ext W2 wx) => B 2 _ rfl wx (HE2.out.trans e)
  have l2 := C 2 _ rfl
  have k3 := fun wx (e : Ext W2 wx) => B 3 _ rfl wx (HE2.out.trans e)
  have l3 := C 3 _ rfl
  have k4 := fun wx (e : Ext W2 wx) => B 4 _ rfl wx (HE2.out.trans e)
  have l4 := C 4 _ rfl
  have k5 := fun wx (e : Ext W2 wx) => B 5 _ rfl wx (HE2.out.trans e)
  have l5 := C 5 _ rfl
  have HX : Hid (∀ wx, Ext W2 wx → NodeOk wx x q) := fun wx e => hx.ext (HE1.out.trans (HE2.out.trans e))
  have HY : Hid (∀ wx, Ext W2 wx → NodeOk wx y r) := fun wx e => hy.ext (HE1.out.trans (HE2.out.trans e))
  have HEX : Hid (∀ wx, Ext W2 wx → Ext w wx) := fun wx e => HE1.out.trans (HE2.out.trans e)
  have NEG : Hid (∀ wx, Ext W2 wx → x ≠ y → EqPost (x = y) w (.returned (.bool false)) wx) := fun wx e hne => ⟨false, rfl, by simpa using hne, HEX.out _ e⟩
  have E : Ext W2 W2 := Ext.refl _
  clear B C hx hy
  unfold nodeC at hW1 hW2 ⊢
  obtain ⟨xname, ⟨xa, xb, xc⟩, xlabels, xtaints⟩ := x
  obtain ⟨yname, ⟨ya, yb, yc⟩, ylabels, ytaints⟩ := y
  simp only at k0 hW1 hW2 ⊢
  simp only at k0 l0
  simp only at k1 l1
  simp only at k2 l2
  simp only at k3 l3
  simp only at k4 l4
  simp only at k5 l5
  have hne := eql_res
  have N0 : Hid (xtaints.length ≤ maxLen) := Nat.le_trans (HX.out W2 (Ext.refl _)).n2 (HX.out W2 (Ext.refl _)).m2
  have nn0 : xtaints.length ≤ 9223372036854775807 := by have := N0.out; unfold maxLen at this; omega
  by_cases u0 : xtaints.length = ytaints.length
  case neg =>
    have v0 : ¬ ((xtaints.length : Int) = (ytaints.length : Int)) := by omega
    have FIN := Lib.hid (fun wx e => NEG.out wx e (fun e => u0 (by injections; subst_vars; rfl)))
    clear HX HY NEG
    go_enter Tryz.func56, Tryz.ntmps56
    go_wp2_with fail
    go_ret
    exact FIN.out _ E
  rw [← u0] at l5
  have U0 := Lib.hid u0
  clear u0
  go_enter Tryz.func56, Tryz.ntmps56
  go_wp2_with fail
  go_loopw [16] (fun i wr => ∃ k : Nat, k ≤ xtaints.length ∧ i = .int .i64 k ∧ Ext W2 wr ∧ Hid (xtaints.take k = ytaints.take k)) (fun i _ => xtaints.length - (intOf i).toNat)
  case atStart => exact ⟨0, by omega, rfl, E, rfl⟩
  case round =>
    obtain ⟨k, hk, rfl, F0, ht⟩ := hrel
    by_cases hlt : k < xtaints.length
    · obtain ⟨b, o, x, hA, hxk, ok1, ok2, c0, c1⟩ := (HX.out _ F0).taints.pair hlt
      obtain ⟨b', o', y, hB, hyk, ok3, ok4, d0, d1⟩ := (HY.out _ F0).taints.pair (show k < ytaints.length by have := U0.out; omega)
      have HXK : Hid (xtaints[k]? = some x) := hxk
      have HYK : Hid (ytaints[k]? = some y) := hyk
      rw [hA] at k5
      rw [hB] at l5
      clear hxk hyk hA hB
      have s3 : (k : Int) < (xtaints.length : Int) := by omega
      have s4 : (0 : Int) ≤ (k : Int) := by omega
      by_cases h1 : x.key = y.key
      case neg =>
        have FIN := fun wx (hwx : Ext wr wx) => Lib.hid (NEG.out wx (F0.trans hwx) (fun e => ne_at HXK.out HYK.out (fun e => h1 (by rw [e])) (by injections)))
        have qh1 : (x.key.toList == y.key.toList) = false := eqS_false.2 h1
        have hne := neq_taint
        clear HX HY NEG
        go_wp2_with fail
        go_quiet (fail)
        go_wp2_with fail
        go_ret
        exact (FIN _ (by first | exact Ext.refl _ | exact (Ext.refl _).drew | exact (Ext.refl _).drewN _)).out
      have ph1 : (x.key.toList == y.key.toList) = true := eqS_iff.2 h1
      by_cases h2 : x.val = y.val
      case neg =>
        have FIN := fun wx (hwx : Ext wr wx) => Lib.hid (NEG.out wx (F0.trans hwx) (fun e => ne_at HXK.out HYK.out (fun e => h2 (by rw [e])) (by injections)))
        have qh2 : (x.val.toList == y.val.toList) = false := eqS_false.2 h2
        have hne := neq_taint
        clear HX HY NEG
        go_wp2_with fail
        go_quiet (fail)
        go_wp2_with fail
        go_ret
        exact (FIN _ (by first | exact Ext.refl _ | exact (Ext.refl _).drew | exact (Ext.refl _).drewN _)).out
      have ph2 : (x.val.toList == y.val.toList) = true := eqS_iff.2 h2
      have hne := neq_taint
      have HN : Hid (xtaints.take (k + 1) = ytaints.take (k + 1)) := take_eq_succ ht.out HXK.out (by rw [HYK.out]; congr 1; obtain ⟨x1, x2⟩ := x; obtain ⟨y1, y2⟩ := y; simp at h1 h2; rw [h1, h2])
      have HF0 := Lib.hid F0
      clear NEG HX HY
      go_wp2_with fail
      go_quiet (fail)
      go_wp2_with fail
      go_roundw
      case rel => exact ⟨k + 1, by omega, by go_num, HF0.out.drewN _, HN⟩
      case measure => simp [intOf]; omega
    have EQ0 : Hid (xtaints = ytaints) := take_eq_all U0.out ht.out (by omega)
    clear ht hk
    have E := F0
    have W := Lib.hid NEG.out
    by_cases t0 : xname = yname
    case neg =>
      have qt0 : (xname.toList == yname.toList) = false := eqS_false.2 t0
      have FIN := Lib.hid (fun wx e => NEG.out wx e (fun e => t0 (by injections)))
      clear HX HY NEG W
      go_wp2_with fail
      go_ret
      exact FIN.out _ E
    subst t0
    by_cases t1 : xa = ya
    case neg =>
      have qt1 : (xa == ya) = false := by simpa using t1
      have FIN := Lib.hid (fun wx e => NEG.out wx e (fun e => t1 (by injections)))
      clear HX HY NEG W
      go_wp2_with fail
      go_ret
      exact FIN.out _ E
    subst t1
    by_cases t2 : xb = yb
    case neg =>
      have qt2 : (xb == yb) = false := by simpa using t2
      have FIN := Lib.hid (fun wx e => NEG.out wx e (fun e => t2 (by injections)))
      clear HX HY NEG W
      go_wp2_with fail
      go_ret
      exact FIN.out _ E
    subst t2
    by_cases t3 : xc = yc
    case neg =>
      have qt3 : (xc == yc) = false := by simpa using t3
      have FIN := Lib.hid (fun wx e => NEG.out wx e (fun e => t3 (by injections)))
      clear HX HY NEG W
      go_wp2_with fail
      go_ret
      exact FIN.out _ E
    subst t3
    go_wp2_with fail
    refine (rPairs_any q.a1 r.a1 q.c1 r.c1 xlabels ylabels _ (Nat.le_trans (HX.out W2 (Ext.refl _)).n1 (HX.out W2 (Ext.refl _)).m1) (Nat.le_trans (HY.out W2 (Ext.refl _)).n1 (HY.out W2 (Ext.refl _)).m1) (HX.out _ E).labels (HY.out _ E).labels).mono ?_
    rintro e v0 ⟨b0, rfl, hb0, e0⟩
    replace E := E.trans e0
    clear e0
    have HB0 := Lib.hid hb0
    clear hb0
    cases b0
    case false =>
      have FIN := Lib.hid (NEG.out _ E (fun e => by have := HB0.out.2 (by injections); exact absurd this (by decide)))
      clear HX HY NEG W
      go_wp2_with fail
      go_ret
      exact FIN.out
    have HXY : Hid ((xtaints = ytaints ∧ xlabels = ylabels) → (⟨xname, ⟨xa, xb, xc⟩, xlabels, xtaints⟩ : Nd) = ⟨xname, ⟨xa, xb, xc⟩, ylabels, ytaints⟩) := by
      show _ → _
      rintro ⟨rfl, rfl⟩
      rfl
    have FIN : Hid (EqPost ((⟨xname, ⟨xa, xb, xc⟩, xlabels, xtaints⟩ : Nd) = ⟨xname, ⟨xa, xb, xc⟩, ylabels, ytaints⟩) w (.returned (.bool true)) _) := ⟨true, rfl, by simp only [true_iff]; exact HXY.out ⟨EQ0.out, HB0.out.1 (by first | rfl | trivial)⟩, HEX.out _ E⟩
    clear HX HY NEG W
    go_wp2_with fail
    go_ret
    exact FIN.out
end Go.Proofs.YthfafenigjldlaaGreat
