/-
  The walk of the reference's EqPod (printed by mkref.py).
-/
import Derived.Test.YthfafenigjldlaaGreatRef5
import Derived.Test.YthfafenigjldlaaGreatEq2
import Derived.Test.YthfafenigjldlaaGreatObj1
namespace Go.Proofs.YthfafenigjldlaaGreat
open Go.RowKit
set_option linter.unusedVariables false

set_option maxRecDepth 20000 in
set_option maxHeartbeats 8000000 in
theorem rEqPod_same (x : Pd) (q r : PA) (w : World) (hx : PodOk w x q) (hy : PodOk w x r) :
    Calls Tryz.prog 52 #[.agg (podC x q).toArray, .agg (podC x r).toArray] w fun e w' => e = .returned (.bool true) ∧ Ext w w' := by
  have B := boxed w (podC x q) 66
  have HE1 := Lib.hid (boxedExt w (podC x q) 66)
  obtain ⟨W1, hW1⟩ : ∃ W1, w.alloc (.cells (podC x q).toArray 66) = W1 := ⟨_, rfl⟩
  rw [hW1] at B HE1
  have C := boxed W1 (podC x r) 66
  have HE2 := Lib.hid (boxedExt W1 (podC x r) 66)
  obtain ⟨W2, hW2⟩ : ∃ W2, W1.alloc (.cells (podC x r).toArray 66) = W2 := ⟨_, rfl⟩
  rw [hW2] at C HE2
  have k0 := fun wx (e : Ext W2 wx) => B 0 _ rfl wx (HE2.out.trans e)
  have l0 := C 0 _ rfl
  have k1 := fun wx (e : Ext W2 wx) => B 1 _ rfl wx (HE2.out.trans e)
  have l1 := C 1 _ rfl
  have k2 := fun wx (e : Ext W2 wx) => B 2 _ rfl wx (HE2.out.trans e)
  have l2 := C 2 _ rfl
  have k3 := fun wx (e : Ext W2 wx) => B 3 _ rfl wx (HE2.out.trans e)
  have l3 := C 3 _ rfl
  have k4 := fun wx (e : Ext W2 wx) => B 4 _ rfl wx (HE2.out.trans e)
  have l4 := C 4 _ rfl
  have k5 := fun wx (e : Ext W2 wx) => B 5 _ rfl wx (HE2.out.trans e)
  have l5 := C 5 _ rfl
  have k6 := fun wx (e : Ext W2 wx) => B 6 _ rfl wx (HE2.out.trans e)
  have l6 := C 6 _ rfl
  have k7 := fun wx (e : Ext W2 wx) => B 7 _ rfl wx (HE2.out.trans e)
  have l7 := C 7 _ rfl
  have k8 := fun wx (e : Ext W2 wx) => B 8 _ rfl wx (HE2.out.trans e)
  have l8 := C 8 _ rfl
  have k9 := fun wx (e : Ext W2 wx) => B 9 _ rfl wx (HE2.out.trans e)
  have l9 := C 9 _ rfl
  have k10 := fun wx (e : Ext W2 wx) => B 10 _ rfl wx (HE2.out.trans e)
  have l10 := C 10 _ rfl
  have k11 := fun wx (e : Ext W2 wx) => B 11 _ rfl wx (HE2.out.trans e)
  have l11 := C 11 _ rfl
  have k12 := fun wx (e : Ext W2 wx) => B 12 _ rfl wx (HE2.out.trans e)
  have l12 := C 12 _ rfl
  have k13 := fun wx (e : Ext W2 wx) => B 13 _ rfl wx (HE2.out.trans e)
  have l13 := C 13 _ rfl
  have k14 := fun wx (e : Ext W2 wx) => B 14 _ rfl wx (HE2.out.trans e)
  have l14 := C 14 _ rfl
  have k15 := fun wx (e : Ext W2 wx) => B 15 _ rfl wx (HE2.out.trans e)
  have l15 := C 15 _ rfl
  have HX : Hid (∀ wx, Ext W2 wx → PodOk wx x q) := fun wx e => hx.ext (HE1.out.trans (HE2.out.trans e))
  have HY : Hid (∀ wx, Ext W2 wx → PodOk wx x r) := fun wx e => hy.ext (HE1.out.trans (HE2.out.trans e))
  have HEX : Hid (∀ wx, Ext W2 wx → Ext w wx) := fun wx e => HE1.out.trans (HE2.out.trans e)
  have E : Ext W2 W2 := Ext.refl _
  clear B C hx hy
  unfold podC at hW1 hW2 ⊢
  obtain ⟨xname, xuid, xprio, ⟨xa, xb, xc⟩, xports, xlabels, xsel, xtols, xtopo, xanti, xskew, xeven, xnode, xterm⟩ := x
  simp only at k0 hW1 hW2 ⊢
  simp only at k0 l0
  simp only at k1 l1
  simp only at k2 l2
  simp only at k3 l3
  simp only at k4 l4
  simp only at k5 l5
  simp only at k6 l6
  simp only at k7 l7
  simp only at k8 l8
  simp only at k9 l9
  simp only at k10 l10
  simp only at k11 l11
  simp only at k12 l12
  simp only at k13 l13
  simp only at k14 l14
  simp only at k15 l15
  have hne := eql_res
  have N0 : Hid (xports.length ≤ maxLen) := Nat.le_trans (HX.out W2 (Ext.refl _)).n1 (HX.out W2 (Ext.refl _)).m1
  have nn0 : xports.length ≤ 9223372036854775807 := by have := N0.out; unfold maxLen at this; omega
  have N1 : Hid (xtols.length ≤ maxLen) := Nat.le_trans (HX.out W2 (Ext.refl _)).n4 (HX.out W2 (Ext.refl _)).m4
  have nn1 : xtols.length ≤ 9223372036854775807 := by have := N1.out; unfold maxLen at this; omega
  go_enter Tryz.func52, Tryz.ntmps52
  go_wp2_with fail
  go_loopw [26] (fun i wr => ∃ k : Nat, k ≤ xports.length ∧ i = .int .i64 k ∧ Ext W2 wr) (fun i _ => xports.length - (intOf i).toNat)
  case atStart => exact ⟨0, by omega, rfl, E⟩
  case round =>
    obtain ⟨k, hk, rfl, F0⟩ := hrel
    by_cases hlt : k < xports.length
    · obtain ⟨b, o, x, hA, hxk, ok1, c0⟩ := (HX.out _ F0).ports.int hlt
      obtain ⟨b', o', y, hB, hyk, ok2, d0⟩ := (HY.out _ F0).ports.int hlt
      have HXK : xports[k]? = some x := hxk
      have HYK : xports[k]? = some y := hyk
      obtain rfl : x = y := by rw [HXK] at HYK; injection HYK
      clear HXK HYK
      rw [hA] at k6
      rw [hB] at l6
      clear hxk hyk hA hB
      have s3 : (k : Int) < (xports.length : Int) := by omega
      have s4 : (0 : Int) ≤ (k : Int) := by omega
      have HF0 := Lib.hid F0
      clear HX HY
      go_wp2_with fail
      go_quiet (fail)
      go_wp2_with fail
      go_roundw
      case rel => exact ⟨k + 1, by omega, by go_num, HF0.out.drewN _⟩
      case measure => simp [intOf]; omega
    clear hk
    go_wp2_with fail
    go_loopw [44] (fun i wr => ∃ k : Nat, k ≤ xtols.length ∧ i = .int .i64 k ∧ Ext W2 wr) (fun i _ => xtols.length - (intOf i).toNat)
    case atStart => exact ⟨0, by omega, rfl, F0⟩
    case round =>
      obtain ⟨k, hk, rfl, F1⟩ := hrel
      by_cases hlt : k < xtols.length
      · obtain ⟨b, o, x, hA, hxk, ok1, ok2, c0, c1, c2⟩ := (HX.out _ F1).tols.tol hlt
        obtain ⟨b', o', y, hB, hyk, ok3, ok4, d0, d1, d2⟩ := (HY.out _ F1).tols.tol hlt
        have HXK : xtols[k]? = some x := hxk
        have HYK : xtols[k]? = some y := hyk
        obtain rfl : x = y := by rw [HXK] at HYK; injection HYK
        clear HXK HYK
        rw [hA] at k9
        rw [hB] at l9
        clear hxk hyk hA hB
        have s3 : (k : Int) < (xtols.length : Int) := by omega
        have s4 : (0 : Int) ≤ (k : Int) := by omega
        have hne := neq_toler
        have HF1 := Lib.hid F1
        clear HX HY
        go_wp2_with fail
        go_quiet (fail)
        go_wp2_with fail
        go_roundw
        case rel => exact ⟨k + 1, by omega, by go_num, HF1.out.drewN _⟩
        case measure => simp [intOf]; omega
      clear hk
      have E := F1
      go_wp2_with fail
      refine (rPairs_any q.a2 r.a2 q.c2 r.c2 xlabels xlabels _ (Nat.le_trans (HX.out W2 (Ext.refl _)).n2 (HX.out W2 (Ext.refl _)).m2) (Nat.le_trans (HY.out W2 (Ext.refl _)).n2 (HY.out W2 (Ext.refl _)).m2) (HX.out _ E).labels (HY.out _ E).labels).mono ?_
      rintro e v0 ⟨b0, rfl, hb0, e0⟩
      replace E := E.trans e0
      clear e0
      obtain rfl : b0 = true := hb0.2 rfl
      clear hb0
      go_wp2_with fail
      refine (rTerms_any q.a3 r.a3 q.c3 r.c3 xsel xsel _ (Nat.le_trans (HX.out W2 (Ext.refl _)).n3 (HX.out W2 (Ext.refl _)).m3) (Nat.le_trans (HY.out W2 (Ext.refl _)).n3 (HY.out W2 (Ext.refl _)).m3) (HX.out _ E).sel (HY.out _ E).sel).mono ?_
      rintro e v1 ⟨b1, rfl, hb1, e1⟩
      replace E := E.trans e1
      clear e1
      obtain rfl : b1 = true := hb1.2 rfl
      clear hb1
      go_wp2_with fail
      refine (rTerms_any q.a5 r.a5 q.c5 r.c5 xanti xanti _ (Nat.le_trans (HX.out W2 (Ext.refl _)).n5 (HX.out W2 (Ext.refl _)).m5) (Nat.le_trans (HY.out W2 (Ext.refl _)).n5 (HY.out W2 (Ext.refl _)).m5) (HX.out _ E).anti (HY.out _ E).anti).mono ?_
      rintro e v2 ⟨b2, rfl, hb2, e2⟩
      replace E := E.trans e2
      clear e2
      obtain rfl : b2 = true := hb2.2 rfl
      clear hb2
      go_wp2_with fail
      refine (rTerms_any q.a6 r.a6 q.c6 r.c6 xeven xeven _ (Nat.le_trans (HX.out W2 (Ext.refl _)).n6 (HX.out W2 (Ext.refl _)).m6) (Nat.le_trans (HY.out W2 (Ext.refl _)).n6 (HY.out W2 (Ext.refl _)).m6) (HX.out _ E).even (HY.out _ E).even).mono ?_
      rintro e v3 ⟨b3, rfl, hb3, e3⟩
      replace E := E.trans e3
      clear e3
      obtain rfl : b3 = true := hb3.2 rfl
      clear hb3
      have FIN := Lib.hid (HEX.out _ E)
      clear HX HY
      go_wp2_with fail
      go_ret
      exact ⟨rfl, FIN.out⟩
end Go.Proofs.YthfafenigjldlaaGreat
