/-
  The walk of obj.EqPod (printed by mkeqpod.py).
-/
import Derived.Test.YthfafenigjldlaaGreatEq2
import Derived.Test.YthfafenigjldlaaGreatObj1
namespace Go.Proofs.YthfafenigjldlaaGreat
open Go.RowKit
set_option linter.unusedVariables false

set_option maxRecDepth 20000 in
set_option maxHeartbeats 4000000 in
theorem eqPod_any (x y : Pd) (q r : PA) (w : World) (hx : PodOk w x q) (hy : PodOk w y r) :
    Calls Tryz.prog 47 #[.agg (podC x q).toArray, .agg (podC y r).toArray] w (EqPost (x = y) w) := by
  have B := boxed w (podC x q) 66
  have HE1 := Lib.hid (boxedExt w (podC x q) 66)
  obtain ⟨W1, hW1⟩ : ∃ W1, w.alloc (.cells (podC x q).toArray 66) = W1 := ⟨_, rfl⟩
  rw [hW1] at B HE1
  have C := boxed W1 (podC y r) 66
  have HE2 := Lib.hid (boxedExt W1 (podC y r) 66)
  obtain ⟨W2, hW2⟩ : ∃ W2, W1.alloc (.cells (podC y r).toArray 66) = W2 := ⟨_, rfl⟩
  rw [hW2] at C HE2
  have k0 := fun wx (e : Ext W2 wx) => B 0 _ rfl wx (HE2.out.trans e)
  have l0 := C 0 _ rfl
  have k1 := fun wx (e : Ext W2 wx) => B 1 _ rfl wx (HE2.out.trans e)
  have l1 := C 1 _ rfl
  have k2 := fun wx (e : Ext W2 wx) => B 2 _ rfl wx (HE2.out.trans e)
  have l2 := C 2 _ rfl
  have k3 := fun wx (e : Ext W2 wx) => B 3 _ rfl wx (HE2.out.trans e)
  have l3 := C 3 _ rfl
  have k4 := fun wx (e : Ext W2 wx) => B 4 _ rfl wx (HE2.out.trans e)
  have l4 := C 4 _ rfl
  have k5 := fun wx (e : Ext W2 wx) => B 5 _ rfl wx (HE2.out.trans e)
  have l5 := C 5 _ rfl
  have k6 := fun wx (e : Ext W2 wx) => B 6 _ rfl wx (HE2.out.trans e)
  have l6 := C 6 _ rfl
  have k7 := fun wx (e : Ext W2 wx) => B 7 _ rfl wx (HE2.out.trans e)
  have l7 := C 7 _ rfl
  have k8 := fun wx (e : Ext W2 wx) => B 8 _ rfl wx (HE2.out.trans e)
  have l8 := C 8 _ rfl
  have k9 := fun wx (e : Ext W2 wx) => B 9 _ rfl wx (HE2.out.trans e)
  have l9 := C 9 _ rfl
  have k10 := fun wx (e : Ext W2 wx) => B 10 _ rfl wx (HE2.out.trans e)
  have l10 := C 10 _ rfl
  have k11 := fun wx (e : Ext W2 wx) => B 11 _ rfl wx (HE2.out.trans e)
  have l11 := C 11 _ rfl
  have k12 := fun wx (e : Ext W2 wx) => B 12 _ rfl wx (HE2.out.trans e)
  have l12 := C 12 _ rfl
  have k13 := fun wx (e : Ext W2 wx) => B 13 _ rfl wx (HE2.out.trans e)
  have l13 := C 13 _ rfl
  have k14 := fun wx (e : Ext W2 wx) => B 14 _ rfl wx (HE2.out.trans e)
  have l14 := C 14 _ rfl
  have k15 := fun wx (e : Ext W2 wx) => B 15 _ rfl wx (HE2.out.trans e)
  have l15 := C 15 _ rfl
  have HX : Hid (∀ wx, Ext W2 wx → PodOk wx x q) := fun wx e => hx.ext (HE1.out.trans (HE2.out.trans e))
  have HY : Hid (∀ wx, Ext W2 wx → PodOk wx y r) := fun wx e => hy.ext (HE1.out.trans (HE2.out.trans e))
  have HEX : Hid (∀ wx, Ext W2 wx → Ext w wx) := fun wx e => HE1.out.trans (HE2.out.trans e)
  have NEG : Hid (∀ wx, Ext W2 wx → x ≠ y → EqPost (x = y) w (.returned (.bool false)) wx) := fun wx e hne => ⟨false, rfl, by simpa using hne, HEX.out _ e⟩
  have E : Ext W2 W2 := Ext.refl _
  clear B C hx hy
  unfold podC at hW1 hW2 ⊢
  obtain ⟨xname, xuid, xprio, ⟨xa, xb, xc⟩, xports, xlabels, xsel, xtols, xtopo, xanti, xskew, xeven, xnode, xterm⟩ := x
  obtain ⟨yname, yuid, yprio, ⟨ya, yb, yc⟩, yports, ylabels, ysel, ytols, ytopo, yanti, yskew, yeven, ynode, yterm⟩ := y
  simp only at k0 hW1 hW2 ⊢
  simp only at k0 l0
  simp only at k1 l1
  simp only at k2 l2
  simp only at k3 l3
  simp only at k4 l4
  simp only at k5 l5
  simp only at k6 l6
  simp only at k7 l7
  simp only at k8 l8
  simp only at k9 l9
  simp only at k10 l10
  simp only at k11 l11
  simp only at k12 l12
  simp only at k13 l13
  simp only at k14 l14
  simp only at k15 l15
  have hne := neq_res
  by_cases t0 : xname = yname
  case neg =>
    have qt0 : (xname.toList == yname.toList) = false := eqS_false.2 t0
    have FIN := Lib.hid (fun wx e => NEG.out wx e (fun e => t0 (by injections)))
    clear HX HY NEG
    go_enter Tryz.func47, Tryz.ntmps47
    go_wp2_with fail
    go_ret
    exact FIN.out _ E
  subst t0
  by_cases t1 : xuid = yuid
  case neg =>
    have FIN := Lib.hid (fun wx e => NEG.out wx e (fun e => t1 (by injections)))
    clear HX HY NEG
    go_enter Tryz.func47, Tryz.ntmps47
    go_wp2_with fail
    go_ret
    exact FIN.out _ E
  subst t1
  by_cases t2 : xprio = yprio
  case neg =>
    have FIN := Lib.hid (fun wx e => NEG.out wx e (fun e => t2 (by injections)))
    clear HX HY NEG
    go_enter Tryz.func47, Tryz.ntmps47
    go_wp2_with fail
    go_ret
    exact FIN.out _ E
  subst t2
  by_cases t3 : xa = ya
  case neg =>
    have qt3 : (xa == ya) = false := by simpa using t3
    have FIN := Lib.hid (fun wx e => NEG.out wx e (fun e => t3 (by injections)))
    clear HX HY NEG
    go_enter Tryz.func47, Tryz.ntmps47
    go_wp2_with fail
    go_ret
    exact FIN.out _ E
  subst t3
  by_cases t4 : xb = yb
  case neg =>
    have qt4 : (xb == yb) = false := by simpa using t4
    have FIN := Lib.hid (fun wx e => NEG.out wx e (fun e => t4 (by injections)))
    clear HX HY NEG
    go_enter Tryz.func47, Tryz.ntmps47
    go_wp2_with fail
    go_ret
    exact FIN.out _ E
  subst t4
  by_cases t5 : xc = yc
  case neg =>
    have qt5 : (xc == yc) = false := by simpa using t5
    have FIN := Lib.hid (fun wx e => NEG.out wx e (fun e => t5 (by injections)))
    clear HX HY NEG
    go_enter Tryz.func47, Tryz.ntmps47
    go_wp2_with fail
    go_ret
    exact FIN.out _ E
  subst t5
  by_cases t6 : xtopo = ytopo
  case neg =>
    have qt6 : (xtopo.toList == ytopo.toList) = false := eqS_false.2 t6
    have FIN := Lib.hid (fun wx e => NEG.out wx e (fun e => t6 (by injections)))
    clear HX HY NEG
    go_enter Tryz.func47, Tryz.ntmps47
    go_wp2_with fail
    go_ret
    exact FIN.out _ E
  subst t6
  by_cases t7 : xskew = yskew
  case neg =>
    have FIN := Lib.hid (fun wx e => NEG.out wx e (fun e => t7 (by injections)))
    clear HX HY NEG
    go_enter Tryz.func47, Tryz.ntmps47
    go_wp2_with fail
    go_ret
    exact FIN.out _ E
  subst t7
  by_cases t8 : xnode = ynode
  case neg =>
    have qt8 : (xnode.toList == ynode.toList) = false := eqS_false.2 t8
    have FIN := Lib.hid (fun wx e => NEG.out wx e (fun e => t8 (by injections)))
    clear HX HY NEG
    go_enter Tryz.func47, Tryz.ntmps47
    go_wp2_with fail
    go_ret
    exact FIN.out _ E
  subst t8
  by_cases t9 : xterm = yterm
  case neg =>
    have FIN := Lib.hid (fun wx e => NEG.out wx e (fun e => t9 (by injections)))
    clear HX HY NEG
    go_enter Tryz.func47, Tryz.ntmps47
    go_wp2_with fail
    go_ret
    exact FIN.out _ E
  subst t9
  have HXY : Hid ((xports = yports ∧ xlabels = ylabels ∧ xtols = ytols ∧ xsel = ysel ∧ xanti = yanti ∧ xeven = yeven) → (⟨xname, xuid, xprio, ⟨xa, xb, xc⟩, xports, xlabels, xsel, xtols, xtopo, xanti, xskew, xeven, xnode, xterm⟩ : Pd) = ⟨xname, xuid, xprio, ⟨xa, xb, xc⟩, yports, ylabels, ysel, ytols, xtopo, yanti, xskew, yeven, xnode, xterm⟩) := by
    show _ → _
    rintro ⟨rfl, rfl, rfl, rfl, rfl, rfl⟩
    rfl
  go_enter Tryz.func47, Tryz.ntmps47
  go_wp2_with fail
  refine (eqInt_any q.a1 r.a1 q.c1 r.c1 xports yports _ (Nat.le_trans (HX.out W2 (Ext.refl _)).n1 (HX.out W2 (Ext.refl _)).m1) (Nat.le_trans (HY.out W2 (Ext.refl _)).n1 (HY.out W2 (Ext.refl _)).m1) (HX.out _ E).ports (HY.out _ E).ports).mono ?_
  rintro e v0 ⟨b0, rfl, hb0, e0⟩
  replace E := E.trans e0
  clear e0
  have HB0 := Lib.hid hb0
  clear hb0
  cases b0
  case false =>
    have FIN := Lib.hid (NEG.out _ E (fun e => by have := HB0.out.2 (by injections); exact absurd this (by decide)))
    clear HX HY NEG
    go_wp2_with fail
    go_ret
    exact FIN.out
  go_wp2_with fail
  refine (eqPair_any q.a2 r.a2 q.c2 r.c2 xlabels ylabels _ (Nat.le_trans (HX.out W2 (Ext.refl _)).n2 (HX.out W2 (Ext.refl _)).m2) (Nat.le_trans (HY.out W2 (Ext.refl _)).n2 (HY.out W2 (Ext.refl _)).m2) (HX.out _ E).labels (HY.out _ E).labels).mono ?_
  rintro e v1 ⟨b1, rfl, hb1, e1⟩
  replace E := E.trans e1
  clear e1
  have HB1 := Lib.hid hb1
  clear hb1
  cases b1
  case false =>
    have FIN := Lib.hid (NEG.out _ E (fun e => by have := HB1.out.2 (by injections); exact absurd this (by decide)))
    clear HX HY NEG
    go_wp2_with fail
    go_ret
    exact FIN.out
  go_wp2_with fail
  refine (eqToler_any q.a4 r.a4 q.c4 r.c4 xtols ytols _ (Nat.le_trans (HX.out W2 (Ext.refl _)).n4 (HX.out W2 (Ext.refl _)).m4) (Nat.le_trans (HY.out W2 (Ext.refl _)).n4 (HY.out W2 (Ext.refl _)).m4) (HX.out _ E).tols (HY.out _ E).tols).mono ?_
  rintro e v2 ⟨b2, rfl, hb2, e2⟩
  replace E := E.trans e2
  clear e2
  have HB2 := Lib.hid hb2
  clear hb2
  cases b2
  case false =>
    have FIN := Lib.hid (NEG.out _ E (fun e => by have := HB2.out.2 (by injections); exact absurd this (by decide)))
    clear HX HY NEG
    go_wp2_with fail
    go_ret
    exact FIN.out
  go_wp2_with fail
  refine (eqTerms_any q.a3 r.a3 q.c3 r.c3 xsel ysel _ (Nat.le_trans (HX.out W2 (Ext.refl _)).n3 (HX.out W2 (Ext.refl _)).m3) (Nat.le_trans (HY.out W2 (Ext.refl _)).n3 (HY.out W2 (Ext.refl _)).m3) (HX.out _ E).sel (HY.out _ E).sel).mono ?_
  rintro e v3 ⟨b3, rfl, hb3, e3⟩
  replace E := E.trans e3
  clear e3
  have HB3 := Lib.hid hb3
  clear hb3
  cases b3
  case false =>
    have FIN := Lib.hid (NEG.out _ E (fun e => by have := HB3.out.2 (by injections); exact absurd this (by decide)))
    clear HX HY NEG
    go_wp2_with fail
    go_ret
    exact FIN.out
  go_wp2_with fail
  refine (eqTerms_any q.a5 r.a5 q.c5 r.c5 xanti yanti _ (Nat.le_trans (HX.out W2 (Ext.refl _)).n5 (HX.out W2 (Ext.refl _)).m5) (Nat.le_trans (HY.out W2 (Ext.refl _)).n5 (HY.out W2 (Ext.refl _)).m5) (HX.out _ E).anti (HY.out _ E).anti).mono ?_
  rintro e v4 ⟨b4, rfl, hb4, e4⟩
  replace E := E.trans e4
  clear e4
  have HB4 := Lib.hid hb4
  clear hb4
  cases b4
  case false =>
    have FIN := Lib.hid (NEG.out _ E (fun e => by have := HB4.out.2 (by injections); exact absurd this (by decide)))
    clear HX HY NEG
    go_wp2_with fail
    go_ret
    exact FIN.out
  go_wp2_with fail
  refine (eqTerms_any q.a6 r.a6 q.c6 r.c6 xeven yeven _ (Nat.le_trans (HX.out W2 (Ext.refl _)).n6 (HX.out W2 (Ext.refl _)).m6) (Nat.le_trans (HY.out W2 (Ext.refl _)).n6 (HY.out W2 (Ext.refl _)).m6) (HX.out _ E).even (HY.out _ E).even).mono ?_
  rintro e v5 ⟨b5, rfl, hb5, e5⟩
  replace E := E.trans e5
  clear e5
  have HB5 := Lib.hid hb5
  clear hb5
  cases b5
  case false =>
    have FIN := Lib.hid (NEG.out _ E (fun e => by have := HB5.out.2 (by injections); exact absurd this (by decide)))
    clear HX HY NEG
    go_wp2_with fail
    go_ret
    exact FIN.out
  have FIN : Hid (EqPost ((⟨xname, xuid, xprio, ⟨xa, xb, xc⟩, xports, xlabels, xsel, xtols, xtopo, xanti, xskew, xeven, xnode, xterm⟩ : Pd) = ⟨xname, xuid, xprio, ⟨xa, xb, xc⟩, yports, ylabels, ysel, ytols, xtopo, yanti, xskew, yeven, xnode, xterm⟩) w (.returned (.bool true)) _) := ⟨true, rfl, by simp only [true_iff]; exact HXY.out ⟨HB0.out.1 (by first | rfl | trivial), HB1.out.1 (by first | rfl | trivial), HB2.out.1 (by first | rfl | trivial), HB3.out.1 (by first | rfl | trivial), HB4.out.1 (by first | rfl | trivial), HB5.out.1 (by first | rfl | trivial)⟩, HEX.out _ E⟩
  clear HX HY NEG
  go_wp2_with fail
  go_ret
  exact FIN.out
end Go.Proofs.YthfafenigjldlaaGreat
