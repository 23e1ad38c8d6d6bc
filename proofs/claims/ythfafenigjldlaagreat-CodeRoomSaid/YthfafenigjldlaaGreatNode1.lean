/-
  The walks of package obj: nodes: MayNode, EqNode.
-/
import Derived.Test.YthfafenigjldlaaGreatRef3
import Derived.Test.YthfafenigjldlaaGreatObj1
import Derived.Test.YthfafenigjldlaaGreatEq2
namespace Go.Proofs.YthfafenigjldlaaGreat
open Go.RowKit
set_option linter.unusedVariables false

/-- where a node's lists lie -/
structure NA where
  a1 : Option Addr
  c1 : Nat
  a2 : Option Addr
  c2 : Nat
structure NodeOk (w : World) (p : Nd) (q : NA) : Prop where
  name : okS p.name
  cap : okR p.cap
  labels : Sl RPair 2 w q.a1 p.labels
  taints : Sl RPair 2 w q.a2 p.taints
  n1 : p.labels.length ≤ q.c1
  m1 : q.c1 ≤ maxLen
  n2 : p.taints.length ≤ q.c2
  m2 : q.c2 ≤ maxLen
theorem NodeOk.ext {w w' : World} {p : Nd} {q : NA} (h : NodeOk w p q) (he : Ext w w') : NodeOk w' p q :=
  { h with labels := h.labels.ext RPair.keeps he, taints := h.taints.ext RPair.keeps he }
/-- a node's six cells -/
def nodeC (p : Nd) (q : NA) : List Value := [.string p.name, .int .i64 p.cap.a, .int .i64 p.cap.b, .int .i64 p.cap.c, .slice q.a1 p.labels.length q.c1, .slice q.a2 p.taints.length q.c2]

set_option maxHeartbeats 2000000 in
theorem mayNode_any (p : Nd) (q : NA) (w : World) (h : NodeOk w p q) :
    Calls Tryz.prog 90 #[.agg (nodeC p q).toArray] w fun e w' => e = .returned (.bool (mayNodeB p)) ∧ Ext w w' := by
  have B := boxed w (nodeC p q) 68
  have k0 := B 0 _ rfl
  have k1 := B 1 _ rfl
  have k2 := B 2 _ rfl
  have k3 := B 3 _ rfl
  have k4 := B 4 _ rfl
  have k5 := B 5 _ rfl
  have he := boxedExt w (nodeC p q) 68
  have L : Hid (p.labels.length ≤ maxLen ∧ p.taints.length ≤ maxLen) := ⟨Nat.le_trans h.n1 h.m1, Nat.le_trans h.n2 h.m2⟩
  have t1 := h.name
  have HP : Hid (∀ wx, Ext w wx → NodeOk wx p q) := fun wx e => h.ext e
  have HQ := Lib.hid (fun wx => qMay_any p.cap wx)
  clear B h
  obtain ⟨W1, hW⟩ : ∃ W1, w.alloc (.cells (nodeC p q).toArray 68) = W1 := ⟨_, rfl⟩
  rw [hW] at k0 k1 k2 k3 k4 k5 he
  have HE := Lib.hid he
  have E : Ext W1 W1 := Ext.refl _
  clear he
  unfold nodeC at hW ⊢
  obtain ⟨b1, h1⟩ : ∃ b, b = nameB p.name := ⟨_, rfl⟩
  obtain ⟨b2, h2⟩ : ∃ b, b = mayRs p.cap := ⟨_, rfl⟩
  obtain ⟨b3, h3⟩ : ∃ b, b = mayPairs p.labels := ⟨_, rfl⟩
  obtain ⟨b4, h4⟩ : ∃ b, b = mayPairs p.taints := ⟨_, rfl⟩
  have V : Hid (mayNodeB p = (b1 && b2 && b3 && b4)) := by show _ = _; rw [h1, h2, h3, h4]; rfl
  have q1 := Lib.hid h1.symm
  have q2 := Lib.hid h2.symm
  have q3 := Lib.hid h3.symm
  have q4 := Lib.hid h4.symm
  clear h1 h2 h3 h4
  go_enter Tryz.func90, Tryz.ntmps90
  go_wp2_with fail
  refine (name_any _ _ t1).mono ?_
  rintro e w2 ⟨rfl, rfl⟩
  rw [q1.out]
  cases b1
  · go_wp2_with fail
    go_ret
    exact ⟨ret_bool (by rw [V.out]; rfl), HE.out.trans E⟩
  go_wp2_with fail
  refine (HQ.out _).mono ?_
  rintro e w2 ⟨rfl, e2⟩
  replace E := E.trans e2
  clear e2
  rw [q2.out]
  cases b2
  · go_wp2_with fail
    go_ret
    exact ⟨ret_bool (by rw [V.out]; rfl), HE.out.trans E⟩
  go_wp2_with fail
  refine (may_any _ _ _ _ L.out.1 (HP.out _ (HE.out.trans E)).labels).mono ?_
  rintro e w2 ⟨rfl, e2⟩
  replace E := E.trans e2
  clear e2
  rw [q3.out]
  cases b3
  · go_wp2_with fail
    go_ret
    exact ⟨ret_bool (by rw [V.out]; rfl), HE.out.trans E⟩
  go_wp2_with fail
  refine (tMay_any _ _ _ _ L.out.2 (HP.out _ (HE.out.trans E)).taints).mono ?_
  rintro e w2 ⟨rfl, e2⟩
  replace E := E.trans e2
  clear e2
  rw [q4.out]
  go_wp2_with fail
  go_ret
  exact ⟨ret_bool (by rw [V.out]; simp), HE.out.trans E⟩

set_option maxRecDepth 20000 in
set_option maxHeartbeats 2000000 in
theorem eqNode_any (x y : Nd) (q r : NA) (w : World) (hx : NodeOk w x q) (hy : NodeOk w y r) :
    Calls Tryz.prog 48 #[.agg (nodeC x q).toArray, .agg (nodeC y r).toArray] w (EqPost (x = y) w) := by
  have B := boxed w (nodeC x q) 68
  have HE1 := Lib.hid (boxedExt w (nodeC x q) 68)
  obtain ⟨W1, hW1⟩ : ∃ W1, w.alloc (.cells (nodeC x q).toArray 68) = W1 := ⟨_, rfl⟩
  rw [hW1] at B HE1
  have C := boxed W1 (nodeC y r) 68
  have HE2 := Lib.hid (boxedExt W1 (nodeC y r) 68)
  obtain ⟨W2, hW2⟩ : ∃ W2, W1.alloc (.cells (nodeC y r).toArray 68) = W2 := ⟨_, rfl⟩
  rw [hW2] at C HE2
  have k0 := fun wx (e : Ext W2 wx) => B 0 _ rfl wx (HE2.out.trans e)
  have l0 := C 0 _ rfl
  have k1 := fun wx (e : Ext W2 wx) => B 1 _ rfl wx (HE2.out.trans e)
  have l1 := C 1 _ rfl
  have k2 := fun wx (e : Ext W2 wx) => B 2 _ rfl wx (HE2.out.trans e)
  have l2 := C 2 _ rfl
  have k3 := fun wx (e : Ext W2 wx) => B 3 _ rfl wx (HE2.out.trans e)
  have l3 := C 3 _ rfl
  have k4 := fun wx (e : Ext W2 wx) => B 4 _ rfl wx (HE2.out.trans e)
  have l4 := C 4 _ rfl
  have k5 := fun wx (e : Ext W2 wx) => B 5 _ rfl wx (HE2.out.trans e)
  have l5 := C 5 _ rfl
  have HX : Hid (∀ wx, Ext W2 wx → NodeOk wx x q) := fun wx e => hx.ext (HE1.out.trans (HE2.out.trans e))
  have HY : Hid (∀ wx, Ext W2 wx → NodeOk wx y r) := fun wx e => hy.ext (HE1.out.trans (HE2.out.trans e))
  have HEX : Hid (∀ wx, Ext W2 wx → Ext w wx) := fun wx e => HE1.out.trans (HE2.out.trans e)
  have NEG : Hid (∀ wx, Ext W2 wx → x ≠ y → EqPost (x = y) w (.returned (.bool false)) wx) := fun wx e hne => ⟨false, rfl, by simpa using hne, HEX.out _ e⟩
  have E : Ext W2 W2 := Ext.refl _
  clear B C hx hy
  unfold nodeC at hW1 hW2 ⊢
  obtain ⟨xname, ⟨xa, xb, xc⟩, xlabels, xtaints⟩ := x
  obtain ⟨yname, ⟨ya, yb, yc⟩, ylabels, ytaints⟩ := y
  simp only at hW1 hW2 ⊢
  simp only at k0 l0
  simp only at k1 l1
  simp only at k2 l2
  simp only at k3 l3
  simp only at k4 l4
  simp only at k5 l5
  have hne := neq_res
  have heq := eql_res
  by_cases h0 : xname = yname
  case neg =>
    have q0 : (xname.toList == yname.toList) = false := eqS_false.2 h0
    have F := Lib.hid (NEG.out _ E (by intro h; injection h with h _; exact h0 h))
    clear h0
    go_enter Tryz.func48, Tryz.ntmps48
    go_wp2_with fail
    go_ret
    exact F.out
  by_cases h1 : xa = ya ∧ xb = yb ∧ xc = yc
  case neg =>
    have q1 : (xa == ya && xb == yb && xc == yc) = false := by simp; omega
    have F := Lib.hid (NEG.out _ E (by intro h; injection h with _ h _; injection h with h2 h3 h4; exact h1 ⟨h2, h3, h4⟩))
    subst h0
    clear h1
    go_enter Tryz.func48, Tryz.ntmps48
    go_wp2_with fail
    go_ret
    exact F.out
  obtain ⟨rfl, rfl, rfl⟩ := h1
  subst h0
  go_enter Tryz.func48, Tryz.ntmps48
  go_wp2_with fail
  refine (eqPair_any _ _ _ _ xlabels ylabels _ (Nat.le_trans (HX.out _ E).n1 (HX.out _ E).m1) (Nat.le_trans (HY.out _ E).n1 (HY.out _ E).m1) (HX.out _ E).labels (HY.out _ E).labels).mono ?_
  rintro e w3 ⟨b, rfl, hb, e3⟩
  have HB := Lib.hid hb
  replace E := E.trans e3
  clear e3 hb
  cases b
  · have F := Lib.hid (NEG.out _ E (by intro h; injection h with _ _ h _; have := HB.out.2 h; cases this))
    go_wp2_with fail
    go_ret
    exact F.out
  have hl := HB.out.1 rfl
  have HLL := Lib.hid hl
  clear hl
  go_wp2_with fail
  refine (eqTaint_any _ _ _ _ xtaints ytaints _ (Nat.le_trans (HX.out _ E).n2 (HX.out _ E).m2) (Nat.le_trans (HY.out _ E).n2 (HY.out _ E).m2) (HX.out _ E).taints (HY.out _ E).taints).mono ?_
  rintro e w4 ⟨b, rfl, hb, e4⟩
  have HBB := Lib.hid hb
  replace E := E.trans e4
  clear e4 hb
  have F := Lib.hid (HEX.out _ E)
  go_wp2_with fail
  go_ret
  refine ⟨b, rfl, ?_, F.out⟩
  rw [HBB.out]
  constructor
  · intro h; rw [HLL.out, h]
  · intro h; injection h
end Go.Proofs.YthfafenigjldlaaGreat
