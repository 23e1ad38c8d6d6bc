/-
  The walks of package obj: which pods may be.
-/
import Derived.Test.YthfafenigjldlaaGreatMem
import Derived.Test.YthfafenigjldlaaGreatTaint1
import Derived.Test.YthfafenigjldlaaGreatQty1
namespace Go.Proofs.YthfafenigjldlaaGreat
open Go.RowKit
set_option linter.unusedVariables false

/-- what was put into a new block is there in every later world -/
theorem boxed (w : World) (l : List Value) (T : TypeId) (j : Nat) (v : Value) (h : l[j]? = some v) (wx : World) (he : Ext (w.alloc (.cells l.toArray T)) wx) : wx.cell? ⟨w.heap.size, j, none⟩ = some v := by
  have h1 : (w.alloc (.cells l.toArray T)).heap[w.heap.size]? = some (.cells l.toArray T (0, 0)) := heap_alloc_new w _
  exact he.cell (by simp only [World.cell?, h1]; simpa using h)
theorem boxedExt (w : World) (l : List Value) (T : TypeId) : Ext w (w.alloc (.cells l.toArray T)) := (Ext.refl w).alloc _

/-- where a pod's lists lie -/
structure PA where
  a1 : Option Addr
  c1 : Nat
  a2 : Option Addr
  c2 : Nat
  a3 : Option Addr
  c3 : Nat
  a4 : Option Addr
  c4 : Nat
  a5 : Option Addr
  c5 : Nat
  a6 : Option Addr
  c6 : Nat
structure PodOk (w : World) (p : Pd) (q : PA) : Prop where
  name : okS p.name
  uid : inI p.uid
  prio : inI p.prio
  req : okR p.req
  ports : Sl RInt 1 w q.a1 p.ports
  labels : Sl RPair 2 w q.a2 p.labels
  sel : Sl RTerm 3 w q.a3 p.sel
  tols : Sl RTol 3 w q.a4 p.tols
  topo : okS p.topo
  anti : Sl RTerm 3 w q.a5 p.anti
  skew : inI p.skew
  even : Sl RTerm 3 w q.a6 p.even
  node : okS p.node
  term : inI p.term
  n1 : p.ports.length ≤ q.c1
  m1 : q.c1 ≤ maxLen
  n2 : p.labels.length ≤ q.c2
  m2 : q.c2 ≤ maxLen
  n3 : p.sel.length ≤ q.c3
  m3 : q.c3 ≤ maxLen
  n4 : p.tols.length ≤ q.c4
  m4 : q.c4 ≤ maxLen
  n5 : p.anti.length ≤ q.c5
  m5 : q.c5 ≤ maxLen
  n6 : p.even.length ≤ q.c6
  m6 : q.c6 ≤ maxLen
theorem PodOk.ext {w w' : World} {p : Pd} {q : PA} (h : PodOk w p q) (he : Ext w w') : PodOk w' p q :=
  { h with ports := h.ports.ext RInt.keeps he, labels := h.labels.ext RPair.keeps he, sel := h.sel.ext RTerm.keeps he, tols := h.tols.ext RTol.keeps he, anti := h.anti.ext RTerm.keeps he, even := h.even.ext RTerm.keeps he }
/-- a pod's sixteen cells -/
def podC (p : Pd) (q : PA) : List Value :=
  [.string p.name, .int .i64 p.uid, .int .i64 p.prio, .int .i64 p.req.a, .int .i64 p.req.b, .int .i64 p.req.c, .slice q.a1 p.ports.length q.c1, .slice q.a2 p.labels.length q.c2, .slice q.a3 p.sel.length q.c3,
   .slice q.a4 p.tols.length q.c4, .string p.topo, .slice q.a5 p.anti.length q.c5, .int .i64 p.skew, .slice q.a6 p.even.length q.c6, .string p.node, .int .i64 p.term]

set_option maxHeartbeats 1000000 in
theorem mayPorts_any (A : Option Addr) (c : Nat) (xs : List Int) (w : World) (hn : xs.length ≤ maxLen) (hx : Sl RInt 1 w A xs) :
    Calls Tryz.prog 108 #[.slice A xs.length c] w fun e w' => e = .returned (.bool (mayPortsB xs)) ∧ Ext w w' := by
  unfold maxLen at hn
  have HX := Lib.hid hx
  clear hx
  go_enter Tryz.func108, Tryz.ntmps108
  go_wp2_with fail
  go_loopw [7] (fun i wr => ∃ k : Nat, k ≤ xs.length ∧ i = .int .i64 k ∧ Ext w wr ∧ Hid (mayPFrom none xs = mayPFrom (prevI xs k) (xs.drop k))) (fun i _ => xs.length - (intOf i).toNat)
  case atStart => exact ⟨0, by omega, rfl, Ext.refl _, rfl⟩
  case round =>
    obtain ⟨k, hk, rfl, he, hd⟩ := hrel
    by_cases hlt : k < xs.length
    · obtain ⟨b, o, x, hA, hxk, ok1, c0⟩ := (HX.out.ext RInt.keeps he).int hlt
      have hstep := Lib.hid (mayPFrom_at hxk)
      have HA := Lib.hid hA
      subst hA
      clear hxk
      by_cases h1 : x < 1
      · go_wp2_with fail
        go_ret
        exact ⟨ret_bool (by unfold mayPortsB; rw [hd.out, hstep.out, decide_eq_false (by omega)]; rfl), he⟩
      by_cases h2 : 65535 < x
      · have h1' : 1 ≤ x := by omega
        go_wp2_with fail
        go_ret
        exact ⟨ret_bool (by unfold mayPortsB; rw [hd.out, hstep.out, decide_eq_true h1', decide_eq_false (show ¬ x ≤ 65535 by omega)]; rfl), he⟩
      have h1' : 1 ≤ x := by omega
      have h2' : x ≤ 65535 := by omega
      rcases Nat.eq_zero_or_pos k with hk0 | hk0
      · subst hk0
        simp only [Nat.add_zero] at c0
        go_wp2_with fail
        go_roundw
        case rel => exact ⟨1, by omega, by go_num, he, by show _ = _; rw [hd.out, hstep.out, decide_eq_true h1', decide_eq_true h2']; rfl⟩
        case measure => simp [intOf]; omega
      obtain ⟨m, rfl⟩ : ∃ m, k = m + 1 := ⟨k - 1, by omega⟩
      obtain ⟨b', o', y, hA', hym, ok2, d0⟩ := (HX.out.ext RInt.keeps he).int (show m < xs.length by omega)
      obtain ⟨rfl, rfl⟩ : b' = b ∧ o' = o := by rw [HA.out] at hA'; injection hA' with e; injection e with e1 e2; exact ⟨e1.symm, e2.symm⟩
      have hp := Lib.hid (prevI_succ hym)
      clear hA' hym HA
      have s2 : (m : Int) < (xs.length : Int) := by omega
      have s3 : (0 : Int) ≤ (m : Int) := by omega
      by_cases h3 : y < x
      · go_wp2_with fail
        go_roundw
        case rel => exact ⟨m + 1 + 1, by omega, by go_num, he, by show _ = _; rw [hd.out, hstep.out, decide_eq_true h1', decide_eq_true h2', hp.out]; simp [h3]⟩
        case measure => simp [intOf]; omega
      · have h3' : x ≤ y := by omega
        go_wp2_with fail
        go_ret
        exact ⟨ret_bool (by unfold mayPortsB; rw [hd.out, hstep.out, decide_eq_true h1', decide_eq_true h2', hp.out]; simp [show ¬ y < x by omega]), he⟩
    · go_wp2_with fail
      go_ret
      exact ⟨ret_bool (by unfold mayPortsB; rw [hd.out, drop_all (by omega)]; show _ = (true && _); simp; omega), he⟩

set_option maxHeartbeats 2000000 in
theorem mayTopo_any (p : Pd) (q : PA) (w : World) (h : PodOk w p q) :
    Calls Tryz.prog 109 #[.agg (podC p q).toArray] w fun e w' => e = .returned (.bool (mayTopoB p)) ∧ Ext w w' := by
  have B := boxed w (podC p q) 66
  have k8 := B 10 _ rfl
  have k9 := B 11 _ rfl
  have k10 := B 12 _ rfl
  have k11 := B 13 _ rfl
  have he := boxedExt w (podC p q) 66
  have l1 : p.anti.length ≤ maxLen := Nat.le_trans h.n5 h.m5
  have l2 : p.even.length ≤ maxLen := Nat.le_trans h.n6 h.m6
  have b9 : p.anti.length ≤ 9223372036854775807 := by unfold maxLen at l1; omega
  have t1 := h.topo
  have HA : Hid (∀ wx, Ext w wx → Sl RTerm 3 wx q.a5 p.anti) := fun wx e => h.anti.ext RTerm.keeps e
  have HV : Hid (∀ wx, Ext w wx → Sl RTerm 3 wx q.a6 p.even) := fun wx e => h.even.ext RTerm.keeps e
  clear B h
  obtain ⟨W1, hW⟩ : ∃ W1, w.alloc (.cells (podC p q).toArray 66) = W1 := ⟨_, rfl⟩
  rw [hW] at k8 k9 k10 k11 he
  have HE := Lib.hid he
  have E : Ext W1 W1 := Ext.refl _
  clear he
  unfold podC at hW ⊢
  go_enter Tryz.func109, Tryz.ntmps109
  go_wp2_with (first
    | (go_at_call 21; refine (name_any _ _ t1).mono ?_; rintro e w2 ⟨rfl, rfl⟩)
    | (go_at_call 25; refine (mayTerms_any _ _ _ _ l1 (HA.out _ (HE.out.trans E))).mono ?_; rintro e w2 ⟨rfl, e2⟩; replace E := E.trans e2; clear e2 l1)
    | (go_at_call 25; refine (mayTerms_any _ _ _ _ l2 (HV.out _ (HE.out.trans E))).mono ?_; rintro e w2 ⟨rfl, e2⟩; replace E := E.trans e2; clear e2))
  all_goals go_ret
  all_goals refine ⟨ret_bool ?_, HE.out.trans E⟩
  all_goals clear HA HV HE E hW k8 k9 k10 k11 b9
  all_goals (rw [Bool.eq_iff_iff]; simp_all [mayTopoB, empS])
  all_goals (first | omega | (intros; exfalso; omega) | (intros; exfalso; simp_all; done) | (intros; exfalso; simp_all; omega))

set_option maxHeartbeats 4000000 in
theorem mayPod_any (p : Pd) (q : PA) (w : World) (h : PodOk w p q) :
    Calls Tryz.prog 60 #[.agg (podC p q).toArray] w fun e w' => e = .returned (.bool (mayPodB p)) ∧ Ext w w' := by
  have B := boxed w (podC p q) 66
  have k0 := B 0 _ rfl
  have k1 := B 1 _ rfl
  have k2 := B 2 _ rfl
  have k3 := B 3 _ rfl
  have k4 := B 4 _ rfl
  have k5 := B 5 _ rfl
  have k6 := B 6 _ rfl
  have k7 := B 7 _ rfl
  have k8 := B 8 _ rfl
  have k9 := B 9 _ rfl
  have k10 := B 10 _ rfl
  have k11 := B 11 _ rfl
  have k12 := B 12 _ rfl
  have k13 := B 13 _ rfl
  have k14 := B 14 _ rfl
  have k15 := B 15 _ rfl
  have he := boxedExt w (podC p q) 66
  have L : Hid (p.ports.length ≤ maxLen ∧ p.labels.length ≤ maxLen ∧ p.sel.length ≤ maxLen ∧ p.tols.length ≤ maxLen) :=
    ⟨Nat.le_trans h.n1 h.m1, Nat.le_trans h.n2 h.m2, Nat.le_trans h.n3 h.m3, Nat.le_trans h.n4 h.m4⟩
  have t1 := h.name
  have t2 := h.node
  have HP : Hid (∀ wx, Ext w wx → PodOk wx p q) := fun wx e => h.ext e
  have HT : Hid (∀ wx, Ext w wx → Calls Tryz.prog 109 #[.agg (podC p q).toArray] wx fun e w' => e = .returned (.bool (mayTopoB p)) ∧ Ext wx w') := fun wx e => mayTopo_any p q wx (h.ext e)
  have qm := fun wx => qMay_any p.req wx
  have HQ := Lib.hid qm
  clear B h qm
  obtain ⟨W1, hW⟩ : ∃ W1, w.alloc (.cells (podC p q).toArray 66) = W1 := ⟨_, rfl⟩
  rw [hW] at k0 k1 k2 k3 k4 k5 k6 k7 k8 k9 k10 k11 k12 k13 k14 k15 he
  have HE := Lib.hid he
  have E : Ext W1 W1 := Ext.refl _
  clear he
  unfold podC at hW HT ⊢
  go_enter Tryz.func60, Tryz.ntmps60
  go_wp2_with (first
    | (go_at_call 21; refine (name_any _ _ (by assumption)).mono ?_; rintro e w2 ⟨rfl, rfl⟩)
    | (go_at_call 43; refine (HQ.out _).mono ?_; rintro e w2 ⟨rfl, e2⟩; replace E := E.trans e2; clear e2)
    | (go_at_call 108; refine (mayPorts_any _ _ _ _ L.out.1 (HP.out _ (HE.out.trans E)).ports).mono ?_; rintro e w2 ⟨rfl, e2⟩; replace E := E.trans e2; clear e2)
    | (go_at_call 23; refine (may_any _ _ _ _ L.out.2.1 (HP.out _ (HE.out.trans E)).labels).mono ?_; rintro e w2 ⟨rfl, e2⟩; replace E := E.trans e2; clear e2)
    | (go_at_call 25; refine (mayTerms_any _ _ _ _ L.out.2.2.1 (HP.out _ (HE.out.trans E)).sel).mono ?_; rintro e w2 ⟨rfl, e2⟩; replace E := E.trans e2; clear e2)
    | (go_at_call 33; refine (mayTols_any _ _ _ _ L.out.2.2.2 (HP.out _ (HE.out.trans E)).tols).mono ?_; rintro e w2 ⟨rfl, e2⟩; replace E := E.trans e2; clear e2)
    | (go_at_call 109; refine (HT.out _ (HE.out.trans E)).mono ?_; rintro e w2 ⟨rfl, e2⟩; replace E := E.trans e2; clear e2))
  all_goals go_ret
  all_goals refine ⟨ret_bool ?_, HE.out.trans E⟩
  all_goals clear HP HT HQ L HE E hW k0 k1 k2 k3 k4 k5 k6 k7 k8 k9 k10 k11 k12 k13 k14 k15
  all_goals (rw [Bool.eq_iff_iff]; simp_all [mayPodB, empS])
  all_goals (first | omega | (intros; exfalso; omega) | (intros; exfalso; simp_all; done) | (intros; exfalso; simp_all; omega))
end Go.Proofs.YthfafenigjldlaaGreat
