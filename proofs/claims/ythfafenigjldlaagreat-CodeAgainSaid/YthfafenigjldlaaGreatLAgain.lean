/-
  'interrexlaw1.CodeAgain': the walk.
-/
import Derived.Test.YthfafenigjldlaaGreatAny2
import Derived.Test.YthfafenigjldlaaGreatDec3
import Derived.Test.YthfafenigjldlaaGreatGet9
import Derived.Lib.ConvBytes
namespace Go.Proofs.YthfafenigjldlaaGreat
open Go.RowKit
set_option linter.unusedVariables false

/-- a row of bytes that may be written to -/
def BW (B : Nat) (w : World) (T : TypeId) (sz : Nat) (A : Option Addr) (n : Nat) : Prop := n = 0 ∨ ∃ g cur, A = some ⟨g, 0, none⟩ ∧ B ≤ g ∧ WB w g T cur ∧ n * sz ≤ cur.size
theorem BW.set {B : Nat} {w : World} {T : TypeId} {sz : Nat} {A : Option Addr} {n : Nat} (h : BW B w T sz A n) (m j : Nat) (u : Value) : BW B (w.setCell ⟨m, j, none⟩ u) T sz A n := by
  rcases h with h | ⟨g, cur, h1, h2, h3, h4⟩
  · exact .inl h
  · by_cases hg : g = m
    · subst hg
      exact .inr ⟨g, _, h1, h2, h3.set j u, by simpa using h4⟩
    · exact .inr ⟨g, cur, h1, h2, WB.far (p := ⟨m, j, none⟩) h3 hg u, h4⟩
theorem BW.ext {B : Nat} {w w' : World} {T : TypeId} {sz : Nat} {A : Option Addr} {n : Nat} (h : BW B w T sz A n) (e : Ext w w') : BW B w' T sz A n := by
  rcases h with h | ⟨g, cur, h1, h2, h3, h4⟩
  · exact .inl h
  · exact .inr ⟨g, cur, h1, h2, h3.ext e, h4⟩
theorem BW.low {B B' : Nat} {w : World} {T : TypeId} {sz : Nat} {A : Option Addr} {n : Nat} (h : BW B w T sz A n) (e : B' ≤ B) : BW B' w T sz A n := by
  rcases h with h | ⟨g, cur, h1, h2, h3, h4⟩
  · exact .inl h
  · exact .inr ⟨g, cur, h1, by omega, h3, h4⟩
theorem bw_own {B : Nat} {w : World} {T : TypeId} {sz : Nat} {A : Option Addr} {n c : Nat} {xs : List Value} (h : w.ownsRow B T sz (.slice A n c) n xs) : BW B w T sz A n := by
  rcases h.2 with ⟨_, h0⟩ | ⟨g, cap, cur, e, hg, hh, hc1, hc2, hc3, ht⟩
  · exact .inl h0
  · obtain ⟨rfl, _, _⟩ := Value.slice.inj e
    exact .inr ⟨g, cur, rfl, hg, hh, by rw [hc3]; exact Nat.mul_le_mul_right _ hc1⟩
theorem conv_back (w : World) (bs : List UInt8) : ∃ c wx, (convert 9 42 (.string ⟨bs.toArray⟩)).run Tryz.prog w = .ok (.slice (some ⟨w.heap.size, 0, none⟩) bs.length c) wx ∧ Ext w wx ∧ ByF (some ⟨w.heap.size, 0, none⟩) bs wx := by
  refine ⟨_, _, Lib.run_convert_string_bytes w 9 42 5 ⟨bs.toArray⟩ Tryz.underlying9 Tryz.underlying42 Tryz.underlying5, ⟨rfl, rfl, rfl, ?_, fun k hk => Lib.bytesWorld_at_old w _ _ k hk⟩, ?_⟩
  · rw [Lib.bytesWorld_size]; omega
  · refine ⟨by simp, fun _ => ⟨_, 0, rfl, fun j u hu => ?_⟩⟩
    have hj : j < bs.length := by have := (List.getElem?_eq_some_iff.1 hu).1; simpa using this
    rw [Nat.zero_add, Lib.bytesWorld_cell w _ _ j (show j < (⟨bs.toArray⟩ : ByteArray).size from by simpa [ByteArray.size] using hj)]
    rw [List.getElem?_map] at hu
    obtain ⟨x, hx⟩ := get_of hj
    rw [hx] at hu
    simp [List.getD, hx]
    simpa [byV] using hu
theorem putPod_got {p : Pd} (ht : inI p.term) (h : podG (putPodB p) = true) : podOut (putPodB p) = p := by
  cases hm : mayPodB p with
  | true => exact (pod_back hm ht).2
  | false => rw [putPodB_no hm, podG_nil] at h; cases h
/-- what a writer has made: to be read, to be written to -/
structure Made (W : World) (w : World) (A : Option Addr) (n : Nat) (bs : List UInt8) : Prop where
  by_ : Flat w 1 A n (bs.map byV)
  bw : BW W.heap.size w 5 1 A n
theorem Made.ext {W w w' : World} {A : Option Addr} {n : Nat} {bs : List UInt8} (h : Made W w A n bs) (e : Ext w w') : Made W w' A n bs := ⟨h.by_.ext e, h.bw.ext e⟩
theorem made_of {W w w' : World} {n : Nat} {bs : List UInt8} {v : Value} (hl : W.heap.size ≤ w.heap.size) (h : w'.ownsRow w.heap.size 5 1 v n (bs.map byV)) : ∃ A c, v = .slice A n c ∧ Made W w' A n bs := by
  have hv : ∃ A c, v = .slice A n c := by
    rcases h.2 with ⟨rfl, h0⟩ | ⟨g', cap, cur, rfl, _⟩
    · exact ⟨none, 0, by rw [h0]⟩
    · exact ⟨_, _, rfl⟩
  obtain ⟨A, c, rfl⟩ := hv
  exact ⟨A, c, rfl, (own_flatA h).1, (bw_own h).low hl⟩
theorem conv_made {W w : World} {A : Option Addr} {n c : Nat} {bs : List UInt8} (hn : bs.length = n) (h : Made W w A n bs) : (convert 42 9 (.slice A n c)).run Tryz.prog w = .ok (.string ⟨bs.toArray⟩) w := by
  subst hn
  exact conv_flat h.by_
theorem podOut_labels (bs : List UInt8) : (podOut bs).labels.length ≤ 6 := by
  cases h : podG bs with
  | false => rw [podOut_zero h]; simp [zeroPd]
  | true =>
    have h1 := podG_put h
    cases hm : mayPodB (podOut bs) with
    | true => exact (PodMay.of hm).la
    | false =>
      rw [putPodB_no hm] at h1
      rw [← h1, podG_nil] at h
      cases h
theorem same_pod (P p : Pd) (Q q : PA) (wx : World) (hP : P = p) (ok : PodOk wx P Q) (ok2 : PodOk wx p q) : Calls Tryz.prog 52 #[.agg #[.string P.name, .int .i64 P.uid, .int .i64 P.prio, .int .i64 P.req.a, .int .i64 P.req.b, .int .i64 P.req.c, .slice Q.a1 P.ports.length Q.c1, .slice Q.a2 P.labels.length Q.c2, .slice Q.a3 P.sel.length Q.c3, .slice Q.a4 P.tols.length Q.c4, .string P.topo, .slice Q.a5 P.anti.length Q.c5, .int .i64 P.skew, .slice Q.a6 P.even.length Q.c6, .string P.node, .int .i64 P.term], .agg #[.string p.name, .int .i64 p.uid, .int .i64 p.prio, .int .i64 p.req.a, .int .i64 p.req.b, .int .i64 p.req.c, .slice q.a1 p.ports.length q.c1, .slice q.a2 p.labels.length q.c2, .slice q.a3 p.sel.length q.c3, .slice q.a4 p.tols.length q.c4, .string p.topo, .slice q.a5 p.anti.length q.c5, .int .i64 p.skew, .slice q.a6 p.even.length q.c6, .string p.node, .int .i64 p.term]] wx fun e w' => e = .returned (.bool true) ∧ Ext wx w' := by
  have h : Calls Tryz.prog 52 #[.agg (podC P Q).toArray, .agg (podC p q).toArray] wx fun e w' => e = .returned (.bool true) ∧ Ext wx w' := by
    subst hP
    exact rEqPod_same P Q q wx ok ok2
  exact h
set_option maxRecDepth 20000 in
set_option maxHeartbeats 16000000 in
theorem codeAgain_any (HBA : Hid (∀ w : World, Calls Tryz.prog 17 #[] w fun e w' => e = .returned (.bool true) ∧ Ext w w')) (p : Pd) (qp : PA) (n : Nd) (qn : NA) (i : Int) (w : World)
    (hp : PodOk w p qp) (hn : NodeOk w n qn) (hi : inI i) :
    Calls Tryz.prog 14 #[.agg (podC p qp).toArray, .agg (nodeC n qn).toArray, .int .i64 i] w fun e w' => e = .returned (.bool true) ∧ Ext w w' := by
  have B := boxed w (podC p qp) 66
  have HE1 := Lib.hid (boxedExt w (podC p qp) 66)
  obtain ⟨W1, hW1⟩ : ∃ W1, w.alloc (.cells (podC p qp).toArray 66) = W1 := ⟨_, rfl⟩
  rw [hW1] at B HE1
  have C := boxed W1 (nodeC n qn) 68
  have HE2 := Lib.hid (boxedExt W1 (nodeC n qn) 68)
  obtain ⟨W2, hW2⟩ : ∃ W2, W1.alloc (.cells (nodeC n qn).toArray 68) = W2 := ⟨_, rfl⟩
  rw [hW2] at C HE2
  have KP : Hid (∀ wx, Ext W2 wx → ∀ (j : Nat) (v : Value), (podC p qp)[j]? = some v → wx.cell? ⟨w.heap.size, j, none⟩ = some v) := fun wx e j v h => B j v h wx (HE2.out.trans e)
  have KN : Hid (∀ wx, Ext W2 wx → ∀ (j : Nat) (v : Value), (nodeC n qn)[j]? = some v → wx.cell? ⟨W1.heap.size, j, none⟩ = some v) := fun wx e j v h => C j v h wx e
  have OP : Hid (∀ wx, Ext W2 wx → PodOk wx p qp) := fun wx e => hp.ext (HE1.out.trans (HE2.out.trans e))
  have ON : Hid (∀ wx, Ext W2 wx → NodeOk wx n qn) := fun wx e => hn.ext (HE1.out.trans (HE2.out.trans e))
  have HEX : Hid (∀ wx, Ext W2 wx → Ext w wx) := fun wx e => HE1.out.trans (HE2.out.trans e)
  have HT : Hid (inI p.term) := hp.term
  clear B C hp hn HE1 HE2
  obtain ⟨bp, hbp⟩ : ∃ b, w.heap.size = b := ⟨_, rfl⟩
  obtain ⟨bn, hbn⟩ : ∃ b, W1.heap.size = b := ⟨_, rfl⟩
  rw [hbp] at KP
  rw [hbn] at KN
  obtain ⟨kk, kk1, x1, x2, x3⟩ := mod_idx i 5 (by omega)
  rw [show ((5 : Nat) : Int) = 5 from rfl] at x1 x2 x3
  obtain ⟨xx, hxx⟩ : ∃ x, i.tmod 5 = x := ⟨_, rfl⟩
  rw [hxx] at x1 x2 x3
  have sx : IntKind.i64.wrap (xx + 5) = xx + 5 := IntWalk.i64_in _ (by omega)
  have sk : IntKind.i64.wrap (1 + (kk : Int)) = 1 + kk := IntWalk.i64_in _ (by omega)
  go_enter Tryz.func14, Tryz.ntmps14
  go_wp2_with fail
  refine (HBA.out _).mono ?_
  rintro e w1 ⟨rfl, a1⟩
  have E1 : Hid (Ext W2 w1) := a1
  clear a1
  go_wp2_with fail
  have CE : Hid (∀ wx, Ext W2 wx → (wx.cell? ⟨bp, 0, none⟩ = some (.string p.name) ∧ wx.cell? ⟨bp, 1, none⟩ = some (.int .i64 p.uid) ∧ wx.cell? ⟨bp, 2, none⟩ = some (.int .i64 p.prio) ∧ wx.cell? ⟨bp, 3, none⟩ = some (.int .i64 p.req.a) ∧ wx.cell? ⟨bp, 4, none⟩ = some (.int .i64 p.req.b) ∧ wx.cell? ⟨bp, 5, none⟩ = some (.int .i64 p.req.c) ∧ wx.cell? ⟨bp, 6, none⟩ = some (.slice qp.a1 p.ports.length qp.c1) ∧ wx.cell? ⟨bp, 7, none⟩ = some (.slice qp.a2 p.labels.length qp.c2) ∧ wx.cell? ⟨bp, 8, none⟩ = some (.slice qp.a3 p.sel.length qp.c3) ∧ wx.cell? ⟨bp, 9, none⟩ = some (.slice qp.a4 p.tols.length qp.c4) ∧ wx.cell? ⟨bp, 10, none⟩ = some (.string p.topo) ∧ wx.cell? ⟨bp, 11, none⟩ = some (.slice qp.a5 p.anti.length qp.c5) ∧ wx.cell? ⟨bp, 12, none⟩ = some (.int .i64 p.skew) ∧ wx.cell? ⟨bp, 13, none⟩ = some (.slice qp.a6 p.even.length qp.c6) ∧ wx.cell? ⟨bp, 14, none⟩ = some (.string p.node) ∧ wx.cell? ⟨bp, 15, none⟩ = some (.int .i64 p.term) ∧ wx.cell? ⟨bn, 0, none⟩ = some (.string n.name) ∧ wx.cell? ⟨bn, 1, none⟩ = some (.int .i64 n.cap.a) ∧ wx.cell? ⟨bn, 2, none⟩ = some (.int .i64 n.cap.b) ∧ wx.cell? ⟨bn, 3, none⟩ = some (.int .i64 n.cap.c) ∧ wx.cell? ⟨bn, 4, none⟩ = some (.slice qn.a1 n.labels.length qn.c1) ∧ wx.cell? ⟨bn, 5, none⟩ = some (.slice qn.a2 n.taints.length qn.c2))) := fun wx e => ⟨KP.out wx e 0 _ rfl, KP.out wx e 1 _ rfl, KP.out wx e 2 _ rfl, KP.out wx e 3 _ rfl, KP.out wx e 4 _ rfl, KP.out wx e 5 _ rfl, KP.out wx e 6 _ rfl, KP.out wx e 7 _ rfl, KP.out wx e 8 _ rfl, KP.out wx e 9 _ rfl, KP.out wx e 10 _ rfl, KP.out wx e 11 _ rfl, KP.out wx e 12 _ rfl, KP.out wx e 13 _ rfl, KP.out wx e 14 _ rfl, KP.out wx e 15 _ rfl, KN.out wx e 0 _ rfl, KN.out wx e 1 _ rfl, KN.out wx e 2 _ rfl, KN.out wx e 3 _ rfl, KN.out wx e 4 _ rfl, KN.out wx e 5 _ rfl⟩
  obtain ⟨np, hnp⟩ : ∃ k, (putPodB p).length = k := ⟨_, rfl⟩
  obtain ⟨nn, hnn⟩ : ∃ k, (putNodeB n).length = k := ⟨_, rfl⟩
  have LP := Lib.hid hnp
  have LN := Lib.hid hnn
  have ZP := Lib.hid (putPodB_len p)
  have ZN := Lib.hid (putNodeB_len n)
  obtain ⟨BP, hBP⟩ : ∃ b, putPodB p = b := ⟨_, rfl⟩
  obtain ⟨BN, hBN⟩ : ∃ b, putNodeB n = b := ⟨_, rfl⟩
  have CP : Hid (∀ wx, Ext W2 wx → Calls Tryz.prog 49 #[.agg (podC p qp).toArray] wx (ClPost 5 1 np (BP.map byV) wx)) := fun wx e => by
    rw [← LP.out, ← hBP]; exact putPod_any p qp wx (OP.out _ e)
  have CN : Hid (∀ wx, Ext W2 wx → Calls Tryz.prog 50 #[.agg (nodeC n qn).toArray] wx (ClPost 5 1 nn (BN.map byV) wx)) := fun wx e => by
    rw [← LN.out, ← hBN]; exact putNode_any n qn wx (ON.out _ e)
  have HPO : Hid (podG BP = true → podOut BP = p) := fun h => by rw [← hBP] at h ⊢; exact putPod_got HT.out h
  rw [hBP] at LP ZP
  rw [hBN] at LN ZN
  have hnp3 : np ≤ 3000 := by rw [← LP.out]; exact ZP.out
  have hnn3 : nn ≤ 3000 := by rw [← LN.out]; exact ZN.out
  clear KP KN hW1 hW2 hbp hbn hnp hnn hBP hBN ON HT
  go_cut [8, 9] from 22 (fun s8 s9 wx => ∃ A5 c5 A6 c6, s8 = .slice A5 np c5 ∧ s9 = .slice A6 nn c6 ∧ Ext W2 wx ∧ Made W2 wx A5 np BP ∧ Made W2 wx A6 nn BN)
  case first => as_aux_lemma =>
    go_region_held3 (fun wx => wx.cell? ⟨bp, 0, none⟩ = some (.string p.name) ∧ wx.cell? ⟨bp, 1, none⟩ = some (.int .i64 p.uid) ∧ wx.cell? ⟨bp, 2, none⟩ = some (.int .i64 p.prio) ∧ wx.cell? ⟨bp, 3, none⟩ = some (.int .i64 p.req.a) ∧ wx.cell? ⟨bp, 4, none⟩ = some (.int .i64 p.req.b) ∧ wx.cell? ⟨bp, 5, none⟩ = some (.int .i64 p.req.c) ∧ wx.cell? ⟨bp, 6, none⟩ = some (.slice qp.a1 p.ports.length qp.c1) ∧ wx.cell? ⟨bp, 7, none⟩ = some (.slice qp.a2 p.labels.length qp.c2) ∧ wx.cell? ⟨bp, 8, none⟩ = some (.slice qp.a3 p.sel.length qp.c3) ∧ wx.cell? ⟨bp, 9, none⟩ = some (.slice qp.a4 p.tols.length qp.c4) ∧ wx.cell? ⟨bp, 10, none⟩ = some (.string p.topo) ∧ wx.cell? ⟨bp, 11, none⟩ = some (.slice qp.a5 p.anti.length qp.c5) ∧ wx.cell? ⟨bp, 12, none⟩ = some (.int .i64 p.skew) ∧ wx.cell? ⟨bp, 13, none⟩ = some (.slice qp.a6 p.even.length qp.c6) ∧ wx.cell? ⟨bp, 14, none⟩ = some (.string p.node) ∧ wx.cell? ⟨bp, 15, none⟩ = some (.int .i64 p.term) ∧ wx.cell? ⟨bn, 0, none⟩ = some (.string n.name) ∧ wx.cell? ⟨bn, 1, none⟩ = some (.int .i64 n.cap.a) ∧ wx.cell? ⟨bn, 2, none⟩ = some (.int .i64 n.cap.b) ∧ wx.cell? ⟨bn, 3, none⟩ = some (.int .i64 n.cap.c) ∧ wx.cell? ⟨bn, 4, none⟩ = some (.slice qn.a1 n.labels.length qn.c1) ∧ wx.cell? ⟨bn, 5, none⟩ = some (.slice qn.a2 n.taints.length qn.c2))
      (first | exact CE.out _ E1.out | exact CE.out _ E1.out.drew | exact CE.out _ X5.out | exact CE.out _ X5.out.drew | exact CE.out _ X6.out)
      (first
        | (go_at_call 49
           refine (CP.out _ (by first | exact E1.out | exact E1.out.drew)).mono ?_
           rintro e w5 ⟨v5, rfl, o5, e5⟩
           have X5 : Hid (Ext W2 w5) := by first | exact E1.out.trans e5 | exact E1.out.drew.trans e5
           obtain ⟨A5, c5, rfl, m5⟩ := made_of (W := W2) (by first | exact E1.out.size | exact E1.out.drew.size) o5
           have M5 := Lib.hid m5
           clear o5 e5 m5)
        | (go_at_call 50
           refine (CN.out _ (by first | exact X5.out | exact X5.out.drew)).mono ?_
           rintro e w6 ⟨v6, rfl, o6, e6⟩
           have Y6 : Hid (Ext w5 w6) := by first | exact e6 | exact (Ext.refl w5).drew.trans e6
           have X6 : Hid (Ext W2 w6) := X5.out.trans Y6.out
           obtain ⟨A6, c6, rfl, m6⟩ := made_of (W := W2) (by first | exact X5.out.size | exact X5.out.drew.size) o6
           have M6 := Lib.hid m6
           clear o6 e6 m6))
    all_goals (
      go_wp2_with fail
      go_meet
      case rel =>
        first
          | exact ⟨_, _, _, _, rfl, rfl, X6.out, M5.out.ext Y6.out, M6.out⟩
          | exact ⟨_, _, _, _, rfl, rfl, X6.out.drewN _, (M5.out.ext Y6.out).ext ((Ext.refl _).drewN _), M6.out.ext ((Ext.refl _).drewN _)⟩)
  case rest =>
    obtain ⟨A5, c5, A6, c6, rfl, rfl, e5, m5, m6⟩ := hcut
    have X5 := Lib.hid e5
    have v0 := conv_made (c := c5) LP.out m5
    have v1 := conv_made (c := c5) LP.out (m5.ext (Ext.refl wc).drew)
    have v2 := fun k => conv_made (c := c5) LP.out (m5.ext ((Ext.refl wc).drewN k))
    have v3 := fun k => conv_made (c := c5) LP.out (m5.ext ((Ext.refl wc).drewN k).drew)
    have u0 := conv_made (c := c6) LN.out m6
    have u1 := conv_made (c := c6) LN.out (m6.ext (Ext.refl wc).drew)
    have u2 := fun k => conv_made (c := c6) LN.out (m6.ext ((Ext.refl wc).drewN k))
    have u3 := fun k => conv_made (c := c6) LN.out (m6.ext ((Ext.refl wc).drewN k).drew)
    clear e5 m5 m6 E1
    go_wp2_with fail
    go_region
    go_wp2_with fail
    clear v0 v1 v2 v3 u0 u1 u2 u3
    go_loopw [12] (fun i wr => ∃ k : Nat, k ≤ 5 ∧ i = .int .i64 k ∧ Ext W2 wr) (fun i _ => 5 - (intOf i).toNat)
    case atStart => exact ⟨0, by omega, rfl, by first | exact X5.out | exact X5.out.drew | exact X5.out.drewN _ | exact (X5.out.drewN _).drew⟩
    obtain ⟨k, hk, rfl, he⟩ := hrel
    have HE := Lib.hid he
    clear he X5
    by_cases hlt : (k : Int) < 1 + kk
    · as_aux_lemma =>
      go_wp2_with fail
      obtain ⟨wo, hwo⟩ : ∃ wx : World, wx = wr := ⟨_, rfl⟩
      subst hwo
      go_cut [13, 14] from 42 to 73 (fun s13 s14 wx => ∃ A5 c5 A6 c6, s13 = .slice A5 np c5 ∧ s14 = .slice A6 nn c6 ∧ Ext wo wx ∧ Made wo wx A5 np BP ∧ Made wo wx A6 nn BN)
      case first => as_aux_lemma =>
        go_region_held3 (fun wx => wx.cell? ⟨bp, 0, none⟩ = some (.string p.name) ∧ wx.cell? ⟨bp, 1, none⟩ = some (.int .i64 p.uid) ∧ wx.cell? ⟨bp, 2, none⟩ = some (.int .i64 p.prio) ∧ wx.cell? ⟨bp, 3, none⟩ = some (.int .i64 p.req.a) ∧ wx.cell? ⟨bp, 4, none⟩ = some (.int .i64 p.req.b) ∧ wx.cell? ⟨bp, 5, none⟩ = some (.int .i64 p.req.c) ∧ wx.cell? ⟨bp, 6, none⟩ = some (.slice qp.a1 p.ports.length qp.c1) ∧ wx.cell? ⟨bp, 7, none⟩ = some (.slice qp.a2 p.labels.length qp.c2) ∧ wx.cell? ⟨bp, 8, none⟩ = some (.slice qp.a3 p.sel.length qp.c3) ∧ wx.cell? ⟨bp, 9, none⟩ = some (.slice qp.a4 p.tols.length qp.c4) ∧ wx.cell? ⟨bp, 10, none⟩ = some (.string p.topo) ∧ wx.cell? ⟨bp, 11, none⟩ = some (.slice qp.a5 p.anti.length qp.c5) ∧ wx.cell? ⟨bp, 12, none⟩ = some (.int .i64 p.skew) ∧ wx.cell? ⟨bp, 13, none⟩ = some (.slice qp.a6 p.even.length qp.c6) ∧ wx.cell? ⟨bp, 14, none⟩ = some (.string p.node) ∧ wx.cell? ⟨bp, 15, none⟩ = some (.int .i64 p.term) ∧ wx.cell? ⟨bn, 0, none⟩ = some (.string n.name) ∧ wx.cell? ⟨bn, 1, none⟩ = some (.int .i64 n.cap.a) ∧ wx.cell? ⟨bn, 2, none⟩ = some (.int .i64 n.cap.b) ∧ wx.cell? ⟨bn, 3, none⟩ = some (.int .i64 n.cap.c) ∧ wx.cell? ⟨bn, 4, none⟩ = some (.slice qn.a1 n.labels.length qn.c1) ∧ wx.cell? ⟨bn, 5, none⟩ = some (.slice qn.a2 n.taints.length qn.c2))
          (first | exact CE.out _ HE.out | exact CE.out _ HE.out.drew | exact CE.out _ X5.out | exact CE.out _ X5.out.drew | exact CE.out _ X6.out)
          (first
            | (go_at_call 49
               refine (CP.out _ (by first | exact HE.out | exact HE.out.drew)).mono ?_
               rintro e w5 ⟨v5, rfl, o5, e5⟩
               have Y5 : Hid (Ext wo w5) := by first | exact e5 | exact (Ext.refl wo).drew.trans e5
               have X5 : Hid (Ext W2 w5) := HE.out.trans Y5.out
               obtain ⟨A5, c5, rfl, m5⟩ := made_of (W := wo) (by first | exact Nat.le_refl _ | exact (Ext.refl wo).drew.size) o5
               have M5 := Lib.hid m5
               clear o5 e5 m5)
            | (go_at_call 50
               refine (CN.out _ (by first | exact X5.out | exact X5.out.drew)).mono ?_
               rintro e w6 ⟨v6, rfl, o6, e6⟩
               have Y6 : Hid (Ext w5 w6) := by first | exact e6 | exact (Ext.refl w5).drew.trans e6
               have X6 : Hid (Ext W2 w6) := X5.out.trans Y6.out
               obtain ⟨A6, c6, rfl, m6⟩ := made_of (W := wo) (by first | exact Y5.out.size | exact Y5.out.drew.size) o6
               have M6 := Lib.hid m6
               clear o6 e6 m6))
        all_goals (
          go_wp2_with fail
          go_meet
          case rel =>
            first
              | exact ⟨_, _, _, _, rfl, rfl, Y5.out.trans Y6.out, M5.out.ext Y6.out, M6.out⟩
              | exact ⟨_, _, _, _, rfl, rfl, (Y5.out.trans Y6.out).drewN _, (M5.out.ext Y6.out).ext ((Ext.refl _).drewN _), M6.out.ext ((Ext.refl _).drewN _)⟩)
      case rest =>
        obtain ⟨A5, c5, A6, c6, rfl, rfl, e5, m5, m6⟩ := hcut
        have v0 := conv_made (c := c5) LP.out m5
        have u0 := conv_made (c := c6) LN.out m6
        have E5 := Lib.hid e5
        have B5 : Hid (BW wo.heap.size wc 5 1 A5 np) := m5.bw
        have B6 : Hid (BW wo.heap.size wc 5 1 A6 nn) := m6.bw
        clear e5 m5 m6
        go_wp2_with fail
        clear v0 u0
        go_loopw [58] (fun i wy => ∃ j : Nat, j ≤ np ∧ i = .int .i64 j ∧ Ext wo wy ∧ BW wo.heap.size wy 5 1 A5 np ∧ BW wo.heap.size wy 5 1 A6 nn) (fun i _ => np - (intOf i).toNat)
        case atStart => exact ⟨0, by omega, rfl, E5.out, B5.out, B6.out⟩
        obtain ⟨j, hj, rfl, ey, y5, y6⟩ := hrel
        have EY := Lib.hid ey
        have Y6 := Lib.hid y6
        clear ey y6 B5 B6 E5
        by_cases hjl : j < np
        · as_aux_lemma =>
          rcases y5 with h0 | ⟨g, cur, rfl, hg, hh, hs⟩
          · omega
          obtain ⟨v, hv⟩ : ∃ v, cur[j]? = some v := ⟨_, Array.getElem?_eq_getElem (by omega)⟩
          have z0 := WB.cell hh hv
          have z1 := WB.fr hh j
          have NX : Hid (Ext wo (wr.setCell ⟨g, j, none⟩ (.int .u8 1)) ∧ BW wo.heap.size (wr.setCell ⟨g, j, none⟩ (.int .u8 1)) 5 1 (some ⟨g, 0, none⟩) np ∧ BW wo.heap.size (wr.setCell ⟨g, j, none⟩ (.int .u8 1)) 5 1 A6 nn) :=
            ⟨EY.out.setCell hg _, BW.set (.inr ⟨g, cur, rfl, hg, hh, hs⟩) _ _ _, Y6.out.set _ _ _⟩
          clear hv hg hh hs
          go_wp2_with fail
          go_roundw
          case rel => exact ⟨j + 1, by omega, by go_num, NX.out.1, NX.out.2.1, NX.out.2.2⟩
          case measure => simp [intOf]; omega
        · have Y5 := Lib.hid y5
          clear y5
          obtain ⟨wq, hwq⟩ : ∃ wx : World, wx = wr := ⟨_, rfl⟩
          subst hwq
          go_wp2_with fail
          go_loopw [67] (fun i wy => ∃ j : Nat, j ≤ nn ∧ i = .int .i64 j ∧ Ext wo wy ∧ BW wo.heap.size wy 5 1 A6 nn) (fun i _ => nn - (intOf i).toNat)
          case atStart => exact ⟨0, by omega, rfl, EY.out, Y6.out⟩
          obtain ⟨j', hj', rfl, ey, y6⟩ := hrel
          have EZ := Lib.hid ey
          clear ey EY Y6 Y5
          by_cases hjl' : j' < nn
          · as_aux_lemma =>
            rcases y6 with h0 | ⟨g, cur, rfl, hg, hh, hs⟩
            · omega
            obtain ⟨v, hv⟩ : ∃ v, cur[j']? = some v := ⟨_, Array.getElem?_eq_getElem (by omega)⟩
            have z0 := WB.cell hh hv
            have z1 := WB.fr hh j'
            have NX : Hid (Ext wo (wr.setCell ⟨g, j', none⟩ (.int .u8 2)) ∧ BW wo.heap.size (wr.setCell ⟨g, j', none⟩ (.int .u8 2)) 5 1 (some ⟨g, 0, none⟩) nn) :=
              ⟨EZ.out.setCell hg _, BW.set (.inr ⟨g, cur, rfl, hg, hh, hs⟩) _ _ _⟩
            clear hv hg hh hs
            go_wp2_with fail
            go_roundw
            case rel => exact ⟨j' + 1, by omega, by go_num, NX.out.1, NX.out.2⟩
            case measure => simp [intOf]; omega
          · go_wp2_with fail
            go_roundw
            case rel => exact ⟨k + 1, by omega, by go_num, HE.out.trans EZ.out⟩
            case measure => simp [intOf]; omega
    · as_aux_lemma =>
      obtain ⟨c7, W7, hcv, e7, f7⟩ := conv_back wr BP
      obtain ⟨P, hP⟩ : ∃ P, podOut BP = P := ⟨_, rfl⟩
      obtain ⟨pg, hpg⟩ : ∃ b, podG BP = b := ⟨_, rfl⟩
      have HPP : Hid (pg = true → P = p) := fun h => by rw [← hP]; exact HPO.out (hpg.trans h)
      have CGP : Hid (∀ wx A c, ByF A BP wx → Calls Tryz.prog 51 #[.slice A BP.length c] wx fun e w' => ∃ q, e = .returned (.tuple #[.agg (podC P q).toArray, .bool pg]) ∧ Ext wx w' ∧ PodOk2 wx.heap.size w' P q) := fun wx A c hf => by
        rw [← hP, ← hpg]
        exact getPod_own A c BP wx hf (by have := ZP.out; omega)
      have E7 : Hid (Ext W2 W7) := HE.out.trans e7
      have F7 := Lib.hid f7
      have hm3 : P.labels.length ≤ 6 := by rw [← hP]; exact podOut_labels BP
      clear hP hpg HPO f7 e7 HE CP CN
      go_wp2_with fail
      refine (CGP.out W7 _ c7 F7.out).mono ?_
      rintro e v1 ⟨Q1, rfl, e1, ok1⟩
      rw [show (podC P Q1).toArray = #[.string P.name, .int .i64 P.uid, .int .i64 P.prio, .int .i64 P.req.a, .int .i64 P.req.b, .int .i64 P.req.c, .slice Q1.a1 P.ports.length Q1.c1, .slice Q1.a2 P.labels.length Q1.c2, .slice Q1.a3 P.sel.length Q1.c3, .slice Q1.a4 P.tols.length Q1.c4, .string P.topo, .slice Q1.a5 P.anti.length Q1.c5, .int .i64 P.skew, .slice Q1.a6 P.even.length Q1.c6, .string P.node, .int .i64 P.term] from rfl]
      obtain ⟨n1, hn1⟩ : ∃ n, v1.heap.size = n := ⟨_, rfl⟩
      have WB1 := WB.new v1 66 #[.string P.name, .int .i64 P.uid, .int .i64 P.prio, .int .i64 P.req.a, .int .i64 P.req.b, .int .i64 P.req.c, .slice Q1.a1 P.ports.length Q1.c1, .slice Q1.a2 P.labels.length Q1.c2, .slice Q1.a3 P.sel.length Q1.c3, .slice Q1.a4 P.tols.length Q1.c4, .string P.topo, .slice Q1.a5 P.anti.length Q1.c5, .int .i64 P.skew, .slice Q1.a6 P.even.length Q1.c6, .string P.node, .int .i64 P.term]
      have X1 : Ext v1 (v1.alloc (.cells #[.string P.name, .int .i64 P.uid, .int .i64 P.prio, .int .i64 P.req.a, .int .i64 P.req.b, .int .i64 P.req.c, .slice Q1.a1 P.ports.length Q1.c1, .slice Q1.a2 P.labels.length Q1.c2, .slice Q1.a3 P.sel.length Q1.c3, .slice Q1.a4 P.tols.length Q1.c4, .string P.topo, .slice Q1.a5 P.anti.length Q1.c5, .int .i64 P.skew, .slice Q1.a6 P.even.length Q1.c6, .string P.node, .int .i64 P.term] 66)) := (Ext.refl _).alloc _
      obtain ⟨V1, hV1⟩ : ∃ W, v1.alloc (.cells #[.string P.name, .int .i64 P.uid, .int .i64 P.prio, .int .i64 P.req.a, .int .i64 P.req.b, .int .i64 P.req.c, .slice Q1.a1 P.ports.length Q1.c1, .slice Q1.a2 P.labels.length Q1.c2, .slice Q1.a3 P.sel.length Q1.c3, .slice Q1.a4 P.tols.length Q1.c4, .string P.topo, .slice Q1.a5 P.anti.length Q1.c5, .int .i64 P.skew, .slice Q1.a6 P.even.length Q1.c6, .string P.node, .int .i64 P.term] 66) = W := ⟨_, rfl⟩
      rw [hV1, hn1] at WB1
      rw [hV1] at X1
      have BW1 : Hid (BW W7.heap.size V1 37 2 Q1.a2 P.labels.length) := (bw_own ok1.2).ext X1
      have HG1 : Hid (∀ g o, Q1.a2 = some ⟨g, o, none⟩ → 0 < P.labels.length → g ≠ n1) := fun g o h h0 => by
        rcases bw_own ok1.2 with h | ⟨g', cur, h1, h2, h3, h4⟩
        · omega
        · rw [h] at h1
          injection h1 with h1
          injection h1 with h1 h5
          have := WB.lt h3
          rw [hn1] at this
          omega
      have EV1 : Hid (Ext W7 V1) := e1.trans X1
      have HB1 := Lib.hid WB1
      have b7 := WB1.cell (i := 7) rfl
      clear WB1 X1 e1 ok1 F7 hcv
      go_wp2_with fail
      clear b7
      go_loopw [83] (fun i wy => ∃ j : Nat, j ≤ P.labels.length ∧ i = .int .i64 j ∧ Ext W7 wy ∧ WB wy n1 66 #[.string P.name, .int .i64 P.uid, .int .i64 P.prio, .int .i64 P.req.a, .int .i64 P.req.b, .int .i64 P.req.c, .slice Q1.a1 P.ports.length Q1.c1, .slice Q1.a2 P.labels.length Q1.c2, .slice Q1.a3 P.sel.length Q1.c3, .slice Q1.a4 P.tols.length Q1.c4, .string P.topo, .slice Q1.a5 P.anti.length Q1.c5, .int .i64 P.skew, .slice Q1.a6 P.even.length Q1.c6, .string P.node, .int .i64 P.term] ∧ BW W7.heap.size wy 37 2 Q1.a2 P.labels.length) (fun i _ => P.labels.length - (intOf i).toNat)
      case atStart => exact ⟨0, by omega, rfl, EV1.out, HB1.out, BW1.out⟩
      obtain ⟨j, hj, rfl, ey, yb, yw⟩ := hrel
      have EY := Lib.hid ey
      clear ey EV1 HB1 BW1 hV1 hn1
      by_cases hjl : j < P.labels.length
      · as_aux_lemma =>
        rcases yw with h0 | ⟨g, cur, hA, hg, hh, hs⟩
        · omega
        have hne := HG1.out g 0 hA (by omega)
        obtain ⟨v, hv⟩ : ∃ v, cur[j * 2 + 1]? = some v := ⟨_, Array.getElem?_eq_getElem (by omega)⟩
        have z0 := WB.cell hh hv
        have z1 := WB.fr hh (j * 2 + 1)
        have b7 : wr.cell? ⟨n1, 7, none⟩ = some (.slice (some ⟨g, 0, none⟩) P.labels.length Q1.c2) := by rw [← hA]; exact yb.cell (i := 7) rfl
        have NX : Hid (Ext W7 (wr.setCell ⟨g, j * 2 + 1, none⟩ (.string ⟨#[111, 116, 104, 101, 114]⟩)) ∧ WB (wr.setCell ⟨g, j * 2 + 1, none⟩ (.string ⟨#[111, 116, 104, 101, 114]⟩)) n1 66 #[.string P.name, .int .i64 P.uid, .int .i64 P.prio, .int .i64 P.req.a, .int .i64 P.req.b, .int .i64 P.req.c, .slice Q1.a1 P.ports.length Q1.c1, .slice Q1.a2 P.labels.length Q1.c2, .slice Q1.a3 P.sel.length Q1.c3, .slice Q1.a4 P.tols.length Q1.c4, .string P.topo, .slice Q1.a5 P.anti.length Q1.c5, .int .i64 P.skew, .slice Q1.a6 P.even.length Q1.c6, .string P.node, .int .i64 P.term] ∧ BW W7.heap.size (wr.setCell ⟨g, j * 2 + 1, none⟩ (.string ⟨#[111, 116, 104, 101, 114]⟩)) 37 2 Q1.a2 P.labels.length) :=
          ⟨EY.out.setCell hg _, WB.far (p := ⟨g, j * 2 + 1, none⟩) yb (Ne.symm hne) _, BW.set (.inr ⟨g, cur, hA, hg, hh, hs⟩) _ _ _⟩
        clear hv hg hh hs hA yb hne
        go_wp2_with fail
        go_roundw
        case rel => exact ⟨j + 1, by omega, by go_num, NX.out.1, NX.out.2.1, NX.out.2.2⟩
        case measure => simp [intOf]; omega
      · as_aux_lemma =>
        obtain ⟨c8, W8, hcv, e8, f8⟩ := conv_back wr BP
        have F8 := Lib.hid f8
        have E8 : Hid (Ext W2 W8) := E7.out.trans (EY.out.trans e8)
        clear yb yw HG1 f8 e8 EY E7
        go_wp2_with fail
        refine (CGP.out W8 _ c8 F8.out).mono ?_
        rintro e v2 ⟨Q2, rfl, e2, ok2⟩
        rw [show (podC P Q2).toArray = #[.string P.name, .int .i64 P.uid, .int .i64 P.prio, .int .i64 P.req.a, .int .i64 P.req.b, .int .i64 P.req.c, .slice Q2.a1 P.ports.length Q2.c1, .slice Q2.a2 P.labels.length Q2.c2, .slice Q2.a3 P.sel.length Q2.c3, .slice Q2.a4 P.tols.length Q2.c4, .string P.topo, .slice Q2.a5 P.anti.length Q2.c5, .int .i64 P.skew, .slice Q2.a6 P.even.length Q2.c6, .string P.node, .int .i64 P.term] from rfl]
        obtain ⟨n2, hn2⟩ : ∃ n, v2.heap.size = n := ⟨_, rfl⟩
        have WB2 := WB.new v2 66 #[.string P.name, .int .i64 P.uid, .int .i64 P.prio, .int .i64 P.req.a, .int .i64 P.req.b, .int .i64 P.req.c, .slice Q2.a1 P.ports.length Q2.c1, .slice Q2.a2 P.labels.length Q2.c2, .slice Q2.a3 P.sel.length Q2.c3, .slice Q2.a4 P.tols.length Q2.c4, .string P.topo, .slice Q2.a5 P.anti.length Q2.c5, .int .i64 P.skew, .slice Q2.a6 P.even.length Q2.c6, .string P.node, .int .i64 P.term]
        have X2 : Ext v2 (v2.alloc (.cells #[.string P.name, .int .i64 P.uid, .int .i64 P.prio, .int .i64 P.req.a, .int .i64 P.req.b, .int .i64 P.req.c, .slice Q2.a1 P.ports.length Q2.c1, .slice Q2.a2 P.labels.length Q2.c2, .slice Q2.a3 P.sel.length Q2.c3, .slice Q2.a4 P.tols.length Q2.c4, .string P.topo, .slice Q2.a5 P.anti.length Q2.c5, .int .i64 P.skew, .slice Q2.a6 P.even.length Q2.c6, .string P.node, .int .i64 P.term] 66)) := (Ext.refl _).alloc _
        obtain ⟨V2, hV2⟩ : ∃ W, v2.alloc (.cells #[.string P.name, .int .i64 P.uid, .int .i64 P.prio, .int .i64 P.req.a, .int .i64 P.req.b, .int .i64 P.req.c, .slice Q2.a1 P.ports.length Q2.c1, .slice Q2.a2 P.labels.length Q2.c2, .slice Q2.a3 P.sel.length Q2.c3, .slice Q2.a4 P.tols.length Q2.c4, .string P.topo, .slice Q2.a5 P.anti.length Q2.c5, .int .i64 P.skew, .slice Q2.a6 P.even.length Q2.c6, .string P.node, .int .i64 P.term] 66) = W := ⟨_, rfl⟩
        rw [hV2, hn2] at WB2
        rw [hV2] at X2
        have EV2 : Ext W2 V2 := E8.out.trans (e2.trans X2)
        have OKQ : Hid (PodOk V2 P Q2) := ok2.1.ext X2
        have OKP : Hid (PodOk V2 p qp) := OP.out _ EV2
        have HEW : Hid (Ext w V2) := HEX.out _ EV2
        obtain ⟨k0, k1, k2, k3, k4, k5, k6, k7, k8, k9, k10, k11, k12, k13, k14, k15, _⟩ := CE.out V2 EV2
        have y0 := WB2.cell (i := 0) rfl
        have y1 := WB2.cell (i := 1) rfl
        have y2 := WB2.cell (i := 2) rfl
        have y3 := WB2.cell (i := 3) rfl
        have y4 := WB2.cell (i := 4) rfl
        have y5 := WB2.cell (i := 5) rfl
        have y6 := WB2.cell (i := 6) rfl
        have y7 := WB2.cell (i := 7) rfl
        have y8 := WB2.cell (i := 8) rfl
        have y9 := WB2.cell (i := 9) rfl
        have y10 := WB2.cell (i := 10) rfl
        have y11 := WB2.cell (i := 11) rfl
        have y12 := WB2.cell (i := 12) rfl
        have y13 := WB2.cell (i := 13) rfl
        have y14 := WB2.cell (i := 14) rfl
        have y15 := WB2.cell (i := 15) rfl
        clear WB2 X2 e2 ok2 EV2 OP CE CGP F8 E8 HEX hcv HBA
        cases pg
        · go_wp2_with fail
          go_ret
          exact ⟨rfl, HEW.out⟩
        · go_wp2_with fail
          refine (same_pod P p Q2 qp V2 (HPP.out (by simp)) OKQ.out OKP.out).mono ?_
          rintro e v3 ⟨rfl, e3⟩
          have E3 : Hid (Ext w v3) := HEW.out.trans e3
          clear e3
          go_wp2_with fail
          go_ret
          exact ⟨rfl, E3.out⟩
end Go.Proofs.YthfafenigjldlaaGreat
