/-
  'interrexlaw1.CodeAny': the walk.
-/
import Derived.Test.YthfafenigjldlaaGreatAny1
import Derived.Test.YthfafenigjldlaaGreatLRise
import Derived.Test.YthfafenigjldlaaGreatAny2
import Derived.Test.YthfafenigjldlaaGreatRef5
import Derived.Test.YthfafenigjldlaaGreatRef6
import Derived.Test.YthfafenigjldlaaGreatRef7
import Derived.Test.YthfafenigjldlaaGreatNode3
import Derived.Test.YthfafenigjldlaaGreatGet8
namespace Go.Proofs.YthfafenigjldlaaGreat
open Go.RowKit
set_option linter.unusedVariables false

set_option maxRecDepth 20000 in
set_option maxHeartbeats 16000000 in
theorem codeAny_any (HBA : Hid (∀ w : World, Calls Tryz.prog 17 #[] w fun e w' => e = .returned (.bool true) ∧ Ext w w')) (A0 : Option Addr) (c0 : Nat) (raw : List UInt8) (p : Pd) (qp : PA) (n : Nd) (qn : NA) (i : Int) (x : UInt8) (w : World)
    (h1 : raw.length ≤ c0) (h2 : c0 ≤ maxLen) (h3 : ByF A0 raw w) (hp : PodOk w p qp) (hn : NodeOk w n qn) (hi : inI i) :
    Calls Tryz.prog 16 #[.slice A0 raw.length c0, .agg (podC p qp).toArray, .agg (nodeC n qn).toArray, .int .i64 i, byV x] w fun e w' => e = .returned (.bool true) ∧ Ext w w' := by
  have B := boxed w (podC p qp) 66
  have HE1 := Lib.hid (boxedExt w (podC p qp) 66)
  obtain ⟨W1, hW1⟩ : ∃ W1, w.alloc (.cells (podC p qp).toArray 66) = W1 := ⟨_, rfl⟩
  rw [hW1] at B HE1
  have C := boxed W1 (nodeC n qn) 68
  have HE2 := Lib.hid (boxedExt W1 (nodeC n qn) 68)
  obtain ⟨W2, hW2⟩ : ∃ W2, W1.alloc (.cells (nodeC n qn).toArray 68) = W2 := ⟨_, rfl⟩
  rw [hW2] at C HE2
  obtain ⟨a, ha0, ha1, ha2, ha3⟩ := min_litR (P := Tryz.prog) raw.length 60 60 rfl
  have KP : Hid (∀ wx, Ext W2 wx → ∀ (j : Nat) (v : Value), (podC p qp)[j]? = some v → wx.cell? ⟨w.heap.size, j, none⟩ = some v) := fun wx e j v h => B j v h wx (HE2.out.trans e)
  have KN : Hid (∀ wx, Ext W2 wx → ∀ (j : Nat) (v : Value), (nodeC n qn)[j]? = some v → wx.cell? ⟨W1.heap.size, j, none⟩ = some v) := fun wx e j v h => C j v h wx e
  have OP : Hid (∀ wx, Ext W2 wx → PodOk wx p qp) := fun wx e => hp.ext (HE1.out.trans (HE2.out.trans e))
  have ON : Hid (∀ wx, Ext W2 wx → NodeOk wx n qn) := fun wx e => hn.ext (HE1.out.trans (HE2.out.trans e))
  have OR : Hid (∀ wx, Ext W2 wx → ByF A0 raw wx) := fun wx e => h3.ext (HE1.out.trans (HE2.out.trans e))
  have HEX : Hid (∀ wx, Ext W2 wx → Ext w wx) := fun wx e => HE1.out.trans (HE2.out.trans e)
  clear B C hp hn h3 HE1 HE2
  unfold maxLen at h2
  have hac : a ≤ c0 := by omega
  obtain ⟨bp, hbp⟩ : ∃ b, w.heap.size = b := ⟨_, rfl⟩
  obtain ⟨bn, hbn⟩ : ∃ b, W1.heap.size = b := ⟨_, rfl⟩
  rw [hbp] at KP
  rw [hbn] at KN
  unfold byV
  go_enter Tryz.func16, Tryz.ntmps16
  go_wp2_with fail
  refine (HBA.out _).mono ?_
  rintro e w1 ⟨rfl, a1⟩
  have E1 := Lib.hid a1
  clear a1
  go_wp2_with fail
  have CE : Hid (∀ wx, Ext W2 wx → (wx.cell? ⟨bp, 0, none⟩ = some (.string p.name) ∧ wx.cell? ⟨bp, 1, none⟩ = some (.int .i64 p.uid) ∧ wx.cell? ⟨bp, 2, none⟩ = some (.int .i64 p.prio) ∧ wx.cell? ⟨bp, 3, none⟩ = some (.int .i64 p.req.a) ∧ wx.cell? ⟨bp, 4, none⟩ = some (.int .i64 p.req.b) ∧ wx.cell? ⟨bp, 5, none⟩ = some (.int .i64 p.req.c) ∧ wx.cell? ⟨bp, 6, none⟩ = some (.slice qp.a1 p.ports.length qp.c1) ∧ wx.cell? ⟨bp, 7, none⟩ = some (.slice qp.a2 p.labels.length qp.c2) ∧ wx.cell? ⟨bp, 8, none⟩ = some (.slice qp.a3 p.sel.length qp.c3) ∧ wx.cell? ⟨bp, 9, none⟩ = some (.slice qp.a4 p.tols.length qp.c4) ∧ wx.cell? ⟨bp, 10, none⟩ = some (.string p.topo) ∧ wx.cell? ⟨bp, 11, none⟩ = some (.slice qp.a5 p.anti.length qp.c5) ∧ wx.cell? ⟨bp, 12, none⟩ = some (.int .i64 p.skew) ∧ wx.cell? ⟨bp, 13, none⟩ = some (.slice qp.a6 p.even.length qp.c6) ∧ wx.cell? ⟨bp, 14, none⟩ = some (.string p.node) ∧ wx.cell? ⟨bp, 15, none⟩ = some (.int .i64 p.term) ∧ wx.cell? ⟨bn, 0, none⟩ = some (.string n.name) ∧ wx.cell? ⟨bn, 1, none⟩ = some (.int .i64 n.cap.a) ∧ wx.cell? ⟨bn, 2, none⟩ = some (.int .i64 n.cap.b) ∧ wx.cell? ⟨bn, 3, none⟩ = some (.int .i64 n.cap.c) ∧ wx.cell? ⟨bn, 4, none⟩ = some (.slice qn.a1 n.labels.length qn.c1) ∧ wx.cell? ⟨bn, 5, none⟩ = some (.slice qn.a2 n.taints.length qn.c2))) := fun wx e => ⟨KP.out wx e 0 _ rfl, KP.out wx e 1 _ rfl, KP.out wx e 2 _ rfl, KP.out wx e 3 _ rfl, KP.out wx e 4 _ rfl, KP.out wx e 5 _ rfl, KP.out wx e 6 _ rfl, KP.out wx e 7 _ rfl, KP.out wx e 8 _ rfl, KP.out wx e 9 _ rfl, KP.out wx e 10 _ rfl, KP.out wx e 11 _ rfl, KP.out wx e 12 _ rfl, KP.out wx e 13 _ rfl, KP.out wx e 14 _ rfl, KP.out wx e 15 _ rfl, KN.out wx e 0 _ rfl, KN.out wx e 1 _ rfl, KN.out wx e 2 _ rfl, KN.out wx e 3 _ rfl, KN.out wx e 4 _ rfl, KN.out wx e 5 _ rfl⟩
  clear KP KN hW1 hW2 hbp hbn
  have HR1 : Hid ((raw.take a).length = a) := by show _ = _; rw [List.length_take]; omega
  have HR : Hid (ByF A0 (raw.take a) w1) := (OR.out w1 E1.out).take ha0
  have L4 := Lst.first (W := W2) (A := A0) (c := c0) E1.out.size HR.out (by rw [HR1.out]; omega) (by rw [HR1.out]; omega) (by unfold maxLen; omega)
  rw [HR1.out] at L4
  obtain ⟨W4, hW4⟩ : ∃ W, w1.alloc (.cells #[.slice A0 a c0] 42) = W := ⟨_, rfl⟩
  obtain ⟨g0, hg0⟩ : ∃ n, w1.heap.size = n := ⟨_, rfl⟩
  have E4 : Hid (Ext W2 W4) := by rw [← hW4]; exact E1.out.alloc _
  have HG0 : Hid (g0 < W4.heap.size) := by show _ < _; rw [← hW4, ← hg0]; simp
  rw [hW4, hg0] at L4
  rw [hW4, hg0]
  have HL4 := Lib.hid L4
  clear L4 hW4 hg0 HR E1
  obtain ⟨np, hnp⟩ : ∃ k, (putPodB p).length = k := ⟨_, rfl⟩
  obtain ⟨nn, hnn⟩ : ∃ k, (putNodeB n).length = k := ⟨_, rfl⟩
  have LP := Lib.hid hnp
  have LN := Lib.hid hnn
  have ZP := Lib.hid (putPodB_len p)
  have ZN := Lib.hid (putNodeB_len n)
  clear hnp hnn
  obtain ⟨BP, hBP⟩ : ∃ b, putPodB p = b := ⟨_, rfl⟩
  obtain ⟨BN, hBN⟩ : ∃ b, putNodeB n = b := ⟨_, rfl⟩
  have CP : Hid (∀ wx, Ext W2 wx → Calls Tryz.prog 49 #[.agg (podC p qp).toArray] wx (ClPost 5 1 np (BP.map byV) wx)) := fun wx e => by
    rw [← LP.out, ← hBP]; exact putPod_any p qp wx (OP.out _ e)
  have CN : Hid (∀ wx, Ext W2 wx → Calls Tryz.prog 50 #[.agg (nodeC n qn).toArray] wx (ClPost 5 1 nn (BN.map byV) wx)) := fun wx e => by
    rw [← LN.out, ← hBN]; exact putNode_any n qn wx (ON.out _ e)
  rw [hBP] at LP ZP
  rw [hBN] at LN ZN
  clear hBP hBN OP ON OR
  go_cut [39, 40, 41] from 35 (fun s39 s40 s41 wx => ∃ q A5 c5 A6 c6, s39 = .slice (some ⟨q, 0, none⟩) 2 2 ∧ s40 = .int .i64 2 ∧ s41 = .int .i64 0 ∧ Inv W2 q (.slice A5 np c5) (.slice A6 nn c6) BP BN 0 wx (.slice (some ⟨g0, 0, none⟩) 1 1) [raw.take a])
  case first =>
    go_region_held3 (fun wx => wx.cell? ⟨bp, 0, none⟩ = some (.string p.name) ∧ wx.cell? ⟨bp, 1, none⟩ = some (.int .i64 p.uid) ∧ wx.cell? ⟨bp, 2, none⟩ = some (.int .i64 p.prio) ∧ wx.cell? ⟨bp, 3, none⟩ = some (.int .i64 p.req.a) ∧ wx.cell? ⟨bp, 4, none⟩ = some (.int .i64 p.req.b) ∧ wx.cell? ⟨bp, 5, none⟩ = some (.int .i64 p.req.c) ∧ wx.cell? ⟨bp, 6, none⟩ = some (.slice qp.a1 p.ports.length qp.c1) ∧ wx.cell? ⟨bp, 7, none⟩ = some (.slice qp.a2 p.labels.length qp.c2) ∧ wx.cell? ⟨bp, 8, none⟩ = some (.slice qp.a3 p.sel.length qp.c3) ∧ wx.cell? ⟨bp, 9, none⟩ = some (.slice qp.a4 p.tols.length qp.c4) ∧ wx.cell? ⟨bp, 10, none⟩ = some (.string p.topo) ∧ wx.cell? ⟨bp, 11, none⟩ = some (.slice qp.a5 p.anti.length qp.c5) ∧ wx.cell? ⟨bp, 12, none⟩ = some (.int .i64 p.skew) ∧ wx.cell? ⟨bp, 13, none⟩ = some (.slice qp.a6 p.even.length qp.c6) ∧ wx.cell? ⟨bp, 14, none⟩ = some (.string p.node) ∧ wx.cell? ⟨bp, 15, none⟩ = some (.int .i64 p.term) ∧ wx.cell? ⟨bn, 0, none⟩ = some (.string n.name) ∧ wx.cell? ⟨bn, 1, none⟩ = some (.int .i64 n.cap.a) ∧ wx.cell? ⟨bn, 2, none⟩ = some (.int .i64 n.cap.b) ∧ wx.cell? ⟨bn, 3, none⟩ = some (.int .i64 n.cap.c) ∧ wx.cell? ⟨bn, 4, none⟩ = some (.slice qn.a1 n.labels.length qn.c1) ∧ wx.cell? ⟨bn, 5, none⟩ = some (.slice qn.a2 n.taints.length qn.c2))
      (first | exact CE.out _ E4.out | exact CE.out _ E4.out.drew | exact CE.out _ (E4.out.trans X5.out) | exact CE.out _ (E4.out.trans X5.out.drew) | exact CE.out _ (E4.out.trans (X5.out.trans X6.out)) | exact CE.out _ ((E4.out.trans (X5.out.trans X6.out)).alloc _))
      (first
        | (go_at_call 49
           refine (CP.out _ (by first | exact E4.out | exact E4.out.drew)).mono ?_
           rintro e w5 ⟨v5, rfl, o5, e5⟩
           have X5 : Hid (Ext W4 w5) := by first | exact e5 | exact (Ext.refl W4).drew.trans e5
           obtain ⟨A5, c5, rfl, l5, m5, f5, g5⟩ := cl_new LP.out rfl o5
           have F5 := Lib.hid f5
           have G5 : Hid (∀ b o, A5 = some ⟨b, o, none⟩ → W4.heap.size ≤ b) := g5
           clear o5 e5 f5 g5)
        | (go_at_call 50
           refine (CN.out _ (E4.out.trans (by first | exact X5.out | exact X5.out.drew))).mono ?_
           rintro e w6 ⟨v6, rfl, o6, e6⟩
           have X6 : Hid (Ext w5 w6) := by first | exact e6 | exact (Ext.refl w5).drew.trans e6
           obtain ⟨A6, c6, rfl, l6, m6, f6, g6⟩ := cl_new LN.out rfl o6
           have F6 := Lib.hid f6
           have G6 : Hid (∀ b o, A6 = some ⟨b, o, none⟩ → w5.heap.size ≤ b) := g6
           clear o6 e6 f6 g6))
    all_goals (
      go_wp2_with fail
      go_meet
      case rel =>
        have st := Inv.start (A5 := A5) (c5 := c5) (A6 := A6) (c6 := c6) HL4.out E4.out HG0.out X5.out X6.out F5.out F6.out G5.out G6.out LP.out LN.out ZP.out ZN.out l5 l6 m5 m6
        first
          | exact ⟨_, _, _, _, _, rfl, rfl, rfl, st⟩
          | exact ⟨_, _, _, _, _, rfl, rfl, rfl, st.next ((Ext.refl _).drewN _)⟩)
  case rest =>
    obtain ⟨q, A5, c5, A6, c6, rfl, rfl, rfl, hinv⟩ := hcut
    have HI := Lib.hid hinv
    have WE : Hid (∀ wx, Ext W2 wx → Ext w wx) := HEX
    clear hinv HL4 E4 HG0 CP CN CE HEX LP LN ZP ZN ha1 ha2 ha3 hac h1 h2 HR1
    go_wp2_with fail
    go_loopw [12, 41] (fun v i wr => ∃ (k : Nat) (L : List (List UInt8)), k ≤ 2 ∧ i = .int .i64 k ∧ Hid (Inv W2 q (.slice A5 np c5) (.slice A6 nn c6) BP BN k wr v L)) (fun _ i _ => 2 - (intOf i).toNat)
    case atStart => exact ⟨0, _, by omega, rfl, HI⟩
    obtain ⟨k, L, hk, rfl, hI⟩ := hrel
    clear HI
    by_cases hlt : k < 2
    · obtain ⟨A, m, c, bs, q0, hm, hm3, hF, hmc, hcM, hEL⟩ := hI.out.get hlt
      have HF : Hid (Flat wr 1 A m (bs.map byV)) := by rw [← hm]; exact hF
      have HM := Lib.hid hm
      have HEL := Lib.hid hEL
      have HCM := Lib.hid hcM
      clear hF hm hEL hcM
      by_cases h0 : (0 : Int) < (m : Int)
      · obtain ⟨kk, kk1, x1, x2, x3⟩ := mod_idx i m (by omega)
        obtain ⟨xx, hxx⟩ : ∃ x, i.tmod m = x := ⟨_, rfl⟩
        rw [hxx] at x1 x2 x3
        have sx : IntKind.i64.wrap (xx + (m : Int)) = xx + m := IntWalk.i64_in _ (by omega)
        have hn0 : ((m : Int) == 0) = false := by simp; omega
        have hn0' : ¬ (m : Int) = 0 := by omega
        obtain ⟨i0, hi0, hz0, hz1, hz2⟩ := info_parts u8_info
        obtain ⟨y, hy⟩ := get_of (xs := bs) (k := kk) (by rw [HM.out]; exact kk1)
        have HYK : Hid ((bs.map byV)[kk]? = some (byV y)) := by show _ = _; rw [List.getElem?_map, hy]; rfl
        clear hy
        have HB1 : Hid (∀ u ∈ bs.map byV, u.oneCell' = true) := byV_one
        have HMX : Hid (m ≤ maxLen) := by show _ ≤ _; unfold maxLen; omega
        go_wp2_with (first
          | (at_builtin
             refine wpList_copy _ rfl _ (.tmp 58) 42 rfl 5 i0 _ 1 1 Tryz.underlying42 hi0 hz0 hz1 hz2 rfl (by decide) rfl A m c (bs.map byV) rfl HF.out HB1.out HMX.out (by omega) wr (Ext.refl _) ?_
             intro A9 c9 w9 q9 x9
             obtain ⟨base, b1, b2, ow⟩ := q9.own
             obtain ⟨g, cur, hA9, hg, hgrow⟩ : ∃ g cur, A9 = some ⟨g, 0, none⟩ ∧ wr.heap.size ≤ g ∧ WB w9 g 5 cur ∧ cur.toList.take (m * 1) = bs.map byV := by
               rcases ow.2 with ⟨_, h0⟩ | ⟨g, cap, cur, e, hb, hh, _, _, _, ht⟩
               · omega
               · exact ⟨g, cur, by simpa using (Value.slice.inj e).1, Nat.le_trans b1 hb, hh, ht⟩
             subst hA9
             have OW : Hid (w9.ownsRow wr.heap.size 5 1 (.slice (some ⟨g, 0, none⟩) m c9) m (bs.map byV)) := own_low b1 ow
             have X9 := Lib.hid x9
             have BG := Lib.hid hgrow.1
             have TK := Lib.hid hgrow.2
             have HG := Lib.hid hg
             have z0 : w9.cell? ⟨g, kk, none⟩ = some (.int .u8 (y.toNat : Int)) := BG.out.cell (by
               have h1 := HYK.out
               rw [← TK.out, List.getElem?_take_of_lt (by omega), Array.getElem?_toList] at h1
               exact h1)
             have z1 := BG.out.fr kk
             clear q9 x9 b1 b2 ow hg hgrow))
        obtain ⟨z, hz⟩ : ∃ z, Value.int .u8 (bits .xor .u8 (y.toNat : Int) (x.toNat : Int)) = byV z := by unfold bits; exact by_wrap _
        rw [hz]
        have OZ : Hid ((w9.setCell ⟨g, kk, none⟩ (byV z)).ownsRow wr.heap.size 5 1 (.slice (some ⟨g, 0, none⟩) m c9) m ((bs.set kk z).map byV)) := own_setB OW.out kk z
        have XZ : Hid (Ext wr (w9.setCell ⟨g, kk, none⟩ (byV z))) := X9.out.setCell HG.out _
        obtain ⟨W9, hW9⟩ : ∃ W, w9.setCell ⟨g, kk, none⟩ (byV z) = W := ⟨_, rfl⟩
        rw [hW9] at OZ XZ
        rw [hW9]
        clear hz hW9 z0 z1 BG TK X9 HG OW hn0 hn0' x1 x2 x3 sx hxx HYK q0
        have hkc : (kk : Int) ≤ (c : Int) := by omega
        have hk0 : (0 : Int) ≤ (kk : Int) := by omega
        have FX : Hid (∀ wx : World, Flat (wx.alloc (.cells #[.int .u8 (x.toNat : Int)] 5)) 1 (some ⟨wx.heap.size, 0, none⟩) 1 [byV x]) := fun wx => flat_new wx _ 1 1 #[_] rfl
        obtain ⟨j0, hj0, hy0, hy1, hy2⟩ := info_parts bytes_info
        obtain ⟨base, cs, lb1, lb2, lb3, lb4⟩ := hI.out.lst.ex
        have LB1 := Lib.hid lb1
        have LB2 := Lib.hid lb2
        have LB3 := Lib.hid lb3
        have LB4 := Lib.hid lb4
        have HLL : Hid (L.length ≤ 7) := by show _ ≤ _; have := hI.out.l2; omega
        have HM1X : Hid (m + 1 ≤ maxLen) := by show _ ≤ _; unfold maxLen; omega
        have HZL : Hid ((bs.set kk z).length = m) := by show _ = _; rw [List.length_set]; exact HM.out
        have HGB : Hid (∀ b, u12.ownBlock = some b → b < wr.heap.size) := fun b h => hI.out.lst.lt h
        have hL3 : L.length ≤ 7 := HLL.out
        clear lb1 lb2 lb3 lb4
        go_region_held3 (fun _ => True) (trivial) (first
          | (with_reducible refine at_slot 73 ?_
             refine step_copy _ rfl _ (.tmp 72) 42 rfl 5 i0 _ 1 1 Tryz.underlying42 hi0 hz0 hz1 hz2 rfl (by decide) rfl A m c (bs.map byV) rfl ?_ HB1.out HMX.out (by omega) W9 ?_ ?_
             · refine HF.out.ext (XZ.out.trans ?_); with_reducible (repeat (first | exact Ext.refl _ | apply Ext.drew | apply Ext.drewN | apply Ext.alloc))
             · with_reducible (repeat (first | exact Ext.refl _ | apply Ext.drew | apply Ext.drewN | apply Ext.alloc))
             intro A10 c10 w10 q10 x10
             have C10 := Lib.hid q10
             have X10 := Lib.hid x10
             clear q10 x10)
          | (with_reducible refine at_slot 76 ?_
             refine step_more _ rfl (.tmp 73) (.tmp 75) 42 rfl 5 i0 _ 1 1 Tryz.underlying42 hi0 hz0 hz1 hz2 rfl (by decide) A10 m c10 (bs.map byV) rfl W9 ?_ _ 1 1 [byV x] rfl ?_ (by simp [Value.oneCell', byV]) HM1X.out (by omega) ?_
             · refine C10.out.more ?_; with_reducible (repeat (first | exact Ext.refl _ | apply Ext.drew | apply Ext.drewN | apply Ext.alloc))
             · refine (FX.out _).ext ?_; with_reducible (repeat (first | exact Ext.refl _ | exact (Ext.drew (Ext.refl _)).trans X10.out | exact (Ext.refl _).trans X10.out | exact (Ext.drewN (Ext.refl _) _).trans X10.out | apply Ext.drew | apply Ext.drewN))
             intro A11 c11 w11 q11
             have C11 := Lib.hid q11
             clear q11)
          | (with_reducible refine at_slot 78 ?_
             refine step_append_lies _ rfl (.tmp 67) (.tmp 77) 81 rfl base 42 j0 _ 1 24 Tryz.underlying81 hj0 hy0 hy1 hy2 rfl (by decide) u12 L.length cs rfl ?_ ⟨_, 0, none⟩ 3 3 [.slice (some ⟨g, 0, none⟩) m c9, .slice A kk c, .slice A11 (m + 1) c11] rfl rfl ?_ (by simp [Value.oneCell']) (by omega) (by unfold maxLen; omega) (by omega) ?_ _ rfl ?_
             · refine own_ext LB3.out (XZ.out.trans (C11.out.ext.trans ?_)); with_reducible (repeat (first | exact Ext.refl _ | apply Ext.drew | apply Ext.drewN | apply Ext.alloc))
             · refine wb_news (T := 42) (cs := #[_, _, _]) ?_; with_reducible (repeat (first | exact WB.new _ _ _ | apply WB.drew | apply WB.drewN))
             · refine Nat.le_trans LB2.out (XZ.out.trans (C11.out.ext.trans ?_)).size; with_reducible (repeat (first | exact Ext.refl _ | apply Ext.drew | apply Ext.drewN | apply Ext.alloc))
             intro g12 c12 w12 o12 x12 v12 l12
             have IN : Hid (∃ L', Inv W2 q (.slice A5 np c5) (.slice A6 nn c6) BP BN (k + 1) w12 (.slice (some ⟨g12, 0, none⟩) (L.length + 3) c12) L') := by
               refine Inv.round hI.out XZ.out LB1.out LB2.out LB3.out LB4.out OZ.out HZL.out HEL.out HM.out hm3 (by omega) C11.out ?_ x12 o12 v12
               with_reducible (repeat (first | exact Ext.refl _ | apply Ext.drew | apply Ext.drewN | apply Ext.alloc))
             clear o12 x12 v12 l12))
        all_goals (
          go_wp2_with fail
          go_roundw
          case rel =>
            obtain ⟨L', hL'⟩ := IN.out
            first
              | exact ⟨k + 1, L', by omega, by go_num, hL'⟩
              | exact ⟨k + 1, L', by omega, by go_num, hL'.next (Ext.drew (Ext.refl _))⟩
              | exact ⟨k + 1, L', by omega, by go_num, hL'.next (Ext.drewN (Ext.refl _) _)⟩
          case measure => simp [intOf]; omega)
      · go_wp2_with fail
        go_roundw
        case rel => exact ⟨k + 1, L, by omega, by go_num, hI.out.more (by omega)⟩
        case measure => simp [intOf]; omega
    · obtain rfl : k = 2 := by omega
      rw [show ((2 : Nat) : Int) = 2 from rfl]
      obtain ⟨gL, capL, _, _, _, hv, _⟩ := hI.out.lst.at (k := 0) (by have := hI.out.l1; omega)
      subst hv
      have HL : Hid (Lst W2 wr (.slice (some ⟨gL, 0, none⟩) L.length capL) L) := hI.out.lst
      have EW : Hid (Ext w wr) := WE.out _ hI.out.ext
      have hl7 : L.length ≤ 7 := by have := hI.out.l2; omega
      clear hI WE hk hlt hi
      obtain ⟨wL, hwL⟩ : ∃ wx : World, wx = wr := ⟨_, rfl⟩
      subst hwL
      go_wp2_with fail
      go_loopw [82] (fun i wr => ∃ k : Nat, k ≤ L.length ∧ i = .int .i64 k ∧ Ext wL wr) (fun i _ => L.length - (intOf i).toNat)
      case atStart => exact ⟨0, by omega, rfl, Ext.refl _⟩
      obtain ⟨k, hk, rfl, he⟩ := hrel
      have HE := Lib.hid he
      clear he
      by_cases hlt : k < L.length
      · obtain ⟨g, cap, A, c, bs, hv, hbk, q0, hF, h4⟩ := (HL.out.next HE.out).at hlt
        have e1 := (Value.slice.inj hv).1
        obtain rfl : gL = g := by injection e1 with e1; injection e1
        have HF := Lib.hid hF
        clear hv e1 hbk hF cap
        obtain ⟨P, hP⟩ : ∃ P, podOut bs = P := ⟨_, rfl⟩
        obtain ⟨pg, hpg⟩ : ∃ b, podG bs = b := ⟨_, rfl⟩
        obtain ⟨N, hN⟩ : ∃ P, nodOut bs = P := ⟨_, rfl⟩
        obtain ⟨ng, hng⟩ : ∃ b, nodG bs = b := ⟨_, rfl⟩
        obtain ⟨lg, hlg⟩ : ∃ b, leaseG bs = b := ⟨_, rfl⟩
        obtain ⟨lk, hlk⟩ : ∃ b, (if leaseG bs then (leaseR2 bs).1 else 0) = b := ⟨_, rfl⟩
        obtain ⟨ld, hld⟩ : ∃ b, (if leaseG bs then (leaseR3 bs).1 else 0) = b := ⟨_, rfl⟩
        have P1 : Hid (pg = true → putPodB P = bs) := fun h => by rw [← hP]; exact podG_put (hpg.trans h)
        have P0 : Hid (pg = false → P = zeroPd) := fun h => by rw [← hP]; exact podOut_zero (hpg.trans h)
        have N1 : Hid (ng = true → putNodeB N = bs) := fun h => by rw [← hN]; exact nodG_put (hng.trans h)
        have N0 : Hid (ng = false → N = zeroNd) := fun h => by rw [← hN]; exact nodOut_zero (hng.trans h)
        have L1 : Hid (lg = true → putLeaseB lk ld = bs) := fun h => by
          have h1 := hlg.trans h
          rw [← hlk, ← hld, if_pos h1, if_pos h1]; exact leaseG_put h1
        have L0 : Hid (lg = false → lk = 0 ∧ ld = 0) := fun h => by
          have h1 := hlg.trans h
          rw [← hlk, ← hld, h1]; exact ⟨rfl, rfl⟩
        have LI : Hid (inI lk ∧ inI ld) := by
          show _ ∧ _
          rw [← hlk, ← hld]
          have h0 : inI 0 := ⟨by omega, by omega⟩
          exact ⟨by split; exact numF_inI _ _ _; exact h0, by split; exact numF_inI _ _ _; exact h0⟩
        have CGP : Hid (∀ wx, Ext wr wx → Calls Tryz.prog 51 #[.slice A bs.length c] wx fun e w' => ∃ q, e = .returned (.tuple #[.agg (podC P q).toArray, .bool pg]) ∧ Ext wx w' ∧ PodOk w' P q) := fun wx e => by
          rw [← hP, ← hpg]; exact getPod_any A c bs wx (HF.out.ext e) (by omega)
        have CGN : Hid (∀ wx, Ext wr wx → Calls Tryz.prog 53 #[.slice A bs.length c] wx fun e w' => ∃ q, e = .returned (.tuple #[.agg (nodeC N q).toArray, .bool ng]) ∧ Ext wx w' ∧ NodeOk w' N q) := fun wx e => by
          rw [← hN, ← hng]; exact getNode_any A c bs wx (HF.out.ext e) (by omega)
        have CGL : Hid (∀ wx, Ext wr wx → Calls Tryz.prog 54 #[.slice A bs.length c] wx fun e w' => e = .returned (.tuple #[.agg #[.int .i64 lk, .int .i64 ld], .bool lg]) ∧ Ext wx w') := fun wx e => by
          rw [← hlk, ← hld, ← hlg]; exact getLease_any A c bs wx (HF.out.ext e) (by omega)
        have RB : Hid (∀ (wx : World) (B : Option Addr) (d : Nat), Ext wr wx → ByF B bs wx → Calls Tryz.prog 55 #[.slice B bs.length d, .slice A bs.length c] wx fun e w' => e = .returned (.bool true) ∧ Ext wx w') := fun wx B d e hb => by
          refine (rBytes_any B A d c bs bs wx hb (HF.out.ext e)).mono ?_
          rintro e w' ⟨b, rfl, hb, he⟩
          rw [hb.2 rfl]
          exact ⟨rfl, he⟩
        clear hP hpg hN hng hlg hlk hld HF
        go_wp2_with fail
        refine (CGP.out wr (Ext.refl _)).mono ?_
        rintro e v1 ⟨Q1, rfl, e1, ok1⟩
        rw [show (podC P Q1).toArray = #[.string P.name, .int .i64 P.uid, .int .i64 P.prio, .int .i64 P.req.a, .int .i64 P.req.b, .int .i64 P.req.c, .slice Q1.a1 P.ports.length Q1.c1, .slice Q1.a2 P.labels.length Q1.c2, .slice Q1.a3 P.sel.length Q1.c3, .slice Q1.a4 P.tols.length Q1.c4, .string P.topo, .slice Q1.a5 P.anti.length Q1.c5, .int .i64 P.skew, .slice Q1.a6 P.even.length Q1.c6, .string P.node, .int .i64 P.term] from rfl]
        go_wp2_with fail
        obtain ⟨n1, hn1⟩ : ∃ n, v1.heap.size = n := ⟨_, rfl⟩
        have WB1 := WB.new v1 66 #[.string P.name, .int .i64 P.uid, .int .i64 P.prio, .int .i64 P.req.a, .int .i64 P.req.b, .int .i64 P.req.c, .slice Q1.a1 P.ports.length Q1.c1, .slice Q1.a2 P.labels.length Q1.c2, .slice Q1.a3 P.sel.length Q1.c3, .slice Q1.a4 P.tols.length Q1.c4, .string P.topo, .slice Q1.a5 P.anti.length Q1.c5, .int .i64 P.skew, .slice Q1.a6 P.even.length Q1.c6, .string P.node, .int .i64 P.term]
        have X1 : Ext v1 (v1.alloc (.cells #[.string P.name, .int .i64 P.uid, .int .i64 P.prio, .int .i64 P.req.a, .int .i64 P.req.b, .int .i64 P.req.c, .slice Q1.a1 P.ports.length Q1.c1, .slice Q1.a2 P.labels.length Q1.c2, .slice Q1.a3 P.sel.length Q1.c3, .slice Q1.a4 P.tols.length Q1.c4, .string P.topo, .slice Q1.a5 P.anti.length Q1.c5, .int .i64 P.skew, .slice Q1.a6 P.even.length Q1.c6, .string P.node, .int .i64 P.term] 66)) := (Ext.refl _).alloc _
        obtain ⟨V1, hV1⟩ : ∃ W, v1.alloc (.cells #[.string P.name, .int .i64 P.uid, .int .i64 P.prio, .int .i64 P.req.a, .int .i64 P.req.b, .int .i64 P.req.c, .slice Q1.a1 P.ports.length Q1.c1, .slice Q1.a2 P.labels.length Q1.c2, .slice Q1.a3 P.sel.length Q1.c3, .slice Q1.a4 P.tols.length Q1.c4, .string P.topo, .slice Q1.a5 P.anti.length Q1.c5, .int .i64 P.skew, .slice Q1.a6 P.even.length Q1.c6, .string P.node, .int .i64 P.term] 66) = W := ⟨_, rfl⟩
        rw [hV1, hn1] at WB1
        rw [hV1] at X1
        rw [hV1, hn1]
        have E1 : Hid (Ext wr V1) := e1.trans X1
        have OK1 : Hid (∀ wx, Ext V1 wx → PodOk wx P Q1) := fun wx e => ok1.ext (X1.trans e)
        have HB1 := Lib.hid WB1
        clear hV1 hn1 X1 WB1 e1 ok1
        refine (CGN.out V1 E1.out).mono ?_
        rintro e v2 ⟨Q2, rfl, e2, ok2⟩
        rw [show (nodeC N Q2).toArray = #[.string N.name, .int .i64 N.cap.a, .int .i64 N.cap.b, .int .i64 N.cap.c, .slice Q2.a1 N.labels.length Q2.c1, .slice Q2.a2 N.taints.length Q2.c2] from rfl]
        go_wp2_with fail
        obtain ⟨n2, hn2⟩ : ∃ n, v2.heap.size = n := ⟨_, rfl⟩
        have WB2 := WB.new v2 68 #[.string N.name, .int .i64 N.cap.a, .int .i64 N.cap.b, .int .i64 N.cap.c, .slice Q2.a1 N.labels.length Q2.c1, .slice Q2.a2 N.taints.length Q2.c2]
        have X2 : Ext v2 (v2.alloc (.cells #[.string N.name, .int .i64 N.cap.a, .int .i64 N.cap.b, .int .i64 N.cap.c, .slice Q2.a1 N.labels.length Q2.c1, .slice Q2.a2 N.taints.length Q2.c2] 68)) := (Ext.refl _).alloc _
        obtain ⟨V2, hV2⟩ : ∃ W, v2.alloc (.cells #[.string N.name, .int .i64 N.cap.a, .int .i64 N.cap.b, .int .i64 N.cap.c, .slice Q2.a1 N.labels.length Q2.c1, .slice Q2.a2 N.taints.length Q2.c2] 68) = W := ⟨_, rfl⟩
        rw [hV2, hn2] at WB2
        rw [hV2] at X2
        rw [hV2, hn2]
        have E2 : Hid (Ext V1 V2) := e2.trans X2
        have OK2 : Hid (∀ wx, Ext V2 wx → NodeOk wx N Q2) := fun wx e => ok2.ext (X2.trans e)
        have HB2 := Lib.hid WB2
        clear hV2 hn2 X2 WB2 e2 ok2
        refine (CGL.out V2 (E1.out.trans E2.out)).mono ?_
        rintro e v3 ⟨rfl, e3⟩
        have X23 : Hid (Ext V2 v3) := e3
        clear e3
        obtain ⟨n3, hn3⟩ : ∃ n, v3.heap.size = n := ⟨_, rfl⟩
        have WB3 := WB.new v3 85 #[.int .i64 lk, .int .i64 ld]
        have X3 : Ext v3 (v3.alloc (.cells #[.int .i64 lk, .int .i64 ld] 85)) := (Ext.refl _).alloc _
        obtain ⟨V3, hV3⟩ : ∃ W, v3.alloc (.cells #[.int .i64 lk, .int .i64 ld] 85) = W := ⟨_, rfl⟩
        rw [hV3, hn3] at WB3
        rw [hV3] at X3
        have E23 : Hid (∀ wx, Ext V3 wx → Ext V2 wx) := fun wx e => X23.out.trans (X3.trans e)
        have E13 : Hid (∀ wx, Ext V3 wx → Ext V1 wx) := fun wx e => E2.out.trans (E23.out wx e)
        have E03 : Hid (∀ wx, Ext V3 wx → Ext wr wx) := fun wx e => E1.out.trans (E13.out wx e)
        have EV : Hid (Ext wL V3) := HE.out.trans (E03.out _ (Ext.refl _))
        have HPP : Hid (∀ wx, Ext V3 wx → pg = true → Calls Tryz.prog 49 #[.agg #[.string P.name, .int .i64 P.uid, .int .i64 P.prio, .int .i64 P.req.a, .int .i64 P.req.b, .int .i64 P.req.c, .slice Q1.a1 P.ports.length Q1.c1, .slice Q1.a2 P.labels.length Q1.c2, .slice Q1.a3 P.sel.length Q1.c3, .slice Q1.a4 P.tols.length Q1.c4, .string P.topo, .slice Q1.a5 P.anti.length Q1.c5, .int .i64 P.skew, .slice Q1.a6 P.even.length Q1.c6, .string P.node, .int .i64 P.term]] wx (ClPost 5 1 bs.length (bs.map byV) wx)) := fun wx e h => by
          have := putPod_any P Q1 wx (OK1.out _ (E13.out _ e))
          rw [P1.out h] at this
          exact this
        have HPE : Hid (∀ wx, Ext V3 wx → pg = false → Calls Tryz.prog 52 #[.agg #[.string P.name, .int .i64 P.uid, .int .i64 P.prio, .int .i64 P.req.a, .int .i64 P.req.b, .int .i64 P.req.c, .slice Q1.a1 P.ports.length Q1.c1, .slice Q1.a2 P.labels.length Q1.c2, .slice Q1.a3 P.sel.length Q1.c3, .slice Q1.a4 P.tols.length Q1.c4, .string P.topo, .slice Q1.a5 P.anti.length Q1.c5, .int .i64 P.skew, .slice Q1.a6 P.even.length Q1.c6, .string P.node, .int .i64 P.term], .agg #[.string ⟨#[]⟩, .int .i64 0, .int .i64 0, .int .i64 0, .int .i64 0, .int .i64 0, .slice none 0 0, .slice none 0 0, .slice none 0 0, .slice none 0 0, .string ⟨#[]⟩, .slice none 0 0, .int .i64 0, .slice none 0 0, .string ⟨#[]⟩, .int .i64 0]] wx fun e w' => e = .returned (.bool true) ∧ Ext wx w') := fun wx e h => zero_pod P Q1 wx (P0.out h) (OK1.out _ (E13.out _ e))
        have HNP : Hid (∀ wx, Ext V3 wx → ng = true → Calls Tryz.prog 50 #[.agg #[.string N.name, .int .i64 N.cap.a, .int .i64 N.cap.b, .int .i64 N.cap.c, .slice Q2.a1 N.labels.length Q2.c1, .slice Q2.a2 N.taints.length Q2.c2]] wx (ClPost 5 1 bs.length (bs.map byV) wx)) := fun wx e h => by
          have := putNode_any N Q2 wx (OK2.out _ (E23.out _ e))
          rw [N1.out h] at this
          exact this
        have HNE : Hid (∀ wx, Ext V3 wx → ng = false → Calls Tryz.prog 56 #[.agg #[.string N.name, .int .i64 N.cap.a, .int .i64 N.cap.b, .int .i64 N.cap.c, .slice Q2.a1 N.labels.length Q2.c1, .slice Q2.a2 N.taints.length Q2.c2], .agg #[.string ⟨#[]⟩, .int .i64 0, .int .i64 0, .int .i64 0, .slice none 0 0, .slice none 0 0]] wx fun e w' => e = .returned (.bool true) ∧ Ext wx w') := fun wx e h => zero_node N Q2 wx (N0.out h) (OK2.out _ (E23.out _ e))
        have HLP : Hid (∀ wx, Ext V3 wx → lg = true → Calls Tryz.prog 57 #[.agg #[.int .i64 lk, .int .i64 ld]] wx (ClPost 5 1 bs.length (bs.map byV) wx)) := fun wx e h => by
          have := putLease_any lk ld wx LI.out.1 LI.out.2
          rw [L1.out h] at this
          exact this
        have RB3 : Hid (∀ (wx : World) (B : Option Addr) (d : Nat), Ext V3 wx → ByF B bs wx → Calls Tryz.prog 55 #[.slice B bs.length d, .slice A bs.length c] wx fun e w' => e = .returned (.bool true) ∧ Ext wx w') := fun wx B d e hb => RB.out wx B d (E03.out _ e) hb
        have HP1 : Hid (∀ wx, Ext V3 wx → WB wx n1 66 #[.string P.name, .int .i64 P.uid, .int .i64 P.prio, .int .i64 P.req.a, .int .i64 P.req.b, .int .i64 P.req.c, .slice Q1.a1 P.ports.length Q1.c1, .slice Q1.a2 P.labels.length Q1.c2, .slice Q1.a3 P.sel.length Q1.c3, .slice Q1.a4 P.tols.length Q1.c4, .string P.topo, .slice Q1.a5 P.anti.length Q1.c5, .int .i64 P.skew, .slice Q1.a6 P.even.length Q1.c6, .string P.node, .int .i64 P.term]) := fun wx e => HB1.out.ext (E13.out _ e)
        have HP2 : Hid (∀ wx, Ext V3 wx → WB wx n2 68 #[.string N.name, .int .i64 N.cap.a, .int .i64 N.cap.b, .int .i64 N.cap.c, .slice Q2.a1 N.labels.length Q2.c1, .slice Q2.a2 N.taints.length Q2.c2]) := fun wx e => HB2.out.ext (E23.out _ e)
        have HP3 : Hid (∀ wx, Ext V3 wx → WB wx n3 85 #[.int .i64 lk, .int .i64 ld]) := fun wx e => WB3.ext e
        clear HB1 HB2 WB3 X3 X23 E23 E13 E03 E2 E1 OK1 OK2 P1 P0 N1 N0 L1 LI CGP CGN CGL RB HE HL q0 h4
        have HB1 := HP1
        have HB2 := HP2
        have HB3 := HP3
        clear HP1 HP2 HP3
        have E : Ext V3 V3 := Ext.refl _
        cases pg <;> cases ng <;> cases lg
        · as_aux_lemma =>
            have PP := HB1.out _ E
            have p0 := PP.cell (i := 0) rfl
            have p1 := PP.cell (i := 1) rfl
            have p2 := PP.cell (i := 2) rfl
            have p3 := PP.cell (i := 3) rfl
            have p4 := PP.cell (i := 4) rfl
            have p5 := PP.cell (i := 5) rfl
            have p6 := PP.cell (i := 6) rfl
            have p7 := PP.cell (i := 7) rfl
            have p8 := PP.cell (i := 8) rfl
            have p9 := PP.cell (i := 9) rfl
            have p10 := PP.cell (i := 10) rfl
            have p11 := PP.cell (i := 11) rfl
            have p12 := PP.cell (i := 12) rfl
            have p13 := PP.cell (i := 13) rfl
            have p14 := PP.cell (i := 14) rfl
            have p15 := PP.cell (i := 15) rfl
            clear PP
            go_wp2_with fail
            refine (HPE.out _ E (by simp)).mono ?_
            rintro e wb ⟨rfl, eb⟩
            replace E := E.trans eb
            clear eb p0 p1 p2 p3 p4 p5 p6 p7 p8 p9 p10 p11 p12 p13 p14 p15
            have PP := HB2.out _ E
            have n0 := PP.cell (i := 0) rfl
            have n1 := PP.cell (i := 1) rfl
            have n2 := PP.cell (i := 2) rfl
            have n3 := PP.cell (i := 3) rfl
            have n4 := PP.cell (i := 4) rfl
            have n5 := PP.cell (i := 5) rfl
            clear PP
            go_wp2_with fail
            refine (HNE.out _ E (by simp)).mono ?_
            rintro e wb ⟨rfl, eb⟩
            replace E := E.trans eb
            clear eb n0 n1 n2 n3 n4 n5
            obtain ⟨rfl, rfl⟩ := L0.out (by simp)
            have hne := neq_lease0
            have PP := HB3.out _ E
            have l0 := PP.cell (i := 0) rfl
            have l1 := PP.cell (i := 1) rfl
            clear PP
            go_wp2_with fail
            have EE := Lib.hid E
            clear E
            go_roundw
            case rel => exact ⟨k + 1, by omega, by go_num, EV.out.trans EE.out⟩
            case measure => simp [intOf]; omega
        · as_aux_lemma =>
            have PP := HB1.out _ E
            have p0 := PP.cell (i := 0) rfl
            have p1 := PP.cell (i := 1) rfl
            have p2 := PP.cell (i := 2) rfl
            have p3 := PP.cell (i := 3) rfl
            have p4 := PP.cell (i := 4) rfl
            have p5 := PP.cell (i := 5) rfl
            have p6 := PP.cell (i := 6) rfl
            have p7 := PP.cell (i := 7) rfl
            have p8 := PP.cell (i := 8) rfl
            have p9 := PP.cell (i := 9) rfl
            have p10 := PP.cell (i := 10) rfl
            have p11 := PP.cell (i := 11) rfl
            have p12 := PP.cell (i := 12) rfl
            have p13 := PP.cell (i := 13) rfl
            have p14 := PP.cell (i := 14) rfl
            have p15 := PP.cell (i := 15) rfl
            clear PP
            go_wp2_with fail
            refine (HPE.out _ E (by simp)).mono ?_
            rintro e wb ⟨rfl, eb⟩
            replace E := E.trans eb
            clear eb p0 p1 p2 p3 p4 p5 p6 p7 p8 p9 p10 p11 p12 p13 p14 p15
            have PP := HB2.out _ E
            have n0 := PP.cell (i := 0) rfl
            have n1 := PP.cell (i := 1) rfl
            have n2 := PP.cell (i := 2) rfl
            have n3 := PP.cell (i := 3) rfl
            have n4 := PP.cell (i := 4) rfl
            have n5 := PP.cell (i := 5) rfl
            clear PP
            go_wp2_with fail
            refine (HNE.out _ E (by simp)).mono ?_
            rintro e wb ⟨rfl, eb⟩
            replace E := E.trans eb
            clear eb n0 n1 n2 n3 n4 n5
            have PP := HB3.out _ E
            have l0 := PP.cell (i := 0) rfl
            have l1 := PP.cell (i := 1) rfl
            clear PP
            go_wp2_with fail
            refine (HLP.out _ E (by simp)).mono ?_
            rintro e wa ⟨va, rfl, oa, ea⟩
            obtain ⟨Aa, ca, rfl, _, _, fa, _⟩ := cl_new rfl rfl oa
            replace E := E.trans ea
            clear oa ea l0 l1
            go_wp2_with fail
            refine (RB3.out _ _ _ E fa).mono ?_
            rintro e wb ⟨rfl, eb⟩
            replace E := E.trans eb
            clear eb fa
            go_wp2_with fail
            have EE := Lib.hid E
            clear E
            go_roundw
            case rel => exact ⟨k + 1, by omega, by go_num, EV.out.trans EE.out⟩
            case measure => simp [intOf]; omega
        · as_aux_lemma =>
            have PP := HB1.out _ E
            have p0 := PP.cell (i := 0) rfl
            have p1 := PP.cell (i := 1) rfl
            have p2 := PP.cell (i := 2) rfl
            have p3 := PP.cell (i := 3) rfl
            have p4 := PP.cell (i := 4) rfl
            have p5 := PP.cell (i := 5) rfl
            have p6 := PP.cell (i := 6) rfl
            have p7 := PP.cell (i := 7) rfl
            have p8 := PP.cell (i := 8) rfl
            have p9 := PP.cell (i := 9) rfl
            have p10 := PP.cell (i := 10) rfl
            have p11 := PP.cell (i := 11) rfl
            have p12 := PP.cell (i := 12) rfl
            have p13 := PP.cell (i := 13) rfl
            have p14 := PP.cell (i := 14) rfl
            have p15 := PP.cell (i := 15) rfl
            clear PP
            go_wp2_with fail
            refine (HPE.out _ E (by simp)).mono ?_
            rintro e wb ⟨rfl, eb⟩
            replace E := E.trans eb
            clear eb p0 p1 p2 p3 p4 p5 p6 p7 p8 p9 p10 p11 p12 p13 p14 p15
            have PP := HB2.out _ E
            have n0 := PP.cell (i := 0) rfl
            have n1 := PP.cell (i := 1) rfl
            have n2 := PP.cell (i := 2) rfl
            have n3 := PP.cell (i := 3) rfl
            have n4 := PP.cell (i := 4) rfl
            have n5 := PP.cell (i := 5) rfl
            clear PP
            go_wp2_with fail
            refine (HNP.out _ E (by simp)).mono ?_
            rintro e wa ⟨va, rfl, oa, ea⟩
            obtain ⟨Aa, ca, rfl, _, _, fa, _⟩ := cl_new rfl rfl oa
            replace E := E.trans ea
            clear oa ea n0 n1 n2 n3 n4 n5
            go_wp2_with fail
            refine (RB3.out _ _ _ E fa).mono ?_
            rintro e wb ⟨rfl, eb⟩
            replace E := E.trans eb
            clear eb fa
            obtain ⟨rfl, rfl⟩ := L0.out (by simp)
            have hne := neq_lease0
            have PP := HB3.out _ E
            have l0 := PP.cell (i := 0) rfl
            have l1 := PP.cell (i := 1) rfl
            clear PP
            go_wp2_with fail
            have EE := Lib.hid E
            clear E
            go_roundw
            case rel => exact ⟨k + 1, by omega, by go_num, EV.out.trans EE.out⟩
            case measure => simp [intOf]; omega
        · as_aux_lemma =>
            have PP := HB1.out _ E
            have p0 := PP.cell (i := 0) rfl
            have p1 := PP.cell (i := 1) rfl
            have p2 := PP.cell (i := 2) rfl
            have p3 := PP.cell (i := 3) rfl
            have p4 := PP.cell (i := 4) rfl
            have p5 := PP.cell (i := 5) rfl
            have p6 := PP.cell (i := 6) rfl
            have p7 := PP.cell (i := 7) rfl
            have p8 := PP.cell (i := 8) rfl
            have p9 := PP.cell (i := 9) rfl
            have p10 := PP.cell (i := 10) rfl
            have p11 := PP.cell (i := 11) rfl
            have p12 := PP.cell (i := 12) rfl
            have p13 := PP.cell (i := 13) rfl
            have p14 := PP.cell (i := 14) rfl
            have p15 := PP.cell (i := 15) rfl
            clear PP
            go_wp2_with fail
            refine (HPE.out _ E (by simp)).mono ?_
            rintro e wb ⟨rfl, eb⟩
            replace E := E.trans eb
            clear eb p0 p1 p2 p3 p4 p5 p6 p7 p8 p9 p10 p11 p12 p13 p14 p15
            have PP := HB2.out _ E
            have n0 := PP.cell (i := 0) rfl
            have n1 := PP.cell (i := 1) rfl
            have n2 := PP.cell (i := 2) rfl
            have n3 := PP.cell (i := 3) rfl
            have n4 := PP.cell (i := 4) rfl
            have n5 := PP.cell (i := 5) rfl
            clear PP
            go_wp2_with fail
            refine (HNP.out _ E (by simp)).mono ?_
            rintro e wa ⟨va, rfl, oa, ea⟩
            obtain ⟨Aa, ca, rfl, _, _, fa, _⟩ := cl_new rfl rfl oa
            replace E := E.trans ea
            clear oa ea n0 n1 n2 n3 n4 n5
            go_wp2_with fail
            refine (RB3.out _ _ _ E fa).mono ?_
            rintro e wb ⟨rfl, eb⟩
            replace E := E.trans eb
            clear eb fa
            have PP := HB3.out _ E
            have l0 := PP.cell (i := 0) rfl
            have l1 := PP.cell (i := 1) rfl
            clear PP
            go_wp2_with fail
            refine (HLP.out _ E (by simp)).mono ?_
            rintro e wa ⟨va, rfl, oa, ea⟩
            obtain ⟨Aa, ca, rfl, _, _, fa, _⟩ := cl_new rfl rfl oa
            replace E := E.trans ea
            clear oa ea l0 l1
            go_wp2_with fail
            refine (RB3.out _ _ _ E fa).mono ?_
            rintro e wb ⟨rfl, eb⟩
            replace E := E.trans eb
            clear eb fa
            go_wp2_with fail
            have EE := Lib.hid E
            clear E
            go_roundw
            case rel => exact ⟨k + 1, by omega, by go_num, EV.out.trans EE.out⟩
            case measure => simp [intOf]; omega
        · as_aux_lemma =>
            have PP := HB1.out _ E
            have p0 := PP.cell (i := 0) rfl
            have p1 := PP.cell (i := 1) rfl
            have p2 := PP.cell (i := 2) rfl
            have p3 := PP.cell (i := 3) rfl
            have p4 := PP.cell (i := 4) rfl
            have p5 := PP.cell (i := 5) rfl
            have p6 := PP.cell (i := 6) rfl
            have p7 := PP.cell (i := 7) rfl
            have p8 := PP.cell (i := 8) rfl
            have p9 := PP.cell (i := 9) rfl
            have p10 := PP.cell (i := 10) rfl
            have p11 := PP.cell (i := 11) rfl
            have p12 := PP.cell (i := 12) rfl
            have p13 := PP.cell (i := 13) rfl
            have p14 := PP.cell (i := 14) rfl
            have p15 := PP.cell (i := 15) rfl
            clear PP
            go_wp2_with fail
            refine (HPP.out _ E (by simp)).mono ?_
            rintro e wa ⟨va, rfl, oa, ea⟩
            obtain ⟨Aa, ca, rfl, _, _, fa, _⟩ := cl_new rfl rfl oa
            replace E := E.trans ea
            clear oa ea p0 p1 p2 p3 p4 p5 p6 p7 p8 p9 p10 p11 p12 p13 p14 p15
            go_wp2_with fail
            refine (RB3.out _ _ _ E fa).mono ?_
            rintro e wb ⟨rfl, eb⟩
            replace E := E.trans eb
            clear eb fa
            have PP := HB2.out _ E
            have n0 := PP.cell (i := 0) rfl
            have n1 := PP.cell (i := 1) rfl
            have n2 := PP.cell (i := 2) rfl
            have n3 := PP.cell (i := 3) rfl
            have n4 := PP.cell (i := 4) rfl
            have n5 := PP.cell (i := 5) rfl
            clear PP
            go_wp2_with fail
            refine (HNE.out _ E (by simp)).mono ?_
            rintro e wb ⟨rfl, eb⟩
            replace E := E.trans eb
            clear eb n0 n1 n2 n3 n4 n5
            obtain ⟨rfl, rfl⟩ := L0.out (by simp)
            have hne := neq_lease0
            have PP := HB3.out _ E
            have l0 := PP.cell (i := 0) rfl
            have l1 := PP.cell (i := 1) rfl
            clear PP
            go_wp2_with fail
            have EE := Lib.hid E
            clear E
            go_roundw
            case rel => exact ⟨k + 1, by omega, by go_num, EV.out.trans EE.out⟩
            case measure => simp [intOf]; omega
        · as_aux_lemma =>
            have PP := HB1.out _ E
            have p0 := PP.cell (i := 0) rfl
            have p1 := PP.cell (i := 1) rfl
            have p2 := PP.cell (i := 2) rfl
            have p3 := PP.cell (i := 3) rfl
            have p4 := PP.cell (i := 4) rfl
            have p5 := PP.cell (i := 5) rfl
            have p6 := PP.cell (i := 6) rfl
            have p7 := PP.cell (i := 7) rfl
            have p8 := PP.cell (i := 8) rfl
            have p9 := PP.cell (i := 9) rfl
            have p10 := PP.cell (i := 10) rfl
            have p11 := PP.cell (i := 11) rfl
            have p12 := PP.cell (i := 12) rfl
            have p13 := PP.cell (i := 13) rfl
            have p14 := PP.cell (i := 14) rfl
            have p15 := PP.cell (i := 15) rfl
            clear PP
            go_wp2_with fail
            refine (HPP.out _ E (by simp)).mono ?_
            rintro e wa ⟨va, rfl, oa, ea⟩
            obtain ⟨Aa, ca, rfl, _, _, fa, _⟩ := cl_new rfl rfl oa
            replace E := E.trans ea
            clear oa ea p0 p1 p2 p3 p4 p5 p6 p7 p8 p9 p10 p11 p12 p13 p14 p15
            go_wp2_with fail
            refine (RB3.out _ _ _ E fa).mono ?_
            rintro e wb ⟨rfl, eb⟩
            replace E := E.trans eb
            clear eb fa
            have PP := HB2.out _ E
            have n0 := PP.cell (i := 0) rfl
            have n1 := PP.cell (i := 1) rfl
            have n2 := PP.cell (i := 2) rfl
            have n3 := PP.cell (i := 3) rfl
            have n4 := PP.cell (i := 4) rfl
            have n5 := PP.cell (i := 5) rfl
            clear PP
            go_wp2_with fail
            refine (HNE.out _ E (by simp)).mono ?_
            rintro e wb ⟨rfl, eb⟩
            replace E := E.trans eb
            clear eb n0 n1 n2 n3 n4 n5
            have PP := HB3.out _ E
            have l0 := PP.cell (i := 0) rfl
            have l1 := PP.cell (i := 1) rfl
            clear PP
            go_wp2_with fail
            refine (HLP.out _ E (by simp)).mono ?_
            rintro e wa ⟨va, rfl, oa, ea⟩
            obtain ⟨Aa, ca, rfl, _, _, fa, _⟩ := cl_new rfl rfl oa
            replace E := E.trans ea
            clear oa ea l0 l1
            go_wp2_with fail
            refine (RB3.out _ _ _ E fa).mono ?_
            rintro e wb ⟨rfl, eb⟩
            replace E := E.trans eb
            clear eb fa
            go_wp2_with fail
            have EE := Lib.hid E
            clear E
            go_roundw
            case rel => exact ⟨k + 1, by omega, by go_num, EV.out.trans EE.out⟩
            case measure => simp [intOf]; omega
        · as_aux_lemma =>
            have PP := HB1.out _ E
            have p0 := PP.cell (i := 0) rfl
            have p1 := PP.cell (i := 1) rfl
            have p2 := PP.cell (i := 2) rfl
            have p3 := PP.cell (i := 3) rfl
            have p4 := PP.cell (i := 4) rfl
            have p5 := PP.cell (i := 5) rfl
            have p6 := PP.cell (i := 6) rfl
            have p7 := PP.cell (i := 7) rfl
            have p8 := PP.cell (i := 8) rfl
            have p9 := PP.cell (i := 9) rfl
            have p10 := PP.cell (i := 10) rfl
            have p11 := PP.cell (i := 11) rfl
            have p12 := PP.cell (i := 12) rfl
            have p13 := PP.cell (i := 13) rfl
            have p14 := PP.cell (i := 14) rfl
            have p15 := PP.cell (i := 15) rfl
            clear PP
            go_wp2_with fail
            refine (HPP.out _ E (by simp)).mono ?_
            rintro e wa ⟨va, rfl, oa, ea⟩
            obtain ⟨Aa, ca, rfl, _, _, fa, _⟩ := cl_new rfl rfl oa
            replace E := E.trans ea
            clear oa ea p0 p1 p2 p3 p4 p5 p6 p7 p8 p9 p10 p11 p12 p13 p14 p15
            go_wp2_with fail
            refine (RB3.out _ _ _ E fa).mono ?_
            rintro e wb ⟨rfl, eb⟩
            replace E := E.trans eb
            clear eb fa
            have PP := HB2.out _ E
            have n0 := PP.cell (i := 0) rfl
            have n1 := PP.cell (i := 1) rfl
            have n2 := PP.cell (i := 2) rfl
            have n3 := PP.cell (i := 3) rfl
            have n4 := PP.cell (i := 4) rfl
            have n5 := PP.cell (i := 5) rfl
            clear PP
            go_wp2_with fail
            refine (HNP.out _ E (by simp)).mono ?_
            rintro e wa ⟨va, rfl, oa, ea⟩
            obtain ⟨Aa, ca, rfl, _, _, fa, _⟩ := cl_new rfl rfl oa
            replace E := E.trans ea
            clear oa ea n0 n1 n2 n3 n4 n5
            go_wp2_with fail
            refine (RB3.out _ _ _ E fa).mono ?_
            rintro e wb ⟨rfl, eb⟩
            replace E := E.trans eb
            clear eb fa
            obtain ⟨rfl, rfl⟩ := L0.out (by simp)
            have hne := neq_lease0
            have PP := HB3.out _ E
            have l0 := PP.cell (i := 0) rfl
            have l1 := PP.cell (i := 1) rfl
            clear PP
            go_wp2_with fail
            have EE := Lib.hid E
            clear E
            go_roundw
            case rel => exact ⟨k + 1, by omega, by go_num, EV.out.trans EE.out⟩
            case measure => simp [intOf]; omega
        · as_aux_lemma =>
            have PP := HB1.out _ E
            have p0 := PP.cell (i := 0) rfl
            have p1 := PP.cell (i := 1) rfl
            have p2 := PP.cell (i := 2) rfl
            have p3 := PP.cell (i := 3) rfl
            have p4 := PP.cell (i := 4) rfl
            have p5 := PP.cell (i := 5) rfl
            have p6 := PP.cell (i := 6) rfl
            have p7 := PP.cell (i := 7) rfl
            have p8 := PP.cell (i := 8) rfl
            have p9 := PP.cell (i := 9) rfl
            have p10 := PP.cell (i := 10) rfl
            have p11 := PP.cell (i := 11) rfl
            have p12 := PP.cell (i := 12) rfl
            have p13 := PP.cell (i := 13) rfl
            have p14 := PP.cell (i := 14) rfl
            have p15 := PP.cell (i := 15) rfl
            clear PP
            go_wp2_with fail
            refine (HPP.out _ E (by simp)).mono ?_
            rintro e wa ⟨va, rfl, oa, ea⟩
            obtain ⟨Aa, ca, rfl, _, _, fa, _⟩ := cl_new rfl rfl oa
            replace E := E.trans ea
            clear oa ea p0 p1 p2 p3 p4 p5 p6 p7 p8 p9 p10 p11 p12 p13 p14 p15
            go_wp2_with fail
            refine (RB3.out _ _ _ E fa).mono ?_
            rintro e wb ⟨rfl, eb⟩
            replace E := E.trans eb
            clear eb fa
            have PP := HB2.out _ E
            have n0 := PP.cell (i := 0) rfl
            have n1 := PP.cell (i := 1) rfl
            have n2 := PP.cell (i := 2) rfl
            have n3 := PP.cell (i := 3) rfl
            have n4 := PP.cell (i := 4) rfl
            have n5 := PP.cell (i := 5) rfl
            clear PP
            go_wp2_with fail
            refine (HNP.out _ E (by simp)).mono ?_
            rintro e wa ⟨va, rfl, oa, ea⟩
            obtain ⟨Aa, ca, rfl, _, _, fa, _⟩ := cl_new rfl rfl oa
            replace E := E.trans ea
            clear oa ea n0 n1 n2 n3 n4 n5
            go_wp2_with fail
            refine (RB3.out _ _ _ E fa).mono ?_
            rintro e wb ⟨rfl, eb⟩
            replace E := E.trans eb
            clear eb fa
            have PP := HB3.out _ E
            have l0 := PP.cell (i := 0) rfl
            have l1 := PP.cell (i := 1) rfl
            clear PP
            go_wp2_with fail
            refine (HLP.out _ E (by simp)).mono ?_
            rintro e wa ⟨va, rfl, oa, ea⟩
            obtain ⟨Aa, ca, rfl, _, _, fa, _⟩ := cl_new rfl rfl oa
            replace E := E.trans ea
            clear oa ea l0 l1
            go_wp2_with fail
            refine (RB3.out _ _ _ E fa).mono ?_
            rintro e wb ⟨rfl, eb⟩
            replace E := E.trans eb
            clear eb fa
            go_wp2_with fail
            have EE := Lib.hid E
            clear E
            go_roundw
            case rel => exact ⟨k + 1, by omega, by go_num, EV.out.trans EE.out⟩
            case measure => simp [intOf]; omega
      · go_wp2_with fail
        go_ret
        exact ⟨rfl, EW.out.trans HE.out⟩
end Go.Proofs.YthfafenigjldlaaGreat
