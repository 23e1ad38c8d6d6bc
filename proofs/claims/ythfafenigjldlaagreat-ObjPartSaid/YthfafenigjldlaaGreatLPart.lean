/-
  'interrexlaw1.ObjPart': the walk.
-/
import Derived.Test.YthfafenigjldlaaGreatWays
import Derived.Deep.CutBlock
import Derived.Deep.Cut
import Derived.Deep.CutRange
import Derived.Deep.RegionHeld3
import Derived.Test.YthfafenigjldlaaGreatLRise
import Derived.Test.YthfafenigjldlaaGreatEq4
namespace Go.Proofs.YthfafenigjldlaaGreat
open Go.RowKit
set_option linter.unusedVariables false

set_option maxRecDepth 20000 in
set_option maxHeartbeats 16000000 in
theorem objPart_any (HBA : Hid (∀ w : World, Calls Tryz.prog 17 #[] w fun e w' => e = .returned (.bool true) ∧ Ext w w')) (p : Pd) (qp : PA) (n : Nd) (qn : NA) (i : Int) (w : World)
    (hp : PodOk w p qp) (hn : NodeOk w n qn) (hi : inI i) (sp : PodSz 140737488351232 p) (sn : NodeSz 140737488351232 n) :
    Calls Tryz.prog 13 #[.agg (podC p qp).toArray, .agg (nodeC n qn).toArray, .int .i64 i] w fun e w' => e = .returned (.bool true) ∧ Ext w w' := by
  have B := boxed w (podC p qp) 66
  have HE1 := Lib.hid (boxedExt w (podC p qp) 66)
  obtain ⟨W1, hW1⟩ : ∃ W1, w.alloc (.cells (podC p qp).toArray 66) = W1 := ⟨_, rfl⟩
  rw [hW1] at B HE1
  have C := boxed W1 (nodeC n qn) 68
  have HE2 := Lib.hid (boxedExt W1 (nodeC n qn) 68)
  obtain ⟨W2, hW2⟩ : ∃ W2, W1.alloc (.cells (nodeC n qn).toArray 68) = W2 := ⟨_, rfl⟩
  rw [hW2] at C HE2
  have HBP : Hid (∀ wx, Ext W2 wx → WB wx w.heap.size 66 (podC p qp).toArray) := fun wx e => by
    have h1 := WB.new w 66 (podC p qp).toArray
    rw [hW1] at h1
    exact h1.ext (HE2.out.trans e)
  have HBN : Hid (∀ wx, Ext W2 wx → WB wx W1.heap.size 68 (nodeC n qn).toArray) := fun wx e => by
    have h1 := WB.new W1 68 (nodeC n qn).toArray
    rw [hW2] at h1
    exact h1.ext e
  have KP : Hid (∀ wx, Ext W2 wx → ∀ (j : Nat) (v : Value), (podC p qp)[j]? = some v → wx.cell? ⟨w.heap.size, j, none⟩ = some v) := fun wx e j v h => B j v h wx (HE2.out.trans e)
  have KN : Hid (∀ wx, Ext W2 wx → ∀ (j : Nat) (v : Value), (nodeC n qn)[j]? = some v → wx.cell? ⟨W1.heap.size, j, none⟩ = some v) := fun wx e j v h => C j v h wx e
  have OP : Hid (∀ wx, Ext W2 wx → PodOk wx p qp) := fun wx e => hp.ext (HE1.out.trans (HE2.out.trans e))
  have ON : Hid (∀ wx, Ext W2 wx → NodeOk wx n qn) := fun wx e => hn.ext (HE1.out.trans (HE2.out.trans e))
  have HEX : Hid (∀ wx, Ext W2 wx → Ext w wx) := fun wx e => HE1.out.trans (HE2.out.trans e)
  have SC : Hid (PodScal p) := hp.scal
  have NS : Hid (okS n.name ∧ okR n.cap) := ⟨hn.name, hn.cap⟩
  have SP := Lib.hid sp
  have SN := Lib.hid sn
  clear B C hp hn HE1 HE2 sp sn
  obtain ⟨bp, hbp⟩ : ∃ b, w.heap.size = b := ⟨_, rfl⟩
  obtain ⟨bn, hbn⟩ : ∃ b, W1.heap.size = b := ⟨_, rfl⟩
  rw [hbp] at KP HBP
  rw [hbn] at KN HBN
  go_enter Tryz.func13, Tryz.ntmps13
  go_wp2_with fail
  refine (HBA.out _).mono ?_
  rintro e w1 ⟨rfl, a1⟩
  have E : Ext W2 w1 := a1
  clear a1
  go_wp2_with fail
  have CE : Hid (∀ wx, Ext W2 wx → (wx.cell? ⟨bp, 0, none⟩ = some (.string p.name) ∧ wx.cell? ⟨bp, 1, none⟩ = some (.int .i64 p.uid) ∧ wx.cell? ⟨bp, 2, none⟩ = some (.int .i64 p.prio) ∧ wx.cell? ⟨bp, 3, none⟩ = some (.int .i64 p.req.a) ∧ wx.cell? ⟨bp, 4, none⟩ = some (.int .i64 p.req.b) ∧ wx.cell? ⟨bp, 5, none⟩ = some (.int .i64 p.req.c) ∧ wx.cell? ⟨bp, 6, none⟩ = some (.slice qp.a1 p.ports.length qp.c1) ∧ wx.cell? ⟨bp, 7, none⟩ = some (.slice qp.a2 p.labels.length qp.c2) ∧ wx.cell? ⟨bp, 8, none⟩ = some (.slice qp.a3 p.sel.length qp.c3) ∧ wx.cell? ⟨bp, 9, none⟩ = some (.slice qp.a4 p.tols.length qp.c4) ∧ wx.cell? ⟨bp, 10, none⟩ = some (.string p.topo) ∧ wx.cell? ⟨bp, 11, none⟩ = some (.slice qp.a5 p.anti.length qp.c5) ∧ wx.cell? ⟨bp, 12, none⟩ = some (.int .i64 p.skew) ∧ wx.cell? ⟨bp, 13, none⟩ = some (.slice qp.a6 p.even.length qp.c6) ∧ wx.cell? ⟨bp, 14, none⟩ = some (.string p.node) ∧ wx.cell? ⟨bp, 15, none⟩ = some (.int .i64 p.term) ∧ wx.cell? ⟨bn, 0, none⟩ = some (.string n.name) ∧ wx.cell? ⟨bn, 1, none⟩ = some (.int .i64 n.cap.a) ∧ wx.cell? ⟨bn, 2, none⟩ = some (.int .i64 n.cap.b) ∧ wx.cell? ⟨bn, 3, none⟩ = some (.int .i64 n.cap.c) ∧ wx.cell? ⟨bn, 4, none⟩ = some (.slice qn.a1 n.labels.length qn.c1) ∧ wx.cell? ⟨bn, 5, none⟩ = some (.slice qn.a2 n.taints.length qn.c2))) := fun wx e => ⟨KP.out wx e 0 _ rfl, KP.out wx e 1 _ rfl, KP.out wx e 2 _ rfl, KP.out wx e 3 _ rfl, KP.out wx e 4 _ rfl, KP.out wx e 5 _ rfl, KP.out wx e 6 _ rfl, KP.out wx e 7 _ rfl, KP.out wx e 8 _ rfl, KP.out wx e 9 _ rfl, KP.out wx e 10 _ rfl, KP.out wx e 11 _ rfl, KP.out wx e 12 _ rfl, KP.out wx e 13 _ rfl, KP.out wx e 14 _ rfl, KP.out wx e 15 _ rfl, KN.out wx e 0 _ rfl, KN.out wx e 1 _ rfl, KN.out wx e 2 _ rfl, KN.out wx e 3 _ rfl, KN.out wx e 4 _ rfl, KN.out wx e 5 _ rfl⟩
  clear KP KN hW1 hW2 hbp hbn
  have CP : Hid (∀ wx, Ext W2 wx → Calls Tryz.prog 45 #[.agg (podC p qp).toArray] wx (CPPost p wx)) := fun wx e => copyPod_any p qp wx (OP.out _ e) (SP.out.fits (by omega))
  have CN : Hid (∀ wx, Ext W2 wx → Calls Tryz.prog 46 #[.agg (nodeC n qn).toArray] wx (CNPost n wx)) := fun wx e => copyNode_any n qn wx (ON.out _ e) (SN.out.fits (by omega))
  have E0 : Hid (Ext W2 w1) := E
  clear E CE
  refine two_part _ w1 p n qp qn bp bn _ _ _ _ _ _ _ _ _ _ _ _ _ _ _ _ _ _ _ _ _ _ _ _ _ _ _ _ _ _ _ _ _ _ _ _ _ _ _ _ _ _ _ _ _ _ _ _ _ _ _ _ _ _ _ _ _ _ _ _ _ _ _ _ _ _ _ _ _ _ _ _ _ _ _ _ _ _ _ _ _ _ _ _ _ _ _ _ _ _ _ _ _ _ _ _ _ _ _ _ _ _ _ _ _ _ _ _ _ _ _ _ _ _ _ _ _ _ _ _ _ _ _ _ _ _ _ _ _ _ _ _ _ _ _ _ _ _ (fun wx e => HBP.out _ (E0.out.trans e)) (fun wx e => HBN.out _ (E0.out.trans e)) (fun wx e => CP.out _ (E0.out.trans e)) (fun wx e => CN.out _ (E0.out.trans e)) ?_
  intro n8 n9 lo5 v5 Q lo6 v6 N w2 st
  have PP : Hid (Part0 w1 p n Q N lo6 n8 n9 w2) := Part0.of st
  clear st
  have PS : Hid (PodScal p) := SC.out
  clear SC
  obtain ⟨ii, ii1, x1, x2, x3⟩ := mod_idx i 12 (by omega)
  rw [show ((12 : Nat) : Int) = 12 from rfl] at x1 x2 x3
  obtain ⟨xx, hxx⟩ : ∃ x, i.tmod 12 = x := ⟨_, rfl⟩
  rw [hxx] at x1 x2 x3
  have sx : IntKind.i64.wrap (xx + 12) = xx + 12 := IntWalk.i64_in _ (by omega)
  obtain ⟨j0, hj0, jz0, jz1, jz2⟩ := info_parts int_info
  obtain ⟨k0, hk0, kz0, kz1, kz2⟩ := info_parts pair_info
  obtain ⟨l0, hl0, lz0, lz1, lz2⟩ := info_parts term_info
  obtain ⟨t0, ht0, tz0, tz1, tz2⟩ := info_parts toler_info
  go_upto_block 0 with fail
  go_cut [8, 9] from 10 (fun s8 s9 wx => s8 = .pointer (some ⟨n8, 0, none⟩) ∧ s9 = .pointer (some ⟨n9, 0, none⟩) ∧ Fin w1 p n N lo6 n8 n9 wx)
  case first =>
    rcases (show ii = 0 ∨ ii = 1 ∨ ii = 2 ∨ ii = 3 ∨ ii = 4 ∨ ii = 5 ∨ ii = 6 ∨ ii = 7 ∨ ii = 8 ∨ ii = 9 ∨ ii = 10 ∨ ii = 11 by omega) with rfl | rfl | rfl | rfl | rfl | rfl | rfl | rfl | rfl | rfl | rfl | rfl
    · as_aux_lemma =>
        have ce : w2.cell? ⟨n8, 0, none⟩ = some (.string p.name) := PP.out.b8.cell (i := 0) rfl
        have fe := PP.out.b8.fr 0
        have hcat : ¬ 9223372036854775807 < p.name.size + 1 := by have := SP.out.name; omega
        go_wp2_with fail
        go_meet
        case rel =>
          exact ⟨rfl, rfl, PP.out.field { p with name := p.name ++ ⟨#[120]⟩ } 0 (.string (p.name ++ ⟨#[120]⟩)) rfl ⟨(app_ok SP.out.name), PS.out.uid, PS.out.prio, PS.out.req, PS.out.topo, PS.out.skew, PS.out.node, PS.out.term⟩ (fun _ h => ⟨h.r1, h.r2, h.r3, h.r4, h.r5, h.r6⟩) (fun e => by have h2 : (p.name ++ (⟨#[120]⟩ : ByteArray)).size = p.name.size := congrArg (fun y : Pd => y.name.size) e; rw [ByteArray.size_append] at h2; have h1 : (⟨#[120]⟩ : ByteArray).size = 1 := rfl; omega)⟩
    · as_aux_lemma =>
        have ce : w2.cell? ⟨n8, 1, none⟩ = some (.int .i64 p.uid) := PP.out.b8.cell (i := 1) rfl
        have fe := PP.out.b8.fr 1
        go_wp2_with fail
        go_meet
        case rel =>
          exact ⟨rfl, rfl, PP.out.field { p with uid := wrap64 (p.uid + 1) } 1 (.int .i64 (wrap64 (p.uid + 1))) rfl ⟨PS.out.name, (wrap_in _), PS.out.prio, PS.out.req, PS.out.topo, PS.out.skew, PS.out.node, PS.out.term⟩ (fun _ h => ⟨h.r1, h.r2, h.r3, h.r4, h.r5, h.r6⟩) (fun e => by have := congrArg (fun y : Pd => y.uid) e; exact wrap_ne PS.out.uid this)⟩
    · as_aux_lemma =>
        have ce : w2.cell? ⟨n8, 2, none⟩ = some (.int .i64 p.prio) := PP.out.b8.cell (i := 2) rfl
        have fe := PP.out.b8.fr 2
        go_wp2_with fail
        go_meet
        case rel =>
          exact ⟨rfl, rfl, PP.out.field { p with prio := wrap64 (p.prio + 1) } 2 (.int .i64 (wrap64 (p.prio + 1))) rfl ⟨PS.out.name, PS.out.uid, (wrap_in _), PS.out.req, PS.out.topo, PS.out.skew, PS.out.node, PS.out.term⟩ (fun _ h => ⟨h.r1, h.r2, h.r3, h.r4, h.r5, h.r6⟩) (fun e => by have := congrArg (fun y : Pd => y.prio) e; exact wrap_ne PS.out.prio this)⟩
    · as_aux_lemma =>
        have ce : w2.cell? ⟨n8, 4, none⟩ = some (.int .i64 p.req.b) := PP.out.b8.cell (i := 4) rfl
        have fe := PP.out.b8.fr 4
        go_wp2_with fail
        go_meet
        case rel =>
          exact ⟨rfl, rfl, PP.out.field { p with req := ⟨p.req.a, wrap64 (p.req.b + 1), p.req.c⟩ } 4 (.int .i64 (wrap64 (p.req.b + 1))) rfl ⟨PS.out.name, PS.out.uid, PS.out.prio, ⟨PS.out.req.1, wrap_in _, PS.out.req.2.2⟩, PS.out.topo, PS.out.skew, PS.out.node, PS.out.term⟩ (fun _ h => ⟨h.r1, h.r2, h.r3, h.r4, h.r5, h.r6⟩) (fun e => by have := congrArg (fun y : Pd => y.req.b) e; exact wrap_ne PS.out.req.2.1 this)⟩
    · as_aux_lemma =>
        have ce : w2.cell? ⟨n8, 6, none⟩ = some (.slice Q.a1 p.ports.length Q.c1) := PP.out.b8.cell (i := 6) rfl
        have fe := PP.out.b8.fr 6
        obtain ⟨CL, oL, kL⟩ := PP.out.own.r1
        have OL := Lib.hid oL
        have KL := Lib.hid kL
        clear oL kL
        have HB : Hid ((p.ports.length + 1) * 8 ≤ 140737488355328) := by show _ ≤ _; have := SP.out.ports; omega
        have HM : Hid (p.ports.length + 1 ≤ maxLen) := by show _ ≤ _; have := HB.out; unfold maxLen; omega
        obtain ⟨W3, hW3⟩ : ∃ W, w2.alloc (.cells #[.int .i64 9] 3) = W := ⟨_, rfl⟩
        have E3 : Hid (Ext w2 W3) := by rw [← hW3]; exact (Ext.refl _).alloc _
        have B3 : Hid (Flat W3 1 (some ⟨w2.heap.size, 0, none⟩) 1 [.int .i64 9]) := by rw [← hW3]; exact flat_new w2 3 1 1 #[.int .i64 9] rfl
        go_wp2_with (first
          | (at_builtin
             refine wpList_append_flat _ rfl (.tmp 54) (.tmp 55) 64 rfl w1.heap.size 3 j0 _ 1 8 Tryz.underlying64 hj0 jz0 jz1 jz2 rfl (by decide) _ p.ports.length CL rfl (own_ext OL.out E3.out) (some ⟨w2.heap.size, 0, none⟩) 1 1 _ rfl B3.out (by simp [Value.oneCell']) HM.out HB.out (PP.out.more E3.out).ext.size ?_
             intro A4 c4 w4 o4 g4
             have O4 := Lib.hid o4
             have G4 := Lib.hid g4
             have b4 := wb_grown (PP.out.more E3.out).b8 (own_ext OL.out E3.out) g4 (by decide)
             have cf := b4.cell (i := 6) rfl
             have cg := b4.fr 6
             clear o4 g4 b4))
        go_meet
        case rel =>
          exact ⟨rfl, rfl, (PP.out.more E3.out).app1 PS.out (own_ext OL.out E3.out) (KL.out.ext RInt.keeps (Own.ext E3.out)) G4.out O4.out rfl (x := 9) (fun _ => ⟨rfl, by unfold inI; omega⟩)⟩
    · as_aux_lemma =>
        have ce : w2.cell? ⟨n8, 7, none⟩ = some (.slice Q.a2 p.labels.length Q.c2) := PP.out.b8.cell (i := 7) rfl
        have fe := PP.out.b8.fr 7
        obtain ⟨CL, oL, kL⟩ := PP.out.own.r2
        have OL := Lib.hid oL
        have KL := Lib.hid kL
        clear oL kL
        have HB : Hid ((p.labels.length + 1) * 32 ≤ 140737488355328) := by show _ ≤ _; have := SP.out.labels.1; omega
        have HM : Hid (p.labels.length + 1 ≤ maxLen) := by show _ ≤ _; have := HB.out; unfold maxLen; omega
        obtain ⟨W3, hW3⟩ : ∃ W, w2.alloc (.cells #[.string ⟨#[122, 122]⟩, .string ⟨#[122]⟩] 37) = W := ⟨_, rfl⟩
        have E3 : Hid (Ext w2 W3) := by rw [← hW3]; exact (Ext.refl _).alloc _
        have B3 : Hid (Flat W3 2 (some ⟨w2.heap.size, 0, none⟩) 1 [.string ⟨#[122, 122]⟩, .string ⟨#[122]⟩]) := by rw [← hW3]; exact flat_new w2 37 2 1 #[.string ⟨#[122, 122]⟩, .string ⟨#[122]⟩] rfl
        go_wp2_with (first
          | (at_builtin
             refine wpList_append_flat _ rfl (.tmp 61) (.tmp 63) 22 rfl w1.heap.size 37 k0 _ 2 32 Tryz.underlying22 hk0 kz0 kz1 kz2 rfl (by decide) _ p.labels.length CL rfl (own_ext OL.out E3.out) (some ⟨w2.heap.size, 0, none⟩) 1 1 _ rfl B3.out (by simp [Value.oneCell']) HM.out HB.out (PP.out.more E3.out).ext.size ?_
             intro A4 c4 w4 o4 g4
             have O4 := Lib.hid o4
             have G4 := Lib.hid g4
             have b4 := wb_grown (PP.out.more E3.out).b8 (own_ext OL.out E3.out) g4 (by decide)
             have cf := b4.cell (i := 7) rfl
             have cg := b4.fr 7
             clear o4 g4 b4))
        go_meet
        case rel =>
          exact ⟨rfl, rfl, (PP.out.more E3.out).app2 PS.out (own_ext OL.out E3.out) (KL.out.ext RPair.keeps (Own.ext E3.out)) G4.out O4.out rfl (x := ⟨⟨#[122, 122]⟩, ⟨#[122]⟩⟩) (fun _ => ⟨rfl, by show 2 ≤ maxLen; unfold maxLen; omega, by show 1 ≤ maxLen; unfold maxLen; omega⟩)⟩
    · as_aux_lemma =>
        have ce : w2.cell? ⟨n8, 8, none⟩ = some (.slice Q.a3 p.sel.length Q.c3) := PP.out.b8.cell (i := 8) rfl
        have fe := PP.out.b8.fr 8
        obtain ⟨CL, oL, kL⟩ := PP.out.own.r3
        have OL := Lib.hid oL
        have KL := Lib.hid kL
        clear oL kL
        have HB : Hid ((p.sel.length + 1) * 48 ≤ 140737488355328) := by show _ ≤ _; have := SP.out.sel.1; omega
        have HM : Hid (p.sel.length + 1 ≤ maxLen) := by show _ ≤ _; have := HB.out; unfold maxLen; omega
        obtain ⟨W3, hW3⟩ : ∃ W, w2.alloc (.cells #[.string ⟨#[122]⟩, .int .i64 3, .slice none 0 0] 41) = W := ⟨_, rfl⟩
        have E3 : Hid (Ext w2 W3) := by rw [← hW3]; exact (Ext.refl _).alloc _
        have B3 : Hid (Flat W3 3 (some ⟨w2.heap.size, 0, none⟩) 1 [.string ⟨#[122]⟩, .int .i64 3, .slice none 0 0]) := by rw [← hW3]; exact flat_new w2 41 3 1 #[.string ⟨#[122]⟩, .int .i64 3, .slice none 0 0] rfl
        go_wp2_with (first
          | (at_builtin
             refine wpList_append_flat _ rfl (.tmp 69) (.tmp 71) 23 rfl w1.heap.size 41 l0 _ 3 48 Tryz.underlying23 hl0 lz0 lz1 lz2 rfl (by decide) _ p.sel.length CL rfl (own_ext OL.out E3.out) (some ⟨w2.heap.size, 0, none⟩) 1 1 _ rfl B3.out (by simp [Value.oneCell']) HM.out HB.out (PP.out.more E3.out).ext.size ?_
             intro A4 c4 w4 o4 g4
             have O4 := Lib.hid o4
             have G4 := Lib.hid g4
             have b4 := wb_grown (PP.out.more E3.out).b8 (own_ext OL.out E3.out) g4 (by decide)
             have cf := b4.cell (i := 8) rfl
             have cg := b4.fr 8
             clear o4 g4 b4))
        go_meet
        case rel =>
          exact ⟨rfl, rfl, (PP.out.more E3.out).app3 PS.out (own_ext OL.out E3.out) (KL.out.ext RTermT.keeps (Own.ext E3.out)) G4.out O4.out rfl (x := ⟨⟨#[122]⟩, 3, []⟩) (fun _ => ⟨none, 0, rfl, by show 1 ≤ maxLen; unfold maxLen; omega, (show inI (3 : Int) by unfold inI; omega), Nat.le_refl _, Nat.zero_le _, Sl.nil⟩)⟩
    · as_aux_lemma =>
        have ce : w2.cell? ⟨n8, 9, none⟩ = some (.slice Q.a4 p.tols.length Q.c4) := PP.out.b8.cell (i := 9) rfl
        have fe := PP.out.b8.fr 9
        obtain ⟨CL, oL, kL⟩ := PP.out.own.r4
        have OL := Lib.hid oL
        have KL := Lib.hid kL
        clear oL kL
        have HB : Hid ((p.tols.length + 1) * 40 ≤ 140737488355328) := by show _ ≤ _; have := SP.out.tols; omega
        have HM : Hid (p.tols.length + 1 ≤ maxLen) := by show _ ≤ _; have := HB.out; unfold maxLen; omega
        obtain ⟨W3, hW3⟩ : ∃ W, w2.alloc (.cells #[.string ⟨#[]⟩, .string ⟨#[]⟩, .bool true] 52) = W := ⟨_, rfl⟩
        have E3 : Hid (Ext w2 W3) := by rw [← hW3]; exact (Ext.refl _).alloc _
        have B3 : Hid (Flat W3 3 (some ⟨w2.heap.size, 0, none⟩) 1 [.string ⟨#[]⟩, .string ⟨#[]⟩, .bool true]) := by rw [← hW3]; exact flat_new w2 52 3 1 #[.string ⟨#[]⟩, .string ⟨#[]⟩, .bool true] rfl
        go_wp2_with (first
          | (at_builtin
             refine wpList_append_flat _ rfl (.tmp 77) (.tmp 79) 46 rfl w1.heap.size 52 t0 _ 3 40 Tryz.underlying46 ht0 tz0 tz1 tz2 rfl (by decide) _ p.tols.length CL rfl (own_ext OL.out E3.out) (some ⟨w2.heap.size, 0, none⟩) 1 1 _ rfl B3.out (by simp [Value.oneCell']) HM.out HB.out (PP.out.more E3.out).ext.size ?_
             intro A4 c4 w4 o4 g4
             have O4 := Lib.hid o4
             have G4 := Lib.hid g4
             have b4 := wb_grown (PP.out.more E3.out).b8 (own_ext OL.out E3.out) g4 (by decide)
             have cf := b4.cell (i := 9) rfl
             have cg := b4.fr 9
             clear o4 g4 b4))
        go_meet
        case rel =>
          exact ⟨rfl, rfl, (PP.out.more E3.out).app4 PS.out (own_ext OL.out E3.out) (KL.out.ext RTol.keeps (Own.ext E3.out)) G4.out O4.out rfl (x := ⟨⟨#[]⟩, ⟨#[]⟩, true⟩) (fun _ => ⟨rfl, Nat.zero_le _, Nat.zero_le _⟩)⟩
    · as_aux_lemma =>
        have ce : w2.cell? ⟨n8, 10, none⟩ = some (.string p.topo) := PP.out.b8.cell (i := 10) rfl
        have fe := PP.out.b8.fr 10
        have hcat : ¬ 9223372036854775807 < p.topo.size + 1 := by have := SP.out.topo; omega
        go_wp2_with fail
        go_meet
        case rel =>
          exact ⟨rfl, rfl, PP.out.field { p with topo := p.topo ++ ⟨#[116]⟩ } 10 (.string (p.topo ++ ⟨#[116]⟩)) rfl ⟨PS.out.name, PS.out.uid, PS.out.prio, PS.out.req, (app_ok SP.out.topo), PS.out.skew, PS.out.node, PS.out.term⟩ (fun _ h => ⟨h.r1, h.r2, h.r3, h.r4, h.r5, h.r6⟩) (fun e => by have h2 : (p.topo ++ (⟨#[116]⟩ : ByteArray)).size = p.topo.size := congrArg (fun y : Pd => y.topo.size) e; rw [ByteArray.size_append] at h2; have h1 : (⟨#[116]⟩ : ByteArray).size = 1 := rfl; omega)⟩
    · as_aux_lemma =>
        have ce : w2.cell? ⟨n8, 11, none⟩ = some (.slice Q.a5 p.anti.length Q.c5) := PP.out.b8.cell (i := 11) rfl
        have fe := PP.out.b8.fr 11
        have cs : w2.cell? ⟨n8, 12, none⟩ = some (.int .i64 p.skew) := PP.out.b8.cell (i := 12) rfl
        have fs := PP.out.b8.fr 12
        obtain ⟨CL, oL, kL⟩ := PP.out.own.r5
        have OL := Lib.hid oL
        have KL := Lib.hid kL
        clear oL kL
        have HB : Hid ((p.anti.length + 1) * 48 ≤ 140737488355328) := by show _ ≤ _; have := SP.out.anti.1; omega
        have HM : Hid (p.anti.length + 1 ≤ maxLen) := by show _ ≤ _; have := HB.out; unfold maxLen; omega
        obtain ⟨W3, hW3⟩ : ∃ W, w2.drew.alloc (.cells #[.string ⟨#[122]⟩, .int .i64 0, .slice none 0 0] 41) = W := ⟨_, rfl⟩
        have E3 : Hid (Ext w2 W3) := by rw [← hW3]; exact (Ext.refl _).drew.alloc _
        have B3 : Hid (Flat W3 3 (some ⟨w2.heap.size, 0, none⟩) 1 [.string ⟨#[122]⟩, .int .i64 0, .slice none 0 0]) := by rw [← hW3]; exact flat_new w2.drew 41 3 1 #[.string ⟨#[122]⟩, .int .i64 0, .slice none 0 0] rfl
        go_wp2_with fail
        have kf : W3.cell? ⟨n8, 11, none⟩ = some (.slice Q.a5 p.anti.length Q.c5) := (PP.out.b8.ext E3.out).cell (i := 11) rfl
        have kh : W3.cell? ⟨n8, 12, none⟩ = some (.int .i64 p.skew) := (PP.out.b8.ext E3.out).cell (i := 12) rfl
        go_region_law (first
          | (with_reducible refine at_slot 94 ?_
             refine step_append_flat _ rfl (.tmp 91) (.tmp 93) 23 rfl w1.heap.size 41 l0 _ 3 48 Tryz.underlying23 hl0 lz0 lz1 lz2 rfl (by decide) _ p.anti.length CL rfl (own_ext OL.out E3.out) (some ⟨w2.heap.size, 0, none⟩) 1 1 _ rfl B3.out (by simp [Value.oneCell']) HM.out HB.out (PP.out.more E3.out).ext.size ?_
             intro A4 c4 w4 o4 g4
             have O4 := Lib.hid o4
             have G4 := Lib.hid g4
             have b4 := wb_grown (PP.out.more E3.out).b8 (own_ext OL.out E3.out) g4 (by decide)
             have cf : w4.cell? ⟨n8, 11, none⟩ = some (.slice Q.a5 p.anti.length Q.c5) := b4.cell (i := 11) rfl
             have cg := b4.fr 11
             have ch : w4.cell? ⟨n8, 12, none⟩ = some (.int .i64 p.skew) := b4.cell (i := 12) rfl
             have ci := b4.fr 12
             clear o4 g4 b4))
        all_goals (
          go_wp2_with fail
          go_meet
          case rel =>
            refine ⟨rfl, rfl, ?_⟩
            have h := (PP.out.more E3.out).app59 PS.out (wrap_in (p.skew + 1)) (own_ext OL.out E3.out) (KL.out.ext RTermT.keeps (Own.ext E3.out)) G4.out O4.out rfl (x := ⟨⟨#[122]⟩, 0, []⟩) (fun _ => ⟨none, 0, rfl, by show 1 ≤ maxLen; unfold maxLen; omega, (show inI (0 : Int) by unfold inI; omega), Nat.le_refl _, Nat.zero_le _, Sl.nil⟩)
            first | exact h | (rw [← IntWalk.i64_left] at h; exact h))
    · as_aux_lemma =>
        have ce : w2.cell? ⟨n8, 13, none⟩ = some (.slice Q.a6 p.even.length Q.c6) := PP.out.b8.cell (i := 13) rfl
        have fe := PP.out.b8.fr 13
        obtain ⟨CL, oL, kL⟩ := PP.out.own.r6
        have OL := Lib.hid oL
        have KL := Lib.hid kL
        clear oL kL
        have HB : Hid ((p.even.length + 1) * 48 ≤ 140737488355328) := by show _ ≤ _; have := SP.out.even.1; omega
        have HM : Hid (p.even.length + 1 ≤ maxLen) := by show _ ≤ _; have := HB.out; unfold maxLen; omega
        obtain ⟨W3, hW3⟩ : ∃ W, w2.alloc (.cells #[.string ⟨#[122]⟩, .int .i64 0, .slice none 0 0] 41) = W := ⟨_, rfl⟩
        have E3 : Hid (Ext w2 W3) := by rw [← hW3]; exact (Ext.refl _).alloc _
        have B3 : Hid (Flat W3 3 (some ⟨w2.heap.size, 0, none⟩) 1 [.string ⟨#[122]⟩, .int .i64 0, .slice none 0 0]) := by rw [← hW3]; exact flat_new w2 41 3 1 #[.string ⟨#[122]⟩, .int .i64 0, .slice none 0 0] rfl
        go_wp2_with (first
          | (at_builtin
             refine wpList_append_flat _ rfl (.tmp 103) (.tmp 105) 23 rfl w1.heap.size 41 l0 _ 3 48 Tryz.underlying23 hl0 lz0 lz1 lz2 rfl (by decide) _ p.even.length CL rfl (own_ext OL.out E3.out) (some ⟨w2.heap.size, 0, none⟩) 1 1 _ rfl B3.out (by simp [Value.oneCell']) HM.out HB.out (PP.out.more E3.out).ext.size ?_
             intro A4 c4 w4 o4 g4
             have O4 := Lib.hid o4
             have G4 := Lib.hid g4
             have b4 := wb_grown (PP.out.more E3.out).b8 (own_ext OL.out E3.out) g4 (by decide)
             have cf := b4.cell (i := 13) rfl
             have cg := b4.fr 13
             clear o4 g4 b4))
        go_meet
        case rel =>
          exact ⟨rfl, rfl, (PP.out.more E3.out).app6 PS.out (own_ext OL.out E3.out) (KL.out.ext RTermT.keeps (Own.ext E3.out)) G4.out O4.out rfl (x := ⟨⟨#[122]⟩, 0, []⟩) (fun _ => ⟨none, 0, rfl, by show 1 ≤ maxLen; unfold maxLen; omega, (show inI (0 : Int) by unfold inI; omega), Nat.le_refl _, Nat.zero_le _, Sl.nil⟩)⟩
    · as_aux_lemma =>
        have ce : w2.cell? ⟨n8, 14, none⟩ = some (.string p.node) := PP.out.b8.cell (i := 14) rfl
        have fe := PP.out.b8.fr 14
        have hcat : ¬ 9223372036854775807 < p.node.size + 1 := by have := SP.out.node; omega
        go_wp2_with fail
        go_meet
        case rel =>
          exact ⟨rfl, rfl, PP.out.field { p with node := p.node ++ ⟨#[110]⟩ } 14 (.string (p.node ++ ⟨#[110]⟩)) rfl ⟨PS.out.name, PS.out.uid, PS.out.prio, PS.out.req, PS.out.topo, PS.out.skew, (app_ok SP.out.node), PS.out.term⟩ (fun _ h => ⟨h.r1, h.r2, h.r3, h.r4, h.r5, h.r6⟩) (fun e => by have h2 : (p.node ++ (⟨#[110]⟩ : ByteArray)).size = p.node.size := congrArg (fun y : Pd => y.node.size) e; rw [ByteArray.size_append] at h2; have h1 : (⟨#[110]⟩ : ByteArray).size = 1 := rfl; omega)⟩
  case rest => as_aux_lemma =>
    obtain ⟨rfl, rfl, fin⟩ := hcut
    have c3 : wc.cell? ⟨n9, 3, none⟩ = some (.int .i64 n.cap.c) := by obtain ⟨_, _, _, _, _, h, _⟩ := fin; exact h.cell (i := 3) rfl
    have f3 : wc.frozen? ⟨n9, 3, none⟩ = false := by obtain ⟨_, _, _, _, _, h, _⟩ := fin; exact h.fr 3
    obtain ⟨kk, hkk⟩ : ∃ k, IntKind.i64.wrap (n.cap.c + 1) = k := ⟨_, rfl⟩
    have hk1 : inI kk := by rw [← hkk, IntWalk.i64_left]; exact wrap_in _
    have hk2 : kk ≠ n.cap.c := fun e => by rw [← hkk, IntWalk.i64_left] at e; exact wrap_ne NS.out.2.2.2 e
    obtain ⟨x, X, m, hx, hm, rfl, e, b8, b9, ox, om⟩ := fin.behind NS.out.2 NS.out.1 kk hk1 hk2
    obtain ⟨W9, hW9⟩ : ∃ W, wc.setCell ⟨n9, 3, none⟩ (.int .i64 kk) = W := ⟨_, rfl⟩
    rw [hW9] at e b8 b9 ox om
    have E9 : Hid (∀ wx, Ext W9 wx → Ext W2 wx) := fun wx ex => (E0.out.trans e).trans ex
    have HA : Hid (∀ wx, Ext W9 wx → WB wx bp 66 #[.string p.name, .int .i64 p.uid, .int .i64 p.prio, .int .i64 p.req.a, .int .i64 p.req.b, .int .i64 p.req.c, .slice qp.a1 p.ports.length qp.c1, .slice qp.a2 p.labels.length qp.c2, .slice qp.a3 p.sel.length qp.c3, .slice qp.a4 p.tols.length qp.c4, .string p.topo, .slice qp.a5 p.anti.length qp.c5, .int .i64 p.skew, .slice qp.a6 p.even.length qp.c6, .string p.node, .int .i64 p.term]) := fun wx ex => HBP.out _ (E9.out _ ex)
    have HB : Hid (∀ wx, Ext W9 wx → WB wx bn 68 #[.string n.name, .int .i64 n.cap.a, .int .i64 n.cap.b, .int .i64 n.cap.c, .slice qn.a1 n.labels.length qn.c1, .slice qn.a2 n.taints.length qn.c2]) := fun wx ex => HBN.out _ (E9.out _ ex)
    have HC : Hid (∀ wx, Ext W9 wx → WB wx n8 66 #[.string x.name, .int .i64 x.uid, .int .i64 x.prio, .int .i64 x.req.a, .int .i64 x.req.b, .int .i64 x.req.c, .slice X.a1 x.ports.length X.c1, .slice X.a2 x.labels.length X.c2, .slice X.a3 x.sel.length X.c3, .slice X.a4 x.tols.length X.c4, .string x.topo, .slice X.a5 x.anti.length X.c5, .int .i64 x.skew, .slice X.a6 x.even.length X.c6, .string x.node, .int .i64 x.term]) := fun wx ex => b8.ext ex
    have HD : Hid (∀ wx, Ext W9 wx → WB wx n9 68 #[.string n.name, .int .i64 n.cap.a, .int .i64 n.cap.b, .int .i64 kk, .slice N.a1 n.labels.length N.c1, .slice N.a2 n.taints.length N.c2]) := fun wx ex => b9.ext ex
    have C1 : Hid (∀ wx, Ext W9 wx → Calls Tryz.prog 47 #[.agg #[.string p.name, .int .i64 p.uid, .int .i64 p.prio, .int .i64 p.req.a, .int .i64 p.req.b, .int .i64 p.req.c, .slice qp.a1 p.ports.length qp.c1, .slice qp.a2 p.labels.length qp.c2, .slice qp.a3 p.sel.length qp.c3, .slice qp.a4 p.tols.length qp.c4, .string p.topo, .slice qp.a5 p.anti.length qp.c5, .int .i64 p.skew, .slice qp.a6 p.even.length qp.c6, .string p.node, .int .i64 p.term], .agg #[.string x.name, .int .i64 x.uid, .int .i64 x.prio, .int .i64 x.req.a, .int .i64 x.req.b, .int .i64 x.req.c, .slice X.a1 x.ports.length X.c1, .slice X.a2 x.labels.length X.c2, .slice X.a3 x.sel.length X.c3, .slice X.a4 x.tols.length X.c4, .string x.topo, .slice X.a5 x.anti.length X.c5, .int .i64 x.skew, .slice X.a6 x.even.length X.c6, .string x.node, .int .i64 x.term]] wx fun e w' => e = .returned (.bool false) ∧ Ext wx w') := fun wx ex => (eqPod_any p x qp X wx (OP.out _ (E9.out _ ex)) (ox.ext ex)).mono fun _ _ h => eq_no h (Ne.symm hx)
    have C2 : Hid (∀ wx, Ext W9 wx → Calls Tryz.prog 47 #[.agg #[.string x.name, .int .i64 x.uid, .int .i64 x.prio, .int .i64 x.req.a, .int .i64 x.req.b, .int .i64 x.req.c, .slice X.a1 x.ports.length X.c1, .slice X.a2 x.labels.length X.c2, .slice X.a3 x.sel.length X.c3, .slice X.a4 x.tols.length X.c4, .string x.topo, .slice X.a5 x.anti.length X.c5, .int .i64 x.skew, .slice X.a6 x.even.length X.c6, .string x.node, .int .i64 x.term], .agg #[.string p.name, .int .i64 p.uid, .int .i64 p.prio, .int .i64 p.req.a, .int .i64 p.req.b, .int .i64 p.req.c, .slice qp.a1 p.ports.length qp.c1, .slice qp.a2 p.labels.length qp.c2, .slice qp.a3 p.sel.length qp.c3, .slice qp.a4 p.tols.length qp.c4, .string p.topo, .slice qp.a5 p.anti.length qp.c5, .int .i64 p.skew, .slice qp.a6 p.even.length qp.c6, .string p.node, .int .i64 p.term]] wx fun e w' => e = .returned (.bool false) ∧ Ext wx w') := fun wx ex => (eqPod_any x p X qp wx (ox.ext ex) (OP.out _ (E9.out _ ex))).mono fun _ _ h => eq_no h hx
    have C3 : Hid (∀ wx, Ext W9 wx → Calls Tryz.prog 47 #[.agg #[.string x.name, .int .i64 x.uid, .int .i64 x.prio, .int .i64 x.req.a, .int .i64 x.req.b, .int .i64 x.req.c, .slice X.a1 x.ports.length X.c1, .slice X.a2 x.labels.length X.c2, .slice X.a3 x.sel.length X.c3, .slice X.a4 x.tols.length X.c4, .string x.topo, .slice X.a5 x.anti.length X.c5, .int .i64 x.skew, .slice X.a6 x.even.length X.c6, .string x.node, .int .i64 x.term], .agg #[.string x.name, .int .i64 x.uid, .int .i64 x.prio, .int .i64 x.req.a, .int .i64 x.req.b, .int .i64 x.req.c, .slice X.a1 x.ports.length X.c1, .slice X.a2 x.labels.length X.c2, .slice X.a3 x.sel.length X.c3, .slice X.a4 x.tols.length X.c4, .string x.topo, .slice X.a5 x.anti.length X.c5, .int .i64 x.skew, .slice X.a6 x.even.length X.c6, .string x.node, .int .i64 x.term]] wx fun e w' => e = .returned (.bool true) ∧ Ext wx w') := fun wx ex => (eqPod_any x x X X wx (ox.ext ex) (ox.ext ex)).mono fun _ _ h => eq_yes h rfl
    have C4 : Hid (∀ wx, Ext W9 wx → Calls Tryz.prog 48 #[.agg #[.string n.name, .int .i64 n.cap.a, .int .i64 n.cap.b, .int .i64 n.cap.c, .slice qn.a1 n.labels.length qn.c1, .slice qn.a2 n.taints.length qn.c2], .agg #[.string n.name, .int .i64 n.cap.a, .int .i64 n.cap.b, .int .i64 kk, .slice N.a1 n.labels.length N.c1, .slice N.a2 n.taints.length N.c2]] wx fun e w' => e = .returned (.bool false) ∧ Ext wx w') := fun wx ex => (eqNode_any n _ qn N wx (ON.out _ (E9.out _ ex)) (om.ext ex)).mono fun _ _ h => eq_no h (Ne.symm hm)
    have C5 : Hid (∀ wx, Ext W9 wx → Calls Tryz.prog 48 #[.agg #[.string n.name, .int .i64 n.cap.a, .int .i64 n.cap.b, .int .i64 kk, .slice N.a1 n.labels.length N.c1, .slice N.a2 n.taints.length N.c2], .agg #[.string n.name, .int .i64 n.cap.a, .int .i64 n.cap.b, .int .i64 kk, .slice N.a1 n.labels.length N.c1, .slice N.a2 n.taints.length N.c2]] wx fun e w' => e = .returned (.bool true) ∧ Ext wx w') := fun wx ex => (eqNode_any _ _ N N wx (om.ext ex) (om.ext ex)).mono fun _ _ h => eq_yes h rfl
    have E : Ext W9 W9 := Ext.refl _
    clear fin e b8 b9 ox om hx hm hk1 hk2 x1 x2 x3 hxx sx ii1 PP PS CP CN j0 hj0 jz0 jz1 jz2 k0 hk0 kz0 kz1 kz2 l0 hl0 lz0 lz1 lz2 t0 ht0 tz0 tz1 tz2
    have PP := HA.out _ E
    have a0 := PP.cell (i := 0) rfl
    have a1 := PP.cell (i := 1) rfl
    have a2 := PP.cell (i := 2) rfl
    have a3 := PP.cell (i := 3) rfl
    have a4 := PP.cell (i := 4) rfl
    have a5 := PP.cell (i := 5) rfl
    have a6 := PP.cell (i := 6) rfl
    have a7 := PP.cell (i := 7) rfl
    have a8 := PP.cell (i := 8) rfl
    have a9 := PP.cell (i := 9) rfl
    have a10 := PP.cell (i := 10) rfl
    have a11 := PP.cell (i := 11) rfl
    have a12 := PP.cell (i := 12) rfl
    have a13 := PP.cell (i := 13) rfl
    have a14 := PP.cell (i := 14) rfl
    have a15 := PP.cell (i := 15) rfl
    clear PP
    have PP := HC.out _ E
    have b0 := PP.cell (i := 0) rfl
    have b1 := PP.cell (i := 1) rfl
    have b2 := PP.cell (i := 2) rfl
    have b3 := PP.cell (i := 3) rfl
    have b4 := PP.cell (i := 4) rfl
    have b5 := PP.cell (i := 5) rfl
    have b6 := PP.cell (i := 6) rfl
    have b7 := PP.cell (i := 7) rfl
    have b8 := PP.cell (i := 8) rfl
    have b9 := PP.cell (i := 9) rfl
    have b10 := PP.cell (i := 10) rfl
    have b11 := PP.cell (i := 11) rfl
    have b12 := PP.cell (i := 12) rfl
    have b13 := PP.cell (i := 13) rfl
    have b14 := PP.cell (i := 14) rfl
    have b15 := PP.cell (i := 15) rfl
    clear PP
    go_wp2_with fail
    refine (C1.out _ E).mono ?_
    rintro e wa ⟨rfl, ea⟩
    replace E := E.trans ea
    clear ea a0 a1 a2 a3 a4 a5 a6 a7 a8 a9 a10 a11 a12 a13 a14 a15 b0 b1 b2 b3 b4 b5 b6 b7 b8 b9 b10 b11 b12 b13 b14 b15
    obtain ⟨V1, hV1⟩ : ∃ V, Value.agg #[.string p.name, .int .i64 p.uid, .int .i64 p.prio, .int .i64 p.req.a, .int .i64 p.req.b, .int .i64 p.req.c, .slice qp.a1 p.ports.length qp.c1, .slice qp.a2 p.labels.length qp.c2, .slice qp.a3 p.sel.length qp.c3, .slice qp.a4 p.tols.length qp.c4, .string p.topo, .slice qp.a5 p.anti.length qp.c5, .int .i64 p.skew, .slice qp.a6 p.even.length qp.c6, .string p.node, .int .i64 p.term] = V := ⟨_, rfl⟩
    rw [hV1]
    clear hV1
    obtain ⟨V2, hV2⟩ : ∃ V, Value.agg #[.string x.name, .int .i64 x.uid, .int .i64 x.prio, .int .i64 x.req.a, .int .i64 x.req.b, .int .i64 x.req.c, .slice X.a1 x.ports.length X.c1, .slice X.a2 x.labels.length X.c2, .slice X.a3 x.sel.length X.c3, .slice X.a4 x.tols.length X.c4, .string x.topo, .slice X.a5 x.anti.length X.c5, .int .i64 x.skew, .slice X.a6 x.even.length X.c6, .string x.node, .int .i64 x.term] = V := ⟨_, rfl⟩
    rw [hV2]
    clear hV2
    as_aux_lemma =>
      have PP := HA.out _ E
      have a0 := PP.cell (i := 0) rfl
      have a1 := PP.cell (i := 1) rfl
      have a2 := PP.cell (i := 2) rfl
      have a3 := PP.cell (i := 3) rfl
      have a4 := PP.cell (i := 4) rfl
      have a5 := PP.cell (i := 5) rfl
      have a6 := PP.cell (i := 6) rfl
      have a7 := PP.cell (i := 7) rfl
      have a8 := PP.cell (i := 8) rfl
      have a9 := PP.cell (i := 9) rfl
      have a10 := PP.cell (i := 10) rfl
      have a11 := PP.cell (i := 11) rfl
      have a12 := PP.cell (i := 12) rfl
      have a13 := PP.cell (i := 13) rfl
      have a14 := PP.cell (i := 14) rfl
      have a15 := PP.cell (i := 15) rfl
      clear PP
      have PP := HC.out _ E
      have b0 := PP.cell (i := 0) rfl
      have b1 := PP.cell (i := 1) rfl
      have b2 := PP.cell (i := 2) rfl
      have b3 := PP.cell (i := 3) rfl
      have b4 := PP.cell (i := 4) rfl
      have b5 := PP.cell (i := 5) rfl
      have b6 := PP.cell (i := 6) rfl
      have b7 := PP.cell (i := 7) rfl
      have b8 := PP.cell (i := 8) rfl
      have b9 := PP.cell (i := 9) rfl
      have b10 := PP.cell (i := 10) rfl
      have b11 := PP.cell (i := 11) rfl
      have b12 := PP.cell (i := 12) rfl
      have b13 := PP.cell (i := 13) rfl
      have b14 := PP.cell (i := 14) rfl
      have b15 := PP.cell (i := 15) rfl
      clear PP
      go_wp2_with fail
      refine (C2.out _ E).mono ?_
      rintro e wb ⟨rfl, ea⟩
      replace E := E.trans ea
      clear ea a0 a1 a2 a3 a4 a5 a6 a7 a8 a9 a10 a11 a12 a13 a14 a15 b0 b1 b2 b3 b4 b5 b6 b7 b8 b9 b10 b11 b12 b13 b14 b15
      obtain ⟨V3, hV3⟩ : ∃ V, Value.agg #[.string p.name, .int .i64 p.uid, .int .i64 p.prio, .int .i64 p.req.a, .int .i64 p.req.b, .int .i64 p.req.c, .slice qp.a1 p.ports.length qp.c1, .slice qp.a2 p.labels.length qp.c2, .slice qp.a3 p.sel.length qp.c3, .slice qp.a4 p.tols.length qp.c4, .string p.topo, .slice qp.a5 p.anti.length qp.c5, .int .i64 p.skew, .slice qp.a6 p.even.length qp.c6, .string p.node, .int .i64 p.term] = V := ⟨_, rfl⟩
      rw [hV3]
      clear hV3
      obtain ⟨V4, hV4⟩ : ∃ V, Value.agg #[.string x.name, .int .i64 x.uid, .int .i64 x.prio, .int .i64 x.req.a, .int .i64 x.req.b, .int .i64 x.req.c, .slice X.a1 x.ports.length X.c1, .slice X.a2 x.labels.length X.c2, .slice X.a3 x.sel.length X.c3, .slice X.a4 x.tols.length X.c4, .string x.topo, .slice X.a5 x.anti.length X.c5, .int .i64 x.skew, .slice X.a6 x.even.length X.c6, .string x.node, .int .i64 x.term] = V := ⟨_, rfl⟩
      rw [hV4]
      clear hV4
      as_aux_lemma =>
        have PP := HC.out _ E
        have b0 := PP.cell (i := 0) rfl
        have b1 := PP.cell (i := 1) rfl
        have b2 := PP.cell (i := 2) rfl
        have b3 := PP.cell (i := 3) rfl
        have b4 := PP.cell (i := 4) rfl
        have b5 := PP.cell (i := 5) rfl
        have b6 := PP.cell (i := 6) rfl
        have b7 := PP.cell (i := 7) rfl
        have b8 := PP.cell (i := 8) rfl
        have b9 := PP.cell (i := 9) rfl
        have b10 := PP.cell (i := 10) rfl
        have b11 := PP.cell (i := 11) rfl
        have b12 := PP.cell (i := 12) rfl
        have b13 := PP.cell (i := 13) rfl
        have b14 := PP.cell (i := 14) rfl
        have b15 := PP.cell (i := 15) rfl
        clear PP
        go_wp2_with fail
        refine (C3.out _ E).mono ?_
        rintro e wd ⟨rfl, ea⟩
        replace E := E.trans ea
        clear ea b0 b1 b2 b3 b4 b5 b6 b7 b8 b9 b10 b11 b12 b13 b14 b15
        obtain ⟨V5, hV5⟩ : ∃ V, Value.agg #[.string x.name, .int .i64 x.uid, .int .i64 x.prio, .int .i64 x.req.a, .int .i64 x.req.b, .int .i64 x.req.c, .slice X.a1 x.ports.length X.c1, .slice X.a2 x.labels.length X.c2, .slice X.a3 x.sel.length X.c3, .slice X.a4 x.tols.length X.c4, .string x.topo, .slice X.a5 x.anti.length X.c5, .int .i64 x.skew, .slice X.a6 x.even.length X.c6, .string x.node, .int .i64 x.term] = V := ⟨_, rfl⟩
        rw [hV5]
        clear hV5
        as_aux_lemma =>
          have PP := HB.out _ E
          have a0 := PP.cell (i := 0) rfl
          have a1 := PP.cell (i := 1) rfl
          have a2 := PP.cell (i := 2) rfl
          have a3 := PP.cell (i := 3) rfl
          have a4 := PP.cell (i := 4) rfl
          have a5 := PP.cell (i := 5) rfl
          clear PP
          have PP := HD.out _ E
          have b0 := PP.cell (i := 0) rfl
          have b1 := PP.cell (i := 1) rfl
          have b2 := PP.cell (i := 2) rfl
          have b3 := PP.cell (i := 3) rfl
          have b4 := PP.cell (i := 4) rfl
          have b5 := PP.cell (i := 5) rfl
          clear PP
          go_wp2_with fail
          refine (C4.out _ E).mono ?_
          rintro e we ⟨rfl, ea⟩
          replace E := E.trans ea
          clear ea a0 a1 a2 a3 a4 a5 b0 b1 b2 b3 b4 b5
          obtain ⟨V6, hV6⟩ : ∃ V, Value.agg #[.string n.name, .int .i64 n.cap.a, .int .i64 n.cap.b, .int .i64 n.cap.c, .slice qn.a1 n.labels.length qn.c1, .slice qn.a2 n.taints.length qn.c2] = V := ⟨_, rfl⟩
          rw [hV6]
          clear hV6
          obtain ⟨V7, hV7⟩ : ∃ V, Value.agg #[.string n.name, .int .i64 n.cap.a, .int .i64 n.cap.b, .int .i64 kk, .slice N.a1 n.labels.length N.c1, .slice N.a2 n.taints.length N.c2] = V := ⟨_, rfl⟩
          rw [hV7]
          clear hV7
          as_aux_lemma =>
            have PP := HD.out _ E
            have b0 := PP.cell (i := 0) rfl
            have b1 := PP.cell (i := 1) rfl
            have b2 := PP.cell (i := 2) rfl
            have b3 := PP.cell (i := 3) rfl
            have b4 := PP.cell (i := 4) rfl
            have b5 := PP.cell (i := 5) rfl
            clear PP
            go_wp2_with fail
            refine (C5.out _ E).mono ?_
            rintro e wf ⟨rfl, ea⟩
            replace E := E.trans ea
            clear ea b0 b1 b2 b3 b4 b5
            obtain ⟨V8, hV8⟩ : ∃ V, Value.agg #[.string n.name, .int .i64 n.cap.a, .int .i64 n.cap.b, .int .i64 kk, .slice N.a1 n.labels.length N.c1, .slice N.a2 n.taints.length N.c2] = V := ⟨_, rfl⟩
            rw [hV8]
            clear hV8
            as_aux_lemma =>
              go_wp2_with fail
              go_ret
              exact ⟨rfl, HEX.out _ (E9.out _ E)⟩
end Go.Proofs.YthfafenigjldlaaGreat
