/-
  The walk of obj.CopyNode.
-/
import Derived.Test.YthfafenigjldlaaGreatCopy3
import Derived.Test.YthfafenigjldlaaGreatNode3
namespace Go.Proofs.YthfafenigjldlaaGreat
open Go.RowKit
set_option linter.unusedVariables false

structure NodeFits (p : Nd) : Prop where
  f1 : p.labels.length * 32 ≤ 140737488355328
  f2 : p.taints.length * 32 ≤ 140737488355328
structure NodeOwn (lo : Nat) (w : World) (p : Nd) (q : NA) : Prop where
  r1 : Rowz RPair 37 2 lo w q.a1 q.c1 p.labels
  r2 : Rowz RPair 53 2 lo w q.a2 q.c2 p.taints
theorem NodeOwn.ext {lo : Nat} {w w' : World} {p : Nd} {q : NA} (h : NodeOwn lo w p q) (e : Ext w w') : NodeOwn lo w' p q := ⟨h.r1.ext RPair.keeps e, h.r2.ext RPair.keeps e⟩
theorem NodeOwn.low {lo lo' : Nat} {w : World} {p : Nd} {q : NA} (hl : lo ≤ lo') (h : NodeOwn lo' w p q) : NodeOwn lo w p q := ⟨h.r1.low RPair.subs hl, h.r2.low RPair.subs hl⟩
theorem NodeOwn.far {lo m : Nat} {w : World} {p : Nd} {q : NA} (h : NodeOwn lo w p q) (hm : m < lo) (j : Nat) (u : Value) : NodeOwn lo (w.setCell ⟨m, j, none⟩ u) p q := ⟨h.r1.far hm j u, h.r2.far hm j u⟩
theorem NodeOwn.ok {lo : Nat} {w w0 : World} {p : Nd} {q r : NA} (h : NodeOwn lo w p q) (h0 : NodeOk w0 p r) : NodeOk (Own lo w) p q :=
  { name := h0.name, cap := h0.cap, labels := h.r1.sl.1, taints := h.r2.sl.1, n1 := h.r1.sl.2.1, m1 := h.r1.sl.2.2, n2 := h.r2.sl.2.1, m2 := h.r2.sl.2.2 }
def CNPost (p : Nd) (w : World) (e : Ending) (w' : World) : Prop := ∃ r : NA, e = .returned (.agg (nodeC p r).toArray) ∧ Ext w w' ∧ NodeOwn w.heap.size w' p r
theorem wbs2 {w : World} {g : Nat} {T : TypeId} {a0 a1 a2 a3 a4 a5 : Value} (h : WB w g T #[a0, a1, a2, a3, a4, a5]) (u v : Value) :
    WB ((w.setCell ⟨g, 4, none⟩ u).setCell ⟨g, 5, none⟩ v) g T #[a0, a1, a2, a3, u, v] := by
  have h1 := (h.set 4 u).set 5 v
  simpa using h1

set_option maxRecDepth 20000 in
set_option maxHeartbeats 8000000 in
theorem copyNode_any (p : Nd) (q : NA) (w : World) (h : NodeOk w p q) (hf : NodeFits p) : Calls Tryz.prog 46 #[.agg (nodeC p q).toArray] w (CNPost p w) := by
  have HF := Lib.hid hf
  clear hf
  obtain ⟨C1, kc1, fc1⟩ := h.labels.cells
  have OC1 := Lib.hid (kc1.oneCell RPair.one)
  have KC1 : Hid (∀ W, Cells RPair 2 W p.labels C1) := fun W => kc1.any fun _ _ _ _ h => h
  obtain ⟨C2, kc2, fc2⟩ := h.taints.cells
  have OC2 := Lib.hid (kc2.oneCell RPair.one)
  have KC2 : Hid (∀ W, Cells RPair 2 W p.taints C2) := fun W => kc2.any fun _ _ _ _ h => h
  obtain ⟨n1, hn1⟩ : ∃ n, w.heap.size = n := ⟨_, rfl⟩
  have B1 := WB.new w 68 #[.string p.name, .int .i64 p.cap.a, .int .i64 p.cap.b, .int .i64 p.cap.c, .slice q.a1 p.labels.length q.c1, .slice q.a2 p.taints.length q.c2]
  have X1 : Ext w (w.alloc (.cells #[.string p.name, .int .i64 p.cap.a, .int .i64 p.cap.b, .int .i64 p.cap.c, .slice q.a1 p.labels.length q.c1, .slice q.a2 p.taints.length q.c2] 68)) := (Ext.refl _).alloc _
  obtain ⟨W1, hW1⟩ : ∃ W, w.alloc (.cells #[.string p.name, .int .i64 p.cap.a, .int .i64 p.cap.b, .int .i64 p.cap.c, .slice q.a1 p.labels.length q.c1, .slice q.a2 p.taints.length q.c2] 68) = W := ⟨_, rfl⟩
  rw [hW1, hn1] at B1
  rw [hW1] at X1
  obtain ⟨n2, hn2⟩ : ∃ n, W1.heap.size = n := ⟨_, rfl⟩
  have B2 := WB.new W1 68 #[.string ⟨#[]⟩, .int .i64 0, .int .i64 0, .int .i64 0, .slice none 0 0, .slice none 0 0]
  have X2 : Ext W1 (W1.alloc (.cells #[.string ⟨#[]⟩, .int .i64 0, .int .i64 0, .int .i64 0, .slice none 0 0, .slice none 0 0] 68)) := (Ext.refl _).alloc _
  obtain ⟨W2, hW2⟩ : ∃ W, W1.alloc (.cells #[.string ⟨#[]⟩, .int .i64 0, .int .i64 0, .int .i64 0, .slice none 0 0, .slice none 0 0] 68) = W := ⟨_, rfl⟩
  rw [hW2, hn2] at B2
  rw [hW2] at X2
  obtain ⟨lo, hlo⟩ : ∃ n, W2.heap.size = n := ⟨_, rfl⟩
  have LO : Hid (∀ wx, Ext W2 wx → lo ≤ wx.heap.size) := fun wx e => by rw [← hlo]; exact e.size
  have LN : Hid (n1 < lo ∧ n2 < lo ∧ n1 ≠ n2 ∧ w.heap.size ≤ n1 ∧ w.heap.size ≤ n2 ∧ w.heap.size ≤ lo) := by
    have a1 := B1.lt
    have a2 := B2.lt
    have a3 := X2.size
    have a4 := X1.size
    have a5 : n1 < n2 := by rw [← hn2]; exact a1
    exact ⟨by omega, by omega, by omega, by omega, by omega, by omega⟩
  have XX : Hid (∀ wx, Ext W2 wx → Ext w wx) := fun wx e => X1.trans (X2.trans e)
  have FL1 : Hid (∀ wx, Ext W2 wx → Flat wx 2 q.a1 p.labels.length C1) := fun wx e => fc1.ext (XX.out _ e)
  have FL2 : Hid (∀ wx, Ext W2 wx → Flat wx 2 q.a2 p.taints.length C2) := fun wx e => fc2.ext (XX.out _ e)
  have HB1 : Hid (∀ wx, Ext W2 wx → WB wx n1 68 #[.string p.name, .int .i64 p.cap.a, .int .i64 p.cap.b, .int .i64 p.cap.c, .slice q.a1 p.labels.length q.c1, .slice q.a2 p.taints.length q.c2]) := fun wx e => B1.ext (X2.trans e)
  have HB2 : Hid (∀ wx, Ext W2 wx → WB wx n2 68 #[.string ⟨#[]⟩, .int .i64 0, .int .i64 0, .int .i64 0, .slice none 0 0, .slice none 0 0]) := fun wx e => B2.ext e
  clear h kc1 kc2 fc1 fc2 B1 B2 X1 X2 hlo
  unfold nodeC
  go_enter Tryz.func46, Tryz.ntmps46
  have k1 : ∀ wx, Ext W2 wx → wx.cell? ⟨n1, 4, none⟩ = some (.slice q.a1 p.labels.length q.c1) := fun wx e => (HB1.out wx e).cell rfl
  have z1 : ∀ wx, Ext W2 wx → wx.frozen? ⟨n1, 4, none⟩ = false := fun wx e => (HB1.out wx e).fr 4
  have k2 : ∀ wx, Ext W2 wx → wx.cell? ⟨n1, 5, none⟩ = some (.slice q.a2 p.taints.length q.c2) := fun wx e => (HB1.out wx e).cell rfl
  have z2 : ∀ wx, Ext W2 wx → wx.frozen? ⟨n1, 5, none⟩ = false := fun wx e => (HB1.out wx e).fr 5
  have FIN1 : Hid (∀ (w4 : World) (B1 : Option Addr) (d1 : Nat) (B2 : Option Addr) (d2 : Nat), Ext W2 w4 → NodeOwn lo w4 p ⟨B1, d1, B2, d2⟩ →
      (fun wx => ∃ B1 d1 B2 d2, Ext w wx ∧ WB wx n1 68 #[.string p.name, .int .i64 p.cap.a, .int .i64 p.cap.b, .int .i64 p.cap.c, .slice B1 p.labels.length d1, .slice B2 p.taints.length d2] ∧ WB wx n2 68 #[.string ⟨#[]⟩, .int .i64 0, .int .i64 0, .int .i64 0, .slice none 0 0, .slice none 0 0] ∧ NodeOwn lo wx p ⟨B1, d1, B2, d2⟩)
        ((w4.setCell ⟨n1, 4, none⟩ (.slice B1 p.labels.length d1)).setCell ⟨n1, 5, none⟩ (.slice B2 p.taints.length d2))) := fun w4 B1 d1 B2 d2 e ow => by
    obtain ⟨l1, l2, l3, l4, l5, l6⟩ := LN.out
    have hx := XX.out _ e
    refine ⟨B1, d1, B2, d2, (hx.setCell (p := ⟨n1, 4, none⟩) l4 _).setCell (p := ⟨n1, 5, none⟩) l4 _, wbs2 (HB1.out _ e) _ _, ?_, (ow.far l1 _ _).far l1 _ _⟩
    exact WB.far (p := ⟨n1, 5, none⟩) (WB.far (p := ⟨n1, 4, none⟩) (HB2.out _ e) (Ne.symm l3) _) (Ne.symm l3) _
  have E : Ext W2 W2 := Ext.refl _
  go_wp2_with fail
  go_cut [1] from 3 (fun s1 wx => s1 = .pointer (some ⟨n1, 0, none⟩) ∧ ∃ B1 d1 B2 d2, Ext w wx ∧ WB wx n1 68 #[.string p.name, .int .i64 p.cap.a, .int .i64 p.cap.b, .int .i64 p.cap.c, .slice B1 p.labels.length d1, .slice B2 p.taints.length d2] ∧ WB wx n2 68 #[.string ⟨#[]⟩, .int .i64 0, .int .i64 0, .int .i64 0, .slice none 0 0, .slice none 0 0] ∧ NodeOwn lo wx p ⟨B1, d1, B2, d2⟩)
  case first =>
    go_region_law (first
      | (with_reducible refine at_slot 5 ?_
         go_simp
         go_at_call 73
         have E0 := E
         refine (cl_pair q.a1 p.labels.length q.c1 C1 _ (FL1.out _ (by first | exact E | exact E.drew | exact E.drewN _)) OC1.out HF.out.f1).mono ?_
         rintro e w1 ⟨v, rfl, o1, e1⟩
         obtain ⟨B1, d1, rfl, _, _, r1⟩ := cl_rows RPair.keeps rfl KC1.out o1
         replace E := Ext.trans (by first | exact E | exact E.drew | exact E.drewN _) e1
         have HR1 : Hid (∀ wx, Ext w1 wx → Rowz RPair 37 2 lo wx B1 d1 p.labels) := fun wx e => (r1.low RPair.subs (LO.out _ (by first | exact E0 | exact E0.drew | exact E0.drewN _))).ext RPair.keeps e
         clear r1 o1 e1 E0)
      | (with_reducible refine at_slot 8 ?_
         go_simp
         go_at_call 76
         have E0 := E
         refine (cl_taint q.a2 p.taints.length q.c2 C2 _ (FL2.out _ (by first | exact E | exact E.drew | exact E.drewN _)) OC2.out HF.out.f2).mono ?_
         rintro e w2 ⟨v, rfl, o2, e2⟩
         obtain ⟨B2, d2, rfl, _, _, r2⟩ := cl_rows RPair.keeps rfl KC2.out o2
         have Y2 : Hid (Ext w1 w2) := Ext.trans (by first | exact Ext.refl _ | exact Ext.drew (Ext.refl _) | exact Ext.drewN (Ext.refl _) _) e2
         replace E := Ext.trans (by first | exact E | exact E.drew | exact E.drewN _) e2
         have HR2 : Hid (∀ wx, Ext w2 wx → Rowz RPair 53 2 lo wx B2 d2 p.taints) := fun wx e => (r2.low RPair.subs (LO.out _ (by first | exact E0 | exact E0.drew | exact E0.drewN _))).ext RPair.keeps e
         clear r2 o2 e2 E0))
    all_goals (
      go_wp2_with fail
      go_meet
      case rel => exact ⟨rfl, FIN1.out w2 B1 d1 B2 d2 E ⟨HR1.out _ Y2.out, HR2.out _ (Ext.refl _)⟩⟩)
  case rest =>
    obtain ⟨rfl, B1, d1, B2, d2, hx, hb1, hb2, ow⟩ := hcut
    have FIN : Hid (CNPost p w (.returned (.agg #[.string p.name, .int .i64 p.cap.a, .int .i64 p.cap.b, .int .i64 p.cap.c, .slice B1 p.labels.length d1, .slice B2 p.taints.length d2])) ((((((wc.setCell ⟨n2, 0, none⟩ (.string p.name)).setCell ⟨n2, 1, none⟩ (.int .i64 p.cap.a)).setCell ⟨n2, 2, none⟩ (.int .i64 p.cap.b)).setCell ⟨n2, 3, none⟩ (.int .i64 p.cap.c)).setCell ⟨n2, 4, none⟩ (.slice B1 p.labels.length d1)).setCell ⟨n2, 5, none⟩ (.slice B2 p.taints.length d2))) := by
      obtain ⟨l1, l2, l3, l4, l5, l6⟩ := LN.out
      exact ⟨⟨B1, d1, B2, d2⟩, rfl, Ext.set6 hx l5 _ _ _ _ _ _, ((((((ow.far l2 0 _).far l2 1 _).far l2 2 _).far l2 3 _).far l2 4 _).far l2 5 _).low l6⟩
    have HS := Lib.hid (hb2.set6 (.string p.name) (.int .i64 p.cap.a) (.int .i64 p.cap.b) (.int .i64 p.cap.c) (.slice B1 p.labels.length d1) (.slice B2 p.taints.length d2))
    have y0 := hb2.fr 0
    have y1 := hb2.fr 1
    have y2 := hb2.fr 2
    have y3 := hb2.fr 3
    have y4 := hb2.fr 4
    have y5 := hb2.fr 5
    have x0 := hb2.cell (i := 0) rfl
    have x1 := hb2.cell (i := 1) rfl
    have x2 := hb2.cell (i := 2) rfl
    have x3 := hb2.cell (i := 3) rfl
    have x4 := hb2.cell (i := 4) rfl
    have x5 := hb2.cell (i := 5) rfl
    have b0 := hb1.cell (i := 0) rfl
    have b1 := hb1.cell (i := 1) rfl
    have b2 := hb1.cell (i := 2) rfl
    have b3 := hb1.cell (i := 3) rfl
    have b4 := hb1.cell (i := 4) rfl
    have b5 := hb1.cell (i := 5) rfl
    clear E FIN1 k1 k2 z1 z2 FL1 FL2 OC1 OC2 KC1 KC2 HB1 HB2 XX LO LN HF hx hb1 hb2 ow
    go_wp2_with fail
    have f := HS.out
    have f0 := f.cell (i := 0) rfl
    have f1 := f.cell (i := 1) rfl
    have f2 := f.cell (i := 2) rfl
    have f3 := f.cell (i := 3) rfl
    have f4 := f.cell (i := 4) rfl
    have f5 := f.cell (i := 5) rfl
    refine bodyPost_ret (v := .agg #[.string p.name, .int .i64 p.cap.a, .int .i64 p.cap.b, .int .i64 p.cap.c, .slice B1 p.labels.length d1, .slice B2 p.taints.length d2]) (by simp [results, Tryz.results46, go_sem, f0, f1, f2, f3, f4, f5]) rfl ?_
    exact FIN.out
end Go.Proofs.YthfafenigjldlaaGreat
