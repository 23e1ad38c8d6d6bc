/-
  The walks of obj.CopyPod, obj.CopyNode (printed by mkcopy.py).
-/
import Derived.Test.YthfafenigjldlaaGreatCopy2
import Derived.Test.YthfafenigjldlaaGreatGet8
import Derived.Deep.RegionHeld3
import Derived.Deep.Cut
import Derived.Deep.CutRange
namespace Go.Proofs.YthfafenigjldlaaGreat
open Go.RowKit
set_option linter.unusedVariables false

/-- what a pod's lists take is no more than memory bears -/
structure PodFits (p : Pd) : Prop where
  f1 : p.ports.length * 8 ≤ 140737488355328
  f2 : p.labels.length * 32 ≤ 140737488355328
  f3 : p.sel.length * 48 ≤ 140737488355328
  v3 : ∀ t ∈ p.sel, t.vals.length * 16 ≤ 140737488355328
  f4 : p.tols.length * 40 ≤ 140737488355328
  f5 : p.anti.length * 48 ≤ 140737488355328
  v5 : ∀ t ∈ p.anti, t.vals.length * 16 ≤ 140737488355328
  f6 : p.even.length * 48 ≤ 140737488355328
  v6 : ∀ t ∈ p.even, t.vals.length * 16 ≤ 140737488355328
/-- a pod whose lists are one's own since lo -/
structure PodOwn (lo : Nat) (w : World) (p : Pd) (q : PA) : Prop where
  r1 : Rowz RInt 3 1 lo w q.a1 q.c1 p.ports
  r2 : Rowz RPair 37 2 lo w q.a2 q.c2 p.labels
  r3 : Rowz RTermT 41 3 lo w q.a3 q.c3 p.sel
  r4 : Rowz RTol 52 3 lo w q.a4 q.c4 p.tols
  r5 : Rowz RTermT 41 3 lo w q.a5 q.c5 p.anti
  r6 : Rowz RTermT 41 3 lo w q.a6 q.c6 p.even
  d35 : ∀ x y : Addr, q.a3 = some x → q.a5 = some y → x.block ≠ y.block
  d36 : ∀ x y : Addr, q.a3 = some x → q.a6 = some y → x.block ≠ y.block
  d56 : ∀ x y : Addr, q.a5 = some x → q.a6 = some y → x.block ≠ y.block
theorem rowz_lt {α : Type} {R : World → List Value → α → Prop} {T : TypeId} {size lo : Nat} {w : World} {A : Option Addr} {c : Nat} {xs : List α} (h : Rowz R T size lo w A c xs) {x : Addr} (hA : A = some x) : lo ≤ x.block ∧ x.block < w.heap.size := by
  obtain ⟨cs, h1, _⟩ := h
  rcases h1.2 with ⟨e, _⟩ | ⟨g', cap, cur, e, hg', hh, r⟩
  · obtain ⟨e1, _, _⟩ := Value.slice.inj e
    rw [hA] at e1; cases e1
  · obtain ⟨e1, _, _⟩ := Value.slice.inj e
    rw [hA] at e1
    injection e1 with e1
    subst e1
    exact ⟨hg', WB.lt hh⟩
theorem PodOwn.ext {lo : Nat} {w w' : World} {p : Pd} {q : PA} (h : PodOwn lo w p q) (e : Ext w w') : PodOwn lo w' p q :=
  ⟨h.r1.ext RInt.keeps e, h.r2.ext RPair.keeps e, h.r3.ext RTermT.keeps e, h.r4.ext RTol.keeps e, h.r5.ext RTermT.keeps e, h.r6.ext RTermT.keeps e, h.d35, h.d36, h.d56⟩
theorem PodOwn.low {lo lo' : Nat} {w : World} {p : Pd} {q : PA} (hl : lo ≤ lo') (h : PodOwn lo' w p q) : PodOwn lo w p q :=
  ⟨h.r1.low RInt.subs hl, h.r2.low RPair.subs hl, h.r3.low RTermT.subs hl, h.r4.low RTol.subs hl, h.r5.low RTermT.subs hl, h.r6.low RTermT.subs hl, h.d35, h.d36, h.d56⟩
theorem PodOwn.ok {lo : Nat} {w w0 : World} {p : Pd} {q r : PA} (h : PodOwn lo w p q) (h0 : PodOk w0 p r) : PodOk (Own lo w) p q :=
  { name := h0.name, uid := h0.uid, prio := h0.prio, req := h0.req, topo := h0.topo, skew := h0.skew, node := h0.node, term := h0.term,
    ports := h.r1.sl.1, labels := h.r2.sl.1, sel := h.r3.sl.1.imp fun _ _ => RTermT.weak, tols := h.r4.sl.1, anti := h.r5.sl.1.imp fun _ _ => RTermT.weak, even := h.r6.sl.1.imp fun _ _ => RTermT.weak,
    n1 := h.r1.sl.2.1, m1 := h.r1.sl.2.2, n2 := h.r2.sl.2.1, m2 := h.r2.sl.2.2, n3 := h.r3.sl.2.1, m3 := h.r3.sl.2.2, n4 := h.r4.sl.2.1, m4 := h.r4.sl.2.2, n5 := h.r5.sl.2.1, m5 := h.r5.sl.2.2, n6 := h.r6.sl.2.1, m6 := h.r6.sl.2.2 }
theorem own_far {lo m : Nat} {w : World} {T : TypeId} {size n : Nat} {v : Value} {xs : List Value} (h : w.ownsRow lo T size v n xs) (hm : m < lo) (j : Nat) (u : Value) : (w.setCell ⟨m, j, none⟩ u).ownsRow lo T size v n xs := by
  refine ⟨h.1, ?_⟩
  rcases h.2 with h | ⟨g', cap, cur, rfl, hg', hh, r⟩
  · exact .inl h
  · exact .inr ⟨g', cap, cur, rfl, hg', WB.far (p := ⟨m, j, none⟩) hh (by show g' ≠ m; omega) u, r⟩
theorem Rowz.far {α : Type} {R : World → List Value → α → Prop} {T : TypeId} {size lo m : Nat} {w : World} {A : Option Addr} {c : Nat} {xs : List α} (h : Rowz R T size lo w A c xs) (hm : m < lo) (j : Nat) (u : Value) : Rowz R T size lo (w.setCell ⟨m, j, none⟩ u) A c xs := by
  obtain ⟨cs, h1, h2⟩ := h
  exact ⟨cs, own_far h1 hm j u, by rw [Own.far w (p := ⟨m, j, none⟩) hm]; exact h2⟩
theorem wbs3 {w : World} {g : Nat} {T : TypeId} {a0 a1 a2 a3 a4 a5 a6 a7 a8 a9 a10 a11 a12 a13 a14 a15 : Value} (h : WB w g T #[a0, a1, a2, a3, a4, a5, a6, a7, a8, a9, a10, a11, a12, a13, a14, a15]) (u v x : Value) :
    WB (((w.setCell ⟨g, 6, none⟩ u).setCell ⟨g, 7, none⟩ v).setCell ⟨g, 9, none⟩ x) g T #[a0, a1, a2, a3, a4, a5, u, v, a8, x, a10, a11, a12, a13, a14, a15] ∧ WB (((w.setCell ⟨g, 8, none⟩ u).setCell ⟨g, 11, none⟩ v).setCell ⟨g, 13, none⟩ x) g T #[a0, a1, a2, a3, a4, a5, a6, a7, u, a9, a10, v, a12, x, a14, a15] := by
  have h1 := ((h.set 6 u).set 7 v).set 9 x
  have h2 := ((h.set 8 u).set 11 v).set 13 x
  simp only [List.setIfInBounds_toArray, List.set_cons_succ, List.set_cons_zero] at h1 h2
  exact ⟨h1, h2⟩
theorem PodOwn.far {lo m : Nat} {w : World} {p : Pd} {q : PA} (h : PodOwn lo w p q) (hm : m < lo) (j : Nat) (u : Value) : PodOwn lo (w.setCell ⟨m, j, none⟩ u) p q :=
  ⟨h.r1.far hm j u, h.r2.far hm j u, h.r3.far hm j u, h.r4.far hm j u, h.r5.far hm j u, h.r6.far hm j u, h.d35, h.d36, h.d56⟩
def CPPost (p : Pd) (w : World) (e : Ending) (w' : World) : Prop := ∃ r : PA, e = .returned (.agg (podC p r).toArray) ∧ Ext w w' ∧ PodOwn w.heap.size w' p r

set_option maxRecDepth 20000 in
set_option maxHeartbeats 8000000 in
theorem copyPod_any (p : Pd) (q : PA) (w : World) (h : PodOk w p q) (hf : PodFits p) : Calls Tryz.prog 45 #[.agg (podC p q).toArray] w (CPPost p w) := by
  have HF := Lib.hid hf
  clear hf
  obtain ⟨C1, kc1, fc1⟩ := h.ports.cells
  have OC1 := Lib.hid (kc1.oneCell RInt.one)
  have KC1 : Hid (∀ W, Cells RInt 1 W p.ports C1) := fun W => kc1.any fun _ _ _ _ h => h
  obtain ⟨C2, kc2, fc2⟩ := h.labels.cells
  have OC2 := Lib.hid (kc2.oneCell RPair.one)
  have KC2 : Hid (∀ W, Cells RPair 2 W p.labels C2) := fun W => kc2.any fun _ _ _ _ h => h
  obtain ⟨C4, kc4, fc4⟩ := h.tols.cells
  have OC4 := Lib.hid (kc4.oneCell RTol.one)
  have KC4 : Hid (∀ W, Cells RTol 3 W p.tols C4) := fun W => kc4.any fun _ _ _ _ h => h
  obtain ⟨n1, hn1⟩ : ∃ n, w.heap.size = n := ⟨_, rfl⟩
  have B1 := WB.new w 66 #[.string p.name, .int .i64 p.uid, .int .i64 p.prio, .int .i64 p.req.a, .int .i64 p.req.b, .int .i64 p.req.c, .slice q.a1 p.ports.length q.c1, .slice q.a2 p.labels.length q.c2, .slice q.a3 p.sel.length q.c3, .slice q.a4 p.tols.length q.c4, .string p.topo, .slice q.a5 p.anti.length q.c5, .int .i64 p.skew, .slice q.a6 p.even.length q.c6, .string p.node, .int .i64 p.term]
  have X1 : Ext w (w.alloc (.cells #[.string p.name, .int .i64 p.uid, .int .i64 p.prio, .int .i64 p.req.a, .int .i64 p.req.b, .int .i64 p.req.c, .slice q.a1 p.ports.length q.c1, .slice q.a2 p.labels.length q.c2, .slice q.a3 p.sel.length q.c3, .slice q.a4 p.tols.length q.c4, .string p.topo, .slice q.a5 p.anti.length q.c5, .int .i64 p.skew, .slice q.a6 p.even.length q.c6, .string p.node, .int .i64 p.term] 66)) := (Ext.refl _).alloc _
  obtain ⟨W1, hW1⟩ : ∃ W, w.alloc (.cells #[.string p.name, .int .i64 p.uid, .int .i64 p.prio, .int .i64 p.req.a, .int .i64 p.req.b, .int .i64 p.req.c, .slice q.a1 p.ports.length q.c1, .slice q.a2 p.labels.length q.c2, .slice q.a3 p.sel.length q.c3, .slice q.a4 p.tols.length q.c4, .string p.topo, .slice q.a5 p.anti.length q.c5, .int .i64 p.skew, .slice q.a6 p.even.length q.c6, .string p.node, .int .i64 p.term] 66) = W := ⟨_, rfl⟩
  rw [hW1, hn1] at B1
  rw [hW1] at X1
  obtain ⟨n2, hn2⟩ : ∃ n, W1.heap.size = n := ⟨_, rfl⟩
  have B2 := WB.new W1 66 #[.string ⟨#[]⟩, .int .i64 0, .int .i64 0, .int .i64 0, .int .i64 0, .int .i64 0, .slice none 0 0, .slice none 0 0, .slice none 0 0, .slice none 0 0, .string ⟨#[]⟩, .slice none 0 0, .int .i64 0, .slice none 0 0, .string ⟨#[]⟩, .int .i64 0]
  have X2 : Ext W1 (W1.alloc (.cells #[.string ⟨#[]⟩, .int .i64 0, .int .i64 0, .int .i64 0, .int .i64 0, .int .i64 0, .slice none 0 0, .slice none 0 0, .slice none 0 0, .slice none 0 0, .string ⟨#[]⟩, .slice none 0 0, .int .i64 0, .slice none 0 0, .string ⟨#[]⟩, .int .i64 0] 66)) := (Ext.refl _).alloc _
  obtain ⟨W2, hW2⟩ : ∃ W, W1.alloc (.cells #[.string ⟨#[]⟩, .int .i64 0, .int .i64 0, .int .i64 0, .int .i64 0, .int .i64 0, .slice none 0 0, .slice none 0 0, .slice none 0 0, .slice none 0 0, .string ⟨#[]⟩, .slice none 0 0, .int .i64 0, .slice none 0 0, .string ⟨#[]⟩, .int .i64 0] 66) = W := ⟨_, rfl⟩
  rw [hW2, hn2] at B2
  rw [hW2] at X2
  obtain ⟨lo, hlo⟩ : ∃ n, W2.heap.size = n := ⟨_, rfl⟩
  have LO : Hid (∀ wx, Ext W2 wx → lo ≤ wx.heap.size) := fun wx e => by rw [← hlo]; exact e.size
  have LN : Hid (n1 < lo ∧ n2 < lo ∧ n1 ≠ n2 ∧ w.heap.size ≤ n1 ∧ w.heap.size ≤ n2 ∧ w.heap.size ≤ lo) := by
    have a1 := B1.lt
    have a2 := B2.lt
    have a3 := X2.size
    have a4 := X1.size
    have a5 : n1 < n2 := by rw [← hn2]; exact a1
    exact ⟨by omega, by omega, by omega, by omega, by omega, by omega⟩
  have XX : Hid (∀ wx, Ext W2 wx → Ext w wx) := fun wx e => X1.trans (X2.trans e)
  have OKH : Hid (PodOk w p q) := h
  have FL1 : Hid (∀ wx, Ext W2 wx → Flat wx 1 q.a1 p.ports.length C1) := fun wx e => fc1.ext (XX.out _ e)
  have FL2 : Hid (∀ wx, Ext W2 wx → Flat wx 2 q.a2 p.labels.length C2) := fun wx e => fc2.ext (XX.out _ e)
  have FL4 : Hid (∀ wx, Ext W2 wx → Flat wx 3 q.a4 p.tols.length C4) := fun wx e => fc4.ext (XX.out _ e)
  have SL3 : Hid (∀ wx, Ext W2 wx → Sl RTerm 3 wx q.a3 p.sel) := fun wx e => h.sel.ext RTerm.keeps (XX.out _ e)
  have SL5 : Hid (∀ wx, Ext W2 wx → Sl RTerm 3 wx q.a5 p.anti) := fun wx e => h.anti.ext RTerm.keeps (XX.out _ e)
  have SL6 : Hid (∀ wx, Ext W2 wx → Sl RTerm 3 wx q.a6 p.even) := fun wx e => h.even.ext RTerm.keeps (XX.out _ e)
  have HB1 : Hid (∀ wx, Ext W2 wx → WB wx n1 66 #[.string p.name, .int .i64 p.uid, .int .i64 p.prio, .int .i64 p.req.a, .int .i64 p.req.b, .int .i64 p.req.c, .slice q.a1 p.ports.length q.c1, .slice q.a2 p.labels.length q.c2, .slice q.a3 p.sel.length q.c3, .slice q.a4 p.tols.length q.c4, .string p.topo, .slice q.a5 p.anti.length q.c5, .int .i64 p.skew, .slice q.a6 p.even.length q.c6, .string p.node, .int .i64 p.term]) := fun wx e => B1.ext (X2.trans e)
  have HB2 : Hid (∀ wx, Ext W2 wx → WB wx n2 66 #[.string ⟨#[]⟩, .int .i64 0, .int .i64 0, .int .i64 0, .int .i64 0, .int .i64 0, .slice none 0 0, .slice none 0 0, .slice none 0 0, .slice none 0 0, .string ⟨#[]⟩, .slice none 0 0, .int .i64 0, .slice none 0 0, .string ⟨#[]⟩, .int .i64 0]) := fun wx e => B2.ext e
  clear h kc1 kc2 kc4 fc1 fc2 fc4 B1 B2 X1 X2 hlo
  unfold podC
  go_enter Tryz.func45, Tryz.ntmps45
  have k1 : ∀ wx, Ext W2 wx → wx.cell? ⟨n1, 6, none⟩ = some (.slice q.a1 p.ports.length q.c1) := fun wx e => (HB1.out wx e).cell rfl
  have z1 : ∀ wx, Ext W2 wx → wx.frozen? ⟨n1, 6, none⟩ = false := fun wx e => (HB1.out wx e).fr 6
  have k2 : ∀ wx, Ext W2 wx → wx.cell? ⟨n1, 7, none⟩ = some (.slice q.a2 p.labels.length q.c2) := fun wx e => (HB1.out wx e).cell rfl
  have z2 : ∀ wx, Ext W2 wx → wx.frozen? ⟨n1, 7, none⟩ = false := fun wx e => (HB1.out wx e).fr 7
  have k4 : ∀ wx, Ext W2 wx → wx.cell? ⟨n1, 9, none⟩ = some (.slice q.a4 p.tols.length q.c4) := fun wx e => (HB1.out wx e).cell rfl
  have z4 : ∀ wx, Ext W2 wx → wx.frozen? ⟨n1, 9, none⟩ = false := fun wx e => (HB1.out wx e).fr 9
  have FIN1 : Hid (∀ (w4 : World) (B1 : Option Addr) (d1 : Nat) (B2 : Option Addr) (d2 : Nat) (B4 : Option Addr) (d4 : Nat), Ext W2 w4 → Rowz RInt 3 1 lo w4 B1 d1 p.ports → Rowz RPair 37 2 lo w4 B2 d2 p.labels → Rowz RTol 52 3 lo w4 B4 d4 p.tols →
      (fun wx => ∃ B1 d1 B2 d2 B4 d4, Ext w wx ∧ lo ≤ wx.heap.size ∧ WB wx n1 66 #[.string p.name, .int .i64 p.uid, .int .i64 p.prio, .int .i64 p.req.a, .int .i64 p.req.b, .int .i64 p.req.c, .slice B1 p.ports.length d1, .slice B2 p.labels.length d2, .slice q.a3 p.sel.length q.c3, .slice B4 p.tols.length d4, .string p.topo, .slice q.a5 p.anti.length q.c5, .int .i64 p.skew, .slice q.a6 p.even.length q.c6, .string p.node, .int .i64 p.term] ∧ WB wx n2 66 #[.string ⟨#[]⟩, .int .i64 0, .int .i64 0, .int .i64 0, .int .i64 0, .int .i64 0, .slice none 0 0, .slice none 0 0, .slice none 0 0, .slice none 0 0, .string ⟨#[]⟩, .slice none 0 0, .int .i64 0, .slice none 0 0, .string ⟨#[]⟩, .int .i64 0] ∧ Rowz RInt 3 1 lo wx B1 d1 p.ports ∧ Rowz RPair 37 2 lo wx B2 d2 p.labels ∧ Rowz RTol 52 3 lo wx B4 d4 p.tols ∧ Sl RTerm 3 wx q.a3 p.sel ∧ Sl RTerm 3 wx q.a5 p.anti ∧ Sl RTerm 3 wx q.a6 p.even) (((w4.setCell ⟨n1, 6, none⟩ (.slice B1 p.ports.length d1)).setCell ⟨n1, 7, none⟩ (.slice B2 p.labels.length d2)).setCell ⟨n1, 9, none⟩ (.slice B4 p.tols.length d4))) := fun w4 B1 d1 B2 d2 B4 d4 e r1 r2 r4 => by
    obtain ⟨l1, l2, l3, l4, l5, l6⟩ := LN.out
    have hx := XX.out _ e
    have hs : Ext w (((w4.setCell ⟨n1, 6, none⟩ (.slice B1 p.ports.length d1)).setCell ⟨n1, 7, none⟩ (.slice B2 p.labels.length d2)).setCell ⟨n1, 9, none⟩ (.slice B4 p.tols.length d4)) := ((hx.setCell (p := ⟨n1, 6, none⟩) l4 _).setCell (p := ⟨n1, 7, none⟩) l4 _).setCell (p := ⟨n1, 9, none⟩) l4 _
    refine ⟨B1, d1, B2, d2, B4, d4, hs, ?_, (wbs3 (HB1.out _ e) _ _ _).1, ?_, ((r1.far l1 _ _).far l1 _ _).far l1 _ _, ((r2.far l1 _ _).far l1 _ _).far l1 _ _, ((r4.far l1 _ _).far l1 _ _).far l1 _ _, OKH.out.sel.ext RTerm.keeps hs, OKH.out.anti.ext RTerm.keeps hs, OKH.out.even.ext RTerm.keeps hs⟩
    · have := LO.out _ e
      simpa [World.setCell] using this
    · exact WB.far (p := ⟨n1, 9, none⟩) (WB.far (p := ⟨n1, 7, none⟩) (WB.far (p := ⟨n1, 6, none⟩) (HB2.out _ e) (Ne.symm l3) _) (Ne.symm l3) _) (Ne.symm l3) _
  have E : Ext W2 W2 := Ext.refl _
  go_wp2_with fail
  go_cut [1] from 3 (fun s1 wx => s1 = .pointer (some ⟨n1, 0, none⟩) ∧ ∃ B1 d1 B2 d2 B4 d4, Ext w wx ∧ lo ≤ wx.heap.size ∧ WB wx n1 66 #[.string p.name, .int .i64 p.uid, .int .i64 p.prio, .int .i64 p.req.a, .int .i64 p.req.b, .int .i64 p.req.c, .slice B1 p.ports.length d1, .slice B2 p.labels.length d2, .slice q.a3 p.sel.length q.c3, .slice B4 p.tols.length d4, .string p.topo, .slice q.a5 p.anti.length q.c5, .int .i64 p.skew, .slice q.a6 p.even.length q.c6, .string p.node, .int .i64 p.term] ∧ WB wx n2 66 #[.string ⟨#[]⟩, .int .i64 0, .int .i64 0, .int .i64 0, .int .i64 0, .int .i64 0, .slice none 0 0, .slice none 0 0, .slice none 0 0, .slice none 0 0, .string ⟨#[]⟩, .slice none 0 0, .int .i64 0, .slice none 0 0, .string ⟨#[]⟩, .int .i64 0] ∧ Rowz RInt 3 1 lo wx B1 d1 p.ports ∧ Rowz RPair 37 2 lo wx B2 d2 p.labels ∧ Rowz RTol 52 3 lo wx B4 d4 p.tols ∧ Sl RTerm 3 wx q.a3 p.sel ∧ Sl RTerm 3 wx q.a5 p.anti ∧ Sl RTerm 3 wx q.a6 p.even)
  case first =>
    go_region_law (first
      | (with_reducible refine at_slot 5 ?_
         go_simp
         go_at_call 72
         have E0 := E
         refine (cl_int q.a1 p.ports.length q.c1 C1 _ (FL1.out _ (by first | exact E | exact E.drew | exact E.drewN _)) OC1.out HF.out.f1).mono ?_
         rintro e w1 ⟨v, rfl, o1, e1⟩
         obtain ⟨B1, d1, rfl, _, _, r1⟩ := cl_rows RInt.keeps rfl KC1.out o1
         have _u := E
         replace E := Ext.trans (by first | exact E | exact E.drew | exact E.drewN _) e1
         have HR1 : Hid (∀ wx, Ext w1 wx → Rowz RInt 3 1 lo wx B1 d1 p.ports) := fun wx e => (r1.low RInt.subs (LO.out _ (by first | exact E0 | exact E0.drew | exact E0.drewN _))).ext RInt.keeps e
         clear r1 o1 e1 E0)
      | (with_reducible refine at_slot 8 ?_
         go_simp
         go_at_call 73
         have E0 := E
         refine (cl_pair q.a2 p.labels.length q.c2 C2 _ (FL2.out _ (by first | exact E | exact E.drew | exact E.drewN _)) OC2.out HF.out.f2).mono ?_
         rintro e w2 ⟨v, rfl, o2, e2⟩
         obtain ⟨B2, d2, rfl, _, _, r2⟩ := cl_rows RPair.keeps rfl KC2.out o2
         have Y2 : Hid (Ext w1 w2) := Ext.trans (by first | exact Ext.refl _ | exact Ext.drew (Ext.refl _) | exact Ext.drewN (Ext.refl _) _) e2
         replace E := Ext.trans (by first | exact E | exact E.drew | exact E.drewN _) e2
         have HR2 : Hid (∀ wx, Ext w2 wx → Rowz RPair 37 2 lo wx B2 d2 p.labels) := fun wx e => (r2.low RPair.subs (LO.out _ (by first | exact E0 | exact E0.drew | exact E0.drewN _))).ext RPair.keeps e
         clear r2 o2 e2 E0)
      | (with_reducible refine at_slot 11 ?_
         go_simp
         go_at_call 74
         have E0 := E
         refine (cl_toler q.a4 p.tols.length q.c4 C4 _ (FL4.out _ (by first | exact E | exact E.drew | exact E.drewN _)) OC4.out HF.out.f4).mono ?_
         rintro e w4 ⟨v, rfl, o4, e4⟩
         obtain ⟨B4, d4, rfl, _, _, r4⟩ := cl_rows RTol.keeps rfl KC4.out o4
         have Y4 : Hid (Ext w2 w4) := Ext.trans (by first | exact Ext.refl _ | exact Ext.drew (Ext.refl _) | exact Ext.drewN (Ext.refl _) _) e4
         replace E := Ext.trans (by first | exact E | exact E.drew | exact E.drewN _) e4
         have HR4 : Hid (∀ wx, Ext w4 wx → Rowz RTol 52 3 lo wx B4 d4 p.tols) := fun wx e => (r4.low RTol.subs (LO.out _ (by first | exact E0 | exact E0.drew | exact E0.drewN _))).ext RTol.keeps e
         clear r4 o4 e4 E0))
    all_goals (
      go_wp2_with fail
      go_meet
      case rel => exact ⟨rfl, FIN1.out w4 B1 d1 B2 d2 B4 d4 E (HR1.out _ (Y2.out.trans Y4.out)) (HR2.out _ Y4.out) (HR4.out _ (Ext.refl _))⟩)
  case rest =>
    obtain ⟨rfl, B1, d1, B2, d2, B4, d4, hx, hlo, hb1, hb2, r1, r2, r4, s3, s5, s6⟩ := hcut
    clear E FIN1 k1 k2 k4 z1 z2 z4 FL1 FL2 FL4 SL3 SL5 SL6 OC1 OC2 OC4 KC1 KC2 KC4 HB1 HB2 XX LO
    have LO : Hid (∀ wx, Ext wc wx → lo ≤ wx.heap.size) := fun wx e => Nat.le_trans hlo e.size
    have XX : Hid (∀ wx, Ext wc wx → Ext w wx) := fun wx e => hx.trans e
    have HB1 : Hid (∀ wx, Ext wc wx → WB wx n1 66 #[.string p.name, .int .i64 p.uid, .int .i64 p.prio, .int .i64 p.req.a, .int .i64 p.req.b, .int .i64 p.req.c, .slice B1 p.ports.length d1, .slice B2 p.labels.length d2, .slice q.a3 p.sel.length q.c3, .slice B4 p.tols.length d4, .string p.topo, .slice q.a5 p.anti.length q.c5, .int .i64 p.skew, .slice q.a6 p.even.length q.c6, .string p.node, .int .i64 p.term]) := fun wx e => hb1.ext e
    have HB2 : Hid (∀ wx, Ext wc wx → WB wx n2 66 #[.string ⟨#[]⟩, .int .i64 0, .int .i64 0, .int .i64 0, .int .i64 0, .int .i64 0, .slice none 0 0, .slice none 0 0, .slice none 0 0, .slice none 0 0, .string ⟨#[]⟩, .slice none 0 0, .int .i64 0, .slice none 0 0, .string ⟨#[]⟩, .int .i64 0]) := fun wx e => hb2.ext e
    have SL3 : Hid (∀ wx, Ext wc wx → Sl RTerm 3 wx q.a3 p.sel) := fun wx e => s3.ext RTerm.keeps e
    have SL5 : Hid (∀ wx, Ext wc wx → Sl RTerm 3 wx q.a5 p.anti) := fun wx e => s5.ext RTerm.keeps e
    have SL6 : Hid (∀ wx, Ext wc wx → Sl RTerm 3 wx q.a6 p.even) := fun wx e => s6.ext RTerm.keeps e
    have HR1 : Hid (∀ wx, Ext wc wx → Rowz RInt 3 1 lo wx B1 d1 p.ports) := fun wx e => r1.ext RInt.keeps e
    have HR2 : Hid (∀ wx, Ext wc wx → Rowz RPair 37 2 lo wx B2 d2 p.labels) := fun wx e => r2.ext RPair.keeps e
    have HR4 : Hid (∀ wx, Ext wc wx → Rowz RTol 52 3 lo wx B4 d4 p.tols) := fun wx e => r4.ext RTol.keeps e
    have FIN2 : Hid (∀ (w6 : World) (B3 : Option Addr) (d3 : Nat) (B5 : Option Addr) (d5 : Nat) (B6 : Option Addr) (d6 : Nat), Ext wc w6 → Rowz RTermT 41 3 lo w6 B3 d3 p.sel → Rowz RTermT 41 3 lo w6 B5 d5 p.anti → Rowz RTermT 41 3 lo w6 B6 d6 p.even → (∀ x y : Addr, B3 = some x → B5 = some y → x.block ≠ y.block) → (∀ x y : Addr, B3 = some x → B6 = some y → x.block ≠ y.block) → (∀ x y : Addr, B5 = some x → B6 = some y → x.block ≠ y.block) →
        (fun wx => ∃ B1 d1 B2 d2 B4 d4 B3 d3 B5 d5 B6 d6, Ext w wx ∧ WB wx n1 66 #[.string p.name, .int .i64 p.uid, .int .i64 p.prio, .int .i64 p.req.a, .int .i64 p.req.b, .int .i64 p.req.c, .slice B1 p.ports.length d1, .slice B2 p.labels.length d2, .slice B3 p.sel.length d3, .slice B4 p.tols.length d4, .string p.topo, .slice B5 p.anti.length d5, .int .i64 p.skew, .slice B6 p.even.length d6, .string p.node, .int .i64 p.term] ∧ WB wx n2 66 #[.string ⟨#[]⟩, .int .i64 0, .int .i64 0, .int .i64 0, .int .i64 0, .int .i64 0, .slice none 0 0, .slice none 0 0, .slice none 0 0, .slice none 0 0, .string ⟨#[]⟩, .slice none 0 0, .int .i64 0, .slice none 0 0, .string ⟨#[]⟩, .int .i64 0] ∧ PodOwn lo wx p ⟨B1, d1, B2, d2, B3, d3, B4, d4, B5, d5, B6, d6⟩) (((w6.setCell ⟨n1, 8, none⟩ (.slice B3 p.sel.length d3)).setCell ⟨n1, 11, none⟩ (.slice B5 p.anti.length d5)).setCell ⟨n1, 13, none⟩ (.slice B6 p.even.length d6))) := fun w6 B3 d3 B5 d5 B6 d6 e r3 r5 r6 e35 e36 e56 => by
      obtain ⟨l1, l2, l3, l4, l5, l6⟩ := LN.out
      have hx := XX.out _ e
      have hs : Ext w (((w6.setCell ⟨n1, 8, none⟩ (.slice B3 p.sel.length d3)).setCell ⟨n1, 11, none⟩ (.slice B5 p.anti.length d5)).setCell ⟨n1, 13, none⟩ (.slice B6 p.even.length d6)) := ((hx.setCell (p := ⟨n1, 8, none⟩) l4 _).setCell (p := ⟨n1, 11, none⟩) l4 _).setCell (p := ⟨n1, 13, none⟩) l4 _
      refine ⟨B1, d1, B2, d2, B4, d4, B3, d3, B5, d5, B6, d6, hs, (wbs3 (HB1.out _ e) _ _ _).2, ?_, ((((HR1.out _ e).far l1 _ _).far l1 _ _).far l1 _ _), ((((HR2.out _ e).far l1 _ _).far l1 _ _).far l1 _ _), ((r3.far l1 _ _).far l1 _ _).far l1 _ _, ((((HR4.out _ e).far l1 _ _).far l1 _ _).far l1 _ _), ((r5.far l1 _ _).far l1 _ _).far l1 _ _, ((r6.far l1 _ _).far l1 _ _).far l1 _ _, e35, e36, e56⟩
      exact WB.far (p := ⟨n1, 13, none⟩) (WB.far (p := ⟨n1, 11, none⟩) (WB.far (p := ⟨n1, 8, none⟩) (HB2.out _ e) (Ne.symm l3) _) (Ne.symm l3) _) (Ne.symm l3) _
    clear hx hlo hb1 hb2 r1 r2 r4 s3 s5 s6 OKH
    have k3 : ∀ wx, Ext wc wx → wx.cell? ⟨n1, 8, none⟩ = some (.slice q.a3 p.sel.length q.c3) := fun wx e => (HB1.out wx e).cell rfl
    have z3 : ∀ wx, Ext wc wx → wx.frozen? ⟨n1, 8, none⟩ = false := fun wx e => (HB1.out wx e).fr 8
    have k5 : ∀ wx, Ext wc wx → wx.cell? ⟨n1, 11, none⟩ = some (.slice q.a5 p.anti.length q.c5) := fun wx e => (HB1.out wx e).cell rfl
    have z5 : ∀ wx, Ext wc wx → wx.frozen? ⟨n1, 11, none⟩ = false := fun wx e => (HB1.out wx e).fr 11
    have k6 : ∀ wx, Ext wc wx → wx.cell? ⟨n1, 13, none⟩ = some (.slice q.a6 p.even.length q.c6) := fun wx e => (HB1.out wx e).cell rfl
    have z6 : ∀ wx, Ext wc wx → wx.frozen? ⟨n1, 13, none⟩ = false := fun wx e => (HB1.out wx e).fr 13
    have E : Ext wc wc := Ext.refl _
    go_wp2_with fail
    go_cut [1] from 15 (fun s1 wx => s1 = .pointer (some ⟨n1, 0, none⟩) ∧ ∃ B1 d1 B2 d2 B4 d4 B3 d3 B5 d5 B6 d6, Ext w wx ∧ WB wx n1 66 #[.string p.name, .int .i64 p.uid, .int .i64 p.prio, .int .i64 p.req.a, .int .i64 p.req.b, .int .i64 p.req.c, .slice B1 p.ports.length d1, .slice B2 p.labels.length d2, .slice B3 p.sel.length d3, .slice B4 p.tols.length d4, .string p.topo, .slice B5 p.anti.length d5, .int .i64 p.skew, .slice B6 p.even.length d6, .string p.node, .int .i64 p.term] ∧ WB wx n2 66 #[.string ⟨#[]⟩, .int .i64 0, .int .i64 0, .int .i64 0, .int .i64 0, .int .i64 0, .slice none 0 0, .slice none 0 0, .slice none 0 0, .slice none 0 0, .string ⟨#[]⟩, .slice none 0 0, .int .i64 0, .slice none 0 0, .string ⟨#[]⟩, .int .i64 0] ∧ PodOwn lo wx p ⟨B1, d1, B2, d2, B3, d3, B4, d4, B5, d5, B6, d6⟩)
    case first =>
      go_region_law (first
        | (with_reducible refine at_slot 17 ?_
           go_simp
           go_at_call 75
           refine (copyTerms_any q.a3 q.c3 p.sel p.sel.length _ rfl (SL3.out _ (by first | exact E | exact E.drew | exact E.drewN _)) HF.out.f3 HF.out.v3).mono ?_
           rintro e w3 ⟨B3, d3, rfl, _, _, e3, r3⟩
           have _u := E
           have _v := E
           have HR3 : Hid (∀ wx, Ext w3 wx → Rowz RTermT 41 3 lo wx B3 d3 p.sel) := fun wx e => (r3.low RTermT.subs (LO.out _ (by first | exact E | exact E.drew | exact E.drewN _))).ext RTermT.keeps e
           replace E := Ext.trans (by first | exact E | exact E.drew | exact E.drewN _) e3
           clear r3 e3)
        | (with_reducible refine at_slot 20 ?_
           go_simp
           go_at_call 75
           refine (copyTerms_any q.a5 q.c5 p.anti p.anti.length _ rfl (SL5.out _ (by first | exact E | exact E.drew | exact E.drewN _)) HF.out.f5 HF.out.v5).mono ?_
           rintro e w5 ⟨B5, d5, rfl, _, _, e5, r5⟩
           have Y5 : Hid (Ext w3 w5) := Ext.trans (by first | exact Ext.refl _ | exact Ext.drew (Ext.refl _) | exact Ext.drewN (Ext.refl _) _) e5
           have D35 : Hid (∀ x y : Addr, B3 = some x → B5 = some y → x.block ≠ y.block) := fun x y hx hy => by
             have a := (rowz_lt (HR3.out _ (Ext.refl _)) hx).2
             have b : w3.heap.size ≤ y.block := (rowz_lt r5 hy).1
             omega
           have HR5 : Hid (∀ wx, Ext w5 wx → Rowz RTermT 41 3 lo wx B5 d5 p.anti) := fun wx e => (r5.low RTermT.subs (LO.out _ (by first | exact E | exact E.drew | exact E.drewN _))).ext RTermT.keeps e
           replace E := Ext.trans (by first | exact E | exact E.drew | exact E.drewN _) e5
           clear r5 e5)
        | (with_reducible refine at_slot 23 ?_
           go_simp
           go_at_call 75
           refine (copyTerms_any q.a6 q.c6 p.even p.even.length _ rfl (SL6.out _ (by first | exact E | exact E.drew | exact E.drewN _)) HF.out.f6 HF.out.v6).mono ?_
           rintro e w6 ⟨B6, d6, rfl, _, _, e6, r6⟩
           have Y6 : Hid (Ext w5 w6) := Ext.trans (by first | exact Ext.refl _ | exact Ext.drew (Ext.refl _) | exact Ext.drewN (Ext.refl _) _) e6
           have D36 : Hid (∀ x y : Addr, B3 = some x → B6 = some y → x.block ≠ y.block) := fun x y hx hy => by
             have a := (rowz_lt (HR3.out _ (Ext.refl _)) hx).2
             have b : w5.heap.size ≤ y.block := (rowz_lt r6 hy).1
             have c := Y5.out.size
             omega
           have D56 : Hid (∀ x y : Addr, B5 = some x → B6 = some y → x.block ≠ y.block) := fun x y hx hy => by
             have a := (rowz_lt (HR5.out _ (Ext.refl _)) hx).2
             have b : w5.heap.size ≤ y.block := (rowz_lt r6 hy).1
             omega
           have HR6 : Hid (∀ wx, Ext w6 wx → Rowz RTermT 41 3 lo wx B6 d6 p.even) := fun wx e => (r6.low RTermT.subs (LO.out _ (by first | exact E | exact E.drew | exact E.drewN _))).ext RTermT.keeps e
           replace E := Ext.trans (by first | exact E | exact E.drew | exact E.drewN _) e6
           clear r6 e6))
      all_goals (
        go_wp2_with fail
        go_meet
        case rel => exact ⟨rfl, FIN2.out w6 B3 d3 B5 d5 B6 d6 E (HR3.out _ (Y5.out.trans Y6.out)) (HR5.out _ Y6.out) (HR6.out _ (Ext.refl _)) D35.out D36.out D56.out⟩)
    case rest =>
      obtain ⟨rfl, B1, d1, B2, d2, B4, d4, B3, d3, B5, d5, B6, d6, hx, hb1, hb2, ow⟩ := hcut
      have FIN : Hid (CPPost p w (.returned (.agg #[.string p.name, .int .i64 p.uid, .int .i64 p.prio, .int .i64 p.req.a, .int .i64 p.req.b, .int .i64 p.req.c, .slice B1 p.ports.length d1, .slice B2 p.labels.length d2, .slice B3 p.sel.length d3, .slice B4 p.tols.length d4, .string p.topo, .slice B5 p.anti.length d5, .int .i64 p.skew, .slice B6 p.even.length d6, .string p.node, .int .i64 p.term])) ((((((((((((((((wc.setCell ⟨n2, 0, none⟩ (.string p.name)).setCell ⟨n2, 1, none⟩ (.int .i64 p.uid)).setCell ⟨n2, 2, none⟩ (.int .i64 p.prio)).setCell ⟨n2, 3, none⟩ (.int .i64 p.req.a)).setCell ⟨n2, 4, none⟩ (.int .i64 p.req.b)).setCell ⟨n2, 5, none⟩ (.int .i64 p.req.c)).setCell ⟨n2, 6, none⟩ (.slice B1 p.ports.length d1)).setCell ⟨n2, 7, none⟩ (.slice B2 p.labels.length d2)).setCell ⟨n2, 8, none⟩ (.slice B3 p.sel.length d3)).setCell ⟨n2, 9, none⟩ (.slice B4 p.tols.length d4)).setCell ⟨n2, 10, none⟩ (.string p.topo)).setCell ⟨n2, 11, none⟩ (.slice B5 p.anti.length d5)).setCell ⟨n2, 12, none⟩ (.int .i64 p.skew)).setCell ⟨n2, 13, none⟩ (.slice B6 p.even.length d6)).setCell ⟨n2, 14, none⟩ (.string p.node)).setCell ⟨n2, 15, none⟩ (.int .i64 p.term))) := by
        obtain ⟨l1, l2, l3, l4, l5, l6⟩ := LN.out
        exact ⟨⟨B1, d1, B2, d2, B3, d3, B4, d4, B5, d5, B6, d6⟩, rfl, ((((((((((((((((hx.setCell (p := ⟨n2, 0, none⟩) l5 _).setCell (p := ⟨n2, 1, none⟩) l5 _).setCell (p := ⟨n2, 2, none⟩) l5 _).setCell (p := ⟨n2, 3, none⟩) l5 _).setCell (p := ⟨n2, 4, none⟩) l5 _).setCell (p := ⟨n2, 5, none⟩) l5 _).setCell (p := ⟨n2, 6, none⟩) l5 _).setCell (p := ⟨n2, 7, none⟩) l5 _).setCell (p := ⟨n2, 8, none⟩) l5 _).setCell (p := ⟨n2, 9, none⟩) l5 _).setCell (p := ⟨n2, 10, none⟩) l5 _).setCell (p := ⟨n2, 11, none⟩) l5 _).setCell (p := ⟨n2, 12, none⟩) l5 _).setCell (p := ⟨n2, 13, none⟩) l5 _).setCell (p := ⟨n2, 14, none⟩) l5 _).setCell (p := ⟨n2, 15, none⟩) l5 _), (((((((((((((((((ow.far l2 0 _).far l2 1 _).far l2 2 _).far l2 3 _).far l2 4 _).far l2 5 _).far l2 6 _).far l2 7 _).far l2 8 _).far l2 9 _).far l2 10 _).far l2 11 _).far l2 12 _).far l2 13 _).far l2 14 _).far l2 15 _)).low l6⟩
      have HS : Hid (WB ((((((((((((((((wc.setCell ⟨n2, 0, none⟩ (.string p.name)).setCell ⟨n2, 1, none⟩ (.int .i64 p.uid)).setCell ⟨n2, 2, none⟩ (.int .i64 p.prio)).setCell ⟨n2, 3, none⟩ (.int .i64 p.req.a)).setCell ⟨n2, 4, none⟩ (.int .i64 p.req.b)).setCell ⟨n2, 5, none⟩ (.int .i64 p.req.c)).setCell ⟨n2, 6, none⟩ (.slice B1 p.ports.length d1)).setCell ⟨n2, 7, none⟩ (.slice B2 p.labels.length d2)).setCell ⟨n2, 8, none⟩ (.slice B3 p.sel.length d3)).setCell ⟨n2, 9, none⟩ (.slice B4 p.tols.length d4)).setCell ⟨n2, 10, none⟩ (.string p.topo)).setCell ⟨n2, 11, none⟩ (.slice B5 p.anti.length d5)).setCell ⟨n2, 12, none⟩ (.int .i64 p.skew)).setCell ⟨n2, 13, none⟩ (.slice B6 p.even.length d6)).setCell ⟨n2, 14, none⟩ (.string p.node)).setCell ⟨n2, 15, none⟩ (.int .i64 p.term)) n2 66 #[.string p.name, .int .i64 p.uid, .int .i64 p.prio, .int .i64 p.req.a, .int .i64 p.req.b, .int .i64 p.req.c, .slice B1 p.ports.length d1, .slice B2 p.labels.length d2, .slice B3 p.sel.length d3, .slice B4 p.tols.length d4, .string p.topo, .slice B5 p.anti.length d5, .int .i64 p.skew, .slice B6 p.even.length d6, .string p.node, .int .i64 p.term]) := WB.set16 hb2 (.string p.name) (.int .i64 p.uid) (.int .i64 p.prio) (.int .i64 p.req.a) (.int .i64 p.req.b) (.int .i64 p.req.c) (.slice B1 p.ports.length d1) (.slice B2 p.labels.length d2) (.slice B3 p.sel.length d3) (.slice B4 p.tols.length d4) (.string p.topo) (.slice B5 p.anti.length d5) (.int .i64 p.skew) (.slice B6 p.even.length d6) (.string p.node) (.int .i64 p.term)
      have y0 := hb2.fr 0
      have y1 := hb2.fr 1
      have y2 := hb2.fr 2
      have y3 := hb2.fr 3
      have y4 := hb2.fr 4
      have y5 := hb2.fr 5
      have y6 := hb2.fr 6
      have y7 := hb2.fr 7
      have y8 := hb2.fr 8
      have y9 := hb2.fr 9
      have y10 := hb2.fr 10
      have y11 := hb2.fr 11
      have y12 := hb2.fr 12
      have y13 := hb2.fr 13
      have y14 := hb2.fr 14
      have y15 := hb2.fr 15
      have x0 := hb2.cell (i := 0) rfl
      have x1 := hb2.cell (i := 1) rfl
      have x2 := hb2.cell (i := 2) rfl
      have x3 := hb2.cell (i := 3) rfl
      have x4 := hb2.cell (i := 4) rfl
      have x5 := hb2.cell (i := 5) rfl
      have x6 := hb2.cell (i := 6) rfl
      have x7 := hb2.cell (i := 7) rfl
      have x8 := hb2.cell (i := 8) rfl
      have x9 := hb2.cell (i := 9) rfl
      have x10 := hb2.cell (i := 10) rfl
      have x11 := hb2.cell (i := 11) rfl
      have x12 := hb2.cell (i := 12) rfl
      have x13 := hb2.cell (i := 13) rfl
      have x14 := hb2.cell (i := 14) rfl
      have x15 := hb2.cell (i := 15) rfl
      have b0 := hb1.cell (i := 0) rfl
      have b1 := hb1.cell (i := 1) rfl
      have b2 := hb1.cell (i := 2) rfl
      have b3 := hb1.cell (i := 3) rfl
      have b4 := hb1.cell (i := 4) rfl
      have b5 := hb1.cell (i := 5) rfl
      have b6 := hb1.cell (i := 6) rfl
      have b7 := hb1.cell (i := 7) rfl
      have b8 := hb1.cell (i := 8) rfl
      have b9 := hb1.cell (i := 9) rfl
      have b10 := hb1.cell (i := 10) rfl
      have b11 := hb1.cell (i := 11) rfl
      have b12 := hb1.cell (i := 12) rfl
      have b13 := hb1.cell (i := 13) rfl
      have b14 := hb1.cell (i := 14) rfl
      have b15 := hb1.cell (i := 15) rfl
      clear E FIN2 HR1 HR2 HR4 k3 k5 k6 z3 z5 z6 SL3 SL5 SL6 HB1 HB2 XX LO LN HF hx hb1 hb2 ow
      go_wp2_with fail
      have f : WB ((((((((((((((((wc.setCell ⟨n2, 0, none⟩ (.string p.name)).setCell ⟨n2, 1, none⟩ (.int .i64 p.uid)).setCell ⟨n2, 2, none⟩ (.int .i64 p.prio)).setCell ⟨n2, 3, none⟩ (.int .i64 p.req.a)).setCell ⟨n2, 4, none⟩ (.int .i64 p.req.b)).setCell ⟨n2, 5, none⟩ (.int .i64 p.req.c)).setCell ⟨n2, 6, none⟩ (.slice B1 p.ports.length d1)).setCell ⟨n2, 7, none⟩ (.slice B2 p.labels.length d2)).setCell ⟨n2, 8, none⟩ (.slice B3 p.sel.length d3)).setCell ⟨n2, 9, none⟩ (.slice B4 p.tols.length d4)).setCell ⟨n2, 10, none⟩ (.string p.topo)).setCell ⟨n2, 11, none⟩ (.slice B5 p.anti.length d5)).setCell ⟨n2, 12, none⟩ (.int .i64 p.skew)).setCell ⟨n2, 13, none⟩ (.slice B6 p.even.length d6)).setCell ⟨n2, 14, none⟩ (.string p.node)).setCell ⟨n2, 15, none⟩ (.int .i64 p.term)) n2 66 #[.string p.name, .int .i64 p.uid, .int .i64 p.prio, .int .i64 p.req.a, .int .i64 p.req.b, .int .i64 p.req.c, .slice B1 p.ports.length d1, .slice B2 p.labels.length d2, .slice B3 p.sel.length d3, .slice B4 p.tols.length d4, .string p.topo, .slice B5 p.anti.length d5, .int .i64 p.skew, .slice B6 p.even.length d6, .string p.node, .int .i64 p.term] := HS.out
      obtain ⟨WF, hWF⟩ : ∃ W, ((((((((((((((((wc.setCell ⟨n2, 0, none⟩ (.string p.name)).setCell ⟨n2, 1, none⟩ (.int .i64 p.uid)).setCell ⟨n2, 2, none⟩ (.int .i64 p.prio)).setCell ⟨n2, 3, none⟩ (.int .i64 p.req.a)).setCell ⟨n2, 4, none⟩ (.int .i64 p.req.b)).setCell ⟨n2, 5, none⟩ (.int .i64 p.req.c)).setCell ⟨n2, 6, none⟩ (.slice B1 p.ports.length d1)).setCell ⟨n2, 7, none⟩ (.slice B2 p.labels.length d2)).setCell ⟨n2, 8, none⟩ (.slice B3 p.sel.length d3)).setCell ⟨n2, 9, none⟩ (.slice B4 p.tols.length d4)).setCell ⟨n2, 10, none⟩ (.string p.topo)).setCell ⟨n2, 11, none⟩ (.slice B5 p.anti.length d5)).setCell ⟨n2, 12, none⟩ (.int .i64 p.skew)).setCell ⟨n2, 13, none⟩ (.slice B6 p.even.length d6)).setCell ⟨n2, 14, none⟩ (.string p.node)).setCell ⟨n2, 15, none⟩ (.int .i64 p.term)) = W := ⟨_, rfl⟩
      rw [hWF] at f FIN ⊢
      have f0 := f.cell (i := 0) rfl
      have f1 := f.cell (i := 1) rfl
      have f2 := f.cell (i := 2) rfl
      have f3 := f.cell (i := 3) rfl
      have f4 := f.cell (i := 4) rfl
      have f5 := f.cell (i := 5) rfl
      have f6 := f.cell (i := 6) rfl
      have f7 := f.cell (i := 7) rfl
      have f8 := f.cell (i := 8) rfl
      have f9 := f.cell (i := 9) rfl
      have f10 := f.cell (i := 10) rfl
      have f11 := f.cell (i := 11) rfl
      have f12 := f.cell (i := 12) rfl
      have f13 := f.cell (i := 13) rfl
      have f14 := f.cell (i := 14) rfl
      have f15 := f.cell (i := 15) rfl
      clear hWF HS f
      refine bodyPost_ret (v := .agg #[.string p.name, .int .i64 p.uid, .int .i64 p.prio, .int .i64 p.req.a, .int .i64 p.req.b, .int .i64 p.req.c, .slice B1 p.ports.length d1, .slice B2 p.labels.length d2, .slice B3 p.sel.length d3, .slice B4 p.tols.length d4, .string p.topo, .slice B5 p.anti.length d5, .int .i64 p.skew, .slice B6 p.even.length d6, .string p.node, .int .i64 p.term]) (by simp [results, Tryz.results45, go_sem, f0, f1, f2, f3, f4, f5, f6, f7, f8, f9, f10, f11, f12, f13, f14, f15]) rfl ?_
      exact FIN.out
end Go.Proofs.YthfafenigjldlaaGreat
