/-
  The walk of package code's GetNode (printed by mknode.py).
-/
import Derived.Test.YthfafenigjldlaaGreatNode2
import Derived.Test.YthfafenigjldlaaGreatGet7
namespace Go.Proofs.YthfafenigjldlaaGreat
open Go.RowKit
set_option linter.unusedVariables false

def nodOut (bs : List UInt8) : Nd := if nodG bs then (nodR bs).node else zeroNd
def NDPost (bs : List UInt8) (w : World) (e : Ending) (w' : World) : Prop :=
  ∃ q : NA, e = .returned (.tuple #[.agg (nodeC (nodOut bs) q).toArray, .bool (nodG bs)]) ∧ Ext w w' ∧ NodeOk w' (nodOut bs) q
def nq0 : NA := ⟨none, 0, none, 0⟩
theorem zeroNd_ok (w : World) : NodeOk w zeroNd nq0 := by
  have h1 : okS (⟨#[]⟩ : ByteArray) := Nat.zero_le _
  have h2 : inI 0 := ⟨by omega, by omega⟩
  exact ⟨h1, ⟨h2, h2, h2⟩, Sl.nil, Sl.nil, Nat.zero_le _, Nat.zero_le _, Nat.zero_le _, Nat.zero_le _⟩
theorem WB.set6 {w : World} {g : Nat} {T : TypeId} {a0 a1 a2 a3 a4 a5 : Value} (h : WB w g T #[a0, a1, a2, a3, a4, a5]) (v0 v1 v2 v3 v4 v5 : Value) :
    WB ((((((w.setCell ⟨g, 0, none⟩ v0).setCell ⟨g, 1, none⟩ v1).setCell ⟨g, 2, none⟩ v2).setCell ⟨g, 3, none⟩ v3).setCell ⟨g, 4, none⟩ v4).setCell ⟨g, 5, none⟩ v5) g T #[v0, v1, v2, v3, v4, v5] := by
  have := (((((h.set 0 v0).set 1 v1).set 2 v2).set 3 v3).set 4 v4).set 5 v5
  simpa using this
theorem Ext.set6 {a w : World} {g : Nat} (h : Ext a w) (hg : a.heap.size ≤ g) (v0 v1 v2 v3 v4 v5 : Value) :
    Ext a ((((((w.setCell ⟨g, 0, none⟩ v0).setCell ⟨g, 1, none⟩ v1).setCell ⟨g, 2, none⟩ v2).setCell ⟨g, 3, none⟩ v3).setCell ⟨g, 4, none⟩ v4).setCell ⟨g, 5, none⟩ v5) :=
  (((((h.setCell hg _).setCell hg _).setCell hg _).setCell hg _).setCell hg _).setCell hg _

set_option maxRecDepth 100000 in
set_option maxHeartbeats 8000000 in
theorem getNode_any (A : Option Addr) (c : Nat) (bs : List UInt8) (w : World) (hc : ByF A bs w) (hl : bs.length ≤ 140737488355328) :
    Calls Tryz.prog 53 #[.slice A bs.length c] w (NDPost bs w) := by
  have HF : Hid (∀ wx, Ext w wx → ByF A bs wx) := fun wx e => hc.ext e
  clear hc
  obtain ⟨R, hR⟩ : ∃ R, R = nodR bs := ⟨_, rfl⟩
  have HG : Hid (nodG bs = (!R.s5.2.2 && R.s5.2.1.isEmpty && decide (bs ≠ []) && (putNodeB R.node == bs))) := by rw [hR]; rfl
  have FIN : Hid (∀ wx q, nodG bs = true → Ext w wx → NodeOk wx R.node q → NDPost bs w (.returned (.tuple #[.agg #[.string R.s2.1, .int .i64 R.s3.1.a, .int .i64 R.s3.1.b, .int .i64 R.s3.1.c, .slice q.a1 R.s4.1.length q.c1, .slice q.a2 R.s5.1.length q.c2], .bool true])) wx) := fun wx q h e ok => by
    have hp : nodOut bs = R.node := by unfold nodOut; rw [if_pos h, hR]
    refine ⟨q, ?_, e, ?_⟩
    · rw [hp, h]; rfl
    · rw [hp]; exact ok
  have NO0 : Hid (∀ wx, nodG bs = false → Ext w wx → NDPost bs w (.returned (.tuple #[.agg #[.string ⟨#[]⟩, .int .i64 0, .int .i64 0, .int .i64 0, .slice none 0 0, .slice none 0 0], .bool false])) wx) := fun wx h e => by
    have hp : nodOut bs = zeroNd := by unfold nodOut; rw [if_neg (by rw [h]; decide)]
    refine ⟨nq0, ?_, e, ?_⟩
    · rw [hp, h]; rfl
    · rw [hp]; exact zeroNd_ok wx
  clear hR
  have HE0 : Hid (∀ o, Ext w (w.alloc o)) := fun o => (Ext.refl _).alloc o
  go_enter Tryz.func53, Tryz.ntmps53
  go_wp2_with fail
  obtain ⟨n0, hn0⟩ : ∃ n, n = w.heap.size := ⟨_, rfl⟩
  obtain ⟨W0, hW0⟩ : ∃ W, w.alloc (.cells #[.string ⟨#[]⟩, .int .i64 0, .int .i64 0, .int .i64 0, .slice none 0 0, .slice none 0 0] 68) = W := ⟨_, rfl⟩
  have HN0 : Hid (WB W0 n0 68 #[.string ⟨#[]⟩, .int .i64 0, .int .i64 0, .int .i64 0, .slice none 0 0, .slice none 0 0]) := by show WB _ _ _ _; rw [← hW0, hn0]; exact WB.new _ _ _
  have HE : Hid (Ext w W0) := by show Ext _ _; rw [← hW0]; exact HE0.out _
  have HNS : Hid (w.heap.size ≤ n0) := by show _ ≤ _; omega
  rw [← hn0, hW0]
  clear hn0 HE0
  refine (newReader_any _ _ bs _ (HF.out _ HE.out) hl).mono ?_
  rintro e w1 ⟨g, rfl, hg, e1, r1⟩
  have HN1 : Hid (WB w1 n0 68 #[.string ⟨#[]⟩, .int .i64 0, .int .i64 0, .int .i64 0, .slice none 0 0, .slice none 0 0]) := HN0.out.ext e1
  have HGN : Hid (n0 ≠ g ∧ w.heap.size ≤ g) := by have := HN0.out.lt; have := HE.out.size; exact ⟨by omega, by omega⟩
  have HE1 : Hid (Ext w w1) := HE.out.trans e1
  clear e1 hg hW0 HE HN0
  go_wp2_with fail
  refine (rdNumI g false bs false 1 _ (by omega) (by omega) r1).mono ?_
  rintro e w2 ⟨rfl, k2, r2⟩
  rw [show (1 : Int).toNat = 1 from rfl] at r2 ⊢
  rw [← R.e1] at r2 ⊢
  clear r1
  go_wp2_with fail
  refine (rdName_any g false _ _ _ r2).mono ?_
  rintro e w3 ⟨rfl, k3, r3⟩
  rw [← R.e2] at r3 ⊢
  replace k3 := k2.trans k3
  clear k2 r2
  go_wp2_with fail
  refine (getRes_any g true _ _ _ r3).mono ?_
  rintro e w6 ⟨rfl, k6, r6⟩
  rw [← R.e3] at r6 ⊢
  replace k6 := k3.trans k6
  clear k3 r3
  go_wp2_with fail
  have HN6 : Hid (WB w6 n0 68 #[.string ⟨#[]⟩, .int .i64 0, .int .i64 0, .int .i64 0, .slice none 0 0, .slice none 0 0]) := WB.keep (S := fun k => k = g) HN1.out k6 HGN.out.1
  have HE6 : Hid (Ext w w6) := Below.trans HE1.out (k6.toExt' HGN.out.2 HE1.out.size)
  clear k6 HN1 HE1
  obtain ⟨bx, hbx⟩ : ∃ n, n = w6.heap.size := ⟨_, rfl⟩
  obtain ⟨w7, hw7⟩ : ∃ W, w6.alloc (.cells #[.string R.s2.1, .int .i64 R.s3.1.a, .int .i64 R.s3.1.b, .int .i64 R.s3.1.c, .slice none 0 0, .slice none 0 0] 68) = W := ⟨_, rfl⟩
  have HNX : Hid (n0 < bx) := by show _ < _; rw [hbx]; exact HN6.out.lt
  have HN7 : Hid (WB w7 n0 68 #[.string ⟨#[]⟩, .int .i64 0, .int .i64 0, .int .i64 0, .slice none 0 0, .slice none 0 0]) := by show WB _ _ _ _; rw [← hw7]; exact HN6.out.alloc _
  have HB7 : Hid (WB w7 bx 68 #[.string R.s2.1, .int .i64 R.s3.1.a, .int .i64 R.s3.1.b, .int .i64 R.s3.1.c, .slice none 0 0, .slice none 0 0]) := by show WB _ _ _ _; rw [← hw7, hbx]; exact WB.new _ _ _
  have HE7 : Hid (Ext w w7) := by show Ext _ _; rw [← hw7]; exact HE6.out.alloc _
  have hbg : Hid (bx ≠ g) := by have := r6.lt; show bx ≠ g; omega
  have HBS : Hid (w.heap.size ≤ bx) := by show _ ≤ _; rw [hbx]; exact HE6.out.size
  have r7 : Rd w7 g true R.s3.2.1 R.s3.2.2 := by rw [← hw7]; exact r6.other ((Ext.refl _).alloc _)
  rw [← hbx] at ⊢
  rw [hw7]
  clear r6 hbx hw7 HN6 HE6
  have hgb : Hid (g < w7.heap.size ∧ bx < w7.heap.size ∧ n0 < w7.heap.size) := ⟨r7.lt, HB7.out.lt, HN7.out.lt⟩
  refine (getPair_any g _ _ _ r7).mono ?_
  rintro e wn ⟨v, rfl, own, kn, rn⟩
  rw [← R.e4] at rn own
  obtain ⟨bn, gs⟩ := gset (n0 := n0) kn HB7.out rn hbg.out (by decide) (by decide)
  clear rn r7
  have hok : ∀ x ∈ R.s4.1, okS x.key ∧ okS x.val := by rw [R.e4]; unfold pairsF; exact pairsFrom_ok _ _ _
  obtain ⟨A1, c1, rfl, l2, m2, hs⟩ := got_pairs rfl own hgb.out.1 hgb.out.2.1 hgb.out.2.2 hok
  clear own hok hgb
  have HS := Lib.hid hs
  have HL4 : Hid (R.s4.1.length ≤ c1 ∧ c1 ≤ maxLen) := ⟨l2, m2⟩
  clear hs l2 m2
  have z := bn.fr 4
  have cc := bn.cell (i := 4) rfl
  have GS := Lib.hid gs
  clear gs
  go_wp2_with fail
  obtain ⟨w9, hw⟩ : ∃ x, wn.setCell ⟨bx, 4, none⟩ (.slice A1 R.s4.1.length c1) = x := ⟨_, rfl⟩
  rw [hw]
  have HB9 : Hid (WB w9 bx 68 #[.string R.s2.1, .int .i64 R.s3.1.a, .int .i64 R.s3.1.b, .int .i64 R.s3.1.c, .slice A1 R.s4.1.length c1, .slice none 0 0]) := by show WB _ _ _ _; rw [← hw]; exact (GS.out 4 _).1
  have r9 : Rd w9 g true R.s4.2.1 R.s4.2.2 := by rw [← hw]; exact (GS.out 4 _).2.1
  have K9 : Hid (Keep (GB g bx n0) w7 w9) := by show Keep _ _ _; rw [← hw]; exact (GS.out 4 _).2.2
  have KS : Hid (Keep (GB g bx n0) wn w9) := by show Keep _ _ _; rw [← hw]; exact (Keep.refl _ _).gbSet 4 _
  have HN9 : Hid (WB w9 n0 68 #[.string ⟨#[]⟩, .int .i64 0, .int .i64 0, .int .i64 0, .slice none 0 0, .slice none 0 0]) := by show WB _ _ _ _; rw [← hw]; exact (WB.keep (S := fun k => k = g) HN7.out kn HGN.out.1).far (by have := HNX.out; show n0 ≠ bx; omega) _
  have HE9 : Hid (Ext w w9) := by show Ext _ _; rw [← hw]; exact (Below.trans HE7.out (kn.toExt' HGN.out.2 HE7.out.size)).setCell (p := ⟨bx, 4, none⟩) HBS.out _
  clear hw GS z cc bn kn HN7 HE7
  have HS4 : Hid (∀ wx, Keep (GB g bx n0) w9 wx → Sl RPair 2 wx A1 R.s4.1) := fun wx k => HS.out wx (KS.out.trans k)
  clear KS HS HB7
  have hgb : Hid (g < w9.heap.size ∧ bx < w9.heap.size ∧ n0 < w9.heap.size) := ⟨r9.lt, HB9.out.lt, HN9.out.lt⟩
  refine (getTaint_any g _ _ _ r9).mono ?_
  rintro e wn ⟨v, rfl, own, kn, rn⟩
  rw [← R.e5] at rn own
  obtain ⟨bn, gs⟩ := gset (n0 := n0) kn HB9.out rn hbg.out (by decide) (by decide)
  clear rn r9
  have hok : ∀ x ∈ R.s5.1, okS x.key ∧ okS x.val := by rw [R.e5]; unfold pairsF; exact pairsFrom_ok _ _ _
  obtain ⟨A2, c2, rfl, l2, m2, hs⟩ := got_pairs rfl own hgb.out.1 hgb.out.2.1 hgb.out.2.2 hok
  clear own hok hgb
  have HS := Lib.hid hs
  have HL5 : Hid (R.s5.1.length ≤ c2 ∧ c2 ≤ maxLen) := ⟨l2, m2⟩
  clear hs l2 m2
  have z := bn.fr 5
  have cc := bn.cell (i := 5) rfl
  have GS := Lib.hid gs
  clear gs
  go_wp2_with fail
  obtain ⟨w5, hw⟩ : ∃ x, wn.setCell ⟨bx, 5, none⟩ (.slice A2 R.s5.1.length c2) = x := ⟨_, rfl⟩
  rw [hw]
  have HB5 : Hid (WB w5 bx 68 #[.string R.s2.1, .int .i64 R.s3.1.a, .int .i64 R.s3.1.b, .int .i64 R.s3.1.c, .slice A1 R.s4.1.length c1, .slice A2 R.s5.1.length c2]) := by show WB _ _ _ _; rw [← hw]; exact (GS.out 5 _).1
  have r5 : Rd w5 g true R.s5.2.1 R.s5.2.2 := by rw [← hw]; exact (GS.out 5 _).2.1
  have K5 : Hid (Keep (GB g bx n0) w9 w5) := by show Keep _ _ _; rw [← hw]; exact (GS.out 5 _).2.2
  have KS : Hid (Keep (GB g bx n0) wn w5) := by show Keep _ _ _; rw [← hw]; exact (Keep.refl _ _).gbSet 5 _
  have HN5 : Hid (WB w5 n0 68 #[.string ⟨#[]⟩, .int .i64 0, .int .i64 0, .int .i64 0, .slice none 0 0, .slice none 0 0]) := by show WB _ _ _ _; rw [← hw]; exact (WB.keep (S := fun k => k = g) HN9.out kn HGN.out.1).far (by have := HNX.out; show n0 ≠ bx; omega) _
  have HE5 : Hid (Ext w w5) := by show Ext _ _; rw [← hw]; exact (Below.trans HE9.out (kn.toExt' HGN.out.2 HE9.out.size)).setCell (p := ⟨bx, 5, none⟩) HBS.out _
  clear hw GS z cc bn kn HN9 HE9
  have HS5 : Hid (∀ wx, Keep (GB g bx n0) w5 wx → Sl RPair 2 wx A2 R.s5.1) := fun wx k => HS.out wx (KS.out.trans k)
  clear KS HS HB9
  have HS4' : Hid (∀ wx, Keep (GB g bx n0) w5 wx → Sl RPair 2 wx A1 R.s4.1) := fun wx k => HS4.out wx (K5.out.trans k)
  clear HS4
  refine (rdEnd_any g true _ _ _ r5).mono ?_
  rintro e w6 ⟨rfl, rfl⟩
  have HX : Hid (∀ wx, Ext w5 wx → Ext w wx) := fun wx e => HE5.out.trans e
  have NO : Hid (∀ wx, nodG bs = false → Ext w wx → NDPost bs w (.returned (.tuple #[.agg #[.string ⟨#[]⟩, .int .i64 0, .int .i64 0, .int .i64 0, .slice none 0 0, .slice none 0 0], .bool false])) ((((((wx.setCell ⟨n0, 0, none⟩ (.string ⟨#[]⟩)).setCell ⟨n0, 1, none⟩ (.int .i64 0)).setCell ⟨n0, 2, none⟩ (.int .i64 0)).setCell ⟨n0, 3, none⟩ (.int .i64 0)).setCell ⟨n0, 4, none⟩ (.slice none 0 0)).setCell ⟨n0, 5, none⟩ (.slice none 0 0))) := fun wx h e => NO0.out _ h (e.set6 HNS.out _ _ _ _ _ _)
  have HOK : Hid (∀ wx, Keep (GB g bx n0) w5 wx → NodeOk wx R.node ⟨A1, c1, A2, c2⟩) := fun wx k => by
    have h1 : okS R.s2.1 := by rw [R.e2]; exact nameFR_ok _ _
    have h2 : okR R.s3.1 := by rw [R.e3]; exact ⟨numF_inI _ _ _, numF_inI _ _ _, numF_inI _ _ _⟩
    exact ⟨h1, h2, HS4'.out wx k, HS5.out wx k, HL4.out.1, HL4.out.2, HL5.out.1, HL5.out.2⟩
  by_cases hb : (!R.s5.2.2 && R.s5.2.1.isEmpty) = true
  case neg =>
    have hb' : (!R.s5.2.2 && R.s5.2.1.isEmpty) = false := by simpa using hb
    have hG : nodG bs = false := by rw [HG.out, hb']; rfl
    have HGF := Lib.hid hG
    rw [hb']
    clear hb hb' hG r5
    have n0c := HN5.out.ext (Ext.refl _)
    have F := Lib.hid (NO.out _ HGF.out (HX.out _ (Ext.refl _)))
    have z0 := n0c.fr 0
    have z1 := n0c.fr 1
    have z2 := n0c.fr 2
    have z3 := n0c.fr 3
    have z4 := n0c.fr 4
    have z5 := n0c.fr 5
    have y0 := n0c.cell (i := 0) rfl
    have y1 := n0c.cell (i := 1) rfl
    have y2 := n0c.cell (i := 2) rfl
    have y3 := n0c.cell (i := 3) rfl
    have y4 := n0c.cell (i := 4) rfl
    have y5 := n0c.cell (i := 5) rfl
    go_wp2_with fail
    have f := n0c.set6 (.string ⟨#[]⟩) (.int .i64 0) (.int .i64 0) (.int .i64 0) (.slice none 0 0) (.slice none 0 0)
    have f0 := f.cell (i := 0) rfl
    have f1 := f.cell (i := 1) rfl
    have f2 := f.cell (i := 2) rfl
    have f3 := f.cell (i := 3) rfl
    have f4 := f.cell (i := 4) rfl
    have f5 := f.cell (i := 5) rfl
    refine bodyPost_ret (v := .tuple #[.agg #[.string ⟨#[]⟩, .int .i64 0, .int .i64 0, .int .i64 0, .slice none 0 0, .slice none 0 0], .bool false]) (by simp [results, Tryz.results53, go_sem, f0, f1, f2, f3, f4, f5]) rfl ?_
    exact F.out
  rw [hb]
  have HBB0 := Lib.hid hb
  clear hb r5
  by_cases h0 : bs = []
  case pos =>
    have HGF : Hid (nodG bs = false) := by show _ = _; rw [HG.out]; simp [h0]
    have hl0 : bs.length = 0 := by rw [h0]; rfl
    have hlz : ((bs.length : Int) == 0) = true := by rw [hl0]; rfl
    clear h0 hl0
    have n0c := HN5.out.ext (Ext.refl _)
    have F := Lib.hid (NO.out _ HGF.out (HX.out _ (Ext.refl _)))
    have z0 := n0c.fr 0
    have z1 := n0c.fr 1
    have z2 := n0c.fr 2
    have z3 := n0c.fr 3
    have z4 := n0c.fr 4
    have z5 := n0c.fr 5
    have y0 := n0c.cell (i := 0) rfl
    have y1 := n0c.cell (i := 1) rfl
    have y2 := n0c.cell (i := 2) rfl
    have y3 := n0c.cell (i := 3) rfl
    have y4 := n0c.cell (i := 4) rfl
    have y5 := n0c.cell (i := 5) rfl
    go_wp2_with fail
    have f := n0c.set6 (.string ⟨#[]⟩) (.int .i64 0) (.int .i64 0) (.int .i64 0) (.slice none 0 0) (.slice none 0 0)
    have f0 := f.cell (i := 0) rfl
    have f1 := f.cell (i := 1) rfl
    have f2 := f.cell (i := 2) rfl
    have f3 := f.cell (i := 3) rfl
    have f4 := f.cell (i := 4) rfl
    have f5 := f.cell (i := 5) rfl
    refine bodyPost_ret (v := .tuple #[.agg #[.string ⟨#[]⟩, .int .i64 0, .int .i64 0, .int .i64 0, .slice none 0 0, .slice none 0 0], .bool false]) (by simp [results, Tryz.results53, go_sem, f0, f1, f2, f3, f4, f5]) rfl ?_
    exact F.out
  have hlz : ((bs.length : Int) == 0) = false := by
    have : 0 < bs.length := List.length_pos_iff.2 h0
    simp; omega
  have hlz' : ¬ ((bs.length : Int) = 0) := by
    have : 0 < bs.length := List.length_pos_iff.2 h0
    omega
  have HH0 := Lib.hid h0
  have b0 := HB5.out.cell (i := 0) rfl
  have b1 := HB5.out.cell (i := 1) rfl
  have b2 := HB5.out.cell (i := 2) rfl
  have b3 := HB5.out.cell (i := 3) rfl
  have b4 := HB5.out.cell (i := 4) rfl
  have b5 := HB5.out.cell (i := 5) rfl
  have PN : Hid (Calls Tryz.prog 50 #[.agg #[.string R.s2.1, .int .i64 R.s3.1.a, .int .i64 R.s3.1.b, .int .i64 R.s3.1.c, .slice A1 R.s4.1.length c1, .slice A2 R.s5.1.length c2]] w5 (ClPost 5 1 (putNodeB R.node).length ((putNodeB R.node).map byV) w5)) := putNode_any R.node ⟨A1, c1, A2, c2⟩ w5 (HOK.out _ (Keep.refl _ _))
  clear h0
  go_wp2_with fail
  refine PN.out.mono ?_
  rintro e w7 ⟨v, rfl, o7, e7⟩
  obtain ⟨A7, c7, rfl, l7, m7, f7⟩ := cl_flat o7
  have H7 := Lib.hid f7
  clear o7 b0 b1 b2 b3 b4 b5
  go_wp2_with fail
  refine (bEqual_any A7 A c7 c _ _ _ H7.out (HF.out _ (HE5.out.trans e7))).mono ?_
  rintro e w8 ⟨bb, rfl, hbb, e8⟩
  have E8 : Hid (Ext w5 w8) := e7.trans e8
  have HBB := Lib.hid hbb
  clear e7 e8 hbb
  cases bb
  case false =>
    have HGF : Hid (nodG bs = false) := by
      have h1 : putNodeB R.node ≠ bs := fun h => absurd (HBB.out.2 h) (by decide)
      show _ = _
      rw [HG.out]
      simp [h1]
    have n0c := HN5.out.ext (E8.out)
    have F := Lib.hid (NO.out _ HGF.out (HX.out _ (E8.out)))
    have z0 := n0c.fr 0
    have z1 := n0c.fr 1
    have z2 := n0c.fr 2
    have z3 := n0c.fr 3
    have z4 := n0c.fr 4
    have z5 := n0c.fr 5
    have y0 := n0c.cell (i := 0) rfl
    have y1 := n0c.cell (i := 1) rfl
    have y2 := n0c.cell (i := 2) rfl
    have y3 := n0c.cell (i := 3) rfl
    have y4 := n0c.cell (i := 4) rfl
    have y5 := n0c.cell (i := 5) rfl
    go_wp2_with fail
    have f := n0c.set6 (.string ⟨#[]⟩) (.int .i64 0) (.int .i64 0) (.int .i64 0) (.slice none 0 0) (.slice none 0 0)
    have f0 := f.cell (i := 0) rfl
    have f1 := f.cell (i := 1) rfl
    have f2 := f.cell (i := 2) rfl
    have f3 := f.cell (i := 3) rfl
    have f4 := f.cell (i := 4) rfl
    have f5 := f.cell (i := 5) rfl
    refine bodyPost_ret (v := .tuple #[.agg #[.string ⟨#[]⟩, .int .i64 0, .int .i64 0, .int .i64 0, .slice none 0 0, .slice none 0 0], .bool false]) (by simp [results, Tryz.results53, go_sem, f0, f1, f2, f3, f4, f5]) rfl ?_
    exact F.out
  have HGT : Hid (nodG bs = true) := by
    have h1 : putNodeB R.node = bs := HBB.out.1 (by first | rfl | trivial)
    show _ = _
    rw [HG.out, HBB0.out, h1]
    simp [HH0.out]
  have n0c := HN5.out.ext E8.out
  have b8 := HB5.out.ext E8.out
  have F : Hid (NDPost bs w (.returned (.tuple #[.agg #[.string R.s2.1, .int .i64 R.s3.1.a, .int .i64 R.s3.1.b, .int .i64 R.s3.1.c, .slice A1 R.s4.1.length c1, .slice A2 R.s5.1.length c2], .bool true])) ((((((w8.setCell ⟨n0, 0, none⟩ (.string R.s2.1)).setCell ⟨n0, 1, none⟩ (.int .i64 R.s3.1.a)).setCell ⟨n0, 2, none⟩ (.int .i64 R.s3.1.b)).setCell ⟨n0, 3, none⟩ (.int .i64 R.s3.1.c)).setCell ⟨n0, 4, none⟩ (.slice A1 R.s4.1.length c1)).setCell ⟨n0, 5, none⟩ (.slice A2 R.s5.1.length c2))) :=
    FIN.out _ ⟨A1, c1, A2, c2⟩ HGT.out ((HE5.out.trans E8.out).set6 HNS.out _ _ _ _ _ _) (HOK.out _ ((((((((Keep.ext E8.out).gbSet0 0 _).gbSet0 1 _).gbSet0 2 _).gbSet0 3 _).gbSet0 4 _).gbSet0 5 _)))
  have z0 := n0c.fr 0
  have z1 := n0c.fr 1
  have z2 := n0c.fr 2
  have z3 := n0c.fr 3
  have z4 := n0c.fr 4
  have z5 := n0c.fr 5
  have y0 := n0c.cell (i := 0) rfl
  have y1 := n0c.cell (i := 1) rfl
  have y2 := n0c.cell (i := 2) rfl
  have y3 := n0c.cell (i := 3) rfl
  have y4 := n0c.cell (i := 4) rfl
  have y5 := n0c.cell (i := 5) rfl
  have b0 := b8.cell (i := 0) rfl
  have b1 := b8.cell (i := 1) rfl
  have b2 := b8.cell (i := 2) rfl
  have b3 := b8.cell (i := 3) rfl
  have b4 := b8.cell (i := 4) rfl
  have b5 := b8.cell (i := 5) rfl
  clear b8
  go_wp2_with fail
  have f := n0c.set6 (.string R.s2.1) (.int .i64 R.s3.1.a) (.int .i64 R.s3.1.b) (.int .i64 R.s3.1.c) (.slice A1 R.s4.1.length c1) (.slice A2 R.s5.1.length c2)
  have f0 := f.cell (i := 0) rfl
  have f1 := f.cell (i := 1) rfl
  have f2 := f.cell (i := 2) rfl
  have f3 := f.cell (i := 3) rfl
  have f4 := f.cell (i := 4) rfl
  have f5 := f.cell (i := 5) rfl
  refine bodyPost_ret (v := .tuple #[.agg #[.string R.s2.1, .int .i64 R.s3.1.a, .int .i64 R.s3.1.b, .int .i64 R.s3.1.c, .slice A1 R.s4.1.length c1, .slice A2 R.s5.1.length c2], .bool true]) (by simp [results, Tryz.results53, go_sem, f0, f1, f2, f3, f4, f5]) rfl ?_
  exact F.out
end Go.Proofs.YthfafenigjldlaaGreat
