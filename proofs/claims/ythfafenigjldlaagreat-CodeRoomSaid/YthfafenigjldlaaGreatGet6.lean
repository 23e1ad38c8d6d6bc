/-
  The walk of package code's GetLease; words for what a getter has read and keeps.
-/
import Derived.Test.YthfafenigjldlaaGreatGet4
import Derived.Test.YthfafenigjldlaaGreatEq2
namespace Go.Proofs.YthfafenigjldlaaGreat
open Go.RowKit
set_option linter.unusedVariables false

/-- the bytes that a call was given -/
def ByF (A : Option Addr) (bs : List UInt8) (w : World) : Prop := Flat w 1 A bs.length (bs.map byV)
theorem ByF.ext {A : Option Addr} {bs : List UInt8} {w w' : World} (h : ByF A bs w) (he : Ext w w') : ByF A bs w' := by
  refine ⟨h.1, fun h0 => ?_⟩
  obtain ⟨b, o, e, hc⟩ := h.2 h0
  exact ⟨b, o, e, fun j u hu => he.cell (hc j u hu)⟩
/-- only new blocks have turned: all that was there is as it was -/
theorem Keep.toExt {S : Nat → Prop} {a w : World} (h : Keep S a w) (hS : ∀ k, k < a.heap.size → ¬ S k) : Ext a w := ⟨h.os, h.tape, h.output, h.size, fun k hk => h.block k hk (hS k hk)⟩
theorem Keep.toExt' {g : Nat} {w a b : World} (h : Keep (fun k => k = g) a b) (hg : w.heap.size ≤ g) (hw : w.heap.size ≤ a.heap.size) : Below w.heap.size a b :=
  ⟨h.os, h.tape, h.output, h.size, fun k hk => h.block k (Nat.lt_of_lt_of_le hk hw) (by omega)⟩
theorem cl_flat {w w' : World} {bs : List UInt8} {v : Value} (h : w'.ownsRow w.heap.size 5 1 v bs.length (bs.map byV)) : ∃ A c, v = .slice A bs.length c ∧ bs.length ≤ c ∧ c ≤ maxLen ∧ ByF A bs w' := by
  rcases h.2 with ⟨rfl, h0⟩ | ⟨g', cap, cur, rfl, hg', hh, hn, hm, hs, ht⟩
  · exact ⟨none, 0, by rw [h0], by omega, by simp [maxLen], h.1, fun h => by omega⟩
  · refine ⟨_, cap, rfl, hn, hm, h.1, fun _ => ⟨g', 0, rfl, fun j u hu => ?_⟩⟩
    have hj : j < (bs.map byV).length := (List.getElem?_eq_some_iff.1 hu).1
    rw [← ht, List.getElem?_take_of_lt (by simpa using hj)] at hu
    simp only [World.cell?, hh, Nat.zero_add]
    simpa using hu

def leaseR1 (bs : List UInt8) : Int × List UInt8 × Bool := numF 1 bs false
def leaseR2 (bs : List UInt8) : Int × List UInt8 × Bool := numF 1 (leaseR1 bs).2.1 (leaseR1 bs).2.2
def leaseR3 (bs : List UInt8) : Int × List UInt8 × Bool := numF 8 (leaseR2 bs).2.1 (leaseR2 bs).2.2
def leaseG (bs : List UInt8) : Bool := !(leaseR3 bs).2.2 && (leaseR3 bs).2.1.isEmpty && decide (bs ≠ []) && (putLeaseB (leaseR2 bs).1 (leaseR3 bs).1 == bs)
def LPost (bs : List UInt8) (w : World) (e : Ending) (w' : World) : Prop :=
  e = .returned (.tuple #[.agg #[.int .i64 (if leaseG bs then (leaseR2 bs).1 else 0), .int .i64 (if leaseG bs then (leaseR3 bs).1 else 0)], .bool (leaseG bs)]) ∧ Ext w w'
theorem numF_inI (s : Nat) (bs : List UInt8) (bad : Bool) : inI (numF s bs bad).1 := by
  unfold numF
  split
  · exact ⟨by simp, by simp⟩
  · show inI (valI _)
    unfold valI inI
    rw [IntKind.wrap_i64 (numVal (bs.take s) : Int)]
    omega

set_option maxRecDepth 20000 in
set_option maxHeartbeats 2000000 in
theorem getLease_any (A : Option Addr) (c : Nat) (bs : List UInt8) (w : World) (hc : ByF A bs w) (hl : bs.length ≤ 140737488355328) :
    Calls Tryz.prog 54 #[.slice A bs.length c] w (LPost bs w) := by
  have HF : Hid (∀ wx, Ext w wx → ByF A bs wx) := fun wx e => hc.ext e
  clear hc
  have HG : Hid (leaseG bs = (!(leaseR3 bs).2.2 && (leaseR3 bs).2.1.isEmpty && decide (bs ≠ []) && (putLeaseB (leaseR2 bs).1 (leaseR3 bs).1 == bs))) := rfl
  have HN2 : Hid (inI (leaseR2 bs).1) := numF_inI _ _ _
  have HN3 : Hid (inI (leaseR3 bs).1) := numF_inI _ _ _
  have HE0 : Hid (∀ o, Ext w (w.alloc o)) := fun o => (Ext.refl _).alloc o
  have HR1 : Hid (leaseR1 bs = numF 1 bs false) := rfl
  have HR2 : Hid (leaseR2 bs = numF 1 (leaseR1 bs).2.1 (leaseR1 bs).2.2) := rfl
  have HR3 : Hid (leaseR3 bs = numF 8 (leaseR2 bs).2.1 (leaseR2 bs).2.2) := rfl
  obtain ⟨q1, hq1⟩ : ∃ q, q = leaseR1 bs := ⟨_, rfl⟩
  obtain ⟨q2, hq2⟩ : ∃ q, q = leaseR2 bs := ⟨_, rfl⟩
  obtain ⟨q3, hq3⟩ : ∃ q, q = leaseR3 bs := ⟨_, rfl⟩
  obtain ⟨u1, s1, b1⟩ := q1
  obtain ⟨k, s2, b2⟩ := q2
  obtain ⟨d, s3, b3⟩ := q3
  have FIN : Hid (∀ wx, Ext w wx → LPost bs w (.returned (.tuple #[.agg #[.int .i64 (if leaseG bs then k else 0), .int .i64 (if leaseG bs then d else 0)], .bool (leaseG bs)])) wx) := fun wx e => by
    have e1 : k = (leaseR2 bs).1 := by rw [← hq2]
    have e2 : d = (leaseR3 bs).1 := by rw [← hq3]
    exact ⟨by rw [e1, e2], e⟩
  rw [← hq3, ← hq2] at HG
  rw [← hq1] at HR1
  rw [← hq1, ← hq2] at HR2
  rw [← hq2, ← hq3] at HR3
  rw [← hq2] at HN2
  rw [← hq3] at HN3
  clear hq1 hq2 hq3
  go_enter Tryz.func54, Tryz.ntmps54
  go_wp2_with fail
  obtain ⟨n0, hn0⟩ : ∃ n, n = w.heap.size := ⟨_, rfl⟩
  obtain ⟨W0, hW0⟩ : ∃ W, w.alloc (.cells #[.int .i64 0, .int .i64 0] 85) = W := ⟨_, rfl⟩
  have HN0 : Hid (WB W0 n0 85 #[.int .i64 0, .int .i64 0]) := by show WB _ _ _ _; rw [← hW0, hn0]; exact WB.new _ _ _
  have HE : Hid (Ext w W0) := by show Ext _ _; rw [← hW0]; exact HE0.out _
  have HNS : Hid (w.heap.size ≤ n0) := by show _ ≤ _; omega
  rw [← hn0, hW0]
  clear hn0 HE0
  refine (newReader_any _ _ bs _ (HF.out _ HE.out) hl).mono ?_
  rintro e w1 ⟨g, rfl, hg, e1, r1⟩
  have HN1 : Hid (WB w1 n0 85 #[.int .i64 0, .int .i64 0]) := HN0.out.ext e1
  have HGN : Hid (n0 ≠ g ∧ w.heap.size ≤ g) := by have := HN0.out.lt; have := HE.out.size; exact ⟨by omega, by omega⟩
  have HE1 : Hid (Ext w w1) := HE.out.trans e1
  clear e1 hg hW0 HE HN0
  go_wp2_with fail
  refine (rdNumI g false bs false 1 _ (by omega) (by omega) r1).mono ?_
  rintro e w2 ⟨rfl, k2, r2⟩
  rw [show (1 : Int).toNat = 1 from rfl, ← HR1.out] at r2 ⊢
  simp only at r2 ⊢
  go_wp2_with fail
  refine (rdNumI g false s1 b1 1 _ (by omega) (by omega) r2).mono ?_
  rintro e w3 ⟨rfl, k3, r3⟩
  rw [show (1 : Int).toNat = 1 from rfl, ← HR2.out] at r3 ⊢
  simp only at r3 ⊢
  replace k3 := k2.trans k3
  clear k2 r2 r1
  go_wp2_with fail
  refine (rdNumI g false s2 b2 8 _ (by omega) (by omega) r3).mono ?_
  rintro e w4 ⟨rfl, k4, r4⟩
  rw [show (8 : Int).toNat = 8 from rfl, ← HR3.out] at r4 ⊢
  simp only at r4 ⊢
  replace k4 := k3.trans k4
  clear k3 r3
  have HN4 : Hid (WB w4 n0 85 #[.int .i64 0, .int .i64 0]) := WB.keep (S := fun k => k = g) HN1.out k4 HGN.out.1
  have HE4 : Hid (Ext w w4) := Below.trans HE1.out (k4.toExt' HGN.out.2 HE1.out.size)
  clear k4 HN1 HE1
  go_wp2_with fail
  obtain ⟨bx, hbx⟩ : ∃ n, n = w4.heap.size := ⟨_, rfl⟩
  obtain ⟨W5, hW5⟩ : ∃ W, w4.alloc (.cells #[.int .i64 k, .int .i64 d] 85) = W := ⟨_, rfl⟩
  have HN5 : Hid (WB W5 n0 85 #[.int .i64 0, .int .i64 0]) := by show WB _ _ _ _; rw [← hW5]; exact HN4.out.alloc _
  have HB5 : Hid (WB W5 bx 85 #[.int .i64 k, .int .i64 d]) := by show WB _ _ _ _; rw [← hW5, hbx]; exact WB.new _ _ _
  have HE5 : Hid (Ext w W5) := by show Ext _ _; rw [← hW5]; exact HE4.out.alloc _
  have r5 : Rd W5 g false s3 b3 := by rw [← hW5]; exact r4.other ((Ext.refl _).alloc _)
  rw [← hbx] at ⊢
  try rw [hW5]
  clear r4 hbx hW5 HN4 HE4
  refine (rdEnd_any g false s3 b3 _ r5).mono ?_
  rintro e w6 ⟨rfl, rfl⟩
  have NO : Hid (leaseG bs = false → ∀ wx, Ext W5 wx → LPost bs w (.returned (.tuple #[.agg #[.int .i64 0, .int .i64 0], .bool false])) ((wx.setCell ⟨n0, 0, none⟩ (.int .i64 0)).setCell ⟨n0, 1, none⟩ (.int .i64 0))) := fun h wx e => by
    have := FIN.out _ (((HE5.out.trans e).setCell (p := ⟨n0, 0, none⟩) HNS.out (.int .i64 0)).setCell (p := ⟨n0, 1, none⟩) HNS.out (.int .i64 0))
    simp only [h] at this
    simpa using this
  by_cases hb : (!b3 && s3.isEmpty) = true
  case neg =>
    have hb' : (!b3 && s3.isEmpty) = false := by simpa using hb
    have hG : leaseG bs = false := by rw [HG.out, hb']; rfl
    have HGF := Lib.hid hG
    rw [hb']
    clear hb hb' hG r5
    have n0c := HN5.out.ext (Ext.refl _)
    have F := Lib.hid (NO.out HGF.out _ (Ext.refl _))
    have z0 := n0c.fr 0
    have z1 := n0c.fr 1
    have c0 := n0c.cell (i := 0) rfl
    have c1 := n0c.cell (i := 1) rfl
    go_wp2_with fail
    have f := (n0c.set 0 (.int .i64 0)).set 1 (.int .i64 0)
    have f0 := f.cell (i := 0) rfl
    have f1 := f.cell (i := 1) rfl
    refine bodyPost_ret (v := .tuple #[.agg #[.int .i64 0, .int .i64 0], .bool false]) (by simp [results, Tryz.results54, go_sem, f0, f1]) rfl ?_
    exact F.out
  rw [hb]
  have HBS := Lib.hid hb
  clear hb r5
  by_cases h0 : bs = []
  case pos =>
    have HGF : Hid (leaseG bs = false) := by show _ = _; rw [HG.out]; simp [h0]
    have hl0 : bs.length = 0 := by rw [h0]; rfl
    have hlz : ((bs.length : Int) == 0) = true := by rw [hl0]; rfl
    clear h0 hl0
    have n0c := HN5.out.ext (Ext.refl _)
    have F := Lib.hid (NO.out HGF.out _ (Ext.refl _))
    have z0 := n0c.fr 0
    have z1 := n0c.fr 1
    have c0 := n0c.cell (i := 0) rfl
    have c1 := n0c.cell (i := 1) rfl
    go_wp2_with fail
    have f := (n0c.set 0 (.int .i64 0)).set 1 (.int .i64 0)
    have f0 := f.cell (i := 0) rfl
    have f1 := f.cell (i := 1) rfl
    refine bodyPost_ret (v := .tuple #[.agg #[.int .i64 0, .int .i64 0], .bool false]) (by simp [results, Tryz.results54, go_sem, f0, f1]) rfl ?_
    exact F.out
  have hlz : ((bs.length : Int) == 0) = false := by
    have : 0 < bs.length := List.length_pos_iff.2 h0
    simp; omega
  have hlz' : ¬ ((bs.length : Int) = 0) := by
    have : 0 < bs.length := List.length_pos_iff.2 h0
    omega
  have HH0 := Lib.hid h0
  have b0 := HB5.out.cell (i := 0) rfl
  have b1 := HB5.out.cell (i := 1) rfl
  clear h0
  go_wp2_with fail
  refine (putLease_any k d _ HN2.out HN3.out).mono ?_
  rintro e w7 ⟨v, rfl, o7, e7⟩
  obtain ⟨A7, c7, rfl, l7, m7, f7⟩ := cl_flat o7
  have H7 := Lib.hid f7
  clear o7 b0 b1
  go_wp2_with fail
  refine (bEqual_any A7 A c7 c _ _ _ H7.out (HF.out _ (HE5.out.trans e7))).mono ?_
  rintro e w8 ⟨bb, rfl, hbb, e8⟩
  have E8 : Hid (Ext W5 w8) := e7.trans e8
  have HBB := Lib.hid hbb
  clear e7 e8 hbb
  cases bb
  case false =>
    have HGF : Hid (leaseG bs = false) := by
      have h1 : putLeaseB k d ≠ bs := fun h => absurd (HBB.out.2 h) (by decide)
      show _ = _
      rw [HG.out]
      simp [h1]
    have n0c := HN5.out.ext (E8.out)
    have F := Lib.hid (NO.out HGF.out _ (E8.out))
    have z0 := n0c.fr 0
    have z1 := n0c.fr 1
    have c0 := n0c.cell (i := 0) rfl
    have c1 := n0c.cell (i := 1) rfl
    go_wp2_with fail
    have f := (n0c.set 0 (.int .i64 0)).set 1 (.int .i64 0)
    have f0 := f.cell (i := 0) rfl
    have f1 := f.cell (i := 1) rfl
    refine bodyPost_ret (v := .tuple #[.agg #[.int .i64 0, .int .i64 0], .bool false]) (by simp [results, Tryz.results54, go_sem, f0, f1]) rfl ?_
    exact F.out
  have HGT : Hid (leaseG bs = true) := by
    have h1 : putLeaseB k d = bs := HBB.out.1 (by first | rfl | trivial)
    show _ = _
    rw [HG.out, HBS.out, h1]
    simp [HH0.out]
  have n0c := HN5.out.ext E8.out
  have b8 := HB5.out.ext E8.out
  have F : Hid (LPost bs w (.returned (.tuple #[.agg #[.int .i64 k, .int .i64 d], .bool true])) ((w8.setCell ⟨n0, 0, none⟩ (.int .i64 k)).setCell ⟨n0, 1, none⟩ (.int .i64 d))) := by
    have := FIN.out _ (((HE5.out.trans E8.out).setCell (p := ⟨n0, 0, none⟩) HNS.out (.int .i64 k)).setCell (p := ⟨n0, 1, none⟩) HNS.out (.int .i64 d))
    simp only [HGT.out] at this
    show LPost _ _ _ _
    simpa using this
  have z0 := n0c.fr 0
  have z1 := n0c.fr 1
  have c0 := n0c.cell (i := 0) rfl
  have c1 := n0c.cell (i := 1) rfl
  have b0 := b8.cell (i := 0) rfl
  have b1 := b8.cell (i := 1) rfl
  clear b8
  go_wp2_with fail
  have f := (n0c.set 0 (.int .i64 k)).set 1 (.int .i64 d)
  have f0 := f.cell (i := 0) rfl
  have f1 := f.cell (i := 1) rfl
  refine bodyPost_ret (v := .tuple #[.agg #[.int .i64 k, .int .i64 d], .bool true]) (by simp [results, Tryz.results54, go_sem, f0, f1]) rfl ?_
  exact F.out
end Go.Proofs.YthfafenigjldlaaGreat
