/-
  'interrexlaw1.QtyEdge': the walk.
-/
import Derived.Test.YthfafenigjldlaaGreatLQFits
namespace Go.Proofs.YthfafenigjldlaaGreat
open Go.RowKit
set_option linter.unusedVariables false

theorem tmod_bd (a : Int) (n : Nat) (h : 0 < n) : -(n : Int) < a.tmod n ∧ a.tmod n < n := by
  have h1 := Int.tmod_lt_of_pos a (show (0 : Int) < n by omega)
  have h2 := Int.tmod_lt_of_pos (-a) (show (0 : Int) < n by omega)
  rw [Int.neg_tmod] at h2
  omega
theorem post_may (r : Rs) (v : Bool) (hv : mayRs r = v) (w : World) : Calls Tryz.prog 43 #[.agg #[.int .i64 r.a, .int .i64 r.b, .int .i64 r.c]] w fun e w' => e = .returned (.bool v) ∧ Ext w w' := by
  subst hv
  exact qMay_any r w
theorem three_blocks (w : World) (a b c : Array Value) (q : Nat) (hq : w.heap.size = q) : WB (((w.alloc (.cells a 56)).alloc (.cells b 56)).alloc (.cells c 56)) q 56 a ∧ WB (((w.alloc (.cells a 56)).alloc (.cells b 56)).alloc (.cells c 56)) (q + 1) 56 b ∧
    WB (((w.alloc (.cells a 56)).alloc (.cells b 56)).alloc (.cells c 56)) (q + 1 + 1) 56 c ∧ Ext w (((w.alloc (.cells a 56)).alloc (.cells b 56)).alloc (.cells c 56)) := by
  subst hq
  refine ⟨((WB.new w _ _).alloc _).alloc _, ?_, ?_, (((Ext.refl _).alloc _).alloc _).alloc _⟩
  · have := (WB.new (w.alloc (.cells a 56)) 56 b).alloc (.cells c 56)
    simpa using this
  · have := WB.new ((w.alloc (.cells a 56)).alloc (.cells b 56)) 56 c
    simpa using this

set_option maxRecDepth 20000 in
set_option maxHeartbeats 8000000 in
theorem qtyEdge_any (HBA : Hid (∀ w : World, Calls Tryz.prog 17 #[] w fun e w' => e = .returned (.bool true) ∧ Ext w w')) (at_ off : Int) (w : World) (ha : inI at_) (hb : inI off) :
    Calls Tryz.prog 10 #[.int .i64 at_, .int .i64 off] w fun e w' => e = .returned (.bool true) ∧ Ext w w' := by
  obtain ⟨x, hx⟩ : ∃ x, at_.tmod 3 = x := ⟨_, rfl⟩
  obtain ⟨o, ho⟩ : ∃ x, off.tmod 5 = x := ⟨_, rfl⟩
  have bx := tmod_bd at_ 3 (by omega)
  have bo := tmod_bd off 5 (by omega)
  rw [show ((3 : Nat) : Int) = 3 from rfl, hx] at bx
  rw [show ((5 : Nat) : Int) = 5 from rfl, ho] at bo
  obtain ⟨bx1, bx2⟩ := bx
  obtain ⟨bo1, bo2⟩ := bo
  clear ha hb
  rcases (show (x + 3) % 3 = 0 ∨ (x + 3) % 3 = 1 ∨ (x + 3) % 3 = 2 by omega) with hr | hr | hr
  · have V1 : Hid (addB ⟨4611686018427387904 + o, 0, 0⟩ ⟨0, 0, 0⟩ = decide (o ≤ 0)) := by show _ = _; rw [Bool.eq_iff_iff, addB_iff, decide_eq_true_eq]; simp only; omega
    have V2 : Hid (addB ⟨4611686018427387904 + o, 0, 0⟩ ⟨1, 0, 0⟩ = decide (o < 0)) := by show _ = _; rw [Bool.eq_iff_iff, addB_iff, decide_eq_true_eq]; simp only; omega
    have V3 : Hid (subB ⟨4611686018427387904 + o, 0, 0⟩ ⟨4611686018427387904 + o, 0, 0⟩ = decide (o ≤ 0)) := by show _ = _; rw [Bool.eq_iff_iff, subB_iff, decide_eq_true_eq]; simp only; omega
    have V4 : Hid (mayRs ⟨1000000000 + o, 0, 0⟩ = decide (o ≤ 0)) := by show _ = _; rw [Bool.eq_iff_iff]; simp only [mayRs, mayR1, Bool.and_eq_true, decide_eq_true_eq]; omega
    have V5 : Hid (fitsB ⟨1000000000 + o, 0, 0⟩ ⟨1000000000 + o, 0, 0⟩ = true) := by show _ = _; rw [fitsB_iff]; simp only; omega
    have V6 : Hid (fitsB ⟨1099511627776, 1099511627776, 1099511627776⟩ ⟨1000000000 + o, 0, 0⟩ = false) := by show _ = _; rw [← Bool.not_eq_true, fitsB_iff]; simp only; omega
    obtain ⟨D1, U1⟩ : ∃ d, addV ⟨4611686018427387904 + o, 0, 0⟩ ⟨0, 0, 0⟩ = d := ⟨_, rfl⟩
    obtain ⟨D2, U2⟩ : ∃ d, addV ⟨4611686018427387904 + o, 0, 0⟩ ⟨1, 0, 0⟩ = d := ⟨_, rfl⟩
    obtain ⟨D3, U3⟩ : ∃ d, subV ⟨4611686018427387904 + o, 0, 0⟩ ⟨4611686018427387904 + o, 0, 0⟩ = d := ⟨_, rfl⟩
    replace U1 := Lib.hid U1
    replace U2 := Lib.hid U2
    replace U3 := Lib.hid U3
    go_enter Tryz.func10, Tryz.ntmps10
    go_wp2_with fail
    refine (HBA.out _).mono ?_
    rintro e wn ⟨rfl, en⟩
    have E0 := Lib.hid en
    clear en
    go_wp2_with fail
    obtain ⟨q, hq⟩ : ∃ q, wn.heap.size = q := ⟨_, rfl⟩
    obtain ⟨BA, BB, BO, X1⟩ := three_blocks wn #[.int .i64 (1000000000 + o), .int .i64 0, .int .i64 0] #[.int .i64 (4611686018427387904 + o), .int .i64 0, .int .i64 0] #[.int .i64 1, .int .i64 0, .int .i64 0] q hq
    obtain ⟨W1, hW1⟩ : ∃ W, (((wn.alloc (.cells #[.int .i64 (1000000000 + o), .int .i64 0, .int .i64 0] 56)).alloc (.cells #[.int .i64 (4611686018427387904 + o), .int .i64 0, .int .i64 0] 56)).alloc (.cells #[.int .i64 1, .int .i64 0, .int .i64 0] 56)) = W := ⟨_, rfl⟩
    rw [hW1] at BA BB BO X1 ⊢
    rw [hq]
    have HX1 := Lib.hid (E0.out.trans X1)
    clear hW1 hq X1
    have ka0 : ∀ wx, Ext W1 wx → wx.cell? ⟨q, 0, none⟩ = some (.int .i64 (1000000000 + o)) := fun wx e => (BA.ext e).cell (i := 0) rfl
    have ka1 : ∀ wx, Ext W1 wx → wx.cell? ⟨q, 1, none⟩ = some (.int .i64 0) := fun wx e => (BA.ext e).cell (i := 1) rfl
    have ka2 : ∀ wx, Ext W1 wx → wx.cell? ⟨q, 2, none⟩ = some (.int .i64 0) := fun wx e => (BA.ext e).cell (i := 2) rfl
    have kb0 : ∀ wx, Ext W1 wx → wx.cell? ⟨q + 1, 0, none⟩ = some (.int .i64 (4611686018427387904 + o)) := fun wx e => (BB.ext e).cell (i := 0) rfl
    have kb1 : ∀ wx, Ext W1 wx → wx.cell? ⟨q + 1, 1, none⟩ = some (.int .i64 0) := fun wx e => (BB.ext e).cell (i := 1) rfl
    have kb2 : ∀ wx, Ext W1 wx → wx.cell? ⟨q + 1, 2, none⟩ = some (.int .i64 0) := fun wx e => (BB.ext e).cell (i := 2) rfl
    have ko0 : ∀ wx, Ext W1 wx → wx.cell? ⟨q + 1 + 1, 0, none⟩ = some (.int .i64 1) := fun wx e => (BO.ext e).cell (i := 0) rfl
    have ko1 : ∀ wx, Ext W1 wx → wx.cell? ⟨q + 1 + 1, 1, none⟩ = some (.int .i64 0) := fun wx e => (BO.ext e).cell (i := 1) rfl
    have ko2 : ∀ wx, Ext W1 wx → wx.cell? ⟨q + 1 + 1, 2, none⟩ = some (.int .i64 0) := fun wx e => (BO.ext e).cell (i := 2) rfl
    have E : Ext W1 W1 := Ext.refl _
    clear BA BB BO
    refine (post_add ⟨4611686018427387904 + o, 0, 0⟩ ⟨0, 0, 0⟩ D1 (decide (o ≤ 0)) U1.out V1.out _).mono ?_
    rintro e wn ⟨rfl, en⟩
    replace E := E.trans en
    clear en
    replace E := E.alloc (.cells #[.int .i64 D1.a, .int .i64 D1.b, .int .i64 D1.c] 56)
    obtain ⟨W4, hW4⟩ : ∃ W, wn.alloc (.cells #[.int .i64 D1.a, .int .i64 D1.b, .int .i64 D1.c] 56) = W := ⟨_, rfl⟩
    rw [hW4] at E
    go_wp2_with fail
    refine (post_add ⟨4611686018427387904 + o, 0, 0⟩ ⟨1, 0, 0⟩ D2 (decide (o < 0)) U2.out V2.out _).mono ?_
    rintro e wn ⟨rfl, en⟩
    replace E := E.trans en
    clear en
    replace E := E.alloc (.cells #[.int .i64 D2.a, .int .i64 D2.b, .int .i64 D2.c] 56)
    obtain ⟨W6, hW6⟩ : ∃ W, wn.alloc (.cells #[.int .i64 D2.a, .int .i64 D2.b, .int .i64 D2.c] 56) = W := ⟨_, rfl⟩
    rw [hW6] at E
    go_wp2_with fail
    refine (post_sub ⟨4611686018427387904 + o, 0, 0⟩ ⟨4611686018427387904 + o, 0, 0⟩ D3 (decide (o ≤ 0)) U3.out V3.out _).mono ?_
    rintro e wn ⟨rfl, en⟩
    replace E := E.trans en
    clear en
    replace E := E.alloc (.cells #[.int .i64 D3.a, .int .i64 D3.b, .int .i64 D3.c] 56)
    obtain ⟨W8, hW8⟩ : ∃ W, wn.alloc (.cells #[.int .i64 D3.a, .int .i64 D3.b, .int .i64 D3.c] 56) = W := ⟨_, rfl⟩
    rw [hW8] at E
    go_wp2_with fail
    refine (post_may ⟨1000000000 + o, 0, 0⟩ (decide (o ≤ 0)) V4.out _).mono ?_
    rintro e wn ⟨rfl, en⟩
    replace E := E.trans en
    clear en
    go_wp2_with fail
    refine (post_fits ⟨1000000000 + o, 0, 0⟩ ⟨1000000000 + o, 0, 0⟩ true V5.out _).mono ?_
    rintro e wn ⟨rfl, en⟩
    replace E := E.trans en
    clear en
    go_wp2_with fail
    refine (post_fits ⟨1099511627776, 1099511627776, 1099511627776⟩ ⟨1000000000 + o, 0, 0⟩ false V6.out _).mono ?_
    rintro e wn ⟨rfl, en⟩
    replace E := E.trans en
    clear en
    go_wp2_with fail
    go_ret
    exact ⟨ret_bool (by simp), HX1.out.trans E⟩
  · have V1 : Hid (addB ⟨0, 4611686018427387904 + o, 0⟩ ⟨0, 0, 0⟩ = decide (o ≤ 0)) := by show _ = _; rw [Bool.eq_iff_iff, addB_iff, decide_eq_true_eq]; simp only; omega
    have V2 : Hid (addB ⟨0, 4611686018427387904 + o, 0⟩ ⟨0, 1, 0⟩ = decide (o < 0)) := by show _ = _; rw [Bool.eq_iff_iff, addB_iff, decide_eq_true_eq]; simp only; omega
    have V3 : Hid (subB ⟨0, 4611686018427387904 + o, 0⟩ ⟨0, 4611686018427387904 + o, 0⟩ = decide (o ≤ 0)) := by show _ = _; rw [Bool.eq_iff_iff, subB_iff, decide_eq_true_eq]; simp only; omega
    have V4 : Hid (mayRs ⟨0, 1000000000 + o, 0⟩ = decide (o ≤ 0)) := by show _ = _; rw [Bool.eq_iff_iff]; simp only [mayRs, mayR1, Bool.and_eq_true, decide_eq_true_eq]; omega
    have V5 : Hid (fitsB ⟨0, 1000000000 + o, 0⟩ ⟨0, 1000000000 + o, 0⟩ = true) := by show _ = _; rw [fitsB_iff]; simp only; omega
    have V6 : Hid (fitsB ⟨1099511627776, 1099511627776, 1099511627776⟩ ⟨0, 1000000000 + o, 0⟩ = false) := by show _ = _; rw [← Bool.not_eq_true, fitsB_iff]; simp only; omega
    obtain ⟨D1, U1⟩ : ∃ d, addV ⟨0, 4611686018427387904 + o, 0⟩ ⟨0, 0, 0⟩ = d := ⟨_, rfl⟩
    obtain ⟨D2, U2⟩ : ∃ d, addV ⟨0, 4611686018427387904 + o, 0⟩ ⟨0, 1, 0⟩ = d := ⟨_, rfl⟩
    obtain ⟨D3, U3⟩ : ∃ d, subV ⟨0, 4611686018427387904 + o, 0⟩ ⟨0, 4611686018427387904 + o, 0⟩ = d := ⟨_, rfl⟩
    replace U1 := Lib.hid U1
    replace U2 := Lib.hid U2
    replace U3 := Lib.hid U3
    go_enter Tryz.func10, Tryz.ntmps10
    go_wp2_with fail
    refine (HBA.out _).mono ?_
    rintro e wn ⟨rfl, en⟩
    have E0 := Lib.hid en
    clear en
    go_wp2_with fail
    obtain ⟨q, hq⟩ : ∃ q, wn.heap.size = q := ⟨_, rfl⟩
    obtain ⟨BA, BB, BO, X1⟩ := three_blocks wn #[.int .i64 0, .int .i64 (1000000000 + o), .int .i64 0] #[.int .i64 0, .int .i64 (4611686018427387904 + o), .int .i64 0] #[.int .i64 0, .int .i64 1, .int .i64 0] q hq
    obtain ⟨W1, hW1⟩ : ∃ W, (((wn.alloc (.cells #[.int .i64 0, .int .i64 (1000000000 + o), .int .i64 0] 56)).alloc (.cells #[.int .i64 0, .int .i64 (4611686018427387904 + o), .int .i64 0] 56)).alloc (.cells #[.int .i64 0, .int .i64 1, .int .i64 0] 56)) = W := ⟨_, rfl⟩
    rw [hW1] at BA BB BO X1 ⊢
    rw [hq]
    have HX1 := Lib.hid (E0.out.trans X1)
    clear hW1 hq X1
    have ka0 : ∀ wx, Ext W1 wx → wx.cell? ⟨q, 0, none⟩ = some (.int .i64 0) := fun wx e => (BA.ext e).cell (i := 0) rfl
    have ka1 : ∀ wx, Ext W1 wx → wx.cell? ⟨q, 1, none⟩ = some (.int .i64 (1000000000 + o)) := fun wx e => (BA.ext e).cell (i := 1) rfl
    have ka2 : ∀ wx, Ext W1 wx → wx.cell? ⟨q, 2, none⟩ = some (.int .i64 0) := fun wx e => (BA.ext e).cell (i := 2) rfl
    have kb0 : ∀ wx, Ext W1 wx → wx.cell? ⟨q + 1, 0, none⟩ = some (.int .i64 0) := fun wx e => (BB.ext e).cell (i := 0) rfl
    have kb1 : ∀ wx, Ext W1 wx → wx.cell? ⟨q + 1, 1, none⟩ = some (.int .i64 (4611686018427387904 + o)) := fun wx e => (BB.ext e).cell (i := 1) rfl
    have kb2 : ∀ wx, Ext W1 wx → wx.cell? ⟨q + 1, 2, none⟩ = some (.int .i64 0) := fun wx e => (BB.ext e).cell (i := 2) rfl
    have ko0 : ∀ wx, Ext W1 wx → wx.cell? ⟨q + 1 + 1, 0, none⟩ = some (.int .i64 0) := fun wx e => (BO.ext e).cell (i := 0) rfl
    have ko1 : ∀ wx, Ext W1 wx → wx.cell? ⟨q + 1 + 1, 1, none⟩ = some (.int .i64 1) := fun wx e => (BO.ext e).cell (i := 1) rfl
    have ko2 : ∀ wx, Ext W1 wx → wx.cell? ⟨q + 1 + 1, 2, none⟩ = some (.int .i64 0) := fun wx e => (BO.ext e).cell (i := 2) rfl
    have E : Ext W1 W1 := Ext.refl _
    clear BA BB BO
    refine (post_add ⟨0, 4611686018427387904 + o, 0⟩ ⟨0, 0, 0⟩ D1 (decide (o ≤ 0)) U1.out V1.out _).mono ?_
    rintro e wn ⟨rfl, en⟩
    replace E := E.trans en
    clear en
    replace E := E.alloc (.cells #[.int .i64 D1.a, .int .i64 D1.b, .int .i64 D1.c] 56)
    obtain ⟨W4, hW4⟩ : ∃ W, wn.alloc (.cells #[.int .i64 D1.a, .int .i64 D1.b, .int .i64 D1.c] 56) = W := ⟨_, rfl⟩
    rw [hW4] at E
    go_wp2_with fail
    refine (post_add ⟨0, 4611686018427387904 + o, 0⟩ ⟨0, 1, 0⟩ D2 (decide (o < 0)) U2.out V2.out _).mono ?_
    rintro e wn ⟨rfl, en⟩
    replace E := E.trans en
    clear en
    replace E := E.alloc (.cells #[.int .i64 D2.a, .int .i64 D2.b, .int .i64 D2.c] 56)
    obtain ⟨W6, hW6⟩ : ∃ W, wn.alloc (.cells #[.int .i64 D2.a, .int .i64 D2.b, .int .i64 D2.c] 56) = W := ⟨_, rfl⟩
    rw [hW6] at E
    go_wp2_with fail
    refine (post_sub ⟨0, 4611686018427387904 + o, 0⟩ ⟨0, 4611686018427387904 + o, 0⟩ D3 (decide (o ≤ 0)) U3.out V3.out _).mono ?_
    rintro e wn ⟨rfl, en⟩
    replace E := E.trans en
    clear en
    replace E := E.alloc (.cells #[.int .i64 D3.a, .int .i64 D3.b, .int .i64 D3.c] 56)
    obtain ⟨W8, hW8⟩ : ∃ W, wn.alloc (.cells #[.int .i64 D3.a, .int .i64 D3.b, .int .i64 D3.c] 56) = W := ⟨_, rfl⟩
    rw [hW8] at E
    go_wp2_with fail
    refine (post_may ⟨0, 1000000000 + o, 0⟩ (decide (o ≤ 0)) V4.out _).mono ?_
    rintro e wn ⟨rfl, en⟩
    replace E := E.trans en
    clear en
    go_wp2_with fail
    refine (post_fits ⟨0, 1000000000 + o, 0⟩ ⟨0, 1000000000 + o, 0⟩ true V5.out _).mono ?_
    rintro e wn ⟨rfl, en⟩
    replace E := E.trans en
    clear en
    go_wp2_with fail
    refine (post_fits ⟨1099511627776, 1099511627776, 1099511627776⟩ ⟨0, 1000000000 + o, 0⟩ false V6.out _).mono ?_
    rintro e wn ⟨rfl, en⟩
    replace E := E.trans en
    clear en
    go_wp2_with fail
    go_ret
    exact ⟨ret_bool (by simp), HX1.out.trans E⟩
  · have V1 : Hid (addB ⟨0, 0, 4611686018427387904 + o⟩ ⟨0, 0, 0⟩ = decide (o ≤ 0)) := by show _ = _; rw [Bool.eq_iff_iff, addB_iff, decide_eq_true_eq]; simp only; omega
    have V2 : Hid (addB ⟨0, 0, 4611686018427387904 + o⟩ ⟨0, 0, 1⟩ = decide (o < 0)) := by show _ = _; rw [Bool.eq_iff_iff, addB_iff, decide_eq_true_eq]; simp only; omega
    have V3 : Hid (subB ⟨0, 0, 4611686018427387904 + o⟩ ⟨0, 0, 4611686018427387904 + o⟩ = decide (o ≤ 0)) := by show _ = _; rw [Bool.eq_iff_iff, subB_iff, decide_eq_true_eq]; simp only; omega
    have V4 : Hid (mayRs ⟨0, 0, 1000000000 + o⟩ = decide (o ≤ 0)) := by show _ = _; rw [Bool.eq_iff_iff]; simp only [mayRs, mayR1, Bool.and_eq_true, decide_eq_true_eq]; omega
    have V5 : Hid (fitsB ⟨0, 0, 1000000000 + o⟩ ⟨0, 0, 1000000000 + o⟩ = true) := by show _ = _; rw [fitsB_iff]; simp only; omega
    have V6 : Hid (fitsB ⟨1099511627776, 1099511627776, 1099511627776⟩ ⟨0, 0, 1000000000 + o⟩ = false) := by show _ = _; rw [← Bool.not_eq_true, fitsB_iff]; simp only; omega
    obtain ⟨D1, U1⟩ : ∃ d, addV ⟨0, 0, 4611686018427387904 + o⟩ ⟨0, 0, 0⟩ = d := ⟨_, rfl⟩
    obtain ⟨D2, U2⟩ : ∃ d, addV ⟨0, 0, 4611686018427387904 + o⟩ ⟨0, 0, 1⟩ = d := ⟨_, rfl⟩
    obtain ⟨D3, U3⟩ : ∃ d, subV ⟨0, 0, 4611686018427387904 + o⟩ ⟨0, 0, 4611686018427387904 + o⟩ = d := ⟨_, rfl⟩
    replace U1 := Lib.hid U1
    replace U2 := Lib.hid U2
    replace U3 := Lib.hid U3
    go_enter Tryz.func10, Tryz.ntmps10
    go_wp2_with fail
    refine (HBA.out _).mono ?_
    rintro e wn ⟨rfl, en⟩
    have E0 := Lib.hid en
    clear en
    go_wp2_with fail
    obtain ⟨q, hq⟩ : ∃ q, wn.heap.size = q := ⟨_, rfl⟩
    obtain ⟨BA, BB, BO, X1⟩ := three_blocks wn #[.int .i64 0, .int .i64 0, .int .i64 (1000000000 + o)] #[.int .i64 0, .int .i64 0, .int .i64 (4611686018427387904 + o)] #[.int .i64 0, .int .i64 0, .int .i64 1] q hq
    obtain ⟨W1, hW1⟩ : ∃ W, (((wn.alloc (.cells #[.int .i64 0, .int .i64 0, .int .i64 (1000000000 + o)] 56)).alloc (.cells #[.int .i64 0, .int .i64 0, .int .i64 (4611686018427387904 + o)] 56)).alloc (.cells #[.int .i64 0, .int .i64 0, .int .i64 1] 56)) = W := ⟨_, rfl⟩
    rw [hW1] at BA BB BO X1 ⊢
    rw [hq]
    have HX1 := Lib.hid (E0.out.trans X1)
    clear hW1 hq X1
    have ka0 : ∀ wx, Ext W1 wx → wx.cell? ⟨q, 0, none⟩ = some (.int .i64 0) := fun wx e => (BA.ext e).cell (i := 0) rfl
    have ka1 : ∀ wx, Ext W1 wx → wx.cell? ⟨q, 1, none⟩ = some (.int .i64 0) := fun wx e => (BA.ext e).cell (i := 1) rfl
    have ka2 : ∀ wx, Ext W1 wx → wx.cell? ⟨q, 2, none⟩ = some (.int .i64 (1000000000 + o)) := fun wx e => (BA.ext e).cell (i := 2) rfl
    have kb0 : ∀ wx, Ext W1 wx → wx.cell? ⟨q + 1, 0, none⟩ = some (.int .i64 0) := fun wx e => (BB.ext e).cell (i := 0) rfl
    have kb1 : ∀ wx, Ext W1 wx → wx.cell? ⟨q + 1, 1, none⟩ = some (.int .i64 0) := fun wx e => (BB.ext e).cell (i := 1) rfl
    have kb2 : ∀ wx, Ext W1 wx → wx.cell? ⟨q + 1, 2, none⟩ = some (.int .i64 (4611686018427387904 + o)) := fun wx e => (BB.ext e).cell (i := 2) rfl
    have ko0 : ∀ wx, Ext W1 wx → wx.cell? ⟨q + 1 + 1, 0, none⟩ = some (.int .i64 0) := fun wx e => (BO.ext e).cell (i := 0) rfl
    have ko1 : ∀ wx, Ext W1 wx → wx.cell? ⟨q + 1 + 1, 1, none⟩ = some (.int .i64 0) := fun wx e => (BO.ext e).cell (i := 1) rfl
    have ko2 : ∀ wx, Ext W1 wx → wx.cell? ⟨q + 1 + 1, 2, none⟩ = some (.int .i64 1) := fun wx e => (BO.ext e).cell (i := 2) rfl
    have E : Ext W1 W1 := Ext.refl _
    clear BA BB BO
    refine (post_add ⟨0, 0, 4611686018427387904 + o⟩ ⟨0, 0, 0⟩ D1 (decide (o ≤ 0)) U1.out V1.out _).mono ?_
    rintro e wn ⟨rfl, en⟩
    replace E := E.trans en
    clear en
    replace E := E.alloc (.cells #[.int .i64 D1.a, .int .i64 D1.b, .int .i64 D1.c] 56)
    obtain ⟨W4, hW4⟩ : ∃ W, wn.alloc (.cells #[.int .i64 D1.a, .int .i64 D1.b, .int .i64 D1.c] 56) = W := ⟨_, rfl⟩
    rw [hW4] at E
    go_wp2_with fail
    refine (post_add ⟨0, 0, 4611686018427387904 + o⟩ ⟨0, 0, 1⟩ D2 (decide (o < 0)) U2.out V2.out _).mono ?_
    rintro e wn ⟨rfl, en⟩
    replace E := E.trans en
    clear en
    replace E := E.alloc (.cells #[.int .i64 D2.a, .int .i64 D2.b, .int .i64 D2.c] 56)
    obtain ⟨W6, hW6⟩ : ∃ W, wn.alloc (.cells #[.int .i64 D2.a, .int .i64 D2.b, .int .i64 D2.c] 56) = W := ⟨_, rfl⟩
    rw [hW6] at E
    go_wp2_with fail
    refine (post_sub ⟨0, 0, 4611686018427387904 + o⟩ ⟨0, 0, 4611686018427387904 + o⟩ D3 (decide (o ≤ 0)) U3.out V3.out _).mono ?_
    rintro e wn ⟨rfl, en⟩
    replace E := E.trans en
    clear en
    replace E := E.alloc (.cells #[.int .i64 D3.a, .int .i64 D3.b, .int .i64 D3.c] 56)
    obtain ⟨W8, hW8⟩ : ∃ W, wn.alloc (.cells #[.int .i64 D3.a, .int .i64 D3.b, .int .i64 D3.c] 56) = W := ⟨_, rfl⟩
    rw [hW8] at E
    go_wp2_with fail
    refine (post_may ⟨0, 0, 1000000000 + o⟩ (decide (o ≤ 0)) V4.out _).mono ?_
    rintro e wn ⟨rfl, en⟩
    replace E := E.trans en
    clear en
    go_wp2_with fail
    refine (post_fits ⟨0, 0, 1000000000 + o⟩ ⟨0, 0, 1000000000 + o⟩ true V5.out _).mono ?_
    rintro e wn ⟨rfl, en⟩
    replace E := E.trans en
    clear en
    go_wp2_with fail
    refine (post_fits ⟨1099511627776, 1099511627776, 1099511627776⟩ ⟨0, 0, 1000000000 + o⟩ false V6.out _).mono ?_
    rintro e wn ⟨rfl, en⟩
    replace E := E.trans en
    clear en
    go_wp2_with fail
    go_ret
    exact ⟨ret_bool (by simp), HX1.out.trans E⟩
end Go.Proofs.YthfafenigjldlaaGreat
