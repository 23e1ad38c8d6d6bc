/-
  'interrexlaw1.QtyTurn': the walk.
-/
import Derived.Test.YthfafenigjldlaaGreatQty5
import Derived.Test.YthfafenigjldlaaGreatEq2
namespace Go.Proofs.YthfafenigjldlaaGreat
open Go.RowKit
set_option linter.unusedVariables false

theorem post_fits (r s : Rs) (v : Bool) (hv : fitsB r s = v) (w : World) : Calls Tryz.prog 41 #[.agg #[.int .i64 r.a, .int .i64 r.b, .int .i64 r.c], .agg #[.int .i64 s.a, .int .i64 s.b, .int .i64 s.c]] w fun e w' => e = .returned (.bool v) ∧ Ext w w' := by
  subst hv
  exact qFits_any r s w
theorem post_sub (r s d : Rs) (v : Bool) (hd : subV r s = d) (hv : subB r s = v) (w : World) : Calls Tryz.prog 40 #[.agg #[.int .i64 r.a, .int .i64 r.b, .int .i64 r.c], .agg #[.int .i64 s.a, .int .i64 s.b, .int .i64 s.c]] w fun e w' => e = .returned (.tuple #[.agg #[.int .i64 d.a, .int .i64 d.b, .int .i64 d.c], .bool v]) ∧ Ext w w' := by
  subst hv hd
  exact qSub_any r s w
theorem post_add (r s d : Rs) (v : Bool) (hd : addV r s = d) (hv : addB r s = v) (w : World) : Calls Tryz.prog 39 #[.agg #[.int .i64 r.a, .int .i64 r.b, .int .i64 r.c], .agg #[.int .i64 s.a, .int .i64 s.b, .int .i64 s.c]] w fun e w' => e = .returned (.tuple #[.agg #[.int .i64 d.a, .int .i64 d.b, .int .i64 d.c], .bool v]) ∧ Ext w w' := by
  subst hv hd
  exact qAdd_any r s w
theorem post_fine (r : Rs) (v : Bool) (hv : fineB r = v) (w : World) : Calls Tryz.prog 44 #[.agg #[.int .i64 r.a, .int .i64 r.b, .int .i64 r.c]] w fun e w' => e = .returned (.bool v) ∧ Ext w w' := by
  subst hv
  exact fine_any r w

theorem sl_res3 (W : World) (b : Nat) (x y z : Rs) (h1 : okR x) (h2 : okR y) (h3 : okR z) (hb : WB W b 56 #[.int .i64 x.a, .int .i64 x.b, .int .i64 x.c, .int .i64 y.a, .int .i64 y.b, .int .i64 y.c, .int .i64 z.a, .int .i64 z.b, .int .i64 z.c]) :
    Sl RRes 3 W (some ⟨b, 0, none⟩) [x, y, z] := by
  intro k p hp
  match k, hp with
  | 0, hp => obtain rfl : x = p := by simpa using hp
             exact ⟨_, 0, [_, _, _], rfl, rfl, fun j u hu => by match j, hu with | 0, hu => (injection hu with hu; subst hu; exact hb.cell (i := 0) rfl) | 1, hu => (injection hu with hu; subst hu; exact hb.cell (i := 1) rfl) | 2, hu => (injection hu with hu; subst hu; exact hb.cell (i := 2) rfl), rfl, h1⟩
  | 1, hp => obtain rfl : y = p := by simpa using hp
             exact ⟨_, 0, [_, _, _], rfl, rfl, fun j u hu => by match j, hu with | 0, hu => (injection hu with hu; subst hu; exact hb.cell (i := 3) rfl) | 1, hu => (injection hu with hu; subst hu; exact hb.cell (i := 4) rfl) | 2, hu => (injection hu with hu; subst hu; exact hb.cell (i := 5) rfl), rfl, h2⟩
  | 2, hp => obtain rfl : z = p := by simpa using hp
             exact ⟨_, 0, [_, _, _], rfl, rfl, fun j u hu => by match j, hu with | 0, hu => (injection hu with hu; subst hu; exact hb.cell (i := 6) rfl) | 1, hu => (injection hu with hu; subst hu; exact hb.cell (i := 7) rfl) | 2, hu => (injection hu with hu; subst hu; exact hb.cell (i := 8) rfl), rfl, h3⟩
  | k + 3, hp => simp at hp
theorem post_sum (A : Option Addr) (c : Nat) (xs : List Rs) (n : Nat) (X : Rs) (k : Bool) (hl : xs.length = n) (hX : sumV xs = X) (hk : sumB xs = k) (w : World) (hn : n ≤ maxLen) (hx : Sl RRes 3 w A xs) :
    Calls Tryz.prog 42 #[.slice A n c] w fun e w' => e = .returned (.tuple #[.agg #[.int .i64 X.a, .int .i64 X.b, .int .i64 X.c], .bool k]) ∧ Ext w w' := by
  subst hl hX hk
  exact qSum_any A c xs w hn hx

set_option maxRecDepth 20000 in
set_option maxHeartbeats 8000000 in
theorem qtyTurn_any (HBA : Hid (∀ w : World, Calls Tryz.prog 17 #[] w fun e w' => e = .returned (.bool true) ∧ Ext w w')) (a b c : Rs) (w : World) (ha : okR a) (hb : okR b) (hc : okR c) :
    Calls Tryz.prog 9 #[.agg #[.int .i64 a.a, .int .i64 a.b, .int .i64 a.c], .agg #[.int .i64 b.a, .int .i64 b.b, .int .i64 b.c], .agg #[.int .i64 c.a, .int .i64 c.b, .int .i64 c.c]] w fun e w' => e = .returned (.bool true) ∧ Ext w w' := by
  obtain ⟨Wa, hWa⟩ : ∃ W, w.alloc (.cells #[.int .i64 a.a, .int .i64 a.b, .int .i64 a.c] 56) = W := ⟨_, rfl⟩
  obtain ⟨q0, hq0⟩ : ∃ q, w.heap.size = q := ⟨_, rfl⟩
  have Aa := Arr3.new w a.a a.b a.c
  rw [hWa, hq0] at Aa
  obtain ⟨Wb, hWb⟩ : ∃ W, Wa.alloc (.cells #[.int .i64 b.a, .int .i64 b.b, .int .i64 b.c] 56) = W := ⟨_, rfl⟩
  obtain ⟨q1, hq1⟩ : ∃ q, Wa.heap.size = q := ⟨_, rfl⟩
  have Ab := Arr3.new Wa b.a b.b b.c
  rw [hWb, hq1] at Ab
  obtain ⟨W1, hW1⟩ : ∃ W, Wb.alloc (.cells #[.int .i64 c.a, .int .i64 c.b, .int .i64 c.c] 56) = W := ⟨_, rfl⟩
  obtain ⟨q2, hq2⟩ : ∃ q, Wb.heap.size = q := ⟨_, rfl⟩
  have Ac := Arr3.new Wb c.a c.b c.c
  rw [hW1, hq2] at Ac
  replace Aa := (Aa.alloc (.cells #[.int .i64 b.a, .int .i64 b.b, .int .i64 b.c] 56)).alloc (.cells #[.int .i64 c.a, .int .i64 c.b, .int .i64 c.c] 56)
  rw [hWb, hW1] at Aa
  replace Ab := Ab.alloc (.cells #[.int .i64 c.a, .int .i64 c.b, .int .i64 c.c] 56)
  rw [hW1] at Ab
  have X1 : Hid (Ext w W1) := by rw [← hW1, ← hWb, ← hWa]; exact (((Ext.refl _).alloc _).alloc _).alloc _
  have ka0 : ∀ wx, Ext W1 wx → wx.cell? ⟨q0, 0, none⟩ = some (.int .i64 a.a) := fun wx e => (Aa.ext e).c0
  have ka1 : ∀ wx, Ext W1 wx → wx.cell? ⟨q0, 1, none⟩ = some (.int .i64 a.b) := fun wx e => (Aa.ext e).c1
  have ka2 : ∀ wx, Ext W1 wx → wx.cell? ⟨q0, 2, none⟩ = some (.int .i64 a.c) := fun wx e => (Aa.ext e).c2
  have kb0 : ∀ wx, Ext W1 wx → wx.cell? ⟨q1, 0, none⟩ = some (.int .i64 b.a) := fun wx e => (Ab.ext e).c0
  have kb1 : ∀ wx, Ext W1 wx → wx.cell? ⟨q1, 1, none⟩ = some (.int .i64 b.b) := fun wx e => (Ab.ext e).c1
  have kb2 : ∀ wx, Ext W1 wx → wx.cell? ⟨q1, 2, none⟩ = some (.int .i64 b.c) := fun wx e => (Ab.ext e).c2
  have kc0 : ∀ wx, Ext W1 wx → wx.cell? ⟨q2, 0, none⟩ = some (.int .i64 c.a) := fun wx e => (Ac.ext e).c0
  have kc1 : ∀ wx, Ext W1 wx → wx.cell? ⟨q2, 1, none⟩ = some (.int .i64 c.b) := fun wx e => (Ac.ext e).c1
  have kc2 : ∀ wx, Ext W1 wx → wx.cell? ⟨q2, 2, none⟩ = some (.int .i64 c.c) := fun wx e => (Ac.ext e).c2
  have E : Ext W1 W1 := Ext.refl _
  clear Aa Ab Ac
  have hne := neq_res
  have heq := eql_res
  obtain ⟨ok, k1⟩ : ∃ v, v = addB a b := ⟨_, rfl⟩
  obtain ⟨S, k2⟩ : ∃ v, v = addV a b := ⟨_, rfl⟩
  obtain ⟨X, k3⟩ : ∃ v, v = sumV [a, b, c] := ⟨_, rfl⟩
  obtain ⟨Y, k4⟩ : ∃ v, v = sumV [c, b, a] := ⟨_, rfl⟩
  obtain ⟨k, k5⟩ : ∃ v, v = sumB [a, b, c] := ⟨_, rfl⟩
  obtain ⟨l, k6⟩ : ∃ v, v = sumB [c, b, a] := ⟨_, rfl⟩
  have V1 := Lib.hid k1.symm
  have V2 := Lib.hid k2.symm
  have V3 := Lib.hid k3.symm
  have V4 := Lib.hid k4.symm
  have V5 := Lib.hid k5.symm
  have V6 := Lib.hid k6.symm
  have V7 : Hid (addB b a = ok) := by show _ = _; rw [addB_comm, k1]
  have V8 : Hid (addV b a = S) := by show _ = _; rw [addV_comm, k2]
  have BACK : Hid (ok = true → subB S b = true ∧ subV S b = a ∧ fitsB a S = true ∧ fitsB b S = true) := fun p => by rw [k2]; exact add_back (by rw [← k1]; exact p)
  have SAME : Hid (k = true → l = true → X = Y) := fun p q => by rw [k3, k4]; exact sum3_rev (by rw [← k5]; exact p) (by rw [← k6]; exact q)
  have HA := Lib.hid ha
  have HB := Lib.hid hb
  have HC := Lib.hid hc
  have H3 : Hid ((3 : Nat) ≤ maxLen) := by show _ ≤ _; unfold maxLen; omega
  clear k1 k2 k3 k4 k5 k6 ha hb hc
  go_enter Tryz.func9, Tryz.ntmps9
  go_wp2_with fail
  refine (HBA.out _).mono ?_
  rintro e wn ⟨rfl, en⟩
  replace E := E.trans en
  clear en
  go_wp2_with fail
  refine (post_add a b S ok V2.out V1.out _).mono ?_
  rintro e wn ⟨rfl, en⟩
  replace E := E.trans en
  clear en
  obtain ⟨W4, hW4⟩ : ∃ W, wn.alloc (.cells #[.int .i64 S.a, .int .i64 S.b, .int .i64 S.c] 56) = W := ⟨_, rfl⟩
  obtain ⟨q3, hq3⟩ : ∃ q, wn.heap.size = q := ⟨_, rfl⟩
  have As := Arr3.new wn S.a S.b S.c
  rw [hW4, hq3] at As
  replace E := E.alloc (.cells #[.int .i64 S.a, .int .i64 S.b, .int .i64 S.c] 56)
  rw [hW4] at E
  have ks0 : ∀ wx, Ext W4 wx → wx.cell? ⟨q3, 0, none⟩ = some (.int .i64 S.a) := fun wx e => (As.ext e).c0
  have ks1 : ∀ wx, Ext W4 wx → wx.cell? ⟨q3, 1, none⟩ = some (.int .i64 S.b) := fun wx e => (As.ext e).c1
  have ks2 : ∀ wx, Ext W4 wx → wx.cell? ⟨q3, 2, none⟩ = some (.int .i64 S.c) := fun wx e => (As.ext e).c2
  have Fs : Ext W4 W4 := Ext.refl _
  clear As
  go_wp2_with fail
  refine (post_add b a S ok V8.out V7.out _).mono ?_
  rintro e wn ⟨rfl, en⟩
  replace E := E.trans en
  replace Fs := Fs.trans en
  clear en
  obtain ⟨W6, hW6⟩ : ∃ W, wn.alloc (.cells #[.int .i64 S.a, .int .i64 S.b, .int .i64 S.c] 56) = W := ⟨_, rfl⟩
  obtain ⟨q5, hq5⟩ : ∃ q, wn.heap.size = q := ⟨_, rfl⟩
  have At := Arr3.new wn S.a S.b S.c
  rw [hW6, hq5] at At
  replace E := E.alloc (.cells #[.int .i64 S.a, .int .i64 S.b, .int .i64 S.c] 56)
  replace Fs := Fs.alloc (.cells #[.int .i64 S.a, .int .i64 S.b, .int .i64 S.c] 56)
  rw [hW6] at E Fs
  have kt0 : ∀ wx, Ext W6 wx → wx.cell? ⟨q5, 0, none⟩ = some (.int .i64 S.a) := fun wx e => (At.ext e).c0
  have kt1 : ∀ wx, Ext W6 wx → wx.cell? ⟨q5, 1, none⟩ = some (.int .i64 S.b) := fun wx e => (At.ext e).c1
  have kt2 : ∀ wx, Ext W6 wx → wx.cell? ⟨q5, 2, none⟩ = some (.int .i64 S.c) := fun wx e => (At.ext e).c2
  have Ft : Ext W6 W6 := Ext.refl _
  clear At
  cases ok
  case' true =>
    obtain ⟨y1, y2, y3, y4⟩ := BACK.out (by simp)
    have Y1 := Lib.hid y1
    have Y2 := Lib.hid y2
    have Y3 := Lib.hid y3
    have Y4 := Lib.hid y4
    clear y1 y2 y3 y4
    go_wp2_with fail
    refine (post_sub S b a true Y2.out Y1.out _).mono ?_
    rintro e wn ⟨rfl, en⟩
    replace E := E.trans en
    replace Fs := Fs.trans en
    replace Ft := Ft.trans en
    clear en
    obtain ⟨W8, hW8⟩ : ∃ W, wn.alloc (.cells #[.int .i64 a.a, .int .i64 a.b, .int .i64 a.c] 56) = W := ⟨_, rfl⟩
    obtain ⟨q7, hq7⟩ : ∃ q, wn.heap.size = q := ⟨_, rfl⟩
    have Au := Arr3.new wn a.a a.b a.c
    rw [hW8, hq7] at Au
    replace E := E.alloc (.cells #[.int .i64 a.a, .int .i64 a.b, .int .i64 a.c] 56)
    replace Fs := Fs.alloc (.cells #[.int .i64 a.a, .int .i64 a.b, .int .i64 a.c] 56)
    replace Ft := Ft.alloc (.cells #[.int .i64 a.a, .int .i64 a.b, .int .i64 a.c] 56)
    rw [hW8] at E Fs Ft
    have ku0 : ∀ wx, Ext W8 wx → wx.cell? ⟨q7, 0, none⟩ = some (.int .i64 a.a) := fun wx e => (Au.ext e).c0
    have ku1 : ∀ wx, Ext W8 wx → wx.cell? ⟨q7, 1, none⟩ = some (.int .i64 a.b) := fun wx e => (Au.ext e).c1
    have ku2 : ∀ wx, Ext W8 wx → wx.cell? ⟨q7, 2, none⟩ = some (.int .i64 a.c) := fun wx e => (Au.ext e).c2
    have Fu : Ext W8 W8 := Ext.refl _
    clear Au
    go_wp2_with fail
    refine (post_fits a S true Y3.out _).mono ?_
    rintro e wn ⟨rfl, en⟩
    replace E := E.trans en
    replace Fs := Fs.trans en
    replace Ft := Ft.trans en
    replace Fu := Fu.trans en
    clear en
    go_wp2_with fail
    refine (post_fits b S true Y4.out _).mono ?_
    rintro e wn ⟨rfl, en⟩
    replace E := E.trans en
    replace Fs := Fs.trans en
    replace Ft := Ft.trans en
    replace Fu := Fu.trans en
    clear en
    go_wp2_with fail
  case' false => go_wp2_with fail
  all_goals (
    clear Fs Ft ks0 ks1 ks2 kt0 kt1 kt2
    refine (post_sum (some ⟨_, 0, none⟩) 3 [a, b, c] 3 X k rfl V3.out V5.out _ H3.out (sl_res3 _ _ a b c HA.out HB.out HC.out (WB.new _ _ _))).mono ?_
    rintro e wn ⟨rfl, en⟩
    replace E := (E.alloc _).trans en
    clear en
    obtain ⟨W10, hW10⟩ : ∃ W, wn.alloc (.cells #[.int .i64 X.a, .int .i64 X.b, .int .i64 X.c] 56) = W := ⟨_, rfl⟩
    obtain ⟨q9, hq9⟩ : ∃ q, wn.heap.size = q := ⟨_, rfl⟩
    have Ax := Arr3.new wn X.a X.b X.c
    rw [hW10, hq9] at Ax
    replace E := E.alloc (.cells #[.int .i64 X.a, .int .i64 X.b, .int .i64 X.c] 56)
    rw [hW10] at E
    have kx0 : ∀ wx, Ext W10 wx → wx.cell? ⟨q9, 0, none⟩ = some (.int .i64 X.a) := fun wx e => (Ax.ext e).c0
    have kx1 : ∀ wx, Ext W10 wx → wx.cell? ⟨q9, 1, none⟩ = some (.int .i64 X.b) := fun wx e => (Ax.ext e).c1
    have kx2 : ∀ wx, Ext W10 wx → wx.cell? ⟨q9, 2, none⟩ = some (.int .i64 X.c) := fun wx e => (Ax.ext e).c2
    have Fx : Ext W10 W10 := Ext.refl _
    clear Ax
    go_wp2_with fail
    refine (post_sum (some ⟨_, 0, none⟩) 3 [c, b, a] 3 Y l rfl V4.out V6.out _ H3.out (sl_res3 _ _ c b a HC.out HB.out HA.out (WB.new _ _ _))).mono ?_
    rintro e wn ⟨rfl, en⟩
    replace E := (E.alloc _).trans en
    replace Fx := (Fx.alloc _).trans en
    clear en
    obtain ⟨W12, hW12⟩ : ∃ W, wn.alloc (.cells #[.int .i64 Y.a, .int .i64 Y.b, .int .i64 Y.c] 56) = W := ⟨_, rfl⟩
    obtain ⟨q11, hq11⟩ : ∃ q, wn.heap.size = q := ⟨_, rfl⟩
    have Ay := Arr3.new wn Y.a Y.b Y.c
    rw [hW12, hq11] at Ay
    replace E := E.alloc (.cells #[.int .i64 Y.a, .int .i64 Y.b, .int .i64 Y.c] 56)
    replace Fx := Fx.alloc (.cells #[.int .i64 Y.a, .int .i64 Y.b, .int .i64 Y.c] 56)
    rw [hW12] at E Fx
    have ky0 : ∀ wx, Ext W12 wx → wx.cell? ⟨q11, 0, none⟩ = some (.int .i64 Y.a) := fun wx e => (Ay.ext e).c0
    have ky1 : ∀ wx, Ext W12 wx → wx.cell? ⟨q11, 1, none⟩ = some (.int .i64 Y.b) := fun wx e => (Ay.ext e).c1
    have ky2 : ∀ wx, Ext W12 wx → wx.cell? ⟨q11, 2, none⟩ = some (.int .i64 Y.c) := fun wx e => (Ay.ext e).c2
    have Fy : Ext W12 W12 := Ext.refl _
    clear Ay
    cases k
    · go_wp2_with fail
      go_ret
      exact ⟨ret_bool (by simp), X1.out.trans E⟩
    · cases l
      · go_wp2_with fail
        go_ret
        exact ⟨ret_bool (by simp), X1.out.trans E⟩
      · have hXY := SAME.out (by simp) (by simp)
        subst hXY
        go_wp2_with fail
        go_ret
        exact ⟨ret_bool (by simp), X1.out.trans E⟩)
end Go.Proofs.YthfafenigjldlaaGreat
