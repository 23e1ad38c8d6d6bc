/-
  'interrexlaw1.QtyFits': the walk.
-/
import Derived.Test.YthfafenigjldlaaGreatQty5
import Derived.Test.YthfafenigjldlaaGreatEq2
namespace Go.Proofs.YthfafenigjldlaaGreat
open Go.RowKit
set_option linter.unusedVariables false

theorem post_fits (r s : Rs) (v : Bool) (hv : fitsB r s = v) (w : World) : Calls Tryz.prog 41 #[.agg #[.int .i64 r.a, .int .i64 r.b, .int .i64 r.c], .agg #[.int .i64 s.a, .int .i64 s.b, .int .i64 s.c]] w fun e w' => e = .returned (.bool v) ∧ Ext w w' := by
  subst hv
  exact qFits_any r s w
theorem post_sub (r s d : Rs) (v : Bool) (hd : subV r s = d) (hv : subB r s = v) (w : World) : Calls Tryz.prog 40 #[.agg #[.int .i64 r.a, .int .i64 r.b, .int .i64 r.c], .agg #[.int .i64 s.a, .int .i64 s.b, .int .i64 s.c]] w fun e w' => e = .returned (.tuple #[.agg #[.int .i64 d.a, .int .i64 d.b, .int .i64 d.c], .bool v]) ∧ Ext w w' := by
  subst hv hd
  exact qSub_any r s w
theorem post_add (r s d : Rs) (v : Bool) (hd : addV r s = d) (hv : addB r s = v) (w : World) : Calls Tryz.prog 39 #[.agg #[.int .i64 r.a, .int .i64 r.b, .int .i64 r.c], .agg #[.int .i64 s.a, .int .i64 s.b, .int .i64 s.c]] w fun e w' => e = .returned (.tuple #[.agg #[.int .i64 d.a, .int .i64 d.b, .int .i64 d.c], .bool v]) ∧ Ext w w' := by
  subst hv hd
  exact qAdd_any r s w
theorem post_fine (r : Rs) (v : Bool) (hv : fineB r = v) (w : World) : Calls Tryz.prog 44 #[.agg #[.int .i64 r.a, .int .i64 r.b, .int .i64 r.c]] w fun e w' => e = .returned (.bool v) ∧ Ext w w' := by
  subst hv
  exact fine_any r w

set_option maxRecDepth 20000 in
set_option maxHeartbeats 8000000 in
theorem qtyFits_any (HBA : Hid (∀ w : World, Calls Tryz.prog 17 #[] w fun e w' => e = .returned (.bool true) ∧ Ext w w')) (a b c : Rs) (w : World) (ha : okR a) (hb : okR b) (hc : okR c) :
    Calls Tryz.prog 11 #[.agg #[.int .i64 a.a, .int .i64 a.b, .int .i64 a.c], .agg #[.int .i64 b.a, .int .i64 b.b, .int .i64 b.c], .agg #[.int .i64 c.a, .int .i64 c.b, .int .i64 c.c]] w fun e w' => e = .returned (.bool true) ∧ Ext w w' := by
  obtain ⟨Wa, hWa⟩ : ∃ W, w.alloc (.cells #[.int .i64 a.a, .int .i64 a.b, .int .i64 a.c] 56) = W := ⟨_, rfl⟩
  obtain ⟨q0, hq0⟩ : ∃ q, w.heap.size = q := ⟨_, rfl⟩
  have Aa := Arr3.new w a.a a.b a.c
  rw [hWa, hq0] at Aa
  obtain ⟨Wb, hWb⟩ : ∃ W, Wa.alloc (.cells #[.int .i64 b.a, .int .i64 b.b, .int .i64 b.c] 56) = W := ⟨_, rfl⟩
  obtain ⟨q1, hq1⟩ : ∃ q, Wa.heap.size = q := ⟨_, rfl⟩
  have Ab := Arr3.new Wa b.a b.b b.c
  rw [hWb, hq1] at Ab
  obtain ⟨W1, hW1⟩ : ∃ W, Wb.alloc (.cells #[.int .i64 c.a, .int .i64 c.b, .int .i64 c.c] 56) = W := ⟨_, rfl⟩
  obtain ⟨q2, hq2⟩ : ∃ q, Wb.heap.size = q := ⟨_, rfl⟩
  have Ac := Arr3.new Wb c.a c.b c.c
  rw [hW1, hq2] at Ac
  replace Aa := (Aa.alloc (.cells #[.int .i64 b.a, .int .i64 b.b, .int .i64 b.c] 56)).alloc (.cells #[.int .i64 c.a, .int .i64 c.b, .int .i64 c.c] 56)
  rw [hWb, hW1] at Aa
  replace Ab := Ab.alloc (.cells #[.int .i64 c.a, .int .i64 c.b, .int .i64 c.c] 56)
  rw [hW1] at Ab
  have X1 : Hid (Ext w W1) := by rw [← hW1, ← hWb, ← hWa]; exact (((Ext.refl _).alloc _).alloc _).alloc _
  have ka0 : ∀ wx, Ext W1 wx → wx.cell? ⟨q0, 0, none⟩ = some (.int .i64 a.a) := fun wx e => (Aa.ext e).c0
  have ka1 : ∀ wx, Ext W1 wx → wx.cell? ⟨q0, 1, none⟩ = some (.int .i64 a.b) := fun wx e => (Aa.ext e).c1
  have ka2 : ∀ wx, Ext W1 wx → wx.cell? ⟨q0, 2, none⟩ = some (.int .i64 a.c) := fun wx e => (Aa.ext e).c2
  have kb0 : ∀ wx, Ext W1 wx → wx.cell? ⟨q1, 0, none⟩ = some (.int .i64 b.a) := fun wx e => (Ab.ext e).c0
  have kb1 : ∀ wx, Ext W1 wx → wx.cell? ⟨q1, 1, none⟩ = some (.int .i64 b.b) := fun wx e => (Ab.ext e).c1
  have kb2 : ∀ wx, Ext W1 wx → wx.cell? ⟨q1, 2, none⟩ = some (.int .i64 b.c) := fun wx e => (Ab.ext e).c2
  have kc0 : ∀ wx, Ext W1 wx → wx.cell? ⟨q2, 0, none⟩ = some (.int .i64 c.a) := fun wx e => (Ac.ext e).c0
  have kc1 : ∀ wx, Ext W1 wx → wx.cell? ⟨q2, 1, none⟩ = some (.int .i64 c.b) := fun wx e => (Ac.ext e).c1
  have kc2 : ∀ wx, Ext W1 wx → wx.cell? ⟨q2, 2, none⟩ = some (.int .i64 c.c) := fun wx e => (Ac.ext e).c2
  have E : Ext W1 W1 := Ext.refl _
  clear Aa Ab Ac
  have hne := neq_res
  have heq := eql_res
  obtain ⟨f1, h1⟩ : ∃ v, v = fitsB a b := ⟨_, rfl⟩
  obtain ⟨f2, h2⟩ : ∃ v, v = fitsB b c := ⟨_, rfl⟩
  obtain ⟨f3, h3⟩ : ∃ v, v = fitsB a c := ⟨_, rfl⟩
  obtain ⟨n1, g1⟩ : ∃ v, v = fineB a := ⟨_, rfl⟩
  obtain ⟨n2, g2⟩ : ∃ v, v = fineB b := ⟨_, rfl⟩
  obtain ⟨ok, k1⟩ : ∃ v, v = subB b a := ⟨_, rfl⟩
  obtain ⟨D, k2⟩ : ∃ v, v = subV b a := ⟨_, rfl⟩
  have V1 := Lib.hid h1.symm
  have V2 := Lib.hid h2.symm
  have V3 := Lib.hid h3.symm
  have V4 := Lib.hid g1.symm
  have V5 := Lib.hid g2.symm
  have V6 := Lib.hid k1.symm
  have V7 := Lib.hid k2.symm
  have TR : Hid (f1 = true → f2 = true → f3 = true) := fun p q => by rw [h3]; exact fits_trans (by rw [← h1]; exact p) (by rw [← h2]; exact q)
  have NO : Hid (ok = false → D = zeroR ∧ ¬ (f1 = true ∧ n1 = true ∧ n2 = true)) := fun p => by
    rw [k2, h1, g1, g2]
    exact sub_none (by rw [← k1]; exact p)
  have YES : Hid (ok = true → addB D a = true ∧ addV D a = b ∧ f1 = true ∧ fitsB D b = true) := fun p => by
    rw [k2, h1]
    exact sub_back (by rw [← k1]; exact p)
  clear h1 h2 h3 g1 g2 k1 k2 ha hb hc
  go_enter Tryz.func11, Tryz.ntmps11
  go_wp2_with fail
  refine (HBA.out _).mono ?_
  rintro e wn ⟨rfl, en⟩
  replace E := E.trans en
  clear en
  go_wp2_with fail
  refine (post_fits a b f1 V1.out _).mono ?_
  rintro e wn ⟨rfl, en⟩
  replace E := E.trans en
  clear en
  cases f1
  case' true =>
    go_wp2_with fail
    refine (post_fits b c f2 V2.out _).mono ?_
    rintro e wn ⟨rfl, en⟩
    replace E := E.trans en
    clear en
    cases f2
    case' true =>
      have t3 := TR.out (by simp) (by simp)
      subst t3
      go_wp2_with fail
      refine (post_fits a c true V3.out _).mono ?_
      rintro e wn ⟨rfl, en⟩
      replace E := E.trans en
      clear en
  all_goals (
    go_wp2_with fail
    refine (post_sub b a D ok V7.out V6.out _).mono ?_
    rintro e wn ⟨rfl, en⟩
    replace E := E.trans en
    clear en
    obtain ⟨W4, hW4⟩ : ∃ W, wn.alloc (.cells #[.int .i64 D.a, .int .i64 D.b, .int .i64 D.c] 56) = W := ⟨_, rfl⟩
    obtain ⟨q4, hq4⟩ : ∃ q, wn.heap.size = q := ⟨_, rfl⟩
    have Ad := Arr3.new wn D.a D.b D.c
    rw [hW4, hq4] at Ad
    replace E := E.alloc (.cells #[.int .i64 D.a, .int .i64 D.b, .int .i64 D.c] 56)
    rw [hW4] at E
    have kd0 : ∀ wx, Ext W4 wx → wx.cell? ⟨q4, 0, none⟩ = some (.int .i64 D.a) := fun wx e => (Ad.ext e).c0
    have kd1 : ∀ wx, Ext W4 wx → wx.cell? ⟨q4, 1, none⟩ = some (.int .i64 D.b) := fun wx e => (Ad.ext e).c1
    have kd2 : ∀ wx, Ext W4 wx → wx.cell? ⟨q4, 2, none⟩ = some (.int .i64 D.c) := fun wx e => (Ad.ext e).c2
    have F : Ext W4 W4 := Ext.refl _
    clear Ad
    cases ok
    · obtain ⟨hD, hno⟩ := NO.out (by simp)
      have z0 : (D.a == 0) = true := by rw [hD]; rfl
      have z1 : (D.b == 0) = true := by rw [hD]; rfl
      have z2 : (D.c == 0) = true := by rw [hD]; rfl
      have HNO := Lib.hid hno
      clear hD hno
      go_wp2_with fail
      refine (post_fits a b _ V1.out _).mono ?_
      rintro e wn ⟨rfl, en⟩
      replace E := E.trans en
      replace F := F.trans en
      clear en
      go_wp2_with fail
      first
        | (go_ret
           exact ⟨ret_bool (by simp), X1.out.trans E⟩)
        | (refine (post_fine a n1 V4.out _).mono ?_
           rintro e wn ⟨rfl, en⟩
           replace E := E.trans en
           replace F := F.trans en
           clear en
           cases n1
           · go_wp2_with fail
             go_ret
             exact ⟨ret_bool (by simp), X1.out.trans E⟩
           · go_wp2_with fail
             refine (post_fine b n2 V5.out _).mono ?_
             rintro e wn ⟨rfl, en⟩
             replace E := E.trans en
             clear en F
             cases n2
             · go_wp2_with fail
               go_ret
               exact ⟨ret_bool (by simp), X1.out.trans E⟩
             · exact (HNO.out (by simp)).elim)
    · obtain ⟨y1, y2, y3, y4⟩ := YES.out (by simp)
      have Y1 := Lib.hid y1
      have Y2 := Lib.hid y2
      have Y4 := Lib.hid y4
      clear y1 y2 y4
      first
        | (exfalso
           revert y3
           simp
           done)
        | skip
      all_goals (
        clear y3
        go_wp2_with fail
        refine (post_add D a b true Y2.out Y1.out _).mono ?_
        rintro e wn ⟨rfl, en⟩
        replace E := E.trans en
        replace F := F.trans en
        clear en
        obtain ⟨W6, hW6⟩ : ∃ W, wn.alloc (.cells #[.int .i64 b.a, .int .i64 b.b, .int .i64 b.c] 56) = W := ⟨_, rfl⟩
        obtain ⟨q6, hq6⟩ : ∃ q, wn.heap.size = q := ⟨_, rfl⟩
        have Ae := Arr3.new wn b.a b.b b.c
        rw [hW6, hq6] at Ae
        replace E := E.alloc (.cells #[.int .i64 b.a, .int .i64 b.b, .int .i64 b.c] 56)
        replace F := F.alloc (.cells #[.int .i64 b.a, .int .i64 b.b, .int .i64 b.c] 56)
        rw [hW6] at E F
        have e0 := Ae.c0
        have e1 := Ae.c1
        have e2 := Ae.c2
        clear Ae
        go_wp2_with fail
        refine (post_fits a b _ V1.out _).mono ?_
        rintro e wn ⟨rfl, en⟩
        replace E := E.trans en
        replace F := F.trans en
        clear en
        go_wp2_with fail
        refine (post_fits D b true Y4.out _).mono ?_
        rintro e wn ⟨rfl, en⟩
        replace E := E.trans en
        clear en F
        go_wp2_with fail
        go_ret
        exact ⟨ret_bool (by simp), X1.out.trans E⟩))
end Go.Proofs.YthfafenigjldlaaGreat
