/-
  The walks of package taint: tolerations, which bear which.
-/
import Derived.Test.YthfafenigjldlaaGreatLabel1
namespace Go.Proofs.YthfafenigjldlaaGreat
open Go.RowKit
set_option linter.unusedVariables false

set_option maxHeartbeats 400000 in
theorem bears_any (t : Tl) (x : Pr) (w : World) :
    Calls Tryz.prog 37 #[.agg #[.string t.key, .string t.val, .bool t.any], .agg #[.string x.key, .string x.val]] w fun e w' => e = .returned (.bool (bearsB t x)) ∧ Ext w w' := by
  have HE : Hid (∀ o o' : Obj, Ext w ((w.alloc o).alloc o')) := fun o o' => ((Ext.refl w).alloc o).alloc o'
  go_enter Tryz.func37, Tryz.ntmps37
  go_wp2_with fail
  all_goals go_ret
  all_goals refine ⟨ret_bool ?_, HE.out _ _⟩
  all_goals (clear HE; simp_all [bearsB, empS, eqS])

set_option maxHeartbeats 400000 in
theorem mayTol_any (t : Tl) (w : World) (h1 : okS t.key) (h2 : okS t.val) :
    Calls Tryz.prog 69 #[.agg #[.string t.key, .string t.val, .bool t.any]] w fun e w' => e = .returned (.bool (mayTolB t)) ∧ Ext w w' := by
  have HE : Hid (∀ o : Obj, Ext w (w.alloc o)) := fun o => (Ext.refl w).alloc o
  go_enter Tryz.func69, Tryz.ntmps69
  go_wp2_with (go_at_call 21; refine (name_any _ _ (by assumption)).mono ?_; rintro e w' ⟨rfl, rfl⟩)
  all_goals go_ret
  all_goals refine ⟨ret_bool ?_, HE.out _⟩
  all_goals (clear HE; simp_all [mayTolB, empS])

theorem mayTolsF_any (t : Tl) (w : World) (h1 : okS t.key) (h2 : okS t.val) :
    Calls Tryz.prog 68 #[.agg #[.string t.key, .string t.val, .bool t.any]] w fun e w' => e = .returned (.bool (!mayTolB t)) ∧ Ext w w' := by
  have HE : Hid (∀ o : Obj, Ext w (w.alloc o)) := fun o => (Ext.refl w).alloc o
  go_enter Tryz.func68, Tryz.ntmps68
  go_wp2_with fail
  refine (mayTol_any t _ h1 h2).mono ?_
  rintro e w' ⟨rfl, he⟩
  go_wp2_with fail
  go_ret
  exact ⟨rfl, (HE.out _).trans he⟩

theorem allF_any (t : Tl) (x : Pr) (w : World) (b o : Nat) (h1 : w.cell? ⟨b, o, none⟩ = some (.string x.key)) (h2 : w.cell? ⟨b, o + 1, none⟩ = some (.string x.val)) :
    Calls Tryz.prog 70 #[.agg #[.string t.key, .string t.val, .bool t.any], .pointer (some ⟨b, o, none⟩)] w fun e w' => e = .returned (.bool (bearsB t x)) ∧ Ext w w' := by
  have HE : Hid (∀ o : Obj, Ext w (w.alloc o)) := fun o => (Ext.refl w).alloc o
  have g1 := cell_alloc h1
  have g2 := cell_alloc h2
  clear h1 h2
  go_enter Tryz.func70, Tryz.ntmps70
  go_wp2_with fail
  refine (bears_any t x _).mono ?_
  rintro e w' ⟨rfl, he⟩
  go_wp2_with fail
  go_ret
  exact ⟨rfl, (HE.out _).trans he⟩

set_option maxHeartbeats 600000 in
theorem if_mayTols (A : Option Addr) (c : Nat) (xs : List Tl)  (w : World) (hn : xs.length ≤ maxLen) (hx : Sl RTol 3 w A xs)  :
    Calls Tryz.prog 114 #[.slice A xs.length c, .func (.func 68) #[] #[]] w (IdxPost (fun t => !mayTolB t) xs w) := by
  unfold maxLen at hn
  have HX := Lib.hid hx
  clear hx
  go_enter Tryz.func114, Tryz.ntmps114
  go_wp2_with fail
  go_loopw [8] (fun i wr => ∃ k : Nat, k ≤ xs.length ∧ i = .int .i64 k ∧ Ext w wr ∧ Hid (xs.any (fun t => !mayTolB t) = (xs.drop k).any (fun t => !mayTolB t))) (fun i _ => xs.length - (intOf i).toNat)
  case atStart => exact ⟨0, by omega, rfl, Ext.refl _, rfl⟩
  case round =>
    obtain ⟨k, hk, rfl, he, hd⟩ := hrel
    by_cases hlt : k < xs.length
    · obtain ⟨b, o, x, hA, hxk, ok1, ok2, c0, c1, c2⟩ := (HX.out.ext RTol.keeps he).tol hlt
      have hstep := Lib.hid (any_at (p := fun t => !mayTolB t) hxk)
      subst hA
      clear hxk HX
      cases hp : (fun t => !mayTolB t) x
      · have HP := Lib.hid hp
        dsimp only at hp
        go_wp2_with fail
        refine (mayTolsF_any _ _ ok1 ok2).mono ?_
        rintro e w' ⟨rfl, he'⟩
        go_wp2_with fail
        go_roundw
        case rel => exact ⟨k + 1, by omega, by go_num, he.trans he', by show _ = _; rw [hd.out, hstep.out, HP.out]; rfl⟩
        case measure => simp [intOf]; omega
      · have HP := Lib.hid hp
        dsimp only at hp
        go_wp2_with fail
        refine (mayTolsF_any _ _ ok1 ok2).mono ?_
        rintro e w' ⟨rfl, he'⟩
        go_wp2_with fail
        go_ret
        exact ⟨k, rfl, by rw [hd.out, hstep.out, HP.out]; simp, he.trans he'⟩
    · go_wp2_with fail
      go_ret
      exact ⟨-1, rfl, by rw [hd.out, drop_all (by omega)]; simp, he⟩

set_option maxHeartbeats 400000 in
theorem cf_mayTols (A : Option Addr) (c : Nat) (xs : List Tl)  (w : World) (hn : xs.length ≤ maxLen) (hx : Sl RTol 3 w A xs)  :
    Calls Tryz.prog 67 #[.slice A xs.length c, .func (.func 68) #[] #[]] w fun e w' => e = .returned (.bool (xs.any (fun t => !mayTolB t))) ∧ Ext w w' := by
  go_enter Tryz.func67, Tryz.ntmps67
  go_wp2_with fail
  refine (if_mayTols A c xs  w hn hx).mono ?_
  rintro e w' ⟨i, rfl, hd, he⟩
  have HD := Lib.hid hd
  clear hd
  go_wp2_with fail
  go_ret
  exact ⟨ret_bool HD.out, he⟩


set_option maxHeartbeats 600000 in
theorem if_all (A : Option Addr) (c : Nat) (xs : List Tl) (y : Pr) (pb po : Nat) (w : World) (hn : xs.length ≤ maxLen) (hx : Sl RTol 3 w A xs) (hcl : w.cell? ⟨pb, po, none⟩ = some (.string y.key)) (hl : w.cell? ⟨pb, po + 1, none⟩ = some (.string y.val)) :
    Calls Tryz.prog 114 #[.slice A xs.length c, .func (.func 70) #[] #[.pointer (some ⟨pb, po, none⟩)]] w (IdxPost (fun t => bearsB t y) xs w) := by
  unfold maxLen at hn
  have HX := Lib.hid hx
  clear hx
  go_enter Tryz.func114, Tryz.ntmps114
  go_wp2_with fail
  go_loopw [8] (fun i wr => ∃ k : Nat, k ≤ xs.length ∧ i = .int .i64 k ∧ Ext w wr ∧ Hid (xs.any (fun t => bearsB t y) = (xs.drop k).any (fun t => bearsB t y))) (fun i _ => xs.length - (intOf i).toNat)
  case atStart => exact ⟨0, by omega, rfl, Ext.refl _, rfl⟩
  case round =>
    obtain ⟨k, hk, rfl, he, hd⟩ := hrel
    by_cases hlt : k < xs.length
    · obtain ⟨b, o, x, hA, hxk, ok1, ok2, c0, c1, c2⟩ := (HX.out.ext RTol.keeps he).tol hlt
      have hstep := Lib.hid (any_at (p := fun t => bearsB t y) hxk)
      subst hA
      clear hxk HX
      cases hp : (fun t => bearsB t y) x
      · have HP := Lib.hid hp
        dsimp only at hp
        go_wp2_with fail
        refine (allF_any x y _ pb po (he.cell hcl) (he.cell hl)).mono ?_
        rintro e w' ⟨rfl, he'⟩
        go_wp2_with fail
        go_roundw
        case rel => exact ⟨k + 1, by omega, by go_num, he.trans he', by show _ = _; rw [hd.out, hstep.out, HP.out]; rfl⟩
        case measure => simp [intOf]; omega
      · have HP := Lib.hid hp
        dsimp only at hp
        go_wp2_with fail
        refine (allF_any x y _ pb po (he.cell hcl) (he.cell hl)).mono ?_
        rintro e w' ⟨rfl, he'⟩
        go_wp2_with fail
        go_ret
        exact ⟨k, rfl, by rw [hd.out, hstep.out, HP.out]; simp, he.trans he'⟩
    · go_wp2_with fail
      go_ret
      exact ⟨-1, rfl, by rw [hd.out, drop_all (by omega)]; simp, he⟩

set_option maxHeartbeats 400000 in
theorem cf_all (A : Option Addr) (c : Nat) (xs : List Tl) (y : Pr) (pb po : Nat) (w : World) (hn : xs.length ≤ maxLen) (hx : Sl RTol 3 w A xs) (hcl : w.cell? ⟨pb, po, none⟩ = some (.string y.key)) (hl : w.cell? ⟨pb, po + 1, none⟩ = some (.string y.val)) :
    Calls Tryz.prog 67 #[.slice A xs.length c, .func (.func 70) #[] #[.pointer (some ⟨pb, po, none⟩)]] w fun e w' => e = .returned (.bool (xs.any (fun t => bearsB t y))) ∧ Ext w w' := by
  go_enter Tryz.func67, Tryz.ntmps67
  go_wp2_with fail
  refine (if_all A c xs y pb po w hn hx hcl hl).mono ?_
  rintro e w' ⟨i, rfl, hd, he⟩
  have HD := Lib.hid hd
  clear hd
  go_wp2_with fail
  go_ret
  exact ⟨ret_bool HD.out, he⟩


set_option maxHeartbeats 400000 in
theorem mayTols_any (A : Option Addr) (c : Nat) (ts : List Tl) (w : World) (hn : ts.length ≤ maxLen) (hx : Sl RTol 3 w A ts) :
    Calls Tryz.prog 33 #[.slice A ts.length c] w fun e w' => e = .returned (.bool (mayTolsB ts)) ∧ Ext w w' := by
  have HN := Lib.hid hn
  unfold maxLen at hn
  have HX := Lib.hid hx
  clear hx
  by_cases hl : ts.length ≤ 6
  · have hl' : (ts.length : Int) ≤ 6 := by omega
    go_enter Tryz.func33, Tryz.ntmps33
    go_wp2_with fail
    refine (cf_mayTols A c ts _ HN.out HX.out).mono ?_
    rintro e w' ⟨rfl, he⟩
    go_wp2_with fail
    go_ret
    exact ⟨ret_bool (by simp [mayTolsB, hl]), he⟩
  · have hl' : (6 : Int) < ts.length := by omega
    go_enter Tryz.func33, Tryz.ntmps33
    go_wp2_with fail
    go_ret
    exact ⟨ret_bool (by simp [mayTolsB, hl]), Ext.refl _⟩

set_option maxHeartbeats 600000 in
theorem all_any (A : Option Addr) (c : Nat) (tols : List Tl) (B : Option Addr) (d : Nat) (ts : List Pr) (w : World) (h1 : tols.length ≤ maxLen) (h2 : Sl RTol 3 w A tols) (h3 : ts.length ≤ maxLen) (h4 : Sl RPair 2 w B ts) :
    Calls Tryz.prog 35 #[.slice A tols.length c, .slice B ts.length d] w fun e w' => e = .returned (.bool (allB tols ts)) ∧ Ext w w' := by
  have hmf : ∀ (fn : Fn) (first cap : Array Value) (w : World), (Instr.makeFunc fn first cap).run Tryz.prog w = .ok (.func fn first cap) w := fun _ _ _ _ => rfl
  have H2 := Lib.hid h2
  have H4 := Lib.hid h4
  have H1 := Lib.hid h1
  unfold maxLen at h3
  clear h2 h4 h1
  go_enter Tryz.func35, Tryz.ntmps35
  go_wp2_with fail
  go_loopw [9] (fun i wr => ∃ k : Nat, k ≤ ts.length ∧ i = .int .i64 k ∧ Ext w wr ∧ Hid (allB tols ts = allB tols (ts.drop k))) (fun i _ => ts.length - (intOf i).toNat)
  case atStart => exact ⟨0, by omega, rfl, Ext.refl _, rfl⟩
  case round =>
    obtain ⟨k, hk, rfl, he, hd⟩ := hrel
    by_cases hlt : k < ts.length
    · obtain ⟨b, o, x, hA, hxk, ok1, ok2, c0, c1⟩ := (H4.out.ext RPair.keeps he).pair hlt
      have hstep : Hid (allB tols (ts.drop k) = (tols.any (fun t => bearsB t x) && allB tols (ts.drop (k + 1)))) := all_at hxk
      subst hA
      clear hxk H4
      go_wp2_with fail
      refine (cf_all A c tols x wr.heap.size 0 _ H1.out (H2.out.ext RTol.keeps (he.alloc _)) (by simp) (by simp)).mono ?_
      rintro e w' ⟨rfl, he'⟩
      have HE := Lib.hid ((he.alloc _).trans he')
      clear he he'
      cases hp : tols.any (fun t => bearsB t x)
      · have HP := Lib.hid hp
        go_wp2_with fail
        go_ret
        exact ⟨ret_bool (by rw [hd.out, hstep.out, HP.out]; rfl), HE.out⟩
      · have HP := Lib.hid hp
        go_wp2_with fail
        go_roundw
        case rel => exact ⟨k + 1, by omega, by go_num, HE.out, by show _ = _; rw [hd.out, hstep.out, HP.out]; rfl⟩
        case measure => simp [intOf]; omega
    · go_wp2_with fail
      go_ret
      exact ⟨ret_bool (by rw [hd.out, drop_all (by omega)]; rfl), he⟩
end Go.Proofs.YthfafenigjldlaaGreat
