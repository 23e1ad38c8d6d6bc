/-
  The walks of the reference's taints: MayTaints, MayTols, Bears, Borne; and taint.May.
-/
import Derived.Test.YthfafenigjldlaaGreatRef1
import Derived.Test.YthfafenigjldlaaGreatTaint1
import Derived.Deep.RegionLaw
namespace Go.Proofs.YthfafenigjldlaaGreat
open Go.RowKit
set_option linter.unusedVariables false

set_option maxHeartbeats 2000000 in
theorem rMayTaints_any (A : Option Addr) (c : Nat) (xs : List Pr) (w : World) (hn : xs.length ≤ maxLen) (hx : Sl RPair 2 w A xs) :
    Calls Tryz.prog 32 #[.slice A xs.length c] w fun e w' => e = .returned (.bool (mayPairs xs)) ∧ Ext w w' := by
  unfold maxLen at hn
  have HX := Lib.hid hx
  clear hx
  go_enter Tryz.func32, Tryz.ntmps32
  go_wp2_with fail
  go_loopw [6] (fun i wr => ∃ k : Nat, k ≤ xs.length ∧ i = .int .i64 k ∧ Ext w wr ∧ Hid (mayFrom none xs = mayFrom (prevK xs k) (xs.drop k))) (fun i _ => xs.length - (intOf i).toNat)
  case atStart => exact ⟨0, by omega, rfl, Ext.refl _, rfl⟩
  case round =>
    obtain ⟨k, hk, rfl, he, hd⟩ := hrel
    by_cases hlt : k < xs.length
    · obtain ⟨b, o, x, hA, hxk, ok1, ok2, c0, c1⟩ := (HX.out.ext RPair.keeps he).pair hlt
      have hstep := Lib.hid (mayFrom_at hxk)
      have HA := Lib.hid hA
      have HXK := Lib.hid hxk
      subst hA
      clear hxk
      have NM := Lib.hid rNameE
      cases h1 : nameB x.key
      · go_wp2_with fail
        go_quiet ((go_at_call 22; exact Calls.quiet_of_same (NM.out _ _ (by assumption))))
        go_wp2_with fail
        go_ret
        exact ⟨ret_bool (by unfold mayPairs; rw [hd.out, hstep.out, h1]; rfl), he.drewN _⟩
      cases h2 : nameB x.val
      · go_wp2_with fail
        go_quiet ((go_at_call 22; exact Calls.quiet_of_same (NM.out _ _ (by assumption))))
        go_wp2_with fail
        go_ret
        exact ⟨ret_bool (by unfold mayPairs; rw [hd.out, hstep.out, h1, h2]; rfl), he.drewN _⟩
      rcases Nat.eq_zero_or_pos k with hk0 | hk0
      · subst hk0
        simp only [Nat.zero_mul, Nat.add_zero] at c0 c1
        go_wp2_with fail
        go_quiet ((go_at_call 22; exact Calls.quiet_of_same (NM.out _ _ (by assumption))))
        go_wp2_with fail
        go_roundw
        case rel => exact ⟨1, by omega, by go_num, he.drewN _, by show _ = _; rw [hd.out, hstep.out, h1, h2]; rfl⟩
        case measure => simp [intOf]; omega
      obtain ⟨m, rfl⟩ : ∃ m, k = m + 1 := ⟨k - 1, by omega⟩
      obtain ⟨b', o', y, hA', hym, _, _, d0, _⟩ := (HX.out.ext RPair.keeps he).pair (show m < xs.length by omega)
      obtain ⟨rfl, rfl⟩ : b' = b ∧ o' = o := by rw [HA.out] at hA'; injection hA' with e; injection e with e1 e2; exact ⟨e1.symm, e2.symm⟩
      have hp := Lib.hid (prevK_succ hym)
      clear hA' hym HA
      have s1 : IntKind.i64.wrap (m : Int) = (m : Int) := IntWalk.i64_in _ (by omega)
      have s2 : (m : Int) < (xs.length : Int) := by omega
      have s3 : (0 : Int) ≤ (m : Int) := by omega
      cases h3 : ltS y.key x.key
      · have h3' : Op.bytesLess y.key.toList x.key.toList = false := h3
        go_wp2_with fail
        go_quiet ((go_at_call 22; exact Calls.quiet_of_same (NM.out _ _ (by assumption))))
        go_wp2_with fail
        go_ret
        exact ⟨ret_bool (by unfold mayPairs; rw [hd.out, hstep.out, h1, h2, hp.out]; simp [h3]), he.drewN _⟩
      · have h3' : Op.bytesLess y.key.toList x.key.toList = true := h3
        go_wp2_with fail
        go_quiet ((go_at_call 22; exact Calls.quiet_of_same (NM.out _ _ (by assumption))))
        go_wp2_with fail
        go_roundw
        case rel => exact ⟨m + 1 + 1, by omega, by go_num, he.drewN _, by show _ = _; rw [hd.out, hstep.out, h1, h2, hp.out]; simp [h3]⟩
        case measure => simp [intOf]; omega
    · have hlen := hd
      go_wp2_with fail
      go_ret
      exact ⟨ret_bool (by unfold mayPairs; rw [hd.out, drop_all (by omega)]; show _ = (true && _); simp; omega), he⟩
set_option maxHeartbeats 1000000 in
theorem tMay_any (A : Option Addr) (c : Nat) (xs : List Pr) (w : World) (hn : xs.length ≤ maxLen) (hx : Sl RPair 2 w A xs) :
    Calls Tryz.prog 31 #[.slice A xs.length c] w fun e w' => e = .returned (.bool (mayPairs xs)) ∧ Ext w w' := by
  unfold maxLen at hn
  have HX := Lib.hid hx
  clear hx
  go_enter Tryz.func31, Tryz.ntmps31
  go_wp2_with fail
  go_loopw [7] (fun i wr => ∃ k : Nat, k ≤ xs.length ∧ i = .int .i64 k ∧ Ext w wr ∧ Hid (mayFrom none xs = mayFrom (prevK xs k) (xs.drop k))) (fun i _ => xs.length - (intOf i).toNat)
  case atStart => exact ⟨0, by omega, rfl, Ext.refl _, rfl⟩
  case round =>
    obtain ⟨k, hk, rfl, he, hd⟩ := hrel
    by_cases hlt : k < xs.length
    · obtain ⟨b, o, x, hA, hxk, ok1, ok2, c0, c1⟩ := (HX.out.ext RPair.keeps he).pair hlt
      have hstep := Lib.hid (mayFrom_at hxk)
      have HA := Lib.hid hA
      have HXK := Lib.hid hxk
      subst hA
      clear hxk
      have nm : ∀ (s : ByteArray) (w : World), okS s → Calls Tryz.prog 21 #[.string s] w fun e w' => e = .returned (.bool (nameB s)) ∧ w' = w :=
        fun s w h => (name_any s w h).mono fun e w' ⟨a, b⟩ => ⟨a, b.symm⟩
      have NM := Lib.hid nm
      clear nm
      cases h1 : nameB x.key
      · go_wp2_with fail
        go_quiet ((go_at_call 21; exact Calls.quiet_of_same (NM.out _ _ (by assumption))))
        go_wp2_with fail
        go_ret
        exact ⟨ret_bool (by unfold mayPairs; rw [hd.out, hstep.out, h1]; rfl), (he.alloc _).drewN _⟩
      cases h2 : nameB x.val
      · go_wp2_with fail
        go_quiet ((go_at_call 21; exact Calls.quiet_of_same (NM.out _ _ (by assumption))))
        go_wp2_with fail
        go_ret
        exact ⟨ret_bool (by unfold mayPairs; rw [hd.out, hstep.out, h1, h2]; rfl), (he.alloc _).drewN _⟩
      rcases Nat.eq_zero_or_pos k with hk0 | hk0
      · subst hk0
        simp only [Nat.zero_mul, Nat.add_zero] at c0 c1
        go_wp2_with fail
        go_quiet ((go_at_call 21; exact Calls.quiet_of_same (NM.out _ _ (by assumption))))
        go_wp2_with fail
        go_roundw
        case rel => exact ⟨1, by omega, by go_num, (he.alloc _).drewN _, by show _ = _; rw [hd.out, hstep.out, h1, h2]; rfl⟩
        case measure => simp [intOf]; omega
      obtain ⟨m, rfl⟩ : ∃ m, k = m + 1 := ⟨k - 1, by omega⟩
      obtain ⟨b', o', y, hA', hym, _, _, d0, _⟩ := (HX.out.ext RPair.keeps he).pair (show m < xs.length by omega)
      obtain ⟨rfl, rfl⟩ : b' = b ∧ o' = o := by rw [HA.out] at hA'; injection hA' with e; injection e with e1 e2; exact ⟨e1.symm, e2.symm⟩
      have hp := Lib.hid (prevK_succ hym)
      clear hA' hym HA
      have d1 := cell_alloc d0
      have s1 : IntKind.i64.wrap (m : Int) = (m : Int) := IntWalk.i64_in _ (by omega)
      have s2 : (m : Int) < (xs.length : Int) := by omega
      have s3 : (0 : Int) ≤ (m : Int) := by omega
      cases h3 : ltS y.key x.key
      · have h3' : Op.bytesLess y.key.toList x.key.toList = false := h3
        go_wp2_with fail
        go_quiet ((go_at_call 21; exact Calls.quiet_of_same (NM.out _ _ (by assumption))))
        go_wp2_with fail
        go_ret
        exact ⟨ret_bool (by unfold mayPairs; rw [hd.out, hstep.out, h1, h2, hp.out]; simp [h3]), (he.alloc _).drewN _⟩
      · have h3' : Op.bytesLess y.key.toList x.key.toList = true := h3
        go_wp2_with fail
        go_quiet ((go_at_call 21; exact Calls.quiet_of_same (NM.out _ _ (by assumption))))
        go_wp2_with fail
        go_roundw
        case rel => exact ⟨m + 1 + 1, by omega, by go_num, (he.alloc _).drewN _, by show _ = _; rw [hd.out, hstep.out, h1, h2, hp.out]; simp [h3]⟩
        case measure => simp [intOf]; omega
    · have hlen := hd
      go_wp2_with fail
      go_ret
      exact ⟨ret_bool (by unfold mayPairs; rw [hd.out, drop_all (by omega)]; show _ = (true && _); simp; omega), he⟩
set_option maxHeartbeats 400000 in
theorem rBears_any (t : Tl) (x : Pr) (w : World) :
    Calls Tryz.prog 38 #[.agg #[.string t.key, .string t.val, .bool t.any], .agg #[.string x.key, .string x.val]] w fun e w' => e = .returned (.bool (bearsB t x)) ∧ Ext w w' := by
  have HE : Hid (∀ o o' : Obj, Ext w ((w.alloc o).alloc o')) := fun o o' => ((Ext.refl w).alloc o).alloc o'
  go_enter Tryz.func38, Tryz.ntmps38
  go_wp2_with fail
  all_goals go_ret
  all_goals refine ⟨ret_bool ?_, HE.out _ _⟩
  all_goals (clear HE; simp_all [bearsB, empS, eqS])


theorem tl_false (t : Tl) (h : (empS t.key = false ∧ nameB t.key = false) ∨ (t.any = true ∧ empS t.val = false) ∨ (t.any = false ∧ nameB t.val = false)) : mayTolB t = false := by
  unfold mayTolB
  cases h1 : empS t.key <;> cases h2 : nameB t.key <;> cases h3 : t.any <;> cases h4 : empS t.val <;> cases h5 : nameB t.val <;> simp_all
theorem tl_true (t : Tl) (h1 : empS t.key = true ∨ nameB t.key = true) (h2 : t.any = true → empS t.val = true) (h3 : t.any = false → nameB t.val = true) : mayTolB t = true := by
  unfold mayTolB
  cases h4 : empS t.key <;> cases h5 : nameB t.key <;> cases h6 : t.any <;> cases h7 : empS t.val <;> cases h8 : nameB t.val <;> simp_all

set_option maxRecDepth 100000 in
set_option maxHeartbeats 4000000 in
theorem rMayTols_any (A : Option Addr) (c : Nat) (ts : List Tl) (w : World) (hn : ts.length ≤ maxLen) (hx : Sl RTol 3 w A ts) :
    Calls Tryz.prog 34 #[.slice A ts.length c] w fun e w' => e = .returned (.bool (mayTolsB ts)) ∧ Ext w w' := by
  unfold maxLen at hn
  have HX := Lib.hid hx
  clear hx
  go_enter Tryz.func34, Tryz.ntmps34
  go_wp2_with fail
  go_loopw [7] (fun i wr => ∃ k : Nat, k ≤ ts.length ∧ i = .int .i64 k ∧ Ext w wr ∧ Hid (ts.any (fun t => !mayTolB t) = (ts.drop k).any (fun t => !mayTolB t))) (fun i _ => ts.length - (intOf i).toNat)
  case atStart => exact ⟨0, by omega, rfl, Ext.refl _, rfl⟩
  case round =>
    obtain ⟨k, hk, rfl, he, hd⟩ := hrel
    by_cases hlt : k < ts.length
    · obtain ⟨b, o, x, hA, hxk, ok1, ok2, c0, c1, c2⟩ := (HX.out.ext RTol.keeps he).tol hlt
      have hstep := Lib.hid (any_at (p := fun t => !mayTolB t) hxk)
      have FF := Lib.hid (tl_false x)
      have TT := Lib.hid (tl_true x)
      subst hA
      clear hxk HX
      have HE : Hid (∀ o, Ext w (wr.alloc o)) := fun o => he.alloc o
      have OK1 := Lib.hid ok1
      have OK2 := Lib.hid ok2
      have FALSE : Hid (mayTolB x = false → mayTolsB ts = false) := fun h => by unfold mayTolsB; rw [hd.out, hstep.out, h]; simp
      have TRUE : Hid (mayTolB x = true → Hid (ts.any (fun t => !mayTolB t) = (ts.drop (k + 1)).any (fun t => !mayTolB t))) := fun h => by show _ = _; rw [hd.out, hstep.out, h]; rfl
      obtain ⟨key, val, any⟩ := x
      simp only at c0 c1 c2 FF TT OK1 OK2
      obtain ⟨ek, hek⟩ : ∃ e, e = empS key := ⟨_, rfl⟩
      obtain ⟨ev, hev⟩ : ∃ e, e = empS val := ⟨_, rfl⟩
      obtain ⟨nk, hnk⟩ : ∃ e, e = nameB key := ⟨_, rfl⟩
      obtain ⟨nv, hnv⟩ : ∃ e, e = nameB val := ⟨_, rfl⟩
      have q1 : key.toList.isEmpty = ek := hek.symm
      have q2 : val.toList.isEmpty = ev := hev.symm
      have q3 : (key.toList == []) = ek := by rw [hek]; unfold empS; cases key.toList <;> rfl
      have q4 : (val.toList == []) = ev := by rw [hev]; unfold empS; cases val.toList <;> rfl
      rw [← hek, ← hnk, ← hev, ← hnv] at FF TT
      have q5 : nameB key = nk := hnk.symm
      have q6 : nameB val = nv := hnv.symm
      have k1 := OK1.out
      have k2 := OK2.out
      clear he hd hstep ok1 ok2 hek hev hnk hnv OK1 OK2
      cases ek <;> cases any <;> cases nk <;> cases ev <;> cases nv
      all_goals (
        go_wp2_with (go_at_call 22; refine (rName_any _ _ (by assumption)).mono ?_; rintro e w' ⟨rfl, rfl⟩)
        first
          | (go_ret
             refine ⟨ret_bool (FALSE.out (FF.out ?_)).symm, HE.out _⟩
             simp)
          | (go_roundw
             case rel =>
               refine ⟨k + 1, ?_, ?_, HE.out _, TRUE.out (TT.out ?_ ?_ ?_)⟩
               · omega
               · go_num
               · simp
               · simp
               · simp
             case measure => simp [intOf]; omega))
    · have e1 : Hid (ts.any (fun t => !mayTolB t) = false) := by show _ = _; rw [hd.out, drop_all (by omega)]; rfl
      go_wp2_with fail
      go_ret
      exact ⟨ret_bool (by unfold mayTolsB; rw [e1.out, Bool.eq_iff_iff]; simp <;> omega), he⟩

set_option maxHeartbeats 2000000 in
theorem rBorne_any (A : Option Addr) (c : Nat) (tols : List Tl) (B : Option Addr) (d : Nat) (ts : List Pr) (w : World) (h1 : tols.length ≤ maxLen) (h2 : Sl RTol 3 w A tols) (h3 : ts.length ≤ maxLen) (h4 : Sl RPair 2 w B ts) :
    Calls Tryz.prog 36 #[.slice A tols.length c, .slice B ts.length d] w fun e w' => e = .returned (.bool (allB tols ts)) ∧ Ext w w' := by
  have H2 := Lib.hid h2
  have H4 := Lib.hid h4
  unfold maxLen at h1 h3
  clear h2 h4
  go_enter Tryz.func36, Tryz.ntmps36
  go_wp2_with fail
  go_loopw [10] (fun i wr => ∃ k : Nat, k ≤ ts.length ∧ i = .int .i64 k ∧ Ext w wr ∧ Hid (allB tols ts = allB tols (ts.drop k))) (fun i _ => ts.length - (intOf i).toNat)
  case atStart => exact ⟨0, by omega, rfl, Ext.refl _, rfl⟩
  case round =>
    obtain ⟨k, hk, rfl, he, hd⟩ := hrel
    by_cases hlt : k < ts.length
    · obtain ⟨b, o, x, hB, hxk, ok1, ok2, c0, c1⟩ := (H4.out.ext RPair.keeps he).pair hlt
      have hstep : Hid (allB tols (ts.drop k) = (tols.any (fun t => bearsB t x) && allB tols (ts.drop (k + 1)))) := all_at hxk
      have HE := Lib.hid he
      have CX : Hid (∀ wx, Ext wr wx → wx.cell? ⟨b, o + k * 2, none⟩ = some (.string x.key) ∧ wx.cell? ⟨b, o + k * 2 + 1, none⟩ = some (.string x.val)) := fun wx e => ⟨e.cell c0, e.cell c1⟩
      subst hB
      clear hxk H4 c0 c1 he
      go_wp2_with fail
      go_loopw [6, 15] (fun q i wi => ∃ (j : Nat) (p : Bool), j ≤ tols.length ∧ i = .int .i64 j ∧ q = .bool p ∧ Ext wr wi ∧ Hid (tols.any (fun t => bearsB t x) = (p || (tols.drop j).any (fun t => bearsB t x)))) (fun _ i _ => tols.length - (intOf i).toNat)
      case atStart => exact ⟨0, false, by omega, rfl, rfl, Ext.refl _, by show _ = _; simp⟩
      obtain ⟨j, p, hj, rfl, rfl, hei, hdj⟩ := hrel
      have HEI := Lib.hid hei
      by_cases hlj : j < tols.length
      · cases p
        · obtain ⟨b', o', y, hA', hyj, oky, oky2, d0, d1, d2⟩ := (H2.out.ext RTol.keeps (HE.out.trans hei)).tol hlj
          have hst := Lib.hid (any_at (p := fun t => bearsB t x) hyj)
          obtain ⟨e0, e1⟩ := CX.out _ hei
          subst hA'
          clear hyj H2 hei
          have BB := Lib.hid (fun wx => rBears_any y x wx)
          go_wp2_with fail
          go_region_law (go_simp; go_at_call 38; refine (BB.out _).mono ?_; rintro e w6 ⟨rfl, e6⟩; have E6 := Lib.hid (HEI.out.drew.trans e6); clear e6)
          all_goals go_wp2_with fail
          all_goals go_roundw
          all_goals first
            | exact ⟨j + 1, bearsB y x, by omega, by go_num, rfl, E6.out, by show _ = _; rw [hdj.out, hst.out]; simp⟩
            | (simp [intOf]; omega)
        · have HR : Hid (∀ wx, Ext wr wx → Ext wr wx.drew) := fun wx h => h.drew
          go_wp2_with fail
          go_region
          all_goals go_wp2_with fail
          all_goals go_roundw
          all_goals first
            | exact ⟨j + 1, true, by omega, by go_num, rfl, HEI.out.drew, by show _ = _; rw [hdj.out]; rfl⟩
            | (simp [intOf]; omega)
      · have hp : Hid (tols.any (fun t => bearsB t x) = p) := by show _ = _; rw [hdj.out, drop_all (by omega)]; simp
        clear hdj
        cases p
        · go_wp2_with fail
          go_ret
          exact ⟨ret_bool (by rw [hd.out, hstep.out, hp.out]; rfl), HE.out.trans HEI.out⟩
        · go_wp2_with fail
          go_roundw
          case rel => exact ⟨k + 1, by omega, by go_num, HE.out.trans HEI.out, by show _ = _; rw [hd.out, hstep.out, hp.out]; rfl⟩
          case measure => simp [intOf]; omega
    · go_wp2_with fail
      go_ret
      exact ⟨ret_bool (by rw [hd.out, drop_all (by omega)]; rfl), he⟩
end Go.Proofs.YthfafenigjldlaaGreat
