/-
  The walks of package label, first part: letter, Name, May, Get.
-/
import Derived.Test.YthfafenigjldlaaGreatMem
import Derived.Test.YthfafenigjldlaaGreatRows
import Derived.Deep.QuietTactic
import Derived.BigQuiet
import Derived.IntWalk
import Derived.Outline
namespace Go.Proofs.YthfafenigjldlaaGreat
open Go.RowKit
set_option linter.unusedVariables false

set_option maxHeartbeats 400000 in
theorem letter_any (b : Int) (w : World) : Calls Tryz.prog 61 #[.int .u8 b] w fun e w' => e = .returned (.bool (letB b)) ∧ w = w' := by
  go_enter Tryz.func61, Tryz.ntmps61
  go_wp2
  all_goals go_ret
  all_goals refine ⟨ret_bool ?_, rfl⟩
  all_goals (rw [Bool.eq_iff_iff]; simp [letB]; omega)

set_option maxHeartbeats 400000 in
theorem name_any (s : ByteArray) (w : World) (hs : okS s) : Calls Tryz.prog 21 #[.string s] w fun e w' => e = .returned (.bool (nameB s)) ∧ w = w' := by
  unfold okS maxLen at hs
  by_cases h1 : s.size < 1
  · have h1' : (s.size : Int) < 1 := by omega
    go_enter Tryz.func21, Tryz.ntmps21
    go_wp2_with fail
    go_ret
    exact ⟨ret_bool (by unfold nameB; rw [show decide (1 ≤ s.size) = false from decide_eq_false (by omega)]; simp), rfl⟩
  by_cases h2 : 12 < s.size
  · have h1' : (1 : Int) ≤ s.size := by omega
    have h2' : (12 : Int) < s.size := by omega
    go_enter Tryz.func21, Tryz.ntmps21
    go_wp2_with fail
    go_ret
    exact ⟨ret_bool (by unfold nameB; rw [show decide (s.size ≤ 12) = false from decide_eq_false (by omega)]; simp), rfl⟩
  have h1' : (1 : Int) ≤ s.size := by omega
  have h2' : (s.size : Int) ≤ 12 := by omega
  have hfin : Hid (nameB s = nameL s.data.toList) := by
    show _ = _
    unfold nameB
    rw [show decide (1 ≤ s.size) = true from decide_eq_true (by omega), show decide (s.size ≤ 12) = true from decide_eq_true (by omega)]; simp
  go_enter Tryz.func21, Tryz.ntmps21
  go_wp2_with fail
  go_loop [14] (fun i => ∃ k : Nat, k ≤ s.size ∧ i = .int .i64 k ∧ Hid (nameL s.data.toList = nameL (s.data.toList.drop k))) (fun i => s.size - (intOf i).toNat)
  case atStart => exact ⟨0, by omega, rfl, rfl⟩
  case round =>
    obtain ⟨k, hk, rfl, hd⟩ := hrel
    by_cases hlt : k < s.size
    · have hstep := Lib.hid (nameL_at hlt)
      cases hl : letB s[k].toNat
      · go_wp2_with (go_at_call 61; refine (letter_any _ _).mono ?_; rintro e w' ⟨rfl, rfl⟩)
        go_ret
        exact ⟨ret_bool (by rw [hfin.out, hd.out, hstep.out, hl]; rfl), rfl⟩
      · go_wp2_with (go_at_call 61; refine (letter_any _ _).mono ?_; rintro e w' ⟨rfl, rfl⟩)
        go_round
        case rel => exact ⟨k + 1, by omega, by go_num, by show _ = _; rw [hd.out, hstep.out, hl]; rfl⟩
        case measure => simp [intOf]; omega
    · go_wp2_with fail
      go_ret
      exact ⟨ret_bool (by rw [hfin.out, hd.out, drop_all (by simp; omega)]; rfl), rfl⟩

set_option maxHeartbeats 400000 in
theorem get_any (A : Option Addr) (c : Nat) (xs : List Pr) (key : ByteArray) (w : World) (hn : xs.length ≤ maxLen) (hx : Sl RPair 2 w A xs) :
    Calls Tryz.prog 19 #[.slice A xs.length c, .string key] w fun e w' => e = .returned (.tuple #[.string (getV xs key), .bool (getB xs key)]) ∧ Ext w w' := by
  unfold maxLen at hn
  have HX := Lib.hid hx
  clear hx
  go_enter Tryz.func19, Tryz.ntmps19
  go_wp2_with fail
  go_loopw [10] (fun i wr => ∃ k : Nat, k ≤ xs.length ∧ i = .int .i64 k ∧ Ext w wr ∧ Hid (getO xs key = getO (xs.drop k) key)) (fun i _ => xs.length - (intOf i).toNat)
  case atStart => exact ⟨0, by omega, rfl, Ext.refl _, rfl⟩
  case round =>
    obtain ⟨k, hk, rfl, he, hd⟩ := hrel
    by_cases hlt : k < xs.length
    · obtain ⟨b, o, x, hA, hxk, _, _, c0, c1⟩ := (HX.out.ext RPair.keeps he).pair hlt
      have hstep := Lib.hid (getO_at (key := key) hxk)
      subst hA
      clear hxk HX
      cases hl : eqS x.key key
      · have hl' : (x.key.toList == key.toList) = false := hl
        go_wp2_with fail
        go_roundw
        case rel => exact ⟨k + 1, by omega, by go_num, he.alloc _, by show _ = _; rw [hd.out, hstep.out, hl]; rfl⟩
        case measure => simp [intOf]; omega
      · have hl' : (x.key.toList == key.toList) = true := hl
        go_wp2_with fail
        go_ret2
        have e1 : getO xs key = some x.val := by rw [hd.out, hstep.out, hl]; rfl
        exact ⟨by unfold getV getB; rw [e1]; rfl, he.alloc _⟩
    · go_wp2_with fail
      go_ret2
      have e1 : getO xs key = none := by rw [hd.out, drop_all (by omega)]; rfl
      exact ⟨by unfold getV getB; rw [e1]; rfl, he⟩

set_option maxHeartbeats 1000000 in
theorem may_any (A : Option Addr) (c : Nat) (xs : List Pr) (w : World) (hn : xs.length ≤ maxLen) (hx : Sl RPair 2 w A xs) :
    Calls Tryz.prog 23 #[.slice A xs.length c] w fun e w' => e = .returned (.bool (mayPairs xs)) ∧ Ext w w' := by
  unfold maxLen at hn
  have HX := Lib.hid hx
  clear hx
  go_enter Tryz.func23, Tryz.ntmps23
  go_wp2_with fail
  go_loopw [7] (fun i wr => ∃ k : Nat, k ≤ xs.length ∧ i = .int .i64 k ∧ Ext w wr ∧ Hid (mayFrom none xs = mayFrom (prevK xs k) (xs.drop k))) (fun i _ => xs.length - (intOf i).toNat)
  case atStart => exact ⟨0, by omega, rfl, Ext.refl _, rfl⟩
  case round =>
    obtain ⟨k, hk, rfl, he, hd⟩ := hrel
    by_cases hlt : k < xs.length
    · obtain ⟨b, o, x, hA, hxk, ok1, ok2, c0, c1⟩ := (HX.out.ext RPair.keeps he).pair hlt
      have hstep := Lib.hid (mayFrom_at hxk)
      have HA := Lib.hid hA
      have HXK := Lib.hid hxk
      subst hA
      clear hxk
      have nm : ∀ (s : ByteArray) (w : World), okS s → Calls Tryz.prog 21 #[.string s] w fun e w' => e = .returned (.bool (nameB s)) ∧ w' = w :=
        fun s w h => (name_any s w h).mono fun e w' ⟨a, b⟩ => ⟨a, b.symm⟩
      have NM := Lib.hid nm
      clear nm
      cases h1 : nameB x.key
      · go_wp2_with fail
        go_quiet ((go_at_call 21; exact Calls.quiet_of_same (NM.out _ _ (by assumption))))
        go_wp2_with fail
        go_ret
        exact ⟨ret_bool (by unfold mayPairs; rw [hd.out, hstep.out, h1]; rfl), (he.alloc _).drewN _⟩
      cases h2 : nameB x.val
      · go_wp2_with fail
        go_quiet ((go_at_call 21; exact Calls.quiet_of_same (NM.out _ _ (by assumption))))
        go_wp2_with fail
        go_ret
        exact ⟨ret_bool (by unfold mayPairs; rw [hd.out, hstep.out, h1, h2]; rfl), (he.alloc _).drewN _⟩
      rcases Nat.eq_zero_or_pos k with hk0 | hk0
      · subst hk0
        simp only [Nat.zero_mul, Nat.add_zero] at c0 c1
        go_wp2_with fail
        go_quiet ((go_at_call 21; exact Calls.quiet_of_same (NM.out _ _ (by assumption))))
        go_wp2_with fail
        go_roundw
        case rel => exact ⟨1, by omega, by go_num, (he.alloc _).drewN _, by show _ = _; rw [hd.out, hstep.out, h1, h2]; rfl⟩
        case measure => simp [intOf]; omega
      obtain ⟨m, rfl⟩ : ∃ m, k = m + 1 := ⟨k - 1, by omega⟩
      obtain ⟨b', o', y, hA', hym, _, _, d0, _⟩ := (HX.out.ext RPair.keeps he).pair (show m < xs.length by omega)
      obtain ⟨rfl, rfl⟩ : b' = b ∧ o' = o := by rw [HA.out] at hA'; injection hA' with e; injection e with e1 e2; exact ⟨e1.symm, e2.symm⟩
      have hp := Lib.hid (prevK_succ hym)
      clear hA' hym HA
      have d1 := cell_alloc d0
      have s1 : IntKind.i64.wrap (m : Int) = (m : Int) := IntWalk.i64_in _ (by omega)
      have s2 : (m : Int) < (xs.length : Int) := by omega
      have s3 : (0 : Int) ≤ (m : Int) := by omega
      cases h3 : ltS y.key x.key
      · have h3' : Op.bytesLess y.key.toList x.key.toList = false := h3
        go_wp2_with fail
        go_quiet ((go_at_call 21; exact Calls.quiet_of_same (NM.out _ _ (by assumption))))
        go_wp2_with fail
        go_ret
        exact ⟨ret_bool (by unfold mayPairs; rw [hd.out, hstep.out, h1, h2, hp.out]; simp [h3]), (he.alloc _).drewN _⟩
      · have h3' : Op.bytesLess y.key.toList x.key.toList = true := h3
        go_wp2_with fail
        go_quiet ((go_at_call 21; exact Calls.quiet_of_same (NM.out _ _ (by assumption))))
        go_wp2_with fail
        go_roundw
        case rel => exact ⟨m + 1 + 1, by omega, by go_num, (he.alloc _).drewN _, by show _ = _; rw [hd.out, hstep.out, h1, h2, hp.out]; simp [h3]⟩
        case measure => simp [intOf]; omega
    · have hlen := hd
      go_wp2_with fail
      go_ret
      exact ⟨ret_bool (by unfold mayPairs; rw [hd.out, drop_all (by omega)]; show _ = (true && _); simp; omega), he⟩
end Go.Proofs.YthfafenigjldlaaGreat

/-
  The walks of package label, second part: terms.
-/
namespace Go.Proofs.YthfafenigjldlaaGreat
open Go.RowKit
set_option linter.unusedVariables false

/-- slices.IndexFunc's answer: not below 0 just if there is one -/
def IdxPost {α : Type} (p : α → Bool) (xs : List α) (w : World) (e : Ending) (w' : World) : Prop := ∃ i : Int, e = .returned (.int .i64 i) ∧ decide (0 ≤ i) = xs.any p ∧ Ext w w'

theorem nameE (s : ByteArray) (w : World) (hs : okS s) : Calls Tryz.prog 21 #[.string s] w fun e w' => e = .returned (.bool (nameB s)) ∧ w' = w :=
  (name_any s w hs).mono fun _ _ ⟨a, b⟩ => ⟨a, b.symm⟩

theorem mayTermF_any (s : ByteArray) (w : World) (hs : okS s) : Calls Tryz.prog 112 #[.string s] w fun e w' => e = .returned (.bool (!nameB s)) ∧ Ext w w' := by
  go_enter Tryz.func112, Tryz.ntmps112
  go_wp2_with fail
  refine (name_any _ _ hs).mono ?_
  rintro e w' ⟨rfl, rfl⟩
  go_wp2_with fail
  go_ret
  exact ⟨rfl, Ext.refl _⟩

set_option maxHeartbeats 600000 in
theorem if_mayTerm (A : Option Addr) (c : Nat) (xs : List ByteArray)  (w : World) (hn : xs.length ≤ maxLen) (hx : Sl RStr 1 w A xs)  :
    Calls Tryz.prog 123 #[.slice A xs.length c, .func (.func 112) #[] #[]] w (IdxPost (fun s => !nameB s) xs w) := by
  unfold maxLen at hn
  have HX := Lib.hid hx
  clear hx
  go_enter Tryz.func123, Tryz.ntmps123
  go_wp2_with fail
  go_loopw [8] (fun i wr => ∃ k : Nat, k ≤ xs.length ∧ i = .int .i64 k ∧ Ext w wr ∧ Hid (xs.any (fun s => !nameB s) = (xs.drop k).any (fun s => !nameB s))) (fun i _ => xs.length - (intOf i).toNat)
  case atStart => exact ⟨0, by omega, rfl, Ext.refl _, rfl⟩
  case round =>
    obtain ⟨k, hk, rfl, he, hd⟩ := hrel
    by_cases hlt : k < xs.length
    · obtain ⟨b, o, x, hA, hxk, ok1, c0⟩ := (HX.out.ext RStr.keeps he).str hlt
      have hstep := Lib.hid (any_at (p := fun s => !nameB s) hxk)
      subst hA
      clear hxk HX
      cases hp : (fun s => !nameB s) x
      · have HP := Lib.hid hp
        dsimp only at hp
        go_wp2_with fail
        refine (mayTermF_any _ _ ok1).mono ?_
        rintro e w' ⟨rfl, he'⟩
        go_wp2_with fail
        go_roundw
        case rel => exact ⟨k + 1, by omega, by go_num, he.trans he', by show _ = _; rw [hd.out, hstep.out, HP.out]; rfl⟩
        case measure => simp [intOf]; omega
      · have HP := Lib.hid hp
        dsimp only at hp
        go_wp2_with fail
        refine (mayTermF_any _ _ ok1).mono ?_
        rintro e w' ⟨rfl, he'⟩
        go_wp2_with fail
        go_ret
        exact ⟨k, rfl, by rw [hd.out, hstep.out, HP.out]; simp, he.trans he'⟩
    · go_wp2_with fail
      go_ret
      exact ⟨-1, rfl, by rw [hd.out, drop_all (by omega)]; simp, he⟩

set_option maxHeartbeats 400000 in
theorem cf_mayTerm (A : Option Addr) (c : Nat) (xs : List ByteArray)  (w : World) (hn : xs.length ≤ maxLen) (hx : Sl RStr 1 w A xs)  :
    Calls Tryz.prog 111 #[.slice A xs.length c, .func (.func 112) #[] #[]] w fun e w' => e = .returned (.bool (xs.any (fun s => !nameB s))) ∧ Ext w w' := by
  go_enter Tryz.func111, Tryz.ntmps111
  go_wp2_with fail
  refine (if_mayTerm A c xs  w hn hx).mono ?_
  rintro e w' ⟨i, rfl, hd, he⟩
  have HD := Lib.hid hd
  clear hd
  go_wp2_with fail
  go_ret
  exact ⟨ret_bool HD.out, he⟩


/-- what a term's cells are, as a value -/
def tmV (x : Tm) (A : Option Addr) (c : Nat) : Value := .agg #[.string x.key, .int .i64 x.kind, .slice A x.vals.length c]

set_option maxHeartbeats 1000000 in
theorem mayTerm_any (x : Tm) (A : Option Addr) (c : Nat) (w : World) (h1 : okS x.key) (h2 : inI x.kind) (h3 : x.vals.length ≤ c) (h4 : c ≤ maxLen) (h5 : Sl RStr 1 w A x.vals) :
    Calls Tryz.prog 64 #[.agg #[.string x.key, .int .i64 x.kind, .slice A x.vals.length c]] w fun e w' => e = .returned (.bool (mayTermB x)) ∧ Ext w w' := by
  obtain ⟨key, kind, vals⟩ := x
  simp only at h1 h2 h3 h5
  unfold inI at h2
  have HE : Hid (∀ o : Obj, Ext w (w.alloc o)) := fun o => (Ext.refl w).alloc o
  have hl : vals.length ≤ 9223372036854775807 := by unfold maxLen at h4; omega
  have HH : Hid (∀ (o : Obj), Calls Tryz.prog 111 #[.slice A vals.length c, .func (.func 112) #[] #[]] (w.alloc o) fun e w' => e = .returned (.bool (vals.any (fun s => !nameB s))) ∧ Ext (w.alloc o) w') :=
    fun o => cf_mayTerm A c vals (w.alloc o) (by unfold maxLen; omega) (h5.ext RStr.keeps (HE.out o))
  clear h5 h3 h4
  cases vals with
  | nil =>
    go_enter Tryz.func64, Tryz.ntmps64
    go_wp2_with (first
      | (go_at_call 21; refine (name_any _ _ h1).mono ?_; rintro e w' ⟨rfl, rfl⟩)
      | (go_at_call 111; refine (HH.out _).mono ?_; rintro e w' ⟨rfl, he⟩))
    all_goals go_ret
    all_goals refine ⟨ret_bool ?_, by first | exact (HE.out _).trans (by assumption) | exact HE.out _⟩
    all_goals (try clear he)
    all_goals clear HE HH
    all_goals simp only [mayTermB]
    all_goals (simp_all)
  | cons v vs =>
    simp only [List.length_cons] at hl
    go_enter Tryz.func64, Tryz.ntmps64
    go_wp2_with (first
      | (go_at_call 21; refine (name_any _ _ h1).mono ?_; rintro e w' ⟨rfl, rfl⟩)
      | (go_at_call 111; refine (HH.out _).mono ?_; rintro e w' ⟨rfl, he⟩))
    all_goals go_ret
    all_goals refine ⟨ret_bool ?_, by first | exact (HE.out _).trans (by assumption) | exact HE.out _⟩
    all_goals (try clear he)
    all_goals clear HE HH
    all_goals simp only [mayTermB]
    all_goals (simp_all)
    all_goals (intros; first | omega | (exfalso; omega))

theorem mayTermsF_any (x : Tm) (A : Option Addr) (c : Nat) (w : World) (h1 : okS x.key) (h2 : inI x.kind) (h3 : x.vals.length ≤ c) (h4 : c ≤ maxLen) (h5 : Sl RStr 1 w A x.vals) :
    Calls Tryz.prog 63 #[.agg #[.string x.key, .int .i64 x.kind, .slice A x.vals.length c]] w fun e w' => e = .returned (.bool (!mayTermB x)) ∧ Ext w w' := by
  have HE : Hid (∀ o : Obj, Ext w (w.alloc o)) := fun o => (Ext.refl w).alloc o
  go_enter Tryz.func63, Tryz.ntmps63
  go_wp2_with fail
  refine (mayTerm_any x A c _ h1 h2 h3 h4 (h5.ext RStr.keeps (HE.out _))).mono ?_
  rintro e w' ⟨rfl, he⟩
  go_wp2_with fail
  go_ret
  exact ⟨rfl, (HE.out _).trans he⟩

set_option maxHeartbeats 600000 in
theorem if_mayTerms (A : Option Addr) (c : Nat) (xs : List Tm)  (w : World) (hn : xs.length ≤ maxLen) (hx : Sl RTerm 3 w A xs)  :
    Calls Tryz.prog 110 #[.slice A xs.length c, .func (.func 63) #[] #[]] w (IdxPost (fun t => !mayTermB t) xs w) := by
  unfold maxLen at hn
  have HX := Lib.hid hx
  clear hx
  go_enter Tryz.func110, Tryz.ntmps110
  go_wp2_with fail
  go_loopw [8] (fun i wr => ∃ k : Nat, k ≤ xs.length ∧ i = .int .i64 k ∧ Ext w wr ∧ Hid (xs.any (fun t => !mayTermB t) = (xs.drop k).any (fun t => !mayTermB t))) (fun i _ => xs.length - (intOf i).toNat)
  case atStart => exact ⟨0, by omega, rfl, Ext.refl _, rfl⟩
  case round =>
    obtain ⟨k, hk, rfl, he, hd⟩ := hrel
    by_cases hlt : k < xs.length
    · obtain ⟨b, o, x, A', c', hA, hxk, ok1, ok2, ok3, ok4, hv, c0, c1, c2⟩ := (HX.out.ext RTerm.keeps he).term hlt
      have hstep := Lib.hid (any_at (p := fun t => !mayTermB t) hxk)
      subst hA
      clear hxk HX
      cases hp : (fun t => !mayTermB t) x
      · have HP := Lib.hid hp
        dsimp only at hp
        go_wp2_with fail
        refine (mayTermsF_any _ _ _ _ ok1 ok2 ok3 ok4 hv).mono ?_
        rintro e w' ⟨rfl, he'⟩
        go_wp2_with fail
        go_roundw
        case rel => exact ⟨k + 1, by omega, by go_num, he.trans he', by show _ = _; rw [hd.out, hstep.out, HP.out]; rfl⟩
        case measure => simp [intOf]; omega
      · have HP := Lib.hid hp
        dsimp only at hp
        go_wp2_with fail
        refine (mayTermsF_any _ _ _ _ ok1 ok2 ok3 ok4 hv).mono ?_
        rintro e w' ⟨rfl, he'⟩
        go_wp2_with fail
        go_ret
        exact ⟨k, rfl, by rw [hd.out, hstep.out, HP.out]; simp, he.trans he'⟩
    · go_wp2_with fail
      go_ret
      exact ⟨-1, rfl, by rw [hd.out, drop_all (by omega)]; simp, he⟩

set_option maxHeartbeats 400000 in
theorem cf_mayTerms (A : Option Addr) (c : Nat) (xs : List Tm)  (w : World) (hn : xs.length ≤ maxLen) (hx : Sl RTerm 3 w A xs)  :
    Calls Tryz.prog 62 #[.slice A xs.length c, .func (.func 63) #[] #[]] w fun e w' => e = .returned (.bool (xs.any (fun t => !mayTermB t))) ∧ Ext w w' := by
  go_enter Tryz.func62, Tryz.ntmps62
  go_wp2_with fail
  refine (if_mayTerms A c xs  w hn hx).mono ?_
  rintro e w' ⟨i, rfl, hd, he⟩
  have HD := Lib.hid hd
  clear hd
  go_wp2_with fail
  go_ret
  exact ⟨ret_bool HD.out, he⟩


set_option maxHeartbeats 400000 in
theorem mayTerms_any (A : Option Addr) (c : Nat) (ts : List Tm) (w : World) (hn : ts.length ≤ maxLen) (hx : Sl RTerm 3 w A ts) :
    Calls Tryz.prog 25 #[.slice A ts.length c] w fun e w' => e = .returned (.bool (mayTermsB ts)) ∧ Ext w w' := by
  have HN := Lib.hid hn
  unfold maxLen at hn
  have HX := Lib.hid hx
  clear hx
  by_cases hl : ts.length ≤ 6
  · have hl' : (ts.length : Int) ≤ 6 := by omega
    go_enter Tryz.func25, Tryz.ntmps25
    go_wp2_with fail
    refine (cf_mayTerms A c ts _ HN.out HX.out).mono ?_
    rintro e w' ⟨rfl, he⟩
    go_wp2_with fail
    go_ret
    exact ⟨ret_bool (by simp [mayTermsB, hl]), he⟩
  · have hl' : (6 : Int) < ts.length := by omega
    go_enter Tryz.func25, Tryz.ntmps25
    go_wp2_with fail
    go_ret
    exact ⟨ret_bool (by simp [mayTermsB, hl]), Ext.refl _⟩

set_option maxHeartbeats 400000 in
theorem iStr_any (A : Option Addr) (c : Nat) (xs : List ByteArray) (v : ByteArray) (w : World) (hn : xs.length ≤ maxLen) (hx : Sl RStr 1 w A xs) :
    Calls Tryz.prog 124 #[.slice A xs.length c, .string v] w (IdxPost (fun x => eqS v x) xs w) := by
  unfold maxLen at hn
  have HX := Lib.hid hx
  clear hx
  go_enter Tryz.func124, Tryz.ntmps124
  go_wp2_with fail
  go_loopw [8] (fun i wr => ∃ k : Nat, k ≤ xs.length ∧ i = .int .i64 k ∧ Ext w wr ∧ Hid (xs.any (fun x => eqS v x) = (xs.drop k).any (fun x => eqS v x))) (fun i _ => xs.length - (intOf i).toNat)
  case atStart => exact ⟨0, by omega, rfl, Ext.refl _, rfl⟩
  case round =>
    obtain ⟨k, hk, rfl, he, hd⟩ := hrel
    by_cases hlt : k < xs.length
    · obtain ⟨b, o, x, hA, hxk, ok1, c0⟩ := (HX.out.ext RStr.keeps he).str hlt
      have hstep := Lib.hid (any_at (p := fun x => eqS v x) hxk)
      subst hA
      clear hxk HX
      cases hp : eqS v x
      · have hp' : (v.toList == x.toList) = false := hp
        go_wp2_with fail
        go_roundw
        case rel => exact ⟨k + 1, by omega, by go_num, he, by show _ = _; rw [hd.out, hstep.out, hp]; rfl⟩
        case measure => simp [intOf]; omega
      · have hp' : (v.toList == x.toList) = true := hp
        go_wp2_with fail
        go_ret
        exact ⟨k, rfl, by rw [hd.out, hstep.out, hp]; simp, he⟩
    · go_wp2_with fail
      go_ret
      exact ⟨-1, rfl, by rw [hd.out, drop_all (by omega)]; simp, he⟩

theorem cStr_any (A : Option Addr) (c : Nat) (xs : List ByteArray) (v : ByteArray) (w : World) (hn : xs.length ≤ maxLen) (hx : Sl RStr 1 w A xs) :
    Calls Tryz.prog 113 #[.slice A xs.length c, .string v] w fun e w' => e = .returned (.bool (memS xs v)) ∧ Ext w w' := by
  go_enter Tryz.func113, Tryz.ntmps113
  go_wp2_with fail
  refine (iStr_any A c xs v w hn hx).mono ?_
  rintro e w' ⟨i, rfl, hd, he⟩
  have HD := Lib.hid hd
  clear hd
  go_wp2_with fail
  go_ret
  exact ⟨ret_bool HD.out, he⟩

set_option maxHeartbeats 1000000 in
theorem holds_any (x : Tm) (A : Option Addr) (c : Nat) (B : Option Addr) (d : Nat) (l : List Pr) (w : World) (h1 : okS x.key) (h2 : inI x.kind) (h3 : x.vals.length ≤ c) (h4 : c ≤ maxLen) (h5 : Sl RStr 1 w A x.vals)
    (h6 : l.length ≤ maxLen) (h7 : Sl RPair 2 w B l) :
    Calls Tryz.prog 66 #[.agg #[.string x.key, .int .i64 x.kind, .slice A x.vals.length c], .slice B l.length d] w fun e w' => e = .returned (.bool (holdsB x l)) ∧ Ext w w' := by
  unfold inI at h2
  have HE : Hid (∀ o : Obj, Ext w (w.alloc o)) := fun o => (Ext.refl w).alloc o
  have H5 := Lib.hid h5
  have H7 := Lib.hid h7
  have hl : x.vals.length ≤ maxLen := Nat.le_trans h3 h4
  clear h5 h7
  go_enter Tryz.func66, Tryz.ntmps66
  go_wp2_with fail
  refine (get_any B d l _ _ h6 (H7.out.ext RPair.keeps (HE.out _))).mono ?_
  rintro e w1 ⟨rfl, he1⟩
  have HE1 := Lib.hid ((HE.out _).trans he1)
  have c0 := he1.cell (p := ⟨w.heap.size, 0, none⟩) (v := .string x.key) (by simp)
  have c1 := he1.cell (p := ⟨w.heap.size, 1, none⟩) (v := .int .i64 x.kind) (by simp)
  have c2 := he1.cell (p := ⟨w.heap.size, 2, none⟩) (v := .slice A x.vals.length c) (by simp)
  clear he1
  cases hg : getB l x.key
  · go_wp2_with fail
    all_goals go_ret
    all_goals refine ⟨ret_bool ?_, HE1.out⟩
    all_goals (simp_all [holdsB])
  · go_wp2_with fail
    refine (cStr_any A c x.vals _ _ hl (H5.out.ext RStr.keeps HE1.out)).mono ?_
    rintro e w2 ⟨rfl, he2⟩
    have d1 := he2.cell c1
    have HE2 := Lib.hid (HE1.out.trans he2)
    clear he2
    go_wp2_with fail
    all_goals go_ret
    all_goals refine ⟨ret_bool ?_, HE2.out⟩
    all_goals (simp_all [holdsB])
end Go.Proofs.YthfafenigjldlaaGreat

/-
  The walks of package label, third part: Match.
-/
namespace Go.Proofs.YthfafenigjldlaaGreat
open Go.RowKit
set_option linter.unusedVariables false

theorem matchF_any (x : Tm) (A : Option Addr) (c : Nat) (pl : Addr) (B : Option Addr) (d : Nat) (l : List Pr) (w : World) (h1 : okS x.key) (h2 : inI x.kind) (h3 : x.vals.length ≤ c) (h4 : c ≤ maxLen) (h5 : Sl RStr 1 w A x.vals)
    (h6 : l.length ≤ maxLen) (h7 : Sl RPair 2 w B l) (h8 : w.cell? pl = some (.slice B l.length d)) :
    Calls Tryz.prog 65 #[.agg #[.string x.key, .int .i64 x.kind, .slice A x.vals.length c], .pointer (some pl)] w fun e w' => e = .returned (.bool (!holdsB x l)) ∧ Ext w w' := by
  have HE : Hid (∀ o : Obj, Ext w (w.alloc o)) := fun o => (Ext.refl w).alloc o
  have H5 := Lib.hid h5
  have H7 := Lib.hid h7
  have g8 := cell_alloc h8
  clear h5 h7
  go_enter Tryz.func65, Tryz.ntmps65
  go_wp2_with fail
  refine (holds_any x A c B d l _ h1 h2 h3 h4 (H5.out.ext RStr.keeps (HE.out _)) h6 (H7.out.ext RPair.keeps (HE.out _))).mono ?_
  rintro e w' ⟨rfl, he⟩
  go_wp2_with fail
  go_ret
  exact ⟨rfl, (HE.out _).trans he⟩

set_option maxHeartbeats 600000 in
theorem if_match (A : Option Addr) (c : Nat) (xs : List Tm) (pl : Addr) (B : Option Addr) (d : Nat) (l : List Pr) (w : World) (hn : xs.length ≤ maxLen) (hx : Sl RTerm 3 w A xs) (hcl : w.cell? pl = some (.slice B l.length d)) (hl : l.length ≤ maxLen ∧ Sl RPair 2 w B l) :
    Calls Tryz.prog 110 #[.slice A xs.length c, .func (.func 65) #[] #[.pointer (some pl)]] w (IdxPost (fun t => !holdsB t l) xs w) := by
  unfold maxLen at hn
  have HX := Lib.hid hx
  clear hx
  go_enter Tryz.func110, Tryz.ntmps110
  go_wp2_with fail
  go_loopw [8] (fun i wr => ∃ k : Nat, k ≤ xs.length ∧ i = .int .i64 k ∧ Ext w wr ∧ Hid (xs.any (fun t => !holdsB t l) = (xs.drop k).any (fun t => !holdsB t l))) (fun i _ => xs.length - (intOf i).toNat)
  case atStart => exact ⟨0, by omega, rfl, Ext.refl _, rfl⟩
  case round =>
    obtain ⟨k, hk, rfl, he, hd⟩ := hrel
    by_cases hlt : k < xs.length
    · obtain ⟨b, o, x, A', c', hA, hxk, ok1, ok2, ok3, ok4, hv, c0, c1, c2⟩ := (HX.out.ext RTerm.keeps he).term hlt
      have hstep := Lib.hid (any_at (p := fun t => !holdsB t l) hxk)
      subst hA
      clear hxk HX
      cases hp : (fun t => !holdsB t l) x
      · have HP := Lib.hid hp
        dsimp only at hp
        go_wp2_with fail
        refine (matchF_any x A' c' pl B d l _ ok1 ok2 ok3 ok4 hv hl.1 (hl.2.ext RPair.keeps he) (he.cell hcl)).mono ?_
        rintro e w' ⟨rfl, he'⟩
        go_wp2_with fail
        go_roundw
        case rel => exact ⟨k + 1, by omega, by go_num, he.trans he', by show _ = _; rw [hd.out, hstep.out, HP.out]; rfl⟩
        case measure => simp [intOf]; omega
      · have HP := Lib.hid hp
        dsimp only at hp
        go_wp2_with fail
        refine (matchF_any x A' c' pl B d l _ ok1 ok2 ok3 ok4 hv hl.1 (hl.2.ext RPair.keeps he) (he.cell hcl)).mono ?_
        rintro e w' ⟨rfl, he'⟩
        go_wp2_with fail
        go_ret
        exact ⟨k, rfl, by rw [hd.out, hstep.out, HP.out]; simp, he.trans he'⟩
    · go_wp2_with fail
      go_ret
      exact ⟨-1, rfl, by rw [hd.out, drop_all (by omega)]; simp, he⟩

set_option maxHeartbeats 400000 in
theorem cf_match (A : Option Addr) (c : Nat) (xs : List Tm) (pl : Addr) (B : Option Addr) (d : Nat) (l : List Pr) (w : World) (hn : xs.length ≤ maxLen) (hx : Sl RTerm 3 w A xs) (hcl : w.cell? pl = some (.slice B l.length d)) (hl : l.length ≤ maxLen ∧ Sl RPair 2 w B l) :
    Calls Tryz.prog 62 #[.slice A xs.length c, .func (.func 65) #[] #[.pointer (some pl)]] w fun e w' => e = .returned (.bool (xs.any (fun t => !holdsB t l))) ∧ Ext w w' := by
  go_enter Tryz.func62, Tryz.ntmps62
  go_wp2_with fail
  refine (if_match A c xs pl B d l w hn hx hcl hl).mono ?_
  rintro e w' ⟨i, rfl, hd, he⟩
  have HD := Lib.hid hd
  clear hd
  go_wp2_with fail
  go_ret
  exact ⟨ret_bool HD.out, he⟩


set_option maxHeartbeats 400000 in
theorem match_any (A : Option Addr) (c : Nat) (ts : List Tm) (B : Option Addr) (d : Nat) (l : List Pr) (w : World) (hn : ts.length ≤ maxLen) (hx : Sl RTerm 3 w A ts) (h6 : l.length ≤ maxLen) (h7 : Sl RPair 2 w B l) :
    Calls Tryz.prog 27 #[.slice A ts.length c, .slice B l.length d] w fun e w' => e = .returned (.bool (matchB ts l)) ∧ Ext w w' := by
  have HE : Hid (∀ o : Obj, Ext w (w.alloc o)) := fun o => (Ext.refl w).alloc o
  have HX := Lib.hid hx
  have H7 := Lib.hid h7
  have hmf : ∀ (fn : Fn) (first cap : Array Value) (w : World), (Instr.makeFunc fn first cap).run Tryz.prog w = .ok (.func fn first cap) w := fun _ _ _ _ => rfl
  clear hx h7
  go_enter Tryz.func27, Tryz.ntmps27
  go_wp2_with fail
  refine (cf_match A c ts _ B d l _ hn (HX.out.ext RTerm.keeps (HE.out _)) (by simp) ⟨h6, H7.out.ext RPair.keeps (HE.out _)⟩).mono ?_
  rintro e w' ⟨rfl, he⟩
  go_wp2_with fail
  go_ret
  exact ⟨rfl, (HE.out _).trans he⟩
end Go.Proofs.YthfafenigjldlaaGreat
