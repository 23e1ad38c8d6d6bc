/-
  The walks of package label, second part: terms.
-/
import Derived.Test.YthfafenigjldlaaLabel1
namespace Go.Proofs.Ythfafenigjldlaa
open Go.RowKit
set_option linter.unusedVariables false

/-- slices.IndexFunc's answer: not below 0 just if there is one -/
def IdxPost {α : Type} (p : α → Bool) (xs : List α) (w : World) (e : Ending) (w' : World) : Prop := ∃ i : Int, e = .returned (.int .i64 i) ∧ decide (0 ≤ i) = xs.any p ∧ Ext w w'

theorem nameE (s : ByteArray) (w : World) (hs : okS s) : Calls Try.prog 30 #[.string s] w fun e w' => e = .returned (.bool (nameB s)) ∧ w' = w :=
  (name_any s w hs).mono fun _ _ ⟨a, b⟩ => ⟨a, b.symm⟩

theorem mayTermF_any (s : ByteArray) (w : World) (hs : okS s) : Calls Try.prog 82 #[.string s] w fun e w' => e = .returned (.bool (!nameB s)) ∧ Ext w w' := by
  go_enter Try.func82, Try.ntmps82
  go_wp2_with fail
  refine (name_any _ _ hs).mono ?_
  rintro e w' ⟨rfl, rfl⟩
  go_wp2_with fail
  go_ret
  exact ⟨rfl, Ext.refl _⟩

set_option maxHeartbeats 600000 in
theorem if_mayTerm (A : Option Addr) (c : Nat) (xs : List ByteArray)  (w : World) (hn : xs.length ≤ maxLen) (hx : Sl RStr 1 w A xs)  :
    Calls Try.prog 85 #[.slice A xs.length c, .func (.func 82) #[] #[]] w (IdxPost (fun s => !nameB s) xs w) := by
  unfold maxLen at hn
  have HX := Lib.hid hx
  clear hx
  go_enter Try.func85, Try.ntmps85
  go_wp2_with fail
  go_loopw [8] (fun i wr => ∃ k : Nat, k ≤ xs.length ∧ i = .int .i64 k ∧ Ext w wr ∧ Hid (xs.any (fun s => !nameB s) = (xs.drop k).any (fun s => !nameB s))) (fun i _ => xs.length - (intOf i).toNat)
  case atStart => exact ⟨0, by omega, rfl, Ext.refl _, rfl⟩
  case round =>
    obtain ⟨k, hk, rfl, he, hd⟩ := hrel
    by_cases hlt : k < xs.length
    · obtain ⟨b, o, x, hA, hxk, ok1, c0⟩ := (HX.out.ext RStr.keeps he).str hlt
      have hstep := Lib.hid (any_at (p := fun s => !nameB s) hxk)
      subst hA
      clear hxk HX
      cases hp : (fun s => !nameB s) x
      · have HP := Lib.hid hp
        dsimp only at hp
        go_wp2_with fail
        refine (mayTermF_any _ _ ok1).mono ?_
        rintro e w' ⟨rfl, he'⟩
        go_wp2_with fail
        go_roundw
        case rel => exact ⟨k + 1, by omega, by go_num, he.trans he', by show _ = _; rw [hd.out, hstep.out, HP.out]; rfl⟩
        case measure => simp [intOf]; omega
      · have HP := Lib.hid hp
        dsimp only at hp
        go_wp2_with fail
        refine (mayTermF_any _ _ ok1).mono ?_
        rintro e w' ⟨rfl, he'⟩
        go_wp2_with fail
        go_ret
        exact ⟨k, rfl, by rw [hd.out, hstep.out, HP.out]; simp, he.trans he'⟩
    · go_wp2_with fail
      go_ret
      exact ⟨-1, rfl, by rw [hd.out, drop_all (by omega)]; simp, he⟩

set_option maxHeartbeats 400000 in
theorem cf_mayTerm (A : Option Addr) (c : Nat) (xs : List ByteArray)  (w : World) (hn : xs.length ≤ maxLen) (hx : Sl RStr 1 w A xs)  :
    Calls Try.prog 81 #[.slice A xs.length c, .func (.func 82) #[] #[]] w fun e w' => e = .returned (.bool (xs.any (fun s => !nameB s))) ∧ Ext w w' := by
  go_enter Try.func81, Try.ntmps81
  go_wp2_with fail
  refine (if_mayTerm A c xs  w hn hx).mono ?_
  rintro e w' ⟨i, rfl, hd, he⟩
  have HD := Lib.hid hd
  clear hd
  go_wp2_with fail
  go_ret
  exact ⟨ret_bool HD.out, he⟩


/-- what a term's cells are, as a value -/
def tmV (x : Tm) (A : Option Addr) (c : Nat) : Value := .agg #[.string x.key, .int .i64 x.kind, .slice A x.vals.length c]

set_option maxHeartbeats 1000000 in
theorem mayTerm_any (x : Tm) (A : Option Addr) (c : Nat) (w : World) (h1 : okS x.key) (h2 : inI x.kind) (h3 : x.vals.length ≤ c) (h4 : c ≤ maxLen) (h5 : Sl RStr 1 w A x.vals) :
    Calls Try.prog 71 #[.agg #[.string x.key, .int .i64 x.kind, .slice A x.vals.length c]] w fun e w' => e = .returned (.bool (mayTermB x)) ∧ Ext w w' := by
  obtain ⟨key, kind, vals⟩ := x
  simp only at h1 h2 h3 h5
  unfold inI at h2
  have HE : Hid (∀ o : Obj, Ext w (w.alloc o)) := fun o => (Ext.refl w).alloc o
  have hl : vals.length ≤ 9223372036854775807 := by unfold maxLen at h4; omega
  have HH : Hid (∀ (o : Obj), Calls Try.prog 81 #[.slice A vals.length c, .func (.func 82) #[] #[]] (w.alloc o) fun e w' => e = .returned (.bool (vals.any (fun s => !nameB s))) ∧ Ext (w.alloc o) w') :=
    fun o => cf_mayTerm A c vals (w.alloc o) (by unfold maxLen; omega) (h5.ext RStr.keeps (HE.out o))
  clear h5 h3 h4
  cases vals with
  | nil =>
    go_enter Try.func71, Try.ntmps71
    go_wp2_with (first
      | (go_at_call 30; refine (name_any _ _ h1).mono ?_; rintro e w' ⟨rfl, rfl⟩)
      | (go_at_call 81; refine (HH.out _).mono ?_; rintro e w' ⟨rfl, he⟩))
    all_goals go_ret
    all_goals refine ⟨ret_bool ?_, by first | exact (HE.out _).trans (by assumption) | exact HE.out _⟩
    all_goals (try clear he)
    all_goals clear HE HH
    all_goals simp only [mayTermB]
    all_goals (simp_all)
  | cons v vs =>
    simp only [List.length_cons] at hl
    go_enter Try.func71, Try.ntmps71
    go_wp2_with (first
      | (go_at_call 30; refine (name_any _ _ h1).mono ?_; rintro e w' ⟨rfl, rfl⟩)
      | (go_at_call 81; refine (HH.out _).mono ?_; rintro e w' ⟨rfl, he⟩))
    all_goals go_ret
    all_goals refine ⟨ret_bool ?_, by first | exact (HE.out _).trans (by assumption) | exact HE.out _⟩
    all_goals (try clear he)
    all_goals clear HE HH
    all_goals simp only [mayTermB]
    all_goals (simp_all)
    all_goals (intros; first | omega | (exfalso; omega))

theorem mayTermsF_any (x : Tm) (A : Option Addr) (c : Nat) (w : World) (h1 : okS x.key) (h2 : inI x.kind) (h3 : x.vals.length ≤ c) (h4 : c ≤ maxLen) (h5 : Sl RStr 1 w A x.vals) :
    Calls Try.prog 70 #[.agg #[.string x.key, .int .i64 x.kind, .slice A x.vals.length c]] w fun e w' => e = .returned (.bool (!mayTermB x)) ∧ Ext w w' := by
  have HE : Hid (∀ o : Obj, Ext w (w.alloc o)) := fun o => (Ext.refl w).alloc o
  go_enter Try.func70, Try.ntmps70
  go_wp2_with fail
  refine (mayTerm_any x A c _ h1 h2 h3 h4 (h5.ext RStr.keeps (HE.out _))).mono ?_
  rintro e w' ⟨rfl, he⟩
  go_wp2_with fail
  go_ret
  exact ⟨rfl, (HE.out _).trans he⟩

set_option maxHeartbeats 600000 in
theorem if_mayTerms (A : Option Addr) (c : Nat) (xs : List Tm)  (w : World) (hn : xs.length ≤ maxLen) (hx : Sl RTerm 3 w A xs)  :
    Calls Try.prog 62 #[.slice A xs.length c, .func (.func 70) #[] #[]] w (IdxPost (fun t => !mayTermB t) xs w) := by
  unfold maxLen at hn
  have HX := Lib.hid hx
  clear hx
  go_enter Try.func62, Try.ntmps62
  go_wp2_with fail
  go_loopw [8] (fun i wr => ∃ k : Nat, k ≤ xs.length ∧ i = .int .i64 k ∧ Ext w wr ∧ Hid (xs.any (fun t => !mayTermB t) = (xs.drop k).any (fun t => !mayTermB t))) (fun i _ => xs.length - (intOf i).toNat)
  case atStart => exact ⟨0, by omega, rfl, Ext.refl _, rfl⟩
  case round =>
    obtain ⟨k, hk, rfl, he, hd⟩ := hrel
    by_cases hlt : k < xs.length
    · obtain ⟨b, o, x, A', c', hA, hxk, ok1, ok2, ok3, ok4, hv, c0, c1, c2⟩ := (HX.out.ext RTerm.keeps he).term hlt
      have hstep := Lib.hid (any_at (p := fun t => !mayTermB t) hxk)
      subst hA
      clear hxk HX
      cases hp : (fun t => !mayTermB t) x
      · have HP := Lib.hid hp
        dsimp only at hp
        go_wp2_with fail
        refine (mayTermsF_any _ _ _ _ ok1 ok2 ok3 ok4 hv).mono ?_
        rintro e w' ⟨rfl, he'⟩
        go_wp2_with fail
        go_roundw
        case rel => exact ⟨k + 1, by omega, by go_num, he.trans he', by show _ = _; rw [hd.out, hstep.out, HP.out]; rfl⟩
        case measure => simp [intOf]; omega
      · have HP := Lib.hid hp
        dsimp only at hp
        go_wp2_with fail
        refine (mayTermsF_any _ _ _ _ ok1 ok2 ok3 ok4 hv).mono ?_
        rintro e w' ⟨rfl, he'⟩
        go_wp2_with fail
        go_ret
        exact ⟨k, rfl, by rw [hd.out, hstep.out, HP.out]; simp, he.trans he'⟩
    · go_wp2_with fail
      go_ret
      exact ⟨-1, rfl, by rw [hd.out, drop_all (by omega)]; simp, he⟩

set_option maxHeartbeats 400000 in
theorem cf_mayTerms (A : Option Addr) (c : Nat) (xs : List Tm)  (w : World) (hn : xs.length ≤ maxLen) (hx : Sl RTerm 3 w A xs)  :
    Calls Try.prog 27 #[.slice A xs.length c, .func (.func 70) #[] #[]] w fun e w' => e = .returned (.bool (xs.any (fun t => !mayTermB t))) ∧ Ext w w' := by
  go_enter Try.func27, Try.ntmps27
  go_wp2_with fail
  refine (if_mayTerms A c xs  w hn hx).mono ?_
  rintro e w' ⟨i, rfl, hd, he⟩
  have HD := Lib.hid hd
  clear hd
  go_wp2_with fail
  go_ret
  exact ⟨ret_bool HD.out, he⟩


set_option maxHeartbeats 400000 in
theorem mayTerms_any (A : Option Addr) (c : Nat) (ts : List Tm) (w : World) (hn : ts.length ≤ maxLen) (hx : Sl RTerm 3 w A ts) :
    Calls Try.prog 55 #[.slice A ts.length c] w fun e w' => e = .returned (.bool (mayTermsB ts)) ∧ Ext w w' := by
  have HN := Lib.hid hn
  unfold maxLen at hn
  have HX := Lib.hid hx
  clear hx
  by_cases hl : ts.length ≤ 6
  · have hl' : (ts.length : Int) ≤ 6 := by omega
    go_enter Try.func55, Try.ntmps55
    go_wp2_with fail
    refine (cf_mayTerms A c ts _ HN.out HX.out).mono ?_
    rintro e w' ⟨rfl, he⟩
    go_wp2_with fail
    go_ret
    exact ⟨ret_bool (by simp [mayTermsB, hl]), he⟩
  · have hl' : (6 : Int) < ts.length := by omega
    go_enter Try.func55, Try.ntmps55
    go_wp2_with fail
    go_ret
    exact ⟨ret_bool (by simp [mayTermsB, hl]), Ext.refl _⟩

set_option maxHeartbeats 400000 in
theorem iStr_any (A : Option Addr) (c : Nat) (xs : List ByteArray) (v : ByteArray) (w : World) (hn : xs.length ≤ maxLen) (hx : Sl RStr 1 w A xs) :
    Calls Try.prog 77 #[.slice A xs.length c, .string v] w (IdxPost (fun x => eqS v x) xs w) := by
  unfold maxLen at hn
  have HX := Lib.hid hx
  clear hx
  go_enter Try.func77, Try.ntmps77
  go_wp2_with fail
  go_loopw [8] (fun i wr => ∃ k : Nat, k ≤ xs.length ∧ i = .int .i64 k ∧ Ext w wr ∧ Hid (xs.any (fun x => eqS v x) = (xs.drop k).any (fun x => eqS v x))) (fun i _ => xs.length - (intOf i).toNat)
  case atStart => exact ⟨0, by omega, rfl, Ext.refl _, rfl⟩
  case round =>
    obtain ⟨k, hk, rfl, he, hd⟩ := hrel
    by_cases hlt : k < xs.length
    · obtain ⟨b, o, x, hA, hxk, ok1, c0⟩ := (HX.out.ext RStr.keeps he).str hlt
      have hstep := Lib.hid (any_at (p := fun x => eqS v x) hxk)
      subst hA
      clear hxk HX
      cases hp : eqS v x
      · have hp' : (v.toList == x.toList) = false := hp
        go_wp2_with fail
        go_roundw
        case rel => exact ⟨k + 1, by omega, by go_num, he, by show _ = _; rw [hd.out, hstep.out, hp]; rfl⟩
        case measure => simp [intOf]; omega
      · have hp' : (v.toList == x.toList) = true := hp
        go_wp2_with fail
        go_ret
        exact ⟨k, rfl, by rw [hd.out, hstep.out, hp]; simp, he⟩
    · go_wp2_with fail
      go_ret
      exact ⟨-1, rfl, by rw [hd.out, drop_all (by omega)]; simp, he⟩

theorem cStr_any (A : Option Addr) (c : Nat) (xs : List ByteArray) (v : ByteArray) (w : World) (hn : xs.length ≤ maxLen) (hx : Sl RStr 1 w A xs) :
    Calls Try.prog 63 #[.slice A xs.length c, .string v] w fun e w' => e = .returned (.bool (memS xs v)) ∧ Ext w w' := by
  go_enter Try.func63, Try.ntmps63
  go_wp2_with fail
  refine (iStr_any A c xs v w hn hx).mono ?_
  rintro e w' ⟨i, rfl, hd, he⟩
  have HD := Lib.hid hd
  clear hd
  go_wp2_with fail
  go_ret
  exact ⟨ret_bool HD.out, he⟩

set_option maxHeartbeats 1000000 in
theorem holds_any (x : Tm) (A : Option Addr) (c : Nat) (B : Option Addr) (d : Nat) (l : List Pr) (w : World) (h1 : okS x.key) (h2 : inI x.kind) (h3 : x.vals.length ≤ c) (h4 : c ≤ maxLen) (h5 : Sl RStr 1 w A x.vals)
    (h6 : l.length ≤ maxLen) (h7 : Sl RPair 2 w B l) :
    Calls Try.prog 29 #[.agg #[.string x.key, .int .i64 x.kind, .slice A x.vals.length c], .slice B l.length d] w fun e w' => e = .returned (.bool (holdsB x l)) ∧ Ext w w' := by
  unfold inI at h2
  have HE : Hid (∀ o : Obj, Ext w (w.alloc o)) := fun o => (Ext.refl w).alloc o
  have H5 := Lib.hid h5
  have H7 := Lib.hid h7
  have hl : x.vals.length ≤ maxLen := Nat.le_trans h3 h4
  clear h5 h7
  go_enter Try.func29, Try.ntmps29
  go_wp2_with fail
  refine (get_any B d l _ _ h6 (H7.out.ext RPair.keeps (HE.out _))).mono ?_
  rintro e w1 ⟨rfl, he1⟩
  have HE1 := Lib.hid ((HE.out _).trans he1)
  have c0 := he1.cell (p := ⟨w.heap.size, 0, none⟩) (v := .string x.key) (by simp)
  have c1 := he1.cell (p := ⟨w.heap.size, 1, none⟩) (v := .int .i64 x.kind) (by simp)
  have c2 := he1.cell (p := ⟨w.heap.size, 2, none⟩) (v := .slice A x.vals.length c) (by simp)
  clear he1
  cases hg : getB l x.key
  · go_wp2_with fail
    all_goals go_ret
    all_goals refine ⟨ret_bool ?_, HE1.out⟩
    all_goals (simp_all [holdsB])
  · go_wp2_with fail
    refine (cStr_any A c x.vals _ _ hl (H5.out.ext RStr.keeps HE1.out)).mono ?_
    rintro e w2 ⟨rfl, he2⟩
    have d1 := he2.cell c1
    have HE2 := Lib.hid (HE1.out.trans he2)
    clear he2
    go_wp2_with fail
    all_goals go_ret
    all_goals refine ⟨ret_bool ?_, HE2.out⟩
    all_goals (simp_all [holdsB])
end Go.Proofs.Ythfafenigjldlaa
