/-
  The walks of the reference's names, labels and terms: Name, Label, MayPairs, MayTerms, Match; and Text.
-/
import Derived.Test.YthfafenigjldlaaGreatLabel1
namespace Go.Proofs.YthfafenigjldlaaGreat
open Go.RowKit
set_option linter.unusedVariables false

theorem eqS_comm (a b : ByteArray) : eqS a b = eqS b a := by
  rw [Bool.eq_iff_iff, eqS_iff, eqS_iff]
  exact ⟨fun h => h.symm, fun h => h.symm⟩
theorem tm_bad (t : Tm) (h : nameB t.key = false ∨ t.kind < 1 ∨ 4 < t.kind ∨ (t.kind ≤ 2 ∧ t.vals.length < 1) ∨ (t.kind ≤ 2 ∧ 6 < t.vals.length) ∨ (2 < t.kind ∧ 0 < t.vals.length)) : mayTermB t = false := by
  unfold mayTermB
  cases hn : nameB t.key
  · simp
  · rw [hn] at h
    simp only [Bool.true_and]
    by_cases h12 : t.kind = 1 ∨ t.kind = 2
    · rw [if_pos h12]
      have : ¬ (1 ≤ t.vals.length ∧ t.vals.length ≤ 6) := by
        rcases h with h | h | h | h | h | h
        · cases h
        all_goals omega
      rw [show (decide (1 ≤ t.vals.length) && decide (t.vals.length ≤ 6)) = false by simpa using this]
      rfl
    · rw [if_neg h12]
      by_cases h34 : t.kind = 3 ∨ t.kind = 4
      · rw [if_pos h34]
        have : ¬ t.vals.length ≤ 0 := by
          rcases h with h | h | h | h | h | h
          · cases h
          all_goals omega
        rw [decide_eq_false this]; rfl
      · rw [if_neg h34]
theorem tm_good (t : Tm) (h : nameB t.key = true) (h1 : 1 ≤ t.kind) (h4 : t.kind ≤ 4) (h2 : t.kind ≤ 2 → 1 ≤ t.vals.length ∧ t.vals.length ≤ 6) (h3 : 2 < t.kind → t.vals.length = 0) : mayTermB t = !t.vals.any (fun s => !nameB s) := by
  unfold mayTermB
  rw [h]
  by_cases h12 : t.kind = 1 ∨ t.kind = 2
  · have := h2 (by omega)
    rw [if_pos h12, decide_eq_true this.1, decide_eq_true this.2]; rfl
  · have := h3 (by omega)
    rw [if_neg h12, if_pos (by omega), decide_eq_true (show t.vals.length ≤ 0 by omega)]; rfl
theorem matchB_at {ts : List Tm} {k : Nat} {t : Tm} {l : List Pr} (h : ts[k]? = some t) : matchB (ts.drop k) l = (holdsB t l && matchB (ts.drop (k + 1)) l) := by
  rw [drop_at h]; simp [matchB]

theorem text_any (s : ByteArray) (n : Nat) (k : Int) (hk : k = n) (w : World) (hs : okS s) : Calls Tryz.prog 18 #[.string s, .int .i64 k] w fun e w' => e = .returned (.string (s.extract 0 (min s.size n))) ∧ w = w' := by
  unfold okS maxLen at hs
  subst hk
  by_cases h : s.size ≤ n
  · have h1 : ¬ (n : Int) < (s.size : Int) := by omega
    have HE : Hid (s.extract 0 (min s.size n) = s) := by show _ = _; rw [show min s.size n = s.size by omega]; simp
    rw [HE.out]
    go_enter Tryz.func18, Tryz.ntmps18
    go_wp2_with fail
    go_ret
    exact ⟨rfl, rfl⟩
  · have h1 : (n : Int) < (s.size : Int) := by omega
    rw [show min s.size n = n by omega]
    go_enter Tryz.func18, Tryz.ntmps18
    go_wp2_with fail
    go_ret
    exact ⟨rfl, rfl⟩
theorem letB_eq (b : Int) : letB b = decide ((97 ≤ b ∧ b ≤ 122) ∨ (48 ≤ b ∧ b ≤ 57) ∨ b = 45) := by
  rw [Bool.eq_iff_iff]; simp [letB]
theorem min_litR {P : Program} (n m : Nat) (k : Int) (hk : k = m) : ∃ a : Nat, a ≤ n ∧ a ≤ m ∧ Hid (a = min n m) ∧ ∀ (w : World) (ts : Array TypeId) (t : TypeId) (kk : IntKind), (Builtin.min_ ts t #[.int .i64 (n : Int), .int kk k]).run P w = .ok (.int .i64 (a : Int)) w := by
  refine ⟨min n m, by omega, by omega, rfl, fun w ts t kk => ?_⟩
  subst hk
  simp [Builtin.min_, Builtin.min2]
  split <;> omega

set_option maxHeartbeats 1000000 in
theorem rName_any (s : ByteArray) (w : World) (hs : okS s) : Calls Tryz.prog 22 #[.string s] w fun e w' => e = .returned (.bool (nameB s)) ∧ w = w' := by
  unfold okS maxLen at hs
  have hfin : Hid (nameB s = (decide (1 ≤ s.size) && decide (s.size ≤ 12) && nameL s.data.toList)) := rfl
  go_enter Tryz.func22, Tryz.ntmps22
  go_wp2_with fail
  go_loop [3] (fun i => ∃ k : Nat, k ≤ s.size ∧ i = .int .i64 k ∧ Hid (nameL s.data.toList = nameL (s.data.toList.drop k))) (fun i => s.size - (intOf i).toNat)
  case atStart => exact ⟨0, by omega, rfl, rfl⟩
  case round =>
    obtain ⟨k, hk, rfl, hd⟩ := hrel
    by_cases hlt : k < s.size
    · have hstep := Lib.hid (nameL_at hlt)
      have hF : Hid (letB (s[k].toNat : Int) = false → nameB s = false) := fun hl => by rw [hfin.out, hd.out, hstep.out, hl]; simp
      have hT : Hid (letB (s[k].toNat : Int) = true → Hid (nameL s.data.toList = nameL (s.data.toList.drop (k + 1)))) := fun hl => by show _ = _; rw [hd.out, hstep.out, hl]; rfl
      go_wp2_with fail
      all_goals first
        | (go_ret
           refine ⟨ret_bool (hF.out ?_).symm, rfl⟩
           rw [letB_eq, decide_eq_false_iff_not]
           try simp only [Bool.not_eq_true', decide_eq_false_iff_not, beq_eq_false_iff_ne] at *
           omega)
        | (go_round
           case rel =>
             refine ⟨k + 1, ?_, ?_, hT.out ?_⟩
             · omega
             · go_num
             · rw [letB_eq, decide_eq_true_eq]
               try simp only [Bool.not_eq_false', decide_eq_true_eq, beq_iff_eq] at *
               omega
           case measure => simp [intOf]; omega)
    · have e1 : Hid (nameL s.data.toList = true) := by show _ = _; rw [hd.out, drop_all (by simp; omega)]; rfl
      go_wp2_with fail
      all_goals go_ret
      all_goals refine ⟨ret_bool ?_, rfl⟩
      all_goals rw [hfin.out, e1.out, Bool.eq_iff_iff]
      all_goals (simp <;> omega)

theorem rNameE (s : ByteArray) (w : World) (hs : okS s) : Calls Tryz.prog 22 #[.string s] w fun e w' => e = .returned (.bool (nameB s)) ∧ w' = w :=
  (rName_any s w hs).mono fun _ _ ⟨a, b⟩ => ⟨a, b.symm⟩

set_option maxHeartbeats 1000000 in
theorem rLabel_any (A : Option Addr) (c : Nat) (xs : List Pr) (key : ByteArray) (w : World) (hn : xs.length ≤ maxLen) (hx : Sl RPair 2 w A xs) :
    Calls Tryz.prog 20 #[.slice A xs.length c, .string key] w fun e w' => e = .returned (.tuple #[.string (getV xs key), .bool (getB xs key)]) ∧ Ext w w' := by
  unfold maxLen at hn
  have HX := Lib.hid hx
  clear hx
  go_enter Tryz.func20, Tryz.ntmps20
  go_wp2_with fail
  go_loopw [9] (fun i wr => ∃ k : Nat, k ≤ xs.length ∧ i = .int .i64 k ∧ Ext w wr ∧ Hid (getO xs key = getO (xs.drop k) key)) (fun i _ => xs.length - (intOf i).toNat)
  case atStart => exact ⟨0, by omega, rfl, Ext.refl _, rfl⟩
  case round =>
    obtain ⟨k, hk, rfl, he, hd⟩ := hrel
    by_cases hlt : k < xs.length
    · obtain ⟨b, o, x, hA, hxk, _, _, c0, c1⟩ := (HX.out.ext RPair.keeps he).pair hlt
      have hstep := Lib.hid (getO_at (key := key) hxk)
      subst hA
      clear hxk HX
      cases hl : eqS x.key key
      · have hl' : (x.key.toList == key.toList) = false := hl
        go_wp2_with fail
        go_roundw
        case rel => exact ⟨k + 1, by omega, by go_num, he, by show _ = _; rw [hd.out, hstep.out, hl]; rfl⟩
        case measure => simp [intOf]; omega
      · have hl' : (x.key.toList == key.toList) = true := hl
        go_wp2_with fail
        go_ret2
        have e1 : getO xs key = some x.val := by rw [hd.out, hstep.out, hl]; rfl
        exact ⟨by unfold getV getB; rw [e1]; rfl, he⟩
    · go_wp2_with fail
      go_ret2
      have e1 : getO xs key = none := by rw [hd.out, drop_all (by omega)]; rfl
      exact ⟨by unfold getV getB; rw [e1]; rfl, he⟩

set_option maxHeartbeats 2000000 in
theorem rMayPairs_any (A : Option Addr) (c : Nat) (xs : List Pr) (w : World) (hn : xs.length ≤ maxLen) (hx : Sl RPair 2 w A xs) :
    Calls Tryz.prog 24 #[.slice A xs.length c] w fun e w' => e = .returned (.bool (mayPairs xs)) ∧ Ext w w' := by
  unfold maxLen at hn
  have HX := Lib.hid hx
  clear hx
  go_enter Tryz.func24, Tryz.ntmps24
  go_wp2_with fail
  go_loopw [6] (fun i wr => ∃ k : Nat, k ≤ xs.length ∧ i = .int .i64 k ∧ Ext w wr ∧ Hid (mayFrom none xs = mayFrom (prevK xs k) (xs.drop k))) (fun i _ => xs.length - (intOf i).toNat)
  case atStart => exact ⟨0, by omega, rfl, Ext.refl _, rfl⟩
  case round =>
    obtain ⟨k, hk, rfl, he, hd⟩ := hrel
    by_cases hlt : k < xs.length
    · obtain ⟨b, o, x, hA, hxk, ok1, ok2, c0, c1⟩ := (HX.out.ext RPair.keeps he).pair hlt
      have hstep := Lib.hid (mayFrom_at hxk)
      have HA := Lib.hid hA
      have HXK := Lib.hid hxk
      subst hA
      clear hxk
      have NM := Lib.hid rNameE
      cases h1 : nameB x.key
      · go_wp2_with fail
        go_quiet ((go_at_call 22; exact Calls.quiet_of_same (NM.out _ _ (by assumption))))
        go_wp2_with fail
        go_ret
        exact ⟨ret_bool (by unfold mayPairs; rw [hd.out, hstep.out, h1]; rfl), he.drewN _⟩
      cases h2 : nameB x.val
      · go_wp2_with fail
        go_quiet ((go_at_call 22; exact Calls.quiet_of_same (NM.out _ _ (by assumption))))
        go_wp2_with fail
        go_ret
        exact ⟨ret_bool (by unfold mayPairs; rw [hd.out, hstep.out, h1, h2]; rfl), he.drewN _⟩
      rcases Nat.eq_zero_or_pos k with hk0 | hk0
      · subst hk0
        simp only [Nat.zero_mul, Nat.add_zero] at c0 c1
        go_wp2_with fail
        go_quiet ((go_at_call 22; exact Calls.quiet_of_same (NM.out _ _ (by assumption))))
        go_wp2_with fail
        go_roundw
        case rel => exact ⟨1, by omega, by go_num, he.drewN _, by show _ = _; rw [hd.out, hstep.out, h1, h2]; rfl⟩
        case measure => simp [intOf]; omega
      obtain ⟨m, rfl⟩ : ∃ m, k = m + 1 := ⟨k - 1, by omega⟩
      obtain ⟨b', o', y, hA', hym, _, _, d0, _⟩ := (HX.out.ext RPair.keeps he).pair (show m < xs.length by omega)
      obtain ⟨rfl, rfl⟩ : b' = b ∧ o' = o := by rw [HA.out] at hA'; injection hA' with e; injection e with e1 e2; exact ⟨e1.symm, e2.symm⟩
      have hp := Lib.hid (prevK_succ hym)
      clear hA' hym HA
      have s1 : IntKind.i64.wrap (m : Int) = (m : Int) := IntWalk.i64_in _ (by omega)
      have s2 : (m : Int) < (xs.length : Int) := by omega
      have s3 : (0 : Int) ≤ (m : Int) := by omega
      cases h3 : ltS y.key x.key
      · have h3' : Op.bytesLess y.key.toList x.key.toList = false := h3
        go_wp2_with fail
        go_quiet ((go_at_call 22; exact Calls.quiet_of_same (NM.out _ _ (by assumption))))
        go_wp2_with fail
        go_ret
        exact ⟨ret_bool (by unfold mayPairs; rw [hd.out, hstep.out, h1, h2, hp.out]; simp [h3]), he.drewN _⟩
      · have h3' : Op.bytesLess y.key.toList x.key.toList = true := h3
        go_wp2_with fail
        go_quiet ((go_at_call 22; exact Calls.quiet_of_same (NM.out _ _ (by assumption))))
        go_wp2_with fail
        go_roundw
        case rel => exact ⟨m + 1 + 1, by omega, by go_num, he.drewN _, by show _ = _; rw [hd.out, hstep.out, h1, h2, hp.out]; simp [h3]⟩
        case measure => simp [intOf]; omega
    · have hlen := hd
      go_wp2_with fail
      go_ret
      exact ⟨ret_bool (by unfold mayPairs; rw [hd.out, drop_all (by omega)]; show _ = (true && _); simp; omega), he⟩
end Go.Proofs.YthfafenigjldlaaGreat

/-
  The walks of the reference's terms: MayTerms, Match.
-/
namespace Go.Proofs.YthfafenigjldlaaGreat
open Go.RowKit
set_option linter.unusedVariables false

set_option maxHeartbeats 4000000 in
theorem rMayTerms_any (A : Option Addr) (c : Nat) (ts : List Tm) (w : World) (hn : ts.length ≤ maxLen) (hx : Sl RTerm 3 w A ts) :
    Calls Tryz.prog 26 #[.slice A ts.length c] w fun e w' => e = .returned (.bool (mayTermsB ts)) ∧ Ext w w' := by
  unfold maxLen at hn
  have HX := Lib.hid hx
  clear hx
  go_enter Tryz.func26, Tryz.ntmps26
  go_wp2_with fail
  go_loopw [9] (fun i wr => ∃ k : Nat, k ≤ ts.length ∧ i = .int .i64 k ∧ Ext w wr ∧ Hid (ts.any (fun t => !mayTermB t) = (ts.drop k).any (fun t => !mayTermB t))) (fun i _ => ts.length - (intOf i).toNat)
  case atStart => exact ⟨0, by omega, rfl, Ext.refl _, rfl⟩
  case round =>
    obtain ⟨k, hk, rfl, he, hd⟩ := hrel
    by_cases hlt : k < ts.length
    · obtain ⟨b, o, x, A', c', hA, hxk, ok1, ok2, ok3, ok4, hv, c0, c1, c2⟩ := (HX.out.ext RTerm.keeps he).term hlt
      have hstep := Lib.hid (any_at (p := fun t => !mayTermB t) hxk)
      have BAD := Lib.hid (tm_bad x)
      have GOOD := Lib.hid (tm_good x)
      obtain ⟨key, kind, vals⟩ := x
      simp only at ok1 ok2 ok3 hv c0 c1 c2 BAD GOOD
      subst hA
      clear hxk HX
      have hl : vals.length ≤ 9223372036854775807 := by unfold maxLen at ok4; omega
      have HV := Lib.hid hv
      have HE : Hid (∀ o, Ext w (wr.alloc o)) := fun o => he.alloc o
      have OK1 := Lib.hid ok1
      have FALSE : Hid (mayTermB ⟨key, kind, vals⟩ = false → mayTermsB ts = false) := fun h => by unfold mayTermsB; rw [hd.out, hstep.out, h]; simp
      have TRUE : Hid (mayTermB ⟨key, kind, vals⟩ = true → Hid (ts.any (fun t => !mayTermB t) = (ts.drop (k + 1)).any (fun t => !mayTermB t))) := fun h => by show _ = _; rw [hd.out, hstep.out, h]; rfl
      clear ok2 ok3 ok4 hv he hd hstep ok1
      cases hN : nameB key
      · go_wp2_with (go_at_call 22; refine (rName_any _ _ OK1.out).mono ?_; rintro e w' ⟨rfl, rfl⟩)
        go_ret
        exact ⟨ret_bool (FALSE.out (BAD.out (.inl hN))).symm, HE.out _⟩
      have hcases : kind < 1 ∨ 4 < kind ∨ ((1 ≤ kind ∧ kind ≤ 2) ∧ (vals.length : Int) < 1) ∨ ((1 ≤ kind ∧ kind ≤ 2) ∧ (6 : Int) < vals.length) ∨ ((1 ≤ kind ∧ kind ≤ 2) ∧ (1 : Int) ≤ vals.length ∧ (vals.length : Int) ≤ 6) ∨ ((2 < kind ∧ kind ≤ 4) ∧ (0 : Int) < vals.length) ∨ ((2 < kind ∧ kind ≤ 4) ∧ (vals.length : Int) ≤ 0) := by omega
      rcases hcases with h | h | ⟨⟨h1, h2⟩, h3⟩ | ⟨⟨h1, h2⟩, h3⟩ | ⟨⟨h1, h2⟩, h3, h4⟩ | ⟨⟨h1, h2⟩, h3⟩ | ⟨⟨h1, h2⟩, h3⟩
      · go_wp2_with (go_at_call 22; refine (rName_any _ _ OK1.out).mono ?_; rintro e w' ⟨rfl, rfl⟩)
        go_ret
        exact ⟨ret_bool (FALSE.out (BAD.out (.inr (.inl h)))).symm, HE.out _⟩
      · have h0 : ¬ kind < 1 := by omega
        go_wp2_with (go_at_call 22; refine (rName_any _ _ OK1.out).mono ?_; rintro e w' ⟨rfl, rfl⟩)
        go_ret
        exact ⟨ret_bool (FALSE.out (BAD.out (.inr (.inr (.inl h))))).symm, HE.out _⟩
      · have F : Hid (mayTermB ⟨key, kind, vals⟩ = false) := BAD.out (.inr (.inr (.inr (.inl ⟨h2, by show vals.length < 1; omega⟩))))
        go_wp2_with (go_at_call 22; refine (rName_any _ _ OK1.out).mono ?_; rintro e w' ⟨rfl, rfl⟩)
        go_ret
        exact ⟨ret_bool (FALSE.out F.out).symm, HE.out _⟩
      · have F : Hid (mayTermB ⟨key, kind, vals⟩ = false) := BAD.out (.inr (.inr (.inr (.inr (.inl ⟨h2, by show 6 < vals.length; omega⟩)))))
        go_wp2_with (go_at_call 22; refine (rName_any _ _ OK1.out).mono ?_; rintro e w' ⟨rfl, rfl⟩)
        go_ret
        exact ⟨ret_bool (FALSE.out F.out).symm, HE.out _⟩
      · have G : Hid (mayTermB ⟨key, kind, vals⟩ = !vals.any (fun s => !nameB s)) := GOOD.out hN h1 (by omega) (fun _ => ⟨by show 1 ≤ vals.length; omega, by show vals.length ≤ 6; omega⟩) (fun h => by omega)
        go_wp2_with (go_at_call 22; refine (rName_any _ _ OK1.out).mono ?_; rintro e w' ⟨rfl, rfl⟩)
        go_loop [58] (fun i => ∃ j : Nat, j ≤ vals.length ∧ i = .int .i64 j ∧ Hid (vals.any (fun s => !nameB s) = (vals.drop j).any (fun s => !nameB s))) (fun i => vals.length - (intOf i).toNat)
        case atStart => exact ⟨0, by omega, rfl, rfl⟩
        obtain ⟨j, hj, rfl, hdj⟩ := hrel
        by_cases hlj : j < vals.length
        · obtain ⟨b', o', y, hA', hyj, oky, cy0⟩ := HV.out.str hlj
          have cy := fun o => cell_alloc cy0 o
          have hst := Lib.hid (any_at (p := fun s => !nameB s) hyj)
          subst hA'
          clear hyj
          cases hNy : nameB y
          · go_wp2_with (go_at_call 22; refine (rName_any _ _ oky).mono ?_; rintro e w' ⟨rfl, rfl⟩)
            go_ret
            exact ⟨ret_bool (FALSE.out (by rw [G.out, hdj.out, hst.out, hNy]; rfl)).symm, HE.out _⟩
          · go_wp2_with (go_at_call 22; refine (rName_any _ _ oky).mono ?_; rintro e w' ⟨rfl, rfl⟩)
            go_round
            case rel => exact ⟨j + 1, by omega, by go_num, by show _ = _; rw [hdj.out, hst.out, hNy]; rfl⟩
            case measure => simp [intOf]; omega
        · have T : Hid (mayTermB ⟨key, kind, vals⟩ = true) := by show _ = _; rw [G.out, hdj.out, drop_all (by omega)]; rfl
          go_wp2_with fail
          go_roundw
          case rel => exact ⟨k + 1, by omega, by go_num, HE.out _, TRUE.out T.out⟩
          case measure => simp [intOf]; omega
      · have F : Hid (mayTermB ⟨key, kind, vals⟩ = false) := BAD.out (.inr (.inr (.inr (.inr (.inr ⟨h1, by show 0 < vals.length; omega⟩)))))
        go_wp2_with (go_at_call 22; refine (rName_any _ _ OK1.out).mono ?_; rintro e w' ⟨rfl, rfl⟩)
        go_ret
        exact ⟨ret_bool (FALSE.out F.out).symm, HE.out _⟩
      · have T : Hid (mayTermB ⟨key, kind, vals⟩ = true) := by
          show _ = _
          rw [GOOD.out hN (by omega) h2 (fun h => by omega) (fun h => by show vals.length = 0; omega), List.eq_nil_of_length_eq_zero (show vals.length = 0 by omega)]; rfl
        obtain rfl : vals = [] := List.eq_nil_of_length_eq_zero (by omega)
        simp only [List.length_nil] at c2 h3
        go_wp2_with (go_at_call 22; refine (rName_any _ _ OK1.out).mono ?_; rintro e w' ⟨rfl, rfl⟩)
        go_loop [58] (fun i => i = .int .i64 0) (fun i => 0)
        case atStart => exact rfl
        obtain rfl := hrel
        go_wp2_with fail
        go_roundw
        case rel => exact ⟨k + 1, by omega, by go_num, HE.out _, TRUE.out T.out⟩
        case measure => simp [intOf]; omega
    · have e1 : Hid (ts.any (fun t => !mayTermB t) = false) := by show _ = _; rw [hd.out, drop_all (by omega)]; rfl
      go_wp2_with fail
      go_ret
      exact ⟨ret_bool (by unfold mayTermsB; rw [e1.out, Bool.eq_iff_iff]; simp <;> omega), he⟩

set_option maxHeartbeats 4000000 in
theorem rMatch_any (A : Option Addr) (c : Nat) (ts : List Tm) (B : Option Addr) (d : Nat) (l : List Pr) (w : World) (hn : ts.length ≤ maxLen) (hx : Sl RTerm 3 w A ts) (h6 : l.length ≤ maxLen) (h7 : Sl RPair 2 w B l) :
    Calls Tryz.prog 28 #[.slice A ts.length c, .slice B l.length d] w fun e w' => e = .returned (.bool (matchB ts l)) ∧ Ext w w' := by
  unfold maxLen at hn
  have HX := Lib.hid hx
  have H6 := Lib.hid h6
  have H7 := Lib.hid h7
  clear hx h6 h7
  go_enter Tryz.func28, Tryz.ntmps28
  go_wp2_with fail
  go_loopw [14] (fun i wr => ∃ k : Nat, k ≤ ts.length ∧ i = .int .i64 k ∧ Ext w wr ∧ Hid (matchB ts l = matchB (ts.drop k) l)) (fun i _ => ts.length - (intOf i).toNat)
  case atStart => exact ⟨0, by omega, rfl, Ext.refl _, rfl⟩
  case round =>
    obtain ⟨k, hk, rfl, he, hd⟩ := hrel
    by_cases hlt : k < ts.length
    · obtain ⟨b, o, x, A', c', hA, hxk, ok1, ok2, ok3, ok4, hv, c0, c1, c2⟩ := (HX.out.ext RTerm.keeps he).term hlt
      have hstep := Lib.hid (matchB_at (l := l) hxk)
      have HH : Hid (holdsB x l = if x.kind = 1 then getB l x.key && memS x.vals (getV l x.key) else if x.kind = 2 then !(getB l x.key && memS x.vals (getV l x.key)) else if x.kind = 3 then getB l x.key else if x.kind = 4 then !getB l x.key else false) := rfl
      obtain ⟨key, kind, vals⟩ := x
      simp only at ok1 ok2 ok3 hv c0 c1 c2 HH
      subst hA
      clear hxk HX
      have hl : vals.length ≤ 9223372036854775807 := by unfold maxLen at ok4; omega
      unfold inI at ok2
      have HV := Lib.hid hv
      have HE := Lib.hid he
      have FALSE : Hid (holdsB ⟨key, kind, vals⟩ l = false → matchB ts l = false) := fun h => by rw [hd.out, hstep.out, h]; simp
      have TRUE : Hid (holdsB ⟨key, kind, vals⟩ l = true → Hid (matchB ts l = matchB (ts.drop (k + 1)) l)) := fun h => by show _ = _; rw [hd.out, hstep.out, h]; rfl
      clear ok3 ok4 hv he hd hstep
      go_wp2_with fail
      refine (rLabel_any B d l key _ H6.out (H7.out.ext RPair.keeps HE.out)).mono ?_
      rintro e w1 ⟨rfl, e1⟩
      have d0 := e1.cell c0
      have d1 := e1.cell c1
      have d2 := e1.cell c2
      have HE1 := Lib.hid (HE.out.trans e1)
      have HV1 := Lib.hid (HV.out.ext RStr.keeps e1)
      clear e1 c0 c1 c2 HE HV
      obtain ⟨v, hv⟩ : ∃ v, v = getV l key := ⟨_, rfl⟩
      obtain ⟨th, hth⟩ : ∃ v, v = getB l key := ⟨_, rfl⟩
      rw [← hv, ← hth] at HH ⊢
      clear hv hth
      go_wp2_with fail
      go_loop [8, 33] (fun q i => ∃ (j : Nat) (p : Bool), j ≤ vals.length ∧ i = .int .i64 j ∧ q = .bool p ∧ Hid ((th && memS vals v) = (p || (th && memS (vals.drop j) v)))) (fun _ i => vals.length - (intOf i).toNat)
      case atStart => exact ⟨0, false, by omega, rfl, rfl, by show _ = _; simp⟩
      obtain ⟨j, p, hj, rfl, rfl, hdj⟩ := hrel
      by_cases hlj : j < vals.length
      · obtain ⟨b', o', y, hA', hyj, oky, cy⟩ := HV1.out.str hlj
        have hst : Hid (memS (vals.drop j) v = (eqS y v || memS (vals.drop (j + 1)) v)) := by
          show _ = _
          rw [eqS_comm y v]; exact any_at (p := fun x => eqS v x) hyj
        subst hA'
        clear hyj
        obtain ⟨q, hq⟩ : ∃ q, q = eqS y v := ⟨_, rfl⟩
        have hq' : (y.toList == v.toList) = q := hq.symm
        rw [← hq] at hst
        clear hq
        cases p
        · cases th
          · go_wp2_with fail
            go_round
            case rel => exact ⟨j + 1, false, by omega, by go_num, rfl, by show _ = _; rw [hdj.out]; rfl⟩
            case measure => simp [intOf]; omega
          · go_wp2_with fail
            go_round
            case rel => exact ⟨j + 1, q, by omega, by go_num, rfl, by show _ = _; rw [hdj.out, hst.out]; simp⟩
            case measure => simp [intOf]; omega
        · go_wp2_with fail
          go_round
          case rel => exact ⟨j + 1, true, by omega, by go_num, rfl, by show _ = _; rw [hdj.out]; rfl⟩
          case measure => simp [intOf]; omega
      · have hp : Hid ((th && memS vals v) = p) := by show _ = _; rw [hdj.out, drop_all (by omega)]; simp [memS]
        rw [hp.out] at HH
        have hkc : kind = 1 ∨ kind = 2 ∨ kind = 3 ∨ kind = 4 ∨ (kind ≠ 1 ∧ kind ≠ 2 ∧ kind ≠ 3 ∧ kind ≠ 4) := by omega
        clear hdj hp
        rcases hkc with rfl | rfl | rfl | rfl | ⟨k1, k2, k3, k4⟩
        · cases p
          · go_wp2_with fail
            go_ret
            exact ⟨ret_bool (FALSE.out (by rw [HH.out]; rfl)).symm, HE1.out⟩
          · go_wp2_with fail
            go_roundw
            case rel => exact ⟨k + 1, by omega, by go_num, HE1.out, TRUE.out (by rw [HH.out]; rfl)⟩
            case measure => simp [intOf]; omega
        · cases p
          · go_wp2_with fail
            go_roundw
            case rel => exact ⟨k + 1, by omega, by go_num, HE1.out, TRUE.out (by rw [HH.out]; rfl)⟩
            case measure => simp [intOf]; omega
          · go_wp2_with fail
            go_ret
            exact ⟨ret_bool (FALSE.out (by rw [HH.out]; rfl)).symm, HE1.out⟩
        · cases th
          · go_wp2_with fail
            go_ret
            exact ⟨ret_bool (FALSE.out (by rw [HH.out]; rfl)).symm, HE1.out⟩
          · go_wp2_with fail
            go_roundw
            case rel => exact ⟨k + 1, by omega, by go_num, HE1.out, TRUE.out (by rw [HH.out]; rfl)⟩
            case measure => simp [intOf]; omega
        · cases th
          · go_wp2_with fail
            go_roundw
            case rel => exact ⟨k + 1, by omega, by go_num, HE1.out, TRUE.out (by rw [HH.out]; rfl)⟩
            case measure => simp [intOf]; omega
          · go_wp2_with fail
            go_ret
            exact ⟨ret_bool (FALSE.out (by rw [HH.out]; rfl)).symm, HE1.out⟩
        · have F : Hid (holdsB ⟨key, kind, vals⟩ l = false) := by show _ = _; rw [HH.out, if_neg k1, if_neg k2, if_neg k3, if_neg k4]
          go_wp2_with fail
          go_ret
          exact ⟨ret_bool (FALSE.out F.out).symm, HE1.out⟩
    · have e1 : Hid (matchB ts l = true) := by show _ = _; rw [hd.out, drop_all (by omega)]; rfl
      go_wp2_with fail
      go_ret
      exact ⟨ret_bool e1.out.symm, he⟩
end Go.Proofs.YthfafenigjldlaaGreat
