/-
  The walks of the reference's Bytes, pairs and terms (printed by mkref.py).
-/
import Derived.Test.YthfafenigjldlaaGreatEq2
namespace Go.Proofs.YthfafenigjldlaaGreat
open Go.RowKit
set_option linter.unusedVariables false

theorem rBytes_any (A B : Option Addr) (c d : Nat) (xs ys : List UInt8) (w : World) (hx : Flat w 1 A xs.length (xs.map byV)) (hy : Flat w 1 B ys.length (ys.map byV)) :
    Calls Tryz.prog 55 #[.slice A xs.length c, .slice B ys.length d] w (EqPost (xs = ys) w) := by
  have h1 := conv_flat (c := c) hx
  have h2 := conv_flat (c := d) hy
  have FIN : Hid (EqPost (xs = ys) w (.returned (.bool (xs == ys))) w) := ⟨_, rfl, by simp, Ext.refl _⟩
  clear hx hy
  go_enter Tryz.func55, Tryz.ntmps55
  go_wp2_with fail
  go_ret
  exact FIN.out

set_option maxHeartbeats 1000000 in
theorem rPairs_any (A B : Option Addr) (c d : Nat) (xs ys : List Pr) (w : World) (hn : xs.length ≤ maxLen) (hm : ys.length ≤ maxLen) (hx : Sl RPair 2 w A xs) (hy : Sl RPair 2 w B ys) :
    Calls Tryz.prog 104 #[.slice A xs.length c, .slice B ys.length d] w (EqPost (xs = ys) w) := by
  unfold maxLen at hn hm
  have HX := Lib.hid hx
  have HY := Lib.hid hy
  clear hx hy
  by_cases hl : xs.length = ys.length
  case neg =>
    have hl' : ¬ ((xs.length : Int) = (ys.length : Int)) := by omega
    have FIN : Hid (EqPost (xs = ys) w (.returned (.bool false)) w) := ⟨false, rfl, by simp; rintro rfl; exact hl rfl, Ext.refl _⟩
    go_enter Tryz.func104, Tryz.ntmps104
    go_wp2_with fail
    go_ret
    exact FIN.out
  have HL := Lib.hid hl
  go_enter Tryz.func104, Tryz.ntmps104
  go_wp2_with fail
  go_loopw [13] (fun i wr => ∃ k : Nat, k ≤ xs.length ∧ i = .int .i64 k ∧ Ext w wr ∧ Hid (xs.take k = ys.take k)) (fun i _ => xs.length - (intOf i).toNat)
  case atStart => exact ⟨0, by omega, rfl, Ext.refl _, rfl⟩
  case round =>
    obtain ⟨k, hk, rfl, he, ht⟩ := hrel
    by_cases hlt : k < xs.length
    · obtain ⟨b, o, x, hA, hxk, ok1, ok2, c0, c1⟩ := (HX.out.ext RPair.keeps he).pair hlt
      obtain ⟨b', o', y, hB, hyk, ok3, ok4, d0, d1⟩ := (HY.out.ext RPair.keeps he).pair (show k < ys.length by omega)
      have HXK := Lib.hid hxk
      have HYK := Lib.hid hyk
      subst hA
      subst hB
      clear hxk hyk
      have s2 : (k : Int) < (ys.length : Int) := by omega
      have s3 : (k : Int) < (xs.length : Int) := by omega
      have s4 : (0 : Int) ≤ (k : Int) := by omega
      by_cases h1 : x.key = y.key
      case neg =>
        have FIN : ∀ wx, Ext wr wx → Hid (EqPost (xs = ys) w (.returned (.bool false)) wx) := fun wx hwx => ⟨false, rfl, by simp; exact ne_at HXK.out HYK.out (fun e => h1 (by rw [e])), he.trans hwx⟩
        have qh1 : (x.key.toList == y.key.toList) = false := eqS_false.2 h1
        have hne := neq_pair
        go_wp2_with fail
        go_quiet (fail)
        go_wp2_with fail
        go_ret
        exact (FIN _ (by first | exact Ext.refl _ | exact (Ext.refl _).drew | exact (Ext.refl _).drewN _)).out
      have ph1 : (x.key.toList == y.key.toList) = true := eqS_iff.2 h1
      by_cases h2 : x.val = y.val
      case neg =>
        have FIN : ∀ wx, Ext wr wx → Hid (EqPost (xs = ys) w (.returned (.bool false)) wx) := fun wx hwx => ⟨false, rfl, by simp; exact ne_at HXK.out HYK.out (fun e => h2 (by rw [e])), he.trans hwx⟩
        have qh2 : (x.val.toList == y.val.toList) = false := eqS_false.2 h2
        have hne := neq_pair
        go_wp2_with fail
        go_quiet (fail)
        go_wp2_with fail
        go_ret
        exact (FIN _ (by first | exact Ext.refl _ | exact (Ext.refl _).drew | exact (Ext.refl _).drewN _)).out
      have ph2 : (x.val.toList == y.val.toList) = true := eqS_iff.2 h2
      have hne := neq_pair
      have HN : Hid (xs.take (k + 1) = ys.take (k + 1)) := take_eq_succ ht.out HXK.out (by rw [HYK.out]; congr 1; obtain ⟨x1, x2⟩ := x; obtain ⟨y1, y2⟩ := y; simp at h1 h2; rw [h1, h2])
      go_wp2_with fail
      go_quiet (fail)
      go_wp2_with fail
      go_roundw
      case rel => exact ⟨k + 1, by omega, by go_num, he.drewN _, HN⟩
      case measure => simp [intOf]; omega
    · have FIN : Hid (EqPost (xs = ys) w (.returned (.bool true)) wr) := ⟨true, rfl, by simp; exact take_eq_all HL.out ht.out (by omega), he⟩
      go_wp2_with fail
      go_ret
      exact FIN.out

set_option maxHeartbeats 2000000 in
set_option maxRecDepth 20000 in
theorem rTerms_any (A B : Option Addr) (c d : Nat) (xs ys : List Tm) (w : World) (hn : xs.length ≤ maxLen) (hm : ys.length ≤ maxLen) (hx : Sl RTerm 3 w A xs) (hy : Sl RTerm 3 w B ys) :
    Calls Tryz.prog 105 #[.slice A xs.length c, .slice B ys.length d] w (EqPost (xs = ys) w) := by
  unfold maxLen at hn hm
  have HX := Lib.hid hx
  have HY := Lib.hid hy
  clear hx hy
  by_cases hl : xs.length = ys.length
  case neg =>
    have hl' : ¬ ((xs.length : Int) = (ys.length : Int)) := by omega
    have FIN : Hid (EqPost (xs = ys) w (.returned (.bool false)) w) := ⟨false, rfl, by simp; rintro rfl; exact hl rfl, Ext.refl _⟩
    go_enter Tryz.func105, Tryz.ntmps105
    go_wp2_with fail
    go_ret
    exact FIN.out
  have HL := Lib.hid hl
  obtain ⟨n, hxn⟩ : ∃ n, n = xs.length := ⟨_, rfl⟩
  have hyn : n = ys.length := by omega
  rw [← hxn, ← hyn]
  rw [← hxn] at hn
  have HXN := Lib.hid hxn
  have HYN := Lib.hid hyn
  clear hl hxn hyn hm
  go_enter Tryz.func105, Tryz.ntmps105
  go_wp2_with fail
  go_loopw [14] (fun i wr => ∃ k : Nat, k ≤ n ∧ i = .int .i64 k ∧ Ext w wr ∧ Hid (xs.take k = ys.take k)) (fun i _ => n - (intOf i).toNat)
  case atStart => exact ⟨0, by omega, rfl, Ext.refl _, rfl⟩
  case round =>
    obtain ⟨k, hk, rfl, he, ht⟩ := hrel
    by_cases hlt : k < n
    · obtain ⟨b, o, x, A1, c1, hA, hxk, ok1, ok2, l1, l2, sx, k0, k1, k2⟩ := (HX.out.ext RTerm.keeps he).term (show k < xs.length by have := HXN.out; omega)
      obtain ⟨b', o', y, B1, d1, hB, hyk, ok3, ok4, m1, m2, sy, e0, e1, e2⟩ := (HY.out.ext RTerm.keeps he).term (show k < ys.length by have := HYN.out; omega)
      have HXK := Lib.hid hxk
      have HYK := Lib.hid hyk
      have HSX : Hid (∀ wx, Ext wr wx → Sl RStr 1 wx A1 x.vals) := fun wx e => sx.ext RStr.keeps e
      have HSY : Hid (∀ wx, Ext wr wx → Sl RStr 1 wx B1 y.vals) := fun wx e => sy.ext RStr.keeps e
      have HE := Lib.hid he
      subst hA
      subst hB
      clear hxk hyk sx sy he
      unfold maxLen at l2 m2
      have s2 : (k : Int) < (n : Int) := by omega
      have s4 : (0 : Int) ≤ (k : Int) := by omega
      by_cases h1 : x.key = y.key
      case neg =>
        have FIN : ∀ wx, Ext wr wx → Hid (EqPost (xs = ys) w (.returned (.bool false)) wx) := fun wx hwx => ⟨false, rfl, by simp; exact ne_at HXK.out HYK.out (fun e => h1 (by rw [e])), HE.out.trans hwx⟩
        have qh1 : (x.key.toList == y.key.toList) = false := eqS_false.2 h1
        clear HX HY HSX HSY
        go_wp2_with fail
        go_quiet (fail)
        go_wp2_with fail
        go_ret
        exact (FIN _ (by first | exact Ext.refl _ | exact (Ext.refl _).drew | exact (Ext.refl _).drewN _)).out
      have ph1 : (x.key.toList == y.key.toList) = true := eqS_iff.2 h1
      by_cases h2 : x.kind = y.kind
      case neg =>
        have FIN : ∀ wx, Ext wr wx → Hid (EqPost (xs = ys) w (.returned (.bool false)) wx) := fun wx hwx => ⟨false, rfl, by simp; exact ne_at HXK.out HYK.out (fun e => h2 (by rw [e])), HE.out.trans hwx⟩
        have qh2 : (x.kind == y.kind) = false := by simpa using h2
        clear HX HY HSX HSY
        go_wp2_with fail
        go_quiet (fail)
        go_wp2_with fail
        go_ret
        exact (FIN _ (by first | exact Ext.refl _ | exact (Ext.refl _).drew | exact (Ext.refl _).drewN _)).out
      by_cases h3 : x.vals.length = y.vals.length
      case neg =>
        have FIN : ∀ wx, Ext wr wx → Hid (EqPost (xs = ys) w (.returned (.bool false)) wx) := fun wx hwx => ⟨false, rfl, by simp; exact ne_at HXK.out HYK.out (fun e => h3 (by rw [e])), HE.out.trans hwx⟩
        have qh3 : ¬ ((x.vals.length : Int) = (y.vals.length : Int)) := by omega
        clear HX HY HSX HSY
        go_wp2_with fail
        go_quiet (fail)
        go_wp2_with fail
        go_ret
        exact (FIN _ (by first | exact Ext.refl _ | exact (Ext.refl _).drew | exact (Ext.refl _).drewN _)).out
      obtain ⟨m, hxm⟩ : ∃ m, m = x.vals.length := ⟨_, rfl⟩
      have hym : m = y.vals.length := by omega
      rw [← hxm] at k2 l1
      rw [← hym] at e2 m1
      have HXM := Lib.hid hxm
      have HYM := Lib.hid hym
      have HXY : Hid (x.vals = y.vals → x = y) := fun hv => by
        obtain ⟨x1, x2, x3⟩ := x
        obtain ⟨y1, y2, y3⟩ := y
        simp at h1 h2 hv
        rw [h1, h2, hv]
      rw [← h2] at e1
      rw [← h1] at e0
      clear h1 h2 h3 hxm hym ok1 ok2 ok3 ok4 ph1
      go_wp2_with fail
      go_quiet (fail)
      go_wp2_with fail
      go_loopw [62] (fun i w2 => ∃ j : Nat, j ≤ m ∧ i = .int .i64 j ∧ Ext wr w2 ∧ Hid (x.vals.take j = y.vals.take j)) (fun i _ => m - (intOf i).toNat)
      case atStart => exact ⟨0, by omega, rfl, by first | exact Ext.refl _ | exact (Ext.refl _).drew | exact (Ext.refl _).drewN _, rfl⟩
      case round =>
        obtain ⟨j, hj, rfl, he2, ht2⟩ := hrel
        have g2 := he2.cell k2
        have f2 := he2.cell e2
        by_cases hjt : j < m
        · obtain ⟨bb, oo, s, hA1, hs, oks, r0⟩ := (HSX.out _ he2).str (show j < x.vals.length by have := HXM.out; omega)
          obtain ⟨bb', oo', t, hB1, hst, okt, r1⟩ := (HSY.out _ he2).str (show j < y.vals.length by have := HYM.out; omega)
          have HS := Lib.hid hs
          have HT := Lib.hid hst
          subst hA1
          subst hB1
          clear hs hst
          have HE2 := Lib.hid (HE.out.trans he2)
          have HD := Lib.hid he2
          clear he2
          have s5 : (j : Int) < (m : Int) := by omega
          have s6 : (0 : Int) ≤ (j : Int) := by omega
          by_cases h4 : s = t
          case neg =>
            have qh4 : (s.toList == t.toList) = false := eqS_false.2 h4
            have FIN : ∀ wx, Ext wr wx → Hid (EqPost (xs = ys) w (.returned (.bool false)) wx) := fun wx hwx => ⟨false, rfl, by simp; exact ne_at HXK.out HYK.out (fun e => ne_at HS.out HT.out h4 (by rw [e])), HE2.out.trans hwx⟩
            clear HX HY HSX HSY
            go_wp2_with fail
            go_quiet (fail)
            go_wp2_with fail
            go_ret
            exact (FIN _ (by first | exact Ext.refl _ | exact (Ext.refl _).drew | exact (Ext.refl _).drewN _)).out
          have HN : Hid (x.vals.take (j + 1) = y.vals.take (j + 1)) := take_eq_succ ht2.out HS.out (by rw [HT.out, h4])
          have ph4 : (s.toList == t.toList) = true := eqS_iff.2 h4
          go_wp2_with fail
          go_quiet (fail)
          go_wp2_with fail
          go_roundw
          case rel => exact ⟨j + 1, by omega, by go_num, HD.out.drewN _, HN⟩
          case measure => simp [intOf]; omega
        · have HN : Hid (xs.take (k + 1) = ys.take (k + 1)) := take_eq_succ ht.out HXK.out (by rw [HYK.out, HXY.out (take_eq_all (by have := HXM.out; have := HYM.out; omega) ht2.out (by have := HXM.out; omega))])
          have HE2 := Lib.hid (HE.out.trans he2)
          clear he2
          go_wp2_with fail
          go_roundw
          case rel => exact ⟨k + 1, by omega, by go_num, HE2.out, HN⟩
          case measure => simp [intOf]; omega
    · have FIN : Hid (EqPost (xs = ys) w (.returned (.bool true)) wr) := ⟨true, rfl, by simp; exact take_eq_all HL.out ht.out (by have := HXN.out; omega), he⟩
      go_wp2_with fail
      go_ret
      exact FIN.out
end Go.Proofs.YthfafenigjldlaaGreat
