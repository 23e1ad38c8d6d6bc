/-
  The walks of bytes.Equal, slices.EqualFunc over terms, obj.eqTerms.
-/
import Derived.Test.YthfafenigjldlaaGreatEq1
import Derived.Test.YthfafenigjldlaaGreatDec1
import Derived.Laws.StructEq
import Derived.Laws.Tables
namespace Go.Proofs.YthfafenigjldlaaGreat
open Go.RowKit
set_option linter.unusedVariables false

theorem conv_flat {w : World} {A : Option Addr} {c : Nat} {bs : List UInt8} (h : Flat w 1 A bs.length (bs.map byV)) : (convert 42 9 (.slice A bs.length c)).run Tryz.prog w = .ok (.string ⟨bs.toArray⟩) w := by
  rcases Nat.eq_zero_or_pos bs.length with h0 | h0
  · obtain rfl : bs = [] := List.eq_nil_of_length_eq_zero h0
    rcases A with _ | ⟨a⟩
    · have := run_convert_bytes_nil (P := Tryz.prog) w 42 5 Tryz.underlying42 Tryz.underlying5 0 c 9 Tryz.underlying9
      exact this
    · rw [run_convert_bytes_string (P := Tryz.prog) w 42 9 5 _ _ _ Tryz.underlying42 Tryz.underlying5 Tryz.underlying9]
      rw [run_bytesToString w _ _ c [] (by simp [loadCells, loadCellsFrom])]
      rfl
  · obtain ⟨b, o, rfl, hc⟩ := h.2 h0
    have := run_convert_bytes_arg (P := Tryz.prog) w 42 5 Tryz.underlying42 Tryz.underlying5 b o bs.length c (bs.map fun b => (b.toNat : Int)) (by simp) (fun i hi => by
      obtain ⟨x, hx⟩ := get_of hi
      have hu : (bs.map byV)[i]? = some (byV x) := by rw [List.getElem?_map, hx]; rfl
      rw [hc i _ hu]
      simp [List.getD, List.getElem?_map, hx, byV]) 9 Tryz.underlying9
    have e : strOfNums (bs.map fun b => (b.toNat : Int)) = ⟨bs.toArray⟩ := by
      unfold strOfNums
      rw [List.map_map]
      have : ((fun n : Int => UInt8.ofNat n.toNat) ∘ fun b : UInt8 => (b.toNat : Int)) = id := by funext b; simp
      rw [this, List.map_id]
    rw [this, e]
theorem bEqual_any (A B : Option Addr) (c d : Nat) (xs ys : List UInt8) (w : World) (hx : Flat w 1 A xs.length (xs.map byV)) (hy : Flat w 1 B ys.length (ys.map byV)) :
    Calls Tryz.prog 103 #[.slice A xs.length c, .slice B ys.length d] w (EqPost (xs = ys) w) := by
  have h1 := conv_flat (c := c) hx
  have h2 := conv_flat (c := d) hy
  have FIN : Hid (EqPost (xs = ys) w (.returned (.bool (xs == ys))) w) := ⟨_, rfl, by simp, Ext.refl _⟩
  clear hx hy
  go_enter Tryz.func103, Tryz.ntmps103
  go_wp2_with fail
  go_ret
  exact FIN.out

theorem eqTermsF_any (A B : Option Addr) (c d : Nat) (x y : Tm) (w : World) (hl : x.vals.length ≤ maxLen) (hm : y.vals.length ≤ maxLen) (hx : Sl RStr 1 w A x.vals) (hy : Sl RStr 1 w B y.vals) :
    Calls Tryz.prog 118 #[.agg #[.string x.key, .int .i64 x.kind, .slice A x.vals.length c], .agg #[.string y.key, .int .i64 y.kind, .slice B y.vals.length d]] w (EqPost (x = y) w) := by
  have HX : Hid (∀ o, Sl RStr 1 (w.alloc o) A x.vals) := fun o => hx.ext RStr.keeps ((Ext.refl _).alloc o)
  have HY : Hid (∀ o, Sl RStr 1 (w.alloc o) B y.vals) := fun o => hy.ext RStr.keeps ((Ext.refl _).alloc o)
  have HX2 : Hid (∀ o o', Sl RStr 1 ((w.alloc o).alloc o') A x.vals) := fun o o' => (HX.out o).ext RStr.keeps ((Ext.refl _).alloc o')
  have HY2 : Hid (∀ o o', Sl RStr 1 ((w.alloc o).alloc o') B y.vals) := fun o o' => (HY.out o).ext RStr.keeps ((Ext.refl _).alloc o')
  have HE2 : Hid (∀ o o', Ext w ((w.alloc o).alloc o')) := fun o o' => ((Ext.refl _).alloc o).alloc o'
  clear hx hy HX HY
  by_cases h1 : x.key = y.key
  case neg =>
    have q1 : (x.key.toList == y.key.toList) = false := eqS_false.2 h1
    have FIN : Hid (∀ o o', EqPost (x = y) w (.returned (.bool false)) ((w.alloc o).alloc o')) := fun o o' => ⟨false, rfl, by simp; rintro rfl; exact h1 rfl, HE2.out o o'⟩
    go_enter Tryz.func118, Tryz.ntmps118
    go_wp2_with fail
    go_ret
    exact FIN.out _ _
  have p1 : (x.key.toList == y.key.toList) = true := eqS_iff.2 h1
  by_cases h2 : x.kind = y.kind
  case neg =>
    have q2 : (x.kind == y.kind) = false := by simpa using h2
    have FIN : Hid (∀ o o', EqPost (x = y) w (.returned (.bool false)) ((w.alloc o).alloc o')) := fun o o' => ⟨false, rfl, by simp; rintro rfl; exact h2 rfl, HE2.out o o'⟩
    go_enter Tryz.func118, Tryz.ntmps118
    go_wp2_with fail
    go_ret
    exact FIN.out _ _
  have p2 : (x.kind == y.kind) = true := by simpa using h2
  have HXY : Hid (x = y ↔ x.vals = y.vals) := by
    show _ ↔ _
    obtain ⟨a, b, xs⟩ := x
    obtain ⟨a', b', ys⟩ := y
    simp at h1 h2
    subst h1 h2
    simp
  clear h1 h2
  go_enter Tryz.func118, Tryz.ntmps118
  go_wp2_with fail
  refine (eqStr_any _ _ _ _ _ _ _ hl hm (HX2.out _ _) (HY2.out _ _)).mono ?_
  rintro e w2 ⟨b, rfl, hb, he⟩
  have FIN : Hid (EqPost (x = y) w (.returned (.bool b)) w2) := ⟨b, rfl, hb.trans HXY.out.symm, (HE2.out _ _).trans he⟩
  clear hb he
  go_wp2_with fail
  go_ret
  exact FIN.out

set_option maxHeartbeats 1000000 in
set_option maxRecDepth 20000 in
theorem efTerm_any (A B : Option Addr) (c d : Nat) (xs ys : List Tm) (w : World) (hn : xs.length ≤ maxLen) (hm : ys.length ≤ maxLen) (hx : Sl RTerm 3 w A xs) (hy : Sl RTerm 3 w B ys) :
    Calls Tryz.prog 117 #[.slice A xs.length c, .slice B ys.length d, .func (.func 118) #[] #[]] w (EqPost (xs = ys) w) := by
  unfold maxLen at hn hm
  have HX := Lib.hid hx
  have HY := Lib.hid hy
  clear hx hy
  by_cases hl : xs.length = ys.length
  case neg =>
    have hl' : ¬ ((xs.length : Int) = (ys.length : Int)) := by omega
    have FIN : Hid (EqPost (xs = ys) w (.returned (.bool false)) w) := ⟨false, rfl, by simp; rintro rfl; exact hl rfl, Ext.refl _⟩
    go_enter Tryz.func117, Tryz.ntmps117
    go_wp2_with fail
    go_ret
    exact FIN.out
  have HL := Lib.hid hl
  obtain ⟨n, hxn⟩ : ∃ n, n = xs.length := ⟨_, rfl⟩
  have hyn : n = ys.length := by omega
  rw [← hxn, ← hyn]
  rw [← hxn] at hn
  have HXN := Lib.hid hxn
  have HYN := Lib.hid hyn
  clear hl hxn hyn hm
  go_enter Tryz.func117, Tryz.ntmps117
  go_wp2_with fail
  go_loopw [17] (fun i wr => ∃ k : Nat, k ≤ n ∧ i = .int .i64 k ∧ Ext w wr ∧ Hid (xs.take k = ys.take k)) (fun i _ => n - (intOf i).toNat)
  case atStart => exact ⟨0, by omega, rfl, Ext.refl _, rfl⟩
  case round =>
    obtain ⟨k, hk, rfl, he, ht⟩ := hrel
    by_cases hlt : k < n
    · obtain ⟨b, o, x, A1, c1, hA, hxk, ok1, ok2, l1, l2, sx, k0, k1, k2⟩ := (HX.out.ext RTerm.keeps he).term (show k < xs.length by have := HXN.out; omega)
      obtain ⟨b', o', y, B1, d1, hB, hyk, ok3, ok4, m1, m2, sy, e0, e1, e2⟩ := (HY.out.ext RTerm.keeps he).term (show k < ys.length by have := HYN.out; omega)
      have HXK := Lib.hid hxk
      have HYK := Lib.hid hyk
      have HSX : Hid (∀ o o', Sl RStr 1 ((wr.alloc o).alloc o') A1 x.vals) := fun o o' => sx.ext RStr.keeps (((Ext.refl _).alloc o).alloc o')
      have HSY : Hid (∀ o o', Sl RStr 1 ((wr.alloc o).alloc o') B1 y.vals) := fun o o' => sy.ext RStr.keeps (((Ext.refl _).alloc o).alloc o')
      have HE := Lib.hid he
      subst hA
      subst hB
      have e0' := fun o => cell_alloc e0 o
      have e1' := fun o => cell_alloc e1 o
      have e2' := fun o => cell_alloc e2 o
      clear hxk hyk sx sy he
      have s3 : (k : Int) < (n : Int) := by omega
      have s4 : (0 : Int) ≤ (k : Int) := by omega
      go_wp2_with fail
      refine (eqTermsF_any _ _ _ _ x y _ (Nat.le_trans l1 l2) (Nat.le_trans m1 m2) (HSX.out _ _) (HSY.out _ _)).mono ?_
      rintro e w2 ⟨bb, rfl, hb, he2⟩
      have HE2 := Lib.hid (HE.out.trans ((((Ext.refl _).alloc _).alloc _).trans he2))
      clear he2
      cases bb
      · have FIN : Hid (EqPost (xs = ys) w (.returned (.bool false)) w2) := ⟨false, rfl, by simp; exact ne_at HXK.out HYK.out (by simpa using hb), HE2.out⟩
        clear hb
        go_wp2_with fail
        go_ret
        exact FIN.out
      · have HN : Hid (xs.take (k + 1) = ys.take (k + 1)) := take_eq_succ ht.out HXK.out (by rw [HYK.out, hb.1 rfl])
        clear hb
        go_wp2_with fail
        go_roundw
        case rel => exact ⟨k + 1, by omega, by go_num, HE2.out, HN⟩
        case measure => simp [intOf]; omega
    · have FIN : Hid (EqPost (xs = ys) w (.returned (.bool true)) wr) := ⟨true, rfl, by simp; exact take_eq_all HL.out ht.out (by have := HXN.out; omega), he⟩
      go_wp2_with fail
      go_ret
      exact FIN.out

theorem eqTerms_any (A B : Option Addr) (c d : Nat) (xs ys : List Tm) (w : World) (hn : xs.length ≤ maxLen) (hm : ys.length ≤ maxLen) (hx : Sl RTerm 3 w A xs) (hy : Sl RTerm 3 w B ys) :
    Calls Tryz.prog 80 #[.slice A xs.length c, .slice B ys.length d] w (EqPost (xs = ys) w) := by
  go_enter Tryz.func80, Tryz.ntmps80
  go_wp2_with fail
  refine (efTerm_any A B c d xs ys w hn hm hx hy).mono ?_
  rintro e w2 ⟨b, rfl, hb, he⟩
  have FIN : Hid (EqPost (xs = ys) w (.returned (.bool b)) w2) := ⟨b, rfl, hb, he⟩
  clear hb he
  go_wp2_with fail
  go_ret
  exact FIN.out
end Go.Proofs.YthfafenigjldlaaGreat

/-
  Two amounts compared.
-/
namespace Go.Proofs.YthfafenigjldlaaGreat
open Go.RowKit
set_option linter.unusedVariables false

theorem equal_res (a b c a' b' c' : Int) (w : World) : (Op.equalIn 10000 56 (.agg #[.int .i64 a, .int .i64 b, .int .i64 c]) (.agg #[.int .i64 a', .int .i64 b', .int .i64 c'])).run Tryz.prog w = .ok (a == a' && b == b' && c == c') w := by
  have u3 := Tryz.underlying2
  have a3 := Tryz.isAgg2
  have z3 := Tryz.sizeOf2
  rw [show (10000 : Nat) = 9999 + 1 from rfl, Op.equalIn]
  simp only [Sem.run_bind, run_underlying Tryz.underlying56, Result.andThen_ok]
  simp only [Std.Legacy.Range.forIn_eq_forIn_range', Std.Legacy.Range.size, Nat.sub_zero, Nat.add_sub_cancel, Nat.div_one, List.range'_succ, List.range'_zero, List.forIn_cons, List.forIn_nil]
  go_simp
  by_cases h1 : a = a' <;> by_cases h2 : b = b' <;> by_cases h3 : c = c' <;> simp [h1, h2, h3]
theorem neq_res (a b c a' b' c' : Int) (w : World) : (binOp .neq 56 (.agg #[.int .i64 a, .int .i64 b, .int .i64 c]) (.agg #[.int .i64 a', .int .i64 b', .int .i64 c'])).run Tryz.prog w = .ok (.bool (!(a == a' && b == b' && c == c'))) w := by
  rw [run_neq_struct, equal_res]; rfl
theorem eql_res (a b c a' b' c' : Int) (w : World) : (binOp .eql 56 (.agg #[.int .i64 a, .int .i64 b, .int .i64 c]) (.agg #[.int .i64 a', .int .i64 b', .int .i64 c'])).run Tryz.prog w = .ok (.bool (a == a' && b == b' && c == c')) w := by
  rw [run_eql_struct, equal_res]; rfl
end Go.Proofs.YthfafenigjldlaaGreat
