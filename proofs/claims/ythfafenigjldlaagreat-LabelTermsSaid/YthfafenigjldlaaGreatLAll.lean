/-
  'interrexlaw1.LabelAll': the walk.
-/
import Derived.Test.YthfafenigjldlaaGreatRef1
import Derived.Test.YthfafenigjldlaaGreatApp1
namespace Go.Proofs.YthfafenigjldlaaGreat
open Go.RowKit
set_option linter.unusedVariables false

theorem okS_extract (s : ByteArray) (a b : Nat) (h : okS s) : okS (s.extract a b) := by
  unfold okS at *
  rw [ByteArray.size_extract]
  omega
theorem rLabel_len (A : Option Addr) (c : Nat) (xs : List Pr) (n : Nat) (key : ByteArray) (w : World) (hl : xs.length = n) (hn : n ≤ maxLen) (hx : Sl RPair 2 w A xs) :
    Calls Tryz.prog 20 #[.slice A n c, .string key] w fun e w' => e = .returned (.tuple #[.string (getV xs key), .bool (getB xs key)]) ∧ Ext w w' := by
  subst hl
  exact rLabel_any A c xs key w hn hx
theorem rMayPairs_len (A : Option Addr) (c : Nat) (xs : List Pr) (n : Nat) (w : World) (hl : xs.length = n) (hn : n ≤ maxLen) (hx : Sl RPair 2 w A xs) :
    Calls Tryz.prog 24 #[.slice A n c] w fun e w' => e = .returned (.bool (mayPairs xs)) ∧ Ext w w' := by
  subst hl
  exact rMayPairs_any A c xs w hn hx
theorem mayTerms_len (A : Option Addr) (c : Nat) (xs : List Tm) (n : Nat) (w : World) (hl : xs.length = n) (hn : n ≤ maxLen) (hx : Sl RTerm 3 w A xs) :
    Calls Tryz.prog 25 #[.slice A n c] w fun e w' => e = .returned (.bool (mayTermsB xs)) ∧ Ext w w' := by
  subst hl
  exact mayTerms_any A c xs w hn hx
theorem rMayTerms_len (A : Option Addr) (c : Nat) (xs : List Tm) (n : Nat) (w : World) (hl : xs.length = n) (hn : n ≤ maxLen) (hx : Sl RTerm 3 w A xs) :
    Calls Tryz.prog 26 #[.slice A n c] w fun e w' => e = .returned (.bool (mayTermsB xs)) ∧ Ext w w' := by
  subst hl
  exact rMayTerms_any A c xs w hn hx
theorem rMatch_len (X : Option Addr) (c : Nat) (ts : List Tm) (B : Option Addr) (d : Nat) (l : List Pr) (a b : Nat) (w : World) (ha : ts.length = a) (hb : l.length = b) (hn : a ≤ maxLen) (hx : Sl RTerm 3 w X ts) (h6 : b ≤ maxLen) (h7 : Sl RPair 2 w B l) :
    Calls Tryz.prog 28 #[.slice X a c, .slice B b d] w fun e w' => e = .returned (.bool (matchB ts l)) ∧ Ext w w' := by
  subst ha hb
  exact rMatch_any X c ts B d l w hn hx h6 h7

set_option maxRecDepth 20000 in
set_option maxHeartbeats 4000000 in
theorem labelAll_any (HBA : Hid (∀ w : World, Calls Tryz.prog 17 #[] w fun e w' => e = .returned (.bool true) ∧ Ext w w')) (s : ByteArray) (A : Option Addr) (c : Nat) (l : List Pr) (B : Option Addr) (d : Nat) (ts : List Tm) (key : ByteArray) (w : World)
    (hs : okS s) (hl : l.length ≤ c) (hc : c ≤ maxLen) (hA : Sl RPair 2 w A l) (hv : ts.length ≤ d) (hd : d ≤ maxLen) (hB : Sl RTerm 3 w B ts) (hk : okS key) :
    Calls Tryz.prog 3 #[.string s, .slice A l.length c, .slice B ts.length d, .string key] w fun e w' => e = .returned (.bool true) ∧ Ext w w' := by
  obtain ⟨n, n1, n2, N, mn⟩ := min_lit (P := Tryz.prog) l.length 9 9 rfl
  obtain ⟨m, m1, m2, M, mm⟩ := min_lit (P := Tryz.prog) ts.length 9 9 rfl
  have HL : Hid ((l.take 9).length = n) := by show _ = _; rw [List.length_take, N.out]; omega
  have HM : Hid ((ts.take 9).length = m) := by show _ = _; rw [List.length_take, M.out]; omega
  have SL := Lib.hid (hA.take 9)
  have SM := Lib.hid (hB.take 9)
  obtain ⟨L, hL⟩ : ∃ L, L = l.take 9 := ⟨_, rfl⟩
  obtain ⟨T, hT⟩ : ∃ L, L = ts.take 9 := ⟨_, rfl⟩
  rw [← hL] at HL SL
  rw [← hT] at HM SM
  obtain ⟨S, hS⟩ : ∃ S, S = s.extract 0 (min s.size 20) := ⟨_, rfl⟩
  have OS : Hid (okS S) := by rw [hS]; exact okS_extract _ _ _ hs
  have HT : Hid (∀ w, Calls Tryz.prog 18 #[.string s, .int .i64 20] w fun e w' => e = .returned (.string S) ∧ w = w') := fun w => by rw [hS]; exact text_any s 20 20 rfl w hs
  have hc' := hc
  have hd' := hd
  unfold maxLen at hc' hd'
  have HM0 : Hid (n ≤ maxLen) := by show _ ≤ _; unfold maxLen; omega
  have HM1 : Hid (m ≤ maxLen) := by show _ ≤ _; unfold maxLen; omega
  have hnc : n ≤ c := by omega
  have hmd : m ≤ d := by omega
  clear hL hT hS N M hA hB hc hd hs hk
  go_enter Tryz.func3, Tryz.ntmps3
  go_wp2_with fail
  refine (HBA.out _).mono ?_
  rintro e w1 ⟨rfl, a1⟩
  have E1 := Lib.hid a1.drew
  clear a1
  go_wp2_with fail
  go_region_law (go_simp; go_at_call 18; refine (HT.out _).mono ?_; rintro e wq ⟨rfl, rfl⟩)
  all_goals (
    go_wp2_with fail
    refine (get_len A c L n key _ HL.out HM0.out (SL.out.ext RPair.keeps E1.out)).mono ?_
    rintro e w2 ⟨rfl, e2⟩
    have E2 := Lib.hid (E1.out.trans e2)
    clear e2
    go_wp2_with fail
    refine (rLabel_len A c L n key _ HL.out HM0.out (SL.out.ext RPair.keeps E2.out)).mono ?_
    rintro e w3 ⟨rfl, e3⟩
    have E3 := Lib.hid (E2.out.trans e3)
    clear e3
    go_wp2_with fail
    refine (name_any S _ OS.out).mono ?_
    rintro e wq ⟨rfl, rfl⟩
    go_wp2_with fail
    refine (rName_any S _ OS.out).mono ?_
    rintro e wq ⟨rfl, rfl⟩
    go_wp2_with fail
    refine (may_len A c L n _ HL.out HM0.out (SL.out.ext RPair.keeps E3.out)).mono ?_
    rintro e w4 ⟨rfl, e4⟩
    have E4 := Lib.hid (E3.out.trans e4)
    clear e4
    go_wp2_with fail
    refine (rMayPairs_len A c L n _ HL.out HM0.out (SL.out.ext RPair.keeps E4.out)).mono ?_
    rintro e w5 ⟨rfl, e5⟩
    have E5 := Lib.hid (E4.out.trans e5)
    clear e5
    go_wp2_with fail
    refine (mayTerms_len B d T m _ HM.out HM1.out (SM.out.ext RTerm.keeps E5.out)).mono ?_
    rintro e w6 ⟨rfl, e6⟩
    have E6 := Lib.hid (E5.out.trans e6)
    clear e6
    go_wp2_with fail
    refine (rMayTerms_len B d T m _ HM.out HM1.out (SM.out.ext RTerm.keeps E6.out)).mono ?_
    rintro e w7 ⟨rfl, e7⟩
    have E7 := Lib.hid (E6.out.trans e7)
    clear e7
    go_wp2_with fail
    refine (match_len B d T A c L m n _ HM.out HL.out HM1.out (SM.out.ext RTerm.keeps E7.out) HM0.out (SL.out.ext RPair.keeps E7.out)).mono ?_
    rintro e w8 ⟨rfl, e8⟩
    have E8 := Lib.hid (E7.out.trans e8)
    clear e8
    go_wp2_with fail
    refine (rMatch_len B d T A c L m n _ HM.out HL.out HM1.out (SM.out.ext RTerm.keeps E8.out) HM0.out (SL.out.ext RPair.keeps E8.out)).mono ?_
    rintro e w9 ⟨rfl, e9⟩
    have E9 := Lib.hid (E8.out.trans e9)
    clear e9
    go_wp2_with fail
    go_ret
    exact ⟨ret_bool (by simp), E9.out⟩)
end Go.Proofs.YthfafenigjldlaaGreat
