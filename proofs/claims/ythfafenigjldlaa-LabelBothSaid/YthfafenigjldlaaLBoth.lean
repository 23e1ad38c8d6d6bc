/-
  'interrexlaw1.LabelBoth': the walk and the plain law.
-/
import Derived.Test.YthfafenigjldlaaApp1
import Derived.Test.YthfafenigjldlaaPlain1
namespace Go.Proofs.Ythfafenigjldlaa
open Go.RowKit
set_option linter.unusedVariables false

/-- two lists of terms appended onto nothing -/
theorem both_step {W0 w2 w3 : World} {TA TB : List Tm} {CA CB : List Value} {A1 A2 : Option Addr} {na nb c1 c2 : Nat} (hA : TA.length = na) (hB : TB.length = nb) (ka : Cells RTerm 3 W0 TA CA) (kb : Cells RTerm 3 W0 TB CB)
    (o1 : w2.ownsRow W0.heap.size 29 3 (.slice A1 na c1) na CA) (g1 : W0.grownBy w2 (Value.slice none 0 0).ownBlock) (o2 : w3.ownsRow W0.heap.size 29 3 (.slice A2 (na + nb) c2) (na + nb) (CA ++ CB)) (g2 : w2.grownBy w3 (Value.slice A1 na c1).ownBlock) :
    Ext W0 w3 ∧ Sl RTerm 3 w3 A2 (TA ++ TB) := by
  have e1 : Ext W0 w2 := ext_grown (Ext.refl W0) (nil_own W0 W0.heap.size 29 3) (Nat.le_refl _) g1
  have e2 : Ext W0 w3 := ext_grown e1 o1 (Nat.le_refl _) g2
  exact ⟨e2, own_sl o2 (by rw [List.length_append, hA, hB]) ((ka.app kb).ext RTerm.keeps e2)⟩

set_option maxRecDepth 20000 in
set_option maxHeartbeats 8000000 in
theorem labelBoth_any (HBA : Hid (∀ w : World, Calls Try.prog 10 #[] w fun e w' => e = .returned (.bool true) ∧ Ext w w')) (A : Option Addr) (c : Nat) (l : List Pr) (B : Option Addr) (d : Nat) (ta : List Tm) (C : Option Addr) (f : Nat) (tb : List Tm) (w : World)
    (hl : l.length ≤ c) (hc : c ≤ maxLen) (hA : Sl RPair 2 w A l) (ha : ta.length ≤ d) (hd : d ≤ maxLen) (hB : Sl RTerm 3 w B ta) (hb : tb.length ≤ f) (hf : f ≤ maxLen) (hC : Sl RTerm 3 w C tb) :
    Calls Try.prog 5 #[.slice A l.length c, .slice B ta.length d, .slice C tb.length f] w fun e w' => e = .returned (.bool true) ∧ Ext w w' := by
  obtain ⟨i0, hi0, hz0, hz1, hz2⟩ := info_parts term_info
  obtain ⟨nl, nl1, nl2, NL, ml⟩ := min_lit (P := Try.prog) l.length 6 6 rfl
  obtain ⟨na, na1, na2, NA, ma⟩ := min_lit (P := Try.prog) ta.length 4 4 rfl
  obtain ⟨nb, nb1, nb2, NB, mb⟩ := min_lit (P := Try.prog) tb.length 4 4 rfl
  have HL : Hid ((l.take 6).length = nl) := by show _ = _; rw [List.length_take, NL.out]; omega
  have HTA : Hid ((ta.take 4).length = na) := by show _ = _; rw [List.length_take, NA.out]; omega
  have HTB : Hid ((tb.take 4).length = nb) := by show _ = _; rw [List.length_take, NB.out]; omega
  have SLL := Lib.hid (hA.take 6)
  obtain ⟨CA, ka, fa⟩ := (hB.take 4).cells
  obtain ⟨CB, kb, fb⟩ := (hC.take 4).cells
  have SA := Lib.hid (hB.take 4)
  have SB := Lib.hid (hC.take 4)
  have oa := ka.oneCell RTerm.one
  have ob := kb.oneCell RTerm.one
  rw [HTA.out] at fa
  rw [HTB.out] at fb
  obtain ⟨L, hL⟩ : ∃ L, L = l.take 6 := ⟨_, rfl⟩
  obtain ⟨TA, hTA⟩ : ∃ L, L = ta.take 4 := ⟨_, rfl⟩
  obtain ⟨TB, hTB⟩ : ∃ L, L = tb.take 4 := ⟨_, rfl⟩
  rw [← hL] at HL SLL
  rw [← hTA] at HTA ka SA
  rw [← hTB] at HTB kb SB
  have hd' := hd
  have hc' := hc
  have hf' := hf
  unfold maxLen at hd' hc' hf'
  have HML : Hid (nl ≤ maxLen) := by show _ ≤ _; omega
  have HMA : Hid (na ≤ maxLen) := by show _ ≤ _; omega
  have HMB : Hid (nb ≤ maxLen) := by show _ ≤ _; omega
  have HMC : Hid (na + nb ≤ maxLen) := by show _ ≤ _; unfold maxLen; omega
  have HMD : Hid (nb + na ≤ maxLen) := by show _ ≤ _; unfold maxLen; omega
  obtain ⟨x, hx⟩ : ∃ x, x = matchB TA L := ⟨_, rfl⟩
  obtain ⟨y, hy⟩ : ∃ x, x = matchB TB L := ⟨_, rfl⟩
  have V1 : Hid (matchB TA L = x) := hx.symm
  have V2 : Hid (matchB TB L = y) := hy.symm
  have V3 : Hid (matchB (TA ++ TB) L = (x && y)) := by show _ = _; rw [matchB_app, hx, hy]
  have V4 : Hid (matchB (TB ++ TA) L = (x && y)) := by show _ = _; rw [matchB_app, hx, hy, Bool.and_comm]
  have KA := Lib.hid ka
  have KB := Lib.hid kb
  have FA := Lib.hid fa
  have FB := Lib.hid fb
  have OA := Lib.hid oa
  have OB := Lib.hid ob
  clear hL hTA hTB hx hy ka kb fa fb oa ob NL NA NB hA hB hC hd hc hf
  go_enter Try.func5, Try.ntmps5
  go_wp2_with fail
  refine (HBA.out _).mono ?_
  rintro e w1 ⟨rfl, E⟩
  go_wp2_with fail
  go_region
  have E0 := Lib.hid E.drew
  clear E
  obtain ⟨W0, hW0⟩ : ∃ W, W = w1.drew := ⟨_, rfl⟩
  rw [← hW0] at E0 ⊢
  clear hW0
  have O0 := Lib.hid (nil_own W0 W0.heap.size 29 3)
  have F0 : Hid (∀ wx, Ext w wx → Flat wx 3 B na CA) := fun wx e => FA.out.ext e
  have G0 : Hid (∀ wx, Ext w wx → Flat wx 3 C nb CB) := fun wx e => FB.out.ext e
  go_wp2_with (first
    | (at_builtin
       refine wpList_append_flat _ rfl _ (.tmp 29) 30 rfl W0.heap.size 29 i0 _ 3 48 Try.underlying30 hi0 hz0 hz1 hz2 rfl (by decide) _ _ _ rfl O0.out B na d CA rfl (F0.out _ E0.out) OA.out (by unfold maxLen; omega) (by omega) (by simp) ?_
       intro A1 c1 w2 o1 g1
       rw [Nat.zero_add, List.nil_append] at o1
       rw [Nat.zero_add]
       have e1 : Ext W0 w2 := ext_grown (Ext.refl W0) O0.out (Nat.le_refl _) g1
       have Z1 := Lib.hid o1
       have Y1 := Lib.hid g1
       have X1 := Lib.hid e1
       have S1 : W0.heap.size ≤ w2.heap.size := e1.size
       clear o1 g1 e1)
    | (at_builtin
       refine wpList_append_flat _ rfl (.tmp 30) (.tmp 31) 30 rfl W0.heap.size 29 i0 _ 3 48 Try.underlying30 hi0 hz0 hz1 hz2 rfl (by decide) _ _ _ rfl Z1.out C nb f CB rfl (G0.out _ (E0.out.trans X1.out)) OB.out (by unfold maxLen; omega) (by omega) S1 ?_
       intro A2 c2 w3 o2 g2
       have R := Lib.hid (both_step HTA.out HTB.out (KA.out.ext RTerm.keeps E0.out) (KB.out.ext RTerm.keeps E0.out) Z1.out Y1.out o2 g2)
       have O3 := Lib.hid (nil_own w3 w3.heap.size 29 3)
       clear o2 g2)
    | (at_builtin
       refine wpList_append_flat _ rfl _ (.tmp 33) 30 rfl w3.heap.size 29 i0 _ 3 48 Try.underlying30 hi0 hz0 hz1 hz2 rfl (by decide) _ _ _ rfl O3.out C nb f CB rfl (G0.out _ (E0.out.trans R.out.1)) OB.out (by unfold maxLen; omega) (by omega) (by simp) ?_
       intro A3 c3 w4 o3 g3
       rw [Nat.zero_add, List.nil_append] at o3
       rw [Nat.zero_add]
       have e3 : Ext w3 w4 := ext_grown (Ext.refl w3) O3.out (Nat.le_refl _) g3
       have Z3 := Lib.hid o3
       have Y3 := Lib.hid g3
       have X3 := Lib.hid e3
       have S3 : w3.heap.size ≤ w4.heap.size := e3.size
       clear o3 g3 e3)
    | (at_builtin
       refine wpList_append_flat _ rfl (.tmp 34) (.tmp 35) 30 rfl w3.heap.size 29 i0 _ 3 48 Try.underlying30 hi0 hz0 hz1 hz2 rfl (by decide) _ _ _ rfl Z3.out B na d CA rfl (F0.out _ ((E0.out.trans R.out.1).trans X3.out)) OA.out (by unfold maxLen; omega) (by omega) S3 ?_
       intro A4 c4 w5 o4 g4
       have T := Lib.hid (both_step HTB.out HTA.out (KB.out.ext RTerm.keeps (E0.out.trans R.out.1)) (KA.out.ext RTerm.keeps (E0.out.trans R.out.1)) Z3.out Y3.out o4 g4)
       clear o4 g4))
  have E5 := Lib.hid ((E0.out.trans R.out.1).trans T.out.1)
  refine (match_len B d TA A c L na nl _ HTA.out HL.out HMA.out (SA.out.ext RTerm.keeps E5.out) HML.out (SLL.out.ext RPair.keeps E5.out)).mono ?_
  rintro e w6 ⟨rfl, e6⟩
  rw [V1.out]
  have E6 := Lib.hid (E5.out.trans e6)
  have T6 := Lib.hid (T.out.1.trans e6)
  have U6 := Lib.hid e6
  clear e6
  cases x
  · rw [Bool.false_and] at V3 V4
    go_wp2_with fail
    refine (match_len A2 c2 (TA ++ TB) A c L (na + nb) nl _ (by rw [List.length_append, HTA.out, HTB.out]) HL.out HMC.out (R.out.2.ext RTerm.keeps T6.out) HML.out (SLL.out.ext RPair.keeps E6.out)).mono ?_
    rintro e w7 ⟨rfl, e7⟩
    rw [V3.out]
    have E7 := Lib.hid (E6.out.trans e7)
    have U7 := Lib.hid (U6.out.trans e7)
    clear e7
    go_wp2_with fail
    refine (match_len A4 c4 (TB ++ TA) A c L (nb + na) nl _ (by rw [List.length_append, HTA.out, HTB.out]) HL.out HMD.out (T.out.2.ext RTerm.keeps U7.out) HML.out (SLL.out.ext RPair.keeps E7.out)).mono ?_
    rintro e w8 ⟨rfl, e8⟩
    rw [V4.out]
    have E8 := Lib.hid (E7.out.trans e8)
    clear e8
    go_wp2_with fail
    go_ret
    exact ⟨rfl, E8.out⟩
  · rw [Bool.true_and] at V3 V4
    go_wp2_with fail
    refine (match_len C f TB A c L nb nl _ HTB.out HL.out HMB.out (SB.out.ext RTerm.keeps E6.out) HML.out (SLL.out.ext RPair.keeps E6.out)).mono ?_
    rintro e w6 ⟨rfl, e6⟩
    rw [V2.out]
    have E6' := Lib.hid (E6.out.trans e6)
    have T6' := Lib.hid (T6.out.trans e6)
    have U6' := Lib.hid (U6.out.trans e6)
    clear e6
    cases y
    all_goals (
      go_wp2_with fail
      refine (match_len A2 c2 (TA ++ TB) A c L (na + nb) nl _ (by rw [List.length_append, HTA.out, HTB.out]) HL.out HMC.out (R.out.2.ext RTerm.keeps T6'.out) HML.out (SLL.out.ext RPair.keeps E6'.out)).mono ?_
      rintro e w7 ⟨rfl, e7⟩
      rw [V3.out]
      have E7 := Lib.hid (E6'.out.trans e7)
      have U7 := Lib.hid (U6'.out.trans e7)
      clear e7
      go_wp2_with fail
      refine (match_len A4 c4 (TB ++ TA) A c L (nb + na) nl _ (by rw [List.length_append, HTA.out, HTB.out]) HL.out HMD.out (T.out.2.ext RTerm.keeps U7.out) HML.out (SLL.out.ext RPair.keeps E7.out)).mono ?_
      rintro e w8 ⟨rfl, e8⟩
      rw [V4.out]
      have E8 := Lib.hid (E7.out.trans e8)
      clear e8
      go_wp2_with fail
      go_ret
      exact ⟨rfl, E8.out⟩)
end Go.Proofs.Ythfafenigjldlaa
