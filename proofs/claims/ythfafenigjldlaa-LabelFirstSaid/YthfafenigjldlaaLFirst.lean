/-
  'interrexlaw1.LabelFirst': the walk.
-/
import Derived.Test.YthfafenigjldlaaApp1
namespace Go.Proofs.Ythfafenigjldlaa
open Go.RowKit
set_option linter.unusedVariables false

set_option maxRecDepth 20000 in
set_option maxHeartbeats 8000000 in
theorem labelFirst_any (HBA : Hid (∀ w : World, Calls Try.prog 10 #[] w fun e w' => e = .returned (.bool true) ∧ Ext w w')) (A : Option Addr) (c : Nat) (l : List Pr) (key a b : ByteArray) (w : World)
    (hl : l.length ≤ c) (hc : c ≤ maxLen) (hA : Sl RPair 2 w A l) (hk : okS key) (ha : okS a) (hb : okS b) :
    Calls Try.prog 6 #[.slice A l.length c, .string key, .string a, .string b] w fun e w' => e = .returned (.bool true) ∧ Ext w w' := by
  obtain ⟨i0, hi0, hz0, hz1, hz2⟩ := info_parts pair_info
  obtain ⟨n, n1, n2, N, mn⟩ := min_lit (P := Try.prog) l.length 5 5 rfl
  have HL : Hid ((l.take 5).length = n) := by show _ = _; rw [List.length_take, N.out]; omega
  obtain ⟨CL, kl, fl⟩ := (hA.take 5).cells
  have ol := kl.oneCell RPair.one
  have SL := Lib.hid (hA.take 5)
  rw [HL.out] at fl
  obtain ⟨L, hL⟩ : ∃ L, L = l.take 5 := ⟨_, rfl⟩
  rw [← hL] at HL kl SL
  have hc' := hc
  unfold maxLen at hc'
  have hM : n + 2 ≤ maxLen := by unfold maxLen; omega
  have HM0 : Hid (n ≤ maxLen) := by show _ ≤ _; omega
  have HM1 : Hid (n + 1 ≤ maxLen) := by show _ ≤ _; omega
  have HM2 : Hid (1 + (n + 1) ≤ maxLen) := by show _ ≤ _; omega
  have KL := Lib.hid kl
  have FL := Lib.hid fl
  have OL := Lib.hid ol
  have HXA : Hid (∀ w, RPair w [.string key, .string a] ⟨key, a⟩) := fun w => ⟨rfl, hk, ha⟩
  have HXB : Hid (∀ w, RPair w [.string key, .string b] ⟨key, b⟩) := fun w => ⟨rfl, hk, hb⟩
  obtain ⟨sm, hsm⟩ : ∃ s, s = getB L key := ⟨_, rfl⟩
  obtain ⟨v2, hv2⟩ : ∃ s, s = getV L key := ⟨_, rfl⟩
  obtain ⟨v3, hv3⟩ : ∃ s, s = getV (L ++ [⟨key, b⟩]) key := ⟨_, rfl⟩
  have G1 : Hid (getV (⟨key, a⟩ :: (L ++ [⟨key, b⟩])) key = a ∧ getB (⟨key, a⟩ :: (L ++ [⟨key, b⟩])) key = true ∧ mayPairs (⟨key, a⟩ :: (L ++ [⟨key, b⟩])) = false) := ⟨(first_get L key a b).1, (first_get L key a b).2, first_may L key a b⟩
  have G2 : Hid (getV L key = v2 ∧ getB L key = sm) := ⟨hv2.symm, hsm.symm⟩
  have G3 : Hid (getV (L ++ [⟨key, b⟩]) key = v3 ∧ getB (L ++ [⟨key, b⟩]) key = true ∧ (sm = false → v3 = b)) := ⟨hv3.symm, (first_end L key b).1, fun h => by rw [hv3]; exact (first_end L key b).2 (by rw [← hsm]; exact h)⟩
  obtain ⟨M, hMM⟩ : ∃ M, M = (⟨key, a⟩ :: (L ++ [⟨key, b⟩]) : List Pr) := ⟨_, rfl⟩
  obtain ⟨M2, hM2⟩ : ∃ M, M = (L ++ [⟨key, b⟩] : List Pr) := ⟨_, rfl⟩
  rw [← hMM] at G1
  rw [← hM2] at G3
  have HMM := Lib.hid hMM
  have HM22 := Lib.hid hM2
  clear hL kl fl ol N hA hc hsm hv2 hv3 hMM hM2 hM hk ha hb
  go_enter Try.func6, Try.ntmps6
  go_wp2_with fail
  refine (HBA.out _).mono ?_
  rintro e w1 ⟨rfl, E⟩
  have E0 := Lib.hid E
  clear E
  obtain ⟨W1, hW1⟩ : ∃ W, w1.alloc (.cells #[.string key, .string a] 34) = W := ⟨_, rfl⟩
  have O1 : Hid (W1.ownsRow w1.heap.size 34 2 (.slice (some ⟨w1.heap.size, 0, none⟩) 1 1) 1 [.string key, .string a]) := by rw [← hW1]; exact World.ownsRow_lit w1 #[.string key, .string a] 1 (Nat.le_refl _) (by simp [maxLen]) rfl
  have X1 : Hid (Ext w1 W1) := by rw [← hW1]; exact (Ext.refl _).alloc _
  have ON := Lib.hid (nil_own W1 W1.heap.size 34 2)
  go_wp2_with (first
    | (at_builtin
       refine wpList_append_flat _ rfl _ (.tmp 29) 25 rfl W1.heap.size 34 i0 _ 2 32 Try.underlying25 hi0 hz0 hz1 hz2 rfl (by decide) _ _ _ rfl ON.out A n c CL rfl (FL.out.ext (E0.out.trans X1.out)) OL.out (by unfold maxLen; omega) (by omega) (by simp) ?_
       intro A2 c2 w2 o2 g2
       rw [Nat.zero_add, List.nil_append] at o2
       rw [Nat.zero_add]
       obtain ⟨W3, hW3⟩ : ∃ W, w2.alloc (.cells #[.string key, .string b] 34) = W := ⟨_, rfl⟩
       have O2 := Lib.hid o2
       have Y2 := Lib.hid g2
       have X3 : Hid (Ext w2 W3) := by rw [← hW3]; exact (Ext.refl _).alloc _
       have F3 : Hid (Flat W3 2 (some ⟨w2.heap.size, 0, none⟩) 1 [.string key, .string b]) := by rw [← hW3]; exact flat_new w2 34 2 1 #[.string key, .string b] rfl
       have S3 : Hid (W1.heap.size ≤ W3.heap.size) := Nat.le_trans g2.size X3.out.size
       clear o2 g2)
    | (at_builtin
       refine wpList_append_flat _ rfl (.tmp 30) (.tmp 34) 25 rfl W1.heap.size 34 i0 _ 2 32 Try.underlying25 hi0 hz0 hz1 hz2 rfl (by decide) _ _ _ rfl (own_ext O2.out X3.out) _ 1 1 _ rfl F3.out (by simp [Value.oneCell']) (by unfold maxLen; omega) (by omega) S3.out ?_
       intro A4 c4 w4 o4 g4
       have R4 := Lib.hid (app_one RPair.keeps HL.out (KL.out.ext RPair.keeps (E0.out.trans X1.out)) rfl HXB.out O2.out Y2.out X3.out o4 g4)
       have S4 : Hid (w1.heap.size ≤ w4.heap.size) := Nat.le_trans X1.out.size R4.out.1.size
       clear o4 g4)
    | (at_builtin
       refine wpList_append_flat _ rfl (.tmp 28) (.tmp 35) 25 rfl w1.heap.size 34 i0 _ 2 32 Try.underlying25 hi0 hz0 hz1 hz2 rfl (by decide) _ _ _ rfl (own_ext O1.out R4.out.1) A4 (n + 1) c4 _ rfl R4.out.2.2.2.2.1 (R4.out.2.2.2.2.2.oneCell RPair.one) (by unfold maxLen; omega) (by omega) S4.out ?_
       intro A5 c5 w5 o5 g5
       have X5 : Hid (Ext w1 w5) := ext_grown (X1.out.trans R4.out.1) (own_ext O1.out R4.out.1) (Nat.le_refl _) g5
       have Z5 : Hid (Ext w1 w5 ∧ Sl RPair 2 w5 A5 M) := ⟨X5.out, by rw [HMM.out]; exact own_sl o5 (by simp [HL.out]; omega) ((Cells.one (HXA.out w5) rfl).app ((KL.out.ext RPair.keeps (E0.out.trans X5.out)).app (Cells.one (HXB.out w5) rfl)))⟩
       clear o5 g5))
  have LM : Hid (M.length = 1 + (n + 1)) := by show _ = _; rw [HMM.out]; simp [HL.out]; omega
  have LM2 : Hid (M2.length = n + 1) := by show _ = _; rw [HM22.out]; simp [HL.out]
  refine (get_len A5 c5 M _ key _ LM.out HM2.out Z5.out.2).mono ?_
  rintro e w6 ⟨rfl, e6⟩
  rw [G1.out.1, G1.out.2.1]
  have E6 := Lib.hid ((E0.out.trans Z5.out.1).trans e6)
  have Z6 := Lib.hid (Z5.out.2.ext RPair.keeps e6)
  clear e6
  go_wp2_with fail
  refine (get_len A c L _ key _ HL.out HM0.out (SL.out.ext RPair.keeps E6.out)).mono ?_
  rintro e w7 ⟨rfl, e7⟩
  rw [G2.out.1, G2.out.2]
  have E7 := Lib.hid (E6.out.trans e7)
  have Z7 := Lib.hid (Z6.out.ext RPair.keeps e7)
  have ON7 := Lib.hid (nil_own w7 w7.heap.size 34 2)
  clear e7
  go_wp2_with (first
    | (at_builtin
       refine wpList_append_flat _ rfl _ (.tmp 50) 25 rfl w7.heap.size 34 i0 _ 2 32 Try.underlying25 hi0 hz0 hz1 hz2 rfl (by decide) _ _ _ rfl ON7.out A n c CL rfl (FL.out.ext E7.out) OL.out (by unfold maxLen; omega) (by omega) (by simp) ?_
       intro A8 c8 w8 o8 g8
       rw [Nat.zero_add, List.nil_append] at o8
       rw [Nat.zero_add]
       obtain ⟨W9, hW9⟩ : ∃ W, w8.alloc (.cells #[.string key, .string b] 34) = W := ⟨_, rfl⟩
       have O8 := Lib.hid o8
       have Y8 := Lib.hid g8
       have X9 : Hid (Ext w8 W9) := by rw [← hW9]; exact (Ext.refl _).alloc _
       have F9 : Hid (Flat W9 2 (some ⟨w8.heap.size, 0, none⟩) 1 [.string key, .string b]) := by rw [← hW9]; exact flat_new w8 34 2 1 #[.string key, .string b] rfl
       have S9 : Hid (w7.heap.size ≤ W9.heap.size) := Nat.le_trans g8.size X9.out.size
       clear o8 g8)
    | (at_builtin
       refine wpList_append_flat _ rfl (.tmp 51) (.tmp 55) 25 rfl w7.heap.size 34 i0 _ 2 32 Try.underlying25 hi0 hz0 hz1 hz2 rfl (by decide) _ _ _ rfl (own_ext O8.out X9.out) _ 1 1 _ rfl F9.out (by simp [Value.oneCell']) (by unfold maxLen; omega) (by omega) S9.out ?_
       intro A10 c10 w10 o10 g10
       have R10 := Lib.hid (app_one RPair.keeps HL.out (KL.out.ext RPair.keeps E7.out) rfl HXB.out O8.out Y8.out X9.out o10 g10)
       clear o10 g10))
  have SM2 : Hid (Sl RPair 2 w10 A10 M2) := by show Sl _ _ _ _ _; rw [HM22.out]; exact R10.out.2.1
  refine (get_len A10 c10 M2 _ key _ LM2.out HM1.out SM2.out).mono ?_
  rintro e w11 ⟨rfl, e11⟩
  rw [G3.out.1, G3.out.2.1]
  have E11 := Lib.hid ((E7.out.trans R10.out.1).trans e11)
  have Z11 := Lib.hid (Z7.out.ext RPair.keeps (R10.out.1.trans e11))
  clear e11
  cases sm
  · have hv : v3 = b := G3.out.2.2 rfl
    subst hv
    go_wp2_with fail
    refine (may_len A5 c5 M _ _ LM.out HM2.out Z11.out).mono ?_
    rintro e w12 ⟨rfl, e12⟩
    rw [G1.out.2.2]
    have E12 := Lib.hid (E11.out.trans e12)
    clear e12
    go_wp2_with fail
    go_ret
    exact ⟨rfl, E12.out⟩
  · go_wp2_with fail
    refine (may_len A5 c5 M _ _ LM.out HM2.out Z11.out).mono ?_
    rintro e w12 ⟨rfl, e12⟩
    rw [G1.out.2.2]
    have E12 := Lib.hid (E11.out.trans e12)
    clear e12
    go_wp2_with fail
    go_ret
    exact ⟨rfl, E12.out⟩
end Go.Proofs.Ythfafenigjldlaa
