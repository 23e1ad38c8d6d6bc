/-
  'interrexlaw1.LabelOther': the walk and the plain law.
-/
import Derived.Test.YthfafenigjldlaaLabel3
import Derived.Test.YthfafenigjldlaaGet5
namespace Go.Proofs.Ythfafenigjldlaa
open Go.RowKit
set_option linter.unusedVariables false

theorem Sl.take {α : Type} {R : World → List Value → α → Prop} {size : Nat} {w : World} {A : Option Addr} {xs : List α} (h : Sl R size w A xs) (n : Nat) : Sl R size w A (xs.take n) := by
  intro k x hx
  rw [List.getElem?_take] at hx
  split at hx
  · exact h k x hx
  · cases hx
theorem sl_term1 (W : World) (b : Nat) (key : ByteArray) (kind : Int) (vals : List ByteArray) (B : Option Addr) (d : Nat) (h1 : okS key) (h2 : inI kind) (h3 : vals.length ≤ d) (h4 : d ≤ maxLen) (h5 : Sl RStr 1 W B vals)
    (hb : WB W b 29 #[.string key, .int .i64 kind, .slice B vals.length d]) : Sl RTerm 3 W (some ⟨b, 0, none⟩) [⟨key, kind, vals⟩] := by
  intro k p hp
  match k, hp with
  | 0, hp => obtain rfl : (⟨key, kind, vals⟩ : Tm) = p := by simpa using hp
             exact ⟨_, 0, [_, _, _], rfl, rfl, fun j u hu => by match j, hu with | 0, hu => (injection hu with hu; subst hu; exact hb.cell (i := 0) rfl) | 1, hu => (injection hu with hu; subst hu; exact hb.cell (i := 1) rfl) | 2, hu => (injection hu with hu; subst hu; exact hb.cell (i := 2) rfl), B, d, rfl, h1, h2, h3, h4, h5⟩
  | k + 1, hp => simp at hp
theorem match_one (t : Tm) (l : List Pr) : matchB [t] l = holdsB t l := by simp [matchB]

theorem match_len (X : Option Addr) (c : Nat) (ts : List Tm) (B : Option Addr) (d : Nat) (l : List Pr) (a b : Nat) (w : World) (ha : ts.length = a) (hb : l.length = b) (hn : a ≤ maxLen) (hx : Sl RTerm 3 w X ts) (h6 : b ≤ maxLen) (h7 : Sl RPair 2 w B l) :
    Calls Try.prog 12 #[.slice X a c, .slice B b d] w fun e w' => e = .returned (.bool (matchB ts l)) ∧ Ext w w' := by
  subst ha hb
  exact match_any X c ts B d l w hn hx h6 h7
theorem sl_term2 (W : World) (b : Nat) (key : ByteArray) (kind : Int) (vals : List ByteArray) (B : Option Addr) (d n : Nat) (hn : vals.length = n) (h1 : okS key) (h2 : inI kind) (h3 : n ≤ d) (h4 : d ≤ maxLen) (h5 : Sl RStr 1 W B vals)
    (hb : WB W b 29 #[.string key, .int .i64 kind, .slice B n d]) : Sl RTerm 3 W (some ⟨b, 0, none⟩) [⟨key, kind, vals⟩] := by
  subst hn
  exact sl_term1 W b key kind vals B d h1 h2 h3 h4 h5 hb

set_option maxRecDepth 20000 in
set_option maxHeartbeats 8000000 in
theorem labelOther_any (HBA : Hid (∀ w : World, Calls Try.prog 10 #[] w fun e w' => e = .returned (.bool true) ∧ Ext w w')) (A : Option Addr) (c : Nat) (l : List Pr) (key : ByteArray) (B : Option Addr) (d : Nat) (vals : List ByteArray) (w : World)
    (hl : l.length ≤ c) (hc : c ≤ maxLen) (hA : Sl RPair 2 w A l) (hk : okS key) (hv : vals.length ≤ d) (hd : d ≤ maxLen) (hB : Sl RStr 1 w B vals) :
    Calls Try.prog 4 #[.slice A l.length c, .string key, .slice B vals.length d] w fun e w' => e = .returned (.bool true) ∧ Ext w w' := by
  have HA : Hid (∀ wx, Ext w wx → Sl RPair 2 wx A (l.take 6)) := fun wx e => (hA.take 6).ext RPair.keeps e
  have HB : Hid (∀ wx, Ext w wx → Sl RStr 1 wx B (vals.take 6)) := fun wx e => (hB.take 6).ext RStr.keeps e
  have OI : Hid (∀ x : Int, 0 ≤ x → x ≤ 10 → inI x) := fun x h1 h2 => ⟨by omega, by omega⟩
  obtain ⟨L, hL⟩ : ∃ L, L = l.take 6 := ⟨_, rfl⟩
  obtain ⟨V, hV⟩ : ∃ V, V = vals.take 6 := ⟨_, rfl⟩
  rw [← hL] at HA
  rw [← hV] at HB
  have HLL : Hid (∀ n, n = min l.length 6 → L.length = n) := fun n h => by rw [hL, List.length_take]; omega
  have HVL : Hid (∀ n, n = min vals.length 6 → V.length = n) := fun n h => by rw [hV, List.length_take]; omega
  clear hL hV
  obtain ⟨g, hg⟩ : ∃ g, g = getB L key := ⟨_, rfl⟩
  obtain ⟨mm, hmm⟩ : ∃ g, g = memS V (getV L key) := ⟨_, rfl⟩
  have V1 : Hid (matchB [⟨key, 1, V⟩] L = (g && mm)) := by show _ = _; rw [match_one, hg, hmm]; rfl
  have V2 : Hid (matchB [⟨key, 2, V⟩] L = !(g && mm)) := by show _ = _; rw [match_one, hg, hmm]; rfl
  have V3 : Hid (matchB [⟨key, 3, []⟩] L = g) := by show _ = _; rw [match_one, hg]; rfl
  have V4 : Hid (matchB [⟨key, 4, []⟩] L = !g) := by show _ = _; rw [match_one, hg]; rfl
  have V9 : Hid (matchB [⟨key, 9, []⟩] L = false) := by show _ = _; rw [match_one]; rfl
  have V0 : Hid (matchB [] L = true) := rfl
  clear hg hmm
  have hc' := hc
  have hd' := hd
  unfold maxLen at hc' hd'
  have HM1 : Hid ((1 : Nat) ≤ maxLen) := by simp [Hid, maxLen]
  have HM0 : Hid ((0 : Nat) ≤ maxLen) := Nat.zero_le _
  have HC := Lib.hid hc
  have HD := Lib.hid hd
  have HK := Lib.hid hk
  clear hA hB hc hd hk
  cases g <;> cases mm
  all_goals (
    simp only [Bool.and_true, Bool.and_false, Bool.not_true, Bool.not_false] at V1 V2 V3 V4
    go_enter Try.func4, Try.ntmps4
    go_wp2_with fail
    refine (HBA.out _).mono ?_
    rintro e w1 ⟨rfl, E⟩
    go_wp2_with fail
    go_region
    all_goals go_wp2_with fail
    all_goals (
      have E1 : ∀ o, Ext w (w1.alloc o).drew := fun o => (E.alloc o).drew
      refine (match_len (some ⟨w1.heap.size, 0, none⟩) 1 [⟨key, 1, V⟩] A c L _ _ _ rfl (HLL.out _ (by omega)) HM1.out (sl_term2 _ _ _ _ V B d _ (HVL.out _ (by omega)) HK.out (OI.out _ (by decide) (by decide)) (by omega) HD.out (HB.out _ (E1 _)) (WB.new w1 _ _).drew) (Nat.le_trans (by omega) HC.out) (HA.out _ (E1 _))).mono ?_
      rintro e w2 ⟨rfl, e2⟩
      rw [V1.out]
      have F2 := (E1 _).trans e2
      clear E E1 e2
      go_wp2_with fail
      have G2 : ∀ o, Ext w (w2.alloc o) := fun o => F2.alloc o
      refine (match_len (some ⟨w2.heap.size, 0, none⟩) 1 [⟨key, 2, V⟩] A c L _ _ _ rfl (HLL.out _ (by omega)) HM1.out (sl_term2 _ _ _ _ V B d _ (HVL.out _ (by omega)) HK.out (OI.out _ (by decide) (by decide)) (by omega) HD.out (HB.out _ (G2 _)) (WB.new w2 _ _)) (Nat.le_trans (by omega) HC.out) (HA.out _ (G2 _))).mono ?_
      rintro e w3 ⟨rfl, e3⟩
      rw [V2.out]
      have F3 := (G2 _).trans e3
      clear F2 G2 e3
      go_wp2_with fail
      have G3 : ∀ o, Ext w (w3.alloc o) := fun o => F3.alloc o
      refine (match_len (some ⟨w3.heap.size, 0, none⟩) 1 [⟨key, 3, []⟩] A c L _ _ _ rfl (HLL.out _ (by omega)) HM1.out (sl_term2 _ _ _ _ [] none 0 _ rfl HK.out (OI.out _ (by decide) (by decide)) (Nat.le_refl _) HM0.out Sl.nil (WB.new w3 _ _)) (Nat.le_trans (by omega) HC.out) (HA.out _ (G3 _))).mono ?_
      rintro e w4 ⟨rfl, e4⟩
      rw [V3.out]
      have F4 := (G3 _).trans e4
      clear F3 G3 e4
      go_wp2_with fail
      have G4 : ∀ o, Ext w (w4.alloc o) := fun o => F4.alloc o
      refine (match_len (some ⟨w4.heap.size, 0, none⟩) 1 [⟨key, 4, []⟩] A c L _ _ _ rfl (HLL.out _ (by omega)) HM1.out (sl_term2 _ _ _ _ [] none 0 _ rfl HK.out (OI.out _ (by decide) (by decide)) (Nat.le_refl _) HM0.out Sl.nil (WB.new w4 _ _)) (Nat.le_trans (by omega) HC.out) (HA.out _ (G4 _))).mono ?_
      rintro e w5 ⟨rfl, e5⟩
      rw [V4.out]
      have F5 := (G4 _).trans e5
      clear F4 G4 e5
      go_wp2_with fail
      refine (match_len none 0 [] A c L _ _ _ rfl (HLL.out _ (by omega)) HM0.out Sl.nil (Nat.le_trans (by omega) HC.out) (HA.out _ F5)).mono ?_
      rintro e w6 ⟨rfl, e6⟩
      rw [V0.out]
      have F6 := F5.trans e6
      clear F5 e6
      go_wp2_with fail
      have G6 : ∀ o, Ext w (w6.alloc o) := fun o => F6.alloc o
      refine (match_len (some ⟨w6.heap.size, 0, none⟩) 1 [⟨key, 9, []⟩] A c L _ _ _ rfl (HLL.out _ (by omega)) HM1.out (sl_term2 _ _ _ _ [] none 0 _ rfl HK.out (OI.out _ (by decide) (by decide)) (Nat.le_refl _) HM0.out Sl.nil (WB.new w6 _ _)) (Nat.le_trans (by omega) HC.out) (HA.out _ (G6 _))).mono ?_
      rintro e w7 ⟨rfl, e7⟩
      rw [V9.out]
      have F7 := Lib.hid ((G6 _).trans e7)
      clear F6 G6 e7
      go_wp2_with fail
      go_ret
      exact ⟨rfl, F7.out⟩))
end Go.Proofs.Ythfafenigjldlaa
