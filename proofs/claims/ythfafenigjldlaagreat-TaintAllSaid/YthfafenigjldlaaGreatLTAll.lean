/-
  'interrexlaw1.TaintAll': the walk.
-/
import Derived.Test.YthfafenigjldlaaGreatRef3
import Derived.Test.YthfafenigjldlaaGreatApp1
import Derived.Deep.RegionHeld3
import Derived.Deep.Cut
import Derived.Deep.CutRange
namespace Go.Proofs.YthfafenigjldlaaGreat
open Go.RowKit
set_option linter.unusedVariables false

theorem tMay_len (A : Option Addr) (c : Nat) (xs : List Pr) (n : Nat) (w : World) (hl : xs.length = n) (hn : n ≤ maxLen) (hx : Sl RPair 2 w A xs) :
    Calls Tryz.prog 31 #[.slice A n c] w fun e w' => e = .returned (.bool (mayPairs xs)) ∧ Ext w w' := by
  subst hl
  exact tMay_any A c xs w hn hx
theorem rMayTaints_len (A : Option Addr) (c : Nat) (xs : List Pr) (n : Nat) (w : World) (hl : xs.length = n) (hn : n ≤ maxLen) (hx : Sl RPair 2 w A xs) :
    Calls Tryz.prog 32 #[.slice A n c] w fun e w' => e = .returned (.bool (mayPairs xs)) ∧ Ext w w' := by
  subst hl
  exact rMayTaints_any A c xs w hn hx
theorem mayTols_len (A : Option Addr) (c : Nat) (xs : List Tl) (n : Nat) (w : World) (hl : xs.length = n) (hn : n ≤ maxLen) (hx : Sl RTol 3 w A xs) :
    Calls Tryz.prog 33 #[.slice A n c] w fun e w' => e = .returned (.bool (mayTolsB xs)) ∧ Ext w w' := by
  subst hl
  exact mayTols_any A c xs w hn hx
theorem rMayTols_len (A : Option Addr) (c : Nat) (xs : List Tl) (n : Nat) (w : World) (hl : xs.length = n) (hn : n ≤ maxLen) (hx : Sl RTol 3 w A xs) :
    Calls Tryz.prog 34 #[.slice A n c] w fun e w' => e = .returned (.bool (mayTolsB xs)) ∧ Ext w w' := by
  subst hl
  exact rMayTols_any A c xs w hn hx
theorem rBorne_len (A : Option Addr) (c : Nat) (tols : List Tl) (B : Option Addr) (d : Nat) (ts : List Pr) (n m : Nat) (w : World) (ha : tols.length = n) (hb : ts.length = m) (h1 : n ≤ maxLen) (h2 : Sl RTol 3 w A tols) (h3 : m ≤ maxLen) (h4 : Sl RPair 2 w B ts) :
    Calls Tryz.prog 36 #[.slice A n c, .slice B m d] w fun e w' => e = .returned (.bool (allB tols ts)) ∧ Ext w w' := by
  subst ha hb
  exact rBorne_any A c tols B d ts w h1 h2 h3 h4
theorem sl_tol1 (W : World) (b : Nat) (x y : ByteArray) (z : Bool) (h1 : okS x) (h2 : okS y) (hb : WB W b 52 #[.string x, .string y, .bool z]) : Sl RTol 3 W (some ⟨b, 0, none⟩) [⟨x, y, z⟩] := by
  intro k p hp
  match k, hp with
  | 0, hp => obtain rfl : (⟨x, y, z⟩ : Tl) = p := by simpa using hp
             exact ⟨_, 0, [_, _, _], rfl, rfl, fun j u hu => by match j, hu with | 0, hu => (injection hu with hu; subst hu; exact hb.cell (i := 0) rfl) | 1, hu => (injection hu with hu; subst hu; exact hb.cell (i := 1) rfl) | 2, hu => (injection hu with hu; subst hu; exact hb.cell (i := 2) rfl), rfl, h1, h2⟩
  | k + 1, hp => simp at hp
theorem all_none (tols : List Tl) : allB tols [] = true := rfl
theorem all_any1 (ts : List Pr) : allB [⟨⟨#[]⟩, ⟨#[]⟩, true⟩] ts = true := by
  unfold allB
  rw [List.all_eq_true]
  intro x _
  have : empS (⟨#[]⟩ : ByteArray) = true := empS_iff.2 rfl
  simp [bearsB, this]
theorem all_bare (ts : List Pr) : allB [] ts = decide (ts.length = 0) := by
  unfold allB
  cases ts with
  | nil => rfl
  | cons x r => simp

set_option maxRecDepth 20000 in
set_option maxHeartbeats 8000000 in
theorem taintAll_any (HBA : Hid (∀ w : World, Calls Tryz.prog 17 #[] w fun e w' => e = .returned (.bool true) ∧ Ext w w')) (B : Option Addr) (d : Nat) (ts : List Pr) (A : Option Addr) (c : Nat) (tl : List Tl) (w : World)
    (hv : ts.length ≤ d) (hd : d ≤ maxLen) (hB : Sl RPair 2 w B ts) (hl : tl.length ≤ c) (hc : c ≤ maxLen) (hA : Sl RTol 3 w A tl) :
    Calls Tryz.prog 8 #[.slice B ts.length d, .slice A tl.length c] w fun e w' => e = .returned (.bool true) ∧ Ext w w' := by
  obtain ⟨n, n1, n2, N, mn⟩ := min_lit (P := Tryz.prog) tl.length 9 9 rfl
  obtain ⟨m, m1, m2, M, mm⟩ := min_lit (P := Tryz.prog) ts.length 9 9 rfl
  have HL : Hid ((tl.take 9).length = n) := by show _ = _; rw [List.length_take, N.out]; omega
  have HM : Hid ((ts.take 9).length = m) := by show _ = _; rw [List.length_take, M.out]; omega
  have SL := Lib.hid (hA.take 9)
  have SM := Lib.hid (hB.take 9)
  obtain ⟨L, hL⟩ : ∃ L, L = tl.take 9 := ⟨_, rfl⟩
  obtain ⟨T, hT⟩ : ∃ L, L = ts.take 9 := ⟨_, rfl⟩
  rw [← hL] at HL SL
  rw [← hT] at HM SM
  have hc' := hc
  have hd' := hd
  unfold maxLen at hc' hd'
  have HM0 : Hid (n ≤ maxLen) := by show _ ≤ _; unfold maxLen; omega
  have HM1 : Hid (m ≤ maxLen) := by show _ ≤ _; unfold maxLen; omega
  have HMZ : Hid ((0 : Nat) ≤ maxLen) := Nat.zero_le _
  have HMI : Hid ((1 : Nat) ≤ maxLen) := by show _ ≤ _; unfold maxLen; omega
  have OZ : Hid (okS (⟨#[]⟩ : ByteArray)) := by show okS _; unfold okS maxLen; decide
  clear hL hT N M hA hB hc hd
  go_enter Tryz.func8, Tryz.ntmps8
  go_wp2_with fail
  refine (HBA.out _).mono ?_
  rintro e w1 ⟨rfl, a1⟩
  have E1 := Lib.hid (a1.drew)
  clear a1
  go_wp2_with fail
  go_region
  go_wp2_with fail
  refine (tMay_len B d T m _ HM.out HM1.out (SM.out.ext RPair.keeps E1.out)).mono ?_
  rintro e w2 ⟨rfl, e2⟩
  have E2 := Lib.hid (E1.out.trans e2)
  clear e2
  go_wp2_with fail
  refine (rMayTaints_len B d T m _ HM.out HM1.out (SM.out.ext RPair.keeps E2.out)).mono ?_
  rintro e w3 ⟨rfl, e3⟩
  have E3 := Lib.hid (E2.out.trans e3)
  clear e3
  go_wp2_with fail
  refine (mayTols_len A c L n _ HL.out HM0.out (SL.out.ext RTol.keeps E3.out)).mono ?_
  rintro e w4 ⟨rfl, e4⟩
  have E4 := Lib.hid (E3.out.trans e4)
  clear e4
  go_wp2_with fail
  refine (rMayTols_len A c L n _ HL.out HM0.out (SL.out.ext RTol.keeps E4.out)).mono ?_
  rintro e w5 ⟨rfl, e5⟩
  have E5 := Lib.hid (E4.out.trans e5)
  clear e5
  go_wp2_with fail
  refine (all_len A c L B d T n m _ HL.out HM.out HM0.out (SL.out.ext RTol.keeps E5.out) HM1.out (SM.out.ext RPair.keeps E5.out)).mono ?_
  rintro e w6 ⟨rfl, e6⟩
  have E6 := Lib.hid (E5.out.trans e6)
  clear e6
  go_wp2_with fail
  refine (rBorne_len A c L B d T n m _ HL.out HM.out HM0.out (SL.out.ext RTol.keeps E6.out) HM1.out (SM.out.ext RPair.keeps E6.out)).mono ?_
  rintro e w7 ⟨rfl, e7⟩
  have E7 := Lib.hid (E6.out.trans e7)
  clear e7 E1 E2 E3 E4 E5 E6
  go_wp2_with fail
  go_loopw [44] (fun i wr => ∃ k : Nat, k ≤ m ∧ i = .int .i64 k ∧ Ext w wr) (fun i _ => m - (intOf i).toNat)
  case atStart => exact ⟨0, by omega, rfl, E7.out⟩
  obtain ⟨k, hk, rfl, he⟩ := hrel
  have HE := Lib.hid he
  clear he E7
  by_cases hlt : k < m
  · obtain ⟨b, o, x, hB, hxk, ok1, ok2, c0, c1⟩ := (SM.out.ext RPair.keeps HE.out).pair (k := k) (by rw [HM.out]; exact hlt)
    have CX : Hid (∀ wx, Ext wr wx → wx.cell? ⟨b, o + k * 2, none⟩ = some (.string x.key) ∧ wx.cell? ⟨b, o + k * 2 + 1, none⟩ = some (.string x.val)) := fun wx e => ⟨e.cell c0, e.cell c1⟩
    have HW : Hid (Ext w wr) := HE.out
    subst hB
    clear hxk c0 c1
    obtain ⟨W9, hW9⟩ : ∃ W, W = wr := ⟨_, rfl⟩
    rw [← hW9] at CX HW ⊢
    clear hW9
    go_wp2_with fail
    go_loopw [49] (fun i wi => ∃ j : Nat, j ≤ n ∧ i = .int .i64 j ∧ Ext W9 wi) (fun i _ => n - (intOf i).toNat)
    case atStart => exact ⟨0, by omega, rfl, Ext.refl _⟩
    obtain ⟨j, hj, rfl, hei⟩ := hrel
    have HEI := Lib.hid hei
    clear hei
    by_cases hlj : j < n
    · obtain ⟨b', o', y, hA', hyj, oky, oky2, d0, d1, d2⟩ := (SL.out.ext RTol.keeps (HW.out.trans HEI.out)).tol (k := j) (by rw [HL.out]; exact hlj)
      obtain ⟨e0, e1⟩ := CX.out _ HEI.out
      subst hA'
      clear hyj
      have KEEP : Hid (∀ wx, Ext wr wx → wx.cell? ⟨b, o + k * 2, none⟩ = some (.string x.key) ∧ wx.cell? ⟨b, o + k * 2 + 1, none⟩ = some (.string x.val) ∧ wx.cell? ⟨b', o' + j * 3, none⟩ = some (.string y.key) ∧ wx.cell? ⟨b', o' + j * 3 + 1, none⟩ = some (.string y.val) ∧ wx.cell? ⟨b', o' + j * 3 + 2, none⟩ = some (.bool y.any)) :=
        fun wx e => ⟨e.cell e0, e.cell e1, e.cell d0, e.cell d1, e.cell d2⟩
      have BB := Lib.hid (fun wx => bears_any y x wx)
      have RB := Lib.hid (fun wx => rBears_any y x wx)
      obtain ⟨v, hv⟩ : ∃ v, v = bearsB y x := ⟨_, rfl⟩
      rw [← hv] at BB RB
      clear hv e0 e1 d0 d1 d2
      go_wp2_with fail
      go_cut [49, 70] from 49 to 71 (fun s49 s70 wx => s49 = .int .i64 j ∧ s70 = .bool false ∧ Ext wr wx)
      case first =>
        go_region_held3 (fun w' => w'.cell? ⟨b, o + k * 2, none⟩ = some (.string x.key) ∧ w'.cell? ⟨b, o + k * 2 + 1, none⟩ = some (.string x.val) ∧ w'.cell? ⟨b', o' + j * 3, none⟩ = some (.string y.key) ∧ w'.cell? ⟨b', o' + j * 3 + 1, none⟩ = some (.string y.val) ∧ w'.cell? ⟨b', o' + j * 3 + 2, none⟩ = some (.bool y.any))
          (first | exact KEEP.out _ (Ext.refl wr).drew | exact KEEP.out _ E6.out | exact KEEP.out _ E7.out)
          (first
            | (go_at_call 37; refine (BB.out _).mono ?_; rintro e w6 ⟨rfl, e6⟩; have E6 : Hid (Ext wr w6) := by first | exact E7.out.trans e6 | exact (Ext.refl wr).drew.trans e6)
            | (go_at_call 38; refine (RB.out _).mono ?_; rintro e w7 ⟨rfl, e7⟩; have E7 : Hid (Ext wr w7) := by first | exact E6.out.trans e7 | exact (Ext.refl wr).drew.trans e7))
        all_goals (
          go_wp2_with fail
          go_meet
          case rel => first | exact ⟨rfl, by simp, E7.out⟩ | exact ⟨rfl, by simp, E6.out⟩)
      case rest =>
        obtain ⟨rfl, rfl, e9⟩ := hcut
        have E9 := Lib.hid (HEI.out.trans e9)
        clear e9
        go_wp2_with fail
        go_roundw
        case rel => exact ⟨j + 1, by omega, by go_num, E9.out⟩
        case measure => simp [intOf]; omega
    · go_wp2_with fail
      go_roundw
      case rel => exact ⟨k + 1, by omega, by go_num, HW.out.trans HEI.out⟩
      case measure => simp [intOf]; omega
  · go_wp2_with fail
    refine (all_len A c L none 0 [] n 0 _ HL.out rfl HM0.out (SL.out.ext RTol.keeps HE.out) HMZ.out Sl.nil).mono ?_
    rintro e w8 ⟨rfl, e8⟩
    rw [all_none]
    have E8 := Lib.hid (HE.out.trans e8)
    have E8a : Hid (∀ o, Ext w (w8.alloc o)) := fun o => (HE.out.trans e8).alloc o
    clear e8
    go_wp2_with fail
    refine (all_len (some ⟨w8.heap.size, 0, none⟩) 1 [⟨⟨#[]⟩, ⟨#[]⟩, true⟩] B d T 1 m _ rfl HM.out HMI.out (sl_tol1 _ _ _ _ _ OZ.out OZ.out (WB.new w8 _ _)) HM1.out (SM.out.ext RPair.keeps (E8a.out _))).mono ?_
    rintro e w9 ⟨rfl, e9⟩
    rw [all_any1]
    have E9 := Lib.hid ((E8a.out _).trans e9)
    clear e9
    rcases Nat.eq_zero_or_pos m with hm | hm
    · subst hm
      go_wp2_with fail
      go_ret
      exact ⟨ret_bool (by simp), E9.out⟩
    · have hm' : ((m : Int) == 0) = false := by simp; omega
      go_wp2_with fail
      refine (all_len none 0 [] B d T 0 m _ rfl HM.out HMZ.out Sl.nil HM1.out (SM.out.ext RPair.keeps E9.out)).mono ?_
      rintro e w10 ⟨rfl, e10⟩
      have hb : allB [] T = false := by rw [all_bare, HM.out, decide_eq_false (by omega)]
      rw [hb]
      have E10 := Lib.hid (E9.out.trans e10)
      clear e10 hb
      go_wp2_with fail
      go_ret
      exact ⟨rfl, E10.out⟩
end Go.Proofs.YthfafenigjldlaaGreat
