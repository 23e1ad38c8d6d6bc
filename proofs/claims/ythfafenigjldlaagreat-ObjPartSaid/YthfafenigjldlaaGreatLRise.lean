/-
  'interrexlaw1.LabelRising': the walk.
-/
import Derived.Test.YthfafenigjldlaaGreatRef1
import Derived.Test.YthfafenigjldlaaGreatRising
import Derived.Deep.RegionHeld3
import Derived.Deep.Cut
import Derived.Deep.CutRange
namespace Go.Proofs.YthfafenigjldlaaGreat
open Go.RowKit
set_option linter.unusedVariables false

theorem rMayPairs_lenR (A : Option Addr) (c : Nat) (xs : List Pr) (n : Nat) (w : World) (hl : xs.length = n) (hn : n ≤ maxLen) (hx : Sl RPair 2 w A xs) :
    Calls Tryz.prog 24 #[.slice A n c] w fun e w' => e = .returned (.bool (mayPairs xs)) ∧ Ext w w' := by
  subst hl
  exact rMayPairs_any A c xs w hn hx
theorem tmod_bdN (a : Int) (n : Nat) (h : 0 < n) : -(n : Int) < a.tmod n ∧ a.tmod n < n := by
  have h1 := Int.tmod_lt_of_pos a (show (0 : Int) < n by omega)
  have h2 := Int.tmod_lt_of_pos (-a) (show (0 : Int) < n by omega)
  rw [Int.neg_tmod] at h2
  omega
/-- an index brought within bounds, as Go reckons it -/
theorem mod_idx (a : Int) (n : Nat) (h : 0 < n) : ∃ k : Nat, k < n ∧ -(n : Int) < a.tmod n ∧ a.tmod n < n ∧ (a.tmod n + n).tmod n = (k : Int) := by
  obtain ⟨h1, h2⟩ := tmod_bdN a n h
  refine ⟨((a.tmod n + n) % n).toNat, ?_, h1, h2, ?_⟩
  · have := Int.emod_lt_of_pos (a.tmod n + n) (show (0 : Int) < n by omega)
    have := Int.emod_nonneg (a.tmod n + n) (show (n : Int) ≠ 0 by omega)
    omega
  · rw [Int.tmod_eq_emod_of_nonneg (by omega)]
    have := Int.emod_nonneg (a.tmod n + n) (show (n : Int) ≠ 0 by omega)
    omega

set_option maxRecDepth 20000 in
set_option maxHeartbeats 4000000 in
theorem labelRising_any (HBA : Hid (∀ w : World, Calls Tryz.prog 17 #[] w fun e w' => e = .returned (.bool true) ∧ Ext w w')) (A : Option Addr) (c : Nat) (l : List Pr) (i j : Int) (w : World)
    (hl : l.length ≤ c) (hc : c ≤ maxLen) (hA : Sl RPair 2 w A l) (hi : inI i) (hj : inI j) :
    Calls Tryz.prog 5 #[.slice A l.length c, .int .i64 i, .int .i64 j] w fun e w' => e = .returned (.bool true) ∧ Ext w w' := by
  obtain ⟨i0, hi0, hz0, hz1, hz2⟩ := info_parts pair_info
  obtain ⟨n, n1, n2, N, mn⟩ := min_lit (P := Tryz.prog) l.length 6 6 rfl
  have HL : Hid ((l.take 6).length = n) := by show _ = _; rw [List.length_take, N.out]; omega
  obtain ⟨CL, kl, fl⟩ := (hA.take 6).cells
  have OL := Lib.hid (kl.oneCell RPair.one)
  have SL := Lib.hid (hA.take 6)
  rw [HL.out] at fl
  obtain ⟨L, hL⟩ : ∃ L, L = l.take 6 := ⟨_, rfl⟩
  rw [← hL] at HL kl SL
  have hc' := hc
  unfold maxLen at hc'
  have HM0 : Hid (n ≤ maxLen) := by show _ ≤ _; unfold maxLen; omega
  have hnc : n ≤ c := by omega
  have KL := Lib.hid kl
  have FL := Lib.hid fl
  obtain ⟨b, hb⟩ : ∃ b, b = mayPairs L := ⟨_, rfl⟩
  have VB : Hid (mayPairs L = b) := hb.symm
  clear hL kl fl N hA hc hi hj hb
  go_enter Tryz.func5, Tryz.ntmps5
  go_wp2_with fail
  refine (HBA.out _).mono ?_
  rintro e w1 ⟨rfl, a1⟩
  have E1 := Lib.hid a1
  clear a1
  go_wp2_with fail
  refine (may_len A c L n _ HL.out HM0.out (SL.out.ext RPair.keeps E1.out)).mono ?_
  rintro e w2 ⟨rfl, e2⟩
  rw [VB.out]
  have E2 := Lib.hid (E1.out.trans e2)
  clear e2
  cases b
  · go_wp2_with fail
    refine (may_len A c L n _ HL.out HM0.out (SL.out.ext RPair.keeps E2.out)).mono ?_
    rintro e w3 ⟨rfl, e3⟩
    rw [VB.out]
    have E3 := Lib.hid (E2.out.trans e3)
    clear e3
    go_wp2_with fail
    refine (rMayPairs_lenR A c L n _ HL.out HM0.out (SL.out.ext RPair.keeps E3.out)).mono ?_
    rintro e w4 ⟨rfl, e4⟩
    rw [VB.out]
    have E4 := Lib.hid (E3.out.trans e4)
    clear e4
    go_wp2_with fail
    go_ret
    exact ⟨rfl, E4.out⟩
  by_cases hn2 : (n : Int) < 2
  · go_wp2_with fail
    refine (may_len A c L n _ HL.out HM0.out (SL.out.ext RPair.keeps E2.out)).mono ?_
    rintro e w3 ⟨rfl, e3⟩
    rw [VB.out]
    have E3 := Lib.hid (E2.out.trans e3)
    clear e3
    go_wp2_with fail
    refine (rMayPairs_lenR A c L n _ HL.out HM0.out (SL.out.ext RPair.keeps E3.out)).mono ?_
    rintro e w4 ⟨rfl, e4⟩
    rw [VB.out]
    have E4 := Lib.hid (E3.out.trans e4)
    clear e4
    go_wp2_with fail
    go_ret
    exact ⟨rfl, E4.out⟩
  obtain ⟨ii, ii1, x1, x2, x3⟩ := mod_idx i n (by omega)
  obtain ⟨jj, jj1, y1, y2, y3⟩ := mod_idx j n (by omega)
  obtain ⟨x, hx⟩ : ∃ x, i.tmod n = x := ⟨_, rfl⟩
  obtain ⟨y, hy⟩ : ∃ x, j.tmod n = x := ⟨_, rfl⟩
  rw [hx] at x1 x2 x3
  rw [hy] at y1 y2 y3
  have sx : IntKind.i64.wrap (x + (n : Int)) = x + n := IntWalk.i64_in _ (by omega)
  have sy : IntKind.i64.wrap (y + (n : Int)) = y + n := IntWalk.i64_in _ (by omega)
  have hn0 : ((n : Int) == 0) = false := by simp; omega
  have hn0' : ¬ (n : Int) = 0 := by omega
  go_wp2_with fail
  go_quiet (fail)
  go_wp2_with fail
  have EQ : Hid (Ext w (w2.drewN nq).drew) := (E2.out.drewN _).drew
  have si : IntKind.i64.wrap ((ii : Int) + 1) = ii + 1 := IntWalk.i64_in _ (by omega)
  have si2 : (0 : Int) ≤ (ii : Int) + 1 := by omega
  have si3 : (ii : Int) + 1 ≤ (n : Int) := by omega
  have si4 : ((ii : Int) + 1).toNat = ii + 1 := by omega
  have hic : ii ≤ c := by omega
  have hic2 : (ii : Int) ≤ (c : Int) := by omega
  have FT : Hid (Flat w 2 A ii (CL.take (ii * 2))) := FL.out.take ii (by omega)
  have FD : Hid (Flat w 2 (if c = ii + 1 then A else Option.map (fun x => x.add ((ii + 1) * 2)) A) (n - (ii + 1)) (CL.drop ((ii + 1) * 2))) := FL.out.drop (ii + 1) (by omega) hnc
  obtain ⟨AX, hAX⟩ : ∃ X, (if c = ii + 1 then A else Option.map (fun x => x.add ((ii + 1) * 2)) A) = X := ⟨_, rfl⟩
  rw [hAX] at FD
  have OT : Hid (∀ u ∈ CL.take (ii * 2), u.oneCell' = true) := fun u hu => OL.out u (List.mem_of_mem_take hu)
  have OD : Hid (∀ u ∈ CL.drop ((ii + 1) * 2), u.oneCell' = true) := fun u hu => OL.out u (List.mem_of_mem_drop hu)
  have HM1 : Hid (ii ≤ maxLen) := by show _ ≤ _; have := HM0.out; omega
  have HM2 : Hid (ii + (n - (ii + 1)) ≤ maxLen) := by show _ ≤ _; have := HM0.out; omega
  have LE : Hid ((L.take ii ++ L.drop (ii + 1)).length = ii + (n - (ii + 1))) := by show _ = _; rw [List.length_append, List.length_take, List.length_drop, HL.out]; omega
  go_cut [8] from 10 (fun s8 wx => ∃ A8 c8, s8 = .slice A8 (ii + (n - (ii + 1))) c8 ∧ Ext w wx ∧ Sl RPair 2 wx A8 (L.take ii ++ L.drop (ii + 1)))
  case first =>
    go_region_held3 (fun _ => True) (trivial) (first
      | (with_reducible refine at_slot 54 ?_
         refine step_copy _ rfl _ (.tmp 53) 22 rfl 37 i0 _ 2 32 Tryz.underlying22 hi0 hz0 hz1 hz2 rfl (by decide) rfl A ii c _ rfl (FT.out.ext EQ.out) OT.out HM1.out (by omega) w EQ.out ?_
         intro A6 c6 w6 q6 x6
         have C6 := Lib.hid q6
         clear q6 x6)
      | (with_reducible refine at_slot 59 ?_
         refine step_more _ rfl (.tmp 54) (.tmp 58) 22 rfl 37 i0 _ 2 32 Tryz.underlying22 hi0 hz0 hz1 hz2 rfl (by decide) A6 ii c6 _ rfl w C6.out _ (n - (ii + 1)) _ _ rfl (FD.out.ext C6.out.ext) OD.out HM2.out (by omega) ?_
         intro A7 c7 w7 q7
         have C7 := Lib.hid q7
         clear q7))
    all_goals go_wp2_with fail
    all_goals (
      go_meet
      case rel => exact ⟨_, _, rfl, C7.out.ext, C7.out.sl LE.out (((KL.out.take ii).app (KL.out.drop (ii + 1))).ext RPair.keeps C7.out.ext)⟩)
  case rest =>
    obtain ⟨A8, c8, rfl, e8, s8⟩ := hcut
    have E8 := Lib.hid e8
    have S8 := Lib.hid s8
    clear e8 s8 EQ FT FD OT OD si si2 si3 si4 sx sy hAX
    go_wp2_with (first
      | (at_builtin
         refine wpList_copy _ rfl _ (.tmp 60) 22 rfl 37 i0 _ 2 32 Tryz.underlying22 hi0 hz0 hz1 hz2 rfl (by decide) rfl A n c CL rfl (FL.out.ext E8.out) OL.out HM0.out (by omega) wc (Ext.refl _) ?_
         intro A9 c9 w9 q9 x9
         obtain ⟨base, b1, b2, ow⟩ := q9.own
         obtain ⟨g, cur, hA9, hg, hgrow⟩ : ∃ g cur, A9 = some ⟨g, 0, none⟩ ∧ wc.heap.size ≤ g ∧ WB w9 g 37 cur ∧ cur.toList.take (n * 2) = CL := by
           rcases ow.2 with ⟨_, h0⟩ | ⟨g, cap, cur, e, hb, hh, _, _, _, ht⟩
           · omega
           · exact ⟨g, cur, by simpa using (Value.slice.inj e).1, Nat.le_trans b1 hb, hh, ht⟩
         subst hA9
         have X9 := Lib.hid x9
         have BG := Lib.hid hgrow.1
         have TK := Lib.hid hgrow.2
         have HG := Lib.hid hg
         clear q9 x9 b1 b2 ow hg hgrow))
    obtain ⟨x, hxi⟩ := get_of (xs := L) (k := ii) (by rw [HL.out]; exact ii1)
    obtain ⟨y, hyj⟩ := get_of (xs := L) (k := jj) (by rw [HL.out]; exact jj1)
    have RP : Hid (RowP cur L) := fun k z hz => by
      have := RowP.of_cells KL.out k z hz
      have hk : k < n := by rw [← HL.out]; exact (List.getElem?_eq_some_iff.1 hz).1
      rw [← TK.out] at this
      simp only [List.getElem?_toArray, List.getElem?_take_of_lt (show k * 2 < n * 2 by omega), List.getElem?_take_of_lt (show k * 2 + 1 < n * 2 by omega), Array.getElem?_toList] at this
      exact this
    have i0 := BG.out.cell (RP.out ii x hxi).1
    have i1 := BG.out.cell (RP.out ii x hxi).2
    have j0 := BG.out.cell (RP.out jj y hyj).1
    have j1 := BG.out.cell (RP.out jj y hyj).2
    have z : ∀ k, w9.frozen? ⟨g, k, none⟩ = false := fun k => BG.out.fr k
    have HSW : Hid (mayPairs ((L.set ii y).set jj x) = decide (ii = jj)) := may_swap VB.out hxi hyj
    have HLE : Hid (mayPairs (L.take ii ++ L.drop (ii + 1)) = true) := may_less VB.out ii
    have RS : Hid (∀ wx cur', WB wx g 37 cur' → cur' = ((((cur.setIfInBounds (ii * 2) (.string y.key)).setIfInBounds (ii * 2 + 1) (.string y.val)).setIfInBounds (jj * 2) (.string x.key)).setIfInBounds (jj * 2 + 1) (.string x.val)) → Sl RPair 2 wx (some ⟨g, 0, none⟩) ((L.set ii y).set jj x)) := fun wx cur' h e => by
      subst e
      refine RowP.sl ((RP.out.set (by rw [HL.out]; exact ii1) y).set (by rw [List.length_set, HL.out]; exact jj1) x) h (fun u hu => ?_)
      have hin : u ∈ L := by
        rcases List.mem_or_eq_of_mem_set hu with h1 | h1
        · rcases List.mem_or_eq_of_mem_set h1 with h2 | h2
          · exact h2
          · rw [h2]; exact List.mem_of_getElem? hyj
        · rw [h1]; exact List.mem_of_getElem? hxi
      obtain ⟨k, hk⟩ := List.mem_iff_getElem?.1 hin
      exact (KL.out.at k u hk).2
    have BS : Hid (WB ((((w9.setCell ⟨g, ii * 2, none⟩ (.string y.key)).setCell ⟨g, ii * 2 + 1, none⟩ (.string y.val)).setCell ⟨g, jj * 2, none⟩ (.string x.key)).setCell ⟨g, jj * 2 + 1, none⟩ (.string x.val)) g 37 ((((cur.setIfInBounds (ii * 2) (.string y.key)).setIfInBounds (ii * 2 + 1) (.string y.val)).setIfInBounds (jj * 2) (.string x.key)).setIfInBounds (jj * 2 + 1) (.string x.val))) :=
      (((BG.out.set _ _).set _ _).set _ _).set _ _
    have XS : Hid (Ext wc ((((w9.setCell ⟨g, ii * 2, none⟩ (.string y.key)).setCell ⟨g, ii * 2 + 1, none⟩ (.string y.val)).setCell ⟨g, jj * 2, none⟩ (.string x.key)).setCell ⟨g, jj * 2 + 1, none⟩ (.string x.val))) :=
      (((X9.out.setCell HG.out _).setCell HG.out _).setCell HG.out _).setCell HG.out _
    have b0 : (ii : Int) < n := by omega
    have b1 : (jj : Int) < n := by omega
    have ln : Hid (((L.set ii y).set jj x).length = n) := by show _ = _; simp [HL.out]
    have B2 : Hid (WB ((w9.setCell ⟨g, ii * 2, none⟩ (.string y.key)).setCell ⟨g, ii * 2 + 1, none⟩ (.string y.val)) g 37 ((cur.setIfInBounds (ii * 2) (.string y.key)).setIfInBounds (ii * 2 + 1) (.string y.val))) := (BG.out.set _ _).set _ _
    have R2 := RP.out.set (by rw [HL.out]; exact ii1) y
    obtain ⟨u, hu⟩ := get_of (xs := L.set ii y) (k := jj) (by rw [List.length_set, HL.out]; exact jj1)
    have k0 := B2.out.cell (R2 jj u hu).1
    have k1 := B2.out.cell (R2 jj u hu).2
    have k2 := fun k => B2.out.fr k
    have B3 := B2.out.set (jj * 2) (.string x.key)
    have k3 : (((w9.setCell ⟨g, ii * 2, none⟩ (.string y.key)).setCell ⟨g, ii * 2 + 1, none⟩ (.string y.val)).setCell ⟨g, jj * 2, none⟩ (.string x.key)).cell? ⟨g, jj * 2 + 1, none⟩ = some (.string u.val) := B3.cell (by rw [Array.getElem?_setIfInBounds_ne (by omega)]; exact (R2 jj u hu).2)
    have k4 := fun k => B3.fr k
    clear hxi hyj R2 hu B3
    go_region
    go_wp2_with fail
    refine (may_len A8 c8 (L.take ii ++ L.drop (ii + 1)) _ _ LE.out HM2.out (S8.out.ext RPair.keeps XS.out.drew)).mono ?_
    rintro e w10 ⟨rfl, e10⟩
    rw [HLE.out]
    have E10 := Lib.hid (E8.out.trans (XS.out.drew.trans e10))
    have S10 := Lib.hid ((RS.out _ _ BS.out.drew rfl).ext RPair.keeps e10)
    clear e10 i0 i1 j0 j1 z k0 k1 k2 k3 k4
    go_wp2_with fail
    refine (may_len (some ⟨g, 0, none⟩) c9 ((L.set ii y).set jj x) n _ ln.out HM0.out S10.out).mono ?_
    rintro e w11 ⟨rfl, e11⟩
    rw [HSW.out]
    have E11 := Lib.hid (E10.out.trans e11)
    clear e11
    by_cases hij : ii = jj
    · have q2 : ((ii : Int) == (jj : Int)) = true := by simp [hij]
      rw [decide_eq_true hij]
      clear hij
      go_wp2_with fail
      go_ret
      exact ⟨ret_bool (by simp), E11.out⟩
    · have q2 : ((ii : Int) == (jj : Int)) = false := by simp; omega
      rw [decide_eq_false hij]
      clear hij
      go_wp2_with fail
      go_ret
      exact ⟨ret_bool (by simp), E11.out⟩
end Go.Proofs.YthfafenigjldlaaGreat
