/-
  The walk of interrexlaw1.begun: one of each. It answers true.
-/
import Derived.Test.YthfafenigjldlaaBegunT
import Derived.Deep.Cut
import Derived.Deep.CutRange
import Derived.Test.YthfafenigjldlaaGet7
import Derived.Test.YthfafenigjldlaaEq4
import Derived.Test.YthfafenigjldlaaPut5
namespace Go.Proofs.Ythfafenigjldlaa
open Go.RowKit
set_option linter.unusedVariables false

def GetPodAny : Prop := ∀ (A : Option Addr) (c : Nat) (bs : List UInt8) (w : World), ByF A bs w → bs.length ≤ 140737488355328 → Calls Try.prog 20 #[.slice A bs.length c] w (GPPost bs w)

set_option maxRecDepth 20000 in
set_option maxHeartbeats 4000000 in
theorem begun_of (HGP : Hid GetPodAny) (w : World) : Calls Try.prog 10 #[] w fun e w' => e = .returned (.bool true) ∧ Ext w w' := by
  have oi : ∀ x : Int, 0 ≤ x → x ≤ 1000 → inI x := fun x h1 h2 => ⟨by omega, by omega⟩
  have ok9 : ∀ s : ByteArray, s.size ≤ 9 → okS s := fun s h => by unfold okS maxLen; omega
  have OK9 := Lib.hid ok9
  have OI := Lib.hid oi
  clear ok9 oi
  go_enter Try.func10, Try.ntmps10
  go_wp2_with fail
  refine (qSum_any (some ⟨w.heap.size, 0, none⟩) 2 [⟨1, 2, 3⟩, ⟨4, 5, 6⟩] _ (by simp [maxLen]) (sl_res2 _ _ 1 2 3 4 5 6 ⟨OI.out _ (by decide) (by decide), OI.out _ (by decide) (by decide), OI.out _ (by decide) (by decide)⟩ ⟨OI.out _ (by decide) (by decide), OI.out _ (by decide) (by decide), OI.out _ (by decide) (by decide)⟩ (WB.new _ _ _))).mono ?_
  rintro e w1 ⟨rfl, e1⟩
  have hsv : sumV [⟨1, 2, 3⟩, ⟨4, 5, 6⟩] = ⟨5, 7, 9⟩ := by unfold sumV; rw [bg_sum]; rfl
  have hsb : sumB [⟨1, 2, 3⟩, ⟨4, 5, 6⟩] = true := by unfold sumB; rw [bg_sum]; rfl
  rw [hsv, hsb]
  simp only
  have E1 : Hid (Ext w w1) := (boxedExt _ _ _).trans e1
  clear hsv hsb e1
  go_wp2_with fail
  obtain ⟨n1, hn1⟩ : ∃ n, n = w1.heap.size := ⟨_, rfl⟩
  obtain ⟨W2, hW2⟩ : ∃ W, w1.alloc (.cells #[.int .i64 5, .int .i64 7, .int .i64 9] 50) = W := ⟨_, rfl⟩
  have HB1 : Hid (WB W2 n1 50 #[.int .i64 5, .int .i64 7, .int .i64 9]) := by show WB _ _ _ _; rw [← hW2, hn1]; exact WB.new _ _ _
  have E2 : Hid (Ext w W2) := by show Ext _ _; rw [← hW2]; exact E1.out.alloc _
  rw [← hn1, hW2]
  clear hn1 hW2 E1
  refine (some_any W2).mono ?_
  rintro e w3 ⟨⟨A1, c1, A2, c2, A3, c3, A4, c4, A5, c5, A6, c6⟩, rfl, e3, ok3⟩
  obtain ⟨Q1, hQ1⟩ : ∃ q : PA, q = ⟨A1, c1, A2, c2, A3, c3, A4, c4, A5, c5, A6, c6⟩ := ⟨_, rfl⟩
  have hpc : (podC somePd ⟨A1, c1, A2, c2, A3, c3, A4, c4, A5, c5, A6, c6⟩).toArray = #[.string ⟨#[97]⟩, .int .i64 7, .int .i64 3, .int .i64 2, .int .i64 3, .int .i64 0, .slice A1 2 c1, .slice A2 1 c2, .slice A3 1 c3, .slice A4 1 c4, .string ⟨#[122, 111, 110, 101]⟩, .slice A5 1 c5, .int .i64 2, .slice A6 0 c6, .string ⟨#[]⟩, .int .i64 0] := rfl
  have HC1 : Hid ((podC somePd Q1).toArray = #[.string ⟨#[97]⟩, .int .i64 7, .int .i64 3, .int .i64 2, .int .i64 3, .int .i64 0, .slice A1 2 c1, .slice A2 1 c2, .slice A3 1 c3, .slice A4 1 c4, .string ⟨#[122, 111, 110, 101]⟩, .slice A5 1 c5, .int .i64 2, .slice A6 0 c6, .string ⟨#[]⟩, .int .i64 0]) := by rw [hQ1]; exact hpc
  rw [hpc]
  rw [← hQ1] at ok3
  have OK3 : Hid (∀ wx, Ext w3 wx → PodOk wx somePd Q1) := fun wx h => ok3.ext h
  have E3 : Hid (Ext w w3) := E2.out.trans e3
  have HB3 : Hid (∀ wx, Ext w3 wx → WB wx n1 50 #[.int .i64 5, .int .i64 7, .int .i64 9]) := fun wx h => HB1.out.ext (e3.trans h)
  have HSEL : Hid (∀ wx, Ext w3 wx → Sl RTerm 3 wx A3 somePd.sel) := fun wx h => by have := (OK3.out wx h).sel; rw [hQ1] at this; exact this
  have HTOL : Hid (∀ wx, Ext w3 wx → Sl RTol 3 wx A4 somePd.tols) := fun wx h => by have := (OK3.out wx h).tols; rw [hQ1] at this; exact this
  clear e3 ok3 hpc hQ1 E2 HB1
  go_wp2_with fail
  obtain ⟨n3, hn3⟩ : ∃ n, n = w3.heap.size := ⟨_, rfl⟩
  obtain ⟨W4, hW4⟩ : ∃ W, w3.alloc (.cells #[.string ⟨#[97]⟩, .int .i64 7, .int .i64 3, .int .i64 2, .int .i64 3, .int .i64 0, .slice A1 2 c1, .slice A2 1 c2, .slice A3 1 c3, .slice A4 1 c4, .string ⟨#[122, 111, 110, 101]⟩, .slice A5 1 c5, .int .i64 2, .slice A6 0 c6, .string ⟨#[]⟩, .int .i64 0] 55) = W := ⟨_, rfl⟩
  have HP4 : Hid (WB W4 n3 55 #[.string ⟨#[97]⟩, .int .i64 7, .int .i64 3, .int .i64 2, .int .i64 3, .int .i64 0, .slice A1 2 c1, .slice A2 1 c2, .slice A3 1 c3, .slice A4 1 c4, .string ⟨#[122, 111, 110, 101]⟩, .slice A5 1 c5, .int .i64 2, .slice A6 0 c6, .string ⟨#[]⟩, .int .i64 0]) := by show WB _ _ _ _; rw [← hW4, hn3]; exact WB.new _ _ _
  have E34 : Hid (Ext w3 W4) := by show Ext _ _; rw [← hW4]; exact (Ext.refl _).alloc _
  rw [← hn3, hW4]
  clear hn3 hW4
  obtain ⟨BS, hBS⟩ : ∃ B, B = putPodB somePd := ⟨_, rfl⟩
  have HBG : Hid (podG BS = true ∧ podOut BS = somePd ∧ 0 < BS.length ∧ BS.length < 1000) := by
    rw [hBS]
    refine ⟨bg_got, ?_, bg_len, bg_len2⟩
    unfold podOut
    rw [if_pos bg_got, bg_pod]
  have HPP : Hid (Calls Try.prog 19 #[.agg #[.string ⟨#[97]⟩, .int .i64 7, .int .i64 3, .int .i64 2, .int .i64 3, .int .i64 0, .slice A1 2 c1, .slice A2 1 c2, .slice A3 1 c3, .slice A4 1 c4, .string ⟨#[122, 111, 110, 101]⟩, .slice A5 1 c5, .int .i64 2, .slice A6 0 c6, .string ⟨#[]⟩, .int .i64 0]] W4 (ClPost 5 1 BS.length (BS.map byV) W4)) := by
    rw [← HC1.out, hBS]
    exact putPod_any somePd Q1 W4 (OK3.out _ E34.out)
  clear hBS
  refine HPP.out.mono ?_
  rintro e w5 ⟨v, rfl, o5, e5⟩
  obtain ⟨B5, d5, rfl, l5, m5, f5⟩ := cl_flat o5
  have F5 := Lib.hid f5
  clear o5 f5 HPP
  go_wp2_with fail
  refine (HGP.out B5 d5 BS _ F5.out (by have := HBG.out.2.2.2; omega)).mono ?_
  rintro e w6 ⟨⟨DA1, Dc1, DA2, Dc2, DA3, Dc3, DA4, Dc4, DA5, Dc5, DA6, Dc6⟩, rfl, e6, ok6⟩
  rw [HBG.out.1, HBG.out.2.1]
  rw [HBG.out.2.1] at ok6
  obtain ⟨Q2, hQ2⟩ : ∃ q : PA, q = ⟨DA1, Dc1, DA2, Dc2, DA3, Dc3, DA4, Dc4, DA5, Dc5, DA6, Dc6⟩ := ⟨_, rfl⟩
  have hpc : (podC somePd ⟨DA1, Dc1, DA2, Dc2, DA3, Dc3, DA4, Dc4, DA5, Dc5, DA6, Dc6⟩).toArray = #[.string ⟨#[97]⟩, .int .i64 7, .int .i64 3, .int .i64 2, .int .i64 3, .int .i64 0, .slice DA1 2 Dc1, .slice DA2 1 Dc2, .slice DA3 1 Dc3, .slice DA4 1 Dc4, .string ⟨#[122, 111, 110, 101]⟩, .slice DA5 1 Dc5, .int .i64 2, .slice DA6 0 Dc6, .string ⟨#[]⟩, .int .i64 0] := rfl
  have HC2 : Hid ((podC somePd Q2).toArray = #[.string ⟨#[97]⟩, .int .i64 7, .int .i64 3, .int .i64 2, .int .i64 3, .int .i64 0, .slice DA1 2 Dc1, .slice DA2 1 Dc2, .slice DA3 1 Dc3, .slice DA4 1 Dc4, .string ⟨#[122, 111, 110, 101]⟩, .slice DA5 1 Dc5, .int .i64 2, .slice DA6 0 Dc6, .string ⟨#[]⟩, .int .i64 0]) := by rw [hQ2]; exact hpc
  rw [hpc]
  rw [← hQ2] at ok6
  have OK6 : Hid (∀ wx, Ext w6 wx → PodOk wx somePd Q2) := fun wx h => ok6.ext h
  have E46 : Hid (Ext W4 w6) := e5.trans e6
  clear e5 e6 ok6 hpc hQ2 F5
  go_wp2_with fail
  obtain ⟨n6, hn6⟩ : ∃ n, n = w6.heap.size := ⟨_, rfl⟩
  obtain ⟨W7, hW7⟩ : ∃ W, w6.alloc (.cells #[.string ⟨#[97]⟩, .int .i64 7, .int .i64 3, .int .i64 2, .int .i64 3, .int .i64 0, .slice DA1 2 Dc1, .slice DA2 1 Dc2, .slice DA3 1 Dc3, .slice DA4 1 Dc4, .string ⟨#[122, 111, 110, 101]⟩, .slice DA5 1 Dc5, .int .i64 2, .slice DA6 0 Dc6, .string ⟨#[]⟩, .int .i64 0] 55) = W := ⟨_, rfl⟩
  have HP7 : Hid (WB W7 n6 55 #[.string ⟨#[97]⟩, .int .i64 7, .int .i64 3, .int .i64 2, .int .i64 3, .int .i64 0, .slice DA1 2 Dc1, .slice DA2 1 Dc2, .slice DA3 1 Dc3, .slice DA4 1 Dc4, .string ⟨#[122, 111, 110, 101]⟩, .slice DA5 1 Dc5, .int .i64 2, .slice DA6 0 Dc6, .string ⟨#[]⟩, .int .i64 0]) := by show WB _ _ _ _; rw [← hW7, hn6]; exact WB.new _ _ _
  have E67 : Hid (Ext w6 W7) := by show Ext _ _; rw [← hW7]; exact (Ext.refl _).alloc _
  rw [← hn6, hW7]
  clear hn6 hW7
  obtain ⟨LS, hLS⟩ : ∃ B, B = putLeaseB 3 1000 := ⟨_, rfl⟩
  have HLG : Hid (leaseG LS = true ∧ (leaseR2 LS).1 = 3 ∧ LS.length < 1000) := by
    rw [hLS]; exact ⟨bg_lease, bg_holder, bg_len3⟩
  have HPL : Hid (Calls Try.prog 22 #[.agg #[.int .i64 3, .int .i64 1000]] W7 (ClPost 5 1 LS.length (LS.map byV) W7)) := by
    rw [hLS]; exact putLease_any 3 1000 _ (OI.out _ (by decide) (by decide)) (OI.out _ (by decide) (by decide))
  clear hLS
  refine HPL.out.mono ?_
  rintro e w8 ⟨v, rfl, o8, e8⟩
  obtain ⟨B8, d8, rfl, l8, m8, f8⟩ := cl_flat o8
  have F8 := Lib.hid f8
  clear o8 f8
  go_wp2_with fail
  refine (getLease_any B8 d8 _ _ F8.out (by have := HLG.out.2.2; omega)).mono ?_
  rintro e w9 ⟨rfl, e9⟩
  rw [HLG.out.1]
  simp only [if_true]
  rw [HLG.out.2.1]
  have E79 : Hid (Ext W7 w9) := e8.trans e9
  clear e8 e9 F8
  obtain ⟨hd, hhd⟩ : ∃ x, x = (leaseR3 LS).1 := ⟨_, rfl⟩
  rw [← hhd]
  clear hhd
  go_upto_region 6 with (fail)
  have E39 : Hid (∀ wx, Ext w9 wx → Ext w3 wx) := fun wx h => E34.out.trans (E46.out.trans (E67.out.trans (E79.out.trans h)))
  have rb := HB3.out _ (E39.out _ (Ext.refl _))
  have pb := HP4.out.ext (E46.out.trans (E67.out.trans E79.out))
  have qb := HP7.out.ext E79.out
  have PB := Lib.hid pb
  have QB := Lib.hid qb
  have RB := Lib.hid rb
  clear pb qb rb
  have E69 : Hid (∀ wx, Ext w9 wx → Ext w6 wx) := fun wx h => E67.out.trans (E79.out.trans h)
  have HM : Hid (∀ wx, Ext w9 wx → Calls Try.prog 23 #[.agg #[.string ⟨#[97]⟩, .int .i64 7, .int .i64 3, .int .i64 2, .int .i64 3, .int .i64 0, .slice A1 2 c1, .slice A2 1 c2, .slice A3 1 c3, .slice A4 1 c4, .string ⟨#[122, 111, 110, 101]⟩, .slice A5 1 c5, .int .i64 2, .slice A6 0 c6, .string ⟨#[]⟩, .int .i64 0]] wx fun e w' => e = .returned (.bool true) ∧ Ext wx w') := fun wx h => by
    have := mayPod_any somePd Q1 wx (OK3.out _ (E39.out _ h))
    rw [HC1.out, bg_may] at this
    exact this
  have HQ : Hid (∀ wx, Ext w9 wx → Calls Try.prog 24 #[.agg #[.string ⟨#[97]⟩, .int .i64 7, .int .i64 3, .int .i64 2, .int .i64 3, .int .i64 0, .slice A1 2 c1, .slice A2 1 c2, .slice A3 1 c3, .slice A4 1 c4, .string ⟨#[122, 111, 110, 101]⟩, .slice A5 1 c5, .int .i64 2, .slice A6 0 c6, .string ⟨#[]⟩, .int .i64 0], .agg #[.string ⟨#[97]⟩, .int .i64 7, .int .i64 3, .int .i64 2, .int .i64 3, .int .i64 0, .slice DA1 2 Dc1, .slice DA2 1 Dc2, .slice DA3 1 Dc3, .slice DA4 1 Dc4, .string ⟨#[122, 111, 110, 101]⟩, .slice DA5 1 Dc5, .int .i64 2, .slice DA6 0 Dc6, .string ⟨#[]⟩, .int .i64 0]] wx fun e w' => e = .returned (.bool true) ∧ Ext wx w') := fun wx h => by
    have := eqPod_any somePd somePd Q1 Q2 wx (OK3.out _ (E39.out _ h)) (OK6.out _ (E69.out _ h))
    rw [HC1.out, HC2.out] at this
    refine this.mono ?_
    rintro e w' ⟨b, rfl, hb, he⟩
    rw [hb.2 rfl]
    exact ⟨rfl, he⟩
  have EW : Hid (Ext w w9) := E3.out.trans (E39.out _ (Ext.refl _))
  have hbl : (0 : Int) < (BS.length : Int) := by have := HBG.out.2.2.1; omega
  obtain ⟨n9, hn9⟩ : ∃ n, n = w9.heap.size := ⟨_, rfl⟩
  obtain ⟨W10, hW10⟩ : ∃ W, w9.alloc (.cells #[.int .i64 3, .int .i64 hd] 62) = W := ⟨_, rfl⟩
  have LB : Hid (WB W10 n9 62 #[.int .i64 3, .int .i64 hd]) := by show WB _ _ _ _; rw [← hW10, hn9]; exact WB.new _ _ _
  have E10 : Hid (Ext w9 W10) := by show Ext _ _; rw [← hW10]; exact (Ext.refl _).alloc _
  rw [← hn9, hW10]
  clear hn9 hW10
  refine begun_tail _ W10 n1 n3 n6 n9 A1 A2 A3 A4 A5 A6 DA1 DA2 DA3 DA4 DA5 DA6 B5 c1 c2 c3 c4 c5 c6 Dc1 Dc2 Dc3 Dc4 Dc5 Dc6 d5 hd BS _ _ _ _ _ _ _ _ _ _ _ _ _ _ _ _ _ _ _ _ _ _ _ _ _ _ _ _ _ _ _ _ _ _ _ _ _ _ _ _ _ _ _ _ _ _ _ _ _ _ _ _ _ _ _ _ _ _ _ _ _ _ _ _ _ _ _ _ _ _ _ _ _ _ _ _ _ _
    (RB.out.ext E10.out) (PB.out.ext E10.out) (QB.out.ext E10.out) LB hbl (fun wx h => HSEL.out _ (E39.out _ (E10.out.trans h))) (fun wx h => HTOL.out _ (E39.out _ (E10.out.trans h))) (fun wx h => HM.out _ (E10.out.trans h)) (fun wx h => HQ.out _ (E10.out.trans h)) ?_
  intro v1 v2 v3 v4 v5 v6 v7 v8 v9 v10 v11 v12 v13 v14 v15 v16 v17 v18 v19 v20 v21 v22 v23 v24 v25 v26 v27 v28 v29 v30 v31 v32 v33 v34 v35 v36 v37 v38 v39 v40 v41 v42 v43 v44 v45 v46 v47 v48 v49 v50 v51 v52 v53 v54 v55 v56 v57 v58 v59 v60 v61 v62 v63 v64 v65 v66 v67 v68 v69 v70 v71 v72 v73 v74 v75 v76 v77 v78 v79 v80 v81 v82 v83 v84 v85 v86 wx he
  have F := Lib.hid (EW.out.trans (E10.out.trans he))
  clear he
  go_wp2_with fail
  go_ret
  exact ⟨rfl, F.out⟩
end Go.Proofs.Ythfafenigjldlaa
