/-
  'interrexlaw1.LabelMore': the walk.
-/
import Derived.Test.YthfafenigjldlaaApp1
import Derived.Deep.Cut
import Derived.Deep.CutRange
namespace Go.Proofs.Ythfafenigjldlaa
open Go.RowKit
set_option linter.unusedVariables false

set_option maxRecDepth 20000 in
set_option maxHeartbeats 4000000 in
theorem labelMore_any (HBA : Hid (∀ w : World, Calls Try.prog 10 #[] w fun e w' => e = .returned (.bool true) ∧ Ext w w')) (B : Option Addr) (d : Nat) (ts : List Tm) (A : Option Addr) (c : Nat) (l : List Pr) (p : Pr) (w : World)
    (hv : ts.length ≤ d) (hd : d ≤ maxLen) (hB : Sl RTerm 3 w B ts) (hl : l.length ≤ c) (hc : c ≤ maxLen) (hA : Sl RPair 2 w A l) (hp : okS p.key ∧ okS p.val) :
    Calls Try.prog 7 #[.slice B ts.length d, .slice A l.length c, .agg #[.string p.key, .string p.val]] w fun e w' => e = .returned (.bool true) ∧ Ext w w' := by
  obtain ⟨i0, hi0, hz0, hz1, hz2⟩ := info_parts pair_info
  obtain ⟨n, n1, n2, N, mn⟩ := min_lit (P := Try.prog) l.length 5 5 rfl
  obtain ⟨m, m1, m2, M, mm⟩ := min_lit (P := Try.prog) ts.length 4 4 rfl
  have HL : Hid ((l.take 5).length = n) := by show _ = _; rw [List.length_take, N.out]; omega
  have HM : Hid ((ts.take 4).length = m) := by show _ = _; rw [List.length_take, M.out]; omega
  obtain ⟨CL, kl, fl⟩ := (hA.take 5).cells
  have OL := Lib.hid (kl.oneCell RPair.one)
  have SL := Lib.hid (hA.take 5)
  have SM := Lib.hid (hB.take 4)
  rw [HL.out] at fl
  obtain ⟨L, hL⟩ : ∃ L, L = l.take 5 := ⟨_, rfl⟩
  obtain ⟨T, hT⟩ : ∃ L, L = ts.take 4 := ⟨_, rfl⟩
  rw [← hL] at HL kl SL
  rw [← hT] at HM SM
  have hc' := hc
  have hd' := hd
  unfold maxLen at hc' hd'
  have HM0 : Hid (n ≤ maxLen) := by show _ ≤ _; unfold maxLen; omega
  have HM1 : Hid ((1 : Nat) ≤ maxLen) := by show _ ≤ _; unfold maxLen; omega
  have HM2 : Hid (n + 1 ≤ maxLen) := by show _ ≤ _; unfold maxLen; omega
  have KL := Lib.hid kl
  have FL := Lib.hid fl
  have HXX : Hid (∀ w, RPair w [.string p.key, .string p.val] p) := fun w => ⟨rfl, hp.1, hp.2⟩
  have FX : Hid (∀ wx : World, Flat (wx.alloc (.cells #[.string p.key, .string p.val] 34)) 2 (some ⟨wx.heap.size, 0, none⟩) 1 [.string p.key, .string p.val]) := fun wx => flat_new wx _ 2 1 #[_, _] rfl
  obtain ⟨W1, hW1⟩ : ∃ W1, w.alloc (.cells #[.string p.key, .string p.val] 34) = W1 := ⟨_, rfl⟩
  obtain ⟨b1, hb1⟩ : ∃ n, w.heap.size = n := ⟨_, rfl⟩
  have B1 := WB.new w 34 #[.string p.key, .string p.val]
  rw [hW1, hb1] at B1
  have BX := Lib.hid B1
  have X1 : Hid (Ext w W1) := by rw [← hW1]; exact (Ext.refl _).alloc _
  clear hL hT kl fl N M hA hB hc hd hp B1
  go_enter Try.func7, Try.ntmps7
  go_wp2_with fail
  refine (HBA.out _).mono ?_
  rintro e w1 ⟨rfl, a1⟩
  have E1 := Lib.hid a1
  clear a1
  go_wp2_with fail
  go_region
  have t0 := (BX.out.ext E1.out).cell (i := 0) rfl
  have t1 := (BX.out.ext E1.out).cell (i := 1) rfl
  go_wp2_with fail
  go_cut [8] from 13 (fun s8 wx => ∃ A8 c8, s8 = .slice A8 (n + 1) c8 ∧ Ext W1 wx ∧ Sl RPair 2 wx A8 (L ++ [p]))
  case first =>
    go_region_law (first
      | (refine step_copy _ rfl _ (.tmp 26) 25 rfl 34 i0 _ 2 32 Try.underlying25 hi0 hz0 hz1 hz2 rfl (by decide) rfl A n c CL rfl ?_ OL.out HM0.out (by omega) W1 ?_ ?_
         · first | exact FL.out.ext (X1.out.trans E1.out.drew.drew) | exact FL.out.ext (X1.out.trans (E1.out.alloc _).drew.drew)
         · first | exact E1.out.drew.drew | exact (E1.out.alloc _).drew.drew
         intro A9 c9 w9 q9 x9
         have C9 := Lib.hid q9
         have X9 := Lib.hid x9
         have s0 := (BX.out.ext q9.ext).cell (i := 0) rfl
         have s1 := (BX.out.ext q9.ext).cell (i := 1) rfl
         have sz : b1 < w9.heap.size := (BX.out.ext q9.ext).lt
         clear q9 x9)
      | (refine step_more _ rfl (.tmp 27) (.tmp 29) 25 rfl 34 i0 _ 2 32 Try.underlying25 hi0 hz0 hz1 hz2 rfl (by decide) A9 n c9 CL rfl W1 ?_ _ 1 1 [.string p.key, .string p.val] rfl ?_ (by simp [Value.oneCell']) HM2.out (by omega) ?_
         · first | exact C9.out | exact C9.out.more ((Ext.refl _).alloc _)
         · first | exact FX.out _ | exact ((FX.out _).drew.drew).ext X9.out
         intro A10 c10 w10 q10
         have E10 := Lib.hid q10.ext
         have S10 : Hid (Sl RPair 2 w10 A10 (L ++ [p])) := q10.sl (by simp [HL.out]) ((KL.out.ext RPair.keeps (X1.out.trans q10.ext)).app (Cells.one (HXX.out w10) rfl))
         clear q10))
    all_goals go_wp2_with fail
    all_goals (
      go_meet
      case rel => exact ⟨_, _, rfl, E10.out, S10.out⟩)
  case rest =>
    obtain ⟨A8, c8, rfl, e8, s8⟩ := hcut
    have E8 := Lib.hid e8
    have S8 := Lib.hid s8
    have HLM : Hid ((L ++ [p]).length = n + 1) := by show _ = _; simp [HL.out]
    obtain ⟨MM, hMM⟩ : ∃ M, M = L ++ [p] := ⟨_, rfl⟩
    have PM : Hid (∀ x : Tm, ((x.kind = 1 ∨ x.kind = 3) → matchB [x] L = true → matchB [x] MM = true) ∧ ((x.kind = 2 ∨ x.kind = 4) → matchB [x] MM = true → matchB [x] L = true) ∧ (x.kind ≠ 1 → x.kind ≠ 2 → x.kind ≠ 3 → x.kind ≠ 4 → matchB [x] L = false ∧ matchB [x] MM = false)) := fun x => by
      rw [hMM]
      exact ⟨more_in x L p, more_not x L p, fun h1 h2 h3 h4 => ⟨more_else x _ h1 h2 h3 h4, more_else x _ h1 h2 h3 h4⟩⟩
    rw [← hMM] at S8 HLM
    clear e8 s8 hMM t0 t1 E1 BX hW1 hb1 FX HXX KL FL OL mn mm
    go_wp2_with fail
    go_loopw [33] (fun i wr => ∃ k : Nat, k ≤ m ∧ i = .int .i64 k ∧ Ext wc wr) (fun i _ => m - (intOf i).toNat)
    case atStart => exact ⟨0, by omega, rfl, Ext.refl _⟩
    obtain ⟨k, hk, rfl, he⟩ := hrel
    have HE := Lib.hid he
    clear he
    by_cases hlt : k < m
    · obtain ⟨b, o, x, A', c', hA', hxk, ok1, ok2, ok3, ok4, hvx, q0, q1, q2⟩ := (SM.out.ext RTerm.keeps (X1.out.trans (E8.out.trans HE.out))).term (k := k) (by rw [HM.out]; exact hlt)
      subst hA'
      obtain ⟨key, kind, vals⟩ := x
      simp only at ok1 ok2 ok3 hvx q0 q1 q2
      obtain ⟨W5, hW5⟩ : ∃ W, wr.alloc (.cells #[.string key, .int .i64 kind, .slice A' vals.length c'] 29) = W := ⟨_, rfl⟩
      obtain ⟨b5, hb5⟩ : ∃ n, wr.heap.size = n := ⟨_, rfl⟩
      have B5 := WB.new wr 29 #[.string key, .int .i64 kind, .slice A' vals.length c']
      rw [hW5, hb5] at B5
      have BT := Lib.hid B5
      have X5 : Hid (Ext wr W5) := by rw [← hW5]; exact (Ext.refl _).alloc _
      have b5lt : b5 < W5.heap.size := B5.lt
      have PX := Lib.hid (PM.out ⟨key, kind, vals⟩)
      simp only at PX
      have SLT : Hid (∀ wx bb, Ext W5 wx → WB wx bb 29 #[.string key, .int .i64 kind, .slice A' vals.length c'] → Sl RTerm 3 wx (some ⟨bb, 0, none⟩) [⟨key, kind, vals⟩]) := fun wx bb e h =>
        sl_term1 wx bb key kind vals A' c' ok1 ok2 ok3 ok4 (hvx.ext RStr.keeps (X5.out.trans e)) h
      have SLX : Hid (∀ wx, Ext W5 wx → Sl RPair 2 wx A L ∧ Sl RPair 2 wx A8 MM) := fun wx e => ⟨SL.out.ext RPair.keeps (X1.out.trans (E8.out.trans (HE.out.trans (X5.out.trans e)))), S8.out.ext RPair.keeps (HE.out.trans (X5.out.trans e))⟩
      have N1 : Hid (∀ o : Obj, o = .cells #[.string key, .int .i64 kind, .slice A' vals.length c'] 29 → WB (W5.alloc o).drew W5.heap.size 29 #[.string key, .int .i64 kind, .slice A' vals.length c']) := fun o h => by subst h; exact (WB.new _ _ _).drew
      have N2 : Hid (∀ o o' : Obj, o = .cells #[.string key, .int .i64 kind, .slice A' vals.length c'] 29 → WB ((W5.alloc o).alloc o').drew W5.heap.size 29 #[.string key, .int .i64 kind, .slice A' vals.length c']) := fun o o' h => by subst h; exact ((WB.new _ _ _).alloc _).drew
      have N3 : Hid (∀ o o' : Obj, o' = .cells #[.string key, .int .i64 kind, .slice A' vals.length c'] 29 → WB ((W5.alloc o).alloc o').drew (W5.heap.size + 1) 29 #[.string key, .int .i64 kind, .slice A' vals.length c']) := fun o o' h => by subst h; have := (WB.new (W5.alloc o) 29 #[.string key, .int .i64 kind, .slice A' vals.length c']).drew; simpa using this
      obtain ⟨va, hva⟩ : ∃ v, v = matchB [⟨key, kind, vals⟩] L := ⟨_, rfl⟩
      obtain ⟨vb, hvb⟩ : ∃ v, v = matchB [⟨key, kind, vals⟩] MM := ⟨_, rfl⟩
      have V1 : Hid (matchB [⟨key, kind, vals⟩] L = va) := hva.symm
      have V2 : Hid (matchB [⟨key, kind, vals⟩] MM = vb) := hvb.symm
      rw [← hva, ← hvb] at PX
      clear hxk ok1 ok2 ok3 ok4 hvx hva hvb B5
      have p0 := BT.out.cell (i := 0) rfl
      have p1 := BT.out.cell (i := 1) rfl
      have p2 := BT.out.cell (i := 2) rfl
      go_wp2_with fail
      go_cut [11, 12, 33] from 33 to 67 (fun s11 s12 s33 wx => s11 = .bool va ∧ s12 = .bool vb ∧ s33 = .int .i64 k ∧ Ext W5 wx)
      case first =>
        go_region_law (first
          | (with_reducible refine at_slot 40 ?_; have X6' := X6; clear X6'; go_simp; go_at_call 12
             refine (match_len (some ⟨_, 0, none⟩) 1 [⟨key, kind, vals⟩] A c L 1 n _ rfl HL.out HM1.out ?_ HM0.out ?_).mono ?_
             · first | exact SLT.out _ _ (X6.out.alloc _) (WB.new w6 _ _) | exact SLT.out _ _ X6.out ((N1.out _ rfl).ext Y6.out) | exact SLT.out _ _ X6.out ((N2.out _ _ rfl).ext Y6.out) | exact SLT.out _ _ X6.out ((N3.out _ _ rfl).ext Y6.out)
             · first | exact (SLX.out _ X6.out).1 | exact (SLX.out _ (X6.out.alloc _)).1
             rintro e w7 ⟨rfl, e7⟩
             rw [V1.out]
             have X7 : Hid (Ext W5 w7) := by first | exact X6.out.trans e7 | exact (X6.out.alloc _).trans e7
             clear e7)
          | (with_reducible refine at_slot 44 ?_; have X6' := X6; clear X6'; go_simp; go_at_call 12
             refine (match_len (some ⟨_, 0, none⟩) 1 [⟨key, kind, vals⟩] A8 c8 MM 1 (n + 1) _ rfl HLM.out HM1.out ?_ HM2.out ?_).mono ?_
             · first | exact SLT.out _ _ (X6.out.alloc _) (WB.new w6 _ _) | exact SLT.out _ _ X6.out ((N1.out _ rfl).ext Y6.out) | exact SLT.out _ _ X6.out ((N2.out _ _ rfl).ext Y6.out) | exact SLT.out _ _ X6.out ((N3.out _ _ rfl).ext Y6.out)
             · first | exact (SLX.out _ X6.out).2 | exact (SLX.out _ (X6.out.alloc _)).2
             rintro e w7 ⟨rfl, e7⟩
             rw [V2.out]
             have X7 : Hid (Ext W5 w7) := by first | exact X6.out.trans e7 | exact (X6.out.alloc _).trans e7
             clear e7)
          | (with_reducible refine at_slot 40 ?_; go_simp; go_at_call 12
             refine (match_len (some ⟨_, 0, none⟩) 1 [⟨key, kind, vals⟩] A c L 1 n _ rfl HL.out HM1.out ?_ HM0.out ?_).mono ?_
             · first | exact SLT.out _ _ ((Ext.refl W5).alloc _).drew (N1.out _ rfl) | exact SLT.out _ _ (((Ext.refl W5).alloc _).alloc _).drew (N2.out _ _ rfl) | exact SLT.out _ _ (((Ext.refl W5).alloc _).alloc _).drew (N3.out _ _ rfl)
             · first | exact (SLX.out _ ((Ext.refl W5).alloc _).drew).1 | exact (SLX.out _ (((Ext.refl W5).alloc _).alloc _).drew).1
             rintro e w6 ⟨rfl, e6⟩
             rw [V1.out]
             have Y6 := Lib.hid e6
             have X6 : Hid (Ext W5 w6) := by first | exact ((Ext.refl W5).alloc _).drew.trans e6 | exact (((Ext.refl W5).alloc _).alloc _).drew.trans e6
             have z0 := (BT.out.ext X6.out).cell (i := 0) rfl
             have z1 := (BT.out.ext X6.out).cell (i := 1) rfl
             have z2 := (BT.out.ext X6.out).cell (i := 2) rfl
             clear e6)
          | (with_reducible refine at_slot 44 ?_; go_simp; go_at_call 12
             refine (match_len (some ⟨_, 0, none⟩) 1 [⟨key, kind, vals⟩] A8 c8 MM 1 (n + 1) _ rfl HLM.out HM1.out ?_ HM2.out ?_).mono ?_
             · first | exact SLT.out _ _ ((Ext.refl W5).alloc _).drew (N1.out _ rfl) | exact SLT.out _ _ (((Ext.refl W5).alloc _).alloc _).drew (N2.out _ _ rfl) | exact SLT.out _ _ (((Ext.refl W5).alloc _).alloc _).drew (N3.out _ _ rfl)
             · first | exact (SLX.out _ ((Ext.refl W5).alloc _).drew).2 | exact (SLX.out _ (((Ext.refl W5).alloc _).alloc _).drew).2
             rintro e w6 ⟨rfl, e6⟩
             rw [V2.out]
             have Y6 := Lib.hid e6
             have X6 : Hid (Ext W5 w6) := by first | exact ((Ext.refl W5).alloc _).drew.trans e6 | exact (((Ext.refl W5).alloc _).alloc _).drew.trans e6
             have z0 := (BT.out.ext X6.out).cell (i := 0) rfl
             have z1 := (BT.out.ext X6.out).cell (i := 1) rfl
             have z2 := (BT.out.ext X6.out).cell (i := 2) rfl
             clear e6))
        all_goals (
          go_wp2_with fail
          go_meet
          case rel => exact ⟨rfl, rfl, rfl, X7.out⟩)
      case rest =>
        obtain ⟨rfl, rfl, rfl, e9⟩ := hcut
        have f1 := (BT.out.ext e9).cell (i := 1) rfl
        have E9 := Lib.hid (HE.out.trans (X5.out.trans e9))
        clear e9 p0 p1 p2 q0 q1 q2 SLT SLX N1 N2 N3 BT hW5 hb5 V1 V2
        have hkc : kind = 1 ∨ kind = 3 ∨ kind = 2 ∨ kind = 4 ∨ (kind ≠ 1 ∧ kind ≠ 2 ∧ kind ≠ 3 ∧ kind ≠ 4) := by omega
        rcases hkc with rfl | rfl | rfl | rfl | ⟨k1, k2, k3, k4⟩
        · cases va
          · have _u := X1
            go_wp2_with fail
            go_roundw
            case rel => exact ⟨k + 1, by omega, by go_num, E9.out⟩
            case measure => simp [intOf]; omega
          · have h := PX.out.1 (.inl rfl) rfl
            subst h
            go_wp2_with fail
            go_roundw
            case rel => exact ⟨k + 1, by omega, by go_num, E9.out⟩
            case measure => simp [intOf]; omega
        · cases va
          · have _u := X1
            go_wp2_with fail
            go_roundw
            case rel => exact ⟨k + 1, by omega, by go_num, E9.out⟩
            case measure => simp [intOf]; omega
          · have h := PX.out.1 (.inr rfl) rfl
            subst h
            go_wp2_with fail
            go_roundw
            case rel => exact ⟨k + 1, by omega, by go_num, E9.out⟩
            case measure => simp [intOf]; omega
        · cases vb
          · have _u := X1
            go_wp2_with fail
            go_roundw
            case rel => exact ⟨k + 1, by omega, by go_num, E9.out⟩
            case measure => simp [intOf]; omega
          · have h := PX.out.2.1 (.inl rfl) rfl
            subst h
            go_wp2_with fail
            go_roundw
            case rel => exact ⟨k + 1, by omega, by go_num, E9.out⟩
            case measure => simp [intOf]; omega
        · cases vb
          · have _u := X1
            go_wp2_with fail
            go_roundw
            case rel => exact ⟨k + 1, by omega, by go_num, E9.out⟩
            case measure => simp [intOf]; omega
          · have h := PX.out.2.1 (.inr rfl) rfl
            subst h
            go_wp2_with fail
            go_roundw
            case rel => exact ⟨k + 1, by omega, by go_num, E9.out⟩
            case measure => simp [intOf]; omega
        · obtain ⟨h1, h2⟩ := PX.out.2.2 k1 k2 k3 k4
          subst h1 h2
          (go_wp2_with fail
           go_roundw
           case rel => exact ⟨k + 1, by omega, by go_num, E9.out⟩
           case measure => simp [intOf]; omega)
    · go_wp2_with fail
      go_ret
      exact ⟨rfl, X1.out.trans (E8.out.trans HE.out)⟩
end Go.Proofs.Ythfafenigjldlaa
