/-
  'interrexlaw1.TaintMore': the walk.
-/
import Derived.Test.YthfafenigjldlaaApp1
import Derived.Test.YthfafenigjldlaaGet7
import Derived.Test.YthfafenigjldlaaLMore
namespace Go.Proofs.Ythfafenigjldlaa
open Go.RowKit
set_option linter.unusedVariables false

theorem taint_infoP : (Try.prog.info? 44).map (fun i => (i.zero, i.size, i.bytes)) = some (some (.agg #[.string ⟨#[]⟩, .string ⟨#[]⟩]), 2, 32) := by kernel_rfl

set_option maxRecDepth 20000 in
set_option maxHeartbeats 8000000 in
theorem taintMore_any (HBA : Hid (∀ w : World, Calls Try.prog 10 #[] w fun e w' => e = .returned (.bool true) ∧ Ext w w')) (A : Option Addr) (c : Nat) (tl : List Tl) (B : Option Addr) (d : Nat) (ts : List Pr) (t : Tl) (x : Pr) (w : World)
    (hl : tl.length ≤ c) (hc : c ≤ maxLen) (hA : Sl RTol 3 w A tl) (hv : ts.length ≤ d) (hd : d ≤ maxLen) (hB : Sl RPair 2 w B ts) (ht : okS t.key ∧ okS t.val) (hx : okS x.key ∧ okS x.val) :
    Calls Try.prog 8 #[.slice A tl.length c, .slice B ts.length d, .agg #[.string t.key, .string t.val, .bool t.any], .agg #[.string x.key, .string x.val]] w fun e w' => e = .returned (.bool true) ∧ Ext w w' := by
  obtain ⟨i0, hi0, hz0, hz1, hz2⟩ := info_parts toler_info
  obtain ⟨j0, hj0, hy0, hy1, hy2⟩ := info_parts taint_infoP
  obtain ⟨n, n1, n2, N, mn⟩ := min_lit (P := Try.prog) tl.length 5 5 rfl
  obtain ⟨m, m1, m2, M, mm⟩ := min_lit (P := Try.prog) ts.length 5 5 rfl
  have HL : Hid ((tl.take 5).length = n) := by show _ = _; rw [List.length_take, N.out]; omega
  have HM : Hid ((ts.take 5).length = m) := by show _ = _; rw [List.length_take, M.out]; omega
  obtain ⟨CL, kl, fl⟩ := (hA.take 5).cells
  obtain ⟨CM, km, fm⟩ := (hB.take 5).cells
  have OL := Lib.hid (kl.oneCell RTol.one)
  have OM := Lib.hid (km.oneCell RPair.one)
  have SL := Lib.hid (hA.take 5)
  have SM := Lib.hid (hB.take 5)
  rw [HL.out] at fl
  rw [HM.out] at fm
  obtain ⟨L, hL⟩ : ∃ L, L = tl.take 5 := ⟨_, rfl⟩
  obtain ⟨T, hT⟩ : ∃ L, L = ts.take 5 := ⟨_, rfl⟩
  rw [← hL] at HL kl SL
  rw [← hT] at HM km SM
  have hc' := hc
  have hd' := hd
  unfold maxLen at hc' hd'
  have HM0 : Hid (n ≤ maxLen) := by show _ ≤ _; unfold maxLen; omega
  have HM1 : Hid (m ≤ maxLen) := by show _ ≤ _; unfold maxLen; omega
  have HM2 : Hid (n + 1 ≤ maxLen) := by show _ ≤ _; unfold maxLen; omega
  have HM3 : Hid (m + 1 ≤ maxLen) := by show _ ≤ _; unfold maxLen; omega
  have KL := Lib.hid kl
  have KM := Lib.hid km
  have FL := Lib.hid fl
  have FM := Lib.hid fm
  have HXT : Hid (∀ w, RTol w [.string t.key, .string t.val, .bool t.any] t) := fun w => ⟨rfl, ht.1, ht.2⟩
  have HXX : Hid (∀ w, RPair w [.string x.key, .string x.val] x) := fun w => ⟨rfl, hx.1, hx.2⟩
  obtain ⟨a, ha⟩ : ∃ s, s = allB L T := ⟨_, rfl⟩
  obtain ⟨b, hb⟩ : ∃ s, s = allB (L ++ [t]) T := ⟨_, rfl⟩
  obtain ⟨cc, hcc⟩ : ∃ s, s = allB L (T ++ [x]) := ⟨_, rfl⟩
  have V1 : Hid (allB L T = a) := ha.symm
  have V2 : Hid (allB (L ++ [t]) T = b) := hb.symm
  have V3 : Hid (allB L (T ++ [x]) = cc) := hcc.symm
  have PB : Hid (a = true → b = true) := fun h => by rw [hb]; exact all_more_tols L T t (by rw [← ha]; exact h)
  have PC : Hid (a = false → cc = false) := fun h => by
    cases hq : cc
    · rfl
    · rw [ha, all_more_taints L T x (by rw [← hcc]; exact hq)] at h; cases h
  have FN : Hid (∀ wx : World, Flat (wx.alloc (.cells #[.string t.key, .string t.val, .bool t.any] 43)) 3 (some ⟨wx.heap.size, 0, none⟩) 1 [.string t.key, .string t.val, .bool t.any]) := fun wx => flat_new wx _ 3 1 #[_, _, _] rfl
  have FX : Hid (∀ wx : World, Flat (wx.alloc (.cells #[.string x.key, .string x.val] 44)) 2 (some ⟨wx.heap.size, 0, none⟩) 1 [.string x.key, .string x.val]) := fun wx => flat_new wx _ 2 1 #[_, _] rfl
  obtain ⟨W0, hW0⟩ : ∃ W1, w.alloc (.cells #[.string t.key, .string t.val, .bool t.any] 43) = W1 := ⟨_, rfl⟩
  obtain ⟨b1, hb1⟩ : ∃ n, w.heap.size = n := ⟨_, rfl⟩
  have B0 := WB.new w 43 #[.string t.key, .string t.val, .bool t.any]
  rw [hW0, hb1] at B0
  obtain ⟨W1, hW1⟩ : ∃ W1, W0.alloc (.cells #[.string x.key, .string x.val] 44) = W1 := ⟨_, rfl⟩
  obtain ⟨b2, hb2⟩ : ∃ n, W0.heap.size = n := ⟨_, rfl⟩
  have B1 := WB.new W0 44 #[.string x.key, .string x.val]
  rw [hW1, hb2] at B1
  have B00 : WB W1 b1 43 #[.string t.key, .string t.val, .bool t.any] := by rw [← hW1]; exact B0.alloc _
  have BT := Lib.hid B00
  have BX := Lib.hid B1
  have X1 : Hid (Ext w W1) := by rw [← hW1, ← hW0]; exact ((Ext.refl _).alloc _).alloc _
  have hb12 : b2 = b1 + 1 := by rw [← hb2, ← hW0]; simp [hb1]
  have hb22 : W0.heap.size = b1 + 1 := by rw [hb2, hb12]
  subst hb12
  clear hL hT kl km fl fm N M hA hB hc hd ha hb hcc ht hx B0 B1 B00 hb2
  go_enter Try.func8, Try.ntmps8
  go_wp2_with fail
  refine (HBA.out _).mono ?_
  rintro e w1 ⟨rfl, a1⟩
  have E1 := Lib.hid (a1.drew)
  clear a1
  go_wp2_with fail
  go_region
  go_wp2_with fail
  refine (all_len A c L B d T n m _ HL.out HM.out HM0.out (SL.out.ext RTol.keeps (X1.out.trans E1.out)) HM1.out (SM.out.ext RPair.keeps (X1.out.trans E1.out))).mono ?_
  rintro e w5 ⟨rfl, e5⟩
  rw [V1.out]
  have E5 := Lib.hid (E1.out.trans e5)
  clear e5 E1
  have t0 := (BT.out.ext E5.out).cell (i := 0) rfl
  have t1 := (BT.out.ext E5.out).cell (i := 1) rfl
  have t2 := (BT.out.ext E5.out).cell (i := 2) rfl
  go_wp2_with fail
  go_region_law (first
    | (refine step_copy _ rfl _ (.tmp 29) 40 rfl 43 i0 _ 3 40 Try.underlying40 hi0 hz0 hz1 hz2 rfl (by decide) rfl A n c CL rfl ?_ OL.out HM0.out (by omega) W1 ?_ ?_
       · first | exact FL.out.ext (X1.out.trans E5.out.drew) | exact FL.out.ext (X1.out.trans (E5.out.alloc _).drew)
       · first | exact E5.out.drew | exact (E5.out.alloc _).drew
       intro A6 c6 w6 q6 x6
       have C6 := Lib.hid q6
       have X6 := Lib.hid x6
       have s0 := (BT.out.ext q6.ext).cell (i := 0) rfl
       have s1 := (BT.out.ext q6.ext).cell (i := 1) rfl
       have s2 := (BT.out.ext q6.ext).cell (i := 2) rfl
       have sz : b1 < w6.heap.size := (BT.out.ext q6.ext).lt
       clear q6 x6)
    | (refine step_more _ rfl (.tmp 30) (.tmp 32) 40 rfl 43 i0 _ 3 40 Try.underlying40 hi0 hz0 hz1 hz2 rfl (by decide) A6 n c6 CL rfl W1 ?_ _ 1 1 [.string t.key, .string t.val, .bool t.any] rfl ?_ (by simp [Value.oneCell']) HM2.out (by omega) ?_
       · first | exact C6.out | exact C6.out.more ((Ext.refl _).alloc _)
       · first | exact FN.out _ | exact ((FN.out _).drew).ext X6.out
       intro A7 c7 w7 q7
       have E7 := Lib.hid q7.ext
       have S7 : Hid (Sl RTol 3 w7 A7 (L ++ [t])) := q7.sl (by simp [HL.out]) ((KL.out.ext RTol.keeps (X1.out.trans q7.ext)).app (Cells.one (HXT.out w7) rfl))
       clear q7)
    | (go_simp
       go_at_call 15
       refine (all_len A7 c7 (L ++ [t]) B d T (n + 1) m _ (by simp [HL.out]) HM.out HM2.out S7.out HM1.out (SM.out.ext RPair.keeps (X1.out.trans E7.out))).mono ?_
       rintro e w8 ⟨rfl, e8⟩
       rw [V2.out]
       have E8 := Lib.hid (E7.out.trans e8)
       clear e8))
  all_goals (
    have u0 := (BX.out.ext E8.out).cell (i := 0) rfl
    have u1 := (BX.out.ext E8.out).cell (i := 1) rfl
    clear t0 t1 t2
    go_wp2_with fail
    go_region_law (first
      | (refine step_copy _ rfl _ (.tmp 37) 41 rfl 44 j0 _ 2 32 Try.underlying41 hj0 hy0 hy1 hy2 rfl (by decide) rfl B m d CM rfl ?_ OM.out HM1.out (by omega) W1 ?_ ?_
         · first | exact FM.out.ext (X1.out.trans E8.out.drew) | exact FM.out.ext (X1.out.trans (E8.out.alloc _).drew)
         · first | exact E8.out.drew | exact (E8.out.alloc _).drew
         intro A9 c9 w9 q9 x9
         have C9 := Lib.hid q9
         have X9 := Lib.hid x9
         have s0 := (BX.out.ext q9.ext).cell (i := 0) rfl
         have s1 := (BX.out.ext q9.ext).cell (i := 1) rfl
         have sz : b1 + 1 < w9.heap.size := (BX.out.ext q9.ext).lt
         clear q9 x9)
      | (refine step_more _ rfl (.tmp 38) (.tmp 40) 41 rfl 44 j0 _ 2 32 Try.underlying41 hj0 hy0 hy1 hy2 rfl (by decide) A9 m c9 CM rfl W1 ?_ _ 1 1 [.string x.key, .string x.val] rfl ?_ (by simp [Value.oneCell']) HM3.out (by omega) ?_
         · first | exact C9.out | exact C9.out.more ((Ext.refl _).alloc _)
         · first | exact FX.out _ | exact ((FX.out _).drew).ext X9.out
         intro A10 c10 w10 q10
         have E10 := Lib.hid q10.ext
         have S10 : Hid (Sl RPair 2 w10 A10 (T ++ [x])) := q10.sl (by simp [HM.out]) ((KM.out.ext RPair.keeps (X1.out.trans q10.ext)).app (Cells.one (HXX.out w10) rfl))
         clear q10)
      | (go_simp
         go_at_call 15
         refine (all_len A c L A10 c10 (T ++ [x]) n (m + 1) _ HL.out (by simp [HM.out]) HM0.out (SL.out.ext RTol.keeps (X1.out.trans E10.out)) HM3.out S10.out).mono ?_
         rintro e w11 ⟨rfl, e11⟩
         rw [V3.out]
         have E11 := Lib.hid (E10.out.trans e11)
         clear e11)))
  all_goals (
    clear hW0 hb1 hW1
    cases a
    · have h3 : cc = false := PC.out rfl
      subst h3
      go_wp2_with fail
      go_ret
      exact ⟨rfl, X1.out.trans E11.out⟩
    · have h3 : b = true := PB.out rfl
      subst h3
      cases cc
      all_goals (
        go_wp2_with fail
        go_ret
        exact ⟨rfl, X1.out.trans E11.out⟩))
end Go.Proofs.Ythfafenigjldlaa
