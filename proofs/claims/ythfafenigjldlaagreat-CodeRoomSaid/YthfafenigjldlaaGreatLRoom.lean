/-
  'interrexlaw1.CodeRoom': the walk (printed by mkroomw.py).
-/
import Derived.Test.YthfafenigjldlaaGreatRoom2
import Derived.Test.YthfafenigjldlaaGreatEq4
import Derived.Deep.CutBlock
import Derived.Deep.CutRange
import Derived.Deep.RegionHeld3
namespace Go.Proofs.YthfafenigjldlaaGreat
open Go.RowKit
set_option linter.unusedVariables false

set_option maxRecDepth 20000 in
set_option maxHeartbeats 16000000 in
theorem codeRoom_any (HBA : Hid (∀ w : World, Calls Tryz.prog 17 #[] w fun e w' => e = .returned (.bool true) ∧ Ext w w')) (n k : Int) (w : World) (hn : inI n) (hk : inI k) :
    Calls Tryz.prog 15 #[.int .i64 n, .int .i64 k] w fun e w' => e = .returned (.bool true) ∧ Ext w w' := by
  obtain ⟨nn, nn1, x1, x2, x3⟩ := mod_idxR n 8 (by omega)
  rw [show ((8 : Nat) : Int) = 8 from rfl] at x1 x2 x3
  obtain ⟨xx, hxx⟩ : ∃ x, n.tmod 8 = x := ⟨_, rfl⟩
  rw [hxx] at x1 x2 x3
  have sx : IntKind.i64.wrap (xx + 8) = xx + 8 := IntWalk.i64_in _ (by omega)
  obtain ⟨kk, kk1, y1, y2, y3⟩ := mod_idxR k 12 (by omega)
  rw [show ((12 : Nat) : Int) = 12 from rfl] at y1 y2 y3
  obtain ⟨yy, hyy⟩ : ∃ x, k.tmod 12 = x := ⟨_, rfl⟩
  rw [hyy] at y1 y2 y3
  have sy : IntKind.i64.wrap (yy + 12) = yy + 12 := IntWalk.i64_in _ (by omega)
  have sk : IntKind.i64.wrap (1 + (kk : Int)) = 1 + (kk : Int) := IntWalk.i64_in _ (by omega)
  obtain ⟨K, hK⟩ : ∃ K : Nat, 1 + (kk : Int) = (K : Int) := ⟨1 + kk, by omega⟩
  have K1 : 1 ≤ K := by omega
  have K2 : K ≤ 12 := by omega
  obtain ⟨j0, hj0, jz0, jz1, jz2⟩ := info_parts int_info
  obtain ⟨k0, hk0, kz0, kz1, kz2⟩ := info_parts pair_info
  obtain ⟨l0, hl0, lz0, lz1, lz2⟩ := info_parts term_info
  obtain ⟨t0, ht0, tz0, tz1, tz2⟩ := info_parts toler_info
  obtain ⟨s0, hs0, sz0, sz1, sz2⟩ := info_parts string_info
  obtain ⟨a0, ha0, az0, az1, az2⟩ := info_parts taint_info
  clear hn hk
  go_enter Tryz.func15, Tryz.ntmps15
  go_wp2_with fail
  refine (HBA.out _).mono ?_
  rintro e w1 ⟨rfl, e1⟩
  have E1 := Lib.hid e1
  clear e1
  go_wp2_with fail
  obtain ⟨L, hL⟩ : ∃ L, longS K = L := ⟨_, rfl⟩
  have hL' : (⟨#[97, 98, 99, 100, 101, 102, 103, 104, 105, 106, 107, 108]⟩ : ByteArray).extract 0 K = L := hL
  rw [hL']
  have HL := Lib.hid hL
  have LOK : Hid (okS L) := by show okS L; rw [← hL]; exact longS_ok K2
  have LSZ : Hid (L.size = K) := by show _ = _; rw [← hL]; exact longS_size K2
  clear hL hL' x1 x2 x3 y1 y2 y3 hxx hyy sx sy sk hK
  go_loopw [7, 8] (fun s i wr => ∃ (j : Nat) (A : Option Addr) (c : Nat), j ≤ 6 ∧ i = .int .i64 j ∧ s = .slice A j c ∧ Cop w1 wr 9 1 A j c (List.replicate j (.string L))) (fun _ i _ => 6 - (intOf i).toNat)
  case atStart => exact ⟨0, none, 0, by omega, rfl, rfl, cop_none w1 _ _⟩
  obtain ⟨j, A, c, hj, rfl, rfl, hcop⟩ := hrel
  have HC := Lib.hid hcop
  clear hcop
  by_cases hlt : j < 6
  · as_aux_lemma =>
    have HC3 : Hid (∀ o, Cop w1 (wr.alloc o) 9 1 A j c (List.replicate j (.string L))) := fun o => HC.out.more ((Ext.refl _).alloc _)
    have FN : Hid (Flat (wr.alloc (.cells #[.string L] 9)) 1 (some ⟨wr.heap.size, 0, none⟩) 1 [.string L]) := flat_new wr 9 1 1 #[_] rfl
    clear HC
    go_wp2_with (first
      | (at_builtin
         refine wpList_more _ rfl (.tmp 35) (.tmp 37) 39 rfl 9 s0 _ 1 16 Tryz.underlying39 hs0 sz0 sz1 sz2 rfl (by decide) A j c _ rfl w1 (HC3.out _) _ 1 1 _ rfl FN.out (by simp [Value.oneCell']) (by unfold maxLen; omega) (by omega) ?_
         intro A4 c4 w4 q4
         have Q4 : Hid (Cop w1 w4 9 1 A4 (j + 1) c4 (List.replicate (j + 1) (.string L))) := by rw [rep_succ]; exact q4
         clear q4))
    go_roundw
    case rel => exact ⟨j + 1, A4, c4, by omega, by go_num, rfl, Q4.out⟩
    case measure => simp [intOf]; omega
  obtain rfl : j = 6 := by omega
  rw [show ((6 : Nat) : Int) = 6 from rfl]
  have VR : Hid (Rowz RStr 9 1 w1.heap.size wr A c (List.replicate 6 L)) := cop_rowz HC.out LOK.out
  have VE : Hid (Ext w1 wr) := HC.out.ext
  clear HC hlt hj
  go_upto_region 13 with fail
  obtain ⟨P, hP⟩ : ∃ P, wr.heap.size = P := ⟨_, rfl⟩
  have BP := WB.new wr 66 #[.string L, .int .i64 1099511627776, .int .i64 1000, .int .i64 1000000000, .int .i64 1000000000, .int .i64 1000000000, .slice none 0 0, .slice none 0 0, .slice none 0 0, .slice none 0 0, .string L, .slice none 0 0, .int .i64 10, .slice none 0 0, .string L, .int .i64 1099511627776]
  obtain ⟨W3, hW3⟩ : ∃ W, wr.alloc (.cells #[.string L, .int .i64 1099511627776, .int .i64 1000, .int .i64 1000000000, .int .i64 1000000000, .int .i64 1000000000, .slice none 0 0, .slice none 0 0, .slice none 0 0, .slice none 0 0, .string L, .slice none 0 0, .int .i64 10, .slice none 0 0, .string L, .int .i64 1099511627776] 66) = W := ⟨_, rfl⟩
  have X3 : Ext wr W3 := by rw [← hW3]; exact (Ext.refl _).alloc _
  rw [hW3, hP] at BP
  obtain ⟨M, hM1⟩ : ∃ M, P + 1 = M := ⟨_, rfl⟩
  have hM : W3.heap.size = M := by rw [← hM1, ← hP, ← hW3]; simp
  have BM := WB.new W3 68 #[.string L, .int .i64 1000000000, .int .i64 1000000000, .int .i64 1000000000, .slice none 0 0, .slice none 0 0]
  obtain ⟨W4, hW4⟩ : ∃ W, W3.alloc (.cells #[.string L, .int .i64 1000000000, .int .i64 1000000000, .int .i64 1000000000, .slice none 0 0, .slice none 0 0] 68) = W := ⟨_, rfl⟩
  have X4 : Ext W3 W4 := by rw [← hW4]; exact (Ext.refl _).alloc _
  rw [hW4, hM] at BM
  have RS0 : Hid (RS w1.heap.size P M (roomP K 0) q0 (roomN K 0) ⟨none, 0, none, 0⟩ W4) := by
    refine ⟨?_, ?_, Nat.le_trans VE.out.size (Nat.le_trans X3.size X4.size), room_own0 _ _ _, room_nown0 _ _ _, fun a b h => by cases h⟩
    · have := BP.ext X4
      rw [← HL.out] at this
      exact this
    · have := BM
      rw [← HL.out] at this
      exact this
  have VR4 : Hid (Rowz RStr 9 1 w1.heap.size W4 A c (List.replicate 6 L)) := (VR.out.ext RStr.keeps X3).ext RStr.keeps X4
  have VE4 : Hid (Ext w1 W4) := VE.out.trans (X3.trans X4)
  have GP : Hid (w1.heap.size ≤ P ∧ w1.heap.size ≤ M) := ⟨by rw [← hP]; exact VE.out.size, by rw [← hM]; exact Nat.le_trans VE.out.size X3.size⟩
  rw [hP, hW3]
  rw [hM1, hW4]
  clear X3 X4 BP BM hP hM hM1 hW3 hW4 VE VR
  go_wp2_with fail
  go_loopw [11] (fun i wr => ∃ (j : Nat) (Q : PA) (N : NA), j ≤ nn ∧ i = .int .i64 j ∧ Ext w1 wr ∧ RS w1.heap.size P M (roomP K j) Q (roomN K j) N wr ∧ Rowz RStr 9 1 w1.heap.size wr A c (List.replicate 6 L)) (fun i _ => nn - (intOf i).toNat)
  case atStart => exact ⟨0, q0, _, by omega, rfl, VE4.out, RS0.out, VR4.out⟩
  clear RS0 VR4 VE4
  obtain ⟨j, Q, N, hj, rfl, he, hrs, hvr⟩ := hrel
  have HE := Lib.hid he
  have HR := Lib.hid hrs
  have HV := Lib.hid hvr
  clear he hrs hvr
  obtain ⟨A1, d1, A2, d2, A3, d3, A4, d4, A5, d5, A6, d6⟩ := Q
  obtain ⟨N1, e1, N2, e2⟩ := N
  by_cases hlt : j < nn
  · as_aux_lemma =>
    have su8 : IntKind.u8.wrap (97 + (j : Int)) = 97 + (j : Int) := by rw [IntKind.wrap_u8]; omega
    obtain ⟨W5, hW5⟩ : ∃ W, wr.alloc (.cells #[.int .u8 (97 + (j : Int))] 5) = W := ⟨_, rfl⟩
    obtain ⟨q5, hq5⟩ : ∃ q, wr.heap.size = q := ⟨_, rfl⟩
    have B5 : WB W5 q5 5 #[.int .u8 (97 + (j : Int))] := by rw [← hW5, ← hq5]; exact WB.new wr _ _
    have X5 : Hid (Ext wr W5) := by rw [← hW5]; exact (Ext.refl _).alloc _
    have si : IntKind.i64.wrap (97 + (j : Int)) = 97 + (j : Int) := IntWalk.i64_in _ (by omega)
    have hj8 : j ≤ 8 := by omega
    have hconv := run_convert_bytes_arg (P := Tryz.prog) W5.drew 42 5 Tryz.underlying42 Tryz.underlying5 q5 0 1 1 [97 + (j : Int)] rfl (fun i hi => by
      obtain rfl : i = 0 := by omega
      exact B5.cell (i := 0) rfl) 9 Tryz.underlying9
    obtain ⟨mm, hm1, hm2, hm3, hmin⟩ := min_lit (P := Tryz.prog) K 11 11 rfl
    have HMM : Hid (mm = min K 11) := hm3
    have hsz : mm ≤ L.size := by rw [LSZ.out]; exact hm1
    obtain ⟨c1, hc1⟩ : ∃ s, strOfNums [97 + (j : Int)] = s := ⟨_, rfl⟩
    rw [hc1] at hconv
    have HKEY : Hid (c1 ++ L.extract 0 mm = keyR K j) := by show _ = _; rw [← hc1, ← HL.out, hm3]; exact key_eq K j
    have hcs : c1.size = 1 := by rw [← hc1]; rfl
    have hcat : ¬ 9223372036854775807 < c1.size + mm := by rw [hcs]; omega
    clear B5 hm3 hc1 hcs
    go_wp2_with fail
    go_cut [12] from 48 to 125 (fun s12 wx => s12 = .string (keyR K j) ∧ Ext wr wx)
    case first => as_aux_lemma =>
      go_region_law (fail)
      all_goals (
        go_wp2_with fail
        go_meet
        case rel => exact ⟨congrArg Value.string HKEY.out, X5.out.drew⟩)
    case rest => as_aux_lemma =>
      obtain ⟨rfl, ex⟩ := hcut
      obtain ⟨x0, hx0⟩ : ∃ x, roomP K j = x := ⟨_, rfl⟩
      obtain ⟨y0, hy0⟩ : ∃ x, roomN K j = x := ⟨_, rfl⟩
      obtain ⟨KY, hKY⟩ : ∃ s, keyR K j = s := ⟨_, rfl⟩
      have KOK : Hid (okS KY) := by show okS KY; rw [← hKY]; exact keyS_ok K2 (by omega)
      have HLN0 : Hid (x0.ports.length = j ∧ x0.labels.length = j ∧ x0.sel.length = j ∧ x0.tols.length = j ∧ x0.anti.length = j ∧ x0.even.length = j ∧ y0.labels.length = j ∧ y0.taints.length = j) := by show _ ∧ _; rw [← hx0, ← hy0]; simp [roomP, roomN]
      have HR0 : Hid (RS w1.heap.size P M x0 ⟨A1, d1, A2, d2, A3, d3, A4, d4, A5, d5, A6, d6⟩ y0 ⟨N1, e1, N2, e2⟩ wc) := by rw [← hx0, ← hy0]; exact HR.out.more ex
      have HV0 : Hid (Rowz RStr 9 1 w1.heap.size wc A c (List.replicate 6 L)) := HV.out.ext RStr.keeps ex
      have HE0 : Hid (Ext w1 wc) := HE.out.trans ex
      rw [hKY]
      have HX := Lib.hid hx0
      have HY := Lib.hid hy0
      have HK := Lib.hid hKY
      have s6 : IntKind.i64.wrap (60000 + (j : Int)) = 60000 + (j : Int) := IntWalk.i64_in _ (by omega)
      clear ex hx0 hy0 hKY HR HV HE hconv hmin HMM HKEY hcat hsz hm1 hm2 su8 si hW5 hq5 X5
      obtain ⟨ww0, hw0⟩ : ∃ W, W = wc := ⟨_, rfl⟩
      rw [← hw0] at HR0 HV0 HE0 ⊢
      clear hw0
      obtain ⟨CL0, oL, kL⟩ := HR0.out.own.r1
      have oL' : ww0.ownsRow w1.heap.size 3 1 (.slice A1 j d1) j CL0 := by rw [← HLN0.out.1]; exact oL
      have KL0 := Lib.hid kL
      obtain ⟨q0, hq0⟩ : ∃ q, ww0.heap.size = q := ⟨_, rfl⟩
      obtain ⟨v0, hW0⟩ : ∃ W, ww0.alloc (.cells #[.int .i64 (60000 + (j : Int))] 3) = W := ⟨_, rfl⟩
      have BW := WB.new ww0 3 #[.int .i64 (60000 + (j : Int))]
      rw [hW0, hq0] at BW
      have EX0 : Hid (Ext ww0 v0) := by rw [← hW0]; exact (Ext.refl _).alloc _
      have NW0 := Lib.hid (news_of BW)
      have OL0 : Hid (v0.ownsRow w1.heap.size 3 1 (.slice A1 j d1) j CL0) := own_ext oL' EX0.out
      have cc : ww0.cell? ⟨P, 6, none⟩ = some (.slice A1 j d1) := by
        have h : ww0.cell? ⟨P, 6, none⟩ = some (.slice A1 x0.ports.length d1) := HR0.out.bP.cell (i := 6) rfl
        rw [HLN0.out.1] at h
        exact h
      have UB0 : Hid (w1.heap.size ≤ v0.heap.size) := (HE0.out.trans EX0.out).size
      clear oL oL' kL BW
      go_upto_region 18 with (first
        | (at_builtin
           refine wpList_append_lies _ rfl (.tmp 64) (.tmp 67) 64 rfl w1.heap.size 3 j0 _ 1 8 Tryz.underlying64 hj0 jz0 jz1 jz2 rfl (by decide) _ j CL0 rfl OL0.out ⟨q0, 0, none⟩ 1 1 _ rfl rfl NW0.out (by simp [Value.oneCell']) (by omega) (by unfold maxLen; omega) (by omega) UB0.out _ rfl ?_
           intro g0 f0 z0 o4 g4 lie lt
           have O4 := Lib.hid o4
           have G4 := Lib.hid g4
           have LI := Lib.hid lie
           have b4 := wb_grown (HR0.out.more EX0.out).bP OL0.out g4 (by decide)
           have cf := b4.fr 6
           have cg : z0.cell? ⟨P, 6, none⟩ = some (.slice A1 x0.ports.length d1) := b4.cell (i := 6) rfl
           clear o4 g4 lie lt b4))
      obtain ⟨ww1, hw⟩ : ∃ W, z0.setCell ⟨P, 6, none⟩ (.slice (some ⟨g0, 0, none⟩) (j + 1) f0) = W := ⟨_, rfl⟩
      have st := room_app1 (w1 := w1) (x := 60000 + (j : Int)) HLN0.out.1 (HR0.out.more EX0.out) (HV0.out.ext RStr.keeps EX0.out) (HE0.out.trans EX0.out) GP.out.1 OL0.out (KL0.out.ext RInt.keeps (Own.ext EX0.out)) G4.out LI.out O4.out rfl (fun _ => ⟨rfl, by unfold inI; omega⟩)
      rw [hw] at st ⊢
      obtain ⟨x1, hx⟩ : ∃ x, ({ x0 with ports := x0.ports ++ [60000 + (j : Int)] } : Pd) = x := ⟨_, rfl⟩
      have HLN1 : Hid (x1.ports.length = j + 1 ∧ x1.labels.length = j ∧ x1.sel.length = j ∧ x1.tols.length = j ∧ x1.anti.length = j ∧ x1.even.length = j ∧ y0.labels.length = j ∧ y0.taints.length = j) := by show _ ∧ _; rw [← hx]; simp [HLN0.out.1, HLN0.out.2.1, HLN0.out.2.2.1, HLN0.out.2.2.2.1, HLN0.out.2.2.2.2.1, HLN0.out.2.2.2.2.2.1, HLN0.out.2.2.2.2.2.2.1, HLN0.out.2.2.2.2.2.2.2]
      have HR1 : Hid (RS w1.heap.size P M x1 ⟨some ⟨g0, 0, none⟩, f0, A2, d2, A3, d3, A4, d4, A5, d5, A6, d6⟩ y0 ⟨N1, e1, N2, e2⟩ ww1) := by rw [← hx]; exact st.1
      have HV1 : Hid (Rowz RStr 9 1 w1.heap.size ww1 A c (List.replicate 6 L)) := st.2.1
      have HE1 : Hid (Ext w1 ww1) := st.2.2
      have HQ0 := Lib.hid hx
      clear st hw hx O4 G4 LI cc cf cg hW0 hq0 HR0 HV0 HE0 HLN0 KL0 OL0 NW0 UB0 EX0
      obtain ⟨CL1, oL, kL⟩ := HR1.out.own.r2
      have oL' : ww1.ownsRow w1.heap.size 37 2 (.slice A2 j d2) j CL1 := by rw [← HLN1.out.2.1]; exact oL
      have KL1 := Lib.hid kL
      obtain ⟨q1, hq1⟩ : ∃ q, ww1.heap.size = q := ⟨_, rfl⟩
      obtain ⟨v1, hW1⟩ : ∃ W, ww1.alloc (.cells #[.string KY, .string L] 37) = W := ⟨_, rfl⟩
      have BW := WB.new ww1 37 #[.string KY, .string L]
      rw [hW1, hq1] at BW
      have EX1 : Hid (Ext ww1 v1) := by rw [← hW1]; exact (Ext.refl _).alloc _
      have NW1 := Lib.hid (news_of BW)
      have OL1 : Hid (v1.ownsRow w1.heap.size 37 2 (.slice A2 j d2) j CL1) := own_ext oL' EX1.out
      have cc : ww1.cell? ⟨P, 7, none⟩ = some (.slice A2 j d2) := by
        have h : ww1.cell? ⟨P, 7, none⟩ = some (.slice A2 x1.labels.length d2) := HR1.out.bP.cell (i := 7) rfl
        rw [HLN1.out.2.1] at h
        exact h
      have UB1 : Hid (w1.heap.size ≤ v1.heap.size) := (HE1.out.trans EX1.out).size
      clear oL oL' kL BW
      go_upto_region 19 with (first
        | (at_builtin
           refine wpList_append_lies _ rfl (.tmp 71) (.tmp 75) 22 rfl w1.heap.size 37 k0 _ 2 32 Tryz.underlying22 hk0 kz0 kz1 kz2 rfl (by decide) _ j CL1 rfl OL1.out ⟨q1, 0, none⟩ 1 1 _ rfl rfl NW1.out (by simp [Value.oneCell']) (by omega) (by unfold maxLen; omega) (by omega) UB1.out _ rfl ?_
           intro g1 f1 z1 o4 g4 lie lt
           have O4 := Lib.hid o4
           have G4 := Lib.hid g4
           have LI := Lib.hid lie
           have b4 := wb_grown (HR1.out.more EX1.out).bP OL1.out g4 (by decide)
           have cf := b4.fr 7
           have cg : z1.cell? ⟨P, 7, none⟩ = some (.slice A2 x1.labels.length d2) := b4.cell (i := 7) rfl
           clear o4 g4 lie lt b4))
      obtain ⟨ww2, hw⟩ : ∃ W, z1.setCell ⟨P, 7, none⟩ (.slice (some ⟨g1, 0, none⟩) (j + 1) f1) = W := ⟨_, rfl⟩
      have st := room_app2 (w1 := w1) (x := ⟨KY, L⟩) HLN1.out.2.1 (HR1.out.more EX1.out) (HV1.out.ext RStr.keeps EX1.out) (HE1.out.trans EX1.out) GP.out.1 OL1.out (KL1.out.ext RPair.keeps (Own.ext EX1.out)) G4.out LI.out O4.out rfl (fun _ => ⟨rfl, KOK.out, LOK.out⟩)
      rw [hw] at st ⊢
      obtain ⟨x2, hx⟩ : ∃ x, ({ x1 with labels := x1.labels ++ [⟨KY, L⟩] } : Pd) = x := ⟨_, rfl⟩
      have HLN2 : Hid (x2.ports.length = j + 1 ∧ x2.labels.length = j + 1 ∧ x2.sel.length = j ∧ x2.tols.length = j ∧ x2.anti.length = j ∧ x2.even.length = j ∧ y0.labels.length = j ∧ y0.taints.length = j) := by show _ ∧ _; rw [← hx]; simp [HLN1.out.1, HLN1.out.2.1, HLN1.out.2.2.1, HLN1.out.2.2.2.1, HLN1.out.2.2.2.2.1, HLN1.out.2.2.2.2.2.1, HLN1.out.2.2.2.2.2.2.1, HLN1.out.2.2.2.2.2.2.2]
      have HR2 : Hid (RS w1.heap.size P M x2 ⟨some ⟨g0, 0, none⟩, f0, some ⟨g1, 0, none⟩, f1, A3, d3, A4, d4, A5, d5, A6, d6⟩ y0 ⟨N1, e1, N2, e2⟩ ww2) := by rw [← hx]; exact st.1
      have HV2 : Hid (Rowz RStr 9 1 w1.heap.size ww2 A c (List.replicate 6 L)) := st.2.1
      have HE2 : Hid (Ext w1 ww2) := st.2.2
      have HQ1 := Lib.hid hx
      clear st hw hx O4 G4 LI cc cf cg hW1 hq1 HR1 HV1 HE1 HLN1 KL1 OL1 NW1 UB1 EX1
      obtain ⟨CL2, oL, kL⟩ := HR2.out.own.r3
      have oL' : ww2.ownsRow w1.heap.size 41 3 (.slice A3 j d3) j CL2 := by rw [← HLN2.out.2.2.1]; exact oL
      have KL2 := Lib.hid kL
      obtain ⟨q2, hq2⟩ : ∃ q, ww2.heap.size = q := ⟨_, rfl⟩
      obtain ⟨v2, hW2⟩ : ∃ W, ww2.alloc (.cells #[.string KY, .int .i64 1, .slice A 6 c] 41) = W := ⟨_, rfl⟩
      have BW := WB.new ww2 41 #[.string KY, .int .i64 1, .slice A 6 c]
      rw [hW2, hq2] at BW
      have EX2 : Hid (Ext ww2 v2) := by rw [← hW2]; exact (Ext.refl _).alloc _
      have NW2 := Lib.hid (news_of BW)
      have OL2 : Hid (v2.ownsRow w1.heap.size 41 3 (.slice A3 j d3) j CL2) := own_ext oL' EX2.out
      have cc : ww2.cell? ⟨P, 8, none⟩ = some (.slice A3 j d3) := by
        have h : ww2.cell? ⟨P, 8, none⟩ = some (.slice A3 x2.sel.length d3) := HR2.out.bP.cell (i := 8) rfl
        rw [HLN2.out.2.2.1] at h
        exact h
      have UB2 : Hid (w1.heap.size ≤ v2.heap.size) := (HE2.out.trans EX2.out).size
      clear oL oL' kL BW
      go_upto_region 20 with (first
        | (at_builtin
           refine wpList_append_lies _ rfl (.tmp 79) (.tmp 83) 23 rfl w1.heap.size 41 l0 _ 3 48 Tryz.underlying23 hl0 lz0 lz1 lz2 rfl (by decide) _ j CL2 rfl OL2.out ⟨q2, 0, none⟩ 1 1 _ rfl rfl NW2.out (by simp [Value.oneCell']) (by omega) (by unfold maxLen; omega) (by omega) UB2.out _ rfl ?_
           intro g2 f2 z2 o4 g4 lie lt
           have O4 := Lib.hid o4
           have G4 := Lib.hid g4
           have LI := Lib.hid lie
           have b4 := wb_grown (HR2.out.more EX2.out).bP OL2.out g4 (by decide)
           have cf := b4.fr 8
           have cg : z2.cell? ⟨P, 8, none⟩ = some (.slice A3 x2.sel.length d3) := b4.cell (i := 8) rfl
           clear o4 g4 lie lt b4))
      obtain ⟨ww3, hw⟩ : ∃ W, z2.setCell ⟨P, 8, none⟩ (.slice (some ⟨g2, 0, none⟩) (j + 1) f2) = W := ⟨_, rfl⟩
      have st := room_app3 (w1 := w1) (x := ⟨KY, 1, List.replicate 6 L⟩) HLN2.out.2.2.1 (HR2.out.more EX2.out) (HV2.out.ext RStr.keeps EX2.out) (HE2.out.trans EX2.out) GP.out.1 OL2.out (KL2.out.ext RTermT.keeps (Own.ext EX2.out)) G4.out LI.out O4.out rfl (fun hv => ⟨A, c, rfl, KOK.out, (show inI (1 : Int) by unfold inI; omega), hv.sl.2.1, hv.sl.2.2, hv.typ (fun _ _ _ _ h => h)⟩)
      rw [hw] at st ⊢
      obtain ⟨x3, hx⟩ : ∃ x, ({ x2 with sel := x2.sel ++ [⟨KY, 1, List.replicate 6 L⟩] } : Pd) = x := ⟨_, rfl⟩
      have HLN3 : Hid (x3.ports.length = j + 1 ∧ x3.labels.length = j + 1 ∧ x3.sel.length = j + 1 ∧ x3.tols.length = j ∧ x3.anti.length = j ∧ x3.even.length = j ∧ y0.labels.length = j ∧ y0.taints.length = j) := by show _ ∧ _; rw [← hx]; simp [HLN2.out.1, HLN2.out.2.1, HLN2.out.2.2.1, HLN2.out.2.2.2.1, HLN2.out.2.2.2.2.1, HLN2.out.2.2.2.2.2.1, HLN2.out.2.2.2.2.2.2.1, HLN2.out.2.2.2.2.2.2.2]
      have HR3 : Hid (RS w1.heap.size P M x3 ⟨some ⟨g0, 0, none⟩, f0, some ⟨g1, 0, none⟩, f1, some ⟨g2, 0, none⟩, f2, A4, d4, A5, d5, A6, d6⟩ y0 ⟨N1, e1, N2, e2⟩ ww3) := by rw [← hx]; exact st.1
      have HV3 : Hid (Rowz RStr 9 1 w1.heap.size ww3 A c (List.replicate 6 L)) := st.2.1
      have HE3 : Hid (Ext w1 ww3) := st.2.2
      have HQ2 := Lib.hid hx
      clear st hw hx O4 G4 LI cc cf cg hW2 hq2 HR2 HV2 HE2 HLN2 KL2 OL2 NW2 UB2 EX2
      obtain ⟨CL3, oL, kL⟩ := HR3.out.own.r5
      have oL' : ww3.ownsRow w1.heap.size 41 3 (.slice A5 j d5) j CL3 := by rw [← HLN3.out.2.2.2.2.1]; exact oL
      have KL3 := Lib.hid kL
      obtain ⟨q3, hq3⟩ : ∃ q, ww3.heap.size = q := ⟨_, rfl⟩
      obtain ⟨v3, hW3⟩ : ∃ W, ww3.alloc (.cells #[.string KY, .int .i64 2, .slice A 6 c] 41) = W := ⟨_, rfl⟩
      have BW := WB.new ww3 41 #[.string KY, .int .i64 2, .slice A 6 c]
      rw [hW3, hq3] at BW
      have EX3 : Hid (Ext ww3 v3) := by rw [← hW3]; exact (Ext.refl _).alloc _
      have NW3 := Lib.hid (news_of BW)
      have OL3 : Hid (v3.ownsRow w1.heap.size 41 3 (.slice A5 j d5) j CL3) := own_ext oL' EX3.out
      have cc : ww3.cell? ⟨P, 11, none⟩ = some (.slice A5 j d5) := by
        have h : ww3.cell? ⟨P, 11, none⟩ = some (.slice A5 x3.anti.length d5) := HR3.out.bP.cell (i := 11) rfl
        rw [HLN3.out.2.2.2.2.1] at h
        exact h
      have UB3 : Hid (w1.heap.size ≤ v3.heap.size) := (HE3.out.trans EX3.out).size
      clear oL oL' kL BW
      go_upto_region 21 with (first
        | (at_builtin
           refine wpList_append_lies _ rfl (.tmp 87) (.tmp 91) 23 rfl w1.heap.size 41 l0 _ 3 48 Tryz.underlying23 hl0 lz0 lz1 lz2 rfl (by decide) _ j CL3 rfl OL3.out ⟨q3, 0, none⟩ 1 1 _ rfl rfl NW3.out (by simp [Value.oneCell']) (by omega) (by unfold maxLen; omega) (by omega) UB3.out _ rfl ?_
           intro g3 f3 z3 o4 g4 lie lt
           have O4 := Lib.hid o4
           have G4 := Lib.hid g4
           have LI := Lib.hid lie
           have b4 := wb_grown (HR3.out.more EX3.out).bP OL3.out g4 (by decide)
           have cf := b4.fr 11
           have cg : z3.cell? ⟨P, 11, none⟩ = some (.slice A5 x3.anti.length d5) := b4.cell (i := 11) rfl
           clear o4 g4 lie lt b4))
      obtain ⟨ww4, hw⟩ : ∃ W, z3.setCell ⟨P, 11, none⟩ (.slice (some ⟨g3, 0, none⟩) (j + 1) f3) = W := ⟨_, rfl⟩
      have st := room_app5 (w1 := w1) (x := ⟨KY, 2, List.replicate 6 L⟩) HLN3.out.2.2.2.2.1 (HR3.out.more EX3.out) (HV3.out.ext RStr.keeps EX3.out) (HE3.out.trans EX3.out) GP.out.1 OL3.out (KL3.out.ext RTermT.keeps (Own.ext EX3.out)) G4.out LI.out O4.out rfl (fun hv => ⟨A, c, rfl, KOK.out, (show inI (2 : Int) by unfold inI; omega), hv.sl.2.1, hv.sl.2.2, hv.typ (fun _ _ _ _ h => h)⟩)
      rw [hw] at st ⊢
      obtain ⟨x4, hx⟩ : ∃ x, ({ x3 with anti := x3.anti ++ [⟨KY, 2, List.replicate 6 L⟩] } : Pd) = x := ⟨_, rfl⟩
      have HLN4 : Hid (x4.ports.length = j + 1 ∧ x4.labels.length = j + 1 ∧ x4.sel.length = j + 1 ∧ x4.tols.length = j ∧ x4.anti.length = j + 1 ∧ x4.even.length = j ∧ y0.labels.length = j ∧ y0.taints.length = j) := by show _ ∧ _; rw [← hx]; simp [HLN3.out.1, HLN3.out.2.1, HLN3.out.2.2.1, HLN3.out.2.2.2.1, HLN3.out.2.2.2.2.1, HLN3.out.2.2.2.2.2.1, HLN3.out.2.2.2.2.2.2.1, HLN3.out.2.2.2.2.2.2.2]
      have HR4 : Hid (RS w1.heap.size P M x4 ⟨some ⟨g0, 0, none⟩, f0, some ⟨g1, 0, none⟩, f1, some ⟨g2, 0, none⟩, f2, A4, d4, some ⟨g3, 0, none⟩, f3, A6, d6⟩ y0 ⟨N1, e1, N2, e2⟩ ww4) := by rw [← hx]; exact st.1
      have HV4 : Hid (Rowz RStr 9 1 w1.heap.size ww4 A c (List.replicate 6 L)) := st.2.1
      have HE4 : Hid (Ext w1 ww4) := st.2.2
      have HQ3 := Lib.hid hx
      clear st hw hx O4 G4 LI cc cf cg hW3 hq3 HR3 HV3 HE3 HLN3 KL3 OL3 NW3 UB3 EX3
      obtain ⟨CL4, oL, kL⟩ := HR4.out.own.r6
      have oL' : ww4.ownsRow w1.heap.size 41 3 (.slice A6 j d6) j CL4 := by rw [← HLN4.out.2.2.2.2.2.1]; exact oL
      have KL4 := Lib.hid kL
      obtain ⟨q4, hq4⟩ : ∃ q, ww4.heap.size = q := ⟨_, rfl⟩
      obtain ⟨v4, hW4⟩ : ∃ W, ww4.alloc (.cells #[.string KY, .int .i64 1, .slice A 6 c] 41) = W := ⟨_, rfl⟩
      have BW := WB.new ww4 41 #[.string KY, .int .i64 1, .slice A 6 c]
      rw [hW4, hq4] at BW
      have EX4 : Hid (Ext ww4 v4) := by rw [← hW4]; exact (Ext.refl _).alloc _
      have NW4 := Lib.hid (news_of BW)
      have OL4 : Hid (v4.ownsRow w1.heap.size 41 3 (.slice A6 j d6) j CL4) := own_ext oL' EX4.out
      have cc : ww4.cell? ⟨P, 13, none⟩ = some (.slice A6 j d6) := by
        have h : ww4.cell? ⟨P, 13, none⟩ = some (.slice A6 x4.even.length d6) := HR4.out.bP.cell (i := 13) rfl
        rw [HLN4.out.2.2.2.2.2.1] at h
        exact h
      have UB4 : Hid (w1.heap.size ≤ v4.heap.size) := (HE4.out.trans EX4.out).size
      clear oL oL' kL BW
      go_upto_region 22 with (first
        | (at_builtin
           refine wpList_append_lies _ rfl (.tmp 95) (.tmp 99) 23 rfl w1.heap.size 41 l0 _ 3 48 Tryz.underlying23 hl0 lz0 lz1 lz2 rfl (by decide) _ j CL4 rfl OL4.out ⟨q4, 0, none⟩ 1 1 _ rfl rfl NW4.out (by simp [Value.oneCell']) (by omega) (by unfold maxLen; omega) (by omega) UB4.out _ rfl ?_
           intro g4 f4 z4 o4 g4 lie lt
           have O4 := Lib.hid o4
           have G4 := Lib.hid g4
           have LI := Lib.hid lie
           have b4 := wb_grown (HR4.out.more EX4.out).bP OL4.out g4 (by decide)
           have cf := b4.fr 13
           have cg : z4.cell? ⟨P, 13, none⟩ = some (.slice A6 x4.even.length d6) := b4.cell (i := 13) rfl
           clear o4 g4 lie lt b4))
      obtain ⟨ww5, hw⟩ : ∃ W, z4.setCell ⟨P, 13, none⟩ (.slice (some ⟨g4, 0, none⟩) (j + 1) f4) = W := ⟨_, rfl⟩
      have st := room_app6 (w1 := w1) (x := ⟨KY, 1, List.replicate 6 L⟩) HLN4.out.2.2.2.2.2.1 (HR4.out.more EX4.out) (HV4.out.ext RStr.keeps EX4.out) (HE4.out.trans EX4.out) GP.out.1 OL4.out (KL4.out.ext RTermT.keeps (Own.ext EX4.out)) G4.out LI.out O4.out rfl (fun hv => ⟨A, c, rfl, KOK.out, (show inI (1 : Int) by unfold inI; omega), hv.sl.2.1, hv.sl.2.2, hv.typ (fun _ _ _ _ h => h)⟩)
      rw [hw] at st ⊢
      obtain ⟨x5, hx⟩ : ∃ x, ({ x4 with even := x4.even ++ [⟨KY, 1, List.replicate 6 L⟩] } : Pd) = x := ⟨_, rfl⟩
      have HLN5 : Hid (x5.ports.length = j + 1 ∧ x5.labels.length = j + 1 ∧ x5.sel.length = j + 1 ∧ x5.tols.length = j ∧ x5.anti.length = j + 1 ∧ x5.even.length = j + 1 ∧ y0.labels.length = j ∧ y0.taints.length = j) := by show _ ∧ _; rw [← hx]; simp [HLN4.out.1, HLN4.out.2.1, HLN4.out.2.2.1, HLN4.out.2.2.2.1, HLN4.out.2.2.2.2.1, HLN4.out.2.2.2.2.2.1, HLN4.out.2.2.2.2.2.2.1, HLN4.out.2.2.2.2.2.2.2]
      have HR5 : Hid (RS w1.heap.size P M x5 ⟨some ⟨g0, 0, none⟩, f0, some ⟨g1, 0, none⟩, f1, some ⟨g2, 0, none⟩, f2, A4, d4, some ⟨g3, 0, none⟩, f3, some ⟨g4, 0, none⟩, f4⟩ y0 ⟨N1, e1, N2, e2⟩ ww5) := by rw [← hx]; exact st.1
      have HV5 : Hid (Rowz RStr 9 1 w1.heap.size ww5 A c (List.replicate 6 L)) := st.2.1
      have HE5 : Hid (Ext w1 ww5) := st.2.2
      have HQ4 := Lib.hid hx
      clear st hw hx O4 G4 LI cc cf cg hW4 hq4 HR4 HV4 HE4 HLN4 KL4 OL4 NW4 UB4 EX4
      obtain ⟨CL5, oL, kL⟩ := HR5.out.own.r4
      have oL' : ww5.ownsRow w1.heap.size 52 3 (.slice A4 j d4) j CL5 := by rw [← HLN5.out.2.2.2.1]; exact oL
      have KL5 := Lib.hid kL
      obtain ⟨q5, hq5⟩ : ∃ q, ww5.heap.size = q := ⟨_, rfl⟩
      obtain ⟨v5, hW5⟩ : ∃ W, ww5.alloc (.cells #[.string KY, .string L, .bool false] 52) = W := ⟨_, rfl⟩
      have BW := WB.new ww5 52 #[.string KY, .string L, .bool false]
      rw [hW5, hq5] at BW
      have EX5 : Hid (Ext ww5 v5) := by rw [← hW5]; exact (Ext.refl _).alloc _
      have NW5 := Lib.hid (news_of BW)
      have OL5 : Hid (v5.ownsRow w1.heap.size 52 3 (.slice A4 j d4) j CL5) := own_ext oL' EX5.out
      have cc : ww5.cell? ⟨P, 9, none⟩ = some (.slice A4 j d4) := by
        have h : ww5.cell? ⟨P, 9, none⟩ = some (.slice A4 x5.tols.length d4) := HR5.out.bP.cell (i := 9) rfl
        rw [HLN5.out.2.2.2.1] at h
        exact h
      have UB5 : Hid (w1.heap.size ≤ v5.heap.size) := (HE5.out.trans EX5.out).size
      clear oL oL' kL BW
      go_upto_region 23 with (first
        | (at_builtin
           refine wpList_append_lies _ rfl (.tmp 103) (.tmp 107) 46 rfl w1.heap.size 52 t0 _ 3 40 Tryz.underlying46 ht0 tz0 tz1 tz2 rfl (by decide) _ j CL5 rfl OL5.out ⟨q5, 0, none⟩ 1 1 _ rfl rfl NW5.out (by simp [Value.oneCell']) (by omega) (by unfold maxLen; omega) (by omega) UB5.out _ rfl ?_
           intro g5 f5 z5 o4 g4 lie lt
           have O4 := Lib.hid o4
           have G4 := Lib.hid g4
           have LI := Lib.hid lie
           have b4 := wb_grown (HR5.out.more EX5.out).bP OL5.out g4 (by decide)
           have cf := b4.fr 9
           have cg : z5.cell? ⟨P, 9, none⟩ = some (.slice A4 x5.tols.length d4) := b4.cell (i := 9) rfl
           clear o4 g4 lie lt b4))
      obtain ⟨ww6, hw⟩ : ∃ W, z5.setCell ⟨P, 9, none⟩ (.slice (some ⟨g5, 0, none⟩) (j + 1) f5) = W := ⟨_, rfl⟩
      have st := room_app4 (w1 := w1) (x := ⟨KY, L, false⟩) HLN5.out.2.2.2.1 (HR5.out.more EX5.out) (HV5.out.ext RStr.keeps EX5.out) (HE5.out.trans EX5.out) GP.out.1 OL5.out (KL5.out.ext RTol.keeps (Own.ext EX5.out)) G4.out LI.out O4.out rfl (fun _ => ⟨rfl, KOK.out, LOK.out⟩)
      rw [hw] at st ⊢
      obtain ⟨x6, hx⟩ : ∃ x, ({ x5 with tols := x5.tols ++ [⟨KY, L, false⟩] } : Pd) = x := ⟨_, rfl⟩
      have HLN6 : Hid (x6.ports.length = j + 1 ∧ x6.labels.length = j + 1 ∧ x6.sel.length = j + 1 ∧ x6.tols.length = j + 1 ∧ x6.anti.length = j + 1 ∧ x6.even.length = j + 1 ∧ y0.labels.length = j ∧ y0.taints.length = j) := by show _ ∧ _; rw [← hx]; simp [HLN5.out.1, HLN5.out.2.1, HLN5.out.2.2.1, HLN5.out.2.2.2.1, HLN5.out.2.2.2.2.1, HLN5.out.2.2.2.2.2.1, HLN5.out.2.2.2.2.2.2.1, HLN5.out.2.2.2.2.2.2.2]
      have HR6 : Hid (RS w1.heap.size P M x6 ⟨some ⟨g0, 0, none⟩, f0, some ⟨g1, 0, none⟩, f1, some ⟨g2, 0, none⟩, f2, some ⟨g5, 0, none⟩, f5, some ⟨g3, 0, none⟩, f3, some ⟨g4, 0, none⟩, f4⟩ y0 ⟨N1, e1, N2, e2⟩ ww6) := by rw [← hx]; exact st.1
      have HV6 : Hid (Rowz RStr 9 1 w1.heap.size ww6 A c (List.replicate 6 L)) := st.2.1
      have HE6 : Hid (Ext w1 ww6) := st.2.2
      have HQ5 := Lib.hid hx
      clear st hw hx O4 G4 LI cc cf cg hW5 hq5 HR5 HV5 HE5 HLN5 KL5 OL5 NW5 UB5 EX5
      obtain ⟨CL6, oL, kL⟩ := HR6.out.nown.r1
      have oL' : ww6.ownsRow w1.heap.size 37 2 (.slice N1 j e1) j CL6 := by rw [← HLN6.out.2.2.2.2.2.2.1]; exact oL
      have KL6 := Lib.hid kL
      obtain ⟨q6, hq6⟩ : ∃ q, ww6.heap.size = q := ⟨_, rfl⟩
      obtain ⟨v6, hW6⟩ : ∃ W, ww6.alloc (.cells #[.string KY, .string L] 37) = W := ⟨_, rfl⟩
      have BW := WB.new ww6 37 #[.string KY, .string L]
      rw [hW6, hq6] at BW
      have EX6 : Hid (Ext ww6 v6) := by rw [← hW6]; exact (Ext.refl _).alloc _
      have NW6 := Lib.hid (news_of BW)
      have OL6 : Hid (v6.ownsRow w1.heap.size 37 2 (.slice N1 j e1) j CL6) := own_ext oL' EX6.out
      have cc : ww6.cell? ⟨M, 4, none⟩ = some (.slice N1 j e1) := by
        have h : ww6.cell? ⟨M, 4, none⟩ = some (.slice N1 y0.labels.length e1) := HR6.out.bM.cell (i := 4) rfl
        rw [HLN6.out.2.2.2.2.2.2.1] at h
        exact h
      have UB6 : Hid (w1.heap.size ≤ v6.heap.size) := (HE6.out.trans EX6.out).size
      clear oL oL' kL BW
      go_upto_region 24 with (first
        | (at_builtin
           refine wpList_append_lies _ rfl (.tmp 111) (.tmp 115) 22 rfl w1.heap.size 37 k0 _ 2 32 Tryz.underlying22 hk0 kz0 kz1 kz2 rfl (by decide) _ j CL6 rfl OL6.out ⟨q6, 0, none⟩ 1 1 _ rfl rfl NW6.out (by simp [Value.oneCell']) (by omega) (by unfold maxLen; omega) (by omega) UB6.out _ rfl ?_
           intro g6 f6 z6 o4 g4 lie lt
           have O4 := Lib.hid o4
           have G4 := Lib.hid g4
           have LI := Lib.hid lie
           have b4 := wb_grown (HR6.out.more EX6.out).bM OL6.out g4 (by decide)
           have cf := b4.fr 4
           have cg : z6.cell? ⟨M, 4, none⟩ = some (.slice N1 y0.labels.length e1) := b4.cell (i := 4) rfl
           clear o4 g4 lie lt b4))
      obtain ⟨ww7, hw⟩ : ∃ W, z6.setCell ⟨M, 4, none⟩ (.slice (some ⟨g6, 0, none⟩) (j + 1) f6) = W := ⟨_, rfl⟩
      have st := room_napp1 (w1 := w1) (x := ⟨KY, L⟩) HLN6.out.2.2.2.2.2.2.1 (HR6.out.more EX6.out) (HV6.out.ext RStr.keeps EX6.out) (HE6.out.trans EX6.out) GP.out.2 OL6.out (KL6.out.ext RPair.keeps (Own.ext EX6.out)) G4.out LI.out O4.out rfl (fun _ => ⟨rfl, KOK.out, LOK.out⟩)
      rw [hw] at st ⊢
      obtain ⟨y1, hy⟩ : ∃ x, ({ y0 with labels := y0.labels ++ [⟨KY, L⟩] } : Nd) = x := ⟨_, rfl⟩
      have HLN7 : Hid (x6.ports.length = j + 1 ∧ x6.labels.length = j + 1 ∧ x6.sel.length = j + 1 ∧ x6.tols.length = j + 1 ∧ x6.anti.length = j + 1 ∧ x6.even.length = j + 1 ∧ y1.labels.length = j + 1 ∧ y1.taints.length = j) := by show _ ∧ _; rw [← hy]; simp [HLN6.out.1, HLN6.out.2.1, HLN6.out.2.2.1, HLN6.out.2.2.2.1, HLN6.out.2.2.2.2.1, HLN6.out.2.2.2.2.2.1, HLN6.out.2.2.2.2.2.2.1, HLN6.out.2.2.2.2.2.2.2]
      have HR7 : Hid (RS w1.heap.size P M x6 ⟨some ⟨g0, 0, none⟩, f0, some ⟨g1, 0, none⟩, f1, some ⟨g2, 0, none⟩, f2, some ⟨g5, 0, none⟩, f5, some ⟨g3, 0, none⟩, f3, some ⟨g4, 0, none⟩, f4⟩ y1 ⟨some ⟨g6, 0, none⟩, f6, N2, e2⟩ ww7) := by rw [← hy]; exact st.1
      have HV7 : Hid (Rowz RStr 9 1 w1.heap.size ww7 A c (List.replicate 6 L)) := st.2.1
      have HE7 : Hid (Ext w1 ww7) := st.2.2
      have HQ6 := Lib.hid hy
      clear st hw hy O4 G4 LI cc cf cg hW6 hq6 HR6 HV6 HE6 HLN6 KL6 OL6 NW6 UB6 EX6
      obtain ⟨CL7, oL, kL⟩ := HR7.out.nown.r2
      have oL' : ww7.ownsRow w1.heap.size 53 2 (.slice N2 j e2) j CL7 := by rw [← HLN7.out.2.2.2.2.2.2.2]; exact oL
      have KL7 := Lib.hid kL
      obtain ⟨q7, hq7⟩ : ∃ q, ww7.heap.size = q := ⟨_, rfl⟩
      obtain ⟨v7, hW7⟩ : ∃ W, ww7.alloc (.cells #[.string KY, .string L] 53) = W := ⟨_, rfl⟩
      have BW := WB.new ww7 53 #[.string KY, .string L]
      rw [hW7, hq7] at BW
      have EX7 : Hid (Ext ww7 v7) := by rw [← hW7]; exact (Ext.refl _).alloc _
      have NW7 := Lib.hid (news_of BW)
      have OL7 : Hid (v7.ownsRow w1.heap.size 53 2 (.slice N2 j e2) j CL7) := own_ext oL' EX7.out
      have cc : ww7.cell? ⟨M, 5, none⟩ = some (.slice N2 j e2) := by
        have h : ww7.cell? ⟨M, 5, none⟩ = some (.slice N2 y1.taints.length e2) := HR7.out.bM.cell (i := 5) rfl
        rw [HLN7.out.2.2.2.2.2.2.2] at h
        exact h
      have UB7 : Hid (w1.heap.size ≤ v7.heap.size) := (HE7.out.trans EX7.out).size
      clear oL oL' kL BW
      go_upto_region 15 with (first
        | (at_builtin
           refine wpList_append_lies _ rfl (.tmp 119) (.tmp 123) 45 rfl w1.heap.size 53 a0 _ 2 32 Tryz.underlying45 ha0 az0 az1 az2 rfl (by decide) _ j CL7 rfl OL7.out ⟨q7, 0, none⟩ 1 1 _ rfl rfl NW7.out (by simp [Value.oneCell']) (by omega) (by unfold maxLen; omega) (by omega) UB7.out _ rfl ?_
           intro g7 f7 z7 o4 g4 lie lt
           have O4 := Lib.hid o4
           have G4 := Lib.hid g4
           have LI := Lib.hid lie
           have b4 := wb_grown (HR7.out.more EX7.out).bM OL7.out g4 (by decide)
           have cf := b4.fr 5
           have cg : z7.cell? ⟨M, 5, none⟩ = some (.slice N2 y1.taints.length e2) := b4.cell (i := 5) rfl
           clear o4 g4 lie lt b4))
      obtain ⟨ww8, hw⟩ : ∃ W, z7.setCell ⟨M, 5, none⟩ (.slice (some ⟨g7, 0, none⟩) (j + 1) f7) = W := ⟨_, rfl⟩
      have st := room_napp2 (w1 := w1) (x := ⟨KY, L⟩) HLN7.out.2.2.2.2.2.2.2 (HR7.out.more EX7.out) (HV7.out.ext RStr.keeps EX7.out) (HE7.out.trans EX7.out) GP.out.2 OL7.out (KL7.out.ext RPair.keeps (Own.ext EX7.out)) G4.out LI.out O4.out rfl (fun _ => ⟨rfl, KOK.out, LOK.out⟩)
      rw [hw] at st ⊢
      obtain ⟨y2, hy⟩ : ∃ x, ({ y1 with taints := y1.taints ++ [⟨KY, L⟩] } : Nd) = x := ⟨_, rfl⟩
      have HLN8 : Hid (x6.ports.length = j + 1 ∧ x6.labels.length = j + 1 ∧ x6.sel.length = j + 1 ∧ x6.tols.length = j + 1 ∧ x6.anti.length = j + 1 ∧ x6.even.length = j + 1 ∧ y2.labels.length = j + 1 ∧ y2.taints.length = j + 1) := by show _ ∧ _; rw [← hy]; simp [HLN7.out.1, HLN7.out.2.1, HLN7.out.2.2.1, HLN7.out.2.2.2.1, HLN7.out.2.2.2.2.1, HLN7.out.2.2.2.2.2.1, HLN7.out.2.2.2.2.2.2.1, HLN7.out.2.2.2.2.2.2.2]
      have HR8 : Hid (RS w1.heap.size P M x6 ⟨some ⟨g0, 0, none⟩, f0, some ⟨g1, 0, none⟩, f1, some ⟨g2, 0, none⟩, f2, some ⟨g5, 0, none⟩, f5, some ⟨g3, 0, none⟩, f3, some ⟨g4, 0, none⟩, f4⟩ y2 ⟨some ⟨g6, 0, none⟩, f6, some ⟨g7, 0, none⟩, f7⟩ ww8) := by rw [← hy]; exact st.1
      have HV8 : Hid (Rowz RStr 9 1 w1.heap.size ww8 A c (List.replicate 6 L)) := st.2.1
      have HE8 : Hid (Ext w1 ww8) := st.2.2
      have HQ7 := Lib.hid hy
      clear st hw hy O4 G4 LI cc cf cg hW7 hq7 HR7 HV7 HE7 HLN7 KL7 OL7 NW7 UB7 EX7
      have NX : Hid (Ext w1 ww8 ∧ RS w1.heap.size P M (roomP K (j + 1)) ⟨some ⟨g0, 0, none⟩, f0, some ⟨g1, 0, none⟩, f1, some ⟨g2, 0, none⟩, f2, some ⟨g5, 0, none⟩, f5, some ⟨g3, 0, none⟩, f3, some ⟨g4, 0, none⟩, f4⟩ (roomN K (j + 1)) ⟨some ⟨g6, 0, none⟩, f6, some ⟨g7, 0, none⟩, f7⟩ ww8 ∧ Rowz RStr 9 1 w1.heap.size ww8 A c (List.replicate 6 L)) := by
        refine ⟨HE8.out, ?_, HV8.out⟩
        rw [roomP_succ, roomN_succ, HX.out, HY.out, HK.out, HL.out, show valsR K = List.replicate 6 L from by unfold valsR; rw [HL.out]]
        have e1 := HQ0.out
        have e2 := HQ1.out
        have e3 := HQ2.out
        have e4 := HQ3.out
        have e5 := HQ4.out
        have e6 := HQ5.out
        have e7 := HQ6.out
        have e8 := HQ7.out
        have r := HR8.out
        rw [← e8, ← e7, ← e6, ← e5, ← e4, ← e3, ← e2, ← e1] at r
        exact r
      clear HR8 HV8 HE8 HLN8 HQ0 HQ1 HQ2 HQ3 HQ4 HQ5 HQ6 HQ7 HX HY HK
      go_wp2_with fail
      go_roundw
      case rel => exact ⟨j + 1, _, _, by omega, by go_num, NX.out.1, NX.out.2.1, NX.out.2.2⟩
      case measure => simp [intOf]; omega
  obtain rfl : nn = j := by omega
  clear hlt hj HV
  obtain ⟨w2, hw2⟩ : ∃ W, W = wr := ⟨_, rfl⟩
  rw [← hw2] at HE HR ⊢
  clear hw2
  have RF : Hid (nn ≤ 6 → 0 < (putPodB (roomP K nn)).length ∧ 0 < (putNodeB (roomN K nn)).length ∧ podG (putPodB (roomP K nn)) = true ∧ podOut (putPodB (roomP K nn)) = roomP K nn) := fun h => room_bytes K1 K2 h
  have RN : Hid (6 < nn → (putPodB (roomP K nn)).length = 0 ∧ (putNodeB (roomN K nn)).length = 0) := fun h => by
    obtain rfl : nn = 7 := by omega
    exact room_none K1 K2
  have PSC : Hid (PodScal (roomP K nn)) := roomP_scal K2
  have NSC : Hid (okS (roomN K nn).name ∧ okR (roomN K nn).cap) := ⟨longS_ok K2, by unfold okR inI; simp [roomN, capR]⟩
  obtain ⟨X, hX⟩ : ∃ x, roomP K nn = x := ⟨_, rfl⟩
  obtain ⟨Y, hY⟩ : ∃ x, roomN K nn = x := ⟨_, rfl⟩
  rw [hX, hY] at HR
  rw [hX, hY] at RF RN
  rw [hX] at PSC
  rw [hY] at NSC
  clear hX hY
  have OX : Hid (∀ wx, Ext w2 wx → PodOk wx X ⟨A1, d1, A2, d2, A3, d3, A4, d4, A5, d5, A6, d6⟩) := fun wx e => (HR.out.own.rows.ok PSC.out).ext e
  have OY : Hid (∀ wx, Ext w2 wx → NodeOk wx Y ⟨N1, e1, N2, e2⟩) := fun wx e => (((show NodeOk (Own w1.heap.size w2) Y ⟨N1, e1, N2, e2⟩ from { name := NSC.out.1, cap := NSC.out.2, labels := HR.out.nown.r1.sl.1, taints := HR.out.nown.r2.sl.1, n1 := HR.out.nown.r1.sl.2.1, m1 := HR.out.nown.r1.sl.2.2, n2 := HR.out.nown.r2.sl.2.1, m2 := HR.out.nown.r2.sl.2.2 }).sub (Own.sub _ _))).ext e
  have HP : Hid (∀ wx, Ext w2 wx → WB wx P 66 #[.string X.name, .int .i64 X.uid, .int .i64 X.prio, .int .i64 X.req.a, .int .i64 X.req.b, .int .i64 X.req.c, .slice A1 X.ports.length d1, .slice A2 X.labels.length d2, .slice A3 X.sel.length d3, .slice A4 X.tols.length d4, .string X.topo, .slice A5 X.anti.length d5, .int .i64 X.skew, .slice A6 X.even.length d6, .string X.node, .int .i64 X.term]) := fun wx e => HR.out.bP.ext e
  have HN : Hid (∀ wx, Ext w2 wx → WB wx M 68 #[.string Y.name, .int .i64 Y.cap.a, .int .i64 Y.cap.b, .int .i64 Y.cap.c, .slice N1 Y.labels.length e1, .slice N2 Y.taints.length e2]) := fun wx e => HR.out.bM.ext e
  have CE : Hid (∀ wx, Ext w2 wx → (wx.cell? ⟨P, 0, none⟩ = some (.string X.name) ∧ wx.cell? ⟨P, 1, none⟩ = some (.int .i64 X.uid) ∧ wx.cell? ⟨P, 2, none⟩ = some (.int .i64 X.prio) ∧ wx.cell? ⟨P, 3, none⟩ = some (.int .i64 X.req.a) ∧ wx.cell? ⟨P, 4, none⟩ = some (.int .i64 X.req.b) ∧ wx.cell? ⟨P, 5, none⟩ = some (.int .i64 X.req.c) ∧ wx.cell? ⟨P, 6, none⟩ = some (.slice A1 X.ports.length d1) ∧ wx.cell? ⟨P, 7, none⟩ = some (.slice A2 X.labels.length d2) ∧ wx.cell? ⟨P, 8, none⟩ = some (.slice A3 X.sel.length d3) ∧ wx.cell? ⟨P, 9, none⟩ = some (.slice A4 X.tols.length d4) ∧ wx.cell? ⟨P, 10, none⟩ = some (.string X.topo) ∧ wx.cell? ⟨P, 11, none⟩ = some (.slice A5 X.anti.length d5) ∧ wx.cell? ⟨P, 12, none⟩ = some (.int .i64 X.skew) ∧ wx.cell? ⟨P, 13, none⟩ = some (.slice A6 X.even.length d6) ∧ wx.cell? ⟨P, 14, none⟩ = some (.string X.node) ∧ wx.cell? ⟨P, 15, none⟩ = some (.int .i64 X.term) ∧ wx.cell? ⟨M, 0, none⟩ = some (.string Y.name) ∧ wx.cell? ⟨M, 1, none⟩ = some (.int .i64 Y.cap.a) ∧ wx.cell? ⟨M, 2, none⟩ = some (.int .i64 Y.cap.b) ∧ wx.cell? ⟨M, 3, none⟩ = some (.int .i64 Y.cap.c) ∧ wx.cell? ⟨M, 4, none⟩ = some (.slice N1 Y.labels.length e1) ∧ wx.cell? ⟨M, 5, none⟩ = some (.slice N2 Y.taints.length e2))) := fun wx e => ⟨(HP.out _ e).cell (i := 0) rfl, (HP.out _ e).cell (i := 1) rfl, (HP.out _ e).cell (i := 2) rfl, (HP.out _ e).cell (i := 3) rfl, (HP.out _ e).cell (i := 4) rfl, (HP.out _ e).cell (i := 5) rfl, (HP.out _ e).cell (i := 6) rfl, (HP.out _ e).cell (i := 7) rfl, (HP.out _ e).cell (i := 8) rfl, (HP.out _ e).cell (i := 9) rfl, (HP.out _ e).cell (i := 10) rfl, (HP.out _ e).cell (i := 11) rfl, (HP.out _ e).cell (i := 12) rfl, (HP.out _ e).cell (i := 13) rfl, (HP.out _ e).cell (i := 14) rfl, (HP.out _ e).cell (i := 15) rfl, (HN.out _ e).cell (i := 0) rfl, (HN.out _ e).cell (i := 1) rfl, (HN.out _ e).cell (i := 2) rfl, (HN.out _ e).cell (i := 3) rfl, (HN.out _ e).cell (i := 4) rfl, (HN.out _ e).cell (i := 5) rfl⟩
  obtain ⟨np, hnp⟩ : ∃ k, (putPodB X).length = k := ⟨_, rfl⟩
  obtain ⟨nq, hnq⟩ : ∃ k, (putNodeB Y).length = k := ⟨_, rfl⟩
  have ZP := putPodB_len X
  have ZN := putNodeB_len Y
  rw [hnp] at ZP
  rw [hnq] at ZN
  obtain ⟨BP, hBP⟩ : ∃ b, putPodB X = b := ⟨_, rfl⟩
  obtain ⟨BN, hBN⟩ : ∃ b, putNodeB Y = b := ⟨_, rfl⟩
  have CP : Hid (∀ wx, Ext w2 wx → Calls Tryz.prog 49 #[.agg #[.string X.name, .int .i64 X.uid, .int .i64 X.prio, .int .i64 X.req.a, .int .i64 X.req.b, .int .i64 X.req.c, .slice A1 X.ports.length d1, .slice A2 X.labels.length d2, .slice A3 X.sel.length d3, .slice A4 X.tols.length d4, .string X.topo, .slice A5 X.anti.length d5, .int .i64 X.skew, .slice A6 X.even.length d6, .string X.node, .int .i64 X.term]] wx (ClPost 5 1 np (BP.map byV) wx)) := fun wx e => by
    rw [← hnp, ← hBP]; exact putPod_any X ⟨A1, d1, A2, d2, A3, d3, A4, d4, A5, d5, A6, d6⟩ wx (OX.out _ e)
  have CN : Hid (∀ wx, Ext w2 wx → Calls Tryz.prog 50 #[.agg #[.string Y.name, .int .i64 Y.cap.a, .int .i64 Y.cap.b, .int .i64 Y.cap.c, .slice N1 Y.labels.length e1, .slice N2 Y.taints.length e2]] wx (ClPost 5 1 nq (BN.map byV) wx)) := fun wx e => by
    rw [← hnq, ← hBN]; exact putNode_any Y ⟨N1, e1, N2, e2⟩ wx (OY.out _ e)
  have RF2 : Hid (nn ≤ 6 → 0 < np ∧ 0 < nq ∧ podG BP = true ∧ podOut BP = X) := fun h => by rw [← hnp, ← hnq, ← hBP]; exact RF.out h
  have RN2 : Hid (6 < nn → np = 0 ∧ nq = 0) := fun h => by rw [← hnp, ← hnq]; exact RN.out h
  have LP : Hid (BP.length = np) := by show _ = _; rw [← hBP]; exact hnp
  have LN : Hid (BN.length = nq) := by show _ = _; rw [← hBN]; exact hnq
  clear RF RN PSC NSC HR hnp hnq hBP hBN
  go_wp2_with fail
  go_cut [13, 14] from 126 (fun s13 s14 wx => ∃ A7 c7 A8 c8, s13 = .slice A7 np c7 ∧ s14 = .slice A8 nq c8 ∧ Ext w2 wx ∧ ByF A7 BP wx)
  case first => as_aux_lemma =>
    go_region_held3 (fun wx => wx.cell? ⟨P, 0, none⟩ = some (.string X.name) ∧ wx.cell? ⟨P, 1, none⟩ = some (.int .i64 X.uid) ∧ wx.cell? ⟨P, 2, none⟩ = some (.int .i64 X.prio) ∧ wx.cell? ⟨P, 3, none⟩ = some (.int .i64 X.req.a) ∧ wx.cell? ⟨P, 4, none⟩ = some (.int .i64 X.req.b) ∧ wx.cell? ⟨P, 5, none⟩ = some (.int .i64 X.req.c) ∧ wx.cell? ⟨P, 6, none⟩ = some (.slice A1 X.ports.length d1) ∧ wx.cell? ⟨P, 7, none⟩ = some (.slice A2 X.labels.length d2) ∧ wx.cell? ⟨P, 8, none⟩ = some (.slice A3 X.sel.length d3) ∧ wx.cell? ⟨P, 9, none⟩ = some (.slice A4 X.tols.length d4) ∧ wx.cell? ⟨P, 10, none⟩ = some (.string X.topo) ∧ wx.cell? ⟨P, 11, none⟩ = some (.slice A5 X.anti.length d5) ∧ wx.cell? ⟨P, 12, none⟩ = some (.int .i64 X.skew) ∧ wx.cell? ⟨P, 13, none⟩ = some (.slice A6 X.even.length d6) ∧ wx.cell? ⟨P, 14, none⟩ = some (.string X.node) ∧ wx.cell? ⟨P, 15, none⟩ = some (.int .i64 X.term) ∧ wx.cell? ⟨M, 0, none⟩ = some (.string Y.name) ∧ wx.cell? ⟨M, 1, none⟩ = some (.int .i64 Y.cap.a) ∧ wx.cell? ⟨M, 2, none⟩ = some (.int .i64 Y.cap.b) ∧ wx.cell? ⟨M, 3, none⟩ = some (.int .i64 Y.cap.c) ∧ wx.cell? ⟨M, 4, none⟩ = some (.slice N1 Y.labels.length e1) ∧ wx.cell? ⟨M, 5, none⟩ = some (.slice N2 Y.taints.length e2))
      (first | exact CE.out _ (Ext.refl w2) | exact CE.out _ (Ext.refl w2).drew | exact CE.out _ X5.out | exact CE.out _ X5.out.drew | exact CE.out _ X6.out)
      (first
        | (go_at_call 49
           refine (CP.out _ (by first | exact Ext.refl w2 | exact (Ext.refl w2).drew)).mono ?_
           rintro e w5 ⟨v5, rfl, o5, e5⟩
           have X5 : Hid (Ext w2 w5) := by first | exact e5 | exact (Ext.refl w2).drew.trans e5
           obtain ⟨A5, c5, rfl, _, _, m5, _⟩ := cl_new LP.out rfl o5
           have M5 := Lib.hid m5
           clear o5 e5 m5)
        | (go_at_call 50
           refine (CN.out _ (by first | exact X5.out | exact X5.out.drew)).mono ?_
           rintro e w6 ⟨v6, rfl, o6, e6⟩
           have Y6 : Hid (Ext w5 w6) := by first | exact e6 | exact (Ext.refl w5).drew.trans e6
           have X6 : Hid (Ext w2 w6) := X5.out.trans Y6.out
           obtain ⟨A6_, c6, rfl, _, _, m6, _⟩ := cl_new LN.out rfl o6
           clear o6 e6 m6))
    all_goals (
      go_wp2_with fail
      go_meet
      case rel =>
        first
          | exact ⟨_, _, _, _, rfl, rfl, X6.out, M5.out.ext Y6.out⟩
          | exact ⟨_, _, _, _, rfl, rfl, X6.out.drewN _, (M5.out.ext Y6.out).ext ((Ext.refl _).drewN _)⟩)
  case rest => as_aux_lemma =>
    obtain ⟨A7, c7, A8, c8, rfl, rfl, e5, m5⟩ := hcut
    have X5 := Lib.hid e5
    obtain ⟨PO, hPO⟩ : ∃ b, podOut BP = b := ⟨_, rfl⟩
    obtain ⟨pg, hpg⟩ : ∃ b, podG BP = b := ⟨_, rfl⟩
    have CG : Hid (Calls Tryz.prog 51 #[.slice A7 np c7] wc fun e w' => ∃ q, e = .returned (.tuple #[.agg (podC PO q).toArray, .bool pg]) ∧ Ext wc w' ∧ PodOk w' PO q) := by
      show Calls _ _ _ _ _
      rw [← LP.out, ← hPO, ← hpg]
      exact getPod_any A7 c7 BP wc m5 (by rw [LP.out]; omega)
    rw [hPO, hpg] at RF2
    clear e5 m5 hPO hpg CP CN
    go_wp2_with fail
    refine CG.out.mono ?_
    rintro e v1 ⟨⟨a1, b1, a2, b2, a3, b3, a4, b4, a5, b5, a6, b6⟩, rfl, e1, ok1⟩
    rw [show (podC PO ⟨a1, b1, a2, b2, a3, b3, a4, b4, a5, b5, a6, b6⟩).toArray = #[.string PO.name, .int .i64 PO.uid, .int .i64 PO.prio, .int .i64 PO.req.a, .int .i64 PO.req.b, .int .i64 PO.req.c, .slice a1 PO.ports.length b1, .slice a2 PO.labels.length b2, .slice a3 PO.sel.length b3, .slice a4 PO.tols.length b4, .string PO.topo, .slice a5 PO.anti.length b5, .int .i64 PO.skew, .slice a6 PO.even.length b6, .string PO.node, .int .i64 PO.term] from rfl]
    obtain ⟨n1, hn1⟩ : ∃ n, v1.heap.size = n := ⟨_, rfl⟩
    have WB1 := WB.new v1 66 #[.string PO.name, .int .i64 PO.uid, .int .i64 PO.prio, .int .i64 PO.req.a, .int .i64 PO.req.b, .int .i64 PO.req.c, .slice a1 PO.ports.length b1, .slice a2 PO.labels.length b2, .slice a3 PO.sel.length b3, .slice a4 PO.tols.length b4, .string PO.topo, .slice a5 PO.anti.length b5, .int .i64 PO.skew, .slice a6 PO.even.length b6, .string PO.node, .int .i64 PO.term]
    obtain ⟨V1, hV1⟩ : ∃ W, v1.alloc (.cells #[.string PO.name, .int .i64 PO.uid, .int .i64 PO.prio, .int .i64 PO.req.a, .int .i64 PO.req.b, .int .i64 PO.req.c, .slice a1 PO.ports.length b1, .slice a2 PO.labels.length b2, .slice a3 PO.sel.length b3, .slice a4 PO.tols.length b4, .string PO.topo, .slice a5 PO.anti.length b5, .int .i64 PO.skew, .slice a6 PO.even.length b6, .string PO.node, .int .i64 PO.term] 66) = W := ⟨_, rfl⟩
    rw [hV1, hn1] at WB1
    have XV : Hid (Ext w2 V1) := by rw [← hV1]; exact X5.out.trans (e1.trans ((Ext.refl _).alloc _))
    have OKQ : Hid (PodOk V1 PO ⟨a1, b1, a2, b2, a3, b3, a4, b4, a5, b5, a6, b6⟩) := by rw [← hV1]; exact ok1.ext ((Ext.refl _).alloc _)
    have WBQ := Lib.hid WB1
    clear WB1 ok1 e1 CG LP LN
    go_upto_region 27 with fail

    clear hn1 hV1
    by_cases h6 : nn ≤ 6
    · as_aux_lemma =>
      obtain ⟨p1, p2, rfl, rfl⟩ := RF2.out h6
      have h7 : ¬ (6 : Int) < (nn : Int) := by omega
      have p3 : (0 : Int) < (np : Int) := by omega
      have p4 : (np : Int) ≤ 4000 := by omega
      have p5 : (0 : Int) < (nq : Int) := by omega
      have p6 : (nq : Int) ≤ 4000 := by omega
      have C1 : Hid (Calls Tryz.prog 47 #[.agg #[.string PO.name, .int .i64 PO.uid, .int .i64 PO.prio, .int .i64 PO.req.a, .int .i64 PO.req.b, .int .i64 PO.req.c, .slice A1 PO.ports.length d1, .slice A2 PO.labels.length d2, .slice A3 PO.sel.length d3, .slice A4 PO.tols.length d4, .string PO.topo, .slice A5 PO.anti.length d5, .int .i64 PO.skew, .slice A6 PO.even.length d6, .string PO.node, .int .i64 PO.term], .agg #[.string PO.name, .int .i64 PO.uid, .int .i64 PO.prio, .int .i64 PO.req.a, .int .i64 PO.req.b, .int .i64 PO.req.c, .slice a1 PO.ports.length b1, .slice a2 PO.labels.length b2, .slice a3 PO.sel.length b3, .slice a4 PO.tols.length b4, .string PO.topo, .slice a5 PO.anti.length b5, .int .i64 PO.skew, .slice a6 PO.even.length b6, .string PO.node, .int .i64 PO.term]] V1 fun e w' => e = .returned (.bool true) ∧ Ext V1 w') := (eqPod_any PO PO ⟨A1, d1, A2, d2, A3, d3, A4, d4, A5, d5, A6, d6⟩ ⟨a1, b1, a2, b2, a3, b3, a4, b4, a5, b5, a6, b6⟩ V1 (OX.out _ XV.out) OKQ.out).mono fun _ _ h => eq_yes h rfl
      have PP := HP.out _ XV.out
      have PQ := WBQ.out
      have ca0 := PP.cell (i := 0) rfl
      have cb0 := PQ.cell (i := 0) rfl
      have ca1 := PP.cell (i := 1) rfl
      have cb1 := PQ.cell (i := 1) rfl
      have ca2 := PP.cell (i := 2) rfl
      have cb2 := PQ.cell (i := 2) rfl
      have ca3 := PP.cell (i := 3) rfl
      have cb3 := PQ.cell (i := 3) rfl
      have ca4 := PP.cell (i := 4) rfl
      have cb4 := PQ.cell (i := 4) rfl
      have ca5 := PP.cell (i := 5) rfl
      have cb5 := PQ.cell (i := 5) rfl
      have ca6 := PP.cell (i := 6) rfl
      have cb6 := PQ.cell (i := 6) rfl
      have ca7 := PP.cell (i := 7) rfl
      have cb7 := PQ.cell (i := 7) rfl
      have ca8 := PP.cell (i := 8) rfl
      have cb8 := PQ.cell (i := 8) rfl
      have ca9 := PP.cell (i := 9) rfl
      have cb9 := PQ.cell (i := 9) rfl
      have ca10 := PP.cell (i := 10) rfl
      have cb10 := PQ.cell (i := 10) rfl
      have ca11 := PP.cell (i := 11) rfl
      have cb11 := PQ.cell (i := 11) rfl
      have ca12 := PP.cell (i := 12) rfl
      have cb12 := PQ.cell (i := 12) rfl
      have ca13 := PP.cell (i := 13) rfl
      have cb13 := PQ.cell (i := 13) rfl
      have ca14 := PP.cell (i := 14) rfl
      have cb14 := PQ.cell (i := 14) rfl
      have ca15 := PP.cell (i := 15) rfl
      have cb15 := PQ.cell (i := 15) rfl
      clear PP PQ
      go_wp2_with fail
      refine C1.out.mono ?_
      rintro e wz ⟨rfl, ez⟩
      have EZ := Lib.hid ez
      clear ez
      go_wp2_with fail
      go_ret
      exact ⟨rfl, E1.out.trans (HE.out.trans (XV.out.trans EZ.out))⟩
    · obtain ⟨rfl, rfl⟩ := RN2.out (by omega)
      have h7 : (6 : Int) < (nn : Int) := by omega
      go_wp2_with fail
      go_ret
      exact ⟨rfl, E1.out.trans (HE.out.trans XV.out)⟩
end Go.Proofs.YthfafenigjldlaaGreat
