/-
  Plain Lean: what 'begun' reckons, on its own data.
-/
import Derived.Test.YthfafenigjldlaaGreatDec1
import Derived.Test.YthfafenigjldlaaGreatSome1
import Derived.Test.YthfafenigjldlaaGreatKey1
import Derived.Test.YthfafenigjldlaaGreatGet6
import Derived.Test.YthfafenigjldlaaGreatQty2
import Derived.Test.YthfafenigjldlaaGreatEq2
import Derived.Deep.Cut
import Derived.Deep.CutRange
import Derived.Test.YthfafenigjldlaaGreatGet7
import Derived.Test.YthfafenigjldlaaGreatEq4
import Derived.Test.YthfafenigjldlaaGreatPut4
namespace Go.Proofs.YthfafenigjldlaaGreat
open Go.RowKit
set_option linter.unusedVariables false

theorem bg_sum : sumO zeroR [⟨1, 2, 3⟩, ⟨4, 5, 6⟩] = some ⟨5, 7, 9⟩ := by kernel_rfl
theorem bg_share : shareI 1 3 = 33 := by decide +kernel
theorem bg_match : matchB somePd.sel [⟨⟨#[122, 111, 110, 101]⟩, ⟨#[98]⟩⟩] = true := by decide +kernel
theorem bg_all : allB somePd.tols [⟨⟨#[120]⟩, ⟨#[121]⟩⟩] = true := by decide +kernel
theorem bg_may : mayPodB somePd = true := by decide +kernel
theorem bg_got : podG (putPodB somePd) = true := by decide +kernel
theorem bg_len : 0 < (putPodB somePd).length := by decide +kernel
theorem bg_len2 : (putPodB somePd).length < 1000 := by decide +kernel
theorem bg_len3 : (putLeaseB 3 1000).length < 1000 := by decide +kernel
theorem bg_lease : leaseG (putLeaseB 3 1000) = true := by decide +kernel
theorem bg_holder : (leaseR2 (putLeaseB 3 1000)).1 = 3 := by decide +kernel
theorem bg_key : keyS 1 ⟨#[97]⟩ = ⟨#[112, 47, 97]⟩ := by decide +kernel
theorem bg_kind : kindI ⟨#[110, 47, 98]⟩ = 2 := by decide +kernel
theorem bg_pod : (podR (putPodB somePd)).pod = somePd := by kernel_rfl
end Go.Proofs.YthfafenigjldlaaGreat

/-
  The walk of interrexlaw1.begun: its last region (printed by mkbegun.py).
-/
namespace Go.Proofs.YthfafenigjldlaaGreat
open Go.RowKit
set_option linter.unusedVariables false

/-- two blocks of amounts -/
theorem sl_res2 (W : World) (b : Nat) (x1 x2 x3 y1 y2 y3 : Int) (h1 : okR ⟨x1, x2, x3⟩) (h2 : okR ⟨y1, y2, y3⟩) (hb : WB W b 56 #[.int .i64 x1, .int .i64 x2, .int .i64 x3, .int .i64 y1, .int .i64 y2, .int .i64 y3]) :
    Sl RRes 3 W (some ⟨b, 0, none⟩) [⟨x1, x2, x3⟩, ⟨y1, y2, y3⟩] := by
  intro k x hx
  match k, hx with
  | 0, hx => obtain rfl : (⟨x1, x2, x3⟩ : Rs) = x := by simpa using hx
             exact ⟨_, 0, [_, _, _], rfl, rfl, fun j u hu => by match j, hu with | 0, hu => (injection hu with hu; subst hu; exact hb.cell (i := 0) rfl) | 1, hu => (injection hu with hu; subst hu; exact hb.cell (i := 1) rfl) | 2, hu => (injection hu with hu; subst hu; exact hb.cell (i := 2) rfl), rfl, h1⟩
  | 1, hx => obtain rfl : (⟨y1, y2, y3⟩ : Rs) = x := by simpa using hx
             exact ⟨_, 0, [_, _, _], rfl, rfl, fun j u hu => by match j, hu with | 0, hu => (injection hu with hu; subst hu; exact hb.cell (i := 3) rfl) | 1, hu => (injection hu with hu; subst hu; exact hb.cell (i := 4) rfl) | 2, hu => (injection hu with hu; subst hu; exact hb.cell (i := 5) rfl), rfl, h2⟩
  | k + 2, hx => simp at hx
theorem sl_pair1 {T : TypeId} (W : World) (b : Nat) (x y : ByteArray) (h1 : okS x) (h2 : okS y) (hb : WB W b T #[.string x, .string y]) : Sl RPair 2 W (some ⟨b, 0, none⟩) [⟨x, y⟩] := by
  intro k p hp
  match k, hp with
  | 0, hp => obtain rfl : (⟨x, y⟩ : Pr) = p := by simpa using hp
             exact ⟨_, 0, [_, _], rfl, rfl, fun j u hu => by match j, hu with | 0, hu => (injection hu with hu; subst hu; exact hb.cell (i := 0) rfl) | 1, hu => (injection hu with hu; subst hu; exact hb.cell (i := 1) rfl), rfl, h1, h2⟩
  | k + 1, hp => simp at hp

def findRegion (n : Nat) : Code → Option Code
  | .region k ops d => if k = n then some (.region k ops d) else none
  | .seq a b => match findRegion n a with
    | some c => some c
    | none => findRegion n b
  | .block _ c => findRegion n c
  | .scope c => findRegion n c
  | _ => none
noncomputable def rg6 : Code := (Tryz.f17.body.bind (findRegion 6)).getD .skip

set_option maxRecDepth 1000000 in
set_option maxHeartbeats 4000000 in
theorem begun_tail (Q0 : Exit → Act → World → Prop) (W10 : World) (n1 n3 n6 n9 : Nat) (A1 A2 A3 A4 A5 A6 DA1 DA2 DA3 DA4 DA5 DA6 B5 : Option Addr) (c1 c2 c3 c4 c5 c6 Dc1 Dc2 Dc3 Dc4 Dc5 Dc6 d5 : Nat) (hd : Int) (BS : List UInt8) (u9 u10 u11 u12 u13 u14 u15 u16 u17 u18 u19 u20 u21 u22 u23 u24 u25 u26 u27 u28 u29 u30 u31 u32 u33 u34 u35 u36 u37 u38 u39 u40 u41 u42 u43 u44 u45 u46 u47 u48 u49 u50 u51 u52 u53 u54 u55 u56 u57 u58 u59 u60 u61 u62 u63 u64 u65 u66 u67 u68 u69 u70 u71 u72 u73 u74 u75 u76 u77 u78 u79 u80 u81 u82 u83 u84 u85 u86 : Value)
    (HB : Hid (WB W10 n1 56 #[.int .i64 5, .int .i64 7, .int .i64 9])) (PB : Hid (WB W10 n3 66 #[.string ⟨#[97]⟩, .int .i64 7, .int .i64 3, .int .i64 2, .int .i64 3, .int .i64 0, .slice A1 2 c1, .slice A2 1 c2, .slice A3 1 c3, .slice A4 1 c4, .string ⟨#[122, 111, 110, 101]⟩, .slice A5 1 c5, .int .i64 2, .slice A6 0 c6, .string ⟨#[]⟩, .int .i64 0])) (QB : Hid (WB W10 n6 66 #[.string ⟨#[97]⟩, .int .i64 7, .int .i64 3, .int .i64 2, .int .i64 3, .int .i64 0, .slice DA1 2 Dc1, .slice DA2 1 Dc2, .slice DA3 1 Dc3, .slice DA4 1 Dc4, .string ⟨#[122, 111, 110, 101]⟩, .slice DA5 1 Dc5, .int .i64 2, .slice DA6 0 Dc6, .string ⟨#[]⟩, .int .i64 0])) (LB : Hid (WB W10 n9 85 #[.int .i64 3, .int .i64 hd]))
    (hbl : (0 : Int) < (BS.length : Int)) (HSEL : Hid (∀ wx, Ext W10 wx → Sl RTerm 3 wx A3 somePd.sel)) (HTOL : Hid (∀ wx, Ext W10 wx → Sl RTol 3 wx A4 somePd.tols))
    (HM : Hid (∀ wx, Ext W10 wx → Calls Tryz.prog 60 #[.agg #[.string ⟨#[97]⟩, .int .i64 7, .int .i64 3, .int .i64 2, .int .i64 3, .int .i64 0, .slice A1 2 c1, .slice A2 1 c2, .slice A3 1 c3, .slice A4 1 c4, .string ⟨#[122, 111, 110, 101]⟩, .slice A5 1 c5, .int .i64 2, .slice A6 0 c6, .string ⟨#[]⟩, .int .i64 0]] wx fun e w' => e = .returned (.bool true) ∧ Ext wx w'))
    (HQ : Hid (∀ wx, Ext W10 wx → Calls Tryz.prog 47 #[.agg #[.string ⟨#[97]⟩, .int .i64 7, .int .i64 3, .int .i64 2, .int .i64 3, .int .i64 0, .slice A1 2 c1, .slice A2 1 c2, .slice A3 1 c3, .slice A4 1 c4, .string ⟨#[122, 111, 110, 101]⟩, .slice A5 1 c5, .int .i64 2, .slice A6 0 c6, .string ⟨#[]⟩, .int .i64 0], .agg #[.string ⟨#[97]⟩, .int .i64 7, .int .i64 3, .int .i64 2, .int .i64 3, .int .i64 0, .slice DA1 2 Dc1, .slice DA2 1 Dc2, .slice DA3 1 Dc3, .slice DA4 1 Dc4, .string ⟨#[122, 111, 110, 101]⟩, .slice DA5 1 Dc5, .int .i64 2, .slice DA6 0 Dc6, .string ⟨#[]⟩, .int .i64 0]] wx fun e w' => e = .returned (.bool true) ∧ Ext wx w'))
    (hexit : Hid (∀ (v1 v2 v3 v4 v5 v6 v7 v8 v9 v10 v11 v12 v13 v14 v15 v16 v17 v18 v19 v20 v21 v22 v23 v24 v25 v26 v27 v28 v29 v30 v31 v32 v33 v34 v35 v36 v37 v38 v39 v40 v41 v42 v43 v44 v45 v46 v47 v48 v49 v50 v51 v52 v53 v54 v55 v56 v57 v58 v59 v60 v61 v62 v63 v64 v65 v66 v67 v68 v69 v70 v71 v72 v73 v74 v75 v76 v77 v78 v79 v80 v81 v82 v83 v84 v85 v86 : Value) (wx : World), Ext W10 wx → Q0 .normal ⟨#[.bool true, v1, v2, v3, v4, v5, v6, v7, v8, v9, v10, v11, v12, v13, v14, v15, v16, v17, v18, v19, v20, v21, v22, v23, v24, v25, v26, v27, v28, v29, v30, v31, v32, v33, v34, v35, v36, v37, v38, v39, v40, v41, v42, v43, v44, v45, v46, v47, v48, v49, v50, v51, v52, v53, v54, v55, v56, v57, v58, v59, v60, v61, v62, v63, v64, v65, v66, v67, v68, v69, v70, v71, v72, v73, v74, v75, v76, v77, v78, v79, v80, v81, v82, v83, v84, v85, v86], []⟩ wx)) :
    Code.wp Tryz.prog rg6 Q0 ⟨#[.bool false, .pointer (some ⟨n1, 0, none⟩), .bool true, .pointer (some ⟨n3, 0, none⟩), .slice B5 BS.length d5, .pointer (some ⟨n6, 0, none⟩), .bool true, .pointer (some ⟨n9, 0, none⟩), .bool true, u9, u10, u11, u12, u13, u14, u15, u16, u17, u18, u19, u20, u21, u22, u23, u24, u25, u26, u27, u28, u29, u30, u31, u32, u33, u34, u35, u36, u37, u38, u39, u40, u41, u42, u43, u44, u45, u46, u47, u48, u49, u50, u51, u52, u53, u54, u55, u56, u57, u58, u59, u60, u61, u62, u63, u64, u65, u66, u67, u68, u69, u70, u71, u72, u73, u74, u75, u76, u77, u78, u79, u80, u81, u82, u83, u84, u85, u86], []⟩ W10 := by
  conv => arg 2; whnf
  have ok9 : ∀ s : ByteArray, s.size ≤ 9 → okS s := fun s h => by unfold okS maxLen; omega
  have OK9 := Lib.hid ok9
  clear ok9
  have r0 := HB.out.cell (i := 0) rfl
  have r1 := HB.out.cell (i := 1) rfl
  have r2 := HB.out.cell (i := 2) rfl
  have p6 := PB.out.cell (i := 8) rfl
  have he := eql_res
  go_wp2_with (first
    | (go_at_call 59; refine (qShare_any 1 3 _).mono ?_; rintro e wq ⟨rfl, rfl⟩; rw [bg_share]))
  clear r0 r1 r2 p6 he
  have HNB := Lib.hid (WB.new W10 37 #[.string ⟨#[122, 111, 110, 101]⟩, .string ⟨#[98]⟩])
  have E11 : Hid (Ext W10 (W10.alloc (.cells #[.string ⟨#[122, 111, 110, 101]⟩, .string ⟨#[98]⟩] 37))) := (Ext.refl _).alloc _
  refine (match_any A3 c3 somePd.sel (some ⟨W10.heap.size, 0, none⟩) 1 [⟨⟨#[122, 111, 110, 101]⟩, ⟨#[98]⟩⟩] _ (by simp [somePd, maxLen]) (HSEL.out _ E11.out) (by simp [maxLen]) (sl_pair1 _ _ _ _ (OK9.out _ (by decide)) (OK9.out _ (by decide)) HNB.out)).mono ?_
  rintro e w12 ⟨rfl, e12⟩
  rw [bg_match]
  have E : Ext W10 w12 := E11.out.trans e12
  have EAL : Hid (∀ w o, Ext w (w.alloc o)) := fun w o => (Ext.refl _).alloc o
  clear e12
  have p9 := (PB.out.ext E).cell (i := 9) rfl
  go_wp2_with fail
  refine (all_any A4 c4 somePd.tols (some ⟨w12.heap.size, 0, none⟩) 1 [⟨⟨#[120]⟩, ⟨#[121]⟩⟩] _ (by simp [somePd, maxLen]) (HTOL.out _ (E.trans (EAL.out _ _))) (by simp [maxLen]) (sl_pair1 _ _ _ _ (OK9.out _ (by decide)) (OK9.out _ (by decide)) (WB.new _ _ _))).mono ?_
  rintro e w13 ⟨rfl, e13⟩
  rw [bg_all]
  replace E := E.trans ((EAL.out _ _).trans e13)
  clear e13 p9
  have PP := PB.out.ext E
  have p0 := PP.cell (i := 0) rfl
  have p1 := PP.cell (i := 1) rfl
  have p2 := PP.cell (i := 2) rfl
  have p3 := PP.cell (i := 3) rfl
  have p4 := PP.cell (i := 4) rfl
  have p5 := PP.cell (i := 5) rfl
  have p6 := PP.cell (i := 6) rfl
  have p7 := PP.cell (i := 7) rfl
  have p8 := PP.cell (i := 8) rfl
  have p9 := PP.cell (i := 9) rfl
  have p10 := PP.cell (i := 10) rfl
  have p11 := PP.cell (i := 11) rfl
  have p12 := PP.cell (i := 12) rfl
  have p13 := PP.cell (i := 13) rfl
  have p14 := PP.cell (i := 14) rfl
  have p15 := PP.cell (i := 15) rfl
  clear PP
  go_wp2_with fail
  refine (HM.out _ E).mono ?_
  rintro e w14 ⟨rfl, e14⟩
  replace E := E.trans e14
  clear e14 p0 p1 p2 p3 p4 p5 p6 p7 p8 p9 p10 p11 p12 p13 p14 p15
  have PP := PB.out.ext E
  have QQ := QB.out.ext E
  have p0 := PP.cell (i := 0) rfl
  have p1 := PP.cell (i := 1) rfl
  have p2 := PP.cell (i := 2) rfl
  have p3 := PP.cell (i := 3) rfl
  have p4 := PP.cell (i := 4) rfl
  have p5 := PP.cell (i := 5) rfl
  have p6 := PP.cell (i := 6) rfl
  have p7 := PP.cell (i := 7) rfl
  have p8 := PP.cell (i := 8) rfl
  have p9 := PP.cell (i := 9) rfl
  have p10 := PP.cell (i := 10) rfl
  have p11 := PP.cell (i := 11) rfl
  have p12 := PP.cell (i := 12) rfl
  have p13 := PP.cell (i := 13) rfl
  have p14 := PP.cell (i := 14) rfl
  have p15 := PP.cell (i := 15) rfl
  have q0 := QQ.cell (i := 0) rfl
  have q1 := QQ.cell (i := 1) rfl
  have q2 := QQ.cell (i := 2) rfl
  have q3 := QQ.cell (i := 3) rfl
  have q4 := QQ.cell (i := 4) rfl
  have q5 := QQ.cell (i := 5) rfl
  have q6 := QQ.cell (i := 6) rfl
  have q7 := QQ.cell (i := 7) rfl
  have q8 := QQ.cell (i := 8) rfl
  have q9 := QQ.cell (i := 9) rfl
  have q10 := QQ.cell (i := 10) rfl
  have q11 := QQ.cell (i := 11) rfl
  have q12 := QQ.cell (i := 12) rfl
  have q13 := QQ.cell (i := 13) rfl
  have q14 := QQ.cell (i := 14) rfl
  have q15 := QQ.cell (i := 15) rfl
  clear PP QQ
  go_wp2_with fail
  refine (HQ.out _ E).mono ?_
  rintro e w15 ⟨rfl, e15⟩
  replace E := E.trans e15
  clear e15 p0 p1 p2 p3 p4 p5 p6 p7 p8 p9 p10 p11 p12 p13 p14 p15 q0 q1 q2 q3 q4 q5 q6 q7 q8 q9 q10 q11 q12 q13 q14 q15
  have l0 := (LB.out.ext E).cell (i := 0) rfl
  go_wp2_with fail
  refine (cKey_any 1 ⟨#[97]⟩ _ (OK9.out _ (by decide))).mono ?_
  rintro e wq ⟨rfl, rfl⟩
  obtain ⟨ks, hks⟩ : ∃ k, k = keyS 1 ⟨#[97]⟩ := ⟨_, rfl⟩
  have hk : ks.toList = [112, 47, 97] := by rw [hks, bg_key, ByteArray.toList_eq]
  rw [← hks]
  clear hks
  go_wp2_with fail
  refine (cKind_any ⟨#[110, 47, 98]⟩ _ (OK9.out _ (by decide))).mono ?_
  rintro e wq ⟨rfl, rfl⟩
  rw [bg_kind]
  have HEE := Lib.hid E
  go_wp2_with fail
  exact hexit.out _ _ _ _ _ _ _ _ _ _ _ _ _ _ _ _ _ _ _ _ _ _ _ _ _ _ _ _ _ _ _ _ _ _ _ _ _ _ _ _ _ _ _ _ _ _ _ _ _ _ _ _ _ _ _ _ _ _ _ _ _ _ _ _ _ _ _ _ _ _ _ _ _ _ _ _ _ _ _ _ _ _ _ _ _ _ _ HEE.out
end Go.Proofs.YthfafenigjldlaaGreat

/-
  The walk of interrexlaw1.begun: one of each. It answers true.
-/
namespace Go.Proofs.YthfafenigjldlaaGreat
open Go.RowKit
set_option linter.unusedVariables false

def GetPodAny : Prop := ∀ (A : Option Addr) (c : Nat) (bs : List UInt8) (w : World), ByF A bs w → bs.length ≤ 140737488355328 → Calls Tryz.prog 51 #[.slice A bs.length c] w (GPPost bs w)

set_option maxRecDepth 20000 in
set_option maxHeartbeats 4000000 in
theorem begun_of (HGP : Hid GetPodAny) (w : World) : Calls Tryz.prog 17 #[] w fun e w' => e = .returned (.bool true) ∧ Ext w w' := by
  have oi : ∀ x : Int, 0 ≤ x → x ≤ 1000 → inI x := fun x h1 h2 => ⟨by omega, by omega⟩
  have ok9 : ∀ s : ByteArray, s.size ≤ 9 → okS s := fun s h => by unfold okS maxLen; omega
  have OK9 := Lib.hid ok9
  have OI := Lib.hid oi
  clear ok9 oi
  go_enter Tryz.func17, Tryz.ntmps17
  go_wp2_with fail
  refine (qSum_any (some ⟨w.heap.size, 0, none⟩) 2 [⟨1, 2, 3⟩, ⟨4, 5, 6⟩] _ (by simp [maxLen]) (sl_res2 _ _ 1 2 3 4 5 6 ⟨OI.out _ (by decide) (by decide), OI.out _ (by decide) (by decide), OI.out _ (by decide) (by decide)⟩ ⟨OI.out _ (by decide) (by decide), OI.out _ (by decide) (by decide), OI.out _ (by decide) (by decide)⟩ (WB.new _ _ _))).mono ?_
  rintro e w1 ⟨rfl, e1⟩
  have hsv : sumV [⟨1, 2, 3⟩, ⟨4, 5, 6⟩] = ⟨5, 7, 9⟩ := by unfold sumV; rw [bg_sum]; rfl
  have hsb : sumB [⟨1, 2, 3⟩, ⟨4, 5, 6⟩] = true := by unfold sumB; rw [bg_sum]; rfl
  rw [hsv, hsb]
  simp only
  have E1 : Hid (Ext w w1) := (boxedExt _ _ _).trans e1
  clear hsv hsb e1
  go_wp2_with fail
  obtain ⟨n1, hn1⟩ : ∃ n, n = w1.heap.size := ⟨_, rfl⟩
  obtain ⟨W2, hW2⟩ : ∃ W, w1.alloc (.cells #[.int .i64 5, .int .i64 7, .int .i64 9] 56) = W := ⟨_, rfl⟩
  have HB1 : Hid (WB W2 n1 56 #[.int .i64 5, .int .i64 7, .int .i64 9]) := by show WB _ _ _ _; rw [← hW2, hn1]; exact WB.new _ _ _
  have E2 : Hid (Ext w W2) := by show Ext _ _; rw [← hW2]; exact E1.out.alloc _
  rw [← hn1, hW2]
  clear hn1 hW2 E1
  refine (some_any W2).mono ?_
  rintro e w3 ⟨⟨A1, c1, A2, c2, A3, c3, A4, c4, A5, c5, A6, c6⟩, rfl, e3, ok3⟩
  obtain ⟨Q1, hQ1⟩ : ∃ q : PA, q = ⟨A1, c1, A2, c2, A3, c3, A4, c4, A5, c5, A6, c6⟩ := ⟨_, rfl⟩
  have hpc : (podC somePd ⟨A1, c1, A2, c2, A3, c3, A4, c4, A5, c5, A6, c6⟩).toArray = #[.string ⟨#[97]⟩, .int .i64 7, .int .i64 3, .int .i64 2, .int .i64 3, .int .i64 0, .slice A1 2 c1, .slice A2 1 c2, .slice A3 1 c3, .slice A4 1 c4, .string ⟨#[122, 111, 110, 101]⟩, .slice A5 1 c5, .int .i64 2, .slice A6 0 c6, .string ⟨#[]⟩, .int .i64 0] := rfl
  have HC1 : Hid ((podC somePd Q1).toArray = #[.string ⟨#[97]⟩, .int .i64 7, .int .i64 3, .int .i64 2, .int .i64 3, .int .i64 0, .slice A1 2 c1, .slice A2 1 c2, .slice A3 1 c3, .slice A4 1 c4, .string ⟨#[122, 111, 110, 101]⟩, .slice A5 1 c5, .int .i64 2, .slice A6 0 c6, .string ⟨#[]⟩, .int .i64 0]) := by rw [hQ1]; exact hpc
  rw [hpc]
  rw [← hQ1] at ok3
  have OK3 : Hid (∀ wx, Ext w3 wx → PodOk wx somePd Q1) := fun wx h => ok3.ext h
  have E3 : Hid (Ext w w3) := E2.out.trans e3
  have HB3 : Hid (∀ wx, Ext w3 wx → WB wx n1 56 #[.int .i64 5, .int .i64 7, .int .i64 9]) := fun wx h => HB1.out.ext (e3.trans h)
  have HSEL : Hid (∀ wx, Ext w3 wx → Sl RTerm 3 wx A3 somePd.sel) := fun wx h => by have := (OK3.out wx h).sel; rw [hQ1] at this; exact this
  have HTOL : Hid (∀ wx, Ext w3 wx → Sl RTol 3 wx A4 somePd.tols) := fun wx h => by have := (OK3.out wx h).tols; rw [hQ1] at this; exact this
  clear e3 ok3 hpc hQ1 E2 HB1
  go_wp2_with fail
  obtain ⟨n3, hn3⟩ : ∃ n, n = w3.heap.size := ⟨_, rfl⟩
  obtain ⟨W4, hW4⟩ : ∃ W, w3.alloc (.cells #[.string ⟨#[97]⟩, .int .i64 7, .int .i64 3, .int .i64 2, .int .i64 3, .int .i64 0, .slice A1 2 c1, .slice A2 1 c2, .slice A3 1 c3, .slice A4 1 c4, .string ⟨#[122, 111, 110, 101]⟩, .slice A5 1 c5, .int .i64 2, .slice A6 0 c6, .string ⟨#[]⟩, .int .i64 0] 66) = W := ⟨_, rfl⟩
  have HP4 : Hid (WB W4 n3 66 #[.string ⟨#[97]⟩, .int .i64 7, .int .i64 3, .int .i64 2, .int .i64 3, .int .i64 0, .slice A1 2 c1, .slice A2 1 c2, .slice A3 1 c3, .slice A4 1 c4, .string ⟨#[122, 111, 110, 101]⟩, .slice A5 1 c5, .int .i64 2, .slice A6 0 c6, .string ⟨#[]⟩, .int .i64 0]) := by show WB _ _ _ _; rw [← hW4, hn3]; exact WB.new _ _ _
  have E34 : Hid (Ext w3 W4) := by show Ext _ _; rw [← hW4]; exact (Ext.refl _).alloc _
  rw [← hn3, hW4]
  clear hn3 hW4
  obtain ⟨BS, hBS⟩ : ∃ B, B = putPodB somePd := ⟨_, rfl⟩
  have HBG : Hid (podG BS = true ∧ podOut BS = somePd ∧ 0 < BS.length ∧ BS.length < 1000) := by
    rw [hBS]
    refine ⟨bg_got, ?_, bg_len, bg_len2⟩
    unfold podOut
    rw [if_pos bg_got, bg_pod]
  have HPP : Hid (Calls Tryz.prog 49 #[.agg #[.string ⟨#[97]⟩, .int .i64 7, .int .i64 3, .int .i64 2, .int .i64 3, .int .i64 0, .slice A1 2 c1, .slice A2 1 c2, .slice A3 1 c3, .slice A4 1 c4, .string ⟨#[122, 111, 110, 101]⟩, .slice A5 1 c5, .int .i64 2, .slice A6 0 c6, .string ⟨#[]⟩, .int .i64 0]] W4 (ClPost 5 1 BS.length (BS.map byV) W4)) := by
    rw [← HC1.out, hBS]
    exact putPod_any somePd Q1 W4 (OK3.out _ E34.out)
  clear hBS
  refine HPP.out.mono ?_
  rintro e w5 ⟨v, rfl, o5, e5⟩
  obtain ⟨B5, d5, rfl, l5, m5, f5⟩ := cl_flat o5
  have F5 := Lib.hid f5
  clear o5 f5 HPP
  go_wp2_with fail
  refine (HGP.out B5 d5 BS _ F5.out (by have := HBG.out.2.2.2; omega)).mono ?_
  rintro e w6 ⟨⟨DA1, Dc1, DA2, Dc2, DA3, Dc3, DA4, Dc4, DA5, Dc5, DA6, Dc6⟩, rfl, e6, ok6⟩
  rw [HBG.out.1, HBG.out.2.1]
  rw [HBG.out.2.1] at ok6
  obtain ⟨Q2, hQ2⟩ : ∃ q : PA, q = ⟨DA1, Dc1, DA2, Dc2, DA3, Dc3, DA4, Dc4, DA5, Dc5, DA6, Dc6⟩ := ⟨_, rfl⟩
  have hpc : (podC somePd ⟨DA1, Dc1, DA2, Dc2, DA3, Dc3, DA4, Dc4, DA5, Dc5, DA6, Dc6⟩).toArray = #[.string ⟨#[97]⟩, .int .i64 7, .int .i64 3, .int .i64 2, .int .i64 3, .int .i64 0, .slice DA1 2 Dc1, .slice DA2 1 Dc2, .slice DA3 1 Dc3, .slice DA4 1 Dc4, .string ⟨#[122, 111, 110, 101]⟩, .slice DA5 1 Dc5, .int .i64 2, .slice DA6 0 Dc6, .string ⟨#[]⟩, .int .i64 0] := rfl
  have HC2 : Hid ((podC somePd Q2).toArray = #[.string ⟨#[97]⟩, .int .i64 7, .int .i64 3, .int .i64 2, .int .i64 3, .int .i64 0, .slice DA1 2 Dc1, .slice DA2 1 Dc2, .slice DA3 1 Dc3, .slice DA4 1 Dc4, .string ⟨#[122, 111, 110, 101]⟩, .slice DA5 1 Dc5, .int .i64 2, .slice DA6 0 Dc6, .string ⟨#[]⟩, .int .i64 0]) := by rw [hQ2]; exact hpc
  rw [hpc]
  rw [← hQ2] at ok6
  have OK6 : Hid (∀ wx, Ext w6 wx → PodOk wx somePd Q2) := fun wx h => ok6.ext h
  have E46 : Hid (Ext W4 w6) := e5.trans e6
  clear e5 e6 ok6 hpc hQ2 F5
  go_wp2_with fail
  obtain ⟨n6, hn6⟩ : ∃ n, n = w6.heap.size := ⟨_, rfl⟩
  obtain ⟨W7, hW7⟩ : ∃ W, w6.alloc (.cells #[.string ⟨#[97]⟩, .int .i64 7, .int .i64 3, .int .i64 2, .int .i64 3, .int .i64 0, .slice DA1 2 Dc1, .slice DA2 1 Dc2, .slice DA3 1 Dc3, .slice DA4 1 Dc4, .string ⟨#[122, 111, 110, 101]⟩, .slice DA5 1 Dc5, .int .i64 2, .slice DA6 0 Dc6, .string ⟨#[]⟩, .int .i64 0] 66) = W := ⟨_, rfl⟩
  have HP7 : Hid (WB W7 n6 66 #[.string ⟨#[97]⟩, .int .i64 7, .int .i64 3, .int .i64 2, .int .i64 3, .int .i64 0, .slice DA1 2 Dc1, .slice DA2 1 Dc2, .slice DA3 1 Dc3, .slice DA4 1 Dc4, .string ⟨#[122, 111, 110, 101]⟩, .slice DA5 1 Dc5, .int .i64 2, .slice DA6 0 Dc6, .string ⟨#[]⟩, .int .i64 0]) := by show WB _ _ _ _; rw [← hW7, hn6]; exact WB.new _ _ _
  have E67 : Hid (Ext w6 W7) := by show Ext _ _; rw [← hW7]; exact (Ext.refl _).alloc _
  rw [← hn6, hW7]
  clear hn6 hW7
  obtain ⟨LS, hLS⟩ : ∃ B, B = putLeaseB 3 1000 := ⟨_, rfl⟩
  have HLG : Hid (leaseG LS = true ∧ (leaseR2 LS).1 = 3 ∧ LS.length < 1000) := by
    rw [hLS]; exact ⟨bg_lease, bg_holder, bg_len3⟩
  have HPL : Hid (Calls Tryz.prog 57 #[.agg #[.int .i64 3, .int .i64 1000]] W7 (ClPost 5 1 LS.length (LS.map byV) W7)) := by
    rw [hLS]; exact putLease_any 3 1000 _ (OI.out _ (by decide) (by decide)) (OI.out _ (by decide) (by decide))
  clear hLS
  refine HPL.out.mono ?_
  rintro e w8 ⟨v, rfl, o8, e8⟩
  obtain ⟨B8, d8, rfl, l8, m8, f8⟩ := cl_flat o8
  have F8 := Lib.hid f8
  clear o8 f8
  go_wp2_with fail
  refine (getLease_any B8 d8 _ _ F8.out (by have := HLG.out.2.2; omega)).mono ?_
  rintro e w9 ⟨rfl, e9⟩
  rw [HLG.out.1]
  simp only [if_true]
  rw [HLG.out.2.1]
  have E79 : Hid (Ext W7 w9) := e8.trans e9
  clear e8 e9 F8
  obtain ⟨hd, hhd⟩ : ∃ x, x = (leaseR3 LS).1 := ⟨_, rfl⟩
  rw [← hhd]
  clear hhd
  go_upto_region 6 with (fail)
  have E39 : Hid (∀ wx, Ext w9 wx → Ext w3 wx) := fun wx h => E34.out.trans (E46.out.trans (E67.out.trans (E79.out.trans h)))
  have rb := HB3.out _ (E39.out _ (Ext.refl _))
  have pb := HP4.out.ext (E46.out.trans (E67.out.trans E79.out))
  have qb := HP7.out.ext E79.out
  have PB := Lib.hid pb
  have QB := Lib.hid qb
  have RB := Lib.hid rb
  clear pb qb rb
  have E69 : Hid (∀ wx, Ext w9 wx → Ext w6 wx) := fun wx h => E67.out.trans (E79.out.trans h)
  have HM : Hid (∀ wx, Ext w9 wx → Calls Tryz.prog 60 #[.agg #[.string ⟨#[97]⟩, .int .i64 7, .int .i64 3, .int .i64 2, .int .i64 3, .int .i64 0, .slice A1 2 c1, .slice A2 1 c2, .slice A3 1 c3, .slice A4 1 c4, .string ⟨#[122, 111, 110, 101]⟩, .slice A5 1 c5, .int .i64 2, .slice A6 0 c6, .string ⟨#[]⟩, .int .i64 0]] wx fun e w' => e = .returned (.bool true) ∧ Ext wx w') := fun wx h => by
    have := mayPod_any somePd Q1 wx (OK3.out _ (E39.out _ h))
    rw [HC1.out, bg_may] at this
    exact this
  have HQ : Hid (∀ wx, Ext w9 wx → Calls Tryz.prog 47 #[.agg #[.string ⟨#[97]⟩, .int .i64 7, .int .i64 3, .int .i64 2, .int .i64 3, .int .i64 0, .slice A1 2 c1, .slice A2 1 c2, .slice A3 1 c3, .slice A4 1 c4, .string ⟨#[122, 111, 110, 101]⟩, .slice A5 1 c5, .int .i64 2, .slice A6 0 c6, .string ⟨#[]⟩, .int .i64 0], .agg #[.string ⟨#[97]⟩, .int .i64 7, .int .i64 3, .int .i64 2, .int .i64 3, .int .i64 0, .slice DA1 2 Dc1, .slice DA2 1 Dc2, .slice DA3 1 Dc3, .slice DA4 1 Dc4, .string ⟨#[122, 111, 110, 101]⟩, .slice DA5 1 Dc5, .int .i64 2, .slice DA6 0 Dc6, .string ⟨#[]⟩, .int .i64 0]] wx fun e w' => e = .returned (.bool true) ∧ Ext wx w') := fun wx h => by
    have := eqPod_any somePd somePd Q1 Q2 wx (OK3.out _ (E39.out _ h)) (OK6.out _ (E69.out _ h))
    rw [HC1.out, HC2.out] at this
    refine this.mono ?_
    rintro e w' ⟨b, rfl, hb, he⟩
    rw [hb.2 rfl]
    exact ⟨rfl, he⟩
  have EW : Hid (Ext w w9) := E3.out.trans (E39.out _ (Ext.refl _))
  have hbl : (0 : Int) < (BS.length : Int) := by have := HBG.out.2.2.1; omega
  obtain ⟨n9, hn9⟩ : ∃ n, n = w9.heap.size := ⟨_, rfl⟩
  obtain ⟨W10, hW10⟩ : ∃ W, w9.alloc (.cells #[.int .i64 3, .int .i64 hd] 85) = W := ⟨_, rfl⟩
  have LB : Hid (WB W10 n9 85 #[.int .i64 3, .int .i64 hd]) := by show WB _ _ _ _; rw [← hW10, hn9]; exact WB.new _ _ _
  have E10 : Hid (Ext w9 W10) := by show Ext _ _; rw [← hW10]; exact (Ext.refl _).alloc _
  rw [← hn9, hW10]
  clear hn9 hW10
  refine begun_tail _ W10 n1 n3 n6 n9 A1 A2 A3 A4 A5 A6 DA1 DA2 DA3 DA4 DA5 DA6 B5 c1 c2 c3 c4 c5 c6 Dc1 Dc2 Dc3 Dc4 Dc5 Dc6 d5 hd BS _ _ _ _ _ _ _ _ _ _ _ _ _ _ _ _ _ _ _ _ _ _ _ _ _ _ _ _ _ _ _ _ _ _ _ _ _ _ _ _ _ _ _ _ _ _ _ _ _ _ _ _ _ _ _ _ _ _ _ _ _ _ _ _ _ _ _ _ _ _ _ _ _ _ _ _ _ _
    (RB.out.ext E10.out) (PB.out.ext E10.out) (QB.out.ext E10.out) LB hbl (fun wx h => HSEL.out _ (E39.out _ (E10.out.trans h))) (fun wx h => HTOL.out _ (E39.out _ (E10.out.trans h))) (fun wx h => HM.out _ (E10.out.trans h)) (fun wx h => HQ.out _ (E10.out.trans h)) ?_
  intro v1 v2 v3 v4 v5 v6 v7 v8 v9 v10 v11 v12 v13 v14 v15 v16 v17 v18 v19 v20 v21 v22 v23 v24 v25 v26 v27 v28 v29 v30 v31 v32 v33 v34 v35 v36 v37 v38 v39 v40 v41 v42 v43 v44 v45 v46 v47 v48 v49 v50 v51 v52 v53 v54 v55 v56 v57 v58 v59 v60 v61 v62 v63 v64 v65 v66 v67 v68 v69 v70 v71 v72 v73 v74 v75 v76 v77 v78 v79 v80 v81 v82 v83 v84 v85 v86 wx he
  have F := Lib.hid (EW.out.trans (E10.out.trans he))
  clear he
  go_wp2_with fail
  go_ret
  exact ⟨rfl, F.out⟩
end Go.Proofs.YthfafenigjldlaaGreat
