/-
  The walk of interrexlaw1.begun: its last region (printed by mkbegun.py).
-/
import Derived.Test.YthfafenigjldlaaBegun0
import Derived.Test.YthfafenigjldlaaEq3
namespace Go.Proofs.Ythfafenigjldlaa
open Go.RowKit
set_option linter.unusedVariables false

/-- two blocks of amounts -/
theorem sl_res2 (W : World) (b : Nat) (x1 x2 x3 y1 y2 y3 : Int) (h1 : okR ⟨x1, x2, x3⟩) (h2 : okR ⟨y1, y2, y3⟩) (hb : WB W b 50 #[.int .i64 x1, .int .i64 x2, .int .i64 x3, .int .i64 y1, .int .i64 y2, .int .i64 y3]) :
    Sl RRes 3 W (some ⟨b, 0, none⟩) [⟨x1, x2, x3⟩, ⟨y1, y2, y3⟩] := by
  intro k x hx
  match k, hx with
  | 0, hx => obtain rfl : (⟨x1, x2, x3⟩ : Rs) = x := by simpa using hx
             exact ⟨_, 0, [_, _, _], rfl, rfl, fun j u hu => by match j, hu with | 0, hu => (injection hu with hu; subst hu; exact hb.cell (i := 0) rfl) | 1, hu => (injection hu with hu; subst hu; exact hb.cell (i := 1) rfl) | 2, hu => (injection hu with hu; subst hu; exact hb.cell (i := 2) rfl), rfl, h1⟩
  | 1, hx => obtain rfl : (⟨y1, y2, y3⟩ : Rs) = x := by simpa using hx
             exact ⟨_, 0, [_, _, _], rfl, rfl, fun j u hu => by match j, hu with | 0, hu => (injection hu with hu; subst hu; exact hb.cell (i := 3) rfl) | 1, hu => (injection hu with hu; subst hu; exact hb.cell (i := 4) rfl) | 2, hu => (injection hu with hu; subst hu; exact hb.cell (i := 5) rfl), rfl, h2⟩
  | k + 2, hx => simp at hx
theorem sl_pair1 {T : TypeId} (W : World) (b : Nat) (x y : ByteArray) (h1 : okS x) (h2 : okS y) (hb : WB W b T #[.string x, .string y]) : Sl RPair 2 W (some ⟨b, 0, none⟩) [⟨x, y⟩] := by
  intro k p hp
  match k, hp with
  | 0, hp => obtain rfl : (⟨x, y⟩ : Pr) = p := by simpa using hp
             exact ⟨_, 0, [_, _], rfl, rfl, fun j u hu => by match j, hu with | 0, hu => (injection hu with hu; subst hu; exact hb.cell (i := 0) rfl) | 1, hu => (injection hu with hu; subst hu; exact hb.cell (i := 1) rfl), rfl, h1, h2⟩
  | k + 1, hp => simp at hp

def findRegion (n : Nat) : Code → Option Code
  | .region k ops d => if k = n then some (.region k ops d) else none
  | .seq a b => match findRegion n a with
    | some c => some c
    | none => findRegion n b
  | .block _ c => findRegion n c
  | .scope c => findRegion n c
  | _ => none
noncomputable def rg6 : Code := (Try.f10.body.bind (findRegion 6)).getD .skip

set_option maxRecDepth 1000000 in
set_option maxHeartbeats 4000000 in
theorem begun_tail (Q0 : Exit → Act → World → Prop) (W10 : World) (n1 n3 n6 n9 : Nat) (A1 A2 A3 A4 A5 A6 DA1 DA2 DA3 DA4 DA5 DA6 B5 : Option Addr) (c1 c2 c3 c4 c5 c6 Dc1 Dc2 Dc3 Dc4 Dc5 Dc6 d5 : Nat) (hd : Int) (BS : List UInt8) (u9 u10 u11 u12 u13 u14 u15 u16 u17 u18 u19 u20 u21 u22 u23 u24 u25 u26 u27 u28 u29 u30 u31 u32 u33 u34 u35 u36 u37 u38 u39 u40 u41 u42 u43 u44 u45 u46 u47 u48 u49 u50 u51 u52 u53 u54 u55 u56 u57 u58 u59 u60 u61 u62 u63 u64 u65 u66 u67 u68 u69 u70 u71 u72 u73 u74 u75 u76 u77 u78 u79 u80 u81 u82 u83 u84 u85 u86 : Value)
    (HB : Hid (WB W10 n1 50 #[.int .i64 5, .int .i64 7, .int .i64 9])) (PB : Hid (WB W10 n3 55 #[.string ⟨#[97]⟩, .int .i64 7, .int .i64 3, .int .i64 2, .int .i64 3, .int .i64 0, .slice A1 2 c1, .slice A2 1 c2, .slice A3 1 c3, .slice A4 1 c4, .string ⟨#[122, 111, 110, 101]⟩, .slice A5 1 c5, .int .i64 2, .slice A6 0 c6, .string ⟨#[]⟩, .int .i64 0])) (QB : Hid (WB W10 n6 55 #[.string ⟨#[97]⟩, .int .i64 7, .int .i64 3, .int .i64 2, .int .i64 3, .int .i64 0, .slice DA1 2 Dc1, .slice DA2 1 Dc2, .slice DA3 1 Dc3, .slice DA4 1 Dc4, .string ⟨#[122, 111, 110, 101]⟩, .slice DA5 1 Dc5, .int .i64 2, .slice DA6 0 Dc6, .string ⟨#[]⟩, .int .i64 0])) (LB : Hid (WB W10 n9 62 #[.int .i64 3, .int .i64 hd]))
    (hbl : (0 : Int) < (BS.length : Int)) (HSEL : Hid (∀ wx, Ext W10 wx → Sl RTerm 3 wx A3 somePd.sel)) (HTOL : Hid (∀ wx, Ext W10 wx → Sl RTol 3 wx A4 somePd.tols))
    (HM : Hid (∀ wx, Ext W10 wx → Calls Try.prog 23 #[.agg #[.string ⟨#[97]⟩, .int .i64 7, .int .i64 3, .int .i64 2, .int .i64 3, .int .i64 0, .slice A1 2 c1, .slice A2 1 c2, .slice A3 1 c3, .slice A4 1 c4, .string ⟨#[122, 111, 110, 101]⟩, .slice A5 1 c5, .int .i64 2, .slice A6 0 c6, .string ⟨#[]⟩, .int .i64 0]] wx fun e w' => e = .returned (.bool true) ∧ Ext wx w'))
    (HQ : Hid (∀ wx, Ext W10 wx → Calls Try.prog 24 #[.agg #[.string ⟨#[97]⟩, .int .i64 7, .int .i64 3, .int .i64 2, .int .i64 3, .int .i64 0, .slice A1 2 c1, .slice A2 1 c2, .slice A3 1 c3, .slice A4 1 c4, .string ⟨#[122, 111, 110, 101]⟩, .slice A5 1 c5, .int .i64 2, .slice A6 0 c6, .string ⟨#[]⟩, .int .i64 0], .agg #[.string ⟨#[97]⟩, .int .i64 7, .int .i64 3, .int .i64 2, .int .i64 3, .int .i64 0, .slice DA1 2 Dc1, .slice DA2 1 Dc2, .slice DA3 1 Dc3, .slice DA4 1 Dc4, .string ⟨#[122, 111, 110, 101]⟩, .slice DA5 1 Dc5, .int .i64 2, .slice DA6 0 Dc6, .string ⟨#[]⟩, .int .i64 0]] wx fun e w' => e = .returned (.bool true) ∧ Ext wx w'))
    (hexit : Hid (∀ (v1 v2 v3 v4 v5 v6 v7 v8 v9 v10 v11 v12 v13 v14 v15 v16 v17 v18 v19 v20 v21 v22 v23 v24 v25 v26 v27 v28 v29 v30 v31 v32 v33 v34 v35 v36 v37 v38 v39 v40 v41 v42 v43 v44 v45 v46 v47 v48 v49 v50 v51 v52 v53 v54 v55 v56 v57 v58 v59 v60 v61 v62 v63 v64 v65 v66 v67 v68 v69 v70 v71 v72 v73 v74 v75 v76 v77 v78 v79 v80 v81 v82 v83 v84 v85 v86 : Value) (wx : World), Ext W10 wx → Q0 .normal ⟨#[.bool true, v1, v2, v3, v4, v5, v6, v7, v8, v9, v10, v11, v12, v13, v14, v15, v16, v17, v18, v19, v20, v21, v22, v23, v24, v25, v26, v27, v28, v29, v30, v31, v32, v33, v34, v35, v36, v37, v38, v39, v40, v41, v42, v43, v44, v45, v46, v47, v48, v49, v50, v51, v52, v53, v54, v55, v56, v57, v58, v59, v60, v61, v62, v63, v64, v65, v66, v67, v68, v69, v70, v71, v72, v73, v74, v75, v76, v77, v78, v79, v80, v81, v82, v83, v84, v85, v86], []⟩ wx)) :
    Code.wp Try.prog rg6 Q0 ⟨#[.bool false, .pointer (some ⟨n1, 0, none⟩), .bool true, .pointer (some ⟨n3, 0, none⟩), .slice B5 BS.length d5, .pointer (some ⟨n6, 0, none⟩), .bool true, .pointer (some ⟨n9, 0, none⟩), .bool true, u9, u10, u11, u12, u13, u14, u15, u16, u17, u18, u19, u20, u21, u22, u23, u24, u25, u26, u27, u28, u29, u30, u31, u32, u33, u34, u35, u36, u37, u38, u39, u40, u41, u42, u43, u44, u45, u46, u47, u48, u49, u50, u51, u52, u53, u54, u55, u56, u57, u58, u59, u60, u61, u62, u63, u64, u65, u66, u67, u68, u69, u70, u71, u72, u73, u74, u75, u76, u77, u78, u79, u80, u81, u82, u83, u84, u85, u86], []⟩ W10 := by
  conv => arg 2; whnf
  have ok9 : ∀ s : ByteArray, s.size ≤ 9 → okS s := fun s h => by unfold okS maxLen; omega
  have OK9 := Lib.hid ok9
  clear ok9
  have r0 := HB.out.cell (i := 0) rfl
  have r1 := HB.out.cell (i := 1) rfl
  have r2 := HB.out.cell (i := 2) rfl
  have p6 := PB.out.cell (i := 8) rfl
  have he := eql_res
  go_wp2_with (first
    | (go_at_call 11; refine (qShare_any 1 3 _).mono ?_; rintro e wq ⟨rfl, rfl⟩; rw [bg_share]))
  clear r0 r1 r2 p6 he
  have HNB := Lib.hid (WB.new W10 34 #[.string ⟨#[122, 111, 110, 101]⟩, .string ⟨#[98]⟩])
  have E11 : Hid (Ext W10 (W10.alloc (.cells #[.string ⟨#[122, 111, 110, 101]⟩, .string ⟨#[98]⟩] 34))) := (Ext.refl _).alloc _
  refine (match_any A3 c3 somePd.sel (some ⟨W10.heap.size, 0, none⟩) 1 [⟨⟨#[122, 111, 110, 101]⟩, ⟨#[98]⟩⟩] _ (by simp [somePd, maxLen]) (HSEL.out _ E11.out) (by simp [maxLen]) (sl_pair1 _ _ _ _ (OK9.out _ (by decide)) (OK9.out _ (by decide)) HNB.out)).mono ?_
  rintro e w12 ⟨rfl, e12⟩
  rw [bg_match]
  have E : Ext W10 w12 := E11.out.trans e12
  have EAL : Hid (∀ w o, Ext w (w.alloc o)) := fun w o => (Ext.refl _).alloc o
  clear e12
  have p9 := (PB.out.ext E).cell (i := 9) rfl
  go_wp2_with fail
  refine (all_any A4 c4 somePd.tols (some ⟨w12.heap.size, 0, none⟩) 1 [⟨⟨#[120]⟩, ⟨#[121]⟩⟩] _ (by simp [somePd, maxLen]) (HTOL.out _ (E.trans (EAL.out _ _))) (by simp [maxLen]) (sl_pair1 _ _ _ _ (OK9.out _ (by decide)) (OK9.out _ (by decide)) (WB.new _ _ _))).mono ?_
  rintro e w13 ⟨rfl, e13⟩
  rw [bg_all]
  replace E := E.trans ((EAL.out _ _).trans e13)
  clear e13 p9
  have PP := PB.out.ext E
  have p0 := PP.cell (i := 0) rfl
  have p1 := PP.cell (i := 1) rfl
  have p2 := PP.cell (i := 2) rfl
  have p3 := PP.cell (i := 3) rfl
  have p4 := PP.cell (i := 4) rfl
  have p5 := PP.cell (i := 5) rfl
  have p6 := PP.cell (i := 6) rfl
  have p7 := PP.cell (i := 7) rfl
  have p8 := PP.cell (i := 8) rfl
  have p9 := PP.cell (i := 9) rfl
  have p10 := PP.cell (i := 10) rfl
  have p11 := PP.cell (i := 11) rfl
  have p12 := PP.cell (i := 12) rfl
  have p13 := PP.cell (i := 13) rfl
  have p14 := PP.cell (i := 14) rfl
  have p15 := PP.cell (i := 15) rfl
  clear PP
  go_wp2_with fail
  refine (HM.out _ E).mono ?_
  rintro e w14 ⟨rfl, e14⟩
  replace E := E.trans e14
  clear e14 p0 p1 p2 p3 p4 p5 p6 p7 p8 p9 p10 p11 p12 p13 p14 p15
  have PP := PB.out.ext E
  have QQ := QB.out.ext E
  have p0 := PP.cell (i := 0) rfl
  have p1 := PP.cell (i := 1) rfl
  have p2 := PP.cell (i := 2) rfl
  have p3 := PP.cell (i := 3) rfl
  have p4 := PP.cell (i := 4) rfl
  have p5 := PP.cell (i := 5) rfl
  have p6 := PP.cell (i := 6) rfl
  have p7 := PP.cell (i := 7) rfl
  have p8 := PP.cell (i := 8) rfl
  have p9 := PP.cell (i := 9) rfl
  have p10 := PP.cell (i := 10) rfl
  have p11 := PP.cell (i := 11) rfl
  have p12 := PP.cell (i := 12) rfl
  have p13 := PP.cell (i := 13) rfl
  have p14 := PP.cell (i := 14) rfl
  have p15 := PP.cell (i := 15) rfl
  have q0 := QQ.cell (i := 0) rfl
  have q1 := QQ.cell (i := 1) rfl
  have q2 := QQ.cell (i := 2) rfl
  have q3 := QQ.cell (i := 3) rfl
  have q4 := QQ.cell (i := 4) rfl
  have q5 := QQ.cell (i := 5) rfl
  have q6 := QQ.cell (i := 6) rfl
  have q7 := QQ.cell (i := 7) rfl
  have q8 := QQ.cell (i := 8) rfl
  have q9 := QQ.cell (i := 9) rfl
  have q10 := QQ.cell (i := 10) rfl
  have q11 := QQ.cell (i := 11) rfl
  have q12 := QQ.cell (i := 12) rfl
  have q13 := QQ.cell (i := 13) rfl
  have q14 := QQ.cell (i := 14) rfl
  have q15 := QQ.cell (i := 15) rfl
  clear PP QQ
  go_wp2_with fail
  refine (HQ.out _ E).mono ?_
  rintro e w15 ⟨rfl, e15⟩
  replace E := E.trans e15
  clear e15 p0 p1 p2 p3 p4 p5 p6 p7 p8 p9 p10 p11 p12 p13 p14 p15 q0 q1 q2 q3 q4 q5 q6 q7 q8 q9 q10 q11 q12 q13 q14 q15
  have l0 := (LB.out.ext E).cell (i := 0) rfl
  go_wp2_with fail
  refine (cKey_any 1 ⟨#[97]⟩ _ (OK9.out _ (by decide))).mono ?_
  rintro e wq ⟨rfl, rfl⟩
  obtain ⟨ks, hks⟩ : ∃ k, k = keyS 1 ⟨#[97]⟩ := ⟨_, rfl⟩
  have hk : ks.toList = [112, 47, 97] := by rw [hks, bg_key, ByteArray.toList_eq]
  rw [← hks]
  clear hks
  go_wp2_with fail
  refine (cKind_any ⟨#[110, 47, 98]⟩ _ (OK9.out _ (by decide))).mono ?_
  rintro e wq ⟨rfl, rfl⟩
  rw [bg_kind]
  have HEE := Lib.hid E
  go_wp2_with fail
  exact hexit.out _ _ _ _ _ _ _ _ _ _ _ _ _ _ _ _ _ _ _ _ _ _ _ _ _ _ _ _ _ _ _ _ _ _ _ _ _ _ _ _ _ _ _ _ _ _ _ _ _ _ _ _ _ _ _ _ _ _ _ _ _ _ _ _ _ _ _ _ _ _ _ _ _ _ _ _ _ _ _ _ _ _ _ _ _ _ _ HEE.out
end Go.Proofs.Ythfafenigjldlaa
