/-
  The walk of package code's GetPod: its last three regions (printed by mkget.py).
-/
import Derived.Test.YthfafenigjldlaaSets
import Derived.Test.YthfafenigjldlaaBegunT
namespace Go.Proofs.Ythfafenigjldlaa
open Go.RowKit
set_option linter.unusedVariables false

def findRegion' (n : Nat) : Code → Option Code
  | .region k ops d => if k = n then some (.region k ops d) else none
  | .seq a b => match findRegion' n a with
    | some c => some c
    | none => findRegion' n b
  | .block _ c => findRegion' n c
  | .scope c => findRegion' n c
  | .loop c => findRegion' n c
  | .cond _ a b => match findRegion' n a with
    | some c => some c
    | none => findRegion' n b
  | _ => none
noncomputable def rg (n : Nat) : Code := (Try.f20.body.bind (findRegion' n)).getD .skip

set_option maxRecDepth 1000000 in
set_option maxHeartbeats 4000000 in
theorem gp20 (Q0 : Exit → Act → World → Prop) (w : World) (g bx : Nat) (A : Option Addr) (c : Nat) (bs PB s : List UInt8) (b : Bool) (s1 s2 s3 : ByteArray) (i1 i2 i3 i4 i5 i6 i7 : Int) (a1 a2 a3 a4 a5 a6 : Option Addr) (l1 l2 l3 l4 l5 l6 k1 k2 k3 k4 k5 k6 : Nat) (u1 u2 u3 u6 u7 u8 u9 u10 u11 u12 u13 u14 u15 u16 u17 u18 u19 u20 u21 u22 u23 u24 u25 u26 u27 u28 u29 u30 u31 u32 u33 u34 u35 u36 u37 u38 u39 u40 u41 u42 u43 u44 u45 u46 u47 u48 u49 u50 u51 u52 u53 u54 u55 u56 u57 u58 u59 u60 u61 u62 u63 u64 u65 u66 u67 u68 u69 u70 u71 u72 u73 u74 u75 u76 u77 u78 u79 u80 u81 u82 u83 u84 u85 u86 u87 u88 : Value) (hr : Rd w g true s b) (HB : Hid (WB w bx 55 #[(.string s1), (.int .i64 i1), (.int .i64 i2), (.int .i64 i3), (.int .i64 i4), (.int .i64 i5), (.slice a1 l1 k1), (.slice a2 l2 k2), (.slice a3 l3 k3), (.slice a4 l4 k4), (.string s2), (.slice a5 l5 k5), (.int .i64 i6), (.slice a6 l6 k6), (.string s3), (.int .i64 i7)]))
    (HPP : Hid (Calls Try.prog 19 #[.agg #[(.string s1), (.int .i64 i1), (.int .i64 i2), (.int .i64 i3), (.int .i64 i4), (.int .i64 i5), (.slice a1 l1 k1), (.slice a2 l2 k2), (.slice a3 l3 k3), (.slice a4 l4 k4), (.string s2), (.slice a5 l5 k5), (.int .i64 i6), (.slice a6 l6 k6), (.string s3), (.int .i64 i7)]] w (ClPost 5 1 PB.length (PB.map byV) w))) (hF : ∀ wx, Ext w wx → ByF A bs wx)
    (hexit : ∀ (v72 v73 v74 v75 v76 v77 v78 v79 v80 v81 v82 v83 v84 v85 : Value) (wx : World), Ext w wx → Q0 .normal ⟨#[.slice A bs.length c, u1, u2, u3, .pointer (some ⟨g, 0, none⟩), .pointer (some ⟨bx, 0, none⟩), u6, u7, u8, u9, u10, u11, u12, u13, u14, u15, u16, u17, u18, u19, u20, u21, u22, u23, u24, u25, u26, u27, u28, u29, u30, u31, u32, u33, u34, u35, u36, u37, u38, u39, u40, u41, u42, u43, u44, u45, u46, u47, u48, u49, u50, u51, u52, u53, u54, u55, u56, u57, u58, u59, u60, u61, u62, u63, u64, u65, u66, u67, u68, u69, u70, u71, v72, v73, v74, v75, v76, v77, v78, v79, v80, v81, v82, v83, v84, v85, .bool (!(!b && s.isEmpty && decide (bs ≠ []) && (PB == bs))), u87, u88], []⟩ wx) :
    Code.wp Try.prog (rg 20) Q0 ⟨#[.slice A bs.length c, u1, u2, u3, .pointer (some ⟨g, 0, none⟩), .pointer (some ⟨bx, 0, none⟩), u6, u7, u8, u9, u10, u11, u12, u13, u14, u15, u16, u17, u18, u19, u20, u21, u22, u23, u24, u25, u26, u27, u28, u29, u30, u31, u32, u33, u34, u35, u36, u37, u38, u39, u40, u41, u42, u43, u44, u45, u46, u47, u48, u49, u50, u51, u52, u53, u54, u55, u56, u57, u58, u59, u60, u61, u62, u63, u64, u65, u66, u67, u68, u69, u70, u71, u72, u73, u74, u75, u76, u77, u78, u79, u80, u81, u82, u83, u84, u85, u86, u87, u88], []⟩ w := by
  have HF := Lib.hid hF
  have HX := Lib.hid hexit
  clear hF hexit
  conv => arg 2; whnf
  go_wp2_with fail
  refine (rdEnd_any g true s b _ hr).mono ?_
  rintro e wq ⟨rfl, rfl⟩
  clear hr
  cases hb : (!b && s.isEmpty)
  case false =>
    rw [hb] at HX
    simp only [Bool.false_and, Bool.not_false] at HX
    go_wp2_with fail
    exact HX.out _ _ _ _ _ _ _ _ _ _ _ _ _ _ _ (Ext.refl _)
  case true =>
    rw [hb] at HX
    simp only [Bool.true_and] at HX
    clear hb
    by_cases h0 : bs = []
    case pos =>
      have hl0 : bs.length = 0 := by rw [h0]; rfl
      have hd : decide (bs ≠ []) = false := by simp [h0]
      rw [hd] at HX
      simp only [Bool.false_and, Bool.not_false] at HX
      have hlz : ((bs.length : Int) == 0) = true := by rw [hl0]; rfl
      clear h0 hl0 hd
      go_wp2_with fail
      exact HX.out _ _ _ _ _ _ _ _ _ _ _ _ _ _ _ (Ext.refl _)
    have hd : decide (bs ≠ []) = true := by simp [h0]
    rw [hd] at HX
    simp only [Bool.true_and] at HX
    have hlz : ((bs.length : Int) == 0) = false := by
      have : 0 < bs.length := List.length_pos_iff.2 h0
      simp; omega
    have hlz' : ¬ ((bs.length : Int) = 0) := by
      have : 0 < bs.length := List.length_pos_iff.2 h0
      omega
    clear h0 hd
    have b0 := HB.out.cell (i := 0) rfl
    have b1 := HB.out.cell (i := 1) rfl
    have b2 := HB.out.cell (i := 2) rfl
    have b3 := HB.out.cell (i := 3) rfl
    have b4 := HB.out.cell (i := 4) rfl
    have b5 := HB.out.cell (i := 5) rfl
    have b6 := HB.out.cell (i := 6) rfl
    have b7 := HB.out.cell (i := 7) rfl
    have b8 := HB.out.cell (i := 8) rfl
    have b9 := HB.out.cell (i := 9) rfl
    have b10 := HB.out.cell (i := 10) rfl
    have b11 := HB.out.cell (i := 11) rfl
    have b12 := HB.out.cell (i := 12) rfl
    have b13 := HB.out.cell (i := 13) rfl
    have b14 := HB.out.cell (i := 14) rfl
    have b15 := HB.out.cell (i := 15) rfl
    go_wp2_with fail
    refine HPP.out.mono ?_
    rintro e w8 ⟨v, rfl, o8, e8⟩
    obtain ⟨A8, c8, rfl, l8, m8, f8⟩ := cl_flat o8
    have H8 := Lib.hid f8
    clear o8 f8 b0 b1 b2 b3 b4 b5 b6 b7 b8 b9 b10 b11 b12 b13 b14 b15
    go_wp2_with fail
    refine (bEqual_any A8 A c8 c _ _ _ H8.out (HF.out _ e8)).mono ?_
    rintro e w9 ⟨bb, rfl, hbb, e9⟩
    have E9 := Lib.hid (e8.trans e9)
    have hq : (PB == bs) = bb := by
      cases bb
      · have : ¬ PB = bs := fun h => absurd (hbb.2 h) (by decide)
        simpa using this
      · simpa using hbb.1 (by first | rfl | trivial)
    rw [hq] at HX
    clear hq hbb e8 e9
    go_wp2_with fail
    exact HX.out _ _ _ _ _ _ _ _ _ _ _ _ _ _ _ E9.out
set_option maxRecDepth 1000000 in
set_option maxHeartbeats 4000000 in
theorem gp21 (Q0 : Exit → Act → World → Prop) (w : World) (n0 : Nat) (z0 z1 z2 z3 z4 z5 z6 z7 z8 z9 z10 z11 z12 z13 z14 z15 : Value) (u0 u1 u3 u4 u5 u6 u7 u8 u9 u10 u11 u12 u13 u14 u15 u16 u17 u18 u19 u20 u21 u22 u23 u24 u25 u26 u27 u28 u29 u30 u31 u32 u33 u34 u35 u36 u37 u38 u39 u40 u41 u42 u43 u44 u45 u46 u47 u48 u49 u50 u51 u52 u53 u54 u55 u56 u57 u58 u59 u60 u61 u62 u63 u64 u65 u66 u67 u68 u69 u70 u71 u72 u73 u74 u75 u76 u77 u78 u79 u80 u81 u82 u83 u84 u85 u86 u87 u88 : Value) (HN : Hid (WB w n0 55 #[z0, z1, z2, z3, z4, z5, z6, z7, z8, z9, z10, z11, z12, z13, z14, z15]))
    (hexit : Q0 .normal ⟨#[u0, u1, .pointer (some ⟨n0, 0, none⟩), .bool false, u4, u5, u6, u7, u8, u9, u10, u11, u12, u13, u14, u15, u16, u17, u18, u19, u20, u21, u22, u23, u24, u25, u26, u27, u28, u29, u30, u31, u32, u33, u34, u35, u36, u37, u38, u39, u40, u41, u42, u43, u44, u45, u46, u47, u48, u49, u50, u51, u52, u53, u54, u55, u56, u57, u58, u59, u60, u61, u62, u63, u64, u65, u66, u67, u68, u69, u70, u71, u72, u73, u74, u75, u76, u77, u78, u79, u80, u81, u82, u83, u84, u85, u86, .agg #[.string ⟨#[]⟩, .int .i64 0, .int .i64 0, .int .i64 0, .int .i64 0, .int .i64 0, .slice none 0 0, .slice none 0 0, .slice none 0 0, .slice none 0 0, .string ⟨#[]⟩, .slice none 0 0, .int .i64 0, .slice none 0 0, .string ⟨#[]⟩, .int .i64 0], u88], []⟩ (set16 w n0 (.string ⟨#[]⟩) (.int .i64 0) (.int .i64 0) (.int .i64 0) (.int .i64 0) (.int .i64 0) (.slice none 0 0) (.slice none 0 0) (.slice none 0 0) (.slice none 0 0) (.string ⟨#[]⟩) (.slice none 0 0) (.int .i64 0) (.slice none 0 0) (.string ⟨#[]⟩) (.int .i64 0))) :
    Code.wp Try.prog (rg 21) Q0 ⟨#[u0, u1, .pointer (some ⟨n0, 0, none⟩), u3, u4, u5, u6, u7, u8, u9, u10, u11, u12, u13, u14, u15, u16, u17, u18, u19, u20, u21, u22, u23, u24, u25, u26, u27, u28, u29, u30, u31, u32, u33, u34, u35, u36, u37, u38, u39, u40, u41, u42, u43, u44, u45, u46, u47, u48, u49, u50, u51, u52, u53, u54, u55, u56, u57, u58, u59, u60, u61, u62, u63, u64, u65, u66, u67, u68, u69, u70, u71, u72, u73, u74, u75, u76, u77, u78, u79, u80, u81, u82, u83, u84, u85, u86, u87, u88], []⟩ w := by
  unfold set16 at hexit
  have HX := Lib.hid hexit
  clear hexit
  have y0 := HN.out.fr 0
  have y1 := HN.out.fr 1
  have y2 := HN.out.fr 2
  have y3 := HN.out.fr 3
  have y4 := HN.out.fr 4
  have y5 := HN.out.fr 5
  have y6 := HN.out.fr 6
  have y7 := HN.out.fr 7
  have y8 := HN.out.fr 8
  have y9 := HN.out.fr 9
  have y10 := HN.out.fr 10
  have y11 := HN.out.fr 11
  have y12 := HN.out.fr 12
  have y13 := HN.out.fr 13
  have y14 := HN.out.fr 14
  have y15 := HN.out.fr 15
  have x0 := HN.out.cell (i := 0) rfl
  have x1 := HN.out.cell (i := 1) rfl
  have x2 := HN.out.cell (i := 2) rfl
  have x3 := HN.out.cell (i := 3) rfl
  have x4 := HN.out.cell (i := 4) rfl
  have x5 := HN.out.cell (i := 5) rfl
  have x6 := HN.out.cell (i := 6) rfl
  have x7 := HN.out.cell (i := 7) rfl
  have x8 := HN.out.cell (i := 8) rfl
  have x9 := HN.out.cell (i := 9) rfl
  have x10 := HN.out.cell (i := 10) rfl
  have x11 := HN.out.cell (i := 11) rfl
  have x12 := HN.out.cell (i := 12) rfl
  have x13 := HN.out.cell (i := 13) rfl
  have x14 := HN.out.cell (i := 14) rfl
  have x15 := HN.out.cell (i := 15) rfl
  conv => arg 2; whnf
  go_wp2_with fail
  exact HX.out
set_option maxRecDepth 1000000 in
set_option maxHeartbeats 4000000 in
theorem gp22 (Q0 : Exit → Act → World → Prop) (w : World) (n0 bx : Nat) (z0 z1 z2 z3 z4 z5 z6 z7 z8 z9 z10 z11 z12 z13 z14 z15 : Value) (s1 s2 s3 : ByteArray) (i1 i2 i3 i4 i5 i6 i7 : Int) (a1 a2 a3 a4 a5 a6 : Option Addr) (l1 l2 l3 l4 l5 l6 k1 k2 k3 k4 k5 k6 : Nat) (u0 u1 u3 u4 u6 u7 u8 u9 u10 u11 u12 u13 u14 u15 u16 u17 u18 u19 u20 u21 u22 u23 u24 u25 u26 u27 u28 u29 u30 u31 u32 u33 u34 u35 u36 u37 u38 u39 u40 u41 u42 u43 u44 u45 u46 u47 u48 u49 u50 u51 u52 u53 u54 u55 u56 u57 u58 u59 u60 u61 u62 u63 u64 u65 u66 u67 u68 u69 u70 u71 u72 u73 u74 u75 u76 u77 u78 u79 u80 u81 u82 u83 u84 u85 u86 u87 u88 : Value) (HN : Hid (WB w n0 55 #[z0, z1, z2, z3, z4, z5, z6, z7, z8, z9, z10, z11, z12, z13, z14, z15])) (HB : Hid (WB w bx 55 #[(.string s1), (.int .i64 i1), (.int .i64 i2), (.int .i64 i3), (.int .i64 i4), (.int .i64 i5), (.slice a1 l1 k1), (.slice a2 l2 k2), (.slice a3 l3 k3), (.slice a4 l4 k4), (.string s2), (.slice a5 l5 k5), (.int .i64 i6), (.slice a6 l6 k6), (.string s3), (.int .i64 i7)]))
    (hexit : Q0 .normal ⟨#[u0, u1, .pointer (some ⟨n0, 0, none⟩), .bool true, u4, .pointer (some ⟨bx, 0, none⟩), u6, u7, u8, u9, u10, u11, u12, u13, u14, u15, u16, u17, u18, u19, u20, u21, u22, u23, u24, u25, u26, u27, u28, u29, u30, u31, u32, u33, u34, u35, u36, u37, u38, u39, u40, u41, u42, u43, u44, u45, u46, u47, u48, u49, u50, u51, u52, u53, u54, u55, u56, u57, u58, u59, u60, u61, u62, u63, u64, u65, u66, u67, u68, u69, u70, u71, u72, u73, u74, u75, u76, u77, u78, u79, u80, u81, u82, u83, u84, u85, u86, u87, .agg #[(.string s1), (.int .i64 i1), (.int .i64 i2), (.int .i64 i3), (.int .i64 i4), (.int .i64 i5), (.slice a1 l1 k1), (.slice a2 l2 k2), (.slice a3 l3 k3), (.slice a4 l4 k4), (.string s2), (.slice a5 l5 k5), (.int .i64 i6), (.slice a6 l6 k6), (.string s3), (.int .i64 i7)]], []⟩ (set16 w n0 (.string s1) (.int .i64 i1) (.int .i64 i2) (.int .i64 i3) (.int .i64 i4) (.int .i64 i5) (.slice a1 l1 k1) (.slice a2 l2 k2) (.slice a3 l3 k3) (.slice a4 l4 k4) (.string s2) (.slice a5 l5 k5) (.int .i64 i6) (.slice a6 l6 k6) (.string s3) (.int .i64 i7))) :
    Code.wp Try.prog (rg 22) Q0 ⟨#[u0, u1, .pointer (some ⟨n0, 0, none⟩), u3, u4, .pointer (some ⟨bx, 0, none⟩), u6, u7, u8, u9, u10, u11, u12, u13, u14, u15, u16, u17, u18, u19, u20, u21, u22, u23, u24, u25, u26, u27, u28, u29, u30, u31, u32, u33, u34, u35, u36, u37, u38, u39, u40, u41, u42, u43, u44, u45, u46, u47, u48, u49, u50, u51, u52, u53, u54, u55, u56, u57, u58, u59, u60, u61, u62, u63, u64, u65, u66, u67, u68, u69, u70, u71, u72, u73, u74, u75, u76, u77, u78, u79, u80, u81, u82, u83, u84, u85, u86, u87, u88], []⟩ w := by
  unfold set16 at hexit
  have HX := Lib.hid hexit
  clear hexit
  have y0 := HN.out.fr 0
  have y1 := HN.out.fr 1
  have y2 := HN.out.fr 2
  have y3 := HN.out.fr 3
  have y4 := HN.out.fr 4
  have y5 := HN.out.fr 5
  have y6 := HN.out.fr 6
  have y7 := HN.out.fr 7
  have y8 := HN.out.fr 8
  have y9 := HN.out.fr 9
  have y10 := HN.out.fr 10
  have y11 := HN.out.fr 11
  have y12 := HN.out.fr 12
  have y13 := HN.out.fr 13
  have y14 := HN.out.fr 14
  have y15 := HN.out.fr 15
  have x0 := HN.out.cell (i := 0) rfl
  have x1 := HN.out.cell (i := 1) rfl
  have x2 := HN.out.cell (i := 2) rfl
  have x3 := HN.out.cell (i := 3) rfl
  have x4 := HN.out.cell (i := 4) rfl
  have x5 := HN.out.cell (i := 5) rfl
  have x6 := HN.out.cell (i := 6) rfl
  have x7 := HN.out.cell (i := 7) rfl
  have x8 := HN.out.cell (i := 8) rfl
  have x9 := HN.out.cell (i := 9) rfl
  have x10 := HN.out.cell (i := 10) rfl
  have x11 := HN.out.cell (i := 11) rfl
  have x12 := HN.out.cell (i := 12) rfl
  have x13 := HN.out.cell (i := 13) rfl
  have x14 := HN.out.cell (i := 14) rfl
  have x15 := HN.out.cell (i := 15) rfl
  have b0 := HB.out.cell (i := 0) rfl
  have b1 := HB.out.cell (i := 1) rfl
  have b2 := HB.out.cell (i := 2) rfl
  have b3 := HB.out.cell (i := 3) rfl
  have b4 := HB.out.cell (i := 4) rfl
  have b5 := HB.out.cell (i := 5) rfl
  have b6 := HB.out.cell (i := 6) rfl
  have b7 := HB.out.cell (i := 7) rfl
  have b8 := HB.out.cell (i := 8) rfl
  have b9 := HB.out.cell (i := 9) rfl
  have b10 := HB.out.cell (i := 10) rfl
  have b11 := HB.out.cell (i := 11) rfl
  have b12 := HB.out.cell (i := 12) rfl
  have b13 := HB.out.cell (i := 13) rfl
  have b14 := HB.out.cell (i := 14) rfl
  have b15 := HB.out.cell (i := 15) rfl
  conv => arg 2; whnf
  go_wp2_with fail
  exact HX.out
end Go.Proofs.Ythfafenigjldlaa
