/-
  Sixteen stores into one block.
-/
import Derived.Test.YthfafenigjldlaaGreatGet7
import Derived.Test.YthfafenigjldlaaGreatBegun0
import Derived.Deep.Cut
import Derived.Deep.CutRange
namespace Go.Proofs.YthfafenigjldlaaGreat
open Go.RowKit
set_option linter.unusedVariables false

/-- sixteen cells of block g -/
def set16 (w : World) (g : Nat) (v0 v1 v2 v3 v4 v5 v6 v7 v8 v9 v10 v11 v12 v13 v14 v15 : Value) : World := ((((((((((((((((w.setCell ⟨g, 0, none⟩ v0).setCell ⟨g, 1, none⟩ v1).setCell ⟨g, 2, none⟩ v2).setCell ⟨g, 3, none⟩ v3).setCell ⟨g, 4, none⟩ v4).setCell ⟨g, 5, none⟩ v5).setCell ⟨g, 6, none⟩ v6).setCell ⟨g, 7, none⟩ v7).setCell ⟨g, 8, none⟩ v8).setCell ⟨g, 9, none⟩ v9).setCell ⟨g, 10, none⟩ v10).setCell ⟨g, 11, none⟩ v11).setCell ⟨g, 12, none⟩ v12).setCell ⟨g, 13, none⟩ v13).setCell ⟨g, 14, none⟩ v14).setCell ⟨g, 15, none⟩ v15)
theorem WB.set16 {w : World} {g : Nat} {T : TypeId} {a0 a1 a2 a3 a4 a5 a6 a7 a8 a9 a10 a11 a12 a13 a14 a15 : Value} (h : WB w g T #[a0, a1, a2, a3, a4, a5, a6, a7, a8, a9, a10, a11, a12, a13, a14, a15]) (v0 v1 v2 v3 v4 v5 v6 v7 v8 v9 v10 v11 v12 v13 v14 v15 : Value) : WB (set16 w g v0 v1 v2 v3 v4 v5 v6 v7 v8 v9 v10 v11 v12 v13 v14 v15) g T #[v0, v1, v2, v3, v4, v5, v6, v7, v8, v9, v10, v11, v12, v13, v14, v15] := by
  have h1 := ((((((((((((((((h.set 0 v0).set 1 v1).set 2 v2).set 3 v3).set 4 v4).set 5 v5).set 6 v6).set 7 v7).set 8 v8).set 9 v9).set 10 v10).set 11 v11).set 12 v12).set 13 v13).set 14 v14).set 15 v15)
  simp only [List.setIfInBounds_toArray, List.set_cons_succ, List.set_cons_zero] at h1
  exact h1
theorem Ext.set16 {a w : World} {g : Nat} (h : Ext a w) (hg : a.heap.size ≤ g) (v0 v1 v2 v3 v4 v5 v6 v7 v8 v9 v10 v11 v12 v13 v14 v15 : Value) : Ext a (set16 w g v0 v1 v2 v3 v4 v5 v6 v7 v8 v9 v10 v11 v12 v13 v14 v15) := ((((((((((((((((h.setCell (p := ⟨g, 0, none⟩) hg v0).setCell (p := ⟨g, 1, none⟩) hg v1).setCell (p := ⟨g, 2, none⟩) hg v2).setCell (p := ⟨g, 3, none⟩) hg v3).setCell (p := ⟨g, 4, none⟩) hg v4).setCell (p := ⟨g, 5, none⟩) hg v5).setCell (p := ⟨g, 6, none⟩) hg v6).setCell (p := ⟨g, 7, none⟩) hg v7).setCell (p := ⟨g, 8, none⟩) hg v8).setCell (p := ⟨g, 9, none⟩) hg v9).setCell (p := ⟨g, 10, none⟩) hg v10).setCell (p := ⟨g, 11, none⟩) hg v11).setCell (p := ⟨g, 12, none⟩) hg v12).setCell (p := ⟨g, 13, none⟩) hg v13).setCell (p := ⟨g, 14, none⟩) hg v14).setCell (p := ⟨g, 15, none⟩) hg v15)
theorem Keep.set16 {g' bx g : Nat} {a w : World} (h : Keep (GB g' bx g) a w) (v0 v1 v2 v3 v4 v5 v6 v7 v8 v9 v10 v11 v12 v13 v14 v15 : Value) : Keep (GB g' bx g) a (set16 w g v0 v1 v2 v3 v4 v5 v6 v7 v8 v9 v10 v11 v12 v13 v14 v15) := ((((((((((((((((h.gbSet0 0 v0).gbSet0 1 v1).gbSet0 2 v2).gbSet0 3 v3).gbSet0 4 v4).gbSet0 5 v5).gbSet0 6 v6).gbSet0 7 v7).gbSet0 8 v8).gbSet0 9 v9).gbSet0 10 v10).gbSet0 11 v11).gbSet0 12 v12).gbSet0 13 v13).gbSet0 14 v14).gbSet0 15 v15)
end Go.Proofs.YthfafenigjldlaaGreat

/-
  The walk of package code's GetPod: its last three regions (printed by mkget.py).
-/
namespace Go.Proofs.YthfafenigjldlaaGreat
open Go.RowKit
set_option linter.unusedVariables false

def findRegion' (n : Nat) : Code → Option Code
  | .region k ops d => if k = n then some (.region k ops d) else none
  | .seq a b => match findRegion' n a with
    | some c => some c
    | none => findRegion' n b
  | .block _ c => findRegion' n c
  | .scope c => findRegion' n c
  | .loop c => findRegion' n c
  | .cond _ a b => match findRegion' n a with
    | some c => some c
    | none => findRegion' n b
  | _ => none
noncomputable def rg (n : Nat) : Code := (Tryz.f51.body.bind (findRegion' n)).getD .skip

set_option maxRecDepth 1000000 in
set_option maxHeartbeats 4000000 in
theorem gp20 (Q0 : Exit → Act → World → Prop) (w : World) (g bx : Nat) (A : Option Addr) (c : Nat) (bs PB s : List UInt8) (b : Bool) (s1 s2 s3 : ByteArray) (i1 i2 i3 i4 i5 i6 i7 : Int) (a1 a2 a3 a4 a5 a6 : Option Addr) (l1 l2 l3 l4 l5 l6 k1 k2 k3 k4 k5 k6 : Nat) (u1 u2 u3 u6 u7 u8 u9 u10 u11 u12 u13 u14 u15 u16 u17 u18 u19 u20 u21 u22 u23 u24 u25 u26 u27 u28 u29 u30 u31 u32 u33 u34 u35 u36 u37 u38 u39 u40 u41 u42 u43 u44 u45 u46 u47 u48 u49 u50 u51 u52 u53 u54 u55 u56 u57 u58 u59 u60 u61 u62 u63 u64 u65 u66 u67 u68 u69 u70 u71 u72 u73 u74 u75 u76 u77 u78 u79 u80 u81 u82 u83 u84 u85 u86 u87 u88 : Value) (hr : Rd w g true s b) (HB : Hid (WB w bx 66 #[(.string s1), (.int .i64 i1), (.int .i64 i2), (.int .i64 i3), (.int .i64 i4), (.int .i64 i5), (.slice a1 l1 k1), (.slice a2 l2 k2), (.slice a3 l3 k3), (.slice a4 l4 k4), (.string s2), (.slice a5 l5 k5), (.int .i64 i6), (.slice a6 l6 k6), (.string s3), (.int .i64 i7)]))
    (HPP : Hid (Calls Tryz.prog 49 #[.agg #[(.string s1), (.int .i64 i1), (.int .i64 i2), (.int .i64 i3), (.int .i64 i4), (.int .i64 i5), (.slice a1 l1 k1), (.slice a2 l2 k2), (.slice a3 l3 k3), (.slice a4 l4 k4), (.string s2), (.slice a5 l5 k5), (.int .i64 i6), (.slice a6 l6 k6), (.string s3), (.int .i64 i7)]] w (ClPost 5 1 PB.length (PB.map byV) w))) (hF : ∀ wx, Ext w wx → ByF A bs wx)
    (hexit : ∀ (v72 v73 v74 v75 v76 v77 v78 v79 v80 v81 v82 v83 v84 v85 : Value) (wx : World), Ext w wx → Q0 .normal ⟨#[.slice A bs.length c, u1, u2, u3, .pointer (some ⟨g, 0, none⟩), .pointer (some ⟨bx, 0, none⟩), u6, u7, u8, u9, u10, u11, u12, u13, u14, u15, u16, u17, u18, u19, u20, u21, u22, u23, u24, u25, u26, u27, u28, u29, u30, u31, u32, u33, u34, u35, u36, u37, u38, u39, u40, u41, u42, u43, u44, u45, u46, u47, u48, u49, u50, u51, u52, u53, u54, u55, u56, u57, u58, u59, u60, u61, u62, u63, u64, u65, u66, u67, u68, u69, u70, u71, v72, v73, v74, v75, v76, v77, v78, v79, v80, v81, v82, v83, v84, v85, .bool (!(!b && s.isEmpty && decide (bs ≠ []) && (PB == bs))), u87, u88], []⟩ wx) :
    Code.wp Tryz.prog (rg 20) Q0 ⟨#[.slice A bs.length c, u1, u2, u3, .pointer (some ⟨g, 0, none⟩), .pointer (some ⟨bx, 0, none⟩), u6, u7, u8, u9, u10, u11, u12, u13, u14, u15, u16, u17, u18, u19, u20, u21, u22, u23, u24, u25, u26, u27, u28, u29, u30, u31, u32, u33, u34, u35, u36, u37, u38, u39, u40, u41, u42, u43, u44, u45, u46, u47, u48, u49, u50, u51, u52, u53, u54, u55, u56, u57, u58, u59, u60, u61, u62, u63, u64, u65, u66, u67, u68, u69, u70, u71, u72, u73, u74, u75, u76, u77, u78, u79, u80, u81, u82, u83, u84, u85, u86, u87, u88], []⟩ w := by
  have HF := Lib.hid hF
  have HX := Lib.hid hexit
  clear hF hexit
  conv => arg 2; whnf
  go_wp2_with fail
  refine (rdEnd_any g true s b _ hr).mono ?_
  rintro e wq ⟨rfl, rfl⟩
  clear hr
  cases hb : (!b && s.isEmpty)
  case false =>
    rw [hb] at HX
    simp only [Bool.false_and, Bool.not_false] at HX
    go_wp2_with fail
    exact HX.out _ _ _ _ _ _ _ _ _ _ _ _ _ _ _ (Ext.refl _)
  case true =>
    rw [hb] at HX
    simp only [Bool.true_and] at HX
    clear hb
    by_cases h0 : bs = []
    case pos =>
      have hl0 : bs.length = 0 := by rw [h0]; rfl
      have hd : decide (bs ≠ []) = false := by simp [h0]
      rw [hd] at HX
      simp only [Bool.false_and, Bool.not_false] at HX
      have hlz : ((bs.length : Int) == 0) = true := by rw [hl0]; rfl
      clear h0 hl0 hd
      go_wp2_with fail
      exact HX.out _ _ _ _ _ _ _ _ _ _ _ _ _ _ _ (Ext.refl _)
    have hd : decide (bs ≠ []) = true := by simp [h0]
    rw [hd] at HX
    simp only [Bool.true_and] at HX
    have hlz : ((bs.length : Int) == 0) = false := by
      have : 0 < bs.length := List.length_pos_iff.2 h0
      simp; omega
    have hlz' : ¬ ((bs.length : Int) = 0) := by
      have : 0 < bs.length := List.length_pos_iff.2 h0
      omega
    clear h0 hd
    have b0 := HB.out.cell (i := 0) rfl
    have b1 := HB.out.cell (i := 1) rfl
    have b2 := HB.out.cell (i := 2) rfl
    have b3 := HB.out.cell (i := 3) rfl
    have b4 := HB.out.cell (i := 4) rfl
    have b5 := HB.out.cell (i := 5) rfl
    have b6 := HB.out.cell (i := 6) rfl
    have b7 := HB.out.cell (i := 7) rfl
    have b8 := HB.out.cell (i := 8) rfl
    have b9 := HB.out.cell (i := 9) rfl
    have b10 := HB.out.cell (i := 10) rfl
    have b11 := HB.out.cell (i := 11) rfl
    have b12 := HB.out.cell (i := 12) rfl
    have b13 := HB.out.cell (i := 13) rfl
    have b14 := HB.out.cell (i := 14) rfl
    have b15 := HB.out.cell (i := 15) rfl
    go_wp2_with fail
    refine HPP.out.mono ?_
    rintro e w8 ⟨v, rfl, o8, e8⟩
    obtain ⟨A8, c8, rfl, l8, m8, f8⟩ := cl_flat o8
    have H8 := Lib.hid f8
    clear o8 f8 b0 b1 b2 b3 b4 b5 b6 b7 b8 b9 b10 b11 b12 b13 b14 b15
    go_wp2_with fail
    refine (bEqual_any A8 A c8 c _ _ _ H8.out (HF.out _ e8)).mono ?_
    rintro e w9 ⟨bb, rfl, hbb, e9⟩
    have E9 := Lib.hid (e8.trans e9)
    have hq : (PB == bs) = bb := by
      cases bb
      · have : ¬ PB = bs := fun h => absurd (hbb.2 h) (by decide)
        simpa using this
      · simpa using hbb.1 (by first | rfl | trivial)
    rw [hq] at HX
    clear hq hbb e8 e9
    go_wp2_with fail
    exact HX.out _ _ _ _ _ _ _ _ _ _ _ _ _ _ _ E9.out
set_option maxRecDepth 1000000 in
set_option maxHeartbeats 4000000 in
theorem gp21 (Q0 : Exit → Act → World → Prop) (w : World) (n0 : Nat) (z0 z1 z2 z3 z4 z5 z6 z7 z8 z9 z10 z11 z12 z13 z14 z15 : Value) (u0 u1 u3 u4 u5 u6 u7 u8 u9 u10 u11 u12 u13 u14 u15 u16 u17 u18 u19 u20 u21 u22 u23 u24 u25 u26 u27 u28 u29 u30 u31 u32 u33 u34 u35 u36 u37 u38 u39 u40 u41 u42 u43 u44 u45 u46 u47 u48 u49 u50 u51 u52 u53 u54 u55 u56 u57 u58 u59 u60 u61 u62 u63 u64 u65 u66 u67 u68 u69 u70 u71 u72 u73 u74 u75 u76 u77 u78 u79 u80 u81 u82 u83 u84 u85 u86 u87 u88 : Value) (HN : Hid (WB w n0 66 #[z0, z1, z2, z3, z4, z5, z6, z7, z8, z9, z10, z11, z12, z13, z14, z15]))
    (hexit : Q0 .normal ⟨#[u0, u1, .pointer (some ⟨n0, 0, none⟩), .bool false, u4, u5, u6, u7, u8, u9, u10, u11, u12, u13, u14, u15, u16, u17, u18, u19, u20, u21, u22, u23, u24, u25, u26, u27, u28, u29, u30, u31, u32, u33, u34, u35, u36, u37, u38, u39, u40, u41, u42, u43, u44, u45, u46, u47, u48, u49, u50, u51, u52, u53, u54, u55, u56, u57, u58, u59, u60, u61, u62, u63, u64, u65, u66, u67, u68, u69, u70, u71, u72, u73, u74, u75, u76, u77, u78, u79, u80, u81, u82, u83, u84, u85, u86, .agg #[.string ⟨#[]⟩, .int .i64 0, .int .i64 0, .int .i64 0, .int .i64 0, .int .i64 0, .slice none 0 0, .slice none 0 0, .slice none 0 0, .slice none 0 0, .string ⟨#[]⟩, .slice none 0 0, .int .i64 0, .slice none 0 0, .string ⟨#[]⟩, .int .i64 0], u88], []⟩ (set16 w n0 (.string ⟨#[]⟩) (.int .i64 0) (.int .i64 0) (.int .i64 0) (.int .i64 0) (.int .i64 0) (.slice none 0 0) (.slice none 0 0) (.slice none 0 0) (.slice none 0 0) (.string ⟨#[]⟩) (.slice none 0 0) (.int .i64 0) (.slice none 0 0) (.string ⟨#[]⟩) (.int .i64 0))) :
    Code.wp Tryz.prog (rg 21) Q0 ⟨#[u0, u1, .pointer (some ⟨n0, 0, none⟩), u3, u4, u5, u6, u7, u8, u9, u10, u11, u12, u13, u14, u15, u16, u17, u18, u19, u20, u21, u22, u23, u24, u25, u26, u27, u28, u29, u30, u31, u32, u33, u34, u35, u36, u37, u38, u39, u40, u41, u42, u43, u44, u45, u46, u47, u48, u49, u50, u51, u52, u53, u54, u55, u56, u57, u58, u59, u60, u61, u62, u63, u64, u65, u66, u67, u68, u69, u70, u71, u72, u73, u74, u75, u76, u77, u78, u79, u80, u81, u82, u83, u84, u85, u86, u87, u88], []⟩ w := by
  unfold set16 at hexit
  have HX := Lib.hid hexit
  clear hexit
  have y0 := HN.out.fr 0
  have y1 := HN.out.fr 1
  have y2 := HN.out.fr 2
  have y3 := HN.out.fr 3
  have y4 := HN.out.fr 4
  have y5 := HN.out.fr 5
  have y6 := HN.out.fr 6
  have y7 := HN.out.fr 7
  have y8 := HN.out.fr 8
  have y9 := HN.out.fr 9
  have y10 := HN.out.fr 10
  have y11 := HN.out.fr 11
  have y12 := HN.out.fr 12
  have y13 := HN.out.fr 13
  have y14 := HN.out.fr 14
  have y15 := HN.out.fr 15
  have x0 := HN.out.cell (i := 0) rfl
  have x1 := HN.out.cell (i := 1) rfl
  have x2 := HN.out.cell (i := 2) rfl
  have x3 := HN.out.cell (i := 3) rfl
  have x4 := HN.out.cell (i := 4) rfl
  have x5 := HN.out.cell (i := 5) rfl
  have x6 := HN.out.cell (i := 6) rfl
  have x7 := HN.out.cell (i := 7) rfl
  have x8 := HN.out.cell (i := 8) rfl
  have x9 := HN.out.cell (i := 9) rfl
  have x10 := HN.out.cell (i := 10) rfl
  have x11 := HN.out.cell (i := 11) rfl
  have x12 := HN.out.cell (i := 12) rfl
  have x13 := HN.out.cell (i := 13) rfl
  have x14 := HN.out.cell (i := 14) rfl
  have x15 := HN.out.cell (i := 15) rfl
  conv => arg 2; whnf
  go_wp2_with fail
  exact HX.out
set_option maxRecDepth 1000000 in
set_option maxHeartbeats 4000000 in
theorem gp22 (Q0 : Exit → Act → World → Prop) (w : World) (n0 bx : Nat) (z0 z1 z2 z3 z4 z5 z6 z7 z8 z9 z10 z11 z12 z13 z14 z15 : Value) (s1 s2 s3 : ByteArray) (i1 i2 i3 i4 i5 i6 i7 : Int) (a1 a2 a3 a4 a5 a6 : Option Addr) (l1 l2 l3 l4 l5 l6 k1 k2 k3 k4 k5 k6 : Nat) (u0 u1 u3 u4 u6 u7 u8 u9 u10 u11 u12 u13 u14 u15 u16 u17 u18 u19 u20 u21 u22 u23 u24 u25 u26 u27 u28 u29 u30 u31 u32 u33 u34 u35 u36 u37 u38 u39 u40 u41 u42 u43 u44 u45 u46 u47 u48 u49 u50 u51 u52 u53 u54 u55 u56 u57 u58 u59 u60 u61 u62 u63 u64 u65 u66 u67 u68 u69 u70 u71 u72 u73 u74 u75 u76 u77 u78 u79 u80 u81 u82 u83 u84 u85 u86 u87 u88 : Value) (HN : Hid (WB w n0 66 #[z0, z1, z2, z3, z4, z5, z6, z7, z8, z9, z10, z11, z12, z13, z14, z15])) (HB : Hid (WB w bx 66 #[(.string s1), (.int .i64 i1), (.int .i64 i2), (.int .i64 i3), (.int .i64 i4), (.int .i64 i5), (.slice a1 l1 k1), (.slice a2 l2 k2), (.slice a3 l3 k3), (.slice a4 l4 k4), (.string s2), (.slice a5 l5 k5), (.int .i64 i6), (.slice a6 l6 k6), (.string s3), (.int .i64 i7)]))
    (hexit : Q0 .normal ⟨#[u0, u1, .pointer (some ⟨n0, 0, none⟩), .bool true, u4, .pointer (some ⟨bx, 0, none⟩), u6, u7, u8, u9, u10, u11, u12, u13, u14, u15, u16, u17, u18, u19, u20, u21, u22, u23, u24, u25, u26, u27, u28, u29, u30, u31, u32, u33, u34, u35, u36, u37, u38, u39, u40, u41, u42, u43, u44, u45, u46, u47, u48, u49, u50, u51, u52, u53, u54, u55, u56, u57, u58, u59, u60, u61, u62, u63, u64, u65, u66, u67, u68, u69, u70, u71, u72, u73, u74, u75, u76, u77, u78, u79, u80, u81, u82, u83, u84, u85, u86, u87, .agg #[(.string s1), (.int .i64 i1), (.int .i64 i2), (.int .i64 i3), (.int .i64 i4), (.int .i64 i5), (.slice a1 l1 k1), (.slice a2 l2 k2), (.slice a3 l3 k3), (.slice a4 l4 k4), (.string s2), (.slice a5 l5 k5), (.int .i64 i6), (.slice a6 l6 k6), (.string s3), (.int .i64 i7)]], []⟩ (set16 w n0 (.string s1) (.int .i64 i1) (.int .i64 i2) (.int .i64 i3) (.int .i64 i4) (.int .i64 i5) (.slice a1 l1 k1) (.slice a2 l2 k2) (.slice a3 l3 k3) (.slice a4 l4 k4) (.string s2) (.slice a5 l5 k5) (.int .i64 i6) (.slice a6 l6 k6) (.string s3) (.int .i64 i7))) :
    Code.wp Tryz.prog (rg 22) Q0 ⟨#[u0, u1, .pointer (some ⟨n0, 0, none⟩), u3, u4, .pointer (some ⟨bx, 0, none⟩), u6, u7, u8, u9, u10, u11, u12, u13, u14, u15, u16, u17, u18, u19, u20, u21, u22, u23, u24, u25, u26, u27, u28, u29, u30, u31, u32, u33, u34, u35, u36, u37, u38, u39, u40, u41, u42, u43, u44, u45, u46, u47, u48, u49, u50, u51, u52, u53, u54, u55, u56, u57, u58, u59, u60, u61, u62, u63, u64, u65, u66, u67, u68, u69, u70, u71, u72, u73, u74, u75, u76, u77, u78, u79, u80, u81, u82, u83, u84, u85, u86, u87, u88], []⟩ w := by
  unfold set16 at hexit
  have HX := Lib.hid hexit
  clear hexit
  have y0 := HN.out.fr 0
  have y1 := HN.out.fr 1
  have y2 := HN.out.fr 2
  have y3 := HN.out.fr 3
  have y4 := HN.out.fr 4
  have y5 := HN.out.fr 5
  have y6 := HN.out.fr 6
  have y7 := HN.out.fr 7
  have y8 := HN.out.fr 8
  have y9 := HN.out.fr 9
  have y10 := HN.out.fr 10
  have y11 := HN.out.fr 11
  have y12 := HN.out.fr 12
  have y13 := HN.out.fr 13
  have y14 := HN.out.fr 14
  have y15 := HN.out.fr 15
  have x0 := HN.out.cell (i := 0) rfl
  have x1 := HN.out.cell (i := 1) rfl
  have x2 := HN.out.cell (i := 2) rfl
  have x3 := HN.out.cell (i := 3) rfl
  have x4 := HN.out.cell (i := 4) rfl
  have x5 := HN.out.cell (i := 5) rfl
  have x6 := HN.out.cell (i := 6) rfl
  have x7 := HN.out.cell (i := 7) rfl
  have x8 := HN.out.cell (i := 8) rfl
  have x9 := HN.out.cell (i := 9) rfl
  have x10 := HN.out.cell (i := 10) rfl
  have x11 := HN.out.cell (i := 11) rfl
  have x12 := HN.out.cell (i := 12) rfl
  have x13 := HN.out.cell (i := 13) rfl
  have x14 := HN.out.cell (i := 14) rfl
  have x15 := HN.out.cell (i := 15) rfl
  have b0 := HB.out.cell (i := 0) rfl
  have b1 := HB.out.cell (i := 1) rfl
  have b2 := HB.out.cell (i := 2) rfl
  have b3 := HB.out.cell (i := 3) rfl
  have b4 := HB.out.cell (i := 4) rfl
  have b5 := HB.out.cell (i := 5) rfl
  have b6 := HB.out.cell (i := 6) rfl
  have b7 := HB.out.cell (i := 7) rfl
  have b8 := HB.out.cell (i := 8) rfl
  have b9 := HB.out.cell (i := 9) rfl
  have b10 := HB.out.cell (i := 10) rfl
  have b11 := HB.out.cell (i := 11) rfl
  have b12 := HB.out.cell (i := 12) rfl
  have b13 := HB.out.cell (i := 13) rfl
  have b14 := HB.out.cell (i := 14) rfl
  have b15 := HB.out.cell (i := 15) rfl
  conv => arg 2; whnf
  go_wp2_with fail
  exact HX.out
end Go.Proofs.YthfafenigjldlaaGreat

/-
  The walk of package code's GetPod (printed by mkget.py).
-/
namespace Go.Proofs.YthfafenigjldlaaGreat
open Go.RowKit
set_option linter.unusedVariables false

set_option maxRecDepth 100000 in
set_option maxHeartbeats 8000000 in
theorem getPod_any (A : Option Addr) (c : Nat) (bs : List UInt8) (w : World) (hc : ByF A bs w) (hl : bs.length ≤ 140737488355328) :
    Calls Tryz.prog 51 #[.slice A bs.length c] w (GPPost bs w) := by
  have HF : Hid (∀ wx, Ext w wx → ByF A bs wx) := fun wx e => hc.ext e
  clear hc
  obtain ⟨int0, hint0, hiz0, hiz1, hiz2⟩ := info_parts int_info
  obtain ⟨tol0, htol0, htz0, htz1, htz2⟩ := info_parts toler_info
  obtain ⟨R, hR⟩ : ∃ R, R = podR bs := ⟨_, rfl⟩
  have HG : Hid (podG bs = (!R.s15.2.2 && R.s15.2.1.isEmpty && decide (bs ≠ []) && (putPodB R.pod == bs))) := by rw [hR]; rfl
  have FIN : Hid (∀ wx q, podG bs = true → Ext w wx → PodOk wx R.pod q → GPPost bs w (.returned (.tuple #[.agg #[.string R.s2.1, .int .i64 R.s3.1, .int .i64 R.s4.1, .int .i64 R.s5.1.a, .int .i64 R.s5.1.b, .int .i64 R.s5.1.c, .slice q.a1 R.s6.1.length q.c1, .slice q.a2 R.s7.1.length q.c2, .slice q.a3 R.s8.1.length q.c3, .slice q.a4 R.s9.1.length q.c4, .string R.s10.1, .slice q.a5 R.s11.1.length q.c5, .int .i64 R.s12.1, .slice q.a6 R.s13.1.length q.c6, .string R.s14.1, .int .i64 R.s15.1], .bool true])) wx) := fun wx q h e ok => by
    have hp : podOut bs = R.pod := by unfold podOut; rw [if_pos h, hR]
    refine ⟨q, ?_, e, ?_⟩
    · rw [hp, h]; rfl
    · rw [hp]; exact ok
  have NO : Hid (∀ wx, podG bs = false → Ext w wx → GPPost bs w (.returned (.tuple #[.agg #[.string ⟨#[]⟩, .int .i64 0, .int .i64 0, .int .i64 0, .int .i64 0, .int .i64 0, .slice none 0 0, .slice none 0 0, .slice none 0 0, .slice none 0 0, .string ⟨#[]⟩, .slice none 0 0, .int .i64 0, .slice none 0 0, .string ⟨#[]⟩, .int .i64 0], .bool false])) wx) := fun wx h e => by
    have hp : podOut bs = zeroPd := by unfold podOut; rw [if_neg (by rw [h]; decide)]
    refine ⟨q0, ?_, e, ?_⟩
    · rw [hp, h]; rfl
    · rw [hp]; exact zeroPd_ok wx
  clear hR
  have HE0 : Hid (∀ o, Ext w (w.alloc o)) := fun o => (Ext.refl _).alloc o
  go_enter Tryz.func51, Tryz.ntmps51
  go_wp2_with fail
  obtain ⟨n0, hn0⟩ : ∃ n, n = w.heap.size := ⟨_, rfl⟩
  obtain ⟨W0, hW0⟩ : ∃ W, w.alloc (.cells #[.string ⟨#[]⟩, .int .i64 0, .int .i64 0, .int .i64 0, .int .i64 0, .int .i64 0, .slice none 0 0, .slice none 0 0, .slice none 0 0, .slice none 0 0, .string ⟨#[]⟩, .slice none 0 0, .int .i64 0, .slice none 0 0, .string ⟨#[]⟩, .int .i64 0] 66) = W := ⟨_, rfl⟩
  have HN0 : Hid (WB W0 n0 66 #[.string ⟨#[]⟩, .int .i64 0, .int .i64 0, .int .i64 0, .int .i64 0, .int .i64 0, .slice none 0 0, .slice none 0 0, .slice none 0 0, .slice none 0 0, .string ⟨#[]⟩, .slice none 0 0, .int .i64 0, .slice none 0 0, .string ⟨#[]⟩, .int .i64 0]) := by show WB _ _ _ _; rw [← hW0, hn0]; exact WB.new _ _ _
  have HE : Hid (Ext w W0) := by show Ext _ _; rw [← hW0]; exact HE0.out _
  have HNS : Hid (w.heap.size ≤ n0) := by show _ ≤ _; omega
  rw [← hn0, hW0]
  clear hn0 HE0
  refine (newReader_any _ _ bs _ (HF.out _ HE.out) hl).mono ?_
  rintro e w1 ⟨g, rfl, hg, e1, r1⟩
  have HN1 : Hid (WB w1 n0 66 #[.string ⟨#[]⟩, .int .i64 0, .int .i64 0, .int .i64 0, .int .i64 0, .int .i64 0, .slice none 0 0, .slice none 0 0, .slice none 0 0, .slice none 0 0, .string ⟨#[]⟩, .slice none 0 0, .int .i64 0, .slice none 0 0, .string ⟨#[]⟩, .int .i64 0]) := HN0.out.ext e1
  have HGN : Hid (n0 ≠ g ∧ w.heap.size ≤ g) := by have := HN0.out.lt; have := HE.out.size; exact ⟨by omega, by omega⟩
  have HE1 : Hid (Ext w w1) := HE.out.trans e1
  clear e1 hg hW0 HE HN0
  go_wp2_with fail
  refine (rdNumI g false bs false 1 _ (by omega) (by omega) r1).mono ?_
  rintro e w2 ⟨rfl, k2, r2⟩
  rw [show (1 : Int).toNat = 1 from rfl] at r2 ⊢
  rw [← R.e1] at r2 ⊢
  clear r1
  go_wp2_with fail
  refine (rdName_any g false _ _ _ r2).mono ?_
  rintro e w3 ⟨rfl, k3, r3⟩
  rw [← R.e2] at r3 ⊢
  replace k3 := k2.trans k3
  clear k2
  clear r2
  go_wp2_with fail
  refine (rdNumI g true _ _ 8 _ (by omega) (by omega) r3).mono ?_
  rintro e w4 ⟨rfl, k4, r4⟩
  rw [show (8 : Int).toNat = 8 from rfl] at r4 ⊢
  rw [← R.e3] at r4 ⊢
  replace k4 := k3.trans k4
  clear k3
  clear r3
  go_wp2_with fail
  refine (rdNumI g true _ _ 2 _ (by omega) (by omega) r4).mono ?_
  rintro e w5 ⟨rfl, k5, r5⟩
  rw [show (2 : Int).toNat = 2 from rfl] at r5 ⊢
  rw [← R.e4] at r5 ⊢
  replace k5 := k4.trans k5
  clear k4
  clear r4
  go_wp2_with fail
  refine (getRes_any g true _ _ _ r5).mono ?_
  rintro e w6 ⟨rfl, k6, r6⟩
  rw [← R.e5] at r6 ⊢
  replace k6 := k5.trans k6
  clear k5
  clear r5
  go_wp2_with fail
  have HN6 : Hid (WB w6 n0 66 #[.string ⟨#[]⟩, .int .i64 0, .int .i64 0, .int .i64 0, .int .i64 0, .int .i64 0, .slice none 0 0, .slice none 0 0, .slice none 0 0, .slice none 0 0, .string ⟨#[]⟩, .slice none 0 0, .int .i64 0, .slice none 0 0, .string ⟨#[]⟩, .int .i64 0]) := WB.keep (S := fun k => k = g) HN1.out k6 HGN.out.1
  have HE6 : Hid (Ext w w6) := Below.trans HE1.out (k6.toExt' HGN.out.2 HE1.out.size)
  clear k6 HN1 HE1
  obtain ⟨bx, hbx⟩ : ∃ n, n = w6.heap.size := ⟨_, rfl⟩
  obtain ⟨w7, hw7⟩ : ∃ W, w6.alloc (.cells #[(.string R.s2.1), (.int .i64 R.s3.1), (.int .i64 R.s4.1), (.int .i64 R.s5.1.a), (.int .i64 R.s5.1.b), (.int .i64 R.s5.1.c), .slice none 0 0, .slice none 0 0, .slice none 0 0, .slice none 0 0, .string ⟨#[]⟩, .slice none 0 0, .int .i64 0, .slice none 0 0, .string ⟨#[]⟩, .int .i64 0] 66) = W := ⟨_, rfl⟩
  have HNX : Hid (n0 < bx) := by show _ < _; rw [hbx]; exact HN6.out.lt
  have HN7 : Hid (WB w7 n0 66 #[.string ⟨#[]⟩, .int .i64 0, .int .i64 0, .int .i64 0, .int .i64 0, .int .i64 0, .slice none 0 0, .slice none 0 0, .slice none 0 0, .slice none 0 0, .string ⟨#[]⟩, .slice none 0 0, .int .i64 0, .slice none 0 0, .string ⟨#[]⟩, .int .i64 0]) := by show WB _ _ _ _; rw [← hw7]; exact HN6.out.alloc _
  have HB7 : Hid (WB w7 bx 66 #[(.string R.s2.1), (.int .i64 R.s3.1), (.int .i64 R.s4.1), (.int .i64 R.s5.1.a), (.int .i64 R.s5.1.b), (.int .i64 R.s5.1.c), .slice none 0 0, .slice none 0 0, .slice none 0 0, .slice none 0 0, .string ⟨#[]⟩, .slice none 0 0, .int .i64 0, .slice none 0 0, .string ⟨#[]⟩, .int .i64 0]) := by show WB _ _ _ _; rw [← hw7, hbx]; exact WB.new _ _ _
  have HE7 : Hid (Ext w w7) := by show Ext _ _; rw [← hw7]; exact HE6.out.alloc _
  have hbg : Hid (bx ≠ g) := by have := r6.lt; show bx ≠ g; omega
  have HBS : Hid (w.heap.size ≤ bx) := by show _ ≤ _; rw [hbx]; exact HE6.out.size
  have r7 : Rd w7 g true R.s5.2.1 R.s5.2.2 := by rw [← hw7]; exact r6.other ((Ext.refl _).alloc _)
  rw [← hbx] at ⊢
  rw [hw7]
  clear r6 hbx hw7 HN6 HE6
  refine (rdCount_any g true _ _ 1 _ (by omega) (by omega) r7).mono ?_
  rintro e wl ⟨rfl, kl, rl⟩
  have hcr := count1_range R.s5.2.1 R.s5.2.2
  obtain ⟨n2, hn2⟩ := Int.eq_ofNat_of_zero_le hcr.1
  rw [show (1 : Int).toNat = 1 from rfl] at rl ⊢
  have HT : Hid (R.s6 = portsFrom n2 (countF 1 R.s5.2.1 R.s5.2.2).2.1 (countF 1 R.s5.2.1 R.s5.2.2).2.2) := by show _ = _; rw [R.e6]; unfold portsF; rw [hn2]; rfl
  rw [hn2] at hcr ⊢
  have hn29 : n2 ≤ 255 := by omega
  clear hcr hn2
  obtain ⟨s3, hs3⟩ : ∃ r, r = (countF 1 R.s5.2.1 R.s5.2.2).2.1 := ⟨_, rfl⟩
  obtain ⟨b3, hb3⟩ : ∃ r, r = (countF 1 R.s5.2.1 R.s5.2.2).2.2 := ⟨_, rfl⟩
  rw [← hs3, ← hb3] at rl HT
  clear hs3 hb3 r7
  have HBL : Hid (WB wl bx 66 #[(.string R.s2.1), (.int .i64 R.s3.1), (.int .i64 R.s4.1), (.int .i64 R.s5.1.a), (.int .i64 R.s5.1.b), (.int .i64 R.s5.1.c), .slice none 0 0, .slice none 0 0, .slice none 0 0, .slice none 0 0, .string ⟨#[]⟩, .slice none 0 0, .int .i64 0, .slice none 0 0, .string ⟨#[]⟩, .int .i64 0]) := WB.keep (S := fun k => k = g) HB7.out kl hbg.out
  have HNL : Hid (WB wl n0 66 #[.string ⟨#[]⟩, .int .i64 0, .int .i64 0, .int .i64 0, .int .i64 0, .int .i64 0, .slice none 0 0, .slice none 0 0, .slice none 0 0, .slice none 0 0, .string ⟨#[]⟩, .slice none 0 0, .int .i64 0, .slice none 0 0, .string ⟨#[]⟩, .int .i64 0]) := WB.keep (S := fun k => k = g) HN7.out kl HGN.out.1
  have HKL : Hid (Keep (GB g bx n0) w7 wl) := kl.gb
  have hgb : Hid (g < wl.heap.size ∧ bx < wl.heap.size ∧ n0 < wl.heap.size) := ⟨rl.lt, HBL.out.lt, HNL.out.lt⟩
  clear kl HB7 HN7
  go_wp2_with fail
  go_loopw [21] (fun i wi => ∃ (m : Nat) (vv : Value), m ≤ n2 ∧ i = .int .i64 m ∧ Keep (GB g bx bx) wl wi ∧ WB wi bx 66 #[(.string R.s2.1), (.int .i64 R.s3.1), (.int .i64 R.s4.1), (.int .i64 R.s5.1.a), (.int .i64 R.s5.1.b), (.int .i64 R.s5.1.c), vv, .slice none 0 0, .slice none 0 0, .slice none 0 0, .string ⟨#[]⟩, .slice none 0 0, .int .i64 0, .slice none 0 0, .string ⟨#[]⟩, .int .i64 0] ∧
    wi.ownsRow wl.heap.size 3 1 vv m ((portsFrom m s3 b3).1.map (.int .i64)) ∧ Rd wi g true (portsFrom m s3 b3).2.1 (portsFrom m s3 b3).2.2) (fun i _ => n2 - (intOf i).toNat)
  case atStart => exact ⟨0, _, by omega, rfl, Keep.refl _ _, HBL.out, ⟨rfl, .inl ⟨rfl, rfl⟩⟩, rl⟩
  clear rl
  obtain ⟨m, vv, hm, rfl, hkm, hb, hov, hrm⟩ := hrel
  by_cases hml : m < n2
  · have c2 := hb.cell (i := 6) rfl
    have z2 := hb.fr 6
    have HB := Lib.hid hb
    have HO := Lib.hid hov
    have HKR : Hid (Keep (GB g bx bx) wl wr.drew) := hkm.drew
    have HRR : Hid (Rd wr.drew g true (portsFrom m s3 b3).2.1 (portsFrom m s3 b3).2.2) := hrm.drew
    have HKD : Hid (Keep (fun k => k = g) wr wr.drew) := (Keep.refl _ _).drew
    have HKW := Lib.hid hkm
    clear hb hov hkm hrm
    go_wp2_with fail
    go_region_law (first
      | (go_simp; go_at_call 94; refine (rdNumI g true _ _ 2 _ (by omega) (by omega) HRR.out).mono ?_; rintro e wz ⟨rfl, kn, rn⟩
         rw [show (2 : Int).toNat = 2 from rfl] at rn ⊢
         replace kn := HKD.out.trans kn
         have bn := WB.keep (S := fun k => k = g) HB.out kn hbg.out
         have c2 := bn.cell (i := 6) rfl
         have z2 := bn.fr 6
         have HO2 := Lib.hid (fun o => (own_keep HO.out kn hgb.out.1).alloc o)
         have hN := Lib.hid (one_news wz)
         have c2a := fun o => (bn.alloc o).cell (i := 6) rfl
         have RN : Hid (∀ o, Rd (wz.alloc o) g true (portsFrom (m + 1) s3 b3).2.1 (portsFrom (m + 1) s3 b3).2.2) := fun o => rn.other ((Ext.refl _).alloc o)
         have KN := Lib.hid (fun o => ((HKW.out.trans kn.gb)).alloc o)
         have BN := Lib.hid (fun o => bn.alloc o)
         have HSZ : Hid (∀ o, wl.heap.size ≤ (wz.alloc o).heap.size) := fun o => (KN.out o).size
         clear kn bn rn)
      | (refine step_append_lies _ rfl (.tmp 24) (.tmp 27) 64 rfl wl.heap.size 3 int0 _ 1 8 Tryz.underlying64 hint0 hiz0 hiz1 hiz2 rfl (by decide) vv _ _ rfl (HO2.out _) ⟨wz.heap.size, 0, none⟩ 1 1 [_] rfl rfl (hN.out _ _) (by simp [Value.oneCell']) (by decide) (by unfold maxLen; omega) (by omega) (HSZ.out _) _ rfl ?_
         intro gg cap w7' hown hgrow hat hlt1
         obtain ⟨b7, fin⟩ := gstep (KN.out _) (BN.out _) (HO2.out _) (RN.out _) hown hgrow (by decide) (by decide) (by decide) (by decide) (by decide)
         have FF := Lib.hid fin
         clear fin
         have c2 : w7'.cell? ⟨bx, 6, none⟩ = some vv := b7.cell (i := 6) rfl
         have z2 : w7'.frozen? ⟨bx, 6, none⟩ = false := b7.fr 6
         clear b7 hown hgrow hat hlt1))
    all_goals go_wp2_with fail
    all_goals go_roundw
    all_goals first
      | (obtain ⟨f1, f3, f4, f5⟩ := FF.out 6 _; exact ⟨m + 1, _, by omega, by go_num, f1, f3, by simpa [portsFrom, List.map_append] using f4, f5⟩)
      | (simp [intOf]; omega)
  obtain rfl : m = n2 := by omega
  have hok := portsFrom_ok m s3 b3
  have hln := portsFrom_len m s3 b3
  have hnb : ¬ GB g bx bx n0 := by
    have h1 := HGN.out.1
    have h2 := HNX.out
    rintro (h | h | h) <;> omega
  have hn' : WB wr n0 66 #[.string ⟨#[]⟩, .int .i64 0, .int .i64 0, .int .i64 0, .int .i64 0, .int .i64 0, .slice none 0 0, .slice none 0 0, .slice none 0 0, .slice none 0 0, .string ⟨#[]⟩, .slice none 0 0, .int .i64 0, .slice none 0 0, .string ⟨#[]⟩, .int .i64 0] := WB.keep HNL.out hkm hnb
  have hk' : Keep (GB g bx n0) w7 wr := HKL.out.trans (hkm.mono (fun k _ h => h.elim .inl (fun h => h.elim (fun h => .inr (.inl h)) (fun h => .inr (.inl h)))))
  rw [← HT.out] at hok hln hov hrm
  obtain ⟨A1, c1, rfl, l1, m1, hs⟩ := got_ints hln hov hgb.out.1 hgb.out.2.1 hgb.out.2.2 hok
  obtain ⟨w8, hw⟩ : ∃ x, x = wr := ⟨_, rfl⟩
  have HB8 : Hid (WB w8 bx 66 #[(.string R.s2.1), (.int .i64 R.s3.1), (.int .i64 R.s4.1), (.int .i64 R.s5.1.a), (.int .i64 R.s5.1.b), (.int .i64 R.s5.1.c), (.slice A1 R.s6.1.length c1), .slice none 0 0, .slice none 0 0, .slice none 0 0, .string ⟨#[]⟩, .slice none 0 0, .int .i64 0, .slice none 0 0, .string ⟨#[]⟩, .int .i64 0]) := by show WB _ _ _ _; rw [hw]; exact hb
  have HN8 : Hid (WB w8 n0 66 #[.string ⟨#[]⟩, .int .i64 0, .int .i64 0, .int .i64 0, .int .i64 0, .int .i64 0, .slice none 0 0, .slice none 0 0, .slice none 0 0, .slice none 0 0, .string ⟨#[]⟩, .slice none 0 0, .int .i64 0, .slice none 0 0, .string ⟨#[]⟩, .int .i64 0]) := by show WB _ _ _ _; rw [hw]; exact hn'
  have r8 : Rd w8 g true R.s6.2.1 R.s6.2.2 := by rw [hw]; exact hrm
  have K7 : Hid (Keep (GB g bx n0) w7 w8) := by show Keep _ _ _; rw [hw]; exact hk'
  have HS1 : Hid (∀ wx, Keep (GB g bx n0) w8 wx → Sl RInt 1 wx A1 R.s6.1) := by rw [hw]; exact hs
  have HL1 : Hid (R.s6.1.length ≤ c1 ∧ c1 ≤ maxLen) := ⟨l1, m1⟩
  rw [← hw]
  clear hw hs hrm hb hn' hk' hok hln hov hkm hnb HBL HNL HKL HT l1 m1 hgb
  go_wp2_with fail
  have hgb : Hid (g < w8.heap.size ∧ bx < w8.heap.size ∧ n0 < w8.heap.size) := ⟨r8.lt, HB8.out.lt, HN8.out.lt⟩
  refine (getPair_any g _ _ _ r8).mono ?_
  rintro e wn ⟨v, rfl, own, kn, rn⟩
  rw [← R.e7] at rn own
  obtain ⟨bn, gs⟩ := gset (n0 := n0) kn HB8.out rn hbg.out (by decide) (by decide)
  clear rn r8
  have hok : ∀ x ∈ R.s7.1, okS x.key ∧ okS x.val := by rw [R.e7]; unfold pairsF; exact pairsFrom_ok _ _ _
  obtain ⟨A2, c2, rfl, l2, m2, hs⟩ := got_pairs rfl own hgb.out.1 hgb.out.2.1 hgb.out.2.2 hok
  clear own hok hgb
  have HS := Lib.hid hs
  have HL2 : Hid (R.s7.1.length ≤ c2 ∧ c2 ≤ maxLen) := ⟨l2, m2⟩
  clear hs l2 m2
  have z := bn.fr 7
  have cc := bn.cell (i := 7) rfl
  have GS := Lib.hid gs
  clear gs
  go_wp2_with fail
  obtain ⟨w9, hw⟩ : ∃ x, wn.setCell ⟨bx, 7, none⟩ (.slice A2 R.s7.1.length c2) = x := ⟨_, rfl⟩
  rw [hw]
  have HB9 : Hid (WB w9 bx 66 #[(.string R.s2.1), (.int .i64 R.s3.1), (.int .i64 R.s4.1), (.int .i64 R.s5.1.a), (.int .i64 R.s5.1.b), (.int .i64 R.s5.1.c), (.slice A1 R.s6.1.length c1), (.slice A2 R.s7.1.length c2), .slice none 0 0, .slice none 0 0, .string ⟨#[]⟩, .slice none 0 0, .int .i64 0, .slice none 0 0, .string ⟨#[]⟩, .int .i64 0]) := by show WB _ _ _ _; rw [← hw]; exact (GS.out 7 _).1
  have r9 : Rd w9 g true R.s7.2.1 R.s7.2.2 := by rw [← hw]; exact (GS.out 7 _).2.1
  have K8 : Hid (Keep (GB g bx n0) w8 w9) := by show Keep _ _ _; rw [← hw]; exact (GS.out 7 _).2.2
  have KS : Hid (Keep (GB g bx n0) wn w9) := by show Keep _ _ _; rw [← hw]; exact (Keep.refl _ _).gbSet 7 _
  have HN9 : Hid (WB w9 n0 66 #[.string ⟨#[]⟩, .int .i64 0, .int .i64 0, .int .i64 0, .int .i64 0, .int .i64 0, .slice none 0 0, .slice none 0 0, .slice none 0 0, .slice none 0 0, .string ⟨#[]⟩, .slice none 0 0, .int .i64 0, .slice none 0 0, .string ⟨#[]⟩, .int .i64 0]) := by show WB _ _ _ _; rw [← hw]; exact (WB.keep (S := fun k => k = g) HN8.out kn HGN.out.1).far (by have := HNX.out; show n0 ≠ bx; omega) _
  clear hw GS z cc bn kn HN8
  have HS2 : Hid (∀ wx, Keep (GB g bx n0) w9 wx → Sl RPair 2 wx A2 R.s7.1) := fun wx k => HS.out wx (KS.out.trans k)
  clear KS HS HB8
  have hgb : Hid (g < w9.heap.size ∧ bx < w9.heap.size ∧ n0 < w9.heap.size) := ⟨r9.lt, HB9.out.lt, HN9.out.lt⟩
  refine (getTerms_any g _ _ _ r9).mono ?_
  rintro e wn ⟨v, tc, rfl, own, trow, kn, rn⟩
  rw [← R.e8] at rn own trow
  obtain ⟨bn, gs⟩ := gset (n0 := n0) kn HB9.out rn hbg.out (by decide) (by decide)
  clear rn r9
  have hok : ∀ x ∈ R.s8.1, okTS x := by rw [R.e8]; unfold termsF; exact termsFrom_ok _ _ _
  have nn := WB.keep (S := fun k => k = g) HN9.out kn HGN.out.1
  obtain ⟨A3, c3, rfl, l3, m3, hs⟩ := got_terms rfl own trow bn nn (by decide) hgb.out.1 hgb.out.2.1 hgb.out.2.2 hok
  clear own trow nn hok hgb
  have HS := Lib.hid hs
  have HL3 : Hid (R.s8.1.length ≤ c3 ∧ c3 ≤ maxLen) := ⟨l3, m3⟩
  clear hs l3 m3
  have z := bn.fr 8
  have cc := bn.cell (i := 8) rfl
  have GS := Lib.hid gs
  clear gs
  go_wp2_with fail
  obtain ⟨w10, hw⟩ : ∃ x, wn.setCell ⟨bx, 8, none⟩ (.slice A3 R.s8.1.length c3) = x := ⟨_, rfl⟩
  rw [hw]
  have HB10 : Hid (WB w10 bx 66 #[(.string R.s2.1), (.int .i64 R.s3.1), (.int .i64 R.s4.1), (.int .i64 R.s5.1.a), (.int .i64 R.s5.1.b), (.int .i64 R.s5.1.c), (.slice A1 R.s6.1.length c1), (.slice A2 R.s7.1.length c2), (.slice A3 R.s8.1.length c3), .slice none 0 0, .string ⟨#[]⟩, .slice none 0 0, .int .i64 0, .slice none 0 0, .string ⟨#[]⟩, .int .i64 0]) := by show WB _ _ _ _; rw [← hw]; exact (GS.out 8 _).1
  have r10 : Rd w10 g true R.s8.2.1 R.s8.2.2 := by rw [← hw]; exact (GS.out 8 _).2.1
  have K9 : Hid (Keep (GB g bx n0) w9 w10) := by show Keep _ _ _; rw [← hw]; exact (GS.out 8 _).2.2
  have KS : Hid (Keep (GB g bx n0) wn w10) := by show Keep _ _ _; rw [← hw]; exact (Keep.refl _ _).gbSet 8 _
  have HN10 : Hid (WB w10 n0 66 #[.string ⟨#[]⟩, .int .i64 0, .int .i64 0, .int .i64 0, .int .i64 0, .int .i64 0, .slice none 0 0, .slice none 0 0, .slice none 0 0, .slice none 0 0, .string ⟨#[]⟩, .slice none 0 0, .int .i64 0, .slice none 0 0, .string ⟨#[]⟩, .int .i64 0]) := by show WB _ _ _ _; rw [← hw]; exact (WB.keep (S := fun k => k = g) HN9.out kn HGN.out.1).far (by have := HNX.out; show n0 ≠ bx; omega) _
  clear hw GS z cc bn kn HN9
  have HS3 : Hid (∀ wx, Keep (GB g bx n0) w10 wx → Sl RTerm 3 wx A3 R.s8.1) := fun wx k => HS.out wx (KS.out.trans k)
  clear KS HS HB9
  refine (rdCount_any g true _ _ 1 _ (by omega) (by omega) r10).mono ?_
  rintro e wl ⟨rfl, kl, rl⟩
  have hcr := count1_range R.s8.2.1 R.s8.2.2
  obtain ⟨n2, hn2⟩ := Int.eq_ofNat_of_zero_le hcr.1
  rw [show (1 : Int).toNat = 1 from rfl] at rl ⊢
  have HT : Hid (R.s9 = tolsFrom n2 (countF 1 R.s8.2.1 R.s8.2.2).2.1 (countF 1 R.s8.2.1 R.s8.2.2).2.2) := by show _ = _; rw [R.e9]; unfold tolsF; rw [hn2]; rfl
  rw [hn2] at hcr ⊢
  have hn29 : n2 ≤ 255 := by omega
  clear hcr hn2
  obtain ⟨s3, hs3⟩ : ∃ r, r = (countF 1 R.s8.2.1 R.s8.2.2).2.1 := ⟨_, rfl⟩
  obtain ⟨b3, hb3⟩ : ∃ r, r = (countF 1 R.s8.2.1 R.s8.2.2).2.2 := ⟨_, rfl⟩
  rw [← hs3, ← hb3] at rl HT
  clear hs3 hb3 r10
  have HBL : Hid (WB wl bx 66 #[(.string R.s2.1), (.int .i64 R.s3.1), (.int .i64 R.s4.1), (.int .i64 R.s5.1.a), (.int .i64 R.s5.1.b), (.int .i64 R.s5.1.c), (.slice A1 R.s6.1.length c1), (.slice A2 R.s7.1.length c2), (.slice A3 R.s8.1.length c3), .slice none 0 0, .string ⟨#[]⟩, .slice none 0 0, .int .i64 0, .slice none 0 0, .string ⟨#[]⟩, .int .i64 0]) := WB.keep (S := fun k => k = g) HB10.out kl hbg.out
  have HNL : Hid (WB wl n0 66 #[.string ⟨#[]⟩, .int .i64 0, .int .i64 0, .int .i64 0, .int .i64 0, .int .i64 0, .slice none 0 0, .slice none 0 0, .slice none 0 0, .slice none 0 0, .string ⟨#[]⟩, .slice none 0 0, .int .i64 0, .slice none 0 0, .string ⟨#[]⟩, .int .i64 0]) := WB.keep (S := fun k => k = g) HN10.out kl HGN.out.1
  have HKL : Hid (Keep (GB g bx n0) w10 wl) := kl.gb
  have hgb : Hid (g < wl.heap.size ∧ bx < wl.heap.size ∧ n0 < wl.heap.size) := ⟨rl.lt, HBL.out.lt, HNL.out.lt⟩
  clear kl HB10 HN10
  go_wp2_with fail
  go_loopw [39] (fun i wi => ∃ (m : Nat) (vv : Value), m ≤ n2 ∧ i = .int .i64 m ∧ Keep (GB g bx bx) wl wi ∧ WB wi bx 66 #[(.string R.s2.1), (.int .i64 R.s3.1), (.int .i64 R.s4.1), (.int .i64 R.s5.1.a), (.int .i64 R.s5.1.b), (.int .i64 R.s5.1.c), (.slice A1 R.s6.1.length c1), (.slice A2 R.s7.1.length c2), (.slice A3 R.s8.1.length c3), vv, .string ⟨#[]⟩, .slice none 0 0, .int .i64 0, .slice none 0 0, .string ⟨#[]⟩, .int .i64 0] ∧
    wi.ownsRow wl.heap.size 52 3 vv m (tolC (tolsFrom m s3 b3).1) ∧ Rd wi g true (tolsFrom m s3 b3).2.1 (tolsFrom m s3 b3).2.2) (fun i _ => n2 - (intOf i).toNat)
  case atStart => exact ⟨0, _, by omega, rfl, Keep.refl _ _, HBL.out, ⟨rfl, .inl ⟨rfl, rfl⟩⟩, rl⟩
  clear rl
  obtain ⟨m, vv, hm, rfl, hkm, hb, hov, hrm⟩ := hrel
  by_cases hml : m < n2
  · have c2 := hb.cell (i := 9) rfl
    have z2 := hb.fr 9
    have HB := Lib.hid hb
    have HO := Lib.hid hov
    have HKR : Hid (Keep (GB g bx bx) wl wr.drew) := hkm.drew
    have HRR : Hid (Rd wr.drew g true (tolsFrom m s3 b3).2.1 (tolsFrom m s3 b3).2.2) := hrm.drew
    have HKD : Hid (Keep (fun k => k = g) wr wr.drew) := (Keep.refl _ _).drew
    have HKW := Lib.hid hkm
    clear hb hov hkm hrm
    go_wp2_with fail
    go_region_law (first
      | (go_simp; go_at_call 101; refine (rdBool_any g true _ _ _ HR3.out).mono ?_; rintro e wz ⟨rfl, kn, rn⟩
         replace kn := HK3.out.trans kn
         have bn := WB.keep (S := fun k => k = g) HB.out kn hbg.out
         have c2 := bn.cell (i := 9) rfl
         have z2 := bn.fr 9
         have HO2 := Lib.hid (fun o => (own_keep HO.out kn hgb.out.1).alloc o)
         have hN := Lib.hid (one_news wz)
         have c2a := fun o => (bn.alloc o).cell (i := 9) rfl
         have RN : Hid (∀ o, Rd (wz.alloc o) g true (tolsFrom (m + 1) s3 b3).2.1 (tolsFrom (m + 1) s3 b3).2.2) := fun o => rn.other ((Ext.refl _).alloc o)
         have KN := Lib.hid (fun o => ((HKW.out.trans kn.gb)).alloc o)
         have BN := Lib.hid (fun o => bn.alloc o)
         have HSZ : Hid (∀ o, wl.heap.size ≤ (wz.alloc o).heap.size) := fun o => (KN.out o).size
         clear kn bn rn)
      | (go_simp; go_at_call 95; refine (rdName_any g true _ _ _ HR2.out).mono ?_; rintro e wy ⟨rfl, kn, rn⟩
         replace kn := HK2.out.trans kn
         have bn := WB.keep (S := fun k => k = g) HB.out kn hbg.out
         have c2 := bn.cell (i := 9) rfl
         have z2 := bn.fr 9
         have HK3 := Lib.hid kn
         have HR3 := Lib.hid rn
         clear kn rn bn)
      | (go_simp; go_at_call 95; refine (rdName_any g true _ _ _ HRR.out).mono ?_; rintro e wx ⟨rfl, kn, rn⟩
         replace kn := HKD.out.trans kn
         have bn := WB.keep (S := fun k => k = g) HB.out kn hbg.out
         have c2 := bn.cell (i := 9) rfl
         have z2 := bn.fr 9
         have HK2 := Lib.hid kn
         have HR2 := Lib.hid rn
         clear kn rn bn)
      | (refine step_append_lies _ rfl (.tmp 42) (.tmp 50) 46 rfl wl.heap.size 52 tol0 _ 3 40 Tryz.underlying46 htol0 htz0 htz1 htz2 rfl (by decide) vv _ _ rfl (HO2.out _) ⟨wz.heap.size, 0, none⟩ 1 1 [_, _, _] rfl rfl (World.news_of_block (heap_alloc_new wz _)) (by simp [Value.oneCell']) (by decide) (by unfold maxLen; omega) (by omega) (HSZ.out _) _ rfl ?_
         intro gg cap w7' hown hgrow hat hlt1
         obtain ⟨b7, fin⟩ := gstep (KN.out _) (BN.out _) (HO2.out _) (RN.out _) hown hgrow (by decide) (by decide) (by decide) (by decide) (by decide)
         have FF := Lib.hid fin
         clear fin
         have c2 : w7'.cell? ⟨bx, 9, none⟩ = some vv := b7.cell (i := 9) rfl
         have z2 : w7'.frozen? ⟨bx, 9, none⟩ = false := b7.fr 9
         clear b7 hown hgrow hat hlt1))
    all_goals go_wp2_with fail
    all_goals go_roundw
    all_goals first
      | (obtain ⟨f1, f3, f4, f5⟩ := FF.out 9 _; exact ⟨m + 1, _, by omega, by go_num, f1, f3, by simpa [tolsFrom, tolC, tolF] using f4, f5⟩)
      | (simp [intOf]; omega)
  obtain rfl : m = n2 := by omega
  have hok := tolsFrom_ok m s3 b3
  have hln := tolsFrom_len m s3 b3
  have hnb : ¬ GB g bx bx n0 := by
    have h1 := HGN.out.1
    have h2 := HNX.out
    rintro (h | h | h) <;> omega
  have hn' : WB wr n0 66 #[.string ⟨#[]⟩, .int .i64 0, .int .i64 0, .int .i64 0, .int .i64 0, .int .i64 0, .slice none 0 0, .slice none 0 0, .slice none 0 0, .slice none 0 0, .string ⟨#[]⟩, .slice none 0 0, .int .i64 0, .slice none 0 0, .string ⟨#[]⟩, .int .i64 0] := WB.keep HNL.out hkm hnb
  have hk' : Keep (GB g bx n0) w10 wr := HKL.out.trans (hkm.mono (fun k _ h => h.elim .inl (fun h => h.elim (fun h => .inr (.inl h)) (fun h => .inr (.inl h)))))
  rw [← HT.out] at hok hln hov hrm
  obtain ⟨A4, c4, rfl, l4, m4, hs⟩ := got_tols hln hov hgb.out.1 hgb.out.2.1 hgb.out.2.2 hok
  obtain ⟨w11, hw⟩ : ∃ x, x = wr := ⟨_, rfl⟩
  have HB11 : Hid (WB w11 bx 66 #[(.string R.s2.1), (.int .i64 R.s3.1), (.int .i64 R.s4.1), (.int .i64 R.s5.1.a), (.int .i64 R.s5.1.b), (.int .i64 R.s5.1.c), (.slice A1 R.s6.1.length c1), (.slice A2 R.s7.1.length c2), (.slice A3 R.s8.1.length c3), (.slice A4 R.s9.1.length c4), .string ⟨#[]⟩, .slice none 0 0, .int .i64 0, .slice none 0 0, .string ⟨#[]⟩, .int .i64 0]) := by show WB _ _ _ _; rw [hw]; exact hb
  have HN11 : Hid (WB w11 n0 66 #[.string ⟨#[]⟩, .int .i64 0, .int .i64 0, .int .i64 0, .int .i64 0, .int .i64 0, .slice none 0 0, .slice none 0 0, .slice none 0 0, .slice none 0 0, .string ⟨#[]⟩, .slice none 0 0, .int .i64 0, .slice none 0 0, .string ⟨#[]⟩, .int .i64 0]) := by show WB _ _ _ _; rw [hw]; exact hn'
  have r11 : Rd w11 g true R.s9.2.1 R.s9.2.2 := by rw [hw]; exact hrm
  have K10 : Hid (Keep (GB g bx n0) w10 w11) := by show Keep _ _ _; rw [hw]; exact hk'
  have HS4 : Hid (∀ wx, Keep (GB g bx n0) w11 wx → Sl RTol 3 wx A4 R.s9.1) := by rw [hw]; exact hs
  have HL4 : Hid (R.s9.1.length ≤ c4 ∧ c4 ≤ maxLen) := ⟨l4, m4⟩
  rw [← hw]
  clear hw hs hrm hb hn' hk' hok hln hov hkm hnb HBL HNL HKL HT l4 m4 hgb
  go_wp2_with fail
  refine (rdName_any g true _ _ _ r11).mono ?_
  rintro e wn ⟨rfl, kn, rn⟩
  rw [← R.e10] at rn ⊢
  obtain ⟨bn, gs⟩ := gset (n0 := n0) kn HB11.out rn hbg.out (by decide) (by decide)
  clear rn r11
  have z := bn.fr 10
  have cc := bn.cell (i := 10) rfl
  have GS := Lib.hid gs
  clear gs
  go_wp2_with fail
  obtain ⟨w12, hw⟩ : ∃ x, wn.setCell ⟨bx, 10, none⟩ (.string R.s10.1) = x := ⟨_, rfl⟩
  rw [hw]
  have HB12 : Hid (WB w12 bx 66 #[(.string R.s2.1), (.int .i64 R.s3.1), (.int .i64 R.s4.1), (.int .i64 R.s5.1.a), (.int .i64 R.s5.1.b), (.int .i64 R.s5.1.c), (.slice A1 R.s6.1.length c1), (.slice A2 R.s7.1.length c2), (.slice A3 R.s8.1.length c3), (.slice A4 R.s9.1.length c4), (.string R.s10.1), .slice none 0 0, .int .i64 0, .slice none 0 0, .string ⟨#[]⟩, .int .i64 0]) := by show WB _ _ _ _; rw [← hw]; exact (GS.out 10 _).1
  have r12 : Rd w12 g true R.s10.2.1 R.s10.2.2 := by rw [← hw]; exact (GS.out 10 _).2.1
  have K11 : Hid (Keep (GB g bx n0) w11 w12) := by show Keep _ _ _; rw [← hw]; exact (GS.out 10 _).2.2
  have KS : Hid (Keep (GB g bx n0) wn w12) := by show Keep _ _ _; rw [← hw]; exact (Keep.refl _ _).gbSet 10 _
  have HN12 : Hid (WB w12 n0 66 #[.string ⟨#[]⟩, .int .i64 0, .int .i64 0, .int .i64 0, .int .i64 0, .int .i64 0, .slice none 0 0, .slice none 0 0, .slice none 0 0, .slice none 0 0, .string ⟨#[]⟩, .slice none 0 0, .int .i64 0, .slice none 0 0, .string ⟨#[]⟩, .int .i64 0]) := by show WB _ _ _ _; rw [← hw]; exact (WB.keep (S := fun k => k = g) HN11.out kn HGN.out.1).far (by have := HNX.out; show n0 ≠ bx; omega) _
  clear hw GS z cc bn kn HN11
  clear KS HB11
  have hgb : Hid (g < w12.heap.size ∧ bx < w12.heap.size ∧ n0 < w12.heap.size) := ⟨r12.lt, HB12.out.lt, HN12.out.lt⟩
  refine (getTerms_any g _ _ _ r12).mono ?_
  rintro e wn ⟨v, tc, rfl, own, trow, kn, rn⟩
  rw [← R.e11] at rn own trow
  obtain ⟨bn, gs⟩ := gset (n0 := n0) kn HB12.out rn hbg.out (by decide) (by decide)
  clear rn r12
  have hok : ∀ x ∈ R.s11.1, okTS x := by rw [R.e11]; unfold termsF; exact termsFrom_ok _ _ _
  have nn := WB.keep (S := fun k => k = g) HN12.out kn HGN.out.1
  obtain ⟨A5, c5, rfl, l5, m5, hs⟩ := got_terms rfl own trow bn nn (by decide) hgb.out.1 hgb.out.2.1 hgb.out.2.2 hok
  clear own trow nn hok hgb
  have HS := Lib.hid hs
  have HL5 : Hid (R.s11.1.length ≤ c5 ∧ c5 ≤ maxLen) := ⟨l5, m5⟩
  clear hs l5 m5
  have z := bn.fr 11
  have cc := bn.cell (i := 11) rfl
  have GS := Lib.hid gs
  clear gs
  go_wp2_with fail
  obtain ⟨w13, hw⟩ : ∃ x, wn.setCell ⟨bx, 11, none⟩ (.slice A5 R.s11.1.length c5) = x := ⟨_, rfl⟩
  rw [hw]
  have HB13 : Hid (WB w13 bx 66 #[(.string R.s2.1), (.int .i64 R.s3.1), (.int .i64 R.s4.1), (.int .i64 R.s5.1.a), (.int .i64 R.s5.1.b), (.int .i64 R.s5.1.c), (.slice A1 R.s6.1.length c1), (.slice A2 R.s7.1.length c2), (.slice A3 R.s8.1.length c3), (.slice A4 R.s9.1.length c4), (.string R.s10.1), (.slice A5 R.s11.1.length c5), .int .i64 0, .slice none 0 0, .string ⟨#[]⟩, .int .i64 0]) := by show WB _ _ _ _; rw [← hw]; exact (GS.out 11 _).1
  have r13 : Rd w13 g true R.s11.2.1 R.s11.2.2 := by rw [← hw]; exact (GS.out 11 _).2.1
  have K12 : Hid (Keep (GB g bx n0) w12 w13) := by show Keep _ _ _; rw [← hw]; exact (GS.out 11 _).2.2
  have KS : Hid (Keep (GB g bx n0) wn w13) := by show Keep _ _ _; rw [← hw]; exact (Keep.refl _ _).gbSet 11 _
  have HN13 : Hid (WB w13 n0 66 #[.string ⟨#[]⟩, .int .i64 0, .int .i64 0, .int .i64 0, .int .i64 0, .int .i64 0, .slice none 0 0, .slice none 0 0, .slice none 0 0, .slice none 0 0, .string ⟨#[]⟩, .slice none 0 0, .int .i64 0, .slice none 0 0, .string ⟨#[]⟩, .int .i64 0]) := by show WB _ _ _ _; rw [← hw]; exact (WB.keep (S := fun k => k = g) HN12.out kn HGN.out.1).far (by have := HNX.out; show n0 ≠ bx; omega) _
  clear hw GS z cc bn kn HN12
  have HS5 : Hid (∀ wx, Keep (GB g bx n0) w13 wx → Sl RTerm 3 wx A5 R.s11.1) := fun wx k => HS.out wx (KS.out.trans k)
  clear KS HS HB12
  refine (rdNumI g true _ _ 1 _ (by omega) (by omega) r13).mono ?_
  rintro e wn ⟨rfl, kn, rn⟩
  rw [show (1 : Int).toNat = 1 from rfl] at rn ⊢
  rw [← R.e12] at rn ⊢
  obtain ⟨bn, gs⟩ := gset (n0 := n0) kn HB13.out rn hbg.out (by decide) (by decide)
  clear rn r13
  have z := bn.fr 12
  have cc := bn.cell (i := 12) rfl
  have GS := Lib.hid gs
  clear gs
  go_wp2_with fail
  obtain ⟨w14, hw⟩ : ∃ x, wn.setCell ⟨bx, 12, none⟩ (.int .i64 R.s12.1) = x := ⟨_, rfl⟩
  rw [hw]
  have HB14 : Hid (WB w14 bx 66 #[(.string R.s2.1), (.int .i64 R.s3.1), (.int .i64 R.s4.1), (.int .i64 R.s5.1.a), (.int .i64 R.s5.1.b), (.int .i64 R.s5.1.c), (.slice A1 R.s6.1.length c1), (.slice A2 R.s7.1.length c2), (.slice A3 R.s8.1.length c3), (.slice A4 R.s9.1.length c4), (.string R.s10.1), (.slice A5 R.s11.1.length c5), (.int .i64 R.s12.1), .slice none 0 0, .string ⟨#[]⟩, .int .i64 0]) := by show WB _ _ _ _; rw [← hw]; exact (GS.out 12 _).1
  have r14 : Rd w14 g true R.s12.2.1 R.s12.2.2 := by rw [← hw]; exact (GS.out 12 _).2.1
  have K13 : Hid (Keep (GB g bx n0) w13 w14) := by show Keep _ _ _; rw [← hw]; exact (GS.out 12 _).2.2
  have KS : Hid (Keep (GB g bx n0) wn w14) := by show Keep _ _ _; rw [← hw]; exact (Keep.refl _ _).gbSet 12 _
  have HN14 : Hid (WB w14 n0 66 #[.string ⟨#[]⟩, .int .i64 0, .int .i64 0, .int .i64 0, .int .i64 0, .int .i64 0, .slice none 0 0, .slice none 0 0, .slice none 0 0, .slice none 0 0, .string ⟨#[]⟩, .slice none 0 0, .int .i64 0, .slice none 0 0, .string ⟨#[]⟩, .int .i64 0]) := by show WB _ _ _ _; rw [← hw]; exact (WB.keep (S := fun k => k = g) HN13.out kn HGN.out.1).far (by have := HNX.out; show n0 ≠ bx; omega) _
  clear hw GS z cc bn kn HN13
  clear KS HB13
  have hgb : Hid (g < w14.heap.size ∧ bx < w14.heap.size ∧ n0 < w14.heap.size) := ⟨r14.lt, HB14.out.lt, HN14.out.lt⟩
  refine (getTerms_any g _ _ _ r14).mono ?_
  rintro e wn ⟨v, tc, rfl, own, trow, kn, rn⟩
  rw [← R.e13] at rn own trow
  obtain ⟨bn, gs⟩ := gset (n0 := n0) kn HB14.out rn hbg.out (by decide) (by decide)
  clear rn r14
  have hok : ∀ x ∈ R.s13.1, okTS x := by rw [R.e13]; unfold termsF; exact termsFrom_ok _ _ _
  have nn := WB.keep (S := fun k => k = g) HN14.out kn HGN.out.1
  obtain ⟨A6, c6, rfl, l6, m6, hs⟩ := got_terms rfl own trow bn nn (by decide) hgb.out.1 hgb.out.2.1 hgb.out.2.2 hok
  clear own trow nn hok hgb
  have HS := Lib.hid hs
  have HL6 : Hid (R.s13.1.length ≤ c6 ∧ c6 ≤ maxLen) := ⟨l6, m6⟩
  clear hs l6 m6
  have z := bn.fr 13
  have cc := bn.cell (i := 13) rfl
  have GS := Lib.hid gs
  clear gs
  go_wp2_with fail
  obtain ⟨w15, hw⟩ : ∃ x, wn.setCell ⟨bx, 13, none⟩ (.slice A6 R.s13.1.length c6) = x := ⟨_, rfl⟩
  rw [hw]
  have HB15 : Hid (WB w15 bx 66 #[(.string R.s2.1), (.int .i64 R.s3.1), (.int .i64 R.s4.1), (.int .i64 R.s5.1.a), (.int .i64 R.s5.1.b), (.int .i64 R.s5.1.c), (.slice A1 R.s6.1.length c1), (.slice A2 R.s7.1.length c2), (.slice A3 R.s8.1.length c3), (.slice A4 R.s9.1.length c4), (.string R.s10.1), (.slice A5 R.s11.1.length c5), (.int .i64 R.s12.1), (.slice A6 R.s13.1.length c6), .string ⟨#[]⟩, .int .i64 0]) := by show WB _ _ _ _; rw [← hw]; exact (GS.out 13 _).1
  have r15 : Rd w15 g true R.s13.2.1 R.s13.2.2 := by rw [← hw]; exact (GS.out 13 _).2.1
  have K14 : Hid (Keep (GB g bx n0) w14 w15) := by show Keep _ _ _; rw [← hw]; exact (GS.out 13 _).2.2
  have KS : Hid (Keep (GB g bx n0) wn w15) := by show Keep _ _ _; rw [← hw]; exact (Keep.refl _ _).gbSet 13 _
  have HN15 : Hid (WB w15 n0 66 #[.string ⟨#[]⟩, .int .i64 0, .int .i64 0, .int .i64 0, .int .i64 0, .int .i64 0, .slice none 0 0, .slice none 0 0, .slice none 0 0, .slice none 0 0, .string ⟨#[]⟩, .slice none 0 0, .int .i64 0, .slice none 0 0, .string ⟨#[]⟩, .int .i64 0]) := by show WB _ _ _ _; rw [← hw]; exact (WB.keep (S := fun k => k = g) HN14.out kn HGN.out.1).far (by have := HNX.out; show n0 ≠ bx; omega) _
  clear hw GS z cc bn kn HN14
  have HS6 : Hid (∀ wx, Keep (GB g bx n0) w15 wx → Sl RTerm 3 wx A6 R.s13.1) := fun wx k => HS.out wx (KS.out.trans k)
  clear KS HS HB14
  refine (rdName_any g true _ _ _ r15).mono ?_
  rintro e wn ⟨rfl, kn, rn⟩
  rw [← R.e14] at rn ⊢
  obtain ⟨bn, gs⟩ := gset (n0 := n0) kn HB15.out rn hbg.out (by decide) (by decide)
  clear rn r15
  have z := bn.fr 14
  have cc := bn.cell (i := 14) rfl
  have GS := Lib.hid gs
  clear gs
  go_wp2_with fail
  obtain ⟨w16, hw⟩ : ∃ x, wn.setCell ⟨bx, 14, none⟩ (.string R.s14.1) = x := ⟨_, rfl⟩
  rw [hw]
  have HB16 : Hid (WB w16 bx 66 #[(.string R.s2.1), (.int .i64 R.s3.1), (.int .i64 R.s4.1), (.int .i64 R.s5.1.a), (.int .i64 R.s5.1.b), (.int .i64 R.s5.1.c), (.slice A1 R.s6.1.length c1), (.slice A2 R.s7.1.length c2), (.slice A3 R.s8.1.length c3), (.slice A4 R.s9.1.length c4), (.string R.s10.1), (.slice A5 R.s11.1.length c5), (.int .i64 R.s12.1), (.slice A6 R.s13.1.length c6), (.string R.s14.1), .int .i64 0]) := by show WB _ _ _ _; rw [← hw]; exact (GS.out 14 _).1
  have r16 : Rd w16 g true R.s14.2.1 R.s14.2.2 := by rw [← hw]; exact (GS.out 14 _).2.1
  have K15 : Hid (Keep (GB g bx n0) w15 w16) := by show Keep _ _ _; rw [← hw]; exact (GS.out 14 _).2.2
  have KS : Hid (Keep (GB g bx n0) wn w16) := by show Keep _ _ _; rw [← hw]; exact (Keep.refl _ _).gbSet 14 _
  have HN16 : Hid (WB w16 n0 66 #[.string ⟨#[]⟩, .int .i64 0, .int .i64 0, .int .i64 0, .int .i64 0, .int .i64 0, .slice none 0 0, .slice none 0 0, .slice none 0 0, .slice none 0 0, .string ⟨#[]⟩, .slice none 0 0, .int .i64 0, .slice none 0 0, .string ⟨#[]⟩, .int .i64 0]) := by show WB _ _ _ _; rw [← hw]; exact (WB.keep (S := fun k => k = g) HN15.out kn HGN.out.1).far (by have := HNX.out; show n0 ≠ bx; omega) _
  clear hw GS z cc bn kn HN15
  clear KS HB15
  refine (rdNumI g true _ _ 8 _ (by omega) (by omega) r16).mono ?_
  rintro e wn ⟨rfl, kn, rn⟩
  rw [show (8 : Int).toNat = 8 from rfl] at rn ⊢
  rw [← R.e15] at rn ⊢
  obtain ⟨bn, gs⟩ := gset (n0 := n0) kn HB16.out rn hbg.out (by decide) (by decide)
  clear rn r16
  have z := bn.fr 15
  have cc := bn.cell (i := 15) rfl
  have GS := Lib.hid gs
  clear gs
  go_upto_region 20 with (fail)
  obtain ⟨w17, hw⟩ : ∃ x, wn.setCell ⟨bx, 15, none⟩ (.int .i64 R.s15.1) = x := ⟨_, rfl⟩
  rw [hw]
  have HB17 : Hid (WB w17 bx 66 #[(.string R.s2.1), (.int .i64 R.s3.1), (.int .i64 R.s4.1), (.int .i64 R.s5.1.a), (.int .i64 R.s5.1.b), (.int .i64 R.s5.1.c), (.slice A1 R.s6.1.length c1), (.slice A2 R.s7.1.length c2), (.slice A3 R.s8.1.length c3), (.slice A4 R.s9.1.length c4), (.string R.s10.1), (.slice A5 R.s11.1.length c5), (.int .i64 R.s12.1), (.slice A6 R.s13.1.length c6), (.string R.s14.1), (.int .i64 R.s15.1)]) := by show WB _ _ _ _; rw [← hw]; exact (GS.out 15 _).1
  have r17 : Rd w17 g true R.s15.2.1 R.s15.2.2 := by rw [← hw]; exact (GS.out 15 _).2.1
  have K16 : Hid (Keep (GB g bx n0) w16 w17) := by show Keep _ _ _; rw [← hw]; exact (GS.out 15 _).2.2
  have KS : Hid (Keep (GB g bx n0) wn w17) := by show Keep _ _ _; rw [← hw]; exact (Keep.refl _ _).gbSet 15 _
  have HN17 : Hid (WB w17 n0 66 #[.string ⟨#[]⟩, .int .i64 0, .int .i64 0, .int .i64 0, .int .i64 0, .int .i64 0, .slice none 0 0, .slice none 0 0, .slice none 0 0, .slice none 0 0, .string ⟨#[]⟩, .slice none 0 0, .int .i64 0, .slice none 0 0, .string ⟨#[]⟩, .int .i64 0]) := by show WB _ _ _ _; rw [← hw]; exact (WB.keep (S := fun k => k = g) HN16.out kn HGN.out.1).far (by have := HNX.out; show n0 ≠ bx; omega) _
  clear hw GS z cc bn kn HN16
  clear KS HB16
  have HKT : Hid (Keep (GB g bx n0) w7 w17) := K7.out.trans (K8.out.trans (K9.out.trans (K10.out.trans (K11.out.trans (K12.out.trans (K13.out.trans (K14.out.trans (K15.out.trans (K16.out.trans (Keep.refl _ _))))))))))
  have HEN : Hid (Ext w w17) := by
    have h1 := HGN.out.2
    have h2 := HBS.out
    have h3 := HNS.out
    exact Below.trans HE7.out ⟨HKT.out.os, HKT.out.tape, HKT.out.output, HKT.out.size, fun k hk => HKT.out.block k (Nat.lt_of_lt_of_le hk HE7.out.size) (by rintro (h | h | h) <;> omega)⟩
  have HO1 : Hid (okS R.s2.1 ∧ inI R.s3.1 ∧ inI R.s4.1 ∧ okR R.s5.1 ∧ okS R.s10.1 ∧ inI R.s12.1 ∧ okS R.s14.1 ∧ inI R.s15.1) := by
    refine ⟨by rw [R.e2]; exact nameFR_ok _ _, by rw [R.e3]; exact numF_inI _ _ _, by rw [R.e4]; exact numF_inI _ _ _, by rw [R.e5]; exact ⟨numF_inI _ _ _, numF_inI _ _ _, numF_inI _ _ _⟩, by rw [R.e10]; exact nameFR_ok _ _, by rw [R.e12]; exact numF_inI _ _ _, by rw [R.e14]; exact nameFR_ok _ _, by rw [R.e15]; exact numF_inI _ _ _⟩
  have HOK : Hid (∀ wx, Keep (GB g bx n0) w17 wx → PodOk wx R.pod ⟨A1, c1, A2, c2, A3, c3, A4, c4, A5, c5, A6, c6⟩) := fun wx kx => ⟨HO1.out.1, HO1.out.2.1, HO1.out.2.2.1, HO1.out.2.2.2.1, HS1.out _ (K8.out.trans (K9.out.trans (K10.out.trans (K11.out.trans (K12.out.trans (K13.out.trans (K14.out.trans (K15.out.trans (K16.out.trans (kx)))))))))), HS2.out _ (K9.out.trans (K10.out.trans (K11.out.trans (K12.out.trans (K13.out.trans (K14.out.trans (K15.out.trans (K16.out.trans (kx))))))))), HS3.out _ (K10.out.trans (K11.out.trans (K12.out.trans (K13.out.trans (K14.out.trans (K15.out.trans (K16.out.trans (kx)))))))), HS4.out _ (K11.out.trans (K12.out.trans (K13.out.trans (K14.out.trans (K15.out.trans (K16.out.trans (kx))))))), HO1.out.2.2.2.2.1, HS5.out _ (K13.out.trans (K14.out.trans (K15.out.trans (K16.out.trans (kx))))), HO1.out.2.2.2.2.2.1, HS6.out _ (K15.out.trans (K16.out.trans (kx))), HO1.out.2.2.2.2.2.2.1, HO1.out.2.2.2.2.2.2.2, HL1.out.1, HL1.out.2, HL2.out.1, HL2.out.2, HL3.out.1, HL3.out.2, HL4.out.1, HL4.out.2, HL5.out.1, HL5.out.2, HL6.out.1, HL6.out.2⟩
  have HPP : Hid (Calls Tryz.prog 49 #[.agg #[(.string R.s2.1), (.int .i64 R.s3.1), (.int .i64 R.s4.1), (.int .i64 R.s5.1.a), (.int .i64 R.s5.1.b), (.int .i64 R.s5.1.c), (.slice A1 R.s6.1.length c1), (.slice A2 R.s7.1.length c2), (.slice A3 R.s8.1.length c3), (.slice A4 R.s9.1.length c4), (.string R.s10.1), (.slice A5 R.s11.1.length c5), (.int .i64 R.s12.1), (.slice A6 R.s13.1.length c6), (.string R.s14.1), (.int .i64 R.s15.1)]] w17 (ClPost 5 1 (putPodB R.pod).length ((putPodB R.pod).map byV) w17)) := putPod_any R.pod ⟨A1, c1, A2, c2, A3, c3, A4, c4, A5, c5, A6, c6⟩ w17 (HOK.out _ (Keep.refl _ _))
  have ALL : Hid (∀ wx, Ext w17 wx → (podG bs = false → GPPost bs w (.returned (.tuple #[.agg #[.string ⟨#[]⟩, .int .i64 0, .int .i64 0, .int .i64 0, .int .i64 0, .int .i64 0, .slice none 0 0, .slice none 0 0, .slice none 0 0, .slice none 0 0, .string ⟨#[]⟩, .slice none 0 0, .int .i64 0, .slice none 0 0, .string ⟨#[]⟩, .int .i64 0], .bool false])) (set16 wx n0 (.string ⟨#[]⟩) (.int .i64 0) (.int .i64 0) (.int .i64 0) (.int .i64 0) (.int .i64 0) (.slice none 0 0) (.slice none 0 0) (.slice none 0 0) (.slice none 0 0) (.string ⟨#[]⟩) (.slice none 0 0) (.int .i64 0) (.slice none 0 0) (.string ⟨#[]⟩) (.int .i64 0)) ∧ WB (set16 wx n0 (.string ⟨#[]⟩) (.int .i64 0) (.int .i64 0) (.int .i64 0) (.int .i64 0) (.int .i64 0) (.slice none 0 0) (.slice none 0 0) (.slice none 0 0) (.slice none 0 0) (.string ⟨#[]⟩) (.slice none 0 0) (.int .i64 0) (.slice none 0 0) (.string ⟨#[]⟩) (.int .i64 0)) n0 66 #[.string ⟨#[]⟩, .int .i64 0, .int .i64 0, .int .i64 0, .int .i64 0, .int .i64 0, .slice none 0 0, .slice none 0 0, .slice none 0 0, .slice none 0 0, .string ⟨#[]⟩, .slice none 0 0, .int .i64 0, .slice none 0 0, .string ⟨#[]⟩, .int .i64 0] ∧ WB wx n0 66 #[.string ⟨#[]⟩, .int .i64 0, .int .i64 0, .int .i64 0, .int .i64 0, .int .i64 0, .slice none 0 0, .slice none 0 0, .slice none 0 0, .slice none 0 0, .string ⟨#[]⟩, .slice none 0 0, .int .i64 0, .slice none 0 0, .string ⟨#[]⟩, .int .i64 0]) ∧
      (podG bs = true → GPPost bs w (.returned (.tuple #[.agg #[(.string R.s2.1), (.int .i64 R.s3.1), (.int .i64 R.s4.1), (.int .i64 R.s5.1.a), (.int .i64 R.s5.1.b), (.int .i64 R.s5.1.c), (.slice A1 R.s6.1.length c1), (.slice A2 R.s7.1.length c2), (.slice A3 R.s8.1.length c3), (.slice A4 R.s9.1.length c4), (.string R.s10.1), (.slice A5 R.s11.1.length c5), (.int .i64 R.s12.1), (.slice A6 R.s13.1.length c6), (.string R.s14.1), (.int .i64 R.s15.1)], .bool true])) (set16 wx n0 (.string R.s2.1) (.int .i64 R.s3.1) (.int .i64 R.s4.1) (.int .i64 R.s5.1.a) (.int .i64 R.s5.1.b) (.int .i64 R.s5.1.c) (.slice A1 R.s6.1.length c1) (.slice A2 R.s7.1.length c2) (.slice A3 R.s8.1.length c3) (.slice A4 R.s9.1.length c4) (.string R.s10.1) (.slice A5 R.s11.1.length c5) (.int .i64 R.s12.1) (.slice A6 R.s13.1.length c6) (.string R.s14.1) (.int .i64 R.s15.1)) ∧ WB (set16 wx n0 (.string R.s2.1) (.int .i64 R.s3.1) (.int .i64 R.s4.1) (.int .i64 R.s5.1.a) (.int .i64 R.s5.1.b) (.int .i64 R.s5.1.c) (.slice A1 R.s6.1.length c1) (.slice A2 R.s7.1.length c2) (.slice A3 R.s8.1.length c3) (.slice A4 R.s9.1.length c4) (.string R.s10.1) (.slice A5 R.s11.1.length c5) (.int .i64 R.s12.1) (.slice A6 R.s13.1.length c6) (.string R.s14.1) (.int .i64 R.s15.1)) n0 66 #[(.string R.s2.1), (.int .i64 R.s3.1), (.int .i64 R.s4.1), (.int .i64 R.s5.1.a), (.int .i64 R.s5.1.b), (.int .i64 R.s5.1.c), (.slice A1 R.s6.1.length c1), (.slice A2 R.s7.1.length c2), (.slice A3 R.s8.1.length c3), (.slice A4 R.s9.1.length c4), (.string R.s10.1), (.slice A5 R.s11.1.length c5), (.int .i64 R.s12.1), (.slice A6 R.s13.1.length c6), (.string R.s14.1), (.int .i64 R.s15.1)] ∧ WB wx n0 66 #[.string ⟨#[]⟩, .int .i64 0, .int .i64 0, .int .i64 0, .int .i64 0, .int .i64 0, .slice none 0 0, .slice none 0 0, .slice none 0 0, .slice none 0 0, .string ⟨#[]⟩, .slice none 0 0, .int .i64 0, .slice none 0 0, .string ⟨#[]⟩, .int .i64 0] ∧ WB wx bx 66 #[(.string R.s2.1), (.int .i64 R.s3.1), (.int .i64 R.s4.1), (.int .i64 R.s5.1.a), (.int .i64 R.s5.1.b), (.int .i64 R.s5.1.c), (.slice A1 R.s6.1.length c1), (.slice A2 R.s7.1.length c2), (.slice A3 R.s8.1.length c3), (.slice A4 R.s9.1.length c4), (.string R.s10.1), (.slice A5 R.s11.1.length c5), (.int .i64 R.s12.1), (.slice A6 R.s13.1.length c6), (.string R.s14.1), (.int .i64 R.s15.1)])) := fun wx ex =>
    ⟨fun hG => ⟨NO.out _ hG (Ext.set16 (HEN.out.trans ex) HNS.out (.string ⟨#[]⟩) (.int .i64 0) (.int .i64 0) (.int .i64 0) (.int .i64 0) (.int .i64 0) (.slice none 0 0) (.slice none 0 0) (.slice none 0 0) (.slice none 0 0) (.string ⟨#[]⟩) (.slice none 0 0) (.int .i64 0) (.slice none 0 0) (.string ⟨#[]⟩) (.int .i64 0)), WB.set16 (HN17.out.ext ex) (.string ⟨#[]⟩) (.int .i64 0) (.int .i64 0) (.int .i64 0) (.int .i64 0) (.int .i64 0) (.slice none 0 0) (.slice none 0 0) (.slice none 0 0) (.slice none 0 0) (.string ⟨#[]⟩) (.slice none 0 0) (.int .i64 0) (.slice none 0 0) (.string ⟨#[]⟩) (.int .i64 0), HN17.out.ext ex⟩,
     fun hG => ⟨FIN.out _ ⟨A1, c1, A2, c2, A3, c3, A4, c4, A5, c5, A6, c6⟩ hG (Ext.set16 (HEN.out.trans ex) HNS.out (.string R.s2.1) (.int .i64 R.s3.1) (.int .i64 R.s4.1) (.int .i64 R.s5.1.a) (.int .i64 R.s5.1.b) (.int .i64 R.s5.1.c) (.slice A1 R.s6.1.length c1) (.slice A2 R.s7.1.length c2) (.slice A3 R.s8.1.length c3) (.slice A4 R.s9.1.length c4) (.string R.s10.1) (.slice A5 R.s11.1.length c5) (.int .i64 R.s12.1) (.slice A6 R.s13.1.length c6) (.string R.s14.1) (.int .i64 R.s15.1)) (HOK.out _ (Keep.set16 (Keep.ext ex) (.string R.s2.1) (.int .i64 R.s3.1) (.int .i64 R.s4.1) (.int .i64 R.s5.1.a) (.int .i64 R.s5.1.b) (.int .i64 R.s5.1.c) (.slice A1 R.s6.1.length c1) (.slice A2 R.s7.1.length c2) (.slice A3 R.s8.1.length c3) (.slice A4 R.s9.1.length c4) (.string R.s10.1) (.slice A5 R.s11.1.length c5) (.int .i64 R.s12.1) (.slice A6 R.s13.1.length c6) (.string R.s14.1) (.int .i64 R.s15.1))), WB.set16 (HN17.out.ext ex) (.string R.s2.1) (.int .i64 R.s3.1) (.int .i64 R.s4.1) (.int .i64 R.s5.1.a) (.int .i64 R.s5.1.b) (.int .i64 R.s5.1.c) (.slice A1 R.s6.1.length c1) (.slice A2 R.s7.1.length c2) (.slice A3 R.s8.1.length c3) (.slice A4 R.s9.1.length c4) (.string R.s10.1) (.slice A5 R.s11.1.length c5) (.int .i64 R.s12.1) (.slice A6 R.s13.1.length c6) (.string R.s14.1) (.int .i64 R.s15.1), HN17.out.ext ex, HB17.out.ext ex⟩⟩
  clear K7 K8 K9 K10 K11 K12 K13 K14 K15 K16 HKT HS1 HS2 HS3 HS4 HS5 HS6 HL1 HL2 HL3 HL4 HL5 HL6 HO1 HOK FIN NO HN17 HNX HBS HNS hbg HGN
  refine gp20 _ w17 g bx A c bs (putPodB R.pod) R.s15.2.1 R.s15.2.2 _ _ _ _ _ _ _ _ _ _ _ _ _ _ _ _ _ _ _ _ _ _ _ _ _ _ _ _ _ _ _ _ _ _ _ _ _ _ _ _ _ _ _ _ _ _ _ _ _ _ _ _ _ _ _ _ _ _ _ _ _ _ _ _ _ _ _ _ _ _ _ _ _ _ _ _ _ _ _ _ _ _ _ _ _ _ _ _ _ _ _ _ _ _ _ _ _ _ _ _ _ _ _ _ _ _ _ _ _ _ _ _ _ _ r17 HB17 HPP (fun wx e => HF.out _ (HEN.out.trans e)) ?_
  intro v72 v73 v74 v75 v76 v77 v78 v79 v80 v81 v82 v83 v84 v85 wx ex
  rw [← HG.out]
  have HX2 := Lib.hid (ALL.out wx ex)
  clear ex r17 ALL HG HPP HF HEN HB17
  cases hG : podG bs
  case false =>
    have HX3 : Hid (_ ∧ _ ∧ _) := HX2.out.1 hG
    clear hG HX2
    go_upto_region 21 with (fail)
    obtain ⟨F, f, hn⟩ := HX3.out
    refine gp21 _ wx n0 _ _ _ _ _ _ _ _ _ _ _ _ _ _ _ _ _ _ _ _ _ _ _ _ _ _ _ _ _ _ _ _ _ _ _ _ _ _ _ _ _ _ _ _ _ _ _ _ _ _ _ _ _ _ _ _ _ _ _ _ _ _ _ _ _ _ _ _ _ _ _ _ _ _ _ _ _ _ _ _ _ _ _ _ _ _ _ _ _ _ _ _ _ _ _ _ _ _ _ _ _ _ _ _ hn ?_
    have FH := Lib.hid F
    have HFF := Lib.hid f
    clear F f hn HX3
    obtain ⟨wf, hwf⟩ : ∃ x, x = (set16 wx n0 (.string ⟨#[]⟩) (.int .i64 0) (.int .i64 0) (.int .i64 0) (.int .i64 0) (.int .i64 0) (.slice none 0 0) (.slice none 0 0) (.slice none 0 0) (.slice none 0 0) (.string ⟨#[]⟩) (.slice none 0 0) (.int .i64 0) (.slice none 0 0) (.string ⟨#[]⟩) (.int .i64 0)) := ⟨_, rfl⟩
    rw [← hwf] at FH HFF ⊢
    clear hwf
    have f := HFF.out
    have f0 := f.cell (i := 0) rfl
    have f1 := f.cell (i := 1) rfl
    have f2 := f.cell (i := 2) rfl
    have f3 := f.cell (i := 3) rfl
    have f4 := f.cell (i := 4) rfl
    have f5 := f.cell (i := 5) rfl
    have f6 := f.cell (i := 6) rfl
    have f7 := f.cell (i := 7) rfl
    have f8 := f.cell (i := 8) rfl
    have f9 := f.cell (i := 9) rfl
    have f10 := f.cell (i := 10) rfl
    have f11 := f.cell (i := 11) rfl
    have f12 := f.cell (i := 12) rfl
    have f13 := f.cell (i := 13) rfl
    have f14 := f.cell (i := 14) rfl
    have f15 := f.cell (i := 15) rfl
    clear f HFF
    go_wp2_with fail
    refine bodyPost_ret (v := .tuple #[.agg #[.string ⟨#[]⟩, .int .i64 0, .int .i64 0, .int .i64 0, .int .i64 0, .int .i64 0, .slice none 0 0, .slice none 0 0, .slice none 0 0, .slice none 0 0, .string ⟨#[]⟩, .slice none 0 0, .int .i64 0, .slice none 0 0, .string ⟨#[]⟩, .int .i64 0], .bool false]) (by simp [results, Tryz.results51, go_sem, f0, f1, f2, f3, f4, f5, f6, f7, f8, f9, f10, f11, f12, f13, f14, f15]) rfl ?_
    exact FH.out
  case true =>
    have HX3 : Hid (_ ∧ _ ∧ _ ∧ _) := HX2.out.2 hG
    clear hG HX2
    go_upto_region 22 with (fail)
    obtain ⟨F, f, hn, hbb⟩ := HX3.out
    refine gp22 _ wx n0 bx _ _ _ _ _ _ _ _ _ _ _ _ _ _ _ _ _ _ _ _ _ _ _ _ _ _ _ _ _ _ _ _ _ _ _ _ _ _ _ _ _ _ _ _ _ _ _ _ _ _ _ _ _ _ _ _ _ _ _ _ _ _ _ _ _ _ _ _ _ _ _ _ _ _ _ _ _ _ _ _ _ _ _ _ _ _ _ _ _ _ _ _ _ _ _ _ _ _ _ _ _ _ _ _ _ _ _ _ _ _ _ _ _ _ _ _ _ _ _ _ _ _ _ _ _ _ _ _ _ _ _ hn hbb ?_
    have FH := Lib.hid F
    have HFF := Lib.hid f
    clear F f hn hbb HX3
    obtain ⟨wf, hwf⟩ : ∃ x, x = (set16 wx n0 (.string R.s2.1) (.int .i64 R.s3.1) (.int .i64 R.s4.1) (.int .i64 R.s5.1.a) (.int .i64 R.s5.1.b) (.int .i64 R.s5.1.c) (.slice A1 R.s6.1.length c1) (.slice A2 R.s7.1.length c2) (.slice A3 R.s8.1.length c3) (.slice A4 R.s9.1.length c4) (.string R.s10.1) (.slice A5 R.s11.1.length c5) (.int .i64 R.s12.1) (.slice A6 R.s13.1.length c6) (.string R.s14.1) (.int .i64 R.s15.1)) := ⟨_, rfl⟩
    rw [← hwf] at FH HFF ⊢
    clear hwf
    have f := HFF.out
    have f0 := f.cell (i := 0) rfl
    have f1 := f.cell (i := 1) rfl
    have f2 := f.cell (i := 2) rfl
    have f3 := f.cell (i := 3) rfl
    have f4 := f.cell (i := 4) rfl
    have f5 := f.cell (i := 5) rfl
    have f6 := f.cell (i := 6) rfl
    have f7 := f.cell (i := 7) rfl
    have f8 := f.cell (i := 8) rfl
    have f9 := f.cell (i := 9) rfl
    have f10 := f.cell (i := 10) rfl
    have f11 := f.cell (i := 11) rfl
    have f12 := f.cell (i := 12) rfl
    have f13 := f.cell (i := 13) rfl
    have f14 := f.cell (i := 14) rfl
    have f15 := f.cell (i := 15) rfl
    clear f HFF
    go_wp2_with fail
    refine bodyPost_ret (v := .tuple #[.agg #[(.string R.s2.1), (.int .i64 R.s3.1), (.int .i64 R.s4.1), (.int .i64 R.s5.1.a), (.int .i64 R.s5.1.b), (.int .i64 R.s5.1.c), (.slice A1 R.s6.1.length c1), (.slice A2 R.s7.1.length c2), (.slice A3 R.s8.1.length c3), (.slice A4 R.s9.1.length c4), (.string R.s10.1), (.slice A5 R.s11.1.length c5), (.int .i64 R.s12.1), (.slice A6 R.s13.1.length c6), (.string R.s14.1), (.int .i64 R.s15.1)], .bool true]) (by simp [results, Tryz.results51, go_sem, f0, f1, f2, f3, f4, f5, f6, f7, f8, f9, f10, f11, f12, f13, f14, f15]) rfl ?_
    exact FH.out
end Go.Proofs.YthfafenigjldlaaGreat

/-
  'begun' answers true, and leaves all that was there as it was.
-/
namespace Go.Proofs.YthfafenigjldlaaGreat
open Go.RowKit

theorem begun_any (w : World) : Calls Tryz.prog 17 #[] w fun e w' => e = .returned (.bool true) ∧ Ext w w' := begun_of (Lib.hid getPod_any) w
end Go.Proofs.YthfafenigjldlaaGreat
