/-
  What a byte, a slice of bytes, a pod, a node handed in tells of memory.
-/
import Derived.Test.YthfafenigjldlaaGreatOpen2
import Derived.Test.YthfafenigjldlaaGreatNode1
import Derived.Test.YthfafenigjldlaaGreatGet6
import Derived.Test.YthfafenigjldlaaGreatApp1
namespace Go.Proofs.YthfafenigjldlaaGreat
open Go.RowKit Go.ChangeShapes Go.WideShapes Go.ChangeAt
set_option linter.unusedVariables false
set_option linter.unusedSimpArgs false

def RByte (_ : World) (cs : List Value) (x : UInt8) : Prop := cs = [byV x]
theorem cells_u8 : Tryz.prog.cellsOf 5 = 1 := by kernel_rfl
theorem cells_ints : Tryz.prog.cellsOf 64 = 1 := by kernel_rfl
theorem cells_pairs : Tryz.prog.cellsOf 22 = 1 := by kernel_rfl
theorem cells_terms : Tryz.prog.cellsOf 23 = 1 := by kernel_rfl
theorem cells_tolers : Tryz.prog.cellsOf 46 = 1 := by kernel_rfl
theorem cells_taints : Tryz.prog.cellsOf 45 = 1 := by kernel_rfl
theorem cells_pod : Tryz.prog.cellsOf 66 = 16 := by kernel_rfl
theorem cells_node : Tryz.prog.cellsOf 68 = 6 := by kernel_rfl
theorem by_of {n : Int} (h0 : 0 ≤ n) (h1 : n ≤ 255) : Value.int .u8 n = byV (UInt8.ofNat n.toNat) := by
  unfold byV
  have : ((UInt8.ofNat n.toNat).toNat : Int) = n := by
    rw [UInt8.toNat_ofNat']
    omega
  rw [this]
/-- a list of bytes, read cell by cell, as a flat one -/
theorem bytes_flat {w : World} {A : Option Addr} {bs : List UInt8} (h : Sl RByte 1 w A bs) : ByF A bs w := by
  obtain ⟨cs, h1, h2⟩ := h.cells
  have : cs = bs.map byV := by
    clear h2 h
    induction h1 with
    | nil => rfl
    | cons h _ _ ih => rw [List.map_cons, ← ih]; rw [h]; rfl
  rw [this] at h2
  exact h2
section
variable {H : Type} {enc : TypeId × Value → H} {W : World} {sp : Nat → Bool} {hd : Bool}
theorem el_u8 (n : Nat) (cs : List Value) (y) (h : DataW.trod enc Tryz.prog W 0 sp hd n 5 cs = some y) (hl : cs.length = 1) : ∃ a, RByte W cs a := by
  obtain ⟨s, rfl, _, h2⟩ := DataW.trod_int Tryz.underlying5 h
  simp [Lit.wf, IntKind.min, IntKind.max, IntKind.signed, IntKind.bits] at h2
  exact ⟨_, by rw [RByte, ← by_of (n := s) (by omega) (by omega)]⟩
set_option maxRecDepth 40000 in
theorem el_pod (n : Nat) (cs : List Value) (y) (h : DataW.trod enc Tryz.prog W 0 sp hd n 66 cs = some y) (hl : cs.length = 16) : ∃ x q, cs = podC x q ∧ PodOk W x q := by
  obtain ⟨xs, k, _, _, _, hxl, hf⟩ := DataW.trod_struct Tryz.underlying66 h
  match cs, hl with
  | [v0, v1, v2, v3, v4, v5, v6, v7, v8, v9, v10, v11, v12, v13, v14, v15], _ =>
    have g0 := hf 0 _ rfl
    have g1 := hf 1 _ rfl
    have g2 := hf 2 _ rfl
    have g3 := hf 3 _ rfl
    have g4 := hf 4 _ rfl
    have g5 := hf 5 _ rfl
    have g6 := hf 6 _ rfl
    have g7 := hf 7 _ rfl
    have g8 := hf 8 _ rfl
    have g9 := hf 9 _ rfl
    have g10 := hf 10 _ rfl
    have g11 := hf 11 _ rfl
    have g12 := hf 12 _ rfl
    have g13 := hf 13 _ rfl
    simp [cells_string, cells_int, cells_int64, cells_res, cells_ints, cells_pairs, cells_terms, cells_tolers, cells_taints] at g0 g1 g2 g3 g4 g5 g6 g7 g8 g9 g10 g11 g12 g13
    match xs, hxl with
    | [y0, y1, y2, y3, y4, y5, y6, y7, y8, y9, y10, y11, y12, y13], _ =>
      simp at g0 g1 g2 g3 g4 g5 g6 g7 g8 g9 g10 g11 g12 g13
      obtain ⟨s0, e0, _, b0⟩ := DataW.trod_string Tryz.underlying9 g0
      injection e0 with e0
      obtain ⟨s1, e1, _, b1⟩ := DataW.trod_int Tryz.underlying2 g1
      injection e1 with e1
      obtain ⟨s2, e2, _, b2⟩ := DataW.trod_int Tryz.underlying3 g2
      injection e2 with e2
      obtain ⟨s3, e3, b3⟩ := el_res _ _ _ g3 rfl
      injection e3 with e3 f3
      injection f3 with f3 h3
      injection h3 with h3
      obtain ⟨A4, c4, s4, e4, l4, m4, b4⟩ := open_sl (R := RInt) (size := 1) Tryz.underlying64 cells_int (by omega) g4 el_int
      injection e4 with e4
      obtain ⟨A5, c5, s5, e5, l5, m5, b5⟩ := open_sl (R := RPair) (size := 2) Tryz.underlying22 cells_pair (by omega) g5 el_pair
      injection e5 with e5
      obtain ⟨A6, c6, s6, e6, l6, m6, b6⟩ := open_sl (R := RTerm) (size := 3) Tryz.underlying23 cells_term (by omega) g6 el_term
      injection e6 with e6
      obtain ⟨A7, c7, s7, e7, l7, m7, b7⟩ := open_sl (R := RTol) (size := 3) Tryz.underlying46 cells_toler (by omega) g7 el_toler
      injection e7 with e7
      obtain ⟨s8, e8, _, b8⟩ := DataW.trod_string Tryz.underlying9 g8
      injection e8 with e8
      obtain ⟨A9, c9, s9, e9, l9, m9, b9⟩ := open_sl (R := RTerm) (size := 3) Tryz.underlying23 cells_term (by omega) g9 el_term
      injection e9 with e9
      obtain ⟨s10, e10, _, b10⟩ := DataW.trod_int Tryz.underlying3 g10
      injection e10 with e10
      obtain ⟨A11, c11, s11, e11, l11, m11, b11⟩ := open_sl (R := RTerm) (size := 3) Tryz.underlying23 cells_term (by omega) g11 el_term
      injection e11 with e11
      obtain ⟨s12, e12, _, b12⟩ := DataW.trod_string Tryz.underlying9 g12
      injection e12 with e12
      obtain ⟨s13, e13, _, b13⟩ := DataW.trod_int Tryz.underlying2 g13
      injection e13 with e13
      subst_vars
      exact ⟨⟨s0, s1, s2, s3, s4, s5, s6, s7, s8, s9, s10, s11, s12, s13⟩, ⟨A4, c4, A5, c5, A6, c6, A7, c7, A9, c9, A11, c11⟩, rfl,
        ⟨b0, bounds_i64 b1, bounds_i64 b2, b3, b4, b5, b6, b7, b8, b9, bounds_i64 b10, b11, b12, bounds_i64 b13, l4, m4, l5, m5, l6, m6, l7, m7, l9, m9, l11, m11⟩⟩
set_option maxRecDepth 40000 in
theorem el_node (n : Nat) (cs : List Value) (y) (h : DataW.trod enc Tryz.prog W 0 sp hd n 68 cs = some y) (hl : cs.length = 6) : ∃ x q, cs = nodeC x q ∧ NodeOk W x q := by
  obtain ⟨xs, k, _, _, _, hxl, hf⟩ := DataW.trod_struct Tryz.underlying68 h
  match cs, hl with
  | [v0, v1, v2, v3, v4, v5], _ =>
    have g0 := hf 0 _ rfl
    have g1 := hf 1 _ rfl
    have g2 := hf 2 _ rfl
    have g3 := hf 3 _ rfl
    simp [cells_string, cells_int, cells_int64, cells_res, cells_ints, cells_pairs, cells_terms, cells_tolers, cells_taints] at g0 g1 g2 g3
    match xs, hxl with
    | [y0, y1, y2, y3], _ =>
      simp at g0 g1 g2 g3
      obtain ⟨s0, e0, _, b0⟩ := DataW.trod_string Tryz.underlying9 g0
      injection e0 with e0
      obtain ⟨s1, e1, b1⟩ := el_res _ _ _ g1 rfl
      injection e1 with e1 f1
      injection f1 with f1 h1
      injection h1 with h1
      obtain ⟨A2, c2, s2, e2, l2, m2, b2⟩ := open_sl (R := RPair) (size := 2) Tryz.underlying22 cells_pair (by omega) g2 el_pair
      injection e2 with e2
      obtain ⟨A3, c3, s3, e3, l3, m3, b3⟩ := open_sl (R := RPair) (size := 2) Tryz.underlying45 cells_taint (by omega) g3 el_taint
      injection e3 with e3
      subst_vars
      exact ⟨⟨s0, s1, s2, s3⟩, ⟨A2, c2, A3, c3⟩, rfl, ⟨b0, b1, b2, b3, l2, m2, l3, m3⟩⟩
end
end Go.Proofs.YthfafenigjldlaaGreat
