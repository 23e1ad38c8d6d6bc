/-
  'interrexlaw1.LabelTerms': the walk.
-/
import Derived.Test.YthfafenigjldlaaGreatLAll
import Derived.Laws.BytesArg
import Derived.Deep.RegionHeld3
namespace Go.Proofs.YthfafenigjldlaaGreat
open Go.RowKit
set_option linter.unusedVariables false

def valAt (i : Nat) : ByteArray := ⟨#[UInt8.ofNat (97 + i)]⟩
def valsK (k : Nat) : List ByteArray := (List.range k).map valAt
def zoneS : ByteArray := ⟨#[122, 111, 110, 101]⟩
theorem valsK_succ (k : Nat) : valsK (k + 1) = valsK k ++ [valAt k] := by simp [valsK, List.range_succ]
theorem valsK_len (k : Nat) : (valsK k).length = k := by simp [valsK]
theorem valAt_name : ∀ i, i < 9 → nameB (valAt i) = true := by decide +kernel
theorem zone_name : nameB zoneS = true := by decide +kernel
theorem valAt_ok (i : Nat) : okS (valAt i) := by show 1 ≤ maxLen; unfold maxLen; omega
theorem zone_ok : okS zoneS := by show 4 ≤ maxLen; unfold maxLen; omega
theorem vals_any (m : Nat) (h : m ≤ 8) : (valsK m).any (fun s => !nameB s) = false := by
  rw [List.any_eq_false]
  intro s hs
  simp only [valsK, List.mem_map, List.mem_range] at hs
  obtain ⟨i, hi, rfl⟩ := hs
  simp [valAt_name i (by omega)]
def wantB (k : Int) (m : Nat) : Bool := if k = 1 ∨ k = 2 then decide (1 ≤ m) && decide (m ≤ 6) else if k = 3 ∨ k = 4 then decide (m ≤ 0) else false
theorem lt_want (k : Int) (m : Nat) (h : m ≤ 8) : mayTermsB [⟨zoneS, k, valsK m⟩] = wantB k m := by
  simp only [mayTermsB, List.length_singleton, List.any_cons, List.any_nil, Bool.or_false, Bool.not_not]
  unfold mayTermB wantB
  simp only [zone_name, vals_any m h, valsK_len]
  split <;> simp
theorem strOf_val (k : Nat) : strOfNums [((97 : Int) + (k : Int))] = valAt k := by
  unfold strOfNums valAt
  have e : ((97 : Int) + (k : Int)).toNat = 97 + k := by omega
  simp [e]
theorem cop_nil (w : World) (T : TypeId) (size : Nat) : Cop w w T size none 0 0 [] := ⟨Ext.refl _, _, Nat.le_refl _, Nat.le_refl _, nil_own w w.heap.size T size⟩
theorem cells_str (w : World) (xs : List ByteArray) (h : ∀ x ∈ xs, okS x) : Cells RStr 1 w xs (xs.map Value.string) := by
  induction xs with
  | nil => exact .nil
  | cons x r ih => exact Cells.cons (cs := [.string x]) (show RStr w [.string x] x from ⟨rfl, h x (by simp)⟩) rfl (ih fun y hy => h y (by simp [hy]))
theorem may_none : mayTermsB [] = true := rfl
theorem may_bare : mayTermsB [⟨⟨#[]⟩, 3, []⟩] = false := by decide +kernel

theorem tmod_bd9 (a : Int) : -9 < a.tmod 9 ∧ a.tmod 9 < 9 := by
  have h1 := Int.tmod_lt_of_pos a (show (0 : Int) < 9 by omega)
  have h2 := Int.tmod_lt_of_pos (-a) (show (0 : Int) < 9 by omega)
  rw [Int.neg_tmod] at h2
  omega

set_option maxRecDepth 20000 in
set_option maxHeartbeats 16000000 in
theorem labelTerms_any (HBA : Hid (∀ w : World, Calls Tryz.prog 17 #[] w fun e w' => e = .returned (.bool true) ∧ Ext w w')) (t : Tm) (A0 : Option Addr) (c0 : Nat) (n : Int) (w : World)
    (h1 : okS t.key) (h2 : inI t.kind) (h3 : t.vals.length ≤ c0) (h4 : c0 ≤ maxLen) (h5 : Sl RStr 1 w A0 t.vals) (hn : inI n) :
    Calls Tryz.prog 6 #[.agg #[.string t.key, .int .i64 t.kind, .slice A0 t.vals.length c0], .int .i64 n] w fun e w' => e = .returned (.bool true) ∧ Ext w w' := by
  obtain ⟨j0, hj0, hy0, hy1, hy2⟩ := info_parts string_info
  obtain ⟨x, hx⟩ : ∃ x, n.tmod 9 = x := ⟨_, rfl⟩
  have bx := tmod_bd9 n
  rw [hx] at bx
  obtain ⟨bx1, bx2⟩ := bx
  obtain ⟨m, hr⟩ : ∃ m : Nat, (x + 9) % 9 = (m : Int) := ⟨((x + 9) % 9).toNat, by omega⟩
  have hm8 : m ≤ 8 := by omega
  have hv0 : t.vals.length ≤ 9223372036854775807 := by unfold maxLen at h4; omega
  obtain ⟨W1, hW1⟩ : ∃ W, w.alloc (.cells #[.string t.key, .int .i64 t.kind, .slice A0 t.vals.length c0] 41) = W := ⟨_, rfl⟩
  obtain ⟨q1, hq1⟩ : ∃ q, w.heap.size = q := ⟨_, rfl⟩
  have BT := WB.new w 41 #[.string t.key, .int .i64 t.kind, .slice A0 t.vals.length c0]
  rw [hW1, hq1] at BT
  have X1 : Hid (Ext w W1) := by rw [← hW1]; exact (Ext.refl _).alloc _
  have HBT := Lib.hid BT
  have SLT : Hid (∀ wx bb, Ext W1 wx → WB wx bb 41 #[.string t.key, .int .i64 t.kind, .slice A0 t.vals.length c0] → Sl RTerm 3 wx (some ⟨bb, 0, none⟩) [t]) := fun wx bb e h =>
    sl_term1 wx bb t.key t.kind t.vals A0 c0 h1 h2 h3 h4 (h5.ext RStr.keeps (X1.out.trans e)) h
  obtain ⟨v, hv⟩ : ∃ v, v = mayTermsB [t] := ⟨_, rfl⟩
  have VT : Hid (mayTermsB [t] = v) := hv.symm
  have OM : Hid ((1 : Nat) ≤ maxLen) := by show _ ≤ _; unfold maxLen; omega
  have OZ : Hid ((0 : Nat) ≤ maxLen) := Nat.zero_le _
  clear BT h1 h2 h3 h4 h5 hv hn
  go_enter Tryz.func6, Tryz.ntmps6
  go_wp2_with fail
  refine (HBA.out _).mono ?_
  rintro e w2 ⟨rfl, e2⟩
  have E2 := Lib.hid e2
  clear e2
  go_wp2_with fail
  simp only [hr]
  clear hx hr
  go_loopw [6, 7] (fun s i wr => ∃ (k : Nat) (A : Option Addr) (c : Nat), k ≤ m ∧ i = .int .i64 k ∧ s = .slice A k c ∧ Cop w2 wr 9 1 A k c ((valsK k).map Value.string)) (fun _ i _ => m - (intOf i).toNat)
  case atStart => exact ⟨0, none, 0, by omega, rfl, rfl, cop_nil w2 _ _⟩
  obtain ⟨k, A, c, hk, rfl, rfl, hcop⟩ := hrel
  have HC := Lib.hid hcop
  clear hcop
  by_cases hlt : k < m
  · have su8 : IntKind.u8.wrap (97 + (k : Int)) = 97 + (k : Int) := by rw [IntKind.wrap_u8]; omega
    obtain ⟨W3, hW3⟩ : ∃ W, wr.alloc (.cells #[.int .u8 (97 + (k : Int))] 5) = W := ⟨_, rfl⟩
    obtain ⟨q3, hq3⟩ : ∃ q, wr.heap.size = q := ⟨_, rfl⟩
    have B3 := WB.new wr 5 #[.int .u8 (97 + (k : Int))]
    rw [hW3, hq3] at B3
    have hconv := run_convert_bytes_arg (P := Tryz.prog) W3 42 5 Tryz.underlying42 Tryz.underlying5 q3 0 1 1 [97 + (k : Int)] rfl (fun i hi => by
      obtain rfl : i = 0 := by omega
      exact B3.cell (i := 0) rfl) 9 Tryz.underlying9
    rw [strOf_val] at hconv
    have HC3 : Hid (∀ o, Cop w2 (W3.alloc o) 9 1 A k c ((valsK k).map Value.string)) := fun o => (HC.out.more (by rw [← hW3]; exact (Ext.refl _).alloc _)).more ((Ext.refl _).alloc _)
    have FN : Hid (Flat (W3.alloc (.cells #[.string (valAt k)] 9)) 1 (some ⟨W3.heap.size, 0, none⟩) 1 [.string (valAt k)]) := flat_new W3 9 1 1 #[_] rfl
    have HS : Hid ((valsK (k + 1)).map Value.string = (valsK k).map Value.string ++ [.string (valAt k)]) := by show _ = _; rw [valsK_succ]; simp
    have hk8 : k ≤ 8 := by omega
    clear B3 HC
    go_wp2_with (first
      | (at_builtin
         refine wpList_more _ rfl (.tmp 23) (.tmp 29) 39 rfl 9 j0 _ 1 16 Tryz.underlying39 hj0 hy0 hy1 hy2 rfl (by decide) A k c _ rfl w2 (HC3.out _) _ 1 1 _ rfl FN.out (by simp [Value.oneCell']) (by unfold maxLen; omega) (by omega) ?_
         intro A4 c4 w4 q4
         have Q4 := Lib.hid q4
         clear q4))
    go_roundw
    case rel => exact ⟨k + 1, A4, c4, by omega, by go_num, rfl, by rw [HS.out]; exact Q4.out⟩
    case measure => simp [intOf]; omega
  obtain rfl : k = m := by omega
  have SV : Hid (∀ wx, Ext wr wx → Sl RStr 1 wx A (valsK k)) := fun wx e => (HC.out.more e).sl (valsK_len k) (cells_str wx _ (by intro s hs; simp only [valsK, List.mem_map] at hs; obtain ⟨i, _, rfl⟩ := hs; exact valAt_ok i))
  have KC : Hid (k ≤ c ∧ c ≤ maxLen) := HC.out.cap.2
  have E3 : Hid (Ext W1 wr) := E2.out.trans HC.out.ext
  clear HC
  obtain ⟨W5, hW5⟩ : ∃ W, W = wr := ⟨_, rfl⟩
  rw [← hW5] at SV E3 ⊢
  clear hW5
  go_wp2_with fail
  go_loopw [8] (fun i wr => ∃ j : Nat, j ≤ 6 ∧ i = .int .i64 j ∧ Ext W5 wr) (fun i _ => 6 - (intOf i).toNat)
  case atStart => exact ⟨0, by omega, rfl, Ext.refl _⟩
  obtain ⟨j, hj, rfl, he⟩ := hrel
  have HE := Lib.hid he
  clear he
  rcases (show j = 0 ∨ j = 1 ∨ j = 2 ∨ j = 3 ∨ j = 4 ∨ j = 5 ∨ j = 6 by omega) with rfl | rfl | rfl | rfl | rfl | rfl | rfl
  · rcases (show k = 0 ∨ (1 ≤ k ∧ k ≤ 6) ∨ 6 < k by omega) with hm | ⟨hm, hm'⟩ | hm
    · have V : Hid (mayTermsB [⟨zoneS, 0, valsK k⟩] = false) := by show _ = _; rw [lt_want _ _ hm8]; simp [wantB]
      have i0 : (k : Int) ≤ 0 := by omega
      have i1 : ((k : Int) == 0) = true := by simp; omega
      have B6 := WB.new wr 41 #[.string ⟨#[122, 111, 110, 101]⟩, .int .i64 0, .slice A k c]
      obtain ⟨W6, hW6⟩ : ∃ W, wr.alloc (.cells #[.string ⟨#[122, 111, 110, 101]⟩, .int .i64 0, .slice A k c] 41) = W := ⟨_, rfl⟩
      obtain ⟨q6, hq6⟩ : ∃ q, wr.heap.size = q := ⟨_, rfl⟩
      rw [hW6, hq6] at B6
      have X6 : Hid (∀ o, Ext W5 (W6.alloc o)) := fun o => by rw [← hW6]; exact (HE.out.alloc _).alloc _
      have p0 := B6.cell (i := 0) rfl
      have p1 := B6.cell (i := 1) rfl
      have p2 := B6.cell (i := 2) rfl
      clear B6 hm
      go_wp2_with fail
      refine (mayTerms_len (some ⟨W6.heap.size, 0, none⟩) 1 [⟨zoneS, 0, valsK k⟩] 1 _ rfl OM.out (sl_term2 _ _ zoneS 0 (valsK k) A c k (valsK_len k) zone_ok ⟨by omega, by omega⟩ KC.out.1 KC.out.2 (SV.out _ (X6.out _)) (WB.new W6 _ _))).mono ?_
      rintro e w7 ⟨rfl, e7⟩
      rw [V.out]
      have E7 := Lib.hid ((X6.out _).trans e7)
      clear e7
      go_wp2_with fail
      go_roundw
      case rel => exact ⟨1, by omega, by go_num, E7.out⟩
      case measure => simp [intOf]
    · have V : Hid (mayTermsB [⟨zoneS, 0, valsK k⟩] = false) := by show _ = _; rw [lt_want _ _ hm8]; simp [wantB]
      have i0 : (1 : Int) ≤ (k : Int) := by omega
      have i1 : (k : Int) ≤ 6 := by omega
      have i2 : ((k : Int) == 0) = false := by simp; omega
      have B6 := WB.new wr 41 #[.string ⟨#[122, 111, 110, 101]⟩, .int .i64 0, .slice A k c]
      obtain ⟨W6, hW6⟩ : ∃ W, wr.alloc (.cells #[.string ⟨#[122, 111, 110, 101]⟩, .int .i64 0, .slice A k c] 41) = W := ⟨_, rfl⟩
      obtain ⟨q6, hq6⟩ : ∃ q, wr.heap.size = q := ⟨_, rfl⟩
      rw [hW6, hq6] at B6
      have X6 : Hid (∀ o, Ext W5 (W6.alloc o)) := fun o => by rw [← hW6]; exact (HE.out.alloc _).alloc _
      have p0 := B6.cell (i := 0) rfl
      have p1 := B6.cell (i := 1) rfl
      have p2 := B6.cell (i := 2) rfl
      clear B6 hm
      go_wp2_with fail
      refine (mayTerms_len (some ⟨W6.heap.size, 0, none⟩) 1 [⟨zoneS, 0, valsK k⟩] 1 _ rfl OM.out (sl_term2 _ _ zoneS 0 (valsK k) A c k (valsK_len k) zone_ok ⟨by omega, by omega⟩ KC.out.1 KC.out.2 (SV.out _ (X6.out _)) (WB.new W6 _ _))).mono ?_
      rintro e w7 ⟨rfl, e7⟩
      rw [V.out]
      have E7 := Lib.hid ((X6.out _).trans e7)
      clear e7
      go_wp2_with fail
      go_roundw
      case rel => exact ⟨1, by omega, by go_num, E7.out⟩
      case measure => simp [intOf]
    · have V : Hid (mayTermsB [⟨zoneS, 0, valsK k⟩] = false) := by show _ = _; rw [lt_want _ _ hm8]; simp [wantB]
      have i0 : (6 : Int) < (k : Int) := by omega
      have i2 : ((k : Int) == 0) = false := by simp; omega
      have B6 := WB.new wr 41 #[.string ⟨#[122, 111, 110, 101]⟩, .int .i64 0, .slice A k c]
      obtain ⟨W6, hW6⟩ : ∃ W, wr.alloc (.cells #[.string ⟨#[122, 111, 110, 101]⟩, .int .i64 0, .slice A k c] 41) = W := ⟨_, rfl⟩
      obtain ⟨q6, hq6⟩ : ∃ q, wr.heap.size = q := ⟨_, rfl⟩
      rw [hW6, hq6] at B6
      have X6 : Hid (∀ o, Ext W5 (W6.alloc o)) := fun o => by rw [← hW6]; exact (HE.out.alloc _).alloc _
      have p0 := B6.cell (i := 0) rfl
      have p1 := B6.cell (i := 1) rfl
      have p2 := B6.cell (i := 2) rfl
      clear B6 hm
      go_wp2_with fail
      refine (mayTerms_len (some ⟨W6.heap.size, 0, none⟩) 1 [⟨zoneS, 0, valsK k⟩] 1 _ rfl OM.out (sl_term2 _ _ zoneS 0 (valsK k) A c k (valsK_len k) zone_ok ⟨by omega, by omega⟩ KC.out.1 KC.out.2 (SV.out _ (X6.out _)) (WB.new W6 _ _))).mono ?_
      rintro e w7 ⟨rfl, e7⟩
      rw [V.out]
      have E7 := Lib.hid ((X6.out _).trans e7)
      clear e7
      go_wp2_with fail
      go_roundw
      case rel => exact ⟨1, by omega, by go_num, E7.out⟩
      case measure => simp [intOf]
  · rcases (show k = 0 ∨ (1 ≤ k ∧ k ≤ 6) ∨ 6 < k by omega) with hm | ⟨hm, hm'⟩ | hm
    · have V : Hid (mayTermsB [⟨zoneS, 1, valsK k⟩] = false) := by show _ = _; rw [lt_want _ _ hm8]; simp [wantB]; omega
      have i0 : (k : Int) ≤ 0 := by omega
      have i1 : ((k : Int) == 0) = true := by simp; omega
      have B6 := WB.new wr 41 #[.string ⟨#[122, 111, 110, 101]⟩, .int .i64 1, .slice A k c]
      obtain ⟨W6, hW6⟩ : ∃ W, wr.alloc (.cells #[.string ⟨#[122, 111, 110, 101]⟩, .int .i64 1, .slice A k c] 41) = W := ⟨_, rfl⟩
      obtain ⟨q6, hq6⟩ : ∃ q, wr.heap.size = q := ⟨_, rfl⟩
      rw [hW6, hq6] at B6
      have X6 : Hid (∀ o, Ext W5 (W6.alloc o)) := fun o => by rw [← hW6]; exact (HE.out.alloc _).alloc _
      have p0 := B6.cell (i := 0) rfl
      have p1 := B6.cell (i := 1) rfl
      have p2 := B6.cell (i := 2) rfl
      clear B6 hm
      go_wp2_with fail
      refine (mayTerms_len (some ⟨W6.heap.size, 0, none⟩) 1 [⟨zoneS, 1, valsK k⟩] 1 _ rfl OM.out (sl_term2 _ _ zoneS 1 (valsK k) A c k (valsK_len k) zone_ok ⟨by omega, by omega⟩ KC.out.1 KC.out.2 (SV.out _ (X6.out _)) (WB.new W6 _ _))).mono ?_
      rintro e w7 ⟨rfl, e7⟩
      rw [V.out]
      have E7 := Lib.hid ((X6.out _).trans e7)
      clear e7
      go_wp2_with fail
      go_roundw
      case rel => exact ⟨2, by omega, by go_num, E7.out⟩
      case measure => simp [intOf]
    · have V : Hid (mayTermsB [⟨zoneS, 1, valsK k⟩] = true) := by show _ = _; rw [lt_want _ _ hm8]; simp [wantB]; omega
      have i0 : (1 : Int) ≤ (k : Int) := by omega
      have i1 : (k : Int) ≤ 6 := by omega
      have i2 : ((k : Int) == 0) = false := by simp; omega
      have B6 := WB.new wr 41 #[.string ⟨#[122, 111, 110, 101]⟩, .int .i64 1, .slice A k c]
      obtain ⟨W6, hW6⟩ : ∃ W, wr.alloc (.cells #[.string ⟨#[122, 111, 110, 101]⟩, .int .i64 1, .slice A k c] 41) = W := ⟨_, rfl⟩
      obtain ⟨q6, hq6⟩ : ∃ q, wr.heap.size = q := ⟨_, rfl⟩
      rw [hW6, hq6] at B6
      have X6 : Hid (∀ o, Ext W5 (W6.alloc o)) := fun o => by rw [← hW6]; exact (HE.out.alloc _).alloc _
      have p0 := B6.cell (i := 0) rfl
      have p1 := B6.cell (i := 1) rfl
      have p2 := B6.cell (i := 2) rfl
      clear B6 hm
      go_wp2_with fail
      refine (mayTerms_len (some ⟨W6.heap.size, 0, none⟩) 1 [⟨zoneS, 1, valsK k⟩] 1 _ rfl OM.out (sl_term2 _ _ zoneS 1 (valsK k) A c k (valsK_len k) zone_ok ⟨by omega, by omega⟩ KC.out.1 KC.out.2 (SV.out _ (X6.out _)) (WB.new W6 _ _))).mono ?_
      rintro e w7 ⟨rfl, e7⟩
      rw [V.out]
      have E7 := Lib.hid ((X6.out _).trans e7)
      clear e7
      go_wp2_with fail
      go_roundw
      case rel => exact ⟨2, by omega, by go_num, E7.out⟩
      case measure => simp [intOf]
    · have V : Hid (mayTermsB [⟨zoneS, 1, valsK k⟩] = false) := by show _ = _; rw [lt_want _ _ hm8]; simp [wantB]; omega
      have i0 : (6 : Int) < (k : Int) := by omega
      have i2 : ((k : Int) == 0) = false := by simp; omega
      have B6 := WB.new wr 41 #[.string ⟨#[122, 111, 110, 101]⟩, .int .i64 1, .slice A k c]
      obtain ⟨W6, hW6⟩ : ∃ W, wr.alloc (.cells #[.string ⟨#[122, 111, 110, 101]⟩, .int .i64 1, .slice A k c] 41) = W := ⟨_, rfl⟩
      obtain ⟨q6, hq6⟩ : ∃ q, wr.heap.size = q := ⟨_, rfl⟩
      rw [hW6, hq6] at B6
      have X6 : Hid (∀ o, Ext W5 (W6.alloc o)) := fun o => by rw [← hW6]; exact (HE.out.alloc _).alloc _
      have p0 := B6.cell (i := 0) rfl
      have p1 := B6.cell (i := 1) rfl
      have p2 := B6.cell (i := 2) rfl
      clear B6 hm
      go_wp2_with fail
      refine (mayTerms_len (some ⟨W6.heap.size, 0, none⟩) 1 [⟨zoneS, 1, valsK k⟩] 1 _ rfl OM.out (sl_term2 _ _ zoneS 1 (valsK k) A c k (valsK_len k) zone_ok ⟨by omega, by omega⟩ KC.out.1 KC.out.2 (SV.out _ (X6.out _)) (WB.new W6 _ _))).mono ?_
      rintro e w7 ⟨rfl, e7⟩
      rw [V.out]
      have E7 := Lib.hid ((X6.out _).trans e7)
      clear e7
      go_wp2_with fail
      go_roundw
      case rel => exact ⟨2, by omega, by go_num, E7.out⟩
      case measure => simp [intOf]
  · rcases (show k = 0 ∨ (1 ≤ k ∧ k ≤ 6) ∨ 6 < k by omega) with hm | ⟨hm, hm'⟩ | hm
    · have V : Hid (mayTermsB [⟨zoneS, 2, valsK k⟩] = false) := by show _ = _; rw [lt_want _ _ hm8]; simp [wantB]; omega
      have i0 : (k : Int) ≤ 0 := by omega
      have i1 : ((k : Int) == 0) = true := by simp; omega
      have B6 := WB.new wr 41 #[.string ⟨#[122, 111, 110, 101]⟩, .int .i64 2, .slice A k c]
      obtain ⟨W6, hW6⟩ : ∃ W, wr.alloc (.cells #[.string ⟨#[122, 111, 110, 101]⟩, .int .i64 2, .slice A k c] 41) = W := ⟨_, rfl⟩
      obtain ⟨q6, hq6⟩ : ∃ q, wr.heap.size = q := ⟨_, rfl⟩
      rw [hW6, hq6] at B6
      have X6 : Hid (∀ o, Ext W5 (W6.alloc o)) := fun o => by rw [← hW6]; exact (HE.out.alloc _).alloc _
      have p0 := B6.cell (i := 0) rfl
      have p1 := B6.cell (i := 1) rfl
      have p2 := B6.cell (i := 2) rfl
      clear B6 hm
      go_wp2_with fail
      refine (mayTerms_len (some ⟨W6.heap.size, 0, none⟩) 1 [⟨zoneS, 2, valsK k⟩] 1 _ rfl OM.out (sl_term2 _ _ zoneS 2 (valsK k) A c k (valsK_len k) zone_ok ⟨by omega, by omega⟩ KC.out.1 KC.out.2 (SV.out _ (X6.out _)) (WB.new W6 _ _))).mono ?_
      rintro e w7 ⟨rfl, e7⟩
      rw [V.out]
      have E7 := Lib.hid ((X6.out _).trans e7)
      clear e7
      go_wp2_with fail
      go_roundw
      case rel => exact ⟨3, by omega, by go_num, E7.out⟩
      case measure => simp [intOf]
    · have V : Hid (mayTermsB [⟨zoneS, 2, valsK k⟩] = true) := by show _ = _; rw [lt_want _ _ hm8]; simp [wantB]; omega
      have i0 : (1 : Int) ≤ (k : Int) := by omega
      have i1 : (k : Int) ≤ 6 := by omega
      have i2 : ((k : Int) == 0) = false := by simp; omega
      have B6 := WB.new wr 41 #[.string ⟨#[122, 111, 110, 101]⟩, .int .i64 2, .slice A k c]
      obtain ⟨W6, hW6⟩ : ∃ W, wr.alloc (.cells #[.string ⟨#[122, 111, 110, 101]⟩, .int .i64 2, .slice A k c] 41) = W := ⟨_, rfl⟩
      obtain ⟨q6, hq6⟩ : ∃ q, wr.heap.size = q := ⟨_, rfl⟩
      rw [hW6, hq6] at B6
      have X6 : Hid (∀ o, Ext W5 (W6.alloc o)) := fun o => by rw [← hW6]; exact (HE.out.alloc _).alloc _
      have p0 := B6.cell (i := 0) rfl
      have p1 := B6.cell (i := 1) rfl
      have p2 := B6.cell (i := 2) rfl
      clear B6 hm
      go_wp2_with fail
      refine (mayTerms_len (some ⟨W6.heap.size, 0, none⟩) 1 [⟨zoneS, 2, valsK k⟩] 1 _ rfl OM.out (sl_term2 _ _ zoneS 2 (valsK k) A c k (valsK_len k) zone_ok ⟨by omega, by omega⟩ KC.out.1 KC.out.2 (SV.out _ (X6.out _)) (WB.new W6 _ _))).mono ?_
      rintro e w7 ⟨rfl, e7⟩
      rw [V.out]
      have E7 := Lib.hid ((X6.out _).trans e7)
      clear e7
      go_wp2_with fail
      go_roundw
      case rel => exact ⟨3, by omega, by go_num, E7.out⟩
      case measure => simp [intOf]
    · have V : Hid (mayTermsB [⟨zoneS, 2, valsK k⟩] = false) := by show _ = _; rw [lt_want _ _ hm8]; simp [wantB]; omega
      have i0 : (6 : Int) < (k : Int) := by omega
      have i2 : ((k : Int) == 0) = false := by simp; omega
      have B6 := WB.new wr 41 #[.string ⟨#[122, 111, 110, 101]⟩, .int .i64 2, .slice A k c]
      obtain ⟨W6, hW6⟩ : ∃ W, wr.alloc (.cells #[.string ⟨#[122, 111, 110, 101]⟩, .int .i64 2, .slice A k c] 41) = W := ⟨_, rfl⟩
      obtain ⟨q6, hq6⟩ : ∃ q, wr.heap.size = q := ⟨_, rfl⟩
      rw [hW6, hq6] at B6
      have X6 : Hid (∀ o, Ext W5 (W6.alloc o)) := fun o => by rw [← hW6]; exact (HE.out.alloc _).alloc _
      have p0 := B6.cell (i := 0) rfl
      have p1 := B6.cell (i := 1) rfl
      have p2 := B6.cell (i := 2) rfl
      clear B6 hm
      go_wp2_with fail
      refine (mayTerms_len (some ⟨W6.heap.size, 0, none⟩) 1 [⟨zoneS, 2, valsK k⟩] 1 _ rfl OM.out (sl_term2 _ _ zoneS 2 (valsK k) A c k (valsK_len k) zone_ok ⟨by omega, by omega⟩ KC.out.1 KC.out.2 (SV.out _ (X6.out _)) (WB.new W6 _ _))).mono ?_
      rintro e w7 ⟨rfl, e7⟩
      rw [V.out]
      have E7 := Lib.hid ((X6.out _).trans e7)
      clear e7
      go_wp2_with fail
      go_roundw
      case rel => exact ⟨3, by omega, by go_num, E7.out⟩
      case measure => simp [intOf]
  · rcases (show k = 0 ∨ (1 ≤ k ∧ k ≤ 6) ∨ 6 < k by omega) with hm | ⟨hm, hm'⟩ | hm
    · have V : Hid (mayTermsB [⟨zoneS, 3, valsK k⟩] = true) := by show _ = _; rw [lt_want _ _ hm8]; simp [wantB]; omega
      have i0 : (k : Int) ≤ 0 := by omega
      have i1 : ((k : Int) == 0) = true := by simp; omega
      have B6 := WB.new wr 41 #[.string ⟨#[122, 111, 110, 101]⟩, .int .i64 3, .slice A k c]
      obtain ⟨W6, hW6⟩ : ∃ W, wr.alloc (.cells #[.string ⟨#[122, 111, 110, 101]⟩, .int .i64 3, .slice A k c] 41) = W := ⟨_, rfl⟩
      obtain ⟨q6, hq6⟩ : ∃ q, wr.heap.size = q := ⟨_, rfl⟩
      rw [hW6, hq6] at B6
      have X6 : Hid (∀ o, Ext W5 (W6.alloc o)) := fun o => by rw [← hW6]; exact (HE.out.alloc _).alloc _
      have p0 := B6.cell (i := 0) rfl
      have p1 := B6.cell (i := 1) rfl
      have p2 := B6.cell (i := 2) rfl
      clear B6 hm
      go_wp2_with fail
      refine (mayTerms_len (some ⟨W6.heap.size, 0, none⟩) 1 [⟨zoneS, 3, valsK k⟩] 1 _ rfl OM.out (sl_term2 _ _ zoneS 3 (valsK k) A c k (valsK_len k) zone_ok ⟨by omega, by omega⟩ KC.out.1 KC.out.2 (SV.out _ (X6.out _)) (WB.new W6 _ _))).mono ?_
      rintro e w7 ⟨rfl, e7⟩
      rw [V.out]
      have E7 := Lib.hid ((X6.out _).trans e7)
      clear e7
      go_wp2_with fail
      go_roundw
      case rel => exact ⟨4, by omega, by go_num, E7.out⟩
      case measure => simp [intOf]
    · have V : Hid (mayTermsB [⟨zoneS, 3, valsK k⟩] = false) := by show _ = _; rw [lt_want _ _ hm8]; simp [wantB]; omega
      have i0 : (1 : Int) ≤ (k : Int) := by omega
      have i1 : (k : Int) ≤ 6 := by omega
      have i2 : ((k : Int) == 0) = false := by simp; omega
      have B6 := WB.new wr 41 #[.string ⟨#[122, 111, 110, 101]⟩, .int .i64 3, .slice A k c]
      obtain ⟨W6, hW6⟩ : ∃ W, wr.alloc (.cells #[.string ⟨#[122, 111, 110, 101]⟩, .int .i64 3, .slice A k c] 41) = W := ⟨_, rfl⟩
      obtain ⟨q6, hq6⟩ : ∃ q, wr.heap.size = q := ⟨_, rfl⟩
      rw [hW6, hq6] at B6
      have X6 : Hid (∀ o, Ext W5 (W6.alloc o)) := fun o => by rw [← hW6]; exact (HE.out.alloc _).alloc _
      have p0 := B6.cell (i := 0) rfl
      have p1 := B6.cell (i := 1) rfl
      have p2 := B6.cell (i := 2) rfl
      clear B6 hm
      go_wp2_with fail
      refine (mayTerms_len (some ⟨W6.heap.size, 0, none⟩) 1 [⟨zoneS, 3, valsK k⟩] 1 _ rfl OM.out (sl_term2 _ _ zoneS 3 (valsK k) A c k (valsK_len k) zone_ok ⟨by omega, by omega⟩ KC.out.1 KC.out.2 (SV.out _ (X6.out _)) (WB.new W6 _ _))).mono ?_
      rintro e w7 ⟨rfl, e7⟩
      rw [V.out]
      have E7 := Lib.hid ((X6.out _).trans e7)
      clear e7
      go_wp2_with fail
      go_roundw
      case rel => exact ⟨4, by omega, by go_num, E7.out⟩
      case measure => simp [intOf]
    · have V : Hid (mayTermsB [⟨zoneS, 3, valsK k⟩] = false) := by show _ = _; rw [lt_want _ _ hm8]; simp [wantB]; omega
      have i0 : (6 : Int) < (k : Int) := by omega
      have i2 : ((k : Int) == 0) = false := by simp; omega
      have B6 := WB.new wr 41 #[.string ⟨#[122, 111, 110, 101]⟩, .int .i64 3, .slice A k c]
      obtain ⟨W6, hW6⟩ : ∃ W, wr.alloc (.cells #[.string ⟨#[122, 111, 110, 101]⟩, .int .i64 3, .slice A k c] 41) = W := ⟨_, rfl⟩
      obtain ⟨q6, hq6⟩ : ∃ q, wr.heap.size = q := ⟨_, rfl⟩
      rw [hW6, hq6] at B6
      have X6 : Hid (∀ o, Ext W5 (W6.alloc o)) := fun o => by rw [← hW6]; exact (HE.out.alloc _).alloc _
      have p0 := B6.cell (i := 0) rfl
      have p1 := B6.cell (i := 1) rfl
      have p2 := B6.cell (i := 2) rfl
      clear B6 hm
      go_wp2_with fail
      refine (mayTerms_len (some ⟨W6.heap.size, 0, none⟩) 1 [⟨zoneS, 3, valsK k⟩] 1 _ rfl OM.out (sl_term2 _ _ zoneS 3 (valsK k) A c k (valsK_len k) zone_ok ⟨by omega, by omega⟩ KC.out.1 KC.out.2 (SV.out _ (X6.out _)) (WB.new W6 _ _))).mono ?_
      rintro e w7 ⟨rfl, e7⟩
      rw [V.out]
      have E7 := Lib.hid ((X6.out _).trans e7)
      clear e7
      go_wp2_with fail
      go_roundw
      case rel => exact ⟨4, by omega, by go_num, E7.out⟩
      case measure => simp [intOf]
  · rcases (show k = 0 ∨ (1 ≤ k ∧ k ≤ 6) ∨ 6 < k by omega) with hm | ⟨hm, hm'⟩ | hm
    · have V : Hid (mayTermsB [⟨zoneS, 4, valsK k⟩] = true) := by show _ = _; rw [lt_want _ _ hm8]; simp [wantB]; omega
      have i0 : (k : Int) ≤ 0 := by omega
      have i1 : ((k : Int) == 0) = true := by simp; omega
      have B6 := WB.new wr 41 #[.string ⟨#[122, 111, 110, 101]⟩, .int .i64 4, .slice A k c]
      obtain ⟨W6, hW6⟩ : ∃ W, wr.alloc (.cells #[.string ⟨#[122, 111, 110, 101]⟩, .int .i64 4, .slice A k c] 41) = W := ⟨_, rfl⟩
      obtain ⟨q6, hq6⟩ : ∃ q, wr.heap.size = q := ⟨_, rfl⟩
      rw [hW6, hq6] at B6
      have X6 : Hid (∀ o, Ext W5 (W6.alloc o)) := fun o => by rw [← hW6]; exact (HE.out.alloc _).alloc _
      have p0 := B6.cell (i := 0) rfl
      have p1 := B6.cell (i := 1) rfl
      have p2 := B6.cell (i := 2) rfl
      clear B6 hm
      go_wp2_with fail
      refine (mayTerms_len (some ⟨W6.heap.size, 0, none⟩) 1 [⟨zoneS, 4, valsK k⟩] 1 _ rfl OM.out (sl_term2 _ _ zoneS 4 (valsK k) A c k (valsK_len k) zone_ok ⟨by omega, by omega⟩ KC.out.1 KC.out.2 (SV.out _ (X6.out _)) (WB.new W6 _ _))).mono ?_
      rintro e w7 ⟨rfl, e7⟩
      rw [V.out]
      have E7 := Lib.hid ((X6.out _).trans e7)
      clear e7
      go_wp2_with fail
      go_roundw
      case rel => exact ⟨5, by omega, by go_num, E7.out⟩
      case measure => simp [intOf]
    · have V : Hid (mayTermsB [⟨zoneS, 4, valsK k⟩] = false) := by show _ = _; rw [lt_want _ _ hm8]; simp [wantB]; omega
      have i0 : (1 : Int) ≤ (k : Int) := by omega
      have i1 : (k : Int) ≤ 6 := by omega
      have i2 : ((k : Int) == 0) = false := by simp; omega
      have B6 := WB.new wr 41 #[.string ⟨#[122, 111, 110, 101]⟩, .int .i64 4, .slice A k c]
      obtain ⟨W6, hW6⟩ : ∃ W, wr.alloc (.cells #[.string ⟨#[122, 111, 110, 101]⟩, .int .i64 4, .slice A k c] 41) = W := ⟨_, rfl⟩
      obtain ⟨q6, hq6⟩ : ∃ q, wr.heap.size = q := ⟨_, rfl⟩
      rw [hW6, hq6] at B6
      have X6 : Hid (∀ o, Ext W5 (W6.alloc o)) := fun o => by rw [← hW6]; exact (HE.out.alloc _).alloc _
      have p0 := B6.cell (i := 0) rfl
      have p1 := B6.cell (i := 1) rfl
      have p2 := B6.cell (i := 2) rfl
      clear B6 hm
      go_wp2_with fail
      refine (mayTerms_len (some ⟨W6.heap.size, 0, none⟩) 1 [⟨zoneS, 4, valsK k⟩] 1 _ rfl OM.out (sl_term2 _ _ zoneS 4 (valsK k) A c k (valsK_len k) zone_ok ⟨by omega, by omega⟩ KC.out.1 KC.out.2 (SV.out _ (X6.out _)) (WB.new W6 _ _))).mono ?_
      rintro e w7 ⟨rfl, e7⟩
      rw [V.out]
      have E7 := Lib.hid ((X6.out _).trans e7)
      clear e7
      go_wp2_with fail
      go_roundw
      case rel => exact ⟨5, by omega, by go_num, E7.out⟩
      case measure => simp [intOf]
    · have V : Hid (mayTermsB [⟨zoneS, 4, valsK k⟩] = false) := by show _ = _; rw [lt_want _ _ hm8]; simp [wantB]; omega
      have i0 : (6 : Int) < (k : Int) := by omega
      have i2 : ((k : Int) == 0) = false := by simp; omega
      have B6 := WB.new wr 41 #[.string ⟨#[122, 111, 110, 101]⟩, .int .i64 4, .slice A k c]
      obtain ⟨W6, hW6⟩ : ∃ W, wr.alloc (.cells #[.string ⟨#[122, 111, 110, 101]⟩, .int .i64 4, .slice A k c] 41) = W := ⟨_, rfl⟩
      obtain ⟨q6, hq6⟩ : ∃ q, wr.heap.size = q := ⟨_, rfl⟩
      rw [hW6, hq6] at B6
      have X6 : Hid (∀ o, Ext W5 (W6.alloc o)) := fun o => by rw [← hW6]; exact (HE.out.alloc _).alloc _
      have p0 := B6.cell (i := 0) rfl
      have p1 := B6.cell (i := 1) rfl
      have p2 := B6.cell (i := 2) rfl
      clear B6 hm
      go_wp2_with fail
      refine (mayTerms_len (some ⟨W6.heap.size, 0, none⟩) 1 [⟨zoneS, 4, valsK k⟩] 1 _ rfl OM.out (sl_term2 _ _ zoneS 4 (valsK k) A c k (valsK_len k) zone_ok ⟨by omega, by omega⟩ KC.out.1 KC.out.2 (SV.out _ (X6.out _)) (WB.new W6 _ _))).mono ?_
      rintro e w7 ⟨rfl, e7⟩
      rw [V.out]
      have E7 := Lib.hid ((X6.out _).trans e7)
      clear e7
      go_wp2_with fail
      go_roundw
      case rel => exact ⟨5, by omega, by go_num, E7.out⟩
      case measure => simp [intOf]
  · rcases (show k = 0 ∨ (1 ≤ k ∧ k ≤ 6) ∨ 6 < k by omega) with hm | ⟨hm, hm'⟩ | hm
    · have V : Hid (mayTermsB [⟨zoneS, 5, valsK k⟩] = false) := by show _ = _; rw [lt_want _ _ hm8]; simp [wantB]
      have i0 : (k : Int) ≤ 0 := by omega
      have i1 : ((k : Int) == 0) = true := by simp; omega
      have B6 := WB.new wr 41 #[.string ⟨#[122, 111, 110, 101]⟩, .int .i64 5, .slice A k c]
      obtain ⟨W6, hW6⟩ : ∃ W, wr.alloc (.cells #[.string ⟨#[122, 111, 110, 101]⟩, .int .i64 5, .slice A k c] 41) = W := ⟨_, rfl⟩
      obtain ⟨q6, hq6⟩ : ∃ q, wr.heap.size = q := ⟨_, rfl⟩
      rw [hW6, hq6] at B6
      have X6 : Hid (∀ o, Ext W5 (W6.alloc o)) := fun o => by rw [← hW6]; exact (HE.out.alloc _).alloc _
      have p0 := B6.cell (i := 0) rfl
      have p1 := B6.cell (i := 1) rfl
      have p2 := B6.cell (i := 2) rfl
      clear B6 hm
      go_wp2_with fail
      refine (mayTerms_len (some ⟨W6.heap.size, 0, none⟩) 1 [⟨zoneS, 5, valsK k⟩] 1 _ rfl OM.out (sl_term2 _ _ zoneS 5 (valsK k) A c k (valsK_len k) zone_ok ⟨by omega, by omega⟩ KC.out.1 KC.out.2 (SV.out _ (X6.out _)) (WB.new W6 _ _))).mono ?_
      rintro e w7 ⟨rfl, e7⟩
      rw [V.out]
      have E7 := Lib.hid ((X6.out _).trans e7)
      clear e7
      go_wp2_with fail
      go_roundw
      case rel => exact ⟨6, by omega, by go_num, E7.out⟩
      case measure => simp [intOf]
    · have V : Hid (mayTermsB [⟨zoneS, 5, valsK k⟩] = false) := by show _ = _; rw [lt_want _ _ hm8]; simp [wantB]
      have i0 : (1 : Int) ≤ (k : Int) := by omega
      have i1 : (k : Int) ≤ 6 := by omega
      have i2 : ((k : Int) == 0) = false := by simp; omega
      have B6 := WB.new wr 41 #[.string ⟨#[122, 111, 110, 101]⟩, .int .i64 5, .slice A k c]
      obtain ⟨W6, hW6⟩ : ∃ W, wr.alloc (.cells #[.string ⟨#[122, 111, 110, 101]⟩, .int .i64 5, .slice A k c] 41) = W := ⟨_, rfl⟩
      obtain ⟨q6, hq6⟩ : ∃ q, wr.heap.size = q := ⟨_, rfl⟩
      rw [hW6, hq6] at B6
      have X6 : Hid (∀ o, Ext W5 (W6.alloc o)) := fun o => by rw [← hW6]; exact (HE.out.alloc _).alloc _
      have p0 := B6.cell (i := 0) rfl
      have p1 := B6.cell (i := 1) rfl
      have p2 := B6.cell (i := 2) rfl
      clear B6 hm
      go_wp2_with fail
      refine (mayTerms_len (some ⟨W6.heap.size, 0, none⟩) 1 [⟨zoneS, 5, valsK k⟩] 1 _ rfl OM.out (sl_term2 _ _ zoneS 5 (valsK k) A c k (valsK_len k) zone_ok ⟨by omega, by omega⟩ KC.out.1 KC.out.2 (SV.out _ (X6.out _)) (WB.new W6 _ _))).mono ?_
      rintro e w7 ⟨rfl, e7⟩
      rw [V.out]
      have E7 := Lib.hid ((X6.out _).trans e7)
      clear e7
      go_wp2_with fail
      go_roundw
      case rel => exact ⟨6, by omega, by go_num, E7.out⟩
      case measure => simp [intOf]
    · have V : Hid (mayTermsB [⟨zoneS, 5, valsK k⟩] = false) := by show _ = _; rw [lt_want _ _ hm8]; simp [wantB]
      have i0 : (6 : Int) < (k : Int) := by omega
      have i2 : ((k : Int) == 0) = false := by simp; omega
      have B6 := WB.new wr 41 #[.string ⟨#[122, 111, 110, 101]⟩, .int .i64 5, .slice A k c]
      obtain ⟨W6, hW6⟩ : ∃ W, wr.alloc (.cells #[.string ⟨#[122, 111, 110, 101]⟩, .int .i64 5, .slice A k c] 41) = W := ⟨_, rfl⟩
      obtain ⟨q6, hq6⟩ : ∃ q, wr.heap.size = q := ⟨_, rfl⟩
      rw [hW6, hq6] at B6
      have X6 : Hid (∀ o, Ext W5 (W6.alloc o)) := fun o => by rw [← hW6]; exact (HE.out.alloc _).alloc _
      have p0 := B6.cell (i := 0) rfl
      have p1 := B6.cell (i := 1) rfl
      have p2 := B6.cell (i := 2) rfl
      clear B6 hm
      go_wp2_with fail
      refine (mayTerms_len (some ⟨W6.heap.size, 0, none⟩) 1 [⟨zoneS, 5, valsK k⟩] 1 _ rfl OM.out (sl_term2 _ _ zoneS 5 (valsK k) A c k (valsK_len k) zone_ok ⟨by omega, by omega⟩ KC.out.1 KC.out.2 (SV.out _ (X6.out _)) (WB.new W6 _ _))).mono ?_
      rintro e w7 ⟨rfl, e7⟩
      rw [V.out]
      have E7 := Lib.hid ((X6.out _).trans e7)
      clear e7
      go_wp2_with fail
      go_roundw
      case rel => exact ⟨6, by omega, by go_num, E7.out⟩
      case measure => simp [intOf]
  · have ET : Hid (Ext W1 wr) := E3.out.trans HE.out
    have WT : Hid (WB wr q1 41 #[.string t.key, .int .i64 t.kind, .slice A0 t.vals.length c0]) := HBT.out.ext ET.out
    have KEEP : Hid (∀ wx, Ext wr wx → wx.cell? ⟨q1, 0, none⟩ = some (.string t.key) ∧ wx.cell? ⟨q1, 1, none⟩ = some (.int .i64 t.kind) ∧ wx.cell? ⟨q1, 2, none⟩ = some (.slice A0 t.vals.length c0)) :=
      fun wx e => ⟨(WT.out.ext e).cell (i := 0) rfl, (WT.out.ext e).cell (i := 1) rfl, (WT.out.ext e).cell (i := 2) rfl⟩
    clear hW1 hq1 SV KC
    have N1 : Hid (∀ o : Obj, o = .cells #[.string t.key, .int .i64 t.kind, .slice A0 t.vals.length c0] 41 → WB (wr.alloc o).drew wr.heap.size 41 #[.string t.key, .int .i64 t.kind, .slice A0 t.vals.length c0]) := fun o h => by subst h; exact (WB.new _ _ _).drew
    have N2 : Hid (∀ o o' : Obj, o = .cells #[.string t.key, .int .i64 t.kind, .slice A0 t.vals.length c0] 41 → WB ((wr.alloc o).alloc o').drew wr.heap.size 41 #[.string t.key, .int .i64 t.kind, .slice A0 t.vals.length c0]) := fun o o' h => by subst h; exact ((WB.new _ _ _).alloc _).drew
    have N3 : Hid (∀ o o' : Obj, o' = .cells #[.string t.key, .int .i64 t.kind, .slice A0 t.vals.length c0] 41 → WB ((wr.alloc o).alloc o').drew (wr.heap.size + 1) 41 #[.string t.key, .int .i64 t.kind, .slice A0 t.vals.length c0]) := fun o o' h => by subst h; have := (WB.new (wr.alloc o) 41 #[.string t.key, .int .i64 t.kind, .slice A0 t.vals.length c0]).drew; simpa using this
    have TL : Hid (∀ wx bb, Ext wr wx → WB wx bb 41 #[.string t.key, .int .i64 t.kind, .slice A0 t.vals.length c0] → Sl RTerm 3 wx (some ⟨bb, 0, none⟩) [t]) := fun wx bb e h => SLT.out wx bb (ET.out.trans e) h
    clear SLT
    go_wp2_with fail
    go_region_held3 (fun w' => w'.cell? ⟨q1, 0, none⟩ = some (.string t.key) ∧ w'.cell? ⟨q1, 1, none⟩ = some (.int .i64 t.kind) ∧ w'.cell? ⟨q1, 2, none⟩ = some (.slice A0 t.vals.length c0))
      (first
        | exact KEEP.out _ (Ext.refl wr).drew | exact KEEP.out _ ((Ext.refl wr).alloc _).drew | exact KEEP.out _ (((Ext.refl wr).alloc _).alloc _).drew
        | exact KEEP.out _ X6.out | exact KEEP.out _ (X6.out.alloc _) | exact KEEP.out _ X7.out | exact KEEP.out _ (X7.out.alloc _) | exact KEEP.out _ X8.out | exact KEEP.out _ X9.out)
      (first
        | (have X8' := X8
           clear X8'
           go_at_call 25
           refine (mayTerms_len none 0 [] 0 _ rfl OZ.out Sl.nil).mono ?_
           rintro e w9 ⟨rfl, e9⟩
           rw [may_none]
           have X9 : Hid (Ext wr w9) := X8.out.trans e9
           clear e9)
        | (have X7' := X7
           clear X7'
           go_at_call 25
           refine (mayTerms_len (some ⟨w7.heap.size, 0, none⟩) 1 [⟨⟨#[]⟩, 3, []⟩] 1 _ rfl OM.out (sl_term2 _ _ ⟨#[]⟩ 3 [] none 0 0 rfl (by show 0 ≤ maxLen; omega) ⟨by omega, by omega⟩ (Nat.le_refl _) OZ.out Sl.nil (WB.new w7 _ _))).mono ?_
           rintro e w8 ⟨rfl, e8⟩
           rw [may_bare]
           have X8 : Hid (Ext wr w8) := (X7.out.alloc _).trans e8
           clear e8)
        | (have X6' := X6
           clear X6'
           go_at_call 25
           refine (mayTerms_len (some ⟨_, 0, none⟩) 1 [t] 1 _ rfl OM.out ?_).mono ?_
           · first | exact TL.out _ _ (X6.out.alloc _) (WB.new w6 _ _) | exact TL.out _ _ X6.out ((N1.out _ rfl).ext Y6.out) | exact TL.out _ _ X6.out ((N2.out _ _ rfl).ext Y6.out) | exact TL.out _ _ X6.out ((N3.out _ _ rfl).ext Y6.out)
           rintro e w7 ⟨rfl, e7⟩
           rw [VT.out]
           have X7 : Hid (Ext wr w7) := by first | exact X6.out.trans e7 | exact (X6.out.alloc _).trans e7
           clear e7)
        | (have X6' := X6
           clear X6'
           go_at_call 26
           refine (rMayTerms_len (some ⟨_, 0, none⟩) 1 [t] 1 _ rfl OM.out ?_).mono ?_
           · first | exact TL.out _ _ (X6.out.alloc _) (WB.new w6 _ _) | exact TL.out _ _ X6.out ((N1.out _ rfl).ext Y6.out) | exact TL.out _ _ X6.out ((N2.out _ _ rfl).ext Y6.out) | exact TL.out _ _ X6.out ((N3.out _ _ rfl).ext Y6.out)
           rintro e w7 ⟨rfl, e7⟩
           rw [VT.out]
           have X7 : Hid (Ext wr w7) := by first | exact X6.out.trans e7 | exact (X6.out.alloc _).trans e7
           clear e7)
        | (go_at_call 25
           refine (mayTerms_len (some ⟨_, 0, none⟩) 1 [t] 1 _ rfl OM.out ?_).mono ?_
           · first | exact TL.out _ _ ((Ext.refl wr).alloc _).drew (N1.out _ rfl) | exact TL.out _ _ (((Ext.refl wr).alloc _).alloc _).drew (N2.out _ _ rfl) | exact TL.out _ _ (((Ext.refl wr).alloc _).alloc _).drew (N3.out _ _ rfl)
           rintro e w6 ⟨rfl, e6⟩
           rw [VT.out]
           have Y6 := Lib.hid e6
           have X6 : Hid (Ext wr w6) := by first | exact ((Ext.refl wr).alloc _).drew.trans e6 | exact (((Ext.refl wr).alloc _).alloc _).drew.trans e6
           clear e6)
        | (go_at_call 26
           refine (rMayTerms_len (some ⟨_, 0, none⟩) 1 [t] 1 _ rfl OM.out ?_).mono ?_
           · first | exact TL.out _ _ ((Ext.refl wr).alloc _).drew (N1.out _ rfl) | exact TL.out _ _ (((Ext.refl wr).alloc _).alloc _).drew (N2.out _ _ rfl) | exact TL.out _ _ (((Ext.refl wr).alloc _).alloc _).drew (N3.out _ _ rfl)
           rintro e w6 ⟨rfl, e6⟩
           rw [VT.out]
           have Y6 := Lib.hid e6
           have X6 : Hid (Ext wr w6) := by first | exact ((Ext.refl wr).alloc _).drew.trans e6 | exact (((Ext.refl wr).alloc _).alloc _).drew.trans e6
           clear e6))
    all_goals (
      go_wp2_with fail
      go_ret
      exact ⟨ret_bool (by simp), X1.out.trans (ET.out.trans X9.out)⟩)
end Go.Proofs.YthfafenigjldlaaGreat
