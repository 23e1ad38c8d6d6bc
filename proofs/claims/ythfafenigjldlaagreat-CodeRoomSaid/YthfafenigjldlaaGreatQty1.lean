/-
  The walks of package qty: in, May, Share, Fits, Add, Sum.
-/
import Derived.Test.YthfafenigjldlaaGreatLabel1
import Derived.RegionTactic
namespace Go.Proofs.YthfafenigjldlaaGreat
open Go.RowKit
set_option linter.unusedVariables false

theorem qIn_any (n : Int) (w : World) : Calls Tryz.prog 71 #[.int .i64 n] w fun e w' => e = .returned (.bool (inQ n)) ∧ w = w' := by
  go_enter Tryz.func71, Tryz.ntmps71
  go_wp2_with fail
  all_goals go_ret
  all_goals refine ⟨ret_bool ?_, rfl⟩
  all_goals (rw [Bool.eq_iff_iff]; simp [inQ]; omega)

theorem qShare_any (p q : Int) (w : World) : Calls Tryz.prog 59 #[.int .i64 p, .int .i64 q] w fun e w' => e = .returned (.int .i64 (shareI p q)) ∧ w = w' := by
  by_cases h1 : q < 1
  · go_enter Tryz.func59, Tryz.ntmps59
    go_wp2_with fail
    go_ret
    exact ⟨ret_int (by simp [shareI, h1]), rfl⟩
  by_cases h2 : 1000000000 < q
  · go_enter Tryz.func59, Tryz.ntmps59
    go_wp2_with fail
    go_ret
    exact ⟨ret_int (by simp [shareI, h2]), rfl⟩
  have h1' : 1 ≤ q := by omega
  have h2' : q ≤ 1000000000 := by omega
  have hq : shareI p q = 100 * min (max p 0) q / q := by unfold shareI; rw [if_neg (by omega)]
  have HQ := Lib.hid hq
  clear hq
  by_cases h3 : p < 0
  · go_enter Tryz.func59, Tryz.ntmps59
    go_wp2_with fail
    go_ret
    exact ⟨ret_int (by rw [HQ.out, show min (max p 0) q = 0 by omega]; simp), rfl⟩
  by_cases h4 : p ≤ q
  · go_enter Tryz.func59, Tryz.ntmps59
    go_wp2_with fail
    go_ret
    exact ⟨ret_int (by rw [HQ.out, show min (max p 0) q = p by omega]), rfl⟩
  · go_enter Tryz.func59, Tryz.ntmps59
    go_wp2_with fail
    go_ret
    exact ⟨ret_int (by rw [HQ.out, show min (max p 0) q = q by omega]), rfl⟩

/-- a block of three numbers -/
def Arr3 (w : World) (g : Nat) (x y z : Int) : Prop := w.heap[g]? = some (.cells #[.int .i64 x, .int .i64 y, .int .i64 z] 56 (0, 0))
theorem Arr3.c0 {w : World} {g : Nat} {x y z : Int} (h : Arr3 w g x y z) : w.cell? ⟨g, 0, none⟩ = some (.int .i64 x) := by unfold Arr3 at h; simp [World.cell?, h]
theorem Arr3.c1 {w : World} {g : Nat} {x y z : Int} (h : Arr3 w g x y z) : w.cell? ⟨g, 1, none⟩ = some (.int .i64 y) := by unfold Arr3 at h; simp [World.cell?, h]
theorem Arr3.c2 {w : World} {g : Nat} {x y z : Int} (h : Arr3 w g x y z) : w.cell? ⟨g, 2, none⟩ = some (.int .i64 z) := by unfold Arr3 at h; simp [World.cell?, h]
theorem Arr3.fr {w : World} {g : Nat} {x y z : Int} (h : Arr3 w g x y z) (j : Nat) : w.frozen? ⟨g, j, none⟩ = false := by unfold Arr3 at h; simp [World.frozen?, h]
theorem Arr3.far {w : World} {g : Nat} {x y z : Int} (h : Arr3 w g x y z) {p : Addr} (hp : g ≠ p.block) (u : Value) : Arr3 (w.setCell p u) g x y z := (Below.heap_setCell w p u g hp).trans h
theorem Arr3.s0 {w : World} {g : Nat} {x y z : Int} (h : Arr3 w g x y z) (u : Int) : Arr3 (w.setCell ⟨g, 0, none⟩ (.int .i64 u)) g u y z := by
  unfold Arr3 at h ⊢; simp [World.setCell, Array.getElem?_modify, h]
theorem Arr3.s1 {w : World} {g : Nat} {x y z : Int} (h : Arr3 w g x y z) (u : Int) : Arr3 (w.setCell ⟨g, 1, none⟩ (.int .i64 u)) g x u z := by
  unfold Arr3 at h ⊢; simp [World.setCell, Array.getElem?_modify, h]
theorem Arr3.s2 {w : World} {g : Nat} {x y z : Int} (h : Arr3 w g x y z) (u : Int) : Arr3 (w.setCell ⟨g, 2, none⟩ (.int .i64 u)) g x y u := by
  unfold Arr3 at h ⊢; simp [World.setCell, Array.getElem?_modify, h]
theorem Arr3.drewN {w : World} {g : Nat} {x y z : Int} (h : Arr3 w g x y z) (n : Nat) : Arr3 (w.drewN n) g x y z := h
theorem Arr3.drew {w : World} {g : Nat} {x y z : Int} (h : Arr3 w g x y z) : Arr3 w.drew g x y z := h
theorem Arr3.alloc {w : World} {g : Nat} {x y z : Int} (h : Arr3 w g x y z) (o : Obj) : Arr3 (w.alloc o) g x y z := by
  have hl : g < w.heap.size := by
    rcases Nat.lt_or_ge g w.heap.size with hl | hl
    · exact hl
    · unfold Arr3 at h; rw [Array.getElem?_eq_none hl] at h; cases h
  exact (Below.heap_alloc w o g hl).trans h
theorem Arr3.new (w : World) (x y z : Int) : Arr3 (w.alloc (.cells #[.int .i64 x, .int .i64 y, .int .i64 z] 56)) w.heap.size x y z := heap_alloc_new w _
theorem Arr3.ext {w w' : World} {g : Nat} {x y z : Int} (h : Arr3 w g x y z) (he : Ext w w') : Arr3 w' g x y z := by
  have hl : g < w.heap.size := by
    rcases Nat.lt_or_ge g w.heap.size with hl | hl
    · exact hl
    · unfold Arr3 at h; rw [Array.getElem?_eq_none hl] at h; cases h
  exact (he.block g hl).trans h

def restMay (r : Rs) : Nat → Bool
  | 0 => mayRs r
  | 1 => mayR1 r.b && mayR1 r.c
  | 2 => mayR1 r.c
  | _ => true

set_option maxHeartbeats 400000 in
theorem qMay_any (r : Rs) (w : World) : Calls Tryz.prog 43 #[.agg #[.int .i64 r.a, .int .i64 r.b, .int .i64 r.c]] w fun e w' => e = .returned (.bool (mayRs r)) ∧ Ext w w' := by
  have i0 : ∀ w, (Instr.index 56 (.agg #[.int .i64 r.a, .int .i64 r.b, .int .i64 r.c]) (.int .i64 0)).run Tryz.prog w = .ok (.int .i64 r.a) w := fun _ => by kernel_rfl
  have i1 : ∀ w, (Instr.index 56 (.agg #[.int .i64 r.a, .int .i64 r.b, .int .i64 r.c]) (.int .i64 1)).run Tryz.prog w = .ok (.int .i64 r.b) w := fun _ => by kernel_rfl
  have i2 : ∀ w, (Instr.index 56 (.agg #[.int .i64 r.a, .int .i64 r.b, .int .i64 r.c]) (.int .i64 2)).run Tryz.prog w = .ok (.int .i64 r.c) w := fun _ => by kernel_rfl
  go_enter Tryz.func43, Tryz.ntmps43
  go_wp2_with fail
  go_loopw [6] (fun i wr => ∃ k : Nat, k ≤ 3 ∧ i = .int .i64 k ∧ Ext w wr ∧ Hid (mayRs r = restMay r k)) (fun i _ => 3 - (intOf i).toNat)
  case atStart => exact ⟨0, by omega, rfl, (Ext.refl _).alloc _, rfl⟩
  case round =>
    obtain ⟨k, hk, rfl, he, hd⟩ := hrel
    rcases (show k = 0 ∨ k = 1 ∨ k = 2 ∨ k = 3 by omega) with rfl | rfl | rfl | rfl
    · by_cases h1 : r.a < 0
      · go_wp2_with fail
        go_ret
        exact ⟨ret_bool (by simp [mayRs, mayR1]; omega), he⟩
      by_cases h2 : 1000000000 < r.a
      · go_wp2_with fail
        go_ret
        exact ⟨ret_bool (by simp [mayRs, mayR1]; omega), he⟩
      go_wp2_with fail
      go_roundw
      have e1 : mayR1 r.a = true := by simp [mayR1]; omega
      case rel => exact ⟨1, by omega, by go_num, he, by show (mayR1 r.a && mayR1 r.b && mayR1 r.c) = _; rw [e1]; rfl⟩
      case measure => simp [intOf]
    · by_cases h1 : r.b < 0
      · go_wp2_with fail
        go_ret
        exact ⟨ret_bool (by simp [mayRs, mayR1]; omega), he⟩
      by_cases h2 : 1000000000 < r.b
      · go_wp2_with fail
        go_ret
        exact ⟨ret_bool (by simp [mayRs, mayR1]; omega), he⟩
      go_wp2_with fail
      go_roundw
      have e1 : mayR1 r.b = true := by simp [mayR1]; omega
      case rel => exact ⟨2, by omega, by go_num, he, by show _ = _; rw [hd.out]; show (mayR1 r.b && mayR1 r.c) = _; rw [e1]; rfl⟩
      case measure => simp [intOf]
    · by_cases h1 : r.c < 0
      · go_wp2_with fail
        go_ret
        exact ⟨ret_bool (by simp [mayRs, mayR1]; omega), he⟩
      by_cases h2 : 1000000000 < r.c
      · go_wp2_with fail
        go_ret
        exact ⟨ret_bool (by simp [mayRs, mayR1]; omega), he⟩
      go_wp2_with fail
      go_roundw
      have e1 : mayR1 r.c = true := by simp [mayR1]; omega
      case rel => exact ⟨3, by omega, by go_num, he, by show _ = _; rw [hd.out]; exact e1⟩
      case measure => simp [intOf]
    · go_wp2_with fail
      go_ret
      exact ⟨ret_bool (by rw [hd.out]; rfl), he⟩

def restFits (r s : Rs) : Nat → Bool
  | 0 => fitsB r s
  | 1 => decide (r.b ≤ s.b) && decide (r.c ≤ s.c)
  | 2 => decide (r.c ≤ s.c)
  | _ => true

set_option maxHeartbeats 400000 in
theorem qFits_any (r s : Rs) (w : World) : Calls Tryz.prog 41 #[.agg #[.int .i64 r.a, .int .i64 r.b, .int .i64 r.c], .agg #[.int .i64 s.a, .int .i64 s.b, .int .i64 s.c]] w fun e w' => e = .returned (.bool (fitsB r s)) ∧ Ext w w' := by
  go_enter Tryz.func41, Tryz.ntmps41
  go_wp2_with fail
  go_loopw [6] (fun i wr => ∃ k : Nat, k ≤ 3 ∧ i = .int .i64 k ∧ Ext w wr ∧ Arr3 wr w.heap.size r.a r.b r.c ∧ Arr3 wr (w.heap.size + 1) s.a s.b s.c ∧ Hid (fitsB r s = restFits r s k)) (fun i _ => 3 - (intOf i).toNat)
  case atStart => exact ⟨0, by omega, rfl, ((Ext.refl _).alloc _).alloc _, (Arr3.new _ _ _ _).alloc _, by simpa using Arr3.new (w.alloc _) s.a s.b s.c, rfl⟩
  case round =>
    obtain ⟨k, hk, rfl, he, hr, hs, hd⟩ := hrel
    have c0 := hr.c0; have c1 := hr.c1; have c2 := hr.c2
    have d0 := hs.c0; have d1 := hs.c1; have d2 := hs.c2
    rcases (show k = 0 ∨ k = 1 ∨ k = 2 ∨ k = 3 by omega) with rfl | rfl | rfl | rfl
    · by_cases h1 : s.a < r.a
      · go_wp2_with fail
        go_quiet (fail)
        go_wp2_with fail
        go_ret
        exact ⟨ret_bool (by simp [fitsB]; omega), he.drewN _⟩
      · go_wp2_with fail
        go_quiet (fail)
        go_wp2_with fail
        go_roundw
        have e1 : decide (r.a ≤ s.a) = true := by simp; omega
        case rel => exact ⟨1, by omega, by go_num, he.drewN _, hr, hs, by show (decide (r.a ≤ s.a) && decide (r.b ≤ s.b) && decide (r.c ≤ s.c)) = _; rw [e1]; rfl⟩
        case measure => simp [intOf]
    · by_cases h1 : s.b < r.b
      · go_wp2_with fail
        go_quiet (fail)
        go_wp2_with fail
        go_ret
        exact ⟨ret_bool (by simp [fitsB]; omega), he.drewN _⟩
      · go_wp2_with fail
        go_quiet (fail)
        go_wp2_with fail
        go_roundw
        have e1 : decide (r.b ≤ s.b) = true := by simp; omega
        case rel => exact ⟨2, by omega, by go_num, he.drewN _, hr, hs, by show _ = _; rw [hd.out]; show (decide (r.b ≤ s.b) && decide (r.c ≤ s.c)) = _; rw [e1]; rfl⟩
        case measure => simp [intOf]
    · by_cases h1 : s.c < r.c
      · go_wp2_with fail
        go_quiet (fail)
        go_wp2_with fail
        go_ret
        exact ⟨ret_bool (by simp [fitsB]; omega), he.drewN _⟩
      · go_wp2_with fail
        go_quiet (fail)
        go_wp2_with fail
        go_roundw
        have e1 : decide (r.c ≤ s.c) = true := by simp; omega
        case rel => exact ⟨3, by omega, by go_num, he.drewN _, hr, hs, by show _ = _; rw [hd.out]; exact e1⟩
        case measure => simp [intOf]
    · go_wp2_with fail
      go_ret
      exact ⟨ret_bool (by rw [hd.out]; rfl), he⟩
end Go.Proofs.YthfafenigjldlaaGreat
