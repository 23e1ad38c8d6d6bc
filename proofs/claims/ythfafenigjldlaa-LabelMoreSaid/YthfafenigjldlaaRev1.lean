/-
  The walk of slices.Reverse at bytes, onto a row of the call's own.
-/
import Derived.Test.YthfafenigjldlaaRead3
namespace Go.Proofs.Ythfafenigjldlaa
open Go.RowKit
set_option linter.unusedVariables false

/-- behind k exchanges place i holds what stood at .. -/
def revI (n k i : Nat) : Nat := if i < k ∨ n - 1 - k < i then n - 1 - i else i
/-- the row's block, its first cells, behind k exchanges -/
structure RevInv (g' : Nat) (bs : List UInt8) (k : Nat) (cur : Array Value) (w wr : World) : Prop where
  keep : Keep (fun k => k = g') w wr
  blk : ∃ cur', WB wr g' 5 cur' ∧ cur'.size = cur.size ∧ ∀ (i : Nat) (x : UInt8), i < bs.length → bs[revI bs.length k i]? = some x → cur'[i]? = some (byV x)

theorem Keep.drewN' {S : Nat → Prop} {a w : World} (h : Keep S a w) : Keep S a w.drew := h.drew

theorem rev_step {g' k m : Nat} {bs : List UInt8} {x y : UInt8} {cur cur1 : Array Value} {w wr : World} (hm : m = bs.length - 1 - k) (hkm : k < m) (hml : m < bs.length) (hx : bs[k]? = some x) (hy : bs[m]? = some y)
    (hi : RevInv g' bs k cur w wr) (b1 : WB wr g' 5 cur1) (b2 : cur1.size = cur.size) (b3 : ∀ (i : Nat) (x : UInt8), i < bs.length → bs[revI bs.length k i]? = some x → cur1[i]? = some (byV x)) :
    RevInv g' bs (k + 1) cur w (((wr.setCell ⟨g', k, none⟩ (byV y)).setCell ⟨g', m, none⟩ (byV x)).drew) := by
  have ck := b3 k x (by omega) (by rw [show revI bs.length k k = k by simp [revI]; omega]; exact hx)
  have cm := b3 m y hml (by rw [show revI bs.length k m = m by simp [revI]; omega]; exact hy)
  refine ⟨((hi.keep.setCell (p := ⟨g', k, none⟩) rfl _).setCell (p := ⟨g', m, none⟩) rfl _).drew, _, ((b1.set k _).set m _).drew, by simp [b2], fun i z hil hz => ?_⟩
  have cm' : (cur1.setIfInBounds k (byV y))[m]? = some (byV y) := by rw [Array.getElem?_setIfInBounds_ne (by omega)]; exact cm
  rw [set_at cm', set_at ck]
  by_cases e1 : i = m
  · subst e1
    rw [if_pos rfl]
    rw [show revI bs.length (k + 1) i = k by unfold revI; split <;> omega, hx] at hz
    injection hz with hz
    rw [hz]
  · rw [if_neg e1]
    by_cases e2 : i = k
    · subst e2
      rw [if_pos rfl]
      rw [show revI bs.length (i + 1) i = m by unfold revI; split <;> omega, hy] at hz
      injection hz with hz
      rw [hz]
    · rw [if_neg e2]
      refine b3 i z hil ?_
      rw [show revI bs.length k i = revI bs.length (k + 1) i by unfold revI; split <;> split <;> omega]
      exact hz

set_option maxHeartbeats 1000000 in
theorem rev_any (g' c : Nat) (bs : List UInt8) (cur : Array Value) (w : World) (hl : bs.length ≤ 1000000) (h0 : 0 < bs.length) (hw : WB w g' 5 cur) (hc : ∀ (i : Nat) (x : UInt8), bs[i]? = some x → cur[i]? = some (byV x)) :
    Calls Try.prog 69 #[.slice (some ⟨g', 0, none⟩) bs.length c] w fun e w' => e = .returned (.tuple #[]) ∧ Keep (fun k => k = g') w w' ∧
      ∃ cur', WB w' g' 5 cur' ∧ cur'.size = cur.size ∧ ∀ (i : Nat) (x : UInt8), i < bs.length → bs[bs.length - 1 - i]? = some x → cur'[i]? = some (byV x) := by
  have H0 : Hid (RevInv g' bs 0 cur w w) := ⟨Keep.refl _ _, cur, hw, rfl, fun i x hi hx => hc i x (by simpa [revI, show ¬ bs.length - 1 < i by omega] using hx)⟩
  have s0 : IntKind.i64.wrap ((bs.length : Int) - 1) = ((bs.length - 1 : Nat) : Int) := by rw [IntWalk.i64_in _ (by omega)]; omega
  clear hw hc
  go_enter Try.func69, Try.ntmps69
  go_wp2_with fail
  go_loopw [2, 3] (fun i j wr => ∃ k : Nat, k < bs.length ∧ 2 * k ≤ bs.length ∧ i = .int .i64 k ∧ j = .int .i64 ((bs.length : Int) - 1 - k) ∧ RevInv g' bs k cur w wr) (fun i _ _ => bs.length - (intOf i).toNat)
  case atStart => exact ⟨0, h0, by omega, rfl, by go_num, H0.out⟩
  case round =>
    obtain ⟨k, hk, hk2, rfl, rfl, hi⟩ := hrel
    by_cases hlt : (k : Int) < (bs.length : Int) - 1 - k
    · obtain ⟨cur1, b1, b2, b3⟩ := hi.blk
      obtain ⟨m, hm⟩ : ∃ m, m = bs.length - 1 - k := ⟨_, rfl⟩
      have em : (bs.length : Int) - 1 - k = (m : Int) := by omega
      have hkm : k < m := by omega
      have hml : m < bs.length := by omega
      rw [em] at hlt ⊢
      obtain ⟨x, hx⟩ := get_of hk
      obtain ⟨y, hy⟩ := get_of hml
      have ck := b1.cell (b3 k x hk (by rw [show revI bs.length k k = k by simp [revI]; omega]; exact hx))
      have cm := b1.cell (b3 m y hml (by rw [show revI bs.length k m = m by simp [revI]; omega]; exact hy))
      have zk := b1.fr k
      have zm := b1.fr m
      unfold byV at ck cm
      have hne : ¬ k = m := by omega
      have hne' : ¬ m = k := by omega
      have i1 : (k : Int) < bs.length := by omega
      have i2 : (m : Int) < bs.length := by omega
      have HM := Lib.hid hm
      have B1 := Lib.hid b1
      have B3 := Lib.hid b3
      have B2 := Lib.hid b2
      clear hm em b1 b2 b3 s0
      go_wp2_with fail
      go_region
      go_wp2_with fail
      have FIN : RevInv g' bs (k + 1) cur w (((wr.setCell ⟨g', k, none⟩ (.int .u8 (y.toNat : Int))).setCell ⟨g', m, none⟩ (.int .u8 (x.toNat : Int))).drew) :=
        rev_step HM.out hkm hml hx hy hi B1.out B2.out B3.out
      go_roundw
      case rel =>
        have hm2 := HM.out
        exact ⟨k + 1, by omega, by omega, by go_num, by rw [show ((m : Int) - 1) = (bs.length : Int) - 1 - ((k + 1 : Nat) : Int) by have := HM.out; omega], FIN⟩
      case measure => simp [intOf]; omega
    · go_wp2_with fail
      go_end0
      obtain ⟨cur1, b1, b2, b3⟩ := hi.blk
      refine ⟨rfl, hi.keep, cur1, b1, b2, fun i x hil hx => b3 i x hil ?_⟩
      unfold revI
      split
      · exact hx
      · rw [show i = bs.length - 1 - i by omega]; exact hx
end Go.Proofs.Ythfafenigjldlaa
