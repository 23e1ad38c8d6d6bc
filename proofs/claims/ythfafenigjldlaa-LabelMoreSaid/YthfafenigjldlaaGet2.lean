/-
  The walks of package code: what is got: pairs.
-/
import Derived.Test.YthfafenigjldlaaGet1
namespace Go.Proofs.Ythfafenigjldlaa
open Go.RowKit
set_option linter.unusedVariables false

/-- a block of two cells -/
def Arr2 (T : TypeId) (w : World) (g : Nat) (x y : Value) : Prop := w.heap[g]? = some (.cells #[x, y] T (0, 0))
theorem Arr2.c0 {T : TypeId} {w : World} {g : Nat} {x y : Value} (h : Arr2 T w g x y) : w.cell? ⟨g, 0, none⟩ = some x := by unfold Arr2 at h; simp [World.cell?, h]
theorem Arr2.c1 {T : TypeId} {w : World} {g : Nat} {x y : Value} (h : Arr2 T w g x y) : w.cell? ⟨g, 1, none⟩ = some y := by unfold Arr2 at h; simp [World.cell?, h]
theorem Arr2.fr {T : TypeId} {w : World} {g : Nat} {x y : Value} (h : Arr2 T w g x y) (j : Nat) : w.frozen? ⟨g, j, none⟩ = false := by unfold Arr2 at h; simp [World.frozen?, h]
theorem Arr2.s0 {T : TypeId} {w : World} {g : Nat} {x y : Value} (h : Arr2 T w g x y) (u : Value) : Arr2 T (w.setCell ⟨g, 0, none⟩ u) g u y := by
  unfold Arr2 at h ⊢; simp [World.setCell, Array.getElem?_modify, h]
theorem Arr2.s1 {T : TypeId} {w : World} {g : Nat} {x y : Value} (h : Arr2 T w g x y) (u : Value) : Arr2 T (w.setCell ⟨g, 1, none⟩ u) g x u := by
  unfold Arr2 at h ⊢; simp [World.setCell, Array.getElem?_modify, h]
theorem Arr2.new (T : TypeId) (w : World) (x y : Value) : Arr2 T (w.alloc (.cells #[x, y] T)) w.heap.size x y := heap_alloc_new w _

set_option maxHeartbeats 400000 in
theorem toPair_any (a b : ByteArray) (w : World) : Calls Try.prog 48 #[.string a, .string b] w fun e w' => e = .returned (.agg #[.string a, .string b]) ∧ Ext w w' := by
  go_enter Try.func48, Try.ntmps48
  go_wp2_with fail
  refine bodyPost_ret (v := .agg #[.string a, .string b]) (by simp [results, Try.results48, go_sem]) rfl ?_
  exact ⟨rfl, (Ext.refl w).alloc _⟩

/-- a list of one's own grows: the Reader stays -/
theorem Rd.grown {w w' : World} {g base size n : Nat} {T : TypeId} {ph : Bool} {bs : List UInt8} {bad : Bool} {v : Value} {xs : List Value} (h : Rd w g ph bs bad) (hown : w.ownsRow base T size v n xs) (hg : w.grownBy w' v.ownBlock)
    (h1 : T ≠ 132) (h2 : T ≠ 5) : Rd w' g ph bs bad := by
  obtain ⟨cs, A, c, r1, r2, r3, r4, r5, r6, r7⟩ := h.rd
  refine ⟨h.len, cs, A, c, r1.grown hg (own_ne hown r1 h1), r2, r3, r4, r5, r6, fun h0 => ?_⟩
  obtain ⟨b, o, e, hb, hc, cur, ht⟩ := r7 h0
  have hbt : WB w b 5 cur := ht
  have hb2 := hbt.grown hg (own_ne hown hbt h2)
  refine ⟨b, o, e, hb, fun j x hx => ?_, cur, hb2⟩
  have hcx := hc j x hx
  have hb2' : w'.heap[b]? = some (.cells cur 5 (0, 0)) := hb2
  simp only [World.cell?, ht] at hcx
  simp only [World.cell?, hb2']
  exact hcx
theorem own_keep {w w' : World} {g base size n : Nat} {T : TypeId} {v : Value} {xs : List Value} (hown : w.ownsRow base T size v n xs) (hk : Keep (fun k => k = g) w w') (hg : g < base) : w'.ownsRow base T size v n xs := by
  refine ⟨hown.1, ?_⟩
  rcases hown.2 with h | ⟨g', cap, cur, rfl, hg', hh, r⟩
  · exact .inl h
  · refine .inr ⟨g', cap, cur, rfl, hg', (hk.block g' ?_ (by omega)).trans hh, r⟩
    rcases Nat.lt_or_ge g' w.heap.size with hl | hl
    · exact hl
    · rw [Array.getElem?_eq_none hl] at hh; cases hh

/-- so many pairs, one after another -/
def pairsFrom : Nat → List UInt8 → Bool → List Pr × List UInt8 × Bool
  | 0, bs, bad => ([], bs, bad)
  | k + 1, bs, bad =>
    let r := pairsFrom k bs bad
    let a := nameFR r.2.1 r.2.2
    let b := nameFR a.2.1 a.2.2
    (r.1 ++ [⟨a.1, b.1⟩], b.2)
def pairsF (bs : List UInt8) (bad : Bool) : List Pr × List UInt8 × Bool := pairsFrom (countF 1 bs bad).1.toNat (countF 1 bs bad).2.1 (countF 1 bs bad).2.2
end Go.Proofs.Ythfafenigjldlaa
