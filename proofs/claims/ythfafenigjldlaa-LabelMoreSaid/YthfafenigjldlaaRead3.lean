/-
  The walks of package wire: the Reader's Bool, End, Count.
-/
import Derived.Test.YthfafenigjldlaaRead2
namespace Go.Proofs.Ythfafenigjldlaa
open Go.RowKit
set_option linter.unusedVariables false

theorem rdNumI (g : Nat) (ph : Bool) (bs : List UInt8) (bad : Bool) (z : Int) (w : World) (h1 : 1 ≤ z) (h2 : z ≤ 8) (hr : Rd w g ph bs bad) :
    Calls Try.prog 43 #[.pointer (some ⟨g, 0, none⟩), .int .i64 z] w (RNPost g ph (numF z.toNat bs bad) w) := by
  obtain ⟨n, rfl⟩ := Int.eq_ofNat_of_zero_le (show 0 ≤ z by omega)
  exact rdNum_any g ph bs bad n w (by omega) (by omega) hr

def RBPost (g : Nat) (ph : Bool) (r : Bool × List UInt8 × Bool) (w : World) (e : Ending) (w' : World) : Prop := e = .returned (.bool r.1) ∧ Keep (fun k => k = g) w w' ∧ Rd w' g ph r.2.1 r.2.2
def boolF (bs : List UInt8) (bad : Bool) : Bool × List UInt8 × Bool := ((numF 1 bs bad).1 == 1, (numF 1 bs bad).2)

theorem rdBool_any (g : Nat) (ph : Bool) (bs : List UInt8) (bad : Bool) (w : World) (hr : Rd w g ph bs bad) :
    Calls Try.prog 50 #[.pointer (some ⟨g, 0, none⟩)] w (RBPost g ph (boolF bs bad) w) := by
  go_enter Try.func50, Try.ntmps50
  go_wp2_with fail
  refine (rdNumI g ph bs bad _ _ (by omega) (by omega) hr).mono ?_
  rintro e w' ⟨rfl, h1, h2⟩
  go_wp2_with fail
  go_ret
  exact ⟨rfl, h1, h2⟩

theorem rdEnd_any (g : Nat) (ph : Bool) (bs : List UInt8) (bad : Bool) (w : World) (hr : Rd w g ph bs bad) :
    Calls Try.prog 51 #[.pointer (some ⟨g, 0, none⟩)] w fun e w' => e = .returned (.bool (!bad && bs.isEmpty)) ∧ w = w' := by
  obtain ⟨cs, A, c, h1, h2, h3, h4, h5, h6, h7⟩ := hr.rd
  have c297 := h1.cell h3
  have c298 := h1.cell h4
  clear h1 h2 h3 h4 h5 h6 h7 hr
  cases bad
  · cases bs with
    | nil =>
      go_enter Try.func51, Try.ntmps51
      go_wp2_with fail
      go_ret
      exact ⟨rfl, rfl⟩
    | cons x xs =>
      have hx : ((xs.length : Int) + 1 == 0) = false := by simp; omega
      go_enter Try.func51, Try.ntmps51
      go_wp2_with fail
      go_ret
      exact ⟨rfl, rfl⟩
  · go_enter Try.func51, Try.ntmps51
    go_wp2_with fail
    go_ret
    exact ⟨rfl, rfl⟩

/-- how many there are: no more than there are bytes left -/
def countF (size : Nat) (bs : List UInt8) (bad : Bool) : Int × List UInt8 × Bool :=
  if ((numF size bs bad).2.1.length : Int) < (numF size bs bad).1 then (0, [], true) else numF size bs bad

set_option maxHeartbeats 400000 in
theorem rdCount_any (g : Nat) (ph : Bool) (bs : List UInt8) (bad : Bool) (z : Int) (w : World) (hz1 : 1 ≤ z) (hz2 : z ≤ 8) (hr : Rd w g ph bs bad) :
    Calls Try.prog 46 #[.pointer (some ⟨g, 0, none⟩), .int .i64 z] w (RNPost g ph (countF z.toNat bs bad) w) := by
  have HC : Hid (countF z.toNat bs bad = if ((numF z.toNat bs bad).2.1.length : Int) < (numF z.toNat bs bad).1 then (0, [], true) else numF z.toNat bs bad) := rfl
  have HN := Lib.hid (rdNumI g ph bs bad z w hz1 hz2 hr)
  clear hr
  obtain ⟨r, hr⟩ : ∃ r, r = numF z.toNat bs bad := ⟨_, rfl⟩
  obtain ⟨n, bs', bad'⟩ := r
  rw [← hr] at HC HN
  clear hr
  simp only at HC
  go_enter Try.func46, Try.ntmps46
  go_wp2_with fail
  refine HN.out.mono ?_
  rintro e w1 ⟨rfl, k1, r1⟩
  simp only at r1 ⊢
  obtain ⟨cs, A, c, h1, h2, h3, h4, h5, h6, h7⟩ := r1.rd
  have c297 := h1.cell h3
  have c298 := h1.cell h4
  have z297 := h1.fr 297
  have z298 := h1.fr 298
  have hcs : 298 < cs.size := (Array.getElem?_eq_some_iff.1 h4).1
  by_cases hlt : (bs'.length : Int) < n
  · have FIN : Hid (RNPost g ph (countF z.toNat bs bad) w (.returned (.int .i64 0)) ((w1.setCell ⟨g, 298, none⟩ (.bool true)).setCell ⟨g, 297, none⟩ (.slice none 0 0))) := by
      rw [HC.out, if_pos hlt]
      refine ⟨rfl, (k1.setCell (p := ⟨g, 298, none⟩) rfl _).setCell (p := ⟨g, 297, none⟩) rfl _, by simp, _, none, 0, (h1.set 298 _).set 297 _, fun i hi => ?_, ?_, ?_, by simp, by simp [maxLen], fun h => by simp at h⟩
      · rw [Array.getElem?_setIfInBounds_ne (by omega), Array.getElem?_setIfInBounds_ne (by omega)]; exact h2 i hi
      · rw [Array.getElem?_setIfInBounds_self_of_lt (by simp; omega)]; rfl
      · rw [Array.getElem?_setIfInBounds_ne (by omega), Array.getElem?_setIfInBounds_self_of_lt (by omega)]
    clear h1 h2 h3 h4 h5 h6 h7 r1 k1 HN HC
    go_wp2_with fail
    go_ret
    exact FIN.out
  · have FIN : Hid (RNPost g ph (countF z.toNat bs bad) w (.returned (.int .i64 n)) w1) := by
      rw [HC.out, if_neg hlt]
      exact ⟨rfl, k1, r1⟩
    clear h1 h2 h3 h4 h5 h6 h7 r1 k1 HN HC
    go_wp2_with fail
    go_ret
    exact FIN.out
end Go.Proofs.Ythfafenigjldlaa
