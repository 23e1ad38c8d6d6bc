/-
  The walks of package wire: the Reader's Num.
-/
import Derived.Test.YthfafenigjldlaaRead1
namespace Go.Proofs.Ythfafenigjldlaa
open Go.RowKit
set_option linter.unusedVariables false

/-! ### what is read, as numbers -/
def valI (bs : List UInt8) : Int := IntKind.i64.wrap (numVal bs : Nat)
theorem numVal_snoc (l : List UInt8) (x : UInt8) : numVal (l ++ [x]) = numVal l * 256 + x.toNat := by simp [numVal, List.foldl_append]
theorem numVal_lt (l : List UInt8) : numVal l < 256 ^ l.length := by
  have : ∀ (l : List UInt8) (n k : Nat), n < 256 ^ k → l.foldl (fun n x => n * 256 + x.toNat) n < 256 ^ (k + l.length) := by
    intro l
    induction l with
    | nil => intro n k h; exact h
    | cons x l ih =>
      intro n k h
      have hx := x.toNat_lt
      have := ih (n * 256 + x.toNat) (k + 1) (by rw [Nat.pow_succ]; omega)
      simp only [List.foldl_cons, List.length_cons]
      rw [show k + (l.length + 1) = k + 1 + l.length by omega]
      exact this
  have h := this l 0 0 (by simp)
  rw [Nat.zero_add] at h
  exact h
/-- one byte more -/
theorem or_byte (u x : Nat) (hu : u < 72057594037927936) (hx : x < 256) : bits .or .i64 (IntKind.i64.wrap (IntKind.i64.wrap (u : Int) * 2 ^ 8)) (x : Int) = IntKind.i64.wrap ((u * 256 + x : Nat) : Int) := by
  have e1 : IntKind.i64.wrap (u : Int) = u := IntWalk.i64_in _ (by omega)
  have e2 : BitVec.ofInt 64 (IntKind.i64.wrap ((u : Int) * 2 ^ 8)) = BitVec.ofNat 64 (u * 256) := by
    rw [IntKind.wrap_i64]
    apply BitVec.eq_of_toNat_eq
    simp only [BitVec.toNat_ofInt, BitVec.toNat_ofNat]
    omega
  have e3 : (u * 256) ||| x = u * 256 + x := by
    rw [Nat.mul_comm u 256]
    exact (Nat.two_pow_add_eq_or_of_lt (i := 8) (b := x) (by omega) u).symm
  rw [e1]
  show IntKind.i64.wrap ((BitVec.ofInt 64 (IntKind.i64.wrap ((u : Int) * 2 ^ 8)) ||| BitVec.ofInt 64 (x : Int)).toNat : Int) = _
  rw [e2, BitVec.toNat_or, BitVec.toNat_ofNat, BitVec.ofInt_natCast, BitVec.toNat_ofNat, Nat.mod_eq_of_lt (by omega), Nat.mod_eq_of_lt (by omega), e3]

theorem valI_step {bs : List UInt8} {k : Nat} {x : UInt8} (hx : bs[k]? = some x) (hk : k < 8) : bits .or .i64 (wrap64 (valI (bs.take k) * 256)) (x.toNat : Int) = valI (bs.take (k + 1)) := by
  have h1 := numVal_lt (bs.take k)
  have h2 : (bs.take k).length ≤ 7 := by simp; omega
  have h3 : numVal (bs.take k) < 256 ^ 7 := Nat.lt_of_lt_of_le h1 (Nat.pow_le_pow_right (by omega) h2)
  have h := or_byte (numVal (bs.take k)) x.toNat (by omega) x.toNat_lt
  rw [take_at hx]
  unfold valI
  rw [numVal_snoc, ← h, ← IntWalk.i64_left]
  rfl

/-- what Num tells, what is left, whether it went wrong -/
def numF (size : Nat) (bs : List UInt8) (bad : Bool) : Int × List UInt8 × Bool := if bs.length < size then (0, [], true) else (valI (bs.take size), bs.drop size, bad)
def RNPost (g : Nat) (ph : Bool) (r : Int × List UInt8 × Bool) (w : World) (e : Ending) (w' : World) : Prop := e = .returned (.int .i64 r.1) ∧ Keep (fun k => k = g) w w' ∧ Rd w' g ph r.2.1 r.2.2

set_option maxHeartbeats 1000000 in
set_option maxRecDepth 10000 in
theorem rdNum_any (g : Nat) (ph : Bool) (bs : List UInt8) (bad : Bool) (size : Nat) (w : World) (hs1 : 1 ≤ size) (hs : size ≤ 8) (hr : Rd w g ph bs bad) :
    Calls Try.prog 43 #[.pointer (some ⟨g, 0, none⟩), .int .i64 size] w (RNPost g ph (numF size bs bad) w) := by
  obtain ⟨cs, A, c, h1, h2, h3, h4, h5, h6, h7⟩ := hr.rd
  have hl := hr.len
  have c297 := h1.cell h3
  have c298 := h1.cell h4
  have z297 := h1.fr 297
  have z298 := h1.fr 298
  have hcs : 298 < cs.size := (Array.getElem?_eq_some_iff.1 h4).1
  have hm : c ≤ 9223372036854775807 := by unfold maxLen at h6; omega
  by_cases hlt : bs.length < size
  · have hlt' : (bs.length : Int) < size := by omega
    have FIN : Hid (RNPost g ph (numF size bs bad) w (.returned (.int .i64 0)) ((w.setCell ⟨g, 298, none⟩ (.bool true)).setCell ⟨g, 297, none⟩ (.slice none 0 0))) := by
      unfold numF
      rw [if_pos hlt]
      refine ⟨rfl, ((Keep.refl (fun k => k = g) _).setCell (p := ⟨g, 298, none⟩) rfl _).setCell (p := ⟨g, 297, none⟩) rfl _, by simp, _, none, 0, (h1.set 298 _).set 297 _, fun i hi => ?_, ?_, ?_, by simp, by simp [maxLen], fun h => by simp at h⟩
      · rw [Array.getElem?_setIfInBounds_ne (by omega), Array.getElem?_setIfInBounds_ne (by omega)]; exact h2 i hi
      · rw [Array.getElem?_setIfInBounds_self_of_lt (by simp; omega)]; rfl
      · rw [Array.getElem?_setIfInBounds_ne (by omega), Array.getElem?_setIfInBounds_self_of_lt (by omega)]
    clear h1 h2 h3 h4 h5 h7 hr hlt
    go_enter Try.func43, Try.ntmps43
    go_wp2_with fail
    go_ret
    exact FIN.out
  · have hge : (size : Int) ≤ bs.length := by omega
    obtain ⟨b, o, rfl, hb, hcell, hty⟩ := h7 (by omega)
    have HTY := Lib.hid hty
    have HC := Lib.hid hcell
    clear hcell h7 hty
    go_enter Try.func43, Try.ntmps43
    go_wp2_with fail
    go_loop [5, 28] (fun a i => ∃ k : Nat, k ≤ size ∧ i = .int .i64 k ∧ a = .int .i64 (valI (bs.take k))) (fun _ i => size - (intOf i).toNat)
    case atStart => exact ⟨0, by omega, rfl, rfl⟩
    case round =>
      obtain ⟨k, hk, rfl, rfl⟩ := hrel
      by_cases hlk : k < size
      · have hlk' : (k : Int) < size := by omega
        obtain ⟨x, hx⟩ := get_of (show k < bs.length by omega)
        have cx := HC.out k x hx
        unfold byV at cx
        have h256 := x.toNat_lt
        go_wp2_with fail
        have hstep := valI_step hx (by omega)
        go_round
        case rel => exact ⟨k + 1, by omega, by go_num, by rw [hstep]⟩
        case measure => simp [intOf]; omega
      · obtain rfl : k = size := by omega
        have FIN : ∀ A', (c = k ∧ A' = ⟨b, o, none⟩ ∨ c ≠ k ∧ A' = ⟨b, o + k, none⟩) → RNPost g ph (numF k bs bad) w (.returned (.int .i64 (valI (bs.take k)))) (w.setCell ⟨g, 297, none⟩ (.slice (some A') (bs.length - k) (c - k))) := by
          intro A' hA'
          unfold numF
          rw [if_neg hlt]
          refine ⟨rfl, (Keep.refl (fun k => k = g) _).setCell (p := ⟨g, 297, none⟩) rfl _, by simp; omega, _, some A', c - k, h1.set 297 _, fun i hi => ?_, ?_, ?_, by simp; omega, by omega, fun h => ?_⟩
          · rw [Array.getElem?_setIfInBounds_ne (by omega)]; exact h2 i hi
          · rw [Array.getElem?_setIfInBounds_self_of_lt (by omega), List.length_drop]
          · rw [Array.getElem?_setIfInBounds_ne (by omega)]; exact h4
          · rw [List.length_drop] at h
            rcases hA' with ⟨e, _⟩ | ⟨_, rfl⟩
            · omega
            · refine ⟨b, o + k, rfl, hb, fun j x hx => ?_, HTY.out.imp fun cur h => (Below.heap_setCell _ _ _ _ hb).trans h⟩
              rw [List.getElem?_drop] at hx
              rw [World.cell?_setCell_other _ _ _ _ (fun e => hb (congrArg Addr.block e).symm), show o + k + j = o + (k + j) by omega]
              exact HC.out _ _ hx
        have F := Lib.hid FIN
        clear FIN h1 h2 h4 hr
        by_cases hck : c = k
        · subst hck
          have F1 := F.out _ (.inl ⟨rfl, rfl⟩)
          rw [Nat.sub_self, show bs.length - c = 0 by omega] at F1
          have F2 := Lib.hid F1
          clear F1 F
          go_wp2_with fail
          go_ret
          exact F2.out
        · go_wp2_with fail
          go_ret
          exact F.out _ (.inr ⟨hck, rfl⟩)
end Go.Proofs.Ythfafenigjldlaa
