/-
  The walks of package wire: the Writer's other calls.
-/
import Derived.Test.YthfafenigjldlaaWire1
namespace Go.Proofs.Ythfafenigjldlaa
open Go.RowKit
set_option linter.unusedVariables false

theorem Below.drewN' {B : Nat} {a w : World} (h : Below B a w) (n : Nat) : Below B a (w.drewN n) := ⟨h.os, h.tape, h.output, h.size, h.block⟩
theorem Wr.drewN {B g : Nat} {w : World} {ph : Bool} {bs : List UInt8} (h : Wr B w g ph bs) (n : Nat) : Wr B (w.drewN n) g ph bs := ⟨h.base, h.wr⟩
theorem wNumI (B g : Nat) (ph : Bool) (bs : List UInt8) (a z : Int) (w : World) (h1 : 0 ≤ a) (h2 : a ≤ 9223372036854775807) (h3 : 0 ≤ z) (h4 : z ≤ 8) (hl : bs.length ≤ 1000000) (hw : Wr B w g ph bs) :
    Calls Try.prog 34 #[.pointer (some ⟨g, 0, none⟩), .int .i64 a, .int .i64 z] w (NPost B g ph (bs ++ numB a.toNat z.toNat) w) := by
  obtain ⟨n, rfl⟩ := Int.eq_ofNat_of_zero_le h1
  obtain ⟨m, rfl⟩ := Int.eq_ofNat_of_zero_le h3
  exact wNum_any B g ph bs n m w (by omega) (by omega) hl hw

theorem wBool_any (B g : Nat) (ph : Bool) (bs : List UInt8) (b : Bool) (w : World) (hl : bs.length ≤ 1000000) (hw : Wr B w g ph bs) :
    Calls Try.prog 40 #[.pointer (some ⟨g, 0, none⟩), .bool b] w (NPost B g ph (bs ++ numB b.toNat 1) w) := by
  have HF := Lib.hid (fun a z w' h1 h2 h3 h4 (hw : Wr B w' g ph bs) => wNumI B g ph bs a z w' h1 h2 h3 h4 hl hw)
  cases b
  · go_enter Try.func40, Try.ntmps40
    go_wp2_with fail
    refine (HF.out _ _ _ (by omega) (by omega) (by omega) (by omega) hw).mono ?_
    rintro e w' ⟨rfl, h1, h2⟩
    go_wp2_with fail
    go_end0
    exact ⟨rfl, h1, h2⟩
  · go_enter Try.func40, Try.ntmps40
    go_wp2_with fail
    refine (HF.out _ _ _ (by omega) (by omega) (by omega) (by omega) hw).mono ?_
    rintro e w' ⟨rfl, h1, h2⟩
    go_wp2_with fail
    go_end0
    exact ⟨rfl, h1, h2⟩

/-! ### names -/
/-- a byte's digit -/
def dig (b : Nat) : Nat := tb1.o b
theorem adds_o_le {M : Nat} (l : List Nat) : ∀ (t : Tb) (n : Nat), (∀ b, t.o b ≤ M) → n + l.length ≤ M → ∀ b, (t.adds n l).o b ≤ M := by
  induction l with
  | nil => intro t n h _ b; exact h b
  | cons x l ih =>
    intro t n h hn b
    simp only [List.length_cons] at hn
    refine ih _ _ (fun b => ?_) (by omega) b
    simp only [Tb.add, updN]
    split
    · omega
    · exact h b
theorem dig_le (b : Nat) : dig b ≤ 37 :=
  adds_o_le (M := 37) (letters.take 37) ({ tb0 with m := 1 } : Tb) 0 (fun _ => Nat.zero_le _) (by decide) b
/-- what Name has reckoned behind k rounds -/
def nameK (s : List UInt8) : Nat → Nat
  | 0 => 0
  | k + 1 => nameK s k * 38 + (match s[k]? with | some b => dig b.toNat | none => 0)
theorem nameK_lt (s : List UInt8) (k : Nat) : nameK s k < 38 ^ k := by
  induction k with
  | zero => simp [nameK]
  | succ k ih =>
    have h : (match s[k]? with | some b => dig b.toNat | none => 0) ≤ 37 := by split; exact dig_le _; omega
    simp only [nameK, Nat.pow_succ]
    omega
def nameB8 (s : ByteArray) : List UInt8 := numB (nameK s.data.toList 12) 8

theorem Wr.made {B g : Nat} {bs : List UInt8} {w w' : World} {cs : Array Value} {v : Value} {e : Ending} (hb : B ≤ g) (h1 : WB w g 96 cs) (h3 : cs[297]? = some v) (h4 : w.ownsRow B 5 1 v bs.length (bs.map byV))
    (hp : MPost g 96 cs tb1 w e w') : e = .returned (.tuple #[]) ∧ Bel B w w' ∧ Wr B w' g true bs := by
  obtain ⟨p1, p2, cs', p3, p4, p5⟩ := hp
  refine ⟨p1, ⟨⟨p2.os, p2.tape, p2.output, p2.size, fun k hk => p2.block k (by have := h1.lt; omega) (by omega)⟩, fun k hk => p2.block k hk.lt (fun e => h1.not_still (e ▸ hk))⟩, hb, cs', v, p3, p4, (p5.2 297 (by omega)).trans h3, h4.1, ?_⟩
  have hne := own_ne h4 h1 (by decide)
  rcases h4.2 with h | ⟨g', cap, cur, rfl, hg', hh, r⟩
  · exact .inl h
  · refine .inr ⟨g', cap, cur, rfl, hg', ?_, r⟩
    rw [p2.block g' ?_ (by simpa [Value.ownBlock] using hne)]
    · exact hh
    · rcases Nat.lt_or_ge g' w.heap.size with hl | hl
      · exact hl
      · rw [Array.getElem?_eq_none hl] at hh; cases hh

set_option maxHeartbeats 1000000 in
theorem wName_any (B g : Nat) (ph : Bool) (bs : List UInt8) (s : ByteArray) (w : World) (hs : okS s) (hl : bs.length ≤ 1000000) (hw : Wr B w g ph bs) :
    Calls Try.prog 35 #[.pointer (some ⟨g, 0, none⟩), .string s] w (NPost B g true (bs ++ nameB8 s) w) := by
  unfold okS maxLen at hs
  obtain ⟨cs, v, h1, h2, h3, h4⟩ := hw.wr
  have hb := hw.base
  have HM : Hid (Calls Try.prog 67 #[.pointer (some ⟨g, 0, none⟩)] w fun e w' => e = .returned (.tuple #[]) ∧ Bel B w w' ∧ Wr B w' g true bs) :=
    (make_any g _ cs ph w h1 h2).mono fun e w' hp => Wr.made hb h1 h3 h4 hp
  clear h1 h2 h3 h4 hw
  go_enter Try.func35, Try.ntmps35
  go_wp2_with fail
  refine HM.out.mono ?_
  rintro e w1 ⟨rfl, b1, hw1⟩
  obtain ⟨cs, v, h1, h2, h3, h4⟩ := hw1.wr
  have HO : Hid (∀ b : UInt8, w1.cell? ⟨g, 3 + b.toNat, none⟩ = some (.int .u64 (dig b.toNat : Nat))) := fun b => h1.cell (h2.at_o b.toNat_lt)
  clear h1 h2 h3 h4 HM
  go_wp2_with fail
  go_loopw [4, 10] (fun a i wr => ∃ k n : Nat, k ≤ 12 ∧ i = .int .i64 k ∧ a = .int .u64 (nameK s.data.toList k : Nat) ∧ wr = w1.drewN n) (fun _ i _ => 12 - (intOf i).toNat)
  case atStart => exact ⟨0, 0, by omega, rfl, rfl, rfl⟩
  case round =>
    obtain ⟨k, n, hk, rfl, rfl, rfl⟩ := hrel
    by_cases hlt : k < 12
    · have hlt' : (k : Int) < 12 := by omega
      have hb1 : nameK s.data.toList k < 38 ^ 11 := Nat.lt_of_lt_of_le (nameK_lt _ k) (Nat.pow_le_pow_right (by omega) (by omega))
      obtain ⟨m, hm⟩ : ∃ m, m = nameK s.data.toList k := ⟨_, rfl⟩
      rw [← hm] at hb1 ⊢
      have HM := Lib.hid hm
      clear hm
      have hb2 : m * 38 < 9065737908494995456 := by omega
      obtain ⟨m2, hm2⟩ : ∃ m2, m2 = m * 38 := ⟨_, rfl⟩
      rw [← hm2] at hb2
      have s1 : IntKind.u64.wrap ((m : Int) * 38) = (m2 : Int) := by rw [IntKind.wrap_u64]; omega
      have HM2 := Lib.hid hm2
      clear hm2 hb1
      by_cases hks : k < s.size
      · have hks' : (k : Int) < s.size := by omega
        have ho := HO.out s[k]
        have h256 : ((s[k].toNat : Nat) : Int) < 256 := by have := s[k].toNat_lt; omega
        have hd := dig_le s[k].toNat
        obtain ⟨d, hdd⟩ : ∃ d, d = dig s[k].toNat := ⟨_, rfl⟩
        rw [← hdd] at ho hd
        have HD := Lib.hid hdd
        have s2 : IntKind.u64.wrap ((m2 : Int) + (d : Int)) = ((m2 + d : Nat) : Int) := by rw [IntKind.wrap_u64]; omega
        clear hdd
        go_wp2_with fail
        go_region
        all_goals go_wp2_with fail
        all_goals go_roundw
        case rel => exact ⟨k + 1, n + 1, by omega, by go_num, by
          have e : s.data.toList[k]? = some s[k] := by rw [List.getElem?_eq_getElem (by simpa using hks)]; rfl
          simp only [nameK, e, ← HM.out, ← HM2.out, ← HD.out]; go_num, rfl⟩
        case measure => simp [intOf]; omega
      · have hks' : (s.size : Int) ≤ k := by omega
        go_wp2_with fail
        go_roundw
        case rel => exact ⟨k + 1, n, by omega, by go_num, by
          have e : s.data.toList[k]? = none := by rw [List.getElem?_eq_none (by simpa using hks)]
          simp only [nameK, e, ← HM.out, ← HM2.out]; rfl, rfl⟩
        case measure => simp [intOf]; omega
    · obtain rfl : k = 12 := by omega
      have hb1 := nameK_lt s.data.toList 12
      have hfin : Hid (nameB8 s = numB (nameK s.data.toList 12) 8) := rfl
      obtain ⟨m, hm⟩ : ∃ m, m = nameK s.data.toList 12 := ⟨_, rfl⟩
      rw [← hm] at hb1 ⊢
      have HM := Lib.hid hm
      have hb2 : m < 9065737908494995456 := by omega
      clear hm hb1
      go_wp2_with fail
      refine (wNumI B g true bs _ _ _ (by omega) (by omega) (by omega) (by omega) hl ?hw).mono ?_
      case hw => exact hw1.drewN n
      rintro e w' ⟨rfl, h1, h2⟩
      go_wp2_with fail
      go_end0
      refine ⟨rfl, b1.trans (((Bel.refl _ _).drewN n).trans h1), ?_⟩
      rw [hfin.out, ← HM.out]
      simpa using h2
end Go.Proofs.Ythfafenigjldlaa
