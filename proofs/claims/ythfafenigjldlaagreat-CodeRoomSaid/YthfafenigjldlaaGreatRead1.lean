/-
  The walks of package wire: the Writer's Bytes; the Reader: NewReader, Num.
-/
import Derived.Test.YthfafenigjldlaaGreatWire1
import Derived.Laws.BitsAllLaws
import Derived.Laws.BitsLemmas
namespace Go.Proofs.YthfafenigjldlaaGreat
open Go.RowKit
set_option linter.unusedVariables false

theorem own_flat {w : World} {base : Nat} {T : TypeId} {n : Nat} {v : Value} {xs : List Value} (h : w.ownsRow base T 1 v n xs) : ∃ A c, v = .slice A n c ∧ Flat w 1 A n xs := by
  have h1 := h.1
  rcases h.2 with ⟨rfl, rfl⟩ | ⟨g, cap, cur, rfl, hg, hh, hn, hm, hs, ht⟩
  · exact ⟨none, 0, rfl, h1, fun h => by omega⟩
  · refine ⟨_, cap, rfl, h1, fun _ => ⟨g, 0, rfl, fun j u hu => ?_⟩⟩
    have hj : j < xs.length := (List.getElem?_eq_some_iff.1 hu).1
    rw [← ht, List.getElem?_take_of_lt (by omega)] at hu
    simp only [World.cell?, hh, Nat.zero_add]
    simpa using hu
theorem byV_one {bs : List UInt8} : ∀ u ∈ bs.map byV, u.oneCell' = true := by
  intro u hu
  obtain ⟨b, _, rfl⟩ := List.mem_map.1 hu
  rfl

theorem wBytes_any (B g : Nat) (ph : Bool) (bs : List UInt8) (w : World) (hl : bs.length ≤ 1000000) (hw : Wr B w g ph bs) :
    Calls Tryz.prog 89 #[.pointer (some ⟨g, 0, none⟩)] w (ClPost 5 1 bs.length (bs.map byV) w) := by
  obtain ⟨cs, v, h1, h2, h3, h4⟩ := hw.wr
  obtain ⟨A, c, rfl, hf⟩ := own_flat h4
  have c297 := h1.cell h3
  have HF := Lib.hid hf
  clear h1 h2 h3 h4 hw hf
  go_enter Tryz.func89, Tryz.ntmps89
  go_wp2_with fail
  refine (cl_byte A _ c _ _ HF.out byV_one (by omega)).mono ?_
  rintro e w' ⟨v, rfl, h1, h2⟩
  go_wp2_with fail
  go_ret
  exact ⟨v, rfl, h1, h2⟩

/-- the bytes from A on; they do not lie in block g -/
def Bys (w : World) (g : Nat) (A : Option Addr) (bs : List UInt8) : Prop :=
  0 < bs.length → ∃ b o, A = some ⟨b, o, none⟩ ∧ b ≠ g ∧ (∀ j x, bs[j]? = some x → w.cell? ⟨b, o + j, none⟩ = some (byV x)) ∧ ∃ cur, w.heap[b]? = some (.cells cur 5 (0, 0))
/-- a Reader at the head of block g: its table, what is left to be read, whether it went wrong -/
structure Rd (w : World) (g : Nat) (ph : Bool) (bs : List UInt8) (bad : Bool) : Prop where
  len : bs.length ≤ 4611686018427387904
  rd : ∃ cs A c, WB w g 166 cs ∧ TabA cs (tbP ph) ∧ cs[297]? = some (.slice A bs.length c) ∧ cs[298]? = some (.bool bad) ∧ bs.length ≤ c ∧ c ≤ maxLen ∧ Bys w g A bs

theorem Bys.keep {w w' : World} {g : Nat} {A : Option Addr} {bs : List UInt8} (h : Bys w g A bs) (hk : Keep (fun k => k = g) w w') : Bys w' g A bs := by
  intro h0
  obtain ⟨b, o, e, hb, hc, cur, ht⟩ := h h0
  refine ⟨b, o, e, hb, fun j x hx => hk.cell (hc j x hx) hb, cur, (hk.block b ?_ hb).trans ht⟩
  rcases Nat.lt_or_ge b w.heap.size with hl | hl
  · exact hl
  · rw [Array.getElem?_eq_none hl] at ht; cases ht

def numVal (bs : List UInt8) : Nat := bs.foldl (fun n x => n * 256 + x.toNat) 0

theorem wpList_value {P : Program} {ops : Array Oper} {rest : List Oper} {o : Oper} {a : Act} {w w' : World} {Q : Exit → Act → World → Prop} {v : Value} (hg : o.guard = none)
    (hrun : (execOp a.eval o).run P w = .ok (.value v) w') (h : wpList P ops Q rest (a.put o.dst v) w') : wpList P ops Q (o :: rest) a w :=
  wpList_plain hg fun K hK => by
    unfold Oper.wp
    rw [hrun]
    exact hK _ _ h

/-- a table that was not made yet, and what stands behind it -/
def newC (l : List Value) : Array Value := ((List.range 297).map (tbC tb0) ++ l).toArray
theorem newC_tab (l : List Value) : TabA (newC l) tb0 := by
  intro i hi
  unfold newC
  rw [List.getElem?_toArray, List.getElem?_append_left (by simpa using hi), List.getElem?_map, List.getElem?_range hi]
  rfl
theorem newC_at (l : List Value) (j : Nat) : (newC l)[297 + j]? = l[j]? := by
  unfold newC
  rw [List.getElem?_toArray, List.getElem?_append_right (by simp)]
  simp

/-- a Reader over a copy of the bytes -/
def RPost (bs : List UInt8) (w : World) (e : Ending) (w' : World) : Prop :=
  ∃ g, e = .returned (.pointer (some ⟨g, 0, none⟩)) ∧ w.heap.size ≤ g ∧ Ext w w' ∧ Rd w' g false bs false

theorem own_bys {w w' : World} {base g : Nat} {v : Value} {bs : List UInt8} (h : w.ownsRow base 5 1 v bs.length (bs.map byV)) (he : Ext w w') (hg : w.heap.size ≤ g) :
    ∃ A c, v = .slice A bs.length c ∧ bs.length ≤ c ∧ c ≤ maxLen ∧ Bys w' g A bs := by
  rcases h.2 with ⟨rfl, h0⟩ | ⟨g', cap, cur, rfl, hg', hh, hn, hm, hs, ht⟩
  · exact ⟨none, 0, by rw [h0], by omega, by simp [maxLen], fun h => by omega⟩
  · refine ⟨_, cap, rfl, hn, hm, fun _ => ⟨g', 0, rfl, ?_, fun j x hx => ?_, cur, ?_⟩⟩
    · have : g' < w.heap.size := by
        rcases Nat.lt_or_ge g' w.heap.size with hl | hl
        · exact hl
        · rw [Array.getElem?_eq_none hl] at hh; cases hh
      omega
    · have hj : j < bs.length := (List.getElem?_eq_some_iff.1 hx).1
      have hu : (bs.map byV)[j]? = some (byV x) := by rw [List.getElem?_map, hx]; rfl
      rw [← ht, List.getElem?_take_of_lt (by omega)] at hu
      refine he.cell (v := byV x) ?_
      simp only [World.cell?, hh, Nat.zero_add]
      simpa using hu
    · refine (he.block g' ?_).trans hh
      rcases Nat.lt_or_ge g' w.heap.size with hl | hl
      · exact hl
      · rw [Array.getElem?_eq_none hl] at hh; cases hh

set_option maxRecDepth 100000 in
set_option maxHeartbeats 1000000 in
theorem newReader_any (A : Option Addr) (c : Nat) (bs : List UInt8) (w : World) (hc : Flat w 1 A bs.length (bs.map byV)) (hl : bs.length ≤ 140737488355328) :
    Calls Tryz.prog 93 #[.slice A bs.length c] w (RPost bs w) := by
  have HF := Lib.hid hc
  clear hc
  go_enter Tryz.func93, Tryz.ntmps93
  go_wp2_with fail
  refine (cl_byte A _ c _ _ HF.out byV_one (by omega)).mono ?_
  rintro e w1 ⟨v, rfl, h1, h2⟩
  obtain ⟨A1, c1, rfl, b1, b2, b3⟩ := own_bys h1 (Ext.refl w1) (Nat.le_refl _)
  have HB : Hid (∀ o, Bys (w1.alloc o) w1.heap.size A1 bs) := fun o => b3.keep ((Keep.refl _ _).alloc o)
  have H2 := Lib.hid h2
  clear h1 h2 b3
  go_wp2_with (first
    | (refine wpList_value (o := ⟨some 5, _, _, _, _, _⟩) rfl (v := .agg (newC [.slice A1 bs.length c1, .bool false])) (w' := w1) (by kernel_rfl) ?_
       simp only [Act.put, List.setIfInBounds_toArray, List.set_cons_succ, List.set_cons_zero])
    | (refine wpList_value (o := ⟨some 6, _, _, _, _, _⟩) rfl (v := .pointer (some ⟨w1.heap.size, 0, none⟩)) (w' := w1.alloc (.cells (newC [.slice A1 bs.length c1, .bool false]) 166)) (by kernel_rfl) ?_
       simp only [Act.put, List.setIfInBounds_toArray, List.set_cons_succ, List.set_cons_zero]))
  go_ret
  exact ⟨_, rfl, Ext.size H2.out, H2.out.alloc _, by omega, _, A1, c1, WB.new _ _ _, newC_tab _, newC_at _ 0, newC_at _ 1, b1, b2, HB.out _⟩
end Go.Proofs.YthfafenigjldlaaGreat

/-
  The walks of package wire: the Reader's Num.
-/
namespace Go.Proofs.YthfafenigjldlaaGreat
open Go.RowKit
set_option linter.unusedVariables false

/-! ### what is read, as numbers -/
def valI (bs : List UInt8) : Int := IntKind.i64.wrap (numVal bs : Nat)
theorem numVal_snoc (l : List UInt8) (x : UInt8) : numVal (l ++ [x]) = numVal l * 256 + x.toNat := by simp [numVal, List.foldl_append]
theorem numVal_lt (l : List UInt8) : numVal l < 256 ^ l.length := by
  have : ∀ (l : List UInt8) (n k : Nat), n < 256 ^ k → l.foldl (fun n x => n * 256 + x.toNat) n < 256 ^ (k + l.length) := by
    intro l
    induction l with
    | nil => intro n k h; exact h
    | cons x l ih =>
      intro n k h
      have hx := x.toNat_lt
      have := ih (n * 256 + x.toNat) (k + 1) (by rw [Nat.pow_succ]; omega)
      simp only [List.foldl_cons, List.length_cons]
      rw [show k + (l.length + 1) = k + 1 + l.length by omega]
      exact this
  have h := this l 0 0 (by simp)
  rw [Nat.zero_add] at h
  exact h
/-- one byte more -/
theorem or_byte (u x : Nat) (hu : u < 72057594037927936) (hx : x < 256) : bits .or .i64 (IntKind.i64.wrap (IntKind.i64.wrap (u : Int) * 2 ^ 8)) (x : Int) = IntKind.i64.wrap ((u * 256 + x : Nat) : Int) := by
  have e1 : IntKind.i64.wrap (u : Int) = u := IntWalk.i64_in _ (by omega)
  have e2 : BitVec.ofInt 64 (IntKind.i64.wrap ((u : Int) * 2 ^ 8)) = BitVec.ofNat 64 (u * 256) := by
    rw [IntKind.wrap_i64]
    apply BitVec.eq_of_toNat_eq
    simp only [BitVec.toNat_ofInt, BitVec.toNat_ofNat]
    omega
  have e3 : (u * 256) ||| x = u * 256 + x := by
    rw [Nat.mul_comm u 256]
    exact (Nat.two_pow_add_eq_or_of_lt (i := 8) (b := x) (by omega) u).symm
  rw [e1]
  show IntKind.i64.wrap ((BitVec.ofInt 64 (IntKind.i64.wrap ((u : Int) * 2 ^ 8)) ||| BitVec.ofInt 64 (x : Int)).toNat : Int) = _
  rw [e2, BitVec.toNat_or, BitVec.toNat_ofNat, BitVec.ofInt_natCast, BitVec.toNat_ofNat, Nat.mod_eq_of_lt (by omega), Nat.mod_eq_of_lt (by omega), e3]

theorem valI_step {bs : List UInt8} {k : Nat} {x : UInt8} (hx : bs[k]? = some x) (hk : k < 8) : bits .or .i64 (wrap64 (valI (bs.take k) * 256)) (x.toNat : Int) = valI (bs.take (k + 1)) := by
  have h1 := numVal_lt (bs.take k)
  have h2 : (bs.take k).length ≤ 7 := by simp; omega
  have h3 : numVal (bs.take k) < 256 ^ 7 := Nat.lt_of_lt_of_le h1 (Nat.pow_le_pow_right (by omega) h2)
  have h := or_byte (numVal (bs.take k)) x.toNat (by omega) x.toNat_lt
  rw [take_at hx]
  unfold valI
  rw [numVal_snoc, ← h, ← IntWalk.i64_left]
  rfl

/-- what Num tells, what is left, whether it went wrong -/
def numF (size : Nat) (bs : List UInt8) (bad : Bool) : Int × List UInt8 × Bool := if bs.length < size then (0, [], true) else (valI (bs.take size), bs.drop size, bad)
def RNPost (g : Nat) (ph : Bool) (r : Int × List UInt8 × Bool) (w : World) (e : Ending) (w' : World) : Prop := e = .returned (.int .i64 r.1) ∧ Keep (fun k => k = g) w w' ∧ Rd w' g ph r.2.1 r.2.2

set_option maxHeartbeats 1000000 in
set_option maxRecDepth 10000 in
theorem rdNum_any (g : Nat) (ph : Bool) (bs : List UInt8) (bad : Bool) (size : Nat) (w : World) (hs1 : 1 ≤ size) (hs : size ≤ 8) (hr : Rd w g ph bs bad) :
    Calls Tryz.prog 94 #[.pointer (some ⟨g, 0, none⟩), .int .i64 size] w (RNPost g ph (numF size bs bad) w) := by
  obtain ⟨cs, A, c, h1, h2, h3, h4, h5, h6, h7⟩ := hr.rd
  have hl := hr.len
  have c297 := h1.cell h3
  have c298 := h1.cell h4
  have z297 := h1.fr 297
  have z298 := h1.fr 298
  have hcs : 298 < cs.size := (Array.getElem?_eq_some_iff.1 h4).1
  have hm : c ≤ 9223372036854775807 := by unfold maxLen at h6; omega
  by_cases hlt : bs.length < size
  · have hlt' : (bs.length : Int) < size := by omega
    have FIN : Hid (RNPost g ph (numF size bs bad) w (.returned (.int .i64 0)) ((w.setCell ⟨g, 298, none⟩ (.bool true)).setCell ⟨g, 297, none⟩ (.slice none 0 0))) := by
      unfold numF
      rw [if_pos hlt]
      refine ⟨rfl, ((Keep.refl (fun k => k = g) _).setCell (p := ⟨g, 298, none⟩) rfl _).setCell (p := ⟨g, 297, none⟩) rfl _, by simp, _, none, 0, (h1.set 298 _).set 297 _, fun i hi => ?_, ?_, ?_, by simp, by simp [maxLen], fun h => by simp at h⟩
      · rw [Array.getElem?_setIfInBounds_ne (by omega), Array.getElem?_setIfInBounds_ne (by omega)]; exact h2 i hi
      · rw [Array.getElem?_setIfInBounds_self_of_lt (by simp; omega)]; rfl
      · rw [Array.getElem?_setIfInBounds_ne (by omega), Array.getElem?_setIfInBounds_self_of_lt (by omega)]
    clear h1 h2 h3 h4 h5 h7 hr hlt
    go_enter Tryz.func94, Tryz.ntmps94
    go_wp2_with fail
    go_ret
    exact FIN.out
  · have hge : (size : Int) ≤ bs.length := by omega
    obtain ⟨b, o, rfl, hb, hcell, hty⟩ := h7 (by omega)
    have HTY := Lib.hid hty
    have HC := Lib.hid hcell
    clear hcell h7 hty
    go_enter Tryz.func94, Tryz.ntmps94
    go_wp2_with fail
    go_loop [5, 28] (fun a i => ∃ k : Nat, k ≤ size ∧ i = .int .i64 k ∧ a = .int .i64 (valI (bs.take k))) (fun _ i => size - (intOf i).toNat)
    case atStart => exact ⟨0, by omega, rfl, rfl⟩
    case round =>
      obtain ⟨k, hk, rfl, rfl⟩ := hrel
      by_cases hlk : k < size
      · have hlk' : (k : Int) < size := by omega
        obtain ⟨x, hx⟩ := get_of (show k < bs.length by omega)
        have cx := HC.out k x hx
        unfold byV at cx
        have h256 := x.toNat_lt
        go_wp2_with fail
        have hstep := valI_step hx (by omega)
        go_round
        case rel => exact ⟨k + 1, by omega, by go_num, by rw [hstep]⟩
        case measure => simp [intOf]; omega
      · obtain rfl : k = size := by omega
        have FIN : ∀ A', (c = k ∧ A' = ⟨b, o, none⟩ ∨ c ≠ k ∧ A' = ⟨b, o + k, none⟩) → RNPost g ph (numF k bs bad) w (.returned (.int .i64 (valI (bs.take k)))) (w.setCell ⟨g, 297, none⟩ (.slice (some A') (bs.length - k) (c - k))) := by
          intro A' hA'
          unfold numF
          rw [if_neg hlt]
          refine ⟨rfl, (Keep.refl (fun k => k = g) _).setCell (p := ⟨g, 297, none⟩) rfl _, by simp; omega, _, some A', c - k, h1.set 297 _, fun i hi => ?_, ?_, ?_, by simp; omega, by omega, fun h => ?_⟩
          · rw [Array.getElem?_setIfInBounds_ne (by omega)]; exact h2 i hi
          · rw [Array.getElem?_setIfInBounds_self_of_lt (by omega), List.length_drop]
          · rw [Array.getElem?_setIfInBounds_ne (by omega)]; exact h4
          · rw [List.length_drop] at h
            rcases hA' with ⟨e, _⟩ | ⟨_, rfl⟩
            · omega
            · refine ⟨b, o + k, rfl, hb, fun j x hx => ?_, HTY.out.imp fun cur h => (Below.heap_setCell _ _ _ _ hb).trans h⟩
              rw [List.getElem?_drop] at hx
              rw [World.cell?_setCell_other _ _ _ _ (fun e => hb (congrArg Addr.block e).symm), show o + k + j = o + (k + j) by omega]
              exact HC.out _ _ hx
        have F := Lib.hid FIN
        clear FIN h1 h2 h4 hr
        by_cases hck : c = k
        · subst hck
          have F1 := F.out _ (.inl ⟨rfl, rfl⟩)
          rw [Nat.sub_self, show bs.length - c = 0 by omega] at F1
          have F2 := Lib.hid F1
          clear F1 F
          go_wp2_with fail
          go_ret
          exact F2.out
        · go_wp2_with fail
          go_ret
          exact F.out _ (.inr ⟨hck, rfl⟩)
end Go.Proofs.YthfafenigjldlaaGreat

/-
  The walks of package wire: the Reader's Bool, End, Count.
-/
namespace Go.Proofs.YthfafenigjldlaaGreat
open Go.RowKit
set_option linter.unusedVariables false

theorem rdNumI (g : Nat) (ph : Bool) (bs : List UInt8) (bad : Bool) (z : Int) (w : World) (h1 : 1 ≤ z) (h2 : z ≤ 8) (hr : Rd w g ph bs bad) :
    Calls Tryz.prog 94 #[.pointer (some ⟨g, 0, none⟩), .int .i64 z] w (RNPost g ph (numF z.toNat bs bad) w) := by
  obtain ⟨n, rfl⟩ := Int.eq_ofNat_of_zero_le (show 0 ≤ z by omega)
  exact rdNum_any g ph bs bad n w (by omega) (by omega) hr

def RBPost (g : Nat) (ph : Bool) (r : Bool × List UInt8 × Bool) (w : World) (e : Ending) (w' : World) : Prop := e = .returned (.bool r.1) ∧ Keep (fun k => k = g) w w' ∧ Rd w' g ph r.2.1 r.2.2
def boolF (bs : List UInt8) (bad : Bool) : Bool × List UInt8 × Bool := ((numF 1 bs bad).1 == 1, (numF 1 bs bad).2)

theorem rdBool_any (g : Nat) (ph : Bool) (bs : List UInt8) (bad : Bool) (w : World) (hr : Rd w g ph bs bad) :
    Calls Tryz.prog 101 #[.pointer (some ⟨g, 0, none⟩)] w (RBPost g ph (boolF bs bad) w) := by
  go_enter Tryz.func101, Tryz.ntmps101
  go_wp2_with fail
  refine (rdNumI g ph bs bad _ _ (by omega) (by omega) hr).mono ?_
  rintro e w' ⟨rfl, h1, h2⟩
  go_wp2_with fail
  go_ret
  exact ⟨rfl, h1, h2⟩

theorem rdEnd_any (g : Nat) (ph : Bool) (bs : List UInt8) (bad : Bool) (w : World) (hr : Rd w g ph bs bad) :
    Calls Tryz.prog 102 #[.pointer (some ⟨g, 0, none⟩)] w fun e w' => e = .returned (.bool (!bad && bs.isEmpty)) ∧ w = w' := by
  obtain ⟨cs, A, c, h1, h2, h3, h4, h5, h6, h7⟩ := hr.rd
  have c297 := h1.cell h3
  have c298 := h1.cell h4
  clear h1 h2 h3 h4 h5 h6 h7 hr
  cases bad
  · cases bs with
    | nil =>
      go_enter Tryz.func102, Tryz.ntmps102
      go_wp2_with fail
      go_ret
      exact ⟨rfl, rfl⟩
    | cons x xs =>
      have hx : ((xs.length : Int) + 1 == 0) = false := by simp; omega
      go_enter Tryz.func102, Tryz.ntmps102
      go_wp2_with fail
      go_ret
      exact ⟨rfl, rfl⟩
  · go_enter Tryz.func102, Tryz.ntmps102
    go_wp2_with fail
    go_ret
    exact ⟨rfl, rfl⟩

/-- how many there are: no more than there are bytes left -/
def countF (size : Nat) (bs : List UInt8) (bad : Bool) : Int × List UInt8 × Bool :=
  if ((numF size bs bad).2.1.length : Int) < (numF size bs bad).1 then (0, [], true) else numF size bs bad

set_option maxHeartbeats 400000 in
theorem rdCount_any (g : Nat) (ph : Bool) (bs : List UInt8) (bad : Bool) (z : Int) (w : World) (hz1 : 1 ≤ z) (hz2 : z ≤ 8) (hr : Rd w g ph bs bad) :
    Calls Tryz.prog 97 #[.pointer (some ⟨g, 0, none⟩), .int .i64 z] w (RNPost g ph (countF z.toNat bs bad) w) := by
  have HC : Hid (countF z.toNat bs bad = if ((numF z.toNat bs bad).2.1.length : Int) < (numF z.toNat bs bad).1 then (0, [], true) else numF z.toNat bs bad) := rfl
  have HN := Lib.hid (rdNumI g ph bs bad z w hz1 hz2 hr)
  clear hr
  obtain ⟨r, hr⟩ : ∃ r, r = numF z.toNat bs bad := ⟨_, rfl⟩
  obtain ⟨n, bs', bad'⟩ := r
  rw [← hr] at HC HN
  clear hr
  simp only at HC
  go_enter Tryz.func97, Tryz.ntmps97
  go_wp2_with fail
  refine HN.out.mono ?_
  rintro e w1 ⟨rfl, k1, r1⟩
  simp only at r1 ⊢
  obtain ⟨cs, A, c, h1, h2, h3, h4, h5, h6, h7⟩ := r1.rd
  have c297 := h1.cell h3
  have c298 := h1.cell h4
  have z297 := h1.fr 297
  have z298 := h1.fr 298
  have hcs : 298 < cs.size := (Array.getElem?_eq_some_iff.1 h4).1
  by_cases hlt : (bs'.length : Int) < n
  · have FIN : Hid (RNPost g ph (countF z.toNat bs bad) w (.returned (.int .i64 0)) ((w1.setCell ⟨g, 298, none⟩ (.bool true)).setCell ⟨g, 297, none⟩ (.slice none 0 0))) := by
      rw [HC.out, if_pos hlt]
      refine ⟨rfl, (k1.setCell (p := ⟨g, 298, none⟩) rfl _).setCell (p := ⟨g, 297, none⟩) rfl _, by simp, _, none, 0, (h1.set 298 _).set 297 _, fun i hi => ?_, ?_, ?_, by simp, by simp [maxLen], fun h => by simp at h⟩
      · rw [Array.getElem?_setIfInBounds_ne (by omega), Array.getElem?_setIfInBounds_ne (by omega)]; exact h2 i hi
      · rw [Array.getElem?_setIfInBounds_self_of_lt (by simp; omega)]; rfl
      · rw [Array.getElem?_setIfInBounds_ne (by omega), Array.getElem?_setIfInBounds_self_of_lt (by omega)]
    clear h1 h2 h3 h4 h5 h6 h7 r1 k1 HN HC
    go_wp2_with fail
    go_ret
    exact FIN.out
  · have FIN : Hid (RNPost g ph (countF z.toNat bs bad) w (.returned (.int .i64 n)) w1) := by
      rw [HC.out, if_neg hlt]
      exact ⟨rfl, k1, r1⟩
    clear h1 h2 h3 h4 h5 h6 h7 r1 k1 HN HC
    go_wp2_with fail
    go_ret
    exact FIN.out
end Go.Proofs.YthfafenigjldlaaGreat
