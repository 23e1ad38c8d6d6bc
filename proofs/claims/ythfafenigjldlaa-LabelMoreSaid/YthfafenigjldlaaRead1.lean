/-
  The walks of package wire: the Writer's Bytes; the Reader: NewReader, Num.
-/
import Derived.Test.YthfafenigjldlaaClone1
import Derived.Laws.BitsAllLaws
import Derived.Laws.BitsLemmas
namespace Go.Proofs.Ythfafenigjldlaa
open Go.RowKit
set_option linter.unusedVariables false

theorem own_flat {w : World} {base : Nat} {T : TypeId} {n : Nat} {v : Value} {xs : List Value} (h : w.ownsRow base T 1 v n xs) : ∃ A c, v = .slice A n c ∧ Flat w 1 A n xs := by
  have h1 := h.1
  rcases h.2 with ⟨rfl, rfl⟩ | ⟨g, cap, cur, rfl, hg, hh, hn, hm, hs, ht⟩
  · exact ⟨none, 0, rfl, h1, fun h => by omega⟩
  · refine ⟨_, cap, rfl, h1, fun _ => ⟨g, 0, rfl, fun j u hu => ?_⟩⟩
    have hj : j < xs.length := (List.getElem?_eq_some_iff.1 hu).1
    rw [← ht, List.getElem?_take_of_lt (by omega)] at hu
    simp only [World.cell?, hh, Nat.zero_add]
    simpa using hu
theorem byV_one {bs : List UInt8} : ∀ u ∈ bs.map byV, u.oneCell' = true := by
  intro u hu
  obtain ⟨b, _, rfl⟩ := List.mem_map.1 hu
  rfl

theorem wBytes_any (B g : Nat) (ph : Bool) (bs : List UInt8) (w : World) (hl : bs.length ≤ 1000000) (hw : Wr B w g ph bs) :
    Calls Try.prog 41 #[.pointer (some ⟨g, 0, none⟩)] w (ClPost 5 1 bs.length (bs.map byV) w) := by
  obtain ⟨cs, v, h1, h2, h3, h4⟩ := hw.wr
  obtain ⟨A, c, rfl, hf⟩ := own_flat h4
  have c297 := h1.cell h3
  have HF := Lib.hid hf
  clear h1 h2 h3 h4 hw hf
  go_enter Try.func41, Try.ntmps41
  go_wp2_with fail
  refine (cl_byte A _ c _ _ HF.out byV_one (by omega)).mono ?_
  rintro e w' ⟨v, rfl, h1, h2⟩
  go_wp2_with fail
  go_ret
  exact ⟨v, rfl, h1, h2⟩

/-- the bytes from A on; they do not lie in block g -/
def Bys (w : World) (g : Nat) (A : Option Addr) (bs : List UInt8) : Prop :=
  0 < bs.length → ∃ b o, A = some ⟨b, o, none⟩ ∧ b ≠ g ∧ (∀ j x, bs[j]? = some x → w.cell? ⟨b, o + j, none⟩ = some (byV x)) ∧ ∃ cur, w.heap[b]? = some (.cells cur 5 (0, 0))
/-- a Reader at the head of block g: its table, what is left to be read, whether it went wrong -/
structure Rd (w : World) (g : Nat) (ph : Bool) (bs : List UInt8) (bad : Bool) : Prop where
  len : bs.length ≤ 4611686018427387904
  rd : ∃ cs A c, WB w g 132 cs ∧ TabA cs (tbP ph) ∧ cs[297]? = some (.slice A bs.length c) ∧ cs[298]? = some (.bool bad) ∧ bs.length ≤ c ∧ c ≤ maxLen ∧ Bys w g A bs

theorem Bys.keep {w w' : World} {g : Nat} {A : Option Addr} {bs : List UInt8} (h : Bys w g A bs) (hk : Keep (fun k => k = g) w w') : Bys w' g A bs := by
  intro h0
  obtain ⟨b, o, e, hb, hc, cur, ht⟩ := h h0
  refine ⟨b, o, e, hb, fun j x hx => hk.cell (hc j x hx) hb, cur, (hk.block b ?_ hb).trans ht⟩
  rcases Nat.lt_or_ge b w.heap.size with hl | hl
  · exact hl
  · rw [Array.getElem?_eq_none hl] at ht; cases ht

def numVal (bs : List UInt8) : Nat := bs.foldl (fun n x => n * 256 + x.toNat) 0

theorem wpList_value {P : Program} {ops : Array Oper} {rest : List Oper} {o : Oper} {a : Act} {w w' : World} {Q : Exit → Act → World → Prop} {v : Value} (hg : o.guard = none)
    (hrun : (execOp a.eval o).run P w = .ok (.value v) w') (h : wpList P ops Q rest (a.put o.dst v) w') : wpList P ops Q (o :: rest) a w :=
  wpList_plain hg fun K hK => by
    unfold Oper.wp
    rw [hrun]
    exact hK _ _ h

/-- a table that was not made yet, and what stands behind it -/
def newC (l : List Value) : Array Value := ((List.range 297).map (tbC tb0) ++ l).toArray
theorem newC_tab (l : List Value) : TabA (newC l) tb0 := by
  intro i hi
  unfold newC
  rw [List.getElem?_toArray, List.getElem?_append_left (by simpa using hi), List.getElem?_map, List.getElem?_range hi]
  rfl
theorem newC_at (l : List Value) (j : Nat) : (newC l)[297 + j]? = l[j]? := by
  unfold newC
  rw [List.getElem?_toArray, List.getElem?_append_right (by simp)]
  simp

/-- a Reader over a copy of the bytes -/
def RPost (bs : List UInt8) (w : World) (e : Ending) (w' : World) : Prop :=
  ∃ g, e = .returned (.pointer (some ⟨g, 0, none⟩)) ∧ w.heap.size ≤ g ∧ Ext w w' ∧ Rd w' g false bs false

theorem own_bys {w w' : World} {base g : Nat} {v : Value} {bs : List UInt8} (h : w.ownsRow base 5 1 v bs.length (bs.map byV)) (he : Ext w w') (hg : w.heap.size ≤ g) :
    ∃ A c, v = .slice A bs.length c ∧ bs.length ≤ c ∧ c ≤ maxLen ∧ Bys w' g A bs := by
  rcases h.2 with ⟨rfl, h0⟩ | ⟨g', cap, cur, rfl, hg', hh, hn, hm, hs, ht⟩
  · exact ⟨none, 0, by rw [h0], by omega, by simp [maxLen], fun h => by omega⟩
  · refine ⟨_, cap, rfl, hn, hm, fun _ => ⟨g', 0, rfl, ?_, fun j x hx => ?_, cur, ?_⟩⟩
    · have : g' < w.heap.size := by
        rcases Nat.lt_or_ge g' w.heap.size with hl | hl
        · exact hl
        · rw [Array.getElem?_eq_none hl] at hh; cases hh
      omega
    · have hj : j < bs.length := (List.getElem?_eq_some_iff.1 hx).1
      have hu : (bs.map byV)[j]? = some (byV x) := by rw [List.getElem?_map, hx]; rfl
      rw [← ht, List.getElem?_take_of_lt (by omega)] at hu
      refine he.cell (v := byV x) ?_
      simp only [World.cell?, hh, Nat.zero_add]
      simpa using hu
    · refine (he.block g' ?_).trans hh
      rcases Nat.lt_or_ge g' w.heap.size with hl | hl
      · exact hl
      · rw [Array.getElem?_eq_none hl] at hh; cases hh

set_option maxRecDepth 100000 in
set_option maxHeartbeats 1000000 in
theorem newReader_any (A : Option Addr) (c : Nat) (bs : List UInt8) (w : World) (hc : Flat w 1 A bs.length (bs.map byV)) (hl : bs.length ≤ 140737488355328) :
    Calls Try.prog 42 #[.slice A bs.length c] w (RPost bs w) := by
  have HF := Lib.hid hc
  clear hc
  go_enter Try.func42, Try.ntmps42
  go_wp2_with fail
  refine (cl_byte A _ c _ _ HF.out byV_one (by omega)).mono ?_
  rintro e w1 ⟨v, rfl, h1, h2⟩
  obtain ⟨A1, c1, rfl, b1, b2, b3⟩ := own_bys h1 (Ext.refl w1) (Nat.le_refl _)
  have HB : Hid (∀ o, Bys (w1.alloc o) w1.heap.size A1 bs) := fun o => b3.keep ((Keep.refl _ _).alloc o)
  have H2 := Lib.hid h2
  clear h1 h2 b3
  go_wp2_with (first
    | (refine wpList_value (o := ⟨some 5, _, _, _, _, _⟩) rfl (v := .agg (newC [.slice A1 bs.length c1, .bool false])) (w' := w1) (by kernel_rfl) ?_
       simp only [Act.put, List.setIfInBounds_toArray, List.set_cons_succ, List.set_cons_zero])
    | (refine wpList_value (o := ⟨some 6, _, _, _, _, _⟩) rfl (v := .pointer (some ⟨w1.heap.size, 0, none⟩)) (w' := w1.alloc (.cells (newC [.slice A1 bs.length c1, .bool false]) 132)) (by kernel_rfl) ?_
       simp only [Act.put, List.setIfInBounds_toArray, List.set_cons_succ, List.set_cons_zero]))
  go_ret
  exact ⟨_, rfl, Ext.size H2.out, H2.out.alloc _, by omega, _, A1, c1, WB.new _ _ _, newC_tab _, newC_at _ 0, newC_at _ 1, b1, b2, HB.out _⟩
end Go.Proofs.Ythfafenigjldlaa
