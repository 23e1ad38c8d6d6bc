/-
  The walks of package wire's table: the closure that lays one digit.
-/
import Derived.Test.YthfafenigjldlaaTab1
namespace Go.Proofs.Ythfafenigjldlaa
open Go.RowKit
set_option linter.unusedVariables false

/-- one digit is laid -/
def GPost (g nb n b : Nat) (T : TypeId) (cs : Array Value) (t : Tb) (w : World) (e : Ending) (w' : World) : Prop :=
  e = .returned (.tuple #[]) ∧ Keep (fun k => k = g ∨ k = nb) w w' ∧ w'.cell? ⟨nb, 0, none⟩ = some (.int .u64 (n + 1 : Nat)) ∧ w'.frozen? ⟨nb, 0, none⟩ = false ∧
    ∃ cs', WB w' g T cs' ∧ TabA cs' (t.add n b) ∧ Tail cs cs'

set_option maxHeartbeats 1000000 in
theorem tabG_any (g nb n b : Nat) (pb : Nat) (T : TypeId) (cs : Array Value) (t : Tb) (w : World) (hb : b < 256) (hn : n < 37) (hw : WB w g T cs) (ht : TabA cs t)
    (hg : g ≠ nb) (hp : g ≠ pb) (hq : nb ≠ pb) (c1 : w.cell? ⟨nb, 0, none⟩ = some (.int .u64 n)) (z1 : w.frozen? ⟨nb, 0, none⟩ = false) (c2 : w.cell? ⟨pb, 0, none⟩ = some (.pointer (some ⟨g, 0, none⟩))) :
    Calls Try.prog 80 #[.int .u8 b, .pointer (some ⟨nb, 0, none⟩), .pointer (some ⟨pb, 0, none⟩)] w (GPost g nb n b T cs t w) := by
  have o1 := hw.cell (ht.at_o hb)
  have o2 := hw.cell (ht.at_b (n := n + 1) (by omega))
  have z2 := hw.fr (3 + b)
  have z3 := hw.fr (259 + (n + 1))
  have hb' : (b : Int) < 256 := by omega
  have hn' : (n : Int) < 37 := by omega
  have HW := Lib.hid hw
  have HT := Lib.hid ht
  clear hw ht
  go_enter Try.func80, Try.ntmps80
  go_wp2_with fail
  go_region
  go_end0
  have e0 : ((n : Int) + 1) = ((n + 1 : Nat) : Int) := by omega
  rw [e0]
  have e1 : (w.setCell ⟨nb, 0, none⟩ (.int .u64 ((n + 1 : Nat) : Int))).cell? ⟨nb, 0, none⟩ = some (.int .u64 ((n + 1 : Nat) : Int)) := World.cell?_setCell_same w _ _ c1
  have k1 : Keep (fun k => k = g) (w.setCell ⟨nb, 0, none⟩ (.int .u64 ((n + 1 : Nat) : Int))) ((((w.setCell ⟨nb, 0, none⟩ (.int .u64 ((n + 1 : Nat) : Int))).setCell ⟨g, 3 + b, none⟩ (.int .u64 ((n + 1 : Nat) : Int))).setCell ⟨g, 259 + (n + 1), none⟩ (.int .u8 b)).drew) :=
    (((Keep.refl (fun k => k = g) _).setCell (p := ⟨g, 3 + b, none⟩) rfl _).setCell (p := ⟨g, 259 + (n + 1), none⟩) rfl _).drew
  refine ⟨rfl, ((((Keep.refl _ w).setCell (Or.inr rfl) _).setCell (Or.inl rfl) _).setCell (Or.inl rfl) _).drew, k1.cell e1 (fun h => hg h.symm), ?_, _, (((HW.out.far hg _).set _ _).set _ _).drew, ?_, ?_⟩
  · have f1 : (w.setCell ⟨nb, 0, none⟩ (.int .u64 ((n + 1 : Nat) : Int))).frozen? ⟨nb, 0, none⟩ = false := by simp [z1]
    rw [World.frozen?_of_block (w := w.setCell ⟨nb, 0, none⟩ (.int .u64 ((n + 1 : Nat) : Int))) (k1.block nb (by simpa using cell_lt e1) (fun h => hg h.symm))]
    exact f1
  · exact (HT.out.o hb (n + 1)).b (n := n + 1) (by omega) b
  · exact (Tail.set _ (by omega) _).trans (Tail.set _ (by omega) _)

/-- the bytes that are laid, one behind the other -/
def letters : List Nat := [97, 98, 99, 100, 101, 102, 103, 104, 105, 106, 107, 108, 109, 110, 111, 112, 113, 114, 115, 116, 117, 118, 119, 120, 121, 122, 48, 49, 50, 51, 52, 53, 54, 55, 56, 57, 45]
def Tb.adds (t : Tb) (n : Nat) : List Nat → Tb
  | [] => t
  | b :: r => (t.add n b).adds (n + 1) r
theorem Tb.adds_snoc (t : Tb) (n : Nat) (l : List Nat) (b : Nat) : t.adds n (l ++ [b]) = (t.adds n l).add (n + l.length) b := by
  induction l generalizing t n with
  | nil => rfl
  | cons x l ih => simp only [List.cons_append, Tb.adds, ih, List.length_cons]; congr 1; omega
/-- so many digits are laid -/
def Tb.upto (t : Tb) (k : Nat) : Tb := t.adds 0 (letters.take k)
theorem Tb.upto_succ (t : Tb) {k b : Nat} (h : letters[k]? = some b) : t.upto (k + 1) = (t.upto k).add k b := by
  unfold Tb.upto
  rw [take_at h, Tb.adds_snoc]
  have hl : k < letters.length := (List.getElem?_eq_some_iff.1 h).1
  congr 1
  simp; omega

/-- the closure's rounds: k digits are laid -/
structure FInv (g nb k : Nat) (T : TypeId) (cs : Array Value) (t : Tb) (w wr : World) : Prop where
  keep : Keep (fun k => k = g) w wr
  cell : wr.cell? ⟨nb, 0, none⟩ = some (.int .u64 k)
  fr : wr.frozen? ⟨nb, 0, none⟩ = false
  blk : ∃ cs', WB wr g T cs' ∧ TabA cs' (t.upto k) ∧ Tail cs cs'
theorem FInv.step {g nb k b : Nat} {T : TypeId} {cs cs1 : Array Value} {t : Tb} {w wr w' : World} {e : Ending} (h : FInv g nb k T cs t w wr) (hs : w.heap.size ≤ nb) (hc : Tail cs cs1) (hb : letters[k]? = some b)
    (hp : GPost g nb k b T cs1 (t.upto k) wr e w') : e = .returned (.tuple #[]) ∧ FInv g nb (k + 1) T cs t w w' := by
  obtain ⟨h1, h2, h3, h4, cs', h5, h6, h7⟩ := hp
  refine ⟨h1, ⟨?_, ?_, ?_, Nat.le_trans h.keep.size h2.size, fun i hi hn => ?_⟩, h3, h4, cs', h5, ?_, hc.trans h7⟩
  · exact h2.os.trans h.keep.os
  · exact h2.tape.trans h.keep.tape
  · exact h2.output.trans h.keep.output
  · rw [h2.block i (Nat.lt_of_lt_of_le hi h.keep.size) (by rintro (e | e); exact hn e; omega)]
    exact h.keep.block i hi hn
  · rw [Tb.upto_succ t hb]; exact h6

theorem letters_lo {k : Nat} (h : k < 26) : letters[k]? = some (97 + k) := by
  have : ∀ k, k < 26 → letters[k]? = some (97 + k) := by decide
  exact this k h
theorem letters_hi {k : Nat} (h : k < 10) : letters[26 + k]? = some (48 + k) := by
  have : ∀ k, k < 10 → letters[26 + k]? = some (48 + k) := by decide
  exact this k h

def FPost (g : Nat) (T : TypeId) (cs : Array Value) (t : Tb) (w : World) (e : Ending) (w' : World) : Prop :=
  e = .returned (.tuple #[]) ∧ Keep (fun k => k = g) w w' ∧ ∃ cs', WB w' g T cs' ∧ TabA cs' (t.upto 37) ∧ Tail cs cs'

set_option maxHeartbeats 1000000 in
theorem tabF_any (g pb : Nat) (T : TypeId) (cs : Array Value) (t : Tb) (w : World) (hw : WB w g T cs) (ht : TabA cs t) (hp : g ≠ pb) (c2 : w.cell? ⟨pb, 0, none⟩ = some (.pointer (some ⟨g, 0, none⟩))) :
    Calls Try.prog 79 #[.pointer (some ⟨pb, 0, none⟩)] w (FPost g T cs t w) := by
  have hmf : ∀ (fn : Fn) (first cap : Array Value) (w : World), (Instr.makeFunc fn first cap).run Try.prog w = .ok (.func fn first cap) w := fun _ _ _ _ => rfl
  have hpb : pb < w.heap.size := cell_lt c2
  have hgl : g < w.heap.size := hw.lt
  have hst : Hid (FInv g w.heap.size 0 T cs t w (w.alloc (.cells #[.int .u64 0] 90))) :=
    ⟨(Keep.refl _ _).alloc _, by simp, by simp, cs, hw.alloc _, ht, Tail.refl _⟩
  have HN : Hid (g ≠ w.heap.size ∧ w.heap.size ≠ pb) := ⟨by omega, by omega⟩
  have C2 := Lib.hid c2
  clear hw ht c2
  go_enter Try.func79, Try.ntmps79
  go_wp2_with fail
  go_loopw [6] (fun i wr => ∃ k : Nat, k ≤ 26 ∧ i = .int .u8 k ∧ FInv g w.heap.size k T cs t w wr) (fun i _ => 26 - (intOf i).toNat)
  case atStart => exact ⟨0, by omega, rfl, hst.out⟩
  case round =>
    obtain ⟨k, hk, rfl, hi⟩ := hrel
    by_cases hlt : k < 26
    · have hlt' : (k : Int) < 26 := by omega
      obtain ⟨cs1, hb1, hb2, hb3⟩ := hi.blk
      go_wp2_with fail
      rw [show (97 + (k : Int)) = ((97 + k : Nat) : Int) by omega]
      refine (tabG_any g w.heap.size k (97 + k) pb T cs1 (t.upto k) _ (by omega) (by omega) hb1 hb2 HN.out.1 hp HN.out.2 hi.cell hi.fr (hi.keep.cell C2.out (fun h => hp h.symm))).mono ?_
      intro e w' hpost
      obtain ⟨rfl, hi'⟩ := hi.step (Nat.le_refl _) hb3 (letters_lo hlt) hpost
      clear hi hpost hb1 hb2 hb3
      go_wp2_with fail
      go_roundw
      case rel => exact ⟨k + 1, by omega, by go_num, hi'⟩
      case measure => simp [intOf]; omega
    · obtain rfl : k = 26 := by omega
      rw [show ((26 : Nat) : Int) = 26 from rfl]
      go_wp2_with fail
      go_loopw [14] (fun i wr => ∃ k : Nat, k ≤ 10 ∧ i = .int .u8 k ∧ FInv g w.heap.size (26 + k) T cs t w wr) (fun i _ => 10 - (intOf i).toNat)
      case atStart => exact ⟨0, by omega, rfl, hi⟩
      case round =>
        obtain ⟨k, hk, rfl, hi⟩ := hrel
        by_cases hlt : k < 10
        · have hlt' : (k : Int) < 10 := by omega
          obtain ⟨cs1, hb1, hb2, hb3⟩ := hi.blk
          go_wp2_with fail
          rw [show (48 + (k : Int)) = ((48 + k : Nat) : Int) by omega]
          refine (tabG_any g w.heap.size (26 + k) (48 + k) pb T cs1 (t.upto (26 + k)) _ (by omega) (by omega) hb1 hb2 HN.out.1 hp HN.out.2 hi.cell hi.fr (hi.keep.cell C2.out (fun h => hp h.symm))).mono ?_
          intro e w' hpost
          obtain ⟨rfl, hi'⟩ := hi.step (Nat.le_refl _) hb3 (letters_hi hlt) hpost
          clear hi hpost hb1 hb2 hb3
          go_wp2_with fail
          go_roundw
          case rel => exact ⟨k + 1, by omega, by go_num, hi'⟩
          case measure => simp [intOf]; omega
        · obtain rfl : k = 10 := by omega
          rw [show ((10 : Nat) : Int) = 10 from rfl]
          obtain ⟨cs1, hb1, hb2, hb3⟩ := hi.blk
          go_wp2_with fail
          refine (tabG_any g w.heap.size 36 45 pb T cs1 (t.upto 36) _ (by omega) (by omega) hb1 hb2 HN.out.1 hp HN.out.2 hi.cell hi.fr (hi.keep.cell C2.out (fun h => hp h.symm))).mono ?_
          intro e w' hpost
          obtain ⟨rfl, hi'⟩ := hi.step (Nat.le_refl _) hb3 (by rfl) hpost
          clear hi hpost hb1 hb2 hb3
          go_wp2_with fail
          go_end0
          exact ⟨rfl, hi'.keep, hi'.blk⟩
end Go.Proofs.Ythfafenigjldlaa
