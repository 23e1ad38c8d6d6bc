/-
  The table of package wire: sync.Once's slow road, in one goroutine, and what it fills in. (Turned from the guide's worked proof Lazy.)
-/
import Derived.Test.YthfafenigjldlaaGreatMem
import Derived.Test.YthfafenigjldlaaGreatRows
import Derived.Defers
import Derived.Laws.LoneSync
import Derived.RegionTactic
import Derived.RegionCalls
import Derived.ChangeAlike
import Derived.BigRegion
import Derived.Outline
namespace Go.Proofs.YthfafenigjldlaaGreat
open Go.RowKit
set_option linter.unusedVariables false

/-! ### memory: only the blocks of S may have turned -/
structure Keep (S : Nat → Prop) (w w' : World) : Prop where
  os : w'.os = w.os
  tape : w'.tape = w.tape
  output : w'.output = w.output
  size : w.heap.size ≤ w'.heap.size
  block : ∀ k, k < w.heap.size → ¬ S k → w'.heap[k]? = w.heap[k]?
theorem Keep.refl (S : Nat → Prop) (w : World) : Keep S w w := ⟨rfl, rfl, rfl, Nat.le_refl _, fun _ _ _ => rfl⟩
theorem Keep.trans {S : Nat → Prop} {a b c : World} (h : Keep S a b) (k : Keep S b c) : Keep S a c :=
  ⟨k.os.trans h.os, k.tape.trans h.tape, k.output.trans h.output, Nat.le_trans h.size k.size, fun i hi hs => (k.block i (Nat.lt_of_lt_of_le hi h.size) hs).trans (h.block i hi hs)⟩
theorem Keep.mono {S S' : Nat → Prop} {a b : World} (h : Keep S a b) (hs : ∀ k, k < a.heap.size → S k → S' k) : Keep S' a b :=
  ⟨h.os, h.tape, h.output, h.size, fun k hk hn => h.block k hk (fun e => hn (hs k hk e))⟩
theorem Keep.ext {S : Nat → Prop} {a b : World} (h : Ext a b) : Keep S a b := ⟨h.os, h.tape, h.output, h.size, fun k hk _ => h.block k hk⟩
theorem Keep.drew {S : Nat → Prop} {a w : World} (h : Keep S a w) : Keep S a w.drew := ⟨h.os, h.tape, h.output, h.size, h.block⟩
theorem Keep.drewN {S : Nat → Prop} {a w : World} (h : Keep S a w) (n : Nat) : Keep S a (w.drewN n) := ⟨h.os, h.tape, h.output, h.size, h.block⟩
theorem Keep.alloc {S : Nat → Prop} {a w : World} (h : Keep S a w) (o : Obj) : Keep S a (w.alloc o) := h.trans (Keep.ext ((Ext.refl _).alloc o))
theorem Keep.setCell {S : Nat → Prop} {a w : World} (h : Keep S a w) {p : Addr} (hp : S p.block) (u : Value) : Keep S a (w.setCell p u) :=
  h.trans ⟨rfl, rfl, rfl, by simp [World.setCell], fun k hk hs => Below.heap_setCell _ _ _ _ (fun e => hs (e ▸ hp))⟩
theorem Keep.cell {S : Nat → Prop} {w w' : World} (h : Keep S w w') {p : Addr} {v : Value} (hc : w.cell? p = some v) (hp : ¬ S p.block) : w'.cell? p = some v :=
  (World.cell?_of_block (w := w) (h.block p.block (cell_lt hc) hp)).trans hc

/-- a block known whole -/
def WB (w : World) (g : Nat) (T : TypeId) (cs : Array Value) : Prop := w.heap[g]? = some (.cells cs T (0, 0))
section
variable {w w' : World} {g : Nat} {T : TypeId} {cs : Array Value}
theorem WB.lt (h : WB w g T cs) : g < w.heap.size := by
  rcases Nat.lt_or_ge g w.heap.size with hl | hl
  · exact hl
  · unfold WB at h; rw [Array.getElem?_eq_none hl] at h; cases h
theorem WB.cell (h : WB w g T cs) {i : Nat} {v : Value} (hv : cs[i]? = some v) : w.cell? ⟨g, i, none⟩ = some v := by unfold WB at h; simp [World.cell?, h, hv]
theorem WB.fr (h : WB w g T cs) (i : Nat) : w.frozen? ⟨g, i, none⟩ = false := by unfold WB at h; simp [World.frozen?, h]
theorem WB.drew (h : WB w g T cs) : WB w.drew g T cs := h
theorem WB.drewN (h : WB w g T cs) (n : Nat) : WB (w.drewN n) g T cs := h
theorem WB.alloc (h : WB w g T cs) (o : Obj) : WB (w.alloc o) g T cs := (Below.heap_alloc w o g h.lt).trans h
theorem WB.new (w : World) (T : TypeId) (cs : Array Value) : WB (w.alloc (.cells cs T)) w.heap.size T cs := heap_alloc_new w _
theorem WB.set (h : WB w g T cs) (i : Nat) (u : Value) : WB (w.setCell ⟨g, i, none⟩ u) g T (cs.setIfInBounds i u) := by
  unfold WB at h ⊢; simp [World.setCell, Array.getElem?_modify, h]
theorem WB.far (h : WB w g T cs) {p : Addr} (hp : g ≠ p.block) (u : Value) : WB (w.setCell p u) g T cs := (Below.heap_setCell w p u g hp).trans h
theorem WB.keep {S : Nat → Prop} (h : WB w g T cs) (hk : Keep S w w') (hg : ¬ S g) : WB w' g T cs := (hk.block g h.lt hg).trans h
theorem WB.ext (h : WB w g T cs) (he : Ext w w') : WB w' g T cs := (he.block g h.lt).trans h
end

/-! ### the table, as numbers -/
/-- d: done, m: the lock, o: of each byte its digit, b: of each digit its byte -/
structure Tb where
  d : Int
  m : Int
  o : Nat → Nat
  b : Nat → Nat
def tbC (t : Tb) (i : Nat) : Value :=
  if i = 0 then .int .u32 t.d else if i = 1 then .int .i32 t.m else if i = 2 then .int .u32 0
  else if i < 259 then .int .u64 (t.o (i - 3) : Nat) else .int .u8 (t.b (i - 259) : Nat)
/-- the block's first 297 cells are the table -/
def TabA (cs : Array Value) (t : Tb) : Prop := ∀ i, i < 297 → cs[i]? = some (tbC t i)
/-- behind the table nothing has turned -/
def Tail (cs cs' : Array Value) : Prop := cs'.size = cs.size ∧ ∀ i, 297 ≤ i → cs'[i]? = cs[i]?
theorem Tail.refl (cs : Array Value) : Tail cs cs := ⟨rfl, fun _ _ => rfl⟩
theorem Tail.trans {a b c : Array Value} (h : Tail a b) (k : Tail b c) : Tail a c := ⟨k.1.trans h.1, fun i hi => (k.2 i hi).trans (h.2 i hi)⟩
theorem Tail.set (cs : Array Value) {i : Nat} (hi : i < 297) (u : Value) : Tail cs (cs.setIfInBounds i u) :=
  ⟨by simp, fun j hj => by rw [Array.getElem?_setIfInBounds_ne (by omega)]⟩
theorem set_at {cs : Array Value} {i j : Nat} {u x : Value} (h : cs[i]? = some x) : (cs.setIfInBounds i u)[j]? = if j = i then some u else cs[j]? := by
  have hi : i < cs.size := (Array.getElem?_eq_some_iff.1 h).1
  by_cases e : j = i
  · subst e; rw [if_pos rfl, Array.getElem?_setIfInBounds_self_of_lt hi]
  · rw [if_neg e, Array.getElem?_setIfInBounds_ne (fun h => e h.symm)]
def updN (f : Nat → Nat) (i v : Nat) : Nat → Nat := fun j => if j = i then v else f j
def Tb.add (t : Tb) (n b : Nat) : Tb := { t with o := updN t.o b (n + 1), b := updN t.b (n + 1) b }
theorem TabA.o {cs : Array Value} {t : Tb} (h : TabA cs t) {b : Nat} (hb : b < 256) (v : Nat) : TabA (cs.setIfInBounds (3 + b) (.int .u64 (v : Nat))) { t with o := updN t.o b v } := by
  intro i hi
  rw [set_at (h (3 + b) (by omega)), h i hi]
  simp only [tbC, updN]
  (repeat' split) <;> first | rfl | omega | (simp_all; done) | (exfalso; simp_all; omega) | skip
theorem TabA.b {cs : Array Value} {t : Tb} (h : TabA cs t) {n : Nat} (hn : n < 38) (v : Nat) : TabA (cs.setIfInBounds (259 + n) (.int .u8 (v : Nat))) { t with b := updN t.b n v } := by
  intro i hi
  rw [set_at (h (259 + n) (by omega)), h i hi]
  simp only [tbC, updN]
  (repeat' split) <;> first | rfl | omega | (simp_all; done) | (exfalso; simp_all; omega) | skip
theorem TabA.d {cs : Array Value} {t : Tb} (h : TabA cs t) (v : Int) : TabA (cs.setIfInBounds 0 (.int .u32 v)) { t with d := v } := by
  intro i hi
  rw [set_at (h 0 (by omega)), h i hi]
  by_cases e : i = 0 <;> simp [tbC, e]
theorem TabA.m {cs : Array Value} {t : Tb} (h : TabA cs t) (v : Int) : TabA (cs.setIfInBounds 1 (.int .i32 v)) { t with m := v } := by
  intro i hi
  rw [set_at (h 1 (by omega)), h i hi]
  by_cases e : i = 1 <;> simp [tbC, e]
theorem TabA.at_o {cs : Array Value} {t : Tb} (h : TabA cs t) {b : Nat} (hb : b < 256) : cs[3 + b]? = some (.int .u64 (t.o b : Nat)) := by
  rw [h _ (by omega)]; unfold tbC; rw [if_neg (by omega), if_neg (by omega), if_neg (by omega), if_pos (by omega), show 3 + b - 3 = b by omega]
theorem TabA.at_b {cs : Array Value} {t : Tb} (h : TabA cs t) {n : Nat} (hn : n < 38) : cs[259 + n]? = some (.int .u8 (t.b n : Nat)) := by
  rw [h _ (by omega)]; unfold tbC; rw [if_neg (by omega), if_neg (by omega), if_neg (by omega), if_neg (by omega), show 259 + n - 259 = n by omega]
theorem TabA.at_d {cs : Array Value} {t : Tb} (h : TabA cs t) : cs[0]? = some (.int .u32 t.d) := by rw [h _ (by omega)]; rfl
theorem TabA.at_m {cs : Array Value} {t : Tb} (h : TabA cs t) : cs[1]? = some (.int .i32 t.m) := by rw [h _ (by omega)]; rfl
end Go.Proofs.YthfafenigjldlaaGreat

/-
  The walks of package wire's table: the closure that lays one digit.
-/
namespace Go.Proofs.YthfafenigjldlaaGreat
open Go.RowKit
set_option linter.unusedVariables false

/-- one digit is laid -/
def GPost (g nb n b : Nat) (T : TypeId) (cs : Array Value) (t : Tb) (w : World) (e : Ending) (w' : World) : Prop :=
  e = .returned (.tuple #[]) ∧ Keep (fun k => k = g ∨ k = nb) w w' ∧ w'.cell? ⟨nb, 0, none⟩ = some (.int .u64 (n + 1 : Nat)) ∧ w'.frozen? ⟨nb, 0, none⟩ = false ∧
    ∃ cs', WB w' g T cs' ∧ TabA cs' (t.add n b) ∧ Tail cs cs'

set_option maxHeartbeats 1000000 in
theorem tabG_any (g nb n b : Nat) (pb : Nat) (T : TypeId) (cs : Array Value) (t : Tb) (w : World) (hb : b < 256) (hn : n < 37) (hw : WB w g T cs) (ht : TabA cs t)
    (hg : g ≠ nb) (hp : g ≠ pb) (hq : nb ≠ pb) (c1 : w.cell? ⟨nb, 0, none⟩ = some (.int .u64 n)) (z1 : w.frozen? ⟨nb, 0, none⟩ = false) (c2 : w.cell? ⟨pb, 0, none⟩ = some (.pointer (some ⟨g, 0, none⟩))) :
    Calls Tryz.prog 127 #[.int .u8 b, .pointer (some ⟨nb, 0, none⟩), .pointer (some ⟨pb, 0, none⟩)] w (GPost g nb n b T cs t w) := by
  have o1 := hw.cell (ht.at_o hb)
  have o2 := hw.cell (ht.at_b (n := n + 1) (by omega))
  have z2 := hw.fr (3 + b)
  have z3 := hw.fr (259 + (n + 1))
  have hb' : (b : Int) < 256 := by omega
  have hn' : (n : Int) < 37 := by omega
  have HW := Lib.hid hw
  have HT := Lib.hid ht
  clear hw ht
  go_enter Tryz.func127, Tryz.ntmps127
  go_wp2_with fail
  go_region
  go_end0
  have e0 : ((n : Int) + 1) = ((n + 1 : Nat) : Int) := by omega
  rw [e0]
  have e1 : (w.setCell ⟨nb, 0, none⟩ (.int .u64 ((n + 1 : Nat) : Int))).cell? ⟨nb, 0, none⟩ = some (.int .u64 ((n + 1 : Nat) : Int)) := World.cell?_setCell_same w _ _ c1
  have k1 : Keep (fun k => k = g) (w.setCell ⟨nb, 0, none⟩ (.int .u64 ((n + 1 : Nat) : Int))) ((((w.setCell ⟨nb, 0, none⟩ (.int .u64 ((n + 1 : Nat) : Int))).setCell ⟨g, 3 + b, none⟩ (.int .u64 ((n + 1 : Nat) : Int))).setCell ⟨g, 259 + (n + 1), none⟩ (.int .u8 b)).drew) :=
    (((Keep.refl (fun k => k = g) _).setCell (p := ⟨g, 3 + b, none⟩) rfl _).setCell (p := ⟨g, 259 + (n + 1), none⟩) rfl _).drew
  refine ⟨rfl, ((((Keep.refl _ w).setCell (Or.inr rfl) _).setCell (Or.inl rfl) _).setCell (Or.inl rfl) _).drew, k1.cell e1 (fun h => hg h.symm), ?_, _, (((HW.out.far hg _).set _ _).set _ _).drew, ?_, ?_⟩
  · have f1 : (w.setCell ⟨nb, 0, none⟩ (.int .u64 ((n + 1 : Nat) : Int))).frozen? ⟨nb, 0, none⟩ = false := by simp [z1]
    rw [World.frozen?_of_block (w := w.setCell ⟨nb, 0, none⟩ (.int .u64 ((n + 1 : Nat) : Int))) (k1.block nb (by simpa using cell_lt e1) (fun h => hg h.symm))]
    exact f1
  · exact (HT.out.o hb (n + 1)).b (n := n + 1) (by omega) b
  · exact (Tail.set _ (by omega) _).trans (Tail.set _ (by omega) _)

/-- the bytes that are laid, one behind the other -/
def letters : List Nat := [97, 98, 99, 100, 101, 102, 103, 104, 105, 106, 107, 108, 109, 110, 111, 112, 113, 114, 115, 116, 117, 118, 119, 120, 121, 122, 48, 49, 50, 51, 52, 53, 54, 55, 56, 57, 45]
def Tb.adds (t : Tb) (n : Nat) : List Nat → Tb
  | [] => t
  | b :: r => (t.add n b).adds (n + 1) r
theorem Tb.adds_snoc (t : Tb) (n : Nat) (l : List Nat) (b : Nat) : t.adds n (l ++ [b]) = (t.adds n l).add (n + l.length) b := by
  induction l generalizing t n with
  | nil => rfl
  | cons x l ih => simp only [List.cons_append, Tb.adds, ih, List.length_cons]; congr 1; omega
/-- so many digits are laid -/
def Tb.upto (t : Tb) (k : Nat) : Tb := t.adds 0 (letters.take k)
theorem Tb.upto_succ (t : Tb) {k b : Nat} (h : letters[k]? = some b) : t.upto (k + 1) = (t.upto k).add k b := by
  unfold Tb.upto
  rw [take_at h, Tb.adds_snoc]
  have hl : k < letters.length := (List.getElem?_eq_some_iff.1 h).1
  congr 1
  simp; omega

/-- the closure's rounds: k digits are laid -/
structure FInv (g nb k : Nat) (T : TypeId) (cs : Array Value) (t : Tb) (w wr : World) : Prop where
  keep : Keep (fun k => k = g) w wr
  cell : wr.cell? ⟨nb, 0, none⟩ = some (.int .u64 k)
  fr : wr.frozen? ⟨nb, 0, none⟩ = false
  blk : ∃ cs', WB wr g T cs' ∧ TabA cs' (t.upto k) ∧ Tail cs cs'
theorem FInv.step {g nb k b : Nat} {T : TypeId} {cs cs1 : Array Value} {t : Tb} {w wr w' : World} {e : Ending} (h : FInv g nb k T cs t w wr) (hs : w.heap.size ≤ nb) (hc : Tail cs cs1) (hb : letters[k]? = some b)
    (hp : GPost g nb k b T cs1 (t.upto k) wr e w') : e = .returned (.tuple #[]) ∧ FInv g nb (k + 1) T cs t w w' := by
  obtain ⟨h1, h2, h3, h4, cs', h5, h6, h7⟩ := hp
  refine ⟨h1, ⟨?_, ?_, ?_, Nat.le_trans h.keep.size h2.size, fun i hi hn => ?_⟩, h3, h4, cs', h5, ?_, hc.trans h7⟩
  · exact h2.os.trans h.keep.os
  · exact h2.tape.trans h.keep.tape
  · exact h2.output.trans h.keep.output
  · rw [h2.block i (Nat.lt_of_lt_of_le hi h.keep.size) (by rintro (e | e); exact hn e; omega)]
    exact h.keep.block i hi hn
  · rw [Tb.upto_succ t hb]; exact h6

theorem letters_lo {k : Nat} (h : k < 26) : letters[k]? = some (97 + k) := by
  have : ∀ k, k < 26 → letters[k]? = some (97 + k) := by decide
  exact this k h
theorem letters_hi {k : Nat} (h : k < 10) : letters[26 + k]? = some (48 + k) := by
  have : ∀ k, k < 10 → letters[26 + k]? = some (48 + k) := by decide
  exact this k h

def FPost (g : Nat) (T : TypeId) (cs : Array Value) (t : Tb) (w : World) (e : Ending) (w' : World) : Prop :=
  e = .returned (.tuple #[]) ∧ Keep (fun k => k = g) w w' ∧ ∃ cs', WB w' g T cs' ∧ TabA cs' (t.upto 37) ∧ Tail cs cs'

set_option maxHeartbeats 1000000 in
theorem tabF_any (g pb : Nat) (T : TypeId) (cs : Array Value) (t : Tb) (w : World) (hw : WB w g T cs) (ht : TabA cs t) (hp : g ≠ pb) (c2 : w.cell? ⟨pb, 0, none⟩ = some (.pointer (some ⟨g, 0, none⟩))) :
    Calls Tryz.prog 126 #[.pointer (some ⟨pb, 0, none⟩)] w (FPost g T cs t w) := by
  have hmf : ∀ (fn : Fn) (first cap : Array Value) (w : World), (Instr.makeFunc fn first cap).run Tryz.prog w = .ok (.func fn first cap) w := fun _ _ _ _ => rfl
  have hpb : pb < w.heap.size := cell_lt c2
  have hgl : g < w.heap.size := hw.lt
  have hst : Hid (FInv g w.heap.size 0 T cs t w (w.alloc (.cells #[.int .u64 0] 124))) :=
    ⟨(Keep.refl _ _).alloc _, by simp, by simp, cs, hw.alloc _, ht, Tail.refl _⟩
  have HN : Hid (g ≠ w.heap.size ∧ w.heap.size ≠ pb) := ⟨by omega, by omega⟩
  have C2 := Lib.hid c2
  clear hw ht c2
  go_enter Tryz.func126, Tryz.ntmps126
  go_wp2_with fail
  go_loopw [6] (fun i wr => ∃ k : Nat, k ≤ 26 ∧ i = .int .u8 k ∧ FInv g w.heap.size k T cs t w wr) (fun i _ => 26 - (intOf i).toNat)
  case atStart => exact ⟨0, by omega, rfl, hst.out⟩
  case round =>
    obtain ⟨k, hk, rfl, hi⟩ := hrel
    by_cases hlt : k < 26
    · have hlt' : (k : Int) < 26 := by omega
      obtain ⟨cs1, hb1, hb2, hb3⟩ := hi.blk
      go_wp2_with fail
      rw [show (97 + (k : Int)) = ((97 + k : Nat) : Int) by omega]
      refine (tabG_any g w.heap.size k (97 + k) pb T cs1 (t.upto k) _ (by omega) (by omega) hb1 hb2 HN.out.1 hp HN.out.2 hi.cell hi.fr (hi.keep.cell C2.out (fun h => hp h.symm))).mono ?_
      intro e w' hpost
      obtain ⟨rfl, hi'⟩ := hi.step (Nat.le_refl _) hb3 (letters_lo hlt) hpost
      clear hi hpost hb1 hb2 hb3
      go_wp2_with fail
      go_roundw
      case rel => exact ⟨k + 1, by omega, by go_num, hi'⟩
      case measure => simp [intOf]; omega
    · obtain rfl : k = 26 := by omega
      rw [show ((26 : Nat) : Int) = 26 from rfl]
      go_wp2_with fail
      go_loopw [14] (fun i wr => ∃ k : Nat, k ≤ 10 ∧ i = .int .u8 k ∧ FInv g w.heap.size (26 + k) T cs t w wr) (fun i _ => 10 - (intOf i).toNat)
      case atStart => exact ⟨0, by omega, rfl, hi⟩
      case round =>
        obtain ⟨k, hk, rfl, hi⟩ := hrel
        by_cases hlt : k < 10
        · have hlt' : (k : Int) < 10 := by omega
          obtain ⟨cs1, hb1, hb2, hb3⟩ := hi.blk
          go_wp2_with fail
          rw [show (48 + (k : Int)) = ((48 + k : Nat) : Int) by omega]
          refine (tabG_any g w.heap.size (26 + k) (48 + k) pb T cs1 (t.upto (26 + k)) _ (by omega) (by omega) hb1 hb2 HN.out.1 hp HN.out.2 hi.cell hi.fr (hi.keep.cell C2.out (fun h => hp h.symm))).mono ?_
          intro e w' hpost
          obtain ⟨rfl, hi'⟩ := hi.step (Nat.le_refl _) hb3 (letters_hi hlt) hpost
          clear hi hpost hb1 hb2 hb3
          go_wp2_with fail
          go_roundw
          case rel => exact ⟨k + 1, by omega, by go_num, hi'⟩
          case measure => simp [intOf]; omega
        · obtain rfl : k = 10 := by omega
          rw [show ((10 : Nat) : Int) = 10 from rfl]
          obtain ⟨cs1, hb1, hb2, hb3⟩ := hi.blk
          go_wp2_with fail
          refine (tabG_any g w.heap.size 36 45 pb T cs1 (t.upto 36) _ (by omega) (by omega) hb1 hb2 HN.out.1 hp HN.out.2 hi.cell hi.fr (hi.keep.cell C2.out (fun h => hp h.symm))).mono ?_
          intro e w' hpost
          obtain ⟨rfl, hi'⟩ := hi.step (Nat.le_refl _) hb3 (by rfl) hpost
          clear hi hpost hb1 hb2 hb3
          go_wp2_with fail
          go_end0
          exact ⟨rfl, hi'.keep, hi'.blk⟩
end Go.Proofs.YthfafenigjldlaaGreat
