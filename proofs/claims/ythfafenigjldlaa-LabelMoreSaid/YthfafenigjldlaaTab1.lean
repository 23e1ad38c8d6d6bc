/-
  The table of package wire: sync.Once's slow road, in one goroutine, and what it fills in. (Turned from the guide's worked proof Lazy.)
-/
import Derived.Test.YthfafenigjldlaaMem
import Derived.Test.YthfafenigjldlaaRows
import Derived.Defers
import Derived.Laws.LoneSync
import Derived.RegionTactic
import Derived.RegionCalls
import Derived.ChangeAlike
import Derived.BigRegion
import Derived.Outline
namespace Go.Proofs.Ythfafenigjldlaa
open Go.RowKit
set_option linter.unusedVariables false

/-! ### memory: only the blocks of S may have turned -/
structure Keep (S : Nat → Prop) (w w' : World) : Prop where
  os : w'.os = w.os
  tape : w'.tape = w.tape
  output : w'.output = w.output
  size : w.heap.size ≤ w'.heap.size
  block : ∀ k, k < w.heap.size → ¬ S k → w'.heap[k]? = w.heap[k]?
theorem Keep.refl (S : Nat → Prop) (w : World) : Keep S w w := ⟨rfl, rfl, rfl, Nat.le_refl _, fun _ _ _ => rfl⟩
theorem Keep.trans {S : Nat → Prop} {a b c : World} (h : Keep S a b) (k : Keep S b c) : Keep S a c :=
  ⟨k.os.trans h.os, k.tape.trans h.tape, k.output.trans h.output, Nat.le_trans h.size k.size, fun i hi hs => (k.block i (Nat.lt_of_lt_of_le hi h.size) hs).trans (h.block i hi hs)⟩
theorem Keep.mono {S S' : Nat → Prop} {a b : World} (h : Keep S a b) (hs : ∀ k, k < a.heap.size → S k → S' k) : Keep S' a b :=
  ⟨h.os, h.tape, h.output, h.size, fun k hk hn => h.block k hk (fun e => hn (hs k hk e))⟩
theorem Keep.ext {S : Nat → Prop} {a b : World} (h : Ext a b) : Keep S a b := ⟨h.os, h.tape, h.output, h.size, fun k hk _ => h.block k hk⟩
theorem Keep.drew {S : Nat → Prop} {a w : World} (h : Keep S a w) : Keep S a w.drew := ⟨h.os, h.tape, h.output, h.size, h.block⟩
theorem Keep.drewN {S : Nat → Prop} {a w : World} (h : Keep S a w) (n : Nat) : Keep S a (w.drewN n) := ⟨h.os, h.tape, h.output, h.size, h.block⟩
theorem Keep.alloc {S : Nat → Prop} {a w : World} (h : Keep S a w) (o : Obj) : Keep S a (w.alloc o) := h.trans (Keep.ext ((Ext.refl _).alloc o))
theorem Keep.setCell {S : Nat → Prop} {a w : World} (h : Keep S a w) {p : Addr} (hp : S p.block) (u : Value) : Keep S a (w.setCell p u) :=
  h.trans ⟨rfl, rfl, rfl, by simp [World.setCell], fun k hk hs => Below.heap_setCell _ _ _ _ (fun e => hs (e ▸ hp))⟩
theorem Keep.cell {S : Nat → Prop} {w w' : World} (h : Keep S w w') {p : Addr} {v : Value} (hc : w.cell? p = some v) (hp : ¬ S p.block) : w'.cell? p = some v :=
  (World.cell?_of_block (w := w) (h.block p.block (cell_lt hc) hp)).trans hc

/-- a block known whole -/
def WB (w : World) (g : Nat) (T : TypeId) (cs : Array Value) : Prop := w.heap[g]? = some (.cells cs T (0, 0))
section
variable {w w' : World} {g : Nat} {T : TypeId} {cs : Array Value}
theorem WB.lt (h : WB w g T cs) : g < w.heap.size := by
  rcases Nat.lt_or_ge g w.heap.size with hl | hl
  · exact hl
  · unfold WB at h; rw [Array.getElem?_eq_none hl] at h; cases h
theorem WB.cell (h : WB w g T cs) {i : Nat} {v : Value} (hv : cs[i]? = some v) : w.cell? ⟨g, i, none⟩ = some v := by unfold WB at h; simp [World.cell?, h, hv]
theorem WB.fr (h : WB w g T cs) (i : Nat) : w.frozen? ⟨g, i, none⟩ = false := by unfold WB at h; simp [World.frozen?, h]
theorem WB.drew (h : WB w g T cs) : WB w.drew g T cs := h
theorem WB.drewN (h : WB w g T cs) (n : Nat) : WB (w.drewN n) g T cs := h
theorem WB.alloc (h : WB w g T cs) (o : Obj) : WB (w.alloc o) g T cs := (Below.heap_alloc w o g h.lt).trans h
theorem WB.new (w : World) (T : TypeId) (cs : Array Value) : WB (w.alloc (.cells cs T)) w.heap.size T cs := heap_alloc_new w _
theorem WB.set (h : WB w g T cs) (i : Nat) (u : Value) : WB (w.setCell ⟨g, i, none⟩ u) g T (cs.setIfInBounds i u) := by
  unfold WB at h ⊢; simp [World.setCell, Array.getElem?_modify, h]
theorem WB.far (h : WB w g T cs) {p : Addr} (hp : g ≠ p.block) (u : Value) : WB (w.setCell p u) g T cs := (Below.heap_setCell w p u g hp).trans h
theorem WB.keep {S : Nat → Prop} (h : WB w g T cs) (hk : Keep S w w') (hg : ¬ S g) : WB w' g T cs := (hk.block g h.lt hg).trans h
theorem WB.ext (h : WB w g T cs) (he : Ext w w') : WB w' g T cs := (he.block g h.lt).trans h
end

/-! ### the table, as numbers -/
/-- d: done, m: the lock, o: of each byte its digit, b: of each digit its byte -/
structure Tb where
  d : Int
  m : Int
  o : Nat → Nat
  b : Nat → Nat
def tbC (t : Tb) (i : Nat) : Value :=
  if i = 0 then .int .u32 t.d else if i = 1 then .int .i32 t.m else if i = 2 then .int .u32 0
  else if i < 259 then .int .u64 (t.o (i - 3) : Nat) else .int .u8 (t.b (i - 259) : Nat)
/-- the block's first 297 cells are the table -/
def TabA (cs : Array Value) (t : Tb) : Prop := ∀ i, i < 297 → cs[i]? = some (tbC t i)
/-- behind the table nothing has turned -/
def Tail (cs cs' : Array Value) : Prop := cs'.size = cs.size ∧ ∀ i, 297 ≤ i → cs'[i]? = cs[i]?
theorem Tail.refl (cs : Array Value) : Tail cs cs := ⟨rfl, fun _ _ => rfl⟩
theorem Tail.trans {a b c : Array Value} (h : Tail a b) (k : Tail b c) : Tail a c := ⟨k.1.trans h.1, fun i hi => (k.2 i hi).trans (h.2 i hi)⟩
theorem Tail.set (cs : Array Value) {i : Nat} (hi : i < 297) (u : Value) : Tail cs (cs.setIfInBounds i u) :=
  ⟨by simp, fun j hj => by rw [Array.getElem?_setIfInBounds_ne (by omega)]⟩
theorem set_at {cs : Array Value} {i j : Nat} {u x : Value} (h : cs[i]? = some x) : (cs.setIfInBounds i u)[j]? = if j = i then some u else cs[j]? := by
  have hi : i < cs.size := (Array.getElem?_eq_some_iff.1 h).1
  by_cases e : j = i
  · subst e; rw [if_pos rfl, Array.getElem?_setIfInBounds_self_of_lt hi]
  · rw [if_neg e, Array.getElem?_setIfInBounds_ne (fun h => e h.symm)]
def updN (f : Nat → Nat) (i v : Nat) : Nat → Nat := fun j => if j = i then v else f j
def Tb.add (t : Tb) (n b : Nat) : Tb := { t with o := updN t.o b (n + 1), b := updN t.b (n + 1) b }
theorem TabA.o {cs : Array Value} {t : Tb} (h : TabA cs t) {b : Nat} (hb : b < 256) (v : Nat) : TabA (cs.setIfInBounds (3 + b) (.int .u64 (v : Nat))) { t with o := updN t.o b v } := by
  intro i hi
  rw [set_at (h (3 + b) (by omega)), h i hi]
  simp only [tbC, updN]
  (repeat' split) <;> first | rfl | omega | (simp_all; done) | (exfalso; simp_all; omega) | skip
theorem TabA.b {cs : Array Value} {t : Tb} (h : TabA cs t) {n : Nat} (hn : n < 38) (v : Nat) : TabA (cs.setIfInBounds (259 + n) (.int .u8 (v : Nat))) { t with b := updN t.b n v } := by
  intro i hi
  rw [set_at (h (259 + n) (by omega)), h i hi]
  simp only [tbC, updN]
  (repeat' split) <;> first | rfl | omega | (simp_all; done) | (exfalso; simp_all; omega) | skip
theorem TabA.d {cs : Array Value} {t : Tb} (h : TabA cs t) (v : Int) : TabA (cs.setIfInBounds 0 (.int .u32 v)) { t with d := v } := by
  intro i hi
  rw [set_at (h 0 (by omega)), h i hi]
  by_cases e : i = 0 <;> simp [tbC, e]
theorem TabA.m {cs : Array Value} {t : Tb} (h : TabA cs t) (v : Int) : TabA (cs.setIfInBounds 1 (.int .i32 v)) { t with m := v } := by
  intro i hi
  rw [set_at (h 1 (by omega)), h i hi]
  by_cases e : i = 1 <;> simp [tbC, e]
theorem TabA.at_o {cs : Array Value} {t : Tb} (h : TabA cs t) {b : Nat} (hb : b < 256) : cs[3 + b]? = some (.int .u64 (t.o b : Nat)) := by
  rw [h _ (by omega)]; unfold tbC; rw [if_neg (by omega), if_neg (by omega), if_neg (by omega), if_pos (by omega), show 3 + b - 3 = b by omega]
theorem TabA.at_b {cs : Array Value} {t : Tb} (h : TabA cs t) {n : Nat} (hn : n < 38) : cs[259 + n]? = some (.int .u8 (t.b n : Nat)) := by
  rw [h _ (by omega)]; unfold tbC; rw [if_neg (by omega), if_neg (by omega), if_neg (by omega), if_neg (by omega), show 259 + n - 259 = n by omega]
theorem TabA.at_d {cs : Array Value} {t : Tb} (h : TabA cs t) : cs[0]? = some (.int .u32 t.d) := by rw [h _ (by omega)]; rfl
theorem TabA.at_m {cs : Array Value} {t : Tb} (h : TabA cs t) : cs[1]? = some (.int .i32 t.m) := by rw [h _ (by omega)]; rfl
end Go.Proofs.Ythfafenigjldlaa
