/-
  Laws for a region that draws: an allocation of a struct, a store of a whole struct into a block that is known.
-/
import Derived.Test.YthfafenigjldlaaGreatCopy4
import Derived.Laws.Tables
import Derived.Laws.Rows
namespace Go.Proofs.YthfafenigjldlaaGreat
open Go.RowKit
set_option linter.unusedVariables false

section
variable {P : Program} (w : World)
theorem step_alloc {ops : Array Oper} {o : Oper} {a : Act} {K : Act → World → Prop} {Q : Exit → Act → World → Prop} {E : Prop} (hgd : o.guard = none) (t : TypeId) (ho : o.op = .alloc t) (i : TypeInfo) (z : Value) (hi : P.info? t = some i) (hz : i.zero = some z)
    (h : K (a.put o.dst (.pointer (some ⟨w.heap.size, 0, none⟩))) (w.alloc (.cells z.cells t))) :
    if Region.wanted o (yielded ops a.tmps) = true then Oper.wp P o a w K Q else E := by
  have hw : Region.wanted o (yielded ops a.tmps) = true := by simp [Region.wanted, hgd]
  rw [if_pos hw]
  unfold Oper.wp execOp
  simp only [ho]
  have e : (Instr.alloc t true (.tuple #[])).run P w = .ok (.pointer (some ⟨w.heap.size, 0, none⟩)) (w.alloc (.cells z.cells t)) := by
    simp [Instr.alloc, zeroValue, typeInfo, hi, hz, newVar, newRow]
  simp only [Sem.run_bind, Sem.run_pure, e, Result.andThen_ok]
  exact h
theorem step_store {ops : Array Oper} {o : Oper} {a : Act} {K : Act → World → Prop} {Q : Exit → Act → World → Prop} {E : Prop} (hgd : o.guard = none) (t : TypeId) (s x : Operand) (ho : o.op = .store t s x) (i : TypeInfo) (hi : P.info? t = some i) (g : Nat) (cur vs : Array Value) (hs : a.eval s = .pointer (some ⟨g, 0, none⟩)) (hx : a.eval x = .agg vs)
    (hb : WB w g t cur) (hsz : i.size = vs.size) (hl : vs.size = cur.size) (h1 : ∀ v ∈ vs.toList, v.oneCell' = true)
    (h : K (a.put o.dst undef) (w.setRow g vs)) :
    if Region.wanted o (yielded ops a.tmps) = true then Oper.wp P o a w K Q else E := by
  have hw : Region.wanted o (yielded ops a.tmps) = true := by simp [Region.wanted, hgd]
  rw [if_pos hw]
  unfold Oper.wp execOp
  simp only [ho]
  have e : (Instr.storeAt t (.pointer (some ⟨g, 0, none⟩)) (.agg vs)).run P w = .ok () (w.setRow g vs) := by
    have h2 := run_storeCells_from (P := P) g t vs.toList 0 cur w hb (by simpa using hl) h1
    simp only [List.take_zero, List.nil_append, Array.toArray_toList] at h2
    simp [Instr.storeAt, Instr.sureAddr, storeVar, sizeOf, typeInfo, hi, hsz, Value.cells, h2]
  simp only [hs, hx, Sem.run_bind, Sem.run_pure, e, Result.andThen_ok]
  exact h
end
section
variable {w w' : World} {g : Nat} {T : TypeId} {cs vs : Array Value}
theorem row_heap (w : World) (g : Nat) (vs : Array Value) (k : Nat) (hk : k ≠ g) : (w.setRow g vs).heap[k]? = w.heap[k]? := by
  simp only [World.setRow, Array.getElem?_modify]
  rw [if_neg (fun e => hk e.symm)]
theorem row_size (w : World) (g : Nat) (vs : Array Value) : (w.setRow g vs).heap.size = w.heap.size := by simp [World.setRow]
theorem WB.row (h : WB w g T cs) (vs : Array Value) : WB (w.setRow g vs) g T vs := by
  unfold WB at *
  simp only [World.setRow, Array.getElem?_modify]
  rw [if_pos trivial, h]
  rfl
theorem WB.rowFar {m : Nat} (h : WB w g T cs) (hm : g ≠ m) (vs : Array Value) : WB (w.setRow m vs) g T cs := (row_heap w m vs g hm).trans h
theorem Ext.setRow {a : World} (h : Ext a w) (hg : a.heap.size ≤ g) (vs : Array Value) : Ext a (w.setRow g vs) :=
  ⟨h.os, h.tape, h.output, by rw [row_size]; exact h.size, fun k hk => by rw [row_heap _ _ _ _ (by omega)]; exact h.block k hk⟩
end
/-! ### what lies in a stretch of blocks -/
/-- the blocks from lo on, ahead of S, are as they were -/
def Stretch (lo S : Nat) (w w' : World) : Prop := ∀ k, lo ≤ k → k < S → w'.heap[k]? = w.heap[k]?
theorem Stretch.refl (lo S : Nat) (w : World) : Stretch lo S w w := fun _ _ _ => rfl
theorem Stretch.ext {lo S : Nat} {w w1 w2 : World} (h : Stretch lo S w w1) (hS : S ≤ w1.heap.size) (e : Ext w1 w2) : Stretch lo S w w2 := fun k h1 h2 => (e.block k (by omega)).trans (h k h1 h2)
theorem Stretch.row {lo S m : Nat} {w w1 : World} (h : Stretch lo S w w1) (hm : m < lo ∨ S ≤ m) (vs : Array Value) : Stretch lo S w (w1.setRow m vs) := fun k h1 h2 => (row_heap w1 m vs k (by omega)).trans (h k h1 h2)
theorem Stretch.sub {lo S : Nat} {w w' : World} (h : Stretch lo S w w') (hS : w.heap.size ≤ S) : Sub (Own lo w) (Own lo w') := fun k c T m hk hc => by
  rw [Own.heap] at hk ⊢
  cases hh : w.heap[k]? with
  | none => rw [hh] at hk; cases hk
  | some o =>
    have hl : k < w.heap.size := (Array.getElem?_eq_some_iff.1 hh).1
    have hlo : lo ≤ k := by
      rw [hh] at hk
      simp only [Option.map_some, Option.some.injEq] at hk
      exact (ownO_cells hk hc).1
    rw [h k hlo (by omega)]
    exact hk
theorem Rowz.stretch {α : Type} {R : World → List Value → α → Prop} {T : TypeId} {size lo S : Nat} {w w' : World} {A : Option Addr} {c : Nat} {xs : List α} (hR : KeepsS R) (h : Rowz R T size lo w A c xs) (e : Stretch lo S w w') (hS : w.heap.size ≤ S) : Rowz R T size lo w' A c xs := by
  obtain ⟨cs, h1, h2⟩ := h
  refine ⟨cs, ⟨h1.1, ?_⟩, h2.sub hR (e.sub hS)⟩
  rcases h1.2 with h | ⟨g', cap, cur, e1, hg', hh, r⟩
  · exact .inl h
  · have hl : g' < w.heap.size := WB.lt hh
    exact .inr ⟨g', cap, cur, e1, hg', (e g' hg' (by omega)).trans hh, r⟩
theorem PodOwn.stretch {lo S : Nat} {w w' : World} {p : Pd} {q : PA} (h : PodOwn lo w p q) (e : Stretch lo S w w') (hS : w.heap.size ≤ S) : PodOwn lo w' p q :=
  ⟨h.r1.stretch RInt.subs e hS, h.r2.stretch RPair.subs e hS, h.r3.stretch RTermT.subs e hS, h.r4.stretch RTol.subs e hS, h.r5.stretch RTermT.subs e hS, h.r6.stretch RTermT.subs e hS, h.d35, h.d36, h.d56⟩
theorem NodeOwn.stretch {lo S : Nat} {w w' : World} {p : Nd} {q : NA} (h : NodeOwn lo w p q) (e : Stretch lo S w w') (hS : w.heap.size ≤ S) : NodeOwn lo w' p q :=
  ⟨h.r1.stretch RPair.subs e hS, h.r2.stretch RPair.subs e hS⟩
section
variable {P : Program} (w : World)
theorem step_allocL {ops : Array Oper} {o : Oper} {a : Act} {K : Act → World → Prop} {Q : Exit → Act → World → Prop} {E : Prop} (hgd : o.guard = none) (t : TypeId) (ho : o.op = .alloc t) (i : TypeInfo) (z : Value) (hi : P.info? t = some i) (hz : i.zero = some z)
    (h : ∀ n W', w.heap.size = n → WB W' n t z.cells → Ext w W' → W'.heap.size = n + 1 → K (a.put o.dst (.pointer (some ⟨n, 0, none⟩))) W') :
    if Region.wanted o (yielded ops a.tmps) = true then Oper.wp P o a w K Q else E :=
  step_alloc w hgd t ho i z hi hz (h _ _ rfl (WB.new _ _ _) ((Ext.refl _).alloc _) (by simp))
theorem step_storeL {ops : Array Oper} {o : Oper} {a : Act} {K : Act → World → Prop} {Q : Exit → Act → World → Prop} {E : Prop} (hgd : o.guard = none) (t : TypeId) (s x : Operand) (ho : o.op = .store t s x) (i : TypeInfo) (hi : P.info? t = some i) (g : Nat) (cur vs : Array Value) (hs : a.eval s = .pointer (some ⟨g, 0, none⟩)) (hx : a.eval x = .agg vs)
    (hb : WB w g t cur) (hsz : i.size = vs.size) (hl : vs.size = cur.size) (h1 : ∀ v ∈ vs.toList, v.oneCell' = true)
    (h : ∀ W', W' = w.setRow g vs → WB W' g t vs → K (a.put o.dst undef) W') :
    if Region.wanted o (yielded ops a.tmps) = true then Oper.wp P o a w K Q else E :=
  step_store w hgd t s x ho i hi g cur vs hs hx hb hsz hl h1 (h _ rfl (hb.row vs))
end
/-- a guard for an arm at a drawn region: a store of type t -/
theorem at_store (t : TypeId) {s x : Operand} {ty : TypeId} {pos : String} {after : Array Edge} {g : Option (Nat × Bool)} {y : Nat → Option Bool} {X Y : Prop} [Decidable (Region.wanted ⟨none, .store t s x, ty, pos, after, g⟩ y = true)] (h : if Region.wanted ⟨none, .store t s x, ty, pos, after, g⟩ y = true then X else Y) :
    if Region.wanted ⟨none, .store t s x, ty, pos, after, g⟩ y = true then X else Y := h
section
variable {P : Program} (w : World)
theorem step_load {ops : Array Oper} {o : Oper} {a : Act} {K : Act → World → Prop} {Q : Exit → Act → World → Prop} {E : Prop} (hgd : o.guard = none) (t : TypeId) (s : Operand) (ho : o.op = .load t s) (i : TypeInfo) (hi : P.info? t = some i) (d : TypeDesc) (hd : P.underlying t = some d) (hag : (match d with | .struct _ | .array _ _ => true | _ => false) = true)
    (g : Nat) (cs : Array Value) (T : TypeId) (hs : a.eval s = .pointer (some ⟨g, 0, none⟩)) (hb : WB w g T cs) (hsz : i.size = cs.size) (h : K (a.put o.dst (.agg cs)) w) :
    if Region.wanted o (yielded ops a.tmps) = true then Oper.wp P o a w K Q else E := by
  have hw : Region.wanted o (yielded ops a.tmps) = true := by simp [Region.wanted, hgd]
  rw [if_pos hw]
  unfold Oper.wp execOp
  simp only [ho]
  have e : (Instr.loadAt t (.pointer (some ⟨g, 0, none⟩))).run P w = .ok (.agg cs) w := by
    have h2 := run_loadVar_row (P := P) w g T t cs (0, 0) d hb hd hag (by simp [hi, hsz])
    simp only [Instr.loadAt, Instr.sureAddr, Sem.run_bind, Sem.run_pure, Result.andThen_ok]
    exact h2
  simp only [hs, Sem.run_bind, Sem.run_pure, e, Result.andThen_ok]
  exact h
end
end Go.Proofs.YthfafenigjldlaaGreat
