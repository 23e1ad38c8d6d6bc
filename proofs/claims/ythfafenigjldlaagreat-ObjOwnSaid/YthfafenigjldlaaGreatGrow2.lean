/-
  ObjOwn: a stretch of memory that grows while all else is as it was (plain).
-/
import Derived.Test.YthfafenigjldlaaGreatTwo2
namespace Go.Proofs.YthfafenigjldlaaGreat
open Go.RowKit
set_option linter.unusedVariables false

/-- since w2 what V made from lo on has grown, by no more than t a string; all else is as it was -/
structure Gr (w2 : World) (lo : Nat) (V : World) (t : Nat) (w : World) : Prop where
  os : w.os = w2.os
  tape : w.tape = w2.tape
  output : w.output = w2.output
  size : w2.heap.size ≤ w.heap.size
  out : ∀ k, k < w2.heap.size → (k < lo ∨ V.heap.size ≤ k) → w.heap[k]? = w2.heap[k]?
  sh : Sh t (Own lo V) (Own lo w)
section
variable {w2 V w w' : World} {lo t t' : Nat}
theorem Gr.start (h : Stretch lo V.heap.size V w2) : Gr w2 lo V 0 w2 :=
  ⟨rfl, rfl, rfl, Nat.le_refl _, fun _ _ _ => rfl, fun p v hc => ⟨v, (h.sub (Nat.le_refl _)).cell hc, .same⟩⟩
theorem Gr.more (h : Gr w2 lo V t w) (e : Ext w w') : Gr w2 lo V t w' :=
  ⟨e.os.trans h.os, e.tape.trans h.tape, e.output.trans h.output, Nat.le_trans h.size e.size, fun k hk hl => (e.block k (Nat.lt_of_lt_of_le hk h.size)).trans (h.out k hk hl), fun p v hc => by
    obtain ⟨u, h1, h2⟩ := h.sh p v hc
    exact ⟨u, (Own.ext e).cell h1, h2⟩⟩
theorem Gr.mono (h : Gr w2 lo V t w) (ht : t ≤ t') : Gr w2 lo V t' w :=
  ⟨h.os, h.tape, h.output, h.size, h.out, fun p v hc => by
    obtain ⟨u, h1, h2⟩ := h.sh p v hc
    exact ⟨u, h1, h2.mono ht⟩⟩
theorem Gr.set (h : Gr w2 lo V t w) (ht : t ≤ t') {b o : Nat} {v x : Value} (hc : (Own lo V).cell? ⟨b, o, none⟩ = some v) (hl : Like t' v x) : Gr w2 lo V t' (w.setCell ⟨b, o, none⟩ x) := by
  have hb : lo ≤ b := (Own.cell hc).1
  have hb2 : b < V.heap.size := by have := cell_lt hc; rwa [Own.size] at this
  refine ⟨h.os, h.tape, h.output, by simpa [World.setCell] using h.size, fun k hk hl => (Below.heap_setCell w ⟨b, o, none⟩ x k (by show k ≠ b; omega)).trans (h.out k hk hl), fun p u hp => ?_⟩
  rw [Own.set w (p := ⟨b, o, none⟩) hb]
  by_cases e : p = ⟨b, o, none⟩
  · subst e
    obtain rfl : v = u := by rw [hc] at hp; injection hp
    obtain ⟨y, h1, _⟩ := h.sh _ _ hc
    exact ⟨x, cell_set_eq h1, hl⟩
  · obtain ⟨y, h1, h2⟩ := h.sh p u hp
    exact ⟨y, by rw [cell_set_ne e]; exact h1, h2.mono ht⟩
theorem Gr.at (h : Gr w2 lo V t w) {p : Addr} {v : Value} (hc : (Own lo V).cell? p = some v) : ∃ u, w.cell? p = some u ∧ w.frozen? p = false ∧ Like t v u := by
  obtain ⟨u, h1, h2⟩ := h.sh p v hc
  obtain ⟨_, h3, h4⟩ := Own.cell h1
  exact ⟨u, h3, h4, h2⟩
theorem Gr.str (h : Gr w2 lo V t w) {p : Addr} {s : ByteArray} (hc : (Own lo V).cell? p = some (.string s)) : ∃ u, w.cell? p = some (.string u) ∧ w.frozen? p = false ∧ u.size ≤ s.size + t := by
  obtain ⟨u, h1, h2, h3⟩ := h.at hc
  obtain ⟨b, rfl, hb⟩ := h3.ofStr
  exact ⟨b, h1, h2, hb⟩
theorem Gr.int (h : Gr w2 lo V t w) {p : Addr} {x : Int} (hx : inI x) (hc : (Own lo V).cell? p = some (.int .i64 x)) : ∃ u, w.cell? p = some (.int .i64 u) ∧ w.frozen? p = false ∧ inI u := by
  obtain ⟨u, h1, h2, h3⟩ := h.at hc
  obtain ⟨b, rfl, hb⟩ := h3.ofInt hx
  exact ⟨b, h1, h2, hb⟩
theorem Gr.bool (h : Gr w2 lo V t w) {p : Addr} {x : Bool} (hc : (Own lo V).cell? p = some (.bool x)) : ∃ u, w.cell? p = some (.bool u) ∧ w.frozen? p = false := by
  obtain ⟨u, h1, h2, h3⟩ := h.at hc
  obtain ⟨b, rfl⟩ := h3.ofBool
  exact ⟨b, h1, h2⟩
theorem Gr.slice (h : Gr w2 lo V t w) {p : Addr} {A : Option Addr} {n c : Nat} (hc : (Own lo V).cell? p = some (.slice A n c)) : w.cell? p = some (.slice A n c) := by
  obtain ⟨u, h1, h2, h3⟩ := h.at hc
  rw [h3.ofSlice] at h1
  exact h1
theorem Gr.wb (h : Gr w2 lo V t w) {n : Nat} {T : TypeId} {cs : Array Value} (hb : WB w2 n T cs) (hn : n < lo ∨ V.heap.size ≤ n) : WB w n T cs := (h.out n hb.lt hn).trans hb
theorem Gr.ext (h : Gr w2 lo V t w) {U : World} (hU : U.heap.size ≤ lo) (e : Ext U w2) : Ext U w :=
  ⟨h.os.trans e.os, h.tape.trans e.tape, h.output.trans e.output, Nat.le_trans e.size h.size, fun k hk => (h.out k (Nat.lt_of_lt_of_le hk e.size) (.inl (by omega))).trans (e.block k hk)⟩
theorem Gr.stretch (h : Gr w2 lo V t w) {lo6 S : Nat} {v : World} (hs : Stretch lo6 S v w2) (hl : V.heap.size ≤ lo6) (hw : S ≤ w2.heap.size) : Stretch lo6 S v w := fun k h1 h2 => (h.out k (by omega) (.inr (by omega))).trans (hs k h1 h2)

/-- the same, while a row of strings from ⟨b, o⟩ on is gone through: those from k on have not grown yet -/
structure GrR (w2 : World) (lo : Nat) (V : World) (t b o k : Nat) (w : World) : Prop where
  gr : Gr w2 lo V (t + 1) w
  rest : ∀ j v, k ≤ j → (Own lo V).cell? ⟨b, o + j, none⟩ = some v → ∃ u, w.cell? ⟨b, o + j, none⟩ = some u ∧ w.frozen? ⟨b, o + j, none⟩ = false ∧ Like t v u
theorem GrR.start (h : Gr w2 lo V t w) (b o : Nat) : GrR w2 lo V t b o 0 w := ⟨h.mono (by omega), fun j v _ hc => h.at hc⟩
theorem GrR.str {b o k : Nat} (h : GrR w2 lo V t b o k w) {s : ByteArray} (hc : (Own lo V).cell? ⟨b, o + k, none⟩ = some (.string s)) : ∃ u, w.cell? ⟨b, o + k, none⟩ = some (.string u) ∧ w.frozen? ⟨b, o + k, none⟩ = false ∧ u.size ≤ s.size + t := by
  obtain ⟨u, h1, h2, h3⟩ := h.rest k _ (Nat.le_refl _) hc
  obtain ⟨b, rfl, hb⟩ := h3.ofStr
  exact ⟨b, h1, h2, hb⟩
theorem GrR.set {b o k : Nat} (h : GrR w2 lo V t b o k w) {s u : ByteArray} (hc : (Own lo V).cell? ⟨b, o + k, none⟩ = some (.string s)) (hu : u.size ≤ s.size + (t + 1)) : GrR w2 lo V t b o (k + 1) (w.setCell ⟨b, o + k, none⟩ (.string u)) := by
  refine ⟨h.gr.set (Nat.le_refl _) hc (.str hu), fun j v hj hv => ?_⟩
  obtain ⟨y, h1, h2, h3⟩ := h.rest j v (by omega) hv
  refine ⟨y, ?_, ?_, h3⟩
  · rw [cell_set_ne (by intro e; injection e with _ e _; omega)]; exact h1
  · rw [World.frozen?_setCell]; exact h2
/-- seen from a later world -/
theorem Gr.here (h : Gr w2 lo V t w) : Gr w lo V t w := ⟨rfl, rfl, rfl, Nat.le_refl _, fun _ _ _ => rfl, h.sh⟩
theorem Gr.trans {W : World} (h : Gr w2 lo V t W) (k : Gr W lo V t' w) : Gr w2 lo V t' w :=
  ⟨k.os.trans h.os, k.tape.trans h.tape, k.output.trans h.output, Nat.le_trans h.size k.size, fun i hi hl => (k.out i (Nat.lt_of_lt_of_le hi h.size) hl).trans (h.out i hi hl), k.sh⟩
end
theorem Sl.termT {w : World} {A : Option Addr} {xs : List Tm} (h : Sl RTermT 3 w A xs) {k : Nat} (hk : k < xs.length) :
    ∃ b o x A' c', A = some ⟨b, o, none⟩ ∧ xs[k]? = some x ∧ okS x.key ∧ inI x.kind ∧ x.vals.length ≤ c' ∧ c' ≤ maxLen ∧ Sl RStr 1 (Typ 9 w) A' x.vals ∧
      w.cell? ⟨b, o + k * 3, none⟩ = some (.string x.key) ∧ w.cell? ⟨b, o + k * 3 + 1, none⟩ = some (.int .i64 x.kind) ∧
      w.cell? ⟨b, o + k * 3 + 2, none⟩ = some (.slice A' x.vals.length c') := by
  obtain ⟨x, hx⟩ := get_of hk
  obtain ⟨b, o, cs, hA, hl, hc, A', c', rfl, h1, h2, h3, h4, h5⟩ := h k x hx
  exact ⟨b, o, x, A', c', hA, hx, h1, h2, h3, h4, h5, by simpa using hc 0 _ rfl, by simpa using hc 1 _ rfl, by simpa using hc 2 _ rfl⟩
/-- where a row of strings lies -/
theorem Sl.row {w : World} {A : Option Addr} {xs : List ByteArray} (h : Sl RStr 1 w A xs) : ∃ b o, ∀ k x, xs[k]? = some x → A = some ⟨b, o, none⟩ ∧ w.cell? ⟨b, o + k, none⟩ = some (.string x) := by
  cases xs with
  | nil => exact ⟨0, 0, fun k x hx => by simp at hx⟩
  | cons y r =>
    obtain ⟨b, o, cs, rfl, _⟩ := h 0 y rfl
    refine ⟨b, o, fun k x hx => ?_⟩
    obtain ⟨b', o', cs, e, _, hc, rfl, _⟩ := h k x hx
    obtain ⟨rfl, rfl⟩ : b = b' ∧ o = o' := by simpa using e
    exact ⟨rfl, by simpa using hc 0 _ rfl⟩
/-- one of the three lists of terms -/
structure TL (lo : Nat) (V : World) (A : Option Addr) (n : Nat) (ts : List Tm) : Prop where
  len : ts.length = n
  le : n ≤ 8796093022208
  sl : Sl RTermT 3 (Own lo V) A ts
  sz : ∀ t ∈ ts, t.vals.length * 16 ≤ 140737488351232 ∧ ∀ v ∈ t.vals, v.size ≤ 140737488351232
end Go.Proofs.YthfafenigjldlaaGreat
