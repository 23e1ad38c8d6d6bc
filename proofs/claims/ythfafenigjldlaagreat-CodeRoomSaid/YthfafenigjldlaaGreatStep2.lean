/-
  Two copies and their two boxes, in whatever order they are made (printed by mkst.py).
-/
import Derived.Test.YthfafenigjldlaaGreatStep1
namespace Go.Proofs.YthfafenigjldlaaGreat
open Go.RowKit
set_option linter.unusedVariables false
theorem Ext.undrew {w w' : World} (h : Ext w.drew w') : Ext w w' := ⟨h.os, h.tape, h.output, h.size, h.block⟩
theorem Ext.undrewN {w w' : World} {n : Nat} (h : Ext (w.drewN n) w') : Ext w w' := ⟨h.os, h.tape, h.output, h.size, h.block⟩

/-- the boxes x (of type pod), y (of type node): where, what; the copies c, d: their rows begin at lo, end ahead of the world's size behind the call -/
structure StPN (U : World) (p : Pd) (n : Nd) (x y : Option (Nat × Array Value)) (c : Option (Nat × World × PA)) (d : Option (Nat × World × NA)) (w : World) : Prop where
  ext : Ext U w
  bx : ∀ m vs, x = some (m, vs) → WB w m 66 vs ∧ U.heap.size ≤ m
  by_ : ∀ m vs, y = some (m, vs) → WB w m 68 vs ∧ U.heap.size ≤ m
  cp : ∀ lo v q, c = some (lo, v, q) → PodOwn lo v p q ∧ U.heap.size ≤ lo ∧ Stretch lo v.heap.size v w ∧ v.heap.size ≤ w.heap.size ∧ (∀ m vs, x = some (m, vs) → m < lo ∨ v.heap.size ≤ m) ∧ (∀ m vs, y = some (m, vs) → m < lo ∨ v.heap.size ≤ m)
  dp : ∀ lo v q, d = some (lo, v, q) → NodeOwn lo v n q ∧ U.heap.size ≤ lo ∧ Stretch lo v.heap.size v w ∧ v.heap.size ≤ w.heap.size ∧ (∀ m vs, x = some (m, vs) → m < lo ∨ v.heap.size ≤ m) ∧ (∀ m vs, y = some (m, vs) → m < lo ∨ v.heap.size ≤ m)
  ne : ∀ m vs m' us, x = some (m, vs) → y = some (m', us) → m ≠ m'
  sep : ∀ lo v q lo' v' q', c = some (lo, v, q) → d = some (lo', v', q') → v.heap.size ≤ lo'
section
variable {U w W' : World} {p : Pd} {n : Nd} {x y : Option (Nat × Array Value)} {c : Option (Nat × World × PA)} {d : Option (Nat × World × NA)}
theorem StPN.start (U : World) (p : Pd) (n : Nd) : StPN U p n none none none none U :=
  ⟨Ext.refl _, (fun _ _ h => by cases h), (fun _ _ h => by cases h), (fun _ _ _ h => by cases h), (fun _ _ _ h => by cases h), (fun _ _ _ _ h => by cases h), (fun _ _ _ _ _ _ h => by cases h)⟩
theorem StPN.more (h : StPN U p n x y c d w) (e : Ext w W') : StPN U p n x y c d W' :=
  ⟨h.ext.trans e, fun m vs a => ⟨(h.bx m vs a).1.ext e, (h.bx m vs a).2⟩, fun m vs a => ⟨(h.by_ m vs a).1.ext e, (h.by_ m vs a).2⟩,
    fun lo v q a => by obtain ⟨h1, h2, h3, h4, h5⟩ := h.cp lo v q a; exact ⟨h1, h2, h3.ext h4 e, Nat.le_trans h4 e.size, h5⟩,
    fun lo v q a => by obtain ⟨h1, h2, h3, h4, h5⟩ := h.dp lo v q a; exact ⟨h1, h2, h3.ext h4 e, Nat.le_trans h4 e.size, h5⟩, h.ne, h.sep⟩
theorem StPN.allocX {m : Nat} {us : Array Value} (h : StPN U p n none y c d w) (hm : w.heap.size = m) (hb : WB W' m 66 us) (e : Ext w W') : StPN U p n (some (m, us)) y c d W' := by
  have g := h.more e
  refine ⟨g.ext, fun m' vs a => ?_, g.by_, fun lo v q a => ?_, fun lo v q a => ?_, fun m' vs m2 us2 a b => ?_, g.sep⟩
  · obtain ⟨rfl, rfl⟩ : m = m' ∧ us = vs := by simpa using a
    exact ⟨hb, by have := h.ext.size; omega⟩
  · obtain ⟨h1, h2, h3, h4, _, h6⟩ := g.cp lo v q a
    have k := (h.cp lo v q a).2.2.2.1
    refine ⟨h1, h2, h3, h4, fun m' vs b => ?_, h6⟩
    obtain ⟨rfl, rfl⟩ : m = m' ∧ us = vs := by simpa using b
    right; omega
  · obtain ⟨h1, h2, h3, h4, _, h6⟩ := g.dp lo v q a
    have k := (h.dp lo v q a).2.2.2.1
    refine ⟨h1, h2, h3, h4, fun m' vs b => ?_, h6⟩
    obtain ⟨rfl, rfl⟩ : m = m' ∧ us = vs := by simpa using b
    right; omega
  · obtain ⟨rfl, rfl⟩ : m = m' ∧ us = vs := by simpa using a
    have := (h.by_ m2 us2 b).1.lt
    omega
theorem StPN.allocY {m : Nat} {us : Array Value} (h : StPN U p n x none c d w) (hm : w.heap.size = m) (hb : WB W' m 68 us) (e : Ext w W') : StPN U p n x (some (m, us)) c d W' := by
  have g := h.more e
  refine ⟨g.ext, g.bx, fun m' vs a => ?_, fun lo v q a => ?_, fun lo v q a => ?_, fun m' vs m2 us2 a b => ?_, g.sep⟩
  · obtain ⟨rfl, rfl⟩ : m = m' ∧ us = vs := by simpa using a
    exact ⟨hb, by have := h.ext.size; omega⟩
  · obtain ⟨h1, h2, h3, h4, h6, _⟩ := g.cp lo v q a
    have k := (h.cp lo v q a).2.2.2.1
    refine ⟨h1, h2, h3, h4, h6, fun m' vs b => ?_⟩
    obtain ⟨rfl, rfl⟩ : m = m' ∧ us = vs := by simpa using b
    right; omega
  · obtain ⟨h1, h2, h3, h4, h6, _⟩ := g.dp lo v q a
    have k := (h.dp lo v q a).2.2.2.1
    refine ⟨h1, h2, h3, h4, h6, fun m' vs b => ?_⟩
    obtain ⟨rfl, rfl⟩ : m = m' ∧ us = vs := by simpa using b
    right; omega
  · obtain ⟨rfl, rfl⟩ : m = m2 ∧ us = us2 := by simpa using b
    have := (h.bx m' vs a).1.lt
    omega
theorem StPN.callC {q : PA} (h : StPN U p n x y none none w) (e : Ext w W') (o : PodOwn w.heap.size W' p q) : StPN U p n x y (some (w.heap.size, W', q)) none W' := by
  have g := h.more e
  refine ⟨g.ext, g.bx, g.by_, fun lo v q' a => ?_, (fun _ _ _ a => by cases a), g.ne, (fun _ _ _ _ _ _ _ a => by cases a)⟩
  simp only [Option.some.injEq, Prod.mk.injEq] at a
  obtain ⟨rfl, rfl, rfl⟩ := a
  exact ⟨o, h.ext.size, Stretch.refl _ _ _, Nat.le_refl _, fun m vs a => .inl (h.bx m vs a).1.lt, fun m vs a => .inl (h.by_ m vs a).1.lt⟩
theorem StPN.callD {q : NA} (h : StPN U p n x y c none w) (e : Ext w W') (o : NodeOwn w.heap.size W' n q) : StPN U p n x y c (some (w.heap.size, W', q)) W' := by
  have g := h.more e
  refine ⟨g.ext, g.bx, g.by_, g.cp, fun lo v q' a => ?_, g.ne, fun lo v q1 lo' v' q2 a b => ?_⟩
  · simp only [Option.some.injEq, Prod.mk.injEq] at a
    obtain ⟨rfl, rfl, rfl⟩ := a
    exact ⟨o, h.ext.size, Stretch.refl _ _ _, Nat.le_refl _, fun m vs a => .inl (h.bx m vs a).1.lt, fun m vs a => .inl (h.by_ m vs a).1.lt⟩
  · simp only [Option.some.injEq, Prod.mk.injEq] at b
    obtain ⟨rfl, rfl, rfl⟩ := b
    exact (h.cp lo v q1 a).2.2.2.1
theorem StPN.storeX {m : Nat} {vs us : Array Value} (h : StPN U p n (some (m, vs)) y c d w) (hW : W' = w.setRow m us) : StPN U p n (some (m, us)) y c d W' := by
  subst hW
  obtain ⟨hb, hu⟩ := h.bx m vs rfl
  refine ⟨h.ext.setRow hu us, fun m' vs' a => ?_, fun m' vs' a => ?_, fun lo v q a => ?_, fun lo v q a => ?_, fun m' vs' m2 us2 a b => ?_, h.sep⟩
  · obtain ⟨rfl, rfl⟩ : m = m' ∧ us = vs' := by simpa using a
    exact ⟨hb.row us, hu⟩
  · exact ⟨(h.by_ m' vs' a).1.rowFar (Ne.symm (h.ne m vs m' vs' rfl a)) us, (h.by_ m' vs' a).2⟩
  · obtain ⟨h1, h2, h3, h4, h5, h6⟩ := h.cp lo v q a
    refine ⟨h1, h2, h3.row (h5 m vs rfl) us, by rw [row_size]; exact h4, fun m' vs' b => ?_, h6⟩
    obtain ⟨rfl, rfl⟩ : m = m' ∧ us = vs' := by simpa using b
    exact h5 m vs rfl
  · obtain ⟨h1, h2, h3, h4, h5, h6⟩ := h.dp lo v q a
    refine ⟨h1, h2, h3.row (h5 m vs rfl) us, by rw [row_size]; exact h4, fun m' vs' b => ?_, h6⟩
    obtain ⟨rfl, rfl⟩ : m = m' ∧ us = vs' := by simpa using b
    exact h5 m vs rfl
  · obtain ⟨rfl, rfl⟩ : m = m' ∧ us = vs' := by simpa using a
    exact h.ne m vs m2 us2 rfl b
theorem StPN.storeY {m : Nat} {vs us : Array Value} (h : StPN U p n x (some (m, vs)) c d w) (hW : W' = w.setRow m us) : StPN U p n x (some (m, us)) c d W' := by
  subst hW
  obtain ⟨hb, hu⟩ := h.by_ m vs rfl
  refine ⟨h.ext.setRow hu us, fun m' vs' a => ?_, fun m' vs' a => ?_, fun lo v q a => ?_, fun lo v q a => ?_, fun m' vs' m2 us2 a b => ?_, h.sep⟩
  · exact ⟨(h.bx m' vs' a).1.rowFar (h.ne m' vs' m vs a rfl) us, (h.bx m' vs' a).2⟩
  · obtain ⟨rfl, rfl⟩ : m = m' ∧ us = vs' := by simpa using a
    exact ⟨hb.row us, hu⟩
  · obtain ⟨h1, h2, h3, h4, h5, h6⟩ := h.cp lo v q a
    refine ⟨h1, h2, h3.row (h6 m vs rfl) us, by rw [row_size]; exact h4, h5, fun m' vs' b => ?_⟩
    obtain ⟨rfl, rfl⟩ : m = m' ∧ us = vs' := by simpa using b
    exact h6 m vs rfl
  · obtain ⟨h1, h2, h3, h4, h5, h6⟩ := h.dp lo v q a
    refine ⟨h1, h2, h3.row (h6 m vs rfl) us, by rw [row_size]; exact h4, h5, fun m' vs' b => ?_⟩
    obtain ⟨rfl, rfl⟩ : m = m' ∧ us = vs' := by simpa using b
    exact h6 m vs rfl
  · obtain ⟨rfl, rfl⟩ : m = m2 ∧ us = us2 := by simpa using b
    exact h.ne m' vs' m vs a rfl
end

/-- the boxes x (of type pod), y (of type pod): where, what; the copies c, d: their rows begin at lo, end ahead of the world's size behind the call -/
structure StPP (U : World) (p : Pd) (n : Pd) (x y : Option (Nat × Array Value)) (c : Option (Nat × World × PA)) (d : Option (Nat × World × PA)) (w : World) : Prop where
  ext : Ext U w
  bx : ∀ m vs, x = some (m, vs) → WB w m 66 vs ∧ U.heap.size ≤ m
  by_ : ∀ m vs, y = some (m, vs) → WB w m 66 vs ∧ U.heap.size ≤ m
  cp : ∀ lo v q, c = some (lo, v, q) → PodOwn lo v p q ∧ U.heap.size ≤ lo ∧ Stretch lo v.heap.size v w ∧ v.heap.size ≤ w.heap.size ∧ (∀ m vs, x = some (m, vs) → m < lo ∨ v.heap.size ≤ m) ∧ (∀ m vs, y = some (m, vs) → m < lo ∨ v.heap.size ≤ m)
  dp : ∀ lo v q, d = some (lo, v, q) → PodOwn lo v n q ∧ U.heap.size ≤ lo ∧ Stretch lo v.heap.size v w ∧ v.heap.size ≤ w.heap.size ∧ (∀ m vs, x = some (m, vs) → m < lo ∨ v.heap.size ≤ m) ∧ (∀ m vs, y = some (m, vs) → m < lo ∨ v.heap.size ≤ m)
  ne : ∀ m vs m' us, x = some (m, vs) → y = some (m', us) → m ≠ m'
  sep : ∀ lo v q lo' v' q', c = some (lo, v, q) → d = some (lo', v', q') → v.heap.size ≤ lo'
section
variable {U w W' : World} {p : Pd} {n : Pd} {x y : Option (Nat × Array Value)} {c : Option (Nat × World × PA)} {d : Option (Nat × World × PA)}
theorem StPP.start (U : World) (p : Pd) (n : Pd) : StPP U p n none none none none U :=
  ⟨Ext.refl _, (fun _ _ h => by cases h), (fun _ _ h => by cases h), (fun _ _ _ h => by cases h), (fun _ _ _ h => by cases h), (fun _ _ _ _ h => by cases h), (fun _ _ _ _ _ _ h => by cases h)⟩
theorem StPP.more (h : StPP U p n x y c d w) (e : Ext w W') : StPP U p n x y c d W' :=
  ⟨h.ext.trans e, fun m vs a => ⟨(h.bx m vs a).1.ext e, (h.bx m vs a).2⟩, fun m vs a => ⟨(h.by_ m vs a).1.ext e, (h.by_ m vs a).2⟩,
    fun lo v q a => by obtain ⟨h1, h2, h3, h4, h5⟩ := h.cp lo v q a; exact ⟨h1, h2, h3.ext h4 e, Nat.le_trans h4 e.size, h5⟩,
    fun lo v q a => by obtain ⟨h1, h2, h3, h4, h5⟩ := h.dp lo v q a; exact ⟨h1, h2, h3.ext h4 e, Nat.le_trans h4 e.size, h5⟩, h.ne, h.sep⟩
theorem StPP.allocX {m : Nat} {us : Array Value} (h : StPP U p n none y c d w) (hm : w.heap.size = m) (hb : WB W' m 66 us) (e : Ext w W') : StPP U p n (some (m, us)) y c d W' := by
  have g := h.more e
  refine ⟨g.ext, fun m' vs a => ?_, g.by_, fun lo v q a => ?_, fun lo v q a => ?_, fun m' vs m2 us2 a b => ?_, g.sep⟩
  · obtain ⟨rfl, rfl⟩ : m = m' ∧ us = vs := by simpa using a
    exact ⟨hb, by have := h.ext.size; omega⟩
  · obtain ⟨h1, h2, h3, h4, _, h6⟩ := g.cp lo v q a
    have k := (h.cp lo v q a).2.2.2.1
    refine ⟨h1, h2, h3, h4, fun m' vs b => ?_, h6⟩
    obtain ⟨rfl, rfl⟩ : m = m' ∧ us = vs := by simpa using b
    right; omega
  · obtain ⟨h1, h2, h3, h4, _, h6⟩ := g.dp lo v q a
    have k := (h.dp lo v q a).2.2.2.1
    refine ⟨h1, h2, h3, h4, fun m' vs b => ?_, h6⟩
    obtain ⟨rfl, rfl⟩ : m = m' ∧ us = vs := by simpa using b
    right; omega
  · obtain ⟨rfl, rfl⟩ : m = m' ∧ us = vs := by simpa using a
    have := (h.by_ m2 us2 b).1.lt
    omega
theorem StPP.allocY {m : Nat} {us : Array Value} (h : StPP U p n x none c d w) (hm : w.heap.size = m) (hb : WB W' m 66 us) (e : Ext w W') : StPP U p n x (some (m, us)) c d W' := by
  have g := h.more e
  refine ⟨g.ext, g.bx, fun m' vs a => ?_, fun lo v q a => ?_, fun lo v q a => ?_, fun m' vs m2 us2 a b => ?_, g.sep⟩
  · obtain ⟨rfl, rfl⟩ : m = m' ∧ us = vs := by simpa using a
    exact ⟨hb, by have := h.ext.size; omega⟩
  · obtain ⟨h1, h2, h3, h4, h6, _⟩ := g.cp lo v q a
    have k := (h.cp lo v q a).2.2.2.1
    refine ⟨h1, h2, h3, h4, h6, fun m' vs b => ?_⟩
    obtain ⟨rfl, rfl⟩ : m = m' ∧ us = vs := by simpa using b
    right; omega
  · obtain ⟨h1, h2, h3, h4, h6, _⟩ := g.dp lo v q a
    have k := (h.dp lo v q a).2.2.2.1
    refine ⟨h1, h2, h3, h4, h6, fun m' vs b => ?_⟩
    obtain ⟨rfl, rfl⟩ : m = m' ∧ us = vs := by simpa using b
    right; omega
  · obtain ⟨rfl, rfl⟩ : m = m2 ∧ us = us2 := by simpa using b
    have := (h.bx m' vs a).1.lt
    omega
theorem StPP.callC {q : PA} (h : StPP U p n x y none none w) (e : Ext w W') (o : PodOwn w.heap.size W' p q) : StPP U p n x y (some (w.heap.size, W', q)) none W' := by
  have g := h.more e
  refine ⟨g.ext, g.bx, g.by_, fun lo v q' a => ?_, (fun _ _ _ a => by cases a), g.ne, (fun _ _ _ _ _ _ _ a => by cases a)⟩
  simp only [Option.some.injEq, Prod.mk.injEq] at a
  obtain ⟨rfl, rfl, rfl⟩ := a
  exact ⟨o, h.ext.size, Stretch.refl _ _ _, Nat.le_refl _, fun m vs a => .inl (h.bx m vs a).1.lt, fun m vs a => .inl (h.by_ m vs a).1.lt⟩
theorem StPP.callD {q : PA} (h : StPP U p n x y c none w) (e : Ext w W') (o : PodOwn w.heap.size W' n q) : StPP U p n x y c (some (w.heap.size, W', q)) W' := by
  have g := h.more e
  refine ⟨g.ext, g.bx, g.by_, g.cp, fun lo v q' a => ?_, g.ne, fun lo v q1 lo' v' q2 a b => ?_⟩
  · simp only [Option.some.injEq, Prod.mk.injEq] at a
    obtain ⟨rfl, rfl, rfl⟩ := a
    exact ⟨o, h.ext.size, Stretch.refl _ _ _, Nat.le_refl _, fun m vs a => .inl (h.bx m vs a).1.lt, fun m vs a => .inl (h.by_ m vs a).1.lt⟩
  · simp only [Option.some.injEq, Prod.mk.injEq] at b
    obtain ⟨rfl, rfl, rfl⟩ := b
    exact (h.cp lo v q1 a).2.2.2.1
theorem StPP.storeX {m : Nat} {vs us : Array Value} (h : StPP U p n (some (m, vs)) y c d w) (hW : W' = w.setRow m us) : StPP U p n (some (m, us)) y c d W' := by
  subst hW
  obtain ⟨hb, hu⟩ := h.bx m vs rfl
  refine ⟨h.ext.setRow hu us, fun m' vs' a => ?_, fun m' vs' a => ?_, fun lo v q a => ?_, fun lo v q a => ?_, fun m' vs' m2 us2 a b => ?_, h.sep⟩
  · obtain ⟨rfl, rfl⟩ : m = m' ∧ us = vs' := by simpa using a
    exact ⟨hb.row us, hu⟩
  · exact ⟨(h.by_ m' vs' a).1.rowFar (Ne.symm (h.ne m vs m' vs' rfl a)) us, (h.by_ m' vs' a).2⟩
  · obtain ⟨h1, h2, h3, h4, h5, h6⟩ := h.cp lo v q a
    refine ⟨h1, h2, h3.row (h5 m vs rfl) us, by rw [row_size]; exact h4, fun m' vs' b => ?_, h6⟩
    obtain ⟨rfl, rfl⟩ : m = m' ∧ us = vs' := by simpa using b
    exact h5 m vs rfl
  · obtain ⟨h1, h2, h3, h4, h5, h6⟩ := h.dp lo v q a
    refine ⟨h1, h2, h3.row (h5 m vs rfl) us, by rw [row_size]; exact h4, fun m' vs' b => ?_, h6⟩
    obtain ⟨rfl, rfl⟩ : m = m' ∧ us = vs' := by simpa using b
    exact h5 m vs rfl
  · obtain ⟨rfl, rfl⟩ : m = m' ∧ us = vs' := by simpa using a
    exact h.ne m vs m2 us2 rfl b
theorem StPP.storeY {m : Nat} {vs us : Array Value} (h : StPP U p n x (some (m, vs)) c d w) (hW : W' = w.setRow m us) : StPP U p n x (some (m, us)) c d W' := by
  subst hW
  obtain ⟨hb, hu⟩ := h.by_ m vs rfl
  refine ⟨h.ext.setRow hu us, fun m' vs' a => ?_, fun m' vs' a => ?_, fun lo v q a => ?_, fun lo v q a => ?_, fun m' vs' m2 us2 a b => ?_, h.sep⟩
  · exact ⟨(h.bx m' vs' a).1.rowFar (h.ne m' vs' m vs a rfl) us, (h.bx m' vs' a).2⟩
  · obtain ⟨rfl, rfl⟩ : m = m' ∧ us = vs' := by simpa using a
    exact ⟨hb.row us, hu⟩
  · obtain ⟨h1, h2, h3, h4, h5, h6⟩ := h.cp lo v q a
    refine ⟨h1, h2, h3.row (h6 m vs rfl) us, by rw [row_size]; exact h4, h5, fun m' vs' b => ?_⟩
    obtain ⟨rfl, rfl⟩ : m = m' ∧ us = vs' := by simpa using b
    exact h6 m vs rfl
  · obtain ⟨h1, h2, h3, h4, h5, h6⟩ := h.dp lo v q a
    refine ⟨h1, h2, h3.row (h6 m vs rfl) us, by rw [row_size]; exact h4, h5, fun m' vs' b => ?_⟩
    obtain ⟨rfl, rfl⟩ : m = m' ∧ us = vs' := by simpa using b
    exact h6 m vs rfl
  · obtain ⟨rfl, rfl⟩ : m = m2 ∧ us = us2 := by simpa using b
    exact h.ne m' vs' m vs a rfl
end

/-- the boxes x (of type node), y (of type node): where, what; the copies c, d: their rows begin at lo, end ahead of the world's size behind the call -/
structure StNN (U : World) (p : Nd) (n : Nd) (x y : Option (Nat × Array Value)) (c : Option (Nat × World × NA)) (d : Option (Nat × World × NA)) (w : World) : Prop where
  ext : Ext U w
  bx : ∀ m vs, x = some (m, vs) → WB w m 68 vs ∧ U.heap.size ≤ m
  by_ : ∀ m vs, y = some (m, vs) → WB w m 68 vs ∧ U.heap.size ≤ m
  cp : ∀ lo v q, c = some (lo, v, q) → NodeOwn lo v p q ∧ U.heap.size ≤ lo ∧ Stretch lo v.heap.size v w ∧ v.heap.size ≤ w.heap.size ∧ (∀ m vs, x = some (m, vs) → m < lo ∨ v.heap.size ≤ m) ∧ (∀ m vs, y = some (m, vs) → m < lo ∨ v.heap.size ≤ m)
  dp : ∀ lo v q, d = some (lo, v, q) → NodeOwn lo v n q ∧ U.heap.size ≤ lo ∧ Stretch lo v.heap.size v w ∧ v.heap.size ≤ w.heap.size ∧ (∀ m vs, x = some (m, vs) → m < lo ∨ v.heap.size ≤ m) ∧ (∀ m vs, y = some (m, vs) → m < lo ∨ v.heap.size ≤ m)
  ne : ∀ m vs m' us, x = some (m, vs) → y = some (m', us) → m ≠ m'
  sep : ∀ lo v q lo' v' q', c = some (lo, v, q) → d = some (lo', v', q') → v.heap.size ≤ lo'
section
variable {U w W' : World} {p : Nd} {n : Nd} {x y : Option (Nat × Array Value)} {c : Option (Nat × World × NA)} {d : Option (Nat × World × NA)}
theorem StNN.start (U : World) (p : Nd) (n : Nd) : StNN U p n none none none none U :=
  ⟨Ext.refl _, (fun _ _ h => by cases h), (fun _ _ h => by cases h), (fun _ _ _ h => by cases h), (fun _ _ _ h => by cases h), (fun _ _ _ _ h => by cases h), (fun _ _ _ _ _ _ h => by cases h)⟩
theorem StNN.more (h : StNN U p n x y c d w) (e : Ext w W') : StNN U p n x y c d W' :=
  ⟨h.ext.trans e, fun m vs a => ⟨(h.bx m vs a).1.ext e, (h.bx m vs a).2⟩, fun m vs a => ⟨(h.by_ m vs a).1.ext e, (h.by_ m vs a).2⟩,
    fun lo v q a => by obtain ⟨h1, h2, h3, h4, h5⟩ := h.cp lo v q a; exact ⟨h1, h2, h3.ext h4 e, Nat.le_trans h4 e.size, h5⟩,
    fun lo v q a => by obtain ⟨h1, h2, h3, h4, h5⟩ := h.dp lo v q a; exact ⟨h1, h2, h3.ext h4 e, Nat.le_trans h4 e.size, h5⟩, h.ne, h.sep⟩
theorem StNN.allocX {m : Nat} {us : Array Value} (h : StNN U p n none y c d w) (hm : w.heap.size = m) (hb : WB W' m 68 us) (e : Ext w W') : StNN U p n (some (m, us)) y c d W' := by
  have g := h.more e
  refine ⟨g.ext, fun m' vs a => ?_, g.by_, fun lo v q a => ?_, fun lo v q a => ?_, fun m' vs m2 us2 a b => ?_, g.sep⟩
  · obtain ⟨rfl, rfl⟩ : m = m' ∧ us = vs := by simpa using a
    exact ⟨hb, by have := h.ext.size; omega⟩
  · obtain ⟨h1, h2, h3, h4, _, h6⟩ := g.cp lo v q a
    have k := (h.cp lo v q a).2.2.2.1
    refine ⟨h1, h2, h3, h4, fun m' vs b => ?_, h6⟩
    obtain ⟨rfl, rfl⟩ : m = m' ∧ us = vs := by simpa using b
    right; omega
  · obtain ⟨h1, h2, h3, h4, _, h6⟩ := g.dp lo v q a
    have k := (h.dp lo v q a).2.2.2.1
    refine ⟨h1, h2, h3, h4, fun m' vs b => ?_, h6⟩
    obtain ⟨rfl, rfl⟩ : m = m' ∧ us = vs := by simpa using b
    right; omega
  · obtain ⟨rfl, rfl⟩ : m = m' ∧ us = vs := by simpa using a
    have := (h.by_ m2 us2 b).1.lt
    omega
theorem StNN.allocY {m : Nat} {us : Array Value} (h : StNN U p n x none c d w) (hm : w.heap.size = m) (hb : WB W' m 68 us) (e : Ext w W') : StNN U p n x (some (m, us)) c d W' := by
  have g := h.more e
  refine ⟨g.ext, g.bx, fun m' vs a => ?_, fun lo v q a => ?_, fun lo v q a => ?_, fun m' vs m2 us2 a b => ?_, g.sep⟩
  · obtain ⟨rfl, rfl⟩ : m = m' ∧ us = vs := by simpa using a
    exact ⟨hb, by have := h.ext.size; omega⟩
  · obtain ⟨h1, h2, h3, h4, h6, _⟩ := g.cp lo v q a
    have k := (h.cp lo v q a).2.2.2.1
    refine ⟨h1, h2, h3, h4, h6, fun m' vs b => ?_⟩
    obtain ⟨rfl, rfl⟩ : m = m' ∧ us = vs := by simpa using b
    right; omega
  · obtain ⟨h1, h2, h3, h4, h6, _⟩ := g.dp lo v q a
    have k := (h.dp lo v q a).2.2.2.1
    refine ⟨h1, h2, h3, h4, h6, fun m' vs b => ?_⟩
    obtain ⟨rfl, rfl⟩ : m = m' ∧ us = vs := by simpa using b
    right; omega
  · obtain ⟨rfl, rfl⟩ : m = m2 ∧ us = us2 := by simpa using b
    have := (h.bx m' vs a).1.lt
    omega
theorem StNN.callC {q : NA} (h : StNN U p n x y none none w) (e : Ext w W') (o : NodeOwn w.heap.size W' p q) : StNN U p n x y (some (w.heap.size, W', q)) none W' := by
  have g := h.more e
  refine ⟨g.ext, g.bx, g.by_, fun lo v q' a => ?_, (fun _ _ _ a => by cases a), g.ne, (fun _ _ _ _ _ _ _ a => by cases a)⟩
  simp only [Option.some.injEq, Prod.mk.injEq] at a
  obtain ⟨rfl, rfl, rfl⟩ := a
  exact ⟨o, h.ext.size, Stretch.refl _ _ _, Nat.le_refl _, fun m vs a => .inl (h.bx m vs a).1.lt, fun m vs a => .inl (h.by_ m vs a).1.lt⟩
theorem StNN.callD {q : NA} (h : StNN U p n x y c none w) (e : Ext w W') (o : NodeOwn w.heap.size W' n q) : StNN U p n x y c (some (w.heap.size, W', q)) W' := by
  have g := h.more e
  refine ⟨g.ext, g.bx, g.by_, g.cp, fun lo v q' a => ?_, g.ne, fun lo v q1 lo' v' q2 a b => ?_⟩
  · simp only [Option.some.injEq, Prod.mk.injEq] at a
    obtain ⟨rfl, rfl, rfl⟩ := a
    exact ⟨o, h.ext.size, Stretch.refl _ _ _, Nat.le_refl _, fun m vs a => .inl (h.bx m vs a).1.lt, fun m vs a => .inl (h.by_ m vs a).1.lt⟩
  · simp only [Option.some.injEq, Prod.mk.injEq] at b
    obtain ⟨rfl, rfl, rfl⟩ := b
    exact (h.cp lo v q1 a).2.2.2.1
theorem StNN.storeX {m : Nat} {vs us : Array Value} (h : StNN U p n (some (m, vs)) y c d w) (hW : W' = w.setRow m us) : StNN U p n (some (m, us)) y c d W' := by
  subst hW
  obtain ⟨hb, hu⟩ := h.bx m vs rfl
  refine ⟨h.ext.setRow hu us, fun m' vs' a => ?_, fun m' vs' a => ?_, fun lo v q a => ?_, fun lo v q a => ?_, fun m' vs' m2 us2 a b => ?_, h.sep⟩
  · obtain ⟨rfl, rfl⟩ : m = m' ∧ us = vs' := by simpa using a
    exact ⟨hb.row us, hu⟩
  · exact ⟨(h.by_ m' vs' a).1.rowFar (Ne.symm (h.ne m vs m' vs' rfl a)) us, (h.by_ m' vs' a).2⟩
  · obtain ⟨h1, h2, h3, h4, h5, h6⟩ := h.cp lo v q a
    refine ⟨h1, h2, h3.row (h5 m vs rfl) us, by rw [row_size]; exact h4, fun m' vs' b => ?_, h6⟩
    obtain ⟨rfl, rfl⟩ : m = m' ∧ us = vs' := by simpa using b
    exact h5 m vs rfl
  · obtain ⟨h1, h2, h3, h4, h5, h6⟩ := h.dp lo v q a
    refine ⟨h1, h2, h3.row (h5 m vs rfl) us, by rw [row_size]; exact h4, fun m' vs' b => ?_, h6⟩
    obtain ⟨rfl, rfl⟩ : m = m' ∧ us = vs' := by simpa using b
    exact h5 m vs rfl
  · obtain ⟨rfl, rfl⟩ : m = m' ∧ us = vs' := by simpa using a
    exact h.ne m vs m2 us2 rfl b
theorem StNN.storeY {m : Nat} {vs us : Array Value} (h : StNN U p n x (some (m, vs)) c d w) (hW : W' = w.setRow m us) : StNN U p n x (some (m, us)) c d W' := by
  subst hW
  obtain ⟨hb, hu⟩ := h.by_ m vs rfl
  refine ⟨h.ext.setRow hu us, fun m' vs' a => ?_, fun m' vs' a => ?_, fun lo v q a => ?_, fun lo v q a => ?_, fun m' vs' m2 us2 a b => ?_, h.sep⟩
  · exact ⟨(h.bx m' vs' a).1.rowFar (h.ne m' vs' m vs a rfl) us, (h.bx m' vs' a).2⟩
  · obtain ⟨rfl, rfl⟩ : m = m' ∧ us = vs' := by simpa using a
    exact ⟨hb.row us, hu⟩
  · obtain ⟨h1, h2, h3, h4, h5, h6⟩ := h.cp lo v q a
    refine ⟨h1, h2, h3.row (h6 m vs rfl) us, by rw [row_size]; exact h4, h5, fun m' vs' b => ?_⟩
    obtain ⟨rfl, rfl⟩ : m = m' ∧ us = vs' := by simpa using b
    exact h6 m vs rfl
  · obtain ⟨h1, h2, h3, h4, h5, h6⟩ := h.dp lo v q a
    refine ⟨h1, h2, h3.row (h6 m vs rfl) us, by rw [row_size]; exact h4, h5, fun m' vs' b => ?_⟩
    obtain ⟨rfl, rfl⟩ : m = m' ∧ us = vs' := by simpa using b
    exact h6 m vs rfl
  · obtain ⟨rfl, rfl⟩ : m = m2 ∧ us = us2 := by simpa using b
    exact h.ne m' vs' m vs a rfl
end
end Go.Proofs.YthfafenigjldlaaGreat
