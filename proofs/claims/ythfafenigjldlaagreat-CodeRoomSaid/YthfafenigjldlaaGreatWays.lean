/-
  ObjPart: what its ways leave (plain; printed by mkways.py).
-/
import Derived.Test.YthfafenigjldlaaGreatTwo1
namespace Go.Proofs.YthfafenigjldlaaGreat
open Go.RowKit
set_option linter.unusedVariables false

/-- all but block g are as they were -/
structure But (g : Nat) (w w' : World) : Prop where
  size : w.heap.size ≤ w'.heap.size
  blk : ∀ k, k < w.heap.size → k ≠ g → w'.heap[k]? = w.heap[k]?
theorem But.set (w : World) (g j : Nat) (v : Value) : But g w (w.setCell ⟨g, j, none⟩ v) :=
  ⟨by simp [World.setCell], fun k _ hk => Below.heap_setCell w ⟨g, j, none⟩ v k hk⟩
theorem But.ext {w w' : World} (e : Ext w w') (g : Nat) : But g w w' := ⟨e.size, fun k hk _ => e.block k hk⟩
theorem But.wb {g m : Nat} {w w' : World} {T : TypeId} {cs : Array Value} (h : But g w w') (hb : WB w m T cs) (hm : m ≠ g) : WB w' m T cs := (h.blk m hb.lt hm).trans hb
theorem wb_ne {w : World} {g m : Nat} {T T' : TypeId} {cs ds : Array Value} (h : WB w g T cs) (k : WB w m T' ds) (hT : T ≠ T') : g ≠ m := by
  rintro rfl
  unfold WB at h k
  rw [h] at k
  injection k with k
  injection k with _ k _
  exact hT k
/-- what lies in blocks of strings alone -/
def KeepsB {α : Type} (R : World → List Value → α → Prop) : Prop := ∀ w w' cs x, Sub (Typ 9 w) (Typ 9 w') → R w cs x → R w' cs x
theorem RInt.but : KeepsB RInt := fun _ _ _ _ _ h => h
theorem RPair.but : KeepsB RPair := fun _ _ _ _ _ h => h
theorem RTol.but : KeepsB RTol := fun _ _ _ _ _ h => h
theorem RTermT.but : KeepsB RTermT := fun _ _ _ _ he h => by
  obtain ⟨A, c, h1, h2, h3, h4, h5, h6⟩ := h
  exact ⟨A, c, h1, h2, h3, h4, h5, h6.sub RStr.subs he⟩
theorem But.typ {g : Nat} {w w' : World} {T : TypeId} {cs : Array Value} (h : But g w w') (hb : WB w g T cs) (hT : T ≠ 9) (lo : Nat) : Sub (Typ 9 (Own lo w)) (Typ 9 (Own lo w')) := fun k c T' m hk hc => by
  obtain ⟨rfl, h1⟩ := Typ.out hk hc
  refine Typ.of ?_
  rw [Own.heap] at h1 ⊢
  cases hh : w.heap[k]? with
  | none => rw [hh] at h1; cases h1
  | some o =>
    have hl : k < w.heap.size := (Array.getElem?_eq_some_iff.1 hh).1
    have hne : k ≠ g := by
      rintro rfl
      unfold WB at hb
      rw [hb] at h1
      simp only [Option.map_some, Option.some.injEq] at h1
      obtain ⟨_, h2, _⟩ := ownO_cells h1 hc
      injection h2 with _ h2 _
      exact hT h2
    rw [h.blk k hl hne]
    exact h1
theorem Cells.but {α : Type} {R : World → List Value → α → Prop} {size : Nat} {w w' : World} {xs : List α} {cs : List Value} (hR : KeepsB R) (h : Cells R size w xs cs) (e : Sub (Typ 9 w) (Typ 9 w')) : Cells R size w' xs cs := by
  induction h with
  | nil => exact .nil
  | cons h hl t ih => exact .cons (hR _ _ _ _ e h) hl ih
theorem Rowz.but {α : Type} {R : World → List Value → α → Prop} {T T' : TypeId} {size lo g : Nat} {w w' : World} {A : Option Addr} {c : Nat} {xs : List α} {cur : Array Value} (hR : KeepsB R) (h : Rowz R T size lo w A c xs) (hb : But g w w') (hw : WB w g T' cur)
    (hX : T' ≠ 9) (hT : T' ≠ T ∨ ∀ x, A = some x → x.block ≠ g) : Rowz R T size lo w' A c xs := by
  obtain ⟨cs, h1, h2⟩ := h
  refine ⟨cs, ⟨h1.1, ?_⟩, h2.but hR (hb.typ hw hX lo)⟩
  rcases h1.2 with h | ⟨g', cap, cur', e, hg', hh, r⟩
  · exact .inl h
  · refine .inr ⟨g', cap, cur', e, hg', hb.wb hh ?_, r⟩
    rcases hT with hT | hT
    · exact wb_ne hh hw (Ne.symm hT)
    · obtain ⟨e1, _, _⟩ := Value.slice.inj e
      exact hT _ e1
/-- an append onto a row of one's own: what else is one's own is as it was -/
theorem Rowz.grown {α : Type} {R : World → List Value → α → Prop} {T T' : TypeId} {size size' lo lo' n : Nat} {w w' : World} {A B : Option Addr} {c d : Nat} {xs : List α} {cs : List Value} (hR : KeepsB R) (hK : Keeps R) (h : Rowz R T size lo w A c xs)
    (ow : w.ownsRow lo' T' size' (.slice B n d) n cs) (hg : w.grownBy w' (Value.slice B n d).ownBlock) (hX : T' ≠ 9) (hT : T' ≠ T ∨ ∀ x y : Addr, A = some x → B = some y → x.block ≠ y.block) : Rowz R T size lo w' A c xs := by
  rcases ow.2 with ⟨e, _⟩ | ⟨g', cap, cur, e, hg', hh, r⟩
  · obtain ⟨rfl, _, _⟩ := Value.slice.inj e
    exact h.ext hK ⟨hg.os, hg.tape, hg.output, hg.size, fun k hk => hg.block k hk (by simp [Value.ownBlock])⟩
  · obtain ⟨rfl, _, _⟩ := Value.slice.inj e
    have hb : But g' w w' := ⟨hg.size, fun k hk hn => hg.block k hk (by simpa [Value.ownBlock] using hn)⟩
    refine h.but hR hb hh hX ?_
    rcases hT with hT | hT
    · exact .inl hT
    · exact .inr fun x hx => hT x _ hx rfl
theorem wb_grown {T T' : TypeId} {size' lo n m : Nat} {w w' : World} {B : Option Addr} {d : Nat} {cs : List Value} {vs : Array Value} (h : WB w m T vs) (ow : w.ownsRow lo T' size' (.slice B n d) n cs) (hg : w.grownBy w' (Value.slice B n d).ownBlock) (hT : T' ≠ T) : WB w' m T vs := by
  refine (hg.block m h.lt ?_).trans h
  rcases ow.2 with ⟨e, _⟩ | ⟨g', cap, cur, e, hg', hh, r⟩
  · obtain ⟨rfl, _, _⟩ := Value.slice.inj e
    simp [Value.ownBlock]
  · obtain ⟨rfl, _, _⟩ := Value.slice.inj e
    have := wb_ne hh h hT
    simpa [Value.ownBlock] using Ne.symm this
/-- the row itself, with one more -/
theorem Rowz.more {α : Type} {R : World → List Value → α → Prop} {T : TypeId} {size lo : Nat} {w w' : World} {A A' : Option Addr} {c c' : Nat} {xs : List α} {x : α} {cs es : List Value} (hR : KeepsB R) (hK : Keeps R) (hX : T ≠ 9)
    (ow : w.ownsRow lo T size (.slice A xs.length c) xs.length cs) (kL : Cells R size (Own lo w) xs cs) (hg : w.grownBy w' (Value.slice A xs.length c).ownBlock)
    (o : w'.ownsRow lo T size (.slice A' (xs.length + 1) c') (xs.length + 1) (cs ++ es)) (he : es.length = size) (hx : R (Own lo w') es x) : Rowz R T size lo w' A' c' (xs ++ [x]) := by
  refine ⟨cs ++ es, by simpa using o, ?_⟩
  refine Cells.app ?_ (Cells.one hx he)
  rcases ow.2 with ⟨e, _⟩ | ⟨g', cap, cur, e, hg', hh, r⟩
  · obtain ⟨rfl, _, _⟩ := Value.slice.inj e
    exact kL.ext hK (Own.ext ⟨hg.os, hg.tape, hg.output, hg.size, fun k hk => hg.block k hk (by simp [Value.ownBlock])⟩)
  · obtain ⟨rfl, _, _⟩ := Value.slice.inj e
    have hb : But g' w w' := ⟨hg.size, fun k hk hn => hg.block k hk (by simpa [Value.ownBlock] using hn)⟩
    exact kL.but hR (hb.typ hh hX lo)

/-! ### a pod's rows, a node's rows -/
structure PodRows (lo : Nat) (w : World) (p : Pd) (q : PA) : Prop where
  r1 : Rowz RInt 3 1 lo w q.a1 q.c1 p.ports
  r2 : Rowz RPair 37 2 lo w q.a2 q.c2 p.labels
  r3 : Rowz RTermT 41 3 lo w q.a3 q.c3 p.sel
  r4 : Rowz RTol 52 3 lo w q.a4 q.c4 p.tols
  r5 : Rowz RTermT 41 3 lo w q.a5 q.c5 p.anti
  r6 : Rowz RTermT 41 3 lo w q.a6 q.c6 p.even
theorem PodOwn.rows {lo : Nat} {w : World} {p : Pd} {q : PA} (h : PodOwn lo w p q) : PodRows lo w p q := ⟨h.r1, h.r2, h.r3, h.r4, h.r5, h.r6⟩
/-- what else a pod holds is sound -/
structure PodScal (p : Pd) : Prop where
  name : okS p.name
  uid : inI p.uid
  prio : inI p.prio
  req : okR p.req
  topo : okS p.topo
  skew : inI p.skew
  node : okS p.node
  term : inI p.term
theorem PodOk.scal {w : World} {p : Pd} {q : PA} (h : PodOk w p q) : PodScal p := ⟨h.name, h.uid, h.prio, h.req, h.topo, h.skew, h.node, h.term⟩
theorem PodRows.ok {lo : Nat} {w : World} {p : Pd} {q : PA} (h : PodRows lo w p q) (s : PodScal p) : PodOk w p q :=
  (show PodOk (Own lo w) p q from { name := s.name, uid := s.uid, prio := s.prio, req := s.req, topo := s.topo, skew := s.skew, node := s.node, term := s.term, ports := h.r1.sl.1, labels := h.r2.sl.1, sel := h.r3.sl.1.imp fun _ _ => RTermT.weak, tols := h.r4.sl.1, anti := h.r5.sl.1.imp fun _ _ => RTermT.weak, even := h.r6.sl.1.imp fun _ _ => RTermT.weak, n1 := h.r1.sl.2.1, m1 := h.r1.sl.2.2, n2 := h.r2.sl.2.1, m2 := h.r2.sl.2.2, n3 := h.r3.sl.2.1, m3 := h.r3.sl.2.2, n4 := h.r4.sl.2.1, m4 := h.r4.sl.2.2, n5 := h.r5.sl.2.1, m5 := h.r5.sl.2.2, n6 := h.r6.sl.2.1, m6 := h.r6.sl.2.2 }).sub (Own.sub _ _)
theorem PodRows.but {lo g : Nat} {w w' : World} {p : Pd} {q : PA} {T : TypeId} {cs : Array Value} (h : PodRows lo w p q) (hb : But g w w') (hw : WB w g T cs) (hT : T ≠ 9 ∧ T ≠ 3 ∧ T ≠ 37 ∧ T ≠ 41 ∧ T ≠ 52) : PodRows lo w' p q :=
  ⟨h.r1.but RInt.but hb hw hT.1 (.inl hT.2.1), h.r2.but RPair.but hb hw hT.1 (.inl hT.2.2.1), h.r3.but RTermT.but hb hw hT.1 (.inl hT.2.2.2.1), h.r4.but RTol.but hb hw hT.1 (.inl hT.2.2.2.2), h.r5.but RTermT.but hb hw hT.1 (.inl hT.2.2.2.1), h.r6.but RTermT.but hb hw hT.1 (.inl hT.2.2.2.1)⟩
theorem NodeOwn.but {lo g : Nat} {w w' : World} {p : Nd} {q : NA} {T : TypeId} {cs : Array Value} (h : NodeOwn lo w p q) (hb : But g w w') (hw : WB w g T cs) (hT : T ≠ 9 ∧ T ≠ 37 ∧ T ≠ 53) : NodeOwn lo w' p q :=
  ⟨h.r1.but RPair.but hb hw hT.1 (.inl hT.2.1), h.r2.but RPair.but hb hw hT.1 (.inl hT.2.2)⟩
/-! ### ObjPart -/
/-- behind the copies: boxes n8, n9; the rows of the copies begin at lo, lo6 -/
structure Part0 (U : World) (p : Pd) (n : Nd) (Q : PA) (N : NA) (lo6 n8 n9 : Nat) (w : World) : Prop where
  ext : Ext U w
  b8 : WB w n8 66 (podC p Q).toArray
  b9 : WB w n9 68 (nodeC n N).toArray
  u8 : U.heap.size ≤ n8
  u9 : U.heap.size ≤ n9
  um : U.heap.size ≤ lo6
  ne : n8 ≠ n9
  own : PodOwn U.heap.size w p Q
  nown : NodeOwn lo6 w n N
  sep : ∀ x : Addr, Q.a2 = some x → x.block < lo6
theorem Part0.of {U w v5 v6 : World} {p : Pd} {n : Nd} {Q : PA} {N : NA} {lo lo6 n8 n9 : Nat} (h : StPN U p n (some (n8, (podC p Q).toArray)) (some (n9, (nodeC n N).toArray)) (some (lo, v5, Q)) (some (lo6, v6, N)) w) : Part0 U p n Q N lo6 n8 n9 w := by
  obtain ⟨a1, a2, a3, a4, a5, a6⟩ := h.cp _ _ _ rfl
  obtain ⟨c1, c2, c3, c4, c5, c6⟩ := h.dp _ _ _ rfl
  have s := h.sep _ _ _ _ _ _ rfl rfl
  exact ⟨h.ext, (h.bx _ _ rfl).1, (h.by_ _ _ rfl).1, (h.bx _ _ rfl).2, (h.by_ _ _ rfl).2, c2, h.ne _ _ _ _ rfl rfl, (a1.stretch a3 (Nat.le_refl _)).low a2, c1.stretch c3 (Nat.le_refl _), fun x hx => by have := (rowz_lt a1.r2 hx).2; omega⟩
theorem Part0.more {U w w' : World} {p : Pd} {n : Nd} {Q : PA} {N : NA} {lo6 n8 n9 : Nat} (h : Part0 U p n Q N lo6 n8 n9 w) (e : Ext w w') : Part0 U p n Q N lo6 n8 n9 w' :=
  ⟨h.ext.trans e, h.b8.ext e, h.b9.ext e, h.u8, h.u9, h.um, h.ne, h.own.ext e, h.nown.ext e, h.sep⟩
/-- behind the way: the pod in n8 is another one -/
def Fin (U : World) (p : Pd) (n : Nd) (N : NA) (lo6 n8 n9 : Nat) (w : World) : Prop :=
  ∃ (x : Pd) (Q : PA), x ≠ p ∧ Ext U w ∧ WB w n8 66 (podC x Q).toArray ∧ WB w n9 68 (nodeC n N).toArray ∧ U.heap.size ≤ n9 ∧ n8 ≠ n9 ∧ PodRows U.heap.size w x Q ∧ PodScal x ∧ NodeOwn lo6 w n N
theorem Part0.field {U w : World} {p : Pd} {n : Nd} {Q : PA} {N : NA} {lo6 n8 n9 : Nat} (h : Part0 U p n Q N lo6 n8 n9 w) (x : Pd) (j : Nat) (v : Value) (hc : ((podC p Q).toArray).setIfInBounds j v = (podC x Q).toArray) (hs : PodScal x) (hr : ∀ W, PodRows U.heap.size W p Q → PodRows U.heap.size W x Q) (hne : x ≠ p) :
    Fin U p n N lo6 n8 n9 (w.setCell ⟨n8, j, none⟩ v) := by
  have hb := But.set w n8 j v
  refine ⟨x, Q, hne, h.ext.setCell h.u8 _, ?_, hb.wb h.b9 (Ne.symm h.ne), h.u9, h.ne, hr _ (h.own.rows.but hb h.b8 (by decide)), hs, h.nown.but hb h.b8 (by decide)⟩
  rw [← hc]
  exact h.b8.set j v
theorem PodOwn.app1 {lo : Nat} {w w' : World} {p : Pd} {q : PA} {cs es : List Value} {x : Int} {A' : Option Addr} {c' : Nat} (h : PodOwn lo w p q) (oL : w.ownsRow lo 3 1 (.slice q.a1 p.ports.length q.c1) p.ports.length cs) (kL : Cells RInt 1 (Own lo w) p.ports cs)
    (hg : w.grownBy w' (Value.slice q.a1 p.ports.length q.c1).ownBlock) (o : w'.ownsRow lo 3 1 (.slice A' (p.ports.length + 1) c') (p.ports.length + 1) (cs ++ es)) (he : es.length = 1) (hx : RInt (Own lo w') es x) :
    PodRows lo w' { p with ports := p.ports ++ [x] } { q with a1 := A', c1 := c' } :=
  ⟨Rowz.more RInt.but RInt.keeps (by decide) oL kL hg o he hx,
   h.r2.grown RPair.but RPair.keeps oL hg (by decide) (.inl (by decide)),
   h.r3.grown RTermT.but RTermT.keeps oL hg (by decide) (.inl (by decide)),
   h.r4.grown RTol.but RTol.keeps oL hg (by decide) (.inl (by decide)),
   h.r5.grown RTermT.but RTermT.keeps oL hg (by decide) (.inl (by decide)),
   h.r6.grown RTermT.but RTermT.keeps oL hg (by decide) (.inl (by decide))⟩
theorem Part0.app1 {U w w' : World} {p : Pd} {n : Nd} {Q : PA} {N : NA} {lo6 n8 n9 : Nat} {cs es : List Value} {x : Int} {A' : Option Addr} {c' : Nat} (h : Part0 U p n Q N lo6 n8 n9 w) (hp : PodScal p) (oL : w.ownsRow U.heap.size 3 1 (.slice Q.a1 p.ports.length Q.c1) p.ports.length cs) (kL : Cells RInt 1 (Own U.heap.size w) p.ports cs)
    (hg : w.grownBy w' (Value.slice Q.a1 p.ports.length Q.c1).ownBlock) (o : w'.ownsRow U.heap.size 3 1 (.slice A' (p.ports.length + 1) c') (p.ports.length + 1) (cs ++ es)) (he : es.length = 1) (hx : ∀ W, RInt W es x) :
    Fin U p n N lo6 n8 n9 (w'.setCell ⟨n8, 6, none⟩ (.slice A' (p.ports.length + 1) c')) := by
  have b8 := wb_grown h.b8 oL hg (by decide)
  have b9 := wb_grown h.b9 oL hg (by decide)
  have hb := But.set w' n8 6 (.slice A' (p.ports.length + 1) c')
  have e : Ext U w' := ext_grown h.ext oL (Nat.le_refl _) hg
  have nw : NodeOwn lo6 w' n N := ⟨h.nown.r1.grown RPair.but RPair.keeps oL hg (by decide) (.inl (by decide)), h.nown.r2.grown RPair.but RPair.keeps oL hg (by decide) (.inl (by decide))⟩
  refine ⟨{ p with ports := p.ports ++ [x] }, { Q with a1 := A', c1 := c' }, ?_, e.setCell h.u8 _, ?_, hb.wb b9 (Ne.symm h.ne), h.u9, h.ne, (h.own.app1 oL kL hg o he (hx _)).but hb b8 (by decide), ⟨hp.name, hp.uid, hp.prio, hp.req, hp.topo, hp.skew, hp.node, hp.term⟩, nw.but hb b8 (by decide)⟩
  · intro e
    have := congrArg (fun y : Pd => y.ports.length) e
    simp at this
  · have := b8.set 6 (.slice A' (p.ports.length + 1) c')
    simp only [podC, List.setIfInBounds_toArray, List.set_cons_succ, List.set_cons_zero] at this
    simpa [podC] using this
theorem PodOwn.app2 {lo : Nat} {w w' : World} {p : Pd} {q : PA} {cs es : List Value} {x : Pr} {A' : Option Addr} {c' : Nat} (h : PodOwn lo w p q) (oL : w.ownsRow lo 37 2 (.slice q.a2 p.labels.length q.c2) p.labels.length cs) (kL : Cells RPair 2 (Own lo w) p.labels cs)
    (hg : w.grownBy w' (Value.slice q.a2 p.labels.length q.c2).ownBlock) (o : w'.ownsRow lo 37 2 (.slice A' (p.labels.length + 1) c') (p.labels.length + 1) (cs ++ es)) (he : es.length = 2) (hx : RPair (Own lo w') es x) :
    PodRows lo w' { p with labels := p.labels ++ [x] } { q with a2 := A', c2 := c' } :=
  ⟨h.r1.grown RInt.but RInt.keeps oL hg (by decide) (.inl (by decide)),
   Rowz.more RPair.but RPair.keeps (by decide) oL kL hg o he hx,
   h.r3.grown RTermT.but RTermT.keeps oL hg (by decide) (.inl (by decide)),
   h.r4.grown RTol.but RTol.keeps oL hg (by decide) (.inl (by decide)),
   h.r5.grown RTermT.but RTermT.keeps oL hg (by decide) (.inl (by decide)),
   h.r6.grown RTermT.but RTermT.keeps oL hg (by decide) (.inl (by decide))⟩
theorem Part0.app2 {U w w' : World} {p : Pd} {n : Nd} {Q : PA} {N : NA} {lo6 n8 n9 : Nat} {cs es : List Value} {x : Pr} {A' : Option Addr} {c' : Nat} (h : Part0 U p n Q N lo6 n8 n9 w) (hp : PodScal p) (oL : w.ownsRow U.heap.size 37 2 (.slice Q.a2 p.labels.length Q.c2) p.labels.length cs) (kL : Cells RPair 2 (Own U.heap.size w) p.labels cs)
    (hg : w.grownBy w' (Value.slice Q.a2 p.labels.length Q.c2).ownBlock) (o : w'.ownsRow U.heap.size 37 2 (.slice A' (p.labels.length + 1) c') (p.labels.length + 1) (cs ++ es)) (he : es.length = 2) (hx : ∀ W, RPair W es x) :
    Fin U p n N lo6 n8 n9 (w'.setCell ⟨n8, 7, none⟩ (.slice A' (p.labels.length + 1) c')) := by
  have b8 := wb_grown h.b8 oL hg (by decide)
  have b9 := wb_grown h.b9 oL hg (by decide)
  have hb := But.set w' n8 7 (.slice A' (p.labels.length + 1) c')
  have e : Ext U w' := ext_grown h.ext oL (Nat.le_refl _) hg
  have nw : NodeOwn lo6 w' n N := ⟨h.nown.r1.grown RPair.but RPair.keeps oL hg (by decide) (.inr fun x y hx hy => by have a := (rowz_lt h.nown.r1 hx).1; have b := h.sep y hy; omega), h.nown.r2.grown RPair.but RPair.keeps oL hg (by decide) (.inl (by decide))⟩
  refine ⟨{ p with labels := p.labels ++ [x] }, { Q with a2 := A', c2 := c' }, ?_, e.setCell h.u8 _, ?_, hb.wb b9 (Ne.symm h.ne), h.u9, h.ne, (h.own.app2 oL kL hg o he (hx _)).but hb b8 (by decide), ⟨hp.name, hp.uid, hp.prio, hp.req, hp.topo, hp.skew, hp.node, hp.term⟩, nw.but hb b8 (by decide)⟩
  · intro e
    have := congrArg (fun y : Pd => y.labels.length) e
    simp at this
  · have := b8.set 7 (.slice A' (p.labels.length + 1) c')
    simp only [podC, List.setIfInBounds_toArray, List.set_cons_succ, List.set_cons_zero] at this
    simpa [podC] using this
theorem PodOwn.app3 {lo : Nat} {w w' : World} {p : Pd} {q : PA} {cs es : List Value} {x : Tm} {A' : Option Addr} {c' : Nat} (h : PodOwn lo w p q) (oL : w.ownsRow lo 41 3 (.slice q.a3 p.sel.length q.c3) p.sel.length cs) (kL : Cells RTermT 3 (Own lo w) p.sel cs)
    (hg : w.grownBy w' (Value.slice q.a3 p.sel.length q.c3).ownBlock) (o : w'.ownsRow lo 41 3 (.slice A' (p.sel.length + 1) c') (p.sel.length + 1) (cs ++ es)) (he : es.length = 3) (hx : RTermT (Own lo w') es x) :
    PodRows lo w' { p with sel := p.sel ++ [x] } { q with a3 := A', c3 := c' } :=
  ⟨h.r1.grown RInt.but RInt.keeps oL hg (by decide) (.inl (by decide)),
   h.r2.grown RPair.but RPair.keeps oL hg (by decide) (.inl (by decide)),
   Rowz.more RTermT.but RTermT.keeps (by decide) oL kL hg o he hx,
   h.r4.grown RTol.but RTol.keeps oL hg (by decide) (.inl (by decide)),
   h.r5.grown RTermT.but RTermT.keeps oL hg (by decide) (.inr fun x y hx hy => Ne.symm (h.d35 y x hy hx)),
   h.r6.grown RTermT.but RTermT.keeps oL hg (by decide) (.inr fun x y hx hy => Ne.symm (h.d36 y x hy hx))⟩
theorem Part0.app3 {U w w' : World} {p : Pd} {n : Nd} {Q : PA} {N : NA} {lo6 n8 n9 : Nat} {cs es : List Value} {x : Tm} {A' : Option Addr} {c' : Nat} (h : Part0 U p n Q N lo6 n8 n9 w) (hp : PodScal p) (oL : w.ownsRow U.heap.size 41 3 (.slice Q.a3 p.sel.length Q.c3) p.sel.length cs) (kL : Cells RTermT 3 (Own U.heap.size w) p.sel cs)
    (hg : w.grownBy w' (Value.slice Q.a3 p.sel.length Q.c3).ownBlock) (o : w'.ownsRow U.heap.size 41 3 (.slice A' (p.sel.length + 1) c') (p.sel.length + 1) (cs ++ es)) (he : es.length = 3) (hx : ∀ W, RTermT W es x) :
    Fin U p n N lo6 n8 n9 (w'.setCell ⟨n8, 8, none⟩ (.slice A' (p.sel.length + 1) c')) := by
  have b8 := wb_grown h.b8 oL hg (by decide)
  have b9 := wb_grown h.b9 oL hg (by decide)
  have hb := But.set w' n8 8 (.slice A' (p.sel.length + 1) c')
  have e : Ext U w' := ext_grown h.ext oL (Nat.le_refl _) hg
  have nw : NodeOwn lo6 w' n N := ⟨h.nown.r1.grown RPair.but RPair.keeps oL hg (by decide) (.inl (by decide)), h.nown.r2.grown RPair.but RPair.keeps oL hg (by decide) (.inl (by decide))⟩
  refine ⟨{ p with sel := p.sel ++ [x] }, { Q with a3 := A', c3 := c' }, ?_, e.setCell h.u8 _, ?_, hb.wb b9 (Ne.symm h.ne), h.u9, h.ne, (h.own.app3 oL kL hg o he (hx _)).but hb b8 (by decide), ⟨hp.name, hp.uid, hp.prio, hp.req, hp.topo, hp.skew, hp.node, hp.term⟩, nw.but hb b8 (by decide)⟩
  · intro e
    have := congrArg (fun y : Pd => y.sel.length) e
    simp at this
  · have := b8.set 8 (.slice A' (p.sel.length + 1) c')
    simp only [podC, List.setIfInBounds_toArray, List.set_cons_succ, List.set_cons_zero] at this
    simpa [podC] using this
theorem PodOwn.app4 {lo : Nat} {w w' : World} {p : Pd} {q : PA} {cs es : List Value} {x : Tl} {A' : Option Addr} {c' : Nat} (h : PodOwn lo w p q) (oL : w.ownsRow lo 52 3 (.slice q.a4 p.tols.length q.c4) p.tols.length cs) (kL : Cells RTol 3 (Own lo w) p.tols cs)
    (hg : w.grownBy w' (Value.slice q.a4 p.tols.length q.c4).ownBlock) (o : w'.ownsRow lo 52 3 (.slice A' (p.tols.length + 1) c') (p.tols.length + 1) (cs ++ es)) (he : es.length = 3) (hx : RTol (Own lo w') es x) :
    PodRows lo w' { p with tols := p.tols ++ [x] } { q with a4 := A', c4 := c' } :=
  ⟨h.r1.grown RInt.but RInt.keeps oL hg (by decide) (.inl (by decide)),
   h.r2.grown RPair.but RPair.keeps oL hg (by decide) (.inl (by decide)),
   h.r3.grown RTermT.but RTermT.keeps oL hg (by decide) (.inl (by decide)),
   Rowz.more RTol.but RTol.keeps (by decide) oL kL hg o he hx,
   h.r5.grown RTermT.but RTermT.keeps oL hg (by decide) (.inl (by decide)),
   h.r6.grown RTermT.but RTermT.keeps oL hg (by decide) (.inl (by decide))⟩
theorem Part0.app4 {U w w' : World} {p : Pd} {n : Nd} {Q : PA} {N : NA} {lo6 n8 n9 : Nat} {cs es : List Value} {x : Tl} {A' : Option Addr} {c' : Nat} (h : Part0 U p n Q N lo6 n8 n9 w) (hp : PodScal p) (oL : w.ownsRow U.heap.size 52 3 (.slice Q.a4 p.tols.length Q.c4) p.tols.length cs) (kL : Cells RTol 3 (Own U.heap.size w) p.tols cs)
    (hg : w.grownBy w' (Value.slice Q.a4 p.tols.length Q.c4).ownBlock) (o : w'.ownsRow U.heap.size 52 3 (.slice A' (p.tols.length + 1) c') (p.tols.length + 1) (cs ++ es)) (he : es.length = 3) (hx : ∀ W, RTol W es x) :
    Fin U p n N lo6 n8 n9 (w'.setCell ⟨n8, 9, none⟩ (.slice A' (p.tols.length + 1) c')) := by
  have b8 := wb_grown h.b8 oL hg (by decide)
  have b9 := wb_grown h.b9 oL hg (by decide)
  have hb := But.set w' n8 9 (.slice A' (p.tols.length + 1) c')
  have e : Ext U w' := ext_grown h.ext oL (Nat.le_refl _) hg
  have nw : NodeOwn lo6 w' n N := ⟨h.nown.r1.grown RPair.but RPair.keeps oL hg (by decide) (.inl (by decide)), h.nown.r2.grown RPair.but RPair.keeps oL hg (by decide) (.inl (by decide))⟩
  refine ⟨{ p with tols := p.tols ++ [x] }, { Q with a4 := A', c4 := c' }, ?_, e.setCell h.u8 _, ?_, hb.wb b9 (Ne.symm h.ne), h.u9, h.ne, (h.own.app4 oL kL hg o he (hx _)).but hb b8 (by decide), ⟨hp.name, hp.uid, hp.prio, hp.req, hp.topo, hp.skew, hp.node, hp.term⟩, nw.but hb b8 (by decide)⟩
  · intro e
    have := congrArg (fun y : Pd => y.tols.length) e
    simp at this
  · have := b8.set 9 (.slice A' (p.tols.length + 1) c')
    simp only [podC, List.setIfInBounds_toArray, List.set_cons_succ, List.set_cons_zero] at this
    simpa [podC] using this
theorem PodOwn.app5 {lo : Nat} {w w' : World} {p : Pd} {q : PA} {cs es : List Value} {x : Tm} {A' : Option Addr} {c' : Nat} (h : PodOwn lo w p q) (oL : w.ownsRow lo 41 3 (.slice q.a5 p.anti.length q.c5) p.anti.length cs) (kL : Cells RTermT 3 (Own lo w) p.anti cs)
    (hg : w.grownBy w' (Value.slice q.a5 p.anti.length q.c5).ownBlock) (o : w'.ownsRow lo 41 3 (.slice A' (p.anti.length + 1) c') (p.anti.length + 1) (cs ++ es)) (he : es.length = 3) (hx : RTermT (Own lo w') es x) :
    PodRows lo w' { p with anti := p.anti ++ [x] } { q with a5 := A', c5 := c' } :=
  ⟨h.r1.grown RInt.but RInt.keeps oL hg (by decide) (.inl (by decide)),
   h.r2.grown RPair.but RPair.keeps oL hg (by decide) (.inl (by decide)),
   h.r3.grown RTermT.but RTermT.keeps oL hg (by decide) (.inr fun x y hx hy => h.d35 x y hx hy),
   h.r4.grown RTol.but RTol.keeps oL hg (by decide) (.inl (by decide)),
   Rowz.more RTermT.but RTermT.keeps (by decide) oL kL hg o he hx,
   h.r6.grown RTermT.but RTermT.keeps oL hg (by decide) (.inr fun x y hx hy => Ne.symm (h.d56 y x hy hx))⟩
theorem Part0.app5 {U w w' : World} {p : Pd} {n : Nd} {Q : PA} {N : NA} {lo6 n8 n9 : Nat} {cs es : List Value} {x : Tm} {A' : Option Addr} {c' : Nat} (h : Part0 U p n Q N lo6 n8 n9 w) (hp : PodScal p) (oL : w.ownsRow U.heap.size 41 3 (.slice Q.a5 p.anti.length Q.c5) p.anti.length cs) (kL : Cells RTermT 3 (Own U.heap.size w) p.anti cs)
    (hg : w.grownBy w' (Value.slice Q.a5 p.anti.length Q.c5).ownBlock) (o : w'.ownsRow U.heap.size 41 3 (.slice A' (p.anti.length + 1) c') (p.anti.length + 1) (cs ++ es)) (he : es.length = 3) (hx : ∀ W, RTermT W es x) :
    Fin U p n N lo6 n8 n9 (w'.setCell ⟨n8, 11, none⟩ (.slice A' (p.anti.length + 1) c')) := by
  have b8 := wb_grown h.b8 oL hg (by decide)
  have b9 := wb_grown h.b9 oL hg (by decide)
  have hb := But.set w' n8 11 (.slice A' (p.anti.length + 1) c')
  have e : Ext U w' := ext_grown h.ext oL (Nat.le_refl _) hg
  have nw : NodeOwn lo6 w' n N := ⟨h.nown.r1.grown RPair.but RPair.keeps oL hg (by decide) (.inl (by decide)), h.nown.r2.grown RPair.but RPair.keeps oL hg (by decide) (.inl (by decide))⟩
  refine ⟨{ p with anti := p.anti ++ [x] }, { Q with a5 := A', c5 := c' }, ?_, e.setCell h.u8 _, ?_, hb.wb b9 (Ne.symm h.ne), h.u9, h.ne, (h.own.app5 oL kL hg o he (hx _)).but hb b8 (by decide), ⟨hp.name, hp.uid, hp.prio, hp.req, hp.topo, hp.skew, hp.node, hp.term⟩, nw.but hb b8 (by decide)⟩
  · intro e
    have := congrArg (fun y : Pd => y.anti.length) e
    simp at this
  · have := b8.set 11 (.slice A' (p.anti.length + 1) c')
    simp only [podC, List.setIfInBounds_toArray, List.set_cons_succ, List.set_cons_zero] at this
    simpa [podC] using this
theorem PodOwn.app6 {lo : Nat} {w w' : World} {p : Pd} {q : PA} {cs es : List Value} {x : Tm} {A' : Option Addr} {c' : Nat} (h : PodOwn lo w p q) (oL : w.ownsRow lo 41 3 (.slice q.a6 p.even.length q.c6) p.even.length cs) (kL : Cells RTermT 3 (Own lo w) p.even cs)
    (hg : w.grownBy w' (Value.slice q.a6 p.even.length q.c6).ownBlock) (o : w'.ownsRow lo 41 3 (.slice A' (p.even.length + 1) c') (p.even.length + 1) (cs ++ es)) (he : es.length = 3) (hx : RTermT (Own lo w') es x) :
    PodRows lo w' { p with even := p.even ++ [x] } { q with a6 := A', c6 := c' } :=
  ⟨h.r1.grown RInt.but RInt.keeps oL hg (by decide) (.inl (by decide)),
   h.r2.grown RPair.but RPair.keeps oL hg (by decide) (.inl (by decide)),
   h.r3.grown RTermT.but RTermT.keeps oL hg (by decide) (.inr fun x y hx hy => h.d36 x y hx hy),
   h.r4.grown RTol.but RTol.keeps oL hg (by decide) (.inl (by decide)),
   h.r5.grown RTermT.but RTermT.keeps oL hg (by decide) (.inr fun x y hx hy => h.d56 x y hx hy),
   Rowz.more RTermT.but RTermT.keeps (by decide) oL kL hg o he hx⟩
theorem Part0.app6 {U w w' : World} {p : Pd} {n : Nd} {Q : PA} {N : NA} {lo6 n8 n9 : Nat} {cs es : List Value} {x : Tm} {A' : Option Addr} {c' : Nat} (h : Part0 U p n Q N lo6 n8 n9 w) (hp : PodScal p) (oL : w.ownsRow U.heap.size 41 3 (.slice Q.a6 p.even.length Q.c6) p.even.length cs) (kL : Cells RTermT 3 (Own U.heap.size w) p.even cs)
    (hg : w.grownBy w' (Value.slice Q.a6 p.even.length Q.c6).ownBlock) (o : w'.ownsRow U.heap.size 41 3 (.slice A' (p.even.length + 1) c') (p.even.length + 1) (cs ++ es)) (he : es.length = 3) (hx : ∀ W, RTermT W es x) :
    Fin U p n N lo6 n8 n9 (w'.setCell ⟨n8, 13, none⟩ (.slice A' (p.even.length + 1) c')) := by
  have b8 := wb_grown h.b8 oL hg (by decide)
  have b9 := wb_grown h.b9 oL hg (by decide)
  have hb := But.set w' n8 13 (.slice A' (p.even.length + 1) c')
  have e : Ext U w' := ext_grown h.ext oL (Nat.le_refl _) hg
  have nw : NodeOwn lo6 w' n N := ⟨h.nown.r1.grown RPair.but RPair.keeps oL hg (by decide) (.inl (by decide)), h.nown.r2.grown RPair.but RPair.keeps oL hg (by decide) (.inl (by decide))⟩
  refine ⟨{ p with even := p.even ++ [x] }, { Q with a6 := A', c6 := c' }, ?_, e.setCell h.u8 _, ?_, hb.wb b9 (Ne.symm h.ne), h.u9, h.ne, (h.own.app6 oL kL hg o he (hx _)).but hb b8 (by decide), ⟨hp.name, hp.uid, hp.prio, hp.req, hp.topo, hp.skew, hp.node, hp.term⟩, nw.but hb b8 (by decide)⟩
  · intro e
    have := congrArg (fun y : Pd => y.even.length) e
    simp at this
  · have := b8.set 13 (.slice A' (p.even.length + 1) c')
    simp only [podC, List.setIfInBounds_toArray, List.set_cons_succ, List.set_cons_zero] at this
    simpa [podC] using this
theorem Part0.app59 {U w w' : World} {p : Pd} {n : Nd} {Q : PA} {N : NA} {lo6 n8 n9 : Nat} {cs es : List Value} {x : Tm} {A' : Option Addr} {c' : Nat} {sk : Int} (h : Part0 U p n Q N lo6 n8 n9 w) (hp : PodScal p) (hsk : inI sk) (oL : w.ownsRow U.heap.size 41 3 (.slice Q.a5 p.anti.length Q.c5) p.anti.length cs) (kL : Cells RTermT 3 (Own U.heap.size w) p.anti cs)
    (hg : w.grownBy w' (Value.slice Q.a5 p.anti.length Q.c5).ownBlock) (o : w'.ownsRow U.heap.size 41 3 (.slice A' (p.anti.length + 1) c') (p.anti.length + 1) (cs ++ es)) (he : es.length = 3) (hx : ∀ W, RTermT W es x) :
    Fin U p n N lo6 n8 n9 ((w'.setCell ⟨n8, 11, none⟩ (.slice A' (p.anti.length + 1) c')).setCell ⟨n8, 12, none⟩ (.int .i64 sk)) := by
  have b8 := wb_grown h.b8 oL hg (by decide)
  have b9 := wb_grown h.b9 oL hg (by decide)
  have hb := But.set w' n8 11 (.slice A' (p.anti.length + 1) c')
  have hb2 := But.set (w'.setCell ⟨n8, 11, none⟩ (.slice A' (p.anti.length + 1) c')) n8 12 (.int .i64 sk)
  have b82 := b8.set 11 (.slice A' (p.anti.length + 1) c')
  have e : Ext U w' := ext_grown h.ext oL (Nat.le_refl _) hg
  have nw : NodeOwn lo6 w' n N := ⟨h.nown.r1.grown RPair.but RPair.keeps oL hg (by decide) (.inl (by decide)), h.nown.r2.grown RPair.but RPair.keeps oL hg (by decide) (.inl (by decide))⟩
  have rr := ((h.own.app5 oL kL hg o he (hx _)).but hb b8 (by decide)).but hb2 b82 (by decide)
  refine ⟨{ p with anti := p.anti ++ [x], skew := sk }, { Q with a5 := A', c5 := c' }, ?_, (e.setCell h.u8 _).setCell h.u8 _, ?_, hb2.wb (hb.wb b9 (Ne.symm h.ne)) (Ne.symm h.ne), h.u9, h.ne, ⟨rr.r1, rr.r2, rr.r3, rr.r4, rr.r5, rr.r6⟩, ⟨hp.name, hp.uid, hp.prio, hp.req, hp.topo, hsk, hp.node, hp.term⟩, (nw.but hb b8 (by decide)).but hb2 b82 (by decide)⟩
  · intro e
    have := congrArg (fun y : Pd => y.anti.length) e
    simp at this
  · have := b82.set 12 (.int .i64 sk)
    simp only [podC, List.setIfInBounds_toArray, List.set_cons_succ, List.set_cons_zero] at this
    simpa [podC] using this
/-- what the end of ObjPart wants of the worlds behind m.Cap[2]++ -/
theorem Fin.behind {U w : World} {p : Pd} {n : Nd} {N : NA} {lo6 n8 n9 : Nat} (h : Fin U p n N lo6 n8 n9 w) (hn : okR n.cap) (hm : okS n.name) (k : Int) (hk : inI k) (hne : k ≠ n.cap.c) : ∃ (x : Pd) (Q : PA) (m : Nd), x ≠ p ∧ m ≠ n ∧ m = { n with cap := ⟨n.cap.a, n.cap.b, k⟩ } ∧ Ext U (w.setCell ⟨n9, 3, none⟩ (.int .i64 k)) ∧
    WB (w.setCell ⟨n9, 3, none⟩ (.int .i64 k)) n8 66 (podC x Q).toArray ∧ WB (w.setCell ⟨n9, 3, none⟩ (.int .i64 k)) n9 68 (nodeC m N).toArray ∧ PodOk (w.setCell ⟨n9, 3, none⟩ (.int .i64 k)) x Q ∧ NodeOk (w.setCell ⟨n9, 3, none⟩ (.int .i64 k)) m N := by
  obtain ⟨x, Q, h1, h2, h3, h4, h5, h6, h7, h8, h9⟩ := h
  have hb := But.set w n9 3 (.int .i64 k)
  refine ⟨x, Q, _, h1, fun e => hne (by have := congrArg (fun y : Nd => y.cap.c) e; exact this), rfl, h2.setCell h5 _, hb.wb h3 h6, h4.set 3 _, (h7.but hb h4 (by decide)).ok h8, ?_⟩
  have nw := h9.but hb h4 (by decide)
  exact (show NodeOk (Own lo6 _) { n with cap := ⟨n.cap.a, n.cap.b, k⟩ } N from { name := hm, cap := ⟨hn.1, hn.2.1, hk⟩, labels := nw.r1.sl.1, taints := nw.r2.sl.1, n1 := nw.r1.sl.2.1, m1 := nw.r1.sl.2.2, n2 := nw.r2.sl.2.1, m2 := nw.r2.sl.2.2 }).sub (Own.sub _ _)
theorem eq_no {P : Prop} {w : World} {e : Ending} {w' : World} (h : EqPost P w e w') (hn : ¬ P) : e = .returned (.bool false) ∧ Ext w w' := by
  obtain ⟨b, rfl, hb, he⟩ := h
  cases b with
  | false => exact ⟨rfl, he⟩
  | true => exact absurd (hb.1 rfl) hn
theorem eq_yes {P : Prop} {w : World} {e : Ending} {w' : World} (h : EqPost P w e w') (hy : P) : e = .returned (.bool true) ∧ Ext w w' := by
  obtain ⟨b, rfl, hb, he⟩ := h
  obtain rfl : b = true := hb.2 hy
  exact ⟨rfl, he⟩
theorem wrap_in (x : Int) : inI (wrap64 x) := by
  unfold inI wrap64
  omega
theorem wrap_ne {x : Int} (h : inI x) (e : wrap64 (x + 1) = x) : False := by
  unfold inI at h
  unfold wrap64 at e
  omega
theorem app_ok {s : ByteArray} {b : UInt8} (h : s.size ≤ 140737488351232) : okS (s ++ ⟨#[b]⟩) := by
  show (s ++ (⟨#[b]⟩ : ByteArray)).size ≤ maxLen
  rw [ByteArray.size_append]
  have : (⟨#[b]⟩ : ByteArray).size = 1 := rfl
  unfold maxLen
  omega
end Go.Proofs.YthfafenigjldlaaGreat
