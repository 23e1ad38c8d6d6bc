/-
  CodeRoom: a pod and a node of one's own that grow list by list (plain; printed by mkroom.py).
-/
import Derived.Test.YthfafenigjldlaaGreatWays
namespace Go.Proofs.YthfafenigjldlaaGreat
open Go.RowKit
set_option linter.unusedVariables false

structure RS (base P M : Nat) (p : Pd) (Q : PA) (y : Nd) (N : NA) (w : World) : Prop where
  bP : WB w P 66 (podC p Q).toArray
  bM : WB w M 68 (nodeC y N).toArray
  ub : base ≤ w.heap.size
  own : PodOwn base w p Q
  nown : NodeOwn base w y N
  dpn : ∀ a b : Addr, Q.a2 = some a → N.a1 = some b → a.block ≠ b.block
theorem RS.more {base P M : Nat} {p : Pd} {Q : PA} {y : Nd} {N : NA} {w w' : World} (h : RS base P M p Q y N w) (e : Ext w w') : RS base P M p Q y N w' :=
  ⟨h.bP.ext e, h.bM.ext e, Nat.le_trans h.ub e.size, h.own.ext e, h.nown.ext e, h.dpn⟩
/-- where the row lies now: it is not where another row lies -/
theorem lies_ne {α : Type} {R : World → List Value → α → Prop} {T : TypeId} {size lo g : Nat} {w : World} {A B : Option Addr} {c d n : Nat} {xs : List α} (h : Rowz R T size lo w A c xs) (lie : (Value.slice B n d).ownBlock = some g ∨ g = w.heap.size)
    (hd : ∀ x y : Addr, A = some x → B = some y → x.block ≠ y.block) (x : Addr) (hx : A = some x) : x.block ≠ g := by
  rcases lie with l | l
  · cases B with
    | none => simp [Value.ownBlock] at l
    | some b =>
      simp only [Value.ownBlock, Option.some.injEq] at l
      rw [← l]
      exact hd x b hx rfl
  · have := (rowz_lt h hx).2
    omega
theorem row_grown {α : Type} {R : World → List Value → α → Prop} {T T' X : TypeId} {size size' lo n m : Nat} {w w' : World} {A B : Option Addr} {c d : Nat} {xs : List α} {cs : List Value} {u : Value} {vs : Array Value} (hR : KeepsB R) (hK : Keeps R) (h : Rowz R T size lo w A c xs)
    (ow : w.ownsRow lo T' size' (.slice B n d) n cs) (hg : w.grownBy w' (Value.slice B n d).ownBlock) (hX : T' ≠ 9) (hT : T' ≠ T ∨ ∀ x y : Addr, A = some x → B = some y → x.block ≠ y.block) (hb : WB w' m X vs) (i : Nat) (h1 : X ≠ 9) (h2 : X ≠ T) :
    Rowz R T size lo (w'.setCell ⟨m, i, none⟩ u) A c xs := (h.grown hR hK ow hg hX hT).but hR (But.set w' m i u) hb h1 (.inl h2)

theorem RS.app1 {base P M g : Nat} {p : Pd} {Q : PA} {y : Nd} {N : NA} {w w' : World} {cs es : List Value} {x : Int} {c' : Nat} (h : RS base P M p Q y N w) (oL : w.ownsRow base 3 1 (.slice Q.a1 p.ports.length Q.c1) p.ports.length cs) (kL : Cells RInt 1 (Own base w) p.ports cs)
    (hg : w.grownBy w' (Value.slice Q.a1 p.ports.length Q.c1).ownBlock) (lie : (Value.slice Q.a1 p.ports.length Q.c1).ownBlock = some g ∨ g = w.heap.size) (o : w'.ownsRow base 3 1 (.slice (some ⟨g, 0, none⟩) (p.ports.length + 1) c') (p.ports.length + 1) (cs ++ es)) (he : es.length = 1) (hx : RInt (Own base w') es x) :
    RS base P M { p with ports := p.ports ++ [x] } { Q with a1 := some ⟨g, 0, none⟩, c1 := c' } y N (w'.setCell ⟨P, 6, none⟩ (.slice (some ⟨g, 0, none⟩) (p.ports.length + 1) c')) := by
  have b8 := wb_grown h.bP oL hg (by decide)
  have b9 := wb_grown h.bM oL hg (by decide)
  have hb := But.set w' P 6 (.slice (some ⟨g, 0, none⟩) (p.ports.length + 1) c')
  have rr := (h.own.app1 oL kL hg o he hx).but hb b8 (by decide)
  refine ⟨?_, hb.wb b9 (Ne.symm (wb_ne b8 b9 (by decide))), ?_, ⟨rr.r1, rr.r2, rr.r3, rr.r4, rr.r5, rr.r6, h.own.d35, h.own.d36, h.own.d56⟩, ⟨row_grown RPair.but RPair.keeps h.nown.r1 oL hg (by decide) (.inl (by decide)) b8 6 (by decide) (by decide), row_grown RPair.but RPair.keeps h.nown.r2 oL hg (by decide) (.inl (by decide)) b8 6 (by decide) (by decide)⟩, h.dpn⟩
  · have := b8.set 6 (.slice (some ⟨g, 0, none⟩) (p.ports.length + 1) c')
    simp only [podC, List.setIfInBounds_toArray, List.set_cons_succ, List.set_cons_zero] at this
    simpa [podC] using this
  · have a1 := h.ub
    have a2 := hg.size
    have a3 := hb.size
    omega
theorem RS.app2 {base P M g : Nat} {p : Pd} {Q : PA} {y : Nd} {N : NA} {w w' : World} {cs es : List Value} {x : Pr} {c' : Nat} (h : RS base P M p Q y N w) (oL : w.ownsRow base 37 2 (.slice Q.a2 p.labels.length Q.c2) p.labels.length cs) (kL : Cells RPair 2 (Own base w) p.labels cs)
    (hg : w.grownBy w' (Value.slice Q.a2 p.labels.length Q.c2).ownBlock) (lie : (Value.slice Q.a2 p.labels.length Q.c2).ownBlock = some g ∨ g = w.heap.size) (o : w'.ownsRow base 37 2 (.slice (some ⟨g, 0, none⟩) (p.labels.length + 1) c') (p.labels.length + 1) (cs ++ es)) (he : es.length = 2) (hx : RPair (Own base w') es x) :
    RS base P M { p with labels := p.labels ++ [x] } { Q with a2 := some ⟨g, 0, none⟩, c2 := c' } y N (w'.setCell ⟨P, 7, none⟩ (.slice (some ⟨g, 0, none⟩) (p.labels.length + 1) c')) := by
  have b8 := wb_grown h.bP oL hg (by decide)
  have b9 := wb_grown h.bM oL hg (by decide)
  have hb := But.set w' P 7 (.slice (some ⟨g, 0, none⟩) (p.labels.length + 1) c')
  have rr := (h.own.app2 oL kL hg o he hx).but hb b8 (by decide)
  refine ⟨?_, hb.wb b9 (Ne.symm (wb_ne b8 b9 (by decide))), ?_, ⟨rr.r1, rr.r2, rr.r3, rr.r4, rr.r5, rr.r6, h.own.d35, h.own.d36, h.own.d56⟩, ⟨row_grown RPair.but RPair.keeps h.nown.r1 oL hg (by decide) (.inr fun x z hx hz => Ne.symm (h.dpn z x hz hx)) b8 7 (by decide) (by decide), row_grown RPair.but RPair.keeps h.nown.r2 oL hg (by decide) (.inl (by decide)) b8 7 (by decide) (by decide)⟩, fun x z hx hz => by
    obtain rfl : (⟨g, 0, none⟩ : Addr) = x := by simpa using hx
    exact Ne.symm (lies_ne h.nown.r1 lie (fun u v hu hv => Ne.symm (h.dpn v u hv hu)) z hz)⟩
  · have := b8.set 7 (.slice (some ⟨g, 0, none⟩) (p.labels.length + 1) c')
    simp only [podC, List.setIfInBounds_toArray, List.set_cons_succ, List.set_cons_zero] at this
    simpa [podC] using this
  · have a1 := h.ub
    have a2 := hg.size
    have a3 := hb.size
    omega
theorem RS.app3 {base P M g : Nat} {p : Pd} {Q : PA} {y : Nd} {N : NA} {w w' : World} {cs es : List Value} {x : Tm} {c' : Nat} (h : RS base P M p Q y N w) (oL : w.ownsRow base 41 3 (.slice Q.a3 p.sel.length Q.c3) p.sel.length cs) (kL : Cells RTermT 3 (Own base w) p.sel cs)
    (hg : w.grownBy w' (Value.slice Q.a3 p.sel.length Q.c3).ownBlock) (lie : (Value.slice Q.a3 p.sel.length Q.c3).ownBlock = some g ∨ g = w.heap.size) (o : w'.ownsRow base 41 3 (.slice (some ⟨g, 0, none⟩) (p.sel.length + 1) c') (p.sel.length + 1) (cs ++ es)) (he : es.length = 3) (hx : RTermT (Own base w') es x) :
    RS base P M { p with sel := p.sel ++ [x] } { Q with a3 := some ⟨g, 0, none⟩, c3 := c' } y N (w'.setCell ⟨P, 8, none⟩ (.slice (some ⟨g, 0, none⟩) (p.sel.length + 1) c')) := by
  have b8 := wb_grown h.bP oL hg (by decide)
  have b9 := wb_grown h.bM oL hg (by decide)
  have hb := But.set w' P 8 (.slice (some ⟨g, 0, none⟩) (p.sel.length + 1) c')
  have rr := (h.own.app3 oL kL hg o he hx).but hb b8 (by decide)
  refine ⟨?_, hb.wb b9 (Ne.symm (wb_ne b8 b9 (by decide))), ?_, ⟨rr.r1, rr.r2, rr.r3, rr.r4, rr.r5, rr.r6, fun x z hx hz => by
      obtain rfl : (⟨g, 0, none⟩ : Addr) = x := by simpa using hx
      exact Ne.symm (lies_ne h.own.r5 lie (fun u v hu hv => Ne.symm (h.own.d35 v u hv hu)) z hz), fun x z hx hz => by
      obtain rfl : (⟨g, 0, none⟩ : Addr) = x := by simpa using hx
      exact Ne.symm (lies_ne h.own.r6 lie (fun u v hu hv => Ne.symm (h.own.d36 v u hv hu)) z hz), h.own.d56⟩, ⟨row_grown RPair.but RPair.keeps h.nown.r1 oL hg (by decide) (.inl (by decide)) b8 8 (by decide) (by decide), row_grown RPair.but RPair.keeps h.nown.r2 oL hg (by decide) (.inl (by decide)) b8 8 (by decide) (by decide)⟩, h.dpn⟩
  · have := b8.set 8 (.slice (some ⟨g, 0, none⟩) (p.sel.length + 1) c')
    simp only [podC, List.setIfInBounds_toArray, List.set_cons_succ, List.set_cons_zero] at this
    simpa [podC] using this
  · have a1 := h.ub
    have a2 := hg.size
    have a3 := hb.size
    omega
theorem RS.app4 {base P M g : Nat} {p : Pd} {Q : PA} {y : Nd} {N : NA} {w w' : World} {cs es : List Value} {x : Tl} {c' : Nat} (h : RS base P M p Q y N w) (oL : w.ownsRow base 52 3 (.slice Q.a4 p.tols.length Q.c4) p.tols.length cs) (kL : Cells RTol 3 (Own base w) p.tols cs)
    (hg : w.grownBy w' (Value.slice Q.a4 p.tols.length Q.c4).ownBlock) (lie : (Value.slice Q.a4 p.tols.length Q.c4).ownBlock = some g ∨ g = w.heap.size) (o : w'.ownsRow base 52 3 (.slice (some ⟨g, 0, none⟩) (p.tols.length + 1) c') (p.tols.length + 1) (cs ++ es)) (he : es.length = 3) (hx : RTol (Own base w') es x) :
    RS base P M { p with tols := p.tols ++ [x] } { Q with a4 := some ⟨g, 0, none⟩, c4 := c' } y N (w'.setCell ⟨P, 9, none⟩ (.slice (some ⟨g, 0, none⟩) (p.tols.length + 1) c')) := by
  have b8 := wb_grown h.bP oL hg (by decide)
  have b9 := wb_grown h.bM oL hg (by decide)
  have hb := But.set w' P 9 (.slice (some ⟨g, 0, none⟩) (p.tols.length + 1) c')
  have rr := (h.own.app4 oL kL hg o he hx).but hb b8 (by decide)
  refine ⟨?_, hb.wb b9 (Ne.symm (wb_ne b8 b9 (by decide))), ?_, ⟨rr.r1, rr.r2, rr.r3, rr.r4, rr.r5, rr.r6, h.own.d35, h.own.d36, h.own.d56⟩, ⟨row_grown RPair.but RPair.keeps h.nown.r1 oL hg (by decide) (.inl (by decide)) b8 9 (by decide) (by decide), row_grown RPair.but RPair.keeps h.nown.r2 oL hg (by decide) (.inl (by decide)) b8 9 (by decide) (by decide)⟩, h.dpn⟩
  · have := b8.set 9 (.slice (some ⟨g, 0, none⟩) (p.tols.length + 1) c')
    simp only [podC, List.setIfInBounds_toArray, List.set_cons_succ, List.set_cons_zero] at this
    simpa [podC] using this
  · have a1 := h.ub
    have a2 := hg.size
    have a3 := hb.size
    omega
theorem RS.app5 {base P M g : Nat} {p : Pd} {Q : PA} {y : Nd} {N : NA} {w w' : World} {cs es : List Value} {x : Tm} {c' : Nat} (h : RS base P M p Q y N w) (oL : w.ownsRow base 41 3 (.slice Q.a5 p.anti.length Q.c5) p.anti.length cs) (kL : Cells RTermT 3 (Own base w) p.anti cs)
    (hg : w.grownBy w' (Value.slice Q.a5 p.anti.length Q.c5).ownBlock) (lie : (Value.slice Q.a5 p.anti.length Q.c5).ownBlock = some g ∨ g = w.heap.size) (o : w'.ownsRow base 41 3 (.slice (some ⟨g, 0, none⟩) (p.anti.length + 1) c') (p.anti.length + 1) (cs ++ es)) (he : es.length = 3) (hx : RTermT (Own base w') es x) :
    RS base P M { p with anti := p.anti ++ [x] } { Q with a5 := some ⟨g, 0, none⟩, c5 := c' } y N (w'.setCell ⟨P, 11, none⟩ (.slice (some ⟨g, 0, none⟩) (p.anti.length + 1) c')) := by
  have b8 := wb_grown h.bP oL hg (by decide)
  have b9 := wb_grown h.bM oL hg (by decide)
  have hb := But.set w' P 11 (.slice (some ⟨g, 0, none⟩) (p.anti.length + 1) c')
  have rr := (h.own.app5 oL kL hg o he hx).but hb b8 (by decide)
  refine ⟨?_, hb.wb b9 (Ne.symm (wb_ne b8 b9 (by decide))), ?_, ⟨rr.r1, rr.r2, rr.r3, rr.r4, rr.r5, rr.r6, fun x z hx hz => by
      obtain rfl : (⟨g, 0, none⟩ : Addr) = z := by simpa using hz
      exact lies_ne h.own.r3 lie (fun u v hu hv => h.own.d35 u v hu hv) x hx, h.own.d36, fun x z hx hz => by
      obtain rfl : (⟨g, 0, none⟩ : Addr) = x := by simpa using hx
      exact Ne.symm (lies_ne h.own.r6 lie (fun u v hu hv => Ne.symm (h.own.d56 v u hv hu)) z hz)⟩, ⟨row_grown RPair.but RPair.keeps h.nown.r1 oL hg (by decide) (.inl (by decide)) b8 11 (by decide) (by decide), row_grown RPair.but RPair.keeps h.nown.r2 oL hg (by decide) (.inl (by decide)) b8 11 (by decide) (by decide)⟩, h.dpn⟩
  · have := b8.set 11 (.slice (some ⟨g, 0, none⟩) (p.anti.length + 1) c')
    simp only [podC, List.setIfInBounds_toArray, List.set_cons_succ, List.set_cons_zero] at this
    simpa [podC] using this
  · have a1 := h.ub
    have a2 := hg.size
    have a3 := hb.size
    omega
theorem RS.app6 {base P M g : Nat} {p : Pd} {Q : PA} {y : Nd} {N : NA} {w w' : World} {cs es : List Value} {x : Tm} {c' : Nat} (h : RS base P M p Q y N w) (oL : w.ownsRow base 41 3 (.slice Q.a6 p.even.length Q.c6) p.even.length cs) (kL : Cells RTermT 3 (Own base w) p.even cs)
    (hg : w.grownBy w' (Value.slice Q.a6 p.even.length Q.c6).ownBlock) (lie : (Value.slice Q.a6 p.even.length Q.c6).ownBlock = some g ∨ g = w.heap.size) (o : w'.ownsRow base 41 3 (.slice (some ⟨g, 0, none⟩) (p.even.length + 1) c') (p.even.length + 1) (cs ++ es)) (he : es.length = 3) (hx : RTermT (Own base w') es x) :
    RS base P M { p with even := p.even ++ [x] } { Q with a6 := some ⟨g, 0, none⟩, c6 := c' } y N (w'.setCell ⟨P, 13, none⟩ (.slice (some ⟨g, 0, none⟩) (p.even.length + 1) c')) := by
  have b8 := wb_grown h.bP oL hg (by decide)
  have b9 := wb_grown h.bM oL hg (by decide)
  have hb := But.set w' P 13 (.slice (some ⟨g, 0, none⟩) (p.even.length + 1) c')
  have rr := (h.own.app6 oL kL hg o he hx).but hb b8 (by decide)
  refine ⟨?_, hb.wb b9 (Ne.symm (wb_ne b8 b9 (by decide))), ?_, ⟨rr.r1, rr.r2, rr.r3, rr.r4, rr.r5, rr.r6, h.own.d35, fun x z hx hz => by
      obtain rfl : (⟨g, 0, none⟩ : Addr) = z := by simpa using hz
      exact lies_ne h.own.r3 lie (fun u v hu hv => h.own.d36 u v hu hv) x hx, fun x z hx hz => by
      obtain rfl : (⟨g, 0, none⟩ : Addr) = z := by simpa using hz
      exact lies_ne h.own.r5 lie (fun u v hu hv => h.own.d56 u v hu hv) x hx⟩, ⟨row_grown RPair.but RPair.keeps h.nown.r1 oL hg (by decide) (.inl (by decide)) b8 13 (by decide) (by decide), row_grown RPair.but RPair.keeps h.nown.r2 oL hg (by decide) (.inl (by decide)) b8 13 (by decide) (by decide)⟩, h.dpn⟩
  · have := b8.set 13 (.slice (some ⟨g, 0, none⟩) (p.even.length + 1) c')
    simp only [podC, List.setIfInBounds_toArray, List.set_cons_succ, List.set_cons_zero] at this
    simpa [podC] using this
  · have a1 := h.ub
    have a2 := hg.size
    have a3 := hb.size
    omega
theorem RS.napp1 {base P M g : Nat} {p : Pd} {Q : PA} {y : Nd} {N : NA} {w w' : World} {cs es : List Value} {x : Pr} {c' : Nat} (h : RS base P M p Q y N w) (oL : w.ownsRow base 37 2 (.slice N.a1 y.labels.length N.c1) y.labels.length cs) (kL : Cells RPair 2 (Own base w) y.labels cs)
    (hg : w.grownBy w' (Value.slice N.a1 y.labels.length N.c1).ownBlock) (lie : (Value.slice N.a1 y.labels.length N.c1).ownBlock = some g ∨ g = w.heap.size) (o : w'.ownsRow base 37 2 (.slice (some ⟨g, 0, none⟩) (y.labels.length + 1) c') (y.labels.length + 1) (cs ++ es)) (he : es.length = 2) (hx : RPair (Own base w') es x) :
    RS base P M p Q { y with labels := y.labels ++ [x] } { N with a1 := some ⟨g, 0, none⟩, c1 := c' } (w'.setCell ⟨M, 4, none⟩ (.slice (some ⟨g, 0, none⟩) (y.labels.length + 1) c')) := by
  have b8 := wb_grown h.bP oL hg (by decide)
  have b9 := wb_grown h.bM oL hg (by decide)
  have hb := But.set w' M 4 (.slice (some ⟨g, 0, none⟩) (y.labels.length + 1) c')
  refine ⟨hb.wb b8 (wb_ne b8 b9 (by decide)), ?_, ?_, ⟨row_grown RInt.but RInt.keeps h.own.r1 oL hg (by decide) (.inl (by decide)) b9 4 (by decide) (by decide), row_grown RPair.but RPair.keeps h.own.r2 oL hg (by decide) (.inr fun x z hx hz => h.dpn x z hx hz) b9 4 (by decide) (by decide), row_grown RTermT.but RTermT.keeps h.own.r3 oL hg (by decide) (.inl (by decide)) b9 4 (by decide) (by decide), row_grown RTol.but RTol.keeps h.own.r4 oL hg (by decide) (.inl (by decide)) b9 4 (by decide) (by decide), row_grown RTermT.but RTermT.keeps h.own.r5 oL hg (by decide) (.inl (by decide)) b9 4 (by decide) (by decide), row_grown RTermT.but RTermT.keeps h.own.r6 oL hg (by decide) (.inl (by decide)) b9 4 (by decide) (by decide), h.own.d35, h.own.d36, h.own.d56⟩, ⟨(Rowz.more RPair.but RPair.keeps (by decide) oL kL hg o he hx).but RPair.but hb b9 (by decide) (.inl (by decide)), row_grown RPair.but RPair.keeps h.nown.r2 oL hg (by decide) (.inl (by decide)) b9 4 (by decide) (by decide)⟩, fun x z hx hz => by
    obtain rfl : (⟨g, 0, none⟩ : Addr) = z := by simpa using hz
    exact lies_ne h.own.r2 lie (fun u v hu hv => h.dpn u v hu hv) x hx⟩
  · have := b9.set 4 (.slice (some ⟨g, 0, none⟩) (y.labels.length + 1) c')
    simp only [nodeC, List.setIfInBounds_toArray, List.set_cons_succ, List.set_cons_zero] at this
    simpa [nodeC] using this
  · have a1 := h.ub
    have a2 := hg.size
    have a3 := hb.size
    omega
theorem RS.napp2 {base P M g : Nat} {p : Pd} {Q : PA} {y : Nd} {N : NA} {w w' : World} {cs es : List Value} {x : Pr} {c' : Nat} (h : RS base P M p Q y N w) (oL : w.ownsRow base 53 2 (.slice N.a2 y.taints.length N.c2) y.taints.length cs) (kL : Cells RPair 2 (Own base w) y.taints cs)
    (hg : w.grownBy w' (Value.slice N.a2 y.taints.length N.c2).ownBlock) (lie : (Value.slice N.a2 y.taints.length N.c2).ownBlock = some g ∨ g = w.heap.size) (o : w'.ownsRow base 53 2 (.slice (some ⟨g, 0, none⟩) (y.taints.length + 1) c') (y.taints.length + 1) (cs ++ es)) (he : es.length = 2) (hx : RPair (Own base w') es x) :
    RS base P M p Q { y with taints := y.taints ++ [x] } { N with a2 := some ⟨g, 0, none⟩, c2 := c' } (w'.setCell ⟨M, 5, none⟩ (.slice (some ⟨g, 0, none⟩) (y.taints.length + 1) c')) := by
  have b8 := wb_grown h.bP oL hg (by decide)
  have b9 := wb_grown h.bM oL hg (by decide)
  have hb := But.set w' M 5 (.slice (some ⟨g, 0, none⟩) (y.taints.length + 1) c')
  refine ⟨hb.wb b8 (wb_ne b8 b9 (by decide)), ?_, ?_, ⟨row_grown RInt.but RInt.keeps h.own.r1 oL hg (by decide) (.inl (by decide)) b9 5 (by decide) (by decide), row_grown RPair.but RPair.keeps h.own.r2 oL hg (by decide) (.inl (by decide)) b9 5 (by decide) (by decide), row_grown RTermT.but RTermT.keeps h.own.r3 oL hg (by decide) (.inl (by decide)) b9 5 (by decide) (by decide), row_grown RTol.but RTol.keeps h.own.r4 oL hg (by decide) (.inl (by decide)) b9 5 (by decide) (by decide), row_grown RTermT.but RTermT.keeps h.own.r5 oL hg (by decide) (.inl (by decide)) b9 5 (by decide) (by decide), row_grown RTermT.but RTermT.keeps h.own.r6 oL hg (by decide) (.inl (by decide)) b9 5 (by decide) (by decide), h.own.d35, h.own.d36, h.own.d56⟩, ⟨row_grown RPair.but RPair.keeps h.nown.r1 oL hg (by decide) (.inl (by decide)) b9 5 (by decide) (by decide), (Rowz.more RPair.but RPair.keeps (by decide) oL kL hg o he hx).but RPair.but hb b9 (by decide) (.inl (by decide))⟩, h.dpn⟩
  · have := b9.set 5 (.slice (some ⟨g, 0, none⟩) (y.taints.length + 1) c')
    simp only [nodeC, List.setIfInBounds_toArray, List.set_cons_succ, List.set_cons_zero] at this
    simpa [nodeC] using this
  · have a1 := h.ub
    have a2 := hg.size
    have a3 := hb.size
    omega
theorem RStr.but : KeepsB RStr := fun _ _ _ _ _ h => h
theorem room_app1 {w1 : World} {P M g n : Nat} {p : Pd} {Q : PA} {y : Nd} {N : NA} {w w' : World} {cs es : List Value} {x : Int} {c' c : Nat} {A : Option Addr} {xs : List ByteArray} (hn : p.ports.length = n) (h : RS w1.heap.size P M p Q y N w) (hv : Rowz RStr 9 1 w1.heap.size w A c xs) (hE : Ext w1 w) (gp : w1.heap.size ≤ P)
    (oL : w.ownsRow w1.heap.size 3 1 (.slice Q.a1 n Q.c1) n cs) (kL : Cells RInt 1 (Own w1.heap.size w) p.ports cs)
    (hg : w.grownBy w' (Value.slice Q.a1 n Q.c1).ownBlock) (lie : (Value.slice Q.a1 n Q.c1).ownBlock = some g ∨ g = w.heap.size) (o : w'.ownsRow w1.heap.size 3 1 (.slice (some ⟨g, 0, none⟩) (n + 1) c') (n + 1) (cs ++ es)) (he : es.length = 1) (hx : Rowz RStr 9 1 w1.heap.size w' A c xs → RInt (Own w1.heap.size w') es x) :
    RS w1.heap.size P M { p with ports := p.ports ++ [x] } { Q with a1 := some ⟨g, 0, none⟩, c1 := c' } y N (w'.setCell ⟨P, 6, none⟩ (.slice (some ⟨g, 0, none⟩) (n + 1) c')) ∧ Rowz RStr 9 1 w1.heap.size (w'.setCell ⟨P, 6, none⟩ (.slice (some ⟨g, 0, none⟩) (n + 1) c')) A c xs ∧ Ext w1 (w'.setCell ⟨P, 6, none⟩ (.slice (some ⟨g, 0, none⟩) (n + 1) c')) := by
  subst hn
  have hv' := hv.grown RStr.but RStr.keeps oL hg (by decide) (.inl (by decide))
  have b8 := wb_grown h.bP oL hg (by decide)
  have b9 := wb_grown h.bM oL hg (by decide)
  exact ⟨h.app1 oL kL hg lie o he (hx hv'), hv'.but RStr.but (But.set w' P 6 _) b8 (by decide) (.inl (by decide)), (ext_grown hE oL (Nat.le_refl _) hg).setCell (p := ⟨P, 6, none⟩) gp _⟩
theorem room_app2 {w1 : World} {P M g n : Nat} {p : Pd} {Q : PA} {y : Nd} {N : NA} {w w' : World} {cs es : List Value} {x : Pr} {c' c : Nat} {A : Option Addr} {xs : List ByteArray} (hn : p.labels.length = n) (h : RS w1.heap.size P M p Q y N w) (hv : Rowz RStr 9 1 w1.heap.size w A c xs) (hE : Ext w1 w) (gp : w1.heap.size ≤ P)
    (oL : w.ownsRow w1.heap.size 37 2 (.slice Q.a2 n Q.c2) n cs) (kL : Cells RPair 2 (Own w1.heap.size w) p.labels cs)
    (hg : w.grownBy w' (Value.slice Q.a2 n Q.c2).ownBlock) (lie : (Value.slice Q.a2 n Q.c2).ownBlock = some g ∨ g = w.heap.size) (o : w'.ownsRow w1.heap.size 37 2 (.slice (some ⟨g, 0, none⟩) (n + 1) c') (n + 1) (cs ++ es)) (he : es.length = 2) (hx : Rowz RStr 9 1 w1.heap.size w' A c xs → RPair (Own w1.heap.size w') es x) :
    RS w1.heap.size P M { p with labels := p.labels ++ [x] } { Q with a2 := some ⟨g, 0, none⟩, c2 := c' } y N (w'.setCell ⟨P, 7, none⟩ (.slice (some ⟨g, 0, none⟩) (n + 1) c')) ∧ Rowz RStr 9 1 w1.heap.size (w'.setCell ⟨P, 7, none⟩ (.slice (some ⟨g, 0, none⟩) (n + 1) c')) A c xs ∧ Ext w1 (w'.setCell ⟨P, 7, none⟩ (.slice (some ⟨g, 0, none⟩) (n + 1) c')) := by
  subst hn
  have hv' := hv.grown RStr.but RStr.keeps oL hg (by decide) (.inl (by decide))
  have b8 := wb_grown h.bP oL hg (by decide)
  have b9 := wb_grown h.bM oL hg (by decide)
  exact ⟨h.app2 oL kL hg lie o he (hx hv'), hv'.but RStr.but (But.set w' P 7 _) b8 (by decide) (.inl (by decide)), (ext_grown hE oL (Nat.le_refl _) hg).setCell (p := ⟨P, 7, none⟩) gp _⟩
theorem room_app3 {w1 : World} {P M g n : Nat} {p : Pd} {Q : PA} {y : Nd} {N : NA} {w w' : World} {cs es : List Value} {x : Tm} {c' c : Nat} {A : Option Addr} {xs : List ByteArray} (hn : p.sel.length = n) (h : RS w1.heap.size P M p Q y N w) (hv : Rowz RStr 9 1 w1.heap.size w A c xs) (hE : Ext w1 w) (gp : w1.heap.size ≤ P)
    (oL : w.ownsRow w1.heap.size 41 3 (.slice Q.a3 n Q.c3) n cs) (kL : Cells RTermT 3 (Own w1.heap.size w) p.sel cs)
    (hg : w.grownBy w' (Value.slice Q.a3 n Q.c3).ownBlock) (lie : (Value.slice Q.a3 n Q.c3).ownBlock = some g ∨ g = w.heap.size) (o : w'.ownsRow w1.heap.size 41 3 (.slice (some ⟨g, 0, none⟩) (n + 1) c') (n + 1) (cs ++ es)) (he : es.length = 3) (hx : Rowz RStr 9 1 w1.heap.size w' A c xs → RTermT (Own w1.heap.size w') es x) :
    RS w1.heap.size P M { p with sel := p.sel ++ [x] } { Q with a3 := some ⟨g, 0, none⟩, c3 := c' } y N (w'.setCell ⟨P, 8, none⟩ (.slice (some ⟨g, 0, none⟩) (n + 1) c')) ∧ Rowz RStr 9 1 w1.heap.size (w'.setCell ⟨P, 8, none⟩ (.slice (some ⟨g, 0, none⟩) (n + 1) c')) A c xs ∧ Ext w1 (w'.setCell ⟨P, 8, none⟩ (.slice (some ⟨g, 0, none⟩) (n + 1) c')) := by
  subst hn
  have hv' := hv.grown RStr.but RStr.keeps oL hg (by decide) (.inl (by decide))
  have b8 := wb_grown h.bP oL hg (by decide)
  have b9 := wb_grown h.bM oL hg (by decide)
  exact ⟨h.app3 oL kL hg lie o he (hx hv'), hv'.but RStr.but (But.set w' P 8 _) b8 (by decide) (.inl (by decide)), (ext_grown hE oL (Nat.le_refl _) hg).setCell (p := ⟨P, 8, none⟩) gp _⟩
theorem room_app4 {w1 : World} {P M g n : Nat} {p : Pd} {Q : PA} {y : Nd} {N : NA} {w w' : World} {cs es : List Value} {x : Tl} {c' c : Nat} {A : Option Addr} {xs : List ByteArray} (hn : p.tols.length = n) (h : RS w1.heap.size P M p Q y N w) (hv : Rowz RStr 9 1 w1.heap.size w A c xs) (hE : Ext w1 w) (gp : w1.heap.size ≤ P)
    (oL : w.ownsRow w1.heap.size 52 3 (.slice Q.a4 n Q.c4) n cs) (kL : Cells RTol 3 (Own w1.heap.size w) p.tols cs)
    (hg : w.grownBy w' (Value.slice Q.a4 n Q.c4).ownBlock) (lie : (Value.slice Q.a4 n Q.c4).ownBlock = some g ∨ g = w.heap.size) (o : w'.ownsRow w1.heap.size 52 3 (.slice (some ⟨g, 0, none⟩) (n + 1) c') (n + 1) (cs ++ es)) (he : es.length = 3) (hx : Rowz RStr 9 1 w1.heap.size w' A c xs → RTol (Own w1.heap.size w') es x) :
    RS w1.heap.size P M { p with tols := p.tols ++ [x] } { Q with a4 := some ⟨g, 0, none⟩, c4 := c' } y N (w'.setCell ⟨P, 9, none⟩ (.slice (some ⟨g, 0, none⟩) (n + 1) c')) ∧ Rowz RStr 9 1 w1.heap.size (w'.setCell ⟨P, 9, none⟩ (.slice (some ⟨g, 0, none⟩) (n + 1) c')) A c xs ∧ Ext w1 (w'.setCell ⟨P, 9, none⟩ (.slice (some ⟨g, 0, none⟩) (n + 1) c')) := by
  subst hn
  have hv' := hv.grown RStr.but RStr.keeps oL hg (by decide) (.inl (by decide))
  have b8 := wb_grown h.bP oL hg (by decide)
  have b9 := wb_grown h.bM oL hg (by decide)
  exact ⟨h.app4 oL kL hg lie o he (hx hv'), hv'.but RStr.but (But.set w' P 9 _) b8 (by decide) (.inl (by decide)), (ext_grown hE oL (Nat.le_refl _) hg).setCell (p := ⟨P, 9, none⟩) gp _⟩
theorem room_app5 {w1 : World} {P M g n : Nat} {p : Pd} {Q : PA} {y : Nd} {N : NA} {w w' : World} {cs es : List Value} {x : Tm} {c' c : Nat} {A : Option Addr} {xs : List ByteArray} (hn : p.anti.length = n) (h : RS w1.heap.size P M p Q y N w) (hv : Rowz RStr 9 1 w1.heap.size w A c xs) (hE : Ext w1 w) (gp : w1.heap.size ≤ P)
    (oL : w.ownsRow w1.heap.size 41 3 (.slice Q.a5 n Q.c5) n cs) (kL : Cells RTermT 3 (Own w1.heap.size w) p.anti cs)
    (hg : w.grownBy w' (Value.slice Q.a5 n Q.c5).ownBlock) (lie : (Value.slice Q.a5 n Q.c5).ownBlock = some g ∨ g = w.heap.size) (o : w'.ownsRow w1.heap.size 41 3 (.slice (some ⟨g, 0, none⟩) (n + 1) c') (n + 1) (cs ++ es)) (he : es.length = 3) (hx : Rowz RStr 9 1 w1.heap.size w' A c xs → RTermT (Own w1.heap.size w') es x) :
    RS w1.heap.size P M { p with anti := p.anti ++ [x] } { Q with a5 := some ⟨g, 0, none⟩, c5 := c' } y N (w'.setCell ⟨P, 11, none⟩ (.slice (some ⟨g, 0, none⟩) (n + 1) c')) ∧ Rowz RStr 9 1 w1.heap.size (w'.setCell ⟨P, 11, none⟩ (.slice (some ⟨g, 0, none⟩) (n + 1) c')) A c xs ∧ Ext w1 (w'.setCell ⟨P, 11, none⟩ (.slice (some ⟨g, 0, none⟩) (n + 1) c')) := by
  subst hn
  have hv' := hv.grown RStr.but RStr.keeps oL hg (by decide) (.inl (by decide))
  have b8 := wb_grown h.bP oL hg (by decide)
  have b9 := wb_grown h.bM oL hg (by decide)
  exact ⟨h.app5 oL kL hg lie o he (hx hv'), hv'.but RStr.but (But.set w' P 11 _) b8 (by decide) (.inl (by decide)), (ext_grown hE oL (Nat.le_refl _) hg).setCell (p := ⟨P, 11, none⟩) gp _⟩
theorem room_app6 {w1 : World} {P M g n : Nat} {p : Pd} {Q : PA} {y : Nd} {N : NA} {w w' : World} {cs es : List Value} {x : Tm} {c' c : Nat} {A : Option Addr} {xs : List ByteArray} (hn : p.even.length = n) (h : RS w1.heap.size P M p Q y N w) (hv : Rowz RStr 9 1 w1.heap.size w A c xs) (hE : Ext w1 w) (gp : w1.heap.size ≤ P)
    (oL : w.ownsRow w1.heap.size 41 3 (.slice Q.a6 n Q.c6) n cs) (kL : Cells RTermT 3 (Own w1.heap.size w) p.even cs)
    (hg : w.grownBy w' (Value.slice Q.a6 n Q.c6).ownBlock) (lie : (Value.slice Q.a6 n Q.c6).ownBlock = some g ∨ g = w.heap.size) (o : w'.ownsRow w1.heap.size 41 3 (.slice (some ⟨g, 0, none⟩) (n + 1) c') (n + 1) (cs ++ es)) (he : es.length = 3) (hx : Rowz RStr 9 1 w1.heap.size w' A c xs → RTermT (Own w1.heap.size w') es x) :
    RS w1.heap.size P M { p with even := p.even ++ [x] } { Q with a6 := some ⟨g, 0, none⟩, c6 := c' } y N (w'.setCell ⟨P, 13, none⟩ (.slice (some ⟨g, 0, none⟩) (n + 1) c')) ∧ Rowz RStr 9 1 w1.heap.size (w'.setCell ⟨P, 13, none⟩ (.slice (some ⟨g, 0, none⟩) (n + 1) c')) A c xs ∧ Ext w1 (w'.setCell ⟨P, 13, none⟩ (.slice (some ⟨g, 0, none⟩) (n + 1) c')) := by
  subst hn
  have hv' := hv.grown RStr.but RStr.keeps oL hg (by decide) (.inl (by decide))
  have b8 := wb_grown h.bP oL hg (by decide)
  have b9 := wb_grown h.bM oL hg (by decide)
  exact ⟨h.app6 oL kL hg lie o he (hx hv'), hv'.but RStr.but (But.set w' P 13 _) b8 (by decide) (.inl (by decide)), (ext_grown hE oL (Nat.le_refl _) hg).setCell (p := ⟨P, 13, none⟩) gp _⟩
theorem room_napp1 {w1 : World} {P M g n : Nat} {p : Pd} {Q : PA} {y : Nd} {N : NA} {w w' : World} {cs es : List Value} {x : Pr} {c' c : Nat} {A : Option Addr} {xs : List ByteArray} (hn : y.labels.length = n) (h : RS w1.heap.size P M p Q y N w) (hv : Rowz RStr 9 1 w1.heap.size w A c xs) (hE : Ext w1 w) (gp : w1.heap.size ≤ M)
    (oL : w.ownsRow w1.heap.size 37 2 (.slice N.a1 n N.c1) n cs) (kL : Cells RPair 2 (Own w1.heap.size w) y.labels cs)
    (hg : w.grownBy w' (Value.slice N.a1 n N.c1).ownBlock) (lie : (Value.slice N.a1 n N.c1).ownBlock = some g ∨ g = w.heap.size) (o : w'.ownsRow w1.heap.size 37 2 (.slice (some ⟨g, 0, none⟩) (n + 1) c') (n + 1) (cs ++ es)) (he : es.length = 2) (hx : Rowz RStr 9 1 w1.heap.size w' A c xs → RPair (Own w1.heap.size w') es x) :
    RS w1.heap.size P M p Q { y with labels := y.labels ++ [x] } { N with a1 := some ⟨g, 0, none⟩, c1 := c' } (w'.setCell ⟨M, 4, none⟩ (.slice (some ⟨g, 0, none⟩) (n + 1) c')) ∧ Rowz RStr 9 1 w1.heap.size (w'.setCell ⟨M, 4, none⟩ (.slice (some ⟨g, 0, none⟩) (n + 1) c')) A c xs ∧ Ext w1 (w'.setCell ⟨M, 4, none⟩ (.slice (some ⟨g, 0, none⟩) (n + 1) c')) := by
  subst hn
  have hv' := hv.grown RStr.but RStr.keeps oL hg (by decide) (.inl (by decide))
  have b8 := wb_grown h.bP oL hg (by decide)
  have b9 := wb_grown h.bM oL hg (by decide)
  exact ⟨h.napp1 oL kL hg lie o he (hx hv'), hv'.but RStr.but (But.set w' M 4 _) b9 (by decide) (.inl (by decide)), (ext_grown hE oL (Nat.le_refl _) hg).setCell (p := ⟨M, 4, none⟩) gp _⟩
theorem room_napp2 {w1 : World} {P M g n : Nat} {p : Pd} {Q : PA} {y : Nd} {N : NA} {w w' : World} {cs es : List Value} {x : Pr} {c' c : Nat} {A : Option Addr} {xs : List ByteArray} (hn : y.taints.length = n) (h : RS w1.heap.size P M p Q y N w) (hv : Rowz RStr 9 1 w1.heap.size w A c xs) (hE : Ext w1 w) (gp : w1.heap.size ≤ M)
    (oL : w.ownsRow w1.heap.size 53 2 (.slice N.a2 n N.c2) n cs) (kL : Cells RPair 2 (Own w1.heap.size w) y.taints cs)
    (hg : w.grownBy w' (Value.slice N.a2 n N.c2).ownBlock) (lie : (Value.slice N.a2 n N.c2).ownBlock = some g ∨ g = w.heap.size) (o : w'.ownsRow w1.heap.size 53 2 (.slice (some ⟨g, 0, none⟩) (n + 1) c') (n + 1) (cs ++ es)) (he : es.length = 2) (hx : Rowz RStr 9 1 w1.heap.size w' A c xs → RPair (Own w1.heap.size w') es x) :
    RS w1.heap.size P M p Q { y with taints := y.taints ++ [x] } { N with a2 := some ⟨g, 0, none⟩, c2 := c' } (w'.setCell ⟨M, 5, none⟩ (.slice (some ⟨g, 0, none⟩) (n + 1) c')) ∧ Rowz RStr 9 1 w1.heap.size (w'.setCell ⟨M, 5, none⟩ (.slice (some ⟨g, 0, none⟩) (n + 1) c')) A c xs ∧ Ext w1 (w'.setCell ⟨M, 5, none⟩ (.slice (some ⟨g, 0, none⟩) (n + 1) c')) := by
  subst hn
  have hv' := hv.grown RStr.but RStr.keeps oL hg (by decide) (.inl (by decide))
  have b8 := wb_grown h.bP oL hg (by decide)
  have b9 := wb_grown h.bM oL hg (by decide)
  exact ⟨h.napp2 oL kL hg lie o he (hx hv'), hv'.but RStr.but (But.set w' M 5 _) b9 (by decide) (.inl (by decide)), (ext_grown hE oL (Nat.le_refl _) hg).setCell (p := ⟨M, 5, none⟩) gp _⟩
theorem news_of {W : World} {q : Nat} {T : TypeId} {cs : Array Value} (h : WB W q T cs) : ∀ (j : Nat) (u : Value), cs.toList[j]? = some u → W.cell? ((⟨q, 0, none⟩ : Addr).add j) = some u := by
  intro j u hu
  rw [show (⟨q, 0, none⟩ : Addr).add j = ⟨q, j, none⟩ from by unfold Addr.add; split <;> simp_all]
  exact h.cell (by simpa using hu)
end Go.Proofs.YthfafenigjldlaaGreat
