/-
  The walk of qty.Sum.
-/
import Derived.Test.YthfafenigjldlaaQty2
namespace Go.Proofs.Ythfafenigjldlaa
open Go.RowKit
set_option linter.unusedVariables false

def sumV (xs : List Rs) : Rs := (sumO zeroR xs).getD zeroR
def sumB (xs : List Rs) : Bool := (sumO zeroR xs).isSome
def SumPost (xs : List Rs) (w : World) (e : Ending) (w' : World) : Prop :=
  e = .returned (.tuple #[.agg #[.int .i64 (sumV xs).a, .int .i64 (sumV xs).b, .int .i64 (sumV xs).c], .bool (sumB xs)]) ∧ Ext w w'

theorem Ext.set3 {w wr : World} {g : Nat} (he : Ext w wr) (hg : w.heap.size ≤ g) (u v t : Value) :
    Ext w (((wr.setCell ⟨g, 0, none⟩ u).setCell ⟨g, 1, none⟩ v).setCell ⟨g, 2, none⟩ t) := ((he.setCell hg _).setCell hg _).setCell hg _
theorem Arr3.set3 {wr : World} {g : Nat} {a b c : Int} (h : Arr3 wr g a b c) (u v t : Int) :
    Arr3 (((wr.setCell ⟨g, 0, none⟩ (.int .i64 u)).setCell ⟨g, 1, none⟩ (.int .i64 v)).setCell ⟨g, 2, none⟩ (.int .i64 t)) g u v t := ((h.s0 u).s1 v).s2 t
theorem Arr3.far3 {wr : World} {g g' : Nat} {a b c : Int} (h : Arr3 wr g a b c) (hg : g ≠ g') (u v t : Value) :
    Arr3 (((wr.setCell ⟨g', 0, none⟩ u).setCell ⟨g', 1, none⟩ v).setCell ⟨g', 2, none⟩ t) g a b c := ((h.far hg u).far hg v).far hg t

set_option maxHeartbeats 1000000 in
theorem qSum_any (A : Option Addr) (c : Nat) (xs : List Rs) (w : World) (hn : xs.length ≤ maxLen) (hx : Sl RRes 3 w A xs) :
    Calls Try.prog 17 #[.slice A xs.length c] w (SumPost xs w) := by
  unfold maxLen at hn
  have HX := Lib.hid hx
  clear hx
  go_enter Try.func17, Try.ntmps17
  go_wp2_with fail
  go_loopw [11] (fun i wr => ∃ (k : Nat) (s : Rs), k ≤ xs.length ∧ i = .int .i64 k ∧ Ext w wr ∧ Arr3 wr w.heap.size 0 0 0 ∧ Arr3 wr (w.heap.size + 1) s.a s.b s.c ∧ Hid (sumO zeroR xs = sumO s (xs.drop k))) (fun i _ => xs.length - (intOf i).toNat)
  case atStart => exact ⟨0, zeroR, by omega, rfl, ((Ext.refl _).alloc _).alloc _, (Arr3.new _ _ _ _).alloc _, by show Arr3 _ _ 0 0 0; simpa using Arr3.new (w.alloc _) 0 0 0, rfl⟩
  case round =>
    obtain ⟨k, s, hk, rfl, he, hr, hs, hd⟩ := hrel
    have o0 := hr.c0; have o1 := hr.c1; have o2 := hr.c2
    have oz0 := hr.fr 0; have oz1 := hr.fr 1; have oz2 := hr.fr 2
    have hsz : w.heap.size + 1 < wr.heap.size := by have := cell_lt hs.c0; simpa using this
    have c0 := hs.c0; have c1 := hs.c1; have c2 := hs.c2
    have gz0 := hs.fr 0; have gz1 := hs.fr 1; have gz2 := hs.fr 2
    by_cases hlt : k < xs.length
    · obtain ⟨b, o, x, hA, hxk, ok1, d0, d1, d2⟩ := (HX.out.ext RRes.keeps he).res hlt
      have hstep := Lib.hid (sumO_at (s := s) hxk)
      subst hA
      clear hxk HX
      go_wp2_with fail
      refine (qAdd_any s x _).mono ?_
      rintro e w1 ⟨rfl, he1⟩
      have hr1 := (hr.alloc _).ext he1
      have hs1 := (hs.alloc _).ext he1
      have he2 := Lib.hid ((he.alloc _).trans he1)
      have hsz1 : w.heap.size + 1 < w1.heap.size := by have := cell_lt hs1.c0; simpa using this
      have hsz2 : w.heap.size < w1.heap.size := by omega
      clear d0 d1 d2 o0 o1 o2 oz0 oz1 oz2 c0 c1 c2 gz0 gz1 gz2 he1 hsz
      have o0 := hr1.c0; have o1 := hr1.c1; have o2 := hr1.c2
      have oz0 := hr1.fr 0; have oz1 := hr1.fr 1; have oz2 := hr1.fr 2
      have c0 := hs1.c0; have c1 := hs1.c1; have c2 := hs1.c2
      have gz0 := hs1.fr 0; have gz1 := hs1.fr 1; have gz2 := hs1.fr 2
      cases hp : addB s x
      · go_wp2_with fail
        refine bodyPost_ret (v := .tuple #[.agg #[.int .i64 0, .int .i64 0, .int .i64 0], .bool false]) (by simp [results, Try.results17, go_sem, o0, o1, o2, hsz2]) rfl ?_
        have e1 : Hid (sumO zeroR xs = none) := by show _ = _; rw [hd.out, hstep.out, hp]; rfl
        exact ⟨by unfold sumV sumB; rw [e1.out]; rfl, (Ext.set3 he2.out (by simp) _ _ _).alloc _⟩
      · go_wp2_with fail
        go_roundw
        case rel => exact ⟨k + 1, addV s x, by omega, by go_num, (Ext.set3 he2.out (by simp) _ _ _).alloc _, (hr1.far3 (by simp) _ _ _).alloc _, (hs1.set3 _ _ _).alloc _, by show _ = _; rw [hd.out, hstep.out, hp]; rfl⟩
        case measure => simp [intOf]; omega
    · go_wp2_with fail
      have e1 : Hid (sumO zeroR xs = some s) := by show _ = _; rw [hd.out, drop_all (by omega)]; rfl
      refine bodyPost_ret (v := .tuple #[.agg #[.int .i64 s.a, .int .i64 s.b, .int .i64 s.c], .bool true]) (by simp [results, Try.results17, go_sem, o0, o1, o2]) rfl ?_
      exact ⟨by unfold sumV sumB; rw [e1.out]; rfl, he.set3 (by simp) _ _ _⟩
end Go.Proofs.Ythfafenigjldlaa
