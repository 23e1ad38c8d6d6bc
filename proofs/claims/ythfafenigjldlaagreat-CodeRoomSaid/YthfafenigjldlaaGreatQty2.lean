/-
  The walks of package qty: Add and Sub.
-/
import Derived.Test.YthfafenigjldlaaGreatQty1
namespace Go.Proofs.YthfafenigjldlaaGreat
open Go.RowKit
set_option linter.unusedVariables false

/-- the four blocks of the loop -/
structure AddInv (w wr : World) (r s : Rs) (x y z : Int) : Prop where
  ext : Ext w wr
  ar : Arr3 wr w.heap.size r.a r.b r.c
  asx : Arr3 wr (w.heap.size + 1) s.a s.b s.c
  ao : Arr3 wr (w.heap.size + 2) 0 0 0
  ac : Arr3 wr (w.heap.size + 3) x y z

theorem AddInv.start (w : World) (r s : Rs) : AddInv w ((((w.alloc (.cells #[.int .i64 r.a, .int .i64 r.b, .int .i64 r.c] 56)).alloc (.cells #[.int .i64 s.a, .int .i64 s.b, .int .i64 s.c] 56)).alloc (.cells #[.int .i64 0, .int .i64 0, .int .i64 0] 56)).alloc (.cells #[.int .i64 0, .int .i64 0, .int .i64 0] 56)) r s 0 0 0 :=
  ⟨((((Ext.refl _).alloc _).alloc _).alloc _).alloc _, (((Arr3.new _ _ _ _).alloc _).alloc _).alloc _, by simpa using ((Arr3.new (w.alloc _) s.a s.b s.c).alloc _).alloc _,
    by simpa using (Arr3.new ((w.alloc _).alloc _) 0 0 0).alloc _, by simpa using Arr3.new (((w.alloc _).alloc _).alloc _) 0 0 0⟩
theorem AddInv.drewN {w wr : World} {r s : Rs} {x y z : Int} (h : AddInv w wr r s x y z) (n : Nat) : AddInv w (wr.drewN n) r s x y z := ⟨h.ext.drewN n, h.ar, h.asx, h.ao, h.ac⟩
theorem AddInv.drew {w wr : World} {r s : Rs} {x y z : Int} (h : AddInv w wr r s x y z) : AddInv w wr.drew r s x y z := ⟨h.ext.drew, h.ar, h.asx, h.ao, h.ac⟩
theorem AddInv.s0 {w wr : World} {r s : Rs} {x y z : Int} (h : AddInv w wr r s x y z) (u : Int) : AddInv w (wr.setCell ⟨w.heap.size + 3, 0, none⟩ (.int .i64 u)) r s u y z :=
  ⟨h.ext.setCell (by simp) _, h.ar.far (by simp) _, h.asx.far (by simp) _, h.ao.far (by simp) _, h.ac.s0 u⟩
theorem AddInv.s1 {w wr : World} {r s : Rs} {x y z : Int} (h : AddInv w wr r s x y z) (u : Int) : AddInv w (wr.setCell ⟨w.heap.size + 3, 1, none⟩ (.int .i64 u)) r s x u z :=
  ⟨h.ext.setCell (by simp) _, h.ar.far (by simp) _, h.asx.far (by simp) _, h.ao.far (by simp) _, h.ac.s1 u⟩
theorem AddInv.s2 {w wr : World} {r s : Rs} {x y z : Int} (h : AddInv w wr r s x y z) (u : Int) : AddInv w (wr.setCell ⟨w.heap.size + 3, 2, none⟩ (.int .i64 u)) r s x y u :=
  ⟨h.ext.setCell (by simp) _, h.ar.far (by simp) _, h.asx.far (by simp) _, h.ao.far (by simp) _, h.ac.s2 u⟩

theorem qInE (n : Int) (w : World) : Calls Tryz.prog 71 #[.int .i64 n] w fun e w' => e = .returned (.bool (inQ n)) ∧ w' = w :=
  (qIn_any n w).mono fun _ _ ⟨a, b⟩ => ⟨a, b.symm⟩
theorem inQ_bd {n : Int} (h : inQ n = true) : 0 ≤ n ∧ n ≤ 4611686018427387904 := by simpa [inQ] using h

def qAddSt (r s : Rs) : Nat → Int → Int → Int → Prop
  | 0, x, y, z => x = 0 ∧ y = 0 ∧ z = 0
  | 1, x, y, z => addOk r.a s.a = true ∧ x = r.a + s.a ∧ y = 0 ∧ z = 0
  | 2, x, y, z => addOk r.a s.a = true ∧ addOk r.b s.b = true ∧ x = r.a + s.a ∧ y = r.b + s.b ∧ z = 0
  | _, x, y, z => addOk r.a s.a = true ∧ addOk r.b s.b = true ∧ addOk r.c s.c = true ∧ x = r.a + s.a ∧ y = r.b + s.b ∧ z = r.c + s.c
def qAddPost (r s : Rs) (w : World) (e : Ending) (w' : World) : Prop :=
  e = .returned (.tuple #[.agg #[.int .i64 (addV r s).a, .int .i64 (addV r s).b, .int .i64 (addV r s).c], .bool (addB r s)]) ∧ Ext w w'
theorem qAddPost.no {r s : Rs} {w wr : World} {u v t : Value} (h : addB r s = false) (he : Ext w wr) :
    qAddPost r s w (.returned (.tuple #[.agg #[.int .i64 0, .int .i64 0, .int .i64 0], .bool false]))
      (((wr.setCell ⟨w.heap.size + 2, 0, none⟩ u).setCell ⟨w.heap.size + 2, 1, none⟩ v).setCell ⟨w.heap.size + 2, 2, none⟩ t) :=
  ⟨by simp [addV, h, zeroR], ((he.setCell (by simp) _).setCell (by simp) _).setCell (by simp) _⟩
theorem qAddPost.yes {r s : Rs} {w wr : World} {u v t : Value} (h : addB r s = true) (he : Ext w wr) :
    qAddPost r s w (.returned (.tuple #[.agg #[.int .i64 (r.a + s.a), .int .i64 (r.b + s.b), .int .i64 (r.c + s.c)], .bool true]))
      (((wr.setCell ⟨w.heap.size + 2, 0, none⟩ u).setCell ⟨w.heap.size + 2, 1, none⟩ v).setCell ⟨w.heap.size + 2, 2, none⟩ t) :=
  ⟨by simp [addV, h], ((he.setCell (by simp) _).setCell (by simp) _).setCell (by simp) _⟩

set_option maxHeartbeats 2000000 in
set_option maxRecDepth 10000 in
theorem qAdd_any (r s : Rs) (w : World) : Calls Tryz.prog 39 #[.agg #[.int .i64 r.a, .int .i64 r.b, .int .i64 r.c], .agg #[.int .i64 s.a, .int .i64 s.b, .int .i64 s.c]] w (qAddPost r s w) := by
  go_enter Tryz.func39, Tryz.ntmps39
  go_wp2_with fail
  go_loopw [8] (fun i wr => ∃ (k : Nat) (x y z : Int), k ≤ 3 ∧ i = .int .i64 k ∧ AddInv w wr r s x y z ∧ qAddSt r s k x y z) (fun i _ => 3 - (intOf i).toNat)
  case atStart => exact ⟨0, 0, 0, 0, by omega, rfl, AddInv.start w r s, rfl, rfl, rfl⟩
  case round =>
    obtain ⟨k, x, y, z, hk, rfl, hi, hst⟩ := hrel
    have c0 := hi.ar.c0; have c1 := hi.ar.c1; have c2 := hi.ar.c2
    have d0 := hi.asx.c0; have d1 := hi.asx.c1; have d2 := hi.asx.c2
    have o0 := hi.ao.c0; have o1 := hi.ao.c1; have o2 := hi.ao.c2
    have oz0 := hi.ao.fr 0; have oz1 := hi.ao.fr 1; have oz2 := hi.ao.fr 2
    have g0 := hi.ac.c0; have g1 := hi.ac.c1; have g2 := hi.ac.c2
    have gz0 := hi.ac.fr 0; have gz1 := hi.ac.fr 1; have gz2 := hi.ac.fr 2
    rcases (show k = 0 ∨ k = 1 ∨ k = 2 ∨ k = 3 by omega) with rfl | rfl | rfl | rfl
    · have HST := Lib.hid hst
      clear hst
      cases h1 : inQ r.a
      · go_wp2_with fail
        go_quiet ((go_at_call 71; exact Calls.quiet_of_same (qInE _ _)))
        go_wp2_with fail
        refine bodyPost_ret (v := .tuple #[.agg #[.int .i64 0, .int .i64 0, .int .i64 0], .bool false]) (by simp [results, Tryz.results39, go_sem, o0, o1, o2]) rfl ?_
        exact qAddPost.no (by simp [addB, addOk, h1]) (hi.ext.drewN _)
      cases h2 : inQ s.a
      · go_wp2_with fail
        go_quiet ((go_at_call 71; exact Calls.quiet_of_same (qInE _ _)))
        go_wp2_with fail
        refine bodyPost_ret (v := .tuple #[.agg #[.int .i64 0, .int .i64 0, .int .i64 0], .bool false]) (by simp [results, Tryz.results39, go_sem, o0, o1, o2]) rfl ?_
        exact qAddPost.no (by simp [addB, addOk, h2]) (hi.ext.drewN _)
      obtain ⟨b1, b2⟩ := inQ_bd h1
      obtain ⟨b3, b4⟩ := inQ_bd h2
      have s1 : IntKind.i64.wrap (4611686018427387904 - s.a) = 4611686018427387904 - s.a := IntWalk.i64_in _ (by omega)
      by_cases h3 : 4611686018427387904 - s.a < r.a
      · go_wp2_with fail
        go_quiet ((go_at_call 71; exact Calls.quiet_of_same (qInE _ _)))
        go_wp2_with fail
        refine bodyPost_ret (v := .tuple #[.agg #[.int .i64 0, .int .i64 0, .int .i64 0], .bool false]) (by simp [results, Tryz.results39, go_sem, o0, o1, o2]) rfl ?_
        exact qAddPost.no (by simp [addB, addOk]; omega) (hi.ext.drewN _)
      have h3' : r.a ≤ 4611686018427387904 - s.a := by omega
      have s2 : IntKind.i64.wrap (r.a + s.a) = r.a + s.a := IntWalk.i64_in _ (by omega)
      go_wp2_with fail
      go_quiet ((go_at_call 71; exact Calls.quiet_of_same (qInE _ _)))
      go_wp2_with fail
      go_region
      go_wp2_with fail
      have ok : addOk r.a s.a = true := by simp [addOk, h1, h2]; omega
      go_roundw
      case rel => exact ⟨1, _, _, _, by omega, by go_num, (hi.drewN _).s0 _, ⟨ok, rfl, HST.out.2.1, HST.out.2.2⟩⟩
      case measure => simp [intOf]
    · have HST := Lib.hid hst
      clear hst
      cases h1 : inQ r.b
      · go_wp2_with fail
        go_quiet ((go_at_call 71; exact Calls.quiet_of_same (qInE _ _)))
        go_wp2_with fail
        refine bodyPost_ret (v := .tuple #[.agg #[.int .i64 0, .int .i64 0, .int .i64 0], .bool false]) (by simp [results, Tryz.results39, go_sem, o0, o1, o2]) rfl ?_
        exact qAddPost.no (by simp [addB, addOk, h1]) (hi.ext.drewN _)
      cases h2 : inQ s.b
      · go_wp2_with fail
        go_quiet ((go_at_call 71; exact Calls.quiet_of_same (qInE _ _)))
        go_wp2_with fail
        refine bodyPost_ret (v := .tuple #[.agg #[.int .i64 0, .int .i64 0, .int .i64 0], .bool false]) (by simp [results, Tryz.results39, go_sem, o0, o1, o2]) rfl ?_
        exact qAddPost.no (by simp [addB, addOk, h2]) (hi.ext.drewN _)
      obtain ⟨b1, b2⟩ := inQ_bd h1
      obtain ⟨b3, b4⟩ := inQ_bd h2
      have s1 : IntKind.i64.wrap (4611686018427387904 - s.b) = 4611686018427387904 - s.b := IntWalk.i64_in _ (by omega)
      by_cases h3 : 4611686018427387904 - s.b < r.b
      · go_wp2_with fail
        go_quiet ((go_at_call 71; exact Calls.quiet_of_same (qInE _ _)))
        go_wp2_with fail
        refine bodyPost_ret (v := .tuple #[.agg #[.int .i64 0, .int .i64 0, .int .i64 0], .bool false]) (by simp [results, Tryz.results39, go_sem, o0, o1, o2]) rfl ?_
        exact qAddPost.no (by simp [addB, addOk]; omega) (hi.ext.drewN _)
      have h3' : r.b ≤ 4611686018427387904 - s.b := by omega
      have s2 : IntKind.i64.wrap (r.b + s.b) = r.b + s.b := IntWalk.i64_in _ (by omega)
      go_wp2_with fail
      go_quiet ((go_at_call 71; exact Calls.quiet_of_same (qInE _ _)))
      go_wp2_with fail
      go_region
      go_wp2_with fail
      have ok : addOk r.b s.b = true := by simp [addOk, h1, h2]; omega
      go_roundw
      case rel => exact ⟨2, _, _, _, by omega, by go_num, (hi.drewN _).s1 _, ⟨HST.out.1, ok, HST.out.2.1, rfl, HST.out.2.2.2⟩⟩
      case measure => simp [intOf]
    · have HST := Lib.hid hst
      clear hst
      cases h1 : inQ r.c
      · go_wp2_with fail
        go_quiet ((go_at_call 71; exact Calls.quiet_of_same (qInE _ _)))
        go_wp2_with fail
        refine bodyPost_ret (v := .tuple #[.agg #[.int .i64 0, .int .i64 0, .int .i64 0], .bool false]) (by simp [results, Tryz.results39, go_sem, o0, o1, o2]) rfl ?_
        exact qAddPost.no (by simp [addB, addOk, h1]) (hi.ext.drewN _)
      cases h2 : inQ s.c
      · go_wp2_with fail
        go_quiet ((go_at_call 71; exact Calls.quiet_of_same (qInE _ _)))
        go_wp2_with fail
        refine bodyPost_ret (v := .tuple #[.agg #[.int .i64 0, .int .i64 0, .int .i64 0], .bool false]) (by simp [results, Tryz.results39, go_sem, o0, o1, o2]) rfl ?_
        exact qAddPost.no (by simp [addB, addOk, h2]) (hi.ext.drewN _)
      obtain ⟨b1, b2⟩ := inQ_bd h1
      obtain ⟨b3, b4⟩ := inQ_bd h2
      have s1 : IntKind.i64.wrap (4611686018427387904 - s.c) = 4611686018427387904 - s.c := IntWalk.i64_in _ (by omega)
      by_cases h3 : 4611686018427387904 - s.c < r.c
      · go_wp2_with fail
        go_quiet ((go_at_call 71; exact Calls.quiet_of_same (qInE _ _)))
        go_wp2_with fail
        refine bodyPost_ret (v := .tuple #[.agg #[.int .i64 0, .int .i64 0, .int .i64 0], .bool false]) (by simp [results, Tryz.results39, go_sem, o0, o1, o2]) rfl ?_
        exact qAddPost.no (by simp [addB, addOk]; omega) (hi.ext.drewN _)
      have h3' : r.c ≤ 4611686018427387904 - s.c := by omega
      have s2 : IntKind.i64.wrap (r.c + s.c) = r.c + s.c := IntWalk.i64_in _ (by omega)
      go_wp2_with fail
      go_quiet ((go_at_call 71; exact Calls.quiet_of_same (qInE _ _)))
      go_wp2_with fail
      go_region
      go_wp2_with fail
      have ok : addOk r.c s.c = true := by simp [addOk, h1, h2]; omega
      go_roundw
      case rel => exact ⟨3, _, _, _, by omega, by go_num, (hi.drewN _).s2 _, ⟨HST.out.1, HST.out.2.1, ok, HST.out.2.2.1, HST.out.2.2.2.1, rfl⟩⟩
      case measure => simp [intOf]
    · obtain ⟨k1, k2, k3, rfl, rfl, rfl⟩ := hst
      have HB : Hid (addB r s = true) := by show _ = _; simp [addB, k1, k2, k3]
      clear k1 k2 k3
      go_wp2_with fail
      refine bodyPost_ret (v := .tuple #[.agg #[.int .i64 (r.a + s.a), .int .i64 (r.b + s.b), .int .i64 (r.c + s.c)], .bool true]) (by simp [results, Tryz.results39, go_sem, o0, o1, o2]) rfl ?_
      exact qAddPost.yes HB.out hi.ext
end Go.Proofs.YthfafenigjldlaaGreat

/-
  The walks of package qty: Sub.
-/
namespace Go.Proofs.YthfafenigjldlaaGreat
open Go.RowKit
set_option linter.unusedVariables false


def qSubSt (r s : Rs) : Nat → Int → Int → Int → Prop
  | 0, x, y, z => x = 0 ∧ y = 0 ∧ z = 0
  | 1, x, y, z => subOk r.a s.a = true ∧ x = r.a - s.a ∧ y = 0 ∧ z = 0
  | 2, x, y, z => subOk r.a s.a = true ∧ subOk r.b s.b = true ∧ x = r.a - s.a ∧ y = r.b - s.b ∧ z = 0
  | _, x, y, z => subOk r.a s.a = true ∧ subOk r.b s.b = true ∧ subOk r.c s.c = true ∧ x = r.a - s.a ∧ y = r.b - s.b ∧ z = r.c - s.c
def qSubPost (r s : Rs) (w : World) (e : Ending) (w' : World) : Prop :=
  e = .returned (.tuple #[.agg #[.int .i64 (subV r s).a, .int .i64 (subV r s).b, .int .i64 (subV r s).c], .bool (subB r s)]) ∧ Ext w w'
theorem qSubPost.no {r s : Rs} {w wr : World} {u v t : Value} (h : subB r s = false) (he : Ext w wr) :
    qSubPost r s w (.returned (.tuple #[.agg #[.int .i64 0, .int .i64 0, .int .i64 0], .bool false]))
      (((wr.setCell ⟨w.heap.size + 2, 0, none⟩ u).setCell ⟨w.heap.size + 2, 1, none⟩ v).setCell ⟨w.heap.size + 2, 2, none⟩ t) :=
  ⟨by simp [subV, h, zeroR], ((he.setCell (by simp) _).setCell (by simp) _).setCell (by simp) _⟩
theorem qSubPost.yes {r s : Rs} {w wr : World} {u v t : Value} (h : subB r s = true) (he : Ext w wr) :
    qSubPost r s w (.returned (.tuple #[.agg #[.int .i64 (r.a - s.a), .int .i64 (r.b - s.b), .int .i64 (r.c - s.c)], .bool true]))
      (((wr.setCell ⟨w.heap.size + 2, 0, none⟩ u).setCell ⟨w.heap.size + 2, 1, none⟩ v).setCell ⟨w.heap.size + 2, 2, none⟩ t) :=
  ⟨by simp [subV, h], ((he.setCell (by simp) _).setCell (by simp) _).setCell (by simp) _⟩

set_option maxHeartbeats 2000000 in
set_option maxRecDepth 10000 in
theorem qSub_any (r s : Rs) (w : World) : Calls Tryz.prog 40 #[.agg #[.int .i64 r.a, .int .i64 r.b, .int .i64 r.c], .agg #[.int .i64 s.a, .int .i64 s.b, .int .i64 s.c]] w (qSubPost r s w) := by
  go_enter Tryz.func40, Tryz.ntmps40
  go_wp2_with fail
  go_loopw [8] (fun i wr => ∃ (k : Nat) (x y z : Int), k ≤ 3 ∧ i = .int .i64 k ∧ AddInv w wr r s x y z ∧ qSubSt r s k x y z) (fun i _ => 3 - (intOf i).toNat)
  case atStart => exact ⟨0, 0, 0, 0, by omega, rfl, AddInv.start w r s, rfl, rfl, rfl⟩
  case round =>
    obtain ⟨k, x, y, z, hk, rfl, hi, hst⟩ := hrel
    have c0 := hi.ar.c0; have c1 := hi.ar.c1; have c2 := hi.ar.c2
    have d0 := hi.asx.c0; have d1 := hi.asx.c1; have d2 := hi.asx.c2
    have o0 := hi.ao.c0; have o1 := hi.ao.c1; have o2 := hi.ao.c2
    have oz0 := hi.ao.fr 0; have oz1 := hi.ao.fr 1; have oz2 := hi.ao.fr 2
    have g0 := hi.ac.c0; have g1 := hi.ac.c1; have g2 := hi.ac.c2
    have gz0 := hi.ac.fr 0; have gz1 := hi.ac.fr 1; have gz2 := hi.ac.fr 2
    rcases (show k = 0 ∨ k = 1 ∨ k = 2 ∨ k = 3 by omega) with rfl | rfl | rfl | rfl
    · have HST := Lib.hid hst
      clear hst
      cases h1 : inQ r.a
      · go_wp2_with fail
        go_quiet ((go_at_call 71; exact Calls.quiet_of_same (qInE _ _)))
        go_wp2_with fail
        refine bodyPost_ret (v := .tuple #[.agg #[.int .i64 0, .int .i64 0, .int .i64 0], .bool false]) (by simp [results, Tryz.results40, go_sem, o0, o1, o2]) rfl ?_
        exact qSubPost.no (by simp [subB, subOk, h1]) (hi.ext.drewN _)
      cases h2 : inQ s.a
      · go_wp2_with fail
        go_quiet ((go_at_call 71; exact Calls.quiet_of_same (qInE _ _)))
        go_wp2_with fail
        refine bodyPost_ret (v := .tuple #[.agg #[.int .i64 0, .int .i64 0, .int .i64 0], .bool false]) (by simp [results, Tryz.results40, go_sem, o0, o1, o2]) rfl ?_
        exact qSubPost.no (by simp [subB, subOk, h2]) (hi.ext.drewN _)
      obtain ⟨b1, b2⟩ := inQ_bd h1
      obtain ⟨b3, b4⟩ := inQ_bd h2
      have s1 : IntKind.i64.wrap (4611686018427387904 - s.a) = 4611686018427387904 - s.a := IntWalk.i64_in _ (by omega)
      by_cases h3 : r.a < s.a
      · go_wp2_with fail
        go_quiet ((go_at_call 71; exact Calls.quiet_of_same (qInE _ _)))
        go_wp2_with fail
        refine bodyPost_ret (v := .tuple #[.agg #[.int .i64 0, .int .i64 0, .int .i64 0], .bool false]) (by simp [results, Tryz.results40, go_sem, o0, o1, o2]) rfl ?_
        exact qSubPost.no (by simp [subB, subOk]; omega) (hi.ext.drewN _)
      have h3' : s.a ≤ r.a := by omega
      have s2 : IntKind.i64.wrap (r.a - s.a) = r.a - s.a := IntWalk.i64_in _ (by omega)
      go_wp2_with fail
      go_quiet ((go_at_call 71; exact Calls.quiet_of_same (qInE _ _)))
      go_wp2_with fail
      go_region
      go_wp2_with fail
      have ok : subOk r.a s.a = true := by simp [subOk, h1, h2]; omega
      go_roundw
      case rel => exact ⟨1, _, _, _, by omega, by go_num, (hi.drewN _).s0 _, ⟨ok, rfl, HST.out.2.1, HST.out.2.2⟩⟩
      case measure => simp [intOf]
    · have HST := Lib.hid hst
      clear hst
      cases h1 : inQ r.b
      · go_wp2_with fail
        go_quiet ((go_at_call 71; exact Calls.quiet_of_same (qInE _ _)))
        go_wp2_with fail
        refine bodyPost_ret (v := .tuple #[.agg #[.int .i64 0, .int .i64 0, .int .i64 0], .bool false]) (by simp [results, Tryz.results40, go_sem, o0, o1, o2]) rfl ?_
        exact qSubPost.no (by simp [subB, subOk, h1]) (hi.ext.drewN _)
      cases h2 : inQ s.b
      · go_wp2_with fail
        go_quiet ((go_at_call 71; exact Calls.quiet_of_same (qInE _ _)))
        go_wp2_with fail
        refine bodyPost_ret (v := .tuple #[.agg #[.int .i64 0, .int .i64 0, .int .i64 0], .bool false]) (by simp [results, Tryz.results40, go_sem, o0, o1, o2]) rfl ?_
        exact qSubPost.no (by simp [subB, subOk, h2]) (hi.ext.drewN _)
      obtain ⟨b1, b2⟩ := inQ_bd h1
      obtain ⟨b3, b4⟩ := inQ_bd h2
      have s1 : IntKind.i64.wrap (4611686018427387904 - s.b) = 4611686018427387904 - s.b := IntWalk.i64_in _ (by omega)
      by_cases h3 : r.b < s.b
      · go_wp2_with fail
        go_quiet ((go_at_call 71; exact Calls.quiet_of_same (qInE _ _)))
        go_wp2_with fail
        refine bodyPost_ret (v := .tuple #[.agg #[.int .i64 0, .int .i64 0, .int .i64 0], .bool false]) (by simp [results, Tryz.results40, go_sem, o0, o1, o2]) rfl ?_
        exact qSubPost.no (by simp [subB, subOk]; omega) (hi.ext.drewN _)
      have h3' : s.b ≤ r.b := by omega
      have s2 : IntKind.i64.wrap (r.b - s.b) = r.b - s.b := IntWalk.i64_in _ (by omega)
      go_wp2_with fail
      go_quiet ((go_at_call 71; exact Calls.quiet_of_same (qInE _ _)))
      go_wp2_with fail
      go_region
      go_wp2_with fail
      have ok : subOk r.b s.b = true := by simp [subOk, h1, h2]; omega
      go_roundw
      case rel => exact ⟨2, _, _, _, by omega, by go_num, (hi.drewN _).s1 _, ⟨HST.out.1, ok, HST.out.2.1, rfl, HST.out.2.2.2⟩⟩
      case measure => simp [intOf]
    · have HST := Lib.hid hst
      clear hst
      cases h1 : inQ r.c
      · go_wp2_with fail
        go_quiet ((go_at_call 71; exact Calls.quiet_of_same (qInE _ _)))
        go_wp2_with fail
        refine bodyPost_ret (v := .tuple #[.agg #[.int .i64 0, .int .i64 0, .int .i64 0], .bool false]) (by simp [results, Tryz.results40, go_sem, o0, o1, o2]) rfl ?_
        exact qSubPost.no (by simp [subB, subOk, h1]) (hi.ext.drewN _)
      cases h2 : inQ s.c
      · go_wp2_with fail
        go_quiet ((go_at_call 71; exact Calls.quiet_of_same (qInE _ _)))
        go_wp2_with fail
        refine bodyPost_ret (v := .tuple #[.agg #[.int .i64 0, .int .i64 0, .int .i64 0], .bool false]) (by simp [results, Tryz.results40, go_sem, o0, o1, o2]) rfl ?_
        exact qSubPost.no (by simp [subB, subOk, h2]) (hi.ext.drewN _)
      obtain ⟨b1, b2⟩ := inQ_bd h1
      obtain ⟨b3, b4⟩ := inQ_bd h2
      have s1 : IntKind.i64.wrap (4611686018427387904 - s.c) = 4611686018427387904 - s.c := IntWalk.i64_in _ (by omega)
      by_cases h3 : r.c < s.c
      · go_wp2_with fail
        go_quiet ((go_at_call 71; exact Calls.quiet_of_same (qInE _ _)))
        go_wp2_with fail
        refine bodyPost_ret (v := .tuple #[.agg #[.int .i64 0, .int .i64 0, .int .i64 0], .bool false]) (by simp [results, Tryz.results40, go_sem, o0, o1, o2]) rfl ?_
        exact qSubPost.no (by simp [subB, subOk]; omega) (hi.ext.drewN _)
      have h3' : s.c ≤ r.c := by omega
      have s2 : IntKind.i64.wrap (r.c - s.c) = r.c - s.c := IntWalk.i64_in _ (by omega)
      go_wp2_with fail
      go_quiet ((go_at_call 71; exact Calls.quiet_of_same (qInE _ _)))
      go_wp2_with fail
      go_region
      go_wp2_with fail
      have ok : subOk r.c s.c = true := by simp [subOk, h1, h2]; omega
      go_roundw
      case rel => exact ⟨3, _, _, _, by omega, by go_num, (hi.drewN _).s2 _, ⟨HST.out.1, HST.out.2.1, ok, HST.out.2.2.1, HST.out.2.2.2.1, rfl⟩⟩
      case measure => simp [intOf]
    · obtain ⟨k1, k2, k3, rfl, rfl, rfl⟩ := hst
      have HB : Hid (subB r s = true) := by show _ = _; simp [subB, k1, k2, k3]
      clear k1 k2 k3
      go_wp2_with fail
      refine bodyPost_ret (v := .tuple #[.agg #[.int .i64 (r.a - s.a), .int .i64 (r.b - s.b), .int .i64 (r.c - s.c)], .bool true]) (by simp [results, Tryz.results40, go_sem, o0, o1, o2]) rfl ?_
      exact qSubPost.yes HB.out hi.ext
end Go.Proofs.YthfafenigjldlaaGreat

/-
  The walk of qty.Sum.
-/
namespace Go.Proofs.YthfafenigjldlaaGreat
open Go.RowKit
set_option linter.unusedVariables false

def sumV (xs : List Rs) : Rs := (sumO zeroR xs).getD zeroR
def sumB (xs : List Rs) : Bool := (sumO zeroR xs).isSome
def SumPost (xs : List Rs) (w : World) (e : Ending) (w' : World) : Prop :=
  e = .returned (.tuple #[.agg #[.int .i64 (sumV xs).a, .int .i64 (sumV xs).b, .int .i64 (sumV xs).c], .bool (sumB xs)]) ∧ Ext w w'

theorem Ext.set3 {w wr : World} {g : Nat} (he : Ext w wr) (hg : w.heap.size ≤ g) (u v t : Value) :
    Ext w (((wr.setCell ⟨g, 0, none⟩ u).setCell ⟨g, 1, none⟩ v).setCell ⟨g, 2, none⟩ t) := ((he.setCell hg _).setCell hg _).setCell hg _
theorem Arr3.set3 {wr : World} {g : Nat} {a b c : Int} (h : Arr3 wr g a b c) (u v t : Int) :
    Arr3 (((wr.setCell ⟨g, 0, none⟩ (.int .i64 u)).setCell ⟨g, 1, none⟩ (.int .i64 v)).setCell ⟨g, 2, none⟩ (.int .i64 t)) g u v t := ((h.s0 u).s1 v).s2 t
theorem Arr3.far3 {wr : World} {g g' : Nat} {a b c : Int} (h : Arr3 wr g a b c) (hg : g ≠ g') (u v t : Value) :
    Arr3 (((wr.setCell ⟨g', 0, none⟩ u).setCell ⟨g', 1, none⟩ v).setCell ⟨g', 2, none⟩ t) g a b c := ((h.far hg u).far hg v).far hg t

set_option maxHeartbeats 1000000 in
theorem qSum_any (A : Option Addr) (c : Nat) (xs : List Rs) (w : World) (hn : xs.length ≤ maxLen) (hx : Sl RRes 3 w A xs) :
    Calls Tryz.prog 42 #[.slice A xs.length c] w (SumPost xs w) := by
  unfold maxLen at hn
  have HX := Lib.hid hx
  clear hx
  go_enter Tryz.func42, Tryz.ntmps42
  go_wp2_with fail
  go_loopw [11] (fun i wr => ∃ (k : Nat) (s : Rs), k ≤ xs.length ∧ i = .int .i64 k ∧ Ext w wr ∧ Arr3 wr w.heap.size 0 0 0 ∧ Arr3 wr (w.heap.size + 1) s.a s.b s.c ∧ Hid (sumO zeroR xs = sumO s (xs.drop k))) (fun i _ => xs.length - (intOf i).toNat)
  case atStart => exact ⟨0, zeroR, by omega, rfl, ((Ext.refl _).alloc _).alloc _, (Arr3.new _ _ _ _).alloc _, by show Arr3 _ _ 0 0 0; simpa using Arr3.new (w.alloc _) 0 0 0, rfl⟩
  case round =>
    obtain ⟨k, s, hk, rfl, he, hr, hs, hd⟩ := hrel
    have o0 := hr.c0; have o1 := hr.c1; have o2 := hr.c2
    have oz0 := hr.fr 0; have oz1 := hr.fr 1; have oz2 := hr.fr 2
    have hsz : w.heap.size + 1 < wr.heap.size := by have := cell_lt hs.c0; simpa using this
    have c0 := hs.c0; have c1 := hs.c1; have c2 := hs.c2
    have gz0 := hs.fr 0; have gz1 := hs.fr 1; have gz2 := hs.fr 2
    by_cases hlt : k < xs.length
    · obtain ⟨b, o, x, hA, hxk, ok1, d0, d1, d2⟩ := (HX.out.ext RRes.keeps he).res hlt
      have hstep := Lib.hid (sumO_at (s := s) hxk)
      subst hA
      clear hxk HX
      go_wp2_with fail
      refine (qAdd_any s x _).mono ?_
      rintro e w1 ⟨rfl, he1⟩
      have hr1 := (hr.alloc _).ext he1
      have hs1 := (hs.alloc _).ext he1
      have he2 := Lib.hid ((he.alloc _).trans he1)
      have hsz1 : w.heap.size + 1 < w1.heap.size := by have := cell_lt hs1.c0; simpa using this
      have hsz2 : w.heap.size < w1.heap.size := by omega
      clear d0 d1 d2 o0 o1 o2 oz0 oz1 oz2 c0 c1 c2 gz0 gz1 gz2 he1 hsz
      have o0 := hr1.c0; have o1 := hr1.c1; have o2 := hr1.c2
      have oz0 := hr1.fr 0; have oz1 := hr1.fr 1; have oz2 := hr1.fr 2
      have c0 := hs1.c0; have c1 := hs1.c1; have c2 := hs1.c2
      have gz0 := hs1.fr 0; have gz1 := hs1.fr 1; have gz2 := hs1.fr 2
      cases hp : addB s x
      · go_wp2_with fail
        refine bodyPost_ret (v := .tuple #[.agg #[.int .i64 0, .int .i64 0, .int .i64 0], .bool false]) (by simp [results, Tryz.results42, go_sem, o0, o1, o2, hsz2]) rfl ?_
        have e1 : Hid (sumO zeroR xs = none) := by show _ = _; rw [hd.out, hstep.out, hp]; rfl
        exact ⟨by unfold sumV sumB; rw [e1.out]; rfl, (Ext.set3 he2.out (by simp) _ _ _).alloc _⟩
      · go_wp2_with fail
        go_roundw
        case rel => exact ⟨k + 1, addV s x, by omega, by go_num, (Ext.set3 he2.out (by simp) _ _ _).alloc _, (hr1.far3 (by simp) _ _ _).alloc _, (hs1.set3 _ _ _).alloc _, by show _ = _; rw [hd.out, hstep.out, hp]; rfl⟩
        case measure => simp [intOf]; omega
    · go_wp2_with fail
      have e1 : Hid (sumO zeroR xs = some s) := by show _ = _; rw [hd.out, drop_all (by omega)]; rfl
      refine bodyPost_ret (v := .tuple #[.agg #[.int .i64 s.a, .int .i64 s.b, .int .i64 s.c], .bool true]) (by simp [results, Tryz.results42, go_sem, o0, o1, o2]) rfl ?_
      exact ⟨by unfold sumV sumB; rw [e1.out]; rfl, he.set3 (by simp) _ _ _⟩
end Go.Proofs.YthfafenigjldlaaGreat
