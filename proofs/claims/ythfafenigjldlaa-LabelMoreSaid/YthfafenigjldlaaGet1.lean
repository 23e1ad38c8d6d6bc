/-
  The walks of package code: what is got: amounts.
-/
import Derived.Test.YthfafenigjldlaaPut5
namespace Go.Proofs.Ythfafenigjldlaa
open Go.RowKit
set_option linter.unusedVariables false

def resF (bs : List UInt8) (bad : Bool) : Rs × List UInt8 × Bool :=
  (⟨(numF 4 bs bad).1, (numF 4 (numF 4 bs bad).2.1 (numF 4 bs bad).2.2).1, (numF 4 (numF 4 (numF 4 bs bad).2.1 (numF 4 bs bad).2.2).2.1 (numF 4 (numF 4 bs bad).2.1 (numF 4 bs bad).2.2).2.2).1⟩,
    (numF 4 (numF 4 (numF 4 bs bad).2.1 (numF 4 bs bad).2.2).2.1 (numF 4 (numF 4 bs bad).2.1 (numF 4 bs bad).2.2).2.2).2)
def rS (bs : List UInt8) (bad : Bool) : Nat → List UInt8 × Bool
  | 0 => (bs, bad)
  | k + 1 => (numF 4 (rS bs bad k).1 (rS bs bad k).2).2
def rV (bs : List UInt8) (bad : Bool) (k : Nat) : Int := (numF 4 (rS bs bad k).1 (rS bs bad k).2).1
def rX (bs : List UInt8) (bad : Bool) (k j : Nat) : Int := if j < k then rV bs bad j else 0
def RRPost (g : Nat) (ph : Bool) (r : Rs × List UInt8 × Bool) (w : World) (e : Ending) (w' : World) : Prop :=
  e = .returned (.agg #[.int .i64 r.1.a, .int .i64 r.1.b, .int .i64 r.1.c]) ∧ Keep (fun k => k = g) w w' ∧ Rd w' g ph r.2.1 r.2.2
theorem Rd.lt {w : World} {g : Nat} {ph : Bool} {bs : List UInt8} {bad : Bool} (h : Rd w g ph bs bad) : g < w.heap.size := by
  obtain ⟨cs, A, c, h1, _⟩ := h.rd
  exact h1.lt
theorem Arr3.keep {w w' : World} {g h : Nat} {x y z : Int} (a : Arr3 w h x y z) (hk : Keep (fun k => k = g) w w') (hne : h ≠ g) : Arr3 w' h x y z := by
  have hl : h < w.heap.size := by
    rcases Nat.lt_or_ge h w.heap.size with hl | hl
    · exact hl
    · unfold Arr3 at a; rw [Array.getElem?_eq_none hl] at a; cases a
  exact (hk.block h hl hne).trans a

theorem Keep.setNew {S : Nat → Prop} {a w : World} (h : Keep S a w) {p : Addr} (hp : a.heap.size ≤ p.block) (u : Value) : Keep S a (w.setCell p u) :=
  ⟨h.os, h.tape, h.output, by simpa [World.setCell] using h.size, fun k hk hs => (Below.heap_setCell _ _ _ _ (by omega)).trans (h.block k hk hs)⟩
theorem Arr3.ints {w : World} {m o : Nat} {x y z : Int} (a : Arr3 w m x y z) {v : Value} (h : w.cell? ⟨m, o, none⟩ = some v) : ∃ n, v = .int .i64 n := by
  unfold Arr3 at a
  simp only [World.cell?, a] at h
  match o, h with
  | 0, h => exact ⟨x, by simpa using h.symm⟩
  | 1, h => exact ⟨y, by simpa using h.symm⟩
  | 2, h => exact ⟨z, by simpa using h.symm⟩
  | o + 3, h => simp at h
theorem Rd.setArr {w : World} {g m : Nat} {ph : Bool} {bs : List UInt8} {bad : Bool} {x y z : Int} (h : Rd w g ph bs bad) (a : Arr3 w m x y z) (hne : m ≠ g) (j : Nat) (u : Value) : Rd (w.setCell ⟨m, j, none⟩ u) g ph bs bad := by
  obtain ⟨cs, A, c, h1, h2, h3, h4, h5, h6, h7⟩ := h.rd
  refine ⟨h.len, cs, A, c, h1.far (fun e => hne e.symm) u, h2, h3, h4, h5, h6, fun h0 => ?_⟩
  obtain ⟨b, o, e, hb, hc, cur, hcur⟩ := h7 h0
  have hbm : b ≠ m := by
    rintro rfl
    unfold Arr3 at a
    rw [hcur] at a
    injection a with a
    injection a with _ a
    exact absurd a (by decide)
  refine ⟨b, o, e, hb, fun i y hy => ?_, cur, (Below.heap_setCell _ _ _ _ hbm).trans hcur⟩
  rw [World.cell?_setCell_other _ _ _ _ (fun e => hbm (congrArg Addr.block e).symm)]
  exact hc i y hy
theorem Rd.setArr' {w : World} {g m : Nat} {ph : Bool} {r : List UInt8 × Bool} {x y z : Int} (h : Rd w g ph r.1 r.2) (a : Arr3 w m x y z) (hne : m ≠ g) (j : Nat) (u : Value) : Rd (w.setCell ⟨m, j, none⟩ u) g ph r.1 r.2 := h.setArr a hne j u
theorem resF_r (bs : List UInt8) (bad : Bool) : resF bs bad = (⟨rX bs bad 3 0, rX bs bad 3 1, rX bs bad 3 2⟩, rS bs bad 3) := rfl

set_option maxHeartbeats 1000000 in
theorem getRes_any (g : Nat) (ph : Bool) (bs : List UInt8) (bad : Bool) (w : World) (hr : Rd w g ph bs bad) :
    Calls Try.prog 45 #[.pointer (some ⟨g, 0, none⟩)] w (RRPost g ph (resF bs bad) w) := by
  have hg := hr.lt
  have HG := Lib.hid hg
  have HR0 := Lib.hid hr
  clear hr hg
  go_enter Try.func45, Try.ntmps45
  go_wp2_with fail
  obtain ⟨n, hn⟩ : ∃ n, n = w.heap.size := ⟨_, rfl⟩
  have HA : Hid (∃ W1, W1 = ((w.alloc (.cells #[.int .i64 0, .int .i64 0, .int .i64 0] 50)).alloc (.cells #[.int .i64 0, .int .i64 0, .int .i64 0] 50)) ∧ Keep (fun k => k = g) w W1 ∧ Rd W1 g ph bs bad ∧ Arr3 W1 n 0 0 0 ∧ Arr3 W1 (n + 1) 0 0 0) := by
    refine ⟨_, rfl, ((Keep.refl _ _).alloc _).alloc _, HR0.out.other (((Ext.refl _).alloc _).alloc _), ?_, ?_⟩
    · rw [hn]; exact (Arr3.new w 0 0 0).alloc _
    · rw [hn]; simpa using Arr3.new (w.alloc (.cells #[.int .i64 0, .int .i64 0, .int .i64 0] 50)) 0 0 0
  obtain ⟨W1, hW, kp, rd, aa, ab⟩ := HA.out
  rw [← hn, ← hW]
  have HN0 : Hid (n ≠ g) := by have := HG.out; show n ≠ g; omega
  have HN1 : Hid (n + 1 ≠ g) := by have := HG.out; show n + 1 ≠ g; omega
  have HNS0 : Hid (w.heap.size ≤ n) := by show _ ≤ _; omega
  have HNS : Hid (w.heap.size ≤ n + 1) := by show _ ≤ _; omega
  clear hn hW HA HR0 HG
  go_loopw [5] (fun i wr => ∃ k : Nat, k ≤ 3 ∧ i = .int .i64 k ∧ Keep (fun k => k = g) w wr ∧ Rd wr g ph (rS bs bad k).1 (rS bs bad k).2 ∧ Arr3 wr n 0 0 0 ∧ Arr3 wr (n + 1) (rX bs bad k 0) (rX bs bad k 1) (rX bs bad k 2)) (fun i _ => 3 - (intOf i).toNat)
  case atStart => exact ⟨0, by omega, rfl, kp, rd, aa, ab⟩
  case round =>
    obtain ⟨k, hk, rfl, hkp, hrd, a0, a1⟩ := hrel
    rcases (show k = 0 ∨ k = 1 ∨ k = 2 ∨ k = 3 by omega) with rfl | rfl | rfl | rfl
    · go_wp2_with fail
      refine (rdNumI g ph _ _ 4 _ (by omega) (by omega) hrd).mono ?_
      rintro e w1 ⟨rfl, k1, r1⟩
      have a2 := a1.keep k1 HN1.out
      have c0 := a2.c0
      have z0 := a2.fr 0
      have FIN : Hid (∀ u, u = rV bs bad 0 → Keep (fun k => k = g) w (w1.setCell ⟨n + 1, 0, none⟩ (.int .i64 u)) ∧ Rd (w1.setCell ⟨n + 1, 0, none⟩ (.int .i64 u)) g ph (rS bs bad 1).1 (rS bs bad 1).2 ∧ Arr3 (w1.setCell ⟨n + 1, 0, none⟩ (.int .i64 u)) n 0 0 0 ∧ Arr3 (w1.setCell ⟨n + 1, 0, none⟩ (.int .i64 u)) (n + 1) (rX bs bad 1 0) (rX bs bad 1 1) (rX bs bad 1 2)) := fun u hu =>
        ⟨(hkp.trans k1).setNew HNS.out _, Rd.setArr r1 a2 HN1.out _ _, (a0.keep k1 HN0.out).far (by simp) _, by subst hu; exact a2.s0 _⟩
      clear r1 k1 a2 a1 hrd hkp a0
      go_wp2_with fail
      go_roundw
      case rel => exact ⟨1, by omega, by go_num, FIN.out _ rfl⟩
      case measure => simp [intOf]
    · go_wp2_with fail
      refine (rdNumI g ph _ _ 4 _ (by omega) (by omega) hrd).mono ?_
      rintro e w1 ⟨rfl, k1, r1⟩
      have a2 := a1.keep k1 HN1.out
      have c1 := a2.c1
      have z1 := a2.fr 1
      have FIN : Hid (∀ u, u = rV bs bad 1 → Keep (fun k => k = g) w (w1.setCell ⟨n + 1, 1, none⟩ (.int .i64 u)) ∧ Rd (w1.setCell ⟨n + 1, 1, none⟩ (.int .i64 u)) g ph (rS bs bad 2).1 (rS bs bad 2).2 ∧ Arr3 (w1.setCell ⟨n + 1, 1, none⟩ (.int .i64 u)) n 0 0 0 ∧ Arr3 (w1.setCell ⟨n + 1, 1, none⟩ (.int .i64 u)) (n + 1) (rX bs bad 2 0) (rX bs bad 2 1) (rX bs bad 2 2)) := fun u hu =>
        ⟨(hkp.trans k1).setNew HNS.out _, Rd.setArr r1 a2 HN1.out _ _, (a0.keep k1 HN0.out).far (by simp) _, by subst hu; exact a2.s1 _⟩
      clear r1 k1 a2 a1 hrd hkp a0
      go_wp2_with fail
      go_roundw
      case rel => exact ⟨2, by omega, by go_num, FIN.out _ rfl⟩
      case measure => simp [intOf]
    · go_wp2_with fail
      refine (rdNumI g ph _ _ 4 _ (by omega) (by omega) hrd).mono ?_
      rintro e w1 ⟨rfl, k1, r1⟩
      have a2 := a1.keep k1 HN1.out
      have c2 := a2.c2
      have z2 := a2.fr 2
      have FIN : Hid (∀ u, u = rV bs bad 2 → Keep (fun k => k = g) w (w1.setCell ⟨n + 1, 2, none⟩ (.int .i64 u)) ∧ Rd (w1.setCell ⟨n + 1, 2, none⟩ (.int .i64 u)) g ph (rS bs bad 3).1 (rS bs bad 3).2 ∧ Arr3 (w1.setCell ⟨n + 1, 2, none⟩ (.int .i64 u)) n 0 0 0 ∧ Arr3 (w1.setCell ⟨n + 1, 2, none⟩ (.int .i64 u)) (n + 1) (rX bs bad 3 0) (rX bs bad 3 1) (rX bs bad 3 2)) := fun u hu =>
        ⟨(hkp.trans k1).setNew HNS.out _, Rd.setArr r1 a2 HN1.out _ _, (a0.keep k1 HN0.out).far (by simp) _, by subst hu; exact a2.s2 _⟩
      clear r1 k1 a2 a1 hrd hkp a0
      go_wp2_with fail
      go_roundw
      case rel => exact ⟨3, by omega, by go_num, FIN.out _ rfl⟩
      case measure => simp [intOf]
    · have a2 := a1
      have c0 := a1.c0; have c1 := a1.c1; have c2 := a1.c2
      have d0 := a0.c0; have d1 := a0.c1; have d2 := a0.c2
      have e0 := a0.fr 0; have e1 := a0.fr 1; have e2 := a0.fr 2
      go_wp2_with fail
      have f := ((a0.s0 (rX bs bad 3 0)).s1 (rX bs bad 3 1)).s2 (rX bs bad 3 2)
      have FIN : Hid (RRPost g ph (resF bs bad) w (.returned (.agg #[.int .i64 (rX bs bad 3 0), .int .i64 (rX bs bad 3 1), .int .i64 (rX bs bad 3 2)])) (((wr.setCell ⟨n, 0, none⟩ (.int .i64 (rX bs bad 3 0))).setCell ⟨n, 1, none⟩ (.int .i64 (rX bs bad 3 1))).setCell ⟨n, 2, none⟩ (.int .i64 (rX bs bad 3 2)))) := by
        rw [resF_r]
        exact ⟨rfl, ((hkp.setNew HNS0.out _).setNew HNS0.out _).setNew HNS0.out _, Rd.setArr' (Rd.setArr' (Rd.setArr' hrd a0 HN0.out 0 _) (a0.s0 _) HN0.out 1 _) ((a0.s0 _).s1 _) HN0.out 2 _⟩
      have f0 := f.c0; have f1 := f.c1; have f2 := f.c2
      clear hkp hrd a0 a1 a2 c0 c1 c2 d0 d1 d2 e0 e1 e2 f
      refine bodyPost_ret (v := .agg #[.int .i64 (rX bs bad 3 0), .int .i64 (rX bs bad 3 1), .int .i64 (rX bs bad 3 2)]) (by simp [results, Try.results45, go_sem, f0, f1, f2]) rfl ?_
      exact FIN.out
end Go.Proofs.Ythfafenigjldlaa
