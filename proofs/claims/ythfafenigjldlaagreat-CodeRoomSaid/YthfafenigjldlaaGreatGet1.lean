/-
  The walks of package code: what is got: amounts.
-/
import Derived.Test.YthfafenigjldlaaGreatPut4
namespace Go.Proofs.YthfafenigjldlaaGreat
open Go.RowKit
set_option linter.unusedVariables false

def resF (bs : List UInt8) (bad : Bool) : Rs × List UInt8 × Bool :=
  (⟨(numF 4 bs bad).1, (numF 4 (numF 4 bs bad).2.1 (numF 4 bs bad).2.2).1, (numF 4 (numF 4 (numF 4 bs bad).2.1 (numF 4 bs bad).2.2).2.1 (numF 4 (numF 4 bs bad).2.1 (numF 4 bs bad).2.2).2.2).1⟩,
    (numF 4 (numF 4 (numF 4 bs bad).2.1 (numF 4 bs bad).2.2).2.1 (numF 4 (numF 4 bs bad).2.1 (numF 4 bs bad).2.2).2.2).2)
def rS (bs : List UInt8) (bad : Bool) : Nat → List UInt8 × Bool
  | 0 => (bs, bad)
  | k + 1 => (numF 4 (rS bs bad k).1 (rS bs bad k).2).2
def rV (bs : List UInt8) (bad : Bool) (k : Nat) : Int := (numF 4 (rS bs bad k).1 (rS bs bad k).2).1
def rX (bs : List UInt8) (bad : Bool) (k j : Nat) : Int := if j < k then rV bs bad j else 0
def RRPost (g : Nat) (ph : Bool) (r : Rs × List UInt8 × Bool) (w : World) (e : Ending) (w' : World) : Prop :=
  e = .returned (.agg #[.int .i64 r.1.a, .int .i64 r.1.b, .int .i64 r.1.c]) ∧ Keep (fun k => k = g) w w' ∧ Rd w' g ph r.2.1 r.2.2
theorem Rd.lt {w : World} {g : Nat} {ph : Bool} {bs : List UInt8} {bad : Bool} (h : Rd w g ph bs bad) : g < w.heap.size := by
  obtain ⟨cs, A, c, h1, _⟩ := h.rd
  exact h1.lt
theorem Arr3.keep {w w' : World} {g h : Nat} {x y z : Int} (a : Arr3 w h x y z) (hk : Keep (fun k => k = g) w w') (hne : h ≠ g) : Arr3 w' h x y z := by
  have hl : h < w.heap.size := by
    rcases Nat.lt_or_ge h w.heap.size with hl | hl
    · exact hl
    · unfold Arr3 at a; rw [Array.getElem?_eq_none hl] at a; cases a
  exact (hk.block h hl hne).trans a

theorem Keep.setNew {S : Nat → Prop} {a w : World} (h : Keep S a w) {p : Addr} (hp : a.heap.size ≤ p.block) (u : Value) : Keep S a (w.setCell p u) :=
  ⟨h.os, h.tape, h.output, by simpa [World.setCell] using h.size, fun k hk hs => (Below.heap_setCell _ _ _ _ (by omega)).trans (h.block k hk hs)⟩
theorem Arr3.ints {w : World} {m o : Nat} {x y z : Int} (a : Arr3 w m x y z) {v : Value} (h : w.cell? ⟨m, o, none⟩ = some v) : ∃ n, v = .int .i64 n := by
  unfold Arr3 at a
  simp only [World.cell?, a] at h
  match o, h with
  | 0, h => exact ⟨x, by simpa using h.symm⟩
  | 1, h => exact ⟨y, by simpa using h.symm⟩
  | 2, h => exact ⟨z, by simpa using h.symm⟩
  | o + 3, h => simp at h
theorem Rd.setArr {w : World} {g m : Nat} {ph : Bool} {bs : List UInt8} {bad : Bool} {x y z : Int} (h : Rd w g ph bs bad) (a : Arr3 w m x y z) (hne : m ≠ g) (j : Nat) (u : Value) : Rd (w.setCell ⟨m, j, none⟩ u) g ph bs bad := by
  obtain ⟨cs, A, c, h1, h2, h3, h4, h5, h6, h7⟩ := h.rd
  refine ⟨h.len, cs, A, c, h1.far (fun e => hne e.symm) u, h2, h3, h4, h5, h6, fun h0 => ?_⟩
  obtain ⟨b, o, e, hb, hc, cur, hcur⟩ := h7 h0
  have hbm : b ≠ m := by
    rintro rfl
    unfold Arr3 at a
    rw [hcur] at a
    injection a with a
    injection a with _ a
    exact absurd a (by decide)
  refine ⟨b, o, e, hb, fun i y hy => ?_, cur, (Below.heap_setCell _ _ _ _ hbm).trans hcur⟩
  rw [World.cell?_setCell_other _ _ _ _ (fun e => hbm (congrArg Addr.block e).symm)]
  exact hc i y hy
theorem Rd.setArr' {w : World} {g m : Nat} {ph : Bool} {r : List UInt8 × Bool} {x y z : Int} (h : Rd w g ph r.1 r.2) (a : Arr3 w m x y z) (hne : m ≠ g) (j : Nat) (u : Value) : Rd (w.setCell ⟨m, j, none⟩ u) g ph r.1 r.2 := h.setArr a hne j u
theorem resF_r (bs : List UInt8) (bad : Bool) : resF bs bad = (⟨rX bs bad 3 0, rX bs bad 3 1, rX bs bad 3 2⟩, rS bs bad 3) := rfl

set_option maxHeartbeats 1000000 in
theorem getRes_any (g : Nat) (ph : Bool) (bs : List UInt8) (bad : Bool) (w : World) (hr : Rd w g ph bs bad) :
    Calls Tryz.prog 96 #[.pointer (some ⟨g, 0, none⟩)] w (RRPost g ph (resF bs bad) w) := by
  have hg := hr.lt
  have HG := Lib.hid hg
  have HR0 := Lib.hid hr
  clear hr hg
  go_enter Tryz.func96, Tryz.ntmps96
  go_wp2_with fail
  obtain ⟨n, hn⟩ : ∃ n, n = w.heap.size := ⟨_, rfl⟩
  have HA : Hid (∃ W1, W1 = ((w.alloc (.cells #[.int .i64 0, .int .i64 0, .int .i64 0] 56)).alloc (.cells #[.int .i64 0, .int .i64 0, .int .i64 0] 56)) ∧ Keep (fun k => k = g) w W1 ∧ Rd W1 g ph bs bad ∧ Arr3 W1 n 0 0 0 ∧ Arr3 W1 (n + 1) 0 0 0) := by
    refine ⟨_, rfl, ((Keep.refl _ _).alloc _).alloc _, HR0.out.other (((Ext.refl _).alloc _).alloc _), ?_, ?_⟩
    · rw [hn]; exact (Arr3.new w 0 0 0).alloc _
    · rw [hn]; simpa using Arr3.new (w.alloc (.cells #[.int .i64 0, .int .i64 0, .int .i64 0] 56)) 0 0 0
  obtain ⟨W1, hW, kp, rd, aa, ab⟩ := HA.out
  rw [← hn, ← hW]
  have HN0 : Hid (n ≠ g) := by have := HG.out; show n ≠ g; omega
  have HN1 : Hid (n + 1 ≠ g) := by have := HG.out; show n + 1 ≠ g; omega
  have HNS0 : Hid (w.heap.size ≤ n) := by show _ ≤ _; omega
  have HNS : Hid (w.heap.size ≤ n + 1) := by show _ ≤ _; omega
  clear hn hW HA HR0 HG
  go_loopw [5] (fun i wr => ∃ k : Nat, k ≤ 3 ∧ i = .int .i64 k ∧ Keep (fun k => k = g) w wr ∧ Rd wr g ph (rS bs bad k).1 (rS bs bad k).2 ∧ Arr3 wr n 0 0 0 ∧ Arr3 wr (n + 1) (rX bs bad k 0) (rX bs bad k 1) (rX bs bad k 2)) (fun i _ => 3 - (intOf i).toNat)
  case atStart => exact ⟨0, by omega, rfl, kp, rd, aa, ab⟩
  case round =>
    obtain ⟨k, hk, rfl, hkp, hrd, a0, a1⟩ := hrel
    rcases (show k = 0 ∨ k = 1 ∨ k = 2 ∨ k = 3 by omega) with rfl | rfl | rfl | rfl
    · go_wp2_with fail
      refine (rdNumI g ph _ _ 4 _ (by omega) (by omega) hrd).mono ?_
      rintro e w1 ⟨rfl, k1, r1⟩
      have a2 := a1.keep k1 HN1.out
      have c0 := a2.c0
      have z0 := a2.fr 0
      have FIN : Hid (∀ u, u = rV bs bad 0 → Keep (fun k => k = g) w (w1.setCell ⟨n + 1, 0, none⟩ (.int .i64 u)) ∧ Rd (w1.setCell ⟨n + 1, 0, none⟩ (.int .i64 u)) g ph (rS bs bad 1).1 (rS bs bad 1).2 ∧ Arr3 (w1.setCell ⟨n + 1, 0, none⟩ (.int .i64 u)) n 0 0 0 ∧ Arr3 (w1.setCell ⟨n + 1, 0, none⟩ (.int .i64 u)) (n + 1) (rX bs bad 1 0) (rX bs bad 1 1) (rX bs bad 1 2)) := fun u hu =>
        ⟨(hkp.trans k1).setNew HNS.out _, Rd.setArr r1 a2 HN1.out _ _, (a0.keep k1 HN0.out).far (by simp) _, by subst hu; exact a2.s0 _⟩
      clear r1 k1 a2 a1 hrd hkp a0
      go_wp2_with fail
      go_roundw
      case rel => exact ⟨1, by omega, by go_num, FIN.out _ rfl⟩
      case measure => simp [intOf]
    · go_wp2_with fail
      refine (rdNumI g ph _ _ 4 _ (by omega) (by omega) hrd).mono ?_
      rintro e w1 ⟨rfl, k1, r1⟩
      have a2 := a1.keep k1 HN1.out
      have c1 := a2.c1
      have z1 := a2.fr 1
      have FIN : Hid (∀ u, u = rV bs bad 1 → Keep (fun k => k = g) w (w1.setCell ⟨n + 1, 1, none⟩ (.int .i64 u)) ∧ Rd (w1.setCell ⟨n + 1, 1, none⟩ (.int .i64 u)) g ph (rS bs bad 2).1 (rS bs bad 2).2 ∧ Arr3 (w1.setCell ⟨n + 1, 1, none⟩ (.int .i64 u)) n 0 0 0 ∧ Arr3 (w1.setCell ⟨n + 1, 1, none⟩ (.int .i64 u)) (n + 1) (rX bs bad 2 0) (rX bs bad 2 1) (rX bs bad 2 2)) := fun u hu =>
        ⟨(hkp.trans k1).setNew HNS.out _, Rd.setArr r1 a2 HN1.out _ _, (a0.keep k1 HN0.out).far (by simp) _, by subst hu; exact a2.s1 _⟩
      clear r1 k1 a2 a1 hrd hkp a0
      go_wp2_with fail
      go_roundw
      case rel => exact ⟨2, by omega, by go_num, FIN.out _ rfl⟩
      case measure => simp [intOf]
    · go_wp2_with fail
      refine (rdNumI g ph _ _ 4 _ (by omega) (by omega) hrd).mono ?_
      rintro e w1 ⟨rfl, k1, r1⟩
      have a2 := a1.keep k1 HN1.out
      have c2 := a2.c2
      have z2 := a2.fr 2
      have FIN : Hid (∀ u, u = rV bs bad 2 → Keep (fun k => k = g) w (w1.setCell ⟨n + 1, 2, none⟩ (.int .i64 u)) ∧ Rd (w1.setCell ⟨n + 1, 2, none⟩ (.int .i64 u)) g ph (rS bs bad 3).1 (rS bs bad 3).2 ∧ Arr3 (w1.setCell ⟨n + 1, 2, none⟩ (.int .i64 u)) n 0 0 0 ∧ Arr3 (w1.setCell ⟨n + 1, 2, none⟩ (.int .i64 u)) (n + 1) (rX bs bad 3 0) (rX bs bad 3 1) (rX bs bad 3 2)) := fun u hu =>
        ⟨(hkp.trans k1).setNew HNS.out _, Rd.setArr r1 a2 HN1.out _ _, (a0.keep k1 HN0.out).far (by simp) _, by subst hu; exact a2.s2 _⟩
      clear r1 k1 a2 a1 hrd hkp a0
      go_wp2_with fail
      go_roundw
      case rel => exact ⟨3, by omega, by go_num, FIN.out _ rfl⟩
      case measure => simp [intOf]
    · have a2 := a1
      have c0 := a1.c0; have c1 := a1.c1; have c2 := a1.c2
      have d0 := a0.c0; have d1 := a0.c1; have d2 := a0.c2
      have e0 := a0.fr 0; have e1 := a0.fr 1; have e2 := a0.fr 2
      go_wp2_with fail
      have f := ((a0.s0 (rX bs bad 3 0)).s1 (rX bs bad 3 1)).s2 (rX bs bad 3 2)
      have FIN : Hid (RRPost g ph (resF bs bad) w (.returned (.agg #[.int .i64 (rX bs bad 3 0), .int .i64 (rX bs bad 3 1), .int .i64 (rX bs bad 3 2)])) (((wr.setCell ⟨n, 0, none⟩ (.int .i64 (rX bs bad 3 0))).setCell ⟨n, 1, none⟩ (.int .i64 (rX bs bad 3 1))).setCell ⟨n, 2, none⟩ (.int .i64 (rX bs bad 3 2)))) := by
        rw [resF_r]
        exact ⟨rfl, ((hkp.setNew HNS0.out _).setNew HNS0.out _).setNew HNS0.out _, Rd.setArr' (Rd.setArr' (Rd.setArr' hrd a0 HN0.out 0 _) (a0.s0 _) HN0.out 1 _) ((a0.s0 _).s1 _) HN0.out 2 _⟩
      have f0 := f.c0; have f1 := f.c1; have f2 := f.c2
      clear hkp hrd a0 a1 a2 c0 c1 c2 d0 d1 d2 e0 e1 e2 f
      refine bodyPost_ret (v := .agg #[.int .i64 (rX bs bad 3 0), .int .i64 (rX bs bad 3 1), .int .i64 (rX bs bad 3 2)]) (by simp [results, Tryz.results96, go_sem, f0, f1, f2]) rfl ?_
      exact FIN.out
end Go.Proofs.YthfafenigjldlaaGreat

/-
  The walks of package code: what is got: pairs.
-/
namespace Go.Proofs.YthfafenigjldlaaGreat
open Go.RowKit
set_option linter.unusedVariables false

/-- a block of two cells -/
def Arr2 (T : TypeId) (w : World) (g : Nat) (x y : Value) : Prop := w.heap[g]? = some (.cells #[x, y] T (0, 0))
theorem Arr2.c0 {T : TypeId} {w : World} {g : Nat} {x y : Value} (h : Arr2 T w g x y) : w.cell? ⟨g, 0, none⟩ = some x := by unfold Arr2 at h; simp [World.cell?, h]
theorem Arr2.c1 {T : TypeId} {w : World} {g : Nat} {x y : Value} (h : Arr2 T w g x y) : w.cell? ⟨g, 1, none⟩ = some y := by unfold Arr2 at h; simp [World.cell?, h]
theorem Arr2.fr {T : TypeId} {w : World} {g : Nat} {x y : Value} (h : Arr2 T w g x y) (j : Nat) : w.frozen? ⟨g, j, none⟩ = false := by unfold Arr2 at h; simp [World.frozen?, h]
theorem Arr2.s0 {T : TypeId} {w : World} {g : Nat} {x y : Value} (h : Arr2 T w g x y) (u : Value) : Arr2 T (w.setCell ⟨g, 0, none⟩ u) g u y := by
  unfold Arr2 at h ⊢; simp [World.setCell, Array.getElem?_modify, h]
theorem Arr2.s1 {T : TypeId} {w : World} {g : Nat} {x y : Value} (h : Arr2 T w g x y) (u : Value) : Arr2 T (w.setCell ⟨g, 1, none⟩ u) g x u := by
  unfold Arr2 at h ⊢; simp [World.setCell, Array.getElem?_modify, h]
theorem Arr2.new (T : TypeId) (w : World) (x y : Value) : Arr2 T (w.alloc (.cells #[x, y] T)) w.heap.size x y := heap_alloc_new w _

set_option maxHeartbeats 400000 in
theorem toPair_any (a b : ByteArray) (w : World) : Calls Tryz.prog 99 #[.string a, .string b] w fun e w' => e = .returned (.agg #[.string a, .string b]) ∧ Ext w w' := by
  go_enter Tryz.func99, Tryz.ntmps99
  go_wp2_with fail
  refine bodyPost_ret (v := .agg #[.string a, .string b]) (by simp [results, Tryz.results99, go_sem]) rfl ?_
  exact ⟨rfl, (Ext.refl w).alloc _⟩

/-- a list of one's own grows: the Reader stays -/
theorem Rd.grown {w w' : World} {g base size n : Nat} {T : TypeId} {ph : Bool} {bs : List UInt8} {bad : Bool} {v : Value} {xs : List Value} (h : Rd w g ph bs bad) (hown : w.ownsRow base T size v n xs) (hg : w.grownBy w' v.ownBlock)
    (h1 : T ≠ 166) (h2 : T ≠ 5) : Rd w' g ph bs bad := by
  obtain ⟨cs, A, c, r1, r2, r3, r4, r5, r6, r7⟩ := h.rd
  refine ⟨h.len, cs, A, c, r1.grown hg (own_ne hown r1 h1), r2, r3, r4, r5, r6, fun h0 => ?_⟩
  obtain ⟨b, o, e, hb, hc, cur, ht⟩ := r7 h0
  have hbt : WB w b 5 cur := ht
  have hb2 := hbt.grown hg (own_ne hown hbt h2)
  refine ⟨b, o, e, hb, fun j x hx => ?_, cur, hb2⟩
  have hcx := hc j x hx
  have hb2' : w'.heap[b]? = some (.cells cur 5 (0, 0)) := hb2
  simp only [World.cell?, ht] at hcx
  simp only [World.cell?, hb2']
  exact hcx
theorem own_keep {w w' : World} {g base size n : Nat} {T : TypeId} {v : Value} {xs : List Value} (hown : w.ownsRow base T size v n xs) (hk : Keep (fun k => k = g) w w') (hg : g < base) : w'.ownsRow base T size v n xs := by
  refine ⟨hown.1, ?_⟩
  rcases hown.2 with h | ⟨g', cap, cur, rfl, hg', hh, r⟩
  · exact .inl h
  · refine .inr ⟨g', cap, cur, rfl, hg', (hk.block g' ?_ (by omega)).trans hh, r⟩
    rcases Nat.lt_or_ge g' w.heap.size with hl | hl
    · exact hl
    · rw [Array.getElem?_eq_none hl] at hh; cases hh

/-- so many pairs, one after another -/
def pairsFrom : Nat → List UInt8 → Bool → List Pr × List UInt8 × Bool
  | 0, bs, bad => ([], bs, bad)
  | k + 1, bs, bad =>
    let r := pairsFrom k bs bad
    let a := nameFR r.2.1 r.2.2
    let b := nameFR a.2.1 a.2.2
    (r.1 ++ [⟨a.1, b.1⟩], b.2)
def pairsF (bs : List UInt8) (bad : Bool) : List Pr × List UInt8 × Bool := pairsFrom (countF 1 bs bad).1.toNat (countF 1 bs bad).2.1 (countF 1 bs bad).2.2
end Go.Proofs.YthfafenigjldlaaGreat

/-
  The walk of package code's getPairs.
-/
namespace Go.Proofs.YthfafenigjldlaaGreat
open Go.RowKit
set_option linter.unusedVariables false

def pairC (xs : List Pr) : List Value := xs.flatMap fun x => [.string x.key, .string x.val]
theorem pairC_len (xs : List Pr) : (pairC xs).length = xs.length * 2 := by
  induction xs with
  | nil => rfl
  | cons x r ih => simp only [pairC, List.flatMap_cons, List.length_append, List.length_cons, List.length_nil] at ih ⊢; omega
def GotPost (T : TypeId) (size n : Nat) (cells : List Value) (g : Nat) (bs : List UInt8) (bad : Bool) (w : World) (e : Ending) (w' : World) : Prop :=
  ∃ v, e = .returned v ∧ w'.ownsRow w.heap.size T size v n cells ∧ Keep (fun k => k = g) w w' ∧ Rd w' g true bs bad
theorem pair_info : (Tryz.prog.info? 37).map (fun i => (i.zero, i.size, i.bytes)) = some (some (.agg #[.string ⟨#[]⟩, .string ⟨#[]⟩]), 2, 32) := by kernel_rfl

theorem num1_range (bs : List UInt8) (bad : Bool) : 0 ≤ (numF 1 bs bad).1 ∧ (numF 1 bs bad).1 ≤ 255 := by
  unfold numF
  split
  · simp
  · have h := numVal_lt (bs.take 1)
    have h1 : (bs.take 1).length ≤ 1 := by rw [List.length_take]; omega
    have h2 : numVal (bs.take 1) < 256 := Nat.lt_of_lt_of_le h (Nat.le_trans (Nat.pow_le_pow_right (by omega) h1) (by omega))
    show 0 ≤ valI _ ∧ valI _ ≤ 255
    unfold valI
    rw [IntWalk.i64_in _ (by omega)]
    omega
theorem count1_range (bs : List UInt8) (bad : Bool) : 0 ≤ (countF 1 bs bad).1 ∧ (countF 1 bs bad).1 ≤ 255 := by
  unfold countF
  split
  · simp
  · exact num1_range bs bad
theorem pairsFrom_len (k : Nat) (bs : List UInt8) (bad : Bool) : (pairsFrom k bs bad).1.length = k := by
  induction k with
  | zero => rfl
  | succ k ih => simp [pairsFrom, ih]

theorem Keep.grownNew {S : Nat → Prop} {a w w' : World} {size n : Nat} {T : TypeId} {v : Value} {xs : List Value} (h : Keep S a w) (hown : w.ownsRow a.heap.size T size v n xs) (hg : w.grownBy w' v.ownBlock) : Keep S a w' := by
  refine ⟨hg.os.trans h.os, hg.tape.trans h.tape, hg.output.trans h.output, Nat.le_trans h.size hg.size, fun k hk hs => (hg.block k (Nat.lt_of_lt_of_le hk h.size) (fun e => ?_)).trans (h.block k hk hs)⟩
  rcases hown.2 with ⟨rfl, _⟩ | ⟨g', cap, cur, rfl, hg', _⟩
  · simp [Value.ownBlock] at e
  · simp [Value.ownBlock] at e; omega

set_option maxHeartbeats 1000000 in
theorem getPair_any (g : Nat) (bs : List UInt8) (bad : Bool) (w : World) (hr : Rd w g true bs bad) :
    Calls Tryz.prog 98 #[.pointer (some ⟨g, 0, none⟩), .func (.func 99) #[] #[]] w (GotPost 37 2 (pairsF bs bad).1.length (pairC (pairsF bs bad).1) g (pairsF bs bad).2.1 (pairsF bs bad).2.2 w) := by
  obtain ⟨i0, hi0, hz0, hz1, hz2⟩ := info_parts pair_info
  have hg := hr.lt
  have HG := Lib.hid hg
  have hc := count1_range bs bad
  obtain ⟨n, hn⟩ := Int.eq_ofNat_of_zero_le hc.1
  rw [hn] at hc
  have HP : Hid (pairsF bs bad = pairsFrom n (countF 1 bs bad).2.1 (countF 1 bs bad).2.2) := by show _ = _; unfold pairsF; rw [hn]; rfl
  have hn9 : n ≤ 255 := by omega
  have HNN := Lib.hid hn
  clear hn hc hg
  rw [HP.out]
  obtain ⟨cs, hcs⟩ : ∃ c, c = (countF 1 bs bad).2.1 := ⟨_, rfl⟩
  obtain ⟨bd, hbd⟩ : ∃ c, c = (countF 1 bs bad).2.2 := ⟨_, rfl⟩
  rw [← hcs, ← hbd]
  have HCS := Lib.hid hcs
  have HBD := Lib.hid hbd
  clear hcs hbd
  go_enter Tryz.func98, Tryz.ntmps98
  go_wp2_with fail
  refine (rdCount_any g true bs bad 1 _ (by omega) (by omega) hr).mono ?_
  rintro e w1 ⟨rfl, k1, r1⟩
  have r2 : Rd w1 g true cs bd := by rw [HCS.out, HBD.out]; exact r1
  rw [show (countF (1 : Int).toNat bs bad).1 = (n : Int) from HNN.out]
  clear r1 hr
  go_wp2_with fail
  go_loopw [5, 10] (fun v i wr => ∃ k : Nat, k ≤ n ∧ i = .int .i64 k ∧ Keep (fun k => k = g) w wr ∧ wr.ownsRow w.heap.size 37 2 v k (pairC (pairsFrom k cs bd).1) ∧ Rd wr g true (pairsFrom k cs bd).2.1 (pairsFrom k cs bd).2.2) (fun _ i _ => n - (intOf i).toNat)
  case atStart => exact ⟨0, by omega, rfl, k1, ⟨rfl, .inl ⟨rfl, rfl⟩⟩, r2⟩
  case round =>
    obtain ⟨k, hk, rfl, hkp, hown, hrd⟩ := hrel
    by_cases hlt : k < n
    · go_wp2_with fail
      refine (rdName_any g true _ _ _ hrd).mono ?_
      rintro e w2 ⟨rfl, k2, r3⟩
      go_wp2_with fail
      refine (rdName_any g true _ _ _ r3).mono ?_
      rintro e w3 ⟨rfl, k3, r4⟩
      go_wp2_with fail
      refine (toPair_any _ _ _).mono ?_
      rintro e w4 ⟨rfl, e4⟩
      have ho4 := own_ext (own_keep (own_keep hown k2 HG.out) k3 HG.out) e4
      have HO4 := Lib.hid (fun o => ho4.alloc o)
      have hbs : w.heap.size ≤ w4.heap.size := Nat.le_trans hkp.size (Nat.le_trans k2.size (Nat.le_trans k3.size e4.size))
      go_wp2_with (first
        | (refine wpList_append_lies _ rfl (.tmp 16) (.tmp 21) 22 rfl w.heap.size 37 i0 _ 2 32 Tryz.underlying22 hi0 hz0 hz1 hz2 rfl (by decide) _ _ _ rfl (HO4.out _) ⟨w4.heap.size, 0, none⟩ 1 1 [_, _] rfl rfl (World.news_of_block (heap_alloc_new w4 _)) (by simp [Value.oneCell']) (by decide) (by unfold maxLen; omega) (by omega) (by simp; omega) _ rfl ?_
           intro gg cap w5 hown5 hgrow hat hlt5))
      have K5 := Lib.hid (Keep.grownNew (((hkp.trans (k2.trans k3)).trans (Keep.ext e4)).alloc _) (HO4.out _) hgrow)
      have R5 := Lib.hid (Rd.grown ((r4.other e4).other ((Ext.refl _).alloc _)) (HO4.out _) hgrow (by decide) (by decide))
      have O5 := Lib.hid hown5
      clear hown5 hgrow hat hlt5 hkp k2 k3 e4 r4 r3 hrd hown ho4
      go_roundw
      case rel => exact ⟨k + 1, by omega, by go_num, K5.out, by simpa [pairsFrom, pairC] using O5.out, by simpa [pairsFrom] using R5.out⟩
      case measure => simp [intOf]; omega
    · obtain rfl : k = n := by omega
      have FIN : Hid (GotPost 37 2 (pairsFrom k cs bd).1.length (pairC (pairsFrom k cs bd).1) g (pairsFrom k cs bd).2.1 (pairsFrom k cs bd).2.2 w (.returned _) wr) := ⟨_, rfl, by rw [pairsFrom_len]; exact hown, hkp, hrd⟩
      clear hkp hown hrd
      go_wp2_with fail
      go_ret
      exact FIN.out
end Go.Proofs.YthfafenigjldlaaGreat

/-
  The walks of package code at taints (printed by mktaint.py).
-/
namespace Go.Proofs.YthfafenigjldlaaGreat
open Go.RowKit
set_option linter.unusedVariables false

theorem ofTaint_any (x : Pr) (w : World) : Calls Tryz.prog 92 #[.agg #[.string x.key, .string x.val]] w fun e w' => e = .returned (.tuple #[.string x.key, .string x.val]) ∧ Ext w w' := by
  have HE : Hid (∀ o n, Ext w ((w.alloc o).drewN n)) := fun o n => ((Ext.refl w).alloc o).drewN n
  go_enter Tryz.func92, Tryz.ntmps92
  go_wp2_with fail
  go_region
  go_wp2_with fail
  go_ret2
  exact ⟨rfl, HE.out _ 1⟩

set_option maxHeartbeats 1000000 in
theorem putTaint_any (B g : Nat) (bs : List UInt8) (A : Option Addr) (c : Nat) (xs : List Pr) (W0 w : World) (hE : Ext W0 w) (hB : W0.heap.size ≤ B) (hx : Sl RPair 2 W0 A xs) (hn : xs.length ≤ 6) (hl : bs.length ≤ 900000) (hw : Wr B w g true bs) :
    Calls Tryz.prog 91 #[.pointer (some ⟨g, 0, none⟩), .slice A xs.length c, .func (.func 92) #[] #[]] w (NPost B g true (bs ++ pairsB xs) w) := by
  have HX := Lib.hid hx
  have hBB := Lib.hid hB
  clear hx hB
  go_enter Tryz.func91, Tryz.ntmps91
  go_wp2_with fail
  refine (wNumI B g true bs _ _ _ (by omega) (by omega) (by omega) (by omega) (by omega) hw).mono ?_
  rintro e w1 ⟨rfl, b1, r1⟩
  rw [show ((xs.length : Int)).toNat = xs.length from rfl, show (1 : Int).toNat = 1 from rfl] at r1
  have HE0 := Lib.hid hE
  clear hw hE
  go_wp2_with fail
  go_loopw [16] (fun i wr => ∃ k : Nat, k ≤ xs.length ∧ i = .int .i64 k ∧ Bel B w wr ∧ Wr B wr g true (bs ++ numB xs.length 1 ++ (xs.take k).flatMap pairB)) (fun i _ => xs.length - (intOf i).toNat)
  case atStart => exact ⟨0, by omega, rfl, b1, by simpa using r1⟩
  case round =>
    obtain ⟨k, hk, rfl, hb, hr⟩ := hrel
    by_cases hlt : k < xs.length
    · have hErE : Hid (Ext W0 wr) := HE0.out.below hBB.out hb
      obtain ⟨ys, hys⟩ : ∃ ys, ys = bs ++ numB xs.length 1 ++ (xs.take k).flatMap pairB := ⟨_, rfl⟩
      have hlen : ys.length ≤ 900100 := by
        have h1 := flat_len (fun x => Nat.le_of_eq (pairB_len x)) (xs.take k)
        have h2 : (xs.take k).length ≤ 6 := by simp; omega
        rw [hys, List.length_append, List.length_append, numB_len]
        omega
      rw [← hys] at hr
      obtain ⟨b, o, x, hA, hxk, ok1, ok2, c0, c1⟩ := (HX.out.ext RPair.keeps hErE.out).pair hlt
      have HYS : Hid (bs ++ numB xs.length 1 ++ (xs.take (k + 1)).flatMap pairB = ys ++ nameB8 x.key ++ nameB8 x.val) := by
        show _ = _; rw [flat_snoc hxk, hys]; simp [pairB]
      subst hA
      clear hys hxk HX
      go_wp2_with fail
      refine (ofTaint_any x _).mono ?_
      rintro e w2 ⟨rfl, e2⟩
      have hb2 : Bel B w w2 := (hb.alloc hr.lt _).trans (Bel.ext e2 (by simp; have := hr.lt; omega))
      have hr2 : Wr B w2 g true ys := (hr.alloc _).ext e2
      clear c0 c1 e2
      go_wp2_with fail
      refine (wName_any B g true ys x.key _ ok1 (by omega) hr2).mono ?_
      rintro e w3 ⟨rfl, b3, r3⟩
      go_wp2_with fail
      refine (wName_any B g true (ys ++ nameB8 x.key) x.val _ ok2 (by rw [List.length_append, nameB8_len]; omega) r3).mono ?_
      rintro e w4 ⟨rfl, b4, r4⟩
      have FIN := Lib.hid ((hb2.trans b3).trans b4)
      clear hb2 b3 b4 hb hr
      go_wp2_with fail
      go_roundw
      case rel => exact ⟨k + 1, by omega, by go_num, FIN.out, by rw [HYS.out]; exact r4⟩
      case measure => simp [intOf]; omega
    · go_wp2_with fail
      go_end0
      refine ⟨rfl, hb, ?_⟩
      rw [List.take_of_length_le (by omega), List.append_assoc] at hr
      exact hr
set_option maxHeartbeats 400000 in
theorem toTaint_any (a b : ByteArray) (w : World) : Calls Tryz.prog 107 #[.string a, .string b] w fun e w' => e = .returned (.agg #[.string a, .string b]) ∧ Ext w w' := by
  go_enter Tryz.func107, Tryz.ntmps107
  go_wp2_with fail
  refine bodyPost_ret (v := .agg #[.string a, .string b]) (by simp [results, Tryz.results107, go_sem]) rfl ?_
  exact ⟨rfl, (Ext.refl w).alloc _⟩

theorem taint_info : (Tryz.prog.info? 53).map (fun i => (i.zero, i.size, i.bytes)) = some (some (.agg #[.string ⟨#[]⟩, .string ⟨#[]⟩]), 2, 32) := by kernel_rfl

set_option maxHeartbeats 1000000 in
theorem getTaint_any (g : Nat) (bs : List UInt8) (bad : Bool) (w : World) (hr : Rd w g true bs bad) :
    Calls Tryz.prog 106 #[.pointer (some ⟨g, 0, none⟩), .func (.func 107) #[] #[]] w (GotPost 53 2 (pairsF bs bad).1.length (pairC (pairsF bs bad).1) g (pairsF bs bad).2.1 (pairsF bs bad).2.2 w) := by
  obtain ⟨i0, hi0, hz0, hz1, hz2⟩ := info_parts taint_info
  have hg := hr.lt
  have HG := Lib.hid hg
  have hc := count1_range bs bad
  obtain ⟨n, hn⟩ := Int.eq_ofNat_of_zero_le hc.1
  rw [hn] at hc
  have HP : Hid (pairsF bs bad = pairsFrom n (countF 1 bs bad).2.1 (countF 1 bs bad).2.2) := by show _ = _; unfold pairsF; rw [hn]; rfl
  have hn9 : n ≤ 255 := by omega
  have HNN := Lib.hid hn
  clear hn hc hg
  rw [HP.out]
  obtain ⟨cs, hcs⟩ : ∃ c, c = (countF 1 bs bad).2.1 := ⟨_, rfl⟩
  obtain ⟨bd, hbd⟩ : ∃ c, c = (countF 1 bs bad).2.2 := ⟨_, rfl⟩
  rw [← hcs, ← hbd]
  have HCS := Lib.hid hcs
  have HBD := Lib.hid hbd
  clear hcs hbd
  go_enter Tryz.func106, Tryz.ntmps106
  go_wp2_with fail
  refine (rdCount_any g true bs bad 1 _ (by omega) (by omega) hr).mono ?_
  rintro e w1 ⟨rfl, k1, r1⟩
  have r2 : Rd w1 g true cs bd := by rw [HCS.out, HBD.out]; exact r1
  rw [show (countF (1 : Int).toNat bs bad).1 = (n : Int) from HNN.out]
  clear r1 hr
  go_wp2_with fail
  go_loopw [5, 10] (fun v i wr => ∃ k : Nat, k ≤ n ∧ i = .int .i64 k ∧ Keep (fun k => k = g) w wr ∧ wr.ownsRow w.heap.size 53 2 v k (pairC (pairsFrom k cs bd).1) ∧ Rd wr g true (pairsFrom k cs bd).2.1 (pairsFrom k cs bd).2.2) (fun _ i _ => n - (intOf i).toNat)
  case atStart => exact ⟨0, by omega, rfl, k1, ⟨rfl, .inl ⟨rfl, rfl⟩⟩, r2⟩
  case round =>
    obtain ⟨k, hk, rfl, hkp, hown, hrd⟩ := hrel
    by_cases hlt : k < n
    · go_wp2_with fail
      refine (rdName_any g true _ _ _ hrd).mono ?_
      rintro e w2 ⟨rfl, k2, r3⟩
      go_wp2_with fail
      refine (rdName_any g true _ _ _ r3).mono ?_
      rintro e w3 ⟨rfl, k3, r4⟩
      go_wp2_with fail
      refine (toTaint_any _ _ _).mono ?_
      rintro e w4 ⟨rfl, e4⟩
      have ho4 := own_ext (own_keep (own_keep hown k2 HG.out) k3 HG.out) e4
      have HO4 := Lib.hid (fun o => ho4.alloc o)
      have hbs : w.heap.size ≤ w4.heap.size := Nat.le_trans hkp.size (Nat.le_trans k2.size (Nat.le_trans k3.size e4.size))
      go_wp2_with (first
        | (refine wpList_append_lies _ rfl (.tmp 16) (.tmp 21) 45 rfl w.heap.size 53 i0 _ 2 32 Tryz.underlying45 hi0 hz0 hz1 hz2 rfl (by decide) _ _ _ rfl (HO4.out _) ⟨w4.heap.size, 0, none⟩ 1 1 [_, _] rfl rfl (World.news_of_block (heap_alloc_new w4 _)) (by simp [Value.oneCell']) (by decide) (by unfold maxLen; omega) (by omega) (by simp; omega) _ rfl ?_
           intro gg cap w5 hown5 hgrow hat hlt5))
      have K5 := Lib.hid (Keep.grownNew (((hkp.trans (k2.trans k3)).trans (Keep.ext e4)).alloc _) (HO4.out _) hgrow)
      have R5 := Lib.hid (Rd.grown ((r4.other e4).other ((Ext.refl _).alloc _)) (HO4.out _) hgrow (by decide) (by decide))
      have O5 := Lib.hid hown5
      clear hown5 hgrow hat hlt5 hkp k2 k3 e4 r4 r3 hrd hown ho4
      go_roundw
      case rel => exact ⟨k + 1, by omega, by go_num, K5.out, by simpa [pairsFrom, pairC] using O5.out, by simpa [pairsFrom] using R5.out⟩
      case measure => simp [intOf]; omega
    · obtain rfl : k = n := by omega
      have FIN : Hid (GotPost 53 2 (pairsFrom k cs bd).1.length (pairC (pairsFrom k cs bd).1) g (pairsFrom k cs bd).2.1 (pairsFrom k cs bd).2.2 w (.returned _) wr) := ⟨_, rfl, by rw [pairsFrom_len]; exact hown, hkp, hrd⟩
      clear hkp hown hrd
      go_wp2_with fail
      go_ret
      exact FIN.out
end Go.Proofs.YthfafenigjldlaaGreat
