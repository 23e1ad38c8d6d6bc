/-
  The walks of package code: what is put: amounts, pairs, terms.
-/
import Derived.Test.YthfafenigjldlaaRev2
import Derived.Test.YthfafenigjldlaaObj1
namespace Go.Proofs.Ythfafenigjldlaa
open Go.RowKit
set_option linter.unusedVariables false

theorem numB_len (n s : Nat) : (numB n s).length = s := by simp [numB]
theorem nameB8_len (s : ByteArray) : (nameB8 s).length = 8 := numB_len _ _
theorem Wr.alloc {B g : Nat} {w : World} {ph : Bool} {bs : List UInt8} (h : Wr B w g ph bs) (o : Obj) : Wr B (w.alloc o) g ph bs := by
  obtain ⟨cs, v, h1, h2, h3, h4⟩ := h.wr
  exact ⟨h.base, cs, v, h1.alloc o, h2, h3, h4.alloc o⟩
theorem own_ext {w w' : World} {base : Nat} {T : TypeId} {size n : Nat} {v : Value} {xs : List Value} (h : w.ownsRow base T size v n xs) (he : Ext w w') : w'.ownsRow base T size v n xs := by
  refine ⟨h.1, ?_⟩
  rcases h.2 with h | ⟨g', cap, cur, rfl, hg', hh, r⟩
  · exact .inl h
  · exact .inr ⟨g', cap, cur, rfl, hg', WB.ext hh he, r⟩
theorem Wr.ext {B g : Nat} {w w' : World} {ph : Bool} {bs : List UInt8} (h : Wr B w g ph bs) (he : Ext w w') : Wr B w' g ph bs := by
  obtain ⟨cs, v, h1, h2, h3, h4⟩ := h.wr
  exact ⟨h.base, cs, v, h1.ext he, h2, h3, own_ext h4 he⟩
theorem Wr.lt {B g : Nat} {w : World} {ph : Bool} {bs : List UInt8} (h : Wr B w g ph bs) : B ≤ w.heap.size := by
  obtain ⟨cs, v, h1, h2, h3, h4⟩ := h.wr
  have := h1.lt
  have := h.base
  omega
/-- what was there ahead of block B is there yet -/
theorem Ext.below {W0 w w' : World} {B : Nat} (he : Ext W0 w) (hB : W0.heap.size ≤ B) (hb : Bel B w w') : Ext W0 w' := Below.trans he (hb.below.mono hB)

def pairB (x : Pr) : List UInt8 := nameB8 x.key ++ nameB8 x.val
def pairsB (xs : List Pr) : List UInt8 := numB xs.length 1 ++ xs.flatMap pairB
theorem pairB_len (x : Pr) : (pairB x).length = 16 := by simp [pairB, nameB8_len]
theorem flat_len {α : Type} {f : α → List UInt8} {c : Nat} (hf : ∀ x, (f x).length ≤ c) (l : List α) : (l.flatMap f).length ≤ c * l.length := by
  induction l with
  | nil => simp
  | cons x l ih => have := hf x; simp only [List.flatMap_cons, List.length_append, List.length_cons, Nat.mul_add, Nat.mul_one]; omega
theorem flat_snoc {α : Type} {f : α → List UInt8} {xs : List α} {k : Nat} {x : α} (h : xs[k]? = some x) : (xs.take (k + 1)).flatMap f = (xs.take k).flatMap f ++ f x := by
  rw [take_at h]; simp

theorem ofPair_any (x : Pr) (w : World) : Calls Try.prog 38 #[.agg #[.string x.key, .string x.val]] w fun e w' => e = .returned (.tuple #[.string x.key, .string x.val]) ∧ Ext w w' := by
  have HE : Hid (∀ o n, Ext w ((w.alloc o).drewN n)) := fun o n => ((Ext.refl w).alloc o).drewN n
  go_enter Try.func38, Try.ntmps38
  go_wp2_with fail
  go_region
  go_wp2_with fail
  go_ret2
  exact ⟨rfl, HE.out _ 1⟩

set_option maxHeartbeats 1000000 in
theorem putPair_any (B g : Nat) (bs : List UInt8) (A : Option Addr) (c : Nat) (xs : List Pr) (W0 w : World) (hE : Ext W0 w) (hB : W0.heap.size ≤ B) (hx : Sl RPair 2 W0 A xs) (hn : xs.length ≤ 6) (hl : bs.length ≤ 900000) (hw : Wr B w g true bs) :
    Calls Try.prog 37 #[.pointer (some ⟨g, 0, none⟩), .slice A xs.length c, .func (.func 38) #[] #[]] w (NPost B g true (bs ++ pairsB xs) w) := by
  have HX := Lib.hid hx
  have hBB := Lib.hid hB
  clear hx hB
  go_enter Try.func37, Try.ntmps37
  go_wp2_with fail
  refine (wNumI B g true bs _ _ _ (by omega) (by omega) (by omega) (by omega) (by omega) hw).mono ?_
  rintro e w1 ⟨rfl, b1, r1⟩
  rw [show ((xs.length : Int)).toNat = xs.length from rfl, show (1 : Int).toNat = 1 from rfl] at r1
  have HE0 := Lib.hid hE
  clear hw hE
  go_wp2_with fail
  go_loopw [16] (fun i wr => ∃ k : Nat, k ≤ xs.length ∧ i = .int .i64 k ∧ Bel B w wr ∧ Wr B wr g true (bs ++ numB xs.length 1 ++ (xs.take k).flatMap pairB)) (fun i _ => xs.length - (intOf i).toNat)
  case atStart => exact ⟨0, by omega, rfl, b1, by simpa using r1⟩
  case round =>
    obtain ⟨k, hk, rfl, hb, hr⟩ := hrel
    by_cases hlt : k < xs.length
    · have hErE : Hid (Ext W0 wr) := HE0.out.below hBB.out hb
      obtain ⟨ys, hys⟩ : ∃ ys, ys = bs ++ numB xs.length 1 ++ (xs.take k).flatMap pairB := ⟨_, rfl⟩
      have hlen : ys.length ≤ 900100 := by
        have h1 := flat_len (fun x => Nat.le_of_eq (pairB_len x)) (xs.take k)
        have h2 : (xs.take k).length ≤ 6 := by simp; omega
        rw [hys, List.length_append, List.length_append, numB_len]
        omega
      rw [← hys] at hr
      obtain ⟨b, o, x, hA, hxk, ok1, ok2, c0, c1⟩ := (HX.out.ext RPair.keeps hErE.out).pair hlt
      have HYS : Hid (bs ++ numB xs.length 1 ++ (xs.take (k + 1)).flatMap pairB = ys ++ nameB8 x.key ++ nameB8 x.val) := by
        show _ = _; rw [flat_snoc hxk, hys]; simp [pairB]
      subst hA
      clear hys hxk HX
      go_wp2_with fail
      refine (ofPair_any x _).mono ?_
      rintro e w2 ⟨rfl, e2⟩
      have hb2 : Bel B w w2 := (hb.alloc hr.lt _).trans (Bel.ext e2 (by simp; have := hr.lt; omega))
      have hr2 : Wr B w2 g true ys := (hr.alloc _).ext e2
      clear c0 c1 e2
      go_wp2_with fail
      refine (wName_any B g true ys x.key _ ok1 (by omega) hr2).mono ?_
      rintro e w3 ⟨rfl, b3, r3⟩
      go_wp2_with fail
      refine (wName_any B g true (ys ++ nameB8 x.key) x.val _ ok2 (by rw [List.length_append, nameB8_len]; omega) r3).mono ?_
      rintro e w4 ⟨rfl, b4, r4⟩
      have FIN := Lib.hid ((hb2.trans b3).trans b4)
      clear hb2 b3 b4 hb hr
      go_wp2_with fail
      go_roundw
      case rel => exact ⟨k + 1, by omega, by go_num, FIN.out, by rw [HYS.out]; exact r4⟩
      case measure => simp [intOf]; omega
    · go_wp2_with fail
      go_end0
      refine ⟨rfl, hb, ?_⟩
      rw [List.take_of_length_le (by omega), List.append_assoc] at hr
      exact hr
end Go.Proofs.Ythfafenigjldlaa
