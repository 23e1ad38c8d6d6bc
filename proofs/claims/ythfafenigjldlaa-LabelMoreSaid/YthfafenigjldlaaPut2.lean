/-
  The walks of package code: putRes, putTerms.
-/
import Derived.Test.YthfafenigjldlaaPut1
namespace Go.Proofs.Ythfafenigjldlaa
open Go.RowKit
set_option linter.unusedVariables false

def resB (r : Rs) : List UInt8 := numB r.a.toNat 4 ++ numB r.b.toNat 4 ++ numB r.c.toNat 4
def resL (r : Rs) : Nat → List UInt8
  | 0 => []
  | 1 => numB r.a.toNat 4
  | 2 => numB r.a.toNat 4 ++ numB r.b.toNat 4
  | _ => resB r
theorem resB_len (r : Rs) : (resB r).length = 12 := by simp [resB, numB_len]
theorem resL_len (r : Rs) (k : Nat) : (resL r k).length ≤ 12 := by
  unfold resL
  split <;> simp [resB, numB_len]
theorem below_alloc {B g : Nat} {w : World} {ph : Bool} {bs : List UInt8} (h : Wr B w g ph bs) (o : Obj) : Bel B w (w.alloc o) := (Bel.refl B w).alloc h.lt o

set_option maxHeartbeats 400000 in
theorem putRes_any (B g : Nat) (ph : Bool) (bs : List UInt8) (r : Rs) (w : World) (ha : 0 ≤ r.a) (ha' : r.a ≤ 1000000000) (hb : 0 ≤ r.b) (hb' : r.b ≤ 1000000000) (hc : 0 ≤ r.c) (hc' : r.c ≤ 1000000000) (hl : bs.length ≤ 900000) (hw : Wr B w g ph bs) :
    Calls Try.prog 36 #[.pointer (some ⟨g, 0, none⟩), .agg #[.int .i64 r.a, .int .i64 r.b, .int .i64 r.c]] w (NPost B g ph (bs ++ resB r) w) := by
  have i0 : ∀ w, (Instr.index 50 (.agg #[.int .i64 r.a, .int .i64 r.b, .int .i64 r.c]) (.int .i64 0)).run Try.prog w = .ok (.int .i64 r.a) w := fun _ => by kernel_rfl
  have i1 : ∀ w, (Instr.index 50 (.agg #[.int .i64 r.a, .int .i64 r.b, .int .i64 r.c]) (.int .i64 1)).run Try.prog w = .ok (.int .i64 r.b) w := fun _ => by kernel_rfl
  have i2 : ∀ w, (Instr.index 50 (.agg #[.int .i64 r.a, .int .i64 r.b, .int .i64 r.c]) (.int .i64 2)).run Try.prog w = .ok (.int .i64 r.c) w := fun _ => by kernel_rfl
  have HB0 := Lib.hid (below_alloc hw)
  have HW0 := Lib.hid (hw.alloc)
  clear hw
  go_enter Try.func36, Try.ntmps36
  go_wp2_with fail
  go_loopw [7] (fun i wr => ∃ k : Nat, k ≤ 3 ∧ i = .int .i64 k ∧ Bel B w wr ∧ Wr B wr g ph (bs ++ resL r k)) (fun i _ => 3 - (intOf i).toNat)
  case atStart => exact ⟨0, by omega, rfl, HB0.out _, by simpa [resL] using HW0.out _⟩
  case round =>
    obtain ⟨k, hk, rfl, h1, h2⟩ := hrel
    rcases (show k = 0 ∨ k = 1 ∨ k = 2 ∨ k = 3 by omega) with rfl | rfl | rfl | rfl
    · go_wp2_with fail
      refine (wNumI B g ph _ _ _ _ ha (by omega) (by omega) (by omega) (by have := resL_len r 0; rw [List.length_append]; omega) h2).mono ?_
      rintro e w1 ⟨rfl, b1, r1⟩
      replace b1 := h1.trans b1
      go_wp2_with fail
      go_roundw
      case rel => exact ⟨1, by omega, by go_num, b1, by simpa [resL] using r1⟩
      case measure => simp [intOf]
    · go_wp2_with fail
      refine (wNumI B g ph _ _ _ _ hb (by omega) (by omega) (by omega) (by have := resL_len r 1; rw [List.length_append]; omega) h2).mono ?_
      rintro e w1 ⟨rfl, b1, r1⟩
      replace b1 := h1.trans b1
      go_wp2_with fail
      go_roundw
      case rel => exact ⟨2, by omega, by go_num, b1, by simpa [resL] using r1⟩
      case measure => simp [intOf]
    · go_wp2_with fail
      refine (wNumI B g ph _ _ _ _ hc (by omega) (by omega) (by omega) (by have := resL_len r 2; rw [List.length_append]; omega) h2).mono ?_
      rintro e w1 ⟨rfl, b1, r1⟩
      replace b1 := h1.trans b1
      go_wp2_with fail
      go_roundw
      case rel => exact ⟨3, by omega, by go_num, b1, by simpa [resL, resB] using r1⟩
      case measure => simp [intOf]
    · go_wp2_with fail
      go_end0
      exact ⟨rfl, h1, by simpa [resL] using h2⟩

def valsB (xs : List ByteArray) : List UInt8 := numB xs.length 1 ++ xs.flatMap nameB8
def termB (t : Tm) : List UInt8 := nameB8 t.key ++ numB t.kind.toNat 1 ++ valsB t.vals
def termsB (xs : List Tm) : List UInt8 := numB xs.length 1 ++ xs.flatMap termB
theorem valsB_len (xs : List ByteArray) (h : xs.length ≤ 6) : (valsB xs).length ≤ 49 := by
  have := flat_len (fun x => Nat.le_of_eq (nameB8_len x)) xs
  rw [valsB, List.length_append, numB_len]; omega
def okT (t : Tm) : Prop := 0 ≤ t.kind ∧ t.vals.length ≤ 6
theorem termB_len (t : Tm) (h : okT t) : (termB t).length ≤ 58 := by
  have := valsB_len t.vals h.2
  rw [termB, List.length_append, List.length_append, nameB8_len, numB_len]; omega
theorem flat_len_all {α : Type} {f : α → List UInt8} {c : Nat} : ∀ (l : List α), (∀ x ∈ l, (f x).length ≤ c) → (l.flatMap f).length ≤ c * l.length
  | [], _ => by simp
  | x :: l, h => by
    have h1 := h x (by simp)
    have h2 := flat_len_all l (fun y hy => h y (by simp [hy]))
    simp only [List.flatMap_cons, List.length_append, List.length_cons, Nat.mul_add, Nat.mul_one]; omega

set_option maxHeartbeats 1000000 in
theorem putTerms_any (B g : Nat) (bs : List UInt8) (A : Option Addr) (c : Nat) (xs : List Tm) (W0 w : World) (hE : Ext W0 w) (hB : W0.heap.size ≤ B) (hx : Sl RTerm 3 W0 A xs) (hn : xs.length ≤ 6) (hok : ∀ x ∈ xs, okT x) (hl : bs.length ≤ 900000) (hw : Wr B w g true bs) :
    Calls Try.prog 39 #[.pointer (some ⟨g, 0, none⟩), .slice A xs.length c] w (NPost B g true (bs ++ termsB xs) w) := by
  have HX := Lib.hid hx
  have HOK := Lib.hid hok
  have hBB := Lib.hid hB
  clear hx hB hok
  go_enter Try.func39, Try.ntmps39
  go_wp2_with fail
  refine (wNumI B g true bs _ _ _ (by omega) (by omega) (by omega) (by omega) (by omega) hw).mono ?_
  rintro e w1 ⟨rfl, b1, r1⟩
  rw [show ((xs.length : Int)).toNat = xs.length from rfl, show (1 : Int).toNat = 1 from rfl] at r1
  have HE0 := Lib.hid hE
  clear hw hE
  go_wp2_with fail
  go_loopw [14] (fun i wr => ∃ k : Nat, k ≤ xs.length ∧ i = .int .i64 k ∧ Bel B w wr ∧ Wr B wr g true (bs ++ numB xs.length 1 ++ (xs.take k).flatMap termB)) (fun i _ => xs.length - (intOf i).toNat)
  case atStart => exact ⟨0, by omega, rfl, b1, by simpa using r1⟩
  case round =>
    obtain ⟨k, hk, rfl, hb, hr⟩ := hrel
    by_cases hlt : k < xs.length
    · have hErE : Hid (Ext W0 wr) := HE0.out.below hBB.out hb
      obtain ⟨ys, hys⟩ : ∃ ys, ys = bs ++ numB xs.length 1 ++ (xs.take k).flatMap termB := ⟨_, rfl⟩
      have hlen : ys.length ≤ 900400 := by
        have h1 := flat_len_all (f := termB) (c := 58) (xs.take k) (fun x hx => termB_len x (HOK.out x (List.mem_of_mem_take hx)))
        have h2 : (xs.take k).length ≤ 6 := by simp; omega
        rw [hys, List.length_append, List.length_append, numB_len]
        omega
      rw [← hys] at hr
      obtain ⟨b, o, x, A', c', hA, hxk, ok1, ok2, l1, l2, hv, d0, d1, d2⟩ := HX.out.term hlt
      have c0 := hErE.out.cell d0
      have c1 := hErE.out.cell d1
      have c2 := hErE.out.cell d2
      clear d0 d1 d2
      have HYS : Hid (bs ++ numB xs.length 1 ++ (xs.take (k + 1)).flatMap termB = ys ++ nameB8 x.key ++ numB x.kind.toNat 1 ++ numB x.vals.length 1 ++ x.vals.flatMap nameB8) := by
        show _ = _; rw [flat_snoc hxk, hys]; simp [termB, valsB]
      have HT : okT x := HOK.out x (List.mem_of_getElem? hxk)
      obtain ⟨k1, k2⟩ := HT
      have HV := Lib.hid hv
      subst hA
      clear hys hxk HX hv
      have HR := Lib.hid hr
      have HBX := Lib.hid hb
      obtain ⟨BX, hBX⟩ : ∃ n, n = wr.heap.size := ⟨_, rfl⟩
      obtain ⟨W1, hW⟩ : ∃ W1, wr.alloc (.cells #[.string x.key, .int .i64 x.kind, .slice A' x.vals.length c'] 29) = W1 := ⟨_, rfl⟩
      have hst : Still W1 BX := by
        rw [← hW, hBX]; exact ⟨_, _, _, heap_alloc_new wr _, by decide, by decide⟩
      have hbx : W1.heap[BX]? = some (.cells #[.string x.key, .int .i64 x.kind, .slice A' x.vals.length c'] 29 (0, 0)) := by
        rw [← hW, hBX]; exact heap_alloc_new wr _
      have hr1 : Wr B W1 g true ys := by rw [← hW]; exact hr.alloc _
      have hb1 : Bel B W1 W1 := Bel.refl _ _
      have hbw : Bel B w W1 := by rw [← hW]; exact hb.alloc hr.lt _
      have HX1 : Hid (Ext W0 W1) := by rw [← hW]; exact hErE.out.alloc _
      have HS : Hid (∀ wx, Bel B W1 wx → wx.cell? ⟨BX, 0, none⟩ = some (.string x.key) ∧ wx.cell? ⟨BX, 1, none⟩ = some (.int .i64 x.kind) ∧ wx.cell? ⟨BX, 2, none⟩ = some (.slice A' x.vals.length c')) := fun wx hx => by
        have e := (hx.still BX hst).trans hbx
        simp [World.cell?, e]
      have HBW := Lib.hid hbw
      have HV' : Hid (∀ wx, Bel B W1 wx → Sl RStr 1 wx A' x.vals) := fun wx hx => HV.out.ext RStr.keeps (HX1.out.below hBB.out hx)
      clear hr hb HV hst hbx hErE
      subst hBX
      obtain ⟨s0, s1, s2⟩ := HS.out _ hb1
      clear hb1
      go_wp2_with fail
      clear c0 c1 c2
      refine (wName_any B g true ys x.key _ ok1 (by omega) ?g1).mono ?_
      case g1 => first | exact hr1 | (rw [hW]; exact hr1)
      try rw [hW]
      rintro e w2 ⟨rfl, b2, r2⟩
      clear s0 s1 s2
      obtain ⟨c0, c1, c2⟩ := HS.out _ b2
      go_wp2_with fail
      refine (wNumI B g true (ys ++ nameB8 x.key) _ _ _ k1 (by have := ok2.2; omega) (by omega) (by omega) (by rw [List.length_append, nameB8_len]; omega) r2).mono ?_
      rintro e w3 ⟨rfl, b3, r3⟩
      replace b3 := b2.trans b3
      clear c0 c1 c2 b2
      obtain ⟨c0, c1, c2⟩ := HS.out _ b3
      go_wp2_with fail
      refine (wNumI B g true (ys ++ nameB8 x.key ++ numB x.kind.toNat 1) _ _ _ (by omega) (by omega) (by omega) (by omega) (by rw [List.length_append, List.length_append, nameB8_len, numB_len]; omega) r3).mono ?_
      rintro e w4 ⟨rfl, b4, r4⟩
      replace b4 := b3.trans b4
      clear c0 c1 c2 b3
      obtain ⟨c0, c1, c2⟩ := HS.out _ b4
      go_wp2_with fail
      go_loopw [34] (fun i wx => ∃ m : Nat, m ≤ x.vals.length ∧ i = .int .i64 m ∧ Bel B W1 wx ∧ Wr B wx g true (ys ++ nameB8 x.key ++ numB x.kind.toNat 1 ++ numB x.vals.length 1 ++ (x.vals.take m).flatMap nameB8)) (fun i _ => x.vals.length - (intOf i).toNat)
      case atStart => exact ⟨0, by omega, rfl, b4, by simpa using r4⟩
      case round =>
        obtain ⟨m, hm, rfl, hb5, hr5⟩ := hrel
        by_cases hlt2 : m < x.vals.length
        · obtain ⟨zs, hzs⟩ : ∃ zs, zs = ys ++ nameB8 x.key ++ numB x.kind.toNat 1 ++ numB x.vals.length 1 ++ (x.vals.take m).flatMap nameB8 := ⟨_, rfl⟩
          have hzl : zs.length ≤ 900600 := by
            have h1 := flat_len (fun x => Nat.le_of_eq (nameB8_len x)) (x.vals.take m)
            have h2 : (x.vals.take m).length ≤ 6 := by simp; omega
            rw [hzs]
            simp only [List.length_append, nameB8_len, numB_len]
            omega
          rw [← hzs] at hr5
          obtain ⟨b', o', y, hA', hyk, oky, d0⟩ := (HV'.out _ hb5).str hlt2
          have HZ : Hid (ys ++ nameB8 x.key ++ numB x.kind.toNat 1 ++ numB x.vals.length 1 ++ (x.vals.take (m + 1)).flatMap nameB8 = zs ++ nameB8 y) := by
            show _ = _; rw [flat_snoc hyk, hzs]; simp
          subst hA'
          clear hzs hyk c0 c1 c2
          go_wp2_with fail
          refine (wName_any B g true zs y _ oky (by omega) hr5).mono ?_
          rintro e w6 ⟨rfl, b6, r6⟩
          replace b6 := hb5.trans b6
          go_wp2_with fail
          go_roundw
          case rel => exact ⟨m + 1, by omega, by go_num, b6, by rw [HZ.out]; exact r6⟩
          case measure => simp [intOf]; omega
        · have hr6 := hr5
          rw [List.take_of_length_le (by omega), ← HYS.out] at hr6
          have HR6 := Lib.hid hr6
          have HB6 := Lib.hid (hbw.trans hb5)
          clear hr5 hr6
          go_wp2_with fail
          go_roundw
          case rel => exact ⟨k + 1, by omega, by go_num, HB6.out, HR6.out⟩
          case measure => simp [intOf]; omega
    · go_wp2_with fail
      go_end0
      refine ⟨rfl, hb, ?_⟩
      rw [List.take_of_length_le (by omega), List.append_assoc] at hr
      exact hr
end Go.Proofs.Ythfafenigjldlaa
