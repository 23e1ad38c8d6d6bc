/-
  The walks of package code: what is put: amounts, pairs, terms.
-/
import Derived.Test.YthfafenigjldlaaGreatRev1
import Derived.Test.YthfafenigjldlaaGreatObj1
namespace Go.Proofs.YthfafenigjldlaaGreat
open Go.RowKit
set_option linter.unusedVariables false

theorem numB_len (n s : Nat) : (numB n s).length = s := by simp [numB]
theorem nameB8_len (s : ByteArray) : (nameB8 s).length = 8 := numB_len _ _
theorem Wr.alloc {B g : Nat} {w : World} {ph : Bool} {bs : List UInt8} (h : Wr B w g ph bs) (o : Obj) : Wr B (w.alloc o) g ph bs := by
  obtain ⟨cs, v, h1, h2, h3, h4⟩ := h.wr
  exact ⟨h.base, cs, v, h1.alloc o, h2, h3, h4.alloc o⟩
theorem own_ext {w w' : World} {base : Nat} {T : TypeId} {size n : Nat} {v : Value} {xs : List Value} (h : w.ownsRow base T size v n xs) (he : Ext w w') : w'.ownsRow base T size v n xs := by
  refine ⟨h.1, ?_⟩
  rcases h.2 with h | ⟨g', cap, cur, rfl, hg', hh, r⟩
  · exact .inl h
  · exact .inr ⟨g', cap, cur, rfl, hg', WB.ext hh he, r⟩
theorem Wr.ext {B g : Nat} {w w' : World} {ph : Bool} {bs : List UInt8} (h : Wr B w g ph bs) (he : Ext w w') : Wr B w' g ph bs := by
  obtain ⟨cs, v, h1, h2, h3, h4⟩ := h.wr
  exact ⟨h.base, cs, v, h1.ext he, h2, h3, own_ext h4 he⟩
theorem Wr.lt {B g : Nat} {w : World} {ph : Bool} {bs : List UInt8} (h : Wr B w g ph bs) : B ≤ w.heap.size := by
  obtain ⟨cs, v, h1, h2, h3, h4⟩ := h.wr
  have := h1.lt
  have := h.base
  omega
/-- what was there ahead of block B is there yet -/
theorem Ext.below {W0 w w' : World} {B : Nat} (he : Ext W0 w) (hB : W0.heap.size ≤ B) (hb : Bel B w w') : Ext W0 w' := Below.trans he (hb.below.mono hB)

def pairB (x : Pr) : List UInt8 := nameB8 x.key ++ nameB8 x.val
def pairsB (xs : List Pr) : List UInt8 := numB xs.length 1 ++ xs.flatMap pairB
theorem pairB_len (x : Pr) : (pairB x).length = 16 := by simp [pairB, nameB8_len]
theorem flat_len {α : Type} {f : α → List UInt8} {c : Nat} (hf : ∀ x, (f x).length ≤ c) (l : List α) : (l.flatMap f).length ≤ c * l.length := by
  induction l with
  | nil => simp
  | cons x l ih => have := hf x; simp only [List.flatMap_cons, List.length_append, List.length_cons, Nat.mul_add, Nat.mul_one]; omega
theorem flat_snoc {α : Type} {f : α → List UInt8} {xs : List α} {k : Nat} {x : α} (h : xs[k]? = some x) : (xs.take (k + 1)).flatMap f = (xs.take k).flatMap f ++ f x := by
  rw [take_at h]; simp

theorem ofPair_any (x : Pr) (w : World) : Calls Tryz.prog 86 #[.agg #[.string x.key, .string x.val]] w fun e w' => e = .returned (.tuple #[.string x.key, .string x.val]) ∧ Ext w w' := by
  have HE : Hid (∀ o n, Ext w ((w.alloc o).drewN n)) := fun o n => ((Ext.refl w).alloc o).drewN n
  go_enter Tryz.func86, Tryz.ntmps86
  go_wp2_with fail
  go_region
  go_wp2_with fail
  go_ret2
  exact ⟨rfl, HE.out _ 1⟩

set_option maxHeartbeats 1000000 in
theorem putPair_any (B g : Nat) (bs : List UInt8) (A : Option Addr) (c : Nat) (xs : List Pr) (W0 w : World) (hE : Ext W0 w) (hB : W0.heap.size ≤ B) (hx : Sl RPair 2 W0 A xs) (hn : xs.length ≤ 6) (hl : bs.length ≤ 900000) (hw : Wr B w g true bs) :
    Calls Tryz.prog 85 #[.pointer (some ⟨g, 0, none⟩), .slice A xs.length c, .func (.func 86) #[] #[]] w (NPost B g true (bs ++ pairsB xs) w) := by
  have HX := Lib.hid hx
  have hBB := Lib.hid hB
  clear hx hB
  go_enter Tryz.func85, Tryz.ntmps85
  go_wp2_with fail
  refine (wNumI B g true bs _ _ _ (by omega) (by omega) (by omega) (by omega) (by omega) hw).mono ?_
  rintro e w1 ⟨rfl, b1, r1⟩
  rw [show ((xs.length : Int)).toNat = xs.length from rfl, show (1 : Int).toNat = 1 from rfl] at r1
  have HE0 := Lib.hid hE
  clear hw hE
  go_wp2_with fail
  go_loopw [16] (fun i wr => ∃ k : Nat, k ≤ xs.length ∧ i = .int .i64 k ∧ Bel B w wr ∧ Wr B wr g true (bs ++ numB xs.length 1 ++ (xs.take k).flatMap pairB)) (fun i _ => xs.length - (intOf i).toNat)
  case atStart => exact ⟨0, by omega, rfl, b1, by simpa using r1⟩
  case round =>
    obtain ⟨k, hk, rfl, hb, hr⟩ := hrel
    by_cases hlt : k < xs.length
    · have hErE : Hid (Ext W0 wr) := HE0.out.below hBB.out hb
      obtain ⟨ys, hys⟩ : ∃ ys, ys = bs ++ numB xs.length 1 ++ (xs.take k).flatMap pairB := ⟨_, rfl⟩
      have hlen : ys.length ≤ 900100 := by
        have h1 := flat_len (fun x => Nat.le_of_eq (pairB_len x)) (xs.take k)
        have h2 : (xs.take k).length ≤ 6 := by simp; omega
        rw [hys, List.length_append, List.length_append, numB_len]
        omega
      rw [← hys] at hr
      obtain ⟨b, o, x, hA, hxk, ok1, ok2, c0, c1⟩ := (HX.out.ext RPair.keeps hErE.out).pair hlt
      have HYS : Hid (bs ++ numB xs.length 1 ++ (xs.take (k + 1)).flatMap pairB = ys ++ nameB8 x.key ++ nameB8 x.val) := by
        show _ = _; rw [flat_snoc hxk, hys]; simp [pairB]
      subst hA
      clear hys hxk HX
      go_wp2_with fail
      refine (ofPair_any x _).mono ?_
      rintro e w2 ⟨rfl, e2⟩
      have hb2 : Bel B w w2 := (hb.alloc hr.lt _).trans (Bel.ext e2 (by simp; have := hr.lt; omega))
      have hr2 : Wr B w2 g true ys := (hr.alloc _).ext e2
      clear c0 c1 e2
      go_wp2_with fail
      refine (wName_any B g true ys x.key _ ok1 (by omega) hr2).mono ?_
      rintro e w3 ⟨rfl, b3, r3⟩
      go_wp2_with fail
      refine (wName_any B g true (ys ++ nameB8 x.key) x.val _ ok2 (by rw [List.length_append, nameB8_len]; omega) r3).mono ?_
      rintro e w4 ⟨rfl, b4, r4⟩
      have FIN := Lib.hid ((hb2.trans b3).trans b4)
      clear hb2 b3 b4 hb hr
      go_wp2_with fail
      go_roundw
      case rel => exact ⟨k + 1, by omega, by go_num, FIN.out, by rw [HYS.out]; exact r4⟩
      case measure => simp [intOf]; omega
    · go_wp2_with fail
      go_end0
      refine ⟨rfl, hb, ?_⟩
      rw [List.take_of_length_le (by omega), List.append_assoc] at hr
      exact hr
end Go.Proofs.YthfafenigjldlaaGreat

/-
  The walks of package code: putRes, putTerms.
-/
namespace Go.Proofs.YthfafenigjldlaaGreat
open Go.RowKit
set_option linter.unusedVariables false

def resB (r : Rs) : List UInt8 := numB r.a.toNat 4 ++ numB r.b.toNat 4 ++ numB r.c.toNat 4
def resL (r : Rs) : Nat → List UInt8
  | 0 => []
  | 1 => numB r.a.toNat 4
  | 2 => numB r.a.toNat 4 ++ numB r.b.toNat 4
  | _ => resB r
theorem resB_len (r : Rs) : (resB r).length = 12 := by simp [resB, numB_len]
theorem resL_len (r : Rs) (k : Nat) : (resL r k).length ≤ 12 := by
  unfold resL
  split <;> simp [resB, numB_len]
theorem below_alloc {B g : Nat} {w : World} {ph : Bool} {bs : List UInt8} (h : Wr B w g ph bs) (o : Obj) : Bel B w (w.alloc o) := (Bel.refl B w).alloc h.lt o

set_option maxHeartbeats 400000 in
theorem putRes_any (B g : Nat) (ph : Bool) (bs : List UInt8) (r : Rs) (w : World) (ha : 0 ≤ r.a) (ha' : r.a ≤ 1000000000) (hb : 0 ≤ r.b) (hb' : r.b ≤ 1000000000) (hc : 0 ≤ r.c) (hc' : r.c ≤ 1000000000) (hl : bs.length ≤ 900000) (hw : Wr B w g ph bs) :
    Calls Tryz.prog 84 #[.pointer (some ⟨g, 0, none⟩), .agg #[.int .i64 r.a, .int .i64 r.b, .int .i64 r.c]] w (NPost B g ph (bs ++ resB r) w) := by
  have i0 : ∀ w, (Instr.index 56 (.agg #[.int .i64 r.a, .int .i64 r.b, .int .i64 r.c]) (.int .i64 0)).run Tryz.prog w = .ok (.int .i64 r.a) w := fun _ => by kernel_rfl
  have i1 : ∀ w, (Instr.index 56 (.agg #[.int .i64 r.a, .int .i64 r.b, .int .i64 r.c]) (.int .i64 1)).run Tryz.prog w = .ok (.int .i64 r.b) w := fun _ => by kernel_rfl
  have i2 : ∀ w, (Instr.index 56 (.agg #[.int .i64 r.a, .int .i64 r.b, .int .i64 r.c]) (.int .i64 2)).run Tryz.prog w = .ok (.int .i64 r.c) w := fun _ => by kernel_rfl
  have HB0 := Lib.hid (below_alloc hw)
  have HW0 := Lib.hid (hw.alloc)
  clear hw
  go_enter Tryz.func84, Tryz.ntmps84
  go_wp2_with fail
  go_loopw [7] (fun i wr => ∃ k : Nat, k ≤ 3 ∧ i = .int .i64 k ∧ Bel B w wr ∧ Wr B wr g ph (bs ++ resL r k)) (fun i _ => 3 - (intOf i).toNat)
  case atStart => exact ⟨0, by omega, rfl, HB0.out _, by simpa [resL] using HW0.out _⟩
  case round =>
    obtain ⟨k, hk, rfl, h1, h2⟩ := hrel
    rcases (show k = 0 ∨ k = 1 ∨ k = 2 ∨ k = 3 by omega) with rfl | rfl | rfl | rfl
    · go_wp2_with fail
      refine (wNumI B g ph _ _ _ _ ha (by omega) (by omega) (by omega) (by have := resL_len r 0; rw [List.length_append]; omega) h2).mono ?_
      rintro e w1 ⟨rfl, b1, r1⟩
      replace b1 := h1.trans b1
      go_wp2_with fail
      go_roundw
      case rel => exact ⟨1, by omega, by go_num, b1, by simpa [resL] using r1⟩
      case measure => simp [intOf]
    · go_wp2_with fail
      refine (wNumI B g ph _ _ _ _ hb (by omega) (by omega) (by omega) (by have := resL_len r 1; rw [List.length_append]; omega) h2).mono ?_
      rintro e w1 ⟨rfl, b1, r1⟩
      replace b1 := h1.trans b1
      go_wp2_with fail
      go_roundw
      case rel => exact ⟨2, by omega, by go_num, b1, by simpa [resL] using r1⟩
      case measure => simp [intOf]
    · go_wp2_with fail
      refine (wNumI B g ph _ _ _ _ hc (by omega) (by omega) (by omega) (by have := resL_len r 2; rw [List.length_append]; omega) h2).mono ?_
      rintro e w1 ⟨rfl, b1, r1⟩
      replace b1 := h1.trans b1
      go_wp2_with fail
      go_roundw
      case rel => exact ⟨3, by omega, by go_num, b1, by simpa [resL, resB] using r1⟩
      case measure => simp [intOf]
    · go_wp2_with fail
      go_end0
      exact ⟨rfl, h1, by simpa [resL] using h2⟩

def valsB (xs : List ByteArray) : List UInt8 := numB xs.length 1 ++ xs.flatMap nameB8
def termB (t : Tm) : List UInt8 := nameB8 t.key ++ numB t.kind.toNat 1 ++ valsB t.vals
def termsB (xs : List Tm) : List UInt8 := numB xs.length 1 ++ xs.flatMap termB
theorem valsB_len (xs : List ByteArray) (h : xs.length ≤ 6) : (valsB xs).length ≤ 49 := by
  have := flat_len (fun x => Nat.le_of_eq (nameB8_len x)) xs
  rw [valsB, List.length_append, numB_len]; omega
def okT (t : Tm) : Prop := 0 ≤ t.kind ∧ t.vals.length ≤ 6
theorem termB_len (t : Tm) (h : okT t) : (termB t).length ≤ 58 := by
  have := valsB_len t.vals h.2
  rw [termB, List.length_append, List.length_append, nameB8_len, numB_len]; omega
theorem flat_len_all {α : Type} {f : α → List UInt8} {c : Nat} : ∀ (l : List α), (∀ x ∈ l, (f x).length ≤ c) → (l.flatMap f).length ≤ c * l.length
  | [], _ => by simp
  | x :: l, h => by
    have h1 := h x (by simp)
    have h2 := flat_len_all l (fun y hy => h y (by simp [hy]))
    simp only [List.flatMap_cons, List.length_append, List.length_cons, Nat.mul_add, Nat.mul_one]; omega

set_option maxHeartbeats 1000000 in
theorem putTerms_any (B g : Nat) (bs : List UInt8) (A : Option Addr) (c : Nat) (xs : List Tm) (W0 w : World) (hE : Ext W0 w) (hB : W0.heap.size ≤ B) (hx : Sl RTerm 3 W0 A xs) (hn : xs.length ≤ 6) (hok : ∀ x ∈ xs, okT x) (hl : bs.length ≤ 900000) (hw : Wr B w g true bs) :
    Calls Tryz.prog 87 #[.pointer (some ⟨g, 0, none⟩), .slice A xs.length c] w (NPost B g true (bs ++ termsB xs) w) := by
  have HX := Lib.hid hx
  have HOK := Lib.hid hok
  have hBB := Lib.hid hB
  clear hx hB hok
  go_enter Tryz.func87, Tryz.ntmps87
  go_wp2_with fail
  refine (wNumI B g true bs _ _ _ (by omega) (by omega) (by omega) (by omega) (by omega) hw).mono ?_
  rintro e w1 ⟨rfl, b1, r1⟩
  rw [show ((xs.length : Int)).toNat = xs.length from rfl, show (1 : Int).toNat = 1 from rfl] at r1
  have HE0 := Lib.hid hE
  clear hw hE
  go_wp2_with fail
  go_loopw [14] (fun i wr => ∃ k : Nat, k ≤ xs.length ∧ i = .int .i64 k ∧ Bel B w wr ∧ Wr B wr g true (bs ++ numB xs.length 1 ++ (xs.take k).flatMap termB)) (fun i _ => xs.length - (intOf i).toNat)
  case atStart => exact ⟨0, by omega, rfl, b1, by simpa using r1⟩
  case round =>
    obtain ⟨k, hk, rfl, hb, hr⟩ := hrel
    by_cases hlt : k < xs.length
    · have hErE : Hid (Ext W0 wr) := HE0.out.below hBB.out hb
      obtain ⟨ys, hys⟩ : ∃ ys, ys = bs ++ numB xs.length 1 ++ (xs.take k).flatMap termB := ⟨_, rfl⟩
      have hlen : ys.length ≤ 900400 := by
        have h1 := flat_len_all (f := termB) (c := 58) (xs.take k) (fun x hx => termB_len x (HOK.out x (List.mem_of_mem_take hx)))
        have h2 : (xs.take k).length ≤ 6 := by simp; omega
        rw [hys, List.length_append, List.length_append, numB_len]
        omega
      rw [← hys] at hr
      obtain ⟨b, o, x, A', c', hA, hxk, ok1, ok2, l1, l2, hv, d0, d1, d2⟩ := HX.out.term hlt
      have c0 := hErE.out.cell d0
      have c1 := hErE.out.cell d1
      have c2 := hErE.out.cell d2
      clear d0 d1 d2
      have HYS : Hid (bs ++ numB xs.length 1 ++ (xs.take (k + 1)).flatMap termB = ys ++ nameB8 x.key ++ numB x.kind.toNat 1 ++ numB x.vals.length 1 ++ x.vals.flatMap nameB8) := by
        show _ = _; rw [flat_snoc hxk, hys]; simp [termB, valsB]
      have HT : okT x := HOK.out x (List.mem_of_getElem? hxk)
      obtain ⟨k1, k2⟩ := HT
      have HV := Lib.hid hv
      subst hA
      clear hys hxk HX hv
      have HR := Lib.hid hr
      have HBX := Lib.hid hb
      obtain ⟨BX, hBX⟩ : ∃ n, n = wr.heap.size := ⟨_, rfl⟩
      obtain ⟨W1, hW⟩ : ∃ W1, wr.alloc (.cells #[.string x.key, .int .i64 x.kind, .slice A' x.vals.length c'] 41) = W1 := ⟨_, rfl⟩
      have hst : Still W1 BX := by
        rw [← hW, hBX]; exact ⟨_, _, _, heap_alloc_new wr _, by decide, by decide⟩
      have hbx : W1.heap[BX]? = some (.cells #[.string x.key, .int .i64 x.kind, .slice A' x.vals.length c'] 41 (0, 0)) := by
        rw [← hW, hBX]; exact heap_alloc_new wr _
      have hr1 : Wr B W1 g true ys := by rw [← hW]; exact hr.alloc _
      have hb1 : Bel B W1 W1 := Bel.refl _ _
      have hbw : Bel B w W1 := by rw [← hW]; exact hb.alloc hr.lt _
      have HX1 : Hid (Ext W0 W1) := by rw [← hW]; exact hErE.out.alloc _
      have HS : Hid (∀ wx, Bel B W1 wx → wx.cell? ⟨BX, 0, none⟩ = some (.string x.key) ∧ wx.cell? ⟨BX, 1, none⟩ = some (.int .i64 x.kind) ∧ wx.cell? ⟨BX, 2, none⟩ = some (.slice A' x.vals.length c')) := fun wx hx => by
        have e := (hx.still BX hst).trans hbx
        simp [World.cell?, e]
      have HBW := Lib.hid hbw
      have HV' : Hid (∀ wx, Bel B W1 wx → Sl RStr 1 wx A' x.vals) := fun wx hx => HV.out.ext RStr.keeps (HX1.out.below hBB.out hx)
      clear hr hb HV hst hbx hErE
      subst hBX
      obtain ⟨s0, s1, s2⟩ := HS.out _ hb1
      clear hb1
      go_wp2_with fail
      clear c0 c1 c2
      refine (wName_any B g true ys x.key _ ok1 (by omega) ?g1).mono ?_
      case g1 => first | exact hr1 | (rw [hW]; exact hr1)
      try rw [hW]
      rintro e w2 ⟨rfl, b2, r2⟩
      clear s0 s1 s2
      obtain ⟨c0, c1, c2⟩ := HS.out _ b2
      go_wp2_with fail
      refine (wNumI B g true (ys ++ nameB8 x.key) _ _ _ k1 (by have := ok2.2; omega) (by omega) (by omega) (by rw [List.length_append, nameB8_len]; omega) r2).mono ?_
      rintro e w3 ⟨rfl, b3, r3⟩
      replace b3 := b2.trans b3
      clear c0 c1 c2 b2
      obtain ⟨c0, c1, c2⟩ := HS.out _ b3
      go_wp2_with fail
      refine (wNumI B g true (ys ++ nameB8 x.key ++ numB x.kind.toNat 1) _ _ _ (by omega) (by omega) (by omega) (by omega) (by rw [List.length_append, List.length_append, nameB8_len, numB_len]; omega) r3).mono ?_
      rintro e w4 ⟨rfl, b4, r4⟩
      replace b4 := b3.trans b4
      clear c0 c1 c2 b3
      obtain ⟨c0, c1, c2⟩ := HS.out _ b4
      go_wp2_with fail
      go_loopw [34] (fun i wx => ∃ m : Nat, m ≤ x.vals.length ∧ i = .int .i64 m ∧ Bel B W1 wx ∧ Wr B wx g true (ys ++ nameB8 x.key ++ numB x.kind.toNat 1 ++ numB x.vals.length 1 ++ (x.vals.take m).flatMap nameB8)) (fun i _ => x.vals.length - (intOf i).toNat)
      case atStart => exact ⟨0, by omega, rfl, b4, by simpa using r4⟩
      case round =>
        obtain ⟨m, hm, rfl, hb5, hr5⟩ := hrel
        by_cases hlt2 : m < x.vals.length
        · obtain ⟨zs, hzs⟩ : ∃ zs, zs = ys ++ nameB8 x.key ++ numB x.kind.toNat 1 ++ numB x.vals.length 1 ++ (x.vals.take m).flatMap nameB8 := ⟨_, rfl⟩
          have hzl : zs.length ≤ 900600 := by
            have h1 := flat_len (fun x => Nat.le_of_eq (nameB8_len x)) (x.vals.take m)
            have h2 : (x.vals.take m).length ≤ 6 := by simp; omega
            rw [hzs]
            simp only [List.length_append, nameB8_len, numB_len]
            omega
          rw [← hzs] at hr5
          obtain ⟨b', o', y, hA', hyk, oky, d0⟩ := (HV'.out _ hb5).str hlt2
          have HZ : Hid (ys ++ nameB8 x.key ++ numB x.kind.toNat 1 ++ numB x.vals.length 1 ++ (x.vals.take (m + 1)).flatMap nameB8 = zs ++ nameB8 y) := by
            show _ = _; rw [flat_snoc hyk, hzs]; simp
          subst hA'
          clear hzs hyk c0 c1 c2
          go_wp2_with fail
          refine (wName_any B g true zs y _ oky (by omega) hr5).mono ?_
          rintro e w6 ⟨rfl, b6, r6⟩
          replace b6 := hb5.trans b6
          go_wp2_with fail
          go_roundw
          case rel => exact ⟨m + 1, by omega, by go_num, b6, by rw [HZ.out]; exact r6⟩
          case measure => simp [intOf]; omega
        · have hr6 := hr5
          rw [List.take_of_length_le (by omega), ← HYS.out] at hr6
          have HR6 := Lib.hid hr6
          have HB6 := Lib.hid (hbw.trans hb5)
          clear hr5 hr6
          go_wp2_with fail
          go_roundw
          case rel => exact ⟨k + 1, by omega, by go_num, HB6.out, HR6.out⟩
          case measure => simp [intOf]; omega
    · go_wp2_with fail
      go_end0
      refine ⟨rfl, hb, ?_⟩
      rw [List.take_of_length_le (by omega), List.append_assoc] at hr
      exact hr
end Go.Proofs.YthfafenigjldlaaGreat

/-
  The walks of package code: PutLease.
-/
namespace Go.Proofs.YthfafenigjldlaaGreat
open Go.RowKit
set_option linter.unusedVariables false

def leaseOk (k n : Int) : Bool := decide (0 ≤ k) && decide (k ≤ 7) && decide (1 ≤ n) && decide (n ≤ 1099511627776)
def leaseB (k n : Int) : List UInt8 := numB 3 1 ++ numB k.toNat 1 ++ numB n.toNat 8
def putLeaseB (k n : Int) : List UInt8 := if leaseOk k n then leaseB k n else []

theorem Wr.new (w : World) : Wr w.heap.size (w.alloc (.cells (newC [.slice none 0 0]) 130)) w.heap.size false [] :=
  ⟨Nat.le_refl _, _, _, WB.new _ _ _, newC_tab _, newC_at _ 0, rfl, .inl ⟨rfl, rfl⟩⟩
theorem own_base {w : World} {base base' : Nat} {T : TypeId} {size n : Nat} {v : Value} {xs : List Value} (h : w.ownsRow base T size v n xs) (hb : base' ≤ base) : w.ownsRow base' T size v n xs := by
  refine ⟨h.1, ?_⟩
  rcases h.2 with h | ⟨g', cap, cur, rfl, hg', r⟩
  · exact .inl h
  · exact .inr ⟨g', cap, cur, rfl, by omega, r⟩
theorem cl_nil (w w' : World) (he : Ext w w') : ClPost 5 1 (([] : List UInt8)).length (([] : List UInt8).map byV) w (.returned (.slice none 0 0)) w' := ⟨_, rfl, ⟨rfl, .inl ⟨rfl, rfl⟩⟩, he⟩

set_option maxRecDepth 100000 in
set_option maxHeartbeats 1000000 in
theorem putLease_any (k n : Int) (w : World) (hk : inI k) (hn : inI n) :
    Calls Tryz.prog 57 #[.agg #[.int .i64 k, .int .i64 n]] w (ClPost 5 1 (putLeaseB k n).length ((putLeaseB k n).map byV) w) := by
  have B := boxed w [.int .i64 k, .int .i64 n] 85
  have k0 := B 0 _ rfl
  have k1 := B 1 _ rfl
  have he := boxedExt w [.int .i64 k, .int .i64 n] 85
  clear B
  obtain ⟨W1, hW⟩ : ∃ W1, w.alloc (.cells #[.int .i64 k, .int .i64 n] 85) = W1 := ⟨_, rfl⟩
  rw [show (w.alloc (.cells ([.int .i64 k, .int .i64 n] : List Value).toArray 85)) = W1 from hW] at k0 k1 he
  have HE := Lib.hid he
  have E : Ext W1 W1 := Ext.refl _
  clear he
  by_cases hok : leaseOk k n = true
  · have hb : putLeaseB k n = leaseB k n := by unfold putLeaseB; rw [if_pos hok]
    rw [hb]
    simp only [leaseOk, Bool.and_eq_true, decide_eq_true_eq] at hok
    obtain ⟨⟨⟨o1, o2⟩, o3⟩, o4⟩ := hok
    clear hb
    go_enter Tryz.func57, Tryz.ntmps57
    go_wp2_with (first
      | (refine wpList_value (o := ⟨some 3, _, _, _, _, _⟩) rfl (v := .pointer (some ⟨W1.heap.size, 0, none⟩)) (w' := W1.alloc (.cells (newC [.slice none 0 0]) 130)) (by kernel_rfl) ?_
         simp only [Act.put, List.setIfInBounds_toArray, List.set_cons_succ, List.set_cons_zero]))
    refine (wNumI W1.heap.size W1.heap.size false [] 3 1 _ (by omega) (by omega) (by omega) (by omega) (by simp) (Wr.new W1)).mono ?_
    rintro e w2 ⟨rfl, b2, r2⟩
    replace E : Ext W1 w2 := Below.trans ((Ext.refl W1).alloc _) b2.below
    clear b2
    go_wp2_with fail
    refine (wNumI W1.heap.size W1.heap.size false _ _ 1 _ (by omega) (by omega) (by omega) (by omega) (by rw [List.length_append, numB_len]; simp) r2).mono ?_
    rintro e w3 ⟨rfl, b3, r3⟩
    replace E : Ext W1 w3 := Below.trans E b3.below
    clear b3
    go_wp2_with fail
    refine (wNumI W1.heap.size W1.heap.size false _ _ 8 _ (by omega) (by omega) (by omega) (by omega) (by rw [List.length_append, List.length_append, numB_len, numB_len]; simp) r3).mono ?_
    rintro e w4 ⟨rfl, b4, r4⟩
    replace E : Ext W1 w4 := Below.trans E b4.below
    clear b4
    have r5 : Wr W1.heap.size w4 W1.heap.size false (leaseB k n) := by simpa [leaseB] using r4
    have hlen : (leaseB k n).length ≤ 1000000 := by simp [leaseB, numB_len]
    clear r4
    go_wp2_with fail
    refine (wBytes_any _ _ _ _ _ hlen r5).mono ?_
    rintro e w5 ⟨v, rfl, h1, h2⟩
    have hsz := Nat.le_trans HE.out.size E.size
    have HF := Lib.hid (own_base h1 hsz)
    have H2 := Lib.hid (HE.out.trans (E.trans h2))
    clear h1 h2
    go_wp2_with fail
    go_ret
    exact ⟨v, rfl, HF.out, H2.out⟩
  · have hb : putLeaseB k n = [] := by unfold putLeaseB; rw [if_neg hok]
    rw [hb]
    have HOK : Hid (¬ leaseOk k n = true) := hok
    clear hok hb
    by_cases h1 : k < 0
    · go_enter Tryz.func57, Tryz.ntmps57
      go_wp2_with fail
      go_ret
      exact cl_nil _ _ (HE.out.trans E)
    by_cases h2 : 7 < k
    · go_enter Tryz.func57, Tryz.ntmps57
      go_wp2_with fail
      go_ret
      exact cl_nil _ _ (HE.out.trans E)
    by_cases h3 : n < 1
    · go_enter Tryz.func57, Tryz.ntmps57
      go_wp2_with fail
      go_ret
      exact cl_nil _ _ (HE.out.trans E)
    by_cases h4 : 1099511627776 < n
    · go_enter Tryz.func57, Tryz.ntmps57
      go_wp2_with fail
      go_ret
      exact cl_nil _ _ (HE.out.trans E)
    exact absurd (by simp [leaseOk]; omega) HOK.out
end Go.Proofs.YthfafenigjldlaaGreat
