/-
  The walk of slices.Reverse at bytes, onto a row of the call's own.
-/
import Derived.Test.YthfafenigjldlaaGreatRead1
import Derived.Laws.BytesArg
namespace Go.Proofs.YthfafenigjldlaaGreat
open Go.RowKit
set_option linter.unusedVariables false

/-- behind k exchanges place i holds what stood at .. -/
def revI (n k i : Nat) : Nat := if i < k ∨ n - 1 - k < i then n - 1 - i else i
/-- the row's block, its first cells, behind k exchanges -/
structure RevInv (g' : Nat) (bs : List UInt8) (k : Nat) (cur : Array Value) (w wr : World) : Prop where
  keep : Keep (fun k => k = g') w wr
  blk : ∃ cur', WB wr g' 5 cur' ∧ cur'.size = cur.size ∧ ∀ (i : Nat) (x : UInt8), i < bs.length → bs[revI bs.length k i]? = some x → cur'[i]? = some (byV x)

theorem Keep.drewN' {S : Nat → Prop} {a w : World} (h : Keep S a w) : Keep S a w.drew := h.drew

theorem rev_step {g' k m : Nat} {bs : List UInt8} {x y : UInt8} {cur cur1 : Array Value} {w wr : World} (hm : m = bs.length - 1 - k) (hkm : k < m) (hml : m < bs.length) (hx : bs[k]? = some x) (hy : bs[m]? = some y)
    (hi : RevInv g' bs k cur w wr) (b1 : WB wr g' 5 cur1) (b2 : cur1.size = cur.size) (b3 : ∀ (i : Nat) (x : UInt8), i < bs.length → bs[revI bs.length k i]? = some x → cur1[i]? = some (byV x)) :
    RevInv g' bs (k + 1) cur w (((wr.setCell ⟨g', k, none⟩ (byV y)).setCell ⟨g', m, none⟩ (byV x)).drew) := by
  have ck := b3 k x (by omega) (by rw [show revI bs.length k k = k by simp [revI]; omega]; exact hx)
  have cm := b3 m y hml (by rw [show revI bs.length k m = m by simp [revI]; omega]; exact hy)
  refine ⟨((hi.keep.setCell (p := ⟨g', k, none⟩) rfl _).setCell (p := ⟨g', m, none⟩) rfl _).drew, _, ((b1.set k _).set m _).drew, by simp [b2], fun i z hil hz => ?_⟩
  have cm' : (cur1.setIfInBounds k (byV y))[m]? = some (byV y) := by rw [Array.getElem?_setIfInBounds_ne (by omega)]; exact cm
  rw [set_at cm', set_at ck]
  by_cases e1 : i = m
  · subst e1
    rw [if_pos rfl]
    rw [show revI bs.length (k + 1) i = k by unfold revI; split <;> omega, hx] at hz
    injection hz with hz
    rw [hz]
  · rw [if_neg e1]
    by_cases e2 : i = k
    · subst e2
      rw [if_pos rfl]
      rw [show revI bs.length (i + 1) i = m by unfold revI; split <;> omega, hy] at hz
      injection hz with hz
      rw [hz]
    · rw [if_neg e2]
      refine b3 i z hil ?_
      rw [show revI bs.length k i = revI bs.length (k + 1) i by unfold revI; split <;> split <;> omega]
      exact hz

set_option maxHeartbeats 1000000 in
theorem rev_any (g' c : Nat) (bs : List UInt8) (cur : Array Value) (w : World) (hl : bs.length ≤ 1000000) (h0 : 0 < bs.length) (hw : WB w g' 5 cur) (hc : ∀ (i : Nat) (x : UInt8), bs[i]? = some x → cur[i]? = some (byV x)) :
    Calls Tryz.prog 122 #[.slice (some ⟨g', 0, none⟩) bs.length c] w fun e w' => e = .returned (.tuple #[]) ∧ Keep (fun k => k = g') w w' ∧
      ∃ cur', WB w' g' 5 cur' ∧ cur'.size = cur.size ∧ ∀ (i : Nat) (x : UInt8), i < bs.length → bs[bs.length - 1 - i]? = some x → cur'[i]? = some (byV x) := by
  have H0 : Hid (RevInv g' bs 0 cur w w) := ⟨Keep.refl _ _, cur, hw, rfl, fun i x hi hx => hc i x (by simpa [revI, show ¬ bs.length - 1 < i by omega] using hx)⟩
  have s0 : IntKind.i64.wrap ((bs.length : Int) - 1) = ((bs.length - 1 : Nat) : Int) := by rw [IntWalk.i64_in _ (by omega)]; omega
  clear hw hc
  go_enter Tryz.func122, Tryz.ntmps122
  go_wp2_with fail
  go_loopw [2, 3] (fun i j wr => ∃ k : Nat, k < bs.length ∧ 2 * k ≤ bs.length ∧ i = .int .i64 k ∧ j = .int .i64 ((bs.length : Int) - 1 - k) ∧ RevInv g' bs k cur w wr) (fun i _ _ => bs.length - (intOf i).toNat)
  case atStart => exact ⟨0, h0, by omega, rfl, by go_num, H0.out⟩
  case round =>
    obtain ⟨k, hk, hk2, rfl, rfl, hi⟩ := hrel
    by_cases hlt : (k : Int) < (bs.length : Int) - 1 - k
    · obtain ⟨cur1, b1, b2, b3⟩ := hi.blk
      obtain ⟨m, hm⟩ : ∃ m, m = bs.length - 1 - k := ⟨_, rfl⟩
      have em : (bs.length : Int) - 1 - k = (m : Int) := by omega
      have hkm : k < m := by omega
      have hml : m < bs.length := by omega
      rw [em] at hlt ⊢
      obtain ⟨x, hx⟩ := get_of hk
      obtain ⟨y, hy⟩ := get_of hml
      have ck := b1.cell (b3 k x hk (by rw [show revI bs.length k k = k by simp [revI]; omega]; exact hx))
      have cm := b1.cell (b3 m y hml (by rw [show revI bs.length k m = m by simp [revI]; omega]; exact hy))
      have zk := b1.fr k
      have zm := b1.fr m
      unfold byV at ck cm
      have hne : ¬ k = m := by omega
      have hne' : ¬ m = k := by omega
      have i1 : (k : Int) < bs.length := by omega
      have i2 : (m : Int) < bs.length := by omega
      have HM := Lib.hid hm
      have B1 := Lib.hid b1
      have B3 := Lib.hid b3
      have B2 := Lib.hid b2
      clear hm em b1 b2 b3 s0
      go_wp2_with fail
      go_region
      go_wp2_with fail
      have FIN : RevInv g' bs (k + 1) cur w (((wr.setCell ⟨g', k, none⟩ (.int .u8 (y.toNat : Int))).setCell ⟨g', m, none⟩ (.int .u8 (x.toNat : Int))).drew) :=
        rev_step HM.out hkm hml hx hy hi B1.out B2.out B3.out
      go_roundw
      case rel =>
        have hm2 := HM.out
        exact ⟨k + 1, by omega, by omega, by go_num, by rw [show ((m : Int) - 1) = (bs.length : Int) - 1 - ((k + 1 : Nat) : Int) by have := HM.out; omega], FIN⟩
      case measure => simp [intOf]; omega
    · go_wp2_with fail
      go_end0
      obtain ⟨cur1, b1, b2, b3⟩ := hi.blk
      refine ⟨rfl, hi.keep, cur1, b1, b2, fun i x hil hx => b3 i x hil ?_⟩
      unfold revI
      split
      · exact hx
      · rw [show i = bs.length - 1 - i by omega]; exact hx
end Go.Proofs.YthfafenigjldlaaGreat

/-
  The walk of package wire: the Reader's Name.
-/
namespace Go.Proofs.YthfafenigjldlaaGreat
open Go.RowKit
set_option linter.unusedVariables false

theorem rev_zero (A : Option Addr) (c : Nat) (w : World) : Calls Tryz.prog 122 #[.slice A 0 c] w fun e w' => e = .returned (.tuple #[]) ∧ w = w' := by
  go_enter Tryz.func122, Tryz.ntmps122
  go_wp2_with fail
  go_loopw [2, 3] (fun i j wr => i = .int .i64 0 ∧ j = .int .i64 (-1) ∧ w = wr) (fun i _ _ => 0)
  case atStart => exact ⟨rfl, rfl, rfl⟩
  case round =>
    obtain ⟨rfl, rfl, rfl⟩ := hrel
    go_wp2_with fail
    go_end0
    exact ⟨rfl, rfl⟩

/-! ### names, read -/
def bkB (d : Nat) : UInt8 := UInt8.ofNat (tb1.b d)
theorem adds_b_le {M : Nat} (l : List Nat) : ∀ (t : Tb) (n : Nat), (∀ b, t.b b ≤ M) → (∀ x ∈ l, x ≤ M) → ∀ b, (t.adds n l).b b ≤ M := by
  induction l with
  | nil => intro t n h _ b; exact h b
  | cons x l ih =>
    intro t n h hx b
    refine ih _ _ (fun b => ?_) (fun y hy => hx y (by simp [hy])) b
    simp only [Tb.add, updN]
    split
    · exact hx x (by simp)
    · exact h b
theorem bk_le (d : Nat) : tb1.b d ≤ 122 :=
  adds_b_le (M := 122) (letters.take 37) ({ tb0 with m := 1 } : Tb) 0 (fun _ => Nat.zero_le _) (by decide) d
theorem bkB_val (d : Nat) : ((bkB d).toNat : Int) = (tb1.b d : Nat) := by
  have := bk_le d
  simp only [bkB, UInt8.toNat_ofNat']
  omega
/-- the digits of the first k rounds, as bytes -/
def decL (u : Nat) : Nat → List UInt8
  | 0 => []
  | k + 1 => decL u k ++ (if u / 38 ^ k % 38 = 0 then [] else [bkB (u / 38 ^ k % 38)])
theorem decL_len (u k : Nat) : (decL u k).length ≤ k := by
  induction k with
  | zero => simp [decL]
  | succ k ih => simp only [decL, List.length_append]; split <;> simp <;> omega
def nameOf (u : Nat) : ByteArray := ⟨(decL u 12).reverse.toArray⟩
def uOf (n : Int) : Nat := (n % 18446744073709551616).toNat
def nameFR (bs : List UInt8) (bad : Bool) : ByteArray × List UInt8 × Bool := (nameOf (uOf (numF 8 bs bad).1), (numF 8 bs bad).2)
def RSPost (g : Nat) (ph : Bool) (r : ByteArray × List UInt8 × Bool) (w : World) (e : Ending) (w' : World) : Prop := e = .returned (.string r.1) ∧ Keep (fun k => k = g) w w' ∧ Rd w' g ph r.2.1 r.2.2

theorem Rd.keepTail {g : Nat} {ph' : Bool} {bs : List UInt8} {bad : Bool} {w w' : World} {cs cs' : Array Value} {A : Option Addr} {c : Nat} (hl : bs.length ≤ 4611686018427387904) (h3 : cs[297]? = some (.slice A bs.length c)) (h4 : cs[298]? = some (.bool bad)) (h5 : bs.length ≤ c) (h6 : c ≤ maxLen) (h7 : Bys w g A bs)
    (k : Keep (fun k => k = g) w w') (hw : WB w' g 166 cs') (ht : TabA cs' (tbP ph')) (hc : Tail cs cs') : Rd w' g ph' bs bad :=
  ⟨hl, cs', A, c, hw, ht, (hc.2 297 (by omega)).trans h3, (hc.2 298 (by omega)).trans h4, h5, h6, h7.keep k⟩
theorem Rd.other {g : Nat} {ph : Bool} {bs : List UInt8} {bad : Bool} {w w' : World} (h : Rd w g ph bs bad) (he : Ext w w') : Rd w' g ph bs bad := by
  obtain ⟨cs, A, c, h1, h2, h3, h4, h5, h6, h7⟩ := h.rd
  exact ⟨h.len, cs, A, c, h1.ext he, h2, h3, h4, h5, h6, h7.keep (Keep.ext he)⟩

theorem own_ge {w : World} {base : Nat} {e : TypeId} {size n : Nat} {v : Value} {xs : List Value} (h : w.ownsRow base e size v n xs) (k : Nat) (hk : v.ownBlock = some k) : base ≤ k := by
  rcases h.2 with ⟨rfl, _⟩ | ⟨g', cap, cur, rfl, hg, _⟩
  · simp [Value.ownBlock] at hk
  · simp [Value.ownBlock] at hk; omega
/-- a row of bytes as a string -/
theorem conv_row {w : World} {g' cap : Nat} {bs : List UInt8} {cur : Array Value} (h0 : 0 < bs.length) (hw : WB w g' 5 cur) (hc : ∀ (i : Nat) (x : UInt8), bs[i]? = some x → cur[i]? = some (byV x)) :
    (convert 42 9 (.slice (some ⟨g', 0, none⟩) bs.length cap)).run Tryz.prog w = .ok (.string ⟨bs.toArray⟩) w := by
  have := run_convert_bytes_arg (P := Tryz.prog) w 42 5 Tryz.underlying42 Tryz.underlying5 g' 0 bs.length cap (bs.map fun b => (b.toNat : Int)) (by simp) (fun i hi => by
    obtain ⟨x, hx⟩ := get_of hi
    have := hw.cell (hc i x hx)
    rw [Nat.zero_add, this]
    simp [List.getD, List.getElem?_map, hx, byV]) 9 Tryz.underlying9
  have e : strOfNums (bs.map fun b => (b.toNat : Int)) = ⟨bs.toArray⟩ := by
    unfold strOfNums
    rw [List.map_map]
    have : ((fun n : Int => UInt8.ofNat n.toNat) ∘ fun b : UInt8 => (b.toNat : Int)) = id := by funext b; simp
    rw [this, List.map_id]
  rw [this, e]

set_option maxHeartbeats 2000000 in
set_option maxRecDepth 10000 in
theorem rdName_any (g : Nat) (ph : Bool) (bs : List UInt8) (bad : Bool) (w : World) (hr : Rd w g ph bs bad) :
    Calls Tryz.prog 95 #[.pointer (some ⟨g, 0, none⟩)] w (RSPost g true (nameFR bs bad) w) := by
  obtain ⟨i0, hi0, hz0, hz1, hz2⟩ := info_parts u8_info
  obtain ⟨cs, A, c, h1, h2, h3, h4, h5, h6, h7⟩ := hr.rd
  have HM : Hid (Calls Tryz.prog 120 #[.pointer (some ⟨g, 0, none⟩)] w fun e w' => e = .returned (.tuple #[]) ∧ Keep (fun k => k = g) w w' ∧ Rd w' g true bs bad) :=
    (make_any g _ cs ph w h1 h2).mono fun e w' ⟨p1, p2, cs', p3, p4, p5⟩ => ⟨p1, p2, Rd.keepTail hr.len h3 h4 h5 h6 h7 p2 p3 p4 p5⟩
  clear h1 h2 h3 h4 h5 h6 h7 hr
  have HR : Hid (∀ n bs' bad', (n, bs', bad') = numF 8 bs bad → nameFR bs bad = (nameOf (uOf n), bs', bad')) := fun n bs' bad' h => by unfold nameFR; rw [← h]
  go_enter Tryz.func95, Tryz.ntmps95
  go_wp2_with fail
  refine HM.out.mono ?_
  rintro e w1 ⟨rfl, k1, r1⟩
  go_wp2_with fail
  refine (rdNumI g true bs bad _ _ (by omega) (by omega) r1).mono ?_
  rintro e w2 ⟨rfl, k2, r2⟩
  rw [show (8 : Int).toNat = 8 from rfl] at r2 ⊢
  obtain ⟨r, hr⟩ : ∃ r, r = numF 8 bs bad := ⟨_, rfl⟩
  obtain ⟨n, bs', bad'⟩ := r
  rw [← hr] at r2 ⊢
  simp only at r2 ⊢
  have HRR := Lib.hid (HR.out _ _ _ hr)
  clear hr HR HM
  have K2 := Lib.hid (k1.trans k2)
  clear k1 k2 r1
  obtain ⟨u, hu⟩ : ∃ u, u = uOf n := ⟨_, rfl⟩
  have s1 : IntKind.u64.wrap n = (u : Int) := by rw [hu, IntKind.wrap_u64]; unfold uOf; omega
  have hub : u ≤ 18446744073709551615 := by rw [hu]; unfold uOf; omega
  have HU := Lib.hid hu
  clear hu
  go_wp2_with fail
  go_loopw [3, 4, 13] (fun a v i wr => ∃ k : Nat, k ≤ 12 ∧ i = .int .i64 k ∧ a = .int .u64 (u / 38 ^ k : Nat) ∧ wr.ownsRow w2.heap.size 5 1 v (decL u k).length ((decL u k).map byV) ∧ Ext w2 wr) (fun _ _ i _ => 12 - (intOf i).toNat)
  case atStart => exact ⟨0, by omega, rfl, by simp, ⟨by simp [decL], .inl ⟨rfl, rfl⟩⟩, Ext.refl _⟩
  case round =>

    obtain ⟨k, hk, rfl, rfl, hown, hkp⟩ := hrel
    have hrd := r2.other hkp
    by_cases hlt : k < 12
    · have hlt' : (k : Int) < 12 := by omega
      have hdl := decL_len u k
      have hdl2 : u / 38 ^ k ≤ u := Nat.div_le_self _ _
      have hnx : u / 38 ^ (k + 1) = u / 38 ^ k / 38 := by rw [Nat.pow_succ, Nat.div_div_eq_div_mul]
      have hdc : decL u (k + 1) = decL u k ++ (if u / 38 ^ k % 38 = 0 then [] else [bkB (u / 38 ^ k % 38)]) := rfl
      obtain ⟨q, hq⟩ : ∃ q, q = u / 38 ^ k := ⟨_, rfl⟩
      rw [← hq] at hnx hdl2 hdc ⊢
      obtain ⟨d, hd⟩ : ∃ d, d = q % 38 := ⟨_, rfl⟩
      rw [← hd] at hdc
      have s2 : (q : Int) % 38 = (d : Int) := by omega
      have hq2 : (q : Int) ≤ 18446744073709551615 := by omega
      have hd38 : (d : Int) < 38 := by omega
      have HN := Lib.hid hnx
      have HD := Lib.hid hdc
      have HQ := Lib.hid hq
      have HDD := Lib.hid hd
      obtain ⟨ys, hys⟩ : ∃ ys, ys = decL u k := ⟨_, rfl⟩
      rw [← hys] at hown hdl hdc
      have HYS := Lib.hid hys
      clear hnx hdc hq hd hys hdl2
      rcases Nat.eq_zero_or_pos d with hd0 | hd0
      · subst hd0
        go_wp2_with fail
        go_roundw
        case rel => exact ⟨k + 1, by omega, by go_num, by rw [HN.out]; go_num, by rw [HD.out, if_pos rfl, List.append_nil, ← HYS.out]; exact hown, hkp⟩
        case measure => simp [intOf]; omega
      · have hd1 : (0 : Int) < d := by omega
        obtain ⟨cs, A, c, h1, h2, h3, h4, h5, h6, h7⟩ := hrd.rd
        have cb := h1.cell (h2.at_b (n := d) (by omega))
        have cb2 : wr.cell? ⟨g, 259 + d, none⟩ = some (.int .u8 (tb1.b d : Nat)) := cb
        have hN : ∀ x T j u, [x][j]? = some u → (wr.alloc (.cells #[x] T)).cell? ((⟨wr.heap.size, 0, none⟩ : Addr).add j) = some u := fun x T => World.news_of_block (cs := #[x]) (heap_alloc_new wr _)
        have HNN := Lib.hid hN
        have hbb : w2.heap.size ≤ wr.heap.size := hkp.size
        have HO := Lib.hid hown
        have hne : Hid (5 ≠ 166) := by show _ ≠ _; decide
        have H1 := Lib.hid h1
        clear h1 h2 h3 h4 h5 h6 h7 cb hN hown
        go_wp2_with (first
          | (at_builtin
             refine wpList_append_lies _ rfl (.tmp 19) (.tmp 27) 42 rfl w2.heap.size 5 i0 (.int .u8 0) 1 1 Tryz.underlying42 hi0 hz0 hz1 hz2 rfl (by decide) u4 _ _ rfl (HO.out.alloc _) ⟨wr.heap.size, 0, none⟩ 1 1 [_] rfl rfl (HNN.out _ _) (by simp [Value.oneCell']) (by decide) (by unfold maxLen; omega) (by omega) (by simp; omega) _ rfl ?_
             intro gg cap wx hown hgrow hat hlt1))
        have e1 : ys.map byV ++ [.int .u8 ((tb1.b d : Nat) : Int)] = (ys ++ [bkB d]).map byV := by simp [byV, bkB_val]
        rw [e1] at hown
        have hge := own_ge HO.out
        go_roundw
        case rel => exact ⟨k + 1, by omega, by go_num, by rw [HN.out]; go_num, by rw [HD.out, if_neg (by omega), ← HYS.out, show (ys ++ [bkB d]).length = ys.length + 1 by simp]; exact hown, Below.grown (hkp.alloc _) hgrow (by simp; omega) hge⟩
        case measure => simp [intOf]; omega
    · obtain rfl : k = 12 := by omega
      rw [show ((12 : Nat) : Int) = 12 from rfl]
      have FIN : ∀ wz, Ext w2 wz → RSPost g true (nameFR bs bad) w (.returned (.string (nameOf u))) wz := fun wz he => by
        rw [HRR.out, ← HU.out]
        exact ⟨rfl, K2.out.trans (Keep.ext he), r2.other he⟩
      have F := Lib.hid FIN
      have HE := Lib.hid hkp
      have hNm : Hid (nameOf u = ⟨(decL u 12).reverse.toArray⟩) := rfl
      obtain ⟨ys, hys⟩ : ∃ ys, ys = decL u 12 := ⟨_, rfl⟩
      have hyl := decL_len u 12
      rw [← hys] at hown hNm hyl
      clear FIN hkp hrd hys r2
      rcases Nat.eq_zero_or_pos ys.length with hz | hz
      · obtain rfl : ys = [] := List.eq_nil_of_length_eq_zero hz
        have F2 := Lib.hid (F.out _ HE.out)
        have hconv : ∀ A c, (convert 42 9 (.slice A 0 c)).run Tryz.prog wr = .ok (.string (nameOf u)) wr → Hid ((convert 42 9 (.slice A 0 c)).run Tryz.prog wr = .ok (.string (nameOf u)) wr) := fun _ _ h => h
        obtain ⟨e1, e2⟩ := hown
        rcases e2 with ⟨rfl, _⟩ | ⟨g', cap, cur, rfl, hg', _⟩
        · have hc := run_convert_bytes_nil (P := Tryz.prog) wr 42 5 Tryz.underlying42 Tryz.underlying5 0 0 9 Tryz.underlying9
          rw [show ByteArray.empty = nameOf u from hNm.out.symm] at hc
          clear F e1 hNm hconv hz hyl
          go_wp2_with (go_at_call 122; refine (rev_zero _ _ _).mono ?_; rintro e wz ⟨rfl, rfl⟩)
          go_ret
          exact F2.out
        · have hc := run_convert_bytes_arg (P := Tryz.prog) wr 42 5 Tryz.underlying42 Tryz.underlying5 g' 0 0 cap [] rfl (fun i hi => by omega) 9 Tryz.underlying9
          rw [show strOfNums [] = nameOf u from hNm.out.symm] at hc
          clear F e1 hNm hconv hz hyl
          go_wp2_with (go_at_call 122; refine (rev_zero _ _ _).mono ?_; rintro e wz ⟨rfl, rfl⟩)
          go_ret
          exact F2.out
      · obtain ⟨e1, e2⟩ := hown
        rcases e2 with ⟨_, h0⟩ | ⟨g', cap, cur, rfl, hg', hh, hn, hm, hs, ht⟩
        · omega
        have hcur : ∀ (i : Nat) (x : UInt8), ys[i]? = some x → cur[i]? = some (byV x) := fun i x hx => by
          have hj : i < ys.length := (List.getElem?_eq_some_iff.1 hx).1
          have hu : (ys.map byV)[i]? = some (byV x) := by rw [List.getElem?_map, hx]; rfl
          rw [← ht, List.getElem?_take_of_lt (by omega)] at hu
          simpa using hu
        have HR := Lib.hid (rev_any g' cap ys cur wr (by omega) hz hh hcur)
        have HG := Lib.hid hg'
        clear e1 hh hn hm hs ht hcur hg'
        go_wp2_with fail
        refine HR.out.mono ?_
        rintro e wz ⟨rfl, kz, cur2, b1, b2, b3⟩
        have hconv := conv_row (bs := ys.reverse) (cap := cap) (by simpa using hz) b1 (fun i x hx => by
          have hj : i < ys.length := by simpa using (List.getElem?_eq_some_iff.1 hx).1
          rw [List.getElem?_reverse hj] at hx
          exact b3 i x hj hx)
        rw [List.length_reverse, ← hNm.out] at hconv
        have hez : Ext w2 wz := ⟨kz.os.trans HE.out.os, kz.tape.trans HE.out.tape, kz.output.trans HE.out.output, Nat.le_trans HE.out.size kz.size, fun i hi => (kz.block i (Nat.lt_of_lt_of_le hi HE.out.size) (by have := HG.out; omega)).trans (HE.out.block i hi)⟩
        have F2 := Lib.hid (F.out _ hez)
        clear kz b1 b2 b3 hez F
        go_wp2_with fail
        go_ret
        exact F2.out
end Go.Proofs.YthfafenigjldlaaGreat
