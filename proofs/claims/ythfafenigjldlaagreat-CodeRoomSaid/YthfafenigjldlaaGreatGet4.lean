/-
  The walk of package code's getTerms: first, rows of strings that stay, and the plain functions.
-/
import Derived.Test.YthfafenigjldlaaGreatGet1
namespace Go.Proofs.YthfafenigjldlaaGreat
open Go.RowKit
set_option linter.unusedVariables false

/-- a row of strings that lies in a block of strings, apart from g -/
def StrRow (g : Nat) (w : World) (A : Option Addr) (vals : List ByteArray) : Prop :=
  0 < vals.length → ∃ b cur, A = some ⟨b, 0, none⟩ ∧ b ≠ g ∧ w.heap[b]? = some (.cells cur 9 (0, 0)) ∧ cur.toList.take vals.length = vals.map .string
theorem heap_lt {w : World} {b : Nat} {o : Obj} (h : w.heap[b]? = some o) : b < w.heap.size := by
  rcases Nat.lt_or_ge b w.heap.size with hl | hl
  · exact hl
  · rw [Array.getElem?_eq_none hl] at h; cases h
theorem StrRow.keep {g : Nat} {w w' : World} {A : Option Addr} {vals : List ByteArray} (h : StrRow g w A vals) (hk : Keep (fun k => k = g) w w') : StrRow g w' A vals := by
  intro h0
  obtain ⟨b, cur, e, hb, hh, ht⟩ := h h0
  exact ⟨b, cur, e, hb, (hk.block b (heap_lt hh) hb).trans hh, ht⟩
theorem StrRow.ext {g : Nat} {w w' : World} {A : Option Addr} {vals : List ByteArray} (h : StrRow g w A vals) (hk : Ext w w') : StrRow g w' A vals := by
  intro h0
  obtain ⟨b, cur, e, hb, hh, ht⟩ := h h0
  exact ⟨b, cur, e, hb, (hk.block b (heap_lt hh)).trans hh, ht⟩
theorem StrRow.grown {g base size n : Nat} {w w' : World} {T : TypeId} {v : Value} {xs : List Value} {A : Option Addr} {vals : List ByteArray} (h : StrRow g w A vals) (hown : w.ownsRow base T size v n xs) (hg : w.grownBy w' v.ownBlock) (hT : T ≠ 9) : StrRow g w' A vals := by
  intro h0
  obtain ⟨b, cur, e, hb, hh, ht⟩ := h h0
  have hw : WB w b 9 cur := hh
  exact ⟨b, cur, e, hb, hw.grown hg (own_ne hown hw hT), ht⟩
theorem StrRow.sl {g : Nat} {w : World} {A : Option Addr} {vals : List ByteArray} (h : StrRow g w A vals) (hok : ∀ s ∈ vals, okS s) : Sl RStr 1 w A vals := by
  intro k x hx
  have hk : k < vals.length := (List.getElem?_eq_some_iff.1 hx).1
  obtain ⟨b, cur, e, hb, hh, ht⟩ := h (by omega)
  have hu : (vals.map Value.string)[k]? = some (.string x) := by rw [List.getElem?_map, hx]; rfl
  rw [← ht, List.getElem?_take_of_lt hk] at hu
  refine ⟨b, 0, [.string x], e, rfl, fun j u hj => ?_, rfl, hok x (List.mem_of_getElem? hx)⟩
  match j, hj with
  | 0, hj =>
    obtain rfl : Value.string x = u := by simpa using hj
    simp only [World.cell?, hh]
    simpa using hu

/-- so many names, one after another -/
def valsFrom : Nat → List UInt8 → Bool → List ByteArray × List UInt8 × Bool
  | 0, bs, bad => ([], bs, bad)
  | k + 1, bs, bad =>
    let r := valsFrom k bs bad
    let a := nameFR r.2.1 r.2.2
    (r.1 ++ [a.1], a.2)
theorem valsFrom_len (k : Nat) (bs : List UInt8) (bad : Bool) : (valsFrom k bs bad).1.length = k := by
  induction k with
  | zero => rfl
  | succ k ih => simp [valsFrom, ih]
/-- one term -/
def termF (bs : List UInt8) (bad : Bool) : Tm × List UInt8 × Bool :=
  let a := nameFR bs bad
  let b := numF 1 a.2.1 a.2.2
  let c := countF 1 b.2.1 b.2.2
  let d := valsFrom c.1.toNat c.2.1 c.2.2
  (⟨a.1, b.1, d.1⟩, d.2)
def termsFrom : Nat → List UInt8 → Bool → List Tm × List UInt8 × Bool
  | 0, bs, bad => ([], bs, bad)
  | k + 1, bs, bad =>
    let r := termsFrom k bs bad
    let a := termF r.2.1 r.2.2
    (r.1 ++ [a.1], a.2)
theorem termsFrom_len (k : Nat) (bs : List UInt8) (bad : Bool) : (termsFrom k bs bad).1.length = k := by
  induction k with
  | zero => rfl
  | succ k ih => simp [termsFrom, ih]
def termsF (bs : List UInt8) (bad : Bool) : List Tm × List UInt8 × Bool := termsFrom (countF 1 bs bad).1.toNat (countF 1 bs bad).2.1 (countF 1 bs bad).2.2

/-- cells that hold terms; each term's values lie in a row that stays -/
def TermRow (g : Nat) (w : World) (cs : List Value) (xs : List Tm) : Prop :=
  cs.length = xs.length * 3 ∧ ∀ (i : Nat) (x : Tm), xs[i]? = some x → ∃ A c, cs[i * 3]? = some (.string x.key) ∧ cs[i * 3 + 1]? = some (.int .i64 x.kind) ∧ cs[i * 3 + 2]? = some (.slice A x.vals.length c) ∧
    x.vals.length ≤ c ∧ c ≤ maxLen ∧ StrRow g w A x.vals
theorem TermRow.nil (g : Nat) (w : World) : TermRow g w [] [] := ⟨rfl, fun i x h => by simp at h⟩
theorem TermRow.keep {g : Nat} {w w' : World} {cs : List Value} {xs : List Tm} (h : TermRow g w cs xs) (hk : Keep (fun k => k = g) w w') : TermRow g w' cs xs :=
  ⟨h.1, fun i x hx => by obtain ⟨A, c, h1, h2, h3, h4, h5, h6⟩ := h.2 i x hx; exact ⟨A, c, h1, h2, h3, h4, h5, h6.keep hk⟩⟩
theorem TermRow.ext {g : Nat} {w w' : World} {cs : List Value} {xs : List Tm} (h : TermRow g w cs xs) (hk : Ext w w') : TermRow g w' cs xs :=
  ⟨h.1, fun i x hx => by obtain ⟨A, c, h1, h2, h3, h4, h5, h6⟩ := h.2 i x hx; exact ⟨A, c, h1, h2, h3, h4, h5, h6.ext hk⟩⟩
theorem TermRow.grown {g base size n : Nat} {w w' : World} {T : TypeId} {v : Value} {ys : List Value} {cs : List Value} {xs : List Tm} (h : TermRow g w cs xs) (hown : w.ownsRow base T size v n ys) (hg : w.grownBy w' v.ownBlock) (hT : T ≠ 9) : TermRow g w' cs xs :=
  ⟨h.1, fun i x hx => by obtain ⟨A, c, h1, h2, h3, h4, h5, h6⟩ := h.2 i x hx; exact ⟨A, c, h1, h2, h3, h4, h5, h6.grown hown hg hT⟩⟩
theorem TermRow.snoc {g : Nat} {w : World} {cs : List Value} {xs : List Tm} {x : Tm} {A : Option Addr} {c : Nat} (h : TermRow g w cs xs) (h1 : x.vals.length ≤ c) (h2 : c ≤ maxLen) (h3 : StrRow g w A x.vals) :
    TermRow g w (cs ++ [.string x.key, .int .i64 x.kind, .slice A x.vals.length c]) (xs ++ [x]) := by
  refine ⟨by simp [h.1]; omega, fun i y hy => ?_⟩
  rcases Nat.lt_or_ge i xs.length with hl | hl
  · rw [List.getElem?_append_left hl] at hy
    obtain ⟨A', c', e1, e2, e3, e4, e5, e6⟩ := h.2 i y hy
    have hcl := h.1
    refine ⟨A', c', ?_, ?_, ?_, e4, e5, e6⟩ <;> rw [List.getElem?_append_left (by omega)] <;> assumption
  · have hi : i = xs.length := by
      have := (List.getElem?_eq_some_iff.1 hy).1
      simp at this; omega
    subst hi
    obtain rfl : x = y := by simpa using hy
    have hcl := h.1
    refine ⟨A, c, ?_, ?_, ?_, h1, h2, h3⟩
    · rw [List.getElem?_append_right (by omega), show xs.length * 3 - cs.length = 0 by omega]; rfl
    · rw [List.getElem?_append_right (by omega), show xs.length * 3 + 1 - cs.length = 1 by omega]; rfl
    · rw [List.getElem?_append_right (by omega), show xs.length * 3 + 2 - cs.length = 2 by omega]; rfl
theorem term_info : (Tryz.prog.info? 41).map (fun i => (i.zero, i.size, i.bytes)) = some (some (.agg #[.string ⟨#[]⟩, .int .i64 0, .slice none 0 0]), 3, 48) := by kernel_rfl
theorem string_info : (Tryz.prog.info? 9).map (fun i => (i.zero, i.size, i.bytes)) = some (some (.string ⟨#[]⟩), 1, 16) := by kernel_rfl
end Go.Proofs.YthfafenigjldlaaGreat

/-
  The walk of package code's getTerms.
-/
namespace Go.Proofs.YthfafenigjldlaaGreat
open Go.RowKit
set_option linter.unusedVariables false

theorem own_strs {w : World} {base g : Nat} {v : Value} {vals : List ByteArray} {n : Nat} (hn : vals.length = n) (h : w.ownsRow base 9 1 v n (vals.map Value.string)) (hg : g < base) :
    ∃ A c, v = .slice A vals.length c ∧ vals.length ≤ c ∧ c ≤ maxLen ∧ StrRow g w A vals := by
  subst hn
  rcases h.2 with ⟨rfl, h0⟩ | ⟨g', cap, cur, rfl, hg', hh, hn, hm, hs, ht⟩
  · exact ⟨none, 0, by rw [h0], by omega, by simp [maxLen], fun h => by omega⟩
  · refine ⟨_, cap, rfl, hn, hm, fun _ => ⟨g', cur, rfl, by omega, hh, by simpa using ht⟩⟩
def TermsPost (g : Nat) (r : List Tm × List UInt8 × Bool) (w : World) (e : Ending) (w' : World) : Prop :=
  ∃ v cs, e = .returned v ∧ w'.ownsRow w.heap.size 41 3 v r.1.length cs ∧ TermRow g w' cs r.1 ∧ Keep (fun k => k = g) w w' ∧ Rd w' g true r.2.1 r.2.2
theorem own_set {w : World} {base size n m : Nat} {T T' : TypeId} {v : Value} {xs : List Value} {cs : Array Value} (h : w.ownsRow base T size v n xs) (hb : WB w m T' cs) (hT : T ≠ T') (j : Nat) (u : Value) : (w.setCell ⟨m, j, none⟩ u).ownsRow base T size v n xs := by
  have hne := own_ne h hb hT
  refine ⟨h.1, ?_⟩
  rcases h.2 with h | ⟨g', cap, cur, rfl, hg', hh, r⟩
  · exact .inl h
  · refine .inr ⟨g', cap, cur, rfl, hg', ?_, r⟩
    rw [Below.heap_setCell _ _ _ _ (by intro e; apply hne; simp at e; simp [Value.ownBlock, e])]
    exact hh
theorem Rd.setOther {w : World} {g m : Nat} {ph : Bool} {bs : List UInt8} {bad : Bool} {T : TypeId} {cs : Array Value} (h : Rd w g ph bs bad) (a : WB w m T cs) (h1 : T ≠ 166) (h2 : T ≠ 5) (j : Nat) (u : Value) : Rd (w.setCell ⟨m, j, none⟩ u) g ph bs bad := by
  obtain ⟨ds, A, c, r1, r2, r3, r4, r5, r6, r7⟩ := h.rd
  have no : ∀ (b : Nat) (T' : TypeId) (cur : Array Value), w.heap[b]? = some (.cells cur T' (0, 0)) → T ≠ T' → b ≠ m := by
    rintro b T' cur hb hT rfl
    have a' : w.heap[b]? = _ := a
    rw [hb] at a'
    injection a' with a'
    injection a' with _ e
    exact hT e.symm
  refine ⟨h.len, ds, A, c, r1.far (no g _ _ r1 h1) u, r2, r3, r4, r5, r6, fun h0 => ?_⟩
  obtain ⟨b, o, e, hb, hc, cur, hcur⟩ := r7 h0
  have hbm := no b _ _ hcur h2
  refine ⟨b, o, e, hb, fun i y hy => ?_, cur, (Below.heap_setCell _ _ _ _ hbm).trans hcur⟩
  rw [World.cell?_setCell_other _ _ _ _ (fun e => hbm (congrArg Addr.block e).symm)]
  exact hc i y hy

theorem Rd.drew {w : World} {g : Nat} {ph : Bool} {bs : List UInt8} {bad : Bool} (h : Rd w g ph bs bad) : Rd w.drew g ph bs bad := ⟨h.len, h.rd⟩
theorem one_news (w : World) (x : Value) (T : TypeId) : ∀ j u, [x][j]? = some u → (w.alloc (.cells #[x] T)).cell? ((⟨w.heap.size, 0, none⟩ : Addr).add j) = some u := World.news_of_block (cs := #[x]) (heap_alloc_new w _)

theorem gt_step {g bx m m' : Nat} {wo wx w7 : World} {cs : Array Value} {vv v' : Value} {xs xs' : List Value} {ph bad : Bool} {bs : List UInt8} (K : Keep (fun k => k = g) wo wx) (B : WB wx bx 41 cs) (O : wx.ownsRow (bx + 1) 9 1 vv m xs) (R : Rd wx g ph bs bad)
    (sR : wo.heap.size ≤ bx) (hown : w7.ownsRow (bx + 1) 9 1 v' m' xs') (hgrow : wx.grownBy w7 vv.ownBlock) :
    WB w7 bx 41 cs ∧ ∀ u, Keep (fun k => k = g) wo (w7.setCell ⟨bx, 2, none⟩ u) ∧ bx < (w7.setCell ⟨bx, 2, none⟩ u).heap.size ∧ WB (w7.setCell ⟨bx, 2, none⟩ u) bx 41 (cs.setIfInBounds 2 u) ∧
      (w7.setCell ⟨bx, 2, none⟩ u).ownsRow (bx + 1) 9 1 v' m' xs' ∧ Rd (w7.setCell ⟨bx, 2, none⟩ u) g ph bs bad := by
  have b7 : WB w7 bx 41 cs := B.grown hgrow (own_ne O B (by decide))
  exact ⟨b7, fun u => ⟨Keep.setNew (Keep.grownNew K (own_base O (Nat.le_succ_of_le sR)) hgrow) (p := ⟨bx, 2, none⟩) sR u, (b7.set 2 u).lt, b7.set 2 u, own_set hown b7 (by decide) 2 u, (R.grown O hgrow (by decide) (by decide)).setOther b7 (by decide) (by decide) 2 u⟩⟩

set_option maxHeartbeats 2000000 in
set_option maxRecDepth 10000 in
theorem getTerms_any (g : Nat) (bs : List UInt8) (bad : Bool) (w : World) (hr : Rd w g true bs bad) :
    Calls Tryz.prog 100 #[.pointer (some ⟨g, 0, none⟩)] w (TermsPost g (termsF bs bad) w) := by
  obtain ⟨i0, hi0, hz0, hz1, hz2⟩ := info_parts term_info
  obtain ⟨j0, hj0, hy0, hy1, hy2⟩ := info_parts string_info
  have hg := hr.lt
  have HG := Lib.hid hg
  have hc := count1_range bs bad
  obtain ⟨n, hn⟩ := Int.eq_ofNat_of_zero_le hc.1
  rw [hn] at hc
  have HP : Hid (termsF bs bad = termsFrom n (countF 1 bs bad).2.1 (countF 1 bs bad).2.2) := by show _ = _; unfold termsF; rw [hn]; rfl
  have hn9 : n ≤ 255 := by omega
  have HNN := Lib.hid hn
  clear hn hc hg
  rw [HP.out]
  obtain ⟨cs, hcs⟩ : ∃ c, c = (countF 1 bs bad).2.1 := ⟨_, rfl⟩
  obtain ⟨bd, hbd⟩ : ∃ c, c = (countF 1 bs bad).2.2 := ⟨_, rfl⟩
  rw [← hcs, ← hbd]
  have HCS := Lib.hid hcs
  have HBD := Lib.hid hbd
  clear hcs hbd
  go_enter Tryz.func100, Tryz.ntmps100
  go_wp2_with fail
  refine (rdCount_any g true bs bad 1 _ (by omega) (by omega) hr).mono ?_
  rintro e w1 ⟨rfl, k1, r1⟩
  have r2 : Rd w1 g true cs bd := by rw [HCS.out, HBD.out]; exact r1
  rw [show (countF (1 : Int).toNat bs bad).1 = (n : Int) from HNN.out]
  clear r1 hr
  go_wp2_with fail
  go_loopw [3, 7] (fun v i wr => ∃ (k : Nat) (tc : List Value), k ≤ n ∧ i = .int .i64 k ∧ Keep (fun k => k = g) w wr ∧ wr.ownsRow w.heap.size 41 3 v k tc ∧ TermRow g wr tc (termsFrom k cs bd).1 ∧ Rd wr g true (termsFrom k cs bd).2.1 (termsFrom k cs bd).2.2) (fun _ i _ => n - (intOf i).toNat)
  case atStart => exact ⟨0, [], by omega, rfl, k1, ⟨rfl, .inl ⟨rfl, rfl⟩⟩, TermRow.nil _ _, r2⟩
  case round =>
    obtain ⟨k, tc, hk, rfl, hkp, hown, htr, hrd⟩ := hrel
    by_cases hlt : k < n
    · have HST : Hid ((termsFrom (k + 1) cs bd).1 = (termsFrom k cs bd).1 ++ [(termF (termsFrom k cs bd).2.1 (termsFrom k cs bd).2.2).1] ∧ (termsFrom (k + 1) cs bd).2 = (termF (termsFrom k cs bd).2.1 (termsFrom k cs bd).2.2).2) := ⟨rfl, rfl⟩
      obtain ⟨xs, hxs⟩ : ∃ xs, xs = (termsFrom k cs bd).1 := ⟨_, rfl⟩
      obtain ⟨st, hst⟩ : ∃ xs, xs = (termsFrom k cs bd).2.1 := ⟨_, rfl⟩
      obtain ⟨sb, hsb⟩ : ∃ xs, xs = (termsFrom k cs bd).2.2 := ⟨_, rfl⟩
      rw [← hxs, ← hst, ← hsb] at HST
      rw [← hxs] at htr
      rw [← hst, ← hsb] at hrd
      clear hxs hst hsb
      have HOW := Lib.hid hown
      have HTR := Lib.hid htr
      have HKP := Lib.hid hkp
      clear hown htr
      go_wp2_with fail
      refine (rdName_any g true _ _ _ hrd).mono ?_
      rintro e w2 ⟨rfl, k2, r3⟩
      have HT : Hid ((termF st sb) = (⟨(nameFR st sb).1, (numF 1 (nameFR st sb).2.1 (nameFR st sb).2.2).1, (valsFrom (countF 1 (numF 1 (nameFR st sb).2.1 (nameFR st sb).2.2).2.1 (numF 1 (nameFR st sb).2.1 (nameFR st sb).2.2).2.2).1.toNat (countF 1 (numF 1 (nameFR st sb).2.1 (nameFR st sb).2.2).2.1 (numF 1 (nameFR st sb).2.1 (nameFR st sb).2.2).2.2).2.1 (countF 1 (numF 1 (nameFR st sb).2.1 (nameFR st sb).2.2).2.1 (numF 1 (nameFR st sb).2.1 (nameFR st sb).2.2).2.2).2.2).1⟩, (valsFrom (countF 1 (numF 1 (nameFR st sb).2.1 (nameFR st sb).2.2).2.1 (numF 1 (nameFR st sb).2.1 (nameFR st sb).2.2).2.2).1.toNat (countF 1 (numF 1 (nameFR st sb).2.1 (nameFR st sb).2.2).2.1 (numF 1 (nameFR st sb).2.1 (nameFR st sb).2.2).2.2).2.1 (countF 1 (numF 1 (nameFR st sb).2.1 (nameFR st sb).2.2).2.1 (numF 1 (nameFR st sb).2.1 (nameFR st sb).2.2).2.2).2.2).2)) := rfl
      obtain ⟨⟨ky, s1, b1⟩, h1⟩ : ∃ r, r = nameFR st sb := ⟨_, rfl⟩
      rw [← h1] at r3 HT ⊢
      clear h1
      simp only at r3 HT ⊢
      clear hrd
      go_wp2_with fail
      refine (rdNumI g true _ _ _ _ (by omega) (by omega) r3).mono ?_
      rintro e w3 ⟨rfl, k3, r4⟩
      rw [show (1 : Int).toNat = 1 from rfl] at r4 ⊢
      obtain ⟨⟨kd, s2, b2⟩, h2⟩ : ∃ r, r = numF 1 s1 b1 := ⟨_, rfl⟩
      rw [← h2] at r4 HT ⊢
      clear h2
      simp only at r4 HT ⊢
      clear r3
      have k23 := k2.trans k3
      clear k2 k3
      go_wp2_with fail
      obtain ⟨bx, hbx⟩ : ∃ n, n = w3.heap.size := ⟨_, rfl⟩
      have hbg : Hid (bx ≠ g) := by have := r4.lt; show bx ≠ g; omega
      obtain ⟨W4, hW4⟩ : ∃ W, w3.alloc (.cells #[.string ky, .int .i64 kd, .slice none 0 0] 41) = W := ⟨_, rfl⟩
      have r5 : Rd W4 g true s2 b2 := by rw [← hW4]; exact r4.other ((Ext.refl _).alloc _)
      have kW : Hid (Keep (fun k => k = g) wr W4) := by rw [← hW4]; exact k23.alloc _
      have bW : WB W4 bx 41 #[.string ky, .int .i64 kd, .slice none 0 0] := by rw [← hW4, hbx]; exact WB.new _ _ _
      have sW : Hid (bx < W4.heap.size) := bW.lt
      have sR : Hid (wr.heap.size ≤ bx) := by rw [hbx]; exact k23.size
      have hgb : Hid (g < bx + 1) := by have := HG.out; have := sR.out; have := HKP.out.size; show _ < _; omega
      rw [← hbx] at ⊢
      try rw [hW4]
      clear r4 k23 hbx hW4
      go_wp2_with fail
      refine (rdCount_any g true _ _ _ _ (by omega) (by omega) r5).mono ?_
      rintro e w5 ⟨rfl, k5, r6⟩
      have hc := count1_range s2 b2
      obtain ⟨n2, hn2⟩ := Int.eq_ofNat_of_zero_le hc.1
      rw [show (1 : Int).toNat = 1 from rfl] at r6 ⊢
      rw [hn2] at hc HT ⊢
      have hn29 : n2 ≤ 255 := by omega
      clear hc hn2
      obtain ⟨s3, hs3⟩ : ∃ r, r = (countF 1 s2 b2).2.1 := ⟨_, rfl⟩
      obtain ⟨b3, hb3⟩ : ∃ r, r = (countF 1 s2 b2).2.2 := ⟨_, rfl⟩
      rw [← hs3, ← hb3] at r6 HT
      rw [Int.toNat_natCast] at HT
      clear hs3 hb3 r5
      have b5 := WB.keep (S := fun k => k = g) bW k5 hbg.out
      have K5 : Hid (Keep (fun k => k = g) wr w5) := kW.out.trans k5
      have S5 : Hid (bx < w5.heap.size) := Nat.lt_of_lt_of_le sW.out k5.size
      clear bW k5
      go_wp2_with fail
      go_loopw [16] (fun i wi => ∃ (m : Nat) (vv : Value), m ≤ n2 ∧ i = .int .i64 m ∧ Keep (fun k => k = g) wr wi ∧ bx < wi.heap.size ∧ WB wi bx 41 #[.string ky, .int .i64 kd, vv] ∧
        wi.ownsRow (bx + 1) 9 1 vv m ((valsFrom m s3 b3).1.map .string) ∧ Rd wi g true (valsFrom m s3 b3).2.1 (valsFrom m s3 b3).2.2) (fun i _ => n2 - (intOf i).toNat)
      case atStart => exact ⟨0, _, by omega, rfl, K5.out, S5.out, b5, ⟨rfl, .inl ⟨rfl, rfl⟩⟩, r6⟩
      clear b5 r6
      obtain ⟨m, vv, hm, rfl, hkm, hsz, hb, hov, hrm⟩ := hrel
      by_cases hml : m < n2
      · have c2 := hb.cell (i := 2) rfl
        have z2 := hb.fr 2
        have HB := Lib.hid hb
        have HO := Lib.hid hov
        have HK := Lib.hid hkm
        have HKR : Hid (Keep (fun k => k = g) wr wr.drew) := (Keep.refl _ _).drew
        clear hb hov hkm
        go_wp2_with fail
        go_region_law? (first
          | (go_simp; go_at_call 95; refine (rdName_any g true _ _ _ hrm.drew).mono ?_; rintro e wn ⟨rfl, kn, rn⟩
             replace kn := HKR.out.trans kn
             have bn := WB.keep (S := fun k => k = g) HB.out kn hbg.out
             have c2 := bn.cell (i := 2) rfl
             have z2 := bn.fr 2
             have HO2 : Hid (∀ o, (wn.alloc o).ownsRow (bx + 1) 9 1 vv m ((valsFrom m s3 b3).1.map .string)) := fun o => (own_keep HO.out kn hgb.out).alloc o
             have hN := Lib.hid (one_news wn)
             have c2a : ∀ o, (wn.alloc o).cell? ⟨bx, 2, none⟩ = some vv := fun o => (bn.alloc o).cell (i := 2) rfl
             have RN : Hid (∀ o, Rd (wn.alloc o) g true (valsFrom (m + 1) s3 b3).2.1 (valsFrom (m + 1) s3 b3).2.2) := fun o => rn.other ((Ext.refl _).alloc o)
             have KN := Lib.hid (fun o => (HK.out.trans kn).alloc o)
             have BN := Lib.hid (fun o => bn.alloc o)
             have HSZ : Hid (∀ o, bx + 1 ≤ (wn.alloc o).heap.size) := fun o => Nat.le_trans (Nat.lt_of_lt_of_le hsz kn.size) (Ext.size ((Ext.refl _).alloc o))
             clear kn bn rn)
          | (refine step_append_lies _ rfl (.tmp 19) (.tmp 22) 39 rfl (bx + 1) 9 j0 (.string ⟨#[]⟩) 1 16 Tryz.underlying39 hj0 hy0 hy1 hy2 rfl (by decide) vv _ _ rfl (HO2.out _) ⟨wn.heap.size, 0, none⟩ 1 1 [_] rfl rfl (hN.out _ _) (by simp [Value.oneCell']) (by decide) (by unfold maxLen; omega) (by omega) (HSZ.out _) _ rfl ?_
             intro gg cap w7 hown hgrow hat hlt1
             obtain ⟨b7, fin⟩ := gt_step (KN.out _) (BN.out _) (HO2.out _) (RN.out _) sR.out hown hgrow
             have FIN := Lib.hid fin
             clear fin
             have c2 : w7.cell? ⟨bx, 2, none⟩ = some vv := b7.cell (i := 2) rfl
             have z2 : w7.frozen? ⟨bx, 2, none⟩ = false := b7.fr 2
             clear b7 hown hgrow hat hlt1))
        all_goals go_wp2_with fail
        all_goals go_roundw
        all_goals first
          | (obtain ⟨f1, f2, f3, f4, f5⟩ := FIN.out _; exact ⟨m + 1, _, by omega, by go_num, f1, f2, f3, by simpa [valsFrom] using f4, f5⟩)
          | (simp [intOf]; omega)
      · obtain rfl : m = n2 := by omega
        obtain ⟨A, c, rfl, l1, l2, hs⟩ := own_strs (valsFrom_len m s3 b3) hov hgb.out
        have HL : Hid ((valsFrom m s3 b3).1.length = m) := valsFrom_len m s3 b3
        have c0 := hb.cell (i := 0) rfl
        have c1 := hb.cell (i := 1) rfl
        have c2 := hb.cell (i := 2) rfl
        have HB := Lib.hid hb
        have HO4 := Lib.hid (fun o => (own_keep HOW.out hkm HG.out).alloc o)
        have HTA := Lib.hid (fun o => ((HTR.out.keep hkm).ext ((Ext.refl _).alloc o)).snoc (x := ⟨ky, kd, (valsFrom m s3 b3).1⟩) l1 l2 (hs.ext ((Ext.refl _).alloc o)))
        have HKA := Lib.hid (fun o => (HKP.out.trans hkm).alloc o)
        have HRA := Lib.hid (fun o => hrm.other ((Ext.refl _).alloc o))
        have HBS : Hid (∀ o, w.heap.size ≤ (wr.alloc o).heap.size) := fun o => (HKA.out o).size
        clear hb hov hrm hkm hs l1 l2 HOW HTR HKP
        go_wp2_with (first
          | (refine wpList_append_lies _ rfl (.tmp 26) (.tmp 28) 23 rfl w.heap.size 41 i0 _ 3 48 Tryz.underlying23 hi0 hz0 hz1 hz2 rfl (by decide) _ _ _ rfl (HO4.out _) ⟨wr.heap.size, 0, none⟩ 1 1 [_, _, _] rfl rfl (World.news_of_block (heap_alloc_new wr _)) (by simp [Value.oneCell']) (by decide) (by unfold maxLen; omega) (by omega) (HBS.out _) _ rfl ?_
             intro gg cap w5 hown5 hgrow hat hlt5))
        have K5 := Lib.hid (Keep.grownNew (HKA.out _) (HO4.out _) hgrow)
        have R5 := Lib.hid (Rd.grown (HRA.out _) (HO4.out _) hgrow (by decide) (by decide))
        have T5 := Lib.hid ((HTA.out _).grown (HO4.out _) hgrow (by decide))
        have O5 := Lib.hid hown5
        clear hown5 hgrow hat hlt5 HO4 HTA HKA HRA HBS
        go_roundw
        case rel => exact ⟨k + 1, _, by omega, by go_num, K5.out, O5.out, by rw [HST.out.1, HT.out]; simpa [HL.out] using T5.out, by rw [HST.out.2, HT.out]; exact R5.out⟩
        case measure => simp [intOf]; omega
    · obtain rfl : k = n := by omega
      have FIN : Hid (TermsPost g (termsFrom k cs bd) w (.returned _) wr) := ⟨_, tc, rfl, by rw [termsFrom_len]; exact hown, htr, hkp, hrd⟩
      clear hkp hown hrd htr
      go_wp2_with fail
      go_ret
      exact FIN.out
end Go.Proofs.YthfafenigjldlaaGreat
