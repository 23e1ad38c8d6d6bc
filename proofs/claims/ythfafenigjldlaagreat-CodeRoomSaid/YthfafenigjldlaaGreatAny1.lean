/-
  A list of slices of bytes that grows: what each of them names lies beside the list's own block.
-/
import Derived.Test.YthfafenigjldlaaGreatAny0
import Derived.Test.YthfafenigjldlaaGreatApp1
import Derived.Test.YthfafenigjldlaaGreatRising
import Derived.Deep.AppendLies
namespace Go.Proofs.YthfafenigjldlaaGreat
open Go.RowKit
set_option linter.unusedVariables false

/-- u is a slice of the bytes bs, and they lie in another block than g -/
def EL (g : Option Nat) (w : World) (u : Value) (bs : List UInt8) : Prop :=
  ∃ A c, u = .slice A bs.length c ∧ ByF A bs w ∧ bs.length ≤ 4000 ∧ (∀ b o, A = some ⟨b, o, none⟩ → 0 < bs.length → g ≠ some b) ∧ bs.length ≤ c ∧ c ≤ maxLen
structure Lst (W w : World) (v : Value) (L : List (List UInt8)) : Prop where
  ex : ∃ (base : Nat) (cs : List Value), W.heap.size ≤ base ∧ base ≤ w.heap.size ∧ w.ownsRow base 42 1 v L.length cs ∧ ∀ (k : Nat) (u : Value) (bs : List UInt8), cs[k]? = some u → L[k]? = some bs → EL v.ownBlock w u bs
theorem EL.ext {g : Option Nat} {w w' : World} {u : Value} {bs : List UInt8} (h : EL g w u bs) (e : Ext w w') : EL g w' u bs := by
  obtain ⟨A, c, h1, h2, h3, h4⟩ := h
  exact ⟨A, c, h1, h2.ext e, h3, h4⟩
theorem Lst.next {W w w' : World} {v : Value} {L : List (List UInt8)} (h : Lst W w v L) (e : Ext w w') : Lst W w' v L := by
  obtain ⟨base, cs, h1, h2, h3, h4⟩ := h.ex
  exact ⟨base, cs, h1, Nat.le_trans h2 e.size, own_ext h3 e, fun k u bs a b => (h4 k u bs a b).ext e⟩
theorem ByF.lt {A : Option Addr} {bs : List UInt8} {w : World} {b o : Nat} (h : ByF A bs w) (h0 : 0 < bs.length) (hA : A = some ⟨b, o, none⟩) : b < w.heap.size := by
  obtain ⟨b', o', e, hc⟩ := h.2 h0
  rw [hA] at e
  obtain ⟨rfl, rfl⟩ : b = b' ∧ o = o' := by injection e with e; injection e with e1 e2; exact ⟨e1, e2⟩
  obtain ⟨x, hx⟩ := get_of (xs := bs) (k := 0) h0
  have := hc 0 (byV x) (by rw [List.getElem?_map, hx]; rfl)
  apply Classical.byContradiction
  intro hn
  rw [World.cell?, Array.getElem?_eq_none (by show w.heap.size ≤ b; omega)] at this
  simp at this
theorem EL.grown {w w' : World} {g g' : Option Nat} {u : Value} {bs : List UInt8} (h : EL g w u bs) (hg : w.grownBy w' g) (hv : g' = g ∨ g' = some w.heap.size) : EL g' w' u bs := by
  obtain ⟨A, c, h1, h2, h3, h4, h5, h6⟩ := h
  refine ⟨A, c, h1, ⟨h2.1, fun h0 => ?_⟩, h3, fun b o hA h0 => ?_, h5, h6⟩
  · obtain ⟨b, o, e, hc⟩ := h2.2 h0
    refine ⟨b, o, e, fun j u hu => ?_⟩
    rw [World.cell?_of_block (w := w) (w' := w') (hg.block b (h2.lt h0 e) (fun x => h4 b o e h0 x.symm))]
    exact hc j u hu
  · rcases hv with rfl | rfl
    · exact h4 b o hA h0
    · have := h2.lt h0 hA
      intro x
      injection x with x
      omega
theorem Lst.app {W w w' : World} {v v' : Value} {L M : List (List UInt8)} {base : Nat} {cs news : List Value} (h1 : W.heap.size ≤ base) (h2 : base ≤ w.heap.size) (hl : cs.length = L.length)
    (h3 : ∀ (k : Nat) (u : Value) (bs : List UInt8), cs[k]? = some u → L[k]? = some bs → EL v.ownBlock w u bs) (h4 : ∀ (k : Nat) (u : Value) (bs : List UInt8), news[k]? = some u → M[k]? = some bs → EL v.ownBlock w u bs)
    (hg : w.grownBy w' v.ownBlock) (ho : w'.ownsRow base 42 1 v' (L ++ M).length (cs ++ news)) (hv : v'.ownBlock = v.ownBlock ∨ v'.ownBlock = some w.heap.size) : Lst W w' v' (L ++ M) := by
  refine ⟨base, cs ++ news, h1, Nat.le_trans h2 hg.size, ho, fun k u bs hu hb => ?_⟩
  rcases Nat.lt_or_ge k L.length with hk | hk
  · rw [List.getElem?_append_left (by omega)] at hu
    rw [List.getElem?_append_left hk] at hb
    exact (h3 k u bs hu hb).grown hg hv
  · rw [List.getElem?_append_right (by omega), hl] at hu
    rw [List.getElem?_append_right hk] at hb
    exact (h4 _ u bs hu hb).grown hg hv
/-- the list's element at k: read -/
theorem Lst.at {W w : World} {v : Value} {L : List (List UInt8)} (h : Lst W w v L) {k : Nat} (hk : k < L.length) :
    ∃ g cap A c bs, v = .slice (some ⟨g, 0, none⟩) L.length cap ∧ L[k]? = some bs ∧ w.cell? ⟨g, k, none⟩ = some (.slice A bs.length c) ∧ ByF A bs w ∧ bs.length ≤ 4000 := by
  obtain ⟨base, cs, h1, h2, h3, h4⟩ := h.ex
  obtain ⟨bs, hb⟩ := get_of (xs := L) hk
  rcases h3.2 with ⟨_, h0⟩ | ⟨g, cap, cur, e, hg, hh, hc1, hc2, hc3, ht⟩
  · omega
  obtain ⟨u, hu⟩ := get_of (xs := cs) (k := k) (by rw [h3.1]; omega)
  obtain ⟨A, c, rfl, hF, h6, _⟩ := h4 k u bs hu hb
  refine ⟨g, cap, A, c, bs, e, hb, ?_, hF, h6⟩
  rw [← ht, List.getElem?_take_of_lt (by omega)] at hu
  simp only [World.cell?, hh]
  simpa using hu
theorem Lst.first {W w : World} {A : Option Addr} {c : Nat} {bs : List UInt8} (hW : W.heap.size ≤ w.heap.size) (hF : ByF A bs w) (hl : bs.length ≤ 4000) (hc : bs.length ≤ c) (hc2 : c ≤ maxLen) :
    Lst W (w.alloc (.cells #[.slice A bs.length c] 42)) (.slice (some ⟨w.heap.size, 0, none⟩) 1 1) [bs] := by
  refine ⟨w.heap.size, [.slice A bs.length c], hW, by simp, ⟨rfl, .inr ⟨w.heap.size, 1, #[.slice A bs.length c], rfl, Nat.le_refl _, heap_alloc_new w _, by simp, by simp [maxLen], rfl, rfl⟩⟩, fun k u b hu hb => ?_⟩
  match k with
  | 0 =>
    obtain rfl : .slice A bs.length c = u := by simpa using hu
    obtain rfl : bs = b := by simpa using hb
    refine ⟨A, c, rfl, hF.ext ((Ext.refl _).alloc _), hl, fun b o hA h0 x => ?_, hc, hc2⟩
    have := hF.lt h0 hA
    simp only [Value.ownBlock, Option.some.injEq] at x
    omega
  | k + 1 => simp at hu
theorem cl_new {w' : World} {base : Nat} {bs : List UInt8} {v : Value} {n : Nat} {cs : List Value} (hn : bs.length = n) (hcs : bs.map byV = cs) (h : w'.ownsRow base 5 1 v n cs) :
    ∃ A c, v = .slice A n c ∧ n ≤ c ∧ c ≤ maxLen ∧ ByF A bs w' ∧ ∀ b o, A = some ⟨b, o, none⟩ → base ≤ b := by
  subst hn hcs
  rcases h.2 with ⟨rfl, h0⟩ | ⟨g, cap, cur, rfl, hg, hh, hc1, hc2, hc3, ht⟩
  · refine ⟨none, 0, by rw [h0], by omega, by simp [maxLen], ⟨by simp, fun h1 => by omega⟩, fun b o e => by simp at e⟩
  · refine ⟨_, cap, rfl, hc1, hc2, ⟨by simp, fun h1 => ⟨g, 0, rfl, fun j u hu => ?_⟩⟩, fun b o e => ?_⟩
    · have hj : j < bs.length := by have := (List.getElem?_eq_some_iff.1 hu).1; simpa using this
      rw [← ht, List.getElem?_take_of_lt (by omega)] at hu
      simp only [World.cell?, hh, Nat.zero_add]
      simpa using hu
    · injection e with e
      injection e with e1 e2
      omega
/-- loop 1's state: the list, and beside it the row of the two results -/
structure Inv (W : World) (q : Nat) (u5 u6 : Value) (b5 b6 : List UInt8) (k : Nat) (w : World) (v : Value) (L : List (List UInt8)) : Prop where
  ext : Ext W w
  lst : Lst W w v L
  row : WB w q 42 #[u5, u6]
  ne : v.ownBlock ≠ some q
  e5 : EL v.ownBlock w u5 b5
  e6 : EL v.ownBlock w u6 b6
  z5 : b5.length ≤ 3000
  z6 : b6.length ≤ 3000
  l1 : 1 ≤ L.length
  l2 : L.length ≤ 1 + 3 * k
theorem Inv.next {W : World} {q k : Nat} {u5 u6 : Value} {b5 b6 : List UInt8} {w w' : World} {v : Value} {L : List (List UInt8)} (h : Inv W q u5 u6 b5 b6 k w v L) (e : Ext w w') : Inv W q u5 u6 b5 b6 k w' v L :=
  ⟨h.ext.trans e, h.lst.next e, h.row.ext e, h.ne, h.e5.ext e, h.e6.ext e, h.z5, h.z6, h.l1, h.l2⟩
theorem Inv.more {W : World} {q k k' : Nat} {u5 u6 : Value} {b5 b6 : List UInt8} {w : World} {v : Value} {L : List (List UInt8)} (h : Inv W q u5 u6 b5 b6 k w v L) (e : k ≤ k') : Inv W q u5 u6 b5 b6 k' w v L :=
  ⟨h.ext, h.lst, h.row, h.ne, h.e5, h.e6, h.z5, h.z6, h.l1, by have := h.l2; omega⟩
theorem Inv.app {W : World} {q k : Nat} {u5 u6 : Value} {b5 b6 : List UInt8} {w w' : World} {v : Value} {L M : List (List UInt8)} (h : Inv W q u5 u6 b5 b6 k w v L) {base : Nat} {cs news : List Value} (h1 : W.heap.size ≤ base) (h2 : base ≤ w.heap.size)
    (ho0 : w.ownsRow base 42 1 v L.length cs) (h3 : ∀ (k : Nat) (u : Value) (bs : List UInt8), cs[k]? = some u → L[k]? = some bs → EL v.ownBlock w u bs) (h4 : ∀ (k : Nat) (u : Value) (bs : List UInt8), news[k]? = some u → M[k]? = some bs → EL v.ownBlock w u bs)
    (hM : M.length = 3) {g c : Nat} (hg : w.grownBy w' v.ownBlock) (ho : w'.ownsRow base 42 1 (.slice (some ⟨g, 0, none⟩) (L.length + 3) c) (L.length + 3) (cs ++ news)) (hv : v.ownBlock = some g ∨ g = w.heap.size) :
    Inv W q u5 u6 b5 b6 (k + 1) w' (.slice (some ⟨g, 0, none⟩) (L.length + 3) c) (L ++ M) := by
  have hlen : (L ++ M).length = L.length + 3 := by rw [List.length_append, hM]
  have hvv : (Value.slice (some ⟨g, 0, none⟩) (L.length + 3) c).ownBlock = v.ownBlock ∨ (Value.slice (some ⟨g, 0, none⟩) (L.length + 3) c).ownBlock = some w.heap.size := by
    rcases hv with hv | hv
    · exact .inl hv.symm
    · exact .inr (by rw [hv]; rfl)
  refine ⟨ext_grown h.ext ho0 h1 hg, ?_, h.row.grown hg h.ne, ?_, h.e5.grown hg hvv, h.e6.grown hg hvv, h.z5, h.z6, by have := h.l1; omega, by have := h.l2; omega⟩
  · refine Lst.app h1 h2 (by rw [ho0.1]; omega) h3 h4 hg (by rw [hlen]; exact ho) hvv
  · rcases hvv with e | e
    · rw [e]; exact h.ne
    · rw [e]
      intro x
      injection x with x
      have := h.row.lt
      omega
/-- one of the two results, read at k -/
theorem Inv.get {W : World} {q k : Nat} {A5 A6 : Option Addr} {n5 n6 c5 c6 : Nat} {b5 b6 : List UInt8} {w : World} {v : Value} {L : List (List UInt8)} (h : Inv W q (.slice A5 n5 c5) (.slice A6 n6 c6) b5 b6 k w v L) (hk : k < 2) :
    ∃ A m c bs, w.cell? ⟨q, k, none⟩ = some (.slice A m c) ∧ bs.length = m ∧ m ≤ 3000 ∧ ByF A bs w ∧ m ≤ c ∧ c ≤ maxLen ∧ EL v.ownBlock w (.slice A m c) bs := by
  match k, hk with
  | 0, _ =>
    obtain ⟨A, c, e, h2, h3, h4, h5, h6⟩ := h.e5
    obtain ⟨rfl, rfl, rfl⟩ := Value.slice.inj e
    exact ⟨_, _, _, b5, h.row.cell rfl, rfl, h.z5, h2, h5, h6, h.e5⟩
  | 1, _ =>
    obtain ⟨A, c, e, h2, h3, h4, h5, h6⟩ := h.e6
    obtain ⟨rfl, rfl, rfl⟩ := Value.slice.inj e
    exact ⟨_, _, _, b6, h.row.cell rfl, rfl, h.z6, h2, h5, h6, h.e6⟩
theorem Inv.start {W W4 w5 w6 : World} {g0 : Nat} {b0 b5 b6 : List UInt8} {A5 A6 : Option Addr} {c5 c6 np nn : Nat} (hL : Lst W W4 (.slice (some ⟨g0, 0, none⟩) 1 1) [b0]) (e4 : Ext W W4) (hg : g0 < W4.heap.size) (X5 : Ext W4 w5) (X6 : Ext w5 w6)
    (F5 : ByF A5 b5 w5) (F6 : ByF A6 b6 w6) (G5 : ∀ b o, A5 = some ⟨b, o, none⟩ → W4.heap.size ≤ b) (G6 : ∀ b o, A6 = some ⟨b, o, none⟩ → w5.heap.size ≤ b) (l5 : b5.length = np) (l6 : b6.length = nn) (z5 : b5.length ≤ 3000) (z6 : b6.length ≤ 3000)
    (k5 : np ≤ c5) (k6 : nn ≤ c6) (m5 : c5 ≤ maxLen) (m6 : c6 ≤ maxLen) :
    Inv W w6.heap.size (.slice A5 np c5) (.slice A6 nn c6) b5 b6 0 (w6.alloc (.cells #[.slice A5 np c5, .slice A6 nn c6] 42)) (.slice (some ⟨g0, 0, none⟩) 1 1) [b0] := by
  subst l5 l6
  have e5 := X5.size
  have e6 := X6.size
  have xa : Ext w6 (w6.alloc (.cells #[.slice A5 b5.length c5, .slice A6 b6.length c6] 42)) := (Ext.refl _).alloc _
  refine ⟨(e4.trans (X5.trans X6)).trans xa, hL.next ((X5.trans X6).trans xa), WB.new _ _ _, ?_, ?_, ?_, z5, z6, by simp, by simp⟩
  · intro x
    simp only [Value.ownBlock, Option.some.injEq] at x
    omega
  · refine ⟨A5, c5, rfl, F5.ext (X6.trans xa), by omega, fun b o hA h0 x => ?_, k5, m5⟩
    have := G5 b o hA
    simp only [Value.ownBlock, Option.some.injEq] at x
    omega
  · refine ⟨A6, c6, rfl, F6.ext xa, by omega, fun b o hA h0 x => ?_, k6, m6⟩
    have := G6 b o hA
    simp only [Value.ownBlock, Option.some.injEq] at x
    omega
theorem el_three {g : Option Nat} {w : World} {u1 u2 u3 : Value} {b1 b2 b3 : List UInt8} (h1 : EL g w u1 b1) (h2 : EL g w u2 b2) (h3 : EL g w u3 b3) : ∀ (k : Nat) (u : Value) (bs : List UInt8), [u1, u2, u3][k]? = some u → [b1, b2, b3][k]? = some bs → EL g w u bs := by
  intro k u bs hu hb
  match k, hu, hb with
  | 0, hu, hb => (injection hu with hu; injection hb with hb; subst hu hb; exact h1)
  | 1, hu, hb => (injection hu with hu; injection hb with hb; subst hu hb; exact h2)
  | 2, hu, hb => (injection hu with hu; injection hb with hb; subst hu hb; exact h3)
  | k + 3, hu, hb => simp at hu
theorem wb_news {w : World} {b : Nat} {T : TypeId} {cs : Array Value} (h : WB w b T cs) : ∀ (j : Nat) (u : Value), cs.toList[j]? = some u → w.cell? ((⟨b, 0, none⟩ : Addr).add j) = some u := by
  intro j u hu
  rw [show (⟨b, 0, none⟩ : Addr).add j = ⟨b, j, none⟩ from by unfold Addr.add; split <;> simp_all]
  exact h.cell (by simpa using hu)
theorem bytes_info : (Tryz.prog.info? 42).map (fun i => (i.zero, i.size, i.bytes)) = some (some (.slice none 0 0), 1, 24) := by kernel_rfl
theorem by_wrap (n : Int) : ∃ z : UInt8, Value.int .u8 (IntKind.u8.wrap n) = byV z := by
  refine ⟨UInt8.ofNat (IntKind.u8.wrap n).toNat, ?_⟩
  unfold byV
  have h : (0 : Int) ≤ IntKind.u8.wrap n ∧ IntKind.u8.wrap n ≤ 255 := by
    simp [IntKind.wrap, IntKind.signed, IntKind.bits]
    omega
  have : ((UInt8.ofNat (IntKind.u8.wrap n).toNat).toNat : Int) = IntKind.u8.wrap n := by
    rw [UInt8.toNat_ofNat']
    omega
  rw [this]
theorem Lst.lt {W w : World} {v : Value} {L : List (List UInt8)} (h : Lst W w v L) {b : Nat} (hv : v.ownBlock = some b) : b < w.heap.size := by
  obtain ⟨base, cs, h1, h2, h3, h4⟩ := h.ex
  rcases h3.2 with ⟨e, _⟩ | ⟨g, cap, cur, e, hg, hh, _⟩
  · rw [e] at hv; simp [Value.ownBlock] at hv
  · rw [e] at hv
    obtain rfl : g = b := by simpa [Value.ownBlock] using hv
    apply Classical.byContradiction
    intro hn
    rw [Array.getElem?_eq_none (by omega)] at hh
    simp at hh
/-- three slices more -/
theorem el_own {w : World} {g : Option Nat} {A : Option Addr} {n c base : Nat} {bs : List UInt8} (h : w.ownsRow base 5 1 (.slice A n c) n (bs.map byV)) (hl : bs.length = n) (h4 : n ≤ 4000) (hg : ∀ b, g = some b → b < base) : EL g w (.slice A n c) bs := by
  subst hl
  obtain ⟨f, h1, h2⟩ := own_flatA h
  refine ⟨A, c, rfl, f, h4, fun b o hA h0 x => ?_, h1, h2⟩
  have := hg b x
  rcases h.2 with ⟨e, _⟩ | ⟨g', cap, cur, e, hg, _⟩
  · obtain ⟨rfl, _, _⟩ := Value.slice.inj e; simp at hA
  · obtain ⟨rfl, _, _⟩ := Value.slice.inj e
    injection hA with hA
    injection hA with e1 e2
    omega
theorem ByF.take {A : Option Addr} {bs : List UInt8} {w : World} (h : ByF A bs w) {k : Nat} (hk : k ≤ bs.length) : ByF A (bs.take k) w := by
  have := Flat.take h k hk
  rw [Nat.mul_one, ← List.map_take] at this
  rw [ByF, List.length_take, Nat.min_eq_left hk]
  exact this
theorem EL.take {g : Option Nat} {w : World} {A : Option Addr} {n c : Nat} {bs : List UInt8} (h : EL g w (.slice A n c) bs) {k : Nat} (hk : k ≤ n) : EL g w (.slice A k c) (bs.take k) := by
  obtain ⟨A', c', e, h2, h3, h4, h5, h6⟩ := h
  obtain ⟨rfl, rfl, rfl⟩ := Value.slice.inj e
  have hl : (bs.take k).length = k := by rw [List.length_take]; omega
  refine ⟨A, c, by rw [hl], h2.take hk, by omega, fun b o hA h0 => h4 b o hA (by omega), by omega, h6⟩
/-- a byte of an owned row is written -/
theorem own_setB {w : World} {base g n c : Nat} {bs : List UInt8} (h : w.ownsRow base 5 1 (.slice (some ⟨g, 0, none⟩) n c) n (bs.map byV)) (k : Nat) (y : UInt8) :
    (w.setCell ⟨g, k, none⟩ (byV y)).ownsRow base 5 1 (.slice (some ⟨g, 0, none⟩) n c) n ((bs.set k y).map byV) := by
  refine ⟨by simpa using h.1, ?_⟩
  rcases h.2 with ⟨e, _⟩ | ⟨g', cap, cur, e, hg, hh, hc1, hc2, hc3, ht⟩
  · simp at e
  · obtain ⟨e1, _, rfl⟩ := Value.slice.inj e
    obtain rfl : g = g' := by injection e1 with e1; injection e1
    refine .inr ⟨g, c, _, rfl, hg, WB.set hh k (byV y), hc1, hc2, by simpa using hc3, ?_⟩
    rw [List.map_set, ← ht, Array.toList_setIfInBounds, List.take_set]
/-- a round of loop 1 -/
theorem Inv.round {W : World} {q k kk : Nat} {u5 u6 v : Value} {b5 b6 bs bz : List UInt8} {x : UInt8} {L : List (List UInt8)} {wr W9 w11 cur w12 : World} {base : Nat} {cs : List Value} {g m c c9 c11 g12 c12 : Nat} {A A11 : Option Addr} (hI : Inv W q u5 u6 b5 b6 k wr v L) (XZ : Ext wr W9)
    (lb1 : W.heap.size ≤ base) (lb2 : base ≤ wr.heap.size) (lb3 : wr.ownsRow base 42 1 v L.length cs) (lb4 : ∀ (k : Nat) (u : Value) (bs : List UInt8), cs[k]? = some u → L[k]? = some bs → EL v.ownBlock wr u bs)
    (OZ : W9.ownsRow wr.heap.size 5 1 (.slice (some ⟨g, 0, none⟩) m c9) m (bz.map byV)) (HZL : bz.length = m) (hEL : EL v.ownBlock wr (.slice A m c) bs) (hm : bs.length = m) (hm3 : m ≤ 3000) (hkk : kk ≤ m)
    (C11 : Cop W9 w11 5 1 A11 (m + 1) c11 (bs.map byV ++ [byV x])) (EC2 : Ext w11 cur) (x12 : cur.grownBy w12 v.ownBlock)
    (o12 : w12.ownsRow base 42 1 (.slice (some ⟨g12, 0, none⟩) (L.length + 3) c12) (L.length + 3) (cs ++ [.slice (some ⟨g, 0, none⟩) m c9, .slice A kk c, .slice A11 (m + 1) c11])) (v12 : v.ownBlock = some g12 ∨ g12 = cur.heap.size) :
    ∃ L', Inv W q u5 u6 b5 b6 (k + 1) w12 (.slice (some ⟨g12, 0, none⟩) (L.length + 3) c12) L' := by
  have EC : Ext W9 cur := C11.ext.trans EC2
  have ER : Ext wr cur := XZ.trans EC
  have hg : ∀ b, v.ownBlock = some b → b < wr.heap.size := fun b h => hI.lst.lt h
  obtain ⟨_, b3, b31, b32, ow3⟩ := C11
  have s9 := XZ.size
  refine ⟨L ++ [bz, bs.take kk, bs ++ [x]], (hI.next ER).app lb1 (Nat.le_trans lb2 ER.size) (own_ext lb3 ER) (fun k u bs a b => (lb4 k u bs a b).ext ER) (el_three (el_own (own_ext OZ EC) HZL (by omega) hg) ((hEL.ext ER).take hkk) (el_own (base := b3) (by rw [List.map_append]; exact own_ext ow3 EC2) (by simp [hm]) (by omega) (fun b h => by have := hg b h; omega))) rfl x12 o12 v12⟩
end Go.Proofs.YthfafenigjldlaaGreat
