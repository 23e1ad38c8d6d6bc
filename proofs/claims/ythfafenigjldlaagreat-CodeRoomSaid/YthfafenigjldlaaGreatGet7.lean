/-
  Words for the walks of GetPod and GetNode: lists that were read stay.
-/
import Derived.Test.YthfafenigjldlaaGreatGet6
import Derived.Test.YthfafenigjldlaaGreatEq4
namespace Go.Proofs.YthfafenigjldlaaGreat
open Go.RowKit
set_option linter.unusedVariables false

/-- what a getter turns: the Reader and the object -/
def GB (g bx n0 : Nat) : Nat → Prop := fun k => k = g ∨ k = bx ∨ k = n0
theorem Keep.gb {g bx n0 : Nat} {w w' : World} (h : Keep (fun k => k = g) w w') : Keep (GB g bx n0) w w' := h.mono (fun k _ e => .inl e)
theorem Keep.gbSet {g bx n0 : Nat} {w w' : World} (h : Keep (GB g bx n0) w w') (j : Nat) (u : Value) : Keep (GB g bx n0) w (w'.setCell ⟨bx, j, none⟩ u) := h.setCell (p := ⟨bx, j, none⟩) (.inr (.inl rfl)) u
theorem Keep.gbSet0 {g bx n0 : Nat} {w w' : World} (h : Keep (GB g bx n0) w w') (j : Nat) (u : Value) : Keep (GB g bx n0) w (w'.setCell ⟨n0, j, none⟩ u) := h.setCell (p := ⟨n0, j, none⟩) (.inr (.inr rfl)) u
theorem gset {g bx n0 : Nat} {T : TypeId} {w wn : World} {cs : Array Value} {ph bad : Bool} {bs : List UInt8} (k : Keep (fun k => k = g) w wn) (b : WB w bx T cs) (r : Rd wn g ph bs bad) (hbg : bx ≠ g) (h1 : T ≠ 166) (h2 : T ≠ 5) :
    WB wn bx T cs ∧ ∀ j v, WB (wn.setCell ⟨bx, j, none⟩ v) bx T (cs.setIfInBounds j v) ∧ Rd (wn.setCell ⟨bx, j, none⟩ v) g ph bs bad ∧ Keep (GB g bx n0) w (wn.setCell ⟨bx, j, none⟩ v) := by
  have b2 : WB wn bx T cs := WB.keep (S := fun k => k = g) b k hbg
  exact ⟨b2, fun j v => ⟨b2.set j v, r.setOther b2 h1 h2 j v, (k.gb).gbSet j v⟩⟩
theorem gstep {g bx n0 m m' size : Nat} {T T' : TypeId} {w0 wx w7 : World} {cs : Array Value} {vv v' : Value} {xs xs' : List Value} {ph bad : Bool} {bs : List UInt8} (K : Keep (GB g bx n0) w0 wx) (B : WB wx bx T cs) (O : wx.ownsRow w0.heap.size T' size vv m xs) (R : Rd wx g ph bs bad)
    (hown : w7.ownsRow w0.heap.size T' size v' m' xs') (hgrow : wx.grownBy w7 vv.ownBlock) (h1 : T ≠ 166) (h2 : T ≠ 5) (h3 : T' ≠ T) (h4 : T' ≠ 166) (h5 : T' ≠ 5) :
    WB w7 bx T cs ∧ ∀ j u, Keep (GB g bx n0) w0 (w7.setCell ⟨bx, j, none⟩ u) ∧ WB (w7.setCell ⟨bx, j, none⟩ u) bx T (cs.setIfInBounds j u) ∧ (w7.setCell ⟨bx, j, none⟩ u).ownsRow w0.heap.size T' size v' m' xs' ∧ Rd (w7.setCell ⟨bx, j, none⟩ u) g ph bs bad := by
  have b7 : WB w7 bx T cs := B.grown hgrow (own_ne O B h3)
  exact ⟨b7, fun j u => ⟨(Keep.grownNew K O hgrow).gbSet j u, b7.set j u, own_set hown b7 h3 j u, (R.grown O hgrow h4 h5).setOther b7 h1 h2 j u⟩⟩
theorem own_gb {w w' : World} {g bx n0 base size n : Nat} {T : TypeId} {v : Value} {xs : List Value} (hown : w.ownsRow base T size v n xs) (hk : Keep (GB g bx n0) w w') (hg : g < base) (hb : bx < base) (h0 : n0 < base) : w'.ownsRow base T size v n xs := by
  refine ⟨hown.1, ?_⟩
  rcases hown.2 with h | ⟨g', cap, cur, rfl, hg', hh, r⟩
  · exact .inl h
  · exact .inr ⟨g', cap, cur, rfl, hg', (hk.block g' (heap_lt hh) (by rintro (rfl | rfl | rfl) <;> omega)).trans hh, r⟩
/-- a row of one's own, as cells that stay -/
theorem own_stay {w : World} {g bx n0 base size n : Nat} {T : TypeId} {v : Value} {xs : List Value} (hown : w.ownsRow base T size v n xs) (hg : g < base) (hb : bx < base) (h0 : n0 < base) :
    ∃ A c, v = .slice A n c ∧ n ≤ c ∧ c ≤ maxLen ∧ ∀ wx, Keep (GB g bx n0) w wx → Flat wx size A n xs := by
  have key : ∀ wx, Keep (GB g bx n0) w wx → wx.ownsRow base T size v n xs := fun wx k => own_gb hown k hg hb h0
  rcases hown.2 with ⟨rfl, hz⟩ | ⟨g', cap, cur, rfl, hg', hh, hn, hm, hs, ht⟩
  · exact ⟨none, 0, by rw [hz], by omega, by simp [maxLen], fun wx k => ⟨hown.1, fun h => by omega⟩⟩
  · refine ⟨_, cap, rfl, hn, hm, fun wx k => ⟨hown.1, fun _ => ⟨g', 0, rfl, fun j u hu => ?_⟩⟩⟩
    have hj : j < xs.length := (List.getElem?_eq_some_iff.1 hu).1
    have h1 := hown.1
    have hw := (k.block g' (heap_lt hh) (by rintro (rfl | rfl | rfl) <;> omega)).trans hh
    rw [← ht, List.getElem?_take_of_lt (by omega)] at hu
    simp only [World.cell?, hw, Nat.zero_add]
    simpa using hu
theorem flat_ints {w : World} {A : Option Addr} {n : Nat} {xs : List Int} (hn : xs.length = n) (h : Flat w 1 A n (xs.map (.int .i64))) (ok : ∀ x ∈ xs, inI x) : Sl RInt 1 w A xs := by
  intro k x hx
  have hk : k < xs.length := (List.getElem?_eq_some_iff.1 hx).1
  obtain ⟨b, o, e, hc⟩ := h.2 (by omega)
  refine ⟨b, o, [.int .i64 x], e, rfl, fun j u hu => ?_, rfl, ok x (List.mem_of_getElem? hx)⟩
  match j, hu with
  | 0, hu =>
    obtain rfl : Value.int .i64 x = u := by simpa using hu
    have := hc k (.int .i64 x) (by rw [List.getElem?_map, hx]; rfl)
    simpa using this
theorem flatMap_at {α : Type} (f : α → List Value) (size : Nat) (hf : ∀ x, (f x).length = size) : ∀ (xs : List α) (k : Nat) (x : α) (j : Nat) (u : Value), xs[k]? = some x → (f x)[j]? = some u → (xs.flatMap f)[k * size + j]? = some u
  | [], k, x, j, u, hx, _ => by simp at hx
  | y :: r, 0, x, j, u, hx, hu => by
    obtain rfl : y = x := by simpa using hx
    have hj : j < (f y).length := (List.getElem?_eq_some_iff.1 hu).1
    rw [List.flatMap_cons, Nat.zero_mul, Nat.zero_add, List.getElem?_append_left hj, hu]
  | y :: r, k + 1, x, j, u, hx, hu => by
    have hx' : r[k]? = some x := by simpa using hx
    have hl := hf y
    rw [List.flatMap_cons, List.getElem?_append_right (by rw [hl, Nat.succ_mul]; omega), hl, show (k + 1) * size + j - size = k * size + j by rw [Nat.succ_mul]; omega]
    exact flatMap_at f size hf r k x j u hx' hu
theorem flat_pairs {w : World} {A : Option Addr} {n : Nat} {xs : List Pr} (hn : xs.length = n) (h : Flat w 2 A n (pairC xs)) (ok : ∀ x ∈ xs, okS x.key ∧ okS x.val) : Sl RPair 2 w A xs := by
  intro k x hx
  have hk : k < xs.length := (List.getElem?_eq_some_iff.1 hx).1
  obtain ⟨b, o, e, hc⟩ := h.2 (by omega)
  refine ⟨b, o, [.string x.key, .string x.val], e, rfl, fun j u hu => ?_, rfl, ok x (List.mem_of_getElem? hx)⟩
  have := hc _ u (flatMap_at (fun x : Pr => [.string x.key, .string x.val]) 2 (fun _ => rfl) xs k x j u hx hu)
  rw [Nat.add_assoc]; exact this
def tolC (xs : List Tl) : List Value := xs.flatMap fun x => [.string x.key, .string x.val, .bool x.any]
theorem flat_tols {w : World} {A : Option Addr} {n : Nat} {xs : List Tl} (hn : xs.length = n) (h : Flat w 3 A n (tolC xs)) (ok : ∀ x ∈ xs, okS x.key ∧ okS x.val) : Sl RTol 3 w A xs := by
  intro k x hx
  have hk : k < xs.length := (List.getElem?_eq_some_iff.1 hx).1
  obtain ⟨b, o, e, hc⟩ := h.2 (by omega)
  refine ⟨b, o, [.string x.key, .string x.val, .bool x.any], e, rfl, fun j u hu => ?_, rfl, ok x (List.mem_of_getElem? hx)⟩
  have := hc _ u (flatMap_at (fun x : Tl => [.string x.key, .string x.val, .bool x.any]) 3 (fun _ => rfl) xs k x j u hx hu)
  rw [Nat.add_assoc]; exact this
theorem StrRow.gb {g bx n0 : Nat} {T : TypeId} {w w' : World} {cs cs0 : Array Value} {A : Option Addr} {vals : List ByteArray} (h : StrRow g w A vals) (hb : WB w bx T cs) (hb0 : WB w n0 T cs0) (hT : 9 ≠ T) (hk : Keep (GB g bx n0) w w') : StrRow g w' A vals := by
  intro h0
  obtain ⟨b, cur, e, hbg, hh, ht⟩ := h h0
  refine ⟨b, cur, e, hbg, (hk.block b (heap_lt hh) ?_).trans hh, ht⟩
  have no : ∀ (cs : Array Value), WB w b T cs → False := fun cs hb => by
    have hb' : w.heap[b]? = _ := hb
    rw [hh] at hb'
    injection hb' with hb'
    injection hb' with _ e
    exact hT e
  rintro (h1 | rfl | rfl)
  · exact hbg h1
  · exact no _ hb
  · exact no _ hb0
def okTS (x : Tm) : Prop := okS x.key ∧ inI x.kind ∧ ∀ v ∈ x.vals, okS v
theorem flat_terms {g : Nat} {w : World} {A : Option Addr} {n : Nat} {xs : List Tm} {cs : List Value} (hn : xs.length = n) (h : Flat w 3 A n cs) (ht : TermRow g w cs xs) (ok : ∀ x ∈ xs, okTS x) : Sl RTerm 3 w A xs := by
  intro k x hx
  have hk : k < xs.length := (List.getElem?_eq_some_iff.1 hx).1
  obtain ⟨b, o, e, hc⟩ := h.2 (by omega)
  obtain ⟨A', c', e1, e2, e3, l1, l2, sr⟩ := ht.2 k x hx
  have hok := ok x (List.mem_of_getElem? hx)
  refine ⟨b, o, [.string x.key, .int .i64 x.kind, .slice A' x.vals.length c'], e, rfl, fun j u hu => ?_, A', c', rfl, hok.1, hok.2.1, l1, l2, sr.sl hok.2.2⟩
  match j, hu with
  | 0, hu => obtain rfl : Value.string x.key = u := by simpa using hu
             exact hc _ _ e1
  | 1, hu => obtain rfl : Value.int .i64 x.kind = u := by simpa using hu
             rw [Nat.add_assoc]; exact hc _ _ e2
  | 2, hu => obtain rfl : Value.slice A' x.vals.length c' = u := by simpa using hu
             rw [Nat.add_assoc]; exact hc _ _ e3
theorem TermRow.gb {g bx n0 : Nat} {T : TypeId} {w w' : World} {cs cs0 : Array Value} {ds : List Value} {xs : List Tm} (h : TermRow g w ds xs) (hb : WB w bx T cs) (hb0 : WB w n0 T cs0) (hT : 9 ≠ T) (hk : Keep (GB g bx n0) w w') : TermRow g w' ds xs :=
  ⟨h.1, fun i x hx => by obtain ⟨A, c, h1, h2, h3, h4, h5, h6⟩ := h.2 i x hx; exact ⟨A, c, h1, h2, h3, h4, h5, h6.gb hb hb0 hT hk⟩⟩

/-! ### what is read is in range -/
theorem nameFR_ok (bs : List UInt8) (bad : Bool) : okS (nameFR bs bad).1 := by
  have h := decL_len (uOf (numF 8 bs bad).1) 12
  show (nameOf _).data.size ≤ maxLen
  unfold nameOf maxLen
  simp
  omega
theorem pairsFrom_ok (k : Nat) (bs : List UInt8) (bad : Bool) : ∀ x ∈ (pairsFrom k bs bad).1, okS x.key ∧ okS x.val := by
  induction k with
  | zero => simp [pairsFrom]
  | succ k ih =>
    intro x hx
    simp only [pairsFrom, List.mem_append, List.mem_singleton] at hx
    rcases hx with hx | rfl
    · exact ih x hx
    · exact ⟨nameFR_ok _ _, nameFR_ok _ _⟩
theorem valsFrom_ok (k : Nat) (bs : List UInt8) (bad : Bool) : ∀ x ∈ (valsFrom k bs bad).1, okS x := by
  induction k with
  | zero => simp [valsFrom]
  | succ k ih =>
    intro x hx
    simp only [valsFrom, List.mem_append, List.mem_singleton] at hx
    rcases hx with hx | rfl
    · exact ih x hx
    · exact nameFR_ok _ _
theorem termsFrom_ok (k : Nat) (bs : List UInt8) (bad : Bool) : ∀ x ∈ (termsFrom k bs bad).1, okTS x := by
  induction k with
  | zero => simp [termsFrom]
  | succ k ih =>
    intro x hx
    simp only [termsFrom, List.mem_append, List.mem_singleton] at hx
    rcases hx with hx | rfl
    · exact ih x hx
    · exact ⟨nameFR_ok _ _, numF_inI _ _ _, valsFrom_ok _ _ _⟩
theorem portsFrom_ok (k : Nat) (bs : List UInt8) (bad : Bool) : ∀ x ∈ (portsFrom k bs bad).1, inI x := by
  induction k with
  | zero => simp [portsFrom]
  | succ k ih =>
    intro x hx
    simp only [portsFrom, List.mem_append, List.mem_singleton] at hx
    rcases hx with hx | rfl
    · exact ih x hx
    · exact numF_inI _ _ _
theorem tolsFrom_ok (k : Nat) (bs : List UInt8) (bad : Bool) : ∀ x ∈ (tolsFrom k bs bad).1, okS x.key ∧ okS x.val := by
  induction k with
  | zero => simp [tolsFrom]
  | succ k ih =>
    intro x hx
    simp only [tolsFrom, List.mem_append, List.mem_singleton] at hx
    rcases hx with hx | rfl
    · exact ih x hx
    · exact ⟨nameFR_ok _ _, nameFR_ok _ _⟩
theorem int_info : (Tryz.prog.info? 3).map (fun i => (i.zero, i.size, i.bytes)) = some (some (.int .i64 0), 1, 8) := by kernel_rfl
theorem toler_info : (Tryz.prog.info? 52).map (fun i => (i.zero, i.size, i.bytes)) = some (some (.agg #[.string ⟨#[]⟩, .string ⟨#[]⟩, .bool false]), 3, 40) := by kernel_rfl
/-- a list that was read: where it lies, and that it stays -/
theorem got_pairs {w : World} {g bx n0 base : Nat} {T : TypeId} {v : Value} {xs : List Pr} {n : Nat} (hn : xs.length = n) (hown : w.ownsRow base T 2 v n (pairC xs)) (hg : g < base) (hb : bx < base) (h0 : n0 < base) (ok : ∀ x ∈ xs, okS x.key ∧ okS x.val) :
    ∃ A c, v = .slice A xs.length c ∧ xs.length ≤ c ∧ c ≤ maxLen ∧ ∀ wx, Keep (GB g bx n0) w wx → Sl RPair 2 wx A xs := by
  subst hn
  obtain ⟨A, c, h1, h2, h3, h4⟩ := own_stay hown hg hb h0
  exact ⟨A, c, h1, h2, h3, fun wx k => flat_pairs rfl (h4 wx k) ok⟩
theorem got_ints {w : World} {g bx n0 base : Nat} {T : TypeId} {v : Value} {xs : List Int} {n : Nat} (hn : xs.length = n) (hown : w.ownsRow base T 1 v n (xs.map (.int .i64))) (hg : g < base) (hb : bx < base) (h0 : n0 < base) (ok : ∀ x ∈ xs, inI x) :
    ∃ A c, v = .slice A xs.length c ∧ xs.length ≤ c ∧ c ≤ maxLen ∧ ∀ wx, Keep (GB g bx n0) w wx → Sl RInt 1 wx A xs := by
  subst hn
  obtain ⟨A, c, h1, h2, h3, h4⟩ := own_stay hown hg hb h0
  exact ⟨A, c, h1, h2, h3, fun wx k => flat_ints rfl (h4 wx k) ok⟩
theorem got_tols {w : World} {g bx n0 base : Nat} {T : TypeId} {v : Value} {xs : List Tl} {n : Nat} (hn : xs.length = n) (hown : w.ownsRow base T 3 v n (tolC xs)) (hg : g < base) (hb : bx < base) (h0 : n0 < base) (ok : ∀ x ∈ xs, okS x.key ∧ okS x.val) :
    ∃ A c, v = .slice A xs.length c ∧ xs.length ≤ c ∧ c ≤ maxLen ∧ ∀ wx, Keep (GB g bx n0) w wx → Sl RTol 3 wx A xs := by
  subst hn
  obtain ⟨A, c, h1, h2, h3, h4⟩ := own_stay hown hg hb h0
  exact ⟨A, c, h1, h2, h3, fun wx k => flat_tols rfl (h4 wx k) ok⟩
theorem got_terms {w : World} {g bx n0 base : Nat} {T T' : TypeId} {v : Value} {xs : List Tm} {cs : List Value} {ds ds0 : Array Value} {n : Nat} (hn : xs.length = n) (hown : w.ownsRow base T 3 v n cs) (ht : TermRow g w cs xs) (hwb : WB w bx T' ds) (hwb0 : WB w n0 T' ds0) (hT : 9 ≠ T') (hg : g < base) (hb : bx < base) (h0 : n0 < base) (ok : ∀ x ∈ xs, okTS x) :
    ∃ A c, v = .slice A xs.length c ∧ xs.length ≤ c ∧ c ≤ maxLen ∧ ∀ wx, Keep (GB g bx n0) w wx → Sl RTerm 3 wx A xs := by
  subst hn
  obtain ⟨A, c, h1, h2, h3, h4⟩ := own_stay hown hg hb h0
  exact ⟨A, c, h1, h2, h3, fun wx k => flat_terms rfl (h4 wx k) (ht.gb hwb hwb0 hT k) ok⟩
def podOut (bs : List UInt8) : Pd := if podG bs then (podR bs).pod else zeroPd
def GPPost (bs : List UInt8) (w : World) (e : Ending) (w' : World) : Prop :=
  ∃ q : PA, e = .returned (.tuple #[.agg (podC (podOut bs) q).toArray, .bool (podG bs)]) ∧ Ext w w' ∧ PodOk w' (podOut bs) q
def q0 : PA := ⟨none, 0, none, 0, none, 0, none, 0, none, 0, none, 0⟩
theorem zeroPd_ok (w : World) : PodOk w zeroPd q0 := by
  have h1 : okS (⟨#[]⟩ : ByteArray) := Nat.zero_le _
  have h2 : inI 0 := ⟨by omega, by omega⟩
  exact ⟨h1, h2, h2, ⟨h2, h2, h2⟩, Sl.nil, Sl.nil, Sl.nil, Sl.nil, h1, Sl.nil, h2, Sl.nil, h1, h2, Nat.zero_le _, Nat.zero_le _, Nat.zero_le _, Nat.zero_le _, Nat.zero_le _, Nat.zero_le _, Nat.zero_le _, Nat.zero_le _, Nat.zero_le _, Nat.zero_le _, Nat.zero_le _, Nat.zero_le _⟩
end Go.Proofs.YthfafenigjldlaaGreat
