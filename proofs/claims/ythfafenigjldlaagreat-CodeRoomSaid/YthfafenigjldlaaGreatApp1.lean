/-
  Plain laws of labels; append onto an owned slice, of any slice whose cells are known: nil, empty or not; what such a slice reads as.
-/
import Derived.Test.YthfafenigjldlaaGreatTaint1
import Derived.Test.YthfafenigjldlaaGreatGet4
namespace Go.Proofs.YthfafenigjldlaaGreat
open Go.RowKit
set_option linter.unusedVariables false

theorem matchB_app (a b : List Tm) (l : List Pr) : matchB (a ++ b) l = (matchB a l && matchB b l) := by simp [matchB, List.any_append]
theorem match1 (t : Tm) (l : List Pr) : matchB [t] l = holdsB t l := by simp [matchB]
theorem getO_app (l m : List Pr) (key : ByteArray) : getO (l ++ m) key = (getO l key).or (getO m key) := by
  induction l with
  | nil => rfl
  | cons x r ih =>
    simp only [List.cons_append, getO]
    split
    · rfl
    · exact ih
theorem bytesLess_lt : ∀ (x y : List UInt8), Op.bytesLess x y = decide (x < y) := by
  intro x
  induction x with
  | nil => intro y; cases y <;> simp [Op.bytesLess]
  | cons a x ih =>
    intro y
    cases y with
    | nil => simp [Op.bytesLess]
    | cons b y =>
      simp only [Op.bytesLess, List.cons_lt_cons_iff]
      by_cases h : a < b
      · simp [h]
      · by_cases h2 : a = b
        · subst h2; simp [ih]
        · simp [h, h2]
theorem ltS_iff {a b : ByteArray} : ltS a b = true ↔ a.toList < b.toList := by simp [ltS, bytesLess_lt]
theorem ltS_irrefl (a : ByteArray) : ltS a a = false := by
  rw [← Bool.not_eq_true, ltS_iff]
  exact List.lt_irrefl _
theorem ltS_trans {a b c : ByteArray} (h : ltS a b = true) (k : ltS b c = true) : ltS a c = true := by
  rw [ltS_iff] at h k ⊢
  exact List.lt_trans h k
theorem mayFrom_lt : ∀ (xs : List Pr) (k : ByteArray), mayFrom (some k) xs = true → ∀ x ∈ xs, ltS k x.key = true := by
  intro xs
  induction xs with
  | nil => intro k _ x hx; cases hx
  | cons y r ih =>
    intro k h x hx
    simp only [mayFrom, Bool.and_eq_true] at h
    rcases List.mem_cons.1 hx with rfl | hx
    · exact h.1.2
    · exact ltS_trans h.1.2 (ih _ h.2 x hx)
theorem first_may (l : List Pr) (key a b : ByteArray) : mayPairs (⟨key, a⟩ :: (l ++ [⟨key, b⟩])) = false := by
  rw [← Bool.not_eq_true]
  intro h
  unfold mayPairs at h
  simp only [mayFrom, Bool.and_eq_true] at h
  have := mayFrom_lt _ _ h.1.2 ⟨key, b⟩ (by simp)
  rw [ltS_irrefl] at this
  cases this
theorem first_get (l : List Pr) (key a b : ByteArray) : getV (⟨key, a⟩ :: (l ++ [⟨key, b⟩])) key = a ∧ getB (⟨key, a⟩ :: (l ++ [⟨key, b⟩])) key = true := by
  have e : getO (⟨key, a⟩ :: (l ++ [⟨key, b⟩])) key = some a := by simp [getO, eqS_self]
  unfold getV getB
  rw [e]; exact ⟨rfl, rfl⟩
theorem first_end (l : List Pr) (key b : ByteArray) : getB (l ++ [⟨key, b⟩]) key = true ∧ (getB l key = false → getV (l ++ [⟨key, b⟩]) key = b) := by
  unfold getV getB
  rw [getO_app]
  have e : getO [⟨key, b⟩] key = some b := by simp [getO, eqS_self]
  rw [e]
  cases getO l key <;> simp
theorem more_get (l : List Pr) (p : Pr) (key : ByteArray) (h : getB l key = true) : getB (l ++ [p]) key = true ∧ getV (l ++ [p]) key = getV l key := by
  unfold getV getB at *
  rw [getO_app]
  cases hg : getO l key with
  | none => rw [hg] at h; cases h
  | some v => simp
theorem more_in (t : Tm) (l : List Pr) (p : Pr) (h : t.kind = 1 ∨ t.kind = 3) (ha : matchB [t] l = true) : matchB [t] (l ++ [p]) = true := by
  rw [match1] at *
  unfold holdsB at *
  rcases h with h | h
  · rw [h] at ha ⊢
    simp at ha ⊢
    obtain ⟨h1, h2⟩ := more_get l p t.key ha.1
    exact ⟨h1, by rw [h2]; exact ha.2⟩
  · rw [h] at ha ⊢
    simp at ha ⊢
    exact (more_get l p t.key ha).1
theorem more_not (t : Tm) (l : List Pr) (p : Pr) (h : t.kind = 2 ∨ t.kind = 4) (ha : matchB [t] (l ++ [p]) = true) : matchB [t] l = true := by
  rw [match1] at *
  unfold holdsB at *
  rcases h with h | h
  · rw [h] at ha ⊢
    simp at ha ⊢
    cases h1 : getB l t.key with
    | false => exact .inl rfl
    | true =>
      obtain ⟨h2, h3⟩ := more_get l p t.key h1
      rw [h2, h3] at ha
      exact .inr (by simpa using ha)
  · rw [h] at ha ⊢
    simp at ha ⊢
    cases hg : getB l t.key with
    | false => rfl
    | true => rw [(more_get l p t.key hg).1] at ha; cases ha
theorem more_else (t : Tm) (l : List Pr) (h1 : t.kind ≠ 1) (h2 : t.kind ≠ 2) (h3 : t.kind ≠ 3) (h4 : t.kind ≠ 4) : matchB [t] l = false := by
  rw [match1]
  unfold holdsB
  rw [if_neg h1, if_neg h2, if_neg h3, if_neg h4]

theorem Sl.take {α : Type} {R : World → List Value → α → Prop} {size : Nat} {w : World} {A : Option Addr} {xs : List α} (h : Sl R size w A xs) (n : Nat) : Sl R size w A (xs.take n) := by
  intro k x hx
  rw [List.getElem?_take] at hx
  split at hx
  · exact h k x hx
  · cases hx
theorem sl_term1 (W : World) (b : Nat) (key : ByteArray) (kind : Int) (vals : List ByteArray) (B : Option Addr) (d : Nat) (h1 : okS key) (h2 : inI kind) (h3 : vals.length ≤ d) (h4 : d ≤ maxLen) (h5 : Sl RStr 1 W B vals)
    (hb : WB W b 41 #[.string key, .int .i64 kind, .slice B vals.length d]) : Sl RTerm 3 W (some ⟨b, 0, none⟩) [⟨key, kind, vals⟩] := by
  intro k p hp
  match k, hp with
  | 0, hp => obtain rfl : (⟨key, kind, vals⟩ : Tm) = p := by simpa using hp
             exact ⟨_, 0, [_, _, _], rfl, rfl, fun j u hu => by match j, hu with | 0, hu => (injection hu with hu; subst hu; exact hb.cell (i := 0) rfl) | 1, hu => (injection hu with hu; subst hu; exact hb.cell (i := 1) rfl) | 2, hu => (injection hu with hu; subst hu; exact hb.cell (i := 2) rfl), B, d, rfl, h1, h2, h3, h4, h5⟩
  | k + 1, hp => simp at hp
theorem match_one (t : Tm) (l : List Pr) : matchB [t] l = holdsB t l := by simp [matchB]

theorem match_len (X : Option Addr) (c : Nat) (ts : List Tm) (B : Option Addr) (d : Nat) (l : List Pr) (a b : Nat) (w : World) (ha : ts.length = a) (hb : l.length = b) (hn : a ≤ maxLen) (hx : Sl RTerm 3 w X ts) (h6 : b ≤ maxLen) (h7 : Sl RPair 2 w B l) :
    Calls Tryz.prog 27 #[.slice X a c, .slice B b d] w fun e w' => e = .returned (.bool (matchB ts l)) ∧ Ext w w' := by
  subst ha hb
  exact match_any X c ts B d l w hn hx h6 h7
theorem sl_term2 (W : World) (b : Nat) (key : ByteArray) (kind : Int) (vals : List ByteArray) (B : Option Addr) (d n : Nat) (hn : vals.length = n) (h1 : okS key) (h2 : inI kind) (h3 : n ≤ d) (h4 : d ≤ maxLen) (h5 : Sl RStr 1 W B vals)
    (hb : WB W b 41 #[.string key, .int .i64 kind, .slice B n d]) : Sl RTerm 3 W (some ⟨b, 0, none⟩) [⟨key, kind, vals⟩] := by
  subst hn
  exact sl_term1 W b key kind vals B d h1 h2 h3 h4 h5 hb

theorem run_loadCells_none (P : Program) (w : World) (a : Addr) : (loadCells a 0).run P w = .ok #[] w := by
  rfl
section
variable {P : Program} (w : World)
theorem run_append_nothing (base : Nat) (t ty e : TypeId) (i : TypeInfo) (size : Nat) (ht : P.underlying t = some (.slice e)) (hi : P.info? e = some i)
    (v : Value) (n : Nat) (xs : List Value) (hown : w.ownsRow base e size v n xs) (A : Option Addr) (c : Nat) :
    (Builtin.append_ #[t, t] ty #[v, .slice A 0 c]).run P w = .ok v w := by
  have lc : ∀ a : Addr, (loadCells a 0).run P w = .ok #[] w := fun a => run_loadCells_none P w a
  rcases hown.2 with ⟨rfl, rfl⟩ | ⟨g, cap, cur, rfl, _, _, hnc, _⟩
  · cases A <;> simp [Builtin.append_, run_underlying ht, sizeOf, typeInfo, hi, Builtin.lenOf, Builtin.firstCells, lc, Result.andThen]
  · cases A <;> simp [Builtin.append_, run_underlying ht, sizeOf, typeInfo, hi, Builtin.lenOf, Builtin.firstCells, hnc, storeCells, lc, Result.andThen]

theorem run_append_flat (t ty : TypeId) (base : Nat) (e : TypeId) (i : TypeInfo) (z : Value) (size bytes : Nat) (ht : P.underlying t = some (.slice e)) (hi : P.info? e = some i) (hz : i.zero = some z)
    (hsize : i.size = size) (hby : i.bytes = bytes) (hzs : z.cells.size = size) (hsz : 0 < size)
    (v : Value) (n : Nat) (xs : List Value) (hown : w.ownsRow base e size v n xs)
    (A : Option Addr) (m c : Nat) (news : List Value) (hf : Flat w size A m news) (h1 : ∀ u ∈ news, u.oneCell' = true)
    (h63 : n + m ≤ maxLen) (hbytes : (n + m) * bytes ≤ 140737488355328) (hbase : base ≤ w.heap.size) :
    ∃ A' c' w', (Builtin.append_ #[t, t] ty #[v, .slice A m c]).run P w = .ok (.slice A' (n + m) c') w' ∧
      w'.ownsRow base e size (.slice A' (n + m) c') (n + m) (xs ++ news) ∧ w.grownBy w' v.ownBlock := by
  obtain ⟨hl, hf⟩ := hf
  rcases Nat.eq_zero_or_pos m with h0 | h0
  · subst h0
    obtain rfl : news = [] := List.eq_nil_of_length_eq_zero (by simpa using hl)
    have hr := run_append_nothing (P := P) w base t ty e i size ht hi v n xs hown A c
    rcases hown.2 with ⟨rfl, rfl⟩ | ⟨g, cap, cur, rfl, _⟩
    · exact ⟨none, 0, w, hr, by simpa using hown, ⟨rfl, rfl, rfl, Nat.le_refl _, fun _ _ _ => rfl⟩⟩
    · exact ⟨_, cap, w, hr, by simpa using hown, ⟨rfl, rfl, rfl, Nat.le_refl _, fun _ _ _ => rfl⟩⟩
  · obtain ⟨b, o, rfl, hc⟩ := hf h0
    obtain ⟨g, cap, w', hr, h2, h3, _, _⟩ := run_append_lies (P := P) w t ty base e i z size bytes ht hi hz hsize hby hzs hsz v n xs hown ⟨b, o, none⟩ m c news hl (fun j u hu => by
      rw [show (⟨b, o, none⟩ : Addr).add j = ⟨b, o + j, none⟩ from by unfold Addr.add; split <;> simp_all]
      exact hc j u hu) h1 h0 h63 hbytes hbase _ rfl
    exact ⟨_, cap, w', hr, h2, h3⟩

theorem step_append_flat {ops : Array Oper} {o : Oper} {a : Act} {K : Act → World → Prop} {Q : Exit → Act → World → Prop} {E : Prop} (hgd : o.guard = none) (s x : Operand) (t : TypeId)
    (ho : o.op = .call { callee := .builtin .append, args := #[s, x], argTypes := #[t, t] })
    (base : Nat) (e : TypeId) (i : TypeInfo) (z : Value) (size bytes : Nat) (ht : P.underlying t = some (.slice e)) (hi : P.info? e = some i) (hz : i.zero = some z)
    (hsize : i.size = size) (hby : i.bytes = bytes) (hzs : z.cells.size = size) (hsz : 0 < size)
    (v : Value) (n : Nat) (xs : List Value) (hs : a.eval s = v) (hown : w.ownsRow base e size v n xs)
    (A : Option Addr) (m c : Nat) (news : List Value) (hx : a.eval x = .slice A m c) (hf : Flat w size A m news) (h1 : ∀ u ∈ news, u.oneCell' = true)
    (h63 : n + m ≤ maxLen) (hbytes : (n + m) * bytes ≤ 140737488355328) (hbase : base ≤ w.heap.size)
    (h : ∀ A' c' w', w'.ownsRow base e size (.slice A' (n + m) c') (n + m) (xs ++ news) → w.grownBy w' v.ownBlock → K (a.put o.dst (.slice A' (n + m) c')) w') :
    if Region.wanted o (yielded ops a.tmps) = true then Oper.wp P o a w K Q else E := by
  have hw : Region.wanted o (yielded ops a.tmps) = true := by simp [Region.wanted, hgd]
  rw [if_pos hw]
  obtain ⟨A', c', w', hr, h2, h3⟩ := run_append_flat (P := P) w t o.type base e i z size bytes ht hi hz hsize hby hzs hsz v n xs hown A m c news hf h1 h63 hbytes hbase
  unfold Oper.wp execOp
  simp only [ho, resolve, invoke, builtin, Sem.run_bind, Sem.run_pure, Result.andThen_ok, List.map_toArray, List.map_cons, List.map_nil, hs, hx, hr]
  exact h A' c' w' h2 h3
theorem wpList_append_flat {ops : Array Oper} {rest : List Oper} {o : Oper} {a : Act} {Q : Exit → Act → World → Prop} (hgd : o.guard = none) (s x : Operand) (t : TypeId)
    (ho : o.op = .call { callee := .builtin .append, args := #[s, x], argTypes := #[t, t] })
    (base : Nat) (e : TypeId) (i : TypeInfo) (z : Value) (size bytes : Nat) (ht : P.underlying t = some (.slice e)) (hi : P.info? e = some i) (hz : i.zero = some z)
    (hsize : i.size = size) (hby : i.bytes = bytes) (hzs : z.cells.size = size) (hsz : 0 < size)
    (v : Value) (n : Nat) (xs : List Value) (hs : a.eval s = v) (hown : w.ownsRow base e size v n xs)
    (A : Option Addr) (m c : Nat) (news : List Value) (hx : a.eval x = .slice A m c) (hf : Flat w size A m news) (h1 : ∀ u ∈ news, u.oneCell' = true)
    (h63 : n + m ≤ maxLen) (hbytes : (n + m) * bytes ≤ 140737488355328) (hbase : base ≤ w.heap.size)
    (h : ∀ A' c' w', w'.ownsRow base e size (.slice A' (n + m) c') (n + m) (xs ++ news) → w.grownBy w' v.ownBlock → wpList P ops Q rest (a.put o.dst (.slice A' (n + m) c')) w') :
    wpList P ops Q (o :: rest) a w := by
  refine wpList_plain hgd fun K hK => ?_
  obtain ⟨A', c', w', hr, h2, h3⟩ := run_append_flat (P := P) w t o.type base e i z size bytes ht hi hz hsize hby hzs hsz v n xs hown A m c news hf h1 h63 hbytes hbase
  unfold Oper.wp execOp
  simp only [ho, resolve, invoke, builtin, Sem.run_bind, Sem.run_pure, Result.andThen_ok, List.map_toArray, List.map_cons, List.map_nil, hs, hx, hr]
  exact hK _ _ (h A' c' w' h2 h3)
end

theorem min_lit {P : Program} (n m : Nat) (k : Int) (hk : k = m) : ∃ a : Nat, a ≤ n ∧ a ≤ m ∧ Hid (a = min n m) ∧ ∀ (w : World) (ts : Array TypeId) (t : TypeId) (kk : IntKind), (Builtin.min_ ts t #[.int .i64 (n : Int), .int kk k]).run P w = .ok (.int .i64 (a : Int)) w := by
  refine ⟨min n m, by omega, by omega, rfl, fun w ts t kk => ?_⟩
  subst hk
  simp [Builtin.min_, Builtin.min2]
  split <;> omega

/-! ### readings: cells and lists -/
/-- the cells of a list of elements: R tells each element's cells -/
inductive Cells {α : Type} (R : World → List Value → α → Prop) (size : Nat) (w : World) : List α → List Value → Prop
  | nil : Cells R size w [] []
  | cons {x : α} {xs : List α} {cs rest : List Value} (h : R w cs x) (hl : cs.length = size) (t : Cells R size w xs rest) : Cells R size w (x :: xs) (cs ++ rest)
theorem Cells.len {α : Type} {R : World → List Value → α → Prop} {size : Nat} {w : World} {xs : List α} {cs : List Value} (h : Cells R size w xs cs) : cs.length = xs.length * size := by
  induction h with
  | nil => simp
  | cons h hl t ih => simp [ih, hl, Nat.add_mul]; omega
theorem Cells.app {α : Type} {R : World → List Value → α → Prop} {size : Nat} {w : World} {xs ys : List α} {cs ds : List Value} (h : Cells R size w xs cs) (k : Cells R size w ys ds) : Cells R size w (xs ++ ys) (cs ++ ds) := by
  induction h with
  | nil => exact k
  | cons h hl t ih => rw [List.append_assoc]; exact .cons h hl ih
theorem Cells.ext {α : Type} {R : World → List Value → α → Prop} {size : Nat} {w w' : World} {xs : List α} {cs : List Value} (hR : Keeps R) (h : Cells R size w xs cs) (e : Ext w w') : Cells R size w' xs cs := by
  induction h with
  | nil => exact .nil
  | cons h hl t ih => exact .cons (hR _ _ _ _ e h) hl ih
theorem Cells.at {α : Type} {R : World → List Value → α → Prop} {size : Nat} {w : World} {xs : List α} {cs : List Value} (h : Cells R size w xs cs) : ∀ k x, xs[k]? = some x → R w ((cs.drop (k * size)).take size) x := by
  induction h with
  | nil => intro k x h; simp at h
  | @cons y xs cs rest h hl t ih =>
    intro k x hx
    match k, hx with
    | 0, hx =>
      obtain rfl : y = x := by simpa using hx
      simpa [← hl] using h
    | k + 1, hx =>
      have := ih k x (by simpa using hx)
      rw [show (k + 1) * size = cs.length + k * size by rw [hl, Nat.add_mul]; omega, ← List.drop_drop, List.drop_left]
      exact this
/-- a slice that reads as a list has its cells -/
theorem Sl.cells {α : Type} {R : World → List Value → α → Prop} {size : Nat} {w : World} {A : Option Addr} : ∀ {xs : List α}, Sl R size w A xs → ∃ cs, Cells R size w xs cs ∧ Flat w size A xs.length cs := by
  have key : ∀ (xs : List α) (b o : Nat), (∀ k x, xs[k]? = some x → ∃ cs : List Value, cs.length = size ∧ (∀ j u, cs[j]? = some u → w.cell? ⟨b, o + k * size + j, none⟩ = some u) ∧ R w cs x) →
      ∃ cs, Cells R size w xs cs ∧ ∀ j u, cs[j]? = some u → w.cell? ⟨b, o + j, none⟩ = some u := by
    intro xs
    induction xs with
    | nil => intro b o _; exact ⟨[], .nil, fun j u h => by simp at h⟩
    | cons x xs ih =>
      intro b o h
      obtain ⟨cs, h1, h2, h3⟩ := h 0 x rfl
      obtain ⟨ds, h4, h5⟩ := ih b (o + size) (fun k y hy => by
        obtain ⟨cs, a1, a2, a3⟩ := h (k + 1) y (by simpa using hy)
        refine ⟨cs, a1, fun j u hu => ?_, a3⟩
        have := a2 j u hu
        rw [show o + (k + 1) * size + j = o + size + k * size + j by rw [Nat.add_mul]; omega] at this
        exact this)
      refine ⟨cs ++ ds, .cons h3 h1 h4, fun j u hu => ?_⟩
      rcases Nat.lt_or_ge j cs.length with hj | hj
      · rw [List.getElem?_append_left hj] at hu
        have := h2 j u hu
        simpa using this
      · rw [List.getElem?_append_right hj, h1] at hu
        have := h5 _ u hu
        rw [show o + size + (j - size) = o + j by omega] at this
        exact this
  intro xs h
  cases xs with
  | nil => exact ⟨[], .nil, by simp, fun h => by simp at h⟩
  | cons x xs =>
    obtain ⟨b, o, _, rfl, _⟩ := h 0 x rfl
    obtain ⟨cs, h1, h2⟩ := key (x :: xs) b o (fun k y hy => by
      obtain ⟨b', o', cs, e, a1, a2, a3⟩ := h k y hy
      obtain ⟨rfl, rfl⟩ : b = b' ∧ o = o' := by simpa using e
      exact ⟨cs, a1, a2, a3⟩)
    exact ⟨cs, h1, h1.len, fun _ => ⟨b, o, rfl, h2⟩⟩
theorem Flat.ext {w w' : World} {size n : Nat} {A : Option Addr} {cs : List Value} (h : Flat w size A n cs) (e : Ext w w') : Flat w' size A n cs :=
  ⟨h.1, fun h0 => by
    obtain ⟨b, o, rfl, hc⟩ := h.2 h0
    exact ⟨b, o, rfl, fun j u hu => e.cell (hc j u hu)⟩⟩
/-- and the other way -/
theorem Flat.sl {α : Type} {R : World → List Value → α → Prop} {size : Nat} {w : World} {A : Option Addr} {xs : List α} {cs : List Value} {n : Nat} (h : Flat w size A n cs) (hn : xs.length = n) (k : Cells R size w xs cs) : Sl R size w A xs := by
  intro i x hx
  have hi : i < xs.length := (List.getElem?_eq_some_iff.1 hx).1
  obtain ⟨b, o, rfl, hc⟩ := h.2 (by omega)
  have hlen := k.len
  have hle : (i + 1) * size ≤ xs.length * size := Nat.mul_le_mul_right _ (by omega)
  rw [Nat.add_mul, Nat.one_mul] at hle
  refine ⟨b, o, _, rfl, by rw [List.length_take, List.length_drop]; omega, fun j u hu => ?_, k.at i x hx⟩
  have hj : j < size := by
    have := (List.getElem?_eq_some_iff.1 hu).1
    rw [List.length_take] at this
    omega
  rw [List.getElem?_take_of_lt hj, List.getElem?_drop] at hu
  rw [show o + i * size + j = o + (i * size + j) by omega]
  exact hc _ u hu
theorem own_flatA {w : World} {base : Nat} {e : TypeId} {size n : Nat} {A : Option Addr} {c : Nat} {cs : List Value} (h : w.ownsRow base e size (.slice A n c) n cs) : Flat w size A n cs ∧ n ≤ c ∧ c ≤ maxLen := by
  obtain ⟨h1, h2⟩ := h
  rcases h2 with ⟨e1, rfl⟩ | ⟨g, cap, cur, e1, _, hh, hn, hm, hs, ht⟩
  · obtain ⟨rfl, rfl⟩ : A = none ∧ c = 0 := by simpa using e1
    exact ⟨⟨h1, fun h => by omega⟩, by omega, by simp [maxLen]⟩
  · obtain ⟨rfl, rfl⟩ : A = some ⟨g, 0, none⟩ ∧ c = cap := by simpa using e1
    refine ⟨⟨h1, fun _ => ⟨g, 0, rfl, fun j u hu => ?_⟩⟩, hn, hm⟩
    rw [← ht] at hu
    have hj : j < n * size := by
      have := (List.getElem?_eq_some_iff.1 hu).1
      rw [List.length_take] at this
      omega
    rw [List.getElem?_take_of_lt hj] at hu
    simp only [World.cell?, hh, Nat.zero_add]
    simpa using hu
theorem Cells.one {α : Type} {R : World → List Value → α → Prop} {size : Nat} {w : World} {x : α} {cs : List Value} (h : R w cs x) (hl : cs.length = size) : Cells R size w [x] cs := by
  have := Cells.cons h hl (Cells.nil (R := R) (size := size) (w := w))
  simpa using this
theorem own_sl {α : Type} {R : World → List Value → α → Prop} {w : World} {base : Nat} {e : TypeId} {size n : Nat} {A : Option Addr} {c : Nat} {cs : List Value} {xs : List α} (h : w.ownsRow base e size (.slice A n c) n cs) (hn : xs.length = n) (k : Cells R size w xs cs) :
    Sl R size w A xs := (own_flatA h).1.sl hn k
theorem Cells.oneCell {α : Type} {R : World → List Value → α → Prop} {size : Nat} {w : World} {xs : List α} {cs : List Value} (hR : ∀ cs x, R w cs x → ∀ u ∈ cs, u.oneCell' = true) (h : Cells R size w xs cs) : ∀ u ∈ cs, u.oneCell' = true := by
  induction h with
  | nil => intro u h; cases h
  | cons h hl t ih =>
    intro u hu
    rcases List.mem_append.1 hu with hu | hu
    · exact hR _ _ h u hu
    · exact ih u hu
theorem RStr.one {w : World} (cs : List Value) (x : ByteArray) (h : RStr w cs x) : ∀ u ∈ cs, u.oneCell' = true := by
  obtain ⟨rfl, _⟩ := h
  intro u hu; simp at hu; subst hu; rfl
theorem RPair.one {w : World} (cs : List Value) (x : Pr) (h : RPair w cs x) : ∀ u ∈ cs, u.oneCell' = true := by
  obtain ⟨rfl, _⟩ := h
  intro u hu; simp at hu; rcases hu with rfl | rfl <;> rfl
theorem RTol.one {w : World} (cs : List Value) (x : Tl) (h : RTol w cs x) : ∀ u ∈ cs, u.oneCell' = true := by
  obtain ⟨rfl, _⟩ := h
  intro u hu; simp at hu; rcases hu with rfl | rfl | rfl <;> rfl
theorem RTerm.one {w : World} (cs : List Value) (x : Tm) (h : RTerm w cs x) : ∀ u ∈ cs, u.oneCell' = true := by
  obtain ⟨A, c, rfl, _⟩ := h
  intro u hu; simp at hu; rcases hu with rfl | rfl | rfl <;> rfl
theorem nil_own (w : World) (base : Nat) (e : TypeId) (size : Nat) : w.ownsRow base e size (.slice none 0 0) 0 [] := ⟨by simp, .inl ⟨rfl, rfl⟩⟩
theorem ext_grown {a w w' : World} {base size n : Nat} {T : TypeId} {v : Value} {xs : List Value} (h : Ext a w) (hown : w.ownsRow base T size v n xs) (hb : a.heap.size ≤ base) (hg : w.grownBy w' v.ownBlock) : Ext a w' :=
  Below.grown h hg h.size (fun k hk => Nat.le_trans hb (own_ge hown k hk))

theorem flat_new (w : World) (T : TypeId) (size n : Nat) (cs : Array Value) (h : cs.size = n * size) : Flat (w.alloc (.cells cs T)) size (some ⟨w.heap.size, 0, none⟩) n cs.toList :=
  ⟨by simpa using h, fun _ => ⟨_, 0, rfl, fun j u hu => by
    have hb : (w.alloc (.cells cs T)).heap[w.heap.size]? = some (.cells cs T) := heap_alloc_new w _
    simp only [World.cell?, hb, Nat.zero_add]
    simpa using hu⟩⟩
theorem Flat.drew {w : World} {size n : Nat} {A : Option Addr} {cs : List Value} (h : Flat w size A n cs) : Flat w.drew size A n cs := h
/-- onto a list of which a copy was made, one element -/
theorem app_one {α : Type} {R : World → List Value → α → Prop} (hR : Keeps R) {W0 w2 W3 w4 : World} {T : TypeId} {size n c1 c2 : Nat} {L : List α} {x : α} {CL es : List Value} {A1 A2 : Option Addr} (hL : L.length = n) (kl : Cells R size W0 L CL) (he : es.length = size) (hx : ∀ w, R w es x)
    (o1 : w2.ownsRow W0.heap.size T size (.slice A1 n c1) n CL) (g1 : W0.grownBy w2 (Value.slice none 0 0).ownBlock) (e3 : Ext w2 W3) (o2 : w4.ownsRow W0.heap.size T size (.slice A2 (n + 1) c2) (n + 1) (CL ++ es)) (g2 : W3.grownBy w4 (Value.slice A1 n c1).ownBlock) :
    Ext W0 w4 ∧ Sl R size w4 A2 (L ++ [x]) ∧ n + 1 ≤ c2 ∧ c2 ≤ maxLen ∧ Flat w4 size A2 (n + 1) (CL ++ es) ∧ Cells R size w4 (L ++ [x]) (CL ++ es) := by
  have e1 : Ext W0 w2 := ext_grown (Ext.refl W0) (nil_own W0 W0.heap.size T size) (Nat.le_refl _) g1
  have o3 := own_ext o1 e3
  have e4 : Ext W0 w4 := ext_grown (e1.trans e3) o3 (Nat.le_refl _) g2
  have k4 := (kl.ext hR e4).app (Cells.one (hx w4) he)
  obtain ⟨f1, f2, f3⟩ := own_flatA o2
  exact ⟨e4, own_sl o2 (by simp [hL]) k4, f2, f3, f1, k4⟩
theorem get_len (A : Option Addr) (c : Nat) (xs : List Pr) (n : Nat) (key : ByteArray) (w : World) (hl : xs.length = n) (hn : n ≤ maxLen) (hx : Sl RPair 2 w A xs) :
    Calls Tryz.prog 19 #[.slice A n c, .string key] w fun e w' => e = .returned (.tuple #[.string (getV xs key), .bool (getB xs key)]) ∧ Ext w w' := by
  subst hl
  exact get_any A c xs key w hn hx
theorem may_len (A : Option Addr) (c : Nat) (xs : List Pr) (n : Nat) (w : World) (hl : xs.length = n) (hn : n ≤ maxLen) (hx : Sl RPair 2 w A xs) :
    Calls Tryz.prog 23 #[.slice A n c] w fun e w' => e = .returned (.bool (mayPairs xs)) ∧ Ext w w' := by
  subst hl
  exact may_any A c xs w hn hx

/-! ### a copy, grown: seen from a world wa -/
/-- what .slice A n c owns since wa -/
structure Cop (wa wx : World) (T : TypeId) (size : Nat) (A : Option Addr) (n c : Nat) (cs : List Value) : Prop where
  ext : Ext wa wx
  own : ∃ base, wa.heap.size ≤ base ∧ base ≤ wx.heap.size ∧ wx.ownsRow base T size (.slice A n c) n cs
theorem Cop.more {wa w w' : World} {T : TypeId} {size n c : Nat} {A : Option Addr} {cs : List Value} (h : Cop wa w T size A n c cs) (e : Ext w w') : Cop wa w' T size A n c cs := by
  obtain ⟨e0, base, b1, b2, o⟩ := h
  exact ⟨e0.trans e, base, b1, Nat.le_trans b2 e.size, own_ext o e⟩
theorem Cop.cap {wa w : World} {T : TypeId} {size n c : Nat} {A : Option Addr} {cs : List Value} (h : Cop wa w T size A n c cs) : Flat w size A n cs ∧ n ≤ c ∧ c ≤ maxLen := by
  obtain ⟨e0, base, b1, b2, o⟩ := h
  exact own_flatA o
theorem Cop.sl {α : Type} {R : World → List Value → α → Prop} {wa w : World} {T : TypeId} {size n c : Nat} {A : Option Addr} {cs : List Value} {xs : List α} (h : Cop wa w T size A n c cs) (hn : xs.length = n) (k : Cells R size w xs cs) : Sl R size w A xs :=
  h.cap.1.sl hn k

section
variable {P : Program} (w : World)
theorem step_copy {ops : Array Oper} {o : Oper} {a : Act} {K : Act → World → Prop} {Q : Exit → Act → World → Prop} {E : Prop} (hgd : o.guard = none) (s x : Operand) (t : TypeId)
    (ho : o.op = .call { callee := .builtin .append, args := #[s, x], argTypes := #[t, t] })
    (e : TypeId) (i : TypeInfo) (z : Value) (size bytes : Nat) (ht : P.underlying t = some (.slice e)) (hi : P.info? e = some i) (hz : i.zero = some z)
    (hsize : i.size = size) (hby : i.bytes = bytes) (hzs : z.cells.size = size) (hsz : 0 < size) (hs : a.eval s = .slice none 0 0)
    (A : Option Addr) (m c : Nat) (news : List Value) (hx : a.eval x = .slice A m c) (hf : Flat w size A m news) (h1 : ∀ u ∈ news, u.oneCell' = true)
    (h63 : m ≤ maxLen) (hbytes : m * bytes ≤ 140737488355328) (wa : World) (hwa : Ext wa w)
    (h : ∀ A' c' w', Cop wa w' e size A' m c' news → Ext w w' → K (a.put o.dst (.slice A' m c')) w') :
    if Region.wanted o (yielded ops a.tmps) = true then Oper.wp P o a w K Q else E := by
  refine step_append_flat w hgd s x t ho w.heap.size e i z size bytes ht hi hz hsize hby hzs hsz _ 0 [] hs (nil_own w w.heap.size e size) A m c news hx hf h1 (by omega) (by rw [Nat.zero_add]; exact hbytes) (Nat.le_refl _) fun A' c' w' o' g' => ?_
  have ee : Ext w w' := ext_grown (Ext.refl w) (nil_own w w.heap.size e size) (Nat.le_refl _) g'
  rw [Nat.zero_add] at o' ⊢
  exact h A' c' w' ⟨hwa.trans ee, _, hwa.size, ee.size, by simpa using o'⟩ ee
theorem step_more {ops : Array Oper} {o : Oper} {a : Act} {K : Act → World → Prop} {Q : Exit → Act → World → Prop} {E : Prop} (hgd : o.guard = none) (s x : Operand) (t : TypeId)
    (ho : o.op = .call { callee := .builtin .append, args := #[s, x], argTypes := #[t, t] })
    (e : TypeId) (i : TypeInfo) (z : Value) (size bytes : Nat) (ht : P.underlying t = some (.slice e)) (hi : P.info? e = some i) (hz : i.zero = some z)
    (hsize : i.size = size) (hby : i.bytes = bytes) (hzs : z.cells.size = size) (hsz : 0 < size)
    (A : Option Addr) (n c : Nat) (cs : List Value) (hs : a.eval s = .slice A n c) (wa : World) (hcop : Cop wa w e size A n c cs)
    (B : Option Addr) (m d : Nat) (news : List Value) (hx : a.eval x = .slice B m d) (hf : Flat w size B m news) (h1 : ∀ u ∈ news, u.oneCell' = true)
    (h63 : n + m ≤ maxLen) (hbytes : (n + m) * bytes ≤ 140737488355328)
    (h : ∀ A' c' w', Cop wa w' e size A' (n + m) c' (cs ++ news) → K (a.put o.dst (.slice A' (n + m) c')) w') :
    if Region.wanted o (yielded ops a.tmps) = true then Oper.wp P o a w K Q else E := by
  obtain ⟨e0, base, b1, b2, ow⟩ := hcop
  refine step_append_flat w hgd s x t ho base e i z size bytes ht hi hz hsize hby hzs hsz _ n cs hs ow B m d news hx hf h1 h63 hbytes b2 fun A' c' w' o' g' => ?_
  exact h A' c' w' ⟨ext_grown e0 ow b1 g', base, b1, Nat.le_trans b2 g'.size, o'⟩
theorem wpList_copy {ops : Array Oper} {rest : List Oper} {o : Oper} {a : Act} {Q : Exit → Act → World → Prop} (hgd : o.guard = none) (s x : Operand) (t : TypeId)
    (ho : o.op = .call { callee := .builtin .append, args := #[s, x], argTypes := #[t, t] })
    (e : TypeId) (i : TypeInfo) (z : Value) (size bytes : Nat) (ht : P.underlying t = some (.slice e)) (hi : P.info? e = some i) (hz : i.zero = some z)
    (hsize : i.size = size) (hby : i.bytes = bytes) (hzs : z.cells.size = size) (hsz : 0 < size) (hs : a.eval s = .slice none 0 0)
    (A : Option Addr) (m c : Nat) (news : List Value) (hx : a.eval x = .slice A m c) (hf : Flat w size A m news) (h1 : ∀ u ∈ news, u.oneCell' = true)
    (h63 : m ≤ maxLen) (hbytes : m * bytes ≤ 140737488355328) (wa : World) (hwa : Ext wa w)
    (h : ∀ A' c' w', Cop wa w' e size A' m c' news → Ext w w' → wpList P ops Q rest (a.put o.dst (.slice A' m c')) w') :
    wpList P ops Q (o :: rest) a w := by
  refine wpList_append_flat w hgd s x t ho w.heap.size e i z size bytes ht hi hz hsize hby hzs hsz _ 0 [] hs (nil_own w w.heap.size e size) A m c news hx hf h1 (by omega) (by rw [Nat.zero_add]; exact hbytes) (Nat.le_refl _) fun A' c' w' o' g' => ?_
  have ee : Ext w w' := ext_grown (Ext.refl w) (nil_own w w.heap.size e size) (Nat.le_refl _) g'
  rw [Nat.zero_add] at o' ⊢
  exact h A' c' w' ⟨hwa.trans ee, _, hwa.size, ee.size, by simpa using o'⟩ ee
theorem wpList_more {ops : Array Oper} {rest : List Oper} {o : Oper} {a : Act} {Q : Exit → Act → World → Prop} (hgd : o.guard = none) (s x : Operand) (t : TypeId)
    (ho : o.op = .call { callee := .builtin .append, args := #[s, x], argTypes := #[t, t] })
    (e : TypeId) (i : TypeInfo) (z : Value) (size bytes : Nat) (ht : P.underlying t = some (.slice e)) (hi : P.info? e = some i) (hz : i.zero = some z)
    (hsize : i.size = size) (hby : i.bytes = bytes) (hzs : z.cells.size = size) (hsz : 0 < size)
    (A : Option Addr) (n c : Nat) (cs : List Value) (hs : a.eval s = .slice A n c) (wa : World) (hcop : Cop wa w e size A n c cs)
    (B : Option Addr) (m d : Nat) (news : List Value) (hx : a.eval x = .slice B m d) (hf : Flat w size B m news) (h1 : ∀ u ∈ news, u.oneCell' = true)
    (h63 : n + m ≤ maxLen) (hbytes : (n + m) * bytes ≤ 140737488355328)
    (h : ∀ A' c' w', Cop wa w' e size A' (n + m) c' (cs ++ news) → wpList P ops Q rest (a.put o.dst (.slice A' (n + m) c')) w') :
    wpList P ops Q (o :: rest) a w := by
  obtain ⟨e0, base, b1, b2, ow⟩ := hcop
  refine wpList_append_flat w hgd s x t ho base e i z size bytes ht hi hz hsize hby hzs hsz _ n cs hs ow B m d news hx hf h1 h63 hbytes b2 fun A' c' w' o' g' => ?_
  exact h A' c' w' ⟨ext_grown e0 ow b1 g', base, b1, Nat.le_trans b2 g'.size, o'⟩
end
theorem all_len (A : Option Addr) (c : Nat) (tols : List Tl) (B : Option Addr) (d : Nat) (ts : List Pr) (n m : Nat) (w : World) (ha : tols.length = n) (hb : ts.length = m) (h1 : n ≤ maxLen) (h2 : Sl RTol 3 w A tols) (h3 : m ≤ maxLen) (h4 : Sl RPair 2 w B ts) :
    Calls Tryz.prog 35 #[.slice A n c, .slice B m d] w fun e w' => e = .returned (.bool (allB tols ts)) ∧ Ext w w' := by
  subst ha hb
  exact all_any A c tols B d ts w h1 h2 h3 h4
/-- a guard for an arm at a drawn region: the operation that writes slot n -/
theorem at_slot (n : Nat) {op : Op} {ty : TypeId} {pos : String} {after : Array Edge} {g : Option (Nat × Bool)} {y : Nat → Option Bool} {X Y : Prop} [Decidable (Region.wanted ⟨some n, op, ty, pos, after, g⟩ y = true)] (h : if Region.wanted ⟨some n, op, ty, pos, after, g⟩ y = true then X else Y) :
    if Region.wanted ⟨some n, op, ty, pos, after, g⟩ y = true then X else Y := h
end Go.Proofs.YthfafenigjldlaaGreat
