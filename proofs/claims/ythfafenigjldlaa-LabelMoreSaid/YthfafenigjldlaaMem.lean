/-
  Words for memory used by all walks of this seat: 'Ext' (all that was there is as it was), 'Sl' (a slice's cells read as a list of Lean values), the plain types behind api's structs. No program is named here.
-/
import Derived.WalkKit
import Derived.WalkLawsBesides
import Derived.WalkSpells
import Derived.Below
import Derived.Lib.Hide
namespace Go.Proofs.Ythfafenigjldlaa
open Go.RowKit

/-- all that was there is as it was -/
def Ext (w w' : World) : Prop := Below w.heap.size w w'
theorem Ext.refl (w : World) : Ext w w := Below.refl _ _
theorem Ext.trans {a b c : World} (h : Ext a b) (k : Ext b c) : Ext a c := Below.trans h (Below.mono k h.size)
theorem Ext.drew {a w : World} (h : Ext a w) : Ext a w.drew := Below.drew h
theorem Ext.drewN {a w : World} (h : Ext a w) (n : Nat) : Ext a (w.drewN n) := ⟨h.os, h.tape, h.output, h.size, h.block⟩
theorem Ext.alloc {a w : World} (h : Ext a w) (o : Obj) : Ext a (w.alloc o) := Below.alloc h h.size o
theorem Ext.cell {w w' : World} (h : Ext w w') {p : Addr} {v : Value} (hc : w.cell? p = some v) : w'.cell? p = some v := by
  have hb : p.block < w.heap.size := by
    rcases Nat.lt_or_ge p.block w.heap.size with hl | hl
    · exact hl
    · simp [World.cell?, Array.getElem?_eq_none hl] at hc
  rw [Below.cell h hb]; exact hc
theorem cell_lt {w : World} {p : Addr} {v : Value} (hc : w.cell? p = some v) : p.block < w.heap.size := by
  rcases Nat.lt_or_ge p.block w.heap.size with hl | hl
  · exact hl
  · simp [World.cell?, Array.getElem?_eq_none hl] at hc
/-- a cell is still there behind a new block -/
theorem cell_alloc {w : World} {p : Addr} {v : Value} (hc : w.cell? p = some v) (o : Obj) : (w.alloc o).cell? p = some v := (Ext.alloc (Ext.refl w) o).cell hc
theorem Ext.size {w w' : World} (h : Ext w w') : w.heap.size ≤ w'.heap.size := Below.size h
theorem Ext.setCell {a w : World} (h : Ext a w) {p : Addr} (hp : a.heap.size ≤ p.block) (u : Value) : Ext a (w.setCell p u) := Below.setCell h hp u

/-! ### Data -/
structure Pr where
  key : ByteArray
  val : ByteArray
structure Tm where
  key : ByteArray
  kind : Int
  vals : List ByteArray
structure Tl where
  key : ByteArray
  val : ByteArray
  any : Bool
structure Rs where
  a : Int
  b : Int
  c : Int
structure Pd where
  name : ByteArray
  uid : Int
  prio : Int
  req : Rs
  ports : List Int
  labels : List Pr
  sel : List Tm
  tols : List Tl
  topo : ByteArray
  anti : List Tm
  skew : Int
  even : List Tm
  node : ByteArray
  term : Int
structure Nd where
  name : ByteArray
  cap : Rs
  labels : List Pr
  taints : List Pr

def inI (x : Int) : Prop := -9223372036854775808 ≤ x ∧ x ≤ 9223372036854775807
def okS (s : ByteArray) : Prop := s.size ≤ maxLen
def okR (r : Rs) : Prop := inI r.a ∧ inI r.b ∧ inI r.c

/-! ### Readings -/
/-- the slice from A on reads as xs, each element of so many cells, by R -/
def Sl {α : Type} (R : World → List Value → α → Prop) (size : Nat) (w : World) (A : Option Addr) (xs : List α) : Prop :=
  ∀ k x, xs[k]? = some x → ∃ b o cs, A = some ⟨b, o, none⟩ ∧ cs.length = size ∧ (∀ j u, cs[j]? = some u → w.cell? ⟨b, o + k * size + j, none⟩ = some u) ∧ R w cs x

def Keeps {α : Type} (R : World → List Value → α → Prop) : Prop := ∀ w w' cs x, Ext w w' → R w cs x → R w' cs x

theorem Sl.nil {α : Type} {R : World → List Value → α → Prop} {size : Nat} {w : World} {A : Option Addr} : Sl R size w A [] := fun k x h => by simp at h

theorem Sl.ext {α : Type} {R : World → List Value → α → Prop} {size : Nat} {w w' : World} {A : Option Addr} {xs : List α} (hR : Keeps R) (h : Sl R size w A xs) (he : Ext w w') : Sl R size w' A xs := by
  intro k x hk
  obtain ⟨b, o, cs, hA, hl, hc, hr⟩ := h k x hk
  exact ⟨b, o, cs, hA, hl, fun j u hu => he.cell (hc j u hu), hR _ _ _ _ he hr⟩

def RInt (_ : World) (cs : List Value) (x : Int) : Prop := cs = [.int .i64 x] ∧ inI x
def RStr (_ : World) (cs : List Value) (x : ByteArray) : Prop := cs = [.string x] ∧ okS x
def RPair (_ : World) (cs : List Value) (x : Pr) : Prop := cs = [.string x.key, .string x.val] ∧ okS x.key ∧ okS x.val
def RTol (_ : World) (cs : List Value) (x : Tl) : Prop := cs = [.string x.key, .string x.val, .bool x.any] ∧ okS x.key ∧ okS x.val
def RRes (_ : World) (cs : List Value) (x : Rs) : Prop := cs = [.int .i64 x.a, .int .i64 x.b, .int .i64 x.c] ∧ okR x
def RTerm (w : World) (cs : List Value) (x : Tm) : Prop :=
  ∃ A c, cs = [.string x.key, .int .i64 x.kind, .slice A x.vals.length c] ∧ okS x.key ∧ inI x.kind ∧ x.vals.length ≤ c ∧ c ≤ maxLen ∧ Sl RStr 1 w A x.vals

theorem RInt.keeps : Keeps RInt := fun _ _ _ _ _ h => h
theorem RStr.keeps : Keeps RStr := fun _ _ _ _ _ h => h
theorem RPair.keeps : Keeps RPair := fun _ _ _ _ _ h => h
theorem RTol.keeps : Keeps RTol := fun _ _ _ _ _ h => h
theorem RRes.keeps : Keeps RRes := fun _ _ _ _ _ h => h
theorem RTerm.keeps : Keeps RTerm := fun _ _ _ _ he h => by
  obtain ⟨A, c, h1, h2, h3, h4, h5, h6⟩ := h
  exact ⟨A, c, h1, h2, h3, h4, h5, h6.ext RStr.keeps he⟩

/-! ### One element, in the walk's own spelling -/
theorem get_of {α : Type} {xs : List α} {k : Nat} (h : k < xs.length) : ∃ x, xs[k]? = some x := ⟨_, List.getElem?_eq_getElem h⟩

theorem Sl.int {w : World} {A : Option Addr} {xs : List Int} (h : Sl RInt 1 w A xs) {k : Nat} (hk : k < xs.length) :
    ∃ b o x, A = some ⟨b, o, none⟩ ∧ xs[k]? = some x ∧ inI x ∧ w.cell? ⟨b, o + k, none⟩ = some (.int .i64 x) := by
  obtain ⟨x, hx⟩ := get_of hk
  obtain ⟨b, o, cs, hA, hl, hc, rfl, hi⟩ := h k x hx
  exact ⟨b, o, x, hA, hx, hi, by simpa using hc 0 _ rfl⟩
theorem Sl.str {w : World} {A : Option Addr} {xs : List ByteArray} (h : Sl RStr 1 w A xs) {k : Nat} (hk : k < xs.length) :
    ∃ b o x, A = some ⟨b, o, none⟩ ∧ xs[k]? = some x ∧ okS x ∧ w.cell? ⟨b, o + k, none⟩ = some (.string x) := by
  obtain ⟨x, hx⟩ := get_of hk
  obtain ⟨b, o, cs, hA, hl, hc, rfl, hi⟩ := h k x hx
  exact ⟨b, o, x, hA, hx, hi, by simpa using hc 0 _ rfl⟩
theorem Sl.pair {w : World} {A : Option Addr} {xs : List Pr} (h : Sl RPair 2 w A xs) {k : Nat} (hk : k < xs.length) :
    ∃ b o x, A = some ⟨b, o, none⟩ ∧ xs[k]? = some x ∧ okS x.key ∧ okS x.val ∧ w.cell? ⟨b, o + k * 2, none⟩ = some (.string x.key) ∧ w.cell? ⟨b, o + k * 2 + 1, none⟩ = some (.string x.val) := by
  obtain ⟨x, hx⟩ := get_of hk
  obtain ⟨b, o, cs, hA, hl, hc, rfl, h1, h2⟩ := h k x hx
  exact ⟨b, o, x, hA, hx, h1, h2, by simpa using hc 0 _ rfl, by simpa using hc 1 _ rfl⟩
theorem Sl.tol {w : World} {A : Option Addr} {xs : List Tl} (h : Sl RTol 3 w A xs) {k : Nat} (hk : k < xs.length) :
    ∃ b o x, A = some ⟨b, o, none⟩ ∧ xs[k]? = some x ∧ okS x.key ∧ okS x.val ∧ w.cell? ⟨b, o + k * 3, none⟩ = some (.string x.key) ∧ w.cell? ⟨b, o + k * 3 + 1, none⟩ = some (.string x.val) ∧
      w.cell? ⟨b, o + k * 3 + 2, none⟩ = some (.bool x.any) := by
  obtain ⟨x, hx⟩ := get_of hk
  obtain ⟨b, o, cs, hA, hl, hc, rfl, h1, h2⟩ := h k x hx
  exact ⟨b, o, x, hA, hx, h1, h2, by simpa using hc 0 _ rfl, by simpa using hc 1 _ rfl, by simpa using hc 2 _ rfl⟩
theorem Sl.res {w : World} {A : Option Addr} {xs : List Rs} (h : Sl RRes 3 w A xs) {k : Nat} (hk : k < xs.length) :
    ∃ b o x, A = some ⟨b, o, none⟩ ∧ xs[k]? = some x ∧ okR x ∧ w.cell? ⟨b, o + k * 3, none⟩ = some (.int .i64 x.a) ∧ w.cell? ⟨b, o + k * 3 + 1, none⟩ = some (.int .i64 x.b) ∧
      w.cell? ⟨b, o + k * 3 + 2, none⟩ = some (.int .i64 x.c) := by
  obtain ⟨x, hx⟩ := get_of hk
  obtain ⟨b, o, cs, hA, hl, hc, rfl, h1⟩ := h k x hx
  exact ⟨b, o, x, hA, hx, h1, by simpa using hc 0 _ rfl, by simpa using hc 1 _ rfl, by simpa using hc 2 _ rfl⟩
theorem Sl.term {w : World} {A : Option Addr} {xs : List Tm} (h : Sl RTerm 3 w A xs) {k : Nat} (hk : k < xs.length) :
    ∃ b o x A' c', A = some ⟨b, o, none⟩ ∧ xs[k]? = some x ∧ okS x.key ∧ inI x.kind ∧ x.vals.length ≤ c' ∧ c' ≤ maxLen ∧ Sl RStr 1 w A' x.vals ∧
      w.cell? ⟨b, o + k * 3, none⟩ = some (.string x.key) ∧ w.cell? ⟨b, o + k * 3 + 1, none⟩ = some (.int .i64 x.kind) ∧
      w.cell? ⟨b, o + k * 3 + 2, none⟩ = some (.slice A' x.vals.length c') := by
  obtain ⟨x, hx⟩ := get_of hk
  obtain ⟨b, o, cs, hA, hl, hc, A', c', rfl, h1, h2, h3, h4, h5⟩ := h k x hx
  exact ⟨b, o, x, A', c', hA, hx, h1, h2, h3, h4, h5, by simpa using hc 0 _ rfl, by simpa using hc 1 _ rfl, by simpa using hc 2 _ rfl⟩

/-! ### Lists -/
theorem drop_at {α : Type} {xs : List α} {k : Nat} {x : α} (h : xs[k]? = some x) : xs.drop k = x :: xs.drop (k + 1) := by
  obtain ⟨hl, rfl⟩ := List.getElem?_eq_some_iff.1 h
  exact List.drop_eq_getElem_cons hl
theorem take_at {α : Type} {xs : List α} {k : Nat} {x : α} (h : xs[k]? = some x) : xs.take (k + 1) = xs.take k ++ [x] := by
  obtain ⟨hl, rfl⟩ := List.getElem?_eq_some_iff.1 h
  rw [List.take_succ_eq_append_getElem hl]

/-! ### Endings -/
theorem ret_bool {a b : Bool} (h : a = b) : Ending.returned (.bool a) = .returned (.bool b) := by rw [h]
theorem ret_int {k : IntKind} {a b : Int} (h : a = b) : Ending.returned (.int k a) = .returned (.int k b) := by rw [h]
theorem ret_str {a b : ByteArray} (h : a = b) : Ending.returned (.string a) = .returned (.string b) := by rw [h]

/-- strings are the same (as the walk spells it) -/
def eqS (a b : ByteArray) : Bool := a.toList == b.toList
theorem eqS_iff {a b : ByteArray} : eqS a b = true ↔ a = b := by
  unfold eqS
  rw [ByteArray.toList_eq, ByteArray.toList_eq]
  constructor
  · intro h
    exact ByteArray.ext (Array.toList_inj.mp (by simpa using h))
  · rintro rfl; simp
theorem eqS_false {a b : ByteArray} : eqS a b = false ↔ a ≠ b := by
  rw [← Bool.not_eq_true, eqS_iff]
theorem eqS_self (a : ByteArray) : eqS a a = true := eqS_iff.2 rfl
end Go.Proofs.Ythfafenigjldlaa
