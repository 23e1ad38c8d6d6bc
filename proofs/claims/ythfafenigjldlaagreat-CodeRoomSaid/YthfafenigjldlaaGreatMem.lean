/-
  Words for memory used by all walks of this seat: 'Ext' (all that was there is as it was), 'Sl' (a slice's cells read as a list of Lean values), the plain types behind api's structs. No program is named here.
-/
import Derived.WalkKit
import Derived.WalkLawsBesides
import Derived.WalkSpells
import Derived.Below
import Derived.Lib.Hide
namespace Go.Proofs.YthfafenigjldlaaGreat
open Go.RowKit

/-- all that was there is as it was -/
def Ext (w w' : World) : Prop := Below w.heap.size w w'
theorem Ext.refl (w : World) : Ext w w := Below.refl _ _
theorem Ext.trans {a b c : World} (h : Ext a b) (k : Ext b c) : Ext a c := Below.trans h (Below.mono k h.size)
theorem Ext.drew {a w : World} (h : Ext a w) : Ext a w.drew := Below.drew h
theorem Ext.drewN {a w : World} (h : Ext a w) (n : Nat) : Ext a (w.drewN n) := ⟨h.os, h.tape, h.output, h.size, h.block⟩
theorem Ext.alloc {a w : World} (h : Ext a w) (o : Obj) : Ext a (w.alloc o) := Below.alloc h h.size o
theorem Ext.cell {w w' : World} (h : Ext w w') {p : Addr} {v : Value} (hc : w.cell? p = some v) : w'.cell? p = some v := by
  have hb : p.block < w.heap.size := by
    rcases Nat.lt_or_ge p.block w.heap.size with hl | hl
    · exact hl
    · simp [World.cell?, Array.getElem?_eq_none hl] at hc
  rw [Below.cell h hb]; exact hc
theorem cell_lt {w : World} {p : Addr} {v : Value} (hc : w.cell? p = some v) : p.block < w.heap.size := by
  rcases Nat.lt_or_ge p.block w.heap.size with hl | hl
  · exact hl
  · simp [World.cell?, Array.getElem?_eq_none hl] at hc
/-- a cell is still there behind a new block -/
theorem cell_alloc {w : World} {p : Addr} {v : Value} (hc : w.cell? p = some v) (o : Obj) : (w.alloc o).cell? p = some v := (Ext.alloc (Ext.refl w) o).cell hc
theorem Ext.size {w w' : World} (h : Ext w w') : w.heap.size ≤ w'.heap.size := Below.size h
theorem Ext.setCell {a w : World} (h : Ext a w) {p : Addr} (hp : a.heap.size ≤ p.block) (u : Value) : Ext a (w.setCell p u) := Below.setCell h hp u

/-! ### Data -/
structure Pr where
  key : ByteArray
  val : ByteArray
structure Tm where
  key : ByteArray
  kind : Int
  vals : List ByteArray
structure Tl where
  key : ByteArray
  val : ByteArray
  any : Bool
structure Rs where
  a : Int
  b : Int
  c : Int
structure Pd where
  name : ByteArray
  uid : Int
  prio : Int
  req : Rs
  ports : List Int
  labels : List Pr
  sel : List Tm
  tols : List Tl
  topo : ByteArray
  anti : List Tm
  skew : Int
  even : List Tm
  node : ByteArray
  term : Int
structure Nd where
  name : ByteArray
  cap : Rs
  labels : List Pr
  taints : List Pr

def inI (x : Int) : Prop := -9223372036854775808 ≤ x ∧ x ≤ 9223372036854775807
def okS (s : ByteArray) : Prop := s.size ≤ maxLen
def okR (r : Rs) : Prop := inI r.a ∧ inI r.b ∧ inI r.c

/-! ### Readings -/
/-- the slice from A on reads as xs, each element of so many cells, by R -/
def Sl {α : Type} (R : World → List Value → α → Prop) (size : Nat) (w : World) (A : Option Addr) (xs : List α) : Prop :=
  ∀ k x, xs[k]? = some x → ∃ b o cs, A = some ⟨b, o, none⟩ ∧ cs.length = size ∧ (∀ j u, cs[j]? = some u → w.cell? ⟨b, o + k * size + j, none⟩ = some u) ∧ R w cs x

def Keeps {α : Type} (R : World → List Value → α → Prop) : Prop := ∀ w w' cs x, Ext w w' → R w cs x → R w' cs x

theorem Sl.nil {α : Type} {R : World → List Value → α → Prop} {size : Nat} {w : World} {A : Option Addr} : Sl R size w A [] := fun k x h => by simp at h

theorem Sl.ext {α : Type} {R : World → List Value → α → Prop} {size : Nat} {w w' : World} {A : Option Addr} {xs : List α} (hR : Keeps R) (h : Sl R size w A xs) (he : Ext w w') : Sl R size w' A xs := by
  intro k x hk
  obtain ⟨b, o, cs, hA, hl, hc, hr⟩ := h k x hk
  exact ⟨b, o, cs, hA, hl, fun j u hu => he.cell (hc j u hu), hR _ _ _ _ he hr⟩

def RInt (_ : World) (cs : List Value) (x : Int) : Prop := cs = [.int .i64 x] ∧ inI x
def RStr (_ : World) (cs : List Value) (x : ByteArray) : Prop := cs = [.string x] ∧ okS x
def RPair (_ : World) (cs : List Value) (x : Pr) : Prop := cs = [.string x.key, .string x.val] ∧ okS x.key ∧ okS x.val
def RTol (_ : World) (cs : List Value) (x : Tl) : Prop := cs = [.string x.key, .string x.val, .bool x.any] ∧ okS x.key ∧ okS x.val
def RRes (_ : World) (cs : List Value) (x : Rs) : Prop := cs = [.int .i64 x.a, .int .i64 x.b, .int .i64 x.c] ∧ okR x
def RTerm (w : World) (cs : List Value) (x : Tm) : Prop :=
  ∃ A c, cs = [.string x.key, .int .i64 x.kind, .slice A x.vals.length c] ∧ okS x.key ∧ inI x.kind ∧ x.vals.length ≤ c ∧ c ≤ maxLen ∧ Sl RStr 1 w A x.vals

theorem RInt.keeps : Keeps RInt := fun _ _ _ _ _ h => h
theorem RStr.keeps : Keeps RStr := fun _ _ _ _ _ h => h
theorem RPair.keeps : Keeps RPair := fun _ _ _ _ _ h => h
theorem RTol.keeps : Keeps RTol := fun _ _ _ _ _ h => h
theorem RRes.keeps : Keeps RRes := fun _ _ _ _ _ h => h
theorem RTerm.keeps : Keeps RTerm := fun _ _ _ _ he h => by
  obtain ⟨A, c, h1, h2, h3, h4, h5, h6⟩ := h
  exact ⟨A, c, h1, h2, h3, h4, h5, h6.ext RStr.keeps he⟩

/-! ### One element, in the walk's own spelling -/
theorem get_of {α : Type} {xs : List α} {k : Nat} (h : k < xs.length) : ∃ x, xs[k]? = some x := ⟨_, List.getElem?_eq_getElem h⟩

theorem Sl.int {w : World} {A : Option Addr} {xs : List Int} (h : Sl RInt 1 w A xs) {k : Nat} (hk : k < xs.length) :
    ∃ b o x, A = some ⟨b, o, none⟩ ∧ xs[k]? = some x ∧ inI x ∧ w.cell? ⟨b, o + k, none⟩ = some (.int .i64 x) := by
  obtain ⟨x, hx⟩ := get_of hk
  obtain ⟨b, o, cs, hA, hl, hc, rfl, hi⟩ := h k x hx
  exact ⟨b, o, x, hA, hx, hi, by simpa using hc 0 _ rfl⟩
theorem Sl.str {w : World} {A : Option Addr} {xs : List ByteArray} (h : Sl RStr 1 w A xs) {k : Nat} (hk : k < xs.length) :
    ∃ b o x, A = some ⟨b, o, none⟩ ∧ xs[k]? = some x ∧ okS x ∧ w.cell? ⟨b, o + k, none⟩ = some (.string x) := by
  obtain ⟨x, hx⟩ := get_of hk
  obtain ⟨b, o, cs, hA, hl, hc, rfl, hi⟩ := h k x hx
  exact ⟨b, o, x, hA, hx, hi, by simpa using hc 0 _ rfl⟩
theorem Sl.pair {w : World} {A : Option Addr} {xs : List Pr} (h : Sl RPair 2 w A xs) {k : Nat} (hk : k < xs.length) :
    ∃ b o x, A = some ⟨b, o, none⟩ ∧ xs[k]? = some x ∧ okS x.key ∧ okS x.val ∧ w.cell? ⟨b, o + k * 2, none⟩ = some (.string x.key) ∧ w.cell? ⟨b, o + k * 2 + 1, none⟩ = some (.string x.val) := by
  obtain ⟨x, hx⟩ := get_of hk
  obtain ⟨b, o, cs, hA, hl, hc, rfl, h1, h2⟩ := h k x hx
  exact ⟨b, o, x, hA, hx, h1, h2, by simpa using hc 0 _ rfl, by simpa using hc 1 _ rfl⟩
theorem Sl.tol {w : World} {A : Option Addr} {xs : List Tl} (h : Sl RTol 3 w A xs) {k : Nat} (hk : k < xs.length) :
    ∃ b o x, A = some ⟨b, o, none⟩ ∧ xs[k]? = some x ∧ okS x.key ∧ okS x.val ∧ w.cell? ⟨b, o + k * 3, none⟩ = some (.string x.key) ∧ w.cell? ⟨b, o + k * 3 + 1, none⟩ = some (.string x.val) ∧
      w.cell? ⟨b, o + k * 3 + 2, none⟩ = some (.bool x.any) := by
  obtain ⟨x, hx⟩ := get_of hk
  obtain ⟨b, o, cs, hA, hl, hc, rfl, h1, h2⟩ := h k x hx
  exact ⟨b, o, x, hA, hx, h1, h2, by simpa using hc 0 _ rfl, by simpa using hc 1 _ rfl, by simpa using hc 2 _ rfl⟩
theorem Sl.res {w : World} {A : Option Addr} {xs : List Rs} (h : Sl RRes 3 w A xs) {k : Nat} (hk : k < xs.length) :
    ∃ b o x, A = some ⟨b, o, none⟩ ∧ xs[k]? = some x ∧ okR x ∧ w.cell? ⟨b, o + k * 3, none⟩ = some (.int .i64 x.a) ∧ w.cell? ⟨b, o + k * 3 + 1, none⟩ = some (.int .i64 x.b) ∧
      w.cell? ⟨b, o + k * 3 + 2, none⟩ = some (.int .i64 x.c) := by
  obtain ⟨x, hx⟩ := get_of hk
  obtain ⟨b, o, cs, hA, hl, hc, rfl, h1⟩ := h k x hx
  exact ⟨b, o, x, hA, hx, h1, by simpa using hc 0 _ rfl, by simpa using hc 1 _ rfl, by simpa using hc 2 _ rfl⟩
theorem Sl.term {w : World} {A : Option Addr} {xs : List Tm} (h : Sl RTerm 3 w A xs) {k : Nat} (hk : k < xs.length) :
    ∃ b o x A' c', A = some ⟨b, o, none⟩ ∧ xs[k]? = some x ∧ okS x.key ∧ inI x.kind ∧ x.vals.length ≤ c' ∧ c' ≤ maxLen ∧ Sl RStr 1 w A' x.vals ∧
      w.cell? ⟨b, o + k * 3, none⟩ = some (.string x.key) ∧ w.cell? ⟨b, o + k * 3 + 1, none⟩ = some (.int .i64 x.kind) ∧
      w.cell? ⟨b, o + k * 3 + 2, none⟩ = some (.slice A' x.vals.length c') := by
  obtain ⟨x, hx⟩ := get_of hk
  obtain ⟨b, o, cs, hA, hl, hc, A', c', rfl, h1, h2, h3, h4, h5⟩ := h k x hx
  exact ⟨b, o, x, A', c', hA, hx, h1, h2, h3, h4, h5, by simpa using hc 0 _ rfl, by simpa using hc 1 _ rfl, by simpa using hc 2 _ rfl⟩

/-! ### Lists -/
theorem drop_at {α : Type} {xs : List α} {k : Nat} {x : α} (h : xs[k]? = some x) : xs.drop k = x :: xs.drop (k + 1) := by
  obtain ⟨hl, rfl⟩ := List.getElem?_eq_some_iff.1 h
  exact List.drop_eq_getElem_cons hl
theorem take_at {α : Type} {xs : List α} {k : Nat} {x : α} (h : xs[k]? = some x) : xs.take (k + 1) = xs.take k ++ [x] := by
  obtain ⟨hl, rfl⟩ := List.getElem?_eq_some_iff.1 h
  rw [List.take_succ_eq_append_getElem hl]

/-! ### Endings -/
theorem ret_bool {a b : Bool} (h : a = b) : Ending.returned (.bool a) = .returned (.bool b) := by rw [h]
theorem ret_int {k : IntKind} {a b : Int} (h : a = b) : Ending.returned (.int k a) = .returned (.int k b) := by rw [h]
theorem ret_str {a b : ByteArray} (h : a = b) : Ending.returned (.string a) = .returned (.string b) := by rw [h]

/-- strings are the same (as the walk spells it) -/
def eqS (a b : ByteArray) : Bool := a.toList == b.toList
theorem eqS_iff {a b : ByteArray} : eqS a b = true ↔ a = b := by
  unfold eqS
  rw [ByteArray.toList_eq, ByteArray.toList_eq]
  constructor
  · intro h
    exact ByteArray.ext (Array.toList_inj.mp (by simpa using h))
  · rintro rfl; simp
theorem eqS_false {a b : ByteArray} : eqS a b = false ↔ a ≠ b := by
  rw [← Bool.not_eq_true, eqS_iff]
theorem eqS_self (a : ByteArray) : eqS a a = true := eqS_iff.2 rfl
end Go.Proofs.YthfafenigjldlaaGreat

/-
  Plain Lean: what the packages label, taint and qty compute, on lists of bytes and numbers. No program, no memory.
-/
namespace Go.Proofs.YthfafenigjldlaaGreat

/-! ### label -/
def letB (b : Int) : Bool := (decide (97 ≤ b) && decide (b ≤ 122)) || ((decide (48 ≤ b) && decide (b ≤ 57)) || (b == 45))
def nameL (l : List UInt8) : Bool := l.all fun c => letB c.toNat
def nameB (s : ByteArray) : Bool := decide (1 ≤ s.size) && decide (s.size ≤ 12) && nameL s.data.toList
def ltS (a b : ByteArray) : Bool := Op.bytesLess a.toList b.toList

def mayFrom : Option ByteArray → List Pr → Bool
  | _, [] => true
  | prev, x :: r => nameB x.key && nameB x.val && (match prev with | none => true | some k => ltS k x.key) && mayFrom (some x.key) r
def prevK (xs : List Pr) (k : Nat) : Option ByteArray := if k = 0 then none else (xs[k - 1]?).map (·.key)
def mayPairs (xs : List Pr) : Bool := mayFrom none xs && decide (xs.length ≤ 6)

def getO : List Pr → ByteArray → Option ByteArray
  | [], _ => none
  | x :: r, key => if eqS x.key key then some x.val else getO r key
def getV (xs : List Pr) (key : ByteArray) : ByteArray := (getO xs key).getD ⟨#[]⟩
def getB (xs : List Pr) (key : ByteArray) : Bool := (getO xs key).isSome

def memS (xs : List ByteArray) (v : ByteArray) : Bool := xs.any fun x => eqS v x

def mayTermB (t : Tm) : Bool :=
  if t.kind = 1 ∨ t.kind = 2 then nameB t.key && decide (1 ≤ t.vals.length) && decide (t.vals.length ≤ 6) && !t.vals.any (fun s => !nameB s)
  else if t.kind = 3 ∨ t.kind = 4 then nameB t.key && decide (t.vals.length ≤ 0) && !t.vals.any (fun s => !nameB s)
  else false
def mayTermsB (ts : List Tm) : Bool := decide (ts.length ≤ 6) && !ts.any (fun t => !mayTermB t)

def holdsB (t : Tm) (l : List Pr) : Bool :=
  if t.kind = 1 then getB l t.key && memS t.vals (getV l t.key)
  else if t.kind = 2 then !(getB l t.key && memS t.vals (getV l t.key))
  else if t.kind = 3 then getB l t.key
  else if t.kind = 4 then !getB l t.key
  else false
def matchB (ts : List Tm) (l : List Pr) : Bool := !ts.any (fun t => !holdsB t l)

/-! ### taint -/
def empS (s : ByteArray) : Bool := s.toList.isEmpty
theorem empS_iff {s : ByteArray} : empS s = true ↔ s = ⟨#[]⟩ := by
  unfold empS
  rw [ByteArray.toList_eq]
  constructor
  · intro h
    exact ByteArray.ext (Array.toList_inj.mp (by simpa using h))
  · rintro rfl; rfl
def mayTolB (t : Tl) : Bool := if (!empS t.key && !nameB t.key) = true then false else if t.any = true then empS t.val else nameB t.val
def mayTolsB (ts : List Tl) : Bool := decide (ts.length ≤ 6) && !ts.any (fun t => !mayTolB t)
def bearsB (t : Tl) (x : Pr) : Bool := (empS t.key || eqS t.key x.key) && (t.any || eqS t.val x.val)
def allB (tols : List Tl) (ts : List Pr) : Bool := ts.all fun x => tols.any fun t => bearsB t x

/-! ### qty -/
def Rs.at (r : Rs) : Nat → Int
  | 0 => r.a
  | 1 => r.b
  | _ => r.c
def zeroR : Rs := ⟨0, 0, 0⟩
def inQ (n : Int) : Bool := decide (0 ≤ n) && decide (n ≤ 4611686018427387904)
def addOk (a b : Int) : Bool := inQ a && inQ b && decide (a ≤ 4611686018427387904 - b)
def subOk (a b : Int) : Bool := inQ a && inQ b && decide (b ≤ a)
def addB (r s : Rs) : Bool := addOk r.a s.a && addOk r.b s.b && addOk r.c s.c
def subB (r s : Rs) : Bool := subOk r.a s.a && subOk r.b s.b && subOk r.c s.c
def addV (r s : Rs) : Rs := if addB r s = true then ⟨r.a + s.a, r.b + s.b, r.c + s.c⟩ else zeroR
def subV (r s : Rs) : Rs := if subB r s = true then ⟨r.a - s.a, r.b - s.b, r.c - s.c⟩ else zeroR
def fitsB (r s : Rs) : Bool := decide (r.a ≤ s.a) && decide (r.b ≤ s.b) && decide (r.c ≤ s.c)
def mayR1 (n : Int) : Bool := decide (0 ≤ n) && decide (n ≤ 1000000000)
def mayRs (r : Rs) : Bool := mayR1 r.a && mayR1 r.b && mayR1 r.c
def sumO : Rs → List Rs → Option Rs
  | s, [] => some s
  | s, r :: rs => if addB s r = true then sumO (addV s r) rs else none
def shareI (part whole : Int) : Int := if whole < 1 ∨ 1000000000 < whole then 0 else 100 * min (max part 0) whole / whole

/-! ### the loops' invariants -/
theorem all_at {α : Type} {xs : List α} {k : Nat} {x : α} {p : α → Bool} (h : xs[k]? = some x) : (xs.drop k).all p = (p x && (xs.drop (k + 1)).all p) := by
  rw [drop_at h]; rfl
theorem sumO_at {xs : List Rs} {k : Nat} {x : Rs} {s : Rs} (h : xs[k]? = some x) : sumO s (xs.drop k) = if addB s x = true then sumO (addV s x) (xs.drop (k + 1)) else none := by
  rw [drop_at h]; rfl
theorem prevK_zero (xs : List Pr) : prevK xs 0 = none := rfl
theorem prevK_succ {xs : List Pr} {m : Nat} {x : Pr} (h : xs[m]? = some x) : prevK xs (m + 1) = some x.key := by simp [prevK, h]
theorem mayFrom_at {xs : List Pr} {k : Nat} {x : Pr} (h : xs[k]? = some x) :
    mayFrom (prevK xs k) (xs.drop k) = (nameB x.key && nameB x.val && (match prevK xs k with | none => true | some k => ltS k x.key) && mayFrom (prevK xs (k + 1)) (xs.drop (k + 1))) := by
  rw [drop_at h, prevK_succ h]; rfl
theorem getO_at {xs : List Pr} {k : Nat} {x : Pr} {key : ByteArray} (h : xs[k]? = some x) :
    getO (xs.drop k) key = if eqS x.key key then some x.val else getO (xs.drop (k + 1)) key := by
  rw [drop_at h]; rfl
theorem any_at {α : Type} {xs : List α} {k : Nat} {x : α} {p : α → Bool} (h : xs[k]? = some x) : (xs.drop k).any p = (p x || (xs.drop (k + 1)).any p) := by
  rw [drop_at h]; rfl
theorem nameL_at {s : ByteArray} {k : Nat} (h : k < s.size) : nameL (s.data.toList.drop k) = (letB s[k].toNat && nameL (s.data.toList.drop (k + 1))) := by
  have e : s.data.toList[k]? = some s[k] := by
    rw [List.getElem?_eq_getElem (by simpa using h)]; rfl
  rw [drop_at e]; rfl
theorem drop_all {α : Type} {xs : List α} {k : Nat} (h : xs.length ≤ k) : xs.drop k = [] := List.drop_eq_nil_of_le h
end Go.Proofs.YthfafenigjldlaaGreat

/-
  Plain Lean: what package obj computes: which pods may be. No program, no memory.
-/
namespace Go.Proofs.YthfafenigjldlaaGreat

/-! ### obj -/
def mayPFrom : Option Int → List Int → Bool
  | _, [] => true
  | prev, x :: r => decide (1 ≤ x) && decide (x ≤ 65535) && (match prev with | none => true | some k => decide (k < x)) && mayPFrom (some x) r
def prevI (xs : List Int) (k : Nat) : Option Int := if k = 0 then none else xs[k - 1]?
def mayPortsB (xs : List Int) : Bool := mayPFrom none xs && decide (xs.length ≤ 6)
theorem prevI_succ {xs : List Int} {m : Nat} {x : Int} (h : xs[m]? = some x) : prevI xs (m + 1) = some x := by simp [prevI, h]
theorem mayPFrom_at {xs : List Int} {k : Nat} {x : Int} (h : xs[k]? = some x) :
    mayPFrom (prevI xs k) (xs.drop k) = (decide (1 ≤ x) && decide (x ≤ 65535) && (match prevI xs k with | none => true | some k => decide (k < x)) && mayPFrom (prevI xs (k + 1)) (xs.drop (k + 1))) := by
  rw [drop_at h, prevI_succ h]; rfl
def mayTopoB (p : Pd) : Bool :=
  decide (0 ≤ p.skew) && decide (p.skew ≤ 10) && mayTermsB p.anti && mayTermsB p.even && (nameB p.topo || (empS p.topo && decide (p.anti.length = 0) && decide (p.skew = 0)))
def mayPodB (p : Pd) : Bool :=
  nameB p.name && decide (1 ≤ p.uid) && decide (p.uid ≤ 1099511627776) && decide (0 ≤ p.prio) && decide (p.prio ≤ 1000) && mayRs p.req && mayPortsB p.ports &&
  mayPairs p.labels && mayTermsB p.sel && mayTolsB p.tols && mayTopoB p && ((nameB p.node && decide (0 < p.term)) || (empS p.node && decide (p.term = 0)))

end Go.Proofs.YthfafenigjldlaaGreat
