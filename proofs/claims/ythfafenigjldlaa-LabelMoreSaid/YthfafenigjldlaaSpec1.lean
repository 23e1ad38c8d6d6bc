/-
  Plain Lean: what the packages label, taint and qty compute, on lists of bytes and numbers. No program, no memory.
-/
import Derived.Test.YthfafenigjldlaaMem
namespace Go.Proofs.Ythfafenigjldlaa

/-! ### label -/
def letB (b : Int) : Bool := (decide (97 ≤ b) && decide (b ≤ 122)) || ((decide (48 ≤ b) && decide (b ≤ 57)) || (b == 45))
def nameL (l : List UInt8) : Bool := l.all fun c => letB c.toNat
def nameB (s : ByteArray) : Bool := decide (1 ≤ s.size) && decide (s.size ≤ 12) && nameL s.data.toList
def ltS (a b : ByteArray) : Bool := Op.bytesLess a.toList b.toList

def mayFrom : Option ByteArray → List Pr → Bool
  | _, [] => true
  | prev, x :: r => nameB x.key && nameB x.val && (match prev with | none => true | some k => ltS k x.key) && mayFrom (some x.key) r
def prevK (xs : List Pr) (k : Nat) : Option ByteArray := if k = 0 then none else (xs[k - 1]?).map (·.key)
def mayPairs (xs : List Pr) : Bool := mayFrom none xs && decide (xs.length ≤ 6)

def getO : List Pr → ByteArray → Option ByteArray
  | [], _ => none
  | x :: r, key => if eqS x.key key then some x.val else getO r key
def getV (xs : List Pr) (key : ByteArray) : ByteArray := (getO xs key).getD ⟨#[]⟩
def getB (xs : List Pr) (key : ByteArray) : Bool := (getO xs key).isSome

def memS (xs : List ByteArray) (v : ByteArray) : Bool := xs.any fun x => eqS v x

def mayTermB (t : Tm) : Bool :=
  if t.kind = 1 ∨ t.kind = 2 then nameB t.key && decide (1 ≤ t.vals.length) && decide (t.vals.length ≤ 6) && !t.vals.any (fun s => !nameB s)
  else if t.kind = 3 ∨ t.kind = 4 then nameB t.key && decide (t.vals.length ≤ 0) && !t.vals.any (fun s => !nameB s)
  else false
def mayTermsB (ts : List Tm) : Bool := decide (ts.length ≤ 6) && !ts.any (fun t => !mayTermB t)

def holdsB (t : Tm) (l : List Pr) : Bool :=
  if t.kind = 1 then getB l t.key && memS t.vals (getV l t.key)
  else if t.kind = 2 then !(getB l t.key && memS t.vals (getV l t.key))
  else if t.kind = 3 then getB l t.key
  else if t.kind = 4 then !getB l t.key
  else false
def matchB (ts : List Tm) (l : List Pr) : Bool := !ts.any (fun t => !holdsB t l)

/-! ### taint -/
def empS (s : ByteArray) : Bool := s.toList.isEmpty
theorem empS_iff {s : ByteArray} : empS s = true ↔ s = ⟨#[]⟩ := by
  unfold empS
  rw [ByteArray.toList_eq]
  constructor
  · intro h
    exact ByteArray.ext (Array.toList_inj.mp (by simpa using h))
  · rintro rfl; rfl
def mayTolB (t : Tl) : Bool := if (!empS t.key && !nameB t.key) = true then false else if t.any = true then empS t.val else nameB t.val
def mayTolsB (ts : List Tl) : Bool := decide (ts.length ≤ 6) && !ts.any (fun t => !mayTolB t)
def bearsB (t : Tl) (x : Pr) : Bool := (empS t.key || eqS t.key x.key) && (t.any || eqS t.val x.val)
def allB (tols : List Tl) (ts : List Pr) : Bool := ts.all fun x => tols.any fun t => bearsB t x

/-! ### qty -/
def Rs.at (r : Rs) : Nat → Int
  | 0 => r.a
  | 1 => r.b
  | _ => r.c
def zeroR : Rs := ⟨0, 0, 0⟩
def inQ (n : Int) : Bool := decide (0 ≤ n) && decide (n ≤ 4611686018427387904)
def addOk (a b : Int) : Bool := inQ a && inQ b && decide (a ≤ 4611686018427387904 - b)
def subOk (a b : Int) : Bool := inQ a && inQ b && decide (b ≤ a)
def addB (r s : Rs) : Bool := addOk r.a s.a && addOk r.b s.b && addOk r.c s.c
def subB (r s : Rs) : Bool := subOk r.a s.a && subOk r.b s.b && subOk r.c s.c
def addV (r s : Rs) : Rs := if addB r s = true then ⟨r.a + s.a, r.b + s.b, r.c + s.c⟩ else zeroR
def subV (r s : Rs) : Rs := if subB r s = true then ⟨r.a - s.a, r.b - s.b, r.c - s.c⟩ else zeroR
def fitsB (r s : Rs) : Bool := decide (r.a ≤ s.a) && decide (r.b ≤ s.b) && decide (r.c ≤ s.c)
def mayR1 (n : Int) : Bool := decide (0 ≤ n) && decide (n ≤ 1000000000)
def mayRs (r : Rs) : Bool := mayR1 r.a && mayR1 r.b && mayR1 r.c
def sumO : Rs → List Rs → Option Rs
  | s, [] => some s
  | s, r :: rs => if addB s r = true then sumO (addV s r) rs else none
def shareI (part whole : Int) : Int := if whole < 1 ∨ 1000000000 < whole then 0 else 100 * min (max part 0) whole / whole

/-! ### the loops' invariants -/
theorem all_at {α : Type} {xs : List α} {k : Nat} {x : α} {p : α → Bool} (h : xs[k]? = some x) : (xs.drop k).all p = (p x && (xs.drop (k + 1)).all p) := by
  rw [drop_at h]; rfl
theorem sumO_at {xs : List Rs} {k : Nat} {x : Rs} {s : Rs} (h : xs[k]? = some x) : sumO s (xs.drop k) = if addB s x = true then sumO (addV s x) (xs.drop (k + 1)) else none := by
  rw [drop_at h]; rfl
theorem prevK_zero (xs : List Pr) : prevK xs 0 = none := rfl
theorem prevK_succ {xs : List Pr} {m : Nat} {x : Pr} (h : xs[m]? = some x) : prevK xs (m + 1) = some x.key := by simp [prevK, h]
theorem mayFrom_at {xs : List Pr} {k : Nat} {x : Pr} (h : xs[k]? = some x) :
    mayFrom (prevK xs k) (xs.drop k) = (nameB x.key && nameB x.val && (match prevK xs k with | none => true | some k => ltS k x.key) && mayFrom (prevK xs (k + 1)) (xs.drop (k + 1))) := by
  rw [drop_at h, prevK_succ h]; rfl
theorem getO_at {xs : List Pr} {k : Nat} {x : Pr} {key : ByteArray} (h : xs[k]? = some x) :
    getO (xs.drop k) key = if eqS x.key key then some x.val else getO (xs.drop (k + 1)) key := by
  rw [drop_at h]; rfl
theorem any_at {α : Type} {xs : List α} {k : Nat} {x : α} {p : α → Bool} (h : xs[k]? = some x) : (xs.drop k).any p = (p x || (xs.drop (k + 1)).any p) := by
  rw [drop_at h]; rfl
theorem nameL_at {s : ByteArray} {k : Nat} (h : k < s.size) : nameL (s.data.toList.drop k) = (letB s[k].toNat && nameL (s.data.toList.drop (k + 1))) := by
  have e : s.data.toList[k]? = some s[k] := by
    rw [List.getElem?_eq_getElem (by simpa using h)]; rfl
  rw [drop_at e]; rfl
theorem drop_all {α : Type} {xs : List α} {k : Nat} (h : xs.length ≤ k) : xs.drop k = [] := List.drop_eq_nil_of_le h
end Go.Proofs.Ythfafenigjldlaa
