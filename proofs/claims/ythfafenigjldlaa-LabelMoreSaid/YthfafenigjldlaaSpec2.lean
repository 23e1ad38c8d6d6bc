/-
  Plain Lean: what package obj computes: which pods may be. No program, no memory.
-/
import Derived.Test.YthfafenigjldlaaSpec1
namespace Go.Proofs.Ythfafenigjldlaa

/-! ### obj -/
def mayPFrom : Option Int → List Int → Bool
  | _, [] => true
  | prev, x :: r => decide (1 ≤ x) && decide (x ≤ 65535) && (match prev with | none => true | some k => decide (k < x)) && mayPFrom (some x) r
def prevI (xs : List Int) (k : Nat) : Option Int := if k = 0 then none else xs[k - 1]?
def mayPortsB (xs : List Int) : Bool := mayPFrom none xs && decide (xs.length ≤ 6)
theorem prevI_succ {xs : List Int} {m : Nat} {x : Int} (h : xs[m]? = some x) : prevI xs (m + 1) = some x := by simp [prevI, h]
theorem mayPFrom_at {xs : List Int} {k : Nat} {x : Int} (h : xs[k]? = some x) :
    mayPFrom (prevI xs k) (xs.drop k) = (decide (1 ≤ x) && decide (x ≤ 65535) && (match prevI xs k with | none => true | some k => decide (k < x)) && mayPFrom (prevI xs (k + 1)) (xs.drop (k + 1))) := by
  rw [drop_at h, prevI_succ h]; rfl
def mayTopoB (p : Pd) : Bool :=
  decide (0 ≤ p.skew) && decide (p.skew ≤ 10) && mayTermsB p.anti && mayTermsB p.even && (nameB p.topo || (empS p.topo && decide (p.anti.length = 0) && decide (p.skew = 0)))
def mayPodB (p : Pd) : Bool :=
  nameB p.name && decide (1 ≤ p.uid) && decide (p.uid ≤ 1099511627776) && decide (0 ≤ p.prio) && decide (p.prio ≤ 1000) && mayRs p.req && mayPortsB p.ports &&
  mayPairs p.labels && mayTermsB p.sel && mayTolsB p.tols && mayTopoB p && ((nameB p.node && decide (0 < p.term)) || (empS p.node && decide (p.term = 0)))

end Go.Proofs.Ythfafenigjldlaa
