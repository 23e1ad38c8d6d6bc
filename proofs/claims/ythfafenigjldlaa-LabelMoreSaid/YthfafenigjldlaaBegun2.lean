/-
  'begun' answers true, and leaves all that was there as it was.
-/
import Derived.Test.YthfafenigjldlaaBegun1
import Derived.Test.YthfafenigjldlaaGet8
namespace Go.Proofs.Ythfafenigjldlaa
open Go.RowKit

theorem begun_any (w : World) : Calls Try.prog 10 #[] w fun e w' => e = .returned (.bool true) ∧ Ext w w' := begun_of (Lib.hid getPod_any) w
end Go.Proofs.Ythfafenigjldlaa
