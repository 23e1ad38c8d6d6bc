/-
  Plain Lean: what 'begun' reckons, on its own data.
-/
import Derived.Test.YthfafenigjldlaaDec2
import Derived.Test.YthfafenigjldlaaSome1
import Derived.Test.YthfafenigjldlaaKey1
import Derived.Test.YthfafenigjldlaaGet6
import Derived.Test.YthfafenigjldlaaQty4
namespace Go.Proofs.Ythfafenigjldlaa
open Go.RowKit
set_option linter.unusedVariables false

theorem bg_sum : sumO zeroR [⟨1, 2, 3⟩, ⟨4, 5, 6⟩] = some ⟨5, 7, 9⟩ := by kernel_rfl
theorem bg_share : shareI 1 3 = 33 := by decide +kernel
theorem bg_match : matchB somePd.sel [⟨⟨#[122, 111, 110, 101]⟩, ⟨#[98]⟩⟩] = true := by decide +kernel
theorem bg_all : allB somePd.tols [⟨⟨#[120]⟩, ⟨#[121]⟩⟩] = true := by decide +kernel
theorem bg_may : mayPodB somePd = true := by decide +kernel
theorem bg_got : podG (putPodB somePd) = true := by decide +kernel
theorem bg_len : 0 < (putPodB somePd).length := by decide +kernel
theorem bg_len2 : (putPodB somePd).length < 1000 := by decide +kernel
theorem bg_len3 : (putLeaseB 3 1000).length < 1000 := by decide +kernel
theorem bg_lease : leaseG (putLeaseB 3 1000) = true := by decide +kernel
theorem bg_holder : (leaseR2 (putLeaseB 3 1000)).1 = 3 := by decide +kernel
theorem bg_key : keyS 1 ⟨#[97]⟩ = ⟨#[112, 47, 97]⟩ := by decide +kernel
theorem bg_kind : kindI ⟨#[110, 47, 98]⟩ = 2 := by decide +kernel
theorem bg_pod : (podR (putPodB somePd)).pod = somePd := by kernel_rfl
end Go.Proofs.Ythfafenigjldlaa
