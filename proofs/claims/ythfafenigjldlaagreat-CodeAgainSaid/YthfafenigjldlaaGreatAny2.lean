/-
  What is written of what was read; the zero objects, compared (printed by mkany.py).
-/
import Derived.Test.YthfafenigjldlaaGreatLRise
import Derived.Test.YthfafenigjldlaaGreatCopy1
import Derived.Test.YthfafenigjldlaaGreatRef5
import Derived.Test.YthfafenigjldlaaGreatRef6
import Derived.Test.YthfafenigjldlaaGreatRef7
import Derived.Test.YthfafenigjldlaaGreatNode3
import Derived.Test.YthfafenigjldlaaGreatGet8
import Derived.Test.YthfafenigjldlaaGreatAny1
namespace Go.Proofs.YthfafenigjldlaaGreat
open Go.RowKit
set_option linter.unusedVariables false
theorem zero_pod (P : Pd) (Q : PA) (wx : World) (hP : P = zeroPd) (ok : PodOk wx P Q) : Calls Tryz.prog 52 #[.agg #[.string P.name, .int .i64 P.uid, .int .i64 P.prio, .int .i64 P.req.a, .int .i64 P.req.b, .int .i64 P.req.c, .slice Q.a1 P.ports.length Q.c1, .slice Q.a2 P.labels.length Q.c2, .slice Q.a3 P.sel.length Q.c3, .slice Q.a4 P.tols.length Q.c4, .string P.topo, .slice Q.a5 P.anti.length Q.c5, .int .i64 P.skew, .slice Q.a6 P.even.length Q.c6, .string P.node, .int .i64 P.term], .agg #[.string ⟨#[]⟩, .int .i64 0, .int .i64 0, .int .i64 0, .int .i64 0, .int .i64 0, .slice none 0 0, .slice none 0 0, .slice none 0 0, .slice none 0 0, .string ⟨#[]⟩, .slice none 0 0, .int .i64 0, .slice none 0 0, .string ⟨#[]⟩, .int .i64 0]] wx fun e w' => e = .returned (.bool true) ∧ Ext wx w' := by
  have h : Calls Tryz.prog 52 #[.agg (podC P Q).toArray, .agg (podC zeroPd q0).toArray] wx fun e w' => e = .returned (.bool true) ∧ Ext wx w' := by
    subst hP
    exact rEqPod_same zeroPd Q q0 wx ok (zeroPd_ok wx)
  exact h
theorem zero_node (N : Nd) (Q : NA) (wx : World) (hN : N = zeroNd) (ok : NodeOk wx N Q) : Calls Tryz.prog 56 #[.agg #[.string N.name, .int .i64 N.cap.a, .int .i64 N.cap.b, .int .i64 N.cap.c, .slice Q.a1 N.labels.length Q.c1, .slice Q.a2 N.taints.length Q.c2], .agg #[.string ⟨#[]⟩, .int .i64 0, .int .i64 0, .int .i64 0, .slice none 0 0, .slice none 0 0]] wx fun e w' => e = .returned (.bool true) ∧ Ext wx w' := by
  have h : Calls Tryz.prog 56 #[.agg (nodeC N Q).toArray, .agg (nodeC zeroNd nq0).toArray] wx fun e w' => e = .returned (.bool true) ∧ Ext wx w' := by
    subst hN
    refine (rEqNode_any zeroNd zeroNd Q nq0 wx ok (zeroNd_ok wx)).mono ?_
    rintro e w' ⟨b, rfl, hb, he⟩
    rw [hb.2 rfl]
    exact ⟨rfl, he⟩
  exact h
theorem neq_lease0 (w : World) : (binOp .neq 85 (.agg #[.int .i64 0, .int .i64 0]) (.agg #[.int .i64 0, .int .i64 0])).run Tryz.prog w = .ok (.bool false) w := by
  rw [run_neq_struct, run_equalIn_agg w 9999 85 _ _ (by kernel_rfl) (by kernel_rfl)]
  rw [show (Tryz.prog.fieldsOf 85).toList = _ from by unfold Program.fieldsOf; rw [Tryz.underlying85]]
  simp [Op.eqFields, go_sem]
end Go.Proofs.YthfafenigjldlaaGreat
