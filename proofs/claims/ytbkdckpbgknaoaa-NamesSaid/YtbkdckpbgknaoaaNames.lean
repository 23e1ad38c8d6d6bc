/-
  'interrexlaw0.Names' answers true: the names of api stand for the document's numbers. No condition.
-/
import Derived.Test.YtbkdckpbgknaoaaLaw
import Derived.Deep.QuietTactic
import Derived.BigQuiet
namespace Go.Proofs.Ytbkdckpbgknaoaa
open Go.ChangeShapes Go.WideShapes Go.ChangeAt Go.RowKit

theorem wpList_value {P : Program} {ops : Array Oper} {rest : List Oper} {o : Oper} {a : Act} {w w' : World} {Q : Exit → Act → World → Prop} {v : Value} (hg : o.guard = none)
    (hrun : (execOp a.eval o).run P w = .ok (.value v) w') (h : wpList P ops Q rest (a.put o.dst v) w') : wpList P ops Q (o :: rest) a w :=
  wpList_plain hg fun K hK => by
    unfold Oper.wp
    rw [hrun]
    exact hK _ _ h

def nums : List Int := [0, 1, 2, 3, 4, 5, 6, 7, 8, 9, 1000000000, 12, 6, 12, 60, 1000, 65535, 4000, 20, 64, 64, 200, 1000, 100, 300, 50, 400, 1, 2, 3, 4, 1, 2, 3, 4, 1, 2, 3, 4, 5, 6, 7, 8, 9, 10, 11, 12, 13, 14]
def numsV : Array Value := (nums.map (Value.int .i64)).toArray
def one (w : World) : World := w.alloc (.cells numsV 3)
/-- both tables lie in two new blocks and hold the same numbers -/
def Two (w wr : World) : Prop := Below w.heap.size w wr ∧ ∀ k, k < 49 → ∃ x : Int, wr.cell? ⟨w.heap.size, k, none⟩ = some (.int .i64 x) ∧ wr.cell? ⟨w.heap.size + 1, k, none⟩ = some (.int .i64 x)
theorem Two.drewN {w wr : World} (h : Two w wr) (n : Nat) : Two w (wr.drewN n) :=
  ⟨⟨h.1.os, h.1.tape, h.1.output, h.1.size, h.1.block⟩, h.2⟩
theorem heap_one (w : World) : (one w).heap = w.heap.push (.cells numsV 3) := rfl
theorem one_size (w : World) : (one w).heap.size = w.heap.size + 1 := by rw [heap_one]; simp
theorem nums_at (k : Nat) (hk : k < 49) : ∃ x : Int, numsV[k]? = some (.int .i64 x) := by
  have : k < nums.length := hk
  exact ⟨nums[k], by unfold numsV; rw [List.getElem?_toArray, List.getElem?_map, List.getElem?_eq_getElem this]; rfl⟩
theorem two_start (w : World) : Two w (one (one w)) := by
  refine ⟨((Below.refl _ _).alloc (Nat.le_refl _) _).alloc (by rw [show (w.alloc (.cells numsV 3)).heap.size = w.heap.size + 1 from one_size w]; omega) _, fun k hk => ?_⟩
  obtain ⟨x, e⟩ := nums_at k hk
  have h0 : (one (one w)).heap[w.heap.size]? = some (.cells numsV 3) := by
    rw [heap_one, heap_one, Array.getElem?_push, if_neg (by simp), Array.getElem?_push, if_pos rfl]
  have h1 : (one (one w)).heap[w.heap.size + 1]? = some (.cells numsV 3) := by
    rw [heap_one, Array.getElem?_push, if_pos (by rw [one_size])]
  exact ⟨x, by simp only [World.cell?, h0]; exact e, by simp only [World.cell?, h1]; exact e⟩

set_option maxRecDepth 100000 in
theorem names_any (w : World) :
    Calls Try.prog 3 #[] w fun e w' => e = .returned (.bool true) ∧ Below w.heap.size w w' := by
  go_enter Try.func3, Try.ntmps3
  go_wp2_with (first
    | (refine wpList_value (o := ⟨some 4, _, _, _, _, _⟩) rfl (v := .slice (some ⟨w.heap.size, 0, none⟩) 49 49) (w' := one w) (by kernel_rfl) ?_
       simp only [Act.put, List.setIfInBounds_toArray, List.set_cons_succ, List.set_cons_zero])
    | (refine wpList_value (o := ⟨some 5, _, _, _, _, _⟩) rfl (v := .slice (some ⟨(one w).heap.size, 0, none⟩) 49 49) (w' := one (one w)) (by kernel_rfl) ?_
       simp only [Act.put, List.setIfInBounds_toArray, List.set_cons_succ, List.set_cons_zero, one_size]))
  have h2 := two_start w
  generalize one (one w) = w0 at h2 ⊢
  go_loopw [3] (fun i wr => ∃ k : Nat, k ≤ 49 ∧ i = .int .i64 k ∧ Two w wr) (fun i _ => 49 - (intOf i).toNat)
  case atStart => exact ⟨0, by omega, rfl, h2⟩
  case round =>
    obtain ⟨k, hk, rfl, hr⟩ := hrel
    by_cases hlt : k < 49
    · obtain ⟨x, ha, hb⟩ := hr.2 k hlt
      have hlt' : (k : Int) < 49 := by omega
      go_wp2_with fail
      go_quiet (fail)
      go_wp2_with fail
      go_roundw
      case rel => exact ⟨k + 1, by omega, by go_num, hr.drewN _⟩
      case measure => simp [intOf]; omega
    · go_wp2_with fail
      go_ret
      exact ⟨rfl, hr.1⟩

set_option maxRecDepth 100000 in
theorem lifted (os : Os) (started : os.Started) (H : Type) (enc : TypeId × Value → H) :
    ReturnsInHanded {} Try.checked os 3 .any (Rows.namesSpec.pre6 enc Try.prog Try.f3 Rows.namesRow.domain false) (Rows.namesSpec.post enc Try.prog Try.f3 false true false false) := by
  refine returnsInHanded_of_change (C := Try.checked) own started (by kernel_rfl) Try.func3
    (ChangeSpec.witness6 (enc := enc) (C := Try.checked) false ⟨#[], #[], []⟩ 8 (by kernel_rfl) (by kernel_rfl) (by kernel_rfl) (by kernel_rfl)) ?_
  intro W base args ds gs before hval hW hcnd _
  obtain ⟨p, q, hA, hV, rfl, hfz, hnd⟩ := id hW
  have hA' : DataW.TrodAll enc Try.prog W 0 (fun _ => true) true Try.f3.params.toList args.toList ds p := hA
  rw [Try.params3] at hA'
  obtain ⟨h1, rfl, rfl⟩ := trodAll_nil hA'
  obtain rfl : args = #[] := by cases args; simp_all
  refine (names_any W).mono fun e W' ⟨he, hb⟩ => ?_
  subst he
  exact ⟨_, rfl, law_post laidOut (by decide +kernel) rfl Try.underlying4 rfl rfl hW hb⟩

theorem over : Rows.namesRow.holds Try.pinned (OpenSpec.ofChange Rows.namesSpec) :=
  OpenClaim.holds_of_wide 3 Try.f3 rfl rfl rfl rfl rfl rfl rfl ⟨rfl, rfl, rfl, rfl, rfl⟩ rfl rfl rfl rfl rfl (by kernel_rfl) Try.func3 (by kernel_rfl)
    (of_decide_eq_true (by kernel_rfl)) (by unfold Func.isWrapper; first | (rw [if_pos (by decide +kernel)]; kernel_rfl) | (rw [if_neg (by decide +kernel)]; exact ⟨rfl, rfl⟩))
    (fun os started H enc _ => lifted os started H enc)

theorem names_holds : Rows.NamesSaid := over
#print axioms names_holds
end Go.Proofs.Ytbkdckpbgknaoaa
