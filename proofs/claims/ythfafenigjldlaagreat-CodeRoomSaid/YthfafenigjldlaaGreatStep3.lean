/-
  A region that draws its order, by an invariant over the SET of the operations carried out so far.
-/
import Derived.Test.YthfafenigjldlaaGreatStep2
import Derived.RegionTactic
namespace Go.Proofs.YthfafenigjldlaaGreat
open Go.RowKit
set_option linter.unusedVariables false

theorem cnt_set : ∀ (l : List Bool) (i : Nat), l[i]? = some false → (l.set i true).count false + 1 = l.count false
  | [], i, h => by simp at h
  | x :: l, 0, h => by
    obtain rfl : x = false := by simpa using h
    simp
  | x :: l, i + 1, h => by
    have := cnt_set l i (by simpa using h)
    simp only [List.set_cons_succ, List.count_cons]
    omega
section
variable {P : Program} {ops : Array Oper} {Q : Exit → Act → World → Prop} {md : Region.Mode}
theorem ready_mem {listed : Array Bool} {i : Nat} (h : i ∈ Region.ready md ops listed) : listed.toList[i]? = some false := by
  unfold Region.ready at h
  simp only [List.mem_filter, Bool.and_eq_true, Bool.not_eq_true'] at h
  have h1 := h.2.1
  rw [Array.getD_eq_getD_getElem?] at h1
  cases h2 : listed[i]? with
  | none => rw [h2] at h1; simp at h1
  | some b =>
    rw [h2] at h1
    simp at h1
    subst h1
    simpa using h2
theorem wpAny_inv (Inv : Array Bool → Act → World → Prop) (step : ∀ listed a w i, Inv listed a w → i ∈ Region.ready md ops listed → wpOp P ops Q i (fun a' w' => Inv (listed.setIfInBounds i true) a' w') a w)
    (fin : ∀ listed a w, Inv listed a w → Region.ready md ops listed = [] → Q .normal a w) : ∀ (fuel : Nat) (listed : Array Bool) (a : Act) (w : World), Inv listed a w → listed.toList.count false ≤ fuel → wpAny P md ops Q fuel listed a w := by
  intro fuel
  induction fuel with
  | zero =>
    intro listed a w hI hc
    have hr : Region.ready md ops listed = [] := by
      apply List.eq_nil_iff_forall_not_mem.2
      intro i hi
      have h1 := ready_mem hi
      have h2 : false ∈ listed.toList := List.mem_of_getElem? h1
      have := List.count_pos_iff.2 h2
      omega
    exact ⟨hr, fin listed a w hI hr⟩
  | succ fuel ih =>
    intro listed a w hI hc
    refine ⟨fin listed a w hI, fun i hi => wpOp_mono (fun a' w' h => ih _ a' w' h ?_) (step listed a w i hI hi)⟩
    have := cnt_set _ _ (ready_mem hi)
    rw [Array.toList_setIfInBounds]
    omega
theorem wp_region_inv {id : Nat} {a : Act} {w : World} (hm : P.follows .mixedOrders = true) (Inv : Array Bool → Act → World → Prop) (h0 : Inv (Array.replicate ops.size false) a w.drew)
    (step : ∀ listed a w i, Inv listed a w → i ∈ Region.ready .any ops listed → wpOp P ops Q i (fun a' w' => Inv (listed.setIfInBounds i true) a' w') a w)
    (fin : ∀ listed a w, Inv listed a w → Region.ready .any ops listed = [] → Q .normal a w) : (Code.region id ops true).wp P Q a w :=
  wp_region_any hm (wpAny_inv Inv step fin _ _ _ _ h0 (by simp))
end
section
variable {P : Program} (w : World)
theorem step_call {ops : Array Oper} {o : Oper} {a : Act} {K : Act → World → Prop} {Q : Exit → Act → World → Prop} {E : Prop} (hgd : o.guard = none) (f : FuncId) (s : Operand) (t : TypeId) (ho : o.op = .call { callee := .value (.func f), args := #[s], argTypes := #[t] })
    (v : Value) (hx : a.eval s = v) (hcall : (callFunc f #[v]).run P w = .ok (.enter f #[v]) w) (R : Ending → World → Prop) (hc : Calls P f #[v] w R) (h : ∀ e w', R e w' → ∃ r, e = .returned r ∧ K (a.put o.dst r) w') :
    if Region.wanted o (yielded ops a.tmps) = true then Oper.wp P o a w K Q else E := by
  have hw : Region.wanted o (yielded ops a.tmps) = true := by simp [Region.wanted, hgd]
  rw [if_pos hw]
  unfold Oper.wp execOp
  simp only [ho]
  have e1 : a.eval (Operand.func f) = .func (.func f) #[] #[] := rfl
  simp [resolve, invoke, hx, e1, Deferred.ofValue, hcall]
  refine hc.mono fun e w' hr => ?_
  obtain ⟨r, rfl, hk⟩ := h e w' hr
  exact hk
end
theorem call_run {P : Program} (w : World) (f : FuncId) (fn : Func) (args : Array Value) (hf : P.funcs[f]? = some fn) (h1 : (fn.name == "runtime.NumGoroutine") = false) (h2 : fn.body.isNone = false) : (callFunc f args).run P w = .ok (.enter f args) w := by
  have h3 : ¬ fn.name = "runtime.NumGoroutine" := by simpa using h1
  have h4 : ¬ fn.body = none := by intro e; rw [e] at h2; cases h2
  simp [callFunc, hf, h3, h4]
end Go.Proofs.YthfafenigjldlaaGreat
