/-
  The walks of package wire's table: make, the first time and again.
-/
import Derived.Test.YthfafenigjldlaaTab3
namespace Go.Proofs.Ythfafenigjldlaa
open Go.RowKit
set_option linter.unusedVariables false

def tb0 : Tb := ⟨0, 0, fun _ => 0, fun _ => 0⟩
def tb1 : Tb := tb0.made
def tbP (ph : Bool) : Tb := if ph = true then tb1 else tb0
theorem tb1_d : tb1.d = 1 := rfl

set_option maxRecDepth 100000 in
set_option maxHeartbeats 1600000 in
theorem do_first (g pb : Nat) (T : TypeId) (cs : Array Value) (t : Tb) (w : World) (hw : WB w g T cs) (ht : TabA cs t) (hd : t.d = 0) (hm : t.m = 0) (hp : g ≠ pb) (c2 : w.cell? ⟨pb, 0, none⟩ = some (.pointer (some ⟨g, 0, none⟩))) :
    Calls Try.prog 78 #[.pointer (some ⟨g, 0, none⟩), .func (.func 79) #[] #[.pointer (some ⟨pb, 0, none⟩)]] w (MPost g T cs t.made w) := by
  have h0 : w.cell? ⟨g, 0, none⟩ = some (.int .u32 0) := by have := hw.cell ht.at_d; rw [hd] at this; exact this
  have hl := run_call_load (P := Try.prog) Try.func86 (by kernel_rfl) (by kernel_rfl) (by kernel_rfl) .u32 (by kernel_rfl) h0
  have hnot : ∀ (x : Bool) (w : World), (Op.unary .not (.bool x)).run Try.prog w = .ok (.bool (!x)) w := fun _ _ => rfl
  have HF := Lib.hid (slow_any g pb T cs t w hw ht hd hm hp c2)
  clear hw ht hd hm hp c2
  go_enter Try.func78, Try.ntmps78
  go_wp2_with (first | (go_at_call 84; refine HF.out.mono ?_; rintro e w2 ⟨rfl, k2, cs2, hw2, ht2, hc2⟩) | (go_at_call 83; go_in))
  go_end0
  exact ⟨rfl, k2, cs2, hw2, ht2, hc2⟩

theorem do_done (g : Nat) (fv : Value) (w : World) (h0 : w.cell? ⟨g, 0, none⟩ = some (.int .u32 1)) :
    Calls Try.prog 78 #[.pointer (some ⟨g, 0, none⟩), fv] w fun e w' => e = .returned (.tuple #[]) ∧ w = w' := by
  have hl := run_call_load (P := Try.prog) Try.func86 (by kernel_rfl) (by kernel_rfl) (by kernel_rfl) .u32 (by kernel_rfl) h0
  have hnot : ∀ (x : Bool) (w : World), (Op.unary .not (.bool x)).run Try.prog w = .ok (.bool (!x)) w := fun _ _ => rfl
  go_enter Try.func78, Try.ntmps78
  go_wp2_with (first | (go_at_call 83; go_in))
  go_end0
  exact ⟨rfl, rfl⟩

set_option maxHeartbeats 400000 in
theorem make_any (g : Nat) (T : TypeId) (cs : Array Value) (ph : Bool) (w : World) (hw : WB w g T cs) (ht : TabA cs (tbP ph)) :
    Calls Try.prog 67 #[.pointer (some ⟨g, 0, none⟩)] w (MPost g T cs tb1 w) := by
  have hmf : ∀ (fn : Fn) (first cap : Array Value) (w : World), (Instr.makeFunc fn first cap).run Try.prog w = .ok (.func fn first cap) w := fun _ _ _ _ => rfl
  have hg : g ≠ w.heap.size := by have := hw.lt; omega
  have KA : Hid (∀ o, Keep (fun k => k = g) w (w.alloc o)) := fun o => (Keep.refl _ w).alloc o
  cases ph with
  | false =>
    have HF : Hid (∀ T', Calls Try.prog 78 #[.pointer (some ⟨g, 0, none⟩), .func (.func 79) #[] #[.pointer (some ⟨w.heap.size, 0, none⟩)]] (w.alloc (.cells #[.pointer (some ⟨g, 0, none⟩)] T')) (MPost g T cs tb1 (w.alloc (.cells #[.pointer (some ⟨g, 0, none⟩)] T')))) :=
      fun T' => do_first g w.heap.size T cs tb0 _ (hw.alloc _) ht rfl rfl hg (by simp)
    clear hw ht hg
    go_enter Try.func67, Try.ntmps67
    go_wp2_with (go_at_call 78; refine (HF.out _).mono ?_; rintro e w2 ⟨rfl, k2, cs2, hw2, ht2, hc2⟩)
    go_end0
    exact ⟨rfl, (KA.out _).trans k2, cs2, hw2, ht2, hc2⟩
  | true =>
    have h0 : w.cell? ⟨g, 0, none⟩ = some (.int .u32 1) := hw.cell ht.at_d
    have h1 := cell_alloc h0
    have HF : Hid (∀ o, WB (w.alloc o) g T cs) := fun o => hw.alloc o
    have HT := Lib.hid ht
    clear hw ht hg h0
    go_enter Try.func67, Try.ntmps67
    go_wp2_with (go_at_call 78; refine (do_done _ _ _ (h1 _)).mono ?_; rintro e w2 ⟨rfl, rfl⟩)
    go_end0
    exact ⟨rfl, KA.out _, cs, HF.out _, HT.out, Tail.refl _⟩
end Go.Proofs.Ythfafenigjldlaa
