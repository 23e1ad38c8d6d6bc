/-
  The walks of package wire's table: sync.Once at it: the first time, and again. (Turned from the guide's worked proof Lazy.)
-/
import Derived.Test.YthfafenigjldlaaGreatTab1
namespace Go.Proofs.YthfafenigjldlaaGreat
open Go.RowKit
set_option linter.unusedVariables false

theorem o_disable (w : World) : (callFunc 138 #[]).run Tryz.prog w = .ok (.value (.tuple #[])) w := run_call_mark0 Tryz.func138 (by kernel_rfl) (by kernel_rfl) (by kernel_rfl) .disable (by kernel_rfl) w
theorem o_enable (w : World) : (callFunc 140 #[]).run Tryz.prog w = .ok (.value (.tuple #[])) w := run_call_mark0 Tryz.func140 (by kernel_rfl) (by kernel_rfl) (by kernel_rfl) .enable (by kernel_rfl) w
theorem o_acquire (a : Addr) (w : World) : (callFunc 141 #[.pointer (some a)]).run Tryz.prog w = .ok (.value (.tuple #[])) w := run_call_marked Tryz.func141 (by kernel_rfl) (by kernel_rfl) (by kernel_rfl) .acquire (by kernel_rfl) a w
theorem o_release (a : Addr) (w : World) : (callFunc 143 #[.pointer (some a)]).run Tryz.prog w = .ok (.value (.tuple #[])) w := run_call_marked Tryz.func143 (by kernel_rfl) (by kernel_rfl) (by kernel_rfl) .releaseMerge (by kernel_rfl) a w

theorem store_deferred (a : Addr) (x : Value) (u : FrameMode) (w : World) (hc : w.cell? a = some x) (hz : w.frozen? a = false) :
    CallsD Tryz.prog 133 #[.pointer (some a), .bool true] u w fun e u' w' => u' = u ∧ (e = .returned (.tuple #[]) ∧ w' = w.drew.setCell a (.int .u32 1)) := by
  have hc' : w.drew.cell? a = some x := by go_simp
  have hz' : w.drew.frozen? a = false := by go_simp
  have hst := run_call_store (P := Tryz.prog) Tryz.func136 (by kernel_rfl) (by kernel_rfl) (by kernel_rfl) (by kernel_rfl) (k := .u32) (y := 1) hc' hz'
  go_enter_d Tryz.func133, Tryz.ntmps133
  go_wp2
  go_region_calls
  all_goals (go_end0; exact ⟨rfl, rfl⟩)

set_option maxRecDepth 100000 in
set_option maxHeartbeats 400000 in
theorem unlock_deferred (a : Addr) (u : FrameMode) (w : World) (hc : w.cell? a = some (.int .i32 1)) (hz : w.frozen? a = false) :
    CallsD Tryz.prog 132 #[.pointer (some a)] u w fun e u' w' => u' = u ∧ (e = .returned (.tuple #[]) ∧ w' = w.setCell a (.int .i32 0)) := by
  have hd := o_disable
  have he := o_enable
  have hr := o_release
  have hadd := run_call_add (P := Tryz.prog) Tryz.func144 (by kernel_rfl) (by kernel_rfl) (by kernel_rfl) .i32 (by kernel_rfl) (y := -1) (s := 0) hc hz (by simp [go_sem]; rfl)
  have hcv := run_convert_to_unsafe (P := Tryz.prog) (src := 181) (dst := 185) Tryz.underlying181 Tryz.underlying185 (by kernel_rfl) hc
  go_enter_d Tryz.func132, Tryz.ntmps132
  go_wp2
  go_end0
  go_wp2
  go_end0
  exact ⟨rfl, rfl⟩

set_option maxRecDepth 100000 in
set_option maxHeartbeats 400000 in
theorem lock_free (a : Addr) (w : World) (hc : w.cell? a = some (.int .i32 0)) (hz : w.frozen? a = false) :
    Calls Tryz.prog 131 #[.pointer (some a)] w fun e w' => e = .returned (.tuple #[]) ∧ w' = w.setCell a (.int .i32 1) := by
  have hd := o_disable
  have he := o_enable
  have ha := o_acquire
  have hcas := run_call_cas_hit (P := Tryz.prog) Tryz.func139 (by kernel_rfl) (by kernel_rfl) (by kernel_rfl) .i32 (by kernel_rfl) (y := 1) hc hz
  have hc' : (w.setCell a (.int .i32 1)).cell? a = some (.int .i32 1) := World.cell?_setCell_same w a _ hc
  have hcv := run_convert_to_unsafe (P := Tryz.prog) (src := 181) (dst := 185) Tryz.underlying181 Tryz.underlying185 (by kernel_rfl) hc'
  go_enter Tryz.func131, Tryz.ntmps131
  go_wp2
  first | go_end0 | (simp only [Exit.inBlock, Exit.then]; refine bodyPost_ret (results_none rfl _ _ _) rfl ?_) | refine bodyPost_ret (results_none rfl _ _ _) rfl ?_
  go_wp2
  go_end0
  exact ⟨rfl, rfl⟩

/-- the table when it is made -/
def Tb.made (t : Tb) : Tb := { ({ t with m := 1 } : Tb).upto 37 with d := 1, m := 0 }
theorem Tb.adds_d (t : Tb) (n : Nat) (l : List Nat) : (t.adds n l).d = t.d ∧ (t.adds n l).m = t.m := by
  induction l generalizing t n with
  | nil => exact ⟨rfl, rfl⟩
  | cons x l ih => exact ih _ _
/-- what making the table gives -/
def MPost (g : Nat) (T : TypeId) (cs : Array Value) (t : Tb) (w : World) (e : Ending) (w' : World) : Prop :=
  e = .returned (.tuple #[]) ∧ Keep (fun k => k = g) w w' ∧ ∃ cs', WB w' g T cs' ∧ TabA cs' t ∧ Tail cs cs'

set_option maxRecDepth 100000 in
set_option maxHeartbeats 1600000 in
theorem slow_any (g pb : Nat) (T : TypeId) (cs : Array Value) (t : Tb) (w : World) (hw : WB w g T cs) (ht : TabA cs t) (hd : t.d = 0) (hm : t.m = 0) (hp : g ≠ pb) (c2 : w.cell? ⟨pb, 0, none⟩ = some (.pointer (some ⟨g, 0, none⟩))) :
    Calls Tryz.prog 129 #[.pointer (some ⟨g, 0, none⟩), .func (.func 126) #[] #[.pointer (some ⟨pb, 0, none⟩)]] w (MPost g T cs t.made w) := by
  have h1 : w.cell? ⟨g, 1, none⟩ = some (.int .i32 0) := by have := hw.cell ht.at_m; rw [hm] at this; exact this
  have hw1 : WB (w.setCell ⟨g, 1, none⟩ (.int .i32 1)) g T (cs.setIfInBounds 1 (.int .i32 1)) := hw.set 1 _
  have ht1 := ht.m 1
  have c21 : (w.setCell ⟨g, 1, none⟩ (.int .i32 1)).cell? ⟨pb, 0, none⟩ = some (.pointer (some ⟨g, 0, none⟩)) := (World.cell?_setCell_other w ⟨g, 1, none⟩ ⟨pb, 0, none⟩ _ (by simp)).trans c2
  have h01 : (w.setCell ⟨g, 1, none⟩ (.int .i32 1)).cell? ⟨g, 0, none⟩ = some (.int .u32 0) := by have := hw1.cell ht1.at_d; rw [show ({ t with m := 1 } : Tb).d = 0 from hd] at this; exact this
  have hl := run_call_load (P := Tryz.prog) Tryz.func130 (by kernel_rfl) (by kernel_rfl) (by kernel_rfl) .u32 (by kernel_rfl) (w := w.setCell ⟨g, 1, none⟩ (.int .i32 1)) (a := ⟨g, 0, none⟩) (x := 0) h01
  have hnot : ∀ (x : Bool) (w : World), (Op.unary .not (.bool x)).run Tryz.prog w = .ok (.bool (!x)) w := fun _ _ => rfl
  have z1 := hw.fr 1
  have K1 : Hid (Keep (fun k => k = g) w (w.setCell ⟨g, 1, none⟩ (.int .i32 1))) := (Keep.refl (fun k => k = g) w).setCell (p := ⟨g, 1, none⟩) rfl _
  have HF := Lib.hid (tabF_any g pb T _ _ _ hw1 ht1 hp c21)
  clear hw ht hw1 ht1 c2 c21 h01 hd hm
  go_enter_defers Tryz.func129, Tryz.ntmps129
  go_wp2_with (first
    | (go_at_call 131; refine (lock_free ⟨g, 1, none⟩ _ h1 z1).mono ?_; rintro e w' ⟨rfl, rfl⟩)
    | (go_at_call 128; go_in)
    | (go_at_call 126; refine HF.out.mono ?_; rintro e w2 ⟨rfl, k2, cs2, hw2, ht2, hc2⟩))
  clear hl
  have K2 := Lib.hid (K1.out.trans k2)
  have hd2 : (({ t with m := 1 } : Tb).upto 37).m = 1 := (Tb.adds_d _ _ _).2
  have x0 := hw2.cell ht2.at_d
  have y0 := hw2.fr 0
  have hw3 : WB (w2.drew.setCell ⟨g, 0, none⟩ (.int .u32 1)) g T (cs2.setIfInBounds 0 (.int .u32 1)) := hw2.drew.set 0 _
  have ht3 := ht2.d 1
  have x1 : (w2.drew.setCell ⟨g, 0, none⟩ (.int .u32 1)).cell? ⟨g, 1, none⟩ = some (.int .i32 1) := by
    have := hw3.cell ht3.at_m
    rw [show ({ ({ t with m := 1 } : Tb).upto 37 with d := 1 } : Tb).m = 1 from hd2] at this
    exact this
  have y1 := hw3.fr 1
  have FIN : MPost g T cs t.made w (.returned (.tuple #[])) ((w2.drew.setCell ⟨g, 0, none⟩ (.int .u32 1)).setCell ⟨g, 1, none⟩ (.int .i32 0)) :=
    ⟨rfl, ((K2.out.drew).setCell (p := ⟨g, 0, none⟩) rfl _).setCell (p := ⟨g, 1, none⟩) rfl _, _, hw3.set 1 _, ht3.m 0,
      ((Tail.set _ (by omega) _).trans hc2).trans ((Tail.set _ (by omega) _).trans (Tail.set _ (by omega) _))⟩
  have F := Lib.hid FIN
  clear FIN hw2 ht2 hc2 hw3 ht3 hd2 k2 K1 K2 HF
  refine leaves_cons (f := 133) (args := #[.pointer (some ⟨g, 0, none⟩), .bool true]) (by simp) (by simp [go_sem]) ?_
  refine (store_deferred ⟨g, 0, none⟩ _ .returning _ x0 y0).mono ?_
  rintro e u' w'' ⟨rfl, rfl, rfl⟩
  refine leaves_cons (f := 132) (args := #[.pointer (some ⟨g, 1, none⟩)]) (by simp [settle]) (by simp [go_sem]) ?_
  refine (unlock_deferred ⟨g, 1, none⟩ _ _ x1 y1).mono ?_
  rintro e u' w'' ⟨rfl, rfl, rfl⟩
  simp [Leaves, settle, results, Tryz.results129]
  exact F.out
end Go.Proofs.YthfafenigjldlaaGreat

/-
  The walks of package wire's table: make, the first time and again.
-/
namespace Go.Proofs.YthfafenigjldlaaGreat
open Go.RowKit
set_option linter.unusedVariables false

def tb0 : Tb := ⟨0, 0, fun _ => 0, fun _ => 0⟩
def tb1 : Tb := tb0.made
def tbP (ph : Bool) : Tb := if ph = true then tb1 else tb0
theorem tb1_d : tb1.d = 1 := rfl

set_option maxRecDepth 100000 in
set_option maxHeartbeats 1600000 in
theorem do_first (g pb : Nat) (T : TypeId) (cs : Array Value) (t : Tb) (w : World) (hw : WB w g T cs) (ht : TabA cs t) (hd : t.d = 0) (hm : t.m = 0) (hp : g ≠ pb) (c2 : w.cell? ⟨pb, 0, none⟩ = some (.pointer (some ⟨g, 0, none⟩))) :
    Calls Tryz.prog 125 #[.pointer (some ⟨g, 0, none⟩), .func (.func 126) #[] #[.pointer (some ⟨pb, 0, none⟩)]] w (MPost g T cs t.made w) := by
  have h0 : w.cell? ⟨g, 0, none⟩ = some (.int .u32 0) := by have := hw.cell ht.at_d; rw [hd] at this; exact this
  have hl := run_call_load (P := Tryz.prog) Tryz.func130 (by kernel_rfl) (by kernel_rfl) (by kernel_rfl) .u32 (by kernel_rfl) h0
  have hnot : ∀ (x : Bool) (w : World), (Op.unary .not (.bool x)).run Tryz.prog w = .ok (.bool (!x)) w := fun _ _ => rfl
  have HF := Lib.hid (slow_any g pb T cs t w hw ht hd hm hp c2)
  clear hw ht hd hm hp c2
  go_enter Tryz.func125, Tryz.ntmps125
  go_wp2_with (first | (go_at_call 129; refine HF.out.mono ?_; rintro e w2 ⟨rfl, k2, cs2, hw2, ht2, hc2⟩) | (go_at_call 128; go_in))
  go_end0
  exact ⟨rfl, k2, cs2, hw2, ht2, hc2⟩

theorem do_done (g : Nat) (fv : Value) (w : World) (h0 : w.cell? ⟨g, 0, none⟩ = some (.int .u32 1)) :
    Calls Tryz.prog 125 #[.pointer (some ⟨g, 0, none⟩), fv] w fun e w' => e = .returned (.tuple #[]) ∧ w = w' := by
  have hl := run_call_load (P := Tryz.prog) Tryz.func130 (by kernel_rfl) (by kernel_rfl) (by kernel_rfl) .u32 (by kernel_rfl) h0
  have hnot : ∀ (x : Bool) (w : World), (Op.unary .not (.bool x)).run Tryz.prog w = .ok (.bool (!x)) w := fun _ _ => rfl
  go_enter Tryz.func125, Tryz.ntmps125
  go_wp2_with (first | (go_at_call 128; go_in))
  go_end0
  exact ⟨rfl, rfl⟩

set_option maxHeartbeats 400000 in
theorem make_any (g : Nat) (T : TypeId) (cs : Array Value) (ph : Bool) (w : World) (hw : WB w g T cs) (ht : TabA cs (tbP ph)) :
    Calls Tryz.prog 120 #[.pointer (some ⟨g, 0, none⟩)] w (MPost g T cs tb1 w) := by
  have hmf : ∀ (fn : Fn) (first cap : Array Value) (w : World), (Instr.makeFunc fn first cap).run Tryz.prog w = .ok (.func fn first cap) w := fun _ _ _ _ => rfl
  have hg : g ≠ w.heap.size := by have := hw.lt; omega
  have KA : Hid (∀ o, Keep (fun k => k = g) w (w.alloc o)) := fun o => (Keep.refl _ w).alloc o
  cases ph with
  | false =>
    have HF : Hid (∀ T', Calls Tryz.prog 125 #[.pointer (some ⟨g, 0, none⟩), .func (.func 126) #[] #[.pointer (some ⟨w.heap.size, 0, none⟩)]] (w.alloc (.cells #[.pointer (some ⟨g, 0, none⟩)] T')) (MPost g T cs tb1 (w.alloc (.cells #[.pointer (some ⟨g, 0, none⟩)] T')))) :=
      fun T' => do_first g w.heap.size T cs tb0 _ (hw.alloc _) ht rfl rfl hg (by simp)
    clear hw ht hg
    go_enter Tryz.func120, Tryz.ntmps120
    go_wp2_with (go_at_call 125; refine (HF.out _).mono ?_; rintro e w2 ⟨rfl, k2, cs2, hw2, ht2, hc2⟩)
    go_end0
    exact ⟨rfl, (KA.out _).trans k2, cs2, hw2, ht2, hc2⟩
  | true =>
    have h0 : w.cell? ⟨g, 0, none⟩ = some (.int .u32 1) := hw.cell ht.at_d
    have h1 := cell_alloc h0
    have HF : Hid (∀ o, WB (w.alloc o) g T cs) := fun o => hw.alloc o
    have HT := Lib.hid ht
    clear hw ht hg h0
    go_enter Tryz.func120, Tryz.ntmps120
    go_wp2_with (go_at_call 125; refine (do_done _ _ _ (h1 _)).mono ?_; rintro e w2 ⟨rfl, rfl⟩)
    go_end0
    exact ⟨rfl, KA.out _, cs, HF.out _, HT.out, Tail.refl _⟩
end Go.Proofs.YthfafenigjldlaaGreat
