/-
  The walks of package label, third part: Match.
-/
import Derived.Test.YthfafenigjldlaaLabel2
namespace Go.Proofs.Ythfafenigjldlaa
open Go.RowKit
set_option linter.unusedVariables false

theorem matchF_any (x : Tm) (A : Option Addr) (c : Nat) (pl : Addr) (B : Option Addr) (d : Nat) (l : List Pr) (w : World) (h1 : okS x.key) (h2 : inI x.kind) (h3 : x.vals.length ≤ c) (h4 : c ≤ maxLen) (h5 : Sl RStr 1 w A x.vals)
    (h6 : l.length ≤ maxLen) (h7 : Sl RPair 2 w B l) (h8 : w.cell? pl = some (.slice B l.length d)) :
    Calls Try.prog 28 #[.agg #[.string x.key, .int .i64 x.kind, .slice A x.vals.length c], .pointer (some pl)] w fun e w' => e = .returned (.bool (!holdsB x l)) ∧ Ext w w' := by
  have HE : Hid (∀ o : Obj, Ext w (w.alloc o)) := fun o => (Ext.refl w).alloc o
  have H5 := Lib.hid h5
  have H7 := Lib.hid h7
  have g8 := cell_alloc h8
  clear h5 h7
  go_enter Try.func28, Try.ntmps28
  go_wp2_with fail
  refine (holds_any x A c B d l _ h1 h2 h3 h4 (H5.out.ext RStr.keeps (HE.out _)) h6 (H7.out.ext RPair.keeps (HE.out _))).mono ?_
  rintro e w' ⟨rfl, he⟩
  go_wp2_with fail
  go_ret
  exact ⟨rfl, (HE.out _).trans he⟩

set_option maxHeartbeats 600000 in
theorem if_match (A : Option Addr) (c : Nat) (xs : List Tm) (pl : Addr) (B : Option Addr) (d : Nat) (l : List Pr) (w : World) (hn : xs.length ≤ maxLen) (hx : Sl RTerm 3 w A xs) (hcl : w.cell? pl = some (.slice B l.length d)) (hl : l.length ≤ maxLen ∧ Sl RPair 2 w B l) :
    Calls Try.prog 62 #[.slice A xs.length c, .func (.func 28) #[] #[.pointer (some pl)]] w (IdxPost (fun t => !holdsB t l) xs w) := by
  unfold maxLen at hn
  have HX := Lib.hid hx
  clear hx
  go_enter Try.func62, Try.ntmps62
  go_wp2_with fail
  go_loopw [8] (fun i wr => ∃ k : Nat, k ≤ xs.length ∧ i = .int .i64 k ∧ Ext w wr ∧ Hid (xs.any (fun t => !holdsB t l) = (xs.drop k).any (fun t => !holdsB t l))) (fun i _ => xs.length - (intOf i).toNat)
  case atStart => exact ⟨0, by omega, rfl, Ext.refl _, rfl⟩
  case round =>
    obtain ⟨k, hk, rfl, he, hd⟩ := hrel
    by_cases hlt : k < xs.length
    · obtain ⟨b, o, x, A', c', hA, hxk, ok1, ok2, ok3, ok4, hv, c0, c1, c2⟩ := (HX.out.ext RTerm.keeps he).term hlt
      have hstep := Lib.hid (any_at (p := fun t => !holdsB t l) hxk)
      subst hA
      clear hxk HX
      cases hp : (fun t => !holdsB t l) x
      · have HP := Lib.hid hp
        dsimp only at hp
        go_wp2_with fail
        refine (matchF_any x A' c' pl B d l _ ok1 ok2 ok3 ok4 hv hl.1 (hl.2.ext RPair.keeps he) (he.cell hcl)).mono ?_
        rintro e w' ⟨rfl, he'⟩
        go_wp2_with fail
        go_roundw
        case rel => exact ⟨k + 1, by omega, by go_num, he.trans he', by show _ = _; rw [hd.out, hstep.out, HP.out]; rfl⟩
        case measure => simp [intOf]; omega
      · have HP := Lib.hid hp
        dsimp only at hp
        go_wp2_with fail
        refine (matchF_any x A' c' pl B d l _ ok1 ok2 ok3 ok4 hv hl.1 (hl.2.ext RPair.keeps he) (he.cell hcl)).mono ?_
        rintro e w' ⟨rfl, he'⟩
        go_wp2_with fail
        go_ret
        exact ⟨k, rfl, by rw [hd.out, hstep.out, HP.out]; simp, he.trans he'⟩
    · go_wp2_with fail
      go_ret
      exact ⟨-1, rfl, by rw [hd.out, drop_all (by omega)]; simp, he⟩

set_option maxHeartbeats 400000 in
theorem cf_match (A : Option Addr) (c : Nat) (xs : List Tm) (pl : Addr) (B : Option Addr) (d : Nat) (l : List Pr) (w : World) (hn : xs.length ≤ maxLen) (hx : Sl RTerm 3 w A xs) (hcl : w.cell? pl = some (.slice B l.length d)) (hl : l.length ≤ maxLen ∧ Sl RPair 2 w B l) :
    Calls Try.prog 27 #[.slice A xs.length c, .func (.func 28) #[] #[.pointer (some pl)]] w fun e w' => e = .returned (.bool (xs.any (fun t => !holdsB t l))) ∧ Ext w w' := by
  go_enter Try.func27, Try.ntmps27
  go_wp2_with fail
  refine (if_match A c xs pl B d l w hn hx hcl hl).mono ?_
  rintro e w' ⟨i, rfl, hd, he⟩
  have HD := Lib.hid hd
  clear hd
  go_wp2_with fail
  go_ret
  exact ⟨ret_bool HD.out, he⟩


set_option maxHeartbeats 400000 in
theorem match_any (A : Option Addr) (c : Nat) (ts : List Tm) (B : Option Addr) (d : Nat) (l : List Pr) (w : World) (hn : ts.length ≤ maxLen) (hx : Sl RTerm 3 w A ts) (h6 : l.length ≤ maxLen) (h7 : Sl RPair 2 w B l) :
    Calls Try.prog 12 #[.slice A ts.length c, .slice B l.length d] w fun e w' => e = .returned (.bool (matchB ts l)) ∧ Ext w w' := by
  have HE : Hid (∀ o : Obj, Ext w (w.alloc o)) := fun o => (Ext.refl w).alloc o
  have HX := Lib.hid hx
  have H7 := Lib.hid h7
  have hmf : ∀ (fn : Fn) (first cap : Array Value) (w : World), (Instr.makeFunc fn first cap).run Try.prog w = .ok (.func fn first cap) w := fun _ _ _ _ => rfl
  clear hx h7
  go_enter Try.func12, Try.ntmps12
  go_wp2_with fail
  refine (cf_match A c ts _ B d l _ hn (HX.out.ext RTerm.keeps (HE.out _)) (by simp) ⟨h6, H7.out.ext RPair.keeps (HE.out _)⟩).mono ?_
  rintro e w' ⟨rfl, he⟩
  go_wp2_with fail
  go_ret
  exact ⟨rfl, (HE.out _).trans he⟩
end Go.Proofs.Ythfafenigjldlaa
