/-
  The walks of slices.Clone at bytes.
-/
import Derived.Test.YthfafenigjldlaaWire2
namespace Go.Proofs.Ythfafenigjldlaa
open Go.RowKit
set_option linter.unusedVariables false

/-- the slice's cells, one behind the other -/
def Flat (w : World) (size : Nat) (A : Option Addr) (n : Nat) (cells : List Value) : Prop :=
  cells.length = n * size ∧ (0 < n → ∃ b o, A = some ⟨b, o, none⟩ ∧ ∀ j u, cells[j]? = some u → w.cell? ⟨b, o + j, none⟩ = some u)
/-- a copy of one's own -/
def ClPost (T : TypeId) (size n : Nat) (cells : List Value) (w : World) (e : Ending) (w' : World) : Prop :=
  ∃ v, e = .returned v ∧ w'.ownsRow w.heap.size T size v n cells ∧ Ext w w'

set_option maxHeartbeats 600000 in
theorem cl_byte (A : Option Addr) (n c : Nat) (cells : List Value) (w : World) (hc : Flat w 1 A n cells) (h1 : ∀ u ∈ cells, u.oneCell' = true) (hb : n * 1 ≤ 140737488355328) :
    Calls Try.prog 68 #[.slice A n c] w (ClPost 5 1 n cells w) := by
  obtain ⟨i0, hi0, hz0, hz1, hz2⟩ := info_parts u8_info
  have hnl := fun (w : World) => Lib.run_eql_slice_nil (P := Try.prog) w 57 5 A n c 0 0 Try.underlying57
  have HE : Hid (∀ o, Ext w (w.alloc o)) := fun o => (Ext.refl w).alloc o
  have HO : Hid ((w.alloc (.cells #[] 5)).ownsRow w.heap.size 5 1 (.slice (some ⟨w.heap.size, 0, none⟩) 0 0) 0 []) :=
    ⟨by simp, .inr ⟨w.heap.size, 0, #[], rfl, Nat.le_refl _, heap_alloc_new w _, by omega, by simp [maxLen], by simp, by simp⟩⟩
  obtain ⟨hc1, hc2⟩ := hc
  cases A with
  | none =>
    have hn : n = 0 := by
      rcases Nat.eq_zero_or_pos n with h | h
      · exact h
      · obtain ⟨b, o, e, _⟩ := hc2 h; cases e
    subst hn
    have hcn : cells = [] := List.eq_nil_of_length_eq_zero (by simpa using hc1)
    subst hcn
    clear hc1 hc2 h1 HO HE
    go_enter Try.func68, Try.ntmps68
    go_wp2_with fail
    go_ret
    exact ⟨_, rfl, ⟨by simp, .inl ⟨rfl, rfl⟩⟩, Ext.refl _⟩
  | some a =>
    rcases Nat.eq_zero_or_pos n with hn | hn
    · subst hn
      have hcn : cells = [] := List.eq_nil_of_length_eq_zero (by simpa using hc1)
      subst hcn
      clear hc1 hc2 h1
      go_enter Try.func68, Try.ntmps68
      go_wp2_with fail
      go_ret
      exact ⟨_, rfl, HO.out, HE.out _⟩
    · obtain ⟨b, o, e, hcell⟩ := hc2 hn
      obtain rfl : a = ⟨b, o, none⟩ := by injection e
      have HC : Hid (∀ j u, cells[j]? = some u → (w.alloc (.cells #[] 5)).cell? ((⟨b, o, none⟩ : Addr).add j) = some u) := fun j u hu => by
        rw [show (⟨b, o, none⟩ : Addr).add j = ⟨b, o + j, none⟩ from by unfold Addr.add; split <;> simp_all]
        exact cell_alloc (hcell j u hu) _
      have HL := Lib.hid hc1
      have H1 := Lib.hid h1
      clear hc1 hc2 hcell h1 e
      go_enter Try.func68, Try.ntmps68
      go_wp2_with (first
        | (at_builtin
           refine wpList_append_lies _ rfl (.tmp 5) (.tmp 6) 57 rfl w.heap.size 5 i0 (.int .u8 0) 1 1 Try.underlying57 hi0 hz0 hz1 hz2 rfl (by decide) (.slice (some ⟨w.heap.size, 0, none⟩) 0 0) 0 [] rfl HO.out ⟨b, o, none⟩ n c cells rfl HL.out HC.out H1.out hn (by unfold maxLen; omega) (by omega) (by simp) _ rfl ?_
           intro gg cap w1 hown hgrow hat hlt1))
      go_ret
      refine ⟨_, rfl, by simpa using hown, Below.grown (HE.out _) hgrow (by simp) (fun k hk => ?_)⟩
      simp [Value.ownBlock] at hk
      omega

end Go.Proofs.Ythfafenigjldlaa
