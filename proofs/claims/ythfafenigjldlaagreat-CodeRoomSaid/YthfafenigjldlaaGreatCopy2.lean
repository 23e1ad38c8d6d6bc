/-
  The walks of slices.Clone at five types more, and of obj.copyTerms.
-/
import Derived.Test.YthfafenigjldlaaGreatCopy1
import Derived.Test.YthfafenigjldlaaGreatGet1
import Derived.Test.YthfafenigjldlaaGreatGet4
import Derived.Deep.AppendLies
namespace Go.Proofs.YthfafenigjldlaaGreat
open Go.RowKit
set_option linter.unusedVariables false


set_option maxHeartbeats 600000 in
theorem cl_int (A : Option Addr) (n c : Nat) (cells : List Value) (w : World) (hc : Flat w 1 A n cells) (h1 : ∀ u ∈ cells, u.oneCell' = true) (hb : n * 8 ≤ 140737488355328) :
    Calls Tryz.prog 72 #[.slice A n c] w (ClPost 3 1 n cells w) := by
  obtain ⟨i0, hi0, hz0, hz1, hz2⟩ := info_parts int_info
  have hnl := fun (w : World) => Lib.run_eql_slice_nil (P := Tryz.prog) w 64 3 A n c 0 0 Tryz.underlying64
  have HE : Hid (∀ o, Ext w (w.alloc o)) := fun o => (Ext.refl w).alloc o
  have HO : Hid ((w.alloc (.cells #[] 3)).ownsRow w.heap.size 3 1 (.slice (some ⟨w.heap.size, 0, none⟩) 0 0) 0 []) :=
    ⟨by simp, .inr ⟨w.heap.size, 0, #[], rfl, Nat.le_refl _, heap_alloc_new w _, by omega, by simp [maxLen], by simp, by simp⟩⟩
  obtain ⟨hc1, hc2⟩ := hc
  cases A with
  | none =>
    have hn : n = 0 := by
      rcases Nat.eq_zero_or_pos n with h | h
      · exact h
      · obtain ⟨b, o, e, _⟩ := hc2 h; cases e
    subst hn
    have hcn : cells = [] := List.eq_nil_of_length_eq_zero (by simpa using hc1)
    subst hcn
    clear hc1 hc2 h1 HO HE
    go_enter Tryz.func72, Tryz.ntmps72
    go_wp2_with fail
    go_ret
    exact ⟨_, rfl, ⟨by simp, .inl ⟨rfl, rfl⟩⟩, Ext.refl _⟩
  | some a =>
    rcases Nat.eq_zero_or_pos n with hn | hn
    · subst hn
      have hcn : cells = [] := List.eq_nil_of_length_eq_zero (by simpa using hc1)
      subst hcn
      clear hc1 hc2 h1
      go_enter Tryz.func72, Tryz.ntmps72
      go_wp2_with fail
      go_ret
      exact ⟨_, rfl, HO.out, HE.out _⟩
    · obtain ⟨b, o, e, hcell⟩ := hc2 hn
      obtain rfl : a = ⟨b, o, none⟩ := by injection e
      have HC : Hid (∀ j u, cells[j]? = some u → (w.alloc (.cells #[] 3)).cell? ((⟨b, o, none⟩ : Addr).add j) = some u) := fun j u hu => by
        rw [show (⟨b, o, none⟩ : Addr).add j = ⟨b, o + j, none⟩ from by unfold Addr.add; split <;> simp_all]
        exact cell_alloc (hcell j u hu) _
      have HL := Lib.hid hc1
      have H1 := Lib.hid h1
      clear hc1 hc2 hcell h1 e
      go_enter Tryz.func72, Tryz.ntmps72
      go_wp2_with (first
        | (at_builtin
           refine wpList_append_lies _ rfl (.tmp 5) (.tmp 6) 64 rfl w.heap.size 3 i0 (.int .i64 0) 1 8 Tryz.underlying64 hi0 hz0 hz1 hz2 rfl (by decide) (.slice (some ⟨w.heap.size, 0, none⟩) 0 0) 0 [] rfl HO.out ⟨b, o, none⟩ n c cells rfl HL.out HC.out H1.out hn (by unfold maxLen; omega) (by omega) (by simp) _ rfl ?_
           intro gg cap w1 hown hgrow hat hlt1))
      go_ret
      refine ⟨_, rfl, by simpa using hown, Below.grown (HE.out _) hgrow (by simp) (fun k hk => ?_)⟩
      simp [Value.ownBlock] at hk
      omega


set_option maxHeartbeats 600000 in
theorem cl_pair (A : Option Addr) (n c : Nat) (cells : List Value) (w : World) (hc : Flat w 2 A n cells) (h1 : ∀ u ∈ cells, u.oneCell' = true) (hb : n * 32 ≤ 140737488355328) :
    Calls Tryz.prog 73 #[.slice A n c] w (ClPost 37 2 n cells w) := by
  obtain ⟨i0, hi0, hz0, hz1, hz2⟩ := info_parts pair_info
  have hnl := fun (w : World) => Lib.run_eql_slice_nil (P := Tryz.prog) w 22 37 A n c 0 0 Tryz.underlying22
  have HE : Hid (∀ o, Ext w (w.alloc o)) := fun o => (Ext.refl w).alloc o
  have HO : Hid ((w.alloc (.cells #[] 37)).ownsRow w.heap.size 37 2 (.slice (some ⟨w.heap.size, 0, none⟩) 0 0) 0 []) :=
    ⟨by simp, .inr ⟨w.heap.size, 0, #[], rfl, Nat.le_refl _, heap_alloc_new w _, by omega, by simp [maxLen], by simp, by simp⟩⟩
  obtain ⟨hc1, hc2⟩ := hc
  cases A with
  | none =>
    have hn : n = 0 := by
      rcases Nat.eq_zero_or_pos n with h | h
      · exact h
      · obtain ⟨b, o, e, _⟩ := hc2 h; cases e
    subst hn
    have hcn : cells = [] := List.eq_nil_of_length_eq_zero (by simpa using hc1)
    subst hcn
    clear hc1 hc2 h1 HO HE
    go_enter Tryz.func73, Tryz.ntmps73
    go_wp2_with fail
    go_ret
    exact ⟨_, rfl, ⟨by simp, .inl ⟨rfl, rfl⟩⟩, Ext.refl _⟩
  | some a =>
    rcases Nat.eq_zero_or_pos n with hn | hn
    · subst hn
      have hcn : cells = [] := List.eq_nil_of_length_eq_zero (by simpa using hc1)
      subst hcn
      clear hc1 hc2 h1
      go_enter Tryz.func73, Tryz.ntmps73
      go_wp2_with fail
      go_ret
      exact ⟨_, rfl, HO.out, HE.out _⟩
    · obtain ⟨b, o, e, hcell⟩ := hc2 hn
      obtain rfl : a = ⟨b, o, none⟩ := by injection e
      have HC : Hid (∀ j u, cells[j]? = some u → (w.alloc (.cells #[] 37)).cell? ((⟨b, o, none⟩ : Addr).add j) = some u) := fun j u hu => by
        rw [show (⟨b, o, none⟩ : Addr).add j = ⟨b, o + j, none⟩ from by unfold Addr.add; split <;> simp_all]
        exact cell_alloc (hcell j u hu) _
      have HL := Lib.hid hc1
      have H1 := Lib.hid h1
      clear hc1 hc2 hcell h1 e
      go_enter Tryz.func73, Tryz.ntmps73
      go_wp2_with (first
        | (at_builtin
           refine wpList_append_lies _ rfl (.tmp 5) (.tmp 6) 22 rfl w.heap.size 37 i0 (.agg #[.string ⟨#[]⟩, .string ⟨#[]⟩]) 2 32 Tryz.underlying22 hi0 hz0 hz1 hz2 rfl (by decide) (.slice (some ⟨w.heap.size, 0, none⟩) 0 0) 0 [] rfl HO.out ⟨b, o, none⟩ n c cells rfl HL.out HC.out H1.out hn (by unfold maxLen; omega) (by omega) (by simp) _ rfl ?_
           intro gg cap w1 hown hgrow hat hlt1))
      go_ret
      refine ⟨_, rfl, by simpa using hown, Below.grown (HE.out _) hgrow (by simp) (fun k hk => ?_)⟩
      simp [Value.ownBlock] at hk
      omega


set_option maxHeartbeats 600000 in
theorem cl_toler (A : Option Addr) (n c : Nat) (cells : List Value) (w : World) (hc : Flat w 3 A n cells) (h1 : ∀ u ∈ cells, u.oneCell' = true) (hb : n * 40 ≤ 140737488355328) :
    Calls Tryz.prog 74 #[.slice A n c] w (ClPost 52 3 n cells w) := by
  obtain ⟨i0, hi0, hz0, hz1, hz2⟩ := info_parts toler_info
  have hnl := fun (w : World) => Lib.run_eql_slice_nil (P := Tryz.prog) w 46 52 A n c 0 0 Tryz.underlying46
  have HE : Hid (∀ o, Ext w (w.alloc o)) := fun o => (Ext.refl w).alloc o
  have HO : Hid ((w.alloc (.cells #[] 52)).ownsRow w.heap.size 52 3 (.slice (some ⟨w.heap.size, 0, none⟩) 0 0) 0 []) :=
    ⟨by simp, .inr ⟨w.heap.size, 0, #[], rfl, Nat.le_refl _, heap_alloc_new w _, by omega, by simp [maxLen], by simp, by simp⟩⟩
  obtain ⟨hc1, hc2⟩ := hc
  cases A with
  | none =>
    have hn : n = 0 := by
      rcases Nat.eq_zero_or_pos n with h | h
      · exact h
      · obtain ⟨b, o, e, _⟩ := hc2 h; cases e
    subst hn
    have hcn : cells = [] := List.eq_nil_of_length_eq_zero (by simpa using hc1)
    subst hcn
    clear hc1 hc2 h1 HO HE
    go_enter Tryz.func74, Tryz.ntmps74
    go_wp2_with fail
    go_ret
    exact ⟨_, rfl, ⟨by simp, .inl ⟨rfl, rfl⟩⟩, Ext.refl _⟩
  | some a =>
    rcases Nat.eq_zero_or_pos n with hn | hn
    · subst hn
      have hcn : cells = [] := List.eq_nil_of_length_eq_zero (by simpa using hc1)
      subst hcn
      clear hc1 hc2 h1
      go_enter Tryz.func74, Tryz.ntmps74
      go_wp2_with fail
      go_ret
      exact ⟨_, rfl, HO.out, HE.out _⟩
    · obtain ⟨b, o, e, hcell⟩ := hc2 hn
      obtain rfl : a = ⟨b, o, none⟩ := by injection e
      have HC : Hid (∀ j u, cells[j]? = some u → (w.alloc (.cells #[] 52)).cell? ((⟨b, o, none⟩ : Addr).add j) = some u) := fun j u hu => by
        rw [show (⟨b, o, none⟩ : Addr).add j = ⟨b, o + j, none⟩ from by unfold Addr.add; split <;> simp_all]
        exact cell_alloc (hcell j u hu) _
      have HL := Lib.hid hc1
      have H1 := Lib.hid h1
      clear hc1 hc2 hcell h1 e
      go_enter Tryz.func74, Tryz.ntmps74
      go_wp2_with (first
        | (at_builtin
           refine wpList_append_lies _ rfl (.tmp 5) (.tmp 6) 46 rfl w.heap.size 52 i0 (.agg #[.string ⟨#[]⟩, .string ⟨#[]⟩, .bool false]) 3 40 Tryz.underlying46 hi0 hz0 hz1 hz2 rfl (by decide) (.slice (some ⟨w.heap.size, 0, none⟩) 0 0) 0 [] rfl HO.out ⟨b, o, none⟩ n c cells rfl HL.out HC.out H1.out hn (by unfold maxLen; omega) (by omega) (by simp) _ rfl ?_
           intro gg cap w1 hown hgrow hat hlt1))
      go_ret
      refine ⟨_, rfl, by simpa using hown, Below.grown (HE.out _) hgrow (by simp) (fun k hk => ?_)⟩
      simp [Value.ownBlock] at hk
      omega


set_option maxHeartbeats 600000 in
theorem cl_taint (A : Option Addr) (n c : Nat) (cells : List Value) (w : World) (hc : Flat w 2 A n cells) (h1 : ∀ u ∈ cells, u.oneCell' = true) (hb : n * 32 ≤ 140737488355328) :
    Calls Tryz.prog 76 #[.slice A n c] w (ClPost 53 2 n cells w) := by
  obtain ⟨i0, hi0, hz0, hz1, hz2⟩ := info_parts taint_info
  have hnl := fun (w : World) => Lib.run_eql_slice_nil (P := Tryz.prog) w 45 53 A n c 0 0 Tryz.underlying45
  have HE : Hid (∀ o, Ext w (w.alloc o)) := fun o => (Ext.refl w).alloc o
  have HO : Hid ((w.alloc (.cells #[] 53)).ownsRow w.heap.size 53 2 (.slice (some ⟨w.heap.size, 0, none⟩) 0 0) 0 []) :=
    ⟨by simp, .inr ⟨w.heap.size, 0, #[], rfl, Nat.le_refl _, heap_alloc_new w _, by omega, by simp [maxLen], by simp, by simp⟩⟩
  obtain ⟨hc1, hc2⟩ := hc
  cases A with
  | none =>
    have hn : n = 0 := by
      rcases Nat.eq_zero_or_pos n with h | h
      · exact h
      · obtain ⟨b, o, e, _⟩ := hc2 h; cases e
    subst hn
    have hcn : cells = [] := List.eq_nil_of_length_eq_zero (by simpa using hc1)
    subst hcn
    clear hc1 hc2 h1 HO HE
    go_enter Tryz.func76, Tryz.ntmps76
    go_wp2_with fail
    go_ret
    exact ⟨_, rfl, ⟨by simp, .inl ⟨rfl, rfl⟩⟩, Ext.refl _⟩
  | some a =>
    rcases Nat.eq_zero_or_pos n with hn | hn
    · subst hn
      have hcn : cells = [] := List.eq_nil_of_length_eq_zero (by simpa using hc1)
      subst hcn
      clear hc1 hc2 h1
      go_enter Tryz.func76, Tryz.ntmps76
      go_wp2_with fail
      go_ret
      exact ⟨_, rfl, HO.out, HE.out _⟩
    · obtain ⟨b, o, e, hcell⟩ := hc2 hn
      obtain rfl : a = ⟨b, o, none⟩ := by injection e
      have HC : Hid (∀ j u, cells[j]? = some u → (w.alloc (.cells #[] 53)).cell? ((⟨b, o, none⟩ : Addr).add j) = some u) := fun j u hu => by
        rw [show (⟨b, o, none⟩ : Addr).add j = ⟨b, o + j, none⟩ from by unfold Addr.add; split <;> simp_all]
        exact cell_alloc (hcell j u hu) _
      have HL := Lib.hid hc1
      have H1 := Lib.hid h1
      clear hc1 hc2 hcell h1 e
      go_enter Tryz.func76, Tryz.ntmps76
      go_wp2_with (first
        | (at_builtin
           refine wpList_append_lies _ rfl (.tmp 5) (.tmp 6) 45 rfl w.heap.size 53 i0 (.agg #[.string ⟨#[]⟩, .string ⟨#[]⟩]) 2 32 Tryz.underlying45 hi0 hz0 hz1 hz2 rfl (by decide) (.slice (some ⟨w.heap.size, 0, none⟩) 0 0) 0 [] rfl HO.out ⟨b, o, none⟩ n c cells rfl HL.out HC.out H1.out hn (by unfold maxLen; omega) (by omega) (by simp) _ rfl ?_
           intro gg cap w1 hown hgrow hat hlt1))
      go_ret
      refine ⟨_, rfl, by simpa using hown, Below.grown (HE.out _) hgrow (by simp) (fun k hk => ?_)⟩
      simp [Value.ownBlock] at hk
      omega


set_option maxHeartbeats 600000 in
theorem cl_term (A : Option Addr) (n c : Nat) (cells : List Value) (w : World) (hc : Flat w 3 A n cells) (h1 : ∀ u ∈ cells, u.oneCell' = true) (hb : n * 48 ≤ 140737488355328) :
    Calls Tryz.prog 115 #[.slice A n c] w (ClPost 41 3 n cells w) := by
  obtain ⟨i0, hi0, hz0, hz1, hz2⟩ := info_parts term_info
  have hnl := fun (w : World) => Lib.run_eql_slice_nil (P := Tryz.prog) w 23 41 A n c 0 0 Tryz.underlying23
  have HE : Hid (∀ o, Ext w (w.alloc o)) := fun o => (Ext.refl w).alloc o
  have HO : Hid ((w.alloc (.cells #[] 41)).ownsRow w.heap.size 41 3 (.slice (some ⟨w.heap.size, 0, none⟩) 0 0) 0 []) :=
    ⟨by simp, .inr ⟨w.heap.size, 0, #[], rfl, Nat.le_refl _, heap_alloc_new w _, by omega, by simp [maxLen], by simp, by simp⟩⟩
  obtain ⟨hc1, hc2⟩ := hc
  cases A with
  | none =>
    have hn : n = 0 := by
      rcases Nat.eq_zero_or_pos n with h | h
      · exact h
      · obtain ⟨b, o, e, _⟩ := hc2 h; cases e
    subst hn
    have hcn : cells = [] := List.eq_nil_of_length_eq_zero (by simpa using hc1)
    subst hcn
    clear hc1 hc2 h1 HO HE
    go_enter Tryz.func115, Tryz.ntmps115
    go_wp2_with fail
    go_ret
    exact ⟨_, rfl, ⟨by simp, .inl ⟨rfl, rfl⟩⟩, Ext.refl _⟩
  | some a =>
    rcases Nat.eq_zero_or_pos n with hn | hn
    · subst hn
      have hcn : cells = [] := List.eq_nil_of_length_eq_zero (by simpa using hc1)
      subst hcn
      clear hc1 hc2 h1
      go_enter Tryz.func115, Tryz.ntmps115
      go_wp2_with fail
      go_ret
      exact ⟨_, rfl, HO.out, HE.out _⟩
    · obtain ⟨b, o, e, hcell⟩ := hc2 hn
      obtain rfl : a = ⟨b, o, none⟩ := by injection e
      have HC : Hid (∀ j u, cells[j]? = some u → (w.alloc (.cells #[] 41)).cell? ((⟨b, o, none⟩ : Addr).add j) = some u) := fun j u hu => by
        rw [show (⟨b, o, none⟩ : Addr).add j = ⟨b, o + j, none⟩ from by unfold Addr.add; split <;> simp_all]
        exact cell_alloc (hcell j u hu) _
      have HL := Lib.hid hc1
      have H1 := Lib.hid h1
      clear hc1 hc2 hcell h1 e
      go_enter Tryz.func115, Tryz.ntmps115
      go_wp2_with (first
        | (at_builtin
           refine wpList_append_lies _ rfl (.tmp 5) (.tmp 6) 23 rfl w.heap.size 41 i0 (.agg #[.string ⟨#[]⟩, .int .i64 0, .slice none 0 0]) 3 48 Tryz.underlying23 hi0 hz0 hz1 hz2 rfl (by decide) (.slice (some ⟨w.heap.size, 0, none⟩) 0 0) 0 [] rfl HO.out ⟨b, o, none⟩ n c cells rfl HL.out HC.out H1.out hn (by unfold maxLen; omega) (by omega) (by simp) _ rfl ?_
           intro gg cap w1 hown hgrow hat hlt1))
      go_ret
      refine ⟨_, rfl, by simpa using hown, Below.grown (HE.out _) hgrow (by simp) (fun k hk => ?_)⟩
      simp [Value.ownBlock] at hk
      omega


set_option maxHeartbeats 600000 in
theorem cl_str (A : Option Addr) (n c : Nat) (cells : List Value) (w : World) (hc : Flat w 1 A n cells) (h1 : ∀ u ∈ cells, u.oneCell' = true) (hb : n * 16 ≤ 140737488355328) :
    Calls Tryz.prog 116 #[.slice A n c] w (ClPost 9 1 n cells w) := by
  obtain ⟨i0, hi0, hz0, hz1, hz2⟩ := info_parts string_info
  have hnl := fun (w : World) => Lib.run_eql_slice_nil (P := Tryz.prog) w 39 9 A n c 0 0 Tryz.underlying39
  have HE : Hid (∀ o, Ext w (w.alloc o)) := fun o => (Ext.refl w).alloc o
  have HO : Hid ((w.alloc (.cells #[] 9)).ownsRow w.heap.size 9 1 (.slice (some ⟨w.heap.size, 0, none⟩) 0 0) 0 []) :=
    ⟨by simp, .inr ⟨w.heap.size, 0, #[], rfl, Nat.le_refl _, heap_alloc_new w _, by omega, by simp [maxLen], by simp, by simp⟩⟩
  obtain ⟨hc1, hc2⟩ := hc
  cases A with
  | none =>
    have hn : n = 0 := by
      rcases Nat.eq_zero_or_pos n with h | h
      · exact h
      · obtain ⟨b, o, e, _⟩ := hc2 h; cases e
    subst hn
    have hcn : cells = [] := List.eq_nil_of_length_eq_zero (by simpa using hc1)
    subst hcn
    clear hc1 hc2 h1 HO HE
    go_enter Tryz.func116, Tryz.ntmps116
    go_wp2_with fail
    go_ret
    exact ⟨_, rfl, ⟨by simp, .inl ⟨rfl, rfl⟩⟩, Ext.refl _⟩
  | some a =>
    rcases Nat.eq_zero_or_pos n with hn | hn
    · subst hn
      have hcn : cells = [] := List.eq_nil_of_length_eq_zero (by simpa using hc1)
      subst hcn
      clear hc1 hc2 h1
      go_enter Tryz.func116, Tryz.ntmps116
      go_wp2_with fail
      go_ret
      exact ⟨_, rfl, HO.out, HE.out _⟩
    · obtain ⟨b, o, e, hcell⟩ := hc2 hn
      obtain rfl : a = ⟨b, o, none⟩ := by injection e
      have HC : Hid (∀ j u, cells[j]? = some u → (w.alloc (.cells #[] 9)).cell? ((⟨b, o, none⟩ : Addr).add j) = some u) := fun j u hu => by
        rw [show (⟨b, o, none⟩ : Addr).add j = ⟨b, o + j, none⟩ from by unfold Addr.add; split <;> simp_all]
        exact cell_alloc (hcell j u hu) _
      have HL := Lib.hid hc1
      have H1 := Lib.hid h1
      clear hc1 hc2 hcell h1 e
      go_enter Tryz.func116, Tryz.ntmps116
      go_wp2_with (first
        | (at_builtin
           refine wpList_append_lies _ rfl (.tmp 5) (.tmp 6) 39 rfl w.heap.size 9 i0 (.string ⟨#[]⟩) 1 16 Tryz.underlying39 hi0 hz0 hz1 hz2 rfl (by decide) (.slice (some ⟨w.heap.size, 0, none⟩) 0 0) 0 [] rfl HO.out ⟨b, o, none⟩ n c cells rfl HL.out HC.out H1.out hn (by unfold maxLen; omega) (by omega) (by simp) _ rfl ?_
           intro gg cap w1 hown hgrow hat hlt1))
      go_ret
      refine ⟨_, rfl, by simpa using hown, Below.grown (HE.out _) hgrow (by simp) (fun k hk => ?_)⟩
      simp [Value.ownBlock] at hk
      omega


theorem RInt.one {w : World} (cs : List Value) (x : Int) (h : RInt w cs x) : ∀ u ∈ cs, u.oneCell' = true := by
  obtain ⟨rfl, _⟩ := h
  intro u hu; simp at hu; subst hu; rfl
theorem Cells.any {α : Type} {R : World → List Value → α → Prop} {size : Nat} {w w' : World} {xs : List α} {cs : List Value} (h : Cells R size w xs cs) (hR : ∀ w w' cs x, R w cs x → R w' cs x) : Cells R size w' xs cs := by
  induction h with
  | nil => exact .nil
  | cons h hl t ih => exact .cons (hR _ _ _ _ h) hl ih
/-- a clone, as a row of one's own -/
theorem cl_rows {α : Type} {R : World → List Value → α → Prop} (hR : Keeps R) {T : TypeId} {size n : Nat} {w w' : World} {xs : List α} {cs : List Value} {v : Value} (hn : xs.length = n) (hk : ∀ W, Cells R size W xs cs) (h : w'.ownsRow w.heap.size T size v n cs) :
    ∃ A c, v = .slice A n c ∧ n ≤ c ∧ c ≤ maxLen ∧ Rowz R T size w.heap.size w' A c xs := by
  subst hn
  have hv : ∃ A c, v = .slice A xs.length c := by
    rcases h.2 with ⟨rfl, h0⟩ | ⟨g', cap, cur, rfl, _⟩
    · exact ⟨none, 0, by rw [h0]⟩
    · exact ⟨_, _, rfl⟩
  obtain ⟨A, c, rfl⟩ := hv
  obtain ⟨f1, f2, f3⟩ := own_flatA h
  exact ⟨A, c, rfl, f2, f3, cs, h, hk _⟩
theorem Rowz.of_sl {α : Type} {R : World → List Value → α → Prop} {T : TypeId} {size lo : Nat} {w : World} {g cap : Nat} {cur : Array Value} {xs : List α} (hb : WB w g T cur) (hg : lo ≤ g) (h1 : xs.length ≤ cap) (h2 : cap ≤ maxLen) (h3 : cur.size = cap * size)
    (h : Sl R size (Own lo w) (some ⟨g, 0, none⟩) xs) : Rowz R T size lo w (some ⟨g, 0, none⟩) cap xs := by
  obtain ⟨cs, k, f⟩ := h.cells
  have hl := k.len
  have hle : xs.length * size ≤ cap * size := Nat.mul_le_mul_right _ h1
  refine ⟨cs, ⟨hl, .inr ⟨g, cap, cur, rfl, hg, hb, h1, h2, h3, ?_⟩⟩, k⟩
  apply List.ext_getElem?
  intro j
  rcases Nat.lt_or_ge j (xs.length * size) with hj | hj
  · obtain ⟨u, hu⟩ := get_of (xs := cs) (k := j) (by omega)
    have hx : 0 < xs.length := by
      rcases Nat.eq_zero_or_pos xs.length with h0 | h0
      · rw [h0] at hj; omega
      · exact h0
    obtain ⟨b, o, e, hc⟩ := f.2 hx
    obtain ⟨rfl, rfl⟩ : g = b ∧ 0 = o := by simpa using e
    have := (Own.cell (hc j u hu)).2.1
    simp only [World.cell?, show w.heap[g]? = some (.cells cur T (0, 0)) from hb] at this
    rw [List.getElem?_take_of_lt hj, hu]
    simpa using this
  · rw [List.getElem?_eq_none (by rw [List.length_take]; omega), List.getElem?_eq_none (by omega)]
/-- strings are kept -/
def SubT (w w' : World) : Prop := ∀ p s, w.cell? p = some (.string s) → w'.cell? p = some (.string s)
theorem Sl.strT {w w' : World} {A : Option Addr} {xs : List ByteArray} (h : Sl RStr 1 w A xs) (e : SubT w w') : Sl RStr 1 w' A xs := by
  intro k x hk
  obtain ⟨b, o, cs, hA, hl, hc, rfl, hs⟩ := h k x hk
  refine ⟨b, o, _, hA, rfl, fun j u hu => ?_, rfl, hs⟩
  match j, hu with
  | 0, hu =>
    obtain rfl : .string x = u := by simpa using hu
    exact e _ _ (hc 0 _ rfl)
theorem SubT.ofSub {w w' : World} (h : Sub w w') : SubT w w' := fun p s hp => h.cell hp
/-- where a slice stands a slice is written -/
theorem SubT.set {lo : Nat} {w : World} {g i : Nat} {A : Option Addr} {n c : Nat} {u : Value} (hg : lo ≤ g) (h : w.cell? ⟨g, i, none⟩ = some (.slice A n c)) : SubT (Own lo w) (Own lo (w.setCell ⟨g, i, none⟩ u)) := fun p s hp => by
  rw [Own.set w (p := ⟨g, i, none⟩) hg]
  rw [cell_set_ne]
  · exact hp
  · rintro rfl
    have := (Own.cell hp).2.1
    rw [h] at this
    injection this with this
    cases this

/-- copyTerms half way: from k on the values are still those of what is copied -/
structure Half (lo : Nat) (ts : List Tm) (g cap k : Nat) (w : World) : Prop where
  ex : ∃ cur : Array Value, WB w g 41 cur ∧ cur.size = cap * 3 ∧ ∀ (j : Nat) (x : Tm), ts[j]? = some x → ∃ A c, cur[j * 3]? = some (.string x.key) ∧ cur[j * 3 + 1]? = some (.int .i64 x.kind) ∧ cur[j * 3 + 2]? = some (.slice A x.vals.length c) ∧
    x.vals.length ≤ c ∧ c ≤ maxLen ∧ (j < k → Sl RStr 1 (Typ 9 (Own lo w)) A x.vals) ∧ Sl RStr 1 w A x.vals ∧ okS x.key ∧ inI x.kind
theorem Half.more {lo : Nat} {ts : List Tm} {g cap k : Nat} {w w' : World} (h : Half lo ts g cap k w) (e : Ext w w') : Half lo ts g cap k w' := by
  obtain ⟨cur, h1, h2, h3⟩ := h.ex
  refine ⟨cur, h1.ext e, h2, fun j x hx => ?_⟩
  obtain ⟨A, c, a1, a2, a3, a4, a5, a6, a7, a8⟩ := h3 j x hx
  exact ⟨A, c, a1, a2, a3, a4, a5, fun hj => (a6 hj).ext RStr.keeps (Typ.ext (Own.ext e)), a7.ext RStr.keeps e, a8⟩
theorem Half.step {lo : Nat} {ts : List Tm} {g cap k : Nat} {w : World} (h : Half lo ts g cap k w) (hg : lo ≤ g) {x : Tm} (hx : ts[k]? = some x) {A : Option Addr} {c : Nat} (hr : Rowz RStr 9 1 lo w A c x.vals) :
    Half lo ts g cap (k + 1) (w.setCell ⟨g, k * 3 + 2, none⟩ (.slice A x.vals.length c)) := by
  obtain ⟨cur, h1, h2, h3⟩ := h.ex
  obtain ⟨A0, c0, b1, b2, b3, _⟩ := h3 k x hx
  have hk : k * 3 + 2 < cur.size := (Array.getElem?_eq_some_iff.1 b3).1
  have hc := h1.cell b3
  have hT : Typ 9 (Own lo (w.setCell ⟨g, k * 3 + 2, none⟩ (.slice A x.vals.length c))) = Typ 9 (Own lo w) := by
    rw [Own.set w (p := ⟨g, k * 3 + 2, none⟩) hg]
    exact Typ.set (p := ⟨g, k * 3 + 2, none⟩) (Own.wb h1 hg) (by decide) _
  have hT2 : SubT w (w.setCell ⟨g, k * 3 + 2, none⟩ (.slice A x.vals.length c)) := fun p s hp => by
    rw [cell_set_ne]
    · exact hp
    · rintro rfl
      rw [hc] at hp
      injection hp with hp
      cases hp
  refine ⟨_, h1.set _ _, by simpa using h2, fun j y hy => ?_⟩
  obtain ⟨B, d, a1, a2, a3, a4, a5, a6, a7, a8⟩ := h3 j y hy
  by_cases hj : j = k
  · subst hj
    obtain rfl : x = y := by rw [hx] at hy; injection hy
    obtain ⟨_, r2, r3⟩ := hr.sl
    have r1 := hr.typ (fun _ _ _ _ h => h)
    rw [← hT] at r1
    exact ⟨A, c, by rw [Array.getElem?_setIfInBounds_ne (by omega)]; exact a1, by rw [Array.getElem?_setIfInBounds_ne (by omega)]; exact a2, by simp [hk], r2, r3, fun _ => r1, r1.sub RStr.subs ((Typ.sub _ _).trans (Own.sub _ _)), a8⟩
  · exact ⟨B, d, by rw [Array.getElem?_setIfInBounds_ne (by omega)]; exact a1, by rw [Array.getElem?_setIfInBounds_ne (by omega)]; exact a2, by rw [Array.getElem?_setIfInBounds_ne (by omega)]; exact a3, a4, a5, fun h => by rw [hT]; exact a6 (by omega), a7.strT hT2, a8⟩
theorem Half.done {lo : Nat} {ts : List Tm} {g cap : Nat} {w : World} (h : Half lo ts g cap ts.length w) (hg : lo ≤ g) (h1 : ts.length ≤ cap) (h2 : cap ≤ maxLen) : Rowz RTermT 41 3 lo w (some ⟨g, 0, none⟩) cap ts := by
  obtain ⟨cur, b1, b2, b3⟩ := h.ex
  refine Rowz.of_sl b1 hg h1 h2 b2 fun j x hx => ?_
  obtain ⟨A, c, a1, a2, a3, a4, a5, a6, a7, a8, a9⟩ := b3 j x hx
  have hj : j < ts.length := (List.getElem?_eq_some_iff.1 hx).1
  refine ⟨g, 0, [.string x.key, .int .i64 x.kind, .slice A x.vals.length c], rfl, rfl, fun i u hu => ?_, A, c, rfl, a8, a9, a4, a5, a6 hj⟩
  match i, hu with
  | 0, hu => (injection hu with hu; subst hu; exact Own.cell_of b1 hg (by simpa using a1))
  | 1, hu => (injection hu with hu; subst hu; exact Own.cell_of b1 hg (by simpa using a2))
  | 2, hu => (injection hu with hu; subst hu; exact Own.cell_of b1 hg (by simpa using a3))
theorem Half.start {lo : Nat} {ts : List Tm} {g cap : Nat} {w w' : World} {cur : Array Value} {CL : List Value} (k : Cells RTerm 3 w ts CL) (e : Ext w w') (hb : WB w' g 41 cur) (h3 : cur.size = cap * 3) (ht : cur.toList.take (ts.length * 3) = CL) : Half lo ts g cap 0 w' := by
  refine ⟨cur, hb, h3, fun j x hx => ?_⟩
  have hj : j < ts.length := (List.getElem?_eq_some_iff.1 hx).1
  obtain ⟨A, c, hc, a1, a2, a3, a4, a5⟩ := k.at j x hx
  have key : ∀ i u, i < 3 → ([.string x.key, .int .i64 x.kind, .slice A x.vals.length c] : List Value)[i]? = some u → cur[j * 3 + i]? = some u := by
    intro i u hi hu
    rw [← hc, List.getElem?_take_of_lt hi, List.getElem?_drop, ← ht, List.getElem?_take_of_lt (by omega)] at hu
    simpa using hu
  exact ⟨A, c, by simpa using key 0 _ (by omega) rfl, key 1 _ (by omega) rfl, key 2 _ (by omega) rfl, a3, a4, fun h => by omega, a5.ext RStr.keeps e, a1, a2⟩

/-- what copyTerms answers -/
def CTPost (ts : List Tm) (n : Nat) (w : World) (e : Ending) (w' : World) : Prop :=
  ∃ A c, e = .returned (.slice A n c) ∧ n ≤ c ∧ c ≤ maxLen ∧ Ext w w' ∧ Rowz RTermT 41 3 w.heap.size w' A c ts

set_option maxHeartbeats 2000000 in
theorem copyTerms_any (A : Option Addr) (c : Nat) (ts : List Tm) (n : Nat) (w : World) (hn : ts.length = n) (hx : Sl RTerm 3 w A ts) (hb : n * 48 ≤ 140737488355328) (hv : ∀ t ∈ ts, t.vals.length * 16 ≤ 140737488355328) :
    Calls Tryz.prog 75 #[.slice A n c] w (CTPost ts n w) := by
  obtain ⟨CL, kl, fl⟩ := hx.cells
  have OL := Lib.hid (kl.oneCell RTerm.one)
  have KL := Lib.hid kl
  rw [hn] at fl
  have FL := Lib.hid fl
  have HN := Lib.hid hn
  have HV := Lib.hid hv
  clear hx kl fl hn hv
  go_enter Tryz.func75, Tryz.ntmps75
  go_wp2_with fail
  refine (cl_term A n c CL w FL.out OL.out hb).mono ?_
  rintro e w1 ⟨v, rfl, o1, e1⟩
  rcases o1.2 with ⟨rfl, h0⟩ | ⟨g, cap, cur, rfl, hg, hh, hc1, hc2, hc3, ht⟩
  · have FIN : Hid (CTPost ts n w (.returned (.slice none 0 0)) w1) := by
      have h00 : ts = [] := List.eq_nil_of_length_eq_zero (by rw [HN.out]; exact h0)
      refine ⟨none, 0, by rw [h0], by omega, by simp [maxLen], e1, ?_⟩
      rw [h00]
      exact ⟨[], ⟨by simp, .inl ⟨rfl, rfl⟩⟩, .nil⟩
    clear o1 e1 KL FL OL HV HN
    subst h0
    go_wp2_with fail
    go_loopw [9] (fun i wr => i = .int .i64 0 ∧ wr = w1) (fun i _ => 0)
    case atStart => exact ⟨rfl, rfl⟩
    obtain ⟨rfl, rfl⟩ := hrel
    go_wp2_with fail
    go_ret
    exact FIN.out
  · have H0 : Hid (Half w.heap.size ts g cap 0 w1) := Half.start KL.out e1 hh hc3 (by rw [HN.out]; exact ht)
    have E1 := Lib.hid e1
    have HG := Lib.hid hg
    have HC1 := Lib.hid hc1
    have HC2 := Lib.hid hc2
    unfold maxLen at hc2
    clear o1 hh hc3 ht e1 hg KL FL OL
    go_wp2_with fail
    go_loopw [9] (fun i wr => ∃ k : Nat, k ≤ n ∧ i = .int .i64 k ∧ Ext w wr ∧ Half w.heap.size ts g cap k wr) (fun i _ => n - (intOf i).toNat)
    case atStart => exact ⟨0, by omega, rfl, E1.out, H0.out⟩
    obtain ⟨k, hk, rfl, he, hH⟩ := hrel
    have EE := Lib.hid he
    have HH := Lib.hid hH
    clear he hH H0
    by_cases hlt : k < n
    · obtain ⟨x, hxk⟩ := get_of (xs := ts) (k := k) (by rw [HN.out]; exact hlt)
      obtain ⟨cur', b1, b2, b3⟩ := HH.out.ex
      obtain ⟨B, d, q1, q2, q3, q4, q5, q6, q7, q8⟩ := b3 k x hxk
      have c2 := b1.cell q3
      obtain ⟨m, hm⟩ : ∃ m, x.vals.length = m := ⟨_, rfl⟩
      obtain ⟨SL, ks, fs⟩ := q7.cells
      rw [hm] at fs
      rw [hm] at c2
      have HM := Lib.hid hm
      have HB : Hid (m * 16 ≤ 140737488355328) := by show _ ≤ _; rw [← hm]; exact HV.out x (List.mem_of_getElem? hxk)
      have FS := Lib.hid fs
      have OS := Lib.hid (ks.oneCell RStr.one)
      have KS : Hid (∀ W, Cells RStr 1 W x.vals SL) := fun W => ks.any fun _ _ _ _ h => h
      have HX := Lib.hid hxk
      have WF : Hid (∀ wx, Ext wr wx → WB wx g 41 cur') := fun wx e => b1.ext e
      have Q3 := Lib.hid q3
      clear b1 b2 b3 q1 q2 q3 q4 q5 q6 q7 q8 fs ks hxk hm
      go_wp2_with fail
      refine (cl_str B m d SL wr FS.out OS.out HB.out).mono ?_
      rintro e w2 ⟨v, rfl, o2, e2⟩
      obtain ⟨A2, c2', rfl, l2, m2, r2⟩ := cl_rows RStr.keeps HM.out KS.out o2
      have R2 : Hid (Rowz RStr 9 1 w.heap.size w2 A2 c2' x.vals) := r2.low RStr.subs EE.out.size
      have E2 := Lib.hid e2
      have z := (WF.out _ e2).cell Q3.out
      have f := (WF.out _ e2).fr (k * 3 + 2)
      have NX : Hid (Half w.heap.size ts g cap (k + 1) (w2.setCell ⟨g, k * 3 + 2, none⟩ (.slice A2 m c2'))) := by
        have := (HH.out.more e2).step HG.out HX.out R2.out
        rw [HM.out] at this
        exact this
      have EX : Hid (Ext w (w2.setCell ⟨g, k * 3 + 2, none⟩ (.slice A2 m c2'))) := (EE.out.trans e2).setCell HG.out _
      clear o2 r2 e2
      go_wp2_with fail
      go_roundw
      case rel => exact ⟨k + 1, by omega, by go_num, EX.out, NX.out⟩
      case measure => simp [intOf]; omega
    · have FIN : Hid (CTPost ts n w (.returned (.slice (some ⟨g, 0, none⟩) n cap)) wr) := by
        obtain rfl : k = n := by omega
        have h1 := HH.out
        rw [← HN.out] at h1
        exact ⟨_, cap, rfl, HC1.out, HC2.out, EE.out, h1.done HG.out (by rw [HN.out]; exact HC1.out) HC2.out⟩
      go_wp2_with fail
      go_ret
      exact FIN.out
end Go.Proofs.YthfafenigjldlaaGreat
