/-
  The walks of package code: PutLease.
-/
import Derived.Test.YthfafenigjldlaaPut2
namespace Go.Proofs.Ythfafenigjldlaa
open Go.RowKit
set_option linter.unusedVariables false

def leaseOk (k n : Int) : Bool := decide (0 ≤ k) && decide (k ≤ 7) && decide (1 ≤ n) && decide (n ≤ 1099511627776)
def leaseB (k n : Int) : List UInt8 := numB 3 1 ++ numB k.toNat 1 ++ numB n.toNat 8
def putLeaseB (k n : Int) : List UInt8 := if leaseOk k n then leaseB k n else []

theorem Wr.new (w : World) : Wr w.heap.size (w.alloc (.cells (newC [.slice none 0 0]) 96)) w.heap.size false [] :=
  ⟨Nat.le_refl _, _, _, WB.new _ _ _, newC_tab _, newC_at _ 0, rfl, .inl ⟨rfl, rfl⟩⟩
theorem own_base {w : World} {base base' : Nat} {T : TypeId} {size n : Nat} {v : Value} {xs : List Value} (h : w.ownsRow base T size v n xs) (hb : base' ≤ base) : w.ownsRow base' T size v n xs := by
  refine ⟨h.1, ?_⟩
  rcases h.2 with h | ⟨g', cap, cur, rfl, hg', r⟩
  · exact .inl h
  · exact .inr ⟨g', cap, cur, rfl, by omega, r⟩
theorem cl_nil (w w' : World) (he : Ext w w') : ClPost 5 1 (([] : List UInt8)).length (([] : List UInt8).map byV) w (.returned (.slice none 0 0)) w' := ⟨_, rfl, ⟨rfl, .inl ⟨rfl, rfl⟩⟩, he⟩

set_option maxRecDepth 100000 in
set_option maxHeartbeats 1000000 in
theorem putLease_any (k n : Int) (w : World) (hk : inI k) (hn : inI n) :
    Calls Try.prog 22 #[.agg #[.int .i64 k, .int .i64 n]] w (ClPost 5 1 (putLeaseB k n).length ((putLeaseB k n).map byV) w) := by
  have B := boxed w [.int .i64 k, .int .i64 n] 62
  have k0 := B 0 _ rfl
  have k1 := B 1 _ rfl
  have he := boxedExt w [.int .i64 k, .int .i64 n] 62
  clear B
  obtain ⟨W1, hW⟩ : ∃ W1, w.alloc (.cells #[.int .i64 k, .int .i64 n] 62) = W1 := ⟨_, rfl⟩
  rw [show (w.alloc (.cells ([.int .i64 k, .int .i64 n] : List Value).toArray 62)) = W1 from hW] at k0 k1 he
  have HE := Lib.hid he
  have E : Ext W1 W1 := Ext.refl _
  clear he
  by_cases hok : leaseOk k n = true
  · have hb : putLeaseB k n = leaseB k n := by unfold putLeaseB; rw [if_pos hok]
    rw [hb]
    simp only [leaseOk, Bool.and_eq_true, decide_eq_true_eq] at hok
    obtain ⟨⟨⟨o1, o2⟩, o3⟩, o4⟩ := hok
    clear hb
    go_enter Try.func22, Try.ntmps22
    go_wp2_with (first
      | (refine wpList_value (o := ⟨some 3, _, _, _, _, _⟩) rfl (v := .pointer (some ⟨W1.heap.size, 0, none⟩)) (w' := W1.alloc (.cells (newC [.slice none 0 0]) 96)) (by kernel_rfl) ?_
         simp only [Act.put, List.setIfInBounds_toArray, List.set_cons_succ, List.set_cons_zero]))
    refine (wNumI W1.heap.size W1.heap.size false [] 3 1 _ (by omega) (by omega) (by omega) (by omega) (by simp) (Wr.new W1)).mono ?_
    rintro e w2 ⟨rfl, b2, r2⟩
    replace E : Ext W1 w2 := Below.trans ((Ext.refl W1).alloc _) b2.below
    clear b2
    go_wp2_with fail
    refine (wNumI W1.heap.size W1.heap.size false _ _ 1 _ (by omega) (by omega) (by omega) (by omega) (by rw [List.length_append, numB_len]; simp) r2).mono ?_
    rintro e w3 ⟨rfl, b3, r3⟩
    replace E : Ext W1 w3 := Below.trans E b3.below
    clear b3
    go_wp2_with fail
    refine (wNumI W1.heap.size W1.heap.size false _ _ 8 _ (by omega) (by omega) (by omega) (by omega) (by rw [List.length_append, List.length_append, numB_len, numB_len]; simp) r3).mono ?_
    rintro e w4 ⟨rfl, b4, r4⟩
    replace E : Ext W1 w4 := Below.trans E b4.below
    clear b4
    have r5 : Wr W1.heap.size w4 W1.heap.size false (leaseB k n) := by simpa [leaseB] using r4
    have hlen : (leaseB k n).length ≤ 1000000 := by simp [leaseB, numB_len]
    clear r4
    go_wp2_with fail
    refine (wBytes_any _ _ _ _ _ hlen r5).mono ?_
    rintro e w5 ⟨v, rfl, h1, h2⟩
    have hsz := Nat.le_trans HE.out.size E.size
    have HF := Lib.hid (own_base h1 hsz)
    have H2 := Lib.hid (HE.out.trans (E.trans h2))
    clear h1 h2
    go_wp2_with fail
    go_ret
    exact ⟨v, rfl, HF.out, H2.out⟩
  · have hb : putLeaseB k n = [] := by unfold putLeaseB; rw [if_neg hok]
    rw [hb]
    have HOK : Hid (¬ leaseOk k n = true) := hok
    clear hok hb
    by_cases h1 : k < 0
    · go_enter Try.func22, Try.ntmps22
      go_wp2_with fail
      go_ret
      exact cl_nil _ _ (HE.out.trans E)
    by_cases h2 : 7 < k
    · go_enter Try.func22, Try.ntmps22
      go_wp2_with fail
      go_ret
      exact cl_nil _ _ (HE.out.trans E)
    by_cases h3 : n < 1
    · go_enter Try.func22, Try.ntmps22
      go_wp2_with fail
      go_ret
      exact cl_nil _ _ (HE.out.trans E)
    by_cases h4 : 1099511627776 < n
    · go_enter Try.func22, Try.ntmps22
      go_wp2_with fail
      go_ret
      exact cl_nil _ _ (HE.out.trans E)
    exact absurd (by simp [leaseOk]; omega) HOK.out
end Go.Proofs.Ythfafenigjldlaa
