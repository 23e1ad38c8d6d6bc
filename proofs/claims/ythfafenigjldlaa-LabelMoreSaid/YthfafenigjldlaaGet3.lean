/-
  The walk of package code's getPairs.
-/
import Derived.Test.YthfafenigjldlaaGet2
namespace Go.Proofs.Ythfafenigjldlaa
open Go.RowKit
set_option linter.unusedVariables false

def pairC (xs : List Pr) : List Value := xs.flatMap fun x => [.string x.key, .string x.val]
theorem pairC_len (xs : List Pr) : (pairC xs).length = xs.length * 2 := by
  induction xs with
  | nil => rfl
  | cons x r ih => simp only [pairC, List.flatMap_cons, List.length_append, List.length_cons, List.length_nil] at ih ⊢; omega
def GotPost (T : TypeId) (size n : Nat) (cells : List Value) (g : Nat) (bs : List UInt8) (bad : Bool) (w : World) (e : Ending) (w' : World) : Prop :=
  ∃ v, e = .returned v ∧ w'.ownsRow w.heap.size T size v n cells ∧ Keep (fun k => k = g) w w' ∧ Rd w' g true bs bad
theorem pair_info : (Try.prog.info? 34).map (fun i => (i.zero, i.size, i.bytes)) = some (some (.agg #[.string ⟨#[]⟩, .string ⟨#[]⟩]), 2, 32) := by kernel_rfl

theorem num1_range (bs : List UInt8) (bad : Bool) : 0 ≤ (numF 1 bs bad).1 ∧ (numF 1 bs bad).1 ≤ 255 := by
  unfold numF
  split
  · simp
  · have h := numVal_lt (bs.take 1)
    have h1 : (bs.take 1).length ≤ 1 := by rw [List.length_take]; omega
    have h2 : numVal (bs.take 1) < 256 := Nat.lt_of_lt_of_le h (Nat.le_trans (Nat.pow_le_pow_right (by omega) h1) (by omega))
    show 0 ≤ valI _ ∧ valI _ ≤ 255
    unfold valI
    rw [IntWalk.i64_in _ (by omega)]
    omega
theorem count1_range (bs : List UInt8) (bad : Bool) : 0 ≤ (countF 1 bs bad).1 ∧ (countF 1 bs bad).1 ≤ 255 := by
  unfold countF
  split
  · simp
  · exact num1_range bs bad
theorem pairsFrom_len (k : Nat) (bs : List UInt8) (bad : Bool) : (pairsFrom k bs bad).1.length = k := by
  induction k with
  | zero => rfl
  | succ k ih => simp [pairsFrom, ih]

theorem Keep.grownNew {S : Nat → Prop} {a w w' : World} {size n : Nat} {T : TypeId} {v : Value} {xs : List Value} (h : Keep S a w) (hown : w.ownsRow a.heap.size T size v n xs) (hg : w.grownBy w' v.ownBlock) : Keep S a w' := by
  refine ⟨hg.os.trans h.os, hg.tape.trans h.tape, hg.output.trans h.output, Nat.le_trans h.size hg.size, fun k hk hs => (hg.block k (Nat.lt_of_lt_of_le hk h.size) (fun e => ?_)).trans (h.block k hk hs)⟩
  rcases hown.2 with ⟨rfl, _⟩ | ⟨g', cap, cur, rfl, hg', _⟩
  · simp [Value.ownBlock] at e
  · simp [Value.ownBlock] at e; omega

set_option maxHeartbeats 1000000 in
theorem getPair_any (g : Nat) (bs : List UInt8) (bad : Bool) (w : World) (hr : Rd w g true bs bad) :
    Calls Try.prog 47 #[.pointer (some ⟨g, 0, none⟩), .func (.func 48) #[] #[]] w (GotPost 34 2 (pairsF bs bad).1.length (pairC (pairsF bs bad).1) g (pairsF bs bad).2.1 (pairsF bs bad).2.2 w) := by
  obtain ⟨i0, hi0, hz0, hz1, hz2⟩ := info_parts pair_info
  have hg := hr.lt
  have HG := Lib.hid hg
  have hc := count1_range bs bad
  obtain ⟨n, hn⟩ := Int.eq_ofNat_of_zero_le hc.1
  rw [hn] at hc
  have HP : Hid (pairsF bs bad = pairsFrom n (countF 1 bs bad).2.1 (countF 1 bs bad).2.2) := by show _ = _; unfold pairsF; rw [hn]; rfl
  have hn9 : n ≤ 255 := by omega
  have HNN := Lib.hid hn
  clear hn hc hg
  rw [HP.out]
  obtain ⟨cs, hcs⟩ : ∃ c, c = (countF 1 bs bad).2.1 := ⟨_, rfl⟩
  obtain ⟨bd, hbd⟩ : ∃ c, c = (countF 1 bs bad).2.2 := ⟨_, rfl⟩
  rw [← hcs, ← hbd]
  have HCS := Lib.hid hcs
  have HBD := Lib.hid hbd
  clear hcs hbd
  go_enter Try.func47, Try.ntmps47
  go_wp2_with fail
  refine (rdCount_any g true bs bad 1 _ (by omega) (by omega) hr).mono ?_
  rintro e w1 ⟨rfl, k1, r1⟩
  have r2 : Rd w1 g true cs bd := by rw [HCS.out, HBD.out]; exact r1
  rw [show (countF (1 : Int).toNat bs bad).1 = (n : Int) from HNN.out]
  clear r1 hr
  go_wp2_with fail
  go_loopw [5, 10] (fun v i wr => ∃ k : Nat, k ≤ n ∧ i = .int .i64 k ∧ Keep (fun k => k = g) w wr ∧ wr.ownsRow w.heap.size 34 2 v k (pairC (pairsFrom k cs bd).1) ∧ Rd wr g true (pairsFrom k cs bd).2.1 (pairsFrom k cs bd).2.2) (fun _ i _ => n - (intOf i).toNat)
  case atStart => exact ⟨0, by omega, rfl, k1, ⟨rfl, .inl ⟨rfl, rfl⟩⟩, r2⟩
  case round =>
    obtain ⟨k, hk, rfl, hkp, hown, hrd⟩ := hrel
    by_cases hlt : k < n
    · go_wp2_with fail
      refine (rdName_any g true _ _ _ hrd).mono ?_
      rintro e w2 ⟨rfl, k2, r3⟩
      go_wp2_with fail
      refine (rdName_any g true _ _ _ r3).mono ?_
      rintro e w3 ⟨rfl, k3, r4⟩
      go_wp2_with fail
      refine (toPair_any _ _ _).mono ?_
      rintro e w4 ⟨rfl, e4⟩
      have ho4 := own_ext (own_keep (own_keep hown k2 HG.out) k3 HG.out) e4
      have HO4 := Lib.hid (fun o => ho4.alloc o)
      have hbs : w.heap.size ≤ w4.heap.size := Nat.le_trans hkp.size (Nat.le_trans k2.size (Nat.le_trans k3.size e4.size))
      go_wp2_with (first
        | (refine wpList_append_lies _ rfl (.tmp 16) (.tmp 21) 25 rfl w.heap.size 34 i0 _ 2 32 Try.underlying25 hi0 hz0 hz1 hz2 rfl (by decide) _ _ _ rfl (HO4.out _) ⟨w4.heap.size, 0, none⟩ 1 1 [_, _] rfl rfl (World.news_of_block (heap_alloc_new w4 _)) (by simp [Value.oneCell']) (by decide) (by unfold maxLen; omega) (by omega) (by simp; omega) _ rfl ?_
           intro gg cap w5 hown5 hgrow hat hlt5))
      have K5 := Lib.hid (Keep.grownNew (((hkp.trans (k2.trans k3)).trans (Keep.ext e4)).alloc _) (HO4.out _) hgrow)
      have R5 := Lib.hid (Rd.grown ((r4.other e4).other ((Ext.refl _).alloc _)) (HO4.out _) hgrow (by decide) (by decide))
      have O5 := Lib.hid hown5
      clear hown5 hgrow hat hlt5 hkp k2 k3 e4 r4 r3 hrd hown ho4
      go_roundw
      case rel => exact ⟨k + 1, by omega, by go_num, K5.out, by simpa [pairsFrom, pairC] using O5.out, by simpa [pairsFrom] using R5.out⟩
      case measure => simp [intOf]; omega
    · obtain rfl : k = n := by omega
      have FIN : Hid (GotPost 34 2 (pairsFrom k cs bd).1.length (pairC (pairsFrom k cs bd).1) g (pairsFrom k cs bd).2.1 (pairsFrom k cs bd).2.2 w (.returned _) wr) := ⟨_, rfl, by rw [pairsFrom_len]; exact hown, hkp, hrd⟩
      clear hkp hown hrd
      go_wp2_with fail
      go_ret
      exact FIN.out
end Go.Proofs.Ythfafenigjldlaa
