/-
  CodeRoom: the pod and the node that it builds (plain).
-/
import Derived.Test.YthfafenigjldlaaGreatRoom
import Derived.Test.YthfafenigjldlaaGreatDec3
import Derived.Test.YthfafenigjldlaaGreatAny1
namespace Go.Proofs.YthfafenigjldlaaGreat
open Go.RowKit
set_option linter.unusedVariables false

def litS : ByteArray := ⟨#[97, 98, 99, 100, 101, 102, 103, 104, 105, 106, 107, 108]⟩
def longS (k : Nat) : ByteArray := litS.extract 0 k
def keyR (k i : Nat) : ByteArray := ⟨#[UInt8.ofNat (97 + i)]⟩ ++ (longS k).extract 0 (min k 11)
def valsR (k : Nat) : List ByteArray := List.replicate 6 (longS k)
def capR : Rs := ⟨1000000000, 1000000000, 1000000000⟩
def roomP (k i : Nat) : Pd :=
  { name := longS k, uid := 1099511627776, prio := 1000, req := capR, ports := (List.range i).map fun (j : Nat) => 60000 + (j : Int), labels := (List.range i).map fun j => ⟨keyR k j, longS k⟩, sel := (List.range i).map fun j => ⟨keyR k j, 1, valsR k⟩,
    tols := (List.range i).map fun j => ⟨keyR k j, longS k, false⟩, topo := longS k, anti := (List.range i).map fun j => ⟨keyR k j, 2, valsR k⟩, skew := 10, even := (List.range i).map fun j => ⟨keyR k j, 1, valsR k⟩, node := longS k, term := 1099511627776 }
def roomN (k i : Nat) : Nd :=
  { name := longS k, cap := capR, labels := (List.range i).map fun j => ⟨keyR k j, longS k⟩, taints := (List.range i).map fun j => ⟨keyR k j, longS k⟩ }
def roomB (k i : Nat) : Bool := (mayPodB (roomP k i) == decide (i ≤ 6)) && (mayNodeB (roomN k i) == decide (i ≤ 6))
theorem room_all : ((List.range 12).all fun k => (List.range 8).all fun i => roomB (k + 1) i) = true := by decide +kernel
theorem room_may {k i : Nat} (h1 : 1 ≤ k) (h2 : k ≤ 12) (h3 : i < 8) : mayPodB (roomP k i) = decide (i ≤ 6) ∧ mayNodeB (roomN k i) = decide (i ≤ 6) := by
  have h := List.all_eq_true.1 (List.all_eq_true.1 room_all (k - 1) (by simp; omega)) i (by simp; omega)
  rw [show k - 1 + 1 = k by omega] at h
  unfold roomB at h
  simp only [Bool.and_eq_true, beq_iff_eq] at h
  exact h
theorem long_len : ((List.range 13).all fun k => decide ((longS k).size = k)) = true := by decide +kernel
theorem longS_size {k : Nat} (h : k ≤ 12) : (longS k).size = k := by
  have := List.all_eq_true.1 long_len k (by simp; omega)
  exact of_decide_eq_true this
theorem longS_ok {k : Nat} (h : k ≤ 12) : okS (longS k) := by show _ ≤ _; rw [longS_size h]; unfold maxLen; omega
theorem key_len : ((List.range 13).all fun k => (List.range 8).all fun i => decide ((keyR k i).size ≤ 12)) = true := by decide +kernel
theorem keyS_ok {k i : Nat} (h : k ≤ 12) (hi : i < 8) : okS (keyR k i) := by
  have := of_decide_eq_true (List.all_eq_true.1 (List.all_eq_true.1 key_len k (by simp; omega)) i (by simp; omega))
  show _ ≤ _
  unfold maxLen
  omega
theorem roomP_succ (k i : Nat) : roomP k (i + 1) = { roomP k i with ports := (roomP k i).ports ++ [60000 + (i : Int)], labels := (roomP k i).labels ++ [⟨keyR k i, longS k⟩], sel := (roomP k i).sel ++ [⟨keyR k i, 1, valsR k⟩], tols := (roomP k i).tols ++ [⟨keyR k i, longS k, false⟩], anti := (roomP k i).anti ++ [⟨keyR k i, 2, valsR k⟩], even := (roomP k i).even ++ [⟨keyR k i, 1, valsR k⟩] } := by simp [roomP, List.range_succ]
theorem roomN_succ (k i : Nat) : roomN k (i + 1) = { roomN k i with labels := (roomN k i).labels ++ [⟨keyR k i, longS k⟩], taints := (roomN k i).taints ++ [⟨keyR k i, longS k⟩] } := by simp [roomN, List.range_succ]
theorem roomP_scal {k i : Nat} (h : k ≤ 12) : PodScal (roomP k i) := by
  have l := longS_ok h
  refine ⟨l, ?_, ?_, ⟨?_, ?_, ?_⟩, l, ?_, l, ?_⟩ <;> (show inI _; unfold inI; simp [roomP, capR])
theorem key_eq (K j : Nat) : strOfNums [(97 : Int) + (j : Int)] ++ (longS K).extract 0 (min K 11) = keyR K j := by
  unfold keyR strOfNums
  have e : ((97 : Int) + (j : Int)).toNat = 97 + j := by omega
  simp [e]
theorem tmod_bdR (a : Int) (n : Nat) (h : 0 < n) : -(n : Int) < a.tmod n ∧ a.tmod n < n := by
  have h1 := Int.tmod_lt_of_pos a (show (0 : Int) < n by omega)
  have h2 := Int.tmod_lt_of_pos (-a) (show (0 : Int) < n by omega)
  rw [Int.neg_tmod] at h2
  omega
/-- an index brought within bounds, as Go reckons it -/
theorem mod_idxR (a : Int) (n : Nat) (h : 0 < n) : ∃ k : Nat, k < n ∧ -(n : Int) < a.tmod n ∧ a.tmod n < n ∧ (a.tmod n + n).tmod n = (k : Int) := by
  obtain ⟨h1, h2⟩ := tmod_bdR a n h
  refine ⟨((a.tmod n + n) % n).toNat, ?_, h1, h2, ?_⟩
  · have := Int.emod_lt_of_pos (a.tmod n + n) (show (0 : Int) < n by omega)
    have := Int.emod_nonneg (a.tmod n + n) (show (n : Int) ≠ 0 by omega)
    omega
  · rw [Int.tmod_eq_emod_of_nonneg (by omega)]
    have := Int.emod_nonneg (a.tmod n + n) (show (n : Int) ≠ 0 by omega)
    omega
/-- the bytes -/
theorem room_bytes {k i : Nat} (h1 : 1 ≤ k) (h2 : k ≤ 12) (h3 : i ≤ 6) : 0 < (putPodB (roomP k i)).length ∧ 0 < (putNodeB (roomN k i)).length ∧ podG (putPodB (roomP k i)) = true ∧ podOut (putPodB (roomP k i)) = roomP k i := by
  obtain ⟨a, b⟩ := room_may h1 h2 (show i < 8 by omega)
  rw [decide_eq_true h3] at a b
  obtain ⟨c, d⟩ := pod_back a (by show inI _; unfold inI; simp [roomP])
  obtain ⟨e, f⟩ := node_back b
  refine ⟨?_, ?_, c, d⟩
  · rcases Nat.eq_zero_or_pos (putPodB (roomP k i)).length with h | h
    · rw [List.eq_nil_of_length_eq_zero h, podG_nil] at c; cases c
    · exact h
  · rcases Nat.eq_zero_or_pos (putNodeB (roomN k i)).length with h | h
    · rw [List.eq_nil_of_length_eq_zero h, nodG_nil] at e; cases e
    · exact h
theorem putNodeB_no' {p : Nd} (h : mayNodeB p = false) : putNodeB p = [] := by rw [putNodeB, if_neg (by rw [h]; decide)]
theorem room_none {k : Nat} (h1 : 1 ≤ k) (h2 : k ≤ 12) : (putPodB (roomP k 7)).length = 0 ∧ (putNodeB (roomN k 7)).length = 0 := by
  obtain ⟨a, b⟩ := room_may h1 h2 (show 7 < 8 by omega)
  rw [decide_eq_false (by omega)] at a b
  rw [putPodB_no a, putNodeB_no' b]
  exact ⟨rfl, rfl⟩
theorem cop_none (w : World) (T : TypeId) (size : Nat) : Cop w w T size none 0 0 [] := ⟨Ext.refl _, _, Nat.le_refl _, Nat.le_refl _, nil_own w w.heap.size T size⟩
theorem cells_strs (w : World) (xs : List ByteArray) (h : ∀ x ∈ xs, okS x) : Cells RStr 1 w xs (xs.map Value.string) := by
  induction xs with
  | nil => exact .nil
  | cons x r ih => exact Cells.cons (cs := [.string x]) (show RStr w [.string x] x from ⟨rfl, h x (by simp)⟩) rfl (ih fun y hy => h y (by simp [hy]))
theorem rep_succ (L : ByteArray) (j : Nat) : List.replicate (j + 1) (Value.string L) = List.replicate j (Value.string L) ++ [Value.string L] := by
  rw [List.replicate_succ', ]
/-- the values' row, as one's own -/
theorem cop_rowz {wa w : World} {A : Option Addr} {c : Nat} {L : ByteArray} (h : Cop wa w 9 1 A 6 c (List.replicate 6 (.string L))) (hL : okS L) : Rowz RStr 9 1 wa.heap.size w A c (List.replicate 6 L) := by
  obtain ⟨e0, base, b1, b2, o⟩ := h
  refine ⟨List.replicate 6 (.string L), own_low b1 (by simpa using o), ?_⟩
  have := cells_strs (Own wa.heap.size w) (List.replicate 6 L) (fun x hx => by rw [List.eq_of_mem_replicate hx]; exact hL)
  simpa using this
theorem rowz_nil {α : Type} (R : World → List Value → α → Prop) (T : TypeId) (size lo : Nat) (w : World) : Rowz R T size lo w none 0 [] := ⟨[], ⟨by simp, .inl ⟨rfl, rfl⟩⟩, .nil⟩
theorem room_own0 (K lo : Nat) (w : World) : PodOwn lo w (roomP K 0) q0 :=
  ⟨rowz_nil _ _ _ _ _, rowz_nil _ _ _ _ _, rowz_nil _ _ _ _ _, rowz_nil _ _ _ _ _, rowz_nil _ _ _ _ _, rowz_nil _ _ _ _ _, (fun _ _ h => by cases h), (fun _ _ h => by cases h), (fun _ _ h => by cases h)⟩
theorem room_nown0 (K lo : Nat) (w : World) : NodeOwn lo w (roomN K 0) ⟨none, 0, none, 0⟩ := ⟨rowz_nil _ _ _ _ _, rowz_nil _ _ _ _ _⟩
end Go.Proofs.YthfafenigjldlaaGreat
