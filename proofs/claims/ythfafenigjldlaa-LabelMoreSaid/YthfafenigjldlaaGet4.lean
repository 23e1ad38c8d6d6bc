/-
  The walk of package code's getTerms: first, rows of strings that stay, and the plain functions.
-/
import Derived.Test.YthfafenigjldlaaGet3
namespace Go.Proofs.Ythfafenigjldlaa
open Go.RowKit
set_option linter.unusedVariables false

/-- a row of strings that lies in a block of strings, apart from g -/
def StrRow (g : Nat) (w : World) (A : Option Addr) (vals : List ByteArray) : Prop :=
  0 < vals.length → ∃ b cur, A = some ⟨b, 0, none⟩ ∧ b ≠ g ∧ w.heap[b]? = some (.cells cur 9 (0, 0)) ∧ cur.toList.take vals.length = vals.map .string
theorem heap_lt {w : World} {b : Nat} {o : Obj} (h : w.heap[b]? = some o) : b < w.heap.size := by
  rcases Nat.lt_or_ge b w.heap.size with hl | hl
  · exact hl
  · rw [Array.getElem?_eq_none hl] at h; cases h
theorem StrRow.keep {g : Nat} {w w' : World} {A : Option Addr} {vals : List ByteArray} (h : StrRow g w A vals) (hk : Keep (fun k => k = g) w w') : StrRow g w' A vals := by
  intro h0
  obtain ⟨b, cur, e, hb, hh, ht⟩ := h h0
  exact ⟨b, cur, e, hb, (hk.block b (heap_lt hh) hb).trans hh, ht⟩
theorem StrRow.ext {g : Nat} {w w' : World} {A : Option Addr} {vals : List ByteArray} (h : StrRow g w A vals) (hk : Ext w w') : StrRow g w' A vals := by
  intro h0
  obtain ⟨b, cur, e, hb, hh, ht⟩ := h h0
  exact ⟨b, cur, e, hb, (hk.block b (heap_lt hh)).trans hh, ht⟩
theorem StrRow.grown {g base size n : Nat} {w w' : World} {T : TypeId} {v : Value} {xs : List Value} {A : Option Addr} {vals : List ByteArray} (h : StrRow g w A vals) (hown : w.ownsRow base T size v n xs) (hg : w.grownBy w' v.ownBlock) (hT : T ≠ 9) : StrRow g w' A vals := by
  intro h0
  obtain ⟨b, cur, e, hb, hh, ht⟩ := h h0
  have hw : WB w b 9 cur := hh
  exact ⟨b, cur, e, hb, hw.grown hg (own_ne hown hw hT), ht⟩
theorem StrRow.sl {g : Nat} {w : World} {A : Option Addr} {vals : List ByteArray} (h : StrRow g w A vals) (hok : ∀ s ∈ vals, okS s) : Sl RStr 1 w A vals := by
  intro k x hx
  have hk : k < vals.length := (List.getElem?_eq_some_iff.1 hx).1
  obtain ⟨b, cur, e, hb, hh, ht⟩ := h (by omega)
  have hu : (vals.map Value.string)[k]? = some (.string x) := by rw [List.getElem?_map, hx]; rfl
  rw [← ht, List.getElem?_take_of_lt hk] at hu
  refine ⟨b, 0, [.string x], e, rfl, fun j u hj => ?_, rfl, hok x (List.mem_of_getElem? hx)⟩
  match j, hj with
  | 0, hj =>
    obtain rfl : Value.string x = u := by simpa using hj
    simp only [World.cell?, hh]
    simpa using hu

/-- so many names, one after another -/
def valsFrom : Nat → List UInt8 → Bool → List ByteArray × List UInt8 × Bool
  | 0, bs, bad => ([], bs, bad)
  | k + 1, bs, bad =>
    let r := valsFrom k bs bad
    let a := nameFR r.2.1 r.2.2
    (r.1 ++ [a.1], a.2)
theorem valsFrom_len (k : Nat) (bs : List UInt8) (bad : Bool) : (valsFrom k bs bad).1.length = k := by
  induction k with
  | zero => rfl
  | succ k ih => simp [valsFrom, ih]
/-- one term -/
def termF (bs : List UInt8) (bad : Bool) : Tm × List UInt8 × Bool :=
  let a := nameFR bs bad
  let b := numF 1 a.2.1 a.2.2
  let c := countF 1 b.2.1 b.2.2
  let d := valsFrom c.1.toNat c.2.1 c.2.2
  (⟨a.1, b.1, d.1⟩, d.2)
def termsFrom : Nat → List UInt8 → Bool → List Tm × List UInt8 × Bool
  | 0, bs, bad => ([], bs, bad)
  | k + 1, bs, bad =>
    let r := termsFrom k bs bad
    let a := termF r.2.1 r.2.2
    (r.1 ++ [a.1], a.2)
theorem termsFrom_len (k : Nat) (bs : List UInt8) (bad : Bool) : (termsFrom k bs bad).1.length = k := by
  induction k with
  | zero => rfl
  | succ k ih => simp [termsFrom, ih]
def termsF (bs : List UInt8) (bad : Bool) : List Tm × List UInt8 × Bool := termsFrom (countF 1 bs bad).1.toNat (countF 1 bs bad).2.1 (countF 1 bs bad).2.2

/-- cells that hold terms; each term's values lie in a row that stays -/
def TermRow (g : Nat) (w : World) (cs : List Value) (xs : List Tm) : Prop :=
  cs.length = xs.length * 3 ∧ ∀ (i : Nat) (x : Tm), xs[i]? = some x → ∃ A c, cs[i * 3]? = some (.string x.key) ∧ cs[i * 3 + 1]? = some (.int .i64 x.kind) ∧ cs[i * 3 + 2]? = some (.slice A x.vals.length c) ∧
    x.vals.length ≤ c ∧ c ≤ maxLen ∧ StrRow g w A x.vals
theorem TermRow.nil (g : Nat) (w : World) : TermRow g w [] [] := ⟨rfl, fun i x h => by simp at h⟩
theorem TermRow.keep {g : Nat} {w w' : World} {cs : List Value} {xs : List Tm} (h : TermRow g w cs xs) (hk : Keep (fun k => k = g) w w') : TermRow g w' cs xs :=
  ⟨h.1, fun i x hx => by obtain ⟨A, c, h1, h2, h3, h4, h5, h6⟩ := h.2 i x hx; exact ⟨A, c, h1, h2, h3, h4, h5, h6.keep hk⟩⟩
theorem TermRow.ext {g : Nat} {w w' : World} {cs : List Value} {xs : List Tm} (h : TermRow g w cs xs) (hk : Ext w w') : TermRow g w' cs xs :=
  ⟨h.1, fun i x hx => by obtain ⟨A, c, h1, h2, h3, h4, h5, h6⟩ := h.2 i x hx; exact ⟨A, c, h1, h2, h3, h4, h5, h6.ext hk⟩⟩
theorem TermRow.grown {g base size n : Nat} {w w' : World} {T : TypeId} {v : Value} {ys : List Value} {cs : List Value} {xs : List Tm} (h : TermRow g w cs xs) (hown : w.ownsRow base T size v n ys) (hg : w.grownBy w' v.ownBlock) (hT : T ≠ 9) : TermRow g w' cs xs :=
  ⟨h.1, fun i x hx => by obtain ⟨A, c, h1, h2, h3, h4, h5, h6⟩ := h.2 i x hx; exact ⟨A, c, h1, h2, h3, h4, h5, h6.grown hown hg hT⟩⟩
theorem TermRow.snoc {g : Nat} {w : World} {cs : List Value} {xs : List Tm} {x : Tm} {A : Option Addr} {c : Nat} (h : TermRow g w cs xs) (h1 : x.vals.length ≤ c) (h2 : c ≤ maxLen) (h3 : StrRow g w A x.vals) :
    TermRow g w (cs ++ [.string x.key, .int .i64 x.kind, .slice A x.vals.length c]) (xs ++ [x]) := by
  refine ⟨by simp [h.1]; omega, fun i y hy => ?_⟩
  rcases Nat.lt_or_ge i xs.length with hl | hl
  · rw [List.getElem?_append_left hl] at hy
    obtain ⟨A', c', e1, e2, e3, e4, e5, e6⟩ := h.2 i y hy
    have hcl := h.1
    refine ⟨A', c', ?_, ?_, ?_, e4, e5, e6⟩ <;> rw [List.getElem?_append_left (by omega)] <;> assumption
  · have hi : i = xs.length := by
      have := (List.getElem?_eq_some_iff.1 hy).1
      simp at this; omega
    subst hi
    obtain rfl : x = y := by simpa using hy
    have hcl := h.1
    refine ⟨A, c, ?_, ?_, ?_, h1, h2, h3⟩
    · rw [List.getElem?_append_right (by omega), show xs.length * 3 - cs.length = 0 by omega]; rfl
    · rw [List.getElem?_append_right (by omega), show xs.length * 3 + 1 - cs.length = 1 by omega]; rfl
    · rw [List.getElem?_append_right (by omega), show xs.length * 3 + 2 - cs.length = 2 by omega]; rfl
theorem term_info : (Try.prog.info? 29).map (fun i => (i.zero, i.size, i.bytes)) = some (some (.agg #[.string ⟨#[]⟩, .int .i64 0, .slice none 0 0]), 3, 48) := by kernel_rfl
theorem string_info : (Try.prog.info? 9).map (fun i => (i.zero, i.size, i.bytes)) = some (some (.string ⟨#[]⟩), 1, 16) := by kernel_rfl
end Go.Proofs.Ythfafenigjldlaa
