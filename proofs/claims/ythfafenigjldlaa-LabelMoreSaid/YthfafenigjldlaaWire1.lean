/-
  The walks of package wire: the Writer.
-/
import Derived.Test.YthfafenigjldlaaTab4
import Derived.Laws.OwnMore
import Derived.Maps.AppendAt
import Derived.Deep.AppendLies
import Derived.RegionTactic
import Derived.OwnWalk
import Derived.Deep.RegionLaw
import Derived.BigQuiet
import Derived.Deep.QuietTactic
import Derived.IntWalk
namespace Go.Proofs.Ythfafenigjldlaa
open Go.RowKit
set_option linter.unusedVariables false

/-- a byte, as a value -/
def byV (b : UInt8) : Value := .int .u8 (b.toNat : Int)
/-- byte i of n written in so many bytes -/
def numAt (n size i : Nat) : UInt8 := UInt8.ofNat (n / 256 ^ (size - 1 - i))
def numB (n size : Nat) : List UInt8 := (List.range size).map (numAt n size)

/-- a Writer at the head of block g: its table, what it has written; its row lies from block B on -/
structure Wr (B : Nat) (w : World) (g : Nat) (ph : Bool) (bs : List UInt8) : Prop where
  base : B ≤ g
  wr : ∃ cs v, WB w g 96 cs ∧ TabA cs (tbP ph) ∧ cs[297]? = some v ∧ w.ownsRow B 5 1 v bs.length (bs.map byV)

theorem u8_info : (Try.prog.info? 5).map (fun i => (i.zero, i.size, i.bytes)) = some (some (.int .u8 0), 1, 1) := by kernel_rfl

/-- a block of cells that is neither a Writer nor a row of bytes -/
def Still (w : World) (k : Nat) : Prop := ∃ cs T fz, w.heap[k]? = some (.cells cs T fz) ∧ T ≠ 96 ∧ T ≠ 5
theorem Still.lt {w : World} {k : Nat} (h : Still w k) : k < w.heap.size := by
  obtain ⟨cs, T, fz, hh, _⟩ := h
  rcases Nat.lt_or_ge k w.heap.size with hl | hl
  · exact hl
  · rw [Array.getElem?_eq_none hl] at hh; cases hh
theorem Still.of_eq {w w' : World} {k : Nat} (h : Still w k) (e : w'.heap[k]? = w.heap[k]?) : Still w' k := by
  obtain ⟨cs, T, fz, hh, r⟩ := h
  exact ⟨cs, T, fz, e.trans hh, r⟩
/-- what a Writer's call leaves: all below B, and every still block -/
structure Bel (B : Nat) (w w' : World) : Prop where
  below : Below B w w'
  still : ∀ k, Still w k → w'.heap[k]? = w.heap[k]?
theorem Bel.refl (B : Nat) (w : World) : Bel B w w := ⟨Below.refl _ _, fun _ _ => rfl⟩
theorem Bel.trans {B : Nat} {a b c : World} (h : Bel B a b) (k : Bel B b c) : Bel B a c := ⟨h.below.trans k.below, fun i hi => (k.still i (hi.of_eq (h.still i hi))).trans (h.still i hi)⟩
theorem Bel.ext {B : Nat} {a b : World} (h : Ext a b) (hB : B ≤ a.heap.size) : Bel B a b := ⟨Below.mono h hB, fun k hk => h.block k hk.lt⟩
theorem Bel.alloc {B : Nat} {a w : World} (h : Bel B a w) (hB : B ≤ w.heap.size) (o : Obj) : Bel B a (w.alloc o) := h.trans (Bel.ext ((Ext.refl _).alloc o) hB)
theorem Bel.drew {B : Nat} {a w : World} (h : Bel B a w) : Bel B a w.drew := ⟨h.below.drew, h.still⟩
theorem Bel.drewN {B : Nat} {a w : World} (h : Bel B a w) (n : Nat) : Bel B a (w.drewN n) := ⟨⟨h.below.os, h.below.tape, h.below.output, h.below.size, h.below.block⟩, h.still⟩
theorem Bel.grown {B : Nat} {a w w' : World} {row : Option Nat} (h : Bel B a w) (hg : w.grownBy w' row) (hB : B ≤ w.heap.size) (hr : ∀ k, row = some k → B ≤ k) (hn : ∀ k, row = some k → ¬ Still w k) : Bel B a w' :=
  h.trans ⟨(Below.refl _ _).grown hg hB hr, fun k hk => hg.block k hk.lt (fun e => hn k e.symm hk)⟩
theorem Bel.setCell {B : Nat} {a w : World} (h : Bel B a w) {p : Addr} (hp : B ≤ p.block) (hn : ¬ Still w p.block) (u : Value) : Bel B a (w.setCell p u) :=
  h.trans ⟨(Below.refl _ _).setCell hp u, fun k hk => Below.heap_setCell _ _ _ _ (fun e => hn (e ▸ hk))⟩
theorem Bel.mono {B B' : Nat} {w w' : World} (h : Bel B w w') (hB : B' ≤ B) : Bel B' w w' := ⟨h.below.mono hB, h.still⟩
theorem WB.not_still {w : World} {g : Nat} {cs : Array Value} (h : WB w g 96 cs) : ¬ Still w g := by
  rintro ⟨cs', T, fz, hh, h1, _⟩
  unfold WB at h
  rw [h] at hh
  injection hh with hh
  injection hh with _ ht
  exact h1 ht.symm
theorem own_not_still {w : World} {base size n : Nat} {v : Value} {xs : List Value} (h : w.ownsRow base 5 size v n xs) {k : Nat} (hk : v.ownBlock = some k) : ¬ Still w k := by
  rintro ⟨cs', T, fz, hh, _, h1⟩
  rcases h.2 with ⟨rfl, _⟩ | ⟨g', cap, cur, rfl, _, h2, _⟩
  · simp [Value.ownBlock] at hk
  · obtain rfl : g' = k := by simpa [Value.ownBlock] using hk
    rw [h2] at hh
    injection hh with hh
    injection hh with _ ht
    exact h1 ht.symm

def NPost (B g : Nat) (ph : Bool) (bs : List UInt8) (w : World) (e : Ending) (w' : World) : Prop := e = .returned (.tuple #[]) ∧ Bel B w w' ∧ Wr B w' g ph bs

theorem own_ne {w : World} {base : Nat} {e : TypeId} {size n : Nat} {v : Value} {xs : List Value} {g : Nat} {T : TypeId} {cs : Array Value} (h : w.ownsRow base e size v n xs) (hg : WB w g T cs) (hne : e ≠ T) : v.ownBlock ≠ some g := by
  rcases h.2 with ⟨rfl, _⟩ | ⟨g', cap, cur, rfl, _, hh, _⟩
  · simp [Value.ownBlock]
  · intro he
    have : g' = g := by simpa [Value.ownBlock] using he
    subst this
    unfold WB at hg
    rw [hg] at hh
    injection hh with hh
    injection hh with _ ht
    exact hne ht.symm
theorem one_new (w : World) (x : Value) (T : TypeId) : ∀ j u, [x][j]? = some u → ((w.alloc (.cells #[x] T)).drew).cell? ((⟨w.heap.size, 0, none⟩ : Addr).add j) = some u := World.news_of_block (cs := #[x]) (heap_alloc_new w _)
theorem WB.grown {w w' : World} {g : Nat} {T : TypeId} {cs : Array Value} {row : Option Nat} (h : WB w g T cs) (hg : w.grownBy w' row) (hne : row ≠ some g) : WB w' g T cs := (hg.block g h.lt (fun e => hne e.symm)).trans h

theorem wr_step {B g : Nat} {ph : Bool} {wr w1 : World} {cs : Array Value} {v v' : Value} {o : Obj} {ys : List UInt8} {b : UInt8} (hb : B ≤ g) (h1 : WB wr g 96 cs) (h2 : TabA cs (tbP ph)) (h3 : cs[297]? = some v)
    (h4 : wr.ownsRow B 5 1 v ys.length (ys.map byV)) (hown : w1.ownsRow B 5 1 v' (ys.length + 1) (ys.map byV ++ [byV b])) (hgrow : ((wr.alloc o).drew).grownBy w1 v.ownBlock) :
    Wr B (w1.setCell ⟨g, 297, none⟩ v') g ph (ys ++ [b]) ∧ Bel B wr (w1.setCell ⟨g, 297, none⟩ v') := by
  have hne := own_ne h4 h1 (by decide)
  have h1' : WB w1 g 96 cs := (h1.alloc o).drew.grown hgrow hne
  have hv := own_ne hown h1' (by decide)
  have hlt := h1.lt
  have hsz : 297 < cs.size := (Array.getElem?_eq_some_iff.1 h3).1
  constructor
  · refine ⟨hb, cs.setIfInBounds 297 v', v', h1'.set _ _, fun i hi => ?_, Array.getElem?_setIfInBounds_self_of_lt hsz, ?_⟩
    · rw [Array.getElem?_setIfInBounds_ne (by omega)]; exact h2 i hi
    · rw [show (ys ++ [b]).length = ys.length + 1 by simp, show (ys ++ [b]).map byV = ys.map byV ++ [byV b] by simp]
      obtain ⟨e1, e2⟩ := hown
      refine ⟨e1, ?_⟩
      rcases e2 with e2 | ⟨g', cap, cur, rfl, hg', hh, r⟩
      · exact .inl e2
      · refine .inr ⟨g', cap, cur, rfl, hg', ?_, r⟩
        rw [Below.heap_setCell _ _ _ _ (by intro e; apply hv; simp at e; simp [Value.ownBlock, e])]
        exact hh
  · have hbl : ∀ k, v.ownBlock = some k → B ≤ k := fun k hk => by
      rcases h4.2 with ⟨rfl, _⟩ | ⟨g', cap, cur, rfl, hg', _⟩
      · simp [Value.ownBlock] at hk
      · simp [Value.ownBlock] at hk; omega
    have hns : ∀ k, v.ownBlock = some k → ¬ Still ((wr.alloc o).drew) k := fun k hk hs => by
      rcases h4.2 with ⟨rfl, _⟩ | ⟨g', cap, cur, rfl, hg', hh, _⟩
      · simp [Value.ownBlock] at hk
      · obtain rfl : g' = k := by simpa [Value.ownBlock] using hk
        have hl' : g' < wr.heap.size := by
          rcases Nat.lt_or_ge g' wr.heap.size with hl | hl
          · exact hl
          · rw [Array.getElem?_eq_none hl] at hh; cases hh
        exact own_not_still h4 rfl (hs.of_eq (Below.heap_alloc wr o g' hl').symm)
    refine ((((Bel.refl B wr).alloc (by omega) o).drew).grown hgrow (by simp [World.drew]; omega) hbl hns).setCell hb h1'.not_still _

theorem wbyte (n size k d sh : Nat) (hd : d = size - 1 - k) (hs : size ≤ 8) (hsh : sh = 8 * d) : IntKind.u8.wrap ((n : Int) / 2 ^ min sh 64) = ((numAt n size k).toNat : Int) := by
  rw [show min sh 64 = sh by omega, hsh]
  have e : ((2 : Int) ^ (8 * d)) = ((256 ^ d : Nat) : Int) := by
    rw [show (256 : Nat) = 2 ^ 8 from rfl, ← Nat.pow_mul]; simp
  rw [e, ← Int.natCast_ediv]
  unfold numAt
  rw [← hd, IntKind.wrap_u8]
  simp

set_option maxHeartbeats 1000000 in
set_option maxRecDepth 10000 in
theorem wNum_any (B g : Nat) (ph : Bool) (bs : List UInt8) (n size : Nat) (w : World) (hn : n < 9223372036854775808) (hs : size ≤ 8) (hl : bs.length ≤ 1000000) (hw : Wr B w g ph bs) :
    Calls Try.prog 34 #[.pointer (some ⟨g, 0, none⟩), .int .i64 n, .int .i64 size] w (NPost B g ph (bs ++ numB n size) w) := by
  have hs' : (size : Int) ≤ 8 := by omega
  have hn' : (n : Int) ≤ 9223372036854775807 := by omega
  have hbase := hw.base
  obtain ⟨i0, hi0, hz0, hz1, hz2⟩ := info_parts u8_info
  go_enter Try.func34, Try.ntmps34
  go_wp2_with fail
  go_loopw [8] (fun i wr => ∃ k : Nat, k ≤ size ∧ i = .int .i64 k ∧ Bel B w wr ∧ Wr B wr g ph (bs ++ (numB n size).take k)) (fun i _ => size - (intOf i).toNat)
  case atStart => exact ⟨0, by omega, rfl, Bel.refl _ _, by simpa using hw⟩
  case round =>
    obtain ⟨k, hk, rfl, hb, hi⟩ := hrel
    by_cases hlt : k < size
    · obtain ⟨ys, hys⟩ : ∃ ys, ys = bs ++ (numB n size).take k := ⟨_, rfl⟩
      have hlen : ys.length ≤ 1000008 := by rw [hys]; simp [numB]; omega
      rw [← hys] at hi
      have HYS := Lib.hid hys
      clear hys
      obtain ⟨cs, v, h1, h2, h3, h4⟩ := hi.wr
      have c297 := h1.cell h3
      have z297 := h1.fr 297
      have c297' := cell_alloc c297
      have z297' : ∀ o, (wr.alloc o).frozen? ⟨g, 297, none⟩ = false := fun o => (h1.alloc o).fr 297
      have hN := Lib.hid (one_new wr)
      have H1 := Lib.hid h1
      have H2 := Lib.hid h2
      have H3 := Lib.hid h3
      have H4 := Lib.hid h4
      have hBs : B ≤ wr.heap.size := by have := h1.lt; omega
      clear h1 h2 h3 h4
      have hlt' : (k : Int) < size := by omega
      obtain ⟨d, hd⟩ : ∃ d, d = size - 1 - k := ⟨_, rfl⟩
      obtain ⟨sh, hsh⟩ : ∃ sh, sh = 8 * d := ⟨_, rfl⟩
      have s1 : IntKind.i64.wrap ((size : Int) - 1) = (size : Int) - 1 := IntWalk.i64_in _ (by omega)
      have s2 : IntKind.i64.wrap ((size : Int) - 1 - (k : Int)) = (d : Int) := by rw [IntWalk.i64_in _ (by omega)]; omega
      have s3 : IntKind.i64.wrap (8 * (d : Int)) = (sh : Int) := by rw [IntWalk.i64_in _ (by omega)]; omega
      have HD := Lib.hid hd
      have HSH := Lib.hid hsh
      clear hd hsh
      go_wp2_with fail
      go_region_law (first
        | (refine step_append_lies _ rfl (.tmp 15) (.tmp 24) 57 rfl B 5 i0 (.int .u8 0) 1 1 Try.underlying57 hi0 hz0 hz1 hz2 rfl (by decide) v _ _ rfl (H4.out.alloc _) ⟨wr.heap.size, 0, none⟩ 1 1 [_] rfl rfl (hN.out _ _) (by simp [Value.oneCell']) (by decide) (by unfold maxLen; omega) (by omega) (by simp [World.drew]; omega) _ rfl ?_
           intro gg cap w1 hown hgrow hat hlt1
           have c1 : w1.cell? ⟨g, 297, none⟩ = some v := (((H1.out.alloc _).drew).grown hgrow (own_ne H4.out H1.out (by decide))).cell H3.out
           have z1 := (((H1.out.alloc _).drew).grown hgrow (own_ne H4.out H1.out (by decide))).fr 297))
      all_goals go_wp2_with fail
      all_goals (
        have hx := wbyte n size k d sh HD.out hs HSH.out
        rw [hx] at hown hgrow
        obtain ⟨r1, r2⟩ := wr_step hbase H1.out H2.out H3.out H4.out hown hgrow
        have hnext : bs ++ (numB n size).take (k + 1) = ys ++ [numAt n size k] := by
          rw [HYS.out, List.append_assoc]; congr 1; exact take_at (by simp [numB, hlt])
        go_roundw)
      all_goals first
        | exact ⟨k + 1, by omega, by go_num, hb.trans r2, by rw [hnext]; exact r1⟩
        | (simp [intOf]; omega)
    · have : size - k = 0 := by omega
      go_wp2_with fail
      go_end0
      exact ⟨rfl, hb, by rw [List.take_of_length_le (by simp [numB]; omega)] at hi; exact hi⟩
end Go.Proofs.Ythfafenigjldlaa
