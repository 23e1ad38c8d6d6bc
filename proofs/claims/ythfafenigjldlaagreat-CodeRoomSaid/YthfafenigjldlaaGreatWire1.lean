/-
  The walks of package wire: the Writer.
-/
import Derived.Test.YthfafenigjldlaaGreatTab3
import Derived.Laws.OwnMore
import Derived.Maps.AppendAt
import Derived.Deep.AppendLies
import Derived.RegionTactic
import Derived.OwnWalk
import Derived.Deep.RegionLaw
import Derived.BigQuiet
import Derived.Deep.QuietTactic
import Derived.IntWalk
namespace Go.Proofs.YthfafenigjldlaaGreat
open Go.RowKit
set_option linter.unusedVariables false

/-- a byte, as a value -/
def byV (b : UInt8) : Value := .int .u8 (b.toNat : Int)
/-- byte i of n written in so many bytes -/
def numAt (n size i : Nat) : UInt8 := UInt8.ofNat (n / 256 ^ (size - 1 - i))
def numB (n size : Nat) : List UInt8 := (List.range size).map (numAt n size)

/-- a Writer at the head of block g: its table, what it has written; its row lies from block B on -/
structure Wr (B : Nat) (w : World) (g : Nat) (ph : Bool) (bs : List UInt8) : Prop where
  base : B ≤ g
  wr : ∃ cs v, WB w g 130 cs ∧ TabA cs (tbP ph) ∧ cs[297]? = some v ∧ w.ownsRow B 5 1 v bs.length (bs.map byV)

theorem u8_info : (Tryz.prog.info? 5).map (fun i => (i.zero, i.size, i.bytes)) = some (some (.int .u8 0), 1, 1) := by kernel_rfl

/-- a block of cells that is neither a Writer nor a row of bytes -/
def Still (w : World) (k : Nat) : Prop := ∃ cs T fz, w.heap[k]? = some (.cells cs T fz) ∧ T ≠ 130 ∧ T ≠ 5
theorem Still.lt {w : World} {k : Nat} (h : Still w k) : k < w.heap.size := by
  obtain ⟨cs, T, fz, hh, _⟩ := h
  rcases Nat.lt_or_ge k w.heap.size with hl | hl
  · exact hl
  · rw [Array.getElem?_eq_none hl] at hh; cases hh
theorem Still.of_eq {w w' : World} {k : Nat} (h : Still w k) (e : w'.heap[k]? = w.heap[k]?) : Still w' k := by
  obtain ⟨cs, T, fz, hh, r⟩ := h
  exact ⟨cs, T, fz, e.trans hh, r⟩
/-- what a Writer's call leaves: all below B, and every still block -/
structure Bel (B : Nat) (w w' : World) : Prop where
  below : Below B w w'
  still : ∀ k, Still w k → w'.heap[k]? = w.heap[k]?
theorem Bel.refl (B : Nat) (w : World) : Bel B w w := ⟨Below.refl _ _, fun _ _ => rfl⟩
theorem Bel.trans {B : Nat} {a b c : World} (h : Bel B a b) (k : Bel B b c) : Bel B a c := ⟨h.below.trans k.below, fun i hi => (k.still i (hi.of_eq (h.still i hi))).trans (h.still i hi)⟩
theorem Bel.ext {B : Nat} {a b : World} (h : Ext a b) (hB : B ≤ a.heap.size) : Bel B a b := ⟨Below.mono h hB, fun k hk => h.block k hk.lt⟩
theorem Bel.alloc {B : Nat} {a w : World} (h : Bel B a w) (hB : B ≤ w.heap.size) (o : Obj) : Bel B a (w.alloc o) := h.trans (Bel.ext ((Ext.refl _).alloc o) hB)
theorem Bel.drew {B : Nat} {a w : World} (h : Bel B a w) : Bel B a w.drew := ⟨h.below.drew, h.still⟩
theorem Bel.drewN {B : Nat} {a w : World} (h : Bel B a w) (n : Nat) : Bel B a (w.drewN n) := ⟨⟨h.below.os, h.below.tape, h.below.output, h.below.size, h.below.block⟩, h.still⟩
theorem Bel.grown {B : Nat} {a w w' : World} {row : Option Nat} (h : Bel B a w) (hg : w.grownBy w' row) (hB : B ≤ w.heap.size) (hr : ∀ k, row = some k → B ≤ k) (hn : ∀ k, row = some k → ¬ Still w k) : Bel B a w' :=
  h.trans ⟨(Below.refl _ _).grown hg hB hr, fun k hk => hg.block k hk.lt (fun e => hn k e.symm hk)⟩
theorem Bel.setCell {B : Nat} {a w : World} (h : Bel B a w) {p : Addr} (hp : B ≤ p.block) (hn : ¬ Still w p.block) (u : Value) : Bel B a (w.setCell p u) :=
  h.trans ⟨(Below.refl _ _).setCell hp u, fun k hk => Below.heap_setCell _ _ _ _ (fun e => hn (e ▸ hk))⟩
theorem Bel.mono {B B' : Nat} {w w' : World} (h : Bel B w w') (hB : B' ≤ B) : Bel B' w w' := ⟨h.below.mono hB, h.still⟩
theorem WB.not_still {w : World} {g : Nat} {cs : Array Value} (h : WB w g 130 cs) : ¬ Still w g := by
  rintro ⟨cs', T, fz, hh, h1, _⟩
  unfold WB at h
  rw [h] at hh
  injection hh with hh
  injection hh with _ ht
  exact h1 ht.symm
theorem own_not_still {w : World} {base size n : Nat} {v : Value} {xs : List Value} (h : w.ownsRow base 5 size v n xs) {k : Nat} (hk : v.ownBlock = some k) : ¬ Still w k := by
  rintro ⟨cs', T, fz, hh, _, h1⟩
  rcases h.2 with ⟨rfl, _⟩ | ⟨g', cap, cur, rfl, _, h2, _⟩
  · simp [Value.ownBlock] at hk
  · obtain rfl : g' = k := by simpa [Value.ownBlock] using hk
    rw [h2] at hh
    injection hh with hh
    injection hh with _ ht
    exact h1 ht.symm

def NPost (B g : Nat) (ph : Bool) (bs : List UInt8) (w : World) (e : Ending) (w' : World) : Prop := e = .returned (.tuple #[]) ∧ Bel B w w' ∧ Wr B w' g ph bs

theorem own_ne {w : World} {base : Nat} {e : TypeId} {size n : Nat} {v : Value} {xs : List Value} {g : Nat} {T : TypeId} {cs : Array Value} (h : w.ownsRow base e size v n xs) (hg : WB w g T cs) (hne : e ≠ T) : v.ownBlock ≠ some g := by
  rcases h.2 with ⟨rfl, _⟩ | ⟨g', cap, cur, rfl, _, hh, _⟩
  · simp [Value.ownBlock]
  · intro he
    have : g' = g := by simpa [Value.ownBlock] using he
    subst this
    unfold WB at hg
    rw [hg] at hh
    injection hh with hh
    injection hh with _ ht
    exact hne ht.symm
theorem one_new (w : World) (x : Value) (T : TypeId) : ∀ j u, [x][j]? = some u → ((w.alloc (.cells #[x] T)).drew).cell? ((⟨w.heap.size, 0, none⟩ : Addr).add j) = some u := World.news_of_block (cs := #[x]) (heap_alloc_new w _)
theorem WB.grown {w w' : World} {g : Nat} {T : TypeId} {cs : Array Value} {row : Option Nat} (h : WB w g T cs) (hg : w.grownBy w' row) (hne : row ≠ some g) : WB w' g T cs := (hg.block g h.lt (fun e => hne e.symm)).trans h

theorem wr_step {B g : Nat} {ph : Bool} {wr w1 : World} {cs : Array Value} {v v' : Value} {o : Obj} {ys : List UInt8} {b : UInt8} (hb : B ≤ g) (h1 : WB wr g 130 cs) (h2 : TabA cs (tbP ph)) (h3 : cs[297]? = some v)
    (h4 : wr.ownsRow B 5 1 v ys.length (ys.map byV)) (hown : w1.ownsRow B 5 1 v' (ys.length + 1) (ys.map byV ++ [byV b])) (hgrow : ((wr.alloc o).drew).grownBy w1 v.ownBlock) :
    Wr B (w1.setCell ⟨g, 297, none⟩ v') g ph (ys ++ [b]) ∧ Bel B wr (w1.setCell ⟨g, 297, none⟩ v') := by
  have hne := own_ne h4 h1 (by decide)
  have h1' : WB w1 g 130 cs := (h1.alloc o).drew.grown hgrow hne
  have hv := own_ne hown h1' (by decide)
  have hlt := h1.lt
  have hsz : 297 < cs.size := (Array.getElem?_eq_some_iff.1 h3).1
  constructor
  · refine ⟨hb, cs.setIfInBounds 297 v', v', h1'.set _ _, fun i hi => ?_, Array.getElem?_setIfInBounds_self_of_lt hsz, ?_⟩
    · rw [Array.getElem?_setIfInBounds_ne (by omega)]; exact h2 i hi
    · rw [show (ys ++ [b]).length = ys.length + 1 by simp, show (ys ++ [b]).map byV = ys.map byV ++ [byV b] by simp]
      obtain ⟨e1, e2⟩ := hown
      refine ⟨e1, ?_⟩
      rcases e2 with e2 | ⟨g', cap, cur, rfl, hg', hh, r⟩
      · exact .inl e2
      · refine .inr ⟨g', cap, cur, rfl, hg', ?_, r⟩
        rw [Below.heap_setCell _ _ _ _ (by intro e; apply hv; simp at e; simp [Value.ownBlock, e])]
        exact hh
  · have hbl : ∀ k, v.ownBlock = some k → B ≤ k := fun k hk => by
      rcases h4.2 with ⟨rfl, _⟩ | ⟨g', cap, cur, rfl, hg', _⟩
      · simp [Value.ownBlock] at hk
      · simp [Value.ownBlock] at hk; omega
    have hns : ∀ k, v.ownBlock = some k → ¬ Still ((wr.alloc o).drew) k := fun k hk hs => by
      rcases h4.2 with ⟨rfl, _⟩ | ⟨g', cap, cur, rfl, hg', hh, _⟩
      · simp [Value.ownBlock] at hk
      · obtain rfl : g' = k := by simpa [Value.ownBlock] using hk
        have hl' : g' < wr.heap.size := by
          rcases Nat.lt_or_ge g' wr.heap.size with hl | hl
          · exact hl
          · rw [Array.getElem?_eq_none hl] at hh; cases hh
        exact own_not_still h4 rfl (hs.of_eq (Below.heap_alloc wr o g' hl').symm)
    refine ((((Bel.refl B wr).alloc (by omega) o).drew).grown hgrow (by simp [World.drew]; omega) hbl hns).setCell hb h1'.not_still _

theorem wbyte (n size k d sh : Nat) (hd : d = size - 1 - k) (hs : size ≤ 8) (hsh : sh = 8 * d) : IntKind.u8.wrap ((n : Int) / 2 ^ min sh 64) = ((numAt n size k).toNat : Int) := by
  rw [show min sh 64 = sh by omega, hsh]
  have e : ((2 : Int) ^ (8 * d)) = ((256 ^ d : Nat) : Int) := by
    rw [show (256 : Nat) = 2 ^ 8 from rfl, ← Nat.pow_mul]; simp
  rw [e, ← Int.natCast_ediv]
  unfold numAt
  rw [← hd, IntKind.wrap_u8]
  simp

set_option maxHeartbeats 1000000 in
set_option maxRecDepth 10000 in
theorem wNum_any (B g : Nat) (ph : Bool) (bs : List UInt8) (n size : Nat) (w : World) (hn : n < 9223372036854775808) (hs : size ≤ 8) (hl : bs.length ≤ 1000000) (hw : Wr B w g ph bs) :
    Calls Tryz.prog 82 #[.pointer (some ⟨g, 0, none⟩), .int .i64 n, .int .i64 size] w (NPost B g ph (bs ++ numB n size) w) := by
  have hs' : (size : Int) ≤ 8 := by omega
  have hn' : (n : Int) ≤ 9223372036854775807 := by omega
  have hbase := hw.base
  obtain ⟨i0, hi0, hz0, hz1, hz2⟩ := info_parts u8_info
  go_enter Tryz.func82, Tryz.ntmps82
  go_wp2_with fail
  go_loopw [8] (fun i wr => ∃ k : Nat, k ≤ size ∧ i = .int .i64 k ∧ Bel B w wr ∧ Wr B wr g ph (bs ++ (numB n size).take k)) (fun i _ => size - (intOf i).toNat)
  case atStart => exact ⟨0, by omega, rfl, Bel.refl _ _, by simpa using hw⟩
  case round =>
    obtain ⟨k, hk, rfl, hb, hi⟩ := hrel
    by_cases hlt : k < size
    · obtain ⟨ys, hys⟩ : ∃ ys, ys = bs ++ (numB n size).take k := ⟨_, rfl⟩
      have hlen : ys.length ≤ 1000008 := by rw [hys]; simp [numB]; omega
      rw [← hys] at hi
      have HYS := Lib.hid hys
      clear hys
      obtain ⟨cs, v, h1, h2, h3, h4⟩ := hi.wr
      have c297 := h1.cell h3
      have z297 := h1.fr 297
      have c297' := cell_alloc c297
      have z297' : ∀ o, (wr.alloc o).frozen? ⟨g, 297, none⟩ = false := fun o => (h1.alloc o).fr 297
      have hN := Lib.hid (one_new wr)
      have H1 := Lib.hid h1
      have H2 := Lib.hid h2
      have H3 := Lib.hid h3
      have H4 := Lib.hid h4
      have hBs : B ≤ wr.heap.size := by have := h1.lt; omega
      clear h1 h2 h3 h4
      have hlt' : (k : Int) < size := by omega
      obtain ⟨d, hd⟩ : ∃ d, d = size - 1 - k := ⟨_, rfl⟩
      obtain ⟨sh, hsh⟩ : ∃ sh, sh = 8 * d := ⟨_, rfl⟩
      have s1 : IntKind.i64.wrap ((size : Int) - 1) = (size : Int) - 1 := IntWalk.i64_in _ (by omega)
      have s2 : IntKind.i64.wrap ((size : Int) - 1 - (k : Int)) = (d : Int) := by rw [IntWalk.i64_in _ (by omega)]; omega
      have s3 : IntKind.i64.wrap (8 * (d : Int)) = (sh : Int) := by rw [IntWalk.i64_in _ (by omega)]; omega
      have HD := Lib.hid hd
      have HSH := Lib.hid hsh
      clear hd hsh
      go_wp2_with fail
      go_region_law (first
        | (refine step_append_lies _ rfl (.tmp 15) (.tmp 24) 42 rfl B 5 i0 (.int .u8 0) 1 1 Tryz.underlying42 hi0 hz0 hz1 hz2 rfl (by decide) v _ _ rfl (H4.out.alloc _) ⟨wr.heap.size, 0, none⟩ 1 1 [_] rfl rfl (hN.out _ _) (by simp [Value.oneCell']) (by decide) (by unfold maxLen; omega) (by omega) (by simp [World.drew]; omega) _ rfl ?_
           intro gg cap w1 hown hgrow hat hlt1
           have c1 : w1.cell? ⟨g, 297, none⟩ = some v := (((H1.out.alloc _).drew).grown hgrow (own_ne H4.out H1.out (by decide))).cell H3.out
           have z1 := (((H1.out.alloc _).drew).grown hgrow (own_ne H4.out H1.out (by decide))).fr 297))
      all_goals go_wp2_with fail
      all_goals (
        have hx := wbyte n size k d sh HD.out hs HSH.out
        rw [hx] at hown hgrow
        obtain ⟨r1, r2⟩ := wr_step hbase H1.out H2.out H3.out H4.out hown hgrow
        have hnext : bs ++ (numB n size).take (k + 1) = ys ++ [numAt n size k] := by
          rw [HYS.out, List.append_assoc]; congr 1; exact take_at (by simp [numB, hlt])
        go_roundw)
      all_goals first
        | exact ⟨k + 1, by omega, by go_num, hb.trans r2, by rw [hnext]; exact r1⟩
        | (simp [intOf]; omega)
    · have : size - k = 0 := by omega
      go_wp2_with fail
      go_end0
      exact ⟨rfl, hb, by rw [List.take_of_length_le (by simp [numB]; omega)] at hi; exact hi⟩
end Go.Proofs.YthfafenigjldlaaGreat

/-
  The walks of package wire: the Writer's other calls.
-/
namespace Go.Proofs.YthfafenigjldlaaGreat
open Go.RowKit
set_option linter.unusedVariables false

theorem Below.drewN' {B : Nat} {a w : World} (h : Below B a w) (n : Nat) : Below B a (w.drewN n) := ⟨h.os, h.tape, h.output, h.size, h.block⟩
theorem Wr.drewN {B g : Nat} {w : World} {ph : Bool} {bs : List UInt8} (h : Wr B w g ph bs) (n : Nat) : Wr B (w.drewN n) g ph bs := ⟨h.base, h.wr⟩
theorem wNumI (B g : Nat) (ph : Bool) (bs : List UInt8) (a z : Int) (w : World) (h1 : 0 ≤ a) (h2 : a ≤ 9223372036854775807) (h3 : 0 ≤ z) (h4 : z ≤ 8) (hl : bs.length ≤ 1000000) (hw : Wr B w g ph bs) :
    Calls Tryz.prog 82 #[.pointer (some ⟨g, 0, none⟩), .int .i64 a, .int .i64 z] w (NPost B g ph (bs ++ numB a.toNat z.toNat) w) := by
  obtain ⟨n, rfl⟩ := Int.eq_ofNat_of_zero_le h1
  obtain ⟨m, rfl⟩ := Int.eq_ofNat_of_zero_le h3
  exact wNum_any B g ph bs n m w (by omega) (by omega) hl hw

theorem wBool_any (B g : Nat) (ph : Bool) (bs : List UInt8) (b : Bool) (w : World) (hl : bs.length ≤ 1000000) (hw : Wr B w g ph bs) :
    Calls Tryz.prog 88 #[.pointer (some ⟨g, 0, none⟩), .bool b] w (NPost B g ph (bs ++ numB b.toNat 1) w) := by
  have HF := Lib.hid (fun a z w' h1 h2 h3 h4 (hw : Wr B w' g ph bs) => wNumI B g ph bs a z w' h1 h2 h3 h4 hl hw)
  cases b
  · go_enter Tryz.func88, Tryz.ntmps88
    go_wp2_with fail
    refine (HF.out _ _ _ (by omega) (by omega) (by omega) (by omega) hw).mono ?_
    rintro e w' ⟨rfl, h1, h2⟩
    go_wp2_with fail
    go_end0
    exact ⟨rfl, h1, h2⟩
  · go_enter Tryz.func88, Tryz.ntmps88
    go_wp2_with fail
    refine (HF.out _ _ _ (by omega) (by omega) (by omega) (by omega) hw).mono ?_
    rintro e w' ⟨rfl, h1, h2⟩
    go_wp2_with fail
    go_end0
    exact ⟨rfl, h1, h2⟩

/-! ### names -/
/-- a byte's digit -/
def dig (b : Nat) : Nat := tb1.o b
theorem adds_o_le {M : Nat} (l : List Nat) : ∀ (t : Tb) (n : Nat), (∀ b, t.o b ≤ M) → n + l.length ≤ M → ∀ b, (t.adds n l).o b ≤ M := by
  induction l with
  | nil => intro t n h _ b; exact h b
  | cons x l ih =>
    intro t n h hn b
    simp only [List.length_cons] at hn
    refine ih _ _ (fun b => ?_) (by omega) b
    simp only [Tb.add, updN]
    split
    · omega
    · exact h b
theorem dig_le (b : Nat) : dig b ≤ 37 :=
  adds_o_le (M := 37) (letters.take 37) ({ tb0 with m := 1 } : Tb) 0 (fun _ => Nat.zero_le _) (by decide) b
/-- what Name has reckoned behind k rounds -/
def nameK (s : List UInt8) : Nat → Nat
  | 0 => 0
  | k + 1 => nameK s k * 38 + (match s[k]? with | some b => dig b.toNat | none => 0)
theorem nameK_lt (s : List UInt8) (k : Nat) : nameK s k < 38 ^ k := by
  induction k with
  | zero => simp [nameK]
  | succ k ih =>
    have h : (match s[k]? with | some b => dig b.toNat | none => 0) ≤ 37 := by split; exact dig_le _; omega
    simp only [nameK, Nat.pow_succ]
    omega
def nameB8 (s : ByteArray) : List UInt8 := numB (nameK s.data.toList 12) 8

theorem Wr.made {B g : Nat} {bs : List UInt8} {w w' : World} {cs : Array Value} {v : Value} {e : Ending} (hb : B ≤ g) (h1 : WB w g 130 cs) (h3 : cs[297]? = some v) (h4 : w.ownsRow B 5 1 v bs.length (bs.map byV))
    (hp : MPost g 130 cs tb1 w e w') : e = .returned (.tuple #[]) ∧ Bel B w w' ∧ Wr B w' g true bs := by
  obtain ⟨p1, p2, cs', p3, p4, p5⟩ := hp
  refine ⟨p1, ⟨⟨p2.os, p2.tape, p2.output, p2.size, fun k hk => p2.block k (by have := h1.lt; omega) (by omega)⟩, fun k hk => p2.block k hk.lt (fun e => h1.not_still (e ▸ hk))⟩, hb, cs', v, p3, p4, (p5.2 297 (by omega)).trans h3, h4.1, ?_⟩
  have hne := own_ne h4 h1 (by decide)
  rcases h4.2 with h | ⟨g', cap, cur, rfl, hg', hh, r⟩
  · exact .inl h
  · refine .inr ⟨g', cap, cur, rfl, hg', ?_, r⟩
    rw [p2.block g' ?_ (by simpa [Value.ownBlock] using hne)]
    · exact hh
    · rcases Nat.lt_or_ge g' w.heap.size with hl | hl
      · exact hl
      · rw [Array.getElem?_eq_none hl] at hh; cases hh

set_option maxHeartbeats 1000000 in
theorem wName_any (B g : Nat) (ph : Bool) (bs : List UInt8) (s : ByteArray) (w : World) (hs : okS s) (hl : bs.length ≤ 1000000) (hw : Wr B w g ph bs) :
    Calls Tryz.prog 83 #[.pointer (some ⟨g, 0, none⟩), .string s] w (NPost B g true (bs ++ nameB8 s) w) := by
  unfold okS maxLen at hs
  obtain ⟨cs, v, h1, h2, h3, h4⟩ := hw.wr
  have hb := hw.base
  have HM : Hid (Calls Tryz.prog 120 #[.pointer (some ⟨g, 0, none⟩)] w fun e w' => e = .returned (.tuple #[]) ∧ Bel B w w' ∧ Wr B w' g true bs) :=
    (make_any g _ cs ph w h1 h2).mono fun e w' hp => Wr.made hb h1 h3 h4 hp
  clear h1 h2 h3 h4 hw
  go_enter Tryz.func83, Tryz.ntmps83
  go_wp2_with fail
  refine HM.out.mono ?_
  rintro e w1 ⟨rfl, b1, hw1⟩
  obtain ⟨cs, v, h1, h2, h3, h4⟩ := hw1.wr
  have HO : Hid (∀ b : UInt8, w1.cell? ⟨g, 3 + b.toNat, none⟩ = some (.int .u64 (dig b.toNat : Nat))) := fun b => h1.cell (h2.at_o b.toNat_lt)
  clear h1 h2 h3 h4 HM
  go_wp2_with fail
  go_loopw [4, 10] (fun a i wr => ∃ k n : Nat, k ≤ 12 ∧ i = .int .i64 k ∧ a = .int .u64 (nameK s.data.toList k : Nat) ∧ wr = w1.drewN n) (fun _ i _ => 12 - (intOf i).toNat)
  case atStart => exact ⟨0, 0, by omega, rfl, rfl, rfl⟩
  case round =>
    obtain ⟨k, n, hk, rfl, rfl, rfl⟩ := hrel
    by_cases hlt : k < 12
    · have hlt' : (k : Int) < 12 := by omega
      have hb1 : nameK s.data.toList k < 38 ^ 11 := Nat.lt_of_lt_of_le (nameK_lt _ k) (Nat.pow_le_pow_right (by omega) (by omega))
      obtain ⟨m, hm⟩ : ∃ m, m = nameK s.data.toList k := ⟨_, rfl⟩
      rw [← hm] at hb1 ⊢
      have HM := Lib.hid hm
      clear hm
      have hb2 : m * 38 < 9065737908494995456 := by omega
      obtain ⟨m2, hm2⟩ : ∃ m2, m2 = m * 38 := ⟨_, rfl⟩
      rw [← hm2] at hb2
      have s1 : IntKind.u64.wrap ((m : Int) * 38) = (m2 : Int) := by rw [IntKind.wrap_u64]; omega
      have HM2 := Lib.hid hm2
      clear hm2 hb1
      by_cases hks : k < s.size
      · have hks' : (k : Int) < s.size := by omega
        have ho := HO.out s[k]
        have h256 : ((s[k].toNat : Nat) : Int) < 256 := by have := s[k].toNat_lt; omega
        have hd := dig_le s[k].toNat
        obtain ⟨d, hdd⟩ : ∃ d, d = dig s[k].toNat := ⟨_, rfl⟩
        rw [← hdd] at ho hd
        have HD := Lib.hid hdd
        have s2 : IntKind.u64.wrap ((m2 : Int) + (d : Int)) = ((m2 + d : Nat) : Int) := by rw [IntKind.wrap_u64]; omega
        clear hdd
        go_wp2_with fail
        go_region
        all_goals go_wp2_with fail
        all_goals go_roundw
        case rel => exact ⟨k + 1, n + 1, by omega, by go_num, by
          have e : s.data.toList[k]? = some s[k] := by rw [List.getElem?_eq_getElem (by simpa using hks)]; rfl
          simp only [nameK, e, ← HM.out, ← HM2.out, ← HD.out]; go_num, rfl⟩
        case measure => simp [intOf]; omega
      · have hks' : (s.size : Int) ≤ k := by omega
        go_wp2_with fail
        go_roundw
        case rel => exact ⟨k + 1, n, by omega, by go_num, by
          have e : s.data.toList[k]? = none := by rw [List.getElem?_eq_none (by simpa using hks)]
          simp only [nameK, e, ← HM.out, ← HM2.out]; rfl, rfl⟩
        case measure => simp [intOf]; omega
    · obtain rfl : k = 12 := by omega
      have hb1 := nameK_lt s.data.toList 12
      have hfin : Hid (nameB8 s = numB (nameK s.data.toList 12) 8) := rfl
      obtain ⟨m, hm⟩ : ∃ m, m = nameK s.data.toList 12 := ⟨_, rfl⟩
      rw [← hm] at hb1 ⊢
      have HM := Lib.hid hm
      have hb2 : m < 9065737908494995456 := by omega
      clear hm hb1
      go_wp2_with fail
      refine (wNumI B g true bs _ _ _ (by omega) (by omega) (by omega) (by omega) hl ?hw).mono ?_
      case hw => exact hw1.drewN n
      rintro e w' ⟨rfl, h1, h2⟩
      go_wp2_with fail
      go_end0
      refine ⟨rfl, b1.trans (((Bel.refl _ _).drewN n).trans h1), ?_⟩
      rw [hfin.out, ← HM.out]
      simpa using h2
end Go.Proofs.YthfafenigjldlaaGreat

/-
  The walks of slices.Clone at bytes.
-/
namespace Go.Proofs.YthfafenigjldlaaGreat
open Go.RowKit
set_option linter.unusedVariables false

/-- the slice's cells, one behind the other -/
def Flat (w : World) (size : Nat) (A : Option Addr) (n : Nat) (cells : List Value) : Prop :=
  cells.length = n * size ∧ (0 < n → ∃ b o, A = some ⟨b, o, none⟩ ∧ ∀ j u, cells[j]? = some u → w.cell? ⟨b, o + j, none⟩ = some u)
/-- a copy of one's own -/
def ClPost (T : TypeId) (size n : Nat) (cells : List Value) (w : World) (e : Ending) (w' : World) : Prop :=
  ∃ v, e = .returned v ∧ w'.ownsRow w.heap.size T size v n cells ∧ Ext w w'

set_option maxHeartbeats 600000 in
theorem cl_byte (A : Option Addr) (n c : Nat) (cells : List Value) (w : World) (hc : Flat w 1 A n cells) (h1 : ∀ u ∈ cells, u.oneCell' = true) (hb : n * 1 ≤ 140737488355328) :
    Calls Tryz.prog 121 #[.slice A n c] w (ClPost 5 1 n cells w) := by
  obtain ⟨i0, hi0, hz0, hz1, hz2⟩ := info_parts u8_info
  have hnl := fun (w : World) => Lib.run_eql_slice_nil (P := Tryz.prog) w 42 5 A n c 0 0 Tryz.underlying42
  have HE : Hid (∀ o, Ext w (w.alloc o)) := fun o => (Ext.refl w).alloc o
  have HO : Hid ((w.alloc (.cells #[] 5)).ownsRow w.heap.size 5 1 (.slice (some ⟨w.heap.size, 0, none⟩) 0 0) 0 []) :=
    ⟨by simp, .inr ⟨w.heap.size, 0, #[], rfl, Nat.le_refl _, heap_alloc_new w _, by omega, by simp [maxLen], by simp, by simp⟩⟩
  obtain ⟨hc1, hc2⟩ := hc
  cases A with
  | none =>
    have hn : n = 0 := by
      rcases Nat.eq_zero_or_pos n with h | h
      · exact h
      · obtain ⟨b, o, e, _⟩ := hc2 h; cases e
    subst hn
    have hcn : cells = [] := List.eq_nil_of_length_eq_zero (by simpa using hc1)
    subst hcn
    clear hc1 hc2 h1 HO HE
    go_enter Tryz.func121, Tryz.ntmps121
    go_wp2_with fail
    go_ret
    exact ⟨_, rfl, ⟨by simp, .inl ⟨rfl, rfl⟩⟩, Ext.refl _⟩
  | some a =>
    rcases Nat.eq_zero_or_pos n with hn | hn
    · subst hn
      have hcn : cells = [] := List.eq_nil_of_length_eq_zero (by simpa using hc1)
      subst hcn
      clear hc1 hc2 h1
      go_enter Tryz.func121, Tryz.ntmps121
      go_wp2_with fail
      go_ret
      exact ⟨_, rfl, HO.out, HE.out _⟩
    · obtain ⟨b, o, e, hcell⟩ := hc2 hn
      obtain rfl : a = ⟨b, o, none⟩ := by injection e
      have HC : Hid (∀ j u, cells[j]? = some u → (w.alloc (.cells #[] 5)).cell? ((⟨b, o, none⟩ : Addr).add j) = some u) := fun j u hu => by
        rw [show (⟨b, o, none⟩ : Addr).add j = ⟨b, o + j, none⟩ from by unfold Addr.add; split <;> simp_all]
        exact cell_alloc (hcell j u hu) _
      have HL := Lib.hid hc1
      have H1 := Lib.hid h1
      clear hc1 hc2 hcell h1 e
      go_enter Tryz.func121, Tryz.ntmps121
      go_wp2_with (first
        | (at_builtin
           refine wpList_append_lies _ rfl (.tmp 5) (.tmp 6) 42 rfl w.heap.size 5 i0 (.int .u8 0) 1 1 Tryz.underlying42 hi0 hz0 hz1 hz2 rfl (by decide) (.slice (some ⟨w.heap.size, 0, none⟩) 0 0) 0 [] rfl HO.out ⟨b, o, none⟩ n c cells rfl HL.out HC.out H1.out hn (by unfold maxLen; omega) (by omega) (by simp) _ rfl ?_
           intro gg cap w1 hown hgrow hat hlt1))
      go_ret
      refine ⟨_, rfl, by simpa using hown, Below.grown (HE.out _) hgrow (by simp) (fun k hk => ?_)⟩
      simp [Value.ownBlock] at hk
      omega

end Go.Proofs.YthfafenigjldlaaGreat
