/-
  The walk of interrexlaw1.Some: a pod that may be.
-/
import Derived.Test.YthfafenigjldlaaGreatObj1
import Derived.Test.YthfafenigjldlaaGreatTab1
namespace Go.Proofs.YthfafenigjldlaaGreat
open Go.RowKit
set_option linter.unusedVariables false

def sz (l : List UInt8) : ByteArray := ⟨l.toArray⟩
def somePd : Pd :=
  { name := ⟨#[97]⟩, uid := 7, prio := 3, req := ⟨2, 3, 0⟩, ports := [80, 443], labels := [⟨⟨#[97, 112, 112]⟩, ⟨#[120]⟩⟩], sel := [⟨⟨#[122, 111, 110, 101]⟩, 1, [⟨#[97]⟩, ⟨#[98]⟩]⟩], tols := [⟨⟨#[]⟩, ⟨#[]⟩, true⟩],
    topo := ⟨#[122, 111, 110, 101]⟩, anti := [⟨⟨#[97, 112, 112]⟩, 3, []⟩], skew := 2, even := [], node := ⟨#[]⟩, term := 0 }
theorem chain7 (w : World) (n : Nat) (hn : n = w.heap.size) (p0 p1 p2 p3 p4 p5 p6 : Array Value) (T0 T1 T2 T3 T4 T5 T6 : TypeId) :
    WB (((((((w.alloc (.cells p0 T0)).alloc (.cells p1 T1)).alloc (.cells p2 T2)).alloc (.cells p3 T3)).alloc (.cells p4 T4)).alloc (.cells p5 T5)).alloc (.cells p6 T6)) (n) T0 p0 ∧ WB (((((((w.alloc (.cells p0 T0)).alloc (.cells p1 T1)).alloc (.cells p2 T2)).alloc (.cells p3 T3)).alloc (.cells p4 T4)).alloc (.cells p5 T5)).alloc (.cells p6 T6)) (n + 1) T1 p1 ∧ WB (((((((w.alloc (.cells p0 T0)).alloc (.cells p1 T1)).alloc (.cells p2 T2)).alloc (.cells p3 T3)).alloc (.cells p4 T4)).alloc (.cells p5 T5)).alloc (.cells p6 T6)) (n + 1 + 1) T2 p2 ∧ WB (((((((w.alloc (.cells p0 T0)).alloc (.cells p1 T1)).alloc (.cells p2 T2)).alloc (.cells p3 T3)).alloc (.cells p4 T4)).alloc (.cells p5 T5)).alloc (.cells p6 T6)) (n + 1 + 1 + 1) T3 p3 ∧ WB (((((((w.alloc (.cells p0 T0)).alloc (.cells p1 T1)).alloc (.cells p2 T2)).alloc (.cells p3 T3)).alloc (.cells p4 T4)).alloc (.cells p5 T5)).alloc (.cells p6 T6)) (n + 1 + 1 + 1 + 1) T4 p4 ∧ WB (((((((w.alloc (.cells p0 T0)).alloc (.cells p1 T1)).alloc (.cells p2 T2)).alloc (.cells p3 T3)).alloc (.cells p4 T4)).alloc (.cells p5 T5)).alloc (.cells p6 T6)) (n + 1 + 1 + 1 + 1 + 1) T5 p5 ∧ WB (((((((w.alloc (.cells p0 T0)).alloc (.cells p1 T1)).alloc (.cells p2 T2)).alloc (.cells p3 T3)).alloc (.cells p4 T4)).alloc (.cells p5 T5)).alloc (.cells p6 T6)) (n + 1 + 1 + 1 + 1 + 1 + 1) T6 p6 ∧ Ext w (((((((w.alloc (.cells p0 T0)).alloc (.cells p1 T1)).alloc (.cells p2 T2)).alloc (.cells p3 T3)).alloc (.cells p4 T4)).alloc (.cells p5 T5)).alloc (.cells p6 T6)) := by
  subst hn
  have e : ∀ (w : World) (o : Obj), (w.alloc o).heap.size = w.heap.size + 1 := fun w o => by simp
  refine ⟨?_, ?_, ?_, ?_, ?_, ?_, ?_, ?_⟩
  · have h := (((((((WB.new w T0 p0).alloc (.cells p1 T1)).alloc (.cells p2 T2)).alloc (.cells p3 T3)).alloc (.cells p4 T4)).alloc (.cells p5 T5)).alloc (.cells p6 T6))
    exact h
  · have h := ((((((WB.new (w.alloc (.cells p0 T0)) T1 p1).alloc (.cells p2 T2)).alloc (.cells p3 T3)).alloc (.cells p4 T4)).alloc (.cells p5 T5)).alloc (.cells p6 T6))
    simp only [e] at h
    exact h
  · have h := (((((WB.new ((w.alloc (.cells p0 T0)).alloc (.cells p1 T1)) T2 p2).alloc (.cells p3 T3)).alloc (.cells p4 T4)).alloc (.cells p5 T5)).alloc (.cells p6 T6))
    simp only [e] at h
    exact h
  · have h := ((((WB.new (((w.alloc (.cells p0 T0)).alloc (.cells p1 T1)).alloc (.cells p2 T2)) T3 p3).alloc (.cells p4 T4)).alloc (.cells p5 T5)).alloc (.cells p6 T6))
    simp only [e] at h
    exact h
  · have h := (((WB.new ((((w.alloc (.cells p0 T0)).alloc (.cells p1 T1)).alloc (.cells p2 T2)).alloc (.cells p3 T3)) T4 p4).alloc (.cells p5 T5)).alloc (.cells p6 T6))
    simp only [e] at h
    exact h
  · have h := ((WB.new (((((w.alloc (.cells p0 T0)).alloc (.cells p1 T1)).alloc (.cells p2 T2)).alloc (.cells p3 T3)).alloc (.cells p4 T4)) T5 p5).alloc (.cells p6 T6))
    simp only [e] at h
    exact h
  · have h := (WB.new ((((((w.alloc (.cells p0 T0)).alloc (.cells p1 T1)).alloc (.cells p2 T2)).alloc (.cells p3 T3)).alloc (.cells p4 T4)).alloc (.cells p5 T5)) T6 p6)
    simp only [e] at h
    exact h
  · exact ((((((((Ext.refl w).alloc _).alloc _).alloc _).alloc _).alloc _).alloc _).alloc _)
theorem some_ok (W : World) (n : Nat) (b1 : WB W (n + 1) 3 #[.int .i64 80, .int .i64 443]) (b2 : WB W (n + 1 + 1) 37 #[.string ⟨#[97, 112, 112]⟩, .string ⟨#[120]⟩]) (b3 : WB W (n + 1 + 1 + 1) 9 #[.string ⟨#[97]⟩, .string ⟨#[98]⟩]) (b4 : WB W (n + 1 + 1 + 1 + 1) 41 #[.string ⟨#[122, 111, 110, 101]⟩, .int .i64 1, .slice (some ⟨n + 1 + 1 + 1, 0, none⟩) 2 2]) (b5 : WB W (n + 1 + 1 + 1 + 1 + 1) 52 #[.string ⟨#[]⟩, .string ⟨#[]⟩, .bool true]) (b6 : WB W (n + 1 + 1 + 1 + 1 + 1 + 1) 41 #[.string ⟨#[97, 112, 112]⟩, .int .i64 3, .slice none 0 0]) :
    PodOk W somePd ⟨some ⟨n + 1, 0, none⟩, 2, some ⟨n + 1 + 1, 0, none⟩, 1, some ⟨n + 1 + 1 + 1 + 1, 0, none⟩, 1, some ⟨n + 1 + 1 + 1 + 1 + 1, 0, none⟩, 1, some ⟨n + 1 + 1 + 1 + 1 + 1 + 1, 0, none⟩, 1, none, 0⟩ := by
  have ok : ∀ s : ByteArray, s.size ≤ 9 → okS s := fun s h => by unfold okS maxLen; omega
  have oi : ∀ x : Int, 0 ≤ x → x ≤ 1000 → inI x := fun x h1 h2 => ⟨by omega, by omega⟩
  have sv : Sl RStr 1 W (some ⟨n + 1 + 1 + 1, 0, none⟩) [⟨#[97]⟩, ⟨#[98]⟩] := by
    intro k x hx
    match k, hx with
    | 0, hx => obtain rfl : (⟨#[97]⟩ : ByteArray) = x := by simpa using hx
               exact ⟨_, 0, [_], rfl, rfl, fun j u hu => by match j, hu with | 0, hu => (injection hu with hu; subst hu; exact b3.cell (i := 0) rfl), rfl, ok _ (by decide)⟩
    | 1, hx => obtain rfl : (⟨#[98]⟩ : ByteArray) = x := by simpa using hx
               exact ⟨_, 0, [_], rfl, rfl, fun j u hu => by match j, hu with | 0, hu => (injection hu with hu; subst hu; exact b3.cell (i := 1) rfl), rfl, ok _ (by decide)⟩
    | k + 2, hx => simp at hx
  refine ⟨ok _ (by decide), oi _ (by decide) (by decide), oi _ (by decide) (by decide), ⟨oi _ (by decide) (by decide), oi _ (by decide) (by decide), oi _ (by decide) (by decide)⟩, ?_, ?_, ?_, ?_, ok _ (by decide), ?_, oi _ (by decide) (by decide), Sl.nil, ok _ (by decide), oi _ (by decide) (by decide),
    by simp [somePd], by simp [maxLen], by simp [somePd], by simp [maxLen], by simp [somePd], by simp [maxLen], by simp [somePd], by simp [maxLen], by simp [somePd], by simp [maxLen], by simp [somePd], by simp [maxLen]⟩
  · intro k x hx
    match k, hx with
    | 0, hx => obtain rfl : 80 = x := by simpa [somePd] using hx
               exact ⟨_, 0, [_], rfl, rfl, fun j u hu => by match j, hu with | 0, hu => (injection hu with hu; subst hu; exact b1.cell (i := 0) rfl), rfl, oi _ (by decide) (by decide)⟩
    | 1, hx => obtain rfl : 443 = x := by simpa [somePd] using hx
               exact ⟨_, 0, [_], rfl, rfl, fun j u hu => by match j, hu with | 0, hu => (injection hu with hu; subst hu; exact b1.cell (i := 1) rfl), rfl, oi _ (by decide) (by decide)⟩
    | k + 2, hx => simp [somePd] at hx
  · intro k x hx
    match k, hx with
    | 0, hx => obtain rfl : (⟨⟨#[97, 112, 112]⟩, ⟨#[120]⟩⟩ : Pr) = x := by simpa [somePd] using hx
               exact ⟨_, 0, [_, _], rfl, rfl, fun j u hu => by match j, hu with | 0, hu => (injection hu with hu; subst hu; exact b2.cell (i := 0) rfl) | 1, hu => (injection hu with hu; subst hu; exact b2.cell (i := 1) rfl), rfl, ok _ (by decide), ok _ (by decide)⟩
    | k + 1, hx => simp [somePd] at hx
  · intro k x hx
    match k, hx with
    | 0, hx => obtain rfl : (⟨⟨#[122, 111, 110, 101]⟩, 1, [⟨#[97]⟩, ⟨#[98]⟩]⟩ : Tm) = x := by simpa [somePd] using hx
               exact ⟨_, 0, [_, _, _], rfl, rfl, fun j u hu => by match j, hu with | 0, hu => (injection hu with hu; subst hu; exact b4.cell (i := 0) rfl) | 1, hu => (injection hu with hu; subst hu; exact b4.cell (i := 1) rfl) | 2, hu => (injection hu with hu; subst hu; exact b4.cell (i := 2) rfl),
                 _, 2, rfl, ok _ (by decide), oi _ (by decide) (by decide), by decide, by simp [maxLen], sv⟩
    | k + 1, hx => simp [somePd] at hx
  · intro k x hx
    match k, hx with
    | 0, hx => obtain rfl : (⟨⟨#[]⟩, ⟨#[]⟩, true⟩ : Tl) = x := by simpa [somePd] using hx
               exact ⟨_, 0, [_, _, _], rfl, rfl, fun j u hu => by match j, hu with | 0, hu => (injection hu with hu; subst hu; exact b5.cell (i := 0) rfl) | 1, hu => (injection hu with hu; subst hu; exact b5.cell (i := 1) rfl) | 2, hu => (injection hu with hu; subst hu; exact b5.cell (i := 2) rfl), rfl, ok _ (by decide), ok _ (by decide)⟩
    | k + 1, hx => simp [somePd] at hx
  · intro k x hx
    match k, hx with
    | 0, hx => obtain rfl : (⟨⟨#[97, 112, 112]⟩, 3, []⟩ : Tm) = x := by simpa [somePd] using hx
               exact ⟨_, 0, [_, _, _], rfl, rfl, fun j u hu => by match j, hu with | 0, hu => (injection hu with hu; subst hu; exact b6.cell (i := 0) rfl) | 1, hu => (injection hu with hu; subst hu; exact b6.cell (i := 1) rfl) | 2, hu => (injection hu with hu; subst hu; exact b6.cell (i := 2) rfl),
                 none, 0, rfl, ok _ (by decide), oi _ (by decide) (by decide), by decide, by simp [maxLen], Sl.nil⟩
    | k + 1, hx => simp [somePd] at hx
set_option maxHeartbeats 1000000 in
theorem some_any (w : World) : Calls Tryz.prog 58 #[] w fun e w' => ∃ q, e = .returned (.agg (podC somePd q).toArray) ∧ Ext w w' ∧ PodOk w' somePd q := by
  go_enter Tryz.func58, Tryz.ntmps58
  go_wp2_with fail
  obtain ⟨n, hn⟩ : ∃ n, n = w.heap.size := ⟨_, rfl⟩
  have CH := chain7 w n hn #[.string ⟨#[97]⟩, .int .i64 7, .int .i64 3, .int .i64 2, .int .i64 3, .int .i64 0, .slice (some ⟨n + 1, 0, none⟩) 2 2, .slice (some ⟨n + 1 + 1, 0, none⟩) 1 1, .slice (some ⟨n + 1 + 1 + 1 + 1, 0, none⟩) 1 1, .slice (some ⟨n + 1 + 1 + 1 + 1 + 1, 0, none⟩) 1 1, .string ⟨#[122, 111, 110, 101]⟩, .slice (some ⟨n + 1 + 1 + 1 + 1 + 1 + 1, 0, none⟩) 1 1, .int .i64 2, .slice none 0 0, .string ⟨#[]⟩, .int .i64 0] #[.int .i64 80, .int .i64 443] #[.string ⟨#[97, 112, 112]⟩, .string ⟨#[120]⟩] #[.string ⟨#[97]⟩, .string ⟨#[98]⟩] #[.string ⟨#[122, 111, 110, 101]⟩, .int .i64 1, .slice (some ⟨n + 1 + 1 + 1, 0, none⟩) 2 2] #[.string ⟨#[]⟩, .string ⟨#[]⟩, .bool true] #[.string ⟨#[97, 112, 112]⟩, .int .i64 3, .slice none 0 0] 66 3 37 9 41 52 41
  rw [← hn]
  clear hn
  obtain ⟨W, hW⟩ : ∃ W, W = (((((((w.alloc (.cells #[.string ⟨#[97]⟩, .int .i64 7, .int .i64 3, .int .i64 2, .int .i64 3, .int .i64 0, .slice (some ⟨n + 1, 0, none⟩) 2 2, .slice (some ⟨n + 1 + 1, 0, none⟩) 1 1, .slice (some ⟨n + 1 + 1 + 1 + 1, 0, none⟩) 1 1, .slice (some ⟨n + 1 + 1 + 1 + 1 + 1, 0, none⟩) 1 1, .string ⟨#[122, 111, 110, 101]⟩, .slice (some ⟨n + 1 + 1 + 1 + 1 + 1 + 1, 0, none⟩) 1 1, .int .i64 2, .slice none 0 0, .string ⟨#[]⟩, .int .i64 0] 66)).alloc (.cells #[.int .i64 80, .int .i64 443] 3)).alloc (.cells #[.string ⟨#[97, 112, 112]⟩, .string ⟨#[120]⟩] 37)).alloc (.cells #[.string ⟨#[97]⟩, .string ⟨#[98]⟩] 9)).alloc (.cells #[.string ⟨#[122, 111, 110, 101]⟩, .int .i64 1, .slice (some ⟨n + 1 + 1 + 1, 0, none⟩) 2 2] 41)).alloc (.cells #[.string ⟨#[]⟩, .string ⟨#[]⟩, .bool true] 52)).alloc (.cells #[.string ⟨#[97, 112, 112]⟩, .int .i64 3, .slice none 0 0] 41)) := ⟨_, rfl⟩
  rw [← hW] at CH ⊢
  clear hW
  obtain ⟨b0, b1, b2, b3, b4, b5, b6, e⟩ := CH
  have F := Lib.hid (some_ok W n b1 b2 b3 b4 b5 b6)
  have HE := Lib.hid e
  clear b1 b2 b3 b4 b5 b6 e
  have f0 := b0.cell (i := 0) rfl
  have f1 := b0.cell (i := 1) rfl
  have f2 := b0.cell (i := 2) rfl
  have f3 := b0.cell (i := 3) rfl
  have f4 := b0.cell (i := 4) rfl
  have f5 := b0.cell (i := 5) rfl
  have f6 := b0.cell (i := 6) rfl
  have f7 := b0.cell (i := 7) rfl
  have f8 := b0.cell (i := 8) rfl
  have f9 := b0.cell (i := 9) rfl
  have f10 := b0.cell (i := 10) rfl
  have f11 := b0.cell (i := 11) rfl
  have f12 := b0.cell (i := 12) rfl
  have f13 := b0.cell (i := 13) rfl
  have f14 := b0.cell (i := 14) rfl
  have f15 := b0.cell (i := 15) rfl
  clear b0
  refine bodyPost_ret (v := .agg #[.string ⟨#[97]⟩, .int .i64 7, .int .i64 3, .int .i64 2, .int .i64 3, .int .i64 0, .slice (some ⟨n + 1, 0, none⟩) 2 2, .slice (some ⟨n + 1 + 1, 0, none⟩) 1 1, .slice (some ⟨n + 1 + 1 + 1 + 1, 0, none⟩) 1 1, .slice (some ⟨n + 1 + 1 + 1 + 1 + 1, 0, none⟩) 1 1, .string ⟨#[122, 111, 110, 101]⟩, .slice (some ⟨n + 1 + 1 + 1 + 1 + 1 + 1, 0, none⟩) 1 1, .int .i64 2, .slice none 0 0, .string ⟨#[]⟩, .int .i64 0]) (by simp [results, Tryz.results58, go_sem, f0, f1, f2, f3, f4, f5, f6, f7, f8, f9, f10, f11, f12, f13, f14, f15]) rfl ?_
  exact ⟨_, rfl, HE.out, F.out⟩
end Go.Proofs.YthfafenigjldlaaGreat
