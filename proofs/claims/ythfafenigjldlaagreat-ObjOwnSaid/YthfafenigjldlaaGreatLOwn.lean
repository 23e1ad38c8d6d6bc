/-
  'interrexlaw1.ObjOwn': the walk (printed by mkown.py).
-/
import Derived.Test.YthfafenigjldlaaGreatGrow2
import Derived.Test.YthfafenigjldlaaGreatWays
import Derived.Test.YthfafenigjldlaaGreatEq4
import Derived.Deep.RegionHeld3
namespace Go.Proofs.YthfafenigjldlaaGreat
open Go.RowKit
set_option linter.unusedVariables false

set_option maxRecDepth 20000 in
set_option maxHeartbeats 16000000 in
theorem objOwn_any (HBA : Hid (∀ w : World, Calls Tryz.prog 17 #[] w fun e w' => e = .returned (.bool true) ∧ Ext w w')) (p : Pd) (qp : PA) (n : Nd) (qn : NA) (w : World)
    (hp : PodOk w p qp) (hn : NodeOk w n qn) (sp : PodSz 140737488351232 p) (sn : NodeSz 140737488351232 n) :
    Calls Tryz.prog 12 #[.agg (podC p qp).toArray, .agg (nodeC n qn).toArray] w fun e w' => e = .returned (.bool true) ∧ Ext w w' := by
  have HE1 := Lib.hid (boxedExt w (podC p qp) 66)
  obtain ⟨W1, hW1⟩ : ∃ W1, w.alloc (.cells (podC p qp).toArray 66) = W1 := ⟨_, rfl⟩
  rw [hW1] at HE1
  have HE2 := Lib.hid (boxedExt W1 (nodeC n qn) 68)
  obtain ⟨W2, hW2⟩ : ∃ W2, W1.alloc (.cells (nodeC n qn).toArray 68) = W2 := ⟨_, rfl⟩
  rw [hW2] at HE2
  have HBP : Hid (∀ wx, Ext W2 wx → WB wx w.heap.size 66 (podC p qp).toArray) := fun wx e => by
    have h1 := WB.new w 66 (podC p qp).toArray
    rw [hW1] at h1
    exact h1.ext (HE2.out.trans e)
  have HBN : Hid (∀ wx, Ext W2 wx → WB wx W1.heap.size 68 (nodeC n qn).toArray) := fun wx e => by
    have h1 := WB.new W1 68 (nodeC n qn).toArray
    rw [hW2] at h1
    exact h1.ext e
  have OP : Hid (∀ wx, Ext W2 wx → PodOk wx p qp) := fun wx e => hp.ext (HE1.out.trans (HE2.out.trans e))
  have ON : Hid (∀ wx, Ext W2 wx → NodeOk wx n qn) := fun wx e => hn.ext (HE1.out.trans (HE2.out.trans e))
  have HEX : Hid (∀ wx, Ext W2 wx → Ext w wx) := fun wx e => HE1.out.trans (HE2.out.trans e)
  have SC : Hid (PodScal p) := hp.scal
  have NS : Hid (okS n.name ∧ okR n.cap) := ⟨hn.name, hn.cap⟩
  have SP := Lib.hid sp
  have SN := Lib.hid sn
  clear hp hn HE1 HE2 sp sn
  obtain ⟨bp, hbp⟩ : ∃ b, w.heap.size = b := ⟨_, rfl⟩
  obtain ⟨bn, hbn⟩ : ∃ b, W1.heap.size = b := ⟨_, rfl⟩
  rw [hbp] at HBP
  rw [hbn] at HBN
  go_enter Tryz.func12, Tryz.ntmps12
  go_wp2_with fail
  refine (HBA.out _).mono ?_
  rintro e w1 ⟨rfl, a1⟩
  have E : Ext W2 w1 := a1
  clear a1
  go_wp2_with fail
  clear hW1 hW2 hbp hbn
  have CP : Hid (∀ wx, Ext W2 wx → Calls Tryz.prog 45 #[.agg (podC p qp).toArray] wx (CPPost p wx)) := fun wx e => copyPod_any p qp wx (OP.out _ e) (SP.out.fits (by omega))
  have CN : Hid (∀ wx, Ext W2 wx → Calls Tryz.prog 46 #[.agg (nodeC n qn).toArray] wx (CNPost n wx)) := fun wx e => copyNode_any n qn wx (ON.out _ e) (SN.out.fits (by omega))
  have E0 : Hid (Ext W2 w1) := E
  clear E
  refine two_own4 _ w1 p p qp qp bp _ _ _ _ _ _ _ _ _ _ _ _ _ _ _ _ _ _ _ _ _ _ _ _ _ _ _ _ _ _ _ _ _ _ _ _ _ _ _ _ _ _ _ _ _ _ _ _ _ _ _ _ _ _ _ _ _ _ _ _ _ _ _ _ _ _ _ _ _ _ _ _ _ _ _ _ _ _ _ _ _ _ _ _ _ _ _ _ _ _ _ _ _ _ _ _ _ _ _ _ _ _ _ _ _ _ _ _ _ _ _ _ _ _ _ _ _ _ _ _ _ _ _ _ _ _ _ _ _ _ _ _ _ _ _ _ _ _ _ _ _ _ _ _ _ _ _ _ _ _ _ _ _ _ _ _ _ _ _ _ _ _ _ _ _ (fun wx e => HBP.out _ (E0.out.trans e)) (fun wx e => HBP.out _ (E0.out.trans e)) (fun wx e => CP.out _ (E0.out.trans e)) (fun wx e => CP.out _ (E0.out.trans e)) ?_
  rintro n6 n7 lo5 v5 ⟨A1, d1, A2, d2, A3, d3, A4, d4, A5, d5, A6, d6⟩ lo6 v6 R w2 st
  obtain ⟨m1, hm1⟩ : ∃ m, p.ports.length = m := ⟨_, rfl⟩
  obtain ⟨m2, hm2⟩ : ∃ m, p.labels.length = m := ⟨_, rfl⟩
  obtain ⟨m3, hm3⟩ : ∃ m, p.sel.length = m := ⟨_, rfl⟩
  obtain ⟨m4, hm4⟩ : ∃ m, p.tols.length = m := ⟨_, rfl⟩
  obtain ⟨m5, hm5⟩ : ∃ m, p.anti.length = m := ⟨_, rfl⟩
  obtain ⟨m6, hm6⟩ : ∃ m, p.even.length = m := ⟨_, rfl⟩
  have RW : Hid (PodOwn lo5 v5 p ⟨A1, d1, A2, d2, A3, d3, A4, d4, A5, d5, A6, d6⟩) := (st.cp _ _ _ rfl).1
  have G0 : Hid (Gr w2 lo5 v5 0 w2) := Gr.start (st.cp _ _ _ rfl).2.2.1
  have LO : Hid (w1.heap.size ≤ lo5) := (st.cp _ _ _ rfl).2.1
  have X2 : Hid (Ext w1 w2) := st.ext
  have VS : Hid (v5.heap.size ≤ w2.heap.size) := (st.cp _ _ _ rfl).2.2.2.1
  have B6 : Hid (∀ t wr, Gr w2 lo5 v5 t wr → WB wr n6 66 #[.string p.name, .int .i64 p.uid, .int .i64 p.prio, .int .i64 p.req.a, .int .i64 p.req.b, .int .i64 p.req.c, .slice A1 m1 d1, .slice A2 m2 d2, .slice A3 m3 d3, .slice A4 m4 d4, .string p.topo, .slice A5 m5 d5, .int .i64 p.skew, .slice A6 m6 d6, .string p.node, .int .i64 p.term]) := fun t wr g => by
    have h := (st.bx _ _ rfl).1
    have k := (st.cp _ _ _ rfl).2.2.2.2.1 _ _ rfl
    have := g.wb h k
    rw [← hm1, ← hm2, ← hm3, ← hm4, ← hm5, ← hm6]
    exact this
  have B7 : Hid (∀ t wr, Gr w2 lo5 v5 t wr → WB wr n7 66 (podC p R).toArray ∧ PodOk wr p R) := fun t wr g => by
    have h := (st.by_ _ _ rfl).1
    have k := (st.cp _ _ _ rfl).2.2.2.2.2 _ _ rfl
    obtain ⟨a1, a2, a3, a4, a5, a6⟩ := st.dp _ _ _ rfl
    have s := st.sep _ _ _ _ _ _ rfl rfl
    refine ⟨g.wb h k, ?_⟩
    have r := a1.stretch (g.stretch a3 s a4) (Nat.le_refl _)
    exact r.rows.ok SC.out
  have SZ : Hid (m1 ≤ 17592186044416 ∧ m2 ≤ 8796093022208 ∧ m3 ≤ 8796093022208 ∧ m4 ≤ 8796093022208 ∧ m5 ≤ 8796093022208 ∧ m6 ≤ 8796093022208) := by
    have a1 := SP.out.ports
    have a2 := SP.out.labels.1
    have a3 := SP.out.sel.1
    have a4 := SP.out.tols
    have a5 := SP.out.anti.1
    have a6 := SP.out.even.1
    exact ⟨by omega, by omega, by omega, by omega, by omega, by omega⟩
  have HM : Hid (p.ports.length = m1 ∧ p.labels.length = m2 ∧ p.sel.length = m3 ∧ p.tols.length = m4 ∧ p.anti.length = m5 ∧ p.even.length = m6) := ⟨hm1, hm2, hm3, hm4, hm5, hm6⟩
  clear st hm1 hm2 hm3 hm4 hm5 hm6
  have bnd := SZ.out
  obtain ⟨bnd1, bnd2, bnd3, bnd4, bnd5, bnd6⟩ := bnd
  -- the ports
  have c6 := (B6.out _ _ G0.out).cell (i := 6) rfl
  go_wp2_with fail
  go_loopw [29] (fun i wr => ∃ k : Nat, k ≤ m1 ∧ i = .int .i64 k ∧ Gr w2 lo5 v5 0 wr) (fun i _ => m1 - (intOf i).toNat)
  case atStart => exact ⟨0, by omega, rfl, G0.out⟩
  clear c6
  obtain ⟨k, hk, rfl, hg⟩ := hrel
  have HG := Lib.hid hg
  clear hg
  by_cases hlt : k < m1
  · as_aux_lemma =>
    obtain ⟨b, f, x, rfl, _, hi, hc⟩ := RW.out.r1.sl.1.int (k := k) (by rw [HM.out.1]; exact hlt)
    have NX : Hid (∀ y, inI y → Gr w2 lo5 v5 0 (wr.setCell ⟨b, f + k, none⟩ (.int .i64 y))) := fun y hy => HG.out.set (Nat.le_refl _) hc (.int hy)
    obtain ⟨u, h1, h2, h3⟩ := HG.out.int hi hc
    have HI := Lib.hid h3
    have c6 := (B6.out _ _ HG.out).cell (i := 6) rfl
    clear hi hc h3
    go_wp2_with fail
    go_roundw
    case rel => exact ⟨k + 1, by omega, by go_num, NX.out _ (wrap_in _)⟩
    case measure => simp [intOf]; omega
  obtain rfl : m1 = k := by omega
  clear hlt hk
  -- the labels
  as_aux_lemma =>
    have c7 := (B6.out _ _ HG.out).cell (i := 7) rfl
    go_wp2_with fail
    go_loopw [43] (fun i wr => ∃ k : Nat, k ≤ m2 ∧ i = .int .i64 k ∧ Gr w2 lo5 v5 k wr) (fun i _ => m2 - (intOf i).toNat)
    case atStart => exact ⟨0, by omega, rfl, HG.out⟩
    clear c7 HG
    obtain ⟨k, hk, rfl, hg⟩ := hrel
    have HG := Lib.hid hg
    clear hg
    by_cases hlt : k < m2
    · as_aux_lemma =>
      obtain ⟨b, f, x, rfl, hx, _, hi, _, hc⟩ := RW.out.r2.sl.1.pair (k := k) (by rw [HM.out.2.1]; exact hlt)
      have hz : x.val.size ≤ 140737488351232 := (SP.out.labels.2 x (List.mem_of_getElem? hx)).2
      obtain ⟨u, h1, h2, h3⟩ := HG.out.str hc
      have hcat : ¬ 9223372036854775807 < u.size + 1 := by omega
      have NX : Hid (Gr w2 lo5 v5 (k + 1) (wr.setCell ⟨b, f + k * 2 + 1, none⟩ (.string (u ++ ⟨#[120]⟩)))) := HG.out.set (by omega) hc (.str (by rw [ByteArray.size_append]; show u.size + 1 ≤ _; omega))
      have c7 := (B6.out _ _ HG.out).cell (i := 7) rfl
      clear hx hi hc h3 hz
      go_wp2_with fail
      go_roundw
      case rel => exact ⟨k + 1, by omega, by go_num, NX.out⟩
      case measure => simp [intOf]; omega
    obtain rfl : m2 = k := by omega
    clear hlt hk
    -- the terms
    as_aux_lemma =>
      have c8 := (B6.out _ _ HG.out).cell (i := 8) rfl
      have c11 := (B6.out _ _ HG.out).cell (i := 11) rfl
      have c13 := (B6.out _ _ HG.out).cell (i := 13) rfl
      obtain ⟨q3, hq3⟩ : ∃ q, wr.heap.size = q := ⟨_, rfl⟩
      obtain ⟨W3, hW3⟩ : ∃ W, wr.alloc (.cells #[.slice A3 m3 d3, .slice A5 m5 d5, .slice A6 m6 d6] 23) = W := ⟨_, rfl⟩
      have BQ := WB.new wr 23 #[.slice A3 m3 d3, .slice A5 m5 d5, .slice A6 m6 d6]
      rw [hW3, hq3] at BQ
      have X3 : Hid (Ext wr W3) := by rw [← hW3]; exact (Ext.refl _).alloc _
      have G3 : Hid (Gr w2 lo5 v5 m2 W3) := HG.out.more X3.out
      have QL : Hid (v5.heap.size ≤ q3) := by
        have a1 := HG.out.size
        have a2 := VS.out
        show _ ≤ _
        omega
      have BQ3 : Hid (∀ t wx, Gr W3 lo5 v5 t wx → WB wx q3 23 #[.slice A3 m3 d3, .slice A5 m5 d5, .slice A6 m6 d6]) := fun t wx g => g.wb BQ (.inr QL.out)
      have TLS : Hid (TL lo5 v5 A3 m3 p.sel ∧ TL lo5 v5 A5 m5 p.anti ∧ TL lo5 v5 A6 m6 p.even) :=
        ⟨⟨HM.out.2.2.1, bnd3, RW.out.r3.sl.1, SP.out.sel.2⟩, ⟨HM.out.2.2.2.2.1, bnd5, RW.out.r5.sl.1, SP.out.anti.2⟩, ⟨HM.out.2.2.2.2.2, bnd6, RW.out.r6.sl.1, SP.out.even.2⟩⟩
      clear BQ
      go_wp2_with fail
      clear c8 c11 c13 hW3 hq3
      go_loopw [64] (fun i wr => ∃ j t0 : Nat, j ≤ 3 ∧ t0 ≤ 8796093022208 * (j + 1) ∧ i = .int .i64 j ∧ Gr W3 lo5 v5 t0 wr) (fun i _ => 3 - (intOf i).toNat)
      case atStart => exact ⟨0, m2, by omega, by omega, rfl, G3.out.here⟩
      clear HG
      obtain ⟨j, t0, hj, ht0, rfl, hg⟩ := hrel
      have HG := Lib.hid hg
      clear hg
      by_cases hlt : j < 3
      · as_aux_lemma =>
        obtain ⟨A, m, d, ts, hcell, htl⟩ : ∃ A m d ts, (#[.slice A3 m3 d3, .slice A5 m5 d5, .slice A6 m6 d6] : Array Value)[j]? = some (.slice A m d) ∧ TL lo5 v5 A m ts := by
          rcases (show j = 0 ∨ j = 1 ∨ j = 2 by omega) with rfl | rfl | rfl
          · exact ⟨_, _, _, _, rfl, TLS.out.1⟩
          · exact ⟨_, _, _, _, rfl, TLS.out.2.1⟩
          · exact ⟨_, _, _, _, rfl, TLS.out.2.2⟩
        have T := Lib.hid htl
        have bndm : m ≤ 8796093022208 := htl.le
        have cj := (BQ3.out _ _ HG.out).cell hcell
        clear htl hcell
        go_wp2_with fail
        go_loopw [70] (fun i wr => ∃ k : Nat, k ≤ m ∧ i = .int .i64 k ∧ Gr W3 lo5 v5 (t0 + k) wr) (fun i _ => m - (intOf i).toNat)
        case atStart => exact ⟨0, by omega, rfl, HG.out⟩
        clear cj HG
        obtain ⟨i, hi, rfl, hg⟩ := hrel
        have HG := Lib.hid hg
        clear hg
        by_cases hlti : i < m
        · as_aux_lemma =>
          obtain ⟨b, f, t, B, e, rfl, ht, _, hk, _, _, hv, _, hc1, hc2⟩ := T.out.sl.termT (k := i) (by rw [T.out.len]; exact hlti)
          obtain ⟨v, hvl⟩ : ∃ v, t.vals.length = v := ⟨_, rfl⟩
          rw [hvl] at hc2
          obtain ⟨u, h1, h2, h3⟩ := HG.out.int hk hc1
          obtain ⟨y, hy⟩ : ∃ y, IntKind.i64.wrap (u + 1) = y := ⟨_, rfl⟩
          have hyi : inI y := by rw [← hy, IntWalk.i64_left]; exact wrap_in _
          obtain ⟨W4, hW4⟩ : ∃ W, wr.setCell ⟨b, f + i * 3 + 1, none⟩ (.int .i64 y) = W := ⟨_, rfl⟩
          have G4 : Hid (Gr W3 lo5 v5 (t0 + i) W4) := by rw [← hW4]; exact HG.out.set (Nat.le_refl _) hc1 (.int hyi)
          have k2 := G4.out.slice hc2
          have SS : Hid (t.vals.length * 16 ≤ 140737488351232 ∧ ∀ v ∈ t.vals, v.size ≤ 140737488351232) := T.out.sz t (List.mem_of_getElem? ht)
          have bndv : v ≤ 8796093022208 := by have := SS.out.1; omega
          obtain ⟨bv, fv, hrow⟩ := hv.row
          have ROW := Lib.hid hrow
          have HC2 := Lib.hid hc2
          have HVL := Lib.hid hvl
          clear ht hk hv hc1 h3 hyi hrow hc2 hvl
          go_wp2_with fail
          clear h1 h2 k2 hW4 hy
          go_loopw [87] (fun l wr => ∃ k : Nat, k ≤ v ∧ l = .int .i64 k ∧ GrR W3 lo5 v5 (t0 + i) bv fv k wr) (fun l _ => v - (intOf l).toNat)
          case atStart => exact ⟨0, by omega, rfl, GrR.start G4.out bv fv⟩
          clear HG G4
          obtain ⟨k, hkv, rfl, hg⟩ := hrel
          have HG := Lib.hid hg
          clear hg
          by_cases hltk : k < v
          · as_aux_lemma =>
            obtain ⟨x, hx⟩ := get_of (xs := t.vals) (k := k) (by rw [HVL.out]; exact hltk)
            obtain ⟨rfl, hcx⟩ := ROW.out k x hx
            have hcy := (Typ.sub _ _).cell hcx
            have hz : x.size ≤ 140737488351232 := SS.out.2 x (List.mem_of_getElem? hx)
            obtain ⟨s, h1, h2, h3⟩ := HG.out.str hcy
            have hcat : ¬ 9223372036854775807 < s.size + 1 := by omega
            have NX : Hid (GrR W3 lo5 v5 (t0 + i) bv fv (k + 1) (wr.setCell ⟨bv, fv + k, none⟩ (.string (s ++ ⟨#[120]⟩)))) := HG.out.set hcy (by rw [ByteArray.size_append]; show s.size + 1 ≤ _; omega)
            have k2 := HG.out.gr.slice HC2.out
            clear hx hcx hcy hz h3
            go_wp2_with fail
            go_roundw
            case rel => exact ⟨k + 1, by omega, by go_num, NX.out⟩
            case measure => simp [intOf]; omega
          as_aux_lemma =>
            have NX : Hid (Gr W3 lo5 v5 (t0 + (i + 1)) wr) := HG.out.gr
            clear HG
            obtain rfl : v = k := by omega
            clear hltk hkv
            go_wp2_with fail
            go_roundw
            case rel => exact ⟨i + 1, by omega, by go_num, NX.out⟩
            case measure => simp [intOf]; omega
        as_aux_lemma =>
          have NX : Hid (Gr W3 lo5 v5 (t0 + m) wr) := HG.out.mono (by omega)
          clear HG
          obtain rfl : m = i := by omega
          clear hlti hi
          go_wp2_with fail
          go_roundw
          case rel => exact ⟨j + 1, t0 + m, by omega, by omega, by go_num, NX.out⟩
          case measure => simp [intOf]; omega
      obtain rfl : j = 3 := by omega
      rw [show ((3 : Nat) : Int) = 3 from rfl]
      clear hlt hj
      have HH : Hid (Gr w2 lo5 v5 t0 wr) := G3.out.trans HG.out
      clear HG G3
      -- the tolerations
      as_aux_lemma =>
        have c9 := (B6.out _ _ HH.out).cell (i := 9) rfl
        go_wp2_with fail
        go_loopw [106] (fun i wr => ∃ k : Nat, k ≤ m4 ∧ i = .int .i64 k ∧ Gr w2 lo5 v5 t0 wr) (fun i _ => m4 - (intOf i).toNat)
        case atStart => exact ⟨0, by omega, rfl, HH.out⟩
        clear c9 HH
        obtain ⟨k, hk, rfl, hg⟩ := hrel
        have HG := Lib.hid hg
        clear hg
        by_cases hlt : k < m4
        · as_aux_lemma =>
          obtain ⟨b, f, x, rfl, hx, _, _, _, _, hc⟩ := RW.out.r4.sl.1.tol (k := k) (by rw [HM.out.2.2.2.1]; exact hlt)
          have NX : Hid (∀ y, Gr w2 lo5 v5 t0 (wr.drew.setCell ⟨b, f + k * 3 + 2, none⟩ (.bool y))) := fun y => (HG.out.more (Ext.refl wr).drew).set (Nat.le_refl _) hc .bool
          obtain ⟨u, h1, h2⟩ := HG.out.bool hc
          have c9 := (B6.out _ _ HG.out).cell (i := 9) rfl
          clear hx hc
          go_wp2_with fail
          go_region
          all_goals (
            go_wp2_with fail
            go_roundw
            case rel => exact ⟨k + 1, by omega, by go_num, NX.out _⟩
            case measure => simp [intOf]; omega)
        obtain rfl : m4 = k := by omega
        clear hlt hk
        -- the nodes
        as_aux_lemma =>
          have XR : Hid (Ext w1 wr) := HG.out.ext LO.out X2.out
          have PB : Hid (∀ wx, Ext wr wx → WB wx n7 66 (podC p R).toArray ∧ PodOk wx p R) := fun wx e => ⟨(B7.out _ _ HG.out).1.ext e, (B7.out _ _ HG.out).2.ext e⟩
          obtain ⟨w3, hw3⟩ : ∃ W, W = wr := ⟨_, rfl⟩
          rw [← hw3] at XR PB ⊢
          clear hw3 HG B6 B7 RW G0 LO X2 VS SZ HM bnd1 bnd2 bnd3 bnd4 bnd5 bnd6 ht0
          go_wp2_with fail
          refine two_own34 _ w3 n n qn qn bn _ _ _ _ _ _ _ _ _ _ _ _ _ _ _ _ _ _ _ _ _ _ _ _ _ _ _ _ _ _ _ _ _ _ _ _ _ _ _ _ _ _ _ _ _ _ _ _ _ _ _ _ _ _ _ _ _ _ _ _ _ _ _ _ _ _ _ _ _ _ _ _ _ _ _ _ _ _ _ _ _ _ _ _ _ _ _ _ _ _ _ _ _ _ _ _ _ _ _ _ _ _ _ _ _ _ _ _ _ _ _ _ _ _ _ _ _ _ _ _ _ _ _ _ _ _ _ _ _ _ _ _ _ _ _ _ _ _ _ _ _ _ _ _ _ _ _ _ _ _ _ _ _ _ _ _ _ _ _ _ _ _ _ _ _ (fun wx e => HBN.out _ (E0.out.trans (XR.out.trans e))) (fun wx e => HBN.out _ (E0.out.trans (XR.out.trans e))) (fun wx e => CN.out _ (E0.out.trans (XR.out.trans e))) (fun wx e => CN.out _ (E0.out.trans (XR.out.trans e))) ?_
          rintro n15 n16 lo7 v7 ⟨N1, e1, N2, e2⟩ lo8 v8 N w4 st
          obtain ⟨l1, hl1⟩ : ∃ m, n.labels.length = m := ⟨_, rfl⟩
          obtain ⟨l2, hl2⟩ : ∃ m, n.taints.length = m := ⟨_, rfl⟩
          have RN : Hid (NodeOwn lo7 v7 n ⟨N1, e1, N2, e2⟩) := (st.cp _ _ _ rfl).1
          have G0 : Hid (Gr w4 lo7 v7 0 w4) := Gr.start (st.cp _ _ _ rfl).2.2.1
          have LO : Hid (w3.heap.size ≤ lo7) := (st.cp _ _ _ rfl).2.1
          have X4 : Hid (Ext w3 w4) := st.ext
          have B15 : Hid (∀ t wr, Gr w4 lo7 v7 t wr → WB wr n15 68 #[.string n.name, .int .i64 n.cap.a, .int .i64 n.cap.b, .int .i64 n.cap.c, .slice N1 l1 e1, .slice N2 l2 e2]) := fun t wr g => by
            have h := (st.bx _ _ rfl).1
            have k := (st.cp _ _ _ rfl).2.2.2.2.1 _ _ rfl
            have := g.wb h k
            rw [← hl1, ← hl2]
            exact this
          have B16 : Hid (∀ t wr, Gr w4 lo7 v7 t wr → WB wr n16 68 (nodeC n N).toArray ∧ NodeOk wr n N) := fun t wr g => by
            have h := (st.by_ _ _ rfl).1
            have k := (st.cp _ _ _ rfl).2.2.2.2.2 _ _ rfl
            obtain ⟨a1, a2, a3, a4, a5, a6⟩ := st.dp _ _ _ rfl
            have s := st.sep _ _ _ _ _ _ rfl rfl
            refine ⟨g.wb h k, ?_⟩
            have nw := a1.stretch (g.stretch a3 s a4) (Nat.le_refl _)
            exact (show NodeOk (Own lo8 _) n N from { name := NS.out.1, cap := NS.out.2, labels := nw.r1.sl.1, taints := nw.r2.sl.1, n1 := nw.r1.sl.2.1, m1 := nw.r1.sl.2.2, n2 := nw.r2.sl.2.1, m2 := nw.r2.sl.2.2 }).sub (Own.sub _ _)
          have bnd1 : l1 ≤ 8796093022208 := by have := SN.out.labels.1; omega
          have bnd2 : l2 ≤ 8796093022208 := by have := SN.out.taints.1; omega
          have HM : Hid (n.labels.length = l1 ∧ n.taints.length = l2) := ⟨hl1, hl2⟩
          clear st hl1 hl2
          have c4 := (B15.out _ _ G0.out).cell (i := 4) rfl
          go_wp2_with fail
          go_loopw [129] (fun i wr => ∃ k : Nat, k ≤ l1 ∧ i = .int .i64 k ∧ Gr w4 lo7 v7 k wr) (fun i _ => l1 - (intOf i).toNat)
          case atStart => exact ⟨0, by omega, rfl, G0.out⟩
          clear c4
          obtain ⟨k, hk, rfl, hg⟩ := hrel
          have HG := Lib.hid hg
          clear hg
          by_cases hlt : k < l1
          · as_aux_lemma =>
            obtain ⟨b, f, x, rfl, hx, hi, _, hc, _⟩ := RN.out.r1.sl.1.pair (k := k) (by rw [HM.out.1]; exact hlt)
            have hz : x.key.size ≤ 140737488351232 := (SN.out.labels.2 x (List.mem_of_getElem? hx)).1
            obtain ⟨u, h1, h2, h3⟩ := HG.out.str hc
            have hcat : ¬ 9223372036854775807 < u.size + 1 := by omega
            have NX : Hid (Gr w4 lo7 v7 (k + 1) (wr.setCell ⟨b, f + k * 2, none⟩ (.string (u ++ ⟨#[120]⟩)))) := HG.out.set (by omega) hc (.str (by rw [ByteArray.size_append]; show u.size + 1 ≤ _; omega))
            have c4 := (B15.out _ _ HG.out).cell (i := 4) rfl
            clear hx hi hc h3 hz
            go_wp2_with fail
            go_roundw
            case rel => exact ⟨k + 1, by omega, by go_num, NX.out⟩
            case measure => simp [intOf]; omega
          obtain rfl : l1 = k := by omega
          clear hlt hk
          as_aux_lemma =>
            have c5 := (B15.out _ _ HG.out).cell (i := 5) rfl
            go_wp2_with fail
            go_loopw [145] (fun i wr => ∃ k : Nat, k ≤ l2 ∧ i = .int .i64 k ∧ Gr w4 lo7 v7 (l1 + k) wr) (fun i _ => l2 - (intOf i).toNat)
            case atStart => exact ⟨0, by omega, rfl, HG.out⟩
            clear c5 HG
            obtain ⟨k, hk, rfl, hg⟩ := hrel
            have HG := Lib.hid hg
            clear hg
            by_cases hlt : k < l2
            · as_aux_lemma =>
              obtain ⟨b, f, x, rfl, hx, _, hi, _, hc⟩ := RN.out.r2.sl.1.pair (k := k) (by rw [HM.out.2]; exact hlt)
              have hz : x.val.size ≤ 140737488351232 := (SN.out.taints.2 x (List.mem_of_getElem? hx)).2
              obtain ⟨u, h1, h2, h3⟩ := HG.out.str hc
              have hcat : ¬ 9223372036854775807 < u.size + 1 := by omega
              have NX : Hid (Gr w4 lo7 v7 (l1 + (k + 1)) (wr.setCell ⟨b, f + k * 2 + 1, none⟩ (.string (u ++ ⟨#[120]⟩)))) := HG.out.set (by omega) hc (.str (by rw [ByteArray.size_append]; show u.size + 1 ≤ _; omega))
              have c5 := (B15.out _ _ HG.out).cell (i := 5) rfl
              clear hx hi hc h3 hz
              go_wp2_with fail
              go_roundw
              case rel => exact ⟨k + 1, by omega, by go_num, NX.out⟩
              case measure => simp [intOf]; omega
            obtain rfl : l2 = k := by omega
            clear hlt hk
            as_aux_lemma =>
              have XE : Hid (Ext w3 wr) := HG.out.ext LO.out X4.out
              have XF : Hid (∀ wx, Ext wr wx → Ext W2 wx) := fun wx e => E0.out.trans (XR.out.trans (XE.out.trans e))
              have HA : Hid (∀ wx, Ext wr wx → WB wx bp 66 #[.string p.name, .int .i64 p.uid, .int .i64 p.prio, .int .i64 p.req.a, .int .i64 p.req.b, .int .i64 p.req.c, .slice qp.a1 p.ports.length qp.c1, .slice qp.a2 p.labels.length qp.c2, .slice qp.a3 p.sel.length qp.c3, .slice qp.a4 p.tols.length qp.c4, .string p.topo, .slice qp.a5 p.anti.length qp.c5, .int .i64 p.skew, .slice qp.a6 p.even.length qp.c6, .string p.node, .int .i64 p.term]) := fun wx e => HBP.out _ (XF.out _ e)
              have HB : Hid (∀ wx, Ext wr wx → WB wx bn 68 #[.string n.name, .int .i64 n.cap.a, .int .i64 n.cap.b, .int .i64 n.cap.c, .slice qn.a1 n.labels.length qn.c1, .slice qn.a2 n.taints.length qn.c2]) := fun wx e => HBN.out _ (XF.out _ e)
              have HC : Hid (∀ wx, Ext wr wx → WB wx n7 66 #[.string p.name, .int .i64 p.uid, .int .i64 p.prio, .int .i64 p.req.a, .int .i64 p.req.b, .int .i64 p.req.c, .slice R.a1 p.ports.length R.c1, .slice R.a2 p.labels.length R.c2, .slice R.a3 p.sel.length R.c3, .slice R.a4 p.tols.length R.c4, .string p.topo, .slice R.a5 p.anti.length R.c5, .int .i64 p.skew, .slice R.a6 p.even.length R.c6, .string p.node, .int .i64 p.term]) := fun wx e => (PB.out _ (XE.out.trans e)).1
              have HD : Hid (∀ wx, Ext wr wx → WB wx n16 68 #[.string n.name, .int .i64 n.cap.a, .int .i64 n.cap.b, .int .i64 n.cap.c, .slice N.a1 n.labels.length N.c1, .slice N.a2 n.taints.length N.c2]) := fun wx e => (B16.out _ _ HG.out).1.ext e
              have C1 : Hid (∀ wx, Ext wr wx → Calls Tryz.prog 47 #[.agg #[.string p.name, .int .i64 p.uid, .int .i64 p.prio, .int .i64 p.req.a, .int .i64 p.req.b, .int .i64 p.req.c, .slice qp.a1 p.ports.length qp.c1, .slice qp.a2 p.labels.length qp.c2, .slice qp.a3 p.sel.length qp.c3, .slice qp.a4 p.tols.length qp.c4, .string p.topo, .slice qp.a5 p.anti.length qp.c5, .int .i64 p.skew, .slice qp.a6 p.even.length qp.c6, .string p.node, .int .i64 p.term], .agg #[.string p.name, .int .i64 p.uid, .int .i64 p.prio, .int .i64 p.req.a, .int .i64 p.req.b, .int .i64 p.req.c, .slice R.a1 p.ports.length R.c1, .slice R.a2 p.labels.length R.c2, .slice R.a3 p.sel.length R.c3, .slice R.a4 p.tols.length R.c4, .string p.topo, .slice R.a5 p.anti.length R.c5, .int .i64 p.skew, .slice R.a6 p.even.length R.c6, .string p.node, .int .i64 p.term]] wx fun e w' => e = .returned (.bool true) ∧ Ext wx w') := fun wx e => (eqPod_any p p qp R wx (OP.out _ (XF.out _ e)) (PB.out _ (XE.out.trans e)).2).mono fun _ _ h => eq_yes h rfl
              have C2 : Hid (∀ wx, Ext wr wx → Calls Tryz.prog 48 #[.agg #[.string n.name, .int .i64 n.cap.a, .int .i64 n.cap.b, .int .i64 n.cap.c, .slice qn.a1 n.labels.length qn.c1, .slice qn.a2 n.taints.length qn.c2], .agg #[.string n.name, .int .i64 n.cap.a, .int .i64 n.cap.b, .int .i64 n.cap.c, .slice N.a1 n.labels.length N.c1, .slice N.a2 n.taints.length N.c2]] wx fun e w' => e = .returned (.bool true) ∧ Ext wx w') := fun wx e => (eqNode_any n n qn N wx (ON.out _ (XF.out _ e)) ((B16.out _ _ HG.out).2.ext e)).mono fun _ _ h => eq_yes h rfl
              obtain ⟨w9, hw9⟩ : ∃ W, W = wr := ⟨_, rfl⟩
              rw [← hw9] at XF HA HB HC HD C1 C2 ⊢
              have E : Ext w9 w9 := Ext.refl _
              clear hw9 HG XE PB XR B15 B16 RN G0 LO X4 HM bnd1 bnd2 CP CN HBP HBN OP ON SP SN SC NS
              have PP := HA.out _ E
              have a0 := PP.cell (i := 0) rfl
              have a1 := PP.cell (i := 1) rfl
              have a2 := PP.cell (i := 2) rfl
              have a3 := PP.cell (i := 3) rfl
              have a4 := PP.cell (i := 4) rfl
              have a5 := PP.cell (i := 5) rfl
              have a6 := PP.cell (i := 6) rfl
              have a7 := PP.cell (i := 7) rfl
              have a8 := PP.cell (i := 8) rfl
              have a9 := PP.cell (i := 9) rfl
              have a10 := PP.cell (i := 10) rfl
              have a11 := PP.cell (i := 11) rfl
              have a12 := PP.cell (i := 12) rfl
              have a13 := PP.cell (i := 13) rfl
              have a14 := PP.cell (i := 14) rfl
              have a15 := PP.cell (i := 15) rfl
              clear PP
              have PP := HC.out _ E
              have b0 := PP.cell (i := 0) rfl
              have b1 := PP.cell (i := 1) rfl
              have b2 := PP.cell (i := 2) rfl
              have b3 := PP.cell (i := 3) rfl
              have b4 := PP.cell (i := 4) rfl
              have b5 := PP.cell (i := 5) rfl
              have b6 := PP.cell (i := 6) rfl
              have b7 := PP.cell (i := 7) rfl
              have b8 := PP.cell (i := 8) rfl
              have b9 := PP.cell (i := 9) rfl
              have b10 := PP.cell (i := 10) rfl
              have b11 := PP.cell (i := 11) rfl
              have b12 := PP.cell (i := 12) rfl
              have b13 := PP.cell (i := 13) rfl
              have b14 := PP.cell (i := 14) rfl
              have b15 := PP.cell (i := 15) rfl
              clear PP
              go_wp2_with fail
              refine (C1.out _ E).mono ?_
              rintro e wa ⟨rfl, ea⟩
              replace E := E.trans ea
              clear ea a0 a1 a2 a3 a4 a5 a6 a7 a8 a9 a10 a11 a12 a13 a14 a15 b0 b1 b2 b3 b4 b5 b6 b7 b8 b9 b10 b11 b12 b13 b14 b15
              have PP := HB.out _ E
              have a0 := PP.cell (i := 0) rfl
              have a1 := PP.cell (i := 1) rfl
              have a2 := PP.cell (i := 2) rfl
              have a3 := PP.cell (i := 3) rfl
              have a4 := PP.cell (i := 4) rfl
              have a5 := PP.cell (i := 5) rfl
              clear PP
              have PP := HD.out _ E
              have b0 := PP.cell (i := 0) rfl
              have b1 := PP.cell (i := 1) rfl
              have b2 := PP.cell (i := 2) rfl
              have b3 := PP.cell (i := 3) rfl
              have b4 := PP.cell (i := 4) rfl
              have b5 := PP.cell (i := 5) rfl
              clear PP
              go_wp2_with fail
              refine (C2.out _ E).mono ?_
              rintro e wb ⟨rfl, ea⟩
              replace E := E.trans ea
              clear ea a0 a1 a2 a3 a4 a5 b0 b1 b2 b3 b4 b5
              go_wp2_with fail
              go_ret
              exact ⟨rfl, HEX.out _ (XF.out _ E)⟩
end Go.Proofs.YthfafenigjldlaaGreat
