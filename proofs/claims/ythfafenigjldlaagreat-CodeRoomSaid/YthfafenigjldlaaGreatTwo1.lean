/-
  The region that makes two copies and lays them into two boxes, in whatever order (printed by mkpart.py).
-/
import Derived.Test.YthfafenigjldlaaGreatStep3
import Derived.Test.YthfafenigjldlaaGreatFits
import Derived.Test.YthfafenigjldlaaGreatBegun0
namespace Go.Proofs.YthfafenigjldlaaGreat
open Go.RowKit
set_option linter.unusedVariables false
theorem pod_info : (Tryz.prog.info? 66).map (fun i => (i.zero, i.size, i.bytes)) = some (some (.agg #[.string ⟨#[]⟩, .int .i64 0, .int .i64 0, .int .i64 0, .int .i64 0, .int .i64 0, .slice none 0 0, .slice none 0 0, .slice none 0 0, .slice none 0 0, .string ⟨#[]⟩, .slice none 0 0, .int .i64 0, .slice none 0 0, .string ⟨#[]⟩, .int .i64 0]), 16, 248) := by kernel_rfl
theorem node_info : (Tryz.prog.info? 68).map (fun i => (i.zero, i.size, i.bytes)) = some (some (.agg #[.string ⟨#[]⟩, .int .i64 0, .int .i64 0, .int .i64 0, .slice none 0 0, .slice none 0 0]), 6, 88) := by kernel_rfl
theorem podC_one (p : Pd) (q : PA) : ∀ v ∈ (podC p q).toArray.toList, v.oneCell' = true := by
  intro v hv
  simp only [podC, List.mem_cons, List.not_mem_nil, or_false] at hv
  rcases hv with rfl | rfl | rfl | rfl | rfl | rfl | rfl | rfl | rfl | rfl | rfl | rfl | rfl | rfl | rfl | rfl <;> rfl
theorem nodeC_one (p : Nd) (q : NA) : ∀ v ∈ (nodeC p q).toArray.toList, v.oneCell' = true := by
  intro v hv
  simp only [nodeC, List.mem_cons, List.not_mem_nil, or_false] at hv
  rcases hv with rfl | rfl | rfl | rfl | rfl | rfl <;> rfl

noncomputable def rg_part : Code := ((Tryz.f13.body.bind (findRegion 4)).getD .skip)
noncomputable def ops_part : Array Oper := match rg_part with | .region _ ops _ => ops | _ => #[]
theorem key_part : ∀ b0 b1 b2 b3 b4 b5 b6 b7 : Bool, (Region.ready .any ops_part #[b0, b1, b2, b3, b4, b5, b6, b7]).all (fun i =>
    match i with
    | 0 => !b0 | 1 => !b1 && b0 | 2 => !b2 | 3 => !b3 && b2 && b1 | 4 => !b4 | 5 => !b5 | 6 => !b6 && b4 && b1 | 7 => !b7 && b5 && b3 | _ => false) = true := by decide +kernel
theorem end_part : ∀ b0 b1 b2 b3 b4 b5 b6 b7 : Bool, Region.ready .any ops_part #[b0, b1, b2, b3, b4, b5, b6, b7] = [] → (b0 && b1 && b2 && b3 && b4 && b5 && b6 && b7) = true := by decide +kernel
set_option maxRecDepth 100000 in
set_option maxHeartbeats 4000000 in
theorem two_part (Q0 : Exit → Act → World → Prop) (U : World) (p : Pd) (n : Nd) (qa : PA) (qb : NA) (ba bb : Nat) (u0 u1 u2 u5 u6 u7 u8 u9 u10 u11 u12 u13 u14 u15 u16 u17 u18 u19 u20 u21 u22 u23 u24 u25 u26 u27 u28 u29 u30 u31 u32 u33 u34 u35 u36 u37 u38 u39 u40 u41 u42 u43 u44 u45 u46 u47 u48 u49 u50 u51 u52 u53 u54 u55 u56 u57 u58 u59 u60 u61 u62 u63 u64 u65 u66 u67 u68 u69 u70 u71 u72 u73 u74 u75 u76 u77 u78 u79 u80 u81 u82 u83 u84 u85 u86 u87 u88 u89 u90 u91 u92 u93 u94 u95 u96 u97 u98 u99 u100 u101 u102 u103 u104 u105 u106 u107 u108 u109 u110 u111 u112 u113 u114 u115 u116 u117 u118 u119 u120 u121 u122 u123 u124 u125 u126 u127 u128 u129 u130 u131 u132 u133 u134 u135 u136 u137 u138 u139 : Value)
    (HA : Hid (∀ wx, Ext U wx → WB wx ba 66 (podC p qa).toArray)) (HB : Hid (∀ wx, Ext U wx → WB wx bb 68 (nodeC n qb).toArray))
    (CA : Hid (∀ wx, Ext U wx → Calls Tryz.prog 45 #[.agg (podC p qa).toArray] wx (CPPost p wx))) (CB : Hid (∀ wx, Ext U wx → Calls Tryz.prog 46 #[.agg (nodeC n qb).toArray] wx (CNPost n wx)))
    (hexit : Hid (∀ (n8 n9 lo5 : Nat) (w5 : World) (Q : PA) (lo6 : Nat) (w6 : World) (N : NA) (wx : World), StPN U p n (some (n8, (podC p Q).toArray)) (some (n9, (nodeC n N).toArray)) (some (lo5, w5, Q)) (some (lo6, w6, N)) wx → Q0 .normal ⟨#[u0, u1, u2, .pointer (some ⟨ba, 0, none⟩), .pointer (some ⟨bb, 0, none⟩), u5, u6, u7, .pointer (some ⟨n8, 0, none⟩), .pointer (some ⟨n9, 0, none⟩), u10, u11, u12, (.agg (podC p qa).toArray), (.agg (podC p Q).toArray), (.agg (nodeC n qb).toArray), (.agg (nodeC n N).toArray), u17, u18, u19, u20, u21, u22, u23, u24, u25, u26, u27, u28, u29, u30, u31, u32, u33, u34, u35, u36, u37, u38, u39, u40, u41, u42, u43, u44, u45, u46, u47, u48, u49, u50, u51, u52, u53, u54, u55, u56, u57, u58, u59, u60, u61, u62, u63, u64, u65, u66, u67, u68, u69, u70, u71, u72, u73, u74, u75, u76, u77, u78, u79, u80, u81, u82, u83, u84, u85, u86, u87, u88, u89, u90, u91, u92, u93, u94, u95, u96, u97, u98, u99, u100, u101, u102, u103, u104, u105, u106, u107, u108, u109, u110, u111, u112, u113, u114, u115, u116, u117, u118, u119, u120, u121, u122, u123, u124, u125, u126, u127, u128, u129, u130, u131, u132, u133, u134, u135, u136, u137, u138, u139], []⟩ wx)) :
    Code.wp Tryz.prog rg_part Q0 ⟨#[u0, u1, u2, .pointer (some ⟨ba, 0, none⟩), .pointer (some ⟨bb, 0, none⟩), u5, u6, u7, u8, u9, u10, u11, u12, u13, u14, u15, u16, u17, u18, u19, u20, u21, u22, u23, u24, u25, u26, u27, u28, u29, u30, u31, u32, u33, u34, u35, u36, u37, u38, u39, u40, u41, u42, u43, u44, u45, u46, u47, u48, u49, u50, u51, u52, u53, u54, u55, u56, u57, u58, u59, u60, u61, u62, u63, u64, u65, u66, u67, u68, u69, u70, u71, u72, u73, u74, u75, u76, u77, u78, u79, u80, u81, u82, u83, u84, u85, u86, u87, u88, u89, u90, u91, u92, u93, u94, u95, u96, u97, u98, u99, u100, u101, u102, u103, u104, u105, u106, u107, u108, u109, u110, u111, u112, u113, u114, u115, u116, u117, u118, u119, u120, u121, u122, u123, u124, u125, u126, u127, u128, u129, u130, u131, u132, u133, u134, u135, u136, u137, u138, u139], []⟩ U := by
  obtain ⟨pi, hpi, pz, ps, pb⟩ := info_parts pod_info
  obtain ⟨ni, hni, nz, ns, nb⟩ := info_parts node_info
  have hrg : rg_part = .region 4 ops_part true := by kernel_rfl
  rw [hrg]
  refine wp_region_inv (by kernel_rfl) (fun listed a wx => ∃ (b0 b1 b2 b3 b4 b5 b6 b7 : Bool) (v8 v9 v13 v14 v15 v16 : Value) (n8 n9 lo5 : Nat) (w5 : World) (Q : PA) (lo6 : Nat) (w6 : World) (N : NA), listed = #[b0, b1, b2, b3, b4, b5, b6, b7] ∧ a = ⟨#[u0, u1, u2, .pointer (some ⟨ba, 0, none⟩), .pointer (some ⟨bb, 0, none⟩), u5, u6, u7, v8, v9, u10, u11, u12, v13, v14, v15, v16, u17, u18, u19, u20, u21, u22, u23, u24, u25, u26, u27, u28, u29, u30, u31, u32, u33, u34, u35, u36, u37, u38, u39, u40, u41, u42, u43, u44, u45, u46, u47, u48, u49, u50, u51, u52, u53, u54, u55, u56, u57, u58, u59, u60, u61, u62, u63, u64, u65, u66, u67, u68, u69, u70, u71, u72, u73, u74, u75, u76, u77, u78, u79, u80, u81, u82, u83, u84, u85, u86, u87, u88, u89, u90, u91, u92, u93, u94, u95, u96, u97, u98, u99, u100, u101, u102, u103, u104, u105, u106, u107, u108, u109, u110, u111, u112, u113, u114, u115, u116, u117, u118, u119, u120, u121, u122, u123, u124, u125, u126, u127, u128, u129, u130, u131, u132, u133, u134, u135, u136, u137, u138, u139], []⟩ ∧ (b0 = true → v13 = (.agg (podC p qa).toArray)) ∧ (b1 = true → v14 = .agg (podC p Q).toArray) ∧ (b2 = true → v15 = (.agg (nodeC n qb).toArray)) ∧ (b3 = true → v16 = .agg (nodeC n N).toArray) ∧ (b4 = true → v8 = .pointer (some ⟨n8, 0, none⟩)) ∧ (b5 = true → v9 = .pointer (some ⟨n9, 0, none⟩)) ∧ (b3 = true → b1 = true) ∧ (b6 = true → b4 = true ∧ b1 = true) ∧ (b7 = true → b5 = true ∧ b3 = true) ∧ StPN U p n (if b4 then some (n8, if b6 then (podC p Q).toArray else #[.string ⟨#[]⟩, .int .i64 0, .int .i64 0, .int .i64 0, .int .i64 0, .int .i64 0, .slice none 0 0, .slice none 0 0, .slice none 0 0, .slice none 0 0, .string ⟨#[]⟩, .slice none 0 0, .int .i64 0, .slice none 0 0, .string ⟨#[]⟩, .int .i64 0]) else none) (if b5 then some (n9, if b7 then (nodeC n N).toArray else #[.string ⟨#[]⟩, .int .i64 0, .int .i64 0, .int .i64 0, .slice none 0 0, .slice none 0 0]) else none) (if b1 then some (lo5, w5, Q) else none) (if b3 then some (lo6, w6, N) else none) wx) ?_ ?_ ?_
  · refine ⟨false, false, false, false, false, false, false, false, u8, u9, u13, u14, u15, u16, 0, 0, 0, U, qa, 0, U, qb, by kernel_rfl, rfl, by simp, by simp, by simp, by simp, by simp, by simp, by simp, by simp, by simp, ?_⟩
    exact (StPN.start U p n).more (Ext.refl U).drew
  · rintro listed a wx i ⟨b0, b1, b2, b3, b4, b5, b6, b7, v8, v9, v13, v14, v15, v16, n8, n9, lo5, w5, Q, lo6, w6, N, rfl, rfl, h0, h1, h2, h3, h4, h5, h6, h7, h8, st⟩ hi
    have hk := List.all_eq_true.1 (key_part b0 b1 b2 b3 b4 b5 b6 b7) i hi
    clear hi
    match i, hk with
    | 0, hk =>
      refine wpOp_step rfl fun K hK => ?_
      refine step_load _ rfl 66 (.tmp 3) rfl pi hpi _ Tryz.underlying66 rfl ba (podC p qa).toArray 66 rfl (HA.out _ st.ext) ps (hK _ _ ?_)
      exact ⟨true, b1, b2, b3, b4, b5, b6, b7, v8, v9, _, v14, v15, v16, n8, n9, lo5, w5, Q, lo6, w6, N, rfl, rfl, fun _ => rfl, h1, h2, h3, h4, h5, h6, h7, h8, st⟩
    | 1, hk =>
      obtain ⟨rfl, rfl⟩ : b1 = false ∧ b0 = true := by simpa using hk
      obtain rfl : b3 = false := by cases b3 with | false => rfl | true => exact absurd (h6 rfl) (by simp)
      obtain rfl : b6 = false := by cases b6 with | false => rfl | true => exact absurd (h7 rfl).2 (by simp)
      obtain rfl := h0 rfl
      refine wpOp_step rfl fun K hK => ?_
      refine step_call _ rfl 45 (.tmp 13) 66 rfl (.agg (podC p qa).toArray) rfl (call_run _ _ _ _ Tryz.func45 (by kernel_rfl) (by kernel_rfl)) _ (CA.out _ st.ext) ?_
      rintro e v5 ⟨Q5, rfl, e5, o5⟩
      refine ⟨_, rfl, hK _ _ ?_⟩
      exact ⟨true, true, b2, false, b4, b5, false, b7, v8, v9, _, _, v15, v16, n8, n9, wx.heap.size, v5, Q5, lo6, w6, N, rfl, rfl, fun _ => rfl, fun _ => rfl, h2, by simp, h4, h5, by simp, by simp, h8, st.callC e5 o5⟩
    | 2, hk =>
      refine wpOp_step rfl fun K hK => ?_
      refine step_load _ rfl 68 (.tmp 4) rfl ni hni _ Tryz.underlying68 rfl bb (nodeC n qb).toArray 68 rfl (HB.out _ st.ext) ns (hK _ _ ?_)
      exact ⟨b0, b1, true, b3, b4, b5, b6, b7, v8, v9, v13, v14, _, v16, n8, n9, lo5, w5, Q, lo6, w6, N, rfl, rfl, h0, h1, fun _ => rfl, h3, h4, h5, h6, h7, h8, st⟩
    | 3, hk =>
      obtain ⟨⟨rfl, rfl⟩, rfl⟩ : (b3 = false ∧ b2 = true) ∧ b1 = true := by simpa using hk
      obtain rfl : b7 = false := by cases b7 with | false => rfl | true => exact absurd (h8 rfl).2 (by simp)
      obtain rfl := h2 rfl
      refine wpOp_step rfl fun K hK => ?_
      refine step_call _ rfl 46 (.tmp 15) 68 rfl (.agg (nodeC n qb).toArray) rfl (call_run _ _ _ _ Tryz.func46 (by kernel_rfl) (by kernel_rfl)) _ (CB.out _ st.ext) ?_
      rintro e v6 ⟨N6, rfl, e6, o6⟩
      refine ⟨_, rfl, hK _ _ ?_⟩
      exact ⟨b0, true, true, true, b4, b5, b6, false, v8, v9, v13, v14, _, _, n8, n9, lo5, w5, Q, wx.heap.size, v6, N6, rfl, rfl, h0, h1, fun _ => rfl, fun _ => rfl, h4, h5, by simp, h7, by simp, st.callD e6 o6⟩
    | 4, hk =>
      obtain rfl : b4 = false := by simpa using hk
      obtain rfl : b6 = false := by cases b6 with | false => rfl | true => exact absurd (h7 rfl).1 (by simp)
      refine wpOp_step rfl fun K hK => ?_
      refine step_allocL _ rfl 66 rfl pi _ hpi pz ?_
      intro m V hm hb hx hs
      refine hK _ _ ?_
      exact ⟨b0, b1, b2, b3, true, b5, false, b7, _, v9, v13, v14, v15, v16, m, n9, lo5, w5, Q, lo6, w6, N, rfl, rfl, h0, h1, h2, h3, fun _ => rfl, h5, h6, by simp, h8, st.allocX hm hb hx⟩
    | 5, hk =>
      obtain rfl : b5 = false := by simpa using hk
      obtain rfl : b7 = false := by cases b7 with | false => rfl | true => exact absurd (h8 rfl).1 (by simp)
      refine wpOp_step rfl fun K hK => ?_
      refine step_allocL _ rfl 68 rfl ni _ hni nz ?_
      intro m V hm hb hx hs
      refine hK _ _ ?_
      exact ⟨b0, b1, b2, b3, b4, true, b6, false, v8, _, v13, v14, v15, v16, n8, m, lo5, w5, Q, lo6, w6, N, rfl, rfl, h0, h1, h2, h3, h4, fun _ => rfl, h6, h7, by simp, st.allocY hm hb hx⟩
    | 6, hk =>
      obtain ⟨⟨rfl, rfl⟩, rfl⟩ : (b6 = false ∧ b4 = true) ∧ b1 = true := by simpa using hk
      obtain rfl := h4 rfl
      obtain rfl := h1 rfl
      refine wpOp_step rfl fun K hK => ?_
      refine step_storeL _ rfl 66 (.tmp 8) (.tmp 14) rfl pi hpi n8 _ (podC p Q).toArray rfl rfl (st.bx _ _ rfl).1 ps rfl (podC_one p Q) ?_
      intro W' hW hb
      refine hK _ _ ?_
      exact ⟨b0, true, b2, b3, true, b5, true, b7, _, v9, v13, _, v15, v16, n8, n9, lo5, w5, Q, lo6, w6, N, rfl, rfl, h0, fun _ => rfl, h2, h3, fun _ => rfl, h5, by simp, by simp, h8, st.storeX hW⟩
    | 7, hk =>
      obtain ⟨⟨rfl, rfl⟩, rfl⟩ : (b7 = false ∧ b5 = true) ∧ b3 = true := by simpa using hk
      obtain rfl := h5 rfl
      obtain rfl := h3 rfl
      refine wpOp_step rfl fun K hK => ?_
      refine step_storeL _ rfl 68 (.tmp 9) (.tmp 16) rfl ni hni n9 _ (nodeC n N).toArray rfl rfl (st.by_ _ _ rfl).1 ns rfl (nodeC_one n N) ?_
      intro W' hW hb
      refine hK _ _ ?_
      exact ⟨b0, b1, b2, true, b4, true, b6, true, v8, _, v13, v14, v15, _, n8, n9, lo5, w5, Q, lo6, w6, N, rfl, rfl, h0, h1, h2, fun _ => rfl, h4, fun _ => rfl, h6, h7, by simp, st.storeY hW⟩
    | k + 8, hk => simp at hk
  · rintro listed a wx ⟨b0, b1, b2, b3, b4, b5, b6, b7, v8, v9, v13, v14, v15, v16, n8, n9, lo5, w5, Q, lo6, w6, N, rfl, rfl, h0, h1, h2, h3, h4, h5, h6, h7, h8, st⟩ hr
    have he := end_part b0 b1 b2 b3 b4 b5 b6 b7 hr
    simp only [Bool.and_eq_true] at he
    obtain ⟨⟨⟨⟨⟨⟨⟨rfl, rfl⟩, rfl⟩, rfl⟩, rfl⟩, rfl⟩, rfl⟩, rfl⟩ := he
    obtain rfl := h0 rfl
    obtain rfl := h1 rfl
    obtain rfl := h2 rfl
    obtain rfl := h3 rfl
    obtain rfl := h4 rfl
    obtain rfl := h5 rfl
    exact hexit.out n8 n9 lo5 w5 Q lo6 w6 N wx st
end Go.Proofs.YthfafenigjldlaaGreat
