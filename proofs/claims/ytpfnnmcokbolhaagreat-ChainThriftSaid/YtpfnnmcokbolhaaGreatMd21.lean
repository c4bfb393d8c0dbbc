/- Parts Um Un Uo Up, put together. -/
import Derived.Test.YtpfnnmcokbolhaaGreatMd20
/- The twin's do: Push, Store. -/
namespace Go.Proofs.YtpfnnmcokbolhaaGreat
open Go.RowKit
set_option pp.deepTerms true
theorem val_ptr {o : Op25} {v1 v2 : Int} (h : o.val = (v1, v2)) (q : v1 = 4) : v2 = 0 := by
  unfold Op25.val at h
  split at h
  · simp only [Prod.mk.injEq] at h; omega
  · rename_i e
    rw [h] at e
    exact absurd q e
theorem val_here {o : Op25} {v1 v2 : Int} (h : o.val = (v1, v2)) (Q : List (Int × Pf)) : here Q (v1, v2) = (v1, v2) := by
  unfold here
  rw [if_neg]
  rintro ⟨q1, q2⟩
  simp only at q1 q2
  have := val_ptr h q1
  omega
section
variable {w W : World} {F G : List Asr} {t b p k g c : Nat} {sz ca many : Int} {C : Ch} {lv pv : Value} {ml l : List Mv} {x : Mv} {Q : List (Int × Pf)} {A : Asr} {T : Tw} {Z : List (Md × Af)} {n : Nat} {o : Op25} {sv av : Value} {last : Bool} {B0 : Nat}
set_option maxRecDepth 100000 in
set_option maxHeartbeats 4000000 in
theorem tdo_push {n' : Nat} {N' : Nt} {K : Act → World → Prop} {lm B10 : Nat} {v1 v2 : Int} {u2 u6 u7 u8 u11 u12 u13 u14 u15 u16 u17 u18 u19 u20 u21 u22 u23 u24 u25 u26 u27 u28 u29 u30 u31 u32 u33 u34 u35 u36 u37 u38 u39 u40 u41 u42 u43 u44 u45 u46 u47 u48 u49 u50 u51 u52 u53 u54 u55 u56 u57 u58 u59 u60 u61 u62 u63 u64 u65 u66 u67 u68 u69 u70 u71 u72 u73 u74 u75 u76 u77 u78 u79 u80 u81 u82 u83 u84 u85 u86 u87 u88 u89 u90 u91 u92 u93 u94 u95 u96 u97 u98 u99 u100 u101 u102 u103 u104 u105 u106 u107 u108 u109 u110 u111 u112 u113 u114 u115 u116 u117 u118 u119 u120 u121 u122 u123 u124 u125 u126 u127 u128 u129 u130 u131 u132 u133 u134 u135 u136 u137 u138 u139 u140 u141 u142 u143 u144 u145 u146 u147 u148 u149 u150 u151 u152 u153 u154 u155 u156 u157 u158 u159 u160 u161 u162 u163 u164 u165 u166 u167 u168 u169 u170 u171 u172 u173 u174 u175 u176 u177 u178 u179 u180 u181 u182 u183 u184 u185 u186 u187 u188 u189 u190 u191 u192 u193 u194 u195 u196 u197 u198 u199 u200 u201 u202 u203 u204 u205 u206 u207 u208 u209 u210 u211 u212 u213 u214 u215 u216 u217 u218 u219 u220 u221 u222 u223 u224 u225 u226 u227 u228 u229 u230 u231 u232 u233 u234 u235 u236 u237 u238 u239 u240 u241 u242 u243 u244 u245 u246 u247 u248 u249 u250 u251 u252 u253 u254 u255 u256 u257 u258 u259 u260 u261 u262 u263 u264 u265 u266 u267 u268 u269 u270 u271 u272 u273 u274 u275 u276 u277 u278 u279 u280 u281 u282 u283 u284 u285 u286 u287 u288 u289 u290 u291 u292 u293 u294 u295 u296 u297 u298 u299 u300 u301 u302 u303 u304 u305 u306 u307 u308 u309 u310 u311 u312 u313 u314 u315 u316 u317 u318 u319 u320 u321 u322 u323 u324 u325 u326 u327 u328 u329 u330 u331 u332 u333 u334 u335 u336 u337 u338 : Value} (H0 : Hid (Sep w (twL t b (.slice (some ⟨g, 0, none⟩) (l.length + 1 : Nat) c) pv (x :: l) Q many ++ chP b p k sz ca C (bx B10 (.cells #[.int .i64 v1, .int .i64 v2] 34) :: bx B0 (.cells #[.int .i64 o.kind, .int .i64 o.n, sv, .int .i64 o.l.args, .int .i64 o.l.res, .int .i64 o.l.height, av, .int .i64 o.v.1, .int .i64 o.v.2, .bool last] 36) :: F)) W)) (hs : Sim sz ca n ⟨C, (x :: l).map (·.m), Q, many⟩ Z) (hn : n ≤ 280) (hn' : n + 1 ≤ n') (hlm : l.length = lm) (hv : o.val = (v1, v2)) (hN : stepN (Tw.N ⟨C, (x :: l).map (·.m), Q, many⟩) o = N') (hK : Hid (∀ (tm : Array Value) (W' : World), tm.size = 339 → TwR w W' t b p k sz ca n' N' F → K ⟨tm, []⟩ W')) (hki : o.kind = 5) :
    Code.wp Tryz.prog (pieceOf (Tryz.f8.body.getD .skip) [1, 1, 1, 1, 1, 1, 0, 1, 0, 1, 1, 1, 1, 1, 1, 1, 1, 1, 0]) (Exit.inBlock 2 (Exit.then K (bodyPost Tryz.prog Tryz.f8 (fun e w' => TwR w w' t b p k sz ca n' N' F ∧ e = .returned (.bool true))))) ⟨#[.pointer (some ⟨t, 0, none⟩), (.agg #[.int .i64 o.kind, .int .i64 o.n, sv, .int .i64 o.l.args, .int .i64 o.l.res, .int .i64 o.l.height, av, .int .i64 o.v.1, .int .i64 o.v.2, .bool last]), u2, .pointer (some ⟨B0, 0, none⟩), .bool false, .int .i64 ((lm : Int) + 1), u6, u7, u8, .pointer (some ⟨g, lm * 7, none⟩), .pointer (some ⟨B10, 0, none⟩), u11, u12, u13, u14, u15, u16, u17, u18, u19, u20, u21, u22, u23, u24, u25, u26, u27, u28, u29, u30, u31, u32, u33, u34, u35, u36, u37, u38, u39, u40, u41, u42, u43, u44, u45, u46, u47, u48, u49, u50, u51, u52, u53, u54, u55, u56, u57, u58, u59, u60, u61, u62, u63, u64, u65, u66, u67, u68, u69, u70, u71, u72, u73, u74, u75, u76, u77, u78, u79, u80, u81, u82, u83, u84, u85, u86, u87, u88, u89, u90, u91, u92, u93, u94, u95, u96, u97, u98, u99, u100, u101, u102, u103, u104, u105, u106, u107, u108, u109, u110, u111, u112, u113, u114, u115, u116, u117, u118, u119, u120, u121, u122, u123, u124, u125, u126, u127, u128, u129, u130, u131, u132, u133, u134, u135, u136, u137, u138, u139, u140, u141, u142, u143, u144, u145, u146, u147, u148, u149, u150, u151, u152, u153, u154, u155, u156, u157, u158, u159, u160, u161, u162, u163, u164, u165, u166, u167, u168, u169, u170, u171, u172, u173, u174, u175, u176, u177, u178, u179, u180, u181, u182, u183, u184, u185, u186, u187, u188, u189, u190, u191, u192, u193, u194, u195, u196, u197, u198, u199, u200, u201, u202, u203, u204, u205, u206, u207, u208, u209, u210, u211, u212, u213, u214, u215, u216, u217, u218, u219, u220, u221, u222, u223, u224, u225, u226, u227, u228, u229, u230, u231, u232, u233, u234, u235, u236, u237, u238, u239, u240, u241, u242, u243, u244, u245, u246, u247, u248, u249, u250, u251, u252, u253, u254, u255, u256, u257, u258, u259, u260, u261, u262, u263, u264, u265, u266, u267, u268, u269, u270, u271, u272, u273, u274, u275, u276, u277, u278, u279, u280, u281, u282, u283, u284, u285, u286, u287, u288, u289, u290, u291, u292, u293, u294, u295, u296, u297, u298, u299, u300, u301, u302, u303, u304, u305, u306, u307, u308, u309, u310, u311, u312, u313, u314, u315, u316, u317, u318, u319, u320, u321, u322, u323, u324, u325, u326, u327, u328, u329, u330, u331, u332, u333, u334, u335, u336, u337, u338], []⟩ W := by
  conv => arg 2; whnf
  have hok := hs.ok (by omega)
  obtain ⟨-, -, -, -, hol⟩ := hs.md (m := x.m) (by simp)
  obtain ⟨ao, c2, hov, hc2, hao⟩ := tw_ovShape H0.out
  obtain ⟨m, hm⟩ : ∃ m, x.m.ops.length = m := ⟨_, rfl⟩
  rw [hm] at hol hc2 hao
  have HX : Hid (∀ {C' W'}, Sep w (chP b p k sz ca C' (twL t b (.slice (some ⟨g, 0, none⟩) (l.length + 1 : Nat) c) pv (x :: l) Q many ++ (bx B10 (.cells #[.int .i64 v1, .int .i64 v2] 34) :: bx B0 (.cells #[.int .i64 o.kind, .int .i64 o.n, sv, .int .i64 o.l.args, .int .i64 o.l.res, .int .i64 o.l.height, av, .int .i64 o.v.1, .int .i64 o.v.2, .bool last] 36) :: F))) W' → W'.cell? ⟨t, 0, none⟩ = some (.pointer (some ⟨b, 0, none⟩)) ∧ W'.cell? ⟨B10, 0, none⟩ = some (.int .i64 v1) ∧ W'.cell? ⟨B10, 1, none⟩ = some (.int .i64 v2)) := fun {C' W'} q => by
    have q' := ch_tw q
    obtain ⟨e1, e2, -⟩ := two_cells q' (q := B10) (tw_mem (List.Mem.head _))
    exact ⟨(tw_k q').1, e1, e2⟩
  obtain ⟨s0, s1, s2⟩ := HX.out (tw_ch H0.out)
  have HP := cpush_any (tw_ch H0.out.drew) hok (v1, v2)
  have HSIM := Hid.mk hs
  have HLM := Hid.mk hlm
  have HM := Hid.mk hm
  have HOV := Hid.mk hov
  have HKI := Hid.mk hki
  have HNN := Hid.mk hN
  have HV := Hid.mk hv
  by_cases hh : okV v1 v2 = true ∧ (x.m.ops.length : Int) ≠ x.m.lay.height
  · have hV : VOk Q.length (v1, v2) := ⟨hh.1, fun q => by have := val_ptr hv q; simp only; omega⟩
    obtain ⟨r1, Z', hs2⟩ := hs.push rfl hV hh.2
    simp only [val_here hv] at r1 hs2
    rw [r1] at HP
    have HP := Hid.mk HP
    have HS2 := Hid.mk hs2
    have HNN' : Hid (N' = Tw.N ⟨C, x.m.withOps (x.m.ops ++ [(v1, v2)]) :: l.map (·.m), Q, many⟩) := by
      rw [← hN]
      unfold Hid stepN Tw.N
      simp only [List.map_cons]
      rw [if_neg (by omega), if_neg (by omega), if_neg (by omega), if_neg (by omega), if_pos hki, hv, if_pos hh]
    clear hok hs hs2 hV r1 hh hlm hm hov hki hN hv
    go_upto_region 41 with (fail)
    go_region_held3 (fun X => X.cell? ⟨t, 0, none⟩ = some (.pointer (some ⟨b, 0, none⟩)) ∧ X.cell? ⟨B10, 0, none⟩ = some (.int .i64 v1) ∧ X.cell? ⟨B10, 1, none⟩ = some (.int .i64 v2)) (first | exact s9 | exact ⟨s0, s1, s2⟩) (first | (go_at_call 23; refine HP.out.mono ?_; rintro e w6 ⟨h6, rfl⟩; have s9 := HX.out h6))
    have h7 := ch_tw h6
    obtain ⟨-, -, -, -, -, -, k5, -, kz⟩ := tw_topAt h7
    rw [HLM.out, HOV.out, HM.out] at k5
    obtain ⟨t0, t1, t2⟩ := s9
    have HRW : w6.ownsRow 0 34 2 (.slice ao m c2) m (wcells x.m.ops) := by
      have : w6.ownsRow 0 34 2 x.ov x.m.ops.length (wcells x.m.ops) := (tw_open h7).owns (List.Mem.head _)
      rw [HOV.out, HM.out] at this
      exact this
    have HRW4 : Hid (∀ X4, X4 = w6.drew → X4.ownsRow 0 34 2 (.slice ao m c2) m (wcells x.m.ops)) := fun X4 q => by rw [q]; exact HRW.drew
    have H7 := Hid.mk h7
    obtain ⟨ip0, ip, ipz0, ipz1, ipz2⟩ := info_parts infoV
    clear h6 h7 HX HP HRW s0 s1 s2
    go_upto_region 42 with (fail)
    refine wp_region_L 10 (fun X => X.cell? ⟨g, lm * 7 + 5, none⟩ = some (.slice ao m c2) ∧ X.cell? ⟨B10, 0, none⟩ = some (.int .i64 v1) ∧ X.cell? ⟨B10, 1, none⟩ = some (.int .i64 v2)) (by kernel_rfl) ⟨k5, t1, t2⟩ (fun hHeld => ?_)
    obtain ⟨X8, hX8⟩ : ∃ X, X = w6.drew := ⟨_, rfl⟩
    rw [← hX8] at hHeld ⊢
    have HX8e := Hid.mk hX8
    clear hX8
    refine wpAnyL_take (i := 0) (v := ?_) rfl (by kernel_rfl) (by kernel_rfl) (by kernel_rfl) (by kernel_rfl) (fun _ _ _ h => h) (Or.inl ⟨by rfl, ?_⟩) (by assumption) ?_
    rotate_left
    · (intro w hSw; (try dsimp only at hSw); go_simp <;> with_reducible rfl)
    (try simp only [Act.put, List.getElem_toArray, List.getElem_cons_zero, List.getElem_cons_succ, List.setIfInBounds_toArray, List.set_cons_zero, List.set_cons_succ])
    refine wpAnyL_take (i := 1) (v := ?_) rfl (by kernel_rfl) (by kernel_rfl) (by kernel_rfl) (by kernel_rfl) (fun _ _ _ h => h) (Or.inl ⟨by rfl, ?_⟩) (by assumption) ?_
    rotate_left
    · (intro w hSw; (try dsimp only at hSw); go_simp <;> with_reducible rfl)
    (try simp only [Act.put, List.getElem_toArray, List.getElem_cons_zero, List.getElem_cons_succ, List.setIfInBounds_toArray, List.set_cons_zero, List.set_cons_succ])
    refine wpAnyL_take (i := 2) (v := ?_) rfl (by kernel_rfl) (by kernel_rfl) (by kernel_rfl) (by kernel_rfl) (fun _ _ _ h => h) (Or.inl ⟨by rfl, ?_⟩) (by assumption) ?_
    rotate_left
    · (intro w hSw; (try dsimp only at hSw); go_simp <;> with_reducible rfl)
    (try simp only [Act.put, List.getElem_toArray, List.getElem_cons_zero, List.getElem_cons_succ, List.setIfInBounds_toArray, List.set_cons_zero, List.set_cons_succ])
    refine wpAnyL_take (i := 3) (v := ?_) rfl (by kernel_rfl) (by kernel_rfl) (by kernel_rfl) (by kernel_rfl) (fun _ _ _ h => h) (Or.inl ⟨by rfl, ?_⟩) (by assumption) ?_
    rotate_left
    · (intro w hSw; (try dsimp only at hSw); go_simp <;> with_reducible rfl)
    (try simp only [Act.put, List.getElem_toArray, List.getElem_cons_zero, List.getElem_cons_succ, List.setIfInBounds_toArray, List.set_cons_zero, List.set_cons_succ])
    refine wpAnyL_take (i := 4) (v := ?_) rfl (by kernel_rfl) (by kernel_rfl) (by kernel_rfl) (by kernel_rfl) (fun _ _ _ h => h) (Or.inl ⟨by rfl, ?_⟩) (by assumption) ?_
    rotate_left
    · (intro w hSw; (try dsimp only at hSw); go_simp <;> with_reducible rfl)
    (try simp only [Act.put, List.getElem_toArray, List.getElem_cons_zero, List.getElem_cons_succ, List.setIfInBounds_toArray, List.set_cons_zero, List.set_cons_succ])
    refine wpAnyL_take (i := 5) (v := ?_) rfl (by kernel_rfl) (by kernel_rfl) (by kernel_rfl) (by kernel_rfl) (fun _ _ _ h => h) (Or.inl ⟨by rfl, ?_⟩) (by assumption) ?_
    rotate_left
    · (intro w hSw; (try dsimp only at hSw); go_simp <;> with_reducible rfl)
    (try simp only [Act.put, List.getElem_toArray, List.getElem_cons_zero, List.getElem_cons_succ, List.setIfInBounds_toArray, List.set_cons_zero, List.set_cons_succ])
    refine wpAnyL_only (i := 6) (by kernel_rfl) rfl (fun K hK => ?_)
    go_simp
    refine hK _ _ (fun _ => ⟨alloc_cell hHeld.1, alloc_cell hHeld.2.1, alloc_cell hHeld.2.2⟩) (fun hHeld0 => ?_)
    have hHeld := hHeld0 rfl
    clear hK K hHeld0
    (try simp only [Act.put, List.getElem_toArray, List.getElem_cons_zero, List.getElem_cons_succ, List.setIfInBounds_toArray, List.set_cons_zero, List.set_cons_succ])
    have hnw := heap_alloc_new (X8) (.cells #[.int .i64 v1, .int .i64 v2] 34)
    refine wpAnyL_only (i := 7) (by kernel_rfl) rfl (fun K hK => ?_)
    refine step_append_x _ (by rfl) _ _ _ (by rfl) 0 34 ip0 ((.agg #[.int .i64 0, .int .i64 0])) 2 16 Tryz.underlying32 ip ipz0 ipz1 ipz2 rfl (by omega) _ m (wcells x.m.ops) (by rfl) ((HRW4.out _ HX8e.out).alloc _) 1 (#[.int .i64 v1, .int .i64 v2] : Array Value).toList _ (by rfl) (AppArg.one (w := ((X8).alloc (.cells #[.int .i64 v1, .int .i64 v2] 34))) hnw rfl (by simp [Value.oneCell'])) (by unfold maxLen; omega) (by omega) (Nat.zero_le _) ?_
    intro g2 cap2 w12 hown2 hg2 hat2
    have h30 := H7.out.drew
    rw [← HX8e.out] at h30
    have h3 := Sep.keep h30 ((Below.refl X8.heap.size X8).alloc (Nat.le_refl _) (.cells #[.int .i64 v1, .int .i64 v2] 34))
    obtain ⟨h4, h5⟩ := tw_push1 (kk := m) (news := [(v1, v2)]) h3 HM.out rfl hown2 (by rw [HOV.out, HM.out]; exact hg2) (by rw [HOV.out, HM.out]; exact hat2)
    obtain ⟨-, -, -, u5, u6⟩ := tw_mid h5
    have hG := Sep.sub h5 (List.Sublist.cons _ (List.Sublist.cons _ (List.Sublist.cons _ (List.Sublist.cons _ (List.Sublist.cons _ (List.sublist_append_right _ _))))))
    obtain ⟨y1, y2, -⟩ := two_cells hG (q := B10) (v1 := .int .i64 v1) (v2 := .int .i64 v2) (T := 34) (by simp [chP])
    rw [HLM.out, HOV.out, HM.out] at u5
    rw [HLM.out] at h4
    have H4 := Hid.mk h4
    have z2 := u6 (lm * 7 + 5)
    clear h30 h3 h4 h5 hG hown2 hg2 hat2 hnw u6 HRW4
    refine hK _ _ (fun _ => ⟨u5, y1, y2⟩) (fun hHeld0 => ?_)
    have hHeld := hHeld0 rfl
    clear hK K hHeld0
    (try simp only [Act.put, List.getElem_toArray, List.getElem_cons_zero, List.getElem_cons_succ, List.setIfInBounds_toArray, List.set_cons_zero, List.set_cons_succ])
    refine wpAnyL_only (i := 8) (by kernel_rfl) rfl (fun K hK => ?_)
    go_simp
    refine hK _ _ (fun _ => ⟨u5, y1, y2⟩) (fun hHeld0 => ?_)
    have hHeld := hHeld0 rfl
    clear hK K hHeld0
    (try simp only [Act.put, List.getElem_toArray, List.getElem_cons_zero, List.getElem_cons_succ, List.setIfInBounds_toArray, List.set_cons_zero, List.set_cons_succ])
    refine wpAnyL_only (i := 9) (by kernel_rfl) rfl (fun K hK => ?_)
    go_simp
    refine hK _ _ (fun _ => ⟨u5, y1, y2⟩) (fun hHeld0 => ?_)
    have hHeld := hHeld0 rfl
    clear hK K hHeld0
    (try simp only [Act.put, List.getElem_toArray, List.getElem_cons_zero, List.getElem_cons_succ, List.setIfInBounds_toArray, List.set_cons_zero, List.set_cons_succ])
    refine wpAnyL_only (i := 10) (by kernel_rfl) rfl (fun K hK => ?_)
    go_simp
    refine hK _ _ (fun q => by cases q) (fun hHeld0 => ?_)
    clear hK K hHeld0
    refine wpAnyL_done (by kernel_rfl) ?_
    clear HX8e H7
    go_wp2_with fail
    exact hK.out _ _ rfl ⟨_, _, ⟨_, _, _, rfl, tw_lose (tw_lose H4.out)⟩, HS2.out.mono (by omega), HNN'.out.symm⟩
  · have hno := hs.push_no rfl (v := (v1, v2)) (by
      by_cases q : okV v1 v2 = true
      · exact .inr (by
          by_cases q2 : (x.m.ops.length : Int) = x.m.lay.height
          · exact q2
          · exact absurd ⟨q, q2⟩ hh)
      · exact .inl (by simpa using q))
    rw [hno] at HP
    have HP := Hid.mk HP
    have HNN' : Hid (N' = (Tw.N ⟨C, (x :: l).map (·.m), Q, many⟩)) := by
      rw [← hN]
      unfold Hid stepN Tw.N
      simp only [List.map_cons]
      rw [if_neg (by omega), if_neg (by omega), if_neg (by omega), if_neg (by omega), if_pos hki, hv, if_neg hh]
    clear hok hs hno hh hlm hm hov hki hN hv
    go_upto_region 41 with (fail)
    go_region_held3 (fun X => X.cell? ⟨t, 0, none⟩ = some (.pointer (some ⟨b, 0, none⟩)) ∧ X.cell? ⟨B10, 0, none⟩ = some (.int .i64 v1) ∧ X.cell? ⟨B10, 1, none⟩ = some (.int .i64 v2)) (first | exact s9 | exact ⟨s0, s1, s2⟩) (first | (go_at_call 23; refine HP.out.mono ?_; rintro e w6 ⟨h6, rfl⟩; have s9 := HX.out h6))
    have H6 := Hid.mk (tw_lose (tw_lose (ch_tw h6)))
    clear h6 s9 HP HX s0 s1 s2
    go_wp2_with fail
    exact hK.out _ _ rfl ⟨_, _, ⟨_, _, _, rfl, H6.out⟩, HSIM.out.mono (by omega), HNN'.out.symm⟩
end
end Go.Proofs.YtpfnnmcokbolhaaGreat
/- The twin's do: Store. -/
namespace Go.Proofs.YtpfnnmcokbolhaaGreat
open Go.RowKit
set_option pp.deepTerms true
section
variable {w W : World} {F G : List Asr} {t b p k g c : Nat} {sz ca many : Int} {C : Ch} {lv pv : Value} {ml l : List Mv} {x : Mv} {Q : List (Int × Pf)} {A : Asr} {T : Tw} {Z : List (Md × Af)} {n : Nat} {o : Op25} {sv av : Value} {last : Bool} {B0 : Nat}
set_option maxRecDepth 100000 in
set_option maxHeartbeats 4000000 in
theorem tdo_store {n' : Nat} {N' : Nt} {K : Act → World → Prop} {lm B10 : Nat} {v1 v2 : Int} {u2 u6 u7 u8 u11 u12 u13 u14 u15 u16 u17 u18 u19 u20 u21 u22 u23 u24 u25 u26 u27 u28 u29 u30 u31 u32 u33 u34 u35 u36 u37 u38 u39 u40 u41 u42 u43 u44 u45 u46 u47 u48 u49 u50 u51 u52 u53 u54 u55 u56 u57 u58 u59 u60 u61 u62 u63 u64 u65 u66 u67 u68 u69 u70 u71 u72 u73 u74 u75 u76 u77 u78 u79 u80 u81 u82 u83 u84 u85 u86 u87 u88 u89 u90 u91 u92 u93 u94 u95 u96 u97 u98 u99 u100 u101 u102 u103 u104 u105 u106 u107 u108 u109 u110 u111 u112 u113 u114 u115 u116 u117 u118 u119 u120 u121 u122 u123 u124 u125 u126 u127 u128 u129 u130 u131 u132 u133 u134 u135 u136 u137 u138 u139 u140 u141 u142 u143 u144 u145 u146 u147 u148 u149 u150 u151 u152 u153 u154 u155 u156 u157 u158 u159 u160 u161 u162 u163 u164 u165 u166 u167 u168 u169 u170 u171 u172 u173 u174 u175 u176 u177 u178 u179 u180 u181 u182 u183 u184 u185 u186 u187 u188 u189 u190 u191 u192 u193 u194 u195 u196 u197 u198 u199 u200 u201 u202 u203 u204 u205 u206 u207 u208 u209 u210 u211 u212 u213 u214 u215 u216 u217 u218 u219 u220 u221 u222 u223 u224 u225 u226 u227 u228 u229 u230 u231 u232 u233 u234 u235 u236 u237 u238 u239 u240 u241 u242 u243 u244 u245 u246 u247 u248 u249 u250 u251 u252 u253 u254 u255 u256 u257 u258 u259 u260 u261 u262 u263 u264 u265 u266 u267 u268 u269 u270 u271 u272 u273 u274 u275 u276 u277 u278 u279 u280 u281 u282 u283 u284 u285 u286 u287 u288 u289 u290 u291 u292 u293 u294 u295 u296 u297 u298 u299 u300 u301 u302 u303 u304 u305 u306 u307 u308 u309 u310 u311 u312 u313 u314 u315 u316 u317 u318 u319 u320 u321 u322 u323 u324 u325 u326 u327 u328 u329 u330 u331 u332 u333 u334 u335 u336 u337 u338 : Value} (H0 : Hid (Sep w (twL t b (.slice (some ⟨g, 0, none⟩) (l.length + 1 : Nat) c) pv (x :: l) Q many ++ chP b p k sz ca C (bx B10 (.cells #[.int .i64 v1, .int .i64 v2] 34) :: bx B0 (.cells #[.int .i64 o.kind, .int .i64 o.n, sv, .int .i64 o.l.args, .int .i64 o.l.res, .int .i64 o.l.height, av, .int .i64 o.v.1, .int .i64 o.v.2, .bool last] 36) :: F)) W)) (hs : Sim sz ca n ⟨C, (x :: l).map (·.m), Q, many⟩ Z) (hn : n ≤ 280) (hn' : n + 1 ≤ n') (hlm : l.length = lm) (hv : o.val = (v1, v2)) (hN : stepN (Tw.N ⟨C, (x :: l).map (·.m), Q, many⟩) o = N') (hK : Hid (∀ (tm : Array Value) (W' : World), tm.size = 339 → TwR w W' t b p k sz ca n' N' F → K ⟨tm, []⟩ W')) (hki : o.kind = 8) :
    Code.wp Tryz.prog (pieceOf (Tryz.f8.body.getD .skip) [1, 1, 1, 1, 1, 1, 0, 1, 0, 1, 1, 1, 1, 1, 1, 1, 1, 1, 1, 1, 1, 1, 0]) (Exit.inBlock 2 (Exit.then K (bodyPost Tryz.prog Tryz.f8 (fun e w' => TwR w w' t b p k sz ca n' N' F ∧ e = .returned (.bool true))))) ⟨#[.pointer (some ⟨t, 0, none⟩), (.agg #[.int .i64 o.kind, .int .i64 o.n, sv, .int .i64 o.l.args, .int .i64 o.l.res, .int .i64 o.l.height, av, .int .i64 o.v.1, .int .i64 o.v.2, .bool last]), u2, .pointer (some ⟨B0, 0, none⟩), .bool false, .int .i64 ((lm : Int) + 1), u6, u7, u8, .pointer (some ⟨g, lm * 7, none⟩), .pointer (some ⟨B10, 0, none⟩), u11, u12, u13, u14, u15, u16, u17, u18, u19, u20, u21, u22, u23, u24, u25, u26, u27, u28, u29, u30, u31, u32, u33, u34, u35, u36, u37, u38, u39, u40, u41, u42, u43, u44, u45, u46, u47, u48, u49, u50, u51, u52, u53, u54, u55, u56, u57, u58, u59, u60, u61, u62, u63, u64, u65, u66, u67, u68, u69, u70, u71, u72, u73, u74, u75, u76, u77, u78, u79, u80, u81, u82, u83, u84, u85, u86, u87, u88, u89, u90, u91, u92, u93, u94, u95, u96, u97, u98, u99, u100, u101, u102, u103, u104, u105, u106, u107, u108, u109, u110, u111, u112, u113, u114, u115, u116, u117, u118, u119, u120, u121, u122, u123, u124, u125, u126, u127, u128, u129, u130, u131, u132, u133, u134, u135, u136, u137, u138, u139, u140, u141, u142, u143, u144, u145, u146, u147, u148, u149, u150, u151, u152, u153, u154, u155, u156, u157, u158, u159, u160, u161, u162, u163, u164, u165, u166, u167, u168, u169, u170, u171, u172, u173, u174, u175, u176, u177, u178, u179, u180, u181, u182, u183, u184, u185, u186, u187, u188, u189, u190, u191, u192, u193, u194, u195, u196, u197, u198, u199, u200, u201, u202, u203, u204, u205, u206, u207, u208, u209, u210, u211, u212, u213, u214, u215, u216, u217, u218, u219, u220, u221, u222, u223, u224, u225, u226, u227, u228, u229, u230, u231, u232, u233, u234, u235, u236, u237, u238, u239, u240, u241, u242, u243, u244, u245, u246, u247, u248, u249, u250, u251, u252, u253, u254, u255, u256, u257, u258, u259, u260, u261, u262, u263, u264, u265, u266, u267, u268, u269, u270, u271, u272, u273, u274, u275, u276, u277, u278, u279, u280, u281, u282, u283, u284, u285, u286, u287, u288, u289, u290, u291, u292, u293, u294, u295, u296, u297, u298, u299, u300, u301, u302, u303, u304, u305, u306, u307, u308, u309, u310, u311, u312, u313, u314, u315, u316, u317, u318, u319, u320, u321, u322, u323, u324, u325, u326, u327, u328, u329, u330, u331, u332, u333, u334, u335, u336, u337, u338], []⟩ W := by
  conv => arg 2; whnf
  have hok := hs.ok (by omega)
  have hne := hs.ne rfl
  have HX : Hid (∀ {C' W'}, Sep w (chP b p k sz ca C' (twL t b (.slice (some ⟨g, 0, none⟩) (l.length + 1 : Nat) c) pv (x :: l) Q many ++ (bx B10 (.cells #[.int .i64 v1, .int .i64 v2] 34) :: bx B0 (.cells #[.int .i64 o.kind, .int .i64 o.n, sv, .int .i64 o.l.args, .int .i64 o.l.res, .int .i64 o.l.height, av, .int .i64 o.v.1, .int .i64 o.v.2, .bool last] 36) :: F))) W' → W'.cell? ⟨t, 0, none⟩ = some (.pointer (some ⟨b, 0, none⟩)) ∧ W'.cell? ⟨B0, 1, none⟩ = some (.int .i64 o.n) ∧ W'.cell? ⟨B10, 0, none⟩ = some (.int .i64 v1) ∧ W'.cell? ⟨B10, 1, none⟩ = some (.int .i64 v2)) := fun {C' W'} q => by
    have q' := ch_tw q
    obtain ⟨e1, e2, -⟩ := two_cells q' (q := B10) (tw_mem (List.Mem.head _))
    obtain ⟨-, e3, -⟩ := ten_cells q' (q := B0) (tw_mem (List.Mem.tail _ (List.Mem.head _)))
    exact ⟨(tw_k q').1, e3, e1, e2⟩
  obtain ⟨s0, s1, s2, s3⟩ := HX.out (tw_ch H0.out)
  have HP := cstore_any (tw_ch H0.out.drew) hok hne o.n (v1, v2)
  have HSIM := Hid.mk hs
  have HLM := Hid.mk hlm
  have HKI := Hid.mk hki
  have HNN := Hid.mk hN
  by_cases hh : slotIs x.m.lay o.n v1 = true ∧ okV v1 v2 = true
  · obtain ⟨r1, n0, n1, Z', hs2⟩ := hs.store rfl (v := (v1, v2)) hh.2 (val_ptr hv) hh.1
    simp only at r1 n0 n1 hs2
    obtain ⟨j, hj⟩ := Int.eq_ofNat_of_zero_le n0
    rw [hj] at n1
    have hjs : j < x.m.slots.length := by omega
    rw [r1] at HP
    have HP := Hid.mk HP
    have HS2 := Hid.mk hs2
    have HJ := Hid.mk hj
    have HJS := Hid.mk hjs
    have HNN' : Hid (N' = Tw.N ⟨(storeC C o.n (v1, v2)).2, x.m.set j (v1, v2) :: l.map (·.m), Q, many⟩) := by
      rw [← hN]
      unfold Hid stepN Tw.N
      simp only [List.map_cons]
      rw [if_neg (by omega), if_neg (by omega), if_neg (by omega), if_neg (by omega), if_neg (by omega), if_neg (by omega), if_pos hki, hv, if_pos hh, hj, Int.toNat_natCast]
    obtain ⟨gs, cs, hsv, hcs, -⟩ := tw_slot (pre := []) H0.out hjs
    obtain ⟨ns, hns⟩ : ∃ ns, x.m.slots.length = ns := ⟨_, rfl⟩
    rw [hns] at hsv hcs
    have hjn : (j : Int) < (ns : Int) := by omega
    have hjn2 : j < ns := by omega
    have HSV := Hid.mk hsv
    have HJN := Hid.mk (And.intro hjn (And.intro hjn2 hcs))
    clear hjn hjn2 hcs
    clear hok hne hs hs2 r1 n0 n1 hh hlm hki hN hv hjs hsv hns hj
    go_upto_region 52 with (fail)
    go_region_held3 (fun X => X.cell? ⟨t, 0, none⟩ = some (.pointer (some ⟨b, 0, none⟩)) ∧ X.cell? ⟨B0, 1, none⟩ = some (.int .i64 o.n) ∧ X.cell? ⟨B10, 0, none⟩ = some (.int .i64 v1) ∧ X.cell? ⟨B10, 1, none⟩ = some (.int .i64 v2)) (first | exact s9 | exact ⟨s0, s1, s2, s3⟩) (first | (go_at_call 25; refine HP.out.mono ?_; rintro e w6 ⟨h6, rfl⟩; have s9 := HX.out h6))
    have h7 := ch_tw h6
    obtain ⟨hjn, hjn2, hcs⟩ := HJN.out
    obtain ⟨t0, t1, t2, t3⟩ := s9
    rw [HJ.out] at t1
    obtain ⟨k4, -⟩ := tw_modAt (pre := []) h7
    rw [HLM.out, HSV.out] at k4
    obtain ⟨q0, q1, q2, -⟩ := tw_slotAt (pre := []) h7 HJS.out HSV.out
    obtain ⟨-, -, -, q3⟩ := tw_slotAt (pre := []) h7.drew HJS.out HSV.out
    have q20 := q2 (j * 2)
    have q21 := q2 (j * 2 + 1)
    have H7 := Hid.mk (q3 (v1, v2))
    clear h6 h7 HX HP q2 q3 s0 s1 s2 s3
    go_upto_region 53 with (fail)
    refine wp_region_L 8 (fun X => X.cell? ⟨g, lm * 7 + 4, none⟩ = some (.slice (some ⟨gs, 0, none⟩) ns cs) ∧ X.cell? ⟨B0, 1, none⟩ = some (.int .i64 (j : Int)) ∧ X.cell? ⟨B10, 0, none⟩ = some (.int .i64 v1) ∧ X.cell? ⟨B10, 1, none⟩ = some (.int .i64 v2)) (by kernel_rfl) ⟨k4, t1, t2, t3⟩ (fun hHeld => ?_)
    refine wpAnyL_take (i := 0) (v := ?_) rfl (by kernel_rfl) (by kernel_rfl) (by kernel_rfl) (by kernel_rfl) (fun _ _ _ h => h) (Or.inl ⟨by rfl, ?_⟩) (by assumption) ?_
    rotate_left
    · (intro w hSw; (try dsimp only at hSw); go_simp <;> with_reducible rfl)
    (try simp only [Act.put, List.getElem_toArray, List.getElem_cons_zero, List.getElem_cons_succ, List.setIfInBounds_toArray, List.set_cons_zero, List.set_cons_succ])
    refine wpAnyL_take (i := 1) (v := ?_) rfl (by kernel_rfl) (by kernel_rfl) (by kernel_rfl) (by kernel_rfl) (fun _ _ _ h => h) (Or.inl ⟨by rfl, ?_⟩) (by assumption) ?_
    rotate_left
    · (intro w hSw; (try dsimp only at hSw); go_simp <;> with_reducible rfl)
    (try simp only [Act.put, List.getElem_toArray, List.getElem_cons_zero, List.getElem_cons_succ, List.setIfInBounds_toArray, List.set_cons_zero, List.set_cons_succ])
    refine wpAnyL_take (i := 2) (v := ?_) rfl (by kernel_rfl) (by kernel_rfl) (by kernel_rfl) (by kernel_rfl) (fun _ _ _ h => h) (Or.inl ⟨by rfl, ?_⟩) (by assumption) ?_
    rotate_left
    · (intro w hSw; (try dsimp only at hSw); go_simp <;> with_reducible rfl)
    (try simp only [Act.put, List.getElem_toArray, List.getElem_cons_zero, List.getElem_cons_succ, List.setIfInBounds_toArray, List.set_cons_zero, List.set_cons_succ])
    refine wpAnyL_take (i := 3) (v := ?_) rfl (by kernel_rfl) (by kernel_rfl) (by kernel_rfl) (by kernel_rfl) (fun _ _ _ h => h) (Or.inl ⟨by rfl, ?_⟩) (by assumption) ?_
    rotate_left
    · (intro w hSw; (try dsimp only at hSw); go_simp <;> with_reducible rfl)
    (try simp only [Act.put, List.getElem_toArray, List.getElem_cons_zero, List.getElem_cons_succ, List.setIfInBounds_toArray, List.set_cons_zero, List.set_cons_succ])
    refine wpAnyL_take (i := 4) (v := ?_) rfl (by kernel_rfl) (by kernel_rfl) (by kernel_rfl) (by kernel_rfl) (fun _ _ _ h => h) (Or.inl ⟨by rfl, ?_⟩) (by assumption) ?_
    rotate_left
    · (intro w hSw; (try dsimp only at hSw); go_simp <;> with_reducible rfl)
    (try simp only [Act.put, List.getElem_toArray, List.getElem_cons_zero, List.getElem_cons_succ, List.setIfInBounds_toArray, List.set_cons_zero, List.set_cons_succ])
    refine wpAnyL_take (i := 5) (v := ?_) rfl (by kernel_rfl) (by kernel_rfl) (by kernel_rfl) (by kernel_rfl) (fun _ _ _ h => h) (Or.inl ⟨by rfl, ?_⟩) (by assumption) ?_
    rotate_left
    · (intro w hSw; (try dsimp only at hSw); go_simp <;> with_reducible rfl)
    (try simp only [Act.put, List.getElem_toArray, List.getElem_cons_zero, List.getElem_cons_succ, List.setIfInBounds_toArray, List.set_cons_zero, List.set_cons_succ])
    refine wpAnyL_take (i := 6) (v := ?_) rfl (by kernel_rfl) (by kernel_rfl) (by kernel_rfl) (by kernel_rfl) (fun _ _ _ h => h) (Or.inl ⟨by rfl, ?_⟩) (by assumption) ?_
    rotate_left
    · (intro w hSw; (try dsimp only at hSw); go_simp <;> with_reducible rfl)
    (try simp only [Act.put, List.getElem_toArray, List.getElem_cons_zero, List.getElem_cons_succ, List.setIfInBounds_toArray, List.set_cons_zero, List.set_cons_succ])
    refine wpAnyL_take (i := 7) (v := ?_) rfl (by kernel_rfl) (by kernel_rfl) (by kernel_rfl) (by kernel_rfl) (fun _ _ _ h => h) (Or.inl ⟨by rfl, ?_⟩) (by assumption) ?_
    rotate_left
    · (intro w hSw; (try dsimp only at hSw); go_simp <;> with_reducible rfl)
    (try simp only [Act.put, List.getElem_toArray, List.getElem_cons_zero, List.getElem_cons_succ, List.setIfInBounds_toArray, List.set_cons_zero, List.set_cons_succ])
    refine wpAnyL_only (i := 8) (by kernel_rfl) rfl (fun K hK => ?_)
    go_simp
    refine hK _ _ (fun q => by cases q) (fun hHeld0 => ?_)
    clear hK K hHeld0
    refine wpAnyL_done (by kernel_rfl) ?_
    go_wp2_with fail
    exact hK.out _ _ rfl ⟨_, _, ⟨_, _, _, rfl, tw_lose (tw_lose H7.out)⟩, (by have := HS2.out; have e : o.n.toNat = j := (by rw [HJ.out]; rfl); rw [e] at this; exact this.mono (by omega)), HNN'.out.symm⟩
  · have hno := hs.store_no rfl (i := o.n) (v := (v1, v2)) (by
      by_cases q : okV v1 v2 = true
      · by_cases q2 : slotIs x.m.lay o.n v1 = true
        · exact absurd ⟨q2, q⟩ hh
        · exact .inr (by simpa using q2)
      · exact .inl (by simpa using q))
    rw [hno] at HP
    have HP := Hid.mk HP
    have HNN' : Hid (N' = (Tw.N ⟨C, (x :: l).map (·.m), Q, many⟩)) := by
      rw [← hN]
      unfold Hid stepN Tw.N
      simp only [List.map_cons]
      rw [if_neg (by omega), if_neg (by omega), if_neg (by omega), if_neg (by omega), if_neg (by omega), if_neg (by omega), if_pos hki, hv, if_neg hh]
    clear hok hne hs hno hh hlm hki hN hv
    go_upto_region 52 with (fail)
    go_region_held3 (fun X => X.cell? ⟨t, 0, none⟩ = some (.pointer (some ⟨b, 0, none⟩)) ∧ X.cell? ⟨B0, 1, none⟩ = some (.int .i64 o.n) ∧ X.cell? ⟨B10, 0, none⟩ = some (.int .i64 v1) ∧ X.cell? ⟨B10, 1, none⟩ = some (.int .i64 v2)) (first | exact s9 | exact ⟨s0, s1, s2, s3⟩) (first | (go_at_call 25; refine HP.out.mono ?_; rintro e w6 ⟨h6, rfl⟩; have s9 := HX.out h6))
    have H6 := Hid.mk (tw_lose (tw_lose (ch_tw h6)))
    clear h6 s9 HP HX s0 s1 s2 s3
    go_wp2_with fail
    exact hK.out _ _ rfl ⟨_, _, ⟨_, _, _, rfl, H6.out⟩, HSIM.out.mono (by omega), HNN'.out.symm⟩
end
end Go.Proofs.YtpfnnmcokbolhaaGreat
/- The twin's do: Drop, Return. -/
namespace Go.Proofs.YtpfnnmcokbolhaaGreat
open Go.RowKit
set_option pp.deepTerms true
section
variable {w W : World} {F G : List Asr} {t b p k g c : Nat} {sz ca many : Int} {C : Ch} {lv pv : Value} {ml l : List Mv} {x : Mv} {Q : List (Int × Pf)} {A : Asr} {T : Tw} {Z : List (Md × Af)} {n : Nat} {o : Op25} {sv av : Value} {last : Bool} {B0 : Nat}
/-- the top model goes -/
theorem tw_dropM (h : Sep w (twL t b (.slice (some ⟨g, 0, none⟩) (l.length + 1 : Nat) c) pv (x :: l) Q many ++ G) W) : Sep w (twL t b (.slice (some ⟨g, 0, none⟩) l.length c) pv l Q many ++ (mrow x :: G)) (W.setCell ⟨t, 1, none⟩ (.slice (some ⟨g, 0, none⟩) l.length c)) := by
  have h1 : Sep w (twM (.slice (some ⟨g, 0, none⟩) (l.length + 1 : Nat) c) (x :: l) :: twB t b (.slice (some ⟨g, 0, none⟩) (l.length + 1 : Nat) c) pv many :: twQ pv Q :: mrow x :: (l.map mrow ++ G)) W := h.perm (List.Perm.swap _ _ _)
  have ho : W.ownsRow 0 56 7 (.slice (some ⟨g, 0, none⟩) (l.length + 1 : Nat) c) (l.length + 1) (mcells (x :: l)) := h1.owns (List.Mem.head _)
  have hc := row_cut ho (m := l.length) (by omega)
  have e : (mcells (x :: l)).take (l.length * 7) = mcells l := by rw [mcells_cons, List.take_left' (by rw [mcells_len])]
  rw [e] at hc
  have h2 : Sep w (twM (.slice (some ⟨g, 0, none⟩) l.length c) l :: twB t b (.slice (some ⟨g, 0, none⟩) (l.length + 1 : Nat) c) pv many :: twQ pv Q :: mrow x :: (l.map mrow ++ G)) W := h1.rerow (by intro b q; simpa [Value.ownBlock] using q) hc
  have h3 := h2.perm (List.Perm.swap _ _ _)
  have h4 := Sep.store h3 1 (.slice (some ⟨g, 0, none⟩) l.length c)
  exact h4.perm (List.Perm.cons _ (List.Perm.cons _ (List.Perm.cons _ List.perm_middle.symm)))
theorem tw_sub1 (h : Sep w (twL t b lv pv ml Q many ++ (A :: chP b p k sz ca C F)) W) : Sep w (twL t b lv pv ml Q many ++ chP b p k sz ca C F) W := Sep.sub h (List.Sublist.append (List.Sublist.refl _) (List.sublist_cons_self _ _))
set_option maxRecDepth 100000 in
set_option maxHeartbeats 4000000 in
theorem tdo_drop {n' : Nat} {N' : Nt} {K : Act → World → Prop} {lm B10 : Nat} {v1 v2 : Int} {u2 u6 u7 u8 u11 u12 u13 u14 u15 u16 u17 u18 u19 u20 u21 u22 u23 u24 u25 u26 u27 u28 u29 u30 u31 u32 u33 u34 u35 u36 u37 u38 u39 u40 u41 u42 u43 u44 u45 u46 u47 u48 u49 u50 u51 u52 u53 u54 u55 u56 u57 u58 u59 u60 u61 u62 u63 u64 u65 u66 u67 u68 u69 u70 u71 u72 u73 u74 u75 u76 u77 u78 u79 u80 u81 u82 u83 u84 u85 u86 u87 u88 u89 u90 u91 u92 u93 u94 u95 u96 u97 u98 u99 u100 u101 u102 u103 u104 u105 u106 u107 u108 u109 u110 u111 u112 u113 u114 u115 u116 u117 u118 u119 u120 u121 u122 u123 u124 u125 u126 u127 u128 u129 u130 u131 u132 u133 u134 u135 u136 u137 u138 u139 u140 u141 u142 u143 u144 u145 u146 u147 u148 u149 u150 u151 u152 u153 u154 u155 u156 u157 u158 u159 u160 u161 u162 u163 u164 u165 u166 u167 u168 u169 u170 u171 u172 u173 u174 u175 u176 u177 u178 u179 u180 u181 u182 u183 u184 u185 u186 u187 u188 u189 u190 u191 u192 u193 u194 u195 u196 u197 u198 u199 u200 u201 u202 u203 u204 u205 u206 u207 u208 u209 u210 u211 u212 u213 u214 u215 u216 u217 u218 u219 u220 u221 u222 u223 u224 u225 u226 u227 u228 u229 u230 u231 u232 u233 u234 u235 u236 u237 u238 u239 u240 u241 u242 u243 u244 u245 u246 u247 u248 u249 u250 u251 u252 u253 u254 u255 u256 u257 u258 u259 u260 u261 u262 u263 u264 u265 u266 u267 u268 u269 u270 u271 u272 u273 u274 u275 u276 u277 u278 u279 u280 u281 u282 u283 u284 u285 u286 u287 u288 u289 u290 u291 u292 u293 u294 u295 u296 u297 u298 u299 u300 u301 u302 u303 u304 u305 u306 u307 u308 u309 u310 u311 u312 u313 u314 u315 u316 u317 u318 u319 u320 u321 u322 u323 u324 u325 u326 u327 u328 u329 u330 u331 u332 u333 u334 u335 u336 u337 u338 : Value} (H0 : Hid (Sep w (twL t b (.slice (some ⟨g, 0, none⟩) (l.length + 1 : Nat) c) pv (x :: l) Q many ++ chP b p k sz ca C (bx B10 (.cells #[.int .i64 v1, .int .i64 v2] 34) :: bx B0 (.cells #[.int .i64 o.kind, .int .i64 o.n, sv, .int .i64 o.l.args, .int .i64 o.l.res, .int .i64 o.l.height, av, .int .i64 o.v.1, .int .i64 o.v.2, .bool last] 36) :: F)) W)) (hs : Sim sz ca n ⟨C, (x :: l).map (·.m), Q, many⟩ Z) (hn : n ≤ 280) (hn' : n ≤ n') (hlm : l.length = lm) (hv : o.val = (v1, v2)) (hN : stepN (Tw.N ⟨C, (x :: l).map (·.m), Q, many⟩) o = N') (hK : Hid (∀ (tm : Array Value) (W' : World), tm.size = 339 → TwR w W' t b p k sz ca n' N' F → K ⟨tm, []⟩ W')) (hki : o.kind = 3) :
    Code.wp Tryz.prog (pieceOf (Tryz.f8.body.getD .skip) [1, 1, 1, 1, 1, 1, 0, 1, 0, 1, 1, 1, 1, 1, 1, 1, 0]) (Exit.inBlock 2 (Exit.then K (bodyPost Tryz.prog Tryz.f8 (fun e w' => TwR w w' t b p k sz ca n' N' F ∧ e = .returned (.bool true))))) ⟨#[.pointer (some ⟨t, 0, none⟩), (.agg #[.int .i64 o.kind, .int .i64 o.n, sv, .int .i64 o.l.args, .int .i64 o.l.res, .int .i64 o.l.height, av, .int .i64 o.v.1, .int .i64 o.v.2, .bool last]), u2, .pointer (some ⟨B0, 0, none⟩), .bool false, .int .i64 ((lm : Int) + 1), u6, u7, u8, .pointer (some ⟨g, lm * 7, none⟩), .pointer (some ⟨B10, 0, none⟩), u11, u12, u13, u14, u15, u16, u17, u18, u19, u20, u21, u22, u23, u24, u25, u26, u27, u28, u29, u30, u31, u32, u33, u34, u35, u36, u37, u38, u39, u40, u41, u42, u43, u44, u45, u46, u47, u48, u49, u50, u51, u52, u53, u54, u55, u56, u57, u58, u59, u60, u61, u62, u63, u64, u65, u66, u67, u68, u69, u70, u71, u72, u73, u74, u75, u76, u77, u78, u79, u80, u81, u82, u83, u84, u85, u86, u87, u88, u89, u90, u91, u92, u93, u94, u95, u96, u97, u98, u99, u100, u101, u102, u103, u104, u105, u106, u107, u108, u109, u110, u111, u112, u113, u114, u115, u116, u117, u118, u119, u120, u121, u122, u123, u124, u125, u126, u127, u128, u129, u130, u131, u132, u133, u134, u135, u136, u137, u138, u139, u140, u141, u142, u143, u144, u145, u146, u147, u148, u149, u150, u151, u152, u153, u154, u155, u156, u157, u158, u159, u160, u161, u162, u163, u164, u165, u166, u167, u168, u169, u170, u171, u172, u173, u174, u175, u176, u177, u178, u179, u180, u181, u182, u183, u184, u185, u186, u187, u188, u189, u190, u191, u192, u193, u194, u195, u196, u197, u198, u199, u200, u201, u202, u203, u204, u205, u206, u207, u208, u209, u210, u211, u212, u213, u214, u215, u216, u217, u218, u219, u220, u221, u222, u223, u224, u225, u226, u227, u228, u229, u230, u231, u232, u233, u234, u235, u236, u237, u238, u239, u240, u241, u242, u243, u244, u245, u246, u247, u248, u249, u250, u251, u252, u253, u254, u255, u256, u257, u258, u259, u260, u261, u262, u263, u264, u265, u266, u267, u268, u269, u270, u271, u272, u273, u274, u275, u276, u277, u278, u279, u280, u281, u282, u283, u284, u285, u286, u287, u288, u289, u290, u291, u292, u293, u294, u295, u296, u297, u298, u299, u300, u301, u302, u303, u304, u305, u306, u307, u308, u309, u310, u311, u312, u313, u314, u315, u316, u317, u318, u319, u320, u321, u322, u323, u324, u325, u326, u327, u328, u329, u330, u331, u332, u333, u334, u335, u336, u337, u338], []⟩ W := by
  conv => arg 2; whnf
  have hok := hs.ok (by omega)
  obtain ⟨-, Z', hs2⟩ := hs.drop rfl
  have HP := Hid.mk (cdrop_any (tw_ch H0.out) hok)
  have hc : lm + 1 ≤ c := by
    have := (tw_topAt H0.out).1
    omega
  have k0 := (tw_k H0.out).1
  have HS2 := Hid.mk hs2
  have HLM := Hid.mk hlm
  have hll : lm ≤ 280 := by
    have := hs.len.1
    simp at this
    omega
  have HNN' : Hid (N' = Tw.N ⟨(dropC ca C).2, l.map (·.m), Q, many⟩) := by
    rw [← hN]
    unfold Hid stepN Tw.N
    simp only [List.map_cons]
    rw [if_neg (by omega), if_neg (by omega), if_neg (by omega), if_pos hki]
  have w1 : IntKind.i64.wrap ((lm : Int) + 1 - 1) = (lm : Int) := by rw [IntKind.wrap_i64]; omega
  have w3 : IntKind.i64.wrap (lm : Int) = (lm : Int) := by rw [IntKind.wrap_i64]; omega
  have hk4 : (lm : Int) ≤ (c : Int) := by omega
  have hk5 : lm ≤ c := by omega
  clear hs hs2 hok hlm hki hN hv
  go_wp2_with fail
  refine HP.out.mono ?_
  rintro e w6 ⟨h6, rfl⟩
  have h7 := ch_tw h6
  obtain ⟨-, k1, -, -, kz⟩ := tw_k h7
  rw [HLM.out] at k1
  have kz1 := kz 1
  have h8 := tw_lose (tw_lose (tw_sub1 (tw_dropM h7)))
  rw [HLM.out] at h8
  have H8 := Hid.mk h8
  clear h6 h7 h8 HP kz k0
  go_wp2_with fail
  exact hK.out _ _ rfl ⟨_, _, ⟨_, _, _, rfl, H8.out⟩, HS2.out.mono (by omega), HNN'.out.symm⟩
end
end Go.Proofs.YtpfnnmcokbolhaaGreat
/- The twin's do: Return. -/
namespace Go.Proofs.YtpfnnmcokbolhaaGreat
open Go.RowKit
set_option pp.deepTerms true
theorem Rd.part {w : World} {gs ns cs : Nat} {xs : List (Int × Int)} (h : Rd w (.slice (Option.some ⟨gs, 0, none⟩) ns cs) xs) (hn : xs.length = ns) {a r : Nat} (har : a + r ≤ ns) (cc : Nat) : Rd w (.slice (Option.some ⟨gs, a * 2, none⟩) r cc) ((xs.drop a).take r) := by
  rcases h with ⟨q, -⟩ | ⟨b, o, c, e, hb, hc⟩
  · cases q
  · simp only [Value.slice.injEq, Option.some.injEq, Addr.mk.injEq, and_true] at e
    obtain ⟨⟨rfl, rfl⟩, -, rfl⟩ := e
    have hl : ((xs.drop a).take r).length = r := by simp; omega
    refine .inr ⟨gs, a * 2, cc, by rw [hl], hb, fun k hk => ?_⟩
    have hk' : a + k < xs.length := by omega
    have := hc (a + k) hk'
    have e1 : ((xs.drop a).take r)[k] = xs[a + k] := by simp
    rw [e1]
    have e2 : 0 + (a + k) * 2 = a * 2 + k * 2 := by omega
    rw [e2] at this
    exact this
section
variable {w W : World} {F G : List Asr} {t b p k g c : Nat} {sz ca many : Int} {C : Ch} {lv pv : Value} {ml l : List Mv} {x : Mv} {Q : List (Int × Pf)} {A : Asr} {T : Tw} {Z : List (Md × Af)} {n : Nat} {o : Op25} {sv av : Value} {last : Bool} {B0 : Nat}
variable {y : Mv}
theorem tw_svCases (h : Sep w (twL t b lv pv (x :: l) Q many ++ G) W) : (x.sv = .slice none 0 0 ∧ x.m.slots = []) ∨ ∃ gs cs, x.sv = .slice (some ⟨gs, 0, none⟩) x.m.slots.length cs ∧ x.m.slots.length ≤ cs := by
  obtain ⟨-, hr, -⟩ := tw_rd (pre := []) h
  have h1 : Sep w (mrow x :: twB t b lv pv many :: twM lv (x :: l) :: twQ pv Q :: (l.map mrow ++ G)) W := Sep.pick 3 h rfl
  have h3 := Sep.sepE (h1.sepE.perm (List.Perm.swap _ _ _))
  have ho : W.ownsRow 0 34 2 x.sv x.m.slots.length (wcells x.m.slots) := h3.owns (List.Mem.head _)
  rcases ho.2 with ⟨q, h0⟩ | ⟨g', cap, cur, q, _, _, hc, _⟩
  · exact .inl ⟨q, List.eq_nil_of_length_eq_zero h0⟩
  · exact .inr ⟨_, _, q, hc⟩
set_option maxRecDepth 100000 in
set_option maxHeartbeats 4000000 in
theorem tdo_ret2 {n' : Nat} {N' : Nt} {K : Act → World → Prop} {lq B10 : Nat} {v1 v2 n5 : Int} {vo : Value} {C2 : Ch} {res : List (Int × Int)} {u2 u6 u7 u8 u9 u11 u12 u13 u14 u15 u17 u18 u19 u20 u21 u22 u23 u24 u25 u26 u27 u28 u29 u30 u31 u32 u33 u34 u35 u36 u37 u38 u39 u40 u41 u42 u43 u44 u45 u46 u47 u48 u49 u50 u51 u52 u53 u54 u55 u56 u57 u58 u59 u60 u61 u62 u63 u64 u65 u66 u67 u68 u69 u70 u71 u72 u73 u74 u75 u76 u77 u78 u79 u80 u81 u82 u83 u84 u85 u86 u87 u88 u89 u90 u91 u92 u93 u94 u95 u96 u97 u98 u99 u100 u101 u102 u103 u104 u105 u106 u107 u108 u109 u110 u111 u112 u113 u114 u115 u116 u117 u118 u119 u120 u121 u122 u123 u124 u125 u126 u127 u128 u129 u130 u131 u132 u133 u134 u135 u136 u137 u138 u139 u140 u141 u142 u143 u144 u145 u146 u147 u148 u149 u150 u151 u152 u153 u154 u155 u156 u157 u158 u159 u160 u161 u162 u163 u164 u165 u166 u167 u168 u169 u170 u171 u172 u173 u174 u175 u176 u177 u178 u179 u180 u181 u182 u183 u184 u185 u186 u187 u188 u189 u190 u191 u192 u193 u194 u195 u196 u197 u198 u199 u200 u201 u202 u203 u204 u205 u206 u207 u208 u209 u210 u211 u212 u213 u214 u215 u216 u217 u218 u219 u220 u221 u222 u223 u224 u225 u226 u227 u228 u229 u230 u231 u232 u233 u234 u235 u236 u237 u238 u239 u240 u241 u242 u243 u244 u245 u246 u247 u248 u249 u250 u251 u252 u253 u254 u255 u256 u257 u258 u259 u260 u261 u262 u263 u264 u265 u266 u267 u268 u269 u270 u271 u272 u273 u274 u275 u276 u277 u278 u279 u280 u281 u282 u283 u284 u285 u286 u287 u288 u289 u290 u291 u292 u293 u294 u295 u296 u297 u298 u299 u300 u301 u302 u303 u304 u305 u306 u307 u308 u309 u310 u311 u312 u313 u314 u315 u316 u317 u318 u319 u320 u321 u322 u323 u324 u325 u326 u327 u328 u329 u330 u331 u332 u333 u334 u335 u336 u337 u338 : Value} (H0 : Hid (Sep w (twL t b (.slice (some ⟨g, 0, none⟩) (l.length + 2 : Nat) c) pv (x :: y :: l) Q many ++ chP b p k sz ca C2 (bx B10 (.cells #[.int .i64 v1, .int .i64 v2] 34) :: bx B0 (.cells #[.int .i64 o.kind, .int .i64 o.n, sv, .int .i64 o.l.args, .int .i64 o.l.res, .int .i64 o.l.height, av, .int .i64 o.v.1, .int .i64 o.v.2, .bool last] 36) :: F)) W)) (HS2 : Hid (Sim sz ca n ⟨C2, y.m.withOps (y.m.ops ++ res) :: l.map (·.m), Q, many⟩ Z)) (HNN' : Hid (N' = Tw.N ⟨C2, y.m.withOps (y.m.ops ++ res) :: l.map (·.m), Q, many⟩)) (hll : lq ≤ 280) (hn' : n + 1 ≤ n') (h5 : n5 = (lq : Int) + 2) (HLM : Hid (l.length = lq)) (hK : Hid (∀ (tm : Array Value) (W' : World), tm.size = 339 → TwR w W' t b p k sz ca n' N' F → K ⟨tm, []⟩ W')) (hoy : y.m.ops.length ≤ 64) (hres : res.length ≤ 64) (hA : ∀ W', Sep w (twL t b (.slice (some ⟨g, 0, none⟩) (l.length + 1 : Nat) c) pv (y :: l) Q many ++ (mrow x :: chP b p k sz ca C2 (bx B10 (.cells #[.int .i64 v1, .int .i64 v2] 34) :: bx B0 (.cells #[.int .i64 o.kind, .int .i64 o.n, sv, .int .i64 o.l.args, .int .i64 o.l.res, .int .i64 o.l.height, av, .int .i64 o.v.1, .int .i64 o.v.2, .bool last] 36) :: F))) W' → AppArg W' vo res.length 2 (wcells res)) :
    Code.wp Tryz.prog (pieceOf (Tryz.f8.body.getD .skip) [1, 1, 1, 1, 1, 1, 0, 1, 0, 1, 1, 1, 1, 1, 0, 1, 0, 1]) (Exit.inBlock 2 (Exit.then K (bodyPost Tryz.prog Tryz.f8 (fun e w' => TwR w w' t b p k sz ca n' N' F ∧ e = .returned (.bool true))))) ⟨#[.pointer (some ⟨t, 0, none⟩), (.agg #[.int .i64 o.kind, .int .i64 o.n, sv, .int .i64 o.l.args, .int .i64 o.l.res, .int .i64 o.l.height, av, .int .i64 o.v.1, .int .i64 o.v.2, .bool last]), u2, .pointer (some ⟨B0, 0, none⟩), .bool false, .int .i64 n5, u6, u7, u8, u9, .pointer (some ⟨B10, 0, none⟩), u11, u12, u13, u14, u15, vo, u17, u18, u19, u20, u21, u22, u23, u24, u25, u26, u27, u28, u29, u30, u31, u32, u33, u34, u35, u36, u37, u38, u39, u40, u41, u42, u43, u44, u45, u46, u47, u48, u49, u50, u51, u52, u53, u54, u55, u56, u57, u58, u59, u60, u61, u62, u63, u64, u65, u66, u67, u68, u69, u70, u71, u72, u73, u74, u75, u76, u77, u78, u79, u80, u81, u82, u83, u84, u85, u86, u87, u88, u89, u90, u91, u92, u93, u94, u95, u96, u97, u98, u99, u100, u101, u102, u103, u104, u105, u106, u107, u108, u109, u110, u111, u112, u113, u114, u115, u116, u117, u118, u119, u120, u121, u122, u123, u124, u125, u126, u127, u128, u129, u130, u131, u132, u133, u134, u135, u136, u137, u138, u139, u140, u141, u142, u143, u144, u145, u146, u147, u148, u149, u150, u151, u152, u153, u154, u155, u156, u157, u158, u159, u160, u161, u162, u163, u164, u165, u166, u167, u168, u169, u170, u171, u172, u173, u174, u175, u176, u177, u178, u179, u180, u181, u182, u183, u184, u185, u186, u187, u188, u189, u190, u191, u192, u193, u194, u195, u196, u197, u198, u199, u200, u201, u202, u203, u204, u205, u206, u207, u208, u209, u210, u211, u212, u213, u214, u215, u216, u217, u218, u219, u220, u221, u222, u223, u224, u225, u226, u227, u228, u229, u230, u231, u232, u233, u234, u235, u236, u237, u238, u239, u240, u241, u242, u243, u244, u245, u246, u247, u248, u249, u250, u251, u252, u253, u254, u255, u256, u257, u258, u259, u260, u261, u262, u263, u264, u265, u266, u267, u268, u269, u270, u271, u272, u273, u274, u275, u276, u277, u278, u279, u280, u281, u282, u283, u284, u285, u286, u287, u288, u289, u290, u291, u292, u293, u294, u295, u296, u297, u298, u299, u300, u301, u302, u303, u304, u305, u306, u307, u308, u309, u310, u311, u312, u313, u314, u315, u316, u317, u318, u319, u320, u321, u322, u323, u324, u325, u326, u327, u328, u329, u330, u331, u332, u333, u334, u335, u336, u337, u338], []⟩ W := by
  conv => arg 2; whnf
  subst h5
  have hA := Hid.mk hA
  have hc : lq + 2 ≤ c := by
    have := (tw_topAt (l := y :: l) H0.out).1
    simp only [List.length_cons] at this
    rw [← HLM.out]
    omega
  obtain ⟨-, k1, -, -, kz⟩ := tw_k H0.out
  rw [HLM.out] at k1
  have kz1 := kz 1
  have H1 : Hid (Sep w (twL t b (.slice (some ⟨g, 0, none⟩) (l.length + 1 : Nat) c) pv (y :: l) Q many ++ (mrow x :: chP b p k sz ca C2 (bx B10 (.cells #[.int .i64 v1, .int .i64 v2] 34) :: bx B0 (.cells #[.int .i64 o.kind, .int .i64 o.n, sv, .int .i64 o.l.args, .int .i64 o.l.res, .int .i64 o.l.height, av, .int .i64 o.v.1, .int .i64 o.v.2, .bool last] 36) :: F))) (W.setCell ⟨t, 1, none⟩ (.slice (some ⟨g, 0, none⟩) (lq + 1 : Nat) c))) := by
    have := tw_dropM (l := y :: l) H0.out
    rw [List.length_cons] at this
    have h2 := Hid.mk this
    unfold Hid at h2 ⊢
    rw [HLM.out] at h2 ⊢
    exact h2
  have w1 : IntKind.i64.wrap ((lq : Int) + 2 - 1) = (lq : Int) + 1 := by rw [IntKind.wrap_i64]; omega
  have w2 : IntKind.i64.wrap ((lq : Int) + 2 - 2) = (lq : Int) := by rw [IntKind.wrap_i64]; omega
  have w3 : IntKind.i64.wrap (lq : Int) = (lq : Int) := by rw [IntKind.wrap_i64]; omega
  have w4 : IntKind.i64.wrap ((lq : Int) + 1) = (lq : Int) + 1 := by rw [IntKind.wrap_i64]; omega
  have hk4 : (lq : Int) + 1 ≤ (c : Int) := by omega
  have hk5 : lq + 1 ≤ c := by omega
  have hk6 : (lq : Int) < (lq : Int) + 1 := by omega
  have hk7 : lq < lq + 1 := by omega
  have e9 : ((lq : Int) + 1).toNat = lq + 1 := by omega
  have hs9 : (0 : Int) ≤ (lq : Int) + 1 := by omega
  clear H0 kz
  go_upto_region 35 with (fail)
  go_upto_region 36 with (fail)
  obtain ⟨X2, hX2⟩ : ∃ X, X = W.setCell ⟨t, 1, none⟩ (.slice (some ⟨g, 0, none⟩) (lq + 1 : Nat) c) := ⟨_, rfl⟩
  have h1 := H1.out
  have hX2' : W.setCell ⟨t, 1, none⟩ (.slice (some ⟨g, 0, none⟩) (lq + 1) c) = X2 := hX2.symm
  rw [hX2'] at h1 ⊢
  clear hX2 hX2' H1 k1 kz1
  obtain ⟨ao, c2, hov, hc2, -⟩ := tw_ovShape h1
  obtain ⟨m, hm⟩ : ∃ m, y.m.ops.length = m := ⟨_, rfl⟩
  rw [hm] at hov hoy hc2
  have HM := Hid.mk hm
  have HOV := Hid.mk hov
  obtain ⟨-, -, -, -, -, -, k5, -, -⟩ := tw_topAt h1
  obtain ⟨-, k1, -, -, -⟩ := tw_k h1
  rw [HLM.out] at k1 k5
  rw [hov] at k5
  have HRW : X2.ownsRow 0 34 2 (.slice ao m c2) m (wcells y.m.ops) := by
    have : X2.ownsRow 0 34 2 y.ov y.m.ops.length (wcells y.m.ops) := (tw_open h1).owns (List.Mem.head _)
    rw [hov, hm] at this
    exact this
  have HRW4 : Hid (∀ X4, X4 = X2.drew → X4.ownsRow 0 34 2 (.slice ao m c2) m (wcells y.m.ops)) := fun X4 q => by rw [q]; exact HRW.drew
  have HA4 : Hid (∀ X4, X4 = X2.drew → AppArg X4 vo res.length 2 (wcells res)) := fun X4 q => by rw [q]; exact hA.out _ h1.drew
  have H7 := Hid.mk h1
  obtain ⟨ip0, ip, ipz0, ipz1, ipz2⟩ := info_parts infoV
  clear h1 HRW hov hm hA
  refine wp_region_L 19 (fun X => X.cell? ⟨t, 1, none⟩ = some (.slice (some ⟨g, 0, none⟩) (lq + 1 : Nat) c) ∧ X.cell? ⟨g, lq * 7 + 5, none⟩ = some (.slice ao m c2)) (by kernel_rfl) ⟨k1, k5⟩ (fun hHeld => ?_)
  obtain ⟨X8, hX8⟩ : ∃ X, X = X2.drew := ⟨_, rfl⟩
  rw [← hX8] at hHeld ⊢
  have HX8e := Hid.mk hX8
  clear hX8
  refine wpAnyL_take (i := 0) (v := ?_) rfl (by kernel_rfl) (by kernel_rfl) (by kernel_rfl) (by kernel_rfl) (fun _ _ _ h => h) (Or.inl ⟨by rfl, ?_⟩) (by assumption) ?_
  rotate_left
  · (intro w hSw; (try dsimp only at hSw); go_simp <;> with_reducible rfl)
  (try simp only [Act.put, List.getElem_toArray, List.getElem_cons_zero, List.getElem_cons_succ, List.setIfInBounds_toArray, List.set_cons_zero, List.set_cons_succ])
  refine wpAnyL_take (i := 1) (v := ?_) rfl (by kernel_rfl) (by kernel_rfl) (by kernel_rfl) (by kernel_rfl) (fun _ _ _ h => h) (Or.inl ⟨by rfl, ?_⟩) (by assumption) ?_
  rotate_left
  · (intro w hSw; (try dsimp only at hSw); go_simp <;> with_reducible rfl)
  (try simp only [Act.put, List.getElem_toArray, List.getElem_cons_zero, List.getElem_cons_succ, List.setIfInBounds_toArray, List.set_cons_zero, List.set_cons_succ])
  refine wpAnyL_take (i := 2) (v := ?_) rfl (by kernel_rfl) (by kernel_rfl) (by kernel_rfl) (by kernel_rfl) (fun _ _ _ h => h) (Or.inl ⟨by rfl, ?_⟩) (by assumption) ?_
  rotate_left
  · (intro w hSw; (try dsimp only at hSw); go_simp <;> with_reducible rfl)
  (try simp only [Act.put, List.getElem_toArray, List.getElem_cons_zero, List.getElem_cons_succ, List.setIfInBounds_toArray, List.set_cons_zero, List.set_cons_succ])
  refine wpAnyL_take (i := 3) (v := ?_) rfl (by kernel_rfl) (by kernel_rfl) (by kernel_rfl) (by kernel_rfl) (fun _ _ _ h => h) (Or.inl ⟨by rfl, ?_⟩) (by assumption) ?_
  rotate_left
  · (intro w hSw; (try dsimp only at hSw); go_simp <;> with_reducible rfl)
  (try simp only [Act.put, List.getElem_toArray, List.getElem_cons_zero, List.getElem_cons_succ, List.setIfInBounds_toArray, List.set_cons_zero, List.set_cons_succ])
  refine wpAnyL_take (i := 4) (v := ?_) rfl (by kernel_rfl) (by kernel_rfl) (by kernel_rfl) (by kernel_rfl) (fun _ _ _ h => h) (Or.inl ⟨by rfl, ?_⟩) (by assumption) ?_
  rotate_left
  · (intro w hSw; (try dsimp only at hSw); go_simp <;> with_reducible rfl)
  (try simp only [Act.put, List.getElem_toArray, List.getElem_cons_zero, List.getElem_cons_succ, List.setIfInBounds_toArray, List.set_cons_zero, List.set_cons_succ])
  refine wpAnyL_take (i := 5) (v := ?_) rfl (by kernel_rfl) (by kernel_rfl) (by kernel_rfl) (by kernel_rfl) (fun _ _ _ h => h) (Or.inl ⟨by rfl, ?_⟩) (by assumption) ?_
  rotate_left
  · (intro w hSw; (try dsimp only at hSw); go_simp <;> with_reducible rfl)
  (try simp only [Act.put, List.getElem_toArray, List.getElem_cons_zero, List.getElem_cons_succ, List.setIfInBounds_toArray, List.set_cons_zero, List.set_cons_succ])
  refine wpAnyL_take (i := 6) (v := ?_) rfl (by kernel_rfl) (by kernel_rfl) (by kernel_rfl) (by kernel_rfl) (fun _ _ _ h => h) (Or.inl ⟨by rfl, ?_⟩) (by assumption) ?_
  rotate_left
  · (intro w hSw; (try dsimp only at hSw); go_simp <;> with_reducible rfl)
  (try simp only [Act.put, List.getElem_toArray, List.getElem_cons_zero, List.getElem_cons_succ, List.setIfInBounds_toArray, List.set_cons_zero, List.set_cons_succ])
  refine wpAnyL_take (i := 7) (v := ?_) rfl (by kernel_rfl) (by kernel_rfl) (by kernel_rfl) (by kernel_rfl) (fun _ _ _ h => h) (Or.inl ⟨by rfl, ?_⟩) (by assumption) ?_
  rotate_left
  · (intro w hSw; (try dsimp only at hSw); go_simp <;> with_reducible rfl)
  (try simp only [Act.put, List.getElem_toArray, List.getElem_cons_zero, List.getElem_cons_succ, List.setIfInBounds_toArray, List.set_cons_zero, List.set_cons_succ])
  refine wpAnyL_take (i := 8) (v := ?_) rfl (by kernel_rfl) (by kernel_rfl) (by kernel_rfl) (by kernel_rfl) (fun _ _ _ h => h) (Or.inl ⟨by rfl, ?_⟩) (by assumption) ?_
  rotate_left
  · (intro w hSw; (try dsimp only at hSw); go_simp <;> with_reducible rfl)
  (try simp only [Act.put, List.getElem_toArray, List.getElem_cons_zero, List.getElem_cons_succ, List.setIfInBounds_toArray, List.set_cons_zero, List.set_cons_succ])
  refine wpAnyL_take (i := 9) (v := ?_) rfl (by kernel_rfl) (by kernel_rfl) (by kernel_rfl) (by kernel_rfl) (fun _ _ _ h => h) (Or.inl ⟨by rfl, ?_⟩) (by assumption) ?_
  rotate_left
  · (intro w hSw; (try dsimp only at hSw); go_simp <;> with_reducible rfl)
  (try simp only [Act.put, List.getElem_toArray, List.getElem_cons_zero, List.getElem_cons_succ, List.setIfInBounds_toArray, List.set_cons_zero, List.set_cons_succ])
  refine wpAnyL_take (i := 10) (v := ?_) rfl (by kernel_rfl) (by kernel_rfl) (by kernel_rfl) (by kernel_rfl) (fun _ _ _ h => h) (Or.inl ⟨by rfl, ?_⟩) (by assumption) ?_
  rotate_left
  · (intro w hSw; (try dsimp only at hSw); go_simp <;> with_reducible rfl)
  (try simp only [Act.put, List.getElem_toArray, List.getElem_cons_zero, List.getElem_cons_succ, List.setIfInBounds_toArray, List.set_cons_zero, List.set_cons_succ])
  refine wpAnyL_take (i := 11) (v := ?_) rfl (by kernel_rfl) (by kernel_rfl) (by kernel_rfl) (by kernel_rfl) (fun _ _ _ h => h) (Or.inl ⟨by rfl, ?_⟩) (by assumption) ?_
  rotate_left
  · (intro w hSw; (try dsimp only at hSw); go_simp <;> with_reducible rfl)
  (try simp only [Act.put, List.getElem_toArray, List.getElem_cons_zero, List.getElem_cons_succ, List.setIfInBounds_toArray, List.set_cons_zero, List.set_cons_succ])
  refine wpAnyL_take (i := 12) (v := ?_) rfl (by kernel_rfl) (by kernel_rfl) (by kernel_rfl) (by kernel_rfl) (fun _ _ _ h => h) (Or.inl ⟨by rfl, ?_⟩) (by assumption) ?_
  rotate_left
  · (intro w hSw; (try dsimp only at hSw); go_simp <;> with_reducible rfl)
  (try simp only [Act.put, List.getElem_toArray, List.getElem_cons_zero, List.getElem_cons_succ, List.setIfInBounds_toArray, List.set_cons_zero, List.set_cons_succ])
  refine wpAnyL_take (i := 13) (v := ?_) rfl (by kernel_rfl) (by kernel_rfl) (by kernel_rfl) (by kernel_rfl) (fun _ _ _ h => h) (Or.inl ⟨by rfl, ?_⟩) (by assumption) ?_
  rotate_left
  · (intro w hSw; (try dsimp only at hSw); go_simp <;> with_reducible rfl)
  (try simp only [Act.put, List.getElem_toArray, List.getElem_cons_zero, List.getElem_cons_succ, List.setIfInBounds_toArray, List.set_cons_zero, List.set_cons_succ])
  refine wpAnyL_take (i := 14) (v := ?_) rfl (by kernel_rfl) (by kernel_rfl) (by kernel_rfl) (by kernel_rfl) (fun _ _ _ h => h) (Or.inl ⟨by rfl, ?_⟩) (by assumption) ?_
  rotate_left
  · (intro w hSw; (try dsimp only at hSw); go_simp <;> with_reducible rfl)
  (try simp only [Act.put, List.getElem_toArray, List.getElem_cons_zero, List.getElem_cons_succ, List.setIfInBounds_toArray, List.set_cons_zero, List.set_cons_succ])
  refine wpAnyL_take (i := 15) (v := ?_) rfl (by kernel_rfl) (by kernel_rfl) (by kernel_rfl) (by kernel_rfl) (fun _ _ _ h => h) (Or.inl ⟨by rfl, ?_⟩) (by assumption) ?_
  rotate_left
  · (intro w hSw; (try dsimp only at hSw); go_simp <;> with_reducible rfl)
  (try simp only [Act.put, List.getElem_toArray, List.getElem_cons_zero, List.getElem_cons_succ, List.setIfInBounds_toArray, List.set_cons_zero, List.set_cons_succ])
  refine wpAnyL_only (i := 16) (by kernel_rfl) rfl (fun K hK => ?_)
  refine step_append_x _ (by rfl) _ _ _ (by rfl) 0 34 ip0 ((.agg #[.int .i64 0, .int .i64 0])) 2 16 Tryz.underlying32 ip ipz0 ipz1 ipz2 rfl (by omega) (.slice ao m c2) m (wcells y.m.ops) (by rfl) ((HRW4.out _ HX8e.out)) res.length (wcells res) vo (by rfl) (HA4.out _ HX8e.out) (by unfold maxLen; omega) (by omega) (Nat.zero_le _) ?_
  intro g2 cap2 w12 hown2 hg2 hat2
  have h30 := H7.out.drew
  rw [← HX8e.out] at h30
  obtain ⟨h4, h5⟩ := tw_push1 (kk := m) (news := res) h30 HM.out rfl hown2 (by rw [HOV.out]; exact hg2) (by rw [HOV.out]; exact hat2)
  obtain ⟨-, u1, -, u5, u6⟩ := tw_mid h5
  rw [HLM.out, HOV.out] at u5
  rw [HLM.out] at h4 u1
  have H4 := Hid.mk h4
  have z2 := u6 (lq * 7 + 5)
  clear h30 h4 h5 hown2 hg2 hat2 u6 HRW4 HA4
  refine hK _ _ (fun _ => ⟨u1, u5⟩) (fun hHeld0 => ?_)
  have hHeld := hHeld0 rfl
  clear hK K hHeld0
  (try simp only [Act.put, List.getElem_toArray, List.getElem_cons_zero, List.getElem_cons_succ, List.setIfInBounds_toArray, List.set_cons_zero, List.set_cons_succ])
  refine wpAnyL_only (i := 17) (by kernel_rfl) rfl (fun K hK => ?_)
  go_simp
  refine hK _ _ (fun _ => ⟨u1, u5⟩) (fun hHeld0 => ?_)
  have hHeld := hHeld0 rfl
  clear hK K hHeld0
  (try simp only [Act.put, List.getElem_toArray, List.getElem_cons_zero, List.getElem_cons_succ, List.setIfInBounds_toArray, List.set_cons_zero, List.set_cons_succ])
  refine wpAnyL_only (i := 18) (by kernel_rfl) rfl (fun K hK => ?_)
  go_simp
  refine hK _ _ (fun _ => ⟨u1, u5⟩) (fun hHeld0 => ?_)
  have hHeld := hHeld0 rfl
  clear hK K hHeld0
  (try simp only [Act.put, List.getElem_toArray, List.getElem_cons_zero, List.getElem_cons_succ, List.setIfInBounds_toArray, List.set_cons_zero, List.set_cons_succ])
  refine wpAnyL_only (i := 19) (by kernel_rfl) rfl (fun K hK => ?_)
  go_simp
  refine hK _ _ (fun q => by cases q) (fun hHeld0 => ?_)
  clear hK K hHeld0
  refine wpAnyL_done (by kernel_rfl) ?_
  clear HX8e H7
  go_wp2_with fail
  exact hK.out _ _ rfl ⟨_, _, ⟨_, _, _, rfl, tw_lose (tw_lose (tw_sub1 H4.out))⟩, HS2.out.mono (by omega), HNN'.out.symm⟩
set_option maxRecDepth 100000 in
set_option maxHeartbeats 4000000 in
theorem tdo_ret {n' : Nat} {N' : Nt} {K : Act → World → Prop} {lm B10 : Nat} {v1 v2 : Int} {u2 u6 u7 u8 u11 u12 u13 u14 u15 u16 u17 u18 u19 u20 u21 u22 u23 u24 u25 u26 u27 u28 u29 u30 u31 u32 u33 u34 u35 u36 u37 u38 u39 u40 u41 u42 u43 u44 u45 u46 u47 u48 u49 u50 u51 u52 u53 u54 u55 u56 u57 u58 u59 u60 u61 u62 u63 u64 u65 u66 u67 u68 u69 u70 u71 u72 u73 u74 u75 u76 u77 u78 u79 u80 u81 u82 u83 u84 u85 u86 u87 u88 u89 u90 u91 u92 u93 u94 u95 u96 u97 u98 u99 u100 u101 u102 u103 u104 u105 u106 u107 u108 u109 u110 u111 u112 u113 u114 u115 u116 u117 u118 u119 u120 u121 u122 u123 u124 u125 u126 u127 u128 u129 u130 u131 u132 u133 u134 u135 u136 u137 u138 u139 u140 u141 u142 u143 u144 u145 u146 u147 u148 u149 u150 u151 u152 u153 u154 u155 u156 u157 u158 u159 u160 u161 u162 u163 u164 u165 u166 u167 u168 u169 u170 u171 u172 u173 u174 u175 u176 u177 u178 u179 u180 u181 u182 u183 u184 u185 u186 u187 u188 u189 u190 u191 u192 u193 u194 u195 u196 u197 u198 u199 u200 u201 u202 u203 u204 u205 u206 u207 u208 u209 u210 u211 u212 u213 u214 u215 u216 u217 u218 u219 u220 u221 u222 u223 u224 u225 u226 u227 u228 u229 u230 u231 u232 u233 u234 u235 u236 u237 u238 u239 u240 u241 u242 u243 u244 u245 u246 u247 u248 u249 u250 u251 u252 u253 u254 u255 u256 u257 u258 u259 u260 u261 u262 u263 u264 u265 u266 u267 u268 u269 u270 u271 u272 u273 u274 u275 u276 u277 u278 u279 u280 u281 u282 u283 u284 u285 u286 u287 u288 u289 u290 u291 u292 u293 u294 u295 u296 u297 u298 u299 u300 u301 u302 u303 u304 u305 u306 u307 u308 u309 u310 u311 u312 u313 u314 u315 u316 u317 u318 u319 u320 u321 u322 u323 u324 u325 u326 u327 u328 u329 u330 u331 u332 u333 u334 u335 u336 u337 u338 : Value} (H0 : Hid (Sep w (twL t b (.slice (some ⟨g, 0, none⟩) (l.length + 1 : Nat) c) pv (x :: l) Q many ++ chP b p k sz ca C (bx B10 (.cells #[.int .i64 v1, .int .i64 v2] 34) :: bx B0 (.cells #[.int .i64 o.kind, .int .i64 o.n, sv, .int .i64 o.l.args, .int .i64 o.l.res, .int .i64 o.l.height, av, .int .i64 o.v.1, .int .i64 o.v.2, .bool last] 36) :: F)) W)) (hs : Sim sz ca n ⟨C, (x :: l).map (·.m), Q, many⟩ Z) (hn : n ≤ 280) (hn' : n + 1 ≤ n') (hlm : l.length = lm) (hv : o.val = (v1, v2)) (hN : stepN (Tw.N ⟨C, (x :: l).map (·.m), Q, many⟩) o = N') (hK : Hid (∀ (tm : Array Value) (W' : World), tm.size = 339 → TwR w W' t b p k sz ca n' N' F → K ⟨tm, []⟩ W')) (hki : o.kind = 2) :
    Code.wp Tryz.prog (pieceOf (Tryz.f8.body.getD .skip) [1, 1, 1, 1, 1, 1, 0, 1, 0, 1, 1, 1, 1, 1, 0]) (Exit.inBlock 2 (Exit.then K (bodyPost Tryz.prog Tryz.f8 (fun e w' => TwR w w' t b p k sz ca n' N' F ∧ e = .returned (.bool true))))) ⟨#[.pointer (some ⟨t, 0, none⟩), (.agg #[.int .i64 o.kind, .int .i64 o.n, sv, .int .i64 o.l.args, .int .i64 o.l.res, .int .i64 o.l.height, av, .int .i64 o.v.1, .int .i64 o.v.2, .bool last]), u2, .pointer (some ⟨B0, 0, none⟩), .bool false, .int .i64 ((lm : Int) + 1), u6, u7, u8, .pointer (some ⟨g, lm * 7, none⟩), .pointer (some ⟨B10, 0, none⟩), u11, u12, u13, u14, u15, u16, u17, u18, u19, u20, u21, u22, u23, u24, u25, u26, u27, u28, u29, u30, u31, u32, u33, u34, u35, u36, u37, u38, u39, u40, u41, u42, u43, u44, u45, u46, u47, u48, u49, u50, u51, u52, u53, u54, u55, u56, u57, u58, u59, u60, u61, u62, u63, u64, u65, u66, u67, u68, u69, u70, u71, u72, u73, u74, u75, u76, u77, u78, u79, u80, u81, u82, u83, u84, u85, u86, u87, u88, u89, u90, u91, u92, u93, u94, u95, u96, u97, u98, u99, u100, u101, u102, u103, u104, u105, u106, u107, u108, u109, u110, u111, u112, u113, u114, u115, u116, u117, u118, u119, u120, u121, u122, u123, u124, u125, u126, u127, u128, u129, u130, u131, u132, u133, u134, u135, u136, u137, u138, u139, u140, u141, u142, u143, u144, u145, u146, u147, u148, u149, u150, u151, u152, u153, u154, u155, u156, u157, u158, u159, u160, u161, u162, u163, u164, u165, u166, u167, u168, u169, u170, u171, u172, u173, u174, u175, u176, u177, u178, u179, u180, u181, u182, u183, u184, u185, u186, u187, u188, u189, u190, u191, u192, u193, u194, u195, u196, u197, u198, u199, u200, u201, u202, u203, u204, u205, u206, u207, u208, u209, u210, u211, u212, u213, u214, u215, u216, u217, u218, u219, u220, u221, u222, u223, u224, u225, u226, u227, u228, u229, u230, u231, u232, u233, u234, u235, u236, u237, u238, u239, u240, u241, u242, u243, u244, u245, u246, u247, u248, u249, u250, u251, u252, u253, u254, u255, u256, u257, u258, u259, u260, u261, u262, u263, u264, u265, u266, u267, u268, u269, u270, u271, u272, u273, u274, u275, u276, u277, u278, u279, u280, u281, u282, u283, u284, u285, u286, u287, u288, u289, u290, u291, u292, u293, u294, u295, u296, u297, u298, u299, u300, u301, u302, u303, u304, u305, u306, u307, u308, u309, u310, u311, u312, u313, u314, u315, u316, u317, u318, u319, u320, u321, u322, u323, u324, u325, u326, u327, u328, u329, u330, u331, u332, u333, u334, u335, u336, u337, u338], []⟩ W := by
  conv => arg 2; whnf
  have hok := hs.ok (by omega)
  have HP := cret_any (tw_ch H0.out) hok
  have k0 := (tw_k H0.out).1
  have HLM := Hid.mk hlm
  have HSIM := Hid.mk hs
  have hll : lm ≤ 280 := by
    have := hs.len.1
    simp at this
    omega
  cases l with
  | nil =>
    have hno := hs.ret_last rfl
    rw [hno] at HP
    have HP := Hid.mk HP
    have HNN' : Hid (N' = Tw.N ⟨C, [x].map (·.m), Q, many⟩) := by
      rw [← hN]
      unfold Hid stepN Tw.N
      simp only [List.map_cons, List.map_nil]
      rw [if_neg (by omega), if_neg (by omega), if_pos hki]
    clear hs hno hok hlm hki hN hv
    go_wp2_with fail
    refine HP.out.mono ?_
    rintro e w6 ⟨h6, rfl⟩
    have H7 := Hid.mk (tw_lose (tw_lose (ch_tw h6)))
    clear h6 HP k0
    go_wp2_with fail
    exact hK.out _ _ rfl ⟨_, _, ⟨_, _, _, rfl, H7.out⟩, HSIM.out.mono (by omega), HNN'.out.symm⟩
  | cons y l =>
    by_cases hh : ((y.m.ops.length : Int) + x.m.res.length : Int) ≤ y.m.lay.height
    · obtain ⟨r1, Z', hs2⟩ := hs.ret rfl hh
      simp only at r1
      rw [r1] at HP
      have HP := Hid.mk HP
      have HS2 := Hid.mk hs2
      have HNN' : Hid (N' = Tw.N ⟨(retC ca C).2, y.m.withOps (y.m.ops ++ x.m.res) :: l.map (·.m), Q, many⟩) := by
        rw [← hN]
        unfold Hid stepN Tw.N
        simp only [List.map_cons]
        rw [if_neg (by omega), if_neg (by omega), if_pos hki, if_pos hh]
      obtain ⟨hlo, hns, hn64, -, -⟩ := hs.md (m := x.m) (by simp)
      obtain ⟨-, -, -, -, hoy⟩ := hs.md (m := y.m) (by simp)
      have hrl : x.m.res.length ≤ 64 := by simp only [Md.res, List.length_take, List.length_drop]; omega
      obtain ⟨-, -, a0, a1, r0, r1', -, -⟩ := (layOk_iff _).1 hlo
      obtain ⟨na, hna⟩ := Int.eq_ofNat_of_zero_le a0
      obtain ⟨nr, hnr⟩ := Int.eq_ofNat_of_zero_le (show 0 ≤ x.m.lay.res by omega)
      obtain ⟨ns, hns2⟩ : ∃ ns, x.m.slots.length = ns := ⟨_, rfl⟩
      rw [hns2] at hn64
      have hsum : na + nr ≤ ns := by omega
      have hreslen : x.m.res = (x.m.slots.drop na).take nr := by unfold Md.res; rw [hna, hnr, Int.toNat_natCast, Int.toNat_natCast]
      have hrl2 : x.m.res.length = nr := by rw [hreslen]; simp; omega
      have HNA := Hid.mk hna
      have HNR := Hid.mk hnr
      have HNS := Hid.mk hns2
      have HRES := Hid.mk hreslen
      have HRL := Hid.mk hrl2
      have HHP := Hid.mk (And.intro hoy hrl)
      clear hs hs2 hok hh hki hN hv hlm hlo hns hrl hrl2 hreslen a0 a1 r0 r1' hna hnr hns2 r1 hoy
      go_wp2_with fail
      refine HP.out.mono ?_
      rintro e w6 ⟨h6, rfl⟩
      have h7 := ch_tw h6
      obtain ⟨-, -, q1, q2, -, q4, -, -, -⟩ := tw_topAt h7
      rw [HLM.out] at q1 q2 q4
      rw [HNA.out] at q1
      rw [HNR.out] at q2
      have hcase := tw_svCases h7
      rw [HNS.out] at hcase
      have H7 := Hid.mk h7
      clear h6 h7 HP k0
      rcases hcase with ⟨hsv, hnil⟩ | ⟨gs, cs, hsv, hcs⟩
      · have hz : ns = 0 := by rw [← HNS.out, hnil]; rfl
        obtain rfl : na = 0 := by omega
        obtain rfl : nr = 0 := by omega
        rw [hsv] at q4
        have HSV := Hid.mk hsv
        clear hsv hnil hz
        go_upto_region 34 with (fail)
        go_quiet (fail)
        dsimp only [Exit.then]
        apply_assumption
        have HA : Hid (∀ W', Sep w (twL t b (.slice (some ⟨g, 0, none⟩) (l.length + 1 : Nat) c) pv (y :: l) Q many ++ (mrow x :: chP b p k sz ca (retC ca C).2 (bx B10 (.cells #[.int .i64 v1, .int .i64 v2] 34) :: bx B0 (.cells #[.int .i64 o.kind, .int .i64 o.n, sv, .int .i64 o.l.args, .int .i64 o.l.res, .int .i64 o.l.height, av, .int .i64 o.v.1, .int .i64 o.v.2, .bool last] 36) :: F))) W' → AppArg W' (.slice none 0 0) x.m.res.length 2 (wcells x.m.res)) := fun W' q => by
          have e : x.m.res = [] := List.eq_nil_of_length_eq_zero HRL.out
          rw [e]
          exact ⟨rfl, by simp [wcells], .inl ⟨rfl, rfl⟩⟩
        refine tdo_ret2 (C2 := (retC ca C).2) (Z := Z') (lq := l.length) (res := x.m.res) ?_ HS2 HNN' (by have := HLM.out; simp only [List.length_cons] at this; omega) hn' (by have := HLM.out; simp only [List.length_cons] at this; omega) rfl hK HHP.out.1 HHP.out.2 HA.out
        exact Hid.mk (Sep.keep H7.out (below_drewN (Below.refl _ _) _))
      · rw [hsv] at q4
        have HSV := Hid.mk hsv
        have w1 : IntKind.i64.wrap ((na : Int) + (nr : Int)) = (na : Int) + (nr : Int) := by rw [IntKind.wrap_i64]; omega
        clear hsv
        go_upto_region 34 with (fail)
        go_quiet (fail)
        dsimp only [Exit.then]
        apply_assumption
        have HA : Hid (∀ W', Sep w (twL t b (.slice (some ⟨g, 0, none⟩) (l.length + 1 : Nat) c) pv (y :: l) Q many ++ (mrow x :: chP b p k sz ca (retC ca C).2 (bx B10 (.cells #[.int .i64 v1, .int .i64 v2] 34) :: bx B0 (.cells #[.int .i64 o.kind, .int .i64 o.n, sv, .int .i64 o.l.args, .int .i64 o.l.res, .int .i64 o.l.height, av, .int .i64 o.v.1, .int .i64 o.v.2, .bool last] 36) :: F))) W' → AppArg W' (.slice (if cs = na then some ⟨gs, 0, none⟩ else some ⟨gs, na * 2, none⟩) (na + nr - na) (cs - na)) x.m.res.length 2 (wcells x.m.res)) := fun W' q => by
          have e3 : na + nr - na = nr := by omega
          rw [e3]
          by_cases hcn : cs = na
          · rw [if_pos hcn]
            have e0 : nr = 0 := by omega
            have e : x.m.res = [] := List.eq_nil_of_length_eq_zero (by rw [HRL.out]; exact e0)
            rw [e, e0]
            exact ⟨rfl, by simp [wcells], .inr ⟨_, _, rfl, fun j u hu => by simp [wcells] at hu⟩⟩
          · rw [if_neg hcn]
            have q1 := Sep.sepE ((Sep.sepE (q.perm List.perm_middle)).perm (List.Perm.swap _ _ _))
            have hr : Rd W' x.sv x.m.slots := Rd.of_row (Sep.owns q1 (List.Mem.head _)) rfl
            rw [HSV.out] at hr
            have := (Rd.part hr HNS.out (a := na) (r := nr) hsum (cs - na)).app
            rw [← HRES.out, HRL.out] at this
            rw [HRL.out]
            exact this
        refine tdo_ret2 (C2 := (retC ca C).2) (Z := Z') (lq := l.length) (res := x.m.res) ?_ HS2 HNN' (by have := HLM.out; simp only [List.length_cons] at this; omega) hn' (by have := HLM.out; simp only [List.length_cons] at this; omega) rfl hK HHP.out.1 HHP.out.2 HA.out
        exact Hid.mk (Sep.keep H7.out (below_drewN (Below.refl _ _) _))
    · have hno := hs.ret_no rfl hh
      simp only at hno
      rw [hno] at HP
      have HP := Hid.mk HP
      have HNN' : Hid (N' = Tw.N ⟨C, (x :: y :: l).map (·.m), Q, many⟩) := by
        rw [← hN]
        unfold Hid stepN Tw.N
        simp only [List.map_cons]
        rw [if_neg (by omega), if_neg (by omega), if_pos hki, if_neg hh]
      clear hs hno hok hlm hki hN hv hh
      go_wp2_with fail
      refine HP.out.mono ?_
      rintro e w6 ⟨h6, rfl⟩
      have H7 := Hid.mk (tw_lose (tw_lose (ch_tw h6)))
      clear h6 HP k0
      go_wp2_with fail
      exact hK.out _ _ rfl ⟨_, _, ⟨_, _, _, rfl, H7.out⟩, HSIM.out.mono (by omega), HNN'.out.symm⟩
end
end Go.Proofs.YtpfnnmcokbolhaaGreat
