/- Parts Ur Us Ut, put together. -/
import Derived.Test.YtpfnnmcokbolhaaMc19
import Derived.Test.YtpfnnmcokbolhaaMc22
/- The twin's do: Pop. -/
namespace Go.Proofs.Ytpfnnmcokbolhaa
open Go.RowKit
set_option pp.deepTerms true
section
variable {w W : World} {F G : List Asr} {t b p k g c : Nat} {sz ca many : Int} {C : Ch} {lv pv : Value} {ml l : List Mv} {x : Mv} {Q : List (Int × Pf)} {A : Asr} {T : Tw} {Z : List (Md × Af)} {n : Nat} {o : Op25} {sv av : Value} {last : Bool} {B0 : Nat}
set_option maxRecDepth 100000 in
set_option maxHeartbeats 4000000 in
theorem tdo_pop {n' : Nat} {N' : Nt} {K : Act → World → Prop} {lm B10 : Nat} {v1 v2 : Int} {u2 u6 u7 u8 u11 u12 u13 u14 u15 u16 u17 u18 u19 u20 u21 u22 u23 u24 u25 u26 u27 u28 u29 u30 u31 u32 u33 u34 u35 u36 u37 u38 u39 u40 u41 u42 u43 u44 u45 u46 u47 u48 u49 u50 u51 u52 u53 u54 u55 u56 u57 u58 u59 u60 u61 u62 u63 u64 u65 u66 u67 u68 u69 u70 u71 u72 u73 u74 u75 u76 u77 u78 u79 u80 u81 u82 u83 u84 u85 u86 u87 u88 u89 u90 u91 u92 u93 u94 u95 u96 u97 u98 u99 u100 u101 u102 u103 u104 u105 u106 u107 u108 u109 u110 u111 u112 u113 u114 u115 u116 u117 u118 u119 u120 u121 u122 u123 u124 u125 u126 u127 u128 u129 u130 u131 u132 u133 u134 u135 u136 u137 u138 u139 u140 u141 u142 u143 u144 u145 u146 u147 u148 u149 u150 u151 u152 u153 u154 u155 u156 u157 u158 u159 u160 u161 u162 u163 u164 u165 u166 u167 u168 u169 u170 u171 u172 u173 u174 u175 u176 u177 u178 u179 u180 u181 u182 u183 u184 u185 u186 u187 u188 u189 u190 u191 u192 u193 u194 u195 u196 u197 u198 u199 u200 u201 u202 u203 u204 u205 u206 u207 u208 u209 u210 u211 u212 u213 u214 u215 u216 u217 u218 u219 u220 u221 u222 u223 u224 u225 u226 u227 u228 u229 u230 u231 u232 u233 u234 u235 u236 u237 u238 u239 u240 u241 u242 u243 u244 u245 u246 u247 u248 u249 u250 u251 u252 u253 u254 u255 u256 u257 u258 u259 u260 u261 u262 u263 u264 u265 u266 u267 u268 u269 u270 u271 u272 u273 u274 u275 u276 u277 u278 u279 u280 u281 u282 u283 u284 u285 u286 u287 u288 u289 u290 u291 u292 u293 u294 u295 u296 u297 u298 u299 u300 u301 u302 u303 u304 u305 u306 u307 u308 u309 u310 u311 u312 u313 u314 u315 u316 u317 u318 u319 u320 u321 u322 u323 u324 u325 u326 u327 u328 u329 u330 u331 u332 u333 u334 u335 u336 u337 u338 : Value} (H0 : Hid (Sep w (twL t b (.slice (some ⟨g, 0, none⟩) (l.length + 1 : Nat) c) pv (x :: l) Q many ++ chP b p k sz ca C (bx B10 (.cells #[.int .i64 v1, .int .i64 v2] 34) :: bx B0 (.cells #[.int .i64 o.kind, .int .i64 o.n, sv, .int .i64 o.l.args, .int .i64 o.l.res, .int .i64 o.l.height, av, .int .i64 o.v.1, .int .i64 o.v.2, .bool last] 36) :: F)) W)) (hs : Sim sz ca n ⟨C, (x :: l).map (·.m), Q, many⟩ Z) (hn : n ≤ 280) (hn' : n ≤ n') (hlm : l.length = lm) (hv : o.val = (v1, v2)) (hN : stepN (Tw.N ⟨C, (x :: l).map (·.m), Q, many⟩) o = N') (hK : Hid (∀ (tm : Array Value) (W' : World), tm.size = 339 → TwR w W' t b p k sz ca n' N' F → K ⟨tm, []⟩ W')) (hki : o.kind = 6) :
    Code.wp Try.prog (pieceOf (Try.f8.body.getD .skip) [1, 1, 1, 1, 1, 1, 0, 1, 0, 1, 1, 1, 1, 1, 1, 1, 1, 1, 1, 1, 0]) (Exit.inBlock 2 (Exit.then K (bodyPost Try.prog Try.f8 (fun e w' => TwR w w' t b p k sz ca n' N' F ∧ e = .returned (.bool true))))) ⟨#[.pointer (some ⟨t, 0, none⟩), (.agg #[.int .i64 o.kind, .int .i64 o.n, sv, .int .i64 o.l.args, .int .i64 o.l.res, .int .i64 o.l.height, av, .int .i64 o.v.1, .int .i64 o.v.2, .bool last]), u2, .pointer (some ⟨B0, 0, none⟩), .bool false, .int .i64 ((lm : Int) + 1), u6, u7, u8, .pointer (some ⟨g, lm * 7, none⟩), .pointer (some ⟨B10, 0, none⟩), u11, u12, u13, u14, u15, u16, u17, u18, u19, u20, u21, u22, u23, u24, u25, u26, u27, u28, u29, u30, u31, u32, u33, u34, u35, u36, u37, u38, u39, u40, u41, u42, u43, u44, u45, u46, u47, u48, u49, u50, u51, u52, u53, u54, u55, u56, u57, u58, u59, u60, u61, u62, u63, u64, u65, u66, u67, u68, u69, u70, u71, u72, u73, u74, u75, u76, u77, u78, u79, u80, u81, u82, u83, u84, u85, u86, u87, u88, u89, u90, u91, u92, u93, u94, u95, u96, u97, u98, u99, u100, u101, u102, u103, u104, u105, u106, u107, u108, u109, u110, u111, u112, u113, u114, u115, u116, u117, u118, u119, u120, u121, u122, u123, u124, u125, u126, u127, u128, u129, u130, u131, u132, u133, u134, u135, u136, u137, u138, u139, u140, u141, u142, u143, u144, u145, u146, u147, u148, u149, u150, u151, u152, u153, u154, u155, u156, u157, u158, u159, u160, u161, u162, u163, u164, u165, u166, u167, u168, u169, u170, u171, u172, u173, u174, u175, u176, u177, u178, u179, u180, u181, u182, u183, u184, u185, u186, u187, u188, u189, u190, u191, u192, u193, u194, u195, u196, u197, u198, u199, u200, u201, u202, u203, u204, u205, u206, u207, u208, u209, u210, u211, u212, u213, u214, u215, u216, u217, u218, u219, u220, u221, u222, u223, u224, u225, u226, u227, u228, u229, u230, u231, u232, u233, u234, u235, u236, u237, u238, u239, u240, u241, u242, u243, u244, u245, u246, u247, u248, u249, u250, u251, u252, u253, u254, u255, u256, u257, u258, u259, u260, u261, u262, u263, u264, u265, u266, u267, u268, u269, u270, u271, u272, u273, u274, u275, u276, u277, u278, u279, u280, u281, u282, u283, u284, u285, u286, u287, u288, u289, u290, u291, u292, u293, u294, u295, u296, u297, u298, u299, u300, u301, u302, u303, u304, u305, u306, u307, u308, u309, u310, u311, u312, u313, u314, u315, u316, u317, u318, u319, u320, u321, u322, u323, u324, u325, u326, u327, u328, u329, u330, u331, u332, u333, u334, u335, u336, u337, u338], []⟩ W := by
  conv => arg 2; whnf
  have hok := hs.ok (by omega)
  have h1 := tw_lose (tw_lose H0.out)
  have k0 := (tw_k h1).1
  have HP := cpop_any (tw_ch h1) hok
  have HSIM := Hid.mk hs
  have HLM := Hid.mk hlm
  have hql := hs.n2
  simp only at hql
  have HQL : Hid (Q.length ≤ 1000000) := Hid.mk (by omega)
  rcases List.eq_nil_or_concat x.m.ops with hnil | ⟨o0, y, hops⟩
  · have hno := hs.pop_no rfl hnil
    rw [hno] at HP
    have HP := Hid.mk HP
    have HNN' : Hid (N' = (Tw.N ⟨C, (x :: l).map (·.m), Q, many⟩)) := by
      rw [← hN]
      unfold Hid stepN Tw.N
      simp only [List.map_cons]
      rw [if_neg (by omega), if_neg (by omega), if_neg (by omega), if_neg (by omega), if_neg (by omega), if_pos hki]
      have e : x.m.withOps x.m.ops.dropLast = x.m := by
        cases hx : x.m with
        | mk a1 a2 a3 a4 a5 =>
          rw [hx] at hnil
          simp only at hnil
          subst hnil
          rfl
      rw [e]
    have HNIL := Hid.mk hnil
    clear hok hs hno hlm hki hN hv h1 hnil
    go_wp2_with fail
    refine HP.out.mono ?_
    rintro e w6 ⟨h6, rfl⟩
    have h7 := tw_more (ch_tw h6) (.cells #[.int .i64 0, .int .i64 0] 34)
    obtain ⟨-, -, -, -, -, -, k5, -, -⟩ := tw_topAt h7
    obtain ⟨ao, c2, hov, -, -⟩ := tw_ovShape h7
    rw [HNIL.out] at hov
    rw [HLM.out, hov] at k5
    simp only [List.length_nil] at k5
    have H6 := Hid.mk (tw_lose h7)
    clear h6 h7 HP k0 hov
    go_wp2_with fail
    exact hK.out _ _ rfl ⟨_, _, ⟨_, _, _, rfl, H6.out⟩, HSIM.out.mono (by omega), HNN'.out.symm⟩
  · have hops : x.m.ops = o0 ++ [y] := by rw [hops, List.concat_eq_append]
    obtain ⟨e1, Z', hs2⟩ := hs.pop rfl hops
    simp only at e1 hs2
    have hvo := ((hs.vo (m := x.m) (by simp)).2 y (by rw [hops]; simp)).2
    simp only at hvo
    obtain ⟨C2, hC2⟩ : ∃ C2, (popC C).2 = C2 := ⟨_, rfl⟩
    obtain ⟨⟨r1, r2⟩, hr⟩ : ∃ r, here Q y = r := ⟨_, rfl⟩
    rw [e1, hC2, hr] at HP
    rw [hC2] at hs2
    have HP := Hid.mk HP
    have HS2 := Hid.mk hs2
    obtain ⟨kk, hkk⟩ : ∃ kk, o0.length = kk := ⟨_, rfl⟩
    have hm : x.m.ops.length = kk + 1 := by rw [hops, List.length_append, hkk]; rfl
    obtain ⟨-, -, -, -, hol⟩ := hs.md (m := x.m) (by simp)
    rw [hm] at hol
    have HM := Hid.mk hm
    have HNN' : Hid (N' = Tw.N ⟨C2, x.m.withOps o0 :: l.map (·.m), Q, many⟩) := by
      rw [← hN]
      unfold Hid stepN Tw.N
      simp only [List.map_cons]
      rw [if_neg (by omega), if_neg (by omega), if_neg (by omega), if_neg (by omega), if_neg (by omega), if_pos hki, hops, List.dropLast_concat]
    have HTK : Hid (x.m.ops.take kk = o0) := by unfold Hid; rw [hops, ← hkk, List.take_left]
    obtain ⟨y1, y2⟩ := y
    have HY : Hid (∃ hj : kk < x.m.ops.length, x.m.ops[kk] = (y1, y2)) := ⟨by omega, by simp only [hops]; rw [List.getElem_append_right (by omega)]; simp [hkk]⟩
    have HT : Hid (∀ {ml' : List Mv} {lv' pv' : Value} {G' : List Asr} {W'}, Sep w (twL t b lv' pv' ml' Q many ++ G') W' → Calls Try.prog 32 #[.pointer (some ⟨t, 0, none⟩), .agg #[.int .i64 y1, .int .i64 y2]] W' fun e w' => Below W'.heap.size W' w' ∧ e = .returned (.agg #[.int .i64 r1, .int .i64 r2])) := fun {ml' lv' pv' G' W'} q => by
      have := there_any q (y1, y2) hvo HQL.out
      rw [hr] at this
      exact this
    have w1 : IntKind.i64.wrap (((kk + 1 : Nat) : Int) - 1) = (kk : Int) := by rw [IntKind.wrap_i64]; omega
    have w2 : IntKind.i64.wrap ((kk : Int) + 1 - 1) = (kk : Int) := by rw [IntKind.wrap_i64]; omega
    have w3 : IntKind.i64.wrap (kk : Int) = (kk : Int) := by rw [IntKind.wrap_i64]; omega
    have z0 : decide ((kk : Int) + 1 > 0) = true := by simp
    have z1 : decide (0 < (kk : Int) + 1) = true := by simp
    have hk3 : kk < kk + 1 := by omega
    have hk4 : (kk : Int) < (kk : Int) + 1 := by omega
    clear hok hs hs2 hlm hki hN hv h1 hops e1 hvo hC2 hr hkk hm
    go_wp2_with fail
    refine HP.out.mono ?_
    rintro e w6 ⟨h6, rfl⟩
    have h7 := tw_more (ch_tw h6) (.cells #[.int .i64 r1, .int .i64 r2] 34)
    obtain ⟨B17, hB17⟩ : ∃ B, w6.heap.size = B := ⟨_, rfl⟩
    obtain ⟨X7, hX7⟩ : ∃ X, X = w6.alloc (.cells #[.int .i64 r1, .int .i64 r2] 34) := ⟨_, rfl⟩
    rw [hB17, ← hX7] at h7
    obtain ⟨-, -, -, -, -, -, k5, -, -⟩ := tw_topAt h7
    rcases tw_ovCases h7 with ⟨-, q⟩ | ⟨gs, cs, hov, hcs⟩
    · have := HM.out; rw [q] at this; simp at this
    rw [HM.out] at hov hcs
    have hkc : kk ≤ cs := by omega
    have HOV := Hid.mk hov
    rw [HLM.out, hov] at k5
    obtain ⟨hjx, hy⟩ := HY.out
    obtain ⟨o0', o1'⟩ := tw_ovAt h7 hov HM.out hjx
    rw [hy] at o0' o1'
    have H7 := Hid.mk h7
    clear h6 h7 HP k0 hov hjx hy
    go_upto_region 45 with (fail)
    have hX7' : w6.alloc (.cells #[.int .i64 r1, .int .i64 r2] 34) = X7 := hX7.symm
    rw [hX7']
    clear hX7 hX7'
    go_upto_region 48 with (fail)
    have o0 := o0'
    have o1 := o1'
    clear o0' o1'
    refine wp_region_L 13 (fun X => X.cell? ⟨g, lm * 7 + 5, none⟩ = some (.slice (some ⟨gs, 0, none⟩) (kk + 1 : Nat) cs) ∧ X.cell? ⟨gs, kk * 2, none⟩ = some (.int .i64 y1) ∧ X.cell? ⟨gs, kk * 2 + 1, none⟩ = some (.int .i64 y2)) (by kernel_rfl) ⟨k5, o0, o1⟩ (fun hHeld => ?_)
    refine wpAnyL_take (i := 0) (v := ?_) rfl (by kernel_rfl) (by kernel_rfl) (by kernel_rfl) (by kernel_rfl) (fun _ _ _ h => h) (Or.inl ⟨by rfl, ?_⟩) (by assumption) ?_
    rotate_left
    · (intro w hSw; (try dsimp only at hSw); go_simp <;> with_reducible rfl)
    (try simp only [Act.put, List.getElem_toArray, List.getElem_cons_zero, List.getElem_cons_succ, List.setIfInBounds_toArray, List.set_cons_zero, List.set_cons_succ])
    refine wpAnyL_take (i := 1) (v := ?_) rfl (by kernel_rfl) (by kernel_rfl) (by kernel_rfl) (by kernel_rfl) (fun _ _ _ h => h) (Or.inl ⟨by rfl, ?_⟩) (by assumption) ?_
    rotate_left
    · (intro w hSw; (try dsimp only at hSw); go_simp <;> with_reducible rfl)
    (try simp only [Act.put, List.getElem_toArray, List.getElem_cons_zero, List.getElem_cons_succ, List.setIfInBounds_toArray, List.set_cons_zero, List.set_cons_succ])
    refine wpAnyL_take (i := 2) (v := ?_) rfl (by kernel_rfl) (by kernel_rfl) (by kernel_rfl) (by kernel_rfl) (fun _ _ _ h => h) (Or.inl ⟨by rfl, ?_⟩) (by assumption) ?_
    rotate_left
    · (intro w hSw; (try dsimp only at hSw); go_simp <;> with_reducible rfl)
    (try simp only [Act.put, List.getElem_toArray, List.getElem_cons_zero, List.getElem_cons_succ, List.setIfInBounds_toArray, List.set_cons_zero, List.set_cons_succ])
    refine wpAnyL_take (i := 3) (v := ?_) rfl (by kernel_rfl) (by kernel_rfl) (by kernel_rfl) (by kernel_rfl) (fun _ _ _ h => h) (Or.inl ⟨by rfl, ?_⟩) (by assumption) ?_
    rotate_left
    · (intro w hSw; (try dsimp only at hSw); go_simp <;> with_reducible rfl)
    (try simp only [Act.put, List.getElem_toArray, List.getElem_cons_zero, List.getElem_cons_succ, List.setIfInBounds_toArray, List.set_cons_zero, List.set_cons_succ])
    refine wpAnyL_take (i := 4) (v := ?_) rfl (by kernel_rfl) (by kernel_rfl) (by kernel_rfl) (by kernel_rfl) (fun _ _ _ h => h) (Or.inl ⟨by rfl, ?_⟩) (by assumption) ?_
    rotate_left
    · (intro w hSw; (try dsimp only at hSw); go_simp <;> with_reducible rfl)
    (try simp only [Act.put, List.getElem_toArray, List.getElem_cons_zero, List.getElem_cons_succ, List.setIfInBounds_toArray, List.set_cons_zero, List.set_cons_succ])
    refine wpAnyL_take (i := 5) (v := ?_) rfl (by kernel_rfl) (by kernel_rfl) (by kernel_rfl) (by kernel_rfl) (fun _ _ _ h => h) (Or.inl ⟨by rfl, ?_⟩) (by assumption) ?_
    rotate_left
    · (intro w hSw; (try dsimp only at hSw); go_simp <;> with_reducible rfl)
    (try simp only [Act.put, List.getElem_toArray, List.getElem_cons_zero, List.getElem_cons_succ, List.setIfInBounds_toArray, List.set_cons_zero, List.set_cons_succ])
    refine wpAnyL_take (i := 6) (v := ?_) rfl (by kernel_rfl) (by kernel_rfl) (by kernel_rfl) (by kernel_rfl) (fun _ _ _ h => h) (Or.inl ⟨by rfl, ?_⟩) (by assumption) ?_
    rotate_left
    · (intro w hSw; (try dsimp only at hSw); go_simp <;> with_reducible rfl)
    (try simp only [Act.put, List.getElem_toArray, List.getElem_cons_zero, List.getElem_cons_succ, List.setIfInBounds_toArray, List.set_cons_zero, List.set_cons_succ])
    refine wpAnyL_take (i := 7) (v := ?_) rfl (by kernel_rfl) (by kernel_rfl) (by kernel_rfl) (by kernel_rfl) (fun _ _ _ h => h) (Or.inl ⟨by rfl, ?_⟩) (by assumption) ?_
    rotate_left
    · (intro w hSw; (try dsimp only at hSw); go_simp <;> with_reducible rfl)
    (try simp only [Act.put, List.getElem_toArray, List.getElem_cons_zero, List.getElem_cons_succ, List.setIfInBounds_toArray, List.set_cons_zero, List.set_cons_succ])
    refine wpAnyL_take (i := 8) (v := ?_) rfl (by kernel_rfl) (by kernel_rfl) (by kernel_rfl) (by kernel_rfl) (fun _ _ _ h => h) (Or.inl ⟨by rfl, ?_⟩) (by assumption) ?_
    rotate_left
    · (intro w hSw; (try dsimp only at hSw); go_simp <;> with_reducible rfl)
    (try simp only [Act.put, List.getElem_toArray, List.getElem_cons_zero, List.getElem_cons_succ, List.setIfInBounds_toArray, List.set_cons_zero, List.set_cons_succ])
    refine wpAnyL_take (i := 9) (v := ?_) rfl (by kernel_rfl) (by kernel_rfl) (by kernel_rfl) (by kernel_rfl) (fun _ _ _ h => h) (Or.inl ⟨by rfl, ?_⟩) (by assumption) ?_
    rotate_left
    · (intro w hSw; (try dsimp only at hSw); go_simp <;> with_reducible rfl)
    (try simp only [Act.put, List.getElem_toArray, List.getElem_cons_zero, List.getElem_cons_succ, List.setIfInBounds_toArray, List.set_cons_zero, List.set_cons_succ])
    refine wpAnyL_take (i := 10) (v := ?_) rfl (by kernel_rfl) (by kernel_rfl) (by kernel_rfl) (by kernel_rfl) (fun _ _ _ h => h) (Or.inl ⟨by rfl, ?_⟩) (by assumption) ?_
    rotate_left
    · (intro w hSw; (try dsimp only at hSw); go_simp <;> with_reducible rfl)
    (try simp only [Act.put, List.getElem_toArray, List.getElem_cons_zero, List.getElem_cons_succ, List.setIfInBounds_toArray, List.set_cons_zero, List.set_cons_succ])
    refine wpAnyL_take (i := 11) (v := ?_) rfl (by kernel_rfl) (by kernel_rfl) (by kernel_rfl) (by kernel_rfl) (fun _ _ _ h => h) (Or.inl ⟨by rfl, ?_⟩) (by assumption) ?_
    rotate_left
    · (intro w hSw; (try dsimp only at hSw); go_simp <;> with_reducible rfl)
    (try simp only [Act.put, List.getElem_toArray, List.getElem_cons_zero, List.getElem_cons_succ, List.setIfInBounds_toArray, List.set_cons_zero, List.set_cons_succ])
    refine wpAnyL_only (i := 12) (by kernel_rfl) rfl (fun K hK => ?_)
    go_simp
    refine hK _ _ (fun _ => ⟨alloc_cell hHeld.1, alloc_cell hHeld.2.1, alloc_cell hHeld.2.2⟩) (fun hHeld0 => ?_)
    have hHeld := hHeld0 rfl
    clear hK K hHeld0
    (try simp only [Act.put, List.getElem_toArray, List.getElem_cons_zero, List.getElem_cons_succ, List.setIfInBounds_toArray, List.set_cons_zero, List.set_cons_succ])
    refine wpAnyL_only (i := 13) (by kernel_rfl) rfl (fun K hK => ?_)
    go_simp
    refine hK _ _ (fun q => by cases q) (fun hHeld0 => ?_)
    clear hK K hHeld0
    refine wpAnyL_done (by kernel_rfl) ?_
    have h8 := (tw_more H7.out (.cells #[.int .i64 y1, .int .i64 y2] 34)).drew
    obtain ⟨B19, hB19⟩ : ∃ B, X7.heap.size = B := ⟨_, rfl⟩
    obtain ⟨X8, hX8⟩ : ∃ X, X = (X7.alloc (.cells #[.int .i64 y1, .int .i64 y2] 34)).drew := ⟨_, rfl⟩
    rw [← hX8, hB19] at h8
    rw [← hX8, hB19]
    obtain ⟨-, -, -, -, -, -, k5', -, kz⟩ := tw_topAt h8
    rw [HLM.out, HOV.out] at k5'
    have kz5 := kz (lm * 7 + 5)
    have H8 := Hid.mk h8
    clear hX8 hB19 H7 hHeld k5 o0 o1 h8 kz
    go_upto_region 49 with (fail)
    refine wp_region_L 14 (fun X => X.cell? ⟨g, lm * 7 + 5, none⟩ = some (.slice (some ⟨gs, 0, none⟩) (kk + 1 : Nat) cs)) (by kernel_rfl) k5' (fun hHeld => ?_)
    refine wpAnyL_take (i := 0) (v := ?_) rfl (by kernel_rfl) (by kernel_rfl) (by kernel_rfl) (by kernel_rfl) (fun _ _ _ h => h) (Or.inl ⟨by rfl, ?_⟩) (by assumption) ?_
    rotate_left
    · (intro w hSw; (try dsimp only at hSw); go_simp <;> with_reducible rfl)
    (try simp only [Act.put, List.getElem_toArray, List.getElem_cons_zero, List.getElem_cons_succ, List.setIfInBounds_toArray, List.set_cons_zero, List.set_cons_succ])
    refine wpAnyL_take (i := 1) (v := ?_) rfl (by kernel_rfl) (by kernel_rfl) (by kernel_rfl) (by kernel_rfl) (fun _ _ _ h => h) (Or.inl ⟨by rfl, ?_⟩) (by assumption) ?_
    rotate_left
    · (intro w hSw; (try dsimp only at hSw); go_simp <;> with_reducible rfl)
    (try simp only [Act.put, List.getElem_toArray, List.getElem_cons_zero, List.getElem_cons_succ, List.setIfInBounds_toArray, List.set_cons_zero, List.set_cons_succ])
    refine wpAnyL_take (i := 2) (v := ?_) rfl (by kernel_rfl) (by kernel_rfl) (by kernel_rfl) (by kernel_rfl) (fun _ _ _ h => h) (Or.inl ⟨by rfl, ?_⟩) (by assumption) ?_
    rotate_left
    · (intro w hSw; (try dsimp only at hSw); go_simp <;> with_reducible rfl)
    (try simp only [Act.put, List.getElem_toArray, List.getElem_cons_zero, List.getElem_cons_succ, List.setIfInBounds_toArray, List.set_cons_zero, List.set_cons_succ])
    refine wpAnyL_take (i := 3) (v := ?_) rfl (by kernel_rfl) (by kernel_rfl) (by kernel_rfl) (by kernel_rfl) (fun _ _ _ h => h) (Or.inl ⟨by rfl, ?_⟩) (by assumption) ?_
    rotate_left
    · (intro w hSw; (try dsimp only at hSw); go_simp <;> with_reducible rfl)
    (try simp only [Act.put, List.getElem_toArray, List.getElem_cons_zero, List.getElem_cons_succ, List.setIfInBounds_toArray, List.set_cons_zero, List.set_cons_succ])
    refine wpAnyL_take (i := 4) (v := ?_) rfl (by kernel_rfl) (by kernel_rfl) (by kernel_rfl) (by kernel_rfl) (fun _ _ _ h => h) (Or.inl ⟨by rfl, ?_⟩) (by assumption) ?_
    rotate_left
    · (intro w hSw; (try dsimp only at hSw); go_simp <;> with_reducible rfl)
    (try simp only [Act.put, List.getElem_toArray, List.getElem_cons_zero, List.getElem_cons_succ, List.setIfInBounds_toArray, List.set_cons_zero, List.set_cons_succ])
    refine wpAnyL_take (i := 5) (v := ?_) rfl (by kernel_rfl) (by kernel_rfl) (by kernel_rfl) (by kernel_rfl) (fun _ _ _ h => h) (Or.inl ⟨by rfl, ?_⟩) (by assumption) ?_
    rotate_left
    · (intro w hSw; (try dsimp only at hSw); go_simp <;> with_reducible rfl)
    (try simp only [Act.put, List.getElem_toArray, List.getElem_cons_zero, List.getElem_cons_succ, List.setIfInBounds_toArray, List.set_cons_zero, List.set_cons_succ])
    refine wpAnyL_take (i := 6) (v := ?_) rfl (by kernel_rfl) (by kernel_rfl) (by kernel_rfl) (by kernel_rfl) (fun _ _ _ h => h) (Or.inl ⟨by rfl, ?_⟩) (by assumption) ?_
    rotate_left
    · (intro w hSw; (try dsimp only at hSw); go_simp <;> with_reducible rfl)
    (try simp only [Act.put, List.getElem_toArray, List.getElem_cons_zero, List.getElem_cons_succ, List.setIfInBounds_toArray, List.set_cons_zero, List.set_cons_succ])
    refine wpAnyL_take (i := 7) (v := ?_) rfl (by kernel_rfl) (by kernel_rfl) (by kernel_rfl) (by kernel_rfl) (fun _ _ _ h => h) (Or.inl ⟨by rfl, ?_⟩) (by assumption) ?_
    rotate_left
    · (intro w hSw; (try dsimp only at hSw); go_simp <;> with_reducible rfl)
    (try simp only [Act.put, List.getElem_toArray, List.getElem_cons_zero, List.getElem_cons_succ, List.setIfInBounds_toArray, List.set_cons_zero, List.set_cons_succ])
    refine wpAnyL_take (i := 8) (v := ?_) rfl (by kernel_rfl) (by kernel_rfl) (by kernel_rfl) (by kernel_rfl) (fun _ _ _ h => h) (Or.inl ⟨by rfl, ?_⟩) (by assumption) ?_
    rotate_left
    · (intro w hSw; (try dsimp only at hSw); go_simp <;> with_reducible rfl)
    (try simp only [Act.put, List.getElem_toArray, List.getElem_cons_zero, List.getElem_cons_succ, List.setIfInBounds_toArray, List.set_cons_zero, List.set_cons_succ])
    refine wpAnyL_take (i := 9) (v := ?_) rfl (by kernel_rfl) (by kernel_rfl) (by kernel_rfl) (by kernel_rfl) (fun _ _ _ h => h) (Or.inl ⟨by rfl, ?_⟩) (by assumption) ?_
    rotate_left
    · (intro w hSw; (try dsimp only at hSw); go_simp <;> with_reducible rfl)
    (try simp only [Act.put, List.getElem_toArray, List.getElem_cons_zero, List.getElem_cons_succ, List.setIfInBounds_toArray, List.set_cons_zero, List.set_cons_succ])
    refine wpAnyL_take (i := 10) (v := ?_) rfl (by kernel_rfl) (by kernel_rfl) (by kernel_rfl) (by kernel_rfl) (fun _ _ _ h => h) (Or.inl ⟨by rfl, ?_⟩) (by assumption) ?_
    rotate_left
    · (intro w hSw; (try dsimp only at hSw); go_simp <;> with_reducible rfl)
    (try simp only [Act.put, List.getElem_toArray, List.getElem_cons_zero, List.getElem_cons_succ, List.setIfInBounds_toArray, List.set_cons_zero, List.set_cons_succ])
    refine wpAnyL_take (i := 11) (v := ?_) rfl (by kernel_rfl) (by kernel_rfl) (by kernel_rfl) (by kernel_rfl) (fun _ _ _ h => h) (Or.inl ⟨by rfl, ?_⟩) (by assumption) ?_
    rotate_left
    · (intro w hSw; (try dsimp only at hSw); go_simp <;> with_reducible rfl)
    (try simp only [Act.put, List.getElem_toArray, List.getElem_cons_zero, List.getElem_cons_succ, List.setIfInBounds_toArray, List.set_cons_zero, List.set_cons_succ])
    refine wpAnyL_only (i := 12) (by kernel_rfl) rfl (fun K hK => ?_)
    go_simp
    refine hK _ _ (fun _ => hHeld) (fun hHeld0 => ?_)
    have hHeld := hHeld0 rfl
    clear hK K hHeld0
    (try simp only [Act.put, List.getElem_toArray, List.getElem_cons_zero, List.getElem_cons_succ, List.setIfInBounds_toArray, List.set_cons_zero, List.set_cons_succ])
    refine wpAnyL_only (i := 13) (by kernel_rfl) rfl (fun K hK => ?_)
    go_simp
    refine hK _ _ (fun _ => hHeld) (fun hHeld0 => ?_)
    have hHeld := hHeld0 rfl
    clear hK K hHeld0
    (try simp only [Act.put, List.getElem_toArray, List.getElem_cons_zero, List.getElem_cons_succ, List.setIfInBounds_toArray, List.set_cons_zero, List.set_cons_succ])
    refine wpAnyL_only (i := 14) (by kernel_rfl) rfl (fun K hK => ?_)
    go_simp
    refine hK _ _ (fun q => by cases q) (fun hHeld0 => ?_)
    clear hK K hHeld0
    refine wpAnyL_done (by kernel_rfl) ?_
    have h9 := Sep.drew (tw_opsCut (n2 := kk) H8.out (by rw [HOV.out, HM.out]) (by rw [HM.out]; omega))
    rw [HLM.out] at h9
    obtain ⟨X9, hX9⟩ : ∃ X, X = (X8.setCell ⟨g, lm * 7 + 5, none⟩ (.slice (some ⟨gs, 0, none⟩) kk cs)).drew := ⟨_, rfl⟩
    rw [← hX9] at h9 ⊢
    have h9' : Sep w (twL t b (.slice (some ⟨g, 0, none⟩) (l.length + 1 : Nat) c) pv ({ x with ov := .slice (some ⟨gs, 0, none⟩) kk cs, m := x.m.withOps (x.m.ops.take kk) } :: l) Q many ++ chP b p k sz ca C2 (bx B19 (.cells #[.int .i64 y1, .int .i64 y2] 34) :: bx B17 (.cells #[.int .i64 r1, .int .i64 r2] 34) :: F)) X9 := by rw [HLM.out]; exact h9
    obtain ⟨a0, a1, -⟩ := two_cells h9' (q := B19) (tw_mem (List.Mem.head _))
    obtain ⟨a2, a3, -⟩ := two_cells h9' (q := B17) (tw_mem (List.Mem.tail _ (List.Mem.head _)))
    have H9 := Hid.mk h9'
    clear hX9 h9 h9' H8 hHeld k5' kz5
    go_upto_region 50 with (fail)
    go_region_held3 (fun X => X.cell? ⟨B17, 0, none⟩ = some (.int .i64 r1) ∧ X.cell? ⟨B17, 1, none⟩ = some (.int .i64 r2) ∧ X.cell? ⟨B19, 0, none⟩ = some (.int .i64 y1) ∧ X.cell? ⟨B19, 1, none⟩ = some (.int .i64 y2)) (first | exact s9 | exact ⟨a2, a3, a0, a1⟩) (first | (go_at_call 32; refine (HT.out H9.out.drew).mono ?_; rintro e wb ⟨hbb, rfl⟩; have s9 := And.intro (keep_dr hbb a2) (And.intro (keep_dr hbb a3) (And.intro (keep_dr hbb a0) (keep_dr hbb a1)))))
    have hb := tw_lose (tw_lose (Sep.keep H9.out.drew hbb))
    have HB := Hid.mk hb
    clear hb hbb H9 HT s9 a0 a1 a2 a3
    go_wp2_with fail
    go_ret
    exact ⟨⟨_, _, ⟨_, _, _, (by simp only [List.map_cons]; rw [HTK.out]), HB.out⟩, HS2.out.mono (by omega), HNN'.out.symm⟩, rfl⟩
end
end Go.Proofs.Ytpfnnmcokbolhaa
/- The twin's do: the switch. -/
namespace Go.Proofs.Ytpfnnmcokbolhaa
open Go.RowKit
set_option pp.deepTerms true
theorem TwR.mono {w W : World} {t b p k : Nat} {sz ca : Int} {n m : Nat} {N : Nt} {F : List Asr} (h : TwR w W t b p k sz ca n N F) (hm : n ≤ m) : TwR w W t b p k sz ca m N F := by
  obtain ⟨T, Z, h1, h2, h3⟩ := h
  exact ⟨T, Z, h1, h2.mono hm, h3⟩
theorem TwR.lose {w W : World} {t b p k : Nat} {sz ca : Int} {n : Nat} {N : Nt} {F : List Asr} {A : Asr} (h : TwR w W t b p k sz ca n N (A :: F)) : TwR w W t b p k sz ca n N F := by
  obtain ⟨T, Z, ⟨lv, pv, ml, h0, h1⟩, h2, h3⟩ := h
  exact ⟨T, Z, ⟨lv, pv, ml, h0, tw_lose h1⟩, h2, h3⟩
theorem Rdi.cut {w : World} {ao : Option Addr} {n c k : Nat} {xs : List Int} (h : Rdi w (.slice ao n c) xs) (hk : k ≤ xs.length) : Rdi w (.slice ao k c) (xs.take k) := Rdi.take h hk
section
variable {w W : World} {F G : List Asr} {t b p k g c : Nat} {sz ca many : Int} {C : Ch} {lv pv : Value} {ml l : List Mv} {x : Mv} {Q : List (Int × Pf)} {A : Asr} {T : Tw} {Z : List (Md × Af)} {n : Nat} {o : Op25} {sv av : Value} {last : Bool} {B0 : Nat}
set_option maxRecDepth 100000 in
set_option maxHeartbeats 4000000 in
theorem tdo_sw0 {n' : Nat} {N' : Nt} {K : Act → World → Prop} {lm B10 : Nat} {v1 v2 kv : Int} {u2 u6 u7 u8 u11 u12 u13 u14 u15 u16 u17 u18 u19 u20 u21 u22 u23 u24 u25 u26 u27 u28 u29 u30 u31 u32 u33 u34 u35 u36 u37 u38 u39 u40 u41 u42 u43 u44 u45 u46 u47 u48 u49 u50 u51 u52 u53 u54 u55 u56 u57 u58 u59 u60 u61 u62 u63 u64 u65 u66 u67 u68 u69 u70 u71 u72 u73 u74 u75 u76 u77 u78 u80 u81 u82 u83 u84 u85 u86 u87 u88 u89 u90 u91 u92 u93 u94 u95 u96 u97 u98 u99 u100 u101 u102 u103 u104 u105 u106 u107 u108 u109 u110 u111 u112 u113 u114 u115 u116 u117 u118 u119 u120 u121 u122 u123 u124 u125 u126 u127 u128 u129 u130 u131 u132 u133 u134 u135 u136 u137 u138 u139 u140 u141 u142 u143 u144 u145 u146 u147 u148 u149 u150 u151 u152 u153 u154 u155 u156 u157 u158 u159 u160 u161 u162 u163 u164 u165 u166 u167 u168 u169 u170 u171 u172 u173 u174 u175 u176 u177 u178 u179 u180 u181 u182 u183 u184 u185 u186 u187 u188 u189 u190 u191 u192 u193 u194 u195 u196 u197 u198 u199 u200 u201 u202 u203 u204 u205 u206 u207 u208 u209 u210 u211 u212 u213 u214 u215 u216 u217 u218 u219 u220 u221 u222 u223 u224 u225 u226 u227 u228 u229 u230 u231 u232 u233 u234 u235 u236 u237 u238 u239 u240 u241 u242 u243 u244 u245 u246 u247 u248 u249 u250 u251 u252 u253 u254 u255 u256 u257 u258 u259 u260 u261 u262 u263 u264 u265 u266 u267 u268 u269 u270 u271 u272 u273 u274 u275 u276 u277 u278 u279 u280 u281 u282 u283 u284 u285 u286 u287 u288 u289 u290 u291 u292 u293 u294 u295 u296 u297 u298 u299 u300 u301 u302 u303 u304 u305 u306 u307 u308 u309 u310 u311 u312 u313 u314 u315 u316 u317 u318 u319 u320 u321 u322 u323 u324 u325 u326 u327 u328 u329 u330 u331 u332 u333 u334 u335 u336 u337 u338 : Value} (H0 : Hid (Sep w (twL t b (.slice (some ⟨g, 0, none⟩) (l.length + 1 : Nat) c) pv (x :: l) Q many ++ chP b p k sz ca C (bx B10 (.cells #[.int .i64 v1, .int .i64 v2] 34) :: bx B0 (.cells #[.int .i64 o.kind, .int .i64 o.n, sv, .int .i64 o.l.args, .int .i64 o.l.res, .int .i64 o.l.height, av, .int .i64 o.v.1, .int .i64 o.v.2, .bool last] 36) :: F)) W)) (hs : Sim sz ca n ⟨C, (x :: l).map (·.m), Q, many⟩ Z) (hn : n ≤ 280) (hn' : n + 1 ≤ n') (hlm : l.length = lm) (hv : o.val = (v1, v2)) (hN : stepN (Tw.N ⟨C, (x :: l).map (·.m), Q, many⟩) o = N') (hK : Hid (∀ (tm : Array Value) (W' : World), tm.size = 339 → TwR w W' t b p k sz ca n' N' F → K ⟨tm, []⟩ W')) (hsl : ∀ W', Sep w F W' → Rdi W' sv o.l.slots) (hcap : SlOk sv) (hlen : o.l.slots.length ≤ 100) (hkv : kv = 0) (hki : o.kind = kv) :
    Code.wp Try.prog (pieceOf (Try.f8.body.getD .skip) [1, 1, 1, 1, 1, 1, 0, 1]) (Exit.then K (bodyPost Try.prog Try.f8 (fun e w' => TwR w w' t b p k sz ca n' N' F ∧ e = .returned (.bool true)))) ⟨#[.pointer (some ⟨t, 0, none⟩), (.agg #[.int .i64 o.kind, .int .i64 o.n, sv, .int .i64 o.l.args, .int .i64 o.l.res, .int .i64 o.l.height, av, .int .i64 o.v.1, .int .i64 o.v.2, .bool last]), u2, .pointer (some ⟨B0, 0, none⟩), .bool false, .int .i64 ((lm : Int) + 1), u6, u7, u8, .pointer (some ⟨g, lm * 7, none⟩), .pointer (some ⟨B10, 0, none⟩), u11, u12, u13, u14, u15, u16, u17, u18, u19, u20, u21, u22, u23, u24, u25, u26, u27, u28, u29, u30, u31, u32, u33, u34, u35, u36, u37, u38, u39, u40, u41, u42, u43, u44, u45, u46, u47, u48, u49, u50, u51, u52, u53, u54, u55, u56, u57, u58, u59, u60, u61, u62, u63, u64, u65, u66, u67, u68, u69, u70, u71, u72, u73, u74, u75, u76, u77, u78, .int .i64 kv, u80, u81, u82, u83, u84, u85, u86, u87, u88, u89, u90, u91, u92, u93, u94, u95, u96, u97, u98, u99, u100, u101, u102, u103, u104, u105, u106, u107, u108, u109, u110, u111, u112, u113, u114, u115, u116, u117, u118, u119, u120, u121, u122, u123, u124, u125, u126, u127, u128, u129, u130, u131, u132, u133, u134, u135, u136, u137, u138, u139, u140, u141, u142, u143, u144, u145, u146, u147, u148, u149, u150, u151, u152, u153, u154, u155, u156, u157, u158, u159, u160, u161, u162, u163, u164, u165, u166, u167, u168, u169, u170, u171, u172, u173, u174, u175, u176, u177, u178, u179, u180, u181, u182, u183, u184, u185, u186, u187, u188, u189, u190, u191, u192, u193, u194, u195, u196, u197, u198, u199, u200, u201, u202, u203, u204, u205, u206, u207, u208, u209, u210, u211, u212, u213, u214, u215, u216, u217, u218, u219, u220, u221, u222, u223, u224, u225, u226, u227, u228, u229, u230, u231, u232, u233, u234, u235, u236, u237, u238, u239, u240, u241, u242, u243, u244, u245, u246, u247, u248, u249, u250, u251, u252, u253, u254, u255, u256, u257, u258, u259, u260, u261, u262, u263, u264, u265, u266, u267, u268, u269, u270, u271, u272, u273, u274, u275, u276, u277, u278, u279, u280, u281, u282, u283, u284, u285, u286, u287, u288, u289, u290, u291, u292, u293, u294, u295, u296, u297, u298, u299, u300, u301, u302, u303, u304, u305, u306, u307, u308, u309, u310, u311, u312, u313, u314, u315, u316, u317, u318, u319, u320, u321, u322, u323, u324, u325, u326, u327, u328, u329, u330, u331, u332, u333, u334, u335, u336, u337, u338], []⟩ W := by
  conv => arg 2; whnf
  subst hkv
  have hK' := hK
  have HKI := Hid.mk hki
  clear hki
  go_upto_if 80 with (fail)
  refine wp_cond_true rfl ?_
  exact tdo_call H0 hs hn hn' hlm hv hN hK' HKI.out hsl hcap hlen
set_option maxRecDepth 100000 in
set_option maxHeartbeats 4000000 in
theorem tdo_sw2 {n' : Nat} {N' : Nt} {K : Act → World → Prop} {lm B10 : Nat} {v1 v2 kv : Int} {u2 u6 u7 u8 u11 u12 u13 u14 u15 u16 u17 u18 u19 u20 u21 u22 u23 u24 u25 u26 u27 u28 u29 u30 u31 u32 u33 u34 u35 u36 u37 u38 u39 u40 u41 u42 u43 u44 u45 u46 u47 u48 u49 u50 u51 u52 u53 u54 u55 u56 u57 u58 u59 u60 u61 u62 u63 u64 u65 u66 u67 u68 u69 u70 u71 u72 u73 u74 u75 u76 u77 u78 u80 u81 u82 u83 u84 u85 u86 u87 u88 u89 u90 u91 u92 u93 u94 u95 u96 u97 u98 u99 u100 u101 u102 u103 u104 u105 u106 u107 u108 u109 u110 u111 u112 u113 u114 u115 u116 u117 u118 u119 u120 u121 u122 u123 u124 u125 u126 u127 u128 u129 u130 u131 u132 u133 u134 u135 u136 u137 u138 u139 u140 u141 u142 u143 u144 u145 u146 u147 u148 u149 u150 u151 u152 u153 u154 u155 u156 u157 u158 u159 u160 u161 u162 u163 u164 u165 u166 u167 u168 u169 u170 u171 u172 u173 u174 u175 u176 u177 u178 u179 u180 u181 u182 u183 u184 u185 u186 u187 u188 u189 u190 u191 u192 u193 u194 u195 u196 u197 u198 u199 u200 u201 u202 u203 u204 u205 u206 u207 u208 u209 u210 u211 u212 u213 u214 u215 u216 u217 u218 u219 u220 u221 u222 u223 u224 u225 u226 u227 u228 u229 u230 u231 u232 u233 u234 u235 u236 u237 u238 u239 u240 u241 u242 u243 u244 u245 u246 u247 u248 u249 u250 u251 u252 u253 u254 u255 u256 u257 u258 u259 u260 u261 u262 u263 u264 u265 u266 u267 u268 u269 u270 u271 u272 u273 u274 u275 u276 u277 u278 u279 u280 u281 u282 u283 u284 u285 u286 u287 u288 u289 u290 u291 u292 u293 u294 u295 u296 u297 u298 u299 u300 u301 u302 u303 u304 u305 u306 u307 u308 u309 u310 u311 u312 u313 u314 u315 u316 u317 u318 u319 u320 u321 u322 u323 u324 u325 u326 u327 u328 u329 u330 u331 u332 u333 u334 u335 u336 u337 u338 : Value} (H0 : Hid (Sep w (twL t b (.slice (some ⟨g, 0, none⟩) (l.length + 1 : Nat) c) pv (x :: l) Q many ++ chP b p k sz ca C (bx B10 (.cells #[.int .i64 v1, .int .i64 v2] 34) :: bx B0 (.cells #[.int .i64 o.kind, .int .i64 o.n, sv, .int .i64 o.l.args, .int .i64 o.l.res, .int .i64 o.l.height, av, .int .i64 o.v.1, .int .i64 o.v.2, .bool last] 36) :: F)) W)) (hs : Sim sz ca n ⟨C, (x :: l).map (·.m), Q, many⟩ Z) (hn : n ≤ 280) (hn' : n + 1 ≤ n') (hlm : l.length = lm) (hv : o.val = (v1, v2)) (hN : stepN (Tw.N ⟨C, (x :: l).map (·.m), Q, many⟩) o = N') (hK : Hid (∀ (tm : Array Value) (W' : World), tm.size = 339 → TwR w W' t b p k sz ca n' N' F → K ⟨tm, []⟩ W')) (hsl : ∀ W', Sep w F W' → Rdi W' sv o.l.slots) (hcap : SlOk sv) (hlen : o.l.slots.length ≤ 100) (hkv : kv = 2) (hki : o.kind = kv) :
    Code.wp Try.prog (pieceOf (Try.f8.body.getD .skip) [1, 1, 1, 1, 1, 1, 0, 1]) (Exit.then K (bodyPost Try.prog Try.f8 (fun e w' => TwR w w' t b p k sz ca n' N' F ∧ e = .returned (.bool true)))) ⟨#[.pointer (some ⟨t, 0, none⟩), (.agg #[.int .i64 o.kind, .int .i64 o.n, sv, .int .i64 o.l.args, .int .i64 o.l.res, .int .i64 o.l.height, av, .int .i64 o.v.1, .int .i64 o.v.2, .bool last]), u2, .pointer (some ⟨B0, 0, none⟩), .bool false, .int .i64 ((lm : Int) + 1), u6, u7, u8, .pointer (some ⟨g, lm * 7, none⟩), .pointer (some ⟨B10, 0, none⟩), u11, u12, u13, u14, u15, u16, u17, u18, u19, u20, u21, u22, u23, u24, u25, u26, u27, u28, u29, u30, u31, u32, u33, u34, u35, u36, u37, u38, u39, u40, u41, u42, u43, u44, u45, u46, u47, u48, u49, u50, u51, u52, u53, u54, u55, u56, u57, u58, u59, u60, u61, u62, u63, u64, u65, u66, u67, u68, u69, u70, u71, u72, u73, u74, u75, u76, u77, u78, .int .i64 kv, u80, u81, u82, u83, u84, u85, u86, u87, u88, u89, u90, u91, u92, u93, u94, u95, u96, u97, u98, u99, u100, u101, u102, u103, u104, u105, u106, u107, u108, u109, u110, u111, u112, u113, u114, u115, u116, u117, u118, u119, u120, u121, u122, u123, u124, u125, u126, u127, u128, u129, u130, u131, u132, u133, u134, u135, u136, u137, u138, u139, u140, u141, u142, u143, u144, u145, u146, u147, u148, u149, u150, u151, u152, u153, u154, u155, u156, u157, u158, u159, u160, u161, u162, u163, u164, u165, u166, u167, u168, u169, u170, u171, u172, u173, u174, u175, u176, u177, u178, u179, u180, u181, u182, u183, u184, u185, u186, u187, u188, u189, u190, u191, u192, u193, u194, u195, u196, u197, u198, u199, u200, u201, u202, u203, u204, u205, u206, u207, u208, u209, u210, u211, u212, u213, u214, u215, u216, u217, u218, u219, u220, u221, u222, u223, u224, u225, u226, u227, u228, u229, u230, u231, u232, u233, u234, u235, u236, u237, u238, u239, u240, u241, u242, u243, u244, u245, u246, u247, u248, u249, u250, u251, u252, u253, u254, u255, u256, u257, u258, u259, u260, u261, u262, u263, u264, u265, u266, u267, u268, u269, u270, u271, u272, u273, u274, u275, u276, u277, u278, u279, u280, u281, u282, u283, u284, u285, u286, u287, u288, u289, u290, u291, u292, u293, u294, u295, u296, u297, u298, u299, u300, u301, u302, u303, u304, u305, u306, u307, u308, u309, u310, u311, u312, u313, u314, u315, u316, u317, u318, u319, u320, u321, u322, u323, u324, u325, u326, u327, u328, u329, u330, u331, u332, u333, u334, u335, u336, u337, u338], []⟩ W := by
  conv => arg 2; whnf
  subst hkv
  have hK' := hK
  have HKI := Hid.mk hki
  clear hki
  go_upto_if 161 with (fail)
  refine wp_cond_true rfl ?_
  exact tdo_ret H0 hs hn hn' hlm hv hN hK' HKI.out
set_option maxRecDepth 100000 in
set_option maxHeartbeats 4000000 in
theorem tdo_sw3 {n' : Nat} {N' : Nt} {K : Act → World → Prop} {lm B10 : Nat} {v1 v2 kv : Int} {u2 u6 u7 u8 u11 u12 u13 u14 u15 u16 u17 u18 u19 u20 u21 u22 u23 u24 u25 u26 u27 u28 u29 u30 u31 u32 u33 u34 u35 u36 u37 u38 u39 u40 u41 u42 u43 u44 u45 u46 u47 u48 u49 u50 u51 u52 u53 u54 u55 u56 u57 u58 u59 u60 u61 u62 u63 u64 u65 u66 u67 u68 u69 u70 u71 u72 u73 u74 u75 u76 u77 u78 u80 u81 u82 u83 u84 u85 u86 u87 u88 u89 u90 u91 u92 u93 u94 u95 u96 u97 u98 u99 u100 u101 u102 u103 u104 u105 u106 u107 u108 u109 u110 u111 u112 u113 u114 u115 u116 u117 u118 u119 u120 u121 u122 u123 u124 u125 u126 u127 u128 u129 u130 u131 u132 u133 u134 u135 u136 u137 u138 u139 u140 u141 u142 u143 u144 u145 u146 u147 u148 u149 u150 u151 u152 u153 u154 u155 u156 u157 u158 u159 u160 u161 u162 u163 u164 u165 u166 u167 u168 u169 u170 u171 u172 u173 u174 u175 u176 u177 u178 u179 u180 u181 u182 u183 u184 u185 u186 u187 u188 u189 u190 u191 u192 u193 u194 u195 u196 u197 u198 u199 u200 u201 u202 u203 u204 u205 u206 u207 u208 u209 u210 u211 u212 u213 u214 u215 u216 u217 u218 u219 u220 u221 u222 u223 u224 u225 u226 u227 u228 u229 u230 u231 u232 u233 u234 u235 u236 u237 u238 u239 u240 u241 u242 u243 u244 u245 u246 u247 u248 u249 u250 u251 u252 u253 u254 u255 u256 u257 u258 u259 u260 u261 u262 u263 u264 u265 u266 u267 u268 u269 u270 u271 u272 u273 u274 u275 u276 u277 u278 u279 u280 u281 u282 u283 u284 u285 u286 u287 u288 u289 u290 u291 u292 u293 u294 u295 u296 u297 u298 u299 u300 u301 u302 u303 u304 u305 u306 u307 u308 u309 u310 u311 u312 u313 u314 u315 u316 u317 u318 u319 u320 u321 u322 u323 u324 u325 u326 u327 u328 u329 u330 u331 u332 u333 u334 u335 u336 u337 u338 : Value} (H0 : Hid (Sep w (twL t b (.slice (some ⟨g, 0, none⟩) (l.length + 1 : Nat) c) pv (x :: l) Q many ++ chP b p k sz ca C (bx B10 (.cells #[.int .i64 v1, .int .i64 v2] 34) :: bx B0 (.cells #[.int .i64 o.kind, .int .i64 o.n, sv, .int .i64 o.l.args, .int .i64 o.l.res, .int .i64 o.l.height, av, .int .i64 o.v.1, .int .i64 o.v.2, .bool last] 36) :: F)) W)) (hs : Sim sz ca n ⟨C, (x :: l).map (·.m), Q, many⟩ Z) (hn : n ≤ 280) (hn' : n ≤ n') (hlm : l.length = lm) (hv : o.val = (v1, v2)) (hN : stepN (Tw.N ⟨C, (x :: l).map (·.m), Q, many⟩) o = N') (hK : Hid (∀ (tm : Array Value) (W' : World), tm.size = 339 → TwR w W' t b p k sz ca n' N' F → K ⟨tm, []⟩ W')) (hsl : ∀ W', Sep w F W' → Rdi W' sv o.l.slots) (hcap : SlOk sv) (hlen : o.l.slots.length ≤ 100) (hkv : kv = 3) (hki : o.kind = kv) :
    Code.wp Try.prog (pieceOf (Try.f8.body.getD .skip) [1, 1, 1, 1, 1, 1, 0, 1]) (Exit.then K (bodyPost Try.prog Try.f8 (fun e w' => TwR w w' t b p k sz ca n' N' F ∧ e = .returned (.bool true)))) ⟨#[.pointer (some ⟨t, 0, none⟩), (.agg #[.int .i64 o.kind, .int .i64 o.n, sv, .int .i64 o.l.args, .int .i64 o.l.res, .int .i64 o.l.height, av, .int .i64 o.v.1, .int .i64 o.v.2, .bool last]), u2, .pointer (some ⟨B0, 0, none⟩), .bool false, .int .i64 ((lm : Int) + 1), u6, u7, u8, .pointer (some ⟨g, lm * 7, none⟩), .pointer (some ⟨B10, 0, none⟩), u11, u12, u13, u14, u15, u16, u17, u18, u19, u20, u21, u22, u23, u24, u25, u26, u27, u28, u29, u30, u31, u32, u33, u34, u35, u36, u37, u38, u39, u40, u41, u42, u43, u44, u45, u46, u47, u48, u49, u50, u51, u52, u53, u54, u55, u56, u57, u58, u59, u60, u61, u62, u63, u64, u65, u66, u67, u68, u69, u70, u71, u72, u73, u74, u75, u76, u77, u78, .int .i64 kv, u80, u81, u82, u83, u84, u85, u86, u87, u88, u89, u90, u91, u92, u93, u94, u95, u96, u97, u98, u99, u100, u101, u102, u103, u104, u105, u106, u107, u108, u109, u110, u111, u112, u113, u114, u115, u116, u117, u118, u119, u120, u121, u122, u123, u124, u125, u126, u127, u128, u129, u130, u131, u132, u133, u134, u135, u136, u137, u138, u139, u140, u141, u142, u143, u144, u145, u146, u147, u148, u149, u150, u151, u152, u153, u154, u155, u156, u157, u158, u159, u160, u161, u162, u163, u164, u165, u166, u167, u168, u169, u170, u171, u172, u173, u174, u175, u176, u177, u178, u179, u180, u181, u182, u183, u184, u185, u186, u187, u188, u189, u190, u191, u192, u193, u194, u195, u196, u197, u198, u199, u200, u201, u202, u203, u204, u205, u206, u207, u208, u209, u210, u211, u212, u213, u214, u215, u216, u217, u218, u219, u220, u221, u222, u223, u224, u225, u226, u227, u228, u229, u230, u231, u232, u233, u234, u235, u236, u237, u238, u239, u240, u241, u242, u243, u244, u245, u246, u247, u248, u249, u250, u251, u252, u253, u254, u255, u256, u257, u258, u259, u260, u261, u262, u263, u264, u265, u266, u267, u268, u269, u270, u271, u272, u273, u274, u275, u276, u277, u278, u279, u280, u281, u282, u283, u284, u285, u286, u287, u288, u289, u290, u291, u292, u293, u294, u295, u296, u297, u298, u299, u300, u301, u302, u303, u304, u305, u306, u307, u308, u309, u310, u311, u312, u313, u314, u315, u316, u317, u318, u319, u320, u321, u322, u323, u324, u325, u326, u327, u328, u329, u330, u331, u332, u333, u334, u335, u336, u337, u338], []⟩ W := by
  conv => arg 2; whnf
  subst hkv
  have hK' := hK
  have HKI := Hid.mk hki
  clear hki
  go_upto_if 219 with (fail)
  refine wp_cond_true rfl ?_
  exact tdo_drop H0 hs hn hn' hlm hv hN hK' HKI.out
set_option maxRecDepth 100000 in
set_option maxHeartbeats 4000000 in
theorem tdo_sw5 {n' : Nat} {N' : Nt} {K : Act → World → Prop} {lm B10 : Nat} {v1 v2 kv : Int} {u2 u6 u7 u8 u11 u12 u13 u14 u15 u16 u17 u18 u19 u20 u21 u22 u23 u24 u25 u26 u27 u28 u29 u30 u31 u32 u33 u34 u35 u36 u37 u38 u39 u40 u41 u42 u43 u44 u45 u46 u47 u48 u49 u50 u51 u52 u53 u54 u55 u56 u57 u58 u59 u60 u61 u62 u63 u64 u65 u66 u67 u68 u69 u70 u71 u72 u73 u74 u75 u76 u77 u78 u80 u81 u82 u83 u84 u85 u86 u87 u88 u89 u90 u91 u92 u93 u94 u95 u96 u97 u98 u99 u100 u101 u102 u103 u104 u105 u106 u107 u108 u109 u110 u111 u112 u113 u114 u115 u116 u117 u118 u119 u120 u121 u122 u123 u124 u125 u126 u127 u128 u129 u130 u131 u132 u133 u134 u135 u136 u137 u138 u139 u140 u141 u142 u143 u144 u145 u146 u147 u148 u149 u150 u151 u152 u153 u154 u155 u156 u157 u158 u159 u160 u161 u162 u163 u164 u165 u166 u167 u168 u169 u170 u171 u172 u173 u174 u175 u176 u177 u178 u179 u180 u181 u182 u183 u184 u185 u186 u187 u188 u189 u190 u191 u192 u193 u194 u195 u196 u197 u198 u199 u200 u201 u202 u203 u204 u205 u206 u207 u208 u209 u210 u211 u212 u213 u214 u215 u216 u217 u218 u219 u220 u221 u222 u223 u224 u225 u226 u227 u228 u229 u230 u231 u232 u233 u234 u235 u236 u237 u238 u239 u240 u241 u242 u243 u244 u245 u246 u247 u248 u249 u250 u251 u252 u253 u254 u255 u256 u257 u258 u259 u260 u261 u262 u263 u264 u265 u266 u267 u268 u269 u270 u271 u272 u273 u274 u275 u276 u277 u278 u279 u280 u281 u282 u283 u284 u285 u286 u287 u288 u289 u290 u291 u292 u293 u294 u295 u296 u297 u298 u299 u300 u301 u302 u303 u304 u305 u306 u307 u308 u309 u310 u311 u312 u313 u314 u315 u316 u317 u318 u319 u320 u321 u322 u323 u324 u325 u326 u327 u328 u329 u330 u331 u332 u333 u334 u335 u336 u337 u338 : Value} (H0 : Hid (Sep w (twL t b (.slice (some ⟨g, 0, none⟩) (l.length + 1 : Nat) c) pv (x :: l) Q many ++ chP b p k sz ca C (bx B10 (.cells #[.int .i64 v1, .int .i64 v2] 34) :: bx B0 (.cells #[.int .i64 o.kind, .int .i64 o.n, sv, .int .i64 o.l.args, .int .i64 o.l.res, .int .i64 o.l.height, av, .int .i64 o.v.1, .int .i64 o.v.2, .bool last] 36) :: F)) W)) (hs : Sim sz ca n ⟨C, (x :: l).map (·.m), Q, many⟩ Z) (hn : n ≤ 280) (hn' : n + 1 ≤ n') (hlm : l.length = lm) (hv : o.val = (v1, v2)) (hN : stepN (Tw.N ⟨C, (x :: l).map (·.m), Q, many⟩) o = N') (hK : Hid (∀ (tm : Array Value) (W' : World), tm.size = 339 → TwR w W' t b p k sz ca n' N' F → K ⟨tm, []⟩ W')) (hsl : ∀ W', Sep w F W' → Rdi W' sv o.l.slots) (hcap : SlOk sv) (hlen : o.l.slots.length ≤ 100) (hkv : kv = 5) (hki : o.kind = kv) :
    Code.wp Try.prog (pieceOf (Try.f8.body.getD .skip) [1, 1, 1, 1, 1, 1, 0, 1]) (Exit.then K (bodyPost Try.prog Try.f8 (fun e w' => TwR w w' t b p k sz ca n' N' F ∧ e = .returned (.bool true)))) ⟨#[.pointer (some ⟨t, 0, none⟩), (.agg #[.int .i64 o.kind, .int .i64 o.n, sv, .int .i64 o.l.args, .int .i64 o.l.res, .int .i64 o.l.height, av, .int .i64 o.v.1, .int .i64 o.v.2, .bool last]), u2, .pointer (some ⟨B0, 0, none⟩), .bool false, .int .i64 ((lm : Int) + 1), u6, u7, u8, .pointer (some ⟨g, lm * 7, none⟩), .pointer (some ⟨B10, 0, none⟩), u11, u12, u13, u14, u15, u16, u17, u18, u19, u20, u21, u22, u23, u24, u25, u26, u27, u28, u29, u30, u31, u32, u33, u34, u35, u36, u37, u38, u39, u40, u41, u42, u43, u44, u45, u46, u47, u48, u49, u50, u51, u52, u53, u54, u55, u56, u57, u58, u59, u60, u61, u62, u63, u64, u65, u66, u67, u68, u69, u70, u71, u72, u73, u74, u75, u76, u77, u78, .int .i64 kv, u80, u81, u82, u83, u84, u85, u86, u87, u88, u89, u90, u91, u92, u93, u94, u95, u96, u97, u98, u99, u100, u101, u102, u103, u104, u105, u106, u107, u108, u109, u110, u111, u112, u113, u114, u115, u116, u117, u118, u119, u120, u121, u122, u123, u124, u125, u126, u127, u128, u129, u130, u131, u132, u133, u134, u135, u136, u137, u138, u139, u140, u141, u142, u143, u144, u145, u146, u147, u148, u149, u150, u151, u152, u153, u154, u155, u156, u157, u158, u159, u160, u161, u162, u163, u164, u165, u166, u167, u168, u169, u170, u171, u172, u173, u174, u175, u176, u177, u178, u179, u180, u181, u182, u183, u184, u185, u186, u187, u188, u189, u190, u191, u192, u193, u194, u195, u196, u197, u198, u199, u200, u201, u202, u203, u204, u205, u206, u207, u208, u209, u210, u211, u212, u213, u214, u215, u216, u217, u218, u219, u220, u221, u222, u223, u224, u225, u226, u227, u228, u229, u230, u231, u232, u233, u234, u235, u236, u237, u238, u239, u240, u241, u242, u243, u244, u245, u246, u247, u248, u249, u250, u251, u252, u253, u254, u255, u256, u257, u258, u259, u260, u261, u262, u263, u264, u265, u266, u267, u268, u269, u270, u271, u272, u273, u274, u275, u276, u277, u278, u279, u280, u281, u282, u283, u284, u285, u286, u287, u288, u289, u290, u291, u292, u293, u294, u295, u296, u297, u298, u299, u300, u301, u302, u303, u304, u305, u306, u307, u308, u309, u310, u311, u312, u313, u314, u315, u316, u317, u318, u319, u320, u321, u322, u323, u324, u325, u326, u327, u328, u329, u330, u331, u332, u333, u334, u335, u336, u337, u338], []⟩ W := by
  conv => arg 2; whnf
  subst hkv
  have hK' := hK
  have HKI := Hid.mk hki
  clear hki
  go_upto_if 236 with (fail)
  refine wp_cond_true rfl ?_
  exact tdo_push H0 hs hn hn' hlm hv hN hK' HKI.out
set_option maxRecDepth 100000 in
set_option maxHeartbeats 4000000 in
theorem tdo_sw6 {n' : Nat} {N' : Nt} {K : Act → World → Prop} {lm B10 : Nat} {v1 v2 kv : Int} {u2 u6 u7 u8 u11 u12 u13 u14 u15 u16 u17 u18 u19 u20 u21 u22 u23 u24 u25 u26 u27 u28 u29 u30 u31 u32 u33 u34 u35 u36 u37 u38 u39 u40 u41 u42 u43 u44 u45 u46 u47 u48 u49 u50 u51 u52 u53 u54 u55 u56 u57 u58 u59 u60 u61 u62 u63 u64 u65 u66 u67 u68 u69 u70 u71 u72 u73 u74 u75 u76 u77 u78 u80 u81 u82 u83 u84 u85 u86 u87 u88 u89 u90 u91 u92 u93 u94 u95 u96 u97 u98 u99 u100 u101 u102 u103 u104 u105 u106 u107 u108 u109 u110 u111 u112 u113 u114 u115 u116 u117 u118 u119 u120 u121 u122 u123 u124 u125 u126 u127 u128 u129 u130 u131 u132 u133 u134 u135 u136 u137 u138 u139 u140 u141 u142 u143 u144 u145 u146 u147 u148 u149 u150 u151 u152 u153 u154 u155 u156 u157 u158 u159 u160 u161 u162 u163 u164 u165 u166 u167 u168 u169 u170 u171 u172 u173 u174 u175 u176 u177 u178 u179 u180 u181 u182 u183 u184 u185 u186 u187 u188 u189 u190 u191 u192 u193 u194 u195 u196 u197 u198 u199 u200 u201 u202 u203 u204 u205 u206 u207 u208 u209 u210 u211 u212 u213 u214 u215 u216 u217 u218 u219 u220 u221 u222 u223 u224 u225 u226 u227 u228 u229 u230 u231 u232 u233 u234 u235 u236 u237 u238 u239 u240 u241 u242 u243 u244 u245 u246 u247 u248 u249 u250 u251 u252 u253 u254 u255 u256 u257 u258 u259 u260 u261 u262 u263 u264 u265 u266 u267 u268 u269 u270 u271 u272 u273 u274 u275 u276 u277 u278 u279 u280 u281 u282 u283 u284 u285 u286 u287 u288 u289 u290 u291 u292 u293 u294 u295 u296 u297 u298 u299 u300 u301 u302 u303 u304 u305 u306 u307 u308 u309 u310 u311 u312 u313 u314 u315 u316 u317 u318 u319 u320 u321 u322 u323 u324 u325 u326 u327 u328 u329 u330 u331 u332 u333 u334 u335 u336 u337 u338 : Value} (H0 : Hid (Sep w (twL t b (.slice (some ⟨g, 0, none⟩) (l.length + 1 : Nat) c) pv (x :: l) Q many ++ chP b p k sz ca C (bx B10 (.cells #[.int .i64 v1, .int .i64 v2] 34) :: bx B0 (.cells #[.int .i64 o.kind, .int .i64 o.n, sv, .int .i64 o.l.args, .int .i64 o.l.res, .int .i64 o.l.height, av, .int .i64 o.v.1, .int .i64 o.v.2, .bool last] 36) :: F)) W)) (hs : Sim sz ca n ⟨C, (x :: l).map (·.m), Q, many⟩ Z) (hn : n ≤ 280) (hn' : n ≤ n') (hlm : l.length = lm) (hv : o.val = (v1, v2)) (hN : stepN (Tw.N ⟨C, (x :: l).map (·.m), Q, many⟩) o = N') (hK : Hid (∀ (tm : Array Value) (W' : World), tm.size = 339 → TwR w W' t b p k sz ca n' N' F → K ⟨tm, []⟩ W')) (hsl : ∀ W', Sep w F W' → Rdi W' sv o.l.slots) (hcap : SlOk sv) (hlen : o.l.slots.length ≤ 100) (hkv : kv = 6) (hki : o.kind = kv) :
    Code.wp Try.prog (pieceOf (Try.f8.body.getD .skip) [1, 1, 1, 1, 1, 1, 0, 1]) (Exit.then K (bodyPost Try.prog Try.f8 (fun e w' => TwR w w' t b p k sz ca n' N' F ∧ e = .returned (.bool true)))) ⟨#[.pointer (some ⟨t, 0, none⟩), (.agg #[.int .i64 o.kind, .int .i64 o.n, sv, .int .i64 o.l.args, .int .i64 o.l.res, .int .i64 o.l.height, av, .int .i64 o.v.1, .int .i64 o.v.2, .bool last]), u2, .pointer (some ⟨B0, 0, none⟩), .bool false, .int .i64 ((lm : Int) + 1), u6, u7, u8, .pointer (some ⟨g, lm * 7, none⟩), .pointer (some ⟨B10, 0, none⟩), u11, u12, u13, u14, u15, u16, u17, u18, u19, u20, u21, u22, u23, u24, u25, u26, u27, u28, u29, u30, u31, u32, u33, u34, u35, u36, u37, u38, u39, u40, u41, u42, u43, u44, u45, u46, u47, u48, u49, u50, u51, u52, u53, u54, u55, u56, u57, u58, u59, u60, u61, u62, u63, u64, u65, u66, u67, u68, u69, u70, u71, u72, u73, u74, u75, u76, u77, u78, .int .i64 kv, u80, u81, u82, u83, u84, u85, u86, u87, u88, u89, u90, u91, u92, u93, u94, u95, u96, u97, u98, u99, u100, u101, u102, u103, u104, u105, u106, u107, u108, u109, u110, u111, u112, u113, u114, u115, u116, u117, u118, u119, u120, u121, u122, u123, u124, u125, u126, u127, u128, u129, u130, u131, u132, u133, u134, u135, u136, u137, u138, u139, u140, u141, u142, u143, u144, u145, u146, u147, u148, u149, u150, u151, u152, u153, u154, u155, u156, u157, u158, u159, u160, u161, u162, u163, u164, u165, u166, u167, u168, u169, u170, u171, u172, u173, u174, u175, u176, u177, u178, u179, u180, u181, u182, u183, u184, u185, u186, u187, u188, u189, u190, u191, u192, u193, u194, u195, u196, u197, u198, u199, u200, u201, u202, u203, u204, u205, u206, u207, u208, u209, u210, u211, u212, u213, u214, u215, u216, u217, u218, u219, u220, u221, u222, u223, u224, u225, u226, u227, u228, u229, u230, u231, u232, u233, u234, u235, u236, u237, u238, u239, u240, u241, u242, u243, u244, u245, u246, u247, u248, u249, u250, u251, u252, u253, u254, u255, u256, u257, u258, u259, u260, u261, u262, u263, u264, u265, u266, u267, u268, u269, u270, u271, u272, u273, u274, u275, u276, u277, u278, u279, u280, u281, u282, u283, u284, u285, u286, u287, u288, u289, u290, u291, u292, u293, u294, u295, u296, u297, u298, u299, u300, u301, u302, u303, u304, u305, u306, u307, u308, u309, u310, u311, u312, u313, u314, u315, u316, u317, u318, u319, u320, u321, u322, u323, u324, u325, u326, u327, u328, u329, u330, u331, u332, u333, u334, u335, u336, u337, u338], []⟩ W := by
  conv => arg 2; whnf
  subst hkv
  have hK' := hK
  have HKI := Hid.mk hki
  clear hki
  go_upto_if 255 with (fail)
  refine wp_cond_true rfl ?_
  exact tdo_pop H0 hs hn hn' hlm hv hN hK' HKI.out
set_option maxRecDepth 100000 in
set_option maxHeartbeats 4000000 in
theorem tdo_sw8 {n' : Nat} {N' : Nt} {K : Act → World → Prop} {lm B10 : Nat} {v1 v2 kv : Int} {u2 u6 u7 u8 u11 u12 u13 u14 u15 u16 u17 u18 u19 u20 u21 u22 u23 u24 u25 u26 u27 u28 u29 u30 u31 u32 u33 u34 u35 u36 u37 u38 u39 u40 u41 u42 u43 u44 u45 u46 u47 u48 u49 u50 u51 u52 u53 u54 u55 u56 u57 u58 u59 u60 u61 u62 u63 u64 u65 u66 u67 u68 u69 u70 u71 u72 u73 u74 u75 u76 u77 u78 u80 u81 u82 u83 u84 u85 u86 u87 u88 u89 u90 u91 u92 u93 u94 u95 u96 u97 u98 u99 u100 u101 u102 u103 u104 u105 u106 u107 u108 u109 u110 u111 u112 u113 u114 u115 u116 u117 u118 u119 u120 u121 u122 u123 u124 u125 u126 u127 u128 u129 u130 u131 u132 u133 u134 u135 u136 u137 u138 u139 u140 u141 u142 u143 u144 u145 u146 u147 u148 u149 u150 u151 u152 u153 u154 u155 u156 u157 u158 u159 u160 u161 u162 u163 u164 u165 u166 u167 u168 u169 u170 u171 u172 u173 u174 u175 u176 u177 u178 u179 u180 u181 u182 u183 u184 u185 u186 u187 u188 u189 u190 u191 u192 u193 u194 u195 u196 u197 u198 u199 u200 u201 u202 u203 u204 u205 u206 u207 u208 u209 u210 u211 u212 u213 u214 u215 u216 u217 u218 u219 u220 u221 u222 u223 u224 u225 u226 u227 u228 u229 u230 u231 u232 u233 u234 u235 u236 u237 u238 u239 u240 u241 u242 u243 u244 u245 u246 u247 u248 u249 u250 u251 u252 u253 u254 u255 u256 u257 u258 u259 u260 u261 u262 u263 u264 u265 u266 u267 u268 u269 u270 u271 u272 u273 u274 u275 u276 u277 u278 u279 u280 u281 u282 u283 u284 u285 u286 u287 u288 u289 u290 u291 u292 u293 u294 u295 u296 u297 u298 u299 u300 u301 u302 u303 u304 u305 u306 u307 u308 u309 u310 u311 u312 u313 u314 u315 u316 u317 u318 u319 u320 u321 u322 u323 u324 u325 u326 u327 u328 u329 u330 u331 u332 u333 u334 u335 u336 u337 u338 : Value} (H0 : Hid (Sep w (twL t b (.slice (some ⟨g, 0, none⟩) (l.length + 1 : Nat) c) pv (x :: l) Q many ++ chP b p k sz ca C (bx B10 (.cells #[.int .i64 v1, .int .i64 v2] 34) :: bx B0 (.cells #[.int .i64 o.kind, .int .i64 o.n, sv, .int .i64 o.l.args, .int .i64 o.l.res, .int .i64 o.l.height, av, .int .i64 o.v.1, .int .i64 o.v.2, .bool last] 36) :: F)) W)) (hs : Sim sz ca n ⟨C, (x :: l).map (·.m), Q, many⟩ Z) (hn : n ≤ 280) (hn' : n + 1 ≤ n') (hlm : l.length = lm) (hv : o.val = (v1, v2)) (hN : stepN (Tw.N ⟨C, (x :: l).map (·.m), Q, many⟩) o = N') (hK : Hid (∀ (tm : Array Value) (W' : World), tm.size = 339 → TwR w W' t b p k sz ca n' N' F → K ⟨tm, []⟩ W')) (hsl : ∀ W', Sep w F W' → Rdi W' sv o.l.slots) (hcap : SlOk sv) (hlen : o.l.slots.length ≤ 100) (hkv : kv = 8) (hki : o.kind = kv) :
    Code.wp Try.prog (pieceOf (Try.f8.body.getD .skip) [1, 1, 1, 1, 1, 1, 0, 1]) (Exit.then K (bodyPost Try.prog Try.f8 (fun e w' => TwR w w' t b p k sz ca n' N' F ∧ e = .returned (.bool true)))) ⟨#[.pointer (some ⟨t, 0, none⟩), (.agg #[.int .i64 o.kind, .int .i64 o.n, sv, .int .i64 o.l.args, .int .i64 o.l.res, .int .i64 o.l.height, av, .int .i64 o.v.1, .int .i64 o.v.2, .bool last]), u2, .pointer (some ⟨B0, 0, none⟩), .bool false, .int .i64 ((lm : Int) + 1), u6, u7, u8, .pointer (some ⟨g, lm * 7, none⟩), .pointer (some ⟨B10, 0, none⟩), u11, u12, u13, u14, u15, u16, u17, u18, u19, u20, u21, u22, u23, u24, u25, u26, u27, u28, u29, u30, u31, u32, u33, u34, u35, u36, u37, u38, u39, u40, u41, u42, u43, u44, u45, u46, u47, u48, u49, u50, u51, u52, u53, u54, u55, u56, u57, u58, u59, u60, u61, u62, u63, u64, u65, u66, u67, u68, u69, u70, u71, u72, u73, u74, u75, u76, u77, u78, .int .i64 kv, u80, u81, u82, u83, u84, u85, u86, u87, u88, u89, u90, u91, u92, u93, u94, u95, u96, u97, u98, u99, u100, u101, u102, u103, u104, u105, u106, u107, u108, u109, u110, u111, u112, u113, u114, u115, u116, u117, u118, u119, u120, u121, u122, u123, u124, u125, u126, u127, u128, u129, u130, u131, u132, u133, u134, u135, u136, u137, u138, u139, u140, u141, u142, u143, u144, u145, u146, u147, u148, u149, u150, u151, u152, u153, u154, u155, u156, u157, u158, u159, u160, u161, u162, u163, u164, u165, u166, u167, u168, u169, u170, u171, u172, u173, u174, u175, u176, u177, u178, u179, u180, u181, u182, u183, u184, u185, u186, u187, u188, u189, u190, u191, u192, u193, u194, u195, u196, u197, u198, u199, u200, u201, u202, u203, u204, u205, u206, u207, u208, u209, u210, u211, u212, u213, u214, u215, u216, u217, u218, u219, u220, u221, u222, u223, u224, u225, u226, u227, u228, u229, u230, u231, u232, u233, u234, u235, u236, u237, u238, u239, u240, u241, u242, u243, u244, u245, u246, u247, u248, u249, u250, u251, u252, u253, u254, u255, u256, u257, u258, u259, u260, u261, u262, u263, u264, u265, u266, u267, u268, u269, u270, u271, u272, u273, u274, u275, u276, u277, u278, u279, u280, u281, u282, u283, u284, u285, u286, u287, u288, u289, u290, u291, u292, u293, u294, u295, u296, u297, u298, u299, u300, u301, u302, u303, u304, u305, u306, u307, u308, u309, u310, u311, u312, u313, u314, u315, u316, u317, u318, u319, u320, u321, u322, u323, u324, u325, u326, u327, u328, u329, u330, u331, u332, u333, u334, u335, u336, u337, u338], []⟩ W := by
  conv => arg 2; whnf
  subst hkv
  have hK' := hK
  have HKI := Hid.mk hki
  clear hki
  go_upto_if 307 with (fail)
  refine wp_cond_true rfl ?_
  exact tdo_store H0 hs hn hn' hlm hv hN hK' HKI.out
set_option maxRecDepth 100000 in
set_option maxHeartbeats 4000000 in
theorem tdo_sw9 {n' : Nat} {N' : Nt} {K : Act → World → Prop} {lm B10 : Nat} {v1 v2 kv : Int} {u2 u6 u7 u8 u11 u12 u13 u14 u15 u16 u17 u18 u19 u20 u21 u22 u23 u24 u25 u26 u27 u28 u29 u30 u31 u32 u33 u34 u35 u36 u37 u38 u39 u40 u41 u42 u43 u44 u45 u46 u47 u48 u49 u50 u51 u52 u53 u54 u55 u56 u57 u58 u59 u60 u61 u62 u63 u64 u65 u66 u67 u68 u69 u70 u71 u72 u73 u74 u75 u76 u77 u78 u80 u81 u82 u83 u84 u85 u86 u87 u88 u89 u90 u91 u92 u93 u94 u95 u96 u97 u98 u99 u100 u101 u102 u103 u104 u105 u106 u107 u108 u109 u110 u111 u112 u113 u114 u115 u116 u117 u118 u119 u120 u121 u122 u123 u124 u125 u126 u127 u128 u129 u130 u131 u132 u133 u134 u135 u136 u137 u138 u139 u140 u141 u142 u143 u144 u145 u146 u147 u148 u149 u150 u151 u152 u153 u154 u155 u156 u157 u158 u159 u160 u161 u162 u163 u164 u165 u166 u167 u168 u169 u170 u171 u172 u173 u174 u175 u176 u177 u178 u179 u180 u181 u182 u183 u184 u185 u186 u187 u188 u189 u190 u191 u192 u193 u194 u195 u196 u197 u198 u199 u200 u201 u202 u203 u204 u205 u206 u207 u208 u209 u210 u211 u212 u213 u214 u215 u216 u217 u218 u219 u220 u221 u222 u223 u224 u225 u226 u227 u228 u229 u230 u231 u232 u233 u234 u235 u236 u237 u238 u239 u240 u241 u242 u243 u244 u245 u246 u247 u248 u249 u250 u251 u252 u253 u254 u255 u256 u257 u258 u259 u260 u261 u262 u263 u264 u265 u266 u267 u268 u269 u270 u271 u272 u273 u274 u275 u276 u277 u278 u279 u280 u281 u282 u283 u284 u285 u286 u287 u288 u289 u290 u291 u292 u293 u294 u295 u296 u297 u298 u299 u300 u301 u302 u303 u304 u305 u306 u307 u308 u309 u310 u311 u312 u313 u314 u315 u316 u317 u318 u319 u320 u321 u322 u323 u324 u325 u326 u327 u328 u329 u330 u331 u332 u333 u334 u335 u336 u337 u338 : Value} (H0 : Hid (Sep w (twL t b (.slice (some ⟨g, 0, none⟩) (l.length + 1 : Nat) c) pv (x :: l) Q many ++ chP b p k sz ca C (bx B10 (.cells #[.int .i64 v1, .int .i64 v2] 34) :: bx B0 (.cells #[.int .i64 o.kind, .int .i64 o.n, sv, .int .i64 o.l.args, .int .i64 o.l.res, .int .i64 o.l.height, av, .int .i64 o.v.1, .int .i64 o.v.2, .bool last] 36) :: F)) W)) (hs : Sim sz ca n ⟨C, (x :: l).map (·.m), Q, many⟩ Z) (hn : n ≤ 280) (hn' : n + 1 ≤ n') (hlm : l.length = lm) (hv : o.val = (v1, v2)) (hN : stepN (Tw.N ⟨C, (x :: l).map (·.m), Q, many⟩) o = N') (hK : Hid (∀ (tm : Array Value) (W' : World), tm.size = 339 → TwR w W' t b p k sz ca n' N' F → K ⟨tm, []⟩ W')) (hsl : ∀ W', Sep w F W' → Rdi W' sv o.l.slots) (hcap : SlOk sv) (hlen : o.l.slots.length ≤ 100) (hkv : kv = 9) (hki : o.kind = kv) :
    Code.wp Try.prog (pieceOf (Try.f8.body.getD .skip) [1, 1, 1, 1, 1, 1, 0, 1]) (Exit.then K (bodyPost Try.prog Try.f8 (fun e w' => TwR w w' t b p k sz ca n' N' F ∧ e = .returned (.bool true)))) ⟨#[.pointer (some ⟨t, 0, none⟩), (.agg #[.int .i64 o.kind, .int .i64 o.n, sv, .int .i64 o.l.args, .int .i64 o.l.res, .int .i64 o.l.height, av, .int .i64 o.v.1, .int .i64 o.v.2, .bool last]), u2, .pointer (some ⟨B0, 0, none⟩), .bool false, .int .i64 ((lm : Int) + 1), u6, u7, u8, .pointer (some ⟨g, lm * 7, none⟩), .pointer (some ⟨B10, 0, none⟩), u11, u12, u13, u14, u15, u16, u17, u18, u19, u20, u21, u22, u23, u24, u25, u26, u27, u28, u29, u30, u31, u32, u33, u34, u35, u36, u37, u38, u39, u40, u41, u42, u43, u44, u45, u46, u47, u48, u49, u50, u51, u52, u53, u54, u55, u56, u57, u58, u59, u60, u61, u62, u63, u64, u65, u66, u67, u68, u69, u70, u71, u72, u73, u74, u75, u76, u77, u78, .int .i64 kv, u80, u81, u82, u83, u84, u85, u86, u87, u88, u89, u90, u91, u92, u93, u94, u95, u96, u97, u98, u99, u100, u101, u102, u103, u104, u105, u106, u107, u108, u109, u110, u111, u112, u113, u114, u115, u116, u117, u118, u119, u120, u121, u122, u123, u124, u125, u126, u127, u128, u129, u130, u131, u132, u133, u134, u135, u136, u137, u138, u139, u140, u141, u142, u143, u144, u145, u146, u147, u148, u149, u150, u151, u152, u153, u154, u155, u156, u157, u158, u159, u160, u161, u162, u163, u164, u165, u166, u167, u168, u169, u170, u171, u172, u173, u174, u175, u176, u177, u178, u179, u180, u181, u182, u183, u184, u185, u186, u187, u188, u189, u190, u191, u192, u193, u194, u195, u196, u197, u198, u199, u200, u201, u202, u203, u204, u205, u206, u207, u208, u209, u210, u211, u212, u213, u214, u215, u216, u217, u218, u219, u220, u221, u222, u223, u224, u225, u226, u227, u228, u229, u230, u231, u232, u233, u234, u235, u236, u237, u238, u239, u240, u241, u242, u243, u244, u245, u246, u247, u248, u249, u250, u251, u252, u253, u254, u255, u256, u257, u258, u259, u260, u261, u262, u263, u264, u265, u266, u267, u268, u269, u270, u271, u272, u273, u274, u275, u276, u277, u278, u279, u280, u281, u282, u283, u284, u285, u286, u287, u288, u289, u290, u291, u292, u293, u294, u295, u296, u297, u298, u299, u300, u301, u302, u303, u304, u305, u306, u307, u308, u309, u310, u311, u312, u313, u314, u315, u316, u317, u318, u319, u320, u321, u322, u323, u324, u325, u326, u327, u328, u329, u330, u331, u332, u333, u334, u335, u336, u337, u338], []⟩ W := by
  conv => arg 2; whnf
  subst hkv
  have hK' := hK
  have H1 := tw_lose (tw_lose H0.out)
  obtain ⟨-, d1, -⟩ := ten_cells H0.out (q := B0) (tw_mem (List.Mem.tail _ (List.Mem.head _)))
  have HP := Hid.mk (tpoint_any H1 hs (by omega) o.n)
  have HNN : Hid (N' = pointN (Tw.N ⟨C, (x :: l).map (·.m), Q, many⟩) o.n) := by
    rw [← hN]
    unfold Hid stepN pointN Tw.N
    simp only [List.map_cons]
    rw [if_neg (by omega), if_neg (by omega), if_neg (by omega), if_neg (by omega), if_neg (by omega), if_neg (by omega), if_neg (by omega), if_pos hki]
  clear hs hlm hv hN hki hsl hcap H1
  go_wp2_with fail
  refine HP.out.mono ?_
  rintro e w6 ⟨h6, rfl⟩
  have H6 := Hid.mk (h6.mono hn')
  clear h6 HP d1
  go_wp2_with fail
  go_ret
  rw [HNN.out]
  exact ⟨H6.out, rfl⟩
set_option maxRecDepth 100000 in
set_option maxHeartbeats 4000000 in
theorem tdo_sw11 {n' : Nat} {N' : Nt} {K : Act → World → Prop} {lm B10 : Nat} {v1 v2 kv : Int} {u2 u6 u7 u8 u11 u12 u13 u14 u15 u16 u17 u18 u19 u20 u21 u22 u23 u24 u25 u26 u27 u28 u29 u30 u31 u32 u33 u34 u35 u36 u37 u38 u39 u40 u41 u42 u43 u44 u45 u46 u47 u48 u49 u50 u51 u52 u53 u54 u55 u56 u57 u58 u59 u60 u61 u62 u63 u64 u65 u66 u67 u68 u69 u70 u71 u72 u73 u74 u75 u76 u77 u78 u80 u81 u82 u83 u84 u85 u86 u87 u88 u89 u90 u91 u92 u93 u94 u95 u96 u97 u98 u99 u100 u101 u102 u103 u104 u105 u106 u107 u108 u109 u110 u111 u112 u113 u114 u115 u116 u117 u118 u119 u120 u121 u122 u123 u124 u125 u126 u127 u128 u129 u130 u131 u132 u133 u134 u135 u136 u137 u138 u139 u140 u141 u142 u143 u144 u145 u146 u147 u148 u149 u150 u151 u152 u153 u154 u155 u156 u157 u158 u159 u160 u161 u162 u163 u164 u165 u166 u167 u168 u169 u170 u171 u172 u173 u174 u175 u176 u177 u178 u179 u180 u181 u182 u183 u184 u185 u186 u187 u188 u189 u190 u191 u192 u193 u194 u195 u196 u197 u198 u199 u200 u201 u202 u203 u204 u205 u206 u207 u208 u209 u210 u211 u212 u213 u214 u215 u216 u217 u218 u219 u220 u221 u222 u223 u224 u225 u226 u227 u228 u229 u230 u231 u232 u233 u234 u235 u236 u237 u238 u239 u240 u241 u242 u243 u244 u245 u246 u247 u248 u249 u250 u251 u252 u253 u254 u255 u256 u257 u258 u259 u260 u261 u262 u263 u264 u265 u266 u267 u268 u269 u270 u271 u272 u273 u274 u275 u276 u277 u278 u279 u280 u281 u282 u283 u284 u285 u286 u287 u288 u289 u290 u291 u292 u293 u294 u295 u296 u297 u298 u299 u300 u301 u302 u303 u304 u305 u306 u307 u308 u309 u310 u311 u312 u313 u314 u315 u316 u317 u318 u319 u320 u321 u322 u323 u324 u325 u326 u327 u328 u329 u330 u331 u332 u333 u334 u335 u336 u337 u338 : Value} (H0 : Hid (Sep w (twL t b (.slice (some ⟨g, 0, none⟩) (l.length + 1 : Nat) c) pv (x :: l) Q many ++ chP b p k sz ca C (bx B10 (.cells #[.int .i64 v1, .int .i64 v2] 34) :: bx B0 (.cells #[.int .i64 o.kind, .int .i64 o.n, sv, .int .i64 o.l.args, .int .i64 o.l.res, .int .i64 o.l.height, av, .int .i64 o.v.1, .int .i64 o.v.2, .bool last] 36) :: F)) W)) (hs : Sim sz ca n ⟨C, (x :: l).map (·.m), Q, many⟩ Z) (hn : n ≤ 280) (hn' : n + 1 ≤ n') (hlm : l.length = lm) (hv : o.val = (v1, v2)) (hN : stepN (Tw.N ⟨C, (x :: l).map (·.m), Q, many⟩) o = N') (hK : Hid (∀ (tm : Array Value) (W' : World), tm.size = 339 → TwR w W' t b p k sz ca n' N' F → K ⟨tm, []⟩ W')) (hsl : ∀ W', Sep w F W' → Rdi W' sv o.l.slots) (hcap : SlOk sv) (hlen : o.l.slots.length ≤ 100) (hkv : kv = 11) (hki : o.kind = kv) :
    Code.wp Try.prog (pieceOf (Try.f8.body.getD .skip) [1, 1, 1, 1, 1, 1, 0, 1]) (Exit.then K (bodyPost Try.prog Try.f8 (fun e w' => TwR w w' t b p k sz ca n' N' F ∧ e = .returned (.bool true)))) ⟨#[.pointer (some ⟨t, 0, none⟩), (.agg #[.int .i64 o.kind, .int .i64 o.n, sv, .int .i64 o.l.args, .int .i64 o.l.res, .int .i64 o.l.height, av, .int .i64 o.v.1, .int .i64 o.v.2, .bool last]), u2, .pointer (some ⟨B0, 0, none⟩), .bool false, .int .i64 ((lm : Int) + 1), u6, u7, u8, .pointer (some ⟨g, lm * 7, none⟩), .pointer (some ⟨B10, 0, none⟩), u11, u12, u13, u14, u15, u16, u17, u18, u19, u20, u21, u22, u23, u24, u25, u26, u27, u28, u29, u30, u31, u32, u33, u34, u35, u36, u37, u38, u39, u40, u41, u42, u43, u44, u45, u46, u47, u48, u49, u50, u51, u52, u53, u54, u55, u56, u57, u58, u59, u60, u61, u62, u63, u64, u65, u66, u67, u68, u69, u70, u71, u72, u73, u74, u75, u76, u77, u78, .int .i64 kv, u80, u81, u82, u83, u84, u85, u86, u87, u88, u89, u90, u91, u92, u93, u94, u95, u96, u97, u98, u99, u100, u101, u102, u103, u104, u105, u106, u107, u108, u109, u110, u111, u112, u113, u114, u115, u116, u117, u118, u119, u120, u121, u122, u123, u124, u125, u126, u127, u128, u129, u130, u131, u132, u133, u134, u135, u136, u137, u138, u139, u140, u141, u142, u143, u144, u145, u146, u147, u148, u149, u150, u151, u152, u153, u154, u155, u156, u157, u158, u159, u160, u161, u162, u163, u164, u165, u166, u167, u168, u169, u170, u171, u172, u173, u174, u175, u176, u177, u178, u179, u180, u181, u182, u183, u184, u185, u186, u187, u188, u189, u190, u191, u192, u193, u194, u195, u196, u197, u198, u199, u200, u201, u202, u203, u204, u205, u206, u207, u208, u209, u210, u211, u212, u213, u214, u215, u216, u217, u218, u219, u220, u221, u222, u223, u224, u225, u226, u227, u228, u229, u230, u231, u232, u233, u234, u235, u236, u237, u238, u239, u240, u241, u242, u243, u244, u245, u246, u247, u248, u249, u250, u251, u252, u253, u254, u255, u256, u257, u258, u259, u260, u261, u262, u263, u264, u265, u266, u267, u268, u269, u270, u271, u272, u273, u274, u275, u276, u277, u278, u279, u280, u281, u282, u283, u284, u285, u286, u287, u288, u289, u290, u291, u292, u293, u294, u295, u296, u297, u298, u299, u300, u301, u302, u303, u304, u305, u306, u307, u308, u309, u310, u311, u312, u313, u314, u315, u316, u317, u318, u319, u320, u321, u322, u323, u324, u325, u326, u327, u328, u329, u330, u331, u332, u333, u334, u335, u336, u337, u338], []⟩ W := by
  conv => arg 2; whnf
  subst hkv
  have hK' := hK
  have H1 := tw_lose (tw_lose H0.out)
  obtain ⟨-, -, -, -, -, -, -, d8⟩ := ten_cells H0.out (q := B0) (tw_mem (List.Mem.tail _ (List.Mem.head _)))
  have HP := Hid.mk (tput_any H1 hs (by omega) o.v.2)
  have HNN : Hid (N' = putN (Tw.N ⟨C, (x :: l).map (·.m), Q, many⟩) o.v.2) := by
    rw [← hN]
    unfold Hid stepN Tw.N
    simp only [List.map_cons]
    rw [if_neg (by omega), if_neg (by omega), if_neg (by omega), if_neg (by omega), if_neg (by omega), if_neg (by omega), if_neg (by omega), if_neg (by omega), if_pos hki]
  clear hs hlm hv hN hki hsl hcap H1
  go_wp2_with fail
  refine HP.out.mono ?_
  rintro e w6 ⟨h6, rfl⟩
  have H6 := Hid.mk (h6.mono (by omega : n ≤ n'))
  clear h6 HP d8
  go_wp2_with fail
  go_ret
  rw [HNN.out]
  exact ⟨H6.out, rfl⟩
end
end Go.Proofs.Ytpfnnmcokbolhaa
/- The twin's do: the switch at Run. -/
namespace Go.Proofs.Ytpfnnmcokbolhaa
open Go.RowKit
set_option pp.deepTerms true
section
variable {w W : World} {F G : List Asr} {t b p k g c : Nat} {sz ca many : Int} {C : Ch} {lv pv : Value} {ml l : List Mv} {x : Mv} {Q : List (Int × Pf)} {A : Asr} {T : Tw} {Z : List (Md × Af)} {n : Nat} {o : Op25} {sv av : Value} {last : Bool} {B0 : Nat}
set_option maxRecDepth 100000 in
set_option maxHeartbeats 4000000 in
theorem tdo_sw1 {n' : Nat} {N' : Nt} {K : Act → World → Prop} {lm B10 : Nat} {v1 v2 kv : Int} {u2 u6 u7 u8 u11 u12 u13 u14 u15 u16 u17 u18 u19 u20 u21 u22 u23 u24 u25 u26 u27 u28 u29 u30 u31 u32 u33 u34 u35 u36 u37 u38 u39 u40 u41 u42 u43 u44 u45 u46 u47 u48 u49 u50 u51 u52 u53 u54 u55 u56 u57 u58 u59 u60 u61 u62 u63 u64 u65 u66 u67 u68 u69 u70 u71 u72 u73 u74 u75 u76 u77 u78 u80 u81 u82 u83 u84 u85 u86 u87 u88 u89 u90 u91 u92 u93 u94 u95 u96 u97 u98 u99 u100 u101 u102 u103 u104 u105 u106 u107 u108 u109 u110 u111 u112 u113 u114 u115 u116 u117 u118 u119 u120 u121 u122 u123 u124 u125 u126 u127 u128 u129 u130 u131 u132 u133 u134 u135 u136 u137 u138 u139 u140 u141 u142 u143 u144 u145 u146 u147 u148 u149 u150 u151 u152 u153 u154 u155 u156 u157 u158 u159 u160 u161 u162 u163 u164 u165 u166 u167 u168 u169 u170 u171 u172 u173 u174 u175 u176 u177 u178 u179 u180 u181 u182 u183 u184 u185 u186 u187 u188 u189 u190 u191 u192 u193 u194 u195 u196 u197 u198 u199 u200 u201 u202 u203 u204 u205 u206 u207 u208 u209 u210 u211 u212 u213 u214 u215 u216 u217 u218 u219 u220 u221 u222 u223 u224 u225 u226 u227 u228 u229 u230 u231 u232 u233 u234 u235 u236 u237 u238 u239 u240 u241 u242 u243 u244 u245 u246 u247 u248 u249 u250 u251 u252 u253 u254 u255 u256 u257 u258 u259 u260 u261 u262 u263 u264 u265 u266 u267 u268 u269 u270 u271 u272 u273 u274 u275 u276 u277 u278 u279 u280 u281 u282 u283 u284 u285 u286 u287 u288 u289 u290 u291 u292 u293 u294 u295 u296 u297 u298 u299 u300 u301 u302 u303 u304 u305 u306 u307 u308 u309 u310 u311 u312 u313 u314 u315 u316 u317 u318 u319 u320 u321 u322 u323 u324 u325 u326 u327 u328 u329 u330 u331 u332 u333 u334 u335 u336 u337 u338 : Value} (H0 : Hid (Sep w (twL t b (.slice (some ⟨g, 0, none⟩) (l.length + 1 : Nat) c) pv (x :: l) Q many ++ chP b p k sz ca C (bx B10 (.cells #[.int .i64 v1, .int .i64 v2] 34) :: bx B0 (.cells #[.int .i64 o.kind, .int .i64 o.n, sv, .int .i64 o.l.args, .int .i64 o.l.res, .int .i64 o.l.height, av, .int .i64 o.v.1, .int .i64 o.v.2, .bool last] 36) :: F)) W)) (hs : Sim sz ca n ⟨C, (x :: l).map (·.m), Q, many⟩ Z) (hn : n ≤ 280) (hn' : n + 1 ≤ n') (hlm : l.length = lm) (hv : o.val = (v1, v2)) (hN : stepN (Tw.N ⟨C, (x :: l).map (·.m), Q, many⟩) o = N') (hK : Hid (∀ (tm : Array Value) (W' : World), tm.size = 339 → TwR w W' t b p k sz ca n' N' F → K ⟨tm, []⟩ W')) (hsl : ∀ W', Sep w F W' → Rdi W' sv o.l.slots) (hcap : SlOk sv) (hlen : o.l.slots.length ≤ 100) (hkv : kv = 1) (hki : o.kind = kv) :
    Code.wp Try.prog (pieceOf (Try.f8.body.getD .skip) [1, 1, 1, 1, 1, 1, 0, 1]) (Exit.then K (bodyPost Try.prog Try.f8 (fun e w' => TwR w w' t b p k sz ca n' N' F ∧ e = .returned (.bool true)))) ⟨#[.pointer (some ⟨t, 0, none⟩), (.agg #[.int .i64 o.kind, .int .i64 o.n, sv, .int .i64 o.l.args, .int .i64 o.l.res, .int .i64 o.l.height, av, .int .i64 o.v.1, .int .i64 o.v.2, .bool last]), u2, .pointer (some ⟨B0, 0, none⟩), .bool false, .int .i64 ((lm : Int) + 1), u6, u7, u8, .pointer (some ⟨g, lm * 7, none⟩), .pointer (some ⟨B10, 0, none⟩), u11, u12, u13, u14, u15, u16, u17, u18, u19, u20, u21, u22, u23, u24, u25, u26, u27, u28, u29, u30, u31, u32, u33, u34, u35, u36, u37, u38, u39, u40, u41, u42, u43, u44, u45, u46, u47, u48, u49, u50, u51, u52, u53, u54, u55, u56, u57, u58, u59, u60, u61, u62, u63, u64, u65, u66, u67, u68, u69, u70, u71, u72, u73, u74, u75, u76, u77, u78, .int .i64 kv, u80, u81, u82, u83, u84, u85, u86, u87, u88, u89, u90, u91, u92, u93, u94, u95, u96, u97, u98, u99, u100, u101, u102, u103, u104, u105, u106, u107, u108, u109, u110, u111, u112, u113, u114, u115, u116, u117, u118, u119, u120, u121, u122, u123, u124, u125, u126, u127, u128, u129, u130, u131, u132, u133, u134, u135, u136, u137, u138, u139, u140, u141, u142, u143, u144, u145, u146, u147, u148, u149, u150, u151, u152, u153, u154, u155, u156, u157, u158, u159, u160, u161, u162, u163, u164, u165, u166, u167, u168, u169, u170, u171, u172, u173, u174, u175, u176, u177, u178, u179, u180, u181, u182, u183, u184, u185, u186, u187, u188, u189, u190, u191, u192, u193, u194, u195, u196, u197, u198, u199, u200, u201, u202, u203, u204, u205, u206, u207, u208, u209, u210, u211, u212, u213, u214, u215, u216, u217, u218, u219, u220, u221, u222, u223, u224, u225, u226, u227, u228, u229, u230, u231, u232, u233, u234, u235, u236, u237, u238, u239, u240, u241, u242, u243, u244, u245, u246, u247, u248, u249, u250, u251, u252, u253, u254, u255, u256, u257, u258, u259, u260, u261, u262, u263, u264, u265, u266, u267, u268, u269, u270, u271, u272, u273, u274, u275, u276, u277, u278, u279, u280, u281, u282, u283, u284, u285, u286, u287, u288, u289, u290, u291, u292, u293, u294, u295, u296, u297, u298, u299, u300, u301, u302, u303, u304, u305, u306, u307, u308, u309, u310, u311, u312, u313, u314, u315, u316, u317, u318, u319, u320, u321, u322, u323, u324, u325, u326, u327, u328, u329, u330, u331, u332, u333, u334, u335, u336, u337, u338], []⟩ W := by
  conv => arg 2; whnf
  subst hkv
  have hK' := hK
  have HKI := Hid.mk hki
  clear hki
  obtain ⟨-, -, d2, d3, -, -, -, -⟩ := ten_cells H0.out (q := B0) (tw_mem (List.Mem.tail _ (List.Mem.head _)))
  have H1 : Hid (Sep w (twL t b (.slice (some ⟨g, 0, none⟩) (l.length + 1 : Nat) c) pv (x :: l) Q many ++ chP b p k sz ca C (bx B0 (.cells #[.int .i64 o.kind, .int .i64 o.n, sv, .int .i64 o.l.args, .int .i64 o.l.res, .int .i64 o.l.height, av, .int .i64 o.v.1, .int .i64 o.v.2, .bool last] 36) :: F)) W) := Hid.mk (tw_lose H0.out)
  rcases (hsl _ (Sep.sub H1.out (by rw [twch_eq]; exact (List.sublist_cons_self _ _).trans (List.sublist_append_right _ _)))).ad with ⟨rfl, hnil⟩ | ⟨ad, c0, rfl, hcs⟩
  · have hn0 : o.l.slots.length = 0 := by rw [hnil]; rfl
    have hr : ∀ W', Sep w F W' → Rdi W' (.slice none 0 0) (o.l.slots.take 0) := fun W' q => .inl ⟨rfl, by simp⟩
    clear hnil
    by_cases q1 : o.l.args ≤ 0
    · go_upto_block 3 with (fail)
      refine tdo_run4 H1 hs hn hn' HKI.out hN hK' ?_ hsl hcap hlen (ka := 0) (by omega) hr
      exact Hid.mk (by intro a w' hh; apply_assumption; exact hh)
    · have q2 : 0 < o.l.args := by omega
      go_upto_block 3 with (fail)
      refine tdo_run4 H1 hs hn hn' HKI.out hN hK' ?_ hsl hcap hlen (ka := 0) (by omega) hr
      exact Hid.mk (by intro a w' hh; apply_assumption; exact hh)
  · have hcc := hcap _ _ _ rfl
    obtain ⟨n0, hn0⟩ : ∃ n0, o.l.slots.length = n0 := ⟨_, rfl⟩
    have hr : ∀ ka, ka ≤ o.l.slots.length → ∀ W', Sep w F W' → Rdi W' (.slice (some ad) ka c0) (o.l.slots.take ka) := fun ka hka W' q => Rdi.take (hsl W' q) hka
    have d2' := d2
    rw [hn0] at d2' hcc
    clear d2
    have HN0 := Hid.mk hn0
    have HR := Hid.mk hr
    have hn100 : n0 ≤ 100 := by omega
    clear hcs hr hn0
    by_cases q1 : o.l.args ≤ 0
    · have h0 : 0 ≤ c0 := by omega
      rcases Nat.eq_zero_or_pos n0 with q3 | q3
      · subst q3
        go_upto_block 3 with (fail)
        refine tdo_run4 H1 hs hn hn' HKI.out hN hK' ?_ hsl hcap hlen (ka := 0) (by have := HN0.out; omega) (HR.out 0 (Nat.zero_le _))
        exact Hid.mk (by intro a w' hh; apply_assumption; exact hh)
      · go_upto_block 3 with (fail)
        refine tdo_run4 H1 hs hn hn' HKI.out hN hK' ?_ hsl hcap hlen (ka := 0) (by have := HN0.out; omega) (HR.out 0 (Nat.zero_le _))
        exact Hid.mk (by intro a w' hh; apply_assumption; exact hh)
    · obtain ⟨na, hna⟩ := Int.eq_ofNat_of_zero_le (show 0 ≤ o.l.args by omega)
      have HNA := Hid.mk hna
      have d3' := d3
      rw [hna] at d3' q1
      clear d3 hna
      have q4 : 0 < na := by omega
      have q5 : 0 < (na : Int) := by omega
      by_cases q2 : na < n0
      · have q6 : (na : Int) < (n0 : Int) := by omega
        have q7 : na ≤ c0 := by omega
        go_upto_block 3 with (fail)
        refine tdo_run4 H1 hs hn hn' HKI.out hN hK' ?_ hsl hcap hlen (ka := na) (by have := HN0.out; rw [HNA.out, Int.toNat_natCast]; omega) (HR.out na (by have := HN0.out; omega))
        exact Hid.mk (by intro a w' hh; apply_assumption; exact hh)
      · have q6 : ¬ (na : Int) < (n0 : Int) := by omega
        go_upto_block 3 with (fail)
        refine tdo_run4 H1 hs hn hn' HKI.out hN hK' ?_ hsl hcap hlen (ka := n0) (by have := HN0.out; rw [HNA.out, Int.toNat_natCast]; omega) (HR.out n0 (by have := HN0.out; omega))
        exact Hid.mk (by intro a w' hh; apply_assumption; exact hh)
set_option maxRecDepth 100000 in
set_option maxHeartbeats 4000000 in
theorem tdo_swo {n' : Nat} {N' : Nt} {K : Act → World → Prop} {lm B10 : Nat} {v1 v2 kv : Int} {u2 u6 u7 u8 u11 u12 u13 u14 u15 u16 u17 u18 u19 u20 u21 u22 u23 u24 u25 u26 u27 u28 u29 u30 u31 u32 u33 u34 u35 u36 u37 u38 u39 u40 u41 u42 u43 u44 u45 u46 u47 u48 u49 u50 u51 u52 u53 u54 u55 u56 u57 u58 u59 u60 u61 u62 u63 u64 u65 u66 u67 u68 u69 u70 u71 u72 u73 u74 u75 u76 u77 u78 u80 u81 u82 u83 u84 u85 u86 u87 u88 u89 u90 u91 u92 u93 u94 u95 u96 u97 u98 u99 u100 u101 u102 u103 u104 u105 u106 u107 u108 u109 u110 u111 u112 u113 u114 u115 u116 u117 u118 u119 u120 u121 u122 u123 u124 u125 u126 u127 u128 u129 u130 u131 u132 u133 u134 u135 u136 u137 u138 u139 u140 u141 u142 u143 u144 u145 u146 u147 u148 u149 u150 u151 u152 u153 u154 u155 u156 u157 u158 u159 u160 u161 u162 u163 u164 u165 u166 u167 u168 u169 u170 u171 u172 u173 u174 u175 u176 u177 u178 u179 u180 u181 u182 u183 u184 u185 u186 u187 u188 u189 u190 u191 u192 u193 u194 u195 u196 u197 u198 u199 u200 u201 u202 u203 u204 u205 u206 u207 u208 u209 u210 u211 u212 u213 u214 u215 u216 u217 u218 u219 u220 u221 u222 u223 u224 u225 u226 u227 u228 u229 u230 u231 u232 u233 u234 u235 u236 u237 u238 u239 u240 u241 u242 u243 u244 u245 u246 u247 u248 u249 u250 u251 u252 u253 u254 u255 u256 u257 u258 u259 u260 u261 u262 u263 u264 u265 u266 u267 u268 u269 u270 u271 u272 u273 u274 u275 u276 u277 u278 u279 u280 u281 u282 u283 u284 u285 u286 u287 u288 u289 u290 u291 u292 u293 u294 u295 u296 u297 u298 u299 u300 u301 u302 u303 u304 u305 u306 u307 u308 u309 u310 u311 u312 u313 u314 u315 u316 u317 u318 u319 u320 u321 u322 u323 u324 u325 u326 u327 u328 u329 u330 u331 u332 u333 u334 u335 u336 u337 u338 : Value} (H0 : Hid (Sep w (twL t b (.slice (some ⟨g, 0, none⟩) (l.length + 1 : Nat) c) pv (x :: l) Q many ++ chP b p k sz ca C (bx B10 (.cells #[.int .i64 v1, .int .i64 v2] 34) :: bx B0 (.cells #[.int .i64 o.kind, .int .i64 o.n, sv, .int .i64 o.l.args, .int .i64 o.l.res, .int .i64 o.l.height, av, .int .i64 o.v.1, .int .i64 o.v.2, .bool last] 36) :: F)) W)) (hs : Sim sz ca n ⟨C, (x :: l).map (·.m), Q, many⟩ Z) (hn' : n ≤ n') (hN : stepN (Tw.N ⟨C, (x :: l).map (·.m), Q, many⟩) o = N') (hK : Hid (∀ (tm : Array Value) (W' : World), tm.size = 339 → TwR w W' t b p k sz ca n' N' F → K ⟨tm, []⟩ W')) (hki : o.kind = kv) (h0 : kv ≠ 0) (h1 : kv ≠ 1) (h2 : kv ≠ 2) (h3 : kv ≠ 3) (h5 : kv ≠ 5) (h6 : kv ≠ 6) (h8 : kv ≠ 8) (h9 : kv ≠ 9) (h11 : kv ≠ 11) :
    Code.wp Try.prog (pieceOf (Try.f8.body.getD .skip) [1, 1, 1, 1, 1, 1, 0, 1]) (Exit.then K (bodyPost Try.prog Try.f8 (fun e w' => TwR w w' t b p k sz ca n' N' F ∧ e = .returned (.bool true)))) ⟨#[.pointer (some ⟨t, 0, none⟩), (.agg #[.int .i64 o.kind, .int .i64 o.n, sv, .int .i64 o.l.args, .int .i64 o.l.res, .int .i64 o.l.height, av, .int .i64 o.v.1, .int .i64 o.v.2, .bool last]), u2, .pointer (some ⟨B0, 0, none⟩), .bool false, .int .i64 ((lm : Int) + 1), u6, u7, u8, .pointer (some ⟨g, lm * 7, none⟩), .pointer (some ⟨B10, 0, none⟩), u11, u12, u13, u14, u15, u16, u17, u18, u19, u20, u21, u22, u23, u24, u25, u26, u27, u28, u29, u30, u31, u32, u33, u34, u35, u36, u37, u38, u39, u40, u41, u42, u43, u44, u45, u46, u47, u48, u49, u50, u51, u52, u53, u54, u55, u56, u57, u58, u59, u60, u61, u62, u63, u64, u65, u66, u67, u68, u69, u70, u71, u72, u73, u74, u75, u76, u77, u78, .int .i64 kv, u80, u81, u82, u83, u84, u85, u86, u87, u88, u89, u90, u91, u92, u93, u94, u95, u96, u97, u98, u99, u100, u101, u102, u103, u104, u105, u106, u107, u108, u109, u110, u111, u112, u113, u114, u115, u116, u117, u118, u119, u120, u121, u122, u123, u124, u125, u126, u127, u128, u129, u130, u131, u132, u133, u134, u135, u136, u137, u138, u139, u140, u141, u142, u143, u144, u145, u146, u147, u148, u149, u150, u151, u152, u153, u154, u155, u156, u157, u158, u159, u160, u161, u162, u163, u164, u165, u166, u167, u168, u169, u170, u171, u172, u173, u174, u175, u176, u177, u178, u179, u180, u181, u182, u183, u184, u185, u186, u187, u188, u189, u190, u191, u192, u193, u194, u195, u196, u197, u198, u199, u200, u201, u202, u203, u204, u205, u206, u207, u208, u209, u210, u211, u212, u213, u214, u215, u216, u217, u218, u219, u220, u221, u222, u223, u224, u225, u226, u227, u228, u229, u230, u231, u232, u233, u234, u235, u236, u237, u238, u239, u240, u241, u242, u243, u244, u245, u246, u247, u248, u249, u250, u251, u252, u253, u254, u255, u256, u257, u258, u259, u260, u261, u262, u263, u264, u265, u266, u267, u268, u269, u270, u271, u272, u273, u274, u275, u276, u277, u278, u279, u280, u281, u282, u283, u284, u285, u286, u287, u288, u289, u290, u291, u292, u293, u294, u295, u296, u297, u298, u299, u300, u301, u302, u303, u304, u305, u306, u307, u308, u309, u310, u311, u312, u313, u314, u315, u316, u317, u318, u319, u320, u321, u322, u323, u324, u325, u326, u327, u328, u329, u330, u331, u332, u333, u334, u335, u336, u337, u338], []⟩ W := by
  conv => arg 2; whnf
  have HNN : Hid (N' = (Tw.N ⟨C, (x :: l).map (·.m), Q, many⟩)) := by
    rw [← hN]
    unfold Hid stepN Tw.N
    simp only [List.map_cons]
    rw [if_neg (by omega), if_neg (by omega), if_neg (by omega), if_neg (by omega), if_neg (by omega), if_neg (by omega), if_neg (by omega), if_neg (by omega), if_neg (by omega)]
  have HSIM := Hid.mk hs
  have z0 : (kv == 0) = false := by simpa using h0
  have z1 : (kv == 1) = false := by simpa using h1
  have z2 : (kv == 2) = false := by simpa using h2
  have z3 : (kv == 3) = false := by simpa using h3
  have z5 : (kv == 5) = false := by simpa using h5
  have z6 : (kv == 6) = false := by simpa using h6
  have z8 : (kv == 8) = false := by simpa using h8
  have z9 : (kv == 9) = false := by simpa using h9
  have z11 : (kv == 11) = false := by simpa using h11
  clear hs hN hki h0 h1 h2 h3 h5 h6 h8 h9 h11
  go_wp2_with fail
  exact hK.out _ _ rfl ⟨_, _, ⟨_, _, _, rfl, tw_lose (tw_lose H0.out)⟩, HSIM.out.mono hn', HNN.out.symm⟩
set_option maxRecDepth 100000 in
set_option maxHeartbeats 4000000 in
theorem tdo_switch {n' : Nat} {N' : Nt} {K : Act → World → Prop} {lm B10 : Nat} {v1 v2 kv : Int} {u2 u6 u7 u8 u11 u12 u13 u14 u15 u16 u17 u18 u19 u20 u21 u22 u23 u24 u25 u26 u27 u28 u29 u30 u31 u32 u33 u34 u35 u36 u37 u38 u39 u40 u41 u42 u43 u44 u45 u46 u47 u48 u49 u50 u51 u52 u53 u54 u55 u56 u57 u58 u59 u60 u61 u62 u63 u64 u65 u66 u67 u68 u69 u70 u71 u72 u73 u74 u75 u76 u77 u78 u80 u81 u82 u83 u84 u85 u86 u87 u88 u89 u90 u91 u92 u93 u94 u95 u96 u97 u98 u99 u100 u101 u102 u103 u104 u105 u106 u107 u108 u109 u110 u111 u112 u113 u114 u115 u116 u117 u118 u119 u120 u121 u122 u123 u124 u125 u126 u127 u128 u129 u130 u131 u132 u133 u134 u135 u136 u137 u138 u139 u140 u141 u142 u143 u144 u145 u146 u147 u148 u149 u150 u151 u152 u153 u154 u155 u156 u157 u158 u159 u160 u161 u162 u163 u164 u165 u166 u167 u168 u169 u170 u171 u172 u173 u174 u175 u176 u177 u178 u179 u180 u181 u182 u183 u184 u185 u186 u187 u188 u189 u190 u191 u192 u193 u194 u195 u196 u197 u198 u199 u200 u201 u202 u203 u204 u205 u206 u207 u208 u209 u210 u211 u212 u213 u214 u215 u216 u217 u218 u219 u220 u221 u222 u223 u224 u225 u226 u227 u228 u229 u230 u231 u232 u233 u234 u235 u236 u237 u238 u239 u240 u241 u242 u243 u244 u245 u246 u247 u248 u249 u250 u251 u252 u253 u254 u255 u256 u257 u258 u259 u260 u261 u262 u263 u264 u265 u266 u267 u268 u269 u270 u271 u272 u273 u274 u275 u276 u277 u278 u279 u280 u281 u282 u283 u284 u285 u286 u287 u288 u289 u290 u291 u292 u293 u294 u295 u296 u297 u298 u299 u300 u301 u302 u303 u304 u305 u306 u307 u308 u309 u310 u311 u312 u313 u314 u315 u316 u317 u318 u319 u320 u321 u322 u323 u324 u325 u326 u327 u328 u329 u330 u331 u332 u333 u334 u335 u336 u337 u338 : Value} (H0 : Hid (Sep w (twL t b (.slice (some ⟨g, 0, none⟩) (l.length + 1 : Nat) c) pv (x :: l) Q many ++ chP b p k sz ca C (bx B10 (.cells #[.int .i64 v1, .int .i64 v2] 34) :: bx B0 (.cells #[.int .i64 o.kind, .int .i64 o.n, sv, .int .i64 o.l.args, .int .i64 o.l.res, .int .i64 o.l.height, av, .int .i64 o.v.1, .int .i64 o.v.2, .bool last] 36) :: F)) W)) (hs : Sim sz ca n ⟨C, (x :: l).map (·.m), Q, many⟩ Z) (hn : n ≤ 280) (hn' : (if o.kind = 3 ∨ o.kind = 6 then n else n + 1) ≤ n') (hlm : l.length = lm) (hv : o.val = (v1, v2)) (hN : stepN (Tw.N ⟨C, (x :: l).map (·.m), Q, many⟩) o = N') (hK : Hid (∀ (tm : Array Value) (W' : World), tm.size = 339 → TwR w W' t b p k sz ca n' N' F → K ⟨tm, []⟩ W')) (hsl : ∀ W', Sep w F W' → Rdi W' sv o.l.slots) (hcap : SlOk sv) (hlen : o.l.slots.length ≤ 100) (hki : o.kind = kv) :
    Code.wp Try.prog (pieceOf (Try.f8.body.getD .skip) [1, 1, 1, 1, 1, 1, 0, 1]) (Exit.then K (bodyPost Try.prog Try.f8 (fun e w' => TwR w w' t b p k sz ca n' N' F ∧ e = .returned (.bool true)))) ⟨#[.pointer (some ⟨t, 0, none⟩), (.agg #[.int .i64 o.kind, .int .i64 o.n, sv, .int .i64 o.l.args, .int .i64 o.l.res, .int .i64 o.l.height, av, .int .i64 o.v.1, .int .i64 o.v.2, .bool last]), u2, .pointer (some ⟨B0, 0, none⟩), .bool false, .int .i64 ((lm : Int) + 1), u6, u7, u8, .pointer (some ⟨g, lm * 7, none⟩), .pointer (some ⟨B10, 0, none⟩), u11, u12, u13, u14, u15, u16, u17, u18, u19, u20, u21, u22, u23, u24, u25, u26, u27, u28, u29, u30, u31, u32, u33, u34, u35, u36, u37, u38, u39, u40, u41, u42, u43, u44, u45, u46, u47, u48, u49, u50, u51, u52, u53, u54, u55, u56, u57, u58, u59, u60, u61, u62, u63, u64, u65, u66, u67, u68, u69, u70, u71, u72, u73, u74, u75, u76, u77, u78, .int .i64 kv, u80, u81, u82, u83, u84, u85, u86, u87, u88, u89, u90, u91, u92, u93, u94, u95, u96, u97, u98, u99, u100, u101, u102, u103, u104, u105, u106, u107, u108, u109, u110, u111, u112, u113, u114, u115, u116, u117, u118, u119, u120, u121, u122, u123, u124, u125, u126, u127, u128, u129, u130, u131, u132, u133, u134, u135, u136, u137, u138, u139, u140, u141, u142, u143, u144, u145, u146, u147, u148, u149, u150, u151, u152, u153, u154, u155, u156, u157, u158, u159, u160, u161, u162, u163, u164, u165, u166, u167, u168, u169, u170, u171, u172, u173, u174, u175, u176, u177, u178, u179, u180, u181, u182, u183, u184, u185, u186, u187, u188, u189, u190, u191, u192, u193, u194, u195, u196, u197, u198, u199, u200, u201, u202, u203, u204, u205, u206, u207, u208, u209, u210, u211, u212, u213, u214, u215, u216, u217, u218, u219, u220, u221, u222, u223, u224, u225, u226, u227, u228, u229, u230, u231, u232, u233, u234, u235, u236, u237, u238, u239, u240, u241, u242, u243, u244, u245, u246, u247, u248, u249, u250, u251, u252, u253, u254, u255, u256, u257, u258, u259, u260, u261, u262, u263, u264, u265, u266, u267, u268, u269, u270, u271, u272, u273, u274, u275, u276, u277, u278, u279, u280, u281, u282, u283, u284, u285, u286, u287, u288, u289, u290, u291, u292, u293, u294, u295, u296, u297, u298, u299, u300, u301, u302, u303, u304, u305, u306, u307, u308, u309, u310, u311, u312, u313, u314, u315, u316, u317, u318, u319, u320, u321, u322, u323, u324, u325, u326, u327, u328, u329, u330, u331, u332, u333, u334, u335, u336, u337, u338], []⟩ W := by
  by_cases h0 : kv = 0
  · exact tdo_sw0 H0 hs hn (by rw [hki] at hn'; simpa [h0] using hn') hlm hv hN hK hsl hcap hlen h0 hki
  by_cases h1 : kv = 1
  · exact tdo_sw1 H0 hs hn (by rw [hki] at hn'; simpa [h1] using hn') hlm hv hN hK hsl hcap hlen h1 hki
  by_cases h2 : kv = 2
  · exact tdo_sw2 H0 hs hn (by rw [hki] at hn'; simpa [h2] using hn') hlm hv hN hK hsl hcap hlen h2 hki
  by_cases h3 : kv = 3
  · exact tdo_sw3 H0 hs hn (by rw [hki] at hn'; simpa [h3] using hn') hlm hv hN hK hsl hcap hlen h3 hki
  by_cases h5 : kv = 5
  · exact tdo_sw5 H0 hs hn (by rw [hki] at hn'; simpa [h5] using hn') hlm hv hN hK hsl hcap hlen h5 hki
  by_cases h6 : kv = 6
  · exact tdo_sw6 H0 hs hn (by rw [hki] at hn'; simpa [h6] using hn') hlm hv hN hK hsl hcap hlen h6 hki
  by_cases h8 : kv = 8
  · exact tdo_sw8 H0 hs hn (by rw [hki] at hn'; simpa [h8] using hn') hlm hv hN hK hsl hcap hlen h8 hki
  by_cases h9 : kv = 9
  · exact tdo_sw9 H0 hs hn (by rw [hki] at hn'; simpa [h9] using hn') hlm hv hN hK hsl hcap hlen h9 hki
  by_cases h11 : kv = 11
  · exact tdo_sw11 H0 hs hn (by rw [hki] at hn'; simpa [h11] using hn') hlm hv hN hK hsl hcap hlen h11 hki
  exact tdo_swo H0 hs (by split at hn' <;> omega) hN hK hki h0 h1 h2 h3 h5 h6 h8 h9 h11
set_option maxRecDepth 100000 in
set_option maxHeartbeats 4000000 in
theorem tdo_nil {n' : Nat} {N' : Nt} {K : Act → World → Prop} {u2 u6 u7 u8 u9 u10 u11 u12 u13 u14 u15 u16 u17 u18 u19 u20 u21 u22 u23 u24 u25 u26 u27 u28 u29 u30 u31 u32 u33 u34 u35 u36 u37 u38 u39 u40 u41 u42 u43 u44 u45 u46 u47 u48 u49 u50 u51 u52 u53 u54 u55 u56 u57 u58 u59 u60 u61 u62 u63 u64 u65 u66 u67 u68 u69 u70 u71 u72 u73 u74 u75 u76 u77 u78 u79 u80 u81 u82 u83 u84 u85 u86 u87 u88 u89 u90 u91 u92 u93 u94 u95 u96 u97 u98 u99 u100 u101 u102 u103 u104 u105 u106 u107 u108 u109 u110 u111 u112 u113 u114 u115 u116 u117 u118 u119 u120 u121 u122 u123 u124 u125 u126 u127 u128 u129 u130 u131 u132 u133 u134 u135 u136 u137 u138 u139 u140 u141 u142 u143 u144 u145 u146 u147 u148 u149 u150 u151 u152 u153 u154 u155 u156 u157 u158 u159 u160 u161 u162 u163 u164 u165 u166 u167 u168 u169 u170 u171 u172 u173 u174 u175 u176 u177 u178 u179 u180 u181 u182 u183 u184 u185 u186 u187 u188 u189 u190 u191 u192 u193 u194 u195 u196 u197 u198 u199 u200 u201 u202 u203 u204 u205 u206 u207 u208 u209 u210 u211 u212 u213 u214 u215 u216 u217 u218 u219 u220 u221 u222 u223 u224 u225 u226 u227 u228 u229 u230 u231 u232 u233 u234 u235 u236 u237 u238 u239 u240 u241 u242 u243 u244 u245 u246 u247 u248 u249 u250 u251 u252 u253 u254 u255 u256 u257 u258 u259 u260 u261 u262 u263 u264 u265 u266 u267 u268 u269 u270 u271 u272 u273 u274 u275 u276 u277 u278 u279 u280 u281 u282 u283 u284 u285 u286 u287 u288 u289 u290 u291 u292 u293 u294 u295 u296 u297 u298 u299 u300 u301 u302 u303 u304 u305 u306 u307 u308 u309 u310 u311 u312 u313 u314 u315 u316 u317 u318 u319 u320 u321 u322 u323 u324 u325 u326 u327 u328 u329 u330 u331 u332 u333 u334 u335 u336 u337 u338 : Value} (H1 : Hid (Sep w (twL t b lv pv [] Q many ++ chP b p k sz ca C (bx B0 (.cells #[.int .i64 o.kind, .int .i64 o.n, sv, .int .i64 o.l.args, .int .i64 o.l.res, .int .i64 o.l.height, av, .int .i64 o.v.1, .int .i64 o.v.2, .bool last] 36) :: F)) W)) (hs : Sim sz ca n ⟨C, [], Q, many⟩ Z) (hn : n ≤ 280) (hn' : n + 1 ≤ n') (hN : stepN (Tw.N ⟨C, [], Q, many⟩) o = N') (hsl : ∀ W', Sep w F W' → Rdi W' sv o.l.slots) (hcap : SlOk sv) (hlen : o.l.slots.length ≤ 100) :
    Code.wp Try.prog (pieceOf (Try.f8.body.getD .skip) [1, 1, 0, 1, 0]) (Exit.then K (bodyPost Try.prog Try.f8 (fun e w' => TwR w w' t b p k sz ca n' N' F ∧ e = .returned (.bool true)))) ⟨#[.pointer (some ⟨t, 0, none⟩), (.agg #[.int .i64 o.kind, .int .i64 o.n, sv, .int .i64 o.l.args, .int .i64 o.l.res, .int .i64 o.l.height, av, .int .i64 o.v.1, .int .i64 o.v.2, .bool last]), u2, .pointer (some ⟨B0, 0, none⟩), .bool false, .int .i64 0, u6, u7, u8, u9, u10, u11, u12, u13, u14, u15, u16, u17, u18, u19, u20, u21, u22, u23, u24, u25, u26, u27, u28, u29, u30, u31, u32, u33, u34, u35, u36, u37, u38, u39, u40, u41, u42, u43, u44, u45, u46, u47, u48, u49, u50, u51, u52, u53, u54, u55, u56, u57, u58, u59, u60, u61, u62, u63, u64, u65, u66, u67, u68, u69, u70, u71, u72, u73, u74, u75, u76, u77, u78, u79, u80, u81, u82, u83, u84, u85, u86, u87, u88, u89, u90, u91, u92, u93, u94, u95, u96, u97, u98, u99, u100, u101, u102, u103, u104, u105, u106, u107, u108, u109, u110, u111, u112, u113, u114, u115, u116, u117, u118, u119, u120, u121, u122, u123, u124, u125, u126, u127, u128, u129, u130, u131, u132, u133, u134, u135, u136, u137, u138, u139, u140, u141, u142, u143, u144, u145, u146, u147, u148, u149, u150, u151, u152, u153, u154, u155, u156, u157, u158, u159, u160, u161, u162, u163, u164, u165, u166, u167, u168, u169, u170, u171, u172, u173, u174, u175, u176, u177, u178, u179, u180, u181, u182, u183, u184, u185, u186, u187, u188, u189, u190, u191, u192, u193, u194, u195, u196, u197, u198, u199, u200, u201, u202, u203, u204, u205, u206, u207, u208, u209, u210, u211, u212, u213, u214, u215, u216, u217, u218, u219, u220, u221, u222, u223, u224, u225, u226, u227, u228, u229, u230, u231, u232, u233, u234, u235, u236, u237, u238, u239, u240, u241, u242, u243, u244, u245, u246, u247, u248, u249, u250, u251, u252, u253, u254, u255, u256, u257, u258, u259, u260, u261, u262, u263, u264, u265, u266, u267, u268, u269, u270, u271, u272, u273, u274, u275, u276, u277, u278, u279, u280, u281, u282, u283, u284, u285, u286, u287, u288, u289, u290, u291, u292, u293, u294, u295, u296, u297, u298, u299, u300, u301, u302, u303, u304, u305, u306, u307, u308, u309, u310, u311, u312, u313, u314, u315, u316, u317, u318, u319, u320, u321, u322, u323, u324, u325, u326, u327, u328, u329, u330, u331, u332, u333, u334, u335, u336, u337, u338], []⟩ W := by
  conv => arg 2; whnf
  obtain ⟨-, -, d2, d3, -, -, -, -⟩ := ten_cells H1.out (q := B0) (tw_mem (List.Mem.head _))
  rcases (hsl _ (Sep.sub H1.out (by rw [twch_eq]; exact (List.sublist_cons_self _ _).trans (List.sublist_append_right _ _)))).ad with ⟨rfl, hnil⟩ | ⟨ad, c0, rfl, hcs⟩
  · have hn0 : o.l.slots.length = 0 := by rw [hnil]; rfl
    have hr : ∀ W', Sep w F W' → Rdi W' (.slice none 0 0) (o.l.slots.take 0) := fun W' q => .inl ⟨rfl, by simp⟩
    clear hnil
    by_cases q1 : o.l.args ≤ 0
    · go_upto_block 0 with (fail)
      refine tdo_nil4 H1 hs hn hn' hN ?_ hsl hcap hlen (ka := 0) (by omega) hr
      exact Hid.mk (by intro a w' hh; apply_assumption; exact hh)
    · have q2 : 0 < o.l.args := by omega
      go_upto_block 0 with (fail)
      refine tdo_nil4 H1 hs hn hn' hN ?_ hsl hcap hlen (ka := 0) (by omega) hr
      exact Hid.mk (by intro a w' hh; apply_assumption; exact hh)
  · have hcc := hcap _ _ _ rfl
    obtain ⟨n0, hn0⟩ : ∃ n0, o.l.slots.length = n0 := ⟨_, rfl⟩
    have hr : ∀ ka, ka ≤ o.l.slots.length → ∀ W', Sep w F W' → Rdi W' (.slice (some ad) ka c0) (o.l.slots.take ka) := fun ka hka W' q => Rdi.take (hsl W' q) hka
    have d2' := d2
    rw [hn0] at d2' hcc
    clear d2
    have HN0 := Hid.mk hn0
    have HR := Hid.mk hr
    have hn100 : n0 ≤ 100 := by omega
    clear hcs hr hn0
    by_cases q1 : o.l.args ≤ 0
    · have h0 : 0 ≤ c0 := by omega
      rcases Nat.eq_zero_or_pos n0 with q3 | q3
      · subst q3
        go_upto_block 0 with (fail)
        refine tdo_nil4 H1 hs hn hn' hN ?_ hsl hcap hlen (ka := 0) (by have := HN0.out; omega) (HR.out 0 (Nat.zero_le _))
        exact Hid.mk (by intro a w' hh; apply_assumption; exact hh)
      · go_upto_block 0 with (fail)
        refine tdo_nil4 H1 hs hn hn' hN ?_ hsl hcap hlen (ka := 0) (by have := HN0.out; omega) (HR.out 0 (Nat.zero_le _))
        exact Hid.mk (by intro a w' hh; apply_assumption; exact hh)
    · obtain ⟨na, hna⟩ := Int.eq_ofNat_of_zero_le (show 0 ≤ o.l.args by omega)
      have HNA := Hid.mk hna
      have d3' := d3
      rw [hna] at d3' q1
      clear d3 hna
      have q4 : 0 < na := by omega
      have q5 : 0 < (na : Int) := by omega
      by_cases q2 : na < n0
      · have q6 : (na : Int) < (n0 : Int) := by omega
        have q7 : na ≤ c0 := by omega
        go_upto_block 0 with (fail)
        refine tdo_nil4 H1 hs hn hn' hN ?_ hsl hcap hlen (ka := na) (by have := HN0.out; rw [HNA.out, Int.toNat_natCast]; omega) (HR.out na (by have := HN0.out; omega))
        exact Hid.mk (by intro a w' hh; apply_assumption; exact hh)
      · have q6 : ¬ (na : Int) < (n0 : Int) := by omega
        go_upto_block 0 with (fail)
        refine tdo_nil4 H1 hs hn hn' hN ?_ hsl hcap hlen (ka := n0) (by have := HN0.out; rw [HNA.out, Int.toNat_natCast]; omega) (HR.out n0 (by have := HN0.out; omega))
        exact Hid.mk (by intro a w' hh; apply_assumption; exact hh)
end
end Go.Proofs.Ytpfnnmcokbolhaa
