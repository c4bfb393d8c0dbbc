/- Parts Hy Hz, put together. -/
import Derived.Test.YtkooogllajmkeaaMo16
import Derived.Test.YtkooogllajmkeaaMo18
import Derived.LoopN
/- SegmentNames' walk: what is refused. -/
namespace Go.Proofs.Ytkooogllajmkeaa
open Go.RowKit
set_option pp.deepTerms true
attribute [local go_sem ↓] Go.wp_at_zero Go.wp_at_succ
set_option maxRecDepth 100000 in
set_option maxHeartbeats 4000000 in
theorem nmB {w W : World} {p b Bf : Nat} {u0 u3 u4 u5 u6 u7 u8 u9 u10 u11 u12 u13 u14 u15 u16 u17 u18 u19 u20 u21 u23 u25 u26 u27 u28 u29 u30 u31 u32 u33 u34 u35 u36 u37 u38 u39 u40 u41 u42 u43 u44 u45 u46 u47 u48 u49 u50 u51 u52 u53 u54 u55 u56 u57 u58 u59 u60 u61 u62 u63 u64 u65 u66 u67 u68 u69 u70 u71 u72 u73 u74 u75 u76 u77 u78 u79 u80 u81 u82 u83 u84 u85 u86 u87 u88 u89 u90 u91 u92 u93 u94 u95 u96 u97 u98 u99 u100 u101 u102 u103 u104 u105 u106 u107 u108 u109 u110 u111 u112 u113 u114 u115 u116 u117 u118 u119 u120 u121 u122 u123 u124 u125 u126 u127 u128 u129 u130 u131 u132 u133 u134 u135 u136 u137 u138 u139 u140 u141 u142 u143 u144 u145 u146 u147 u148 u149 u150 u151 u152 u153 u154 u155 u156 u157 u158 u159 u160 u161 u162 u163 u164 u165 u166 u167 u168 u169 u170 u171 u172 u173 u174 u175 u176 u177 u178 u179 u180 u181 u182 u183 u184 u185 u186 u187 u188 u189 u190 u191 u192 u193 u194 u195 u196 u197 u198 u199 u200 u201 u202 u203 u204 u205 u206 u207 u208 u209 u210 u211 u212 u213 u214 u215 u216 u217 u218 u219 u220 u221 u222 u223 u224 u225 u226 u227 u228 u229 u230 u231 u232 u233 u234 u235 u236 u237 u238 u239 u240 u241 u242 u243 u244 u245 u246 u247 u248 u249 u250 u251 u252 u253 u254 u255 u256 u257 u258 u259 u260 u261 u262 u263 u264 u265 u266 u267 u268 u269 u270 u271 u272 u273 u274 u275 u276 u277 u278 u279 u280 u281 u282 u283 u284 u285 u286 u287 u288 u289 u290 u291 u292 u293 u294 u295 u296 u297 u298 u299 u300 u301 u302 u303 u304 u305 u306 u307 u308 u309 u310 u311 u312 u313 u314 u315 u316 u317 u318 u319 u320 u321 u322 u323 u324 u325 u326 u327 u328 u329 u330 u331 u332 u333 u334 u335 u336 u337 u338 u339 u340 u341 u342 u343 u344 u345 u346 u347 u348 u349 u350 u351 u352 u353 u354 u355 u356 u357 u358 u359 u360 u361 u362 u363 u364 u365 u366 u367 u368 u369 u370 u371 u372 u373 u374 u375 u376 u377 u378 u379 u380 u381 u382 : Value} (H0 : Hid (Sep w [spA p nm6, lkA b p 256 2 ⟨[(258, 500), (759, 256), (1016, 256)], []⟩, bx Bf (.cells #[.int .i64 1016, .int .i64 256] 39)] W)) :
    Code.wp Try.prog (pieceOf (Try.f9.body.getD .skip) [1, 1, 1, 1, 1, 1, 1, 1, 1, 1, 1, 1, 1, 1, 1, 1, 1, 1, 1]) (bodyPost Try.prog Try.f9 (fun e w' => e = .returned (.bool true) ∧ Below w.heap.size w w')) ⟨#[u0, .pointer (some ⟨p, 0, none⟩), .pointer (some ⟨b, 0, none⟩), u3, u4, u5, u6, u7, u8, u9, u10, u11, u12, u13, u14, u15, u16, u17, u18, u19, u20, u21, .pointer (some ⟨Bf, 0, none⟩), u23, .bool true, u25, u26, u27, u28, u29, u30, u31, u32, u33, u34, u35, u36, u37, u38, u39, u40, u41, u42, u43, u44, u45, u46, u47, u48, u49, u50, u51, u52, u53, u54, u55, u56, u57, u58, u59, u60, u61, u62, u63, u64, u65, u66, u67, u68, u69, u70, u71, u72, u73, u74, u75, u76, u77, u78, u79, u80, u81, u82, u83, u84, u85, u86, u87, u88, u89, u90, u91, u92, u93, u94, u95, u96, u97, u98, u99, u100, u101, u102, u103, u104, u105, u106, u107, u108, u109, u110, u111, u112, u113, u114, u115, u116, u117, u118, u119, u120, u121, u122, u123, u124, u125, u126, u127, u128, u129, u130, u131, u132, u133, u134, u135, u136, u137, u138, u139, u140, u141, u142, u143, u144, u145, u146, u147, u148, u149, u150, u151, u152, u153, u154, u155, u156, u157, u158, u159, u160, u161, u162, u163, u164, u165, u166, u167, u168, u169, u170, u171, u172, u173, u174, u175, u176, u177, u178, u179, u180, u181, u182, u183, u184, u185, u186, u187, u188, u189, u190, u191, u192, u193, u194, u195, u196, u197, u198, u199, u200, u201, u202, u203, u204, u205, u206, u207, u208, u209, u210, u211, u212, u213, u214, u215, u216, u217, u218, u219, u220, u221, u222, u223, u224, u225, u226, u227, u228, u229, u230, u231, u232, u233, u234, u235, u236, u237, u238, u239, u240, u241, u242, u243, u244, u245, u246, u247, u248, u249, u250, u251, u252, u253, u254, u255, u256, u257, u258, u259, u260, u261, u262, u263, u264, u265, u266, u267, u268, u269, u270, u271, u272, u273, u274, u275, u276, u277, u278, u279, u280, u281, u282, u283, u284, u285, u286, u287, u288, u289, u290, u291, u292, u293, u294, u295, u296, u297, u298, u299, u300, u301, u302, u303, u304, u305, u306, u307, u308, u309, u310, u311, u312, u313, u314, u315, u316, u317, u318, u319, u320, u321, u322, u323, u324, u325, u326, u327, u328, u329, u330, u331, u332, u333, u334, u335, u336, u337, u338, u339, u340, u341, u342, u343, u344, u345, u346, u347, u348, u349, u350, u351, u352, u353, u354, u355, u356, u357, u358, u359, u360, u361, u362, u363, u364, u365, u366, u367, u368, u369, u370, u371, u372, u373, u374, u375, u376, u377, u378, u379, u380, u381, u382], []⟩ W := by
  conv => arg 2; whnf
  have HC1 := Hid.mk (push_eq (((H0.out.pick 2 rfl).pick 2 rfl).pick 2 rfl) 0 (npbad _ _ 0 (by omega)) (by decide) (by decide) (by decide))
  go_wp2_with fail
  refine HC1.out.mono ?_
  rintro e w1 ⟨h1, rfl⟩
  have H1 := Hid.mk h1
  clear h1 HC1 H0
  have HA2 := Hid.mk (H1.out.alloc (.cells #[.int .i64 0, .int .i64 0] 39))
  clear H1
  have HC3 := Hid.mk (push_eq ((((HA2.out.pick 3 rfl).pick 1 rfl).pick 3 rfl).pick 3 rfl) 65537 (npbad _ _ 65537 (by omega)) (by decide) (by decide) (by decide))
  go_wp2_with fail
  refine HC3.out.mono ?_
  rintro e w3 ⟨h3, rfl⟩
  have H3 := Hid.mk h3
  clear h3 HC3 HA2
  have HA4 := Hid.mk (H3.out.alloc (.cells #[.int .i64 0, .int .i64 0] 39))
  clear H3
  have HC5 := Hid.mk (snew_nil 256 0 (w3.alloc (.cells #[.int .i64 0, .int .i64 0] 39)))
  go_wp2_with fail
  refine HC5.out.mono ?_
  rintro e w5 ⟨hb5, rfl⟩
  have H5 := Hid.mk (HA4.out.keep hb5)
  clear hb5 HC5 HA4
  have HC6 := Hid.mk (snew_bad (((((H5.out.pick 4 rfl).pick 4 rfl).pick 4 rfl).pick 4 rfl).pick 4 rfl) p 255 0 rfl)
  go_wp2_with fail
  refine HC6.out.mono ?_
  rintro e w6 ⟨h6, rfl⟩
  have H6 := Hid.mk h6
  clear h6 HC6 H5
  have HC7 := Hid.mk (snew_sep (((((H6.out.pick 4 rfl).pick 4 rfl).pick 4 rfl).pick 4 rfl).pick 4 rfl) p 256 0 rfl)
  go_wp2_with fail
  refine HC7.out.mono ?_
  rintro e w7 ⟨be, h7, rfl⟩
  have H7 := Hid.mk h7
  clear h7 HC7 H6
  have HC8 := Hid.mk (pop_eq ((((((H7.out.pick 5 rfl).pick 5 rfl).pick 5 rfl).pick 4 rfl).pick 4 rfl).pick 5 rfl) (S' := nm6) (L' := ⟨[], []⟩) (er := 240) rfl (by decide) (by decide))
  go_wp2_with fail
  refine HC8.out.mono ?_
  rintro e w8 ⟨h8, rfl⟩
  have H8 := Hid.mk h8
  clear h8 HC8 H7
  have HC9 := Hid.mk (top_eq ((((((H8.out.pick 5 rfl).pick 5 rfl).pick 5 rfl).pick 5 rfl).pick 5 rfl).pick 5 rfl) (y1 := 0) (y2 := 0) (t := false) rfl (by decide))
  go_wp2_with fail
  refine HC9.out.mono ?_
  rintro e w9 ⟨h9, rfl⟩
  have H9 := Hid.mk h9
  clear h9 HC9 H8
  have HA10 := Hid.mk (H9.out.alloc (.cells #[.int .i64 0, .int .i64 0] 39))
  clear H9
  have h11 := HA10.out.space
  obtain ⟨pf, hpf⟩ : ∃ pf, (w9.alloc (.cells #[.int .i64 0, .int .i64 0] 39)).heap.size = pf := ⟨_, rfl⟩
  obtain ⟨X1, hX1⟩ : ∃ X1, (w9.alloc (.cells #[.int .i64 0, .int .i64 0] 39)).alloc (.cells #[.slice none 0 0, .int .i64 0] 27) = X1 := ⟨_, rfl⟩
  have HXB := Hid.mk (And.intro hX1 (show w9.heap.size + 1 = pf by have := hpf; simpa using this))
  rw [hX1, hpf] at h11
  have HL : Hid (∃ S, Sep w [spA pf S, spA p nm6, lkA b p 256 2 ⟨[(258, 500), (759, 256), (1016, 256)], []⟩, bx Bf (.cells #[.int .i64 1016, .int .i64 256] 39)] X1 ∧ total S.regs = 0 * 1048576 ∧ S.last ≤ 1048578 * (0 : Nat)) := ⟨_, ((((((((h11.lose 6).lose 4).lose 3).lose 1).pick 3 rfl).pick 3 rfl).pick 3 rfl).pick 3 rfl), rfl, by decide⟩
  clear hX1 hpf h11 HA10
  go_upto_block 0 with (fail)
  rw [HXB.out.1, HXB.out.2]
  go_cut [] (fun W' => Hid (∃ S, Sep w [spA pf S, spA p nm6, lkA b p 256 2 ⟨[(258, 500), (759, 256), (1016, 256)], []⟩, bx Bf (.cells #[.int .i64 1016, .int .i64 256] 39)] W' ∧ total S.regs = 4 * 1048576 ∧ S.last ≤ 1048578 * (4 : Nat)))
  case first =>
    go_wp2_with fail
    go_loopw [39] (fun i wr => ∃ j : Nat, i = .int .i64 j ∧ j ≤ 4 ∧ Hid (∃ S, Sep w [spA pf S, spA p nm6, lkA b p 256 2 ⟨[(258, 500), (759, 256), (1016, 256)], []⟩, bx Bf (.cells #[.int .i64 1016, .int .i64 256] 39)] wr ∧ total S.regs = j * 1048576 ∧ S.last ≤ 1048578 * (j : Nat))) (fun i _ => 4 - (intOf i).toNat)
    case atStart => exact ⟨0, rfl, by omega, HL⟩
    case round =>
      clear HL
      obtain ⟨j, rfl, hj, HS⟩ := hrel
      by_cases hlt : j < 4
      · obtain ⟨S, h1, h2, h3⟩ := HS.out
        have hf := take_full hlt h2
        have HC := Hid.mk (take_sep2 h1 1048576 (by omega))
        have HF := Hid.mk (And.intro hf.1 (show (S.take 1048576).2.last ≤ 1048578 * ((j + 1 : Nat) : Int) by have := hf.2; omega))
        clear h1 h2 h3 hf HS
        go_wp2_with fail
        refine HC.out.mono ?_
        rintro e w9 ⟨y, er, h, rfl⟩
        have HN : Hid (∃ S, Sep w [spA pf S, spA p nm6, lkA b p 256 2 ⟨[(258, 500), (759, 256), (1016, 256)], []⟩, bx Bf (.cells #[.int .i64 1016, .int .i64 256] 39)] w9 ∧ total S.regs = (j + 1) * 1048576 ∧ S.last ≤ 1048578 * ((j + 1) : Nat)) := ⟨_, h, HF.out.1, HF.out.2⟩
        clear h HF HC
        go_wp2_with fail
        exact ⟨⟨j + 1, by go_num, by omega, HN⟩, by simp [intOf]; omega⟩
      · obtain rfl : j = 4 := by omega
        go_wp2_with fail
        go_meet
        case rel => exact HS
  case rest =>
    obtain ⟨S, h0, ht, hl⟩ := hcut.out
    have H0 := Hid.mk h0
    have HT := Hid.mk ht
    have hl2 : S.last ≤ 1152921504606846976 := by omega
    clear hcut h0 ht hl HL
    have HC12 := Hid.mk (snew_sep ((((H0.out.pick 3 rfl).pick 3 rfl).pick 3 rfl).pick 3 rfl) pf 256 0 rfl)
    go_wp2_with fail
    refine HC12.out.mono ?_
    rintro e w12 ⟨bs, h12, rfl⟩
    have H12 := Hid.mk h12
    clear h12 HC12 H0
    have HC13 := Hid.mk (push_eq (((((H12.out.pick 4 rfl).pick 4 rfl).pick 4 rfl).pick 3 rfl).pick 4 rfl) 1 (full_no HT.out) (by decide) (by decide) hl2)
    go_wp2_with fail
    refine HC13.out.mono ?_
    rintro e w13 ⟨h13, rfl⟩
    have H13 := Hid.mk h13
    clear h13 HC13 H12
    have HA14 := Hid.mk (H13.out.alloc (.cells #[.int .i64 0, .int .i64 0] 39))
    clear H13
    go_upto_region 34 with (fail)
    go_cut [44] (fun v W' => Hid (v = .bool true ∧ Sep w [spA p nm6, lkA b p 256 2 ⟨[(258, 500), (759, 256), (1016, 256)], []⟩, bx Bf (.cells #[.int .i64 1016, .int .i64 256] 39)] W'))
    case first =>
      have HC15 := Hid.mk (live_sep ((((((HA14.out.pick 5 rfl).pick 5 rfl).pick 5 rfl).pick 3 rfl).pick 5 rfl).pick 5 rfl) (by decide))
      go_wp2_with fail
      refine HC15.out.mono ?_
      rintro e w15 ⟨ao, c, rfl, h15, -⟩
      have HF : Hid (Sep w [spA p nm6, lkA b p 256 2 ⟨[(258, 500), (759, 256), (1016, 256)], []⟩, bx Bf (.cells #[.int .i64 1016, .int .i64 256] 39)] _) := ((((((h15.tl.lose 2).lose 1).lose 0).pick 2 rfl).pick 2 rfl).pick 2 rfl)
      clear h15 HC15 HA14
      go_wp2_with fail
      go_meet
      case rel => exact ⟨rfl, HF.out⟩
    case rest =>
      obtain ⟨rfl, h⟩ := hcut.out
      apply_assumption
      exact nmC h
end Go.Proofs.Ytkooogllajmkeaa
/- SegmentNames' walk: its head; the whole. -/
namespace Go.Proofs.Ytkooogllajmkeaa
open Go.RowKit
set_option pp.deepTerms true
attribute [local go_sem ↓] Go.wp_at_zero Go.wp_at_succ
theorem Rd.lit2 {w : World} {b T c : Nat} {cs : Array Value} {xs : List (Int × Int)} (h : w.heap[b]? = Option.some (Obj.cells cs T (0, 0))) (hc : cs.toList = wcells xs) : Rd w (Value.slice (Option.some ⟨b, 0, none⟩) xs.length c) xs := by
  refine .inr ⟨b, 0, c, rfl, lt_of_heap h, fun k hk => ?_⟩
  rw [Nat.zero_add, cell_of_row w b _ _ _ _ h, cell_of_row w b _ _ _ _ h, ← Array.getElem?_toList, ← Array.getElem?_toList, hc]
  exact ⟨wcells_fst hk, wcells_snd hk⟩
set_option maxRecDepth 100000 in
set_option maxHeartbeats 4000000 in
theorem names24_any (w : World) : Calls Try.prog 9 #[] w fun e w' => e = .returned (.bool true) ∧ Below w.heap.size w w' := by
  have HZ := Hid.mk ((Sep.nil (w := w) (Below.refl _ w)).space)
  obtain ⟨p, hp⟩ : ∃ p, w.heap.size = p := ⟨_, rfl⟩
  obtain ⟨X0, hX0⟩ : ∃ X0, w.alloc (.cells #[.slice none 0 0, .int .i64 0] 27) = X0 := ⟨_, rfl⟩
  have HXB := Hid.mk (And.intro hX0 hp)
  rw [hX0] at HZ
  rw [hp] at HZ
  have H0 : Hid (Sep w [spA p ⟨[], 0⟩] X0) := HZ
  clear hX0 hp HZ
  go_enter Try.func9, Try.ntmps9
  go_upto_region 2 with (fail)
  rw [HXB.out.1, HXB.out.2]
  have HC1 := Hid.mk (snew_sep (H0.out.pick 0 rfl) p 256 2 rfl)
  go_wp2_with fail
  refine HC1.out.mono ?_
  rintro e w1 ⟨b, h1, rfl⟩
  have H1 := Hid.mk h1
  clear h1 HC1 H0
  have HC2 := Hid.mk (push_eq ((H1.out.pick 0 rfl).pick 1 rfl) _ np1 (by decide) (by decide) (by decide))
  go_wp2_with fail
  refine HC2.out.mono ?_
  rintro e w2 ⟨h2, rfl⟩
  have H2 := Hid.mk h2
  clear h2 HC2 H1
  have HA3 := Hid.mk (H2.out.alloc (.cells #[.int .i64 1, .int .i64 256] 39))
  clear H2
  have HC4 := Hid.mk (push_eq (((HA3.out.pick 0 rfl).pick 2 rfl).pick 2 rfl) _ np2 (by decide) (by decide) (by decide))
  go_wp2_with fail
  refine HC4.out.mono ?_
  rintro e w4 ⟨h4, rfl⟩
  have H4 := Hid.mk h4
  clear h4 HC4 HA3
  have HA5 := Hid.mk (H4.out.alloc (.cells #[.int .i64 258, .int .i64 500] 39))
  clear H4
  have HC6 := Hid.mk (push_eq ((((HA5.out.pick 3 rfl).pick 1 rfl).pick 3 rfl).pick 3 rfl) _ np3 (by decide) (by decide) (by decide))
  go_wp2_with fail
  refine HC6.out.mono ?_
  rintro e w6 ⟨h6, rfl⟩
  have H6 := Hid.mk h6
  clear h6 HC6 HA5
  have HA7 := Hid.mk (H6.out.alloc (.cells #[.int .i64 759, .int .i64 256] 39))
  clear H6
  have c0 := HA7.out.cell (b := w4.heap.size) (j := 0) (List.Mem.tail _ (List.Mem.tail _ (List.Mem.tail _ (List.Mem.head _)))) rfl
  have HC8 := Hid.mk (put_eq (((((HA7.out.pick 4 rfl).pick 4 rfl).pick 4 rfl).pick 3 rfl).pick 4 rfl) _ _ _ nput)
  go_wp2_with fail
  refine HC8.out.mono ?_
  rintro e w8 ⟨h8, rfl⟩
  have H8 := Hid.mk h8
  clear h8 HC8 HA7
  clear c0
  have HC9 := Hid.mk (pop_eq (((((H8.out.pick 4 rfl).pick 4 rfl).pick 3 rfl).pick 4 rfl).pick 4 rfl) npop1 (by decide) (by decide))
  go_wp2_with fail
  refine HC9.out.mono ?_
  rintro e w9 ⟨h9, rfl⟩
  have H9 := Hid.mk h9
  clear h9 HC9 H8
  have HC10 := Hid.mk (pop_eq (((((H9.out.pick 4 rfl).pick 4 rfl).pick 4 rfl).pick 4 rfl).pick 4 rfl) npop2 (by decide) (by decide))
  go_wp2_with fail
  refine HC10.out.mono ?_
  rintro e w10 ⟨h10, rfl⟩
  have H10 := Hid.mk h10
  clear h10 HC10 H9
  have HC11 := Hid.mk (pop_eq (((((H10.out.pick 4 rfl).pick 4 rfl).pick 4 rfl).pick 4 rfl).pick 4 rfl) npop3 (by decide) (by decide))
  go_wp2_with fail
  refine HC11.out.mono ?_
  rintro e w11 ⟨h11, rfl⟩
  have H11 := Hid.mk h11
  clear h11 HC11 H10
  have c0 := H11.out.cell (b := w4.heap.size) (j := 0) (List.Mem.tail _ (List.Mem.tail _ (List.Mem.tail _ (List.Mem.head _)))) rfl
  have HC12 := Hid.mk (get_eq (((((H11.out.pick 4 rfl).pick 4 rfl).pick 4 rfl).pick 4 rfl).pick 4 rfl) _ ng1)
  go_wp2_with fail
  refine HC12.out.mono ?_
  rintro e w12 ⟨h12, rfl⟩
  have H12 := Hid.mk h12
  clear h12 HC12 H11
  clear c0
  have HA13 := Hid.mk (H12.out.alloc (.cells #[.int .i64 0, .int .i64 0] 29))
  clear H12
  have c0 := HA13.out.cell (b := w2.heap.size) (j := 0) (List.Mem.tail _ (List.Mem.tail _ (List.Mem.tail _ (List.Mem.tail _ (List.Mem.tail _ (List.Mem.head _)))))) rfl
  have HC14 := Hid.mk (get_eq ((((((HA13.out.pick 5 rfl).pick 5 rfl).pick 5 rfl).pick 5 rfl).pick 4 rfl).pick 5 rfl) _ ng2)
  go_wp2_with fail
  refine HC14.out.mono ?_
  rintro e w14 ⟨h14, rfl⟩
  have H14 := Hid.mk h14
  clear h14 HC14 HA13
  clear c0
  have HA15 := Hid.mk (H14.out.alloc (.cells #[.int .i64 0, .int .i64 0] 29))
  clear H14
  have HC16 := Hid.mk (kept_sep (((((((HA15.out.pick 6 rfl).pick 6 rfl).pick 6 rfl).pick 5 rfl).pick 4 rfl).pick 6 rfl).pick 6 rfl) (by decide))
  go_wp2_with fail
  refine HC16.out.mono ?_
  rintro e w16 ⟨ao, c, he, h16, -⟩
  obtain rfl : e = .returned (.slice ao 2 c) := he
  have H16 : Hid (Sep w [rw_ 0 39 2 (.slice ao 2 c) 2 (wcells [(759, 256), (258, 500)]), spA p nm5, lkA b p 256 2 ⟨[], [(759, 256), (258, 500)]⟩, bx w14.heap.size (.cells #[.int .i64 0, .int .i64 0] 29), bx w12.heap.size (.cells #[.int .i64 0, .int .i64 0] 29), bx w6.heap.size (.cells #[.int .i64 759, .int .i64 256] 39), bx w4.heap.size (.cells #[.int .i64 258, .int .i64 500] 39), bx w2.heap.size (.cells #[.int .i64 1, .int .i64 256] 39)] w16) := Hid.mk h16
  clear h16 HC16 HA15
  have HC17 := Hid.mk (words24_sep ((((((((H16.out.pick 7 rfl).pick 7 rfl).pick 7 rfl).pick 7 rfl).pick 7 rfl).pick 5 rfl).pick 7 rfl).pick 7 rfl) ⟨by decide, by decide⟩ ⟨by decide, by decide⟩)
  go_wp2_with fail
  refine HC17.out.mono ?_
  rintro e w17 ⟨h17, he⟩
  obtain rfl : e = .returned (.tuple #[.int .i64 0, .int .i64 756]) := he
  have H17 : Hid (Sep w [spA p nm5, lkA b p 256 2 ⟨[], [(759, 256), (258, 500)]⟩, rw_ 0 39 2 (.slice ao 2 c) 2 (wcells [(759, 256), (258, 500)]), bx w14.heap.size (.cells #[.int .i64 0, .int .i64 0] 29), bx w12.heap.size (.cells #[.int .i64 0, .int .i64 0] 29), bx w6.heap.size (.cells #[.int .i64 759, .int .i64 256] 39), bx w4.heap.size (.cells #[.int .i64 258, .int .i64 500] 39), bx w2.heap.size (.cells #[.int .i64 1, .int .i64 256] 39)] w17) := Hid.mk h17
  clear h17 HC17 H16
  have HC18 := Hid.mk (push_eq ((((((((H17.out.pick 7 rfl).pick 7 rfl).pick 7 rfl).pick 7 rfl).pick 7 rfl).pick 7 rfl).pick 7 rfl).pick 7 rfl) _ np4 (by decide) (by decide) (by decide))
  go_wp2_with fail
  refine HC18.out.mono ?_
  rintro e w18 ⟨h18, rfl⟩
  have H18 := Hid.mk h18
  clear h18 HC18 H17
  have HA19 := Hid.mk (H18.out.alloc (.cells #[.int .i64 258, .int .i64 500] 39))
  clear H18
  have HC20 := Hid.mk (push_eq (((((((((HA19.out.pick 8 rfl).pick 8 rfl).pick 8 rfl).pick 8 rfl).pick 8 rfl).pick 8 rfl).pick 6 rfl).pick 8 rfl).pick 8 rfl) _ np5 (by decide) (by decide) (by decide))
  go_wp2_with fail
  refine HC20.out.mono ?_
  rintro e w20 ⟨h20, rfl⟩
  have H20 := Hid.mk h20
  clear h20 HC20 HA19
  have HA21 := Hid.mk (H20.out.alloc (.cells #[.int .i64 759, .int .i64 256] 39))
  clear H20
  have HC22 := Hid.mk (push_eq ((((((((((HA21.out.pick 9 rfl).pick 9 rfl).pick 9 rfl).pick 9 rfl).pick 9 rfl).pick 9 rfl).pick 9 rfl).pick 7 rfl).pick 9 rfl).pick 9 rfl) _ np6 (by decide) (by decide) (by decide))
  go_wp2_with fail
  refine HC22.out.mono ?_
  rintro e w22 ⟨h22, rfl⟩
  have H22 := Hid.mk h22
  clear h22 HC22 HA21
  have HA23 := Hid.mk (H22.out.alloc (.cells #[.int .i64 1016, .int .i64 256] 39))
  clear H22
  go_upto_region 19 with (fail)
  go_cut [24] (fun v W' => Hid (v = .bool true ∧ Sep w [spA p nm6, lkA b p 256 2 ⟨[(258, 500), (759, 256), (1016, 256)], []⟩, bx w22.heap.size (.cells #[.int .i64 1016, .int .i64 256] 39)] W'))
  case first =>
    have HB := Hid.mk (HA23.out.alloc (.cells #[.int .i64 759, .int .i64 256, .int .i64 258, .int .i64 500] 39))
    have HLIT : Hid (Rd ((w22.alloc (.cells #[.int .i64 1016, .int .i64 256] 39)).alloc (.cells #[.int .i64 759, .int .i64 256, .int .i64 258, .int .i64 500] 39)) (.slice (some ⟨w22.heap.size + 1, 0, none⟩) 2 2) [(759, 256), (258, 500)]) := by
      have := Rd.lit2 (xs := [(759, 256), (258, 500)]) (c := 2) (heap_alloc_new (w22.alloc (.cells #[.int .i64 1016, .int .i64 256] 39)) (.cells #[.int .i64 759, .int .i64 256, .int .i64 258, .int .i64 500] 39)) rfl
      rw [World.size_alloc] at this
      exact Hid.mk this
    have HROW : Hid (Rd ((w22.alloc (.cells #[.int .i64 1016, .int .i64 256] 39)).alloc (.cells #[.int .i64 759, .int .i64 256, .int .i64 258, .int .i64 500] 39)) (.slice ao 2 c) [(759, 256), (258, 500)]) := Hid.mk (Rd.of_row (HB.out.owns (List.Mem.tail _ (List.Mem.tail _ (List.Mem.tail _ (List.Mem.tail _ (List.Mem.tail _ (List.Mem.tail _ (List.Mem.head _)))))))) rfl)
    have k0 := HA23.out.cell (b := w4.heap.size) (j := 0) (List.Mem.tail _ (List.Mem.tail _ (List.Mem.tail _ (List.Mem.tail _ (List.Mem.tail _ (List.Mem.tail _ (List.Mem.tail _ (List.Mem.tail _ (List.Mem.tail _ (List.Mem.head _)))))))))) rfl
    have k1 := HA23.out.cell (b := w4.heap.size) (j := 1) (List.Mem.tail _ (List.Mem.tail _ (List.Mem.tail _ (List.Mem.tail _ (List.Mem.tail _ (List.Mem.tail _ (List.Mem.tail _ (List.Mem.tail _ (List.Mem.tail _ (List.Mem.head _)))))))))) rfl
    have k2 := HA23.out.cell (b := w6.heap.size) (j := 0) (List.Mem.tail _ (List.Mem.tail _ (List.Mem.tail _ (List.Mem.tail _ (List.Mem.tail _ (List.Mem.tail _ (List.Mem.tail _ (List.Mem.tail _ (List.Mem.head _))))))))) rfl
    have k3 := HA23.out.cell (b := w6.heap.size) (j := 1) (List.Mem.tail _ (List.Mem.tail _ (List.Mem.tail _ (List.Mem.tail _ (List.Mem.tail _ (List.Mem.tail _ (List.Mem.tail _ (List.Mem.tail _ (List.Mem.head _))))))))) rfl
    have k4 := HA23.out.cell (b := w18.heap.size) (j := 0) (List.Mem.tail _ (List.Mem.tail _ (List.Mem.tail _ (List.Mem.tail _ (List.Mem.head _))))) rfl
    have k5 := HA23.out.cell (b := w18.heap.size) (j := 1) (List.Mem.tail _ (List.Mem.tail _ (List.Mem.tail _ (List.Mem.tail _ (List.Mem.head _))))) rfl
    have k6 := HA23.out.cell (b := w20.heap.size) (j := 0) (List.Mem.tail _ (List.Mem.tail _ (List.Mem.tail _ (List.Mem.head _)))) rfl
    have k7 := HA23.out.cell (b := w20.heap.size) (j := 1) (List.Mem.tail _ (List.Mem.tail _ (List.Mem.tail _ (List.Mem.head _)))) rfl
    have k8 := HA23.out.cell (b := w22.heap.size) (j := 0) (List.Mem.head _) rfl
    have k9 := HA23.out.cell (b := w22.heap.size) (j := 1) (List.Mem.head _) rfl
    go_wp2_with fail
    clear k0 k1 k2 k3 k4 k5 k6 k7 k8 k9
    refine (same_Same21 (xs := [(759, 256), (258, 500)]) (ys := [(759, 256), (258, 500)]) HROW.out HLIT.out (by decide)).mono ?_
    rintro e wx ⟨hx, rfl⟩
    have HX := Hid.mk (HB.out.keep hx)
    clear hx HB HA23
    have f0 := HX.out.cell (b := w4.heap.size) (j := 0) (List.Mem.tail _ (List.Mem.tail _ (List.Mem.tail _ (List.Mem.tail _ (List.Mem.tail _ (List.Mem.tail _ (List.Mem.tail _ (List.Mem.tail _ (List.Mem.tail _ (List.Mem.tail _ (List.Mem.head _))))))))))) rfl
    have f1 := HX.out.cell (b := w4.heap.size) (j := 1) (List.Mem.tail _ (List.Mem.tail _ (List.Mem.tail _ (List.Mem.tail _ (List.Mem.tail _ (List.Mem.tail _ (List.Mem.tail _ (List.Mem.tail _ (List.Mem.tail _ (List.Mem.tail _ (List.Mem.head _))))))))))) rfl
    have f2 := HX.out.cell (b := w6.heap.size) (j := 0) (List.Mem.tail _ (List.Mem.tail _ (List.Mem.tail _ (List.Mem.tail _ (List.Mem.tail _ (List.Mem.tail _ (List.Mem.tail _ (List.Mem.tail _ (List.Mem.tail _ (List.Mem.head _)))))))))) rfl
    have f3 := HX.out.cell (b := w6.heap.size) (j := 1) (List.Mem.tail _ (List.Mem.tail _ (List.Mem.tail _ (List.Mem.tail _ (List.Mem.tail _ (List.Mem.tail _ (List.Mem.tail _ (List.Mem.tail _ (List.Mem.tail _ (List.Mem.head _)))))))))) rfl
    have f4 := HX.out.cell (b := w18.heap.size) (j := 0) (List.Mem.tail _ (List.Mem.tail _ (List.Mem.tail _ (List.Mem.tail _ (List.Mem.tail _ (List.Mem.head _)))))) rfl
    have f5 := HX.out.cell (b := w18.heap.size) (j := 1) (List.Mem.tail _ (List.Mem.tail _ (List.Mem.tail _ (List.Mem.tail _ (List.Mem.tail _ (List.Mem.head _)))))) rfl
    have f6 := HX.out.cell (b := w20.heap.size) (j := 0) (List.Mem.tail _ (List.Mem.tail _ (List.Mem.tail _ (List.Mem.tail _ (List.Mem.head _))))) rfl
    have f7 := HX.out.cell (b := w20.heap.size) (j := 1) (List.Mem.tail _ (List.Mem.tail _ (List.Mem.tail _ (List.Mem.tail _ (List.Mem.head _))))) rfl
    have f8 := HX.out.cell (b := w22.heap.size) (j := 0) (List.Mem.tail _ (List.Mem.head _)) rfl
    have f9 := HX.out.cell (b := w22.heap.size) (j := 1) (List.Mem.tail _ (List.Mem.head _)) rfl
    have HC := Hid.mk (live_sep ((((((((((((HX.out.pick 11 rfl).pick 11 rfl).pick 11 rfl).pick 11 rfl).pick 11 rfl).pick 11 rfl).pick 11 rfl).pick 11 rfl).pick 9 rfl).pick 9 rfl).pick 11 rfl).pick 11 rfl) (by decide))
    go_wp2_with fail
    clear f0 f1 f2 f3 f4 f5 f6 f7 f8 f9
    refine HC.out.mono ?_
    rintro e wy ⟨al, cl, he, sy, -⟩
    obtain rfl : e = .returned (.slice al 3 cl) := he
    have HF : Hid (Sep w [spA p nm6, lkA b p 256 2 ⟨[(258, 500), (759, 256), (1016, 256)], []⟩, bx w22.heap.size (.cells #[.int .i64 1016, .int .i64 256] 39)] _) := Hid.mk (((((((((((((sy.lose 12).lose 11).lose 10).lose 9).lose 8).lose 7).lose 6).lose 5).lose 3).lose 0).pick 2 rfl).pick 2 rfl).pick 2 rfl)
    clear sy HC HX
    go_wp2_with fail
    go_meet
    case rel => exact ⟨rfl, HF.out⟩
  case rest =>
    obtain ⟨rfl, h⟩ := hcut.out
    apply_assumption
    exact nmB h
end Go.Proofs.Ytkooogllajmkeaa
