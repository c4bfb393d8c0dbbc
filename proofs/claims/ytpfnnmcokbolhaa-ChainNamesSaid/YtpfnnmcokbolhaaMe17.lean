/- Parts Wr Wj Ws Wk Wt Wm, put together. -/
import Derived.Test.YtpfnnmcokbolhaaMe7
import Derived.Test.YtpfnnmcokbolhaaMe15
import Derived.Test.YtpfnnmcokbolhaaMe16
import Derived.LoopN
/- ChainNames' walk: frames, region. -/
namespace Go.Proofs.Ytpfnnmcokbolhaa
open Go.RowKit
set_option pp.deepTerms true
attribute [local go_sem ↓] Go.wp_at_zero Go.wp_at_succ
set_option maxRecDepth 100000 in
set_option maxHeartbeats 4000000 in
theorem cnC29 {w W : World} {b p k Bm Bs Bp Bw cw Bq Br Bt Bu cl : Nat} {aw al : Option Addr} {u0 u2 u5 u10 u12 u29 u30 u31 u32 u33 u34 u35 u36 u37 u38 u39 u40 u41 u42 u43 u44 u45 u46 u47 u48 u49 u50 u51 u52 u53 u54 u55 u56 u57 u58 u59 u60 u61 u62 u63 u64 u65 u66 u67 u68 u69 u70 u71 u72 u73 u74 u75 u76 u77 u78 u79 u80 u81 u82 u83 u84 u85 u86 u87 u88 u89 u90 u91 u92 u93 u94 u95 u96 u97 u98 u99 u100 u101 u102 u103 u104 u105 u106 u107 u108 u109 u110 u111 u112 u113 u114 u115 u116 u117 u118 u119 u120 u121 u122 u123 u124 u125 u126 u127 u128 u129 u130 u131 u132 u133 u134 u135 u136 u137 u138 u139 u140 u141 u142 u143 u144 u145 u146 u147 u148 u149 u150 u151 u152 u153 u154 u155 u156 u157 u158 u159 u160 u161 u162 u163 u164 u165 u166 u167 u168 u169 u170 u171 u172 u173 u174 u175 u176 u177 u178 u179 u180 u181 u182 u183 u184 u185 u186 u187 u188 u189 u190 u191 u192 u193 u194 u195 u196 u197 u198 u199 u200 u201 u202 u203 u204 u205 u206 u207 u208 u209 u210 u211 u212 u213 u214 u215 u216 u217 u218 u219 u220 u221 u222 u223 u224 u225 u226 u227 u228 u229 u230 u231 u232 u233 u234 u235 u236 u237 u238 u239 u240 u241 u242 u243 u244 u245 u246 u247 u248 u249 u250 u251 u252 u253 u254 u255 u256 u257 u258 u259 u260 u261 u262 u263 u264 u265 u266 u267 u268 u269 u270 u271 u272 u273 u274 u275 u276 u277 u278 u279 u280 u281 u282 u283 u284 u285 u286 u287 u288 u289 u290 u291 u292 u293 u294 u295 u296 u297 u298 u299 u300 u301 u302 u303 u304 u305 u306 u307 u308 u309 u310 u311 u312 u313 u314 u315 u316 u317 u318 u319 u320 u321 u322 u323 u324 u325 u326 u327 u328 u329 u330 u331 u332 u333 u334 u335 u336 u337 u338 u339 u340 u341 u342 u343 u344 u345 u346 u347 u348 u349 u350 u351 u352 u353 u354 u355 u356 u357 u358 u359 u360 u361 u362 u363 u364 u365 u366 u367 u368 u369 u370 u371 u372 u373 u374 u375 u376 u377 u378 u379 u380 u381 u382 u383 u384 u385 u386 u387 u388 u389 u390 u391 u392 u393 u394 u395 u396 u397 u398 u399 u400 u401 u402 u403 u404 u405 u406 u407 u408 u409 u410 u411 u412 u413 u414 u415 u416 u417 u418 u419 u420 u421 u422 u423 u424 u425 u426 u427 u428 u429 u430 u431 u432 u433 u434 u435 u436 u437 u438 u439 u440 u441 u442 u443 u444 u445 u446 u447 u448 u449 u450 u451 u452 u453 u454 u455 u456 u457 u458 u459 u460 u461 u462 u463 u464 u465 u466 u467 u468 u469 u470 u471 u472 u473 u474 u475 u476 u477 u478 u479 u480 u481 u482 u483 u484 u485 u486 u487 u488 u489 u490 u491 u492 u493 u494 u495 u496 u497 u498 u499 u500 u501 u502 u503 u504 u505 u506 : Value} {K : Act → World → Prop} {Q : Exit → Act → World → Prop} (H0 : Hid (Sep w (chP b p k 256 0 cq8 [bx Bu (.cells #[.int .i64 1, .int .i64 4] 34), bx Bt (.cells #[.int .i64 2, .int .i64 6] 34), bx Br (.cells #[.int .i64 1, .int .i64 77] 34), bx Bq (.cells #[.int .i64 4, .int .i64 1] 34), bx Bp (.cells #[.int .i64 4, .int .i64 1] 34), bx Bm (layO (.slice (some ⟨Bs, 0, none⟩) 1 1) mainL), rw_ 0 3 1 (.slice (some ⟨Bs, 0, none⟩) 1 1) 1 (icells mainL.slots), bx Bw (layO (.slice aw 53 cw) wideL), rw_ 0 3 1 (.slice aw 53 cw) 53 (icells wideL.slots)]) W))
    (hK : Hid (∀ (c166 c167 c168 c169 c170 c171 c172 c173 c174 c175 c176 c177 c178 c179 c180 c181 c182 c183 c184 c185 c186 c187 c188 c189 c190 c191 c192 c193 c194 c195 c196 c197 c198 c199 c200 c201 c202 c203 c204 c205 c206 c207 c208 c209 c210 c211 c212 c213 c214 c215 c216 c217 c218 c219 c220 c221 c222 c223 c224 c225 c226 c227 c228 c229 c230 c231 c232 c233 c234 c235 c236 c237 c238 c239 c240 c241 c242 c243 c244 c245 : Value) (W' : World), Sep w (chP b p k 256 0 cq8 [bx Bp (.cells #[.int .i64 4, .int .i64 1] 34), bx Bm (layO (.slice (some ⟨Bs, 0, none⟩) 1 1) mainL), rw_ 0 3 1 (.slice (some ⟨Bs, 0, none⟩) 1 1) 1 (icells mainL.slots), bx Bw (layO (.slice aw 53 cw) wideL), rw_ 0 3 1 (.slice aw 53 cw) 53 (icells wideL.slots)]) W' → K ⟨#[u0, .pointer (some ⟨Bw, 0, none⟩), u2, .pointer (some ⟨p, 0, none⟩), .pointer (some ⟨b, 0, none⟩), u5, .pointer (some ⟨Bm, 0, none⟩), .int .i64 0, .pointer (some ⟨Bp, 0, none⟩), .int .i64 0, u10, .slice al 2 cl, u12, .int .i64 0, .pointer (some ⟨Bq, 0, none⟩), .int .i64 0, .pointer (some ⟨Br, 0, none⟩), .int .i64 0, .int .i64 0, .int .i64 0, .int .i64 4, .int .i64 2, .int .i64 0, .int .i64 0, .pointer (some ⟨Bt, 0, none⟩), .int .i64 0, .pointer (some ⟨Bu, 0, none⟩), .int .i64 0, .int .i64 1, .bool true, u30, u31, u32, u33, u34, u35, u36, u37, u38, u39, u40, u41, u42, u43, u44, u45, u46, u47, u48, u49, u50, u51, u52, u53, u54, u55, u56, u57, u58, u59, u60, u61, u62, u63, u64, u65, u66, u67, u68, u69, u70, u71, u72, u73, u74, u75, u76, u77, u78, u79, u80, u81, u82, u83, u84, u85, u86, u87, u88, u89, u90, u91, u92, u93, u94, u95, u96, u97, u98, u99, u100, u101, u102, u103, u104, u105, u106, u107, u108, u109, u110, u111, u112, u113, u114, u115, u116, u117, u118, u119, u120, u121, u122, u123, u124, u125, u126, u127, u128, u129, u130, u131, u132, u133, u134, u135, u136, u137, u138, u139, u140, u141, u142, u143, u144, u145, u146, u147, u148, u149, u150, u151, u152, u153, u154, u155, u156, u157, u158, u159, u160, u161, u162, u163, u164, u165, c166, c167, c168, c169, c170, c171, c172, c173, c174, c175, c176, c177, c178, c179, c180, c181, c182, c183, c184, c185, c186, c187, c188, c189, c190, c191, c192, c193, c194, c195, c196, c197, c198, c199, c200, c201, c202, c203, c204, c205, c206, c207, c208, c209, c210, c211, c212, c213, c214, c215, c216, c217, c218, c219, c220, c221, c222, c223, c224, c225, c226, c227, c228, c229, c230, c231, c232, c233, c234, c235, c236, c237, c238, c239, c240, c241, c242, c243, c244, c245, u246, u247, u248, u249, u250, u251, u252, u253, u254, u255, u256, u257, u258, u259, u260, u261, u262, u263, u264, u265, u266, u267, u268, u269, u270, u271, u272, u273, u274, u275, u276, u277, u278, u279, u280, u281, u282, u283, u284, u285, u286, u287, u288, u289, u290, u291, u292, u293, u294, u295, u296, u297, u298, u299, u300, u301, u302, u303, u304, u305, u306, u307, u308, u309, u310, u311, u312, u313, u314, u315, u316, u317, u318, u319, u320, u321, u322, u323, u324, u325, u326, u327, u328, u329, u330, u331, u332, u333, u334, u335, u336, u337, u338, u339, u340, u341, u342, u343, u344, u345, u346, u347, u348, u349, u350, u351, u352, u353, u354, u355, u356, u357, u358, u359, u360, u361, u362, u363, u364, u365, u366, u367, u368, u369, u370, u371, u372, u373, u374, u375, u376, u377, u378, u379, u380, u381, u382, u383, u384, u385, u386, u387, u388, u389, u390, u391, u392, u393, u394, u395, u396, u397, u398, u399, u400, u401, u402, u403, u404, u405, u406, u407, u408, u409, u410, u411, u412, u413, u414, u415, u416, u417, u418, u419, u420, u421, u422, u423, u424, u425, u426, u427, u428, u429, u430, u431, u432, u433, u434, u435, u436, u437, u438, u439, u440, u441, u442, u443, u444, u445, u446, u447, u448, u449, u450, u451, u452, u453, u454, u455, u456, u457, u458, u459, u460, u461, u462, u463, u464, u465, u466, u467, u468, u469, u470, u471, u472, u473, u474, u475, u476, u477, u478, u479, u480, u481, u482, u483, u484, u485, u486, u487, u488, u489, u490, u491, u492, u493, u494, u495, u496, u497, u498, u499, u500, u501, u502, u503, u504, u505, u506], []⟩ W')) :
    Code.wp Try.prog (pieceOf (Try.f4.body.getD .skip) [1, 1, 1, 1, 1, 1, 1, 1, 1, 1, 1, 1, 1, 1, 1, 1, 1, 1, 1, 1, 1, 0]) (Exit.then K Q) ⟨#[u0, .pointer (some ⟨Bw, 0, none⟩), u2, .pointer (some ⟨p, 0, none⟩), .pointer (some ⟨b, 0, none⟩), u5, .pointer (some ⟨Bm, 0, none⟩), .int .i64 0, .pointer (some ⟨Bp, 0, none⟩), .int .i64 0, u10, .slice al 2 cl, u12, .int .i64 0, .pointer (some ⟨Bq, 0, none⟩), .int .i64 0, .pointer (some ⟨Br, 0, none⟩), .int .i64 0, .int .i64 0, .int .i64 0, .int .i64 4, .int .i64 2, .int .i64 0, .int .i64 0, .pointer (some ⟨Bt, 0, none⟩), .int .i64 0, .pointer (some ⟨Bu, 0, none⟩), .int .i64 0, .int .i64 1, u29, u30, u31, u32, u33, u34, u35, u36, u37, u38, u39, u40, u41, u42, u43, u44, u45, u46, u47, u48, u49, u50, u51, u52, u53, u54, u55, u56, u57, u58, u59, u60, u61, u62, u63, u64, u65, u66, u67, u68, u69, u70, u71, u72, u73, u74, u75, u76, u77, u78, u79, u80, u81, u82, u83, u84, u85, u86, u87, u88, u89, u90, u91, u92, u93, u94, u95, u96, u97, u98, u99, u100, u101, u102, u103, u104, u105, u106, u107, u108, u109, u110, u111, u112, u113, u114, u115, u116, u117, u118, u119, u120, u121, u122, u123, u124, u125, u126, u127, u128, u129, u130, u131, u132, u133, u134, u135, u136, u137, u138, u139, u140, u141, u142, u143, u144, u145, u146, u147, u148, u149, u150, u151, u152, u153, u154, u155, u156, u157, u158, u159, u160, u161, u162, u163, u164, u165, u166, u167, u168, u169, u170, u171, u172, u173, u174, u175, u176, u177, u178, u179, u180, u181, u182, u183, u184, u185, u186, u187, u188, u189, u190, u191, u192, u193, u194, u195, u196, u197, u198, u199, u200, u201, u202, u203, u204, u205, u206, u207, u208, u209, u210, u211, u212, u213, u214, u215, u216, u217, u218, u219, u220, u221, u222, u223, u224, u225, u226, u227, u228, u229, u230, u231, u232, u233, u234, u235, u236, u237, u238, u239, u240, u241, u242, u243, u244, u245, u246, u247, u248, u249, u250, u251, u252, u253, u254, u255, u256, u257, u258, u259, u260, u261, u262, u263, u264, u265, u266, u267, u268, u269, u270, u271, u272, u273, u274, u275, u276, u277, u278, u279, u280, u281, u282, u283, u284, u285, u286, u287, u288, u289, u290, u291, u292, u293, u294, u295, u296, u297, u298, u299, u300, u301, u302, u303, u304, u305, u306, u307, u308, u309, u310, u311, u312, u313, u314, u315, u316, u317, u318, u319, u320, u321, u322, u323, u324, u325, u326, u327, u328, u329, u330, u331, u332, u333, u334, u335, u336, u337, u338, u339, u340, u341, u342, u343, u344, u345, u346, u347, u348, u349, u350, u351, u352, u353, u354, u355, u356, u357, u358, u359, u360, u361, u362, u363, u364, u365, u366, u367, u368, u369, u370, u371, u372, u373, u374, u375, u376, u377, u378, u379, u380, u381, u382, u383, u384, u385, u386, u387, u388, u389, u390, u391, u392, u393, u394, u395, u396, u397, u398, u399, u400, u401, u402, u403, u404, u405, u406, u407, u408, u409, u410, u411, u412, u413, u414, u415, u416, u417, u418, u419, u420, u421, u422, u423, u424, u425, u426, u427, u428, u429, u430, u431, u432, u433, u434, u435, u436, u437, u438, u439, u440, u441, u442, u443, u444, u445, u446, u447, u448, u449, u450, u451, u452, u453, u454, u455, u456, u457, u458, u459, u460, u461, u462, u463, u464, u465, u466, u467, u468, u469, u470, u471, u472, u473, u474, u475, u476, u477, u478, u479, u480, u481, u482, u483, u484, u485, u486, u487, u488, u489, u490, u491, u492, u493, u494, u495, u496, u497, u498, u499, u500, u501, u502, u503, u504, u505, u506], []⟩ W := by
  conv => arg 2; whnf
  dsimp only [List.append]
  have h0 := Sep.drew H0.out
  have s0 : (W).drew.cell? ⟨Bp, 0, none⟩ = some (.int .i64 4) ∧ (W).drew.cell? ⟨Bp, 1, none⟩ = some (.int .i64 1) ∧ (W).drew.cell? ⟨Bq, 0, none⟩ = some (.int .i64 4) ∧ (W).drew.cell? ⟨Bq, 1, none⟩ = some (.int .i64 1) ∧ (W).drew.cell? ⟨Br, 0, none⟩ = some (.int .i64 1) ∧ (W).drew.cell? ⟨Br, 1, none⟩ = some (.int .i64 77) ∧ (W).drew.cell? ⟨Bt, 0, none⟩ = some (.int .i64 2) ∧ (W).drew.cell? ⟨Bt, 1, none⟩ = some (.int .i64 6) ∧ (W).drew.cell? ⟨Bu, 0, none⟩ = some (.int .i64 1) ∧ (W).drew.cell? ⟨Bu, 1, none⟩ = some (.int .i64 4) := ⟨Sep.cell h0 (b := Bp) (j := 0) (List.Mem.tail _ (List.Mem.tail _ (List.Mem.tail _ (List.Mem.tail _ (List.Mem.tail _ (List.Mem.tail _ (List.Mem.tail _ (List.Mem.head _)))))))) rfl, Sep.cell h0 (b := Bp) (j := 1) (List.Mem.tail _ (List.Mem.tail _ (List.Mem.tail _ (List.Mem.tail _ (List.Mem.tail _ (List.Mem.tail _ (List.Mem.tail _ (List.Mem.head _)))))))) rfl, Sep.cell h0 (b := Bq) (j := 0) (List.Mem.tail _ (List.Mem.tail _ (List.Mem.tail _ (List.Mem.tail _ (List.Mem.tail _ (List.Mem.tail _ (List.Mem.head _))))))) rfl, Sep.cell h0 (b := Bq) (j := 1) (List.Mem.tail _ (List.Mem.tail _ (List.Mem.tail _ (List.Mem.tail _ (List.Mem.tail _ (List.Mem.tail _ (List.Mem.head _))))))) rfl, Sep.cell h0 (b := Br) (j := 0) (List.Mem.tail _ (List.Mem.tail _ (List.Mem.tail _ (List.Mem.tail _ (List.Mem.tail _ (List.Mem.head _)))))) rfl, Sep.cell h0 (b := Br) (j := 1) (List.Mem.tail _ (List.Mem.tail _ (List.Mem.tail _ (List.Mem.tail _ (List.Mem.tail _ (List.Mem.head _)))))) rfl, Sep.cell h0 (b := Bt) (j := 0) (List.Mem.tail _ (List.Mem.tail _ (List.Mem.tail _ (List.Mem.tail _ (List.Mem.head _))))) rfl, Sep.cell h0 (b := Bt) (j := 1) (List.Mem.tail _ (List.Mem.tail _ (List.Mem.tail _ (List.Mem.tail _ (List.Mem.head _))))) rfl, Sep.cell h0 (b := Bu) (j := 0) (List.Mem.tail _ (List.Mem.tail _ (List.Mem.tail _ (List.Mem.head _)))) rfl, Sep.cell h0 (b := Bu) (j := 1) (List.Mem.tail _ (List.Mem.tail _ (List.Mem.tail _ (List.Mem.head _)))) rfl⟩
  go_region_held3 (fun X => X.cell? ⟨Bp, 0, none⟩ = some (.int .i64 4) ∧ X.cell? ⟨Bp, 1, none⟩ = some (.int .i64 1) ∧ X.cell? ⟨Bq, 0, none⟩ = some (.int .i64 4) ∧ X.cell? ⟨Bq, 1, none⟩ = some (.int .i64 1) ∧ X.cell? ⟨Br, 0, none⟩ = some (.int .i64 1) ∧ X.cell? ⟨Br, 1, none⟩ = some (.int .i64 77) ∧ X.cell? ⟨Bt, 0, none⟩ = some (.int .i64 2) ∧ X.cell? ⟨Bt, 1, none⟩ = some (.int .i64 6) ∧ X.cell? ⟨Bu, 0, none⟩ = some (.int .i64 1) ∧ X.cell? ⟨Bu, 1, none⟩ = some (.int .i64 4)) (first | exact s2 | exact s1 | exact s0) (first | (go_at_call 15; refine (num_any 4 _).mono ?_; rintro e wx2 ⟨hb2, rfl⟩; have h2 := Sep.keep h1 hb2; have s2 := And.intro (Sep.cell h2 (b := Bp) (j := 0) (List.Mem.tail _ (List.Mem.tail _ (List.Mem.tail _ (List.Mem.tail _ (List.Mem.tail _ (List.Mem.tail _ (List.Mem.tail _ (List.Mem.head _)))))))) rfl) (And.intro (Sep.cell h2 (b := Bp) (j := 1) (List.Mem.tail _ (List.Mem.tail _ (List.Mem.tail _ (List.Mem.tail _ (List.Mem.tail _ (List.Mem.tail _ (List.Mem.tail _ (List.Mem.head _)))))))) rfl) (And.intro (Sep.cell h2 (b := Bq) (j := 0) (List.Mem.tail _ (List.Mem.tail _ (List.Mem.tail _ (List.Mem.tail _ (List.Mem.tail _ (List.Mem.tail _ (List.Mem.head _))))))) rfl) (And.intro (Sep.cell h2 (b := Bq) (j := 1) (List.Mem.tail _ (List.Mem.tail _ (List.Mem.tail _ (List.Mem.tail _ (List.Mem.tail _ (List.Mem.tail _ (List.Mem.head _))))))) rfl) (And.intro (Sep.cell h2 (b := Br) (j := 0) (List.Mem.tail _ (List.Mem.tail _ (List.Mem.tail _ (List.Mem.tail _ (List.Mem.tail _ (List.Mem.head _)))))) rfl) (And.intro (Sep.cell h2 (b := Br) (j := 1) (List.Mem.tail _ (List.Mem.tail _ (List.Mem.tail _ (List.Mem.tail _ (List.Mem.tail _ (List.Mem.head _)))))) rfl) (And.intro (Sep.cell h2 (b := Bt) (j := 0) (List.Mem.tail _ (List.Mem.tail _ (List.Mem.tail _ (List.Mem.tail _ (List.Mem.head _))))) rfl) (And.intro (Sep.cell h2 (b := Bt) (j := 1) (List.Mem.tail _ (List.Mem.tail _ (List.Mem.tail _ (List.Mem.tail _ (List.Mem.head _))))) rfl) (And.intro (Sep.cell h2 (b := Bu) (j := 0) (List.Mem.tail _ (List.Mem.tail _ (List.Mem.tail _ (List.Mem.head _)))) rfl) (Sep.cell h2 (b := Bu) (j := 1) (List.Mem.tail _ (List.Mem.tail _ (List.Mem.tail _ (List.Mem.head _)))) rfl))))))))); clear h1 s1) | (go_at_call 15; refine (num_any 77 _).mono ?_; rintro e wx1 ⟨hb1, rfl⟩; have h1 := Sep.keep h0 hb1; have s1 := And.intro (Sep.cell h1 (b := Bp) (j := 0) (List.Mem.tail _ (List.Mem.tail _ (List.Mem.tail _ (List.Mem.tail _ (List.Mem.tail _ (List.Mem.tail _ (List.Mem.tail _ (List.Mem.head _)))))))) rfl) (And.intro (Sep.cell h1 (b := Bp) (j := 1) (List.Mem.tail _ (List.Mem.tail _ (List.Mem.tail _ (List.Mem.tail _ (List.Mem.tail _ (List.Mem.tail _ (List.Mem.tail _ (List.Mem.head _)))))))) rfl) (And.intro (Sep.cell h1 (b := Bq) (j := 0) (List.Mem.tail _ (List.Mem.tail _ (List.Mem.tail _ (List.Mem.tail _ (List.Mem.tail _ (List.Mem.tail _ (List.Mem.head _))))))) rfl) (And.intro (Sep.cell h1 (b := Bq) (j := 1) (List.Mem.tail _ (List.Mem.tail _ (List.Mem.tail _ (List.Mem.tail _ (List.Mem.tail _ (List.Mem.tail _ (List.Mem.head _))))))) rfl) (And.intro (Sep.cell h1 (b := Br) (j := 0) (List.Mem.tail _ (List.Mem.tail _ (List.Mem.tail _ (List.Mem.tail _ (List.Mem.tail _ (List.Mem.head _)))))) rfl) (And.intro (Sep.cell h1 (b := Br) (j := 1) (List.Mem.tail _ (List.Mem.tail _ (List.Mem.tail _ (List.Mem.tail _ (List.Mem.tail _ (List.Mem.head _)))))) rfl) (And.intro (Sep.cell h1 (b := Bt) (j := 0) (List.Mem.tail _ (List.Mem.tail _ (List.Mem.tail _ (List.Mem.tail _ (List.Mem.head _))))) rfl) (And.intro (Sep.cell h1 (b := Bt) (j := 1) (List.Mem.tail _ (List.Mem.tail _ (List.Mem.tail _ (List.Mem.tail _ (List.Mem.head _))))) rfl) (And.intro (Sep.cell h1 (b := Bu) (j := 0) (List.Mem.tail _ (List.Mem.tail _ (List.Mem.tail _ (List.Mem.head _)))) rfl) (Sep.cell h1 (b := Bu) (j := 1) (List.Mem.tail _ (List.Mem.tail _ (List.Mem.tail _ (List.Mem.head _)))) rfl))))))))); clear h0 s0))
  have HR := Hid.mk h2
  clear h2 s2 H0
  exact hK.out _ _ _ _ _ _ _ _ _ _ _ _ _ _ _ _ _ _ _ _ _ _ _ _ _ _ _ _ _ _ _ _ _ _ _ _ _ _ _ _ _ _ _ _ _ _ _ _ _ _ _ _ _ _ _ _ _ _ _ _ _ _ _ _ _ _ _ _ _ _ _ _ _ _ _ _ _ _ _ _ _ (Sep.lose 3 (Sep.lose 4 (Sep.lose 5 (Sep.lose 6 HR.out))))
end Go.Proofs.Ytpfnnmcokbolhaa
/- ChainNames' walk: frames. -/
namespace Go.Proofs.Ytpfnnmcokbolhaa
open Go.RowKit
set_option pp.deepTerms true
attribute [local go_sem ↓] Go.wp_at_zero Go.wp_at_succ
set_option maxRecDepth 100000 in
set_option maxHeartbeats 4000000 in
theorem cnC {w W : World} {b p k Bm Bs Bp Bw cw : Nat} {aw : Option Addr} {u0 u2 u5 u10 u11 u12 u13 u14 u15 u16 u17 u18 u19 u20 u21 u22 u23 u24 u25 u26 u27 u28 u29 u30 u31 u32 u33 u34 u35 u36 u37 u38 u39 u40 u41 u42 u43 u44 u45 u46 u47 u48 u49 u50 u51 u52 u53 u54 u55 u56 u57 u58 u59 u60 u61 u62 u63 u64 u65 u66 u67 u68 u69 u70 u71 u72 u73 u74 u75 u76 u77 u78 u79 u80 u81 u82 u83 u84 u85 u86 u87 u88 u89 u90 u91 u92 u93 u94 u95 u96 u97 u98 u99 u100 u101 u102 u103 u104 u105 u106 u107 u108 u109 u110 u111 u112 u113 u114 u115 u116 u117 u118 u119 u120 u121 u122 u123 u124 u125 u126 u127 u128 u129 u130 u131 u132 u133 u134 u135 u136 u137 u138 u139 u140 u141 u142 u143 u144 u145 u146 u147 u148 u149 u150 u151 u152 u153 u154 u155 u156 u157 u158 u159 u160 u161 u162 u163 u164 u165 u166 u167 u168 u169 u170 u171 u172 u173 u174 u175 u176 u177 u178 u179 u180 u181 u182 u183 u184 u185 u186 u187 u188 u189 u190 u191 u192 u193 u194 u195 u196 u197 u198 u199 u200 u201 u202 u203 u204 u205 u206 u207 u208 u209 u210 u211 u212 u213 u214 u215 u216 u217 u218 u219 u220 u221 u222 u223 u224 u225 u226 u227 u228 u229 u230 u231 u232 u233 u234 u235 u236 u237 u238 u239 u240 u241 u242 u243 u244 u245 u246 u247 u248 u249 u250 u251 u252 u253 u254 u255 u256 u257 u258 u259 u260 u261 u262 u263 u264 u265 u266 u267 u268 u269 u270 u271 u272 u273 u274 u275 u276 u277 u278 u279 u280 u281 u282 u283 u284 u285 u286 u287 u288 u289 u290 u291 u292 u293 u294 u295 u296 u297 u298 u299 u300 u301 u302 u303 u304 u305 u306 u307 u308 u309 u310 u311 u312 u313 u314 u315 u316 u317 u318 u319 u320 u321 u322 u323 u324 u325 u326 u327 u328 u329 u330 u331 u332 u333 u334 u335 u336 u337 u338 u339 u340 u341 u342 u343 u344 u345 u346 u347 u348 u349 u350 u351 u352 u353 u354 u355 u356 u357 u358 u359 u360 u361 u362 u363 u364 u365 u366 u367 u368 u369 u370 u371 u372 u373 u374 u375 u376 u377 u378 u379 u380 u381 u382 u383 u384 u385 u386 u387 u388 u389 u390 u391 u392 u393 u394 u395 u396 u397 u398 u399 u400 u401 u402 u403 u404 u405 u406 u407 u408 u409 u410 u411 u412 u413 u414 u415 u416 u417 u418 u419 u420 u421 u422 u423 u424 u425 u426 u427 u428 u429 u430 u431 u432 u433 u434 u435 u436 u437 u438 u439 u440 u441 u442 u443 u444 u445 u446 u447 u448 u449 u450 u451 u452 u453 u454 u455 u456 u457 u458 u459 u460 u461 u462 u463 u464 u465 u466 u467 u468 u469 u470 u471 u472 u473 u474 u475 u476 u477 u478 u479 u480 u481 u482 u483 u484 u485 u486 u487 u488 u489 u490 u491 u492 u493 u494 u495 u496 u497 u498 u499 u500 u501 u502 u503 u504 u505 u506 : Value} (H0 : Hid (Sep w (chP b p k 256 0 cq2 [bx Bp (.cells #[.int .i64 4, .int .i64 1] 34), bx Bm (layO (.slice (some ⟨Bs, 0, none⟩) 1 1) mainL), rw_ 0 3 1 (.slice (some ⟨Bs, 0, none⟩) 1 1) 1 (icells mainL.slots), bx Bw (layO (.slice aw 53 cw) wideL), rw_ 0 3 1 (.slice aw 53 cw) 53 (icells wideL.slots)]) W)) :
    Code.wp Try.prog (pieceOf (Try.f4.body.getD .skip) [1, 1, 1, 1, 1, 1, 1, 1, 1, 1]) (bodyPost Try.prog Try.f4 (fun e w' => e = .returned (.bool true) ∧ Below w.heap.size w w')) ⟨#[u0, .pointer (some ⟨Bw, 0, none⟩), u2, .pointer (some ⟨p, 0, none⟩), .pointer (some ⟨b, 0, none⟩), u5, .pointer (some ⟨Bm, 0, none⟩), .int .i64 0, .pointer (some ⟨Bp, 0, none⟩), .int .i64 0, u10, u11, u12, u13, u14, u15, u16, u17, u18, u19, u20, u21, u22, u23, u24, u25, u26, u27, u28, u29, u30, u31, u32, u33, u34, u35, u36, u37, u38, u39, u40, u41, u42, u43, u44, u45, u46, u47, u48, u49, u50, u51, u52, u53, u54, u55, u56, u57, u58, u59, u60, u61, u62, u63, u64, u65, u66, u67, u68, u69, u70, u71, u72, u73, u74, u75, u76, u77, u78, u79, u80, u81, u82, u83, u84, u85, u86, u87, u88, u89, u90, u91, u92, u93, u94, u95, u96, u97, u98, u99, u100, u101, u102, u103, u104, u105, u106, u107, u108, u109, u110, u111, u112, u113, u114, u115, u116, u117, u118, u119, u120, u121, u122, u123, u124, u125, u126, u127, u128, u129, u130, u131, u132, u133, u134, u135, u136, u137, u138, u139, u140, u141, u142, u143, u144, u145, u146, u147, u148, u149, u150, u151, u152, u153, u154, u155, u156, u157, u158, u159, u160, u161, u162, u163, u164, u165, u166, u167, u168, u169, u170, u171, u172, u173, u174, u175, u176, u177, u178, u179, u180, u181, u182, u183, u184, u185, u186, u187, u188, u189, u190, u191, u192, u193, u194, u195, u196, u197, u198, u199, u200, u201, u202, u203, u204, u205, u206, u207, u208, u209, u210, u211, u212, u213, u214, u215, u216, u217, u218, u219, u220, u221, u222, u223, u224, u225, u226, u227, u228, u229, u230, u231, u232, u233, u234, u235, u236, u237, u238, u239, u240, u241, u242, u243, u244, u245, u246, u247, u248, u249, u250, u251, u252, u253, u254, u255, u256, u257, u258, u259, u260, u261, u262, u263, u264, u265, u266, u267, u268, u269, u270, u271, u272, u273, u274, u275, u276, u277, u278, u279, u280, u281, u282, u283, u284, u285, u286, u287, u288, u289, u290, u291, u292, u293, u294, u295, u296, u297, u298, u299, u300, u301, u302, u303, u304, u305, u306, u307, u308, u309, u310, u311, u312, u313, u314, u315, u316, u317, u318, u319, u320, u321, u322, u323, u324, u325, u326, u327, u328, u329, u330, u331, u332, u333, u334, u335, u336, u337, u338, u339, u340, u341, u342, u343, u344, u345, u346, u347, u348, u349, u350, u351, u352, u353, u354, u355, u356, u357, u358, u359, u360, u361, u362, u363, u364, u365, u366, u367, u368, u369, u370, u371, u372, u373, u374, u375, u376, u377, u378, u379, u380, u381, u382, u383, u384, u385, u386, u387, u388, u389, u390, u391, u392, u393, u394, u395, u396, u397, u398, u399, u400, u401, u402, u403, u404, u405, u406, u407, u408, u409, u410, u411, u412, u413, u414, u415, u416, u417, u418, u419, u420, u421, u422, u423, u424, u425, u426, u427, u428, u429, u430, u431, u432, u433, u434, u435, u436, u437, u438, u439, u440, u441, u442, u443, u444, u445, u446, u447, u448, u449, u450, u451, u452, u453, u454, u455, u456, u457, u458, u459, u460, u461, u462, u463, u464, u465, u466, u467, u468, u469, u470, u471, u472, u473, u474, u475, u476, u477, u478, u479, u480, u481, u482, u483, u484, u485, u486, u487, u488, u489, u490, u491, u492, u493, u494, u495, u496, u497, u498, u499, u500, u501, u502, u503, u504, u505, u506], []⟩ W := by
  conv => arg 2; whnf
  have HC1 := Hid.mk (csegs_eq H0.out (cn_ok (List.Mem.tail _ (List.Mem.tail _ (List.Mem.head _)))) (n := 2) (m := 0) cn_live2 cn_kept2)
  go_wp2_with fail
  refine HC1.out.mono ?_
  rintro e w1 ⟨ao, c, ak, ck, h, rfl⟩
  have H1 := Hid.mk h
  clear h HC1 H0 
  go_upto_region 19 with (fail)
  have h0 := Sep.drew H1.out
  have s0 : (w1).drew.cell? ⟨Bp, 0, none⟩ = some (.int .i64 4) ∧ (w1).drew.cell? ⟨Bp, 1, none⟩ = some (.int .i64 1) := ⟨Sep.cell h0 (b := Bp) (j := 0) (List.Mem.tail _ (List.Mem.tail _ (List.Mem.tail _ (List.Mem.head _)))) rfl, Sep.cell h0 (b := Bp) (j := 1) (List.Mem.tail _ (List.Mem.tail _ (List.Mem.tail _ (List.Mem.head _)))) rfl⟩
  go_region_held3 (fun X => X.cell? ⟨Bp, 0, none⟩ = some (.int .i64 4) ∧ X.cell? ⟨Bp, 1, none⟩ = some (.int .i64 1)) (first | exact s2 | exact s1 | exact s0) (first | (go_at_call 18; refine (cput_eq h1 (cn_ok (List.Mem.tail _ (List.Mem.tail _ (List.Mem.head _)))) cn_ne.1 (fst0 cn_put)).mono ?_; rintro e wx2 ⟨h2, rfl⟩; have s2 := And.intro (Sep.cell h2 (b := Bp) (j := 0) (List.Mem.tail _ (List.Mem.tail _ (List.Mem.tail _ (List.Mem.head _)))) rfl) (Sep.cell h2 (b := Bp) (j := 1) (List.Mem.tail _ (List.Mem.tail _ (List.Mem.tail _ (List.Mem.head _)))) rfl); clear h1 s1) | (go_at_call 15; refine (num_any 77 _).mono ?_; rintro e wx1 ⟨hb1, rfl⟩; have h1 := Sep.keep h0 hb1; have s1 := And.intro (Sep.cell h1 (b := Bp) (j := 0) (List.Mem.tail _ (List.Mem.tail _ (List.Mem.tail _ (List.Mem.head _)))) rfl) (Sep.cell h1 (b := Bp) (j := 1) (List.Mem.tail _ (List.Mem.tail _ (List.Mem.tail _ (List.Mem.head _)))) rfl); clear h0 s0))
  have HR := Hid.mk h2
  clear h2 s2 H1
  have HC2 := Hid.mk (cload_eq HR.out (cn_ok (List.Mem.tail _ (List.Mem.tail _ (List.Mem.tail _ (List.Mem.head _))))) cn_ne.2.1 cn_load)
  go_wp2_with fail
  refine HC2.out.mono ?_
  rintro e w2 ⟨h, rfl⟩
  have H2 := Hid.mk h
  clear h HC2 HR 
  have h := chP_in (Sep.alloc H2.out (.cells #[.int .i64 4, .int .i64 1] 34))
  have H3 := Hid.mk h
  clear h H2
  have c0 := Sep.cell H3.out (b := w2.heap.size) (j := 0) (List.Mem.tail _ (List.Mem.tail _ (List.Mem.tail _ (List.Mem.head _)))) rfl
  have c1 := Sep.cell H3.out (b := w2.heap.size) (j := 1) (List.Mem.tail _ (List.Mem.tail _ (List.Mem.tail _ (List.Mem.head _)))) rfl
  have HC4 := Hid.mk (cget_eq H3.out (cn_ok (List.Mem.tail _ (List.Mem.tail _ (List.Mem.tail _ (List.Mem.head _))))) cn_ne.2.1 cn_get)
  go_wp2_with fail
  refine HC4.out.mono ?_
  rintro e w4 ⟨h, rfl⟩
  have H4 := Hid.mk h
  clear h HC4 H3 c0 c1
  have h := chP_in (Sep.alloc H4.out (.cells #[.int .i64 1, .int .i64 77] 34))
  have H5 := Hid.mk h
  clear h H4
  have HC6 := Hid.mk (num_any 4 (w4.alloc (.cells #[.int .i64 1, .int .i64 77] 34)))
  go_wp2_with fail
  refine HC6.out.mono ?_
  rintro e w6 ⟨hb, rfl⟩
  have H6 := Hid.mk (Sep.keep H5.out hb)
  clear hb HC6 H5 
  have HC7 := Hid.mk (cstore_eq H6.out (cn_ok (List.Mem.tail _ (List.Mem.tail _ (List.Mem.tail _ (List.Mem.head _))))) cn_ne.2.1 (fst0 cn_store1))
  go_wp2_with fail
  refine HC7.out.mono ?_
  rintro e w7 ⟨h, rfl⟩
  have H7 := Hid.mk h
  clear h HC7 H6 
  have HC8 := Hid.mk (cstore_eq H7.out (cn_ok (List.Mem.tail _ (List.Mem.tail _ (List.Mem.tail _ (List.Mem.tail _ (List.Mem.head _)))))) cn_ne.2.2.1 (fst0 cn_store2))
  go_wp2_with fail
  refine HC8.out.mono ?_
  rintro e w8 ⟨h, rfl⟩
  have H8 := Hid.mk h
  clear h HC8 H7 
  have HC9 := Hid.mk (cplace_eq H8.out (cn_ok (List.Mem.tail _ (List.Mem.tail _ (List.Mem.tail _ (List.Mem.tail _ (List.Mem.tail _ (List.Mem.head _))))))) cn_link cn_place)
  go_wp2_with fail
  refine HC9.out.mono ?_
  rintro e w9 ⟨h, rfl⟩
  have H9 := Hid.mk h
  clear h HC9 H8 
  have HC10 := Hid.mk (cret_eq H9.out (cn_ok (List.Mem.tail _ (List.Mem.tail _ (List.Mem.tail _ (List.Mem.tail _ (List.Mem.tail _ (List.Mem.head _))))))) (fst0 cn_ret))
  go_wp2_with fail
  refine HC10.out.mono ?_
  rintro e w10 ⟨h, rfl⟩
  have H10 := Hid.mk h
  clear h HC10 H9 
  have HC11 := Hid.mk (cpop_eq H10.out (cn_ok (List.Mem.tail _ (List.Mem.tail _ (List.Mem.tail _ (List.Mem.tail _ (List.Mem.tail _ (List.Mem.tail _ (List.Mem.head _)))))))) (fst1 cn_pop1))
  go_wp2_with fail
  refine HC11.out.mono ?_
  rintro e w11 ⟨h, rfl⟩
  have H11 := Hid.mk h
  clear h HC11 H10 
  have h := chP_in (Sep.alloc H11.out (.cells #[.int .i64 2, .int .i64 6] 34))
  have H12 := Hid.mk h
  clear h H11
  have HC13 := Hid.mk (cpop_eq H12.out (cn_ok (List.Mem.tail _ (List.Mem.tail _ (List.Mem.tail _ (List.Mem.tail _ (List.Mem.tail _ (List.Mem.tail _ (List.Mem.tail _ (List.Mem.head _))))))))) (fst1 cn_pop2))
  go_wp2_with fail
  refine HC13.out.mono ?_
  rintro e w13 ⟨h, rfl⟩
  have H13 := Hid.mk h
  clear h HC13 H12 
  have h := chP_in (Sep.alloc H13.out (.cells #[.int .i64 1, .int .i64 4] 34))
  have H14 := Hid.mk h
  clear h H13
  have HC15 := Hid.mk (cheight_eq H14.out (cn_ok (List.Mem.tail _ (List.Mem.tail _ (List.Mem.tail _ (List.Mem.tail _ (List.Mem.tail _ (List.Mem.tail _ (List.Mem.tail _ (List.Mem.tail _ (List.Mem.head _)))))))))) cn_height)
  go_wp2_with fail
  refine HC15.out.mono ?_
  rintro e w15 ⟨h, rfl⟩
  have H15 := Hid.mk h
  clear h HC15 H14 
  obtain ⟨Bq, hBq⟩ : ∃ B, w2.heap.size = B := ⟨_, rfl⟩
  rw [hBq] at H15
  have HBq := Hid.mk hBq
  clear hBq
  obtain ⟨Br, hBr⟩ : ∃ B, w4.heap.size = B := ⟨_, rfl⟩
  rw [hBr] at H15
  have HBr := Hid.mk hBr
  clear hBr
  obtain ⟨Bt, hBt⟩ : ∃ B, w11.heap.size = B := ⟨_, rfl⟩
  rw [hBt] at H15
  have HBt := Hid.mk hBt
  clear hBt
  obtain ⟨Bu, hBu⟩ : ∃ B, w13.heap.size = B := ⟨_, rfl⟩
  rw [hBu] at H15
  have HBu := Hid.mk hBu
  clear hBu
  go_upto_region 29 with (fail)
  rw [HBq.out, HBr.out, HBt.out, HBu.out]
  refine cnC29 H15 (Hid.mk ?_)
  intro _ _ _ _ _ _ _ _ _ _ _ _ _ _ _ _ _ _ _ _ _ _ _ _ _ _ _ _ _ _ _ _ _ _ _ _ _ _ _ _ _ _ _ _ _ _ _ _ _ _ _ _ _ _ _ _ _ _ _ _ _ _ _ _ _ _ _ _ _ _ _ _ _ _ _ _ _ _ _ _ W' h
  apply_assumption
  exact cnD (Hid.mk h)
end Go.Proofs.Ytpfnnmcokbolhaa
/- ChainNames' walk: the chain, rounds. -/
namespace Go.Proofs.Ytpfnnmcokbolhaa
open Go.RowKit
set_option pp.deepTerms true
attribute [local go_sem ↓] Go.wp_at_zero Go.wp_at_succ
set_option maxRecDepth 100000 in
set_option maxHeartbeats 4000000 in
theorem cnB2 {w W : World} {b p k Bm Bs Bp Bw cw : Nat} {aw : Option Addr} {u0 u2 u5 u11 u12 u13 u14 u15 u16 u17 u18 u19 u20 u21 u22 u23 u24 u25 u26 u27 u28 u29 u30 u31 u32 u33 u34 u35 u36 u37 u38 u39 u40 u41 u42 u43 u44 u45 u46 u47 u48 u49 u50 u51 u52 u53 u54 u55 u56 u57 u58 u59 u60 u61 u62 u63 u64 u65 u66 u67 u68 u69 u70 u71 u72 u73 u74 u75 u76 u77 u78 u79 u80 u81 u82 u83 u84 u85 u86 u87 u88 u89 u90 u91 u92 u93 u94 u95 u96 u97 u98 u99 u100 u101 u102 u103 u104 u105 u106 u107 u108 u109 u110 u111 u112 u113 u114 u115 u116 u117 u118 u119 u120 u121 u122 u123 u124 u125 u126 u127 u128 u129 u130 u131 u132 u133 u134 u135 u136 u137 u138 u139 u140 u141 u142 u143 u144 u145 u146 u147 u148 u149 u150 u151 u152 u153 u154 u155 u156 u157 u158 u159 u160 u161 u162 u163 u164 u165 u166 u167 u168 u169 u170 u171 u172 u173 u174 u175 u176 u177 u178 u179 u180 u181 u182 u183 u184 u185 u186 u187 u188 u189 u190 u191 u192 u193 u194 u195 u196 u197 u198 u199 u200 u201 u202 u203 u204 u205 u206 u207 u208 u209 u210 u211 u212 u213 u214 u215 u216 u217 u218 u219 u220 u221 u222 u223 u224 u225 u226 u227 u228 u229 u230 u231 u232 u233 u234 u235 u236 u237 u238 u239 u240 u241 u242 u243 u244 u245 u246 u247 u248 u249 u250 u251 u252 u253 u254 u255 u256 u257 u258 u259 u260 u261 u262 u263 u264 u265 u266 u267 u268 u269 u270 u271 u272 u273 u274 u275 u276 u277 u278 u279 u280 u281 u282 u283 u284 u285 u286 u287 u288 u289 u290 u291 u292 u293 u294 u295 u296 u297 u298 u299 u300 u301 u302 u303 u304 u305 u306 u307 u308 u309 u310 u311 u312 u313 u314 u315 u316 u317 u318 u319 u320 u321 u322 u323 u324 u325 u326 u327 u328 u329 u330 u331 u332 u333 u334 u335 u336 u337 u338 u339 u340 u341 u342 u343 u344 u345 u346 u347 u348 u349 u350 u351 u352 u353 u354 u355 u356 u357 u358 u359 u360 u361 u362 u363 u364 u365 u366 u367 u368 u369 u370 u371 u372 u373 u374 u375 u376 u377 u378 u379 u380 u381 u382 u383 u384 u385 u386 u387 u388 u389 u390 u391 u392 u393 u394 u395 u396 u397 u398 u399 u400 u401 u402 u403 u404 u405 u406 u407 u408 u409 u410 u411 u412 u413 u414 u415 u416 u417 u418 u419 u420 u421 u422 u423 u424 u425 u426 u427 u428 u429 u430 u431 u432 u433 u434 u435 u436 u437 u438 u439 u440 u441 u442 u443 u444 u445 u446 u447 u448 u449 u450 u451 u452 u453 u454 u455 u456 u457 u458 u459 u460 u461 u462 u463 u464 u465 u466 u467 u468 u469 u470 u471 u472 u473 u474 u475 u476 u477 u478 u479 u480 u481 u482 u483 u484 u485 u486 u487 u488 u489 u490 u491 u492 u493 u494 u495 u496 u497 u498 u499 u500 u501 u502 u503 u504 u505 u506 : Value} {K : Act → World → Prop} {Q : Exit → Act → World → Prop} (H0 : Hid (Sep w (chP b p k 256 0 cq1 [bx Bp (.cells #[.int .i64 4, .int .i64 1] 34), bx Bm (layO (.slice (some ⟨Bs, 0, none⟩) 1 1) mainL), rw_ 0 3 1 (.slice (some ⟨Bs, 0, none⟩) 1 1) 1 (icells mainL.slots), rw_ 0 3 1 (.slice aw 53 cw) 53 (icells wideL.slots), bx Bw (layO (.slice aw 53 cw) wideL)]) W))
    (hK : Hid (∀ (c0 c10 c98 c99 c100 c101 c102 c103 c104 c105 c106 c107 c108 c109 c110 c111 c112 c113 c114 c115 c116 c117 c118 c119 : Value) (W' : World), Sep w (chP b p k 256 0 cq2 [bx Bp (.cells #[.int .i64 4, .int .i64 1] 34), bx Bm (layO (.slice (some ⟨Bs, 0, none⟩) 1 1) mainL), rw_ 0 3 1 (.slice (some ⟨Bs, 0, none⟩) 1 1) 1 (icells mainL.slots), rw_ 0 3 1 (.slice aw 53 cw) 53 (icells wideL.slots), bx Bw (layO (.slice aw 53 cw) wideL)]) W' → K ⟨#[c0, .pointer (some ⟨Bw, 0, none⟩), u2, .pointer (some ⟨p, 0, none⟩), .pointer (some ⟨b, 0, none⟩), u5, .pointer (some ⟨Bm, 0, none⟩), .int .i64 0, .pointer (some ⟨Bp, 0, none⟩), .int .i64 0, c10, u11, u12, u13, u14, u15, u16, u17, u18, u19, u20, u21, u22, u23, u24, u25, u26, u27, u28, u29, u30, u31, u32, u33, u34, u35, u36, u37, u38, u39, u40, u41, u42, u43, u44, u45, u46, u47, u48, u49, u50, u51, u52, u53, u54, u55, u56, u57, u58, u59, u60, u61, u62, u63, u64, u65, u66, u67, u68, u69, u70, u71, u72, u73, u74, u75, u76, u77, u78, u79, u80, u81, u82, u83, u84, u85, u86, u87, u88, u89, u90, u91, u92, u93, u94, u95, u96, u97, c98, c99, c100, c101, c102, c103, c104, c105, c106, c107, c108, c109, c110, c111, c112, c113, c114, c115, c116, c117, c118, c119, u120, u121, u122, u123, u124, u125, u126, u127, u128, u129, u130, u131, u132, u133, u134, u135, u136, u137, u138, u139, u140, u141, u142, u143, u144, u145, u146, u147, u148, u149, u150, u151, u152, u153, u154, u155, u156, u157, u158, u159, u160, u161, u162, u163, u164, u165, u166, u167, u168, u169, u170, u171, u172, u173, u174, u175, u176, u177, u178, u179, u180, u181, u182, u183, u184, u185, u186, u187, u188, u189, u190, u191, u192, u193, u194, u195, u196, u197, u198, u199, u200, u201, u202, u203, u204, u205, u206, u207, u208, u209, u210, u211, u212, u213, u214, u215, u216, u217, u218, u219, u220, u221, u222, u223, u224, u225, u226, u227, u228, u229, u230, u231, u232, u233, u234, u235, u236, u237, u238, u239, u240, u241, u242, u243, u244, u245, u246, u247, u248, u249, u250, u251, u252, u253, u254, u255, u256, u257, u258, u259, u260, u261, u262, u263, u264, u265, u266, u267, u268, u269, u270, u271, u272, u273, u274, u275, u276, u277, u278, u279, u280, u281, u282, u283, u284, u285, u286, u287, u288, u289, u290, u291, u292, u293, u294, u295, u296, u297, u298, u299, u300, u301, u302, u303, u304, u305, u306, u307, u308, u309, u310, u311, u312, u313, u314, u315, u316, u317, u318, u319, u320, u321, u322, u323, u324, u325, u326, u327, u328, u329, u330, u331, u332, u333, u334, u335, u336, u337, u338, u339, u340, u341, u342, u343, u344, u345, u346, u347, u348, u349, u350, u351, u352, u353, u354, u355, u356, u357, u358, u359, u360, u361, u362, u363, u364, u365, u366, u367, u368, u369, u370, u371, u372, u373, u374, u375, u376, u377, u378, u379, u380, u381, u382, u383, u384, u385, u386, u387, u388, u389, u390, u391, u392, u393, u394, u395, u396, u397, u398, u399, u400, u401, u402, u403, u404, u405, u406, u407, u408, u409, u410, u411, u412, u413, u414, u415, u416, u417, u418, u419, u420, u421, u422, u423, u424, u425, u426, u427, u428, u429, u430, u431, u432, u433, u434, u435, u436, u437, u438, u439, u440, u441, u442, u443, u444, u445, u446, u447, u448, u449, u450, u451, u452, u453, u454, u455, u456, u457, u458, u459, u460, u461, u462, u463, u464, u465, u466, u467, u468, u469, u470, u471, u472, u473, u474, u475, u476, u477, u478, u479, u480, u481, u482, u483, u484, u485, u486, u487, u488, u489, u490, u491, u492, u493, u494, u495, u496, u497, u498, u499, u500, u501, u502, u503, u504, u505, u506], []⟩ W')) :
    Code.wp Try.prog (pieceOf (Try.f4.body.getD .skip) [1, 1, 1, 1, 1, 1, 1, 1, 1, 0, 1]) (Exit.then K Q) ⟨#[u0, .pointer (some ⟨Bw, 0, none⟩), u2, .pointer (some ⟨p, 0, none⟩), .pointer (some ⟨b, 0, none⟩), u5, .pointer (some ⟨Bm, 0, none⟩), .int .i64 0, .pointer (some ⟨Bp, 0, none⟩), .int .i64 0, .int .i64 0, u11, u12, u13, u14, u15, u16, u17, u18, u19, u20, u21, u22, u23, u24, u25, u26, u27, u28, u29, u30, u31, u32, u33, u34, u35, u36, u37, u38, u39, u40, u41, u42, u43, u44, u45, u46, u47, u48, u49, u50, u51, u52, u53, u54, u55, u56, u57, u58, u59, u60, u61, u62, u63, u64, u65, u66, u67, u68, u69, u70, u71, u72, u73, u74, u75, u76, u77, u78, u79, u80, u81, u82, u83, u84, u85, u86, u87, u88, u89, u90, u91, u92, u93, u94, u95, u96, u97, u98, u99, u100, u101, u102, u103, u104, u105, u106, u107, u108, u109, u110, u111, u112, u113, u114, u115, u116, u117, u118, u119, u120, u121, u122, u123, u124, u125, u126, u127, u128, u129, u130, u131, u132, u133, u134, u135, u136, u137, u138, u139, u140, u141, u142, u143, u144, u145, u146, u147, u148, u149, u150, u151, u152, u153, u154, u155, u156, u157, u158, u159, u160, u161, u162, u163, u164, u165, u166, u167, u168, u169, u170, u171, u172, u173, u174, u175, u176, u177, u178, u179, u180, u181, u182, u183, u184, u185, u186, u187, u188, u189, u190, u191, u192, u193, u194, u195, u196, u197, u198, u199, u200, u201, u202, u203, u204, u205, u206, u207, u208, u209, u210, u211, u212, u213, u214, u215, u216, u217, u218, u219, u220, u221, u222, u223, u224, u225, u226, u227, u228, u229, u230, u231, u232, u233, u234, u235, u236, u237, u238, u239, u240, u241, u242, u243, u244, u245, u246, u247, u248, u249, u250, u251, u252, u253, u254, u255, u256, u257, u258, u259, u260, u261, u262, u263, u264, u265, u266, u267, u268, u269, u270, u271, u272, u273, u274, u275, u276, u277, u278, u279, u280, u281, u282, u283, u284, u285, u286, u287, u288, u289, u290, u291, u292, u293, u294, u295, u296, u297, u298, u299, u300, u301, u302, u303, u304, u305, u306, u307, u308, u309, u310, u311, u312, u313, u314, u315, u316, u317, u318, u319, u320, u321, u322, u323, u324, u325, u326, u327, u328, u329, u330, u331, u332, u333, u334, u335, u336, u337, u338, u339, u340, u341, u342, u343, u344, u345, u346, u347, u348, u349, u350, u351, u352, u353, u354, u355, u356, u357, u358, u359, u360, u361, u362, u363, u364, u365, u366, u367, u368, u369, u370, u371, u372, u373, u374, u375, u376, u377, u378, u379, u380, u381, u382, u383, u384, u385, u386, u387, u388, u389, u390, u391, u392, u393, u394, u395, u396, u397, u398, u399, u400, u401, u402, u403, u404, u405, u406, u407, u408, u409, u410, u411, u412, u413, u414, u415, u416, u417, u418, u419, u420, u421, u422, u423, u424, u425, u426, u427, u428, u429, u430, u431, u432, u433, u434, u435, u436, u437, u438, u439, u440, u441, u442, u443, u444, u445, u446, u447, u448, u449, u450, u451, u452, u453, u454, u455, u456, u457, u458, u459, u460, u461, u462, u463, u464, u465, u466, u467, u468, u469, u470, u471, u472, u473, u474, u475, u476, u477, u478, u479, u480, u481, u482, u483, u484, u485, u486, u487, u488, u489, u490, u491, u492, u493, u494, u495, u496, u497, u498, u499, u500, u501, u502, u503, u504, u505, u506], []⟩ W := by
  conv => arg 2; whnf
  go_wp2_with fail
  go_loopw [10] (fun i wr => ∃ j : Nat, i = .int .i64 (j : Int) ∧ j ≤ 5 ∧ Hid (Sep w (chP b p k 256 0 (cqi j) [bx Bp (.cells #[.int .i64 4, .int .i64 1] 34), bx Bm (layO (.slice (some ⟨Bs, 0, none⟩) 1 1) mainL), rw_ 0 3 1 (.slice (some ⟨Bs, 0, none⟩) 1 1) 1 (icells mainL.slots), rw_ 0 3 1 (.slice aw 53 cw) 53 (icells wideL.slots), bx Bw (layO (.slice aw 53 cw) wideL)]) wr)) (fun i _ => 5 - (intOf i).toNat)
  case atStart => exact ⟨0, rfl, Nat.zero_le _, H0⟩
  case round =>
    obtain ⟨j, rfl, hj, HRr⟩ := hrel
    clear H0
    by_cases hlt : j < 5
    · have hlt2 : decide ((j : Int) < 5) = true := decide_eq_true (by omega)
      obtain ⟨r1, r2, r3, o1, o2, o3⟩ := rnd_at hlt
      have HQ := Hid.mk (And.intro r1 (And.intro r2 (And.intro r3 (And.intro o1 (And.intro o2 o3)))))
      clear r1 r2 r3 o1 o2 o3
      have HC1 := Hid.mk (num_any (j : Int) wr)
      go_wp2_with fail
      refine HC1.out.mono ?_
      rintro e w1 ⟨hb, rfl⟩
      have H1 := Hid.mk (Sep.keep HRr.out hb)
      clear hb HC1 HRr 
      have HC2 := Hid.mk (cpush_eq H1.out HQ.out.2.2.2.1 HQ.out.1)
      go_wp2_with fail
      refine HC2.out.mono ?_
      rintro e w2 ⟨h, rfl⟩
      have H2 := Hid.mk h
      clear h HC2 H1 
      have c0 := Sep.cell H2.out (b := Bp) (j := 0) (List.Mem.tail _ (List.Mem.tail _ (List.Mem.tail _ (List.Mem.head _)))) rfl
      have c1 := Sep.cell H2.out (b := Bp) (j := 1) (List.Mem.tail _ (List.Mem.tail _ (List.Mem.tail _ (List.Mem.head _)))) rfl
      have HC3 := Hid.mk (cpush_eq H2.out HQ.out.2.2.2.2.1 HQ.out.2.1)
      go_wp2_with fail
      refine HC3.out.mono ?_
      rintro e w3 ⟨h, rfl⟩
      have H3 := Hid.mk h
      clear h HC3 H2 c0 c1
      obtain ⟨d0, d1, d2, d3⟩ := layO_cells (q := Bw) (v := .slice aw 53 cw) (f := wideL) H3.out (List.Mem.tail _ (List.Mem.tail _ (List.Mem.tail _ (List.Mem.tail _ (List.Mem.tail _ (List.Mem.tail _ (List.Mem.tail _ (List.Mem.head _))))))))
      have HC4 := Hid.mk (ccall_row (v := .slice aw 53 cw) (l := wideL) (n := 53) H3.out HQ.out.2.2.2.2.2 (List.Mem.tail _ (List.Mem.tail _ (List.Mem.tail _ (List.Mem.head _)))) rfl (by decide) HQ.out.2.2.1)
      go_wp2_with fail
      refine HC4.out.mono ?_
      rintro e w4 ⟨h, rfl⟩
      have H4 := Hid.mk h
      clear h HC4 H3 d0 d1 d2 d3
      go_wp2_with fail
      exact ⟨⟨j + 1, by go_num, by omega, H4⟩, by simp only [intOf]; omega⟩
    · obtain rfl : j = 5 := by omega
      have hlt2 : decide (((5 : Nat) : Int) < 5) = false := by decide
      go_wp2_with fail
      exact hK.out _ _ _ _ _ _ _ _ _ _ _ _ _ _ _ _ _ _ _ _ _ _ _ _ _ HRr.out
end Go.Proofs.Ytpfnnmcokbolhaa
/- ChainNames' walk: the chain. -/
namespace Go.Proofs.Ytpfnnmcokbolhaa
open Go.RowKit
set_option pp.deepTerms true
attribute [local go_sem ↓] Go.wp_at_zero Go.wp_at_succ
set_option maxRecDepth 100000 in
set_option maxHeartbeats 4000000 in
theorem cnB {w W : World} {Bw cw : Nat} {aw : Option Addr} {u0 u2 u3 u4 u5 u6 u7 u8 u9 u10 u11 u12 u13 u14 u15 u16 u17 u18 u19 u20 u21 u22 u23 u24 u25 u26 u27 u28 u29 u30 u31 u32 u33 u34 u35 u36 u37 u38 u39 u40 u41 u42 u43 u44 u45 u46 u47 u48 u49 u50 u51 u52 u53 u54 u55 u56 u57 u58 u59 u60 u61 u62 u63 u64 u65 u66 u67 u68 u69 u70 u71 u72 u73 u74 u75 u76 u77 u78 u79 u80 u81 u82 u83 u84 u85 u86 u87 u88 u89 u90 u91 u92 u93 u94 u95 u96 u97 u98 u99 u100 u101 u102 u103 u104 u105 u106 u107 u108 u109 u110 u111 u112 u113 u114 u115 u116 u117 u118 u119 u120 u121 u122 u123 u124 u125 u126 u127 u128 u129 u130 u131 u132 u133 u134 u135 u136 u137 u138 u139 u140 u141 u142 u143 u144 u145 u146 u147 u148 u149 u150 u151 u152 u153 u154 u155 u156 u157 u158 u159 u160 u161 u162 u163 u164 u165 u166 u167 u168 u169 u170 u171 u172 u173 u174 u175 u176 u177 u178 u179 u180 u181 u182 u183 u184 u185 u186 u187 u188 u189 u190 u191 u192 u193 u194 u195 u196 u197 u198 u199 u200 u201 u202 u203 u204 u205 u206 u207 u208 u209 u210 u211 u212 u213 u214 u215 u216 u217 u218 u219 u220 u221 u222 u223 u224 u225 u226 u227 u228 u229 u230 u231 u232 u233 u234 u235 u236 u237 u238 u239 u240 u241 u242 u243 u244 u245 u246 u247 u248 u249 u250 u251 u252 u253 u254 u255 u256 u257 u258 u259 u260 u261 u262 u263 u264 u265 u266 u267 u268 u269 u270 u271 u272 u273 u274 u275 u276 u277 u278 u279 u280 u281 u282 u283 u284 u285 u286 u287 u288 u289 u290 u291 u292 u293 u294 u295 u296 u297 u298 u299 u300 u301 u302 u303 u304 u305 u306 u307 u308 u309 u310 u311 u312 u313 u314 u315 u316 u317 u318 u319 u320 u321 u322 u323 u324 u325 u326 u327 u328 u329 u330 u331 u332 u333 u334 u335 u336 u337 u338 u339 u340 u341 u342 u343 u344 u345 u346 u347 u348 u349 u350 u351 u352 u353 u354 u355 u356 u357 u358 u359 u360 u361 u362 u363 u364 u365 u366 u367 u368 u369 u370 u371 u372 u373 u374 u375 u376 u377 u378 u379 u380 u381 u382 u383 u384 u385 u386 u387 u388 u389 u390 u391 u392 u393 u394 u395 u396 u397 u398 u399 u400 u401 u402 u403 u404 u405 u406 u407 u408 u409 u410 u411 u412 u413 u414 u415 u416 u417 u418 u419 u420 u421 u422 u423 u424 u425 u426 u427 u428 u429 u430 u431 u432 u433 u434 u435 u436 u437 u438 u439 u440 u441 u442 u443 u444 u445 u446 u447 u448 u449 u450 u451 u452 u453 u454 u455 u456 u457 u458 u459 u460 u461 u462 u463 u464 u465 u466 u467 u468 u469 u470 u471 u472 u473 u474 u475 u476 u477 u478 u479 u480 u481 u482 u483 u484 u485 u486 u487 u488 u489 u490 u491 u492 u493 u494 u495 u496 u497 u498 u499 u500 u501 u502 u503 u504 u505 u506 : Value} (H0 : Hid (Sep w [rw_ 0 3 1 (.slice aw 53 cw) 53 (icells wideL.slots), bx Bw (layO (.slice aw 53 cw) wideL)] W)) :
    Code.wp Try.prog (pieceOf (Try.f4.body.getD .skip) [1, 1, 1]) (bodyPost Try.prog Try.f4 (fun e w' => e = .returned (.bool true) ∧ Below w.heap.size w w')) ⟨#[u0, .pointer (some ⟨Bw, 0, none⟩), u2, u3, u4, u5, u6, u7, u8, u9, u10, u11, u12, u13, u14, u15, u16, u17, u18, u19, u20, u21, u22, u23, u24, u25, u26, u27, u28, u29, u30, u31, u32, u33, u34, u35, u36, u37, u38, u39, u40, u41, u42, u43, u44, u45, u46, u47, u48, u49, u50, u51, u52, u53, u54, u55, u56, u57, u58, u59, u60, u61, u62, u63, u64, u65, u66, u67, u68, u69, u70, u71, u72, u73, u74, u75, u76, u77, u78, u79, u80, u81, u82, u83, u84, u85, u86, u87, u88, u89, u90, u91, u92, u93, u94, u95, u96, u97, u98, u99, u100, u101, u102, u103, u104, u105, u106, u107, u108, u109, u110, u111, u112, u113, u114, u115, u116, u117, u118, u119, u120, u121, u122, u123, u124, u125, u126, u127, u128, u129, u130, u131, u132, u133, u134, u135, u136, u137, u138, u139, u140, u141, u142, u143, u144, u145, u146, u147, u148, u149, u150, u151, u152, u153, u154, u155, u156, u157, u158, u159, u160, u161, u162, u163, u164, u165, u166, u167, u168, u169, u170, u171, u172, u173, u174, u175, u176, u177, u178, u179, u180, u181, u182, u183, u184, u185, u186, u187, u188, u189, u190, u191, u192, u193, u194, u195, u196, u197, u198, u199, u200, u201, u202, u203, u204, u205, u206, u207, u208, u209, u210, u211, u212, u213, u214, u215, u216, u217, u218, u219, u220, u221, u222, u223, u224, u225, u226, u227, u228, u229, u230, u231, u232, u233, u234, u235, u236, u237, u238, u239, u240, u241, u242, u243, u244, u245, u246, u247, u248, u249, u250, u251, u252, u253, u254, u255, u256, u257, u258, u259, u260, u261, u262, u263, u264, u265, u266, u267, u268, u269, u270, u271, u272, u273, u274, u275, u276, u277, u278, u279, u280, u281, u282, u283, u284, u285, u286, u287, u288, u289, u290, u291, u292, u293, u294, u295, u296, u297, u298, u299, u300, u301, u302, u303, u304, u305, u306, u307, u308, u309, u310, u311, u312, u313, u314, u315, u316, u317, u318, u319, u320, u321, u322, u323, u324, u325, u326, u327, u328, u329, u330, u331, u332, u333, u334, u335, u336, u337, u338, u339, u340, u341, u342, u343, u344, u345, u346, u347, u348, u349, u350, u351, u352, u353, u354, u355, u356, u357, u358, u359, u360, u361, u362, u363, u364, u365, u366, u367, u368, u369, u370, u371, u372, u373, u374, u375, u376, u377, u378, u379, u380, u381, u382, u383, u384, u385, u386, u387, u388, u389, u390, u391, u392, u393, u394, u395, u396, u397, u398, u399, u400, u401, u402, u403, u404, u405, u406, u407, u408, u409, u410, u411, u412, u413, u414, u415, u416, u417, u418, u419, u420, u421, u422, u423, u424, u425, u426, u427, u428, u429, u430, u431, u432, u433, u434, u435, u436, u437, u438, u439, u440, u441, u442, u443, u444, u445, u446, u447, u448, u449, u450, u451, u452, u453, u454, u455, u456, u457, u458, u459, u460, u461, u462, u463, u464, u465, u466, u467, u468, u469, u470, u471, u472, u473, u474, u475, u476, u477, u478, u479, u480, u481, u482, u483, u484, u485, u486, u487, u488, u489, u490, u491, u492, u493, u494, u495, u496, u497, u498, u499, u500, u501, u502, u503, u504, u505, u506], []⟩ W := by
  conv => arg 2; whnf
  have h := H0.out.space
  obtain ⟨p, hp⟩ : ∃ p, W.heap.size = p := ⟨_, rfl⟩
  obtain ⟨X0, hX0⟩ : ∃ X0, W.alloc (.cells #[.slice none 0 0, .int .i64 0] 50) = X0 := ⟨_, rfl⟩
  have HXB := Hid.mk (And.intro hX0 hp)
  rw [hX0, hp] at h
  have HN := Hid.mk (cnew_ok (sz := 256) (ca := 0) h (by decide))
  clear h hX0 hp H0
  go_upto_region 7 with (fail)
  rw [HXB.out.1, HXB.out.2]
  go_wp2_with fail
  refine HN.out.mono ?_
  rintro e wn ⟨b, k, h, rfl⟩
  have h : Sep w (chP b p k 256 0 cq0 [rw_ 0 3 1 (.slice aw 53 cw) 53 (icells wideL.slots), bx Bw (layO (.slice aw 53 cw) wideL)]) wn := h
  have h := chP_in (Sep.lit h #[.int .i64 1] 3 (by decide))
  obtain ⟨Bs, hBs⟩ : ∃ B, wn.heap.size = B := ⟨_, rfl⟩
  obtain ⟨X1, hX1⟩ : ∃ X, wn.alloc (.cells #[.int .i64 1] 3) = X := ⟨_, rfl⟩
  rw [hBs, hX1] at h
  have h : Sep w (chP b p k 256 0 cq0 [rw_ 0 3 1 (.slice (some ⟨Bs, 0, none⟩) 1 1) 1 (icells mainL.slots), rw_ 0 3 1 (.slice aw 53 cw) 53 (icells wideL.slots), bx Bw (layO (.slice aw 53 cw) wideL)]) X1 := h
  have h := chP_in (Sep.alloc h (layO (.slice (some ⟨Bs, 0, none⟩) 1 1) mainL))
  obtain ⟨Bm, hBm⟩ : ∃ B, X1.heap.size = B := ⟨_, rfl⟩
  obtain ⟨X2, hX2⟩ : ∃ X, X1.alloc (layO (.slice (some ⟨Bs, 0, none⟩) 1 1) mainL) = X := ⟨_, rfl⟩
  rw [hBm, hX2] at h
  have hX2 : X1.alloc (.cells #[.slice (some ⟨Bs, 0, none⟩) 1 1, .int .i64 0, .int .i64 0, .int .i64 64] 31) = X2 := hX2
  have hsz : Bs + 1 = Bm := by rw [← hBm, ← hX1, ← hBs]; simp
  have HXC := Hid.mk (And.intro hX1 (And.intro hBs (And.intro hX2 (And.intro hBm hsz))))
  have Hq := Hid.mk h
  clear h hX1 hBs hX2 hBm hsz HN
  go_upto_region 11 with (fail)
  try rw [HXC.out.1]
  try rw [HXC.out.2.1]
  try rw [HXC.out.2.2.2.2]
  try rw [HXC.out.2.2.1]
  try rw [HXC.out.2.2.2.1]
  obtain ⟨d0, d1, d2, d3⟩ := layO_cells (q := Bm) (v := .slice (some ⟨Bs, 0, none⟩) 1 1) (f := mainL) Hq.out (List.Mem.tail _ (List.Mem.tail _ (List.Mem.tail _ (List.Mem.head _))))
  have HC1 := Hid.mk (crun_row (v := .slice (some ⟨Bs, 0, none⟩) 1 1) (l := mainL) (n := 1) Hq.out (cn_ok (List.Mem.head _)) (List.Mem.tail _ (List.Mem.head _)) rfl (by decide) (fst0 cn_run))
  go_wp2_with fail
  refine HC1.out.mono ?_
  rintro e w1 ⟨h, rfl⟩
  have H1 := Hid.mk h
  clear h HC1 Hq d0 d1 d2 d3
  have HC2 := Hid.mk (caddr_eq H1.out (cn_ok (List.Mem.tail _ (List.Mem.head _))) cn_ne.2.2.2.2.2 cn_addr)
  go_wp2_with fail
  refine HC2.out.mono ?_
  rintro e w2 ⟨h, rfl⟩
  have H2 := Hid.mk h
  clear h HC2 H1 
  have h := chP_in (Sep.alloc H2.out (.cells #[.int .i64 4, .int .i64 1] 34))
  have H3 := Hid.mk h
  clear h H2
  obtain ⟨Bp, hBp⟩ : ∃ B, w2.heap.size = B := ⟨_, rfl⟩
  rw [hBp] at H3
  have HBp := Hid.mk hBp
  clear hBp
  go_upto_block 2 with (fail)
  rw [HBp.out]
  refine cnB2 H3 (Hid.mk ?_)
  intro _ _ _ _ _ _ _ _ _ _ _ _ _ _ _ _ _ _ _ _ _ _ _ _ W' h
  apply_assumption
  exact cnC (Hid.mk (Sep.perm h (List.Perm.append_left [_, _, _] (show List.Perm [bx Bp (.cells #[.int .i64 4, .int .i64 1] 34), bx Bm (layO (.slice (some ⟨Bs, 0, none⟩) 1 1) mainL), rw_ 0 3 1 (.slice (some ⟨Bs, 0, none⟩) 1 1) 1 (icells mainL.slots), rw_ 0 3 1 (.slice aw 53 cw) 53 (icells wideL.slots), bx Bw (layO (.slice aw 53 cw) wideL)] [bx Bp (.cells #[.int .i64 4, .int .i64 1] 34), bx Bm (layO (.slice (some ⟨Bs, 0, none⟩) 1 1) mainL), rw_ 0 3 1 (.slice (some ⟨Bs, 0, none⟩) 1 1) 1 (icells mainL.slots), bx Bw (layO (.slice aw 53 cw) wideL), rw_ 0 3 1 (.slice aw 53 cw) 53 (icells wideL.slots)] from List.Perm.cons _ (List.Perm.cons _ (List.Perm.cons _ (List.Perm.swap _ _ _)))))))
end Go.Proofs.Ytpfnnmcokbolhaa
/- ChainNames' walk: its layout. -/
namespace Go.Proofs.Ytpfnnmcokbolhaa
open Go.RowKit
set_option pp.deepTerms true
attribute [local go_sem ↓] Go.wp_at_zero Go.wp_at_succ
theorem icells_snoc3 (j : Nat) : icells (4 :: 1 :: 2 :: List.replicate j 1) ++ [.int .i64 1] = icells (4 :: 1 :: 2 :: List.replicate (j + 1) 1) := by
  simp [icells, List.replicate_succ']
set_option maxRecDepth 100000 in
set_option maxHeartbeats 4000000 in
theorem cnA0 {w W : World} {Bw B0 : Nat}  {u0 u3 u4 u5 u6 u7 u8 u9 u10 u11 u12 u13 u14 u15 u16 u17 u18 u19 u20 u21 u22 u23 u24 u25 u26 u27 u28 u29 u30 u31 u32 u33 u34 u35 u36 u37 u38 u39 u40 u41 u42 u43 u44 u45 u46 u47 u48 u49 u50 u51 u52 u53 u54 u55 u56 u57 u58 u59 u60 u61 u62 u63 u64 u65 u66 u67 u68 u69 u70 u71 u72 u73 u74 u75 u76 u77 u78 u79 u80 u81 u82 u83 u84 u85 u86 u87 u88 u89 u90 u91 u92 u93 u94 u95 u96 u97 u98 u99 u100 u101 u102 u103 u104 u105 u106 u107 u108 u109 u110 u111 u112 u113 u114 u115 u116 u117 u118 u119 u120 u121 u122 u123 u124 u125 u126 u127 u128 u129 u130 u131 u132 u133 u134 u135 u136 u137 u138 u139 u140 u141 u142 u143 u144 u145 u146 u147 u148 u149 u150 u151 u152 u153 u154 u155 u156 u157 u158 u159 u160 u161 u162 u163 u164 u165 u166 u167 u168 u169 u170 u171 u172 u173 u174 u175 u176 u177 u178 u179 u180 u181 u182 u183 u184 u185 u186 u187 u188 u189 u190 u191 u192 u193 u194 u195 u196 u197 u198 u199 u200 u201 u202 u203 u204 u205 u206 u207 u208 u209 u210 u211 u212 u213 u214 u215 u216 u217 u218 u219 u220 u221 u222 u223 u224 u225 u226 u227 u228 u229 u230 u231 u232 u233 u234 u235 u236 u237 u238 u239 u240 u241 u242 u243 u244 u245 u246 u247 u248 u249 u250 u251 u252 u253 u254 u255 u256 u257 u258 u259 u260 u261 u262 u263 u264 u265 u266 u267 u268 u269 u270 u271 u272 u273 u274 u275 u276 u277 u278 u279 u280 u281 u282 u283 u284 u285 u286 u287 u288 u289 u290 u291 u292 u293 u294 u295 u296 u297 u298 u299 u300 u301 u302 u303 u304 u305 u306 u307 u308 u309 u310 u311 u312 u313 u314 u315 u316 u317 u318 u319 u320 u321 u322 u323 u324 u325 u326 u327 u328 u329 u330 u331 u332 u333 u334 u335 u336 u337 u338 u339 u340 u341 u342 u343 u344 u345 u346 u347 u348 u349 u350 u351 u352 u353 u354 u355 u356 u357 u358 u359 u360 u361 u362 u363 u364 u365 u366 u367 u368 u369 u370 u371 u372 u373 u374 u375 u376 u377 u378 u379 u380 u381 u382 u383 u384 u385 u386 u387 u388 u389 u390 u391 u392 u393 u394 u395 u396 u397 u398 u399 u400 u401 u402 u403 u404 u405 u406 u407 u408 u409 u410 u411 u412 u413 u414 u415 u416 u417 u418 u419 u420 u421 u422 u423 u424 u425 u426 u427 u428 u429 u430 u431 u432 u433 u434 u435 u436 u437 u438 u439 u440 u441 u442 u443 u444 u445 u446 u447 u448 u449 u450 u451 u452 u453 u454 u455 u456 u457 u458 u459 u460 u461 u462 u463 u464 u465 u466 u467 u468 u469 u470 u471 u472 u473 u474 u475 u476 u477 u478 u479 u480 u481 u482 u483 u484 u485 u486 u487 u488 u489 u490 u491 u492 u493 u494 u495 u496 u497 u498 u499 u500 u501 u502 u503 u504 u505 u506 : Value} {K : Act → World → Prop} {Q : Exit → Act → World → Prop} (H0 : Hid (Sep w [rw_ 0 3 1 (.slice (some ⟨B0, 0, none⟩) 3 3) (3 + 0) (icells (4 :: 1 :: 2 :: List.replicate 0 1)), bx Bw (layO (.slice (some ⟨B0, 0, none⟩) 3 3) ⟨[], 1, 2, 64⟩)] W))
    (hK : Hid (∀ (c2 c69 c70 c71 c72 c73 c74 c75 c76 c77 : Value) (W' : World) (aw : Option Addr) (cw : Nat), Sep w [rw_ 0 3 1 (.slice aw 53 cw) 53 (icells wideL.slots), bx Bw (layO (.slice aw 53 cw) wideL)] W' → K ⟨#[u0, .pointer (some ⟨Bw, 0, none⟩), c2, u3, u4, u5, u6, u7, u8, u9, u10, u11, u12, u13, u14, u15, u16, u17, u18, u19, u20, u21, u22, u23, u24, u25, u26, u27, u28, u29, u30, u31, u32, u33, u34, u35, u36, u37, u38, u39, u40, u41, u42, u43, u44, u45, u46, u47, u48, u49, u50, u51, u52, u53, u54, u55, u56, u57, u58, u59, u60, u61, u62, u63, u64, u65, u66, u67, u68, c69, c70, c71, c72, c73, c74, c75, c76, c77, u78, u79, u80, u81, u82, u83, u84, u85, u86, u87, u88, u89, u90, u91, u92, u93, u94, u95, u96, u97, u98, u99, u100, u101, u102, u103, u104, u105, u106, u107, u108, u109, u110, u111, u112, u113, u114, u115, u116, u117, u118, u119, u120, u121, u122, u123, u124, u125, u126, u127, u128, u129, u130, u131, u132, u133, u134, u135, u136, u137, u138, u139, u140, u141, u142, u143, u144, u145, u146, u147, u148, u149, u150, u151, u152, u153, u154, u155, u156, u157, u158, u159, u160, u161, u162, u163, u164, u165, u166, u167, u168, u169, u170, u171, u172, u173, u174, u175, u176, u177, u178, u179, u180, u181, u182, u183, u184, u185, u186, u187, u188, u189, u190, u191, u192, u193, u194, u195, u196, u197, u198, u199, u200, u201, u202, u203, u204, u205, u206, u207, u208, u209, u210, u211, u212, u213, u214, u215, u216, u217, u218, u219, u220, u221, u222, u223, u224, u225, u226, u227, u228, u229, u230, u231, u232, u233, u234, u235, u236, u237, u238, u239, u240, u241, u242, u243, u244, u245, u246, u247, u248, u249, u250, u251, u252, u253, u254, u255, u256, u257, u258, u259, u260, u261, u262, u263, u264, u265, u266, u267, u268, u269, u270, u271, u272, u273, u274, u275, u276, u277, u278, u279, u280, u281, u282, u283, u284, u285, u286, u287, u288, u289, u290, u291, u292, u293, u294, u295, u296, u297, u298, u299, u300, u301, u302, u303, u304, u305, u306, u307, u308, u309, u310, u311, u312, u313, u314, u315, u316, u317, u318, u319, u320, u321, u322, u323, u324, u325, u326, u327, u328, u329, u330, u331, u332, u333, u334, u335, u336, u337, u338, u339, u340, u341, u342, u343, u344, u345, u346, u347, u348, u349, u350, u351, u352, u353, u354, u355, u356, u357, u358, u359, u360, u361, u362, u363, u364, u365, u366, u367, u368, u369, u370, u371, u372, u373, u374, u375, u376, u377, u378, u379, u380, u381, u382, u383, u384, u385, u386, u387, u388, u389, u390, u391, u392, u393, u394, u395, u396, u397, u398, u399, u400, u401, u402, u403, u404, u405, u406, u407, u408, u409, u410, u411, u412, u413, u414, u415, u416, u417, u418, u419, u420, u421, u422, u423, u424, u425, u426, u427, u428, u429, u430, u431, u432, u433, u434, u435, u436, u437, u438, u439, u440, u441, u442, u443, u444, u445, u446, u447, u448, u449, u450, u451, u452, u453, u454, u455, u456, u457, u458, u459, u460, u461, u462, u463, u464, u465, u466, u467, u468, u469, u470, u471, u472, u473, u474, u475, u476, u477, u478, u479, u480, u481, u482, u483, u484, u485, u486, u487, u488, u489, u490, u491, u492, u493, u494, u495, u496, u497, u498, u499, u500, u501, u502, u503, u504, u505, u506], []⟩ W')) :
    Code.wp Try.prog (pieceOf (Try.f4.body.getD .skip) [1, 1, 0, 1]) (Exit.then K Q) ⟨#[u0, .pointer (some ⟨Bw, 0, none⟩), .int .i64 0, u3, u4, u5, u6, u7, u8, u9, u10, u11, u12, u13, u14, u15, u16, u17, u18, u19, u20, u21, u22, u23, u24, u25, u26, u27, u28, u29, u30, u31, u32, u33, u34, u35, u36, u37, u38, u39, u40, u41, u42, u43, u44, u45, u46, u47, u48, u49, u50, u51, u52, u53, u54, u55, u56, u57, u58, u59, u60, u61, u62, u63, u64, u65, u66, u67, u68, u69, u70, u71, u72, u73, u74, u75, u76, u77, u78, u79, u80, u81, u82, u83, u84, u85, u86, u87, u88, u89, u90, u91, u92, u93, u94, u95, u96, u97, u98, u99, u100, u101, u102, u103, u104, u105, u106, u107, u108, u109, u110, u111, u112, u113, u114, u115, u116, u117, u118, u119, u120, u121, u122, u123, u124, u125, u126, u127, u128, u129, u130, u131, u132, u133, u134, u135, u136, u137, u138, u139, u140, u141, u142, u143, u144, u145, u146, u147, u148, u149, u150, u151, u152, u153, u154, u155, u156, u157, u158, u159, u160, u161, u162, u163, u164, u165, u166, u167, u168, u169, u170, u171, u172, u173, u174, u175, u176, u177, u178, u179, u180, u181, u182, u183, u184, u185, u186, u187, u188, u189, u190, u191, u192, u193, u194, u195, u196, u197, u198, u199, u200, u201, u202, u203, u204, u205, u206, u207, u208, u209, u210, u211, u212, u213, u214, u215, u216, u217, u218, u219, u220, u221, u222, u223, u224, u225, u226, u227, u228, u229, u230, u231, u232, u233, u234, u235, u236, u237, u238, u239, u240, u241, u242, u243, u244, u245, u246, u247, u248, u249, u250, u251, u252, u253, u254, u255, u256, u257, u258, u259, u260, u261, u262, u263, u264, u265, u266, u267, u268, u269, u270, u271, u272, u273, u274, u275, u276, u277, u278, u279, u280, u281, u282, u283, u284, u285, u286, u287, u288, u289, u290, u291, u292, u293, u294, u295, u296, u297, u298, u299, u300, u301, u302, u303, u304, u305, u306, u307, u308, u309, u310, u311, u312, u313, u314, u315, u316, u317, u318, u319, u320, u321, u322, u323, u324, u325, u326, u327, u328, u329, u330, u331, u332, u333, u334, u335, u336, u337, u338, u339, u340, u341, u342, u343, u344, u345, u346, u347, u348, u349, u350, u351, u352, u353, u354, u355, u356, u357, u358, u359, u360, u361, u362, u363, u364, u365, u366, u367, u368, u369, u370, u371, u372, u373, u374, u375, u376, u377, u378, u379, u380, u381, u382, u383, u384, u385, u386, u387, u388, u389, u390, u391, u392, u393, u394, u395, u396, u397, u398, u399, u400, u401, u402, u403, u404, u405, u406, u407, u408, u409, u410, u411, u412, u413, u414, u415, u416, u417, u418, u419, u420, u421, u422, u423, u424, u425, u426, u427, u428, u429, u430, u431, u432, u433, u434, u435, u436, u437, u438, u439, u440, u441, u442, u443, u444, u445, u446, u447, u448, u449, u450, u451, u452, u453, u454, u455, u456, u457, u458, u459, u460, u461, u462, u463, u464, u465, u466, u467, u468, u469, u470, u471, u472, u473, u474, u475, u476, u477, u478, u479, u480, u481, u482, u483, u484, u485, u486, u487, u488, u489, u490, u491, u492, u493, u494, u495, u496, u497, u498, u499, u500, u501, u502, u503, u504, u505, u506], []⟩ W := by
  conv => arg 2; whnf
  obtain ⟨i0, hi, hz0, hz1, hz2⟩ := info_parts infoI
  go_wp2_with fail
  go_loopw [2] (fun i wr => ∃ (j : Nat) (v : Value), i = .int .i64 (j : Int) ∧ j ≤ 50 ∧ Hid (Sep w [rw_ 0 3 1 v (3 + j) (icells (4 :: 1 :: 2 :: List.replicate j 1)), bx Bw (layO v ⟨[], 1, 2, 64⟩)] wr)) (fun i _ => 50 - (intOf i).toNat)
  case atStart => exact ⟨0, _, rfl, Nat.zero_le _, H0⟩
  case round =>
    obtain ⟨j, v, rfl, hj, hs⟩ := hrel
    clear H0
    have hrow := hs.out.owns (base := 0) (T := 3) (n := 1) (v := v) (m := 3 + j) (xs := icells (4 :: 1 :: 2 :: List.replicate j 1)) (List.Mem.head _)
    obtain ⟨ao, c, rfl⟩ := own_shape hrow
    obtain ⟨d0, d1, d2, d3⟩ := layO_cells (q := Bw) (v := .slice ao (3 + j) c) (f := ⟨[], 1, 2, 64⟩) hs.out (List.Mem.tail _ (List.Mem.head _))
    by_cases hlt : j < 50
    · have z : decide ((j : Int) < 50) = true := decide_eq_true (by omega)
      go_wp2_with (at_builtin; refine wpList_append_lies _ rfl _ _ 29 rfl 0 3 i0 (.int .i64 0) 1 8 Try.underlying29 hi hz0 hz1 hz2 rfl (by decide) _ _ _ rfl (hrow.alloc _) _ 1 1 [.int .i64 1] rfl rfl (one_new1 _ _ _) ?c3 (by omega) ?c4 ?c5 (Nat.zero_le _) _ rfl ?_)
      case c3 => simp [Value.oneCell']
      case c4 => unfold maxLen; omega
      case c5 => omega
      intro g2 cap2 w2 hown2 hg2 hat2 hlt2
      have h2 := Sep.grown (ob := .cells #[.int .i64 1] 3) hs.out (v' := .slice (some ⟨g2, 0, none⟩) (3 + j + 1) cap2) (m' := 3 + j + 1) (xs' := icells (4 :: 1 :: 2 :: List.replicate j 1) ++ [.int .i64 1]) hown2 hg2 (hat2.elim (fun q => .inl (by rw [q]; rfl)) (fun q => .inr (by rw [q]; rfl)))
      rw [icells_snoc3] at h2
      obtain ⟨e0, -, -, -⟩ := layO_cells (q := Bw) (v := .slice ao (3 + j) c) (f := ⟨[], 1, 2, 64⟩) h2 (List.Mem.tail _ (List.Mem.head _))
      have z0 := Sep.free (b := Bw) (cs := #[.slice ao (3 + j) c, .int .i64 1, .int .i64 2, .int .i64 64]) (T := 31) h2 (List.Mem.tail _ (List.Mem.head _)) 0
      have h3 := Sep.store (h2.perm (List.Perm.swap _ _ _)) 0 (.slice (some ⟨g2, 0, none⟩) (3 + j + 1) cap2)
      have H3 := Hid.mk (h3.perm (List.Perm.swap _ _ _))
      clear hs hrow hown2 hg2 hat2 hlt2 h2 h3
      go_wp2_with fail
      exact ⟨⟨j + 1, _, by go_num, by omega, H3⟩, by simp only [intOf]; omega⟩
    · obtain rfl : j = 50 := by omega
      have z : decide (((50 : Nat) : Int) < 50) = false := by decide
      have HF : Hid (Sep w [rw_ 0 3 1 (.slice ao 53 c) 53 (icells wideL.slots), bx Bw (layO (.slice ao 53 c) wideL)] wr) := hs
      clear hs hrow
      go_wp2_with fail
      exact hK.out _ _ _ _ _ _ _ _ _ _ _ _ _ HF.out
end Go.Proofs.Ytpfnnmcokbolhaa
/- ChainNames' walk: its head; the whole. -/
namespace Go.Proofs.Ytpfnnmcokbolhaa
open Go.RowKit
set_option pp.deepTerms true
attribute [local go_sem ↓] Go.wp_at_zero Go.wp_at_succ
set_option maxRecDepth 100000 in
set_option maxHeartbeats 4000000 in
theorem names25_any (w : World) : Calls Try.prog 4 #[] w fun e w' => e = .returned (.bool true) ∧ Below w.heap.size w w' := by
  obtain ⟨i0, hi, hz0, hz1, hz2⟩ := info_parts infoI
  have h := Sep.lit (Sep.nil (Below.refl w.heap.size w)) #[.int .i64 4, .int .i64 1, .int .i64 2] 3 (by decide)
  obtain ⟨B0, hB0⟩ : ∃ B, w.heap.size = B := ⟨_, rfl⟩
  obtain ⟨X0, hX0⟩ : ∃ X, w.alloc (.cells #[.int .i64 4, .int .i64 1, .int .i64 2] 3) = X := ⟨_, rfl⟩
  rw [hX0, hB0] at h
  have h : Sep w [rw_ 0 3 1 (.slice (some ⟨B0, 0, none⟩) 3 3) (3 + 0) (icells (4 :: 1 :: 2 :: List.replicate 0 1))] X0 := h
  have h := Sep.perm (Sep.alloc h (layO (.slice (some ⟨B0, 0, none⟩) 3 3) ⟨[], 1, 2, 64⟩)) (List.Perm.swap _ _ _)
  obtain ⟨B1, hB1⟩ : ∃ B, X0.heap.size = B := ⟨_, rfl⟩
  obtain ⟨X1, hX1⟩ : ∃ X, X0.alloc (layO (.slice (some ⟨B0, 0, none⟩) 3 3) ⟨[], 1, 2, 64⟩) = X := ⟨_, rfl⟩
  rw [hX1, hB1] at h
  have hX1 : X0.alloc (.cells #[.slice (some ⟨B0, 0, none⟩) 3 3, .int .i64 1, .int .i64 2, .int .i64 64] 31) = X1 := hX1
  have hsz : B0 + 1 = B1 := by rw [← hB1, ← hX0, ← hB0]; simp
  have HX := Hid.mk (And.intro hX0 (And.intro hB0 (And.intro hX1 (And.intro hB1 hsz))))
  have H0 := Hid.mk h
  clear h hX0 hB0 hX1 hB1 hsz
  go_enter Try.func4, Try.ntmps4
  go_upto_region 2 with (fail)
  try rw [HX.out.1]
  try rw [HX.out.2.1]
  try rw [HX.out.2.2.2.2]
  try rw [HX.out.2.2.1]
  try rw [HX.out.2.2.2.1]
  go_upto_block 0 with (fail)
  refine cnA0 H0 (Hid.mk ?_)
  intro _ _ _ _ _ _ _ _ _ _ W' aw cw h
  apply_assumption
  exact cnB (Hid.mk h)
end Go.Proofs.Ytpfnnmcokbolhaa
